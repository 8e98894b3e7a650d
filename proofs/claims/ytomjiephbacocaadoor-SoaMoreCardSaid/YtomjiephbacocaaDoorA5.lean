/-
  Package comp: Read.
  comp.Read at any place; the document's Read of layer 4.
  name.May.
  comp.Table: a map in a field behind a pointer; which blocks a call on a table may turn.
  comp.Table.Put.
  Small laws on bytes and tables that walks of several chapters use.
  Rows of a law's own beside a table.
  The own table of a law, and what was put by it.
-/
import Derived.Test.YtomjiephbacocaaDoorA4
import Derived.Test.YtomjiephbacocaaDoorA3
import Derived.Test.YtomjiephbacocaaDoorA2
import Derived.Deep.AppendLies
import Derived.Test.YtomjiephbacocaaDoorA1
import Derived.Maps.OwnSet
import Derived.WalkKit
import Derived.Maps.AppendAt
namespace Go.Proofs.YtomjiephbacocaaDoor
open Go.RowKit

theorem byte_ok (b : Nat) (s : ByteArray) (p : Nat) (w : World) (h : Cur w b s p) (he : Et w) (hp : p + 1 ≤ s.size) (hs : s.size ≤ maxLen) : Calls Tryd.prog 65 #[.pointer (some ⟨b, 0, none⟩)] w fun e w' => e = .returned (.tuple #[.int .u8 (bt s p), .int .i64 0]) ∧ Cur w' b s (p + 1) ∧ w.grownBy w' (some b) := by
  have e := byte_any b s p w h he (by omega) hs
  rw [rdV_ok hp, rdE_ok hp, rdP_ok hp, bt_num s p hp] at e
  exact e
theorem byte_short (b : Nat) (s : ByteArray) (p : Nat) (w : World) (h : Cur w b s p) (he : Et w) (hp : p ≤ s.size) (hq : s.size < p + 1) (hs : s.size ≤ maxLen) : Calls Tryd.prog 65 #[.pointer (some ⟨b, 0, none⟩)] w fun e w' => e = .returned (.tuple #[.int .u8 0, .int .i64 4]) ∧ Cur w' b s p ∧ w.grownBy w' (some b) := by
  have e := byte_any b s p w h he hp hs
  rw [rdV_no hq, rdE_no hq, rdP_no hq] at e
  exact e

theorem lab_cons (s : ByteArray) (p : Nat) (h : p + 1 + bt s p ≤ s.size) : lab s p = [UInt8.ofNat (bt s p)] ++ (s.extract (p + 1) (p + 1 + bt s p)).data.toList := by
  have h' : p < s.data.toList.length := by rw [Array.length_toList]; show p < s.size; omega
  have e1 : UInt8.ofNat (bt s p) = s.data.toList[p] := by
    unfold bt
    rw [List.getElem?_eq_getElem h']
    simp
  unfold lab
  rw [Lib.extract_data, Lib.extract_data, e1]
  rw [show p + 1 + bt s p - p = bt s p + 1 by omega, show p + 1 + bt s p - (p + 1) = bt s p by omega, List.drop_eq_getElem_cons h', List.take_succ_cons]
  rfl
theorem i64_or_nat (a b : Nat) (ha : a < 4294967296) (hb : b < 4294967296) : bits .or .i64 (a : Int) (b : Int) = ((a ||| b : Nat) : Int) := by
  have hx : a ||| b < 2 ^ 32 := Nat.or_lt_two_pow (by omega) (by omega)
  show IntKind.i64.wrap ((BitVec.ofInt 64 (a : Int) ||| BitVec.ofInt 64 (b : Int)).toNat : Int) = _
  rw [BitVec.toNat_or, BitVec.toNat_ofInt, BitVec.toNat_ofInt, IntKind.wrap_i64]
  rw [show ((a : Int) % ((2 ^ 64 : Nat) : Int)).toNat = a by omega, show ((b : Int) % ((2 ^ 64 : Nat) : Int)).toNat = b by omega]
  omega
theorem ptr_bits (s : ByteArray) (p : Nat) (h : 192 ≤ bt s p) : bits .or .i64 ((bt s p : Int) % 64 * 256) (bt s (p + 1) : Int) = (ptr s p : Int) := by
  have h1 := bt_lt s p
  have h2 := bt_lt s (p + 1)
  unfold ptr
  rw [show ((bt s p : Int) % 64 * 256) = (((bt s p - 192) * 256 : Nat) : Int) by omega, i64_or_nat _ _ (by omega) (by omega), nat_join 8 _ _ (by omega) (by omega)]
/-- A slice's length. -/
def slLen : Value → Nat
  | .slice _ n _ => n
  | _ => 0
/-- What Read holds at its loop's head. -/
structure CrL (w : World) (bc : Nat) (s : ByteArray) (p : Nat) (v : Value) (out : List UInt8) (wr : World) : Prop where
  gr : w.grownBy wr none
  cur : Cur wr bc s p
  own : Own wr (bc + 1) v out
  lc : w.heap.size ≤ bc
  le : p ≤ s.size
  few : out.length ≤ 254
theorem CrL.step {w wr w' : World} {bc p q : Nat} {s : ByteArray} {v : Value} {out : List UInt8} (h : CrL w bc s p v out wr) (g : wr.grownBy w' (some bc)) (c : Cur w' bc s q) (hq : q ≤ s.size) : CrL w bc s q v out w' :=
  ⟨gstepo h.gr g h.lc, c, h.own.kepto g (by omega), h.lc, hq, h.few⟩
theorem CrL.new {w wr : World} {bc p : Nat} {s : ByteArray} (g : w.grownBy wr none) (c : Cur wr bc s p) (lc : w.heap.size ≤ bc) (hp : p ≤ s.size) : CrL w bc s p (.slice none 0 0) [] wr :=
  ⟨g, c, Own.nil _ _, lc, hp, by simp⟩

set_option maxRecDepth 100000 in
set_option maxHeartbeats 4000000 in
theorem cread_in (s : ByteArray) (p0 : Nat) (w : World) (he : Et w) (hp0 : p0 ≤ s.size) (hs : s.size ≤ 1000000) : Calls Tryd.prog 60 #[.string s, .int .i64 p0] w fun e w' => e = .returned (rdR (rdF s p0 p0 none [])) ∧ w.grownBy w' none := by
  have HE := Lib.hid he
  have hm : s.size ≤ maxLen := by unfold maxLen; omega
  obtain ⟨i0, hi, hz0, hz1, hz2⟩ := info_parts Tryd.infoByte
  clear he
  go_enter Tryd.func60, Tryd.ntmps60
  go_wp2_with fail
  refine Calls.mono (new_ex s _) ?_
  rintro e w1 ⟨bc, rfl, hl, hc, hg⟩
  have E1 := Lib.hid (show w.grownBy w1 none ∧ Cur w1 bc s 0 from ⟨hg, hc⟩)
  clear hc hg
  go_wp2_with fail
  refine Calls.mono (seek_ok bc s 0 w1 p0 E1.out.2 (by omega) (by omega)) ?_
  rintro e w2 ⟨rfl, hc, hg⟩
  have E2 := Lib.hid (show CrL w bc s p0 (.slice none 0 0) [] w2 from CrL.new (gstepo E1.out.1 hg hl) hc hl hp0)
  clear hc hg E1
  go_wp2_with fail
  go_loopw [5, 8, 9, 10] (fun vn vl vp vo wr => ∃ p lim nx out, vn = .int .i64 ((Option.getD nx 0 : Nat) : Int) ∧ vl = .int .i64 (lim : Nat) ∧ vp = .bool nx.isSome ∧ lim ≤ s.size ∧ CrL w bc s p vo out wr ∧ rdF s p0 p0 none [] = rdF s p lim nx out) (fun _ vl _ vo _ => (intOf vl).toNat * 300 + (300 - slLen vo))
  case atStart => exact ⟨p0, p0, none, [], rfl, rfl, rfl, hp0, E2.out, rfl⟩
  case round =>
    obtain ⟨p, lim, nx, out, rfl, rfl, rfl, hlim, hr, hres⟩ := hrel
    have R0 := Lib.hid hr
    have HR := Lib.hid hres
    have hp := hr.le
    have hfew := hr.few
    obtain ⟨A, cap, rfl, hcap, hcm⟩ := hr.own.shape
    unfold maxLen at hcm
    clear hr hres
    go_wp2_with fail
    by_cases h1 : p + 1 ≤ s.size
    · refine Calls.mono (byte_ok bc s p wr R0.out.cur (HE.out.kept R0.out.gr (by simp)) h1 hm) ?_
      rintro e w3 ⟨rfl, hc3, hg3⟩
      have R3 := Lib.hid (R0.out.step hg3 hc3 h1)
      clear hc3 hg3
      have hb := bt_lt s p
      by_cases hz : bt s p = 0
      · have q0 : (((bt s p : Nat) : Int) / 64 == 0) = true := by simp; omega
        have z0 : (((bt s p : Nat) : Int) == 0) = true := by simp; omega
        have HN := Lib.hid (HR.out.trans (rd_end (by omega) hz))
        cases nx with
        | none =>
          go_wp2_with fail
          refine Calls.mono (at_any bc s (p + 1) w3 R3.out.cur) ?_
          rintro e w4 ⟨rfl, hq⟩
          subst hq
          go_wp2_with (at_builtin; refine wpList_app_sl rfl (.tmp 43) (.tmp 44) 40 rfl (bc + 1) i0 Tryd.underlying40 hi hz0 hz1 hz2 (.slice A out.length cap) out [0] rfl (R3.out.own.kept0 (galloc (grefl _ none) _)) _ rfl (sl_new w3 _ [0] _ 1 rfl rfl) ?d3 ?d4 ?_)
          case d3 => simp; omega
          case d4 => have := blt R3.out.cur; simp; omega
          intro v5 w5 ho5 hg5
          have hcv := run_string_of (P := Tryd.prog) w5 40 9 5 Tryd.underlying40 Tryd.underlying5 Tryd.underlying9 ho5.sl
          have G5 := Lib.hid (show w.grownBy w5 none from gstep R3.out.gr (gfr1 hg5) (fun r hr => by have := (R3.out.own.block r hr).1; have := R3.out.lc; omega))
          clear ho5 hg5
          go_wp2_with fail
          go_ret3
          rw [HN.out]
          exact ⟨rfl, G5.out⟩
        | some nk =>
          go_wp2_with (at_builtin; refine wpList_app_sl rfl (.tmp 43) (.tmp 44) 40 rfl (bc + 1) i0 Tryd.underlying40 hi hz0 hz1 hz2 (.slice A out.length cap) out [0] rfl (R3.out.own.kept0 (galloc (grefl _ none) _)) _ rfl (sl_new w3 _ [0] _ 1 rfl rfl) ?d3 ?d4 ?_)
          case d3 => simp; omega
          case d4 => have := blt R3.out.cur; simp; omega
          intro v5 w5 ho5 hg5
          have hcv := run_string_of (P := Tryd.prog) w5 40 9 5 Tryd.underlying40 Tryd.underlying5 Tryd.underlying9 ho5.sl
          have G5 := Lib.hid (show w.grownBy w5 none from gstep R3.out.gr (gfr1 hg5) (fun r hr => by have := (R3.out.own.block r hr).1; have := R3.out.lc; omega))
          clear ho5 hg5
          go_wp2_with fail
          go_ret3
          rw [HN.out]
          exact ⟨rfl, G5.out⟩
      · have z0 : (((bt s p : Nat) : Int) == 0) = false := by simp; omega
        by_cases h64 : bt s p < 64
        · have q0 : (((bt s p : Nat) : Int) / 64 == 0) = true := by simp; omega
          go_wp2_with fail
          by_cases hl1 : p + 1 + bt s p ≤ s.size
          · refine Calls.mono (T_ok bc s (p + 1) w3 (bt s p) R3.out.cur hl1 hm) ?_
            rintro e w4 ⟨rfl, hc4, hg4⟩
            have R4 := Lib.hid (R3.out.step hg4 hc4 hl1)
            clear hc4 hg4
            have hLs : (s.extract (p + 1) (p + 1 + bt s p)).size = bt s p := by rw [ByteArray.size_extract]; omega
            have HLab := Lib.hid (lab_cons s p hl1)
            by_cases h255 : out.length + 1 + bt s p + 1 ≤ 255
            · have HN := Lib.hid (HR.out.trans (rd_label hz h64 hl1 h255))
              generalize s.extract (p + 1) (p + 1 + bt s p) = L at *
              have k0 : decide ((255 : Int) < (out.length : Int) + 1 + ((bt s p : Nat) : Int) + 1) = false := by simp; omega
              have hof := Lib.hid (show [Value.int .u8 ((bt s p : Nat) : Int)] = bv [UInt8.ofNat (bt s p)] by simp [bv]; omega)
              go_wp2_with (at_builtin; refine wpList_app_sl rfl (.tmp 66) (.tmp 68) 40 rfl (bc + 1) i0 Tryd.underlying40 hi hz0 hz1 hz2 (.slice A out.length cap) out [UInt8.ofNat (bt s p)] rfl (R4.out.own.kept0 (galloc (grefl _ none) _)) _ rfl (sl_new w4 _ [UInt8.ofNat (bt s p)] _ 1 (by exact hof.out) rfl) ?d3 ?d4 ?_)
              case d3 => simp; omega
              case d4 => have := blt R4.out.cur; simp; omega
              intro v5 w5 ho5 hg5
              have R5 := Lib.hid (show w.grownBy w5 none ∧ Cur w5 bc s (p + 1 + bt s p) ∧ Own w5 (bc + 1) v5 (out ++ [UInt8.ofNat (bt s p)]) from ⟨gstep R4.out.gr (gfr1 hg5) (fun r hr => by have := (R4.out.own.block r hr).1; have := R4.out.lc; omega), R4.out.cur.kept (gfr1 hg5) (fun e => by have := (R4.out.own.block _ e.symm).1; omega), ho5⟩)
              have l5 : bc + 1 ≤ w5.heap.size := blt R5.out.2.1
              clear ho5 hg5
              go_wp2_with (at_builtin; refine wpList_app_str rfl (.tmp 69) (.tmp 70) 40 9 rfl (bc + 1) i0 Tryd.underlying40 Tryd.underlying9 hi hz0 hz1 hz2 _ _ rfl R5.out.2.2 L rfl ?e3 l5 ?_)
              case e3 => simp; omega
              intro v6 w6 ho6 hg6
              have R6 := Lib.hid (show CrL w bc s (p + 1 + bt s p) v6 (out ++ lab s p) w6 from ⟨gstep R5.out.1 hg6 (fun r hr => by have := (R5.out.2.2.block r hr).1; have := R4.out.lc; omega), R5.out.2.1.kept hg6 (fun e => by have := (R5.out.2.2.block _ e.symm).1; omega), by rw [HLab.out]; exact ho6, R4.out.lc, hl1, by rw [List.length_append, lab_len s p hl1]; omega⟩)
              obtain ⟨A6, c6, rfl, _, _⟩ := ho6.shape
              clear ho6 hg6
              go_wp2_with fail
              go_roundw
              case rel => exact ⟨_, _, _, _, rfl, rfl, rfl, hlim, R6.out, HN.out⟩
              case measure => simp [intOf, slLen]; omega
            · have HN := Lib.hid (HR.out.trans (rd_long hz h64 hl1 h255))
              generalize s.extract (p + 1) (p + 1 + bt s p) = L at *
              have k0 : decide ((255 : Int) < (out.length : Int) + 1 + ((bt s p : Nat) : Int) + 1) = true := by simp; omega
              go_wp2_with fail
              go_ret3
              rw [HN.out]
              exact ⟨rfl, R4.out.gr⟩
          · refine Calls.mono (T_short bc s (p + 1) w3 (bt s p) R3.out.cur (HE.out.kept R3.out.gr (by simp)) (by omega) (by omega) (by omega) hm) ?_
            rintro e w4 ⟨rfl, hc4, hg4⟩
            have R4 := Lib.hid (R3.out.step hg4 hc4 (by omega))
            have HN := Lib.hid (HR.out.trans (rd_lshort (by omega) hz h64 hl1))
            clear hc4 hg4
            go_wp2_with fail
            go_ret3
            rw [HN.out]
            exact ⟨rfl, R4.out.gr⟩
        · have q0 : (((bt s p : Nat) : Int) / 64 == 0) = false := by simp; omega
          by_cases h192 : bt s p < 192
          · have q3 : (((bt s p : Nat) : Int) / 64 == 3) = false := by simp; omega
            have HN := Lib.hid (HR.out.trans (rd_form (by omega) (by omega) h192))
            go_wp2_with fail
            go_ret3
            rw [HN.out]
            exact ⟨rfl, R3.out.gr⟩
          · have q3 : (((bt s p : Nat) : Int) / 64 == 3) = true := by simp; omega
            go_wp2_with fail
            by_cases h2 : p + 1 + 1 ≤ s.size
            · refine Calls.mono (byte_ok bc s (p + 1) w3 R3.out.cur (HE.out.kept R3.out.gr (by simp)) h2 hm) ?_
              rintro e w4 ⟨rfl, hc4, hg4⟩
              have R4 := Lib.hid (R3.out.step hg4 hc4 h2)
              clear hc4 hg4
              have hb2 := bt_lt s (p + 1)
              have HP := ptr_bits s p (by omega)
              by_cases hlp : ptr s p < lim
              · have HN := Lib.hid (HR.out.trans (rd_ptr (by omega) h2 hlp))
                cases nx with
                | none =>
                  go_wp2_with fail
                  refine Calls.mono (at_any bc s (p + 1 + 1) w4 R4.out.cur) ?_
                  rintro e w5 ⟨rfl, hq⟩
                  subst hq
                  go_wp2_with fail
                  refine Calls.mono (seek_ok bc s (p + 1 + 1) w4 (ptr s p : Nat) R4.out.cur (by omega) (by omega)) ?_
                  rintro e w6 ⟨rfl, hc6, hg6⟩
                  have R6 := Lib.hid (R4.out.step hg6 hc6 (by omega))
                  clear hc6 hg6
                  go_wp2_with fail
                  go_roundw
                  case rel => exact ⟨_, _, _, _, rfl, rfl, rfl, by omega, R6.out, HN.out⟩
                  case measure => simp [intOf, slLen]; omega
                | some nk =>
                  go_wp2_with fail
                  refine Calls.mono (seek_ok bc s (p + 1 + 1) w4 (ptr s p : Nat) R4.out.cur (by omega) (by omega)) ?_
                  rintro e w6 ⟨rfl, hc6, hg6⟩
                  have R6 := Lib.hid (R4.out.step hg6 hc6 (by omega))
                  clear hc6 hg6
                  go_wp2_with fail
                  go_roundw
                  case rel => exact ⟨_, _, _, _, rfl, rfl, rfl, by omega, R6.out, HN.out⟩
                  case measure => simp [intOf, slLen]; omega
              · have HN := Lib.hid (HR.out.trans (rd_loop (by omega) h2 hlp))
                cases nx with
                | none =>
                  go_wp2_with fail
                  refine Calls.mono (at_any bc s (p + 1 + 1) w4 R4.out.cur) ?_
                  rintro e w5 ⟨rfl, hq⟩
                  subst hq
                  go_wp2_with fail
                  go_ret3
                  rw [HN.out]
                  exact ⟨rfl, R4.out.gr⟩
                | some nk =>
                  go_wp2_with fail
                  go_ret3
                  rw [HN.out]
                  exact ⟨rfl, R4.out.gr⟩
            · refine Calls.mono (byte_short bc s (p + 1) w3 R3.out.cur (HE.out.kept R3.out.gr (by simp)) (by omega) (by omega) hm) ?_
              rintro e w4 ⟨rfl, hc4, hg4⟩
              have R4 := Lib.hid (R3.out.step hg4 hc4 (by omega))
              have HN := Lib.hid (HR.out.trans (rd_pshort (by omega) (by omega) h2))
              clear hc4 hg4
              go_wp2_with fail
              go_ret3
              rw [HN.out]
              exact ⟨rfl, R4.out.gr⟩
    · refine Calls.mono (byte_short bc s p wr R0.out.cur (HE.out.kept R0.out.gr (by simp)) hp (by omega) hm) ?_
      rintro e w3 ⟨rfl, hc3, hg3⟩
      have R3 := Lib.hid (R0.out.step hg3 hc3 hp)
      have HN := Lib.hid (HR.out.trans (rd_short (by omega)))
      clear hc3 hg3
      go_wp2_with fail
      go_ret3
      rw [HN.out]
      exact ⟨rfl, R3.out.gr⟩
end Go.Proofs.YtomjiephbacocaaDoor
namespace Go.Proofs.YtomjiephbacocaaDoor
open Go.RowKit

theorem cread_any (s : ByteArray) (at_ : Int) (w : World) (he : Et w) (hs : s.size ≤ 1000000) : Calls Tryd.prog 60 #[.string s, .int .i64 at_] w fun e w' => e = .returned (rdR (rdAt s at_)) ∧ w.grownBy w' none := by
  by_cases h : 0 ≤ at_ ∧ at_ ≤ (s.size : Int)
  · obtain ⟨k, rfl⟩ := Int.eq_ofNat_of_zero_le h.1
    rw [rdAt_in h.1 h.2]
    exact cread_in s k w he (by omega) hs
  · rw [rdAt_out (by omega)]
    go_enter Tryd.func60, Tryd.ntmps60
    go_wp2_with fail
    refine Calls.mono (new_ex s _) ?_
    rintro e w1 ⟨bc, rfl, hl, hc, hg⟩
    have E1 := Lib.hid (show w.grownBy w1 none ∧ Cur w1 bc s 0 from ⟨hg, hc⟩)
    clear hc hg
    go_wp2_with fail
    refine Calls.mono (seek_bad bc s 0 w1 at_ E1.out.2 (by omega)) ?_
    rintro e w2 ⟨rfl, hq⟩
    subst hq
    go_wp2_with fail
    go_ret3
    exact ⟨rfl, E1.out.1⟩

/-- The place behind, -1 where it is not known yet. -/
def nxI : Option Nat → Int
  | none => -1
  | some k => k
theorem str_lab (out : List UInt8) (s : ByteArray) (p : Nat) : (⟨out.toArray⟩ : ByteArray) ++ s.extract p (p + 1 + bt s p) = ⟨(out ++ lab s p).toArray⟩ := by
  rw [← mk_append_list]; rfl
theorem str_end (out : List UInt8) : (⟨out.toArray⟩ : ByteArray) ++ ⟨#[0]⟩ = ⟨(out ++ [0]).toArray⟩ := by
  rw [← mk_append_list]
theorem str_size (out : List UInt8) : (⟨out.toArray⟩ : ByteArray).size = out.length := by simp [ByteArray.size]

set_option maxRecDepth 100000 in
set_option maxHeartbeats 4000000 in
theorem cref_in (s : ByteArray) (p0 : Nat) (w : World) (hp0 : p0 ≤ s.size) (hs : s.size ≤ 1000000) : Calls Tryd.prog 52 #[.string s, .int .i64 p0] w fun e w' => e = .returned (rdR (rdF s p0 p0 none [])) ∧ w.grownBy w' none := by
  have hm : s.size ≤ maxLen := by unfold maxLen; omega
  go_enter Tryd.func52, Tryd.ntmps52
  go_wp2_with fail
  go_loopw [1, 7, 8, 9] (fun va vn vx vl wr => ∃ p lim nx out, va = .int .i64 (p : Nat) ∧ vn = .string ⟨List.toArray out⟩ ∧ vx = .int .i64 (nxI nx) ∧ vl = .int .i64 (lim : Nat) ∧ p ≤ s.size ∧ lim ≤ s.size ∧ out.length ≤ 254 ∧ w.grownBy wr none ∧ rdF s p0 p0 none [] = rdF s p lim nx out) (fun _ vn _ vl _ => (intOf vl).toNat * 300 + (300 - (match vn with | .string b => b.size | _ => 0)))
  case atStart => exact ⟨p0, p0, none, [], rfl, rfl, rfl, rfl, hp0, hp0, by simp, grefl _ _, rfl⟩
  case round =>
    obtain ⟨p, lim, nx, out, rfl, rfl, rfl, rfl, hp, hlim, hfew, hgr, hres⟩ := hrel
    have HR := Lib.hid hres
    have HG := Lib.hid hgr
    have hsz := str_size out
    clear hres hgr
    by_cases h1 : p < s.size
    · have hb := bt_lt s p
      have hg1 := (bt_get s p h1).symm
      have l1 := s[p].toNat_lt
      by_cases hz : bt s p = 0
      · have z0 : (((bt s p : Nat) : Int) == 0) = true := by simp; omega
        have HN := Lib.hid (HR.out.trans (rd_end h1 hz))
        have HS := Lib.hid (str_end out)
        generalize (⟨out.toArray⟩ : ByteArray) = O at *
        cases nx with
        | none =>
          unfold nxI
          go_wp2_with fail
          go_ret3
          rw [HN.out, HS.out]
          exact ⟨rfl, HG.out⟩
        | some nk =>
          unfold nxI
          go_wp2_with fail
          go_ret3
          rw [HN.out, HS.out]
          exact ⟨rfl, HG.out⟩
      · have z0 : (((bt s p : Nat) : Int) == 0) = false := by simp; omega
        by_cases h192 : 192 ≤ bt s p
        · by_cases h2 : p + 2 ≤ s.size
          · have hb2 := bt_lt s (p + 1)
            have hg2 := (bt_get s (p + 1) (by omega)).symm
            have hpt : ((ptr s p : Nat) : Int) = ((bt s p : Int) - 192) * 256 + (bt s (p + 1) : Int) := by unfold ptr; omega
            by_cases hlp : ptr s p < lim
            · have HN := Lib.hid (HR.out.trans (rd_ptr h192 h2 hlp))
              generalize hO : (⟨out.toArray⟩ : ByteArray) = O at *
              cases nx with
              | none =>
                unfold nxI
                go_wp2_with fail
                go_roundw
                case rel => exact ⟨ptr s p, ptr s p, some (p + 2), out, by rw [hpt], by rw [hO], rfl, by rw [hpt], by omega, by omega, hfew, HG.out, HN.out⟩
                case measure => simp [intOf]; omega
              | some nk =>
                unfold nxI
                go_wp2_with fail
                go_roundw
                case rel => exact ⟨ptr s p, ptr s p, some nk, out, by rw [hpt], by rw [hO], rfl, by rw [hpt], by omega, by omega, hfew, HG.out, HN.out⟩
                case measure => simp [intOf]; omega
            · have HN := Lib.hid (HR.out.trans (rd_loop h192 h2 hlp))
              generalize hO : (⟨out.toArray⟩ : ByteArray) = O at *
              cases nx with
              | none =>
                unfold nxI
                go_wp2_with fail
                go_ret3
                rw [HN.out]
                exact ⟨rfl, HG.out⟩
              | some nk =>
                unfold nxI
                go_wp2_with fail
                go_ret3
                rw [HN.out]
                exact ⟨rfl, HG.out⟩
          · have HN := Lib.hid (HR.out.trans (rd_pshort h1 h192 h2))
            go_wp2_with fail
            go_ret3
            rw [HN.out]
            exact ⟨rfl, HG.out⟩
        · by_cases h64 : bt s p < 64
          · have hLs : p + 1 + bt s p ≤ s.size → (s.extract p (p + 1 + bt s p)).size = 1 + bt s p := by intro h; rw [ByteArray.size_extract]; omega
            by_cases hl1 : p + 1 + bt s p ≤ s.size
            · have hL := hLs hl1
              have hlb := lab_len s p hl1
              clear hLs
              have HS := Lib.hid (str_lab out s p)
              by_cases h255 : out.length + 1 + bt s p + 1 ≤ 255
              · have HN := Lib.hid (HR.out.trans (rd_label hz h64 hl1 h255))
                generalize hO : (⟨out.toArray⟩ : ByteArray) = O at *
                generalize hE : s.extract p (p + 1 + bt s p) = L at *
                have hOL : (O ++ L).size = out.length + (1 + bt s p) := by rw [ByteArray.size_append, hsz, hL]
                go_wp2_with fail
                go_roundw
                case rel => exact ⟨p + 1 + bt s p, lim, nx, out ++ lab s p, by simp, by rw [HS.out], rfl, rfl, hl1, hlim, by simp; omega, HG.out, HN.out⟩
                case measure => simp [intOf]; omega
              · have HN := Lib.hid (HR.out.trans (rd_long hz h64 hl1 h255))
                generalize hO : (⟨out.toArray⟩ : ByteArray) = O at *
                generalize hE : s.extract p (p + 1 + bt s p) = L at *
                have hOL : (O ++ L).size = out.length + (1 + bt s p) := by rw [ByteArray.size_append, hsz, hL]
                go_wp2_with fail
                go_ret3
                rw [HN.out]
                exact ⟨rfl, HG.out⟩
            · have HN := Lib.hid (HR.out.trans (rd_lshort h1 hz h64 hl1))
              clear hLs
              go_wp2_with fail
              go_ret3
              rw [HN.out]
              exact ⟨rfl, HG.out⟩
          · have HN := Lib.hid (HR.out.trans (rd_form h1 (by omega) (by omega)))
            go_wp2_with fail
            go_ret3
            rw [HN.out]
            exact ⟨rfl, HG.out⟩
    · have HN := Lib.hid (HR.out.trans (rd_short h1))
      go_wp2_with fail
      go_ret3
      rw [HN.out]
      exact ⟨rfl, HG.out⟩

theorem cref_any (s : ByteArray) (at_ : Int) (w : World) (hs : s.size ≤ 1000000) : Calls Tryd.prog 52 #[.string s, .int .i64 at_] w fun e w' => e = .returned (rdR (rdAt s at_)) ∧ w.grownBy w' none := by
  by_cases h : 0 ≤ at_ ∧ at_ ≤ (s.size : Int)
  · obtain ⟨k, rfl⟩ := Int.eq_ofNat_of_zero_le h.1
    rw [rdAt_in h.1 h.2]
    exact cref_in s k w (by omega) hs
  · rw [rdAt_out (by omega)]
    by_cases h0 : at_ < 0
    · go_enter Tryd.func52, Tryd.ntmps52
      go_wp2_with fail
      go_ret3
      exact ⟨rfl, grefl _ _⟩
    · have h2 : (s.size : Int) < at_ := by omega
      go_enter Tryd.func52, Tryd.ntmps52
      go_wp2_with fail
      go_ret3
      exact ⟨rfl, grefl _ _⟩
end Go.Proofs.YtomjiephbacocaaDoor
namespace Go.Proofs.YtomjiephbacocaaDoor
open Go.RowKit

set_option maxRecDepth 100000 in
theorem may_any (s : ByteArray) (w : World) : Calls Tryd.prog 18 #[.string s] w fun e w' => e = .returned (.bool (may s)) ∧ w = w' := by
  by_cases h0 : s.size = 0
  · have hm : may s = false := by unfold may; rw [scan_out (by omega)]; simp
    rw [hm]
    go_enter Tryd.func18, Tryd.ntmps18
    go_wp2_with fail
    go_ret
    exact ⟨rfl, rfl⟩
  · by_cases h1 : 255 < s.size
    · have hm : may s = false := by unfold may; simp; omega
      rw [hm]
      go_enter Tryd.func18, Tryd.ntmps18
      go_wp2_with fail
      go_ret
      exact ⟨rfl, rfl⟩
    · have hm : may s = scan s 0 := by unfold may; simp; omega
      rw [hm]
      have z1 : (((s.size : Nat) : Int) == 0) = false := by rw [beq_eq_false_iff_ne]; omega
      have z2 : decide ((255 : Int) < ((s.size : Nat) : Int)) = false := by simp; omega
      go_enter Tryd.func18, Tryd.ntmps18
      go_wp2_with fail
      go_loop [3] (fun v => ∃ p : Nat, v = .int .i64 p ∧ p ≤ 400 ∧ scan s 0 = scan s p) (fun v => 400 - (intOf v).toNat)
      case atStart => exact ⟨0, rfl, by omega, rfl⟩
      case round =>
        obtain ⟨p, rfl, hp, hr⟩ := hrel
        have HR := Lib.hid hr
        clear hr
        by_cases hlt : p < s.size
        · have hg := (bt_get s p hlt).symm
          have hb := bt_lt s p
          have l1 := s[p].toNat_lt
          by_cases hz : bt s p = 0
          · have HN := Lib.hid (HR.out.trans (scan_end hlt hz))
            have z0 : (((bt s p : Nat) : Int) == 0) = true := by simp; omega
            go_wp2_with fail
            go_ret
            rw [HN.out]
            refine ⟨?_, rfl⟩
            by_cases he : p + 1 = s.size
            · simp [he]; omega
            · simp [he]; omega
          · have z0 : (((bt s p : Nat) : Int) == 0) = false := by simp; omega
            by_cases hbig : 63 < bt s p
            · have HN := Lib.hid (HR.out.trans (scan_big hlt hbig))
              go_wp2_with fail
              go_ret
              rw [HN.out]
              exact ⟨rfl, rfl⟩
            · have HN := Lib.hid (HR.out.trans (scan_step hlt hz (by omega)))
              go_wp2_with fail
              go_round
              case rel => exact ⟨p + 1 + bt s p, by go_num, by omega, HN.out⟩
              case measure => simp [intOf]; omega
        · have HN := Lib.hid (HR.out.trans (scan_out (by omega)))
          go_wp2_with fail
          go_ret
          rw [HN.out]
          exact ⟨rfl, rfl⟩
end Go.Proofs.YtomjiephbacocaaDoor
namespace Go.Proofs.YtomjiephbacocaaDoor
open Go.RowKit Go.Maps

/-- Only block b, the map's block m (if any) and new blocks have turned. -/
structure TG (w w' : World) (b : Nat) (m : Option Nat) : Prop where
  os : w'.os = w.os
  tape : w'.tape = w.tape
  output : w'.output = w.output
  size : w.heap.size ≤ w'.heap.size
  block : ∀ i, i < w.heap.size → i ≠ b → some i ≠ m → w'.heap[i]? = w.heap[i]?
theorem TG.refl (w : World) (b : Nat) (m : Option Nat) : TG w w b m := ⟨rfl, rfl, rfl, Nat.le_refl _, fun _ _ _ _ => rfl⟩
theorem TG.of0 {w w' : World} (g : w.grownBy w' none) (b : Nat) (m : Option Nat) : TG w w' b m := ⟨g.os, g.tape, g.output, g.size, fun i hi _ _ => g.block i hi (by simp)⟩
theorem TG.ofB {w w' : World} {b : Nat} (g : w.grownBy w' (some b)) (m : Option Nat) : TG w w' b m := ⟨g.os, g.tape, g.output, g.size, fun i hi hn _ => g.block i hi (by simpa using hn)⟩
theorem TG.ofM {w w' : World} {m : Option Nat} (g : w.grownBy w' m) (b : Nat) : TG w w' b m := ⟨g.os, g.tape, g.output, g.size, fun i hi _ hn => g.block i hi hn⟩
theorem TG.trans {w w1 w2 : World} {b : Nat} {m m1 : Option Nat} (h : TG w w1 b m) (k : TG w1 w2 b m1) (hm : ∀ i, m1 = some i → m = some i ∨ w.heap.size ≤ i) : TG w w2 b m :=
  ⟨k.os.trans h.os, k.tape.trans h.tape, k.output.trans h.output, Nat.le_trans h.size k.size, fun i hi hb hn => (k.block i (Nat.lt_of_lt_of_le hi h.size) hb (fun e => by
    rcases hm i e.symm with h1 | h1
    · exact hn h1.symm
    · omega)).trans (h.block i hi hb hn)⟩
theorem TG.split {w w' : World} {b : Nat} {m : Option Nat} (h : TG w w' b m) : ∃ wm, w.grownBy wm (some b) ∧ wm.grownBy w' m := by
  cases m with
  | none => exact ⟨w', ⟨h.os, h.tape, h.output, h.size, fun i hi hn => h.block i hi (fun e => hn (by rw [e])) (by simp)⟩, grefl _ _⟩
  | some k =>
    by_cases hk : k < w.heap.size
    · refine ⟨{ w' with heap := w'.heap.setIfInBounds k w.heap[k] }, ⟨h.os, h.tape, h.output, by simpa using h.size, fun i hi hn => ?_⟩, ⟨rfl, rfl, rfl, by simp, fun i hi hn => ?_⟩⟩
      · simp only [Array.getElem?_setIfInBounds]
        split
        · rename_i e
          subst e
          rw [if_pos (Nat.lt_of_lt_of_le hk h.size)]
          simp [hk]
        · rename_i e
          exact h.block i hi (fun x => hn (by rw [x])) (fun x => e (by simpa using x.symm))
      · simp only [Array.getElem?_setIfInBounds]
        rw [if_neg (fun e => hn (by rw [e]))]
    · exact ⟨w', ⟨h.os, h.tape, h.output, h.size, fun i hi hn => h.block i hi (fun e => hn (by rw [e])) (fun e => by simp at e; omega)⟩, grefl _ _⟩
theorem TG.blk {w w' : World} {b : Nat} {m : Option Nat} (h : TG w w' b m) {k : Nat} {o : Obj} (ho : w.heap[k]? = some o) (h1 : k ≠ b) (h2 : some k ≠ m) : w'.heap[k]? = some o := by rw [h.block k (blt ho) h1 h2]; exact ho
/-- A call on a table of one's own turns nothing that was there before. -/
theorem TG.gr {w0 w w' : World} {b : Nat} {m : Option Nat} (g : w0.grownBy w none) (h : TG w w' b m) (hb : w0.heap.size ≤ b) (hm : ∀ k, m = some k → w0.heap.size ≤ k) : w0.grownBy w' none :=
  ⟨h.os.trans g.os, h.tape.trans g.tape, h.output.trans g.output, Nat.le_trans g.size h.size, fun i hi _ => (h.block i (Nat.lt_of_lt_of_le hi g.size) (by omega) (fun e => by have := hm i e.symm; omega)).trans (g.block i hi (by simp))⟩
theorem SlB.keptT {w w' : World} {v : Value} {l : List UInt8} {b : Nat} {m : Option Nat} (h : SlB w v l) (g : TG w w' b m) (h1 : v.ownBlock ≠ some b) (h2 : ∀ k, m = some k → v.ownBlock ≠ some k) : SlB w' v l := by
  obtain ⟨wm, g1, g2⟩ := g.split
  exact (h.kept g1 (fun k e => .inr (by cases e; exact h1))).kept g2 (fun k e => .inr (h2 k e))
theorem Own.keptT {w w' : World} {base : Nat} {v : Value} {l : List UInt8} {b : Nat} {m : Option Nat} (h : Own w base v l) (g : TG w w' b m) (h1 : v.ownBlock ≠ some b) (h2 : m = none ∨ v.ownBlock ≠ m) : Own w' base v l := by
  obtain ⟨wm, g1, g2⟩ := g.split
  exact (h.kept g1 (.inr h1)).kept g2 h2

theorem lawS : Keyed Tryd.prog 9 := string_keyed Tryd.underlying9
theorem zeroI (w : World) : (zeroValue 3).run Tryd.prog w = .ok (.int .i64 0) w := by kernel_rfl
theorem keyS (s : ByteArray) (h : s.size ≤ maxLen) : keyOf Tryd.prog 9 (.string s) = some (.string s.data.toList) := by
  simp [keyOf, mapKey, Tryd.underlying9, h]
/-- The block bm is a map that holds just the table T. -/
def MapT (w : World) (bm : Nat) (T : Tb) : Prop :=
  ∃ D : DataW Unit, w.ownsMap Tryd.prog 9 (plainElem Tryd.prog 3) bm T.length D ∧ ∀ s : ByteArray, (∀ p, tget T s = some p → Maps.has D (.string s.data.toList) = true ∧ ∀ z, D.atKey (.string s.data.toList) z = .lit (.int .i64 p)) ∧ (tget T s = none → Maps.has D (.string s.data.toList) = false)
theorem lit_ne {s s' : ByteArray} (h : s' ≠ s) : (Lit.string s'.data.toList) ≠ .string s.data.toList := by
  intro e
  simp only [Lit.string.injEq] at e
  refine h ?_
  cases s; cases s'
  simp at e
  rw [e]
theorem MapT.kept {w w' : World} {bm : Nat} {T : Tb} {row : Option Nat} (h : MapT w bm T) (g : w.grownBy w' row) (hr : some bm ≠ row) : MapT w' bm T := by
  obtain ⟨D, hD, hA⟩ := h
  exact ⟨D, hD.kept g hr, hA⟩
theorem MapT.lt {w : World} {bm : Nat} {T : Tb} (h : MapT w bm T) : bm < w.heap.size := by obtain ⟨D, hD, _⟩ := h; exact hD.lt
theorem MapT.new (w : World) : MapT (w.alloc (.map #[] 0)) w.heap.size [] :=
  ⟨.map [], World.ownsMap_made w _ _ _, fun s => ⟨fun p hp => (by cases hp), fun _ => rfl⟩⟩

end Go.Proofs.YtomjiephbacocaaDoor
namespace Go.Proofs.YtomjiephbacocaaDoor
open Go.RowKit

theorem own_ne_map {w : World} {base bm : Nat} {v : Value} {l : List UInt8} {T : Tb} (h : Own w base v l) (k : MapT w bm T) : v.ownBlock ≠ some bm := by
  obtain ⟨D, ⟨es, clock, hb, _⟩, _⟩ := k
  rcases h.2 with ⟨rfl, _⟩ | ⟨g, cap, cur, rfl, _, hg, _⟩
  · simp [Value.ownBlock]
  · intro e
    simp [Value.ownBlock] at e
    subst e
    rw [hg] at hb
    cases hb
theorem tg_ms {w wr : World} {b : Nat} {m mr m' : Option Nat} (h : TG w wr b m) (h1 : ∀ i, mr = some i → m = some i ∨ w.heap.size ≤ i) (h2 : ∀ i, m' = some i → mr = some i ∨ wr.heap.size ≤ i) : ∀ i, m' = some i → m = some i ∨ w.heap.size ≤ i := by
  intro i e
  rcases h2 i e with h3 | h3
  · exact h1 i h3
  · exact .inr (Nat.le_trans h.size h3)
theorem suf_size (n : ByteArray) (p : Nat) : (suf n p).size = n.size - p := by unfold suf; rw [ByteArray.size_extract]; omega
theorem lab_eq (n : ByteArray) (p : Nat) : lab n p = List.take (p + 1 + bt n p - p) (List.drop p n.data.toList) := Lib.extract_data _ _ _
theorem lab_size (n : ByteArray) (p : Nat) (h : p + 1 + bt n p ≤ n.size) : (n.extract p (p + 1 + bt n p)).size = 1 + bt n p := by rw [ByteArray.size_extract]; omega
theorem ptr_or (k : Nat) (h : k ≤ 16383) : bits .or .u8 192 ((k : Int) / 256) = ((192 + k / 256 : Nat) : Int) := by
  rw [show ((192 : Int)) = ((192 : Nat) : Int) by rfl, show ((k : Int) / 256) = ((k / 256 : Nat) : Int) by omega, u8_or_nat _ _ (by omega) (by omega), nat_join 6 _ _ (by decide) (by omega)]

theorem ptr_cells (k : Nat) (h : k ≤ 16383) : [Value.int .u8 (bits .or .u8 192 ((k : Int) / 256)), Value.int .u8 ((k : Int) % 256)] = bv (ptrB k) := by
  rw [ptr_or k h]
  simp [bv, ptrB]
  omega
end Go.Proofs.YtomjiephbacocaaDoor
namespace Go.Proofs.YtomjiephbacocaaDoor
open Go.RowKit

theorem TG.kb {w w' : World} {b B : Nat} {m : Option Nat} (h : TG w w' b m) (hB : B ≤ w.heap.size) (hb : B ≤ b) (hm : ∀ k, m = some k → B ≤ k) : KB B w w' :=
  ⟨h.os, h.tape, h.output, h.size, fun i hi => h.block i (by omega) (by omega) (fun e => by have := hm i e.symm; omega)⟩
theorem cell_lt {w : World} {b off : Nat} {v : Value} (h : w.cell? ⟨b, off, none⟩ = some v) : b < w.heap.size := World.block_lt_of_cell? w _ h
theorem cvs {w : World} {v : Value} {l : List UInt8} (h : SlB w v l) : (convert 40 9 v).run Tryd.prog w = .ok (.string ⟨l.toArray⟩) w :=
  run_string_of (P := Tryd.prog) w 40 9 5 Tryd.underlying40 Tryd.underlying5 Tryd.underlying9 h
theorem SlB.front {w : World} {A : Option Addr} {n cap : Nat} {x y : List UInt8} (h : SlB w (.slice A n cap) (x ++ y)) (hA : A ≠ none) : SlB w (.slice A x.length cap) x := by
  obtain ⟨A', cap', e, h1, h2, h3⟩ := h
  simp only [Value.slice.injEq] at e
  obtain ⟨rfl, _, rfl⟩ := e
  refine ⟨A, cap, rfl, by simp at h1; omega, fun e => absurd e hA, fun ad had j u hu => h3 ad had j u ?_⟩
  rw [bv_append, List.getElem?_append_left (by have := (List.getElem?_eq_some_iff.1 hu).1; exact this)]
  exact hu
theorem Own.cellAt {w : World} {base n cap : Nat} {A : Option Addr} {l : List UInt8} (h : Own w base (.slice A n cap) l) (hl : 0 < l.length) : ∃ g, A = some ⟨g, 0, none⟩ ∧ base ≤ g ∧ ∀ j (hj : j < l.length), w.cell? ⟨g, j, none⟩ = some (.int .u8 l[j].toNat) := by
  rcases h.2 with ⟨_, h2⟩ | ⟨g, cap', cur, e, hb, hg, _, _, _, ht⟩
  · omega
  · simp only [Value.slice.injEq] at e
    obtain ⟨rfl, _, _⟩ := e
    refine ⟨g, rfl, hb, fun j hj => ?_⟩
    have := bv_get l j hj
    rw [bcellAt hg, ← Array.getElem?_toList]
    rw [← ht, List.getElem?_take_of_lt (by omega)] at this
    exact this

theorem SlB.tail {w : World} {base n cap g : Nat} {x y : List UInt8} (h : Own w base (.slice (some ⟨g, 0, none⟩) n cap) (x ++ y)) (k : Nat) (hk : x.length = k) : SlB w (.slice (some ⟨g, k, none⟩) y.length (cap - k)) y := by
  obtain ⟨A', cap', e, h1, h2, h3⟩ := h.sl
  simp only [Value.slice.injEq] at e
  obtain ⟨rfl, _, rfl⟩ := e
  refine ⟨_, _, rfl, by simp at h1; omega, by simp, fun ad had j u hu => ?_⟩
  cases had
  have := h3 _ rfl (k + j) u (by rw [bv_append, List.getElem?_append_right (by rw [bv_len]; omega), bv_len, hk]; simpa using hu)
  rw [Addr.add_lit] at this ⊢
  rw [← this]
  congr 2
  omega
theorem str_ne {a b : ByteArray} (h : ¬ a = b) : (a.toList == b.toList) = false := by
  rw [beq_eq_false_iff_ne]
  intro e
  rw [ByteArray.toList_eq, ByteArray.toList_eq] at e
  exact h (ba_ext e)
theorem row_base {w : World} {base base' k n : Nat} {e : TypeId} {v : Value} {xs : List Value} (h : w.ownsRow base e k v n xs) (hb : base' ≤ base) : w.ownsRow base' e k v n xs := by
  refine ⟨h.1, ?_⟩
  rcases h.2 with h2 | ⟨g, cap, cur, h3, h4, h5⟩
  · exact .inl h2
  · exact .inr ⟨g, cap, cur, h3, Nat.le_trans hb h4, h5⟩
theorem cell_one_new1 (w : World) (o : Obj) (x : Value) (t : TypeId) : ∀ j u, [x][j]? = some u → ((w.alloc o).alloc (.cells #[x] t)).cell? ((⟨w.heap.size + 1, 0, none⟩ : Addr).add j) = some u := by
  have h := cell_one_new (w.alloc o) x t
  rw [asz] at h
  exact h
end Go.Proofs.YtomjiephbacocaaDoor
namespace Go.Proofs.YtomjiephbacocaaDoor
open Go.RowKit

theorem Tryd.infoInt : (Tryd.prog.info? 3).map (fun i => (i.zero, i.size, i.bytes)) = some (some (.int .i64 0), 1, 8) := by kernel_rfl
theorem row_ne {w : World} {b1 b2 k1 k2 n1 n2 : Nat} {e1 e2 : TypeId} {v1 v2 : Value} {x1 x2 : List Value} (h1 : w.ownsRow b1 e1 k1 v1 n1 x1) (h2 : w.ownsRow b2 e2 k2 v2 n2 x2) (hne : e1 ≠ e2) : v1.ownBlock = none ∨ v1.ownBlock ≠ v2.ownBlock := by
  rcases h1.2 with ⟨rfl, _⟩ | ⟨g, cap, cur, rfl, _, hg, _⟩
  · exact .inl rfl
  · refine .inr fun e => ?_
    rcases h2.2 with ⟨rfl, _⟩ | ⟨g', cap', cur', rfl, _, hg', _⟩
    · simp [Value.ownBlock] at e
    · simp [Value.ownBlock] at e
      subst e
      rw [hg] at hg'
      simp at hg'
      exact hne hg'.2
theorem row_ne_map {w : World} {base bm k n : Nat} {e : TypeId} {v : Value} {x : List Value} {T : Tb} (h : w.ownsRow base e k v n x) (q : MapT w bm T) : v.ownBlock ≠ some bm := by
  obtain ⟨D, ⟨es, clock, hb, _⟩, _⟩ := q
  rcases h.2 with ⟨rfl, _⟩ | ⟨g, cap, cur, rfl, _, hg, _⟩
  · simp [Value.ownBlock]
  · intro e
    simp [Value.ownBlock] at e
    subst e
    rw [hg] at hb
    cases hb
theorem ne_symm {a b : Option Nat} (h : a = none ∨ a ≠ b) : b = none ∨ b ≠ a := by
  cases b with
  | none => exact .inl rfl
  | some k =>
    right
    rcases h with h | h
    · rw [h]; simp
    · exact fun e => h e.symm
theorem at_ne {a b c : Option Nat} {s : Nat} (h : a = b ∨ a = some s) (k : b = none ∨ b ≠ c) (hc : ∀ x, c = some x → x < s) : a = none ∨ a ≠ c := by
  rcases h with rfl | rfl
  · exact k
  · right
    intro e
    have := hc s e.symm
    omega
theorem row_cell {w : World} {base n cap : Nat} {e : TypeId} {A : Option Addr} {xs : List Value} (h : w.ownsRow base e 1 (.slice A n cap) n xs) {j : Nat} {u : Value} (hj : xs[j]? = some u) : ∃ g, A = some ⟨g, 0, none⟩ ∧ w.cell? ⟨g, j, none⟩ = some u := by
  have hjl := (List.getElem?_eq_some_iff.1 hj).1
  rcases h.2 with ⟨_, h2⟩ | ⟨g, cap', cur, e, hb, hg, _, _, _, ht⟩
  · have := h.1; omega
  · simp only [Value.slice.injEq] at e
    obtain ⟨rfl, _, _⟩ := e
    refine ⟨g, rfl, ?_⟩
    rw [bcellAt hg, ← Array.getElem?_toList]
    have := h.1
    rw [← ht, List.getElem?_take_of_lt (by omega)] at hj
    exact hj
end Go.Proofs.YtomjiephbacocaaDoor
namespace Go.Proofs.YtomjiephbacocaaDoor
open Go.RowKit

end Go.Proofs.YtomjiephbacocaaDoor
