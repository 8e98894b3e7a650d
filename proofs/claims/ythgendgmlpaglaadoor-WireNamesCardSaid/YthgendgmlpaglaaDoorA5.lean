/-
  Package comp: Read.
  comp.Read at any place; the document's Read of layer 4.
  name.May.
  comp.Table: a map in a field behind a pointer; which blocks a call on a table may turn.
  comp.Table.Put.
  Small laws on bytes and tables that walks of several chapters use.
  Rows of a law's own beside a table.
  The own table of a law, and what was put by it.
-/
import Derived.Test.YthgendgmlpaglaaDoorA4
import Derived.Test.YthgendgmlpaglaaDoorA3
import Derived.Test.YthgendgmlpaglaaDoorA2
import Derived.Deep.AppendLies
import Derived.Test.YthgendgmlpaglaaDoorA1
import Derived.Maps.OwnSet
import Derived.WalkKit
import Derived.Maps.AppendAt
namespace Go.Proofs.YthgendgmlpaglaaDoor
open Go.RowKit

theorem byte_ok (b : Nat) (s : ByteArray) (p : Nat) (w : World) (h : Cur w b s p) (he : Et w) (hp : p + 1 ≤ s.size) (hs : s.size ≤ maxLen) : Calls Tryd.prog 62 #[.pointer (some ⟨b, 0, none⟩)] w fun e w' => e = .returned (.tuple #[.int .u8 (bt s p), .int .i64 0]) ∧ Cur w' b s (p + 1) ∧ w.grownBy w' (some b) := by
  have e := byte_any b s p w h he (by omega) hs
  rw [rdV_ok hp, rdE_ok hp, rdP_ok hp, bt_num s p hp] at e
  exact e
theorem byte_short (b : Nat) (s : ByteArray) (p : Nat) (w : World) (h : Cur w b s p) (he : Et w) (hp : p ≤ s.size) (hq : s.size < p + 1) (hs : s.size ≤ maxLen) : Calls Tryd.prog 62 #[.pointer (some ⟨b, 0, none⟩)] w fun e w' => e = .returned (.tuple #[.int .u8 0, .int .i64 4]) ∧ Cur w' b s p ∧ w.grownBy w' (some b) := by
  have e := byte_any b s p w h he hp hs
  rw [rdV_no hq, rdE_no hq, rdP_no hq] at e
  exact e

theorem lab_cons (s : ByteArray) (p : Nat) (h : p + 1 + bt s p ≤ s.size) : lab s p = [UInt8.ofNat (bt s p)] ++ (s.extract (p + 1) (p + 1 + bt s p)).data.toList := by
  have h' : p < s.data.toList.length := by rw [Array.length_toList]; show p < s.size; omega
  have e1 : UInt8.ofNat (bt s p) = s.data.toList[p] := by
    unfold bt
    rw [List.getElem?_eq_getElem h']
    simp
  unfold lab
  rw [Lib.extract_data, Lib.extract_data, e1]
  rw [show p + 1 + bt s p - p = bt s p + 1 by omega, show p + 1 + bt s p - (p + 1) = bt s p by omega, List.drop_eq_getElem_cons h', List.take_succ_cons]
  rfl
theorem i64_or_nat (a b : Nat) (ha : a < 4294967296) (hb : b < 4294967296) : bits .or .i64 (a : Int) (b : Int) = ((a ||| b : Nat) : Int) := by
  have hx : a ||| b < 2 ^ 32 := Nat.or_lt_two_pow (by omega) (by omega)
  show IntKind.i64.wrap ((BitVec.ofInt 64 (a : Int) ||| BitVec.ofInt 64 (b : Int)).toNat : Int) = _
  rw [BitVec.toNat_or, BitVec.toNat_ofInt, BitVec.toNat_ofInt, IntKind.wrap_i64]
  rw [show ((a : Int) % ((2 ^ 64 : Nat) : Int)).toNat = a by omega, show ((b : Int) % ((2 ^ 64 : Nat) : Int)).toNat = b by omega]
  omega
theorem ptr_bits (s : ByteArray) (p : Nat) (h : 192 ≤ bt s p) : bits .or .i64 ((bt s p : Int) % 64 * 256) (bt s (p + 1) : Int) = (ptr s p : Int) := by
  have h1 := bt_lt s p
  have h2 := bt_lt s (p + 1)
  unfold ptr
  rw [show ((bt s p : Int) % 64 * 256) = (((bt s p - 192) * 256 : Nat) : Int) by omega, i64_or_nat _ _ (by omega) (by omega), nat_join 8 _ _ (by omega) (by omega)]
/-- A slice's length. -/
def slLen : Value → Nat
  | .slice _ n _ => n
  | _ => 0
/-- What Read holds at its loop's head. -/
structure CrL (w : World) (bc : Nat) (s : ByteArray) (p : Nat) (v : Value) (out : List UInt8) (wr : World) : Prop where
  gr : w.grownBy wr none
  cur : Cur wr bc s p
  own : Own wr (bc + 1) v out
  lc : w.heap.size ≤ bc
  le : p ≤ s.size
  few : out.length ≤ 254
theorem CrL.step {w wr w' : World} {bc p q : Nat} {s : ByteArray} {v : Value} {out : List UInt8} (h : CrL w bc s p v out wr) (g : wr.grownBy w' (some bc)) (c : Cur w' bc s q) (hq : q ≤ s.size) : CrL w bc s q v out w' :=
  ⟨gstepo h.gr g h.lc, c, h.own.kepto g (by omega), h.lc, hq, h.few⟩
theorem CrL.new {w wr : World} {bc p : Nat} {s : ByteArray} (g : w.grownBy wr none) (c : Cur wr bc s p) (lc : w.heap.size ≤ bc) (hp : p ≤ s.size) : CrL w bc s p (.slice none 0 0) [] wr :=
  ⟨g, c, Own.nil _ _, lc, hp, by simp⟩

set_option maxRecDepth 100000 in
set_option maxHeartbeats 4000000 in
theorem cread_in (s : ByteArray) (p0 : Nat) (w : World) (he : Et w) (hp0 : p0 ≤ s.size) (hs : s.size ≤ 1000000) : Calls Tryd.prog 47 #[.string s, .int .i64 p0] w fun e w' => e = .returned (rdR (rdF s p0 p0 none [])) ∧ w.grownBy w' none := by
  have HE := Lib.hid he
  have hm : s.size ≤ maxLen := by unfold maxLen; omega
  obtain ⟨i0, hi, hz0, hz1, hz2⟩ := info_parts Tryd.infoByte
  clear he
  go_enter Tryd.func47, Tryd.ntmps47
  go_wp2_with fail
  refine Calls.mono (new_ex s _) ?_
  rintro e w1 ⟨bc, rfl, hl, hc, hg⟩
  have E1 := Lib.hid (show w.grownBy w1 none ∧ Cur w1 bc s 0 from ⟨hg, hc⟩)
  clear hc hg
  go_wp2_with fail
  refine Calls.mono (seek_ok bc s 0 w1 p0 E1.out.2 (by omega) (by omega)) ?_
  rintro e w2 ⟨rfl, hc, hg⟩
  have E2 := Lib.hid (show CrL w bc s p0 (.slice none 0 0) [] w2 from CrL.new (gstepo E1.out.1 hg hl) hc hl hp0)
  clear hc hg E1
  go_wp2_with fail
  go_loopw [5, 8, 9, 10] (fun vn vl vp vo wr => ∃ p lim nx out, vn = .int .i64 ((Option.getD nx 0 : Nat) : Int) ∧ vl = .int .i64 (lim : Nat) ∧ vp = .bool nx.isSome ∧ lim ≤ s.size ∧ CrL w bc s p vo out wr ∧ rdF s p0 p0 none [] = rdF s p lim nx out) (fun _ vl _ vo _ => (intOf vl).toNat * 300 + (300 - slLen vo))
  case atStart => exact ⟨p0, p0, none, [], rfl, rfl, rfl, hp0, E2.out, rfl⟩
  case round =>
    obtain ⟨p, lim, nx, out, rfl, rfl, rfl, hlim, hr, hres⟩ := hrel
    have R0 := Lib.hid hr
    have HR := Lib.hid hres
    have hp := hr.le
    have hfew := hr.few
    obtain ⟨A, cap, rfl, hcap, hcm⟩ := hr.own.shape
    unfold maxLen at hcm
    clear hr hres
    go_wp2_with fail
    by_cases h1 : p + 1 ≤ s.size
    · refine Calls.mono (byte_ok bc s p wr R0.out.cur (HE.out.kept R0.out.gr (by simp)) h1 hm) ?_
      rintro e w3 ⟨rfl, hc3, hg3⟩
      have R3 := Lib.hid (R0.out.step hg3 hc3 h1)
      clear hc3 hg3
      have hb := bt_lt s p
      by_cases hz : bt s p = 0
      · have q0 : (((bt s p : Nat) : Int) / 64 == 0) = true := by simp; omega
        have z0 : (((bt s p : Nat) : Int) == 0) = true := by simp; omega
        have HN := Lib.hid (HR.out.trans (rd_end (by omega) hz))
        cases nx with
        | none =>
          go_wp2_with fail
          refine Calls.mono (at_any bc s (p + 1) w3 R3.out.cur) ?_
          rintro e w4 ⟨rfl, hq⟩
          subst hq
          go_wp2_with (at_builtin; refine wpList_app_sl rfl (.tmp 43) (.tmp 44) 26 rfl (bc + 1) i0 Tryd.underlying26 hi hz0 hz1 hz2 (.slice A out.length cap) out [0] rfl (R3.out.own.kept0 (galloc (grefl _ none) _)) _ rfl (sl_new w3 _ [0] _ 1 rfl rfl) ?d3 ?d4 ?_)
          case d3 => simp; omega
          case d4 => have := blt R3.out.cur; simp; omega
          intro v5 w5 ho5 hg5
          have hcv := run_string_of (P := Tryd.prog) w5 26 9 5 Tryd.underlying26 Tryd.underlying5 Tryd.underlying9 ho5.sl
          have G5 := Lib.hid (show w.grownBy w5 none from gstep R3.out.gr (gfr1 hg5) (fun r hr => by have := (R3.out.own.block r hr).1; have := R3.out.lc; omega))
          clear ho5 hg5
          go_wp2_with fail
          go_ret3
          rw [HN.out]
          exact ⟨rfl, G5.out⟩
        | some nk =>
          go_wp2_with (at_builtin; refine wpList_app_sl rfl (.tmp 43) (.tmp 44) 26 rfl (bc + 1) i0 Tryd.underlying26 hi hz0 hz1 hz2 (.slice A out.length cap) out [0] rfl (R3.out.own.kept0 (galloc (grefl _ none) _)) _ rfl (sl_new w3 _ [0] _ 1 rfl rfl) ?d3 ?d4 ?_)
          case d3 => simp; omega
          case d4 => have := blt R3.out.cur; simp; omega
          intro v5 w5 ho5 hg5
          have hcv := run_string_of (P := Tryd.prog) w5 26 9 5 Tryd.underlying26 Tryd.underlying5 Tryd.underlying9 ho5.sl
          have G5 := Lib.hid (show w.grownBy w5 none from gstep R3.out.gr (gfr1 hg5) (fun r hr => by have := (R3.out.own.block r hr).1; have := R3.out.lc; omega))
          clear ho5 hg5
          go_wp2_with fail
          go_ret3
          rw [HN.out]
          exact ⟨rfl, G5.out⟩
      · have z0 : (((bt s p : Nat) : Int) == 0) = false := by simp; omega
        by_cases h64 : bt s p < 64
        · have q0 : (((bt s p : Nat) : Int) / 64 == 0) = true := by simp; omega
          go_wp2_with fail
          by_cases hl1 : p + 1 + bt s p ≤ s.size
          · refine Calls.mono (T_ok bc s (p + 1) w3 (bt s p) R3.out.cur hl1 hm) ?_
            rintro e w4 ⟨rfl, hc4, hg4⟩
            have R4 := Lib.hid (R3.out.step hg4 hc4 hl1)
            clear hc4 hg4
            have hLs : (s.extract (p + 1) (p + 1 + bt s p)).size = bt s p := by rw [ByteArray.size_extract]; omega
            have HLab := Lib.hid (lab_cons s p hl1)
            by_cases h255 : out.length + 1 + bt s p + 1 ≤ 255
            · have HN := Lib.hid (HR.out.trans (rd_label hz h64 hl1 h255))
              generalize s.extract (p + 1) (p + 1 + bt s p) = L at *
              have k0 : decide ((255 : Int) < (out.length : Int) + 1 + ((bt s p : Nat) : Int) + 1) = false := by simp; omega
              have hof := Lib.hid (show [Value.int .u8 ((bt s p : Nat) : Int)] = bv [UInt8.ofNat (bt s p)] by simp [bv]; omega)
              go_wp2_with (at_builtin; refine wpList_app_sl rfl (.tmp 66) (.tmp 68) 26 rfl (bc + 1) i0 Tryd.underlying26 hi hz0 hz1 hz2 (.slice A out.length cap) out [UInt8.ofNat (bt s p)] rfl (R4.out.own.kept0 (galloc (grefl _ none) _)) _ rfl (sl_new w4 _ [UInt8.ofNat (bt s p)] _ 1 (by exact hof.out) rfl) ?d3 ?d4 ?_)
              case d3 => simp; omega
              case d4 => have := blt R4.out.cur; simp; omega
              intro v5 w5 ho5 hg5
              have R5 := Lib.hid (show w.grownBy w5 none ∧ Cur w5 bc s (p + 1 + bt s p) ∧ Own w5 (bc + 1) v5 (out ++ [UInt8.ofNat (bt s p)]) from ⟨gstep R4.out.gr (gfr1 hg5) (fun r hr => by have := (R4.out.own.block r hr).1; have := R4.out.lc; omega), R4.out.cur.kept (gfr1 hg5) (fun e => by have := (R4.out.own.block _ e.symm).1; omega), ho5⟩)
              have l5 : bc + 1 ≤ w5.heap.size := blt R5.out.2.1
              clear ho5 hg5
              go_wp2_with (at_builtin; refine wpList_app_str rfl (.tmp 69) (.tmp 70) 26 9 rfl (bc + 1) i0 Tryd.underlying26 Tryd.underlying9 hi hz0 hz1 hz2 _ _ rfl R5.out.2.2 L rfl ?e3 l5 ?_)
              case e3 => simp; omega
              intro v6 w6 ho6 hg6
              have R6 := Lib.hid (show CrL w bc s (p + 1 + bt s p) v6 (out ++ lab s p) w6 from ⟨gstep R5.out.1 hg6 (fun r hr => by have := (R5.out.2.2.block r hr).1; have := R4.out.lc; omega), R5.out.2.1.kept hg6 (fun e => by have := (R5.out.2.2.block _ e.symm).1; omega), by rw [HLab.out]; exact ho6, R4.out.lc, hl1, by rw [List.length_append, lab_len s p hl1]; omega⟩)
              obtain ⟨A6, c6, rfl, _, _⟩ := ho6.shape
              clear ho6 hg6
              go_wp2_with fail
              go_roundw
              case rel => exact ⟨_, _, _, _, rfl, rfl, rfl, hlim, R6.out, HN.out⟩
              case measure => simp [intOf, slLen]; omega
            · have HN := Lib.hid (HR.out.trans (rd_long hz h64 hl1 h255))
              generalize s.extract (p + 1) (p + 1 + bt s p) = L at *
              have k0 : decide ((255 : Int) < (out.length : Int) + 1 + ((bt s p : Nat) : Int) + 1) = true := by simp; omega
              go_wp2_with fail
              go_ret3
              rw [HN.out]
              exact ⟨rfl, R4.out.gr⟩
          · refine Calls.mono (T_short bc s (p + 1) w3 (bt s p) R3.out.cur (HE.out.kept R3.out.gr (by simp)) (by omega) (by omega) (by omega) hm) ?_
            rintro e w4 ⟨rfl, hc4, hg4⟩
            have R4 := Lib.hid (R3.out.step hg4 hc4 (by omega))
            have HN := Lib.hid (HR.out.trans (rd_lshort (by omega) hz h64 hl1))
            clear hc4 hg4
            go_wp2_with fail
            go_ret3
            rw [HN.out]
            exact ⟨rfl, R4.out.gr⟩
        · have q0 : (((bt s p : Nat) : Int) / 64 == 0) = false := by simp; omega
          by_cases h192 : bt s p < 192
          · have q3 : (((bt s p : Nat) : Int) / 64 == 3) = false := by simp; omega
            have HN := Lib.hid (HR.out.trans (rd_form (by omega) (by omega) h192))
            go_wp2_with fail
            go_ret3
            rw [HN.out]
            exact ⟨rfl, R3.out.gr⟩
          · have q3 : (((bt s p : Nat) : Int) / 64 == 3) = true := by simp; omega
            go_wp2_with fail
            by_cases h2 : p + 1 + 1 ≤ s.size
            · refine Calls.mono (byte_ok bc s (p + 1) w3 R3.out.cur (HE.out.kept R3.out.gr (by simp)) h2 hm) ?_
              rintro e w4 ⟨rfl, hc4, hg4⟩
              have R4 := Lib.hid (R3.out.step hg4 hc4 h2)
              clear hc4 hg4
              have hb2 := bt_lt s (p + 1)
              have HP := ptr_bits s p (by omega)
              by_cases hlp : ptr s p < lim
              · have HN := Lib.hid (HR.out.trans (rd_ptr (by omega) h2 hlp))
                cases nx with
                | none =>
                  go_wp2_with fail
                  refine Calls.mono (at_any bc s (p + 1 + 1) w4 R4.out.cur) ?_
                  rintro e w5 ⟨rfl, hq⟩
                  subst hq
                  go_wp2_with fail
                  refine Calls.mono (seek_ok bc s (p + 1 + 1) w4 (ptr s p : Nat) R4.out.cur (by omega) (by omega)) ?_
                  rintro e w6 ⟨rfl, hc6, hg6⟩
                  have R6 := Lib.hid (R4.out.step hg6 hc6 (by omega))
                  clear hc6 hg6
                  go_wp2_with fail
                  go_roundw
                  case rel => exact ⟨_, _, _, _, rfl, rfl, rfl, by omega, R6.out, HN.out⟩
                  case measure => simp [intOf, slLen]; omega
                | some nk =>
                  go_wp2_with fail
                  refine Calls.mono (seek_ok bc s (p + 1 + 1) w4 (ptr s p : Nat) R4.out.cur (by omega) (by omega)) ?_
                  rintro e w6 ⟨rfl, hc6, hg6⟩
                  have R6 := Lib.hid (R4.out.step hg6 hc6 (by omega))
                  clear hc6 hg6
                  go_wp2_with fail
                  go_roundw
                  case rel => exact ⟨_, _, _, _, rfl, rfl, rfl, by omega, R6.out, HN.out⟩
                  case measure => simp [intOf, slLen]; omega
              · have HN := Lib.hid (HR.out.trans (rd_loop (by omega) h2 hlp))
                cases nx with
                | none =>
                  go_wp2_with fail
                  refine Calls.mono (at_any bc s (p + 1 + 1) w4 R4.out.cur) ?_
                  rintro e w5 ⟨rfl, hq⟩
                  subst hq
                  go_wp2_with fail
                  go_ret3
                  rw [HN.out]
                  exact ⟨rfl, R4.out.gr⟩
                | some nk =>
                  go_wp2_with fail
                  go_ret3
                  rw [HN.out]
                  exact ⟨rfl, R4.out.gr⟩
            · refine Calls.mono (byte_short bc s (p + 1) w3 R3.out.cur (HE.out.kept R3.out.gr (by simp)) (by omega) (by omega) hm) ?_
              rintro e w4 ⟨rfl, hc4, hg4⟩
              have R4 := Lib.hid (R3.out.step hg4 hc4 (by omega))
              have HN := Lib.hid (HR.out.trans (rd_pshort (by omega) (by omega) h2))
              clear hc4 hg4
              go_wp2_with fail
              go_ret3
              rw [HN.out]
              exact ⟨rfl, R4.out.gr⟩
    · refine Calls.mono (byte_short bc s p wr R0.out.cur (HE.out.kept R0.out.gr (by simp)) hp (by omega) hm) ?_
      rintro e w3 ⟨rfl, hc3, hg3⟩
      have R3 := Lib.hid (R0.out.step hg3 hc3 hp)
      have HN := Lib.hid (HR.out.trans (rd_short (by omega)))
      clear hc3 hg3
      go_wp2_with fail
      go_ret3
      rw [HN.out]
      exact ⟨rfl, R3.out.gr⟩
end Go.Proofs.YthgendgmlpaglaaDoor
namespace Go.Proofs.YthgendgmlpaglaaDoor
open Go.RowKit

theorem cread_any (s : ByteArray) (at_ : Int) (w : World) (he : Et w) (hs : s.size ≤ 1000000) : Calls Tryd.prog 47 #[.string s, .int .i64 at_] w fun e w' => e = .returned (rdR (rdAt s at_)) ∧ w.grownBy w' none := by
  by_cases h : 0 ≤ at_ ∧ at_ ≤ (s.size : Int)
  · obtain ⟨k, rfl⟩ := Int.eq_ofNat_of_zero_le h.1
    rw [rdAt_in h.1 h.2]
    exact cread_in s k w he (by omega) hs
  · rw [rdAt_out (by omega)]
    go_enter Tryd.func47, Tryd.ntmps47
    go_wp2_with fail
    refine Calls.mono (new_ex s _) ?_
    rintro e w1 ⟨bc, rfl, hl, hc, hg⟩
    have E1 := Lib.hid (show w.grownBy w1 none ∧ Cur w1 bc s 0 from ⟨hg, hc⟩)
    clear hc hg
    go_wp2_with fail
    refine Calls.mono (seek_bad bc s 0 w1 at_ E1.out.2 (by omega)) ?_
    rintro e w2 ⟨rfl, hq⟩
    subst hq
    go_wp2_with fail
    go_ret3
    exact ⟨rfl, E1.out.1⟩

/-- The place behind, -1 where it is not known yet. -/
def nxI : Option Nat → Int
  | none => -1
  | some k => k
theorem str_lab (out : List UInt8) (s : ByteArray) (p : Nat) : (⟨out.toArray⟩ : ByteArray) ++ s.extract p (p + 1 + bt s p) = ⟨(out ++ lab s p).toArray⟩ := by
  rw [← mk_append_list]; rfl
theorem str_end (out : List UInt8) : (⟨out.toArray⟩ : ByteArray) ++ ⟨#[0]⟩ = ⟨(out ++ [0]).toArray⟩ := by
  rw [← mk_append_list]
theorem str_size (out : List UInt8) : (⟨out.toArray⟩ : ByteArray).size = out.length := by simp [ByteArray.size]

end Go.Proofs.YthgendgmlpaglaaDoor
namespace Go.Proofs.YthgendgmlpaglaaDoor
open Go.RowKit

set_option maxRecDepth 100000 in
theorem may_any (s : ByteArray) (w : World) : Calls Tryd.prog 33 #[.string s] w fun e w' => e = .returned (.bool (may s)) ∧ w = w' := by
  by_cases h0 : s.size = 0
  · have hm : may s = false := by unfold may; rw [scan_out (by omega)]; simp
    rw [hm]
    go_enter Tryd.func33, Tryd.ntmps33
    go_wp2_with fail
    go_ret
    exact ⟨rfl, rfl⟩
  · by_cases h1 : 255 < s.size
    · have hm : may s = false := by unfold may; simp; omega
      rw [hm]
      go_enter Tryd.func33, Tryd.ntmps33
      go_wp2_with fail
      go_ret
      exact ⟨rfl, rfl⟩
    · have hm : may s = scan s 0 := by unfold may; simp; omega
      rw [hm]
      have z1 : (((s.size : Nat) : Int) == 0) = false := by rw [beq_eq_false_iff_ne]; omega
      have z2 : decide ((255 : Int) < ((s.size : Nat) : Int)) = false := by simp; omega
      go_enter Tryd.func33, Tryd.ntmps33
      go_wp2_with fail
      go_loop [3] (fun v => ∃ p : Nat, v = .int .i64 p ∧ p ≤ 400 ∧ scan s 0 = scan s p) (fun v => 400 - (intOf v).toNat)
      case atStart => exact ⟨0, rfl, by omega, rfl⟩
      case round =>
        obtain ⟨p, rfl, hp, hr⟩ := hrel
        have HR := Lib.hid hr
        clear hr
        by_cases hlt : p < s.size
        · have hg := (bt_get s p hlt).symm
          have hb := bt_lt s p
          have l1 := s[p].toNat_lt
          by_cases hz : bt s p = 0
          · have HN := Lib.hid (HR.out.trans (scan_end hlt hz))
            have z0 : (((bt s p : Nat) : Int) == 0) = true := by simp; omega
            go_wp2_with fail
            go_ret
            rw [HN.out]
            refine ⟨?_, rfl⟩
            by_cases he : p + 1 = s.size
            · simp [he]; omega
            · simp [he]; omega
          · have z0 : (((bt s p : Nat) : Int) == 0) = false := by simp; omega
            by_cases hbig : 63 < bt s p
            · have HN := Lib.hid (HR.out.trans (scan_big hlt hbig))
              go_wp2_with fail
              go_ret
              rw [HN.out]
              exact ⟨rfl, rfl⟩
            · have HN := Lib.hid (HR.out.trans (scan_step hlt hz (by omega)))
              go_wp2_with fail
              go_round
              case rel => exact ⟨p + 1 + bt s p, by go_num, by omega, HN.out⟩
              case measure => simp [intOf]; omega
        · have HN := Lib.hid (HR.out.trans (scan_out (by omega)))
          go_wp2_with fail
          go_ret
          rw [HN.out]
          exact ⟨rfl, rfl⟩
end Go.Proofs.YthgendgmlpaglaaDoor
namespace Go.Proofs.YthgendgmlpaglaaDoor
open Go.RowKit Go.Maps

/-- Only block b, the map's block m (if any) and new blocks have turned. -/
structure TG (w w' : World) (b : Nat) (m : Option Nat) : Prop where
  os : w'.os = w.os
  tape : w'.tape = w.tape
  output : w'.output = w.output
  size : w.heap.size ≤ w'.heap.size
  block : ∀ i, i < w.heap.size → i ≠ b → some i ≠ m → w'.heap[i]? = w.heap[i]?
theorem TG.refl (w : World) (b : Nat) (m : Option Nat) : TG w w b m := ⟨rfl, rfl, rfl, Nat.le_refl _, fun _ _ _ _ => rfl⟩
theorem TG.of0 {w w' : World} (g : w.grownBy w' none) (b : Nat) (m : Option Nat) : TG w w' b m := ⟨g.os, g.tape, g.output, g.size, fun i hi _ _ => g.block i hi (by simp)⟩
theorem TG.ofB {w w' : World} {b : Nat} (g : w.grownBy w' (some b)) (m : Option Nat) : TG w w' b m := ⟨g.os, g.tape, g.output, g.size, fun i hi hn _ => g.block i hi (by simpa using hn)⟩
theorem TG.ofM {w w' : World} {m : Option Nat} (g : w.grownBy w' m) (b : Nat) : TG w w' b m := ⟨g.os, g.tape, g.output, g.size, fun i hi _ hn => g.block i hi hn⟩
theorem TG.trans {w w1 w2 : World} {b : Nat} {m m1 : Option Nat} (h : TG w w1 b m) (k : TG w1 w2 b m1) (hm : ∀ i, m1 = some i → m = some i ∨ w.heap.size ≤ i) : TG w w2 b m :=
  ⟨k.os.trans h.os, k.tape.trans h.tape, k.output.trans h.output, Nat.le_trans h.size k.size, fun i hi hb hn => (k.block i (Nat.lt_of_lt_of_le hi h.size) hb (fun e => by
    rcases hm i e.symm with h1 | h1
    · exact hn h1.symm
    · omega)).trans (h.block i hi hb hn)⟩
theorem TG.split {w w' : World} {b : Nat} {m : Option Nat} (h : TG w w' b m) : ∃ wm, w.grownBy wm (some b) ∧ wm.grownBy w' m := by
  cases m with
  | none => exact ⟨w', ⟨h.os, h.tape, h.output, h.size, fun i hi hn => h.block i hi (fun e => hn (by rw [e])) (by simp)⟩, grefl _ _⟩
  | some k =>
    by_cases hk : k < w.heap.size
    · refine ⟨{ w' with heap := w'.heap.setIfInBounds k w.heap[k] }, ⟨h.os, h.tape, h.output, by simpa using h.size, fun i hi hn => ?_⟩, ⟨rfl, rfl, rfl, by simp, fun i hi hn => ?_⟩⟩
      · simp only [Array.getElem?_setIfInBounds]
        split
        · rename_i e
          subst e
          rw [if_pos (Nat.lt_of_lt_of_le hk h.size)]
          simp [hk]
        · rename_i e
          exact h.block i hi (fun x => hn (by rw [x])) (fun x => e (by simpa using x.symm))
      · simp only [Array.getElem?_setIfInBounds]
        rw [if_neg (fun e => hn (by rw [e]))]
    · exact ⟨w', ⟨h.os, h.tape, h.output, h.size, fun i hi hn => h.block i hi (fun e => hn (by rw [e])) (fun e => by simp at e; omega)⟩, grefl _ _⟩
theorem TG.blk {w w' : World} {b : Nat} {m : Option Nat} (h : TG w w' b m) {k : Nat} {o : Obj} (ho : w.heap[k]? = some o) (h1 : k ≠ b) (h2 : some k ≠ m) : w'.heap[k]? = some o := by rw [h.block k (blt ho) h1 h2]; exact ho
/-- A call on a table of one's own turns nothing that was there before. -/
theorem TG.gr {w0 w w' : World} {b : Nat} {m : Option Nat} (g : w0.grownBy w none) (h : TG w w' b m) (hb : w0.heap.size ≤ b) (hm : ∀ k, m = some k → w0.heap.size ≤ k) : w0.grownBy w' none :=
  ⟨h.os.trans g.os, h.tape.trans g.tape, h.output.trans g.output, Nat.le_trans g.size h.size, fun i hi _ => (h.block i (Nat.lt_of_lt_of_le hi g.size) (by omega) (fun e => by have := hm i e.symm; omega)).trans (g.block i hi (by simp))⟩
theorem SlB.keptT {w w' : World} {v : Value} {l : List UInt8} {b : Nat} {m : Option Nat} (h : SlB w v l) (g : TG w w' b m) (h1 : v.ownBlock ≠ some b) (h2 : ∀ k, m = some k → v.ownBlock ≠ some k) : SlB w' v l := by
  obtain ⟨wm, g1, g2⟩ := g.split
  exact (h.kept g1 (fun k e => .inr (by cases e; exact h1))).kept g2 (fun k e => .inr (h2 k e))
theorem Own.keptT {w w' : World} {base : Nat} {v : Value} {l : List UInt8} {b : Nat} {m : Option Nat} (h : Own w base v l) (g : TG w w' b m) (h1 : v.ownBlock ≠ some b) (h2 : m = none ∨ v.ownBlock ≠ m) : Own w' base v l := by
  obtain ⟨wm, g1, g2⟩ := g.split
  exact (h.kept g1 (.inr h1)).kept g2 h2

theorem lawS : Keyed Tryd.prog 9 := string_keyed Tryd.underlying9
theorem zeroI (w : World) : (zeroValue 3).run Tryd.prog w = .ok (.int .i64 0) w := by kernel_rfl
theorem keyS (s : ByteArray) (h : s.size ≤ maxLen) : keyOf Tryd.prog 9 (.string s) = some (.string s.data.toList) := by
  simp [keyOf, mapKey, Tryd.underlying9, h]
/-- The block bm is a map that holds just the table T. -/
def MapT (w : World) (bm : Nat) (T : Tb) : Prop :=
  ∃ D : DataW Unit, w.ownsMap Tryd.prog 9 (plainElem Tryd.prog 3) bm T.length D ∧ ∀ s : ByteArray, (∀ p, tget T s = some p → Maps.has D (.string s.data.toList) = true ∧ ∀ z, D.atKey (.string s.data.toList) z = .lit (.int .i64 p)) ∧ (tget T s = none → Maps.has D (.string s.data.toList) = false)
theorem lit_ne {s s' : ByteArray} (h : s' ≠ s) : (Lit.string s'.data.toList) ≠ .string s.data.toList := by
  intro e
  simp only [Lit.string.injEq] at e
  refine h ?_
  cases s; cases s'
  simp at e
  rw [e]
theorem MapT.kept {w w' : World} {bm : Nat} {T : Tb} {row : Option Nat} (h : MapT w bm T) (g : w.grownBy w' row) (hr : some bm ≠ row) : MapT w' bm T := by
  obtain ⟨D, hD, hA⟩ := h
  exact ⟨D, hD.kept g hr, hA⟩
theorem MapT.lt {w : World} {bm : Nat} {T : Tb} (h : MapT w bm T) : bm < w.heap.size := by obtain ⟨D, hD, _⟩ := h; exact hD.lt
theorem MapT.look {w : World} {bm : Nat} {T : Tb} (h : MapT w bm T) (s : ByteArray) (hs : s.size ≤ maxLen) : (Instr.lookup 116 (.map (some bm)) (.string s) true).run Tryd.prog w = .ok (.tuple #[.int .i64 (((tget T s).getD 0 : Nat) : Int), .bool (tget T s).isSome]) w := by
  obtain ⟨D, hD, hA⟩ := h
  obtain ⟨v, ps, hr, hv⟩ := hD.look_ok (t := 116) (e := 3) lawS Tryd.underlying116 (zeroI w) (plainElem_int Tryd.underlying3 (by decide)) (keyS s hs)
  rw [hr]
  obtain ⟨h1, h2⟩ := hA s
  cases hT : tget T s with
  | none =>
    have e1 := h2 hT
    rw [atKey_of_not_has e1] at hv
    obtain ⟨a, rfl, e2, _⟩ := plainElem_int_inv Tryd.underlying3 hv
    simp only [Prod.mk.injEq, DataW.lit.injEq, Lit.int.injEq, true_and] at e2
    rw [e1, ← e2.1]
    rfl
  | some p =>
    obtain ⟨e1, e3⟩ := h1 p hT
    rw [e3] at hv
    obtain ⟨a, rfl, e2, _⟩ := plainElem_int_inv Tryd.underlying3 hv
    simp only [Prod.mk.injEq, DataW.lit.injEq, Lit.int.injEq, true_and] at e2
    rw [e1, ← e2.1]
    rfl
theorem look_none (w : World) (s : ByteArray) (hs : s.size ≤ maxLen) : (Instr.lookup 116 (.map none) (.string s) true).run Tryd.prog w = .ok (.tuple #[.int .i64 0, .bool false]) w :=
  look_nil (w := w) true lawS Tryd.underlying116 (zeroI w) (keyS s hs)
theorem MapT.store {w : World} {bm : Nat} {T : Tb} (h : MapT w bm T) (s : ByteArray) (p : Nat) (hs : s.size ≤ maxLen) (hp : p ≤ 1000000) (hn : tget T s = none) (hT : T.length ≤ 1000000) :
    ∃ w', (Instr.mapUpdate 116 (.map (some bm)) (.string s) (.int .i64 p)).run Tryd.prog w = .ok () w' ∧ MapT w' bm (T ++ [(s, p)]) ∧ w.grownBy w' (some bm) := by
  obtain ⟨D, hD, hA⟩ := h
  have hw : (Lit.int .i64 (p : Int)).wf = true := by
    show (decide ((-9223372036854775808 : Int) ≤ (p : Int)) && decide ((p : Int) ≤ 9223372036854775807)) = true
    simp
    omega
  obtain ⟨w', hr, ho, ht⟩ := hD.store (t := 116) (e := 3) lawS Tryd.underlying116 (by unfold maxLen; omega) (keyS s hs) (plainElem_int Tryd.underlying3 hw)
  refine ⟨w', hr, ⟨_, by simpa using ho, fun s' => ?_⟩, ht.grown⟩
  have hkl : WideAt.IsKeyLit (Lit.string s.data.toList) := trivial
  by_cases he : s' = s
  · subst he
    rw [tget_snoc_same hn]
    refine ⟨fun q hq => ?_, fun h => by cases h⟩
    cases hq
    exact ⟨has_put_same hD.isMap hkl _, fun z => atKey_put_same hD.isMap hkl _ _⟩
  · rw [tget_snoc_other he, has_put_other (lit_ne he)]
    refine ⟨fun q hq => ?_, (hA s').2⟩
    obtain ⟨h1, h2⟩ := (hA s').1 q hq
    exact ⟨h1, fun z => by rw [atKey_put_other (lit_ne he)]; exact h2 z⟩
theorem MapT.new (w : World) : MapT (w.alloc (.map #[] 0)) w.heap.size [] :=
  ⟨.map [], World.ownsMap_made w _ _ _, fun s => ⟨fun p hp => (by cases hp), fun _ => rfl⟩⟩

/-- The table at block b, its map in block m, holds T. -/
structure Tab (w : World) (b : Nat) (m : Option Nat) (T : Tb) : Prop where
  cell : w.heap[b]? = some (.cells #[.map m] 118 (0, 0))
  none : m = none → T = []
  some : ∀ bm, m = some bm → MapT w bm T ∧ bm ≠ b
  low : Low T
theorem Tab.kept {w w' : World} {b : Nat} {m : Option Nat} {T : Tb} {row : Option Nat} (h : Tab w b m T) (g : w.grownBy w' row) (h1 : row ≠ .some b) (h2 : row = .none ∨ row ≠ m) : Tab w' b m T :=
  ⟨gblock g h.cell (fun e => h1 e.symm), h.none, fun bm e => ⟨(h.some bm e).1.kept g (fun x => by
    rcases h2 with h2 | h2
    · rw [h2] at x; cases x
    · exact h2 (by rw [← x, e])), (h.some bm e).2⟩, h.low⟩
theorem Tab.kept0 {w w' : World} {b : Nat} {m : Option Nat} {T : Tb} (h : Tab w b m T) (g : w.grownBy w' .none) : Tab w' b m T := h.kept g (by simp) (.inl rfl)
theorem Tab.look {w : World} {b : Nat} {m : Option Nat} {T : Tb} (h : Tab w b m T) (s : ByteArray) (hs : s.size ≤ maxLen) : (Instr.lookup 116 (.map m) (.string s) true).run Tryd.prog w = .ok (.tuple #[.int .i64 (((tget T s).getD 0 : Nat) : Int), .bool (tget T s).isSome]) w := by
  cases m with
  | none => rw [h.none rfl]; exact look_none w s hs
  | some bm => exact (h.some bm rfl).1.look s hs

theorem tnew_any (w : World) : Calls Tryd.prog 36 #[] w fun e w' => ∃ b, e = .returned (.pointer (some ⟨b, 0, none⟩)) ∧ w.heap.size ≤ b ∧ Tab w' b none [] ∧ w.grownBy w' none := by
  go_enter Tryd.func36, Tryd.ntmps36
  go_wp2
  go_ret
  exact ⟨_, rfl, Nat.le_refl _, ⟨balloc _ _, fun _ => rfl, fun _ e => (by cases e), Low.nil⟩, galloc (grefl _ _) _⟩

theorem eqm_none (w : World) : (binOp .eql 116 (.map none) (.map none)).run Tryd.prog w = .ok (.bool true) w := by kernel_rfl
theorem mkm (w : World) : (Instr.makeMap 116 none).run Tryd.prog w = .ok (.map (some w.heap.size)) (w.alloc (.map #[] 0)) := by kernel_rfl
theorem eqm_some (k : Nat) (w : World) : (binOp .eql 116 (.map (some k)) (.map none)).run Tryd.prog w = .ok (.bool false) w := by kernel_rfl

set_option maxRecDepth 100000 in
theorem tadd_any (b : Nat) (m : Option Nat) (T : Tb) (s : ByteArray) (p : Nat) (w : World) (h : Tab w b m T) (hs : s.size ≤ 1000000) (hp : p ≤ 16383) (hn : tget T s = none) (hT : T.length ≤ 1000000) :
    Calls Tryd.prog 67 #[.pointer (some ⟨b, 0, none⟩), .string s, .int .i64 p] w fun e w' => e = .returned (.tuple #[]) ∧ ∃ m', Tab w' b m' (T ++ [(s, p)]) ∧ TG w w' b m ∧ (∀ i, m' = some i → m = some i ∨ w.heap.size ≤ i) := by
  have hs' : s.size ≤ maxLen := by unfold maxLen; omega
  have hb := blt h.cell
  have HT := Lib.hid h
  have c0 : w.cell? ⟨b, 0, none⟩ = some (.map m) := bcellAt h.cell 0
  have f0 : w.frozen? ⟨b, 0, none⟩ = false := bfree h.cell 0
  clear h
  cases m with
  | none =>
    obtain rfl := HT.out.none rfl
    have e1 := eqm_none w
    have e2 := mkm w
    have c1 : (w.alloc (.map #[] 0)).frozen? ⟨b, 0, none⟩ = false := bfree (gblock (galloc (grefl w none) _) HT.out.cell (by simp)) 0
    have c3 : (w.alloc (.map #[] 0)).cell? ⟨b, 0, none⟩ = some (.map none) := bcellAt (gblock (galloc (grefl w none) _) HT.out.cell (by simp)) 0
    have hM0 : MapT ((w.setCell ⟨b, 0, none⟩ (.map (some w.heap.size))).alloc (.map #[] 0)) w.heap.size [] := by
      have h0 := MapT.new (w.setCell ⟨b, 0, none⟩ (.map (some w.heap.size)))
      rwa [show (w.setCell ⟨b, 0, none⟩ (.map (some w.heap.size))).heap.size = w.heap.size by simp [World.setCell]] at h0
    obtain ⟨w1, hr, hM, hg⟩ := hM0.store s p hs' (by omega) rfl (by simp)
    have hB0 : ((w.setCell ⟨b, 0, none⟩ (.map (some w.heap.size))).alloc (.map #[] 0)).heap[b]? = some (.cells #[.map (some w.heap.size)] 118 (0, 0)) := gblock (galloc (grefl _ none) _) ((bset HT.out.cell 0 _).trans (by simp)) (by simp)
    have HZ := Lib.hid (show Tab w1 b (some w.heap.size) [(s, p)] ∧ TG w w1 b none from ⟨⟨gblock hg hB0 (by simp; omega), fun e => (by cases e), fun bm e => (by cases e; exact ⟨hM, by omega⟩), Low.nil.snoc hp⟩,
      TG.trans (TG.ofB (galloc (gset (grefl w (some b)) (.inl rfl) _) _) none) (TG.ofM hg b) (fun i e => by cases e; exact .inr (Nat.le_refl _))⟩)
    clear hM hg hM0 hB0
    go_enter Tryd.func67, Tryd.ntmps67
    go_wp2_with fail
    go_end0
    exact ⟨rfl, some w.heap.size, HZ.out.1, HZ.out.2, fun i e => by cases e; exact .inr (Nat.le_refl _)⟩
  | some bm =>
    have e1 := eqm_some bm w
    obtain ⟨w1, hr, hM, hg⟩ := (HT.out.some bm rfl).1.store s p hs' (by omega) hn hT
    have HZ := Lib.hid (show Tab w1 b (some bm) (T ++ [(s, p)]) ∧ TG w w1 b (some bm) from ⟨⟨gblock hg HT.out.cell (fun e => (HT.out.some bm rfl).2 (by simpa using e.symm)), fun e => (by cases e), fun bm' e => (by cases e; exact ⟨hM, (HT.out.some bm rfl).2⟩), HT.out.low.snoc hp⟩, TG.ofM hg b⟩)
    clear hM hg
    go_enter Tryd.func67, Tryd.ntmps67
    go_wp2_with fail
    go_end0
    exact ⟨rfl, _, HZ.out.1, HZ.out.2, fun i e => .inl e⟩
end Go.Proofs.YthgendgmlpaglaaDoor
namespace Go.Proofs.YthgendgmlpaglaaDoor
open Go.RowKit

/-- What Put holds at its loop's head. -/
structure PtL (w : World) (b : Nat) (m : Option Nat) (T : Tb) (a : List UInt8) (n : ByteArray) (cmp known : Bool) (p : Nat) (T' : Tb) (out : List UInt8) (mr : Option Nat) (v : Value) (wr : World) : Prop where
  sc : scan n p = true
  own : Own wr w.heap.size v out
  tab : Tab wr b mr T'
  tg : TG w wr b m
  ms : ∀ i, mr = some i → m = some i ∨ w.heap.size ≤ i
  eq : putF n cmp known 0 T a = putF n cmp known p T' out
  few : T'.length + (n.size - p) ≤ T.length + n.size
  len : out.length ≤ a.length + p
theorem own_ne_map {w : World} {base bm : Nat} {v : Value} {l : List UInt8} {T : Tb} (h : Own w base v l) (k : MapT w bm T) : v.ownBlock ≠ some bm := by
  obtain ⟨D, ⟨es, clock, hb, _⟩, _⟩ := k
  rcases h.2 with ⟨rfl, _⟩ | ⟨g, cap, cur, rfl, _, hg, _⟩
  · simp [Value.ownBlock]
  · intro e
    simp [Value.ownBlock] at e
    subst e
    rw [hg] at hb
    cases hb
theorem PtL.ne {w : World} {b : Nat} {m : Option Nat} {T : Tb} {a : List UInt8} {n : ByteArray} {cmp known : Bool} {p : Nat} {T' : Tb} {out : List UInt8} {mr : Option Nat} {v : Value} {wr : World} (h : PtL w b m T a n cmp known p T' out mr v wr) (hb : b < w.heap.size) : v.ownBlock ≠ some b ∧ (mr = none ∨ v.ownBlock ≠ mr) := by
  constructor
  · intro e
    have := (h.own.block b e).1
    omega
  · cases mr with
    | none => exact .inl rfl
    | some bm => exact .inr (own_ne_map h.own (h.tab.some bm rfl).1)
theorem tg_ms {w wr : World} {b : Nat} {m mr m' : Option Nat} (h : TG w wr b m) (h1 : ∀ i, mr = some i → m = some i ∨ w.heap.size ≤ i) (h2 : ∀ i, m' = some i → mr = some i ∨ wr.heap.size ≤ i) : ∀ i, m' = some i → m = some i ∨ w.heap.size ≤ i := by
  intro i e
  rcases h2 i e with h3 | h3
  · exact h1 i h3
  · exact .inr (Nat.le_trans h.size h3)
/-- A piece more at the end. -/
theorem PtL.app {w : World} {b : Nat} {m : Option Nat} {T : Tb} {a : List UInt8} {n : ByteArray} {cmp known : Bool} {p : Nat} {T' : Tb} {out : List UInt8} {mr : Option Nat} {v : Value} {wr : World} (h : PtL w b m T a n cmp known p T' out mr v wr) (hb : b < w.heap.size) {wq : World} {v' : Value} {out' : List UInt8} (g : wr.grownBy wq v.ownBlock) (o : Own wq w.heap.size v' out') :
    Own wq w.heap.size v' out' ∧ Tab wq b mr T' ∧ TG w wq b m := by
  have hn := h.ne hb
  refine ⟨o, h.tab.kept g hn.1 ?_, ?_⟩
  · rcases hn.2 with h2 | h2
    · cases hv : v.ownBlock with
      | none => exact .inl rfl
      | some k => exact .inr (by rw [h2]; simp)
    · exact .inr h2
  · refine ⟨g.os.trans h.tg.os, g.tape.trans h.tg.tape, g.output.trans h.tg.output, Nat.le_trans h.tg.size g.size, fun i hi h1 h2 => (g.block i (Nat.lt_of_lt_of_le hi h.tg.size) ?_).trans (h.tg.block i hi h1 h2)⟩
    intro e
    have := (h.own.block i e.symm).1
    omega
/-- The same with the table behind the label, ahead of the label's bytes. -/
structure PtM (w : World) (b : Nat) (m : Option Nat) (T' : Tb) (out : List UInt8) (mr : Option Nat) (v : Value) (wr : World) : Prop where
  own : Own wr w.heap.size v out
  tab : Tab wr b mr T'
  tg : TG w wr b m
  ms : ∀ i, mr = some i → m = some i ∨ w.heap.size ≤ i
theorem PtL.m {w : World} {b : Nat} {m : Option Nat} {T : Tb} {a : List UInt8} {n : ByteArray} {cmp known : Bool} {p : Nat} {T' : Tb} {out : List UInt8} {mr : Option Nat} {v : Value} {wr : World} (h : PtL w b m T a n cmp known p T' out mr v wr) : PtM w b m T' out mr v wr := ⟨h.own, h.tab, h.tg, h.ms⟩
theorem PtM.quiet {w : World} {b : Nat} {m : Option Nat} {T' : Tb} {out : List UInt8} {mr : Option Nat} {v : Value} {wr w2 : World} (h : PtM w b m T' out mr v wr) (g : wr.grownBy w2 none) : PtM w b m T' out mr v w2 :=
  ⟨h.own.kept0 g, h.tab.kept0 g, TG.trans h.tg (TG.of0 g b none) (fun i e => by cases e), h.ms⟩
theorem PtM.ne {w : World} {b : Nat} {m : Option Nat} {T' : Tb} {out : List UInt8} {mr : Option Nat} {v : Value} {wr : World} (h : PtM w b m T' out mr v wr) (hb : b < w.heap.size) : v.ownBlock ≠ some b ∧ (mr = none ∨ v.ownBlock ≠ mr) := by
  constructor
  · intro e
    have := (h.own.block b e).1
    omega
  · cases mr with
    | none => exact .inl rfl
    | some bm => exact .inr (own_ne_map h.own (h.tab.some bm rfl).1)
theorem PtM.app {w : World} {b : Nat} {m : Option Nat} {T' : Tb} {out out' : List UInt8} {mr : Option Nat} {v v' : Value} {wr w2 : World} (h : PtM w b m T' out mr v wr) (hb : b < w.heap.size) (g : wr.grownBy w2 v.ownBlock) (o : Own w2 w.heap.size v' out') : PtM w b m T' out' mr v' w2 := by
  have hn := h.ne hb
  refine ⟨o, h.tab.kept g hn.1 ?_, ?_, h.ms⟩
  · rcases hn.2 with h2 | h2
    · cases hv : v.ownBlock with
      | none => exact .inl rfl
      | some k => exact .inr (by rw [h2]; simp)
    · exact .inr h2
  · refine ⟨g.os.trans h.tg.os, g.tape.trans h.tg.tape, g.output.trans h.tg.output, Nat.le_trans h.tg.size g.size, fun i hi h1 h2 => (g.block i (Nat.lt_of_lt_of_le hi h.tg.size) ?_).trans (h.tg.block i hi h1 h2)⟩
    intro e
    have := (h.own.block i e.symm).1
    omega
theorem PtM.add {w : World} {b : Nat} {m : Option Nat} {T' T2 : Tb} {out : List UInt8} {mr m2 : Option Nat} {v : Value} {wr w2 : World} (h : PtM w b m T' out mr v wr) (hb : b < w.heap.size) (t : Tab w2 b m2 T2) (g : TG wr w2 b mr) (hm : ∀ i, m2 = some i → mr = some i ∨ wr.heap.size ≤ i) : PtM w b m T2 out m2 v w2 :=
  ⟨h.own.keptT g (h.ne hb).1 (h.ne hb).2, t, TG.trans h.tg g h.ms, tg_ms h.tg h.ms hm⟩
theorem PtL.next {w : World} {b : Nat} {m : Option Nat} {T : Tb} {a : List UInt8} {n : ByteArray} {cmp known : Bool} {p : Nat} {T' T2 : Tb} {out : List UInt8} {mr m2 : Option Nat} {v v' : Value} {wr w2 : World} (h : PtL w b m T a n cmp known p T' out mr v wr) (h0 : ¬ bt n p = 0) (hc : tget T' (suf n p) = none ∨ cmp = false) (hT : tadd n known p T' out.length = T2) (k : PtM w b m T2 (out ++ lab n p) m2 v' w2) : PtL w b m T a n cmp known (p + 1 + bt n p) T2 (out ++ lab n p) m2 v' w2 := by
  obtain ⟨h1, h2, h3⟩ := scan_lab h.sc h0
  refine ⟨h3, k.own, k.tab, k.tg, k.ms, h.eq.trans ?_, ?_, ?_⟩
  · rw [← hT]; exact putF_step (by omega) h0 hc
  · have := h.few
    have := tadd_len n known p T' out.length
    rw [hT] at this
    omega
  · have := h.len
    rw [List.length_append, lab_len n p (by omega)]
    omega
theorem suf_size (n : ByteArray) (p : Nat) : (suf n p).size = n.size - p := by unfold suf; rw [ByteArray.size_extract]; omega
theorem lab_eq (n : ByteArray) (p : Nat) : lab n p = List.take (p + 1 + bt n p - p) (List.drop p n.data.toList) := Lib.extract_data _ _ _
theorem lab_size (n : ByteArray) (p : Nat) (h : p + 1 + bt n p ≤ n.size) : (n.extract p (p + 1 + bt n p)).size = 1 + bt n p := by rw [ByteArray.size_extract]; omega
theorem ptr_or (k : Nat) (h : k ≤ 16383) : bits .or .u8 192 ((k : Int) / 256) = ((192 + k / 256 : Nat) : Int) := by
  rw [show ((192 : Int)) = ((192 : Nat) : Int) by rfl, show ((k : Int) / 256) = ((k / 256 : Nat) : Int) by omega, u8_or_nat _ _ (by omega) (by omega), nat_join 6 _ _ (by decide) (by omega)]

theorem ptr_cells (k : Nat) (h : k ≤ 16383) : [Value.int .u8 (bits .or .u8 192 ((k : Int) / 256)), Value.int .u8 ((k : Int) % 256)] = bv (ptrB k) := by
  rw [ptr_or k h]
  simp [bv, ptrB]
  omega
/-- What Put gives. -/
def PutPost (b : Nat) (m : Option Nat) (T : Tb) (a : List UInt8) (n : ByteArray) (cmp known : Bool) (w : World) (e : Ending) (w' : World) : Prop :=
  ∃ v' m', e = .returned (.tuple #[v', .int .i64 0]) ∧ Own w' w.heap.size v' (putF n cmp known 0 T a).1 ∧ Tab w' b m' (putF n cmp known 0 T a).2 ∧ TG w w' b m ∧ ∀ i, m' = some i → m = some i ∨ w.heap.size ≤ i

set_option maxRecDepth 100000 in
set_option maxHeartbeats 4000000 in
theorem tput_ok (b : Nat) (m : Option Nat) (T : Tb) (va : Value) (a : List UInt8) (n : ByteArray) (cmp known : Bool) (w : World) (h : Tab w b m T) (ha : SlB w va a) (hn : may n = true) (hT : T.length + n.size ≤ 1000000) (hal : a.length ≤ 1000000000) :
    Calls Tryd.prog 56 #[.pointer (some ⟨b, 0, none⟩), va, .string n, .bool cmp, .bool known] w (PutPost b m T a n cmp known w) := by
  obtain ⟨hn255, hsc⟩ := may_size hn
  have hb := blt h.cell
  have HT := Lib.hid h
  have HA := Lib.hid ha
  obtain ⟨A, capa, rfl, _, _, _⟩ := ha
  obtain ⟨i0, hi, hz0, hz1, hz2⟩ := info_parts Tryd.infoByte
  clear h
  go_enter Tryd.func56, Tryd.ntmps56
  go_wp2_with fail
  refine (may_any n w).mono ?_
  rintro e w1 ⟨rfl, rfl⟩
  go_wp2_with (at_make; refine wpList_make_own _ rfl _ _ 26 rfl w.heap.size 5 i0 (.int .u8 0) 1 Tryd.underlying26 hi hz0 hz1 _ _ _ (a.length + n.size) rfl rfl (by omega) ?b2 ?b3 (Nat.le_refl _) ?_)
  case b2 => rw [hz2]; omega
  case b3 => unfold maxLen; omega
  intro w0 hown0 hgrow0
  have ho0 : Own w0 w.heap.size (.slice (some ⟨w.heap.size, 0, none⟩) ([] : List UInt8).length (a.length + n.size)) [] := hown0
  go_wp2_with (at_builtin; refine wpList_app_sl rfl (.tmp 28) (.tmp 29) 26 rfl w.heap.size i0 Tryd.underlying26 hi hz0 hz1 hz2 _ [] a rfl ho0 _ rfl (HA.out.kept0 hgrow0) ?c1 ?c2 ?_)
  case c1 => simp; omega
  case c2 => exact hgrow0.size
  intro v1 w1 ho1 hg1
  have HL := Lib.hid (show PtL w b m T a n cmp known 0 T a m v1 w1 from by
    have g01 : w.grownBy w1 none := gstep hgrow0 hg1 (fun r hr => (ho0.block r hr).1)
    exact ⟨hsc, ho1, HT.out.kept0 g01, TG.of0 g01 _ _, fun i e => .inl e, rfl, by omega, by omega⟩)
  clear ho1 hg1 ho0 hown0 hgrow0
  go_wp2_with fail
  go_loopw [12, 13] (fun vo vp wr => ∃ (p : Nat) (T' : Tb) (out : List UInt8) (mr : Option Nat), vp = .int .i64 p ∧ PtL w b m T a n cmp known p T' out mr vo wr) (fun _ vp _ => 300 - (intOf vp).toNat)
  case atStart => exact ⟨0, T, a, m, rfl, HL.out⟩
  case round =>
    obtain ⟨p, T', out, mr, rfl, hr⟩ := hrel
    have R0 := Lib.hid hr
    have hlt := scan_lt hr.sc
    have hg := (bt_get n p hlt).symm
    have hbt := bt_lt n p
    have l1 := n[p].toNat_lt
    obtain ⟨O, cap, rfl, hcap, hcm⟩ := hr.own.shape
    unfold maxLen at hcm
    have hlen := hr.len
    have c0 : wr.cell? ⟨b, 0, none⟩ = some (.map mr) := bcellAt hr.tab.cell 0
    have hlk := fun k => (hr.tab.kept0 (gdrewN (grefl wr none) k)).look (suf n p) (by rw [suf_size]; unfold maxLen; omega)
    clear hr
    by_cases hz : bt n p = 0
    · have z0 : (((bt n p : Nat) : Int) != 0) = false := by simp; omega
      have HN := Lib.hid (R0.out.eq.trans (putF_end hz))
      go_wp2_with (at_builtin; refine wpList_app_sl rfl (.tmp 90) (.tmp 91) 26 rfl w.heap.size i0 Tryd.underlying26 hi hz0 hz1 hz2 _ out [0] rfl (R0.out.own.kept0 (galloc (grefl _ none) _)) _ rfl (sl_new wr _ [0] _ 1 rfl rfl) ?d1 ?d2 ?_)
      case d1 => simp; omega
      case d2 => have := R0.out.tg.size; simp; omega
      intro v2 w2 ho2 hg2
      have Z := Lib.hid (R0.out.app hb (gfr1 hg2) ho2)
      obtain ⟨O2, c2, rfl, _, _⟩ := ho2.shape
      clear ho2 hg2
      go_wp2_with fail
      go_ret2
      refine ⟨_, _, rfl, ?_, ?_, Z.out.2.2, R0.out.ms⟩
      · rw [HN.out]; exact Z.out.1
      · rw [HN.out]; exact Z.out.2.1
    · have z0 : (((bt n p : Nat) : Int) != 0) = true := by simp; omega
      have hss := suf_size n p
      cases hk : tget T' (suf n p) with
      | some k =>
        have hkl : k ≤ 16383 := R0.out.tab.low _ (tget_mem hk)
        rw [hk] at hlk
        simp only [Option.getD_some, Option.isSome_some] at hlk
        cases cmp with
        | true =>
          have HN := Lib.hid (R0.out.eq.trans (putF_ptr hlt hz hk rfl))
          unfold suf at hlk
          go_wp2_with fail
          go_quiet (fail)
          have M3 := Lib.hid (R0.out.m.quiet (gdrewN (grefl wr none) nq))
          generalize wr.drewN nq = w3 at *
          have hof := Lib.hid (ptr_cells k hkl)
          go_wp2_with (at_builtin; refine wpList_app_sl rfl (.tmp 50) (.tmp 57) 26 rfl w.heap.size i0 Tryd.underlying26 hi hz0 hz1 hz2 _ out (ptrB k) rfl (M3.out.own.kept0 (galloc (grefl _ none) _)) _ rfl (sl_new w3 _ (ptrB k) _ 2 (by exact hof.out) rfl) ?d1 ?d2 ?_)
          case d1 => simp [ptrB]; omega
          case d2 => have := M3.out.tg.size; simp; omega
          intro v2 w2 ho2 hg2
          have Z := Lib.hid (M3.out.app hb (gfr1 hg2) ho2)
          obtain ⟨O2, c2, rfl, _, _⟩ := ho2.shape
          clear ho2 hg2
          go_wp2_with fail
          go_ret2
          refine ⟨_, _, rfl, ?_, ?_, Z.out.tg, R0.out.ms⟩
          · rw [HN.out]; exact Z.out.own
          · rw [HN.out]; exact Z.out.tab
        | false =>
          have HK := Lib.hid hk
          clear hk
          unfold suf at hlk
          go_wp2_with fail
          go_quiet (fail)
          have M4 := Lib.hid (R0.out.m.quiet (gdrewN (grefl wr none) nq))
          generalize wr.drewN nq = w3 at *
          cases known with
          | true =>
            have hx2 := (scan_lab R0.out.sc hz).2.1
            have hL := lab_size n p (by omega)
            go_wp2_with (at_builtin; refine wpList_app_str rfl (.tmp 83) (.tmp 87) 26 9 rfl w.heap.size i0 Tryd.underlying26 Tryd.underlying9 hi hz0 hz1 hz2 _ _ rfl M4.out.own (n.extract p (p + 1 + bt n p)) rfl ?e1 ?e2 ?_)
            case e1 => omega
            case e2 => exact M4.out.tg.size
            intro v6 w6 ho6 hg6
            have R6 := Lib.hid (R0.out.next hz (.inr rfl) (by unfold tadd; rw [HK.out, if_neg (by simp)]) (M4.out.app hb hg6 (by rw [lab_eq]; exact ho6)))
            obtain ⟨A6, c6, rfl, _, _⟩ := ho6.shape
            clear ho6 hg6
            go_wp2_with fail
            go_roundw
            case rel => exact ⟨p + 1 + bt n p, _, _, _, by go_num, R6.out⟩
            case measure => simp [intOf]; omega
          | false =>
            have hx2 := (scan_lab R0.out.sc hz).2.1
            have hL := lab_size n p (by omega)
            go_wp2_with (at_builtin; refine wpList_app_str rfl (.tmp 83) (.tmp 87) 26 9 rfl w.heap.size i0 Tryd.underlying26 Tryd.underlying9 hi hz0 hz1 hz2 _ _ rfl M4.out.own (n.extract p (p + 1 + bt n p)) rfl ?e1 ?e2 ?_)
            case e1 => omega
            case e2 => exact M4.out.tg.size
            intro v6 w6 ho6 hg6
            have R6 := Lib.hid (R0.out.next hz (.inr rfl) (by unfold tadd; rw [HK.out, if_neg (by simp)]) (M4.out.app hb hg6 (by rw [lab_eq]; exact ho6)))
            obtain ⟨A6, c6, rfl, _, _⟩ := ho6.shape
            clear ho6 hg6
            go_wp2_with fail
            go_roundw
            case rel => exact ⟨p + 1 + bt n p, _, _, _, by go_num, R6.out⟩
            case measure => simp [intOf]; omega
      | none =>
        have HK := Lib.hid hk
        rw [hk] at hlk
        simp only [Option.getD_none, Option.isSome_none] at hlk
        clear hk
        unfold suf at hlk
        go_wp2_with fail
        go_quiet (fail)
        have M3 := Lib.hid (R0.out.m.quiet (gdrewN (grefl wr none) nq))
        generalize wr.drewN nq = w3 at *
        cases known with
        | true =>
          by_cases h16 : out.length ≤ 16383
          · have hfew := R0.out.few
            unfold suf at hss
            go_wp2_with fail
            refine (tadd_any b mr T' (n.extract p n.size) out.length w3 M3.out.tab (by omega) h16 HK.out (by omega)).mono ?_
            rintro e w4 ⟨rfl, m4, ht4, hg4, hm4⟩
            have M4 := Lib.hid (M3.out.add hb ht4 hg4 hm4)
            clear ht4 hg4 hm4
            have hx2 := (scan_lab R0.out.sc hz).2.1
            have hL := lab_size n p (by omega)
            go_wp2_with (at_builtin; refine wpList_app_str rfl (.tmp 83) (.tmp 87) 26 9 rfl w.heap.size i0 Tryd.underlying26 Tryd.underlying9 hi hz0 hz1 hz2 _ _ rfl M4.out.own (n.extract p (p + 1 + bt n p)) rfl ?e1 ?e2 ?_)
            case e1 => omega
            case e2 => exact M4.out.tg.size
            intro v6 w6 ho6 hg6
            have R6 := Lib.hid (R0.out.next hz (.inl HK.out) (by unfold tadd; rw [if_pos ⟨rfl, HK.out, h16⟩]; rfl) (M4.out.app hb hg6 (by rw [lab_eq]; exact ho6)))
            obtain ⟨A6, c6, rfl, _, _⟩ := ho6.shape
            clear ho6 hg6
            go_wp2_with fail
            go_roundw
            case rel => exact ⟨p + 1 + bt n p, _, _, _, by go_num, R6.out⟩
            case measure => simp [intOf]; omega
          · have M4 := M3
            have hx2 := (scan_lab R0.out.sc hz).2.1
            have hL := lab_size n p (by omega)
            go_wp2_with (at_builtin; refine wpList_app_str rfl (.tmp 83) (.tmp 87) 26 9 rfl w.heap.size i0 Tryd.underlying26 Tryd.underlying9 hi hz0 hz1 hz2 _ _ rfl M4.out.own (n.extract p (p + 1 + bt n p)) rfl ?e1 ?e2 ?_)
            case e1 => omega
            case e2 => exact M4.out.tg.size
            intro v6 w6 ho6 hg6
            have R6 := Lib.hid (R0.out.next hz (.inl HK.out) (by unfold tadd; rw [if_neg (by simp; omega)]) (M4.out.app hb hg6 (by rw [lab_eq]; exact ho6)))
            obtain ⟨A6, c6, rfl, _, _⟩ := ho6.shape
            clear ho6 hg6
            go_wp2_with fail
            go_roundw
            case rel => exact ⟨p + 1 + bt n p, _, _, _, by go_num, R6.out⟩
            case measure => simp [intOf]; omega
        | false =>
          have M4 := M3
          have hx2 := (scan_lab R0.out.sc hz).2.1
          have hL := lab_size n p (by omega)
          go_wp2_with (at_builtin; refine wpList_app_str rfl (.tmp 83) (.tmp 87) 26 9 rfl w.heap.size i0 Tryd.underlying26 Tryd.underlying9 hi hz0 hz1 hz2 _ _ rfl M4.out.own (n.extract p (p + 1 + bt n p)) rfl ?e1 ?e2 ?_)
          case e1 => omega
          case e2 => exact M4.out.tg.size
          intro v6 w6 ho6 hg6
          have R6 := Lib.hid (R0.out.next hz (.inl HK.out) (by unfold tadd; rw [if_neg (by simp)]) (M4.out.app hb hg6 (by rw [lab_eq]; exact ho6)))
          obtain ⟨A6, c6, rfl, _, _⟩ := ho6.shape
          clear ho6 hg6
          go_wp2_with fail
          go_roundw
          case rel => exact ⟨p + 1 + bt n p, _, _, _, by go_num, R6.out⟩
          case measure => simp [intOf]; omega

theorem tput_no (b : Nat) (va : Value) (n : ByteArray) (cmp known : Bool) (w : World) (hn : may n = false) :
    Calls Tryd.prog 56 #[.pointer (some ⟨b, 0, none⟩), va, .string n, .bool cmp, .bool known] w fun e w' => e = .returned (.tuple #[.slice none 0 0, .int .i64 3]) ∧ w.grownBy w' none := by
  go_enter Tryd.func56, Tryd.ntmps56
  go_wp2_with fail
  refine (may_any n w).mono ?_
  rintro e w1 ⟨rfl, rfl⟩
  go_wp2_with fail
  go_ret2
  exact ⟨rfl, grefl _ _⟩
theorem tput_nil (va : Value) (n : ByteArray) (cmp known : Bool) (w : World) :
    Calls Tryd.prog 56 #[.pointer none, va, .string n, .bool cmp, .bool known] w fun e w' => e = .returned (.tuple #[.slice none 0 0, .int .i64 2]) ∧ w.grownBy w' none := by
  go_enter Tryd.func56, Tryd.ntmps56
  go_wp2_with fail
  go_ret2
  exact ⟨rfl, grefl _ _⟩
end Go.Proofs.YthgendgmlpaglaaDoor
namespace Go.Proofs.YthgendgmlpaglaaDoor
open Go.RowKit

theorem TG.kb {w w' : World} {b B : Nat} {m : Option Nat} (h : TG w w' b m) (hB : B ≤ w.heap.size) (hb : B ≤ b) (hm : ∀ k, m = some k → B ≤ k) : KB B w w' :=
  ⟨h.os, h.tape, h.output, h.size, fun i hi => h.block i (by omega) (by omega) (fun e => by have := hm i e.symm; omega)⟩
theorem cell_lt {w : World} {b off : Nat} {v : Value} (h : w.cell? ⟨b, off, none⟩ = some v) : b < w.heap.size := World.block_lt_of_cell? w _ h
theorem cvs {w : World} {v : Value} {l : List UInt8} (h : SlB w v l) : (convert 26 9 v).run Tryd.prog w = .ok (.string ⟨l.toArray⟩) w :=
  run_string_of (P := Tryd.prog) w 26 9 5 Tryd.underlying26 Tryd.underlying5 Tryd.underlying9 h
theorem SlB.front {w : World} {A : Option Addr} {n cap : Nat} {x y : List UInt8} (h : SlB w (.slice A n cap) (x ++ y)) (hA : A ≠ none) : SlB w (.slice A x.length cap) x := by
  obtain ⟨A', cap', e, h1, h2, h3⟩ := h
  simp only [Value.slice.injEq] at e
  obtain ⟨rfl, _, rfl⟩ := e
  refine ⟨A, cap, rfl, by simp at h1; omega, fun e => absurd e hA, fun ad had j u hu => h3 ad had j u ?_⟩
  rw [bv_append, List.getElem?_append_left (by have := (List.getElem?_eq_some_iff.1 hu).1; exact this)]
  exact hu
theorem Own.cellAt {w : World} {base n cap : Nat} {A : Option Addr} {l : List UInt8} (h : Own w base (.slice A n cap) l) (hl : 0 < l.length) : ∃ g, A = some ⟨g, 0, none⟩ ∧ base ≤ g ∧ ∀ j (hj : j < l.length), w.cell? ⟨g, j, none⟩ = some (.int .u8 l[j].toNat) := by
  rcases h.2 with ⟨_, h2⟩ | ⟨g, cap', cur, e, hb, hg, _, _, _, ht⟩
  · omega
  · simp only [Value.slice.injEq] at e
    obtain ⟨rfl, _, _⟩ := e
    refine ⟨g, rfl, hb, fun j hj => ?_⟩
    have := bv_get l j hj
    rw [bcellAt hg, ← Array.getElem?_toList]
    rw [← ht, List.getElem?_take_of_lt (by omega)] at this
    exact this

theorem SlB.tail {w : World} {base n cap g : Nat} {x y : List UInt8} (h : Own w base (.slice (some ⟨g, 0, none⟩) n cap) (x ++ y)) (k : Nat) (hk : x.length = k) : SlB w (.slice (some ⟨g, k, none⟩) y.length (cap - k)) y := by
  obtain ⟨A', cap', e, h1, h2, h3⟩ := h.sl
  simp only [Value.slice.injEq] at e
  obtain ⟨rfl, _, rfl⟩ := e
  refine ⟨_, _, rfl, by simp at h1; omega, by simp, fun ad had j u hu => ?_⟩
  cases had
  have := h3 _ rfl (k + j) u (by rw [bv_append, List.getElem?_append_right (by rw [bv_len]; omega), bv_len, hk]; simpa using hu)
  rw [Addr.add_lit] at this ⊢
  rw [← this]
  congr 2
  omega
theorem str_ne {a b : ByteArray} (h : ¬ a = b) : (a.toList == b.toList) = false := by
  rw [beq_eq_false_iff_ne]
  intro e
  rw [ByteArray.toList_eq, ByteArray.toList_eq] at e
  exact h (ba_ext e)
theorem row_base {w : World} {base base' k n : Nat} {e : TypeId} {v : Value} {xs : List Value} (h : w.ownsRow base e k v n xs) (hb : base' ≤ base) : w.ownsRow base' e k v n xs := by
  refine ⟨h.1, ?_⟩
  rcases h.2 with h2 | ⟨g, cap, cur, h3, h4, h5⟩
  · exact .inl h2
  · exact .inr ⟨g, cap, cur, h3, Nat.le_trans hb h4, h5⟩
theorem cell_one_new1 (w : World) (o : Obj) (x : Value) (t : TypeId) : ∀ j u, [x][j]? = some u → ((w.alloc o).alloc (.cells #[x] t)).cell? ((⟨w.heap.size + 1, 0, none⟩ : Addr).add j) = some u := by
  have h := cell_one_new (w.alloc o) x t
  rw [asz] at h
  exact h
end Go.Proofs.YthgendgmlpaglaaDoor
namespace Go.Proofs.YthgendgmlpaglaaDoor
open Go.RowKit

theorem Tryd.infoInt : (Tryd.prog.info? 3).map (fun i => (i.zero, i.size, i.bytes)) = some (some (.int .i64 0), 1, 8) := by kernel_rfl
theorem row_ne {w : World} {b1 b2 k1 k2 n1 n2 : Nat} {e1 e2 : TypeId} {v1 v2 : Value} {x1 x2 : List Value} (h1 : w.ownsRow b1 e1 k1 v1 n1 x1) (h2 : w.ownsRow b2 e2 k2 v2 n2 x2) (hne : e1 ≠ e2) : v1.ownBlock = none ∨ v1.ownBlock ≠ v2.ownBlock := by
  rcases h1.2 with ⟨rfl, _⟩ | ⟨g, cap, cur, rfl, _, hg, _⟩
  · exact .inl rfl
  · refine .inr fun e => ?_
    rcases h2.2 with ⟨rfl, _⟩ | ⟨g', cap', cur', rfl, _, hg', _⟩
    · simp [Value.ownBlock] at e
    · simp [Value.ownBlock] at e
      subst e
      rw [hg] at hg'
      simp at hg'
      exact hne hg'.2
theorem row_ne_map {w : World} {base bm k n : Nat} {e : TypeId} {v : Value} {x : List Value} {T : Tb} (h : w.ownsRow base e k v n x) (q : MapT w bm T) : v.ownBlock ≠ some bm := by
  obtain ⟨D, ⟨es, clock, hb, _⟩, _⟩ := q
  rcases h.2 with ⟨rfl, _⟩ | ⟨g, cap, cur, rfl, _, hg, _⟩
  · simp [Value.ownBlock]
  · intro e
    simp [Value.ownBlock] at e
    subst e
    rw [hg] at hb
    cases hb
theorem row_keptT {w w' : World} {base k n tb : Nat} {e : TypeId} {v : Value} {x : List Value} {m : Option Nat} {T : Tb} (h : w.ownsRow base e k v n x) (g : TG w w' tb m) (hb : tb < base) (ht : Tab w tb m T) : w'.ownsRow base e k v n x := by
  obtain ⟨wm, g1, g2⟩ := g.split
  refine World.ownsRow.kept (World.ownsRow.kept h g1 (.inr fun e => ?_)) g2 ?_
  · have := (World.ownsRow.lt h tb e).1; omega
  · cases m with
    | none => cases v.ownBlock <;> simp
    | some bm => exact .inr (row_ne_map h (ht.some bm rfl).1)
theorem tab_keptR {w w' : World} {base k n tb : Nat} {e : TypeId} {v : Value} {x : List Value} {m : Option Nat} {T : Tb} (h : Tab w tb m T) (g : w.grownBy w' v.ownBlock) (r : w.ownsRow base e k v n x) (hb : tb < base) : Tab w' tb m T := by
  refine h.kept g ?_ ?_
  · intro e; have := (World.ownsRow.lt r tb e).1; omega
  · cases hv : v.ownBlock with
    | none => exact .inl rfl
    | some b => exact .inr fun e => row_ne_map r (h.some b e.symm).1 hv
theorem ne_symm {a b : Option Nat} (h : a = none ∨ a ≠ b) : b = none ∨ b ≠ a := by
  cases b with
  | none => exact .inl rfl
  | some k =>
    right
    rcases h with h | h
    · rw [h]; simp
    · exact fun e => h e.symm
theorem at_ne {a b c : Option Nat} {s : Nat} (h : a = b ∨ a = some s) (k : b = none ∨ b ≠ c) (hc : ∀ x, c = some x → x < s) : a = none ∨ a ≠ c := by
  rcases h with rfl | rfl
  · exact k
  · right
    intro e
    have := hc s e.symm
    omega
theorem row_cell {w : World} {base n cap : Nat} {e : TypeId} {A : Option Addr} {xs : List Value} (h : w.ownsRow base e 1 (.slice A n cap) n xs) {j : Nat} {u : Value} (hj : xs[j]? = some u) : ∃ g, A = some ⟨g, 0, none⟩ ∧ w.cell? ⟨g, j, none⟩ = some u := by
  have hjl := (List.getElem?_eq_some_iff.1 hj).1
  rcases h.2 with ⟨_, h2⟩ | ⟨g, cap', cur, e, hb, hg, _, _, _, ht⟩
  · have := h.1; omega
  · simp only [Value.slice.injEq] at e
    obtain ⟨rfl, _, _⟩ := e
    refine ⟨g, rfl, ?_⟩
    rw [bcellAt hg, ← Array.getElem?_toList]
    have := h.1
    rw [← ht, List.getElem?_take_of_lt (by omega)] at hj
    exact hj
end Go.Proofs.YthgendgmlpaglaaDoor
namespace Go.Proofs.YthgendgmlpaglaaDoor
open Go.RowKit

/-- The own table of a law, and what was put by it. -/
structure Aw (w : World) (b : Nat) (T : Tb) (v : Value) (l : List UInt8) (w' : World) : Prop where
  gr : w.grownBy w' none
  tab : ∃ m, Tab w' b m T ∧ ∀ k, m = some k → w.heap.size ≤ k
  own : Own w' (b + 1) v l
  lb : w.heap.size ≤ b

theorem Aw.quiet {w w1 w2 : World} {b : Nat} {T : Tb} {v : Value} {l : List UInt8} (h : Aw w b T v l w1) (g : w1.grownBy w2 none) : Aw w b T v l w2 := by
  obtain ⟨m, ht, hm⟩ := h.tab
  exact ⟨gtrans h.gr g, ⟨m, ht.kept0 g, hm⟩, h.own.kept0 g, h.lb⟩
theorem Aw.start {w w1 : World} {b : Nat} (hl : w.heap.size ≤ b) (ht : Tab w1 b none []) (hg : w.grownBy w1 none) : Aw w b [] (.slice none 0 0) [] w1 :=
  ⟨hg, ⟨none, ht, fun _ e => by cases e⟩, Own.nil _ _, hl⟩
theorem Aw.own' {w w1 : World} {b : Nat} {T : Tb} {v v' : Value} {l l' : List UInt8} (h : Aw w b T v l w1) (o : Own w1 (b + 1) v' l') : Aw w b T v' l' w1 := ⟨h.gr, h.tab, o, h.lb⟩
theorem aput_any (b : Nat) (T : Tb) (va : Value) (a : List UInt8) (n : ByteArray) (cmp known : Bool) (w0 w : World) (h : Aw w0 b T va a w) (hn : may n = true) (hT : T.length + n.size ≤ 1000000) (hal : a.length ≤ 1000000)
    (l : List UInt8) (T2 : Tb) (hp : putF n cmp known 0 T a = (l, T2)) :
    Calls Tryd.prog 56 #[.pointer (some ⟨b, 0, none⟩), va, .string n, .bool cmp, .bool known] w fun e w' => ∃ v', e = .returned (.tuple #[v', .int .i64 0]) ∧ Aw w0 b T2 va a w' ∧ Own w' (b + 1) v' l ∧ ∀ vx x, Own w (b + 1) vx x → Own w' (b + 1) vx x := by
  obtain ⟨m, ht, hm⟩ := h.tab
  have kept : ∀ w1, TG w w1 b m → ∀ vx x, Own w (b + 1) vx x → Own w1 (b + 1) vx x := by
    intro w1 hg vx x hx
    refine hx.keptT hg ?_ ?_
    · intro e; have := (hx.block b e).1; omega
    · cases m with
      | none => exact .inl rfl
      | some k => exact .inr (own_ne_map hx (ht.some k rfl).1)
  refine (tput_ok b m T _ a n cmp known w ht h.own.sl hn hT (by omega)).mono ?_
  rintro e w1 ⟨v', m', rfl, ho, ht1, hg, hms⟩
  rw [hp] at ho ht1
  simp only at ho ht1
  have hb := blt ht.cell
  refine ⟨v', rfl, ⟨TG.gr h.gr hg h.lb hm, ⟨m', ht1, fun k e => ?_⟩, kept w1 hg _ _ h.own, h.lb⟩, ho.base hb, kept w1 hg⟩
  rcases hms k e with h1 | h1
  · exact hm k h1
  · exact Nat.le_trans h.gr.size h1
end Go.Proofs.YthgendgmlpaglaaDoor
