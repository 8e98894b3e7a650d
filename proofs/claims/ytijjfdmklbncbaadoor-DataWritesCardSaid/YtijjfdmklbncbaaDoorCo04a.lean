/-
  Package comp: Read.
-/
import Derived.Test.YtijjfdmklbncbaaDoorCoNum
import Derived.Test.YtijjfdmklbncbaaDoorSl
import Derived.Test.YtijjfdmklbncbaaDoorApp
import Derived.Test.YtijjfdmklbncbaaDoorCurC
import Derived.Test.YtijjfdmklbncbaaDoorCurD
import Derived.Deep.AppendLies
namespace Go.Proofs.YtijjfdmklbncbaaDoor
open Go.RowKit

theorem byte_ok (b : Nat) (s : ByteArray) (p : Nat) (w : World) (h : Cur w b s p) (he : Et w) (hp : p + 1 ≤ s.size) (hs : s.size ≤ maxLen) : Calls Tryd.prog 60 #[.pointer (some ⟨b, 0, none⟩)] w fun e w' => e = .returned (.tuple #[.int .u8 (bt s p), .int .i64 0]) ∧ Cur w' b s (p + 1) ∧ w.grownBy w' (some b) := by
  have e := byte_any b s p w h he (by omega) hs
  rw [rdV_ok hp, rdE_ok hp, rdP_ok hp, bt_num s p hp] at e
  exact e
theorem byte_short (b : Nat) (s : ByteArray) (p : Nat) (w : World) (h : Cur w b s p) (he : Et w) (hp : p ≤ s.size) (hq : s.size < p + 1) (hs : s.size ≤ maxLen) : Calls Tryd.prog 60 #[.pointer (some ⟨b, 0, none⟩)] w fun e w' => e = .returned (.tuple #[.int .u8 0, .int .i64 4]) ∧ Cur w' b s p ∧ w.grownBy w' (some b) := by
  have e := byte_any b s p w h he hp hs
  rw [rdV_no hq, rdE_no hq, rdP_no hq] at e
  exact e

theorem lab_cons (s : ByteArray) (p : Nat) (h : p + 1 + bt s p ≤ s.size) : lab s p = [UInt8.ofNat (bt s p)] ++ (s.extract (p + 1) (p + 1 + bt s p)).data.toList := by
  have h' : p < s.data.toList.length := by rw [Array.length_toList]; show p < s.size; omega
  have e1 : UInt8.ofNat (bt s p) = s.data.toList[p] := by
    unfold bt
    rw [List.getElem?_eq_getElem h']
    simp
  unfold lab
  rw [Lib.extract_data, Lib.extract_data, e1]
  rw [show p + 1 + bt s p - p = bt s p + 1 by omega, show p + 1 + bt s p - (p + 1) = bt s p by omega, List.drop_eq_getElem_cons h', List.take_succ_cons]
  rfl
theorem i64_or_nat (a b : Nat) (ha : a < 4294967296) (hb : b < 4294967296) : bits .or .i64 (a : Int) (b : Int) = ((a ||| b : Nat) : Int) := by
  have hx : a ||| b < 2 ^ 32 := Nat.or_lt_two_pow (by omega) (by omega)
  show IntKind.i64.wrap ((BitVec.ofInt 64 (a : Int) ||| BitVec.ofInt 64 (b : Int)).toNat : Int) = _
  rw [BitVec.toNat_or, BitVec.toNat_ofInt, BitVec.toNat_ofInt, IntKind.wrap_i64]
  rw [show ((a : Int) % ((2 ^ 64 : Nat) : Int)).toNat = a by omega, show ((b : Int) % ((2 ^ 64 : Nat) : Int)).toNat = b by omega]
  omega
theorem ptr_bits (s : ByteArray) (p : Nat) (h : 192 ≤ bt s p) : bits .or .i64 ((bt s p : Int) % 64 * 256) (bt s (p + 1) : Int) = (ptr s p : Int) := by
  have h1 := bt_lt s p
  have h2 := bt_lt s (p + 1)
  unfold ptr
  rw [show ((bt s p : Int) % 64 * 256) = (((bt s p - 192) * 256 : Nat) : Int) by omega, i64_or_nat _ _ (by omega) (by omega), nat_join 8 _ _ (by omega) (by omega)]
/-- A slice's length. -/
def slLen : Value → Nat
  | .slice _ n _ => n
  | _ => 0
/-- What Read holds at its loop's head. -/
structure CrL (w : World) (bc : Nat) (s : ByteArray) (p : Nat) (v : Value) (out : List UInt8) (wr : World) : Prop where
  gr : w.grownBy wr none
  cur : Cur wr bc s p
  own : Own wr (bc + 1) v out
  lc : w.heap.size ≤ bc
  le : p ≤ s.size
  few : out.length ≤ 254
theorem CrL.step {w wr w' : World} {bc p q : Nat} {s : ByteArray} {v : Value} {out : List UInt8} (h : CrL w bc s p v out wr) (g : wr.grownBy w' (some bc)) (c : Cur w' bc s q) (hq : q ≤ s.size) : CrL w bc s q v out w' :=
  ⟨gstepo h.gr g h.lc, c, h.own.kepto g (by omega), h.lc, hq, h.few⟩
theorem CrL.new {w wr : World} {bc p : Nat} {s : ByteArray} (g : w.grownBy wr none) (c : Cur wr bc s p) (lc : w.heap.size ≤ bc) (hp : p ≤ s.size) : CrL w bc s p (.slice none 0 0) [] wr :=
  ⟨g, c, Own.nil _ _, lc, hp, by simp⟩

set_option maxRecDepth 100000 in
set_option maxHeartbeats 4000000 in
theorem cread_in (s : ByteArray) (p0 : Nat) (w : World) (he : Et w) (hp0 : p0 ≤ s.size) (hs : s.size ≤ 1000000) : Calls Tryd.prog 55 #[.string s, .int .i64 p0] w fun e w' => e = .returned (rdR (rdF s p0 p0 none [])) ∧ w.grownBy w' none := by
  have HE := Lib.hid he
  have hm : s.size ≤ maxLen := by unfold maxLen; omega
  obtain ⟨i0, hi, hz0, hz1, hz2⟩ := info_parts Tryd.infoByte
  clear he
  go_enter Tryd.func55, Tryd.ntmps55
  go_wp2_with fail
  refine Calls.mono (new_ex s _) ?_
  rintro e w1 ⟨bc, rfl, hl, hc, hg⟩
  have E1 := Lib.hid (show w.grownBy w1 none ∧ Cur w1 bc s 0 from ⟨hg, hc⟩)
  clear hc hg
  go_wp2_with fail
  refine Calls.mono (seek_ok bc s 0 w1 p0 E1.out.2 (by omega) (by omega)) ?_
  rintro e w2 ⟨rfl, hc, hg⟩
  have E2 := Lib.hid (show CrL w bc s p0 (.slice none 0 0) [] w2 from CrL.new (gstepo E1.out.1 hg hl) hc hl hp0)
  clear hc hg E1
  go_wp2_with fail
  go_loopw [5, 8, 9, 10] (fun vn vl vp vo wr => ∃ p lim nx out, vn = .int .i64 ((Option.getD nx 0 : Nat) : Int) ∧ vl = .int .i64 (lim : Nat) ∧ vp = .bool nx.isSome ∧ lim ≤ s.size ∧ CrL w bc s p vo out wr ∧ rdF s p0 p0 none [] = rdF s p lim nx out) (fun _ vl _ vo _ => (intOf vl).toNat * 300 + (300 - slLen vo))
  case atStart => exact ⟨p0, p0, none, [], rfl, rfl, rfl, hp0, E2.out, rfl⟩
  case round =>
    obtain ⟨p, lim, nx, out, rfl, rfl, rfl, hlim, hr, hres⟩ := hrel
    have R0 := Lib.hid hr
    have HR := Lib.hid hres
    have hp := hr.le
    have hfew := hr.few
    obtain ⟨A, cap, rfl, hcap, hcm⟩ := hr.own.shape
    unfold maxLen at hcm
    clear hr hres
    go_wp2_with fail
    by_cases h1 : p + 1 ≤ s.size
    · refine Calls.mono (byte_ok bc s p wr R0.out.cur (HE.out.kept R0.out.gr (by simp)) h1 hm) ?_
      rintro e w3 ⟨rfl, hc3, hg3⟩
      have R3 := Lib.hid (R0.out.step hg3 hc3 h1)
      clear hc3 hg3
      have hb := bt_lt s p
      by_cases hz : bt s p = 0
      · have q0 : (((bt s p : Nat) : Int) / 64 == 0) = true := by simp; omega
        have z0 : (((bt s p : Nat) : Int) == 0) = true := by simp; omega
        have HN := Lib.hid (HR.out.trans (rd_end (by omega) hz))
        cases nx with
        | none =>
          go_wp2_with fail
          refine Calls.mono (at_any bc s (p + 1) w3 R3.out.cur) ?_
          rintro e w4 ⟨rfl, hq⟩
          subst hq
          go_wp2_with (at_builtin; refine wpList_app_sl rfl (.tmp 43) (.tmp 44) 30 rfl (bc + 1) i0 Tryd.underlying30 hi hz0 hz1 hz2 (.slice A out.length cap) out [0] rfl (R3.out.own.kept0 (galloc (grefl _ none) _)) _ rfl (sl_new w3 _ [0] _ 1 rfl rfl) ?d3 ?d4 ?_)
          case d3 => simp; omega
          case d4 => have := blt R3.out.cur; simp; omega
          intro v5 w5 ho5 hg5
          have hcv := run_string_of (P := Tryd.prog) w5 30 9 5 Tryd.underlying30 Tryd.underlying5 Tryd.underlying9 ho5.sl
          have G5 := Lib.hid (show w.grownBy w5 none from gstep R3.out.gr (gfr1 hg5) (fun r hr => by have := (R3.out.own.block r hr).1; have := R3.out.lc; omega))
          clear ho5 hg5
          go_wp2_with fail
          go_ret3
          rw [HN.out]
          exact ⟨rfl, G5.out⟩
        | some nk =>
          go_wp2_with (at_builtin; refine wpList_app_sl rfl (.tmp 43) (.tmp 44) 30 rfl (bc + 1) i0 Tryd.underlying30 hi hz0 hz1 hz2 (.slice A out.length cap) out [0] rfl (R3.out.own.kept0 (galloc (grefl _ none) _)) _ rfl (sl_new w3 _ [0] _ 1 rfl rfl) ?d3 ?d4 ?_)
          case d3 => simp; omega
          case d4 => have := blt R3.out.cur; simp; omega
          intro v5 w5 ho5 hg5
          have hcv := run_string_of (P := Tryd.prog) w5 30 9 5 Tryd.underlying30 Tryd.underlying5 Tryd.underlying9 ho5.sl
          have G5 := Lib.hid (show w.grownBy w5 none from gstep R3.out.gr (gfr1 hg5) (fun r hr => by have := (R3.out.own.block r hr).1; have := R3.out.lc; omega))
          clear ho5 hg5
          go_wp2_with fail
          go_ret3
          rw [HN.out]
          exact ⟨rfl, G5.out⟩
      · have z0 : (((bt s p : Nat) : Int) == 0) = false := by simp; omega
        by_cases h64 : bt s p < 64
        · have q0 : (((bt s p : Nat) : Int) / 64 == 0) = true := by simp; omega
          go_wp2_with fail
          by_cases hl1 : p + 1 + bt s p ≤ s.size
          · refine Calls.mono (T_ok bc s (p + 1) w3 (bt s p) R3.out.cur hl1 hm) ?_
            rintro e w4 ⟨rfl, hc4, hg4⟩
            have R4 := Lib.hid (R3.out.step hg4 hc4 hl1)
            clear hc4 hg4
            have hLs : (s.extract (p + 1) (p + 1 + bt s p)).size = bt s p := by rw [ByteArray.size_extract]; omega
            have HLab := Lib.hid (lab_cons s p hl1)
            by_cases h255 : out.length + 1 + bt s p + 1 ≤ 255
            · have HN := Lib.hid (HR.out.trans (rd_label hz h64 hl1 h255))
              generalize s.extract (p + 1) (p + 1 + bt s p) = L at *
              have k0 : decide ((255 : Int) < (out.length : Int) + 1 + ((bt s p : Nat) : Int) + 1) = false := by simp; omega
              have hof := Lib.hid (show [Value.int .u8 ((bt s p : Nat) : Int)] = bv [UInt8.ofNat (bt s p)] by simp [bv]; omega)
              go_wp2_with (at_builtin; refine wpList_app_sl rfl (.tmp 66) (.tmp 68) 30 rfl (bc + 1) i0 Tryd.underlying30 hi hz0 hz1 hz2 (.slice A out.length cap) out [UInt8.ofNat (bt s p)] rfl (R4.out.own.kept0 (galloc (grefl _ none) _)) _ rfl (sl_new w4 _ [UInt8.ofNat (bt s p)] _ 1 (by exact hof.out) rfl) ?d3 ?d4 ?_)
              case d3 => simp; omega
              case d4 => have := blt R4.out.cur; simp; omega
              intro v5 w5 ho5 hg5
              have R5 := Lib.hid (show w.grownBy w5 none ∧ Cur w5 bc s (p + 1 + bt s p) ∧ Own w5 (bc + 1) v5 (out ++ [UInt8.ofNat (bt s p)]) from ⟨gstep R4.out.gr (gfr1 hg5) (fun r hr => by have := (R4.out.own.block r hr).1; have := R4.out.lc; omega), R4.out.cur.kept (gfr1 hg5) (fun e => by have := (R4.out.own.block _ e.symm).1; omega), ho5⟩)
              have l5 : bc + 1 ≤ w5.heap.size := blt R5.out.2.1
              clear ho5 hg5
              go_wp2_with (at_builtin; refine wpList_app_str rfl (.tmp 69) (.tmp 70) 30 9 rfl (bc + 1) i0 Tryd.underlying30 Tryd.underlying9 hi hz0 hz1 hz2 _ _ rfl R5.out.2.2 L rfl ?e3 l5 ?_)
              case e3 => simp; omega
              intro v6 w6 ho6 hg6
              have R6 := Lib.hid (show CrL w bc s (p + 1 + bt s p) v6 (out ++ lab s p) w6 from ⟨gstep R5.out.1 hg6 (fun r hr => by have := (R5.out.2.2.block r hr).1; have := R4.out.lc; omega), R5.out.2.1.kept hg6 (fun e => by have := (R5.out.2.2.block _ e.symm).1; omega), by rw [HLab.out]; exact ho6, R4.out.lc, hl1, by rw [List.length_append, lab_len s p hl1]; omega⟩)
              obtain ⟨A6, c6, rfl, _, _⟩ := ho6.shape
              clear ho6 hg6
              go_wp2_with fail
              go_roundw
              case rel => exact ⟨_, _, _, _, rfl, rfl, rfl, hlim, R6.out, HN.out⟩
              case measure => simp [intOf, slLen]; omega
            · have HN := Lib.hid (HR.out.trans (rd_long hz h64 hl1 h255))
              generalize s.extract (p + 1) (p + 1 + bt s p) = L at *
              have k0 : decide ((255 : Int) < (out.length : Int) + 1 + ((bt s p : Nat) : Int) + 1) = true := by simp; omega
              go_wp2_with fail
              go_ret3
              rw [HN.out]
              exact ⟨rfl, R4.out.gr⟩
          · refine Calls.mono (T_short bc s (p + 1) w3 (bt s p) R3.out.cur (HE.out.kept R3.out.gr (by simp)) (by omega) (by omega) (by omega) hm) ?_
            rintro e w4 ⟨rfl, hc4, hg4⟩
            have R4 := Lib.hid (R3.out.step hg4 hc4 (by omega))
            have HN := Lib.hid (HR.out.trans (rd_lshort (by omega) hz h64 hl1))
            clear hc4 hg4
            go_wp2_with fail
            go_ret3
            rw [HN.out]
            exact ⟨rfl, R4.out.gr⟩
        · have q0 : (((bt s p : Nat) : Int) / 64 == 0) = false := by simp; omega
          by_cases h192 : bt s p < 192
          · have q3 : (((bt s p : Nat) : Int) / 64 == 3) = false := by simp; omega
            have HN := Lib.hid (HR.out.trans (rd_form (by omega) (by omega) h192))
            go_wp2_with fail
            go_ret3
            rw [HN.out]
            exact ⟨rfl, R3.out.gr⟩
          · have q3 : (((bt s p : Nat) : Int) / 64 == 3) = true := by simp; omega
            go_wp2_with fail
            by_cases h2 : p + 1 + 1 ≤ s.size
            · refine Calls.mono (byte_ok bc s (p + 1) w3 R3.out.cur (HE.out.kept R3.out.gr (by simp)) h2 hm) ?_
              rintro e w4 ⟨rfl, hc4, hg4⟩
              have R4 := Lib.hid (R3.out.step hg4 hc4 h2)
              clear hc4 hg4
              have hb2 := bt_lt s (p + 1)
              have HP := ptr_bits s p (by omega)
              by_cases hlp : ptr s p < lim
              · have HN := Lib.hid (HR.out.trans (rd_ptr (by omega) h2 hlp))
                cases nx with
                | none =>
                  go_wp2_with fail
                  refine Calls.mono (at_any bc s (p + 1 + 1) w4 R4.out.cur) ?_
                  rintro e w5 ⟨rfl, hq⟩
                  subst hq
                  go_wp2_with fail
                  refine Calls.mono (seek_ok bc s (p + 1 + 1) w4 (ptr s p : Nat) R4.out.cur (by omega) (by omega)) ?_
                  rintro e w6 ⟨rfl, hc6, hg6⟩
                  have R6 := Lib.hid (R4.out.step hg6 hc6 (by omega))
                  clear hc6 hg6
                  go_wp2_with fail
                  go_roundw
                  case rel => exact ⟨_, _, _, _, rfl, rfl, rfl, by omega, R6.out, HN.out⟩
                  case measure => simp [intOf, slLen]; omega
                | some nk =>
                  go_wp2_with fail
                  refine Calls.mono (seek_ok bc s (p + 1 + 1) w4 (ptr s p : Nat) R4.out.cur (by omega) (by omega)) ?_
                  rintro e w6 ⟨rfl, hc6, hg6⟩
                  have R6 := Lib.hid (R4.out.step hg6 hc6 (by omega))
                  clear hc6 hg6
                  go_wp2_with fail
                  go_roundw
                  case rel => exact ⟨_, _, _, _, rfl, rfl, rfl, by omega, R6.out, HN.out⟩
                  case measure => simp [intOf, slLen]; omega
              · have HN := Lib.hid (HR.out.trans (rd_loop (by omega) h2 hlp))
                cases nx with
                | none =>
                  go_wp2_with fail
                  refine Calls.mono (at_any bc s (p + 1 + 1) w4 R4.out.cur) ?_
                  rintro e w5 ⟨rfl, hq⟩
                  subst hq
                  go_wp2_with fail
                  go_ret3
                  rw [HN.out]
                  exact ⟨rfl, R4.out.gr⟩
                | some nk =>
                  go_wp2_with fail
                  go_ret3
                  rw [HN.out]
                  exact ⟨rfl, R4.out.gr⟩
            · refine Calls.mono (byte_short bc s (p + 1) w3 R3.out.cur (HE.out.kept R3.out.gr (by simp)) (by omega) (by omega) hm) ?_
              rintro e w4 ⟨rfl, hc4, hg4⟩
              have R4 := Lib.hid (R3.out.step hg4 hc4 (by omega))
              have HN := Lib.hid (HR.out.trans (rd_pshort (by omega) (by omega) h2))
              clear hc4 hg4
              go_wp2_with fail
              go_ret3
              rw [HN.out]
              exact ⟨rfl, R4.out.gr⟩
    · refine Calls.mono (byte_short bc s p wr R0.out.cur (HE.out.kept R0.out.gr (by simp)) hp (by omega) hm) ?_
      rintro e w3 ⟨rfl, hc3, hg3⟩
      have R3 := Lib.hid (R0.out.step hg3 hc3 hp)
      have HN := Lib.hid (HR.out.trans (rd_short (by omega)))
      clear hc3 hg3
      go_wp2_with fail
      go_ret3
      rw [HN.out]
      exact ⟨rfl, R3.out.gr⟩
end Go.Proofs.YtijjfdmklbncbaaDoor
