/-
  The document's Write; HeadWrites.
-/
import Derived.Test.YtklkigpdahaahaaDoorHd03q
import Derived.Test.YtklkigpdahaahaaDoorHd03p
namespace Go.Proofs.YtklkigpdahaahaaDoor
open Go.RowKit

theorem rwrite_bad (H : Hd) (a b c d : Int) (w : World) (h : H.bad) : Calls Tryd.prog 16 #[H.v, cv a b c d] w fun e w' => e = .returned (.tuple #[.string ByteArray.empty, .int .i64 1]) ∧ w.grownBy w' none := by
  have e1 : flN H = 0 := if_pos h
  have e2 : flE H = 1 := if_pos h
  show Calls Tryd.prog 16 #[.agg #[.int .u16 H.id, .bool H.qr, .int .u8 H.op, .bool H.aa, .bool H.tc, .bool H.rd, .bool H.ra, .bool H.z, .bool H.ad, .bool H.cd, .int .u8 H.code], .agg #[.int .i64 a, .int .i64 b, .int .i64 c, .int .i64 d]] w _
  go_enter Tryd.func16, Tryd.ntmps16
  go_wp2_with fail
  refine Calls.mono (rflags_any H _) ?_
  rw [e1, e2]
  rintro e w1 ⟨rfl, hg⟩
  have G1 := Lib.hid (gfr1 (gfr1 hg))
  clear hg e1 e2
  go_wp2
  go_ret2
  exact ⟨rfl, G1.out⟩

/-- What is written after k counts. -/
def wrK (H : Hd) (x : Nat → Int) : Nat → List UInt8
  | 0 => enc 2 H.id ++ enc 2 (flagsN H)
  | k + 1 => wrK H x k ++ enc 2 (x k).toNat
theorem wrK_len (H : Hd) (x : Nat → Int) (k : Nat) : (wrK H x k).length = 4 + 2 * k := by
  induction k with
  | zero => simp [wrK, enc_len]
  | succ k ih => simp [wrK, enc_len, ih]; omega

def cx (a b c d : Int) (k : Nat) : Int := match k with | 0 => a | 1 => b | 2 => c | _ => d
theorem cx_get (a b c d : Int) (k : Nat) (h : k < 4) : (#[Value.int .i64 a, .int .i64 b, .int .i64 c, .int .i64 d])[k]? = some (.int .i64 (cx a b c d k)) := by
  match k, h with
  | 0, _ => rfl
  | 1, _ => rfl
  | 2, _ => rfl
  | 3, _ => rfl
theorem ok_cx {H : Hd} {a b c d : Int} (h : okW H a b c d) (k : Nat) (hk : k < 4) : 0 ≤ cx a b c d k ∧ cx a b c d k ≤ 65535 := by
  obtain ⟨_, ha, hb, hc, hd⟩ := h
  match k, hk with
  | 0, _ => exact ha
  | 1, _ => exact hb
  | 2, _ => exact hc
  | 3, _ => exact hd
theorem wrK0 (H : Hd) (x : Nat → Int) : (⟨(wrK H x 0).toArray⟩ : ByteArray) = ⟨(enc 2 H.id).toArray⟩ ++ ⟨(enc 2 (flagsN H)).toArray⟩ := (mk_append_list _ _).symm
theorem wrKs (H : Hd) (x : Nat → Int) (k : Nat) : (⟨(wrK H x (k + 1)).toArray⟩ : ByteArray) = ⟨(wrK H x k).toArray⟩ ++ ⟨(enc 2 (x k).toNat).toArray⟩ := (mk_append_list _ _).symm

set_option maxRecDepth 100000 in
set_option maxHeartbeats 1000000 in
theorem rwrite_ok (H : Hd) (a b c d : Int) (w : World) (hi : H.id < 65536) (h : ¬ H.bad) : Calls Tryd.prog 16 #[H.v, cv a b c d] w fun e w' => e = .returned (.tuple #[.string (wrS H a b c d), .int .i64 (wrE H a b c d)]) ∧ w.grownBy w' none := by
  have e1 : flN H = flagsN H := if_neg h
  have e2 : flE H = 0 := if_neg h
  have hf := flagsN_lt H h
  show Calls Tryd.prog 16 #[.agg #[.int .u16 H.id, .bool H.qr, .int .u8 H.op, .bool H.aa, .bool H.tc, .bool H.rd, .bool H.ra, .bool H.z, .bool H.ad, .bool H.cd, .int .u8 H.code], .agg #[.int .i64 a, .int .i64 b, .int .i64 c, .int .i64 d]] w _
  go_enter Tryd.func16, Tryd.ntmps16
  go_wp2_with fail
  refine Calls.mono (rflags_any H _) ?_
  rw [e1, e2]
  rintro e w1 ⟨rfl, hg⟩
  have G1 := Lib.hid (gfr1 (gfr1 hg))
  have R1 := Lib.hid (gblock hg (balloc2_0 w _ _) (by simp))
  have R2 := Lib.hid (gblock hg (balloc2_1 w _ _) (by simp))
  have c0 : w1.cell? ⟨w.heap.size, 0, none⟩ = some (.int .u16 H.id) := bcellAt R1.out 0
  clear hg e1 e2
  go_wp2_with fail
  refine Calls.mono (rtwo_any H.id hi _) ?_
  rintro e w2 ⟨rfl, hg⟩
  have G2 := Lib.hid (gtrans G1.out hg)
  have R22 := Lib.hid (gblock hg R2.out (by simp))
  clear hg G1 R1 R2 c0
  go_wp2_with fail
  refine Calls.mono (rtwo_any (flagsN H) hf _) ?_
  rintro e w3 ⟨rfl, hg⟩
  have G3 := Lib.hid (gtrans G2.out hg)
  have R3 := Lib.hid (gblock hg R22.out (by simp))
  clear hg G2 R22
  have hl1 := enc_len 2 H.id
  have hl2 := enc_len 2 (flagsN H)
  have hq : ¬ 9223372036854775807 < (enc 2 H.id).length + (enc 2 (flagsN H)).length := by omega
  clear hl1 hl2
  go_wp2_with fail
  go_loopw [8, 9] (fun s i wr => ∃ k : Nat, k ≤ 4 ∧ i = .int .i64 k ∧ s = .string ⟨(wrK H (cx a b c d) k).toArray⟩ ∧ (∀ j, j < k → 0 ≤ cx a b c d j ∧ cx a b c d j ≤ 65535) ∧ w.grownBy wr none ∧ wr.heap[w.heap.size + 1]? = some (.cells #[.int .i64 a, .int .i64 b, .int .i64 c, .int .i64 d] 25 (0, 0))) (fun _ i _ => 4 - (intOf i).toNat)
  case atStart => exact ⟨0, by omega, rfl, by rw [← wrK0], by intro j hj; omega, G3.out, R3.out⟩
  case round =>
    obtain ⟨k, hk, rfl, rfl, hj, hg, hr⟩ := hrel
    have HJ := Lib.hid hj
    have HG := Lib.hid hg
    have HR := Lib.hid hr
    clear hj hg hr
    have hlen := wrK_len H (cx a b c d) k
    by_cases hlt : k < 4
    · have hc : wr.cell? ⟨w.heap.size + 1, k, none⟩ = some (.int .i64 (cx a b c d k)) := (bcellAt HR.out k).trans (cx_get a b c d k hlt)
      generalize hx : cx a b c d k = x at *
      have HX := Lib.hid hx
      clear hx
      have q0 : (0 : Int) ≤ (k : Int) := by omega
      have q1 : (k : Int) < 4 := by omega
      by_cases hb : 0 ≤ x ∧ x ≤ 65535
      · obtain ⟨y, rfl⟩ : ∃ n : Nat, x = n := ⟨x.toNat, by omega⟩
        have HY := Lib.hid (show y < 65536 by omega)
        have b0 : decide (((y : Nat) : Int) < 0) = false := by simp
        have b1 : decide ((65535 : Int) < ((y : Nat) : Int)) = false := by simp; omega
        have hl2 := enc_len 2 y
        have hq : ¬ 9223372036854775807 < (wrK H (cx a b c d) k).length + (enc 2 y).length := by omega
        clear hl2 hlen hb
        go_wp2_with fail
        refine Calls.mono (rtwo_any y HY.out _) ?_
        rintro e w4 ⟨rfl, hg⟩
        have G4 := Lib.hid (gtrans HG.out hg)
        have R4 := Lib.hid (gblock hg HR.out (by simp))
        clear hg
        go_wp2_with fail
        go_roundw
        case rel => exact ⟨k + 1, by omega, by go_num, by rw [wrKs, HX.out]; simp, fun j hj => by
          rcases Nat.lt_succ_iff_lt_or_eq.1 hj with h | h
          · exact HJ.out j h
          · rw [h, HX.out]; have := HY.out; omega, G4.out, R4.out⟩
        case measure => simp [intOf]; omega
      · have HF := Lib.hid (show ¬ okW H a b c d from fun ho => hb (by rw [← HX.out]; exact ok_cx ho k hlt))
        by_cases h0 : x < 0
        · have b0 : decide (x < 0) = true := by simp; omega
          go_wp2
          go_ret2
          refine ⟨?_, HG.out⟩
          unfold wrS wrE
          rw [if_neg HF.out, if_neg HF.out]
          rfl
        · have b0 : decide (x < 0) = false := by simp; omega
          have b1 : decide (65535 < x) = true := by simp; omega
          go_wp2
          go_ret2
          refine ⟨?_, HG.out⟩
          unfold wrS wrE
          rw [if_neg HF.out, if_neg HF.out]
          rfl
    · obtain rfl : k = 4 := by omega
      have HF := Lib.hid (show okW H a b c d from ⟨h, HJ.out 0 (by omega), HJ.out 1 (by omega), HJ.out 2 (by omega), HJ.out 3 (by omega)⟩)
      go_wp2
      go_ret2
      refine ⟨?_, HG.out⟩
      unfold wrS wrE
      rw [if_pos HF.out, if_pos HF.out]
      rfl

theorem rwrite_any (H : Hd) (a b c d : Int) (w : World) (hi : H.id < 65536) : Calls Tryd.prog 16 #[H.v, cv a b c d] w fun e w' => e = .returned (.tuple #[.string (wrS H a b c d), .int .i64 (wrE H a b c d)]) ∧ w.grownBy w' none := by
  by_cases h : H.bad
  · have e := rwrite_bad H a b c d w h
    have hn : ¬ okW H a b c d := fun ho => ho.1 h
    unfold wrS wrE
    rw [if_neg hn, if_neg hn]
    exact e
  · exact rwrite_ok H a b c d w hi h
end Go.Proofs.YtklkigpdahaahaaDoor
