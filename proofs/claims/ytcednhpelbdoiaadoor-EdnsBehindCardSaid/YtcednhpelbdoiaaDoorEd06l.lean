/-
  The law package's Long.
-/
import Derived.Test.YtcednhpelbdoiaaDoorEd06f
namespace Go.Proofs.YtcednhpelbdoiaaDoor
open Go.RowKit

def LongP (l : List Opt) (w : World) (e : Ending) (w' : World) : Prop := ∃ q : Bool, e = .returned (.bool q) ∧ (q = false → l.length ≤ 300 ∧ (opsB l).length ≤ 200000) ∧ w.grownBy w' none

set_option maxRecDepth 100000 in
set_option maxHeartbeats 2000000 in
theorem long_any (a b c d : Int) (A : Option Addr) (ca : Nat) (l : List Opt) (w : World) (ha : Ops w (.slice A l.length ca) l) (hl : l.length ≤ maxLen) :
    Calls Tryd.prog 17 #[.agg #[.int .u16 a, .int .u8 b, .int .u8 c, .int .u16 d, .slice A l.length ca]] w (LongP l w) := by
  have HA := Lib.hid ha
  unfold maxLen at hl
  clear ha
  go_enter Tryd.func17, Tryd.ntmps17
  go_wp2_with fail
  go_loopw [3, 4] (fun t i wr => ∃ k m : Nat, k ≤ l.length ∧ i = .int .i64 k ∧ t = .int .i64 m ∧ m ≤ 400010 ∧ (200000 ≤ m ∨ (opsB (l.take k)).length ≤ m) ∧ w.grownBy wr none ∧ wr.heap[w.heap.size]? = some (.cells #[.int .u16 a, .int .u8 b, .int .u8 c, .int .u16 d, .slice A l.length ca] 27 (0, 0))) (fun _ i _ => l.length - (intOf i).toNat)
  case atStart => exact ⟨0, 0, by omega, rfl, rfl, by omega, .inr (by simp [opsB]), galloc (grefl _ none) _, balloc1_0 _ _⟩
  case round =>
    obtain ⟨k, m, hk, rfl, rfl, hm, hor, hg, hr⟩ := hrel
    have HG := Lib.hid hg
    have HR := Lib.hid hr
    have HO := Lib.hid hor
    have c4 : wr.cell? ⟨w.heap.size, 4, none⟩ = some (.slice A l.length ca) := bcellAt hr 4
    clear hg hr hor
    by_cases hlt : k < l.length
    · have b0 : decide ((k : Int) < (l.length : Int)) = true := by simp; omega
      by_cases hm2 : m < 200000
      · have b1 : decide ((m : Int) < 200000) = true := by simp; omega
        obtain ⟨bb, off, rfl, l0, l1⟩ := (HA.out.kept HG.out).at rfl hlt
        have q0 : (0 : Int) ≤ (k : Int) := by omega
        have q1 : (k : Int) < (l.length : Int) := by omega
        have HL := Lib.hid (opsB_snoc_len l k hlt)
        generalize l[k] = x at *
        go_wp2_with fail
        go_roundw
        case rel =>
          by_cases hx : x.2.size < 200000
          · exact ⟨k + 1, m + 10 + x.2.size, by omega, by go_num, by rw [if_pos (by omega)]; go_num, by omega, by have := HO.out; rw [HL.out]; omega, HG.out, HR.out⟩
          · exact ⟨k + 1, m + 10 + 200000, by omega, by go_num, by rw [if_neg (by omega)]; go_num, by omega, by omega, HG.out, HR.out⟩
        case measure => simp [intOf]; omega
      · have b1 : decide ((m : Int) < 200000) = false := by simp; omega
        have b2 : decide ((200000 : Int) ≤ (m : Int)) = true := by simp; omega
        go_wp2_with fail
        go_ret
        exact ⟨true, rfl, by simp, HG.out⟩
    · have b0 : decide ((k : Int) < (l.length : Int)) = false := by simp; omega
      obtain rfl : k = l.length := by omega
      rw [List.take_length] at *
      by_cases hm2 : m < 200000
      · have b2 : decide ((200000 : Int) ≤ (m : Int)) = false := by simp; omega
        go_wp2_with fail
        go_ret
        refine ⟨_, rfl, ?_, HG.out⟩
        intro h
        have := HO.out
        simp at h
        omega
      · have b2 : decide ((200000 : Int) ≤ (m : Int)) = true := by simp; omega
        go_wp2_with fail
        go_ret
        exact ⟨true, rfl, by simp, HG.out⟩
end Go.Proofs.YtcednhpelbdoiaaDoor
