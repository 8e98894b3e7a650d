/-
  Package head: Flags.
-/
import Derived.Test.YtklkigpdahaahaaDoorHd03a
namespace Go.Proofs.YtklkigpdahaahaaDoor
open Go.RowKit

def orq (q : Bool) (x b : Int) : Int := if q then bits .or .u16 x b else x
def oacc (f0 : Int) (l : List (Bool × Int)) : Int := l.foldl (fun x p => orq p.1 x p.2) f0

theorem flags_bad (id op code : Nat) (q0 q1 q2 q3 q4 q5 q6 q7 : Bool) (w : World) (h : 15 < op ∨ 15 < code) : Calls Tryd.prog 14 #[.agg #[.int .u16 id, .bool q0, .int .u8 op, .bool q1, .bool q2, .bool q3, .bool q4, .bool q5, .bool q6, .bool q7, .int .u8 code]] w fun e w' => e = .returned (.tuple #[.int .u16 0, .int .i64 1]) ∧ w.grownBy w' none := by
  by_cases h1 : 15 < op
  · have g1 : (15 : Int) < (op : Int) := by omega
    go_enter Tryd.func14, Tryd.ntmps14
    go_wp2
    go_ret2
    exact ⟨rfl, galloc (grefl _ _) _⟩
  · have g1 : ¬ (15 : Int) < (op : Int) := by omega
    have g2 : (15 : Int) < (code : Int) := by omega
    go_enter Tryd.func14, Tryd.ntmps14
    go_wp2
    go_ret2
    exact ⟨rfl, galloc (grefl _ _) _⟩

set_option maxHeartbeats 4000000 in
set_option maxRecDepth 100000 in
theorem flags_gen (id op code : Nat) (q0 q1 q2 q3 q4 q5 q6 q7 : Bool) (b0 b1 b2 b3 b4 b5 b6 b7 : Int) (t : TypeId) (fr : Nat × Nat) (w : World) (h1 : op ≤ 15) (h2 : code ≤ 15) (hb : w.heap[0]? = some (.cells #[.int .u16 b0, .int .u16 b1, .int .u16 b2, .int .u16 b3, .int .u16 b4, .int .u16 b5, .int .u16 b6, .int .u16 b7] t fr)) : Calls Tryd.prog 14 #[.agg #[.int .u16 id, .bool q0, .int .u8 op, .bool q1, .bool q2, .bool q3, .bool q4, .bool q5, .bool q6, .bool q7, .int .u8 code]] w fun e w' => e = .returned (.tuple #[.int .u16 (oacc (bits .or .u16 (op * 2048) code) [(q0, b0), (q1, b1), (q2, b2), (q3, b3), (q4, b4), (q5, b5), (q6, b6), (q7, b7)]), .int .i64 0]) ∧ w.grownBy w' none := by
  have HB := Lib.hid hb
  have i0 : ∀ w, (Instr.index 55 (.agg #[.int .u16 b0, .int .u16 b1, .int .u16 b2, .int .u16 b3, .int .u16 b4, .int .u16 b5, .int .u16 b6, .int .u16 b7]) (.int .i64 0)).run Tryd.prog w = .ok (.int .u16 b0) w := fun _ => by kernel_rfl
  have i1 : ∀ w, (Instr.index 55 (.agg #[.int .u16 b0, .int .u16 b1, .int .u16 b2, .int .u16 b3, .int .u16 b4, .int .u16 b5, .int .u16 b6, .int .u16 b7]) (.int .i64 1)).run Tryd.prog w = .ok (.int .u16 b1) w := fun _ => by kernel_rfl
  have i2 : ∀ w, (Instr.index 55 (.agg #[.int .u16 b0, .int .u16 b1, .int .u16 b2, .int .u16 b3, .int .u16 b4, .int .u16 b5, .int .u16 b6, .int .u16 b7]) (.int .i64 2)).run Tryd.prog w = .ok (.int .u16 b2) w := fun _ => by kernel_rfl
  have i3 : ∀ w, (Instr.index 55 (.agg #[.int .u16 b0, .int .u16 b1, .int .u16 b2, .int .u16 b3, .int .u16 b4, .int .u16 b5, .int .u16 b6, .int .u16 b7]) (.int .i64 3)).run Tryd.prog w = .ok (.int .u16 b3) w := fun _ => by kernel_rfl
  have i4 : ∀ w, (Instr.index 55 (.agg #[.int .u16 b0, .int .u16 b1, .int .u16 b2, .int .u16 b3, .int .u16 b4, .int .u16 b5, .int .u16 b6, .int .u16 b7]) (.int .i64 4)).run Tryd.prog w = .ok (.int .u16 b4) w := fun _ => by kernel_rfl
  have i5 : ∀ w, (Instr.index 55 (.agg #[.int .u16 b0, .int .u16 b1, .int .u16 b2, .int .u16 b3, .int .u16 b4, .int .u16 b5, .int .u16 b6, .int .u16 b7]) (.int .i64 5)).run Tryd.prog w = .ok (.int .u16 b5) w := fun _ => by kernel_rfl
  have i6 : ∀ w, (Instr.index 55 (.agg #[.int .u16 b0, .int .u16 b1, .int .u16 b2, .int .u16 b3, .int .u16 b4, .int .u16 b5, .int .u16 b6, .int .u16 b7]) (.int .i64 6)).run Tryd.prog w = .ok (.int .u16 b6) w := fun _ => by kernel_rfl
  have i7 : ∀ w, (Instr.index 55 (.agg #[.int .u16 b0, .int .u16 b1, .int .u16 b2, .int .u16 b3, .int .u16 b4, .int .u16 b5, .int .u16 b6, .int .u16 b7]) (.int .i64 7)).run Tryd.prog w = .ok (.int .u16 b7) w := fun _ => by kernel_rfl
  clear hb
  have g1 : ¬ (15 : Int) < (op : Int) := by omega
  have g2 : ¬ (15 : Int) < (code : Int) := by omega
  go_enter Tryd.func14, Tryd.ntmps14
  go_wp2_with (refine wpList_load_row rfl 55 _ rfl 0 rfl t _ fr _ (gblock (galloc (galloc (grefl _ none) _) _) HB.out (by simp)) Tryd.underlying55 rfl (by kernel_rfl) ?_)
  go_loop [4, 42] (fun f i => ∃ (k : Nat), k ≤ 8 ∧ i = .int .i64 k ∧ f = .int .u16 (oacc (bits .or .u16 (op * 2048) code) ([(q0, b0), (q1, b1), (q2, b2), (q3, b3), (q4, b4), (q5, b5), (q6, b6), (q7, b7)].take k))) (fun _ i => 8 - (intOf i).toNat)
  case atStart => exact ⟨0, by omega, rfl, rfl⟩
  case round =>
    obtain ⟨k, hk, rfl, rfl⟩ := hrel
    obtain rfl | rfl | rfl | rfl | rfl | rfl | rfl | rfl | rfl : k = 0 ∨ k = 1 ∨ k = 2 ∨ k = 3 ∨ k = 4 ∨ k = 5 ∨ k = 6 ∨ k = 7 ∨ k = 8 := by omega
    · cases q0
      · go_wp2
        go_round
        case rel => exact ⟨1, by omega, rfl, rfl⟩
        case measure => simp [intOf]
      · go_wp2
        go_round
        case rel => exact ⟨1, by omega, rfl, rfl⟩
        case measure => simp [intOf]
    · cases q1
      · go_wp2
        go_round
        case rel => exact ⟨2, by omega, rfl, rfl⟩
        case measure => simp [intOf]
      · go_wp2
        go_round
        case rel => exact ⟨2, by omega, rfl, rfl⟩
        case measure => simp [intOf]
    · cases q2
      · go_wp2
        go_round
        case rel => exact ⟨3, by omega, rfl, rfl⟩
        case measure => simp [intOf]
      · go_wp2
        go_round
        case rel => exact ⟨3, by omega, rfl, rfl⟩
        case measure => simp [intOf]
    · cases q3
      · go_wp2
        go_round
        case rel => exact ⟨4, by omega, rfl, rfl⟩
        case measure => simp [intOf]
      · go_wp2
        go_round
        case rel => exact ⟨4, by omega, rfl, rfl⟩
        case measure => simp [intOf]
    · cases q4
      · go_wp2
        go_round
        case rel => exact ⟨5, by omega, rfl, rfl⟩
        case measure => simp [intOf]
      · go_wp2
        go_round
        case rel => exact ⟨5, by omega, rfl, rfl⟩
        case measure => simp [intOf]
    · cases q5
      · go_wp2
        go_round
        case rel => exact ⟨6, by omega, rfl, rfl⟩
        case measure => simp [intOf]
      · go_wp2
        go_round
        case rel => exact ⟨6, by omega, rfl, rfl⟩
        case measure => simp [intOf]
    · cases q6
      · go_wp2
        go_round
        case rel => exact ⟨7, by omega, rfl, rfl⟩
        case measure => simp [intOf]
      · go_wp2
        go_round
        case rel => exact ⟨7, by omega, rfl, rfl⟩
        case measure => simp [intOf]
    · cases q7
      · go_wp2
        go_round
        case rel => exact ⟨8, by omega, rfl, rfl⟩
        case measure => simp [intOf]
      · go_wp2
        go_round
        case rel => exact ⟨8, by omega, rfl, rfl⟩
        case measure => simp [intOf]
    · go_wp2
      go_ret2
      exact ⟨rfl, galloc (galloc (grefl _ none) _) _⟩
end Go.Proofs.YtklkigpdahaahaaDoor
