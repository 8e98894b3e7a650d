/-
  HeadBits.
-/
import Derived.Test.YtklkigpdahaahaaDoorHd03f
namespace Go.Proofs.YtklkigpdahaahaaDoor
open Go.RowKit

def cnt (l : List Bool) : Int := l.foldl (fun n b => if b then n + 1 else n) 0

theorem cnt_aux (l : List Bool) : ∀ n : Int, n ≤ l.foldl (fun n b => if b then n + 1 else n) n ∧ l.foldl (fun n b => if b then n + 1 else n) n ≤ n + l.length := by
  induction l with
  | nil => intro n; simp
  | cons b r ih =>
    intro n
    simp only [List.foldl_cons, List.length_cons]
    cases b
    · have := ih n
      simp only [Bool.false_eq_true, if_false]
      omega
    · have := ih (n + 1)
      simp only [if_true]
      omega
theorem cnt_step (l : List Bool) (h : l.length ≤ 100) : wrap64 (cnt l + 1) = cnt (l ++ [true]) := by
  have h2 := cnt_aux l 0
  have e : cnt (l ++ [true]) = cnt l + 1 := by simp [cnt]
  rw [e]
  unfold cnt wrap64
  omega

set_option maxHeartbeats 4000000 in
set_option maxRecDepth 100000 in
theorem unlike_any (i o c : Int) (q1 q2 q3 q4 q5 q6 q7 q8 : Bool) (i' o' c' : Int) (r1 r2 r3 r4 r5 r6 r7 r8 : Bool) (w : World) :
    Calls Tryd.prog 12 #[.agg #[.int .u16 i, .bool q1, .int .u8 o, .bool q2, .bool q3, .bool q4, .bool q5, .bool q6, .bool q7, .bool q8, .int .u8 c], .agg #[.int .u16 i', .bool r1, .int .u8 o', .bool r2, .bool r3, .bool r4, .bool r5, .bool r6, .bool r7, .bool r8, .int .u8 c']] w fun e w' => e = .returned (.int .i64 (cnt [(i != i'), (!(q1 == r1)), (o != o'), (!(q2 == r2)), (!(q3 == r3)), (!(q4 == r4)), (!(q5 == r5)), (!(q6 == r6)), (!(q7 == r7)), (!(q8 == r8)), (c != c')])) ∧ w.grownBy w' none := by
  go_enter Tryd.func12, Tryd.ntmps12
  go_wp2_with fail
  generalize hb0 : (i != i') = b0
  have T0 := Lib.hid hb0
  clear hb0
  generalize hb1 : (!(q1 == r1)) = b1
  have T1 := Lib.hid hb1
  clear hb1
  generalize hb2 : (o != o') = b2
  have T2 := Lib.hid hb2
  clear hb2
  generalize hb3 : (!(q2 == r2)) = b3
  have T3 := Lib.hid hb3
  clear hb3
  generalize hb4 : (!(q3 == r3)) = b4
  have T4 := Lib.hid hb4
  clear hb4
  generalize hb5 : (!(q4 == r4)) = b5
  have T5 := Lib.hid hb5
  clear hb5
  generalize hb6 : (!(q5 == r5)) = b6
  have T6 := Lib.hid hb6
  clear hb6
  generalize hb7 : (!(q6 == r6)) = b7
  have T7 := Lib.hid hb7
  clear hb7
  generalize hb8 : (!(q7 == r7)) = b8
  have T8 := Lib.hid hb8
  clear hb8
  generalize hb9 : (!(q8 == r8)) = b9
  have T9 := Lib.hid hb9
  clear hb9
  generalize hb10 : (c != c') = b10
  have T10 := Lib.hid hb10
  clear hb10
  go_loop [5, 65] (fun f j => ∃ (k : Nat), k ≤ 11 ∧ j = .int .i64 k ∧ f = .int .i64 (cnt ([b0, b1, b2, b3, b4, b5, b6, b7, b8, b9, b10].take k))) (fun _ j => 11 - (intOf j).toNat)
  case atStart => exact ⟨0, by omega, rfl, rfl⟩
  case round =>
    obtain ⟨k, hk, rfl, rfl⟩ := hrel
    obtain rfl | rfl | rfl | rfl | rfl | rfl | rfl | rfl | rfl | rfl | rfl | rfl : k = 0 ∨ k = 1 ∨ k = 2 ∨ k = 3 ∨ k = 4 ∨ k = 5 ∨ k = 6 ∨ k = 7 ∨ k = 8 ∨ k = 9 ∨ k = 10 ∨ k = 11 := by omega
    · cases b0
      · go_wp2
        go_round
        case rel => exact ⟨1, by omega, rfl, rfl⟩
        case measure => simp [intOf]
      · go_wp2
        go_round
        case rel => exact ⟨1, by omega, rfl, congrArg (Value.int .i64) (cnt_step [] (by simp))⟩
        case measure => simp [intOf]
    · cases b1
      · go_wp2
        go_round
        case rel => exact ⟨2, by omega, rfl, rfl⟩
        case measure => simp [intOf]
      · go_wp2
        go_round
        case rel => exact ⟨2, by omega, rfl, congrArg (Value.int .i64) (cnt_step [b0] (by simp))⟩
        case measure => simp [intOf]
    · cases b2
      · go_wp2
        go_round
        case rel => exact ⟨3, by omega, rfl, rfl⟩
        case measure => simp [intOf]
      · go_wp2
        go_round
        case rel => exact ⟨3, by omega, rfl, congrArg (Value.int .i64) (cnt_step [b0, b1] (by simp))⟩
        case measure => simp [intOf]
    · cases b3
      · go_wp2
        go_round
        case rel => exact ⟨4, by omega, rfl, rfl⟩
        case measure => simp [intOf]
      · go_wp2
        go_round
        case rel => exact ⟨4, by omega, rfl, congrArg (Value.int .i64) (cnt_step [b0, b1, b2] (by simp))⟩
        case measure => simp [intOf]
    · cases b4
      · go_wp2
        go_round
        case rel => exact ⟨5, by omega, rfl, rfl⟩
        case measure => simp [intOf]
      · go_wp2
        go_round
        case rel => exact ⟨5, by omega, rfl, congrArg (Value.int .i64) (cnt_step [b0, b1, b2, b3] (by simp))⟩
        case measure => simp [intOf]
    · cases b5
      · go_wp2
        go_round
        case rel => exact ⟨6, by omega, rfl, rfl⟩
        case measure => simp [intOf]
      · go_wp2
        go_round
        case rel => exact ⟨6, by omega, rfl, congrArg (Value.int .i64) (cnt_step [b0, b1, b2, b3, b4] (by simp))⟩
        case measure => simp [intOf]
    · cases b6
      · go_wp2
        go_round
        case rel => exact ⟨7, by omega, rfl, rfl⟩
        case measure => simp [intOf]
      · go_wp2
        go_round
        case rel => exact ⟨7, by omega, rfl, congrArg (Value.int .i64) (cnt_step [b0, b1, b2, b3, b4, b5] (by simp))⟩
        case measure => simp [intOf]
    · cases b7
      · go_wp2
        go_round
        case rel => exact ⟨8, by omega, rfl, rfl⟩
        case measure => simp [intOf]
      · go_wp2
        go_round
        case rel => exact ⟨8, by omega, rfl, congrArg (Value.int .i64) (cnt_step [b0, b1, b2, b3, b4, b5, b6] (by simp))⟩
        case measure => simp [intOf]
    · cases b8
      · go_wp2
        go_round
        case rel => exact ⟨9, by omega, rfl, rfl⟩
        case measure => simp [intOf]
      · go_wp2
        go_round
        case rel => exact ⟨9, by omega, rfl, congrArg (Value.int .i64) (cnt_step [b0, b1, b2, b3, b4, b5, b6, b7] (by simp))⟩
        case measure => simp [intOf]
    · cases b9
      · go_wp2
        go_round
        case rel => exact ⟨10, by omega, rfl, rfl⟩
        case measure => simp [intOf]
      · go_wp2
        go_round
        case rel => exact ⟨10, by omega, rfl, congrArg (Value.int .i64) (cnt_step [b0, b1, b2, b3, b4, b5, b6, b7, b8] (by simp))⟩
        case measure => simp [intOf]
    · cases b10
      · go_wp2
        go_round
        case rel => exact ⟨11, by omega, rfl, rfl⟩
        case measure => simp [intOf]
      · go_wp2
        go_round
        case rel => exact ⟨11, by omega, rfl, congrArg (Value.int .i64) (cnt_step [b0, b1, b2, b3, b4, b5, b6, b7, b8, b9] (by simp))⟩
        case measure => simp [intOf]
    · go_wp2
      go_ret
      have e0 := T0.out
      subst e0
      have e1 := T1.out
      subst e1
      have e2 := T2.out
      subst e2
      have e3 := T3.out
      subst e3
      have e4 := T4.out
      subst e4
      have e5 := T5.out
      subst e5
      have e6 := T6.out
      subst e6
      have e7 := T7.out
      subst e7
      have e8 := T8.out
      subst e8
      have e9 := T9.out
      subst e9
      have e10 := T10.out
      subst e10
      exact ⟨rfl, galloc (galloc (galloc (grefl _ none) _) _) _⟩
end Go.Proofs.YtklkigpdahaahaaDoor
