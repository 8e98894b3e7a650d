/-
  The document's From, number.
-/
import Derived.Test.YtklkigpdahaahaaDoorHd03e
namespace Go.Proofs.YtklkigpdahaahaaDoor
open Go.RowKit

theorem wrap_in (x : Int) (h : -9223372036854775808 ≤ x) (h' : x < 9223372036854775808) : wrap64 x = x := by unfold wrap64; omega
theorem wrap_small (n : Nat) (h : n < 256) : wrap64 (n : Int) = n := wrap_in _ (by omega) (by omega)
theorem num_two (s : ByteArray) (p : Nat) (h : p + 2 ≤ s.size) : num s p 2 = (s[p]'(by omega)).toNat * 256 + (s[p + 1]'(by omega)).toNat := by
  have hl : s.data.toList.length = s.size := Array.length_toList
  unfold num
  rw [List.drop_eq_getElem_cons (by omega), List.drop_eq_getElem_cons (by omega), List.take_succ_cons, List.take_succ_cons, List.take_zero]
  simp only [be, List.foldl_cons, List.foldl_nil, Nat.zero_mul, Nat.zero_add]
  rfl

theorem refnum_ok (s : ByteArray) (p : Nat) (w : World) (h : p + 2 ≤ s.size) (hs : s.size ≤ maxLen) : Calls Tryd.prog 21 #[.string s, .int .i64 p] w fun e w' => e = .returned (.int .i64 (num s p 2)) ∧ w.grownBy w' none := by
  unfold maxLen at hs
  have h0 : (0 : Int) ≤ (p : Int) := by omega
  have h1 : (p : Int) < ((s.size : Nat) : Int) := by omega
  have h2 : (p : Int) + 1 < ((s.size : Nat) : Int) := by omega
  have h3 : (0 : Int) ≤ (p : Int) + 1 := by omega
  have h4 : IntKind.i64.wrap ((p : Int) + 1) = (p : Int) + 1 := IntWalk.i64_in _ (by omega)
  go_enter Tryd.func21, Tryd.ntmps21
  go_wp2
  go_quiet (fail)
  go_wp2
  go_ret
  refine ⟨?_, gdrewN (grefl _ none) _⟩
  have e1 := wrap_small (s[p]'(by omega)).toNat (by have := (s[p]'(by omega)).toNat_lt; omega)
  have e2 := wrap_small (s[p + 1]'(by omega)).toNat (by have := (s[p + 1]'(by omega)).toNat_lt; omega)
  have l1 := (s[p]'(by omega)).toNat_lt
  have l2 := (s[p + 1]'(by omega)).toNat_lt
  simp only [Array.getD]
  show Ending.returned (Value.int IntKind.i64 (wrap64 (wrap64 (wrap64 ((s[p]'(by omega)).toNat : Int) * 256) + wrap64 ((s[p + 1]'(by omega)).toNat : Int)))) = _
  have e3 := wrap_in (((s[p]'(by omega)).toNat : Int) * 256) (by omega) (by omega)
  have e4 := wrap_in (((s[p]'(by omega)).toNat : Int) * 256 + ((s[p + 1]'(by omega)).toNat : Int)) (by omega) (by omega)
  rw [e1, e2, e3, e4, num_two s p h]
  rfl

theorem rfrom_any (n : Nat) (hn : n < 65536) (w : World) : Calls Tryd.prog 18 #[.int .u16 n] w fun e w' => e = .returned (fromN 0 n).v ∧ w.grownBy w' none := by
  go_enter Tryd.func18, Tryd.ntmps18
  go_wp2
  refine bodyPost_ret (results_cell_row rfl _ _ w.heap.size _ _ _ _ rfl (balloc w _) Tryd.underlying24 rfl (by kernel_rfl)) rfl ?_
  refine ⟨?_, galloc (grefl _ none) _⟩
  have q : ∀ i k : Nat, 2 ^ i = k → ((n : Int) / (k : Int) % 2 == 1) = bq n i := by
    intro i k hk
    subst hk
    unfold bq
    rw [Bool.eq_iff_iff]
    simp only [beq_iff_eq, decide_eq_true_eq]
    omega
  have q15 : ((n : Int) / 32768 == 1) = bq n 15 := by
    unfold bq
    rw [Bool.eq_iff_iff]
    simp only [beq_iff_eq, decide_eq_true_eq]
    omega
  have c1 : ((n : Int) / 2048 % 16) = ((n / 2048 % 16 : Nat) : Int) := by omega
  have c2 : ((n : Int) % 16) = ((n % 16 : Nat) : Int) := by omega
  have q10 : ((n : Int) / 1024 % 2 == 1) = bq n 10 := q 10 1024 rfl
  have q9 : ((n : Int) / 512 % 2 == 1) = bq n 9 := q 9 512 rfl
  have q8 : ((n : Int) / 256 % 2 == 1) = bq n 8 := q 8 256 rfl
  have q7 : ((n : Int) / 128 % 2 == 1) = bq n 7 := q 7 128 rfl
  have q6 : ((n : Int) / 64 % 2 == 1) = bq n 6 := q 6 64 rfl
  have q5 : ((n : Int) / 32 % 2 == 1) = bq n 5 := q 5 32 rfl
  have q4 : ((n : Int) / 16 % 2 == 1) = bq n 4 := q 4 16 rfl
  rw [q15, q10, q9, q8, q7, q6, q5, q4, c1, c2]
  rfl
end Go.Proofs.YtklkigpdahaahaaDoor
