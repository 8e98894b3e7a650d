/-
  Plain numbers of a header's flags.
-/
import Derived.Test.YtklkigpdahaahaaDoorNum
namespace Go.Proofs.YtklkigpdahaahaaDoor

theorem and_bit (n i : Nat) (hn : n < 65536) (hi : i < 16) : bits .and .u16 (n : Int) ((2 ^ i : Nat) : Int) = (((if n / 2 ^ i % 2 = 1 then 2 ^ i else 0 : Nat) : Nat) : Int) := by
  have : 2 ^ i < 65536 := Nat.lt_of_lt_of_le (Nat.pow_lt_pow_right (by omega) hi) (by decide)
  rw [u16_and_nat _ _ hn this, nat_bit]
  by_cases h : n / 2 ^ i % 2 = 1
  · simp [h]
  · have h' : n / 2 ^ i % 2 = 0 := by omega
    simp [h']
theorem and_low (n : Nat) (hn : n < 65536) : bits .and .u16 (n : Int) 15 = ((n % 16 : Nat) : Int) := by
  rw [show (15 : Int) = ((15 : Nat) : Int) by rfl, u16_and_nat _ _ hn (by omega), show (15 : Nat) = 2 ^ 4 - 1 by rfl, Nat.and_two_pow_sub_one_eq_mod]
theorem and_ne (n i : Nat) (hn : n < 65536) (hi : i < 16) : (bits .and .u16 (n : Int) ((2 ^ i : Nat) : Int) != 0) = decide (n / 2 ^ i % 2 = 1) := by
  rw [and_bit n i hn hi]
  have h0 : 2 ^ i ≠ 0 := Nat.ne_of_gt (Nat.two_pow_pos i)
  by_cases h : n / 2 ^ i % 2 = 1
  · simp only [h, if_true, decide_true]
    exact bne_iff_ne.2 (fun e => h0 (Int.ofNat.inj e))
  · simp [h]
theorem or_bit (x i : Nat) (hx : x < 65536) (hi : i < 16) (h : x / 2 ^ i % 2 = 0) : bits .or .u16 (x : Int) ((2 ^ i : Nat) : Int) = ((x + 2 ^ i : Nat) : Int) := by
  have : 2 ^ i < 65536 := Nat.lt_of_lt_of_le (Nat.pow_lt_pow_right (by omega) hi) (by decide)
  rw [u16_or_nat _ _ hx this]
  have e : x ||| 2 ^ i = x + 2 ^ i := by
    apply Nat.eq_of_testBit_eq
    intro j
    rw [Nat.testBit_or, Nat.testBit_two_pow]
    by_cases hj : i = j
    · subst hj
      simp only [decide_true, Bool.or_true]
      rw [Nat.testBit_eq_decide_div_mod_eq, Nat.add_div_right _ (Nat.two_pow_pos i)]
      simp; omega
    · simp only [hj, decide_false, Bool.or_false]
      rcases Nat.lt_or_gt_of_ne hj with hlt | hgt
      · rw [Nat.testBit_eq_decide_div_mod_eq, Nat.testBit_eq_decide_div_mod_eq]
        have e1 : x = 2 ^ (i + 1) * (x / 2 ^ (i + 1)) + x % 2 ^ (i + 1) := (Nat.div_add_mod ..).symm
        obtain ⟨d, rfl⟩ : ∃ d, j = i + 1 + d := ⟨j - i - 1, by omega⟩
        have p0 := Nat.two_pow_pos (i + 1)
        have q1 : x % 2 ^ (i + 1) + 2 ^ i < 2 ^ (i + 1) := by
          have hp : 2 ^ (i + 1) = 2 ^ i * 2 := Nat.pow_succ ..
          have hm : x % 2 ^ (i + 1) = 2 ^ i * (x / 2 ^ i % 2) + x % 2 ^ i := by rw [hp, Nat.mod_mul]; omega
          rw [h] at hm
          have := Nat.mod_lt x (Nat.two_pow_pos i)
          omega
        have q2 : (x + 2 ^ i) / 2 ^ (i + 1) = x / 2 ^ (i + 1) := by
          conv => lhs; rw [e1]
          rw [Nat.add_assoc, Nat.mul_add_div p0, Nat.div_eq_of_lt q1, Nat.add_zero]
        rw [Nat.pow_add, ← Nat.div_div_eq_div_mul, ← Nat.div_div_eq_div_mul, q2]
      · rw [Nat.testBit_eq_decide_div_mod_eq, Nat.testBit_eq_decide_div_mod_eq]
        obtain ⟨d, rfl⟩ : ∃ d, i = j + 1 + d := ⟨i - j - 1, by omega⟩
        have e1 : x + 2 ^ (j + 1 + d) = x + 2 ^ j * (2 * 2 ^ d) := by rw [Nat.pow_add, Nat.pow_succ, Nat.mul_assoc]
        rw [e1, Nat.add_mul_div_left _ _ (Nat.two_pow_pos j), Nat.add_mul_mod_self_left]
  rw [e]
end Go.Proofs.YtklkigpdahaahaaDoor
