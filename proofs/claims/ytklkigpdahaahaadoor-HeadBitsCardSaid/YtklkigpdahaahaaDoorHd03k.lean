/-
  HeadBits: the plain law and the walk.
-/
import Derived.Test.YtklkigpdahaahaaDoorHd03j
namespace Go.Proofs.YtklkigpdahaahaaDoor
open Go.RowKit

theorem nat_or_bit (x i : Nat) (hx : x < 65536) (hi : i < 16) (h : x / 2 ^ i % 2 = 0) : x ||| 2 ^ i = x + 2 ^ i := by
  have h1 := or_bit x i hx hi h
  have : 2 ^ i < 65536 := Nat.lt_of_lt_of_le (Nat.pow_lt_pow_right (by omega) hi) (by decide)
  rw [u16_or_nat _ _ hx this] at h1
  exact Int.ofNat.inj h1
theorem nat_xor_bit (x i : Nat) (hx : x < 65536) (hi : i < 16) (h : x / 2 ^ i % 2 = 0) : x ^^^ 2 ^ i = x + 2 ^ i := by
  rw [← nat_or_bit x i hx hi h]
  apply Nat.eq_of_testBit_eq
  intro j
  rw [Nat.testBit_xor, Nat.testBit_or, Nat.testBit_two_pow]
  by_cases hj : i = j
  · subst hj
    have : x.testBit i = false := by rw [Nat.testBit_eq_decide_div_mod_eq]; simp [h]
    simp [this]
  · simp [hj]
theorem nat_xor_bit1 (x i : Nat) (hx : x + 2 ^ i < 65536) (hi : i < 16) (h : x / 2 ^ i % 2 = 0) : (x + 2 ^ i) ^^^ 2 ^ i = x := by
  rw [← nat_xor_bit x i (Nat.lt_of_le_of_lt (Nat.le_add_right _ _) hx) hi h, Nat.xor_assoc, Nat.xor_self, Nat.xor_zero]
theorem bq_same {n m i : Nat} (h : n / 2 ^ i % 2 = m / 2 ^ i % 2) : (!(bq n i == bq m i)) = false := by unfold bq; rw [h]; simp
theorem bq_flip {n m i : Nat} (h : n / 2 ^ i % 2 + m / 2 ^ i % 2 = 1) : (!(bq n i == bq m i)) = true := by
  unfold bq
  by_cases h1 : n / 2 ^ i % 2 = 1
  · have : ¬ m / 2 ^ i % 2 = 1 := by omega
    simp [h1, this]
  · have : m / 2 ^ i % 2 = 1 := by omega
    simp [h1, this]
theorem ne_same {a b : Nat} (h : a = b) : (((a : Nat) : Int) != ((b : Nat) : Int)) = false := by simp [h]
theorem ne_other {a b : Nat} (h : a ≠ b) : (((a : Nat) : Int) != ((b : Nat) : Int)) = true := by simpa [bne_iff_ne] using fun e => h (Int.ofNat.inj e)

def unl (H K : Hd) : Int := cnt [((H.id : Int) != (K.id : Int)), (!(H.qr == K.qr)), ((H.op : Int) != (K.op : Int)), (!(H.aa == K.aa)), (!(H.tc == K.tc)), (!(H.rd == K.rd)), (!(H.ra == K.ra)), (!(H.z == K.z)), (!(H.ad == K.ad)), (!(H.cd == K.cd)), ((H.code : Int) != (K.code : Int))]
theorem unlike_hd (H K : Hd) (w : World) : Calls Tryd.prog 12 #[H.v, K.v] w fun e w' => e = .returned (.int .i64 (unl H K)) ∧ w.grownBy w' none :=
  unlike_any _ _ _ _ _ _ _ _ _ _ _ _ _ _ _ _ _ _ _ _ _ _ w

theorem unl_0 (n m : Nat) (h : (n / 1 % 2 = 0 ∧ m = n + 1) ∨ (m / 1 % 2 = 0 ∧ n = m + 1)) : unl (fromN 0 n) (fromN 0 m) = 1 := by
  unfold unl fromN
  simp only
  rw [ne_same (rfl : (0 : Nat) = 0), bq_same (n := n) (m := m) (i := 15) (by omega), bq_same (n := n) (m := m) (i := 10) (by omega), bq_same (n := n) (m := m) (i := 9) (by omega), bq_same (n := n) (m := m) (i := 8) (by omega), bq_same (n := n) (m := m) (i := 7) (by omega), bq_same (n := n) (m := m) (i := 6) (by omega), bq_same (n := n) (m := m) (i := 5) (by omega), bq_same (n := n) (m := m) (i := 4) (by omega), ne_same (a := n / 2048 % 16) (b := m / 2048 % 16) (by omega), ne_other (a := n % 16) (b := m % 16) (by omega)]
  rfl
theorem unl_1 (n m : Nat) (h : (n / 2 % 2 = 0 ∧ m = n + 2) ∨ (m / 2 % 2 = 0 ∧ n = m + 2)) : unl (fromN 0 n) (fromN 0 m) = 1 := by
  unfold unl fromN
  simp only
  rw [ne_same (rfl : (0 : Nat) = 0), bq_same (n := n) (m := m) (i := 15) (by omega), bq_same (n := n) (m := m) (i := 10) (by omega), bq_same (n := n) (m := m) (i := 9) (by omega), bq_same (n := n) (m := m) (i := 8) (by omega), bq_same (n := n) (m := m) (i := 7) (by omega), bq_same (n := n) (m := m) (i := 6) (by omega), bq_same (n := n) (m := m) (i := 5) (by omega), bq_same (n := n) (m := m) (i := 4) (by omega), ne_same (a := n / 2048 % 16) (b := m / 2048 % 16) (by omega), ne_other (a := n % 16) (b := m % 16) (by omega)]
  rfl
theorem unl_2 (n m : Nat) (h : (n / 4 % 2 = 0 ∧ m = n + 4) ∨ (m / 4 % 2 = 0 ∧ n = m + 4)) : unl (fromN 0 n) (fromN 0 m) = 1 := by
  unfold unl fromN
  simp only
  rw [ne_same (rfl : (0 : Nat) = 0), bq_same (n := n) (m := m) (i := 15) (by omega), bq_same (n := n) (m := m) (i := 10) (by omega), bq_same (n := n) (m := m) (i := 9) (by omega), bq_same (n := n) (m := m) (i := 8) (by omega), bq_same (n := n) (m := m) (i := 7) (by omega), bq_same (n := n) (m := m) (i := 6) (by omega), bq_same (n := n) (m := m) (i := 5) (by omega), bq_same (n := n) (m := m) (i := 4) (by omega), ne_same (a := n / 2048 % 16) (b := m / 2048 % 16) (by omega), ne_other (a := n % 16) (b := m % 16) (by omega)]
  rfl
theorem unl_3 (n m : Nat) (h : (n / 8 % 2 = 0 ∧ m = n + 8) ∨ (m / 8 % 2 = 0 ∧ n = m + 8)) : unl (fromN 0 n) (fromN 0 m) = 1 := by
  unfold unl fromN
  simp only
  rw [ne_same (rfl : (0 : Nat) = 0), bq_same (n := n) (m := m) (i := 15) (by omega), bq_same (n := n) (m := m) (i := 10) (by omega), bq_same (n := n) (m := m) (i := 9) (by omega), bq_same (n := n) (m := m) (i := 8) (by omega), bq_same (n := n) (m := m) (i := 7) (by omega), bq_same (n := n) (m := m) (i := 6) (by omega), bq_same (n := n) (m := m) (i := 5) (by omega), bq_same (n := n) (m := m) (i := 4) (by omega), ne_same (a := n / 2048 % 16) (b := m / 2048 % 16) (by omega), ne_other (a := n % 16) (b := m % 16) (by omega)]
  rfl
theorem unl_4 (n m : Nat) (h : (n / 16 % 2 = 0 ∧ m = n + 16) ∨ (m / 16 % 2 = 0 ∧ n = m + 16)) : unl (fromN 0 n) (fromN 0 m) = 1 := by
  unfold unl fromN
  simp only
  rw [ne_same (rfl : (0 : Nat) = 0), bq_same (n := n) (m := m) (i := 15) (by omega), bq_same (n := n) (m := m) (i := 10) (by omega), bq_same (n := n) (m := m) (i := 9) (by omega), bq_same (n := n) (m := m) (i := 8) (by omega), bq_same (n := n) (m := m) (i := 7) (by omega), bq_same (n := n) (m := m) (i := 6) (by omega), bq_same (n := n) (m := m) (i := 5) (by omega), bq_flip (n := n) (m := m) (i := 4) (by omega), ne_same (a := n / 2048 % 16) (b := m / 2048 % 16) (by omega), ne_same (a := n % 16) (b := m % 16) (by omega)]
  rfl
theorem unl_5 (n m : Nat) (h : (n / 32 % 2 = 0 ∧ m = n + 32) ∨ (m / 32 % 2 = 0 ∧ n = m + 32)) : unl (fromN 0 n) (fromN 0 m) = 1 := by
  unfold unl fromN
  simp only
  rw [ne_same (rfl : (0 : Nat) = 0), bq_same (n := n) (m := m) (i := 15) (by omega), bq_same (n := n) (m := m) (i := 10) (by omega), bq_same (n := n) (m := m) (i := 9) (by omega), bq_same (n := n) (m := m) (i := 8) (by omega), bq_same (n := n) (m := m) (i := 7) (by omega), bq_same (n := n) (m := m) (i := 6) (by omega), bq_flip (n := n) (m := m) (i := 5) (by omega), bq_same (n := n) (m := m) (i := 4) (by omega), ne_same (a := n / 2048 % 16) (b := m / 2048 % 16) (by omega), ne_same (a := n % 16) (b := m % 16) (by omega)]
  rfl
theorem unl_6 (n m : Nat) (h : (n / 64 % 2 = 0 ∧ m = n + 64) ∨ (m / 64 % 2 = 0 ∧ n = m + 64)) : unl (fromN 0 n) (fromN 0 m) = 1 := by
  unfold unl fromN
  simp only
  rw [ne_same (rfl : (0 : Nat) = 0), bq_same (n := n) (m := m) (i := 15) (by omega), bq_same (n := n) (m := m) (i := 10) (by omega), bq_same (n := n) (m := m) (i := 9) (by omega), bq_same (n := n) (m := m) (i := 8) (by omega), bq_same (n := n) (m := m) (i := 7) (by omega), bq_flip (n := n) (m := m) (i := 6) (by omega), bq_same (n := n) (m := m) (i := 5) (by omega), bq_same (n := n) (m := m) (i := 4) (by omega), ne_same (a := n / 2048 % 16) (b := m / 2048 % 16) (by omega), ne_same (a := n % 16) (b := m % 16) (by omega)]
  rfl
theorem unl_7 (n m : Nat) (h : (n / 128 % 2 = 0 ∧ m = n + 128) ∨ (m / 128 % 2 = 0 ∧ n = m + 128)) : unl (fromN 0 n) (fromN 0 m) = 1 := by
  unfold unl fromN
  simp only
  rw [ne_same (rfl : (0 : Nat) = 0), bq_same (n := n) (m := m) (i := 15) (by omega), bq_same (n := n) (m := m) (i := 10) (by omega), bq_same (n := n) (m := m) (i := 9) (by omega), bq_same (n := n) (m := m) (i := 8) (by omega), bq_flip (n := n) (m := m) (i := 7) (by omega), bq_same (n := n) (m := m) (i := 6) (by omega), bq_same (n := n) (m := m) (i := 5) (by omega), bq_same (n := n) (m := m) (i := 4) (by omega), ne_same (a := n / 2048 % 16) (b := m / 2048 % 16) (by omega), ne_same (a := n % 16) (b := m % 16) (by omega)]
  rfl
theorem unl_8 (n m : Nat) (h : (n / 256 % 2 = 0 ∧ m = n + 256) ∨ (m / 256 % 2 = 0 ∧ n = m + 256)) : unl (fromN 0 n) (fromN 0 m) = 1 := by
  unfold unl fromN
  simp only
  rw [ne_same (rfl : (0 : Nat) = 0), bq_same (n := n) (m := m) (i := 15) (by omega), bq_same (n := n) (m := m) (i := 10) (by omega), bq_same (n := n) (m := m) (i := 9) (by omega), bq_flip (n := n) (m := m) (i := 8) (by omega), bq_same (n := n) (m := m) (i := 7) (by omega), bq_same (n := n) (m := m) (i := 6) (by omega), bq_same (n := n) (m := m) (i := 5) (by omega), bq_same (n := n) (m := m) (i := 4) (by omega), ne_same (a := n / 2048 % 16) (b := m / 2048 % 16) (by omega), ne_same (a := n % 16) (b := m % 16) (by omega)]
  rfl
theorem unl_9 (n m : Nat) (h : (n / 512 % 2 = 0 ∧ m = n + 512) ∨ (m / 512 % 2 = 0 ∧ n = m + 512)) : unl (fromN 0 n) (fromN 0 m) = 1 := by
  unfold unl fromN
  simp only
  rw [ne_same (rfl : (0 : Nat) = 0), bq_same (n := n) (m := m) (i := 15) (by omega), bq_same (n := n) (m := m) (i := 10) (by omega), bq_flip (n := n) (m := m) (i := 9) (by omega), bq_same (n := n) (m := m) (i := 8) (by omega), bq_same (n := n) (m := m) (i := 7) (by omega), bq_same (n := n) (m := m) (i := 6) (by omega), bq_same (n := n) (m := m) (i := 5) (by omega), bq_same (n := n) (m := m) (i := 4) (by omega), ne_same (a := n / 2048 % 16) (b := m / 2048 % 16) (by omega), ne_same (a := n % 16) (b := m % 16) (by omega)]
  rfl
theorem unl_10 (n m : Nat) (h : (n / 1024 % 2 = 0 ∧ m = n + 1024) ∨ (m / 1024 % 2 = 0 ∧ n = m + 1024)) : unl (fromN 0 n) (fromN 0 m) = 1 := by
  unfold unl fromN
  simp only
  rw [ne_same (rfl : (0 : Nat) = 0), bq_same (n := n) (m := m) (i := 15) (by omega), bq_flip (n := n) (m := m) (i := 10) (by omega), bq_same (n := n) (m := m) (i := 9) (by omega), bq_same (n := n) (m := m) (i := 8) (by omega), bq_same (n := n) (m := m) (i := 7) (by omega), bq_same (n := n) (m := m) (i := 6) (by omega), bq_same (n := n) (m := m) (i := 5) (by omega), bq_same (n := n) (m := m) (i := 4) (by omega), ne_same (a := n / 2048 % 16) (b := m / 2048 % 16) (by omega), ne_same (a := n % 16) (b := m % 16) (by omega)]
  rfl
theorem unl_11 (n m : Nat) (h : (n / 2048 % 2 = 0 ∧ m = n + 2048) ∨ (m / 2048 % 2 = 0 ∧ n = m + 2048)) : unl (fromN 0 n) (fromN 0 m) = 1 := by
  unfold unl fromN
  simp only
  rw [ne_same (rfl : (0 : Nat) = 0), bq_same (n := n) (m := m) (i := 15) (by omega), bq_same (n := n) (m := m) (i := 10) (by omega), bq_same (n := n) (m := m) (i := 9) (by omega), bq_same (n := n) (m := m) (i := 8) (by omega), bq_same (n := n) (m := m) (i := 7) (by omega), bq_same (n := n) (m := m) (i := 6) (by omega), bq_same (n := n) (m := m) (i := 5) (by omega), bq_same (n := n) (m := m) (i := 4) (by omega), ne_other (a := n / 2048 % 16) (b := m / 2048 % 16) (by omega), ne_same (a := n % 16) (b := m % 16) (by omega)]
  rfl
theorem unl_12 (n m : Nat) (h : (n / 4096 % 2 = 0 ∧ m = n + 4096) ∨ (m / 4096 % 2 = 0 ∧ n = m + 4096)) : unl (fromN 0 n) (fromN 0 m) = 1 := by
  unfold unl fromN
  simp only
  rw [ne_same (rfl : (0 : Nat) = 0), bq_same (n := n) (m := m) (i := 15) (by omega), bq_same (n := n) (m := m) (i := 10) (by omega), bq_same (n := n) (m := m) (i := 9) (by omega), bq_same (n := n) (m := m) (i := 8) (by omega), bq_same (n := n) (m := m) (i := 7) (by omega), bq_same (n := n) (m := m) (i := 6) (by omega), bq_same (n := n) (m := m) (i := 5) (by omega), bq_same (n := n) (m := m) (i := 4) (by omega), ne_other (a := n / 2048 % 16) (b := m / 2048 % 16) (by omega), ne_same (a := n % 16) (b := m % 16) (by omega)]
  rfl
theorem unl_13 (n m : Nat) (h : (n / 8192 % 2 = 0 ∧ m = n + 8192) ∨ (m / 8192 % 2 = 0 ∧ n = m + 8192)) : unl (fromN 0 n) (fromN 0 m) = 1 := by
  unfold unl fromN
  simp only
  rw [ne_same (rfl : (0 : Nat) = 0), bq_same (n := n) (m := m) (i := 15) (by omega), bq_same (n := n) (m := m) (i := 10) (by omega), bq_same (n := n) (m := m) (i := 9) (by omega), bq_same (n := n) (m := m) (i := 8) (by omega), bq_same (n := n) (m := m) (i := 7) (by omega), bq_same (n := n) (m := m) (i := 6) (by omega), bq_same (n := n) (m := m) (i := 5) (by omega), bq_same (n := n) (m := m) (i := 4) (by omega), ne_other (a := n / 2048 % 16) (b := m / 2048 % 16) (by omega), ne_same (a := n % 16) (b := m % 16) (by omega)]
  rfl
theorem unl_14 (n m : Nat) (h : (n / 16384 % 2 = 0 ∧ m = n + 16384) ∨ (m / 16384 % 2 = 0 ∧ n = m + 16384)) : unl (fromN 0 n) (fromN 0 m) = 1 := by
  unfold unl fromN
  simp only
  rw [ne_same (rfl : (0 : Nat) = 0), bq_same (n := n) (m := m) (i := 15) (by omega), bq_same (n := n) (m := m) (i := 10) (by omega), bq_same (n := n) (m := m) (i := 9) (by omega), bq_same (n := n) (m := m) (i := 8) (by omega), bq_same (n := n) (m := m) (i := 7) (by omega), bq_same (n := n) (m := m) (i := 6) (by omega), bq_same (n := n) (m := m) (i := 5) (by omega), bq_same (n := n) (m := m) (i := 4) (by omega), ne_other (a := n / 2048 % 16) (b := m / 2048 % 16) (by omega), ne_same (a := n % 16) (b := m % 16) (by omega)]
  rfl
theorem unl_15 (n m : Nat) (h : (n / 32768 % 2 = 0 ∧ m = n + 32768) ∨ (m / 32768 % 2 = 0 ∧ n = m + 32768)) : unl (fromN 0 n) (fromN 0 m) = 1 := by
  unfold unl fromN
  simp only
  rw [ne_same (rfl : (0 : Nat) = 0), bq_flip (n := n) (m := m) (i := 15) (by omega), bq_same (n := n) (m := m) (i := 10) (by omega), bq_same (n := n) (m := m) (i := 9) (by omega), bq_same (n := n) (m := m) (i := 8) (by omega), bq_same (n := n) (m := m) (i := 7) (by omega), bq_same (n := n) (m := m) (i := 6) (by omega), bq_same (n := n) (m := m) (i := 5) (by omega), bq_same (n := n) (m := m) (i := 4) (by omega), ne_same (a := n / 2048 % 16) (b := m / 2048 % 16) (by omega), ne_same (a := n % 16) (b := m % 16) (by omega)]
  rfl

theorem unl_one (n j : Nat) (hn : n < 65536) (hj : j < 16) : unl (fromN 0 n) (fromN 0 (n ^^^ 2 ^ j)) = 1 := by
  have key : (n / 2 ^ j % 2 = 0 ∧ n ^^^ 2 ^ j = n + 2 ^ j) ∨ ((n ^^^ 2 ^ j) / 2 ^ j % 2 = 0 ∧ n = (n ^^^ 2 ^ j) + 2 ^ j) := by
    by_cases h : n / 2 ^ j % 2 = 0
    · exact Or.inl ⟨h, nat_xor_bit n j hn hj h⟩
    · right
      have hp := Nat.two_pow_pos j
      have h1 : 1 ≤ n / 2 ^ j := Nat.one_le_iff_ne_zero.2 (fun e => h (by rw [e]))
      have h2 : 2 ^ j ≤ n := by
        have h5 := Nat.div_mul_le_self n (2 ^ j)
        have h6 := Nat.mul_le_mul_right (2 ^ j) h1
        rw [Nat.one_mul] at h6
        exact Nat.le_trans h6 h5
      have h3 : (n - 2 ^ j) / 2 ^ j = n / 2 ^ j - 1 := by
        have e := Nat.add_div_right (n - 2 ^ j) hp
        rw [Nat.sub_add_cancel h2] at e
        rw [e]
        rfl
      have h4 := nat_xor_bit1 (n - 2 ^ j) j (by rw [Nat.sub_add_cancel h2]; exact hn) hj (by rw [h3]; generalize n / 2 ^ j = q at h h1; omega)
      rw [Nat.sub_add_cancel h2] at h4
      rw [h4, h3]
      refine ⟨by generalize n / 2 ^ j = q at h h1; omega, (Nat.sub_add_cancel h2).symm⟩
  generalize n ^^^ 2 ^ j = m at key
  obtain rfl | rfl | rfl | rfl | rfl | rfl | rfl | rfl | rfl | rfl | rfl | rfl | rfl | rfl | rfl | rfl : j = 0 ∨ j = 1 ∨ j = 2 ∨ j = 3 ∨ j = 4 ∨ j = 5 ∨ j = 6 ∨ j = 7 ∨ j = 8 ∨ j = 9 ∨ j = 10 ∨ j = 11 ∨ j = 12 ∨ j = 13 ∨ j = 14 ∨ j = 15 := by omega
  · exact unl_0 n m key
  · exact unl_1 n m key
  · exact unl_2 n m key
  · exact unl_3 n m key
  · exact unl_4 n m key
  · exact unl_5 n m key
  · exact unl_6 n m key
  · exact unl_7 n m key
  · exact unl_8 n m key
  · exact unl_9 n m key
  · exact unl_10 n m key
  · exact unl_11 n m key
  · exact unl_12 n m key
  · exact unl_13 n m key
  · exact unl_14 n m key
  · exact unl_15 n m key

set_option maxHeartbeats 4000000 in
set_option maxRecDepth 100000 in
theorem bits_walk03 (n b : Nat) (hn : n < 65536) (hq : b < 256) (w : World) (he : Et w) (hb : Bt w) : Calls Tryd.prog 4 #[.int .u16 n, .int .u8 b] w fun e w' => e = .returned (.bool true) ∧ w.grownBy w' none := by
  have hj : b % 16 < 16 := Nat.mod_lt _ (by omega)
  have hp : 2 ^ (b % 16) < 65536 := Nat.lt_of_lt_of_le (Nat.pow_lt_pow_right (by omega) hj) (by decide)
  have hmod : ((2 ^ (b % 16) : Nat) : Int) % 65536 = ((2 ^ (b % 16) : Nat) : Int) := by generalize 2 ^ (b % 16) = q at hp; omega
  have hx : bits .xor .u16 (n : Int) (IntKind.u16.wrap (2 ^ (b % 16))) = ((n ^^^ 2 ^ (b % 16) : Nat) : Int) := by
    rw [show ((2 : Int) ^ (b % 16)) = ((2 ^ (b % 16) : Nat) : Int) from (Int.natCast_pow 2 (b % 16)).symm, IntKind.wrap_u16, hmod, u16_xor_nat _ _ hn hp]
  have hm : n ^^^ 2 ^ (b % 16) < 65536 := Nat.xor_lt_two_pow (n := 16) hn hp
  have h1 := unl_one n (b % 16) hn hj
  have HE := Lib.hid he
  have HB := Lib.hid hb
  have HX := Lib.hid hx
  have HM := Lib.hid hm
  have H1 := Lib.hid h1
  clear he hb hx hm h1 hp hmod
  go_enter Tryd.func4, Tryd.ntmps4
  go_wp2_with fail
  rw [HX.out]
  refine Calls.mono (from_any n hn _ HB.out) ?_
  rintro e w1 ⟨rfl, hg⟩
  have G1 := Lib.hid hg
  clear hg
  go_wp2_with fail
  refine Calls.mono (from_any _ HM.out _ (HB.out.kept G1.out (by simp))) ?_
  rintro e w2 ⟨rfl, hg⟩
  have G2 := Lib.hid (gtrans G1.out hg)
  clear hg G1
  go_wp2_with fail
  refine Calls.mono (unlike_hd _ _ _) ?_
  rintro e w3 ⟨rfl, hg⟩
  have G3 := Lib.hid (gtrans G2.out hg)
  clear hg G2
  rw [H1.out]
  go_wp2_with (go_at_call 11; refine Calls.mono (awake03 _ (HE.out.kept (by first | exact G3.out | exact galloc G3.out _ | exact galloc (galloc G3.out _) _ | exact galloc (galloc (galloc G3.out _) _) _) (by simp)) (HB.out.kept (by first | exact G3.out | exact galloc G3.out _ | exact galloc (galloc G3.out _) _ | exact galloc (galloc (galloc G3.out _) _) _) (by simp))) ?_; rintro e w4 ⟨rfl, hg⟩; have G4 := Lib.hid (gtrans G3.out hg); clear hg)
  go_ret
  exact ⟨rfl, by first | exact G4.out | exact galloc G4.out _ | exact galloc (galloc G4.out _) _ | exact galloc (galloc (galloc G4.out _) _) _⟩
end Go.Proofs.YtklkigpdahaahaaDoor
