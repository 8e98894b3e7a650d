/-
  EdnsParts.
-/
import Derived.Test.YtcednhpelbdoiaaDoorEd06f
import Derived.Test.YtcednhpelbdoiaaDoorEd06h
namespace Go.Proofs.YtcednhpelbdoiaaDoor
open Go.RowKit

theorem and_hi (x m k : Nat) : x &&& (m * 2 ^ k) = ((x / 2 ^ k) &&& m) * 2 ^ k := by
  rw [← Nat.shiftLeft_eq, ← Nat.shiftLeft_eq, ← Nat.shiftRight_eq_div_pow]
  apply Nat.eq_of_testBit_eq
  intro i
  simp only [Nat.testBit_and, Nat.testBit_shiftLeft, Nat.testBit_shiftRight]
  by_cases h : k ≤ i
  · simp [h, Nat.add_sub_cancel' h]
  · simp [h]
theorem part1 (t o : Nat) (ht : t < 4294967296) (ho : o < 4294967296) : bits .or .u32 (bits .and .u32 (t : Int) 16777215) (bits .and .u32 (o : Int) 4278190080) = ((t % 16777216 + o / 16777216 * 16777216 : Nat) : Int) := by
  have e1 : t &&& 16777215 = t % 16777216 := Nat.and_two_pow_sub_one_eq_mod t 24
  have e2 : o &&& 4278190080 = o / 16777216 * 16777216 := by
    have h := and_hi o 255 24
    rw [show (o / 2 ^ 24) &&& 255 = (o / 2 ^ 24) % 2 ^ 8 from Nat.and_two_pow_sub_one_eq_mod _ 8] at h
    simp only [Nat.reducePow, Nat.reduceMul] at h
    rw [h]; omega
  rw [show (16777215 : Int) = ((16777215 : Nat) : Int) by rfl, show (4278190080 : Int) = ((4278190080 : Nat) : Int) by rfl, u32_and_nat _ _ ht (by omega), u32_and_nat _ _ ho (by omega), e1, e2, u32_or_nat _ _ (by omega) (by omega), Nat.or_comm, nat_join 24 _ _ (by omega) (by omega)]
  congr 1
  omega
theorem part2 (t o : Nat) (ht : t < 4294967296) (ho : o < 4294967296) : bits .or .u32 (bits .and .u32 (t : Int) 4278255615) (bits .and .u32 (o : Int) 16711680) = ((t / 16777216 * 16777216 + o / 65536 % 256 * 65536 + t % 65536 : Nat) : Int) := by
  have e1 : t &&& 4278255615 = t / 16777216 * 16777216 + t % 65536 := by
    have h := and_hi t 255 24
    rw [show (t / 2 ^ 24) &&& 255 = (t / 2 ^ 24) % 2 ^ 8 from Nat.and_two_pow_sub_one_eq_mod _ 8] at h
    simp only [Nat.reducePow, Nat.reduceMul] at h
    have h2 : t &&& 65535 = t % 65536 := Nat.and_two_pow_sub_one_eq_mod t 16
    rw [show (4278255615 : Nat) = 4278190080 ||| 65535 by rfl, Nat.and_or_distrib_left, h, h2, nat_join 24 _ _ (by omega) (by omega)]
    omega
  have e2 : o &&& 16711680 = o / 65536 % 256 * 65536 := by
    have h := and_hi o 255 16
    rw [show (o / 2 ^ 16) &&& 255 = (o / 2 ^ 16) % 2 ^ 8 from Nat.and_two_pow_sub_one_eq_mod _ 8] at h
    simpa only [Nat.reducePow, Nat.reduceMul] using h
  have e3 : (t / 16777216 * 16777216 + t % 65536) ||| (o / 65536 % 256 * 65536) = t / 16777216 * 16777216 + o / 65536 % 256 * 65536 + t % 65536 := by
    rw [← nat_join 24 (t / 16777216 * 16777216) (t % 65536) (by omega) (by omega), Nat.or_assoc, Nat.or_comm (t % 65536), nat_join 16 (o / 65536 % 256 * 65536) (t % 65536) (by omega) (by omega), nat_join 24 _ _ (by omega) (by omega)]
    omega
  rw [show (4278255615 : Int) = ((4278255615 : Nat) : Int) by rfl, show (16711680 : Int) = ((16711680 : Nat) : Int) by rfl, u32_and_nat _ _ ht (by omega), u32_and_nat _ _ ho (by omega), e1, e2, u32_or_nat _ _ (by omega) (by omega), e3]
theorem part3 (t o : Nat) (ht : t < 4294967296) (ho : o < 4294967296) : bits .or .u32 (bits .and .u32 (t : Int) 4294901760) (bits .and .u32 (o : Int) 65535) = ((t / 65536 * 65536 + o % 65536 : Nat) : Int) := by
  have e1 : o &&& 65535 = o % 65536 := Nat.and_two_pow_sub_one_eq_mod o 16
  have e2 : t &&& 4294901760 = t / 65536 * 65536 := by
    have h := and_hi t 65535 16
    rw [show (t / 2 ^ 16) &&& 65535 = (t / 2 ^ 16) % 2 ^ 16 from Nat.and_two_pow_sub_one_eq_mod _ 16] at h
    simp only [Nat.reducePow, Nat.reduceMul] at h
    rw [h]; omega
  rw [show (4294901760 : Int) = ((4294901760 : Nat) : Int) by rfl, show (65535 : Int) = ((65535 : Nat) : Int) by rfl, u32_and_nat _ _ ht (by omega), u32_and_nat _ _ ho (by omega), e1, e2, u32_or_nat _ _ (by omega) (by omega), nat_join 16 _ _ (by omega) (by omega)]

theorem ewrite_nil (sz e v f : Nat) (w : World) (he : e < 256) (hv : v < 256) (hf : f < 65536) : Calls Tryd.prog 16 #[.agg #[.int .u16 sz, .int .u8 e, .int .u8 v, .int .u16 f, .slice none 0 0]] w fun e' w' => e' = .returned (.tuple #[.int .u16 sz, .int .u32 (ttlN e v f), .string ByteArray.empty, .int .i64 0]) ∧ w.grownBy w' none := by
  have h := ewrite_any sz e v f none 0 [] w he hv hf (Sl.nil w 2) (by unfold maxLen; simp) (by simp)
  unfold ewR at h
  rw [if_pos (by decide)] at h
  exact h
theorem eread_e (class_ : Int) (t : Int) (c n : Nat) (a1 a2 a3 : Int) (hc : class_ = c) (ht : t = n) (w : World) (he : Et w) (hn : n < 4294967296) (h1 : ((n / 16777216 : Nat) : Int) = a1) (h2 : ((n / 65536 % 256 : Nat) : Int) = a2) (h3 : ((n % 65536 : Nat) : Int) = a3) : Calls Tryd.prog 12 #[.int .u16 class_, .int .u32 t, .string ByteArray.empty] w fun e w' =>
    ∃ A cap, e = .returned (.tuple #[.agg #[.int .u16 class_, .int .u8 a1, .int .u8 a2, .int .u16 a3, .slice A 0 cap], .int .i64 0]) ∧ w.grownBy w' none := by
  subst hc ht h1 h2 h3
  refine (eread_some c n ByteArray.empty [] w he hn (by decide) (by kernel_rfl)).mono ?_
  rintro e w' ⟨v, rfl, hf, hg⟩
  obtain ⟨A, cap, rfl⟩ := hf.len
  exact ⟨A, cap, rfl, hg⟩

set_option maxHeartbeats 2000000 in
set_option maxRecDepth 100000 in
theorem parts_walk (sz e v f o : Nat) (he : e < 256) (hv : v < 256) (hf : f < 65536) (ho : o < 4294967296) (w : World) (het : Et w) : Calls Tryd.prog 7 #[.int .u16 sz, .int .u8 e, .int .u8 v, .int .u16 f, .int .u32 o] w fun e w' => e = .returned (.bool true) ∧ w.grownBy w' none := by
  have HE := Lib.hid het
  clear het
  obtain ⟨T, hT⟩ : ∃ T, T = ttlN e v f := ⟨_, rfl⟩
  have hT' : T = e * 16777216 + v * 65536 + f := hT
  have hTl : T < 4294967296 := by omega
  have p1 := part1 T o hTl ho
  have p2 := part2 T o hTl ho
  have p3 := part3 T o hTl ho
  obtain ⟨X1, hX1⟩ : ∃ X, X = T % 16777216 + o / 16777216 * 16777216 := ⟨_, rfl⟩
  obtain ⟨X2, hX2⟩ : ∃ X, X = T / 16777216 * 16777216 + o / 65536 % 256 * 65536 + T % 65536 := ⟨_, rfl⟩
  obtain ⟨X3, hX3⟩ : ∃ X, X = T / 65536 * 65536 + o % 65536 := ⟨_, rfl⟩
  rw [← hX1] at p1
  rw [← hX2] at p2
  rw [← hX3] at p3
  have x1 : X1 < 4294967296 := by omega
  have x2 : X2 < 4294967296 := by omega
  have x3 : X3 < 4294967296 := by omega
  have a1 : ((X1 / 16777216 : Nat) : Int) = ((o / 16777216 : Nat) : Int) := by omega
  have a2 : ((X1 / 65536 % 256 : Nat) : Int) = (v : Int) := by omega
  have a3 : ((X1 % 65536 : Nat) : Int) = (f : Int) := by omega
  have b1 : ((X2 / 16777216 : Nat) : Int) = (e : Int) := by omega
  have b2 : ((X2 / 65536 % 256 : Nat) : Int) = ((o / 65536 % 256 : Nat) : Int) := by omega
  have b3 : ((X2 % 65536 : Nat) : Int) = (f : Int) := by omega
  have c1 : ((X3 / 16777216 : Nat) : Int) = (e : Int) := by omega
  have c2 : ((X3 / 65536 % 256 : Nat) : Int) = (v : Int) := by omega
  have c3 : ((X3 % 65536 : Nat) : Int) = ((o % 65536 : Nat) : Int) := by omega
  have q1 : ((T : Int) / 16777216 != (e : Int)) = false := by rw [bne_eq_false_iff_eq]; omega
  have q2 : ((T : Int) / 65536 % 256 != (v : Int)) = false := by rw [bne_eq_false_iff_eq]; omega
  have q3 : (IntKind.u16.wrap (T : Int) != (f : Int)) = false := by rw [bne_eq_false_iff_eq, IntKind.wrap_u16]; omega
  have q4 : ((o : Int) % 65536 == IntKind.u16.wrap (o : Int)) = true := by rw [beq_iff_eq, IntKind.wrap_u16]
  have HT := Lib.hid hT
  have A1 := Lib.hid a1
  have A2 := Lib.hid a2
  have A3 := Lib.hid a3
  have B1 := Lib.hid b1
  have B2 := Lib.hid b2
  have B3 := Lib.hid b3
  have C1 := Lib.hid c1
  have C2 := Lib.hid c2
  have C3 := Lib.hid c3
  clear hT hT' hX1 hX2 hX3 a1 a2 a3 b1 b2 b3 c1 c2 c3
  go_enter Tryd.func7, Tryd.ntmps7
  have GR0 := Lib.hid (grefl w none)
  go_wp2_with fail
  refine Calls.mono (ewrite_nil sz e v f _ he hv hf) ?_
  rw [← HT.out]
  rintro e' w1 ⟨rfl, hg⟩
  have GR1 := Lib.hid (gtrans GR0.out (gfr1 (hg)))
  have X_1 := Lib.hid (gblock hg (balloc1_0 w (.cells #[.int .u16 sz, .int .u8 e, .int .u8 v, .int .u16 f, .slice none 0 0] 27)) (by simp))
  clear hg GR0
  clear X_1
  go_wp2_with fail
  refine Calls.mono (awake06 _ (HE.out.kept (GR1.out) (by simp))) ?_
  rintro e w2 ⟨rfl, hg⟩
  have GR2 := Lib.hid (gtrans GR1.out (hg))
  clear hg GR1
  go_wp2_with fail
  refine Calls.mono (eread_e _ _ sz X1 _ _ _ rfl rfl _ (HE.out.kept (GR2.out) (by simp)) x1 A1.out A2.out A3.out) ?_
  rintro e w3 ⟨A1_, k1_, rfl, hg⟩
  have GR3 := Lib.hid (gtrans GR2.out (hg))
  clear hg GR2
  go_wp2_with fail
  refine Calls.mono (eread_e _ _ sz X2 _ _ _ rfl rfl _ (HE.out.kept (galloc (GR3.out) _) (by simp)) x2 B1.out B2.out B3.out) ?_
  rintro e w4 ⟨A2_, k2_, rfl, hg⟩
  have GR4 := Lib.hid (gtrans GR3.out (gfr1 (hg)))
  have Y_4 := Lib.hid (gblock hg (balloc1_0 w3 (.cells #[.int .u16 sz, .int .u8 ((o / 16777216 : Nat) : Int), .int .u8 v, .int .u16 f, .slice A1_ 0 k1_] 27)) (by simp))
  clear hg GR3
  go_wp2_with fail
  refine Calls.mono (eread_e _ _ sz X3 _ _ _ rfl rfl _ (HE.out.kept (galloc (GR4.out) _) (by simp)) x3 C1.out C2.out C3.out) ?_
  rintro e w5 ⟨A3_, k3_, rfl, hg⟩
  have GR5 := Lib.hid (gtrans GR4.out (gfr1 (hg)))
  have Y_5 := Lib.hid (gblock (gfr1 (hg)) Y_4.out (by simp))
  have Z_5 := Lib.hid (gblock hg (balloc1_0 w4 (.cells #[.int .u16 sz, .int .u8 e, .int .u8 ((o / 65536 % 256 : Nat) : Int), .int .u16 f, .slice A2_ 0 k2_] 27)) (by simp))
  clear hg GR4 Y_4
  have c_Y_0 : w5.cell? ⟨w3.heap.size, 0, none⟩ = some (.int .u16 sz) := bcellAt Y_5.out 0
  have c_Y_1 : w5.cell? ⟨w3.heap.size, 1, none⟩ = some (.int .u8 ((o / 16777216 : Nat) : Int)) := bcellAt Y_5.out 1
  have c_Y_2 : w5.cell? ⟨w3.heap.size, 2, none⟩ = some (.int .u8 v) := bcellAt Y_5.out 2
  have c_Y_3 : w5.cell? ⟨w3.heap.size, 3, none⟩ = some (.int .u16 f) := bcellAt Y_5.out 3
  have c_Y_4 : w5.cell? ⟨w3.heap.size, 4, none⟩ = some (.slice A1_ 0 k1_) := bcellAt Y_5.out 4
  have l_Y : w3.heap.size < w5.heap.size := blt Y_5.out
  have c_Z_0 : w5.cell? ⟨w4.heap.size, 0, none⟩ = some (.int .u16 sz) := bcellAt Z_5.out 0
  have c_Z_1 : w5.cell? ⟨w4.heap.size, 1, none⟩ = some (.int .u8 e) := bcellAt Z_5.out 1
  have c_Z_2 : w5.cell? ⟨w4.heap.size, 2, none⟩ = some (.int .u8 ((o / 65536 % 256 : Nat) : Int)) := bcellAt Z_5.out 2
  have c_Z_3 : w5.cell? ⟨w4.heap.size, 3, none⟩ = some (.int .u16 f) := bcellAt Z_5.out 3
  have c_Z_4 : w5.cell? ⟨w4.heap.size, 4, none⟩ = some (.slice A2_ 0 k2_) := bcellAt Z_5.out 4
  have l_Z : w4.heap.size < w5.heap.size := blt Z_5.out
  go_wp2_with fail
  go_ret
  exact ⟨rfl, galloc GR5.out _⟩
end Go.Proofs.YtcednhpelbdoiaaDoor
