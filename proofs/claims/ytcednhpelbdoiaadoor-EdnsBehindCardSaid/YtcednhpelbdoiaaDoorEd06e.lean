/-
  Package edns: Code, Split; the document's.
-/
import Derived.Test.YtcednhpelbdoiaaDoorEd06b
import Derived.Laws.BitsAllLaws
import Derived.Laws.BitsLemmas
namespace Go.Proofs.YtcednhpelbdoiaaDoor
open Go.RowKit

theorem ofInt64 (a : Nat) (ha : a < 9223372036854775808) : (BitVec.ofInt 64 (a : Int)).toNat = a := by
  rw [BitVec.ofInt_natCast, BitVec.toNat_ofNat]; exact Nat.mod_eq_of_lt (by omega)
theorem and64 (a b : Nat) (ha : a < 9223372036854775808) (hb : b < 9223372036854775808) : bits .and .i64 (a : Int) (b : Int) = ((a &&& b : Nat) : Int) := by
  have hx : a &&& b < 2 ^ 63 := Nat.and_lt_two_pow _ (by omega)
  show IntKind.i64.wrap ((BitVec.ofInt 64 (a : Int) &&& BitVec.ofInt 64 (b : Int)).toNat : Int) = _
  rw [BitVec.toNat_and, ofInt64 a ha, ofInt64 b hb, IntKind.wrap_i64]
  omega
theorem or64 (a b : Nat) (ha : a < 9223372036854775808) (hb : b < 9223372036854775808) : bits .or .i64 (a : Int) (b : Int) = ((a ||| b : Nat) : Int) := by
  have hx : a ||| b < 2 ^ 63 := Nat.or_lt_two_pow (by omega) (by omega)
  show IntKind.i64.wrap ((BitVec.ofInt 64 (a : Int) ||| BitVec.ofInt 64 (b : Int)).toNat : Int) = _
  rw [BitVec.toNat_or, ofInt64 a ha, ofInt64 b hb, IntKind.wrap_i64]
  omega
def codeN (code ext : Nat) : Nat := ext * 16 + code % 16
theorem code_any (code ext : Nat) (hc : code < 256) (he : ext < 256) (w : World) : Calls Tryd.prog 15 #[.int .u8 code, .int .u8 ext] w fun e w' => e = .returned (.int .i64 (codeN code ext)) ∧ w = w' := by
  go_enter Tryd.func15, Tryd.ntmps15
  go_wp2
  go_ret
  refine ⟨?_, rfl⟩
  have e : bits .or .i64 ((ext : Int) * 16) ((code : Int) % 16) = ((codeN code ext : Nat) : Int) := by
    rw [show ((ext : Int) * 16) = ((ext * 16 : Nat) : Int) by omega, show ((code : Int) % 16) = ((code % 16 : Nat) : Int) by omega, or64 _ _ (by omega) (by omega), nat_join 4 _ _ (by omega) (by omega)]
    rfl
  show Ending.returned (.int .i64 (bits .or .i64 ((ext : Int) * 16) ((code : Int) % 16))) = _
  rw [e]
theorem rcode_any (code ext : Nat) (hc : code < 256) (he : ext < 256) (w : World) : Calls Tryd.prog 21 #[.int .u8 code, .int .u8 ext] w fun e w' => e = .returned (.int .i64 (codeN code ext)) ∧ w = w' := by
  go_enter Tryd.func21, Tryd.ntmps21
  go_wp2
  go_ret
  refine ⟨?_, rfl⟩
  show Ending.returned (.int .i64 (16 * (ext : Int) + (code : Int) % 16)) = _
  rw [show (16 * (ext : Int) + (code : Int) % 16) = ((codeN code ext : Nat) : Int) by unfold codeN; omega]
theorem split_no (n : Int) (h : n < 0 ∨ 4095 < n) (w : World) : Calls Tryd.prog 14 #[.int .i64 n] w fun e w' => e = .returned (.tuple #[.int .u8 0, .int .u8 0, .int .i64 1]) ∧ w = w' := by
  by_cases h0 : n < 0
  · have q : decide (n < 0) = true := by simp [h0]
    go_enter Tryd.func14, Tryd.ntmps14
    go_wp2
    go_ret3
    exact ⟨rfl, rfl⟩
  · have q : decide (n < 0) = false := by simp; omega
    have q2 : decide (4095 < n) = true := by simp; omega
    go_enter Tryd.func14, Tryd.ntmps14
    go_wp2
    go_ret3
    exact ⟨rfl, rfl⟩
theorem split_ok (n : Nat) (h : n < 4096) (w : World) : Calls Tryd.prog 14 #[.int .i64 n] w fun e w' => e = .returned (.tuple #[.int .u8 ((n % 16 : Nat) : Int), .int .u8 ((n / 16 : Nat) : Int), .int .i64 0]) ∧ w = w' := by
  have q : decide ((n : Int) < 0) = false := by simp
  have q2 : decide (4095 < (n : Int)) = false := by simp; omega
  go_enter Tryd.func14, Tryd.ntmps14
  go_wp2
  go_ret3
  refine ⟨?_, rfl⟩
  have e : bits .and .i64 (n : Int) 15 % 256 = ((n % 16 : Nat) : Int) := by
    rw [show (15 : Int) = ((15 : Nat) : Int) by rfl, and64 _ _ (by omega) (by omega), show (15 : Nat) = 2 ^ 4 - 1 by rfl, Nat.and_two_pow_sub_one_eq_mod]
    omega
  show Ending.returned (.tuple #[.int .u8 (bits .and .i64 (n : Int) 15 % 256), .int .u8 ((n : Int) / 16), .int .i64 0]) = _
  rw [e]
  rfl
theorem rsplit_no (n : Int) (h : n < 0 ∨ 4095 < n) (w : World) : Calls Tryd.prog 19 #[.int .i64 n] w fun e w' => e = .returned (.tuple #[.int .u8 0, .int .u8 0, .int .i64 1]) ∧ w = w' := by
  by_cases h0 : n < 0
  · have q : decide (n < 0) = true := by simp [h0]
    go_enter Tryd.func19, Tryd.ntmps19
    go_wp2
    go_ret3
    exact ⟨rfl, rfl⟩
  · have q : decide (n < 0) = false := by simp; omega
    have q2 : decide (4095 < n) = true := by simp; omega
    go_enter Tryd.func19, Tryd.ntmps19
    go_wp2
    go_ret3
    exact ⟨rfl, rfl⟩
theorem rsplit_ok (n : Nat) (h : n < 4096) (w : World) : Calls Tryd.prog 19 #[.int .i64 n] w fun e w' => e = .returned (.tuple #[.int .u8 ((n % 16 : Nat) : Int), .int .u8 ((n / 16 : Nat) : Int), .int .i64 0]) ∧ w = w' := by
  have q : decide ((n : Int) < 0) = false := by simp
  have q2 : decide (4095 < (n : Int)) = false := by simp; omega
  go_enter Tryd.func19, Tryd.ntmps19
  go_wp2
  go_ret3
  exact ⟨rfl, rfl⟩
end Go.Proofs.YtcednhpelbdoiaaDoor
