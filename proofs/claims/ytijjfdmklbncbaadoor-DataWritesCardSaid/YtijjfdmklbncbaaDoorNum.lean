/-
  Plain arithmetic of numbers in bytes (big-endian), and what a cursor reads, as plain functions. Nothing of the program stands here.
-/
import Derived.WalkKit
import Derived.Lib.Strings
namespace Go.Proofs.YtijjfdmklbncbaaDoor
open Go.RowKit

/-- The number that bytes are, the highest byte first. -/
def be (l : List UInt8) : Nat := l.foldl (fun v c => v * 256 + c.toNat) 0
theorem be_snoc (l : List UInt8) (c : UInt8) : be (l ++ [c]) = be l * 256 + c.toNat := by simp [be]
theorem be_nil : be [] = 0 := rfl
theorem be_lt_aux (l : List UInt8) : ∀ r : List UInt8, l = r.reverse → be l < 256 ^ l.length := by
  intro r
  induction r generalizing l with
  | nil => rintro rfl; simp [be]
  | cons c r ih =>
    rintro rfl
    rw [List.reverse_cons, be_snoc]
    have := ih _ rfl
    have hc := c.toNat_lt
    simp only [List.length_append, List.length_cons, List.length_nil, Nat.zero_add, Nat.pow_succ]
    omega
theorem be_lt (l : List UInt8) : be l < 256 ^ l.length := be_lt_aux l l.reverse (by simp)
theorem be_from (l : List UInt8) : ∀ a : Nat, l.foldl (fun v c => v * 256 + c.toNat) a = a * 256 ^ l.length + be l := by
  induction l with
  | nil => intro a; simp [be]
  | cons c r ih =>
    intro a
    have e1 := ih (a * 256 + c.toNat)
    have e2 := ih (0 * 256 + c.toNat)
    simp only [List.foldl_cons, List.length_cons, be] at *
    rw [e1, e2, Nat.pow_succ, Nat.add_mul, Nat.mul_assoc, Nat.mul_comm 256]
    simp; omega
theorem be_append (a b : List UInt8) : be (a ++ b) = be a * 256 ^ b.length + be b := by
  have := be_from b (be a)
  simp only [be, List.foldl_append] at *
  exact this

/-- The number of n bytes at place p of s. -/
def num (s : ByteArray) (p n : Nat) : Nat := be ((s.data.toList.drop p).take n)
theorem num_lt (s : ByteArray) (p n : Nat) : num s p n < 256 ^ n := by
  refine Nat.lt_of_lt_of_le (be_lt _) (Nat.pow_le_pow_right (by omega) ?_)
  simp; omega

/-- What reading a number of n bytes answers: the error, the number, the place behind. -/
def rdE (s : ByteArray) (p n : Nat) : Nat := if p + n ≤ s.size then 0 else 4
def rdV (s : ByteArray) (p n : Nat) : Nat := if p + n ≤ s.size then num s p n else 0
def rdP (s : ByteArray) (p n : Nat) : Nat := if p + n ≤ s.size then p + n else p
theorem rdP_le (s : ByteArray) (p n : Nat) (h : p ≤ s.size) : rdP s p n ≤ s.size := by unfold rdP; split <;> omega
theorem rdV_lt (s : ByteArray) (p n : Nat) : rdV s p n < 256 ^ n := by
  unfold rdV; split
  · exact num_lt _ _ _
  · exact Nat.pow_pos (by omega)

/-- What taking n bytes answers. -/
def tkE (s : ByteArray) (p : Nat) (n : Int) : Nat := if n < 0 then 1 else if (s.size : Int) < p + n then 4 else 0
def tkS (s : ByteArray) (p : Nat) (n : Int) : ByteArray := if n < 0 then ByteArray.empty else if (s.size : Int) < p + n then ByteArray.empty else s.extract p (p + n.toNat)
def tkP (s : ByteArray) (p : Nat) (n : Int) : Nat := if n < 0 then p else if (s.size : Int) < p + n then p else p + n.toNat
theorem tkP_le (s : ByteArray) (p : Nat) (n : Int) (h : p ≤ s.size) : tkP s p n ≤ s.size := by unfold tkP; repeat' split
                                                                                               all_goals omega
/-- What Seek answers. -/
def skE (s : ByteArray) (q : Int) : Nat := if q < 0 ∨ (s.size : Int) < q then 1 else 0
def skP (s : ByteArray) (p : Nat) (q : Int) : Nat := if q < 0 ∨ (s.size : Int) < q then p else q.toNat
theorem skP_le (s : ByteArray) (p : Nat) (q : Int) (h : p ≤ s.size) : skP s p q ≤ s.size := by unfold skP; split <;> omega

theorem rdE_ok {s : ByteArray} {p n : Nat} (h : p + n ≤ s.size) : rdE s p n = 0 := if_pos h
theorem rdV_ok {s : ByteArray} {p n : Nat} (h : p + n ≤ s.size) : rdV s p n = num s p n := if_pos h
theorem rdP_ok {s : ByteArray} {p n : Nat} (h : p + n ≤ s.size) : rdP s p n = p + n := if_pos h
theorem rdE_no {s : ByteArray} {p n : Nat} (h : s.size < p + n) : rdE s p n = 4 := if_neg (by omega)
theorem rdV_no {s : ByteArray} {p n : Nat} (h : s.size < p + n) : rdV s p n = 0 := if_neg (by omega)
theorem rdP_no {s : ByteArray} {p n : Nat} (h : s.size < p + n) : rdP s p n = p := if_neg (by omega)
theorem tkE_ok {s : ByteArray} {p n : Nat} (h : p + n ≤ s.size) : tkE s p n = 0 := by unfold tkE; rw [if_neg (by omega), if_neg (by omega)]
theorem tkS_ok {s : ByteArray} {p n : Nat} (h : p + n ≤ s.size) : tkS s p n = s.extract p (p + n) := by unfold tkS; rw [if_neg (by omega), if_neg (by omega)]; rfl
theorem tkP_ok {s : ByteArray} {p n : Nat} (h : p + n ≤ s.size) : tkP s p n = p + n := by unfold tkP; rw [if_neg (by omega), if_neg (by omega)]; rfl
theorem tkE_no {s : ByteArray} {p n : Nat} (h : s.size < p + n) : tkE s p n = 4 := by unfold tkE; rw [if_neg (by omega), if_pos (by omega)]
theorem tkS_no {s : ByteArray} {p n : Nat} (h : s.size < p + n) : tkS s p n = ByteArray.empty := by unfold tkS; rw [if_neg (by omega), if_pos (by omega)]
theorem tkP_no {s : ByteArray} {p n : Nat} (h : s.size < p + n) : tkP s p n = p := by unfold tkP; rw [if_neg (by omega), if_pos (by omega)]
theorem skE_ok {s : ByteArray} {q : Nat} (h : q ≤ s.size) : skE s q = 0 := if_neg (by omega)
theorem skP_ok {s : ByteArray} {p q : Nat} (h : q ≤ s.size) : skP s p q = q := by unfold skP; rw [if_neg (by omega)]; rfl
theorem num_split (s : ByteArray) (p m n : Nat) (h : p + m + n ≤ s.size) : num s p (m + n) = num s p m * 256 ^ n + num s (p + m) n := by
  unfold num
  rw [List.take_add, be_append, List.drop_drop, List.length_take, List.length_drop]
  rw [Nat.min_eq_left (by simp; omega)]
theorem extract_split (s : ByteArray) (p m n : Nat) : s.extract p (p + (m + n)) = s.extract p (p + m) ++ s.extract (p + m) (p + m + n) := by
  rw [ByteArray.extract_append_extract, Nat.add_assoc]
  congr 1 <;> omega
theorem four_two (s : ByteArray) (q : Nat) (h : q + 4 ≤ s.size) : ((num s q 4 : Int) != ((num s q 2 : Int) % 4294967296 * 65536 + (num s (q + 2) 2 : Int)) % 4294967296) = false := by
  have h1 := num_split s q 2 2 (by omega)
  have h2 := num_lt s q 2
  have h3 := num_lt s (q + 2) 2
  simp only [Nat.reduceAdd, Nat.reducePow] at h1 h2 h3
  rw [h1, bne_eq_false_iff_eq]
  omega
theorem two_one (s : ByteArray) (q : Nat) (h : q + 2 ≤ s.size) : ((num s q 2 : Int) != IntKind.u16.wrap (IntKind.u16.wrap (IntKind.u16.wrap (num s q 1 : Int) * 256) + IntKind.u16.wrap (num s (q + 1) 1 : Int))) = false := by
  have h1 := num_split s q 1 1 (by omega)
  have h2 := num_lt s q 1
  have h3 := num_lt s (q + 1) 1
  simp only [Nat.reduceAdd, Nat.reducePow] at h1 h2 h3
  rw [h1, bne_eq_false_iff_eq]
  simp only [IntKind.wrap_u16]
  omega
theorem umod (x : Int) (m : Nat) (hm : 0 < m) (hm2 : m ≤ 1000000) : ∃ q : Nat, wrap64 ((IntKind.u64.wrap x).tmod m) = q ∧ q < m := by
  have h0 : 0 ≤ IntKind.u64.wrap x := by rw [IntKind.wrap_u64]; omega
  generalize IntKind.u64.wrap x = y at *
  rw [Int.tmod_eq_emod_of_nonneg h0]
  have h1 := Int.emod_nonneg y (b := (m : Int)) (by omega)
  have h2 := Int.emod_lt_of_pos y (b := (m : Int)) (by omega)
  refine ⟨(y % m).toNat, ?_, by omega⟩
  rw [IntWalk.wrap64_in _ (by omega)]
  omega
theorem ret_int {k : IntKind} {a b : Int} (h : a = b) : Ending.returned (.int k a) = .returned (.int k b) := by rw [h]
theorem take_snoc (s : ByteArray) (k : Nat) (h : k < s.size) : s.data.toList.take (k + 1) = s.data.toList.take k ++ [s[k]] := by
  rw [List.take_succ_eq_append_getElem (by simpa using h)]; rfl
/-- One round of cursor.value: 'v<<8 | uint32(c)'. -/
theorem shift_or (x c : Nat) (hx : x < 16777216) (hc : c < 256) : bits .or .u32 ((x : Int) * 256 % 4294967296) ((c : Int) % 4294967296) = ((x * 256 + c : Nat) : Int) := by
  rw [show ((x : Int) * 256 % 4294967296) = ((x * 256 : Nat) : Int) by omega, show ((c : Int) % 4294967296) = ((c : Nat) : Int) by omega, u32_or_nat _ _ (by omega) (by omega), nat_join 8 _ _ (by omega) (by omega)]
end Go.Proofs.YtijjfdmklbncbaaDoor
