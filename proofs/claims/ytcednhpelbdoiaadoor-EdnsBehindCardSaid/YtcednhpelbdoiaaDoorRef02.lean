/-
  Contracts of the reference hustingsref02: Put; the reference's cursor: Number, Take, Seek.
-/
import Derived.Test.YtcednhpelbdoiaaDoorBytes
import Derived.Test.YtcednhpelbdoiaaDoorNum
import Derived.Test.YtcednhpelbdoiaaDoorCurD
namespace Go.Proofs.YtcednhpelbdoiaaDoor
open Go.RowKit

theorem enc_cons (n x : Nat) : enc (n + 1) x = UInt8.ofNat (x / 256 ^ n % 256) :: enc n x := by
  induction n generalizing x with
  | zero => simp [enc]
  | succ n ih =>
    rw [enc, ih, enc, List.cons_append, Nat.div_div_eq_div_mul, Nat.pow_succ, Nat.mul_comm 256]
theorem mk_cons (c : UInt8) (l : List UInt8) : (⟨#[c]⟩ : ByteArray) ++ (⟨l.toArray⟩ : ByteArray) = ⟨(c :: l).toArray⟩ := by
  have := ByteArray.mk_append_mk [c] l
  simpa using this

set_option maxRecDepth 100000 in
/-- hustingsref02.Put: the bytes of a number. -/
theorem rput_any (x k : Nat) (hx : x < 4294967296) (hk : k ≤ 8) (w : World) : Calls Tryd.prog 29 #[.int .u64 x, .int .i64 k] w fun e w' => e = .returned (.string ⟨(enc k x).toArray⟩) ∧ w.grownBy w' none := by
  go_enter Tryd.func29, Tryd.ntmps29
  go_wp2_with fail
  go_loopw [0, 5, 6] (fun n s i wr => ∃ j : Nat, j ≤ k ∧ i = .int .i64 j ∧ n = .int .u64 ((x / 256 ^ j : Nat) : Int) ∧ s = .string ⟨(enc j x).toArray⟩ ∧ w.grownBy wr none) (fun _ _ i _ => k - (intOf i).toNat)
  case atStart => exact ⟨0, by omega, rfl, by simp, rfl, grefl _ _⟩
  case round =>
    obtain ⟨j, hj, rfl, rfl, rfl, hg⟩ := hrel
    have hlen := enc_len j x
    have hE := enc_cons j x
    by_cases hlt : j < k
    · have hlt2 : x / 256 ^ j < 4294967296 := Nat.lt_of_le_of_lt (Nat.div_le_self _ _) hx
      have HM := Lib.hid (show x / 256 ^ (j + 1) = x / 256 ^ j / 256 by rw [Nat.pow_succ, Nat.div_div_eq_div_mul])
      have HE := Lib.hid hE
      have HL := Lib.hid hlen
      have hlt3 : (enc j x).length ≤ 8 := by omega
      clear hE hlen
      generalize x / 256 ^ j = y at *
      generalize enc j x = l at *
      have hcv : (convert 42 9 (.slice (some ⟨wr.heap.size, 0, none⟩) 1 1)).run Tryd.prog (wr.alloc (.cells #[.int .u8 ((y : Int) % 256)] 5)) = .ok (.string ⟨#[UInt8.ofNat (y % 256)]⟩) (wr.alloc (.cells #[.int .u8 ((y : Int) % 256)] 5)) :=
        run_string_of _ 42 9 5 Tryd.underlying42 Tryd.underlying5 Tryd.underlying9 (sl_new wr _ [UInt8.ofNat (y % 256)] _ 1 (congrArg (fun z => [z]) (cell_byte _ y (by omega))) rfl)
      go_wp2
      go_roundw
      case rel => exact ⟨j + 1, by omega, by go_num, by rw [HM.out]; go_num, by rw [HE.out]; exact congrArg Value.string (mk_cons _ _), galloc hg _⟩
      case measure => simp [intOf]; omega
    · go_wp2
      go_ret
      have hjk : j = k := by omega
      subst hjk
      exact ⟨rfl, hg⟩

/-- The reference's cursor over s at place p lies in block b. -/
def RCur (w : World) (b : Nat) (s : ByteArray) (p : Nat) : Prop := w.heap[b]? = some (.cells #[.string s, .int .i64 p] 50 (0, 0))

theorem number_short (b : Nat) (s : ByteArray) (p n : Nat) (w : World) (h : RCur w b s p) (hp : p ≤ s.size) (hq : s.size < p + n) (hs : s.size ≤ maxLen) : Calls Tryd.prog 22 #[.pointer (some ⟨b, 0, none⟩), .int .i64 n] w fun e w' => e = .returned (.tuple #[.int .u64 0, .int .i64 4]) ∧ w.grownBy w' none := by
  have h0 : w.cell? ⟨b, 0, none⟩ = some (.string s) := bcellAt h 0
  have h1 : w.cell? ⟨b, 1, none⟩ = some (.int .i64 p) := bcellAt h 1
  unfold maxLen at hs
  go_enter Tryd.func22, Tryd.ntmps22
  go_wp2
  go_quiet (fail)
  go_wp2
  go_ret2
  exact ⟨rfl, gdrewN (grefl _ _) _⟩

theorem num_snoc (s : ByteArray) (p k : Nat) (h : p + k < s.size) : num s p (k + 1) = num s p k * 256 + (s[p + k]).toNat := by
  unfold num
  rw [List.take_succ_eq_append_getElem (by simp; omega), be_snoc]
  congr 2
  simp
  rfl

theorem u64_step (X c : Nat) (hX : X < 4294967296) (hc : c < 256) : IntKind.u64.wrap (256 * (X : Int) + IntKind.u64.wrap (c : Int)) = ((X * 256 + c : Nat) : Int) := by
  rw [IntKind.wrap_u64, IntKind.wrap_u64]; omega
set_option maxRecDepth 100000 in
theorem number_ok (b : Nat) (s : ByteArray) (p n : Nat) (w : World) (h : RCur w b s p) (hq : p + n ≤ s.size) (hn : n ≤ 4) (hs : s.size ≤ maxLen) : Calls Tryd.prog 22 #[.pointer (some ⟨b, 0, none⟩), .int .i64 n] w fun e w' => e = .returned (.tuple #[.int .u64 (num s p n), .int .i64 0]) ∧ RCur w' b s (p + n) ∧ w.grownBy w' (some b) := by
  have h0 : w.cell? ⟨b, 0, none⟩ = some (.string s) := bcellAt h 0
  have h1 : w.cell? ⟨b, 1, none⟩ = some (.int .i64 p) := bcellAt h 1
  have hf : w.frozen? ⟨b, 1, none⟩ = false := bfree h 1
  unfold maxLen at hs
  have hd : decide ((s.size : Int) - (p : Int) < (n : Int)) = false := by simp; omega
  go_enter Tryd.func22, Tryd.ntmps22
  go_wp2
  go_quiet (fail)
  go_wp2
  go_loopw [6, 7] (fun v i wr => ∃ k : Nat, k ≤ n ∧ i = .int .i64 k ∧ v = .int .u64 (num s p k) ∧ ∃ d, wr = w.drewN d) (fun _ i _ => n - (intOf i).toNat)
  case atStart => exact ⟨0, by omega, rfl, rfl, _, rfl⟩
  case round =>
    obtain ⟨k, hk, rfl, rfl, d, rfl⟩ := hrel
    by_cases hlt : k < n
    · have HS := Lib.hid (num_snoc s p k (by omega))
      have hnl : num s p k < 4294967296 := by
        refine Nat.lt_of_lt_of_le (num_lt s p k) ?_
        rw [show (4294967296 : Nat) = 256 ^ 4 by rfl]
        exact Nat.pow_le_pow_right (by omega) (by omega)
      generalize num s p k = X at *
      have q1 : (0 : Int) ≤ (p : Int) + (k : Int) := by omega
      have q2 : (p : Int) + (k : Int) < (s.size : Int) := by omega
      have q4 : ((p : Int) + (k : Int)).toNat = p + k := by omega
      have q5 : p + k < s.size := by omega
      have q3 : IntKind.i64.wrap ((p : Int) + (k : Int)) = (p : Int) + (k : Int) := IntWalk.i64_in _ (by omega)
      go_wp2
      go_quiet (fail)
      rw [u64_step X _ hnl (s[p + k].toNat_lt)]
      clear q3
      go_wp2
      go_roundw
      case rel => exact ⟨k + 1, by omega, by go_num, by rw [HS.out], _, rfl⟩
      case measure => simp [intOf]; omega
    · have hkn : k = n := by omega
      subst hkn
      go_wp2
      go_ret2
      exact ⟨rfl, (bset (w := w.drewN d) h 1 _).trans (by simp), gset (gdrewN (grefl _ _) _) (.inl rfl) _⟩

theorem number_any (b : Nat) (s : ByteArray) (p n : Nat) (w : World) (h : RCur w b s p) (hp : p ≤ s.size) (hn : n ≤ 4) (hs : s.size ≤ maxLen) : Calls Tryd.prog 22 #[.pointer (some ⟨b, 0, none⟩), .int .i64 n] w fun e w' => e = .returned (.tuple #[.int .u64 (rdV s p n), .int .i64 (rdE s p n)]) ∧ RCur w' b s (rdP s p n) ∧ w.grownBy w' (some b) := by
  by_cases hq : p + n ≤ s.size
  · simp only [rdV, rdE, rdP, if_pos hq]
    exact number_ok b s p n w h hq hn hs
  · simp only [rdV, rdE, rdP, if_neg hq]
    exact (number_short b s p n w h hp (by omega) hs).mono fun e w' ⟨he, hg⟩ => ⟨he, gblock hg h (by simp), gmono hg⟩

theorem rtake_neg (b : Nat) (w : World) (n : Int) (hn : n < 0) : Calls Tryd.prog 23 #[.pointer (some ⟨b, 0, none⟩), .int .i64 n] w fun e w' => e = .returned (.tuple #[.string ByteArray.empty, .int .i64 1]) ∧ w = w' := by
  go_enter Tryd.func23, Tryd.ntmps23
  go_wp2
  go_ret2
  exact ⟨rfl, rfl⟩
theorem rtake_short (b : Nat) (s : ByteArray) (p : Nat) (w : World) (n : Int) (h : RCur w b s p) (hn : 0 ≤ n) (hp : p ≤ s.size) (hq : s.size < p + n) (hs : s.size ≤ maxLen) : Calls Tryd.prog 23 #[.pointer (some ⟨b, 0, none⟩), .int .i64 n] w fun e w' => e = .returned (.tuple #[.string ByteArray.empty, .int .i64 4]) ∧ w.grownBy w' none := by
  have h0 : w.cell? ⟨b, 0, none⟩ = some (.string s) := bcellAt h 0
  have h1 : w.cell? ⟨b, 1, none⟩ = some (.int .i64 p) := bcellAt h 1
  unfold maxLen at hs
  go_enter Tryd.func23, Tryd.ntmps23
  go_wp2
  go_quiet (fail)
  go_wp2
  go_ret2
  exact ⟨rfl, gdrewN (grefl _ _) _⟩
theorem rtake_ok (b : Nat) (s : ByteArray) (p : Nat) (w : World) (n : Nat) (h : RCur w b s p) (hq : p + n ≤ s.size) (hs : s.size ≤ maxLen) : Calls Tryd.prog 23 #[.pointer (some ⟨b, 0, none⟩), .int .i64 n] w fun e w' => e = .returned (.tuple #[.string (s.extract p (p + n)), .int .i64 0]) ∧ RCur w' b s (p + n) ∧ w.grownBy w' (some b) := by
  have h0 : w.cell? ⟨b, 0, none⟩ = some (.string s) := bcellAt h 0
  have h1 : w.cell? ⟨b, 1, none⟩ = some (.int .i64 p) := bcellAt h 1
  have hf : w.frozen? ⟨b, 1, none⟩ = false := bfree h 1
  unfold maxLen at hs
  go_enter Tryd.func23, Tryd.ntmps23
  go_wp2
  go_quiet (fail)
  go_wp2
  go_quiet (fail)
  go_wp2
  go_ret2
  exact ⟨rfl, (bset h 1 _).trans (by simp), gset (gdrewN (grefl _ _) _) (.inl rfl) _⟩
theorem rtake_any (b : Nat) (s : ByteArray) (p : Nat) (w : World) (n : Int) (h : RCur w b s p) (hp : p ≤ s.size) (hs : s.size ≤ maxLen) : Calls Tryd.prog 23 #[.pointer (some ⟨b, 0, none⟩), .int .i64 n] w fun e w' => e = .returned (.tuple #[.string (tkS s p n), .int .i64 (tkE s p n)]) ∧ RCur w' b s (tkP s p n) ∧ w.grownBy w' (some b) := by
  by_cases hn : n < 0
  · simp only [tkS, tkE, tkP, if_pos hn]
    exact (rtake_neg b w n hn).mono fun e w' ⟨he, hw⟩ => ⟨he, by subst hw; exact h, by subst hw; exact grefl _ _⟩
  · by_cases hq : (s.size : Int) < p + n
    · simp only [tkS, tkE, tkP, if_neg hn, if_pos hq]
      exact (rtake_short b s p w n h (by omega) hp hq hs).mono fun e w' ⟨he, hg⟩ => ⟨he, gblock hg h (by simp), gmono hg⟩
    · simp only [tkS, tkE, tkP, if_neg hn, if_neg hq]
      obtain ⟨m, rfl⟩ := Int.eq_ofNat_of_zero_le (show 0 ≤ n by omega)
      exact rtake_ok b s p w m h (by omega) hs

end Go.Proofs.YtcednhpelbdoiaaDoor
