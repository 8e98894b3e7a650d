/-
  Options as bytes, plain. Nothing of the program stands here.
-/
import Derived.Test.YtcednhpelbdoiaaDoorNum
namespace Go.Proofs.YtcednhpelbdoiaaDoor
open Go.RowKit

/-- An option: its code and its data. -/
abbrev Opt := Nat × ByteArray
/-- The options that stand from place p on (f: at most so many), or none. -/
def opsF (s : ByteArray) : Nat → Nat → Option (List Opt)
  | 0, p => if p < s.size then none else some []
  | f + 1, p => if p < s.size then (if p + 4 ≤ s.size ∧ p + 4 + num s (p + 2) 2 ≤ s.size then (opsF s f (p + 4 + num s (p + 2) 2)).map (fun r => (num s p 2, s.extract (p + 4) (p + 4 + num s (p + 2) 2)) :: r) else none) else some []
theorem opsF_succ (s : ByteArray) (f p : Nat) : opsF s (f + 1) p = if p < s.size then (if p + 4 ≤ s.size ∧ p + 4 + num s (p + 2) 2 ≤ s.size then (opsF s f (p + 4 + num s (p + 2) 2)).map (fun r => (num s p 2, s.extract (p + 4) (p + 4 + num s (p + 2) 2)) :: r) else none) else some [] := rfl
theorem opsF_more (s : ByteArray) : ∀ (f p : Nat), s.size ≤ f + p → opsF s (f + 1) p = opsF s f p
  | 0, p, h => by
    have : ¬ p < s.size := by omega
    simp [opsF, this]
  | f + 1, p, h => by
    rw [opsF_succ s (f + 1) p, opsF_succ s f p]
    by_cases hp : p < s.size
    · rw [if_pos hp, if_pos hp]
      rw [opsF_more s f _ (by omega)]
    · rw [if_neg hp, if_neg hp]
theorem opsF_any (s : ByteArray) (p f : Nat) (h : s.size ≤ f + p) : ∀ k, opsF s (f + k) p = opsF s f p
  | 0 => rfl
  | k + 1 => by rw [← Nat.add_assoc, opsF_more s _ _ (by omega), opsF_any s p f h k]
/-- The options that stand from place p on. -/
def opsAt (s : ByteArray) (p : Nat) : Option (List Opt) := opsF s (s.size - p) p
theorem opsAt_end {s : ByteArray} {p : Nat} (h : s.size ≤ p) : opsAt s p = some [] := by
  unfold opsAt
  rw [show s.size - p = 0 by omega, opsF, if_neg (by omega)]
theorem opsAt_step {s : ByteArray} {p : Nat} (h : p + 4 ≤ s.size) (h2 : p + 4 + num s (p + 2) 2 ≤ s.size) :
    opsAt s p = (opsAt s (p + 4 + num s (p + 2) 2)).map (fun r => (num s p 2, s.extract (p + 4) (p + 4 + num s (p + 2) 2)) :: r) := by
  unfold opsAt
  obtain ⟨f, hf⟩ : ∃ f, s.size - p = f + 1 := ⟨s.size - p - 1, by omega⟩
  rw [hf, opsF, if_pos (by omega), if_pos ⟨h, h2⟩]
  have := opsF_any s (p + 4 + num s (p + 2) 2) (s.size - (p + 4 + num s (p + 2) 2)) (by omega) (f - (s.size - (p + 4 + num s (p + 2) 2)))
  rw [show s.size - (p + 4 + num s (p + 2) 2) + (f - (s.size - (p + 4 + num s (p + 2) 2))) = f by omega] at this
  rw [this]
theorem opsAt_no {s : ByteArray} {p : Nat} (hp : p < s.size) (h : s.size < p + 4 ∨ s.size < p + 4 + num s (p + 2) 2) : opsAt s p = none := by
  unfold opsAt
  obtain ⟨f, hf⟩ : ∃ f, s.size - p = f + 1 := ⟨s.size - p - 1, by omega⟩
  rw [hf, opsF, if_pos hp, if_neg (by omega)]
/-- Options as cells. -/
def ov (l : List Opt) : List Value := l.flatMap fun o => [.int .u16 o.1, .string o.2]
theorem ov_append (a b : List Opt) : ov (a ++ b) = ov a ++ ov b := by simp [ov]
theorem ov_one (l : List Opt) : ∀ u ∈ ov l, u.oneCell' = true := by
  intro u hu
  obtain ⟨o, _, h⟩ := List.mem_flatMap.1 hu
  simp at h
  rcases h with rfl | rfl <;> rfl
theorem ov_len (l : List Opt) : (ov l).length = l.length * 2 := by
  induction l with
  | nil => rfl
  | cons a l ih => simp only [ov, List.flatMap_cons, List.length_append, List.length_cons, List.length_nil] at *; omega
/-- What was found so far, and what stands from p on, make up the whole. -/
def OpsSo (s : ByteArray) (l : List Opt) (p : Nat) : Prop := opsAt s 0 = (opsAt s p).map (l ++ ·)
theorem OpsSo.start (s : ByteArray) : OpsSo s [] 0 := by unfold OpsSo; cases opsAt s 0 <;> simp
theorem OpsSo.step {s : ByteArray} {l : List Opt} {p : Nat} (h : OpsSo s l p) (h1 : p + 4 ≤ s.size) (h2 : p + 4 + num s (p + 2) 2 ≤ s.size) :
    OpsSo s (l ++ [(num s p 2, s.extract (p + 4) (p + 4 + num s (p + 2) 2))]) (p + 4 + num s (p + 2) 2) := by
  unfold OpsSo at *
  rw [h, opsAt_step h1 h2, Option.map_map]
  congr 1
  funext r
  simp
theorem OpsSo.done {s : ByteArray} {l : List Opt} {p : Nat} (h : OpsSo s l p) (hp : s.size ≤ p) : opsAt s 0 = some l := by
  unfold OpsSo at h
  rw [h, opsAt_end hp]
  simp
theorem OpsSo.no {s : ByteArray} {l : List Opt} {p : Nat} (h : OpsSo s l p) (hp : p < s.size) (h2 : s.size < p + 4 ∨ s.size < p + 4 + num s (p + 2) 2) : opsAt s 0 = none := by
  unfold OpsSo at h
  rw [h, opsAt_no hp h2]
  rfl
theorem opsF_few (s : ByteArray) : ∀ (f p : Nat) (l : List Opt), opsF s f p = some l → l.length ≤ f
  | 0, p, l, h => by
    rw [opsF] at h
    split at h
    · cases h
    · cases h; simp
  | f + 1, p, l, h => by
    rw [opsF_succ] at h
    split at h
    · split at h
      · cases hr : opsF s f (p + 4 + num s (p + 2) 2) with
        | none => rw [hr] at h; cases h
        | some r =>
          rw [hr] at h
          have := opsF_few s f _ r hr
          cases h
          simp; omega
      · cases h
    · cases h; simp
theorem opsAt_few {s : ByteArray} {l : List Opt} {m : Nat} (h : opsAt s 0 = some l) (hs : s.size ≤ m) : l.length ≤ m := by
  have := opsF_few s _ _ l h
  omega
end Go.Proofs.YtcednhpelbdoiaaDoor
