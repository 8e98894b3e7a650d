/-
  Wire: WireWithin's walk.
-/
import Derived.Test.YthgendgmlpaglaaDoorWjC
namespace Go.Proofs.YthgendgmlpaglaaDoor
open Go.RowKit

theorem big_whole {m : Ms} (h : m.big < 5000) : suF qnS m.qs + suF rcS m.an + suF rcS m.au + suF rcS m.ex + suF opS m.ops ≤ 1000000 := by
  have hs := big_sum h
  have hl := big_small h
  have e1 : ∀ l : List Qn, (l.map qnW).sum < 5000 → suF qnS l ≤ (l.map qnW).sum := by
    intro l
    induction l with
    | nil => intro _; exact Nat.le_refl _
    | cons x l ih =>
      intro h
      rw [List.map_cons, List.sum_cons] at h ⊢
      have := ih (by omega)
      have := qn_small (r := x) (by omega)
      have e : suF qnS (x :: l) = qnS x + suF qnS l := by simp [suF]
      have e' : qnS x = x.name.size + 4 := rfl
      omega
  have e2 : ∀ l : List Rc, (l.map rcW).sum < 5000 → suF rcS l ≤ (l.map rcW).sum := by
    intro l
    induction l with
    | nil => intro _; exact Nat.le_refl _
    | cons x l ih =>
      intro h
      rw [List.map_cons, List.sum_cons] at h ⊢
      have := ih (by omega)
      have := rc_small (r := x) (by omega)
      have e : suF rcS (x :: l) = rcS x + suF rcS l := by simp [suF]
      have e' : rcS x = x.name.size + 10 + x.data.size := rfl
      omega
  have e3 : ∀ l : List Opt, (l.map opW).sum < 5000 → suF opS l ≤ (l.map opW).sum := by
    intro l
    induction l with
    | nil => intro _; exact Nat.le_refl _
    | cons x l ih =>
      intro h
      rw [List.map_cons, List.sum_cons] at h ⊢
      have := ih (by omega)
      have := op_small (r := x) (by omega)
      have e : suF opS (x :: l) = opS x + suF opS l := by simp [suF]
      have e' : opS x = 4 + x.2.size := rfl
      omega
  have := e1 m.qs (by omega)
  have := e2 m.an (by omega)
  have := e2 m.au (by omega)
  have := e2 m.ex (by omega)
  have := e3 m.ops (by omega)
  omega
theorem wE_cases (m : Ms) : (m.wE = 0 ∧ m.may = true) ∨ (m.wE = 3 ∧ m.may = false) ∨ (m.wE = 5 ∧ m.may = true) := by
  unfold Ms.wE
  by_cases h1 : m.may = false
  · rw [if_pos h1]; exact .inr (.inl ⟨rfl, h1⟩)
  · have h2 : m.may = true := by simpa using h1
    rw [if_neg h1]
    split
    · exact .inr (.inr ⟨rfl, h2⟩)
    · exact .inl ⟨rfl, h2⟩
theorem out_no {m : Ms} (h : ¬ m.wE = 0) : m.out = ByteArray.empty ∧ m.num = 0 := ⟨if_neg h, if_neg h⟩
theorem out_ok {m : Ms} (h : m.wE = 0) : m.out = ⟨m.s5.1.toArray⟩ ∧ m.num = m.s5.1.length ∧ m.out.size = m.num ∧ 12 ≤ m.num ∧ m.num ≤ 65535 := by
  have e1 : m.out = ⟨m.s5.1.toArray⟩ := if_pos h
  have e2 : m.num = m.s5.1.length := if_pos h
  refine ⟨e1, e2, by rw [e1, e2, size_mk], ?_, by rw [e2]; exact (Ms.wE0 h).2.2⟩
  obtain ⟨⟨B, e⟩, _⟩ := s5_from m
  have := m.s0_len
  rw [e2, e, List.length_append]
  omega

end Go.Proofs.YthgendgmlpaglaaDoor
