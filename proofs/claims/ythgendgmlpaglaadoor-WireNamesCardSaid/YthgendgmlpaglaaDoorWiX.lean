/-
  Wire: own.
-/
import Derived.Test.YthgendgmlpaglaaDoorA21
import Derived.Test.YthgendgmlpaglaaDoorA3
namespace Go.Proofs.YthgendgmlpaglaaDoor
open Go.RowKit

theorem own_empty (w : World) (base : Nat) (e : TypeId) (k n : Nat) (h : n = w.heap.size) (hb : base ≤ n) : (w.alloc (.cells #[] e)).ownsRow base e k (.slice (some ⟨n, 0, none⟩) 0 0) 0 [] := by
  subst h
  exact ⟨by simp, .inr ⟨w.heap.size, 0, #[], rfl, hb, balloc w _, Nat.le_refl _, by simp [maxLen], by simp, by simp⟩⟩
theorem qsV_one (l : List Qn) : ∀ u ∈ qsV l, u.oneCell' = true := by
  intro u hu
  obtain ⟨o, _, h⟩ := List.mem_flatMap.1 hu
  simp [qv] at h
  rcases h with rfl | rfl | rfl <;> rfl
theorem rsV_one (l : List Rc) : ∀ u ∈ rsV l, u.oneCell' = true := by
  intro u hu
  obtain ⟨o, _, h⟩ := List.mem_flatMap.1 hu
  simp [rv] at h
  rcases h with rfl | rfl | rfl | rfl | rfl <;> rfl
/-- New memory behind: what is appended onto a slice that lies from a bound on. -/
theorem gown {a b c : World} {base k n : Nat} {e : TypeId} {v : Value} {xs : List Value} (g : a.grownBy b none) (o : b.ownsRow base e k v n xs) (h : b.grownBy c v.ownBlock) (hb : a.heap.size ≤ base) : a.grownBy c none :=
  ⟨h.os.trans g.os, h.tape.trans g.tape, h.output.trans g.output, Nat.le_trans g.size h.size, fun i hi _ => (h.block i (Nat.lt_of_lt_of_le hi g.size) (fun e => by have := (World.ownsRow.lt o i e.symm).1; omega)).trans (g.block i hi (by simp))⟩

end Go.Proofs.YthgendgmlpaglaaDoor
