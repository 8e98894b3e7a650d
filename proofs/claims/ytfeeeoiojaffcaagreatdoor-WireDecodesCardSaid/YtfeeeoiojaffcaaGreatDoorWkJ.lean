/-
  Wire: slices that are written over (plain).
-/
import Derived.Test.YtfeeeoiojaffcaaGreatDoorWiZ
namespace Go.Proofs.YtfeeeoiojaffcaaGreatDoor
open Go.RowKit

/-- A slice of structs of k cells, in memory from a block on; its contents don't matter. -/
def SW (w : World) (base : Nat) (t : TypeId) (k n : Nat) (v : Value) : Prop :=
  (v = .slice none 0 0 ∧ n = 0) ∨ ∃ (g cap : Nat) (cur : Array Value), v = .slice (some ⟨g, 0, none⟩) n cap ∧ base ≤ g ∧ w.heap[g]? = some (.cells cur t (0, 0)) ∧ n ≤ cap ∧ cap * k ≤ cur.size
theorem SW.of {w : World} {base k n : Nat} {t : TypeId} {v : Value} {xs : List Value} (h : FS w base t k v n xs) : SW w base t k n v := by
  rcases h.2 with ⟨h2, h3⟩ | ⟨g, cap, cur, h3, h4, h5, h6, h7, _⟩
  · exact .inl ⟨h2, h3⟩
  · exact .inr ⟨g, cap, cur, h3, h4, h5, h6, h7⟩
theorem SW.kept {w w' : World} {base k n : Nat} {t : TypeId} {v : Value} (h : SW w base t k n v) (g : w.grownBy w' none) : SW w' base t k n v := by
  rcases h with h | ⟨b, cap, cur, h1, h2, h3, h4, h5⟩
  · exact .inl h
  · exact .inr ⟨b, cap, cur, h1, h2, gblock g h3 (by simp), h4, h5⟩
theorem SW.set {w : World} {base k n : Nat} {t : TypeId} {v : Value} (h : SW w base t k n v) (b i : Nat) (u : Value) : SW (w.setCell ⟨b, i, none⟩ u) base t k n v := by
  rcases h with h | ⟨g, cap, cur, h1, h2, h3, h4, h5⟩
  · exact .inl h
  · by_cases hb : b = g
    · subst hb
      exact .inr ⟨b, cap, cur.setIfInBounds i u, h1, h2, bset h3 i u, h4, by simpa using h5⟩
    · exact .inr ⟨g, cap, cur, h1, h2, (heap_setCell_other _ ⟨b, i, none⟩ _ _ (fun e => hb e.symm)).trans h3, h4, h5⟩
theorem SW.row {w : World} {base k n : Nat} {t : TypeId} {v : Value} (h : SW w base t k n v) (b : Nat) (old new : Array Value) (tb : TypeId) (hb : w.heap[b]? = some (.cells old tb (0, 0))) (hs : old.size ≤ new.size) : SW (w.setRow b new) base t k n v := by
  rcases h with h | ⟨g, cap, cur, h1, h2, h3, h4, h5⟩
  · exact .inl h
  · by_cases hg : b = g
    · subst hg
      rw [h3] at hb
      injection hb with hb
      injection hb with e1 _ _
      subst e1
      exact .inr ⟨b, cap, new, h1, h2, bsetR h3 new, h4, by omega⟩
    · exact .inr ⟨g, cap, cur, h1, h2, (setRow_other _ _ _ _ (fun e => hg e.symm)).trans h3, h4, h5⟩
theorem SW.at_ {w : World} {base k n cap i : Nat} {t : TypeId} {A : Option Addr} (h : SW w base t k n (.slice A n cap)) (hi : i < n) : ∃ g cur, A = some ⟨g, 0, none⟩ ∧ base ≤ g ∧ w.heap[g]? = some (.cells cur t (0, 0)) ∧ i * k + k ≤ cur.size := by
  rcases h with ⟨_, h2⟩ | ⟨g, cap', cur, h3, h4, h5, h6, h7⟩
  · omega
  · simp only [Value.slice.injEq] at h3
    obtain ⟨rfl, _, rfl⟩ := h3
    refine ⟨g, cur, rfl, h4, h5, Nat.le_trans ?_ h7⟩
    rw [← Nat.succ_mul]
    exact Nat.mul_le_mul_right _ (by omega)
theorem SW.form {w : World} {base k n : Nat} {t : TypeId} {v : Value} (h : SW w base t k n v) : ∃ A cap, v = .slice A n cap := by
  rcases h with ⟨rfl, rfl⟩ | ⟨g, cap, cur, rfl, _⟩
  · exact ⟨none, 0, rfl⟩
  · exact ⟨_, _, rfl⟩
theorem KB.set {B : Nat} {w w' : World} (h : KB B w w') (b i : Nat) (u : Value) (hb : B ≤ b) : KB B w (w'.setCell ⟨b, i, none⟩ u) :=
  h.trans ⟨rfl, rfl, rfl, by simp [World.setCell], fun j hj => heap_setCell_other _ ⟨b, i, none⟩ _ _ (by show j ≠ b; omega)⟩
theorem KB.row {B : Nat} {w w' : World} (h : KB B w w') (b : Nat) (cs : Array Value) (hb : B ≤ b) : KB B w (w'.setRow b cs) :=
  h.trans ⟨rfl, rfl, rfl, by simp [World.setRow], fun j hj => setRow_other _ _ _ _ (by omega)⟩
/-- The slices of a message that may be written over. -/
structure MW (w : World) (base : Nat) (m : Ms) (vq va vu vx vo : Value) : Prop where
  q : SW w base 46 3 m.qs.length vq
  a : SW w base 49 5 m.an.length va
  u : SW w base 49 5 m.au.length vu
  x : SW w base 49 5 m.ex.length vx
  o : SW w base 72 2 m.ops.length vo
theorem MW.of {w : World} {base : Nat} {m : Ms} {vq va vu vx vo : Value} (h : MsF w base m vq va vu vx vo) : MW w base m vq va vu vx vo := ⟨SW.of h.q, SW.of h.a, SW.of h.u, SW.of h.x, SW.of h.o⟩
theorem MW.kept {w w' : World} {base : Nat} {m : Ms} {vq va vu vx vo : Value} (h : MW w base m vq va vu vx vo) (g : w.grownBy w' none) : MW w' base m vq va vu vx vo := ⟨h.q.kept g, h.a.kept g, h.u.kept g, h.x.kept g, h.o.kept g⟩
theorem MW.set {w : World} {base : Nat} {m : Ms} {vq va vu vx vo : Value} (h : MW w base m vq va vu vx vo) (b i : Nat) (u : Value) : MW (w.setCell ⟨b, i, none⟩ u) base m vq va vu vx vo := ⟨h.q.set b i u, h.a.set b i u, h.u.set b i u, h.x.set b i u, h.o.set b i u⟩
theorem MW.row {w : World} {base : Nat} {m : Ms} {vq va vu vx vo : Value} (h : MW w base m vq va vu vx vo) (b : Nat) (old new : Array Value) (tb : TypeId) (hb : w.heap[b]? = some (.cells old tb (0, 0))) (hs : old.size ≤ new.size) : MW (w.setRow b new) base m vq va vu vx vo := ⟨h.q.row b old new tb hb hs, h.a.row b old new tb hb hs, h.u.row b old new tb hb hs, h.x.row b old new tb hb hs, h.o.row b old new tb hb hs⟩
end Go.Proofs.YtfeeeoiojaffcaaGreatDoor
