/-
  The own table of a law, and what was put by it.
-/
import Derived.Test.YtijjfdmklbncbaaDoorCo04d
namespace Go.Proofs.YtijjfdmklbncbaaDoor
open Go.RowKit

/-- The own table of a law, and what was put by it. -/
structure Aw (w : World) (b : Nat) (T : Tb) (v : Value) (l : List UInt8) (w' : World) : Prop where
  gr : w.grownBy w' none
  tab : ∃ m, Tab w' b m T ∧ ∀ k, m = some k → w.heap.size ≤ k
  own : Own w' (b + 1) v l
  lb : w.heap.size ≤ b

theorem Aw.quiet {w w1 w2 : World} {b : Nat} {T : Tb} {v : Value} {l : List UInt8} (h : Aw w b T v l w1) (g : w1.grownBy w2 none) : Aw w b T v l w2 := by
  obtain ⟨m, ht, hm⟩ := h.tab
  exact ⟨gtrans h.gr g, ⟨m, ht.kept0 g, hm⟩, h.own.kept0 g, h.lb⟩
theorem Aw.start {w w1 : World} {b : Nat} (hl : w.heap.size ≤ b) (ht : Tab w1 b none []) (hg : w.grownBy w1 none) : Aw w b [] (.slice none 0 0) [] w1 :=
  ⟨hg, ⟨none, ht, fun _ e => by cases e⟩, Own.nil _ _, hl⟩
theorem Aw.own' {w w1 : World} {b : Nat} {T : Tb} {v v' : Value} {l l' : List UInt8} (h : Aw w b T v l w1) (o : Own w1 (b + 1) v' l') : Aw w b T v' l' w1 := ⟨h.gr, h.tab, o, h.lb⟩
theorem aput_any (b : Nat) (T : Tb) (va : Value) (a : List UInt8) (n : ByteArray) (cmp known : Bool) (w0 w : World) (h : Aw w0 b T va a w) (hn : may n = true) (hT : T.length + n.size ≤ 1000000) (hal : a.length ≤ 1000000)
    (l : List UInt8) (T2 : Tb) (hp : putF n cmp known 0 T a = (l, T2)) :
    Calls Tryd.prog 28 #[.pointer (some ⟨b, 0, none⟩), va, .string n, .bool cmp, .bool known] w fun e w' => ∃ v', e = .returned (.tuple #[v', .int .i64 0]) ∧ Aw w0 b T2 va a w' ∧ Own w' (b + 1) v' l ∧ ∀ vx x, Own w (b + 1) vx x → Own w' (b + 1) vx x := by
  obtain ⟨m, ht, hm⟩ := h.tab
  have kept : ∀ w1, TG w w1 b m → ∀ vx x, Own w (b + 1) vx x → Own w1 (b + 1) vx x := by
    intro w1 hg vx x hx
    refine hx.keptT hg ?_ ?_
    · intro e; have := (hx.block b e).1; omega
    · cases m with
      | none => exact .inl rfl
      | some k => exact .inr (own_ne_map hx (ht.some k rfl).1)
  refine (tput_ok b m T _ a n cmp known w ht h.own.sl hn hT (by omega)).mono ?_
  rintro e w1 ⟨v', m', rfl, ho, ht1, hg, hms⟩
  rw [hp] at ho ht1
  simp only at ho ht1
  have hb := blt ht.cell
  refine ⟨v', rfl, ⟨TG.gr h.gr hg h.lb hm, ⟨m', ht1, fun k e => ?_⟩, kept w1 hg _ _ h.own, h.lb⟩, ho.base hb, kept w1 hg⟩
  rcases hms k e with h1 | h1
  · exact hm k h1
  · exact Nat.le_trans h.gr.size h1
end Go.Proofs.YtijjfdmklbncbaaDoor
