/-
  CompPuts: what the statement holds.
-/
import Derived.Test.YtjjegmgjnfkblaaDoorCo04m
namespace Go.Proofs.YtjjegmgjnfkblaaDoor
open Go.RowKit

/-- Every ending is found where it was laid. -/
def ND (T : Tb) : Prop := ∀ x ∈ T, tget T x.1 = some x.2 ∧ x.1.size ≤ 1000000
theorem ND.nil : ND [] := fun x hx => by cases hx
theorem ND.snoc {T : Tb} (h : ND T) {s : ByteArray} {p : Nat} (hn : tget T s = none) (hs : s.size ≤ 1000000) : ND (T ++ [(s, p)]) := by
  intro x hx
  rcases List.mem_append.1 hx with hx | hx
  · refine ⟨?_, (h x hx).2⟩
    rw [tget_snoc_other]
    · exact (h x hx).1
    · intro e
      have := (h x hx).1
      rw [e, hn] at this
      cases this
  · simp at hx
    subst hx
    exact ⟨tget_snoc_same hn, hs⟩
theorem putF_nd (n : ByteArray) (cmp known : Bool) (hn : n.size ≤ 1000000) : ∀ k p (T : Tb) (out : List UInt8), n.size - p = k → ND T → ND (putF n cmp known p T out).2 := by
  intro k
  induction k using Nat.strongRecOn with
  | _ k ih =>
    intro p T out hk hl
    rw [putF]
    split
    · split
      · exact hl
      · refine ih (n.size - (p + 1 + bt n p)) (by omega) _ _ _ rfl ?_
        unfold tadd
        split
        · rename_i h
          exact hl.snoc h.2.1 (by rw [suf_sz]; omega)
        · exact hl
    · exact hl
theorem row_ne_blk {w : World} {base k n j : Nat} {e e' : TypeId} {v : Value} {x : List Value} {c : Array Value} {z : Nat × Nat} (h : w.ownsRow base e k v n x) (hb : w.heap[j]? = some (.cells c e' z)) (hne : e ≠ e') : v.ownBlock ≠ some j := by
  rcases h.2 with ⟨rfl, _⟩ | ⟨g, cap, cur, rfl, _, hg, _⟩
  · simp [Value.ownBlock]
  · intro e0
    simp [Value.ownBlock] at e0
    subst e0
    rw [hg] at hb
    simp at hb
    exact hne hb.2.1
theorem map_ne_blk {w : World} {bm j : Nat} {T : Tb} {c : Array Value} {e : TypeId} {z : Nat × Nat} (q : MapT w bm T) (hb : w.heap[j]? = some (.cells c e z)) : bm ≠ j := by
  rintro rfl
  obtain ⟨D, ⟨es, clock, hm, _⟩, _⟩ := q
  rw [hb] at hm
  cases hm
structure Pu (w : World) (tb : Nat) (m : Option Nat) (rb : Nat) (vr : Value) (T : Tb) (vb : Value) (bl : List UInt8) (wr : World) : Prop where
  gr : w.grownBy wr none
  tab : Tab wr tb m T
  ms : ∀ k, m = some k → w.heap.size ≤ k
  lb : w.heap.size ≤ tb
  own : Own wr (tb + 1) vb bl
  rt : RT wr rb vr T
  rl : w.heap.size ≤ rb
  ne : rb ≠ tb
  nd : ND T
theorem Pu.quiet {w w1 w2 : World} {tb rb : Nat} {m : Option Nat} {vr vb : Value} {T : Tb} {bl : List UInt8} (h : Pu w tb m rb vr T vb bl w1) (g : w1.grownBy w2 none) : Pu w tb m rb vr T vb bl w2 :=
  ⟨gtrans h.gr g, h.tab.kept0 g, h.ms, h.lb, h.own.kept0 g, h.rt.kept0 g, h.rl, h.ne, h.nd⟩
theorem Pu.app {w w1 w2 : World} {tb rb : Nat} {m : Option Nat} {vr vb v' : Value} {T : Tb} {bl bl' : List UInt8} (h : Pu w tb m rb vr T vb bl w1) (g : w1.grownBy w2 vb.ownBlock) (o : Own w2 (tb + 1) v' bl') : Pu w tb m rb vr T v' bl' w2 :=
  ⟨gstep h.gr g (fun r e => by have := (World.ownsRow.lt h.own r e).1; have := h.lb; omega), tab_keptR h.tab g h.own (by omega), h.ms, h.lb, o, h.rt.kept g (row_ne_blk h.own h.rt.cell (by decide)) (row_ne h.rt.row h.own (by decide)), h.rl, h.ne, h.nd⟩
/-- Behind the program's Put: its table is ahead of the document's. -/
structure Pv (w : World) (tb : Nat) (m : Option Nat) (T1 : Tb) (rb : Nat) (vr : Value) (T : Tb) (vb : Value) (bl : List UInt8) (v1 : Value) (b1 : List UInt8) (wr : World) : Prop where
  gr : w.grownBy wr none
  tab : Tab wr tb m T1
  ms : ∀ k, m = some k → w.heap.size ≤ k
  lb : w.heap.size ≤ tb
  own : Own wr (tb + 1) vb bl
  own1 : Own wr (tb + 1) v1 b1
  rt : RT wr rb vr T
  rl : w.heap.size ≤ rb
  ne : rb ≠ tb
theorem Pv.quiet {w w1 w2 : World} {tb rb : Nat} {m : Option Nat} {vr vb v1 : Value} {T T1 : Tb} {bl b1 : List UInt8} (h : Pv w tb m T1 rb vr T vb bl v1 b1 w1) (g : w1.grownBy w2 none) : Pv w tb m T1 rb vr T vb bl v1 b1 w2 :=
  ⟨gtrans h.gr g, h.tab.kept0 g, h.ms, h.lb, h.own.kept0 g, h.own1.kept0 g, h.rt.kept0 g, h.rl, h.ne⟩
theorem Pu.put {w w1 w2 : World} {tb rb : Nat} {m : Option Nat} {vr vb : Value} {T T1 : Tb} {bl b1 : List UInt8} (h : Pu w tb m rb vr T vb bl w1) {v' : Value} {m' : Option Nat} (ho : Own w2 w1.heap.size v' b1) (ht : Tab w2 tb m' T1) (hg : TG w1 w2 tb m) (hms : ∀ i, m' = some i → m = some i ∨ w1.heap.size ≤ i) :
    Pv w tb m' T1 rb vr T vb bl v' b1 w2 ∧ KB w.heap.size w1 w2 := by
  have hb := blt h.tab.cell
  refine ⟨⟨TG.gr h.gr hg h.lb h.ms, ht, fun k e => ?_, h.lb, row_keptT h.own hg (by omega) h.tab, ho.base hb, ?_, h.rl, h.ne⟩, hg.kb h.gr.size h.lb h.ms⟩
  · rcases hms k e with h1 | h1
    · exact h.ms k h1
    · exact Nat.le_trans h.gr.size h1
  · obtain ⟨wm, g1, g2⟩ := hg.split
    have r1 := h.rt.kept g1 (by simp; exact fun e => h.ne e.symm) (.inr (row_ne_blk h.rt.row h.tab.cell (by decide)))
    refine r1.kept g2 ?_ ?_
    · intro e; exact map_ne_blk (h.tab.some rb e).1 h.rt.cell rfl
    · cases m with
      | none => cases vr.ownBlock <;> simp
      | some bm => exact .inr (row_ne_map h.rt.row (h.tab.some bm rfl).1)
theorem Pv.ref {w w1 w2 : World} {tb rb : Nat} {m : Option Nat} {vr vb v1 v2 : Value} {T T1 : Tb} {bl b1 : List UInt8} (h : Pv w tb m T1 rb vr T vb bl v1 b1 w1) (hn : ND T1) (r : RT w2 rb v2 T1) (g : w1.grownBy w2 (some rb)) : Pu w tb m rb v2 T1 v1 b1 w2 ∧ SlB w2 vb bl ∧ KB w.heap.size w1 w2 := by
  have hgr : w.grownBy w2 none := gstepb h.gr g h.rl
  refine ⟨⟨hgr, h.tab.kept g (by simp; exact h.ne) ?_, h.ms, h.lb, World.ownsRow.kept h.own1 g (.inr (row_ne_blk h.own1 h.rt.cell (by decide))), r, h.rl, h.ne, hn⟩, h.own.sl.kept g (fun j e => .inr (by cases e; exact row_ne_blk h.own h.rt.cell (by decide))), ⟨g.os, g.tape, g.output, g.size, fun i hi => g.block i (by have := h.gr.size; omega) (by simp; have := h.rl; omega)⟩⟩
  cases m with
  | none => exact .inr (by simp)
  | some bm => exact .inr (fun e => map_ne_blk (h.tab.some bm rfl).1 h.rt.cell (by simpa using e.symm))
end Go.Proofs.YtjjegmgjnfkblaaDoor
