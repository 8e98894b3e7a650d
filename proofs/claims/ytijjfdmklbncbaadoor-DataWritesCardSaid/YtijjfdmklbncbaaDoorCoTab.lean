/-
  comp.Table: a map in a field behind a pointer; which blocks a call on a table may turn.
-/
import Derived.Test.YtijjfdmklbncbaaDoorCoNm
import Derived.Test.YtijjfdmklbncbaaDoorApp
import Derived.Maps.OwnSet
import Derived.WalkKit
namespace Go.Proofs.YtijjfdmklbncbaaDoor
open Go.RowKit Go.Maps

/-- Only block b, the map's block m (if any) and new blocks have turned. -/
structure TG (w w' : World) (b : Nat) (m : Option Nat) : Prop where
  os : w'.os = w.os
  tape : w'.tape = w.tape
  output : w'.output = w.output
  size : w.heap.size ≤ w'.heap.size
  block : ∀ i, i < w.heap.size → i ≠ b → some i ≠ m → w'.heap[i]? = w.heap[i]?
theorem TG.refl (w : World) (b : Nat) (m : Option Nat) : TG w w b m := ⟨rfl, rfl, rfl, Nat.le_refl _, fun _ _ _ _ => rfl⟩
theorem TG.of0 {w w' : World} (g : w.grownBy w' none) (b : Nat) (m : Option Nat) : TG w w' b m := ⟨g.os, g.tape, g.output, g.size, fun i hi _ _ => g.block i hi (by simp)⟩
theorem TG.ofB {w w' : World} {b : Nat} (g : w.grownBy w' (some b)) (m : Option Nat) : TG w w' b m := ⟨g.os, g.tape, g.output, g.size, fun i hi hn _ => g.block i hi (by simpa using hn)⟩
theorem TG.ofM {w w' : World} {m : Option Nat} (g : w.grownBy w' m) (b : Nat) : TG w w' b m := ⟨g.os, g.tape, g.output, g.size, fun i hi _ hn => g.block i hi hn⟩
theorem TG.trans {w w1 w2 : World} {b : Nat} {m m1 : Option Nat} (h : TG w w1 b m) (k : TG w1 w2 b m1) (hm : ∀ i, m1 = some i → m = some i ∨ w.heap.size ≤ i) : TG w w2 b m :=
  ⟨k.os.trans h.os, k.tape.trans h.tape, k.output.trans h.output, Nat.le_trans h.size k.size, fun i hi hb hn => (k.block i (Nat.lt_of_lt_of_le hi h.size) hb (fun e => by
    rcases hm i e.symm with h1 | h1
    · exact hn h1.symm
    · omega)).trans (h.block i hi hb hn)⟩
theorem TG.split {w w' : World} {b : Nat} {m : Option Nat} (h : TG w w' b m) : ∃ wm, w.grownBy wm (some b) ∧ wm.grownBy w' m := by
  cases m with
  | none => exact ⟨w', ⟨h.os, h.tape, h.output, h.size, fun i hi hn => h.block i hi (fun e => hn (by rw [e])) (by simp)⟩, grefl _ _⟩
  | some k =>
    by_cases hk : k < w.heap.size
    · refine ⟨{ w' with heap := w'.heap.setIfInBounds k w.heap[k] }, ⟨h.os, h.tape, h.output, by simpa using h.size, fun i hi hn => ?_⟩, ⟨rfl, rfl, rfl, by simp, fun i hi hn => ?_⟩⟩
      · simp only [Array.getElem?_setIfInBounds]
        split
        · rename_i e
          subst e
          rw [if_pos (Nat.lt_of_lt_of_le hk h.size)]
          simp [hk]
        · rename_i e
          exact h.block i hi (fun x => hn (by rw [x])) (fun x => e (by simpa using x.symm))
      · simp only [Array.getElem?_setIfInBounds]
        rw [if_neg (fun e => hn (by rw [e]))]
    · exact ⟨w', ⟨h.os, h.tape, h.output, h.size, fun i hi hn => h.block i hi (fun e => hn (by rw [e])) (fun e => by simp at e; omega)⟩, grefl _ _⟩
theorem TG.blk {w w' : World} {b : Nat} {m : Option Nat} (h : TG w w' b m) {k : Nat} {o : Obj} (ho : w.heap[k]? = some o) (h1 : k ≠ b) (h2 : some k ≠ m) : w'.heap[k]? = some o := by rw [h.block k (blt ho) h1 h2]; exact ho
/-- A call on a table of one's own turns nothing that was there before. -/
theorem TG.gr {w0 w w' : World} {b : Nat} {m : Option Nat} (g : w0.grownBy w none) (h : TG w w' b m) (hb : w0.heap.size ≤ b) (hm : ∀ k, m = some k → w0.heap.size ≤ k) : w0.grownBy w' none :=
  ⟨h.os.trans g.os, h.tape.trans g.tape, h.output.trans g.output, Nat.le_trans g.size h.size, fun i hi _ => (h.block i (Nat.lt_of_lt_of_le hi g.size) (by omega) (fun e => by have := hm i e.symm; omega)).trans (g.block i hi (by simp))⟩
theorem SlB.keptT {w w' : World} {v : Value} {l : List UInt8} {b : Nat} {m : Option Nat} (h : SlB w v l) (g : TG w w' b m) (h1 : v.ownBlock ≠ some b) (h2 : ∀ k, m = some k → v.ownBlock ≠ some k) : SlB w' v l := by
  obtain ⟨wm, g1, g2⟩ := g.split
  exact (h.kept g1 (fun k e => .inr (by cases e; exact h1))).kept g2 (fun k e => .inr (h2 k e))
theorem Own.keptT {w w' : World} {base : Nat} {v : Value} {l : List UInt8} {b : Nat} {m : Option Nat} (h : Own w base v l) (g : TG w w' b m) (h1 : v.ownBlock ≠ some b) (h2 : m = none ∨ v.ownBlock ≠ m) : Own w' base v l := by
  obtain ⟨wm, g1, g2⟩ := g.split
  exact (h.kept g1 (.inr h1)).kept g2 h2

theorem lawS : Keyed Tryd.prog 9 := string_keyed Tryd.underlying9
theorem zeroI (w : World) : (zeroValue 3).run Tryd.prog w = .ok (.int .i64 0) w := by kernel_rfl
theorem keyS (s : ByteArray) (h : s.size ≤ maxLen) : keyOf Tryd.prog 9 (.string s) = some (.string s.data.toList) := by
  simp [keyOf, mapKey, Tryd.underlying9, h]
/-- The block bm is a map that holds just the table T. -/
def MapT (w : World) (bm : Nat) (T : Tb) : Prop :=
  ∃ D : DataW Unit, w.ownsMap Tryd.prog 9 (plainElem Tryd.prog 3) bm T.length D ∧ ∀ s : ByteArray, (∀ p, tget T s = some p → Maps.has D (.string s.data.toList) = true ∧ ∀ z, D.atKey (.string s.data.toList) z = .lit (.int .i64 p)) ∧ (tget T s = none → Maps.has D (.string s.data.toList) = false)
theorem lit_ne {s s' : ByteArray} (h : s' ≠ s) : (Lit.string s'.data.toList) ≠ .string s.data.toList := by
  intro e
  simp only [Lit.string.injEq] at e
  refine h ?_
  cases s; cases s'
  simp at e
  rw [e]
theorem MapT.kept {w w' : World} {bm : Nat} {T : Tb} {row : Option Nat} (h : MapT w bm T) (g : w.grownBy w' row) (hr : some bm ≠ row) : MapT w' bm T := by
  obtain ⟨D, hD, hA⟩ := h
  exact ⟨D, hD.kept g hr, hA⟩
theorem MapT.lt {w : World} {bm : Nat} {T : Tb} (h : MapT w bm T) : bm < w.heap.size := by obtain ⟨D, hD, _⟩ := h; exact hD.lt
theorem MapT.look {w : World} {bm : Nat} {T : Tb} (h : MapT w bm T) (s : ByteArray) (hs : s.size ≤ maxLen) : (Instr.lookup 67 (.map (some bm)) (.string s) true).run Tryd.prog w = .ok (.tuple #[.int .i64 (((tget T s).getD 0 : Nat) : Int), .bool (tget T s).isSome]) w := by
  obtain ⟨D, hD, hA⟩ := h
  obtain ⟨v, ps, hr, hv⟩ := hD.look_ok (t := 67) (e := 3) lawS Tryd.underlying67 (zeroI w) (plainElem_int Tryd.underlying3 (by decide)) (keyS s hs)
  rw [hr]
  obtain ⟨h1, h2⟩ := hA s
  cases hT : tget T s with
  | none =>
    have e1 := h2 hT
    rw [atKey_of_not_has e1] at hv
    obtain ⟨a, rfl, e2, _⟩ := plainElem_int_inv Tryd.underlying3 hv
    simp only [Prod.mk.injEq, DataW.lit.injEq, Lit.int.injEq, true_and] at e2
    rw [e1, ← e2.1]
    rfl
  | some p =>
    obtain ⟨e1, e3⟩ := h1 p hT
    rw [e3] at hv
    obtain ⟨a, rfl, e2, _⟩ := plainElem_int_inv Tryd.underlying3 hv
    simp only [Prod.mk.injEq, DataW.lit.injEq, Lit.int.injEq, true_and] at e2
    rw [e1, ← e2.1]
    rfl
theorem look_none (w : World) (s : ByteArray) (hs : s.size ≤ maxLen) : (Instr.lookup 67 (.map none) (.string s) true).run Tryd.prog w = .ok (.tuple #[.int .i64 0, .bool false]) w :=
  look_nil (w := w) true lawS Tryd.underlying67 (zeroI w) (keyS s hs)
theorem MapT.store {w : World} {bm : Nat} {T : Tb} (h : MapT w bm T) (s : ByteArray) (p : Nat) (hs : s.size ≤ maxLen) (hp : p ≤ 1000000) (hn : tget T s = none) (hT : T.length ≤ 1000000) :
    ∃ w', (Instr.mapUpdate 67 (.map (some bm)) (.string s) (.int .i64 p)).run Tryd.prog w = .ok () w' ∧ MapT w' bm (T ++ [(s, p)]) ∧ w.grownBy w' (some bm) := by
  obtain ⟨D, hD, hA⟩ := h
  have hw : (Lit.int .i64 (p : Int)).wf = true := by
    show (decide ((-9223372036854775808 : Int) ≤ (p : Int)) && decide ((p : Int) ≤ 9223372036854775807)) = true
    simp
    omega
  obtain ⟨w', hr, ho, ht⟩ := hD.store (t := 67) (e := 3) lawS Tryd.underlying67 (by unfold maxLen; omega) (keyS s hs) (plainElem_int Tryd.underlying3 hw)
  refine ⟨w', hr, ⟨_, by simpa using ho, fun s' => ?_⟩, ht.grown⟩
  have hkl : WideAt.IsKeyLit (Lit.string s.data.toList) := trivial
  by_cases he : s' = s
  · subst he
    rw [tget_snoc_same hn]
    refine ⟨fun q hq => ?_, fun h => by cases h⟩
    cases hq
    exact ⟨has_put_same hD.isMap hkl _, fun z => atKey_put_same hD.isMap hkl _ _⟩
  · rw [tget_snoc_other he, has_put_other (lit_ne he)]
    refine ⟨fun q hq => ?_, (hA s').2⟩
    obtain ⟨h1, h2⟩ := (hA s').1 q hq
    exact ⟨h1, fun z => by rw [atKey_put_other (lit_ne he)]; exact h2 z⟩
theorem MapT.new (w : World) : MapT (w.alloc (.map #[] 0)) w.heap.size [] :=
  ⟨.map [], World.ownsMap_made w _ _ _, fun s => ⟨fun p hp => (by cases hp), fun _ => rfl⟩⟩

/-- The table at block b, its map in block m, holds T. -/
structure Tab (w : World) (b : Nat) (m : Option Nat) (T : Tb) : Prop where
  cell : w.heap[b]? = some (.cells #[.map m] 69 (0, 0))
  none : m = none → T = []
  some : ∀ bm, m = some bm → MapT w bm T ∧ bm ≠ b
  low : Low T
theorem Tab.kept {w w' : World} {b : Nat} {m : Option Nat} {T : Tb} {row : Option Nat} (h : Tab w b m T) (g : w.grownBy w' row) (h1 : row ≠ .some b) (h2 : row = .none ∨ row ≠ m) : Tab w' b m T :=
  ⟨gblock g h.cell (fun e => h1 e.symm), h.none, fun bm e => ⟨(h.some bm e).1.kept g (fun x => by
    rcases h2 with h2 | h2
    · rw [h2] at x; cases x
    · exact h2 (by rw [← x, e])), (h.some bm e).2⟩, h.low⟩
theorem Tab.kept0 {w w' : World} {b : Nat} {m : Option Nat} {T : Tb} (h : Tab w b m T) (g : w.grownBy w' .none) : Tab w' b m T := h.kept g (by simp) (.inl rfl)
theorem Tab.look {w : World} {b : Nat} {m : Option Nat} {T : Tb} (h : Tab w b m T) (s : ByteArray) (hs : s.size ≤ maxLen) : (Instr.lookup 67 (.map m) (.string s) true).run Tryd.prog w = .ok (.tuple #[.int .i64 (((tget T s).getD 0 : Nat) : Int), .bool (tget T s).isSome]) w := by
  cases m with
  | none => rw [h.none rfl]; exact look_none w s hs
  | some bm => exact (h.some bm rfl).1.look s hs

theorem tnew_any (w : World) : Calls Tryd.prog 15 #[] w fun e w' => ∃ b, e = .returned (.pointer (some ⟨b, 0, none⟩)) ∧ w.heap.size ≤ b ∧ Tab w' b none [] ∧ w.grownBy w' none := by
  go_enter Tryd.func15, Tryd.ntmps15
  go_wp2
  go_ret
  exact ⟨_, rfl, Nat.le_refl _, ⟨balloc _ _, fun _ => rfl, fun _ e => (by cases e), Low.nil⟩, galloc (grefl _ _) _⟩

theorem eqm_none (w : World) : (binOp .eql 67 (.map none) (.map none)).run Tryd.prog w = .ok (.bool true) w := by kernel_rfl
theorem mkm (w : World) : (Instr.makeMap 67 none).run Tryd.prog w = .ok (.map (some w.heap.size)) (w.alloc (.map #[] 0)) := by kernel_rfl
theorem eqm_some (k : Nat) (w : World) : (binOp .eql 67 (.map (some k)) (.map none)).run Tryd.prog w = .ok (.bool false) w := by kernel_rfl

set_option maxRecDepth 100000 in
theorem tadd_any (b : Nat) (m : Option Nat) (T : Tb) (s : ByteArray) (p : Nat) (w : World) (h : Tab w b m T) (hs : s.size ≤ 1000000) (hp : p ≤ 16383) (hn : tget T s = none) (hT : T.length ≤ 1000000) :
    Calls Tryd.prog 39 #[.pointer (some ⟨b, 0, none⟩), .string s, .int .i64 p] w fun e w' => e = .returned (.tuple #[]) ∧ ∃ m', Tab w' b m' (T ++ [(s, p)]) ∧ TG w w' b m ∧ (∀ i, m' = some i → m = some i ∨ w.heap.size ≤ i) := by
  have hs' : s.size ≤ maxLen := by unfold maxLen; omega
  have hb := blt h.cell
  have HT := Lib.hid h
  have c0 : w.cell? ⟨b, 0, none⟩ = some (.map m) := bcellAt h.cell 0
  have f0 : w.frozen? ⟨b, 0, none⟩ = false := bfree h.cell 0
  clear h
  cases m with
  | none =>
    obtain rfl := HT.out.none rfl
    have e1 := eqm_none w
    have e2 := mkm w
    have c1 : (w.alloc (.map #[] 0)).frozen? ⟨b, 0, none⟩ = false := bfree (gblock (galloc (grefl w none) _) HT.out.cell (by simp)) 0
    have c3 : (w.alloc (.map #[] 0)).cell? ⟨b, 0, none⟩ = some (.map none) := bcellAt (gblock (galloc (grefl w none) _) HT.out.cell (by simp)) 0
    have hM0 : MapT ((w.setCell ⟨b, 0, none⟩ (.map (some w.heap.size))).alloc (.map #[] 0)) w.heap.size [] := by
      have h0 := MapT.new (w.setCell ⟨b, 0, none⟩ (.map (some w.heap.size)))
      rwa [show (w.setCell ⟨b, 0, none⟩ (.map (some w.heap.size))).heap.size = w.heap.size by simp [World.setCell]] at h0
    obtain ⟨w1, hr, hM, hg⟩ := hM0.store s p hs' (by omega) rfl (by simp)
    have hB0 : ((w.setCell ⟨b, 0, none⟩ (.map (some w.heap.size))).alloc (.map #[] 0)).heap[b]? = some (.cells #[.map (some w.heap.size)] 69 (0, 0)) := gblock (galloc (grefl _ none) _) ((bset HT.out.cell 0 _).trans (by simp)) (by simp)
    have HZ := Lib.hid (show Tab w1 b (some w.heap.size) [(s, p)] ∧ TG w w1 b none from ⟨⟨gblock hg hB0 (by simp; omega), fun e => (by cases e), fun bm e => (by cases e; exact ⟨hM, by omega⟩), Low.nil.snoc hp⟩,
      TG.trans (TG.ofB (galloc (gset (grefl w (some b)) (.inl rfl) _) _) none) (TG.ofM hg b) (fun i e => by cases e; exact .inr (Nat.le_refl _))⟩)
    clear hM hg hM0 hB0
    go_enter Tryd.func39, Tryd.ntmps39
    go_wp2_with fail
    go_end0
    exact ⟨rfl, some w.heap.size, HZ.out.1, HZ.out.2, fun i e => by cases e; exact .inr (Nat.le_refl _)⟩
  | some bm =>
    have e1 := eqm_some bm w
    obtain ⟨w1, hr, hM, hg⟩ := (HT.out.some bm rfl).1.store s p hs' (by omega) hn hT
    have HZ := Lib.hid (show Tab w1 b (some bm) (T ++ [(s, p)]) ∧ TG w w1 b (some bm) from ⟨⟨gblock hg HT.out.cell (fun e => (HT.out.some bm rfl).2 (by simpa using e.symm)), fun e => (by cases e), fun bm' e => (by cases e; exact ⟨hM, (HT.out.some bm rfl).2⟩), HT.out.low.snoc hp⟩, TG.ofM hg b⟩)
    clear hM hg
    go_enter Tryd.func39, Tryd.ntmps39
    go_wp2_with fail
    go_end0
    exact ⟨rfl, _, HZ.out.1, HZ.out.2, fun i e => .inl e⟩
end Go.Proofs.YtijjfdmklbncbaaDoor
