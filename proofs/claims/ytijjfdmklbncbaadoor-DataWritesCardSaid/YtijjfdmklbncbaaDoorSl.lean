/-
  Slices of elements of k cells each: a slice value that reads as cells ('Sl'), one that lies in a block of the call's own ('FS'). Results in a cell and a slot. Nothing of the program stands here.
-/
import Derived.Test.YtijjfdmklbncbaaDoorWalk
import Derived.Test.YtijjfdmklbncbaaDoorBytes
import Derived.Laws.Rows
import Derived.Laws.Tables
import Derived.Laws.OwnMore
namespace Go.Proofs.YtijjfdmklbncbaaDoor
open Go.RowKit

theorem flat_len {α : Type} (f : α → List Value) (k : Nat) (hf : ∀ a, (f a).length = k) : ∀ l : List α, (l.flatMap f).length = l.length * k
  | [] => by simp
  | a :: l => by rw [List.flatMap_cons, List.length_append, hf, flat_len f k hf l, List.length_cons, Nat.succ_mul, Nat.add_comm]
theorem flat_get {α : Type} (f : α → List Value) (k : Nat) (hf : ∀ a, (f a).length = k) : ∀ (l : List α) (i j : Nat) (_ : j < k) (a : α) (_ : l[i]? = some a), (l.flatMap f)[i * k + j]? = (f a)[j]?
  | [], i, j, _, a, h => by simp at h
  | b :: l, 0, j, hj, a, h => by
    have hb : b = a := by simpa using h
    subst hb
    rw [List.flatMap_cons, Nat.zero_mul, Nat.zero_add, List.getElem?_append_left (by rw [hf]; exact hj)]
  | b :: l, i + 1, j, hj, a, h => by
    have h' : l[i]? = some a := by simpa using h
    rw [List.flatMap_cons, List.getElem?_append_right (by rw [hf, Nat.succ_mul]; omega), hf, Nat.succ_mul]
    rw [show i * k + k + j - k = i * k + j by omega]
    exact flat_get f k hf l i j hj a h'

/-- The slice value v has n elements of k cells each; the cells are xs. -/
def Sl (w : World) (k : Nat) (v : Value) (n : Nat) (xs : List Value) : Prop :=
  ∃ A cap, v = .slice A n cap ∧ n ≤ cap ∧ xs.length = n * k ∧ (A = none → n = 0 ∧ cap = 0) ∧ (0 < n → ∃ b off, A = some ⟨b, off, none⟩ ∧ ∀ j u, xs[j]? = some u → w.cell? ⟨b, off + j, none⟩ = some u)
theorem Sl.kept {w w' : World} {k n : Nat} {v : Value} {xs : List Value} {row : Option Nat} (h : Sl w k v n xs) (g : w.grownBy w' row) (hr : ∀ b, row = some b → w.heap.size ≤ b ∨ v.ownBlock ≠ some b) : Sl w' k v n xs := by
  obtain ⟨A, cap, rfl, h1, h2, h3, h4⟩ := h
  refine ⟨A, cap, rfl, h1, h2, h3, fun hn => ?_⟩
  obtain ⟨b, off, rfl, hc⟩ := h4 hn
  refine ⟨b, off, rfl, fun j u hu => g.cell (hc j u hu) ?_⟩
  intro e
  rcases hr _ e.symm with h | h
  · have := World.block_lt_of_cell? w _ (hc j u hu)
    simp at this
    simp at h
    omega
  · exact h rfl
theorem Sl.kept0 {w w' : World} {k n : Nat} {v : Value} {xs : List Value} (h : Sl w k v n xs) (g : w.grownBy w' none) : Sl w' k v n xs := h.kept g (fun _ e => by cases e)
theorem Sl.nil (w : World) (k : Nat) : Sl w k (.slice none 0 0) 0 [] := ⟨none, 0, rfl, by omega, by simp, by simp, by omega⟩

/-- The slice value v lies in a block from 'base' on that nobody else has. -/
def FS (w : World) (base : Nat) (e : TypeId) (k : Nat) (v : Value) (n : Nat) (xs : List Value) : Prop :=
  xs.length = n * k ∧ ((v = .slice none 0 0 ∧ n = 0) ∨ ∃ g cap cur, v = .slice (some ⟨g, 0, none⟩) n cap ∧ base ≤ g ∧ w.heap[g]? = some (.cells cur e (0, 0)) ∧ n ≤ cap ∧ cap * k ≤ cur.size ∧ cur.toList.take (n * k) = xs)
theorem FS.of {w : World} {base k n : Nat} {e : TypeId} {v : Value} {xs : List Value} (h : w.ownsRow base e k v n xs) : FS w base e k v n xs := by
  refine ⟨h.1, ?_⟩
  rcases h.2 with h2 | ⟨g, cap, cur, h3, h4, h5, h6, h7, h8, h9⟩
  · exact .inl h2
  · exact .inr ⟨g, cap, cur, h3, h4, h5, h6, by omega, h9⟩
theorem FS.cut {w : World} {base k n g cap : Nat} {e : TypeId} {xs : List Value} (h : w.ownsRow base e k (.slice (some ⟨g, 0, none⟩) n cap) n xs) : FS w base e k (.slice (some ⟨g, 0, none⟩) n n) n xs := by
  refine ⟨h.1, ?_⟩
  rcases h.2 with ⟨h2, _⟩ | ⟨g', cap', cur, h3, h4, h5, h6, h7, h8, h9⟩
  · simp at h2
  · simp only [Value.slice.injEq, Option.some.injEq, Addr.mk.injEq, and_true, true_and] at h3
    obtain ⟨rfl, rfl⟩ := h3
    exact .inr ⟨g, n, cur, rfl, h4, h5, Nat.le_refl _, by rw [h8]; exact Nat.mul_le_mul_right k h6, h9⟩
theorem FS.sl {w : World} {base k n : Nat} {e : TypeId} {v : Value} {xs : List Value} (h : FS w base e k v n xs) : Sl w k v n xs := by
  rcases h.2 with ⟨rfl, rfl⟩ | ⟨g, cap, cur, rfl, h4, h5, h6, h7, h8⟩
  · have : xs = [] := List.eq_nil_of_length_eq_zero (by simpa using h.1)
    subst this
    exact Sl.nil w k
  · refine ⟨_, _, rfl, h6, h.1, by simp, fun _ => ⟨g, 0, rfl, fun j u hu => ?_⟩⟩
    have hj : j < n * k := by
      have := (List.getElem?_eq_some_iff.1 hu).1
      rwa [h.1] at this
    rw [bcellAt h5, ← Array.getElem?_toList]
    rw [← h8, List.getElem?_take_of_lt hj] at hu
    simpa using hu
theorem FS.kept {w w' : World} {base k n : Nat} {e : TypeId} {v : Value} {xs : List Value} {row : Option Nat} (h : FS w base e k v n xs) (g : w.grownBy w' row) (hr : v.ownBlock = none ∨ v.ownBlock ≠ row) : FS w' base e k v n xs := by
  refine ⟨h.1, ?_⟩
  rcases h.2 with h2 | ⟨b, cap, cur, rfl, h4, h5, h6⟩
  · exact .inl h2
  · refine .inr ⟨b, cap, cur, rfl, h4, gblock g h5 ?_, h6⟩
    rcases hr with hr | hr
    · simp [Value.ownBlock] at hr
    · simpa [Value.ownBlock] using hr
theorem FS.kept0 {w w' : World} {base k n : Nat} {e : TypeId} {v : Value} {xs : List Value} (h : FS w base e k v n xs) (g : w.grownBy w' none) : FS w' base e k v n xs :=
  h.kept g (by cases v.ownBlock <;> simp)
theorem FS.mono {w : World} {base base' k n : Nat} {e : TypeId} {v : Value} {xs : List Value} (h : FS w base e k v n xs) (hb : base' ≤ base) : FS w base' e k v n xs := by
  refine ⟨h.1, ?_⟩
  rcases h.2 with h2 | ⟨b, cap, cur, rfl, h4, h5⟩
  · exact .inl h2
  · exact .inr ⟨b, cap, cur, rfl, by omega, h5⟩
theorem FS.len {w : World} {base k n : Nat} {e : TypeId} {v : Value} {xs : List Value} (h : FS w base e k v n xs) : ∃ A cap, v = .slice A n cap := by
  rcases h.2 with ⟨rfl, rfl⟩ | ⟨b, cap, cur, rfl, h4, h5⟩
  · exact ⟨_, _, rfl⟩
  · exact ⟨_, _, rfl⟩
theorem own_kept {w w' : World} {base k n : Nat} {e : TypeId} {v : Value} {xs : List Value} {b : Nat} (h : w.ownsRow base e k v n xs) (g : w.grownBy w' (some b)) (hb : b < base) : w'.ownsRow base e k v n xs := by
  refine World.ownsRow.kept h g ?_
  by_cases hv : v.ownBlock = some b
  · have := (World.ownsRow.lt h b hv).1
    omega
  · exact .inr hv
theorem own_kept0 {w w' : World} {base k n : Nat} {e : TypeId} {v : Value} {xs : List Value} (h : w.ownsRow base e k v n xs) (g : w.grownBy w' none) : w'.ownsRow base e k v n xs :=
  World.ownsRow.kept h g (by cases v.ownBlock <;> simp)

/-- Two results: a struct that lies in a block, and a slot. -/
theorem results_cr {P : Program} {fn : Func} {p r : Tmp} {ty : TypeId} (h : fn.results = #[.cell p ty, .tmp r]) (tmps : Array Value) (w : World) (g : Nat) (t : TypeId) (cs : Array Value) (fr : Nat × Nat) (d : TypeDesc)
    (hp : tmps.getD p undef = .pointer (some ⟨g, 0, none⟩)) (hg : w.heap[g]? = some (.cells cs t fr)) (hu : P.underlying ty = some d) (hd : (match d with | .struct _ | .array _ _ => true | _ => false) = true) (hi : (P.info? ty).map (·.size) = some cs.size) :
    (results fn tmps).run P w = .ok (.tuple #[.agg cs, tmps.getD r undef]) w := by
  have hp' : tmps[p]?.getD undef = .pointer (some ⟨g, 0, none⟩) := by simpa using hp
  simp [results, h, hp', asAddr, run_loadVar_row w g t ty cs fr d hg hu hd hi]
theorem gsetR {a w : World} {g : Nat} (h : a.grownBy w none) (hg : a.heap.size ≤ g) (cs : Array Value) : a.grownBy (w.setRow g cs) none :=
  ⟨h.os, h.tape, h.output, by simpa [World.setRow] using h.size, fun i hi hn => (setRow_other w g i cs (by omega)).trans (h.block i hi hn)⟩
theorem gsetRs (w : World) (g : Nat) (cs : Array Value) : w.grownBy (w.setRow g cs) (some g) :=
  ⟨rfl, rfl, rfl, by simp [World.setRow], fun i _ hn => setRow_other w g i cs (fun e => hn (by rw [e]))⟩
theorem bsetR {w : World} {g : Nat} {c : Array Value} {t : TypeId} {z : Nat × Nat} (h : w.heap[g]? = some (.cells c t z)) (cs : Array Value) : (w.setRow g cs).heap[g]? = some (.cells cs t z) := by
  simp [World.setRow, Array.getElem?_modify, h]
theorem gstepo {a w w' : World} {b : Nat} (h : a.grownBy w none) (g : w.grownBy w' (some b)) (hb : a.heap.size ≤ b) : a.grownBy w' none :=
  ⟨g.os.trans h.os, g.tape.trans h.tape, g.output.trans h.output, Nat.le_trans h.size g.size, fun i hi hn => (g.block i (Nat.lt_of_lt_of_le hi h.size) (by simp; omega)).trans (h.block i hi hn)⟩
theorem bset2_ {w : World} {k : Nat} {a0 a1 : Value} {t : TypeId} {z : Nat × Nat} (h : w.heap[k]? = some (.cells #[a0, a1] t z)) (v0 v1 : Value) : ((w.setCell ⟨k, 0, none⟩ v0).setCell ⟨k, 1, none⟩ v1).heap[k]? = some (.cells #[v0, v1] t z) :=
  bset (bset (h) 0 v0) 1 v1
theorem gset2_ (w : World) (k : Nat) (v0 v1 : Value) : w.grownBy ((w.setCell ⟨k, 0, none⟩ v0).setCell ⟨k, 1, none⟩ v1) (some k) :=
  gset (gset (grefl w (some k)) (p := ⟨k, 0, none⟩) (.inl rfl) v0) (p := ⟨k, 1, none⟩) (.inl rfl) v1
theorem bset3_ {w : World} {k : Nat} {a0 a1 a2 : Value} {t : TypeId} {z : Nat × Nat} (h : w.heap[k]? = some (.cells #[a0, a1, a2] t z)) (v0 v1 v2 : Value) : (((w.setCell ⟨k, 0, none⟩ v0).setCell ⟨k, 1, none⟩ v1).setCell ⟨k, 2, none⟩ v2).heap[k]? = some (.cells #[v0, v1, v2] t z) :=
  bset (bset (bset (h) 0 v0) 1 v1) 2 v2
theorem gset3_ (w : World) (k : Nat) (v0 v1 v2 : Value) : w.grownBy (((w.setCell ⟨k, 0, none⟩ v0).setCell ⟨k, 1, none⟩ v1).setCell ⟨k, 2, none⟩ v2) (some k) :=
  gset (gset (gset (grefl w (some k)) (p := ⟨k, 0, none⟩) (.inl rfl) v0) (p := ⟨k, 1, none⟩) (.inl rfl) v1) (p := ⟨k, 2, none⟩) (.inl rfl) v2
theorem bset4_ {w : World} {k : Nat} {a0 a1 a2 a3 : Value} {t : TypeId} {z : Nat × Nat} (h : w.heap[k]? = some (.cells #[a0, a1, a2, a3] t z)) (v0 v1 v2 v3 : Value) : ((((w.setCell ⟨k, 0, none⟩ v0).setCell ⟨k, 1, none⟩ v1).setCell ⟨k, 2, none⟩ v2).setCell ⟨k, 3, none⟩ v3).heap[k]? = some (.cells #[v0, v1, v2, v3] t z) :=
  bset (bset (bset (bset (h) 0 v0) 1 v1) 2 v2) 3 v3
theorem gset4_ (w : World) (k : Nat) (v0 v1 v2 v3 : Value) : w.grownBy ((((w.setCell ⟨k, 0, none⟩ v0).setCell ⟨k, 1, none⟩ v1).setCell ⟨k, 2, none⟩ v2).setCell ⟨k, 3, none⟩ v3) (some k) :=
  gset (gset (gset (gset (grefl w (some k)) (p := ⟨k, 0, none⟩) (.inl rfl) v0) (p := ⟨k, 1, none⟩) (.inl rfl) v1) (p := ⟨k, 2, none⟩) (.inl rfl) v2) (p := ⟨k, 3, none⟩) (.inl rfl) v3
theorem bset5_ {w : World} {k : Nat} {a0 a1 a2 a3 a4 : Value} {t : TypeId} {z : Nat × Nat} (h : w.heap[k]? = some (.cells #[a0, a1, a2, a3, a4] t z)) (v0 v1 v2 v3 v4 : Value) : (((((w.setCell ⟨k, 0, none⟩ v0).setCell ⟨k, 1, none⟩ v1).setCell ⟨k, 2, none⟩ v2).setCell ⟨k, 3, none⟩ v3).setCell ⟨k, 4, none⟩ v4).heap[k]? = some (.cells #[v0, v1, v2, v3, v4] t z) :=
  bset (bset (bset (bset (bset (h) 0 v0) 1 v1) 2 v2) 3 v3) 4 v4
theorem gset5_ (w : World) (k : Nat) (v0 v1 v2 v3 v4 : Value) : w.grownBy (((((w.setCell ⟨k, 0, none⟩ v0).setCell ⟨k, 1, none⟩ v1).setCell ⟨k, 2, none⟩ v2).setCell ⟨k, 3, none⟩ v3).setCell ⟨k, 4, none⟩ v4) (some k) :=
  gset (gset (gset (gset (gset (grefl w (some k)) (p := ⟨k, 0, none⟩) (.inl rfl) v0) (p := ⟨k, 1, none⟩) (.inl rfl) v1) (p := ⟨k, 2, none⟩) (.inl rfl) v2) (p := ⟨k, 3, none⟩) (.inl rfl) v3) (p := ⟨k, 4, none⟩) (.inl rfl) v4
theorem bset6_ {w : World} {k : Nat} {a0 a1 a2 a3 a4 a5 : Value} {t : TypeId} {z : Nat × Nat} (h : w.heap[k]? = some (.cells #[a0, a1, a2, a3, a4, a5] t z)) (v0 v1 v2 v3 v4 v5 : Value) : ((((((w.setCell ⟨k, 0, none⟩ v0).setCell ⟨k, 1, none⟩ v1).setCell ⟨k, 2, none⟩ v2).setCell ⟨k, 3, none⟩ v3).setCell ⟨k, 4, none⟩ v4).setCell ⟨k, 5, none⟩ v5).heap[k]? = some (.cells #[v0, v1, v2, v3, v4, v5] t z) :=
  bset (bset (bset (bset (bset (bset (h) 0 v0) 1 v1) 2 v2) 3 v3) 4 v4) 5 v5
theorem gset6_ (w : World) (k : Nat) (v0 v1 v2 v3 v4 v5 : Value) : w.grownBy ((((((w.setCell ⟨k, 0, none⟩ v0).setCell ⟨k, 1, none⟩ v1).setCell ⟨k, 2, none⟩ v2).setCell ⟨k, 3, none⟩ v3).setCell ⟨k, 4, none⟩ v4).setCell ⟨k, 5, none⟩ v5) (some k) :=
  gset (gset (gset (gset (gset (gset (grefl w (some k)) (p := ⟨k, 0, none⟩) (.inl rfl) v0) (p := ⟨k, 1, none⟩) (.inl rfl) v1) (p := ⟨k, 2, none⟩) (.inl rfl) v2) (p := ⟨k, 3, none⟩) (.inl rfl) v3) (p := ⟨k, 4, none⟩) (.inl rfl) v4) (p := ⟨k, 5, none⟩) (.inl rfl) v5
theorem own_shape {w : World} {base k n : Nat} {e : TypeId} {v : Value} {xs : List Value} (h : w.ownsRow base e k v n xs) : ∃ A cap, v = .slice A n cap ∧ n ≤ cap ∧ cap ≤ maxLen := by
  rcases h.2 with ⟨rfl, rfl⟩ | ⟨g, cap, cur, rfl, _, _, h6, h7, _⟩
  · exact ⟨none, 0, rfl, Nat.le_refl _, by unfold maxLen; omega⟩
  · exact ⟨_, cap, rfl, h6, h7⟩
theorem FS.cut' {w : World} {base k n cap : Nat} {e : TypeId} {A : Option Addr} {xs : List Value} (h : w.ownsRow base e k (.slice A n cap) n xs) : FS w base e k (.slice A n n) n xs := by
  rcases h.2 with ⟨h2, rfl⟩ | ⟨g, cap', cur, h3, _⟩
  · simp only [Value.slice.injEq] at h2
    obtain ⟨rfl, _, rfl⟩ := h2
    exact FS.of h
  · simp only [Value.slice.injEq] at h3
    obtain ⟨rfl, _, rfl⟩ := h3
    exact FS.cut h
end Go.Proofs.YtijjfdmklbncbaaDoor
