/-
  Slices of elements of k cells each: a slice value that reads as cells ('Sl'), one that lies in a block of the call's own ('FS'). Results in a cell and a slot. Nothing of the program stands here.
  append onto bytes of the call's own: from a slice of bytes, from a string, of bytes written out. make([]byte, 0, n).
  append of elements of k cells at a step of a region that draws its order.
  append(b, make([]byte, n)...) onto bytes of the call's own: the translation hands the builtin the number n.
  Arguments opened: numbers as natural numbers, slices of bytes.
  Arguments opened: structs and arrays by value whose parts are of one cell each.
  A slice of structs whose parts are of one cell each, opened: the elements as a list.
-/
import Derived.Test.YthgendgmlpaglaaDoorA1
import Derived.Laws.Rows
import Derived.Laws.Tables
import Derived.Laws.OwnMore
import Derived.Lib.AppendStr
import Derived.Laws.AppendOwnNone
import Derived.Deep.RegionHeld3
import Derived.Lib.AppendZeros
import Derived.Test.YthgendgmlpaglaaDoorLaw
import Derived.ChangeSlices
import Derived.Deep.Fields
import Derived.OpenShut
import Derived.Deep.SlicePairs
namespace Go.Proofs.YthgendgmlpaglaaDoor
open Go.RowKit

theorem flat_len {α : Type} (f : α → List Value) (k : Nat) (hf : ∀ a, (f a).length = k) : ∀ l : List α, (l.flatMap f).length = l.length * k
  | [] => by simp
  | a :: l => by rw [List.flatMap_cons, List.length_append, hf, flat_len f k hf l, List.length_cons, Nat.succ_mul, Nat.add_comm]
theorem flat_get {α : Type} (f : α → List Value) (k : Nat) (hf : ∀ a, (f a).length = k) : ∀ (l : List α) (i j : Nat) (_ : j < k) (a : α) (_ : l[i]? = some a), (l.flatMap f)[i * k + j]? = (f a)[j]?
  | [], i, j, _, a, h => by simp at h
  | b :: l, 0, j, hj, a, h => by
    have hb : b = a := by simpa using h
    subst hb
    rw [List.flatMap_cons, Nat.zero_mul, Nat.zero_add, List.getElem?_append_left (by rw [hf]; exact hj)]
  | b :: l, i + 1, j, hj, a, h => by
    have h' : l[i]? = some a := by simpa using h
    rw [List.flatMap_cons, List.getElem?_append_right (by rw [hf, Nat.succ_mul]; omega), hf, Nat.succ_mul]
    rw [show i * k + k + j - k = i * k + j by omega]
    exact flat_get f k hf l i j hj a h'

/-- The slice value v has n elements of k cells each; the cells are xs. -/
def Sl (w : World) (k : Nat) (v : Value) (n : Nat) (xs : List Value) : Prop :=
  ∃ A cap, v = .slice A n cap ∧ n ≤ cap ∧ xs.length = n * k ∧ (A = none → n = 0 ∧ cap = 0) ∧ (0 < n → ∃ b off, A = some ⟨b, off, none⟩ ∧ ∀ j u, xs[j]? = some u → w.cell? ⟨b, off + j, none⟩ = some u)
theorem Sl.kept {w w' : World} {k n : Nat} {v : Value} {xs : List Value} {row : Option Nat} (h : Sl w k v n xs) (g : w.grownBy w' row) (hr : ∀ b, row = some b → w.heap.size ≤ b ∨ v.ownBlock ≠ some b) : Sl w' k v n xs := by
  obtain ⟨A, cap, rfl, h1, h2, h3, h4⟩ := h
  refine ⟨A, cap, rfl, h1, h2, h3, fun hn => ?_⟩
  obtain ⟨b, off, rfl, hc⟩ := h4 hn
  refine ⟨b, off, rfl, fun j u hu => g.cell (hc j u hu) ?_⟩
  intro e
  rcases hr _ e.symm with h | h
  · have := World.block_lt_of_cell? w _ (hc j u hu)
    simp at this
    simp at h
    omega
  · exact h rfl
theorem Sl.kept0 {w w' : World} {k n : Nat} {v : Value} {xs : List Value} (h : Sl w k v n xs) (g : w.grownBy w' none) : Sl w' k v n xs := h.kept g (fun _ e => by cases e)
theorem Sl.nil (w : World) (k : Nat) : Sl w k (.slice none 0 0) 0 [] := ⟨none, 0, rfl, by omega, by simp, by simp, by omega⟩

/-- The slice value v lies in a block from 'base' on that nobody else has. -/
def FS (w : World) (base : Nat) (e : TypeId) (k : Nat) (v : Value) (n : Nat) (xs : List Value) : Prop :=
  xs.length = n * k ∧ ((v = .slice none 0 0 ∧ n = 0) ∨ ∃ g cap cur, v = .slice (some ⟨g, 0, none⟩) n cap ∧ base ≤ g ∧ w.heap[g]? = some (.cells cur e (0, 0)) ∧ n ≤ cap ∧ cap * k ≤ cur.size ∧ cur.toList.take (n * k) = xs)
theorem FS.of {w : World} {base k n : Nat} {e : TypeId} {v : Value} {xs : List Value} (h : w.ownsRow base e k v n xs) : FS w base e k v n xs := by
  refine ⟨h.1, ?_⟩
  rcases h.2 with h2 | ⟨g, cap, cur, h3, h4, h5, h6, h7, h8, h9⟩
  · exact .inl h2
  · exact .inr ⟨g, cap, cur, h3, h4, h5, h6, by omega, h9⟩
theorem FS.cut {w : World} {base k n g cap : Nat} {e : TypeId} {xs : List Value} (h : w.ownsRow base e k (.slice (some ⟨g, 0, none⟩) n cap) n xs) : FS w base e k (.slice (some ⟨g, 0, none⟩) n n) n xs := by
  refine ⟨h.1, ?_⟩
  rcases h.2 with ⟨h2, _⟩ | ⟨g', cap', cur, h3, h4, h5, h6, h7, h8, h9⟩
  · simp at h2
  · simp only [Value.slice.injEq, Option.some.injEq, Addr.mk.injEq, and_true, true_and] at h3
    obtain ⟨rfl, rfl⟩ := h3
    exact .inr ⟨g, n, cur, rfl, h4, h5, Nat.le_refl _, by rw [h8]; exact Nat.mul_le_mul_right k h6, h9⟩
theorem FS.sl {w : World} {base k n : Nat} {e : TypeId} {v : Value} {xs : List Value} (h : FS w base e k v n xs) : Sl w k v n xs := by
  rcases h.2 with ⟨rfl, rfl⟩ | ⟨g, cap, cur, rfl, h4, h5, h6, h7, h8⟩
  · have : xs = [] := List.eq_nil_of_length_eq_zero (by simpa using h.1)
    subst this
    exact Sl.nil w k
  · refine ⟨_, _, rfl, h6, h.1, by simp, fun _ => ⟨g, 0, rfl, fun j u hu => ?_⟩⟩
    have hj : j < n * k := by
      have := (List.getElem?_eq_some_iff.1 hu).1
      rwa [h.1] at this
    rw [bcellAt h5, ← Array.getElem?_toList]
    rw [← h8, List.getElem?_take_of_lt hj] at hu
    simpa using hu
theorem FS.kept {w w' : World} {base k n : Nat} {e : TypeId} {v : Value} {xs : List Value} {row : Option Nat} (h : FS w base e k v n xs) (g : w.grownBy w' row) (hr : v.ownBlock = none ∨ v.ownBlock ≠ row) : FS w' base e k v n xs := by
  refine ⟨h.1, ?_⟩
  rcases h.2 with h2 | ⟨b, cap, cur, rfl, h4, h5, h6⟩
  · exact .inl h2
  · refine .inr ⟨b, cap, cur, rfl, h4, gblock g h5 ?_, h6⟩
    rcases hr with hr | hr
    · simp [Value.ownBlock] at hr
    · simpa [Value.ownBlock] using hr
theorem FS.kept0 {w w' : World} {base k n : Nat} {e : TypeId} {v : Value} {xs : List Value} (h : FS w base e k v n xs) (g : w.grownBy w' none) : FS w' base e k v n xs :=
  h.kept g (by cases v.ownBlock <;> simp)
theorem FS.mono {w : World} {base base' k n : Nat} {e : TypeId} {v : Value} {xs : List Value} (h : FS w base e k v n xs) (hb : base' ≤ base) : FS w base' e k v n xs := by
  refine ⟨h.1, ?_⟩
  rcases h.2 with h2 | ⟨b, cap, cur, rfl, h4, h5⟩
  · exact .inl h2
  · exact .inr ⟨b, cap, cur, rfl, by omega, h5⟩
theorem FS.len {w : World} {base k n : Nat} {e : TypeId} {v : Value} {xs : List Value} (h : FS w base e k v n xs) : ∃ A cap, v = .slice A n cap := by
  rcases h.2 with ⟨rfl, rfl⟩ | ⟨b, cap, cur, rfl, h4, h5⟩
  · exact ⟨_, _, rfl⟩
  · exact ⟨_, _, rfl⟩
theorem own_kept {w w' : World} {base k n : Nat} {e : TypeId} {v : Value} {xs : List Value} {b : Nat} (h : w.ownsRow base e k v n xs) (g : w.grownBy w' (some b)) (hb : b < base) : w'.ownsRow base e k v n xs := by
  refine World.ownsRow.kept h g ?_
  by_cases hv : v.ownBlock = some b
  · have := (World.ownsRow.lt h b hv).1
    omega
  · exact .inr hv
theorem own_kept0 {w w' : World} {base k n : Nat} {e : TypeId} {v : Value} {xs : List Value} (h : w.ownsRow base e k v n xs) (g : w.grownBy w' none) : w'.ownsRow base e k v n xs :=
  World.ownsRow.kept h g (by cases v.ownBlock <;> simp)

/-- Two results: a struct that lies in a block, and a slot. -/
theorem results_cr {P : Program} {fn : Func} {p r : Tmp} {ty : TypeId} (h : fn.results = #[.cell p ty, .tmp r]) (tmps : Array Value) (w : World) (g : Nat) (t : TypeId) (cs : Array Value) (fr : Nat × Nat) (d : TypeDesc)
    (hp : tmps.getD p undef = .pointer (some ⟨g, 0, none⟩)) (hg : w.heap[g]? = some (.cells cs t fr)) (hu : P.underlying ty = some d) (hd : (match d with | .struct _ | .array _ _ => true | _ => false) = true) (hi : (P.info? ty).map (·.size) = some cs.size) :
    (results fn tmps).run P w = .ok (.tuple #[.agg cs, tmps.getD r undef]) w := by
  have hp' : tmps[p]?.getD undef = .pointer (some ⟨g, 0, none⟩) := by simpa using hp
  simp [results, h, hp', asAddr, run_loadVar_row w g t ty cs fr d hg hu hd hi]
theorem gsetR {a w : World} {g : Nat} (h : a.grownBy w none) (hg : a.heap.size ≤ g) (cs : Array Value) : a.grownBy (w.setRow g cs) none :=
  ⟨h.os, h.tape, h.output, by simpa [World.setRow] using h.size, fun i hi hn => (setRow_other w g i cs (by omega)).trans (h.block i hi hn)⟩
theorem gsetRs (w : World) (g : Nat) (cs : Array Value) : w.grownBy (w.setRow g cs) (some g) :=
  ⟨rfl, rfl, rfl, by simp [World.setRow], fun i _ hn => setRow_other w g i cs (fun e => hn (by rw [e]))⟩
theorem bsetR {w : World} {g : Nat} {c : Array Value} {t : TypeId} {z : Nat × Nat} (h : w.heap[g]? = some (.cells c t z)) (cs : Array Value) : (w.setRow g cs).heap[g]? = some (.cells cs t z) := by
  simp [World.setRow, Array.getElem?_modify, h]
theorem gstepo {a w w' : World} {b : Nat} (h : a.grownBy w none) (g : w.grownBy w' (some b)) (hb : a.heap.size ≤ b) : a.grownBy w' none :=
  ⟨g.os.trans h.os, g.tape.trans h.tape, g.output.trans h.output, Nat.le_trans h.size g.size, fun i hi hn => (g.block i (Nat.lt_of_lt_of_le hi h.size) (by simp; omega)).trans (h.block i hi hn)⟩
theorem bset2_ {w : World} {k : Nat} {a0 a1 : Value} {t : TypeId} {z : Nat × Nat} (h : w.heap[k]? = some (.cells #[a0, a1] t z)) (v0 v1 : Value) : ((w.setCell ⟨k, 0, none⟩ v0).setCell ⟨k, 1, none⟩ v1).heap[k]? = some (.cells #[v0, v1] t z) :=
  bset (bset (h) 0 v0) 1 v1
theorem gset2_ (w : World) (k : Nat) (v0 v1 : Value) : w.grownBy ((w.setCell ⟨k, 0, none⟩ v0).setCell ⟨k, 1, none⟩ v1) (some k) :=
  gset (gset (grefl w (some k)) (p := ⟨k, 0, none⟩) (.inl rfl) v0) (p := ⟨k, 1, none⟩) (.inl rfl) v1
theorem bset3_ {w : World} {k : Nat} {a0 a1 a2 : Value} {t : TypeId} {z : Nat × Nat} (h : w.heap[k]? = some (.cells #[a0, a1, a2] t z)) (v0 v1 v2 : Value) : (((w.setCell ⟨k, 0, none⟩ v0).setCell ⟨k, 1, none⟩ v1).setCell ⟨k, 2, none⟩ v2).heap[k]? = some (.cells #[v0, v1, v2] t z) :=
  bset (bset (bset (h) 0 v0) 1 v1) 2 v2
theorem gset3_ (w : World) (k : Nat) (v0 v1 v2 : Value) : w.grownBy (((w.setCell ⟨k, 0, none⟩ v0).setCell ⟨k, 1, none⟩ v1).setCell ⟨k, 2, none⟩ v2) (some k) :=
  gset (gset (gset (grefl w (some k)) (p := ⟨k, 0, none⟩) (.inl rfl) v0) (p := ⟨k, 1, none⟩) (.inl rfl) v1) (p := ⟨k, 2, none⟩) (.inl rfl) v2
theorem bset4_ {w : World} {k : Nat} {a0 a1 a2 a3 : Value} {t : TypeId} {z : Nat × Nat} (h : w.heap[k]? = some (.cells #[a0, a1, a2, a3] t z)) (v0 v1 v2 v3 : Value) : ((((w.setCell ⟨k, 0, none⟩ v0).setCell ⟨k, 1, none⟩ v1).setCell ⟨k, 2, none⟩ v2).setCell ⟨k, 3, none⟩ v3).heap[k]? = some (.cells #[v0, v1, v2, v3] t z) :=
  bset (bset (bset (bset (h) 0 v0) 1 v1) 2 v2) 3 v3
theorem gset4_ (w : World) (k : Nat) (v0 v1 v2 v3 : Value) : w.grownBy ((((w.setCell ⟨k, 0, none⟩ v0).setCell ⟨k, 1, none⟩ v1).setCell ⟨k, 2, none⟩ v2).setCell ⟨k, 3, none⟩ v3) (some k) :=
  gset (gset (gset (gset (grefl w (some k)) (p := ⟨k, 0, none⟩) (.inl rfl) v0) (p := ⟨k, 1, none⟩) (.inl rfl) v1) (p := ⟨k, 2, none⟩) (.inl rfl) v2) (p := ⟨k, 3, none⟩) (.inl rfl) v3
theorem bset5_ {w : World} {k : Nat} {a0 a1 a2 a3 a4 : Value} {t : TypeId} {z : Nat × Nat} (h : w.heap[k]? = some (.cells #[a0, a1, a2, a3, a4] t z)) (v0 v1 v2 v3 v4 : Value) : (((((w.setCell ⟨k, 0, none⟩ v0).setCell ⟨k, 1, none⟩ v1).setCell ⟨k, 2, none⟩ v2).setCell ⟨k, 3, none⟩ v3).setCell ⟨k, 4, none⟩ v4).heap[k]? = some (.cells #[v0, v1, v2, v3, v4] t z) :=
  bset (bset (bset (bset (bset (h) 0 v0) 1 v1) 2 v2) 3 v3) 4 v4
theorem gset5_ (w : World) (k : Nat) (v0 v1 v2 v3 v4 : Value) : w.grownBy (((((w.setCell ⟨k, 0, none⟩ v0).setCell ⟨k, 1, none⟩ v1).setCell ⟨k, 2, none⟩ v2).setCell ⟨k, 3, none⟩ v3).setCell ⟨k, 4, none⟩ v4) (some k) :=
  gset (gset (gset (gset (gset (grefl w (some k)) (p := ⟨k, 0, none⟩) (.inl rfl) v0) (p := ⟨k, 1, none⟩) (.inl rfl) v1) (p := ⟨k, 2, none⟩) (.inl rfl) v2) (p := ⟨k, 3, none⟩) (.inl rfl) v3) (p := ⟨k, 4, none⟩) (.inl rfl) v4
theorem bset6_ {w : World} {k : Nat} {a0 a1 a2 a3 a4 a5 : Value} {t : TypeId} {z : Nat × Nat} (h : w.heap[k]? = some (.cells #[a0, a1, a2, a3, a4, a5] t z)) (v0 v1 v2 v3 v4 v5 : Value) : ((((((w.setCell ⟨k, 0, none⟩ v0).setCell ⟨k, 1, none⟩ v1).setCell ⟨k, 2, none⟩ v2).setCell ⟨k, 3, none⟩ v3).setCell ⟨k, 4, none⟩ v4).setCell ⟨k, 5, none⟩ v5).heap[k]? = some (.cells #[v0, v1, v2, v3, v4, v5] t z) :=
  bset (bset (bset (bset (bset (bset (h) 0 v0) 1 v1) 2 v2) 3 v3) 4 v4) 5 v5
theorem gset6_ (w : World) (k : Nat) (v0 v1 v2 v3 v4 v5 : Value) : w.grownBy ((((((w.setCell ⟨k, 0, none⟩ v0).setCell ⟨k, 1, none⟩ v1).setCell ⟨k, 2, none⟩ v2).setCell ⟨k, 3, none⟩ v3).setCell ⟨k, 4, none⟩ v4).setCell ⟨k, 5, none⟩ v5) (some k) :=
  gset (gset (gset (gset (gset (gset (grefl w (some k)) (p := ⟨k, 0, none⟩) (.inl rfl) v0) (p := ⟨k, 1, none⟩) (.inl rfl) v1) (p := ⟨k, 2, none⟩) (.inl rfl) v2) (p := ⟨k, 3, none⟩) (.inl rfl) v3) (p := ⟨k, 4, none⟩) (.inl rfl) v4) (p := ⟨k, 5, none⟩) (.inl rfl) v5
theorem own_shape {w : World} {base k n : Nat} {e : TypeId} {v : Value} {xs : List Value} (h : w.ownsRow base e k v n xs) : ∃ A cap, v = .slice A n cap ∧ n ≤ cap ∧ cap ≤ maxLen := by
  rcases h.2 with ⟨rfl, rfl⟩ | ⟨g, cap, cur, rfl, _, _, h6, h7, _⟩
  · exact ⟨none, 0, rfl, Nat.le_refl _, by unfold maxLen; omega⟩
  · exact ⟨_, cap, rfl, h6, h7⟩
theorem FS.cut' {w : World} {base k n cap : Nat} {e : TypeId} {A : Option Addr} {xs : List Value} (h : w.ownsRow base e k (.slice A n cap) n xs) : FS w base e k (.slice A n n) n xs := by
  rcases h.2 with ⟨h2, rfl⟩ | ⟨g, cap', cur, h3, _⟩
  · simp only [Value.slice.injEq] at h2
    obtain ⟨rfl, _, rfl⟩ := h2
    exact FS.of h
  · simp only [Value.slice.injEq] at h3
    obtain ⟨rfl, _, rfl⟩ := h3
    exact FS.cut h
end Go.Proofs.YthgendgmlpaglaaDoor
namespace Go.Proofs.YthgendgmlpaglaaDoor
open Go.RowKit

section
variable {P : Program} {w : World} {ops : Array Oper} {rest : List Oper} {o : Oper} {a : Act} {Q : Exit → Act → World → Prop}

/-- 'append(out, src...)', src a slice of bytes. -/
theorem wpList_app_sl (hg : o.guard = none) (s x : Operand) (t : TypeId) (hop : o.op = Op.call { callee := Callee.builtin Builtin.append, args := #[s, x], argTypes := #[t, t] })
    (base : Nat) (i : TypeInfo) (h1 : P.underlying t = some (.slice 5)) (h2 : P.info? 5 = some i) (h3 : i.zero = some (.int .u8 0)) (h4 : i.size = 1) (h5 : i.bytes = 1)
    (v : Value) (xs news : List UInt8) (hs : a.eval s = v) (hown : Own w base v xs) (vx : Value) (hx : a.eval x = vx) (hsl : SlB w vx news) (b1 : xs.length + news.length ≤ 140737488355328) (hb : base ≤ w.heap.size)
    (hK : ∀ v' w', Own w' base v' (xs ++ news) → w.grownBy w' v.ownBlock → wpList P ops Q rest (a.put o.dst v') w') : wpList P ops Q (o :: rest) a w := by
  obtain ⟨A, c, rfl, _, k2, k3⟩ := hsl
  have hm : xs.length + news.length ≤ maxLen := by unfold maxLen; omega
  cases A with
  | none =>
    obtain ⟨e1, rfl⟩ := k2 rfl
    have : news = [] := List.eq_nil_of_length_eq_zero e1
    subst this
    refine wpList_append_own_none hg s x t hop base 5 i 1 h1 h2 v xs.length (bv xs) hs hown (by simpa using hx) ?_
    simpa using hK v w (by simpa using hown) (grefl w _)
  | some ad =>
    refine wpList_append_own w hg s x t hop base 5 i (.int .u8 0) 1 1 h1 h2 h3 h4 h5 rfl (by omega) v xs.length (bv xs) hs hown ad news.length c (bv news) hx (by simp [bv_len]) (k3 ad rfl) (bv_one _) hm (by omega) hb ?_
    intro v' w' ho hgr _
    exact hK v' w' (by unfold Own; rw [List.length_append, bv_append]; exact ho) hgr
/-- 'append(out, s...)', s a string. -/
theorem wpList_app_str (hg : o.guard = none) (s x : Operand) (t u : TypeId) (hop : o.op = Op.call { callee := Callee.builtin Builtin.append, args := #[s, x], argTypes := #[t, u] })
    (base : Nat) (i : TypeInfo) (h1 : P.underlying t = some (.slice 5)) (hu : P.underlying u = some .string) (h2 : P.info? 5 = some i) (h3 : i.zero = some (.int .u8 0)) (h4 : i.size = 1) (h5 : i.bytes = 1)
    (v : Value) (xs : List UInt8) (hs : a.eval s = v) (hown : Own w base v xs) (c : ByteArray) (hx : a.eval x = .string c) (b1 : xs.length + c.size ≤ 140737488355328) (hb : base ≤ w.heap.size)
    (hK : ∀ v' w', Own w' base v' (xs ++ c.data.toList) → w.grownBy w' v.ownBlock → wpList P ops Q rest (a.put o.dst v') w') : wpList P ops Q (o :: rest) a w := by
  refine Lib.wpList_append_own_string w hg s x t u hop base 5 i h1 hu h2 h3 h4 h5 v xs.length (bv xs) hs hown c hx (by unfold maxLen; omega) b1 hb ?_
  intro v' w' ho hgr _
  refine hK v' w' ?_ hgr
  unfold Own
  rw [List.length_append, bv_append]
  exact ho
/-- 'append(out, src...)', elements of k cells. -/
theorem wpList_app_k (hg : o.guard = none) (s x : Operand) (t : TypeId) (hop : o.op = Op.call { callee := Callee.builtin Builtin.append, args := #[s, x], argTypes := #[t, t] })
    (base : Nat) (e : TypeId) (i : TypeInfo) (z : Value) (k bytes : Nat) (h1 : P.underlying t = some (.slice e)) (h2 : P.info? e = some i) (h3 : i.zero = some z) (h4 : i.size = k) (h5 : i.bytes = bytes) (h6 : z.cells.size = k) (h7 : 0 < k)
    (v : Value) (n m : Nat) (xs news : List Value) (hs : a.eval s = v) (hown : w.ownsRow base e k v n xs) (vx : Value) (hx : a.eval x = vx) (hsl : Sl w k vx m news) (hone : ∀ u ∈ news, u.oneCell' = true) (b0 : n + m ≤ maxLen) (b1 : (n + m) * bytes ≤ 140737488355328) (hb : base ≤ w.heap.size)
    (hK : ∀ v' w', w'.ownsRow base e k v' (n + m) (xs ++ news) → w.grownBy w' v.ownBlock → wpList P ops Q rest (a.put o.dst v') w') : wpList P ops Q (o :: rest) a w := by
  obtain ⟨A, c, rfl, _, k1, k2, k3⟩ := hsl
  cases A with
  | none =>
    obtain ⟨rfl, rfl⟩ := k2 rfl
    have : news = [] := List.eq_nil_of_length_eq_zero (by simpa using k1)
    subst this
    refine wpList_append_own_none hg s x t hop base e i k h1 h2 v n xs hs hown hx ?_
    exact hK v w (by simpa using hown) (grefl w _)
  | some ad =>
    refine wpList_append_own w hg s x t hop base e i z k bytes h1 h2 h3 h4 h5 h6 h7 v n xs hs hown ad m c news hx k1 ?_ hone b0 b1 hb ?_
    · intro j u hu
      have hm : 0 < m := by
        rcases Nat.eq_zero_or_pos m with h0 | h0
        · subst h0
          have : news = [] := List.eq_nil_of_length_eq_zero (by simpa using k1)
          subst this
          simp at hu
        · exact h0
      obtain ⟨b, off, e1, hc⟩ := k3 hm
      cases e1
      rw [Addr.add_lit]
      exact hc j u hu
    · intro v' w' ho hgr _
      exact hK v' w' ho hgr
/-- 'make([]byte, n)'. -/
theorem wpList_make_z (hg : o.guard = none) (l c : Operand) (t : TypeId) (hop : o.op = Op.makeSlice t l c)
    (base : Nat) (i : TypeInfo) (h1 : P.underlying t = some (.slice 5)) (h2 : P.info? 5 = some i) (h3 : i.zero = some (.int .u8 0)) (h4 : i.size = 1) (h5 : i.bytes = 1)
    (kl kc : IntKind) (L C : Int) (n : Nat) (hl : a.eval l = .int kl L) (hc : a.eval c = .int kc C) (hL : L = (n : Int)) (hC : C = (n : Int)) (b2 : n ≤ 281474976710656) (b4 : base ≤ w.heap.size)
    (hK : ∀ w', Own w' base (.slice (some ⟨w.heap.size, 0, none⟩) n n) (List.replicate n 0) → w.grownBy w' none → wpList P ops Q rest (a.put o.dst (.slice (some ⟨w.heap.size, 0, none⟩) n n)) w') :
    wpList P ops Q (o :: rest) a w := by
  refine wpList_make_full w hg l c t hop base 5 i (.int .u8 0) 1 h1 h2 h3 h4 kl kc L C n hl hc hL hC (by rw [h5]; omega) (by unfold maxLen; omega) b4 ?_
  intro w' ho hgr
  refine hK w' ?_ hgr
  unfold Own
  have e : (madeCells (Value.int .u8 0).cells (n * 1)).toList = bv (List.replicate n 0) := by
    rw [Nat.mul_one]
    show (madeCells #[Value.int .u8 0] n).toList = _
    rw [toList_madeCells_one, bv, List.map_replicate]
    rfl
  rw [e] at ho
  simpa using ho
end
theorem own_none (w : World) (base : Nat) (e : TypeId) (k : Nat) (hb : base ≤ w.heap.size) : (w.alloc (.cells #[] e)).ownsRow base e k (.slice (some ⟨w.heap.size, 0, none⟩) 0 0) 0 [] :=
  ⟨by simp, .inr ⟨w.heap.size, 0, #[], rfl, hb, balloc w _, Nat.le_refl _, by unfold maxLen; omega, by simp, by simp⟩⟩
theorem own_none1 (w : World) (o : Obj) (e : TypeId) (k : Nat) : ((w.alloc o).alloc (.cells #[] e)).ownsRow (w.heap.size + 1) e k (.slice (some ⟨w.heap.size + 1, 0, none⟩) 0 0) 0 [] := by
  have h := own_none (w.alloc o) (w.heap.size + 1) e k (by simp)
  rw [asz] at h
  exact h
theorem Own.kepto {w w' : World} {base : Nat} {v : Value} {l : List UInt8} {b : Nat} (h : Own w base v l) (g : w.grownBy w' (some b)) (hb : b < base) : Own w' base v l := own_kept h g hb
theorem Own.kept0 {w w' : World} {base : Nat} {v : Value} {l : List UInt8} (h : Own w base v l) (g : w.grownBy w' none) : Own w' base v l := own_kept0 h g
theorem Own.shape {w : World} {base : Nat} {v : Value} {l : List UInt8} (h : Own w base v l) : ∃ A cap, v = .slice A l.length cap ∧ l.length ≤ cap ∧ cap ≤ maxLen := own_shape h
end Go.Proofs.YthgendgmlpaglaaDoor
namespace Go.Proofs.YthgendgmlpaglaaDoor
open Go.RowKit

theorem run_app_k {P : Program} (w : World) (base : Nat) (t ty e : TypeId) (i : TypeInfo) (z : Value) (k bytes : Nat) (h1 : P.underlying t = some (.slice e)) (h2 : P.info? e = some i) (h3 : i.zero = some z) (h4 : i.size = k) (h5 : i.bytes = bytes) (h6 : z.cells.size = k) (h7 : 0 < k)
    (v : Value) (n m : Nat) (xs news : List Value) (hown : w.ownsRow base e k v n xs) (vx : Value) (hsl : Sl w k vx m news) (hone : ∀ u ∈ news, u.oneCell' = true) (b0 : n + m ≤ maxLen) (b1 : (n + m) * bytes ≤ 140737488355328) (hb : base ≤ w.heap.size) :
    ∃ v' w', (Builtin.append_ #[t, t] ty #[v, vx]).run P w = .ok v' w' ∧ w'.ownsRow base e k v' (n + m) (xs ++ news) ∧ w.grownBy w' v.ownBlock := by
  obtain ⟨A, c, rfl, _, k1, k2, k3⟩ := hsl
  cases A with
  | none =>
    obtain ⟨rfl, rfl⟩ := k2 rfl
    have : news = [] := List.eq_nil_of_length_eq_zero (by simpa using k1)
    subst this
    exact ⟨v, w, run_append_owned_none (P := P) w base t ty e i k h1 h2 v n xs hown, by simpa using hown, grefl w _⟩
  | some ad =>
    obtain ⟨v', w', hr, ho, hg, _⟩ := run_append_own (P := P) w base t ty e i z k bytes h1 h2 h3 h4 h5 h6 h7 v n xs hown ad m c news k1 (by
      intro j u hu
      have hm : 0 < m := by
        rcases Nat.eq_zero_or_pos m with h0 | h0
        · subst h0
          have : news = [] := List.eq_nil_of_length_eq_zero (by simpa using k1)
          subst this
          simp at hu
        · exact h0
      obtain ⟨b, off, e1, hc⟩ := k3 hm
      cases e1
      rw [Addr.add_lit]
      exact hc j u hu) hone b0 b1 hb
    exact ⟨v', w', hr, ho, hg⟩
theorem step_app_k {P : Program} {w : World} {ops : Array Oper} {o : Oper} {a : Act} {K : Act → World → Prop} {Q : Exit → Act → World → Prop} {E : Prop} (hgd : o.guard = none) (s x : Operand) (t : TypeId) (hop : o.op = Op.call { callee := Callee.builtin Builtin.append, args := #[s, x], argTypes := #[t, t] })
    (base : Nat) (e : TypeId) (i : TypeInfo) (z : Value) (k bytes : Nat) (h1 : P.underlying t = some (.slice e)) (h2 : P.info? e = some i) (h3 : i.zero = some z) (h4 : i.size = k) (h5 : i.bytes = bytes) (h6 : z.cells.size = k) (h7 : 0 < k)
    (v : Value) (n m : Nat) (xs news : List Value) (hs : a.eval s = v) (hown : w.ownsRow base e k v n xs) (vx : Value) (hx : a.eval x = vx) (hsl : Sl w k vx m news) (hone : ∀ u ∈ news, u.oneCell' = true) (b0 : n + m ≤ maxLen) (b1 : (n + m) * bytes ≤ 140737488355328) (hb : base ≤ w.heap.size)
    (hK : ∀ v' w', w'.ownsRow base e k v' (n + m) (xs ++ news) → w.grownBy w' v.ownBlock → K (a.put o.dst v') w') : if Region.wanted o (yielded ops a.tmps) = true then Oper.wp P o a w K Q else E := by
  have hw : Region.wanted o (yielded ops a.tmps) = true := by simp [Region.wanted, hgd]
  rw [if_pos hw]
  obtain ⟨v', w', hr, h8, h9⟩ := run_app_k (P := P) w base t o.type e i z k bytes h1 h2 h3 h4 h5 h6 h7 v n m xs news hown vx hsl hone b0 b1 hb
  unfold Oper.wp execOp
  simp only [hop, resolve, invoke, builtin, Sem.run_bind, Sem.run_pure, Result.andThen_ok, List.map_toArray, List.map_cons, List.map_nil, hs, hx, hr]
  exact hK v' w' h8 h9
end Go.Proofs.YthgendgmlpaglaaDoor
namespace Go.Proofs.YthgendgmlpaglaaDoor
open Go.RowKit

theorem zc_list (n : Nat) : (Builtin.zeroCells (Value.int .u8 0).cells n).toList = List.replicate n (.int .u8 0) := by
  show (Builtin.zeroCells #[Value.int .u8 0] n).toList = _
  apply List.ext_getElem?
  intro j
  by_cases hj : j < n
  · simp [Builtin.zeroCells, hj, Nat.mod_one]
  · simp [Builtin.zeroCells, hj]
theorem zc_arr (n : Nat) : Builtin.zeroCells (Value.int .u8 0).cells n = (bv (List.replicate n 0)).toArray := by
  apply Array.ext'
  rw [zc_list, bv, List.map_replicate]
  rfl
theorem bv_zeros (n : Nat) : bv (List.replicate n 0) = List.replicate n (.int .u8 0) := by
  rw [bv, List.map_replicate]; rfl

section
variable {P : Program} {w : World}
theorem run_app_zeros (base : Nat) (t tn ty : TypeId) (i : TypeInfo) (ht : P.underlying t = some (.slice 5)) (htn : P.underlying tn = some (.int .i64)) (hi : P.info? 5 = some i) (hz : i.zero = some (.int .u8 0)) (hs : i.size = 1) (hb : i.bytes = 1)
    (v : Value) (xs : List UInt8) (hown : Own w base v xs) (n : Nat) (b1 : xs.length + n ≤ 140737488355328) (hbase : base ≤ w.heap.size) :
    ∃ v' w', (Builtin.append_ #[t, tn] ty #[v, .int .i64 n]).run P w = .ok v' w' ∧ Own w' base v' (xs ++ List.replicate n 0) ∧ w.grownBy w' v.ownBlock := by
  have hw : IntKind.i64.wrap (n : Int) = n := by rw [IntKind.wrap_i64]; omega
  have hneg : ¬ ((n : Int) < 0) := by omega
  have h48i : ¬ (281474976710656 < (n : Int)) := by omega
  have hm : xs.length + n ≤ maxLen := by unfold maxLen; omega
  have hlen : (bv xs ++ bv (List.replicate n 0)).length = (xs.length + n) * 1 := by simp [bv_len]
  have grown : ∀ (old : Nat), old < xs.length + n → ∀ (row : Option Nat),
      (w.drew.alloc (.cells ((bv xs).toArray ++ (bv (List.replicate n 0)).toArray ++ Builtin.zeroCells (Value.int .u8 0).cells (grownCap w (xs.length + n) old 5 - (xs.length + n))) 5)).ownsRow base 5 1
        (.slice (some ⟨w.heap.size, 0, none⟩) (xs.length + n) (grownCap w (xs.length + n) old 5)) (xs.length + n) (bv xs ++ bv (List.replicate n 0)) ∧
      w.grownBy (w.drew.alloc (.cells ((bv xs).toArray ++ (bv (List.replicate n 0)).toArray ++ Builtin.zeroCells (Value.int .u8 0).cells (grownCap w (xs.length + n) old 5 - (xs.length + n))) 5)) row := by
    intro old ho row
    have hge := grownCap_ge w (xs.length + n) old 5
    have hcm : grownCap w (xs.length + n) old 5 ≤ maxLen := grownCap_le_maxLen w (xs.length + n) old 5 hm
    refine ⟨⟨hlen, .inr ⟨w.heap.size, _, _, rfl, hbase, heap_alloc_new w.drew _, hge, hcm, ?_, ?_⟩⟩, galloc (gdrew (grefl w row)) _⟩
    · simp only [Array.size_append, List.size_toArray, size_zeroCells, bv_len, List.length_replicate]
      show xs.length + n + (grownCap w (xs.length + n) old 5 - (xs.length + n)) * 1 = _
      omega
    · simp only [Array.toList_append, List.append_assoc]
      rw [← List.append_assoc, ← hlen]
      exact List.take_left
  have fin : ∀ v' w', w'.ownsRow base 5 1 v' (xs.length + n) (bv xs ++ bv (List.replicate n 0)) → Own w' base v' (xs ++ List.replicate n 0) := by
    intro v' w' h
    unfold Own
    rw [bv_append, List.length_append, List.length_replicate]
    exact h
  have hw0 : IntKind.i64.wrap 0 = 0 := by decide
  by_cases hn : n = 0
  · subst hn
    refine ⟨v, w, ?_, by simpa using hown, grefl _ _⟩
    rcases hown.2 with ⟨rfl, hx0⟩ | ⟨g, cap, cur, rfl, hbg, hg, hnc, hcm, hcs, htake⟩
    · simp [Builtin.append_, run_underlying ht, run_underlying htn, sizeOf, typeInfo, hi, hb, asInt, asIntOf, hw0]
    · simp [Builtin.append_, run_underlying ht, run_underlying htn, sizeOf, typeInfo, hi, hb, asInt, asIntOf, hw0, hnc, storeCells]
  · rcases hown.2 with ⟨rfl, hx0⟩ | ⟨g, cap, cur, rfl, hbg, hg, hnc, hcm, hcs, htake⟩
    · have hx : xs = [] := List.eq_nil_of_length_eq_zero hx0
      subst hx
      have hr := Lib.run_append_nil_zeros (P := P) w t tn ty 5 i (.int .u8 0) .i64 .i64 ht htn hi hz n (by omega) (by omega) (by omega) (by rw [hb]; omega)
      have hgr := grown 0 (by simp; omega) (Value.ownBlock (.slice none 0 0))
      rw [zc_arr n] at hr
      simp only [List.length_nil, Nat.zero_add, show bv [] = [] from rfl, List.nil_append, Array.empty_append] at hgr
      refine ⟨_, _, hr, fin _ _ ?_, hgr.2⟩
      simp only [List.length_nil, Nat.zero_add, show bv [] = [] from rfl, List.nil_append]
      exact hgr.1
    · by_cases hroom : xs.length + n ≤ cap
      · have hst := run_storeCells_at P g xs.length 5 (bv (List.replicate n 0)) 0 cur w hg (by simp [bv_len]; omega) (bv_one _)
        simp only [Nat.add_zero] at hst
        rw [bv_zeros] at hst
        refine ⟨.slice (some ⟨g, 0, none⟩) (xs.length + n) cap, w.setRow g (cur.toList.take xs.length ++ List.replicate n (Value.int .u8 0) ++ cur.toList.drop (xs.length + (List.replicate n (Value.int .u8 0)).length)).toArray, ?_, fin _ _ ⟨hlen, .inr ⟨g, cap, _, rfl, hbg, setRow_heap w g cur _ _ _ hg, hroom, hcm, ?_, ?_⟩⟩, gsetRs _ _ _⟩
        · simp [Builtin.append_, run_underlying ht, run_underlying htn, sizeOf, typeInfo, zeroValue, hi, hz, hs, hb, asInt, asIntOf, hw, hn, hneg, h48i, hroom, Addr.add_lit, zc_list, hst]
        · simp; omega
        · rw [← hlen, bv_zeros]
          have : bv xs = cur.toList.take xs.length := by rw [← htake]; simp
          rw [this]
          exact List.take_left
      · have holds : ∀ j u, (bv xs)[j]? = some u → w.cell? ((⟨g, 0, none⟩ : Addr).add j) = some u := hown.cells (g := g) rfl
        have hf := run_firstCells_some (P := P) w.drew 1 xs.length ⟨g, 0, none⟩ xs.length cap (bv xs) (by simp [bv_len]) (by simpa using holds)
        have hgr := grown cap (by omega) (Value.ownBlock (.slice (some ⟨g, 0, none⟩) xs.length cap))
        have h63' : ¬ (9223372036854775807 < ((xs.length : Int) + (n : Int))) := by omega
        have h48' : ¬ (281474976710656 < Builtin.nextslicecap (xs.length + n) cap) := by
          have := growslice_fits (bytes := 1) (show cap < xs.length + n by omega) (by omega)
          omega
        refine ⟨.slice (some ⟨w.heap.size, 0, none⟩) (xs.length + n) (grownCap w (xs.length + n) cap 5), _, ?_, fin _ _ hgr.1, hgr.2⟩
        rw [← zc_arr n]
        simp [Builtin.append_, run_underlying ht, run_underlying htn, sizeOf, typeInfo, zeroValue, hi, hz, hs, hb, asInt, asIntOf, hw, hn, hneg, h48i, hroom, h63', h48', hf, Question.forced, newRow, grownCap]
theorem wpList_app_zeros {ops : Array Oper} {rest : List Oper} {o : Oper} {a : Act} {Q : Exit → Act → World → Prop} (hg : o.guard = none) (s x : Operand) (t tn : TypeId) (hop : o.op = Op.call { callee := Callee.builtin Builtin.append, args := #[s, x], argTypes := #[t, tn] })
    (base : Nat) (i : TypeInfo) (ht : P.underlying t = some (.slice 5)) (htn : P.underlying tn = some (.int .i64)) (hi : P.info? 5 = some i) (hz : i.zero = some (.int .u8 0)) (hs : i.size = 1) (hb : i.bytes = 1)
    (v : Value) (xs : List UInt8) (hv : a.eval s = v) (hown : Own w base v xs) (n : Nat) (N : Int) (hx : a.eval x = .int .i64 N) (hN : N = (n : Int)) (b1 : xs.length + n ≤ 140737488355328) (hbase : base ≤ w.heap.size)
    (hK : ∀ v' w', Own w' base v' (xs ++ List.replicate n 0) → w.grownBy w' v.ownBlock → wpList P ops Q rest (a.put o.dst v') w') : wpList P ops Q (o :: rest) a w := by
  subst hN
  obtain ⟨v', w', hr, ho, hgr⟩ := run_app_zeros (P := P) (w := w) base t tn o.type i ht htn hi hz hs hb v xs hown n b1 hbase
  exact Lib.wpList_append_run w hg s x t tn hop v _ hv hx v' w' hr (hK v' w' ho hgr)
end
end Go.Proofs.YthgendgmlpaglaaDoor
namespace Go.Proofs.YthgendgmlpaglaaDoor
open Go.ChangeShapes Go.WideShapes Go.RowKit

theorem nat_u8 {x : Int} (h : (Lit.int .u8 x).wf = true) : ∃ n : Nat, x = n ∧ n < 256 := by
  have h' : 0 ≤ x ∧ x ≤ 255 := by simpa [Lit.wf, IntKind.min, IntKind.max, IntKind.signed, IntKind.bits] using h
  exact ⟨x.toNat, by omega, by omega⟩
theorem nat_u16 {x : Int} (h : (Lit.int .u16 x).wf = true) : ∃ n : Nat, x = n ∧ n < 65536 := by
  have h' : 0 ≤ x ∧ x ≤ 65535 := by simpa [Lit.wf, IntKind.min, IntKind.max, IntKind.signed, IntKind.bits] using h
  exact ⟨x.toNat, by omega, by omega⟩
theorem nat_u32 {x : Int} (h : (Lit.int .u32 x).wf = true) : ∃ n : Nat, x = n ∧ n < 4294967296 := by
  have h' : 0 ≤ x ∧ x ≤ 4294967295 := by simpa [Lit.wf, IntKind.min, IntKind.max, IntKind.signed, IntKind.bits] using h
  exact ⟨x.toNat, by omega, by omega⟩

theorem lit_of_cell {w : World} {a : Addr} {v : Value} (h : w.cell? a = some v) : a = ⟨a.block, a.off, none⟩ := by
  have hs : a.spot = none := by
    unfold World.cell? at h
    cases hsp : a.spot with
    | none => rfl
    | some x => simp [hsp] at h; split at h <;> simp at h
  cases a
  simp at hs
  simp [hs]

theorem open_bytes {H : Type} {enc : TypeId × Value → H} {W : World} {A : Option Addr} {len cap : Nat} {d : DataW H} {p : List MemPlace}
    (h : DataW.Trod enc Tryd.prog W 0 (fun _ => true) true 26 (.slice A len cap) d p) : ∃ l, SlB W (.slice A len cap) l ∧ l.length = len := by
  obtain ⟨fuel, hf⟩ := h
  rcases Go.ChangeShapes.open_ints Tryd.underlying26 Tryd.underlying5 (by kernel_rfl) hf with ⟨hcs, _⟩ | ⟨a, len', cap', zs, hcs, _, hl, hm, hz, _, hx, hwf⟩
  · obtain ⟨rfl, rfl, rfl⟩ : A = none ∧ len = 0 ∧ cap = 0 := by simpa [Value.cells] using hcs
    exact ⟨[], ⟨none, 0, rfl, by simp, by simp, by simp⟩, rfl⟩
  · obtain ⟨rfl, rfl, rfl⟩ : A = some a ∧ len = len' ∧ cap = cap' := by simpa [Value.cells] using hcs
    have hzl : zs.length = cap := by simpa using hz
    have hlen : ((zs.take len).map fun z => UInt8.ofNat z.toNat).length = len := by simp; omega
    refine ⟨(zs.take len).map fun z => UInt8.ofNat z.toNat, ⟨some a, cap, by rw [hlen], by rw [hlen]; exact hl, by simp, ?_⟩, hlen⟩
    intro ad had j u hu
    obtain rfl := Option.some.inj had
    have hj : j < len := by
      have := (List.getElem?_eq_some_iff.1 hu).1
      rw [bv_len, hlen] at this
      exact this
    have hjz : j < zs.length := by omega
    have hb := hwf zs[j] (List.getElem_mem hjz)
    have hb' : 0 ≤ zs[j] ∧ zs[j] ≤ 255 := by simpa [Lit.wf, IntKind.min, IntKind.max, IntKind.signed, IntKind.bits] using hb
    rw [hx j (by omega)]
    rw [bv_get _ _ (by rw [hlen]; exact hj)] at hu
    rw [← hu]
    have e1 : zs.getD j 0 = zs[j] := by simp [List.getD, hjz]
    rw [e1]
    simp
    omega
end Go.Proofs.YthgendgmlpaglaaDoor
namespace Go.Proofs.YthgendgmlpaglaaDoor
open Go.ChangeShapes Go.WideShapes Go.RowKit Go.Deep

theorem open_fields {H : Type} {enc : TypeId × Value → H} {P : Program} {w : World} {base : Nat} {spare : Nat → Bool} {held : Bool} {r : Reach} {b0 : Nat} {t : TypeId} {fs : Array Field} {v : Value} {d : DataW H} {p : List MemPlace}
    (hs : P.underlying t = some (.struct fs)) (hone : oneCellFields P fs = true) (hC : P.cellsOf t = fs.size) (hv : Value.okWide P w r b0 t v) (h : DataW.Trod enc P w base spare held t v d p) :
    ∃ (cs : List Value) (n : Nat), v = .agg cs.toArray ∧ cs.length = fs.size ∧ ∀ (j : Nat) (f : Field) (c : Value), fs[j]? = some f → cs[j]? = some c → ∃ y, DataW.trod enc P w base spare held n f.type [c] = some y := by
  obtain ⟨cs, rfl, hsz⟩ := okWide_struct hs hv
  obtain ⟨l⟩ := cs
  have hl : l.length = fs.size := by simpa using hsz.trans hC
  obtain ⟨fuel, hf⟩ := h
  obtain ⟨xs, n, _, _, _, hlen, hg⟩ := DataW.trod_struct hs hf
  refine ⟨l, n, rfl, hl, fun j f c hj hc => ?_⟩
  obtain ⟨o, k⟩ := hone_of hone j f hj
  have hjl : j < l.length := (List.getElem?_eq_some_iff.1 hc).1
  have h1 := hg j f hj
  rw [o, k] at h1
  have e : ((Value.agg l.toArray).cells.toList.drop j).take 1 = [c] := by
    show (l.drop j).take 1 = [c]
    rw [List.drop_eq_getElem_cons hjl, List.take_succ_cons, List.take_zero]
    rw [List.getElem?_eq_getElem hjl] at hc
    rw [Option.some.inj hc]
  rw [e, List.getElem?_eq_getElem (by omega)] at h1
  exact ⟨_, h1⟩
theorem open_elems {H : Type} {enc : TypeId × Value → H} {P : Program} {w : World} {base : Nat} {spare : Nat → Bool} {held : Bool} {r : Reach} {b0 : Nat} {t e : TypeId} {m : Nat} {v : Value} {d : DataW H} {p : List MemPlace}
    (hs : P.underlying t = some (.array m e)) (h1 : P.cellsOf e = 1) (hC : P.cellsOf t = m) (hv : Value.okWide P w r b0 t v) (h : DataW.Trod enc P w base spare held t v d p) :
    ∃ (cs : List Value) (n : Nat), v = .agg cs.toArray ∧ cs.length = m ∧ ∀ (j : Nat) (c : Value), cs[j]? = some c → ∃ y, DataW.trod enc P w base spare held n e [c] = some y := by
  obtain ⟨cs, rfl, hsz, _⟩ : ∃ cs, v = .agg cs ∧ cs.size = P.cellsOf t ∧ Row.okWide P w r b0 t cs := by
    simpa [Value.okWide, hs] using hv
  obtain ⟨l⟩ := cs
  have hl : l.length = m := by simpa using hsz.trans hC
  obtain ⟨fuel, hf⟩ := h
  obtain ⟨xs, n, _, _, _, hlen, hg⟩ := DataW.trod_array hs hf
  refine ⟨l, n, rfl, hl, fun j c hc => ?_⟩
  have hjl : j < l.length := (List.getElem?_eq_some_iff.1 hc).1
  have h2 := hg j (by omega)
  rw [h1, Nat.mul_one] at h2
  have e : ((Value.agg l.toArray).cells.toList.drop j).take 1 = [c] := by
    show (l.drop j).take 1 = [c]
    rw [List.drop_eq_getElem_cons hjl, List.take_succ_cons, List.take_zero]
    rw [List.getElem?_eq_getElem hjl] at hc
    rw [Option.some.inj hc]
  rw [e, List.getElem?_eq_getElem (by omega)] at h2
  exact ⟨_, h2⟩
theorem one_u16 {H : Type} {enc : TypeId × Value → H} {P : Program} {w : World} {base : Nat} {spare : Nat → Bool} {held : Bool} {t : TypeId} {n : Nat} {c : Value} {y : DataW H × List MemPlace} (ht : P.underlying t = some (.int .u16)) (h : DataW.trod enc P w base spare held n t [c] = some y) : ∃ k : Nat, c = .int .u16 k ∧ k < 65536 := by
  obtain ⟨x, e, _, wf⟩ := DataW.trod_int ht h
  obtain ⟨k, rfl, hk⟩ := nat_u16 wf
  exact ⟨k, by simpa using e, hk⟩
theorem one_u8 {H : Type} {enc : TypeId × Value → H} {P : Program} {w : World} {base : Nat} {spare : Nat → Bool} {held : Bool} {t : TypeId} {n : Nat} {c : Value} {y : DataW H × List MemPlace} (ht : P.underlying t = some (.int .u8)) (h : DataW.trod enc P w base spare held n t [c] = some y) : ∃ k : Nat, c = .int .u8 k ∧ k < 256 := by
  obtain ⟨x, e, _, wf⟩ := DataW.trod_int ht h
  obtain ⟨k, rfl, hk⟩ := nat_u8 wf
  exact ⟨k, by simpa using e, hk⟩
theorem one_bool {H : Type} {enc : TypeId × Value → H} {P : Program} {w : World} {base : Nat} {spare : Nat → Bool} {held : Bool} {t : TypeId} {n : Nat} {c : Value} {y : DataW H × List MemPlace} (ht : P.underlying t = some .bool) (h : DataW.trod enc P w base spare held n t [c] = some y) : ∃ k : Bool, c = .bool k := by
  obtain ⟨x, e, _⟩ := DataW.trod_bool ht h
  exact ⟨x, by simpa using e⟩
theorem one_int {H : Type} {enc : TypeId × Value → H} {P : Program} {w : World} {base : Nat} {spare : Nat → Bool} {held : Bool} {t : TypeId} {n : Nat} {c : Value} {y : DataW H × List MemPlace} (ht : P.underlying t = some (.int .i64)) (h : DataW.trod enc P w base spare held n t [c] = some y) : ∃ k : Int, c = .int .i64 k ∧ (Lit.int .i64 k).wf = true := by
  obtain ⟨x, e, _, wf⟩ := DataW.trod_int ht h
  exact ⟨x, by simpa using e, wf⟩
end Go.Proofs.YthgendgmlpaglaaDoor
namespace Go.Proofs.YthgendgmlpaglaaDoor
open Go.ChangeShapes Go.WideShapes Go.RowKit Go.Deep

theorem pick_list {α : Type} {Q : Nat → α → Prop} : ∀ n : Nat, (∀ i, i < n → ∃ x, Q i x) → ∃ l : List α, l.length = n ∧ ∀ i x, l[i]? = some x → Q i x
  | 0, _ => ⟨[], rfl, fun i x h => by simp at h⟩
  | n + 1, h => by
    obtain ⟨l, hl, hq⟩ := pick_list n (fun i hi => h i (by omega))
    obtain ⟨x, hx⟩ := h n (by omega)
    refine ⟨l ++ [x], by simp [hl], fun i y hy => ?_⟩
    by_cases hi : i < l.length
    · rw [List.getElem?_append_left hi] at hy
      exact hq i y hy
    · rw [List.getElem?_append_right (by omega)] at hy
      have h0 : i - l.length = 0 := by
        have := (List.getElem?_eq_some_iff.1 hy).1
        simp at this
        omega
      rw [h0] at hy
      simp at hy
      subst hy
      have : i = n := by omega
      subst this
      exact hx
theorem sl_of_each {α : Type} {W : World} {a : Addr} {len cap k : Nat} (hk : 0 < k) (hl : len ≤ cap) (f : α → List Value) (hf : ∀ x, (f x).length = k) (G : α → Prop)
    (h : ∀ i, i < len → ∃ x, G x ∧ ∀ j, j < k → W.cell? (a.add (i * k + j)) = (f x)[j]?) : ∃ l : List α, l.length = len ∧ Sl W k (.slice (some a) len cap) len (l.flatMap f) ∧ ∀ x ∈ l, G x := by
  obtain ⟨l, hll, hq⟩ := pick_list len h
  refine ⟨l, hll, ⟨some a, cap, rfl, hl, by rw [flat_len f k hf, hll], by simp, fun h0 => ?_⟩, fun x hx => ?_⟩
  · have ha : a = ⟨a.block, a.off, none⟩ := by
      have h1 : 0 < l.length := by omega
      have := (hq 0 l[0] (List.getElem?_eq_getElem h1)).2 0 hk
      rw [List.getElem?_eq_getElem (by rw [hf]; exact hk)] at this
      exact lit_of_cell (by simpa [Addr.add] using this)
    generalize a.block = b at ha
    generalize a.off = off at ha
    subst ha
    refine ⟨b, off, rfl, fun j u hu => ?_⟩
    have hj : j < len * k := by
      have := (List.getElem?_eq_some_iff.1 hu).1
      rwa [flat_len f k hf, hll] at this
    have hi : j / k < l.length := by rw [hll]; exact Nat.div_lt_of_lt_mul (by rw [Nat.mul_comm]; exact hj)
    have hg := flat_get f k hf l (j / k) (j % k) (Nat.mod_lt _ hk) l[j / k] (List.getElem?_eq_getElem hi)
    rw [show j / k * k + j % k = j by rw [Nat.mul_comm]; exact Nat.div_add_mod j k] at hg
    have h2 := (hq (j / k) l[j / k] (List.getElem?_eq_getElem hi)).2 (j % k) (Nat.mod_lt _ hk)
    rw [show j / k * k + j % k = j by rw [Nat.mul_comm]; exact Nat.div_add_mod j k, Addr.add_lit] at h2
    rw [h2, ← hg]
    exact hu
  · obtain ⟨i, hi, e⟩ := List.mem_iff_getElem.1 hx
    exact (hq i x (by rw [List.getElem?_eq_getElem hi, e])).1
theorem open_structs {H : Type} {enc : TypeId × Value → H} {P : Program} {W : World} {base : Nat} {spare : Nat → Bool} {held : Bool} {t e : TypeId} {fs : Array Field} {fuel : Nat} {v : Value} {y : DataW H × List MemPlace} (ht : P.underlying t = some (.slice e)) (hs : P.underlying e = some (.struct fs))
    (hone : oneCellFields P fs = true) (hC : P.cellsOf e = fs.size) (h : DataW.trod enc P W base spare held fuel t [v] = some y) :
    v = .slice none 0 0 ∨ ∃ a len cap, v = .slice (some a) len cap ∧ len ≤ cap ∧ cap ≤ maxLen ∧ ∀ i, i < len → ∃ cs : List Value, cs.length = fs.size ∧ (∀ j, j < fs.size → W.cell? (a.add (i * fs.size + j)) = cs[j]?) ∧
      ∃ n, ∀ (j : Nat) (f : Field) (c : Value), fs[j]? = some f → cs[j]? = some c → ∃ y, DataW.trod enc P W base spare held n f.type [c] = some y := by
  rcases open_slice ht h with ⟨h0, _⟩ | ⟨a, len, cap, m, n, D, Pl, h0, hb, hl, hm, hmm, rfl, hx⟩
  · exact .inl (by simpa using h0)
  · refine .inr ⟨a, len, cap, by simpa using h0, hl, hm, fun i hi => ?_⟩
    have hlm : len ≤ m := by rw [hmm]; split <;> omega
    obtain ⟨cs, h1, h2⟩ := hx i (by omega)
    rw [hC] at h1
    obtain ⟨_, hlen, hcell⟩ := World.cells?_some h1
    obtain ⟨xs, k, hk, hxy, _, hxl, hf⟩ := DataW.trod_struct hs h2
    refine ⟨cs, hlen, fun j hj => ?_, k, fun j f c hj hc => ?_⟩
    · have e1 := hcell j (by omega)
      rw [add_add] at e1
      rw [e1, List.getElem?_eq_getElem (by omega)]
    · obtain ⟨o, kk⟩ := hone_of hone j f hj
      have h3 := hf j f hj
      rw [o, kk] at h3
      have hjl : j < cs.length := (List.getElem?_eq_some_iff.1 hc).1
      have e : (cs.drop j).take 1 = [c] := by
        rw [List.drop_eq_getElem_cons hjl, List.take_succ_cons, List.take_zero]
        rw [List.getElem?_eq_getElem hjl] at hc
        rw [Option.some.inj hc]
      rw [e] at h3
      have hjx : j < xs.length := by omega
      rw [List.getElem?_eq_getElem hjx] at h3
      exact ⟨_, h3⟩
end Go.Proofs.YthgendgmlpaglaaDoor
