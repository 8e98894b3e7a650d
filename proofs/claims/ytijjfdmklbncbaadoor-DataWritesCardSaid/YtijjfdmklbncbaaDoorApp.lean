/-
  append onto bytes of the call's own: from a slice of bytes, from a string, of bytes written out. make([]byte, 0, n).
-/
import Derived.Test.YtijjfdmklbncbaaDoorSl
import Derived.Lib.AppendStr
import Derived.Laws.AppendOwnNone
namespace Go.Proofs.YtijjfdmklbncbaaDoor
open Go.RowKit

section
variable {P : Program} {w : World} {ops : Array Oper} {rest : List Oper} {o : Oper} {a : Act} {Q : Exit → Act → World → Prop}

/-- 'append(out, src...)', src a slice of bytes. -/
theorem wpList_app_sl (hg : o.guard = none) (s x : Operand) (t : TypeId) (hop : o.op = Op.call { callee := Callee.builtin Builtin.append, args := #[s, x], argTypes := #[t, t] })
    (base : Nat) (i : TypeInfo) (h1 : P.underlying t = some (.slice 5)) (h2 : P.info? 5 = some i) (h3 : i.zero = some (.int .u8 0)) (h4 : i.size = 1) (h5 : i.bytes = 1)
    (v : Value) (xs news : List UInt8) (hs : a.eval s = v) (hown : Own w base v xs) (vx : Value) (hx : a.eval x = vx) (hsl : SlB w vx news) (b1 : xs.length + news.length ≤ 140737488355328) (hb : base ≤ w.heap.size)
    (hK : ∀ v' w', Own w' base v' (xs ++ news) → w.grownBy w' v.ownBlock → wpList P ops Q rest (a.put o.dst v') w') : wpList P ops Q (o :: rest) a w := by
  obtain ⟨A, c, rfl, _, k2, k3⟩ := hsl
  have hm : xs.length + news.length ≤ maxLen := by unfold maxLen; omega
  cases A with
  | none =>
    obtain ⟨e1, rfl⟩ := k2 rfl
    have : news = [] := List.eq_nil_of_length_eq_zero e1
    subst this
    refine wpList_append_own_none hg s x t hop base 5 i 1 h1 h2 v xs.length (bv xs) hs hown (by simpa using hx) ?_
    simpa using hK v w (by simpa using hown) (grefl w _)
  | some ad =>
    refine wpList_append_own w hg s x t hop base 5 i (.int .u8 0) 1 1 h1 h2 h3 h4 h5 rfl (by omega) v xs.length (bv xs) hs hown ad news.length c (bv news) hx (by simp [bv_len]) (k3 ad rfl) (bv_one _) hm (by omega) hb ?_
    intro v' w' ho hgr _
    exact hK v' w' (by unfold Own; rw [List.length_append, bv_append]; exact ho) hgr
/-- 'append(out, s...)', s a string. -/
theorem wpList_app_str (hg : o.guard = none) (s x : Operand) (t u : TypeId) (hop : o.op = Op.call { callee := Callee.builtin Builtin.append, args := #[s, x], argTypes := #[t, u] })
    (base : Nat) (i : TypeInfo) (h1 : P.underlying t = some (.slice 5)) (hu : P.underlying u = some .string) (h2 : P.info? 5 = some i) (h3 : i.zero = some (.int .u8 0)) (h4 : i.size = 1) (h5 : i.bytes = 1)
    (v : Value) (xs : List UInt8) (hs : a.eval s = v) (hown : Own w base v xs) (c : ByteArray) (hx : a.eval x = .string c) (b1 : xs.length + c.size ≤ 140737488355328) (hb : base ≤ w.heap.size)
    (hK : ∀ v' w', Own w' base v' (xs ++ c.data.toList) → w.grownBy w' v.ownBlock → wpList P ops Q rest (a.put o.dst v') w') : wpList P ops Q (o :: rest) a w := by
  refine Lib.wpList_append_own_string w hg s x t u hop base 5 i h1 hu h2 h3 h4 h5 v xs.length (bv xs) hs hown c hx (by unfold maxLen; omega) b1 hb ?_
  intro v' w' ho hgr _
  refine hK v' w' ?_ hgr
  unfold Own
  rw [List.length_append, bv_append]
  exact ho
/-- 'append(out, src...)', elements of k cells. -/
theorem wpList_app_k (hg : o.guard = none) (s x : Operand) (t : TypeId) (hop : o.op = Op.call { callee := Callee.builtin Builtin.append, args := #[s, x], argTypes := #[t, t] })
    (base : Nat) (e : TypeId) (i : TypeInfo) (z : Value) (k bytes : Nat) (h1 : P.underlying t = some (.slice e)) (h2 : P.info? e = some i) (h3 : i.zero = some z) (h4 : i.size = k) (h5 : i.bytes = bytes) (h6 : z.cells.size = k) (h7 : 0 < k)
    (v : Value) (n m : Nat) (xs news : List Value) (hs : a.eval s = v) (hown : w.ownsRow base e k v n xs) (vx : Value) (hx : a.eval x = vx) (hsl : Sl w k vx m news) (hone : ∀ u ∈ news, u.oneCell' = true) (b0 : n + m ≤ maxLen) (b1 : (n + m) * bytes ≤ 140737488355328) (hb : base ≤ w.heap.size)
    (hK : ∀ v' w', w'.ownsRow base e k v' (n + m) (xs ++ news) → w.grownBy w' v.ownBlock → wpList P ops Q rest (a.put o.dst v') w') : wpList P ops Q (o :: rest) a w := by
  obtain ⟨A, c, rfl, _, k1, k2, k3⟩ := hsl
  cases A with
  | none =>
    obtain ⟨rfl, rfl⟩ := k2 rfl
    have : news = [] := List.eq_nil_of_length_eq_zero (by simpa using k1)
    subst this
    refine wpList_append_own_none hg s x t hop base e i k h1 h2 v n xs hs hown hx ?_
    exact hK v w (by simpa using hown) (grefl w _)
  | some ad =>
    refine wpList_append_own w hg s x t hop base e i z k bytes h1 h2 h3 h4 h5 h6 h7 v n xs hs hown ad m c news hx k1 ?_ hone b0 b1 hb ?_
    · intro j u hu
      have hm : 0 < m := by
        rcases Nat.eq_zero_or_pos m with h0 | h0
        · subst h0
          have : news = [] := List.eq_nil_of_length_eq_zero (by simpa using k1)
          subst this
          simp at hu
        · exact h0
      obtain ⟨b, off, e1, hc⟩ := k3 hm
      cases e1
      rw [Addr.add_lit]
      exact hc j u hu
    · intro v' w' ho hgr _
      exact hK v' w' ho hgr
/-- 'make([]byte, n)'. -/
theorem wpList_make_z (hg : o.guard = none) (l c : Operand) (t : TypeId) (hop : o.op = Op.makeSlice t l c)
    (base : Nat) (i : TypeInfo) (h1 : P.underlying t = some (.slice 5)) (h2 : P.info? 5 = some i) (h3 : i.zero = some (.int .u8 0)) (h4 : i.size = 1) (h5 : i.bytes = 1)
    (kl kc : IntKind) (L C : Int) (n : Nat) (hl : a.eval l = .int kl L) (hc : a.eval c = .int kc C) (hL : L = (n : Int)) (hC : C = (n : Int)) (b2 : n ≤ 281474976710656) (b4 : base ≤ w.heap.size)
    (hK : ∀ w', Own w' base (.slice (some ⟨w.heap.size, 0, none⟩) n n) (List.replicate n 0) → w.grownBy w' none → wpList P ops Q rest (a.put o.dst (.slice (some ⟨w.heap.size, 0, none⟩) n n)) w') :
    wpList P ops Q (o :: rest) a w := by
  refine wpList_make_full w hg l c t hop base 5 i (.int .u8 0) 1 h1 h2 h3 h4 kl kc L C n hl hc hL hC (by rw [h5]; omega) (by unfold maxLen; omega) b4 ?_
  intro w' ho hgr
  refine hK w' ?_ hgr
  unfold Own
  have e : (madeCells (Value.int .u8 0).cells (n * 1)).toList = bv (List.replicate n 0) := by
    rw [Nat.mul_one]
    show (madeCells #[Value.int .u8 0] n).toList = _
    rw [toList_madeCells_one, bv, List.map_replicate]
    rfl
  rw [e] at ho
  simpa using ho
end
theorem own_none (w : World) (base : Nat) (e : TypeId) (k : Nat) (hb : base ≤ w.heap.size) : (w.alloc (.cells #[] e)).ownsRow base e k (.slice (some ⟨w.heap.size, 0, none⟩) 0 0) 0 [] :=
  ⟨by simp, .inr ⟨w.heap.size, 0, #[], rfl, hb, balloc w _, Nat.le_refl _, by unfold maxLen; omega, by simp, by simp⟩⟩
theorem own_none1 (w : World) (o : Obj) (e : TypeId) (k : Nat) : ((w.alloc o).alloc (.cells #[] e)).ownsRow (w.heap.size + 1) e k (.slice (some ⟨w.heap.size + 1, 0, none⟩) 0 0) 0 [] := by
  have h := own_none (w.alloc o) (w.heap.size + 1) e k (by simp)
  rw [asz] at h
  exact h
theorem Own.kepto {w w' : World} {base : Nat} {v : Value} {l : List UInt8} {b : Nat} (h : Own w base v l) (g : w.grownBy w' (some b)) (hb : b < base) : Own w' base v l := own_kept h g hb
theorem Own.kept0 {w w' : World} {base : Nat} {v : Value} {l : List UInt8} (h : Own w base v l) (g : w.grownBy w' none) : Own w' base v l := own_kept0 h g
theorem Own.shape {w : World} {base : Nat} {v : Value} {l : List UInt8} (h : Own w base v l) : ∃ A cap, v = .slice A l.length cap ∧ l.length ≤ cap ∧ cap ≤ maxLen := own_shape h
end Go.Proofs.YtijjfdmklbncbaaDoor
