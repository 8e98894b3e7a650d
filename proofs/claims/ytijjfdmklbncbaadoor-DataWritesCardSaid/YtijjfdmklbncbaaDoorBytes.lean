/-
  Slices of bytes in memory: a slice value that reads as a list of bytes ('SlB'), one that the call itself owns ('Own'). Conversions to strings. Nothing of the program stands here but the element type's number.
-/
import Derived.Test.YtijjfdmklbncbaaDoorProg
import Derived.Test.YtijjfdmklbncbaaDoorBase
namespace Go.Proofs.YtijjfdmklbncbaaDoor
open Go.RowKit

theorem ablock (a : Addr) (n : Nat) : (a.add n).block = a.block := by unfold Addr.add; split <;> rfl

/-- Bytes as cells. -/
def bv (l : List UInt8) : List Value := l.map fun c => .int .u8 c.toNat
theorem bv_len (l : List UInt8) : (bv l).length = l.length := by simp [bv]
theorem bv_append (a b : List UInt8) : bv (a ++ b) = bv a ++ bv b := by simp [bv]
theorem bv_one (l : List UInt8) : ∀ u ∈ bv l, u.oneCell' = true := by
  intro u hu
  obtain ⟨_, _, rfl⟩ := List.mem_map.1 hu
  rfl
theorem bv_get (l : List UInt8) (j : Nat) (h : j < l.length) : (bv l)[j]? = some (.int .u8 l[j].toNat) := by simp [bv, h]

/-- The slice value v reads as the bytes l. -/
def SlB (w : World) (v : Value) (l : List UInt8) : Prop :=
  ∃ A cap, v = .slice A l.length cap ∧ l.length ≤ cap ∧ (A = none → l.length = 0 ∧ cap = 0) ∧ ∀ ad, A = some ad → ∀ j u, (bv l)[j]? = some u → w.cell? (ad.add j) = some u

theorem SlB.kept {w w' : World} {v : Value} {l : List UInt8} {row : Option Nat} (h : SlB w v l) (g : w.grownBy w' row) (hr : ∀ b, row = some b → w.heap.size ≤ b ∨ v.ownBlock ≠ some b) : SlB w' v l := by
  obtain ⟨A, cap, rfl, h1, h2, h3⟩ := h
  refine ⟨A, cap, rfl, h1, h2, ?_⟩
  rintro ad rfl j u hu
  have hc := h3 ad rfl j u hu
  refine g.cell hc ?_
  intro e
  rcases hr _ e.symm with h | h
  · have := World.block_lt_of_cell? w _ hc
    omega
  · rw [ablock] at h
    exact h rfl
theorem SlB.kept0 {w w' : World} {v : Value} {l : List UInt8} (h : SlB w v l) (g : w.grownBy w' none) : SlB w' v l := h.kept g (fun _ e => by cases e)

theorem SlB.drew {w : World} {v : Value} {l : List UInt8} (h : SlB w v l) : SlB w.drew v l := h

/-- The slice value v is the call's own (it lies from block 'base' on) and holds the bytes l. -/
def Own (w : World) (base : Nat) (v : Value) (l : List UInt8) : Prop := w.ownsRow base 5 1 v l.length (bv l)

theorem Own.sl {w : World} {base : Nat} {v : Value} {l : List UInt8} (h : Own w base v l) : SlB w v l := by
  rcases h.2 with ⟨rfl, hl⟩ | ⟨g, cap, cur, rfl, _, hg, hc, _, hs, ht⟩
  · have : l = [] := List.eq_nil_of_length_eq_zero hl
    subst this
    exact ⟨none, 0, rfl, by simp, by simp, by simp⟩
  · refine ⟨some ⟨g, 0, none⟩, cap, rfl, hc, by simp, ?_⟩
    intro ad had j u hu
    obtain rfl := Option.some.inj had
    have hj : j < l.length := by
      have := (List.getElem?_eq_some_iff.1 hu).1
      rwa [bv_len] at this
    rw [Addr.add_lit, bcellAt hg, ← Array.getElem?_toList]
    rw [← ht, List.getElem?_take_of_lt (by omega)] at hu
    simpa using hu
theorem Own.nil (w : World) (base : Nat) : Own w base (.slice none 0 0) [] := World.ownsRow_nil _ _ _ _
theorem Own.kept {w w' : World} {base : Nat} {v : Value} {l : List UInt8} {row : Option Nat} (h : Own w base v l) (g : w.grownBy w' row) (hr : row = none ∨ v.ownBlock ≠ row) : Own w' base v l := by
  refine World.ownsRow.kept h g ?_
  rcases hr with rfl | hr
  · cases v.ownBlock <;> simp
  · exact .inr hr
theorem Own.base {w : World} {base base' : Nat} {v : Value} {l : List UInt8} (h : Own w base v l) (hb : base' ≤ base) : Own w base' v l := by
  obtain ⟨h1, h2⟩ := h
  refine ⟨h1, ?_⟩
  rcases h2 with h2 | ⟨g, cap, cur, h3, h4, h5⟩
  · exact .inl h2
  · exact .inr ⟨g, cap, cur, h3, Nat.le_trans hb h4, h5⟩
theorem Own.block {w : World} {base : Nat} {v : Value} {l : List UInt8} (h : Own w base v l) : ∀ k, v.ownBlock = some k → base ≤ k ∧ k < w.heap.size := World.ownsRow.lt h

theorem bv_ints (l : List UInt8) : bv l = (l.map fun c => (c.toNat : Int)).map (Value.int .u8) := by simp [bv, Function.comp_def]
theorem mk_ints (l : List UInt8) : (l.map fun c => (c.toNat : Int)).foldl (fun r n => r.push (UInt8.ofNat n.toNat)) ByteArray.empty = ⟨l.toArray⟩ := by
  rw [foldl_push_bytes]
  simp [ByteArray.empty, ByteArray.emptyWithCapacity, Function.comp_def]
  rfl
theorem mk_append_list (a b : List UInt8) : (⟨a.toArray⟩ : ByteArray) ++ (⟨b.toArray⟩ : ByteArray) = ⟨(a ++ b).toArray⟩ := ByteArray.mk_append_mk a b
/-- 'string(b)'. -/
theorem run_string_of {P : Program} (w : World) (src dst e : TypeId) (hs : P.underlying src = some (.slice e)) (he : P.underlying e = some (.int .u8)) (hd : P.underlying dst = some .string) {v : Value} {l : List UInt8} (h : SlB w v l) :
    (convert src dst v).run P w = .ok (.string ⟨l.toArray⟩) w := by
  obtain ⟨A, cap, rfl, h1, h2, h3⟩ := h
  rw [run_convert_bytes_string w src dst e _ _ cap hs he hd]
  cases A with
  | none =>
    have : l = [] := List.eq_nil_of_length_eq_zero (h2 rfl).1
    subst this
    simp [Conv.bytesToString]
    rfl
  | some ad =>
    have hl := run_loadCells_list (P := P) (w := w) ad (bv l) (h3 ad rfl)
    rw [bv_len, bv_ints] at hl
    rw [run_bytesToString w ad l.length cap _ hl, mk_ints]
/-- 'append(out, src...)' within the capacity. -/
theorem wpList_append_sl {P : Program} (w : World) {ops : Array Oper} {rest : List Oper} {o : Oper} {a : Act} {Q : Exit → Act → World → Prop}
    (hg : o.guard = none) (s x : Operand) (t : TypeId) (hop : o.op = Op.call { callee := Callee.builtin Builtin.append, args := #[s, x], argTypes := #[t, t] })
    (base : Nat) (i : TypeInfo) (h1 : P.underlying t = some (.slice 5)) (h2 : P.info? 5 = some i) (h4 : i.size = 1)
    (g cap : Nat) (xs news : List UInt8) (hs : a.eval s = .slice (some ⟨g, 0, none⟩) xs.length cap) (hown : Own w base (.slice (some ⟨g, 0, none⟩) xs.length cap) xs)
    (v : Value) (hx : a.eval x = v) (hsl : SlB w v news) (b1 : xs.length + news.length ≤ cap)
    (hK : ∀ w', Own w' base (.slice (some ⟨g, 0, none⟩) (xs ++ news).length cap) (xs ++ news) → w.grownBy w' (some g) → wpList P ops Q rest (a.put o.dst (.slice (some ⟨g, 0, none⟩) (xs ++ news).length cap)) w') :
    wpList P ops Q (o :: rest) a w := by
  obtain ⟨A, c, rfl, _, k2, k3⟩ := hsl
  refine wpList_append_fits_any w hg s x t hop base 5 i 1 h1 h2 h4 g xs.length cap (bv xs) hs hown A news.length c (bv news) hx (by simp [bv_len]) (fun e => k2 e) (fun ad e => k3 ad e) (bv_one _) b1 ?_
  intro w' ho hgr
  have := hK w' (by unfold Own; rw [bv_append, List.length_append]; exact ho) hgr
  rwa [List.length_append] at this
theorem sl_newz (w : World) (t : TypeId) (l : List UInt8) (cs : Array Value) (z : Nat × Nat) (n : Nat) (h : cs.toList = bv l) (hn : n = l.length) : SlB (w.alloc (.cells cs t z)) (.slice (some ⟨w.heap.size, 0, none⟩) n n) l := by
  subst hn
  refine ⟨_, _, rfl, Nat.le_refl _, by simp, ?_⟩
  intro ad had j u hu
  obtain rfl := Option.some.inj had
  rw [Addr.add_lit]
  have := bcellAt (balloc w (.cells cs t z)) (0 + j)
  rw [this, ← Array.getElem?_toList, h]
  simpa using hu
theorem sl_new (w : World) (t : TypeId) (l : List UInt8) (cs : Array Value) (n : Nat) (h : cs.toList = bv l) (hn : n = l.length) : SlB (w.alloc (.cells cs t)) (.slice (some ⟨w.heap.size, 0, none⟩) n n) l := sl_newz w t l cs (0, 0) n h hn
theorem Tryd.infoByte : (Tryd.prog.info? 5).map (fun i => (i.zero, i.size, i.bytes)) = some (some (.int .u8 0), 1, 1) := by kernel_rfl
end Go.Proofs.YtijjfdmklbncbaaDoor
