/-
  Sets (layer 10): as they lie in memory, as they come in.
-/
import Derived.Test.YtomjiephbacocaaDoorA3
import Derived.Test.YtomjiephbacocaaDoorA6
import Derived.SliceStrings
namespace Go.Proofs.YtomjiephbacocaaDoor
open Go.ChangeShapes Go.WideShapes Go.RowKit Go.Deep

structure St where
  name : ByteArray
  kind : Nat
  cls : Nat
  ttl : Nat
  vd : Value
  data : List ByteArray
def stv (x : St) : List Value := [.string x.name, .int .u16 (x.kind : Int), .int .u16 (x.cls : Int), .int .u32 (x.ttl : Int), x.vd]
theorem stv_len (x : St) : (stv x).length = 5 := rfl
/-- A set as a value. -/
def St.val (x : St) : Value := .agg #[.string x.name, .int .u16 (x.kind : Int), .int .u16 (x.cls : Int), .int .u32 (x.ttl : Int), x.vd]
/-- A set's data lie in memory. -/
def StW (w : World) (x : St) : Prop := Sl w 1 x.vd x.data.length (strs x.data)
def Sts (w : World) (v : Value) (l : List St) : Prop := Sl w 5 v l.length (l.flatMap stv) ∧ ∀ x ∈ l, StW w x
theorem StW.kept {w w' : World} {x : St} (h : StW w x) (g : w.grownBy w' none) : StW w' x := Sl.kept0 h g
theorem Sts.kept {w w' : World} {v : Value} {l : List St} (h : Sts w v l) (g : w.grownBy w' none) : Sts w' v l := ⟨Sl.kept0 h.1 g, fun x hx => (h.2 x hx).kept g⟩
theorem Sts.shape {w : World} {v : Value} {l : List St} (h : Sts w v l) : ∃ A cap, v = .slice A l.length cap ∧ l.length ≤ cap := by
  obtain ⟨A, cap, e, h1, _⟩ := h.1
  exact ⟨A, cap, e, h1⟩
theorem StW.shape {w : World} {x : St} (h : StW w x) : ∃ A cap, x.vd = .slice A x.data.length cap ∧ x.data.length ≤ cap := by
  obtain ⟨A, cap, e, h1, _⟩ := h
  exact ⟨A, cap, e, h1⟩
/-- The cells of a set in a row. -/
theorem Sts.at {w : World} {A : Option Addr} {n cap i : Nat} {l : List St} (h : Sts w (.slice A n cap) l) (hi : i < l.length) : ∃ b off, A = some ⟨b, off, none⟩ ∧ n = l.length ∧ n ≤ cap ∧
    w.cell? ⟨b, off + i * 5, none⟩ = some (.string l[i].name) ∧ w.cell? ⟨b, off + i * 5 + 1, none⟩ = some (.int .u16 (l[i].kind : Int)) ∧ w.cell? ⟨b, off + i * 5 + 2, none⟩ = some (.int .u16 (l[i].cls : Int)) ∧
    w.cell? ⟨b, off + i * 5 + 3, none⟩ = some (.int .u32 (l[i].ttl : Int)) ∧ w.cell? ⟨b, off + i * 5 + 4, none⟩ = some l[i].vd := by
  obtain ⟨A', cap', e, h1, h2, h3, h4⟩ := h.1
  simp only [Value.slice.injEq] at e
  obtain ⟨rfl, rfl, rfl⟩ := e
  obtain ⟨b, off, rfl, hc⟩ := h4 (by omega)
  have key : ∀ j u, j < 5 → (stv l[i])[j]? = some u → w.cell? ⟨b, off + i * 5 + j, none⟩ = some u := by
    intro j u hj hu
    have := hc (i * 5 + j) u (by rw [flat_get stv 5 stv_len l i j hj l[i] (List.getElem?_eq_getElem hi)]; exact hu)
    rwa [← Nat.add_assoc] at this
  exact ⟨b, off, rfl, rfl, h1, key 0 _ (by omega) rfl, key 1 _ (by omega) rfl, key 2 _ (by omega) rfl, key 3 _ (by omega) rfl, key 4 _ (by omega) rfl⟩
/-- The cell of a datum. -/
theorem sl_str {w : World} {A : Option Addr} {n cap i : Nat} {l : List ByteArray} (h : Sl w 1 (.slice A n cap) l.length (strs l)) (hi : i < l.length) : ∃ b off, A = some ⟨b, off, none⟩ ∧ n = l.length ∧ n ≤ cap ∧ w.cell? ⟨b, off + i, none⟩ = some (.string l[i]) := by
  obtain ⟨A', cap', e, h1, h2, h3, h4⟩ := h
  simp only [Value.slice.injEq] at e
  obtain ⟨rfl, rfl, rfl⟩ := e
  obtain ⟨b, off, rfl, hc⟩ := h4 (by omega)
  exact ⟨b, off, rfl, rfl, h1, hc i _ (by simp [strs, hi])⟩
theorem one_u32 {H : Type} {enc : TypeId × Value → H} {P : Program} {w : World} {base : Nat} {spare : Nat → Bool} {held : Bool} {t : TypeId} {n : Nat} {c : Value} {y : DataW H × List MemPlace} (ht : P.underlying t = some (.int .u32)) (h : DataW.trod enc P w base spare held n t [c] = some y) : ∃ k : Nat, c = .int .u32 k ∧ k < 4294967296 := by
  obtain ⟨x, e, _, wf⟩ := DataW.trod_int ht h
  obtain ⟨k, rfl, hk⟩ := nat_u32 wf
  exact ⟨k, by simpa using e, hk⟩
theorem one_strs {H : Type} {enc : TypeId × Value → H} {P : Program} {w : World} {held : Bool} {t e : TypeId} {n : Nat} {c : Value} {y : DataW H × List MemPlace} (ht : P.underlying t = some (.slice e)) (he : P.underlying e = some .string) (hc : P.cellsOf e = 1)
    (h : DataW.trod enc P w 0 (fun _ => true) held n t [c] = some y) : ∃ l : List ByteArray, Sl w 1 c l.length (strs l) ∧ l.length ≤ maxLen ∧ ∀ s ∈ l, s.size ≤ maxLen := by
  rcases open_strings ht he hc h with ⟨h0, _⟩ | ⟨a, len, cap, ss, h0, _, hl, hm, hlen, _, hx, hs⟩
  · refine ⟨[], ?_, by simp, by simp⟩
    have : c = .slice none 0 0 := by simpa using h0
    rw [this]
    exact Sl.nil w 1
  · have h0' : c = .slice (some a) len cap := by simpa using h0
    subst h0'
    have hss : ss.length = cap := by simpa using hlen
    have hl2 : (ss.take len).length = len := by simp; omega
    refine ⟨ss.take len, ⟨some a, cap, by rw [hl2], by rw [hl2]; exact hl, by simp [strs], by simp, fun hn => ?_⟩, by omega, fun s h => hs s (List.mem_of_mem_take h)⟩
    rw [hl2] at hn
    have ha : a = ⟨a.block, a.off, none⟩ := by
      have := hx 0 (by omega)
      have h1 := lit_of_cell this
      simpa [Addr.add] using h1
    generalize a.block = b at ha
    generalize a.off = off at ha
    subst ha
    refine ⟨b, off, rfl, fun j u hu => ?_⟩
    have hj : j < len := by
      have := (List.getElem?_eq_some_iff.1 hu).1
      simp [strs] at this
      omega
    have h1 := hx j (by omega)
    rw [Addr.add_lit] at h1
    rw [h1, ← hu]
    have hj2 : j < ss.length := by omega
    simp [strs, hj, hj2]
/-- A slice of sets that came in. -/
theorem open_sets {H : Type} {enc : TypeId × Value → H} {W : World} {v : Value} {d : DataW H} {p : List MemPlace}
    (h : DataW.Trod enc Tryd.prog W 0 (fun _ => true) true 22 v d p) (hv : ∃ A n c, v = .slice A n c) : ∃ l : List St, Sts W v l ∧ l.length ≤ maxLen ∧ ∀ x ∈ l, x.kind < 65536 ∧ x.cls < 65536 ∧ x.ttl < 4294967296 ∧ x.name.size ≤ maxLen ∧ x.data.length ≤ maxLen ∧ ∀ s ∈ x.data, s.size ≤ maxLen := by
  obtain ⟨fuel, hf⟩ := h
  obtain ⟨A, n, c, rfl⟩ := hv
  rcases open_structs Tryd.underlying22 Tryd.underlying27 (by kernel_rfl) (by kernel_rfl) hf with h0 | ⟨a, len, cap, h0, hl, hm, hx⟩
  · refine ⟨[], ?_, by simp, by simp⟩
    rw [h0]
    exact ⟨Sl.nil W 5, by simp⟩
  · rw [h0]
    obtain ⟨l, e1, e2, e3⟩ := sl_of_each (α := St) (W := W) (a := a) (len := len) (cap := cap) (k := 5) (by decide) hl stv stv_len (fun x => StW W x ∧ x.kind < 65536 ∧ x.cls < 65536 ∧ x.ttl < 4294967296 ∧ x.name.size ≤ maxLen ∧ x.data.length ≤ maxLen ∧ ∀ s ∈ x.data, s.size ≤ maxLen) (by
      intro i hi
      obtain ⟨cs, hcl, hc, n, hy⟩ := hx i hi
      match cs, hcl with
      | [c0, c1, c2, c3, c4], _ =>
        obtain ⟨_, y0⟩ := hy 0 _ c0 rfl rfl
        obtain ⟨_, y1⟩ := hy 1 _ c1 rfl rfl
        obtain ⟨_, y2⟩ := hy 2 _ c2 rfl rfl
        obtain ⟨_, y3⟩ := hy 3 _ c3 rfl rfl
        obtain ⟨_, y4⟩ := hy 4 _ c4 rfl rfl
        obtain ⟨s, q0, _, hs⟩ := DataW.trod_string Tryd.underlying9 y0
        obtain ⟨g1, q1, hg1⟩ := one_u16 Tryd.underlying23 y1
        obtain ⟨g2, q2, hg2⟩ := one_u16 Tryd.underlying23 y2
        obtain ⟨g3, q3, hg3⟩ := one_u32 Tryd.underlying24 y3
        obtain ⟨dl, q4, hd1, hd2⟩ := one_strs Tryd.underlying25 Tryd.underlying9 (by kernel_rfl) y4
        have q0' : c0 = .string s := by simpa using q0
        subst q0' q1 q2 q3
        exact ⟨⟨s, g1, g2, g3, c4, dl⟩, ⟨q4, hg1, hg2, hg3, hs, hd1, hd2⟩, fun j hj => hc j hj⟩)
    refine ⟨l, ⟨?_, fun x hx => (e3 x hx).1⟩, by omega, fun x hx => (e3 x hx).2⟩
    rw [e1]
    exact e2
set_option maxRecDepth 100000 in
/-- A set that came in. -/
theorem open_set {H : Type} {enc : TypeId × Value → H} {W : World} {r : Reach} {b0 : Nat} {v : Value} {d : DataW H} {p : List MemPlace}
    (hv : Value.okWide Tryd.prog W r b0 27 v) (h : DataW.Trod enc Tryd.prog W 0 (fun _ => true) true 27 v d p) : ∃ x : St, v = x.val ∧ StW W x ∧ x.kind < 65536 ∧ x.cls < 65536 ∧ x.ttl < 4294967296 ∧ x.name.size ≤ maxLen ∧ x.data.length ≤ maxLen ∧ ∀ s ∈ x.data, s.size ≤ maxLen := by
  obtain ⟨cs, n, rfl, hcl, hy⟩ := open_fields Tryd.underlying27 (by kernel_rfl) (by kernel_rfl) hv h
  match cs, hcl with
  | [c0, c1, c2, c3, c4], _ =>
    obtain ⟨_, y0⟩ := hy 0 _ c0 rfl rfl
    obtain ⟨_, y1⟩ := hy 1 _ c1 rfl rfl
    obtain ⟨_, y2⟩ := hy 2 _ c2 rfl rfl
    obtain ⟨_, y3⟩ := hy 3 _ c3 rfl rfl
    obtain ⟨_, y4⟩ := hy 4 _ c4 rfl rfl
    obtain ⟨s, q0, _, hs⟩ := DataW.trod_string Tryd.underlying9 y0
    obtain ⟨g1, q1, hg1⟩ := one_u16 Tryd.underlying23 y1
    obtain ⟨g2, q2, hg2⟩ := one_u16 Tryd.underlying23 y2
    obtain ⟨g3, q3, hg3⟩ := one_u32 Tryd.underlying24 y3
    obtain ⟨dl, q4, hd1, hd2⟩ := one_strs Tryd.underlying25 Tryd.underlying9 (by kernel_rfl) y4
    have q0' : c0 = .string s := by simpa using q0
    subst q0' q1 q2 q3
    exact ⟨⟨s, g1, g2, g3, c4, dl⟩, rfl, q4, hg1, hg2, hg3, hs, hd1, hd2⟩
end Go.Proofs.YtomjiephbacocaaDoor
