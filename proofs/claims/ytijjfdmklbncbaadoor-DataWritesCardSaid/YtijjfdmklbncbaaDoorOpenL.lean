/-
  A slice of structs whose parts are of one cell each, opened: the elements as a list.
-/
import Derived.Test.YtijjfdmklbncbaaDoorOpenS
import Derived.Test.YtijjfdmklbncbaaDoorSl
import Derived.Deep.SlicePairs
namespace Go.Proofs.YtijjfdmklbncbaaDoor
open Go.ChangeShapes Go.WideShapes Go.RowKit Go.Deep

theorem pick_list {α : Type} {Q : Nat → α → Prop} : ∀ n : Nat, (∀ i, i < n → ∃ x, Q i x) → ∃ l : List α, l.length = n ∧ ∀ i x, l[i]? = some x → Q i x
  | 0, _ => ⟨[], rfl, fun i x h => by simp at h⟩
  | n + 1, h => by
    obtain ⟨l, hl, hq⟩ := pick_list n (fun i hi => h i (by omega))
    obtain ⟨x, hx⟩ := h n (by omega)
    refine ⟨l ++ [x], by simp [hl], fun i y hy => ?_⟩
    by_cases hi : i < l.length
    · rw [List.getElem?_append_left hi] at hy
      exact hq i y hy
    · rw [List.getElem?_append_right (by omega)] at hy
      have h0 : i - l.length = 0 := by
        have := (List.getElem?_eq_some_iff.1 hy).1
        simp at this
        omega
      rw [h0] at hy
      simp at hy
      subst hy
      have : i = n := by omega
      subst this
      exact hx
theorem sl_of_each {α : Type} {W : World} {a : Addr} {len cap k : Nat} (hk : 0 < k) (hl : len ≤ cap) (f : α → List Value) (hf : ∀ x, (f x).length = k) (G : α → Prop)
    (h : ∀ i, i < len → ∃ x, G x ∧ ∀ j, j < k → W.cell? (a.add (i * k + j)) = (f x)[j]?) : ∃ l : List α, l.length = len ∧ Sl W k (.slice (some a) len cap) len (l.flatMap f) ∧ ∀ x ∈ l, G x := by
  obtain ⟨l, hll, hq⟩ := pick_list len h
  refine ⟨l, hll, ⟨some a, cap, rfl, hl, by rw [flat_len f k hf, hll], by simp, fun h0 => ?_⟩, fun x hx => ?_⟩
  · have ha : a = ⟨a.block, a.off, none⟩ := by
      have h1 : 0 < l.length := by omega
      have := (hq 0 l[0] (List.getElem?_eq_getElem h1)).2 0 hk
      rw [List.getElem?_eq_getElem (by rw [hf]; exact hk)] at this
      exact lit_of_cell (by simpa [Addr.add] using this)
    generalize a.block = b at ha
    generalize a.off = off at ha
    subst ha
    refine ⟨b, off, rfl, fun j u hu => ?_⟩
    have hj : j < len * k := by
      have := (List.getElem?_eq_some_iff.1 hu).1
      rwa [flat_len f k hf, hll] at this
    have hi : j / k < l.length := by rw [hll]; exact Nat.div_lt_of_lt_mul (by rw [Nat.mul_comm]; exact hj)
    have hg := flat_get f k hf l (j / k) (j % k) (Nat.mod_lt _ hk) l[j / k] (List.getElem?_eq_getElem hi)
    rw [show j / k * k + j % k = j by rw [Nat.mul_comm]; exact Nat.div_add_mod j k] at hg
    have h2 := (hq (j / k) l[j / k] (List.getElem?_eq_getElem hi)).2 (j % k) (Nat.mod_lt _ hk)
    rw [show j / k * k + j % k = j by rw [Nat.mul_comm]; exact Nat.div_add_mod j k, Addr.add_lit] at h2
    rw [h2, ← hg]
    exact hu
  · obtain ⟨i, hi, e⟩ := List.mem_iff_getElem.1 hx
    exact (hq i x (by rw [List.getElem?_eq_getElem hi, e])).1
theorem open_structs {H : Type} {enc : TypeId × Value → H} {P : Program} {W : World} {base : Nat} {spare : Nat → Bool} {held : Bool} {t e : TypeId} {fs : Array Field} {fuel : Nat} {v : Value} {y : DataW H × List MemPlace} (ht : P.underlying t = some (.slice e)) (hs : P.underlying e = some (.struct fs))
    (hone : oneCellFields P fs = true) (hC : P.cellsOf e = fs.size) (h : DataW.trod enc P W base spare held fuel t [v] = some y) :
    v = .slice none 0 0 ∨ ∃ a len cap, v = .slice (some a) len cap ∧ len ≤ cap ∧ cap ≤ maxLen ∧ ∀ i, i < len → ∃ cs : List Value, cs.length = fs.size ∧ (∀ j, j < fs.size → W.cell? (a.add (i * fs.size + j)) = cs[j]?) ∧
      ∃ n, ∀ (j : Nat) (f : Field) (c : Value), fs[j]? = some f → cs[j]? = some c → ∃ y, DataW.trod enc P W base spare held n f.type [c] = some y := by
  rcases open_slice ht h with ⟨h0, _⟩ | ⟨a, len, cap, m, n, D, Pl, h0, hb, hl, hm, hmm, rfl, hx⟩
  · exact .inl (by simpa using h0)
  · refine .inr ⟨a, len, cap, by simpa using h0, hl, hm, fun i hi => ?_⟩
    have hlm : len ≤ m := by rw [hmm]; split <;> omega
    obtain ⟨cs, h1, h2⟩ := hx i (by omega)
    rw [hC] at h1
    obtain ⟨_, hlen, hcell⟩ := World.cells?_some h1
    obtain ⟨xs, k, hk, hxy, _, hxl, hf⟩ := DataW.trod_struct hs h2
    refine ⟨cs, hlen, fun j hj => ?_, k, fun j f c hj hc => ?_⟩
    · have e1 := hcell j (by omega)
      rw [add_add] at e1
      rw [e1, List.getElem?_eq_getElem (by omega)]
    · obtain ⟨o, kk⟩ := hone_of hone j f hj
      have h3 := hf j f hj
      rw [o, kk] at h3
      have hjl : j < cs.length := (List.getElem?_eq_some_iff.1 hc).1
      have e : (cs.drop j).take 1 = [c] := by
        rw [List.drop_eq_getElem_cons hjl, List.take_succ_cons, List.take_zero]
        rw [List.getElem?_eq_getElem hjl] at hc
        rw [Option.some.inj hc]
      rw [e] at h3
      have hjx : j < xs.length := by omega
      rw [List.getElem?_eq_getElem hjx] at h3
      exact ⟨_, h3⟩
end Go.Proofs.YtijjfdmklbncbaaDoor
