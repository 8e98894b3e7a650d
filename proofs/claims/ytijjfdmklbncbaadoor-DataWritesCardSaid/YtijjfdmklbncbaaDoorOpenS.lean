/-
  Arguments opened: structs and arrays by value whose parts are of one cell each.
-/
import Derived.Test.YtijjfdmklbncbaaDoorOpen
import Derived.Deep.Fields
import Derived.OpenShut
namespace Go.Proofs.YtijjfdmklbncbaaDoor
open Go.ChangeShapes Go.WideShapes Go.RowKit Go.Deep

theorem open_fields {H : Type} {enc : TypeId × Value → H} {P : Program} {w : World} {base : Nat} {spare : Nat → Bool} {held : Bool} {r : Reach} {b0 : Nat} {t : TypeId} {fs : Array Field} {v : Value} {d : DataW H} {p : List MemPlace}
    (hs : P.underlying t = some (.struct fs)) (hone : oneCellFields P fs = true) (hC : P.cellsOf t = fs.size) (hv : Value.okWide P w r b0 t v) (h : DataW.Trod enc P w base spare held t v d p) :
    ∃ (cs : List Value) (n : Nat), v = .agg cs.toArray ∧ cs.length = fs.size ∧ ∀ (j : Nat) (f : Field) (c : Value), fs[j]? = some f → cs[j]? = some c → ∃ y, DataW.trod enc P w base spare held n f.type [c] = some y := by
  obtain ⟨cs, rfl, hsz⟩ := okWide_struct hs hv
  obtain ⟨l⟩ := cs
  have hl : l.length = fs.size := by simpa using hsz.trans hC
  obtain ⟨fuel, hf⟩ := h
  obtain ⟨xs, n, _, _, _, hlen, hg⟩ := DataW.trod_struct hs hf
  refine ⟨l, n, rfl, hl, fun j f c hj hc => ?_⟩
  obtain ⟨o, k⟩ := hone_of hone j f hj
  have hjl : j < l.length := (List.getElem?_eq_some_iff.1 hc).1
  have h1 := hg j f hj
  rw [o, k] at h1
  have e : ((Value.agg l.toArray).cells.toList.drop j).take 1 = [c] := by
    show (l.drop j).take 1 = [c]
    rw [List.drop_eq_getElem_cons hjl, List.take_succ_cons, List.take_zero]
    rw [List.getElem?_eq_getElem hjl] at hc
    rw [Option.some.inj hc]
  rw [e, List.getElem?_eq_getElem (by omega)] at h1
  exact ⟨_, h1⟩
theorem open_elems {H : Type} {enc : TypeId × Value → H} {P : Program} {w : World} {base : Nat} {spare : Nat → Bool} {held : Bool} {r : Reach} {b0 : Nat} {t e : TypeId} {m : Nat} {v : Value} {d : DataW H} {p : List MemPlace}
    (hs : P.underlying t = some (.array m e)) (h1 : P.cellsOf e = 1) (hC : P.cellsOf t = m) (hv : Value.okWide P w r b0 t v) (h : DataW.Trod enc P w base spare held t v d p) :
    ∃ (cs : List Value) (n : Nat), v = .agg cs.toArray ∧ cs.length = m ∧ ∀ (j : Nat) (c : Value), cs[j]? = some c → ∃ y, DataW.trod enc P w base spare held n e [c] = some y := by
  obtain ⟨cs, rfl, hsz, _⟩ : ∃ cs, v = .agg cs ∧ cs.size = P.cellsOf t ∧ Row.okWide P w r b0 t cs := by
    simpa [Value.okWide, hs] using hv
  obtain ⟨l⟩ := cs
  have hl : l.length = m := by simpa using hsz.trans hC
  obtain ⟨fuel, hf⟩ := h
  obtain ⟨xs, n, _, _, _, hlen, hg⟩ := DataW.trod_array hs hf
  refine ⟨l, n, rfl, hl, fun j c hc => ?_⟩
  have hjl : j < l.length := (List.getElem?_eq_some_iff.1 hc).1
  have h2 := hg j (by omega)
  rw [h1, Nat.mul_one] at h2
  have e : ((Value.agg l.toArray).cells.toList.drop j).take 1 = [c] := by
    show (l.drop j).take 1 = [c]
    rw [List.drop_eq_getElem_cons hjl, List.take_succ_cons, List.take_zero]
    rw [List.getElem?_eq_getElem hjl] at hc
    rw [Option.some.inj hc]
  rw [e, List.getElem?_eq_getElem (by omega)] at h2
  exact ⟨_, h2⟩
theorem one_u16 {H : Type} {enc : TypeId × Value → H} {P : Program} {w : World} {base : Nat} {spare : Nat → Bool} {held : Bool} {t : TypeId} {n : Nat} {c : Value} {y : DataW H × List MemPlace} (ht : P.underlying t = some (.int .u16)) (h : DataW.trod enc P w base spare held n t [c] = some y) : ∃ k : Nat, c = .int .u16 k ∧ k < 65536 := by
  obtain ⟨x, e, _, wf⟩ := DataW.trod_int ht h
  obtain ⟨k, rfl, hk⟩ := nat_u16 wf
  exact ⟨k, by simpa using e, hk⟩
theorem one_u8 {H : Type} {enc : TypeId × Value → H} {P : Program} {w : World} {base : Nat} {spare : Nat → Bool} {held : Bool} {t : TypeId} {n : Nat} {c : Value} {y : DataW H × List MemPlace} (ht : P.underlying t = some (.int .u8)) (h : DataW.trod enc P w base spare held n t [c] = some y) : ∃ k : Nat, c = .int .u8 k ∧ k < 256 := by
  obtain ⟨x, e, _, wf⟩ := DataW.trod_int ht h
  obtain ⟨k, rfl, hk⟩ := nat_u8 wf
  exact ⟨k, by simpa using e, hk⟩
theorem one_bool {H : Type} {enc : TypeId × Value → H} {P : Program} {w : World} {base : Nat} {spare : Nat → Bool} {held : Bool} {t : TypeId} {n : Nat} {c : Value} {y : DataW H × List MemPlace} (ht : P.underlying t = some .bool) (h : DataW.trod enc P w base spare held n t [c] = some y) : ∃ k : Bool, c = .bool k := by
  obtain ⟨x, e, _⟩ := DataW.trod_bool ht h
  exact ⟨x, by simpa using e⟩
theorem one_int {H : Type} {enc : TypeId × Value → H} {P : Program} {w : World} {base : Nat} {spare : Nat → Bool} {held : Bool} {t : TypeId} {n : Nat} {c : Value} {y : DataW H × List MemPlace} (ht : P.underlying t = some (.int .i64)) (h : DataW.trod enc P w base spare held n t [c] = some y) : ∃ k : Int, c = .int .i64 k ∧ (Lit.int .i64 k).wf = true := by
  obtain ⟨x, e, _, wf⟩ := DataW.trod_int ht h
  exact ⟨x, by simpa using e, wf⟩
end Go.Proofs.YtijjfdmklbncbaaDoor
