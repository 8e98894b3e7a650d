/-
  A slice of numbers of 32 bits that came in, opened.
-/
import Derived.Test.YtndkgogohlikiaaDoorOpen
import Derived.Test.YtndkgogohlikiaaDoorBack02
namespace Go.Proofs.YtndkgogohlikiaaDoor
open Go.ChangeShapes Go.WideShapes Go.RowKit

theorem open_u32s {H : Type} {enc : TypeId × Value → H} {W : World} {A : Option Addr} {len cap : Nat} {d : DataW H} {p : List MemPlace}
    (h : DataW.Trod enc Tryd.prog W 0 (fun _ => true) true 58 (.slice A len cap) d p) : ∃ f, U32s W A len f := by
  obtain ⟨fuel, hf⟩ := h
  rcases Go.ChangeShapes.open_ints Tryd.underlying58 Tryd.underlying28 (by kernel_rfl) hf with ⟨hcs, _⟩ | ⟨a, len', cap', zs, hcs, _, hl, hm, hz, _, hx, hwf⟩
  · have hlen : len = 0 := by simp [Value.cells] at hcs; exact hcs.2.1
    exact ⟨fun _ => 0, fun h => by omega⟩
  · obtain ⟨rfl, rfl, rfl⟩ : A = some a ∧ len = len' ∧ cap = cap' := by simpa [Value.cells] using hcs
    have hzl : zs.length = cap := by simpa using hz
    refine ⟨fun i => (zs.getD i 0).toNat, fun h0 => ?_⟩
    have ha : a = ⟨a.block, a.off, none⟩ := by
      have := hx 0 (by omega)
      exact lit_of_cell (by simpa [Addr.add] using this)
    generalize a.block = b at ha
    generalize a.off = off at ha
    subst ha
    refine ⟨b, off, rfl, fun i hi => ?_⟩
    have hjz : i < zs.length := by omega
    have h1 := hx i hjz
    rw [Addr.add_lit] at h1
    have hb := hwf zs[i] (List.getElem_mem hjz)
    have hb' : 0 ≤ zs[i] ∧ zs[i] ≤ 4294967295 := by simpa [Lit.wf, IntKind.min, IntKind.max, IntKind.signed, IntKind.bits] using hb
    have e1 : zs.getD i 0 = zs[i] := by simp [List.getD, hjz]
    show _ = some (Value.int .u32 ((zs.getD i 0).toNat : Nat)) ∧ (zs.getD i 0).toNat < 4294967296
    rw [h1, e1]
    refine ⟨?_, by omega⟩
    rw [Int.toNat_of_nonneg hb'.1]
end Go.Proofs.YtndkgogohlikiaaDoor
