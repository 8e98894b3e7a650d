/-
  A slice of acts that came in, opened.
-/
import Derived.Test.YtndkgogohlikiaaDoorOpen
import Derived.Test.YtndkgogohlikiaaDoorReads02
import Derived.Deep.SlicePairs
namespace Go.Proofs.YtndkgogohlikiaaDoor
open Go.ChangeShapes Go.WideShapes Go.RowKit

theorem open_acts {H : Type} {enc : TypeId × Value → H} {W : World} {A : Option Addr} {len cap : Nat} {d : DataW H} {p : List MemPlace}
    (h : DataW.Trod enc Tryd.prog W 0 (fun _ => true) true 47 (.slice A len cap) d p) : ∃ wh ns, Acts W A len wh ns := by
  obtain ⟨fuel, hf⟩ := h
  rcases Deep.open_slice_pairs Tryd.underlying47 Tryd.underlying53 (by kernel_rfl) rfl rfl (by kernel_rfl) (by kernel_rfl) hf with ⟨hcs, _⟩ | ⟨a, len', cap', m, n, V0, V1, D0, D1, P0, P1, hcs, _, hl, hm, hmm, _, hx⟩
  · have hlen : len = 0 := by simp [Value.cells] at hcs; exact hcs.2.1
    exact ⟨fun _ => 0, fun _ => 0, fun h => by omega⟩
  · obtain ⟨rfl, rfl, rfl⟩ : A = some a ∧ len = len' ∧ cap = cap' := by simpa [Value.cells] using hcs
    have hlm : len ≤ m := by rw [hmm]; simpa using hl
    refine ⟨fun i => (intOf (V0 i)).toNat, fun i => intOf (V1 i), fun h0 => ?_⟩
    have ha : a = ⟨a.block, a.off, none⟩ := by
      have := (hx 0 (by omega)).1
      exact lit_of_cell (by simpa [Addr.add] using this)
    generalize a.block = b at ha
    generalize a.off = off at ha
    subst ha
    refine ⟨b, off, rfl, fun i hi => ?_⟩
    obtain ⟨h1, h2, h3, h4⟩ := hx i (by omega)
    rw [Addr.add_lit] at h1 h2
    obtain ⟨y0, e0, _, w0⟩ := DataW.trod_int Tryd.underlying5 h3
    obtain ⟨y1, e1, _, w1⟩ := DataW.trod_int Tryd.underlying3 h4
    have e0' : V0 i = .int .u8 y0 := by simpa using e0
    have e1' : V1 i = .int .i64 y1 := by simpa using e1
    have hb : 0 ≤ y0 ∧ y0 ≤ 255 := by simpa [Lit.wf, IntKind.min, IntKind.max, IntKind.signed, IntKind.bits] using w0
    rw [← Nat.add_assoc] at h2
    rw [h1, h2, e0', e1']
    refine ⟨?_, ?_, ?_⟩
    · simp [intOf, e0']; omega
    · simp [intOf, e1']
    · simp [intOf, e0']; omega
end Go.Proofs.YtndkgogohlikiaaDoor
