/-
  Arguments opened: numbers as natural numbers, slices of bytes.
-/
import Derived.Test.YtijjfdmklbncbaaDoorLaw
import Derived.Test.YtijjfdmklbncbaaDoorBytes
import Derived.ChangeSlices
namespace Go.Proofs.YtijjfdmklbncbaaDoor
open Go.ChangeShapes Go.WideShapes Go.RowKit

theorem nat_u8 {x : Int} (h : (Lit.int .u8 x).wf = true) : ∃ n : Nat, x = n ∧ n < 256 := by
  have h' : 0 ≤ x ∧ x ≤ 255 := by simpa [Lit.wf, IntKind.min, IntKind.max, IntKind.signed, IntKind.bits] using h
  exact ⟨x.toNat, by omega, by omega⟩
theorem nat_u16 {x : Int} (h : (Lit.int .u16 x).wf = true) : ∃ n : Nat, x = n ∧ n < 65536 := by
  have h' : 0 ≤ x ∧ x ≤ 65535 := by simpa [Lit.wf, IntKind.min, IntKind.max, IntKind.signed, IntKind.bits] using h
  exact ⟨x.toNat, by omega, by omega⟩
theorem nat_u32 {x : Int} (h : (Lit.int .u32 x).wf = true) : ∃ n : Nat, x = n ∧ n < 4294967296 := by
  have h' : 0 ≤ x ∧ x ≤ 4294967295 := by simpa [Lit.wf, IntKind.min, IntKind.max, IntKind.signed, IntKind.bits] using h
  exact ⟨x.toNat, by omega, by omega⟩

theorem lit_of_cell {w : World} {a : Addr} {v : Value} (h : w.cell? a = some v) : a = ⟨a.block, a.off, none⟩ := by
  have hs : a.spot = none := by
    unfold World.cell? at h
    cases hsp : a.spot with
    | none => rfl
    | some x => simp [hsp] at h; split at h <;> simp at h
  cases a
  simp at hs
  simp [hs]

theorem open_bytes {H : Type} {enc : TypeId × Value → H} {W : World} {A : Option Addr} {len cap : Nat} {d : DataW H} {p : List MemPlace}
    (h : DataW.Trod enc Tryd.prog W 0 (fun _ => true) true 30 (.slice A len cap) d p) : ∃ l, SlB W (.slice A len cap) l ∧ l.length = len := by
  obtain ⟨fuel, hf⟩ := h
  rcases Go.ChangeShapes.open_ints Tryd.underlying30 Tryd.underlying5 (by kernel_rfl) hf with ⟨hcs, _⟩ | ⟨a, len', cap', zs, hcs, _, hl, hm, hz, _, hx, hwf⟩
  · obtain ⟨rfl, rfl, rfl⟩ : A = none ∧ len = 0 ∧ cap = 0 := by simpa [Value.cells] using hcs
    exact ⟨[], ⟨none, 0, rfl, by simp, by simp, by simp⟩, rfl⟩
  · obtain ⟨rfl, rfl, rfl⟩ : A = some a ∧ len = len' ∧ cap = cap' := by simpa [Value.cells] using hcs
    have hzl : zs.length = cap := by simpa using hz
    have hlen : ((zs.take len).map fun z => UInt8.ofNat z.toNat).length = len := by simp; omega
    refine ⟨(zs.take len).map fun z => UInt8.ofNat z.toNat, ⟨some a, cap, by rw [hlen], by rw [hlen]; exact hl, by simp, ?_⟩, hlen⟩
    intro ad had j u hu
    obtain rfl := Option.some.inj had
    have hj : j < len := by
      have := (List.getElem?_eq_some_iff.1 hu).1
      rw [bv_len, hlen] at this
      exact this
    have hjz : j < zs.length := by omega
    have hb := hwf zs[j] (List.getElem_mem hjz)
    have hb' : 0 ≤ zs[j] ∧ zs[j] ≤ 255 := by simpa [Lit.wf, IntKind.min, IntKind.max, IntKind.signed, IntKind.bits] using hb
    rw [hx j (by omega)]
    rw [bv_get _ _ (by rw [hlen]; exact hj)] at hu
    rw [← hu]
    have e1 : zs.getD j 0 = zs[j] := by simp [List.getD, hjz]
    rw [e1]
    simp
    omega
end Go.Proofs.YtijjfdmklbncbaaDoor
