/-
  Wire: WireCut's walk.
-/
import Derived.Test.YthgendgmlpaglaaDoorWjD
import Derived.Test.YthgendgmlpaglaaDoorWjR
import Derived.Deep.Cut
namespace Go.Proofs.YthgendgmlpaglaaDoor
open Go.RowKit

theorem list_ne {l : List UInt8} (h : (l == ByteArray.empty.toList) = false) : l.isEmpty = false := by
  have e : ByteArray.empty.toList = [] := by decide +kernel
  rw [e] at h
  cases l with
  | nil => cases h
  | cons x l => rfl
theorem dc_ok {m : Ms} (hr : m.rng) (h0 : m.wE = 0) : dcM m.out = m ∧ dcE m.out = 0 := by
  have e : rdM m.out = .ok m := by rw [(out_ok h0).1]; exact m_back hr h0
  unfold dcM dcE
  rw [e]
  exact ⟨rfl, rfl⟩
theorem dc_cut {m : Ms} (hr : m.rng) (h0 : m.wE = 0) {q : Nat} (hq : q < m.out.size) : dcE (m.out.extract 0 q) = 4 := by
  have e : rdM m.out = .ok m := by rw [(out_ok h0).1]; exact m_back hr h0
  obtain ⟨a1, a2⟩ := ahead_cut m.out q (by omega)
  have := rdM_cut a1 (by omega) e
  unfold dcE
  rw [this]
theorem dc_more {m : Ms} (hr : m.rng) (h0 : m.wE = 0) {t : ByteArray} (ht : 0 < t.size) : dcE (m.out ++ t) = 5 := by
  have e : rdM m.out = .ok m := by rw [(out_ok h0).1]; exact m_back hr h0
  have := rdM_more (ahead_append m.out t) (by rw [ByteArray.size_append]; omega) e
  unfold dcE
  rw [this]

end Go.Proofs.YthgendgmlpaglaaDoor
