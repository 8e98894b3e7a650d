/-
  What the listed variables (errors.errorType, head.bits) give the walks of chapter 3; the witness world.
-/
import Derived.Test.YthgendgmlpaglaaDoorLaw
import Derived.Test.YthgendgmlpaglaaDoorA10
import Derived.Lib.LaidTab
namespace Go.Proofs.YthgendgmlpaglaaDoor
open Go.ChangeShapes Go.WideShapes Go.RowKit

theorem et_of_laid03 {W : World} (h : laidMetH Tryd.prog [("errors.errorType", Rows.laid_errors_errorType), ("hustings/head.bits", Rows.laid_hustings_head_bits)] W) : W.cell? ⟨1, 0, none⟩ = some (.iface 164 (.agg #[.pointer (some ⟨2, 100, none⟩)])) := by
  have h' : laidMet Tryd.prog [("hustings/head.bits", Rows.laid_hustings_head_bits)] W ∧ handlesMet Tryd.prog [("errors.errorType", Rows.laid_errors_errorType)] W := h
  exact et_of_laid (show laidMet Tryd.prog [] W ∧ handlesMet Tryd.prog [("errors.errorType", Rows.laid_errors_errorType)] W from ⟨laidMet_nil _ _, h'.2⟩)

theorem bt_of_laid03 {W : World} (h : laidMetH Tryd.prog [("errors.errorType", Rows.laid_errors_errorType), ("hustings/head.bits", Rows.laid_hustings_head_bits)] W) : Bt W := by
  have h' : laidMet Tryd.prog [("hustings/head.bits", Lib.tabData .u16 [32768, 1024, 512, 256, 128, 64, 32, 16])] W ∧ handlesMet Tryd.prog [("errors.errorType", Rows.laid_errors_errorType)] W := h
  have hg : Tryd.prog.globalNamed "hustings/head.bits" = some 0 := by kernel_rfl
  have hT := Lib.tabIs_of_head hg (t := 113) (by kernel_rfl) Tryd.underlying113 Tryd.underlying28 (by kernel_rfl) (by kernel_rfl) h'.1
  unfold Lib.TabIs World.var? at hT
  rw [hg] at hT
  simp only [Option.bind_some] at hT
  split at hT
  · rename_i cs t z hc
    obtain rfl := Option.some.inj hT
    exact ⟨t, z, hc⟩
  · cases hT

noncomputable def laidWorld03 (os : Os) : World :=
  let w0 := laidWorld os
  { w0 with heap := w0.heap.modify 0 fun
      | .cells _ t frozen => .cells #[.int .u16 32768, .int .u16 1024, .int .u16 512, .int .u16 256, .int .u16 128, .int .u16 64, .int .u16 32, .int .u16 16] t frozen
      | o => o }
theorem laidWorld03_met (os : Os) (args : Array Value) : laidMetH Tryd.prog [("errors.errorType", Rows.laid_errors_errorType), ("hustings/head.bits", Rows.laid_hustings_head_bits)] ((laidWorld03 os).forCall (fun _ _ => 0) ⟨#[], args, []⟩).memory :=
  laidMetH_of_parts (laidMet_of_run' 8 (by kernel_rfl) (by kernel_rfl)) (by kernel_rfl)
end Go.Proofs.YthgendgmlpaglaaDoor
