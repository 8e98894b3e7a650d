/-
  hustings/hustingslaw06.EdnsNames returns true for every input, and every argument reads afterwards as it read before (the row and its tied card).
  Conditions: none beyond the given statement's own cells (the listed package-level variables are as the program's text lays them).
-/
import Derived.Test.YtcednhpelbdoiaaDoorLaw
import Derived.Test.YtcednhpelbdoiaaDoorCards
import Derived.Test.YtcednhpelbdoiaaDoorTie
import Derived.Test.YtcednhpelbdoiaaDoorEd06o
namespace Go.Proofs.YtcednhpelbdoiaaDoor
open Go.ChangeShapes Go.WideShapes Go.RowKit

set_option maxRecDepth 100000 in
set_option maxHeartbeats 1000000 in
theorem ednsNames_lifted (os : Os) (started : os.Started) (H : Type) (enc : TypeId × Value → H) :
    ReturnsInHanded {} Tryd.checked os 5 .any (fun w args => (Rows.ednsNamesSpec.pre enc Tryd.prog Tryd.f5 [] false w args ∧ laidMetH Tryd.prog Rows.ednsNamesRow.laid w) ∧ sizedMet enc Tryd.prog Tryd.f5 (OpenSpec.ofChange Rows.ednsNamesSpec) false w args)
      (Rows.ednsNamesSpec.post enc Tryd.prog Tryd.f5 false true false false) := by
  refine returnsInHanded_of_change_and (C := Tryd.checked) (X := fun w _ => laidMetH Tryd.prog Rows.ednsNamesRow.laid w) (fun _ _ _ hh h => h.of_heap hh) Tryd.own started (by kernel_rfl) Tryd.func5
    (ChangeSpec.witness_at (enc := enc) (C := Tryd.checked) (os := os) (X := fun w _ => laidMetH Tryd.prog Rows.ednsNamesRow.laid w) false (laidWorld os) #[] 8 rfl (by kernel_rfl) (by kernel_rfl) (by kernel_rfl) (by kernel_rfl) (by kernel_rfl) (laidWorld_met os _)) ?_
  intro W base args ds gs before hval0 hW _ hsz0 hL _
  have hval : ∀ (j : Nat) t v, Tryd.f5.params[j]? = some t → args[j]? = some v → Value.okWide Tryd.prog W .any base t v := hval0
  have hsz : (DataW.weightsEach Tryd.prog (Tryd.f5.params.toList ++ Rows.ednsNamesSpec.plain.varTypes Tryd.prog) (ds ++ gs)).all (· ≤ reachBytes) = true := hsz0
  have hW' := hW
  have hE := et_of_laid hL
  obtain ⟨p, q, hA0, hV0, rfl, hfz, hnd⟩ := hW
  have hA : DataW.TrodAll enc Tryd.prog W 0 (fun _ => true) true Tryd.f5.params.toList args.toList ds p := hA0
  clear hval0 hsz0 hA0 hL
  rw [Tryd.params5] at hA hval hsz
  obtain ⟨rfl, rfl, rfl⟩ := trodAll_none hA
  refine (enames_walk W hE).mono fun e W' ⟨he, hg⟩ => ?_
  subst he
  exact ⟨_, rfl, post_true (by rw [Tryd.params5]; decide) rfl rfl rfl hW' (belowg hg)⟩

theorem ednsNames_holds : Rows.EdnsNamesSaid :=
  OpenClaim.holds_of_wide 5 Tryd.f5 rfl rfl rfl rfl rfl rfl rfl ⟨rfl, rfl, rfl, rfl, rfl⟩ rfl rfl rfl rfl rfl (by kernel_rfl) Tryd.func5 (by kernel_rfl)
    (of_decide_eq_true (by kernel_rfl)) (by unfold Func.isWrapper; rw [if_neg (of_decide_eq_false (by kernel_rfl))]; exact ⟨rfl, rfl⟩)
    (fun os started H enc _ => ednsNames_lifted os started H enc)

theorem ednsNames_card : Rows.EdnsNamesCardSaid :=
  Claim7.holds_tied_plain_at .later [] Rows.ednsNamesCard.laidKinds true Rows.ednsNamesCard.stood.harness true
    ednsNames_holds (fun _ h => by cases h) (by kernel_rfl) (fun _ h => by cases h) ednsNames_row_tie rfl ⟨rfl, rfl⟩ (by kernel_rfl) rfl
    (fun f fn hf hfn => by
      obtain rfl : f = 5 := Option.some.inj ((show Tryd.prog.funcNamed Rows.ednsNamesRow.func = some 5 by kernel_rfl).symm.trans hf) |>.symm
      obtain rfl : fn = Tryd.f5 := (Option.some.inj (Tryd.func5.symm.trans hfn)).symm
      exact ⟨by kernel_rfl, fun j t ht => by
        rw [Tryd.params5] at ht
        have hall : ∀ t ∈ ([] : List TypeId), Tryd.prog.wantsStandIn t = false := by decide +kernel
        exact hall t (List.mem_of_getElem? (Array.getElem?_toList .. ▸ ht))⟩)
    (by kernel_rfl)
#print axioms ednsNames_card
end Go.Proofs.YtcednhpelbdoiaaDoor
