/-
  hustings/hustingslaw05.DataBack returns true for every input, and every argument reads afterwards as it read before (the row and its tied card).
  Conditions: none beyond the given statement's own cells (the listed package-level variables are as the program's text lays them).
-/
import Derived.Test.YtijjfdmklbncbaaDoorLaw
import Derived.Test.YtijjfdmklbncbaaDoorCards
import Derived.Test.YtijjfdmklbncbaaDoorTie
import Derived.Test.YtijjfdmklbncbaaDoorDa05u
import Derived.Test.YtijjfdmklbncbaaDoorA3
namespace Go.Proofs.YtijjfdmklbncbaaDoor
open Go.ChangeShapes Go.WideShapes Go.RowKit

set_option maxRecDepth 100000 in
set_option maxHeartbeats 1000000 in
theorem dataBack_lifted (os : Os) (started : os.Started) (H : Type) (enc : TypeId × Value → H) :
    ReturnsInHanded {} Tryd.checked os 5 .any (fun w args => (Rows.dataBackSpec.pre enc Tryd.prog Tryd.f5 [] false w args ∧ laidMetH Tryd.prog Rows.dataBackRow.laid w) ∧ sizedMet enc Tryd.prog Tryd.f5 (OpenSpec.ofChange Rows.dataBackSpec) false w args)
      (Rows.dataBackSpec.post enc Tryd.prog Tryd.f5 false true false false) := by
  refine returnsInHanded_of_change_and (C := Tryd.checked) (X := fun w _ => laidMetH Tryd.prog Rows.dataBackRow.laid w) (fun _ _ _ hh h => h.of_heap hh) Tryd.own started (by kernel_rfl) Tryd.func5
    (ChangeSpec.witness_at (enc := enc) (C := Tryd.checked) (os := os) (X := fun w _ => laidMetH Tryd.prog Rows.dataBackRow.laid w) false (laidWorld os) #[.string ByteArray.empty, .slice none 0 0] 8 rfl (by kernel_rfl) (by kernel_rfl) (by kernel_rfl) (by kernel_rfl) (by kernel_rfl) (laidWorld_met os _)) ?_
  intro W base args ds gs before hval0 hW _ hsz0 hL _
  have hval : ∀ (j : Nat) t v, Tryd.f5.params[j]? = some t → args[j]? = some v → Value.okWide Tryd.prog W .any base t v := hval0
  have hsz : (DataW.weightsEach Tryd.prog (Tryd.f5.params.toList ++ Rows.dataBackSpec.plain.varTypes Tryd.prog) (ds ++ gs)).all (· ≤ reachBytes) = true := hsz0
  have hW' := hW
  have hE := et_of_laid hL
  obtain ⟨p, q, hA0, hV0, rfl, hfz, hnd⟩ := hW
  have hA : DataW.TrodAll enc Tryd.prog W 0 (fun _ => true) true Tryd.f5.params.toList args.toList ds p := hA0
  clear hval0 hsz0 hA0 hL
  rw [Tryd.params5] at hA hval hsz
  obtain ⟨v0, v1, d0, d1, p0, p1, rfl, rfl, rfl, h0, h1⟩ := trodAll_two hA
  obtain ⟨s, rfl, rfl, rfl, hs⟩ := ChangeMaps.open_string Tryd.underlying9 (hval 0 _ v0 rfl rfl) h0
  obtain ⟨a0, len, cap, rfl⟩ := okWide_slice Tryd.underlying28 (hval 1 _ v1 rfl rfl)
  obtain ⟨l, hl1, hl2, hl3⟩ := open_pts h1 ⟨_, _, _, rfl⟩
  refine (back5_walk s _ l W hE hl1 hl2 hl3).mono fun e W' ⟨he, hg⟩ => ?_
  subst he
  exact ⟨_, rfl, post_true (by rw [Tryd.params5]; decide) rfl rfl rfl hW' (belowg hg)⟩

theorem dataBack_holds : Rows.DataBackSaid :=
  OpenClaim.holds_of_wide 5 Tryd.f5 rfl rfl rfl rfl rfl rfl rfl ⟨rfl, rfl, rfl, rfl, rfl⟩ rfl rfl rfl rfl rfl (by kernel_rfl) Tryd.func5 (by kernel_rfl)
    (of_decide_eq_true (by kernel_rfl)) (by unfold Func.isWrapper; rw [if_neg (of_decide_eq_false (by kernel_rfl))]; exact ⟨rfl, rfl⟩)
    (fun os started H enc _ => dataBack_lifted os started H enc)

theorem dataBack_card : Rows.DataBackCardSaid :=
  Claim7.holds_tied_plain_at .later [] Rows.dataBackCard.laidKinds true Rows.dataBackCard.stood.harness true
    dataBack_holds (fun _ h => by cases h) (by kernel_rfl) (fun _ h => by cases h) dataBack_row_tie rfl ⟨rfl, rfl⟩ (by kernel_rfl) rfl
    (fun f fn hf hfn => by
      obtain rfl : f = 5 := Option.some.inj ((show Tryd.prog.funcNamed Rows.dataBackRow.func = some 5 by kernel_rfl).symm.trans hf) |>.symm
      obtain rfl : fn = Tryd.f5 := (Option.some.inj (Tryd.func5.symm.trans hfn)).symm
      exact ⟨by kernel_rfl, fun j t ht => by
        rw [Tryd.params5] at ht
        have hall : ∀ t ∈ ([9, 28] : List TypeId), Tryd.prog.wantsStandIn t = false := by decide +kernel
        exact hall t (List.mem_of_getElem? (Array.getElem?_toList .. ▸ ht))⟩)
    (by kernel_rfl)
#print axioms dataBack_card
end Go.Proofs.YtijjfdmklbncbaaDoor
