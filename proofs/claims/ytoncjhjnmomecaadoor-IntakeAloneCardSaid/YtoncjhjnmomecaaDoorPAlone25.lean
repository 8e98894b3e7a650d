/-
  hustings/hustingslaw25.IntakeAlone returns true for every input, and every argument reads afterwards as it read before (the row and its tied card).
  Conditions: none beyond the given statement's own cells (the listed package-level variables are as the program's text lays them).
-/
import Derived.Test.YtoncjhjnmomecaaDoorLaw03
import Derived.Test.YtoncjhjnmomecaaDoorCards
import Derived.Test.YtoncjhjnmomecaaDoorTie
import Derived.Test.YtoncjhjnmomecaaDoorLaw
import Derived.Test.YtoncjhjnmomecaaDoorIkM
import Derived.Test.YtoncjhjnmomecaaDoorIkO
import Derived.Test.YtoncjhjnmomecaaDoorA23
import Derived.Test.YtoncjhjnmomecaaDoorA3
import Derived.Test.YtoncjhjnmomecaaDoorTrod
namespace Go.Proofs.YtoncjhjnmomecaaDoor
open Go.ChangeShapes Go.WideShapes Go.RowKit

set_option maxRecDepth 100000 in
set_option maxHeartbeats 1000000 in
theorem intakeAlone_lifted (os : Os) (started : os.Started) (H : Type) (enc : TypeId × Value → H) :
    ReturnsInHanded {} Tryd.checked os 5 .any (fun w args => (Rows.intakeAloneSpec.pre enc Tryd.prog Tryd.f5 [] false w args ∧ laidMetH Tryd.prog Rows.intakeAloneRow.laid w) ∧ sizedMet enc Tryd.prog Tryd.f5 (OpenSpec.ofChange Rows.intakeAloneSpec) false w args)
      (Rows.intakeAloneSpec.post enc Tryd.prog Tryd.f5 false true false false) := by
  refine returnsInHanded_of_change_and (C := Tryd.checked) (X := fun w _ => laidMetH Tryd.prog Rows.intakeAloneRow.laid w) (fun _ _ _ hh h => h.of_heap hh) Tryd.own started (by kernel_rfl) Tryd.func5
    (ChangeSpec.witness_at (enc := enc) (C := Tryd.checked) (os := os) (X := fun w _ => laidMetH Tryd.prog Rows.intakeAloneRow.laid w) false (laidWorld03 os) #[.agg #[.string ByteArray.empty, .int .u16 0, .int .u16 0], .agg #[.int .u16 0, .bool false, .int .u8 0, .bool false, .bool false, .bool false, .bool false, .bool false, .bool false, .bool false, .int .u8 0], .agg #[.int .u16 0, .bool false, .int .u8 0, .bool false, .bool false, .bool false, .bool false, .bool false, .bool false, .bool false, .int .u8 0], .slice none 0 0, .int .u16 0] 8 rfl (by kernel_rfl) (by kernel_rfl) (by kernel_rfl) (by kernel_rfl) (by kernel_rfl) (laidWorld03_met os _)) ?_
  intro W base args ds gs before hval0 hW _ hsz0 hL _
  have hval : ∀ (j : Nat) t v, Tryd.f5.params[j]? = some t → args[j]? = some v → Value.okWide Tryd.prog W .any base t v := hval0
  have hsz : (DataW.weightsEach Tryd.prog (Tryd.f5.params.toList ++ Rows.intakeAloneSpec.plain.varTypes Tryd.prog) (ds ++ gs)).all (· ≤ reachBytes) = true := hsz0
  have hW' := hW
  have hE := et_of_laid03 hL
  have hB := bt_of_laid03 hL
  obtain ⟨p, q, hA0, hV0, rfl, hfz, hnd⟩ := hW
  have hA : DataW.TrodAll enc Tryd.prog W 0 (fun _ => true) true Tryd.f5.params.toList args.toList ds p := hA0
  clear hval0 hsz0 hA0 hL
  rw [Tryd.params5] at hA hval hsz
  obtain ⟨v0, v1, v2, v3, v4, d0, d1, d2, d3, d4, p0, p1, p2, p3, p4, rfl, rfl, rfl, h0, h1, h2, h3, h4⟩ := trodAll_five_ hA
  obtain ⟨q, rfl, hq, hqn⟩ := open_qn (hval 0 _ v0 rfl rfl) h0
  obtain ⟨h, rfl, hh, _, _⟩ := open_hd (hval 1 _ v1 rfl rfl) h1
  obtain ⟨g, rfl, hg, _, _⟩ := open_hd (hval 2 _ v2 rfl rfl) h2
  obtain ⟨l, hl, hl2, hl3⟩ := open_rl h3 (let ⟨a, b, c, e⟩ := okWide_slice Tryd.underlying36 (hval 3 _ v3 rfl rfl); ⟨a, b, c, e⟩)
  obtain ⟨x4, rfl, rfl, rfl, w4⟩ := open_int Tryd.underlying22 (hval 4 _ v4 rfl rfl) h4
  obtain ⟨ed, rfl, hed⟩ := nat_u16 w4
  refine (alone_walk W q h g l v3 ed hE hB hq hh hg hl hl2 hl3 hqn hed).mono fun e W' ⟨he, hg⟩ => ?_
  subst he
  exact ⟨_, rfl, post_true (by rw [Tryd.params5]; decide) rfl rfl rfl hW' (belowg hg)⟩

theorem intakeAlone_holds : Rows.IntakeAloneSaid :=
  OpenClaim.holds_of_wide 5 Tryd.f5 rfl rfl rfl rfl rfl rfl rfl ⟨rfl, rfl, rfl, rfl, rfl⟩ rfl rfl rfl rfl rfl (by kernel_rfl) Tryd.func5 (by kernel_rfl)
    (of_decide_eq_true (by kernel_rfl)) (by unfold Func.isWrapper; rw [if_neg (of_decide_eq_false (by kernel_rfl))]; exact ⟨rfl, rfl⟩)
    (fun os started H enc _ => intakeAlone_lifted os started H enc)

theorem intakeAlone_card : Rows.IntakeAloneCardSaid :=
  Claim7.holds_tied_plain_at .later [] Rows.intakeAloneCard.laidKinds true Rows.intakeAloneCard.stood.harness true
    intakeAlone_holds (fun _ h => by cases h) (by kernel_rfl) (fun _ h => by cases h) intakeAlone_row_tie rfl ⟨rfl, rfl⟩ (by kernel_rfl) rfl
    (fun f fn hf hfn => by
      obtain rfl : f = 5 := Option.some.inj ((show Tryd.prog.funcNamed Rows.intakeAloneRow.func = some 5 by kernel_rfl).symm.trans hf) |>.symm
      obtain rfl : fn = Tryd.f5 := (Option.some.inj (Tryd.func5.symm.trans hfn)).symm
      exact ⟨by kernel_rfl, fun j t ht => by
        rw [Tryd.params5] at ht
        have hall : ∀ t ∈ ([26, 24, 24, 36, 22] : List TypeId), Tryd.prog.wantsStandIn t = false := by decide +kernel
        exact hall t (List.mem_of_getElem? (Array.getElem?_toList .. ▸ ht))⟩)
    (by kernel_rfl)
#print axioms intakeAlone_card
end Go.Proofs.YtoncjhjnmomecaaDoor
