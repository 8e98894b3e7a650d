/-
  hustings/hustingslaw02.CursorApart returns true for every input, and every argument reads afterwards as it read before (the row and its tied card).
  Conditions: none beyond the given statement's own cells (the listed package-level variables are as the program's text lays them).
-/
import Derived.Test.YtndkgogohlikiaaDoorLaw
import Derived.Test.YtndkgogohlikiaaDoorCards
import Derived.Test.YtndkgogohlikiaaDoorTie
import Derived.Test.YtndkgogohlikiaaDoorOpen
import Derived.Test.YtndkgogohlikiaaDoorApart02
namespace Go.Proofs.YtndkgogohlikiaaDoor
open Go.ChangeShapes Go.WideShapes Go.RowKit

set_option maxRecDepth 100000 in
set_option maxHeartbeats 1000000 in
theorem cursorApart_lifted (os : Os) (started : os.Started) (H : Type) (enc : TypeId × Value → H) :
    ReturnsInHanded {} Tryd.checked os 5 .any (fun w args => (Rows.cursorApartSpec.pre enc Tryd.prog Tryd.f5 [] false w args ∧ laidMetH Tryd.prog Rows.cursorApartRow.laid w) ∧ sizedMet enc Tryd.prog Tryd.f5 (OpenSpec.ofChange Rows.cursorApartSpec) false w args)
      (Rows.cursorApartSpec.post enc Tryd.prog Tryd.f5 false true false false) := by
  refine returnsInHanded_of_change_and (C := Tryd.checked) (X := fun w _ => laidMetH Tryd.prog Rows.cursorApartRow.laid w) (fun _ _ _ hh h => h.of_heap hh) Tryd.own started (by kernel_rfl) Tryd.func5
    (ChangeSpec.witness_at (enc := enc) (C := Tryd.checked) (os := os) (X := fun w _ => laidMetH Tryd.prog Rows.cursorApartRow.laid w) false (laidWorld os) #[.string ByteArray.empty, .int .i64 0, .int .u32 0, .int .u32 0] 8 rfl (by kernel_rfl) (by kernel_rfl) (by kernel_rfl) (by kernel_rfl) (by kernel_rfl) (laidWorld_met os _)) ?_
  intro W base args ds gs before hval0 hW _ hsz0 hL _
  have hval : ∀ (j : Nat) t v, Tryd.f5.params[j]? = some t → args[j]? = some v → Value.okWide Tryd.prog W .any base t v := hval0
  have hsz : (DataW.weightsEach Tryd.prog (Tryd.f5.params.toList ++ Rows.cursorApartSpec.plain.varTypes Tryd.prog) (ds ++ gs)).all (· ≤ reachBytes) = true := hsz0
  have hW' := hW
  have hE := et_of_laid hL
  obtain ⟨p, q, hA0, hV0, rfl, hfz, hnd⟩ := hW
  have hA : DataW.TrodAll enc Tryd.prog W 0 (fun _ => true) true Tryd.f5.params.toList args.toList ds p := hA0
  clear hval0 hsz0 hA0 hL
  rw [Tryd.params5] at hA hval hsz
  obtain ⟨v0, v1, v2, v3, d0, d1, d2, d3, p0, p1, p2, p3, rfl, rfl, rfl, h0, h1, h2, h3⟩ := trodAll_four hA
  obtain ⟨s, rfl, rfl, rfl, hs⟩ := ChangeMaps.open_string Tryd.underlying9 (hval 0 _ v0 rfl rfl) h0
  obtain ⟨x1, rfl, rfl, rfl, w1⟩ := open_int Tryd.underlying3 (hval 1 _ v1 rfl rfl) h1
  obtain ⟨x2, rfl, rfl, rfl, w2⟩ := open_int Tryd.underlying28 (hval 2 _ v2 rfl rfl) h2
  obtain ⟨x3, rfl, rfl, rfl, w3⟩ := open_int Tryd.underlying28 (hval 3 _ v3 rfl rfl) h3
  obtain ⟨x, rfl, hx⟩ := nat_u32 w2
  obtain ⟨y, rfl, hy⟩ := nat_u32 w3
  refine (apart_walk s x1 x y W hE hx hy).mono fun e W' ⟨he, hg⟩ => ?_
  subst he
  exact ⟨_, rfl, post_true (by rw [Tryd.params5]; decide) rfl rfl rfl hW' (belowg hg)⟩

theorem cursorApart_holds : Rows.CursorApartSaid :=
  OpenClaim.holds_of_wide 5 Tryd.f5 rfl rfl rfl rfl rfl rfl rfl ⟨rfl, rfl, rfl, rfl, rfl⟩ rfl rfl rfl rfl rfl (by kernel_rfl) Tryd.func5 (by kernel_rfl)
    (of_decide_eq_true (by kernel_rfl)) (by unfold Func.isWrapper; rw [if_neg (of_decide_eq_false (by kernel_rfl))]; exact ⟨rfl, rfl⟩)
    (fun os started H enc _ => cursorApart_lifted os started H enc)

theorem cursorApart_card : Rows.CursorApartCardSaid :=
  Claim7.holds_tied_plain_at .later [] Rows.cursorApartCard.laidKinds true Rows.cursorApartCard.stood.harness true
    cursorApart_holds (fun _ h => by cases h) (by kernel_rfl) (fun _ h => by cases h) cursorApart_row_tie rfl ⟨rfl, rfl⟩ (by kernel_rfl) rfl
    (fun f fn hf hfn => by
      obtain rfl : f = 5 := Option.some.inj ((show Tryd.prog.funcNamed Rows.cursorApartRow.func = some 5 by kernel_rfl).symm.trans hf) |>.symm
      obtain rfl : fn = Tryd.f5 := (Option.some.inj (Tryd.func5.symm.trans hfn)).symm
      exact ⟨by kernel_rfl, fun j t ht => by
        rw [Tryd.params5] at ht
        have hall : ∀ t ∈ ([9, 3, 28, 28] : List TypeId), Tryd.prog.wantsStandIn t = false := by decide +kernel
        exact hall t (List.mem_of_getElem? (Array.getElem?_toList .. ▸ ht))⟩)
    (by kernel_rfl)
#print axioms cursorApart_card
end Go.Proofs.YtndkgogohlikiaaDoor
