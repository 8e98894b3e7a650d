/-
  hustings/hustingslaw06.EdnsBehind returns true for every input, and every argument reads afterwards as it read before (the row and its tied card).
  Conditions: none beyond the given statement's own cells (the listed package-level variables are as the program's text lays them).
-/
import Derived.Test.YtcednhpelbdoiaaDoorLaw
import Derived.Test.YtcednhpelbdoiaaDoorCards
import Derived.Test.YtcednhpelbdoiaaDoorTie
import Derived.Test.YtcednhpelbdoiaaDoorOpen5
import Derived.Test.YtcednhpelbdoiaaDoorOpen06
import Derived.Test.YtcednhpelbdoiaaDoorEd06q
namespace Go.Proofs.YtcednhpelbdoiaaDoor
open Go.ChangeShapes Go.WideShapes Go.RowKit

set_option maxRecDepth 100000 in
set_option maxHeartbeats 1000000 in
theorem ednsBehind_lifted (os : Os) (started : os.Started) (H : Type) (enc : TypeId × Value → H) :
    ReturnsInHanded {} Tryd.checked os 6 .any (fun w args => (Rows.ednsBehindSpec.pre enc Tryd.prog Tryd.f6 [] false w args ∧ laidMetH Tryd.prog Rows.ednsBehindRow.laid w) ∧ sizedMet enc Tryd.prog Tryd.f6 (OpenSpec.ofChange Rows.ednsBehindSpec) false w args)
      (Rows.ednsBehindSpec.post enc Tryd.prog Tryd.f6 false true false false) := by
  refine returnsInHanded_of_change_and (C := Tryd.checked) (X := fun w _ => laidMetH Tryd.prog Rows.ednsBehindRow.laid w) (fun _ _ _ hh h => h.of_heap hh) Tryd.own started (by kernel_rfl) Tryd.func6
    (ChangeSpec.witness_at (enc := enc) (C := Tryd.checked) (os := os) (X := fun w _ => laidMetH Tryd.prog Rows.ednsBehindRow.laid w) false (laidWorld os) #[.agg #[.int .u16 0, .int .u8 0, .int .u8 0, .int .u16 0, .slice none 0 0], .agg #[.int .u16 0, .int .u8 0, .int .u8 0, .int .u16 0, .slice none 0 0], .int .i64 0] 8 rfl (by kernel_rfl) (by kernel_rfl) (by kernel_rfl) (by kernel_rfl) (by kernel_rfl) (laidWorld_met os _)) ?_
  intro W base args ds gs before hval0 hW _ hsz0 hL _
  have hval : ∀ (j : Nat) t v, Tryd.f6.params[j]? = some t → args[j]? = some v → Value.okWide Tryd.prog W .any base t v := hval0
  have hsz : (DataW.weightsEach Tryd.prog (Tryd.f6.params.toList ++ Rows.ednsBehindSpec.plain.varTypes Tryd.prog) (ds ++ gs)).all (· ≤ reachBytes) = true := hsz0
  have hW' := hW
  have hE := et_of_laid hL
  obtain ⟨p, q, hA0, hV0, rfl, hfz, hnd⟩ := hW
  have hA : DataW.TrodAll enc Tryd.prog W 0 (fun _ => true) true Tryd.f6.params.toList args.toList ds p := hA0
  clear hval0 hsz0 hA0 hL
  rw [Tryd.params6] at hA hval hsz
  obtain ⟨v0, v1, v2, d0, d1, d2, p0, p1, p2, rfl, rfl, rfl, h0, h1, h2⟩ := trodAll_three hA
  obtain ⟨sz, e, v, f, A, ca, l, rfl, _, b1, b2, b3, ha, hl, hc⟩ := open_edns (hval 0 _ v0 rfl rfl) h0
  obtain ⟨sz', e', v', f', B, cb, m, rfl, _, b1', b2', b3', hb, hm, hd⟩ := open_edns (hval 1 _ v1 rfl rfl) h1
  obtain ⟨x2, rfl, rfl, rfl, w2⟩ := open_int Tryd.underlying3 (hval 2 _ v2 rfl rfl) h2
  refine (behind_walk sz e v f A ca l sz' e' v' f' B cb m x2 W hE b1 b2 b3 ha hl (fun o ho => (hc o ho).1) b1' b2' b3' hb hm (fun o ho => (hd o ho).1)).mono fun e W' ⟨he, hg⟩ => ?_
  subst he
  exact ⟨_, rfl, post_true (by rw [Tryd.params6]; decide) rfl rfl rfl hW' (belowg hg)⟩

theorem ednsBehind_holds : Rows.EdnsBehindSaid :=
  OpenClaim.holds_of_wide 6 Tryd.f6 rfl rfl rfl rfl rfl rfl rfl ⟨rfl, rfl, rfl, rfl, rfl⟩ rfl rfl rfl rfl rfl (by kernel_rfl) Tryd.func6 (by kernel_rfl)
    (of_decide_eq_true (by kernel_rfl)) (by unfold Func.isWrapper; rw [if_neg (of_decide_eq_false (by kernel_rfl))]; exact ⟨rfl, rfl⟩)
    (fun os started H enc _ => ednsBehind_lifted os started H enc)

theorem ednsBehind_card : Rows.EdnsBehindCardSaid :=
  Claim7.holds_tied_plain_at .later [] Rows.ednsBehindCard.laidKinds true Rows.ednsBehindCard.stood.harness true
    ednsBehind_holds (fun _ h => by cases h) (by kernel_rfl) (fun _ h => by cases h) ednsBehind_row_tie rfl ⟨rfl, rfl⟩ (by kernel_rfl) rfl
    (fun f fn hf hfn => by
      obtain rfl : f = 6 := Option.some.inj ((show Tryd.prog.funcNamed Rows.ednsBehindRow.func = some 6 by kernel_rfl).symm.trans hf) |>.symm
      obtain rfl : fn = Tryd.f6 := (Option.some.inj (Tryd.func6.symm.trans hfn)).symm
      exact ⟨by kernel_rfl, fun j t ht => by
        rw [Tryd.params6] at ht
        have hall : ∀ t ∈ ([27, 27, 3] : List TypeId), Tryd.prog.wantsStandIn t = false := by decide +kernel
        exact hall t (List.mem_of_getElem? (Array.getElem?_toList .. ▸ ht))⟩)
    (by kernel_rfl)
#print axioms ednsBehind_card
end Go.Proofs.YtcednhpelbdoiaaDoor
