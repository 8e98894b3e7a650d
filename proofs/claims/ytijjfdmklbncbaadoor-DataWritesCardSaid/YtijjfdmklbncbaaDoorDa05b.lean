/-
  The program's list of checks (layer 5), by the type.
-/
import Derived.Test.YtijjfdmklbncbaaDoorDa05a
import Derived.Laws.Rows
namespace Go.Proofs.YtijjfdmklbncbaaDoor
open Go.RowKit

@[go_sem] theorem run_store_func {P : Program} {w : World} {a : Addr} {m : Mode} (fn : Fn) (x y : Array Value) : (store a (.func fn x y) m).run P w = stored P w a (.func fn x y) m := run_store P w a _ m rfl
@[go_sem] theorem run_store_nilFunc {P : Program} {w : World} {a : Addr} {m : Mode} : (store a .nilFunc m).run P w = stored P w a .nilFunc m := run_store P w a _ m rfl
/-- A row of three checks. -/
def CkA (w : World) (v : Value) (cs : List Ck) : Prop :=
  ∃ v0 v1 v2, v = .agg #[v0, v1, v2] ∧ cs.length ≤ 3 ∧ ∀ i, i < 3 → (∀ c, cs[i]? = some c → ∃ u, [v0, v1, v2][i]? = some u ∧ CkV w u c) ∧ (cs[i]? = none → [v0, v1, v2][i]? = some .nilFunc)
theorem CkA.one {w : World} {v0 : Value} {c0 : Ck} (h0 : CkV w v0 c0) : CkA w (.agg #[v0, .nilFunc, .nilFunc]) [c0] :=
  ⟨_, _, _, rfl, by simp, fun i hi => by
    rcases i with _ | _ | _ | i
    · exact ⟨fun c e => ⟨_, rfl, by cases e; exact h0⟩, fun e => by cases e⟩
    · exact ⟨(fun c e => by cases e), fun _ => rfl⟩
    · exact ⟨(fun c e => by cases e), fun _ => rfl⟩
    · omega⟩
theorem CkA.two {w : World} {v0 v1 : Value} {c0 c1 : Ck} (h0 : CkV w v0 c0) (h1 : CkV w v1 c1) : CkA w (.agg #[v0, v1, .nilFunc]) [c0, c1] :=
  ⟨_, _, _, rfl, by simp, fun i hi => by
    rcases i with _ | _ | _ | i
    · exact ⟨fun c e => ⟨_, rfl, by cases e; exact h0⟩, fun e => by cases e⟩
    · exact ⟨fun c e => ⟨_, rfl, by cases e; exact h1⟩, fun e => by cases e⟩
    · exact ⟨(fun c e => by cases e), fun _ => rfl⟩
    · omega⟩
theorem CkA.three {w : World} {v0 v1 v2 : Value} {c0 c1 c2 : Ck} (h0 : CkV w v0 c0) (h1 : CkV w v1 c1) (h2 : CkV w v2 c2) : CkA w (.agg #[v0, v1, v2]) [c0, c1, c2] :=
  ⟨_, _, _, rfl, by simp, fun i hi => by
    rcases i with _ | _ | _ | i
    · exact ⟨fun c e => ⟨_, rfl, by cases e; exact h0⟩, fun e => by cases e⟩
    · exact ⟨fun c e => ⟨_, rfl, by cases e; exact h1⟩, fun e => by cases e⟩
    · exact ⟨fun c e => ⟨_, rfl, by cases e; exact h2⟩, fun e => by cases e⟩
    · omega⟩

set_option maxRecDepth 100000 in
set_option maxHeartbeats 1000000 in
theorem checks_any (k : Nat) (w : World) : Calls Tryd.prog 40 #[.int .u16 k] w fun e w' => ∃ v, e = .returned v ∧ CkA w' v (cks k) ∧ w.grownBy w' none := by
  have hmf := mkf
  by_cases h1 : k = 1
  · subst h1
    have HC : cks 1 = [.num 4] := rfl
    have HC1 := Lib.hid HC
    clear HC
    have HB0 := Lib.hid (balloc w (.cells #[.nilFunc, .nilFunc, .nilFunc] 85))
    have G0 := Lib.hid (galloc (grefl w none) (.cells #[.nilFunc, .nilFunc, .nilFunc] 85))
    go_enter Tryd.func40, Tryd.ntmps40
    go_wp2_with fail
    generalize w.alloc (.cells #[.nilFunc, .nilFunc, .nilFunc] 85) = u0 at *
    refine Calls.mono (number_any 4 (by omega) _) ?_
    rintro e u1 ⟨v0, rfl, hv, hg⟩
    have G1 := Lib.hid (gtrans G0.out hg)
    have HB1 := Lib.hid (gblock hg HB0.out (by simp))
    obtain ⟨fn0, ca0, rfl, _⟩ := hv.calls
    have K0 := Lib.hid hv
    clear hv hg G0 HB0 
    have c0 : u1.cell? ⟨w.heap.size, 0, none⟩ = some .nilFunc := bcellAt HB1.out 0
    have f0 : u1.frozen? ⟨w.heap.size, 0, none⟩ = false := bfree HB1.out 0
    have c1 : u1.cell? ⟨w.heap.size, 1, none⟩ = some .nilFunc := bcellAt HB1.out 1
    have f1 : u1.frozen? ⟨w.heap.size, 1, none⟩ = false := bfree HB1.out 1
    have c2 : u1.cell? ⟨w.heap.size, 2, none⟩ = some .nilFunc := bcellAt HB1.out 2
    have f2 : u1.frozen? ⟨w.heap.size, 2, none⟩ = false := bfree HB1.out 2
    have l0 := blt HB1.out
    go_wp2_with fail
    refine bodyPost_ret (results_cell_row rfl _ _ w.heap.size _ _ _ _ rfl (bset3_ HB1.out _ _ _) Tryd.underlying85 rfl (by kernel_rfl)) rfl ?_
    refine ⟨_, rfl, ?_, gstepb G1.out (gset3_ _ _ _ _ _) (Nat.le_refl _)⟩
    rw [HC1.out]
    exact CkA.one (K0.out.kept (gset3_ _ _ _ _ _) (fun b e => .inr ⟨_, _, _, by cases e; exact HB1.out, by simp⟩))
  by_cases h28 : k = 28
  · subst h28
    have HC : cks 28 = [.num 16] := rfl
    have HC1 := Lib.hid HC
    clear HC
    have HB0 := Lib.hid (balloc w (.cells #[.nilFunc, .nilFunc, .nilFunc] 85))
    have G0 := Lib.hid (galloc (grefl w none) (.cells #[.nilFunc, .nilFunc, .nilFunc] 85))
    go_enter Tryd.func40, Tryd.ntmps40
    go_wp2_with fail
    generalize w.alloc (.cells #[.nilFunc, .nilFunc, .nilFunc] 85) = u0 at *
    refine Calls.mono (number_any 16 (by omega) _) ?_
    rintro e u1 ⟨v0, rfl, hv, hg⟩
    have G1 := Lib.hid (gtrans G0.out hg)
    have HB1 := Lib.hid (gblock hg HB0.out (by simp))
    obtain ⟨fn0, ca0, rfl, _⟩ := hv.calls
    have K0 := Lib.hid hv
    clear hv hg G0 HB0 
    have c0 : u1.cell? ⟨w.heap.size, 0, none⟩ = some .nilFunc := bcellAt HB1.out 0
    have f0 : u1.frozen? ⟨w.heap.size, 0, none⟩ = false := bfree HB1.out 0
    have c1 : u1.cell? ⟨w.heap.size, 1, none⟩ = some .nilFunc := bcellAt HB1.out 1
    have f1 : u1.frozen? ⟨w.heap.size, 1, none⟩ = false := bfree HB1.out 1
    have c2 : u1.cell? ⟨w.heap.size, 2, none⟩ = some .nilFunc := bcellAt HB1.out 2
    have f2 : u1.frozen? ⟨w.heap.size, 2, none⟩ = false := bfree HB1.out 2
    have l0 := blt HB1.out
    go_wp2_with fail
    refine bodyPost_ret (results_cell_row rfl _ _ w.heap.size _ _ _ _ rfl (bset3_ HB1.out _ _ _) Tryd.underlying85 rfl (by kernel_rfl)) rfl ?_
    refine ⟨_, rfl, ?_, gstepb G1.out (gset3_ _ _ _ _ _) (Nat.le_refl _)⟩
    rw [HC1.out]
    exact CkA.one (K0.out.kept (gset3_ _ _ _ _ _) (fun b e => .inr ⟨_, _, _, by cases e; exact HB1.out, by simp⟩))
  by_cases h2 : k = 2
  · subst h2
    have HC : cks 2 = [.nam] := rfl
    have HC1 := Lib.hid HC
    clear HC
    have HB0 := Lib.hid (balloc w (.cells #[.nilFunc, .nilFunc, .nilFunc] 85))
    have G0 := Lib.hid (galloc (grefl w none) (.cells #[.nilFunc, .nilFunc, .nilFunc] 85))
    go_enter Tryd.func40, Tryd.ntmps40
    go_wp2_with fail
    generalize w.alloc (.cells #[.nilFunc, .nilFunc, .nilFunc] 85) = u0 at *
    refine Calls.mono (named_any _) ?_
    rintro e u1 ⟨v0, rfl, hv, hg⟩
    have G1 := Lib.hid (gtrans G0.out hg)
    have HB1 := Lib.hid (gblock hg HB0.out (by simp))
    obtain ⟨fn0, ca0, rfl, _⟩ := hv.calls
    have K0 := Lib.hid hv
    clear hv hg G0 HB0 
    have c0 : u1.cell? ⟨w.heap.size, 0, none⟩ = some .nilFunc := bcellAt HB1.out 0
    have f0 : u1.frozen? ⟨w.heap.size, 0, none⟩ = false := bfree HB1.out 0
    have c1 : u1.cell? ⟨w.heap.size, 1, none⟩ = some .nilFunc := bcellAt HB1.out 1
    have f1 : u1.frozen? ⟨w.heap.size, 1, none⟩ = false := bfree HB1.out 1
    have c2 : u1.cell? ⟨w.heap.size, 2, none⟩ = some .nilFunc := bcellAt HB1.out 2
    have f2 : u1.frozen? ⟨w.heap.size, 2, none⟩ = false := bfree HB1.out 2
    have l0 := blt HB1.out
    go_wp2_with fail
    refine bodyPost_ret (results_cell_row rfl _ _ w.heap.size _ _ _ _ rfl (bset3_ HB1.out _ _ _) Tryd.underlying85 rfl (by kernel_rfl)) rfl ?_
    refine ⟨_, rfl, ?_, gstepb G1.out (gset3_ _ _ _ _ _) (Nat.le_refl _)⟩
    rw [HC1.out]
    exact CkA.one (K0.out.kept (gset3_ _ _ _ _ _) (fun b e => .inr ⟨_, _, _, by cases e; exact HB1.out, by simp⟩))
  by_cases h5 : k = 5
  · subst h5
    have HC : cks 5 = [.nam] := rfl
    have HC1 := Lib.hid HC
    clear HC
    have HB0 := Lib.hid (balloc w (.cells #[.nilFunc, .nilFunc, .nilFunc] 85))
    have G0 := Lib.hid (galloc (grefl w none) (.cells #[.nilFunc, .nilFunc, .nilFunc] 85))
    go_enter Tryd.func40, Tryd.ntmps40
    go_wp2_with fail
    generalize w.alloc (.cells #[.nilFunc, .nilFunc, .nilFunc] 85) = u0 at *
    refine Calls.mono (named_any _) ?_
    rintro e u1 ⟨v0, rfl, hv, hg⟩
    have G1 := Lib.hid (gtrans G0.out hg)
    have HB1 := Lib.hid (gblock hg HB0.out (by simp))
    obtain ⟨fn0, ca0, rfl, _⟩ := hv.calls
    have K0 := Lib.hid hv
    clear hv hg G0 HB0 
    have c0 : u1.cell? ⟨w.heap.size, 0, none⟩ = some .nilFunc := bcellAt HB1.out 0
    have f0 : u1.frozen? ⟨w.heap.size, 0, none⟩ = false := bfree HB1.out 0
    have c1 : u1.cell? ⟨w.heap.size, 1, none⟩ = some .nilFunc := bcellAt HB1.out 1
    have f1 : u1.frozen? ⟨w.heap.size, 1, none⟩ = false := bfree HB1.out 1
    have c2 : u1.cell? ⟨w.heap.size, 2, none⟩ = some .nilFunc := bcellAt HB1.out 2
    have f2 : u1.frozen? ⟨w.heap.size, 2, none⟩ = false := bfree HB1.out 2
    have l0 := blt HB1.out
    go_wp2_with fail
    refine bodyPost_ret (results_cell_row rfl _ _ w.heap.size _ _ _ _ rfl (bset3_ HB1.out _ _ _) Tryd.underlying85 rfl (by kernel_rfl)) rfl ?_
    refine ⟨_, rfl, ?_, gstepb G1.out (gset3_ _ _ _ _ _) (Nat.le_refl _)⟩
    rw [HC1.out]
    exact CkA.one (K0.out.kept (gset3_ _ _ _ _ _) (fun b e => .inr ⟨_, _, _, by cases e; exact HB1.out, by simp⟩))
  by_cases h12 : k = 12
  · subst h12
    have HC : cks 12 = [.nam] := rfl
    have HC1 := Lib.hid HC
    clear HC
    have HB0 := Lib.hid (balloc w (.cells #[.nilFunc, .nilFunc, .nilFunc] 85))
    have G0 := Lib.hid (galloc (grefl w none) (.cells #[.nilFunc, .nilFunc, .nilFunc] 85))
    go_enter Tryd.func40, Tryd.ntmps40
    go_wp2_with fail
    generalize w.alloc (.cells #[.nilFunc, .nilFunc, .nilFunc] 85) = u0 at *
    refine Calls.mono (named_any _) ?_
    rintro e u1 ⟨v0, rfl, hv, hg⟩
    have G1 := Lib.hid (gtrans G0.out hg)
    have HB1 := Lib.hid (gblock hg HB0.out (by simp))
    obtain ⟨fn0, ca0, rfl, _⟩ := hv.calls
    have K0 := Lib.hid hv
    clear hv hg G0 HB0 
    have c0 : u1.cell? ⟨w.heap.size, 0, none⟩ = some .nilFunc := bcellAt HB1.out 0
    have f0 : u1.frozen? ⟨w.heap.size, 0, none⟩ = false := bfree HB1.out 0
    have c1 : u1.cell? ⟨w.heap.size, 1, none⟩ = some .nilFunc := bcellAt HB1.out 1
    have f1 : u1.frozen? ⟨w.heap.size, 1, none⟩ = false := bfree HB1.out 1
    have c2 : u1.cell? ⟨w.heap.size, 2, none⟩ = some .nilFunc := bcellAt HB1.out 2
    have f2 : u1.frozen? ⟨w.heap.size, 2, none⟩ = false := bfree HB1.out 2
    have l0 := blt HB1.out
    go_wp2_with fail
    refine bodyPost_ret (results_cell_row rfl _ _ w.heap.size _ _ _ _ rfl (bset3_ HB1.out _ _ _) Tryd.underlying85 rfl (by kernel_rfl)) rfl ?_
    refine ⟨_, rfl, ?_, gstepb G1.out (gset3_ _ _ _ _ _) (Nat.le_refl _)⟩
    rw [HC1.out]
    exact CkA.one (K0.out.kept (gset3_ _ _ _ _ _) (fun b e => .inr ⟨_, _, _, by cases e; exact HB1.out, by simp⟩))
  by_cases h15 : k = 15
  · subst h15
    have HC : cks 15 = [.num 2, .nam] := rfl
    have HC1 := Lib.hid HC
    clear HC
    have HB0 := Lib.hid (balloc w (.cells #[.nilFunc, .nilFunc, .nilFunc] 85))
    have G0 := Lib.hid (galloc (grefl w none) (.cells #[.nilFunc, .nilFunc, .nilFunc] 85))
    go_enter Tryd.func40, Tryd.ntmps40
    go_wp2_with fail
    generalize w.alloc (.cells #[.nilFunc, .nilFunc, .nilFunc] 85) = u0 at *
    refine Calls.mono (number_any 2 (by omega) _) ?_
    rintro e u1 ⟨v0, rfl, hv, hg⟩
    have G1 := Lib.hid (gtrans G0.out hg)
    have HB1 := Lib.hid (gblock hg HB0.out (by simp))
    obtain ⟨fn0, ca0, rfl, _⟩ := hv.calls
    have K0 := Lib.hid hv
    clear hv hg G0 HB0 
    go_wp2_with fail
    refine Calls.mono (named_any _) ?_
    rintro e u2 ⟨v1, rfl, hv, hg⟩
    have G2 := Lib.hid (gtrans G1.out hg)
    have HB2 := Lib.hid (gblock hg HB1.out (by simp))
    have K0_1 := Lib.hid (K0.out.kept0 hg)
    obtain ⟨fn1, ca1, rfl, _⟩ := hv.calls
    have K1 := Lib.hid hv
    clear hv hg G1 HB1 K0
    have c0 : u2.cell? ⟨w.heap.size, 0, none⟩ = some .nilFunc := bcellAt HB2.out 0
    have f0 : u2.frozen? ⟨w.heap.size, 0, none⟩ = false := bfree HB2.out 0
    have c1 : u2.cell? ⟨w.heap.size, 1, none⟩ = some .nilFunc := bcellAt HB2.out 1
    have f1 : u2.frozen? ⟨w.heap.size, 1, none⟩ = false := bfree HB2.out 1
    have c2 : u2.cell? ⟨w.heap.size, 2, none⟩ = some .nilFunc := bcellAt HB2.out 2
    have f2 : u2.frozen? ⟨w.heap.size, 2, none⟩ = false := bfree HB2.out 2
    have l0 := blt HB2.out
    go_wp2_with fail
    refine bodyPost_ret (results_cell_row rfl _ _ w.heap.size _ _ _ _ rfl (bset3_ HB2.out _ _ _) Tryd.underlying85 rfl (by kernel_rfl)) rfl ?_
    refine ⟨_, rfl, ?_, gstepb G2.out (gset3_ _ _ _ _ _) (Nat.le_refl _)⟩
    rw [HC1.out]
    exact CkA.two (K0_1.out.kept (gset3_ _ _ _ _ _) (fun b e => .inr ⟨_, _, _, by cases e; exact HB2.out, by simp⟩)) (K1.out.kept (gset3_ _ _ _ _ _) (fun b e => .inr ⟨_, _, _, by cases e; exact HB2.out, by simp⟩))
  by_cases h6 : k = 6
  · subst h6
    have HC : cks 6 = [.nam, .nam, .num 20] := rfl
    have HC1 := Lib.hid HC
    clear HC
    have HB0 := Lib.hid (balloc w (.cells #[.nilFunc, .nilFunc, .nilFunc] 85))
    have G0 := Lib.hid (galloc (grefl w none) (.cells #[.nilFunc, .nilFunc, .nilFunc] 85))
    go_enter Tryd.func40, Tryd.ntmps40
    go_wp2_with fail
    generalize w.alloc (.cells #[.nilFunc, .nilFunc, .nilFunc] 85) = u0 at *
    refine Calls.mono (named_any _) ?_
    rintro e u1 ⟨v0, rfl, hv, hg⟩
    have G1 := Lib.hid (gtrans G0.out hg)
    have HB1 := Lib.hid (gblock hg HB0.out (by simp))
    obtain ⟨fn0, ca0, rfl, _⟩ := hv.calls
    have K0 := Lib.hid hv
    clear hv hg G0 HB0 
    go_wp2_with fail
    refine Calls.mono (named_any _) ?_
    rintro e u2 ⟨v1, rfl, hv, hg⟩
    have G2 := Lib.hid (gtrans G1.out hg)
    have HB2 := Lib.hid (gblock hg HB1.out (by simp))
    have K0_1 := Lib.hid (K0.out.kept0 hg)
    obtain ⟨fn1, ca1, rfl, _⟩ := hv.calls
    have K1 := Lib.hid hv
    clear hv hg G1 HB1 K0
    go_wp2_with fail
    refine Calls.mono (number_any 20 (by omega) _) ?_
    rintro e u3 ⟨v2, rfl, hv, hg⟩
    have G3 := Lib.hid (gtrans G2.out hg)
    have HB3 := Lib.hid (gblock hg HB2.out (by simp))
    have K0_1_2 := Lib.hid (K0_1.out.kept0 hg)
    have K1_2 := Lib.hid (K1.out.kept0 hg)
    obtain ⟨fn2, ca2, rfl, _⟩ := hv.calls
    have K2 := Lib.hid hv
    clear hv hg G2 HB2 K0_1 K1
    have c0 : u3.cell? ⟨w.heap.size, 0, none⟩ = some .nilFunc := bcellAt HB3.out 0
    have f0 : u3.frozen? ⟨w.heap.size, 0, none⟩ = false := bfree HB3.out 0
    have c1 : u3.cell? ⟨w.heap.size, 1, none⟩ = some .nilFunc := bcellAt HB3.out 1
    have f1 : u3.frozen? ⟨w.heap.size, 1, none⟩ = false := bfree HB3.out 1
    have c2 : u3.cell? ⟨w.heap.size, 2, none⟩ = some .nilFunc := bcellAt HB3.out 2
    have f2 : u3.frozen? ⟨w.heap.size, 2, none⟩ = false := bfree HB3.out 2
    have l0 := blt HB3.out
    go_wp2_with fail
    refine bodyPost_ret (results_cell_row rfl _ _ w.heap.size _ _ _ _ rfl (bset3_ HB3.out _ _ _) Tryd.underlying85 rfl (by kernel_rfl)) rfl ?_
    refine ⟨_, rfl, ?_, gstepb G3.out (gset3_ _ _ _ _ _) (Nat.le_refl _)⟩
    rw [HC1.out]
    exact CkA.three (K0_1_2.out.kept (gset3_ _ _ _ _ _) (fun b e => .inr ⟨_, _, _, by cases e; exact HB3.out, by simp⟩)) (K1_2.out.kept (gset3_ _ _ _ _ _) (fun b e => .inr ⟨_, _, _, by cases e; exact HB3.out, by simp⟩)) (K2.out.kept (gset3_ _ _ _ _ _) (fun b e => .inr ⟨_, _, _, by cases e; exact HB3.out, by simp⟩))
  by_cases h33 : k = 33
  · subst h33
    have HC : cks 33 = [.num 6, .nam] := rfl
    have HC1 := Lib.hid HC
    clear HC
    have HB0 := Lib.hid (balloc w (.cells #[.nilFunc, .nilFunc, .nilFunc] 85))
    have G0 := Lib.hid (galloc (grefl w none) (.cells #[.nilFunc, .nilFunc, .nilFunc] 85))
    go_enter Tryd.func40, Tryd.ntmps40
    go_wp2_with fail
    generalize w.alloc (.cells #[.nilFunc, .nilFunc, .nilFunc] 85) = u0 at *
    refine Calls.mono (number_any 6 (by omega) _) ?_
    rintro e u1 ⟨v0, rfl, hv, hg⟩
    have G1 := Lib.hid (gtrans G0.out hg)
    have HB1 := Lib.hid (gblock hg HB0.out (by simp))
    obtain ⟨fn0, ca0, rfl, _⟩ := hv.calls
    have K0 := Lib.hid hv
    clear hv hg G0 HB0 
    go_wp2_with fail
    refine Calls.mono (named_any _) ?_
    rintro e u2 ⟨v1, rfl, hv, hg⟩
    have G2 := Lib.hid (gtrans G1.out hg)
    have HB2 := Lib.hid (gblock hg HB1.out (by simp))
    have K0_1 := Lib.hid (K0.out.kept0 hg)
    obtain ⟨fn1, ca1, rfl, _⟩ := hv.calls
    have K1 := Lib.hid hv
    clear hv hg G1 HB1 K0
    have c0 : u2.cell? ⟨w.heap.size, 0, none⟩ = some .nilFunc := bcellAt HB2.out 0
    have f0 : u2.frozen? ⟨w.heap.size, 0, none⟩ = false := bfree HB2.out 0
    have c1 : u2.cell? ⟨w.heap.size, 1, none⟩ = some .nilFunc := bcellAt HB2.out 1
    have f1 : u2.frozen? ⟨w.heap.size, 1, none⟩ = false := bfree HB2.out 1
    have c2 : u2.cell? ⟨w.heap.size, 2, none⟩ = some .nilFunc := bcellAt HB2.out 2
    have f2 : u2.frozen? ⟨w.heap.size, 2, none⟩ = false := bfree HB2.out 2
    have l0 := blt HB2.out
    go_wp2_with fail
    refine bodyPost_ret (results_cell_row rfl _ _ w.heap.size _ _ _ _ rfl (bset3_ HB2.out _ _ _) Tryd.underlying85 rfl (by kernel_rfl)) rfl ?_
    refine ⟨_, rfl, ?_, gstepb G2.out (gset3_ _ _ _ _ _) (Nat.le_refl _)⟩
    rw [HC1.out]
    exact CkA.two (K0_1.out.kept (gset3_ _ _ _ _ _) (fun b e => .inr ⟨_, _, _, by cases e; exact HB2.out, by simp⟩)) (K1.out.kept (gset3_ _ _ _ _ _) (fun b e => .inr ⟨_, _, _, by cases e; exact HB2.out, by simp⟩))
  by_cases h16 : k = 16
  · subst h16
    have HC : cks 16 = [.txt] := rfl
    have HC1 := Lib.hid HC
    clear HC
    have HB0 := Lib.hid (balloc w (.cells #[.nilFunc, .nilFunc, .nilFunc] 85))
    have G0 := Lib.hid (galloc (grefl w none) (.cells #[.nilFunc, .nilFunc, .nilFunc] 85))
    go_enter Tryd.func40, Tryd.ntmps40
    go_wp2_with fail
    generalize w.alloc (.cells #[.nilFunc, .nilFunc, .nilFunc] 85) = u0 at *
    refine Calls.mono (textsM_any _) ?_
    rintro e u1 ⟨v0, rfl, hv, hg⟩
    have G1 := Lib.hid (gtrans G0.out hg)
    have HB1 := Lib.hid (gblock hg HB0.out (by simp))
    obtain ⟨fn0, ca0, rfl, _⟩ := hv.calls
    have K0 := Lib.hid hv
    clear hv hg G0 HB0 
    have c0 : u1.cell? ⟨w.heap.size, 0, none⟩ = some .nilFunc := bcellAt HB1.out 0
    have f0 : u1.frozen? ⟨w.heap.size, 0, none⟩ = false := bfree HB1.out 0
    have c1 : u1.cell? ⟨w.heap.size, 1, none⟩ = some .nilFunc := bcellAt HB1.out 1
    have f1 : u1.frozen? ⟨w.heap.size, 1, none⟩ = false := bfree HB1.out 1
    have c2 : u1.cell? ⟨w.heap.size, 2, none⟩ = some .nilFunc := bcellAt HB1.out 2
    have f2 : u1.frozen? ⟨w.heap.size, 2, none⟩ = false := bfree HB1.out 2
    have l0 := blt HB1.out
    go_wp2_with fail
    refine bodyPost_ret (results_cell_row rfl _ _ w.heap.size _ _ _ _ rfl (bset3_ HB1.out _ _ _) Tryd.underlying85 rfl (by kernel_rfl)) rfl ?_
    refine ⟨_, rfl, ?_, gstepb G1.out (gset3_ _ _ _ _ _) (Nat.le_refl _)⟩
    rw [HC1.out]
    exact CkA.one (K0.out.kept (gset3_ _ _ _ _ _) (fun b e => .inr ⟨_, _, _, by cases e; exact HB1.out, by simp⟩))
  have q1 : ((k : Int) == 1) = false := by simp; omega
  have q28 : ((k : Int) == 28) = false := by simp; omega
  have q2 : ((k : Int) == 2) = false := by simp; omega
  have q5 : ((k : Int) == 5) = false := by simp; omega
  have q12 : ((k : Int) == 12) = false := by simp; omega
  have q15 : ((k : Int) == 15) = false := by simp; omega
  have q6 : ((k : Int) == 6) = false := by simp; omega
  have q33 : ((k : Int) == 33) = false := by simp; omega
  have q16 : ((k : Int) == 16) = false := by simp; omega
  have HC : cks k = [.rst] := by unfold cks; rw [if_neg h1, if_neg h28, if_neg (by omega), if_neg h15, if_neg h6, if_neg h33, if_neg h16]
  have HC1 := Lib.hid HC
  clear HC
  have HB0 := Lib.hid (balloc w (.cells #[.nilFunc, .nilFunc, .nilFunc] 85))
  have G0 := Lib.hid (galloc (grefl w none) (.cells #[.nilFunc, .nilFunc, .nilFunc] 85))
  go_enter Tryd.func40, Tryd.ntmps40
  go_wp2_with fail
  generalize w.alloc (.cells #[.nilFunc, .nilFunc, .nilFunc] 85) = u0 at *
  refine Calls.mono (restM_any _) ?_
  rintro e u1 ⟨v0, rfl, hv, hg⟩
  have G1 := Lib.hid (gtrans G0.out hg)
  have HB1 := Lib.hid (gblock hg HB0.out (by simp))
  obtain ⟨fn0, ca0, rfl, _⟩ := hv.calls
  have K0 := Lib.hid hv
  clear hv hg G0 HB0 
  have c0 : u1.cell? ⟨w.heap.size, 0, none⟩ = some .nilFunc := bcellAt HB1.out 0
  have f0 : u1.frozen? ⟨w.heap.size, 0, none⟩ = false := bfree HB1.out 0
  have c1 : u1.cell? ⟨w.heap.size, 1, none⟩ = some .nilFunc := bcellAt HB1.out 1
  have f1 : u1.frozen? ⟨w.heap.size, 1, none⟩ = false := bfree HB1.out 1
  have c2 : u1.cell? ⟨w.heap.size, 2, none⟩ = some .nilFunc := bcellAt HB1.out 2
  have f2 : u1.frozen? ⟨w.heap.size, 2, none⟩ = false := bfree HB1.out 2
  have l0 := blt HB1.out
  go_wp2_with fail
  refine bodyPost_ret (results_cell_row rfl _ _ w.heap.size _ _ _ _ rfl (bset3_ HB1.out _ _ _) Tryd.underlying85 rfl (by kernel_rfl)) rfl ?_
  refine ⟨_, rfl, ?_, gstepb G1.out (gset3_ _ _ _ _ _) (Nat.le_refl _)⟩
  rw [HC1.out]
  exact CkA.one (K0.out.kept (gset3_ _ _ _ _ _) (fun b e => .inr ⟨_, _, _, by cases e; exact HB1.out, by simp⟩))
end Go.Proofs.YtijjfdmklbncbaaDoor
