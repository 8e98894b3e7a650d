/-
  Intake: IntakeRoom's walk.
-/
import Derived.Test.YtoncjhjnmomecaaDoorIkI
import Derived.Deep.Cut
namespace Go.Proofs.YtoncjhjnmomecaaDoor
open Go.RowKit

theorem room_eq (c : Cm) (most : Int) (he : c.hasE = true) : room c most = if 512 < c.size then min c.size (max most 512) else 512 := by
  unfold room
  simp [he]
set_option maxRecDepth 100000 in
set_option maxHeartbeats 4000000 in
theorem room_walk (w : World) (s m : Nat) (most : Int) (he : Et w) (hb : Bt w) (hs : s < 65536) (hm : m < 65536) :
    Calls Tryd.prog 3 #[.int .u16 s, .int .u16 m, .int .i64 most] w fun e w' => e = .returned (.bool true) ∧ w.grownBy w' none := by
  have HE := Lib.hid he
  have HB := Lib.hid hb
  clear he hb
  have RA := Lib.hid (fun w' => room_any w' ⟨3, 0, hd0, false, q0, true, s⟩ most)
  have RB := Lib.hid (fun w' => room_any w' ⟨3, 0, hd0, false, q0, true, ((s + m : Nat) : Int)⟩ most)
  have RC := Lib.hid (fun w' => room_any w' ⟨3, 0, hd0, false, q0, false, s⟩ most)
  rw [room_no _ _ rfl] at RC
  have fA := room_eq ⟨3, 0, hd0, false, q0, true, s⟩ most rfl
  have fB := room_eq ⟨3, 0, hd0, false, q0, true, ((s + m : Nat) : Int)⟩ most rfl
  generalize room ⟨3, 0, hd0, false, q0, true, s⟩ most = A at *
  generalize room ⟨3, 0, hd0, false, q0, true, ((s + m : Nat) : Int)⟩ most = B at *
  dsimp only at fA fB
  have g1 : decide (512 ≤ A) = true := decide_eq_true (by rw [fA]; split <;> omega)
  have g2 : decide (A ≤ B) = true := decide_eq_true (by rw [fA, fB]; split <;> split <;> omega)
  have g3 := Lib.hid (show (512 ≤ most → decide (A ≤ most) = true) ∧ (most < 512 → decide (A ≤ 512) = true) from ⟨fun _ => decide_eq_true (by rw [fA]; split <;> omega), fun _ => decide_eq_true (by rw [fA]; split <;> omega)⟩)
  have g4 := Lib.hid (show (512 ≤ (s : Int) → decide (A ≤ (s : Int)) = true) ∧ ((s : Int) < 512 → decide (A ≤ 512) = true) from ⟨fun _ => decide_eq_true (by rw [fA]; split <;> omega), fun _ => decide_eq_true (by rw [fA]; split <;> omega)⟩)
  clear fA fB
  have h1 : wrap64 (s : Int) = s := by unfold wrap64; omega
  have h2 : wrap64 (m : Int) = m := by unfold wrap64; omega
  obtain ⟨sm, hsm⟩ : ∃ x : Int, ((s + m : Nat) : Int) = x := ⟨_, rfl⟩
  have h3 : wrap64 ((s : Int) + (m : Int)) = sm := by unfold wrap64; omega
  rw [hsm] at RB
  have h1' := Lib.hid h1
  clear hsm hs hm
  have RA := Lib.hid (fun w' => show Calls Tryd.prog 7 #[.agg #[.int .u8 3, .int .i64 0, .int .u16 0, .bool false, .int .u8 0, .bool false, .bool false, .bool false, .bool false, .bool false, .bool false, .bool false, .int .u8 0, .bool false, .string { data := #[] }, .int .u16 0, .int .u16 0, .bool true, .int .i64 s], .int .i64 most] w' fun e w'' => e = .returned (.int .i64 A) ∧ w'.grownBy w'' none from RA.out w')
  have RB := Lib.hid (fun w' => show Calls Tryd.prog 7 #[.agg #[.int .u8 3, .int .i64 0, .int .u16 0, .bool false, .int .u8 0, .bool false, .bool false, .bool false, .bool false, .bool false, .bool false, .bool false, .int .u8 0, .bool false, .string { data := #[] }, .int .u16 0, .int .u16 0, .bool true, .int .i64 sm], .int .i64 most] w' fun e w'' => e = .returned (.int .i64 B) ∧ w'.grownBy w'' none from RB.out w')
  have RC := Lib.hid (fun w' => show Calls Tryd.prog 7 #[.agg #[.int .u8 3, .int .i64 0, .int .u16 0, .bool false, .int .u8 0, .bool false, .bool false, .bool false, .bool false, .bool false, .bool false, .bool false, .int .u8 0, .bool false, .string { data := #[] }, .int .u16 0, .int .u16 0, .bool false, .int .i64 s], .int .i64 most] w' fun e w'' => e = .returned (.int .i64 512) ∧ w'.grownBy w'' none from RC.out w')
  go_enter Tryd.func3, Tryd.ntmps3
  have A1 := Lib.hid (balloc w (.cells #[.int .u8 0, .int .i64 0, .int .u16 0, .bool false, .int .u8 0, .bool false, .bool false, .bool false, .bool false, .bool false, .bool false, .bool false, .int .u8 0, .bool false, .string { data := #[] }, .int .u16 0, .int .u16 0, .bool false, .int .i64 0] 28))
  go_upto_region 2 with (refine wpList_store_row rfl 28 _ _ rfl w.heap.size #[.int .u8 3, .int .i64 0, .int .u16 0, .bool false, .int .u8 0, .bool false, .bool false, .bool false, .bool false, .bool false, .bool false, .bool false, .int .u8 0, .bool false, .string { data := #[] }, .int .u16 0, .int .u16 0, .bool true, .int .i64 s] rfl rfl 28 _ A1.out (by kernel_rfl) rfl (by kernel_rfl) ?_)
  have R1 := Lib.hid (bsetR A1.out #[.int .u8 3, .int .i64 0, .int .u16 0, .bool false, .int .u8 0, .bool false, .bool false, .bool false, .bool false, .bool false, .bool false, .bool false, .int .u8 0, .bool false, .string { data := #[] }, .int .u16 0, .int .u16 0, .bool true, .int .i64 s])
  have G := Lib.hid (gsetR (galloc (grefl w none) (.cells #[.int .u8 0, .int .i64 0, .int .u16 0, .bool false, .int .u8 0, .bool false, .bool false, .bool false, .bool false, .bool false, .bool false, .bool false, .int .u8 0, .bool false, .string { data := #[] }, .int .u16 0, .int .u16 0, .bool false, .int .i64 0] 28)) (Nat.le_refl _) #[.int .u8 3, .int .i64 0, .int .u16 0, .bool false, .int .u8 0, .bool false, .bool false, .bool false, .bool false, .bool false, .bool false, .bool false, .int .u8 0, .bool false, .string { data := #[] }, .int .u16 0, .int .u16 0, .bool true, .int .i64 s])
  clear A1
  generalize ((w.alloc (.cells #[.int .u8 0, .int .i64 0, .int .u16 0, .bool false, .int .u8 0, .bool false, .bool false, .bool false, .bool false, .bool false, .bool false, .bool false, .int .u8 0, .bool false, .string { data := #[] }, .int .u16 0, .int .u16 0, .bool false, .int .i64 0] 28)).setRow w.heap.size #[.int .u8 3, .int .i64 0, .int .u16 0, .bool false, .int .u8 0, .bool false, .bool false, .bool false, .bool false, .bool false, .bool false, .bool false, .int .u8 0, .bool false, .string { data := #[] }, .int .u16 0, .int .u16 0, .bool true, .int .i64 s]) = w1 at *
  have L1 := Lib.hid (Nat.le_refl w.heap.size)
  generalize hb1 : w.heap.size = b1 at R1 ⊢
  have A1 := Lib.hid (balloc w1 (.cells #[.int .u8 0, .int .i64 0, .int .u16 0, .bool false, .int .u8 0, .bool false, .bool false, .bool false, .bool false, .bool false, .bool false, .bool false, .int .u8 0, .bool false, .string { data := #[] }, .int .u16 0, .int .u16 0, .bool false, .int .i64 0] 28))
  go_upto_region 3 with (first | refine wpList_load_row rfl 28 _ rfl b1 rfl _ _ _ _ R1.out Tryd.underlying28 rfl (by kernel_rfl) ?_ | refine wpList_store_row rfl 28 _ _ rfl w1.heap.size #[.int .u8 3, .int .i64 0, .int .u16 0, .bool false, .int .u8 0, .bool false, .bool false, .bool false, .bool false, .bool false, .bool false, .bool false, .int .u8 0, .bool false, .string { data := #[] }, .int .u16 0, .int .u16 0, .bool true, .int .i64 s] rfl rfl 28 _ A1.out (by kernel_rfl) rfl (by kernel_rfl) ?_)
  have R2 := Lib.hid (bsetR A1.out #[.int .u8 3, .int .i64 0, .int .u16 0, .bool false, .int .u8 0, .bool false, .bool false, .bool false, .bool false, .bool false, .bool false, .bool false, .int .u8 0, .bool false, .string { data := #[] }, .int .u16 0, .int .u16 0, .bool true, .int .i64 s])
  have hk : w1.grownBy ((w1.alloc (.cells #[.int .u8 0, .int .i64 0, .int .u16 0, .bool false, .int .u8 0, .bool false, .bool false, .bool false, .bool false, .bool false, .bool false, .bool false, .int .u8 0, .bool false, .string { data := #[] }, .int .u16 0, .int .u16 0, .bool false, .int .i64 0] 28)).setRow w1.heap.size #[.int .u8 3, .int .i64 0, .int .u16 0, .bool false, .int .u8 0, .bool false, .bool false, .bool false, .bool false, .bool false, .bool false, .bool false, .int .u8 0, .bool false, .string { data := #[] }, .int .u16 0, .int .u16 0, .bool true, .int .i64 s]) none := gsetR (galloc (grefl w1 none) (.cells #[.int .u8 0, .int .i64 0, .int .u16 0, .bool false, .int .u8 0, .bool false, .bool false, .bool false, .bool false, .bool false, .bool false, .bool false, .int .u8 0, .bool false, .string { data := #[] }, .int .u16 0, .int .u16 0, .bool false, .int .i64 0] 28)) (Nat.le_refl _) #[.int .u8 3, .int .i64 0, .int .u16 0, .bool false, .int .u8 0, .bool false, .bool false, .bool false, .bool false, .bool false, .bool false, .bool false, .int .u8 0, .bool false, .string { data := #[] }, .int .u16 0, .int .u16 0, .bool true, .int .i64 s]
  have R1' := Lib.hid (gblock hk R1.out (by simp))
  have Lt := Lib.hid (blt R1.out)
  have G' := Lib.hid (gtrans G.out hk)
  have L2 := Lib.hid (show w.heap.size ≤ w1.heap.size from G.out.size)
  clear A1 hk R1 G
  generalize ((w1.alloc (.cells #[.int .u8 0, .int .i64 0, .int .u16 0, .bool false, .int .u8 0, .bool false, .bool false, .bool false, .bool false, .bool false, .bool false, .bool false, .int .u8 0, .bool false, .string { data := #[] }, .int .u16 0, .int .u16 0, .bool false, .int .i64 0] 28)).setRow w1.heap.size #[.int .u8 3, .int .i64 0, .int .u16 0, .bool false, .int .u8 0, .bool false, .bool false, .bool false, .bool false, .bool false, .bool false, .bool false, .int .u8 0, .bool false, .string { data := #[] }, .int .u16 0, .int .u16 0, .bool true, .int .i64 s]) = w2 at *
  generalize w1.heap.size = b2 at *
  have c18 := bcellAt R1'.out 18
  have d18 := bcellAt R2.out 18
  have f18 := bfree R2.out 18
  go_upto_region 4 with fail
  have R3 := Lib.hid (show (w2.setCell ⟨b2, 18, none⟩ (.int .i64 sm)).heap[b2]? = some (.cells #[.int .u8 3, .int .i64 0, .int .u16 0, .bool false, .int .u8 0, .bool false, .bool false, .bool false, .bool false, .bool false, .bool false, .bool false, .int .u8 0, .bool false, .string { data := #[] }, .int .u16 0, .int .u16 0, .bool true, .int .i64 sm] 28 (0, 0)) from bset R2.out 18 (.int .i64 sm))
  have hk : w2.grownBy (w2.setCell ⟨b2, 18, none⟩ (.int .i64 sm)) (some b2) := gset (grefl _ _) (p := ⟨b2, 18, none⟩) (.inl rfl) _
  have R1 := Lib.hid (gblock hk R1'.out (by have := Lt.out; simp; omega))
  have G := Lib.hid (gset2 G'.out (p := ⟨b2, 18, none⟩) (v := .int .i64 sm) (by have := L2.out; exact this))
  clear c18 d18 f18 hk R1' R2 G'
  generalize (w2.setCell ⟨b2, 18, none⟩ (.int .i64 sm)) = w3 at *
  have LA := Lib.hid (fun (w' : World) (h : ∃ g : Gr w3, w' = g.w) => (by obtain ⟨g, rfl⟩ := h; exact gblock g.h R1.out (by simp) : w'.heap[b1]? = some (.cells #[.int .u8 3, .int .i64 0, .int .u16 0, .bool false, .int .u8 0, .bool false, .bool false, .bool false, .bool false, .bool false, .bool false, .bool false, .int .u8 0, .bool false, .string { data := #[] }, .int .u16 0, .int .u16 0, .bool true, .int .i64 s] 28 (0, 0))))
  have LB := Lib.hid (fun (w' : World) (h : ∃ g : Gr w3, w' = g.w) => (by obtain ⟨g, rfl⟩ := h; exact gblock g.h R3.out (by simp) : w'.heap[b2]? = some (.cells #[.int .u8 3, .int .i64 0, .int .u16 0, .bool false, .int .u8 0, .bool false, .bool false, .bool false, .bool false, .bool false, .bool false, .bool false, .int .u8 0, .bool false, .string { data := #[] }, .int .u16 0, .int .u16 0, .bool true, .int .i64 sm] 28 (0, 0))))
  refine wp_region_gr (by kernel_rfl) (by kernel_rfl) ?_
  refine wpQuiet_load_row rfl 28 _ rfl b1 rfl _ _ _ _ LA.out Tryd.underlying28 rfl (by kernel_rfl) ?_
  simp only [Act.put, List.setIfInBounds_toArray, List.set_cons_succ, List.set_cons_zero]
  go_big_quiet_step (fail)
  go_big_quiet_step ((go_at_call 7; with_reducible exact Calls.gr (RA.out _)))
  refine wpQuiet_load_row rfl 28 _ rfl b2 rfl _ _ _ _ LB.out Tryd.underlying28 rfl (by kernel_rfl) ?_
  simp only [Act.put, List.setIfInBounds_toArray, List.set_cons_succ, List.set_cons_zero]
  go_big_quiet_step (fail)
  go_big_quiet_step ((go_at_call 7; with_reducible exact Calls.gr (RB.out _)))
  repeat (go_big_quiet_step (fail))
  refine wpQuiet_nil ?_
  rintro _ ⟨gq, rfl⟩
  have R1' := Lib.hid (gblock gq.h R1.out (by simp))
  have G' := Lib.hid (gtrans G.out gq.h)
  clear LA LB RA RB R1 R3 G
  generalize gq.w = w4 at *
  clear gq
  have d17 := bcellAt R1'.out 17
  have f17 := bfree R1'.out 17
  go_upto_region 6 with fail
  have R1 := Lib.hid (show (w4.setCell ⟨b1, 17, none⟩ (.bool false)).heap[b1]? = some (.cells #[.int .u8 3, .int .i64 0, .int .u16 0, .bool false, .int .u8 0, .bool false, .bool false, .bool false, .bool false, .bool false, .bool false, .bool false, .int .u8 0, .bool false, .string { data := #[] }, .int .u16 0, .int .u16 0, .bool false, .int .i64 s] 28 (0, 0)) from bset R1'.out 17 (.bool false))
  have G := Lib.hid (gset2 G'.out (p := ⟨b1, 17, none⟩) (v := .bool false) (by show w.heap.size ≤ b1; omega))
  clear d17 f17 R1' G'
  generalize (w4.setCell ⟨b1, 17, none⟩ (.bool false)) = w5 at *
  clear h1 h2 h3
  have h1 : wrap64 (s : Int) = s := h1'.out
  have EA := Lib.hid (fun (w' : World) (g : w5.grownBy w' none) => awake25_any w' (HE.out.kept (gtrans G.out g) (by simp)) (HB.out.kept (gtrans G.out g) (by simp)))
  rcases Int.lt_or_le most 512 with hm | hm <;> rcases Int.lt_or_le (s : Int) 512 with hs | hs
  case inl.inl =>
    have k1 := g3.out.2 hm
    have k2 := g4.out.2 hs
    go_wp2_with (refine wpList_load_rowG rfl 28 _ rfl b1 rfl _ _ _ _ R1.out Tryd.underlying28 rfl (by kernel_rfl) ?_)
    all_goals first
      | (exfalso; have q1 := of_decide_eq_true k1; have q2 := of_decide_eq_true k2; omega)
      | (refine Calls.mono (RC.out _) ?_
         rintro e w6 ⟨rfl, hg⟩
         have HG := Lib.hid hg
         clear hg k1 k2 g1 g2 hm hs h1
         go_wp2_with fail
         refine Calls.mono (EA.out _ HG.out) ?_
         rintro e w7 ⟨rfl, hg⟩
         have G7 := Lib.hid (gtrans G.out (gtrans HG.out hg))
         clear hg
         go_wp2_with fail
         go_ret
         exact ⟨rfl, G7.out⟩)
  case inl.inr =>
    have k1 := g3.out.2 hm
    have k2 := g4.out.1 hs
    go_wp2_with (refine wpList_load_rowG rfl 28 _ rfl b1 rfl _ _ _ _ R1.out Tryd.underlying28 rfl (by kernel_rfl) ?_)
    all_goals first
      | (exfalso; have q1 := of_decide_eq_true k1; have q2 := of_decide_eq_true k2; omega)
      | (refine Calls.mono (RC.out _) ?_
         rintro e w6 ⟨rfl, hg⟩
         have HG := Lib.hid hg
         clear hg k1 k2 g1 g2 hm hs h1
         go_wp2_with fail
         refine Calls.mono (EA.out _ HG.out) ?_
         rintro e w7 ⟨rfl, hg⟩
         have G7 := Lib.hid (gtrans G.out (gtrans HG.out hg))
         clear hg
         go_wp2_with fail
         go_ret
         exact ⟨rfl, G7.out⟩)
  case inr.inl =>
    have k1 := g3.out.1 hm
    have k2 := g4.out.2 hs
    go_wp2_with (refine wpList_load_rowG rfl 28 _ rfl b1 rfl _ _ _ _ R1.out Tryd.underlying28 rfl (by kernel_rfl) ?_)
    all_goals first
      | (exfalso; have q1 := of_decide_eq_true k1; have q2 := of_decide_eq_true k2; omega)
      | (refine Calls.mono (RC.out _) ?_
         rintro e w6 ⟨rfl, hg⟩
         have HG := Lib.hid hg
         clear hg k1 k2 g1 g2 hm hs h1
         go_wp2_with fail
         refine Calls.mono (EA.out _ HG.out) ?_
         rintro e w7 ⟨rfl, hg⟩
         have G7 := Lib.hid (gtrans G.out (gtrans HG.out hg))
         clear hg
         go_wp2_with fail
         go_ret
         exact ⟨rfl, G7.out⟩)
  case inr.inr =>
    have k1 := g3.out.1 hm
    have k2 := g4.out.1 hs
    go_wp2_with (refine wpList_load_rowG rfl 28 _ rfl b1 rfl _ _ _ _ R1.out Tryd.underlying28 rfl (by kernel_rfl) ?_)
    all_goals first
      | (exfalso; have q1 := of_decide_eq_true k1; have q2 := of_decide_eq_true k2; omega)
      | (refine Calls.mono (RC.out _) ?_
         rintro e w6 ⟨rfl, hg⟩
         have HG := Lib.hid hg
         clear hg k1 k2 g1 g2 hm hs h1
         go_wp2_with fail
         refine Calls.mono (EA.out _ HG.out) ?_
         rintro e w7 ⟨rfl, hg⟩
         have G7 := Lib.hid (gtrans G.out (gtrans HG.out hg))
         clear hg
         go_wp2_with fail
         go_ret
         exact ⟨rfl, G7.out⟩)
end Go.Proofs.YtoncjhjnmomecaaDoor
