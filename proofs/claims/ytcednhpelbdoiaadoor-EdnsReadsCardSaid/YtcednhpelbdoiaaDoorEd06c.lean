/-
  The document's Read of layer 6.
-/
import Derived.Test.YtcednhpelbdoiaaDoorEd06b
import Derived.Test.YtcednhpelbdoiaaDoorRef02
namespace Go.Proofs.YtcednhpelbdoiaaDoor
open Go.RowKit

theorem RCur.kept1 {w w' : World} {b : Nat} {s : ByteArray} {p : Nat} {row : Option Nat} (h : RCur w b s p) (g : w.grownBy w' row) (hr : some b ≠ row) : RCur w' b s p := gblock g h hr
theorem rcurAt_of {w : World} {b p : Nat} {s : ByteArray} (h : RCur w b s p) : curAt w b = p := by
  have e : w.cell? ⟨b, 1, none⟩ = some (.int .i64 p) := bcellAt h 1
  unfold curAt
  rw [e]
  rfl
/-- What the document's Read holds at its loop's head. -/
structure RrL (w : World) (class_ ttl : Nat) (s : ByteArray) (p : Nat) (v : Value) (l : List Opt) (wr : World) : Prop where
  gr : w.grownBy wr none
  cur : RCur wr (w.heap.size + 2) s p
  own : wr.ownsRow (w.heap.size + 3) 33 2 v l.length (ov l)
  res : Z5 w wr
  x : wr.heap[w.heap.size + 1]? = some (.cells #[.int .u16 class_, .int .u8 ((ttl / 16777216 : Nat) : Int), .int .u8 ((ttl / 65536 % 256 : Nat) : Int), .int .u16 ((ttl % 65536 : Nat) : Int), v] 27 (0, 0))
  le : p ≤ s.size
  so : OpsSo s l p
  few : l.length * 4 ≤ p
theorem RrL.quiet {w wr w' : World} {class_ ttl p : Nat} {s : ByteArray} {v : Value} {l : List Opt} (h : RrL w class_ ttl s p v l wr) (g : wr.grownBy w' none) : RrL w class_ ttl s p v l w' :=
  ⟨gtrans h.gr g, gblock g h.cur (by simp), own_kept0 h.own g, gblock g h.res (by simp), gblock g h.x (by simp), h.le, h.so, h.few⟩
/-- The same in the middle of a round. -/
structure RrM (w : World) (class_ ttl : Nat) (s : ByteArray) (q : Nat) (v : Value) (l : List Opt) (wr : World) : Prop where
  gr : w.grownBy wr none
  cur : RCur wr (w.heap.size + 2) s q
  own : wr.ownsRow (w.heap.size + 3) 33 2 v l.length (ov l)
  res : Z5 w wr
  x : wr.heap[w.heap.size + 1]? = some (.cells #[.int .u16 class_, .int .u8 ((ttl / 16777216 : Nat) : Int), .int .u8 ((ttl / 65536 % 256 : Nat) : Int), .int .u16 ((ttl % 65536 : Nat) : Int), v] 27 (0, 0))
theorem RrL.m {w wr : World} {class_ ttl p : Nat} {s : ByteArray} {v : Value} {l : List Opt} (h : RrL w class_ ttl s p v l wr) : RrM w class_ ttl s p v l wr := ⟨h.gr, h.cur, h.own, h.res, h.x⟩
theorem RrM.step {w wr w' : World} {class_ ttl p q : Nat} {s : ByteArray} {v : Value} {l : List Opt} (h : RrM w class_ ttl s p v l wr) (g : wr.grownBy w' (some (w.heap.size + 2))) (c : RCur w' (w.heap.size + 2) s q) : RrM w class_ ttl s q v l w' :=
  ⟨gstepo h.gr g (by omega), c, own_kept h.own g (by omega), gblock g h.res (by simp), gblock g h.x (by simp)⟩
theorem RrM.quiet {w wr w' : World} {class_ ttl p : Nat} {s : ByteArray} {v : Value} {l : List Opt} (h : RrM w class_ ttl s p v l wr) (g : wr.grownBy w' none) : RrM w class_ ttl s p v l w' :=
  ⟨gtrans h.gr g, gblock g h.cur (by simp), own_kept0 h.own g, gblock g h.res (by simp), gblock g h.x (by simp)⟩

theorem RrM.app {w w5 w6 : World} {class_ ttl q : Nat} {s : ByteArray} {v v' : Value} {l : List Opt} {o : Opt} (h : RrM w class_ ttl s q v l w5) (ob : Obj)
    (own' : w6.ownsRow (w.heap.size + 3) 33 2 v' (l ++ [o]).length (ov (l ++ [o]))) (g : (w5.alloc ob).grownBy w6 v.ownBlock) :
    w.grownBy w6 none ∧ RCur w6 (w.heap.size + 2) s q ∧ w6.ownsRow (w.heap.size + 3) 33 2 v' (l ++ [o]).length (ov (l ++ [o])) ∧ Z5 w w6 ∧ w6.heap[w.heap.size + 1]? = some (.cells #[.int .u16 class_, .int .u8 ((ttl / 16777216 : Nat) : Int), .int .u8 ((ttl / 65536 % 256 : Nat) : Int), .int .u16 ((ttl % 65536 : Nat) : Int), v] 27 (0, 0)) := by
  have g5 : w5.grownBy w6 v.ownBlock := gfr1 g
  have hne : ∀ b, v.ownBlock = some b → w.heap.size + 3 ≤ b := fun b hb => (World.ownsRow.lt h.own b hb).1
  refine ⟨gstep h.gr g5 (fun r hr => by have := hne r hr; omega), gblock g5 h.cur ?_, own', gblock g5 h.res ?_, gblock g5 h.x ?_⟩
  · intro e; have := hne _ e.symm; omega
  · intro e; have := hne _ e.symm; omega
  · intro e; have := hne _ e.symm; omega
theorem RrL.of {w w6 : World} {class_ ttl p : Nat} {s : ByteArray} {v v' : Value} {l : List Opt}
    (m : w.grownBy w6 none ∧ RCur w6 (w.heap.size + 2) s (p + 4 + num s (p + 2) 2) ∧ w6.ownsRow (w.heap.size + 3) 33 2 v' (l ++ [(num s p 2, s.extract (p + 4) (p + 4 + num s (p + 2) 2))]).length (ov (l ++ [(num s p 2, s.extract (p + 4) (p + 4 + num s (p + 2) 2))])) ∧ Z5 w w6 ∧ w6.heap[w.heap.size + 1]? = some (.cells #[.int .u16 class_, .int .u8 ((ttl / 16777216 : Nat) : Int), .int .u8 ((ttl / 65536 % 256 : Nat) : Int), .int .u16 ((ttl % 65536 : Nat) : Int), v] 27 (0, 0)))
    (so : OpsSo s l p) (few : l.length * 4 ≤ p) (h4 : p + 4 ≤ s.size) (h5 : p + 4 + num s (p + 2) 2 ≤ s.size) :
    RrL w class_ ttl s (p + 4 + num s (p + 2) 2) v' (l ++ [(num s p 2, s.extract (p + 4) (p + 4 + num s (p + 2) 2))]) (w6.setCell ⟨w.heap.size + 1, 4, none⟩ v') := by
  obtain ⟨gr, cur, own, res, x⟩ := m
  have g : w6.grownBy (w6.setCell ⟨w.heap.size + 1, 4, none⟩ v') (some (w.heap.size + 1)) := gset (grefl _ _) (.inl rfl) _
  exact ⟨gstepo gr g (by omega), gblock g cur (by simp), own_kept own g (by omega), gblock g res (by simp), bset x 4 v', h5, so.step h4 h5, by simp; omega⟩

set_option maxRecDepth 100000 in
set_option maxHeartbeats 2000000 in
theorem rread_any (class_ ttl : Nat) (s : ByteArray) (w : World) (ht : ttl < 4294967296) (hs : s.size ≤ 100000) : Calls Tryd.prog 11 #[.int .u16 class_, .int .u32 ttl, .string s] w (EdPost class_ ttl s w) := by
  have hm : s.size ≤ maxLen := by unfold maxLen; omega
  obtain ⟨i0, hi, hz0, hz1, hz2⟩ := info_parts Tryd.infoOpt
  go_enter Tryd.func11, Tryd.ntmps11
  go_wp2_with fail
  go_loopw [10] (fun _ wr => ∃ p v l, RrL w class_ ttl s p v l wr) (fun _ wr => s.size - curAt wr (w.heap.size + 2))
  case atStart =>
    refine ⟨0, .slice none 0 0, [], galloc (galloc (galloc (grefl _ none) _) _) _, balloc3_2 _ _ _ _, World.ownsRow_nil _ _ _ _, balloc3_0 _ _ _ _, ?_, by omega, OpsSo.start s, by simp⟩
    refine (balloc3_1 w _ _ _).trans ?_
    rfl
  case round =>
    obtain ⟨p, v, l, hr⟩ := hrel
    have R0 := Lib.hid hr
    have hp := hr.le
    obtain ⟨A, cap, rfl, hcap, hcm⟩ := own_shape hr.own
    unfold maxLen at hcm
    have HM := Lib.hid (rcurAt_of hr.cur)
    have c1 : wr.cell? ⟨w.heap.size + 2, 1, none⟩ = some (.int .i64 p) := bcellAt hr.cur 1
    clear hr
    by_cases hlt : p < s.size
    · go_wp2_with fail
      have M0 := Lib.hid R0.out.m
      clear c1
      by_cases h2 : p + 2 ≤ s.size
      · refine Calls.mono (number_ok (w.heap.size + 2) s p 2 wr M0.out.cur h2 (by omega) hm) ?_
        rintro e w3 ⟨rfl, hc3, hg3⟩
        have M3 := Lib.hid (M0.out.step hg3 hc3)
        clear hc3 hg3 M0
        go_wp2_with fail
        by_cases h4 : p + 4 ≤ s.size
        · refine Calls.mono (number_ok (w.heap.size + 2) s (p + 2) 2 w3 M3.out.cur (by omega) (by omega) hm) ?_
          rintro e w4 ⟨rfl, hc4, hg4⟩
          have M4 := Lib.hid (M3.out.step hg4 hc4)
          clear hc4 hg4 M3
          have nb := num_lt s (p + 2) 2
          have nc := num_lt s p 2
          go_wp2_with fail
          by_cases h5 : p + 4 + num s (p + 2) 2 ≤ s.size
          · refine Calls.mono (rtake_ok (w.heap.size + 2) s (p + 4) w4 (num s (p + 2) 2) M4.out.cur h5 hm) ?_
            rintro e w5 ⟨rfl, hc5, hg5⟩
            have M5 := Lib.hid (M4.out.step hg5 hc5)
            clear hc5 hg5 M4
            have hfew : (l.length + 1) * 4 ≤ 100000 := by have := R0.out.few; omega
            have x4 : w5.cell? ⟨w.heap.size + 1, 4, none⟩ = some (.slice A l.length cap) := bcellAt M5.out.x 4
            go_wp2_with (at_builtin; refine wpList_append_own _ rfl (.tmp 66) (.tmp 71) 25 rfl (w.heap.size + 3) 33 i0 _ 2 24 Tryd.underlying25 hi hz0 hz1 hz2 rfl (by omega) (.slice A l.length cap) l.length (ov l) rfl (M5.out.own.alloc _) ⟨w5.heap.size, 0, none⟩ 1 1 [.int .u16 (num s p 2), .string (s.extract (p + 4) (p + 4 + num s (p + 2) 2))] rfl rfl ?c1 ?c2 ?c3 ?c4 ?c5 ?_)
            case c1 => exact new_pair w5 _ _ _
            case c2 => intro u hu; simp at hu; rcases hu with rfl | rfl <;> rfl
            case c3 => unfold maxLen; omega
            case c4 => omega
            case c5 => have := blt M5.out.cur; simp; omega
            intro v' w6 hown6 hg6 _
            obtain ⟨A', cap', rfl, _, _⟩ := own_shape hown6
            have M6 := Lib.hid (M5.out.app (o := (num s p 2, s.extract (p + 4) (p + 4 + num s (p + 2) 2))) (v' := .slice A' (l.length + 1) cap') _ (by rw [List.length_append, ov_append]; exact hown6) hg6)
            clear hown6 hg6 M5 x4
            have x5 : w6.cell? ⟨w.heap.size + 1, 4, none⟩ = some (.slice A l.length cap) := bcellAt M6.out.2.2.2.2 4
            have x6 : w6.frozen? ⟨w.heap.size + 1, 4, none⟩ = false := bfree M6.out.2.2.2.2 4
            go_wp2_with fail
            go_roundw
            case rel => exact ⟨_, _, _, RrL.of M6.out R0.out.so R0.out.few h4 h5⟩
            case measure => rw [HM.out, rcurAt_of (RrL.of M6.out R0.out.so R0.out.few h4 h5).cur]; omega
          · refine Calls.mono (rtake_short (w.heap.size + 2) s (p + 4) w4 (num s (p + 2) 2) M4.out.cur (by omega) h4 (by omega) hm) ?_
            rintro e w5 ⟨rfl, hg5⟩
            have M5 := Lib.hid (M4.out.quiet hg5)
            have HN := Lib.hid (R0.out.so.no hlt (by omega))
            clear hg5 M4
            have z0 : w5.cell? ⟨w.heap.size, 0, none⟩ = some (.int .u16 0) := bcellAt M5.out.res 0
            have z1 : w5.cell? ⟨w.heap.size, 1, none⟩ = some (.int .u8 0) := bcellAt M5.out.res 1
            have z2 : w5.cell? ⟨w.heap.size, 2, none⟩ = some (.int .u8 0) := bcellAt M5.out.res 2
            have z3 : w5.cell? ⟨w.heap.size, 3, none⟩ = some (.int .u16 0) := bcellAt M5.out.res 3
            have z4 : w5.cell? ⟨w.heap.size, 4, none⟩ = some (.slice none 0 0) := bcellAt M5.out.res 4
            have y0 : w5.frozen? ⟨w.heap.size, 0, none⟩ = false := bfree M5.out.res 0
            have y1 : w5.frozen? ⟨w.heap.size, 1, none⟩ = false := bfree M5.out.res 1
            have y2 : w5.frozen? ⟨w.heap.size, 2, none⟩ = false := bfree M5.out.res 2
            have y3 : w5.frozen? ⟨w.heap.size, 3, none⟩ = false := bfree M5.out.res 3
            have y4 : w5.frozen? ⟨w.heap.size, 4, none⟩ = false := bfree M5.out.res 4
            go_wp2_with fail
            refine bodyPost_ret (results_cr rfl _ _ w.heap.size _ _ _ _ rfl (bset5_ M5.out.res _ _ _ _ _) Tryd.underlying27 rfl (by kernel_rfl)) rfl ?_
            exact EdPost.no HN.out (gstepo M5.out.gr (gset5_ _ _ _ _ _ _ _) (Nat.le_refl _)) rfl
        · refine Calls.mono (number_short (w.heap.size + 2) s (p + 2) 2 w3 M3.out.cur h2 (by omega) hm) ?_
          rintro e w4 ⟨rfl, hg4⟩
          have M4 := Lib.hid (M3.out.quiet hg4)
          have HN := Lib.hid (R0.out.so.no hlt (by omega))
          clear hg4 M3
          have z0 : w4.cell? ⟨w.heap.size, 0, none⟩ = some (.int .u16 0) := bcellAt M4.out.res 0
          have z1 : w4.cell? ⟨w.heap.size, 1, none⟩ = some (.int .u8 0) := bcellAt M4.out.res 1
          have z2 : w4.cell? ⟨w.heap.size, 2, none⟩ = some (.int .u8 0) := bcellAt M4.out.res 2
          have z3 : w4.cell? ⟨w.heap.size, 3, none⟩ = some (.int .u16 0) := bcellAt M4.out.res 3
          have z4 : w4.cell? ⟨w.heap.size, 4, none⟩ = some (.slice none 0 0) := bcellAt M4.out.res 4
          have y0 : w4.frozen? ⟨w.heap.size, 0, none⟩ = false := bfree M4.out.res 0
          have y1 : w4.frozen? ⟨w.heap.size, 1, none⟩ = false := bfree M4.out.res 1
          have y2 : w4.frozen? ⟨w.heap.size, 2, none⟩ = false := bfree M4.out.res 2
          have y3 : w4.frozen? ⟨w.heap.size, 3, none⟩ = false := bfree M4.out.res 3
          have y4 : w4.frozen? ⟨w.heap.size, 4, none⟩ = false := bfree M4.out.res 4
          go_wp2_with fail
          refine bodyPost_ret (results_cr rfl _ _ w.heap.size _ _ _ _ rfl (bset5_ M4.out.res _ _ _ _ _) Tryd.underlying27 rfl (by kernel_rfl)) rfl ?_
          exact EdPost.no HN.out (gstepo M4.out.gr (gset5_ _ _ _ _ _ _ _) (Nat.le_refl _)) rfl
      · refine Calls.mono (number_short (w.heap.size + 2) s p 2 wr M0.out.cur hp (by omega) hm) ?_
        rintro e w3 ⟨rfl, hg3⟩
        have M3 := Lib.hid (M0.out.quiet hg3)
        have HN := Lib.hid (R0.out.so.no hlt (by omega))
        clear hg3 M0
        have z0 : w3.cell? ⟨w.heap.size, 0, none⟩ = some (.int .u16 0) := bcellAt M3.out.res 0
        have z1 : w3.cell? ⟨w.heap.size, 1, none⟩ = some (.int .u8 0) := bcellAt M3.out.res 1
        have z2 : w3.cell? ⟨w.heap.size, 2, none⟩ = some (.int .u8 0) := bcellAt M3.out.res 2
        have z3 : w3.cell? ⟨w.heap.size, 3, none⟩ = some (.int .u16 0) := bcellAt M3.out.res 3
        have z4 : w3.cell? ⟨w.heap.size, 4, none⟩ = some (.slice none 0 0) := bcellAt M3.out.res 4
        have y0 : w3.frozen? ⟨w.heap.size, 0, none⟩ = false := bfree M3.out.res 0
        have y1 : w3.frozen? ⟨w.heap.size, 1, none⟩ = false := bfree M3.out.res 1
        have y2 : w3.frozen? ⟨w.heap.size, 2, none⟩ = false := bfree M3.out.res 2
        have y3 : w3.frozen? ⟨w.heap.size, 3, none⟩ = false := bfree M3.out.res 3
        have y4 : w3.frozen? ⟨w.heap.size, 4, none⟩ = false := bfree M3.out.res 4
        go_wp2_with fail
        refine bodyPost_ret (results_cr rfl _ _ w.heap.size _ _ _ _ rfl (bset5_ M3.out.res _ _ _ _ _) Tryd.underlying27 rfl (by kernel_rfl)) rfl ?_
        exact EdPost.no HN.out (gstepo M3.out.gr (gset5_ _ _ _ _ _ _ _) (Nat.le_refl _)) rfl
    · have HD := Lib.hid (R0.out.so.done (by omega))
      have z0 : wr.cell? ⟨w.heap.size, 0, none⟩ = some (.int .u16 0) := bcellAt R0.out.res 0
      have z1 : wr.cell? ⟨w.heap.size, 1, none⟩ = some (.int .u8 0) := bcellAt R0.out.res 1
      have z2 : wr.cell? ⟨w.heap.size, 2, none⟩ = some (.int .u8 0) := bcellAt R0.out.res 2
      have z3 : wr.cell? ⟨w.heap.size, 3, none⟩ = some (.int .u16 0) := bcellAt R0.out.res 3
      have z4 : wr.cell? ⟨w.heap.size, 4, none⟩ = some (.slice none 0 0) := bcellAt R0.out.res 4
      have y0 : wr.frozen? ⟨w.heap.size, 0, none⟩ = false := bfree R0.out.res 0
      have y1 : wr.frozen? ⟨w.heap.size, 1, none⟩ = false := bfree R0.out.res 1
      have y2 : wr.frozen? ⟨w.heap.size, 2, none⟩ = false := bfree R0.out.res 2
      have y3 : wr.frozen? ⟨w.heap.size, 3, none⟩ = false := bfree R0.out.res 3
      have y4 : wr.frozen? ⟨w.heap.size, 4, none⟩ = false := bfree R0.out.res 4
      have x0 : wr.cell? ⟨w.heap.size + 1, 0, none⟩ = some (.int .u16 class_) := bcellAt R0.out.x 0
      have x1 : wr.cell? ⟨w.heap.size + 1, 1, none⟩ = some (.int .u8 ((ttl / 16777216 : Nat) : Int)) := bcellAt R0.out.x 1
      have x2 : wr.cell? ⟨w.heap.size + 1, 2, none⟩ = some (.int .u8 ((ttl / 65536 % 256 : Nat) : Int)) := bcellAt R0.out.x 2
      have x3 : wr.cell? ⟨w.heap.size + 1, 3, none⟩ = some (.int .u16 ((ttl % 65536 : Nat) : Int)) := bcellAt R0.out.x 3
      have x4 : wr.cell? ⟨w.heap.size + 1, 4, none⟩ = some ((.slice A l.length cap)) := bcellAt R0.out.x 4
      go_wp2_with fail
      refine bodyPost_ret (results_cr rfl _ _ w.heap.size _ _ _ _ rfl (bset5_ R0.out.res _ _ _ _ _) Tryd.underlying27 rfl (by kernel_rfl)) rfl ?_
      refine EdPost.yes HD.out (gstepo R0.out.gr (gset5_ _ _ _ _ _ _ _) (Nat.le_refl _)) (.slice A l.length cap) rfl ?_
      refine FS.mono ((FS.of R0.out.own).kept (gset5_ _ _ _ _ _ _ _) ?_) (by omega)
      right
      intro e
      have := (World.ownsRow.lt R0.out.own _ e).1
      omega
end Go.Proofs.YtcednhpelbdoiaaDoor
