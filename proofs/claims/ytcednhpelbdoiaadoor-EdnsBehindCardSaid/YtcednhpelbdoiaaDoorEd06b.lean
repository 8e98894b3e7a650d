/-
  Package edns: Read.
-/
import Derived.Test.YtcednhpelbdoiaaDoorSl
import Derived.Test.YtcednhpelbdoiaaDoorEdNum
import Derived.Test.YtcednhpelbdoiaaDoorCurC
import Derived.Test.YtcednhpelbdoiaaDoorCurD
import Derived.Deep.AppendLies
namespace Go.Proofs.YtcednhpelbdoiaaDoor
open Go.RowKit

theorem new_at (s : ByteArray) (w : World) : Calls Tryd.prog 24 #[.string s] w fun e w' => ∃ bc, e = .returned (.pointer (some ⟨bc, 0, none⟩)) ∧ w.heap.size ≤ bc ∧ bc < w'.heap.size ∧ Cur w' bc s 0 ∧ w.grownBy w' none :=
  (new_any s w).mono fun _ _ ⟨he, hc, hg⟩ => ⟨_, he, Nat.le_refl _, blt hc, hc, hg⟩
theorem Tryd.infoOpt : (Tryd.prog.info? 33).map (fun i => (i.zero, i.size, i.bytes)) = some (some (.agg #[.int .u16 0, .string ByteArray.empty]), 2, 24) := by kernel_rfl

/-- Where a cursor stands. -/
def curAt (w : World) (b : Nat) : Nat := match w.cell? ⟨b, 1, none⟩ with | some (.int _ n) => n.toNat | _ => 0
theorem curAt_of {w : World} {b p : Nat} {s : ByteArray} (h : Cur w b s p) : curAt w b = p := by
  have e : w.cell? ⟨b, 1, none⟩ = some (.int .i64 p) := bcellAt h 1
  unfold curAt
  rw [e]
  rfl
/-- What Read holds at its loop's head. -/
structure ErL (w : World) (bc : Nat) (s : ByteArray) (p : Nat) (v : Value) (l : List Opt) (wr : World) : Prop where
  gr : w.grownBy wr none
  cur : Cur wr bc s p
  own : wr.ownsRow (bc + 1) 33 2 v l.length (ov l)
  res : wr.heap[w.heap.size]? = some (.cells #[.int .u16 0, .int .u8 0, .int .u8 0, .int .u16 0, .slice none 0 0] 27 (0, 0))
  lc : w.heap.size < bc
  le : p ≤ s.size
  so : OpsSo s l p
  few : l.length * 4 ≤ p
theorem ErL.quiet {w wr w' : World} {bc p : Nat} {s : ByteArray} {v : Value} {l : List Opt} (h : ErL w bc s p v l wr) (g : wr.grownBy w' none) : ErL w bc s p v l w' :=
  ⟨gtrans h.gr g, h.cur.kept g (by simp), own_kept0 h.own g, gblock g h.res (by simp), h.lc, h.le, h.so, h.few⟩

/-- The result's block at the walk's cells. -/
def Z5 (w wr : World) : Prop := wr.heap[w.heap.size]? = some (.cells #[.int .u16 0, .int .u8 0, .int .u8 0, .int .u16 0, .slice none 0 0] 27 (0, 0))
theorem ErL.step {w wr w' : World} {bc p q : Nat} {s : ByteArray} {v : Value} {l : List Opt} (h : ErL w bc s p v l wr) (g : wr.grownBy w' (some bc)) (c : Cur w' bc s q) :
    w.grownBy w' none ∧ w'.ownsRow (bc + 1) 33 2 v l.length (ov l) ∧ w'.heap[w.heap.size]? = some (.cells #[.int .u16 0, .int .u8 0, .int .u8 0, .int .u16 0, .slice none 0 0] 27 (0, 0)) ∧ Cur w' bc s q :=
  ⟨gstepb h.gr g (by have := h.lc; omega), own_kept h.own g (by omega), gblock g h.res (by have := h.lc; simp; omega), c⟩
theorem two_k (b : Nat) (s : ByteArray) (p : Nat) (w : World) (h : Cur w b s p) (he : Et w) (hp : p + 2 ≤ s.size) (hs : s.size ≤ maxLen) : Calls Tryd.prog 26 #[.pointer (some ⟨b, 0, none⟩)] w fun e w' => e = .returned (.tuple #[.int .u16 (num s p 2), .int .i64 0]) ∧ Cur w' b s (p + 2) ∧ w.grownBy w' (some b) := by
  have e := two_any b s p w h he (by omega) hs
  rw [rdV_ok hp, rdE_ok hp, rdP_ok hp] at e
  exact e
theorem two_short (b : Nat) (s : ByteArray) (p : Nat) (w : World) (h : Cur w b s p) (he : Et w) (hp : p ≤ s.size) (hq : s.size < p + 2) (hs : s.size ≤ maxLen) : Calls Tryd.prog 26 #[.pointer (some ⟨b, 0, none⟩)] w fun e w' => e = .returned (.tuple #[.int .u16 0, .int .i64 4]) ∧ Cur w' b s p ∧ w.grownBy w' (some b) := by
  have e := two_any b s p w h he hp hs
  rw [rdV_no hq, rdE_no hq, rdP_no hq] at e
  exact e
theorem new_pair (w : World) (x y : Value) (t : TypeId) : ∀ j u, [x, y][j]? = some u → (w.alloc (.cells #[x, y] t)).cell? ((⟨w.heap.size, 0, none⟩ : Addr).add j) = some u := by
  intro j u hu
  rw [Addr.add_lit, bcellAt (balloc w _)]
  match j, hu with
  | 0, hu => exact hu
  | 1, hu => exact hu
theorem ErL.app {w w5 w6 : World} {bc p : Nat} {s : ByteArray} {v v' : Value} {l : List Opt} (so : OpsSo s l p) (few : l.length * 4 ≤ p) (lc : w.heap.size < bc) (h4 : p + 4 ≤ s.size) (h5 : p + 4 + num s (p + 2) 2 ≤ s.size)
    (gr : w.grownBy w5 none) (own : w5.ownsRow (bc + 1) 33 2 v l.length (ov l)) (z : Z5 w w5) (c : Cur w5 bc s (p + 4 + num s (p + 2) 2)) (o : Obj)
    (own' : w6.ownsRow (bc + 1) 33 2 v' (l ++ [(num s p 2, s.extract (p + 4) (p + 4 + num s (p + 2) 2))]).length (ov (l ++ [(num s p 2, s.extract (p + 4) (p + 4 + num s (p + 2) 2))]))) (g : (w5.alloc o).grownBy w6 v.ownBlock) :
    ErL w bc s (p + 4 + num s (p + 2) 2) v' (l ++ [(num s p 2, s.extract (p + 4) (p + 4 + num s (p + 2) 2))]) w6 := by
  have g5 : w5.grownBy w6 v.ownBlock := gfr1 g
  have hne : ∀ b, v.ownBlock = some b → bc + 1 ≤ b := fun b hb => (World.ownsRow.lt own b hb).1
  refine ⟨?_, c.kept g5 ?_, own', gblock g5 z ?_, lc, h5, so.step h4 h5, by simp; omega⟩
  · exact gstep gr g5 (fun r hr => by have := hne r hr; omega)
  · intro e; have := hne bc e.symm; omega
  · intro e; have := hne _ e.symm; omega
/-- What Read returns. -/
def EdPost (class_ ttl : Nat) (s : ByteArray) (w : World) (e : Ending) (w' : World) : Prop :=
  w.grownBy w' none ∧ match opsAt s 0 with
    | some l => ∃ v, e = .returned (.tuple #[.agg #[.int .u16 class_, .int .u8 ((ttl / 16777216 : Nat) : Int), .int .u8 ((ttl / 65536 % 256 : Nat) : Int), .int .u16 ((ttl % 65536 : Nat) : Int), v], .int .i64 0]) ∧ FS w' w.heap.size 33 2 v l.length (ov l)
    | none => e = .returned (.tuple #[.agg #[.int .u16 0, .int .u8 0, .int .u8 0, .int .u16 0, .slice none 0 0], .int .i64 4])
theorem EdPost.no {class_ ttl : Nat} {s : ByteArray} {w w' : World} {e : Ending} (h : opsAt s 0 = none) (hg : w.grownBy w' none) (he : e = .returned (.tuple #[.agg #[.int .u16 0, .int .u8 0, .int .u8 0, .int .u16 0, .slice none 0 0], .int .i64 4])) : EdPost class_ ttl s w e w' := by
  unfold EdPost
  rw [h]
  exact ⟨hg, he⟩
theorem EdPost.yes {class_ ttl : Nat} {s : ByteArray} {w w' : World} {e : Ending} {l : List Opt} (h : opsAt s 0 = some l) (hg : w.grownBy w' none) (v : Value) (he : e = .returned (.tuple #[.agg #[.int .u16 class_, .int .u8 ((ttl / 16777216 : Nat) : Int), .int .u8 ((ttl / 65536 % 256 : Nat) : Int), .int .u16 ((ttl % 65536 : Nat) : Int), v], .int .i64 0])) (hf : FS w' w.heap.size 33 2 v l.length (ov l)) : EdPost class_ ttl s w e w' := by
  unfold EdPost
  rw [h]
  exact ⟨hg, v, he, hf⟩

set_option maxRecDepth 100000 in
set_option maxHeartbeats 1000000 in
theorem eread_any (class_ ttl : Nat) (s : ByteArray) (w : World) (he : Et w) (ht : ttl < 4294967296) (hs : s.size ≤ 100000) : Calls Tryd.prog 12 #[.int .u16 class_, .int .u32 ttl, .string s] w (EdPost class_ ttl s w) := by
  have HE := Lib.hid he
  have hm : s.size ≤ maxLen := by unfold maxLen; omega
  obtain ⟨i0, hi, hz0, hz1, hz2⟩ := info_parts Tryd.infoOpt
  clear he
  go_enter Tryd.func12, Tryd.ntmps12
  go_wp2_with fail
  refine Calls.mono (new_at s _) ?_
  rintro e w1 ⟨bc, rfl, hl1, hl2, hc1, hg⟩
  have E0 := Lib.hid (show ErL w bc s 0 (.slice none 0 0) [] w1 from ⟨gfr1 hg, hc1, World.ownsRow_nil _ _ _ _, gblock hg (balloc1_0 w _) (by simp), by simp at hl1; omega, by omega, OpsSo.start s, by simp⟩)
  clear hl1 hl2 hc1 hg
  go_wp2_with fail
  go_loopw [9] (fun v wr => ∃ p l, ErL w bc s p v l wr) (fun _ wr => s.size - curAt wr bc)
  case atStart => exact ⟨_, _, E0.out⟩
  case round =>
    obtain ⟨p, l, hr⟩ := hrel
    have R0 := Lib.hid hr
    have hp := hr.le
    obtain ⟨A, cap, rfl, hcap, hcm⟩ := own_shape hr.own
    unfold maxLen at hcm
    have HM := Lib.hid (curAt_of hr.cur)
    clear hr
    by_cases hlt : p < s.size
    · have hq : decide ((0 : Int) < (s.size : Int) - (p : Int)) = true := by simp; omega
      go_wp2_with fail
      refine Calls.mono (left_any bc s p wr R0.out.cur hp hm) ?_
      rintro e w2 ⟨rfl, hg⟩
      have R2 := Lib.hid (R0.out.quiet hg)
      clear hg R0
      go_wp2_with fail
      by_cases h2 : p + 2 ≤ s.size
      · refine Calls.mono (two_k bc s p w2 R2.out.cur (HE.out.kept R2.out.gr (by simp)) h2 hm) ?_
        rintro e w3 ⟨rfl, hc3, hg3⟩
        have R3 := Lib.hid (R2.out.step hg3 hc3)
        clear hc3 hg3
        go_wp2_with fail
        by_cases h4 : p + 4 ≤ s.size
        · refine Calls.mono (two_k bc s (p + 2) w3 R3.out.2.2.2 (HE.out.kept R3.out.1 (by simp)) (by omega) hm) ?_
          rintro e w4 ⟨rfl, hc4, hg4⟩
          have R4 := Lib.hid (show w.grownBy w4 none ∧ w4.ownsRow (bc + 1) 33 2 (.slice A l.length cap) l.length (ov l) ∧ Z5 w w4 ∧ Cur w4 bc s (p + 4) from ⟨gstepo R3.out.1 hg4 (by have := R2.out.lc; omega), own_kept R3.out.2.1 hg4 (by omega), gblock hg4 R3.out.2.2.1 (by have := R2.out.lc; simp; omega), hc4⟩)
          clear hc4 hg4 R3
          have nb := num_lt s (p + 2) 2
          go_wp2_with fail
          by_cases h5 : p + 4 + num s (p + 2) 2 ≤ s.size
          · refine Calls.mono (T_ok bc s (p + 4) w4 (num s (p + 2) 2) R4.out.2.2.2 h5 hm) ?_
            rintro e w5 ⟨rfl, hc5, hg5⟩
            have R5 := Lib.hid (show w.grownBy w5 none ∧ w5.ownsRow (bc + 1) 33 2 (.slice A l.length cap) l.length (ov l) ∧ Z5 w w5 ∧ Cur w5 bc s (p + 4 + num s (p + 2) 2) from ⟨gstepo R4.out.1 hg5 (by have := R2.out.lc; omega), own_kept R4.out.2.1 hg5 (by omega), gblock hg5 R4.out.2.2.1 (by have := R2.out.lc; simp; omega), hc5⟩)
            clear hc5 hg5 R4
            have hfew : (l.length + 1) * 4 ≤ 100000 := by have := R2.out.few; omega
            go_wp2_with (at_builtin; refine wpList_append_own _ rfl (.tmp 48) (.tmp 52) 25 rfl (bc + 1) 33 i0 _ 2 24 Tryd.underlying25 hi hz0 hz1 hz2 rfl (by omega) (.slice A l.length cap) l.length (ov l) rfl (R5.out.2.1.alloc _) ⟨w5.heap.size, 0, none⟩ 1 1 [.int .u16 (num s p 2), .string (s.extract (p + 4) (p + 4 + num s (p + 2) 2))] rfl rfl ?c1 ?c2 ?c3 ?c4 ?c5 ?_)
            case c1 => exact new_pair w5 _ _ _
            case c2 => intro u hu; simp at hu; rcases hu with rfl | rfl <;> rfl
            case c3 => unfold maxLen; omega
            case c4 => omega
            case c5 => have := blt R5.out.2.2.2; simp; omega
            intro v' w6 hown6 hg6 _
            have R6 := Lib.hid (show ErL w bc s (p + 4 + num s (p + 2) 2) v' (l ++ [(num s p 2, s.extract (p + 4) (p + 4 + num s (p + 2) 2))]) w6 from ErL.app R2.out.so R2.out.few R2.out.lc h4 h5 R5.out.1 R5.out.2.1 R5.out.2.2.1 R5.out.2.2.2 _ (by rw [List.length_append, ov_append]; exact hown6) hg6)
            clear hown6 hg6 R5
            go_wp2_with fail
            go_roundw
            case rel => exact ⟨_, _, R6.out⟩
            case measure => rw [HM.out, curAt_of R6.out.cur]; omega
          · refine Calls.mono (T_short bc s (p + 4) w4 (num s (p + 2) 2) R4.out.2.2.2 (HE.out.kept R4.out.1 (by simp)) (by omega) h4 (by omega) hm) ?_
            rintro e w5 ⟨rfl, hc5, hg5⟩
            have R5 := Lib.hid (show w.grownBy w5 none ∧ Z5 w w5 from ⟨gstepo R4.out.1 hg5 (by have := R2.out.lc; omega), gblock hg5 R4.out.2.2.1 (by have := R2.out.lc; simp; omega)⟩)
            have HN := Lib.hid (R2.out.so.no hlt (by omega))
            clear hc5 hg5 R4
            have z0 : w5.cell? ⟨w.heap.size, 0, none⟩ = some (.int .u16 0) := bcellAt R5.out.2 0
            have z1 : w5.cell? ⟨w.heap.size, 1, none⟩ = some (.int .u8 0) := bcellAt R5.out.2 1
            have z2 : w5.cell? ⟨w.heap.size, 2, none⟩ = some (.int .u8 0) := bcellAt R5.out.2 2
            have z3 : w5.cell? ⟨w.heap.size, 3, none⟩ = some (.int .u16 0) := bcellAt R5.out.2 3
            have z4 : w5.cell? ⟨w.heap.size, 4, none⟩ = some (.slice none 0 0) := bcellAt R5.out.2 4
            have y0 : w5.frozen? ⟨w.heap.size, 0, none⟩ = false := bfree R5.out.2 0
            have y1 : w5.frozen? ⟨w.heap.size, 1, none⟩ = false := bfree R5.out.2 1
            have y2 : w5.frozen? ⟨w.heap.size, 2, none⟩ = false := bfree R5.out.2 2
            have y3 : w5.frozen? ⟨w.heap.size, 3, none⟩ = false := bfree R5.out.2 3
            have y4 : w5.frozen? ⟨w.heap.size, 4, none⟩ = false := bfree R5.out.2 4
            go_wp2_with fail
            refine bodyPost_ret (results_cr rfl _ _ w.heap.size _ _ _ _ rfl (bset5_ R5.out.2 _ _ _ _ _) Tryd.underlying27 rfl (by kernel_rfl)) rfl ?_
            exact EdPost.no HN.out (gstepo R5.out.1 (gset5_ _ _ _ _ _ _ _) (Nat.le_refl _)) rfl
        · refine Calls.mono (two_short bc s (p + 2) w3 R3.out.2.2.2 (HE.out.kept R3.out.1 (by simp)) h2 (by omega) hm) ?_
          rintro e w4 ⟨rfl, hc4, hg4⟩
          have R4 := Lib.hid (show w.grownBy w4 none ∧ Z5 w w4 from ⟨gstepo R3.out.1 hg4 (by have := R2.out.lc; omega), gblock hg4 R3.out.2.2.1 (by have := R2.out.lc; simp; omega)⟩)
          have HN := Lib.hid (R2.out.so.no hlt (by omega))
          clear hc4 hg4 R3
          have z0 : w4.cell? ⟨w.heap.size, 0, none⟩ = some (.int .u16 0) := bcellAt R4.out.2 0
          have z1 : w4.cell? ⟨w.heap.size, 1, none⟩ = some (.int .u8 0) := bcellAt R4.out.2 1
          have z2 : w4.cell? ⟨w.heap.size, 2, none⟩ = some (.int .u8 0) := bcellAt R4.out.2 2
          have z3 : w4.cell? ⟨w.heap.size, 3, none⟩ = some (.int .u16 0) := bcellAt R4.out.2 3
          have z4 : w4.cell? ⟨w.heap.size, 4, none⟩ = some (.slice none 0 0) := bcellAt R4.out.2 4
          have y0 : w4.frozen? ⟨w.heap.size, 0, none⟩ = false := bfree R4.out.2 0
          have y1 : w4.frozen? ⟨w.heap.size, 1, none⟩ = false := bfree R4.out.2 1
          have y2 : w4.frozen? ⟨w.heap.size, 2, none⟩ = false := bfree R4.out.2 2
          have y3 : w4.frozen? ⟨w.heap.size, 3, none⟩ = false := bfree R4.out.2 3
          have y4 : w4.frozen? ⟨w.heap.size, 4, none⟩ = false := bfree R4.out.2 4
          go_wp2_with fail
          refine bodyPost_ret (results_cr rfl _ _ w.heap.size _ _ _ _ rfl (bset5_ R4.out.2 _ _ _ _ _) Tryd.underlying27 rfl (by kernel_rfl)) rfl ?_
          exact EdPost.no HN.out (gstepo R4.out.1 (gset5_ _ _ _ _ _ _ _) (Nat.le_refl _)) rfl
      · refine Calls.mono (two_short bc s p w2 R2.out.cur (HE.out.kept R2.out.gr (by simp)) hp (by omega) hm) ?_
        rintro e w3 ⟨rfl, hc3, hg3⟩
        have R3 := Lib.hid (R2.out.step hg3 hc3)
        have HN := Lib.hid (R2.out.so.no hlt (by omega))
        clear hc3 hg3
        have z0 : w3.cell? ⟨w.heap.size, 0, none⟩ = some (.int .u16 0) := bcellAt R3.out.2.2.1 0
        have z1 : w3.cell? ⟨w.heap.size, 1, none⟩ = some (.int .u8 0) := bcellAt R3.out.2.2.1 1
        have z2 : w3.cell? ⟨w.heap.size, 2, none⟩ = some (.int .u8 0) := bcellAt R3.out.2.2.1 2
        have z3 : w3.cell? ⟨w.heap.size, 3, none⟩ = some (.int .u16 0) := bcellAt R3.out.2.2.1 3
        have z4 : w3.cell? ⟨w.heap.size, 4, none⟩ = some (.slice none 0 0) := bcellAt R3.out.2.2.1 4
        have y0 : w3.frozen? ⟨w.heap.size, 0, none⟩ = false := bfree R3.out.2.2.1 0
        have y1 : w3.frozen? ⟨w.heap.size, 1, none⟩ = false := bfree R3.out.2.2.1 1
        have y2 : w3.frozen? ⟨w.heap.size, 2, none⟩ = false := bfree R3.out.2.2.1 2
        have y3 : w3.frozen? ⟨w.heap.size, 3, none⟩ = false := bfree R3.out.2.2.1 3
        have y4 : w3.frozen? ⟨w.heap.size, 4, none⟩ = false := bfree R3.out.2.2.1 4
        go_wp2_with fail
        refine bodyPost_ret (results_cr rfl _ _ w.heap.size _ _ _ _ rfl (bset5_ R3.out.2.2.1 _ _ _ _ _) Tryd.underlying27 rfl (by kernel_rfl)) rfl ?_
        exact EdPost.no HN.out (gstepo R3.out.1 (gset5_ _ _ _ _ _ _ _) (Nat.le_refl _)) rfl
    · have hq : decide ((0 : Int) < (s.size : Int) - (p : Int)) = false := by simp; omega
      go_wp2_with fail
      refine Calls.mono (left_any bc s p wr R0.out.cur hp hm) ?_
      rintro e w2 ⟨rfl, hg⟩
      have R2 := Lib.hid (R0.out.quiet hg)
      clear hg R0
      have HD := Lib.hid (R2.out.so.done (by omega))
      have z0 : w2.cell? ⟨w.heap.size, 0, none⟩ = some (.int .u16 0) := bcellAt R2.out.res 0
      have z1 : w2.cell? ⟨w.heap.size, 1, none⟩ = some (.int .u8 0) := bcellAt R2.out.res 1
      have z2 : w2.cell? ⟨w.heap.size, 2, none⟩ = some (.int .u8 0) := bcellAt R2.out.res 2
      have z3 : w2.cell? ⟨w.heap.size, 3, none⟩ = some (.int .u16 0) := bcellAt R2.out.res 3
      have z4 : w2.cell? ⟨w.heap.size, 4, none⟩ = some (.slice none 0 0) := bcellAt R2.out.res 4
      have y0 : w2.frozen? ⟨w.heap.size, 0, none⟩ = false := bfree R2.out.res 0
      have y1 : w2.frozen? ⟨w.heap.size, 1, none⟩ = false := bfree R2.out.res 1
      have y2 : w2.frozen? ⟨w.heap.size, 2, none⟩ = false := bfree R2.out.res 2
      have y3 : w2.frozen? ⟨w.heap.size, 3, none⟩ = false := bfree R2.out.res 3
      have y4 : w2.frozen? ⟨w.heap.size, 4, none⟩ = false := bfree R2.out.res 4
      go_wp2_with fail
      refine bodyPost_ret (results_cr rfl _ _ w.heap.size _ _ _ _ rfl (bset5_ R2.out.res _ _ _ _ _) Tryd.underlying27 rfl (by kernel_rfl)) rfl ?_
      refine EdPost.yes HD.out (gstepo R2.out.gr (gset5_ _ _ _ _ _ _ _) (Nat.le_refl _)) (.slice A l.length l.length) ?_ ?_
      · have e : IntKind.u16.wrap (ttl : Int) = ((ttl % 65536 : Nat) : Int) := by rw [IntKind.wrap_u16]; omega
        rw [e]
        rfl
      · refine FS.mono ((FS.cut' R2.out.own).kept (gset5_ _ _ _ _ _ _ _) ?_) (Nat.le_of_lt (Nat.lt_succ_of_lt R2.out.lc))
        right
        intro e
        have h1 : (Value.slice A l.length cap).ownBlock = some w.heap.size := by rw [← e]; cases A <;> rfl
        have := (World.ownsRow.lt R2.out.own _ h1).1
        have := R2.out.lc
        omega
end Go.Proofs.YtcednhpelbdoiaaDoor
