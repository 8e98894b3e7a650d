/-
  EdnsBehind.
-/
import Derived.Test.YtcednhpelbdoiaaDoorEd06n
import Derived.Test.YtcednhpelbdoiaaDoorApp2
import Derived.Test.YtcednhpelbdoiaaDoorEdNum4
namespace Go.Proofs.YtcednhpelbdoiaaDoor
open Go.RowKit

theorem cell_far {w : World} {p q : Addr} {u v : Value} (h : w.cell? q = some v) (hne : q.block ≠ p.block) : (w.setCell p u).cell? q = some v := by
  rw [World.cell?_setCell_other w p q u (fun e => hne (by rw [e]))]
  exact h

theorem galc {w : World} {q : Addr} {v : Value} {o : Obj} (h : w.cell? q = some v) : (w.alloc o).drew.cell? q = some v :=
  (gdrew (galloc (grefl w none) o)).cell h (by simp)
theorem edns_new {w w' : World} {t : TypeId} (h : (w.alloc (Obj.cells #[.int .u16 0, .int .u8 0, .int .u8 0, .int .u16 0, .slice none 0 0] t (0, 0))).drew.grownBy w' none) :
    w'.heap[w.heap.size]? = some (Obj.cells #[.int .u16 0, .int .u8 0, .int .u8 0, .int .u16 0, .slice none 0 0] t (0, 0))
    ∧ w'.cell? ⟨w.heap.size, 0, none⟩ = some (.int .u16 0) ∧ w'.cell? ⟨w.heap.size, 1, none⟩ = some (.int .u8 0) ∧ w'.cell? ⟨w.heap.size, 2, none⟩ = some (.int .u8 0) ∧ w'.cell? ⟨w.heap.size, 3, none⟩ = some (.int .u16 0) ∧ w'.cell? ⟨w.heap.size, 4, none⟩ = some (.slice none 0 0)
    ∧ w'.frozen? ⟨w.heap.size, 0, none⟩ = false ∧ w'.frozen? ⟨w.heap.size, 1, none⟩ = false ∧ w'.frozen? ⟨w.heap.size, 2, none⟩ = false ∧ w'.frozen? ⟨w.heap.size, 3, none⟩ = false ∧ w'.frozen? ⟨w.heap.size, 4, none⟩ = false
    ∧ w.heap.size < w'.heap.size := by
  have b := gblock h (show (w.alloc (Obj.cells #[.int .u16 0, .int .u8 0, .int .u8 0, .int .u16 0, .slice none 0 0] t (0, 0))).drew.heap[w.heap.size]? = _ from balloc w _) (by simp)
  exact ⟨b, bcellAt b 0, bcellAt b 1, bcellAt b 2, bcellAt b 3, bcellAt b 4, bfree b 0, bfree b 1, bfree b 2, bfree b 3, bfree b 4, blt b⟩

theorem gset5 {a w : World} {k : Nat} {v0 v1 v2 v3 v4 : Value} (h : a.grownBy w none) (hk : a.heap.size ≤ k) : a.grownBy (((((w.setCell ⟨k, 0, none⟩ v0).setCell ⟨k, 1, none⟩ v1).setCell ⟨k, 2, none⟩ v2).setCell ⟨k, 3, none⟩ v3).setCell ⟨k, 4, none⟩ v4) none :=
  gset (gset (gset (gset (gset h (.inr hk) _) (.inr hk) _) (.inr hk) _) (.inr hk) _) (.inr hk) _

theorem ewR_form' (sz e v f : Nat) (l : List Opt) : ∃ (a b : Int) (s : ByteArray) (c : Int), ewR sz e v f l = .tuple #[.int .u16 a, .int .u32 b, .string s, .int .i64 c] := by
  unfold ewR
  by_cases h : okO l
  · rw [if_pos h]; exact ⟨_, _, _, _, rfl⟩
  · rw [if_neg h]; exact ⟨_, _, _, _, rfl⟩
theorem ewb_ok (sz e v f : Nat) (A : Option Addr) (ca : Nat) (l m : List Opt) (w : World) (he : e < 256) (hv : v < 256) (hf : f < 65536) (ha : Ops w (.slice A (l.length + m.length) ca) (l ++ m)) (hl : l.length + m.length ≤ 1000) (hc : ∀ o ∈ l ++ m, o.1 < 65536) (ho : okO (l ++ m)) :
    Calls Tryd.prog 16 #[.agg #[.int .u16 sz, .int .u8 e, .int .u8 v, .int .u16 f, .slice A (l.length + m.length) ca]] w fun e' w' => e' = .returned (.tuple #[.int .u16 sz, .int .u32 (ttlN e v f), .string (⟨(opsB l).toArray⟩ ++ ⟨(opsB m).toArray⟩), .int .i64 0]) ∧ w.grownBy w' none := by
  rw [mk_append_list, ← opsB_append]
  rw [← List.length_append] at ha hl ⊢
  exact ewrite_ok sz e v f A ca (l ++ m) w he hv hf ha (by unfold maxLen; omega) hc ho
theorem ewb_no (sz e v f : Nat) (A : Option Addr) (ca : Nat) (l m : List Opt) (w : World) (he : e < 256) (hv : v < 256) (hf : f < 65536) (ha : Ops w (.slice A (l.length + m.length) ca) (l ++ m)) (hl : l.length + m.length ≤ 1000) (hc : ∀ o ∈ l ++ m, o.1 < 65536) (ho : ¬ okO (l ++ m)) :
    Calls Tryd.prog 16 #[.agg #[.int .u16 sz, .int .u8 e, .int .u8 v, .int .u16 f, .slice A (l.length + m.length) ca]] w fun e' w' => e' = .returned (.tuple #[.int .u16 0, .int .u32 0, .string ByteArray.empty, .int .i64 5]) ∧ w.grownBy w' none := by
  rw [← List.length_append] at ha hl ⊢
  exact ewrite_no sz e v f A ca (l ++ m) w he hv hf ha (by unfold maxLen; omega) hc ho

set_option maxHeartbeats 4000000 in
set_option maxRecDepth 100000 in
theorem behind_walk (sz e v f : Nat) (A : Option Addr) (ca : Nat) (l : List Opt) (sz' e' v' f' : Nat) (B : Option Addr) (cb : Nat) (m : List Opt) (cut : Int) (w : World) (het : Et w)
    (h1 : e < 256) (h2 : v < 256) (h3 : f < 65536) (ha : Ops w (.slice A l.length ca) l) (hl : l.length ≤ maxLen) (hc : ∀ o ∈ l, o.1 < 65536) (h4 : e' < 256) (h5 : v' < 256) (h6 : f' < 65536) (hb : Ops w (.slice B m.length cb) m) (hm : m.length ≤ maxLen) (hd : ∀ o ∈ m, o.1 < 65536) :
    Calls Tryd.prog 6 #[.agg #[.int .u16 sz, .int .u8 e, .int .u8 v, .int .u16 f, .slice A l.length ca], .agg #[.int .u16 sz', .int .u8 e', .int .u8 v', .int .u16 f', .slice B m.length cb], .int .i64 cut] w fun e w' => e = .returned (.bool true) ∧ w.grownBy w' none := by
  have HE := Lib.hid het
  have HA := Lib.hid ha
  have HB := Lib.hid hb
  have HC := Lib.hid hc
  have HD := Lib.hid hd
  obtain ⟨i0, hi, hz0, hz1, hz2⟩ := info_parts Tryd.infoOpt
  clear het ha hb hc hd
  go_enter Tryd.func6, Tryd.ntmps6
  have GR0 := Lib.hid (grefl w none)
  go_wp2_with fail
  refine Calls.mono (long_any _ _ _ _ A ca l _ (HA.out.kept (galloc (galloc (GR0.out) _) _)) hl) ?_
  rintro e w1 ⟨q1, rfl, hq1, hg⟩
  have GR1 := Lib.hid (gtrans GR0.out (gfr1 (gfr1 (hg))))
  have X_1 := Lib.hid (gblock hg (balloc2_0 w (.cells #[.int .u16 sz, .int .u8 e, .int .u8 v, .int .u16 f, .slice A l.length ca] 27) (.cells #[.int .u16 sz', .int .u8 e', .int .u8 v', .int .u16 f', .slice B m.length cb] 27)) (by simp))
  have Y_1 := Lib.hid (gblock hg (balloc2_1 w (.cells #[.int .u16 sz, .int .u8 e, .int .u8 v, .int .u16 f, .slice A l.length ca] 27) (.cells #[.int .u16 sz', .int .u8 e', .int .u8 v', .int .u16 f', .slice B m.length cb] 27)) (by simp))
  clear hg GR0
  have Q1 := Lib.hid hq1
  clear hq1
  cases q1 with
  | true =>
    clear X_1
    clear Y_1
    go_wp2_with fail
    refine Calls.mono (awake06 _ (HE.out.kept (GR1.out) (by simp))) ?_
    rintro e w2 ⟨rfl, hg⟩
    have GR2 := Lib.hid (gtrans GR1.out (hg))
    clear hg GR1
    go_wp2_with fail
    go_ret
    exact ⟨rfl, GR2.out⟩
  | false =>
    have L1 := Lib.hid (Q1.out rfl)
    clear Q1
    have c_Y_0 : w1.cell? ⟨w.heap.size + 1, 0, none⟩ = some (.int .u16 sz') := bcellAt Y_1.out 0
    have c_Y_1 : w1.cell? ⟨w.heap.size + 1, 1, none⟩ = some (.int .u8 e') := bcellAt Y_1.out 1
    have c_Y_2 : w1.cell? ⟨w.heap.size + 1, 2, none⟩ = some (.int .u8 v') := bcellAt Y_1.out 2
    have c_Y_3 : w1.cell? ⟨w.heap.size + 1, 3, none⟩ = some (.int .u16 f') := bcellAt Y_1.out 3
    have c_Y_4 : w1.cell? ⟨w.heap.size + 1, 4, none⟩ = some (.slice B m.length cb) := bcellAt Y_1.out 4
    have l_Y : w.heap.size + 1 < w1.heap.size := blt Y_1.out
    go_wp2_with fail
    refine Calls.mono (long_any _ _ _ _ B cb m _ (HB.out.kept (GR1.out)) hm) ?_
    rintro e w2 ⟨q2, rfl, hq2, hg⟩
    have GR2 := Lib.hid (gtrans GR1.out (hg))
    have X_2 := Lib.hid (gblock (hg) X_1.out (by simp))
    have Y_2 := Lib.hid (gblock (hg) Y_1.out (by simp))
    clear hg GR1 X_1 Y_1 c_Y_0 c_Y_1 c_Y_2 c_Y_3 c_Y_4 l_Y
    have Q2 := Lib.hid hq2
    clear hq2
    cases q2 with
    | true =>
      clear X_2
      clear Y_2
      go_wp2_with fail
      refine Calls.mono (awake06 _ (HE.out.kept (GR2.out) (by simp))) ?_
      rintro e w3 ⟨rfl, hg⟩
      have GR3 := Lib.hid (gtrans GR2.out (hg))
      clear hg GR2
      go_wp2_with fail
      go_ret
      exact ⟨rfl, GR3.out⟩
    | false =>
      have L2 := Lib.hid (Q2.out rfl)
      clear Q2
      have l1 := L1.out.1
      have l2 := L2.out.1
      go_wp2_with fail
      refine Calls.mono (awake06 _ (HE.out.kept (GR2.out) (by simp))) ?_
      rintro e w3 ⟨rfl, hg⟩
      have GR3 := Lib.hid (gtrans GR2.out (hg))
      have X_3 := Lib.hid (gblock (hg) X_2.out (by simp))
      have Y_3 := Lib.hid (gblock (hg) Y_2.out (by simp))
      clear hg GR2 X_2 Y_2
      have c_X_0 : w3.cell? ⟨w.heap.size, 0, none⟩ = some (.int .u16 sz) := bcellAt X_3.out 0
      have c_X_1 : w3.cell? ⟨w.heap.size, 1, none⟩ = some (.int .u8 e) := bcellAt X_3.out 1
      have c_X_2 : w3.cell? ⟨w.heap.size, 2, none⟩ = some (.int .u8 v) := bcellAt X_3.out 2
      have c_X_3 : w3.cell? ⟨w.heap.size, 3, none⟩ = some (.int .u16 f) := bcellAt X_3.out 3
      have c_X_4 : w3.cell? ⟨w.heap.size, 4, none⟩ = some (.slice A l.length ca) := bcellAt X_3.out 4
      have l_X : w.heap.size < w3.heap.size := blt X_3.out
      have c_Y_0 : w3.cell? ⟨w.heap.size + 1, 0, none⟩ = some (.int .u16 sz') := bcellAt Y_3.out 0
      have c_Y_1 : w3.cell? ⟨w.heap.size + 1, 1, none⟩ = some (.int .u8 e') := bcellAt Y_3.out 1
      have c_Y_2 : w3.cell? ⟨w.heap.size + 1, 2, none⟩ = some (.int .u8 v') := bcellAt Y_3.out 2
      have c_Y_3 : w3.cell? ⟨w.heap.size + 1, 3, none⟩ = some (.int .u16 f') := bcellAt Y_3.out 3
      have c_Y_4 : w3.cell? ⟨w.heap.size + 1, 4, none⟩ = some (.slice B m.length cb) := bcellAt Y_3.out 4
      have l_Y : w.heap.size + 1 < w3.heap.size := blt Y_3.out
      go_wp2_with fail
      have lX3 : w.heap.size < w3.heap.size := blt X_3.out
      have lY3 : w.heap.size + 1 < w3.heap.size := blt Y_3.out
      have hg : (w3.alloc (.cells #[.int .u16 sz, .int .u8 e, .int .u8 v, .int .u16 f, .slice A l.length ca] 27)).grownBy (w3.alloc (.cells #[.int .u16 sz, .int .u8 e, .int .u8 v, .int .u16 f, .slice A l.length ca] 27)) none := grefl _ none
      have GR4 := Lib.hid (gtrans GR3.out (gfr1 (hg)))
      have X_4 := Lib.hid (gblock (gfr1 (hg)) X_3.out (by simp))
      have Y_4 := Lib.hid (gblock (gfr1 (hg)) Y_3.out (by simp))
      have I_4 := Lib.hid (gblock hg (balloc1_0 w3 (.cells #[.int .u16 sz, .int .u8 e, .int .u8 v, .int .u16 f, .slice A l.length ca] 27)) (by simp))
      clear hg GR3 X_3 Y_3 c_X_0 c_X_1 c_X_2 c_X_3 c_X_4 l_X c_Y_0 c_Y_1 c_Y_2 c_Y_3 c_Y_4 l_Y
      generalize w3.alloc (.cells #[.int .u16 sz, .int .u8 e, .int .u8 v, .int .u16 f, .slice A l.length ca] 27) = w4 at *
      have c_X_0 : w4.cell? ⟨w.heap.size, 0, none⟩ = some (.int .u16 sz) := bcellAt X_4.out 0
      have c_X_1 : w4.cell? ⟨w.heap.size, 1, none⟩ = some (.int .u8 e) := bcellAt X_4.out 1
      have c_X_2 : w4.cell? ⟨w.heap.size, 2, none⟩ = some (.int .u8 v) := bcellAt X_4.out 2
      have c_X_3 : w4.cell? ⟨w.heap.size, 3, none⟩ = some (.int .u16 f) := bcellAt X_4.out 3
      have c_X_4 : w4.cell? ⟨w.heap.size, 4, none⟩ = some (.slice A l.length ca) := bcellAt X_4.out 4
      have l_X : w.heap.size < w4.heap.size := blt X_4.out
      have c_Y_0 : w4.cell? ⟨w.heap.size + 1, 0, none⟩ = some (.int .u16 sz') := bcellAt Y_4.out 0
      have c_Y_1 : w4.cell? ⟨w.heap.size + 1, 1, none⟩ = some (.int .u8 e') := bcellAt Y_4.out 1
      have c_Y_2 : w4.cell? ⟨w.heap.size + 1, 2, none⟩ = some (.int .u8 v') := bcellAt Y_4.out 2
      have c_Y_3 : w4.cell? ⟨w.heap.size + 1, 3, none⟩ = some (.int .u16 f') := bcellAt Y_4.out 3
      have c_Y_4 : w4.cell? ⟨w.heap.size + 1, 4, none⟩ = some (.slice B m.length cb) := bcellAt Y_4.out 4
      have l_Y : w.heap.size + 1 < w4.heap.size := blt Y_4.out
      have c_I_0 : w4.cell? ⟨w3.heap.size, 0, none⟩ = some (.int .u16 sz) := bcellAt I_4.out 0
      have c_I_1 : w4.cell? ⟨w3.heap.size, 1, none⟩ = some (.int .u8 e) := bcellAt I_4.out 1
      have c_I_2 : w4.cell? ⟨w3.heap.size, 2, none⟩ = some (.int .u8 v) := bcellAt I_4.out 2
      have c_I_3 : w4.cell? ⟨w3.heap.size, 3, none⟩ = some (.int .u16 f) := bcellAt I_4.out 3
      have c_I_4 : w4.cell? ⟨w3.heap.size, 4, none⟩ = some (.slice A l.length ca) := bcellAt I_4.out 4
      have l_I : w3.heap.size < w4.heap.size := blt I_4.out
      have f_I_0 : w4.frozen? ⟨w3.heap.size, 0, none⟩ = false := bfree I_4.out 0
      have f_I_1 : w4.frozen? ⟨w3.heap.size, 1, none⟩ = false := bfree I_4.out 1
      have f_I_2 : w4.frozen? ⟨w3.heap.size, 2, none⟩ = false := bfree I_4.out 2
      have f_I_3 : w4.frozen? ⟨w3.heap.size, 3, none⟩ = false := bfree I_4.out 3
      have f_I_4 : w4.frozen? ⟨w3.heap.size, 4, none⟩ = false := bfree I_4.out 4
      have lX := blt X_4.out
      have lY := blt Y_4.out
      go_region_held3 (fun w' => w'.cell? ⟨w.heap.size, 4, none⟩ = some (.slice A l.length ca) ∧ w'.cell? ⟨w.heap.size + 1, 4, none⟩ = some (.slice B m.length cb)) (first | go_keep | exact ⟨cell_far (g6.cell c_X_4 (by simp)) (Nat.ne_of_lt lX3), cell_far (g6.cell c_Y_4 (by simp)) (Nat.ne_of_lt lY3)⟩ | exact ⟨g6.cell c_X_4 (by simp), g6.cell c_Y_4 (by simp)⟩ | exact ⟨g5.cell c_X_4 (by simp), g5.cell c_Y_4 (by simp)⟩)
        (first
          | ((refine step_app_k (by rfl) (.tmp 38) (.tmp 40) 25 (by rfl) w4.heap.size 33 i0 _ 2 24 Tryd.underlying25 hi hz0 hz1 hz2 rfl (by omega) (.slice (some ⟨w4.heap.size, 0, none⟩) 0 0) 0 l.length [] (ov l) (by rfl) (by exact own_none w4 _ _ 2 (Nat.le_refl _)) (.slice A l.length ca) (by rfl) (by exact HA.out.kept (gdrew (galloc GR4.out _))) (ov_one l) (by unfold maxLen; omega) (by omega) (by simp only [World.size_drew, asz]; omega) ?_; intro v5 w5 ho5 hg5; have g5 : w4.grownBy w5 none := gnew (gtrans (gdrew (galloc (grefl w4 _) _)) hg5) (fun b eb => by simp [Value.ownBlock] at eb; omega); clear hg5))
          | ((refine step_app_k (by rfl) (.tmp 41) (.tmp 43) 25 (by rfl) w4.heap.size 33 i0 _ 2 24 Tryd.underlying25 hi hz0 hz1 hz2 rfl (by omega) v5 (0 + l.length) m.length ([] ++ ov l) (ov m) (by rfl) (by exact ho5) (.slice B m.length cb) (by rfl) (by exact HB.out.kept (gtrans GR4.out g5)) (ov_one m) (by unfold maxLen; omega) (by omega) (by exact g5.size) ?_; intro v6 w6 ho6 hg6; have g6 : w4.grownBy w6 none := gstep g5 hg6 (fun b eb => (ho5.lt b eb).1); obtain ⟨A6, c6, rfl, _, _⟩ := own_shape ho6; have k4 : w6.cell? ⟨w3.heap.size, 4, none⟩ = some (.slice A l.length ca) := g6.cell c_I_4 (by simp); have k5 : w6.frozen? ⟨w3.heap.size, 4, none⟩ = false := bfree (gblock g6 I_4.out (by simp)) 4)))
      have hs : w6.grownBy (w6.setCell ⟨w3.heap.size, 4, none⟩ (.slice A6 (l.length + m.length) c6)) (some w3.heap.size) := gset (grefl _ _) (.inl rfl) _
      have lI : w3.heap.size < w4.heap.size := blt I_4.out
      have G7 := Lib.hid (gstepo (gtrans GR4.out g6) hs (Nat.le_of_lt (Nat.lt_of_lt_of_le lX3 (Nat.le_refl _))))
      have X7 := Lib.hid (gblock hs (gblock g6 X_4.out (by simp)) (by simp; omega))
      have Y7 := Lib.hid (gblock hs (gblock g6 Y_4.out (by simp)) (by simp; omega))
      have I7 := Lib.hid (show (w6.setCell ⟨w3.heap.size, 4, none⟩ (.slice A6 (l.length + m.length) c6)).heap[w3.heap.size]? = some (.cells #[.int .u16 sz, .int .u8 e, .int .u8 v, .int .u16 f, .slice A6 (l.length + m.length) c6] 27 (0, 0)) from bset (gblock g6 I_4.out (by simp)) 4 _)
      have V7 := Lib.hid (show Ops (w6.setCell ⟨w3.heap.size, 4, none⟩ (.slice A6 (l.length + m.length) c6)) (.slice A6 (l.length + m.length) c6) (l ++ m) from by
        have h0 : Sl w6 2 (.slice A6 (l.length + m.length) c6) (l.length + m.length) (ov l ++ ov m) := by simpa using (FS.of ho6).sl
        have h1 := Sl.kept h0 hs (fun b e => .inr (fun e2 => by cases e; have := (ho6.lt _ ((ownB _ _ _ _ _).trans e2)).1; omega))
        unfold Ops; rw [ov_append, List.length_append]; exact h1)
      clear c_X_0 c_X_1 c_X_2 c_X_3 c_X_4 l_X c_Y_0 c_Y_1 c_Y_2 c_Y_3 c_Y_4 l_Y c_I_0 c_I_1 c_I_2 c_I_3 c_I_4 l_I f_I_0 f_I_1 f_I_2 f_I_3 f_I_4 k4 k5 ho5 ho6 hg6 g5 g6 hs GR4 X_4 Y_4 I_4
      generalize w6.setCell ⟨w3.heap.size, 4, none⟩ (.slice A6 (l.length + m.length) c6) = w7 at *
      clear lX lY lI
      have hlen : (opsB (l ++ m)).length = (opsB l).length + (opsB m).length := by rw [opsB_append, List.length_append]
      have HLen := Lib.hid hlen
      clear hlen
      have lm : (l ++ m).length = l.length + m.length := List.length_append
      have HLM := Lib.hid lm
      clear lm
      by_cases ho1 : okO l
      · have O1 := Lib.hid ho1
        by_cases ho2 : okO m
        · have O2 := Lib.hid ho2
          by_cases ho3 : okO (l ++ m)
          · have O3 := Lib.hid ho3
            clear ho1 ho2 ho3
            have c_X_0 : w7.cell? ⟨w.heap.size, 0, none⟩ = some (.int .u16 sz) := bcellAt X7.out 0
            have c_X_1 : w7.cell? ⟨w.heap.size, 1, none⟩ = some (.int .u8 e) := bcellAt X7.out 1
            have c_X_2 : w7.cell? ⟨w.heap.size, 2, none⟩ = some (.int .u8 v) := bcellAt X7.out 2
            have c_X_3 : w7.cell? ⟨w.heap.size, 3, none⟩ = some (.int .u16 f) := bcellAt X7.out 3
            have c_X_4 : w7.cell? ⟨w.heap.size, 4, none⟩ = some (.slice A l.length ca) := bcellAt X7.out 4
            have l_X : w.heap.size < w7.heap.size := blt X7.out
            go_wp2_with fail
            refine Calls.mono (ewrite_ok sz e v f A ca l _ h1 h2 h3 (HA.out.kept G7.out) hl HC.out O1.out) ?_
            rintro e w8 ⟨rfl, hg⟩
            have GR8 := Lib.hid (gtrans G7.out (hg))
            have X_8 := Lib.hid (gblock (hg) X7.out (by simp))
            have Y_8 := Lib.hid (gblock (hg) Y7.out (by simp))
            have I_8 := Lib.hid (gblock (hg) I7.out (by simp))
            have V_8 := Lib.hid (V7.out.kept (hg))
            clear hg G7 X7 Y7 I7 V7 c_X_0 c_X_1 c_X_2 c_X_3 c_X_4 l_X
            have c_Y_0 : w8.cell? ⟨w.heap.size + 1, 0, none⟩ = some (.int .u16 sz') := bcellAt Y_8.out 0
            have c_Y_1 : w8.cell? ⟨w.heap.size + 1, 1, none⟩ = some (.int .u8 e') := bcellAt Y_8.out 1
            have c_Y_2 : w8.cell? ⟨w.heap.size + 1, 2, none⟩ = some (.int .u8 v') := bcellAt Y_8.out 2
            have c_Y_3 : w8.cell? ⟨w.heap.size + 1, 3, none⟩ = some (.int .u16 f') := bcellAt Y_8.out 3
            have c_Y_4 : w8.cell? ⟨w.heap.size + 1, 4, none⟩ = some (.slice B m.length cb) := bcellAt Y_8.out 4
            have l_Y : w.heap.size + 1 < w8.heap.size := blt Y_8.out
            go_wp2_with fail
            refine Calls.mono (ewrite_ok sz' e' v' f' B cb m _ h4 h5 h6 (HB.out.kept GR8.out) hm HD.out O2.out) ?_
            rintro e w9 ⟨rfl, hg⟩
            have GR9 := Lib.hid (gtrans GR8.out (hg))
            have X_9 := Lib.hid (gblock (hg) X_8.out (by simp))
            have Y_9 := Lib.hid (gblock (hg) Y_8.out (by simp))
            have I_9 := Lib.hid (gblock (hg) I_8.out (by simp))
            have V_9 := Lib.hid (V_8.out.kept (hg))
            clear hg GR8 X_8 Y_8 I_8 V_8 c_Y_0 c_Y_1 c_Y_2 c_Y_3 c_Y_4 l_Y
            have c_I_0 : w9.cell? ⟨w3.heap.size, 0, none⟩ = some (.int .u16 sz) := bcellAt I_9.out 0
            have c_I_1 : w9.cell? ⟨w3.heap.size, 1, none⟩ = some (.int .u8 e) := bcellAt I_9.out 1
            have c_I_2 : w9.cell? ⟨w3.heap.size, 2, none⟩ = some (.int .u8 v) := bcellAt I_9.out 2
            have c_I_3 : w9.cell? ⟨w3.heap.size, 3, none⟩ = some (.int .u16 f) := bcellAt I_9.out 3
            have c_I_4 : w9.cell? ⟨w3.heap.size, 4, none⟩ = some (.slice A6 (l.length + m.length) c6) := bcellAt I_9.out 4
            have l_I : w3.heap.size < w9.heap.size := blt I_9.out
            go_wp2_with fail
            refine Calls.mono (ewb_ok sz e v f A6 c6 l m _ h1 h2 h3 V_9.out (by omega) (fun o ho => by rcases List.mem_append.1 ho with h | h; exact HC.out o h; exact HD.out o h) O3.out) ?_
            rintro e w10 ⟨rfl, hg⟩
            have GR10 := Lib.hid (gtrans GR9.out (hg))
            have X_10 := Lib.hid (gblock (hg) X_9.out (by simp))
            have Y_10 := Lib.hid (gblock (hg) Y_9.out (by simp))
            have I_10 := Lib.hid (gblock (hg) I_9.out (by simp))
            have V_10 := Lib.hid (V_9.out.kept (hg))
            clear hg GR9 X_9 Y_9 I_9 V_9 c_I_0 c_I_1 c_I_2 c_I_3 c_I_4 l_I
            have okl : (opsB l).length ≤ 65535 := O1.out
            have okm : (opsB m).length ≤ 65535 := O2.out
            have oks : (opsB l).length + (opsB m).length ≤ 65535 := by have := HLen.out; have h : (opsB (l ++ m)).length ≤ 65535 := O3.out; omega
            have hb1 : decide ((65535 : Int) < ((opsB l).length : Int) + ((opsB m).length : Int)) = false := by simp; omega
            have gq : ¬ 9223372036854775807 < (opsB l).length + (opsB m).length := by omega
            obtain ⟨kk, hk0, hk1⟩ := umod cut ((opsB l).length + (opsB m).length + 1) (by omega) (by omega)
            have hk : wrap64 ((IntKind.u64.wrap cut).tmod (((opsB l).length : Int) + ((opsB m).length : Int) + 1)) = (kk : Int) := by rw [← hk0]; push_cast; rfl
            clear hk0
            have HK := Lib.hid hk
            clear hk
            go_wp2_with fail
            rw [HK.out]
            clear HK hb1 gq
            have c_I_0 : w10.cell? ⟨w3.heap.size, 0, none⟩ = some (.int .u16 sz) := bcellAt I_10.out 0
            have c_I_1 : w10.cell? ⟨w3.heap.size, 1, none⟩ = some (.int .u8 e) := bcellAt I_10.out 1
            have c_I_2 : w10.cell? ⟨w3.heap.size, 2, none⟩ = some (.int .u8 v) := bcellAt I_10.out 2
            have c_I_3 : w10.cell? ⟨w3.heap.size, 3, none⟩ = some (.int .u16 f) := bcellAt I_10.out 3
            have c_I_4 : w10.cell? ⟨w3.heap.size, 4, none⟩ = some (.slice A6 (l.length + m.length) c6) := bcellAt I_10.out 4
            have l_I : w3.heap.size < w10.heap.size := blt I_10.out
            have HCD := Lib.hid (show ∀ o ∈ l ++ m, o.1 < 65536 ∧ o.2.size < 65536 from fun o ho => ⟨by rcases List.mem_append.1 ho with h | h; exact HC.out o h; exact HD.out o h, by obtain ⟨k, hk, rfl⟩ := List.getElem_of_mem ho; have e1 := opsB_mem (l ++ m) k hk; have e2 := HLen.out; omega⟩)
            go_loop [21, 22, 23] (fun a n i => ∃ j : Nat, j ≤ l.length + m.length ∧ i = .int .i64 j ∧ n = .int .i64 j ∧ a = .int .i64 (opsB ((l ++ m).take j)).length ∧ (∀ j', j = j' + 1 → (opsB ((l ++ m).take j')).length < kk)) (fun _ _ i => l.length + m.length - (intOf i).toNat)
            case atStart => exact ⟨0, by omega, rfl, rfl, rfl, by intro j' h; omega⟩
            case round =>
              obtain ⟨j, hj, rfl, rfl, rfl, hlast⟩ := hrel
              have HLast := Lib.hid hlast
              clear hlast
              by_cases hjl : j < l.length + m.length
              · have b0 : decide ((j : Int) < (l.length : Int) + (m.length : Int)) = true := by simp; omega
                by_cases hak : (opsB ((l ++ m).take j)).length < kk
                · have b1 : decide (((opsB ((l ++ m).take j)).length : Int) < (kk : Int)) = true := by simp; omega
                  obtain ⟨bb, off, rfl, p0, p1⟩ := V_10.out.at (by rw [List.length_append]) (show j < (l ++ m).length by rw [List.length_append]; exact hjl)
                  have q0 : (0 : Int) ≤ (j : Int) := by omega
                  have q1 : (j : Int) < (l.length : Int) + (m.length : Int) := by omega
                  have HSn := Lib.hid (opsB_snoc_len (l ++ m) j (by rw [List.length_append]; exact hjl))
                  have hxb : (opsB ((l ++ m).take j)).length + 4 + ((l ++ m)[j]'(by rw [List.length_append]; exact hjl)).2.size ≤ 65535 := by have e1 := HSn.out; have e2 := opsB_take_le (l ++ m) (j + 1); have e3 := HLen.out; omega
                  generalize (l ++ m)[j]'(by rw [List.length_append]; exact hjl) = xo at *
                  go_wp2_with fail
                  go_round
                  case rel => exact ⟨j + 1, by omega, by go_num, by go_num, by rw [HSn.out]; go_num, fun j' hj' => by (obtain rfl : j' = j := by omega); exact hak⟩
                  case measure => simp [intOf]; omega
                · have b1 : decide (((opsB ((l ++ m).take j)).length : Int) < (kk : Int)) = false := by simp; omega
                  go_wp2_with fail
                  clear b0 b1
                  have hge : kk ≤ (opsB ((l ++ m).take j)).length := by omega
                  have c0 : w10.cell? ⟨w.heap.size, 0, none⟩ = some (.int .u16 sz) := bcellAt X_10.out 0
                  have l0 : w.heap.size < w10.heap.size := blt X_10.out
                  have l0' := l0
                  clear c_I_0 c_I_1 c_I_2 c_I_3 c_I_4 l_I
                  have HE1 := Lib.hid (show Et w10.drew from HE.out.kept (gdrew GR10.out) (by simp))
                  have HE2 := Lib.hid (show ∀ o, Et (w10.alloc o).drew from fun o => HE.out.kept (gdrew (galloc GR10.out o)) (by simp))
                  have hst := Lib.hid (both_cut l m kk)
                  have hzz : (((⟨(opsB l).toArray⟩ : ByteArray) ++ (⟨(opsB m).toArray⟩ : ByteArray))).size = (opsB l).length + (opsB m).length := by rw [mk_append_list]; show (opsB l ++ opsB m).toArray.size = _; simp
                  have hz2 : (((⟨(opsB l).toArray⟩ : ByteArray) ++ (⟨(opsB m).toArray⟩ : ByteArray)).extract 0 kk).size ≤ 100000 := by rw [ByteArray.size_extract, hzz]; omega
                  have y0 : (0 : Int) ≤ (kk : Int) := by omega
                  have y1 : kk ≤ (((⟨(opsB l).toArray⟩ : ByteArray) ++ (⟨(opsB m).toArray⟩ : ByteArray))).size := by rw [hzz]; omega
                  have HZ2 := Lib.hid hz2
                  clear hzz hz2
                  by_cases heq : (opsB ((l ++ m).take j)).length = kk
                  · have HR := Lib.hid (show opsAt (((⟨(opsB l).toArray⟩ : ByteArray) ++ (⟨(opsB m).toArray⟩ : ByteArray)).extract 0 kk) 0 = some ((l ++ m).take j) by rw [hst.out]; exact cut_yes (l ++ m) j kk HCD.out heq)
                    clear hst
                    generalize ((⟨(opsB l).toArray⟩ : ByteArray) ++ (⟨(opsB m).toArray⟩ : ByteArray)) = U at *
                    go_region_held3 (fun w' => w'.cell? ⟨w.heap.size, 0, none⟩ = some (.int .u16 sz)) (first | with_reducible exact c0 | with_reducible exact hg11.cell (by assumption) (by simp) | with_reducible exact hg11.cell (galc c0) (by simp) | with_reducible exact cell_far (cell_far (cell_far (cell_far (cell_far (hg11.cell (galc c0) (by simp)) (Nat.ne_of_lt l0)) (Nat.ne_of_lt l0)) (Nat.ne_of_lt l0)) (Nat.ne_of_lt l0)) (Nat.ne_of_lt l0) | with_reducible exact (galloc (gtrans (gdrew (grefl w10 none)) hg11) _).cell c0 (by simp) | with_reducible exact galc c0 | go_keep)
                      ((go_at_call 12; (with_reducible refine Calls.mono (eread_l sz 0 (U.extract 0 kk) ((l ++ m).take j) 0 0 0 _ ?_ (by omega) HZ2.out HR.out rfl rfl rfl) ?_); (first | exact HE1.out | exact HE2.out _); rintro e w11 ⟨A11, c11, rfl, hv11, hg11⟩; (try (have zz11 := edns_new hg11; obtain ⟨b11, d0, d1, d2, d3, d4, e0, e1, e2, e3, e4, l11⟩ := zz11; have B11 := Lib.hid b11; clear b11))))
                    · go_wp2_with fail
                      go_ret
                      exact ⟨rfl, galloc (gtrans (gdrew GR10.out) hg11) _⟩
                    · go_wp2_with fail
                      go_ret
                      exact ⟨rfl, gset5 (gtrans (gdrew (galloc GR10.out _)) hg11) (Nat.le_of_lt l0')⟩
                  · have HR := Lib.hid (show opsAt (((⟨(opsB l).toArray⟩ : ByteArray) ++ (⟨(opsB m).toArray⟩ : ByteArray)).extract 0 kk) 0 = none by rw [hst.out]; exact cut_no (l ++ m) j kk (by rw [List.length_append]; exact hj) HCD.out (by omega) HLast.out)
                    have hdd : decide (((opsB ((l ++ m).take j)).length : Int) = (kk : Int)) = false := by simp; omega
                    clear hst
                    generalize ((⟨(opsB l).toArray⟩ : ByteArray) ++ (⟨(opsB m).toArray⟩ : ByteArray)) = U at *
                    go_region_held3 (fun w' => w'.cell? ⟨w.heap.size, 0, none⟩ = some (.int .u16 sz)) (first | with_reducible exact c0 | with_reducible exact hg11.cell (by assumption) (by simp) | with_reducible exact hg11.cell (galc c0) (by simp) | with_reducible exact cell_far (cell_far (cell_far (cell_far (cell_far (hg11.cell (galc c0) (by simp)) (Nat.ne_of_lt l0)) (Nat.ne_of_lt l0)) (Nat.ne_of_lt l0)) (Nat.ne_of_lt l0)) (Nat.ne_of_lt l0) | with_reducible exact (galloc (gtrans (gdrew (grefl w10 none)) hg11) _).cell c0 (by simp) | with_reducible exact galc c0 | go_keep)
                      ((go_at_call 12; (with_reducible refine Calls.mono (eread_none sz 0 (U.extract 0 kk) _ ?_ (by omega) HZ2.out HR.out) ?_); (first | exact HE1.out | exact HE2.out _); rintro e w11 ⟨rfl, hg11⟩; (try (have zz11 := edns_new hg11; obtain ⟨b11, d0, d1, d2, d3, d4, e0, e1, e2, e3, e4, l11⟩ := zz11; have B11 := Lib.hid b11; clear b11))))
                    · go_wp2_with fail
                      go_ret
                      exact ⟨rfl, galloc (gtrans (gdrew GR10.out) hg11) _⟩
                    · go_wp2_with fail
                      go_ret
                      exact ⟨rfl, gset5 (gtrans (gdrew (galloc GR10.out _)) hg11) (Nat.le_of_lt l0')⟩
              · have b0 : decide ((j : Int) < (l.length : Int) + (m.length : Int)) = false := by simp; omega
                go_wp2_with fail
                clear b0
                have hge : kk ≤ (opsB ((l ++ m).take j)).length := by rw [List.take_of_length_le (by rw [List.length_append]; omega)]; have := HLen.out; omega
                have c0 : w10.cell? ⟨w.heap.size, 0, none⟩ = some (.int .u16 sz) := bcellAt X_10.out 0
                have l0 : w.heap.size < w10.heap.size := blt X_10.out
                have l0' := l0
                clear c_I_0 c_I_1 c_I_2 c_I_3 c_I_4 l_I
                have HE1 := Lib.hid (show Et w10.drew from HE.out.kept (gdrew GR10.out) (by simp))
                have HE2 := Lib.hid (show ∀ o, Et (w10.alloc o).drew from fun o => HE.out.kept (gdrew (galloc GR10.out o)) (by simp))
                have hst := Lib.hid (both_cut l m kk)
                have hzz : (((⟨(opsB l).toArray⟩ : ByteArray) ++ (⟨(opsB m).toArray⟩ : ByteArray))).size = (opsB l).length + (opsB m).length := by rw [mk_append_list]; show (opsB l ++ opsB m).toArray.size = _; simp
                have hz2 : (((⟨(opsB l).toArray⟩ : ByteArray) ++ (⟨(opsB m).toArray⟩ : ByteArray)).extract 0 kk).size ≤ 100000 := by rw [ByteArray.size_extract, hzz]; omega
                have y0 : (0 : Int) ≤ (kk : Int) := by omega
                have y1 : kk ≤ (((⟨(opsB l).toArray⟩ : ByteArray) ++ (⟨(opsB m).toArray⟩ : ByteArray))).size := by rw [hzz]; omega
                have HZ2 := Lib.hid hz2
                clear hzz hz2
                by_cases heq : (opsB ((l ++ m).take j)).length = kk
                · have HR := Lib.hid (show opsAt (((⟨(opsB l).toArray⟩ : ByteArray) ++ (⟨(opsB m).toArray⟩ : ByteArray)).extract 0 kk) 0 = some ((l ++ m).take j) by rw [hst.out]; exact cut_yes (l ++ m) j kk HCD.out heq)
                  clear hst
                  generalize ((⟨(opsB l).toArray⟩ : ByteArray) ++ (⟨(opsB m).toArray⟩ : ByteArray)) = U at *
                  go_region_held3 (fun w' => w'.cell? ⟨w.heap.size, 0, none⟩ = some (.int .u16 sz)) (first | with_reducible exact c0 | with_reducible exact hg11.cell (by assumption) (by simp) | with_reducible exact hg11.cell (galc c0) (by simp) | with_reducible exact cell_far (cell_far (cell_far (cell_far (cell_far (hg11.cell (galc c0) (by simp)) (Nat.ne_of_lt l0)) (Nat.ne_of_lt l0)) (Nat.ne_of_lt l0)) (Nat.ne_of_lt l0)) (Nat.ne_of_lt l0) | with_reducible exact (galloc (gtrans (gdrew (grefl w10 none)) hg11) _).cell c0 (by simp) | with_reducible exact galc c0 | go_keep)
                    ((go_at_call 12; (with_reducible refine Calls.mono (eread_l sz 0 (U.extract 0 kk) ((l ++ m).take j) 0 0 0 _ ?_ (by omega) HZ2.out HR.out rfl rfl rfl) ?_); (first | exact HE1.out | exact HE2.out _); rintro e w11 ⟨A11, c11, rfl, hv11, hg11⟩; (try (have zz11 := edns_new hg11; obtain ⟨b11, d0, d1, d2, d3, d4, e0, e1, e2, e3, e4, l11⟩ := zz11; have B11 := Lib.hid b11; clear b11))))
                  · go_wp2_with fail
                    go_ret
                    exact ⟨rfl, galloc (gtrans (gdrew GR10.out) hg11) _⟩
                  · go_wp2_with fail
                    go_ret
                    exact ⟨rfl, gset5 (gtrans (gdrew (galloc GR10.out _)) hg11) (Nat.le_of_lt l0')⟩
                · have HR := Lib.hid (show opsAt (((⟨(opsB l).toArray⟩ : ByteArray) ++ (⟨(opsB m).toArray⟩ : ByteArray)).extract 0 kk) 0 = none by rw [hst.out]; exact cut_no (l ++ m) j kk (by rw [List.length_append]; exact hj) HCD.out (by omega) HLast.out)
                  have hdd : decide (((opsB ((l ++ m).take j)).length : Int) = (kk : Int)) = false := by simp; omega
                  clear hst
                  generalize ((⟨(opsB l).toArray⟩ : ByteArray) ++ (⟨(opsB m).toArray⟩ : ByteArray)) = U at *
                  go_region_held3 (fun w' => w'.cell? ⟨w.heap.size, 0, none⟩ = some (.int .u16 sz)) (first | with_reducible exact c0 | with_reducible exact hg11.cell (by assumption) (by simp) | with_reducible exact hg11.cell (galc c0) (by simp) | with_reducible exact cell_far (cell_far (cell_far (cell_far (cell_far (hg11.cell (galc c0) (by simp)) (Nat.ne_of_lt l0)) (Nat.ne_of_lt l0)) (Nat.ne_of_lt l0)) (Nat.ne_of_lt l0)) (Nat.ne_of_lt l0) | with_reducible exact (galloc (gtrans (gdrew (grefl w10 none)) hg11) _).cell c0 (by simp) | with_reducible exact galc c0 | go_keep)
                    ((go_at_call 12; (with_reducible refine Calls.mono (eread_none sz 0 (U.extract 0 kk) _ ?_ (by omega) HZ2.out HR.out) ?_); (first | exact HE1.out | exact HE2.out _); rintro e w11 ⟨rfl, hg11⟩; (try (have zz11 := edns_new hg11; obtain ⟨b11, d0, d1, d2, d3, d4, e0, e1, e2, e3, e4, l11⟩ := zz11; have B11 := Lib.hid b11; clear b11))))
                  · go_wp2_with fail
                    go_ret
                    exact ⟨rfl, galloc (gtrans (gdrew GR10.out) hg11) _⟩
                  · go_wp2_with fail
                    go_ret
                    exact ⟨rfl, gset5 (gtrans (gdrew (galloc GR10.out _)) hg11) (Nat.le_of_lt l0')⟩
          · have O3 := Lib.hid ho3
            have big : 65535 < (opsB l).length + (opsB m).length := by have := HLen.out; unfold okO at ho3; omega
            unfold okO at ho1 ho2
            clear ho3
            have c_X_0 : w7.cell? ⟨w.heap.size, 0, none⟩ = some (.int .u16 sz) := bcellAt X7.out 0
            have c_X_1 : w7.cell? ⟨w.heap.size, 1, none⟩ = some (.int .u8 e) := bcellAt X7.out 1
            have c_X_2 : w7.cell? ⟨w.heap.size, 2, none⟩ = some (.int .u8 v) := bcellAt X7.out 2
            have c_X_3 : w7.cell? ⟨w.heap.size, 3, none⟩ = some (.int .u16 f) := bcellAt X7.out 3
            have c_X_4 : w7.cell? ⟨w.heap.size, 4, none⟩ = some (.slice A l.length ca) := bcellAt X7.out 4
            have l_X : w.heap.size < w7.heap.size := blt X7.out
            go_wp2_with fail
            refine Calls.mono (ewrite_ok sz e v f A ca l _ h1 h2 h3 (HA.out.kept G7.out) hl HC.out O1.out) ?_
            rintro e w8 ⟨rfl, hg⟩
            have GR8 := Lib.hid (gtrans G7.out (hg))
            have X_8 := Lib.hid (gblock (hg) X7.out (by simp))
            have Y_8 := Lib.hid (gblock (hg) Y7.out (by simp))
            have I_8 := Lib.hid (gblock (hg) I7.out (by simp))
            have V_8 := Lib.hid (V7.out.kept (hg))
            clear hg G7 X7 Y7 I7 V7 c_X_0 c_X_1 c_X_2 c_X_3 c_X_4 l_X
            have c_Y_0 : w8.cell? ⟨w.heap.size + 1, 0, none⟩ = some (.int .u16 sz') := bcellAt Y_8.out 0
            have c_Y_1 : w8.cell? ⟨w.heap.size + 1, 1, none⟩ = some (.int .u8 e') := bcellAt Y_8.out 1
            have c_Y_2 : w8.cell? ⟨w.heap.size + 1, 2, none⟩ = some (.int .u8 v') := bcellAt Y_8.out 2
            have c_Y_3 : w8.cell? ⟨w.heap.size + 1, 3, none⟩ = some (.int .u16 f') := bcellAt Y_8.out 3
            have c_Y_4 : w8.cell? ⟨w.heap.size + 1, 4, none⟩ = some (.slice B m.length cb) := bcellAt Y_8.out 4
            have l_Y : w.heap.size + 1 < w8.heap.size := blt Y_8.out
            go_wp2_with fail
            refine Calls.mono (ewrite_ok sz' e' v' f' B cb m _ h4 h5 h6 (HB.out.kept GR8.out) hm HD.out O2.out) ?_
            rintro e w9 ⟨rfl, hg⟩
            have GR9 := Lib.hid (gtrans GR8.out (hg))
            have X_9 := Lib.hid (gblock (hg) X_8.out (by simp))
            have Y_9 := Lib.hid (gblock (hg) Y_8.out (by simp))
            have I_9 := Lib.hid (gblock (hg) I_8.out (by simp))
            have V_9 := Lib.hid (V_8.out.kept (hg))
            clear hg GR8 X_8 Y_8 I_8 V_8 c_Y_0 c_Y_1 c_Y_2 c_Y_3 c_Y_4 l_Y
            have c_I_0 : w9.cell? ⟨w3.heap.size, 0, none⟩ = some (.int .u16 sz) := bcellAt I_9.out 0
            have c_I_1 : w9.cell? ⟨w3.heap.size, 1, none⟩ = some (.int .u8 e) := bcellAt I_9.out 1
            have c_I_2 : w9.cell? ⟨w3.heap.size, 2, none⟩ = some (.int .u8 v) := bcellAt I_9.out 2
            have c_I_3 : w9.cell? ⟨w3.heap.size, 3, none⟩ = some (.int .u16 f) := bcellAt I_9.out 3
            have c_I_4 : w9.cell? ⟨w3.heap.size, 4, none⟩ = some (.slice A6 (l.length + m.length) c6) := bcellAt I_9.out 4
            have l_I : w3.heap.size < w9.heap.size := blt I_9.out
            go_wp2_with fail
            refine Calls.mono (ewb_no sz e v f A6 c6 l m _ h1 h2 h3 V_9.out (by omega) (fun o ho => by rcases List.mem_append.1 ho with h | h; exact HC.out o h; exact HD.out o h) O3.out) ?_
            rintro e w10 ⟨rfl, hg⟩
            have GR10 := Lib.hid (gtrans GR9.out (hg))
            have X_10 := Lib.hid (gblock (hg) X_9.out (by simp))
            have Y_10 := Lib.hid (gblock (hg) Y_9.out (by simp))
            have I_10 := Lib.hid (gblock (hg) I_9.out (by simp))
            have V_10 := Lib.hid (V_9.out.kept (hg))
            clear hg GR9 X_9 Y_9 I_9 V_9 c_I_0 c_I_1 c_I_2 c_I_3 c_I_4 l_I
            have hb1 : decide ((65535 : Int) < ((opsB l).length : Int) + ((opsB m).length : Int)) = true := by simp; omega
            go_wp2_with fail
            go_ret
            exact ⟨rfl, GR10.out⟩
        · have O2 := Lib.hid ho2
          have O3 := Lib.hid (show ¬ okO (l ++ m) by unfold okO at ho2 ⊢; have := HLen.out; omega)
          clear ho1 ho2
          have c_X_0 : w7.cell? ⟨w.heap.size, 0, none⟩ = some (.int .u16 sz) := bcellAt X7.out 0
          have c_X_1 : w7.cell? ⟨w.heap.size, 1, none⟩ = some (.int .u8 e) := bcellAt X7.out 1
          have c_X_2 : w7.cell? ⟨w.heap.size, 2, none⟩ = some (.int .u8 v) := bcellAt X7.out 2
          have c_X_3 : w7.cell? ⟨w.heap.size, 3, none⟩ = some (.int .u16 f) := bcellAt X7.out 3
          have c_X_4 : w7.cell? ⟨w.heap.size, 4, none⟩ = some (.slice A l.length ca) := bcellAt X7.out 4
          have l_X : w.heap.size < w7.heap.size := blt X7.out
          go_wp2_with fail
          refine Calls.mono (ewrite_ok sz e v f A ca l _ h1 h2 h3 (HA.out.kept G7.out) hl HC.out O1.out) ?_
          rintro e w8 ⟨rfl, hg⟩
          have GR8 := Lib.hid (gtrans G7.out (hg))
          have X_8 := Lib.hid (gblock (hg) X7.out (by simp))
          have Y_8 := Lib.hid (gblock (hg) Y7.out (by simp))
          have I_8 := Lib.hid (gblock (hg) I7.out (by simp))
          have V_8 := Lib.hid (V7.out.kept (hg))
          clear hg G7 X7 Y7 I7 V7 c_X_0 c_X_1 c_X_2 c_X_3 c_X_4 l_X
          have c_Y_0 : w8.cell? ⟨w.heap.size + 1, 0, none⟩ = some (.int .u16 sz') := bcellAt Y_8.out 0
          have c_Y_1 : w8.cell? ⟨w.heap.size + 1, 1, none⟩ = some (.int .u8 e') := bcellAt Y_8.out 1
          have c_Y_2 : w8.cell? ⟨w.heap.size + 1, 2, none⟩ = some (.int .u8 v') := bcellAt Y_8.out 2
          have c_Y_3 : w8.cell? ⟨w.heap.size + 1, 3, none⟩ = some (.int .u16 f') := bcellAt Y_8.out 3
          have c_Y_4 : w8.cell? ⟨w.heap.size + 1, 4, none⟩ = some (.slice B m.length cb) := bcellAt Y_8.out 4
          have l_Y : w.heap.size + 1 < w8.heap.size := blt Y_8.out
          go_wp2_with fail
          refine Calls.mono (ewrite_no sz' e' v' f' B cb m _ h4 h5 h6 (HB.out.kept GR8.out) hm HD.out O2.out) ?_
          rintro e w9 ⟨rfl, hg⟩
          have GR9 := Lib.hid (gtrans GR8.out (hg))
          have X_9 := Lib.hid (gblock (hg) X_8.out (by simp))
          have Y_9 := Lib.hid (gblock (hg) Y_8.out (by simp))
          have I_9 := Lib.hid (gblock (hg) I_8.out (by simp))
          have V_9 := Lib.hid (V_8.out.kept (hg))
          clear hg GR8 X_8 Y_8 I_8 V_8 c_Y_0 c_Y_1 c_Y_2 c_Y_3 c_Y_4 l_Y
          have c_I_0 : w9.cell? ⟨w3.heap.size, 0, none⟩ = some (.int .u16 sz) := bcellAt I_9.out 0
          have c_I_1 : w9.cell? ⟨w3.heap.size, 1, none⟩ = some (.int .u8 e) := bcellAt I_9.out 1
          have c_I_2 : w9.cell? ⟨w3.heap.size, 2, none⟩ = some (.int .u8 v) := bcellAt I_9.out 2
          have c_I_3 : w9.cell? ⟨w3.heap.size, 3, none⟩ = some (.int .u16 f) := bcellAt I_9.out 3
          have c_I_4 : w9.cell? ⟨w3.heap.size, 4, none⟩ = some (.slice A6 (l.length + m.length) c6) := bcellAt I_9.out 4
          have l_I : w3.heap.size < w9.heap.size := blt I_9.out
          go_wp2_with fail
          refine Calls.mono (ewb_no sz e v f A6 c6 l m _ h1 h2 h3 V_9.out (by omega) (fun o ho => by rcases List.mem_append.1 ho with h | h; exact HC.out o h; exact HD.out o h) O3.out) ?_
          rintro e w10 ⟨rfl, hg⟩
          have GR10 := Lib.hid (gtrans GR9.out (hg))
          have X_10 := Lib.hid (gblock (hg) X_9.out (by simp))
          have Y_10 := Lib.hid (gblock (hg) Y_9.out (by simp))
          have I_10 := Lib.hid (gblock (hg) I_9.out (by simp))
          have V_10 := Lib.hid (V_9.out.kept (hg))
          clear hg GR9 X_9 Y_9 I_9 V_9 c_I_0 c_I_1 c_I_2 c_I_3 c_I_4 l_I
          go_wp2_with fail
          go_ret
          exact ⟨rfl, GR10.out⟩
      · have O1 := Lib.hid ho1
        have O3 := Lib.hid (show ¬ okO (l ++ m) by unfold okO at ho1 ⊢; have := HLen.out; omega)
        clear ho1
        have c_X_0 : w7.cell? ⟨w.heap.size, 0, none⟩ = some (.int .u16 sz) := bcellAt X7.out 0
        have c_X_1 : w7.cell? ⟨w.heap.size, 1, none⟩ = some (.int .u8 e) := bcellAt X7.out 1
        have c_X_2 : w7.cell? ⟨w.heap.size, 2, none⟩ = some (.int .u8 v) := bcellAt X7.out 2
        have c_X_3 : w7.cell? ⟨w.heap.size, 3, none⟩ = some (.int .u16 f) := bcellAt X7.out 3
        have c_X_4 : w7.cell? ⟨w.heap.size, 4, none⟩ = some (.slice A l.length ca) := bcellAt X7.out 4
        have l_X : w.heap.size < w7.heap.size := blt X7.out
        go_wp2_with fail
        refine Calls.mono (ewrite_no sz e v f A ca l _ h1 h2 h3 (HA.out.kept G7.out) hl HC.out O1.out) ?_
        rintro e w8 ⟨rfl, hg⟩
        have GR8 := Lib.hid (gtrans G7.out (hg))
        have X_8 := Lib.hid (gblock (hg) X7.out (by simp))
        have Y_8 := Lib.hid (gblock (hg) Y7.out (by simp))
        have I_8 := Lib.hid (gblock (hg) I7.out (by simp))
        have V_8 := Lib.hid (V7.out.kept (hg))
        clear hg G7 X7 Y7 I7 V7 c_X_0 c_X_1 c_X_2 c_X_3 c_X_4 l_X
        have c_Y_0 : w8.cell? ⟨w.heap.size + 1, 0, none⟩ = some (.int .u16 sz') := bcellAt Y_8.out 0
        have c_Y_1 : w8.cell? ⟨w.heap.size + 1, 1, none⟩ = some (.int .u8 e') := bcellAt Y_8.out 1
        have c_Y_2 : w8.cell? ⟨w.heap.size + 1, 2, none⟩ = some (.int .u8 v') := bcellAt Y_8.out 2
        have c_Y_3 : w8.cell? ⟨w.heap.size + 1, 3, none⟩ = some (.int .u16 f') := bcellAt Y_8.out 3
        have c_Y_4 : w8.cell? ⟨w.heap.size + 1, 4, none⟩ = some (.slice B m.length cb) := bcellAt Y_8.out 4
        have l_Y : w.heap.size + 1 < w8.heap.size := blt Y_8.out
        go_wp2_with fail
        obtain ⟨y0, y1, y2, y3, hY⟩ := ewR_form' sz' e' v' f' m
        refine Calls.mono (ewrite_any sz' e' v' f' B cb m _ h4 h5 h6 (HB.out.kept GR8.out) hm HD.out) ?_
        rw [hY]
        clear hY
        rintro e_ w9 ⟨rfl, hg⟩
        have GR9 := Lib.hid (gtrans GR8.out (hg))
        have X_9 := Lib.hid (gblock (hg) X_8.out (by simp))
        have Y_9 := Lib.hid (gblock (hg) Y_8.out (by simp))
        have I_9 := Lib.hid (gblock (hg) I_8.out (by simp))
        have V_9 := Lib.hid (V_8.out.kept (hg))
        clear hg GR8 X_8 Y_8 I_8 V_8 c_Y_0 c_Y_1 c_Y_2 c_Y_3 c_Y_4 l_Y
        have c_I_0 : w9.cell? ⟨w3.heap.size, 0, none⟩ = some (.int .u16 sz) := bcellAt I_9.out 0
        have c_I_1 : w9.cell? ⟨w3.heap.size, 1, none⟩ = some (.int .u8 e) := bcellAt I_9.out 1
        have c_I_2 : w9.cell? ⟨w3.heap.size, 2, none⟩ = some (.int .u8 v) := bcellAt I_9.out 2
        have c_I_3 : w9.cell? ⟨w3.heap.size, 3, none⟩ = some (.int .u16 f) := bcellAt I_9.out 3
        have c_I_4 : w9.cell? ⟨w3.heap.size, 4, none⟩ = some (.slice A6 (l.length + m.length) c6) := bcellAt I_9.out 4
        have l_I : w3.heap.size < w9.heap.size := blt I_9.out
        go_wp2_with fail
        refine Calls.mono (ewb_no sz e v f A6 c6 l m _ h1 h2 h3 V_9.out (by omega) (fun o ho => by rcases List.mem_append.1 ho with h | h; exact HC.out o h; exact HD.out o h) O3.out) ?_
        rintro e w10 ⟨rfl, hg⟩
        have GR10 := Lib.hid (gtrans GR9.out (hg))
        have X_10 := Lib.hid (gblock (hg) X_9.out (by simp))
        have Y_10 := Lib.hid (gblock (hg) Y_9.out (by simp))
        have I_10 := Lib.hid (gblock (hg) I_9.out (by simp))
        have V_10 := Lib.hid (V_9.out.kept (hg))
        clear hg GR9 X_9 Y_9 I_9 V_9 c_I_0 c_I_1 c_I_2 c_I_3 c_I_4 l_I
        go_wp2_with fail
        go_ret
        exact ⟨rfl, GR10.out⟩
end Go.Proofs.YtcednhpelbdoiaaDoor
