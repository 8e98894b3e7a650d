/-
  EdnsWrites.
-/
import Derived.Test.YtcednhpelbdoiaaDoorEd06g
import Derived.Test.YtcednhpelbdoiaaDoorEd06h
import Derived.Test.YtcednhpelbdoiaaDoorEd06l
namespace Go.Proofs.YtcednhpelbdoiaaDoor
open Go.RowKit

theorem ewR_form (sz e v f : Nat) (l : List Opt) : ∃ (a b : Int) (s : ByteArray) (c : Int), ewR sz e v f l = .tuple #[.int .u16 a, .int .u32 b, .string s, .int .i64 c] := by
  unfold ewR
  by_cases h : okO l
  · rw [if_pos h]; exact ⟨_, _, _, _, rfl⟩
  · rw [if_neg h]; exact ⟨_, _, _, _, rfl⟩
theorem split_u (n : Int) : ∃ a b c : Int, (∀ w, Calls Tryd.prog 14 #[.int .i64 n] w fun e w' => e = .returned (.tuple #[.int .u8 a, .int .u8 b, .int .i64 c]) ∧ w = w') ∧ (∀ w, Calls Tryd.prog 19 #[.int .i64 n] w fun e w' => e = .returned (.tuple #[.int .u8 a, .int .u8 b, .int .i64 c]) ∧ w = w') := by
  by_cases h : n < 0 ∨ 4095 < n
  · exact ⟨_, _, _, fun w => split_no n h w, fun w => rsplit_no n h w⟩
  · obtain ⟨k, rfl⟩ := Int.eq_ofNat_of_zero_le (show 0 ≤ n by omega)
    exact ⟨_, _, _, fun w => split_ok k (by omega) w, fun w => rsplit_ok k (by omega) w⟩
theorem gr_same {P : Program} {w : World} {f : FuncId} {args : Array Value} {g : Gr w} {v : Value} (h : Calls P f args g.w fun e w' => e = .returned v ∧ g.w = w') : Calls P f args g.w fun e w'' => e = .returned v ∧ ∃ m : Gr w, w'' = m.w :=
  h.mono fun _ _ ⟨he, hw⟩ => ⟨he, g, hw.symm⟩

set_option maxHeartbeats 4000000 in
set_option maxRecDepth 100000 in
theorem writes6_walk (sz e v f : Nat) (A : Option Addr) (ca : Nat) (l : List Opt) (sz' e' v' f' : Nat) (B : Option Addr) (cb : Nat) (m : List Opt) (cd ex : Nat) (n : Int) (w : World) (het : Et w)
    (h1 : e < 256) (h2 : v < 256) (h3 : f < 65536) (ha : Ops w (.slice A l.length ca) l) (hl : l.length ≤ maxLen) (hc : ∀ o ∈ l, o.1 < 65536) (hb : Ops w (.slice B m.length cb) m) (hm : m.length ≤ maxLen) (hcd : cd < 256) (hex : ex < 256) :
    Calls Tryd.prog 8 #[.agg #[.int .u16 sz, .int .u8 e, .int .u8 v, .int .u16 f, .slice A l.length ca], .agg #[.int .u16 sz', .int .u8 e', .int .u8 v', .int .u16 f', .slice B m.length cb], .int .u8 cd, .int .u8 ex, .int .i64 n] w fun e w' => e = .returned (.bool true) ∧ w.grownBy w' none := by
  have HE := Lib.hid het
  have HA := Lib.hid ha
  have HB := Lib.hid hb
  have HC := Lib.hid hc
  obtain ⟨i0, hi, hz0, hz1, hz2⟩ := info_parts Tryd.infoOpt
  obtain ⟨s0, s1, s2, k3, k4⟩ := split_u n
  obtain ⟨r0, r1, r2, r3, hR⟩ := ewR_form sz e v f l
  have K3 := Lib.hid k3
  have K4 := Lib.hid k4
  have HR := Lib.hid hR
  clear het ha hb hc k3 k4 hR
  go_enter Tryd.func8, Tryd.ntmps8
  have GR0 := Lib.hid (grefl w none)
  go_wp2_with fail
  refine Calls.mono (long_any _ _ _ _ A ca l _ (HA.out.kept (galloc (galloc (GR0.out) _) _)) hl) ?_
  rintro e w1 ⟨q1, rfl, hq1, hg⟩
  have GR1 := Lib.hid (gtrans GR0.out (gfr1 (gfr1 (hg))))
  have X_1 := Lib.hid (gblock hg (balloc2_0 w (.cells #[.int .u16 sz, .int .u8 e, .int .u8 v, .int .u16 f, .slice A l.length ca] 27) (.cells #[.int .u16 sz', .int .u8 e', .int .u8 v', .int .u16 f', .slice B m.length cb] 27)) (by simp))
  have Y_1 := Lib.hid (gblock hg (balloc2_1 w (.cells #[.int .u16 sz, .int .u8 e, .int .u8 v, .int .u16 f, .slice A l.length ca] 27) (.cells #[.int .u16 sz', .int .u8 e', .int .u8 v', .int .u16 f', .slice B m.length cb] 27)) (by simp))
  clear hg GR0
  have Q1 := Lib.hid hq1
  clear hq1
  cases q1 with
  | true =>
    clear X_1
    clear Y_1
    go_wp2_with fail
    refine Calls.mono (awake06 _ (HE.out.kept (GR1.out) (by simp))) ?_
    rintro e w2 ⟨rfl, hg⟩
    have GR2 := Lib.hid (gtrans GR1.out (hg))
    clear hg GR1
    go_wp2_with fail
    go_ret
    exact ⟨rfl, GR2.out⟩
  | false =>
    have L1 := Lib.hid (Q1.out rfl)
    clear Q1
    have c_Y_0 : w1.cell? ⟨w.heap.size + 1, 0, none⟩ = some (.int .u16 sz') := bcellAt Y_1.out 0
    have c_Y_1 : w1.cell? ⟨w.heap.size + 1, 1, none⟩ = some (.int .u8 e') := bcellAt Y_1.out 1
    have c_Y_2 : w1.cell? ⟨w.heap.size + 1, 2, none⟩ = some (.int .u8 v') := bcellAt Y_1.out 2
    have c_Y_3 : w1.cell? ⟨w.heap.size + 1, 3, none⟩ = some (.int .u16 f') := bcellAt Y_1.out 3
    have c_Y_4 : w1.cell? ⟨w.heap.size + 1, 4, none⟩ = some (.slice B m.length cb) := bcellAt Y_1.out 4
    have l_Y : w.heap.size + 1 < w1.heap.size := blt Y_1.out
    go_wp2_with fail
    refine Calls.mono (long_any _ _ _ _ B cb m _ (HB.out.kept (GR1.out)) hm) ?_
    rintro e w2 ⟨q2, rfl, hq2, hg⟩
    have GR2 := Lib.hid (gtrans GR1.out (hg))
    have X_2 := Lib.hid (gblock (hg) X_1.out (by simp))
    have Y_2 := Lib.hid (gblock (hg) Y_1.out (by simp))
    clear hg GR1 X_1 Y_1 c_Y_0 c_Y_1 c_Y_2 c_Y_3 c_Y_4 l_Y
    have Q2 := Lib.hid hq2
    clear hq2
    cases q2 with
    | true =>
      clear X_2
      clear Y_2
      go_wp2_with fail
      refine Calls.mono (awake06 _ (HE.out.kept (GR2.out) (by simp))) ?_
      rintro e w3 ⟨rfl, hg⟩
      have GR3 := Lib.hid (gtrans GR2.out (hg))
      clear hg GR2
      go_wp2_with fail
      go_ret
      exact ⟨rfl, GR3.out⟩
    | false =>
      have L2 := Lib.hid (Q2.out rfl)
      clear Q2
      have l1 := L1.out.1
      have l2 := L2.out.1
      have c_X_0 : w2.cell? ⟨w.heap.size, 0, none⟩ = some (.int .u16 sz) := bcellAt X_2.out 0
      have c_X_1 : w2.cell? ⟨w.heap.size, 1, none⟩ = some (.int .u8 e) := bcellAt X_2.out 1
      have c_X_2 : w2.cell? ⟨w.heap.size, 2, none⟩ = some (.int .u8 v) := bcellAt X_2.out 2
      have c_X_3 : w2.cell? ⟨w.heap.size, 3, none⟩ = some (.int .u16 f) := bcellAt X_2.out 3
      have c_X_4 : w2.cell? ⟨w.heap.size, 4, none⟩ = some (.slice A l.length ca) := bcellAt X_2.out 4
      have l_X : w.heap.size < w2.heap.size := blt X_2.out
      go_wp2_with (at_builtin; refine wpList_app_k rfl (.tmp 34) (.tmp 36) 25 rfl (w2.heap.size + 1) 33 i0 _ 2 24 Tryd.underlying25 hi hz0 hz1 hz2 rfl (by omega) (.slice (some ⟨w2.heap.size + 1, 0, none⟩) 0 0) 0 l.length [] (ov l) rfl (own_none1 w2 _ _ 2) (.slice A l.length ca) rfl (HA.out.kept (galloc (galloc (GR2.out) _) _)) (ov_one l) (by unfold maxLen; omega) (by omega) (by simp only [asz]; omega) ?_)
      intro vi w3 ho hgi
      have hg2 : w2.grownBy w3 none := gnew (gfr1 (gfr1 hgi)) (fun b e => by simp [Value.ownBlock] at e; omega)
      have lY : w.heap.size + 1 < w2.heap.size := blt Y_2.out
      obtain ⟨Ai, ci, rfl, _, _⟩ := own_shape ho
      have GI := Lib.hid (gtrans GR2.out hg2)
      have X3 := Lib.hid (gblock hg2 X_2.out (by simp))
      have Y3 := Lib.hid (gblock hg2 Y_2.out (by simp))
      have I3 := Lib.hid (gblock hgi (balloc2_0 w2 (.cells #[.int .u16 sz, .int .u8 e, .int .u8 v, .int .u16 f, .slice A l.length ca] 27) _) (by simp [Value.ownBlock]))
      have V3 := Lib.hid (show Ops w3 (.slice Ai l.length ci) l from (FS.of ho).sl)
      have i4 : w3.cell? ⟨w2.heap.size, 4, none⟩ = some (.slice A l.length ca) := bcellAt I3.out 4
      have j4 : w3.frozen? ⟨w2.heap.size, 4, none⟩ = false := bfree I3.out 4
      have i0_ : w3.cell? ⟨w2.heap.size, 0, none⟩ = some (.int .u16 sz) := bcellAt I3.out 0
      have i1_ : w3.cell? ⟨w2.heap.size, 1, none⟩ = some (.int .u8 e) := bcellAt I3.out 1
      have i2_ : w3.cell? ⟨w2.heap.size, 2, none⟩ = some (.int .u8 v) := bcellAt I3.out 2
      have i3_ : w3.cell? ⟨w2.heap.size, 3, none⟩ = some (.int .u16 f) := bcellAt I3.out 3
      have kI := ho.lt
      clear ho hgi hg2 c_X_0 c_X_1 c_X_2 c_X_3 c_X_4 l_X
      go_wp2_with fail
      have hs : w3.grownBy (w3.setCell ⟨w2.heap.size, 4, none⟩ (.slice Ai l.length ci)) (some w2.heap.size) := gset (grefl _ _) (.inl rfl) _
      have G4 := Lib.hid (gstepo GI.out hs (by have := GR2.out.size; omega))
      have X4 := Lib.hid (gblock hs X3.out (by simp; omega))
      have Y4 := Lib.hid (gblock hs Y3.out (by simp; omega))
      have I4 := Lib.hid (show (w3.setCell ⟨w2.heap.size, 4, none⟩ (.slice Ai l.length ci)).heap[w2.heap.size]? = some (.cells #[.int .u16 sz, .int .u8 e, .int .u8 v, .int .u16 f, .slice Ai l.length ci] 27 (0, 0)) from bset I3.out 4 _)
      have V4 := Lib.hid (show Ops (w3.setCell ⟨w2.heap.size, 4, none⟩ (.slice Ai l.length ci)) (.slice Ai l.length ci) l from Sl.kept V3.out hs (fun b e => .inr (fun e2 => by cases e; have := (kI _ ((ownB _ _ _ _ _).trans e2)).1; omega)))
      generalize w3.setCell ⟨w2.heap.size, 4, none⟩ (.slice Ai l.length ci) = w4 at *
      clear hs i4 j4 i0_ i1_ i2_ i3_ GI X3 Y3 I3 V3 kI GR2 X_2 Y_2 lY
      refine Calls.mono (ewrite_any sz e v f Ai ci l _ h1 h2 h3 V4.out hl HC.out) ?_
      rw [HR.out]
      rintro e_ w5 ⟨rfl, hg⟩
      have GR5 := Lib.hid (gtrans G4.out (hg))
      have X_5 := Lib.hid (gblock (hg) X4.out (by simp))
      have Y_5 := Lib.hid (gblock (hg) Y4.out (by simp))
      have I_5 := Lib.hid (gblock (hg) I4.out (by simp))
      have V_5 := Lib.hid (V4.out.kept (hg))
      clear hg G4 X4 Y4 I4 V4
      have c_X_0 : w5.cell? ⟨w.heap.size, 0, none⟩ = some (.int .u16 sz) := bcellAt X_5.out 0
      have c_X_1 : w5.cell? ⟨w.heap.size, 1, none⟩ = some (.int .u8 e) := bcellAt X_5.out 1
      have c_X_2 : w5.cell? ⟨w.heap.size, 2, none⟩ = some (.int .u8 v) := bcellAt X_5.out 2
      have c_X_3 : w5.cell? ⟨w.heap.size, 3, none⟩ = some (.int .u16 f) := bcellAt X_5.out 3
      have c_X_4 : w5.cell? ⟨w.heap.size, 4, none⟩ = some (.slice A l.length ca) := bcellAt X_5.out 4
      have l_X : w.heap.size < w5.heap.size := blt X_5.out
      go_wp2_with fail
      refine Calls.mono (rwrite6_any sz e v f A ca l _ h1 h2 h3 (HA.out.kept GR5.out) hl HC.out) ?_
      rw [HR.out]
      rintro e_ w6 ⟨rfl, hg⟩
      have GR6 := Lib.hid (gtrans GR5.out (hg))
      have X_6 := Lib.hid (gblock (hg) X_5.out (by simp))
      have Y_6 := Lib.hid (gblock (hg) Y_5.out (by simp))
      have I_6 := Lib.hid (gblock (hg) I_5.out (by simp))
      have V_6 := Lib.hid (V_5.out.kept (hg))
      clear hg GR5 X_5 Y_5 I_5 V_5 c_X_0 c_X_1 c_X_2 c_X_3 c_X_4 l_X
      go_wp2_with fail
      refine Calls.mono (K3.out _) ?_
      rintro e wq ⟨rfl, hq⟩
      subst hq
      go_wp2_with fail
      refine Calls.mono (K4.out _) ?_
      rintro e wq ⟨rfl, hq⟩
      subst hq
      go_wp2_with fail
      obtain ⟨qq, hqq⟩ : ∃ q, edB sz e v f l sz' e' v' f' m = q := ⟨_, rfl⟩
      have et : edB sz e v f l sz e v f l = true := by simp [edB]
      have S1 : Hid (∀ g : Gr w6, Calls Tryd.prog 20 #[.agg #[.int .u16 sz, .int .u8 e, .int .u8 v, .int .u16 f, .slice Ai l.length ci], .agg #[.int .u16 sz', .int .u8 e', .int .u8 v', .int .u16 f', .slice B m.length cb]] g.w fun e w' => e = .returned (.bool qq) ∧ g.w.grownBy w' none) := Lib.hid (fun g => by have h := esame_any sz e v f sz' e' v' f' _ _ l m g.w (V_6.out.kept g.h) (HB.out.kept (gtrans GR6.out g.h)) (by omega); rw [hqq] at h; exact h)
      have S2 : Hid (∀ g : Gr w6, Calls Tryd.prog 13 #[.agg #[.int .u16 sz, .int .u8 e, .int .u8 v, .int .u16 f, .slice A l.length ca], .agg #[.int .u16 sz', .int .u8 e', .int .u8 v', .int .u16 f', .slice B m.length cb]] g.w fun e w' => e = .returned (.bool qq) ∧ g.w.grownBy w' none) := Lib.hid (fun g => by have h := rsame_any sz e v f sz' e' v' f' _ _ l m g.w (HA.out.kept (gtrans GR6.out g.h)) (HB.out.kept (gtrans GR6.out g.h)) (by omega); rw [hqq] at h; exact h)
      have S3 : Hid (∀ g : Gr w6, Calls Tryd.prog 20 #[.agg #[.int .u16 sz, .int .u8 e, .int .u8 v, .int .u16 f, .slice Ai l.length ci], .agg #[.int .u16 sz, .int .u8 e, .int .u8 v, .int .u16 f, .slice A l.length ca]] g.w fun e w' => e = .returned (.bool true) ∧ g.w.grownBy w' none) := Lib.hid (fun g => by have h := esame_any sz e v f sz e v f _ _ l l g.w (V_6.out.kept g.h) (HA.out.kept (gtrans GR6.out g.h)) (by omega); rw [et] at h; exact h)
      have S4 : Hid (∀ g : Gr w6, Calls Tryd.prog 13 #[.agg #[.int .u16 sz, .int .u8 e, .int .u8 v, .int .u16 f, .slice Ai l.length ci], .agg #[.int .u16 sz, .int .u8 e, .int .u8 v, .int .u16 f, .slice A l.length ca]] g.w fun e w' => e = .returned (.bool true) ∧ g.w.grownBy w' none) := Lib.hid (fun g => by have h := rsame_any sz e v f sz e v f _ _ l l g.w (V_6.out.kept g.h) (HA.out.kept (gtrans GR6.out g.h)) (by omega); rw [et] at h; exact h)
      clear et hqq
      have c_X_0 : ∀ g : Gr w6, g.w.cell? ⟨w.heap.size, 0, none⟩ = some (.int .u16 sz) := Gr.cell (bcellAt X_6.out 0)
      have c_X_1 : ∀ g : Gr w6, g.w.cell? ⟨w.heap.size, 1, none⟩ = some (.int .u8 e) := Gr.cell (bcellAt X_6.out 1)
      have c_X_2 : ∀ g : Gr w6, g.w.cell? ⟨w.heap.size, 2, none⟩ = some (.int .u8 v) := Gr.cell (bcellAt X_6.out 2)
      have c_X_3 : ∀ g : Gr w6, g.w.cell? ⟨w.heap.size, 3, none⟩ = some (.int .u16 f) := Gr.cell (bcellAt X_6.out 3)
      have c_X_4 : ∀ g : Gr w6, g.w.cell? ⟨w.heap.size, 4, none⟩ = some (.slice A l.length ca) := Gr.cell (bcellAt X_6.out 4)
      have c_Y_0 : ∀ g : Gr w6, g.w.cell? ⟨w.heap.size + 1, 0, none⟩ = some (.int .u16 sz') := Gr.cell (bcellAt Y_6.out 0)
      have c_Y_1 : ∀ g : Gr w6, g.w.cell? ⟨w.heap.size + 1, 1, none⟩ = some (.int .u8 e') := Gr.cell (bcellAt Y_6.out 1)
      have c_Y_2 : ∀ g : Gr w6, g.w.cell? ⟨w.heap.size + 1, 2, none⟩ = some (.int .u8 v') := Gr.cell (bcellAt Y_6.out 2)
      have c_Y_3 : ∀ g : Gr w6, g.w.cell? ⟨w.heap.size + 1, 3, none⟩ = some (.int .u16 f') := Gr.cell (bcellAt Y_6.out 3)
      have c_Y_4 : ∀ g : Gr w6, g.w.cell? ⟨w.heap.size + 1, 4, none⟩ = some (.slice B m.length cb) := Gr.cell (bcellAt Y_6.out 4)
      have c_I_0 : ∀ g : Gr w6, g.w.cell? ⟨w2.heap.size, 0, none⟩ = some (.int .u16 sz) := Gr.cell (bcellAt I_6.out 0)
      have c_I_1 : ∀ g : Gr w6, g.w.cell? ⟨w2.heap.size, 1, none⟩ = some (.int .u8 e) := Gr.cell (bcellAt I_6.out 1)
      have c_I_2 : ∀ g : Gr w6, g.w.cell? ⟨w2.heap.size, 2, none⟩ = some (.int .u8 v) := Gr.cell (bcellAt I_6.out 2)
      have c_I_3 : ∀ g : Gr w6, g.w.cell? ⟨w2.heap.size, 3, none⟩ = some (.int .u16 f) := Gr.cell (bcellAt I_6.out 3)
      have c_I_4 : ∀ g : Gr w6, g.w.cell? ⟨w2.heap.size, 4, none⟩ = some (.slice Ai l.length ci) := Gr.cell (bcellAt I_6.out 4)
      refine wp_region_noPanic ?_
      refine wp_region_gr (by kernel_rfl) (by kernel_rfl) ?_
      simp only [List.append_eq, List.cons_append, List.nil_append]
      repeat (go_big_quiet_step (first | (go_at_call 20; with_reducible exact Calls.gr (S1.out _)) | (go_at_call 20; with_reducible exact Calls.gr (S3.out _)) | (go_at_call 13; with_reducible exact Calls.gr (S2.out _)) | (go_at_call 13; with_reducible exact Calls.gr (S4.out _)) | (go_at_call 15; exact gr_same (code_any cd ex hcd hex _)) | (go_at_call 21; exact gr_same (rcode_any cd ex hcd hex _)) | (go_at_call 10; exact Calls.gr (awake06 _ (HE.out.kept (gtrans GR6.out (Gr.h _)) (by simp))))))
      refine wpQuiet_nil ?_
      rintro _ ⟨gq, rfl⟩
      refine NoPanic.normal ?_
      have hg := gq.h
      have GR7 := Lib.hid (gtrans GR6.out (hg))
      have X_7 := Lib.hid (gblock (hg) X_6.out (by simp))
      have Y_7 := Lib.hid (gblock (hg) Y_6.out (by simp))
      have I_7 := Lib.hid (gblock (hg) I_6.out (by simp))
      have V_7 := Lib.hid (V_6.out.kept (hg))
      clear hg GR6 X_6 Y_6 I_6 V_6 c_X_0 c_X_1 c_X_2 c_X_3 c_X_4 c_Y_0 c_Y_1 c_Y_2 c_Y_3 c_Y_4 c_I_0 c_I_1 c_I_2 c_I_3 c_I_4
      generalize gq.w = w7 at *
      clear gq
      go_wp2_with fail
      go_ret
      exact ⟨rfl, GR7.out⟩
end Go.Proofs.YtcednhpelbdoiaaDoor
