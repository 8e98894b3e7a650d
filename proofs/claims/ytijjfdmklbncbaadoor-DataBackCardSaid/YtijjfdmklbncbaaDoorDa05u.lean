/-
  DataBack.
-/
import Derived.Test.YtijjfdmklbncbaaDoorDa05t
import Derived.Test.YtijjfdmklbncbaaDoorDa05s
namespace Go.Proofs.YtijjfdmklbncbaaDoor
open Go.RowKit

set_option maxRecDepth 100000 in
set_option maxHeartbeats 8000000 in
theorem back5_small (ahead : ByteArray) (v : Value) (l : List Pt) (w : World) (he : Et w) (h : Pts w v l) (hl : l.length ≤ maxLen) (hs : ∀ x ∈ l, x.data.size ≤ maxLen) (ha : ahead.size ≤ 3000) (h8 : ptSum l < 4000) : Calls Tryd.prog 5 #[.string ahead, v] w fun e w' => e = .returned (.bool true) ∧ w.grownBy w' none := by
  have HI := Lib.hid h
  have hl4 : l.length ≤ 200 := by
    have := ptSum_len l l.length (Nat.le_refl _)
    rw [List.take_length] at this
    omega
  have hb0 : decide ((3000 : Int) < (ahead.size : Int)) = false := by simp; omega
  obtain ⟨i1, i1h, i1z, i1s, i1b⟩ := info_parts Tryd.infoInt
  obtain ⟨i3, i3h, i3z, i3s, i3b⟩ := info_parts Tryd.infoPt
  have HL := Lib.hid (long5_any v l w h hl hs)
  obtain ⟨A, cap, rfl, hcap⟩ := h.shape
  have HS := Lib.hid h8
  have HE := Lib.hid he
  clear h he hs
  have hd : decide (4000 ≤ ptSum l) = false := by simp; omega
  rw [hd] at HL
  clear hd h8
  go_enter Tryd.func5, Tryd.ntmps5
  go_wp2_with fail
  refine Calls.mono HL.out ?_
  rintro e w1 ⟨rfl, rfl⟩
  clear HL
  go_wp2_with fail
  refine Calls.mono (awake05 w HE.out) ?_
  rintro e w0 ⟨rfl, hg⟩
  have G0 := Lib.hid hg
  clear hg
  have hcv := run_bytes_of_string (P := Tryd.prog) w0 9 30 5 ahead Tryd.underlying9 Tryd.underlying30 Tryd.underlying5
  have HB0 := Lib.hid (bs_string w0 ahead _ (grownCap_ge w0 ahead.size 0 5))
  have HG0 := Lib.hid (galloc (gdrew G0.out) (.cells (bytesRow ahead (grownCap w0 ahead.size 0 5)) 5 ((bytesRow ahead (grownCap w0 ahead.size 0 5)).size, (bytesRow ahead (grownCap w0 ahead.size 0 5)).size + 1)))
  generalize hcw : (w0.drew.alloc (.cells (bytesRow ahead (grownCap w0 ahead.size 0 5)) 5 ((bytesRow ahead (grownCap w0 ahead.size 0 5)).size, (bytesRow ahead (grownCap w0 ahead.size 0 5)).size + 1))) = wa at *
  generalize grownCap w0 ahead.size 0 5 = cap0 at *
  clear hcw
  go_wp2_with fail
  refine (tnew_any wa).mono ?_
  rintro e w3 ⟨tb, rfl, hlb, ht, hg⟩
  have A3 := Lib.hid (show Bd w tb none [] (.slice (some ⟨w0.heap.size, 0, none⟩) ahead.size cap0) ahead.data.toList (.slice none 0 0) 0 [] (.slice none 0 0) 0 [] (.slice none 0 0) 0 [] w3 from
    ⟨gtrans HG0.out hg, ht, (fun _ e => by cases e), Nat.le_trans HG0.out.size hlb, HB0.out.kept0 hg, World.ownsRow_nil _ _ _ _, World.ownsRow_nil _ _ _ _, World.ownsRow_nil _ _ _ _, .inl rfl⟩)
  clear hlb ht hg hcv HB0 HG0
  go_wp2_with fail
  go_loopw [5, 7, 8, 9, 10] (fun vb va vn vp vi wr => ∃ (k : Nat) (m : Option Nat) (T : Tb) (bl : List UInt8) (N : List Rt), k ≤ l.length ∧ vi = .int .i64 k ∧ bl.length ≤ 3000 + ptSum (l.take k) ∧ T.length ≤ 765 * k ∧ N.length ≤ k ∧ Bd w tb m T vb bl va N.length (bAt N) vn N.length (bN N) vp N.length (bP N) wr ∧ TOk bl T ∧ RdAll bl N ∧ (∀ x ∈ N, 0 ≤ x.n)) (fun _ _ _ _ vi _ => l.length - (intOf vi).toNat)
  case atStart => exact ⟨0, none, [], ahead.data.toList, [], by omega, rfl, by rw [nlen]; omega, by simp, by simp, A3.out, TOk.nil _, (fun x hx => by cases hx), (fun x hx => by cases hx)⟩
  case round =>
    clear A3
    obtain ⟨k, m, T, bl, N, hk, rfl, hlen, hfew, hNk, hr, hok, hrd, hnn⟩ := hrel
    have R0 := Lib.hid hr
    have HOk := Lib.hid hok
    have HRd := Lib.hid hrd
    have HNn := Lib.hid hnn
    obtain ⟨Ab, cb, rfl, _, _⟩ := hr.bs.1
    obtain ⟨Aa, ca, rfl, _, hcma⟩ := own_shape hr.oa
    obtain ⟨An, cn, rfl, _, hcmn⟩ := own_shape hr.on
    obtain ⟨Ap, cp, rfl, _, hcmp⟩ := own_shape hr.op
    unfold maxLen at hcma hcmn hcmp
    clear hr hok hrd hnn
    have hps := ptSum_mono l k
    have hlt4 := HS.out
    by_cases hlt : k < l.length
    · have q0 : decide ((k : Int) < (l.length : Int)) = true := by simp; omega
      obtain ⟨b, off, rfl, _, _, c0, c1⟩ := HI.out.at hlt
      have d0 : b < w.heap.size := cell_lt c0
      have C0 := Lib.hid c0
      have C1 := Lib.hid c1
      clear c0 c1
      have hsum := ptSum_take hlt
      have hps2 := ptSum_mono l (k + 1)
      have HSum := Lib.hid hsum
      generalize l[k].kind = kd at *
      generalize l[k].data = da at *
      have hda : da.size < 4000 := by omega
      have HS1 := Lib.hid (show ptSum (l.take (k + 1)) = ptSum (l.take k) + (20 + da.size) by rw [HSum.out]; congr 2; omega)
      clear hsum hps2 hps HSum
      have hps : ptSum (l.take k) + (20 + da.size) < 4000 := by have := ptSum_mono l (k + 1); have := HS1.out; omega
      generalize ptSum (l.take k) = sm at *
      have hT9 : T.length ≤ 900000 := by omega
      have hb9 : bl.length ≤ 10000 := by omega
      go_wp2_with fail
      have c0 : ∀ g : GrB w.heap.size wr.drew, g.w.cell? ⟨b, off + k * 2, none⟩ = some (.int .u16 (kd : Int)) := GrB.cell ((gtrans R0.out.gr (gdrew (grefl wr none))).cell C0.out (by simp)) d0
      have c1 : ∀ g : GrB w.heap.size wr.drew, g.w.cell? ⟨b, off + k * 2 + 1, none⟩ = some (.string da) := GrB.cell ((gtrans R0.out.gr (gdrew (grefl wr none))).cell C1.out (by simp)) d0
      refine wp_region_segsB w.heap.size [(true, [0, 1, 2, 3, 4, 5, 6, 7, 8, 9, 10, 11]), (false, [12]), (true, [13, 14, 15, 16, 17])] (by kernel_rfl) (by kernel_rfl) ?_
      refine wpSegsB_quiet rfl ?_
      simp only [List.filterMap_cons, List.filterMap_nil, List.getElem?_toArray, List.getElem?_cons_succ, List.getElem?_cons_zero]
      show wpQuiet _ _ _ _ [_, _, _, _, _, _, _, _, _, _, _, _] _
      repeat (go_big_quiet_step (fail))
      refine wpQuiet_nil ?_
      clear c0 c1
      have R3 := Lib.hid (R0.out.quiet (gdrew (grefl wr none)))
      clear R0
      generalize wr.drew = w3 at *
      refine wpSegsB_one (by simp only [List.getElem?_toArray, List.getElem?_cons_succ, List.getElem?_cons_zero]; exact rfl) ?_
      go_wp2_with fail
      cases hw : whF kd da with
      | none =>
        refine (twrite_no (HE.out.kept R3.out.gr (by simp)) R3.out.tab R3.out.bs.1 (by omega) hT9 (by omega) hw).mono ?_
        rintro e w4 ⟨rfl, hg⟩
        have R4 := Lib.hid (R3.out.quiet hg)
        have KBX := Lib.hid (KB.of (B := w.heap.size) hg R3.out.gr.size)
        have HMy := Lib.hid (show mayD kd da = false by unfold mayD; rw [hw]; rfl)
        clear hg R3 hw
        go_wp2_with fail
        refine ⟨KBX.out, ?_⟩
        refine wpSegsB_quiet rfl ?_
        simp only [List.filterMap_cons, List.filterMap_nil, List.getElem?_toArray, List.getElem?_cons_succ, List.getElem?_cons_zero]
        show wpQuiet _ _ _ _ [_, _, _, _, _] _
        repeat (go_big_quiet_step (fail))
        refine wpQuiet_nil ?_
        refine wpSegsB_done ?_
        clear KBX
        go_wp2_with fail
        have e0 : ∀ g : Gr w4, g.w.cell? ⟨b, off + k * 2, none⟩ = some (.int .u16 (kd : Int)) := Gr.cell (R4.out.gr.cell C0.out (by simp))
        have e1 : ∀ g : Gr w4, g.w.cell? ⟨b, off + k * 2 + 1, none⟩ = some (.string da) := Gr.cell (R4.out.gr.cell C1.out (by simp))
        have KM := Lib.hid (fun g : Gr w4 => mayd_any kd da g.w (HE.out.kept (gtrans R4.out.gr g.h) (by simp)) (by omega))
        rw [HMy.out] at KM
        refine wp_region_noPanic ?_
        refine wp_region_gr (by kernel_rfl) (by kernel_rfl) ?_
        repeat (go_big_quiet_step ((go_at_call 18; with_reducible exact Calls.gr (KM.out _))))
        refine wpQuiet_nil ?_
        rintro w5 ⟨gq, rfl⟩
        refine NoPanic.normal ?_
        have HQ := Lib.hid gq.h
        clear KM e0 e1
        generalize gq.w = w5 at *
        have R5 := Lib.hid (R4.out.quiet HQ.out)
        clear R4 HQ
        go_wp2_with fail
        go_roundw
        case rel => exact ⟨k + 1, m, T, bl, N, by omega, by go_num, by rw [HS1.out]; omega, by omega, by omega, R5.out, HOk.out, HRd.out, HNn.out⟩
        case measure => simp [intOf]; omega
      | some ps =>
        obtain ⟨_, htx, hgd⟩ := wh_good hw
        have hpl := spl_len (wh_good hw).1
        have hwl := wrF_len (cmpF kd) ps T bl (fun x hx => (hgd x hx).2)
        obtain ⟨⟨cx, k1⟩, k2, k3, k4⟩ := wr_back hw HOk.out (cmpF kd)
        obtain ⟨r, hr⟩ : ∃ r, wrF (cmpF kd) ps T bl = r := ⟨_, rfl⟩
        rw [hr] at hwl k1 k2 k3 k4
        have HK2 := Lib.hid k2
        have HK4 := Lib.hid k4
        clear htx hgd k2 k4
        refine (twrite_yes (HE.out.kept R3.out.gr (by simp)) R3.out.tab R3.out.bs.1 (by omega) hT9 (by omega) hw hr).mono ?_
        rintro e w4 ⟨v4, m4, rfl, ho4, ht4, hg4, hms4⟩
        obtain ⟨r4, kb4⟩ := R3.out.put ht4 hg4 hms4
        have R4 := Lib.hid r4
        have KBX := Lib.hid kb4
        have D4 := Lib.hid (BS.of ho4)
        have HMy := Lib.hid (show mayD kd da = true by unfold mayD; rw [hw]; rfl)
        obtain ⟨A4, c4, rfl, hc4, _⟩ := ho4.shape
        obtain ⟨P, T2⟩ := r
        simp only at *
        obtain rfl : P = bl ++ cx := k1
        have hPl : bl.length ≤ (bl ++ cx).length := by rw [List.length_append]; omega
        have hA4 : 0 < bl.length → A4 ≠ none := by
          intro hp
          obtain ⟨g, hg, _⟩ := Own.cellAt ho4 (by omega)
          rw [hg]; simp
        have HSF := Lib.hid (show SlB w4 (.slice A4 bl.length c4) bl from by
          by_cases hp : 0 < bl.length
          · exact SlB.front ho4.sl (hA4 hp)
          · have e0 : bl = [] := List.eq_nil_of_length_eq_zero (by omega)
            subst e0
            exact sl_empty ho4.sl)
        clear ho4 ht4 hg4 hms4 R3 r4 kb4 hw hr hA4
        go_wp2_with fail
        refine ⟨KBX.out, ?_⟩
        refine wpSegsB_quiet rfl ?_
        simp only [List.filterMap_cons, List.filterMap_nil, List.getElem?_toArray, List.getElem?_cons_succ, List.getElem?_cons_zero]
        show wpQuiet _ _ _ _ [_, _, _, _, _] _
        repeat (go_big_quiet_step (fail))
        refine wpQuiet_nil ?_
        refine wpSegsB_done ?_
        clear KBX
        go_wp2_with fail
        have e0 : ∀ g : Gr w4, g.w.cell? ⟨b, off + k * 2, none⟩ = some (.int .u16 (kd : Int)) := Gr.cell (R4.out.gr.cell C0.out (by simp))
        have e1 : ∀ g : Gr w4, g.w.cell? ⟨b, off + k * 2 + 1, none⟩ = some (.string da) := Gr.cell (R4.out.gr.cell C1.out (by simp))
        have KM := Lib.hid (fun g : Gr w4 => mayd_any kd da g.w (HE.out.kept (gtrans R4.out.gr g.h) (by simp)) (by omega))
        rw [HMy.out] at KM
        refine wp_region_noPanic ?_
        refine wp_region_gr (by kernel_rfl) (by kernel_rfl) ?_
        repeat (go_big_quiet_step ((go_at_call 18; with_reducible exact Calls.gr (KM.out _))))
        refine wpQuiet_nil ?_
        rintro w5 ⟨gq, rfl⟩
        refine NoPanic.normal ?_
        have HQ := Lib.hid gq.h
        clear KM e0 e1
        generalize gq.w = w5 at *
        have R5 := Lib.hid (R4.out.quiet HQ.out)
        have D5 := Lib.hid (D4.out.kept0 HQ.out)
        have SF5 := Lib.hid (HSF.out.kept0 HQ.out)
        clear R4 D4 HSF HQ
        go_wp2_with fail
        have cv1 : ∀ g : Gr w5, _ := fun g => cvs (SF5.out.kept0 g.h)
        have cv2 : ∀ g : Gr w5, _ := fun g => cvs (R5.out.bs.1.kept0 g.h)
        have e1 : ∀ g : Gr w5, g.w.cell? ⟨b, off + k * 2 + 1, none⟩ = some (.string da) := Gr.cell (R5.out.gr.cell C1.out (by simp))
        have hcx9 : (bl ++ cx).length = bl.length + cx.length := List.length_append
        have x1 : decide ((bl ++ cx).length < bl.length) = false := decide_eq_false (by omega)
        have x2 : decide ((da.size : Int) < ((bl ++ cx).length : Int) - (bl.length : Int)) = false := decide_eq_false (by omega)
        have x3 : decide (((bl.length + cx.length : Nat) : Int) < (bl.length : Int)) = false := decide_eq_false (by omega)
        have x4 : decide ((bl.length : Int) + (cx.length : Int) < (bl.length : Int)) = false := decide_eq_false (by omega)
        have x5 : decide ((((bl ++ cx).length : Nat) : Int) < (bl.length : Int)) = false := decide_eq_false (by omega)
        have x6 : decide ((da.size : Int) < ((bl.length + cx.length : Nat) : Int) - (bl.length : Int)) = false := decide_eq_false (by omega)
        have x7 : decide ((da.size : Int) < (bl.length : Int) + (cx.length : Int) - (bl.length : Int)) = false := decide_eq_false (by omega)
        generalize hO : (⟨bl.toArray⟩ : ByteArray) = O at *
        have n1 : (O.toList == O.toList) = true := by simp
        refine wp_region_noPanic ?_
        refine wp_region_gr (by kernel_rfl) (by kernel_rfl) ?_
        repeat (go_big_quiet_step (fail))
        refine wpQuiet_nil ?_
        rintro w6 ⟨gq, rfl⟩
        refine NoPanic.normal ?_
        have M6 := Lib.hid (R5.out.quiet gq.h)
        have D6 := Lib.hid (D5.out.kept0 gq.h)
        clear cv1 cv2 e1 R5 D5 SF5 HMy
        generalize gq.w = w6 at *
        go_wp2_with (at_builtin; refine wpList_append_own_at _ rfl (.tmp 98) (.tmp 101) 43 rfl (tb + 1) 3 i1 _ 1 8 Tryd.underlying43 i1h i1z i1s i1b rfl (by decide) _ N.length _ rfl (M6.out.quiet (galloc (grefl _ none) _)).oa ⟨_, 0, none⟩ 1 1 [.int .i64 (bl.length : Int)] rfl rfl (cell_one_new _ _ _) (by intro u hu; simp at hu; subst hu; rfl) (by unfold maxLen; omega) (by omega) (by have := blt M6.out.tab.cell; simp; omega) ?_)
        intro a7 w7 ho7 hg7 _ hv7
        have M7 := Lib.hid ((M6.out.quiet (galloc (grefl _ none) _)).a hg7 ho7 (by simpa using hv7))
        have D7 := Lib.hid ((D6.out.kept0 (galloc (grefl _ none) _)).keptI (M6.out.quiet (galloc (grefl _ none) _)).oa (by decide) hg7)
        obtain ⟨A7, c7, rfl, hc7, hcm7⟩ := own_shape ho7
        unfold maxLen at hcm7
        clear ho7 hg7 hv7 M6 D6
        go_wp2_with (at_builtin; refine wpList_append_own_at _ rfl (.tmp 103) (.tmp 109) 43 rfl (tb + 1) 3 i1 _ 1 8 Tryd.underlying43 i1h i1z i1s i1b rfl (by decide) _ N.length _ rfl (M7.out.quiet (galloc (grefl _ none) _)).on ⟨_, 0, none⟩ 1 1 [.int .i64 ((bl.length : Int) + (cx.length : Int) - (bl.length : Int))] rfl rfl (cell_one_new _ _ _) (by intro u hu; simp at hu; subst hu; rfl) (by unfold maxLen; omega) (by omega) (by have := blt M7.out.tab.cell; simp; omega) ?_)
        intro a8 w8 ho8 hg8 _ hv8
        rw [show (bl.length : Int) + (cx.length : Int) - (bl.length : Int) = ((bl ++ cx).length : Int) - (bl.length : Int) by omega] at ho8
        have M8 := Lib.hid ((M7.out.quiet (galloc (grefl _ none) _)).n hg8 ho8 (by simpa using hv8))
        have D8 := Lib.hid ((D7.out.kept0 (galloc (grefl _ none) _)).keptI (M7.out.quiet (galloc (grefl _ none) _)).on (by decide) hg8)
        obtain ⟨A8, c8, rfl, hc8, hcm8⟩ := own_shape ho8
        unfold maxLen at hcm8
        clear ho8 hg8 hv8 M7 D7
        have y0 : w8.cell? ⟨b, off + k * 2, none⟩ = some (.int .u16 (kd : Int)) := M8.out.gr.cell C0.out (by simp)
        have y1 : w8.cell? ⟨b, off + k * 2 + 1, none⟩ = some (.string da) := M8.out.gr.cell C1.out (by simp)
        go_wp2_with (at_builtin; refine wpList_app_k rfl (.tmp 111) (.tmp 116) 28 rfl (tb + 1) 40 i3 _ 2 24 Tryd.underlying28 i3h i3z i3s i3b rfl (by decide) _ N.length 1 (bP N) [.int .u16 (kd : Int), .string da] rfl (M8.out.quiet (galloc (grefl _ none) _)).op _ rfl (sl_two w8 _ _ _) (by intro u hu; simp at hu; rcases hu with rfl | rfl <;> rfl) ?z2 ?z3 ?z4 ?_)
        case z2 => unfold maxLen; omega
        case z3 => omega
        case z4 => have := blt M8.out.tab.cell; simp; omega
        intro a9 w9 ho9 hg9
        have M9 := Lib.hid (((M8.out.quiet (galloc (grefl _ none) _)).p hg9 ho9).bytes ((D8.out.kept0 (galloc (grefl _ none) _)).keptI (M8.out.quiet (galloc (grefl _ none) _)).op (by decide) hg9))
        obtain ⟨A9, c9, rfl, hc9, _⟩ := own_shape ho9
        clear ho9 hg9 M8 D8 y0 y1
        have hcxl : (bl ++ cx).length = bl.length + cx.length := List.length_append
        have HN := Lib.hid (show RdAll (bl ++ cx) (N ++ [⟨kd, da, bl.length, ((bl ++ cx).length : Int) - (bl.length : Int)⟩]) from (HRd.out.more cx).snoc (fun B => HK4.out B))
        have HNN := Lib.hid (show ∀ x ∈ N ++ [(⟨kd, da, bl.length, ((bl ++ cx).length : Int) - (bl.length : Int)⟩ : Rt)], 0 ≤ x.n from fun x hx => by
          rcases List.mem_append.1 hx with hx | hx
          · exact HNn.out x hx
          · rw [List.mem_singleton.1 hx]; show 0 ≤ ((bl ++ cx).length : Int) - (bl.length : Int); omega)
        go_wp2_with fail
        go_roundw
        case rel => exact ⟨k + 1, m4, T2, bl ++ cx, N ++ [⟨kd, da, bl.length, ((bl ++ cx).length : Int) - (bl.length : Int)⟩], by omega, by go_num, by rw [HS1.out]; omega, by omega, by simp; omega, by simpa [bAt, bN, bP] using M9.out, HK2.out, HN.out, HNN.out⟩
        case measure => simp [intOf]; omega
    · have q0 : decide ((k : Int) < (l.length : Int)) = false := by simp; omega
      have hb9 : bl.length ≤ 10000 := by omega
      go_wp2_with fail
      go_loopw [13] (fun vi wr2 => ∃ j : Nat, j ≤ N.length ∧ vi = .int .i64 j ∧ wr.grownBy wr2 none) (fun vi _ => N.length - (intOf vi).toNat)
      case atStart => exact ⟨0, by omega, rfl, grefl _ _⟩
      case round =>
        obtain ⟨j, hj, rfl, hgr⟩ := hrel
        have F := Lib.hid (R0.out.quiet hgr)
        have HG := Lib.hid hgr
        clear hgr
        by_cases hjl : j < N.length
        · have r0 : decide ((j : Int) < (N.length : Int)) = true := by simp; omega
          obtain ⟨x, hx⟩ : ∃ x, N[j]? = some x := ⟨_, List.getElem?_eq_getElem hjl⟩
          have hrd := HRd.out x (List.mem_of_getElem? hx) []
          rw [List.append_nil] at hrd
          obtain ⟨ga, rfl, ya⟩ := row_cell F.out.oa (j := j) (u := .int .i64 (x.at_ : Int)) (by simp [bAt, hx])
          obtain ⟨gn, rfl, yn⟩ := row_cell F.out.on (j := j) (u := .int .i64 x.n) (by simp [bN, hx])
          obtain ⟨gp, rfl, yk, yd⟩ := rowp_cell F.out.op hx
          have YD := Lib.hid yd
          have LT := Lib.hid (show ((x.at_ : Int)) ≤ 9223372036854775807 from by
            unfold rdD at hrd
            split at hrd
            · exact absurd (congrArg Prod.snd hrd) (by simp)
            · rename_i hc; rw [size_mk] at hc; omega)
          have K := Lib.hid (fun g : Gr wr => rdata_is ⟨bl.toArray⟩ (x.at_ : Int) x.n x.kind g.w (HE.out.kept (gtrans F.out.gr g.h) (by simp)) (by rw [size_mk]; omega) LT _ _ hrd)
          have ya2 : ∀ g : Gr wr, g.w.cell? ⟨ga, j, none⟩ = some (.int .i64 (x.at_ : Int)) := Gr.cell ya
          have yn2 : ∀ g : Gr wr, g.w.cell? ⟨gn, j, none⟩ = some (.int .i64 x.n) := Gr.cell yn
          have yk2 : ∀ g : Gr wr, g.w.cell? ⟨gp, j * 2, none⟩ = some (.int .u16 (x.kind : Int)) := Gr.cell yk
          have v1 : ∀ g : Gr wr, _ := fun g => cvs (F.out.bs.1.kept0 g.h)
          generalize (⟨bl.toArray⟩ : ByteArray) = S at *
          clear ya yn yk yd hrd hx
          go_wp2_with fail
          refine wp_region_noPanic ?_
          refine wp_region_gr (by kernel_rfl) (by kernel_rfl) ?_
          repeat (go_big_quiet_step ((go_at_call 12; with_reducible exact Calls.gr (K.out _))))
          refine wpQuiet_nil ?_
          rintro w9 ⟨gq, rfl⟩
          refine NoPanic.normal ?_
          have yd : gq.w.cell? ⟨gp, j * 2 + 1, none⟩ = some (.string x.data) := gq.h.cell YD.out (by simp)
          have n1 : (x.data.toList == x.data.toList) = true := by simp
          have HQ := Lib.hid gq.h
          clear K v1 ya2 yn2 yk2 YD
          generalize gq.w = w9 at *
          go_wp2_with fail
          go_roundw
          case rel => exact ⟨j + 1, by omega, by go_num, gtrans HG.out HQ.out⟩
          case measure => simp [intOf]; omega
        · have r0 : decide ((j : Int) < (N.length : Int)) = false := by simp; omega
          go_wp2_with fail
          go_ret
          exact ⟨rfl, F.out.gr⟩
set_option maxRecDepth 100000 in
set_option maxHeartbeats 1000000 in
theorem back5_walk (ahead : ByteArray) (v : Value) (l : List Pt) (w : World) (he : Et w) (h : Pts w v l) (hl : l.length ≤ maxLen) (hs : ∀ x ∈ l, x.data.size ≤ maxLen) : Calls Tryd.prog 5 #[.string ahead, v] w fun e w' => e = .returned (.bool true) ∧ w.grownBy w' none := by
  by_cases ha : 3000 < ahead.size
  · have hb0 : decide ((3000 : Int) < (ahead.size : Int)) = true := by simp; omega
    go_enter Tryd.func5, Tryd.ntmps5
    go_wp2_with fail
    refine Calls.mono (awake05 w he) ?_
    rintro e w1 ⟨rfl, hg⟩
    go_wp2_with fail
    go_ret
    exact ⟨rfl, hg⟩
  by_cases h8 : ptSum l < 4000
  · exact back5_small ahead v l w he h hl hs (by omega) h8
  · have hb0 : decide ((3000 : Int) < (ahead.size : Int)) = false := by simp; omega
    have HL := Lib.hid (long5_any v l w h hl hs)
    have hd : decide (4000 ≤ ptSum l) = true := by simp; omega
    rw [hd] at HL
    clear hd h8
    go_enter Tryd.func5, Tryd.ntmps5
    go_wp2_with fail
    refine Calls.mono HL.out ?_
    rintro e w1 ⟨rfl, rfl⟩
    go_wp2_with fail
    refine Calls.mono (awake05 w he) ?_
    rintro e w1 ⟨rfl, hg⟩
    go_wp2_with fail
    go_ret
    exact ⟨rfl, hg⟩
end Go.Proofs.YtijjfdmklbncbaaDoor
