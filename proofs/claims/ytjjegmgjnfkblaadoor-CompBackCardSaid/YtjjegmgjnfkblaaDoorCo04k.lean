/-
  CompBack.
-/
import Derived.Test.YtjjegmgjnfkblaaDoorCo04j
namespace Go.Proofs.YtjjegmgjnfkblaaDoor
open Go.RowKit

set_option maxRecDepth 100000 in
set_option maxHeartbeats 2000000 in
theorem back_small (v : Value) (l : List It) (w : World) (he : Et w) (h : Its w v l) (hl : l.length ≤ maxLen) (hs : ∀ x ∈ l, x.gap < 65536 ∧ x.name.size ≤ maxLen) (h8 : itSum l < 8000) : Calls Tryd.prog 4 #[v] w fun e w' => e = .returned (.bool true) ∧ w.grownBy w' none := by
  have HI := Lib.hid h
  have HE := Lib.hid he
  have hl4 : l.length ≤ 400 := by
    have := itSum_len l l.length (Nat.le_refl _)
    rw [List.take_length] at this
    omega
  obtain ⟨i0, hi, hz0, hz1, hz2⟩ := info_parts Tryd.infoByte
  obtain ⟨i1, i1h, i1z, i1s, i1b⟩ := info_parts Tryd.infoInt
  obtain ⟨i2, i2h, i2z, i2s, i2b⟩ := info_parts Tryd.infoStr
  have HL := Lib.hid (long_any v l w h hl (fun x hx => (hs x hx).2))
  obtain ⟨A, cap, rfl, hcap⟩ := h.shape
  have HS := Lib.hid hs
  clear h he hs
  have hd : decide (8000 ≤ itSum l) = false := by simp; omega
  rw [hd] at HL
  clear hd h8
  go_enter Tryd.func4, Tryd.ntmps4
  go_wp2_with fail
  refine Calls.mono HL.out ?_
  rintro e w1 ⟨rfl, rfl⟩
  clear HL
  go_wp2_with fail
  refine Calls.mono (awake04 w HE.out) ?_
  rintro e w2 ⟨rfl, hg⟩
  have G2 := Lib.hid hg
  clear hg
  go_wp2_with fail
  refine (tnew_any w2).mono ?_
  rintro e w3 ⟨tb, rfl, hlb, ht, hg⟩
  have A3 := Lib.hid (show Bk w tb none [] (.slice none 0 0) [] (.slice none 0 0) (.slice none 0 0) (.slice none 0 0) [] w3 from
    ⟨gtrans G2.out hg, ht, fun _ e => (by cases e), Nat.le_trans G2.out.size hlb, Own.nil _ _, TOk.nil _, World.ownsRow_nil _ _ _ _, World.ownsRow_nil _ _ _ _, World.ownsRow_nil _ _ _ _, .inl rfl, fun x hx => by cases hx⟩)
  clear hlb ht hg G2
  go_wp2_with fail
  have hind := @World.ownsRow_nil
  clear hind
  go_loopw [4, 5, 6, 7, 8] (fun vb va ve vn vi wr => ∃ (k : Nat) (m : Option Nat) (T : Tb) (bl : List UInt8) (N : List Nm), k ≤ l.length ∧ vi = .int .i64 k ∧ bl.length ≤ 60255 ∧ T.length ≤ 255 * k ∧ N.length ≤ k ∧ Bk w tb m T vb bl va ve vn N wr) (fun _ _ _ _ vi _ => l.length - (intOf vi).toNat)
  case atStart => exact ⟨0, none, [], [], [], by omega, rfl, by simp, by simp, by simp, A3.out⟩
  case round =>
    clear A3
    obtain ⟨k, m, T, bl, N, hk, rfl, hlen, hfew, hNk, hr⟩ := hrel
    have R0 := Lib.hid hr
    obtain ⟨Ab, cb, rfl, hcb, hcm⟩ := hr.own.shape
    obtain ⟨Aa, ca, rfl, hca, hcma⟩ := own_shape hr.oa
    obtain ⟨Ae, ce, rfl, hce, hcme⟩ := own_shape hr.oe
    obtain ⟨An, cn, rfl, hcn, hcmn⟩ := own_shape hr.on
    unfold maxLen at hcm hcma hcme hcmn
    clear hr
    by_cases hlt : k < l.length
    · have q0 : decide ((k : Int) < (l.length : Int)) = true := by simp; omega
      obtain ⟨b, off, rfl, _, _, c0, c1, c2, c3⟩ := HI.out.at hlt
      have d0 : b < w.heap.size := cell_lt c0
      have C0 := Lib.hid c0
      have C1 := Lib.hid c1
      have C2 := Lib.hid c2
      have C3 := Lib.hid c3
      clear c0 c1 c2 c3
      obtain ⟨hgap, hnm⟩ := HS.out l[k] (List.getElem_mem hlt)
      generalize l[k].name = nm at *
      generalize l[k].cmp = cmp at *
      generalize l[k].known = known at *
      generalize l[k].gap = gap at *
      have c3 : wr.cell? ⟨b, off + k * 4 + 3, none⟩ = some (.int .u16 gap) := R0.out.gr.cell C3.out (by simp)
      go_wp2_with (at_builtin; refine wpList_app_zeros rfl (.tmp 29) (.tmp 36) 31 3 rfl (tb + 1) i0 Tryd.underlying31 Tryd.underlying3 hi hz0 hz1 hz2 _ bl rfl R0.out.own (gap % 20000) _ rfl ?e0 ?e1 ?e2 ?_)
      case e1 => omega
      case e2 => exact blt R0.out.tab.cell
      intro v4 w4 ho4 hg4
      have Z4 := Lib.hid (R0.out.zeros hg4 ho4)
      have lz : (bl ++ List.replicate (gap % 20000) (0 : UInt8)).length ≤ bl.length + 20000 := by simp; omega
      obtain ⟨A4, c4, rfl, hc4, hcm4⟩ := ho4.shape
      generalize (bl ++ List.replicate (gap % 20000) (0 : UInt8)) = b4 at *
      unfold maxLen at hcm4
      clear ho4 hg4 c3
      by_cases h60 : 60000 < b4.length
      · have k60 : decide ((60000 : Int) < (b4.length : Int)) = true := by simp; omega
        have FIN := Lib.hid (show ∃ m T, Bk w tb m T (.slice A4 b4.length c4) b4 (.slice Aa N.length ca) (.slice Ae N.length ce) (.slice An N.length cn) N w4 from ⟨m, T, Z4.out⟩)
        clear Z4 R0
        go_wp2_with fail
        go_loopw [11] (fun vi wr => ∃ j : Nat, j ≤ N.length ∧ vi = .int .i64 j ∧ w4.grownBy wr none) (fun vi _ => N.length - (intOf vi).toNat)
        case atStart => exact ⟨0, by omega, rfl, grefl _ _⟩
        case round =>
          obtain ⟨j, hj, rfl, hgr⟩ := hrel
          obtain ⟨mf, Tf, fin⟩ := FIN.out
          have F := Lib.hid (fin.quiet hgr)
          have HGR := Lib.hid hgr
          clear hgr fin
          by_cases hjl : j < N.length
          · have r0 : decide ((j : Int) < (N.length : Int)) = true := by simp; omega
            obtain ⟨x, hx⟩ : ∃ x, N[j]? = some x := ⟨_, List.getElem?_eq_getElem hjl⟩
            have hrd := F.out.rd x (List.mem_of_getElem? hx)
            obtain ⟨ga, rfl, ya⟩ := row_cell F.out.oa (j := j) (u := .int .i64 (x.2.1 : Int)) (by simp [nAt, hx])
            obtain ⟨ge, rfl, ye⟩ := row_cell F.out.oe (j := j) (u := .int .i64 (x.2.2 : Int)) (by simp [nEnd, hx])
            obtain ⟨gn, rfl, yn⟩ := row_cell F.out.on (j := j) (u := .string x.1) (by simp [nName, hx])
            have YE := Lib.hid ye
            have YN := Lib.hid yn
            have K := Lib.hid (fun g : Gr wr => cread_is ⟨b4.toArray⟩ (x.2.1 : Int) g.w (HE.out.kept (gtrans F.out.gr g.h) (by simp)) (by rw [size_mk]; omega) _ hrd)
            unfold rdR at K
            simp only [mk_self] at K
            have ya' : ∀ g : Gr wr, g.w.cell? ⟨ga, j, none⟩ = some (.int .i64 (x.2.1 : Int)) := Gr.cell ya
            have v1 : ∀ g : Gr wr, _ := fun g => cvs (F.out.own.sl.kept0 g.h)
            generalize (⟨b4.toArray⟩ : ByteArray) = S at *
            clear ya ye yn hrd hx
            go_wp2_with fail
            refine wp_region_noPanic ?_
            refine wp_region_gr (by kernel_rfl) (by kernel_rfl) ?_
            repeat (go_big_quiet_step ((go_at_call 11; with_reducible exact Calls.gr (K.out _))))
            refine wpQuiet_nil ?_
            rintro w9 ⟨gq, rfl⟩
            refine NoPanic.normal ?_
            have F9 := Lib.hid (F.out.quiet gq.h)
            have ye : gq.w.cell? ⟨ge, j, none⟩ = some (.int .i64 (x.2.2 : Int)) := gq.h.cell YE.out (by simp)
            have yn : gq.w.cell? ⟨gn, j, none⟩ = some (.string x.1) := gq.h.cell YN.out (by simp)
            have G9 := Lib.hid (show w4.grownBy gq.w none from gtrans HGR.out gq.h)
            clear K v1 ya' F YE YN
            generalize gq.w = w9 at *
            go_wp2_with fail
            go_roundw
            case rel => exact ⟨j + 1, by omega, by go_num, G9.out⟩
            case measure => simp [intOf]; omega
          · have r0 : decide ((j : Int) < (N.length : Int)) = false := by simp; omega
            go_wp2_with fail
            go_ret
            exact ⟨rfl, F.out.gr⟩
      · have k60 : decide ((60000 : Int) < (b4.length : Int)) = false := by simp; omega
        go_wp2_with fail
        have c0 : ∀ g : GrB w.heap.size w4.drew, g.w.cell? ⟨b, off + k * 4, none⟩ = some (.string nm) := GrB.cell (Z4.out.gr.cell C0.out (by simp)) d0
        have c1 : ∀ g : GrB w.heap.size w4.drew, g.w.cell? ⟨b, off + k * 4 + 1, none⟩ = some (.bool cmp) := GrB.cell (Z4.out.gr.cell C1.out (by simp)) d0
        have c2 : ∀ g : GrB w.heap.size w4.drew, g.w.cell? ⟨b, off + k * 4 + 2, none⟩ = some (.bool known) := GrB.cell (Z4.out.gr.cell C2.out (by simp)) d0
        refine wp_region_segsB w.heap.size [(true, [0, 1, 2, 3, 4, 5, 6, 7, 8, 9, 10, 11, 12, 13, 14, 15, 16]), (false, [17]), (true, [18, 19, 20, 21, 22])] (by kernel_rfl) (by kernel_rfl) ?_
        refine wpSegsB_quiet rfl ?_
        simp only [List.filterMap_cons, List.filterMap_nil, List.getElem?_toArray, List.getElem?_cons_succ, List.getElem?_cons_zero]
        show wpQuiet _ _ _ _ [_, _, _, _, _, _, _, _, _, _, _, _, _, _, _, _, _] _
        repeat (go_big_quiet_step (fail))
        refine wpQuiet_nil ?_
        refine wpSegsB_one (by simp only [List.getElem?_toArray, List.getElem?_cons_succ, List.getElem?_cons_zero]; exact rfl) ?_
        have Z5 := Lib.hid (Z4.out.quiet (gdrew (grefl w4 none)))
        clear Z4 c0 c1 c2
        generalize w4.drew = w4d at *
        go_wp2_with fail
        by_cases hmay : may nm = true
        · have hn5 := may_size hmay
          have K5 := tput_ok tb m T _ b4 nm cmp known w4d Z5.out.tab Z5.out.own.sl hmay (by omega) (by omega)
          refine K5.mono ?_
          clear K5
          rintro e w5 ⟨v5, m5, rfl, ho5, ht5, hg5, hms5⟩
          obtain ⟨l5, kb5, rd5⟩ := Z5.out.put hmay ho5 ht5 hg5 hms5
          have L5 := Lib.hid l5
          have KB5 := Lib.hid kb5
          have RD5 := Lib.hid rd5
          obtain ⟨A5, c5, rfl, hc5, hcm5⟩ := ho5.shape
          unfold maxLen at hcm5
          have hfe := Lib.hid (putF_few nm cmp known _ 0 T b4 rfl)
          have hPl : (putF nm cmp known 0 T b4).1.length ≤ b4.length + nm.size := by
            rcases put_shape nm cmp known b4.length _ 0 T b4 rfl hn5.2 Z5.out.ok.1 (fun x hx => .inl (Z5.out.ok.2 x hx).1) with h | ⟨q, j, _, h1, _, _, h⟩
            · rw [h]; have := nlen nm; simp <;> omega
            · rw [h]; have := nlen nm; simp [ptrB] <;> omega
          generalize putF nm cmp known 0 T b4 = P1 at *
          clear l5 kb5 rd5 ho5 ht5 hg5 hms5 Z5
          go_wp2_with fail
          refine ⟨KB5.out, ?_⟩
          refine wpSegsB_quiet rfl ?_
          simp only [List.filterMap_cons, List.filterMap_nil, List.getElem?_toArray, List.getElem?_cons_succ, List.getElem?_cons_zero]
          show wpQuiet _ _ _ _ [_, _, _, _, _] _
          repeat (go_big_quiet_step (fail))
          refine wpQuiet_nil ?_
          refine wpSegsB_done ?_
          clear KB5
          generalize hP : P1.1 = P at *
          generalize hT1 : P1.2 = T1 at *
          have c0 : w5.cell? ⟨b, off + k * 4, none⟩ = some (.string nm) := L5.out.gr.cell C0.out (by simp)
          go_wp2_with fail
          refine (may_any nm w5).mono ?_
          rintro e w6 ⟨rfl, rfl⟩
          have M5 := Lib.hid L5.out.mid
          go_wp2_with (at_builtin; refine wpList_append_own_at _ rfl (.tmp 73) (.tmp 76) 32 rfl (tb + 1) 3 i1 _ 1 8 Tryd.underlying32 i1h i1z i1s i1b rfl (by decide) _ N.length _ rfl (M5.out.quiet (galloc (grefl _ none) _)).oa ⟨_, 0, none⟩ 1 1 [.int .i64 (b4.length : Int)] rfl rfl (cell_one_new _ _ _) (by intro u hu; simp at hu; subst hu; rfl) (by unfold maxLen; omega) (by omega) (by have := blt M5.out.tab.cell; simp; omega) ?_)
          intro a6 w6 ho6 hg6 _ hv6
          have M6 := Lib.hid ((M5.out.quiet (galloc (grefl _ none) _)).a hg6 ho6 (by simpa using hv6))
          obtain ⟨A6, c6, rfl, hc6, hcm6⟩ := own_shape ho6
          unfold maxLen at hcm6
          clear ho6 hg6 hv6 M5 c0
          go_wp2_with (at_builtin; refine wpList_append_own_at _ rfl (.tmp 78) (.tmp 81) 32 rfl (tb + 1) 3 i1 _ 1 8 Tryd.underlying32 i1h i1z i1s i1b rfl (by decide) _ N.length _ rfl (M6.out.quiet (galloc (grefl _ none) _)).oe ⟨_, 0, none⟩ 1 1 [.int .i64 (P.length : Int)] rfl rfl (cell_one_new _ _ _) (by intro u hu; simp at hu; subst hu; rfl) (by unfold maxLen; omega) (by omega) (by have := blt M6.out.tab.cell; simp; omega) ?_)
          intro a7 w7 ho7 hg7 _ hv7
          have M7 := Lib.hid ((M6.out.quiet (galloc (grefl _ none) _)).e hg7 ho7 (by simpa using hv7))
          obtain ⟨A7, c7, rfl, hc7, hcm7⟩ := own_shape ho7
          unfold maxLen at hcm7
          clear ho7 hg7 hv7 M6
          have c0 : w7.cell? ⟨b, off + k * 4, none⟩ = some (.string nm) := M7.out.gr.cell C0.out (by simp)
          go_wp2_with (at_builtin; refine wpList_append_own_at _ rfl (.tmp 83) (.tmp 89) 33 rfl (tb + 1) 9 i2 _ 1 16 Tryd.underlying33 i2h i2z i2s i2b rfl (by decide) _ N.length _ rfl (M7.out.quiet (galloc (grefl _ none) _)).on ⟨_, 0, none⟩ 1 1 [.string nm] rfl rfl (cell_one_new _ _ _) (by intro u hu; simp at hu; subst hu; rfl) (by unfold maxLen; omega) (by omega) (by have := blt M7.out.tab.cell; simp; omega) ?_)
          intro a8 w8 ho8 hg8 _ _
          have M8 := Lib.hid ((M7.out.quiet (galloc (grefl _ none) _)).n hg8 ho8)
          obtain ⟨A8, c8, rfl, hc8, hcm8⟩ := own_shape ho8
          clear ho8 hg8 M7 c0
          have LN := Lib.hid (L5.out.next (x := (nm, b4.length, P.length)) M8.out RD5.out)
          go_wp2_with fail
          go_roundw
          case rel => exact ⟨k + 1, m5, T1, P, N ++ [(nm, b4.length, P.length)], by omega, by go_num, by omega, by have := hfe.out; omega, by simp; omega, by simpa using LN.out⟩
          case measure => simp [intOf]; omega
        · have hmf : may nm = false := by cases h : may nm <;> simp_all
          have K5 := tput_no tb (.slice A4 b4.length c4) nm cmp known w4d hmf
          refine K5.mono ?_
          clear K5
          rintro e w5 ⟨rfl, hg5⟩
          have KB5 := Lib.hid (KB.of (B := w.heap.size) hg5 Z5.out.gr.size)
          have L5 := Lib.hid (Z5.out.quiet hg5)
          clear hg5 Z5
          go_wp2_with fail
          refine ⟨KB5.out, ?_⟩
          refine wpSegsB_quiet rfl ?_
          simp only [List.filterMap_cons, List.filterMap_nil, List.getElem?_toArray, List.getElem?_cons_succ, List.getElem?_cons_zero]
          show wpQuiet _ _ _ _ [_, _, _, _, _] _
          repeat (go_big_quiet_step (fail))
          refine wpQuiet_nil ?_
          refine wpSegsB_done ?_
          clear KB5
          have c0 : w5.cell? ⟨b, off + k * 4, none⟩ = some (.string nm) := L5.out.gr.cell C0.out (by simp)
          go_wp2_with fail
          refine (may_any nm w5).mono ?_
          rintro e w6 ⟨rfl, rfl⟩
          go_wp2_with fail
          go_roundw
          case rel => exact ⟨k + 1, m, T, b4, N, by omega, by go_num, by omega, by omega, by omega, L5.out⟩
          case measure => simp [intOf]; omega
    · have q0 : decide ((k : Int) < (l.length : Int)) = false := by simp; omega
      have FIN := Lib.hid (show ∃ m T, Bk w tb m T (.slice Ab bl.length cb) bl (.slice Aa N.length ca) (.slice Ae N.length ce) (.slice An N.length cn) N wr from ⟨m, T, R0.out⟩)
      clear R0
      obtain ⟨w4, rfl⟩ : ∃ w4 : World, w4 = wr := ⟨_, rfl⟩
      go_wp2_with fail
      go_loopw [11] (fun vi wr => ∃ j : Nat, j ≤ N.length ∧ vi = .int .i64 j ∧ w4.grownBy wr none) (fun vi _ => N.length - (intOf vi).toNat)
      case atStart => exact ⟨0, by omega, rfl, grefl _ _⟩
      case round =>
        obtain ⟨j, hj, rfl, hgr⟩ := hrel
        obtain ⟨mf, Tf, fin⟩ := FIN.out
        have F := Lib.hid (fin.quiet hgr)
        have HGR := Lib.hid hgr
        clear hgr fin
        by_cases hjl : j < N.length
        · have r0 : decide ((j : Int) < (N.length : Int)) = true := by simp; omega
          obtain ⟨x, hx⟩ : ∃ x, N[j]? = some x := ⟨_, List.getElem?_eq_getElem hjl⟩
          have hrd := F.out.rd x (List.mem_of_getElem? hx)
          obtain ⟨ga, rfl, ya⟩ := row_cell F.out.oa (j := j) (u := .int .i64 (x.2.1 : Int)) (by simp [nAt, hx])
          obtain ⟨ge, rfl, ye⟩ := row_cell F.out.oe (j := j) (u := .int .i64 (x.2.2 : Int)) (by simp [nEnd, hx])
          obtain ⟨gn, rfl, yn⟩ := row_cell F.out.on (j := j) (u := .string x.1) (by simp [nName, hx])
          have YE := Lib.hid ye
          have YN := Lib.hid yn
          have K := Lib.hid (fun g : Gr wr => cread_is ⟨bl.toArray⟩ (x.2.1 : Int) g.w (HE.out.kept (gtrans F.out.gr g.h) (by simp)) (by rw [size_mk]; omega) _ hrd)
          unfold rdR at K
          simp only [mk_self] at K
          have ya' : ∀ g : Gr wr, g.w.cell? ⟨ga, j, none⟩ = some (.int .i64 (x.2.1 : Int)) := Gr.cell ya
          have v1 : ∀ g : Gr wr, _ := fun g => cvs (F.out.own.sl.kept0 g.h)
          generalize (⟨bl.toArray⟩ : ByteArray) = S at *
          clear ya ye yn hrd hx
          go_wp2_with fail
          refine wp_region_noPanic ?_
          refine wp_region_gr (by kernel_rfl) (by kernel_rfl) ?_
          repeat (go_big_quiet_step ((go_at_call 11; with_reducible exact Calls.gr (K.out _))))
          refine wpQuiet_nil ?_
          rintro w9 ⟨gq, rfl⟩
          refine NoPanic.normal ?_
          have F9 := Lib.hid (F.out.quiet gq.h)
          have ye : gq.w.cell? ⟨ge, j, none⟩ = some (.int .i64 (x.2.2 : Int)) := gq.h.cell YE.out (by simp)
          have yn : gq.w.cell? ⟨gn, j, none⟩ = some (.string x.1) := gq.h.cell YN.out (by simp)
          have G9 := Lib.hid (show w4.grownBy gq.w none from gtrans HGR.out gq.h)
          clear K v1 ya' F YE YN
          generalize gq.w = w9 at *
          go_wp2_with fail
          go_roundw
          case rel => exact ⟨j + 1, by omega, by go_num, G9.out⟩
          case measure => simp [intOf]; omega
        · have r0 : decide ((j : Int) < (N.length : Int)) = false := by simp; omega
          go_wp2_with fail
          go_ret
          exact ⟨rfl, F.out.gr⟩
set_option maxRecDepth 100000 in
theorem back_walk (v : Value) (l : List It) (w : World) (he : Et w) (h : Its w v l) (hl : l.length ≤ maxLen) (hs : ∀ x ∈ l, x.gap < 65536 ∧ x.name.size ≤ maxLen) : Calls Tryd.prog 4 #[v] w fun e w' => e = .returned (.bool true) ∧ w.grownBy w' none := by
  by_cases h8 : itSum l < 8000
  · exact back_small v l w he h hl hs h8
  · have HL := Lib.hid (long_any v l w h hl (fun x hx => (hs x hx).2))
    obtain ⟨A, cap, rfl, hcap⟩ := h.shape
    have hd : decide (8000 ≤ itSum l) = true := by simp; omega
    rw [hd] at HL
    have HE := Lib.hid he
    clear h he hs hd h8
    go_enter Tryd.func4, Tryd.ntmps4
    go_wp2_with fail
    refine Calls.mono HL.out ?_
    rintro e w1 ⟨rfl, rfl⟩
    go_wp2_with fail
    refine Calls.mono (awake04 w HE.out) ?_
    rintro e w2 ⟨rfl, hg⟩
    go_wp2_with fail
    go_ret
    exact ⟨rfl, hg⟩
end Go.Proofs.YtjjegmgjnfkblaaDoor
