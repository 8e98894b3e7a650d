/-
  CompPuts.
-/
import Derived.Test.YtjjegmgjnfkblaaDoorCo04n
namespace Go.Proofs.YtjjegmgjnfkblaaDoor
open Go.RowKit

theorem put_le (n : ByteArray) (cmp known : Bool) (T : Tb) (b : List UInt8) (hsc : scan n 0 = true) (hl : Low T) : (putF n cmp known 0 T b).1.length ≤ b.length + n.size := by
  rcases put_shape n cmp known 16384 _ 0 T b rfl hsc hl (fun x hx => .inl (by have := hl x hx; omega)) with h | ⟨q, j, _, h1, _, _, h⟩
  · rw [h]; have := nlen n; simp <;> omega
  · rw [h]; have := nlen n; simp [ptrB] <;> omega
theorem zeros_str (bl : List UInt8) (z : Nat) : (⟨bl.toArray⟩ : ByteArray) ++ (⟨(List.replicate z (0 : UInt8)).toArray⟩ : ByteArray) = ⟨(bl ++ List.replicate z 0).toArray⟩ := mk_append_list _ _
theorem name_le {l : List It} {i : Nat} (h : i < l.length) (h8 : itSum l < 8000) : l[i].name.size ≤ 8000 := by
  have h1 := itSum_take h
  have h2 := itSum_mono l (i + 1)
  omega

set_option maxRecDepth 100000 in
set_option maxHeartbeats 4000000 in
theorem puts_small (v : Value) (l : List It) (w : World) (he : Et w) (h : Its w v l) (hl : l.length ≤ maxLen) (hs : ∀ x ∈ l, x.gap < 65536 ∧ x.name.size ≤ maxLen) (h8 : itSum l < 8000) : Calls Tryd.prog 8 #[v] w fun e w' => e = .returned (.bool true) ∧ w.grownBy w' none := by
  have HI := Lib.hid h
  have HE := Lib.hid he
  have HSZ := Lib.hid (fun i (hi : i < l.length) => name_le hi h8)
  have hl4 : l.length ≤ 400 := by
    have := itSum_len l l.length (Nat.le_refl _)
    rw [List.take_length] at this
    omega
  obtain ⟨i0, hi, hz0, hz1, hz2⟩ := info_parts Tryd.infoByte
  have HL := Lib.hid (long_any v l w h hl (fun x hx => (hs x hx).2))
  obtain ⟨A, cap, rfl, hcap⟩ := h.shape
  have HS := Lib.hid hs
  clear h he hs
  have hd : decide (8000 ≤ itSum l) = false := by simp; omega
  rw [hd] at HL
  clear hd h8
  go_enter Tryd.func8, Tryd.ntmps8
  go_wp2_with fail
  refine Calls.mono HL.out ?_
  rintro e w1 ⟨rfl, rfl⟩
  clear HL
  go_wp2_with fail
  refine (tnew_any w).mono ?_
  rintro e w3 ⟨tb, rfl, hlb, ht, hg⟩
  have A3 := Lib.hid (show Pu w tb none w3.heap.size (.slice none 0 0) [] (.slice none 0 0) [] (w3.alloc (.cells #[.slice none 0 0] 46)) from
    ⟨galloc hg _, ht.kept0 (galloc (grefl _ none) _), fun _ e => (by cases e), hlb, Own.nil _ _, ⟨balloc _ _, World.ownsRow_nil _ _ _ _⟩, hg.size, by have := blt ht.cell; omega, ND.nil⟩)
  generalize hrb : w3.heap.size = rb at *
  clear hlb ht hg
  go_wp2_with fail
  generalize w3.alloc (.cells #[.slice none 0 0] 46) = w4 at *
  clear hrb
  go_loopw [5, 6, 7] (fun vb vs vi wr => ∃ (k : Nat) (m : Option Nat) (vr : Value) (T : Tb) (bl : List UInt8), k ≤ l.length ∧ vi = .int .i64 k ∧ vs = .string ⟨bl.toArray⟩ ∧ bl.length ≤ 60255 ∧ T.length ≤ 255 * k ∧ Pu w tb m rb vr T vb bl wr) (fun _ _ vi _ => l.length - (intOf vi).toNat)
  case atStart => exact ⟨0, none, _, [], [], by omega, rfl, rfl, by simp, by simp, A3.out⟩
  case round =>
    clear A3
    obtain ⟨k, m, vr, T, bl, hk, rfl, rfl, hlen, hfew, hr⟩ := hrel
    have R0 := Lib.hid hr
    obtain ⟨Ab, cb, rfl, hcb, hcm⟩ := hr.own.shape
    unfold maxLen at hcm
    clear hr
    have hOz : (⟨bl.toArray⟩ : ByteArray).size ≤ 60255 := by rw [size_mk]; omega
    by_cases hlt : k < l.length
    · have q0 : decide ((k : Int) < (l.length : Int)) = true := by simp; omega
      obtain ⟨b, off, rfl, _, _, c0, c1, c2, c3⟩ := HI.out.at hlt
      have d0 : b < w.heap.size := cell_lt c0
      have C0 := Lib.hid c0
      have C1 := Lib.hid c1
      have C2 := Lib.hid c2
      have C3 := Lib.hid c3
      clear c0 c1 c2 c3
      obtain ⟨hgap, hnm⟩ := HS.out l[k] (List.getElem_mem hlt)
      have hns := HSZ.out k hlt
      generalize l[k].name = nm at *
      generalize l[k].cmp = cmp at *
      generalize l[k].known = known at *
      generalize l[k].gap = gap at *
      have c3 : wr.cell? ⟨b, off + k * 4 + 3, none⟩ = some (.int .u16 gap) := R0.out.gr.cell C3.out (by simp)
      have HZS := Lib.hid (zeros_str bl (gap % 20000))
      generalize (⟨bl.toArray⟩ : ByteArray) = O at *
      go_wp2_with (at_builtin; refine wpList_app_zeros rfl (.tmp 32) (.tmp 39) 31 3 rfl (tb + 1) i0 Tryd.underlying31 Tryd.underlying3 hi hz0 hz1 hz2 _ bl rfl R0.out.own (gap % 20000) _ rfl ?e0 ?e1 ?e2 ?_)
      case e1 => omega
      case e2 => exact blt R0.out.tab.cell
      intro v4 w4 ho4 hg4
      have Z4 := Lib.hid (R0.out.app hg4 ho4)
      have lz : (bl ++ List.replicate (gap % 20000) (0 : UInt8)).length ≤ bl.length + 20000 := by simp; omega
      have HZL := Lib.hid (size_mk (bl ++ List.replicate (gap % 20000) (0 : UInt8)))
      obtain ⟨A4, c4, rfl, hc4, hcm4⟩ := ho4.shape
      generalize (bl ++ List.replicate (gap % 20000) (0 : UInt8)) = b4 at *
      unfold maxLen at hcm4
      clear ho4 hg4 c3
      have c3 : w4.cell? ⟨b, off + k * 4 + 3, none⟩ = some (.int .u16 gap) := Z4.out.gr.cell C3.out (by simp)
      go_wp2_with (at_make; refine wpList_make_z rfl (.tmp 48) (.tmp 48) 31 rfl w4.heap.size i0 Tryd.underlying31 hi hz0 hz1 hz2 .i64 .i64 _ _ (gap % 20000) rfl rfl ?f1 ?f2 ?f3 (Nat.le_refl _) ?_)
      case f1 => omega
      case f2 => omega
      case f3 => omega
      intro w5 ho5 hg5
      have Z5 := Lib.hid (Z4.out.quiet hg5)
      have v5 := cvs ho5.sl
      have hzz : (⟨(List.replicate (gap % 20000) (0 : UInt8)).toArray⟩ : ByteArray).size ≤ 20000 := by rw [size_mk]; simp; omega
      generalize (⟨(List.replicate (gap % 20000) (0 : UInt8)).toArray⟩ : ByteArray) = ZZ at *
      clear ho5 hg5 Z4 c3
      have hOZ : (O ++ ZZ).size = b4.length := by rw [HZS.out, HZL.out]
      by_cases h60 : 60000 < b4.length
      · have k60 : decide ((60000 : Int) < (b4.length : Int)) = true := by simp; omega
        go_wp2_with fail
        refine Calls.mono (awake04 w5 (HE.out.kept Z5.out.gr (by simp))) ?_
        rintro e w6 ⟨rfl, hg⟩
        go_wp2_with fail
        go_ret
        exact ⟨rfl, gtrans Z5.out.gr hg⟩
      · have k60 : decide ((60000 : Int) < (b4.length : Int)) = false := by simp; omega
        go_wp2_with fail
        have c0 : ∀ g : GrB w.heap.size w5.drew, g.w.cell? ⟨b, off + k * 4, none⟩ = some (.string nm) := GrB.cell (Z5.out.gr.cell C0.out (by simp)) d0
        have c1 : ∀ g : GrB w.heap.size w5.drew, g.w.cell? ⟨b, off + k * 4 + 1, none⟩ = some (.bool cmp) := GrB.cell (Z5.out.gr.cell C1.out (by simp)) d0
        have c2 : ∀ g : GrB w.heap.size w5.drew, g.w.cell? ⟨b, off + k * 4 + 2, none⟩ = some (.bool known) := GrB.cell (Z5.out.gr.cell C2.out (by simp)) d0
        refine wp_region_segsB w.heap.size [(true, [0, 1, 2, 3, 4, 5, 6, 7, 8, 9, 10, 11, 12, 13, 14, 15, 16]), (false, [17]), (true, [18, 19, 20, 21, 22])] (by kernel_rfl) (by kernel_rfl) ?_
        refine wpSegsB_quiet rfl ?_
        simp only [List.filterMap_cons, List.filterMap_nil, List.getElem?_toArray, List.getElem?_cons_succ, List.getElem?_cons_zero]
        show wpQuiet _ _ _ _ [_, _, _, _, _, _, _, _, _, _, _, _, _, _, _, _, _] _
        repeat (go_big_quiet_step (fail))
        refine wpQuiet_nil ?_
        refine wpSegsB_one (by simp only [List.getElem?_toArray, List.getElem?_cons_succ, List.getElem?_cons_zero]; exact rfl) ?_
        have Z6 := Lib.hid (Z5.out.quiet (gdrew (grefl w5 none)))
        clear Z5 c0 c1 c2 v5
        generalize w5.drew = w5d at *
        go_wp2_with fail
        by_cases hmay : may nm = true
        · have hn5 := may_size hmay
          have K5 := tput_ok tb m T _ b4 nm cmp known w5d Z6.out.tab Z6.out.own.sl hmay (by omega) (by omega)
          refine K5.mono ?_
          clear K5
          rintro e w6 ⟨v6, m6, rfl, ho6, ht6, hg6, hms6⟩
          obtain ⟨p6, kb6⟩ := Z6.out.put ho6 ht6 hg6 hms6
          have P6 := Lib.hid p6
          have KB6 := Lib.hid kb6
          obtain ⟨A6, c6, rfl, hc6, hcm6⟩ := ho6.shape
          unfold maxLen at hcm6
          have hfe := Lib.hid (putF_few nm cmp known _ 0 T b4 rfl)
          have hnd := Lib.hid (putF_nd nm cmp known (by omega) _ 0 T b4 rfl Z6.out.nd)
          have K7 := fun w7 (h : RT w7 rb vr T) => rput_ok rb vr T b4 nm cmp known w7 h Z6.out.tab.low hmay (by omega) (by omega)
          rw [← HZS.out] at K7
          have hPl : (putF nm cmp known 0 T b4).1.length ≤ b4.length + nm.size := put_le nm cmp known T b4 hn5.2 Z6.out.tab.low
          have K7h := Lib.hid K7
          generalize putF nm cmp known 0 T b4 = P1 at *
          clear p6 kb6 ho6 ht6 hg6 hms6 Z6 K7
          go_wp2_with fail
          refine ⟨KB6.out, ?_⟩
          refine wpSegsB_quiet rfl ?_
          simp only [List.filterMap_cons, List.filterMap_nil, List.getElem?_toArray, List.getElem?_cons_succ, List.getElem?_cons_zero]
          show wpQuiet _ _ _ _ [_, _, _, _, _] _
          repeat (go_big_quiet_step (fail))
          refine wpQuiet_nil ?_
          refine wpSegsB_done ?_
          clear KB6
          go_wp2_with fail
          have c0 : ∀ g : GrB w.heap.size w6.drew, g.w.cell? ⟨b, off + k * 4, none⟩ = some (.string nm) := GrB.cell (P6.out.gr.cell C0.out (by simp)) d0
          have c1 : ∀ g : GrB w.heap.size w6.drew, g.w.cell? ⟨b, off + k * 4 + 1, none⟩ = some (.bool cmp) := GrB.cell (P6.out.gr.cell C1.out (by simp)) d0
          have c2 : ∀ g : GrB w.heap.size w6.drew, g.w.cell? ⟨b, off + k * 4 + 2, none⟩ = some (.bool known) := GrB.cell (P6.out.gr.cell C2.out (by simp)) d0
          refine wp_region_segsB w.heap.size [(true, [0, 1, 2, 3, 4, 5, 6, 7, 8, 9, 10, 11, 12, 13, 14, 15, 16]), (false, [17]), (true, [18, 19, 20, 21, 22])] (by kernel_rfl) (by kernel_rfl) ?_
          refine wpSegsB_quiet rfl ?_
          simp only [List.filterMap_cons, List.filterMap_nil, List.getElem?_toArray, List.getElem?_cons_succ, List.getElem?_cons_zero]
          show wpQuiet _ _ _ _ [_, _, _, _, _, _, _, _, _, _, _, _, _, _, _, _, _] _
          repeat (go_big_quiet_step (fail))
          refine wpQuiet_nil ?_
          refine wpSegsB_one (by simp only [List.getElem?_toArray, List.getElem?_cons_succ, List.getElem?_cons_zero]; exact rfl) ?_
          have P7 := Lib.hid (P6.out.quiet (gdrew (grefl w6 none)))
          clear P6 c0 c1 c2
          generalize w6.drew = w6d at *
          go_wp2_with fail
          refine (K7h.out w6d P7.out.rt).mono ?_
          rintro e w7 ⟨rfl, v7, hr7, hg7⟩
          obtain ⟨u7, sb7, kb7⟩ := P7.out.ref hnd.out hr7 hg7
          have U7 := Lib.hid u7
          have KB7 := Lib.hid kb7
          have cv1 := cvs sb7
          rw [← HZS.out] at cv1
          have cv2 := cvs u7.own.sl
          generalize hP : P1.1 = P at *
          generalize hT1 : P1.2 = T1 at *
          have hPz := size_mk P
          clear u7 kb7 hr7 hg7 P7 K7h sb7
          go_wp2_with fail
          refine ⟨KB7.out, ?_⟩
          refine wpSegsB_quiet rfl ?_
          simp only [List.filterMap_cons, List.filterMap_nil, List.getElem?_toArray, List.getElem?_cons_succ, List.getElem?_cons_zero]
          show wpQuiet _ _ _ _ [_, _, _, _, _] _
          repeat (go_big_quiet_step (fail))
          refine wpQuiet_nil ?_
          refine wpSegsB_done ?_
          clear KB7
          go_wp2_with fail
          go_loopw [12] (fun vj wr => ∃ j : Nat, j ≤ k + 1 ∧ vj = .int .i64 j ∧ w7.grownBy wr none) (fun vj _ => k + 1 - (intOf vj).toNat)
          case atStart => exact ⟨0, by omega, rfl, grefl _ _⟩
          case round =>
            obtain ⟨j, hj, rfl, hgr⟩ := hrel
            have F := Lib.hid (U7.out.quiet hgr)
            have HGR := Lib.hid hgr
            clear hgr
            by_cases hjl : j < k + 1
            · have r0 : decide (j ≤ k) = true := by simp; omega
              have hjt : j < l.length := by omega
              obtain ⟨_, _, ej, _, _, x0, _⟩ := HI.out.at hjt
              cases ej
              have X0 := Lib.hid x0
              obtain ⟨_, hjn⟩ := HS.out l[j] (List.getElem_mem hjt)
              have hjs := HSZ.out j hjt
              generalize l[j].name = nj at *
              have y0 : wr.cell? ⟨b, off + j * 4, none⟩ = some (.string nj) := F.out.gr.cell X0.out (by simp)
              clear x0
              go_wp2_with fail
              refine (tat_any tb m6 T1 nj wr F.out.tab (by omega)).mono ?_
              rintro e w8 ⟨rfl, hg8⟩
              have F8 := Lib.hid (F.out.quiet hg8)
              have G8 := Lib.hid (gtrans (show w7.grownBy wr none from HGR.out) hg8)
              clear hg8 F y0
              have y0 : w8.cell? ⟨b, off + j * 4, none⟩ = some (.string nj) := F8.out.gr.cell X0.out (by simp)
              go_wp2_with fail
              refine (rat_any rb _ T1 nj w8 F8.out.rt (by have := hfe.out; omega)).mono ?_
              rintro e w9 ⟨rfl, hq⟩
              subst hq
              go_wp2_with fail
              go_roundw
              case rel => exact ⟨j + 1, by omega, by go_num, G8.out⟩
              case measure => simp [intOf]; omega
            · have r0 : decide (j ≤ k) = false := by simp; omega
              go_wp2_with fail
              go_roundw
              case rel => exact ⟨k + 1, m6, v7, T1, P, by omega, by go_num, rfl, by omega, by have := hfe.out; omega, F.out⟩
              case measure => simp [intOf]; omega

        · have hmf : may nm = false := by cases h : may nm <;> simp_all
          have K5 := tput_no tb (.slice A4 b4.length c4) nm cmp known w5d hmf
          refine K5.mono ?_
          clear K5
          rintro e w6 ⟨rfl, hg6⟩
          have KB6 := Lib.hid (KB.of (B := w.heap.size) hg6 Z6.out.gr.size)
          have P6 := Lib.hid (Z6.out.quiet hg6)
          clear hg6 Z6
          go_wp2_with fail
          refine ⟨KB6.out, ?_⟩
          refine wpSegsB_quiet rfl ?_
          simp only [List.filterMap_cons, List.filterMap_nil, List.getElem?_toArray, List.getElem?_cons_succ, List.getElem?_cons_zero]
          show wpQuiet _ _ _ _ [_, _, _, _, _] _
          repeat (go_big_quiet_step (fail))
          refine wpQuiet_nil ?_
          refine wpSegsB_done ?_
          clear KB6
          go_wp2_with fail
          have c0 : ∀ g : GrB w.heap.size w6.drew, g.w.cell? ⟨b, off + k * 4, none⟩ = some (.string nm) := GrB.cell (P6.out.gr.cell C0.out (by simp)) d0
          have c1 : ∀ g : GrB w.heap.size w6.drew, g.w.cell? ⟨b, off + k * 4 + 1, none⟩ = some (.bool cmp) := GrB.cell (P6.out.gr.cell C1.out (by simp)) d0
          have c2 : ∀ g : GrB w.heap.size w6.drew, g.w.cell? ⟨b, off + k * 4 + 2, none⟩ = some (.bool known) := GrB.cell (P6.out.gr.cell C2.out (by simp)) d0
          refine wp_region_segsB w.heap.size [(true, [0, 1, 2, 3, 4, 5, 6, 7, 8, 9, 10, 11, 12, 13, 14, 15, 16]), (false, [17]), (true, [18, 19, 20, 21, 22])] (by kernel_rfl) (by kernel_rfl) ?_
          refine wpSegsB_quiet rfl ?_
          simp only [List.filterMap_cons, List.filterMap_nil, List.getElem?_toArray, List.getElem?_cons_succ, List.getElem?_cons_zero]
          show wpQuiet _ _ _ _ [_, _, _, _, _, _, _, _, _, _, _, _, _, _, _, _, _] _
          repeat (go_big_quiet_step (fail))
          refine wpQuiet_nil ?_
          refine wpSegsB_one (by simp only [List.getElem?_toArray, List.getElem?_cons_succ, List.getElem?_cons_zero]; exact rfl) ?_
          have P7 := Lib.hid (P6.out.quiet (gdrew (grefl w6 none)))
          clear P6 c0 c1 c2
          generalize w6.drew = w6d at *
          go_wp2_with fail
          refine (rput_no rb (O ++ ZZ) nm cmp known w6d hmf (by omega)).mono ?_
          rintro e w7 ⟨rfl, hg7⟩
          have KB7 := Lib.hid (KB.of (B := w.heap.size) hg7 P7.out.gr.size)
          have U7 := Lib.hid (P7.out.quiet hg7)
          have cv1 := cvs U7.out.own.sl
          rw [← HZS.out] at cv1
          have cv2 := cvs (Own.nil w7 0).sl
          clear hg7 P7
          go_wp2_with fail
          refine ⟨KB7.out, ?_⟩
          refine wpSegsB_quiet rfl ?_
          simp only [List.filterMap_cons, List.filterMap_nil, List.getElem?_toArray, List.getElem?_cons_succ, List.getElem?_cons_zero]
          show wpQuiet _ _ _ _ [_, _, _, _, _] _
          repeat (go_big_quiet_step (fail))
          refine wpQuiet_nil ?_
          refine wpSegsB_done ?_
          clear KB7
          go_wp2_with fail
          go_loopw [12] (fun vj wr => ∃ j : Nat, j ≤ k + 1 ∧ vj = .int .i64 j ∧ w7.grownBy wr none) (fun vj _ => k + 1 - (intOf vj).toNat)
          case atStart => exact ⟨0, by omega, rfl, grefl _ _⟩
          case round =>
            obtain ⟨j, hj, rfl, hgr⟩ := hrel
            have F := Lib.hid (U7.out.quiet hgr)
            have HGR := Lib.hid hgr
            clear hgr
            by_cases hjl : j < k + 1
            · have r0 : decide (j ≤ k) = true := by simp; omega
              have hjt : j < l.length := by omega
              obtain ⟨_, _, ej, _, _, x0, _⟩ := HI.out.at hjt
              cases ej
              have X0 := Lib.hid x0
              obtain ⟨_, hjn⟩ := HS.out l[j] (List.getElem_mem hjt)
              have hjs := HSZ.out j hjt
              generalize l[j].name = nj at *
              have y0 : wr.cell? ⟨b, off + j * 4, none⟩ = some (.string nj) := F.out.gr.cell X0.out (by simp)
              clear x0
              go_wp2_with fail
              refine (tat_any tb m T nj wr F.out.tab (by omega)).mono ?_
              rintro e w8 ⟨rfl, hg8⟩
              have F8 := Lib.hid (F.out.quiet hg8)
              have G8 := Lib.hid (gtrans (show w7.grownBy wr none from HGR.out) hg8)
              clear hg8 F y0
              have y0 : w8.cell? ⟨b, off + j * 4, none⟩ = some (.string nj) := F8.out.gr.cell X0.out (by simp)
              go_wp2_with fail
              refine (rat_any rb _ T nj w8 F8.out.rt (by omega)).mono ?_
              rintro e w9 ⟨rfl, hq⟩
              subst hq
              go_wp2_with fail
              go_roundw
              case rel => exact ⟨j + 1, by omega, by go_num, G8.out⟩
              case measure => simp [intOf]; omega
            · have r0 : decide (j ≤ k) = false := by simp; omega
              go_wp2_with fail
              go_roundw
              case rel => exact ⟨k + 1, m, vr, T, b4, by omega, by go_num, by rw [HZS.out], by omega, by omega, F.out⟩
              case measure => simp [intOf]; omega

    · have q0 : decide ((k : Int) < (l.length : Int)) = false := by simp; omega
      obtain ⟨w4, rfl⟩ : ∃ w4 : World, w4 = wr := ⟨_, rfl⟩
      obtain ⟨Ar, cr, rfl, hcr, hcmr⟩ := own_shape R0.out.rt.row
      unfold maxLen at hcmr
      have z0 : w4.cell? ⟨rb, 0, none⟩ = some (.slice Ar T.length cr) := bcellAt R0.out.rt.cell 0
      go_wp2_with fail
      go_loopw [17] (fun vj wr => ∃ j : Nat, j ≤ T.length ∧ vj = .int .i64 j ∧ w4.grownBy wr none) (fun vj _ => T.length - (intOf vj).toNat)
      case atStart => exact ⟨0, by omega, rfl, grefl _ _⟩
      case round =>
        obtain ⟨j, hj, rfl, hgr⟩ := hrel
        have F := Lib.hid (R0.out.quiet hgr)
        have HGR := Lib.hid hgr
        clear hgr z0
        have z0 : wr.cell? ⟨rb, 0, none⟩ = some (.slice Ar T.length cr) := bcellAt F.out.rt.cell 0
        by_cases hjl : j < T.length
        · have r0 : decide ((j : Int) < (T.length : Int)) = true := by simp; omega
          obtain ⟨g, rfl, y0, y1⟩ := F.out.rt.at hjl
          have Y1 := Lib.hid y1
          obtain ⟨hnd, hks⟩ := F.out.nd T[j] (List.getElem_mem hjl)
          have K := Lib.hid (tat_any tb m T T[j].1 wr F.out.tab hks)
          rw [hnd] at K
          simp only [Option.getD_some, Option.isSome_some] at K
          generalize T[j].1 = q at *
          generalize T[j].2 = q2 at *
          clear y1 hnd
          go_wp2_with fail
          refine K.out.mono ?_
          rintro e w8 ⟨rfl, hg8⟩
          have F8 := Lib.hid (F.out.quiet hg8)
          have G8 := Lib.hid (gtrans HGR.out hg8)
          have y1 : w8.cell? ⟨g, j * 2 + 1, none⟩ = some (.int .i64 (q2 : Int)) := hg8.cell Y1.out (by simp)
          clear hg8 F y0 z0 K
          have z0 : w8.cell? ⟨rb, 0, none⟩ = some (.slice (some ⟨g, 0, none⟩) T.length cr) := bcellAt F8.out.rt.cell 0
          go_wp2_with fail
          go_roundw
          case rel => exact ⟨j + 1, by omega, by go_num, G8.out⟩
          case measure => simp [intOf]; omega
        · have r0 : decide ((j : Int) < (T.length : Int)) = false := by simp; omega
          go_wp2_with fail
          refine Calls.mono (awake04 wr (HE.out.kept F.out.gr (by simp))) ?_
          rintro e w8 ⟨rfl, hg⟩
          go_wp2_with fail
          go_ret
          exact ⟨rfl, gtrans F.out.gr hg⟩
set_option maxRecDepth 100000 in
theorem puts_walk (v : Value) (l : List It) (w : World) (he : Et w) (h : Its w v l) (hl : l.length ≤ maxLen) (hs : ∀ x ∈ l, x.gap < 65536 ∧ x.name.size ≤ maxLen) : Calls Tryd.prog 8 #[v] w fun e w' => e = .returned (.bool true) ∧ w.grownBy w' none := by
  by_cases h8 : itSum l < 8000
  · exact puts_small v l w he h hl hs h8
  · have HL := Lib.hid (long_any v l w h hl (fun x hx => (hs x hx).2))
    obtain ⟨A, cap, rfl, hcap⟩ := h.shape
    have hd : decide (8000 ≤ itSum l) = true := by simp; omega
    rw [hd] at HL
    have HE := Lib.hid he
    clear h he hs hd h8
    go_enter Tryd.func8, Tryd.ntmps8
    go_wp2_with fail
    refine Calls.mono HL.out ?_
    rintro e w1 ⟨rfl, rfl⟩
    go_wp2_with fail
    refine Calls.mono (awake04 w HE.out) ?_
    rintro e w2 ⟨rfl, hg⟩
    go_wp2_with fail
    go_ret
    exact ⟨rfl, hg⟩
end Go.Proofs.YtjjegmgjnfkblaaDoor
