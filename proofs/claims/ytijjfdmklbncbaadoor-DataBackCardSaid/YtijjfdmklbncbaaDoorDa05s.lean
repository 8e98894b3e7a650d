/-
  DataWrites.
-/
import Derived.Test.YtijjfdmklbncbaaDoorDa05r
namespace Go.Proofs.YtijjfdmklbncbaaDoor
open Go.RowKit

theorem kb_row {B rb : Nat} {w w' : World} (g : w.grownBy w' (some rb)) (hB : B ≤ w.heap.size) (hr : B ≤ rb) : KB B w w' :=
  ⟨g.os, g.tape, g.output, g.size, fun i hi => g.block i (by omega) (by simp; omega)⟩
theorem bs_string (w : World) (s : ByteArray) (cap : Nat) (hc : s.size ≤ cap) : BS (w.drew.alloc (.cells (bytesRow s cap) 5 ((bytesRow s cap).size, (bytesRow s cap).size + 1))) (.slice (some ⟨w.heap.size, 0, none⟩) s.size cap) s.data.toList := by
  have hb : (w.drew.alloc (.cells (bytesRow s cap) 5 ((bytesRow s cap).size, (bytesRow s cap).size + 1))).heap[w.heap.size]? = some _ := balloc w.drew (.cells (bytesRow s cap) 5 ((bytesRow s cap).size, (bytesRow s cap).size + 1))
  refine ⟨⟨_, cap, by rw [nlen], by rw [nlen]; exact hc, by simp, fun ad had j u hu => ?_⟩, fun b e => by cases e; exact ⟨_, _, hb⟩⟩
  cases had
  rw [Addr.add_lit, Nat.zero_add, bcellAt hb, ← Array.getElem?_toList]
  have e : (bytesRow s cap).toList = bv s.data.toList ++ List.replicate (cap - s.size) (.int .u8 0) := by simp [bytesRow, bv]
  rw [e, List.getElem?_append_left (by have := (List.getElem?_eq_some_iff.1 hu).1; exact this)]
  exact hu
def behS : ByteArray := ⟨#[98, 101, 104, 105, 110, 100]⟩

set_option maxRecDepth 100000 in
set_option maxHeartbeats 4000000 in
theorem writes5_small (ahead : ByteArray) (v : Value) (l : List Pt) (w : World) (he : Et w) (h : Pts w v l) (hl : l.length ≤ maxLen) (hs : ∀ x ∈ l, x.data.size ≤ maxLen) (ha : ahead.size ≤ 3000) (h8 : ptSum l < 4000) : Calls Tryd.prog 4 #[.string ahead, v] w fun e w' => e = .returned (.bool true) ∧ w.grownBy w' none := by
  have HI := Lib.hid h
  have HE := Lib.hid he
  have hl4 : l.length ≤ 200 := by
    have := ptSum_len l l.length (Nat.le_refl _)
    rw [List.take_length] at this
    omega
  have hb0 : decide ((3000 : Int) < (ahead.size : Int)) = false := by simp; omega
  obtain ⟨i0, hi, hz0, hz1, hz2⟩ := info_parts Tryd.infoByte
  have HL := Lib.hid (long5_any v l w h hl hs)
  obtain ⟨A, cap, rfl, hcap⟩ := h.shape
  have HS := Lib.hid h8
  clear h he hs
  have hd : decide (4000 ≤ ptSum l) = false := by simp; omega
  rw [hd] at HL
  clear hd h8
  have hcv := run_bytes_of_string (P := Tryd.prog) w 9 30 5 ahead Tryd.underlying9 Tryd.underlying30 Tryd.underlying5
  have HB0 := Lib.hid (bs_string w ahead _ (grownCap_ge w ahead.size 0 5))
  have HG0 := Lib.hid (galloc (gdrew (grefl w none)) (.cells (bytesRow ahead (grownCap w ahead.size 0 5)) 5 ((bytesRow ahead (grownCap w ahead.size 0 5)).size, (bytesRow ahead (grownCap w ahead.size 0 5)).size + 1)))
  generalize hcw : (w.drew.alloc (.cells (bytesRow ahead (grownCap w ahead.size 0 5)) 5 ((bytesRow ahead (grownCap w ahead.size 0 5)).size, (bytesRow ahead (grownCap w ahead.size 0 5)).size + 1))) = wa at *
  generalize grownCap w ahead.size 0 5 = cap0 at *
  clear hcw
  go_enter Tryd.func4, Tryd.ntmps4
  go_wp2_with fail
  refine Calls.mono HL.out ?_
  rintro e w1 ⟨rfl, rfl⟩
  clear HL
  go_wp2_with fail
  refine (tnew_any wa).mono ?_
  rintro e w3 ⟨tb, rfl, hlb, ht, hg⟩
  have A3 := Lib.hid (show Ww w tb w3.heap.size [] [] (.slice (some ⟨w.heap.size, 0, none⟩) ahead.size cap0) ahead.data.toList 0 0 (w3.alloc (.cells #[.slice none 0 0] 36)) from
    ⟨galloc (gtrans HG0.out hg) _, ⟨none, ht.kept0 (galloc (grefl _ none) _), fun _ e => by cases e⟩, ⟨_, balloc w3 _, World.ownsRow_nil _ _ _ _⟩, Low.nil, Nat.le_trans HG0.out.size hlb, Nat.le_trans HG0.out.size hg.size, (HB0.out.kept0 hg).kept0 (galloc (grefl _ none) _), by simp, by rw [nlen]; omega⟩)
  clear hlb ht hg hcv
  go_wp2_with fail
  generalize w3.heap.size = rb at *
  go_loopw [5, 6, 9] (fun vb vs vi wr => ∃ (k : Nat) (T : Tb) (bl : List UInt8), k ≤ l.length ∧ vi = .int .i64 k ∧ vs = .string ⟨bl.toArray⟩ ∧ Ww w tb rb T T vb bl k (ptSum (l.take k)) wr) (fun _ _ vi _ => l.length - (intOf vi).toNat)
  case atStart => exact ⟨0, [], ahead.data.toList, by omega, rfl, rfl, by simpa [ptSum] using A3.out⟩
  case round =>
    clear A3
    obtain ⟨k, T, bl, hk, rfl, rfl, hr⟩ := hrel
    have R0 := Lib.hid hr
    have hfew := hr.few
    have hlen := hr.len
    obtain ⟨Ab, cb, rfl, _, _⟩ := hr.bs.1
    clear hr
    have hps := ptSum_mono l k
    have hlt4 := HS.out
    by_cases hlt : k < l.length
    · have q0 : decide ((k : Int) < (l.length : Int)) = true := by simp; omega
      obtain ⟨b, off, rfl, _, _, c0, c1⟩ := HI.out.at hlt
      have d0 : b < w.heap.size := cell_lt c0
      have C0 := Lib.hid c0
      have C1 := Lib.hid c1
      clear c0 c1
      have hsum := ptSum_take hlt
      have hps2 := ptSum_mono l (k + 1)
      have HSum := Lib.hid hsum
      generalize l[k].kind = kd at *
      generalize l[k].data = da at *
      have hda : da.size < 4000 := by omega
      have HS1 := Lib.hid (show ptSum (l.take (k + 1)) = ptSum (l.take k) + (20 + da.size) by rw [HSum.out]; congr 2; omega)
      clear hsum hps2 hps HSum
      have hps : ptSum (l.take k) + (20 + da.size) < 4000 := by have := ptSum_mono l (k + 1); have := HS1.out; omega
      generalize ptSum (l.take k) = sm at *
      have ho0 : Own (wr.alloc (.cells #[] 5)) wr.heap.size (.slice (some ⟨wr.heap.size, 0, none⟩) ([] : List UInt8).length 0) [] := own_none wr _ _ 1 (Nat.le_refl _)
      go_wp2_with (at_builtin; refine wpList_app_sl rfl (.tmp 35) (.tmp 36) 30 rfl wr.heap.size i0 Tryd.underlying30 hi hz0 hz1 hz2 _ [] bl rfl ho0 _ rfl (R0.out.bs.1.kept0 (galloc (grefl _ none) _)) ?e1 ?e2 ?_)
      case e1 => omega
      intro v1 w1 ho1 hg1
      have HG1 := Lib.hid (show wr.grownBy w1 none from gnew (gfr1 hg1) (fun r e => by cases e; exact Nat.le_refl _))
      have HO1 := Lib.hid ho1
      have hw1 : wr.heap.size ≤ w1.heap.size := (gfr1 hg1).size
      clear ho1 hg1
      obtain ⟨A1, c1, rfl, _, _⟩ := HO1.out.shape
      go_wp2_with (at_builtin; refine wpList_app_str rfl (.tmp 37) (.const (.string behS)) 30 9 rfl wr.heap.size i0 Tryd.underlying30 Tryd.underlying9 hi hz0 hz1 hz2 _ bl rfl HO1.out behS rfl ?f1 ?f2 ?_)
      case f1 => have : behS.size = 6 := rfl; omega
      case f2 => exact hw1
      intro v2 w2 ho2 hg2
      have R2 := Lib.hid (R0.out.quiet (gstep HG1.out hg2 (fun r e => (HO1.out.block r e).1)))
      have B2 := Lib.hid (BS.of ho2)
      obtain ⟨A2, c2, rfl, hc2, _⟩ := ho2.shape
      have hA2 : A2 ≠ none := by
        obtain ⟨g, hg, _⟩ := Own.cellAt ho2 (by rw [List.length_append]; have : behS.data.toList.length = 6 := rfl; omega)
        rw [hg]; simp
      have hbl6 : (bl ++ behS.data.toList).length = bl.length + 6 := by rw [List.length_append]; rfl
      rw [hbl6] at B2 hc2
      rw [hbl6]
      clear ho2 hg2 R0 HO1 HG1
      have hT9 : T.length ≤ 900000 := by omega
      have hb9 : bl.length ≤ 10000 := by omega
      go_wp2_with fail
      have c0 : ∀ g : GrB w.heap.size w2.drew, g.w.cell? ⟨b, off + k * 2, none⟩ = some (.int .u16 (kd : Int)) := GrB.cell ((gtrans R2.out.gr (gdrew (grefl w2 none))).cell C0.out (by simp)) d0
      have c1 : ∀ g : GrB w.heap.size w2.drew, g.w.cell? ⟨b, off + k * 2 + 1, none⟩ = some (.string da) := GrB.cell ((gtrans R2.out.gr (gdrew (grefl w2 none))).cell C1.out (by simp)) d0
      refine wp_region_segsB w.heap.size [(true, [0, 1, 4, 5, 6, 7, 8, 9, 10, 11, 12, 13, 14]), (false, [2]), (true, [3]), (false, [15]), (true, [16, 17, 18, 19, 20])] (by kernel_rfl) (by kernel_rfl) ?_
      refine wpSegsB_quiet rfl ?_
      simp only [List.filterMap_cons, List.filterMap_nil, List.getElem?_toArray, List.getElem?_cons_succ, List.getElem?_cons_zero]
      show wpQuiet _ _ _ _ [_, _, _, _, _, _, _, _, _, _, _, _, _] _
      repeat (go_big_quiet_step (fail))
      refine wpQuiet_nil ?_
      clear c0 c1
      have R3 := Lib.hid (R2.out.quiet (gdrew (grefl w2 none)))
      have B3 := Lib.hid (B2.out.kept0 (gdrew (grefl w2 none)))
      clear R2 B2
      generalize w2.drew = w3 at *
      refine wpSegsB_one (by simp only [List.getElem?_toArray, List.getElem?_cons_succ, List.getElem?_cons_zero]; exact rfl) ?_
      go_wp2_with fail
      refine ⟨KB.refl _ _, ?_⟩
      refine wpSegsB_quiet rfl ?_
      simp only [List.filterMap_cons, List.filterMap_nil, List.getElem?_toArray, List.getElem?_cons_succ, List.getElem?_cons_zero]
      show wpQuiet _ _ _ _ [_] _
      repeat (go_big_quiet_step (fail))
      refine wpQuiet_nil ?_
      refine wpSegsB_one (by simp only [List.getElem?_toArray, List.getElem?_cons_succ, List.getElem?_cons_zero]; exact rfl) ?_
      go_wp2_with fail
      obtain ⟨m, ht, hm⟩ := R3.out.tab
      have HTab := Lib.hid ht
      have HMs := Lib.hid hm
      have SF := Lib.hid (SlB.front B3.out.1 hA2)
      clear ht hm
      cases hw : whF kd da with
      | none =>
        refine (twrite_no (HE.out.kept R3.out.gr (by simp)) HTab.out SF.out (by omega) hT9 (by omega) hw).mono ?_
        rintro e w4 ⟨rfl, hg⟩
        have R4 := Lib.hid (R3.out.quiet hg)
        have B4 := Lib.hid (B3.out.kept0 hg)
        have KBX := Lib.hid (KB.of (B := w.heap.size) hg R3.out.gr.size)
        have HW := Lib.hid hw
        clear hg R3 B3 HTab HMs SF hw
        go_wp2_with fail
        refine ⟨KBX.out, ?_⟩
        refine wpSegsB_quiet rfl ?_
        simp only [List.filterMap_cons, List.filterMap_nil, List.getElem?_toArray, List.getElem?_cons_succ, List.getElem?_cons_zero]
        show wpQuiet _ _ _ _ [_, _, _, _, _] _
        repeat (go_big_quiet_step (fail))
        refine wpQuiet_nil ?_
        refine wpSegsB_done ?_
        clear KBX
        go_wp2_with fail
        have c0 : ∀ g : GrB w.heap.size w4.drew, g.w.cell? ⟨b, off + k * 2, none⟩ = some (.int .u16 (kd : Int)) := GrB.cell ((gtrans R4.out.gr (gdrew (grefl w4 none))).cell C0.out (by simp)) d0
        have c1 : ∀ g : GrB w.heap.size w4.drew, g.w.cell? ⟨b, off + k * 2 + 1, none⟩ = some (.string da) := GrB.cell ((gtrans R4.out.gr (gdrew (grefl w4 none))).cell C1.out (by simp)) d0
        refine wp_region_segsB w.heap.size [(true, [0, 1, 2, 3, 4, 5, 6, 7, 8, 9, 10, 11]), (false, [12]), (true, [13, 14, 15, 16, 17])] (by kernel_rfl) (by kernel_rfl) ?_
        refine wpSegsB_quiet rfl ?_
        simp only [List.filterMap_cons, List.filterMap_nil, List.getElem?_toArray, List.getElem?_cons_succ, List.getElem?_cons_zero]
        show wpQuiet _ _ _ _ [_, _, _, _, _, _, _, _, _, _, _, _] _
        repeat (go_big_quiet_step (fail))
        refine wpQuiet_nil ?_
        clear c0 c1
        have R5 := Lib.hid (R4.out.quiet (gdrew (grefl w4 none)))
        have B5 := Lib.hid (B4.out.kept0 (gdrew (grefl w4 none)))
        clear R4 B4
        generalize w4.drew = w5 at *
        refine wpSegsB_one (by simp only [List.getElem?_toArray, List.getElem?_cons_succ, List.getElem?_cons_zero]; exact rfl) ?_
        go_wp2_with fail
        obtain ⟨vt, hrt⟩ := R5.out.ref
        have HRT := Lib.hid hrt
        clear hrt
        refine (rwrite_no HRT.out R5.out.low (by omega) hT9 (by omega) HW.out).mono ?_
        rintro e w6 ⟨rfl, hg⟩
        have R6 := Lib.hid (R5.out.quiet hg)
        have B6 := Lib.hid (B5.out.kept0 hg)
        have KBX := Lib.hid (KB.of (B := w.heap.size) hg R5.out.gr.size)
        clear hg R5 B5 HRT
        go_wp2_with fail
        refine ⟨KBX.out, ?_⟩
        refine wpSegsB_quiet rfl ?_
        simp only [List.filterMap_cons, List.filterMap_nil, List.getElem?_toArray, List.getElem?_cons_succ, List.getElem?_cons_zero]
        show wpQuiet _ _ _ _ [_, _, _, _, _] _
        repeat (go_big_quiet_step (fail))
        refine wpQuiet_nil ?_
        refine wpSegsB_done ?_
        clear KBX
        have cv1 := cvs B6.out.1
        have cv2 := cvs R6.out.bs.1
        rw [← mk_append_list] at cv1
        have R7 := Lib.hid (show Ww w tb rb T T (.slice Ab bl.length cb) bl (k + 1) (ptSum (l.take (k + 1))) w6 from ⟨R6.out.gr, R6.out.tab, R6.out.ref, R6.out.low, R6.out.lb, R6.out.lr, R6.out.bs, by omega, by rw [HS1.out]; omega⟩)
        have hOs : (⟨bl.toArray⟩ : ByteArray).size ≤ 20000 := by rw [size_mk]; omega
        rw [show (⟨behS.data.toList.toArray⟩ : ByteArray) = ⟨#[98, 101, 104, 105, 110, 100]⟩ from rfl] at cv1
        clear R6 B6
        generalize hO : (⟨bl.toArray⟩ : ByteArray) = O at *
        go_wp2_with fail
        go_roundw
        case rel => exact ⟨k + 1, T, bl, by omega, by go_num, by rw [hO], R7.out⟩
        case measure => simp [intOf]; omega
      | some ps =>
        obtain ⟨_, htx, hgd⟩ := wh_good hw
        have hpl := spl_len (wh_good hw).1
        have hlow := wrF_low (cmpF kd) ps T bl R3.out.low
        have hwl := wrF_len (cmpF kd) ps T bl (fun x hx => (hgd x hx).2)
        have htl : (tx ps).length = da.size := by rw [← size_mk, htx]
        obtain ⟨r, hr⟩ : ∃ r, wrF (cmpF kd) ps T bl = r := ⟨_, rfl⟩
        rw [hr] at hlow hwl
        have HLow := Lib.hid hlow
        clear htx hgd hlow
        refine (twrite_yes (HE.out.kept R3.out.gr (by simp)) HTab.out SF.out (by omega) hT9 (by omega) hw hr).mono ?_
        rintro e w4 ⟨v4, m4, rfl, ho4, ht4, hg4, hms4⟩
        have R4 := Lib.hid (show Ww w tb rb r.2 T (.slice Ab bl.length cb) bl (k + 1) sm w4 from ⟨TG.gr R3.out.gr hg4 R3.out.lb HMs.out, ⟨m4, ht4, fun j e => by
          rcases hms4 j e with h1 | h1
          · exact HMs.out j h1
          · exact Nat.le_trans R3.out.gr.size h1⟩, by obtain ⟨vt, hrt⟩ := R3.out.ref; exact ⟨vt, hrt.keptT HTab.out hg4⟩, R3.out.low, R3.out.lb, R3.out.lr, R3.out.bs.keptT HTab.out hg4, by omega, R3.out.len⟩)
        have B4 := Lib.hid (B3.out.keptT HTab.out hg4)
        have C4 := Lib.hid (BS.of ho4)
        have KBX := Lib.hid (hg4.kb (B := w.heap.size) R3.out.gr.size R3.out.lb HMs.out)
        have HW := Lib.hid hw
        have HR := Lib.hid hr
        obtain ⟨A4, c4, rfl, _, _⟩ := ho4.shape
        clear ho4 ht4 hg4 hms4 R3 B3 HTab HMs SF hw hr
        go_wp2_with fail
        refine ⟨KBX.out, ?_⟩
        refine wpSegsB_quiet rfl ?_
        simp only [List.filterMap_cons, List.filterMap_nil, List.getElem?_toArray, List.getElem?_cons_succ, List.getElem?_cons_zero]
        show wpQuiet _ _ _ _ [_, _, _, _, _] _
        repeat (go_big_quiet_step (fail))
        refine wpQuiet_nil ?_
        refine wpSegsB_done ?_
        clear KBX
        go_wp2_with fail
        have c0 : ∀ g : GrB w.heap.size w4.drew, g.w.cell? ⟨b, off + k * 2, none⟩ = some (.int .u16 (kd : Int)) := GrB.cell ((gtrans R4.out.gr (gdrew (grefl w4 none))).cell C0.out (by simp)) d0
        have c1 : ∀ g : GrB w.heap.size w4.drew, g.w.cell? ⟨b, off + k * 2 + 1, none⟩ = some (.string da) := GrB.cell ((gtrans R4.out.gr (gdrew (grefl w4 none))).cell C1.out (by simp)) d0
        refine wp_region_segsB w.heap.size [(true, [0, 1, 2, 3, 4, 5, 6, 7, 8, 9, 10, 11]), (false, [12]), (true, [13, 14, 15, 16, 17])] (by kernel_rfl) (by kernel_rfl) ?_
        refine wpSegsB_quiet rfl ?_
        simp only [List.filterMap_cons, List.filterMap_nil, List.getElem?_toArray, List.getElem?_cons_succ, List.getElem?_cons_zero]
        show wpQuiet _ _ _ _ [_, _, _, _, _, _, _, _, _, _, _, _] _
        repeat (go_big_quiet_step (fail))
        refine wpQuiet_nil ?_
        clear c0 c1
        have R5 := Lib.hid (R4.out.quiet (gdrew (grefl w4 none)))
        have B5 := Lib.hid (B4.out.kept0 (gdrew (grefl w4 none)))
        have C5 := Lib.hid (C4.out.kept0 (gdrew (grefl w4 none)))
        clear R4 B4 C4
        generalize w4.drew = w5 at *
        refine wpSegsB_one (by simp only [List.getElem?_toArray, List.getElem?_cons_succ, List.getElem?_cons_zero]; exact rfl) ?_
        go_wp2_with fail
        obtain ⟨vt, hrt⟩ := R5.out.ref
        have HRT := Lib.hid hrt
        clear hrt
        refine (rwrite_yes HRT.out R5.out.low (by omega) hT9 (by omega) HW.out HR.out).mono ?_
        rintro e w6 ⟨rfl, vt6, hrt6, hg6⟩
        have R7 := Lib.hid (show Ww w tb rb r.2 r.2 (.slice A4 r.1.length c4) r.1 (k + 1) (ptSum (l.take (k + 1))) w6 from ⟨gstepb R5.out.gr hg6 R5.out.lr, by obtain ⟨m5, ht5, hm5⟩ := R5.out.tab; exact ⟨m5, tab_keptB ht5 HRT.out hg6, hm5⟩, ⟨vt6, hrt6⟩, HLow.out, R5.out.lb, R5.out.lr, C5.out.keptR HRT.out hg6, by omega, by rw [HS1.out]; omega⟩)
        have B6 := Lib.hid (B5.out.keptR HRT.out hg6)
        have D6 := Lib.hid (R5.out.bs.keptR HRT.out hg6)
        have KBX := Lib.hid (kb_row (B := w.heap.size) hg6 R5.out.gr.size R5.out.lr)
        clear hrt6 hg6 R5 B5 C5 HRT HR
        go_wp2_with fail
        refine ⟨KBX.out, ?_⟩
        refine wpSegsB_quiet rfl ?_
        simp only [List.filterMap_cons, List.filterMap_nil, List.getElem?_toArray, List.getElem?_cons_succ, List.getElem?_cons_zero]
        show wpQuiet _ _ _ _ [_, _, _, _, _] _
        repeat (go_big_quiet_step (fail))
        refine wpQuiet_nil ?_
        refine wpSegsB_done ?_
        clear KBX
        have cv1 := cvs B6.out.1
        have cv2 := cvs D6.out.1
        have cv3 := cvs R7.out.bs.1
        rw [← mk_append_list] at cv1
        have hOs : (⟨bl.toArray⟩ : ByteArray).size ≤ 20000 := by rw [size_mk]; omega
        rw [show (⟨behS.data.toList.toArray⟩ : ByteArray) = ⟨#[98, 101, 104, 105, 110, 100]⟩ from rfl] at cv1
        clear B6 D6
        generalize hO : (⟨bl.toArray⟩ : ByteArray) = O at *
        generalize hO2 : (⟨r.1.toArray⟩ : ByteArray) = O2 at *
        go_wp2_with fail
        go_roundw
        case rel => exact ⟨k + 1, r.2, r.1, by omega, by go_num, by rw [hO2], R7.out⟩
        case measure => simp [intOf]; omega
    · have q0 : decide ((k : Int) < (l.length : Int)) = false := by simp; omega
      have G9 := Lib.hid R0.out.gr
      generalize (⟨bl.toArray⟩ : ByteArray) = O at *
      go_wp2_with fail
      refine Calls.mono (awake05 wr (HE.out.kept G9.out (by simp))) ?_
      rintro e w9 ⟨rfl, hg⟩
      have G10 := Lib.hid (gtrans G9.out hg)
      clear hg
      go_wp2_with fail
      go_ret
      exact ⟨rfl, G10.out⟩

set_option maxRecDepth 100000 in
set_option maxHeartbeats 1000000 in
theorem writes5_walk (ahead : ByteArray) (v : Value) (l : List Pt) (w : World) (he : Et w) (h : Pts w v l) (hl : l.length ≤ maxLen) (hs : ∀ x ∈ l, x.data.size ≤ maxLen) : Calls Tryd.prog 4 #[.string ahead, v] w fun e w' => e = .returned (.bool true) ∧ w.grownBy w' none := by
  by_cases ha : 3000 < ahead.size
  · have hb0 : decide ((3000 : Int) < (ahead.size : Int)) = true := by simp; omega
    go_enter Tryd.func4, Tryd.ntmps4
    go_wp2_with fail
    refine Calls.mono (awake05 w he) ?_
    rintro e w1 ⟨rfl, hg⟩
    go_wp2_with fail
    go_ret
    exact ⟨rfl, hg⟩
  by_cases h8 : ptSum l < 4000
  · exact writes5_small ahead v l w he h hl hs (by omega) h8
  · have hb0 : decide ((3000 : Int) < (ahead.size : Int)) = false := by simp; omega
    have HL := Lib.hid (long5_any v l w h hl hs)
    have hd : decide (4000 ≤ ptSum l) = true := by simp; omega
    rw [hd] at HL
    clear hd h8
    go_enter Tryd.func4, Tryd.ntmps4
    go_wp2_with fail
    refine Calls.mono HL.out ?_
    rintro e w1 ⟨rfl, rfl⟩
    go_wp2_with fail
    refine Calls.mono (awake05 w he) ?_
    rintro e w1 ⟨rfl, hg⟩
    go_wp2_with fail
    go_ret
    exact ⟨rfl, hg⟩
end Go.Proofs.YtijjfdmklbncbaaDoor
