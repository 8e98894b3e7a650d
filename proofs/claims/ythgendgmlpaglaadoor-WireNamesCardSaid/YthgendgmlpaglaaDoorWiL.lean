/-
  Wire: write.
-/
import Derived.Test.YthgendgmlpaglaaDoorA16
namespace Go.Proofs.YthgendgmlpaglaaDoor
open Go.RowKit

set_option maxRecDepth 100000 in
set_option maxHeartbeats 8000000 in
theorem wwrite_any (w : World) (m : Ms) (vq va vu vx vo : Value) (he : Et w) (hb : Bt w) (hv : MsV w m vq va vu vx vo) (hr : m.rng) :
    Calls Tryd.prog 20 #[m.val vq va vu vx vo] w (WPost m w) := by
  have HV := Lib.hid hv
  have HE := Lib.hid he
  have HB := Lib.hid hb
  have HR := Lib.hid hr
  obtain ⟨Aq, cq, rfl⟩ := hv.q.form
  obtain ⟨Aa, ca, rfl⟩ := hv.a.form
  obtain ⟨Au, cu, rfl⟩ := hv.u.form
  obtain ⟨Ax, cx, rfl⟩ := hv.x.form
  obtain ⟨Ao, co, rfl⟩ := hv.o.form
  have MY := Lib.hid (fun (w' : World) (g : w.grownBy w' none) => wmay_any w' m _ _ _ _ _ (he.kept g (by simp)) (hb.kept g (by simp)) (hv.kept g) hr.few)
  have CN := Lib.hid (fun (w' : World) (g : w.grownBy w' none) => counts_any w' m _ _ _ _ (.slice Ao m.ops.length co) (hv.q.kept g) (hv.a.kept g) (hv.u.kept g) (hv.x.kept g) hr.xl)
  have HW := Lib.hid (fun (w' : World) (g : w.grownBy w' none) => write_any m.h m.qs.length m.an.length m.au.length m.xn w' (hb.kept g (by simp)) hr.id)
  clear he hb hv hr
  unfold Ms.val at MY CN ⊢
  unfold Hd.v at HW
  have GA := Lib.hid (galloc (grefl w none) (.cells #[.int .u16 m.h.id, .bool m.h.qr, .int .u8 m.h.op, .bool m.h.aa, .bool m.h.tc, .bool m.h.rd, .bool m.h.ra, .bool m.h.z, .bool m.h.ad, .bool m.h.cd, .int .u8 m.h.code, .slice Aq m.qs.length cq, .slice Aa m.an.length ca, .slice Au m.au.length cu, .slice Ax m.ex.length cx, .bool m.has, .int .u16 m.sz, .int .u8 m.e, .int .u8 m.v, .int .u16 m.f, .slice Ao m.ops.length co] 37))
  have BA := Lib.hid (balloc w (.cells #[.int .u16 m.h.id, .bool m.h.qr, .int .u8 m.h.op, .bool m.h.aa, .bool m.h.tc, .bool m.h.rd, .bool m.h.ra, .bool m.h.z, .bool m.h.ad, .bool m.h.cd, .int .u8 m.h.code, .slice Aq m.qs.length cq, .slice Aa m.an.length ca, .slice Au m.au.length cu, .slice Ax m.ex.length cx, .bool m.has, .int .u16 m.sz, .int .u8 m.e, .int .u8 m.v, .int .u16 m.f, .slice Ao m.ops.length co] 37))
  go_enter Tryd.func20, Tryd.ntmps20
  go_wp2_with (refine wpList_load_row rfl 37 _ rfl w.heap.size rfl _ _ _ _ (balloc w _) Tryd.underlying37 rfl (by kernel_rfl) ?_)
  refine Calls.mono (MY.out _ GA.out) ?_
  rintro e1 w1 ⟨rfl, hg1⟩
  have G1 := Lib.hid (gtrans GA.out hg1)
  have B1 := Lib.hid (gblock hg1 BA.out (by simp))
  clear hg1 GA BA MY
  rcases hm : m.may with _ | _
  · have HM := Lib.hid hm
    clear hm
    go_wp2_with fail
    refine Calls.mono (must_no 3 (by decide) w1) ?_
    rintro e2 w2 ⟨rfl, rfl⟩
    go_wp2_with fail
    have h3 : m.wE = 3 := by unfold Ms.wE; rw [if_pos HM.out]
    refine ⟨rfl, G1.out, ?_⟩
    rw [if_neg (by omega), h3]
    rfl
  have YS := Lib.hid (Ms.may_yes.1 hm)
  have HM := Lib.hid hm
  clear hm
  go_wp2_with fail
  have c0 := Gr.cell (bcellAt B1.out 0)
  have c1 := Gr.cell (bcellAt B1.out 1)
  have c2 := Gr.cell (bcellAt B1.out 2)
  have c3 := Gr.cell (bcellAt B1.out 3)
  have c4 := Gr.cell (bcellAt B1.out 4)
  have c5 := Gr.cell (bcellAt B1.out 5)
  have c6 := Gr.cell (bcellAt B1.out 6)
  have c7 := Gr.cell (bcellAt B1.out 7)
  have c8 := Gr.cell (bcellAt B1.out 8)
  have c9 := Gr.cell (bcellAt B1.out 9)
  have c10 := Gr.cell (bcellAt B1.out 10)
  have CN1 := Lib.hid (fun g : Gr w1 => Calls.gr (CN.out g.w (gtrans G1.out g.h)))
  have HW1 := Lib.hid (fun g : Gr w1 => Calls.gr (HW.out g.w (gtrans G1.out g.h)))
  have R1 := Lib.hid (fun (u : World) (h : ∃ g : Gr w1, u = g.w) => (show u.heap[w.heap.size]? = some (.cells #[.int .u16 m.h.id, .bool m.h.qr, .int .u8 m.h.op, .bool m.h.aa, .bool m.h.tc, .bool m.h.rd, .bool m.h.ra, .bool m.h.z, .bool m.h.ad, .bool m.h.cd, .int .u8 m.h.code, .slice Aq m.qs.length cq, .slice Aa m.an.length ca, .slice Au m.au.length cu, .slice Ax m.ex.length cx, .bool m.has, .int .u16 m.sz, .int .u8 m.e, .int .u8 m.v, .int .u16 m.f, .slice Ao m.ops.length co] 37 (0, 0)) from h.elim fun g hg => hg ▸ gblock g.h B1.out (by simp)))
  clear CN HW
  refine wp_region_noPanic ?_
  refine wp_region_gr (by kernel_rfl) (by kernel_rfl) ?_
  repeat (go_big_quiet_step (fail))
  refine wpQuiet_load_row rfl 37 _ rfl w.heap.size rfl _ _ _ _ R1.out Tryd.underlying37 rfl (by kernel_rfl) ?_
  simp only [Act.put, List.setIfInBounds_toArray, List.set_cons_succ, List.set_cons_zero]
  repeat (go_big_quiet_step ((first | (go_at_call 32; with_reducible exact CN1.out _) | (go_at_call 35; with_reducible exact HW1.out _))))
  refine wpQuiet_nil ?_
  rintro w2 ⟨gq, hgq⟩
  have g2 : w1.grownBy w2 none := hgq ▸ gq.h
  refine NoPanic.normal ?_
  have OW := Lib.hid (show okW m.h m.qs.length m.an.length m.au.length m.xn from ⟨YS.out.h, ⟨by omega, by have := YS.out.ql; omega⟩, ⟨by omega, by have := YS.out.al; omega⟩, ⟨by omega, by have := YS.out.ul; omega⟩, ⟨by omega, by have := YS.out.xl; omega⟩⟩)
  unfold wrS wrE
  rw [if_pos OW.out, if_pos OW.out]
  have G2 := Lib.hid (gtrans G1.out g2)
  have B2 := Lib.hid (gblock g2 B1.out (by simp))
  clear g2 gq hgq G1 B1 CN1 HW1 R1 OW c0 c1 c2 c3 c4 c5 c6 c7 c8 c9 c10
  obtain ⟨S, hS⟩ : ∃ S : ByteArray, S = ⟨(wrL m.h m.qs.length m.an.length m.au.length m.xn).toArray⟩ := ⟨_, rfl⟩
  rw [← hS]
  have SL := Lib.hid (show S.data.toList = m.s0.1 from by rw [hS]; rfl)
  have SZ := Lib.hid (show S.size = 12 from by rw [hS]; exact wrL_len _ _ _ _ _)
  clear hS
  go_wp2_with fail
  refine Calls.mono (must_ok w2) ?_
  rintro e3 w3 ⟨rfl, rfl⟩
  have hcv := Lib.run_convert_string_bytes (P := Tryd.prog) w2 9 26 5 S Tryd.underlying9 Tryd.underlying26 Tryd.underlying5
  have OC := Lib.hid (OwnM.conv w2 S (by have := SZ.out; omega))
  have gc := conv_grown w2 5 S
  rw [SZ.out] at hcv OC
  generalize Lib.bytesWorld w2 5 S = w3 at *
  generalize grownCap w2 12 0 5 = cap at *
  have G3 := Lib.hid (gtrans G2.out gc)
  have B3 := Lib.hid (gblock gc B2.out (by simp))
  have HB2 := Lib.hid (G2.out.size)
  clear G2 B2 gc
  go_wp2_with fail
  refine Calls.mono (tnew_any w3) ?_
  rintro e4 w4 ⟨tb, rfl, htb, ht, hg4⟩
  have G4 := Lib.hid (gtrans G3.out hg4)
  have B4 := Lib.hid (gblock hg4 B3.out (by simp))
  rw [SL.out] at OC
  have W5 := Lib.hid (show WS (w4.alloc (.cells #[.slice (some ⟨w2.heap.size, 0, none⟩) 12 cap, .pointer (some ⟨tb, 0, none⟩)] 87)) w.heap.size w4.heap.size tb m.s0 from by
    have ga := galloc (grefl w4 none) (.cells #[.slice (some ⟨w2.heap.size, 0, none⟩) 12 cap, .pointer (some ⟨tb, 0, none⟩)] 87)
    refine ⟨⟨none, _, balloc w4 _, ((OC.out.base HB2.out).kept0 hg4).kept0 ga, ht.kept ga (by simp) (.inl rfl), G4.out.size, Nat.le_trans G3.out.size htb, fun k hk => by cases hk⟩, by rw [Ms.s0_len]; omega, by rw [Ms.s0_len]; show 0 ≤ 12; omega⟩)
  have ga := galloc (grefl w4 none) (.cells #[.slice (some ⟨w2.heap.size, 0, none⟩) 12 cap, .pointer (some ⟨tb, 0, none⟩)] 87)
  have G5 := Lib.hid (gtrans G4.out ga)
  have B5 := Lib.hid (gblock ga B4.out (by simp))
  clear ga hg4 ht htb G4 B4 G3 B3 OC HB2 hcv SL SZ
  have c11 : (w4.alloc (.cells #[.slice (some ⟨w2.heap.size, 0, none⟩) 12 cap, .pointer (some ⟨tb, 0, none⟩)] 87)).cell? ⟨w.heap.size, 11, none⟩ = some (.slice Aq m.qs.length cq) := bcellAt B5.out 11
  go_wp2_with fail
  clear c11
  generalize w4.alloc (.cells #[.slice (some ⟨w2.heap.size, 0, none⟩) 12 cap, .pointer (some ⟨tb, 0, none⟩)] 87) = w5 at *
  generalize w4.heap.size = b at *
  have Q5 := Lib.hid YS.out.q
  go_loopw [33] (fun vi wr => ∃ i : Nat, vi = .int .i64 i ∧ i ≤ m.qs.length ∧ WS wr w.heap.size b tb (qsF m.s0 (m.qs.take i)) ∧ KW w.heap.size w5 wr) (fun vi _ => m.qs.length - (intOf vi).toNat)
  case atStart => exact ⟨0, rfl, by omega, W5.out, KT.refl _ _ _⟩
  case round =>
    obtain ⟨i, rfl, hil, hws, hkw⟩ := hrel
    have W0 := Lib.hid hws
    have K0 := Lib.hid hkw
    have GR := Lib.hid (KB.gr G5.out hkw.kb (Nat.le_refl _))
    have BR := Lib.hid (Nat.le_trans G5.out.size hkw.kb.size)
    have MR := Lib.hid (hkw.blk B5.out npM)
    clear hws hkw W5
    by_cases hlt : i < m.qs.length
    · obtain ⟨bl, off, rfl, l0, l1, l2⟩ := (HV.out.q.kept GR.out).at hlt
      have q0 : (0 : Int) ≤ (i : Int) := by omega
      have q1 : (i : Int) < (m.qs.length : Int) := by omega
      have q2 := YS.out.ql
      have HX := Lib.hid (qsF_snoc m.s0 m.qs i hlt)
      have HL := Lib.hid (show (qsF m.s0 (m.qs.take (i + 1))).1.length ≤ m.s5.1.length from Nat.le_trans (qsF_take m.s0 m.qs (i + 1)).len (((m.le12.trans m.le23).trans m.le34).trans m.le45).len)
      have hok := List.all_eq_true.1 Q5.out m.qs[i] (List.getElem_mem hlt)
      have hrn := HR.out.q m.qs[i] (List.getElem_mem hlt)
      generalize m.qs[i] = q at *
      have OK := Lib.hid (show may q.name = true from hok)
      have RN := Lib.hid hrn
      clear hok hrn
      rw [HX.out] at HL
      generalize qsF m.s0 (m.qs.take i) = s0 at *
      go_wp2_with fail
      have WA := Lib.hid (W0.out.kept (galloc (grefl wr none) (.cells #[.string q.name, .int .u16 q.kind, .int .u16 q.cls] 42)))
      have KA := Lib.hid (K0.out.trans (KT.of (galloc (grefl wr none) (.cells #[.string q.name, .int .u16 q.kind, .int .u16 q.cls] 42)) BR.out))
      have CA := Lib.hid (balloc wr (.cells #[.string q.name, .int .u16 q.kind, .int .u16 q.cls] 42))
      have BA := Lib.hid (Nat.le_trans G5.out.size KA.out.kb.size)
      refine Calls.mono (name_any _ w.heap.size b tb s0 q.name WA.out BA.out OK.out) ?_
      rintro e w1 h1
      have F1 := Lib.hid (adF_le (enc 2 q.kind ++ enc 2 q.cls) (nmF q.name s0)).len
      by_cases hs1 : (nmF q.name s0).1.length ≤ 65535
      case neg =>
        obtain rfl := h1.no (by omega)
        have K1 := Lib.hid (KA.out.trans h1.1)
        have L1 := Lib.hid (show 65535 < m.s5.1.length from by have := HL.out; have := F1.out; unfold qF at *; omega)
        clear h1 hs1
        go_wp2_with fail
        exact ⟨rfl, wbad HM.out (.inr L1.out) (KB.gr G5.out K1.out.kb (Nat.le_refl _))⟩
      obtain ⟨rfl, hw1⟩ := h1.ok hs1
      have W1 := Lib.hid hw1
      have K1 := Lib.hid (KA.out.trans h1.1)
      have C1 := Lib.hid (h1.1.blk CA.out npQ)
      have B1 := Lib.hid (Nat.le_trans G5.out.size K1.out.kb.size)
      clear h1 hw1 hs1 WA KA CA BA l0 l1 l2
      have d1 : ∀ g : GrR (KT pW w.heap.size) w1.drew, g.w.cell? ⟨wr.heap.size, 1, none⟩ = some (.int .u16 q.kind) := fun g => bcellAt (g.h.blk C1.out npQ) 1
      have d2 : ∀ g : GrR (KT pW w.heap.size) w1.drew, g.w.cell? ⟨wr.heap.size, 2, none⟩ = some (.int .u16 q.cls) := fun g => bcellAt (g.h.blk C1.out npQ) 2
      go_wp2_with fail
      refine wp_region_segsP (KT.rt pW w.heap.size) [(true, [0, 1, 3, 4]), (false, [2]), (false, [5]), (false, [6])] (by kernel_rfl) (by kernel_rfl) ?_ ?_
      · intro c a d v w h
        cases d <;> exact h
      refine wpSegsR_quiet rfl ?_
      simp only [List.filterMap_cons, List.filterMap_nil, List.getElem?_toArray, List.getElem?_cons_succ, List.getElem?_cons_zero]
      show wpQuiet _ _ _ _ [_, _, _, _] _
      repeat (go_big_quiet_step (fail))
      refine wpQuiet_nil ?_
      have W2 := Lib.hid (W1.out.kept (gdrew (grefl w1 none)))
      have K2 := Lib.hid (K1.out.trans (KT.of (gdrew (grefl w1 none)) B1.out))
      clear d1 d2 W1 K1 C1
      generalize w1.drew = w2 at *
      have B2 := Lib.hid (Nat.le_trans G5.out.size K2.out.kb.size)
      clear B1
      refine wpSegsR_one (by simp only [List.getElem?_toArray, List.getElem?_cons_succ, List.getElem?_cons_zero]; exact rfl) ?_
      go_wp2_with fail
      refine Calls.mono (put2_x w2 _ [] q.kind RN.out.kind (Own.nil _ 0).sl (by simp)) ?_
      rintro e w3 ⟨v3, rfl, hs3, hg3⟩
      have S3 := Lib.hid (show SlB w3 v3 (enc 2 q.kind) from hs3)
      have W3 := Lib.hid (W2.out.kept hg3)
      have T3 := Lib.hid (show KT pW w.heap.size w2 w3 from KT.of hg3 B2.out)
      have K3 := Lib.hid (K2.out.trans T3.out)
      clear W2 K2 hg3 hs3
      go_wp2_with fail
      refine ⟨T3.out, ?_⟩
      clear T3
      have B3 := Lib.hid (Nat.le_trans G5.out.size K3.out.kb.size)
      refine wpSegsR_one (by simp only [List.getElem?_toArray, List.getElem?_cons_succ, List.getElem?_cons_zero]; exact rfl) ?_
      go_wp2_with fail
      refine Calls.mono (put2_x w3 _ (enc 2 q.kind) q.cls RN.out.cls S3.out (by rw [enc_len]; decide)) ?_
      rintro e w4 ⟨v4, rfl, hs4, hg4⟩
      have S4 := Lib.hid hs4
      have W4 := Lib.hid (W3.out.kept hg4)
      have T4 := Lib.hid (show KT pW w.heap.size w3 w4 from KT.of hg4 B3.out)
      have K4 := Lib.hid (K3.out.trans T4.out)
      clear W3 K3 hg4 hs4 S3
      go_wp2_with fail
      refine ⟨T4.out, ?_⟩
      clear T4
      have B4 := Lib.hid (Nat.le_trans G5.out.size K4.out.kb.size)
      refine wpSegsR_one (by simp only [List.getElem?_toArray, List.getElem?_cons_succ, List.getElem?_cons_zero]; exact rfl) ?_
      go_wp2_with fail
      refine Calls.mono (add_any w4 w.heap.size b tb _ _ _ W4.out B4.out S4.out) ?_
      rintro e w6 h6
      rw [show adF (enc 2 q.kind ++ enc 2 q.cls) (nmF q.name s0) = qF s0 q from rfl] at h6
      by_cases hs6 : (qF s0 q).1.length ≤ 65535
      case neg =>
        obtain rfl := h6.no (by omega)
        have K6 := Lib.hid (K4.out.trans h6.1)
        have L6 := Lib.hid (show 65535 < m.s5.1.length from by have := HL.out; omega)
        clear h6 hs6
        go_wp2_with fail
        exact ⟨rfl, wbad HM.out (.inr L6.out) (KB.gr G5.out K6.out.kb (Nat.le_refl _))⟩
      obtain ⟨rfl, hw6⟩ := h6.ok hs6
      have W6 := Lib.hid hw6
      have T6 := Lib.hid h6.1
      have K6 := Lib.hid (K4.out.trans h6.1)
      clear h6 hw6 hs6 W4 K4
      go_wp2_with fail
      refine ⟨T6.out, ?_⟩
      refine wpSegsR_end ?_
      go_wp2_with fail
      go_roundw
      case rel => exact ⟨i + 1, by go_num, by omega, by rw [HX.out]; exact W6.out, K6.out⟩
      case measure => simp [intOf]; omega
    · have k0 : decide ((i : Int) < (m.qs.length : Int)) = false := by simp; omega
      have c12 := bcellAt MR.out 12
      rw [List.take_of_length_le (by omega), show qsF m.s0 m.qs = m.s1 from rfl] at W0
      go_wp2_with fail
      clear c12
      refine Calls.mono (records_any w _ b tb m.s1 _ m.an GR.out HE.out HV.out.a (rcs_ok HR.out.a YS.out.a) YS.out.al W0.out) ?_
      rintro e r6 h6
      rw [show rsF m.s1 m.an = m.s2 from rfl] at h6
      by_cases hs6 : m.s2.1.length ≤ 65535
      case neg =>
        obtain rfl := h6.no (by omega)
        have K1 := Lib.hid (K0.out.trans h6.1)
        have L1 := Lib.hid (show 65535 < m.s5.1.length from by have := ((m.le23.trans m.le34).trans m.le45).len; omega)
        clear h6 hs6
        go_wp2_with fail
        exact ⟨rfl, wbad HM.out (.inr L1.out) (KB.gr G5.out K1.out.kb (Nat.le_refl _))⟩
      obtain ⟨rfl, hw6⟩ := h6.ok hs6
      have K6 := Lib.hid (K0.out.trans h6.1)
      have W6 := Lib.hid hw6
      clear h6 hs6 hw6 GR BR MR W0 K0
      have GR := Lib.hid (KB.gr G5.out K6.out.kb (Nat.le_refl _))
      have BR := Lib.hid (Nat.le_trans G5.out.size K6.out.kb.size)
      have MR := Lib.hid (K6.out.blk B5.out npM)
      have W0 := W6
      have K0 := K6
      clear W6 K6
      have c13 := bcellAt MR.out 13
      go_wp2_with fail
      clear c13
      refine Calls.mono (records_any w _ b tb m.s2 _ m.au GR.out HE.out HV.out.u (rcs_ok HR.out.u YS.out.u) YS.out.ul W0.out) ?_
      rintro e r7 h7
      rw [show rsF m.s2 m.au = m.s3 from rfl] at h7
      by_cases hs7 : m.s3.1.length ≤ 65535
      case neg =>
        obtain rfl := h7.no (by omega)
        have K1 := Lib.hid (K0.out.trans h7.1)
        have L1 := Lib.hid (show 65535 < m.s5.1.length from by have := (m.le34.trans m.le45).len; omega)
        clear h7 hs7
        go_wp2_with fail
        exact ⟨rfl, wbad HM.out (.inr L1.out) (KB.gr G5.out K1.out.kb (Nat.le_refl _))⟩
      obtain ⟨rfl, hw7⟩ := h7.ok hs7
      have K7 := Lib.hid (K0.out.trans h7.1)
      have W7 := Lib.hid hw7
      clear h7 hs7 hw7 GR BR MR W0 K0
      have GR := Lib.hid (KB.gr G5.out K7.out.kb (Nat.le_refl _))
      have BR := Lib.hid (Nat.le_trans G5.out.size K7.out.kb.size)
      have MR := Lib.hid (K7.out.blk B5.out npM)
      have W0 := W7
      have K0 := K7
      clear W7 K7
      have c14 := bcellAt MR.out 14
      go_wp2_with fail
      clear c14
      refine Calls.mono (records_any w _ b tb m.s3 _ m.ex GR.out HE.out HV.out.x (rcs_ok HR.out.x YS.out.x) (by have := YS.out.xl; unfold Ms.xn at this; omega) W0.out) ?_
      rintro e r8 h8
      rw [show rsF m.s3 m.ex = m.s4 from rfl] at h8
      by_cases hs8 : m.s4.1.length ≤ 65535
      case neg =>
        obtain rfl := h8.no (by omega)
        have K1 := Lib.hid (K0.out.trans h8.1)
        have L1 := Lib.hid (show 65535 < m.s5.1.length from by have := (m.le45).len; omega)
        clear h8 hs8
        go_wp2_with fail
        exact ⟨rfl, wbad HM.out (.inr L1.out) (KB.gr G5.out K1.out.kb (Nat.le_refl _))⟩
      obtain ⟨rfl, hw8⟩ := h8.ok hs8
      have K8 := Lib.hid (K0.out.trans h8.1)
      have W8 := Lib.hid hw8
      clear h8 hs8 hw8 GR BR MR W0 K0
      have GR := Lib.hid (KB.gr G5.out K8.out.kb (Nat.le_refl _))
      have BR := Lib.hid (Nat.le_trans G5.out.size K8.out.kb.size)
      have MR := Lib.hid (K8.out.blk B5.out npM)
      have W0 := W8
      have K0 := K8
      clear W8 K8
      have c15 : r8.cell? ⟨w.heap.size, 15, none⟩ = some (.bool m.has) := bcellAt MR.out 15
      rcases hh : m.has with _ | _
      · have S5 := Lib.hid (show m.s5 = m.s4 from by unfold Ms.s5; rw [hh]; rfl)
        have HH := Lib.hid hh
        rw [hh] at c15
        obtain ⟨⟨mm, vv, hwr⟩, hbb, _⟩ := W0.out
        have cb : r8.cell? ⟨b, 0, none⟩ = some vv := bcellAt hwr.cell 0
        have SV := Lib.hid hwr.own.sl
        have LB := Lib.hid hbb
        clear hwr hbb
        go_wp2_with fail
        go_ret
        exact wgood HM.out (by rw [HH.out]; intro h; cases h) (by rw [S5.out]; exact LB.out) GR.out (by rw [S5.out]; exact SV.out)
      have S5 := Lib.hid (show m.s5 = opF m.sz (ttlN m.e m.v m.f) (opsB m.ops) m.s4 from by unfold Ms.s5; rw [hh]; rfl)
      have HH := Lib.hid hh
      rw [hh] at c15
      have c16 : r8.cell? ⟨w.heap.size, 16, none⟩ = some (.int .u16 m.sz) := bcellAt MR.out 16
      have c17 : r8.cell? ⟨w.heap.size, 17, none⟩ = some (.int .u8 m.e) := bcellAt MR.out 17
      have c18 : r8.cell? ⟨w.heap.size, 18, none⟩ = some (.int .u8 m.v) := bcellAt MR.out 18
      have c19 : r8.cell? ⟨w.heap.size, 19, none⟩ = some (.int .u16 m.f) := bcellAt MR.out 19
      have c20 : r8.cell? ⟨w.heap.size, 20, none⟩ = some (.slice Ao m.ops.length co) := bcellAt MR.out 20
      go_wp2_with fail
      clear c15 c16 c17 c18 c19 c20
      refine Calls.mono (ewrite_any m.sz m.e m.v m.f Ao co m.ops r8 HR.out.e HR.out.v HR.out.f (HV.out.o.kept GR.out) (by have := HR.out.ol; unfold maxLen; omega) HR.out.o) ?_
      rintro e r9 ⟨rfl, hg9⟩
      have K9 := Lib.hid (K0.out.trans (KT.of hg9 BR.out))
      have W9 := Lib.hid (W0.out.kept hg9)
      clear W0 K0 hg9 GR BR MR
      have W0 := W9
      have K0 := K9
      clear W9 K9
      have BR := Lib.hid (Nat.le_trans G5.out.size K0.out.kb.size)
      unfold ewR
      by_cases ho : okO m.ops
      case neg =>
        rw [if_neg ho]
        have HO := Lib.hid ho
        clear ho
        go_wp2_with fail
        refine Calls.mono (must_no 5 (by decide) r9) ?_
        rintro e ra ⟨rfl, rfl⟩
        go_wp2_with fail
        exact ⟨rfl, wbad HM.out (.inl ⟨HH.out, HO.out⟩) (KB.gr G5.out K0.out.kb (Nat.le_refl _))⟩
      rw [if_pos ho]
      have HO := Lib.hid ho
      clear ho
      obtain ⟨D, hD⟩ : ∃ D : ByteArray, D = ⟨(opsB m.ops).toArray⟩ := ⟨_, rfl⟩
      rw [← hD]
      have DL := Lib.hid (show D.data.toList = opsB m.ops from by rw [hD])
      have DZ := Lib.hid (show D.size = (opsB m.ops).length from by rw [hD]; rfl)
      have DM := Lib.hid (show D.size ≤ 65535 from by rw [hD]; exact HO.out)
      have TT := Lib.hid (show ttlN m.e m.v m.f < 4294967296 from by have := HR.out.e; have := HR.out.v; have := HR.out.f; unfold ttlN; omega)
      clear hD
      generalize ttlN m.e m.v m.f = ttl at *
      go_wp2_with fail
      refine Calls.mono (must_ok r9) ?_
      rintro e ra ⟨rfl, rfl⟩
      go_wp2_with fail
      refine Calls.mono (name_any _ w.heap.size b tb m.s4 root0 W0.out BR.out (by decide +kernel)) ?_
      rintro e r10 h10
      rw [show nmF root0 m.s4 = nmF root0 m.s4 from rfl] at h10
      by_cases hs10 : (nmF root0 m.s4).1.length ≤ 65535
      case neg =>
        obtain rfl := h10.no (by omega)
        have K1 := Lib.hid (K0.out.trans h10.1)
        have L1 := Lib.hid (show 65535 < m.s5.1.length from by
          rw [S5.out]
          unfold opF
          have := ((((adF_le (fx 41 m.sz ttl) (nmF root0 m.s4)).trans (adF_le (enc 2 (opsB m.ops).length) _)).trans (adF_le (opsB m.ops) _)).len)
          omega)
        clear h10 hs10
        go_wp2_with fail
        exact ⟨rfl, wbad HM.out (.inr L1.out) (KB.gr G5.out K1.out.kb (Nat.le_refl _))⟩
      obtain ⟨rfl, hw10⟩ := h10.ok hs10
      have K10 := Lib.hid (K0.out.trans h10.1)
      have W10 := Lib.hid hw10
      clear h10 hs10 hw10 BR W0 K0
      have BR := Lib.hid (Nat.le_trans G5.out.size K10.out.kb.size)
      have W0 := W10
      have K0 := K10
      clear W10 K10
      go_wp2_with fail
      refine Calls.mono (fixed_any r10 w.heap.size b tb _ 41 m.sz ttl W0.out BR.out (by decide) HR.out.sz TT.out) ?_
      rintro e r11 h11
      rw [show adF (fx 41 m.sz ttl) (nmF root0 m.s4) = adF (fx 41 m.sz ttl) (nmF root0 m.s4) from rfl] at h11
      by_cases hs11 : (adF (fx 41 m.sz ttl) (nmF root0 m.s4)).1.length ≤ 65535
      case neg =>
        obtain rfl := h11.no (by omega)
        have K1 := Lib.hid (K0.out.trans h11.1)
        have L1 := Lib.hid (show 65535 < m.s5.1.length from by
          rw [S5.out]
          unfold opF
          have := (((adF_le (enc 2 (opsB m.ops).length) (adF (fx 41 m.sz ttl) (nmF root0 m.s4))).trans (adF_le (opsB m.ops) _)).len)
          omega)
        clear h11 hs11
        go_wp2_with fail
        exact ⟨rfl, wbad HM.out (.inr L1.out) (KB.gr G5.out K1.out.kb (Nat.le_refl _))⟩
      obtain ⟨rfl, hw11⟩ := h11.ok hs11
      have K11 := Lib.hid (K0.out.trans h11.1)
      have W11 := Lib.hid hw11
      clear h11 hs11 hw11 BR W0 K0
      have BR := Lib.hid (Nat.le_trans G5.out.size K11.out.kb.size)
      have W0 := W11
      have K0 := K11
      clear W11 K11
      have dz := DM.out
      go_wp2_with fail
      refine Calls.mono (put2_x r11 _ [] D.size (by have := DM.out; omega) (Own.nil _ 0).sl (by simp)) ?_
      rintro e r12 ⟨v12, rfl, hs12, hg12⟩
      have S12 := Lib.hid (show SlB r12 v12 (enc 2 (opsB m.ops).length) from by rw [← DZ.out]; exact hs12)
      have K12 := Lib.hid (K0.out.trans (KT.of hg12 BR.out))
      have W12 := Lib.hid (W0.out.kept hg12)
      clear W0 K0 hg12 BR hs12
      have W0 := W12
      have K0 := K12
      clear W12 K12
      have BR := Lib.hid (Nat.le_trans G5.out.size K0.out.kb.size)
      go_wp2_with fail
      refine Calls.mono (add_any r12 w.heap.size b tb _ _ _ W0.out BR.out S12.out) ?_
      rintro e r13 h13
      rw [show adF (enc 2 (opsB m.ops).length) (adF (fx 41 m.sz ttl) (nmF root0 m.s4)) = adF (enc 2 (opsB m.ops).length) (adF (fx 41 m.sz ttl) (nmF root0 m.s4)) from rfl] at h13
      by_cases hs13 : (adF (enc 2 (opsB m.ops).length) (adF (fx 41 m.sz ttl) (nmF root0 m.s4))).1.length ≤ 65535
      case neg =>
        obtain rfl := h13.no (by omega)
        have K1 := Lib.hid (K0.out.trans h13.1)
        have L1 := Lib.hid (show 65535 < m.s5.1.length from by
          rw [S5.out]
          unfold opF
          have := (adF_le (opsB m.ops) (adF (enc 2 (opsB m.ops).length) (adF (fx 41 m.sz ttl) (nmF root0 m.s4)))).len
          omega)
        clear h13 hs13
        go_wp2_with fail
        exact ⟨rfl, wbad HM.out (.inr L1.out) (KB.gr G5.out K1.out.kb (Nat.le_refl _))⟩
      obtain ⟨rfl, hw13⟩ := h13.ok hs13
      have K13 := Lib.hid (K0.out.trans h13.1)
      have W13 := Lib.hid hw13
      clear h13 hs13 hw13 BR W0 K0
      have BR := Lib.hid (Nat.le_trans G5.out.size K13.out.kb.size)
      have W0 := W13
      have K0 := K13
      clear W13 K13
      have hcv := Lib.run_convert_string_bytes (P := Tryd.prog) r13 9 26 5 D Tryd.underlying9 Tryd.underlying26 Tryd.underlying5
      have OC := Lib.hid (OwnM.conv r13 D (by have := DM.out; omega))
      have gc := conv_grown r13 5 D
      generalize Lib.bytesWorld r13 5 D = r14 at *
      generalize grownCap r13 D.size 0 5 = cap2 at *
      have S14 := Lib.hid (show SlB r14 _ (opsB m.ops) from by rw [← DL.out]; exact OC.out.sl)
      have K14 := Lib.hid (K0.out.trans (KT.of gc BR.out))
      have W14 := Lib.hid (W0.out.kept gc)
      clear W0 K0 gc BR OC
      have W0 := W14
      have K0 := K14
      clear W14 K14
      have BR := Lib.hid (Nat.le_trans G5.out.size K0.out.kb.size)
      go_wp2_with fail
      refine Calls.mono (add_any r14 w.heap.size b tb _ _ _ W0.out BR.out S14.out) ?_
      rintro e r15 h15
      rw [show adF (opsB m.ops) (adF (enc 2 (opsB m.ops).length) (adF (fx 41 m.sz ttl) (nmF root0 m.s4))) = opF m.sz ttl (opsB m.ops) m.s4 from rfl] at h15
      by_cases hs15 : (opF m.sz ttl (opsB m.ops) m.s4).1.length ≤ 65535
      case neg =>
        obtain rfl := h15.no (by omega)
        have K1 := Lib.hid (K0.out.trans h15.1)
        have L1 := Lib.hid (show 65535 < m.s5.1.length from by
          rw [S5.out]
          omega)
        clear h15 hs15
        go_wp2_with fail
        exact ⟨rfl, wbad HM.out (.inr L1.out) (KB.gr G5.out K1.out.kb (Nat.le_refl _))⟩
      obtain ⟨rfl, hw15⟩ := h15.ok hs15
      have K15 := Lib.hid (K0.out.trans h15.1)
      have W15 := Lib.hid hw15
      clear h15 hs15 hw15 BR W0 K0
      have BR := Lib.hid (Nat.le_trans G5.out.size K15.out.kb.size)
      have W0 := W15
      have K0 := K15
      clear W15 K15
      obtain ⟨⟨mm, vv, hwr⟩, hbb, _⟩ := W0.out
      have cb : r15.cell? ⟨b, 0, none⟩ = some vv := bcellAt hwr.cell 0
      have SV := Lib.hid hwr.own.sl
      have LB := Lib.hid hbb
      clear hwr hbb
      go_wp2_with fail
      go_ret
      exact wgood HM.out (fun _ => HO.out) (by rw [S5.out]; exact LB.out) (KB.gr G5.out K0.out.kb (Nat.le_refl _)) (by rw [S5.out]; exact SV.out)
end Go.Proofs.YthgendgmlpaglaaDoor
