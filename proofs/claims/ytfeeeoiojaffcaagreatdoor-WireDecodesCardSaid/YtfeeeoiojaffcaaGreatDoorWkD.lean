/-
  Wire: the document's May.
-/
import Derived.Test.YtfeeeoiojaffcaaGreatDoorWkB
import Derived.Deep.Cut
namespace Go.Proofs.YtfeeeoiojaffcaaGreatDoor
open Go.RowKit

set_option maxRecDepth 100000 in
set_option maxHeartbeats 8000000 in
theorem rmay7_any (w : World) (m : Ms) (vq va vu vx vo : Value) (hv : MsV w m vq va vu vx vo) (hf : m.few) (hn : ∀ q ∈ m.qs, q.name.size ≤ 1000000) (han : ∀ r ∈ m.an, r.name.size ≤ 1000000) (hun : ∀ r ∈ m.au, r.name.size ≤ 1000000) (hxn : ∀ r ∈ m.ex, r.name.size ≤ 1000000) :
    Calls Tryz.prog 16 #[m.val vq va vu vx vo] w fun e w' => e = .returned (.bool m.may) ∧ w.grownBy w' none := by
  have HV := Lib.hid hv
  have HF := Lib.hid hf
  have HN := Lib.hid hn
  have RA := Lib.hid (fun (w' : World) (g : w.grownBy w' none) => rsec_any w' va m.an (hv.a.kept g) (fun r hr => ⟨han r hr, hf.ad r hr⟩))
  have RU := Lib.hid (fun (w' : World) (g : w.grownBy w' none) => rsec_any w' vu m.au (hv.u.kept g) (fun r hr => ⟨hun r hr, hf.ud r hr⟩))
  have RX := Lib.hid (fun (w' : World) (g : w.grownBy w' none) => rsec_any w' vx m.ex (hv.x.kept g) (fun r hr => ⟨hxn r hr, hf.xd r hr⟩))
  have MAY := Lib.hid (Ms.may_doc m)
  have HHB := Lib.hid (show m.hB = (decide (15 < m.h.op) || decide (15 < m.h.code) || decide (65535 < m.qs.length) || (!m.has && !m.zero) || (m.has && decide (65534 < m.ex.length))) from rfl)
  obtain ⟨hz, hhz⟩ : ∃ hz, m.zero = hz := ⟨_, rfl⟩
  have ZZ := Lib.hid (show edB (m.sz : Int) m.e m.v m.f m.ops 0 0 0 0 [] = hz from by rw [← hhz]; unfold edB Ms.zero; simp)
  rw [hhz] at HHB
  obtain ⟨sa, hsa⟩ : ∃ b, secB m.an = b := ⟨_, rfl⟩
  obtain ⟨su, hsu⟩ : ∃ b, secB m.au = b := ⟨_, rfl⟩
  obtain ⟨sx, hsx⟩ : ∃ b, secB m.ex = b := ⟨_, rfl⟩
  rw [hsa] at RA MAY
  rw [hsu] at RU MAY
  rw [hsx] at RX MAY
  clear hhz hn han hun hxn hf hsa hsu hsx
  obtain ⟨Aq, cq, rfl⟩ := hv.q.form
  obtain ⟨Aa, ca, rfl⟩ := hv.a.form
  obtain ⟨Au, cu, rfl⟩ := hv.u.form
  obtain ⟨Ax, cx, rfl⟩ := hv.x.form
  obtain ⟨Ao, co, rfl⟩ := hv.o.form
  clear hv
  obtain ⟨h, qs, an, au, ex, has, sz, e, v, f, ops⟩ := m
  generalize Ms.may ⟨h, qs, an, au, ex, has, sz, e, v, f, ops⟩ = mv at *
  generalize Ms.hB ⟨h, qs, an, au, ex, has, sz, e, v, f, ops⟩ = hb at *
  dsimp only at MAY HHB ZZ HN RA RU RX
  unfold Ms.val
  dsimp only
  have BA := Lib.hid (balloc w (.cells #[.int .u16 h.id, .bool h.qr, .int .u8 h.op, .bool h.aa, .bool h.tc, .bool h.rd, .bool h.ra, .bool h.z, .bool h.ad, .bool h.cd, .int .u8 h.code, .slice Aq qs.length cq, .slice Aa an.length ca, .slice Au au.length cu, .slice Ax ex.length cx, .bool has, .int .u16 sz, .int .u8 e, .int .u8 v, .int .u16 f, .slice Ao ops.length co] 32))
  have GA := Lib.hid (galloc (grefl w none) (.cells #[.int .u16 h.id, .bool h.qr, .int .u8 h.op, .bool h.aa, .bool h.tc, .bool h.rd, .bool h.ra, .bool h.z, .bool h.ad, .bool h.cd, .int .u8 h.code, .slice Aq qs.length cq, .slice Aa an.length ca, .slice Au au.length cu, .slice Ax ex.length cx, .bool has, .int .u16 sz, .int .u8 e, .int .u8 v, .int .u16 f, .slice Ao ops.length co] 32))
  go_enter Tryz.func16, Tryz.ntmps16
  go_upto_region 1 with fail
  generalize (w.alloc (.cells #[.int .u16 h.id, .bool h.qr, .int .u8 h.op, .bool h.aa, .bool h.tc, .bool h.rd, .bool h.ra, .bool h.z, .bool h.ad, .bool h.cd, .int .u8 h.code, .slice Aq qs.length cq, .slice Aa an.length ca, .slice Au au.length cu, .slice Ax ex.length cx, .bool has, .int .u16 sz, .int .u8 e, .int .u8 v, .int .u16 f, .slice Ao ops.length co] 32)) = w1 at *
  have c2 := bcellAt BA.out 2
  have c10 := bcellAt BA.out 10
  have c11 := bcellAt BA.out 11
  have c14 := bcellAt BA.out 14
  have c15 := bcellAt BA.out 15
  have c16 := bcellAt BA.out 16
  have c17 := bcellAt BA.out 17
  have c18 := bcellAt BA.out 18
  have c19 := bcellAt BA.out 19
  have c20 := bcellAt BA.out 20
  by_cases h1 : 15 < h.op
  · have d1 : decide ((15 : Int) < (h.op : Int)) = true := decide_eq_true (by omega)
    have HT := Lib.hid (show mv = false from by rw [MAY.out, HHB.out, decide_eq_true h1]; simp)
    clear h1
    go_wp2_with fail
    go_ret
    exact ⟨by rw [HT.out]; rfl, GA.out⟩
  have d1 : decide ((15 : Int) < (h.op : Int)) = false := decide_eq_false (by omega)
  have E1 := Lib.hid h1
  clear h1
  by_cases h2 : 15 < h.code
  · have d2 : decide ((15 : Int) < (h.code : Int)) = true := decide_eq_true (by omega)
    have HT := Lib.hid (show mv = false from by rw [MAY.out, HHB.out, decide_eq_true h2]; simp)
    clear h2
    go_wp2_with fail
    go_ret
    exact ⟨by rw [HT.out]; rfl, GA.out⟩
  have d2 : decide ((15 : Int) < (h.code : Int)) = false := decide_eq_false (by omega)
  have E2 := Lib.hid h2
  clear h2
  by_cases h3 : 65535 < qs.length
  · have d3 : decide ((65535 : Int) < (qs.length : Int)) = true := decide_eq_true (by omega)
    have HT := Lib.hid (show mv = false from by rw [MAY.out, HHB.out, decide_eq_true h3]; simp)
    clear h3
    go_wp2_with fail
    go_ret
    exact ⟨by rw [HT.out]; rfl, GA.out⟩
  have d3 : decide ((65535 : Int) < (qs.length : Int)) = false := decide_eq_false (by omega)
  have E3 := Lib.hid h3
  clear h3
  have HH := Lib.hid (show hb = ((!has && !hz) || (has && decide (65534 < ex.length))) from by rw [HHB.out, decide_eq_false E1.out, decide_eq_false E2.out, decide_eq_false E3.out]; simp)
  clear HHB E1 E2
  have CUT : ∃ w2 : World, True := ⟨w, trivial⟩
  clear CUT
  cases has
  case false =>
    go_wp2_with fail
    refine Calls.mono (rsame_any sz e v f 0 0 0 0 _ _ ops [] w1 (HV.out.o.kept GA.out) (Sl.nil _ _) HF.out.o) ?_
    rw [ZZ.out]
    rintro ee w2 ⟨rfl, hg2⟩
    have G2 := Lib.hid (gtrans GA.out hg2)
    have B2 := Lib.hid (gblock hg2 BA.out (by simp))
    clear hg2 GA BA c2 c10 c11 c14 c15 c16 c17 c18 c19 c20 d1 d2 d3
    have c15 := bcellAt B2.out 15
    cases hz
    case false =>
      have HT := Lib.hid (show mv = false from by rw [MAY.out, HH.out]; simp)
      go_wp2_with fail
      go_ret
      exact ⟨by rw [HT.out]; rfl, G2.out⟩
    have HS := Lib.hid (show mv = (qs.all okQ && sa && su && sx) from by rw [MAY.out, HH.out]; simp)
    clear HH MAY
    go_wp2_with fail
    clear c15
    go_loopw [3] (fun vi wr => ∃ i : Nat, vi = .int .i64 i ∧ i ≤ qs.length ∧ (qs.take i).all okQ = true ∧ w2.grownBy wr none) (fun vi _ => qs.length - (intOf vi).toNat)
    case atStart => exact ⟨0, rfl, by omega, rfl, grefl _ _⟩
    case round =>
      obtain ⟨i, rfl, hil, hall, hg⟩ := hrel
      have HA := Lib.hid hall
      have G4 := Lib.hid (gtrans G2.out hg)
      have B5 := Lib.hid (gblock hg B2.out (by simp))
      have HG := Lib.hid hg
      clear hall hg
      have b11 := bcellAt B5.out 11
      by_cases hlt : i < qs.length
      · obtain ⟨bl, off, rfl, l0, l1, l2⟩ := (HV.out.q.kept G4.out).at hlt
        have q0 : (0 : Int) ≤ (i : Int) := by omega
        have q1 : (i : Int) < (qs.length : Int) := by omega
        have HX := Lib.hid (all_snoc okQ qs i hlt)
        have HNo := Lib.hid (all_not okQ qs i hlt)
        have hnm := HN.out qs[i] (List.getElem_mem hlt)
        generalize qs[i] = r at *
        clear l1 l2
        go_wp2_with fail
        refine Calls.mono (rmay_any r.name _ hnm) ?_
        rintro ee w4 ⟨rfl, hg⟩
        have G5 := Lib.hid (gtrans G4.out hg)
        have GW := Lib.hid (gtrans HG.out hg)
        have B6 := Lib.hid (gblock hg B5.out (by simp))
        clear hg b11 l0
        cases hm : may r.name with
        | false =>
          have HT := Lib.hid (show mv = false from by rw [HS.out, HNo.out hm]; simp)
          clear hm
          go_wp2_with fail
          go_ret
          exact ⟨by rw [HT.out]; rfl, G5.out⟩
        | true =>
          have OK := Lib.hid (show okQ r = true from hm)
          have hLL : qs.length ≤ 65535 := by have := E3.out; omega
          clear hm
          go_wp2_with fail
          go_roundw
          case rel => exact ⟨i + 1, by go_num, by omega, by rw [HX.out, HA.out, OK.out]; rfl, GW.out⟩
          case measure => simp [intOf]; omega
      · have k1 : decide ((i : Int) < (qs.length : Int)) = false := decide_eq_false (by omega)
        have HT := Lib.hid (show mv = (sa && su && sx) from by rw [HS.out, show qs.all okQ = true from by have := HA.out; rwa [List.take_of_length_le (by omega)] at this]; simp)
        have b12 := bcellAt B5.out 12
        go_wp2_with fail
        refine Calls.mono (RA.out _ G4.out) ?_
        rintro ee w5 ⟨rfl, hg⟩
        have G5 := Lib.hid (gtrans G4.out hg)
        have B6 := Lib.hid (gblock hg B5.out (by simp))
        clear hg b11 b12 k1
        have b13 := bcellAt B6.out 13
        cases sa
        case false =>
          go_wp2_with fail
          go_ret
          exact ⟨by rw [HT.out]; rfl, G5.out⟩
        go_wp2_with fail
        refine Calls.mono (RU.out _ G5.out) ?_
        rintro ee w6 ⟨rfl, hg⟩
        have G6 := Lib.hid (gtrans G5.out hg)
        have B7 := Lib.hid (gblock hg B6.out (by simp))
        clear hg b13
        have b14 := bcellAt B7.out 14
        cases su
        case false =>
          go_wp2_with fail
          go_ret
          exact ⟨by rw [HT.out]; rfl, G6.out⟩
        go_wp2_with fail
        refine Calls.mono (RX.out _ G6.out) ?_
        rintro ee w7 ⟨rfl, hg⟩
        have G7 := Lib.hid (gtrans G6.out hg)
        clear hg b14
        go_wp2_with fail
        go_ret
        exact ⟨by rw [HT.out]; cases sx <;> rfl, G7.out⟩
  case true =>
    by_cases h4 : 65534 < ex.length
    · have d4 : decide ((65534 : Int) < (ex.length : Int)) = true := decide_eq_true (by omega)
      have HT := Lib.hid (show mv = false from by rw [MAY.out, HH.out, decide_eq_true h4]; simp)
      clear h4
      go_wp2_with fail
      go_ret
      exact ⟨by rw [HT.out]; rfl, GA.out⟩
    have d4 : decide ((65534 : Int) < (ex.length : Int)) = false := decide_eq_false (by omega)
    have HS := Lib.hid (show mv = (qs.all okQ && sa && su && sx) from by rw [MAY.out, HH.out, decide_eq_false h4]; simp)
    clear HH MAY h4
    have G2 := GA
    have B2 := BA
    clear GA BA
    generalize w1 = w2 at *
    go_wp2_with fail
    clear c2 c10 c11 c14 c15 c16 c17 c18 c19 c20 d1 d2 d3 d4
    go_loopw [3] (fun vi wr => ∃ i : Nat, vi = .int .i64 i ∧ i ≤ qs.length ∧ (qs.take i).all okQ = true ∧ w2.grownBy wr none) (fun vi _ => qs.length - (intOf vi).toNat)
    case atStart => exact ⟨0, rfl, by omega, rfl, grefl _ _⟩
    case round =>
      obtain ⟨i, rfl, hil, hall, hg⟩ := hrel
      have HA := Lib.hid hall
      have G4 := Lib.hid (gtrans G2.out hg)
      have B5 := Lib.hid (gblock hg B2.out (by simp))
      have HG := Lib.hid hg
      clear hall hg
      have b11 := bcellAt B5.out 11
      by_cases hlt : i < qs.length
      · obtain ⟨bl, off, rfl, l0, l1, l2⟩ := (HV.out.q.kept G4.out).at hlt
        have q0 : (0 : Int) ≤ (i : Int) := by omega
        have q1 : (i : Int) < (qs.length : Int) := by omega
        have HX := Lib.hid (all_snoc okQ qs i hlt)
        have HNo := Lib.hid (all_not okQ qs i hlt)
        have hnm := HN.out qs[i] (List.getElem_mem hlt)
        generalize qs[i] = r at *
        clear l1 l2
        go_wp2_with fail
        refine Calls.mono (rmay_any r.name _ hnm) ?_
        rintro ee w4 ⟨rfl, hg⟩
        have G5 := Lib.hid (gtrans G4.out hg)
        have GW := Lib.hid (gtrans HG.out hg)
        have B6 := Lib.hid (gblock hg B5.out (by simp))
        clear hg b11 l0
        cases hm : may r.name with
        | false =>
          have HT := Lib.hid (show mv = false from by rw [HS.out, HNo.out hm]; simp)
          clear hm
          go_wp2_with fail
          go_ret
          exact ⟨by rw [HT.out]; rfl, G5.out⟩
        | true =>
          have OK := Lib.hid (show okQ r = true from hm)
          have hLL : qs.length ≤ 65535 := by have := E3.out; omega
          clear hm
          go_wp2_with fail
          go_roundw
          case rel => exact ⟨i + 1, by go_num, by omega, by rw [HX.out, HA.out, OK.out]; rfl, GW.out⟩
          case measure => simp [intOf]; omega
      · have k1 : decide ((i : Int) < (qs.length : Int)) = false := decide_eq_false (by omega)
        have HT := Lib.hid (show mv = (sa && su && sx) from by rw [HS.out, show qs.all okQ = true from by have := HA.out; rwa [List.take_of_length_le (by omega)] at this]; simp)
        have b12 := bcellAt B5.out 12
        go_wp2_with fail
        refine Calls.mono (RA.out _ G4.out) ?_
        rintro ee w5 ⟨rfl, hg⟩
        have G5 := Lib.hid (gtrans G4.out hg)
        have B6 := Lib.hid (gblock hg B5.out (by simp))
        clear hg b11 b12 k1
        have b13 := bcellAt B6.out 13
        cases sa
        case false =>
          go_wp2_with fail
          go_ret
          exact ⟨by rw [HT.out]; rfl, G5.out⟩
        go_wp2_with fail
        refine Calls.mono (RU.out _ G5.out) ?_
        rintro ee w6 ⟨rfl, hg⟩
        have G6 := Lib.hid (gtrans G5.out hg)
        have B7 := Lib.hid (gblock hg B6.out (by simp))
        clear hg b13
        have b14 := bcellAt B7.out 14
        cases su
        case false =>
          go_wp2_with fail
          go_ret
          exact ⟨by rw [HT.out]; rfl, G6.out⟩
        go_wp2_with fail
        refine Calls.mono (RX.out _ G6.out) ?_
        rintro ee w7 ⟨rfl, hg⟩
        have G7 := Lib.hid (gtrans G6.out hg)
        clear hg b14
        go_wp2_with fail
        go_ret
        exact ⟨by rw [HT.out]; cases sx <;> rfl, G7.out⟩
end Go.Proofs.YtfeeeoiojaffcaaGreatDoor
