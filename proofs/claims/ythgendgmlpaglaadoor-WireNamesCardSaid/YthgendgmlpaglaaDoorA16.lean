/-
  Wire: May.
  Wire: write, plain; a row read in a drawn region.
-/
import Derived.Test.YthgendgmlpaglaaDoorA15
namespace Go.Proofs.YthgendgmlpaglaaDoor
open Go.RowKit

/-- A message's value reads as it. -/
structure MsV (w : World) (m : Ms) (vq va vu vx vo : Value) : Prop where
  q : Qs w vq m.qs
  a : Rs w va m.an
  u : Rs w vu m.au
  x : Rs w vx m.ex
  o : Ops w vo m.ops
theorem MsV.kept {w w' : World} {m : Ms} {vq va vu vx vo : Value} (h : MsV w m vq va vu vx vo) (g : w.grownBy w' none) : MsV w' m vq va vu vx vo :=
  ⟨h.q.kept g, h.a.kept g, h.u.kept g, h.x.kept g, h.o.kept g⟩
/-- Its parts are not too many. -/
structure Ms.few (m : Ms) : Prop where
  x : m.ex.length ≤ 1000000
  o : m.ops.length ≤ 1000000
  ad : ∀ r ∈ m.an, r.data.size ≤ 1000000
  ud : ∀ r ∈ m.au, r.data.size ≤ 1000000
  xd : ∀ r ∈ m.ex, r.data.size ≤ 1000000
def Ms.zero (m : Ms) : Bool := decide (m.sz = 0 ∧ m.e = 0 ∧ m.v = 0 ∧ m.f = 0 ∧ m.ops = [])
def Ms.fits (m : Ms) : Bool := decide (m.qs.length ≤ 65535 ∧ m.an.length ≤ 65535 ∧ m.au.length ≤ 65535 ∧ m.xn ≤ 65535)
def Ms.may (m : Ms) : Bool := !decide m.h.bad && (m.has || m.zero) && m.fits && m.qs.all okQ && m.an.all okR && m.au.all okR && m.ex.all okR
theorem ops_none {w : World} : Ops w (.slice none 0 0) [] := Sl.nil w 2
def cnt (a b c d : Nat) (i : Nat) : Nat := match i with | 0 => a | 1 => b | 2 => c | _ => d

set_option maxRecDepth 100000 in
set_option maxHeartbeats 8000000 in
theorem wmay_any (w : World) (m : Ms) (vq va vu vx vo : Value) (he : Et w) (hb : Bt w) (hv : MsV w m vq va vu vx vo) (hf : m.few) :
    Calls Tryd.prog 18 #[m.val vq va vu vx vo] w fun e w' => e = .returned (.bool m.may) ∧ w.grownBy w' none := by
  have HV := Lib.hid hv
  have HE := Lib.hid he
  have HB := Lib.hid hb
  have HF := Lib.hid hf
  have CN := fun (w' : World) (g : w.grownBy w' none) => counts_any w' m vq va vu vx vo (hv.q.kept g) (hv.a.kept g) (hv.u.kept g) (hv.x.kept g) hf.x
  obtain ⟨fi, hfi⟩ : ∃ fi, m.fits = fi := ⟨_, rfl⟩
  obtain ⟨hz, hhz⟩ : ∃ hz, (m.has || m.zero) = hz := ⟨_, rfl⟩
  obtain ⟨nx, hnx⟩ : ∃ nx, m.xn = nx := ⟨_, rfl⟩
  have MAY := Lib.hid (show m.may = (!decide m.h.bad && hz && fi && m.qs.all okQ && m.an.all okR && m.au.all okR && m.ex.all okR) from by rw [← hfi, ← hhz]; rfl)
  have XN := Lib.hid (show m.ex.length ≤ nx from by rw [← hnx]; unfold Ms.xn; omega)
  have EZ := Lib.hid hhz
  have FI := Lib.hid (show fi = decide (m.qs.length ≤ 65535 ∧ m.an.length ≤ 65535 ∧ m.au.length ≤ 65535 ∧ nx ≤ 65535) from by rw [← hfi, ← hnx]; rfl)
  rw [hnx] at CN
  have CN := Lib.hid CN
  clear hhz hfi hnx
  clear he hb hf
  obtain ⟨Aq, cq, rfl⟩ := hv.q.form
  obtain ⟨Aa, ca, rfl⟩ := hv.a.form
  obtain ⟨Au, cu, rfl⟩ := hv.u.form
  obtain ⟨Ax, cx, rfl⟩ := hv.x.form
  obtain ⟨Ao, co, rfl⟩ := hv.o.form
  clear hv
  obtain ⟨h, qs, an, au, ex, has, sz, e, v, f, ops⟩ := m
  generalize Ms.may ⟨h, qs, an, au, ex, has, sz, e, v, f, ops⟩ = mv at *
  dsimp only at MAY XN FI EZ
  unfold Ms.val
  unfold Ms.val at CN
  dsimp only at CN ⊢
  go_enter Tryd.func18, Tryd.ntmps18
  go_wp2_with fail
  rw [show Value.agg #[.int .u16 h.id, .bool h.qr, .int .u8 h.op, .bool h.aa, .bool h.tc, .bool h.rd, .bool h.ra, .bool h.z, .bool h.ad, .bool h.cd, .int .u8 h.code] = h.v from rfl]
  have GA := galloc (grefl w none) (.cells #[.int .u16 h.id, .bool h.qr, .int .u8 h.op, .bool h.aa, .bool h.tc, .bool h.rd, .bool h.ra, .bool h.z, .bool h.ad, .bool h.cd, .int .u8 h.code, .slice Aq qs.length cq, .slice Aa an.length ca, .slice Au au.length cu, .slice Ax ex.length cx, .bool has, .int .u16 sz, .int .u8 e, .int .u8 v, .int .u16 f, .slice Ao ops.length co] 37)
  have BA := Lib.hid (balloc w (.cells #[.int .u16 h.id, .bool h.qr, .int .u8 h.op, .bool h.aa, .bool h.tc, .bool h.rd, .bool h.ra, .bool h.z, .bool h.ad, .bool h.cd, .int .u8 h.code, .slice Aq qs.length cq, .slice Aa an.length ca, .slice Au au.length cu, .slice Ax ex.length cx, .bool has, .int .u16 sz, .int .u8 e, .int .u8 v, .int .u16 f, .slice Ao ops.length co] 37))
  refine Calls.mono (flags_any h _ (HB.out.kept GA (by simp))) ?_
  rintro e1 w1 ⟨rfl, hg1⟩
  have G1 := Lib.hid (gtrans GA hg1)
  have B1 := Lib.hid (gblock hg1 BA.out (by simp))
  clear GA hg1 BA
  have b15 := bcellAt B1.out 15
  have b16 := bcellAt B1.out 16
  have b17 := bcellAt B1.out 17
  have b18 := bcellAt B1.out 18
  have b19 := bcellAt B1.out 19
  have b20 := bcellAt B1.out 20
  unfold flE flN
  by_cases hbad : h.bad
  · rw [if_pos hbad, if_pos hbad]
    have HN := Lib.hid hbad
    clear hbad
    go_wp2_with fail
    go_ret
    exact ⟨by rw [MAY.out]; simp [HN.out], G1.out⟩
  rw [if_neg hbad, if_neg hbad]
  have HN := Lib.hid hbad
  clear hbad
  cases has
  all_goals go_wp2_with (refine wpList_load_row rfl 37 _ rfl w.heap.size rfl _ _ _ _ B1.out Tryd.underlying37 rfl (by kernel_rfl) ?_)
  refine Calls.mono (esame_any sz e v f 0 0 0 0 _ _ ops [] w1 (HV.out.o.kept G1.out) ops_none HF.out.o) ?_
  rintro e2 w2 ⟨rfl, hg2⟩
  have G2 := Lib.hid (gtrans G1.out hg2)
  have B2 := Lib.hid (gblock hg2 B1.out (by simp))
  clear hg2 G1 b15 b16 b17 b18 b19 b20
  have EY := Lib.hid (show edB sz e v f ops 0 0 0 0 [] = hz from by
    rw [← EZ.out]; unfold edB Ms.zero; simp)
  rcases hzz : edB (sz : Int) e v f ops 0 0 0 0 [] with _ | _
  · have HZ := Lib.hid (EY.out.symm.trans hzz)
    clear hzz
    go_wp2_with fail
    go_ret
    exact ⟨by rw [MAY.out, HZ.out]; simp, G2.out⟩
  have HZ := Lib.hid (EY.out.symm.trans hzz)
  clear hzz EY
  go_wp2_with (refine wpList_load_row rfl 37 _ rfl w.heap.size rfl _ _ _ _ B2.out Tryd.underlying37 rfl (by kernel_rfl) ?_)
  clear B1
  rotate_left
  have G2 := Lib.hid G1.out
  have B2 := Lib.hid B1.out
  have HZ := Lib.hid (show hz = true from EZ.out.symm)
  clear G1 B1 b15 b16 b17 b18 b19 b20
  generalize w1 = w2 at *
  all_goals (
    clear EZ
    refine Calls.mono (CN.out w2 G2.out) ?_
    rintro e3 w3 ⟨rfl, hg3⟩
    have G3 := Lib.hid (gtrans G2.out hg3)
    have B3 := Lib.hid (gblock hg3 B2.out (by simp))
    clear hg3 G2 B2 CN
    unfold cv
    go_wp2_with fail
    go_loopw [29] (fun vi wr => ∃ i : Nat, vi = .int .i64 i ∧ i ≤ 4 ∧ w3 = wr ∧ (0 < i → qs.length ≤ 65535) ∧ (1 < i → an.length ≤ 65535) ∧ (2 < i → au.length ≤ 65535) ∧ (3 < i → nx ≤ 65535)) (fun vi _ => 4 - (intOf vi).toNat)
    case atStart => exact ⟨0, rfl, by omega, rfl, by omega, by omega, by omega, by omega⟩
    case round =>
      obtain ⟨i, rfl, hil, rfl, c0, c1, c2, c3⟩ := hrel
      have C0 := Lib.hid c0
      have C1 := Lib.hid c1
      have C2 := Lib.hid c2
      have C3 := Lib.hid c3
      clear c0 c1 c2 c3
      by_cases hi : i = 4
      · have hi4 : decide ((i : Int) < 4) = false := by simp; omega
        have HI := Lib.hid hi
        clear hi
        have B4 := Lib.hid B3.out
        have b11 := bcellAt B4.out 11
        have b12 := bcellAt B4.out 12
        have b13 := bcellAt B4.out 13
        have b14 := bcellAt B4.out 14
        go_wp2_with fail
        have L0 := C0.out (by have := HI.out; omega)
        have L1 := C1.out (by have := HI.out; omega)
        have L2 := C2.out (by have := HI.out; omega)
        have L3 := C3.out (by have := HI.out; omega)
        have FT := Lib.hid (show fi = true from by rw [FI.out]; simp [L0, L1, L2, L3])
        have D0 := Lib.hid L0
        have D1 := Lib.hid L1
        have D2 := Lib.hid L2
        have D3 := Lib.hid (Nat.le_trans XN.out L3)
        clear L0 L1 L2 L3 C0 C1 C2 C3 FI XN
        go_loopw [38] (fun vi wr' => ∃ i : Nat, vi = .int .i64 i ∧ i ≤ qs.length ∧ (qs.take i).all okQ = true ∧ w3.grownBy wr' none) (fun vi _ => qs.length - (intOf vi).toNat)
        case atStart => exact ⟨0, rfl, by omega, rfl, grefl _ _⟩
        case round =>
          obtain ⟨i, rfl, hil, hall, hg⟩ := hrel
          have HA := Lib.hid hall
          have HG := Lib.hid hg
          have G4 := Lib.hid (gtrans G3.out hg)
          have B5 := Lib.hid (gblock hg B4.out (by simp))
          clear hall hg b11 b12 b13 b14
          by_cases hlt : i < qs.length
          · obtain ⟨bl, off, rfl, l0, l1, l2⟩ := (HV.out.q.kept G4.out).at hlt
            have d0 := D0.out
            have q0 : (0 : Int) ≤ (i : Int) := by omega
            have q1 : (i : Int) < (qs.length : Int) := by omega
            have HX := Lib.hid (all_snoc okQ qs i hlt)
            have HNo := Lib.hid (all_not okQ qs i hlt)
            generalize qs[i] = r at *
            go_wp2_with fail
            refine Calls.mono (may_any r.name _) ?_
            rintro ee w4 ⟨rfl, hw4⟩
            have G5 := Lib.hid (show w.grownBy w4 none from hw4 ▸ galloc G4.out _)
            have GW := Lib.hid (show w3.grownBy w4 none from hw4 ▸ galloc HG.out _)
            clear hw4
            cases hm : may r.name with
            | false =>
              have HF := Lib.hid (HNo.out (by unfold okQ; exact hm))
              clear hm
              go_wp2_with fail
              go_ret
              exact ⟨by rw [MAY.out, HF.out]; simp, G5.out⟩
            | true =>
              have HM := Lib.hid (show okQ r = true from hm)
              clear hm
              go_wp2_with fail
              go_roundw
              case rel => exact ⟨i + 1, by go_num, by omega, by rw [HX.out, HA.out, HM.out]; rfl, GW.out⟩
              case measure => simp [intOf]; omega
          · have k0 : decide ((i : Int) < (qs.length : Int)) = false := by simp; omega
            have HQ := Lib.hid (show qs.all okQ = true from by
              have := HA.out
              rwa [List.take_of_length_le (by omega)] at this)
            have b12 := bcellAt B5.out 12
            have b13 := bcellAt B5.out 13
            have b14 := bcellAt B5.out 14
            clear HA
            go_wp2_with fail
            have RV := Lib.hid (HV.out.kept G4.out)
            refine Calls.mono (valid_any _ _ an (HE.out.kept G4.out (by simp)) RV.out.a D1.out HF.out.ad) ?_
            rintro ee w5 ⟨rfl, hg5⟩
            have G5 := Lib.hid (gtrans G4.out hg5)
            have B6 := Lib.hid (gblock hg5 B5.out (by simp))
            clear hg5 b12 b13 b14 RV
            have b13 := bcellAt B6.out 13
            have b14 := bcellAt B6.out 14
            rcases hv1 : an.all okR with _ | _
            · have V1 := Lib.hid hv1
              clear hv1
              go_wp2_with fail
              go_ret
              exact ⟨by rw [MAY.out, V1.out]; simp, G5.out⟩
            have V1 := Lib.hid hv1
            clear hv1
            go_wp2_with fail
            have RV := Lib.hid (HV.out.kept G5.out)
            refine Calls.mono (valid_any _ _ au (HE.out.kept G5.out (by simp)) RV.out.u D2.out HF.out.ud) ?_
            rintro ee w6 ⟨rfl, hg6⟩
            have G6 := Lib.hid (gtrans G5.out hg6)
            have B7 := Lib.hid (gblock hg6 B6.out (by simp))
            clear hg6 b13 b14 RV
            have b14 := bcellAt B7.out 14
            rcases hv2 : au.all okR with _ | _
            · have V2 := Lib.hid hv2
              clear hv2
              go_wp2_with fail
              go_ret
              exact ⟨by rw [MAY.out, V2.out]; simp, G6.out⟩
            have V2 := Lib.hid hv2
            clear hv2
            go_wp2_with fail
            have RV := Lib.hid (HV.out.kept G6.out)
            refine Calls.mono (valid_any _ _ ex (HE.out.kept G6.out (by simp)) RV.out.x D3.out HF.out.xd) ?_
            rintro ee w7 ⟨rfl, hg7⟩
            have G7 := Lib.hid (gtrans G6.out hg7)
            clear hg7 b14 RV
            go_wp2_with fail
            go_ret
            exact ⟨by rw [MAY.out, HZ.out, FT.out, HQ.out, V1.out, V2.out]; simp [HN.out], G7.out⟩
      · have hi4 : i = 0 ∨ i = 1 ∨ i = 2 ∨ i = 3 := by omega
        clear hi hil
        have hx0 : (Instr.index 66 (.agg #[.int .i64 qs.length, .int .i64 an.length, .int .i64 au.length, .int .i64 nx]) (.int .i64 0)).run Tryd.prog w3 = .ok (.int .i64 qs.length) w3 := by kernel_rfl
        have hx1 : (Instr.index 66 (.agg #[.int .i64 qs.length, .int .i64 an.length, .int .i64 au.length, .int .i64 nx]) (.int .i64 1)).run Tryd.prog w3 = .ok (.int .i64 an.length) w3 := by kernel_rfl
        have hx2 : (Instr.index 66 (.agg #[.int .i64 qs.length, .int .i64 an.length, .int .i64 au.length, .int .i64 nx]) (.int .i64 2)).run Tryd.prog w3 = .ok (.int .i64 au.length) w3 := by kernel_rfl
        have hx3 : (Instr.index 66 (.agg #[.int .i64 qs.length, .int .i64 an.length, .int .i64 au.length, .int .i64 nx]) (.int .i64 3)).run Tryd.prog w3 = .ok (.int .i64 nx) w3 := by kernel_rfl
        rcases hi4 with rfl | rfl | rfl | rfl
        · by_cases hc : qs.length ≤ 65535
          · have hd : decide ((65535 : Int) < (qs.length : Int)) = false := by simp; omega
            go_wp2_with fail
            go_roundw
            case rel => exact ⟨1, by go_num, by omega, by first | trivial | rfl, fun _ => hc, by omega, by omega, by omega⟩
            case measure => simp [intOf]
          · have HC := Lib.hid hc
            have hd : decide ((65535 : Int) < (qs.length : Int)) = true := by simp; omega
            clear hc
            go_wp2_with fail
            go_ret
            have hc := HC.out
            have hF : fi = false := by
              rw [FI.out, decide_eq_false_iff_not]
              omega
            exact ⟨by rw [MAY.out, hF]; simp, G3.out⟩
        · by_cases hc : an.length ≤ 65535
          · have hd : decide ((65535 : Int) < (an.length : Int)) = false := by simp; omega
            go_wp2_with fail
            go_roundw
            case rel => exact ⟨2, by go_num, by omega, by first | trivial | rfl, fun _ => C0.out (by omega), fun _ => hc, by omega, by omega⟩
            case measure => simp [intOf]
          · have HC := Lib.hid hc
            have hd : decide ((65535 : Int) < (an.length : Int)) = true := by simp; omega
            clear hc
            go_wp2_with fail
            go_ret
            have hc := HC.out
            have hF : fi = false := by
              rw [FI.out, decide_eq_false_iff_not]
              omega
            exact ⟨by rw [MAY.out, hF]; simp, G3.out⟩
        · by_cases hc : au.length ≤ 65535
          · have hd : decide ((65535 : Int) < (au.length : Int)) = false := by simp; omega
            go_wp2_with fail
            go_roundw
            case rel => exact ⟨3, by go_num, by omega, by first | trivial | rfl, fun _ => C0.out (by omega), fun _ => C1.out (by omega), fun _ => hc, by omega⟩
            case measure => simp [intOf]
          · have HC := Lib.hid hc
            have hd : decide ((65535 : Int) < (au.length : Int)) = true := by simp; omega
            clear hc
            go_wp2_with fail
            go_ret
            have hc := HC.out
            have hF : fi = false := by
              rw [FI.out, decide_eq_false_iff_not]
              omega
            exact ⟨by rw [MAY.out, hF]; simp, G3.out⟩
        · by_cases hc : nx ≤ 65535
          · have hd : decide ((65535 : Int) < (nx : Int)) = false := by simp; omega
            go_wp2_with fail
            go_roundw
            case rel => exact ⟨4, by go_num, by omega, by first | trivial | rfl, fun _ => C0.out (by omega), fun _ => C1.out (by omega), fun _ => C2.out (by omega), fun _ => hc⟩
            case measure => simp [intOf]
          · have HC := Lib.hid hc
            have hd : decide ((65535 : Int) < (nx : Int)) = true := by simp; omega
            clear hc
            go_wp2_with fail
            go_ret
            have hc := HC.out
            have hF : fi = false := by
              rw [FI.out, decide_eq_false_iff_not]
              omega
            exact ⟨by rw [MAY.out, hF]; simp, G3.out⟩
    )
end Go.Proofs.YthgendgmlpaglaaDoor
namespace Go.Proofs.YthgendgmlpaglaaDoor
open Go.RowKit

/-- In a quiet walk: a whole row. -/
theorem wpQuiet_load_row {P : Program} {ops : Array Oper} {C : World → Prop} {Q : Act → Prop} {a : Act} {o : Oper} {rest : List Oper} (hw : Region.wanted o (yielded ops a.tmps) = true) (ty : TypeId) (x : Operand) (ho : o.op = .load ty x)
    (g : Nat) (hx : a.eval x = .pointer (some ⟨g, 0, none⟩)) (t : TypeId) (cs : Array Value) (fr : Nat × Nat) (d : TypeDesc) (hS : ∀ w, C w → w.heap[g]? = some (.cells cs t fr))
    (hu : P.underlying ty = some d) (hd : (match d with | .struct _ | .array _ _ => true | _ => false) = true) (hi : (P.info? ty).map (·.size) = some cs.size)
    (h : wpQuiet P ops C Q rest (a.put o.dst (.agg cs))) : wpQuiet P ops C Q (o :: rest) a := by
  refine wpQuiet_step fun K hK => ?_
  rw [if_pos hw]
  refine ⟨.agg cs, fun w hw' => ?_, hK _ h⟩
  unfold Oper.quietAt execOp
  simp only [ho, hx, Instr.loadAt, Instr.sureAddr, Sem.run_bind, Sem.run_pure, Result.andThen_ok, run_loadVar_row w g t ty cs fr d (hS w hw') hu hd hi]
  exact ⟨rfl, rfl⟩

def root0 : ByteArray := ⟨#[0]⟩
/-- The options record behind. -/
def opF (sz ttl : Nat) (d : List UInt8) (s : Ws) : Ws := adF d (adF (enc 2 d.length) (adF (fx 41 sz ttl) (nmF root0 s)))
theorem opF_le (sz ttl : Nat) (d : List UInt8) (s : Ws) : s.le (opF sz ttl d s) :=
  (((nmF_le _ _).trans (adF_le _ _)).trans (adF_le _ _)).trans (adF_le _ _)
def Ms.s0 (m : Ms) : Ws := (wrL m.h m.qs.length m.an.length m.au.length m.xn, [])
def Ms.s1 (m : Ms) : Ws := qsF m.s0 m.qs
def Ms.s2 (m : Ms) : Ws := rsF m.s1 m.an
def Ms.s3 (m : Ms) : Ws := rsF m.s2 m.au
def Ms.s4 (m : Ms) : Ws := rsF m.s3 m.ex
def Ms.s5 (m : Ms) : Ws := if m.has then opF m.sz (ttlN m.e m.v m.f) (opsB m.ops) m.s4 else m.s4
theorem Ms.le45 (m : Ms) : m.s4.le m.s5 := by
  unfold Ms.s5
  cases m.has
  · exact Ws.le_refl _
  · exact opF_le _ _ _ _
theorem Ms.le34 (m : Ms) : m.s3.le m.s4 := rsF_le _ _
theorem Ms.le23 (m : Ms) : m.s2.le m.s3 := rsF_le _ _
theorem Ms.le12 (m : Ms) : m.s1.le m.s2 := rsF_le _ _
/-- The writer's error. -/
def Ms.wE (m : Ms) : Nat := if m.may = false then 3 else if (m.has = true ∧ ¬ okO m.ops) ∨ 65535 < m.s5.1.length then 5 else 0
structure Qn.rng (q : Qn) : Prop where
  kind : q.kind < 65536
  cls : q.cls < 65536
structure Rc.rng (r : Rc) : Prop where
  kind : r.kind < 65536
  cls : r.cls < 65536
  ttl : r.ttl < 4294967296
  data : r.data.size ≤ 1000000
structure Ms.rng (m : Ms) : Prop where
  id : m.h.id < 65536
  q : ∀ q ∈ m.qs, q.rng
  a : ∀ r ∈ m.an, r.rng
  u : ∀ r ∈ m.au, r.rng
  x : ∀ r ∈ m.ex, r.rng
  xl : m.ex.length ≤ 1000000
  ol : m.ops.length ≤ 1000000
  sz : m.sz < 65536
  e : m.e < 256
  v : m.v < 256
  f : m.f < 65536
  o : ∀ o ∈ m.ops, o.1 < 65536
theorem Ms.rng.few {m : Ms} (h : m.rng) : m.few := ⟨h.xl, h.ol, fun r hr => (h.a r hr).data, fun r hr => (h.u r hr).data, fun r hr => (h.x r hr).data⟩
theorem rc_ok {r : Rc} (h : r.rng) (k : okR r = true) : r.ok := by
  unfold okR mayD at k
  simp only [Bool.and_eq_true] at k
  obtain ⟨⟨_, k1⟩, k2⟩ := k
  exact ⟨k1, h.kind, h.cls, h.ttl, h.data, Option.isSome_iff_exists.1 k2⟩
theorem rcs_ok {l : List Rc} (h : ∀ r ∈ l, r.rng) (k : l.all okR = true) : ∀ r ∈ l, r.ok := fun r hr => rc_ok (h r hr) (List.all_eq_true.1 k r hr)
/-- What May says. -/
structure Ms.yes (m : Ms) : Prop where
  h : ¬ m.h.bad
  ql : m.qs.length ≤ 65535
  al : m.an.length ≤ 65535
  ul : m.au.length ≤ 65535
  xl : m.xn ≤ 65535
  q : m.qs.all okQ = true
  a : m.an.all okR = true
  u : m.au.all okR = true
  x : m.ex.all okR = true
  z : (m.has || m.zero) = true
theorem Ms.may_yes {m : Ms} : m.may = true ↔ m.yes := by
  unfold Ms.may Ms.fits
  simp only [Bool.and_eq_true, Bool.not_eq_true', decide_eq_false_iff_not, decide_eq_true_eq]
  constructor
  · rintro ⟨⟨⟨⟨⟨⟨h1, h2⟩, h3⟩, h4⟩, h5⟩, h6⟩, h7⟩
    exact ⟨h1, h3.1, h3.2.1, h3.2.2.1, h3.2.2.2, h4, h5, h6, h7, h2⟩
  · rintro ⟨h1, a, b, c, d, h4, h5, h6, h7, h2⟩
    exact ⟨⟨⟨⟨⟨⟨h1, h2⟩, ⟨a, b, c, d⟩⟩, h4⟩, h5⟩, h6⟩, h7⟩
theorem wrL_len (H : Hd) (a b c d : Int) : (wrL H a b c d).length = 12 := by
  unfold wrL
  simp only [List.length_append, enc_len]
theorem Ms.s0_len (m : Ms) : m.s0.1.length = 12 := wrL_len _ _ _ _ _
/-- What write leaves. -/
def WPost (m : Ms) (w : World) (e : Ending) (w' : World) : Prop :=
  w.grownBy w' none ∧ if m.wE = 0 then ∃ v, e = .returned v ∧ SlB w' v m.s5.1 else e = .panicked [{ v := fault m.wE, recovered := false }]
theorem npM : ¬ pW 37 := by unfold pW; decide
theorem KT.grown {p : TypeId → Prop} {w w' : World} (h : KT p w.heap.size w w') : w.grownBy w' none := ⟨h.kb.os, h.kb.tape, h.kb.output, h.kb.size, fun i hi _ => h.kb.block i hi⟩
theorem wbad {m : Ms} {w w' : World} (hm : m.may = true) (h : (m.has = true ∧ ¬ okO m.ops) ∨ 65535 < m.s5.1.length) (g : w.grownBy w' none) : WPost m w (.panicked [{ v := fault 5, recovered := false }]) w' := by
  have e : m.wE = 5 := by
    unfold Ms.wE
    rw [if_neg (by rw [hm]; simp), if_pos h]
  refine ⟨g, ?_⟩
  rw [if_neg (by omega), e]
  rfl
theorem wgood {m : Ms} {w w' : World} {v : Value} (hm : m.may = true) (h : m.has = true → okO m.ops) (h2 : m.s5.1.length ≤ 65535) (g : w.grownBy w' none) (hs : SlB w' v m.s5.1) : WPost m w (.returned v) w' := by
  have e : m.wE = 0 := by
    unfold Ms.wE
    rw [if_neg (by rw [hm]; simp), if_neg (fun h' => h'.elim (fun h3 => h3.2 (h h3.1)) (fun h3 => by omega))]
  refine ⟨g, ?_⟩
  rw [if_pos e]
  exact ⟨v, rfl, hs⟩
end Go.Proofs.YthgendgmlpaglaaDoor
