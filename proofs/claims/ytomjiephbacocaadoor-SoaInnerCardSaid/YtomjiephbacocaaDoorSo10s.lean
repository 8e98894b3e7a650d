/-
  SoaInner.
-/
import Derived.Test.YtomjiephbacocaaDoorSo10p
namespace Go.Proofs.YtomjiephbacocaaDoor
open Go.RowKit

set_option maxRecDepth 100000 in
set_option maxHeartbeats 64000000 in
theorem inner10_walk (v : Value) (l : List St) (n : ByteArray) (c : Nat) (w : World) (he : Et w) (h : Sts w v l) (hl : l.length ≤ maxLen) (hs : ∀ x ∈ l, x.name.size ≤ maxLen ∧ x.data.length ≤ maxLen ∧ ∀ s ∈ x.data, s.size ≤ maxLen) : Calls Tryd.prog 7 #[v, .string n, .int .u16 (c : Int)] w fun e w' => e = .returned (.bool true) ∧ w.grownBy w' none := by
  have HE := Lib.hid he
  have HI := Lib.hid h
  have HLg := Lib.hid (longsets_any v l w h hl hs)
  obtain ⟨A, cap, rfl, hcap⟩ := h.shape
  clear he h hs
  go_enter Tryd.func7, Tryd.ntmps7
  go_wp2_with fail
  refine HLg.out.mono ?_
  rintro e w1 ⟨q, rfl, rfl, hq⟩
  cases q with
  | true =>
    clear hq
    go_wp2_with fail
    refine (awake10 w HE.out).mono ?_
    rintro e w1 ⟨rfl, hg⟩
    go_wp2_with fail
    go_ret
    exact ⟨rfl, hg⟩
  | false =>
    have HSm := Lib.hid (hq rfl)
    have hl2 := (hq rfl).1
    clear hq hl HLg
    by_cases hn : 3000 < n.size
    · have k0 : decide ((3000 : Int) < (n.size : Int)) = true := by simp; omega
      go_wp2_with fail
      refine (awake10 w HE.out).mono ?_
      rintro e w1 ⟨rfl, hg⟩
      go_wp2_with fail
      go_ret
      exact ⟨rfl, hg⟩
    · have k0 : decide ((3000 : Int) < (n.size : Int)) = false := by simp; omega
      have HDs := Lib.hid (show ∀ x ∈ l, x.data.length ≤ 1000000 from fun x hx => by have := (HSm.out.2 x hx).2.1; omega)
      go_wp2_with fail
      refine (awake10 w HE.out).mono ?_
      rintro e w1 ⟨rfl, hg⟩
      have G1 := Lib.hid hg
      clear hg k0
      go_wp2_with fail
      rcases bI_inv n c l l.length (Nat.le_refl _) with hb | ⟨j, hj, _, hb, _⟩
      · have HFd := Lib.hid (show fndF n c l = .non by unfold fndF; rw [hb]; rfl)
        have HBi := Lib.hid hb
        clear hb
        refine (find_non (HI.out.kept G1.out) (by omega) HDs.out HFd.out).mono ?_
        rintro e w2 ⟨rfl, hg⟩
        have G3 := Lib.hid (galloc (gtrans G1.out hg) (.cells #[.string ByteArray.empty, .int .u16 0, .int .u16 0, .int .u32 0, .slice none 0 0] 27))
        clear hg
        unfold zsv
        go_wp2_with fail
        generalize w2.alloc (.cells #[.string ByteArray.empty, .int .u16 0, .int .u16 0, .int .u32 0, .slice none 0 0] 27) = w3 at *
        go_loopw [10, 11, 12] (fun vm vf vi wr => ∃ (k : Nat) (f d : Int), k ≤ l.length ∧ vi = .int .i64 k ∧ vf = .int .i64 f ∧ vm = .int .i64 d ∧ bI n c l k = (f, d) ∧ w.grownBy wr none ∧ w3.grownBy wr none) (fun _ _ vi _ => l.length - (intOf vi).toNat)
        case atStart => exact ⟨0, -1, -1, by omega, rfl, rfl, rfl, rfl, G3.out, grefl _ _⟩
        case round =>
          obtain ⟨k, f, d, hk, rfl, rfl, rfl, hb, hg, hq⟩ := hrel
          have HB := Lib.hid hb
          have HG := Lib.hid hg
          have HQ := Lib.hid hq
          clear hb hg hq
          by_cases hlt : k < l.length
          · have k1 : decide ((k : Int) < (l.length : Int)) = true := by simp; omega
            have q0 : (0 : Int) ≤ (k : Int) := by omega
            have q1 : (k : Int) < (l.length : Int) := by omega
            obtain ⟨b, off, rfl, _, _, c0, c1, c2, c3, c4⟩ := (HI.out.kept HG.out).at hlt
            have hsm := HSm.out.2 l[k] (List.getElem_mem hlt)
            have HF := Lib.hid (rfits_any n c l[k])
            have hyes := Lib.hid (fun hh => bI_yes (n := n) (c := c) hlt (by rw [HB.out]; exact hh))
            have hno := Lib.hid (fun hh => bI_no (n := n) (c := c) hlt (by rw [HB.out]; exact hh))
            have HIn := Lib.hid (show innB n c l[k] d = (fitB n c l[k] && decide (d < (nlb l[k].name : Int))) from rfl)
            unfold St.val at HF
            obtain ⟨Ad, cd, hvd, _⟩ := (HI.out.2 l[k] (List.getElem_mem hlt)).shape
            have hns : l[k].name.size ≤ 1000000 := by have := hsm.1; omega
            clear hsm
            generalize l[k] = x at *
            obtain ⟨nm, kd, cl, tt, vd, dat⟩ := x
            simp only at hvd c0 c1 c2 c3 c4 hns
            subst hvd
            have C0 := Lib.hid c0
            go_wp2_with fail
            refine (HF.out _ (by omega) hns).mono ?_
            rintro e w4 ⟨rfl, hg⟩
            have HG4 := Lib.hid (gtrans HG.out hg)
            have HQ4 := Lib.hid (gtrans HQ.out hg)
            have c0 := hg.cell C0.out (by simp)
            have C4 := Lib.hid c0
            clear hg c1 c2 c3 c4 HF C0 HG HQ
            cases hf : fitB n c ⟨nm, kd, cl, tt, .slice Ad dat.length cd, dat⟩ with
            | false =>
              rw [hf, Bool.false_and] at HIn
              have HN := Lib.hid (hno.out HIn.out)
              clear hf hyes hno HIn
              go_wp2_with fail
              go_roundw
              case rel => exact ⟨k + 1, f, d, by omega, by go_num, rfl, rfl, by rw [HN.out, HB.out], HG4.out, HQ4.out⟩
              case measure => simp [intOf]; omega
            | true =>
              rw [hf, Bool.true_and] at HIn
              clear hf
              go_wp2_with fail
              refine (lblabels_any nm _).mono ?_
              rintro e w5 ⟨rfl, hg⟩
              have HG5 := Lib.hid (gtrans HG4.out hg)
              have HQ5 := Lib.hid (gtrans HQ4.out hg)
              have c0 := hg.cell C4.out (by simp)
              clear hg HG4 HQ4 C4
              cases hq : decide (d < (nlb nm : Int)) with
              | false =>
                rw [hq] at HIn
                have HN := Lib.hid (hno.out HIn.out)
                clear hyes hno HIn
                go_wp2_with fail
                go_roundw
                case rel => exact ⟨k + 1, f, d, by omega, by go_num, rfl, rfl, by rw [HN.out, HB.out], HG5.out, HQ5.out⟩
                case measure => simp [intOf]; omega
              | true =>
                rw [hq] at HIn
                have HN := Lib.hid (hyes.out HIn.out)
                clear hyes hno HIn
                go_wp2_with fail
                refine (lblabels_any nm _).mono ?_
                rintro e w6 ⟨rfl, hg⟩
                have HG6 := Lib.hid (gtrans HG5.out hg)
                have HQ6 := Lib.hid (gtrans HQ5.out hg)
                clear hg HG5 HQ5 c0 hq
                go_wp2_with fail
                go_roundw
                case rel => exact ⟨k + 1, (k : Int), (nlb nm : Int), by omega, by go_num, rfl, rfl, HN.out, HG6.out, HQ6.out⟩
                case measure => simp [intOf]; omega
          · have k1 : decide ((k : Int) < (l.length : Int)) = false := by simp; omega
            obtain rfl : k = l.length := by omega
            clear hlt hk
            obtain rfl : f = -1 := by have := HB.out; rw [HBi.out] at this; exact (Prod.mk.inj this).1.symm
            go_wp2_with fail
            go_ret
            exact ⟨rfl, HG.out⟩
      · have hfn : fndF n c l = if l[j].data.length = 1 then .got l[j] else .bad := by
          unfold fndF
          rw [hb, if_neg (by show ¬ ((j : Int) < 0); omega)]
          show (match l[((j : Int)).toNat]? with | none => Fd.non | some x => if x.data.length = 1 then .got x else .bad) = _
          rw [Int.toNat_natCast, List.getElem?_eq_getElem hj]
        have HBi := Lib.hid hb
        have p0 : (0 : Int) ≤ (j : Int) := by omega
        have p1 : (j : Int) < (l.length : Int) := by omega
        have p2 : decide ((j : Int) < 0) = false := by simp
        clear hb
        by_cases h1 : l[j].data.length = 1
        · have HFd := Lib.hid (show fndF n c l = .got l[j] by rw [hfn, if_pos h1])
          have HL1 := Lib.hid h1
          clear hfn h1
          refine (find_got (HI.out.kept G1.out) (by omega) HDs.out HFd.out).mono ?_
          rintro e w2 ⟨va, rfl, hg, ho⟩
          obtain ⟨Aa, ca, rfl, _, _⟩ := own_shape ho
          have G2 := Lib.hid (gtrans G1.out hg)
          have O2 := Lib.hid (FS.of ho).sl
          clear hg ho
          simp only [St.at, St.val]
          go_wp2_with fail
          have G3 := Lib.hid (galloc G2.out (.cells #[.string l[j].name, .int .u16 (l[j].kind : Int), .int .u16 (l[j].cls : Int), .int .u32 (l[j].ttl : Int), .slice Aa l[j].data.length ca] 27))
          have O3 := Lib.hid (O2.out.kept0 (galloc (grefl w2 none) (.cells #[.string l[j].name, .int .u16 (l[j].kind : Int), .int .u16 (l[j].cls : Int), .int .u32 (l[j].ttl : Int), .slice Aa l[j].data.length ca] 27)))
          have B3 := Lib.hid (balloc w2 (.cells #[.string l[j].name, .int .u16 (l[j].kind : Int), .int .u16 (l[j].cls : Int), .int .u32 (l[j].ttl : Int), .slice Aa l[j].data.length ca] 27))
          clear G2 O2
          generalize w2.heap.size = k7 at *
          generalize w2.alloc (.cells #[.string l[j].name, .int .u16 (l[j].kind : Int), .int .u16 (l[j].cls : Int), .int .u32 (l[j].ttl : Int), .slice Aa l[j].data.length ca] 27) = w3 at *
          go_loopw [10, 11, 12] (fun vm vf vi wr => ∃ (k : Nat) (f d : Int), k ≤ l.length ∧ vi = .int .i64 k ∧ vf = .int .i64 f ∧ vm = .int .i64 d ∧ bI n c l k = (f, d) ∧ w.grownBy wr none ∧ w3.grownBy wr none) (fun _ _ vi _ => l.length - (intOf vi).toNat)
          case atStart => exact ⟨0, -1, -1, by omega, rfl, rfl, rfl, rfl, G3.out, grefl _ _⟩
          case round =>
            obtain ⟨k, f, d, hk, rfl, rfl, rfl, hb, hg, hq⟩ := hrel
            have HB := Lib.hid hb
            have HG := Lib.hid hg
            have HQ := Lib.hid hq
            clear hb hg hq
            by_cases hlt : k < l.length
            · have k1 : decide ((k : Int) < (l.length : Int)) = true := by simp; omega
              have q0 : (0 : Int) ≤ (k : Int) := by omega
              have q1 : (k : Int) < (l.length : Int) := by omega
              obtain ⟨b, off, rfl, _, _, c0, c1, c2, c3, c4⟩ := (HI.out.kept HG.out).at hlt
              have hsm := HSm.out.2 l[k] (List.getElem_mem hlt)
              have HF := Lib.hid (rfits_any n c l[k])
              have hyes := Lib.hid (fun hh => bI_yes (n := n) (c := c) hlt (by rw [HB.out]; exact hh))
              have hno := Lib.hid (fun hh => bI_no (n := n) (c := c) hlt (by rw [HB.out]; exact hh))
              have HIn := Lib.hid (show innB n c l[k] d = (fitB n c l[k] && decide (d < (nlb l[k].name : Int))) from rfl)
              unfold St.val at HF
              obtain ⟨Ad, cd, hvd, _⟩ := (HI.out.2 l[k] (List.getElem_mem hlt)).shape
              have hns : l[k].name.size ≤ 1000000 := by have := hsm.1; omega
              clear hsm
              generalize l[k] = x at *
              obtain ⟨nm, kd, cl, tt, vd, dat⟩ := x
              simp only at hvd c0 c1 c2 c3 c4 hns
              subst hvd
              have C0 := Lib.hid c0
              go_wp2_with fail
              refine (HF.out _ (by omega) hns).mono ?_
              rintro e w4 ⟨rfl, hg⟩
              have HG4 := Lib.hid (gtrans HG.out hg)
              have HQ4 := Lib.hid (gtrans HQ.out hg)
              have c0 := hg.cell C0.out (by simp)
              have C4 := Lib.hid c0
              clear hg c1 c2 c3 c4 HF C0 HG HQ
              cases hf : fitB n c ⟨nm, kd, cl, tt, .slice Ad dat.length cd, dat⟩ with
              | false =>
                rw [hf, Bool.false_and] at HIn
                have HN := Lib.hid (hno.out HIn.out)
                clear hf hyes hno HIn
                go_wp2_with fail
                go_roundw
                case rel => exact ⟨k + 1, f, d, by omega, by go_num, rfl, rfl, by rw [HN.out, HB.out], HG4.out, HQ4.out⟩
                case measure => simp [intOf]; omega
              | true =>
                rw [hf, Bool.true_and] at HIn
                clear hf
                go_wp2_with fail
                refine (lblabels_any nm _).mono ?_
                rintro e w5 ⟨rfl, hg⟩
                have HG5 := Lib.hid (gtrans HG4.out hg)
                have HQ5 := Lib.hid (gtrans HQ4.out hg)
                have c0 := hg.cell C4.out (by simp)
                clear hg HG4 HQ4 C4
                cases hq : decide (d < (nlb nm : Int)) with
                | false =>
                  rw [hq] at HIn
                  have HN := Lib.hid (hno.out HIn.out)
                  clear hyes hno HIn
                  go_wp2_with fail
                  go_roundw
                  case rel => exact ⟨k + 1, f, d, by omega, by go_num, rfl, rfl, by rw [HN.out, HB.out], HG5.out, HQ5.out⟩
                  case measure => simp [intOf]; omega
                | true =>
                  rw [hq] at HIn
                  have HN := Lib.hid (hyes.out HIn.out)
                  clear hyes hno HIn
                  go_wp2_with fail
                  refine (lblabels_any nm _).mono ?_
                  rintro e w6 ⟨rfl, hg⟩
                  have HG6 := Lib.hid (gtrans HG5.out hg)
                  have HQ6 := Lib.hid (gtrans HQ5.out hg)
                  clear hg HG5 HQ5 c0 hq
                  go_wp2_with fail
                  go_roundw
                  case rel => exact ⟨k + 1, (k : Int), (nlb nm : Int), by omega, by go_num, rfl, rfl, HN.out, HG6.out, HQ6.out⟩
                  case measure => simp [intOf]; omega
            · have k1 : decide ((k : Int) < (l.length : Int)) = false := by simp; omega
              obtain rfl : k = l.length := by omega
              clear hlt hk
              obtain rfl : f = (j : Int) := by have := HB.out; rw [HBi.out] at this; exact (Prod.mk.inj this).1.symm
              obtain ⟨b, off, rfl, _, _, c0, c1, c2, c3, c4⟩ := (HI.out.kept HG.out).at hj
              have hw := (HI.out.kept HG.out).2 l[j] (List.getElem_mem hj)
              obtain ⟨Ad, cd, hvd, _⟩ := hw.shape
              have k2 : ((l[j].data.length : Int) != 1) = false := by have := HL1.out; simp; omega
              have HSa := Lib.hid (psame_any (l[j].at (.slice Aa l[j].data.length ca)) l[j])
              have HO := Lib.hid (O3.out.kept0 HQ.out)
              have hb7 := gblock HQ.out B3.out (by simp)
              have hsm := HSm.out.2 l[j] (List.getElem_mem hj)
              have hd1 := hsm.2.1
              rw [show smS (l[j].at (.slice Aa l[j].data.length ca)) l[j] = true by unfold smS St.at; simp] at HSa
              clear hsm
              unfold St.at at HSa
              generalize l[j] = x at *
              obtain ⟨nm, kd, cl, tt, vd, dat⟩ := x
              simp only at hvd c0 c1 c2 c3 c4 hd1 k2 HSa hb7 HO
              unfold St.val at HSa
              subst hvd
              have HW := Lib.hid hw
              have HB7 := Lib.hid hb7
              have HC := Lib.hid (And.intro c0 (And.intro c1 (And.intro c2 (And.intro c3 c4))))
              clear hw hb7
              go_wp2_with fail
              clear c0 c1 c2 c3 c4
              have a0 : ∀ g : Gr wr.drew, g.w.cell? ⟨k7, 0, none⟩ = some (.string nm) := Gr.cell (bcellAt HB7.out 0)
              have a1 : ∀ g : Gr wr.drew, g.w.cell? ⟨k7, 1, none⟩ = some (.int .u16 (kd : Int)) := Gr.cell (bcellAt HB7.out 1)
              have a2 : ∀ g : Gr wr.drew, g.w.cell? ⟨k7, 2, none⟩ = some (.int .u16 (cl : Int)) := Gr.cell (bcellAt HB7.out 2)
              have a3 : ∀ g : Gr wr.drew, g.w.cell? ⟨k7, 3, none⟩ = some (.int .u32 (tt : Int)) := Gr.cell (bcellAt HB7.out 3)
              have a4 : ∀ g : Gr wr.drew, g.w.cell? ⟨k7, 4, none⟩ = some (.slice Aa dat.length ca) := Gr.cell (bcellAt HB7.out 4)
              have c0 : ∀ g : Gr wr.drew, g.w.cell? ⟨b, off + j * 5, none⟩ = some (.string nm) := Gr.cell HC.out.1
              have c1 : ∀ g : Gr wr.drew, g.w.cell? ⟨b, off + j * 5 + 1, none⟩ = some (.int .u16 (kd : Int)) := Gr.cell HC.out.2.1
              have c2 : ∀ g : Gr wr.drew, g.w.cell? ⟨b, off + j * 5 + 2, none⟩ = some (.int .u16 (cl : Int)) := Gr.cell HC.out.2.2.1
              have c3 : ∀ g : Gr wr.drew, g.w.cell? ⟨b, off + j * 5 + 3, none⟩ = some (.int .u32 (tt : Int)) := Gr.cell HC.out.2.2.2.1
              have c4 : ∀ g : Gr wr.drew, g.w.cell? ⟨b, off + j * 5 + 4, none⟩ = some (.slice Ad dat.length cd) := Gr.cell HC.out.2.2.2.2
              refine wp_region_segs [(true, [0, 1, 2, 3, 4, 5, 6, 7, 8, 9, 10]), (false, [11]), (true, [12, 13])] (by kernel_rfl) (by kernel_rfl) ?_
              refine wpSegs_quiet rfl ?_
              simp only [List.filterMap_cons, List.filterMap_nil, List.getElem?_toArray, List.getElem?_cons_succ, List.getElem?_cons_zero]
              show wpQuiet _ _ _ _ [_, _, _, _, _, _, _, _, _, _, _] _
              repeat (go_big_quiet_step (fail))
              refine wpQuiet_nil ?_
              clear a0 a1 a2 a3 a4 c0 c1 c2 c3 c4
              refine wpSegs_one (by simp only [List.getElem?_toArray, List.getElem?_cons_succ, List.getElem?_cons_zero]; exact rfl) ?_
              go_wp2_with fail
              refine (HSa.out wr.drew (HO.out.kept0 (gdrew (grefl wr none))) (HW.out.kept (gdrew (grefl wr none))) (by show dat.length ≤ 1000000; omega)).mono ?_
              rintro e w7 ⟨rfl, hg⟩
              have HG7 := Lib.hid (gtrans (gdrew HG.out) hg)
              go_wp2_with fail
              refine ⟨hg, ?_⟩
              clear hg
              refine wpSegs_quiet rfl ?_
              simp only [List.filterMap_cons, List.filterMap_nil, List.getElem?_toArray, List.getElem?_cons_succ, List.getElem?_cons_zero]
              show wpQuiet _ _ _ _ [_, _] _
              repeat (go_big_quiet_step (fail))
              refine wpQuiet_nil ?_
              refine wpSegs_done ?_
              go_wp2_with fail
              go_ret
              exact ⟨rfl, HG7.out⟩
        · have HFd := Lib.hid (show fndF n c l = .bad by rw [hfn, if_neg h1])
          have HL1 := Lib.hid h1
          clear hfn h1
          refine (find_bad (HI.out.kept G1.out) (by omega) HDs.out HFd.out).mono ?_
          rintro e w2 ⟨rfl, hg⟩
          have G3 := Lib.hid (galloc (gtrans G1.out hg) (.cells #[.string ByteArray.empty, .int .u16 0, .int .u16 0, .int .u32 0, .slice none 0 0] 27))
          clear hg
          unfold zsv
          go_wp2_with fail
          generalize w2.alloc (.cells #[.string ByteArray.empty, .int .u16 0, .int .u16 0, .int .u32 0, .slice none 0 0] 27) = w3 at *
          go_loopw [10, 11, 12] (fun vm vf vi wr => ∃ (k : Nat) (f d : Int), k ≤ l.length ∧ vi = .int .i64 k ∧ vf = .int .i64 f ∧ vm = .int .i64 d ∧ bI n c l k = (f, d) ∧ w.grownBy wr none ∧ w3.grownBy wr none) (fun _ _ vi _ => l.length - (intOf vi).toNat)
          case atStart => exact ⟨0, -1, -1, by omega, rfl, rfl, rfl, rfl, G3.out, grefl _ _⟩
          case round =>
            obtain ⟨k, f, d, hk, rfl, rfl, rfl, hb, hg, hq⟩ := hrel
            have HB := Lib.hid hb
            have HG := Lib.hid hg
            have HQ := Lib.hid hq
            clear hb hg hq
            by_cases hlt : k < l.length
            · have k1 : decide ((k : Int) < (l.length : Int)) = true := by simp; omega
              have q0 : (0 : Int) ≤ (k : Int) := by omega
              have q1 : (k : Int) < (l.length : Int) := by omega
              obtain ⟨b, off, rfl, _, _, c0, c1, c2, c3, c4⟩ := (HI.out.kept HG.out).at hlt
              have hsm := HSm.out.2 l[k] (List.getElem_mem hlt)
              have HF := Lib.hid (rfits_any n c l[k])
              have hyes := Lib.hid (fun hh => bI_yes (n := n) (c := c) hlt (by rw [HB.out]; exact hh))
              have hno := Lib.hid (fun hh => bI_no (n := n) (c := c) hlt (by rw [HB.out]; exact hh))
              have HIn := Lib.hid (show innB n c l[k] d = (fitB n c l[k] && decide (d < (nlb l[k].name : Int))) from rfl)
              unfold St.val at HF
              obtain ⟨Ad, cd, hvd, _⟩ := (HI.out.2 l[k] (List.getElem_mem hlt)).shape
              have hns : l[k].name.size ≤ 1000000 := by have := hsm.1; omega
              clear hsm
              generalize l[k] = x at *
              obtain ⟨nm, kd, cl, tt, vd, dat⟩ := x
              simp only at hvd c0 c1 c2 c3 c4 hns
              subst hvd
              have C0 := Lib.hid c0
              go_wp2_with fail
              refine (HF.out _ (by omega) hns).mono ?_
              rintro e w4 ⟨rfl, hg⟩
              have HG4 := Lib.hid (gtrans HG.out hg)
              have HQ4 := Lib.hid (gtrans HQ.out hg)
              have c0 := hg.cell C0.out (by simp)
              have C4 := Lib.hid c0
              clear hg c1 c2 c3 c4 HF C0 HG HQ
              cases hf : fitB n c ⟨nm, kd, cl, tt, .slice Ad dat.length cd, dat⟩ with
              | false =>
                rw [hf, Bool.false_and] at HIn
                have HN := Lib.hid (hno.out HIn.out)
                clear hf hyes hno HIn
                go_wp2_with fail
                go_roundw
                case rel => exact ⟨k + 1, f, d, by omega, by go_num, rfl, rfl, by rw [HN.out, HB.out], HG4.out, HQ4.out⟩
                case measure => simp [intOf]; omega
              | true =>
                rw [hf, Bool.true_and] at HIn
                clear hf
                go_wp2_with fail
                refine (lblabels_any nm _).mono ?_
                rintro e w5 ⟨rfl, hg⟩
                have HG5 := Lib.hid (gtrans HG4.out hg)
                have HQ5 := Lib.hid (gtrans HQ4.out hg)
                have c0 := hg.cell C4.out (by simp)
                clear hg HG4 HQ4 C4
                cases hq : decide (d < (nlb nm : Int)) with
                | false =>
                  rw [hq] at HIn
                  have HN := Lib.hid (hno.out HIn.out)
                  clear hyes hno HIn
                  go_wp2_with fail
                  go_roundw
                  case rel => exact ⟨k + 1, f, d, by omega, by go_num, rfl, rfl, by rw [HN.out, HB.out], HG5.out, HQ5.out⟩
                  case measure => simp [intOf]; omega
                | true =>
                  rw [hq] at HIn
                  have HN := Lib.hid (hyes.out HIn.out)
                  clear hyes hno HIn
                  go_wp2_with fail
                  refine (lblabels_any nm _).mono ?_
                  rintro e w6 ⟨rfl, hg⟩
                  have HG6 := Lib.hid (gtrans HG5.out hg)
                  have HQ6 := Lib.hid (gtrans HQ5.out hg)
                  clear hg HG5 HQ5 c0 hq
                  go_wp2_with fail
                  go_roundw
                  case rel => exact ⟨k + 1, (k : Int), (nlb nm : Int), by omega, by go_num, rfl, rfl, HN.out, HG6.out, HQ6.out⟩
                  case measure => simp [intOf]; omega
            · have k1 : decide ((k : Int) < (l.length : Int)) = false := by simp; omega
              obtain rfl : k = l.length := by omega
              clear hlt hk
              obtain rfl : f = (j : Int) := by have := HB.out; rw [HBi.out] at this; exact (Prod.mk.inj this).1.symm
              obtain ⟨b, off, rfl, _, _, _, _, _, _, c4⟩ := (HI.out.kept HG.out).at hj
              obtain ⟨Ad, cd, hvd, _⟩ := (HI.out.2 l[j] (List.getElem_mem hj)).shape
              rw [hvd] at c4
              have k2 : ((l[j].data.length : Int) != 1) = true := by have := HL1.out; simp; omega
              generalize l[j] = x at *
              clear hvd
              go_wp2_with fail
              go_ret
              exact ⟨rfl, HG.out⟩
end Go.Proofs.YtomjiephbacocaaDoor
