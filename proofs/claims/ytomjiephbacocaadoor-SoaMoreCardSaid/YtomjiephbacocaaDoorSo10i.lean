/-
  Soa: the document's Find.
-/
import Derived.Test.YtomjiephbacocaaDoorSo10h
import Derived.Test.YtomjiephbacocaaDoorA1
namespace Go.Proofs.YtomjiephbacocaaDoor
open Go.RowKit

/-- What the document says of it. -/
def RdPost (r : Fd) (w : World) (e : Ending) (w' : World) : Prop :=
  w.grownBy w' none ∧ match r with
    | .non => e = .returned (.tuple #[zsv, .bool false, .int .i64 0])
    | .bad => e = .returned (.tuple #[zsv, .bool false, .int .i64 3])
    | .got x => e = .returned (.tuple #[x.val, .bool true, .int .i64 0])
theorem fit_may {n : ByteArray} {c : Nat} {x : St} (h : fitB n c x = true) : may x.name = true := by
  unfold fitB at h
  simp only [Bool.and_eq_true] at h
  exact (wi_may h.2).2

set_option maxRecDepth 100000 in
set_option maxHeartbeats 16000000 in
theorem rfind_any (n : ByteArray) (c : Nat) (v : Value) (l : List St) (w : World) (h : Sts w v l) (hl : l.length ≤ 1000000) (hn : n.size ≤ 1000000) (hd : ∀ x ∈ l, x.name.size ≤ 1000000) : Calls Tryd.prog 11 #[v, .string n, .int .u16 (c : Int)] w (RdPost (fndF n c l) w) := by
  have HI := Lib.hid h
  have HD := Lib.hid hd
  obtain ⟨A, cap, rfl, hcap⟩ := h.shape
  clear h hd
  go_enter Tryd.func11, Tryd.ntmps11
  go_wp2_with fail
  go_loopw [9, 10] (fun vb vi wr => ∃ (k : Nat) (f : Int), k ≤ l.length ∧ vi = .int .i64 k ∧ vb = .int .i64 f ∧ (bI n c l k).1 = f ∧ w.grownBy wr none ∧ wr.heap[w.heap.size]? = some (.cells #[.string ByteArray.empty, .int .u16 0, .int .u16 0, .int .u32 0, .slice none 0 0] 27 (0, 0))) (fun _ vi _ => l.length - (intOf vi).toNat)
  case atStart => exact ⟨0, -1, by omega, rfl, rfl, rfl, galloc (grefl _ _) _, balloc w _⟩
  case round =>
    obtain ⟨k, f, hk, rfl, rfl, hb, hg, hz⟩ := hrel
    have HB := Lib.hid hb
    have HG := Lib.hid hg
    have HZ := Lib.hid hz
    clear hb hg hz
    by_cases hlt : k < l.length
    · have k1 : decide ((k : Int) < (l.length : Int)) = true := by simp; omega
      have q0 : (0 : Int) ≤ (k : Int) := by omega
      have q1 : (k : Int) < (l.length : Int) := by omega
      obtain ⟨b, off, rfl, _, _, c0, c1, c2, c3, c4⟩ := (HI.out.kept HG.out).at hlt
      have HF := Lib.hid (rfits_any n c l[k])
      have hxs := HD.out l[k] (List.getElem_mem hlt)
      have HYes := Lib.hid (bI_yes (n := n) (c := c) hlt)
      have HNo := Lib.hid (bI_no (n := n) (c := c) hlt)
      have HInv := Lib.hid (bI_inv n c l k (by omega))
      have HIn := Lib.hid (show ∀ d, innB n c l[k] d = (fitB n c l[k] && decide (d < (nlb l[k].name : Int))) from fun d => rfl)
      have HMay := Lib.hid (fit_may (n := n) (c := c) (x := l[k]))
      have hw := HI.out.2 l[k] (List.getElem_mem hlt)
      obtain ⟨Ad, cd, hvd, _⟩ := hw.shape
      clear hw
      unfold St.val at HF
      generalize hX : l[k] = x at *
      obtain ⟨nm, kd, cl, tt, vd, dat⟩ := x
      simp only at hvd c0 c1 c2 c3 c4 hxs
      subst hvd
      have HX := Lib.hid hX
      have C0 := Lib.hid c0
      clear hX
      cases hf : fitB n c ⟨nm, kd, cl, tt, .slice Ad dat.length cd, dat⟩ with
      | false =>
        rw [hf] at HF
        have HN := Lib.hid (HNo.out (by rw [HIn.out, hf]; rfl))
        clear hf HYes HNo HIn HInv HMay
        go_wp2_with fail
        have c0 : ∀ g : Gr wr.drew, g.w.cell? ⟨b, off + k * 5, none⟩ = some (.string nm) := Gr.cell c0
        have c1 : ∀ g : Gr wr.drew, g.w.cell? ⟨b, off + k * 5 + 1, none⟩ = some (.int .u16 (kd : Int)) := Gr.cell c1
        have c2 : ∀ g : Gr wr.drew, g.w.cell? ⟨b, off + k * 5 + 2, none⟩ = some (.int .u16 (cl : Int)) := Gr.cell c2
        have c3 : ∀ g : Gr wr.drew, g.w.cell? ⟨b, off + k * 5 + 3, none⟩ = some (.int .u32 (tt : Int)) := Gr.cell c3
        have c4 : ∀ g : Gr wr.drew, g.w.cell? ⟨b, off + k * 5 + 4, none⟩ = some (.slice Ad dat.length cd) := Gr.cell c4
        refine wp_region_segs [(true, [0, 1, 2, 3, 4, 5]), (false, [6]), (true, [7, 8, 9, 10, 11, 12, 13, 14, 15, 17, 18, 19, 20, 21]), (false, [16]), (false, [22]), (true, [23, 24, 25])] (by kernel_rfl) (by kernel_rfl) ?_
        refine wpSegs_quiet rfl ?_
        simp only [List.filterMap_cons, List.filterMap_nil, List.getElem?_toArray, List.getElem?_cons_succ, List.getElem?_cons_zero]
        show wpQuiet _ _ _ _ [_, _, _, _, _, _] _
        repeat (go_big_quiet_step (fail))
        refine wpQuiet_nil ?_
        clear c0 c1 c2 c3 c4
        have HGd := Lib.hid (gdrew HG.out)
        have HZd := Lib.hid (gblock (gdrew (grefl wr none)) HZ.out (by simp))
        have Cd := Lib.hid ((gdrew (grefl wr none)).cell C0.out (by simp))
        clear HG HZ C0
        generalize wr.drew = wd at *
        refine wpSegs_one (by simp only [List.getElem?_toArray, List.getElem?_cons_succ, List.getElem?_cons_zero]; exact rfl) ?_
        go_wp2_with fail
        refine (HF.out _ hn hxs).mono ?_
        rintro e w3 ⟨rfl, hg3⟩
        have HG3 := Lib.hid (gtrans HGd.out hg3)
        have HZ3 := Lib.hid (gblock hg3 HZd.out (by simp))
        have c0 : ∀ g : Gr w3, g.w.cell? ⟨b, off + k * 5, none⟩ = some (.string nm) := Gr.cell (hg3.cell Cd.out (by simp))
        have HC3 := Lib.hid (hg3.cell Cd.out (by simp))
        have HQ3 := Lib.hid hg3
        clear hg3 HGd HZd Cd HF
        go_wp2_with fail
        refine ⟨HQ3.out, ?_⟩
        clear HQ3
        refine wpSegs_quiet rfl ?_
        simp only [List.filterMap_cons, List.filterMap_nil, List.getElem?_toArray, List.getElem?_cons_succ, List.getElem?_cons_zero]
        show wpQuiet _ _ _ _ [_, _, _, _, _, _, _, _, _, _, _, _, _, _] _
        repeat (go_big_quiet_step (fail))
        refine wpQuiet_nil ?_
        refine wpSegs_one (by simp only [List.getElem?_toArray, List.getElem?_cons_succ, List.getElem?_cons_zero]; exact rfl) ?_
        go_wp2_with fail
        refine ⟨grefl _ _, ?_⟩
        refine wpSegs_one (by simp only [List.getElem?_toArray, List.getElem?_cons_succ, List.getElem?_cons_zero]; exact rfl) ?_
        go_wp2_with fail
        refine ⟨grefl _ _, ?_⟩
        refine wpSegs_quiet rfl ?_
        simp only [List.filterMap_cons, List.filterMap_nil, List.getElem?_toArray, List.getElem?_cons_succ, List.getElem?_cons_zero]
        show wpQuiet _ _ _ _ [_, _, _] _
        repeat (go_big_quiet_step (fail))
        refine wpQuiet_nil ?_
        refine wpSegs_done ?_
        clear c0
        go_wp2_with fail
        go_roundw
        case rel => exact ⟨k + 1, f, by omega, by go_num, rfl, by rw [HN.out, HB.out], HG3.out, HZ3.out⟩
        case measure => simp [intOf]; omega
      | true =>
        rw [hf] at HF
        have hmay := HMay.out hf
        rcases HInv.out with hbi | ⟨j, hj, hjk, hbi, hfj⟩
        · have HN := Lib.hid (HYes.out (by rw [hbi, HIn.out, hf]; simp; omega))
          obtain rfl : f = -1 := by have := HB.out; rw [hbi] at this; exact this.symm
          clear hf HYes HNo HIn HInv HMay hbi hmay
          go_wp2_with fail
          have c0 : ∀ g : Gr wr.drew, g.w.cell? ⟨b, off + k * 5, none⟩ = some (.string nm) := Gr.cell c0
          have c1 : ∀ g : Gr wr.drew, g.w.cell? ⟨b, off + k * 5 + 1, none⟩ = some (.int .u16 (kd : Int)) := Gr.cell c1
          have c2 : ∀ g : Gr wr.drew, g.w.cell? ⟨b, off + k * 5 + 2, none⟩ = some (.int .u16 (cl : Int)) := Gr.cell c2
          have c3 : ∀ g : Gr wr.drew, g.w.cell? ⟨b, off + k * 5 + 3, none⟩ = some (.int .u32 (tt : Int)) := Gr.cell c3
          have c4 : ∀ g : Gr wr.drew, g.w.cell? ⟨b, off + k * 5 + 4, none⟩ = some (.slice Ad dat.length cd) := Gr.cell c4
          refine wp_region_segs [(true, [0, 1, 2, 3, 4, 5]), (false, [6]), (true, [7, 8, 9, 10, 11, 12, 13, 14, 15, 17, 18, 19, 20, 21]), (false, [16]), (false, [22]), (true, [23, 24, 25])] (by kernel_rfl) (by kernel_rfl) ?_
          refine wpSegs_quiet rfl ?_
          simp only [List.filterMap_cons, List.filterMap_nil, List.getElem?_toArray, List.getElem?_cons_succ, List.getElem?_cons_zero]
          show wpQuiet _ _ _ _ [_, _, _, _, _, _] _
          repeat (go_big_quiet_step (fail))
          refine wpQuiet_nil ?_
          clear c0 c1 c2 c3 c4
          have HGd := Lib.hid (gdrew HG.out)
          have HZd := Lib.hid (gblock (gdrew (grefl wr none)) HZ.out (by simp))
          have Cd := Lib.hid ((gdrew (grefl wr none)).cell C0.out (by simp))
          clear HG HZ C0
          generalize wr.drew = wd at *
          refine wpSegs_one (by simp only [List.getElem?_toArray, List.getElem?_cons_succ, List.getElem?_cons_zero]; exact rfl) ?_
          go_wp2_with fail
          refine (HF.out _ hn hxs).mono ?_
          rintro e w3 ⟨rfl, hg3⟩
          have HG3 := Lib.hid (gtrans HGd.out hg3)
          have HZ3 := Lib.hid (gblock hg3 HZd.out (by simp))
          have c0 : ∀ g : Gr w3, g.w.cell? ⟨b, off + k * 5, none⟩ = some (.string nm) := Gr.cell (hg3.cell Cd.out (by simp))
          have HC3 := Lib.hid (hg3.cell Cd.out (by simp))
          have HQ3 := Lib.hid hg3
          clear hg3 HGd HZd Cd HF
          go_wp2_with fail
          refine ⟨HQ3.out, ?_⟩
          clear HQ3
          refine wpSegs_quiet rfl ?_
          simp only [List.filterMap_cons, List.filterMap_nil, List.getElem?_toArray, List.getElem?_cons_succ, List.getElem?_cons_zero]
          show wpQuiet _ _ _ _ [_, _, _, _, _, _, _, _, _, _, _, _, _, _] _
          repeat (go_big_quiet_step (fail))
          refine wpQuiet_nil ?_
          refine wpSegs_one (by simp only [List.getElem?_toArray, List.getElem?_cons_succ, List.getElem?_cons_zero]; exact rfl) ?_
          go_wp2_with fail
          refine ⟨grefl _ _, ?_⟩
          refine wpSegs_one (by simp only [List.getElem?_toArray, List.getElem?_cons_succ, List.getElem?_cons_zero]; exact rfl) ?_
          go_wp2_with fail
          refine ⟨grefl _ _, ?_⟩
          refine wpSegs_quiet rfl ?_
          simp only [List.filterMap_cons, List.filterMap_nil, List.getElem?_toArray, List.getElem?_cons_succ, List.getElem?_cons_zero]
          show wpQuiet _ _ _ _ [_, _, _] _
          repeat (go_big_quiet_step (fail))
          refine wpQuiet_nil ?_
          refine wpSegs_done ?_
          clear c0
          go_wp2_with fail
          go_roundw
          case rel => exact ⟨k + 1, (k : Int), by omega, by go_num, rfl, by rw [HN.out], HG3.out, HZ3.out⟩
          case measure => simp [intOf]; omega
        · obtain rfl : f = (j : Int) := by have := HB.out; rw [hbi] at this; exact this.symm
          have hmj := fit_may hfj
          have hjs := HD.out l[j] (List.getElem_mem hj)
          obtain ⟨b', off', he', _, _, e0, _, _, _, _⟩ := (HI.out.kept HG.out).at hj
          simp only [Option.some.injEq, Addr.mk.injEq, and_true] at he'
          obtain ⟨rfl, rfl⟩ := he'
          have E0 := Lib.hid e0
          have HB0 := Lib.hid (show bI n c l k = ((j : Int), (nlb l[j].name : Int)) from hbi)
          have HCmp := Lib.hid (show ∀ q : Bool, decide ((nlb l[j].name : Int) < (nlb nm : Int)) = q → innB n c ⟨nm, kd, cl, tt, .slice Ad dat.length cd, dat⟩ (bI n c l k).2 = q from fun q hq => by rw [hbi, HIn.out, hf]; simpa using hq)
          have p0 : (0 : Int) ≤ (j : Int) := by omega
          have p1 : (j : Int) < (l.length : Int) := by omega
          have p2 : decide ((j : Int) < 0) = false := by simp
          have HLk := Lib.hid (fun w => rblabels_any nm w (by omega) hmay)
          have HLj := Lib.hid (fun w => rblabels_any l[j].name w (by omega) hmj)
          clear hf HIn HInv HMay hbi hmay hmj hfj e0 hjs
          generalize l[j].name = nj at *
          go_wp2_with fail
          have c0 : ∀ g : Gr wr.drew, g.w.cell? ⟨b, off + k * 5, none⟩ = some (.string nm) := Gr.cell c0
          have c1 : ∀ g : Gr wr.drew, g.w.cell? ⟨b, off + k * 5 + 1, none⟩ = some (.int .u16 (kd : Int)) := Gr.cell c1
          have c2 : ∀ g : Gr wr.drew, g.w.cell? ⟨b, off + k * 5 + 2, none⟩ = some (.int .u16 (cl : Int)) := Gr.cell c2
          have c3 : ∀ g : Gr wr.drew, g.w.cell? ⟨b, off + k * 5 + 3, none⟩ = some (.int .u32 (tt : Int)) := Gr.cell c3
          have c4 : ∀ g : Gr wr.drew, g.w.cell? ⟨b, off + k * 5 + 4, none⟩ = some (.slice Ad dat.length cd) := Gr.cell c4
          refine wp_region_segs [(true, [0, 1, 2, 3, 4, 5]), (false, [6]), (true, [7, 8, 9, 10, 11, 12, 13, 14, 15, 17, 18, 19, 20, 21]), (false, [16]), (false, [22]), (true, [23, 24, 25])] (by kernel_rfl) (by kernel_rfl) ?_
          refine wpSegs_quiet rfl ?_
          simp only [List.filterMap_cons, List.filterMap_nil, List.getElem?_toArray, List.getElem?_cons_succ, List.getElem?_cons_zero]
          show wpQuiet _ _ _ _ [_, _, _, _, _, _] _
          repeat (go_big_quiet_step (fail))
          refine wpQuiet_nil ?_
          clear c0 c1 c2 c3 c4
          have HGd := Lib.hid (gdrew HG.out)
          have HEd := Lib.hid ((gdrew (grefl wr none)).cell E0.out (by simp))
          have HZd := Lib.hid (gblock (gdrew (grefl wr none)) HZ.out (by simp))
          have Cd := Lib.hid ((gdrew (grefl wr none)).cell C0.out (by simp))
          clear HG HZ C0 E0
          generalize wr.drew = wd at *
          refine wpSegs_one (by simp only [List.getElem?_toArray, List.getElem?_cons_succ, List.getElem?_cons_zero]; exact rfl) ?_
          go_wp2_with fail
          refine (HF.out _ hn hxs).mono ?_
          rintro e w3 ⟨rfl, hg3⟩
          have HG3 := Lib.hid (gtrans HGd.out hg3)
          have HE3 := Lib.hid (hg3.cell HEd.out (by simp))
          have HZ3 := Lib.hid (gblock hg3 HZd.out (by simp))
          have c0 : ∀ g : Gr w3, g.w.cell? ⟨b, off + k * 5, none⟩ = some (.string nm) := Gr.cell (hg3.cell Cd.out (by simp))
          have HC3 := Lib.hid (hg3.cell Cd.out (by simp))
          have HQ3 := Lib.hid hg3
          clear hg3 HGd HZd Cd HF
          go_wp2_with fail
          refine ⟨HQ3.out, ?_⟩
          clear HQ3
          have e0 : ∀ g : Gr w3, g.w.cell? ⟨b, off + j * 5, none⟩ = some (.string nj) := Gr.cell HE3.out
          refine wpSegs_quiet rfl ?_
          simp only [List.filterMap_cons, List.filterMap_nil, List.getElem?_toArray, List.getElem?_cons_succ, List.getElem?_cons_zero]
          show wpQuiet _ _ _ _ [_, _, _, _, _, _, _, _, _, _, _, _, _, _] _
          repeat (go_big_quiet_step (fail))
          refine wpQuiet_nil ?_
          refine wpSegs_one (by simp only [List.getElem?_toArray, List.getElem?_cons_succ, List.getElem?_cons_zero]; exact rfl) ?_
          go_wp2_with fail
          refine (HLk.out _).mono ?_
          rintro e w4 ⟨rfl, hg4⟩
          have HG4 := Lib.hid (gtrans HG3.out hg4)
          have HZ4 := Lib.hid (gblock hg4 HZ3.out (by simp))
          clear c0 e0
          have HQ4 := Lib.hid hg4
          clear hg4 HG3 HZ3
          go_wp2_with fail
          refine ⟨HQ4.out, ?_⟩
          clear HQ4
          refine wpSegs_one (by simp only [List.getElem?_toArray, List.getElem?_cons_succ, List.getElem?_cons_zero]; exact rfl) ?_
          go_wp2_with fail
          refine (HLj.out _).mono ?_
          rintro e w5 ⟨rfl, hg5⟩
          have HG5 := Lib.hid (gtrans HG4.out hg5)
          have HZ5 := Lib.hid (gblock hg5 HZ4.out (by simp))
          have HQ5 := Lib.hid hg5
          clear hg5 HG4 HZ4
          go_wp2_with fail
          refine ⟨HQ5.out, ?_⟩
          clear HQ5
          by_cases hc : nlb nj < nlb nm
          · have r0 : decide ((nlb nj : Int) < (nlb nm : Int)) = true := by simp; omega
            have r1 : decide (nlb nj < nlb nm) = true := by simp; omega
            have HN := Lib.hid (HYes.out (HCmp.out true r0))
            clear HYes HNo HCmp hc
            refine wpSegs_quiet rfl ?_
            simp only [List.filterMap_cons, List.filterMap_nil, List.getElem?_toArray, List.getElem?_cons_succ, List.getElem?_cons_zero]
            show wpQuiet _ _ _ _ [_, _, _] _
            repeat (go_big_quiet_step (fail))
            refine wpQuiet_nil ?_
            refine wpSegs_done ?_
            clear r0 r1
            go_wp2_with fail
            go_roundw
            case rel => exact ⟨k + 1, (k : Int), by omega, by go_num, rfl, by rw [HN.out], HG5.out, HZ5.out⟩
            case measure => simp [intOf]; omega
          · have r0 : decide ((nlb nj : Int) < (nlb nm : Int)) = false := by simp; omega
            have r1 : decide (nlb nj < nlb nm) = false := by simp; omega
            have HN := Lib.hid (HNo.out (HCmp.out false r0))
            clear HYes HNo HCmp hc
            refine wpSegs_quiet rfl ?_
            simp only [List.filterMap_cons, List.filterMap_nil, List.getElem?_toArray, List.getElem?_cons_succ, List.getElem?_cons_zero]
            show wpQuiet _ _ _ _ [_, _, _] _
            repeat (go_big_quiet_step (fail))
            refine wpQuiet_nil ?_
            refine wpSegs_done ?_
            clear r0 r1
            go_wp2_with fail
            go_roundw
            case rel => exact ⟨k + 1, (j : Int), by omega, by go_num, rfl, by rw [HN.out, HB0.out], HG5.out, HZ5.out⟩
            case measure => simp [intOf]; omega
    · have k1 : decide ((k : Int) < (l.length : Int)) = false := by simp; omega
      obtain rfl : k = l.length := by omega
      clear hlt hk
      rcases bI_inv n c l l.length (Nat.le_refl _) with hbi | ⟨j, hj, _, hbi, _⟩
      · obtain rfl : f = -1 := by have := HB.out; rw [hbi] at this; exact this.symm
        have HE := Lib.hid (show fndF n c l = .non by unfold fndF; rw [hbi]; rfl)
        obtain ⟨⟨m0, m1, m2, m3, m4⟩, f0, f1, f2, f3, f4⟩ := cells5 HZ.out
        clear hbi HB
        go_wp2_with fail
        refine bodyPost_ret (results_crr rfl _ _ w.heap.size _ _ _ _ rfl (bset5_ HZ.out _ _ _ _ _) Tryd.underlying27 rfl (by kernel_rfl)) rfl ?_
        rw [HE.out]
        exact ⟨gstepo HG.out (gset5_ _ _ _ _ _ _ _) (Nat.le_refl _), rfl⟩
      · obtain rfl : f = (j : Int) := by have := HB.out; rw [hbi] at this; exact this.symm
        obtain ⟨b, off, rfl, _, _, c0, c1, c2, c3, c4⟩ := (HI.out.kept HG.out).at hj
        have hw := HI.out.2 l[j] (List.getElem_mem hj)
        have hfn : fndF n c l = if l[j].data.length = 1 then .got l[j] else .bad := by
          unfold fndF
          rw [hbi, if_neg (by show ¬ ((j : Int) < 0); omega)]
          show (match l[((j : Int)).toNat]? with | none => Fd.non | some x => if x.data.length = 1 then .got x else .bad) = _
          rw [Int.toNat_natCast, List.getElem?_eq_getElem hj]
        clear hbi HB
        generalize l[j] = x at *
        obtain ⟨Ad, cd, hvd, _⟩ := hw.shape
        obtain ⟨nm, kd, cl, tt, vd, dat⟩ := x
        simp only at hvd c0 c1 c2 c3 c4 hfn
        subst hvd
        have HFn := Lib.hid hfn
        clear hw hfn
        have p0 : (0 : Int) ≤ (j : Int) := by omega
        have p1 : (j : Int) < (l.length : Int) := by omega
        have p2 : decide ((j : Int) < 0) = false := by simp
        obtain ⟨⟨m0, m1, m2, m3, m4⟩, f0, f1, f2, f3, f4⟩ := cells5 HZ.out
        by_cases h1 : dat.length = 1
        · have q3 : ((dat.length : Int) != 1) = false := by simp; omega
          have HE := Lib.hid (show fndF n c l = .got ⟨nm, kd, cl, tt, .slice Ad dat.length cd, dat⟩ by rw [HFn.out, if_pos h1])
          clear h1
          go_wp2_with fail
          refine bodyPost_ret (results_crr rfl _ _ w.heap.size _ _ _ _ rfl (bset5_ HZ.out _ _ _ _ _) Tryd.underlying27 rfl (by kernel_rfl)) rfl ?_
          rw [HE.out]
          exact ⟨gstepo HG.out (gset5_ _ _ _ _ _ _ _) (Nat.le_refl _), rfl⟩
        · have q3 : ((dat.length : Int) != 1) = true := by simp; omega
          have HE := Lib.hid (show fndF n c l = .bad by rw [HFn.out, if_neg h1])
          clear h1
          go_wp2_with fail
          refine bodyPost_ret (results_crr rfl _ _ w.heap.size _ _ _ _ rfl (bset5_ HZ.out _ _ _ _ _) Tryd.underlying27 rfl (by kernel_rfl)) rfl ?_
          rw [HE.out]
          exact ⟨gstepo HG.out (gset5_ _ _ _ _ _ _ _) (Nat.le_refl _), rfl⟩
end Go.Proofs.YtomjiephbacocaaDoor
