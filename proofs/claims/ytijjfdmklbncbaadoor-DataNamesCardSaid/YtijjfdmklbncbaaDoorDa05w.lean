/-
  DataNames.
-/
import Derived.Test.YtijjfdmklbncbaaDoorDa05v
import Derived.Test.YtijjfdmklbncbaaDoorDa05n
import Derived.Deep.RegionWith
namespace Go.Proofs.YtijjfdmklbncbaaDoor
open Go.RowKit

/-- Rows as they lie in memory. -/
structure Rbk (w : World) (k : Nat) (vals : List Value) (wr : World) : Prop where
  gr : w.grownBy wr none
  lk : w.heap.size ≤ k
  blk : ∃ t, wr.heap[k]? = some (.cells vals.toArray t (0, 0))
theorem Rbk.next {w w1 w2 : World} {k : Nat} {vals : List Value} (h : Rbk w k vals w1) (g : w1.grownBy w2 none) : Rbk w k vals w2 := by
  obtain ⟨t, ht⟩ := h.blk
  exact ⟨gtrans h.gr g, h.lk, t, gblock g ht (by simp)⟩
theorem Rbk.at {α : Type} {f : α → List Value} {w wr : World} {k i : Nat} {l : List α} (hf : ∀ a, (f a).length = 3) (h : Rbk w k (l.flatMap f) wr) (hi : i < l.length) (j : Nat) (hj : j < 3) : wr.cell? ⟨k, i * 3 + j, none⟩ = (f l[i])[j]? := by
  obtain ⟨t, ht⟩ := h.blk
  rw [bcellAt ht, List.getElem?_toArray]
  exact flat_get f 3 hf l i j hj l[i] (List.getElem?_eq_getElem hi)
theorem ext_one (s : ByteArray) (j : Nat) (h : j < s.size) : s.extract j (j + 1) = ⟨#[s[j]]⟩ := by
  rw [exK_eq]
  unfold exK
  rw [show j + 1 - j = 1 by omega, List.drop_eq_getElem_cons (by rw [nlen]; exact h)]
  rfl
theorem e2_step (s : ByteArray) (j : Nat) (h : j < s.size) : (⟨((s.data.toList.take j).map e2).toArray⟩ : ByteArray) ++ ⟨#[e2 s[j]]⟩ = ⟨((s.data.toList.take (j + 1)).map e2).toArray⟩ := by
  rw [take_snoc s j h, List.map_append]
  exact mk_append_list _ [e2 s[j]]

set_option maxRecDepth 100000 in
set_option maxHeartbeats 8000000 in
theorem dnames_walk (w : World) (he : Et w) : Calls Tryd.prog 8 #[] w fun e w' => e = .returned (.bool true) ∧ w.grownBy w' none := by
  have HE := Lib.hid he
  clear he
  have LT := Lib.hid (show (0 : Int) ≤ 9223372036854775807 by decide)
  have HR1 := Lib.hid (show rows1.length = 13 from rfl)
  have HR2 := Lib.hid (show rows2.length = 19 from rfl)
  go_enter Tryd.func8, Tryd.ntmps8
  go_wp2_with fail
  refine Calls.mono (awake05 w HE.out) ?_
  rintro e w1 ⟨rfl, hg⟩
  have G1 := Lib.hid hg
  clear hg
  go_wp2_with fail
  go_loopw [66] (fun vi wr => ∃ i : Nat, i ≤ 13 ∧ vi = .int .i64 i ∧ Rbk w w1.heap.size (rows1.flatMap r1v) wr) (fun vi _ => 13 - (intOf vi).toNat)
  case atStart => exact ⟨0, by omega, rfl, galloc G1.out _, G1.out.size, _, balloc _ _⟩
  case round =>
    obtain ⟨i, hi, rfl, hr⟩ := hrel
    have R0 := Lib.hid hr
    clear hr
    by_cases hlt : i < 13
    · have q0 : decide ((i : Int) < 13) = true := by simp; omega
      have HB := Lib.hid (show i < rows1.length by rw [HR1.out]; exact hlt)
      have c0 := R0.out.at (f := r1v) (fun _ => rfl) HB.out 0 (by omega)
      have c1 := R0.out.at (f := r1v) (fun _ => rfl) HB.out 1 (by omega)
      have c2 := R0.out.at (f := r1v) (fun _ => rfl) HB.out 2 (by omega)
      have HO := Lib.hid (rows1_ok _ (List.getElem_mem HB.out))
      generalize rows1[i] = r at *
      clear HB
      obtain ⟨kd, s, n⟩ := r
      have c0' : wr.cell? ⟨w1.heap.size, i * 3, none⟩ = some (.int .u16 (kd : Int)) := c0
      have c1' : wr.cell? ⟨w1.heap.size, i * 3 + 1, none⟩ = some (.string s) := c1
      have c2' : wr.cell? ⟨w1.heap.size, i * 3 + 2, none⟩ = some (.int .i64 (n : Int)) := c2
      clear c0 c1 c2
      have hsz : s.size ≤ 100 := HO.out.size
      have KR := Lib.hid (fun w h => rdata_is s 0 (s.size : Int) kd w h (by omega) LT _ _ (rdD_whole HO.out.may))
      have KM := Lib.hid (fun w h => mayd_any kd s w h (by omega))
      have KN := Lib.hid (fun w h => names_any kd s w h (by omega))
      have KF := Lib.hid (fun w h => foldd_any kd s w h (by omega))
      rw [HO.out.may] at KM
      rw [HO.out.fold] at KF
      have hnm : (nms (whL kd s)).length = n := HO.out.nms
      generalize nms (whL kd s) = NN at *
      subst hnm
      have hfs : (e2B s).size ≤ 100 := by unfold e2B; rw [size_mk, List.length_map, nlen]; exact hsz
      go_wp2_with fail
      go_loop [7, 8] (fun vf vj => ∃ j : Nat, vj = .int .i64 j ∧ j ≤ s.size ∧ vf = .string ⟨((s.data.toList.take j).map e2).toArray⟩) (fun _ vj => s.size - (intOf vj).toNat)
      case atStart => exact ⟨0, rfl, by omega, rfl⟩
      case round =>
        obtain ⟨j, rfl, hj, rfl⟩ := hrel
        have hOs : (⟨((s.data.toList.take j).map e2).toArray⟩ : ByteArray).size ≤ 100 := by rw [size_mk, List.length_map, List.length_take]; omega
        by_cases hjl : j < s.size
        · have r0 : decide ((j : Int) < (s.size : Int)) = true := by simp; omega
          have HX := Lib.hid (ext_one s j hjl)
          have hxs : (s.extract j (j + 1)).size = 1 := by rw [HX.out]; rfl
          have HS := Lib.hid (e2_step s j hjl)
          by_cases h69 : s[j] = 69
          · have r1 : ((s.extract j (j + 1)).toList == [69]) = true := by rw [HX.out, h69, ByteArray.toList_eq]; rfl
            have HC := Lib.hid (show (⟨#[e2 s[j]]⟩ : ByteArray) = ⟨#[101]⟩ by rw [h69]; rfl)
            rw [HC.out] at HS
            clear h69
            generalize (⟨((s.data.toList.take j).map e2).toArray⟩ : ByteArray) = O at *
            go_wp2_with fail
            go_round
            case rel => exact ⟨j + 1, by go_num, by omega, by rw [← HS.out]⟩
            case measure => simp [intOf]; omega
          · have r1 : ((s.extract j (j + 1)).toList == [69]) = false := by
              rw [HX.out, ByteArray.toList_eq]
              simpa using h69
            have HC := Lib.hid (show (⟨#[e2 s[j]]⟩ : ByteArray) = s.extract j (j + 1) by rw [HX.out]; unfold e2; rw [if_neg h69])
            rw [HC.out] at HS
            clear h69
            generalize (⟨((s.data.toList.take j).map e2).toArray⟩ : ByteArray) = O at *
            go_wp2_with fail
            go_round
            case rel => exact ⟨j + 1, by go_num, by omega, by rw [HS.out]⟩
            case measure => simp [intOf]; omega
        · have r0 : decide ((j : Int) < (s.size : Int)) = false := by simp; omega
          have HF := Lib.hid (show (⟨((s.data.toList.take j).map e2).toArray⟩ : ByteArray) = e2B s by rw [List.take_of_length_le (by rw [nlen]; omega)]; rfl)
          rw [HF.out] at hOs ⊢
          clear HF
          generalize e2B s = FD at *
          have n1 : (FD.toList == FD.toList) = true := by simp
          have n2 : (s.toList == s.toList) = true := by simp
          have n3 : ((NN.length : Int) != (NN.length : Int)) = false := by simp
          have R1 := Lib.hid (R0.out.next (galloc (grefl wr none) (.cells #[.int .u16 (kd : Int), .string s, .int .i64 (NN.length : Int)] 48)))
          have B1 := Lib.hid (balloc wr (.cells #[.int .u16 (kd : Int), .string s, .int .i64 (NN.length : Int)] 48))
          clear R0
          go_wp2_with fail
          refine Calls.mono (KR.out _ (HE.out.kept R1.out.gr (by simp))) ?_
          rintro e wq ⟨rfl, hq⟩
          have R2 := Lib.hid (R1.out.next hq)
          have B2 := Lib.hid (gblock hq B1.out (by simp))
          clear R1 B1 hq KR
          have z0 : wq.cell? ⟨wr.heap.size, 0, none⟩ = some (.int .u16 (kd : Int)) := by rw [bcellAt B2.out]; rfl
          have z1 : wq.cell? ⟨wr.heap.size, 1, none⟩ = some (.string s) := by rw [bcellAt B2.out]; rfl
          have z2 : wq.cell? ⟨wr.heap.size, 2, none⟩ = some (.int .i64 (NN.length : Int)) := by rw [bcellAt B2.out]; rfl
          clear B2
          go_wp2_with fail
          have y0 := (gdrew (grefl wq none)).cell z0 (by simp)
          have y1 := (gdrew (grefl wq none)).cell z1 (by simp)
          have y2 := (gdrew (grefl wq none)).cell z2 (by simp)
          have R3 := Lib.hid (R2.out.next (gdrew (grefl wq none)))
          clear z0 z1 z2 R2
          have c0 : ∀ g : Gr wq.drew, g.w.cell? ⟨wr.heap.size, 0, none⟩ = some (.int .u16 (kd : Int)) := Gr.cell ( y0)
          have c1 : ∀ g : Gr wq.drew, g.w.cell? ⟨wr.heap.size, 1, none⟩ = some (.string s) := Gr.cell ( y1)
          have c2 : ∀ g : Gr wq.drew, g.w.cell? ⟨wr.heap.size, 2, none⟩ = some (.int .i64 (NN.length : Int)) := Gr.cell ( y2)
          refine wp_region_segs [(true, [0, 1, 2, 3]), (false, [4]), (true, [5, 6, 7, 8, 9, 10, 13, 14]), (false, [11]), (false, [12]), (true, [15, 16, 17, 18, 19, 20, 21, 23]), (false, [22]), (true, [24, 25, 26, 27, 28, 29, 30, 31, 32, 33, 34, 35])] (by kernel_rfl) (by kernel_rfl) ?_
          refine wpSegs_quiet rfl ?_
          simp only [List.filterMap_cons, List.filterMap_nil, List.getElem?_toArray, List.getElem?_cons_succ, List.getElem?_cons_zero]
          show wpQuiet _ _ _ _ [_, _, _, _] _
          repeat (go_big_quiet_step (fail))
          refine wpQuiet_nil ?_
          clear c0 c1 c2
          generalize wq.drew = wd at *
          refine wpSegs_one (by simp only [List.getElem?_toArray, List.getElem?_cons_succ, List.getElem?_cons_zero]; exact rfl) ?_
          go_wp2_with fail
          refine Calls.mono (KM.out _ (HE.out.kept R3.out.gr (by simp))) ?_
          rintro e wm ⟨rfl, hm⟩
          go_wp2_with fail
          refine ⟨hm, ?_⟩
          have m0 := hm.cell y0 (by simp)
          have m1 := hm.cell y1 (by simp)
          have m2 := hm.cell y2 (by simp)
          have R4 := Lib.hid (R3.out.next hm)
          clear y0 y1 y2 hm R3
          have c0 : ∀ g : Gr wm, g.w.cell? ⟨wr.heap.size, 0, none⟩ = some (.int .u16 (kd : Int)) := Gr.cell ( m0)
          have c1 : ∀ g : Gr wm, g.w.cell? ⟨wr.heap.size, 1, none⟩ = some (.string s) := Gr.cell ( m1)
          have c2 : ∀ g : Gr wm, g.w.cell? ⟨wr.heap.size, 2, none⟩ = some (.int .i64 (NN.length : Int)) := Gr.cell ( m2)
          refine wpSegs_quiet rfl ?_
          simp only [List.filterMap_cons, List.filterMap_nil, List.getElem?_toArray, List.getElem?_cons_succ, List.getElem?_cons_zero]
          show wpQuiet _ _ _ _ [_, _, _, _, _, _, _, _] _
          repeat (go_big_quiet_step (fail))
          refine wpQuiet_nil ?_
          clear c0 c1 c2
          refine wpSegs_one (by simp only [List.getElem?_toArray, List.getElem?_cons_succ, List.getElem?_cons_zero]; exact rfl) ?_
          go_wp2_with fail
          refine Calls.mono (KN.out _ (HE.out.kept R4.out.gr (by simp))) ?_
          rintro e wn ⟨vn, rfl, ho, hn⟩
          obtain ⟨An, cn, rfl, _, _⟩ := own_shape ho
          clear ho
          go_wp2_with fail
          refine ⟨hn, ?_⟩
          have k0 := hn.cell m0 (by simp)
          have k1 := hn.cell m1 (by simp)
          have k2 := hn.cell m2 (by simp)
          have R5 := Lib.hid (R4.out.next hn)
          clear m0 m1 m2 hn R4
          refine wpSegs_one (by simp only [List.getElem?_toArray, List.getElem?_cons_succ, List.getElem?_cons_zero]; exact rfl) ?_
          go_wp2_with fail
          refine ⟨grefl _ none, ?_⟩
          have c0 : ∀ g : Gr wn, g.w.cell? ⟨wr.heap.size, 0, none⟩ = some (.int .u16 (kd : Int)) := Gr.cell ( k0)
          have c1 : ∀ g : Gr wn, g.w.cell? ⟨wr.heap.size, 1, none⟩ = some (.string s) := Gr.cell ( k1)
          have c2 : ∀ g : Gr wn, g.w.cell? ⟨wr.heap.size, 2, none⟩ = some (.int .i64 (NN.length : Int)) := Gr.cell ( k2)
          refine wpSegs_quiet rfl ?_
          simp only [List.filterMap_cons, List.filterMap_nil, List.getElem?_toArray, List.getElem?_cons_succ, List.getElem?_cons_zero]
          show wpQuiet _ _ _ _ [_, _, _, _, _, _, _, _] _
          repeat (go_big_quiet_step (fail))
          refine wpQuiet_nil ?_
          clear c0 c1 c2
          refine wpSegs_one (by simp only [List.getElem?_toArray, List.getElem?_cons_succ, List.getElem?_cons_zero]; exact rfl) ?_
          go_wp2_with fail
          refine Calls.mono (KF.out _ (HE.out.kept R5.out.gr (by simp))) ?_
          rintro e wf ⟨rfl, hf⟩
          go_wp2_with fail
          refine ⟨hf, ?_⟩
          have y0 := hf.cell k0 (by simp)
          have y1 := hf.cell k1 (by simp)
          have y2 := hf.cell k2 (by simp)
          have R6 := Lib.hid (R5.out.next hf)
          clear k0 k1 k2 hf R5
          have c0 : ∀ g : Gr wf, g.w.cell? ⟨wr.heap.size, 0, none⟩ = some (.int .u16 (kd : Int)) := Gr.cell ( y0)
          have c1 : ∀ g : Gr wf, g.w.cell? ⟨wr.heap.size, 1, none⟩ = some (.string s) := Gr.cell ( y1)
          have c2 : ∀ g : Gr wf, g.w.cell? ⟨wr.heap.size, 2, none⟩ = some (.int .i64 (NN.length : Int)) := Gr.cell ( y2)
          refine wpSegs_quiet rfl ?_
          simp only [List.filterMap_cons, List.filterMap_nil, List.getElem?_toArray, List.getElem?_cons_succ, List.getElem?_cons_zero]
          show wpQuiet _ _ _ _ [_, _, _, _, _, _, _, _, _, _, _, _] _
          repeat (go_big_quiet_step (fail))
          refine wpQuiet_nil ?_
          refine wpSegs_done ?_
          clear c0 c1 c2
          go_wp2_with fail
          go_roundw
          case rel => exact ⟨i + 1, by omega, by go_num, R6.out⟩
          case measure => simp [intOf]; omega
    · have q0 : decide ((i : Int) < 13) = false := by simp; omega
      have H0 := Lib.hid R0.out.gr
      clear R0
      go_wp2_with fail
      generalize hK : wr.heap.size = K0 at *
      go_loopw [178] (fun vi wz => ∃ i : Nat, i ≤ 19 ∧ vi = .int .i64 i ∧ Rbk w K0 (rows2.flatMap r2v) wz) (fun vi _ => 19 - (intOf vi).toNat)
      case atStart => exact ⟨0, by omega, rfl, galloc H0.out _, by rw [← hK]; exact H0.out.size, _, by rw [← hK]; exact balloc _ _⟩
      case round =>
        clear H0 hK
        obtain ⟨i, hi, rfl, hr⟩ := hrel
        have R0 := Lib.hid hr
        clear hr
        by_cases hlt : i < 19
        · have q0 : decide ((i : Int) < 19) = true := by simp; omega
          have HB := Lib.hid (show i < rows2.length by rw [HR2.out]; exact hlt)
          have c0 := R0.out.at (f := r2v) (fun _ => rfl) HB.out 0 (by omega)
          have c1 := R0.out.at (f := r2v) (fun _ => rfl) HB.out 1 (by omega)
          have c2 := R0.out.at (f := r2v) (fun _ => rfl) HB.out 2 (by omega)
          have HO := Lib.hid (rows2_ok _ (List.getElem_mem HB.out))
          generalize rows2[i] = r at *
          clear HB
          obtain ⟨kd, s, n⟩ := r
          have c0' : wr.cell? ⟨K0, i * 3, none⟩ = some (.int .u16 (kd : Int)) := c0
          have c1' : wr.cell? ⟨K0, i * 3 + 1, none⟩ = some (.string s) := c1
          have c2' : wr.cell? ⟨K0, i * 3 + 2, none⟩ = some (.int .i64 (n : Int)) := c2
          clear c0 c1 c2
          have hsz : s.size ≤ 100 := HO.out.size
          have KR := Lib.hid (fun w h => rdata_is s 0 (s.size : Int) kd w h (by omega) LT _ _ HO.out.read)
          have KM := Lib.hid (fun w h => mayd_any kd s w h (by omega))
          have KN := Lib.hid (fun w h => names_any kd s w h (by omega))
          have KF := Lib.hid (fun w h => foldd_any kd s w h (by omega))
          have hnm : nms (whL kd s) = [] := HO.out.nms
          rw [show mayD kd s = false from HO.out.may] at KM
          rw [show (⟨(fdt (whL kd s)).toArray⟩ : ByteArray) = ⟨#[]⟩ from HO.out.fold] at KF
          rw [hnm] at KN
          have n3 : ((n : Int) != (n : Int)) = false := by simp
          have R1 := Lib.hid (R0.out.next (galloc (grefl wr none) (.cells #[.int .u16 (kd : Int), .string s, .int .i64 (n : Int)] 53)))
          have B1 := Lib.hid (balloc wr (.cells #[.int .u16 (kd : Int), .string s, .int .i64 (n : Int)] 53))
          clear R0
          go_wp2_with fail
          refine Calls.mono (KR.out _ (HE.out.kept R1.out.gr (by simp))) ?_
          rintro e wq ⟨rfl, hq⟩
          have R2 := Lib.hid (R1.out.next hq)
          have B2 := Lib.hid (gblock hq B1.out (by simp))
          clear R1 B1 hq KR
          have z0 : wq.cell? ⟨wr.heap.size, 0, none⟩ = some (.int .u16 (kd : Int)) := by rw [bcellAt B2.out]; rfl
          have z1 : wq.cell? ⟨wr.heap.size, 1, none⟩ = some (.string s) := by rw [bcellAt B2.out]; rfl
          have z2 : wq.cell? ⟨wr.heap.size, 2, none⟩ = some (.int .i64 (n : Int)) := by rw [bcellAt B2.out]; rfl
          clear B2
          go_wp2_with fail
          refine Calls.mono (KM.out _ (HE.out.kept R2.out.gr (by simp))) ?_
          rintro e wm ⟨rfl, hm⟩
          have y0 := hm.cell z0 (by simp)
          have y1 := hm.cell z1 (by simp)
          have y2 := hm.cell z2 (by simp)
          have R3 := Lib.hid (R2.out.next hm)
          clear z0 z1 z2 hm R2
          go_wp2_with fail
          refine Calls.mono (KF.out _ (HE.out.kept R3.out.gr (by simp))) ?_
          rintro e wn ⟨rfl, hn⟩
          have k0 := hn.cell y0 (by simp)
          have k1 := hn.cell y1 (by simp)
          have k2 := hn.cell y2 (by simp)
          have R4 := Lib.hid (R3.out.next hn)
          clear y0 y1 y2 hn R3
          go_wp2_with fail
          refine Calls.mono (KN.out _ (HE.out.kept R4.out.gr (by simp))) ?_
          rintro e wf ⟨vn, rfl, ho, hf⟩
          obtain ⟨An, cn, rfl, _, _⟩ := own_shape ho
          clear ho
          have y0 := hf.cell k0 (by simp)
          have y1 := hf.cell k1 (by simp)
          have y2 := hf.cell k2 (by simp)
          have R5 := Lib.hid (R4.out.next hf)
          clear k0 k1 k2 hf R4
          go_wp2_with fail
          go_roundw
          case rel => exact ⟨i + 1, by omega, by go_num, R5.out⟩
          case measure => simp [intOf]; omega
        · have q0 : decide ((i : Int) < 19) = false := by simp; omega
          have H1 := Lib.hid R0.out.gr
          clear R0
          go_wp2_with fail
          refine Calls.mono (rdata_is _ _ _ _ _ (HE.out.kept H1.out (by simp)) (by decide) (Lib.hid (by decide)) _ _ xA) ?_
          rintro e wc1 ⟨rfl, hc⟩
          have H2 := Lib.hid (gtrans H1.out hc)
          clear hc H1
          go_wp2_with fail
          refine Calls.mono (rdata_is _ _ _ _ _ (HE.out.kept H2.out (by simp)) (by decide) (Lib.hid (by decide)) _ _ xF) ?_
          rintro e wc2 ⟨rfl, hc⟩
          have H3 := Lib.hid (gtrans H2.out hc)
          clear hc H2
          go_wp2_with fail
          refine Calls.mono (rdata_is _ _ _ _ _ (HE.out.kept H3.out (by simp)) (by decide) (Lib.hid (by decide)) _ _ xG) ?_
          rintro e wc3 ⟨rfl, hc⟩
          have H4 := Lib.hid (gtrans H3.out hc)
          clear hc H3
          go_wp2_with fail
          refine Calls.mono (rdata_is _ _ _ _ _ (HE.out.kept H4.out (by simp)) (by decide) (Lib.hid (by decide)) _ _ xH) ?_
          rintro e wc4 ⟨rfl, hc⟩
          have H5 := Lib.hid (gtrans H4.out hc)
          clear hc H4
          go_wp2_with fail
          refine Calls.mono (rdata_is _ _ _ _ _ (HE.out.kept H5.out (by simp)) (by decide) (Lib.hid (by decide)) _ _ xI) ?_
          rintro e wc5 ⟨rfl, hc⟩
          have H6 := Lib.hid (gtrans H5.out hc)
          clear hc H5
          go_wp2_with fail
          refine Calls.mono (twrite_nil _ _ _ _) ?_
          rintro e wc6 ⟨rfl, hc⟩
          have H7 := Lib.hid (gtrans H6.out hc)
          clear hc H6
          go_wp2_with fail
          refine Calls.mono (rdata_is _ _ _ _ _ (HE.out.kept H7.out (by simp)) (by decide) (Lib.hid (by decide)) _ _ xK) ?_
          rintro e wc7 ⟨rfl, hc⟩
          have H8 := Lib.hid (gtrans H7.out hc)
          clear hc H7
          go_wp2_with fail
          refine Calls.mono (rdata_is _ _ _ _ _ (HE.out.kept H8.out (by simp)) (by decide) (Lib.hid (by decide)) _ _ xM) ?_
          rintro e wc8 ⟨rfl, hc⟩
          have H9 := Lib.hid (gtrans H8.out hc)
          clear hc H8
          go_wp2_with fail
          have KP := mayd_any 15 ⟨#[0, 0, 192, 0]⟩ wc8 (HE.out.kept H9.out (by simp)) (by decide)
          rw [xP] at KP
          refine Calls.mono KP ?_
          rintro e wp ⟨rfl, hp⟩
          go_wp2_with fail
          go_ret
          exact ⟨rfl, gtrans H9.out hp⟩
end Go.Proofs.YtijjfdmklbncbaaDoor
