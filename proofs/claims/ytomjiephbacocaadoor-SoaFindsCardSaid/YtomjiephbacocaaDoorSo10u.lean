/-
  SoaFinds.
-/
import Derived.Test.YtomjiephbacocaaDoorSo10p
namespace Go.Proofs.YtomjiephbacocaaDoor
open Go.RowKit

theorem own_one {w : World} {base : Nat} {e : TypeId} {v u : Value} (h : w.ownsRow base e 1 v 1 [u]) : ∃ (g cap : Nat) (cur : Array Value), v = .slice (some ⟨g, 0, none⟩) 1 cap ∧ base ≤ g ∧ w.heap[g]? = some (.cells cur e (0, 0)) ∧ cur[0]? = some u := by
  rcases h.2 with ⟨_, h2⟩ | ⟨g, cap, cur, rfl, hb, hg, hn, hm, hs, ht⟩
  · cases h2
  · refine ⟨g, cap, cur, rfl, hb, hg, ?_⟩
    have : (cur.toList.take (1 * 1))[0]? = some u := by rw [ht]; rfl
    rw [List.getElem?_take_of_lt (by omega)] at this
    rw [← Array.getElem?_toList]
    exact this
theorem cells5o {w : Obj → World} {k : Nat} {a0 a1 a2 a3 a4 : Value} {t : TypeId} (h : ∀ o, (w o).heap[k]? = some (.cells #[a0, a1, a2, a3, a4] t (0, 0))) :
    (∀ o, (w o).cell? ⟨k, 0, none⟩ = some a0) ∧ (∀ o, (w o).cell? ⟨k, 1, none⟩ = some a1) ∧ (∀ o, (w o).cell? ⟨k, 2, none⟩ = some a2) ∧ (∀ o, (w o).cell? ⟨k, 3, none⟩ = some a3) ∧ (∀ o, (w o).cell? ⟨k, 4, none⟩ = some a4) :=
  ⟨fun o => bcellAt (h o) 0, fun o => bcellAt (h o) 1, fun o => bcellAt (h o) 2, fun o => bcellAt (h o) 3, fun o => bcellAt (h o) 4⟩
theorem stime_as (x : St) (v : Value) (w : World) (he : Et w) (hx : Sl w 1 v x.data.length (strs x.data)) (hd : ∀ s ∈ x.data, s.size ≤ 1000000) : Calls Tryd.prog 14 #[(x.at v).val] w fun e w' => e = .returned (.int .u32 (tmF x : Int)) ∧ w.grownBy w' none := stime_any (x.at v) w he hx hd
theorem rfind_got {n : ByteArray} {c : Nat} {v : Value} {l : List St} {w : World} {x : St} (h : Sts w v l) (hl : l.length ≤ 1000000) (hn : n.size ≤ 1000000) (hd : ∀ x ∈ l, x.name.size ≤ 1000000) (hf : fndF n c l = .got x) :
    Calls Tryd.prog 11 #[v, .string n, .int .u16 (c : Int)] w fun e w' => e = .returned (.tuple #[x.val, .bool true, .int .i64 0]) ∧ w.grownBy w' none := by
  have := rfind_any n c v l w h hl hn hd
  rw [hf] at this
  refine this.mono ?_
  rintro e w' ⟨hg, rfl⟩
  exact ⟨rfl, hg⟩
theorem rfind_bad {n : ByteArray} {c : Nat} {v : Value} {l : List St} {w : World} (h : Sts w v l) (hl : l.length ≤ 1000000) (hn : n.size ≤ 1000000) (hd : ∀ x ∈ l, x.name.size ≤ 1000000) (hf : fndF n c l = .bad) :
    Calls Tryd.prog 11 #[v, .string n, .int .u16 (c : Int)] w fun e w' => e = .returned (.tuple #[zsv, .bool false, .int .i64 3]) ∧ w.grownBy w' none := by
  have := rfind_any n c v l w h hl hn hd
  rw [hf] at this
  refine this.mono ?_
  rintro e w' ⟨hg, rfl⟩
  exact ⟨rfl, hg⟩
theorem rfind_non {n : ByteArray} {c : Nat} {v : Value} {l : List St} {w : World} (h : Sts w v l) (hl : l.length ≤ 1000000) (hn : n.size ≤ 1000000) (hd : ∀ x ∈ l, x.name.size ≤ 1000000) (hf : fndF n c l = .non) :
    Calls Tryd.prog 11 #[v, .string n, .int .u16 (c : Int)] w fun e w' => e = .returned (.tuple #[zsv, .bool false, .int .i64 0]) ∧ w.grownBy w' none := by
  have := rfind_any n c v l w h hl hn hd
  rw [hf] at this
  refine this.mono ?_
  rintro e w' ⟨hg, rfl⟩
  exact ⟨rfl, hg⟩
theorem fnd_got2 {n : ByteArray} {c : Nat} {l : List St} {x : St} (h : fndF n c l = .got x) : x ∈ l ∧ x.data.length = 1 := by
  rcases bI_inv n c l l.length (Nat.le_refl _) with hb | ⟨j, hj, _, hb, hf⟩
  · rw [fnd_non hb] at h; cases h
  · rw [fnd_is hb (List.getElem?_eq_getElem hj)] at h
    split at h
    · cases h; exact ⟨List.getElem_mem hj, by assumption⟩
    · cases h
def zSt : St := ⟨⟨#[]⟩, 0, 0, 0, .slice none 0 0, []⟩
theorem zSt_w (w : World) : StW w zSt := Sl.nil w 1
theorem zsame_any (w : World) : Calls Tryd.prog 13 #[zsv, zsv] w fun e w' => e = .returned (.bool true) ∧ w.grownBy w' none := by
  have := dsame_any zSt zSt w (zSt_w w) (zSt_w w) (show 0 ≤ 1000000 by omega)
  rw [show smS zSt zSt = true by unfold smS; simp] at this
  exact this
theorem zst_any (w : World) (he : Et w) : Calls Tryd.prog 14 #[zsv] w fun e w' => e = .returned (.int .u32 (tmF zSt : Int)) ∧ w.grownBy w' none := stime_any zSt w he (zSt_w w) (fun s hs => by cases hs)
theorem zrt_any (w : World) : Calls Tryd.prog 15 #[zsv] w fun e w' => e = .returned (.int .u32 (tmF zSt : Int)) ∧ w.grownBy w' none := rtime_any zSt w (zSt_w w) (fun s hs => by cases hs)

set_option maxRecDepth 100000 in
set_option maxHeartbeats 64000000 in
theorem finds10_walk (v : Value) (l : List St) (n : ByteArray) (c : Nat) (s : St) (w : World) (he : Et w) (h : Sts w v l) (hl : l.length ≤ maxLen) (hs : ∀ x ∈ l, x.name.size ≤ maxLen ∧ x.data.length ≤ maxLen ∧ ∀ s ∈ x.data, s.size ≤ maxLen) (h1 : StW w s) (h2 : s.name.size ≤ maxLen ∧ s.data.length ≤ maxLen ∧ ∀ d ∈ s.data, d.size ≤ maxLen) : Calls Tryd.prog 3 #[v, .string n, .int .u16 (c : Int), s.val] w fun e w' => e = .returned (.bool true) ∧ w.grownBy w' none := by
  have HE := Lib.hid he
  have HI := Lib.hid h
  have HS0 := Lib.hid h1
  have HS2 := Lib.hid h2
  have HLg := Lib.hid (fun (w' : World) (g : w.grownBy w' none) => longsets_any v l w' (h.kept g) hl hs)
  have HLs := Lib.hid (fun w' (g : w.grownBy w' none) => longsets_any _ [s] _ (sts_one w' s (h1.kept g)) (by simp [maxLen]) (fun x hx => by rw [List.mem_singleton.1 hx]; exact h2))
  obtain ⟨A, cap, rfl, hcap⟩ := h.shape
  obtain ⟨As, cs, hvs, _⟩ := h1.shape
  obtain ⟨snm, skd, scl, stt, svd, sdat⟩ := s
  simp only at hvs HLs HS2
  subst hvs
  have HS := HS0
  clear he h hs h1 h2 HS0
  unfold St.val
  go_enter Tryd.func3, Tryd.ntmps3
  go_wp2_with fail
  refine (HLg.out _ (galloc (grefl _ _) _)).mono ?_
  rintro e w1 ⟨q, rfl, rfl, hq⟩
  have G1 := Lib.hid (galloc (grefl w none) (.cells #[.string snm, .int .u16 (skd : Int), .int .u16 (scl : Int), .int .u32 (stt : Int), .slice As sdat.length cs] 27))
  have BS1 := Lib.hid (balloc w (.cells #[.string snm, .int .u16 (skd : Int), .int .u16 (scl : Int), .int .u32 (stt : Int), .slice As sdat.length cs] 27))
  have hbs := BS1.out
  obtain ⟨⟨s0, s1, s2, s3, s4⟩, _, _, _, _, _⟩ := cells5 hbs
  clear hbs
  generalize w.alloc (.cells #[.string snm, .int .u16 (skd : Int), .int .u16 (scl : Int), .int .u32 (stt : Int), .slice As sdat.length cs] 27) = w1 at *
  cases q with
  | true =>
    clear hq
    go_wp2_with fail
    refine (awake10 w1 (HE.out.kept G1.out (by simp))).mono ?_
    rintro e w9 ⟨rfl, hg⟩
    have GZ := Lib.hid (gtrans G1.out hg)
    clear hg
    go_wp2_with fail
    go_ret
    exact ⟨rfl, GZ.out⟩
  | false =>
    have HSm := Lib.hid (hq rfl)
    have hl2 := (hq rfl).1
    clear hq hl HLg
    go_wp2_with fail
    refine (HLs.out w1 G1.out).mono ?_
    rintro e w2' ⟨q, rfl, rfl, hq⟩
    clear s0 s1 s2 s3 s4
    have G2 := Lib.hid (galloc G1.out (.cells #[.string snm, .int .u16 (skd : Int), .int .u16 (scl : Int), .int .u32 (stt : Int), .slice As sdat.length cs] 27))
    have BS2 := Lib.hid (gblock (galloc (grefl w1 none) (.cells #[.string snm, .int .u16 (skd : Int), .int .u16 (scl : Int), .int .u32 (stt : Int), .slice As sdat.length cs] 27)) BS1.out (by simp))
    clear HLs BS1 G1
    cases q with
    | true =>
      clear hq
      go_wp2_with fail
      refine (awake10 _ (HE.out.kept G2.out (by simp))).mono ?_
      rintro e w9 ⟨rfl, hg⟩
      have GZ := Lib.hid (gtrans G2.out hg)
      clear hg
      go_wp2_with fail
      go_ret
      exact ⟨rfl, GZ.out⟩
    | false =>
      have HSd := Lib.hid (show ∀ d ∈ sdat, d.size ≤ 1000000 from fun d hd => by have := ((hq rfl).2 _ (List.mem_singleton.2 rfl)).2.2 d hd; omega)
      clear hq
      by_cases hn : 3000 < n.size
      · have k0 : decide ((3000 : Int) < (n.size : Int)) = true := by simp; omega
        go_wp2_with fail
        refine (awake10 _ (HE.out.kept G2.out (by simp))).mono ?_
        rintro e w9 ⟨rfl, hg⟩
        have GZ := Lib.hid (gtrans G2.out hg)
        clear hg
        go_wp2_with fail
        go_ret
        exact ⟨rfl, GZ.out⟩
      · have k0 : decide ((3000 : Int) < (n.size : Int)) = false := by simp; omega
        have HDs := Lib.hid (show ∀ x ∈ l, x.data.length ≤ 1000000 from fun x hx => by have := (HSm.out.2 x hx).2.1; omega)
        have HNs := Lib.hid (show ∀ x ∈ l, x.name.size ≤ 1000000 from fun x hx => by have := (HSm.out.2 x hx).1; omega)
        go_wp2_with fail
        generalize w1.alloc (.cells #[.string snm, .int .u16 (skd : Int), .int .u16 (scl : Int), .int .u32 (stt : Int), .slice As sdat.length cs] 27) = w2 at *
        generalize w.heap.size = kS at BS2 ⊢
        clear k0 hcap
        cases hr : fndF n c l with
        | non =>
          have HFd := Lib.hid hr
          clear hr
          refine (rfind_non (HI.out.kept G2.out) (by omega) (by omega) HNs.out HFd.out).mono ?_
          rintro e w3 ⟨rfl, hg⟩
          unfold zsv
          go_wp2_with fail
          have HG4 := Lib.hid (galloc (gtrans G2.out hg) (.cells #[.string ByteArray.empty, .int .u16 0, .int .u16 0, .int .u32 0, .slice none 0 0] 27))
          have BW9 := Lib.hid (balloc w3 (.cells #[.string ByteArray.empty, .int .u16 0, .int .u16 0, .int .u32 0, .slice none 0 0] 27))
          have BS9 := Lib.hid (gblock (galloc hg (.cells #[.string ByteArray.empty, .int .u16 0, .int .u16 0, .int .u32 0, .slice none 0 0] 27)) BS2.out (by simp))
          clear hg BS2 G2
          generalize w3.heap.size = kW at *
          generalize w3.alloc (.cells #[.string ByteArray.empty, .int .u16 0, .int .u16 0, .int .u32 0, .slice none 0 0] 27) = w4 at *
          go_loopw [12] (fun vi wr => ∃ k : Nat, k ≤ 2 ∧ vi = .int .i64 k ∧ w.grownBy wr none ∧ w4.grownBy wr none) (fun vi _ => 2 - (intOf vi).toNat)
          case atStart => exact ⟨0, by omega, rfl, HG4.out, grefl _ _⟩
          case round =>
            obtain ⟨k, hk, rfl, hg, hq⟩ := hrel
            have HG := Lib.hid hg
            have HQ := Lib.hid hq
            clear hg hq
            by_cases hlt : k < 2
            · have k1 : decide ((k : Int) < 2) = true := by simp; omega
              go_wp2_with fail
              refine (find_non (HI.out.kept HG.out) (by omega) HDs.out HFd.out).mono ?_
              rintro e wa ⟨rfl, hg⟩
              unfold zsv
              have hbw := fun o : Obj => gblock (galloc (gtrans HQ.out hg) o) BW9.out (by simp)
              obtain ⟨b0, b1, b2, b3, b4⟩ := cells5o hbw
              clear hbw
              go_wp2_with fail
              clear b0 b1 b2 b3 b4
              have HGa := Lib.hid (galloc (gtrans HG.out hg) (.cells #[.string ByteArray.empty, .int .u16 0, .int .u16 0, .int .u32 0, .slice none 0 0] 27))
              have HQa := Lib.hid (galloc (gtrans HQ.out hg) (.cells #[.string ByteArray.empty, .int .u16 0, .int .u16 0, .int .u32 0, .slice none 0 0] 27))
              have HBa := Lib.hid (balloc wa (.cells #[.string ByteArray.empty, .int .u16 0, .int .u16 0, .int .u32 0, .slice none 0 0] 27))
              have HRa := Lib.hid (galloc (grefl wa none) (.cells #[.string ByteArray.empty, .int .u16 0, .int .u16 0, .int .u32 0, .slice none 0 0] 27))
              have HBw := Lib.hid (gblock HQa.out BW9.out (by simp))
              clear hg
              generalize wa.heap.size = ka at *
              generalize wa.alloc (.cells #[.string ByteArray.empty, .int .u16 0, .int .u16 0, .int .u32 0, .slice none 0 0] 27) = wb at *
              refine (zsame_any wb).mono ?_
              rintro e wc ⟨rfl, hg⟩
              have HGc := Lib.hid (gtrans HGa.out hg)
              have HQc := Lib.hid (gtrans HQa.out hg)
              have HRc := Lib.hid (gtrans HRa.out hg)
              have HBc := Lib.hid (gblock hg HBa.out (by simp))
              have HDc := Lib.hid (gblock hg HBw.out (by simp))
              clear hg HGa HQa HRa HBa HBw
              go_wp2_with fail
              have a0 : ∀ g : Gr wc.drew, g.w.cell? ⟨ka, 0, none⟩ = some (.string ByteArray.empty) := Gr.cell (bcellAt HBc.out 0)
              have a1 : ∀ g : Gr wc.drew, g.w.cell? ⟨ka, 1, none⟩ = some (.int .u16 0) := Gr.cell (bcellAt HBc.out 1)
              have a2 : ∀ g : Gr wc.drew, g.w.cell? ⟨ka, 2, none⟩ = some (.int .u16 0) := Gr.cell (bcellAt HBc.out 2)
              have a3 : ∀ g : Gr wc.drew, g.w.cell? ⟨ka, 3, none⟩ = some (.int .u32 0) := Gr.cell (bcellAt HBc.out 3)
              have a4 : ∀ g : Gr wc.drew, g.w.cell? ⟨ka, 4, none⟩ = some (.slice none 0 0) := Gr.cell (bcellAt HBc.out 4)
              have b0 : ∀ g : Gr wc.drew, g.w.cell? ⟨kW, 0, none⟩ = some (.string ByteArray.empty) := Gr.cell (bcellAt HDc.out 0)
              have b1 : ∀ g : Gr wc.drew, g.w.cell? ⟨kW, 1, none⟩ = some (.int .u16 0) := Gr.cell (bcellAt HDc.out 1)
              have b2 : ∀ g : Gr wc.drew, g.w.cell? ⟨kW, 2, none⟩ = some (.int .u16 0) := Gr.cell (bcellAt HDc.out 2)
              have b3 : ∀ g : Gr wc.drew, g.w.cell? ⟨kW, 3, none⟩ = some (.int .u32 0) := Gr.cell (bcellAt HDc.out 3)
              have b4 : ∀ g : Gr wc.drew, g.w.cell? ⟨kW, 4, none⟩ = some (.slice none 0 0) := Gr.cell (bcellAt HDc.out 4)
              refine wp_region_segs [(true, [0, 2]), (false, [1]), (false, [3]), (true, [4])] (by kernel_rfl) (by kernel_rfl) ?_
              refine wpSegs_quiet rfl ?_
              simp only [List.filterMap_cons, List.filterMap_nil, List.getElem?_toArray, List.getElem?_cons_succ, List.getElem?_cons_zero]
              show wpQuiet _ _ _ _ [_, _] _
              repeat (go_big_quiet_step (fail))
              refine wpQuiet_nil ?_
              clear a0 a1 a2 a3 a4 b0 b1 b2 b3 b4
              have HGd := Lib.hid (gdrew HGc.out)
              have HQd := Lib.hid (gdrew HQc.out)
              have HRd := Lib.hid (gdrew HRc.out)
              have HBd := Lib.hid (gblock (gdrew (grefl wc none)) HBc.out (by simp))
              clear HGc HQc HRc HBc HDc
              generalize wc.drew = wd at *
              refine wpSegs_one (by simp only [List.getElem?_toArray, List.getElem?_cons_succ, List.getElem?_cons_zero]; exact rfl) ?_
              go_wp2_with fail
              refine (zst_any wd (HE.out.kept HGd.out (by simp))).mono ?_
              rintro e we ⟨rfl, hg⟩
              have HGe := Lib.hid (gtrans HGd.out hg)
              have HQe := Lib.hid (gtrans HQd.out hg)
              have HRe := Lib.hid (gtrans HRd.out hg)
              have HBe := Lib.hid (gblock hg HBd.out (by simp))
              go_wp2_with fail
              refine ⟨hg, ?_⟩
              clear hg HGd HQd HRd HBd
              refine wpSegs_one (by simp only [List.getElem?_toArray, List.getElem?_cons_succ, List.getElem?_cons_zero]; exact rfl) ?_
              go_wp2_with fail
              refine (zrt_any we).mono ?_
              rintro e wf ⟨rfl, hg⟩
              have HGf := Lib.hid (gtrans HGe.out hg)
              have HQf := Lib.hid (gtrans HQe.out hg)
              have HRf := Lib.hid (gtrans HRe.out hg)
              have HBf := Lib.hid (gblock hg HBe.out (by simp))
              go_wp2_with fail
              refine ⟨hg, ?_⟩
              clear hg HGe HQe HRe HBe
              generalize tmF _ = tm at *
              have e0 : ((tm : Int) != (tm : Int)) = false := by simp
              refine wpSegs_quiet rfl ?_
              simp only [List.filterMap_cons, List.filterMap_nil, List.getElem?_toArray, List.getElem?_cons_succ, List.getElem?_cons_zero]
              show wpQuiet _ _ _ _ [_] _
              repeat (go_big_quiet_step (fail))
              refine wpQuiet_nil ?_
              refine wpSegs_done ?_
              clear e0
              have a4 : wf.cell? ⟨ka, 4, none⟩ = some (.slice none 0 0) := bcellAt HBf.out 4
              go_wp2_with fail
              refine wp_loop_rounds 1 ?_
              rw [rounds_succ]
              go_wp2_with fail
              go_roundw
              case rel => exact ⟨k + 1, by omega, by go_num, HGf.out, HQf.out⟩
              case measure => simp [intOf]; omega
            · have k1 : decide ((k : Int) < 2) = false := by simp; omega
              clear hlt
              go_wp2_with fail
              have HBs := Lib.hid (gblock HQ.out BS9.out (by simp))
              have s0 : ∀ g : Gr wr.drew, g.w.cell? ⟨kS, 0, none⟩ = some (.string snm) := Gr.cell (bcellAt HBs.out 0)
              have s1 : ∀ g : Gr wr.drew, g.w.cell? ⟨kS, 1, none⟩ = some (.int .u16 (skd : Int)) := Gr.cell (bcellAt HBs.out 1)
              have s2 : ∀ g : Gr wr.drew, g.w.cell? ⟨kS, 2, none⟩ = some (.int .u16 (scl : Int)) := Gr.cell (bcellAt HBs.out 2)
              have s3 : ∀ g : Gr wr.drew, g.w.cell? ⟨kS, 3, none⟩ = some (.int .u32 (stt : Int)) := Gr.cell (bcellAt HBs.out 3)
              have s4 : ∀ g : Gr wr.drew, g.w.cell? ⟨kS, 4, none⟩ = some (.slice As sdat.length cs) := Gr.cell (bcellAt HBs.out 4)
              refine wp_region_segs [(true, [0, 2]), (false, [1]), (false, [3]), (true, [4, 5]), (false, [6]), (true, [7, 8])] (by kernel_rfl) (by kernel_rfl) ?_
              refine wpSegs_quiet rfl ?_
              simp only [List.filterMap_cons, List.filterMap_nil, List.getElem?_toArray, List.getElem?_cons_succ, List.getElem?_cons_zero]
              show wpQuiet _ _ _ _ [_, _] _
              repeat (go_big_quiet_step (fail))
              refine wpQuiet_nil ?_
              clear s0 s1 s2 s3 s4
              have HGd := Lib.hid (gdrew HG.out)
              refine wpSegs_one (by simp only [List.getElem?_toArray, List.getElem?_cons_succ, List.getElem?_cons_zero]; exact rfl) ?_
              go_wp2_with fail
              refine (stime_any ⟨snm, skd, scl, stt, .slice As sdat.length cs, sdat⟩ _ (HE.out.kept HGd.out (by simp)) (HS.out.kept HGd.out) HSd.out).mono ?_
              rintro e w5 ⟨rfl, hg⟩
              have HG5 := Lib.hid (gtrans HGd.out hg)
              go_wp2_with fail
              refine ⟨hg, ?_⟩
              clear hg HGd
              refine wpSegs_one (by simp only [List.getElem?_toArray, List.getElem?_cons_succ, List.getElem?_cons_zero]; exact rfl) ?_
              go_wp2_with fail
              refine (rtime_any ⟨snm, skd, scl, stt, .slice As sdat.length cs, sdat⟩ _ (HS.out.kept HG5.out) HSd.out).mono ?_
              rintro e w6 ⟨rfl, hg⟩
              have HG6 := Lib.hid (gtrans HG5.out hg)
              go_wp2_with fail
              refine ⟨hg, ?_⟩
              clear hg HG5
              generalize tmF ⟨snm, skd, scl, stt, .slice As sdat.length cs, sdat⟩ = tm at *
              have e0 : ((tm : Int) == (tm : Int)) = true := by simp
              refine wpSegs_quiet rfl ?_
              simp only [List.filterMap_cons, List.filterMap_nil, List.getElem?_toArray, List.getElem?_cons_succ, List.getElem?_cons_zero]
              show wpQuiet _ _ _ _ [_, _] _
              repeat (go_big_quiet_step (fail))
              refine wpQuiet_nil ?_
              clear e0
              refine wpSegs_one (by simp only [List.getElem?_toArray, List.getElem?_cons_succ, List.getElem?_cons_zero]; exact rfl) ?_
              go_wp2_with fail
              refine (awake10 _ (HE.out.kept HG6.out (by simp))).mono ?_
              rintro e w7 ⟨rfl, hg⟩
              have HG7 := Lib.hid (gtrans HG6.out hg)
              go_wp2_with fail
              refine ⟨hg, ?_⟩
              clear hg HG6
              refine wpSegs_quiet rfl ?_
              simp only [List.filterMap_cons, List.filterMap_nil, List.getElem?_toArray, List.getElem?_cons_succ, List.getElem?_cons_zero]
              show wpQuiet _ _ _ _ [_, _] _
              repeat (go_big_quiet_step (fail))
              refine wpQuiet_nil ?_
              refine wpSegs_done ?_
              go_wp2_with fail
              go_ret
              exact ⟨rfl, HG7.out⟩
        | bad =>
          have HFd := Lib.hid hr
          clear hr
          refine (rfind_bad (HI.out.kept G2.out) (by omega) (by omega) HNs.out HFd.out).mono ?_
          rintro e w3 ⟨rfl, hg⟩
          unfold zsv
          go_wp2_with fail
          have HG4 := Lib.hid (galloc (gtrans G2.out hg) (.cells #[.string ByteArray.empty, .int .u16 0, .int .u16 0, .int .u32 0, .slice none 0 0] 27))
          have BW9 := Lib.hid (balloc w3 (.cells #[.string ByteArray.empty, .int .u16 0, .int .u16 0, .int .u32 0, .slice none 0 0] 27))
          have BS9 := Lib.hid (gblock (galloc hg (.cells #[.string ByteArray.empty, .int .u16 0, .int .u16 0, .int .u32 0, .slice none 0 0] 27)) BS2.out (by simp))
          clear hg BS2 G2
          generalize w3.heap.size = kW at *
          generalize w3.alloc (.cells #[.string ByteArray.empty, .int .u16 0, .int .u16 0, .int .u32 0, .slice none 0 0] 27) = w4 at *
          go_loopw [12] (fun vi wr => ∃ k : Nat, k ≤ 2 ∧ vi = .int .i64 k ∧ w.grownBy wr none ∧ w4.grownBy wr none) (fun vi _ => 2 - (intOf vi).toNat)
          case atStart => exact ⟨0, by omega, rfl, HG4.out, grefl _ _⟩
          case round =>
            obtain ⟨k, hk, rfl, hg, hq⟩ := hrel
            have HG := Lib.hid hg
            have HQ := Lib.hid hq
            clear hg hq
            by_cases hlt : k < 2
            · have k1 : decide ((k : Int) < 2) = true := by simp; omega
              go_wp2_with fail
              refine (find_bad (HI.out.kept HG.out) (by omega) HDs.out HFd.out).mono ?_
              rintro e wa ⟨rfl, hg⟩
              unfold zsv
              have hbw := fun o : Obj => gblock (galloc (gtrans HQ.out hg) o) BW9.out (by simp)
              obtain ⟨b0, b1, b2, b3, b4⟩ := cells5o hbw
              clear hbw
              go_wp2_with fail
              clear b0 b1 b2 b3 b4
              have HGa := Lib.hid (galloc (gtrans HG.out hg) (.cells #[.string ByteArray.empty, .int .u16 0, .int .u16 0, .int .u32 0, .slice none 0 0] 27))
              have HQa := Lib.hid (galloc (gtrans HQ.out hg) (.cells #[.string ByteArray.empty, .int .u16 0, .int .u16 0, .int .u32 0, .slice none 0 0] 27))
              have HBa := Lib.hid (balloc wa (.cells #[.string ByteArray.empty, .int .u16 0, .int .u16 0, .int .u32 0, .slice none 0 0] 27))
              have HRa := Lib.hid (galloc (grefl wa none) (.cells #[.string ByteArray.empty, .int .u16 0, .int .u16 0, .int .u32 0, .slice none 0 0] 27))
              have HBw := Lib.hid (gblock HQa.out BW9.out (by simp))
              clear hg
              generalize wa.heap.size = ka at *
              generalize wa.alloc (.cells #[.string ByteArray.empty, .int .u16 0, .int .u16 0, .int .u32 0, .slice none 0 0] 27) = wb at *
              refine (zsame_any wb).mono ?_
              rintro e wc ⟨rfl, hg⟩
              have HGc := Lib.hid (gtrans HGa.out hg)
              have HQc := Lib.hid (gtrans HQa.out hg)
              have HRc := Lib.hid (gtrans HRa.out hg)
              have HBc := Lib.hid (gblock hg HBa.out (by simp))
              have HDc := Lib.hid (gblock hg HBw.out (by simp))
              clear hg HGa HQa HRa HBa HBw
              go_wp2_with fail
              have a0 : ∀ g : Gr wc.drew, g.w.cell? ⟨ka, 0, none⟩ = some (.string ByteArray.empty) := Gr.cell (bcellAt HBc.out 0)
              have a1 : ∀ g : Gr wc.drew, g.w.cell? ⟨ka, 1, none⟩ = some (.int .u16 0) := Gr.cell (bcellAt HBc.out 1)
              have a2 : ∀ g : Gr wc.drew, g.w.cell? ⟨ka, 2, none⟩ = some (.int .u16 0) := Gr.cell (bcellAt HBc.out 2)
              have a3 : ∀ g : Gr wc.drew, g.w.cell? ⟨ka, 3, none⟩ = some (.int .u32 0) := Gr.cell (bcellAt HBc.out 3)
              have a4 : ∀ g : Gr wc.drew, g.w.cell? ⟨ka, 4, none⟩ = some (.slice none 0 0) := Gr.cell (bcellAt HBc.out 4)
              have b0 : ∀ g : Gr wc.drew, g.w.cell? ⟨kW, 0, none⟩ = some (.string ByteArray.empty) := Gr.cell (bcellAt HDc.out 0)
              have b1 : ∀ g : Gr wc.drew, g.w.cell? ⟨kW, 1, none⟩ = some (.int .u16 0) := Gr.cell (bcellAt HDc.out 1)
              have b2 : ∀ g : Gr wc.drew, g.w.cell? ⟨kW, 2, none⟩ = some (.int .u16 0) := Gr.cell (bcellAt HDc.out 2)
              have b3 : ∀ g : Gr wc.drew, g.w.cell? ⟨kW, 3, none⟩ = some (.int .u32 0) := Gr.cell (bcellAt HDc.out 3)
              have b4 : ∀ g : Gr wc.drew, g.w.cell? ⟨kW, 4, none⟩ = some (.slice none 0 0) := Gr.cell (bcellAt HDc.out 4)
              refine wp_region_segs [(true, [0, 2]), (false, [1]), (false, [3]), (true, [4])] (by kernel_rfl) (by kernel_rfl) ?_
              refine wpSegs_quiet rfl ?_
              simp only [List.filterMap_cons, List.filterMap_nil, List.getElem?_toArray, List.getElem?_cons_succ, List.getElem?_cons_zero]
              show wpQuiet _ _ _ _ [_, _] _
              repeat (go_big_quiet_step (fail))
              refine wpQuiet_nil ?_
              clear a0 a1 a2 a3 a4 b0 b1 b2 b3 b4
              have HGd := Lib.hid (gdrew HGc.out)
              have HQd := Lib.hid (gdrew HQc.out)
              have HRd := Lib.hid (gdrew HRc.out)
              have HBd := Lib.hid (gblock (gdrew (grefl wc none)) HBc.out (by simp))
              clear HGc HQc HRc HBc HDc
              generalize wc.drew = wd at *
              refine wpSegs_one (by simp only [List.getElem?_toArray, List.getElem?_cons_succ, List.getElem?_cons_zero]; exact rfl) ?_
              go_wp2_with fail
              refine (zst_any wd (HE.out.kept HGd.out (by simp))).mono ?_
              rintro e we ⟨rfl, hg⟩
              have HGe := Lib.hid (gtrans HGd.out hg)
              have HQe := Lib.hid (gtrans HQd.out hg)
              have HRe := Lib.hid (gtrans HRd.out hg)
              have HBe := Lib.hid (gblock hg HBd.out (by simp))
              go_wp2_with fail
              refine ⟨hg, ?_⟩
              clear hg HGd HQd HRd HBd
              refine wpSegs_one (by simp only [List.getElem?_toArray, List.getElem?_cons_succ, List.getElem?_cons_zero]; exact rfl) ?_
              go_wp2_with fail
              refine (zrt_any we).mono ?_
              rintro e wf ⟨rfl, hg⟩
              have HGf := Lib.hid (gtrans HGe.out hg)
              have HQf := Lib.hid (gtrans HQe.out hg)
              have HRf := Lib.hid (gtrans HRe.out hg)
              have HBf := Lib.hid (gblock hg HBe.out (by simp))
              go_wp2_with fail
              refine ⟨hg, ?_⟩
              clear hg HGe HQe HRe HBe
              generalize tmF _ = tm at *
              have e0 : ((tm : Int) != (tm : Int)) = false := by simp
              refine wpSegs_quiet rfl ?_
              simp only [List.filterMap_cons, List.filterMap_nil, List.getElem?_toArray, List.getElem?_cons_succ, List.getElem?_cons_zero]
              show wpQuiet _ _ _ _ [_] _
              repeat (go_big_quiet_step (fail))
              refine wpQuiet_nil ?_
              refine wpSegs_done ?_
              clear e0
              have a4 : wf.cell? ⟨ka, 4, none⟩ = some (.slice none 0 0) := bcellAt HBf.out 4
              go_wp2_with fail
              refine wp_loop_rounds 1 ?_
              rw [rounds_succ]
              go_wp2_with fail
              go_roundw
              case rel => exact ⟨k + 1, by omega, by go_num, HGf.out, HQf.out⟩
              case measure => simp [intOf]; omega
            · have k1 : decide ((k : Int) < 2) = false := by simp; omega
              clear hlt
              go_wp2_with fail
              have HBs := Lib.hid (gblock HQ.out BS9.out (by simp))
              have s0 : ∀ g : Gr wr.drew, g.w.cell? ⟨kS, 0, none⟩ = some (.string snm) := Gr.cell (bcellAt HBs.out 0)
              have s1 : ∀ g : Gr wr.drew, g.w.cell? ⟨kS, 1, none⟩ = some (.int .u16 (skd : Int)) := Gr.cell (bcellAt HBs.out 1)
              have s2 : ∀ g : Gr wr.drew, g.w.cell? ⟨kS, 2, none⟩ = some (.int .u16 (scl : Int)) := Gr.cell (bcellAt HBs.out 2)
              have s3 : ∀ g : Gr wr.drew, g.w.cell? ⟨kS, 3, none⟩ = some (.int .u32 (stt : Int)) := Gr.cell (bcellAt HBs.out 3)
              have s4 : ∀ g : Gr wr.drew, g.w.cell? ⟨kS, 4, none⟩ = some (.slice As sdat.length cs) := Gr.cell (bcellAt HBs.out 4)
              refine wp_region_segs [(true, [0, 2]), (false, [1]), (false, [3]), (true, [4, 5]), (false, [6]), (true, [7, 8])] (by kernel_rfl) (by kernel_rfl) ?_
              refine wpSegs_quiet rfl ?_
              simp only [List.filterMap_cons, List.filterMap_nil, List.getElem?_toArray, List.getElem?_cons_succ, List.getElem?_cons_zero]
              show wpQuiet _ _ _ _ [_, _] _
              repeat (go_big_quiet_step (fail))
              refine wpQuiet_nil ?_
              clear s0 s1 s2 s3 s4
              have HGd := Lib.hid (gdrew HG.out)
              refine wpSegs_one (by simp only [List.getElem?_toArray, List.getElem?_cons_succ, List.getElem?_cons_zero]; exact rfl) ?_
              go_wp2_with fail
              refine (stime_any ⟨snm, skd, scl, stt, .slice As sdat.length cs, sdat⟩ _ (HE.out.kept HGd.out (by simp)) (HS.out.kept HGd.out) HSd.out).mono ?_
              rintro e w5 ⟨rfl, hg⟩
              have HG5 := Lib.hid (gtrans HGd.out hg)
              go_wp2_with fail
              refine ⟨hg, ?_⟩
              clear hg HGd
              refine wpSegs_one (by simp only [List.getElem?_toArray, List.getElem?_cons_succ, List.getElem?_cons_zero]; exact rfl) ?_
              go_wp2_with fail
              refine (rtime_any ⟨snm, skd, scl, stt, .slice As sdat.length cs, sdat⟩ _ (HS.out.kept HG5.out) HSd.out).mono ?_
              rintro e w6 ⟨rfl, hg⟩
              have HG6 := Lib.hid (gtrans HG5.out hg)
              go_wp2_with fail
              refine ⟨hg, ?_⟩
              clear hg HG5
              generalize tmF ⟨snm, skd, scl, stt, .slice As sdat.length cs, sdat⟩ = tm at *
              have e0 : ((tm : Int) == (tm : Int)) = true := by simp
              refine wpSegs_quiet rfl ?_
              simp only [List.filterMap_cons, List.filterMap_nil, List.getElem?_toArray, List.getElem?_cons_succ, List.getElem?_cons_zero]
              show wpQuiet _ _ _ _ [_, _] _
              repeat (go_big_quiet_step (fail))
              refine wpQuiet_nil ?_
              clear e0
              refine wpSegs_one (by simp only [List.getElem?_toArray, List.getElem?_cons_succ, List.getElem?_cons_zero]; exact rfl) ?_
              go_wp2_with fail
              refine (awake10 _ (HE.out.kept HG6.out (by simp))).mono ?_
              rintro e w7 ⟨rfl, hg⟩
              have HG7 := Lib.hid (gtrans HG6.out hg)
              go_wp2_with fail
              refine ⟨hg, ?_⟩
              clear hg HG6
              refine wpSegs_quiet rfl ?_
              simp only [List.filterMap_cons, List.filterMap_nil, List.getElem?_toArray, List.getElem?_cons_succ, List.getElem?_cons_zero]
              show wpQuiet _ _ _ _ [_, _] _
              repeat (go_big_quiet_step (fail))
              refine wpQuiet_nil ?_
              refine wpSegs_done ?_
              go_wp2_with fail
              go_ret
              exact ⟨rfl, HG7.out⟩
        | got x =>
          have hx := fnd_got2 hr
          have HFd := Lib.hid hr
          clear hr
          have HW0 := Lib.hid (HI.out.2 x hx.1)
          have HXs := Lib.hid (HSm.out.2 x hx.1)
          obtain ⟨d, hxd⟩ := List.length_eq_one_iff.1 hx.2
          clear hx
          obtain ⟨Ad, cd, hvd, _⟩ := HW0.out.shape
          obtain ⟨nm, kd, cl, tt, vd, dat⟩ := x
          simp only at hvd hxd HXs
          subst hvd hxd
          have HW := HW0
          have HXd := Lib.hid (show ∀ s ∈ [d], s.size ≤ 1000000 from fun s hs => by have := HXs.out.2.2 s hs; omega)
          clear HW0 HXs
          refine (rfind_got (HI.out.kept G2.out) (by omega) (by omega) HNs.out HFd.out).mono ?_
          rintro e w3 ⟨rfl, hg⟩
          simp only [St.val]
          go_wp2_with fail
          have HG4 := Lib.hid (galloc (gtrans G2.out hg) (.cells #[.string nm, .int .u16 (kd : Int), .int .u16 (cl : Int), .int .u32 (tt : Int), .slice Ad [d].length cd] 27))
          have BW9 := Lib.hid (balloc w3 (.cells #[.string nm, .int .u16 (kd : Int), .int .u16 (cl : Int), .int .u32 (tt : Int), .slice Ad [d].length cd] 27))
          have BS9 := Lib.hid (gblock (galloc hg (.cells #[.string nm, .int .u16 (kd : Int), .int .u16 (cl : Int), .int .u32 (tt : Int), .slice Ad [d].length cd] 27)) BS2.out (by simp))
          clear hg BS2 G2
          generalize w3.heap.size = kW at *
          generalize w3.alloc (.cells #[.string nm, .int .u16 (kd : Int), .int .u16 (cl : Int), .int .u32 (tt : Int), .slice Ad [d].length cd] 27) = w4 at *
          go_loopw [12] (fun vi wr => ∃ k : Nat, k ≤ 2 ∧ vi = .int .i64 k ∧ w.grownBy wr none ∧ w4.grownBy wr none) (fun vi _ => 2 - (intOf vi).toNat)
          case atStart => exact ⟨0, by omega, rfl, HG4.out, grefl _ _⟩
          case round =>
            obtain ⟨k, hk, rfl, hg, hq⟩ := hrel
            have HG := Lib.hid hg
            have HQ := Lib.hid hq
            clear hg hq
            by_cases hlt : k < 2
            · have k1 : decide ((k : Int) < 2) = true := by simp; omega
              go_wp2_with fail
              refine (find_got (HI.out.kept HG.out) (by omega) HDs.out HFd.out).mono ?_
              rintro e wa ⟨va, rfl, hg, ho⟩
              obtain ⟨ga, ca, cur, rfl, hga, hgc, hg0⟩ := own_one ho
              have HO := Lib.hid (FS.of ho).sl
              have HOc := Lib.hid (show ∃ cur : Array Value, wa.heap[ga]? = some (.cells cur 9 (0, 0)) ∧ cur[0]? = some (.string d) from ⟨cur, hgc, hg0⟩)
              have HNe := Lib.hid (show wa.heap.size ≠ ga from fun h => by have := blt hgc; omega)
              have HLa := Lib.hid (show w.heap.size ≤ ga ∧ w4.heap.size ≤ ga from ⟨Nat.le_trans HG.out.size hga, Nat.le_trans HQ.out.size hga⟩)
              clear ho hga hgc hg0
              simp only [St.at, St.val]
              have hbw := fun o : Obj => gblock (galloc (gtrans HQ.out hg) o) BW9.out (by simp)
              obtain ⟨b0, b1, b2, b3, b4⟩ := cells5o hbw
              clear hbw
              go_wp2_with fail
              clear b0 b1 b2 b3 b4
              have HGa := Lib.hid (galloc (gtrans HG.out hg) (.cells #[.string nm, .int .u16 (kd : Int), .int .u16 (cl : Int), .int .u32 (tt : Int), .slice (some ⟨ga, 0, none⟩) [d].length ca] 27))
              have HQa := Lib.hid (galloc (gtrans HQ.out hg) (.cells #[.string nm, .int .u16 (kd : Int), .int .u16 (cl : Int), .int .u32 (tt : Int), .slice (some ⟨ga, 0, none⟩) [d].length ca] 27))
              have HBa := Lib.hid (balloc wa (.cells #[.string nm, .int .u16 (kd : Int), .int .u16 (cl : Int), .int .u32 (tt : Int), .slice (some ⟨ga, 0, none⟩) [d].length ca] 27))
              have HRa := Lib.hid (galloc (grefl wa none) (.cells #[.string nm, .int .u16 (kd : Int), .int .u16 (cl : Int), .int .u32 (tt : Int), .slice (some ⟨ga, 0, none⟩) [d].length ca] 27))
              have HBw := Lib.hid (gblock HQa.out BW9.out (by simp))
              clear hg
              generalize wa.heap.size = ka at *
              generalize wa.alloc (.cells #[.string nm, .int .u16 (kd : Int), .int .u16 (cl : Int), .int .u32 (tt : Int), .slice (some ⟨ga, 0, none⟩) [d].length ca] 27) = wb at *
              refine (same_at ⟨nm, kd, cl, tt, .slice Ad [d].length cd, [d]⟩ (.slice (some ⟨ga, 0, none⟩) [d].length ca) wb (HO.out.kept0 HRa.out) (HW.out.kept HGa.out) (by simp)).mono ?_
              rintro e wc ⟨rfl, hg⟩
              have HGc := Lib.hid (gtrans HGa.out hg)
              have HQc := Lib.hid (gtrans HQa.out hg)
              have HRc := Lib.hid (gtrans HRa.out hg)
              have HBc := Lib.hid (gblock hg HBa.out (by simp))
              have HDc := Lib.hid (gblock hg HBw.out (by simp))
              clear hg HGa HQa HRa HBa HBw
              go_wp2_with fail
              have a0 : ∀ g : Gr wc.drew, g.w.cell? ⟨ka, 0, none⟩ = some (.string nm) := Gr.cell (bcellAt HBc.out 0)
              have a1 : ∀ g : Gr wc.drew, g.w.cell? ⟨ka, 1, none⟩ = some (.int .u16 (kd : Int)) := Gr.cell (bcellAt HBc.out 1)
              have a2 : ∀ g : Gr wc.drew, g.w.cell? ⟨ka, 2, none⟩ = some (.int .u16 (cl : Int)) := Gr.cell (bcellAt HBc.out 2)
              have a3 : ∀ g : Gr wc.drew, g.w.cell? ⟨ka, 3, none⟩ = some (.int .u32 (tt : Int)) := Gr.cell (bcellAt HBc.out 3)
              have a4 : ∀ g : Gr wc.drew, g.w.cell? ⟨ka, 4, none⟩ = some (.slice (some ⟨ga, 0, none⟩) [d].length ca) := Gr.cell (bcellAt HBc.out 4)
              have b0 : ∀ g : Gr wc.drew, g.w.cell? ⟨kW, 0, none⟩ = some (.string nm) := Gr.cell (bcellAt HDc.out 0)
              have b1 : ∀ g : Gr wc.drew, g.w.cell? ⟨kW, 1, none⟩ = some (.int .u16 (kd : Int)) := Gr.cell (bcellAt HDc.out 1)
              have b2 : ∀ g : Gr wc.drew, g.w.cell? ⟨kW, 2, none⟩ = some (.int .u16 (cl : Int)) := Gr.cell (bcellAt HDc.out 2)
              have b3 : ∀ g : Gr wc.drew, g.w.cell? ⟨kW, 3, none⟩ = some (.int .u32 (tt : Int)) := Gr.cell (bcellAt HDc.out 3)
              have b4 : ∀ g : Gr wc.drew, g.w.cell? ⟨kW, 4, none⟩ = some (.slice Ad [d].length cd) := Gr.cell (bcellAt HDc.out 4)
              refine wp_region_segs [(true, [0, 2]), (false, [1]), (false, [3]), (true, [4])] (by kernel_rfl) (by kernel_rfl) ?_
              refine wpSegs_quiet rfl ?_
              simp only [List.filterMap_cons, List.filterMap_nil, List.getElem?_toArray, List.getElem?_cons_succ, List.getElem?_cons_zero]
              show wpQuiet _ _ _ _ [_, _] _
              repeat (go_big_quiet_step (fail))
              refine wpQuiet_nil ?_
              clear a0 a1 a2 a3 a4 b0 b1 b2 b3 b4
              have HGd := Lib.hid (gdrew HGc.out)
              have HQd := Lib.hid (gdrew HQc.out)
              have HRd := Lib.hid (gdrew HRc.out)
              have HBd := Lib.hid (gblock (gdrew (grefl wc none)) HBc.out (by simp))
              clear HGc HQc HRc HBc HDc
              generalize wc.drew = wd at *
              refine wpSegs_one (by simp only [List.getElem?_toArray, List.getElem?_cons_succ, List.getElem?_cons_zero]; exact rfl) ?_
              go_wp2_with fail
              refine (stime_as ⟨nm, kd, cl, tt, .slice Ad [d].length cd, [d]⟩ (.slice (some ⟨ga, 0, none⟩) [d].length ca) wd (HE.out.kept HGd.out (by simp)) (HO.out.kept0 HRd.out) HXd.out).mono ?_
              rintro e we ⟨rfl, hg⟩
              have HGe := Lib.hid (gtrans HGd.out hg)
              have HQe := Lib.hid (gtrans HQd.out hg)
              have HRe := Lib.hid (gtrans HRd.out hg)
              have HBe := Lib.hid (gblock hg HBd.out (by simp))
              go_wp2_with fail
              refine ⟨hg, ?_⟩
              clear hg HGd HQd HRd HBd
              refine wpSegs_one (by simp only [List.getElem?_toArray, List.getElem?_cons_succ, List.getElem?_cons_zero]; exact rfl) ?_
              go_wp2_with fail
              refine (rtime_any ⟨nm, kd, cl, tt, .slice Ad [d].length cd, [d]⟩ we (HW.out.kept HGe.out) HXd.out).mono ?_
              rintro e wf ⟨rfl, hg⟩
              have HGf := Lib.hid (gtrans HGe.out hg)
              have HQf := Lib.hid (gtrans HQe.out hg)
              have HRf := Lib.hid (gtrans HRe.out hg)
              have HBf := Lib.hid (gblock hg HBe.out (by simp))
              go_wp2_with fail
              refine ⟨hg, ?_⟩
              clear hg HGe HQe HRe HBe
              generalize tmF _ = tm at *
              have e0 : ((tm : Int) != (tm : Int)) = false := by simp
              refine wpSegs_quiet rfl ?_
              simp only [List.filterMap_cons, List.filterMap_nil, List.getElem?_toArray, List.getElem?_cons_succ, List.getElem?_cons_zero]
              show wpQuiet _ _ _ _ [_] _
              repeat (go_big_quiet_step (fail))
              refine wpQuiet_nil ?_
              refine wpSegs_done ?_
              clear e0
              have a4 : wf.cell? ⟨ka, 4, none⟩ = some (.slice (some ⟨ga, 0, none⟩) [d].length ca) := bcellAt HBf.out 4
              go_wp2_with fail
              obtain ⟨cur, hc0, hc1⟩ := HOc.out
              have hcb := gblock HRf.out hc0 (by simp)
              have c0 : wf.cell? ⟨ga, 0, none⟩ = some (.string d) := (bcellAt hcb 0).trans hc1
              have f0 : wf.frozen? ⟨ga, 0, none⟩ = false := bfree hcb 0
              have hne : ka ≠ ga := HNe.out
              have a4' := HBf.out
              refine wp_loop_rounds 2 ?_
              rw [rounds_succ]
              go_wp2_with fail
              have gs : wf.grownBy (wf.setCell ⟨ga, 0, none⟩ (.string ⟨#[115, 112, 111, 105, 108, 116]⟩)) (some ga) := gset (grefl wf _) (p := ⟨ga, 0, none⟩) (.inl rfl) _
              have hb9 := gblock gs a4' (by simp; exact fun h => hne h)
              have HGs := Lib.hid (gstepo HGf.out gs HLa.out.1)
              have HQs := Lib.hid (gstepo HQf.out gs HLa.out.2)
              clear a4 c0 f0 gs
              have a4 : (wf.setCell ⟨ga, 0, none⟩ (.string ⟨#[115, 112, 111, 105, 108, 116]⟩)).cell? ⟨ka, 4, none⟩ = some (.slice (some ⟨ga, 0, none⟩) [d].length ca) := bcellAt hb9 4
              generalize wf.setCell ⟨ga, 0, none⟩ (.string ⟨#[115, 112, 111, 105, 108, 116]⟩) = wg at *
              rw [rounds_succ]
              go_wp2_with fail
              go_roundw
              case rel => exact ⟨k + 1, by omega, by go_num, HGs.out, HQs.out⟩
              case measure => simp [intOf]; omega
            · have k1 : decide ((k : Int) < 2) = false := by simp; omega
              clear hlt
              go_wp2_with fail
              have HBs := Lib.hid (gblock HQ.out BS9.out (by simp))
              have s0 : ∀ g : Gr wr.drew, g.w.cell? ⟨kS, 0, none⟩ = some (.string snm) := Gr.cell (bcellAt HBs.out 0)
              have s1 : ∀ g : Gr wr.drew, g.w.cell? ⟨kS, 1, none⟩ = some (.int .u16 (skd : Int)) := Gr.cell (bcellAt HBs.out 1)
              have s2 : ∀ g : Gr wr.drew, g.w.cell? ⟨kS, 2, none⟩ = some (.int .u16 (scl : Int)) := Gr.cell (bcellAt HBs.out 2)
              have s3 : ∀ g : Gr wr.drew, g.w.cell? ⟨kS, 3, none⟩ = some (.int .u32 (stt : Int)) := Gr.cell (bcellAt HBs.out 3)
              have s4 : ∀ g : Gr wr.drew, g.w.cell? ⟨kS, 4, none⟩ = some (.slice As sdat.length cs) := Gr.cell (bcellAt HBs.out 4)
              refine wp_region_segs [(true, [0, 2]), (false, [1]), (false, [3]), (true, [4, 5]), (false, [6]), (true, [7, 8])] (by kernel_rfl) (by kernel_rfl) ?_
              refine wpSegs_quiet rfl ?_
              simp only [List.filterMap_cons, List.filterMap_nil, List.getElem?_toArray, List.getElem?_cons_succ, List.getElem?_cons_zero]
              show wpQuiet _ _ _ _ [_, _] _
              repeat (go_big_quiet_step (fail))
              refine wpQuiet_nil ?_
              clear s0 s1 s2 s3 s4
              have HGd := Lib.hid (gdrew HG.out)
              refine wpSegs_one (by simp only [List.getElem?_toArray, List.getElem?_cons_succ, List.getElem?_cons_zero]; exact rfl) ?_
              go_wp2_with fail
              refine (stime_any ⟨snm, skd, scl, stt, .slice As sdat.length cs, sdat⟩ _ (HE.out.kept HGd.out (by simp)) (HS.out.kept HGd.out) HSd.out).mono ?_
              rintro e w5 ⟨rfl, hg⟩
              have HG5 := Lib.hid (gtrans HGd.out hg)
              go_wp2_with fail
              refine ⟨hg, ?_⟩
              clear hg HGd
              refine wpSegs_one (by simp only [List.getElem?_toArray, List.getElem?_cons_succ, List.getElem?_cons_zero]; exact rfl) ?_
              go_wp2_with fail
              refine (rtime_any ⟨snm, skd, scl, stt, .slice As sdat.length cs, sdat⟩ _ (HS.out.kept HG5.out) HSd.out).mono ?_
              rintro e w6 ⟨rfl, hg⟩
              have HG6 := Lib.hid (gtrans HG5.out hg)
              go_wp2_with fail
              refine ⟨hg, ?_⟩
              clear hg HG5
              generalize tmF ⟨snm, skd, scl, stt, .slice As sdat.length cs, sdat⟩ = tm at *
              have e0 : ((tm : Int) == (tm : Int)) = true := by simp
              refine wpSegs_quiet rfl ?_
              simp only [List.filterMap_cons, List.filterMap_nil, List.getElem?_toArray, List.getElem?_cons_succ, List.getElem?_cons_zero]
              show wpQuiet _ _ _ _ [_, _] _
              repeat (go_big_quiet_step (fail))
              refine wpQuiet_nil ?_
              clear e0
              refine wpSegs_one (by simp only [List.getElem?_toArray, List.getElem?_cons_succ, List.getElem?_cons_zero]; exact rfl) ?_
              go_wp2_with fail
              refine (awake10 _ (HE.out.kept HG6.out (by simp))).mono ?_
              rintro e w7 ⟨rfl, hg⟩
              have HG7 := Lib.hid (gtrans HG6.out hg)
              go_wp2_with fail
              refine ⟨hg, ?_⟩
              clear hg HG6
              refine wpSegs_quiet rfl ?_
              simp only [List.filterMap_cons, List.filterMap_nil, List.getElem?_toArray, List.getElem?_cons_succ, List.getElem?_cons_zero]
              show wpQuiet _ _ _ _ [_, _] _
              repeat (go_big_quiet_step (fail))
              refine wpQuiet_nil ?_
              refine wpSegs_done ?_
              go_wp2_with fail
              go_ret
              exact ⟨rfl, HG7.out⟩
end Go.Proofs.YtomjiephbacocaaDoor
