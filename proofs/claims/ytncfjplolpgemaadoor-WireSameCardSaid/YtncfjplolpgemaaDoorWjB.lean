/-
  Wire: WireSame's walk.
-/
import Derived.Test.YtncfjplolpgemaaDoorA22
namespace Go.Proofs.YtncfjplolpgemaaDoor
open Go.RowKit

set_option maxRecDepth 100000 in
set_option maxHeartbeats 4000000 in
theorem same07_walk (w : World) (m n : Ms) (vq va vu vx vo wq wa wu wx wo : Value) (he : Et w) (hb : Bt w) (hm : MsV w m vq va vu vx vo) (hn : MsV w n wq wa wu wx wo) (tm : m.mem) (tn : n.mem) :
    Calls Tryd.prog 6 #[m.val vq va vu vx vo, n.val wq wa wu wx wo] w fun e w' => e = .returned (.bool true) ∧ w.grownBy w' none := by
  have HE := Lib.hid he
  have HT := Lib.hid hb
  have HM := Lib.hid hm
  have HN := Lib.hid hn
  have TM := Lib.hid tm
  have TN := Lib.hid tn
  clear he hb hm hn tm tn
  have ga := galloc (grefl w none) (.cells #[.int .u16 m.h.id, .bool m.h.qr, .int .u8 m.h.op, .bool m.h.aa, .bool m.h.tc, .bool m.h.rd, .bool m.h.ra, .bool m.h.z, .bool m.h.ad, .bool m.h.cd, .int .u8 m.h.code, vq, va, vu, vx, .bool m.has, .int .u16 m.sz, .int .u8 m.e, .int .u8 m.v, .int .u16 m.f, vo] 31)
  have gb := galloc (grefl (w.alloc (.cells #[.int .u16 m.h.id, .bool m.h.qr, .int .u8 m.h.op, .bool m.h.aa, .bool m.h.tc, .bool m.h.rd, .bool m.h.ra, .bool m.h.z, .bool m.h.ad, .bool m.h.cd, .int .u8 m.h.code, vq, va, vu, vx, .bool m.has, .int .u16 m.sz, .int .u8 m.e, .int .u8 m.v, .int .u16 m.f, vo] 31)) none) (.cells #[.int .u16 n.h.id, .bool n.h.qr, .int .u8 n.h.op, .bool n.h.aa, .bool n.h.tc, .bool n.h.rd, .bool n.h.ra, .bool n.h.z, .bool n.h.ad, .bool n.h.cd, .int .u8 n.h.code, wq, wa, wu, wx, .bool n.has, .int .u16 n.sz, .int .u8 n.e, .int .u8 n.v, .int .u16 n.f, wo] 31)
  have HA := Lib.hid (gblock gb (balloc w (.cells #[.int .u16 m.h.id, .bool m.h.qr, .int .u8 m.h.op, .bool m.h.aa, .bool m.h.tc, .bool m.h.rd, .bool m.h.ra, .bool m.h.z, .bool m.h.ad, .bool m.h.cd, .int .u8 m.h.code, vq, va, vu, vx, .bool m.has, .int .u16 m.sz, .int .u8 m.e, .int .u8 m.v, .int .u16 m.f, vo] 31)) (by simp))
  have HB := Lib.hid (show ((w.alloc (.cells #[.int .u16 m.h.id, .bool m.h.qr, .int .u8 m.h.op, .bool m.h.aa, .bool m.h.tc, .bool m.h.rd, .bool m.h.ra, .bool m.h.z, .bool m.h.ad, .bool m.h.cd, .int .u8 m.h.code, vq, va, vu, vx, .bool m.has, .int .u16 m.sz, .int .u8 m.e, .int .u8 m.v, .int .u16 m.f, vo] 31)).alloc (.cells #[.int .u16 n.h.id, .bool n.h.qr, .int .u8 n.h.op, .bool n.h.aa, .bool n.h.tc, .bool n.h.rd, .bool n.h.ra, .bool n.h.z, .bool n.h.ad, .bool n.h.cd, .int .u8 n.h.code, wq, wa, wu, wx, .bool n.has, .int .u16 n.sz, .int .u8 n.e, .int .u8 n.v, .int .u16 n.f, wo] 31)).heap[w.heap.size + 1]? = some (.cells #[.int .u16 n.h.id, .bool n.h.qr, .int .u8 n.h.op, .bool n.h.aa, .bool n.h.tc, .bool n.h.rd, .bool n.h.ra, .bool n.h.z, .bool n.h.ad, .bool n.h.cd, .int .u8 n.h.code, wq, wa, wu, wx, .bool n.has, .int .u16 n.sz, .int .u8 n.e, .int .u8 n.v, .int .u16 n.f, wo] 31 (0, 0)) from heap_alloc2_new w _ _)
  have G := Lib.hid (gtrans ga gb)
  clear ga gb
  unfold Ms.val
  go_enter Tryd.func6, Tryd.ntmps6
  go_wp2_with (first | refine wpList_load_row rfl 31 _ rfl w.heap.size rfl _ _ _ _ HA.out Tryd.underlying31 rfl (by kernel_rfl) ?_ | refine wpList_load_rowG rfl 31 _ rfl (w.heap.size + 1) rfl _ _ _ _ HB.out Tryd.underlying31 rfl (by kernel_rfl) ?_)
  generalize (w.alloc (.cells #[.int .u16 m.h.id, .bool m.h.qr, .int .u8 m.h.op, .bool m.h.aa, .bool m.h.tc, .bool m.h.rd, .bool m.h.ra, .bool m.h.z, .bool m.h.ad, .bool m.h.cd, .int .u8 m.h.code, vq, va, vu, vx, .bool m.has, .int .u16 m.sz, .int .u8 m.e, .int .u8 m.v, .int .u16 m.f, vo] 31)).alloc (.cells #[.int .u16 n.h.id, .bool n.h.qr, .int .u8 n.h.op, .bool n.h.aa, .bool n.h.tc, .bool n.h.rd, .bool n.h.ra, .bool n.h.z, .bool n.h.ad, .bool n.h.cd, .int .u8 n.h.code, wq, wa, wu, wx, .bool n.has, .int .u16 n.sz, .int .u8 n.e, .int .u8 n.v, .int .u16 n.f, wo] 31) = w0 at *
  have CL := large_any w0 m vq va vu vx vo (HM.out.kept G.out) TM.out
  unfold Ms.val at CL
  refine Calls.mono CL ?_
  clear CL
  rintro e w1 ⟨rfl, hg⟩
  have G1 := Lib.hid (gtrans G.out hg)
  have HA1 := Lib.hid (gblock hg HA.out (by simp))
  have HB1 := Lib.hid (gblock hg HB.out (by simp))
  clear G HA HB hg
  have G := G1
  have HA := HA1
  have HB := HB1
  clear G1 HA1 HB1
  by_cases h1 : 5000 ≤ m.big
  case pos =>
    rw [decide_eq_true h1]
    clear h1
    go_wp2_with fail
    refine Calls.mono (awake_any w1 (HE.out.kept G.out (by simp)) (HT.out.kept G.out (by simp))) ?_
    rintro e wz ⟨rfl, hg⟩
    have Gz := Lib.hid (gtrans G.out hg)
    clear hg
    go_wp2_with fail
    go_ret
    exact ⟨rfl, Gz.out⟩
  rw [decide_eq_false h1]
  have H1 := Lib.hid h1
  clear h1
  go_wp2_with (first | refine wpList_load_row rfl 31 _ rfl w.heap.size rfl _ _ _ _ HA.out Tryd.underlying31 rfl (by kernel_rfl) ?_ | refine wpList_load_rowG rfl 31 _ rfl (w.heap.size + 1) rfl _ _ _ _ HB.out Tryd.underlying31 rfl (by kernel_rfl) ?_)
  have CL := large_any w1 n wq wa wu wx wo (HN.out.kept G.out) TN.out
  unfold Ms.val at CL
  refine Calls.mono CL ?_
  clear CL
  rintro e w2 ⟨rfl, hg⟩
  have G2 := Lib.hid (gtrans G.out hg)
  have HA2 := Lib.hid (gblock hg HA.out (by simp))
  have HB2 := Lib.hid (gblock hg HB.out (by simp))
  clear G HA HB hg
  have G := G2
  have HA := HA2
  have HB := HB2
  clear G2 HA2 HB2
  by_cases h2 : 5000 ≤ n.big
  case pos =>
    rw [decide_eq_true h2]
    clear h2
    go_wp2_with fail
    refine Calls.mono (awake_any w2 (HE.out.kept G.out (by simp)) (HT.out.kept G.out (by simp))) ?_
    rintro e wz ⟨rfl, hg⟩
    have Gz := Lib.hid (gtrans G.out hg)
    clear hg
    go_wp2_with fail
    go_ret
    exact ⟨rfl, Gz.out⟩
  rw [decide_eq_false h2]
  clear h2
  have S := big_small (m := m) (by have := H1.out; omega)
  obtain ⟨lq, la, lu, lx, lo⟩ := S
  have LQ : m.qs.length ≤ 1000000 := by omega
  have LA : m.an.length ≤ 1000000 := by omega
  have LU : m.au.length ≤ 1000000 := by omega
  have LX : m.ex.length ≤ 1000000 := by omega
  have LO : m.ops.length ≤ 1000000 := by omega
  clear lq la lu lx lo
  go_wp2_with fail
  refine wp_region_segs [(true, [0, 1, 3, 4]), (false, [2]), (false, [5]), (true, [6, 7, 8, 9]), (false, [10]), (false, [11]), (true, [12, 13]), (false, [14]), (true, [15, 16])] (by kernel_rfl) (by kernel_rfl) ?_
  have hg : w2.grownBy w2.drew none := gdrew (grefl _ none)
  have G3 := Lib.hid (gtrans G.out hg)
  have HA3 := Lib.hid (gblock hg HA.out (by simp))
  have HB3 := Lib.hid (gblock hg HB.out (by simp))
  clear G HA HB hg
  have G := G3
  have HA := HA3
  have HB := HB3
  clear G3 HA3 HB3
  generalize w2.drew = w3 at *
  have G1 := Lib.hid (grefl w3 none)
  have Q1 := Lib.hid (fun (w' : World) (g : w3.grownBy w' none) => wsame_any w' m n vq va vu vx vo wq wa wu wx wo ((HM.out.kept G.out).kept g) ((HN.out.kept G.out).kept g) LQ LA LU LX LO)
  have Q2 := Lib.hid (fun (w' : World) (g : w3.grownBy w' none) => rfsame_any w' m n vq va vu vx vo wq wa wu wx wo ((HM.out.kept G.out).kept g) ((HN.out.kept G.out).kept g) LQ LA LU LX LO)
  have OW := Lib.hid (fun (w' : World) (g : w3.grownBy w' none) => own_any w' m vq va vu vx vo ((HM.out.kept G.out).kept g) LQ LA LU LX LO)
  have SM := Lib.hid (fun (w' : World) (g : w3.grownBy w' none) (xq xa xu xx xo : Value) (hx : MsV w' m xq xa xu xx xo) => wsame_any w' m m vq va vu vx vo xq xa xu xx xo ((HM.out.kept G.out).kept g) hx LQ LA LU LX LO)
  have AW := Lib.hid (fun (w' : World) (g : w3.grownBy w' none) => awake_any w' ((HE.out.kept G.out (by simp)).kept g (by simp)) ((HT.out.kept G.out (by simp)).kept g (by simp)))
  clear LQ LA LU LX LO
  unfold Ms.val at Q1 Q2 OW SM
  generalize decide (m = n) = d at Q1 Q2
  refine wpSegs_quiet rfl ?_
  simp only [List.filterMap_cons, List.filterMap_nil, List.getElem?_toArray, List.getElem?_cons_succ, List.getElem?_cons_zero]
  show wpQuiet _ _ _ _ [_, _, _, _] _
  have LA := Lib.hid (fun (w' : World) (h : ∃ g : Gr w3, w' = g.w) => (by obtain ⟨g, rfl⟩ := h; exact gblock g.h HA.out (by simp) : w'.heap[w.heap.size]? = some (.cells #[.int .u16 m.h.id, .bool m.h.qr, .int .u8 m.h.op, .bool m.h.aa, .bool m.h.tc, .bool m.h.rd, .bool m.h.ra, .bool m.h.z, .bool m.h.ad, .bool m.h.cd, .int .u8 m.h.code, vq, va, vu, vx, .bool m.has, .int .u16 m.sz, .int .u8 m.e, .int .u8 m.v, .int .u16 m.f, vo] 31 (0, 0))))
  have LB := Lib.hid (fun (w' : World) (h : ∃ g : Gr w3, w' = g.w) => (by obtain ⟨g, rfl⟩ := h; exact gblock g.h HB.out (by simp) : w'.heap[w.heap.size + 1]? = some (.cells #[.int .u16 n.h.id, .bool n.h.qr, .int .u8 n.h.op, .bool n.h.aa, .bool n.h.tc, .bool n.h.rd, .bool n.h.ra, .bool n.h.z, .bool n.h.ad, .bool n.h.cd, .int .u8 n.h.code, wq, wa, wu, wx, .bool n.has, .int .u16 n.sz, .int .u8 n.e, .int .u8 n.v, .int .u16 n.f, wo] 31 (0, 0))))
  repeat (first | refine wpQuiet_load_row rfl 31 _ rfl w.heap.size rfl _ _ _ _ LA.out Tryd.underlying31 rfl (by kernel_rfl) ?_ | refine wpQuiet_load_row rfl 31 _ rfl (w.heap.size + 1) rfl _ _ _ _ LB.out Tryd.underlying31 rfl (by kernel_rfl) ?_ | go_big_quiet_step (fail))
  refine wpQuiet_nil ?_
  clear LA LB
  refine wpSegs_one (by simp only [List.getElem?_toArray, List.getElem?_cons_succ, List.getElem?_cons_zero]; exact rfl) ?_
  go_wp2_with fail
  refine Calls.mono (Q1.out w3 G1.out) ?_
  rintro e w4 ⟨rfl, hg⟩
  go_wp2_with fail
  refine ⟨hg, ?_⟩
  have G1' := Lib.hid (gtrans G1.out hg)
  have Gw4 := Lib.hid (gtrans G.out hg)
  have HAw4 := Lib.hid (gblock hg HA.out (by simp))
  have HBw4 := Lib.hid (gblock hg HB.out (by simp))
  clear G HA HB hg
  have G := Gw4
  have HA := HAw4
  have HB := HBw4
  clear Gw4 HAw4 HBw4
  clear G1
  have G1 := G1'
  clear G1'
  refine wpSegs_one (by simp only [List.getElem?_toArray, List.getElem?_cons_succ, List.getElem?_cons_zero]; exact rfl) ?_
  go_wp2_with fail
  refine Calls.mono (Q2.out w4 G1.out) ?_
  rintro e w5 ⟨rfl, hg⟩
  go_wp2_with fail
  refine ⟨hg, ?_⟩
  have G1' := Lib.hid (gtrans G1.out hg)
  have Gw5 := Lib.hid (gtrans G.out hg)
  have HAw5 := Lib.hid (gblock hg HA.out (by simp))
  have HBw5 := Lib.hid (gblock hg HB.out (by simp))
  clear G HA HB hg
  have G := Gw5
  have HA := HAw5
  have HB := HBw5
  clear Gw5 HAw5 HBw5
  clear G1
  have G1 := G1'
  clear G1'
  clear Q1 Q2
  refine wpSegs_quiet rfl ?_
  simp only [List.filterMap_cons, List.filterMap_nil, List.getElem?_toArray, List.getElem?_cons_succ, List.getElem?_cons_zero]
  show wpQuiet _ _ _ _ [_, _, _, _] _
  have LA := Lib.hid (fun (w' : World) (h : ∃ g : Gr w5, w' = g.w) => (by obtain ⟨g, rfl⟩ := h; exact gblock g.h HA.out (by simp) : w'.heap[w.heap.size]? = some (.cells #[.int .u16 m.h.id, .bool m.h.qr, .int .u8 m.h.op, .bool m.h.aa, .bool m.h.tc, .bool m.h.rd, .bool m.h.ra, .bool m.h.z, .bool m.h.ad, .bool m.h.cd, .int .u8 m.h.code, vq, va, vu, vx, .bool m.has, .int .u16 m.sz, .int .u8 m.e, .int .u8 m.v, .int .u16 m.f, vo] 31 (0, 0))))
  have LB := Lib.hid (fun (w' : World) (h : ∃ g : Gr w5, w' = g.w) => (by obtain ⟨g, rfl⟩ := h; exact gblock g.h HB.out (by simp) : w'.heap[w.heap.size + 1]? = some (.cells #[.int .u16 n.h.id, .bool n.h.qr, .int .u8 n.h.op, .bool n.h.aa, .bool n.h.tc, .bool n.h.rd, .bool n.h.ra, .bool n.h.z, .bool n.h.ad, .bool n.h.cd, .int .u8 n.h.code, wq, wa, wu, wx, .bool n.has, .int .u16 n.sz, .int .u8 n.e, .int .u8 n.v, .int .u16 n.f, wo] 31 (0, 0))))
  repeat (first | refine wpQuiet_load_row rfl 31 _ rfl w.heap.size rfl _ _ _ _ LA.out Tryd.underlying31 rfl (by kernel_rfl) ?_ | refine wpQuiet_load_row rfl 31 _ rfl (w.heap.size + 1) rfl _ _ _ _ LB.out Tryd.underlying31 rfl (by kernel_rfl) ?_ | go_big_quiet_step (fail))
  refine wpQuiet_nil ?_
  clear LA LB
  refine wpSegs_one (by simp only [List.getElem?_toArray, List.getElem?_cons_succ, List.getElem?_cons_zero]; exact rfl) ?_
  go_wp2_with fail
  refine Calls.mono (OW.out w5 G1.out) ?_
  rintro e w6 ⟨⟨xq, xa, xu, xx, xo, rfl, hf⟩, hg⟩
  go_wp2_with fail
  refine ⟨hg, ?_⟩
  have G1' := Lib.hid (gtrans G1.out hg)
  have Gw6 := Lib.hid (gtrans G.out hg)
  have HAw6 := Lib.hid (gblock hg HA.out (by simp))
  have HBw6 := Lib.hid (gblock hg HB.out (by simp))
  clear G HA HB hg
  have G := Gw6
  have HA := HAw6
  have HB := HBw6
  clear Gw6 HAw6 HBw6
  clear G1
  have G1 := G1'
  clear G1'
  have HF := Lib.hid hf
  clear hf
  refine wpSegs_one (by simp only [List.getElem?_toArray, List.getElem?_cons_succ, List.getElem?_cons_zero]; exact rfl) ?_
  go_wp2_with fail
  refine Calls.mono (SM.out w6 G1.out xq xa xu xx xo HF.out.v) ?_
  rintro e w7 ⟨rfl, hg⟩
  go_wp2_with fail
  refine ⟨hg, ?_⟩
  have G1' := Lib.hid (gtrans G1.out hg)
  have Gw7 := Lib.hid (gtrans G.out hg)
  have HAw7 := Lib.hid (gblock hg HA.out (by simp))
  have HBw7 := Lib.hid (gblock hg HB.out (by simp))
  clear G HA HB hg
  have G := Gw7
  have HA := HAw7
  have HB := HBw7
  clear Gw7 HAw7 HBw7
  clear G1
  have G1 := G1'
  clear G1'
  clear SM OW HF
  refine wpSegs_quiet rfl ?_
  simp only [List.filterMap_cons, List.filterMap_nil, List.getElem?_toArray, List.getElem?_cons_succ, List.getElem?_cons_zero]
  show wpQuiet _ _ _ _ [_, _] _
  have LA := Lib.hid (fun (w' : World) (h : ∃ g : Gr w7, w' = g.w) => (by obtain ⟨g, rfl⟩ := h; exact gblock g.h HA.out (by simp) : w'.heap[w.heap.size]? = some (.cells #[.int .u16 m.h.id, .bool m.h.qr, .int .u8 m.h.op, .bool m.h.aa, .bool m.h.tc, .bool m.h.rd, .bool m.h.ra, .bool m.h.z, .bool m.h.ad, .bool m.h.cd, .int .u8 m.h.code, vq, va, vu, vx, .bool m.has, .int .u16 m.sz, .int .u8 m.e, .int .u8 m.v, .int .u16 m.f, vo] 31 (0, 0))))
  have LB := Lib.hid (fun (w' : World) (h : ∃ g : Gr w7, w' = g.w) => (by obtain ⟨g, rfl⟩ := h; exact gblock g.h HB.out (by simp) : w'.heap[w.heap.size + 1]? = some (.cells #[.int .u16 n.h.id, .bool n.h.qr, .int .u8 n.h.op, .bool n.h.aa, .bool n.h.tc, .bool n.h.rd, .bool n.h.ra, .bool n.h.z, .bool n.h.ad, .bool n.h.cd, .int .u8 n.h.code, wq, wa, wu, wx, .bool n.has, .int .u16 n.sz, .int .u8 n.e, .int .u8 n.v, .int .u16 n.f, wo] 31 (0, 0))))
  repeat (first | refine wpQuiet_load_row rfl 31 _ rfl w.heap.size rfl _ _ _ _ LA.out Tryd.underlying31 rfl (by kernel_rfl) ?_ | refine wpQuiet_load_row rfl 31 _ rfl (w.heap.size + 1) rfl _ _ _ _ LB.out Tryd.underlying31 rfl (by kernel_rfl) ?_ | go_big_quiet_step (fail))
  refine wpQuiet_nil ?_
  clear LA LB
  refine wpSegs_one (by simp only [List.getElem?_toArray, List.getElem?_cons_succ, List.getElem?_cons_zero]; exact rfl) ?_
  go_wp2_with fail
  refine Calls.mono (AW.out w7 G1.out) ?_
  rintro e w8 ⟨rfl, hg⟩
  go_wp2_with fail
  refine ⟨hg, ?_⟩
  have G1' := Lib.hid (gtrans G1.out hg)
  have Gw8 := Lib.hid (gtrans G.out hg)
  have HAw8 := Lib.hid (gblock hg HA.out (by simp))
  have HBw8 := Lib.hid (gblock hg HB.out (by simp))
  clear G HA HB hg
  have G := Gw8
  have HA := HAw8
  have HB := HBw8
  clear Gw8 HAw8 HBw8
  clear G1
  have G1 := G1'
  clear G1'
  refine wpSegs_quiet rfl ?_
  simp only [List.filterMap_cons, List.filterMap_nil, List.getElem?_toArray, List.getElem?_cons_succ, List.getElem?_cons_zero]
  show wpQuiet _ _ _ _ [_, _] _
  have LA := Lib.hid (fun (w' : World) (h : ∃ g : Gr w8, w' = g.w) => (by obtain ⟨g, rfl⟩ := h; exact gblock g.h HA.out (by simp) : w'.heap[w.heap.size]? = some (.cells #[.int .u16 m.h.id, .bool m.h.qr, .int .u8 m.h.op, .bool m.h.aa, .bool m.h.tc, .bool m.h.rd, .bool m.h.ra, .bool m.h.z, .bool m.h.ad, .bool m.h.cd, .int .u8 m.h.code, vq, va, vu, vx, .bool m.has, .int .u16 m.sz, .int .u8 m.e, .int .u8 m.v, .int .u16 m.f, vo] 31 (0, 0))))
  have LB := Lib.hid (fun (w' : World) (h : ∃ g : Gr w8, w' = g.w) => (by obtain ⟨g, rfl⟩ := h; exact gblock g.h HB.out (by simp) : w'.heap[w.heap.size + 1]? = some (.cells #[.int .u16 n.h.id, .bool n.h.qr, .int .u8 n.h.op, .bool n.h.aa, .bool n.h.tc, .bool n.h.rd, .bool n.h.ra, .bool n.h.z, .bool n.h.ad, .bool n.h.cd, .int .u8 n.h.code, wq, wa, wu, wx, .bool n.has, .int .u16 n.sz, .int .u8 n.e, .int .u8 n.v, .int .u16 n.f, wo] 31 (0, 0))))
  repeat (first | refine wpQuiet_load_row rfl 31 _ rfl w.heap.size rfl _ _ _ _ LA.out Tryd.underlying31 rfl (by kernel_rfl) ?_ | refine wpQuiet_load_row rfl 31 _ rfl (w.heap.size + 1) rfl _ _ _ _ LB.out Tryd.underlying31 rfl (by kernel_rfl) ?_ | go_big_quiet_step (fail))
  refine wpQuiet_nil ?_
  clear LA LB
  refine wpSegs_done ?_
  go_wp2_with fail
  go_ret
  exact ⟨rfl, G.out⟩
end Go.Proofs.YtncfjplolpgemaaDoor
