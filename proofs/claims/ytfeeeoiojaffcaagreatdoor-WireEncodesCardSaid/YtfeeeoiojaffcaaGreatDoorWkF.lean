/-
  Wire: WireEncodes' walk.
-/
import Derived.Test.YtfeeeoiojaffcaaGreatDoorWkE
import Derived.Test.YtfeeeoiojaffcaaGreatDoorA22
import Derived.Deep.Cut
namespace Go.Proofs.YtfeeeoiojaffcaaGreatDoor
open Go.RowKit

theorem num_size (m : Ms) : m.out.size = m.num := by
  unfold Ms.out Ms.num
  split
  · exact size_mk _
  · rfl
theorem Ms.typ.doc {m : Ms} (h : m.typ) (hb : m.big < 5000) : m.doc := by
  have hs := big_sum hb
  have f : ∀ (l : List Rc), (l.map rcW).sum < 5000 → ∀ r ∈ l, r.name.size ≤ 1000000 ∧ r.data.size ≤ 5000 := fun l hl r hr => by
    have h1 := sum_of rcW hr
    have h2 := rc_small (r := r) (by omega)
    omega
  refine ⟨h.rng hb, fun q hq => ?_, f _ (by omega), f _ (by omega), f _ (by omega)⟩
  have h1 := sum_of qnW hq
  have h2 := qn_small (r := q) (by omega)
  omega
set_option maxRecDepth 100000 in
set_option maxHeartbeats 8000000 in
theorem encodes_walk (w : World) (m : Ms) (vq va vu vx vo : Value) (he : Et w) (hb : Bt w) (hm : MsV w m vq va vu vx vo) (tm : m.typ) :
    Calls Tryz.prog 4 #[m.val vq va vu vx vo] w fun e w' => e = .returned (.bool true) ∧ w.grownBy w' none := by
  have HE := Lib.hid he
  have HT := Lib.hid hb
  have HM := Lib.hid hm
  have TM := Lib.hid tm
  clear he hb hm tm
  have A1 := Lib.hid (balloc w (.cells #[.int .u16 m.h.id, .bool m.h.qr, .int .u8 m.h.op, .bool m.h.aa, .bool m.h.tc, .bool m.h.rd, .bool m.h.ra, .bool m.h.z, .bool m.h.ad, .bool m.h.cd, .int .u8 m.h.code, vq, va, vu, vx, .bool m.has, .int .u16 m.sz, .int .u8 m.e, .int .u8 m.v, .int .u16 m.f, vo] 32))
  have G := Lib.hid (galloc (grefl w none) (.cells #[.int .u16 m.h.id, .bool m.h.qr, .int .u8 m.h.op, .bool m.h.aa, .bool m.h.tc, .bool m.h.rd, .bool m.h.ra, .bool m.h.z, .bool m.h.ad, .bool m.h.cd, .int .u8 m.h.code, vq, va, vu, vx, .bool m.has, .int .u16 m.sz, .int .u8 m.e, .int .u8 m.v, .int .u16 m.f, vo] 32))
  unfold Ms.val
  go_enter Tryz.func4, Tryz.ntmps4
  go_upto_region 1 with fail
  generalize (w.alloc (.cells #[.int .u16 m.h.id, .bool m.h.qr, .int .u8 m.h.op, .bool m.h.aa, .bool m.h.tc, .bool m.h.rd, .bool m.h.ra, .bool m.h.z, .bool m.h.ad, .bool m.h.cd, .int .u8 m.h.code, vq, va, vu, vx, .bool m.has, .int .u16 m.sz, .int .u8 m.e, .int .u8 m.v, .int .u16 m.f, vo] 32)) = w0 at *
  obtain ⟨b1, hb1⟩ : ∃ b, b = w.heap.size := ⟨_, rfl⟩
  rw [← hb1] at A1 ⊢
  clear hb1
  go_wp2_with (refine wpList_load_row rfl 32 _ rfl b1 rfl _ _ _ _ A1.out Tryz.underlying32 rfl (by kernel_rfl) ?_)
  have CL := large_any w0 m vq va vu vx vo (HM.out.kept G.out) TM.out.mem
  unfold Ms.val at CL
  refine Calls.mono CL ?_
  clear CL
  rintro e w1 ⟨rfl, hg⟩
  have G' := Lib.hid (gtrans G.out hg)
  have A1' := Lib.hid (gblock hg A1.out (by simp))
  clear hg G A1
  have G := G'
  have A1 := A1'
  clear G' A1'
  by_cases h1 : 5000 ≤ m.big
  case pos =>
    rw [decide_eq_true h1]
    clear h1
    go_wp2_with fail
    refine Calls.mono (awake_any w1 (HE.out.kept G.out (by simp)) (HT.out.kept G.out (by simp))) ?_
    rintro e wz ⟨rfl, hg⟩
    have Gz := Lib.hid (gtrans G.out hg)
    clear hg
    go_wp2_with fail
    go_ret
    exact ⟨rfl, Gz.out⟩
  rw [decide_eq_false h1]
  have DO := Lib.hid (TM.out.doc (by omega))
  have SM := Lib.hid (big_small (m := m) (by omega))
  clear h1
  go_wp2_with (refine wpList_load_row rfl 32 _ rfl b1 rfl _ _ _ _ A1.out Tryz.underlying32 rfl (by kernel_rfl) ?_)
  have CO := own_any w1 m vq va vu vx vo (HM.out.kept G.out) (by have := SM.out.ql; omega) (by have := SM.out.al; omega) (by have := SM.out.ul; omega) (by have := SM.out.xl; omega) (by have := SM.out.ol; omega)
  unfold Ms.val at CO
  refine Calls.mono CO ?_
  clear CO
  rintro e w2 ⟨⟨wq, wa, wu, wx, wo, rfl, hf⟩, hg⟩
  obtain ⟨Bq, dq, rfl⟩ := hf.q.len
  obtain ⟨Ba, da, rfl⟩ := hf.a.len
  obtain ⟨Bu, du, rfl⟩ := hf.u.len
  obtain ⟨Bx, dx, rfl⟩ := hf.x.len
  obtain ⟨Bo, dd, rfl⟩ := hf.o.len
  have F := Lib.hid hf.v
  clear hf
  have G' := Lib.hid (gtrans G.out hg)
  have A1' := Lib.hid (gblock hg A1.out (by simp))
  clear hg G A1
  have G := G'
  have A1 := A1'
  clear G' A1'
  have MA := Lib.hid (balloc w2 (.cells #[.int .u16 0, .bool false, .int .u8 0, .bool false, .bool false, .bool false, .bool false, .bool false, .bool false, .bool false, .int .u8 0, .slice none 0 0, .slice none 0 0, .slice none 0 0, .slice none 0 0, .bool false, .int .u16 0, .int .u8 0, .int .u8 0, .int .u16 0, .slice none 0 0] 32))
  have hg : w2.grownBy ((w2.alloc (.cells #[.int .u16 0, .bool false, .int .u8 0, .bool false, .bool false, .bool false, .bool false, .bool false, .bool false, .bool false, .int .u8 0, .slice none 0 0, .slice none 0 0, .slice none 0 0, .slice none 0 0, .bool false, .int .u16 0, .int .u8 0, .int .u8 0, .int .u16 0, .slice none 0 0] 32)).setRow w2.heap.size #[.int .u16 m.h.id, .bool m.h.qr, .int .u8 m.h.op, .bool m.h.aa, .bool m.h.tc, .bool m.h.rd, .bool m.h.ra, .bool m.h.z, .bool m.h.ad, .bool m.h.cd, .int .u8 m.h.code, .slice Bq m.qs.length dq, .slice Ba m.an.length da, .slice Bu m.au.length du, .slice Bx m.ex.length dx, .bool m.has, .int .u16 m.sz, .int .u8 m.e, .int .u8 m.v, .int .u16 m.f, .slice Bo m.ops.length dd]) none := gsetR (galloc (grefl _ none) _) (Nat.le_refl _) _
  have A3 := Lib.hid (bsetR MA.out #[.int .u16 m.h.id, .bool m.h.qr, .int .u8 m.h.op, .bool m.h.aa, .bool m.h.tc, .bool m.h.rd, .bool m.h.ra, .bool m.h.z, .bool m.h.ad, .bool m.h.cd, .int .u8 m.h.code, .slice Bq m.qs.length dq, .slice Ba m.an.length da, .slice Bu m.au.length du, .slice Bx m.ex.length dx, .bool m.has, .int .u16 m.sz, .int .u8 m.e, .int .u8 m.v, .int .u16 m.f, .slice Bo m.ops.length dd])
  go_upto_region 4 with (refine wpList_store_row rfl 32 _ _ rfl w2.heap.size #[.int .u16 m.h.id, .bool m.h.qr, .int .u8 m.h.op, .bool m.h.aa, .bool m.h.tc, .bool m.h.rd, .bool m.h.ra, .bool m.h.z, .bool m.h.ad, .bool m.h.cd, .int .u8 m.h.code, .slice Bq m.qs.length dq, .slice Ba m.an.length da, .slice Bu m.au.length du, .slice Bx m.ex.length dx, .bool m.has, .int .u16 m.sz, .int .u8 m.e, .int .u8 m.v, .int .u16 m.f, .slice Bo m.ops.length dd] rfl rfl 32 _ MA.out (by kernel_rfl) rfl (by kernel_rfl) ?_)
  clear MA
  have G' := Lib.hid (gtrans G.out hg)
  have A1' := Lib.hid (gblock hg A1.out (by simp))
  have F' := Lib.hid (F.out.kept hg)
  clear hg G A1 F
  have G := G'
  have A1 := A1'
  have F := F'
  clear G' A1' F'
  generalize ((w2.alloc (.cells #[.int .u16 0, .bool false, .int .u8 0, .bool false, .bool false, .bool false, .bool false, .bool false, .bool false, .bool false, .int .u8 0, .slice none 0 0, .slice none 0 0, .slice none 0 0, .slice none 0 0, .bool false, .int .u16 0, .int .u8 0, .int .u8 0, .int .u16 0, .slice none 0 0] 32)).setRow w2.heap.size #[.int .u16 m.h.id, .bool m.h.qr, .int .u8 m.h.op, .bool m.h.aa, .bool m.h.tc, .bool m.h.rd, .bool m.h.ra, .bool m.h.z, .bool m.h.ad, .bool m.h.cd, .int .u8 m.h.code, .slice Bq m.qs.length dq, .slice Ba m.an.length da, .slice Bu m.au.length du, .slice Bx m.ex.length dx, .bool m.has, .int .u16 m.sz, .int .u8 m.e, .int .u8 m.v, .int .u16 m.f, .slice Bo m.ops.length dd]) = w3 at *
  generalize w2.heap.size = b3 at *
  have CE := encode_any w3 m (.slice Bq m.qs.length dq) (.slice Ba m.an.length da) (.slice Bu m.au.length du) (.slice Bx m.ex.length dx) (.slice Bo m.ops.length dd) (HE.out.kept G.out (by simp)) (HT.out.kept G.out (by simp)) F.out DO.out.rng
  unfold Ms.val at CE
  have CE := Lib.hid CE
  go_wp2_with (refine wpList_load_row rfl 32 _ rfl b3 rfl _ _ _ _ A3.out Tryz.underlying32 rfl (by kernel_rfl) ?_)
  refine Calls.mono CE.out ?_
  clear CE
  rintro e w4 ⟨rfl, hg⟩
  have G' := Lib.hid (gtrans G.out hg)
  have A1' := Lib.hid (gblock hg A1.out (by simp))
  have A3' := Lib.hid (gblock hg A3.out (by simp))
  have F' := Lib.hid (F.out.kept hg)
  clear hg G A1 A3 F
  have G := G'
  have A1 := A1'
  have A3 := A3'
  have F := F'
  clear G' A1' A3' F'
  go_upto_region 5 with fail
  have CE := rencode_any w4 m vq va vu vx vo (HM.out.kept G.out) DO.out
  unfold Ms.val at CE
  have CE := Lib.hid CE
  go_wp2_with (refine wpList_load_row rfl 32 _ rfl b1 rfl _ _ _ _ A1.out Tryz.underlying32 rfl (by kernel_rfl) ?_)
  refine Calls.mono CE.out ?_
  clear CE
  rintro e w5 ⟨rfl, hg⟩
  have G' := Lib.hid (gtrans G.out hg)
  have A1' := Lib.hid (gblock hg A1.out (by simp))
  have A3' := Lib.hid (gblock hg A3.out (by simp))
  have F' := Lib.hid (F.out.kept hg)
  clear hg G A1 A3 F
  have G := G'
  have A1 := A1'
  have A3 := A3'
  have F := F'
  clear G' A1' A3' F'
  go_upto_region 6 with fail
  have CE := size_any w5 m (.slice Bq m.qs.length dq) (.slice Ba m.an.length da) (.slice Bu m.au.length du) (.slice Bx m.ex.length dx) (.slice Bo m.ops.length dd) (HE.out.kept G.out (by simp)) (HT.out.kept G.out (by simp)) F.out DO.out.rng
  unfold Ms.val at CE
  have CE := Lib.hid CE
  go_wp2_with (refine wpList_load_row rfl 32 _ rfl b3 rfl _ _ _ _ A3.out Tryz.underlying32 rfl (by kernel_rfl) ?_)
  refine Calls.mono CE.out ?_
  clear CE
  rintro e w6 ⟨rfl, hg⟩
  have G' := Lib.hid (gtrans G.out hg)
  have A1' := Lib.hid (gblock hg A1.out (by simp))
  have A3' := Lib.hid (gblock hg A3.out (by simp))
  have F' := Lib.hid (F.out.kept hg)
  clear hg G A1 A3 F
  have G := G'
  have A1 := A1'
  have A3 := A3'
  have F := F'
  clear G' A1' A3' F'
  go_upto_region 7 with fail
  have M1 := Lib.hid (fun g : Gr w6 => wmay_any g.w m (.slice Bq m.qs.length dq) (.slice Ba m.an.length da) (.slice Bu m.au.length du) (.slice Bx m.ex.length dx) (.slice Bo m.ops.length dd) ((HE.out.kept G.out (by simp)).kept g.h (by simp)) ((HT.out.kept G.out (by simp)).kept g.h (by simp)) (F.out.kept g.h) DO.out.rng.few)
  have M2 := Lib.hid (fun g : Gr w6 => rmay7_any g.w m vq va vu vx vo ((HM.out.kept G.out).kept g.h) DO.out.rng.few DO.out.qn (fun r hr => (DO.out.an r hr).1) (fun r hr => (DO.out.un r hr).1) (fun r hr => (DO.out.xn r hr).1))
  have M3 := Lib.hid (fun g : Gr w6 => rfsame_any g.w m m (.slice Bq m.qs.length dq) (.slice Ba m.an.length da) (.slice Bu m.au.length du) (.slice Bx m.ex.length dx) (.slice Bo m.ops.length dd) vq va vu vx vo (F.out.kept g.h) ((HM.out.kept G.out).kept g.h) (by have := SM.out.ql; omega) (by have := SM.out.al; omega) (by have := SM.out.ul; omega) (by have := SM.out.xl; omega) (by have := SM.out.ol; omega))
  rw [decide_eq_true (rfl : m = m)] at M3
  have M4 := Lib.hid (fun g : Gr w6 => awake_any g.w ((HE.out.kept G.out (by simp)).kept g.h (by simp)) ((HT.out.kept G.out (by simp)).kept g.h (by simp)))
  unfold Ms.val at M1 M2 M3
  have NS := num_size m
  generalize m.may = mb at *
  generalize m.out = ot at *
  generalize m.num = nm at *
  generalize m.wE = we at *
  have L_A1 := Lib.hid (fun (w' : World) (h : ∃ g : Gr w6, w' = g.w) => (by obtain ⟨g, rfl⟩ := h; exact gblock g.h A1.out (by simp) : w'.heap[b1]? = some (.cells #[.int .u16 m.h.id, .bool m.h.qr, .int .u8 m.h.op, .bool m.h.aa, .bool m.h.tc, .bool m.h.rd, .bool m.h.ra, .bool m.h.z, .bool m.h.ad, .bool m.h.cd, .int .u8 m.h.code, vq, va, vu, vx, .bool m.has, .int .u16 m.sz, .int .u8 m.e, .int .u8 m.v, .int .u16 m.f, vo] 32 (0, 0))))
  have L_A3 := Lib.hid (fun (w' : World) (h : ∃ g : Gr w6, w' = g.w) => (by obtain ⟨g, rfl⟩ := h; exact gblock g.h A3.out (by simp) : w'.heap[b3]? = some (.cells #[.int .u16 m.h.id, .bool m.h.qr, .int .u8 m.h.op, .bool m.h.aa, .bool m.h.tc, .bool m.h.rd, .bool m.h.ra, .bool m.h.z, .bool m.h.ad, .bool m.h.cd, .int .u8 m.h.code, .slice Bq m.qs.length dq, .slice Ba m.an.length da, .slice Bu m.au.length du, .slice Bx m.ex.length dx, .bool m.has, .int .u16 m.sz, .int .u8 m.e, .int .u8 m.v, .int .u16 m.f, .slice Bo m.ops.length dd] 32 (0, 0))))
  refine wp_region_gr (by kernel_rfl) (by kernel_rfl) ?_
  refine wpQuiet_load_row rfl 32 _ rfl b3 rfl _ _ _ _ L_A3.out Tryz.underlying32 rfl (by kernel_rfl) ?_
  simp only [Act.put, List.setIfInBounds_toArray, List.set_cons_succ, List.set_cons_zero]
  go_big_quiet_step ((go_at_call 15; with_reducible exact Calls.gr (M1.out _)))
  refine wpQuiet_load_row rfl 32 _ rfl b1 rfl _ _ _ _ L_A1.out Tryz.underlying32 rfl (by kernel_rfl) ?_
  simp only [Act.put, List.setIfInBounds_toArray, List.set_cons_succ, List.set_cons_zero]
  go_big_quiet_step ((go_at_call 16; with_reducible exact Calls.gr (M2.out _)))
  go_big_quiet_step (fail)
  go_big_quiet_step (fail)
  go_big_quiet_step (fail)
  go_big_quiet_step (fail)
  go_big_quiet_step (fail)
  go_big_quiet_step (fail)
  go_big_quiet_step (fail)
  go_big_quiet_step (fail)
  go_big_quiet_step (fail)
  go_big_quiet_step (fail)
  go_big_quiet_step (fail)
  go_big_quiet_step (fail)
  go_big_quiet_step (fail)
  go_big_quiet_step (fail)
  go_big_quiet_step (fail)
  go_big_quiet_step (fail)
  go_big_quiet_step (fail)
  go_big_quiet_step (fail)
  go_big_quiet_step (fail)
  go_big_quiet_step (fail)
  go_big_quiet_step (fail)
  go_big_quiet_step (fail)
  go_big_quiet_step (fail)
  refine wpQuiet_load_row rfl 32 _ rfl b3 rfl _ _ _ _ L_A3.out Tryz.underlying32 rfl (by kernel_rfl) ?_
  simp only [Act.put, List.setIfInBounds_toArray, List.set_cons_succ, List.set_cons_zero]
  refine wpQuiet_load_row rfl 32 _ rfl b1 rfl _ _ _ _ L_A1.out Tryz.underlying32 rfl (by kernel_rfl) ?_
  simp only [Act.put, List.setIfInBounds_toArray, List.set_cons_succ, List.set_cons_zero]
  go_big_quiet_step ((go_at_call 8; with_reducible exact Calls.gr (M3.out _)))
  go_big_quiet_step (fail)
  go_big_quiet_step (fail)
  go_big_quiet_step ((go_at_call 5; with_reducible exact Calls.gr (M4.out _)))
  repeat (go_big_quiet_step (fail))
  refine wpQuiet_nil ?_
  rintro _ ⟨gq, rfl⟩
  have G' := Lib.hid (gtrans G.out gq.h)
  go_wp2_with fail
  go_ret
  exact ⟨rfl, G'.out⟩
end Go.Proofs.YtfeeeoiojaffcaaGreatDoor
