/-
  Intake: IntakeTells' walk.
-/
import Derived.Test.YtoncjhjnmomecaaDoorIkI
import Derived.Deep.Cut
namespace Go.Proofs.YtoncjhjnmomecaaDoor
open Go.RowKit

theorem blank_len (c : Cm) (k s : Int) : (blank c k s).qs.length ≤ 1000000 ∧ (blank c k s).an.length ≤ 1000000 ∧ (blank c k s).au.length ≤ 1000000 ∧ (blank c k s).ex.length ≤ 1000000 ∧ (blank c k s).ops.length ≤ 1000000 := by
  unfold blank
  dsimp only
  refine ⟨?_, Nat.zero_le _, Nat.zero_le _, Nat.zero_le _, Nat.zero_le _⟩
  split <;> simp
set_option maxRecDepth 100000 in
set_option maxHeartbeats 4000000 in
theorem tells_walk (w : World) (c : Cm) (most kk ss : Int) (he : Et w) (hb : Bt w) (_hn : c.q.name.size ≤ maxLen) :
    Calls Tryd.prog 4 #[c.val, .int .i64 most, .int .i64 kk, .int .i64 ss] w fun e w' => e = .returned (.bool true) ∧ w.grownBy w' none := by
  have HE := Lib.hid he
  have HB := Lib.hid hb
  clear he hb
  have RA := Lib.hid (fun w' => show Calls Tryd.prog 7 #[.agg #[.int .u8 c.kind, .int .i64 c.code, .int .u16 c.h.id, .bool c.h.qr, .int .u8 c.h.op, .bool c.h.aa, .bool c.h.tc, .bool c.h.rd, .bool c.h.ra, .bool c.h.z, .bool c.h.ad, .bool c.h.cd, .int .u8 c.h.code, .bool c.hasQ, .string c.q.name, .int .u16 c.q.kind, .int .u16 c.q.cls, .bool c.hasE, .int .i64 c.size], .int .i64 most] w' fun e w'' => e = .returned (.int .i64 (room c most)) ∧ w'.grownBy w'' none from room_any w' c most)
  have RB := Lib.hid (fun w' => show Calls Tryd.prog 9 #[.agg #[.int .u8 c.kind, .int .i64 c.code, .int .u16 c.h.id, .bool c.h.qr, .int .u8 c.h.op, .bool c.h.aa, .bool c.h.tc, .bool c.h.rd, .bool c.h.ra, .bool c.h.z, .bool c.h.ad, .bool c.h.cd, .int .u8 c.h.code, .bool c.hasQ, .string c.q.name, .int .u16 c.q.kind, .int .u16 c.q.cls, .bool c.hasE, .int .i64 c.size], .int .i64 most] w' fun e w'' => e = .returned (.int .i64 (room c most)) ∧ w'.grownBy w'' none from rroom_any w' c most)
  generalize room c most = R at *
  have BA := Lib.hid (fun w' => show Calls Tryd.prog 11 #[.agg #[.int .u8 c.kind, .int .i64 c.code, .int .u16 c.h.id, .bool c.h.qr, .int .u8 c.h.op, .bool c.h.aa, .bool c.h.tc, .bool c.h.rd, .bool c.h.ra, .bool c.h.z, .bool c.h.ad, .bool c.h.cd, .int .u8 c.h.code, .bool c.hasQ, .string c.q.name, .int .u16 c.q.kind, .int .u16 c.q.cls, .bool c.hasE, .int .i64 c.size], .int .i64 kk, .int .i64 ss] w' (BkPost (blank c kk ss) w') from blank_any w' c kk ss)
  have BB := Lib.hid (fun w' => show Calls Tryd.prog 12 #[.agg #[.int .u8 c.kind, .int .i64 c.code, .int .u16 c.h.id, .bool c.h.qr, .int .u8 c.h.op, .bool c.h.aa, .bool c.h.tc, .bool c.h.rd, .bool c.h.ra, .bool c.h.z, .bool c.h.ad, .bool c.h.cd, .int .u8 c.h.code, .bool c.hasQ, .string c.q.name, .int .u16 c.q.kind, .int .u16 c.q.cls, .bool c.hasE, .int .i64 c.size], .int .i64 kk, .int .i64 ss] w' (BkPost (blank c kk ss) w') from rblank_any w' c kk ss)
  have BL := Lib.hid (blank_len c kk ss)
  generalize blank c kk ss = m at *
  unfold Cm.val
  have A1 := Lib.hid (balloc w (.cells #[.int .u8 c.kind, .int .i64 c.code, .int .u16 c.h.id, .bool c.h.qr, .int .u8 c.h.op, .bool c.h.aa, .bool c.h.tc, .bool c.h.rd, .bool c.h.ra, .bool c.h.z, .bool c.h.ad, .bool c.h.cd, .int .u8 c.h.code, .bool c.hasQ, .string c.q.name, .int .u16 c.q.kind, .int .u16 c.q.cls, .bool c.hasE, .int .i64 c.size] 32))
  have G := Lib.hid (galloc (grefl w none) (.cells #[.int .u8 c.kind, .int .i64 c.code, .int .u16 c.h.id, .bool c.h.qr, .int .u8 c.h.op, .bool c.h.aa, .bool c.h.tc, .bool c.h.rd, .bool c.h.ra, .bool c.h.z, .bool c.h.ad, .bool c.h.cd, .int .u8 c.h.code, .bool c.hasQ, .string c.q.name, .int .u16 c.q.kind, .int .u16 c.q.cls, .bool c.hasE, .int .i64 c.size] 32))
  have c14 := bcellAt A1.out 14
  go_enter Tryd.func4, Tryd.ntmps4
  have EA := Lib.hid (fun (w' : World) (g : w.grownBy w' none) => awake25_any w' (HE.out.kept g (by simp)) (HB.out.kept g (by simp)))
  clear HE HB
  by_cases h : 1000 < c.q.name.size
  · have hd : decide ((1000 : Int) < (c.q.name.size : Int)) = true := decide_eq_true (by omega)
    go_wp2_with fail
    refine Calls.mono (EA.out _ G.out) ?_
    rintro e w7 ⟨rfl, hg⟩
    have G7 := Lib.hid (gtrans G.out hg)
    clear hg hd h c14
    go_wp2_with fail
    go_ret
    exact ⟨rfl, G7.out⟩
  have hd : decide ((1000 : Int) < (c.q.name.size : Int)) = false := decide_eq_false (by omega)
  clear h
  go_upto_region 3 with fail
  clear c14 hd
  generalize (w.alloc (.cells #[.int .u8 c.kind, .int .i64 c.code, .int .u16 c.h.id, .bool c.h.qr, .int .u8 c.h.op, .bool c.h.aa, .bool c.h.tc, .bool c.h.rd, .bool c.h.ra, .bool c.h.z, .bool c.h.ad, .bool c.h.cd, .int .u8 c.h.code, .bool c.hasQ, .string c.q.name, .int .u16 c.q.kind, .int .u16 c.q.cls, .bool c.hasE, .int .i64 c.size] 32)) = w1 at *
  have L0 := Lib.hid (blt A1.out)
  obtain ⟨b4, hb4⟩ : ∃ b, b = w.heap.size := ⟨_, rfl⟩
  rw [← hb4] at A1 L0 ⊢
  clear hb4
  have Z1 := Lib.hid (balloc w1 (.cells #[.int .u8 0, .int .i64 0, .int .u16 0, .bool false, .int .u8 0, .bool false, .bool false, .bool false, .bool false, .bool false, .bool false, .bool false, .int .u8 0, .bool false, .string { data := #[] }, .int .u16 0, .int .u16 0, .bool false, .int .i64 0] 28))
  go_upto_region 4 with (first | refine wpList_load_row rfl 32 _ rfl b4 rfl _ _ _ _ A1.out Tryd.underlying32 rfl (by kernel_rfl) ?_ | refine wpList_store_row rfl 28 _ _ rfl w1.heap.size #[.int .u8 c.kind, .int .i64 c.code, .int .u16 c.h.id, .bool c.h.qr, .int .u8 c.h.op, .bool c.h.aa, .bool c.h.tc, .bool c.h.rd, .bool c.h.ra, .bool c.h.z, .bool c.h.ad, .bool c.h.cd, .int .u8 c.h.code, .bool c.hasQ, .string c.q.name, .int .u16 c.q.kind, .int .u16 c.q.cls, .bool c.hasE, .int .i64 c.size] rfl rfl 28 _ Z1.out (by kernel_rfl) rfl (by kernel_rfl) ?_)
  have hg : w1.grownBy ((w1.alloc (.cells #[.int .u8 0, .int .i64 0, .int .u16 0, .bool false, .int .u8 0, .bool false, .bool false, .bool false, .bool false, .bool false, .bool false, .bool false, .int .u8 0, .bool false, .string { data := #[] }, .int .u16 0, .int .u16 0, .bool false, .int .i64 0] 28)).setRow w1.heap.size #[.int .u8 c.kind, .int .i64 c.code, .int .u16 c.h.id, .bool c.h.qr, .int .u8 c.h.op, .bool c.h.aa, .bool c.h.tc, .bool c.h.rd, .bool c.h.ra, .bool c.h.z, .bool c.h.ad, .bool c.h.cd, .int .u8 c.h.code, .bool c.hasQ, .string c.q.name, .int .u16 c.q.kind, .int .u16 c.q.cls, .bool c.hasE, .int .i64 c.size]) none := gsetR (galloc (grefl _ none) _) (Nat.le_refl _) _
  have A2 := Lib.hid (bsetR Z1.out #[.int .u8 c.kind, .int .i64 c.code, .int .u16 c.h.id, .bool c.h.qr, .int .u8 c.h.op, .bool c.h.aa, .bool c.h.tc, .bool c.h.rd, .bool c.h.ra, .bool c.h.z, .bool c.h.ad, .bool c.h.cd, .int .u8 c.h.code, .bool c.hasQ, .string c.q.name, .int .u16 c.q.kind, .int .u16 c.q.cls, .bool c.hasE, .int .i64 c.size])
  clear Z1
  have G' := Lib.hid (gtrans G.out hg)
  have A1' := Lib.hid (gblock hg A1.out (by simp))
  clear hg G A1
  have G := G'
  have A1 := A1'
  clear G' A1'
  generalize ((w1.alloc (.cells #[.int .u8 0, .int .i64 0, .int .u16 0, .bool false, .int .u8 0, .bool false, .bool false, .bool false, .bool false, .bool false, .bool false, .bool false, .int .u8 0, .bool false, .string { data := #[] }, .int .u16 0, .int .u16 0, .bool false, .int .i64 0] 28)).setRow w1.heap.size #[.int .u8 c.kind, .int .i64 c.code, .int .u16 c.h.id, .bool c.h.qr, .int .u8 c.h.op, .bool c.h.aa, .bool c.h.tc, .bool c.h.rd, .bool c.h.ra, .bool c.h.z, .bool c.h.ad, .bool c.h.cd, .int .u8 c.h.code, .bool c.hasQ, .string c.q.name, .int .u16 c.q.kind, .int .u16 c.q.cls, .bool c.hasE, .int .i64 c.size]) = w2 at *
  generalize w1.heap.size = b9 at *
  refine wp_region_segs [(true, [0, 1, 3, 4]), (false, [2]), (false, [5]), (true, [6, 7, 8, 9, 10, 12, 13, 14]), (false, [11]), (false, [15]), (false, [16]), (true, [17, 18]), (false, [19]), (true, [20, 21])] (by kernel_rfl) (by kernel_rfl) ?_
  have hg : w2.grownBy w2.drew none := gdrew (grefl _ none)
  have G' := Lib.hid (gtrans G.out hg)
  have A1' := Lib.hid (gblock hg A1.out (by simp))
  have A2' := Lib.hid (gblock hg A2.out (by simp))
  clear hg G A1 A2
  have G := G'
  have A1 := A1'
  have A2 := A2'
  clear G' A1' A2'
  generalize w2.drew = w3 at *
  have G1 := Lib.hid (grefl w3 none)
  refine wpSegs_quiet rfl ?_
  simp only [List.filterMap_cons, List.filterMap_nil, List.getElem?_toArray, List.getElem?_cons_succ, List.getElem?_cons_zero]
  show wpQuiet _ _ _ _ [_, _, _, _] _
  have L_A1 := Lib.hid (fun (w' : World) (h : ∃ g : Gr w3, w' = g.w) => (by obtain ⟨g, rfl⟩ := h; exact gblock g.h A1.out (by simp) : w'.heap[b4]? = some (.cells #[.int .u8 c.kind, .int .i64 c.code, .int .u16 c.h.id, .bool c.h.qr, .int .u8 c.h.op, .bool c.h.aa, .bool c.h.tc, .bool c.h.rd, .bool c.h.ra, .bool c.h.z, .bool c.h.ad, .bool c.h.cd, .int .u8 c.h.code, .bool c.hasQ, .string c.q.name, .int .u16 c.q.kind, .int .u16 c.q.cls, .bool c.hasE, .int .i64 c.size] 32 (0, 0))))
  have L_A2 := Lib.hid (fun (w' : World) (h : ∃ g : Gr w3, w' = g.w) => (by obtain ⟨g, rfl⟩ := h; exact gblock g.h A2.out (by simp) : w'.heap[b9]? = some (.cells #[.int .u8 c.kind, .int .i64 c.code, .int .u16 c.h.id, .bool c.h.qr, .int .u8 c.h.op, .bool c.h.aa, .bool c.h.tc, .bool c.h.rd, .bool c.h.ra, .bool c.h.z, .bool c.h.ad, .bool c.h.cd, .int .u8 c.h.code, .bool c.hasQ, .string c.q.name, .int .u16 c.q.kind, .int .u16 c.q.cls, .bool c.hasE, .int .i64 c.size] 28 (0, 0))))
  refine wpQuiet_load_row rfl 28 _ rfl b9 rfl _ _ _ _ L_A2.out Tryd.underlying28 rfl (by kernel_rfl) ?_
  simp only [Act.put, List.setIfInBounds_toArray, List.set_cons_succ, List.set_cons_zero]
  go_big_quiet_step (fail)
  refine wpQuiet_load_row rfl 32 _ rfl b4 rfl _ _ _ _ L_A1.out Tryd.underlying32 rfl (by kernel_rfl) ?_
  simp only [Act.put, List.setIfInBounds_toArray, List.set_cons_succ, List.set_cons_zero]
  go_big_quiet_step (fail)
  refine wpQuiet_nil ?_
  clear L_A1 L_A2
  refine wpSegs_one (by simp only [List.getElem?_toArray, List.getElem?_cons_succ, List.getElem?_cons_zero]; exact rfl) ?_
  go_wp2_with fail
  refine Calls.mono (RA.out _) ?_
  rintro e w4 ⟨rfl, hg⟩
  go_wp2_with fail
  refine ⟨hg, ?_⟩
  have G' := Lib.hid (gtrans G.out hg)
  have A1' := Lib.hid (gblock hg A1.out (by simp))
  have A2' := Lib.hid (gblock hg A2.out (by simp))
  have G1' := Lib.hid (gtrans G1.out hg)
  clear hg G A1 A2 G1
  have G := G'
  have A1 := A1'
  have A2 := A2'
  have G1 := G1'
  clear G' A1' A2' G1'
  refine wpSegs_one (by simp only [List.getElem?_toArray, List.getElem?_cons_succ, List.getElem?_cons_zero]; exact rfl) ?_
  go_wp2_with fail
  refine Calls.mono (RB.out _) ?_
  rintro e w5 ⟨rfl, hg⟩
  go_wp2_with fail
  refine ⟨hg, ?_⟩
  have G' := Lib.hid (gtrans G.out hg)
  have A1' := Lib.hid (gblock hg A1.out (by simp))
  have A2' := Lib.hid (gblock hg A2.out (by simp))
  have G1' := Lib.hid (gtrans G1.out hg)
  clear hg G A1 A2 G1
  have G := G'
  have A1 := A1'
  have A2 := A2'
  have G1 := G1'
  clear G' A1' A2' G1'
  refine wpSegs_quiet rfl ?_
  simp only [List.filterMap_cons, List.filterMap_nil, List.getElem?_toArray, List.getElem?_cons_succ, List.getElem?_cons_zero]
  show wpQuiet _ _ _ _ [_, _, _, _, _, _, _, _] _
  have L_A1 := Lib.hid (fun (w' : World) (h : ∃ g : Gr w5, w' = g.w) => (by obtain ⟨g, rfl⟩ := h; exact gblock g.h A1.out (by simp) : w'.heap[b4]? = some (.cells #[.int .u8 c.kind, .int .i64 c.code, .int .u16 c.h.id, .bool c.h.qr, .int .u8 c.h.op, .bool c.h.aa, .bool c.h.tc, .bool c.h.rd, .bool c.h.ra, .bool c.h.z, .bool c.h.ad, .bool c.h.cd, .int .u8 c.h.code, .bool c.hasQ, .string c.q.name, .int .u16 c.q.kind, .int .u16 c.q.cls, .bool c.hasE, .int .i64 c.size] 32 (0, 0))))
  have L_A2 := Lib.hid (fun (w' : World) (h : ∃ g : Gr w5, w' = g.w) => (by obtain ⟨g, rfl⟩ := h; exact gblock g.h A2.out (by simp) : w'.heap[b9]? = some (.cells #[.int .u8 c.kind, .int .i64 c.code, .int .u16 c.h.id, .bool c.h.qr, .int .u8 c.h.op, .bool c.h.aa, .bool c.h.tc, .bool c.h.rd, .bool c.h.ra, .bool c.h.z, .bool c.h.ad, .bool c.h.cd, .int .u8 c.h.code, .bool c.hasQ, .string c.q.name, .int .u16 c.q.kind, .int .u16 c.q.cls, .bool c.hasE, .int .i64 c.size] 28 (0, 0))))
  go_big_quiet_step (fail)
  go_big_quiet_step (fail)
  refine wpQuiet_load_row rfl 28 _ rfl b9 rfl _ _ _ _ L_A2.out Tryd.underlying28 rfl (by kernel_rfl) ?_
  simp only [Act.put, List.setIfInBounds_toArray, List.set_cons_succ, List.set_cons_zero]
  go_big_quiet_step (fail)
  go_big_quiet_step (fail)
  refine wpQuiet_load_row rfl 32 _ rfl b4 rfl _ _ _ _ L_A1.out Tryd.underlying32 rfl (by kernel_rfl) ?_
  simp only [Act.put, List.setIfInBounds_toArray, List.set_cons_succ, List.set_cons_zero]
  go_big_quiet_step (fail)
  go_big_quiet_step (fail)
  refine wpQuiet_nil ?_
  clear L_A1 L_A2
  refine wpSegs_one (by simp only [List.getElem?_toArray, List.getElem?_cons_succ, List.getElem?_cons_zero]; exact rfl) ?_
  go_wp2_with fail
  refine Calls.mono (BA.out _) ?_
  rintro e w6 ⟨hg, vq, rfl, hf⟩
  go_wp2_with fail
  refine ⟨hg, ?_⟩
  have F1 := Lib.hid hf.v
  clear hf
  have G' := Lib.hid (gtrans G.out hg)
  have A1' := Lib.hid (gblock hg A1.out (by simp))
  have A2' := Lib.hid (gblock hg A2.out (by simp))
  have G1' := Lib.hid (gtrans G1.out hg)
  clear hg G A1 A2 G1
  have G := G'
  have A1 := A1'
  have A2 := A2'
  have G1 := G1'
  clear G' A1' A2' G1'
  refine wpSegs_one (by simp only [List.getElem?_toArray, List.getElem?_cons_succ, List.getElem?_cons_zero]; exact rfl) ?_
  go_wp2_with fail
  refine Calls.mono (BB.out _) ?_
  rintro e w7 ⟨hg, uq, rfl, hf⟩
  go_wp2_with fail
  refine ⟨hg, ?_⟩
  have F2 := Lib.hid hf.v
  clear hf
  have G' := Lib.hid (gtrans G.out hg)
  have A1' := Lib.hid (gblock hg A1.out (by simp))
  have A2' := Lib.hid (gblock hg A2.out (by simp))
  have F1' := Lib.hid (F1.out.kept hg)
  have G1' := Lib.hid (gtrans G1.out hg)
  clear hg G A1 A2 F1 G1
  have G := G'
  have A1 := A1'
  have A2 := A2'
  have F1 := F1'
  have G1 := G1'
  clear G' A1' A2' F1' G1'
  have SM := rfsame_any w7 m m _ _ _ _ _ _ _ _ _ _ F1.out F2.out BL.out.1 BL.out.2.1 BL.out.2.2.1 BL.out.2.2.2.1 BL.out.2.2.2.2
  rw [decide_eq_true (rfl : m = m)] at SM
  refine wpSegs_one (by simp only [List.getElem?_toArray, List.getElem?_cons_succ, List.getElem?_cons_zero]; exact rfl) ?_
  go_wp2_with fail
  refine Calls.mono (SM) ?_
  rintro e w8 ⟨rfl, hg⟩
  go_wp2_with fail
  refine ⟨hg, ?_⟩
  have G' := Lib.hid (gtrans G.out hg)
  have A1' := Lib.hid (gblock hg A1.out (by simp))
  have A2' := Lib.hid (gblock hg A2.out (by simp))
  have F1' := Lib.hid (F1.out.kept hg)
  have G1' := Lib.hid (gtrans G1.out hg)
  clear hg G A1 A2 F1 G1
  have G := G'
  have A1 := A1'
  have A2 := A2'
  have F1 := F1'
  have G1 := G1'
  clear G' A1' A2' F1' G1'
  clear SM F1 F2
  refine wpSegs_quiet rfl ?_
  simp only [List.filterMap_cons, List.filterMap_nil, List.getElem?_toArray, List.getElem?_cons_succ, List.getElem?_cons_zero]
  show wpQuiet _ _ _ _ [_, _] _
  go_big_quiet_step (fail)
  go_big_quiet_step (fail)
  refine wpQuiet_nil ?_
  have GW := Lib.hid (gtrans (grefl w none) G.out)
  refine wpSegs_one (by simp only [List.getElem?_toArray, List.getElem?_cons_succ, List.getElem?_cons_zero]; exact rfl) ?_
  go_wp2_with fail
  refine Calls.mono (EA.out _ GW.out) ?_
  rintro e w9 ⟨rfl, hg⟩
  go_wp2_with fail
  refine ⟨hg, ?_⟩
  have G' := Lib.hid (gtrans G.out hg)
  have A1' := Lib.hid (gblock hg A1.out (by simp))
  have A2' := Lib.hid (gblock hg A2.out (by simp))
  have G1' := Lib.hid (gtrans G1.out hg)
  clear hg G A1 A2 G1
  have G := G'
  have A1 := A1'
  have A2 := A2'
  have G1 := G1'
  clear G' A1' A2' G1'
  refine wpSegs_quiet rfl ?_
  simp only [List.filterMap_cons, List.filterMap_nil, List.getElem?_toArray, List.getElem?_cons_succ, List.getElem?_cons_zero]
  show wpQuiet _ _ _ _ [_, _] _
  repeat (go_big_quiet_step (fail))
  refine wpQuiet_nil ?_
  refine wpSegs_done ?_
  go_wp2_with fail
  go_ret
  exact ⟨rfl, G.out⟩
end Go.Proofs.YtoncjhjnmomecaaDoor
