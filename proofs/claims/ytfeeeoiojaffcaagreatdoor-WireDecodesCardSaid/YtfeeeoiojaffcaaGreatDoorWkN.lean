/-
  Wire: WireDecodes' walk.
-/
import Derived.Test.YtfeeeoiojaffcaaGreatDoorWkL
import Derived.Test.YtfeeeoiojaffcaaGreatDoorWkM
import Derived.Test.YtfeeeoiojaffcaaGreatDoorA21
import Derived.Test.YtfeeeoiojaffcaaGreatDoorWiZ
import Derived.Deep.Cut
namespace Go.Proofs.YtfeeeoiojaffcaaGreatDoor
open Go.RowKit

/-- Few of everything. -/
structure Ms.five (m : Ms) : Prop where
  q : m.qs.length ≤ 1000000
  a : m.an.length ≤ 1000000
  u : m.au.length ≤ 1000000
  x : m.ex.length ≤ 1000000
  o : m.ops.length ≤ 1000000
theorem dc_five (s : ByteArray) (hs : s.size ≤ 4000) : (dcM s).five := by
  have z : ms0.five := ⟨by decide, by decide, by decide, by decide, by decide⟩
  have rj : ∀ {x : Nat}, rdM s = .error x → (dcM s).five := fun h => by unfold dcM; rw [h]; exact z
  by_cases h2 : s.size < 12
  · exact rj (rdM_short h2)
  have h12 : 12 ≤ s.size := by omega
  have h65 : s.size ≤ 65535 := by omega
  cases hq : rdQs s (num s 4 2) 12 with
  | no e => exact rj (C1_no h12 h65 hq)
  | ok qs p =>
  cases ha : rdRs s false (num s 6 2) p ed0 with
  | no e => exact rj (C2_no h12 h65 hq ha)
  | ok an p1 d1 =>
  cases hu : rdRs s false (num s 8 2) p1 d1 with
  | no e => exact rj (C3_no h12 h65 ⟨p, hq, ha⟩ hu)
  | ok au p2 d2 =>
  cases hx : rdRs s true (num s 10 2) p2 d2 with
  | no e => exact rj (C4_no h12 h65 ⟨p1, d1, ⟨p, hq, ha⟩, hu⟩ hx)
  | ok ex p3 d3 =>
  obtain ⟨hM, hmay, hdoc⟩ := C4_end h12 hs (⟨p2, d2, ⟨p1, d1, ⟨p, hq, ha⟩, hu⟩, hx⟩ : C4 s qs an au ex p3 d3)
  rw [rdEnd_doc hmay] at hM
  by_cases he : p3 < s.size ∨ ¬ (msOf (fromN (num s 0 2) (num s 2 2)) qs an au ex d3).wE = 0
  · rw [if_pos he] at hM; exact rj hM
  · rw [if_neg he] at hM
    have y := Ms.may_yes.1 hmay
    have r := hdoc.rng
    have hh : dcM s = msOf (fromN (num s 0 2) (num s 2 2)) qs an au ex d3 := by unfold dcM; rw [hM]
    rw [hh]
    have x1 := y.xl
    unfold Ms.xn at x1
    exact ⟨by have := y.ql; omega, by have := y.al; omega, by have := y.ul; omega, by omega, r.ol⟩
set_option maxRecDepth 100000 in
theorem decodes_big (w : World) (s : ByteArray) (he : Et w) (hb : Bt w) (h : 4000 < s.size) : Calls Tryz.prog 3 #[.string s] w fun e w' => e = .returned (.bool true) ∧ w.grownBy w' none := by
  have k0 : decide ((4000 : Int) < (s.size : Int)) = true := by simp; omega
  clear h
  go_enter Tryz.func3, Tryz.ntmps3
  go_wp2_with fail
  refine Calls.mono (awake_any w he hb) ?_
  rintro e w1 ⟨rfl, hg⟩
  go_wp2_with fail
  go_ret
  exact ⟨rfl, hg⟩
set_option maxRecDepth 100000 in
set_option maxHeartbeats 8000000 in
theorem decodes_small (w : World) (s : ByteArray) (he : Et w) (hb : Bt w) (h : s.size ≤ 4000) : Calls Tryz.prog 3 #[.string s] w fun e w' => e = .returned (.bool true) ∧ w.grownBy w' none := by
  have k0 : decide ((4000 : Int) < (s.size : Int)) = false := by simp; omega
  have HE := Lib.hid he
  have HT := Lib.hid hb
  have RD := rdecode_any w s h
  have WD := fun (w' : World) (g : w.grownBy w' none) => decode_any w' s (he.kept g (by simp)) (hb.kept g (by simp))
  have FI := dc_five s h
  unfold DcPost at RD WD
  obtain ⟨m, hm⟩ : ∃ m, dcM s = m := ⟨_, rfl⟩
  obtain ⟨E, hE⟩ : ∃ E, dcE s = E := ⟨_, rfl⟩
  rw [hm, hE] at RD
  rw [hm, hE] at WD
  rw [hm] at FI
  have RD := Lib.hid RD
  have WD := Lib.hid WD
  have FI := Lib.hid FI
  have SM := Lib.hid (fun (w' : World) (vq va vu vx vo wq wa wu wx wo : Value) (h1 : MsV w' m vq va vu vx vo) (h2 : MsV w' m wq wa wu wx wo) => (rfsame_any w' m m vq va vu vx vo wq wa wu wx wo h1 h2 FI.out.q FI.out.a FI.out.u FI.out.x FI.out.o).mono (R' := fun e w'' => e = .returned (.bool true) ∧ w'.grownBy w'' none) fun e w'' h => ⟨by rw [h.1]; simp, h.2⟩)
  clear he hb h hm hE
  have ke : ((E : Int) != (E : Int)) = false := by simp
  go_enter Tryz.func3, Tryz.ntmps3
  go_wp2_with fail
  refine Calls.mono RD.out ?_
  clear RD k0
  rintro e w1 ⟨hg, vq, va, vu, vx, vo, rfl, hf⟩
  obtain ⟨Aq, cq, rfl⟩ := hf.q.len
  obtain ⟨Aa, ca, rfl⟩ := hf.a.len
  obtain ⟨Au, cu, rfl⟩ := hf.u.len
  obtain ⟨Ax, cx, rfl⟩ := hf.x.len
  obtain ⟨Ao, co, rfl⟩ := hf.o.len
  have V1 := Lib.hid hf.v
  have G1 := Lib.hid hg
  clear hf hg
  rw [Ms.val_cells]
  obtain ⟨C1, hC1⟩ : ∃ C, C = Ms.cells m (.slice Aq m.qs.length cq) (.slice Aa m.an.length ca) (.slice Au m.au.length cu) (.slice Ax m.ex.length cx) (.slice Ao m.ops.length co) := ⟨_, rfl⟩
  rw [← hC1]
  have EC1 := Lib.hid hC1
  have hsC1 : (Array.all C1 (·.oneCell')) = true := by rw [hC1]; kernel_rfl
  have hzC1 : C1.size = 21 := by rw [hC1]; rfl
  clear hC1
  have hg : w1.grownBy ((w1.alloc (.cells #[.int .u16 0, .bool false, .int .u8 0, .bool false, .bool false, .bool false, .bool false, .bool false, .bool false, .bool false, .int .u8 0, .slice none 0 0, .slice none 0 0, .slice none 0 0, .slice none 0 0, .bool false, .int .u16 0, .int .u8 0, .int .u8 0, .int .u16 0, .slice none 0 0] 32)).setRow w1.heap.size C1) none := gsetRow (galloc (grefl w1 none) _) (Nat.le_refl _) C1
  have M1 := Lib.hid (bsetR (balloc w1 (.cells #[.int .u16 0, .bool false, .int .u8 0, .bool false, .bool false, .bool false, .bool false, .bool false, .bool false, .bool false, .int .u8 0, .slice none 0 0, .slice none 0 0, .slice none 0 0, .slice none 0 0, .bool false, .int .u16 0, .int .u8 0, .int .u8 0, .int .u16 0, .slice none 0 0] 32)) C1)
  have MA := Lib.hid (balloc w1 (.cells #[.int .u16 0, .bool false, .int .u8 0, .bool false, .bool false, .bool false, .bool false, .bool false, .bool false, .bool false, .int .u8 0, .slice none 0 0, .slice none 0 0, .slice none 0 0, .slice none 0 0, .bool false, .int .u16 0, .int .u8 0, .int .u8 0, .int .u16 0, .slice none 0 0] 32))
  have V2 := Lib.hid (V1.out.kept hg)
  have G2 := Lib.hid (gtrans G1.out hg)
  clear hg V1 G1
  go_upto_region 4 with (refine wpList_store_row rfl 32 _ _ rfl w1.heap.size C1 rfl rfl 32 _ MA.out (by rw [hzC1]; kernel_rfl) hzC1.symm hsC1 ?_)
  clear MA
  generalize ((w1.alloc (.cells #[.int .u16 0, .bool false, .int .u8 0, .bool false, .bool false, .bool false, .bool false, .bool false, .bool false, .bool false, .int .u8 0, .slice none 0 0, .slice none 0 0, .slice none 0 0, .slice none 0 0, .bool false, .int .u16 0, .int .u8 0, .int .u8 0, .int .u16 0, .slice none 0 0] 32)).setRow w1.heap.size C1) = w2 at *
  generalize w1.heap.size = wb at *
  clear hsC1
  go_wp2_with fail
  go_loopw [5] (fun vi wr => ∃ i : Nat, i ≤ 2 ∧ vi = .int .i64 i ∧ w2.grownBy wr none) (fun vi _ => 2 - (intOf vi).toNat)
  case atStart => exact ⟨0, by omega, rfl, grefl _ _⟩
  case round =>
    obtain ⟨i, hi, rfl, hgr⟩ := hrel
    have GR := Lib.hid hgr
    clear hgr
    by_cases hlt : i < 2
    case neg =>
      go_wp2_with fail
      refine Calls.mono (awake_any wr (HE.out.kept (gtrans G2.out GR.out) (by simp)) (HT.out.kept (gtrans G2.out GR.out) (by simp))) ?_
      rintro e wz ⟨rfl, hg⟩
      have Gz := Lib.hid (gtrans (gtrans G2.out GR.out) hg)
      clear hg
      go_wp2_with fail
      go_ret
      exact ⟨rfl, Gz.out⟩
    obtain ⟨W0, rfl⟩ : ∃ W0 : World, W0 = wr := ⟨_, rfl⟩
    have HL := Lib.hid hlt
    go_wp2_with fail
    refine Calls.mono (WD.out W0 (gtrans G2.out GR.out)) ?_
    rintro e x1 ⟨hg, wq, wa, wu, wx, wo, rfl, hf⟩
    obtain ⟨Bq, dq, rfl⟩ := hf.q.len
    obtain ⟨Ba, da, rfl⟩ := hf.a.len
    obtain ⟨Bu, du, rfl⟩ := hf.u.len
    obtain ⟨Bx, dx, rfl⟩ := hf.x.len
    obtain ⟨Bo, dd, rfl⟩ := hf.o.len
    have F1 := Lib.hid hf
    have GX := Lib.hid hg
    clear hf hg
    rw [Ms.val_cells]
    obtain ⟨C2, hC2⟩ : ∃ C, C = Ms.cells m (.slice Bq m.qs.length dq) (.slice Ba m.an.length da) (.slice Bu m.au.length du) (.slice Bx m.ex.length dx) (.slice Bo m.ops.length dd) := ⟨_, rfl⟩
    rw [← hC2]
    have EC2 := Lib.hid hC2
    have hsC2 : (Array.all C2 (·.oneCell')) = true := by rw [hC2]; kernel_rfl
    have hzC2 : C2.size = 21 := by rw [hC2]; rfl
    clear hC2
    have hg : x1.grownBy ((x1.alloc (.cells #[.int .u16 0, .bool false, .int .u8 0, .bool false, .bool false, .bool false, .bool false, .bool false, .bool false, .bool false, .int .u8 0, .slice none 0 0, .slice none 0 0, .slice none 0 0, .slice none 0 0, .bool false, .int .u16 0, .int .u8 0, .int .u8 0, .int .u16 0, .slice none 0 0] 32)).setRow x1.heap.size C2) none := gsetRow (galloc (grefl x1 none) _) (Nat.le_refl _) C2
    have M2 := Lib.hid (bsetR (balloc x1 (.cells #[.int .u16 0, .bool false, .int .u8 0, .bool false, .bool false, .bool false, .bool false, .bool false, .bool false, .bool false, .int .u8 0, .slice none 0 0, .slice none 0 0, .slice none 0 0, .slice none 0 0, .bool false, .int .u16 0, .int .u8 0, .int .u8 0, .int .u16 0, .slice none 0 0] 32)) C2)
    have MA := Lib.hid (balloc x1 (.cells #[.int .u16 0, .bool false, .int .u8 0, .bool false, .bool false, .bool false, .bool false, .bool false, .bool false, .bool false, .int .u8 0, .slice none 0 0, .slice none 0 0, .slice none 0 0, .slice none 0 0, .bool false, .int .u16 0, .int .u8 0, .int .u8 0, .int .u16 0, .slice none 0 0] 32))
    have F2 := Lib.hid (F1.out.kept hg)
    have GY := Lib.hid (gtrans GX.out hg)
    clear hg F1 GX
    go_upto_region 8 with (refine wpList_store_row rfl 32 _ _ rfl x1.heap.size C2 rfl rfl 32 _ MA.out (by rw [hzC2]; kernel_rfl) hzC2.symm hsC2 ?_)
    clear MA hsC2
    generalize ((x1.alloc (.cells #[.int .u16 0, .bool false, .int .u8 0, .bool false, .bool false, .bool false, .bool false, .bool false, .bool false, .bool false, .int .u8 0, .slice none 0 0, .slice none 0 0, .slice none 0 0, .slice none 0 0, .bool false, .int .u16 0, .int .u8 0, .int .u8 0, .int .u16 0, .slice none 0 0] 32)).setRow x1.heap.size C2) = x2 at *
    generalize x1.heap.size = mb at *
    have W2 := Lib.hid (gblock (gtrans GR.out GY.out) M1.out (by simp))
    have CS := SM.out x2 _ _ _ _ _ _ _ _ _ _ F2.out.v (V2.out.kept (gtrans GR.out GY.out))
    rw [Ms.val_cells, Ms.val_cells, ← EC1.out, ← EC2.out] at CS
    have CS := Lib.hid CS
    go_wp2_with (first | (refine wpList_load_rowG rfl 32 _ rfl mb rfl _ _ _ _ M2.out Tryz.underlying32 rfl (by rw [hzC2]; kernel_rfl) ?_) | (refine wpList_load_rowG rfl 32 _ rfl wb rfl _ _ _ _ W2.out Tryz.underlying32 rfl (by rw [hzC1]; kernel_rfl) ?_))
    refine Calls.mono CS.out ?_
    clear CS
    rintro e x3 ⟨rfl, hg⟩
    have M3 := Lib.hid (gblock hg M2.out (by simp))
    have F3 := Lib.hid (F2.out.kept hg)
    have GZ := Lib.hid (gtrans GY.out hg)
    clear hg M2 F2 GY W2
    go_wp2_with (refine wpList_load_rowG rfl 32 _ rfl mb rfl _ _ _ _ M3.out Tryz.underlying32 rfl (by rw [hzC2]; kernel_rfl) ?_)
    have CP := spoil_any x3 W0.heap.size m _ _ _ _ _ GZ.out.size ⟨FI.out.q, FI.out.a, FI.out.u, FI.out.x, FI.out.o⟩ F3.out
    rw [Ms.val_cells, ← EC2.out] at CP
    refine Calls.mono CP ?_
    clear CP
    rintro e x4 ⟨rfl, hk⟩
    have GK := Lib.hid (KB.gr (gtrans GR.out GZ.out) hk GR.out.size)
    clear hk
    go_wp2_with fail
    go_roundw
    case rel => exact ⟨i + 1, HL.out, by go_num, GK.out⟩
    case measure => have := HL.out; simp [intOf]; omega
theorem decodes_walk (w : World) (s : ByteArray) (he : Et w) (hb : Bt w) : Calls Tryz.prog 3 #[.string s] w fun e w' => e = .returned (.bool true) ∧ w.grownBy w' none := by
  by_cases h : 4000 < s.size
  · exact decodes_big w s he hb h
  · exact decodes_small w s he hb (by omega)
end Go.Proofs.YtfeeeoiojaffcaaGreatDoor
