/-
  Wire: the document's Decode.
-/
import Derived.Test.YtfeeeoiojaffcaaGreatDoorWkK
import Derived.Deep.CutBlock
namespace Go.Proofs.YtfeeeoiojaffcaaGreatDoor
open Go.RowKit

theorem DcPost.no {s : ByteArray} {w w' : World} {e : Ending} {x : Nat} (hr : rdM s = .error x) (g : w.grownBy w' none) (he : e = .returned (.tuple #[.agg zM, .int .i64 x])) : DcPost s w e w' := by
  refine ⟨g, .slice none 0 0, .slice none 0 0, .slice none 0 0, .slice none 0 0, .slice none 0 0, ?_, ?_⟩
  · rw [show dcM s = ms0 from by unfold dcM; rw [hr], show dcE s = x from by unfold dcE; rw [hr], he, ms0_val]
  · rw [show dcM s = ms0 from by unfold dcM; rw [hr]]; exact ms0_f _ _
theorem DcPost.yes {s : ByteArray} {w w' : World} {e : Ending} {m : Ms} {vq va vu vx vo : Value} (hr : rdM s = .ok m) (g : w.grownBy w' none) (he : e = .returned (.tuple #[m.val vq va vu vx vo, .int .i64 0])) (hf : MsF w' w.heap.size m vq va vu vx vo) : DcPost s w e w' := by
  refine ⟨g, vq, va, vu, vx, vo, ?_, ?_⟩
  · rw [show dcM s = m from by unfold dcM; rw [hr], show dcE s = 0 from by unfold dcE; rw [hr], he]; rfl
  · rw [show dcM s = m from by unfold dcM; rw [hr]]; exact hf
set_option maxRecDepth 100000 in
set_option maxHeartbeats 8000000 in
theorem rdecode_short (w : World) (s : ByteArray) (h12 : s.size < 12) : Calls Tryz.prog 6 #[.string s] w (DcPost s w) := by
  have RM := Lib.hid (rdM_short h12)
  have RK := Lib.hid (fun w' => rhread_short s w' h12)
  have k0 : decide ((65535 : Int) < (s.size : Int)) = false := by simp; omega
  have g0 := galloc (grefl w none) (.cells #[.int .u16 0, .bool false, .int .u8 0, .bool false, .bool false, .bool false, .bool false, .bool false, .bool false, .bool false, .int .u8 0, .slice none 0 0, .slice none 0 0, .slice none 0 0, .slice none 0 0, .bool false, .int .u16 0, .int .u8 0, .int .u8 0, .int .u16 0, .slice none 0 0] 32)
  have B0 := Lib.hid (balloc w (.cells #[.int .u16 0, .bool false, .int .u8 0, .bool false, .bool false, .bool false, .bool false, .bool false, .bool false, .bool false, .int .u8 0, .slice none 0 0, .slice none 0 0, .slice none 0 0, .slice none 0 0, .bool false, .int .u16 0, .int .u8 0, .int .u8 0, .int .u16 0, .slice none 0 0] 32))
  clear h12
  go_enter Tryz.func6, Tryz.ntmps6
  go_upto_region 3 with fail
  generalize w.alloc (.cells #[.int .u16 0, .bool false, .int .u8 0, .bool false, .bool false, .bool false, .bool false, .bool false, .bool false, .bool false, .int .u8 0, .slice none 0 0, .slice none 0 0, .slice none 0 0, .slice none 0 0, .bool false, .int .u16 0, .int .u8 0, .int .u8 0, .int .u16 0, .slice none 0 0] 32) = w1 at *
  go_wp2_with fail
  refine Calls.mono (RK.out _) ?_
  rintro e w2 ⟨rfl, hg⟩
  unfold Hd.v hd0 cv
  have G := Lib.hid (gtrans g0 hg)
  have R := Lib.hid (gblock hg B0.out (by simp))
  clear g0 hg B0 RK k0
  go_upto_region 5 with fail
  have g2 : w2.grownBy ((w2.alloc (.cells #[.int .u16 0, .bool false, .int .u8 0, .bool false, .bool false, .bool false, .bool false, .bool false, .bool false, .bool false, .int .u8 0] 25)).alloc (.cells #[.int .i64 0, .int .i64 0, .int .i64 0, .int .i64 0] 51)) none := galloc (galloc (grefl w2 none) _) _
  have G' := Lib.hid (gtrans G.out g2)
  have R' := Lib.hid (gblock g2 R.out (by simp))
  clear g2 G R
  generalize ((w2.alloc (.cells #[.int .u16 0, .bool false, .int .u8 0, .bool false, .bool false, .bool false, .bool false, .bool false, .bool false, .bool false, .int .u8 0] 25)).alloc (.cells #[.int .i64 0, .int .i64 0, .int .i64 0, .int .i64 0] 51)) = w3 at *
  have T := Lib.hid (bsetR R'.out #[.int .u16 0, .bool false, .int .u8 0, .bool false, .bool false, .bool false, .bool false, .bool false, .bool false, .bool false, .int .u8 0, .slice none 0 0, .slice none 0 0, .slice none 0 0, .slice none 0 0, .bool false, .int .u16 0, .int .u8 0, .int .u8 0, .int .u16 0, .slice none 0 0])
  have G3 := Lib.hid (gsetR G'.out (Nat.le_refl _) #[.int .u16 0, .bool false, .int .u8 0, .bool false, .bool false, .bool false, .bool false, .bool false, .bool false, .bool false, .int .u8 0, .slice none 0 0, .slice none 0 0, .slice none 0 0, .slice none 0 0, .bool false, .int .u16 0, .int .u8 0, .int .u8 0, .int .u16 0, .slice none 0 0])
  go_wp2_with (refine wpList_store_row rfl 32 _ _ rfl w.heap.size #[.int .u16 0, .bool false, .int .u8 0, .bool false, .bool false, .bool false, .bool false, .bool false, .bool false, .bool false, .int .u8 0, .slice none 0 0, .slice none 0 0, .slice none 0 0, .slice none 0 0, .bool false, .int .u16 0, .int .u8 0, .int .u8 0, .int .u16 0, .slice none 0 0] rfl rfl 32 _ R'.out (by kernel_rfl) rfl (by kernel_rfl) ?_)
  refine bodyPost_ret_by (results_cr rfl _ _ w.heap.size 32 #[.int .u16 0, .bool false, .int .u8 0, .bool false, .bool false, .bool false, .bool false, .bool false, .bool false, .bool false, .int .u8 0, .slice none 0 0, .slice none 0 0, .slice none 0 0, .slice none 0 0, .bool false, .int .u16 0, .int .u8 0, .int .u8 0, .int .u16 0, .slice none 0 0] (0, 0) _ rfl T.out Tryz.underlying32 rfl (by kernel_rfl)) rfl ?_
  exact DcPost.no RM.out G3.out rfl
set_option maxRecDepth 100000 in
set_option maxHeartbeats 16000000 in
theorem rdecode_long (w : World) (s : ByteArray) (h12 : 12 ≤ s.size) (hs : s.size ≤ 4000) : Calls Tryz.prog 6 #[.string s] w (DcPost s w) := by
  have hm : s.size ≤ maxLen := by unfold maxLen; omega
  have RK := Lib.hid (fun w' => rhread_ok s w' h12 hm)
  have k0 : decide ((65535 : Int) < (s.size : Int)) = false := by simp; omega
  have g0 := galloc (grefl w none) (.cells #[.int .u16 0, .bool false, .int .u8 0, .bool false, .bool false, .bool false, .bool false, .bool false, .bool false, .bool false, .int .u8 0, .slice none 0 0, .slice none 0 0, .slice none 0 0, .slice none 0 0, .bool false, .int .u16 0, .int .u8 0, .int .u8 0, .int .u16 0, .slice none 0 0] 32)
  have B0 := Lib.hid (balloc w (.cells #[.int .u16 0, .bool false, .int .u8 0, .bool false, .bool false, .bool false, .bool false, .bool false, .bool false, .bool false, .int .u8 0, .slice none 0 0, .slice none 0 0, .slice none 0 0, .slice none 0 0, .bool false, .int .u16 0, .int .u8 0, .int .u8 0, .int .u16 0, .slice none 0 0] 32))
  have LW := Lib.hid (show w.heap.size < (w.alloc (.cells #[.int .u16 0, .bool false, .int .u8 0, .bool false, .bool false, .bool false, .bool false, .bool false, .bool false, .bool false, .int .u8 0, .slice none 0 0, .slice none 0 0, .slice none 0 0, .slice none 0 0, .bool false, .int .u16 0, .int .u8 0, .int .u8 0, .int .u16 0, .slice none 0 0] 32)).heap.size by simp)
  have H12 := Lib.hid h12
  have HS := Lib.hid hs
  clear h12 hm hs
  go_enter Tryz.func6, Tryz.ntmps6
  go_upto_region 3 with fail
  generalize w.alloc (.cells #[.int .u16 0, .bool false, .int .u8 0, .bool false, .bool false, .bool false, .bool false, .bool false, .bool false, .bool false, .int .u8 0, .slice none 0 0, .slice none 0 0, .slice none 0 0, .slice none 0 0, .bool false, .int .u16 0, .int .u8 0, .int .u8 0, .int .u16 0, .slice none 0 0] 32) = w1 at *
  go_wp2_with fail
  refine Calls.mono (RK.out _) ?_
  rintro e w2 ⟨rfl, hg⟩
  unfold Hd.v cv
  have G := Lib.hid (gtrans g0 hg)
  have R := Lib.hid (gblock hg B0.out (by simp))
  have LW2 := Lib.hid (Nat.lt_of_lt_of_le LW.out hg.size)
  clear g0 hg B0 RK k0 LW
  obtain ⟨H, hH⟩ : ∃ H, fromN (num s 0 2) (num s 2 2) = H := ⟨_, rfl⟩
  obtain ⟨n0, hn0⟩ : ∃ n, num s 4 2 = n := ⟨_, rfl⟩
  obtain ⟨n1, hn1⟩ : ∃ n, num s 6 2 = n := ⟨_, rfl⟩
  obtain ⟨n2, hn2⟩ : ∃ n, num s 8 2 = n := ⟨_, rfl⟩
  obtain ⟨n3, hn3⟩ : ∃ n, num s 10 2 = n := ⟨_, rfl⟩
  rw [hH, hn0, hn1, hn2, hn3]
  have L0 := Lib.hid (show n0 < 65536 from hn0 ▸ num_lt s 4 2)
  have L1 := Lib.hid (show n1 < 65536 from hn1 ▸ num_lt s 6 2)
  have L2 := Lib.hid (show n2 < 65536 from hn2 ▸ num_lt s 8 2)
  have L3 := Lib.hid (show n3 < 65536 from hn3 ▸ num_lt s 10 2)
  have HH := Lib.hid hH
  have N0 := Lib.hid hn0
  have N1 := Lib.hid hn1
  have N2 := Lib.hid hn2
  have N3 := Lib.hid hn3
  clear hH hn0 hn1 hn2 hn3
  go_upto_region 6 with fail
  have g2 : w2.grownBy ((w2.alloc (.cells #[.int .u16 H.id, .bool H.qr, .int .u8 H.op, .bool H.aa, .bool H.tc, .bool H.rd, .bool H.ra, .bool H.z, .bool H.ad, .bool H.cd, .int .u8 H.code] 25)).alloc (.cells #[.int .i64 n0, .int .i64 n1, .int .i64 n2, .int .i64 n3] 51)) none := galloc (galloc (grefl w2 none) _) _
  have HB := Lib.hid (show ((w2.alloc (.cells #[.int .u16 H.id, .bool H.qr, .int .u8 H.op, .bool H.aa, .bool H.tc, .bool H.rd, .bool H.ra, .bool H.z, .bool H.ad, .bool H.cd, .int .u8 H.code] 25)).alloc (.cells #[.int .i64 n0, .int .i64 n1, .int .i64 n2, .int .i64 n3] 51)).heap[w2.heap.size]? = some (.cells #[.int .u16 H.id, .bool H.qr, .int .u8 H.op, .bool H.aa, .bool H.tc, .bool H.rd, .bool H.ra, .bool H.z, .bool H.ad, .bool H.cd, .int .u8 H.code] 25 (0, 0)) from heap_alloc2_old w2 _ _)
  have CB := Lib.hid (show ((w2.alloc (.cells #[.int .u16 H.id, .bool H.qr, .int .u8 H.op, .bool H.aa, .bool H.tc, .bool H.rd, .bool H.ra, .bool H.z, .bool H.ad, .bool H.cd, .int .u8 H.code] 25)).alloc (.cells #[.int .i64 n0, .int .i64 n1, .int .i64 n2, .int .i64 n3] 51)).heap[w2.heap.size + 1]? = some (.cells #[.int .i64 n0, .int .i64 n1, .int .i64 n2, .int .i64 n3] 51 (0, 0)) from heap_alloc2_new w2 _ _)
  have G' := Lib.hid (gtrans G.out g2)
  have R' := Lib.hid (gblock g2 R.out (by simp))
  clear g2 G R
  have G := G'
  have R := R'
  clear G' R'
  generalize ((w2.alloc (.cells #[.int .u16 H.id, .bool H.qr, .int .u8 H.op, .bool H.aa, .bool H.tc, .bool H.rd, .bool H.ra, .bool H.z, .bool H.ad, .bool H.cd, .int .u8 H.code] 25)).alloc (.cells #[.int .i64 n0, .int .i64 n1, .int .i64 n2, .int .i64 n3] 51)) = w3 at *
  generalize hcb : w2.heap.size + 1 = cb at *
  have LC := Lib.hid (show w.heap.size < cb from by have := LW2.out; omega)
  clear hcb LW2
  generalize w2.heap.size = hb at *
  obtain ⟨rs, hrs⟩ : ∃ rs, w.heap.size = rs := ⟨_, rfl⟩
  have LR := Lib.hid hrs
  rw [hrs] at R LC ⊢
  clear hrs
  go_upto_region 7 with (first | refine wpList_load_row rfl 25 _ rfl hb rfl _ _ _ _ HB.out Tryz.underlying25 rfl (by kernel_rfl) ?_ | refine wpList_store_row rfl 32 _ _ rfl w3.heap.size #[.int .u16 H.id, .bool H.qr, .int .u8 H.op, .bool H.aa, .bool H.tc, .bool H.rd, .bool H.ra, .bool H.z, .bool H.ad, .bool H.cd, .int .u8 H.code, .slice none 0 0, .slice none 0 0, .slice none 0 0, .slice none 0 0, .bool false, .int .u16 0, .int .u8 0, .int .u8 0, .int .u16 0, .slice none 0 0] rfl rfl 32 _ (balloc w3 (.cells #[.int .u16 0, .bool false, .int .u8 0, .bool false, .bool false, .bool false, .bool false, .bool false, .bool false, .bool false, .int .u8 0, .slice none 0 0, .slice none 0 0, .slice none 0 0, .slice none 0 0, .bool false, .int .u16 0, .int .u8 0, .int .u8 0, .int .u16 0, .slice none 0 0] 32)) (by kernel_rfl) rfl (by kernel_rfl) ?_)
  have M := Lib.hid (show ((w3.alloc (.cells #[.int .u16 0, .bool false, .int .u8 0, .bool false, .bool false, .bool false, .bool false, .bool false, .bool false, .bool false, .int .u8 0, .slice none 0 0, .slice none 0 0, .slice none 0 0, .slice none 0 0, .bool false, .int .u16 0, .int .u8 0, .int .u8 0, .int .u16 0, .slice none 0 0] 32)).setRow w3.heap.size #[.int .u16 H.id, .bool H.qr, .int .u8 H.op, .bool H.aa, .bool H.tc, .bool H.rd, .bool H.ra, .bool H.z, .bool H.ad, .bool H.cd, .int .u8 H.code, .slice none 0 0, .slice none 0 0, .slice none 0 0, .slice none 0 0, .bool false, .int .u16 0, .int .u8 0, .int .u8 0, .int .u16 0, .slice none 0 0]).heap[w3.heap.size]? = some (.cells (mrow H (.slice none 0 0) (.slice none 0 0) (.slice none 0 0) (.slice none 0 0) ed0 (.slice none 0 0)) 32 (0, 0)) from bsetR (balloc w3 _) _)
  have g2 : w3.grownBy ((w3.alloc (.cells #[.int .u16 0, .bool false, .int .u8 0, .bool false, .bool false, .bool false, .bool false, .bool false, .bool false, .bool false, .int .u8 0, .slice none 0 0, .slice none 0 0, .slice none 0 0, .slice none 0 0, .bool false, .int .u16 0, .int .u8 0, .int .u8 0, .int .u16 0, .slice none 0 0] 32)).setRow w3.heap.size #[.int .u16 H.id, .bool H.qr, .int .u8 H.op, .bool H.aa, .bool H.tc, .bool H.rd, .bool H.ra, .bool H.z, .bool H.ad, .bool H.cd, .int .u8 H.code, .slice none 0 0, .slice none 0 0, .slice none 0 0, .slice none 0 0, .bool false, .int .u16 0, .int .u8 0, .int .u8 0, .int .u16 0, .slice none 0 0]) none := gsetRow (galloc (grefl w3 none) _) (Nat.le_refl _) _
  have G' := Lib.hid (gtrans G.out g2)
  have R' := Lib.hid (gblock g2 R.out (by simp))
  have C := Lib.hid (gblock g2 CB.out (by simp))
  have LB := Lib.hid (show rs < w3.heap.size ∧ cb < w3.heap.size from ⟨blt R.out, blt CB.out⟩)
  clear g2 G R CB HB
  have G := G'
  have R := R'
  clear G' R'
  generalize ((w3.alloc (.cells #[.int .u16 0, .bool false, .int .u8 0, .bool false, .bool false, .bool false, .bool false, .bool false, .bool false, .bool false, .int .u8 0, .slice none 0 0, .slice none 0 0, .slice none 0 0, .slice none 0 0, .bool false, .int .u16 0, .int .u8 0, .int .u8 0, .int .u16 0, .slice none 0 0] 32)).setRow w3.heap.size #[.int .u16 H.id, .bool H.qr, .int .u8 H.op, .bool H.aa, .bool H.tc, .bool H.rd, .bool H.ra, .bool H.z, .bool H.ad, .bool H.cd, .int .u8 H.code, .slice none 0 0, .slice none 0 0, .slice none 0 0, .slice none 0 0, .bool false, .int .u16 0, .int .u8 0, .int .u8 0, .int .u16 0, .slice none 0 0]) = w4 at *
  generalize w3.heap.size = mb at *
  go_upto_region 8 with fail
  have g2 : w4.grownBy (w4.alloc (.cells #[.int .i64 12, .int .i64 0] 56)) none := galloc (grefl w4 none) _
  have P5 := Lib.hid (show Pt7 (w4.alloc (.cells #[.int .i64 12, .int .i64 0] 56)) w4.heap.size 12 0 from balloc w4 _)
  have G5 := Lib.hid (gtrans G.out g2)
  have R5 := Lib.hid (gblock g2 R.out (by simp))
  have C5 := Lib.hid (gblock g2 C.out (by simp))
  have M5 := Lib.hid (gblock g2 M.out (by simp))
  have NE := Lib.hid (show cb ≠ w4.heap.size ∧ cb ≠ mb ∧ rs ≠ w4.heap.size ∧ rs ≠ mb ∧ w4.heap.size ≠ mb ∧ w.heap.size ≤ w4.heap.size ∧ w.heap.size ≤ mb ∧ w.heap.size ≤ rs from by have h1 := LB.out; have h2 := blt C.out; have h3 := blt R.out; have h4 := blt M.out; have h5 := LR.out; omega)
  have LP := Lib.hid (show w4.heap.size < (w4.alloc (.cells #[.int .i64 12, .int .i64 0] 56)).heap.size ∧ mb < (w4.alloc (.cells #[.int .i64 12, .int .i64 0] 56)).heap.size ∧ cb < (w4.alloc (.cells #[.int .i64 12, .int .i64 0] 56)).heap.size ∧ rs < (w4.alloc (.cells #[.int .i64 12, .int .i64 0] 56)).heap.size from ⟨blt P5.out, blt M5.out, blt C5.out, blt R5.out⟩)
  clear g2 G R C M LB LC
  generalize (w4.alloc (.cells #[.int .i64 12, .int .i64 0] 56)) = w5 at *
  generalize w4.heap.size = pb at *
  obtain ⟨B, hB⟩ : ∃ B, w5.heap.size = B := ⟨_, rfl⟩
  rw [hB] at LP
  have LBB := Lib.hid hB
  clear hB
  obtain ⟨Q0, hQ0⟩ : ∃ r, rdQs s n0 12 = r := ⟨_, rfl⟩
  have HQ0 := Lib.hid (show rdQs s (num s 4 2) 12 = Q0 from by rw [N0.out]; exact hQ0)
  have SO := Lib.hid (show QsSo s Q0 n0 [] 12 from by unfold QsSo; rw [Qq.pre_nil, hQ0])
  clear hQ0
  go_upto_block 0 with fail
  go_cut [9, 10] from 33 to 65 (fun v9 v10 wx => Bad w5 pb mb s wx ∨ S1 w5 B pb mb s H wx)
  case first =>
    go_wp2_with fail
    go_loopw [9] (fun vi wr => ∃ i : Nat, vi = .int .i64 i ∧ i ≤ n0 ∧ (Bad w5 pb mb s wr ∨ ∃ (l : List Qn) (A : Option Addr) (cap p : Nat), l.length ≤ i ∧ p ≤ s.size ∧ QsSo s Q0 (n0 - i) l p ∧ Sx w5 B pb mb 46 3 (mrow H (.slice A l.length cap) (.slice none 0 0) (.slice none 0 0) (.slice none 0 0) ed0 (.slice none 0 0)) (.slice A l.length cap) l.length (qsV l) p 0 ed0 (.slice none 0 0) wr)) (fun vi _ => n0 - (intOf vi).toNat)
    case atStart =>
      exact ⟨0, rfl, by omega, .inr ⟨[], none, 0, 12, by simp, H12.out, SO.out, ⟨World.ownsRow_nil _ _ _ _, M5.out, P5.out, TG.refl _ _ _, FS.none, LP.out.1, LP.out.2.1, Nat.le_of_eq LBB.out.symm, NE.out.2.2.2.2.1⟩⟩⟩
    case round =>
      obtain ⟨i, rfl, hin, hb | ⟨l, A, cap, p, hl, hp, hs, hx⟩⟩ := hrel
      · obtain ⟨pp, ee, he, hr, hP, hT⟩ := hb
        have HE := Lib.hid he
        have HR := Lib.hid hr
        have P := Lib.hid hP
        have T := Lib.hid hT
        have en : ((ee : Int) == 0) = false := by simp; omega
        clear he hr hP hT
        have k0 : wr.cell? ⟨cb, 0, none⟩ = some (.int .i64 n0) := bcellAt (T.out.blk C5.out NE.out.1 (by have := NE.out.2.1; simpa using this)) 0
        have k2 : wr.cell? ⟨pb, 1, none⟩ = some (.int .i64 ee) := bcellAt P.out 1
        by_cases hlt : i < n0
        case pos =>
          have k1 : decide ((i : Int) < (n0 : Int)) = true := by simp; omega
          go_wp2_with fail
          go_meet
          exact .inl ⟨pp, ee, HE.out, HR.out, P.out, T.out⟩
        case neg =>
          have k1 : decide ((i : Int) < (n0 : Int)) = false := by simp; omega
          go_wp2_with fail
          go_meet
          exact .inl ⟨pp, ee, HE.out, HR.out, P.out, T.out⟩
      have S := Lib.hid hs
      have X := Lib.hid hx
      have LI := Lib.hid hl
      clear hs hx hl
      by_cases hlt : i < n0
      case neg =>
        have k1 : decide ((i : Int) < (n0 : Int)) = false := by simp; omega
        have hso := S.out
        rw [show n0 - i = 0 from by omega] at hso
        have HQ := Lib.hid hso.done
        clear hso
        have k0 : wr.cell? ⟨cb, 0, none⟩ = some (.int .i64 n0) := bcellAt (X.out.t.blk C5.out NE.out.1 (by have := NE.out.2.1; simpa using this)) 0
        go_wp2_with fail
        go_meet
        exact .inr ⟨l, .slice A l.length cap, p, HQ0.out.trans HQ.out, ⟨hp, X.out.pt, X.out.m, (FS.of X.out.own).mono X.out.lb, FS.none, FS.none, FS.none, FS.none, X.out.t, X.out.lp, X.out.lm, Nat.le_trans X.out.lb X.out.t.size, X.out.ne⟩⟩
      have l0 := L0.out
      obtain ⟨k, hk⟩ : ∃ k, n0 - i = k + 1 := ⟨n0 - i - 1, by omega⟩
      have SK := Lib.hid (show QsSo s Q0 (k + 1) l p from hk ▸ S.out)
      have HK := Lib.hid hk
      have LT := Lib.hid hlt
      clear S hk
      have k1 : decide ((i : Int) < (n0 : Int)) = true := by simp; omega
      have k0 : wr.cell? ⟨cb, 0, none⟩ = some (.int .i64 n0) := bcellAt (X.out.t.blk C5.out NE.out.1 (by have := NE.out.2.1; simpa using this)) 0
      have k2 : wr.cell? ⟨pb, 1, none⟩ = some (.int .i64 (0 : Nat)) := bcellAt X.out.pt 1
      have FR := Lib.hid X.out.new
      have X' := Lib.hid (X.out.kept (galloc (grefl wr none) (.cells #[.string { data := #[] }, .int .u16 0, .int .u16 0] 46)))
      have XB := Lib.hid (balloc wr (.cells #[.string { data := #[] }, .int .u16 0, .int .u16 0] 46))
      clear X
      have X := X'
      clear X'
      go_upto_region 12 with fail
      clear k0 k1 k2
      generalize wr.alloc (.cells #[.string { data := #[] }, .int .u16 0, .int .u16 0] 46) = x0 at *
      generalize wr.heap.size = xb at *
      have CN := pname_any pb p s x0 X.out.pt hp (by have := HS.out; omega)
      have RB := Lib.hid (fun n q e => rd_next_le (s := s) (n := n) (q := q) hp e)
      obtain ⟨R, hR⟩ : ∃ r, rdF s p p none [] = r := ⟨_, rfl⟩
      rw [hR] at CN
      have HR := Lib.hid hR
      have RB' := Lib.hid (show ∀ n q, R = .ok n q → q ≤ s.size from fun n q e => RB.out n q (hR.trans e))
      clear hR RB
      obtain ⟨nm, hnm⟩ : ∃ n, naV R = n := ⟨_, rfl⟩
      obtain ⟨p1, hp1⟩ : ∃ n, naP R = n := ⟨_, rfl⟩
      obtain ⟨e1, he1⟩ : ∃ n, naE R = n := ⟨_, rfl⟩
      have B1 := Lib.hid (show e1 = 0 → p1 ≤ s.size from fun h0 => by subst he1 hp1; cases R with | ok n q => exact RB'.out n q rfl | no x => exact Nat.zero_le _)
      rw [hnm, hp1, he1] at CN
      have A1 := Lib.hid hnm
      have A2 := Lib.hid hp1
      have A3 := Lib.hid he1
      clear hnm hp1 he1 RB'
      have CN := Lib.hid CN
      go_wp2_with fail
      refine Calls.mono CN.out ?_
      clear CN
      rintro e x1 ⟨rfl, hP', hg⟩
      have X' := Lib.hid (X.out.num hg hP')
      have XB' := Lib.hid (gblock hg XB.out (by have := FR.out.p; simpa using this))
      clear hP' hg X XB
      have X := X'
      have XB := XB'
      clear X' XB'
      have c0 := bcellAt XB.out 0
      have f0 := bfree XB.out 0
      go_upto_region 13 with fail
      clear c0 f0
      have gk : x1.grownBy (x1.setCell ⟨xb, 0, none⟩ (.string nm)) (some xb) := gset (grefl _ _) (p := ⟨xb, 0, none⟩) (.inl rfl) _
      have X' := Lib.hid (X.out.loc FR.out gk)
      have XB' := Lib.hid (show (x1.setCell ⟨xb, 0, none⟩ (.string nm)).heap[xb]? = some (.cells #[.string nm, .int .u16 0, .int .u16 0] 46 (0, 0)) from bset XB.out 0 (.string nm))
      clear gk X XB
      have X := X'
      have XB := XB'
      clear X' XB'
      generalize (x1.setCell ⟨xb, 0, none⟩ (.string nm)) = x1s at *
      have CN := pnum_any pb p1 e1 s 2 x1s X.out.pt B1.out (by have := HS.out; omega) (by omega)
      have VL := nuV_lt s p1 e1 2
      have B2 := Lib.hid (show nuE s p1 e1 2 = 0 → nuP s p1 e1 2 ≤ s.size from fun h0 => nuP_le h0)
      obtain ⟨v1, hv1⟩ : ∃ x, nuV s p1 e1 2 = x := ⟨_, rfl⟩
      obtain ⟨p2, hp2⟩ : ∃ x, nuP s p1 e1 2 = x := ⟨_, rfl⟩
      obtain ⟨e2, he2⟩ : ∃ x, nuE s p1 e1 2 = x := ⟨_, rfl⟩
      rw [hv1, hp2, he2] at CN
      rw [hv1] at VL
      rw [hp2, he2] at B2
      have V1 := Lib.hid hv1
      have Q1 := Lib.hid hp2
      have E1 := Lib.hid he2
      have K1 := B2
      clear B2 hv1 hp2 he2
      have Z1 := Lib.hid VL
      clear VL
      have CN := Lib.hid CN
      go_wp2_with fail
      refine Calls.mono CN.out ?_
      clear CN
      rintro e x2 ⟨rfl, hP', hg⟩
      have X' := Lib.hid (X.out.num hg hP')
      have XB' := Lib.hid (gblock hg XB.out (by have := FR.out.p; simpa using this))
      clear hP' hg X XB
      have X := X'
      have XB := XB'
      clear X' XB'
      have wv : IntKind.u16.wrap (v1 : Int) = v1 := by rw [IntKind.wrap_u16]; have := Z1.out; omega
      have c1 := bcellAt XB.out 1
      have f1 := bfree XB.out 1
      go_upto_region 14 with fail
      clear c1 f1
      have gk : x2.grownBy (x2.setCell ⟨xb, 1, none⟩ (.int .u16 v1)) (some xb) := gset (grefl _ _) (p := ⟨xb, 1, none⟩) (.inl rfl) _
      have X' := Lib.hid (X.out.loc FR.out gk)
      have XB' := Lib.hid (show (x2.setCell ⟨xb, 1, none⟩ (.int .u16 v1)).heap[xb]? = some (.cells #[.string nm, .int .u16 v1, .int .u16 0] 46 (0, 0)) from bset XB.out 1 (.int .u16 v1))
      clear gk X XB
      have X := X'
      have XB := XB'
      clear X' XB'
      generalize (x2.setCell ⟨xb, 1, none⟩ (.int .u16 v1)) = x2s at *
      clear wv
      have CN := pnum_any pb p2 e2 s 2 x2s X.out.pt K1.out (by have := HS.out; omega) (by omega)
      have VL := nuV_lt s p2 e2 2
      have B2 := Lib.hid (show nuE s p2 e2 2 = 0 → nuP s p2 e2 2 ≤ s.size from fun h0 => nuP_le h0)
      obtain ⟨v2, hv2⟩ : ∃ x, nuV s p2 e2 2 = x := ⟨_, rfl⟩
      obtain ⟨p3, hp3⟩ : ∃ x, nuP s p2 e2 2 = x := ⟨_, rfl⟩
      obtain ⟨e3, he3⟩ : ∃ x, nuE s p2 e2 2 = x := ⟨_, rfl⟩
      rw [hv2, hp3, he3] at CN
      rw [hv2] at VL
      rw [hp3, he3] at B2
      have V2 := Lib.hid hv2
      have Q2 := Lib.hid hp3
      have E2 := Lib.hid he3
      have K2 := B2
      clear B2 hv2 hp3 he3
      have Z2 := Lib.hid VL
      clear VL
      have CN := Lib.hid CN
      go_wp2_with fail
      refine Calls.mono CN.out ?_
      clear CN
      rintro e x3 ⟨rfl, hP', hg⟩
      have X' := Lib.hid (X.out.num hg hP')
      have XB' := Lib.hid (gblock hg XB.out (by have := FR.out.p; simpa using this))
      clear hP' hg X XB
      have X := X'
      have XB := XB'
      clear X' XB'
      have wv : IntKind.u16.wrap (v2 : Int) = v2 := by rw [IntKind.wrap_u16]; have := Z2.out; omega
      have c2 := bcellAt XB.out 2
      have f2 := bfree XB.out 2
      go_upto_region 15 with fail
      clear c2 f2
      have gk : x3.grownBy (x3.setCell ⟨xb, 2, none⟩ (.int .u16 v2)) (some xb) := gset (grefl _ _) (p := ⟨xb, 2, none⟩) (.inl rfl) _
      have X' := Lib.hid (X.out.loc FR.out gk)
      have XB' := Lib.hid (show (x3.setCell ⟨xb, 2, none⟩ (.int .u16 v2)).heap[xb]? = some (.cells #[.string nm, .int .u16 v1, .int .u16 v2] 46 (0, 0)) from bset XB.out 2 (.int .u16 v2))
      clear gk X XB
      have X := X'
      have XB := XB'
      clear X' XB'
      generalize (x3.setCell ⟨xb, 2, none⟩ (.int .u16 v2)) = x3s at *
      clear wv
      have x0' := bcellAt XB.out 0
      have x1' := bcellAt XB.out 1
      have x2' := bcellAt XB.out 2
      have m11 : x3s.cell? ⟨mb, 11, none⟩ = some (.slice A l.length cap) := bcellAt X.out.m 11
      have hfew : l.length ≤ 65536 := by have := LI.out; have := L0.out; omega
      obtain ⟨i0, hi, hz0, hz1, hz2⟩ := info_parts Tryz.infoQue
      go_wp2_with (at_builtin; refine wpList_append_own _ rfl (.tmp 61) (.tmp 63) 26 rfl w5.heap.size 46 i0 _ 3 24 Tryz.underlying26 hi hz0 hz1 hz2 rfl (by omega) (.slice A l.length cap) l.length (qsV l) rfl (own_kept0 X.out.own (galloc (grefl _ none) _)) ⟨x3s.heap.size, 0, none⟩ 1 1 [.string nm, .int .u16 v1, .int .u16 v2] rfl rfl ?c1 ?c2 ?c3 ?c4 ?c5 ?_)
      case c1 =>
        exact new_row x3s [.string nm, .int .u16 v1, .int .u16 v2] 46
      case c2 => intro u hu; simp at hu; rcases hu with rfl | rfl | rfl <;> rfl
      case c3 => unfold maxLen; omega
      case c4 => omega
      case c5 => have := X.out.t.size; simp; omega
      intro v' we hown6 hg6 _
      have TB := X.out.kept (galloc (grefl x3s none) (.cells #[.string nm, .int .u16 v1, .int .u16 v2] 46))
      have XE := Lib.hid (TB.app (by decide) hg6 (show we.ownsRow w5.heap.size 46 3 v' (l ++ [Qn.mk nm v1 v2]).length (qsV (l ++ [Qn.mk nm v1 v2])) from by rw [List.length_append, qsV_append]; exact hown6))
      obtain ⟨A', cap', rfl, _, _⟩ := own_shape hown6
      have c11 : we.cell? ⟨mb, 11, none⟩ = some (.slice A l.length cap) := bcellAt XE.out.m 11
      have f11 := bfree XE.out.m 11
      have XF := XE.out.put 11 (.slice A' (l.length + 1) cap')
      rw [mrow_q] at XF
      have XG := Lib.hid XF
      clear TB hown6 hg6 XF XE X XB x0' x1' x2' m11
      go_wp2_with fail
      go_roundw
      case rel =>
        have b1 := LT.out
        refine ⟨i + 1, by go_num, b1, ?_⟩
        rcases rdQ1_u HR.out A1.out A2.out A3.out V1.out Q1.out E1.out V2.out Q2.out E2.out with ⟨h3, hq⟩ | ⟨rfl, hq, hle⟩
        · exact .inl ⟨p3, e3, h3, C1_no H12.out (by have := HS.out; omega) (HQ0.out.trans (SK.out.no hq)), XG.out.pt, XG.out.t⟩
        · exact .inr ⟨l ++ [Qn.mk nm v1 v2], A', cap', p3, by rw [List.length_append]; have := LI.out; simp; omega, hle, by rw [show n0 - (i + 1) = k from by have := HK.out; omega]; exact SK.out.put hq, by have := XG.out; rw [List.length_append] at this ⊢; exact this⟩
      case measure => have b1 := LT.out; simp [intOf]; omega
  case rest =>
  have CU := Lib.hid hcut
  clear hcut HQ0 SO P5 M5
  go_upto_block 2 with fail
  go_cut [11, 12, 13, 14] from 66 to 115 (fun v11 v12 v13 v14 wx => Bad w5 pb mb s wx ∨ S4 w5 B pb mb s H wx)
  case first =>
    go_wp2_with fail
    go_loopw [11] (fun vi wr => ∃ j : Nat, vi = .int .i64 j ∧ 1 ≤ j ∧ j ≤ 4 ∧ Sn w5 B pb mb s H j wr) (fun vi _ => 4 - (intOf vi).toNat)
    case atStart =>
      refine ⟨1, rfl, by omega, by omega, ?_⟩
      rcases CU.out with h | h
      · exact .inl h
      · exact .inr (.inl ⟨rfl, h⟩)
    case round =>
      obtain ⟨j, rfl, hj1, hj4, hS⟩ := hrel
      by_cases h4 : j = 4
      case pos =>
        subst h4
        have D := Lib.hid hS.four
        clear hS
        go_wp2_with fail
        go_meet
        exact D.out
      have hj : j = 1 ∨ j = 2 ∨ j = 3 := by omega
      clear h4 hj1 hj4 CU
      rcases hj with rfl | rfl | rfl
      · skip
        have D := Lib.hid hS.one
        have TT := Lib.hid hS.tg
        clear hS
        rw [show ((1 : Nat) : Int) = 1 from rfl]
        go_upto_block 3 with fail
        go_cut [12, 13, 14] from 70 to 115 (fun v12 v13 v14 wx => Sn w5 B pb mb s H 2 wx)
        case first =>
          rcases D.out with hb | hb
          · obtain ⟨pp, ee, he, hr, hP, hT⟩ := hb
            have HE := Lib.hid he
            have HR := Lib.hid hr
            have en : ((ee : Int) == 0) = false := by simp; omega
            have P0 := Lib.hid hP
            have T0 := Lib.hid hT
            clear he hr hP hT
            go_wp2_with fail
            go_loopw [12] (fun vi wx => vi = .int .i64 0 ∧ Pt7 wx pb pp ee ∧ TG w5 wx pb (some mb)) (fun vi _ => 0)
            case atStart => exact ⟨rfl, P0.out, T0.out⟩
            case round =>
              obtain ⟨rfl, hP, hT⟩ := hrel
              have P := Lib.hid hP
              have T := Lib.hid hT
              clear hP hT
              have k0 : wr.cell? ⟨cb, 1, none⟩ = some (.int .i64 n1) := bcellAt (T.out.blk C5.out NE.out.1 (by have := NE.out.2.1; simpa using this)) 1
              have k2 : wr.cell? ⟨pb, 1, none⟩ = some (.int .i64 ee) := bcellAt P.out 1
              by_cases hlt : 0 < n1
              case pos =>
                have k1 : decide ((0 : Int) < (n1 : Int)) = true := by simp; omega
                go_wp2_with fail
                go_meet
                exact .inl ⟨pp, ee, HE.out, HR.out, P.out, T.out⟩
              case neg =>
                have k1 : decide ((0 : Int) < (n1 : Int)) = false := by simp; omega
                go_wp2_with fail
                go_meet
                exact .inl ⟨pp, ee, HE.out, HR.out, P.out, T.out⟩
          obtain ⟨lq, vq, p0, c, st⟩ := hb
          have ST := Lib.hid st
          have l0 := L1.out
          have h65 : s.size ≤ 65535 := by have := HS.out; omega
          obtain ⟨R, hR⟩ : ∃ r, rdRs s false n1 p0 ed0 = r := ⟨_, rfl⟩
          have hR' : rdRs s false (num s 6 2) p0 ed0 = R := by rw [N1.out]; exact hR
          have NO := Lib.hid (fun (x : Nat) (h : R = .no x) => C2_no H12.out h65 c (hR'.trans h))
          have OK := Lib.hid (fun (l : List Rc) (p : Nat) (d : Ed) (h : R = .ok l p d) => (show C2 s lq l p d from ⟨p0, c, hR'.trans h⟩))
          have SO := Lib.hid (show RsSo s false R n1 [] p0 ed0 from by unfold RsSo; rw [Rq.pre_nil, hR])
          clear c st hR hR' D
          obtain ⟨W0, rfl⟩ : ∃ W0 : World, W0 = wr := ⟨_, rfl⟩
          go_wp2_with fail
          go_loopw [12] (fun vi wr => ∃ i : Nat, vi = .int .i64 i ∧ i ≤ n1 ∧ (Bad w5 pb mb s wr ∨ Sm W0 B pb mb s false R (fun v d vo => mrow H vq v (.slice none 0 0) (.slice none 0 0) d vo) (n1 - i) i wr)) (fun vi _ => n1 - (intOf vi).toNat)
          case atStart => exact ⟨0, rfl, by omega, .inr ⟨[], none, 0, p0, ed0, (.slice none 0 0), by simp, ST.out.hp, SO.out, ST.out.go⟩⟩
          case round =>
            obtain ⟨i, rfl, hin, hb | ⟨l, A, cap, p, d, vo, hl, hp, hs, hx⟩⟩ := hrel
            · obtain ⟨pp, ee, he, hr, hP, hT⟩ := hb
              have HE := Lib.hid he
              have HR := Lib.hid hr
              have P := Lib.hid hP
              have T := Lib.hid hT
              have en : ((ee : Int) == 0) = false := by simp; omega
              clear he hr hP hT
              have k0 : wr.cell? ⟨cb, 1, none⟩ = some (.int .i64 n1) := bcellAt (T.out.blk C5.out NE.out.1 (by have := NE.out.2.1; simpa using this)) 1
              have k2 : wr.cell? ⟨pb, 1, none⟩ = some (.int .i64 ee) := bcellAt P.out 1
              by_cases hlt : i < n1
              case pos =>
                have k1 : decide ((i : Int) < (n1 : Int)) = true := by simp; omega
                go_wp2_with fail
                go_meet
                exact .inl ⟨pp, ee, HE.out, HR.out, P.out, T.out⟩
              case neg =>
                have k1 : decide ((i : Int) < (n1 : Int)) = false := by simp; omega
                go_wp2_with fail
                go_meet
                exact .inl ⟨pp, ee, HE.out, HR.out, P.out, T.out⟩
            have S := Lib.hid hs
            have X := Lib.hid (show Sx W0 B pb mb 49 5 (mrow H vq (.slice A l.length cap) (.slice none 0 0) (.slice none 0 0) d vo) (.slice A l.length cap) l.length (rsV l) p 0 d vo wr from hx)
            have LI := Lib.hid hl
            clear hs hx hl SO
            have k0 : wr.cell? ⟨cb, 1, none⟩ = some (.int .i64 n1) := bcellAt ((ST.out.t.trans X.out.t (fun _ e => .inl e)).blk C5.out NE.out.1 (by have := NE.out.2.1; simpa using this)) 1
            by_cases hlt : i < n1
            case neg =>
              have k1 : decide ((i : Int) < (n1 : Int)) = false := by simp; omega
              have hso := S.out
              rw [show n1 - i = 0 from by omega] at hso
              have HQ := Lib.hid hso.done
              clear hso
              go_wp2_with fail
              go_meet
              exact .inr (.inr (.inl ⟨rfl, lq, l, vq, .slice A l.length cap, vo, p, d, OK.out l p d HQ.out, ST.out.n1 X.out hp⟩))
            obtain ⟨k, hk⟩ : ∃ k, n1 - i = k + 1 := ⟨n1 - i - 1, by omega⟩
            have SK := Lib.hid (show RsSo s false R (k + 1) l p d from hk ▸ S.out)
            have HK := Lib.hid (show n1 - (i + 1) = k from by omega)
            have LT := Lib.hid hlt
            clear S hk
            have k1 : decide ((i : Int) < (n1 : Int)) = true := by simp; omega
            have k2 : wr.cell? ⟨pb, 1, none⟩ = some (.int .i64 (0 : Nat)) := bcellAt X.out.pt 1
            have CR : Calls Tryz.prog 20 #[.pointer (some ⟨pb, 0, none⟩), .string s, .pointer (some ⟨mb, 0, none⟩), .int .i64 1] wr (RkU (rd1 s false p d) pb mb H vq (.slice A l.length cap) (.slice none 0 0) (.slice none 0 0) d vo wr) := (prec_any wr pb mb p s 1 H vq (.slice A l.length cap) (.slice none 0 0) (.slice none 0 0) d vo X.out.pt hp h65 X.out.m NE.out.2.2.2.2.1).mono fun e w' h => RkU.of (fun x hx => rd1_ne hx) h
            have CR := Lib.hid CR
            go_wp2_with fail
            refine Calls.mono CR.out ?_
            clear CR k0 k1 k2
            rintro e x1 ⟨r, f, p', x, d', vo', rfl, hP, hM, hT, hO, hU⟩
            have X1 := Lib.hid (X.out.rk hT hM hP hO)
            have HU := Lib.hid hU
            clear hP hM hT hO hU X
            have X := Lib.hid (X1.out.kept (galloc (grefl x1 none) (.cells #[.string r.name, .int .u16 r.kind, .int .u16 r.cls, .int .u32 r.ttl, .string r.data] 49)))
            have XB := Lib.hid (balloc x1 (.cells #[.string r.name, .int .u16 r.kind, .int .u16 r.cls, .int .u32 r.ttl, .string r.data] 49))
            clear X1
            unfold rcv
            go_upto_region 23 with fail
            generalize x1.alloc (.cells #[.string r.name, .int .u16 r.kind, .int .u16 r.cls, .int .u32 r.ttl, .string r.data] 49) = x2 at *
            generalize x1.heap.size = xb at *
            cases f with
            | false =>
              go_wp2_with fail
              go_roundw
              case rel =>
                have b1 := LT.out
                refine ⟨i + 1, by go_num, b1, ?_⟩
                rcases HU.out with ⟨h0, h1⟩ | ⟨rfl, _, h1⟩ | ⟨_, hf, _⟩
                · exact .inl ⟨p', x, h0, NO.out x (SK.out.no h1), X.out.pt, ST.out.t.trans X.out.t (fun _ e => .inl e)⟩
                · exact .inr ⟨l, A, cap, p', d', vo', by have := LI.out; omega, rd1_le.2 _ _ h1, by rw [HK.out]; exact SK.out.opt h1, X.out⟩
                · cases hf
              case measure => have b1 := LT.out; simp [intOf]; omega
            | true =>
            have x0' := bcellAt XB.out 0
            have x1' := bcellAt XB.out 1
            have x2' := bcellAt XB.out 2
            have x3' := bcellAt XB.out 3
            have x4' := bcellAt XB.out 4
            have mc : x2.cell? ⟨mb, 12, none⟩ = some (.slice A l.length cap) := bcellAt X.out.m 12
            have hfew : l.length ≤ 65536 := by have := LI.out; omega
            obtain ⟨i0, hi, hz0, hz1, hz2⟩ := info_parts Tryz.infoRec
            have lsz : W0.heap.size ≤ (x2.alloc (.cells #[.string r.name, .int .u16 r.kind, .int .u16 r.cls, .int .u32 r.ttl, .string r.data] 49)).heap.size := by have := X.out.t.size; simp; omega
            have hone : ∀ u ∈ ([.string r.name, .int .u16 r.kind, .int .u16 r.cls, .int .u32 r.ttl, .string r.data] : List Value), u.oneCell' = true := by intro u hu; simp at hu; rcases hu with rfl | rfl | rfl | rfl | rfl <;> rfl
            have hnr := new_row x2 [.string r.name, .int .u16 r.kind, .int .u16 r.cls, .int .u32 r.ttl, .string r.data] 49
            have hone := Lib.hid hone
            have hnr := Lib.hid hnr
            have lsz := Lib.hid lsz
            go_wp2_with (at_builtin; refine wpList_append_own _ rfl (.tmp 103) (.tmp 105) 27 rfl W0.heap.size 49 i0 _ 5 40 Tryz.underlying27 hi hz0 hz1 hz2 rfl (by omega) (.slice A l.length cap) l.length (rsV l) rfl (own_kept0 X.out.own (galloc (grefl _ none) _)) ⟨x2.heap.size, 0, none⟩ 1 1 [.string r.name, .int .u16 r.kind, .int .u16 r.cls, .int .u32 r.ttl, .string r.data] rfl rfl hnr.out hone.out (by unfold maxLen; omega) (by omega) lsz.out ?_)
            intro v' we hown6 hg6 _
            have TB := X.out.kept (galloc (grefl x2 none) (.cells #[.string r.name, .int .u16 r.kind, .int .u16 r.cls, .int .u32 r.ttl, .string r.data] 49))
            have XE := Lib.hid (TB.app (by decide) hg6 (show we.ownsRow W0.heap.size 49 5 v' (l ++ [r]).length (rsV (l ++ [r])) from by rw [List.length_append, rsV_append]; exact hown6))
            obtain ⟨A', cap', rfl, _, _⟩ := own_shape hown6
            have cc : we.cell? ⟨mb, 12, none⟩ = some (.slice A l.length cap) := bcellAt XE.out.m 12
            have fc := bfree XE.out.m 12
            have XF := XE.out.put 12 (.slice A' (l.length + 1) cap')
            rw [mrow_a] at XF
            have XG := Lib.hid XF
            clear TB hown6 hg6 XF XE X XB x0' x1' x2' x3' x4' mc
            go_wp2_with fail
            go_roundw
            case rel =>
              have b1 := LT.out
              refine ⟨i + 1, by go_num, b1, ?_⟩
              rcases HU.out with ⟨h0, h1⟩ | ⟨_, hf, _⟩ | ⟨rfl, _, h1, rfl⟩
              · exact .inl ⟨p', x, h0, NO.out x (SK.out.no h1), XG.out.pt, ST.out.t.trans XG.out.t (fun _ e => .inl e)⟩
              · cases hf
              · exact .inr ⟨l ++ [r], A', cap', p', d', vo', by rw [List.length_append]; have := LI.out; simp; omega, rd1_le.1 _ _ h1, by rw [HK.out]; exact SK.out.put h1, by have := XG.out; rw [List.length_append] at this ⊢; exact this⟩
            case measure => have b1 := LT.out; simp [intOf]; omega
        case rest =>
          have CU := Lib.hid hcut
          clear hcut
          go_wp2_with fail
          go_roundw
          case rel => exact ⟨2, by go_num, by omega, by omega, CU.out⟩
          case measure => simp [intOf]
      · skip
        have D := Lib.hid hS.two
        have TT := Lib.hid hS.tg
        clear hS
        rw [show ((2 : Nat) : Int) = 2 from rfl]
        go_upto_block 3 with fail
        go_cut [12, 13, 14] from 70 to 115 (fun v12 v13 v14 wx => Sn w5 B pb mb s H 3 wx)
        case first =>
          rcases D.out with hb | hb
          · obtain ⟨pp, ee, he, hr, hP, hT⟩ := hb
            have HE := Lib.hid he
            have HR := Lib.hid hr
            have en : ((ee : Int) == 0) = false := by simp; omega
            have P0 := Lib.hid hP
            have T0 := Lib.hid hT
            clear he hr hP hT
            go_wp2_with fail
            go_loopw [12] (fun vi wx => vi = .int .i64 0 ∧ Pt7 wx pb pp ee ∧ TG w5 wx pb (some mb)) (fun vi _ => 0)
            case atStart => exact ⟨rfl, P0.out, T0.out⟩
            case round =>
              obtain ⟨rfl, hP, hT⟩ := hrel
              have P := Lib.hid hP
              have T := Lib.hid hT
              clear hP hT
              have k0 : wr.cell? ⟨cb, 2, none⟩ = some (.int .i64 n2) := bcellAt (T.out.blk C5.out NE.out.1 (by have := NE.out.2.1; simpa using this)) 2
              have k2 : wr.cell? ⟨pb, 1, none⟩ = some (.int .i64 ee) := bcellAt P.out 1
              by_cases hlt : 0 < n2
              case pos =>
                have k1 : decide ((0 : Int) < (n2 : Int)) = true := by simp; omega
                go_wp2_with fail
                go_meet
                exact .inl ⟨pp, ee, HE.out, HR.out, P.out, T.out⟩
              case neg =>
                have k1 : decide ((0 : Int) < (n2 : Int)) = false := by simp; omega
                go_wp2_with fail
                go_meet
                exact .inl ⟨pp, ee, HE.out, HR.out, P.out, T.out⟩
          obtain ⟨lq, an, vq, va, vo0, p0, d0, c, st⟩ := hb
          have ST := Lib.hid st
          have l0 := L2.out
          have h65 : s.size ≤ 65535 := by have := HS.out; omega
          obtain ⟨R, hR⟩ : ∃ r, rdRs s false n2 p0 d0 = r := ⟨_, rfl⟩
          have hR' : rdRs s false (num s 8 2) p0 d0 = R := by rw [N2.out]; exact hR
          have NO := Lib.hid (fun (x : Nat) (h : R = .no x) => C3_no H12.out h65 c (hR'.trans h))
          have OK := Lib.hid (fun (l : List Rc) (p : Nat) (d : Ed) (h : R = .ok l p d) => (show C3 s lq an l p d from ⟨p0, d0, c, hR'.trans h⟩))
          have SO := Lib.hid (show RsSo s false R n2 [] p0 d0 from by unfold RsSo; rw [Rq.pre_nil, hR])
          clear c st hR hR' D
          obtain ⟨W0, rfl⟩ : ∃ W0 : World, W0 = wr := ⟨_, rfl⟩
          go_wp2_with fail
          go_loopw [12] (fun vi wr => ∃ i : Nat, vi = .int .i64 i ∧ i ≤ n2 ∧ (Bad w5 pb mb s wr ∨ Sm W0 B pb mb s false R (fun v d vo => mrow H vq va v (.slice none 0 0) d vo) (n2 - i) i wr)) (fun vi _ => n2 - (intOf vi).toNat)
          case atStart => exact ⟨0, rfl, by omega, .inr ⟨[], none, 0, p0, d0, vo0, by simp, ST.out.hp, SO.out, ST.out.go⟩⟩
          case round =>
            obtain ⟨i, rfl, hin, hb | ⟨l, A, cap, p, d, vo, hl, hp, hs, hx⟩⟩ := hrel
            · obtain ⟨pp, ee, he, hr, hP, hT⟩ := hb
              have HE := Lib.hid he
              have HR := Lib.hid hr
              have P := Lib.hid hP
              have T := Lib.hid hT
              have en : ((ee : Int) == 0) = false := by simp; omega
              clear he hr hP hT
              have k0 : wr.cell? ⟨cb, 2, none⟩ = some (.int .i64 n2) := bcellAt (T.out.blk C5.out NE.out.1 (by have := NE.out.2.1; simpa using this)) 2
              have k2 : wr.cell? ⟨pb, 1, none⟩ = some (.int .i64 ee) := bcellAt P.out 1
              by_cases hlt : i < n2
              case pos =>
                have k1 : decide ((i : Int) < (n2 : Int)) = true := by simp; omega
                go_wp2_with fail
                go_meet
                exact .inl ⟨pp, ee, HE.out, HR.out, P.out, T.out⟩
              case neg =>
                have k1 : decide ((i : Int) < (n2 : Int)) = false := by simp; omega
                go_wp2_with fail
                go_meet
                exact .inl ⟨pp, ee, HE.out, HR.out, P.out, T.out⟩
            have S := Lib.hid hs
            have X := Lib.hid (show Sx W0 B pb mb 49 5 (mrow H vq va (.slice A l.length cap) (.slice none 0 0) d vo) (.slice A l.length cap) l.length (rsV l) p 0 d vo wr from hx)
            have LI := Lib.hid hl
            clear hs hx hl SO
            have k0 : wr.cell? ⟨cb, 2, none⟩ = some (.int .i64 n2) := bcellAt ((ST.out.t.trans X.out.t (fun _ e => .inl e)).blk C5.out NE.out.1 (by have := NE.out.2.1; simpa using this)) 2
            by_cases hlt : i < n2
            case neg =>
              have k1 : decide ((i : Int) < (n2 : Int)) = false := by simp; omega
              have hso := S.out
              rw [show n2 - i = 0 from by omega] at hso
              have HQ := Lib.hid hso.done
              clear hso
              go_wp2_with fail
              go_meet
              exact .inr (.inr (.inr (.inl ⟨rfl, lq, an, l, vq, va, .slice A l.length cap, vo, p, d, OK.out l p d HQ.out, ST.out.n2 X.out hp⟩)))
            obtain ⟨k, hk⟩ : ∃ k, n2 - i = k + 1 := ⟨n2 - i - 1, by omega⟩
            have SK := Lib.hid (show RsSo s false R (k + 1) l p d from hk ▸ S.out)
            have HK := Lib.hid (show n2 - (i + 1) = k from by omega)
            have LT := Lib.hid hlt
            clear S hk
            have k1 : decide ((i : Int) < (n2 : Int)) = true := by simp; omega
            have k2 : wr.cell? ⟨pb, 1, none⟩ = some (.int .i64 (0 : Nat)) := bcellAt X.out.pt 1
            have CR : Calls Tryz.prog 20 #[.pointer (some ⟨pb, 0, none⟩), .string s, .pointer (some ⟨mb, 0, none⟩), .int .i64 2] wr (RkU (rd1 s false p d) pb mb H vq va (.slice A l.length cap) (.slice none 0 0) d vo wr) := (prec_any wr pb mb p s 2 H vq va (.slice A l.length cap) (.slice none 0 0) d vo X.out.pt hp h65 X.out.m NE.out.2.2.2.2.1).mono fun e w' h => RkU.of (fun x hx => rd1_ne hx) h
            have CR := Lib.hid CR
            go_wp2_with fail
            refine Calls.mono CR.out ?_
            clear CR k0 k1 k2
            rintro e x1 ⟨r, f, p', x, d', vo', rfl, hP, hM, hT, hO, hU⟩
            have X1 := Lib.hid (X.out.rk hT hM hP hO)
            have HU := Lib.hid hU
            clear hP hM hT hO hU X
            have X := Lib.hid (X1.out.kept (galloc (grefl x1 none) (.cells #[.string r.name, .int .u16 r.kind, .int .u16 r.cls, .int .u32 r.ttl, .string r.data] 49)))
            have XB := Lib.hid (balloc x1 (.cells #[.string r.name, .int .u16 r.kind, .int .u16 r.cls, .int .u32 r.ttl, .string r.data] 49))
            clear X1
            unfold rcv
            go_upto_region 23 with fail
            generalize x1.alloc (.cells #[.string r.name, .int .u16 r.kind, .int .u16 r.cls, .int .u32 r.ttl, .string r.data] 49) = x2 at *
            generalize x1.heap.size = xb at *
            cases f with
            | false =>
              go_wp2_with fail
              go_roundw
              case rel =>
                have b1 := LT.out
                refine ⟨i + 1, by go_num, b1, ?_⟩
                rcases HU.out with ⟨h0, h1⟩ | ⟨rfl, _, h1⟩ | ⟨_, hf, _⟩
                · exact .inl ⟨p', x, h0, NO.out x (SK.out.no h1), X.out.pt, ST.out.t.trans X.out.t (fun _ e => .inl e)⟩
                · exact .inr ⟨l, A, cap, p', d', vo', by have := LI.out; omega, rd1_le.2 _ _ h1, by rw [HK.out]; exact SK.out.opt h1, X.out⟩
                · cases hf
              case measure => have b1 := LT.out; simp [intOf]; omega
            | true =>
            have x0' := bcellAt XB.out 0
            have x1' := bcellAt XB.out 1
            have x2' := bcellAt XB.out 2
            have x3' := bcellAt XB.out 3
            have x4' := bcellAt XB.out 4
            have mc : x2.cell? ⟨mb, 13, none⟩ = some (.slice A l.length cap) := bcellAt X.out.m 13
            have hfew : l.length ≤ 65536 := by have := LI.out; omega
            obtain ⟨i0, hi, hz0, hz1, hz2⟩ := info_parts Tryz.infoRec
            have lsz : W0.heap.size ≤ (x2.alloc (.cells #[.string r.name, .int .u16 r.kind, .int .u16 r.cls, .int .u32 r.ttl, .string r.data] 49)).heap.size := by have := X.out.t.size; simp; omega
            have hone : ∀ u ∈ ([.string r.name, .int .u16 r.kind, .int .u16 r.cls, .int .u32 r.ttl, .string r.data] : List Value), u.oneCell' = true := by intro u hu; simp at hu; rcases hu with rfl | rfl | rfl | rfl | rfl <;> rfl
            have hnr := new_row x2 [.string r.name, .int .u16 r.kind, .int .u16 r.cls, .int .u32 r.ttl, .string r.data] 49
            have hone := Lib.hid hone
            have hnr := Lib.hid hnr
            have lsz := Lib.hid lsz
            go_wp2_with (at_builtin; refine wpList_append_own _ rfl (.tmp 111) (.tmp 113) 27 rfl W0.heap.size 49 i0 _ 5 40 Tryz.underlying27 hi hz0 hz1 hz2 rfl (by omega) (.slice A l.length cap) l.length (rsV l) rfl (own_kept0 X.out.own (galloc (grefl _ none) _)) ⟨x2.heap.size, 0, none⟩ 1 1 [.string r.name, .int .u16 r.kind, .int .u16 r.cls, .int .u32 r.ttl, .string r.data] rfl rfl hnr.out hone.out (by unfold maxLen; omega) (by omega) lsz.out ?_)
            intro v' we hown6 hg6 _
            have TB := X.out.kept (galloc (grefl x2 none) (.cells #[.string r.name, .int .u16 r.kind, .int .u16 r.cls, .int .u32 r.ttl, .string r.data] 49))
            have XE := Lib.hid (TB.app (by decide) hg6 (show we.ownsRow W0.heap.size 49 5 v' (l ++ [r]).length (rsV (l ++ [r])) from by rw [List.length_append, rsV_append]; exact hown6))
            obtain ⟨A', cap', rfl, _, _⟩ := own_shape hown6
            have cc : we.cell? ⟨mb, 13, none⟩ = some (.slice A l.length cap) := bcellAt XE.out.m 13
            have fc := bfree XE.out.m 13
            have XF := XE.out.put 13 (.slice A' (l.length + 1) cap')
            rw [mrow_u] at XF
            have XG := Lib.hid XF
            clear TB hown6 hg6 XF XE X XB x0' x1' x2' x3' x4' mc
            go_wp2_with fail
            go_roundw
            case rel =>
              have b1 := LT.out
              refine ⟨i + 1, by go_num, b1, ?_⟩
              rcases HU.out with ⟨h0, h1⟩ | ⟨_, hf, _⟩ | ⟨rfl, _, h1, rfl⟩
              · exact .inl ⟨p', x, h0, NO.out x (SK.out.no h1), XG.out.pt, ST.out.t.trans XG.out.t (fun _ e => .inl e)⟩
              · cases hf
              · exact .inr ⟨l ++ [r], A', cap', p', d', vo', by rw [List.length_append]; have := LI.out; simp; omega, rd1_le.1 _ _ h1, by rw [HK.out]; exact SK.out.put h1, by have := XG.out; rw [List.length_append] at this ⊢; exact this⟩
            case measure => have b1 := LT.out; simp [intOf]; omega
        case rest =>
          have CU := Lib.hid hcut
          clear hcut
          go_wp2_with fail
          go_roundw
          case rel => exact ⟨3, by go_num, by omega, by omega, CU.out⟩
          case measure => simp [intOf]
      · skip
        have D := Lib.hid hS.three
        have TT := Lib.hid hS.tg
        clear hS
        rw [show ((3 : Nat) : Int) = 3 from rfl]
        go_upto_block 3 with fail
        go_cut [12, 13, 14] from 70 to 115 (fun v12 v13 v14 wx => Sn w5 B pb mb s H 4 wx)
        case first =>
          rcases D.out with hb | hb
          · obtain ⟨pp, ee, he, hr, hP, hT⟩ := hb
            have HE := Lib.hid he
            have HR := Lib.hid hr
            have en : ((ee : Int) == 0) = false := by simp; omega
            have P0 := Lib.hid hP
            have T0 := Lib.hid hT
            clear he hr hP hT
            go_wp2_with fail
            go_loopw [12] (fun vi wx => vi = .int .i64 0 ∧ Pt7 wx pb pp ee ∧ TG w5 wx pb (some mb)) (fun vi _ => 0)
            case atStart => exact ⟨rfl, P0.out, T0.out⟩
            case round =>
              obtain ⟨rfl, hP, hT⟩ := hrel
              have P := Lib.hid hP
              have T := Lib.hid hT
              clear hP hT
              have k0 : wr.cell? ⟨cb, 3, none⟩ = some (.int .i64 n3) := bcellAt (T.out.blk C5.out NE.out.1 (by have := NE.out.2.1; simpa using this)) 3
              have k2 : wr.cell? ⟨pb, 1, none⟩ = some (.int .i64 ee) := bcellAt P.out 1
              by_cases hlt : 0 < n3
              case pos =>
                have k1 : decide ((0 : Int) < (n3 : Int)) = true := by simp; omega
                go_wp2_with fail
                go_meet
                exact .inl ⟨pp, ee, HE.out, HR.out, P.out, T.out⟩
              case neg =>
                have k1 : decide ((0 : Int) < (n3 : Int)) = false := by simp; omega
                go_wp2_with fail
                go_meet
                exact .inl ⟨pp, ee, HE.out, HR.out, P.out, T.out⟩
          obtain ⟨lq, an, au, vq, va, vu, vo0, p0, d0, c, st⟩ := hb
          have ST := Lib.hid st
          have l0 := L3.out
          have h65 : s.size ≤ 65535 := by have := HS.out; omega
          obtain ⟨R, hR⟩ : ∃ r, rdRs s true n3 p0 d0 = r := ⟨_, rfl⟩
          have hR' : rdRs s true (num s 10 2) p0 d0 = R := by rw [N3.out]; exact hR
          have NO := Lib.hid (fun (x : Nat) (h : R = .no x) => C4_no H12.out h65 c (hR'.trans h))
          have OK := Lib.hid (fun (l : List Rc) (p : Nat) (d : Ed) (h : R = .ok l p d) => (show C4 s lq an au l p d from ⟨p0, d0, c, hR'.trans h⟩))
          have SO := Lib.hid (show RsSo s true R n3 [] p0 d0 from by unfold RsSo; rw [Rq.pre_nil, hR])
          clear c st hR hR' D
          obtain ⟨W0, rfl⟩ : ∃ W0 : World, W0 = wr := ⟨_, rfl⟩
          go_wp2_with fail
          go_loopw [12] (fun vi wr => ∃ i : Nat, vi = .int .i64 i ∧ i ≤ n3 ∧ (Bad w5 pb mb s wr ∨ Sm W0 B pb mb s true R (fun v d vo => mrow H vq va vu v d vo) (n3 - i) i wr)) (fun vi _ => n3 - (intOf vi).toNat)
          case atStart => exact ⟨0, rfl, by omega, .inr ⟨[], none, 0, p0, d0, vo0, by simp, ST.out.hp, SO.out, ST.out.go⟩⟩
          case round =>
            obtain ⟨i, rfl, hin, hb | ⟨l, A, cap, p, d, vo, hl, hp, hs, hx⟩⟩ := hrel
            · obtain ⟨pp, ee, he, hr, hP, hT⟩ := hb
              have HE := Lib.hid he
              have HR := Lib.hid hr
              have P := Lib.hid hP
              have T := Lib.hid hT
              have en : ((ee : Int) == 0) = false := by simp; omega
              clear he hr hP hT
              have k0 : wr.cell? ⟨cb, 3, none⟩ = some (.int .i64 n3) := bcellAt (T.out.blk C5.out NE.out.1 (by have := NE.out.2.1; simpa using this)) 3
              have k2 : wr.cell? ⟨pb, 1, none⟩ = some (.int .i64 ee) := bcellAt P.out 1
              by_cases hlt : i < n3
              case pos =>
                have k1 : decide ((i : Int) < (n3 : Int)) = true := by simp; omega
                go_wp2_with fail
                go_meet
                exact .inl ⟨pp, ee, HE.out, HR.out, P.out, T.out⟩
              case neg =>
                have k1 : decide ((i : Int) < (n3 : Int)) = false := by simp; omega
                go_wp2_with fail
                go_meet
                exact .inl ⟨pp, ee, HE.out, HR.out, P.out, T.out⟩
            have S := Lib.hid hs
            have X := Lib.hid (show Sx W0 B pb mb 49 5 (mrow H vq va vu (.slice A l.length cap) d vo) (.slice A l.length cap) l.length (rsV l) p 0 d vo wr from hx)
            have LI := Lib.hid hl
            clear hs hx hl SO
            have k0 : wr.cell? ⟨cb, 3, none⟩ = some (.int .i64 n3) := bcellAt ((ST.out.t.trans X.out.t (fun _ e => .inl e)).blk C5.out NE.out.1 (by have := NE.out.2.1; simpa using this)) 3
            by_cases hlt : i < n3
            case neg =>
              have k1 : decide ((i : Int) < (n3 : Int)) = false := by simp; omega
              have hso := S.out
              rw [show n3 - i = 0 from by omega] at hso
              have HQ := Lib.hid hso.done
              clear hso
              go_wp2_with fail
              go_meet
              exact .inr (.inr (.inr (.inr ⟨rfl, lq, an, au, l, vq, va, vu, .slice A l.length cap, vo, p, d, OK.out l p d HQ.out, ST.out.n3 X.out hp⟩)))
            obtain ⟨k, hk⟩ : ∃ k, n3 - i = k + 1 := ⟨n3 - i - 1, by omega⟩
            have SK := Lib.hid (show RsSo s true R (k + 1) l p d from hk ▸ S.out)
            have HK := Lib.hid (show n3 - (i + 1) = k from by omega)
            have LT := Lib.hid hlt
            clear S hk
            have k1 : decide ((i : Int) < (n3 : Int)) = true := by simp; omega
            have k2 : wr.cell? ⟨pb, 1, none⟩ = some (.int .i64 (0 : Nat)) := bcellAt X.out.pt 1
            have CR : Calls Tryz.prog 20 #[.pointer (some ⟨pb, 0, none⟩), .string s, .pointer (some ⟨mb, 0, none⟩), .int .i64 3] wr (RkU (rd1 s true p d) pb mb H vq va vu (.slice A l.length cap) d vo wr) := (prec_any wr pb mb p s 3 H vq va vu (.slice A l.length cap) d vo X.out.pt hp h65 X.out.m NE.out.2.2.2.2.1).mono fun e w' h => RkU.of (fun x hx => rd1_ne hx) h
            have CR := Lib.hid CR
            go_wp2_with fail
            refine Calls.mono CR.out ?_
            clear CR k0 k1 k2
            rintro e x1 ⟨r, f, p', x, d', vo', rfl, hP, hM, hT, hO, hU⟩
            have X1 := Lib.hid (X.out.rk hT hM hP hO)
            have HU := Lib.hid hU
            clear hP hM hT hO hU X
            have X := Lib.hid (X1.out.kept (galloc (grefl x1 none) (.cells #[.string r.name, .int .u16 r.kind, .int .u16 r.cls, .int .u32 r.ttl, .string r.data] 49)))
            have XB := Lib.hid (balloc x1 (.cells #[.string r.name, .int .u16 r.kind, .int .u16 r.cls, .int .u32 r.ttl, .string r.data] 49))
            clear X1
            unfold rcv
            go_upto_region 23 with fail
            generalize x1.alloc (.cells #[.string r.name, .int .u16 r.kind, .int .u16 r.cls, .int .u32 r.ttl, .string r.data] 49) = x2 at *
            generalize x1.heap.size = xb at *
            cases f with
            | false =>
              go_wp2_with fail
              go_roundw
              case rel =>
                have b1 := LT.out
                refine ⟨i + 1, by go_num, b1, ?_⟩
                rcases HU.out with ⟨h0, h1⟩ | ⟨rfl, _, h1⟩ | ⟨_, hf, _⟩
                · exact .inl ⟨p', x, h0, NO.out x (SK.out.no h1), X.out.pt, ST.out.t.trans X.out.t (fun _ e => .inl e)⟩
                · exact .inr ⟨l, A, cap, p', d', vo', by have := LI.out; omega, rd1_le.2 _ _ h1, by rw [HK.out]; exact SK.out.opt h1, X.out⟩
                · cases hf
              case measure => have b1 := LT.out; simp [intOf]; omega
            | true =>
            have x0' := bcellAt XB.out 0
            have x1' := bcellAt XB.out 1
            have x2' := bcellAt XB.out 2
            have x3' := bcellAt XB.out 3
            have x4' := bcellAt XB.out 4
            have mc : x2.cell? ⟨mb, 14, none⟩ = some (.slice A l.length cap) := bcellAt X.out.m 14
            have hfew : l.length ≤ 65536 := by have := LI.out; omega
            obtain ⟨i0, hi, hz0, hz1, hz2⟩ := info_parts Tryz.infoRec
            have lsz : W0.heap.size ≤ (x2.alloc (.cells #[.string r.name, .int .u16 r.kind, .int .u16 r.cls, .int .u32 r.ttl, .string r.data] 49)).heap.size := by have := X.out.t.size; simp; omega
            have hone : ∀ u ∈ ([.string r.name, .int .u16 r.kind, .int .u16 r.cls, .int .u32 r.ttl, .string r.data] : List Value), u.oneCell' = true := by intro u hu; simp at hu; rcases hu with rfl | rfl | rfl | rfl | rfl <;> rfl
            have hnr := new_row x2 [.string r.name, .int .u16 r.kind, .int .u16 r.cls, .int .u32 r.ttl, .string r.data] 49
            have hone := Lib.hid hone
            have hnr := Lib.hid hnr
            have lsz := Lib.hid lsz
            go_wp2_with (at_builtin; refine wpList_append_own _ rfl (.tmp 95) (.tmp 97) 27 rfl W0.heap.size 49 i0 _ 5 40 Tryz.underlying27 hi hz0 hz1 hz2 rfl (by omega) (.slice A l.length cap) l.length (rsV l) rfl (own_kept0 X.out.own (galloc (grefl _ none) _)) ⟨x2.heap.size, 0, none⟩ 1 1 [.string r.name, .int .u16 r.kind, .int .u16 r.cls, .int .u32 r.ttl, .string r.data] rfl rfl hnr.out hone.out (by unfold maxLen; omega) (by omega) lsz.out ?_)
            intro v' we hown6 hg6 _
            have TB := X.out.kept (galloc (grefl x2 none) (.cells #[.string r.name, .int .u16 r.kind, .int .u16 r.cls, .int .u32 r.ttl, .string r.data] 49))
            have XE := Lib.hid (TB.app (by decide) hg6 (show we.ownsRow W0.heap.size 49 5 v' (l ++ [r]).length (rsV (l ++ [r])) from by rw [List.length_append, rsV_append]; exact hown6))
            obtain ⟨A', cap', rfl, _, _⟩ := own_shape hown6
            have cc : we.cell? ⟨mb, 14, none⟩ = some (.slice A l.length cap) := bcellAt XE.out.m 14
            have fc := bfree XE.out.m 14
            have XF := XE.out.put 14 (.slice A' (l.length + 1) cap')
            rw [mrow_x] at XF
            have XG := Lib.hid XF
            clear TB hown6 hg6 XF XE X XB x0' x1' x2' x3' x4' mc
            go_wp2_with fail
            go_roundw
            case rel =>
              have b1 := LT.out
              refine ⟨i + 1, by go_num, b1, ?_⟩
              rcases HU.out with ⟨h0, h1⟩ | ⟨_, hf, _⟩ | ⟨rfl, _, h1, rfl⟩
              · exact .inl ⟨p', x, h0, NO.out x (SK.out.no h1), XG.out.pt, ST.out.t.trans XG.out.t (fun _ e => .inl e)⟩
              · cases hf
              · exact .inr ⟨l ++ [r], A', cap', p', d', vo', by rw [List.length_append]; have := LI.out; simp; omega, rd1_le.1 _ _ h1, by rw [HK.out]; exact SK.out.put h1, by have := XG.out; rw [List.length_append] at this ⊢; exact this⟩
            case measure => have b1 := LT.out; simp [intOf]; omega
        case rest =>
          have CU := Lib.hid hcut
          clear hcut
          go_wp2_with fail
          go_roundw
          case rel => exact ⟨4, by go_num, by omega, by omega, CU.out⟩
          case measure => simp [intOf]
  case rest =>
    have CU := Lib.hid hcut
    clear hcut
    rcases CU.out with hb | hb
    · obtain ⟨pp, ee, he, hr, hP, hT⟩ := hb
      have HR := Lib.hid hr
      have P := Lib.hid hP
      have en : ((ee : Int) != 0) = true := by simp; omega
      have G := Lib.hid (hT.gr G5.out NE.out.2.2.2.2.2.1 (fun k e => by cases e; exact NE.out.2.2.2.2.2.2.1))
      have R := Lib.hid (hT.blk R5.out NE.out.2.2.1 (by have := NE.out.2.2.2.1; simpa using this))
      have k2 : wc.cell? ⟨pb, 1, none⟩ = some (.int .i64 ee) := bcellAt P.out 1
      clear he hr hP hT CU C5 R5 G5
      go_upto_region 31 with fail
      clear k2 en
      have k2 : ∀ g : GrR (KC (fun a => a = ⟨pb, 1, none⟩)) wc.drew, g.w.cell? ⟨pb, 1, none⟩ = some (.int .i64 ee) := fun g => g.h _ _ rfl (bcellAt P.out 1)
      refine wp_region_segsR (KC.rt (fun a => a = ⟨pb, 1, none⟩)) [(true, [1, 2, 3, 4]), (false, [0]), (false, [5]), (false, [6])] (by kernel_rfl) (by kernel_rfl) ?_
      refine wpSegsR_quiet rfl ?_
      simp only [List.filterMap_cons, List.filterMap_nil, List.getElem?_toArray, List.getElem?_cons_succ, List.getElem?_cons_zero]
      show wpQuiet _ _ _ _ [_, _, _, _] _
      repeat (go_big_quiet_step (fail))
      refine wpQuiet_nil ?_
      have gd : wc.grownBy wc.drew none := gdrew (grefl wc none)
      have G' := Lib.hid (gtrans G.out gd)
      have R' := Lib.hid (gblock gd R.out (by simp))
      clear gd k2 G R P
      have G := G'
      have R := R'
      clear G' R'
      generalize wc.drew = wd at *
      have T := Lib.hid (bsetR R.out #[.int .u16 0, .bool false, .int .u8 0, .bool false, .bool false, .bool false, .bool false, .bool false, .bool false, .bool false, .int .u8 0, .slice none 0 0, .slice none 0 0, .slice none 0 0, .slice none 0 0, .bool false, .int .u16 0, .int .u8 0, .int .u8 0, .int .u16 0, .slice none 0 0])
      have G9 := Lib.hid (gsetR G.out (show w.heap.size ≤ rs from NE.out.2.2.2.2.2.2.2) #[.int .u16 0, .bool false, .int .u8 0, .bool false, .bool false, .bool false, .bool false, .bool false, .bool false, .bool false, .int .u8 0, .slice none 0 0, .slice none 0 0, .slice none 0 0, .slice none 0 0, .bool false, .int .u16 0, .int .u8 0, .int .u8 0, .int .u16 0, .slice none 0 0])
      refine wpSegsR_one (by simp only [List.getElem?_toArray, List.getElem?_cons_zero]; exact rfl) ?_
      go_wp2_with fail
      refine ⟨(KC.rt _).refl _, ?_⟩
      refine wpSegsR_one (by simp only [List.getElem?_toArray, List.getElem?_cons_succ, List.getElem?_cons_zero]; exact rfl) ?_
      go_wp2_with (refine wpList_store_row rfl 32 _ _ rfl rs #[.int .u16 0, .bool false, .int .u8 0, .bool false, .bool false, .bool false, .bool false, .bool false, .bool false, .bool false, .int .u8 0, .slice none 0 0, .slice none 0 0, .slice none 0 0, .slice none 0 0, .bool false, .int .u16 0, .int .u8 0, .int .u8 0, .int .u16 0, .slice none 0 0] rfl rfl 32 _ R.out (by kernel_rfl) rfl (by kernel_rfl) ?_)
      refine ⟨KC.ofB (grow_row wd rs #[.int .u16 0, .bool false, .int .u8 0, .bool false, .bool false, .bool false, .bool false, .bool false, .bool false, .bool false, .int .u8 0, .slice none 0 0, .slice none 0 0, .slice none 0 0, .slice none 0 0, .bool false, .int .u16 0, .int .u8 0, .int .u8 0, .int .u16 0, .slice none 0 0]) (fun a ha => by rw [ha]; exact NE.out.2.2.1.symm), ?_⟩
      simp only [Act.put]
      refine wpSegsR_one (by simp only [List.getElem?_toArray, List.getElem?_cons_succ, List.getElem?_cons_zero]; exact rfl) ?_
      go_wp2_with fail
      refine ⟨(KC.rt _).refl _, ?_⟩
      refine wpSegsR_done ?_
      go_wp2_with fail
      refine bodyPost_ret_by (results_cr rfl _ _ rs 32 #[.int .u16 0, .bool false, .int .u8 0, .bool false, .bool false, .bool false, .bool false, .bool false, .bool false, .bool false, .int .u8 0, .slice none 0 0, .slice none 0 0, .slice none 0 0, .slice none 0 0, .bool false, .int .u16 0, .int .u8 0, .int .u8 0, .int .u16 0, .slice none 0 0] (0, 0) _ rfl T.out Tryz.underlying32 rfl (by kernel_rfl)) rfl ?_
      exact DcPost.no HR.out G9.out rfl
    · obtain ⟨lq, an, au, ex, vq, va, vu, vx, vo, p, d, c, st⟩ := hb
      obtain ⟨hM, hmay, hdoc⟩ := C4_end H12.out HS.out c
      rw [HH.out] at hM hmay hdoc
      obtain ⟨Aq, cq, rfl⟩ := st.q.len
      obtain ⟨Aa, ca, rfl⟩ := st.a.len
      obtain ⟨Au, cu, rfl⟩ := st.u.len
      obtain ⟨Ax, cx, rfl⟩ := st.x.len
      obtain ⟨Ao, co, rfl⟩ := st.o.len
      obtain ⟨m, hm⟩ : ∃ m, msOf H lq an au ex d = m := ⟨_, rfl⟩
      rw [hm] at hM hmay hdoc
      rw [rdEnd_doc hmay] at hM
      have F := Lib.hid (show MsF wc B m (.slice Aq lq.length cq) (.slice Aa an.length ca) (.slice Au au.length cu) (.slice Ax ex.length cx) (.slice Ao d.ops.length co) from by subst hm; exact ⟨st.q, st.a, st.u, st.x, st.o⟩)
      have VE : m.val (.slice Aq lq.length cq) (.slice Aa an.length ca) (.slice Au au.length cu) (.slice Ax ex.length cx) (.slice Ao d.ops.length co) = .agg (mrow H (.slice Aq lq.length cq) (.slice Aa an.length ca) (.slice Au au.length cu) (.slice Ax ex.length cx) d (.slice Ao d.ops.length co)) := by subst hm; rfl
      have CE := rencode_any wc m (.slice Aq lq.length cq) (.slice Aa an.length ca) (.slice Au au.length cu) (.slice Ax ex.length cx) (.slice Ao d.ops.length co) F.out.v hdoc
      rw [VE] at CE
      have CE := Lib.hid CE
      have VE := Lib.hid VE
      have HM := Lib.hid hM
      have P := Lib.hid st.pt
      have M := Lib.hid st.m
      have G := Lib.hid (st.t.gr G5.out NE.out.2.2.2.2.2.1 (fun k e => by cases e; exact NE.out.2.2.2.2.2.2.1))
      have R := Lib.hid (st.t.blk R5.out NE.out.2.2.1 (by have := NE.out.2.2.2.1; simpa using this))
      have k2 : wc.cell? ⟨pb, 1, none⟩ = some (.int .i64 (0 : Nat)) := bcellAt P.out 1
      have hs4 : s.size ≤ 4000 := HS.out
      have hp4 : p ≤ s.size := st.hp
      obtain ⟨en, hen⟩ : ∃ x, m.wE = x := ⟨_, rfl⟩
      rw [hen] at CE HM
      clear c hM hmay hdoc hm st CU C5 R5 G5 hen
      go_wp2_with (refine wpList_load_row rfl 32 _ rfl mb rfl _ _ _ _ M.out Tryz.underlying32 rfl (by kernel_rfl) ?_)
      refine Calls.mono CE.out ?_
      clear CE k2
      rintro e x1 ⟨rfl, hg⟩
      have P' := Lib.hid (P.out.kept hg)
      have M' := Lib.hid (gblock hg M.out (by simp))
      have R' := Lib.hid (gblock hg R.out (by simp))
      have G' := Lib.hid (gtrans G.out hg)
      have F' := Lib.hid (F.out.kept hg)
      clear P M R G F hg
      have P := P'
      have M := M'
      have R := R'
      have G := G'
      have F := F'
      clear P' M' R' G' F'
      have k0 : x1.cell? ⟨pb, 0, none⟩ = some (.int .i64 p) := bcellAt P.out 0
      by_cases h1 : p < s.size
      case pos =>
        have d1 : decide ((p : Int) < (s.size : Int)) = true := decide_eq_true (by omega)
        have d1' : decide (p < s.size) = true := decide_eq_true h1
        have HE := Lib.hid (HM.out.trans (if_pos (.inl h1)))
        clear h1
        have T := Lib.hid (bsetR R.out #[.int .u16 0, .bool false, .int .u8 0, .bool false, .bool false, .bool false, .bool false, .bool false, .bool false, .bool false, .int .u8 0, .slice none 0 0, .slice none 0 0, .slice none 0 0, .slice none 0 0, .bool false, .int .u16 0, .int .u8 0, .int .u8 0, .int .u16 0, .slice none 0 0])
        have G9 := Lib.hid (gsetR G.out (show w.heap.size ≤ rs from NE.out.2.2.2.2.2.2.2) #[.int .u16 0, .bool false, .int .u8 0, .bool false, .bool false, .bool false, .bool false, .bool false, .bool false, .bool false, .int .u8 0, .slice none 0 0, .slice none 0 0, .slice none 0 0, .slice none 0 0, .bool false, .int .u16 0, .int .u8 0, .int .u8 0, .int .u16 0, .slice none 0 0])
        go_wp2_with (refine wpList_store_row rfl 32 _ _ rfl rs #[.int .u16 0, .bool false, .int .u8 0, .bool false, .bool false, .bool false, .bool false, .bool false, .bool false, .bool false, .int .u8 0, .slice none 0 0, .slice none 0 0, .slice none 0 0, .slice none 0 0, .bool false, .int .u16 0, .int .u8 0, .int .u8 0, .int .u16 0, .slice none 0 0] rfl rfl 32 _ R.out (by kernel_rfl) rfl (by kernel_rfl) ?_)
        refine bodyPost_ret_by (results_cr rfl _ _ rs 32 #[.int .u16 0, .bool false, .int .u8 0, .bool false, .bool false, .bool false, .bool false, .bool false, .bool false, .bool false, .int .u8 0, .slice none 0 0, .slice none 0 0, .slice none 0 0, .slice none 0 0, .bool false, .int .u16 0, .int .u8 0, .int .u8 0, .int .u16 0, .slice none 0 0] (0, 0) _ rfl T.out Tryz.underlying32 rfl (by kernel_rfl)) rfl ?_
        exact DcPost.no HE.out G9.out rfl
      have d1 : decide ((p : Int) < (s.size : Int)) = false := decide_eq_false (by omega)
      have d1' : decide (p < s.size) = false := decide_eq_false h1
      by_cases h2 : en = 0
      case neg =>
        have d2 : ((en : Int) != 0) = true := by simp; omega
        have HE := Lib.hid (HM.out.trans (if_pos (.inr h2)))
        clear h1 h2
        have T := Lib.hid (bsetR R.out #[.int .u16 0, .bool false, .int .u8 0, .bool false, .bool false, .bool false, .bool false, .bool false, .bool false, .bool false, .int .u8 0, .slice none 0 0, .slice none 0 0, .slice none 0 0, .slice none 0 0, .bool false, .int .u16 0, .int .u8 0, .int .u8 0, .int .u16 0, .slice none 0 0])
        have G9 := Lib.hid (gsetR G.out (show w.heap.size ≤ rs from NE.out.2.2.2.2.2.2.2) #[.int .u16 0, .bool false, .int .u8 0, .bool false, .bool false, .bool false, .bool false, .bool false, .bool false, .bool false, .int .u8 0, .slice none 0 0, .slice none 0 0, .slice none 0 0, .slice none 0 0, .bool false, .int .u16 0, .int .u8 0, .int .u8 0, .int .u16 0, .slice none 0 0])
        go_wp2_with (refine wpList_store_row rfl 32 _ _ rfl rs #[.int .u16 0, .bool false, .int .u8 0, .bool false, .bool false, .bool false, .bool false, .bool false, .bool false, .bool false, .int .u8 0, .slice none 0 0, .slice none 0 0, .slice none 0 0, .slice none 0 0, .bool false, .int .u16 0, .int .u8 0, .int .u8 0, .int .u16 0, .slice none 0 0] rfl rfl 32 _ R.out (by kernel_rfl) rfl (by kernel_rfl) ?_)
        refine bodyPost_ret_by (results_cr rfl _ _ rs 32 #[.int .u16 0, .bool false, .int .u8 0, .bool false, .bool false, .bool false, .bool false, .bool false, .bool false, .bool false, .int .u8 0, .slice none 0 0, .slice none 0 0, .slice none 0 0, .slice none 0 0, .bool false, .int .u16 0, .int .u8 0, .int .u8 0, .int .u16 0, .slice none 0 0] (0, 0) _ rfl T.out Tryz.underlying32 rfl (by kernel_rfl)) rfl ?_
        exact DcPost.no HE.out G9.out rfl
      have d2 : ((en : Int) != 0) = false := by simp; omega
      have HE := Lib.hid (HM.out.trans (if_neg (by rintro (h | h) <;> contradiction)))
      clear h1 h2
      have T := Lib.hid (bsetR R.out (mrow H (.slice Aq lq.length cq) (.slice Aa an.length ca) (.slice Au au.length cu) (.slice Ax ex.length cx) d (.slice Ao d.ops.length co)))
      have gk := grow_row x1 rs (mrow H (.slice Aq lq.length cq) (.slice Aa an.length ca) (.slice Au au.length cu) (.slice Ax ex.length cx) d (.slice Ao d.ops.length co))
      have G9 := Lib.hid (gsetR G.out (show w.heap.size ≤ rs from NE.out.2.2.2.2.2.2.2) (mrow H (.slice Aq lq.length cq) (.slice Aa an.length ca) (.slice Au au.length cu) (.slice Ax ex.length cx) d (.slice Ao d.ops.length co)))
      have F9 := Lib.hid ((F.out.keptb gk LP.out.2.2.2).mono (show w.heap.size ≤ B from by have := NE.out; have := LP.out; omega))
      clear gk
      go_wp2_with (first | refine wpList_load_row rfl 32 _ rfl mb rfl _ _ _ _ M.out Tryz.underlying32 rfl (by kernel_rfl) ?_ | refine wpList_store_row rfl 32 _ _ rfl rs (mrow H (.slice Aq lq.length cq) (.slice Aa an.length ca) (.slice Au au.length cu) (.slice Ax ex.length cx) d (.slice Ao d.ops.length co)) rfl rfl 32 _ R.out (by kernel_rfl) rfl (by kernel_rfl) ?_)
      refine bodyPost_ret_by (results_cr rfl _ _ rs 32 (mrow H (.slice Aq lq.length cq) (.slice Aa an.length ca) (.slice Au au.length cu) (.slice Ax ex.length cx) d (.slice Ao d.ops.length co)) (0, 0) _ rfl T.out Tryz.underlying32 rfl (by kernel_rfl)) rfl ?_
      exact DcPost.yes HE.out G9.out (by rw [VE.out]; rfl) F9.out
theorem rdecode_any (w : World) (s : ByteArray) (hs : s.size ≤ 4000) : Calls Tryz.prog 6 #[.string s] w (DcPost s w) := by
  by_cases h : 12 ≤ s.size
  · exact rdecode_long w s h hs
  · exact rdecode_short w s (by omega)
end Go.Proofs.YtfeeeoiojaffcaaGreatDoor
