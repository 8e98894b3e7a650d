/-
  Intake: awake.
-/
import Derived.Test.YtkhigfbmdolgmaaGreatDoorA25
namespace Go.Proofs.YtkhigfbmdolgmaaGreatDoor
open Go.RowKit

theorem mkz12 (w : World) : (Instr.makeSlice 46 (.int .i64 12) (.int .i64 12)).run Tryz.prog w = .ok (.slice (some ⟨w.heap.size, 0, none⟩) 12 12) (w.alloc (.cells #[.int .u8 0, .int .u8 0, .int .u8 0, .int .u8 0, .int .u8 0, .int .u8 0, .int .u8 0, .int .u8 0, .int .u8 0, .int .u8 0, .int .u8 0, .int .u8 0] 5)) := by kernel_rfl
theorem mkz9 (w : World) : (Instr.makeSlice 46 (.int .i64 9) (.int .i64 9)).run Tryz.prog w = .ok (.slice (some ⟨w.heap.size, 0, none⟩) 9 9) (w.alloc (.cells #[.int .u8 0, .int .u8 0, .int .u8 0, .int .u8 0, .int .u8 0, .int .u8 0, .int .u8 0, .int .u8 0, .int .u8 0] 5)) := by kernel_rfl
theorem mkz6 (w : World) : (Instr.makeSlice 46 (.int .i64 6) (.int .i64 6)).run Tryz.prog w = .ok (.slice (some ⟨w.heap.size, 0, none⟩) 6 6) (w.alloc (.cells #[.int .u8 0, .int .u8 0, .int .u8 0, .int .u8 0, .int .u8 0, .int .u8 0] 5)) := by kernel_rfl
theorem look_11v : (look t11).val = .agg #[.int .u8 1, .int .i64 0, .int .u16 0, .bool false, .int .u8 0, .bool false, .bool false, .bool false, .bool false, .bool false, .bool false, .bool false, .int .u8 0, .bool false, .string { data := #[] }, .int .u16 0, .int .u16 0, .bool false, .int .i64 0] := by rw [look_11]; rfl
theorem look_00v : (look t00).val = .agg #[.int .u8 2, .int .i64 1, .int .u16 0, .bool false, .int .u8 0, .bool false, .bool false, .bool false, .bool false, .bool false, .bool false, .bool false, .int .u8 0, .bool false, .string { data := #[] }, .int .u16 0, .int .u16 0, .bool false, .int .i64 0] := by rw [look_00]; rfl
theorem look_qrv : (look tqr).val = .agg #[.int .u8 1, .int .i64 0, .int .u16 0, .bool false, .int .u8 0, .bool false, .bool false, .bool false, .bool false, .bool false, .bool false, .bool false, .int .u8 0, .bool false, .string { data := #[] }, .int .u16 0, .int .u16 0, .bool false, .int .i64 0] := by rw [look_qr]; rfl
theorem look_opv : (look top).val = .agg #[.int .u8 2, .int .i64 4, .int .u16 0, .bool false, .int .u8 2, .bool false, .bool false, .bool false, .bool false, .bool false, .bool false, .bool false, .int .u8 0, .bool false, .string { data := #[] }, .int .u16 0, .int .u16 0, .bool false, .int .i64 0] := by rw [look_op]; rfl
theorem look_E1v : (look tE1).val = .agg #[.int .u8 3, .int .i64 0, .int .u16 7, .bool false, .int .u8 0, .bool false, .bool false, .bool true, .bool false, .bool false, .bool false, .bool false, .int .u8 0, .bool true, .string { data := #[2, 101, 120, 0] }, .int .u16 1, .int .u16 1, .bool false, .int .i64 0] := by rw [look_E1]; rfl
theorem look_E3v : (look tE3).val = .agg #[.int .u8 2, .int .i64 5, .int .u16 7, .bool false, .int .u8 0, .bool false, .bool false, .bool true, .bool false, .bool false, .bool false, .bool false, .int .u8 0, .bool true, .string { data := #[2, 101, 120, 0] }, .int .u16 1, .int .u16 3, .bool false, .int .i64 0] := by rw [look_E3]; rfl
theorem awake25_z3 : ((⟨#[0, 0, 128]⟩ : ByteArray) ++ ⟨#[0, 0, 0, 0, 0, 0, 0, 0, 0]⟩) = tqr := by decide +kernel
theorem awake25_z4 : ((⟨#[0, 0, 16]⟩ : ByteArray) ++ ⟨#[0, 0, 0, 0, 0, 0, 0, 0, 0]⟩) = top := by decide +kernel
theorem awake25_z5 : ((⟨#[0, 7, 1, 0, 0, 1]⟩ : ByteArray) ++ ⟨#[0, 0, 0, 0, 0, 0]⟩ ++ ⟨#[2, 101, 120, 0, 0, 1, 0, 1]⟩) = tE1 := by decide +kernel
theorem awake25_z6 : ((⟨#[0, 7, 1, 0, 0, 1]⟩ : ByteArray) ++ ⟨#[0, 0, 0, 0, 0, 0]⟩ ++ ⟨#[2, 101, 120, 0, 0, 1, 0, 3]⟩) = tE3 := by decide +kernel
set_option maxRecDepth 100000 in
set_option maxHeartbeats 8000000 in
theorem awake25_any (w : World) (he : Et w) (hb : Bt w) : Calls Tryz.prog 4 #[] w fun e w' => e = .returned (.bool true) ∧ w.grownBy w' none := by
  have HE := Lib.hid he
  have HB := Lib.hid hb
  clear he hb
  have G := Lib.hid (grefl w none)
  have EW := Lib.hid (fun (w' : World) (g : w.grownBy w' none) (s : ByteArray) (hs : s.size ≤ maxLen) => look_any w' s (HE.out.kept g (by simp)) (HB.out.kept g (by simp)) hs)
  clear HE HB
  go_enter Tryz.func4, Tryz.ntmps4
  go_wp2_with fail
  have CX := EW.out w G.out t11 (by decide)
  rw [look_11v] at CX
  refine Calls.mono CX ?_
  clear CX
  rintro e v0 ⟨rfl, hg⟩
  have hk : v0.grownBy ((v0.alloc (.cells #[.int .u8 0, .int .i64 0, .int .u16 0, .bool false, .int .u8 0, .bool false, .bool false, .bool false, .bool false, .bool false, .bool false, .bool false, .int .u8 0, .bool false, .string { data := #[] }, .int .u16 0, .int .u16 0, .bool false, .int .i64 0] 40)).setRow v0.heap.size #[.int .u8 1, .int .i64 0, .int .u16 0, .bool false, .int .u8 0, .bool false, .bool false, .bool false, .bool false, .bool false, .bool false, .bool false, .int .u8 0, .bool false, .string { data := #[] }, .int .u16 0, .int .u16 0, .bool false, .int .i64 0]) none := gsetR (galloc (grefl _ none) _) (Nat.le_refl _) _
  have G := Lib.hid (gtrans (gtrans G.out hg) hk)
  have A := Lib.hid (balloc v0 (.cells #[.int .u8 0, .int .i64 0, .int .u16 0, .bool false, .int .u8 0, .bool false, .bool false, .bool false, .bool false, .bool false, .bool false, .bool false, .int .u8 0, .bool false, .string { data := #[] }, .int .u16 0, .int .u16 0, .bool false, .int .i64 0] 40))
  have HR0 := Lib.hid (bsetR A.out #[.int .u8 1, .int .i64 0, .int .u16 0, .bool false, .int .u8 0, .bool false, .bool false, .bool false, .bool false, .bool false, .bool false, .bool false, .int .u8 0, .bool false, .string { data := #[] }, .int .u16 0, .int .u16 0, .bool false, .int .i64 0])
  clear hg hk
  go_upto_region 2 with (refine wpList_store_row rfl 40 _ _ rfl v0.heap.size #[.int .u8 1, .int .i64 0, .int .u16 0, .bool false, .int .u8 0, .bool false, .bool false, .bool false, .bool false, .bool false, .bool false, .bool false, .int .u8 0, .bool false, .string { data := #[] }, .int .u16 0, .int .u16 0, .bool false, .int .i64 0] rfl rfl 40 _ A.out (by kernel_rfl) rfl (by kernel_rfl) ?_)
  clear A
  generalize ((v0.alloc (.cells #[.int .u8 0, .int .i64 0, .int .u16 0, .bool false, .int .u8 0, .bool false, .bool false, .bool false, .bool false, .bool false, .bool false, .bool false, .int .u8 0, .bool false, .string { data := #[] }, .int .u16 0, .int .u16 0, .bool false, .int .i64 0] 40)).setRow v0.heap.size #[.int .u8 1, .int .i64 0, .int .u16 0, .bool false, .int .u8 0, .bool false, .bool false, .bool false, .bool false, .bool false, .bool false, .bool false, .int .u8 0, .bool false, .string { data := #[] }, .int .u16 0, .int .u16 0, .bool false, .int .i64 0]) = w1 at *
  generalize v0.heap.size = b0 at *
  have cv := cvs (sl_new w1 5 [0, 0, 0, 0, 0, 0, 0, 0, 0, 0, 0, 0] #[.int .u8 0, .int .u8 0, .int .u8 0, .int .u8 0, .int .u8 0, .int .u8 0, .int .u8 0, .int .u8 0, .int .u8 0, .int .u8 0, .int .u8 0, .int .u8 0] 12 rfl rfl)
  rw [show (ByteArray.mk [0, 0, 0, 0, 0, 0, 0, 0, 0, 0, 0, 0].toArray) = (⟨#[0, 0, 0, 0, 0, 0, 0, 0, 0, 0, 0, 0]⟩ : ByteArray) from rfl] at cv
  have mk := mkz12 w1
  go_wp2_with fail
  clear cv mk
  have HR0 := Lib.hid (gblock (galloc (grefl w1 none) (.cells #[.int .u8 0, .int .u8 0, .int .u8 0, .int .u8 0, .int .u8 0, .int .u8 0, .int .u8 0, .int .u8 0, .int .u8 0, .int .u8 0, .int .u8 0, .int .u8 0] 5)) HR0.out (by simp))
  have G := Lib.hid (galloc G.out (.cells #[.int .u8 0, .int .u8 0, .int .u8 0, .int .u8 0, .int .u8 0, .int .u8 0, .int .u8 0, .int .u8 0, .int .u8 0, .int .u8 0, .int .u8 0, .int .u8 0] 5))
  generalize (w1.alloc (.cells #[.int .u8 0, .int .u8 0, .int .u8 0, .int .u8 0, .int .u8 0, .int .u8 0, .int .u8 0, .int .u8 0, .int .u8 0, .int .u8 0, .int .u8 0, .int .u8 0] 5)) = u1 at *
  have CX := EW.out u1 G.out t00 (by decide)
  rw [look_00v] at CX
  refine Calls.mono CX ?_
  clear CX
  rintro e v1 ⟨rfl, hg⟩
  have hk : v1.grownBy ((v1.alloc (.cells #[.int .u8 0, .int .i64 0, .int .u16 0, .bool false, .int .u8 0, .bool false, .bool false, .bool false, .bool false, .bool false, .bool false, .bool false, .int .u8 0, .bool false, .string { data := #[] }, .int .u16 0, .int .u16 0, .bool false, .int .i64 0] 40)).setRow v1.heap.size #[.int .u8 2, .int .i64 1, .int .u16 0, .bool false, .int .u8 0, .bool false, .bool false, .bool false, .bool false, .bool false, .bool false, .bool false, .int .u8 0, .bool false, .string { data := #[] }, .int .u16 0, .int .u16 0, .bool false, .int .i64 0]) none := gsetR (galloc (grefl _ none) _) (Nat.le_refl _) _
  have HR0 := Lib.hid (gblock hk (gblock hg HR0.out (by simp)) (by simp))
  have G := Lib.hid (gtrans (gtrans G.out hg) hk)
  have A := Lib.hid (balloc v1 (.cells #[.int .u8 0, .int .i64 0, .int .u16 0, .bool false, .int .u8 0, .bool false, .bool false, .bool false, .bool false, .bool false, .bool false, .bool false, .int .u8 0, .bool false, .string { data := #[] }, .int .u16 0, .int .u16 0, .bool false, .int .i64 0] 40))
  have HR1 := Lib.hid (bsetR A.out #[.int .u8 2, .int .i64 1, .int .u16 0, .bool false, .int .u8 0, .bool false, .bool false, .bool false, .bool false, .bool false, .bool false, .bool false, .int .u8 0, .bool false, .string { data := #[] }, .int .u16 0, .int .u16 0, .bool false, .int .i64 0])
  clear hg hk
  go_upto_region 3 with (refine wpList_store_row rfl 40 _ _ rfl v1.heap.size #[.int .u8 2, .int .i64 1, .int .u16 0, .bool false, .int .u8 0, .bool false, .bool false, .bool false, .bool false, .bool false, .bool false, .bool false, .int .u8 0, .bool false, .string { data := #[] }, .int .u16 0, .int .u16 0, .bool false, .int .i64 0] rfl rfl 40 _ A.out (by kernel_rfl) rfl (by kernel_rfl) ?_)
  clear A
  generalize ((v1.alloc (.cells #[.int .u8 0, .int .i64 0, .int .u16 0, .bool false, .int .u8 0, .bool false, .bool false, .bool false, .bool false, .bool false, .bool false, .bool false, .int .u8 0, .bool false, .string { data := #[] }, .int .u16 0, .int .u16 0, .bool false, .int .i64 0] 40)).setRow v1.heap.size #[.int .u8 2, .int .i64 1, .int .u16 0, .bool false, .int .u8 0, .bool false, .bool false, .bool false, .bool false, .bool false, .bool false, .bool false, .int .u8 0, .bool false, .string { data := #[] }, .int .u16 0, .int .u16 0, .bool false, .int .i64 0]) = w2 at *
  generalize v1.heap.size = b1 at *
  have cv := cvs (sl_new w2 5 [0, 0, 0, 0, 0, 0, 0, 0, 0] #[.int .u8 0, .int .u8 0, .int .u8 0, .int .u8 0, .int .u8 0, .int .u8 0, .int .u8 0, .int .u8 0, .int .u8 0] 9 rfl rfl)
  rw [show (ByteArray.mk [0, 0, 0, 0, 0, 0, 0, 0, 0].toArray) = (⟨#[0, 0, 0, 0, 0, 0, 0, 0, 0]⟩ : ByteArray) from rfl] at cv
  have mk := mkz9 w2
  have z := awake25_z3
  go_wp2_with fail
  clear cv mk z
  have HR0 := Lib.hid (gblock (galloc (grefl w2 none) (.cells #[.int .u8 0, .int .u8 0, .int .u8 0, .int .u8 0, .int .u8 0, .int .u8 0, .int .u8 0, .int .u8 0, .int .u8 0] 5)) HR0.out (by simp))
  have HR1 := Lib.hid (gblock (galloc (grefl w2 none) (.cells #[.int .u8 0, .int .u8 0, .int .u8 0, .int .u8 0, .int .u8 0, .int .u8 0, .int .u8 0, .int .u8 0, .int .u8 0] 5)) HR1.out (by simp))
  have G := Lib.hid (galloc G.out (.cells #[.int .u8 0, .int .u8 0, .int .u8 0, .int .u8 0, .int .u8 0, .int .u8 0, .int .u8 0, .int .u8 0, .int .u8 0] 5))
  generalize (w2.alloc (.cells #[.int .u8 0, .int .u8 0, .int .u8 0, .int .u8 0, .int .u8 0, .int .u8 0, .int .u8 0, .int .u8 0, .int .u8 0] 5)) = u2 at *
  have CX := EW.out u2 G.out tqr (by decide)
  rw [look_qrv] at CX
  refine Calls.mono CX ?_
  clear CX
  rintro e v2 ⟨rfl, hg⟩
  have hk : v2.grownBy ((v2.alloc (.cells #[.int .u8 0, .int .i64 0, .int .u16 0, .bool false, .int .u8 0, .bool false, .bool false, .bool false, .bool false, .bool false, .bool false, .bool false, .int .u8 0, .bool false, .string { data := #[] }, .int .u16 0, .int .u16 0, .bool false, .int .i64 0] 40)).setRow v2.heap.size #[.int .u8 1, .int .i64 0, .int .u16 0, .bool false, .int .u8 0, .bool false, .bool false, .bool false, .bool false, .bool false, .bool false, .bool false, .int .u8 0, .bool false, .string { data := #[] }, .int .u16 0, .int .u16 0, .bool false, .int .i64 0]) none := gsetR (galloc (grefl _ none) _) (Nat.le_refl _) _
  have HR0 := Lib.hid (gblock hk (gblock hg HR0.out (by simp)) (by simp))
  have HR1 := Lib.hid (gblock hk (gblock hg HR1.out (by simp)) (by simp))
  have G := Lib.hid (gtrans (gtrans G.out hg) hk)
  have A := Lib.hid (balloc v2 (.cells #[.int .u8 0, .int .i64 0, .int .u16 0, .bool false, .int .u8 0, .bool false, .bool false, .bool false, .bool false, .bool false, .bool false, .bool false, .int .u8 0, .bool false, .string { data := #[] }, .int .u16 0, .int .u16 0, .bool false, .int .i64 0] 40))
  have HR2 := Lib.hid (bsetR A.out #[.int .u8 1, .int .i64 0, .int .u16 0, .bool false, .int .u8 0, .bool false, .bool false, .bool false, .bool false, .bool false, .bool false, .bool false, .int .u8 0, .bool false, .string { data := #[] }, .int .u16 0, .int .u16 0, .bool false, .int .i64 0])
  clear hg hk
  go_upto_region 4 with (refine wpList_store_row rfl 40 _ _ rfl v2.heap.size #[.int .u8 1, .int .i64 0, .int .u16 0, .bool false, .int .u8 0, .bool false, .bool false, .bool false, .bool false, .bool false, .bool false, .bool false, .int .u8 0, .bool false, .string { data := #[] }, .int .u16 0, .int .u16 0, .bool false, .int .i64 0] rfl rfl 40 _ A.out (by kernel_rfl) rfl (by kernel_rfl) ?_)
  clear A
  generalize ((v2.alloc (.cells #[.int .u8 0, .int .i64 0, .int .u16 0, .bool false, .int .u8 0, .bool false, .bool false, .bool false, .bool false, .bool false, .bool false, .bool false, .int .u8 0, .bool false, .string { data := #[] }, .int .u16 0, .int .u16 0, .bool false, .int .i64 0] 40)).setRow v2.heap.size #[.int .u8 1, .int .i64 0, .int .u16 0, .bool false, .int .u8 0, .bool false, .bool false, .bool false, .bool false, .bool false, .bool false, .bool false, .int .u8 0, .bool false, .string { data := #[] }, .int .u16 0, .int .u16 0, .bool false, .int .i64 0]) = w3 at *
  generalize v2.heap.size = b2 at *
  have cv := cvs (sl_new w3 5 [0, 0, 0, 0, 0, 0, 0, 0, 0] #[.int .u8 0, .int .u8 0, .int .u8 0, .int .u8 0, .int .u8 0, .int .u8 0, .int .u8 0, .int .u8 0, .int .u8 0] 9 rfl rfl)
  rw [show (ByteArray.mk [0, 0, 0, 0, 0, 0, 0, 0, 0].toArray) = (⟨#[0, 0, 0, 0, 0, 0, 0, 0, 0]⟩ : ByteArray) from rfl] at cv
  have mk := mkz9 w3
  have z := awake25_z4
  go_wp2_with fail
  clear cv mk z
  have HR0 := Lib.hid (gblock (galloc (grefl w3 none) (.cells #[.int .u8 0, .int .u8 0, .int .u8 0, .int .u8 0, .int .u8 0, .int .u8 0, .int .u8 0, .int .u8 0, .int .u8 0] 5)) HR0.out (by simp))
  have HR1 := Lib.hid (gblock (galloc (grefl w3 none) (.cells #[.int .u8 0, .int .u8 0, .int .u8 0, .int .u8 0, .int .u8 0, .int .u8 0, .int .u8 0, .int .u8 0, .int .u8 0] 5)) HR1.out (by simp))
  have HR2 := Lib.hid (gblock (galloc (grefl w3 none) (.cells #[.int .u8 0, .int .u8 0, .int .u8 0, .int .u8 0, .int .u8 0, .int .u8 0, .int .u8 0, .int .u8 0, .int .u8 0] 5)) HR2.out (by simp))
  have G := Lib.hid (galloc G.out (.cells #[.int .u8 0, .int .u8 0, .int .u8 0, .int .u8 0, .int .u8 0, .int .u8 0, .int .u8 0, .int .u8 0, .int .u8 0] 5))
  generalize (w3.alloc (.cells #[.int .u8 0, .int .u8 0, .int .u8 0, .int .u8 0, .int .u8 0, .int .u8 0, .int .u8 0, .int .u8 0, .int .u8 0] 5)) = u3 at *
  have CX := EW.out u3 G.out top (by decide)
  rw [look_opv] at CX
  refine Calls.mono CX ?_
  clear CX
  rintro e v3 ⟨rfl, hg⟩
  have hk : v3.grownBy ((v3.alloc (.cells #[.int .u8 0, .int .i64 0, .int .u16 0, .bool false, .int .u8 0, .bool false, .bool false, .bool false, .bool false, .bool false, .bool false, .bool false, .int .u8 0, .bool false, .string { data := #[] }, .int .u16 0, .int .u16 0, .bool false, .int .i64 0] 40)).setRow v3.heap.size #[.int .u8 2, .int .i64 4, .int .u16 0, .bool false, .int .u8 2, .bool false, .bool false, .bool false, .bool false, .bool false, .bool false, .bool false, .int .u8 0, .bool false, .string { data := #[] }, .int .u16 0, .int .u16 0, .bool false, .int .i64 0]) none := gsetR (galloc (grefl _ none) _) (Nat.le_refl _) _
  have HR0 := Lib.hid (gblock hk (gblock hg HR0.out (by simp)) (by simp))
  have HR1 := Lib.hid (gblock hk (gblock hg HR1.out (by simp)) (by simp))
  have HR2 := Lib.hid (gblock hk (gblock hg HR2.out (by simp)) (by simp))
  have G := Lib.hid (gtrans (gtrans G.out hg) hk)
  have A := Lib.hid (balloc v3 (.cells #[.int .u8 0, .int .i64 0, .int .u16 0, .bool false, .int .u8 0, .bool false, .bool false, .bool false, .bool false, .bool false, .bool false, .bool false, .int .u8 0, .bool false, .string { data := #[] }, .int .u16 0, .int .u16 0, .bool false, .int .i64 0] 40))
  have HR3 := Lib.hid (bsetR A.out #[.int .u8 2, .int .i64 4, .int .u16 0, .bool false, .int .u8 2, .bool false, .bool false, .bool false, .bool false, .bool false, .bool false, .bool false, .int .u8 0, .bool false, .string { data := #[] }, .int .u16 0, .int .u16 0, .bool false, .int .i64 0])
  clear hg hk
  go_upto_region 5 with (refine wpList_store_row rfl 40 _ _ rfl v3.heap.size #[.int .u8 2, .int .i64 4, .int .u16 0, .bool false, .int .u8 2, .bool false, .bool false, .bool false, .bool false, .bool false, .bool false, .bool false, .int .u8 0, .bool false, .string { data := #[] }, .int .u16 0, .int .u16 0, .bool false, .int .i64 0] rfl rfl 40 _ A.out (by kernel_rfl) rfl (by kernel_rfl) ?_)
  clear A
  generalize ((v3.alloc (.cells #[.int .u8 0, .int .i64 0, .int .u16 0, .bool false, .int .u8 0, .bool false, .bool false, .bool false, .bool false, .bool false, .bool false, .bool false, .int .u8 0, .bool false, .string { data := #[] }, .int .u16 0, .int .u16 0, .bool false, .int .i64 0] 40)).setRow v3.heap.size #[.int .u8 2, .int .i64 4, .int .u16 0, .bool false, .int .u8 2, .bool false, .bool false, .bool false, .bool false, .bool false, .bool false, .bool false, .int .u8 0, .bool false, .string { data := #[] }, .int .u16 0, .int .u16 0, .bool false, .int .i64 0]) = w4 at *
  generalize v3.heap.size = b3 at *
  have cv := cvs (sl_new w4 5 [0, 0, 0, 0, 0, 0] #[.int .u8 0, .int .u8 0, .int .u8 0, .int .u8 0, .int .u8 0, .int .u8 0] 6 rfl rfl)
  rw [show (ByteArray.mk [0, 0, 0, 0, 0, 0].toArray) = (⟨#[0, 0, 0, 0, 0, 0]⟩ : ByteArray) from rfl] at cv
  have mk := mkz6 w4
  have z := awake25_z5
  go_wp2_with fail
  clear cv mk z
  have HR0 := Lib.hid (gblock (galloc (grefl w4 none) (.cells #[.int .u8 0, .int .u8 0, .int .u8 0, .int .u8 0, .int .u8 0, .int .u8 0] 5)) HR0.out (by simp))
  have HR1 := Lib.hid (gblock (galloc (grefl w4 none) (.cells #[.int .u8 0, .int .u8 0, .int .u8 0, .int .u8 0, .int .u8 0, .int .u8 0] 5)) HR1.out (by simp))
  have HR2 := Lib.hid (gblock (galloc (grefl w4 none) (.cells #[.int .u8 0, .int .u8 0, .int .u8 0, .int .u8 0, .int .u8 0, .int .u8 0] 5)) HR2.out (by simp))
  have HR3 := Lib.hid (gblock (galloc (grefl w4 none) (.cells #[.int .u8 0, .int .u8 0, .int .u8 0, .int .u8 0, .int .u8 0, .int .u8 0] 5)) HR3.out (by simp))
  have G := Lib.hid (galloc G.out (.cells #[.int .u8 0, .int .u8 0, .int .u8 0, .int .u8 0, .int .u8 0, .int .u8 0] 5))
  generalize (w4.alloc (.cells #[.int .u8 0, .int .u8 0, .int .u8 0, .int .u8 0, .int .u8 0, .int .u8 0] 5)) = u4 at *
  have CX := EW.out u4 G.out tE1 (by decide)
  rw [look_E1v] at CX
  refine Calls.mono CX ?_
  clear CX
  rintro e v4 ⟨rfl, hg⟩
  have hk : v4.grownBy ((v4.alloc (.cells #[.int .u8 0, .int .i64 0, .int .u16 0, .bool false, .int .u8 0, .bool false, .bool false, .bool false, .bool false, .bool false, .bool false, .bool false, .int .u8 0, .bool false, .string { data := #[] }, .int .u16 0, .int .u16 0, .bool false, .int .i64 0] 40)).setRow v4.heap.size #[.int .u8 3, .int .i64 0, .int .u16 7, .bool false, .int .u8 0, .bool false, .bool false, .bool true, .bool false, .bool false, .bool false, .bool false, .int .u8 0, .bool true, .string { data := #[2, 101, 120, 0] }, .int .u16 1, .int .u16 1, .bool false, .int .i64 0]) none := gsetR (galloc (grefl _ none) _) (Nat.le_refl _) _
  have HR0 := Lib.hid (gblock hk (gblock hg HR0.out (by simp)) (by simp))
  have HR1 := Lib.hid (gblock hk (gblock hg HR1.out (by simp)) (by simp))
  have HR2 := Lib.hid (gblock hk (gblock hg HR2.out (by simp)) (by simp))
  have HR3 := Lib.hid (gblock hk (gblock hg HR3.out (by simp)) (by simp))
  have G := Lib.hid (gtrans (gtrans G.out hg) hk)
  have A := Lib.hid (balloc v4 (.cells #[.int .u8 0, .int .i64 0, .int .u16 0, .bool false, .int .u8 0, .bool false, .bool false, .bool false, .bool false, .bool false, .bool false, .bool false, .int .u8 0, .bool false, .string { data := #[] }, .int .u16 0, .int .u16 0, .bool false, .int .i64 0] 40))
  have HR4 := Lib.hid (bsetR A.out #[.int .u8 3, .int .i64 0, .int .u16 7, .bool false, .int .u8 0, .bool false, .bool false, .bool true, .bool false, .bool false, .bool false, .bool false, .int .u8 0, .bool true, .string { data := #[2, 101, 120, 0] }, .int .u16 1, .int .u16 1, .bool false, .int .i64 0])
  clear hg hk
  go_upto_region 6 with (refine wpList_store_row rfl 40 _ _ rfl v4.heap.size #[.int .u8 3, .int .i64 0, .int .u16 7, .bool false, .int .u8 0, .bool false, .bool false, .bool true, .bool false, .bool false, .bool false, .bool false, .int .u8 0, .bool true, .string { data := #[2, 101, 120, 0] }, .int .u16 1, .int .u16 1, .bool false, .int .i64 0] rfl rfl 40 _ A.out (by kernel_rfl) rfl (by kernel_rfl) ?_)
  clear A
  generalize ((v4.alloc (.cells #[.int .u8 0, .int .i64 0, .int .u16 0, .bool false, .int .u8 0, .bool false, .bool false, .bool false, .bool false, .bool false, .bool false, .bool false, .int .u8 0, .bool false, .string { data := #[] }, .int .u16 0, .int .u16 0, .bool false, .int .i64 0] 40)).setRow v4.heap.size #[.int .u8 3, .int .i64 0, .int .u16 7, .bool false, .int .u8 0, .bool false, .bool false, .bool true, .bool false, .bool false, .bool false, .bool false, .int .u8 0, .bool true, .string { data := #[2, 101, 120, 0] }, .int .u16 1, .int .u16 1, .bool false, .int .i64 0]) = w5 at *
  generalize v4.heap.size = b4 at *
  have cv := cvs (sl_new w5 5 [0, 0, 0, 0, 0, 0] #[.int .u8 0, .int .u8 0, .int .u8 0, .int .u8 0, .int .u8 0, .int .u8 0] 6 rfl rfl)
  rw [show (ByteArray.mk [0, 0, 0, 0, 0, 0].toArray) = (⟨#[0, 0, 0, 0, 0, 0]⟩ : ByteArray) from rfl] at cv
  have mk := mkz6 w5
  have z := awake25_z6
  go_wp2_with fail
  clear cv mk z
  have HR0 := Lib.hid (gblock (galloc (grefl w5 none) (.cells #[.int .u8 0, .int .u8 0, .int .u8 0, .int .u8 0, .int .u8 0, .int .u8 0] 5)) HR0.out (by simp))
  have HR1 := Lib.hid (gblock (galloc (grefl w5 none) (.cells #[.int .u8 0, .int .u8 0, .int .u8 0, .int .u8 0, .int .u8 0, .int .u8 0] 5)) HR1.out (by simp))
  have HR2 := Lib.hid (gblock (galloc (grefl w5 none) (.cells #[.int .u8 0, .int .u8 0, .int .u8 0, .int .u8 0, .int .u8 0, .int .u8 0] 5)) HR2.out (by simp))
  have HR3 := Lib.hid (gblock (galloc (grefl w5 none) (.cells #[.int .u8 0, .int .u8 0, .int .u8 0, .int .u8 0, .int .u8 0, .int .u8 0] 5)) HR3.out (by simp))
  have HR4 := Lib.hid (gblock (galloc (grefl w5 none) (.cells #[.int .u8 0, .int .u8 0, .int .u8 0, .int .u8 0, .int .u8 0, .int .u8 0] 5)) HR4.out (by simp))
  have G := Lib.hid (galloc G.out (.cells #[.int .u8 0, .int .u8 0, .int .u8 0, .int .u8 0, .int .u8 0, .int .u8 0] 5))
  generalize (w5.alloc (.cells #[.int .u8 0, .int .u8 0, .int .u8 0, .int .u8 0, .int .u8 0, .int .u8 0] 5)) = u5 at *
  have CX := EW.out u5 G.out tE3 (by decide)
  rw [look_E3v] at CX
  refine Calls.mono CX ?_
  clear CX
  rintro e v5 ⟨rfl, hg⟩
  have hk : v5.grownBy ((v5.alloc (.cells #[.int .u8 0, .int .i64 0, .int .u16 0, .bool false, .int .u8 0, .bool false, .bool false, .bool false, .bool false, .bool false, .bool false, .bool false, .int .u8 0, .bool false, .string { data := #[] }, .int .u16 0, .int .u16 0, .bool false, .int .i64 0] 40)).setRow v5.heap.size #[.int .u8 2, .int .i64 5, .int .u16 7, .bool false, .int .u8 0, .bool false, .bool false, .bool true, .bool false, .bool false, .bool false, .bool false, .int .u8 0, .bool true, .string { data := #[2, 101, 120, 0] }, .int .u16 1, .int .u16 3, .bool false, .int .i64 0]) none := gsetR (galloc (grefl _ none) _) (Nat.le_refl _) _
  have HR0 := Lib.hid (gblock hk (gblock hg HR0.out (by simp)) (by simp))
  have HR1 := Lib.hid (gblock hk (gblock hg HR1.out (by simp)) (by simp))
  have HR2 := Lib.hid (gblock hk (gblock hg HR2.out (by simp)) (by simp))
  have HR3 := Lib.hid (gblock hk (gblock hg HR3.out (by simp)) (by simp))
  have HR4 := Lib.hid (gblock hk (gblock hg HR4.out (by simp)) (by simp))
  have G := Lib.hid (gtrans (gtrans G.out hg) hk)
  have A := Lib.hid (balloc v5 (.cells #[.int .u8 0, .int .i64 0, .int .u16 0, .bool false, .int .u8 0, .bool false, .bool false, .bool false, .bool false, .bool false, .bool false, .bool false, .int .u8 0, .bool false, .string { data := #[] }, .int .u16 0, .int .u16 0, .bool false, .int .i64 0] 40))
  have HR5 := Lib.hid (bsetR A.out #[.int .u8 2, .int .i64 5, .int .u16 7, .bool false, .int .u8 0, .bool false, .bool false, .bool true, .bool false, .bool false, .bool false, .bool false, .int .u8 0, .bool true, .string { data := #[2, 101, 120, 0] }, .int .u16 1, .int .u16 3, .bool false, .int .i64 0])
  clear hg hk
  go_upto_region 7 with (refine wpList_store_row rfl 40 _ _ rfl v5.heap.size #[.int .u8 2, .int .i64 5, .int .u16 7, .bool false, .int .u8 0, .bool false, .bool false, .bool true, .bool false, .bool false, .bool false, .bool false, .int .u8 0, .bool true, .string { data := #[2, 101, 120, 0] }, .int .u16 1, .int .u16 3, .bool false, .int .i64 0] rfl rfl 40 _ A.out (by kernel_rfl) rfl (by kernel_rfl) ?_)
  clear A
  generalize ((v5.alloc (.cells #[.int .u8 0, .int .i64 0, .int .u16 0, .bool false, .int .u8 0, .bool false, .bool false, .bool false, .bool false, .bool false, .bool false, .bool false, .int .u8 0, .bool false, .string { data := #[] }, .int .u16 0, .int .u16 0, .bool false, .int .i64 0] 40)).setRow v5.heap.size #[.int .u8 2, .int .i64 5, .int .u16 7, .bool false, .int .u8 0, .bool false, .bool false, .bool true, .bool false, .bool false, .bool false, .bool false, .int .u8 0, .bool true, .string { data := #[2, 101, 120, 0] }, .int .u16 1, .int .u16 3, .bool false, .int .i64 0]) = w6 at *
  generalize v5.heap.size = b5 at *
  have d00 := bcellAt HR0.out 0
  have d10 := bcellAt HR1.out 0
  have d11 := bcellAt HR1.out 1
  have d20 := bcellAt HR2.out 0
  have d30 := bcellAt HR3.out 0
  have d31 := bcellAt HR3.out 1
  have d50 := bcellAt HR5.out 0
  have d51 := bcellAt HR5.out 1
  go_wp2_with (refine wpList_load_rowG rfl 40 _ rfl b4 rfl _ _ _ _ HR4.out Tryz.underlying40 rfl (by kernel_rfl) ?_)
  refine Calls.mono (room_any _ ⟨0, 0, hd0, false, q0, true, 4000⟩ 1232) ?_
  rintro e wz ⟨rfl, hg⟩
  rw [show room ⟨0, 0, hd0, false, q0, true, 4000⟩ 1232 = 1232 from by decide]
  have G := Lib.hid (gtrans G.out hg)
  clear hg
  go_wp2_with fail
  refine bodyPost_ret (v := .bool true) (by kernel_rfl) rfl ⟨rfl, G.out⟩
end Go.Proofs.YtkhigfbmdolgmaaGreatDoor
