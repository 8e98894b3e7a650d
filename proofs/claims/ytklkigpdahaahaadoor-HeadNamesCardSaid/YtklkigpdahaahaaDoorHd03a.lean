/-
  Package head: From.
-/
import Derived.Test.YtklkigpdahaahaaDoorCurD
import Derived.Test.YtklkigpdahaahaaDoorHdNum
import Derived.LoopN
import Derived.Laws.Rows
namespace Go.Proofs.YtklkigpdahaahaaDoor
open Go.RowKit

/-- The table of the flags' bits lies in its variable. -/
def Bt (w : World) : Prop := ∃ t fr, w.heap[0]? = some (.cells #[.int .u16 32768, .int .u16 1024, .int .u16 512, .int .u16 256, .int .u16 128, .int .u16 64, .int .u16 32, .int .u16 16] t fr)
theorem Bt.kept {w w' : World} {row : Option Nat} (h : Bt w) (g : w.grownBy w' row) (hr : some 0 ≠ row) : Bt w' := by
  obtain ⟨t, fr, h⟩ := h
  exact ⟨t, fr, gblock g h hr⟩

/-- A header. -/
structure Hd where
  id : Nat
  qr : Bool
  op : Nat
  aa : Bool
  tc : Bool
  rd : Bool
  ra : Bool
  z : Bool
  ad : Bool
  cd : Bool
  code : Nat
def Hd.v (h : Hd) : Value := .agg #[.int .u16 h.id, .bool h.qr, .int .u8 h.op, .bool h.aa, .bool h.tc, .bool h.rd, .bool h.ra, .bool h.z, .bool h.ad, .bool h.cd, .int .u8 h.code]
def bq (n i : Nat) : Bool := decide (n / 2 ^ i % 2 = 1)
/-- The header of a number. -/
def fromN (id n : Nat) : Hd := ⟨id, bq n 15, n / 2048 % 16, bq n 10, bq n 9, bq n 8, bq n 7, bq n 6, bq n 5, bq n 4, n % 16⟩

set_option maxRecDepth 100000 in
theorem from_gen (n : Int) (b0 b1 b2 b3 b4 b5 b6 b7 : Int) (t : TypeId) (fr : Nat × Nat) (w : World) (hb : w.heap[0]? = some (.cells #[.int .u16 b0, .int .u16 b1, .int .u16 b2, .int .u16 b3, .int .u16 b4, .int .u16 b5, .int .u16 b6, .int .u16 b7] t fr)) : Calls Tryd.prog 13 #[.int .u16 n] w fun e w' => e = .returned (.agg #[.int .u16 0, .bool (bits .and .u16 n b0 != 0), .int .u8 (bits .and .u16 (n / 2048) 15 % 256), .bool (bits .and .u16 n b1 != 0), .bool (bits .and .u16 n b2 != 0), .bool (bits .and .u16 n b3 != 0), .bool (bits .and .u16 n b4 != 0), .bool (bits .and .u16 n b5 != 0), .bool (bits .and .u16 n b6 != 0), .bool (bits .and .u16 n b7 != 0), .int .u8 (bits .and .u16 n 15 % 256)]) ∧ w.grownBy w' none := by
  have HB := Lib.hid hb
  have i0 : ∀ w, (Instr.index 55 (.agg #[.int .u16 b0, .int .u16 b1, .int .u16 b2, .int .u16 b3, .int .u16 b4, .int .u16 b5, .int .u16 b6, .int .u16 b7]) (.int .i64 0)).run Tryd.prog w = .ok (.int .u16 b0) w := fun _ => by kernel_rfl
  have i1 : ∀ w, (Instr.index 55 (.agg #[.int .u16 b0, .int .u16 b1, .int .u16 b2, .int .u16 b3, .int .u16 b4, .int .u16 b5, .int .u16 b6, .int .u16 b7]) (.int .i64 1)).run Tryd.prog w = .ok (.int .u16 b1) w := fun _ => by kernel_rfl
  have i2 : ∀ w, (Instr.index 55 (.agg #[.int .u16 b0, .int .u16 b1, .int .u16 b2, .int .u16 b3, .int .u16 b4, .int .u16 b5, .int .u16 b6, .int .u16 b7]) (.int .i64 2)).run Tryd.prog w = .ok (.int .u16 b2) w := fun _ => by kernel_rfl
  have i3 : ∀ w, (Instr.index 55 (.agg #[.int .u16 b0, .int .u16 b1, .int .u16 b2, .int .u16 b3, .int .u16 b4, .int .u16 b5, .int .u16 b6, .int .u16 b7]) (.int .i64 3)).run Tryd.prog w = .ok (.int .u16 b3) w := fun _ => by kernel_rfl
  have i4 : ∀ w, (Instr.index 55 (.agg #[.int .u16 b0, .int .u16 b1, .int .u16 b2, .int .u16 b3, .int .u16 b4, .int .u16 b5, .int .u16 b6, .int .u16 b7]) (.int .i64 4)).run Tryd.prog w = .ok (.int .u16 b4) w := fun _ => by kernel_rfl
  have i5 : ∀ w, (Instr.index 55 (.agg #[.int .u16 b0, .int .u16 b1, .int .u16 b2, .int .u16 b3, .int .u16 b4, .int .u16 b5, .int .u16 b6, .int .u16 b7]) (.int .i64 5)).run Tryd.prog w = .ok (.int .u16 b5) w := fun _ => by kernel_rfl
  have i6 : ∀ w, (Instr.index 55 (.agg #[.int .u16 b0, .int .u16 b1, .int .u16 b2, .int .u16 b3, .int .u16 b4, .int .u16 b5, .int .u16 b6, .int .u16 b7]) (.int .i64 6)).run Tryd.prog w = .ok (.int .u16 b6) w := fun _ => by kernel_rfl
  have i7 : ∀ w, (Instr.index 55 (.agg #[.int .u16 b0, .int .u16 b1, .int .u16 b2, .int .u16 b3, .int .u16 b4, .int .u16 b5, .int .u16 b6, .int .u16 b7]) (.int .i64 7)).run Tryd.prog w = .ok (.int .u16 b7) w := fun _ => by kernel_rfl
  clear hb
  go_enter Tryd.func13, Tryd.ntmps13
  go_wp2_with (refine wpList_load_row rfl 55 _ rfl 0 rfl t _ fr _ (gblock (galloc (galloc (grefl _ none) _) _) HB.out (by simp)) Tryd.underlying55 rfl (by kernel_rfl) ?_)
  refine wp_loop_rounds 9 ?_
  rw [rounds_succ]
  go_wp2
  rw [rounds_succ]
  go_wp2
  rw [rounds_succ]
  go_wp2
  rw [rounds_succ]
  go_wp2
  rw [rounds_succ]
  go_wp2
  rw [rounds_succ]
  go_wp2
  rw [rounds_succ]
  go_wp2
  rw [rounds_succ]
  go_wp2
  rw [rounds_succ]
  go_wp2
  refine bodyPost_ret (results_cell_row rfl _ _ w.heap.size _ _ _ _ rfl (gblock (galloc (grefl _ none) _) (balloc w _) (by simp)) Tryd.underlying24 rfl (by kernel_rfl)) rfl ?_
  exact ⟨rfl, galloc (galloc (grefl _ none) _) _⟩

set_option maxRecDepth 100000 in
theorem from_any (n : Nat) (hn : n < 65536) (w : World) (hb : Bt w) : Calls Tryd.prog 13 #[.int .u16 n] w fun e w' => e = .returned (fromN 0 n).v ∧ w.grownBy w' none := by
  obtain ⟨t, fr, hb⟩ := hb
  refine (from_gen n _ _ _ _ _ _ _ _ t fr w hb).mono ?_
  rintro e w' ⟨rfl, hg⟩
  refine ⟨?_, hg⟩
  have a15 : (bits .and .u16 (n : Int) 32768 != 0) = bq n 15 := and_ne n 15 hn (by omega)
  have a10 : (bits .and .u16 (n : Int) 1024 != 0) = bq n 10 := and_ne n 10 hn (by omega)
  have a9 : (bits .and .u16 (n : Int) 512 != 0) = bq n 9 := and_ne n 9 hn (by omega)
  have a8 : (bits .and .u16 (n : Int) 256 != 0) = bq n 8 := and_ne n 8 hn (by omega)
  have a7 : (bits .and .u16 (n : Int) 128 != 0) = bq n 7 := and_ne n 7 hn (by omega)
  have a6 : (bits .and .u16 (n : Int) 64 != 0) = bq n 6 := and_ne n 6 hn (by omega)
  have a5 : (bits .and .u16 (n : Int) 32 != 0) = bq n 5 := and_ne n 5 hn (by omega)
  have a4 : (bits .and .u16 (n : Int) 16 != 0) = bq n 4 := and_ne n 4 hn (by omega)
  have c1 : bits .and .u16 ((n : Int) / 2048) 15 % 256 = ((n / 2048 % 16 : Nat) : Int) := by
    rw [show ((n : Int) / 2048) = ((n / 2048 : Nat) : Int) by rfl, and_low _ (by omega)]; omega
  have c2 : bits .and .u16 (n : Int) 15 % 256 = ((n % 16 : Nat) : Int) := by rw [and_low _ hn]; omega
  rw [a15, a10, a9, a8, a7, a6, a5, a4, c1, c2]
  rfl
end Go.Proofs.YtklkigpdahaahaaDoor
