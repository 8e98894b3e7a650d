/-
  Plain numbers of a header's flags.
  Package head: From.
  Package head: Flags.
  Package head: Flags as a sum; back and forth.
  Package head: Read.
  Package head: Write.
-/
import Derived.Test.YthgendgmlpaglaaDoorA1
import Derived.Test.YthgendgmlpaglaaDoorA2
import Derived.LoopN
import Derived.Laws.Rows
import Derived.Laws.Tables
import Derived.Deep.RegionHeld3
namespace Go.Proofs.YthgendgmlpaglaaDoor

theorem and_bit (n i : Nat) (hn : n < 65536) (hi : i < 16) : bits .and .u16 (n : Int) ((2 ^ i : Nat) : Int) = (((if n / 2 ^ i % 2 = 1 then 2 ^ i else 0 : Nat) : Nat) : Int) := by
  have : 2 ^ i < 65536 := Nat.lt_of_lt_of_le (Nat.pow_lt_pow_right (by omega) hi) (by decide)
  rw [u16_and_nat _ _ hn this, nat_bit]
  by_cases h : n / 2 ^ i % 2 = 1
  · simp [h]
  · have h' : n / 2 ^ i % 2 = 0 := by omega
    simp [h']
theorem and_low (n : Nat) (hn : n < 65536) : bits .and .u16 (n : Int) 15 = ((n % 16 : Nat) : Int) := by
  rw [show (15 : Int) = ((15 : Nat) : Int) by rfl, u16_and_nat _ _ hn (by omega), show (15 : Nat) = 2 ^ 4 - 1 by rfl, Nat.and_two_pow_sub_one_eq_mod]
theorem and_ne (n i : Nat) (hn : n < 65536) (hi : i < 16) : (bits .and .u16 (n : Int) ((2 ^ i : Nat) : Int) != 0) = decide (n / 2 ^ i % 2 = 1) := by
  rw [and_bit n i hn hi]
  have h0 : 2 ^ i ≠ 0 := Nat.ne_of_gt (Nat.two_pow_pos i)
  by_cases h : n / 2 ^ i % 2 = 1
  · simp only [h, if_true, decide_true]
    exact bne_iff_ne.2 (fun e => h0 (Int.ofNat.inj e))
  · simp [h]
theorem or_bit (x i : Nat) (hx : x < 65536) (hi : i < 16) (h : x / 2 ^ i % 2 = 0) : bits .or .u16 (x : Int) ((2 ^ i : Nat) : Int) = ((x + 2 ^ i : Nat) : Int) := by
  have : 2 ^ i < 65536 := Nat.lt_of_lt_of_le (Nat.pow_lt_pow_right (by omega) hi) (by decide)
  rw [u16_or_nat _ _ hx this]
  have e : x ||| 2 ^ i = x + 2 ^ i := by
    apply Nat.eq_of_testBit_eq
    intro j
    rw [Nat.testBit_or, Nat.testBit_two_pow]
    by_cases hj : i = j
    · subst hj
      simp only [decide_true, Bool.or_true]
      rw [Nat.testBit_eq_decide_div_mod_eq, Nat.add_div_right _ (Nat.two_pow_pos i)]
      simp; omega
    · simp only [hj, decide_false, Bool.or_false]
      rcases Nat.lt_or_gt_of_ne hj with hlt | hgt
      · rw [Nat.testBit_eq_decide_div_mod_eq, Nat.testBit_eq_decide_div_mod_eq]
        have e1 : x = 2 ^ (i + 1) * (x / 2 ^ (i + 1)) + x % 2 ^ (i + 1) := (Nat.div_add_mod ..).symm
        obtain ⟨d, rfl⟩ : ∃ d, j = i + 1 + d := ⟨j - i - 1, by omega⟩
        have p0 := Nat.two_pow_pos (i + 1)
        have q1 : x % 2 ^ (i + 1) + 2 ^ i < 2 ^ (i + 1) := by
          have hp : 2 ^ (i + 1) = 2 ^ i * 2 := Nat.pow_succ ..
          have hm : x % 2 ^ (i + 1) = 2 ^ i * (x / 2 ^ i % 2) + x % 2 ^ i := by rw [hp, Nat.mod_mul]; omega
          rw [h] at hm
          have := Nat.mod_lt x (Nat.two_pow_pos i)
          omega
        have q2 : (x + 2 ^ i) / 2 ^ (i + 1) = x / 2 ^ (i + 1) := by
          conv => lhs; rw [e1]
          rw [Nat.add_assoc, Nat.mul_add_div p0, Nat.div_eq_of_lt q1, Nat.add_zero]
        rw [Nat.pow_add, ← Nat.div_div_eq_div_mul, ← Nat.div_div_eq_div_mul, q2]
      · rw [Nat.testBit_eq_decide_div_mod_eq, Nat.testBit_eq_decide_div_mod_eq]
        obtain ⟨d, rfl⟩ : ∃ d, i = j + 1 + d := ⟨i - j - 1, by omega⟩
        have e1 : x + 2 ^ (j + 1 + d) = x + 2 ^ j * (2 * 2 ^ d) := by rw [Nat.pow_add, Nat.pow_succ, Nat.mul_assoc]
        rw [e1, Nat.add_mul_div_left _ _ (Nat.two_pow_pos j), Nat.add_mul_mod_self_left]
  rw [e]
end Go.Proofs.YthgendgmlpaglaaDoor
namespace Go.Proofs.YthgendgmlpaglaaDoor
open Go.RowKit

/-- The table of the flags' bits lies in its variable. -/
def Bt (w : World) : Prop := ∃ t fr, w.heap[0]? = some (.cells #[.int .u16 32768, .int .u16 1024, .int .u16 512, .int .u16 256, .int .u16 128, .int .u16 64, .int .u16 32, .int .u16 16] t fr)
theorem Bt.kept {w w' : World} {row : Option Nat} (h : Bt w) (g : w.grownBy w' row) (hr : some 0 ≠ row) : Bt w' := by
  obtain ⟨t, fr, h⟩ := h
  exact ⟨t, fr, gblock g h hr⟩

/-- A header. -/
structure Hd where
  id : Nat
  qr : Bool
  op : Nat
  aa : Bool
  tc : Bool
  rd : Bool
  ra : Bool
  z : Bool
  ad : Bool
  cd : Bool
  code : Nat
def Hd.v (h : Hd) : Value := .agg #[.int .u16 h.id, .bool h.qr, .int .u8 h.op, .bool h.aa, .bool h.tc, .bool h.rd, .bool h.ra, .bool h.z, .bool h.ad, .bool h.cd, .int .u8 h.code]
def bq (n i : Nat) : Bool := decide (n / 2 ^ i % 2 = 1)
/-- The header of a number. -/
def fromN (id n : Nat) : Hd := ⟨id, bq n 15, n / 2048 % 16, bq n 10, bq n 9, bq n 8, bq n 7, bq n 6, bq n 5, bq n 4, n % 16⟩

set_option maxRecDepth 100000 in
theorem from_gen (n : Int) (b0 b1 b2 b3 b4 b5 b6 b7 : Int) (t : TypeId) (fr : Nat × Nat) (w : World) (hb : w.heap[0]? = some (.cells #[.int .u16 b0, .int .u16 b1, .int .u16 b2, .int .u16 b3, .int .u16 b4, .int .u16 b5, .int .u16 b6, .int .u16 b7] t fr)) : Calls Tryd.prog 44 #[.int .u16 n] w fun e w' => e = .returned (.agg #[.int .u16 0, .bool (bits .and .u16 n b0 != 0), .int .u8 (bits .and .u16 (n / 2048) 15 % 256), .bool (bits .and .u16 n b1 != 0), .bool (bits .and .u16 n b2 != 0), .bool (bits .and .u16 n b3 != 0), .bool (bits .and .u16 n b4 != 0), .bool (bits .and .u16 n b5 != 0), .bool (bits .and .u16 n b6 != 0), .bool (bits .and .u16 n b7 != 0), .int .u8 (bits .and .u16 n 15 % 256)]) ∧ w.grownBy w' none := by
  have HB := Lib.hid hb
  have i0 : ∀ w, (Instr.index 113 (.agg #[.int .u16 b0, .int .u16 b1, .int .u16 b2, .int .u16 b3, .int .u16 b4, .int .u16 b5, .int .u16 b6, .int .u16 b7]) (.int .i64 0)).run Tryd.prog w = .ok (.int .u16 b0) w := fun _ => by kernel_rfl
  have i1 : ∀ w, (Instr.index 113 (.agg #[.int .u16 b0, .int .u16 b1, .int .u16 b2, .int .u16 b3, .int .u16 b4, .int .u16 b5, .int .u16 b6, .int .u16 b7]) (.int .i64 1)).run Tryd.prog w = .ok (.int .u16 b1) w := fun _ => by kernel_rfl
  have i2 : ∀ w, (Instr.index 113 (.agg #[.int .u16 b0, .int .u16 b1, .int .u16 b2, .int .u16 b3, .int .u16 b4, .int .u16 b5, .int .u16 b6, .int .u16 b7]) (.int .i64 2)).run Tryd.prog w = .ok (.int .u16 b2) w := fun _ => by kernel_rfl
  have i3 : ∀ w, (Instr.index 113 (.agg #[.int .u16 b0, .int .u16 b1, .int .u16 b2, .int .u16 b3, .int .u16 b4, .int .u16 b5, .int .u16 b6, .int .u16 b7]) (.int .i64 3)).run Tryd.prog w = .ok (.int .u16 b3) w := fun _ => by kernel_rfl
  have i4 : ∀ w, (Instr.index 113 (.agg #[.int .u16 b0, .int .u16 b1, .int .u16 b2, .int .u16 b3, .int .u16 b4, .int .u16 b5, .int .u16 b6, .int .u16 b7]) (.int .i64 4)).run Tryd.prog w = .ok (.int .u16 b4) w := fun _ => by kernel_rfl
  have i5 : ∀ w, (Instr.index 113 (.agg #[.int .u16 b0, .int .u16 b1, .int .u16 b2, .int .u16 b3, .int .u16 b4, .int .u16 b5, .int .u16 b6, .int .u16 b7]) (.int .i64 5)).run Tryd.prog w = .ok (.int .u16 b5) w := fun _ => by kernel_rfl
  have i6 : ∀ w, (Instr.index 113 (.agg #[.int .u16 b0, .int .u16 b1, .int .u16 b2, .int .u16 b3, .int .u16 b4, .int .u16 b5, .int .u16 b6, .int .u16 b7]) (.int .i64 6)).run Tryd.prog w = .ok (.int .u16 b6) w := fun _ => by kernel_rfl
  have i7 : ∀ w, (Instr.index 113 (.agg #[.int .u16 b0, .int .u16 b1, .int .u16 b2, .int .u16 b3, .int .u16 b4, .int .u16 b5, .int .u16 b6, .int .u16 b7]) (.int .i64 7)).run Tryd.prog w = .ok (.int .u16 b7) w := fun _ => by kernel_rfl
  clear hb
  go_enter Tryd.func44, Tryd.ntmps44
  go_wp2_with (refine wpList_load_row rfl 113 _ rfl 0 rfl t _ fr _ (gblock (galloc (galloc (grefl _ none) _) _) HB.out (by simp)) Tryd.underlying113 rfl (by kernel_rfl) ?_)
  refine wp_loop_rounds 9 ?_
  rw [rounds_succ]
  go_wp2
  rw [rounds_succ]
  go_wp2
  rw [rounds_succ]
  go_wp2
  rw [rounds_succ]
  go_wp2
  rw [rounds_succ]
  go_wp2
  rw [rounds_succ]
  go_wp2
  rw [rounds_succ]
  go_wp2
  rw [rounds_succ]
  go_wp2
  rw [rounds_succ]
  go_wp2
  refine bodyPost_ret (results_cell_row rfl _ _ w.heap.size _ _ _ _ rfl (gblock (galloc (grefl _ none) _) (balloc w _) (by simp)) Tryd.underlying30 rfl (by kernel_rfl)) rfl ?_
  exact ⟨rfl, galloc (galloc (grefl _ none) _) _⟩

set_option maxRecDepth 100000 in
theorem from_any (n : Nat) (hn : n < 65536) (w : World) (hb : Bt w) : Calls Tryd.prog 44 #[.int .u16 n] w fun e w' => e = .returned (fromN 0 n).v ∧ w.grownBy w' none := by
  obtain ⟨t, fr, hb⟩ := hb
  refine (from_gen n _ _ _ _ _ _ _ _ t fr w hb).mono ?_
  rintro e w' ⟨rfl, hg⟩
  refine ⟨?_, hg⟩
  have a15 : (bits .and .u16 (n : Int) 32768 != 0) = bq n 15 := and_ne n 15 hn (by omega)
  have a10 : (bits .and .u16 (n : Int) 1024 != 0) = bq n 10 := and_ne n 10 hn (by omega)
  have a9 : (bits .and .u16 (n : Int) 512 != 0) = bq n 9 := and_ne n 9 hn (by omega)
  have a8 : (bits .and .u16 (n : Int) 256 != 0) = bq n 8 := and_ne n 8 hn (by omega)
  have a7 : (bits .and .u16 (n : Int) 128 != 0) = bq n 7 := and_ne n 7 hn (by omega)
  have a6 : (bits .and .u16 (n : Int) 64 != 0) = bq n 6 := and_ne n 6 hn (by omega)
  have a5 : (bits .and .u16 (n : Int) 32 != 0) = bq n 5 := and_ne n 5 hn (by omega)
  have a4 : (bits .and .u16 (n : Int) 16 != 0) = bq n 4 := and_ne n 4 hn (by omega)
  have c1 : bits .and .u16 ((n : Int) / 2048) 15 % 256 = ((n / 2048 % 16 : Nat) : Int) := by
    rw [show ((n : Int) / 2048) = ((n / 2048 : Nat) : Int) by rfl, and_low _ (by omega)]; omega
  have c2 : bits .and .u16 (n : Int) 15 % 256 = ((n % 16 : Nat) : Int) := by rw [and_low _ hn]; omega
  rw [a15, a10, a9, a8, a7, a6, a5, a4, c1, c2]
  rfl
end Go.Proofs.YthgendgmlpaglaaDoor
namespace Go.Proofs.YthgendgmlpaglaaDoor
open Go.RowKit

def orq (q : Bool) (x b : Int) : Int := if q then bits .or .u16 x b else x
def oacc (f0 : Int) (l : List (Bool × Int)) : Int := l.foldl (fun x p => orq p.1 x p.2) f0

theorem flags_bad (id op code : Nat) (q0 q1 q2 q3 q4 q5 q6 q7 : Bool) (w : World) (h : 15 < op ∨ 15 < code) : Calls Tryd.prog 30 #[.agg #[.int .u16 id, .bool q0, .int .u8 op, .bool q1, .bool q2, .bool q3, .bool q4, .bool q5, .bool q6, .bool q7, .int .u8 code]] w fun e w' => e = .returned (.tuple #[.int .u16 0, .int .i64 1]) ∧ w.grownBy w' none := by
  by_cases h1 : 15 < op
  · have g1 : (15 : Int) < (op : Int) := by omega
    go_enter Tryd.func30, Tryd.ntmps30
    go_wp2
    go_ret2
    exact ⟨rfl, galloc (grefl _ _) _⟩
  · have g1 : ¬ (15 : Int) < (op : Int) := by omega
    have g2 : (15 : Int) < (code : Int) := by omega
    go_enter Tryd.func30, Tryd.ntmps30
    go_wp2
    go_ret2
    exact ⟨rfl, galloc (grefl _ _) _⟩

set_option maxHeartbeats 4000000 in
set_option maxRecDepth 100000 in
theorem flags_gen (id op code : Nat) (q0 q1 q2 q3 q4 q5 q6 q7 : Bool) (b0 b1 b2 b3 b4 b5 b6 b7 : Int) (t : TypeId) (fr : Nat × Nat) (w : World) (h1 : op ≤ 15) (h2 : code ≤ 15) (hb : w.heap[0]? = some (.cells #[.int .u16 b0, .int .u16 b1, .int .u16 b2, .int .u16 b3, .int .u16 b4, .int .u16 b5, .int .u16 b6, .int .u16 b7] t fr)) : Calls Tryd.prog 30 #[.agg #[.int .u16 id, .bool q0, .int .u8 op, .bool q1, .bool q2, .bool q3, .bool q4, .bool q5, .bool q6, .bool q7, .int .u8 code]] w fun e w' => e = .returned (.tuple #[.int .u16 (oacc (bits .or .u16 (op * 2048) code) [(q0, b0), (q1, b1), (q2, b2), (q3, b3), (q4, b4), (q5, b5), (q6, b6), (q7, b7)]), .int .i64 0]) ∧ w.grownBy w' none := by
  have HB := Lib.hid hb
  have i0 : ∀ w, (Instr.index 113 (.agg #[.int .u16 b0, .int .u16 b1, .int .u16 b2, .int .u16 b3, .int .u16 b4, .int .u16 b5, .int .u16 b6, .int .u16 b7]) (.int .i64 0)).run Tryd.prog w = .ok (.int .u16 b0) w := fun _ => by kernel_rfl
  have i1 : ∀ w, (Instr.index 113 (.agg #[.int .u16 b0, .int .u16 b1, .int .u16 b2, .int .u16 b3, .int .u16 b4, .int .u16 b5, .int .u16 b6, .int .u16 b7]) (.int .i64 1)).run Tryd.prog w = .ok (.int .u16 b1) w := fun _ => by kernel_rfl
  have i2 : ∀ w, (Instr.index 113 (.agg #[.int .u16 b0, .int .u16 b1, .int .u16 b2, .int .u16 b3, .int .u16 b4, .int .u16 b5, .int .u16 b6, .int .u16 b7]) (.int .i64 2)).run Tryd.prog w = .ok (.int .u16 b2) w := fun _ => by kernel_rfl
  have i3 : ∀ w, (Instr.index 113 (.agg #[.int .u16 b0, .int .u16 b1, .int .u16 b2, .int .u16 b3, .int .u16 b4, .int .u16 b5, .int .u16 b6, .int .u16 b7]) (.int .i64 3)).run Tryd.prog w = .ok (.int .u16 b3) w := fun _ => by kernel_rfl
  have i4 : ∀ w, (Instr.index 113 (.agg #[.int .u16 b0, .int .u16 b1, .int .u16 b2, .int .u16 b3, .int .u16 b4, .int .u16 b5, .int .u16 b6, .int .u16 b7]) (.int .i64 4)).run Tryd.prog w = .ok (.int .u16 b4) w := fun _ => by kernel_rfl
  have i5 : ∀ w, (Instr.index 113 (.agg #[.int .u16 b0, .int .u16 b1, .int .u16 b2, .int .u16 b3, .int .u16 b4, .int .u16 b5, .int .u16 b6, .int .u16 b7]) (.int .i64 5)).run Tryd.prog w = .ok (.int .u16 b5) w := fun _ => by kernel_rfl
  have i6 : ∀ w, (Instr.index 113 (.agg #[.int .u16 b0, .int .u16 b1, .int .u16 b2, .int .u16 b3, .int .u16 b4, .int .u16 b5, .int .u16 b6, .int .u16 b7]) (.int .i64 6)).run Tryd.prog w = .ok (.int .u16 b6) w := fun _ => by kernel_rfl
  have i7 : ∀ w, (Instr.index 113 (.agg #[.int .u16 b0, .int .u16 b1, .int .u16 b2, .int .u16 b3, .int .u16 b4, .int .u16 b5, .int .u16 b6, .int .u16 b7]) (.int .i64 7)).run Tryd.prog w = .ok (.int .u16 b7) w := fun _ => by kernel_rfl
  clear hb
  have g1 : ¬ (15 : Int) < (op : Int) := by omega
  have g2 : ¬ (15 : Int) < (code : Int) := by omega
  go_enter Tryd.func30, Tryd.ntmps30
  go_wp2_with (refine wpList_load_row rfl 113 _ rfl 0 rfl t _ fr _ (gblock (galloc (galloc (grefl _ none) _) _) HB.out (by simp)) Tryd.underlying113 rfl (by kernel_rfl) ?_)
  go_loop [4, 42] (fun f i => ∃ (k : Nat), k ≤ 8 ∧ i = .int .i64 k ∧ f = .int .u16 (oacc (bits .or .u16 (op * 2048) code) ([(q0, b0), (q1, b1), (q2, b2), (q3, b3), (q4, b4), (q5, b5), (q6, b6), (q7, b7)].take k))) (fun _ i => 8 - (intOf i).toNat)
  case atStart => exact ⟨0, by omega, rfl, rfl⟩
  case round =>
    obtain ⟨k, hk, rfl, rfl⟩ := hrel
    obtain rfl | rfl | rfl | rfl | rfl | rfl | rfl | rfl | rfl : k = 0 ∨ k = 1 ∨ k = 2 ∨ k = 3 ∨ k = 4 ∨ k = 5 ∨ k = 6 ∨ k = 7 ∨ k = 8 := by omega
    · cases q0
      · go_wp2
        go_round
        case rel => exact ⟨1, by omega, rfl, rfl⟩
        case measure => simp [intOf]
      · go_wp2
        go_round
        case rel => exact ⟨1, by omega, rfl, rfl⟩
        case measure => simp [intOf]
    · cases q1
      · go_wp2
        go_round
        case rel => exact ⟨2, by omega, rfl, rfl⟩
        case measure => simp [intOf]
      · go_wp2
        go_round
        case rel => exact ⟨2, by omega, rfl, rfl⟩
        case measure => simp [intOf]
    · cases q2
      · go_wp2
        go_round
        case rel => exact ⟨3, by omega, rfl, rfl⟩
        case measure => simp [intOf]
      · go_wp2
        go_round
        case rel => exact ⟨3, by omega, rfl, rfl⟩
        case measure => simp [intOf]
    · cases q3
      · go_wp2
        go_round
        case rel => exact ⟨4, by omega, rfl, rfl⟩
        case measure => simp [intOf]
      · go_wp2
        go_round
        case rel => exact ⟨4, by omega, rfl, rfl⟩
        case measure => simp [intOf]
    · cases q4
      · go_wp2
        go_round
        case rel => exact ⟨5, by omega, rfl, rfl⟩
        case measure => simp [intOf]
      · go_wp2
        go_round
        case rel => exact ⟨5, by omega, rfl, rfl⟩
        case measure => simp [intOf]
    · cases q5
      · go_wp2
        go_round
        case rel => exact ⟨6, by omega, rfl, rfl⟩
        case measure => simp [intOf]
      · go_wp2
        go_round
        case rel => exact ⟨6, by omega, rfl, rfl⟩
        case measure => simp [intOf]
    · cases q6
      · go_wp2
        go_round
        case rel => exact ⟨7, by omega, rfl, rfl⟩
        case measure => simp [intOf]
      · go_wp2
        go_round
        case rel => exact ⟨7, by omega, rfl, rfl⟩
        case measure => simp [intOf]
    · cases q7
      · go_wp2
        go_round
        case rel => exact ⟨8, by omega, rfl, rfl⟩
        case measure => simp [intOf]
      · go_wp2
        go_round
        case rel => exact ⟨8, by omega, rfl, rfl⟩
        case measure => simp [intOf]
    · go_wp2
      go_ret2
      exact ⟨rfl, galloc (galloc (grefl _ none) _) _⟩
end Go.Proofs.YthgendgmlpaglaaDoor
namespace Go.Proofs.YthgendgmlpaglaaDoor
open Go.RowKit

/-- The flags of a header, as a sum. -/
def flagsN (h : Hd) : Nat := h.qr.toNat * 32768 + h.op * 2048 + h.aa.toNat * 1024 + h.tc.toNat * 512 + h.rd.toNat * 256 + h.ra.toNat * 128 + h.z.toNat * 64 + h.ad.toNat * 32 + h.cd.toNat * 16 + h.code
def Hd.bad (h : Hd) : Prop := 15 < h.op ∨ 15 < h.code
instance (h : Hd) : Decidable h.bad := inferInstanceAs (Decidable (_ ∨ _))
def flE (h : Hd) : Nat := if h.bad then 1 else 0
def flN (h : Hd) : Nat := if h.bad then 0 else flagsN h

theorem orq_bit (q : Bool) (x i : Nat) (hx : x < 65536) (hi : i < 16) (h : x / 2 ^ i % 2 = 0) : orq q (x : Int) ((2 ^ i : Nat) : Int) = ((x + q.toNat * 2 ^ i : Nat) : Int) := by
  cases q
  · simp [orq]
  · simp only [orq, if_true, or_bit x i hx hi h]; simp

theorem btle (q : Bool) : q.toNat ≤ 1 := by cases q <;> simp

theorem oacc_flags (h : Hd) (hb : ¬ h.bad) : oacc (bits .or .u16 ((h.op : Int) * 2048) (h.code : Int)) [(h.qr, 32768), (h.aa, 1024), (h.tc, 512), (h.rd, 256), (h.ra, 128), (h.z, 64), (h.ad, 32), (h.cd, 16)] = (flagsN h : Int) := by
  obtain ⟨h1, h2⟩ : h.op ≤ 15 ∧ h.code ≤ 15 := by unfold Hd.bad at hb; omega
  have t15 := btle h.qr
  have t10 := btle h.aa
  have t9 := btle h.tc
  have t8 := btle h.rd
  have t7 := btle h.ra
  have t6 := btle h.z
  have t5 := btle h.ad
  have t4 := btle h.cd
  have e0 : bits .or .u16 ((h.op : Int) * 2048) (h.code : Int) = ((h.op * 2048 + h.code : Nat) : Int) := by
    rw [show ((h.op : Int) * 2048) = ((h.op * 2048 : Nat) : Int) by omega, u16_or_nat _ _ (by omega) (by omega), nat_join 11 _ _ (by omega) (by omega)]
  simp only [oacc, List.foldl_cons, List.foldl_nil]
  rw [e0]
  rw [show (32768 : Int) = ((2 ^ 15 : Nat) : Int) by rfl, orq_bit h.qr _ 15 (by omega) (by omega) (by omega)]
  rw [show (1024 : Int) = ((2 ^ 10 : Nat) : Int) by rfl, orq_bit h.aa _ 10 (by omega) (by omega) (by omega)]
  rw [show (512 : Int) = ((2 ^ 9 : Nat) : Int) by rfl, orq_bit h.tc _ 9 (by omega) (by omega) (by omega)]
  rw [show (256 : Int) = ((2 ^ 8 : Nat) : Int) by rfl, orq_bit h.rd _ 8 (by omega) (by omega) (by omega)]
  rw [show (128 : Int) = ((2 ^ 7 : Nat) : Int) by rfl, orq_bit h.ra _ 7 (by omega) (by omega) (by omega)]
  rw [show (64 : Int) = ((2 ^ 6 : Nat) : Int) by rfl, orq_bit h.z _ 6 (by omega) (by omega) (by omega)]
  rw [show (32 : Int) = ((2 ^ 5 : Nat) : Int) by rfl, orq_bit h.ad _ 5 (by omega) (by omega) (by omega)]
  rw [show (16 : Int) = ((2 ^ 4 : Nat) : Int) by rfl, orq_bit h.cd _ 4 (by omega) (by omega) (by omega)]
  unfold flagsN
  omega

theorem flags_any (h : Hd) (w : World) (hb : Bt w) : Calls Tryd.prog 30 #[h.v] w fun e w' => e = .returned (.tuple #[.int .u16 (flN h), .int .i64 (flE h)]) ∧ w.grownBy w' none := by
  by_cases hg : h.bad
  · refine (flags_bad h.id h.op h.code h.qr h.aa h.tc h.rd h.ra h.z h.ad h.cd w hg).mono ?_
    rintro e w' ⟨rfl, hw⟩
    refine ⟨?_, hw⟩
    rw [flN, flE, if_pos hg, if_pos hg]; rfl
  · obtain ⟨t, fr, hb⟩ := hb
    obtain ⟨h1, h2⟩ : h.op ≤ 15 ∧ h.code ≤ 15 := by unfold Hd.bad at hg; omega
    refine (flags_gen h.id h.op h.code h.qr h.aa h.tc h.rd h.ra h.z h.ad h.cd _ _ _ _ _ _ _ _ t fr w h1 h2 hb).mono ?_
    rintro e w' ⟨rfl, hw⟩
    refine ⟨?_, hw⟩
    rw [flN, flE, if_neg hg, if_neg hg, oacc_flags h hg]; rfl

theorem bq_toNat (n i : Nat) : (bq n i).toNat = n / 2 ^ i % 2 := by
  unfold bq
  by_cases h : n / 2 ^ i % 2 = 1
  · simp [h]
  · simp [h]; omega
theorem bq_of (q : Bool) (n i : Nat) (h : n / 2 ^ i % 2 = q.toNat) : bq n i = q := by
  unfold bq
  cases q
  · simp at h; simp [h]
  · simp at h; simp [h]

theorem from_good (id n : Nat) : ¬ (fromN id n).bad := by
  unfold Hd.bad fromN
  simp only
  omega
theorem flags_from (id n : Nat) (hn : n < 65536) : flagsN (fromN id n) = n := by
  simp only [flagsN, fromN, bq_toNat]
  omega
theorem from_flags (h : Hd) (hb : ¬ h.bad) : fromN h.id (flagsN h) = h := by
  obtain ⟨h1, h2⟩ : h.op ≤ 15 ∧ h.code ≤ 15 := by unfold Hd.bad at hb; omega
  obtain ⟨id, qr, op, aa, tc, rd, ra, z, ad, cd, code⟩ := h
  have t15 := btle qr
  have t10 := btle aa
  have t9 := btle tc
  have t8 := btle rd
  have t7 := btle ra
  have t6 := btle z
  have t5 := btle ad
  have t4 := btle cd
  simp only at h1 h2
  unfold fromN flagsN
  simp only
  rw [bq_of qr _ 15 (by omega)]
  rw [bq_of aa _ 10 (by omega)]
  rw [bq_of tc _ 9 (by omega)]
  rw [bq_of rd _ 8 (by omega)]
  rw [bq_of ra _ 7 (by omega)]
  rw [bq_of z _ 6 (by omega)]
  rw [bq_of ad _ 5 (by omega)]
  rw [bq_of cd _ 4 (by omega)]
  simp only [Hd.mk.injEq, true_and]
  omega
theorem flagsN_lt (h : Hd) (hb : ¬ h.bad) : flagsN h < 65536 := by
  obtain ⟨h1, h2⟩ : h.op ≤ 15 ∧ h.code ≤ 15 := by unfold Hd.bad at hb; omega
  have t15 := btle h.qr
  have t10 := btle h.aa
  have t9 := btle h.tc
  have t8 := btle h.rd
  have t7 := btle h.ra
  have t6 := btle h.z
  have t5 := btle h.ad
  have t4 := btle h.cd
  unfold flagsN
  omega
end Go.Proofs.YthgendgmlpaglaaDoor
namespace Go.Proofs.YthgendgmlpaglaaDoor
open Go.RowKit

theorem two_ok (b : Nat) (s : ByteArray) (p : Nat) (w : World) (h : Cur w b s p) (he : Et w) (hp : p + 2 ≤ s.size) (hs : s.size ≤ maxLen) : Calls Tryd.prog 43 #[.pointer (some ⟨b, 0, none⟩)] w fun e w' => e = .returned (.tuple #[.int .u16 (num s p 2), .int .i64 0]) ∧ Cur w' b s (p + 2) ∧ w.grownBy w' (some b) := by
  have h2 := two_any b s p w h he (by omega) hs
  rw [rdE_ok hp, rdV_ok hp, rdP_ok hp] at h2
  exact h2

/-- The results of a function that returns two rows and a number. -/
theorem results_ccr {P : Program} {fn : Func} {p q r : Tmp} {ty uy : TypeId} (h : fn.results = #[.cell p ty, .cell q uy, .tmp r]) (tmps : Array Value) (w : World) (g k : Nat) (t u : TypeId) (cs ds : Array Value) (fr gr : Nat × Nat) (d e : TypeDesc)
    (hp : tmps.getD p undef = .pointer (some ⟨g, 0, none⟩)) (hg : w.heap[g]? = some (.cells cs t fr)) (hu : P.underlying ty = some d) (hd : (match d with | .struct _ | .array _ _ => true | _ => false) = true) (hi : (P.info? ty).map (·.size) = some cs.size)
    (hq : tmps.getD q undef = .pointer (some ⟨k, 0, none⟩)) (hk : w.heap[k]? = some (.cells ds u gr)) (hv : P.underlying uy = some e) (he : (match e with | .struct _ | .array _ _ => true | _ => false) = true) (hj : (P.info? uy).map (·.size) = some ds.size) :
    (results fn tmps).run P w = .ok (.tuple #[.agg cs, .agg ds, tmps.getD r undef]) w := by
  have hp' : tmps[p]?.getD undef = .pointer (some ⟨g, 0, none⟩) := by simpa using hp
  have hq' : tmps[q]?.getD undef = .pointer (some ⟨k, 0, none⟩) := by simpa using hq
  simp [results, h, hp', hq', asAddr, run_loadVar_row w g t ty cs fr d hg hu hd hi, run_loadVar_row w k u uy ds gr e hk hv he hj]

theorem gsetRow {a w : World} {g : Nat} (h : a.grownBy w none) (hg : a.heap.size ≤ g) (cs : Array Value) : a.grownBy (w.setRow g cs) none :=
  ⟨h.os, h.tape, h.output, by simpa [World.setRow] using h.size, fun i hi hn => (setRow_other w g i cs (by omega)).trans (h.block i hi hn)⟩
theorem bsetRow {w : World} {g : Nat} {c : Array Value} {t : TypeId} {z : Nat × Nat} (h : w.heap[g]? = some (.cells c t z)) (cs : Array Value) : (w.setRow g cs).heap[g]? = some (.cells cs t z) := by
  simp [World.setRow, Array.getElem?_modify, h]

/-- In a region that draws its order: a whole row may be read first, if S says that it stays. -/
theorem yieldsIf_load_row {P : Program} {ops : Array Oper} {S : World → Prop} {op : Oper} {a : Act} (hw : Region.wanted op (yielded ops a.tmps) = true) (ty : TypeId) (x : Operand) (ho : op.op = .load ty x)
    (g : Nat) (hx : a.eval x = .pointer (some ⟨g, 0, none⟩)) (t : TypeId) (cs : Array Value) (fr : Nat × Nat) (d : TypeDesc) (hS : ∀ w, S w → w.heap[g]? = some (.cells cs t fr))
    (hu : P.underlying ty = some d) (hd : (match d with | .struct _ | .array _ _ => true | _ => false) = true) (hi : (P.info? ty).map (·.size) = some cs.size) : YieldsIf P ops S op (.agg cs) a :=
  .inl ⟨hw, fun w hw' => by
    unfold execOp
    simp only [ho, hx, Instr.loadAt, Instr.sureAddr, Sem.run_bind, Sem.run_pure, Result.andThen_ok, run_loadVar_row w g t ty cs fr d (hS w hw') hu hd hi]⟩

def hd0 : Hd := ⟨0, false, 0, false, false, false, false, false, false, false, 0⟩
def cv (a b c d : Int) : Value := .agg #[.int .i64 a, .int .i64 b, .int .i64 c, .int .i64 d]

theorem read_short (s : ByteArray) (w : World) (h : s.size < 12) : Calls Tryd.prog 22 #[.string s] w fun e w' => e = .returned (.tuple #[hd0.v, cv 0 0 0 0, .int .i64 4]) ∧ w.grownBy w' none := by
  have g1 : ((s.size : Nat) : Int) < 12 := by omega
  go_enter Tryd.func22, Tryd.ntmps22
  go_wp2
  refine bodyPost_ret (results_ccr rfl _ _ w.heap.size (w.heap.size + 1) _ _ _ _ _ _ _ _ rfl (heap_alloc2_old w _ _) Tryd.underlying30 rfl (by kernel_rfl) rfl (heap_alloc2_new w _ _) Tryd.underlying66 rfl (by kernel_rfl)) rfl ?_
  exact ⟨rfl, galloc (galloc (grefl _ none) _) _⟩

/-- What Read holds in the middle of its loop. -/
structure RdH (w : World) (bc bh bn : Nat) (s : ByteArray) (H : Hd) (p : Nat) (cs : Array Value) (wr : World) : Prop where
  gr : w.grownBy wr none
  cur : Cur wr bc s p
  r1 : wr.heap[w.heap.size]? = some (.cells #[.int .u16 0, .bool false, .int .u8 0, .bool false, .bool false, .bool false, .bool false, .bool false, .bool false, .bool false, .int .u8 0] 30 (0, 0))
  r2 : wr.heap[w.heap.size + 1]? = some (.cells #[.int .i64 0, .int .i64 0, .int .i64 0, .int .i64 0] 66 (0, 0))
  rh : wr.heap[bh]? = some (.cells #[.int .u16 H.id, .bool H.qr, .int .u8 H.op, .bool H.aa, .bool H.tc, .bool H.rd, .bool H.ra, .bool H.z, .bool H.ad, .bool H.cd, .int .u8 H.code] 30 (0, 0))
  rn : wr.heap[bn]? = some (.cells cs 66 (0, 0))
  lc : w.heap.size + 2 ≤ bc
  ch : bc < bh
  hn : bh < bn
theorem RdH.two {w wr w' : World} {bc bh bn p q : Nat} {s : ByteArray} {H : Hd} {cs : Array Value} (r : RdH w bc bh bn s H p cs wr) (g : wr.grownBy w' (some bc)) (c : Cur w' bc s q) : RdH w bc bh bn s H q cs w' := by
  have h1 := r.lc
  have h2 := r.ch
  have h3 := r.hn
  exact ⟨gstepb r.gr g (by omega), c, gblock g r.r1 (by simp; omega), gblock g r.r2 (by simp; omega), gblock g r.rh (by simp; omega), gblock g r.rn (by simp; omega), h1, h2, h3⟩
theorem RdH.set {w wr : World} {bc bh bn p : Nat} {s : ByteArray} {H : Hd} {cs : Array Value} (r : RdH w bc bh bn s H p cs wr) (i : Nat) (v : Value) : RdH w bc bh bn s H p (cs.setIfInBounds i v) (wr.setCell ⟨bn, i, none⟩ v) := by
  have h1 := r.lc
  have h2 := r.ch
  have h3 := r.hn
  have ho : ∀ k, k ≠ bn → (wr.setCell ⟨bn, i, none⟩ v).heap[k]? = wr.heap[k]? := fun k hk => heap_setCell_other wr ⟨bn, i, none⟩ k v hk
  refine ⟨?_, (ho _ (by omega)).trans r.cur, (ho _ (by omega)).trans r.r1, (ho _ (by omega)).trans r.r2, (ho _ (by omega)).trans r.rh, bset r.rn i v, h1, h2, h3⟩
  exact ⟨r.gr.os, r.gr.tape, r.gr.output, by simpa using r.gr.size, fun k hk hn => (ho k (by omega)).trans (r.gr.block k hk hn)⟩

set_option maxHeartbeats 4000000 in
set_option maxRecDepth 100000 in
theorem read_ok (s : ByteArray) (w : World) (he : Et w) (hb : Bt w) (h : 12 ≤ s.size) (hs : s.size ≤ maxLen) : Calls Tryd.prog 22 #[.string s] w fun e w' => e = .returned (.tuple #[(fromN (num s 0 2) (num s 2 2)).v, cv (num s 4 2) (num s 6 2) (num s 8 2) (num s 10 2), .int .i64 0]) ∧ w.grownBy w' none := by
  have g1 : ¬ ((s.size : Nat) : Int) < 12 := by omega
  have HE := Lib.hid he
  have HB := Lib.hid hb
  have n0 := num_lt s 0 2
  have n1 := num_lt s 2 2
  have n2 := num_lt s 4 2
  have n3 := num_lt s 6 2
  have n4 := num_lt s 8 2
  have n5 := num_lt s 10 2
  clear he hb
  go_enter Tryd.func22, Tryd.ntmps22
  go_wp2_with fail
  refine (new_ex s _).mono ?_
  rintro e w1 ⟨bc, rfl, hlc, hc, hg⟩
  have LC := Lib.hid (show w.heap.size + 2 ≤ bc by simpa using hlc)
  have G1 := Lib.hid (gtrans (galloc (galloc (grefl w none) _) _) hg)
  have R1 := Lib.hid (gblock hg (heap_alloc2_old w _ _) (by simp))
  have R2 := Lib.hid (gblock hg (heap_alloc2_new w _ _) (by simp))
  have C1 := Lib.hid hc
  clear hlc hg hc
  go_wp2_with fail
  refine (two_ok bc s 0 w1 C1.out (HE.out.kept G1.out (by simp)) (by omega) hs).mono ?_
  rintro e w2 ⟨rfl, hc, hg⟩
  have G2 := Lib.hid (gstepb G1.out hg (by have := LC.out; omega))
  have R12 := Lib.hid (gblock hg R1.out (by have := LC.out; simp; omega))
  have R22 := Lib.hid (gblock hg R2.out (by have := LC.out; simp; omega))
  have C2 := Lib.hid hc
  clear hg hc G1 R1 R2 C1
  go_wp2_with fail
  refine (two_ok bc s 2 w2 C2.out (HE.out.kept G2.out (by simp)) (by omega) hs).mono ?_
  rintro e w3 ⟨rfl, hc, hg⟩
  have G3 := Lib.hid (gstepb G2.out hg (by have := LC.out; omega))
  have R13 := Lib.hid (gblock hg R12.out (by have := LC.out; simp; omega))
  have R23 := Lib.hid (gblock hg R22.out (by have := LC.out; simp; omega))
  have C3 := Lib.hid hc
  clear hg hc G2 R12 R22 C2
  go_wp2_with fail
  refine (from_any (num s 2 2) n1 w3 (HB.out.kept G3.out (by simp))).mono ?_
  rintro e w4 ⟨rfl, hg⟩
  have G4 := Lib.hid (gtrans G3.out hg)
  have R14 := Lib.hid (gblock hg R13.out (by simp))
  have R24 := Lib.hid (gblock hg R23.out (by simp))
  have C4 := Lib.hid (Cur.kept C3.out hg (by simp))
  clear hg G3 R13 R23 C3
  obtain ⟨H, hH⟩ : ∃ H, H = fromN 0 (num s 2 2) := ⟨_, rfl⟩
  rw [← hH]
  have HH := Lib.hid hH
  clear hH
  simp only [Hd.v]
  go_wp2_with fail
  have D0 := Lib.hid (show RdH w bc w4.heap.size (w4.heap.size + 1) s { H with id := num s 0 2 } 4 #[.int .i64 0, .int .i64 0, .int .i64 0, .int .i64 0] ((w4.alloc (.cells #[.int .u16 (num s 0 2), .bool H.qr, .int .u8 H.op, .bool H.aa, .bool H.tc, .bool H.rd, .bool H.ra, .bool H.z, .bool H.ad, .bool H.cd, .int .u8 H.code] 30)).alloc (.cells #[.int .i64 0, .int .i64 0, .int .i64 0, .int .i64 0] 66)) from
    have hn := galloc (galloc (grefl w4 none) (.cells #[.int .u16 (num s 0 2), .bool H.qr, .int .u8 H.op, .bool H.aa, .bool H.tc, .bool H.rd, .bool H.ra, .bool H.z, .bool H.ad, .bool H.cd, .int .u8 H.code] 30)) (.cells #[.int .i64 0, .int .i64 0, .int .i64 0, .int .i64 0] 66)
    ⟨gtrans G4.out hn, C4.out.kept hn (by simp), gblock hn R14.out (by simp), gblock hn R24.out (by simp), heap_alloc2_old _ _ _, heap_alloc2_new _ _ _, LC.out, blt C4.out, by omega⟩)
  clear G4 R14 R24 C4
  refine wp_loop_rounds 5 ?_
  rw [rounds_succ]
  go_wp2_with fail
  refine (two_ok bc s 4 _ D0.out.cur (HE.out.kept D0.out.gr (by simp)) (by omega) hs).mono ?_
  rintro e v0 ⟨rfl, hc, hg⟩
  have E0 := Lib.hid (D0.out.two hg hc)
  have c0 : v0.cell? ⟨w4.heap.size + 1, 0, none⟩ = some (.int .i64 0) := bcellAt E0.out.rn 0
  have f0 : v0.frozen? ⟨w4.heap.size + 1, 0, none⟩ = false := bfree E0.out.rn 0
  clear hc hg D0
  go_wp2_with fail
  have D1 := Lib.hid (E0.out.set 0 (.int .i64 (num s 4 2)))
  clear c0 f0 E0
  rw [rounds_succ]
  go_wp2_with fail
  refine (two_ok bc s 6 _ D1.out.cur (HE.out.kept D1.out.gr (by simp)) (by omega) hs).mono ?_
  rintro e v1 ⟨rfl, hc, hg⟩
  have E1 := Lib.hid (D1.out.two hg hc)
  have c1 : v1.cell? ⟨w4.heap.size + 1, 1, none⟩ = some (.int .i64 0) := bcellAt E1.out.rn 1
  have f1 : v1.frozen? ⟨w4.heap.size + 1, 1, none⟩ = false := bfree E1.out.rn 1
  clear hc hg D1
  go_wp2_with fail
  have D2 := Lib.hid (E1.out.set 1 (.int .i64 (num s 6 2)))
  clear c1 f1 E1
  rw [rounds_succ]
  go_wp2_with fail
  refine (two_ok bc s 8 _ D2.out.cur (HE.out.kept D2.out.gr (by simp)) (by omega) hs).mono ?_
  rintro e v2 ⟨rfl, hc, hg⟩
  have E2 := Lib.hid (D2.out.two hg hc)
  have c2 : v2.cell? ⟨w4.heap.size + 1, 2, none⟩ = some (.int .i64 0) := bcellAt E2.out.rn 2
  have f2 : v2.frozen? ⟨w4.heap.size + 1, 2, none⟩ = false := bfree E2.out.rn 2
  clear hc hg D2
  go_wp2_with fail
  have D3 := Lib.hid (E2.out.set 2 (.int .i64 (num s 8 2)))
  clear c2 f2 E2
  rw [rounds_succ]
  go_wp2_with fail
  refine (two_ok bc s 10 _ D3.out.cur (HE.out.kept D3.out.gr (by simp)) (by omega) hs).mono ?_
  rintro e v3 ⟨rfl, hc, hg⟩
  have E3 := Lib.hid (D3.out.two hg hc)
  have c3 : v3.cell? ⟨w4.heap.size + 1, 3, none⟩ = some (.int .i64 0) := bcellAt E3.out.rn 3
  have f3 : v3.frozen? ⟨w4.heap.size + 1, 3, none⟩ = false := bfree E3.out.rn 3
  clear hc hg D3
  go_wp2_with fail
  have D4 := Lib.hid (E3.out.set 3 (.int .i64 (num s 10 2)))
  clear c3 f3 E3
  rw [rounds_succ]
  go_wp2_with fail
  have hlt1 : w.heap.size + 2 ≤ w4.heap.size := Nat.le_of_lt (Nat.lt_of_le_of_lt D4.out.lc D4.out.ch)
  refine wp_region_held_drew (S := fun w' => w'.heap[w4.heap.size]? = some (.cells #[.int .u16 (num s 0 2), .bool H.qr, .int .u8 H.op, .bool H.aa, .bool H.tc, .bool H.rd, .bool H.ra, .bool H.z, .bool H.ad, .bool H.cd, .int .u8 H.code] 30 (0, 0)) ∧ w'.heap[w4.heap.size + 1]? = some (.cells #[.int .i64 (num s 4 2), .int .i64 (num s 6 2), .int .i64 (num s 8 2), .int .i64 (num s 10 2)] 66 (0, 0))) (by kernel_rfl) ⟨D4.out.rh, D4.out.rn⟩ (fun hHeld => ?_)
  refine wpAnyH_take (i := 0) (oi := { dst := some 49, op := .load 30 (.tmp 10), type := 30, pos := "head.go:48", after := #[], guard := none }) (v := .agg #[.int .u16 (num s 0 2), .bool H.qr, .int .u8 H.op, .bool H.aa, .bool H.tc, .bool H.rd, .bool H.ra, .bool H.z, .bool H.ad, .bool H.cd, .int .u8 H.code]) rfl (by kernel_rfl) (by kernel_rfl) (by kernel_rfl) (fun _ _ _ h => h) (yieldsIf_load_row (by rfl) _ _ rfl w4.heap.size rfl _ _ _ _ (fun w h => h.1) Tryd.underlying30 rfl (by kernel_rfl)) hHeld ?_
  simp only [Act.put, List.setIfInBounds_toArray, List.set_cons_zero, List.set_cons_succ]
  refine wpAnyH_take (i := 1) (oi := { dst := some 50, op := .load 66 (.tmp 11), type := 66, pos := "head.go:48", after := #[{ on := 2, ground := .gcOnly .lateStores }], guard := none }) (v := .agg #[.int .i64 (num s 4 2), .int .i64 (num s 6 2), .int .i64 (num s 8 2), .int .i64 (num s 10 2)]) rfl (by kernel_rfl) (by kernel_rfl) (by kernel_rfl) (fun _ _ _ h => h) (yieldsIf_load_row (by rfl) _ _ rfl (w4.heap.size + 1) rfl _ _ _ _ (fun w h => h.2) Tryd.underlying66 rfl (by kernel_rfl)) hHeld ?_
  simp only [Act.put, List.setIfInBounds_toArray, List.set_cons_zero, List.set_cons_succ]
  refine wpAnyH_ready (rs := [2]) (by kernel_rfl) (by simp) ?_
  refine AllReadyH.cons (o := { dst := none, op := .store 30 (.tmp 2) (.tmp 49), type := 0, pos := "head.go:48", after := #[{ on := 0, ground := .data }, { on := 0, ground := .phase }, { on := 1, ground := .textOnly .lateStores }], guard := none }) rfl (fun K hK => ?_) AllReadyH.nil
  rw [if_pos (by rfl)]
  refine wp_store_row _ _ _ rfl w.heap.size #[.int .u16 (num s 0 2), .bool H.qr, .int .u8 H.op, .bool H.aa, .bool H.tc, .bool H.rd, .bool H.ra, .bool H.z, .bool H.ad, .bool H.cd, .int .u8 H.code] rfl rfl _ _ D4.out.r1 (by kernel_rfl) rfl (by simp [Value.oneCell']) ?_
  refine hK.out _ _ ⟨(setRow_other _ _ _ _ (by omega)).trans hHeld.1, (setRow_other _ _ _ _ (by omega)).trans hHeld.2⟩ (fun hHeld2 => ?_)
  clear hK K hHeld
  simp only [Act.put]
  refine wpAnyH_ready (rs := [3]) (by kernel_rfl) (by simp) ?_
  refine AllReadyH.cons (o := { dst := none, op := .store 66 (.tmp 3) (.tmp 50), type := 0, pos := "head.go:48", after := #[{ on := 1, ground := .data }, { on := 2, ground := .chain }, { on := 0, ground := .phase }, { on := 1, ground := .phase }, { on := 2, ground := .phase }], guard := none }) rfl (fun K hK => ?_) AllReadyH.nil
  rw [if_pos (by rfl)]
  refine wp_store_row _ _ _ rfl (w.heap.size + 1) #[.int .i64 (num s 4 2), .int .i64 (num s 6 2), .int .i64 (num s 8 2), .int .i64 (num s 10 2)] rfl rfl _ _ ((setRow_other _ _ _ _ (by omega)).trans D4.out.r2) (by kernel_rfl) rfl (by simp [Value.oneCell']) ?_
  refine hK.out _ _ ⟨(setRow_other _ _ _ _ (by omega)).trans hHeld2.1, (setRow_other _ _ _ _ (by omega)).trans hHeld2.2⟩ (fun hHeld3 => ?_)
  clear hK K hHeld2
  simp only [Act.put]
  refine wpAnyH_ready (rs := [4]) (by kernel_rfl) (by simp) ?_
  refine AllReadyH.cons (o := { dst := some 4, op := .assign (.const (.int .i64 0)), type := 23, pos := "head.go:48", after := #[{ on := 3, ground := .chain }, { on := 0, ground := .phase }, { on := 1, ground := .phase }, { on := 2, ground := .phase }, { on := 3, ground := .phase }], guard := none }) rfl (fun K hK => ?_) AllReadyH.nil
  go_simp
  refine hK.out _ _ hHeld3 (fun _ => ?_)
  clear hK K hHeld3
  refine wpAnyH_done (by kernel_rfl) ?_ _
  go_wp2
  refine bodyPost_ret (results_ccr rfl _ _ w.heap.size (w.heap.size + 1) _ _ _ _ _ _ _ _ rfl ((setRow_other _ _ _ _ (by omega)).trans (bsetRow D4.out.r1 _)) Tryd.underlying30 rfl (by kernel_rfl) rfl (bsetRow ((setRow_other _ _ _ _ (by omega)).trans D4.out.r2) _) Tryd.underlying66 rfl (by kernel_rfl)) rfl ?_
  refine ⟨?_, gsetRow (gsetRow (gdrew D4.out.gr) (by omega) _) (by omega) _⟩
  have e := HH.out
  subst e
  rfl
end Go.Proofs.YthgendgmlpaglaaDoor
namespace Go.Proofs.YthgendgmlpaglaaDoor
open Go.RowKit

theorem gfr2l {a w : World} {o p : Obj} (h : ((a.alloc o).alloc p).grownBy w none) : a.grownBy w none := gfr1 (gfr1 h)

theorem put2_ex (w : World) (va : Value) (a : List UInt8) (x : Nat) (hx : x < 65536) (ha : SlB w va a) (hn : a.length ≤ 70368744177000) : Calls Tryd.prog 39 #[va, .int .u16 x] w fun e w' => ∃ v, e = .returned v ∧ SlB w' v (a ++ enc 2 x) ∧ w.grownBy w' none :=
  (put2_any w va a x hx ha hn).mono fun _ _ ⟨he, ho, hg⟩ => ⟨_, he, ho.sl, hg⟩

set_option maxHeartbeats 4000000 in
set_option maxRecDepth 100000 in
theorem write_ok (H : Hd) (a b c d : Int) (w : World) (hb : Bt w) (hi : H.id < 65536) (hg : ¬ H.bad) (h0 : 0 ≤ a ∧ a ≤ 65535) (h1 : 0 ≤ b ∧ b ≤ 65535) (h2 : 0 ≤ c ∧ c ≤ 65535) (h3 : 0 ≤ d ∧ d ≤ 65535) : Calls Tryd.prog 35 #[H.v, cv a b c d] w fun e w' => e = .returned (.tuple #[.string ⟨(enc 2 H.id ++ enc 2 (flagsN H) ++ enc 2 a.toNat ++ enc 2 b.toNat ++ enc 2 c.toNat ++ enc 2 d.toNat).toArray⟩, .int .i64 0]) ∧ w.grownBy w' none := by
  have HB := Lib.hid hb
  have e1 : flN H = flagsN H := if_neg hg
  have e2 : flE H = 0 := if_neg hg
  have HL := Lib.hid (flagsN_lt H hg)
  obtain ⟨y0, rfl⟩ : ∃ n : Nat, a = n := ⟨a.toNat, by omega⟩
  have p0 : ¬ ((y0 : Nat) : Int) < 0 := by omega
  have q0 : ¬ (65535 : Int) < ((y0 : Nat) : Int) := by omega
  have Y0 := Lib.hid (show y0 < 65536 by omega)
  have m0 : ((y0 : Nat) : Int) % 65536 = ((y0 : Nat) : Int) := by omega
  obtain ⟨y1, rfl⟩ : ∃ n : Nat, b = n := ⟨b.toNat, by omega⟩
  have p1 : ¬ ((y1 : Nat) : Int) < 0 := by omega
  have q1 : ¬ (65535 : Int) < ((y1 : Nat) : Int) := by omega
  have Y1 := Lib.hid (show y1 < 65536 by omega)
  have m1 : ((y1 : Nat) : Int) % 65536 = ((y1 : Nat) : Int) := by omega
  obtain ⟨y2, rfl⟩ : ∃ n : Nat, c = n := ⟨c.toNat, by omega⟩
  have p2 : ¬ ((y2 : Nat) : Int) < 0 := by omega
  have q2 : ¬ (65535 : Int) < ((y2 : Nat) : Int) := by omega
  have Y2 := Lib.hid (show y2 < 65536 by omega)
  have m2 : ((y2 : Nat) : Int) % 65536 = ((y2 : Nat) : Int) := by omega
  obtain ⟨y3, rfl⟩ : ∃ n : Nat, d = n := ⟨d.toNat, by omega⟩
  have p3 : ¬ ((y3 : Nat) : Int) < 0 := by omega
  have q3 : ¬ (65535 : Int) < ((y3 : Nat) : Int) := by omega
  have Y3 := Lib.hid (show y3 < 65536 by omega)
  have m3 : ((y3 : Nat) : Int) % 65536 = ((y3 : Nat) : Int) := by omega
  have HI := Lib.hid hi
  clear hb hg hi
  have i0 : ∀ w, (Instr.index 66 (.agg #[.int .i64 ((y0 : Nat) : Int), .int .i64 ((y1 : Nat) : Int), .int .i64 ((y2 : Nat) : Int), .int .i64 ((y3 : Nat) : Int)]) (.int .i64 0)).run Tryd.prog w = .ok (.int .i64 ((y0 : Nat) : Int)) w := fun _ => by kernel_rfl
  have i1 : ∀ w, (Instr.index 66 (.agg #[.int .i64 ((y0 : Nat) : Int), .int .i64 ((y1 : Nat) : Int), .int .i64 ((y2 : Nat) : Int), .int .i64 ((y3 : Nat) : Int)]) (.int .i64 1)).run Tryd.prog w = .ok (.int .i64 ((y1 : Nat) : Int)) w := fun _ => by kernel_rfl
  have i2 : ∀ w, (Instr.index 66 (.agg #[.int .i64 ((y0 : Nat) : Int), .int .i64 ((y1 : Nat) : Int), .int .i64 ((y2 : Nat) : Int), .int .i64 ((y3 : Nat) : Int)]) (.int .i64 2)).run Tryd.prog w = .ok (.int .i64 ((y2 : Nat) : Int)) w := fun _ => by kernel_rfl
  have i3 : ∀ w, (Instr.index 66 (.agg #[.int .i64 ((y0 : Nat) : Int), .int .i64 ((y1 : Nat) : Int), .int .i64 ((y2 : Nat) : Int), .int .i64 ((y3 : Nat) : Int)]) (.int .i64 3)).run Tryd.prog w = .ok (.int .i64 ((y3 : Nat) : Int)) w := fun _ => by kernel_rfl
  show Calls Tryd.prog 35 #[.agg #[.int .u16 H.id, .bool H.qr, .int .u8 H.op, .bool H.aa, .bool H.tc, .bool H.rd, .bool H.ra, .bool H.z, .bool H.ad, .bool H.cd, .int .u8 H.code], .agg #[.int .i64 ((y0 : Nat) : Int), .int .i64 ((y1 : Nat) : Int), .int .i64 ((y2 : Nat) : Int), .int .i64 ((y3 : Nat) : Int)]] w _
  go_enter Tryd.func35, Tryd.ntmps35
  go_wp2_with fail
  refine Calls.mono (flags_any H _ (HB.out.kept (galloc (galloc (grefl _ none) _) _) (by simp))) ?_
  rw [e1, e2]
  rintro e w1 ⟨rfl, hg⟩
  have G1 := Lib.hid (gfr2l hg)
  have R1 := Lib.hid (gblock hg (heap_alloc2_old w _ _) (by simp))
  have R2 := Lib.hid (gblock hg (heap_alloc2_new w _ _) (by simp))
  have c0 := bcellAt R1.out 0
  simp only [List.getElem?_toArray, List.getElem?_cons_zero] at c0
  clear hg
  go_wp2_with fail
  refine Calls.mono (put2_ex w1 _ [] H.id HI.out (Own.nil w1 0).sl (by simp)) ?_
  rintro e w2 ⟨v0, rfl, hsl, hg⟩
  have G2 := Lib.hid (gtrans G1.out hg)
  have S2 := Lib.hid hsl
  have R22 := Lib.hid (gblock hg R2.out (by simp))
  clear hg hsl G1 R1 R2 c0
  go_wp2_with fail
  refine Calls.mono (put2_ex w2 _ _ (flagsN H) HL.out S2.out (by simp [enc_len])) ?_
  rintro e w3 ⟨v1, rfl, hsl, hg⟩
  have G3 := Lib.hid (gtrans G2.out hg)
  have S3 := Lib.hid hsl
  have R23 := Lib.hid (gblock hg R22.out (by simp))
  clear hg hsl G2 S2 R22
  have ca0 := bcellAt R23.out 0
  have ca1 := bcellAt R23.out 1
  have ca2 := bcellAt R23.out 2
  have ca3 := bcellAt R23.out 3
  simp only [List.getElem?_toArray, List.getElem?_cons_zero, List.getElem?_cons_succ] at ca0 ca1 ca2 ca3
  go_wp2_with fail
  refine wp_loop_rounds 5 ?_
  clear ca0 ca1 ca2 ca3 R23
  rw [rounds_succ]
  go_wp2_with fail
  refine Calls.mono (put2_ex _ _ _ y0 Y0.out S3.out (by simp [enc_len])) ?_
  rintro e w4 ⟨v2, rfl, hsl, hg⟩
  have G4 := Lib.hid (gtrans G3.out hg)
  have S4 := Lib.hid hsl
  clear hg hsl G3 S3
  go_wp2_with fail
  rw [rounds_succ]
  go_wp2_with fail
  refine Calls.mono (put2_ex _ _ _ y1 Y1.out S4.out (by simp [enc_len])) ?_
  rintro e w5 ⟨v3, rfl, hsl, hg⟩
  have G5 := Lib.hid (gtrans G4.out hg)
  have S5 := Lib.hid hsl
  clear hg hsl G4 S4
  go_wp2_with fail
  rw [rounds_succ]
  go_wp2_with fail
  refine Calls.mono (put2_ex _ _ _ y2 Y2.out S5.out (by simp [enc_len])) ?_
  rintro e w6 ⟨v4, rfl, hsl, hg⟩
  have G6 := Lib.hid (gtrans G5.out hg)
  have S6 := Lib.hid hsl
  clear hg hsl G5 S5
  go_wp2_with fail
  rw [rounds_succ]
  go_wp2_with fail
  refine Calls.mono (put2_ex _ _ _ y3 Y3.out S6.out (by simp [enc_len])) ?_
  rintro e w7 ⟨v5, rfl, hsl, hg⟩
  have G7 := Lib.hid (gtrans G6.out hg)
  have S7 := Lib.hid hsl
  clear hg hsl G6 S6
  go_wp2_with fail
  rw [rounds_succ]
  have st := run_string_of (P := Tryd.prog) w7 26 9 5 Tryd.underlying26 Tryd.underlying5 Tryd.underlying9 S7.out
  go_wp2
  go_ret2
  exact ⟨rfl, G7.out⟩

set_option maxHeartbeats 4000000 in
set_option maxRecDepth 100000 in
theorem write_c3 (H : Hd) (a b c d : Int) (w : World) (hb : Bt w) (hi : H.id < 65536) (hg : ¬ H.bad) (h0 : 0 ≤ a ∧ a ≤ 65535) (h1 : 0 ≤ b ∧ b ≤ 65535) (h2 : 0 ≤ c ∧ c ≤ 65535) (hx : d < 0 ∨ 65535 < d) : Calls Tryd.prog 35 #[H.v, cv a b c d] w fun e w' => e = .returned (.tuple #[.string ByteArray.empty, .int .i64 1]) ∧ w.grownBy w' none := by
  have HB := Lib.hid hb
  have e1 : flN H = flagsN H := if_neg hg
  have e2 : flE H = 0 := if_neg hg
  have HL := Lib.hid (flagsN_lt H hg)
  obtain ⟨y0, rfl⟩ : ∃ n : Nat, a = n := ⟨a.toNat, by omega⟩
  have p0 : ¬ ((y0 : Nat) : Int) < 0 := by omega
  have q0 : ¬ (65535 : Int) < ((y0 : Nat) : Int) := by omega
  have Y0 := Lib.hid (show y0 < 65536 by omega)
  have m0 : ((y0 : Nat) : Int) % 65536 = ((y0 : Nat) : Int) := by omega
  obtain ⟨y1, rfl⟩ : ∃ n : Nat, b = n := ⟨b.toNat, by omega⟩
  have p1 : ¬ ((y1 : Nat) : Int) < 0 := by omega
  have q1 : ¬ (65535 : Int) < ((y1 : Nat) : Int) := by omega
  have Y1 := Lib.hid (show y1 < 65536 by omega)
  have m1 : ((y1 : Nat) : Int) % 65536 = ((y1 : Nat) : Int) := by omega
  obtain ⟨y2, rfl⟩ : ∃ n : Nat, c = n := ⟨c.toNat, by omega⟩
  have p2 : ¬ ((y2 : Nat) : Int) < 0 := by omega
  have q2 : ¬ (65535 : Int) < ((y2 : Nat) : Int) := by omega
  have Y2 := Lib.hid (show y2 < 65536 by omega)
  have m2 : ((y2 : Nat) : Int) % 65536 = ((y2 : Nat) : Int) := by omega
  have HI := Lib.hid hi
  clear hb hg hi
  have i0 : ∀ w, (Instr.index 66 (.agg #[.int .i64 ((y0 : Nat) : Int), .int .i64 ((y1 : Nat) : Int), .int .i64 ((y2 : Nat) : Int), .int .i64 d]) (.int .i64 0)).run Tryd.prog w = .ok (.int .i64 ((y0 : Nat) : Int)) w := fun _ => by kernel_rfl
  have i1 : ∀ w, (Instr.index 66 (.agg #[.int .i64 ((y0 : Nat) : Int), .int .i64 ((y1 : Nat) : Int), .int .i64 ((y2 : Nat) : Int), .int .i64 d]) (.int .i64 1)).run Tryd.prog w = .ok (.int .i64 ((y1 : Nat) : Int)) w := fun _ => by kernel_rfl
  have i2 : ∀ w, (Instr.index 66 (.agg #[.int .i64 ((y0 : Nat) : Int), .int .i64 ((y1 : Nat) : Int), .int .i64 ((y2 : Nat) : Int), .int .i64 d]) (.int .i64 2)).run Tryd.prog w = .ok (.int .i64 ((y2 : Nat) : Int)) w := fun _ => by kernel_rfl
  have i3 : ∀ w, (Instr.index 66 (.agg #[.int .i64 ((y0 : Nat) : Int), .int .i64 ((y1 : Nat) : Int), .int .i64 ((y2 : Nat) : Int), .int .i64 d]) (.int .i64 3)).run Tryd.prog w = .ok (.int .i64 d) w := fun _ => by kernel_rfl
  show Calls Tryd.prog 35 #[.agg #[.int .u16 H.id, .bool H.qr, .int .u8 H.op, .bool H.aa, .bool H.tc, .bool H.rd, .bool H.ra, .bool H.z, .bool H.ad, .bool H.cd, .int .u8 H.code], .agg #[.int .i64 ((y0 : Nat) : Int), .int .i64 ((y1 : Nat) : Int), .int .i64 ((y2 : Nat) : Int), .int .i64 d]] w _
  go_enter Tryd.func35, Tryd.ntmps35
  go_wp2_with fail
  refine Calls.mono (flags_any H _ (HB.out.kept (galloc (galloc (grefl _ none) _) _) (by simp))) ?_
  rw [e1, e2]
  rintro e w1 ⟨rfl, hg⟩
  have G1 := Lib.hid (gfr2l hg)
  have R1 := Lib.hid (gblock hg (heap_alloc2_old w _ _) (by simp))
  have R2 := Lib.hid (gblock hg (heap_alloc2_new w _ _) (by simp))
  have c0 := bcellAt R1.out 0
  simp only [List.getElem?_toArray, List.getElem?_cons_zero] at c0
  clear hg
  go_wp2_with fail
  refine Calls.mono (put2_ex w1 _ [] H.id HI.out (Own.nil w1 0).sl (by simp)) ?_
  rintro e w2 ⟨v0, rfl, hsl, hg⟩
  have G2 := Lib.hid (gtrans G1.out hg)
  have S2 := Lib.hid hsl
  have R22 := Lib.hid (gblock hg R2.out (by simp))
  clear hg hsl G1 R1 R2 c0
  go_wp2_with fail
  refine Calls.mono (put2_ex w2 _ _ (flagsN H) HL.out S2.out (by simp [enc_len])) ?_
  rintro e w3 ⟨v1, rfl, hsl, hg⟩
  have G3 := Lib.hid (gtrans G2.out hg)
  have S3 := Lib.hid hsl
  have R23 := Lib.hid (gblock hg R22.out (by simp))
  clear hg hsl G2 S2 R22
  have ca0 := bcellAt R23.out 0
  have ca1 := bcellAt R23.out 1
  have ca2 := bcellAt R23.out 2
  have ca3 := bcellAt R23.out 3
  simp only [List.getElem?_toArray, List.getElem?_cons_zero, List.getElem?_cons_succ] at ca0 ca1 ca2 ca3
  go_wp2_with fail
  refine wp_loop_rounds 5 ?_
  clear ca0 ca1 ca2 ca3 R23
  rw [rounds_succ]
  go_wp2_with fail
  refine Calls.mono (put2_ex _ _ _ y0 Y0.out S3.out (by simp [enc_len])) ?_
  rintro e w4 ⟨v2, rfl, hsl, hg⟩
  have G4 := Lib.hid (gtrans G3.out hg)
  have S4 := Lib.hid hsl
  clear hg hsl G3 S3
  go_wp2_with fail
  rw [rounds_succ]
  go_wp2_with fail
  refine Calls.mono (put2_ex _ _ _ y1 Y1.out S4.out (by simp [enc_len])) ?_
  rintro e w5 ⟨v3, rfl, hsl, hg⟩
  have G5 := Lib.hid (gtrans G4.out hg)
  have S5 := Lib.hid hsl
  clear hg hsl G4 S4
  go_wp2_with fail
  rw [rounds_succ]
  go_wp2_with fail
  refine Calls.mono (put2_ex _ _ _ y2 Y2.out S5.out (by simp [enc_len])) ?_
  rintro e w6 ⟨v4, rfl, hsl, hg⟩
  have G6 := Lib.hid (gtrans G5.out hg)
  have S6 := Lib.hid hsl
  clear hg hsl G5 S5
  go_wp2_with fail
  rw [rounds_succ]
  by_cases hn : d < 0
  · go_wp2
    go_ret2
    exact ⟨rfl, G6.out⟩
  · have hn2 : 65535 < d := by omega
    go_wp2
    go_ret2
    exact ⟨rfl, G6.out⟩

set_option maxHeartbeats 4000000 in
set_option maxRecDepth 100000 in
theorem write_c2 (H : Hd) (a b c d : Int) (w : World) (hb : Bt w) (hi : H.id < 65536) (hg : ¬ H.bad) (h0 : 0 ≤ a ∧ a ≤ 65535) (h1 : 0 ≤ b ∧ b ≤ 65535) (hx : c < 0 ∨ 65535 < c) : Calls Tryd.prog 35 #[H.v, cv a b c d] w fun e w' => e = .returned (.tuple #[.string ByteArray.empty, .int .i64 1]) ∧ w.grownBy w' none := by
  have HB := Lib.hid hb
  have e1 : flN H = flagsN H := if_neg hg
  have e2 : flE H = 0 := if_neg hg
  have HL := Lib.hid (flagsN_lt H hg)
  obtain ⟨y0, rfl⟩ : ∃ n : Nat, a = n := ⟨a.toNat, by omega⟩
  have p0 : ¬ ((y0 : Nat) : Int) < 0 := by omega
  have q0 : ¬ (65535 : Int) < ((y0 : Nat) : Int) := by omega
  have Y0 := Lib.hid (show y0 < 65536 by omega)
  have m0 : ((y0 : Nat) : Int) % 65536 = ((y0 : Nat) : Int) := by omega
  obtain ⟨y1, rfl⟩ : ∃ n : Nat, b = n := ⟨b.toNat, by omega⟩
  have p1 : ¬ ((y1 : Nat) : Int) < 0 := by omega
  have q1 : ¬ (65535 : Int) < ((y1 : Nat) : Int) := by omega
  have Y1 := Lib.hid (show y1 < 65536 by omega)
  have m1 : ((y1 : Nat) : Int) % 65536 = ((y1 : Nat) : Int) := by omega
  have HI := Lib.hid hi
  clear hb hg hi
  have i0 : ∀ w, (Instr.index 66 (.agg #[.int .i64 ((y0 : Nat) : Int), .int .i64 ((y1 : Nat) : Int), .int .i64 c, .int .i64 d]) (.int .i64 0)).run Tryd.prog w = .ok (.int .i64 ((y0 : Nat) : Int)) w := fun _ => by kernel_rfl
  have i1 : ∀ w, (Instr.index 66 (.agg #[.int .i64 ((y0 : Nat) : Int), .int .i64 ((y1 : Nat) : Int), .int .i64 c, .int .i64 d]) (.int .i64 1)).run Tryd.prog w = .ok (.int .i64 ((y1 : Nat) : Int)) w := fun _ => by kernel_rfl
  have i2 : ∀ w, (Instr.index 66 (.agg #[.int .i64 ((y0 : Nat) : Int), .int .i64 ((y1 : Nat) : Int), .int .i64 c, .int .i64 d]) (.int .i64 2)).run Tryd.prog w = .ok (.int .i64 c) w := fun _ => by kernel_rfl
  have i3 : ∀ w, (Instr.index 66 (.agg #[.int .i64 ((y0 : Nat) : Int), .int .i64 ((y1 : Nat) : Int), .int .i64 c, .int .i64 d]) (.int .i64 3)).run Tryd.prog w = .ok (.int .i64 d) w := fun _ => by kernel_rfl
  show Calls Tryd.prog 35 #[.agg #[.int .u16 H.id, .bool H.qr, .int .u8 H.op, .bool H.aa, .bool H.tc, .bool H.rd, .bool H.ra, .bool H.z, .bool H.ad, .bool H.cd, .int .u8 H.code], .agg #[.int .i64 ((y0 : Nat) : Int), .int .i64 ((y1 : Nat) : Int), .int .i64 c, .int .i64 d]] w _
  go_enter Tryd.func35, Tryd.ntmps35
  go_wp2_with fail
  refine Calls.mono (flags_any H _ (HB.out.kept (galloc (galloc (grefl _ none) _) _) (by simp))) ?_
  rw [e1, e2]
  rintro e w1 ⟨rfl, hg⟩
  have G1 := Lib.hid (gfr2l hg)
  have R1 := Lib.hid (gblock hg (heap_alloc2_old w _ _) (by simp))
  have R2 := Lib.hid (gblock hg (heap_alloc2_new w _ _) (by simp))
  have c0 := bcellAt R1.out 0
  simp only [List.getElem?_toArray, List.getElem?_cons_zero] at c0
  clear hg
  go_wp2_with fail
  refine Calls.mono (put2_ex w1 _ [] H.id HI.out (Own.nil w1 0).sl (by simp)) ?_
  rintro e w2 ⟨v0, rfl, hsl, hg⟩
  have G2 := Lib.hid (gtrans G1.out hg)
  have S2 := Lib.hid hsl
  have R22 := Lib.hid (gblock hg R2.out (by simp))
  clear hg hsl G1 R1 R2 c0
  go_wp2_with fail
  refine Calls.mono (put2_ex w2 _ _ (flagsN H) HL.out S2.out (by simp [enc_len])) ?_
  rintro e w3 ⟨v1, rfl, hsl, hg⟩
  have G3 := Lib.hid (gtrans G2.out hg)
  have S3 := Lib.hid hsl
  have R23 := Lib.hid (gblock hg R22.out (by simp))
  clear hg hsl G2 S2 R22
  have ca0 := bcellAt R23.out 0
  have ca1 := bcellAt R23.out 1
  have ca2 := bcellAt R23.out 2
  have ca3 := bcellAt R23.out 3
  simp only [List.getElem?_toArray, List.getElem?_cons_zero, List.getElem?_cons_succ] at ca0 ca1 ca2 ca3
  go_wp2_with fail
  refine wp_loop_rounds 5 ?_
  clear ca0 ca1 ca2 ca3 R23
  rw [rounds_succ]
  go_wp2_with fail
  refine Calls.mono (put2_ex _ _ _ y0 Y0.out S3.out (by simp [enc_len])) ?_
  rintro e w4 ⟨v2, rfl, hsl, hg⟩
  have G4 := Lib.hid (gtrans G3.out hg)
  have S4 := Lib.hid hsl
  clear hg hsl G3 S3
  go_wp2_with fail
  rw [rounds_succ]
  go_wp2_with fail
  refine Calls.mono (put2_ex _ _ _ y1 Y1.out S4.out (by simp [enc_len])) ?_
  rintro e w5 ⟨v3, rfl, hsl, hg⟩
  have G5 := Lib.hid (gtrans G4.out hg)
  have S5 := Lib.hid hsl
  clear hg hsl G4 S4
  go_wp2_with fail
  rw [rounds_succ]
  by_cases hn : c < 0
  · go_wp2
    go_ret2
    exact ⟨rfl, G5.out⟩
  · have hn2 : 65535 < c := by omega
    go_wp2
    go_ret2
    exact ⟨rfl, G5.out⟩

set_option maxHeartbeats 4000000 in
set_option maxRecDepth 100000 in
theorem write_c1 (H : Hd) (a b c d : Int) (w : World) (hb : Bt w) (hi : H.id < 65536) (hg : ¬ H.bad) (h0 : 0 ≤ a ∧ a ≤ 65535) (hx : b < 0 ∨ 65535 < b) : Calls Tryd.prog 35 #[H.v, cv a b c d] w fun e w' => e = .returned (.tuple #[.string ByteArray.empty, .int .i64 1]) ∧ w.grownBy w' none := by
  have HB := Lib.hid hb
  have e1 : flN H = flagsN H := if_neg hg
  have e2 : flE H = 0 := if_neg hg
  have HL := Lib.hid (flagsN_lt H hg)
  obtain ⟨y0, rfl⟩ : ∃ n : Nat, a = n := ⟨a.toNat, by omega⟩
  have p0 : ¬ ((y0 : Nat) : Int) < 0 := by omega
  have q0 : ¬ (65535 : Int) < ((y0 : Nat) : Int) := by omega
  have Y0 := Lib.hid (show y0 < 65536 by omega)
  have m0 : ((y0 : Nat) : Int) % 65536 = ((y0 : Nat) : Int) := by omega
  have HI := Lib.hid hi
  clear hb hg hi
  have i0 : ∀ w, (Instr.index 66 (.agg #[.int .i64 ((y0 : Nat) : Int), .int .i64 b, .int .i64 c, .int .i64 d]) (.int .i64 0)).run Tryd.prog w = .ok (.int .i64 ((y0 : Nat) : Int)) w := fun _ => by kernel_rfl
  have i1 : ∀ w, (Instr.index 66 (.agg #[.int .i64 ((y0 : Nat) : Int), .int .i64 b, .int .i64 c, .int .i64 d]) (.int .i64 1)).run Tryd.prog w = .ok (.int .i64 b) w := fun _ => by kernel_rfl
  have i2 : ∀ w, (Instr.index 66 (.agg #[.int .i64 ((y0 : Nat) : Int), .int .i64 b, .int .i64 c, .int .i64 d]) (.int .i64 2)).run Tryd.prog w = .ok (.int .i64 c) w := fun _ => by kernel_rfl
  have i3 : ∀ w, (Instr.index 66 (.agg #[.int .i64 ((y0 : Nat) : Int), .int .i64 b, .int .i64 c, .int .i64 d]) (.int .i64 3)).run Tryd.prog w = .ok (.int .i64 d) w := fun _ => by kernel_rfl
  show Calls Tryd.prog 35 #[.agg #[.int .u16 H.id, .bool H.qr, .int .u8 H.op, .bool H.aa, .bool H.tc, .bool H.rd, .bool H.ra, .bool H.z, .bool H.ad, .bool H.cd, .int .u8 H.code], .agg #[.int .i64 ((y0 : Nat) : Int), .int .i64 b, .int .i64 c, .int .i64 d]] w _
  go_enter Tryd.func35, Tryd.ntmps35
  go_wp2_with fail
  refine Calls.mono (flags_any H _ (HB.out.kept (galloc (galloc (grefl _ none) _) _) (by simp))) ?_
  rw [e1, e2]
  rintro e w1 ⟨rfl, hg⟩
  have G1 := Lib.hid (gfr2l hg)
  have R1 := Lib.hid (gblock hg (heap_alloc2_old w _ _) (by simp))
  have R2 := Lib.hid (gblock hg (heap_alloc2_new w _ _) (by simp))
  have c0 := bcellAt R1.out 0
  simp only [List.getElem?_toArray, List.getElem?_cons_zero] at c0
  clear hg
  go_wp2_with fail
  refine Calls.mono (put2_ex w1 _ [] H.id HI.out (Own.nil w1 0).sl (by simp)) ?_
  rintro e w2 ⟨v0, rfl, hsl, hg⟩
  have G2 := Lib.hid (gtrans G1.out hg)
  have S2 := Lib.hid hsl
  have R22 := Lib.hid (gblock hg R2.out (by simp))
  clear hg hsl G1 R1 R2 c0
  go_wp2_with fail
  refine Calls.mono (put2_ex w2 _ _ (flagsN H) HL.out S2.out (by simp [enc_len])) ?_
  rintro e w3 ⟨v1, rfl, hsl, hg⟩
  have G3 := Lib.hid (gtrans G2.out hg)
  have S3 := Lib.hid hsl
  have R23 := Lib.hid (gblock hg R22.out (by simp))
  clear hg hsl G2 S2 R22
  have ca0 := bcellAt R23.out 0
  have ca1 := bcellAt R23.out 1
  have ca2 := bcellAt R23.out 2
  have ca3 := bcellAt R23.out 3
  simp only [List.getElem?_toArray, List.getElem?_cons_zero, List.getElem?_cons_succ] at ca0 ca1 ca2 ca3
  go_wp2_with fail
  refine wp_loop_rounds 5 ?_
  clear ca0 ca1 ca2 ca3 R23
  rw [rounds_succ]
  go_wp2_with fail
  refine Calls.mono (put2_ex _ _ _ y0 Y0.out S3.out (by simp [enc_len])) ?_
  rintro e w4 ⟨v2, rfl, hsl, hg⟩
  have G4 := Lib.hid (gtrans G3.out hg)
  have S4 := Lib.hid hsl
  clear hg hsl G3 S3
  go_wp2_with fail
  rw [rounds_succ]
  by_cases hn : b < 0
  · go_wp2
    go_ret2
    exact ⟨rfl, G4.out⟩
  · have hn2 : 65535 < b := by omega
    go_wp2
    go_ret2
    exact ⟨rfl, G4.out⟩

set_option maxHeartbeats 4000000 in
set_option maxRecDepth 100000 in
theorem write_c0 (H : Hd) (a b c d : Int) (w : World) (hb : Bt w) (hi : H.id < 65536) (hg : ¬ H.bad) (hx : a < 0 ∨ 65535 < a) : Calls Tryd.prog 35 #[H.v, cv a b c d] w fun e w' => e = .returned (.tuple #[.string ByteArray.empty, .int .i64 1]) ∧ w.grownBy w' none := by
  have HB := Lib.hid hb
  have e1 : flN H = flagsN H := if_neg hg
  have e2 : flE H = 0 := if_neg hg
  have HL := Lib.hid (flagsN_lt H hg)
  have HI := Lib.hid hi
  clear hb hg hi
  have i0 : ∀ w, (Instr.index 66 (.agg #[.int .i64 a, .int .i64 b, .int .i64 c, .int .i64 d]) (.int .i64 0)).run Tryd.prog w = .ok (.int .i64 a) w := fun _ => by kernel_rfl
  have i1 : ∀ w, (Instr.index 66 (.agg #[.int .i64 a, .int .i64 b, .int .i64 c, .int .i64 d]) (.int .i64 1)).run Tryd.prog w = .ok (.int .i64 b) w := fun _ => by kernel_rfl
  have i2 : ∀ w, (Instr.index 66 (.agg #[.int .i64 a, .int .i64 b, .int .i64 c, .int .i64 d]) (.int .i64 2)).run Tryd.prog w = .ok (.int .i64 c) w := fun _ => by kernel_rfl
  have i3 : ∀ w, (Instr.index 66 (.agg #[.int .i64 a, .int .i64 b, .int .i64 c, .int .i64 d]) (.int .i64 3)).run Tryd.prog w = .ok (.int .i64 d) w := fun _ => by kernel_rfl
  show Calls Tryd.prog 35 #[.agg #[.int .u16 H.id, .bool H.qr, .int .u8 H.op, .bool H.aa, .bool H.tc, .bool H.rd, .bool H.ra, .bool H.z, .bool H.ad, .bool H.cd, .int .u8 H.code], .agg #[.int .i64 a, .int .i64 b, .int .i64 c, .int .i64 d]] w _
  go_enter Tryd.func35, Tryd.ntmps35
  go_wp2_with fail
  refine Calls.mono (flags_any H _ (HB.out.kept (galloc (galloc (grefl _ none) _) _) (by simp))) ?_
  rw [e1, e2]
  rintro e w1 ⟨rfl, hg⟩
  have G1 := Lib.hid (gfr2l hg)
  have R1 := Lib.hid (gblock hg (heap_alloc2_old w _ _) (by simp))
  have R2 := Lib.hid (gblock hg (heap_alloc2_new w _ _) (by simp))
  have c0 := bcellAt R1.out 0
  simp only [List.getElem?_toArray, List.getElem?_cons_zero] at c0
  clear hg
  go_wp2_with fail
  refine Calls.mono (put2_ex w1 _ [] H.id HI.out (Own.nil w1 0).sl (by simp)) ?_
  rintro e w2 ⟨v0, rfl, hsl, hg⟩
  have G2 := Lib.hid (gtrans G1.out hg)
  have S2 := Lib.hid hsl
  have R22 := Lib.hid (gblock hg R2.out (by simp))
  clear hg hsl G1 R1 R2 c0
  go_wp2_with fail
  refine Calls.mono (put2_ex w2 _ _ (flagsN H) HL.out S2.out (by simp [enc_len])) ?_
  rintro e w3 ⟨v1, rfl, hsl, hg⟩
  have G3 := Lib.hid (gtrans G2.out hg)
  have S3 := Lib.hid hsl
  have R23 := Lib.hid (gblock hg R22.out (by simp))
  clear hg hsl G2 S2 R22
  have ca0 := bcellAt R23.out 0
  have ca1 := bcellAt R23.out 1
  have ca2 := bcellAt R23.out 2
  have ca3 := bcellAt R23.out 3
  simp only [List.getElem?_toArray, List.getElem?_cons_zero, List.getElem?_cons_succ] at ca0 ca1 ca2 ca3
  go_wp2_with fail
  refine wp_loop_rounds 5 ?_
  clear ca0 ca1 ca2 ca3 R23
  rw [rounds_succ]
  by_cases hn : a < 0
  · go_wp2
    go_ret2
    exact ⟨rfl, G3.out⟩
  · have hn2 : 65535 < a := by omega
    go_wp2
    go_ret2
    exact ⟨rfl, G3.out⟩

set_option maxHeartbeats 4000000 in
set_option maxRecDepth 100000 in
theorem write_bad (H : Hd) (a b c d : Int) (w : World) (hb : Bt w) (hg : H.bad) : Calls Tryd.prog 35 #[H.v, cv a b c d] w fun e w' => e = .returned (.tuple #[.string ByteArray.empty, .int .i64 1]) ∧ w.grownBy w' none := by
  have HB := Lib.hid hb
  have e1 : flN H = 0 := if_pos hg
  have e2 : flE H = 1 := if_pos hg
  clear hb hg
  show Calls Tryd.prog 35 #[.agg #[.int .u16 H.id, .bool H.qr, .int .u8 H.op, .bool H.aa, .bool H.tc, .bool H.rd, .bool H.ra, .bool H.z, .bool H.ad, .bool H.cd, .int .u8 H.code], .agg #[.int .i64 a, .int .i64 b, .int .i64 c, .int .i64 d]] w _
  go_enter Tryd.func35, Tryd.ntmps35
  go_wp2_with fail
  refine Calls.mono (flags_any H _ (HB.out.kept (galloc (galloc (grefl _ none) _) _) (by simp))) ?_
  rw [e1, e2]
  rintro e w1 ⟨rfl, hg⟩
  have G1 := Lib.hid (gfr2l hg)
  clear hg
  go_wp2
  go_ret2
  exact ⟨rfl, G1.out⟩

/-- May this header with these counts be written? -/
def okW (H : Hd) (a b c d : Int) : Prop := ¬ H.bad ∧ (0 ≤ a ∧ a ≤ 65535) ∧ (0 ≤ b ∧ b ≤ 65535) ∧ (0 ≤ c ∧ c ≤ 65535) ∧ (0 ≤ d ∧ d ≤ 65535)
instance (H : Hd) (a b c d : Int) : Decidable (okW H a b c d) := inferInstanceAs (Decidable (_ ∧ _))
def wrL (H : Hd) (a b c d : Int) : List UInt8 := enc 2 H.id ++ enc 2 (flagsN H) ++ enc 2 a.toNat ++ enc 2 b.toNat ++ enc 2 c.toNat ++ enc 2 d.toNat
def wrS (H : Hd) (a b c d : Int) : ByteArray := if okW H a b c d then ⟨(wrL H a b c d).toArray⟩ else ByteArray.empty
def wrE (H : Hd) (a b c d : Int) : Int := if okW H a b c d then 0 else 1
theorem write_any (H : Hd) (a b c d : Int) (w : World) (hb : Bt w) (hi : H.id < 65536) : Calls Tryd.prog 35 #[H.v, cv a b c d] w fun e w' => e = .returned (.tuple #[.string (wrS H a b c d), .int .i64 (wrE H a b c d)]) ∧ w.grownBy w' none := by
  unfold wrS wrE
  by_cases h : okW H a b c d
  · rw [if_pos h, if_pos h]
    exact write_ok H a b c d w hb hi h.1 h.2.1 h.2.2.1 h.2.2.2.1 h.2.2.2.2
  · rw [if_neg h, if_neg h]
    unfold okW at h
    by_cases hg : H.bad
    · exact write_bad H a b c d w hb hg
    by_cases h0 : 0 ≤ a ∧ a ≤ 65535
    · by_cases h1 : 0 ≤ b ∧ b ≤ 65535
      · by_cases h2 : 0 ≤ c ∧ c ≤ 65535
        · exact write_c3 H a b c d w hb hi hg h0 h1 h2 (by have h3 : ¬ (0 ≤ d ∧ d ≤ 65535) := fun h3 => h ⟨hg, h0, h1, h2, h3⟩; omega)
        · exact write_c2 H a b c d w hb hi hg h0 h1 (by omega)
      · exact write_c1 H a b c d w hb hi hg h0 (by omega)
    · exact write_c0 H a b c d w hb hi hg (by omega)
end Go.Proofs.YthgendgmlpaglaaDoor
