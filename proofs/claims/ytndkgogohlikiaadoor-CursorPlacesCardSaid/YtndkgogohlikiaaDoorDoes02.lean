/-
  The law package's does(): the program's cursor and the reference's answer an act alike, and stand at the same place behind it.
-/
import Derived.Test.YtndkgogohlikiaaDoorAwake02
import Derived.Test.YtndkgogohlikiaaDoorRef02
import Derived.Deep.RegionHeld3
namespace Go.Proofs.YtndkgogohlikiaaDoor
open Go.RowKit

/-- Only the blocks b1, b2 and new blocks have turned. -/
structure Fr2 (b1 b2 : Nat) (w w' : World) : Prop where
  os : w'.os = w.os
  tape : w'.tape = w.tape
  output : w'.output = w.output
  size : w.heap.size ≤ w'.heap.size
  block : ∀ k, k < w.heap.size → k ≠ b1 → k ≠ b2 → w'.heap[k]? = w.heap[k]?
theorem Fr2.one {b1 b2 : Nat} {w w' : World} (h : w.grownBy w' (some b1)) : Fr2 b1 b2 w w' := ⟨h.os, h.tape, h.output, h.size, fun k hk h1 _ => h.block k hk (by simpa using h1)⟩
theorem Fr2.two {b1 b2 : Nat} {w w' : World} (h : w.grownBy w' (some b2)) : Fr2 b1 b2 w w' := ⟨h.os, h.tape, h.output, h.size, fun k hk _ h1 => h.block k hk (by simpa using h1)⟩
theorem Fr2.new {b1 b2 : Nat} {w w' : World} (h : w.grownBy w' none) : Fr2 b1 b2 w w' := Fr2.one (gmono h)
theorem Fr2.trans {b1 b2 : Nat} {a b c : World} (h : Fr2 b1 b2 a b) (k : Fr2 b1 b2 b c) : Fr2 b1 b2 a c :=
  ⟨k.os.trans h.os, k.tape.trans h.tape, k.output.trans h.output, Nat.le_trans h.size k.size, fun i hi h1 h2 => (k.block i (Nat.lt_of_lt_of_le hi h.size) h1 h2).trans (h.block i hi h1 h2)⟩
theorem Fr2.grown {b1 b2 : Nat} {a w w' : World} (h : a.grownBy w none) (k : Fr2 b1 b2 w w') (h1 : a.heap.size ≤ b1) (h2 : a.heap.size ≤ b2) : a.grownBy w' none :=
  ⟨k.os.trans h.os, k.tape.trans h.tape, k.output.trans h.output, Nat.le_trans h.size k.size, fun i hi _ => (k.block i (Nat.lt_of_lt_of_le hi h.size) (by omega) (by omega)).trans (h.block i hi (by simp))⟩

/-- Where an act leaves the cursor. -/
def actP (s : ByteArray) (p : Nat) (what : Nat) (n : Int) : Nat :=
  if what = 0 then rdP s p 1 else if what = 1 then rdP s p 2 else if what = 2 then rdP s p 4 else if what = 3 then tkP s p n else skP s p n
theorem actP_le (s : ByteArray) (p : Nat) (what : Nat) (n : Int) (h : p ≤ s.size) : actP s p what n ≤ s.size := by
  unfold actP
  repeat' split
  all_goals first | exact rdP_le _ _ _ h | exact tkP_le _ _ _ h | exact skP_le _ _ _ h

theorem RCur.kept {w w' : World} {b : Nat} {s : ByteArray} {p : Nat} {row : Option Nat} (h : RCur w b s p) (g : w.grownBy w' row) (hr : some b ≠ row) : RCur w' b s p := gblock g h hr

theorem does_0 (bc bx : Nat) (s : ByteArray) (p : Nat) (n : Int) (w : World) (he : Et w) (hc : Cur w bc s p) (hx : RCur w bx s p) (hne : bc ≠ bx) (hp : p ≤ s.size) (hs : s.size ≤ maxLen) :
    Calls Tryd.prog 21 #[.pointer (some ⟨bc, 0, none⟩), .pointer (some ⟨bx, 0, none⟩), .agg #[.int .u8 0, .int .i64 n]] w fun e w' => e = .returned (.bool true) ∧ Cur w' bc s (rdP s p 1) ∧ RCur w' bx s (rdP s p 1) ∧ Fr2 bc bx w w' := by
  have hv := rdV_lt s p 1
  have HE := Lib.hid he
  have HC := Lib.hid hc
  have HX := Lib.hid hx
  have HN := Lib.hid hne
  clear he hc hx hne
  go_enter Tryd.func21, Tryd.ntmps21
  go_wp2_with fail
  refine (byte_any bc s p _ (HC.out.kept (galloc (grefl _ none) _) (by simp)) (HE.out.kept (galloc (grefl _ none) _) (by simp)) hp hs).mono ?_
  rintro e w1 ⟨rfl, hc1, hg1⟩
  have HC1 := Lib.hid hc1
  have HG1 := Lib.hid hg1
  clear hc1 hg1
  go_wp2_with fail
  refine (number_any bx s p 1 w1 ((HX.out.kept (galloc (grefl _ none) _) (by simp)).kept HG1.out (fun e => HN.out (Option.some.inj e).symm)) hp (by omega) hs).mono ?_
  rintro e w2 ⟨rfl, hx2, hg2⟩
  have HX2 := Lib.hid hx2
  have HG2 := Lib.hid hg2
  clear hx2 hg2
  go_wp2_with fail
  go_ret
  exact ⟨rfl, HC1.out.kept HG2.out (fun e => HN.out (Option.some.inj e)), HX2.out, ((Fr2.new (galloc (grefl _ none) _)).trans (Fr2.one HG1.out)).trans (Fr2.two HG2.out)⟩

theorem does_1 (bc bx : Nat) (s : ByteArray) (p : Nat) (n : Int) (w : World) (he : Et w) (hc : Cur w bc s p) (hx : RCur w bx s p) (hne : bc ≠ bx) (hp : p ≤ s.size) (hs : s.size ≤ maxLen) :
    Calls Tryd.prog 21 #[.pointer (some ⟨bc, 0, none⟩), .pointer (some ⟨bx, 0, none⟩), .agg #[.int .u8 1, .int .i64 n]] w fun e w' => e = .returned (.bool true) ∧ Cur w' bc s (rdP s p 2) ∧ RCur w' bx s (rdP s p 2) ∧ Fr2 bc bx w w' := by
  have hv := rdV_lt s p 2
  have HE := Lib.hid he
  have HC := Lib.hid hc
  have HX := Lib.hid hx
  have HN := Lib.hid hne
  clear he hc hx hne
  go_enter Tryd.func21, Tryd.ntmps21
  go_wp2_with fail
  refine (two_any bc s p _ (HC.out.kept (galloc (grefl _ none) _) (by simp)) (HE.out.kept (galloc (grefl _ none) _) (by simp)) hp hs).mono ?_
  rintro e w1 ⟨rfl, hc1, hg1⟩
  have HC1 := Lib.hid hc1
  have HG1 := Lib.hid hg1
  clear hc1 hg1
  go_wp2_with fail
  refine (number_any bx s p 2 w1 ((HX.out.kept (galloc (grefl _ none) _) (by simp)).kept HG1.out (fun e => HN.out (Option.some.inj e).symm)) hp (by omega) hs).mono ?_
  rintro e w2 ⟨rfl, hx2, hg2⟩
  have HX2 := Lib.hid hx2
  have HG2 := Lib.hid hg2
  clear hx2 hg2
  go_wp2_with fail
  go_ret
  exact ⟨rfl, HC1.out.kept HG2.out (fun e => HN.out (Option.some.inj e)), HX2.out, ((Fr2.new (galloc (grefl _ none) _)).trans (Fr2.one HG1.out)).trans (Fr2.two HG2.out)⟩

theorem does_2 (bc bx : Nat) (s : ByteArray) (p : Nat) (n : Int) (w : World) (he : Et w) (hc : Cur w bc s p) (hx : RCur w bx s p) (hne : bc ≠ bx) (hp : p ≤ s.size) (hs : s.size ≤ maxLen) :
    Calls Tryd.prog 21 #[.pointer (some ⟨bc, 0, none⟩), .pointer (some ⟨bx, 0, none⟩), .agg #[.int .u8 2, .int .i64 n]] w fun e w' => e = .returned (.bool true) ∧ Cur w' bc s (rdP s p 4) ∧ RCur w' bx s (rdP s p 4) ∧ Fr2 bc bx w w' := by
  have hv := rdV_lt s p 4
  have HE := Lib.hid he
  have HC := Lib.hid hc
  have HX := Lib.hid hx
  have HN := Lib.hid hne
  clear he hc hx hne
  go_enter Tryd.func21, Tryd.ntmps21
  go_wp2_with fail
  refine (four_any bc s p _ (HC.out.kept (galloc (grefl _ none) _) (by simp)) (HE.out.kept (galloc (grefl _ none) _) (by simp)) hp hs).mono ?_
  rintro e w1 ⟨rfl, hc1, hg1⟩
  have HC1 := Lib.hid hc1
  have HG1 := Lib.hid hg1
  clear hc1 hg1
  go_wp2_with fail
  refine (number_any bx s p 4 w1 ((HX.out.kept (galloc (grefl _ none) _) (by simp)).kept HG1.out (fun e => HN.out (Option.some.inj e).symm)) hp (by omega) hs).mono ?_
  rintro e w2 ⟨rfl, hx2, hg2⟩
  have HX2 := Lib.hid hx2
  have HG2 := Lib.hid hg2
  clear hx2 hg2
  go_wp2_with fail
  go_ret
  exact ⟨rfl, HC1.out.kept HG2.out (fun e => HN.out (Option.some.inj e)), HX2.out, ((Fr2.new (galloc (grefl _ none) _)).trans (Fr2.one HG1.out)).trans (Fr2.two HG2.out)⟩

theorem does_3 (bc bx : Nat) (s : ByteArray) (p : Nat) (n : Int) (w : World) (he : Et w) (hc : Cur w bc s p) (hx : RCur w bx s p) (hne : bc ≠ bx) (hp : p ≤ s.size) (hs : s.size ≤ maxLen) :
    Calls Tryd.prog 21 #[.pointer (some ⟨bc, 0, none⟩), .pointer (some ⟨bx, 0, none⟩), .agg #[.int .u8 3, .int .i64 n]] w fun e w' => e = .returned (.bool true) ∧ Cur w' bc s (tkP s p n) ∧ RCur w' bx s (tkP s p n) ∧ Fr2 bc bx w w' := by
  have hlc : bc < w.heap.size := blt hc
  have HE := Lib.hid he
  have HC := Lib.hid hc
  have HX := Lib.hid hx
  have HN := Lib.hid hne
  clear he hc hx hne
  go_enter Tryd.func21, Tryd.ntmps21
  go_wp2_with fail
  refine (T_any bc s p _ n (HC.out.kept (galloc (grefl _ none) _) (by simp)) (HE.out.kept (galloc (grefl _ none) _) (by simp)) hp hs).mono ?_
  rintro e w1 ⟨rfl, hc1, hg1⟩
  have hn1 : w1.cell? ⟨w.heap.size, 1, none⟩ = some (.int .i64 n) := hg1.cell (by simp) (by simp; omega)
  have HC1 := Lib.hid hc1
  have HG1 := Lib.hid hg1
  clear hc1 hg1
  go_wp2_with fail
  refine (rtake_any bx s p w1 n ((HX.out.kept (galloc (grefl _ none) _) (by simp)).kept HG1.out (fun e => HN.out (Option.some.inj e).symm)) hp hs).mono ?_
  rintro e w2 ⟨rfl, hx2, hg2⟩
  have HX2 := Lib.hid hx2
  have HG2 := Lib.hid hg2
  clear hx2 hg2
  go_wp2_with fail
  go_ret
  exact ⟨rfl, HC1.out.kept HG2.out (fun e => HN.out (Option.some.inj e)), HX2.out, ((Fr2.new (galloc (grefl _ none) _)).trans (Fr2.one HG1.out)).trans (Fr2.two HG2.out)⟩

theorem does_4 (bc bx : Nat) (s : ByteArray) (p : Nat) (what : Nat) (h4 : 4 ≤ what) (h256 : what < 256) (n : Int) (w : World) (hc : Cur w bc s p) (hx : RCur w bx s p) (hne : bc ≠ bx) :
    Calls Tryd.prog 21 #[.pointer (some ⟨bc, 0, none⟩), .pointer (some ⟨bx, 0, none⟩), .agg #[.int .u8 what, .int .i64 n]] w fun e w' => e = .returned (.bool true) ∧ Cur w' bc s (skP s p n) ∧ RCur w' bx s (skP s p n) ∧ Fr2 bc bx w w' := by
  have hlc : bc < w.heap.size := blt hc
  have hlx : bx < w.heap.size := blt hx
  have HC := Lib.hid hc
  have HX := Lib.hid hx
  have HN := Lib.hid hne
  clear hc hx hne
  have b0 : ((what : Int) == 0) = false := beq_eq_false_iff_ne.2 (by omega)
  have b1 : ((what : Int) == 1) = false := beq_eq_false_iff_ne.2 (by omega)
  have b2 : ((what : Int) == 2) = false := beq_eq_false_iff_ne.2 (by omega)
  have b3 : ((what : Int) == 3) = false := beq_eq_false_iff_ne.2 (by omega)
  go_enter Tryd.func21, Tryd.ntmps21
  go_wp2_with fail
  go_region_held3 (fun w' => w'.cell? ⟨w.heap.size, 1, none⟩ = some (.int .i64 n)) (first | go_keep | exact hn1 | exact hn2)
    (first
      | (go_at_call 12; refine (seek_any bc s p _ n (HC.out.kept (gdrew (galloc (grefl _ none) _)) (by simp))).mono ?_; rintro e w1 ⟨rfl, hc1, hg1⟩; have hn1 : w1.cell? ⟨w.heap.size, 1, none⟩ = some (.int .i64 n) := hg1.cell (by simp) (by simp; omega); have HC1 := Lib.hid hc1; have HG1 := Lib.hid hg1; clear hc1 hg1)
      | (go_at_call 31; refine (rseek_any bx s p w1 n ((HX.out.kept (gdrew (galloc (grefl _ none) _)) (by simp)).kept HG1.out (fun e => HN.out (Option.some.inj e).symm))).mono ?_; rintro e w2 ⟨rfl, hx2, hg2⟩; have hn2 : w2.cell? ⟨w.heap.size, 1, none⟩ = some (.int .i64 n) := hg2.cell hn1 (by simp; omega); have HX2 := Lib.hid hx2; have HG2 := Lib.hid hg2; clear hx2 hg2))
  go_wp2
  go_ret
  exact ⟨by simp, HC1.out.kept HG2.out (fun e => HN.out (Option.some.inj e)), HX2.out, ((Fr2.new (gdrew (galloc (grefl _ none) _))).trans (Fr2.one HG1.out)).trans (Fr2.two HG2.out)⟩

theorem does_any (bc bx : Nat) (s : ByteArray) (p : Nat) (what : Nat) (h256 : what < 256) (n : Int) (w : World) (he : Et w) (hc : Cur w bc s p) (hx : RCur w bx s p) (hne : bc ≠ bx) (hp : p ≤ s.size) (hs : s.size ≤ maxLen) :
    Calls Tryd.prog 21 #[.pointer (some ⟨bc, 0, none⟩), .pointer (some ⟨bx, 0, none⟩), .agg #[.int .u8 what, .int .i64 n]] w fun e w' => e = .returned (.bool true) ∧ Cur w' bc s (actP s p what n) ∧ RCur w' bx s (actP s p what n) ∧ Fr2 bc bx w w' := by
  match what, h256 with
  | 0, _ => exact does_0 bc bx s p n w he hc hx hne hp hs
  | 1, _ => exact does_1 bc bx s p n w he hc hx hne hp hs
  | 2, _ => exact does_2 bc bx s p n w he hc hx hne hp hs
  | 3, _ => exact does_3 bc bx s p n w he hc hx hne hp hs
  | m + 4, h256 => exact does_4 bc bx s p (m + 4) (by omega) h256 n w hc hx hne
end Go.Proofs.YtndkgogohlikiaaDoor
