/-
  hustingslaw02.CursorReads is true: its walk.
-/
import Derived.Test.YtndkgogohlikiaaDoorDoes02
import Derived.Test.YtndkgogohlikiaaDoorCurG
namespace Go.Proofs.YtndkgogohlikiaaDoor
open Go.RowKit Go.BigFrame

/-- The slice at address A holds len acts: what they are, and their numbers. -/
def Acts (w : World) (A : Option Addr) (len : Nat) (wh : Nat → Nat) (ns : Nat → Int) : Prop :=
  0 < len → ∃ b off, A = some ⟨b, off, none⟩ ∧ ∀ i, i < len → w.cell? ⟨b, off + i * 2, none⟩ = some (.int .u8 (wh i)) ∧ w.cell? ⟨b, off + i * 2 + 1, none⟩ = some (.int .i64 (ns i)) ∧ wh i < 256

set_option maxRecDepth 100000 in
theorem reads_big (s : ByteArray) (A : Option Addr) (len cap : Nat) (w : World) (he : Et w) (hs : 20000 < s.size ∨ 500 < len) : Calls Tryd.prog 6 #[.string s, .slice A len cap] w fun e w' => e = .returned (.bool true) ∧ w.grownBy w' none := by
  by_cases hs1 : 20000 < s.size
  · have hb : decide ((20000 : Int) < (s.size : Int)) = true := by simp; omega
    go_enter Tryd.func6, Tryd.ntmps6
    go_wp2_with fail
    refine (awake_any w he).mono ?_
    rintro e w1 ⟨rfl, hg⟩
    go_wp2_with fail
    go_ret
    exact ⟨rfl, hg⟩
  · have hb : decide ((20000 : Int) < (s.size : Int)) = false := by simp; omega
    have hb2 : decide ((500 : Int) < (len : Int)) = true := by simp; omega
    go_enter Tryd.func6, Tryd.ntmps6
    go_wp2_with fail
    refine (awake_any w he).mono ?_
    rintro e w1 ⟨rfl, hg⟩
    go_wp2_with fail
    go_ret
    exact ⟨rfl, hg⟩

set_option maxRecDepth 100000 in
set_option maxHeartbeats 2000000 in
theorem reads_small (s : ByteArray) (A : Option Addr) (len cap : Nat) (wh : Nat → Nat) (ns : Nat → Int) (w : World) (he : Et w) (hs : s.size ≤ 20000) (hl : len ≤ 500) (ha : Acts w A len wh ns) : Calls Tryd.prog 6 #[.string s, .slice A len cap] w fun e w' => e = .returned (.bool true) ∧ w.grownBy w' none := by
  have hb : decide ((20000 : Int) < (s.size : Int)) = false := by simp; omega
  have hb2 : decide ((500 : Int) < (len : Int)) = false := by simp; omega
  have HE := Lib.hid he
  have HA := Lib.hid ha
  have hm : s.size ≤ maxLen := by unfold maxLen; omega
  clear he ha
  go_enter Tryd.func6, Tryd.ntmps6
  go_wp2_with fail
  refine (new_ex s w).mono ?_
  rintro e w1 ⟨bc, rfl, hlc, hc, hg⟩
  have HC := Lib.hid hc
  have HG := Lib.hid hg
  have hlt : bc < w1.heap.size := blt hc
  clear hc hg
  go_wp2_with fail
  go_loopw [7] (fun i wr => ∃ k p : Nat, k ≤ len ∧ i = .int .i64 k ∧ p ≤ s.size ∧ Cur wr bc s p ∧ RCur wr w1.heap.size s p ∧ w.grownBy wr none) (fun i _ => len - (intOf i).toNat)
  case atStart => exact ⟨0, 0, by omega, rfl, by omega, HC.out.kept (galloc (grefl _ none) _) (by simp), balloc _ _, galloc HG.out _⟩
  case round =>
    obtain ⟨k, p, hk, rfl, hp, hc, hx, hgr⟩ := hrel
    have HC1 := Lib.hid hc
    have HX1 := Lib.hid hx
    have HG1 := Lib.hid hgr
    clear hc hx hgr
    by_cases hklt : k < len
    · obtain ⟨b, off, rfl, hcell⟩ := HA.out (by omega)
      obtain ⟨hc0, hc1, hw⟩ := hcell k hklt
      have l0 : wr.cell? ⟨b, off + k * 2, none⟩ = some (.int .u8 (wh k)) := HG1.out.cell hc0 (by simp)
      have l1 : wr.cell? ⟨b, off + k * 2 + 1, none⟩ = some (.int .i64 (ns k)) := HG1.out.cell hc1 (by simp)
      have HL := Lib.hid hcell
      clear hcell hc0 hc1
      have q1 : (0 : Int) ≤ (k : Int) := by omega
      have q2 : (k : Int) < (len : Int) := by omega
      go_wp2_with fail
      refine wp_region_head_grn 9 (by kernel_rfl) (by kernel_rfl) ?_
      simp only [List.take_succ_cons, List.take_zero, List.drop_succ_cons, List.drop_zero]
      go_wp2_with fail
      refine (does_any bc w1.heap.size s p (wh k) hw (ns k) _ (HE.out.kept (gdrew HG1.out) (by simp)) HC1.out HX1.out (by omega) hp hm).mono ?_
      rintro e w2 ⟨rfl, hc2, hx2, hf2⟩
      have hx2c : ∀ g : Gr w2, g.w.cell? ⟨w1.heap.size, 1, none⟩ = some (.int .i64 (actP s p (wh k) (ns k))) := Gr.cell (bcellAt hx2 1)
      have HC2 := Lib.hid hc2
      have HX2 := Lib.hid hx2
      have HF2 := Lib.hid hf2
      clear hc2 hx2 hf2
      go_wp2_with fail
      have hap := actP_le s p (wh k) (ns k) hp
      have q3 : IntKind.i64.wrap ((s.size : Int) - (actP s p (wh k) (ns k) : Int)) = (s.size : Int) - (actP s p (wh k) (ns k) : Int) := IntWalk.i64_in _ (by omega)
      refine headQ_normal ?_
      repeat (go_big_quiet_step (first | (go_at_call 22; exact at_gr HC2.out _) | (go_at_call 23; exact left_gr HC2.out (actP_le _ _ _ _ hp) hm _)))
      refine wpQuiet_nil ?_
      rintro _ ⟨g, rfl⟩
      refine NoPanic.normal ?_
      clear q3
      go_wp2
      go_roundw
      case rel => exact ⟨k + 1, actP s p (wh k) (ns k), by omega, by go_num, hap, HC2.out.kept g.h (by simp), HX2.out.kept g.h (by simp), gtrans (Fr2.grown (gdrew HG1.out) HF2.out hlc (Nat.le_trans HG.out.size (Nat.le_refl _))) g.h⟩
      case measure => simp [intOf]; omega
    · have hx1c : ∀ g : Gr wr, g.w.cell? ⟨w1.heap.size, 1, none⟩ = some (.int .i64 p) := Gr.cell (bcellAt HX1.out 1)
      go_wp2_with fail
      refine wp_region_noPanic ?_
      refine wp_region_gr (by kernel_rfl) (by kernel_rfl) ?_
      repeat (go_big_quiet_step (first | (go_at_call 22; exact at_gr HC1.out _) | (go_at_call 10; exact Calls.gr (awake_any _ (HE.out.kept (gtrans HG1.out (Gr.h _)) (by simp))))))
      refine wpQuiet_nil ?_
      rintro _ ⟨g, rfl⟩
      refine NoPanic.normal ?_
      go_wp2
      go_ret
      exact ⟨rfl, gtrans HG1.out g.h⟩

theorem reads_walk (s : ByteArray) (A : Option Addr) (len cap : Nat) (wh : Nat → Nat) (ns : Nat → Int) (w : World) (he : Et w) (ha : Acts w A len wh ns) : Calls Tryd.prog 6 #[.string s, .slice A len cap] w fun e w' => e = .returned (.bool true) ∧ w.grownBy w' none := by
  by_cases h : 20000 < s.size ∨ 500 < len
  · exact reads_big s A len cap w he h
  · exact reads_small s A len cap wh ns w he (by omega) (by omega) ha
end Go.Proofs.YtndkgogohlikiaaDoor
