/-
  CompNames: names of many labels; the rows; the far end.
-/
import Derived.Test.YtjjegmgjnfkblaaDoorCo04i
namespace Go.Proofs.YtjjegmgjnfkblaaDoor
open Go.RowKit

def mnP : Nat → List UInt8
  | 0 => []
  | n + 1 => mnP n ++ [1, 97]
def mnS (n : Nat) : ByteArray := ⟨(mnP n ++ [0]).toArray⟩
theorem mnP_len (n : Nat) : (mnP n).length = 2 * n := by
  induction n with
  | zero => rfl
  | succ n ih => simp [mnP, ih]; omega

set_option maxRecDepth 100000 in
theorem many_any (n : Nat) (hn : n ≤ 1000) (w : World) : Calls Tryd.prog 20 #[.int .i64 n] w fun e w' => e = .returned (.string (mnS n)) ∧ w = w' := by
  go_enter Tryd.func20, Tryd.ntmps20
  go_wp2_with fail
  go_loop [3, 4] (fun vs vi => ∃ i : Nat, i ≤ n ∧ vi = .int .i64 i ∧ vs = .string ⟨(mnP i).toArray⟩) (fun _ vi => n - (intOf vi).toNat)
  case atStart => exact ⟨0, by omega, rfl, rfl⟩
  case round =>
    obtain ⟨i, hi, rfl, rfl⟩ := hrel
    have hz : (⟨(mnP i).toArray⟩ : ByteArray).size ≤ 2000 := by rw [size_mk, mnP_len]; omega
    have H1 := Lib.hid (mk_append_list (mnP i) [1, 97])
    have H2 := Lib.hid (mk_append_list (mnP i) [0])
    generalize (⟨(mnP i).toArray⟩ : ByteArray) = O at *
    by_cases hlt : i < n
    · have k0 : decide ((i : Int) < (n : Int)) = true := by simp; omega
      go_wp2_with fail
      go_round
      case rel => exact ⟨i + 1, by omega, by go_num, by rw [show mnP (i + 1) = mnP i ++ [1, 97] from rfl, ← H1.out]⟩
      case measure => simp [intOf]; omega
    · have k0 : decide ((i : Int) < (n : Int)) = false := by simp; omega
      have e : i = n := by omega
      subst e
      go_wp2_with fail
      go_ret
      exact ⟨by unfold mnS; rw [← H2.out]; rfl, rfl⟩

structure Rw where
  msg : ByteArray
  at_ : Int
  n : ByteArray
  next : Nat
  e : Nat
def rv (r : Rw) : List Value := [.string r.msg, .int .i64 r.at_, .string r.n, .int .i64 (r.next : Int), .int .i64 (r.e : Int)]
def rows : List Rw := [⟨⟨#[0]⟩, 0, ⟨#[0]⟩, 1, 0⟩, ⟨⟨#[0]⟩, 1, ⟨#[]⟩, 0, 4⟩, ⟨⟨#[0]⟩, 2, ⟨#[]⟩, 0, 1⟩, ⟨⟨#[0]⟩, -1, ⟨#[]⟩, 0, 1⟩,
  ⟨⟨#[1, 97, 0, 192, 0]⟩, 3, ⟨#[1, 97, 0]⟩, 5, 0⟩, ⟨⟨#[1, 97, 0, 192, 1]⟩, 3, ⟨#[]⟩, 0, 3⟩, ⟨⟨#[1, 2, 0, 192, 1]⟩, 3, ⟨#[]⟩, 0, 4⟩,
  ⟨⟨#[1, 97, 0, 1, 98, 192, 0]⟩, 3, ⟨#[1, 98, 1, 97, 0]⟩, 7, 0⟩, ⟨⟨#[1, 97, 0, 1, 98, 192, 3]⟩, 3, ⟨#[]⟩, 0, 8⟩, ⟨⟨#[192]⟩, 0, ⟨#[]⟩, 0, 4⟩, ⟨⟨#[128]⟩, 0, ⟨#[]⟩, 0, 3⟩, ⟨⟨#[63]⟩, 0, ⟨#[]⟩, 0, 4⟩,
  ⟨⟨#[1, 97, 192, 0]⟩, 0, ⟨#[]⟩, 0, 8⟩, ⟨⟨#[0, 192, 0, 192, 1, 192, 3]⟩, 5, ⟨#[0]⟩, 7, 0⟩, ⟨⟨#[0, 192, 0, 192, 3]⟩, 3, ⟨#[]⟩, 0, 8⟩, ⟨⟨#[1, 97, 1, 98, 192, 0]⟩, 2, ⟨#[]⟩, 0, 8⟩,
  ⟨mnS 127, 0, mnS 127, 255, 0⟩, ⟨mnS 128, 0, ⟨#[]⟩, 0, 5⟩, ⟨mnS 126 ++ ⟨#[1, 98, 192, 0]⟩, 253, ⟨#[1, 98]⟩ ++ mnS 126, 257, 0⟩, ⟨mnS 127 ++ ⟨#[1, 98, 192, 0]⟩, 255, ⟨#[]⟩, 0, 5⟩]
theorem rw_ok {s : ByteArray} {p next : Nat} {n : ByteArray} (k : Nat) (hp : p ≤ s.size) (h : rdK k s p p none [] = some (.ok n.data.toList next)) : rdS (rdAt s (p : Int)) = n ∧ rdX (rdAt s (p : Int)) = next ∧ rdY (rdAt s (p : Int)) = 0 := by
  rw [rdAtK k hp h]
  exact ⟨mk_self n, rfl, rfl⟩
theorem rw_no {s : ByteArray} {p e : Nat} (k : Nat) (hp : p ≤ s.size) (h : rdK k s p p none [] = some (.no e)) : rdS (rdAt s (p : Int)) = ⟨#[]⟩ ∧ rdX (rdAt s (p : Int)) = 0 ∧ rdY (rdAt s (p : Int)) = e := by
  rw [rdAtK k hp h]
  exact ⟨rfl, rfl, rfl⟩
theorem rw_out {s : ByteArray} {a : Int} (h : a < 0 ∨ (s.size : Int) < a) : rdS (rdAt s a) = ⟨#[]⟩ ∧ rdX (rdAt s a) = 0 ∧ rdY (rdAt s a) = 1 := by
  rw [rdAt_out h]
  exact ⟨rfl, rfl, rfl⟩
def rwB (r : Rw) : Prop := r.msg.size ≤ 1000000 ∧ rdS (rdAt r.msg r.at_) = r.n ∧ rdX (rdAt r.msg r.at_) = r.next ∧ rdY (rdAt r.msg r.at_) = r.e
set_option maxRecDepth 100000 in
theorem rows_ok : ∀ r ∈ rows, rwB r := by
  unfold rows
  simp only [List.forall_mem_cons]
  refine ⟨⟨by decide, rw_ok (p := 0) 9 (by decide) (by kernel_rfl)⟩, ⟨by decide, rw_no (p := 1) 9 (by decide) (by kernel_rfl)⟩, ⟨by decide, rw_out (by decide)⟩, ⟨by decide, rw_out (by decide)⟩,
    ⟨by decide, rw_ok (p := 3) 9 (by decide) (by kernel_rfl)⟩, ⟨by decide, rw_no (p := 3) 9 (by decide) (by kernel_rfl)⟩, ⟨by decide, rw_no (p := 3) 9 (by decide) (by kernel_rfl)⟩,
    ⟨by decide, rw_ok (p := 3) 9 (by decide) (by kernel_rfl)⟩, ⟨by decide, rw_no (p := 3) 9 (by decide) (by kernel_rfl)⟩, ⟨by decide, rw_no (p := 0) 9 (by decide) (by kernel_rfl)⟩, ⟨by decide, rw_no (p := 0) 9 (by decide) (by kernel_rfl)⟩, ⟨by decide, rw_no (p := 0) 9 (by decide) (by kernel_rfl)⟩,
    ⟨by decide, rw_no (p := 0) 9 (by decide) (by kernel_rfl)⟩, ⟨by decide, rw_ok (p := 5) 9 (by decide) (by kernel_rfl)⟩, ⟨by decide, rw_no (p := 3) 9 (by decide) (by kernel_rfl)⟩, ⟨by decide, rw_no (p := 2) 9 (by decide) (by kernel_rfl)⟩,
    ⟨by decide +kernel, rw_ok (p := 0) 200 (by decide +kernel) (by kernel_rfl)⟩, ⟨by decide +kernel, rw_no (p := 0) 200 (by decide +kernel) (by kernel_rfl)⟩, ⟨by decide +kernel, rw_ok (p := 253) 200 (by decide +kernel) (by kernel_rfl)⟩, ⟨by decide +kernel, rw_no (p := 255) 200 (by decide +kernel) (by kernel_rfl)⟩, fun r hr => by cases hr⟩

def nA : ByteArray := ⟨#[1, 97, 1, 98, 0]⟩
def nB : ByteArray := ⟨#[1, 98, 0]⟩
def nC : ByteArray := ⟨#[1, 99, 0]⟩
def tA : Tb := [(nA, 16381), (nB, 16383)]
theorem mayA : may nA = true := may_of 9 (by decide) (by decide +kernel)
theorem mayB : may nB = true := may_of 9 (by decide) (by decide +kernel)
theorem mayC : may nC = true := may_of 9 (by decide) (by decide +kernel)
theorem may_no : may ⟨#[1, 98]⟩ = false := may_of 9 (by decide) (by decide +kernel)
theorem putA {Z : List UInt8} (h : Z.length = 16381) : putF nA true true 0 [] Z = (Z ++ [1, 97, 1, 98, 0], tA) := by
  have e1 := putF_step (n := nA) (cmp := true) (known := true) (p := 0) (T := []) (out := Z) (by decide) (by decide) (.inl rfl)
  have t1 : tadd nA true 0 [] Z.length = [(nA, 16381)] := by
    unfold tadd
    rw [if_pos ⟨rfl, rfl, by omega⟩, h]
    have : suf nA 0 = nA := by rw [suf_eq]; rfl
    rw [this]; rfl
  have l1 : lab nA 0 = [1, 97] := by rw [lab_eq']; decide +kernel
  have l2 : lab nA 2 = [1, 98] := by rw [lab_eq']; decide +kernel
  have s2 : suf nA 2 = nB := by rw [suf_eq]; decide +kernel
  have e2 := putF_step (n := nA) (cmp := true) (known := true) (p := 2) (T := [(nA, 16381)]) (out := Z ++ [1, 97]) (by decide) (by decide) (.inl (by rw [s2]; decide +kernel))
  have t2 : tadd nA true 2 [(nA, 16381)] (Z ++ [1, 97]).length = tA := by
    unfold tadd
    rw [if_pos ⟨rfl, by rw [s2]; decide +kernel, by simp [h]⟩, s2]
    simp [h, tA]
  have e3 := putF_end (n := nA) (cmp := true) (known := true) (p := 4) (T := tA) (out := Z ++ [1, 97] ++ [1, 98]) (by decide)
  rw [e1, t1, l1, show 0 + 1 + bt nA 0 = 2 by decide, e2, t2, l2, show 2 + 1 + bt nA 2 = 4 by decide, e3]
  simp
theorem putC {Y : List UInt8} (h : Y.length = 16386) : putF nC true true 0 tA Y = (Y ++ [1, 99, 0], tA) := by
  have s0 : suf nC 0 = nC := by rw [suf_eq]; rfl
  have g0 : tget tA nC = none := by decide +kernel
  have e1 := putF_step (n := nC) (cmp := true) (known := true) (p := 0) (T := tA) (out := Y) (by decide) (by decide) (.inl (by rw [s0]; exact g0))
  have t1 : tadd nC true 0 tA Y.length = tA := by unfold tadd; rw [if_neg (by omega)]
  have l1 : lab nC 0 = [1, 99] := by rw [lab_eq']; decide +kernel
  have e3 := putF_end (n := nC) (cmp := true) (known := true) (p := 2) (T := tA) (out := Y ++ [1, 99]) (by decide)
  rw [e1, t1, l1, show 0 + 1 + bt nC 0 = 2 by decide, e3]
  simp
theorem putB1 (Y : List UInt8) : putF nB true true 0 tA Y = (Y ++ [255, 255], tA) := by
  have s0 : suf nB 0 = nB := by rw [suf_eq]; rfl
  have g0 : tget tA nB = some 16383 := by decide +kernel
  rw [putF_ptr (by decide) (by decide) (by rw [s0]; exact g0) rfl]
  rfl
theorem putB2 (Y : List UInt8) : putF nB false true 0 tA Y = (Y ++ [1, 98, 0], tA) := by
  have s0 : suf nB 0 = nB := by rw [suf_eq]; rfl
  have g0 : tget tA nB = some 16383 := by decide +kernel
  have e1 := putF_step (n := nB) (cmp := false) (known := true) (p := 0) (T := tA) (out := Y) (by decide) (by decide) (.inr rfl)
  have t1 : tadd nB true 0 tA Y.length = tA := by unfold tadd; rw [if_neg (by rw [s0, g0]; simp)]
  have l1 : lab nB 0 = [1, 98] := by rw [lab_eq']; decide +kernel
  have e3 := putF_end (n := nB) (cmp := false) (known := true) (p := 2) (T := tA) (out := Y ++ [1, 98]) (by decide)
  rw [e1, t1, l1, show 0 + 1 + bt nB 0 = 2 by decide, e3]
  simp
end Go.Proofs.YtjjegmgjnfkblaaDoor
