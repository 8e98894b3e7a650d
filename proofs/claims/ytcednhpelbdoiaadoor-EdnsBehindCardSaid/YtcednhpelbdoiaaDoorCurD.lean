/-
  Contracts of package cursor: put, Put1, Put2, Put4.
-/
import Derived.Test.YtcednhpelbdoiaaDoorBytes
namespace Go.Proofs.YtcednhpelbdoiaaDoor
open Go.RowKit

theorem put_any (w : World) (va vc : Value) (a c : List UInt8) (ha : SlB w va a) (hc : SlB w vc c) (hn : a.length + c.length ≤ 70368744177664) : Calls Tryd.prog 34 #[va, vc] w fun e w' =>
    e = .returned (.slice (some ⟨w.heap.size, 0, none⟩) (a.length + c.length) (a.length + c.length)) ∧ Own w' w.heap.size (.slice (some ⟨w.heap.size, 0, none⟩) (a.length + c.length) (a.length + c.length)) (a ++ c) ∧ w.grownBy w' none := by
  obtain ⟨i0, hi, hz0, hz1, hz2⟩ := info_parts Tryd.infoByte
  have HA := Lib.hid ha
  have HC := Lib.hid hc
  obtain ⟨A, capa, rfl, _, _, _⟩ := ha
  obtain ⟨C, capc, rfl, _, _, _⟩ := hc
  go_enter Tryd.func34, Tryd.ntmps34
  go_wp2_with (at_make; refine wpList_make_own _ rfl _ _ 42 rfl w.heap.size 5 i0 (.int .u8 0) 1 Tryd.underlying42 hi hz0 hz1 _ _ _ (a.length + c.length) rfl rfl (by omega) ?b2 ?b3 (Nat.le_refl _) ?_)
  case b2 => rw [hz2]; omega
  case b3 => unfold maxLen; omega
  intro w0 hown0 hgrow0
  have ho0 : Own w0 w.heap.size (.slice (some ⟨w.heap.size, 0, none⟩) ([] : List UInt8).length (a.length + c.length)) [] := hown0
  go_wp2_with (at_builtin; refine wpList_append_sl _ rfl (.tmp 12) (.tmp 13) 42 rfl w.heap.size i0 Tryd.underlying42 hi hz1 w.heap.size (a.length + c.length) [] a rfl ho0 _ rfl (HA.out.kept0 hgrow0) (by simp) ?_)
  intro w1 ho1 hg1
  go_wp2_with (at_builtin; refine wpList_append_sl _ rfl (.tmp 15) (.tmp 16) 42 rfl w.heap.size i0 Tryd.underlying42 hi hz1 w.heap.size (a.length + c.length) a c rfl ho1 _ rfl ?hx (by simp) ?_)
  case hx => exact HC.out.kept (gtrans (gmono hgrow0) hg1) (fun b e => .inl (by cases e; exact Nat.le_refl _))
  intro w2 ho2 hg2
  go_wp2
  go_ret
  exact ⟨rfl, ho2, gnew (gtrans (gtrans (gmono hgrow0) hg1) hg2) (fun b e => by cases e; exact Nat.le_refl _)⟩

/-- The n bytes of a number, the highest first. -/
def enc : Nat → Nat → List UInt8
  | 0, _ => []
  | n + 1, x => enc n (x / 256) ++ [UInt8.ofNat (x % 256)]
theorem enc_len (n x : Nat) : (enc n x).length = n := by
  induction n generalizing x with
  | zero => rfl
  | succ n ih => simp [enc, ih]

theorem enc_one (x : Nat) : enc 1 x = [UInt8.ofNat (x % 256)] := rfl
theorem enc_two (x : Nat) : enc 2 x = [UInt8.ofNat (x / 256 % 256), UInt8.ofNat (x % 256)] := rfl
theorem enc_four (x : Nat) : enc 4 x = [UInt8.ofNat (x / 256 / 256 / 256 % 256), UInt8.ofNat (x / 256 / 256 % 256), UInt8.ofNat (x / 256 % 256), UInt8.ofNat (x % 256)] := rfl
theorem cell_byte (y : Int) (x : Nat) (h : y = ((x % 256 : Nat) : Int)) : Value.int .u8 y = .int .u8 (UInt8.ofNat (x % 256)).toNat := by
  rw [h]; congr 1; simp

theorem put2_any (w : World) (va : Value) (a : List UInt8) (x : Nat) (hx : x < 65536) (ha : SlB w va a) (hn : a.length ≤ 70368744177000) : Calls Tryd.prog 28 #[va, .int .u16 x] w fun e w' =>
    e = .returned (.slice (some ⟨w.heap.size + 1, 0, none⟩) (a.length + 2) (a.length + 2)) ∧ Own w' (w.heap.size + 1) (.slice (some ⟨w.heap.size + 1, 0, none⟩) (a.length + 2) (a.length + 2)) (a ++ enc 2 x) ∧ w.grownBy w' none := by
  have HA := Lib.hid ha
  obtain ⟨A, capa, rfl, _, _, _⟩ := ha
  go_enter Tryd.func28, Tryd.ntmps28
  go_wp2_with fail
  refine (put_any _ _ _ a (enc 2 x) (HA.out.kept0 (galloc (grefl _ _) _)) (sl_new w _ (enc 2 x) _ 2 ?_ rfl) (by rw [enc_len]; omega)).mono ?_
  · rw [enc_two]
    simp only [bv, List.map_cons, List.map_nil]
    rw [← cell_byte _ (x / 256) rfl, ← cell_byte _ x rfl]
    simp
    omega
  rw [enc_len]
  rintro e w1 ⟨rfl, ho, hg⟩
  go_wp2_with fail
  go_ret
  exact ⟨by simp, by simpa using ho, gtrans (galloc (grefl _ _) _) hg⟩
end Go.Proofs.YtcednhpelbdoiaaDoor
