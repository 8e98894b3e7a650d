/-
  Intake: closed examples (plain).
-/
import Derived.Test.YtkhigfbmdolgmaaGreatDoorIkD
import Derived.Test.YtkhigfbmdolgmaaGreatDoorWiY
namespace Go.Proofs.YtkhigfbmdolgmaaGreatDoor
open Go.RowKit

def t11 : ByteArray := ⟨#[49, 50, 51, 52, 53, 54, 55, 56, 57, 48, 49]⟩
def t00 : ByteArray := ⟨#[0, 0, 0, 0, 0, 0, 0, 0, 0, 0, 0, 0]⟩
def tqr : ByteArray := ⟨#[0, 0, 128, 0, 0, 0, 0, 0, 0, 0, 0, 0]⟩
def top : ByteArray := ⟨#[0, 0, 16, 0, 0, 0, 0, 0, 0, 0, 0, 0]⟩
def tE1 : ByteArray := ⟨#[0, 7, 1, 0, 0, 1, 0, 0, 0, 0, 0, 0, 2, 101, 120, 0, 0, 1, 0, 1]⟩
def tE3 : ByteArray := ⟨#[0, 7, 1, 0, 0, 1, 0, 0, 0, 0, 0, 0, 2, 101, 120, 0, 0, 1, 0, 3]⟩
def hE7 : Hd := ⟨7, false, 0, false, false, true, false, false, false, false, 0⟩
def qE3 : Qn := ⟨nE, 1, 3⟩
def mE1 : Ms := ⟨hE7, [qA], [], [], [], false, 0, 0, 0, 0, []⟩
def mE3 : Ms := ⟨hE7, [qE3], [], [], [], false, 0, 0, 0, 0, []⟩
def m00 : Ms := ⟨hd0, [], [], [], [], false, 0, 0, 0, 0, []⟩
def bE1 : List UInt8 := [0, 7, 1, 0, 0, 1, 0, 0, 0, 0, 0, 0, 2, 101, 120, 0, 0, 1, 0, 1]
def bE3 : List UInt8 := [0, 7, 1, 0, 0, 1, 0, 0, 0, 0, 0, 0, 2, 101, 120, 0, 0, 1, 0, 3]
def b00 : List UInt8 := [0, 0, 0, 0, 0, 0, 0, 0, 0, 0, 0, 0]
def hdE7 : List UInt8 := [0, 7, 1, 0, 0, 1, 0, 0, 0, 0, 0, 0]
theorem okQ_E3 : okQ qE3 = true := mayE
theorem m00_may : m00.may = true := Ms.may_yes.2 ⟨by decide, by decide, by decide, by decide, by decide, rfl, rfl, rfl, rfl, by decide +kernel⟩
theorem m00_s0 : m00.s0 = (b00, []) := by decide +kernel
theorem m00_out : m00.wE = 0 ∧ m00.out = ⟨b00.toArray⟩ := out_of m00_may (show m00.s5 = _ from m00_s0) (by decide) rfl
theorem nm_E7 : nmF nE (hdE7, []) = (hdE7 ++ [2, 101, 120, 0], [(nE, 12)]) := putK_eq _ _ _ 9 _ _ _ _ (by decide +kernel)
theorem mE1_may : mE1.may = true := Ms.may_yes.2 ⟨by decide, by decide, by decide, by decide, by decide, by rw [show mE1.qs = [qA] from rfl, List.all_cons, okQ_A]; rfl, rfl, rfl, rfl, by decide +kernel⟩
theorem mE1_s0 : mE1.s0 = (hdE7, []) := by decide +kernel
theorem mE1_s1 : mE1.s1 = (bE1, [(nE, 12)]) := by
  show qF mE1.s0 qA = _
  unfold qF
  rw [mE1_s0, show qA.name = nE from rfl, nm_E7]
  decide +kernel
theorem mE1_out : mE1.wE = 0 ∧ mE1.out = ⟨bE1.toArray⟩ := out_of mE1_may (show mE1.s5 = _ from mE1_s1) (by decide) rfl
theorem rd_qE1 : rdF tE1 12 12 none [] = .ok [2, 101, 120, 0] 16 := rdK_eq _ 9 _ _ _ _ _ (by kernel_rfl)
theorem rdM_E1 : rdM tE1 = .ok mE1 := by
  unfold rdM
  rw [if_neg (by decide), if_neg (by decide)]
  have hq : rdQs tE1 (num tE1 4 2) 12 = .ok [qA] 20 := by
    rw [show num tE1 4 2 = 1 from by decide +kernel, rdQs]
    unfold rdQ1
    rw [rd_qE1]
    dsimp only
    rw [if_pos (by decide)]
    dsimp only
    rw [rdQs, show (⟨⟨[2, 101, 120, 0].toArray⟩, num tE1 16 2, num tE1 (16 + 2) 2⟩ : Qn) = qA from by decide +kernel]
    rfl
  rw [hq, show num tE1 6 2 = 0 from by decide +kernel, show num tE1 8 2 = 0 from by decide +kernel, show num tE1 10 2 = 0 from by decide +kernel, show fromN (num tE1 0 2) (num tE1 2 2) = hE7 from by decide +kernel]
  show rdEnd tE1 20 mE1 = _
  unfold rdEnd
  rw [if_neg (by decide), if_pos mE1_out.1]
theorem mE3_may : mE3.may = true := Ms.may_yes.2 ⟨by decide, by decide, by decide, by decide, by decide, by rw [show mE3.qs = [qE3] from rfl, List.all_cons, okQ_E3]; rfl, rfl, rfl, rfl, by decide +kernel⟩
theorem mE3_s0 : mE3.s0 = (hdE7, []) := by decide +kernel
theorem mE3_s1 : mE3.s1 = (bE3, [(nE, 12)]) := by
  show qF mE3.s0 qE3 = _
  unfold qF
  rw [mE3_s0, show qE3.name = nE from rfl, nm_E7]
  decide +kernel
theorem mE3_out : mE3.wE = 0 ∧ mE3.out = ⟨bE3.toArray⟩ := out_of mE3_may (show mE3.s5 = _ from mE3_s1) (by decide) rfl
theorem rd_qE3 : rdF tE3 12 12 none [] = .ok [2, 101, 120, 0] 16 := rdK_eq _ 9 _ _ _ _ _ (by kernel_rfl)
theorem rdM_E3 : rdM tE3 = .ok mE3 := by
  unfold rdM
  rw [if_neg (by decide), if_neg (by decide)]
  have hq : rdQs tE3 (num tE3 4 2) 12 = .ok [qE3] 20 := by
    rw [show num tE3 4 2 = 1 from by decide +kernel, rdQs]
    unfold rdQ1
    rw [rd_qE3]
    dsimp only
    rw [if_pos (by decide)]
    dsimp only
    rw [rdQs, show (⟨⟨[2, 101, 120, 0].toArray⟩, num tE3 16 2, num tE3 (16 + 2) 2⟩ : Qn) = qE3 from by decide +kernel]
    rfl
  rw [hq, show num tE3 6 2 = 0 from by decide +kernel, show num tE3 8 2 = 0 from by decide +kernel, show num tE3 10 2 = 0 from by decide +kernel, show fromN (num tE3 0 2) (num tE3 2 2) = hE7 from by decide +kernel]
  show rdEnd tE3 20 mE3 = _
  unfold rdEnd
  rw [if_neg (by decide), if_pos mE3_out.1]
theorem rdM_00 : rdM t00 = .ok m00 := by
  unfold rdM
  rw [if_neg (by decide), if_neg (by decide)]
  rw [show num t00 4 2 = 0 from by decide +kernel, show num t00 6 2 = 0 from by decide +kernel, show num t00 8 2 = 0 from by decide +kernel, show num t00 10 2 = 0 from by decide +kernel, show fromN (num t00 0 2) (num t00 2 2) = hd0 from by decide +kernel]
  show rdEnd t00 12 m00 = _
  unfold rdEnd
  rw [if_neg (by decide), if_pos m00_out.1]
theorem dc_of {s : ByteArray} {m : Ms} (h : rdM s = .ok m) : dcM s = m ∧ dcE s = 0 := by unfold dcM dcE; rw [h]; exact ⟨rfl, rfl⟩
theorem look_11 : look t11 = Lk.cm .drop := by unfold look exam; rw [if_pos (by decide)]
theorem look_qr : look tqr = Lk.cm .drop := by unfold look exam; rw [if_neg (by decide), if_pos (by decide +kernel)]
theorem look_op : look top = ⟨2, 4, ⟨0, false, 2, false, false, false, false, false, false, false, 0⟩, false, q0, false, 0⟩ := by
  unfold look exam
  rw [if_neg (by decide), if_neg (by decide +kernel), show fromN (num top 0 2) (num top 2 2) = ⟨0, false, 2, false, false, false, false, false, false, false, 0⟩ from by decide +kernel]
  rfl
theorem look_00 : look t00 = ⟨2, 1, hd0, false, q0, false, 0⟩ := by
  unfold look exam
  rw [if_neg (by decide), if_neg (by decide +kernel), show fromN (num t00 0 2) (num t00 2 2) = hd0 from by decide +kernel, if_neg (by decide), if_neg (by rw [(dc_of rdM_00).2]; decide), (dc_of rdM_00).1]
  rfl
theorem look_E1 : look tE1 = ⟨3, 0, hE7, true, qA, false, 0⟩ := by
  unfold look exam
  rw [if_neg (by decide), if_neg (by decide +kernel), show fromN (num tE1 0 2) (num tE1 2 2) = hE7 from by decide +kernel, if_neg (by decide), if_neg (by rw [(dc_of rdM_E1).2]; decide), (dc_of rdM_E1).1]
  rfl
theorem look_E3 : look tE3 = ⟨2, 5, hE7, true, qE3, false, 0⟩ := by
  unfold look exam
  rw [if_neg (by decide), if_neg (by decide +kernel), show fromN (num tE3 0 2) (num tE3 2 2) = hE7 from by decide +kernel, if_neg (by decide), if_neg (by rw [(dc_of rdM_E3).2]; decide), (dc_of rdM_E3).1]
  rfl
end Go.Proofs.YtkhigfbmdolgmaaGreatDoor
