/-
  Wire: closed examples.
-/
import Derived.Test.YthgendgmlpaglaaDoorWiX
import Derived.Test.YthgendgmlpaglaaDoorA7
import Derived.Test.YthgendgmlpaglaaDoorA4
namespace Go.Proofs.YthgendgmlpaglaaDoor
open Go.RowKit

def hA : Hd := ⟨1, false, 0, false, false, true, false, false, false, false, 0⟩
def hB : Hd := ⟨1, true, 0, false, false, true, false, false, false, false, 0⟩
def qA : Qn := ⟨nE, 1, 1⟩
def dA : ByteArray := ⟨#[10, 0, 0, 1]⟩
def rA : Rc := ⟨nE, 1, 1, 5, dA⟩
def mA : Ms := ⟨hA, [qA], [], [], [], false, 0, 0, 0, 0, []⟩
def mB : Ms := ⟨hB, [qA], [rA], [], [], false, 0, 0, 0, 0, []⟩
def mC : Ms := ⟨⟨7, false, 0, false, false, false, false, false, false, false, 0⟩, [], [], [], [], false, 0, 0, 0, 0, []⟩
def mD : Ms := ⟨hd0, [], [], [], [], true, 1232, 0, 0, 0, []⟩
def bA : List UInt8 := [0, 1, 1, 0, 0, 1, 0, 0, 0, 0, 0, 0, 2, 101, 120, 0, 0, 1, 0, 1]
def bB : List UInt8 := [0, 1, 129, 0, 0, 1, 0, 1, 0, 0, 0, 0, 2, 101, 120, 0, 0, 1, 0, 1, 192, 12, 0, 1, 0, 1, 0, 0, 0, 5, 0, 4, 10, 0, 0, 1]
def bC : List UInt8 := [0, 7, 0, 0, 0, 0, 0, 0, 0, 0, 0, 0]
def bD : List UInt8 := [0, 0, 0, 0, 0, 0, 0, 0, 0, 0, 0, 1, 0, 0, 41, 4, 208, 0, 0, 0, 0, 0, 0]
theorem dA_whole : whF 1 dA = some [⟨dA, false, 4⟩] := whK (k := 9) (by kernel_rfl) (by decide +kernel)
theorem okR_A : okR rA = true := by
  unfold okR
  rw [show may rA.name = true from mayE, show mayD rA.kind rA.data = true from by unfold mayD; rw [show whF rA.kind rA.data = _ from dA_whole]; rfl]
  rfl
theorem okQ_A : okQ qA = true := mayE
theorem mA_may : mA.may = true := Ms.may_yes.2 ⟨by decide, by decide, by decide, by decide, by decide, by rw [show mA.qs = [qA] from rfl, List.all_cons, okQ_A]; rfl, rfl, rfl, rfl, by decide +kernel⟩
theorem mB_may : mB.may = true := Ms.may_yes.2 ⟨by decide, by decide, by decide, by decide, by decide, by rw [show mB.qs = [qA] from rfl, List.all_cons, okQ_A]; rfl, by rw [show mB.an = [rA] from rfl, List.all_cons, okR_A]; rfl, rfl, rfl, by decide +kernel⟩
theorem mC_may : mC.may = true := Ms.may_yes.2 ⟨by decide, by decide, by decide, by decide, by decide, rfl, rfl, rfl, rfl, by decide +kernel⟩
theorem mD_may : mD.may = true := Ms.may_yes.2 ⟨by decide, by decide, by decide, by decide, by decide, rfl, rfl, rfl, rfl, by decide +kernel⟩
def hdA : List UInt8 := [0, 1, 1, 0, 0, 1, 0, 0, 0, 0, 0, 0]
def hdB : List UInt8 := [0, 1, 129, 0, 0, 1, 0, 1, 0, 0, 0, 0]
def hdD : List UInt8 := [0, 0, 0, 0, 0, 0, 0, 0, 0, 0, 0, 1]
theorem mA_s0 : mA.s0 = (hdA, []) := by decide +kernel
theorem mB_s0 : mB.s0 = (hdB, []) := by decide +kernel
theorem mC_s0 : mC.s0 = (bC, []) := by decide +kernel
theorem mD_s0 : mD.s0 = (hdD, []) := by decide +kernel
theorem nm_A : nmF nE (hdA, []) = (hdA ++ [2, 101, 120, 0], [(nE, 12)]) := putK_eq _ _ _ 9 _ _ _ _ (by decide +kernel)
theorem nm_B : nmF nE (hdB, []) = (hdB ++ [2, 101, 120, 0], [(nE, 12)]) := putK_eq _ _ _ 9 _ _ _ _ (by decide +kernel)
theorem nm_D : nmF root0 (hdD, []) = (hdD ++ [0], []) := putK_eq _ _ _ 9 _ _ _ _ (by decide +kernel)
def b1 : List UInt8 := hdB ++ [2, 101, 120, 0] ++ [0, 1, 0, 1]
theorem nm_R : nmF nE (b1, [(nE, 12)]) = (b1 ++ [192, 12], [(nE, 12)]) := putK_eq _ _ _ 9 _ _ _ _ (by decide +kernel)
theorem mA_s1 : mA.s1 = (bA, [(nE, 12)]) := by
  show qF mA.s0 qA = _
  unfold qF
  rw [mA_s0, show qA.name = nE from rfl, nm_A]
  decide +kernel
theorem mA_s5 : mA.s5 = (bA, [(nE, 12)]) := mA_s1
theorem mB_s1 : mB.s1 = (b1, [(nE, 12)]) := by
  show qF mB.s0 qA = _
  unfold qF
  rw [mB_s0, show qA.name = nE from rfl, nm_B]
  decide +kernel
theorem rB : rF (b1, [(nE, 12)]) rA = (bB, [(nE, 12)]) := by
  have h1 : rH (b1, [(nE, 12)]) rA = (b1 ++ [192, 12] ++ fx 1 1 5 ++ [0, 0], [(nE, 12)]) := by
    unfold rH
    rw [show rA.name = nE from rfl, nm_R]
    rfl
  have h2 : rD (b1, [(nE, 12)]) rA = (b1 ++ [192, 12] ++ fx 1 1 5 ++ [0, 0] ++ [10, 0, 0, 1], [(nE, 12)]) := by
    unfold rD
    rw [h1, show whF rA.kind rA.data = some [⟨dA, false, 4⟩] from dA_whole]
    show wrF _ [⟨dA, false, 4⟩] _ _ = _
    rw [wrF_txt rfl, wrF]
    rfl
  unfold rF
  rw [h2, h1, show rA.name = nE from rfl, nm_R]
  decide +kernel
theorem mB_s5 : mB.s5 = (bB, [(nE, 12)]) := by
  show rF mB.s1 rA = _
  rw [mB_s1, rB]
theorem mC_s5 : mC.s5 = (bC, []) := mC_s0
theorem mD_s5 : mD.s5 = (bD, []) := by
  show opF mD.sz _ _ mD.s0 = _
  unfold opF
  rw [mD_s0, nm_D]
  decide +kernel
theorem out_of {m : Ms} {b : List UInt8} {T : Tb} (hm : m.may = true) (h : m.s5 = (b, T)) (hb : b.length ≤ 65535) (ho : m.ops = []) : m.wE = 0 ∧ m.out = ⟨b.toArray⟩ := by
  have e : m.wE = 0 := by
    unfold Ms.wE
    rw [if_neg (by rw [hm]; simp), if_neg ?_]
    rintro (⟨_, h3⟩ | h3)
    · exact h3 (by rw [ho]; decide)
    · rw [h] at h3; dsimp only at h3; omega
  exact ⟨e, by unfold Ms.out; rw [if_pos e, h]⟩
theorem mA_out : mA.wE = 0 ∧ mA.out = ⟨bA.toArray⟩ := out_of mA_may mA_s5 (by decide) rfl
theorem mB_out : mB.wE = 0 ∧ mB.out = ⟨bB.toArray⟩ := out_of mB_may mB_s5 (by decide) rfl
theorem mC_out : mC.wE = 0 ∧ mC.out = ⟨bC.toArray⟩ := out_of mC_may mC_s5 (by decide) rfl
theorem mD_out : mD.wE = 0 ∧ mD.out = ⟨bD.toArray⟩ := out_of mD_may mD_s5 (by decide) rfl
def tB : ByteArray := ⟨bB.toArray⟩
theorem rd_q : rdF tB 12 12 none [] = .ok [2, 101, 120, 0] 16 := rdK_eq _ 9 _ _ _ _ _ (by kernel_rfl)
theorem rd_r : rdF tB 20 20 none [] = .ok [2, 101, 120, 0] 22 := rdK_eq _ 9 _ _ _ _ _ (by kernel_rfl)
theorem rd_d : rdD tB 32 4 1 = (dA, 0) := by
  unfold rdD
  rw [if_neg (by decide), splK_eq (k := 9) (r := .ok [⟨dA, false, 36⟩]) (by rw [exK_eq]; kernel_rfl)]
  decide +kernel
theorem rdB : rdM tB = .ok mB := by
  unfold rdM
  rw [if_neg (by decide), if_neg (by decide)]
  have hq : rdQs tB (num tB 4 2) 12 = .ok [qA] 20 := by
    rw [show num tB 4 2 = 1 from by decide +kernel, rdQs]
    unfold rdQ1
    rw [rd_q]
    dsimp only
    rw [if_pos (by decide)]
    dsimp only
    rw [rdQs, show (⟨⟨[2, 101, 120, 0].toArray⟩, num tB 16 2, num tB (16 + 2) 2⟩ : Qn) = qA from by decide +kernel]
    rfl
  have hr : rdRs tB false 1 20 ed0 = .ok [rA] 36 ed0 := by
    have h1 := rd1_rec (add := false) (d := ed0) rd_r (by decide +kernel) (by decide +kernel) (dat := dA) (x := 0) (by
      rw [show num tB (22 + 8) 2 = 4 from by decide +kernel, show num tB 22 2 = 1 from by decide +kernel]
      exact rd_d)
    rw [if_pos rfl, show ({ rawR tB [2, 101, 120, 0] 22 with data := dA } : Rc) = rA from by decide +kernel, show 22 + 10 + num tB (22 + 8) 2 = 36 from by decide +kernel] at h1
    rw [rdRs_rec h1]
    rfl
  rw [hq, show num tB 6 2 = 1 from by decide +kernel, show num tB 8 2 = 0 from by decide +kernel, show num tB 10 2 = 0 from by decide +kernel, show fromN (num tB 0 2) (num tB 2 2) = hB from by decide +kernel]
  show rdA tB hB 1 0 0 [qA] 20 = _
  unfold rdA
  rw [hr]
  show rdEnd tB 36 (msOf hB [qA] [rA] [] [] ed0) = _
  unfold rdEnd
  rw [if_neg (by decide), show msOf hB [qA] [rA] [] [] ed0 = mB from rfl, if_pos mB_out.1]
theorem dcB : dcM tB = mB ∧ dcE tB = 0 := by unfold dcM dcE; rw [rdB]; exact ⟨rfl, rfl⟩
theorem qA_rng : qA.rng := ⟨by decide, by decide⟩
theorem rA_rng : rA.rng := ⟨by decide, by decide, by decide, by decide⟩
theorem mA_rng : mA.rng := ⟨by decide, by simp [mA, qA_rng], by simp [mA], by simp [mA], by simp [mA], by decide, by decide, by decide, by decide, by decide, by decide, by simp [mA]⟩
theorem mB_rng : mB.rng := ⟨by decide, by simp [mB, qA_rng], by simp [mB, rA_rng], by simp [mB], by simp [mB], by decide, by decide, by decide, by decide, by decide, by decide, by simp [mB]⟩
theorem mC_rng : mC.rng := ⟨by decide, by simp [mC], by simp [mC], by simp [mC], by simp [mC], by decide, by decide, by decide, by decide, by decide, by decide, by simp [mC]⟩
theorem mD_rng : mD.rng := ⟨by decide, by simp [mD], by simp [mD], by simp [mD], by simp [mD], by decide, by decide, by decide, by decide, by decide, by decide, by simp [mD]⟩
end Go.Proofs.YthgendgmlpaglaaDoor
