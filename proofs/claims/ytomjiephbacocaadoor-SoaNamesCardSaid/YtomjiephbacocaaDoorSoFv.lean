/-
  Soa: closed examples of SoaNames.
-/
import Derived.Test.YtomjiephbacocaaDoorSo10p
namespace Go.Proofs.YtomjiephbacocaaDoor
open Go.RowKit

def dA4 : ByteArray := ⟨#[97, 97, 97, 97]⟩
def dA3 : ByteArray := ⟨#[97, 97, 97]⟩
def zX : ByteArray := ⟨#[2, 101, 120]⟩
theorem inn_is (n : ByteArray) (c : Nat) (nm : ByteArray) (kd cl tt : Nat) (v : Value) (dt : List ByteArray) (d : Int) : innB n c ⟨nm, kd, cl, tt, v, dt⟩ d = (decide (kd = 6) && decide (cl = c) && wiN n nm && decide (d < (nlb nm : Int))) := rfl
theorem mayX : may zX = false := may_of 9 (by decide) (by decide +kernel)
theorem may0 : may ⟨#[]⟩ = false := may_of 9 (by decide) (by decide +kernel)
theorem wX (z : ByteArray) : wiN zX z = false := by unfold wiN; rw [mayX]; simp
theorem wR0 : wiN zR ⟨#[]⟩ = false := by unfold wiN; rw [may0]; simp
theorem wRR : wiN zR zR = true := wi_is 9 0 mayzR mayzR (by decide +kernel) (by decide +kernel)
theorem fNil (n : ByteArray) (c : Nat) : fndF n c [] = .non := rfl
theorem fNon2 {n : ByteArray} {c : Nat} {x y : St} (hx : innB n c x (-1) = false) (hy : innB n c y (-1) = false) : fndF n c [x, y] = .non := by
  refine fnd_non (d := -1) ?_
  show bI n c [x, y] 2 = _
  rw [bI2]
  simp [hx, hy]
theorem fCls (g0 g1 : Nat) : fndF zE 3 [ofS zE 9 d5 g0, ofS zR 9 d256 g1] = .non := fNon2 (by rw [inn_of]; decide) (by rw [inn_of]; decide)
theorem fX (g0 g1 : Nat) : fndF zX 1 [ofS zE 9 d5 g0, ofS zR 9 d256 g1] = .non := fNon2 (by rw [inn_of, wX]; simp) (by rw [inn_of, wX]; simp)
theorem fNs (v : Value) (l : List ByteArray) : fndF zR 1 [⟨zR, 2, 1, 0, v, l⟩, ⟨⟨#[]⟩, 6, 1, 0, .slice none 0 0, []⟩] = .non := fNon2 (by rw [inn_is]; decide) (by rw [inn_is, wR0]; simp)
theorem fFirst (g0 g1 : Nat) : fndF zR 1 [ofS zR 1 dA4 g0, ofS zR 2 dA4 g1] = .got (ofS zR 1 dA4 g0) := by
  rw [fnd_is (j := 0) (d := 0) (x := ofS zR 1 dA4 g0) ?_ rfl]
  · rfl
  · show bI zR 1 _ 2 = _
    rw [bI2]
    simp only [inn_of, wRR, lbR, show ∀ t g, nlb (ofS zR t dA4 g).name = 0 from fun _ _ => lbR]
    decide
theorem fNone (g : Nat) : fndF zR 1 [⟨zR, 6, 1, 0, .slice none 0 0, []⟩, ofS zR 2 dA4 g] = .bad := by
  rw [fnd_is (j := 0) (d := 0) (x := ⟨zR, 6, 1, 0, .slice none 0 0, []⟩) ?_ rfl]
  · rfl
  · show bI zR 1 _ 2 = _
    rw [bI2]
    simp only [inn_of, inn_is, wRR, lbR, show ∀ t g, nlb (ofS zR t dA4 g).name = 0 from fun _ _ => lbR]
    decide
theorem tmA (g : Nat) : tmF (ofS zR 2147483647 ⟨#[127, 255, 255, 255]⟩ g) = 2147483647 := by
  rw [tm_of _ _ _ _ rfl]; decide +kernel
theorem tmB (g : Nat) : tmF (ofS zR 2147483648 ⟨#[127, 255, 255, 255]⟩ g) = 0 := by
  rw [tm_of _ _ _ _ rfl]; decide +kernel
theorem tmC (g : Nat) : tmF (ofS zR 7 ⟨#[128, 0, 0, 0]⟩ g) = 0 := by
  rw [tm_of _ _ _ _ rfl]; decide +kernel
theorem tmD (g : Nat) : tmF (ofS zR 0 d5 g) = 0 := by
  rw [tm_of _ _ _ _ rfl]; decide +kernel
theorem mayShort : mayD 6 (ofD dA3) = false := by
  unfold mayD
  rw [whK_no (k := 9) (e := 4) (by kernel_rfl)]
  rfl
theorem tmE (v : Value) : tmF ⟨zR, 6, 1, 9, v, [ofD dA3]⟩ = 0 := if_neg (fun h => by rw [mayShort] at h; cases h.2)
theorem tmO (v : Value) (d : ByteArray) : tmF ⟨zR, 2, 1, 9, v, [d]⟩ = 0 := by unfold tmF; simp
theorem tmN (n : ByteArray) (k c t : Nat) (v : Value) : tmF ⟨n, k, c, t, v, []⟩ = 0 := rfl
end Go.Proofs.YtomjiephbacocaaDoor
