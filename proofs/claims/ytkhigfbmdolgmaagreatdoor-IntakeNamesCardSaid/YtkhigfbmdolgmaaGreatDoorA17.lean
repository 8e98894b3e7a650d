/-
  Wire: the deferred closures of Encode, Size.
  Wire: Encode, Size.
-/
import Derived.Test.YtkhigfbmdolgmaaGreatDoorWiL
import Derived.Test.YtkhigfbmdolgmaaGreatDoorA12
namespace Go.Proofs.YtkhigfbmdolgmaaGreatDoor
open Go.RowKit

/-- What such a closure leaves behind a panic: two variables have been set. -/
def CloPost (p q : Nat) (x y : Value) (w : World) (e : Ending) (w' : World) : Prop :=
  e = .returned (.tuple #[]) ∧ ∃ wm, w.grownBy wm none ∧ w' = ((wm.setCell ⟨p, 0, none⟩ x).setCell ⟨q, 0, none⟩ y).drew
theorem ta_yes (k : Int) (w : World) : (Instr.typeAssert (fault k) 20 102 true).run Tryz.prog w = .ok (.tuple #[.agg #[.int .i64 k], .bool true]) w := by kernel_rfl
theorem ta_no (w : World) : (Instr.typeAssert .nilIface 20 102 true).run Tryz.prog w = .ok (.tuple #[.agg #[.int .i64 0], .bool false]) w := by kernel_rfl

end Go.Proofs.YtkhigfbmdolgmaaGreatDoor
namespace Go.Proofs.YtkhigfbmdolgmaaGreatDoor
open Go.RowKit

def Ms.out (m : Ms) : ByteArray := if m.wE = 0 then ⟨m.s5.1.toArray⟩ else ByteArray.empty
def Ms.num (m : Ms) : Nat := if m.wE = 0 then m.s5.1.length else 0
theorem gset2 {w0 w : World} {p : Addr} {v : Value} (g : w0.grownBy w none) (h : w0.heap.size ≤ p.block) : w0.grownBy (w.setCell p v) none := gset g (.inr h) _
theorem set_two {w : World} {p q : Nat} {x y : Value} {t1 t2 : TypeId} {z1 z2 : Nat × Nat} (hp : w.heap[p]? = some (.cells #[x] t1 z1)) (hq : w.heap[q]? = some (.cells #[y] t2 z2)) (hne : p ≠ q) (x' y' : Value) :
    ((w.setCell ⟨p, 0, none⟩ x').setCell ⟨q, 0, none⟩ y').heap[p]? = some (.cells #[x'] t1 z1) ∧ ((w.setCell ⟨p, 0, none⟩ x').setCell ⟨q, 0, none⟩ y').heap[q]? = some (.cells #[y'] t2 z2) := by
  have g1 : w.grownBy (w.setCell ⟨p, 0, none⟩ x') (some p) := gset (grefl w _) (p := ⟨p, 0, none⟩) (.inl rfl) _
  have g2 : (w.setCell ⟨p, 0, none⟩ x').grownBy ((w.setCell ⟨p, 0, none⟩ x').setCell ⟨q, 0, none⟩ y') (some q) := gset (grefl _ _) (p := ⟨q, 0, none⟩) (.inl rfl) _
  have h1 := bset hp 0 x'
  have h2 := gblock g1 hq (by simpa using fun e => hne e.symm)
  exact ⟨gblock g2 h1 (by simpa using hne), bset h2 0 y'⟩

end Go.Proofs.YtkhigfbmdolgmaaGreatDoor
