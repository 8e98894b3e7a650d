/-
  Contracts of At and Left (and of awake) in the form that a region of quiet operations asks.
-/
import Derived.Test.YtndkgogohlikiaaDoorCurC
import Derived.Test.YtndkgogohlikiaaDoorRegion
namespace Go.Proofs.YtndkgogohlikiaaDoor
open Go.RowKit
theorem at_gr {w : World} {b : Nat} {s : ByteArray} {p : Nat} (h : Cur w b s p) (g : Gr w) : Calls Tryd.prog 22 #[.pointer (some ⟨b, 0, none⟩)] g.w fun e w'' => e = .returned (.int .i64 p) ∧ ∃ m : Gr w, w'' = m.w :=
  Calls.gr ((at_any b s p g.w (h.kept g.h (by simp))).mono fun e w' ⟨he, hw⟩ => ⟨he, by subst hw; exact grefl _ _⟩)
theorem left_gr {w : World} {b : Nat} {s : ByteArray} {p : Nat} (h : Cur w b s p) (hp : p ≤ s.size) (hs : s.size ≤ maxLen) (g : Gr w) : Calls Tryd.prog 23 #[.pointer (some ⟨b, 0, none⟩)] g.w fun e w'' => e = .returned (.int .i64 ((s.size : Int) - p)) ∧ ∃ m : Gr w, w'' = m.w :=
  Calls.gr (left_any b s p g.w (h.kept g.h (by simp)) hp hs)
end Go.Proofs.YtndkgogohlikiaaDoor
