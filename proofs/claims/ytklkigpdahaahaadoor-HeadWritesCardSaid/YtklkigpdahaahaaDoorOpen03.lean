/-
  A header, and counts, that came in.
-/
import Derived.Test.YtklkigpdahaahaaDoorOpenS
import Derived.Test.YtklkigpdahaahaaDoorHd03d
namespace Go.Proofs.YtklkigpdahaahaaDoor
open Go.ChangeShapes Go.WideShapes Go.RowKit Go.Deep

set_option maxRecDepth 100000 in
theorem open_head {H : Type} {enc : TypeId × Value → H} {w : World} {base : Nat} {spare : Nat → Bool} {held : Bool} {r : Reach} {b0 : Nat} {v : Value} {d : DataW H} {p : List MemPlace}
    (hv : Value.okWide Tryd.prog w r b0 24 v) (h : DataW.Trod enc Tryd.prog w base spare held 24 v d p) : ∃ X : Hd, v = X.v ∧ X.id < 65536 ∧ X.op < 256 ∧ X.code < 256 := by
  obtain ⟨cs, n, rfl, hl, hf⟩ := open_fields Tryd.underlying24 (by kernel_rfl) (by kernel_rfl) hv h
  match cs, hl with
  | [c0, c1, c2, c3, c4, c5, c6, c7, c8, c9, c10], _ =>
    obtain ⟨_, y0⟩ := hf 0 _ c0 rfl rfl
    obtain ⟨_, y1⟩ := hf 1 _ c1 rfl rfl
    obtain ⟨_, y2⟩ := hf 2 _ c2 rfl rfl
    obtain ⟨_, y3⟩ := hf 3 _ c3 rfl rfl
    obtain ⟨_, y4⟩ := hf 4 _ c4 rfl rfl
    obtain ⟨_, y5⟩ := hf 5 _ c5 rfl rfl
    obtain ⟨_, y6⟩ := hf 6 _ c6 rfl rfl
    obtain ⟨_, y7⟩ := hf 7 _ c7 rfl rfl
    obtain ⟨_, y8⟩ := hf 8 _ c8 rfl rfl
    obtain ⟨_, y9⟩ := hf 9 _ c9 rfl rfl
    obtain ⟨_, y10⟩ := hf 10 _ c10 rfl rfl
    obtain ⟨k0, rfl, l0⟩ := one_u16 Tryd.underlying22 y0
    obtain ⟨k1, rfl⟩ := one_bool Tryd.underlying4 y1
    obtain ⟨k2, rfl, l2⟩ := one_u8 Tryd.underlying5 y2
    obtain ⟨k3, rfl⟩ := one_bool Tryd.underlying4 y3
    obtain ⟨k4, rfl⟩ := one_bool Tryd.underlying4 y4
    obtain ⟨k5, rfl⟩ := one_bool Tryd.underlying4 y5
    obtain ⟨k6, rfl⟩ := one_bool Tryd.underlying4 y6
    obtain ⟨k7, rfl⟩ := one_bool Tryd.underlying4 y7
    obtain ⟨k8, rfl⟩ := one_bool Tryd.underlying4 y8
    obtain ⟨k9, rfl⟩ := one_bool Tryd.underlying4 y9
    obtain ⟨k10, rfl, l10⟩ := one_u8 Tryd.underlying5 y10
    exact ⟨⟨k0, k1, k2, k3, k4, k5, k6, k7, k8, k9, k10⟩, rfl, l0, l2, l10⟩
set_option maxRecDepth 100000 in
theorem open_four {H : Type} {enc : TypeId × Value → H} {w : World} {base : Nat} {spare : Nat → Bool} {held : Bool} {r : Reach} {b0 : Nat} {v : Value} {d : DataW H} {p : List MemPlace}
    (hv : Value.okWide Tryd.prog w r b0 25 v) (h : DataW.Trod enc Tryd.prog w base spare held 25 v d p) : ∃ a b c e : Int, v = cv a b c e := by
  obtain ⟨cs, n, rfl, hl, hf⟩ := open_elems Tryd.underlying25 (by kernel_rfl) (by kernel_rfl) hv h
  match cs, hl with
  | [c0, c1, c2, c3], _ =>
    obtain ⟨_, y0⟩ := hf 0 c0 rfl
    obtain ⟨_, y1⟩ := hf 1 c1 rfl
    obtain ⟨_, y2⟩ := hf 2 c2 rfl
    obtain ⟨_, y3⟩ := hf 3 c3 rfl
    obtain ⟨k0, rfl, l0⟩ := one_int Tryd.underlying3 y0
    obtain ⟨k1, rfl, l1⟩ := one_int Tryd.underlying3 y1
    obtain ⟨k2, rfl, l2⟩ := one_int Tryd.underlying3 y2
    obtain ⟨k3, rfl, l3⟩ := one_int Tryd.underlying3 y3
    exact ⟨k0, k1, k2, k3, rfl⟩
end Go.Proofs.YtklkigpdahaahaaDoor
