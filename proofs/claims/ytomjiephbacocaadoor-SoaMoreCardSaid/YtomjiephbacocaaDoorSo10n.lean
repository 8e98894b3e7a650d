/-
  Soa: the examples' sets.
-/
import Derived.Test.YtomjiephbacocaaDoorSo10m
namespace Go.Proofs.YtomjiephbacocaaDoor
open Go.RowKit

/-- The datum of an example. -/
def ofD (last : ByteArray) : ByteArray := ⟨#[0, 0]⟩ ++ ⟨#[0, 0, 0, 0, 0, 0, 0, 0, 0, 0, 0, 0, 0, 0, 0, 0]⟩ ++ last
def ofS (n : ByteArray) (ttl : Nat) (last : ByteArray) (g : Nat) : St := ⟨n, 6, 1, ttl, .slice (some ⟨g, 0, none⟩) 1 1, [ofD last]⟩
def OfPost (n : ByteArray) (ttl : Nat) (last : ByteArray) (w : World) (e : Ending) (w' : World) : Prop :=
  ∃ g, e = .returned (ofS n ttl last g).val ∧ StW w' (ofS n ttl last g) ∧ w.grownBy w' none

theorem sl_new1 (w : World) (t : TypeId) (s : ByteArray) : Sl (w.alloc (.cells #[.string s] t)) 1 (.slice (some ⟨w.heap.size, 0, none⟩) 1 1) 1 (strs [s]) := by
  refine ⟨_, 1, rfl, Nat.le_refl _, rfl, by simp, fun _ => ⟨w.heap.size, 0, rfl, fun j u hu => ?_⟩⟩
  rw [Nat.zero_add, bcellAt (balloc w _), ← Array.getElem?_toList]
  exact hu
theorem mk16 (w : World) : (Instr.makeSlice 40 (.int .i64 16) (.int .i64 16)).run Tryd.prog w = .ok (.slice (some ⟨w.heap.size, 0, none⟩) 16 16) (w.alloc (.cells #[.int .u8 0, .int .u8 0, .int .u8 0, .int .u8 0, .int .u8 0, .int .u8 0, .int .u8 0, .int .u8 0, .int .u8 0, .int .u8 0, .int .u8 0, .int .u8 0, .int .u8 0, .int .u8 0, .int .u8 0, .int .u8 0] 5)) := by kernel_rfl
set_option maxRecDepth 100000 in
set_option maxHeartbeats 8000000 in
theorem of_any (n : ByteArray) (ttl : Nat) (last : ByteArray) (w : World) (hl : last.size ≤ 1000000) : Calls Tryd.prog 17 #[.string n, .int .u32 (ttl : Int), .string last] w (OfPost n ttl last w) := by
  have hmk := mk16
  have hcv := cvs (sl_new (w.alloc (.cells #[.string ⟨#[]⟩, .int .u16 0, .int .u16 0, .int .u32 0, .slice none 0 0] 27)) 5 [0, 0, 0, 0, 0, 0, 0, 0, 0, 0, 0, 0, 0, 0, 0, 0] #[.int .u8 0, .int .u8 0, .int .u8 0, .int .u8 0, .int .u8 0, .int .u8 0, .int .u8 0, .int .u8 0, .int .u8 0, .int .u8 0, .int .u8 0, .int .u8 0, .int .u8 0, .int .u8 0, .int .u8 0, .int .u8 0] 16 rfl rfl)
  rw [show (ByteArray.mk [0, 0, 0, 0, 0, 0, 0, 0, 0, 0, 0, 0, 0, 0, 0, 0].toArray) = (⟨#[0, 0, 0, 0, 0, 0, 0, 0, 0, 0, 0, 0, 0, 0, 0, 0]⟩ : ByteArray) from rfl] at hcv
  simp only [asz] at hcv
  go_enter Tryd.func17, Tryd.ntmps17
  go_wp2_with fail
  refine bodyPost_ret (results_cell_row rfl _ _ w.heap.size _ _ _ _ rfl (balloc3_0 w _ _ _) Tryd.underlying27 rfl (by kernel_rfl)) rfl ?_
  have hs := sl_new1 ((w.alloc (.cells #[.string n, .int .u16 6, .int .u16 1, .int .u32 (ttl : Int), .slice (some ⟨w.heap.size + 1 + 1, 0, none⟩) 1 1] 27)).alloc (.cells #[.int .u8 0, .int .u8 0, .int .u8 0, .int .u8 0, .int .u8 0, .int .u8 0, .int .u8 0, .int .u8 0, .int .u8 0, .int .u8 0, .int .u8 0, .int .u8 0, .int .u8 0, .int .u8 0, .int .u8 0, .int .u8 0] 5)) 9 (ofD last)
  simp only [asz] at hs
  exact ⟨_, rfl, hs, galloc (galloc (galloc (grefl w none) _) _) _⟩

def zE : ByteArray := ⟨#[2, 101, 120, 0]⟩
def zR : ByteArray := ⟨#[0]⟩
def d5 : ByteArray := ⟨#[0, 0, 0, 5]⟩
def d256 : ByteArray := ⟨#[0, 0, 1, 0]⟩
def TwPost (w : World) (e : Ending) (w' : World) : Prop := ∃ b g0 g1, e = .returned (.slice (some ⟨b, 0, none⟩) 2 2) ∧ Sts w' (.slice (some ⟨b, 0, none⟩) 2 2) [ofS zE 9 d5 g0, ofS zR 9 d256 g1] ∧ w.grownBy w' none
theorem sts_two (w : World) (x y : St) (hx : StW w x) (hy : StW w y) : Sts (w.alloc (.cells #[.string x.name, .int .u16 (x.kind : Int), .int .u16 (x.cls : Int), .int .u32 (x.ttl : Int), x.vd, .string y.name, .int .u16 (y.kind : Int), .int .u16 (y.cls : Int), .int .u32 (y.ttl : Int), y.vd] 27)) (.slice (some ⟨w.heap.size, 0, none⟩) 2 2) [x, y] := by
  refine ⟨⟨_, 2, rfl, Nat.le_refl _, rfl, by simp, fun _ => ⟨w.heap.size, 0, rfl, fun j u hu => ?_⟩⟩, fun z hz => ?_⟩
  · rw [Nat.zero_add, bcellAt (balloc w _), ← Array.getElem?_toList]
    exact hu
  · have g := galloc (grefl w none) (.cells #[.string x.name, .int .u16 (x.kind : Int), .int .u16 (x.cls : Int), .int .u32 (x.ttl : Int), x.vd, .string y.name, .int .u16 (y.kind : Int), .int .u16 (y.cls : Int), .int .u32 (y.ttl : Int), y.vd] 27)
    simp only [List.mem_cons, List.not_mem_nil, or_false] at hz
    rcases hz with rfl | rfl
    · exact hx.kept g
    · exact hy.kept g

set_option maxRecDepth 100000 in
set_option maxHeartbeats 8000000 in
theorem two10_any (w : World) : Calls Tryd.prog 16 #[] w (TwPost w) := by
  go_enter Tryd.func16, Tryd.ntmps16
  go_wp2_with fail
  refine (of_any zE 9 d5 w (by decide)).mono ?_
  rintro e w1 ⟨g0, rfl, hs0, hg0⟩
  unfold ofS St.val
  go_wp2_with fail
  refine (of_any zR 9 d256 w1 (by decide)).mono ?_
  rintro e w2 ⟨g1, rfl, hs1, hg1⟩
  unfold ofS St.val
  have HT := Lib.hid (sts_two w2 _ _ (hs0.kept hg1) hs1)
  have HG := Lib.hid (gtrans hg0 hg1)
  clear hs0 hg0 hs1 hg1
  go_wp2_with fail
  go_ret
  exact ⟨_, g0, g1, rfl, HT.out, galloc HG.out _⟩
end Go.Proofs.YtomjiephbacocaaDoor
