/-
  The law package's awake().
-/
import Derived.Test.YtklkigpdahaahaaDoorHd03d
import Derived.Test.YtklkigpdahaahaaDoorHdEq
namespace Go.Proofs.YtklkigpdahaahaaDoor
open Go.RowKit

theorem read_lit (s : ByteArray) (h c : Value) (w : World) (he : Et w) (hb : Bt w) (hl : 12 ≤ s.size) (hs : s.size ≤ maxLen) (hh : (fromN (num s 0 2) (num s 2 2)).v = h) (hc : cv (num s 4 2) (num s 6 2) (num s 8 2) (num s 10 2) = c) : Calls Tryd.prog 9 #[.string s] w fun e w' => e = .returned (.tuple #[h, c, .int .i64 0]) ∧ w.grownBy w' none := by
  subst hh hc
  exact read_ok s w he hb hl hs
theorem flags_lit (H : Hd) (a : Value) (n k : Int) (w : World) (hb : Bt w) (ha : H.v = a) (hn : (flN H : Int) = n) (hk : (flE H : Int) = k) : Calls Tryd.prog 14 #[a] w fun e w' => e = .returned (.tuple #[.int .u16 n, .int .i64 k]) ∧ w.grownBy w' none := by
  subst ha hn hk
  exact flags_any H w hb

theorem gfrom1 {a w : World} {o : Obj} (h : (a.alloc o).grownBy w none) : a.grownBy w none := gtrans (galloc (grefl _ none) _) h
theorem gfrom2 {a w : World} {o p : Obj} (h : ((a.alloc o).alloc p).grownBy w none) : a.grownBy w none := gfrom1 (gfrom1 h)

set_option maxHeartbeats 4000000 in
set_option maxRecDepth 100000 in
theorem awake03 (w : World) (he : Et w) (hb : Bt w) : Calls Tryd.prog 11 #[] w fun e w' => e = .returned (.bool true) ∧ w.grownBy w' none := by
  have HE := Lib.hid he
  have HB := Lib.hid hb
  clear he hb
  go_enter Tryd.func11, Tryd.ntmps11
  go_wp2_with fail
  refine Calls.mono (read_lit _ (.agg #[.int .u16 4660, .bool true, .int .u8 0, .bool false, .bool false, .bool true, .bool true, .bool false, .bool false, .bool false, .int .u8 0]) (.agg #[.int .i64 1, .int .i64 2, .int .i64 0, .int .i64 1]) _ HE.out HB.out (by decide) (by decide) (by kernel_rfl) (by kernel_rfl)) ?_
  rintro e w1 ⟨rfl, hg⟩
  have G1 := Lib.hid hg
  clear hg
  go_wp2_with fail
  refine Calls.mono (read_lit _ (.agg #[.int .u16 0, .bool false, .int .u8 5, .bool false, .bool false, .bool false, .bool false, .bool false, .bool false, .bool false, .int .u8 5]) (.agg #[.int .i64 0, .int .i64 0, .int .i64 0, .int .i64 0]) _ (HE.out.kept (by first | exact G1.out | exact galloc G1.out _ | exact galloc (galloc G1.out _) _ | exact galloc (galloc (galloc G1.out _) _) _) (by simp)) (HB.out.kept (by first | exact G1.out | exact galloc G1.out _ | exact galloc (galloc G1.out _) _ | exact galloc (galloc (galloc G1.out _) _) _) (by simp)) (by decide) (by decide) (by kernel_rfl) (by kernel_rfl)) ?_
  rintro e w2 ⟨rfl, hg⟩
  have G2 := Lib.hid (gtrans G1.out (gfrom2 hg))
  have A2 := Lib.hid (gblock hg (heap_alloc2_old _ _ _) (by simp))
  have B2 := Lib.hid (gblock hg (heap_alloc2_new _ _ _) (by simp))
  clear hg G1
  go_wp2_with fail
  refine Calls.mono (flags_lit ⟨0, false, 0, true, true, false, false, false, false, false, 0⟩ _ 1536 0 _ (HB.out.kept (by first | exact G2.out | exact galloc G2.out _ | exact galloc (galloc G2.out _) _ | exact galloc (galloc (galloc G2.out _) _) _) (by simp)) rfl (by kernel_rfl) (by kernel_rfl)) ?_
  rintro e w3 ⟨rfl, hg⟩
  have G3 := Lib.hid (gtrans G2.out (gfrom2 hg))
  have A3 := Lib.hid (gblock (gfrom2 hg) A2.out (by simp))
  have B3 := Lib.hid (gblock (gfrom2 hg) B2.out (by simp))
  have C3 := Lib.hid (gblock hg (heap_alloc2_old _ _ _) (by simp))
  clear hg G2 A2 B2
  go_wp2_with fail
  refine Calls.mono (flags_lit ⟨0, false, 16, false, false, false, false, false, false, false, 0⟩ _ 0 1 _ (HB.out.kept G3.out (by simp)) rfl (by kernel_rfl) (by kernel_rfl)) ?_
  rintro e w4 ⟨rfl, hg⟩
  have G4 := Lib.hid (gtrans G3.out hg)
  have A4 := Lib.hid (gblock hg A3.out (by simp))
  have B4 := Lib.hid (gblock hg B3.out (by simp))
  have C4 := Lib.hid (gblock hg C3.out (by simp))
  clear hg G3 A3 B3 C3
  go_wp2_with fail
  refine Calls.mono (read_short _ _ (by decide)) ?_
  rintro e w5 ⟨rfl, hg⟩
  have G5 := Lib.hid (gtrans G4.out hg)
  have A5 := Lib.hid (gblock hg A4.out (by simp))
  have B5 := Lib.hid (gblock hg B4.out (by simp))
  have C5 := Lib.hid (gblock hg C4.out (by simp))
  clear hg G4 A4 B4 C4
  simp only [Hd.v, hd0, cv]
  have ce := counts_eq
  have la : w1.heap.size < w5.heap.size := blt A5.out
  have lb : w1.heap.size + 1 < w5.heap.size := blt B5.out
  have lc : w2.heap.size < w5.heap.size := blt C5.out
  have a0 := bcellAt A5.out 0
  have a1 := bcellAt A5.out 1
  have a2 := bcellAt A5.out 2
  have a3 := bcellAt A5.out 3
  have a4 := bcellAt A5.out 4
  have a5 := bcellAt A5.out 5
  have a6 := bcellAt A5.out 6
  have a7 := bcellAt A5.out 7
  have a8 := bcellAt A5.out 8
  have a9 := bcellAt A5.out 9
  have a10 := bcellAt A5.out 10
  have b0 := bcellAt B5.out 0
  have b1 := bcellAt B5.out 1
  have b2 := bcellAt B5.out 2
  have b3 := bcellAt B5.out 3
  have c0 := bcellAt C5.out 0
  have c1 := bcellAt C5.out 1
  have c2 := bcellAt C5.out 2
  have c3 := bcellAt C5.out 3
  have c4 := bcellAt C5.out 4
  have c5 := bcellAt C5.out 5
  have c6 := bcellAt C5.out 6
  have c7 := bcellAt C5.out 7
  have c8 := bcellAt C5.out 8
  have c9 := bcellAt C5.out 9
  have c10 := bcellAt C5.out 10
  simp only [List.getElem?_toArray, List.getElem?_cons_zero, List.getElem?_cons_succ] at a0 a1 a2 a3 a4 a5 a6 a7 a8 a9 a10 b0 b1 b2 b3 c0 c1 c2 c3 c4 c5 c6 c7 c8 c9 c10
  go_wp2
  go_ret
  exact ⟨rfl, by first | exact G5.out | exact galloc G5.out _ | exact galloc (galloc G5.out _) _ | exact galloc (galloc (galloc G5.out _) _) _⟩
end Go.Proofs.YtklkigpdahaahaaDoor
