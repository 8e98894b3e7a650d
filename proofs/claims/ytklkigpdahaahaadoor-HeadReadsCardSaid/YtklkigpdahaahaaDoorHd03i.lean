/-
  HeadReads.
-/
import Derived.Test.YtklkigpdahaahaaDoorHd03f
import Derived.Test.YtklkigpdahaahaaDoorHd03h
namespace Go.Proofs.YtklkigpdahaahaaDoor
open Go.RowKit

theorem rread_lit (s : ByteArray) (h c : Value) (w : World) (hl : 12 ≤ s.size) (hs : s.size ≤ maxLen) (hh : (fromN (num s 0 2) (num s 2 2)).v = h) (hc : cv (num s 4 2) (num s 6 2) (num s 8 2) (num s 10 2) = c) : Calls Tryd.prog 10 #[.string s] w fun e w' => e = .returned (.tuple #[h, c, .int .i64 0]) ∧ w.grownBy w' none := by
  subst hh hc
  exact rread_ok s w hl hs

set_option maxHeartbeats 4000000 in
set_option maxRecDepth 100000 in
theorem reads_gen (s : ByteArray) (i o c : Int) (q1 q2 q3 q4 q5 q6 q7 q8 : Bool) (x0 x1 x2 x3 k : Int) (w : World) (he : Et w) (hb : Bt w)
    (h1 : ∀ w, Et w → Bt w → Calls Tryd.prog 9 #[.string s] w fun e w' => e = .returned (.tuple #[.agg #[.int .u16 i, .bool q1, .int .u8 o, .bool q2, .bool q3, .bool q4, .bool q5, .bool q6, .bool q7, .bool q8, .int .u8 c], .agg #[.int .i64 x0, .int .i64 x1, .int .i64 x2, .int .i64 x3], .int .i64 k]) ∧ w.grownBy w' none)
    (h2 : ∀ w, Calls Tryd.prog 10 #[.string s] w fun e w' => e = .returned (.tuple #[.agg #[.int .u16 i, .bool q1, .int .u8 o, .bool q2, .bool q3, .bool q4, .bool q5, .bool q6, .bool q7, .bool q8, .int .u8 c], .agg #[.int .i64 x0, .int .i64 x1, .int .i64 x2, .int .i64 x3], .int .i64 k]) ∧ w.grownBy w' none) :
    Calls Tryd.prog 3 #[.string s] w fun e w' => e = .returned (.bool true) ∧ w.grownBy w' none := by
  have HE := Lib.hid he
  have HB := Lib.hid hb
  have K1 := Lib.hid h1
  have K2 := Lib.hid h2
  have ce := counts_eq
  have fe := four_eq
  clear he hb h1 h2
  go_enter Tryd.func3, Tryd.ntmps3
  go_wp2_with fail
  refine Calls.mono (K1.out _ HE.out HB.out) ?_
  rintro e w1 ⟨rfl, hg⟩
  have G1 := Lib.hid hg
  clear hg
  go_wp2_with fail
  refine Calls.mono (K2.out _) ?_
  rintro e w2 ⟨rfl, hg⟩
  have G2 := Lib.hid (gtrans G1.out (gfrom2 hg))
  have A2 := Lib.hid (gblock hg (heap_alloc2_old _ _ _) (by simp))
  have B2 := Lib.hid (gblock hg (heap_alloc2_new _ _ _) (by simp))
  clear hg G1
  have la : w1.heap.size < w2.heap.size := blt A2.out
  have lb : w1.heap.size + 1 < w2.heap.size := blt B2.out
  have a0 := bcellAt A2.out 0
  have a1 := bcellAt A2.out 1
  have a2 := bcellAt A2.out 2
  have a3 := bcellAt A2.out 3
  have a4 := bcellAt A2.out 4
  have a5 := bcellAt A2.out 5
  have a6 := bcellAt A2.out 6
  have a7 := bcellAt A2.out 7
  have a8 := bcellAt A2.out 8
  have a9 := bcellAt A2.out 9
  have a10 := bcellAt A2.out 10
  have b0 := bcellAt B2.out 0
  have b1 := bcellAt B2.out 1
  have b2 := bcellAt B2.out 2
  have b3 := bcellAt B2.out 3
  simp only [List.getElem?_toArray, List.getElem?_cons_zero, List.getElem?_cons_succ] at a0 a1 a2 a3 a4 a5 a6 a7 a8 a9 a10 b0 b1 b2 b3
  go_wp2_with (go_at_call 11; refine Calls.mono (awake03 _ (HE.out.kept (by first | exact G2.out | exact galloc G2.out _ | exact galloc (galloc G2.out _) _ | exact galloc (galloc (galloc G2.out _) _) _) (by simp)) (HB.out.kept (by first | exact G2.out | exact galloc G2.out _ | exact galloc (galloc G2.out _) _ | exact galloc (galloc (galloc G2.out _) _) _) (by simp))) ?_; rintro e w3 ⟨rfl, hg⟩; have G3 := Lib.hid (gtrans G2.out (gfrom2 hg)); clear hg)
  go_ret
  exact ⟨rfl, by first | exact G3.out | exact galloc G3.out _ | exact galloc (galloc G3.out _) _ | exact galloc (galloc (galloc G3.out _) _) _⟩

theorem reads_walk03 (s : ByteArray) (w : World) (he : Et w) (hb : Bt w) (hs : s.size ≤ maxLen) : Calls Tryd.prog 3 #[.string s] w fun e w' => e = .returned (.bool true) ∧ w.grownBy w' none := by
  by_cases h : s.size < 12
  · exact reads_gen s 0 0 0 false false false false false false false false 0 0 0 0 4 w he hb (fun w _ _ => read_short s w h) (fun w => rread_short s w h)
  · obtain ⟨i, o, c, q1, q2, q3, q4, q5, q6, q7, q8, hh⟩ := head_shape (fromN (num s 0 2) (num s 2 2))
    exact reads_gen s i o c q1 q2 q3 q4 q5 q6 q7 q8 _ _ _ _ 0 w he hb (fun w he hb => read_lit s _ _ w he hb (by omega) hs hh rfl) (fun w => rread_lit s _ _ w (by omega) hs hh rfl)
end Go.Proofs.YtklkigpdahaahaaDoor
