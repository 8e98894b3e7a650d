/-
  HeadBack: the walks.
-/
import Derived.Test.YtklkigpdahaahaaDoorHd03m
import Derived.Test.YtklkigpdahaahaaDoorWalk
namespace Go.Proofs.YtklkigpdahaahaaDoor
open Go.RowKit

set_option maxHeartbeats 8000000 in
set_option maxRecDepth 100000 in
theorem back_wr (i o c : Int) (q1 q2 q3 q4 q5 q6 q7 q8 : Bool) (x0 x1 x2 x3 : Int) (i' o' c' : Int) (r1 r2 r3 r4 r5 r6 r7 r8 : Bool) (z0 z1 z2 z3 : Int) (t s : ByteArray) (m n : Nat) (a1 a2 : Int) (p1 p2 p3 p4 p5 p6 p7 p8 : Bool) (w : World) (he : Et w) (hb : Bt w)
    (k1 : ∀ w, Bt w → Calls Tryd.prog 15 #[.agg #[.int .u16 i, .bool q1, .int .u8 o, .bool q2, .bool q3, .bool q4, .bool q5, .bool q6, .bool q7, .bool q8, .int .u8 c], .agg #[.int .i64 x0, .int .i64 x1, .int .i64 x2, .int .i64 x3]] w fun e w' => e = .returned (.tuple #[.string t, .int .i64 0]) ∧ w.grownBy w' none) (ht : ((t.size : Nat) : Int) = 12)
    (k2 : ∀ w, Et w → Bt w → Calls Tryd.prog 9 #[.string t] w fun e w' => e = .returned (.tuple #[.agg #[.int .u16 i, .bool q1, .int .u8 o, .bool q2, .bool q3, .bool q4, .bool q5, .bool q6, .bool q7, .bool q8, .int .u8 c], .agg #[.int .i64 x0, .int .i64 x1, .int .i64 x2, .int .i64 x3], .int .i64 0]) ∧ w.grownBy w' none)
    (k3 : ∀ w, Bt w → Calls Tryd.prog 14 #[.agg #[.int .u16 i, .bool q1, .int .u8 o, .bool q2, .bool q3, .bool q4, .bool q5, .bool q6, .bool q7, .bool q8, .int .u8 c]] w fun e w' => e = .returned (.tuple #[.int .u16 m, .int .i64 0]) ∧ w.grownBy w' none)
    (k4 : ∀ w, Bt w → Calls Tryd.prog 13 #[.int .u16 m] w fun e w' => e = .returned (.agg #[.int .u16 0, .bool q1, .int .u8 o, .bool q2, .bool q3, .bool q4, .bool q5, .bool q6, .bool q7, .bool q8, .int .u8 c]) ∧ w.grownBy w' none)
    (k5 : ∀ w, Et w → Bt w → Calls Tryd.prog 9 #[.string s] w fun e w' => e = .returned (.tuple #[.agg #[.int .u16 i', .bool r1, .int .u8 o', .bool r2, .bool r3, .bool r4, .bool r5, .bool r6, .bool r7, .bool r8, .int .u8 c'], .agg #[.int .i64 z0, .int .i64 z1, .int .i64 z2, .int .i64 z3], .int .i64 0]) ∧ w.grownBy w' none) (hs : ¬ ((s.size : Nat) : Int) < 12)
    (k6 : ∀ w, Bt w → Calls Tryd.prog 15 #[.agg #[.int .u16 i', .bool r1, .int .u8 o', .bool r2, .bool r3, .bool r4, .bool r5, .bool r6, .bool r7, .bool r8, .int .u8 c'], .agg #[.int .i64 z0, .int .i64 z1, .int .i64 z2, .int .i64 z3]] w fun e w' => e = .returned (.tuple #[.string (s.extract 0 12), .int .i64 0]) ∧ w.grownBy w' none)
    (k7 : ∀ w, Bt w → Calls Tryd.prog 13 #[.int .u16 n] w fun e w' => e = .returned (.agg #[.int .u16 0, .bool p1, .int .u8 a1, .bool p2, .bool p3, .bool p4, .bool p5, .bool p6, .bool p7, .bool p8, .int .u8 a2]) ∧ w.grownBy w' none) (k8 : ∀ w, Bt w → Calls Tryd.prog 14 #[.agg #[.int .u16 0, .bool p1, .int .u8 a1, .bool p2, .bool p3, .bool p4, .bool p5, .bool p6, .bool p7, .bool p8, .int .u8 a2]] w fun e w' => e = .returned (.tuple #[.int .u16 n, .int .i64 0]) ∧ w.grownBy w' none)
    : Calls Tryd.prog 8 #[.agg #[.int .u16 i, .bool q1, .int .u8 o, .bool q2, .bool q3, .bool q4, .bool q5, .bool q6, .bool q7, .bool q8, .int .u8 c], .agg #[.int .i64 x0, .int .i64 x1, .int .i64 x2, .int .i64 x3], .string s, .int .u16 n] w fun e w' => e = .returned (.bool true) ∧ w.grownBy w' none := by
  have HE := Lib.hid he
  have HB := Lib.hid hb
  have ce := counts_eq
  have fe := four_eq
  have K1 := Lib.hid k1
  have K2 := Lib.hid k2
  have K3 := Lib.hid k3
  have K4 := Lib.hid k4
  have K5 := Lib.hid k5
  have K6 := Lib.hid k6
  have K7 := Lib.hid k7
  have K8 := Lib.hid k8
  clear he hb k1 k2 k3 k4 k5 k6 k7 k8
  go_enter Tryd.func8, Tryd.ntmps8
  have GR0 := Lib.hid (grefl w none)
  go_wp2_with fail
  refine Calls.mono (K1.out _ (HB.out.kept (galloc (galloc (GR0.out) _) _) (by simp))) ?_
  rintro e w1 ⟨rfl, hg⟩
  have GR1 := Lib.hid (gtrans GR0.out (gfr1 (gfr1 (hg))))
  have A_1 := Lib.hid (gblock hg (balloc2_0 w (.cells #[.int .u16 i, .bool q1, .int .u8 o, .bool q2, .bool q3, .bool q4, .bool q5, .bool q6, .bool q7, .bool q8, .int .u8 c] 24) (.cells #[.int .i64 x0, .int .i64 x1, .int .i64 x2, .int .i64 x3] 25)) (by simp))
  have B_1 := Lib.hid (gblock hg (balloc2_1 w (.cells #[.int .u16 i, .bool q1, .int .u8 o, .bool q2, .bool q3, .bool q4, .bool q5, .bool q6, .bool q7, .bool q8, .int .u8 c] 24) (.cells #[.int .i64 x0, .int .i64 x1, .int .i64 x2, .int .i64 x3] 25)) (by simp))
  clear hg GR0
  go_wp2_with fail
  refine Calls.mono (K2.out _ (HE.out.kept (GR1.out) (by simp)) (HB.out.kept (GR1.out) (by simp))) ?_
  rintro e w2 ⟨rfl, hg⟩
  have GR2 := Lib.hid (gtrans GR1.out (hg))
  have A_2 := Lib.hid (gblock (hg) A_1.out (by simp))
  have B_2 := Lib.hid (gblock (hg) B_1.out (by simp))
  clear hg GR1 A_1 B_1
  have c_A_0 : w2.cell? ⟨w.heap.size, 0, none⟩ = some (.int .u16 i) := bcellAt A_2.out 0
  have c_A_1 : w2.cell? ⟨w.heap.size, 1, none⟩ = some (.bool q1) := bcellAt A_2.out 1
  have c_A_2 : w2.cell? ⟨w.heap.size, 2, none⟩ = some (.int .u8 o) := bcellAt A_2.out 2
  have c_A_3 : w2.cell? ⟨w.heap.size, 3, none⟩ = some (.bool q2) := bcellAt A_2.out 3
  have c_A_4 : w2.cell? ⟨w.heap.size, 4, none⟩ = some (.bool q3) := bcellAt A_2.out 4
  have c_A_5 : w2.cell? ⟨w.heap.size, 5, none⟩ = some (.bool q4) := bcellAt A_2.out 5
  have c_A_6 : w2.cell? ⟨w.heap.size, 6, none⟩ = some (.bool q5) := bcellAt A_2.out 6
  have c_A_7 : w2.cell? ⟨w.heap.size, 7, none⟩ = some (.bool q6) := bcellAt A_2.out 7
  have c_A_8 : w2.cell? ⟨w.heap.size, 8, none⟩ = some (.bool q7) := bcellAt A_2.out 8
  have c_A_9 : w2.cell? ⟨w.heap.size, 9, none⟩ = some (.bool q8) := bcellAt A_2.out 9
  have c_A_10 : w2.cell? ⟨w.heap.size, 10, none⟩ = some (.int .u8 c) := bcellAt A_2.out 10
  have l_A : w.heap.size < w2.heap.size := blt A_2.out
  go_wp2_with fail
  refine Calls.mono (K3.out _ (HB.out.kept (galloc (galloc (GR2.out) _) _) (by simp))) ?_
  rintro e w3 ⟨rfl, hg⟩
  have GR3 := Lib.hid (gtrans GR2.out (gfr1 (gfr1 (hg))))
  have A_3 := Lib.hid (gblock (gfr1 (gfr1 (hg))) A_2.out (by simp))
  have B_3 := Lib.hid (gblock (gfr1 (gfr1 (hg))) B_2.out (by simp))
  have C_3 := Lib.hid (gblock hg (balloc2_0 w2 (.cells #[.int .u16 i, .bool q1, .int .u8 o, .bool q2, .bool q3, .bool q4, .bool q5, .bool q6, .bool q7, .bool q8, .int .u8 c] 24) (.cells #[.int .i64 x0, .int .i64 x1, .int .i64 x2, .int .i64 x3] 26)) (by simp))
  have D_3 := Lib.hid (gblock hg (balloc2_1 w2 (.cells #[.int .u16 i, .bool q1, .int .u8 o, .bool q2, .bool q3, .bool q4, .bool q5, .bool q6, .bool q7, .bool q8, .int .u8 c] 24) (.cells #[.int .i64 x0, .int .i64 x1, .int .i64 x2, .int .i64 x3] 26)) (by simp))
  clear hg GR2 A_2 B_2 c_A_0 c_A_1 c_A_2 c_A_3 c_A_4 c_A_5 c_A_6 c_A_7 c_A_8 c_A_9 c_A_10 l_A
  have c_A_0 : w3.cell? ⟨w.heap.size, 0, none⟩ = some (.int .u16 i) := bcellAt A_3.out 0
  have c_A_1 : w3.cell? ⟨w.heap.size, 1, none⟩ = some (.bool q1) := bcellAt A_3.out 1
  have c_A_2 : w3.cell? ⟨w.heap.size, 2, none⟩ = some (.int .u8 o) := bcellAt A_3.out 2
  have c_A_3 : w3.cell? ⟨w.heap.size, 3, none⟩ = some (.bool q2) := bcellAt A_3.out 3
  have c_A_4 : w3.cell? ⟨w.heap.size, 4, none⟩ = some (.bool q3) := bcellAt A_3.out 4
  have c_A_5 : w3.cell? ⟨w.heap.size, 5, none⟩ = some (.bool q4) := bcellAt A_3.out 5
  have c_A_6 : w3.cell? ⟨w.heap.size, 6, none⟩ = some (.bool q5) := bcellAt A_3.out 6
  have c_A_7 : w3.cell? ⟨w.heap.size, 7, none⟩ = some (.bool q6) := bcellAt A_3.out 7
  have c_A_8 : w3.cell? ⟨w.heap.size, 8, none⟩ = some (.bool q7) := bcellAt A_3.out 8
  have c_A_9 : w3.cell? ⟨w.heap.size, 9, none⟩ = some (.bool q8) := bcellAt A_3.out 9
  have c_A_10 : w3.cell? ⟨w.heap.size, 10, none⟩ = some (.int .u8 c) := bcellAt A_3.out 10
  have l_A : w.heap.size < w3.heap.size := blt A_3.out
  have c_B_0 : w3.cell? ⟨w.heap.size + 1, 0, none⟩ = some (.int .i64 x0) := bcellAt B_3.out 0
  have c_B_1 : w3.cell? ⟨w.heap.size + 1, 1, none⟩ = some (.int .i64 x1) := bcellAt B_3.out 1
  have c_B_2 : w3.cell? ⟨w.heap.size + 1, 2, none⟩ = some (.int .i64 x2) := bcellAt B_3.out 2
  have c_B_3 : w3.cell? ⟨w.heap.size + 1, 3, none⟩ = some (.int .i64 x3) := bcellAt B_3.out 3
  have l_B : w.heap.size + 1 < w3.heap.size := blt B_3.out
  have c_C_0 : w3.cell? ⟨w2.heap.size, 0, none⟩ = some (.int .u16 i) := bcellAt C_3.out 0
  have c_C_1 : w3.cell? ⟨w2.heap.size, 1, none⟩ = some (.bool q1) := bcellAt C_3.out 1
  have c_C_2 : w3.cell? ⟨w2.heap.size, 2, none⟩ = some (.int .u8 o) := bcellAt C_3.out 2
  have c_C_3 : w3.cell? ⟨w2.heap.size, 3, none⟩ = some (.bool q2) := bcellAt C_3.out 3
  have c_C_4 : w3.cell? ⟨w2.heap.size, 4, none⟩ = some (.bool q3) := bcellAt C_3.out 4
  have c_C_5 : w3.cell? ⟨w2.heap.size, 5, none⟩ = some (.bool q4) := bcellAt C_3.out 5
  have c_C_6 : w3.cell? ⟨w2.heap.size, 6, none⟩ = some (.bool q5) := bcellAt C_3.out 6
  have c_C_7 : w3.cell? ⟨w2.heap.size, 7, none⟩ = some (.bool q6) := bcellAt C_3.out 7
  have c_C_8 : w3.cell? ⟨w2.heap.size, 8, none⟩ = some (.bool q7) := bcellAt C_3.out 8
  have c_C_9 : w3.cell? ⟨w2.heap.size, 9, none⟩ = some (.bool q8) := bcellAt C_3.out 9
  have c_C_10 : w3.cell? ⟨w2.heap.size, 10, none⟩ = some (.int .u8 c) := bcellAt C_3.out 10
  have l_C : w2.heap.size < w3.heap.size := blt C_3.out
  have c_D_0 : w3.cell? ⟨w2.heap.size + 1, 0, none⟩ = some (.int .i64 x0) := bcellAt D_3.out 0
  have c_D_1 : w3.cell? ⟨w2.heap.size + 1, 1, none⟩ = some (.int .i64 x1) := bcellAt D_3.out 1
  have c_D_2 : w3.cell? ⟨w2.heap.size + 1, 2, none⟩ = some (.int .i64 x2) := bcellAt D_3.out 2
  have c_D_3 : w3.cell? ⟨w2.heap.size + 1, 3, none⟩ = some (.int .i64 x3) := bcellAt D_3.out 3
  have l_D : w2.heap.size + 1 < w3.heap.size := blt D_3.out
  go_wp2_with fail
  have hg : (w3.alloc (.cells #[.int .u16 0, .bool q1, .int .u8 o, .bool q2, .bool q3, .bool q4, .bool q5, .bool q6, .bool q7, .bool q8, .int .u8 c] 24)).grownBy (w3.alloc (.cells #[.int .u16 0, .bool q1, .int .u8 o, .bool q2, .bool q3, .bool q4, .bool q5, .bool q6, .bool q7, .bool q8, .int .u8 c] 24)) none := grefl _ none
  have GR4 := Lib.hid (gtrans GR3.out (gfr1 (hg)))
  have A_4 := Lib.hid (gblock (gfr1 (hg)) A_3.out (by simp))
  have B_4 := Lib.hid (gblock (gfr1 (hg)) B_3.out (by simp))
  have C_4 := Lib.hid (gblock (gfr1 (hg)) C_3.out (by simp))
  have D_4 := Lib.hid (gblock (gfr1 (hg)) D_3.out (by simp))
  have E_4 := Lib.hid (gblock hg (balloc1_0 w3 (.cells #[.int .u16 0, .bool q1, .int .u8 o, .bool q2, .bool q3, .bool q4, .bool q5, .bool q6, .bool q7, .bool q8, .int .u8 c] 24)) (by simp))
  clear hg GR3 A_3 B_3 C_3 D_3 c_A_0 c_A_1 c_A_2 c_A_3 c_A_4 c_A_5 c_A_6 c_A_7 c_A_8 c_A_9 c_A_10 l_A c_B_0 c_B_1 c_B_2 c_B_3 l_B c_C_0 c_C_1 c_C_2 c_C_3 c_C_4 c_C_5 c_C_6 c_C_7 c_C_8 c_C_9 c_C_10 l_C c_D_0 c_D_1 c_D_2 c_D_3 l_D
  generalize w3.alloc (.cells #[.int .u16 0, .bool q1, .int .u8 o, .bool q2, .bool q3, .bool q4, .bool q5, .bool q6, .bool q7, .bool q8, .int .u8 c] 24) = w4 at *
  have c_A_0 : ∀ g : Gr w4, g.w.cell? ⟨w.heap.size, 0, none⟩ = some (.int .u16 i) := Gr.cell (bcellAt A_4.out 0)
  have c_A_1 : ∀ g : Gr w4, g.w.cell? ⟨w.heap.size, 1, none⟩ = some (.bool q1) := Gr.cell (bcellAt A_4.out 1)
  have c_A_2 : ∀ g : Gr w4, g.w.cell? ⟨w.heap.size, 2, none⟩ = some (.int .u8 o) := Gr.cell (bcellAt A_4.out 2)
  have c_A_3 : ∀ g : Gr w4, g.w.cell? ⟨w.heap.size, 3, none⟩ = some (.bool q2) := Gr.cell (bcellAt A_4.out 3)
  have c_A_4 : ∀ g : Gr w4, g.w.cell? ⟨w.heap.size, 4, none⟩ = some (.bool q3) := Gr.cell (bcellAt A_4.out 4)
  have c_A_5 : ∀ g : Gr w4, g.w.cell? ⟨w.heap.size, 5, none⟩ = some (.bool q4) := Gr.cell (bcellAt A_4.out 5)
  have c_A_6 : ∀ g : Gr w4, g.w.cell? ⟨w.heap.size, 6, none⟩ = some (.bool q5) := Gr.cell (bcellAt A_4.out 6)
  have c_A_7 : ∀ g : Gr w4, g.w.cell? ⟨w.heap.size, 7, none⟩ = some (.bool q6) := Gr.cell (bcellAt A_4.out 7)
  have c_A_8 : ∀ g : Gr w4, g.w.cell? ⟨w.heap.size, 8, none⟩ = some (.bool q7) := Gr.cell (bcellAt A_4.out 8)
  have c_A_9 : ∀ g : Gr w4, g.w.cell? ⟨w.heap.size, 9, none⟩ = some (.bool q8) := Gr.cell (bcellAt A_4.out 9)
  have c_A_10 : ∀ g : Gr w4, g.w.cell? ⟨w.heap.size, 10, none⟩ = some (.int .u8 c) := Gr.cell (bcellAt A_4.out 10)
  have c_B_0 : ∀ g : Gr w4, g.w.cell? ⟨w.heap.size + 1, 0, none⟩ = some (.int .i64 x0) := Gr.cell (bcellAt B_4.out 0)
  have c_B_1 : ∀ g : Gr w4, g.w.cell? ⟨w.heap.size + 1, 1, none⟩ = some (.int .i64 x1) := Gr.cell (bcellAt B_4.out 1)
  have c_B_2 : ∀ g : Gr w4, g.w.cell? ⟨w.heap.size + 1, 2, none⟩ = some (.int .i64 x2) := Gr.cell (bcellAt B_4.out 2)
  have c_B_3 : ∀ g : Gr w4, g.w.cell? ⟨w.heap.size + 1, 3, none⟩ = some (.int .i64 x3) := Gr.cell (bcellAt B_4.out 3)
  have c_C_0 : ∀ g : Gr w4, g.w.cell? ⟨w2.heap.size, 0, none⟩ = some (.int .u16 i) := Gr.cell (bcellAt C_4.out 0)
  have c_C_1 : ∀ g : Gr w4, g.w.cell? ⟨w2.heap.size, 1, none⟩ = some (.bool q1) := Gr.cell (bcellAt C_4.out 1)
  have c_C_2 : ∀ g : Gr w4, g.w.cell? ⟨w2.heap.size, 2, none⟩ = some (.int .u8 o) := Gr.cell (bcellAt C_4.out 2)
  have c_C_3 : ∀ g : Gr w4, g.w.cell? ⟨w2.heap.size, 3, none⟩ = some (.bool q2) := Gr.cell (bcellAt C_4.out 3)
  have c_C_4 : ∀ g : Gr w4, g.w.cell? ⟨w2.heap.size, 4, none⟩ = some (.bool q3) := Gr.cell (bcellAt C_4.out 4)
  have c_C_5 : ∀ g : Gr w4, g.w.cell? ⟨w2.heap.size, 5, none⟩ = some (.bool q4) := Gr.cell (bcellAt C_4.out 5)
  have c_C_6 : ∀ g : Gr w4, g.w.cell? ⟨w2.heap.size, 6, none⟩ = some (.bool q5) := Gr.cell (bcellAt C_4.out 6)
  have c_C_7 : ∀ g : Gr w4, g.w.cell? ⟨w2.heap.size, 7, none⟩ = some (.bool q6) := Gr.cell (bcellAt C_4.out 7)
  have c_C_8 : ∀ g : Gr w4, g.w.cell? ⟨w2.heap.size, 8, none⟩ = some (.bool q7) := Gr.cell (bcellAt C_4.out 8)
  have c_C_9 : ∀ g : Gr w4, g.w.cell? ⟨w2.heap.size, 9, none⟩ = some (.bool q8) := Gr.cell (bcellAt C_4.out 9)
  have c_C_10 : ∀ g : Gr w4, g.w.cell? ⟨w2.heap.size, 10, none⟩ = some (.int .u8 c) := Gr.cell (bcellAt C_4.out 10)
  have c_D_0 : ∀ g : Gr w4, g.w.cell? ⟨w2.heap.size + 1, 0, none⟩ = some (.int .i64 x0) := Gr.cell (bcellAt D_4.out 0)
  have c_D_1 : ∀ g : Gr w4, g.w.cell? ⟨w2.heap.size + 1, 1, none⟩ = some (.int .i64 x1) := Gr.cell (bcellAt D_4.out 1)
  have c_D_2 : ∀ g : Gr w4, g.w.cell? ⟨w2.heap.size + 1, 2, none⟩ = some (.int .i64 x2) := Gr.cell (bcellAt D_4.out 2)
  have c_D_3 : ∀ g : Gr w4, g.w.cell? ⟨w2.heap.size + 1, 3, none⟩ = some (.int .i64 x3) := Gr.cell (bcellAt D_4.out 3)
  have c_E_0 : ∀ g : Gr w4, g.w.cell? ⟨w3.heap.size, 0, none⟩ = some (.int .u16 0) := Gr.cell (bcellAt E_4.out 0)
  have c_E_1 : ∀ g : Gr w4, g.w.cell? ⟨w3.heap.size, 1, none⟩ = some (.bool q1) := Gr.cell (bcellAt E_4.out 1)
  have c_E_2 : ∀ g : Gr w4, g.w.cell? ⟨w3.heap.size, 2, none⟩ = some (.int .u8 o) := Gr.cell (bcellAt E_4.out 2)
  have c_E_3 : ∀ g : Gr w4, g.w.cell? ⟨w3.heap.size, 3, none⟩ = some (.bool q2) := Gr.cell (bcellAt E_4.out 3)
  have c_E_4 : ∀ g : Gr w4, g.w.cell? ⟨w3.heap.size, 4, none⟩ = some (.bool q3) := Gr.cell (bcellAt E_4.out 4)
  have c_E_5 : ∀ g : Gr w4, g.w.cell? ⟨w3.heap.size, 5, none⟩ = some (.bool q4) := Gr.cell (bcellAt E_4.out 5)
  have c_E_6 : ∀ g : Gr w4, g.w.cell? ⟨w3.heap.size, 6, none⟩ = some (.bool q5) := Gr.cell (bcellAt E_4.out 6)
  have c_E_7 : ∀ g : Gr w4, g.w.cell? ⟨w3.heap.size, 7, none⟩ = some (.bool q6) := Gr.cell (bcellAt E_4.out 7)
  have c_E_8 : ∀ g : Gr w4, g.w.cell? ⟨w3.heap.size, 8, none⟩ = some (.bool q7) := Gr.cell (bcellAt E_4.out 8)
  have c_E_9 : ∀ g : Gr w4, g.w.cell? ⟨w3.heap.size, 9, none⟩ = some (.bool q8) := Gr.cell (bcellAt E_4.out 9)
  have c_E_10 : ∀ g : Gr w4, g.w.cell? ⟨w3.heap.size, 10, none⟩ = some (.int .u8 c) := Gr.cell (bcellAt E_4.out 10)
  refine wp_region_noPanic ?_
  refine wp_region_gr (by kernel_rfl) (by kernel_rfl) ?_
  repeat (go_big_quiet_step (first | (go_at_call 13; exact Calls.gr (K4.out _ (HB.out.kept (gtrans GR4.out (Gr.h _)) (by simp))))))
  refine wpQuiet_nil ?_
  rintro _ ⟨gq, rfl⟩
  refine NoPanic.normal ?_
  have hg := gq.h
  have GR5 := Lib.hid (gtrans GR4.out (hg))
  have A_5 := Lib.hid (gblock (hg) A_4.out (by simp))
  have B_5 := Lib.hid (gblock (hg) B_4.out (by simp))
  have C_5 := Lib.hid (gblock (hg) C_4.out (by simp))
  have D_5 := Lib.hid (gblock (hg) D_4.out (by simp))
  have E_5 := Lib.hid (gblock (hg) E_4.out (by simp))
  clear hg GR4 A_4 B_4 C_4 D_4 E_4 c_A_0 c_A_1 c_A_2 c_A_3 c_A_4 c_A_5 c_A_6 c_A_7 c_A_8 c_A_9 c_A_10 c_B_0 c_B_1 c_B_2 c_B_3 c_C_0 c_C_1 c_C_2 c_C_3 c_C_4 c_C_5 c_C_6 c_C_7 c_C_8 c_C_9 c_C_10 c_D_0 c_D_1 c_D_2 c_D_3 c_E_0 c_E_1 c_E_2 c_E_3 c_E_4 c_E_5 c_E_6 c_E_7 c_E_8 c_E_9 c_E_10
  generalize gq.w = w5 at *
  clear gq
  clear A_5
  clear B_5
  clear C_5
  clear D_5
  clear E_5
  go_wp2_with fail
  refine Calls.mono (K5.out _ (HE.out.kept (GR5.out) (by simp)) (HB.out.kept (GR5.out) (by simp))) ?_
  rintro e w6 ⟨rfl, hg⟩
  have GR6 := Lib.hid (gtrans GR5.out (hg))
  clear hg GR5
  go_wp2_with fail
  refine Calls.mono (K6.out _ (HB.out.kept (galloc (galloc (GR6.out) _) _) (by simp))) ?_
  rintro e w7 ⟨rfl, hg⟩
  have GR7 := Lib.hid (gtrans GR6.out (gfr1 (gfr1 (hg))))
  have GG_7 := Lib.hid (gblock hg (balloc2_0 w6 (.cells #[.int .u16 i', .bool r1, .int .u8 o', .bool r2, .bool r3, .bool r4, .bool r5, .bool r6, .bool r7, .bool r8, .int .u8 c'] 24) (.cells #[.int .i64 z0, .int .i64 z1, .int .i64 z2, .int .i64 z3] 26)) (by simp))
  have DD_7 := Lib.hid (gblock hg (balloc2_1 w6 (.cells #[.int .u16 i', .bool r1, .int .u8 o', .bool r2, .bool r3, .bool r4, .bool r5, .bool r6, .bool r7, .bool r8, .int .u8 c'] 24) (.cells #[.int .i64 z0, .int .i64 z1, .int .i64 z2, .int .i64 z3] 26)) (by simp))
  clear hg GR6
  clear GG_7
  clear DD_7
  go_wp2_with fail
  refine Calls.mono (K7.out _ (HB.out.kept (GR7.out) (by simp))) ?_
  rintro e w8 ⟨rfl, hg⟩
  have GR8 := Lib.hid (gtrans GR7.out (hg))
  clear hg GR7
  go_wp2_with fail
  refine Calls.mono (K8.out _ (HB.out.kept (GR8.out) (by simp))) ?_
  rintro e w9 ⟨rfl, hg⟩
  have GR9 := Lib.hid (gtrans GR8.out (hg))
  clear hg GR8
  go_wp2_with (go_at_call 11; refine Calls.mono (awake03 _ (HE.out.kept (GR9.out) (by simp)) (HB.out.kept (GR9.out) (by simp))) ?_; rintro e wz ⟨rfl, hg⟩; have GZ := Lib.hid (gtrans GR9.out hg); clear hg)
  go_ret
  exact ⟨rfl, GZ.out⟩

set_option maxHeartbeats 8000000 in
set_option maxRecDepth 100000 in
theorem back_ws (i o c : Int) (q1 q2 q3 q4 q5 q6 q7 q8 : Bool) (x0 x1 x2 x3 : Int) (i' o' c' : Int) (r1 r2 r3 r4 r5 r6 r7 r8 : Bool) (z0 z1 z2 z3 : Int) (t s : ByteArray) (m n : Nat) (a1 a2 : Int) (p1 p2 p3 p4 p5 p6 p7 p8 : Bool) (w : World) (he : Et w) (hb : Bt w)
    (k1 : ∀ w, Bt w → Calls Tryd.prog 15 #[.agg #[.int .u16 i, .bool q1, .int .u8 o, .bool q2, .bool q3, .bool q4, .bool q5, .bool q6, .bool q7, .bool q8, .int .u8 c], .agg #[.int .i64 x0, .int .i64 x1, .int .i64 x2, .int .i64 x3]] w fun e w' => e = .returned (.tuple #[.string t, .int .i64 0]) ∧ w.grownBy w' none) (ht : ((t.size : Nat) : Int) = 12)
    (k2 : ∀ w, Et w → Bt w → Calls Tryd.prog 9 #[.string t] w fun e w' => e = .returned (.tuple #[.agg #[.int .u16 i, .bool q1, .int .u8 o, .bool q2, .bool q3, .bool q4, .bool q5, .bool q6, .bool q7, .bool q8, .int .u8 c], .agg #[.int .i64 x0, .int .i64 x1, .int .i64 x2, .int .i64 x3], .int .i64 0]) ∧ w.grownBy w' none)
    (k3 : ∀ w, Bt w → Calls Tryd.prog 14 #[.agg #[.int .u16 i, .bool q1, .int .u8 o, .bool q2, .bool q3, .bool q4, .bool q5, .bool q6, .bool q7, .bool q8, .int .u8 c]] w fun e w' => e = .returned (.tuple #[.int .u16 m, .int .i64 0]) ∧ w.grownBy w' none)
    (k4 : ∀ w, Bt w → Calls Tryd.prog 13 #[.int .u16 m] w fun e w' => e = .returned (.agg #[.int .u16 0, .bool q1, .int .u8 o, .bool q2, .bool q3, .bool q4, .bool q5, .bool q6, .bool q7, .bool q8, .int .u8 c]) ∧ w.grownBy w' none)
    (k5 : ∀ w, Et w → Bt w → Calls Tryd.prog 9 #[.string s] w fun e w' => e = .returned (.tuple #[.agg #[.int .u16 i', .bool r1, .int .u8 o', .bool r2, .bool r3, .bool r4, .bool r5, .bool r6, .bool r7, .bool r8, .int .u8 c'], .agg #[.int .i64 z0, .int .i64 z1, .int .i64 z2, .int .i64 z3], .int .i64 4]) ∧ w.grownBy w' none)
    (k7 : ∀ w, Bt w → Calls Tryd.prog 13 #[.int .u16 n] w fun e w' => e = .returned (.agg #[.int .u16 0, .bool p1, .int .u8 a1, .bool p2, .bool p3, .bool p4, .bool p5, .bool p6, .bool p7, .bool p8, .int .u8 a2]) ∧ w.grownBy w' none) (k8 : ∀ w, Bt w → Calls Tryd.prog 14 #[.agg #[.int .u16 0, .bool p1, .int .u8 a1, .bool p2, .bool p3, .bool p4, .bool p5, .bool p6, .bool p7, .bool p8, .int .u8 a2]] w fun e w' => e = .returned (.tuple #[.int .u16 n, .int .i64 0]) ∧ w.grownBy w' none)
    : Calls Tryd.prog 8 #[.agg #[.int .u16 i, .bool q1, .int .u8 o, .bool q2, .bool q3, .bool q4, .bool q5, .bool q6, .bool q7, .bool q8, .int .u8 c], .agg #[.int .i64 x0, .int .i64 x1, .int .i64 x2, .int .i64 x3], .string s, .int .u16 n] w fun e w' => e = .returned (.bool true) ∧ w.grownBy w' none := by
  have HE := Lib.hid he
  have HB := Lib.hid hb
  have ce := counts_eq
  have fe := four_eq
  have K1 := Lib.hid k1
  have K2 := Lib.hid k2
  have K3 := Lib.hid k3
  have K4 := Lib.hid k4
  have K5 := Lib.hid k5
  have K7 := Lib.hid k7
  have K8 := Lib.hid k8
  clear he hb k1 k2 k3 k4 k5 k7 k8
  go_enter Tryd.func8, Tryd.ntmps8
  have GR0 := Lib.hid (grefl w none)
  go_wp2_with fail
  refine Calls.mono (K1.out _ (HB.out.kept (galloc (galloc (GR0.out) _) _) (by simp))) ?_
  rintro e w1 ⟨rfl, hg⟩
  have GR1 := Lib.hid (gtrans GR0.out (gfr1 (gfr1 (hg))))
  have A_1 := Lib.hid (gblock hg (balloc2_0 w (.cells #[.int .u16 i, .bool q1, .int .u8 o, .bool q2, .bool q3, .bool q4, .bool q5, .bool q6, .bool q7, .bool q8, .int .u8 c] 24) (.cells #[.int .i64 x0, .int .i64 x1, .int .i64 x2, .int .i64 x3] 25)) (by simp))
  have B_1 := Lib.hid (gblock hg (balloc2_1 w (.cells #[.int .u16 i, .bool q1, .int .u8 o, .bool q2, .bool q3, .bool q4, .bool q5, .bool q6, .bool q7, .bool q8, .int .u8 c] 24) (.cells #[.int .i64 x0, .int .i64 x1, .int .i64 x2, .int .i64 x3] 25)) (by simp))
  clear hg GR0
  go_wp2_with fail
  refine Calls.mono (K2.out _ (HE.out.kept (GR1.out) (by simp)) (HB.out.kept (GR1.out) (by simp))) ?_
  rintro e w2 ⟨rfl, hg⟩
  have GR2 := Lib.hid (gtrans GR1.out (hg))
  have A_2 := Lib.hid (gblock (hg) A_1.out (by simp))
  have B_2 := Lib.hid (gblock (hg) B_1.out (by simp))
  clear hg GR1 A_1 B_1
  have c_A_0 : w2.cell? ⟨w.heap.size, 0, none⟩ = some (.int .u16 i) := bcellAt A_2.out 0
  have c_A_1 : w2.cell? ⟨w.heap.size, 1, none⟩ = some (.bool q1) := bcellAt A_2.out 1
  have c_A_2 : w2.cell? ⟨w.heap.size, 2, none⟩ = some (.int .u8 o) := bcellAt A_2.out 2
  have c_A_3 : w2.cell? ⟨w.heap.size, 3, none⟩ = some (.bool q2) := bcellAt A_2.out 3
  have c_A_4 : w2.cell? ⟨w.heap.size, 4, none⟩ = some (.bool q3) := bcellAt A_2.out 4
  have c_A_5 : w2.cell? ⟨w.heap.size, 5, none⟩ = some (.bool q4) := bcellAt A_2.out 5
  have c_A_6 : w2.cell? ⟨w.heap.size, 6, none⟩ = some (.bool q5) := bcellAt A_2.out 6
  have c_A_7 : w2.cell? ⟨w.heap.size, 7, none⟩ = some (.bool q6) := bcellAt A_2.out 7
  have c_A_8 : w2.cell? ⟨w.heap.size, 8, none⟩ = some (.bool q7) := bcellAt A_2.out 8
  have c_A_9 : w2.cell? ⟨w.heap.size, 9, none⟩ = some (.bool q8) := bcellAt A_2.out 9
  have c_A_10 : w2.cell? ⟨w.heap.size, 10, none⟩ = some (.int .u8 c) := bcellAt A_2.out 10
  have l_A : w.heap.size < w2.heap.size := blt A_2.out
  go_wp2_with fail
  refine Calls.mono (K3.out _ (HB.out.kept (galloc (galloc (GR2.out) _) _) (by simp))) ?_
  rintro e w3 ⟨rfl, hg⟩
  have GR3 := Lib.hid (gtrans GR2.out (gfr1 (gfr1 (hg))))
  have A_3 := Lib.hid (gblock (gfr1 (gfr1 (hg))) A_2.out (by simp))
  have B_3 := Lib.hid (gblock (gfr1 (gfr1 (hg))) B_2.out (by simp))
  have C_3 := Lib.hid (gblock hg (balloc2_0 w2 (.cells #[.int .u16 i, .bool q1, .int .u8 o, .bool q2, .bool q3, .bool q4, .bool q5, .bool q6, .bool q7, .bool q8, .int .u8 c] 24) (.cells #[.int .i64 x0, .int .i64 x1, .int .i64 x2, .int .i64 x3] 26)) (by simp))
  have D_3 := Lib.hid (gblock hg (balloc2_1 w2 (.cells #[.int .u16 i, .bool q1, .int .u8 o, .bool q2, .bool q3, .bool q4, .bool q5, .bool q6, .bool q7, .bool q8, .int .u8 c] 24) (.cells #[.int .i64 x0, .int .i64 x1, .int .i64 x2, .int .i64 x3] 26)) (by simp))
  clear hg GR2 A_2 B_2 c_A_0 c_A_1 c_A_2 c_A_3 c_A_4 c_A_5 c_A_6 c_A_7 c_A_8 c_A_9 c_A_10 l_A
  have c_A_0 : w3.cell? ⟨w.heap.size, 0, none⟩ = some (.int .u16 i) := bcellAt A_3.out 0
  have c_A_1 : w3.cell? ⟨w.heap.size, 1, none⟩ = some (.bool q1) := bcellAt A_3.out 1
  have c_A_2 : w3.cell? ⟨w.heap.size, 2, none⟩ = some (.int .u8 o) := bcellAt A_3.out 2
  have c_A_3 : w3.cell? ⟨w.heap.size, 3, none⟩ = some (.bool q2) := bcellAt A_3.out 3
  have c_A_4 : w3.cell? ⟨w.heap.size, 4, none⟩ = some (.bool q3) := bcellAt A_3.out 4
  have c_A_5 : w3.cell? ⟨w.heap.size, 5, none⟩ = some (.bool q4) := bcellAt A_3.out 5
  have c_A_6 : w3.cell? ⟨w.heap.size, 6, none⟩ = some (.bool q5) := bcellAt A_3.out 6
  have c_A_7 : w3.cell? ⟨w.heap.size, 7, none⟩ = some (.bool q6) := bcellAt A_3.out 7
  have c_A_8 : w3.cell? ⟨w.heap.size, 8, none⟩ = some (.bool q7) := bcellAt A_3.out 8
  have c_A_9 : w3.cell? ⟨w.heap.size, 9, none⟩ = some (.bool q8) := bcellAt A_3.out 9
  have c_A_10 : w3.cell? ⟨w.heap.size, 10, none⟩ = some (.int .u8 c) := bcellAt A_3.out 10
  have l_A : w.heap.size < w3.heap.size := blt A_3.out
  have c_B_0 : w3.cell? ⟨w.heap.size + 1, 0, none⟩ = some (.int .i64 x0) := bcellAt B_3.out 0
  have c_B_1 : w3.cell? ⟨w.heap.size + 1, 1, none⟩ = some (.int .i64 x1) := bcellAt B_3.out 1
  have c_B_2 : w3.cell? ⟨w.heap.size + 1, 2, none⟩ = some (.int .i64 x2) := bcellAt B_3.out 2
  have c_B_3 : w3.cell? ⟨w.heap.size + 1, 3, none⟩ = some (.int .i64 x3) := bcellAt B_3.out 3
  have l_B : w.heap.size + 1 < w3.heap.size := blt B_3.out
  have c_C_0 : w3.cell? ⟨w2.heap.size, 0, none⟩ = some (.int .u16 i) := bcellAt C_3.out 0
  have c_C_1 : w3.cell? ⟨w2.heap.size, 1, none⟩ = some (.bool q1) := bcellAt C_3.out 1
  have c_C_2 : w3.cell? ⟨w2.heap.size, 2, none⟩ = some (.int .u8 o) := bcellAt C_3.out 2
  have c_C_3 : w3.cell? ⟨w2.heap.size, 3, none⟩ = some (.bool q2) := bcellAt C_3.out 3
  have c_C_4 : w3.cell? ⟨w2.heap.size, 4, none⟩ = some (.bool q3) := bcellAt C_3.out 4
  have c_C_5 : w3.cell? ⟨w2.heap.size, 5, none⟩ = some (.bool q4) := bcellAt C_3.out 5
  have c_C_6 : w3.cell? ⟨w2.heap.size, 6, none⟩ = some (.bool q5) := bcellAt C_3.out 6
  have c_C_7 : w3.cell? ⟨w2.heap.size, 7, none⟩ = some (.bool q6) := bcellAt C_3.out 7
  have c_C_8 : w3.cell? ⟨w2.heap.size, 8, none⟩ = some (.bool q7) := bcellAt C_3.out 8
  have c_C_9 : w3.cell? ⟨w2.heap.size, 9, none⟩ = some (.bool q8) := bcellAt C_3.out 9
  have c_C_10 : w3.cell? ⟨w2.heap.size, 10, none⟩ = some (.int .u8 c) := bcellAt C_3.out 10
  have l_C : w2.heap.size < w3.heap.size := blt C_3.out
  have c_D_0 : w3.cell? ⟨w2.heap.size + 1, 0, none⟩ = some (.int .i64 x0) := bcellAt D_3.out 0
  have c_D_1 : w3.cell? ⟨w2.heap.size + 1, 1, none⟩ = some (.int .i64 x1) := bcellAt D_3.out 1
  have c_D_2 : w3.cell? ⟨w2.heap.size + 1, 2, none⟩ = some (.int .i64 x2) := bcellAt D_3.out 2
  have c_D_3 : w3.cell? ⟨w2.heap.size + 1, 3, none⟩ = some (.int .i64 x3) := bcellAt D_3.out 3
  have l_D : w2.heap.size + 1 < w3.heap.size := blt D_3.out
  go_wp2_with fail
  have hg : (w3.alloc (.cells #[.int .u16 0, .bool q1, .int .u8 o, .bool q2, .bool q3, .bool q4, .bool q5, .bool q6, .bool q7, .bool q8, .int .u8 c] 24)).grownBy (w3.alloc (.cells #[.int .u16 0, .bool q1, .int .u8 o, .bool q2, .bool q3, .bool q4, .bool q5, .bool q6, .bool q7, .bool q8, .int .u8 c] 24)) none := grefl _ none
  have GR4 := Lib.hid (gtrans GR3.out (gfr1 (hg)))
  have A_4 := Lib.hid (gblock (gfr1 (hg)) A_3.out (by simp))
  have B_4 := Lib.hid (gblock (gfr1 (hg)) B_3.out (by simp))
  have C_4 := Lib.hid (gblock (gfr1 (hg)) C_3.out (by simp))
  have D_4 := Lib.hid (gblock (gfr1 (hg)) D_3.out (by simp))
  have E_4 := Lib.hid (gblock hg (balloc1_0 w3 (.cells #[.int .u16 0, .bool q1, .int .u8 o, .bool q2, .bool q3, .bool q4, .bool q5, .bool q6, .bool q7, .bool q8, .int .u8 c] 24)) (by simp))
  clear hg GR3 A_3 B_3 C_3 D_3 c_A_0 c_A_1 c_A_2 c_A_3 c_A_4 c_A_5 c_A_6 c_A_7 c_A_8 c_A_9 c_A_10 l_A c_B_0 c_B_1 c_B_2 c_B_3 l_B c_C_0 c_C_1 c_C_2 c_C_3 c_C_4 c_C_5 c_C_6 c_C_7 c_C_8 c_C_9 c_C_10 l_C c_D_0 c_D_1 c_D_2 c_D_3 l_D
  generalize w3.alloc (.cells #[.int .u16 0, .bool q1, .int .u8 o, .bool q2, .bool q3, .bool q4, .bool q5, .bool q6, .bool q7, .bool q8, .int .u8 c] 24) = w4 at *
  have c_A_0 : ∀ g : Gr w4, g.w.cell? ⟨w.heap.size, 0, none⟩ = some (.int .u16 i) := Gr.cell (bcellAt A_4.out 0)
  have c_A_1 : ∀ g : Gr w4, g.w.cell? ⟨w.heap.size, 1, none⟩ = some (.bool q1) := Gr.cell (bcellAt A_4.out 1)
  have c_A_2 : ∀ g : Gr w4, g.w.cell? ⟨w.heap.size, 2, none⟩ = some (.int .u8 o) := Gr.cell (bcellAt A_4.out 2)
  have c_A_3 : ∀ g : Gr w4, g.w.cell? ⟨w.heap.size, 3, none⟩ = some (.bool q2) := Gr.cell (bcellAt A_4.out 3)
  have c_A_4 : ∀ g : Gr w4, g.w.cell? ⟨w.heap.size, 4, none⟩ = some (.bool q3) := Gr.cell (bcellAt A_4.out 4)
  have c_A_5 : ∀ g : Gr w4, g.w.cell? ⟨w.heap.size, 5, none⟩ = some (.bool q4) := Gr.cell (bcellAt A_4.out 5)
  have c_A_6 : ∀ g : Gr w4, g.w.cell? ⟨w.heap.size, 6, none⟩ = some (.bool q5) := Gr.cell (bcellAt A_4.out 6)
  have c_A_7 : ∀ g : Gr w4, g.w.cell? ⟨w.heap.size, 7, none⟩ = some (.bool q6) := Gr.cell (bcellAt A_4.out 7)
  have c_A_8 : ∀ g : Gr w4, g.w.cell? ⟨w.heap.size, 8, none⟩ = some (.bool q7) := Gr.cell (bcellAt A_4.out 8)
  have c_A_9 : ∀ g : Gr w4, g.w.cell? ⟨w.heap.size, 9, none⟩ = some (.bool q8) := Gr.cell (bcellAt A_4.out 9)
  have c_A_10 : ∀ g : Gr w4, g.w.cell? ⟨w.heap.size, 10, none⟩ = some (.int .u8 c) := Gr.cell (bcellAt A_4.out 10)
  have c_B_0 : ∀ g : Gr w4, g.w.cell? ⟨w.heap.size + 1, 0, none⟩ = some (.int .i64 x0) := Gr.cell (bcellAt B_4.out 0)
  have c_B_1 : ∀ g : Gr w4, g.w.cell? ⟨w.heap.size + 1, 1, none⟩ = some (.int .i64 x1) := Gr.cell (bcellAt B_4.out 1)
  have c_B_2 : ∀ g : Gr w4, g.w.cell? ⟨w.heap.size + 1, 2, none⟩ = some (.int .i64 x2) := Gr.cell (bcellAt B_4.out 2)
  have c_B_3 : ∀ g : Gr w4, g.w.cell? ⟨w.heap.size + 1, 3, none⟩ = some (.int .i64 x3) := Gr.cell (bcellAt B_4.out 3)
  have c_C_0 : ∀ g : Gr w4, g.w.cell? ⟨w2.heap.size, 0, none⟩ = some (.int .u16 i) := Gr.cell (bcellAt C_4.out 0)
  have c_C_1 : ∀ g : Gr w4, g.w.cell? ⟨w2.heap.size, 1, none⟩ = some (.bool q1) := Gr.cell (bcellAt C_4.out 1)
  have c_C_2 : ∀ g : Gr w4, g.w.cell? ⟨w2.heap.size, 2, none⟩ = some (.int .u8 o) := Gr.cell (bcellAt C_4.out 2)
  have c_C_3 : ∀ g : Gr w4, g.w.cell? ⟨w2.heap.size, 3, none⟩ = some (.bool q2) := Gr.cell (bcellAt C_4.out 3)
  have c_C_4 : ∀ g : Gr w4, g.w.cell? ⟨w2.heap.size, 4, none⟩ = some (.bool q3) := Gr.cell (bcellAt C_4.out 4)
  have c_C_5 : ∀ g : Gr w4, g.w.cell? ⟨w2.heap.size, 5, none⟩ = some (.bool q4) := Gr.cell (bcellAt C_4.out 5)
  have c_C_6 : ∀ g : Gr w4, g.w.cell? ⟨w2.heap.size, 6, none⟩ = some (.bool q5) := Gr.cell (bcellAt C_4.out 6)
  have c_C_7 : ∀ g : Gr w4, g.w.cell? ⟨w2.heap.size, 7, none⟩ = some (.bool q6) := Gr.cell (bcellAt C_4.out 7)
  have c_C_8 : ∀ g : Gr w4, g.w.cell? ⟨w2.heap.size, 8, none⟩ = some (.bool q7) := Gr.cell (bcellAt C_4.out 8)
  have c_C_9 : ∀ g : Gr w4, g.w.cell? ⟨w2.heap.size, 9, none⟩ = some (.bool q8) := Gr.cell (bcellAt C_4.out 9)
  have c_C_10 : ∀ g : Gr w4, g.w.cell? ⟨w2.heap.size, 10, none⟩ = some (.int .u8 c) := Gr.cell (bcellAt C_4.out 10)
  have c_D_0 : ∀ g : Gr w4, g.w.cell? ⟨w2.heap.size + 1, 0, none⟩ = some (.int .i64 x0) := Gr.cell (bcellAt D_4.out 0)
  have c_D_1 : ∀ g : Gr w4, g.w.cell? ⟨w2.heap.size + 1, 1, none⟩ = some (.int .i64 x1) := Gr.cell (bcellAt D_4.out 1)
  have c_D_2 : ∀ g : Gr w4, g.w.cell? ⟨w2.heap.size + 1, 2, none⟩ = some (.int .i64 x2) := Gr.cell (bcellAt D_4.out 2)
  have c_D_3 : ∀ g : Gr w4, g.w.cell? ⟨w2.heap.size + 1, 3, none⟩ = some (.int .i64 x3) := Gr.cell (bcellAt D_4.out 3)
  have c_E_0 : ∀ g : Gr w4, g.w.cell? ⟨w3.heap.size, 0, none⟩ = some (.int .u16 0) := Gr.cell (bcellAt E_4.out 0)
  have c_E_1 : ∀ g : Gr w4, g.w.cell? ⟨w3.heap.size, 1, none⟩ = some (.bool q1) := Gr.cell (bcellAt E_4.out 1)
  have c_E_2 : ∀ g : Gr w4, g.w.cell? ⟨w3.heap.size, 2, none⟩ = some (.int .u8 o) := Gr.cell (bcellAt E_4.out 2)
  have c_E_3 : ∀ g : Gr w4, g.w.cell? ⟨w3.heap.size, 3, none⟩ = some (.bool q2) := Gr.cell (bcellAt E_4.out 3)
  have c_E_4 : ∀ g : Gr w4, g.w.cell? ⟨w3.heap.size, 4, none⟩ = some (.bool q3) := Gr.cell (bcellAt E_4.out 4)
  have c_E_5 : ∀ g : Gr w4, g.w.cell? ⟨w3.heap.size, 5, none⟩ = some (.bool q4) := Gr.cell (bcellAt E_4.out 5)
  have c_E_6 : ∀ g : Gr w4, g.w.cell? ⟨w3.heap.size, 6, none⟩ = some (.bool q5) := Gr.cell (bcellAt E_4.out 6)
  have c_E_7 : ∀ g : Gr w4, g.w.cell? ⟨w3.heap.size, 7, none⟩ = some (.bool q6) := Gr.cell (bcellAt E_4.out 7)
  have c_E_8 : ∀ g : Gr w4, g.w.cell? ⟨w3.heap.size, 8, none⟩ = some (.bool q7) := Gr.cell (bcellAt E_4.out 8)
  have c_E_9 : ∀ g : Gr w4, g.w.cell? ⟨w3.heap.size, 9, none⟩ = some (.bool q8) := Gr.cell (bcellAt E_4.out 9)
  have c_E_10 : ∀ g : Gr w4, g.w.cell? ⟨w3.heap.size, 10, none⟩ = some (.int .u8 c) := Gr.cell (bcellAt E_4.out 10)
  refine wp_region_noPanic ?_
  refine wp_region_gr (by kernel_rfl) (by kernel_rfl) ?_
  repeat (go_big_quiet_step (first | (go_at_call 13; exact Calls.gr (K4.out _ (HB.out.kept (gtrans GR4.out (Gr.h _)) (by simp))))))
  refine wpQuiet_nil ?_
  rintro _ ⟨gq, rfl⟩
  refine NoPanic.normal ?_
  have hg := gq.h
  have GR5 := Lib.hid (gtrans GR4.out (hg))
  have A_5 := Lib.hid (gblock (hg) A_4.out (by simp))
  have B_5 := Lib.hid (gblock (hg) B_4.out (by simp))
  have C_5 := Lib.hid (gblock (hg) C_4.out (by simp))
  have D_5 := Lib.hid (gblock (hg) D_4.out (by simp))
  have E_5 := Lib.hid (gblock (hg) E_4.out (by simp))
  clear hg GR4 A_4 B_4 C_4 D_4 E_4 c_A_0 c_A_1 c_A_2 c_A_3 c_A_4 c_A_5 c_A_6 c_A_7 c_A_8 c_A_9 c_A_10 c_B_0 c_B_1 c_B_2 c_B_3 c_C_0 c_C_1 c_C_2 c_C_3 c_C_4 c_C_5 c_C_6 c_C_7 c_C_8 c_C_9 c_C_10 c_D_0 c_D_1 c_D_2 c_D_3 c_E_0 c_E_1 c_E_2 c_E_3 c_E_4 c_E_5 c_E_6 c_E_7 c_E_8 c_E_9 c_E_10
  generalize gq.w = w5 at *
  clear gq
  clear A_5
  clear B_5
  clear C_5
  clear D_5
  clear E_5
  go_wp2_with fail
  refine Calls.mono (K5.out _ (HE.out.kept (GR5.out) (by simp)) (HB.out.kept (GR5.out) (by simp))) ?_
  rintro e w6 ⟨rfl, hg⟩
  have GR6 := Lib.hid (gtrans GR5.out (hg))
  clear hg GR5
  go_wp2_with fail
  refine Calls.mono (K7.out _ (HB.out.kept (galloc (galloc (GR6.out) _) _) (by simp))) ?_
  rintro e w7 ⟨rfl, hg⟩
  have GR7 := Lib.hid (gtrans GR6.out (gfr1 (gfr1 (hg))))
  have GG_7 := Lib.hid (gblock hg (balloc2_0 w6 (.cells #[.int .u16 i', .bool r1, .int .u8 o', .bool r2, .bool r3, .bool r4, .bool r5, .bool r6, .bool r7, .bool r8, .int .u8 c'] 24) (.cells #[.int .i64 z0, .int .i64 z1, .int .i64 z2, .int .i64 z3] 26)) (by simp))
  have DD_7 := Lib.hid (gblock hg (balloc2_1 w6 (.cells #[.int .u16 i', .bool r1, .int .u8 o', .bool r2, .bool r3, .bool r4, .bool r5, .bool r6, .bool r7, .bool r8, .int .u8 c'] 24) (.cells #[.int .i64 z0, .int .i64 z1, .int .i64 z2, .int .i64 z3] 26)) (by simp))
  clear hg GR6
  clear GG_7
  clear DD_7
  go_wp2_with fail
  refine Calls.mono (K8.out _ (HB.out.kept (GR7.out) (by simp))) ?_
  rintro e w8 ⟨rfl, hg⟩
  have GR8 := Lib.hid (gtrans GR7.out (hg))
  clear hg GR7
  go_wp2_with (go_at_call 11; refine Calls.mono (awake03 _ (HE.out.kept (GR8.out) (by simp)) (HB.out.kept (GR8.out) (by simp))) ?_; rintro e wz ⟨rfl, hg⟩; have GZ := Lib.hid (gtrans GR8.out hg); clear hg)
  go_ret
  exact ⟨rfl, GZ.out⟩

set_option maxHeartbeats 8000000 in
set_option maxRecDepth 100000 in
theorem back_nr (i o c : Int) (q1 q2 q3 q4 q5 q6 q7 q8 : Bool) (x0 x1 x2 x3 : Int) (i' o' c' : Int) (r1 r2 r3 r4 r5 r6 r7 r8 : Bool) (z0 z1 z2 z3 : Int) (t s : ByteArray) (_m n : Nat) (a1 a2 : Int) (p1 p2 p3 p4 p5 p6 p7 p8 : Bool) (w : World) (he : Et w) (hb : Bt w)
    (k1 : ∀ w, Bt w → Calls Tryd.prog 15 #[.agg #[.int .u16 i, .bool q1, .int .u8 o, .bool q2, .bool q3, .bool q4, .bool q5, .bool q6, .bool q7, .bool q8, .int .u8 c], .agg #[.int .i64 x0, .int .i64 x1, .int .i64 x2, .int .i64 x3]] w fun e w' => e = .returned (.tuple #[.string t, .int .i64 1]) ∧ w.grownBy w' none)
    (k5 : ∀ w, Et w → Bt w → Calls Tryd.prog 9 #[.string s] w fun e w' => e = .returned (.tuple #[.agg #[.int .u16 i', .bool r1, .int .u8 o', .bool r2, .bool r3, .bool r4, .bool r5, .bool r6, .bool r7, .bool r8, .int .u8 c'], .agg #[.int .i64 z0, .int .i64 z1, .int .i64 z2, .int .i64 z3], .int .i64 0]) ∧ w.grownBy w' none) (hs : ¬ ((s.size : Nat) : Int) < 12)
    (k6 : ∀ w, Bt w → Calls Tryd.prog 15 #[.agg #[.int .u16 i', .bool r1, .int .u8 o', .bool r2, .bool r3, .bool r4, .bool r5, .bool r6, .bool r7, .bool r8, .int .u8 c'], .agg #[.int .i64 z0, .int .i64 z1, .int .i64 z2, .int .i64 z3]] w fun e w' => e = .returned (.tuple #[.string (s.extract 0 12), .int .i64 0]) ∧ w.grownBy w' none)
    (k7 : ∀ w, Bt w → Calls Tryd.prog 13 #[.int .u16 n] w fun e w' => e = .returned (.agg #[.int .u16 0, .bool p1, .int .u8 a1, .bool p2, .bool p3, .bool p4, .bool p5, .bool p6, .bool p7, .bool p8, .int .u8 a2]) ∧ w.grownBy w' none) (k8 : ∀ w, Bt w → Calls Tryd.prog 14 #[.agg #[.int .u16 0, .bool p1, .int .u8 a1, .bool p2, .bool p3, .bool p4, .bool p5, .bool p6, .bool p7, .bool p8, .int .u8 a2]] w fun e w' => e = .returned (.tuple #[.int .u16 n, .int .i64 0]) ∧ w.grownBy w' none)
    : Calls Tryd.prog 8 #[.agg #[.int .u16 i, .bool q1, .int .u8 o, .bool q2, .bool q3, .bool q4, .bool q5, .bool q6, .bool q7, .bool q8, .int .u8 c], .agg #[.int .i64 x0, .int .i64 x1, .int .i64 x2, .int .i64 x3], .string s, .int .u16 n] w fun e w' => e = .returned (.bool true) ∧ w.grownBy w' none := by
  have HE := Lib.hid he
  have HB := Lib.hid hb
  have ce := counts_eq
  have fe := four_eq
  have K1 := Lib.hid k1
  have K5 := Lib.hid k5
  have K6 := Lib.hid k6
  have K7 := Lib.hid k7
  have K8 := Lib.hid k8
  clear he hb k1 k5 k6 k7 k8
  go_enter Tryd.func8, Tryd.ntmps8
  have GR0 := Lib.hid (grefl w none)
  go_wp2_with fail
  refine Calls.mono (K1.out _ (HB.out.kept (galloc (galloc (GR0.out) _) _) (by simp))) ?_
  rintro e w1 ⟨rfl, hg⟩
  have GR1 := Lib.hid (gtrans GR0.out (gfr1 (gfr1 (hg))))
  have A_1 := Lib.hid (gblock hg (balloc2_0 w (.cells #[.int .u16 i, .bool q1, .int .u8 o, .bool q2, .bool q3, .bool q4, .bool q5, .bool q6, .bool q7, .bool q8, .int .u8 c] 24) (.cells #[.int .i64 x0, .int .i64 x1, .int .i64 x2, .int .i64 x3] 25)) (by simp))
  have B_1 := Lib.hid (gblock hg (balloc2_1 w (.cells #[.int .u16 i, .bool q1, .int .u8 o, .bool q2, .bool q3, .bool q4, .bool q5, .bool q6, .bool q7, .bool q8, .int .u8 c] 24) (.cells #[.int .i64 x0, .int .i64 x1, .int .i64 x2, .int .i64 x3] 25)) (by simp))
  clear hg GR0
  clear A_1
  clear B_1
  go_wp2_with fail
  refine Calls.mono (K5.out _ (HE.out.kept (GR1.out) (by simp)) (HB.out.kept (GR1.out) (by simp))) ?_
  rintro e w2 ⟨rfl, hg⟩
  have GR2 := Lib.hid (gtrans GR1.out (hg))
  clear hg GR1
  go_wp2_with fail
  refine Calls.mono (K6.out _ (HB.out.kept (galloc (galloc (GR2.out) _) _) (by simp))) ?_
  rintro e w3 ⟨rfl, hg⟩
  have GR3 := Lib.hid (gtrans GR2.out (gfr1 (gfr1 (hg))))
  have GG_3 := Lib.hid (gblock hg (balloc2_0 w2 (.cells #[.int .u16 i', .bool r1, .int .u8 o', .bool r2, .bool r3, .bool r4, .bool r5, .bool r6, .bool r7, .bool r8, .int .u8 c'] 24) (.cells #[.int .i64 z0, .int .i64 z1, .int .i64 z2, .int .i64 z3] 26)) (by simp))
  have DD_3 := Lib.hid (gblock hg (balloc2_1 w2 (.cells #[.int .u16 i', .bool r1, .int .u8 o', .bool r2, .bool r3, .bool r4, .bool r5, .bool r6, .bool r7, .bool r8, .int .u8 c'] 24) (.cells #[.int .i64 z0, .int .i64 z1, .int .i64 z2, .int .i64 z3] 26)) (by simp))
  clear hg GR2
  clear GG_3
  clear DD_3
  go_wp2_with fail
  refine Calls.mono (K7.out _ (HB.out.kept (GR3.out) (by simp))) ?_
  rintro e w4 ⟨rfl, hg⟩
  have GR4 := Lib.hid (gtrans GR3.out (hg))
  clear hg GR3
  go_wp2_with fail
  refine Calls.mono (K8.out _ (HB.out.kept (GR4.out) (by simp))) ?_
  rintro e w5 ⟨rfl, hg⟩
  have GR5 := Lib.hid (gtrans GR4.out (hg))
  clear hg GR4
  go_wp2_with (go_at_call 11; refine Calls.mono (awake03 _ (HE.out.kept (GR5.out) (by simp)) (HB.out.kept (GR5.out) (by simp))) ?_; rintro e wz ⟨rfl, hg⟩; have GZ := Lib.hid (gtrans GR5.out hg); clear hg)
  go_ret
  exact ⟨rfl, GZ.out⟩

set_option maxHeartbeats 8000000 in
set_option maxRecDepth 100000 in
theorem back_ns (i o c : Int) (q1 q2 q3 q4 q5 q6 q7 q8 : Bool) (x0 x1 x2 x3 : Int) (i' o' c' : Int) (r1 r2 r3 r4 r5 r6 r7 r8 : Bool) (z0 z1 z2 z3 : Int) (t s : ByteArray) (_m n : Nat) (a1 a2 : Int) (p1 p2 p3 p4 p5 p6 p7 p8 : Bool) (w : World) (he : Et w) (hb : Bt w)
    (k1 : ∀ w, Bt w → Calls Tryd.prog 15 #[.agg #[.int .u16 i, .bool q1, .int .u8 o, .bool q2, .bool q3, .bool q4, .bool q5, .bool q6, .bool q7, .bool q8, .int .u8 c], .agg #[.int .i64 x0, .int .i64 x1, .int .i64 x2, .int .i64 x3]] w fun e w' => e = .returned (.tuple #[.string t, .int .i64 1]) ∧ w.grownBy w' none)
    (k5 : ∀ w, Et w → Bt w → Calls Tryd.prog 9 #[.string s] w fun e w' => e = .returned (.tuple #[.agg #[.int .u16 i', .bool r1, .int .u8 o', .bool r2, .bool r3, .bool r4, .bool r5, .bool r6, .bool r7, .bool r8, .int .u8 c'], .agg #[.int .i64 z0, .int .i64 z1, .int .i64 z2, .int .i64 z3], .int .i64 4]) ∧ w.grownBy w' none)
    (k7 : ∀ w, Bt w → Calls Tryd.prog 13 #[.int .u16 n] w fun e w' => e = .returned (.agg #[.int .u16 0, .bool p1, .int .u8 a1, .bool p2, .bool p3, .bool p4, .bool p5, .bool p6, .bool p7, .bool p8, .int .u8 a2]) ∧ w.grownBy w' none) (k8 : ∀ w, Bt w → Calls Tryd.prog 14 #[.agg #[.int .u16 0, .bool p1, .int .u8 a1, .bool p2, .bool p3, .bool p4, .bool p5, .bool p6, .bool p7, .bool p8, .int .u8 a2]] w fun e w' => e = .returned (.tuple #[.int .u16 n, .int .i64 0]) ∧ w.grownBy w' none)
    : Calls Tryd.prog 8 #[.agg #[.int .u16 i, .bool q1, .int .u8 o, .bool q2, .bool q3, .bool q4, .bool q5, .bool q6, .bool q7, .bool q8, .int .u8 c], .agg #[.int .i64 x0, .int .i64 x1, .int .i64 x2, .int .i64 x3], .string s, .int .u16 n] w fun e w' => e = .returned (.bool true) ∧ w.grownBy w' none := by
  have HE := Lib.hid he
  have HB := Lib.hid hb
  have ce := counts_eq
  have fe := four_eq
  have K1 := Lib.hid k1
  have K5 := Lib.hid k5
  have K7 := Lib.hid k7
  have K8 := Lib.hid k8
  clear he hb k1 k5 k7 k8
  go_enter Tryd.func8, Tryd.ntmps8
  have GR0 := Lib.hid (grefl w none)
  go_wp2_with fail
  refine Calls.mono (K1.out _ (HB.out.kept (galloc (galloc (GR0.out) _) _) (by simp))) ?_
  rintro e w1 ⟨rfl, hg⟩
  have GR1 := Lib.hid (gtrans GR0.out (gfr1 (gfr1 (hg))))
  have A_1 := Lib.hid (gblock hg (balloc2_0 w (.cells #[.int .u16 i, .bool q1, .int .u8 o, .bool q2, .bool q3, .bool q4, .bool q5, .bool q6, .bool q7, .bool q8, .int .u8 c] 24) (.cells #[.int .i64 x0, .int .i64 x1, .int .i64 x2, .int .i64 x3] 25)) (by simp))
  have B_1 := Lib.hid (gblock hg (balloc2_1 w (.cells #[.int .u16 i, .bool q1, .int .u8 o, .bool q2, .bool q3, .bool q4, .bool q5, .bool q6, .bool q7, .bool q8, .int .u8 c] 24) (.cells #[.int .i64 x0, .int .i64 x1, .int .i64 x2, .int .i64 x3] 25)) (by simp))
  clear hg GR0
  clear A_1
  clear B_1
  go_wp2_with fail
  refine Calls.mono (K5.out _ (HE.out.kept (GR1.out) (by simp)) (HB.out.kept (GR1.out) (by simp))) ?_
  rintro e w2 ⟨rfl, hg⟩
  have GR2 := Lib.hid (gtrans GR1.out (hg))
  clear hg GR1
  go_wp2_with fail
  refine Calls.mono (K7.out _ (HB.out.kept (galloc (galloc (GR2.out) _) _) (by simp))) ?_
  rintro e w3 ⟨rfl, hg⟩
  have GR3 := Lib.hid (gtrans GR2.out (gfr1 (gfr1 (hg))))
  have GG_3 := Lib.hid (gblock hg (balloc2_0 w2 (.cells #[.int .u16 i', .bool r1, .int .u8 o', .bool r2, .bool r3, .bool r4, .bool r5, .bool r6, .bool r7, .bool r8, .int .u8 c'] 24) (.cells #[.int .i64 z0, .int .i64 z1, .int .i64 z2, .int .i64 z3] 26)) (by simp))
  have DD_3 := Lib.hid (gblock hg (balloc2_1 w2 (.cells #[.int .u16 i', .bool r1, .int .u8 o', .bool r2, .bool r3, .bool r4, .bool r5, .bool r6, .bool r7, .bool r8, .int .u8 c'] 24) (.cells #[.int .i64 z0, .int .i64 z1, .int .i64 z2, .int .i64 z3] 26)) (by simp))
  clear hg GR2
  clear GG_3
  clear DD_3
  go_wp2_with fail
  refine Calls.mono (K8.out _ (HB.out.kept (GR3.out) (by simp))) ?_
  rintro e w4 ⟨rfl, hg⟩
  have GR4 := Lib.hid (gtrans GR3.out (hg))
  clear hg GR3
  go_wp2_with (go_at_call 11; refine Calls.mono (awake03 _ (HE.out.kept (GR4.out) (by simp)) (HB.out.kept (GR4.out) (by simp))) ?_; rintro e wz ⟨rfl, hg⟩; have GZ := Lib.hid (gtrans GR4.out hg); clear hg)
  go_ret
  exact ⟨rfl, GZ.out⟩
end Go.Proofs.YtklkigpdahaahaaDoor
