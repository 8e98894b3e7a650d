/-
  HeadWrites: the walk.
-/
import Derived.Test.YtklkigpdahaahaaDoorHd03r
namespace Go.Proofs.YtklkigpdahaahaaDoor
open Go.RowKit

set_option maxHeartbeats 8000000 in
set_option maxRecDepth 100000 in
theorem writes_gen (i o c : Int) (q1 q2 q3 q4 q5 q6 q7 q8 : Bool) (x0 x1 x2 x3 : Int) (s : ByteArray) (er : Int) (n : Int) (fe : Int) (m : Int) (a1 a2 : Int) (p1 p2 p3 p4 p5 p6 p7 p8 : Bool) (w : World) (he : Et w) (hb : Bt w)
    (k1 : ∀ w, Bt w → Calls Tryd.prog 15 #[.agg #[.int .u16 i, .bool q1, .int .u8 o, .bool q2, .bool q3, .bool q4, .bool q5, .bool q6, .bool q7, .bool q8, .int .u8 c], .agg #[.int .i64 x0, .int .i64 x1, .int .i64 x2, .int .i64 x3]] w fun e w' => e = .returned (.tuple #[.string s, .int .i64 er]) ∧ w.grownBy w' none)
    (k2 : ∀ w, Calls Tryd.prog 16 #[.agg #[.int .u16 i, .bool q1, .int .u8 o, .bool q2, .bool q3, .bool q4, .bool q5, .bool q6, .bool q7, .bool q8, .int .u8 c], .agg #[.int .i64 x0, .int .i64 x1, .int .i64 x2, .int .i64 x3]] w fun e w' => e = .returned (.tuple #[.string s, .int .i64 er]) ∧ w.grownBy w' none)
    (k3 : ∀ w, Bt w → Calls Tryd.prog 14 #[.agg #[.int .u16 i, .bool q1, .int .u8 o, .bool q2, .bool q3, .bool q4, .bool q5, .bool q6, .bool q7, .bool q8, .int .u8 c]] w fun e w' => e = .returned (.tuple #[.int .u16 n, .int .i64 fe]) ∧ w.grownBy w' none)
    (k4 : ∀ w, Calls Tryd.prog 17 #[.agg #[.int .u16 i, .bool q1, .int .u8 o, .bool q2, .bool q3, .bool q4, .bool q5, .bool q6, .bool q7, .bool q8, .int .u8 c]] w fun e w' => e = .returned (.tuple #[.int .u16 n, .int .i64 fe]) ∧ w.grownBy w' none)
    (k5 : ∀ w, Bt w → Calls Tryd.prog 13 #[.int .u16 m] w fun e w' => e = .returned (.agg #[.int .u16 0, .bool p1, .int .u8 a1, .bool p2, .bool p3, .bool p4, .bool p5, .bool p6, .bool p7, .bool p8, .int .u8 a2]) ∧ w.grownBy w' none)
    (k6 : ∀ w, Calls Tryd.prog 18 #[.int .u16 m] w fun e w' => e = .returned (.agg #[.int .u16 0, .bool p1, .int .u8 a1, .bool p2, .bool p3, .bool p4, .bool p5, .bool p6, .bool p7, .bool p8, .int .u8 a2]) ∧ w.grownBy w' none)
    : Calls Tryd.prog 7 #[.agg #[.int .u16 i, .bool q1, .int .u8 o, .bool q2, .bool q3, .bool q4, .bool q5, .bool q6, .bool q7, .bool q8, .int .u8 c], .agg #[.int .i64 x0, .int .i64 x1, .int .i64 x2, .int .i64 x3], .int .u16 m] w fun e w' => e = .returned (.bool true) ∧ w.grownBy w' none := by
  have HE := Lib.hid he
  have HB := Lib.hid hb
  have K1 := Lib.hid k1
  have K2 := Lib.hid k2
  have K3 := Lib.hid k3
  have K4 := Lib.hid k4
  have K5 := Lib.hid k5
  have K6 := Lib.hid k6
  clear he hb k1 k2 k3 k4 k5 k6
  go_enter Tryd.func7, Tryd.ntmps7
  have GR0 := Lib.hid (grefl w none)
  go_wp2_with fail
  refine Calls.mono (K1.out _ (HB.out.kept (galloc (galloc (GR0.out) _) _) (by simp))) ?_
  rintro e w1 ⟨rfl, hg⟩
  have GR1 := Lib.hid (gtrans GR0.out (gfr1 (gfr1 (hg))))
  have A_1 := Lib.hid (gblock hg (balloc2_0 w (.cells #[.int .u16 i, .bool q1, .int .u8 o, .bool q2, .bool q3, .bool q4, .bool q5, .bool q6, .bool q7, .bool q8, .int .u8 c] 24) (.cells #[.int .i64 x0, .int .i64 x1, .int .i64 x2, .int .i64 x3] 25)) (by simp))
  have B_1 := Lib.hid (gblock hg (balloc2_1 w (.cells #[.int .u16 i, .bool q1, .int .u8 o, .bool q2, .bool q3, .bool q4, .bool q5, .bool q6, .bool q7, .bool q8, .int .u8 c] 24) (.cells #[.int .i64 x0, .int .i64 x1, .int .i64 x2, .int .i64 x3] 25)) (by simp))
  clear hg GR0
  have c_A_0 : w1.cell? ⟨w.heap.size, 0, none⟩ = some (.int .u16 i) := bcellAt A_1.out 0
  have c_A_1 : w1.cell? ⟨w.heap.size, 1, none⟩ = some (.bool q1) := bcellAt A_1.out 1
  have c_A_2 : w1.cell? ⟨w.heap.size, 2, none⟩ = some (.int .u8 o) := bcellAt A_1.out 2
  have c_A_3 : w1.cell? ⟨w.heap.size, 3, none⟩ = some (.bool q2) := bcellAt A_1.out 3
  have c_A_4 : w1.cell? ⟨w.heap.size, 4, none⟩ = some (.bool q3) := bcellAt A_1.out 4
  have c_A_5 : w1.cell? ⟨w.heap.size, 5, none⟩ = some (.bool q4) := bcellAt A_1.out 5
  have c_A_6 : w1.cell? ⟨w.heap.size, 6, none⟩ = some (.bool q5) := bcellAt A_1.out 6
  have c_A_7 : w1.cell? ⟨w.heap.size, 7, none⟩ = some (.bool q6) := bcellAt A_1.out 7
  have c_A_8 : w1.cell? ⟨w.heap.size, 8, none⟩ = some (.bool q7) := bcellAt A_1.out 8
  have c_A_9 : w1.cell? ⟨w.heap.size, 9, none⟩ = some (.bool q8) := bcellAt A_1.out 9
  have c_A_10 : w1.cell? ⟨w.heap.size, 10, none⟩ = some (.int .u8 c) := bcellAt A_1.out 10
  have l_A : w.heap.size < w1.heap.size := blt A_1.out
  have c_B_0 : w1.cell? ⟨w.heap.size + 1, 0, none⟩ = some (.int .i64 x0) := bcellAt B_1.out 0
  have c_B_1 : w1.cell? ⟨w.heap.size + 1, 1, none⟩ = some (.int .i64 x1) := bcellAt B_1.out 1
  have c_B_2 : w1.cell? ⟨w.heap.size + 1, 2, none⟩ = some (.int .i64 x2) := bcellAt B_1.out 2
  have c_B_3 : w1.cell? ⟨w.heap.size + 1, 3, none⟩ = some (.int .i64 x3) := bcellAt B_1.out 3
  have l_B : w.heap.size + 1 < w1.heap.size := blt B_1.out
  go_wp2_with fail
  refine Calls.mono (K2.out _) ?_
  rintro e w2 ⟨rfl, hg⟩
  have GR2 := Lib.hid (gtrans GR1.out (hg))
  have A_2 := Lib.hid (gblock (hg) A_1.out (by simp))
  have B_2 := Lib.hid (gblock (hg) B_1.out (by simp))
  clear hg GR1 A_1 B_1 c_A_0 c_A_1 c_A_2 c_A_3 c_A_4 c_A_5 c_A_6 c_A_7 c_A_8 c_A_9 c_A_10 l_A c_B_0 c_B_1 c_B_2 c_B_3 l_B
  clear B_2
  have c_A_0 : w2.cell? ⟨w.heap.size, 0, none⟩ = some (.int .u16 i) := bcellAt A_2.out 0
  have c_A_1 : w2.cell? ⟨w.heap.size, 1, none⟩ = some (.bool q1) := bcellAt A_2.out 1
  have c_A_2 : w2.cell? ⟨w.heap.size, 2, none⟩ = some (.int .u8 o) := bcellAt A_2.out 2
  have c_A_3 : w2.cell? ⟨w.heap.size, 3, none⟩ = some (.bool q2) := bcellAt A_2.out 3
  have c_A_4 : w2.cell? ⟨w.heap.size, 4, none⟩ = some (.bool q3) := bcellAt A_2.out 4
  have c_A_5 : w2.cell? ⟨w.heap.size, 5, none⟩ = some (.bool q4) := bcellAt A_2.out 5
  have c_A_6 : w2.cell? ⟨w.heap.size, 6, none⟩ = some (.bool q5) := bcellAt A_2.out 6
  have c_A_7 : w2.cell? ⟨w.heap.size, 7, none⟩ = some (.bool q6) := bcellAt A_2.out 7
  have c_A_8 : w2.cell? ⟨w.heap.size, 8, none⟩ = some (.bool q7) := bcellAt A_2.out 8
  have c_A_9 : w2.cell? ⟨w.heap.size, 9, none⟩ = some (.bool q8) := bcellAt A_2.out 9
  have c_A_10 : w2.cell? ⟨w.heap.size, 10, none⟩ = some (.int .u8 c) := bcellAt A_2.out 10
  have l_A : w.heap.size < w2.heap.size := blt A_2.out
  go_wp2_with fail
  refine Calls.mono (K3.out _ (HB.out.kept (GR2.out) (by simp))) ?_
  rintro e w3 ⟨rfl, hg⟩
  have GR3 := Lib.hid (gtrans GR2.out (hg))
  have A_3 := Lib.hid (gblock (hg) A_2.out (by simp))
  clear hg GR2 A_2 c_A_0 c_A_1 c_A_2 c_A_3 c_A_4 c_A_5 c_A_6 c_A_7 c_A_8 c_A_9 c_A_10 l_A
  have c_A_0 : w3.cell? ⟨w.heap.size, 0, none⟩ = some (.int .u16 i) := bcellAt A_3.out 0
  have c_A_1 : w3.cell? ⟨w.heap.size, 1, none⟩ = some (.bool q1) := bcellAt A_3.out 1
  have c_A_2 : w3.cell? ⟨w.heap.size, 2, none⟩ = some (.int .u8 o) := bcellAt A_3.out 2
  have c_A_3 : w3.cell? ⟨w.heap.size, 3, none⟩ = some (.bool q2) := bcellAt A_3.out 3
  have c_A_4 : w3.cell? ⟨w.heap.size, 4, none⟩ = some (.bool q3) := bcellAt A_3.out 4
  have c_A_5 : w3.cell? ⟨w.heap.size, 5, none⟩ = some (.bool q4) := bcellAt A_3.out 5
  have c_A_6 : w3.cell? ⟨w.heap.size, 6, none⟩ = some (.bool q5) := bcellAt A_3.out 6
  have c_A_7 : w3.cell? ⟨w.heap.size, 7, none⟩ = some (.bool q6) := bcellAt A_3.out 7
  have c_A_8 : w3.cell? ⟨w.heap.size, 8, none⟩ = some (.bool q7) := bcellAt A_3.out 8
  have c_A_9 : w3.cell? ⟨w.heap.size, 9, none⟩ = some (.bool q8) := bcellAt A_3.out 9
  have c_A_10 : w3.cell? ⟨w.heap.size, 10, none⟩ = some (.int .u8 c) := bcellAt A_3.out 10
  have l_A : w.heap.size < w3.heap.size := blt A_3.out
  go_wp2_with fail
  refine Calls.mono (K4.out _) ?_
  rintro e w4 ⟨rfl, hg⟩
  have GR4 := Lib.hid (gtrans GR3.out (hg))
  have A_4 := Lib.hid (gblock (hg) A_3.out (by simp))
  clear hg GR3 A_3 c_A_0 c_A_1 c_A_2 c_A_3 c_A_4 c_A_5 c_A_6 c_A_7 c_A_8 c_A_9 c_A_10 l_A
  clear A_4
  go_wp2_with fail
  refine Calls.mono (K5.out _ (HB.out.kept (GR4.out) (by simp))) ?_
  rintro e w5 ⟨rfl, hg⟩
  have GR5 := Lib.hid (gtrans GR4.out (hg))
  clear hg GR4
  go_wp2_with fail
  refine Calls.mono (K6.out _) ?_
  rintro e w6 ⟨rfl, hg⟩
  have GR6 := Lib.hid (gtrans GR5.out (hg))
  clear hg GR5
  go_wp2_with (go_at_call 11; refine Calls.mono (awake03 _ (HE.out.kept (GR6.out) (by simp)) (HB.out.kept (GR6.out) (by simp))) ?_; rintro e wz ⟨rfl, hg⟩; have GZ := Lib.hid (gtrans GR6.out hg); clear hg)
  go_ret
  exact ⟨rfl, GZ.out⟩

theorem writes_walk (H : Hd) (a b c d : Int) (m : Nat) (hi : H.id < 65536) (hm : m < 65536) (w : World) (he : Et w) (hb : Bt w) : Calls Tryd.prog 7 #[H.v, cv a b c d, .int .u16 m] w fun e w' => e = .returned (.bool true) ∧ w.grownBy w' none :=
  writes_gen H.id H.op H.code H.qr H.aa H.tc H.rd H.ra H.z H.ad H.cd a b c d (wrS H a b c d) (wrE H a b c d) (flN H) (flE H) m _ _ _ _ _ _ _ _ _ _ w he hb (fun w hb => write_any H a b c d w hb hi) (fun w => rwrite_any H a b c d w hi) (fun w hb => flags_any H w hb) (fun w => rflags_any H w) (fun w hb => from_any m hm w hb) (fun w => rfrom_any m hm w)
end Go.Proofs.YtklkigpdahaahaaDoor
