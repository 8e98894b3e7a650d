/-
  HeadCut.
-/
import Derived.Test.YtklkigpdahaahaaDoorHd03e
namespace Go.Proofs.YtklkigpdahaahaaDoor
open Go.RowKit

theorem head_shape (H : Hd) : ∃ (i o c : Int) (q1 q2 q3 q4 q5 q6 q7 q8 : Bool), H.v = .agg #[.int .u16 i, .bool q1, .int .u8 o, .bool q2, .bool q3, .bool q4, .bool q5, .bool q6, .bool q7, .bool q8, .int .u8 c] := ⟨_, _, _, _, _, _, _, _, _, _, _, rfl⟩

theorem num_append (s t : ByteArray) (p n : Nat) (h : p + n ≤ s.size) : num (s ++ t) p n = num s p n := by
  have hl : s.data.toList.length = s.size := Array.length_toList
  unfold num
  rw [ByteArray.data_append, Array.toList_append, List.drop_append_of_le_length (by omega), List.take_append_of_le_length (by rw [List.length_drop]; omega)]
theorem num_extract (s : ByteArray) (m p n : Nat) (h : p + n ≤ m) : num (s.extract 0 m) p n = num s p n := by
  unfold num
  rw [ByteArray.data_extract, Array.toList_extract, List.extract_eq_take_drop, List.drop_zero, List.drop_take, List.take_take, Nat.min_eq_left (by omega)]

set_option maxHeartbeats 4000000 in
set_option maxRecDepth 100000 in
theorem cut_short (s more : ByteArray) (w : World) (he : Et w) (hb : Bt w) (h : s.size < 12) : Calls Tryd.prog 5 #[.string s, .string more] w fun e w' => e = .returned (.bool true) ∧ w.grownBy w' none := by
  have HE := Lib.hid he
  have HB := Lib.hid hb
  have ce := counts_eq
  have g1 : ((s.size : Nat) : Int) < 12 := by omega
  clear he hb
  go_enter Tryd.func5, Tryd.ntmps5
  go_wp2_with fail
  refine Calls.mono (read_short s _ h) ?_
  rintro e w1 ⟨rfl, hg⟩
  have G1 := Lib.hid hg
  clear hg
  simp only [Hd.v, hd0, cv]
  go_wp2_with (go_at_call 11; refine Calls.mono (awake03 _ (HE.out.kept (by first | exact G1.out | exact galloc G1.out _ | exact galloc (galloc G1.out _) _ | exact galloc (galloc (galloc G1.out _) _) _) (by simp)) (HB.out.kept (by first | exact G1.out | exact galloc G1.out _ | exact galloc (galloc G1.out _) _ | exact galloc (galloc (galloc G1.out _) _) _) (by simp))) ?_; rintro e w2 ⟨rfl, hg⟩; have G2 := Lib.hid (gtrans G1.out (gfrom2 hg)); clear hg)
  go_ret
  exact ⟨rfl, by first | exact G2.out | exact galloc G2.out _ | exact galloc (galloc G2.out _) _ | exact galloc (galloc (galloc G2.out _) _) _⟩

set_option maxHeartbeats 4000000 in
set_option maxRecDepth 100000 in
theorem cut_long (s more : ByteArray) (w : World) (he : Et w) (hb : Bt w) (h : 12 ≤ s.size) (hs : s.size ≤ maxLen) (hq : ¬ 9223372036854775807 < s.size + more.size) : Calls Tryd.prog 5 #[.string s, .string more] w fun e w' => e = .returned (.bool true) ∧ w.grownBy w' none := by
  have HE := Lib.hid he
  have HB := Lib.hid hb
  have ce := counts_eq
  have g1 : ¬ ((s.size : Nat) : Int) < 12 := by omega
  clear he hb
  go_enter Tryd.func5, Tryd.ntmps5
  go_wp2_with fail
  obtain ⟨i, o, c, q1, q2, q3, q4, q5, q6, q7, q8, hh⟩ := head_shape (fromN (num s 0 2) (num s 2 2))
  refine Calls.mono (read_lit s _ _ _ HE.out HB.out h hs hh rfl) ?_
  rintro e w1 ⟨rfl, hg⟩
  have G1 := Lib.hid hg
  clear hg
  simp only [cv]
  go_wp2_with fail
  have hz : (s ++ more).size = s.size + more.size := ByteArray.size_append
  refine Calls.mono (read_lit (s ++ more) (.agg #[.int .u16 i, .bool q1, .int .u8 o, .bool q2, .bool q3, .bool q4, .bool q5, .bool q6, .bool q7, .bool q8, .int .u8 c]) (cv (num s 4 2) (num s 6 2) (num s 8 2) (num s 10 2)) _ (HE.out.kept (by first | exact G1.out | exact galloc G1.out _ | exact galloc (galloc G1.out _) _ | exact galloc (galloc (galloc G1.out _) _) _) (by simp)) (HB.out.kept (by first | exact G1.out | exact galloc G1.out _ | exact galloc (galloc G1.out _) _ | exact galloc (galloc (galloc G1.out _) _) _) (by simp)) (by omega) (by unfold maxLen; omega) (by rw [num_append _ _ _ _ (by omega), num_append _ _ _ _ (by omega)]; exact hh) (by rw [num_append _ _ _ _ (by omega), num_append _ _ _ _ (by omega), num_append _ _ _ _ (by omega), num_append _ _ _ _ (by omega)])) ?_
  rintro e w2 ⟨rfl, hg⟩
  have G2 := Lib.hid (gtrans G1.out (gfrom2 hg))
  have A2 := Lib.hid (gblock hg (heap_alloc2_old _ _ _) (by simp))
  have B2 := Lib.hid (gblock hg (heap_alloc2_new _ _ _) (by simp))
  clear hg G1
  simp only [cv]
  go_wp2_with fail
  have hx : (s.extract 0 12).size = 12 := by rw [ByteArray.size_extract]; omega
  refine Calls.mono (read_lit (s.extract 0 12) (.agg #[.int .u16 i, .bool q1, .int .u8 o, .bool q2, .bool q3, .bool q4, .bool q5, .bool q6, .bool q7, .bool q8, .int .u8 c]) (cv (num s 4 2) (num s 6 2) (num s 8 2) (num s 10 2)) _ (HE.out.kept (by first | exact G2.out | exact galloc G2.out _ | exact galloc (galloc G2.out _) _ | exact galloc (galloc (galloc G2.out _) _) _) (by simp)) (HB.out.kept (by first | exact G2.out | exact galloc G2.out _ | exact galloc (galloc G2.out _) _ | exact galloc (galloc (galloc G2.out _) _) _) (by simp)) (by omega) (by unfold maxLen; omega) (by rw [num_extract _ _ _ _ (by omega), num_extract _ _ _ _ (by omega)]; exact hh) (by rw [num_extract _ _ _ _ (by omega), num_extract _ _ _ _ (by omega), num_extract _ _ _ _ (by omega), num_extract _ _ _ _ (by omega)])) ?_
  rintro e w3 ⟨rfl, hg⟩
  have G3 := Lib.hid (gtrans G2.out (gfrom2 hg))
  have A3 := Lib.hid (gblock (gfrom2 hg) A2.out (by simp))
  have B3 := Lib.hid (gblock (gfrom2 hg) B2.out (by simp))
  have C3 := Lib.hid (gblock hg (heap_alloc2_old _ _ _) (by simp))
  have D3 := Lib.hid (gblock hg (heap_alloc2_new _ _ _) (by simp))
  clear hg G2 A2 B2
  simp only [cv]
  have la : w1.heap.size < w3.heap.size := blt A3.out
  have lb : w1.heap.size + 1 < w3.heap.size := blt B3.out
  have lc : w2.heap.size < w3.heap.size := blt C3.out
  have ld : w2.heap.size + 1 < w3.heap.size := blt D3.out
  have a0 := bcellAt A3.out 0
  have a1 := bcellAt A3.out 1
  have a2 := bcellAt A3.out 2
  have a3 := bcellAt A3.out 3
  have a4 := bcellAt A3.out 4
  have a5 := bcellAt A3.out 5
  have a6 := bcellAt A3.out 6
  have a7 := bcellAt A3.out 7
  have a8 := bcellAt A3.out 8
  have a9 := bcellAt A3.out 9
  have a10 := bcellAt A3.out 10
  have b0 := bcellAt B3.out 0
  have b1 := bcellAt B3.out 1
  have b2 := bcellAt B3.out 2
  have b3 := bcellAt B3.out 3
  have c0 := bcellAt C3.out 0
  have c1 := bcellAt C3.out 1
  have c2 := bcellAt C3.out 2
  have c3 := bcellAt C3.out 3
  have c4 := bcellAt C3.out 4
  have c5 := bcellAt C3.out 5
  have c6 := bcellAt C3.out 6
  have c7 := bcellAt C3.out 7
  have c8 := bcellAt C3.out 8
  have c9 := bcellAt C3.out 9
  have c10 := bcellAt C3.out 10
  have d0 := bcellAt D3.out 0
  have d1 := bcellAt D3.out 1
  have d2 := bcellAt D3.out 2
  have d3 := bcellAt D3.out 3
  simp only [List.getElem?_toArray, List.getElem?_cons_zero, List.getElem?_cons_succ] at a0 a1 a2 a3 a4 a5 a6 a7 a8 a9 a10 b0 b1 b2 b3 c0 c1 c2 c3 c4 c5 c6 c7 c8 c9 c10 d0 d1 d2 d3
  go_wp2_with (go_at_call 11; refine Calls.mono (awake03 _ (HE.out.kept (by first | exact G3.out | exact galloc G3.out _ | exact galloc (galloc G3.out _) _ | exact galloc (galloc (galloc G3.out _) _) _) (by simp)) (HB.out.kept (by first | exact G3.out | exact galloc G3.out _ | exact galloc (galloc G3.out _) _ | exact galloc (galloc (galloc G3.out _) _) _) (by simp))) ?_; rintro e w4 ⟨rfl, hg⟩; have G4 := Lib.hid (gtrans G3.out (gfrom2 hg)); clear hg)
  go_ret
  exact ⟨rfl, by first | exact G4.out | exact galloc G4.out _ | exact galloc (galloc G4.out _) _ | exact galloc (galloc (galloc G4.out _) _) _⟩

theorem cut_walk (s more : ByteArray) (w : World) (he : Et w) (hb : Bt w) (hs : s.size ≤ maxLen) (hq : ¬ 9223372036854775807 < s.size + more.size) : Calls Tryd.prog 5 #[.string s, .string more] w fun e w' => e = .returned (.bool true) ∧ w.grownBy w' none := by
  by_cases h : s.size < 12
  · exact cut_short s more w he hb h
  · exact cut_long s more w he hb (by omega) hs hq
end Go.Proofs.YtklkigpdahaahaaDoor
