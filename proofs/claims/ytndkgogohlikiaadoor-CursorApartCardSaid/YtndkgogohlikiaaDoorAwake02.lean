/-
  The law package's awake(): it answers true, whatever world it is asked in.
-/
import Derived.Test.YtndkgogohlikiaaDoorCurC
import Derived.Test.YtndkgogohlikiaaDoorCurD
namespace Go.Proofs.YtndkgogohlikiaaDoor
open Go.RowKit

/-- The examples' text. -/
def s5 : ByteArray := ⟨#[1, 2, 3, 4, 5]⟩
theorem s5_size : s5.size ≤ maxLen := by decide

set_option maxRecDepth 100000 in
set_option maxHeartbeats 2000000 in
theorem awake_any (w : World) (he : Et w) : Calls Tryd.prog 10 #[] w fun e w' => e = .returned (.bool true) ∧ w.grownBy w' none := by
  go_enter Tryd.func10, Tryd.ntmps10
  go_wp2_with fail
  refine (new_any s5 w).mono ?_
  rintro e w1 ⟨rfl, hc1, hg1⟩
  generalize hb : w.heap.size = b at *
  have HB := Lib.hid hb
  clear hb
  have he1 := Lib.hid (he.kept hg1 (by simp))
  have HC := Lib.hid hc1
  clear hc1 he
  go_wp2_with fail
  refine (byte_any b s5 0 w1 HC.out he1.out (by decide) s5_size).mono ?_
  rintro e w2 ⟨rfl, hc2, hg2⟩
  rw [show rdV s5 0 1 = 1 from by decide, show rdE s5 0 1 = 0 from by decide]
  rw [show rdP s5 0 1 = 1 from by decide] at hc2
  have he2 := Lib.hid (he1.out.kept hg2 (Cur.ne HC.out he1.out))
  clear HC he1
  have HC := Lib.hid hc2
  clear hc2
  go_wp2_with fail
  refine (two_any b s5 1 w2 HC.out he2.out (by decide) s5_size).mono ?_
  rintro e w3 ⟨rfl, hc3, hg3⟩
  rw [show rdV s5 1 2 = 515 from by decide, show rdE s5 1 2 = 0 from by decide]
  rw [show rdP s5 1 2 = 3 from by decide] at hc3
  have he3 := Lib.hid (he2.out.kept hg3 (Cur.ne HC.out he2.out))
  clear HC he2
  have HC := Lib.hid hc3
  clear hc3
  go_wp2_with fail
  refine (left_any b s5 3 w3 HC.out (by decide) s5_size).mono ?_
  rintro e w4 ⟨rfl, hg4⟩
  have he4 := Lib.hid (he3.out.kept hg4 (by simp))
  have hc4 := HC.out.kept hg4 (by simp)
  clear HC he3
  have HC := Lib.hid hc4
  clear hc4
  rw [show ((s5.size : Int) - (3 : Nat)) = 2 from by decide]
  go_wp2_with fail
  refine (four_any b s5 3 w4 HC.out he4.out (by decide) s5_size).mono ?_
  rintro e w5 ⟨rfl, hc5, hg5⟩
  rw [show rdV s5 3 4 = 0 from by decide, show rdE s5 3 4 = 4 from by decide]
  rw [show rdP s5 3 4 = 3 from by decide] at hc5
  have he5 := Lib.hid (he4.out.kept hg5 (Cur.ne HC.out he4.out))
  clear HC he4
  have HC := Lib.hid hc5
  clear hc5
  go_wp2_with fail
  refine (T_any b s5 3 w5 2 HC.out he5.out (by decide) s5_size).mono ?_
  rintro e w6 ⟨rfl, hc6, hg6⟩
  rw [show tkS s5 3 2 = ⟨#[4, 5]⟩ from by decide, show tkE s5 3 2 = 0 from by decide]
  rw [show tkP s5 3 2 = 5 from by decide] at hc6
  have he6 := Lib.hid (he5.out.kept hg6 (Cur.ne HC.out he5.out))
  clear HC he5
  have HC := Lib.hid hc6
  clear hc6
  go_wp2_with fail
  refine (byte_any b s5 5 w6 HC.out he6.out (by decide) s5_size).mono ?_
  rintro e w7 ⟨rfl, hc7, hg7⟩
  rw [show rdV s5 5 1 = 0 from by decide, show rdE s5 5 1 = 4 from by decide]
  rw [show rdP s5 5 1 = 5 from by decide] at hc7
  have he7 := Lib.hid (he6.out.kept hg7 (Cur.ne HC.out he6.out))
  clear HC he6
  have HC := Lib.hid hc7
  clear hc7
  go_wp2_with fail
  refine (seek_any b s5 5 w7 5 HC.out).mono ?_
  rintro e w8 ⟨rfl, hc8, hg8⟩
  rw [show skE s5 5 = 0 from by decide]
  rw [show skP s5 5 5 = 5 from by decide] at hc8
  have he8 := Lib.hid (he7.out.kept hg8 (Cur.ne HC.out he7.out))
  clear HC he7
  have HC := Lib.hid hc8
  clear hc8
  go_wp2_with fail
  refine (seek_any b s5 5 w8 6 HC.out).mono ?_
  rintro e w9 ⟨rfl, hc9, hg9⟩
  rw [show skE s5 6 = 1 from by decide]
  rw [show skP s5 5 6 = 5 from by decide] at hc9
  have he9 := Lib.hid (he8.out.kept hg9 (Cur.ne HC.out he8.out))
  clear HC he8
  have HC := Lib.hid hc9
  clear hc9
  go_wp2_with fail
  refine (put2_any w9 _ [] 258 (by decide) (Own.nil w9 0).sl (by simp)).mono ?_
  rintro e w10 ⟨rfl, ho10, hg10⟩
  have HO := Lib.hid ho10
  clear ho10
  go_wp2_with fail
  refine (put4_any w10 _ [1, 2] 1 (by decide) HO.out.sl (by simp)).mono ?_
  rintro e w11 ⟨rfl, ho11, hg11⟩
  have hcv : (convert 39 9 (.slice (some ⟨w10.heap.size + 1, 0, none⟩) 6 6)).run Tryd.prog w11 = .ok (.string ⟨#[1, 2, 0, 0, 0, 1]⟩) w11 := run_string_of w11 39 9 5 Tryd.underlying39 Tryd.underlying5 Tryd.underlying9 ho11.sl
  go_wp2_with fail
  go_ret
  refine ⟨rfl, ?_⟩
  have g9 := gtrans (gtrans (gtrans (gtrans (gtrans (gtrans (gtrans (gtrans (gmono (row := some b) hg1) hg2) hg3) (gmono hg4)) hg5) hg6) hg7) hg8) hg9
  exact gtrans (gtrans (gnew g9 (fun k e => by cases e; exact Nat.le_of_eq HB.out)) hg10) hg11
end Go.Proofs.YtndkgogohlikiaaDoor
