/-
  hustingslaw02.CursorPuts is true: its walk.
-/
import Derived.Test.YtndkgogohlikiaaDoorAwake02
import Derived.Test.YtndkgogohlikiaaDoorRef02
import Derived.Test.YtndkgogohlikiaaDoorRegG
namespace Go.Proofs.YtndkgogohlikiaaDoor
open Go.RowKit Go.BigFrame

set_option maxRecDepth 100000 in
theorem puts_big (v : Value) (l : List UInt8) (x y z : Int) (w : World) (he : Et w) (hv : SlB w v l) (hs : 20000 < l.length) : Calls Tryd.prog 4 #[v, .int .u8 x, .int .u16 y, .int .u32 z] w fun e w' => e = .returned (.bool true) ∧ w.grownBy w' none := by
  have hb : decide ((20000 : Int) < (l.length : Int)) = true := by simp; omega
  obtain ⟨A, cap, rfl, _⟩ := hv
  go_enter Tryd.func4, Tryd.ntmps4
  go_wp2_with fail
  refine (awake_any w he).mono ?_
  rintro e w1 ⟨rfl, hg⟩
  go_wp2_with fail
  go_ret
  exact ⟨rfl, hg⟩

set_option maxRecDepth 100000 in
set_option maxHeartbeats 2000000 in
theorem puts_small (v : Value) (l : List UInt8) (x y z : Nat) (w : World) (he : Et w) (hv : SlB w v l) (hs : l.length ≤ 20000) (hx : x < 256) (hy : y < 65536) (hz : z < 4294967296) : Calls Tryd.prog 4 #[v, .int .u8 x, .int .u16 y, .int .u32 z] w fun e w' => e = .returned (.bool true) ∧ w.grownBy w' none := by
  have hb : decide ((20000 : Int) < (l.length : Int)) = false := by simp; omega
  have HV := Lib.hid hv
  have HE := Lib.hid he
  have hcv := run_string_of (P := Tryd.prog) w 39 9 5 Tryd.underlying39 Tryd.underlying5 Tryd.underlying9 hv
  clear he
  obtain ⟨A, cap, rfl, _, _, _⟩ := hv
  go_enter Tryd.func4, Tryd.ntmps4
  go_wp2_with fail
  have u1 : IntKind.u64.wrap (x : Int) = (x : Int) := by rw [IntKind.wrap_u64]; omega
  have u2 : IntKind.u64.wrap (y : Int) = (y : Int) := by rw [IntKind.wrap_u64]; omega
  have u3 : IntKind.u64.wrap (z : Int) = (z : Int) := by rw [IntKind.wrap_u64]; omega
  have e1 : (enc 1 x).length ≤ 4 := by rw [enc_len]; omega
  have e2 : (enc 2 y).length ≤ 4 := by rw [enc_len]; omega
  have e4 : (enc 4 z).length ≤ 4 := by rw [enc_len]; omega
  refine wp_region_segs [(true, [0, 1, 4, 5, 6]), (false, [2]), (true, [3]), (false, [7]), (true, [8, 9, 10, 11, 12, 15, 16, 17]), (false, [13]), (true, [14]), (false, [18]), (true, [19, 20, 21, 22, 23, 24, 27, 28, 29]), (false, [25]), (true, [26]), (false, [30]), (true, [31, 32, 33, 34, 35, 36, 37, 38, 39, 40]), (false, [41]), (true, [42, 43])] (by kernel_rfl) (by kernel_rfl) ?_
  refine wpSegs_quiet rfl ?_
  simp only [List.filterMap_cons, List.filterMap_nil, List.getElem?_toArray, List.getElem?_cons_succ, List.getElem?_cons_zero]
  show wpQuiet _ _ _ _ [_, _, _, _, _] _
  repeat (go_big_quiet_step (fail))
  refine wpQuiet_nil ?_
  refine wpSegs_one (by simp only [List.getElem?_toArray, List.getElem?_cons_succ, List.getElem?_cons_zero]; exact rfl) ?_
  go_wp2_with fail
  refine (put1_any _ _ l x hx HV.out.drew (by omega)).mono ?_
  rintro e w1 ⟨rfl, ho, hg⟩
  simp only [World.size_drew] at ho
  have hc : ∀ g : Gr w1, _ := fun g => run_string_of (P := Tryd.prog) g.w 39 9 5 Tryd.underlying39 Tryd.underlying5 Tryd.underlying9 (ho.sl.kept0 g.h)
  simp only [← mk_append_list] at hc
  have HG1 := Lib.hid (gtrans (gdrew (grefl w none)) hg)
  clear ho
  go_wp2_with fail
  refine ⟨hg, ?_⟩
  clear hg
  refine wpSegs_quiet rfl ?_
  simp only [List.filterMap_cons, List.filterMap_nil, List.getElem?_toArray, List.getElem?_cons_succ, List.getElem?_cons_zero]
  show wpQuiet _ _ _ _ [_] _
  repeat (go_big_quiet_step (fail))
  refine wpQuiet_nil ?_
  clear hc
  refine wpSegs_one (by simp only [List.getElem?_toArray, List.getElem?_cons_succ, List.getElem?_cons_zero]; exact rfl) ?_
  go_wp2_with fail
  refine (rput_any x 1 (by omega) (by omega) w1).mono ?_
  rintro e w2 ⟨rfl, hg⟩
  have HG2 := Lib.hid (gtrans HG1.out hg)
  go_wp2_with fail
  refine ⟨hg, ?_⟩
  clear hg
  refine wpSegs_quiet rfl ?_
  simp only [List.filterMap_cons, List.filterMap_nil, List.getElem?_toArray, List.getElem?_cons_succ, List.getElem?_cons_zero]
  show wpQuiet _ _ _ _ [_, _, _, _, _, _, _, _] _
  repeat (go_big_quiet_step (fail))
  refine wpQuiet_nil ?_
  refine wpSegs_one (by simp only [List.getElem?_toArray, List.getElem?_cons_succ, List.getElem?_cons_zero]; exact rfl) ?_
  go_wp2_with fail
  refine (put2_any w2 _ l y hy (HV.out.kept0 HG2.out) (by omega)).mono ?_
  rintro e w3 ⟨rfl, ho, hg⟩
  have hc : ∀ g : Gr w3, _ := fun g => run_string_of (P := Tryd.prog) g.w 39 9 5 Tryd.underlying39 Tryd.underlying5 Tryd.underlying9 (ho.sl.kept0 g.h)
  simp only [← mk_append_list] at hc
  have HG3 := Lib.hid (gtrans HG2.out hg)
  clear ho
  go_wp2_with fail
  refine ⟨hg, ?_⟩
  clear hg
  refine wpSegs_quiet rfl ?_
  simp only [List.filterMap_cons, List.filterMap_nil, List.getElem?_toArray, List.getElem?_cons_succ, List.getElem?_cons_zero]
  show wpQuiet _ _ _ _ [_] _
  repeat (go_big_quiet_step (fail))
  refine wpQuiet_nil ?_
  clear hc
  refine wpSegs_one (by simp only [List.getElem?_toArray, List.getElem?_cons_succ, List.getElem?_cons_zero]; exact rfl) ?_
  go_wp2_with fail
  refine (rput_any y 2 (by omega) (by omega) w3).mono ?_
  rintro e w4 ⟨rfl, hg⟩
  have HG4 := Lib.hid (gtrans HG3.out hg)
  go_wp2_with fail
  refine ⟨hg, ?_⟩
  clear hg
  refine wpSegs_quiet rfl ?_
  simp only [List.filterMap_cons, List.filterMap_nil, List.getElem?_toArray, List.getElem?_cons_succ, List.getElem?_cons_zero]
  show wpQuiet _ _ _ _ [_, _, _, _, _, _, _, _, _] _
  repeat (go_big_quiet_step (fail))
  refine wpQuiet_nil ?_
  refine wpSegs_one (by simp only [List.getElem?_toArray, List.getElem?_cons_succ, List.getElem?_cons_zero]; exact rfl) ?_
  go_wp2_with fail
  refine (put4_any w4 _ l z hz (HV.out.kept0 HG4.out) (by omega)).mono ?_
  rintro e w5 ⟨rfl, ho, hg⟩
  have hc : ∀ g : Gr w5, _ := fun g => run_string_of (P := Tryd.prog) g.w 39 9 5 Tryd.underlying39 Tryd.underlying5 Tryd.underlying9 (ho.sl.kept0 g.h)
  simp only [← mk_append_list] at hc
  have HG5 := Lib.hid (gtrans HG4.out hg)
  clear ho
  go_wp2_with fail
  refine ⟨hg, ?_⟩
  clear hg
  refine wpSegs_quiet rfl ?_
  simp only [List.filterMap_cons, List.filterMap_nil, List.getElem?_toArray, List.getElem?_cons_succ, List.getElem?_cons_zero]
  show wpQuiet _ _ _ _ [_] _
  repeat (go_big_quiet_step (fail))
  refine wpQuiet_nil ?_
  clear hc
  refine wpSegs_one (by simp only [List.getElem?_toArray, List.getElem?_cons_succ, List.getElem?_cons_zero]; exact rfl) ?_
  go_wp2_with fail
  refine (rput_any z 4 (by omega) (by omega) w5).mono ?_
  rintro e w6 ⟨rfl, hg⟩
  have HG6 := Lib.hid (gtrans HG5.out hg)
  have hc : ∀ g : Gr w6, _ := fun g => run_string_of (P := Tryd.prog) g.w 39 9 5 Tryd.underlying39 Tryd.underlying5 Tryd.underlying9 (HV.out.kept0 (gtrans HG6.out g.h))
  go_wp2_with fail
  refine ⟨hg, ?_⟩
  clear hg
  refine wpSegs_quiet rfl ?_
  simp only [List.filterMap_cons, List.filterMap_nil, List.getElem?_toArray, List.getElem?_cons_succ, List.getElem?_cons_zero]
  show wpQuiet _ _ _ _ [_, _, _, _, _, _, _, _, _, _] _
  repeat (go_big_quiet_step (fail))
  refine wpQuiet_nil ?_
  clear hc
  refine wpSegs_one (by simp only [List.getElem?_toArray, List.getElem?_cons_succ, List.getElem?_cons_zero]; exact rfl) ?_
  go_wp2_with fail
  refine (awake_any w6 (HE.out.kept HG6.out (by simp))).mono ?_
  rintro e w7 ⟨rfl, hg⟩
  have HG7 := Lib.hid (gtrans HG6.out hg)
  go_wp2_with fail
  refine ⟨hg, ?_⟩
  clear hg
  refine wpSegs_quiet rfl ?_
  simp only [List.filterMap_cons, List.filterMap_nil, List.getElem?_toArray, List.getElem?_cons_succ, List.getElem?_cons_zero]
  show wpQuiet _ _ _ _ [_, _] _
  repeat (go_big_quiet_step (fail))
  refine wpQuiet_nil ?_
  refine wpSegs_done ?_
  go_wp2
  go_ret
  exact ⟨rfl, HG7.out⟩

theorem puts_walk (v : Value) (l : List UInt8) (x y z : Nat) (w : World) (he : Et w) (hv : SlB w v l) (hx : x < 256) (hy : y < 65536) (hz : z < 4294967296) : Calls Tryd.prog 4 #[v, .int .u8 x, .int .u16 y, .int .u32 z] w fun e w' => e = .returned (.bool true) ∧ w.grownBy w' none := by
  by_cases hs : 20000 < l.length
  · exact puts_big v l x y z w he hv hs
  · exact puts_small v l x y z w he hv (by omega) hx hy hz
end Go.Proofs.YtndkgogohlikiaaDoor
