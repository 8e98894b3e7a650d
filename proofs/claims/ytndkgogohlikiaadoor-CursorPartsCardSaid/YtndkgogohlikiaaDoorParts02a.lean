/-
  hustingslaw02.CursorParts is true: its walk, part a.
-/
import Derived.Test.YtndkgogohlikiaaDoorAwake02
namespace Go.Proofs.YtndkgogohlikiaaDoor
open Go.RowKit


set_option maxRecDepth 100000 in
set_option maxHeartbeats 4000000 in
theorem parts_aa (s : ByteArray) (x1 x2 x3 : Int) (q x y : Nat) (w : World) (he : Et w) (hs : s.size ≤ 20000) (hqs : q ≤ s.size) (hx50 : x < 50) (hy50 : y < 50)
    (hq0 : wrap64 ((IntKind.u64.wrap x1).tmod ((s.size : Int) + 1)) = q) (hx0 : wrap64 ((IntKind.u64.wrap x2).tmod 50) = x) (hy0 : wrap64 ((IntKind.u64.wrap x3).tmod 50) = y) (h4 : q + 4 ≤ s.size) (ht : q + (x + y) ≤ s.size) :
    Calls Tryd.prog 3 #[.string s, .int .i64 x1, .int .i64 x2, .int .i64 x3] w fun e w' => e = .returned (.bool true) ∧ w.grownBy w' none := by
  have hb : decide ((20000 : Int) < (s.size : Int)) = false := by simp; omega
  have HQ := Lib.hid hq0
  have HX := Lib.hid hx0
  have HY := Lib.hid hy0
  clear hq0 hx0 hy0
  have hf4 := four_two s q h4
  have hf2 := two_one s q (by omega)
  go_enter Tryd.func3, Tryd.ntmps3
  have HE0 := Lib.hid he
  have HG0 := Lib.hid (grefl w none)
  clear he
  go_wp2_with fail
  refine (awake_any w HE0.out).mono ?_
  rintro e w1 ⟨rfl, hg⟩
  have HE1 := Lib.hid (HE0.out.kept hg (by simp))
  have HG1 := Lib.hid (gtrans HG0.out hg)
  clear HE0 HG0 hg 
  go_wp2_with fail
  rw [HQ.out]
  refine (new_ex s w1).mono ?_
  rintro e w2 ⟨ba, rfl, hl, hc, hg⟩
  have HE2 := Lib.hid (HE1.out.kept hg (by simp))
  have HG2 := Lib.hid (gtrans HG1.out hg)
  have HLa := Lib.hid (Nat.le_trans HG1.out.size hl)
  clear HE1 HG1 hg 
  clear hl
  have HCa2 := Lib.hid hc
  clear hc
  go_wp2_with fail
  refine (new_ex s w2).mono ?_
  rintro e w3 ⟨bb, rfl, hl, hc, hg⟩
  have HE3 := Lib.hid (HE2.out.kept hg (by simp))
  have HG3 := Lib.hid (gtrans HG2.out hg)
  have HCa3 := Lib.hid (HCa2.out.kept hg (by simp))
  have HLb := Lib.hid (Nat.le_trans HG2.out.size hl)
  have HNab := Lib.hid (cur_ne HCa2.out hl)
  have HNba := Lib.hid (Ne.symm HNab.out)
  clear HE2 HG2 hg HCa2
  clear hl
  have HCb3 := Lib.hid hc
  clear hc
  go_wp2_with fail
  refine (seek_any ba s 0 w3 q HCa3.out).mono ?_
  rintro e w4 ⟨rfl, hc, hg⟩
  rw [skE_ok hqs]
  rw [skP_ok hqs] at hc
  have HE4 := Lib.hid (HE3.out.kept hg (Cur.ne HCa3.out HE3.out))
  have HG4 := Lib.hid (gstepb HG3.out hg HLa.out)
  have HCb4 := Lib.hid (HCb3.out.kept hg (fun e => HNba.out (Option.some.inj e)))
  clear HE3 HG3 hg HCa3 HCb3
  have HCa4 := Lib.hid hc
  clear hc
  go_wp2_with fail
  refine (seek_any bb s 0 w4 q HCb4.out).mono ?_
  rintro e w5 ⟨rfl, hc, hg⟩
  rw [skE_ok hqs]
  rw [skP_ok hqs] at hc
  have HE5 := Lib.hid (HE4.out.kept hg (Cur.ne HCb4.out HE4.out))
  have HG5 := Lib.hid (gstepb HG4.out hg HLb.out)
  have HCa5 := Lib.hid (HCa4.out.kept hg (fun e => HNab.out (Option.some.inj e)))
  clear HE4 HG4 hg HCa4 HCb4
  have HCb5 := Lib.hid hc
  clear hc
  go_wp2_with fail
  refine (four_any ba s (q) w5  HCa5.out HE5.out (by omega) (by unfold maxLen; omega)).mono ?_
  rintro e w6 ⟨rfl, hc, hg⟩
  rw [rdV_ok (show (q) + 4 ≤ s.size by omega), rdE_ok (show (q) + 4 ≤ s.size by omega)]
  rw [rdP_ok (show (q) + 4 ≤ s.size by omega)] at hc
  have HE6 := Lib.hid (HE5.out.kept hg (Cur.ne HCa5.out HE5.out))
  have HG6 := Lib.hid (gstepb HG5.out hg HLa.out)
  have HCb6 := Lib.hid (HCb5.out.kept hg (fun e => HNba.out (Option.some.inj e)))
  clear HE5 HG5 hg HCa5 HCb5
  have HCa6 := Lib.hid hc
  clear hc
  go_wp2_with fail
  refine (two_any bb s (q) w6  HCb6.out HE6.out (by omega) (by unfold maxLen; omega)).mono ?_
  rintro e w7 ⟨rfl, hc, hg⟩
  rw [rdV_ok (show (q) + 2 ≤ s.size by omega), rdE_ok (show (q) + 2 ≤ s.size by omega)]
  rw [rdP_ok (show (q) + 2 ≤ s.size by omega)] at hc
  have HE7 := Lib.hid (HE6.out.kept hg (Cur.ne HCb6.out HE6.out))
  have HG7 := Lib.hid (gstepb HG6.out hg HLb.out)
  have HCa7 := Lib.hid (HCa6.out.kept hg (fun e => HNab.out (Option.some.inj e)))
  clear HE6 HG6 hg HCa6 HCb6
  have HCb7 := Lib.hid hc
  clear hc
  go_wp2_with fail
  refine (two_any bb s (((q) + 2)) w7  HCb7.out HE7.out (by omega) (by unfold maxLen; omega)).mono ?_
  rintro e w8 ⟨rfl, hc, hg⟩
  rw [rdV_ok (show (((q) + 2)) + 2 ≤ s.size by omega), rdE_ok (show (((q) + 2)) + 2 ≤ s.size by omega)]
  rw [rdP_ok (show (((q) + 2)) + 2 ≤ s.size by omega)] at hc
  have HE8 := Lib.hid (HE7.out.kept hg (Cur.ne HCb7.out HE7.out))
  have HG8 := Lib.hid (gstepb HG7.out hg HLb.out)
  have HCa8 := Lib.hid (HCa7.out.kept hg (fun e => HNab.out (Option.some.inj e)))
  clear HE7 HG7 hg HCa7 HCb7
  have HCb8 := Lib.hid hc
  clear hc
  go_wp2_with fail
  refine (seek_any ba s ((q) + 4) w8 q HCa8.out).mono ?_
  rintro e w9 ⟨rfl, hc, hg⟩
  rw [skE_ok hqs]
  rw [skP_ok hqs] at hc
  have HE9 := Lib.hid (HE8.out.kept hg (Cur.ne HCa8.out HE8.out))
  have HG9 := Lib.hid (gstepb HG8.out hg HLa.out)
  have HCb9 := Lib.hid (HCb8.out.kept hg (fun e => HNba.out (Option.some.inj e)))
  clear HE8 HG8 hg HCa8 HCb8
  have HCa9 := Lib.hid hc
  clear hc
  go_wp2_with fail
  refine (seek_any bb s ((((q) + 2)) + 2) w9 q HCb9.out).mono ?_
  rintro e w10 ⟨rfl, hc, hg⟩
  rw [skE_ok hqs]
  rw [skP_ok hqs] at hc
  have HE10 := Lib.hid (HE9.out.kept hg (Cur.ne HCb9.out HE9.out))
  have HG10 := Lib.hid (gstepb HG9.out hg HLb.out)
  have HCa10 := Lib.hid (HCa9.out.kept hg (fun e => HNab.out (Option.some.inj e)))
  clear HE9 HG9 hg HCa9 HCb9
  have HCb10 := Lib.hid hc
  clear hc
  go_wp2_with fail
  refine (two_any ba s (q) w10  HCa10.out HE10.out (by omega) (by unfold maxLen; omega)).mono ?_
  rintro e w11 ⟨rfl, hc, hg⟩
  rw [rdV_ok (show (q) + 2 ≤ s.size by omega), rdE_ok (show (q) + 2 ≤ s.size by omega)]
  rw [rdP_ok (show (q) + 2 ≤ s.size by omega)] at hc
  have HE11 := Lib.hid (HE10.out.kept hg (Cur.ne HCa10.out HE10.out))
  have HG11 := Lib.hid (gstepb HG10.out hg HLa.out)
  have HCb11 := Lib.hid (HCb10.out.kept hg (fun e => HNba.out (Option.some.inj e)))
  clear HE10 HG10 hg HCa10 HCb10
  have HCa11 := Lib.hid hc
  clear hc
  go_wp2_with fail
  refine (byte_any bb s (q) w11  HCb11.out HE11.out (by omega) (by unfold maxLen; omega)).mono ?_
  rintro e w12 ⟨rfl, hc, hg⟩
  rw [rdV_ok (show (q) + 1 ≤ s.size by omega), rdE_ok (show (q) + 1 ≤ s.size by omega)]
  rw [rdP_ok (show (q) + 1 ≤ s.size by omega)] at hc
  have HE12 := Lib.hid (HE11.out.kept hg (Cur.ne HCb11.out HE11.out))
  have HG12 := Lib.hid (gstepb HG11.out hg HLb.out)
  have HCa12 := Lib.hid (HCa11.out.kept hg (fun e => HNab.out (Option.some.inj e)))
  clear HE11 HG11 hg HCa11 HCb11
  have HCb12 := Lib.hid hc
  clear hc
  go_wp2_with fail
  refine (byte_any bb s (((q) + 1)) w12  HCb12.out HE12.out (by omega) (by unfold maxLen; omega)).mono ?_
  rintro e w13 ⟨rfl, hc, hg⟩
  rw [rdV_ok (show (((q) + 1)) + 1 ≤ s.size by omega), rdE_ok (show (((q) + 1)) + 1 ≤ s.size by omega)]
  rw [rdP_ok (show (((q) + 1)) + 1 ≤ s.size by omega)] at hc
  have HE13 := Lib.hid (HE12.out.kept hg (Cur.ne HCb12.out HE12.out))
  have HG13 := Lib.hid (gstepb HG12.out hg HLb.out)
  have HCa13 := Lib.hid (HCa12.out.kept hg (fun e => HNab.out (Option.some.inj e)))
  clear HE12 HG12 hg HCa12 HCb12
  have HCb13 := Lib.hid hc
  clear hc
  go_wp2_with fail
  rw [HX.out, HY.out]
  refine (seek_any ba s ((q) + 2) w13 q HCa13.out).mono ?_
  rintro e w14 ⟨rfl, hc, hg⟩
  rw [skE_ok hqs]
  rw [skP_ok hqs] at hc
  have HE14 := Lib.hid (HE13.out.kept hg (Cur.ne HCa13.out HE13.out))
  have HG14 := Lib.hid (gstepb HG13.out hg HLa.out)
  have HCb14 := Lib.hid (HCb13.out.kept hg (fun e => HNba.out (Option.some.inj e)))
  clear HE13 HG13 hg HCa13 HCb13
  have HCa14 := Lib.hid hc
  clear hc
  go_wp2_with fail
  refine (seek_any bb s ((((q) + 1)) + 1) w14 q HCb14.out).mono ?_
  rintro e w15 ⟨rfl, hc, hg⟩
  rw [skE_ok hqs]
  rw [skP_ok hqs] at hc
  have HE15 := Lib.hid (HE14.out.kept hg (Cur.ne HCb14.out HE14.out))
  have HG15 := Lib.hid (gstepb HG14.out hg HLb.out)
  have HCa15 := Lib.hid (HCa14.out.kept hg (fun e => HNab.out (Option.some.inj e)))
  clear HE14 HG14 hg HCa14 HCb14
  have HCb15 := Lib.hid hc
  clear hc
  go_wp2_with fail
  rw [show ((x : Int) + (y : Int)) = ((x + y : Nat) : Int) by omega]
  refine (T_any ba s (q) w15 (((x + y) : Nat) : Int) HCa15.out HE15.out (by omega) (by unfold maxLen; omega)).mono ?_
  rintro e w16 ⟨rfl, hc, hg⟩
  rw [tkS_ok (show (q) + (x + y) ≤ s.size by omega), tkE_ok (show (q) + (x + y) ≤ s.size by omega)]
  rw [tkP_ok (show (q) + (x + y) ≤ s.size by omega)] at hc
  have HE16 := Lib.hid (HE15.out.kept hg (Cur.ne HCa15.out HE15.out))
  have HG16 := Lib.hid (gstepb HG15.out hg HLa.out)
  have HCb16 := Lib.hid (HCb15.out.kept hg (fun e => HNba.out (Option.some.inj e)))
  clear HE15 HG15 hg HCa15 HCb15
  have HCa16 := Lib.hid hc
  clear hc
  rw [show s.extract q (q + (x + y)) = s.extract q (q + x + y) by rw [Nat.add_assoc]]
  go_wp2_with fail
  refine (T_any bb s (q) w16 ((x : Nat) : Int) HCb16.out HE16.out (by omega) (by unfold maxLen; omega)).mono ?_
  rintro e w17 ⟨rfl, hc, hg⟩
  rw [tkS_ok (show (q) + x ≤ s.size by omega), tkE_ok (show (q) + x ≤ s.size by omega)]
  rw [tkP_ok (show (q) + x ≤ s.size by omega)] at hc
  have HE17 := Lib.hid (HE16.out.kept hg (Cur.ne HCb16.out HE16.out))
  have HG17 := Lib.hid (gstepb HG16.out hg HLb.out)
  have HCa17 := Lib.hid (HCa16.out.kept hg (fun e => HNab.out (Option.some.inj e)))
  clear HE16 HG16 hg HCa16 HCb16
  have HCb17 := Lib.hid hc
  clear hc
  go_wp2_with fail
  refine (T_any bb s (((q) + x)) w17 ((y : Nat) : Int) HCb17.out HE17.out (by omega) (by unfold maxLen; omega)).mono ?_
  rintro e w18 ⟨rfl, hc, hg⟩
  rw [tkS_ok (show (((q) + x)) + y ≤ s.size by omega), tkE_ok (show (((q) + x)) + y ≤ s.size by omega)]
  rw [tkP_ok (show (((q) + x)) + y ≤ s.size by omega)] at hc
  have HE18 := Lib.hid (HE17.out.kept hg (Cur.ne HCb17.out HE17.out))
  have HG18 := Lib.hid (gstepb HG17.out hg HLb.out)
  have HCa18 := Lib.hid (HCa17.out.kept hg (fun e => HNab.out (Option.some.inj e)))
  clear HE17 HG17 hg HCa17 HCb17
  have HCb18 := Lib.hid hc
  clear hc
  go_wp2_with fail
  go_ret
  exact ⟨rfl, HG18.out⟩


set_option maxRecDepth 100000 in
set_option maxHeartbeats 4000000 in
theorem parts_ab (s : ByteArray) (x1 x2 x3 : Int) (q x y : Nat) (w : World) (he : Et w) (hs : s.size ≤ 20000) (hqs : q ≤ s.size) (hx50 : x < 50) (hy50 : y < 50)
    (hq0 : wrap64 ((IntKind.u64.wrap x1).tmod ((s.size : Int) + 1)) = q) (hx0 : wrap64 ((IntKind.u64.wrap x2).tmod 50) = x) (hy0 : wrap64 ((IntKind.u64.wrap x3).tmod 50) = y) (h4 : q + 4 ≤ s.size) (ht1 : q + x ≤ s.size) (ht : s.size < q + (x + y)) :
    Calls Tryd.prog 3 #[.string s, .int .i64 x1, .int .i64 x2, .int .i64 x3] w fun e w' => e = .returned (.bool true) ∧ w.grownBy w' none := by
  have hb : decide ((20000 : Int) < (s.size : Int)) = false := by simp; omega
  have HQ := Lib.hid hq0
  have HX := Lib.hid hx0
  have HY := Lib.hid hy0
  clear hq0 hx0 hy0
  have hf4 := four_two s q h4
  have hf2 := two_one s q (by omega)
  go_enter Tryd.func3, Tryd.ntmps3
  have HE0 := Lib.hid he
  have HG0 := Lib.hid (grefl w none)
  clear he
  go_wp2_with fail
  refine (awake_any w HE0.out).mono ?_
  rintro e w1 ⟨rfl, hg⟩
  have HE1 := Lib.hid (HE0.out.kept hg (by simp))
  have HG1 := Lib.hid (gtrans HG0.out hg)
  clear HE0 HG0 hg 
  go_wp2_with fail
  rw [HQ.out]
  refine (new_ex s w1).mono ?_
  rintro e w2 ⟨ba, rfl, hl, hc, hg⟩
  have HE2 := Lib.hid (HE1.out.kept hg (by simp))
  have HG2 := Lib.hid (gtrans HG1.out hg)
  have HLa := Lib.hid (Nat.le_trans HG1.out.size hl)
  clear HE1 HG1 hg 
  clear hl
  have HCa2 := Lib.hid hc
  clear hc
  go_wp2_with fail
  refine (new_ex s w2).mono ?_
  rintro e w3 ⟨bb, rfl, hl, hc, hg⟩
  have HE3 := Lib.hid (HE2.out.kept hg (by simp))
  have HG3 := Lib.hid (gtrans HG2.out hg)
  have HCa3 := Lib.hid (HCa2.out.kept hg (by simp))
  have HLb := Lib.hid (Nat.le_trans HG2.out.size hl)
  have HNab := Lib.hid (cur_ne HCa2.out hl)
  have HNba := Lib.hid (Ne.symm HNab.out)
  clear HE2 HG2 hg HCa2
  clear hl
  have HCb3 := Lib.hid hc
  clear hc
  go_wp2_with fail
  refine (seek_any ba s 0 w3 q HCa3.out).mono ?_
  rintro e w4 ⟨rfl, hc, hg⟩
  rw [skE_ok hqs]
  rw [skP_ok hqs] at hc
  have HE4 := Lib.hid (HE3.out.kept hg (Cur.ne HCa3.out HE3.out))
  have HG4 := Lib.hid (gstepb HG3.out hg HLa.out)
  have HCb4 := Lib.hid (HCb3.out.kept hg (fun e => HNba.out (Option.some.inj e)))
  clear HE3 HG3 hg HCa3 HCb3
  have HCa4 := Lib.hid hc
  clear hc
  go_wp2_with fail
  refine (seek_any bb s 0 w4 q HCb4.out).mono ?_
  rintro e w5 ⟨rfl, hc, hg⟩
  rw [skE_ok hqs]
  rw [skP_ok hqs] at hc
  have HE5 := Lib.hid (HE4.out.kept hg (Cur.ne HCb4.out HE4.out))
  have HG5 := Lib.hid (gstepb HG4.out hg HLb.out)
  have HCa5 := Lib.hid (HCa4.out.kept hg (fun e => HNab.out (Option.some.inj e)))
  clear HE4 HG4 hg HCa4 HCb4
  have HCb5 := Lib.hid hc
  clear hc
  go_wp2_with fail
  refine (four_any ba s (q) w5  HCa5.out HE5.out (by omega) (by unfold maxLen; omega)).mono ?_
  rintro e w6 ⟨rfl, hc, hg⟩
  rw [rdV_ok (show (q) + 4 ≤ s.size by omega), rdE_ok (show (q) + 4 ≤ s.size by omega)]
  rw [rdP_ok (show (q) + 4 ≤ s.size by omega)] at hc
  have HE6 := Lib.hid (HE5.out.kept hg (Cur.ne HCa5.out HE5.out))
  have HG6 := Lib.hid (gstepb HG5.out hg HLa.out)
  have HCb6 := Lib.hid (HCb5.out.kept hg (fun e => HNba.out (Option.some.inj e)))
  clear HE5 HG5 hg HCa5 HCb5
  have HCa6 := Lib.hid hc
  clear hc
  go_wp2_with fail
  refine (two_any bb s (q) w6  HCb6.out HE6.out (by omega) (by unfold maxLen; omega)).mono ?_
  rintro e w7 ⟨rfl, hc, hg⟩
  rw [rdV_ok (show (q) + 2 ≤ s.size by omega), rdE_ok (show (q) + 2 ≤ s.size by omega)]
  rw [rdP_ok (show (q) + 2 ≤ s.size by omega)] at hc
  have HE7 := Lib.hid (HE6.out.kept hg (Cur.ne HCb6.out HE6.out))
  have HG7 := Lib.hid (gstepb HG6.out hg HLb.out)
  have HCa7 := Lib.hid (HCa6.out.kept hg (fun e => HNab.out (Option.some.inj e)))
  clear HE6 HG6 hg HCa6 HCb6
  have HCb7 := Lib.hid hc
  clear hc
  go_wp2_with fail
  refine (two_any bb s (((q) + 2)) w7  HCb7.out HE7.out (by omega) (by unfold maxLen; omega)).mono ?_
  rintro e w8 ⟨rfl, hc, hg⟩
  rw [rdV_ok (show (((q) + 2)) + 2 ≤ s.size by omega), rdE_ok (show (((q) + 2)) + 2 ≤ s.size by omega)]
  rw [rdP_ok (show (((q) + 2)) + 2 ≤ s.size by omega)] at hc
  have HE8 := Lib.hid (HE7.out.kept hg (Cur.ne HCb7.out HE7.out))
  have HG8 := Lib.hid (gstepb HG7.out hg HLb.out)
  have HCa8 := Lib.hid (HCa7.out.kept hg (fun e => HNab.out (Option.some.inj e)))
  clear HE7 HG7 hg HCa7 HCb7
  have HCb8 := Lib.hid hc
  clear hc
  go_wp2_with fail
  refine (seek_any ba s ((q) + 4) w8 q HCa8.out).mono ?_
  rintro e w9 ⟨rfl, hc, hg⟩
  rw [skE_ok hqs]
  rw [skP_ok hqs] at hc
  have HE9 := Lib.hid (HE8.out.kept hg (Cur.ne HCa8.out HE8.out))
  have HG9 := Lib.hid (gstepb HG8.out hg HLa.out)
  have HCb9 := Lib.hid (HCb8.out.kept hg (fun e => HNba.out (Option.some.inj e)))
  clear HE8 HG8 hg HCa8 HCb8
  have HCa9 := Lib.hid hc
  clear hc
  go_wp2_with fail
  refine (seek_any bb s ((((q) + 2)) + 2) w9 q HCb9.out).mono ?_
  rintro e w10 ⟨rfl, hc, hg⟩
  rw [skE_ok hqs]
  rw [skP_ok hqs] at hc
  have HE10 := Lib.hid (HE9.out.kept hg (Cur.ne HCb9.out HE9.out))
  have HG10 := Lib.hid (gstepb HG9.out hg HLb.out)
  have HCa10 := Lib.hid (HCa9.out.kept hg (fun e => HNab.out (Option.some.inj e)))
  clear HE9 HG9 hg HCa9 HCb9
  have HCb10 := Lib.hid hc
  clear hc
  go_wp2_with fail
  refine (two_any ba s (q) w10  HCa10.out HE10.out (by omega) (by unfold maxLen; omega)).mono ?_
  rintro e w11 ⟨rfl, hc, hg⟩
  rw [rdV_ok (show (q) + 2 ≤ s.size by omega), rdE_ok (show (q) + 2 ≤ s.size by omega)]
  rw [rdP_ok (show (q) + 2 ≤ s.size by omega)] at hc
  have HE11 := Lib.hid (HE10.out.kept hg (Cur.ne HCa10.out HE10.out))
  have HG11 := Lib.hid (gstepb HG10.out hg HLa.out)
  have HCb11 := Lib.hid (HCb10.out.kept hg (fun e => HNba.out (Option.some.inj e)))
  clear HE10 HG10 hg HCa10 HCb10
  have HCa11 := Lib.hid hc
  clear hc
  go_wp2_with fail
  refine (byte_any bb s (q) w11  HCb11.out HE11.out (by omega) (by unfold maxLen; omega)).mono ?_
  rintro e w12 ⟨rfl, hc, hg⟩
  rw [rdV_ok (show (q) + 1 ≤ s.size by omega), rdE_ok (show (q) + 1 ≤ s.size by omega)]
  rw [rdP_ok (show (q) + 1 ≤ s.size by omega)] at hc
  have HE12 := Lib.hid (HE11.out.kept hg (Cur.ne HCb11.out HE11.out))
  have HG12 := Lib.hid (gstepb HG11.out hg HLb.out)
  have HCa12 := Lib.hid (HCa11.out.kept hg (fun e => HNab.out (Option.some.inj e)))
  clear HE11 HG11 hg HCa11 HCb11
  have HCb12 := Lib.hid hc
  clear hc
  go_wp2_with fail
  refine (byte_any bb s (((q) + 1)) w12  HCb12.out HE12.out (by omega) (by unfold maxLen; omega)).mono ?_
  rintro e w13 ⟨rfl, hc, hg⟩
  rw [rdV_ok (show (((q) + 1)) + 1 ≤ s.size by omega), rdE_ok (show (((q) + 1)) + 1 ≤ s.size by omega)]
  rw [rdP_ok (show (((q) + 1)) + 1 ≤ s.size by omega)] at hc
  have HE13 := Lib.hid (HE12.out.kept hg (Cur.ne HCb12.out HE12.out))
  have HG13 := Lib.hid (gstepb HG12.out hg HLb.out)
  have HCa13 := Lib.hid (HCa12.out.kept hg (fun e => HNab.out (Option.some.inj e)))
  clear HE12 HG12 hg HCa12 HCb12
  have HCb13 := Lib.hid hc
  clear hc
  go_wp2_with fail
  rw [HX.out, HY.out]
  refine (seek_any ba s ((q) + 2) w13 q HCa13.out).mono ?_
  rintro e w14 ⟨rfl, hc, hg⟩
  rw [skE_ok hqs]
  rw [skP_ok hqs] at hc
  have HE14 := Lib.hid (HE13.out.kept hg (Cur.ne HCa13.out HE13.out))
  have HG14 := Lib.hid (gstepb HG13.out hg HLa.out)
  have HCb14 := Lib.hid (HCb13.out.kept hg (fun e => HNba.out (Option.some.inj e)))
  clear HE13 HG13 hg HCa13 HCb13
  have HCa14 := Lib.hid hc
  clear hc
  go_wp2_with fail
  refine (seek_any bb s ((((q) + 1)) + 1) w14 q HCb14.out).mono ?_
  rintro e w15 ⟨rfl, hc, hg⟩
  rw [skE_ok hqs]
  rw [skP_ok hqs] at hc
  have HE15 := Lib.hid (HE14.out.kept hg (Cur.ne HCb14.out HE14.out))
  have HG15 := Lib.hid (gstepb HG14.out hg HLb.out)
  have HCa15 := Lib.hid (HCa14.out.kept hg (fun e => HNab.out (Option.some.inj e)))
  clear HE14 HG14 hg HCa14 HCb14
  have HCb15 := Lib.hid hc
  clear hc
  go_wp2_with fail
  rw [show ((x : Int) + (y : Int)) = ((x + y : Nat) : Int) by omega]
  refine (T_any ba s (q) w15 (((x + y) : Nat) : Int) HCa15.out HE15.out (by omega) (by unfold maxLen; omega)).mono ?_
  rintro e w16 ⟨rfl, hc, hg⟩
  rw [tkS_no (show s.size < (q) + (x + y) by omega), tkE_no (show s.size < (q) + (x + y) by omega)]
  rw [tkP_no (show s.size < (q) + (x + y) by omega)] at hc
  have HE16 := Lib.hid (HE15.out.kept hg (Cur.ne HCa15.out HE15.out))
  have HG16 := Lib.hid (gstepb HG15.out hg HLa.out)
  have HCb16 := Lib.hid (HCb15.out.kept hg (fun e => HNba.out (Option.some.inj e)))
  clear HE15 HG15 hg HCa15 HCb15
  have HCa16 := Lib.hid hc
  clear hc
  go_wp2_with fail
  refine (T_any bb s (q) w16 ((x : Nat) : Int) HCb16.out HE16.out (by omega) (by unfold maxLen; omega)).mono ?_
  rintro e w17 ⟨rfl, hc, hg⟩
  rw [tkS_ok (show (q) + x ≤ s.size by omega), tkE_ok (show (q) + x ≤ s.size by omega)]
  rw [tkP_ok (show (q) + x ≤ s.size by omega)] at hc
  have HE17 := Lib.hid (HE16.out.kept hg (Cur.ne HCb16.out HE16.out))
  have HG17 := Lib.hid (gstepb HG16.out hg HLb.out)
  have HCa17 := Lib.hid (HCa16.out.kept hg (fun e => HNab.out (Option.some.inj e)))
  clear HE16 HG16 hg HCa16 HCb16
  have HCb17 := Lib.hid hc
  clear hc
  go_wp2_with fail
  refine (T_any bb s (((q) + x)) w17 ((y : Nat) : Int) HCb17.out HE17.out (by omega) (by unfold maxLen; omega)).mono ?_
  rintro e w18 ⟨rfl, hc, hg⟩
  rw [tkS_no (show s.size < (((q) + x)) + y by omega), tkE_no (show s.size < (((q) + x)) + y by omega)]
  rw [tkP_no (show s.size < (((q) + x)) + y by omega)] at hc
  have HE18 := Lib.hid (HE17.out.kept hg (Cur.ne HCb17.out HE17.out))
  have HG18 := Lib.hid (gstepb HG17.out hg HLb.out)
  have HCa18 := Lib.hid (HCa17.out.kept hg (fun e => HNab.out (Option.some.inj e)))
  clear HE17 HG17 hg HCa17 HCb17
  have HCb18 := Lib.hid hc
  clear hc
  go_wp2_with fail
  go_ret
  exact ⟨rfl, HG18.out⟩


set_option maxRecDepth 100000 in
set_option maxHeartbeats 4000000 in
theorem parts_ac (s : ByteArray) (x1 x2 x3 : Int) (q x y : Nat) (w : World) (he : Et w) (hs : s.size ≤ 20000) (hqs : q ≤ s.size) (hx50 : x < 50) (hy50 : y < 50)
    (hq0 : wrap64 ((IntKind.u64.wrap x1).tmod ((s.size : Int) + 1)) = q) (hx0 : wrap64 ((IntKind.u64.wrap x2).tmod 50) = x) (hy0 : wrap64 ((IntKind.u64.wrap x3).tmod 50) = y) (h4 : q + 4 ≤ s.size) (ht : s.size < q + x) :
    Calls Tryd.prog 3 #[.string s, .int .i64 x1, .int .i64 x2, .int .i64 x3] w fun e w' => e = .returned (.bool true) ∧ w.grownBy w' none := by
  have hb : decide ((20000 : Int) < (s.size : Int)) = false := by simp; omega
  have HQ := Lib.hid hq0
  have HX := Lib.hid hx0
  have HY := Lib.hid hy0
  clear hq0 hx0 hy0
  have hf4 := four_two s q h4
  have hf2 := two_one s q (by omega)
  go_enter Tryd.func3, Tryd.ntmps3
  have HE0 := Lib.hid he
  have HG0 := Lib.hid (grefl w none)
  clear he
  go_wp2_with fail
  refine (awake_any w HE0.out).mono ?_
  rintro e w1 ⟨rfl, hg⟩
  have HE1 := Lib.hid (HE0.out.kept hg (by simp))
  have HG1 := Lib.hid (gtrans HG0.out hg)
  clear HE0 HG0 hg 
  go_wp2_with fail
  rw [HQ.out]
  refine (new_ex s w1).mono ?_
  rintro e w2 ⟨ba, rfl, hl, hc, hg⟩
  have HE2 := Lib.hid (HE1.out.kept hg (by simp))
  have HG2 := Lib.hid (gtrans HG1.out hg)
  have HLa := Lib.hid (Nat.le_trans HG1.out.size hl)
  clear HE1 HG1 hg 
  clear hl
  have HCa2 := Lib.hid hc
  clear hc
  go_wp2_with fail
  refine (new_ex s w2).mono ?_
  rintro e w3 ⟨bb, rfl, hl, hc, hg⟩
  have HE3 := Lib.hid (HE2.out.kept hg (by simp))
  have HG3 := Lib.hid (gtrans HG2.out hg)
  have HCa3 := Lib.hid (HCa2.out.kept hg (by simp))
  have HLb := Lib.hid (Nat.le_trans HG2.out.size hl)
  have HNab := Lib.hid (cur_ne HCa2.out hl)
  have HNba := Lib.hid (Ne.symm HNab.out)
  clear HE2 HG2 hg HCa2
  clear hl
  have HCb3 := Lib.hid hc
  clear hc
  go_wp2_with fail
  refine (seek_any ba s 0 w3 q HCa3.out).mono ?_
  rintro e w4 ⟨rfl, hc, hg⟩
  rw [skE_ok hqs]
  rw [skP_ok hqs] at hc
  have HE4 := Lib.hid (HE3.out.kept hg (Cur.ne HCa3.out HE3.out))
  have HG4 := Lib.hid (gstepb HG3.out hg HLa.out)
  have HCb4 := Lib.hid (HCb3.out.kept hg (fun e => HNba.out (Option.some.inj e)))
  clear HE3 HG3 hg HCa3 HCb3
  have HCa4 := Lib.hid hc
  clear hc
  go_wp2_with fail
  refine (seek_any bb s 0 w4 q HCb4.out).mono ?_
  rintro e w5 ⟨rfl, hc, hg⟩
  rw [skE_ok hqs]
  rw [skP_ok hqs] at hc
  have HE5 := Lib.hid (HE4.out.kept hg (Cur.ne HCb4.out HE4.out))
  have HG5 := Lib.hid (gstepb HG4.out hg HLb.out)
  have HCa5 := Lib.hid (HCa4.out.kept hg (fun e => HNab.out (Option.some.inj e)))
  clear HE4 HG4 hg HCa4 HCb4
  have HCb5 := Lib.hid hc
  clear hc
  go_wp2_with fail
  refine (four_any ba s (q) w5  HCa5.out HE5.out (by omega) (by unfold maxLen; omega)).mono ?_
  rintro e w6 ⟨rfl, hc, hg⟩
  rw [rdV_ok (show (q) + 4 ≤ s.size by omega), rdE_ok (show (q) + 4 ≤ s.size by omega)]
  rw [rdP_ok (show (q) + 4 ≤ s.size by omega)] at hc
  have HE6 := Lib.hid (HE5.out.kept hg (Cur.ne HCa5.out HE5.out))
  have HG6 := Lib.hid (gstepb HG5.out hg HLa.out)
  have HCb6 := Lib.hid (HCb5.out.kept hg (fun e => HNba.out (Option.some.inj e)))
  clear HE5 HG5 hg HCa5 HCb5
  have HCa6 := Lib.hid hc
  clear hc
  go_wp2_with fail
  refine (two_any bb s (q) w6  HCb6.out HE6.out (by omega) (by unfold maxLen; omega)).mono ?_
  rintro e w7 ⟨rfl, hc, hg⟩
  rw [rdV_ok (show (q) + 2 ≤ s.size by omega), rdE_ok (show (q) + 2 ≤ s.size by omega)]
  rw [rdP_ok (show (q) + 2 ≤ s.size by omega)] at hc
  have HE7 := Lib.hid (HE6.out.kept hg (Cur.ne HCb6.out HE6.out))
  have HG7 := Lib.hid (gstepb HG6.out hg HLb.out)
  have HCa7 := Lib.hid (HCa6.out.kept hg (fun e => HNab.out (Option.some.inj e)))
  clear HE6 HG6 hg HCa6 HCb6
  have HCb7 := Lib.hid hc
  clear hc
  go_wp2_with fail
  refine (two_any bb s (((q) + 2)) w7  HCb7.out HE7.out (by omega) (by unfold maxLen; omega)).mono ?_
  rintro e w8 ⟨rfl, hc, hg⟩
  rw [rdV_ok (show (((q) + 2)) + 2 ≤ s.size by omega), rdE_ok (show (((q) + 2)) + 2 ≤ s.size by omega)]
  rw [rdP_ok (show (((q) + 2)) + 2 ≤ s.size by omega)] at hc
  have HE8 := Lib.hid (HE7.out.kept hg (Cur.ne HCb7.out HE7.out))
  have HG8 := Lib.hid (gstepb HG7.out hg HLb.out)
  have HCa8 := Lib.hid (HCa7.out.kept hg (fun e => HNab.out (Option.some.inj e)))
  clear HE7 HG7 hg HCa7 HCb7
  have HCb8 := Lib.hid hc
  clear hc
  go_wp2_with fail
  refine (seek_any ba s ((q) + 4) w8 q HCa8.out).mono ?_
  rintro e w9 ⟨rfl, hc, hg⟩
  rw [skE_ok hqs]
  rw [skP_ok hqs] at hc
  have HE9 := Lib.hid (HE8.out.kept hg (Cur.ne HCa8.out HE8.out))
  have HG9 := Lib.hid (gstepb HG8.out hg HLa.out)
  have HCb9 := Lib.hid (HCb8.out.kept hg (fun e => HNba.out (Option.some.inj e)))
  clear HE8 HG8 hg HCa8 HCb8
  have HCa9 := Lib.hid hc
  clear hc
  go_wp2_with fail
  refine (seek_any bb s ((((q) + 2)) + 2) w9 q HCb9.out).mono ?_
  rintro e w10 ⟨rfl, hc, hg⟩
  rw [skE_ok hqs]
  rw [skP_ok hqs] at hc
  have HE10 := Lib.hid (HE9.out.kept hg (Cur.ne HCb9.out HE9.out))
  have HG10 := Lib.hid (gstepb HG9.out hg HLb.out)
  have HCa10 := Lib.hid (HCa9.out.kept hg (fun e => HNab.out (Option.some.inj e)))
  clear HE9 HG9 hg HCa9 HCb9
  have HCb10 := Lib.hid hc
  clear hc
  go_wp2_with fail
  refine (two_any ba s (q) w10  HCa10.out HE10.out (by omega) (by unfold maxLen; omega)).mono ?_
  rintro e w11 ⟨rfl, hc, hg⟩
  rw [rdV_ok (show (q) + 2 ≤ s.size by omega), rdE_ok (show (q) + 2 ≤ s.size by omega)]
  rw [rdP_ok (show (q) + 2 ≤ s.size by omega)] at hc
  have HE11 := Lib.hid (HE10.out.kept hg (Cur.ne HCa10.out HE10.out))
  have HG11 := Lib.hid (gstepb HG10.out hg HLa.out)
  have HCb11 := Lib.hid (HCb10.out.kept hg (fun e => HNba.out (Option.some.inj e)))
  clear HE10 HG10 hg HCa10 HCb10
  have HCa11 := Lib.hid hc
  clear hc
  go_wp2_with fail
  refine (byte_any bb s (q) w11  HCb11.out HE11.out (by omega) (by unfold maxLen; omega)).mono ?_
  rintro e w12 ⟨rfl, hc, hg⟩
  rw [rdV_ok (show (q) + 1 ≤ s.size by omega), rdE_ok (show (q) + 1 ≤ s.size by omega)]
  rw [rdP_ok (show (q) + 1 ≤ s.size by omega)] at hc
  have HE12 := Lib.hid (HE11.out.kept hg (Cur.ne HCb11.out HE11.out))
  have HG12 := Lib.hid (gstepb HG11.out hg HLb.out)
  have HCa12 := Lib.hid (HCa11.out.kept hg (fun e => HNab.out (Option.some.inj e)))
  clear HE11 HG11 hg HCa11 HCb11
  have HCb12 := Lib.hid hc
  clear hc
  go_wp2_with fail
  refine (byte_any bb s (((q) + 1)) w12  HCb12.out HE12.out (by omega) (by unfold maxLen; omega)).mono ?_
  rintro e w13 ⟨rfl, hc, hg⟩
  rw [rdV_ok (show (((q) + 1)) + 1 ≤ s.size by omega), rdE_ok (show (((q) + 1)) + 1 ≤ s.size by omega)]
  rw [rdP_ok (show (((q) + 1)) + 1 ≤ s.size by omega)] at hc
  have HE13 := Lib.hid (HE12.out.kept hg (Cur.ne HCb12.out HE12.out))
  have HG13 := Lib.hid (gstepb HG12.out hg HLb.out)
  have HCa13 := Lib.hid (HCa12.out.kept hg (fun e => HNab.out (Option.some.inj e)))
  clear HE12 HG12 hg HCa12 HCb12
  have HCb13 := Lib.hid hc
  clear hc
  go_wp2_with fail
  rw [HX.out, HY.out]
  refine (seek_any ba s ((q) + 2) w13 q HCa13.out).mono ?_
  rintro e w14 ⟨rfl, hc, hg⟩
  rw [skE_ok hqs]
  rw [skP_ok hqs] at hc
  have HE14 := Lib.hid (HE13.out.kept hg (Cur.ne HCa13.out HE13.out))
  have HG14 := Lib.hid (gstepb HG13.out hg HLa.out)
  have HCb14 := Lib.hid (HCb13.out.kept hg (fun e => HNba.out (Option.some.inj e)))
  clear HE13 HG13 hg HCa13 HCb13
  have HCa14 := Lib.hid hc
  clear hc
  go_wp2_with fail
  refine (seek_any bb s ((((q) + 1)) + 1) w14 q HCb14.out).mono ?_
  rintro e w15 ⟨rfl, hc, hg⟩
  rw [skE_ok hqs]
  rw [skP_ok hqs] at hc
  have HE15 := Lib.hid (HE14.out.kept hg (Cur.ne HCb14.out HE14.out))
  have HG15 := Lib.hid (gstepb HG14.out hg HLb.out)
  have HCa15 := Lib.hid (HCa14.out.kept hg (fun e => HNab.out (Option.some.inj e)))
  clear HE14 HG14 hg HCa14 HCb14
  have HCb15 := Lib.hid hc
  clear hc
  go_wp2_with fail
  rw [show ((x : Int) + (y : Int)) = ((x + y : Nat) : Int) by omega]
  refine (T_any ba s (q) w15 (((x + y) : Nat) : Int) HCa15.out HE15.out (by omega) (by unfold maxLen; omega)).mono ?_
  rintro e w16 ⟨rfl, hc, hg⟩
  rw [tkS_no (show s.size < (q) + (x + y) by omega), tkE_no (show s.size < (q) + (x + y) by omega)]
  rw [tkP_no (show s.size < (q) + (x + y) by omega)] at hc
  have HE16 := Lib.hid (HE15.out.kept hg (Cur.ne HCa15.out HE15.out))
  have HG16 := Lib.hid (gstepb HG15.out hg HLa.out)
  have HCb16 := Lib.hid (HCb15.out.kept hg (fun e => HNba.out (Option.some.inj e)))
  clear HE15 HG15 hg HCa15 HCb15
  have HCa16 := Lib.hid hc
  clear hc
  go_wp2_with fail
  refine (T_any bb s (q) w16 ((x : Nat) : Int) HCb16.out HE16.out (by omega) (by unfold maxLen; omega)).mono ?_
  rintro e w17 ⟨rfl, hc, hg⟩
  rw [tkS_no (show s.size < (q) + x by omega), tkE_no (show s.size < (q) + x by omega)]
  rw [tkP_no (show s.size < (q) + x by omega)] at hc
  have HE17 := Lib.hid (HE16.out.kept hg (Cur.ne HCb16.out HE16.out))
  have HG17 := Lib.hid (gstepb HG16.out hg HLb.out)
  have HCa17 := Lib.hid (HCa16.out.kept hg (fun e => HNab.out (Option.some.inj e)))
  clear HE16 HG16 hg HCa16 HCb16
  have HCb17 := Lib.hid hc
  clear hc
  go_wp2_with fail
  refine (T_any bb s ((q)) w17 ((y : Nat) : Int) HCb17.out HE17.out (by omega) (by unfold maxLen; omega)).mono ?_
  rintro e w18 ⟨rfl, hc, hg⟩
  have HE18 := Lib.hid (HE17.out.kept hg (Cur.ne HCb17.out HE17.out))
  have HG18 := Lib.hid (gstepb HG17.out hg HLb.out)
  have HCa18 := Lib.hid (HCa17.out.kept hg (fun e => HNab.out (Option.some.inj e)))
  clear HE17 HG17 hg HCa17 HCb17
  have HCb18 := Lib.hid hc
  clear hc
  go_wp2_with fail
  go_ret
  exact ⟨rfl, HG18.out⟩

end Go.Proofs.YtndkgogohlikiaaDoor
