/-
  hustingslaw02.CursorNames is true: its walk. Conditions: the package-level variable errors.errorType is as the program's text lays it.
-/
import Derived.Test.YtndkgogohlikiaaDoorAwake02
import Derived.Lib.SlBytesConst
namespace Go.Proofs.YtndkgogohlikiaaDoor
open Go.RowKit
def s7 : ByteArray := ⟨#[255, 255, 255, 255, 255, 255, 255]⟩
theorem s7_size : s7.size ≤ maxLen := by decide
def s0 : ByteArray := ⟨#[]⟩
theorem s0_size : s0.size ≤ maxLen := by decide
set_option maxRecDepth 100000 in
set_option maxHeartbeats 4000000 in
theorem names_walk (w : World) (he : Et w) : Calls Tryd.prog 8 #[] w fun e w' => e = .returned (.bool true) ∧ w.grownBy w' none := by
  have kc := fun (w : World) (C : Array Value) (n c : Nat) => Lib.run_convert_bytes_const (P := Tryd.prog) w 39 5 C n c Tryd.underlying39 Tryd.underlying5
  go_enter Tryd.func8, Tryd.ntmps8
  have HE0 := Lib.hid he
  have HG0 := Lib.hid (grefl w none)
  clear he
  go_wp2_with fail
  refine (awake_any w HE0.out).mono ?_
  rintro e w1 ⟨rfl, hg⟩
  have HE1 := Lib.hid (HE0.out.kept hg (by simp))
  have HG1 := Lib.hid (gtrans HG0.out hg)
  clear HE0 HG0 hg 
  go_wp2_with fail
  refine (new_ex s7 w1).mono ?_
  rintro e w2 ⟨ba, rfl, hl, hc, hg⟩
  have HE2 := Lib.hid (HE1.out.kept hg (by simp))
  have HG2 := Lib.hid (gtrans HG1.out hg)
  have HLa := Lib.hid (Nat.le_trans HG1.out.size hl)
  clear HE1 HG1 hg 
  clear hl
  have HCa2 := Lib.hid hc
  clear hc
  go_wp2_with fail
  refine (four_any ba s7 0 w2  HCa2.out HE2.out (by decide) s7_size).mono ?_
  rintro e w3 ⟨rfl, hc, hg⟩
  rw [show rdV s7 0 4 = 4294967295 from by decide, show rdE s7 0 4 = 0 from by decide]
  rw [show rdP s7 0 4 = 4 from by decide] at hc
  have HE3 := Lib.hid (HE2.out.kept hg (Cur.ne HCa2.out HE2.out))
  have HG3 := Lib.hid (gstepb HG2.out hg HLa.out)
  clear HE2 HG2 hg HCa2
  have HCa3 := Lib.hid hc
  clear hc
  go_wp2_with fail
  refine (two_any ba s7 4 w3  HCa3.out HE3.out (by decide) s7_size).mono ?_
  rintro e w4 ⟨rfl, hc, hg⟩
  rw [show rdV s7 4 2 = 65535 from by decide, show rdE s7 4 2 = 0 from by decide]
  rw [show rdP s7 4 2 = 6 from by decide] at hc
  have HE4 := Lib.hid (HE3.out.kept hg (Cur.ne HCa3.out HE3.out))
  have HG4 := Lib.hid (gstepb HG3.out hg HLa.out)
  clear HE3 HG3 hg HCa3
  have HCa4 := Lib.hid hc
  clear hc
  go_wp2_with fail
  refine (byte_any ba s7 6 w4  HCa4.out HE4.out (by decide) s7_size).mono ?_
  rintro e w5 ⟨rfl, hc, hg⟩
  rw [show rdV s7 6 1 = 255 from by decide, show rdE s7 6 1 = 0 from by decide]
  rw [show rdP s7 6 1 = 7 from by decide] at hc
  have HE5 := Lib.hid (HE4.out.kept hg (Cur.ne HCa4.out HE4.out))
  have HG5 := Lib.hid (gstepb HG4.out hg HLa.out)
  clear HE4 HG4 hg HCa4
  have HCa5 := Lib.hid hc
  clear hc
  go_wp2_with fail
  refine (T_any ba s7 7 w5 (0) HCa5.out HE5.out (by decide) s7_size).mono ?_
  rintro e w6 ⟨rfl, hc, hg⟩
  rw [show tkS s7 7 (0) = ByteArray.empty from by decide, show tkE s7 7 (0) = 0 from by decide]
  rw [show tkP s7 7 (0) = 7 from by decide] at hc
  have HE6 := Lib.hid (HE5.out.kept hg (Cur.ne HCa5.out HE5.out))
  have HG6 := Lib.hid (gstepb HG5.out hg HLa.out)
  clear HE5 HG5 hg HCa5
  have HCa6 := Lib.hid hc
  clear hc
  go_wp2_with fail
  refine (T_any ba s7 7 w6 (1) HCa6.out HE6.out (by decide) s7_size).mono ?_
  rintro e w7 ⟨rfl, hc, hg⟩
  rw [show tkS s7 7 (1) = ByteArray.empty from by decide, show tkE s7 7 (1) = 4 from by decide]
  rw [show tkP s7 7 (1) = 7 from by decide] at hc
  have HE7 := Lib.hid (HE6.out.kept hg (Cur.ne HCa6.out HE6.out))
  have HG7 := Lib.hid (gstepb HG6.out hg HLa.out)
  clear HE6 HG6 hg HCa6
  have HCa7 := Lib.hid hc
  clear hc
  go_wp2_with fail
  refine (T_any ba s7 7 w7 (-1) HCa7.out HE7.out (by decide) s7_size).mono ?_
  rintro e w8 ⟨rfl, hc, hg⟩
  rw [show tkS s7 7 (-1) = ByteArray.empty from by decide, show tkE s7 7 (-1) = 1 from by decide]
  rw [show tkP s7 7 (-1) = 7 from by decide] at hc
  have HE8 := Lib.hid (HE7.out.kept hg (Cur.ne HCa7.out HE7.out))
  have HG8 := Lib.hid (gstepb HG7.out hg HLa.out)
  clear HE7 HG7 hg HCa7
  have HCa8 := Lib.hid hc
  clear hc
  go_wp2_with fail
  refine (T_any ba s7 7 w8 (9223372036854775807) HCa8.out HE8.out (by decide) s7_size).mono ?_
  rintro e w9 ⟨rfl, hc, hg⟩
  rw [show tkS s7 7 (9223372036854775807) = ByteArray.empty from by decide, show tkE s7 7 (9223372036854775807) = 4 from by decide]
  rw [show tkP s7 7 (9223372036854775807) = 7 from by decide] at hc
  have HE9 := Lib.hid (HE8.out.kept hg (Cur.ne HCa8.out HE8.out))
  have HG9 := Lib.hid (gstepb HG8.out hg HLa.out)
  clear HE8 HG8 hg HCa8
  have HCa9 := Lib.hid hc
  clear hc
  go_wp2_with fail
  refine (at_any ba s7 7 w9 HCa9.out).mono ?_
  rintro e w' ⟨rfl, rfl⟩
  go_wp2_with fail
  refine (left_any ba s7 7 w9 HCa9.out (by decide) s7_size).mono ?_
  rintro e w10 ⟨rfl, hg⟩
  rw [show ((s7.size : Int) - (7 : Nat)) = 0 from by decide]
  have HE10 := Lib.hid (HE9.out.kept hg (by simp))
  have HG10 := Lib.hid (gtrans HG9.out hg)
  have HCa10 := Lib.hid (HCa9.out.kept hg (by simp))
  clear HE9 HG9 hg HCa9
  go_wp2_with fail
  refine (seek_any ba s7 7 w10 (-1) HCa10.out).mono ?_
  rintro e w11 ⟨rfl, hc, hg⟩
  rw [show skE s7 (-1) = 1 from by decide]
  rw [show skP s7 7 (-1) = 7 from by decide] at hc
  have HE11 := Lib.hid (HE10.out.kept hg (Cur.ne HCa10.out HE10.out))
  have HG11 := Lib.hid (gstepb HG10.out hg HLa.out)
  clear HE10 HG10 hg HCa10
  have HCa11 := Lib.hid hc
  clear hc
  go_wp2_with fail
  refine (seek_any ba s7 7 w11 (0) HCa11.out).mono ?_
  rintro e w12 ⟨rfl, hc, hg⟩
  rw [show skE s7 (0) = 0 from by decide]
  rw [show skP s7 7 (0) = 0 from by decide] at hc
  have HE12 := Lib.hid (HE11.out.kept hg (Cur.ne HCa11.out HE11.out))
  have HG12 := Lib.hid (gstepb HG11.out hg HLa.out)
  clear HE11 HG11 hg HCa11
  have HCa12 := Lib.hid hc
  clear hc
  go_wp2_with fail
  refine (at_any ba s7 0 w12 HCa12.out).mono ?_
  rintro e w' ⟨rfl, rfl⟩
  go_wp2_with fail
  refine (left_any ba s7 0 w12 HCa12.out (by decide) s7_size).mono ?_
  rintro e w13 ⟨rfl, hg⟩
  rw [show ((s7.size : Int) - (0 : Nat)) = 7 from by decide]
  have HE13 := Lib.hid (HE12.out.kept hg (by simp))
  have HG13 := Lib.hid (gtrans HG12.out hg)
  have HCa13 := Lib.hid (HCa12.out.kept hg (by simp))
  clear HE12 HG12 hg HCa12
  go_wp2_with fail
  refine (new_ex s0 w13).mono ?_
  rintro e w14 ⟨bb, rfl, hl, hc, hg⟩
  have HE14 := Lib.hid (HE13.out.kept hg (by simp))
  have HG14 := Lib.hid (gtrans HG13.out hg)
  have HCa14 := Lib.hid (HCa13.out.kept hg (by simp))
  have HLb := Lib.hid (Nat.le_trans HG13.out.size hl)
  have HNab := Lib.hid (cur_ne HCa13.out hl)
  have HNba := Lib.hid (Ne.symm HNab.out)
  clear HE13 HG13 hg HCa13
  clear hl
  have HCb14 := Lib.hid hc
  clear hc
  go_wp2_with fail
  refine (byte_any bb s0 0 w14  HCb14.out HE14.out (by decide) s0_size).mono ?_
  rintro e w15 ⟨rfl, hc, hg⟩
  rw [show rdV s0 0 1 = 0 from by decide, show rdE s0 0 1 = 4 from by decide]
  rw [show rdP s0 0 1 = 0 from by decide] at hc
  have HE15 := Lib.hid (HE14.out.kept hg (Cur.ne HCb14.out HE14.out))
  have HG15 := Lib.hid (gstepb HG14.out hg HLb.out)
  have HCa15 := Lib.hid (HCa14.out.kept hg (fun e => HNab.out (Option.some.inj e)))
  clear HE14 HG14 hg HCa14 HCb14
  have HCb15 := Lib.hid hc
  clear hc
  go_wp2_with fail
  refine (T_any bb s0 0 w15 (0) HCb15.out HE15.out (by decide) s0_size).mono ?_
  rintro e w16 ⟨rfl, hc, hg⟩
  rw [show tkS s0 0 (0) = ByteArray.empty from by decide, show tkE s0 0 (0) = 0 from by decide]
  rw [show tkP s0 0 (0) = 0 from by decide] at hc
  have HE16 := Lib.hid (HE15.out.kept hg (Cur.ne HCb15.out HE15.out))
  have HG16 := Lib.hid (gstepb HG15.out hg HLb.out)
  have HCa16 := Lib.hid (HCa15.out.kept hg (fun e => HNab.out (Option.some.inj e)))
  clear HE15 HG15 hg HCa15 HCb15
  have HCb16 := Lib.hid hc
  clear hc
  go_wp2_with fail
  refine (byte_nil  w16 HE16.out).mono ?_
  rintro e w17 ⟨rfl, hg⟩
  have HE17 := Lib.hid (HE16.out.kept hg (by simp))
  have HG17 := Lib.hid (gtrans HG16.out hg)
  have HCa17 := Lib.hid (HCa16.out.kept hg (by simp))
  have HCb17 := Lib.hid (HCb16.out.kept hg (by simp))
  clear HE16 HG16 hg HCa16 HCb16
  go_wp2_with fail
  refine (two_nil  w17 HE17.out).mono ?_
  rintro e w18 ⟨rfl, hg⟩
  have HE18 := Lib.hid (HE17.out.kept hg (by simp))
  have HG18 := Lib.hid (gtrans HG17.out hg)
  have HCa18 := Lib.hid (HCa17.out.kept hg (by simp))
  have HCb18 := Lib.hid (HCb17.out.kept hg (by simp))
  clear HE17 HG17 hg HCa17 HCb17
  go_wp2_with fail
  refine (four_nil  w18 HE18.out).mono ?_
  rintro e w19 ⟨rfl, hg⟩
  have HE19 := Lib.hid (HE18.out.kept hg (by simp))
  have HG19 := Lib.hid (gtrans HG18.out hg)
  have HCa19 := Lib.hid (HCa18.out.kept hg (by simp))
  have HCb19 := Lib.hid (HCb18.out.kept hg (by simp))
  clear HE18 HG18 hg HCa18 HCb18
  go_wp2_with fail
  refine (T_nil 0 w19 HE19.out).mono ?_
  rintro e w20 ⟨rfl, hg⟩
  have HE20 := Lib.hid (HE19.out.kept hg (by simp))
  have HG20 := Lib.hid (gtrans HG19.out hg)
  have HCa20 := Lib.hid (HCa19.out.kept hg (by simp))
  have HCb20 := Lib.hid (HCb19.out.kept hg (by simp))
  clear HE19 HG19 hg HCa19 HCb19
  go_wp2_with fail
  refine (seek_nil 0 w20 ).mono ?_
  rintro e w21 ⟨rfl, hg⟩
  have HE21 := Lib.hid (HE20.out.kept hg (by simp))
  have HG21 := Lib.hid (gtrans HG20.out hg)
  have HCa21 := Lib.hid (HCa20.out.kept hg (by simp))
  have HCb21 := Lib.hid (HCb20.out.kept hg (by simp))
  clear HE20 HG20 hg HCa20 HCb20
  go_wp2_with fail
  refine (at_nil  w21 ).mono ?_
  rintro e w22 ⟨rfl, hg⟩
  have HE22 := Lib.hid (HE21.out.kept hg (by simp))
  have HG22 := Lib.hid (gtrans HG21.out hg)
  have HCa22 := Lib.hid (HCa21.out.kept hg (by simp))
  have HCb22 := Lib.hid (HCb21.out.kept hg (by simp))
  clear HE21 HG21 hg HCa21 HCb21
  go_wp2_with fail
  refine (left_nil  w22 ).mono ?_
  rintro e w23 ⟨rfl, hg⟩
  have HE23 := Lib.hid (HE22.out.kept hg (by simp))
  have HG23 := Lib.hid (gtrans HG22.out hg)
  have HCa23 := Lib.hid (HCa22.out.kept hg (by simp))
  have HCb23 := Lib.hid (HCb22.out.kept hg (by simp))
  clear HE22 HG22 hg HCa22 HCb22
  go_wp2_with fail
  refine (put1_any _ _ [97] 0 (by decide) (sl_newz w23 _ [97] _ _ 1 rfl rfl) (by simp)).mono ?_
  rintro e w24 ⟨rfl, ho, hg⟩
  have hcv : (convert 39 9 (.slice (some ⟨w23.heap.size + 1 + 1, 0, none⟩) 2 2)).run Tryd.prog w24 = .ok (.string ⟨#[97, 0]⟩) w24 := run_string_of w24 39 9 5 Tryd.underlying39 Tryd.underlying5 Tryd.underlying9 (by simpa [enc_one] using ho.sl)
  have HG24 := Lib.hid (gtrans (galloc HG23.out _) hg)
  clear HG23 hg ho HE23 HCa23 HCb23
  go_wp2_with fail
  clear hcv
  refine (put2_any w24 _ [] 65535 (by decide) (Own.nil w24 0).sl (by simp)).mono ?_
  rintro e w25 ⟨rfl, ho, hg⟩
  have hcv : (convert 39 9 (.slice (some ⟨w24.heap.size + 1, 0, none⟩) 2 2)).run Tryd.prog w25 = .ok (.string ⟨#[255, 255]⟩) w25 := run_string_of w25 39 9 5 Tryd.underlying39 Tryd.underlying5 Tryd.underlying9 ho.sl
  have HG25 := Lib.hid (gtrans HG24.out hg)
  clear HG24 hg ho
  go_wp2_with fail
  clear hcv
  refine (put4_any w25 _ [] 2147483648 (by decide) (Own.nil w25 0).sl (by simp)).mono ?_
  rintro e w26 ⟨rfl, ho, hg⟩
  have hcv : (convert 39 9 (.slice (some ⟨w25.heap.size + 1, 0, none⟩) 4 4)).run Tryd.prog w26 = .ok (.string ⟨#[128, 0, 0, 0]⟩) w26 := run_string_of w26 39 9 5 Tryd.underlying39 Tryd.underlying5 Tryd.underlying9 ho.sl
  have HG26 := Lib.hid (gtrans HG25.out hg)
  clear HG25 hg ho
  go_wp2_with fail
  go_ret
  exact ⟨rfl, HG26.out⟩
end Go.Proofs.YtndkgogohlikiaaDoor
