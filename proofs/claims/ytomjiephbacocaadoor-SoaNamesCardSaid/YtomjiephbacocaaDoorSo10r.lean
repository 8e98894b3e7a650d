/-
  SoaNames.
-/
import Derived.Test.YtomjiephbacocaaDoorSoFv
namespace Go.Proofs.YtomjiephbacocaaDoor
open Go.RowKit

theorem small2 {x y : St} (hx : x.data.length ≤ 1000000) (hy : y.data.length ≤ 1000000) : ∀ z ∈ [x, y], z.data.length ≤ 1000000 := by
  intro z hz
  simp only [List.mem_cons, List.not_mem_nil, or_false] at hz
  rcases hz with rfl | rfl
  · exact hx
  · exact hy
theorem sts_nil (w : World) : Sts w (.slice none 0 0) [] := ⟨Sl.nil w 5, fun x hx => by cases hx⟩
theorem stw_nil (w : World) (n : ByteArray) (k c t : Nat) : StW w ⟨n, k, c, t, .slice none 0 0, []⟩ := Sl.nil w 1
theorem time_of (n : ByteArray) (t : Nat) (last : ByteArray) (g : Nat) (w : World) (r : Nat) (he : Et w) (hx : StW w (ofS n t last g)) (hl : last.size ≤ 4) (ht : tmF (ofS n t last g) = r) : Calls Tryd.prog 14 #[(ofS n t last g).val] w fun e w' => e = .returned (.int .u32 (r : Int)) ∧ w.grownBy w' none := by
  have := stime_any (ofS n t last g) w he hx (by
    intro s hs
    have : s = ofD last := by simpa [ofS] using hs
    rw [this, ofD_size]
    omega)
  rw [ht] at this
  exact this
theorem time_set (x : St) (w : World) (r : Nat) (he : Et w) (hx : StW w x) (hd : ∀ s ∈ x.data, s.size ≤ 1000000) (ht : tmF x = r) : Calls Tryd.prog 14 #[x.val] w fun e w' => e = .returned (.int .u32 (r : Int)) ∧ w.grownBy w' none := by
  have := stime_any x w he hx hd
  rw [ht] at this
  exact this

set_option maxRecDepth 100000 in
set_option maxHeartbeats 16000000 in
theorem names10_walk (w : World) (he : Et w) : Calls Tryd.prog 4 #[] w fun e w' => e = .returned (.bool true) ∧ w.grownBy w' none := by
  have HE := Lib.hid he
  clear he
  have F0 := Lib.hid (grefl w none)
  go_enter Tryd.func4, Tryd.ntmps4
  go_wp2_with fail
  refine (awake10 w HE.out).mono ?_
  rintro e w1 ⟨rfl, hg⟩
  have F1 := Lib.hid (gtrans F0.out hg)
  clear F0
  clear hg
  go_wp2_with fail
  refine (two10_any w1).mono ?_
  rintro e w2 ⟨b, g0, g1, rfl, hs, hg⟩
  have F2 := Lib.hid (gtrans F1.out hg)
  clear F1
  clear hg
  have F3 := Lib.hid (hs)
  clear hs
  go_wp2_with fail
  refine (find_non (n := zR) (c := 1) (sts_nil w2) (by simp) (by simp) (fNil _ _)).mono ?_
  rintro e w3 ⟨rfl, hg⟩
  have F4 := Lib.hid (gtrans F2.out hg)
  have F5 := Lib.hid (F3.out.kept hg)
  clear F2 F3
  clear hg
  unfold zsv
  go_wp2_with fail
  have hg := galloc (grefl w3 none) (.cells #[.string ByteArray.empty, .int .u16 0, .int .u16 0, .int .u32 0, .slice none 0 0] 27)
  have F6 := Lib.hid (gtrans F4.out hg)
  have F7 := Lib.hid (F5.out.kept hg)
  clear F4 F5
  clear hg
  refine (find_non (n := zE) (c := 3) F7.out (by simp) (sets_small g0 g1) (fCls g0 g1)).mono ?_
  rintro e w4 ⟨rfl, hg⟩
  have F8 := Lib.hid (gtrans F6.out hg)
  have F9 := Lib.hid (F7.out.kept hg)
  clear F6 F7
  clear hg
  unfold zsv
  go_wp2_with fail
  have hg := galloc (grefl w4 none) (.cells #[.string ByteArray.empty, .int .u16 0, .int .u16 0, .int .u32 0, .slice none 0 0] 27)
  have F10 := Lib.hid (gtrans F8.out hg)
  have F11 := Lib.hid (F9.out.kept hg)
  clear F8 F9
  clear hg
  refine (find_non (n := zX) (c := 1) F11.out (by simp) (sets_small g0 g1) (fX g0 g1)).mono ?_
  rintro e w5 ⟨rfl, hg⟩
  have F12 := Lib.hid (gtrans F10.out hg)
  have F13 := Lib.hid (F11.out.kept hg)
  clear F10 F11
  clear hg
  unfold zsv
  go_wp2_with fail
  have hg := galloc (grefl w5 none) (.cells #[.string ByteArray.empty, .int .u16 0, .int .u16 0, .int .u32 0, .slice none 0 0] 27)
  have F14 := Lib.hid (gtrans F12.out hg)
  clear F12
  clear hg
  have hg := galloc (grefl (w5.alloc (.cells #[.string ByteArray.empty, .int .u16 0, .int .u16 0, .int .u32 0, .slice none 0 0] 27)) none) (.cells #[.string zR] 9)
  have F15 := Lib.hid (gtrans F14.out hg)
  clear F14
  clear hg
  have hs := sl_new1 (w5.alloc (.cells #[.string ByteArray.empty, .int .u16 0, .int .u16 0, .int .u32 0, .slice none 0 0] 27)) 9 zR
  simp only [asz] at hs
  have ht := sts_two ((w5.alloc (.cells #[.string ByteArray.empty, .int .u16 0, .int .u16 0, .int .u32 0, .slice none 0 0] 27)).alloc (.cells #[.string zR] 9)) ⟨zR, 2, 1, 0, .slice (some ⟨w5.heap.size + 1, 0, none⟩) 1 1, [zR]⟩ ⟨⟨#[]⟩, 6, 1, 0, .slice none 0 0, []⟩ hs (stw_nil _ _ _ _ _)
  simp only [asz] at ht
  have HT := Lib.hid ht
  clear hs ht
  have hg := galloc (grefl ((w5.alloc (.cells #[.string ByteArray.empty, .int .u16 0, .int .u16 0, .int .u32 0, .slice none 0 0] 27)).alloc (.cells #[.string zR] 9)) none) (.cells #[.string zR, .int .u16 2, .int .u16 1, .int .u32 0, .slice (some ⟨w5.heap.size + 1, 0, none⟩) 1 1, .string ⟨#[]⟩, .int .u16 6, .int .u16 1, .int .u32 0, .slice none 0 0] 27)
  have F16 := Lib.hid (gtrans F15.out hg)
  clear F15
  clear hg
  refine (find_non (n := zR) (c := 1) HT.out (by simp) (small2 (by simp) (by simp)) (fNs _ _)).mono ?_
  rintro e w6 ⟨rfl, hg⟩
  have F17 := Lib.hid (gtrans F16.out hg)
  clear F16
  clear hg
  unfold zsv
  go_wp2_with fail
  clear HT
  have hg := galloc (grefl w6 none) (.cells #[.string ByteArray.empty, .int .u16 0, .int .u16 0, .int .u32 0, .slice none 0 0] 27)
  have F18 := Lib.hid (gtrans F17.out hg)
  clear F17
  clear hg
  refine (of_any zR 1 dA4 (w6.alloc (.cells #[.string ByteArray.empty, .int .u16 0, .int .u16 0, .int .u32 0, .slice none 0 0] 27)) (by decide)).mono ?_
  rintro e w7 ⟨ga, rfl, hs, hg⟩
  have F19 := Lib.hid (gtrans F18.out hg)
  clear F18
  clear hg
  have F20 := Lib.hid (hs)
  clear hs
  simp only [St.val, ofS]
  go_wp2_with fail
  refine (of_any zR 2 dA4 w7 (by decide)).mono ?_
  rintro e w8 ⟨gb, rfl, hs, hg⟩
  have F21 := Lib.hid (gtrans F19.out hg)
  have F22 := Lib.hid (F20.out.kept hg)
  clear F19 F20
  clear hg
  have F23 := Lib.hid (hs)
  clear hs
  simp only [St.val, ofS]
  have HT := Lib.hid (sts_two w8 _ _ F22.out F23.out)
  go_wp2_with fail
  have hg := galloc (grefl w8 none) (.cells #[.string zR, .int .u16 6, .int .u16 1, .int .u32 1, .slice (some ⟨ga, 0, none⟩) 1 1, .string zR, .int .u16 6, .int .u16 1, .int .u32 2, .slice (some ⟨gb, 0, none⟩) 1 1] 27)
  have F24 := Lib.hid (gtrans F21.out hg)
  clear F21
  clear hg
  refine (find_got (n := zR) (c := 1) HT.out (by simp) (small2 (Nat.le_of_ble_eq_true rfl) (Nat.le_of_ble_eq_true rfl)) (fFirst ga gb)).mono ?_
  rintro e w9 ⟨va, rfl, hg, ho⟩
  have F25 := Lib.hid (gtrans F24.out hg)
  clear F24
  obtain ⟨Aa, ca, rfl, _, _⟩ := own_shape ho
  clear hg ho HT
  simp only [St.at, St.val, ofS, List.length_cons, List.length_nil]
  go_wp2_with fail
  have hg := galloc (grefl w9 none) (.cells #[.string zR, .int .u16 6, .int .u16 1, .int .u32 1, .slice Aa 1 ca] 27)
  have F26 := Lib.hid (gtrans F25.out hg)
  clear F25
  clear hg
  have F27 := Lib.hid (balloc w9 (.cells #[.string zR, .int .u16 6, .int .u16 1, .int .u32 1, .slice Aa 1 ca] 27))
  refine (of_any zR 2 dA4 (w9.alloc (.cells #[.string zR, .int .u16 6, .int .u16 1, .int .u32 1, .slice Aa 1 ca] 27)) (by decide)).mono ?_
  rintro e w10 ⟨gc, rfl, hs, hg⟩
  have F28 := Lib.hid (gtrans F26.out hg)
  have F29 := Lib.hid (gblock hg F27.out (by simp))
  clear F26 F27
  clear hg
  have F30 := Lib.hid (hs)
  clear hs
  simp only [St.val, ofS]
  have HT := Lib.hid (sts_two w10 ⟨zR, 6, 1, 0, .slice none 0 0, []⟩ _ (stw_nil _ _ _ _ _) F30.out)
  generalize w9.heap.size = k14 at *
  go_wp2_with fail
  have hg := galloc (grefl w10 none) (.cells #[.string zR, .int .u16 6, .int .u16 1, .int .u32 0, .slice none 0 0, .string zR, .int .u16 6, .int .u16 1, .int .u32 2, .slice (some ⟨gc, 0, none⟩) 1 1] 27)
  have F31 := Lib.hid (gtrans F28.out hg)
  have F32 := Lib.hid (gblock hg F29.out (by simp))
  clear F28 F29
  clear hg
  refine (find_bad (n := zR) (c := 1) HT.out (by simp) (small2 (Nat.le_of_ble_eq_true rfl) (Nat.le_of_ble_eq_true rfl)) (fNone gc)).mono ?_
  rintro e w11 ⟨rfl, hg⟩
  have F33 := Lib.hid (gtrans F31.out hg)
  have F34 := Lib.hid (gblock hg F32.out (by simp))
  clear F31 F32
  clear hg
  unfold zsv
  clear HT
  have hg := galloc (grefl w11 none) (.cells #[.string ByteArray.empty, .int .u16 0, .int .u16 0, .int .u32 0, .slice none 0 0] 27)
  have F35 := Lib.hid (gtrans F33.out hg)
  have F36 := Lib.hid (gblock hg F34.out (by simp))
  clear F33 F34
  clear hg
  have m3 := bcellAt F36.out 3
  go_wp2_with fail
  clear m3
  refine (of_any zR 9 dA3 (w11.alloc (.cells #[.string ByteArray.empty, .int .u16 0, .int .u16 0, .int .u32 0, .slice none 0 0] 27)) (by decide)).mono ?_
  rintro e w12 ⟨gd, rfl, hs, hg⟩
  have F37 := Lib.hid (gtrans F35.out hg)
  clear F35
  clear hg
  have F38 := Lib.hid (hs)
  clear hs
  simp only [St.val, ofS]
  go_wp2_with fail
  have hg := galloc (grefl w12 none) (.cells #[.string zR, .int .u16 6, .int .u16 1, .int .u32 9, .slice (some ⟨gd, 0, none⟩) 1 1] 27)
  have F39 := Lib.hid (gtrans F37.out hg)
  have F40 := Lib.hid (F38.out.kept hg)
  clear F37 F38
  clear hg
  have F41 := Lib.hid (balloc w12 (.cells #[.string zR, .int .u16 6, .int .u16 1, .int .u32 9, .slice (some ⟨gd, 0, none⟩) 1 1] 27))
  refine (of_any zR 9 d5 (w12.alloc (.cells #[.string zR, .int .u16 6, .int .u16 1, .int .u32 9, .slice (some ⟨gd, 0, none⟩) 1 1] 27)) (by decide)).mono ?_
  rintro e w13 ⟨ge, rfl, hs, hg⟩
  have F42 := Lib.hid (gtrans F39.out hg)
  have F43 := Lib.hid (F40.out.kept hg)
  have F44 := Lib.hid (gblock hg F41.out (by simp))
  clear F39 F40 F41
  clear hg
  have F45 := Lib.hid (hs)
  clear hs
  generalize w12.heap.size = k18 at *
  simp only [St.val, ofS]
  go_wp2_with fail
  have hg := galloc (grefl w13 none) (.cells #[.string zR, .int .u16 2, .int .u16 1, .int .u32 9, .slice (some ⟨ge, 0, none⟩) 1 1] 27)
  have F46 := Lib.hid (gtrans F42.out hg)
  have F47 := Lib.hid (F43.out.kept hg)
  have F48 := Lib.hid (gblock hg F44.out (by simp))
  have F49 := Lib.hid (F45.out.kept hg)
  clear F42 F43 F44 F45
  clear hg
  have F50 := Lib.hid (balloc w13 (.cells #[.string zR, .int .u16 2, .int .u16 1, .int .u32 9, .slice (some ⟨ge, 0, none⟩) 1 1] 27))
  refine (of_any zR 2147483647 ⟨#[127, 255, 255, 255]⟩ (w13.alloc (.cells #[.string zR, .int .u16 2, .int .u16 1, .int .u32 9, .slice (some ⟨ge, 0, none⟩) 1 1] 27)) (by decide)).mono ?_
  rintro e w14 ⟨gf, rfl, hs, hg⟩
  have F51 := Lib.hid (gtrans F46.out hg)
  have F52 := Lib.hid (F47.out.kept hg)
  have F53 := Lib.hid (gblock hg F48.out (by simp))
  have F54 := Lib.hid (F49.out.kept hg)
  have F55 := Lib.hid (gblock hg F50.out (by simp))
  clear F46 F47 F48 F49 F50
  clear hg
  have F56 := Lib.hid (hs)
  clear hs
  simp only [St.val, ofS]
  go_wp2_with fail
  generalize w13.heap.size = k19 at *
  refine (time_of zR 2147483647 ⟨#[127, 255, 255, 255]⟩ gf w14 2147483647 (HE.out.kept F51.out (by simp)) F56.out (by decide) (tmA _)).mono ?_
  rintro e w15 ⟨rfl, hg⟩
  have F57 := Lib.hid (gtrans F51.out hg)
  have F58 := Lib.hid (F52.out.kept hg)
  have F59 := Lib.hid (gblock hg F53.out (by simp))
  have F60 := Lib.hid (F54.out.kept hg)
  have F61 := Lib.hid (gblock hg F55.out (by simp))
  have F62 := Lib.hid (F56.out.kept hg)
  clear F51 F52 F53 F54 F55 F56
  clear hg
  clear F62
  go_wp2_with fail
  refine (of_any zR 2147483648 ⟨#[127, 255, 255, 255]⟩ w15 (by decide)).mono ?_
  rintro e w16 ⟨gh, rfl, hs, hg⟩
  have F63 := Lib.hid (gtrans F57.out hg)
  have F64 := Lib.hid (F58.out.kept hg)
  have F65 := Lib.hid (gblock hg F59.out (by simp))
  have F66 := Lib.hid (F60.out.kept hg)
  have F67 := Lib.hid (gblock hg F61.out (by simp))
  clear F57 F58 F59 F60 F61
  clear hg
  have F68 := Lib.hid (hs)
  clear hs
  simp only [St.val, ofS]
  go_wp2_with fail
  refine (time_of zR 2147483648 ⟨#[127, 255, 255, 255]⟩ gh w16 0 (HE.out.kept F63.out (by simp)) F68.out (by decide) (tmB _)).mono ?_
  rintro e w17 ⟨rfl, hg⟩
  have F69 := Lib.hid (gtrans F63.out hg)
  have F70 := Lib.hid (F64.out.kept hg)
  have F71 := Lib.hid (gblock hg F65.out (by simp))
  have F72 := Lib.hid (F66.out.kept hg)
  have F73 := Lib.hid (gblock hg F67.out (by simp))
  have F74 := Lib.hid (F68.out.kept hg)
  clear F63 F64 F65 F66 F67 F68
  clear hg
  clear F74
  go_wp2_with fail
  refine (of_any zR 7 ⟨#[128, 0, 0, 0]⟩ w17 (by decide)).mono ?_
  rintro e w18 ⟨gi, rfl, hs, hg⟩
  have F75 := Lib.hid (gtrans F69.out hg)
  have F76 := Lib.hid (F70.out.kept hg)
  have F77 := Lib.hid (gblock hg F71.out (by simp))
  have F78 := Lib.hid (F72.out.kept hg)
  have F79 := Lib.hid (gblock hg F73.out (by simp))
  clear F69 F70 F71 F72 F73
  clear hg
  have F80 := Lib.hid (hs)
  clear hs
  simp only [St.val, ofS]
  go_wp2_with fail
  refine (time_of zR 7 ⟨#[128, 0, 0, 0]⟩ gi w18 0 (HE.out.kept F75.out (by simp)) F80.out (by decide) (tmC _)).mono ?_
  rintro e w19 ⟨rfl, hg⟩
  have F81 := Lib.hid (gtrans F75.out hg)
  have F82 := Lib.hid (F76.out.kept hg)
  have F83 := Lib.hid (gblock hg F77.out (by simp))
  have F84 := Lib.hid (F78.out.kept hg)
  have F85 := Lib.hid (gblock hg F79.out (by simp))
  have F86 := Lib.hid (F80.out.kept hg)
  clear F75 F76 F77 F78 F79 F80
  clear hg
  clear F86
  go_wp2_with fail
  refine (of_any zR 0 d5 w19 (by decide)).mono ?_
  rintro e w20 ⟨gj, rfl, hs, hg⟩
  have F87 := Lib.hid (gtrans F81.out hg)
  have F88 := Lib.hid (F82.out.kept hg)
  have F89 := Lib.hid (gblock hg F83.out (by simp))
  have F90 := Lib.hid (F84.out.kept hg)
  have F91 := Lib.hid (gblock hg F85.out (by simp))
  clear F81 F82 F83 F84 F85
  clear hg
  have F92 := Lib.hid (hs)
  clear hs
  simp only [St.val, ofS]
  go_wp2_with fail
  refine (time_of zR 0 d5 gj w20 0 (HE.out.kept F87.out (by simp)) F92.out (by decide) (tmD _)).mono ?_
  rintro e w21 ⟨rfl, hg⟩
  have F93 := Lib.hid (gtrans F87.out hg)
  have F94 := Lib.hid (F88.out.kept hg)
  have F95 := Lib.hid (gblock hg F89.out (by simp))
  have F96 := Lib.hid (F90.out.kept hg)
  have F97 := Lib.hid (gblock hg F91.out (by simp))
  have F98 := Lib.hid (F92.out.kept hg)
  clear F87 F88 F89 F90 F91 F92
  clear hg
  clear F98
  obtain ⟨⟨m0, m1, m2, m3, m4⟩, mf0, mf1, mf2, mf3, mf4⟩ := cells5 F95.out
  go_wp2_with fail
  clear m0 m1 m2 m3 m4 mf0 mf1 mf2 mf3 mf4
  refine (time_set ⟨zR, 6, 1, 9, .slice (some ⟨gd, 0, none⟩) 1 1, [ofD dA3]⟩ w21 0 (HE.out.kept F93.out (by simp)) F94.out (by simp [ofD_size]; decide) (tmE _)).mono ?_
  rintro e w22 ⟨rfl, hg⟩
  have F99 := Lib.hid (gtrans F93.out hg)
  have F100 := Lib.hid (F94.out.kept hg)
  have F101 := Lib.hid (gblock hg F95.out (by simp))
  have F102 := Lib.hid (F96.out.kept hg)
  have F103 := Lib.hid (gblock hg F97.out (by simp))
  clear F93 F94 F95 F96 F97
  clear hg
  obtain ⟨⟨m0, m1, m2, m3, m4⟩, mf0, mf1, mf2, mf3, mf4⟩ := cells5 F103.out
  go_wp2_with fail
  clear m0 m1 m2 m3 m4 mf0 mf1 mf2 mf3 mf4
  refine (time_set ⟨zR, 2, 1, 9, .slice (some ⟨ge, 0, none⟩) 1 1, [ofD d5]⟩ w22 0 (HE.out.kept F99.out (by simp)) F102.out (by simp [ofD_size]; decide) (tmO _ _)).mono ?_
  rintro e w23 ⟨rfl, hg⟩
  have F104 := Lib.hid (gtrans F99.out hg)
  have F105 := Lib.hid (F100.out.kept hg)
  have F106 := Lib.hid (gblock hg F101.out (by simp))
  have F107 := Lib.hid (F102.out.kept hg)
  have F108 := Lib.hid (gblock hg F103.out (by simp))
  clear F99 F100 F101 F102 F103
  clear hg
  go_wp2_with fail
  refine (time_set ⟨⟨#[]⟩, 6, 0, 0, .slice none 0 0, []⟩ w23 0 (HE.out.kept F104.out (by simp)) (stw_nil _ _ _ _ _) (by simp) rfl).mono ?_
  rintro e w24 ⟨rfl, hg⟩
  have F109 := Lib.hid (gtrans F104.out hg)
  have F110 := Lib.hid (F105.out.kept hg)
  have F111 := Lib.hid (gblock hg F106.out (by simp))
  have F112 := Lib.hid (F107.out.kept hg)
  have F113 := Lib.hid (gblock hg F108.out (by simp))
  clear F104 F105 F106 F107 F108
  clear hg
  go_wp2_with fail
  refine (time_set ⟨⟨#[]⟩, 0, 0, 0, .slice none 0 0, []⟩ w24 0 (HE.out.kept F109.out (by simp)) (stw_nil _ _ _ _ _) (by simp) rfl).mono ?_
  rintro e w25 ⟨rfl, hg⟩
  have F114 := Lib.hid (gtrans F109.out hg)
  have F115 := Lib.hid (F110.out.kept hg)
  have F116 := Lib.hid (gblock hg F111.out (by simp))
  have F117 := Lib.hid (F112.out.kept hg)
  have F118 := Lib.hid (gblock hg F113.out (by simp))
  clear F109 F110 F111 F112 F113
  clear hg
  go_wp2_with fail
  go_ret
  exact ⟨rfl, F114.out⟩
end Go.Proofs.YtomjiephbacocaaDoor
