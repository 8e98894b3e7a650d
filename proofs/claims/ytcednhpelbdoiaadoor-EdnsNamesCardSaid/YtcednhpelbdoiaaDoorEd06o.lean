/-
  EdnsNames.
-/
import Derived.Test.YtcednhpelbdoiaaDoorEd06i
import Derived.Test.YtcednhpelbdoiaaDoorEd06n
import Derived.Deep.Cut
namespace Go.Proofs.YtcednhpelbdoiaaDoor
open Go.RowKit

theorem ewrite_is (sz e v f : Nat) (A : Option Addr) (ca n : Nat) (l : List Opt) (a0 a1 : Int) (s : ByteArray) (a3 : Int) (w : World) (hn : n = l.length) (he : e < 256) (hv : v < 256) (hf : f < 65536) (ha : Ops w (.slice A n ca) l) (hl : l.length ≤ 100) (hc : ∀ o ∈ l, o.1 < 65536) (hr : ewR sz e v f l = .tuple #[.int .u16 a0, .int .u32 a1, .string s, .int .i64 a3]) :
    Calls Tryd.prog 16 #[.agg #[.int .u16 sz, .int .u8 e, .int .u8 v, .int .u16 f, .slice A n ca]] w fun e' w' => e' = .returned (.tuple #[.int .u16 a0, .int .u32 a1, .string s, .int .i64 a3]) ∧ w.grownBy w' none := by
  subst hn
  have h := ewrite_any sz e v f A ca l w he hv hf ha (by unfold maxLen; omega) hc
  rw [hr] at h
  exact h
theorem ops_new1 (w : World) (o : Obj) (l : List Opt) (cs : Array Value) (n : Nat) (h : cs.toList = ov l) (hn : n = l.length) : Ops ((w.alloc o).alloc (.cells cs 33)) (.slice (some ⟨w.heap.size + 1, 0, none⟩) n n) l := by
  have e := ops_new (w.alloc o) l cs n h hn
  rw [asz] at e
  exact e
theorem ew_long (l : List Opt) (h : 65535 < (opsB l).length) (sz e v f : Nat) : ewR sz e v f l = .tuple #[.int .u16 0, .int .u32 0, .string ByteArray.empty, .int .i64 5] := by
  unfold ewR
  rw [if_neg (by unfold okO; omega)]
theorem ew_fits (l : List Opt) (h : (opsB l).length ≤ 65535) (sz e v f : Nat) : ewR sz e v f l = .tuple #[.int .u16 sz, .int .u32 (ttlN e v f), .string ⟨(opsB l).toArray⟩, .int .i64 0] := by
  unfold ewR
  rw [if_pos (show okO l from h)]

set_option maxHeartbeats 1000000 in
set_option maxRecDepth 100000 in
theorem enames_walk (w : World) (het : Et w) : Calls Tryd.prog 5 #[] w fun e w' => e = .returned (.bool true) ∧ w.grownBy w' none := by
  have HE := Lib.hid het
  obtain ⟨i0, hi, hz0, hz1, hz2⟩ := info_parts Tryd.infoByte
  clear het
  go_enter Tryd.func5, Tryd.ntmps5
  have GR0 := Lib.hid (grefl w none)
  go_wp2_with fail
  refine Calls.mono (awake06 _ (HE.out.kept (GR0.out) (by simp))) ?_
  rintro e w1 ⟨rfl, hg⟩
  have GR1 := Lib.hid (gtrans GR0.out (hg))
  clear hg GR0
  go_wp2_with fail
  refine Calls.mono (eread_l 65535 4294967295 ⟨#[0, 0, 0, 0, 255, 255, 0, 0]⟩ [(0, ⟨#[]⟩), (65535, ⟨#[]⟩)] 255 255 65535 _ (HE.out.kept (GR1.out) (by simp)) (by omega) (by decide) (by kernel_rfl) rfl rfl rfl) ?_
  rintro e w2 ⟨A1, c1, rfl, hv, hg⟩
  have GR2 := Lib.hid (gtrans GR1.out (hg))
  clear hg GR1
  have V_2 := Lib.hid hv
  clear hv
  go_wp2_with fail
  refine Calls.mono (eread_l 0 0 ⟨#[]⟩ [] 0 0 0 _ (HE.out.kept (galloc (GR2.out) _) (by simp)) (by omega) (by decide) (by kernel_rfl) rfl rfl rfl) ?_
  rintro e w3 ⟨A2, c2, rfl, hv, hg⟩
  have GR3 := Lib.hid (gtrans GR2.out (gfr1 (hg)))
  have X_3 := Lib.hid (gblock hg (balloc1_0 w2 (.cells #[.int .u16 65535, .int .u8 255, .int .u8 255, .int .u16 65535, .slice A1 2 c1] 27)) (by simp))
  have V_3 := Lib.hid (V_2.out.kept (gfr1 (hg)))
  clear hg GR2 V_2
  have U_3 := Lib.hid hv
  clear hv
  go_wp2_with fail
  refine Calls.mono (eread_none 0 0 ⟨#[0]⟩ _ (HE.out.kept (galloc (GR3.out) _) (by simp)) (by omega) (by decide) (by kernel_rfl)) ?_
  rintro e w4 ⟨rfl, hg⟩
  have GR4 := Lib.hid (gtrans GR3.out (gfr1 (hg)))
  have X_4 := Lib.hid (gblock (gfr1 (hg)) X_3.out (by simp))
  have Y_4 := Lib.hid (gblock hg (balloc1_0 w3 (.cells #[.int .u16 0, .int .u8 0, .int .u8 0, .int .u16 0, .slice A2 0 c2] 27)) (by simp))
  have V_4 := Lib.hid (V_3.out.kept (gfr1 (hg)))
  have U_4 := Lib.hid (U_3.out.kept (gfr1 (hg)))
  clear hg GR3 X_3 V_3 U_3
  have c_X_0 : w4.cell? ⟨w2.heap.size, 0, none⟩ = some (.int .u16 65535) := bcellAt X_4.out 0
  have c_X_1 : w4.cell? ⟨w2.heap.size, 1, none⟩ = some (.int .u8 255) := bcellAt X_4.out 1
  have c_X_2 : w4.cell? ⟨w2.heap.size, 2, none⟩ = some (.int .u8 255) := bcellAt X_4.out 2
  have c_X_3 : w4.cell? ⟨w2.heap.size, 3, none⟩ = some (.int .u16 65535) := bcellAt X_4.out 3
  have c_X_4 : w4.cell? ⟨w2.heap.size, 4, none⟩ = some (.slice A1 2 c1) := bcellAt X_4.out 4
  have l_X : w2.heap.size < w4.heap.size := blt X_4.out
  have c_Y_0 : w4.cell? ⟨w3.heap.size, 0, none⟩ = some (.int .u16 0) := bcellAt Y_4.out 0
  have c_Y_1 : w4.cell? ⟨w3.heap.size, 1, none⟩ = some (.int .u8 0) := bcellAt Y_4.out 1
  have c_Y_2 : w4.cell? ⟨w3.heap.size, 2, none⟩ = some (.int .u8 0) := bcellAt Y_4.out 2
  have c_Y_3 : w4.cell? ⟨w3.heap.size, 3, none⟩ = some (.int .u16 0) := bcellAt Y_4.out 3
  have c_Y_4 : w4.cell? ⟨w3.heap.size, 4, none⟩ = some (.slice A2 0 c2) := bcellAt Y_4.out 4
  have l_Y : w3.heap.size < w4.heap.size := blt Y_4.out
  go_wp2_with fail
  have NV := Lib.hid (ops_new1 w4 (.cells #[.int .u16 0, .int .u8 0, .int .u8 0, .int .u16 0, .slice none 0 0] 27) [(0, ⟨#[]⟩), (65535, ⟨#[]⟩)] #[.int .u16 0, .string ⟨#[]⟩, .int .u16 65535, .string ⟨#[]⟩] 2 rfl rfl)
  refine Calls.mono (same_rr _ _ _ _ A1 _ c1 _ [(0, ⟨#[]⟩), (65535, ⟨#[]⟩)] _ (V_4.out.kept (galloc (galloc (grefl _ none) _) _)) NV.out (by decide)) ?_
  rintro e w5 ⟨rfl, hg⟩
  have GR5 := Lib.hid (gtrans GR4.out (gfr1 (gfr1 (hg))))
  have X_5 := Lib.hid (gblock (gfr1 (gfr1 (hg))) X_4.out (by simp))
  have Y_5 := Lib.hid (gblock (gfr1 (gfr1 (hg))) Y_4.out (by simp))
  have Z_5 := Lib.hid (gblock hg (balloc2_0 w4 (.cells #[.int .u16 0, .int .u8 0, .int .u8 0, .int .u16 0, .slice none 0 0] 27) (.cells #[.int .u16 0, .string ⟨#[]⟩, .int .u16 65535, .string ⟨#[]⟩] 33)) (by simp))
  have O_5 := Lib.hid (gblock hg (balloc2_1 w4 (.cells #[.int .u16 0, .int .u8 0, .int .u8 0, .int .u16 0, .slice none 0 0] 27) (.cells #[.int .u16 0, .string ⟨#[]⟩, .int .u16 65535, .string ⟨#[]⟩] 33)) (by simp))
  have V_5 := Lib.hid (V_4.out.kept (gfr1 (gfr1 (hg))))
  have U_5 := Lib.hid (U_4.out.kept (gfr1 (gfr1 (hg))))
  clear hg GR4 X_4 Y_4 V_4 U_4 c_X_0 c_X_1 c_X_2 c_X_3 c_X_4 l_X c_Y_0 c_Y_1 c_Y_2 c_Y_3 c_Y_4 l_Y
  clear Z_5
  clear O_5
  have c_X_0 : w5.cell? ⟨w2.heap.size, 0, none⟩ = some (.int .u16 65535) := bcellAt X_5.out 0
  have c_X_1 : w5.cell? ⟨w2.heap.size, 1, none⟩ = some (.int .u8 255) := bcellAt X_5.out 1
  have c_X_2 : w5.cell? ⟨w2.heap.size, 2, none⟩ = some (.int .u8 255) := bcellAt X_5.out 2
  have c_X_3 : w5.cell? ⟨w2.heap.size, 3, none⟩ = some (.int .u16 65535) := bcellAt X_5.out 3
  have c_X_4 : w5.cell? ⟨w2.heap.size, 4, none⟩ = some (.slice A1 2 c1) := bcellAt X_5.out 4
  have l_X : w2.heap.size < w5.heap.size := blt X_5.out
  have c_Y_0 : w5.cell? ⟨w3.heap.size, 0, none⟩ = some (.int .u16 0) := bcellAt Y_5.out 0
  have c_Y_1 : w5.cell? ⟨w3.heap.size, 1, none⟩ = some (.int .u8 0) := bcellAt Y_5.out 1
  have c_Y_2 : w5.cell? ⟨w3.heap.size, 2, none⟩ = some (.int .u8 0) := bcellAt Y_5.out 2
  have c_Y_3 : w5.cell? ⟨w3.heap.size, 3, none⟩ = some (.int .u16 0) := bcellAt Y_5.out 3
  have c_Y_4 : w5.cell? ⟨w3.heap.size, 4, none⟩ = some (.slice A2 0 c2) := bcellAt Y_5.out 4
  have l_Y : w3.heap.size < w5.heap.size := blt Y_5.out
  go_wp2_with fail
  refine Calls.mono (same_rr _ _ _ _ A2 none c2 0 [] _ U_5.out (Sl.nil _ 2) (by decide)) ?_
  rintro e w6 ⟨rfl, hg⟩
  have GR6 := Lib.hid (gtrans GR5.out (hg))
  have X_6 := Lib.hid (gblock (hg) X_5.out (by simp))
  have Y_6 := Lib.hid (gblock (hg) Y_5.out (by simp))
  have V_6 := Lib.hid (V_5.out.kept (hg))
  have U_6 := Lib.hid (U_5.out.kept (hg))
  clear hg GR5 X_5 Y_5 V_5 U_5 c_X_0 c_X_1 c_X_2 c_X_3 c_X_4 l_X c_Y_0 c_Y_1 c_Y_2 c_Y_3 c_Y_4 l_Y
  clear Y_6
  clear U_6
  have c_X_0 : w6.cell? ⟨w2.heap.size, 0, none⟩ = some (.int .u16 65535) := bcellAt X_6.out 0
  have c_X_1 : w6.cell? ⟨w2.heap.size, 1, none⟩ = some (.int .u8 255) := bcellAt X_6.out 1
  have c_X_2 : w6.cell? ⟨w2.heap.size, 2, none⟩ = some (.int .u8 255) := bcellAt X_6.out 2
  have c_X_3 : w6.cell? ⟨w2.heap.size, 3, none⟩ = some (.int .u16 65535) := bcellAt X_6.out 3
  have c_X_4 : w6.cell? ⟨w2.heap.size, 4, none⟩ = some (.slice A1 2 c1) := bcellAt X_6.out 4
  have l_X : w2.heap.size < w6.heap.size := blt X_6.out
  go_wp2_with fail
  refine Calls.mono (ewrite_is 65535 255 255 65535 A1 c1 2 [(0, ⟨#[]⟩), (65535, ⟨#[]⟩)] 65535 4294967295 ⟨#[0, 0, 0, 0, 255, 255, 0, 0]⟩ 0 _ rfl (by omega) (by omega) (by omega) V_6.out (by decide) (by simp) (by kernel_rfl)) ?_
  rintro e w7 ⟨rfl, hg⟩
  have GR7 := Lib.hid (gtrans GR6.out (hg))
  have X_7 := Lib.hid (gblock (hg) X_6.out (by simp))
  have V_7 := Lib.hid (V_6.out.kept (hg))
  clear hg GR6 X_6 V_6 c_X_0 c_X_1 c_X_2 c_X_3 c_X_4 l_X
  clear X_7
  clear V_7
  go_upto_region 11 with (fail)
  refine wp_region_lit ?_
  refine (wpList_make_z rfl _ _ 42 rfl w7.heap.size i0 Tryd.underlying42 hi hz0 hz1 hz2 .i64 .i64 65531 65531 65531 rfl rfl rfl rfl (by omega) (Nat.le_refl _) ?_)
  intro w8 ho hg
  have hcv := run_string_of (P := Tryd.prog) w8 42 9 5 Tryd.underlying42 Tryd.underlying5 Tryd.underlying9 ho.sl
  clear ho
  have fz : (⟨(List.replicate 65531 (0 : UInt8)).toArray⟩ : ByteArray).size = 65531 := by show (List.replicate 65531 (0 : UInt8)).toArray.size = 65531; rw [List.size_toArray, List.length_replicate]
  generalize (⟨(List.replicate 65531 (0 : UInt8)).toArray⟩ : ByteArray) = FU at *
  have GR8 := Lib.hid (gtrans GR7.out (hg))
  clear hg GR7
  go_wp2_with fail
  obtain ⟨D, hD, dz⟩ : ∃ D : ByteArray, ewR 0 0 0 0 [(0, FU)] = .tuple #[.int .u16 0, .int .u32 0, .string D, .int .i64 0] ∧ D.size = 65535 := ⟨⟨(opsB [(0, FU)]).toArray⟩, ew_fits _ (by rw [opsB_one, opB_len]; simp only; omega) 0 0 0 0, by show (opsB [(0, FU)]).toArray.size = 65535; rw [List.size_toArray, opsB_one, opB_len]; simp only; omega⟩
  have D1 := Lib.hid (ew_long [(0, FU ++ (⟨#[97]⟩ : ByteArray))] (by rw [opsB_one, opB_len]; simp only [ByteArray.size_append]; rw [fz]; decide) 0 0 0 0)
  have D2 := Lib.hid (ew_long [(0, FU), (0, ⟨#[]⟩)] (by rw [show ([(0, FU), (0, ⟨#[]⟩)] : List Opt) = [(0, FU)] ++ [(0, ⟨#[]⟩)] from rfl, opsB_append, List.length_append, opsB_one, opsB_one, opB_len, opB_len]; simp only; rw [fz]; decide) 0 0 0 0)
  have D3 := Lib.hid (ew_long [(0, FU ++ (⟨#[49, 50, 51, 52, 53]⟩ : ByteArray))] (by rw [opsB_one, opB_len]; simp only [ByteArray.size_append]; rw [fz]; decide) 0 0 0 0)
  have D0 := Lib.hid hD
  clear hD hcv
  have NW := Lib.hid (ops_new w8 [(0, FU)] #[.int .u16 0, .string FU] 1 rfl rfl)
  refine Calls.mono (ewrite_is 0 0 0 0 _ _ 1 [(0, FU)] 0 0 D 0 _ rfl (by omega) (by omega) (by omega) NW.out (by simp) (by simp) D0.out) ?_
  rintro e w9 ⟨rfl, hg⟩
  have GR9 := Lib.hid (gtrans GR8.out (gfr1 (hg)))
  have O_9 := Lib.hid (gblock hg (balloc1_0 w8 (.cells #[.int .u16 0, .string FU] 33)) (by simp))
  clear hg GR8
  clear O_9
  clear NW
  go_wp2_with fail
  generalize FU ++ (⟨#[97]⟩ : ByteArray) = F1 at *
  have NW := Lib.hid (ops_new w9 [(0, F1)] #[.int .u16 0, .string F1] 1 rfl rfl)
  refine Calls.mono (ewrite_is 0 0 0 0 _ _ 1 [(0, F1)] 0 0 ByteArray.empty 5 _ rfl (by omega) (by omega) (by omega) NW.out (by simp) (by simp) D1.out) ?_
  rintro e w10 ⟨rfl, hg⟩
  have GR10 := Lib.hid (gtrans GR9.out (gfr1 (hg)))
  have O_10 := Lib.hid (gblock hg (balloc1_0 w9 (.cells #[.int .u16 0, .string F1] 33)) (by simp))
  clear hg GR9
  clear O_10
  clear NW
  go_wp2_with fail
  have NW := Lib.hid (ops_new w10 [(0, FU), (0, ⟨#[]⟩)] #[.int .u16 0, .string FU, .int .u16 0, .string ⟨#[]⟩] 2 rfl rfl)
  refine Calls.mono (ewrite_is 0 0 0 0 _ _ 2 [(0, FU), (0, ⟨#[]⟩)] 0 0 ByteArray.empty 5 _ rfl (by omega) (by omega) (by omega) NW.out (by simp) (by simp) D2.out) ?_
  rintro e w11 ⟨rfl, hg⟩
  have GR11 := Lib.hid (gtrans GR10.out (gfr1 (hg)))
  have O_11 := Lib.hid (gblock hg (balloc1_0 w10 (.cells #[.int .u16 0, .string FU, .int .u16 0, .string ⟨#[]⟩] 33)) (by simp))
  clear hg GR10
  clear O_11
  clear NW
  go_wp2_with fail
  generalize FU ++ (⟨#[49, 50, 51, 52, 53]⟩ : ByteArray) = F2 at *
  have NW := Lib.hid (ops_new w11 [(0, F2)] #[.int .u16 0, .string F2] 1 rfl rfl)
  refine Calls.mono (ewrite_is 0 0 0 0 _ _ 1 [(0, F2)] 0 0 ByteArray.empty 5 _ rfl (by omega) (by omega) (by omega) NW.out (by simp) (by simp) D3.out) ?_
  rintro e w12 ⟨rfl, hg⟩
  have GR12 := Lib.hid (gtrans GR11.out (gfr1 (hg)))
  have O_12 := Lib.hid (gblock hg (balloc1_0 w11 (.cells #[.int .u16 0, .string F2] 33)) (by simp))
  clear hg GR11
  clear O_12
  clear NW
  go_wp2_with fail
  refine Calls.mono (split_i _ 4095 rfl (by omega) _) ?_
  rintro e wq ⟨rfl, hq⟩
  subst hq
  go_wp2_with fail
  refine Calls.mono (split_no (-1) (by omega) _) ?_
  rintro e wq ⟨rfl, hq⟩
  subst hq
  go_wp2_with fail
  refine Calls.mono (split_i _ 0 rfl (by omega) _) ?_
  rintro e wq ⟨rfl, hq⟩
  subst hq
  go_wp2_with fail
  refine Calls.mono (code_i _ _ 255 255 rfl rfl (by omega) (by omega) _) ?_
  rintro e wq ⟨rfl, hq⟩
  subst hq
  rw [show codeN 255 255 = 4095 by rfl]
  go_wp2_with fail
  refine Calls.mono (code_i _ _ 16 0 rfl rfl (by omega) (by omega) _) ?_
  rintro e wq ⟨rfl, hq⟩
  subst hq
  rw [show codeN 16 0 = 0 by rfl]
  go_wp2_with fail
  go_ret
  exact ⟨rfl, GR12.out⟩
end Go.Proofs.YtcednhpelbdoiaaDoor
