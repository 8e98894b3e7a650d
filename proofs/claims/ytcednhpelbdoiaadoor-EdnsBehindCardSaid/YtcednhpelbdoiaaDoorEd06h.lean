/-
  The law package's awake.
-/
import Derived.Test.YtcednhpelbdoiaaDoorEd06d
import Derived.Test.YtcednhpelbdoiaaDoorEd06e
namespace Go.Proofs.YtcednhpelbdoiaaDoor
open Go.RowKit

theorem eread_some (class_ ttl : Nat) (s : ByteArray) (l : List Opt) (w : World) (he : Et w) (ht : ttl < 4294967296) (hs : s.size ≤ 100000) (h : opsAt s 0 = some l) : Calls Tryd.prog 12 #[.int .u16 class_, .int .u32 ttl, .string s] w fun e w' =>
    ∃ v, e = .returned (.tuple #[.agg #[.int .u16 class_, .int .u8 ((ttl / 16777216 : Nat) : Int), .int .u8 ((ttl / 65536 % 256 : Nat) : Int), .int .u16 ((ttl % 65536 : Nat) : Int), v], .int .i64 0]) ∧ FS w' w.heap.size 33 2 v l.length (ov l) ∧ w.grownBy w' none :=
  (eread_any class_ ttl s w he ht hs).mono fun e w' hp => by
    unfold EdPost at hp
    rw [h] at hp
    obtain ⟨hg, v, he, hf⟩ := hp
    exact ⟨v, he, hf, hg⟩
theorem eread_none (class_ ttl : Nat) (s : ByteArray) (w : World) (he : Et w) (ht : ttl < 4294967296) (hs : s.size ≤ 100000) (h : opsAt s 0 = none) : Calls Tryd.prog 12 #[.int .u16 class_, .int .u32 ttl, .string s] w fun e w' =>
    e = .returned (.tuple #[.agg #[.int .u16 0, .int .u8 0, .int .u8 0, .int .u16 0, .slice none 0 0], .int .i64 4]) ∧ w.grownBy w' none :=
  (eread_any class_ ttl s w he ht hs).mono fun e w' hp => by
    unfold EdPost at hp
    rw [h] at hp
    exact ⟨hp.2, hp.1⟩
theorem ops_new (w : World) (l : List Opt) (cs : Array Value) (n : Nat) (h : cs.toList = ov l) (hn : n = l.length) : Ops (w.alloc (.cells cs 33)) (.slice (some ⟨w.heap.size, 0, none⟩) n n) l := by
  subst hn
  refine ⟨_, _, rfl, Nat.le_refl _, ov_len l, by simp, fun _ => ⟨w.heap.size, 0, rfl, fun j u hu => ?_⟩⟩
  rw [bcellAt (balloc w _), ← Array.getElem?_toList, h]
  simpa using hu

set_option maxHeartbeats 2000000 in
set_option maxRecDepth 100000 in
theorem awake06 (w : World) (he : Et w) : Calls Tryd.prog 10 #[] w fun e w' => e = .returned (.bool true) ∧ w.grownBy w' none := by
  have HE := Lib.hid he
  clear he
  go_enter Tryd.func10, Tryd.ntmps10
  have GR0 := Lib.hid (grefl w none)
  go_wp2_with fail
  refine Calls.mono (eread_some 1232 32768 ⟨#[0, 10, 0, 2, 97, 98]⟩ [(10, ⟨#[97, 98]⟩)] _ (HE.out.kept (GR0.out) (by simp)) (by omega) (by decide) (by kernel_rfl)) ?_
  rintro e w1 ⟨v1, rfl, hf, hg⟩
  have GR1 := Lib.hid (gtrans GR0.out (hg))
  clear hg GR0
  obtain ⟨A1, c1, rfl⟩ := hf.len
  have V_1 := Lib.hid hf.sl
  clear hf
  go_wp2_with fail
  refine Calls.mono (eread_none 0 0 ⟨#[0, 10, 0, 3, 97, 98]⟩ _ (HE.out.kept (galloc (GR1.out) _) (by simp)) (by omega) (by decide) (by kernel_rfl)) ?_
  rintro e w2 ⟨rfl, hg⟩
  have GR2 := Lib.hid (gtrans GR1.out (gfr1 (hg)))
  have X_2 := Lib.hid (gblock hg (balloc1_0 w1 (.cells #[.int .u16 1232, .int .u8 0, .int .u8 0, .int .u16 32768, .slice A1 1 c1] 27)) (by simp))
  have V_2 := Lib.hid (V_1.out.kept0 (gfr1 (hg)))
  clear hg GR1 V_1
  go_wp2_with fail
  refine Calls.mono (eread_none 0 0 ⟨#[0, 10, 0]⟩ _ (HE.out.kept (galloc (GR2.out) _) (by simp)) (by omega) (by decide) (by kernel_rfl)) ?_
  rintro e w3 ⟨rfl, hg⟩
  have GR3 := Lib.hid (gtrans GR2.out (gfr1 (hg)))
  have X_3 := Lib.hid (gblock (gfr1 (hg)) X_2.out (by simp))
  have Y_3 := Lib.hid (gblock hg (balloc1_0 w2 (.cells #[.int .u16 0, .int .u8 0, .int .u8 0, .int .u16 0, .slice none 0 0] 27)) (by simp))
  have V_3 := Lib.hid (V_2.out.kept0 (gfr1 (hg)))
  clear hg GR2 X_2 V_2
  go_wp2_with fail
  have hg : (w3.alloc (.cells #[.int .u16 0, .int .u8 0, .int .u8 0, .int .u16 0, .slice none 0 0] 27)).grownBy (w3.alloc (.cells #[.int .u16 0, .int .u8 0, .int .u8 0, .int .u16 0, .slice none 0 0] 27)) none := grefl _ none
  have GR4 := Lib.hid (gtrans GR3.out (gfr1 (hg)))
  have X_4 := Lib.hid (gblock (gfr1 (hg)) X_3.out (by simp))
  have Y_4 := Lib.hid (gblock (gfr1 (hg)) Y_3.out (by simp))
  have Z_4 := Lib.hid (gblock hg (balloc1_0 w3 (.cells #[.int .u16 0, .int .u8 0, .int .u8 0, .int .u16 0, .slice none 0 0] 27)) (by simp))
  have V_4 := Lib.hid (V_3.out.kept0 (gfr1 (hg)))
  clear hg GR3 X_3 Y_3 V_3
  generalize w3.alloc (.cells #[.int .u16 0, .int .u8 0, .int .u8 0, .int .u16 0, .slice none 0 0] 27) = w4 at *
  refine Calls.mono (split_ok 16 (by omega) _) ?_
  rintro e wq ⟨rfl, hq⟩
  subst hq
  go_wp2_with fail
  refine Calls.mono (split_no 4096 (by omega) _) ?_
  rintro e wq ⟨rfl, hq⟩
  subst hq
  have c_X_0 : w4.cell? ⟨w1.heap.size, 0, none⟩ = some (.int .u16 1232) := bcellAt X_4.out 0
  have c_X_1 : w4.cell? ⟨w1.heap.size, 1, none⟩ = some (.int .u8 0) := bcellAt X_4.out 1
  have c_X_2 : w4.cell? ⟨w1.heap.size, 2, none⟩ = some (.int .u8 0) := bcellAt X_4.out 2
  have c_X_3 : w4.cell? ⟨w1.heap.size, 3, none⟩ = some (.int .u16 32768) := bcellAt X_4.out 3
  have c_X_4 : w4.cell? ⟨w1.heap.size, 4, none⟩ = some (.slice A1 1 c1) := bcellAt X_4.out 4
  have l_X : w1.heap.size < w4.heap.size := blt X_4.out
  go_wp2_with fail
  have NV := Lib.hid (ops_new w4 [(10, ⟨#[97, 98]⟩)] #[.int .u16 10, .string ⟨#[97, 98]⟩] 1 rfl rfl)
  refine Calls.mono (rsame_any 1232 0 0 32768 1232 0 0 32768 _ _ [(10, ⟨#[97, 98]⟩)] [(10, ⟨#[97, 98]⟩)] _ (V_4.out.kept0 (galloc (grefl _ none) _)) NV.out (by decide)) ?_
  rintro e w5 ⟨rfl, hg⟩
  have GR5 := Lib.hid (gtrans GR4.out (gfr1 (hg)))
  have X_5 := Lib.hid (gblock (gfr1 (hg)) X_4.out (by simp))
  have Y_5 := Lib.hid (gblock (gfr1 (hg)) Y_4.out (by simp))
  have Z_5 := Lib.hid (gblock (gfr1 (hg)) Z_4.out (by simp))
  have O_5 := Lib.hid (gblock hg (balloc1_0 w4 (.cells #[.int .u16 10, .string ⟨#[97, 98]⟩] 33)) (by simp))
  have V_5 := Lib.hid (V_4.out.kept0 (gfr1 (hg)))
  clear hg GR4 X_4 Y_4 Z_4 V_4 c_X_0 c_X_1 c_X_2 c_X_3 c_X_4 l_X
  simp only [edB, and_self, decide_true]
  go_wp2_with fail
  refine Calls.mono (code_any 0 1 (by omega) (by omega) _) ?_
  rintro e wq ⟨rfl, hq⟩
  subst hq
  simp only [codeN]
  go_wp2_with fail
  go_ret
  exact ⟨rfl, GR5.out⟩
end Go.Proofs.YtcednhpelbdoiaaDoor
