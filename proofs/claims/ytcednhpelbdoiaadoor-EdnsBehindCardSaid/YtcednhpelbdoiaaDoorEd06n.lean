/-
  EdnsBack.
-/
import Derived.Test.YtcednhpelbdoiaaDoorEd06g
import Derived.Test.YtcednhpelbdoiaaDoorEd06h
import Derived.Test.YtcednhpelbdoiaaDoorEd06l
import Derived.Test.YtcednhpelbdoiaaDoorEdNum3
namespace Go.Proofs.YtcednhpelbdoiaaDoor
open Go.RowKit

theorem ttl_e (e v f : Nat) (hv : v < 256) (hf : f < 65536) : ttlN e v f / 16777216 = e := by unfold ttlN; omega
theorem ttl_v (e v f : Nat) (hv : v < 256) (hf : f < 65536) : ttlN e v f / 65536 % 256 = v := by unfold ttlN; omega
theorem ttl_f (e v f : Nat) (hf : f < 65536) : ttlN e v f % 65536 = f := by unfold ttlN; omega
theorem ttl_lt (e v f : Nat) (he : e < 256) (hv : v < 256) (hf : f < 65536) : ttlN e v f < 4294967296 := by unfold ttlN; omega
theorem ttl_back (t : Nat) : ttlN (t / 16777216) (t / 65536 % 256) (t % 65536) = t := by unfold ttlN; omega
theorem eread_l (class_ ttl : Nat) (s : ByteArray) (l : List Opt) (a1 a2 a3 : Nat) (w : World) (he : Et w) (ht : ttl < 4294967296) (hs : s.size ≤ 100000) (h : opsAt s 0 = some l) (h1 : ttl / 16777216 = a1) (h2 : ttl / 65536 % 256 = a2) (h3 : ttl % 65536 = a3) : Calls Tryd.prog 12 #[.int .u16 class_, .int .u32 ttl, .string s] w fun e w' =>
    ∃ A cap, e = .returned (.tuple #[.agg #[.int .u16 class_, .int .u8 a1, .int .u8 a2, .int .u16 a3, .slice A l.length cap], .int .i64 0]) ∧ Ops w' (.slice A l.length cap) l ∧ w.grownBy w' none := by
  subst h1 h2 h3
  refine (eread_some class_ ttl s l w he ht hs h).mono ?_
  rintro e w' ⟨v, rfl, hf, hg⟩
  obtain ⟨A, cap, rfl⟩ := hf.len
  exact ⟨A, cap, rfl, hf.sl, hg⟩
theorem ewrite_ok (sz e v f : Nat) (A : Option Addr) (ca : Nat) (l : List Opt) (w : World) (he : e < 256) (hv : v < 256) (hf : f < 65536) (ha : Ops w (.slice A l.length ca) l) (hl : l.length ≤ maxLen) (hc : ∀ o ∈ l, o.1 < 65536) (ho : okO l) :
    Calls Tryd.prog 16 #[.agg #[.int .u16 sz, .int .u8 e, .int .u8 v, .int .u16 f, .slice A l.length ca]] w fun e' w' => e' = .returned (.tuple #[.int .u16 sz, .int .u32 (ttlN e v f), .string ⟨(opsB l).toArray⟩, .int .i64 0]) ∧ w.grownBy w' none := by
  have h := ewrite_any sz e v f A ca l w he hv hf ha hl hc
  unfold ewR at h
  rw [if_pos ho] at h
  exact h
theorem ewrite_no (sz e v f : Nat) (A : Option Addr) (ca : Nat) (l : List Opt) (w : World) (he : e < 256) (hv : v < 256) (hf : f < 65536) (ha : Ops w (.slice A l.length ca) l) (hl : l.length ≤ maxLen) (hc : ∀ o ∈ l, o.1 < 65536) (ho : ¬ okO l) :
    Calls Tryd.prog 16 #[.agg #[.int .u16 sz, .int .u8 e, .int .u8 v, .int .u16 f, .slice A l.length ca]] w fun e' w' => e' = .returned (.tuple #[.int .u16 0, .int .u32 0, .string ByteArray.empty, .int .i64 5]) ∧ w.grownBy w' none := by
  have h := ewrite_any sz e v f A ca l w he hv hf ha hl hc
  unfold ewR at h
  rw [if_neg ho] at h
  exact h
theorem same_rr (a b c d : Int) (A B : Option Addr) (ca cb : Nat) (l : List Opt) (w : World) (ha : Ops w (.slice A l.length ca) l) (hb : Ops w (.slice B l.length cb) l) (hm : l.length ≤ 1000000) : Calls Tryd.prog 13 #[.agg #[.int .u16 a, .int .u8 b, .int .u8 c, .int .u16 d, .slice A l.length ca], .agg #[.int .u16 a, .int .u8 b, .int .u8 c, .int .u16 d, .slice B l.length cb]] w fun e w' => e = .returned (.bool true) ∧ w.grownBy w' none := by
  have h := rsame_any a b c d a b c d _ _ l l w ha hb hm
  rw [show edB a b c d l a b c d l = true by simp [edB]] at h
  exact h
theorem same_ee (a b c d : Int) (A B : Option Addr) (ca cb : Nat) (l : List Opt) (w : World) (ha : Ops w (.slice A l.length ca) l) (hb : Ops w (.slice B l.length cb) l) (hm : l.length ≤ 1000000) : Calls Tryd.prog 20 #[.agg #[.int .u16 a, .int .u8 b, .int .u8 c, .int .u16 d, .slice A l.length ca], .agg #[.int .u16 a, .int .u8 b, .int .u8 c, .int .u16 d, .slice B l.length cb]] w fun e w' => e = .returned (.bool true) ∧ w.grownBy w' none := by
  have h := esame_any a b c d a b c d _ _ l l w ha hb hm
  rw [show edB a b c d l a b c d l = true by simp [edB]] at h
  exact h

set_option maxHeartbeats 4000000 in
set_option maxRecDepth 100000 in
theorem back6_wr (sz e v f : Nat) (A : Option Addr) (ca : Nat) (l : List Opt) (cl tt : Nat) (s : ByteArray) (w : World) (het : Et w)
    (h1 : e < 256) (h2 : v < 256) (h3 : f < 65536) (ha : Ops w (.slice A l.length ca) l) (hl : l.length ≤ maxLen) (hc : ∀ o ∈ l, o.1 < 65536) (htt : tt < 4294967296) (ho : okO l) (m : List Opt) (hm : opsAt s 0 = some m) :
    Calls Tryd.prog 9 #[.agg #[.int .u16 sz, .int .u8 e, .int .u8 v, .int .u16 f, .slice A l.length ca], .int .u16 cl, .int .u32 tt, .string s] w fun e w' => e = .returned (.bool true) ∧ w.grownBy w' none := by
  have HE := Lib.hid het
  have HA := Lib.hid ha
  have HC := Lib.hid hc
  have HO := Lib.hid ho
  have HM := Lib.hid hm
  have HW := Lib.hid (ops_back l (fun o h => ⟨hc o h, by obtain ⟨k, hk, rfl⟩ := List.mem_iff_getElem.1 h; have := opsB_mem l k hk; unfold okO at ho; omega⟩))
  have hz : (⟨(opsB l).toArray⟩ : ByteArray).size ≤ 100000 := by show (opsB l).toArray.size ≤ _; unfold okO at ho; simp; omega
  have TL := Lib.hid (ttl_lt e v f h1 h2 h3)
  have TE := Lib.hid (ttl_e e v f h2 h3)
  have TV := Lib.hid (ttl_v e v f h2 h3)
  have TF := Lib.hid (ttl_f e v f h3)
  clear het ha hc ho hm
  go_enter Tryd.func9, Tryd.ntmps9
  have GR0 := Lib.hid (grefl w none)
  go_wp2_with fail
  refine Calls.mono (long_any _ _ _ _ A ca l _ (HA.out.kept (galloc (GR0.out) _)) hl) ?_
  rintro e w1 ⟨q1, rfl, hq1, hg⟩
  have GR1 := Lib.hid (gtrans GR0.out (gfr1 (hg)))
  have X_1 := Lib.hid (gblock hg (balloc1_0 w (.cells #[.int .u16 sz, .int .u8 e, .int .u8 v, .int .u16 f, .slice A l.length ca] 27)) (by simp))
  clear hg GR0
  have Q1 := Lib.hid hq1
  clear hq1
  cases q1 with
  | true =>
    clear X_1
    go_wp2_with fail
    refine Calls.mono (awake06 _ (HE.out.kept (GR1.out) (by simp))) ?_
    rintro e w2 ⟨rfl, hg⟩
    have GR2 := Lib.hid (gtrans GR1.out (hg))
    clear hg GR1
    go_wp2_with fail
    go_ret
    exact ⟨rfl, GR2.out⟩
  | false =>
    have L1 := Lib.hid (Q1.out rfl)
    clear Q1
    have l1 := L1.out.1
    by_cases hbig : 20000 < s.size
    · clear X_1
      have bb : decide ((20000 : Int) < (s.size : Int)) = true := by simp; omega
      go_wp2_with fail
      refine Calls.mono (awake06 _ (HE.out.kept (GR1.out) (by simp))) ?_
      rintro e w2 ⟨rfl, hg⟩
      have GR2 := Lib.hid (gtrans GR1.out (hg))
      clear hg GR1
      go_wp2_with fail
      go_ret
      exact ⟨rfl, GR2.out⟩
    · have bb : decide ((20000 : Int) < (s.size : Int)) = false := by simp; omega
      go_wp2_with fail
      refine Calls.mono (awake06 _ (HE.out.kept (GR1.out) (by simp))) ?_
      rintro e w2 ⟨rfl, hg⟩
      have GR2 := Lib.hid (gtrans GR1.out (hg))
      have X_2 := Lib.hid (gblock (hg) X_1.out (by simp))
      clear hg GR1 X_1
      have c_X_0 : w2.cell? ⟨w.heap.size, 0, none⟩ = some (.int .u16 sz) := bcellAt X_2.out 0
      have c_X_1 : w2.cell? ⟨w.heap.size, 1, none⟩ = some (.int .u8 e) := bcellAt X_2.out 1
      have c_X_2 : w2.cell? ⟨w.heap.size, 2, none⟩ = some (.int .u8 v) := bcellAt X_2.out 2
      have c_X_3 : w2.cell? ⟨w.heap.size, 3, none⟩ = some (.int .u16 f) := bcellAt X_2.out 3
      have c_X_4 : w2.cell? ⟨w.heap.size, 4, none⟩ = some (.slice A l.length ca) := bcellAt X_2.out 4
      have l_X : w.heap.size < w2.heap.size := blt X_2.out
      go_wp2_with fail
      refine Calls.mono (ewrite_ok sz e v f A ca l _ h1 h2 h3 (HA.out.kept GR2.out) hl HC.out HO.out) ?_
      rintro e w3 ⟨rfl, hg⟩
      have GR3 := Lib.hid (gtrans GR2.out (hg))
      have X_3 := Lib.hid (gblock (hg) X_2.out (by simp))
      clear hg GR2 X_2 c_X_0 c_X_1 c_X_2 c_X_3 c_X_4 l_X
      generalize hT : ttlN e v f = T at *
      have HT := Lib.hid hT
      clear hT
      generalize (⟨(opsB l).toArray⟩ : ByteArray) = st at *
      go_wp2_with fail
      refine Calls.mono (eread_l sz T st l e v f _ (HE.out.kept (GR3.out) (by simp)) TL.out hz HW.out TE.out TV.out TF.out) ?_
      rintro e w4 ⟨A2, c2, rfl, hv, hg⟩
      have GR4 := Lib.hid (gtrans GR3.out (hg))
      have X_4 := Lib.hid (gblock (hg) X_3.out (by simp))
      clear hg GR3 X_3
      have V_4 := Lib.hid hv
      clear hv
      have c_X_0 : w4.cell? ⟨w.heap.size, 0, none⟩ = some (.int .u16 sz) := bcellAt X_4.out 0
      have c_X_1 : w4.cell? ⟨w.heap.size, 1, none⟩ = some (.int .u8 e) := bcellAt X_4.out 1
      have c_X_2 : w4.cell? ⟨w.heap.size, 2, none⟩ = some (.int .u8 v) := bcellAt X_4.out 2
      have c_X_3 : w4.cell? ⟨w.heap.size, 3, none⟩ = some (.int .u16 f) := bcellAt X_4.out 3
      have c_X_4 : w4.cell? ⟨w.heap.size, 4, none⟩ = some (.slice A l.length ca) := bcellAt X_4.out 4
      have l_X : w.heap.size < w4.heap.size := blt X_4.out
      go_wp2_with fail
      refine Calls.mono (same_rr _ _ _ _ A A2 ca c2 l _ (HA.out.kept (galloc (GR4.out) _)) (V_4.out.kept (galloc (grefl _ none) _)) (by omega)) ?_
      rintro e w5 ⟨rfl, hg⟩
      have GR5 := Lib.hid (gtrans GR4.out (gfr1 (hg)))
      have X_5 := Lib.hid (gblock (gfr1 (hg)) X_4.out (by simp))
      have Y_5 := Lib.hid (gblock hg (balloc1_0 w4 (.cells #[.int .u16 sz, .int .u8 e, .int .u8 v, .int .u16 f, .slice A2 l.length c2] 27)) (by simp))
      have V_5 := Lib.hid (V_4.out.kept (gfr1 (hg)))
      clear hg GR4 X_4 V_4 c_X_0 c_X_1 c_X_2 c_X_3 c_X_4 l_X
      have c_X_0 : w5.cell? ⟨w.heap.size, 0, none⟩ = some (.int .u16 sz) := bcellAt X_5.out 0
      have c_X_1 : w5.cell? ⟨w.heap.size, 1, none⟩ = some (.int .u8 e) := bcellAt X_5.out 1
      have c_X_2 : w5.cell? ⟨w.heap.size, 2, none⟩ = some (.int .u8 v) := bcellAt X_5.out 2
      have c_X_3 : w5.cell? ⟨w.heap.size, 3, none⟩ = some (.int .u16 f) := bcellAt X_5.out 3
      have c_X_4 : w5.cell? ⟨w.heap.size, 4, none⟩ = some (.slice A l.length ca) := bcellAt X_5.out 4
      have l_X : w.heap.size < w5.heap.size := blt X_5.out
      have c_Y_0 : w5.cell? ⟨w4.heap.size, 0, none⟩ = some (.int .u16 sz) := bcellAt Y_5.out 0
      have c_Y_1 : w5.cell? ⟨w4.heap.size, 1, none⟩ = some (.int .u8 e) := bcellAt Y_5.out 1
      have c_Y_2 : w5.cell? ⟨w4.heap.size, 2, none⟩ = some (.int .u8 v) := bcellAt Y_5.out 2
      have c_Y_3 : w5.cell? ⟨w4.heap.size, 3, none⟩ = some (.int .u16 f) := bcellAt Y_5.out 3
      have c_Y_4 : w5.cell? ⟨w4.heap.size, 4, none⟩ = some (.slice A2 l.length c2) := bcellAt Y_5.out 4
      have l_Y : w4.heap.size < w5.heap.size := blt Y_5.out
      go_wp2_with fail
      refine Calls.mono (same_ee _ _ _ _ A A2 ca c2 l _ (HA.out.kept (GR5.out)) V_5.out (by omega)) ?_
      rintro e w6 ⟨rfl, hg⟩
      have GR6 := Lib.hid (gtrans GR5.out (hg))
      have X_6 := Lib.hid (gblock (hg) X_5.out (by simp))
      have Y_6 := Lib.hid (gblock (hg) Y_5.out (by simp))
      have V_6 := Lib.hid (V_5.out.kept (hg))
      clear hg GR5 X_5 Y_5 V_5 c_X_0 c_X_1 c_X_2 c_X_3 c_X_4 l_X c_Y_0 c_Y_1 c_Y_2 c_Y_3 c_Y_4 l_Y
      clear X_6
      clear Y_6
      clear V_6
      go_wp2_with fail
      refine Calls.mono (eread_l cl tt s m _ _ _ _ (HE.out.kept (GR6.out) (by simp)) htt (by omega) HM.out rfl rfl rfl) ?_
      rintro e w7 ⟨A3, c3, rfl, hv, hg⟩
      have GR7 := Lib.hid (gtrans GR6.out (hg))
      clear hg GR6
      have V_7 := Lib.hid hv
      clear hv
      have hr := ops_read HM.out
      have hml := opsAt_few HM.out (show s.size ≤ 20000 by omega)
      have HR := Lib.hid hr
      have hrl : (opsB m).length ≤ 20000 := by rw [hr.1]; have : s.data.toList.length = s.size := Array.length_toList; omega
      clear hr
      go_wp2_with fail
      refine Calls.mono (ewrite_ok cl (tt / 16777216) (tt / 65536 % 256) (tt % 65536) A3 c3 m _ (by omega) (by omega) (by omega) (V_7.out.kept (galloc (grefl _ none) _)) (by unfold maxLen; omega) (fun o h => (HR.out.2 o h).1) (by unfold okO; omega)) ?_
      rw [ttl_back, HR.out.1, ba_mk]
      rintro e_ w8 ⟨rfl, hg⟩
      have GR8 := Lib.hid (gtrans GR7.out (gfr1 (hg)))
      have M_8 := Lib.hid (gblock hg (balloc1_0 w7 (.cells #[.int .u16 cl, .int .u8 ((tt / 16777216 : Nat) : Int), .int .u8 ((tt / 65536 % 256 : Nat) : Int), .int .u16 ((tt % 65536 : Nat) : Int), .slice A3 m.length c3] 27)) (by simp))
      have V_8 := Lib.hid (V_7.out.kept (gfr1 (hg)))
      clear hg GR7 V_7
      have b2 : decide ((65535 : Int) < (s.size : Int)) = false := by simp; omega
      go_wp2_with fail
      go_ret
      exact ⟨rfl, GR8.out⟩

set_option maxHeartbeats 4000000 in
set_option maxRecDepth 100000 in
theorem back6_ws (sz e v f : Nat) (A : Option Addr) (ca : Nat) (l : List Opt) (cl tt : Nat) (s : ByteArray) (w : World) (het : Et w)
    (h1 : e < 256) (h2 : v < 256) (h3 : f < 65536) (ha : Ops w (.slice A l.length ca) l) (hl : l.length ≤ maxLen) (hc : ∀ o ∈ l, o.1 < 65536) (htt : tt < 4294967296) (ho : okO l) (hm : opsAt s 0 = none) :
    Calls Tryd.prog 9 #[.agg #[.int .u16 sz, .int .u8 e, .int .u8 v, .int .u16 f, .slice A l.length ca], .int .u16 cl, .int .u32 tt, .string s] w fun e w' => e = .returned (.bool true) ∧ w.grownBy w' none := by
  have HE := Lib.hid het
  have HA := Lib.hid ha
  have HC := Lib.hid hc
  have HO := Lib.hid ho
  have HM := Lib.hid hm
  have HW := Lib.hid (ops_back l (fun o h => ⟨hc o h, by obtain ⟨k, hk, rfl⟩ := List.mem_iff_getElem.1 h; have := opsB_mem l k hk; unfold okO at ho; omega⟩))
  have hz : (⟨(opsB l).toArray⟩ : ByteArray).size ≤ 100000 := by show (opsB l).toArray.size ≤ _; unfold okO at ho; simp; omega
  have TL := Lib.hid (ttl_lt e v f h1 h2 h3)
  have TE := Lib.hid (ttl_e e v f h2 h3)
  have TV := Lib.hid (ttl_v e v f h2 h3)
  have TF := Lib.hid (ttl_f e v f h3)
  clear het ha hc ho hm
  go_enter Tryd.func9, Tryd.ntmps9
  have GR0 := Lib.hid (grefl w none)
  go_wp2_with fail
  refine Calls.mono (long_any _ _ _ _ A ca l _ (HA.out.kept (galloc (GR0.out) _)) hl) ?_
  rintro e w1 ⟨q1, rfl, hq1, hg⟩
  have GR1 := Lib.hid (gtrans GR0.out (gfr1 (hg)))
  have X_1 := Lib.hid (gblock hg (balloc1_0 w (.cells #[.int .u16 sz, .int .u8 e, .int .u8 v, .int .u16 f, .slice A l.length ca] 27)) (by simp))
  clear hg GR0
  have Q1 := Lib.hid hq1
  clear hq1
  cases q1 with
  | true =>
    clear X_1
    go_wp2_with fail
    refine Calls.mono (awake06 _ (HE.out.kept (GR1.out) (by simp))) ?_
    rintro e w2 ⟨rfl, hg⟩
    have GR2 := Lib.hid (gtrans GR1.out (hg))
    clear hg GR1
    go_wp2_with fail
    go_ret
    exact ⟨rfl, GR2.out⟩
  | false =>
    have L1 := Lib.hid (Q1.out rfl)
    clear Q1
    have l1 := L1.out.1
    by_cases hbig : 20000 < s.size
    · clear X_1
      have bb : decide ((20000 : Int) < (s.size : Int)) = true := by simp; omega
      go_wp2_with fail
      refine Calls.mono (awake06 _ (HE.out.kept (GR1.out) (by simp))) ?_
      rintro e w2 ⟨rfl, hg⟩
      have GR2 := Lib.hid (gtrans GR1.out (hg))
      clear hg GR1
      go_wp2_with fail
      go_ret
      exact ⟨rfl, GR2.out⟩
    · have bb : decide ((20000 : Int) < (s.size : Int)) = false := by simp; omega
      go_wp2_with fail
      refine Calls.mono (awake06 _ (HE.out.kept (GR1.out) (by simp))) ?_
      rintro e w2 ⟨rfl, hg⟩
      have GR2 := Lib.hid (gtrans GR1.out (hg))
      have X_2 := Lib.hid (gblock (hg) X_1.out (by simp))
      clear hg GR1 X_1
      have c_X_0 : w2.cell? ⟨w.heap.size, 0, none⟩ = some (.int .u16 sz) := bcellAt X_2.out 0
      have c_X_1 : w2.cell? ⟨w.heap.size, 1, none⟩ = some (.int .u8 e) := bcellAt X_2.out 1
      have c_X_2 : w2.cell? ⟨w.heap.size, 2, none⟩ = some (.int .u8 v) := bcellAt X_2.out 2
      have c_X_3 : w2.cell? ⟨w.heap.size, 3, none⟩ = some (.int .u16 f) := bcellAt X_2.out 3
      have c_X_4 : w2.cell? ⟨w.heap.size, 4, none⟩ = some (.slice A l.length ca) := bcellAt X_2.out 4
      have l_X : w.heap.size < w2.heap.size := blt X_2.out
      go_wp2_with fail
      refine Calls.mono (ewrite_ok sz e v f A ca l _ h1 h2 h3 (HA.out.kept GR2.out) hl HC.out HO.out) ?_
      rintro e w3 ⟨rfl, hg⟩
      have GR3 := Lib.hid (gtrans GR2.out (hg))
      have X_3 := Lib.hid (gblock (hg) X_2.out (by simp))
      clear hg GR2 X_2 c_X_0 c_X_1 c_X_2 c_X_3 c_X_4 l_X
      generalize hT : ttlN e v f = T at *
      have HT := Lib.hid hT
      clear hT
      generalize (⟨(opsB l).toArray⟩ : ByteArray) = st at *
      go_wp2_with fail
      refine Calls.mono (eread_l sz T st l e v f _ (HE.out.kept (GR3.out) (by simp)) TL.out hz HW.out TE.out TV.out TF.out) ?_
      rintro e w4 ⟨A2, c2, rfl, hv, hg⟩
      have GR4 := Lib.hid (gtrans GR3.out (hg))
      have X_4 := Lib.hid (gblock (hg) X_3.out (by simp))
      clear hg GR3 X_3
      have V_4 := Lib.hid hv
      clear hv
      have c_X_0 : w4.cell? ⟨w.heap.size, 0, none⟩ = some (.int .u16 sz) := bcellAt X_4.out 0
      have c_X_1 : w4.cell? ⟨w.heap.size, 1, none⟩ = some (.int .u8 e) := bcellAt X_4.out 1
      have c_X_2 : w4.cell? ⟨w.heap.size, 2, none⟩ = some (.int .u8 v) := bcellAt X_4.out 2
      have c_X_3 : w4.cell? ⟨w.heap.size, 3, none⟩ = some (.int .u16 f) := bcellAt X_4.out 3
      have c_X_4 : w4.cell? ⟨w.heap.size, 4, none⟩ = some (.slice A l.length ca) := bcellAt X_4.out 4
      have l_X : w.heap.size < w4.heap.size := blt X_4.out
      go_wp2_with fail
      refine Calls.mono (same_rr _ _ _ _ A A2 ca c2 l _ (HA.out.kept (galloc (GR4.out) _)) (V_4.out.kept (galloc (grefl _ none) _)) (by omega)) ?_
      rintro e w5 ⟨rfl, hg⟩
      have GR5 := Lib.hid (gtrans GR4.out (gfr1 (hg)))
      have X_5 := Lib.hid (gblock (gfr1 (hg)) X_4.out (by simp))
      have Y_5 := Lib.hid (gblock hg (balloc1_0 w4 (.cells #[.int .u16 sz, .int .u8 e, .int .u8 v, .int .u16 f, .slice A2 l.length c2] 27)) (by simp))
      have V_5 := Lib.hid (V_4.out.kept (gfr1 (hg)))
      clear hg GR4 X_4 V_4 c_X_0 c_X_1 c_X_2 c_X_3 c_X_4 l_X
      have c_X_0 : w5.cell? ⟨w.heap.size, 0, none⟩ = some (.int .u16 sz) := bcellAt X_5.out 0
      have c_X_1 : w5.cell? ⟨w.heap.size, 1, none⟩ = some (.int .u8 e) := bcellAt X_5.out 1
      have c_X_2 : w5.cell? ⟨w.heap.size, 2, none⟩ = some (.int .u8 v) := bcellAt X_5.out 2
      have c_X_3 : w5.cell? ⟨w.heap.size, 3, none⟩ = some (.int .u16 f) := bcellAt X_5.out 3
      have c_X_4 : w5.cell? ⟨w.heap.size, 4, none⟩ = some (.slice A l.length ca) := bcellAt X_5.out 4
      have l_X : w.heap.size < w5.heap.size := blt X_5.out
      have c_Y_0 : w5.cell? ⟨w4.heap.size, 0, none⟩ = some (.int .u16 sz) := bcellAt Y_5.out 0
      have c_Y_1 : w5.cell? ⟨w4.heap.size, 1, none⟩ = some (.int .u8 e) := bcellAt Y_5.out 1
      have c_Y_2 : w5.cell? ⟨w4.heap.size, 2, none⟩ = some (.int .u8 v) := bcellAt Y_5.out 2
      have c_Y_3 : w5.cell? ⟨w4.heap.size, 3, none⟩ = some (.int .u16 f) := bcellAt Y_5.out 3
      have c_Y_4 : w5.cell? ⟨w4.heap.size, 4, none⟩ = some (.slice A2 l.length c2) := bcellAt Y_5.out 4
      have l_Y : w4.heap.size < w5.heap.size := blt Y_5.out
      go_wp2_with fail
      refine Calls.mono (same_ee _ _ _ _ A A2 ca c2 l _ (HA.out.kept (GR5.out)) V_5.out (by omega)) ?_
      rintro e w6 ⟨rfl, hg⟩
      have GR6 := Lib.hid (gtrans GR5.out (hg))
      have X_6 := Lib.hid (gblock (hg) X_5.out (by simp))
      have Y_6 := Lib.hid (gblock (hg) Y_5.out (by simp))
      have V_6 := Lib.hid (V_5.out.kept (hg))
      clear hg GR5 X_5 Y_5 V_5 c_X_0 c_X_1 c_X_2 c_X_3 c_X_4 l_X c_Y_0 c_Y_1 c_Y_2 c_Y_3 c_Y_4 l_Y
      clear X_6
      clear Y_6
      clear V_6
      go_wp2_with fail
      refine Calls.mono (eread_none cl tt s _ (HE.out.kept (GR6.out) (by simp)) htt (by omega) HM.out) ?_
      rintro e w7 ⟨rfl, hg⟩
      have GR7 := Lib.hid (gtrans GR6.out (hg))
      clear hg GR6
      go_wp2_with fail
      refine Calls.mono (same_rr _ _ _ _ none none 0 0 [] _ (Sl.nil _ 2) (Sl.nil _ 2) (by simp)) ?_
      rintro e w8 ⟨rfl, hg⟩
      have GR8 := Lib.hid (gtrans GR7.out (gfr1 (hg)))
      have Y_8 := Lib.hid (gblock hg (balloc1_0 w7 (.cells #[.int .u16 0, .int .u8 0, .int .u8 0, .int .u16 0, .slice none 0 0] 27)) (by simp))
      clear hg GR7
      go_wp2_with fail
      go_ret
      exact ⟨rfl, GR8.out⟩

set_option maxHeartbeats 4000000 in
set_option maxRecDepth 100000 in
theorem back6_nr (sz e v f : Nat) (A : Option Addr) (ca : Nat) (l : List Opt) (cl tt : Nat) (s : ByteArray) (w : World) (het : Et w)
    (h1 : e < 256) (h2 : v < 256) (h3 : f < 65536) (ha : Ops w (.slice A l.length ca) l) (hl : l.length ≤ maxLen) (hc : ∀ o ∈ l, o.1 < 65536) (htt : tt < 4294967296) (ho : ¬ okO l) (m : List Opt) (hm : opsAt s 0 = some m) :
    Calls Tryd.prog 9 #[.agg #[.int .u16 sz, .int .u8 e, .int .u8 v, .int .u16 f, .slice A l.length ca], .int .u16 cl, .int .u32 tt, .string s] w fun e w' => e = .returned (.bool true) ∧ w.grownBy w' none := by
  have HE := Lib.hid het
  have HA := Lib.hid ha
  have HC := Lib.hid hc
  have HO := Lib.hid ho
  have HM := Lib.hid hm
  clear het ha hc ho hm
  go_enter Tryd.func9, Tryd.ntmps9
  have GR0 := Lib.hid (grefl w none)
  go_wp2_with fail
  refine Calls.mono (long_any _ _ _ _ A ca l _ (HA.out.kept (galloc (GR0.out) _)) hl) ?_
  rintro e w1 ⟨q1, rfl, hq1, hg⟩
  have GR1 := Lib.hid (gtrans GR0.out (gfr1 (hg)))
  have X_1 := Lib.hid (gblock hg (balloc1_0 w (.cells #[.int .u16 sz, .int .u8 e, .int .u8 v, .int .u16 f, .slice A l.length ca] 27)) (by simp))
  clear hg GR0
  have Q1 := Lib.hid hq1
  clear hq1
  cases q1 with
  | true =>
    clear X_1
    go_wp2_with fail
    refine Calls.mono (awake06 _ (HE.out.kept (GR1.out) (by simp))) ?_
    rintro e w2 ⟨rfl, hg⟩
    have GR2 := Lib.hid (gtrans GR1.out (hg))
    clear hg GR1
    go_wp2_with fail
    go_ret
    exact ⟨rfl, GR2.out⟩
  | false =>
    have L1 := Lib.hid (Q1.out rfl)
    clear Q1
    have l1 := L1.out.1
    by_cases hbig : 20000 < s.size
    · clear X_1
      have bb : decide ((20000 : Int) < (s.size : Int)) = true := by simp; omega
      go_wp2_with fail
      refine Calls.mono (awake06 _ (HE.out.kept (GR1.out) (by simp))) ?_
      rintro e w2 ⟨rfl, hg⟩
      have GR2 := Lib.hid (gtrans GR1.out (hg))
      clear hg GR1
      go_wp2_with fail
      go_ret
      exact ⟨rfl, GR2.out⟩
    · have bb : decide ((20000 : Int) < (s.size : Int)) = false := by simp; omega
      go_wp2_with fail
      refine Calls.mono (awake06 _ (HE.out.kept (GR1.out) (by simp))) ?_
      rintro e w2 ⟨rfl, hg⟩
      have GR2 := Lib.hid (gtrans GR1.out (hg))
      have X_2 := Lib.hid (gblock (hg) X_1.out (by simp))
      clear hg GR1 X_1
      have c_X_0 : w2.cell? ⟨w.heap.size, 0, none⟩ = some (.int .u16 sz) := bcellAt X_2.out 0
      have c_X_1 : w2.cell? ⟨w.heap.size, 1, none⟩ = some (.int .u8 e) := bcellAt X_2.out 1
      have c_X_2 : w2.cell? ⟨w.heap.size, 2, none⟩ = some (.int .u8 v) := bcellAt X_2.out 2
      have c_X_3 : w2.cell? ⟨w.heap.size, 3, none⟩ = some (.int .u16 f) := bcellAt X_2.out 3
      have c_X_4 : w2.cell? ⟨w.heap.size, 4, none⟩ = some (.slice A l.length ca) := bcellAt X_2.out 4
      have l_X : w.heap.size < w2.heap.size := blt X_2.out
      go_wp2_with fail
      refine Calls.mono (ewrite_no sz e v f A ca l _ h1 h2 h3 (HA.out.kept GR2.out) hl HC.out HO.out) ?_
      rintro e w3 ⟨rfl, hg⟩
      have GR3 := Lib.hid (gtrans GR2.out (hg))
      have X_3 := Lib.hid (gblock (hg) X_2.out (by simp))
      clear hg GR2 X_2 c_X_0 c_X_1 c_X_2 c_X_3 c_X_4 l_X
      clear X_3
      go_wp2_with fail
      refine Calls.mono (eread_l cl tt s m _ _ _ _ (HE.out.kept (GR3.out) (by simp)) htt (by omega) HM.out rfl rfl rfl) ?_
      rintro e w4 ⟨A3, c3, rfl, hv, hg⟩
      have GR4 := Lib.hid (gtrans GR3.out (hg))
      clear hg GR3
      have V_4 := Lib.hid hv
      clear hv
      have hr := ops_read HM.out
      have hml := opsAt_few HM.out (show s.size ≤ 20000 by omega)
      have HR := Lib.hid hr
      have hrl : (opsB m).length ≤ 20000 := by rw [hr.1]; have : s.data.toList.length = s.size := Array.length_toList; omega
      clear hr
      go_wp2_with fail
      refine Calls.mono (ewrite_ok cl (tt / 16777216) (tt / 65536 % 256) (tt % 65536) A3 c3 m _ (by omega) (by omega) (by omega) (V_4.out.kept (galloc (grefl _ none) _)) (by unfold maxLen; omega) (fun o h => (HR.out.2 o h).1) (by unfold okO; omega)) ?_
      rw [ttl_back, HR.out.1, ba_mk]
      rintro e_ w5 ⟨rfl, hg⟩
      have GR5 := Lib.hid (gtrans GR4.out (gfr1 (hg)))
      have M_5 := Lib.hid (gblock hg (balloc1_0 w4 (.cells #[.int .u16 cl, .int .u8 ((tt / 16777216 : Nat) : Int), .int .u8 ((tt / 65536 % 256 : Nat) : Int), .int .u16 ((tt % 65536 : Nat) : Int), .slice A3 m.length c3] 27)) (by simp))
      have V_5 := Lib.hid (V_4.out.kept (gfr1 (hg)))
      clear hg GR4 V_4
      have b2 : decide ((65535 : Int) < (s.size : Int)) = false := by simp; omega
      go_wp2_with fail
      go_ret
      exact ⟨rfl, GR5.out⟩

set_option maxHeartbeats 4000000 in
set_option maxRecDepth 100000 in
theorem back6_ns (sz e v f : Nat) (A : Option Addr) (ca : Nat) (l : List Opt) (cl tt : Nat) (s : ByteArray) (w : World) (het : Et w)
    (h1 : e < 256) (h2 : v < 256) (h3 : f < 65536) (ha : Ops w (.slice A l.length ca) l) (hl : l.length ≤ maxLen) (hc : ∀ o ∈ l, o.1 < 65536) (htt : tt < 4294967296) (ho : ¬ okO l) (hm : opsAt s 0 = none) :
    Calls Tryd.prog 9 #[.agg #[.int .u16 sz, .int .u8 e, .int .u8 v, .int .u16 f, .slice A l.length ca], .int .u16 cl, .int .u32 tt, .string s] w fun e w' => e = .returned (.bool true) ∧ w.grownBy w' none := by
  have HE := Lib.hid het
  have HA := Lib.hid ha
  have HC := Lib.hid hc
  have HO := Lib.hid ho
  have HM := Lib.hid hm
  clear het ha hc ho hm
  go_enter Tryd.func9, Tryd.ntmps9
  have GR0 := Lib.hid (grefl w none)
  go_wp2_with fail
  refine Calls.mono (long_any _ _ _ _ A ca l _ (HA.out.kept (galloc (GR0.out) _)) hl) ?_
  rintro e w1 ⟨q1, rfl, hq1, hg⟩
  have GR1 := Lib.hid (gtrans GR0.out (gfr1 (hg)))
  have X_1 := Lib.hid (gblock hg (balloc1_0 w (.cells #[.int .u16 sz, .int .u8 e, .int .u8 v, .int .u16 f, .slice A l.length ca] 27)) (by simp))
  clear hg GR0
  have Q1 := Lib.hid hq1
  clear hq1
  cases q1 with
  | true =>
    clear X_1
    go_wp2_with fail
    refine Calls.mono (awake06 _ (HE.out.kept (GR1.out) (by simp))) ?_
    rintro e w2 ⟨rfl, hg⟩
    have GR2 := Lib.hid (gtrans GR1.out (hg))
    clear hg GR1
    go_wp2_with fail
    go_ret
    exact ⟨rfl, GR2.out⟩
  | false =>
    have L1 := Lib.hid (Q1.out rfl)
    clear Q1
    have l1 := L1.out.1
    by_cases hbig : 20000 < s.size
    · clear X_1
      have bb : decide ((20000 : Int) < (s.size : Int)) = true := by simp; omega
      go_wp2_with fail
      refine Calls.mono (awake06 _ (HE.out.kept (GR1.out) (by simp))) ?_
      rintro e w2 ⟨rfl, hg⟩
      have GR2 := Lib.hid (gtrans GR1.out (hg))
      clear hg GR1
      go_wp2_with fail
      go_ret
      exact ⟨rfl, GR2.out⟩
    · have bb : decide ((20000 : Int) < (s.size : Int)) = false := by simp; omega
      go_wp2_with fail
      refine Calls.mono (awake06 _ (HE.out.kept (GR1.out) (by simp))) ?_
      rintro e w2 ⟨rfl, hg⟩
      have GR2 := Lib.hid (gtrans GR1.out (hg))
      have X_2 := Lib.hid (gblock (hg) X_1.out (by simp))
      clear hg GR1 X_1
      have c_X_0 : w2.cell? ⟨w.heap.size, 0, none⟩ = some (.int .u16 sz) := bcellAt X_2.out 0
      have c_X_1 : w2.cell? ⟨w.heap.size, 1, none⟩ = some (.int .u8 e) := bcellAt X_2.out 1
      have c_X_2 : w2.cell? ⟨w.heap.size, 2, none⟩ = some (.int .u8 v) := bcellAt X_2.out 2
      have c_X_3 : w2.cell? ⟨w.heap.size, 3, none⟩ = some (.int .u16 f) := bcellAt X_2.out 3
      have c_X_4 : w2.cell? ⟨w.heap.size, 4, none⟩ = some (.slice A l.length ca) := bcellAt X_2.out 4
      have l_X : w.heap.size < w2.heap.size := blt X_2.out
      go_wp2_with fail
      refine Calls.mono (ewrite_no sz e v f A ca l _ h1 h2 h3 (HA.out.kept GR2.out) hl HC.out HO.out) ?_
      rintro e w3 ⟨rfl, hg⟩
      have GR3 := Lib.hid (gtrans GR2.out (hg))
      have X_3 := Lib.hid (gblock (hg) X_2.out (by simp))
      clear hg GR2 X_2 c_X_0 c_X_1 c_X_2 c_X_3 c_X_4 l_X
      clear X_3
      go_wp2_with fail
      refine Calls.mono (eread_none cl tt s _ (HE.out.kept (GR3.out) (by simp)) htt (by omega) HM.out) ?_
      rintro e w4 ⟨rfl, hg⟩
      have GR4 := Lib.hid (gtrans GR3.out (hg))
      clear hg GR3
      go_wp2_with fail
      refine Calls.mono (same_rr _ _ _ _ none none 0 0 [] _ (Sl.nil _ 2) (Sl.nil _ 2) (by simp)) ?_
      rintro e w5 ⟨rfl, hg⟩
      have GR5 := Lib.hid (gtrans GR4.out (gfr1 (hg)))
      have Y_5 := Lib.hid (gblock hg (balloc1_0 w4 (.cells #[.int .u16 0, .int .u8 0, .int .u8 0, .int .u16 0, .slice none 0 0] 27)) (by simp))
      clear hg GR4
      go_wp2_with fail
      go_ret
      exact ⟨rfl, GR5.out⟩

theorem back6_walk (sz e v f : Nat) (A : Option Addr) (ca : Nat) (l : List Opt) (cl tt : Nat) (s : ByteArray) (w : World) (het : Et w)
    (h1 : e < 256) (h2 : v < 256) (h3 : f < 65536) (ha : Ops w (.slice A l.length ca) l) (hl : l.length ≤ maxLen) (hc : ∀ o ∈ l, o.1 < 65536) (htt : tt < 4294967296) : Calls Tryd.prog 9 #[.agg #[.int .u16 sz, .int .u8 e, .int .u8 v, .int .u16 f, .slice A l.length ca], .int .u16 cl, .int .u32 tt, .string s] w fun e w' => e = .returned (.bool true) ∧ w.grownBy w' none := by
  by_cases ho : okO l
  · cases hm : opsAt s 0 with
    | none => exact back6_ws sz e v f A ca l cl tt s w het h1 h2 h3 ha hl hc htt ho hm
    | some m => exact back6_wr sz e v f A ca l cl tt s w het h1 h2 h3 ha hl hc htt ho m hm
  · cases hm : opsAt s 0 with
    | none => exact back6_ns sz e v f A ca l cl tt s w het h1 h2 h3 ha hl hc htt ho hm
    | some m => exact back6_nr sz e v f A ca l cl tt s w het h1 h2 h3 ha hl hc htt ho m hm
end Go.Proofs.YtcednhpelbdoiaaDoor
