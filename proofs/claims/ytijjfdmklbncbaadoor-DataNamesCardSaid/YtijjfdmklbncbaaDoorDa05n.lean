/-
  DataWhole.
-/
import Derived.Test.YtijjfdmklbncbaaDoorDa05l
import Derived.Test.YtijjfdmklbncbaaDoorDaLaw
namespace Go.Proofs.YtijjfdmklbncbaaDoor
open Go.RowKit

theorem i64_top' {x : Int} (h : (Lit.int .i64 x).wf = true) : Hid (x ≤ 9223372036854775807) := by
  refine Lib.hid ?_
  simp only [Lit.wf, IntKind.min, IntKind.max, IntKind.signed, IntKind.bits, Bool.and_eq_true, decide_eq_true_eq, if_true] at h
  have := h.2
  omega
theorem rdD_facts (msg : ByteArray) (a n : Int) (kind : Nat) : (rdD msg a n kind).1.size ≤ 3 * (msg.size + 255) ∧ ((rdD msg a n kind).2 ≠ 0 → (rdD msg a n kind).1 = ⟨#[]⟩) := by
  unfold rdD
  split
  · exact ⟨Nat.zero_le _, fun _ => rfl⟩
  · rename_i hc
    cases hr : splF (msg.extract 0 (a + n).toNat) a.toNat kind with
    | no e => exact ⟨Nat.zero_le _, fun _ => rfl⟩
    | ok l =>
      refine ⟨?_, fun h => absurd rfl h⟩
      have hg := spl_good (by rw [ext_size]; omega) hr
      have hl := spl_len hr
      have hb : ∀ x ∈ l, x.text.size ≤ msg.size + 255 := fun x hx => by
        have := (hg x hx).1
        rw [ext_size] at this
        omega
      have := tx_len hb l.length (Nat.le_refl _)
      rw [List.take_length] at this
      simp only
      rw [size_mk]
      have : (msg.size + 255) * l.length ≤ (msg.size + 255) * 3 := Nat.mul_le_mul_left _ hl
      omega
theorem rdD_whole {kind : Nat} {d : ByteArray} (h : mayD kind d = true) : rdD d 0 (d.size : Int) kind = (d, 0) := by
  unfold mayD at h
  cases hw : whF kind d with
  | none => rw [hw] at h; cases h
  | some l =>
    obtain ⟨h1, h2, _⟩ := wh_good hw
    unfold rdD
    rw [if_neg (by omega), show ((0 : Int) + (d.size : Int)).toNat = d.size by omega, show ((0 : Int)).toNat = 0 from rfl]
    have e : d.extract 0 d.size = d := by
      rw [exK_eq]
      unfold exK
      rw [List.drop_zero, Nat.sub_zero, List.take_of_length_le (by rw [nlen]; exact Nat.le_refl _)]
    rw [e, h1]
    simp only
    rw [h2]

set_option maxRecDepth 100000 in
set_option maxHeartbeats 1000000 in
theorem whole5_walk (msg : ByteArray) (at_ n : Int) (kind : Nat) (data : ByteArray) (w : World) (he : Et w) (ha : Hid (at_ ≤ 9223372036854775807)) : Calls Tryd.prog 6 #[.string msg, .int .i64 at_, .int .i64 n, .int .u16 kind, .string data] w fun e w' => e = .returned (.bool true) ∧ w.grownBy w' none := by
  have HE := Lib.hid he
  by_cases hs : 4000 < msg.size
  · have hb : decide ((4000 : Int) < (msg.size : Int)) = true := by simp; omega
    go_enter Tryd.func6, Tryd.ntmps6
    go_wp2_with fail
    refine Calls.mono (awake05 w he) ?_
    rintro e w1 ⟨rfl, hg⟩
    go_wp2_with fail
    go_ret
    exact ⟨rfl, hg⟩
  have hb : decide ((4000 : Int) < (msg.size : Int)) = false := by simp; omega
  by_cases hs2 : 4000 < data.size
  · have hb2 : decide ((4000 : Int) < (data.size : Int)) = true := by simp; omega
    go_enter Tryd.func6, Tryd.ntmps6
    go_wp2_with fail
    refine Calls.mono (awake05 w he) ?_
    rintro e w1 ⟨rfl, hg⟩
    go_wp2_with fail
    go_ret
    exact ⟨rfl, hg⟩
  have hb2 : decide ((4000 : Int) < (data.size : Int)) = false := by simp; omega
  clear he
  have LT := Lib.hid (show (0 : Int) ≤ 9223372036854775807 by decide)
  have K1 := Lib.hid (fun w h => rdata_any msg at_ n kind w h (by omega) ha)
  have K2 := Lib.hid (fun w h => rdata_any data 0 (data.size : Int) kind w h (by omega) LT)
  have K3 := Lib.hid (fun w h => mayd_any kind data w h (by omega))
  obtain ⟨f1, f2⟩ := rdD_facts msg at_ n kind
  have HM := Lib.hid (fun s (h : rdD msg at_ n kind = (s, 0)) => read_may h)
  have HW := Lib.hid (fun h => rdD_whole (kind := kind) (d := data) h)
  generalize rdD msg at_ n kind = r at *
  obtain ⟨t, x⟩ := r
  generalize rdD data 0 (data.size : Int) kind = r2 at *
  obtain ⟨t2, x2⟩ := r2
  simp only at K1 K2 f1 f2
  generalize mayD kind data = md at *
  have K4 := Lib.hid (fun w h => mayd_any kind t w h (by omega))
  by_cases hx : x = 0
  · subst hx
    have hmt := HM.out t rfl
    rw [hmt] at K4
    clear hmt f2
    go_enter Tryd.func6, Tryd.ntmps6
    go_wp2_with fail
    refine Calls.mono (awake05 w HE.out) ?_
    rintro e w1 ⟨rfl, hg⟩
    have G1 := Lib.hid hg
    clear hg
    go_wp2_with fail
    refine Calls.mono (K1.out _ (HE.out.kept G1.out (by simp))) ?_
    rintro e w2 ⟨rfl, hg⟩
    have G2 := Lib.hid (gtrans G1.out hg)
    clear hg G1
    go_wp2_with fail
    refine Calls.mono (K4.out _ (HE.out.kept G2.out (by simp))) ?_
    rintro e w3 ⟨rfl, hg⟩
    have G3 := Lib.hid (gtrans G2.out hg)
    clear hg G2
    go_wp2_with fail
    refine Calls.mono (K2.out _ (HE.out.kept G3.out (by simp))) ?_
    rintro e w4 ⟨rfl, hg⟩
    have G4 := Lib.hid (gtrans G3.out hg)
    clear hg G3
    cases hmd : md with
    | false =>
      subst hmd
      go_wp2_with fail
      refine Calls.mono (K3.out _ (HE.out.kept G4.out (by simp))) ?_
      rintro e w5 ⟨rfl, hg⟩
      have G5 := Lib.hid (gtrans G4.out hg)
      clear hg G4
      go_wp2_with fail
      go_ret
      exact ⟨rfl, G5.out⟩
    | true =>
      subst hmd
      have hw := HW.out rfl
      simp only [Prod.mk.injEq] at hw
      obtain ⟨rfl, rfl⟩ := hw
      have n1 : (t2.toList == t2.toList) = true := by simp
      go_wp2_with fail
      refine Calls.mono (K3.out _ (HE.out.kept G4.out (by simp))) ?_
      rintro e w5 ⟨rfl, hg⟩
      have G5 := Lib.hid (gtrans G4.out hg)
      clear hg G4
      go_wp2_with fail
      go_ret
      exact ⟨rfl, G5.out⟩
  · have ht := f2 hx
    subst ht
    have k1 : ((x : Int) == 0) = false := by simp; omega
    have k2 : ((x : Int) != 0) = true := by simp; omega
    clear f2 f1 HM K4
    go_enter Tryd.func6, Tryd.ntmps6
    go_wp2_with fail
    refine Calls.mono (awake05 w HE.out) ?_
    rintro e w1 ⟨rfl, hg⟩
    have G1 := Lib.hid hg
    clear hg
    go_wp2_with fail
    refine Calls.mono (K1.out _ (HE.out.kept G1.out (by simp))) ?_
    rintro e w2 ⟨rfl, hg⟩
    have G2 := Lib.hid (gtrans G1.out hg)
    clear hg G1
    go_wp2_with fail
    refine Calls.mono (K2.out _ (HE.out.kept G2.out (by simp))) ?_
    rintro e w4 ⟨rfl, hg⟩
    have G4 := Lib.hid (gtrans G2.out hg)
    clear hg G2
    cases hmd : md with
    | false =>
      subst hmd
      go_wp2_with fail
      refine Calls.mono (K3.out _ (HE.out.kept G4.out (by simp))) ?_
      rintro e w5 ⟨rfl, hg⟩
      have G5 := Lib.hid (gtrans G4.out hg)
      clear hg G4
      go_wp2_with fail
      go_ret
      exact ⟨rfl, G5.out⟩
    | true =>
      subst hmd
      have hw := HW.out rfl
      simp only [Prod.mk.injEq] at hw
      obtain ⟨rfl, rfl⟩ := hw
      have n1 : (t2.toList == t2.toList) = true := by simp
      go_wp2_with fail
      refine Calls.mono (K3.out _ (HE.out.kept G4.out (by simp))) ?_
      rintro e w5 ⟨rfl, hg⟩
      have G5 := Lib.hid (gtrans G4.out hg)
      clear hg G4
      go_wp2_with fail
      go_ret
      exact ⟨rfl, G5.out⟩
end Go.Proofs.YtijjfdmklbncbaaDoor
