/-
  CompBehind.
-/
import Derived.Test.YtjjegmgjnfkblaaDoorCo04g
import Derived.Deep.Cut
namespace Go.Proofs.YtjjegmgjnfkblaaDoor
open Go.RowKit

theorem str_ne {a b : ByteArray} (h : ¬ a = b) : (a.toList == b.toList) = false := by
  rw [beq_eq_false_iff_ne]
  intro e
  rw [ByteArray.toList_eq, ByteArray.toList_eq] at e
  exact h (ba_ext e)
theorem behind_more {s t : ByteArray} {at_ : Int} {m : List UInt8} {next : Nat} (h : rdAt s at_ = .ok m next) : rdAt (s ++ t) at_ = .ok m next := by
  obtain ⟨_, _, _, h3, h4, h5⟩ := rdAt_ok h
  rw [rdAt_in h3 (by rw [ByteArray.size_append]; omega)]
  exact rd_more (ahead_append s t) h5
/-- Of the bytes up to the place behind: as it was, or short, and then not as many bytes as the name has. -/
theorem behind_cut {s : ByteArray} {at_ : Int} {m : List UInt8} {next : Nat} (h : rdAt s at_ = .ok m next) : rdAt (s.extract 0 next) at_ = .ok m next ∨ (rdAt (s.extract 0 next) at_ = .no 4 ∧ ((m.length : Int) = (next : Int) - at_ → False)) := by
  obtain ⟨_, h1, h2, h3, h4, h5⟩ := rdAt_ok h
  obtain ⟨ha, hs⟩ := ahead_cut s next h2
  rw [rdAt_in h3 (by omega)]
  rcases rd_ahead ha at_.toNat at_.toNat none [] with h6 | h6
  · exact .inl (h6.trans h5)
  · obtain ⟨k1, k2⟩ := rd_plain _ _ _ _ _ _ rfl h5
    rcases k2 with ⟨_, k3⟩ | k3
    · exact .inl (k3 _ ha (by omega))
    · refine .inr ⟨h6, fun e => k3 ?_⟩
      simp
      omega
/-- Cut short within. -/
theorem behind_short {s : ByteArray} {at_ : Int} {m : List UInt8} {next k : Nat} (h : rdAt s at_ = .ok m next) (h1 : at_ ≤ (k : Int)) (h2 : k < next) : rdAt (s.extract 0 k) at_ = .no 4 := by
  obtain ⟨_, _, k2, h3, h4, h5⟩ := rdAt_ok h
  obtain ⟨ha, hs⟩ := ahead_cut s k (by omega)
  rw [rdAt_in h3 (by omega)]
  rcases rd_ahead ha at_.toNat at_.toNat none [] with h6 | h6
  · obtain ⟨_, _, h8⟩ := rd_ok_may (a0 := at_.toNat) _ _ _ _ _ _ (h6.trans h5) (fun q e => by cases e) (fun _ => Nat.le_refl _) Lbs.nil (by simp)
    omega
  · exact h6

set_option maxRecDepth 100000 in
theorem behind_big (s t : ByteArray) (at_ cut : Int) (w : World) (he : Et w) (hb : 3000 < s.size ∨ 3000 < t.size) : Calls Tryd.prog 6 #[.string s, .int .i64 at_, .string t, .int .i64 cut] w fun e w' => e = .returned (.bool true) ∧ w.grownBy w' none := by
  have HE := Lib.hid he
  clear he
  by_cases h0 : 3000 < s.size
  · have k0 : decide ((3000 : Int) < (s.size : Int)) = true := by simp; omega
    go_enter Tryd.func6, Tryd.ntmps6
    go_wp2_with fail
    refine Calls.mono (awake04 w HE.out) ?_
    rintro e w1 ⟨rfl, hg⟩
    go_wp2_with fail
    go_ret
    exact ⟨rfl, hg⟩
  · have k0 : decide ((3000 : Int) < (s.size : Int)) = false := by simp; omega
    have k1 : decide ((3000 : Int) < (t.size : Int)) = true := by simp; omega
    go_enter Tryd.func6, Tryd.ntmps6
    go_wp2_with fail
    refine Calls.mono (awake04 w HE.out) ?_
    rintro e w1 ⟨rfl, hg⟩
    go_wp2_with fail
    go_ret
    exact ⟨rfl, hg⟩

set_option maxRecDepth 100000 in
set_option maxHeartbeats 1000000 in
theorem behind_small (s t : ByteArray) (at_ cut : Int) (w : World) (he : Et w) (h0 : s.size ≤ 3000) (h1 : t.size ≤ 3000) : Calls Tryd.prog 6 #[.string s, .int .i64 at_, .string t, .int .i64 cut] w fun e w' => e = .returned (.bool true) ∧ w.grownBy w' none := by
  have HE := Lib.hid he
  clear he
  have k0 : decide ((3000 : Int) < (s.size : Int)) = false := by simp; omega
  have k1 : decide ((3000 : Int) < (t.size : Int)) = false := by simp; omega
  have R1 := Lib.hid (fun w he => cread_any s at_ w he (by omega))
  cases hr : rdAt s at_ with
  | no er =>
    have hne := rdAt_no hr
    rw [hr] at R1
    unfold rdR at R1
    have y0 : (((er : Nat) : Int) != 0) = true := by simp; omega
    clear hr
    go_enter Tryd.func6, Tryd.ntmps6
    go_wp2_with fail
    refine Calls.mono (awake04 w HE.out) ?_
    rintro e w1 ⟨rfl, hg⟩
    have G1 := Lib.hid hg
    clear hg k0 k1
    go_wp2_with fail
    refine Calls.mono (R1.out _ (HE.out.kept G1.out (by simp))) ?_
    rintro e w2 ⟨rfl, hg⟩
    have G2 := Lib.hid (gtrans G1.out hg)
    clear hg G1
    go_wp2_with fail
    go_ret
    exact ⟨rfl, G2.out⟩
  | ok m next =>
    obtain ⟨f1, f2, f3, f4, f5, f6⟩ := rdAt_ok hr
    obtain ⟨p, rfl⟩ := Int.eq_ofNat_of_zero_le f4
    have hst : (s ++ t).size = s.size + t.size := ByteArray.size_append
    have R2 := Lib.hid (fun w he => cread_any (s ++ t) p w he (by omega))
    have hcs := (ahead_cut s next f3).2
    have R3 := Lib.hid (fun w he => cread_any (s.extract 0 next) p w he (by omega))
    have HB := Lib.hid (fun k => behind_short (k := k) hr)
    have hbc := behind_cut hr
    rw [behind_more hr] at R2
    rw [hr] at R1
    unfold rdR at R1 R2
    have hml : (⟨m.toArray⟩ : ByteArray).size = m.length := size_mk m
    generalize hM : (⟨m.toArray⟩ : ByteArray) = M at *
    have hRm : rdR (.ok m next) = .tuple #[.string M, .int .i64 next, .int .i64 0] := by
      show Value.tuple #[.string ⟨m.toArray⟩, .int .i64 next, .int .i64 0] = _
      rw [hM]
    clear hr f1 f6
    have q1 : decide ((next : Int) ≤ (p : Int)) = false := by simp; omega
    have q2 : decide ((s.size : Int) < (next : Int)) = false := by simp; omega
    go_enter Tryd.func6, Tryd.ntmps6
    go_wp2_with fail
    refine Calls.mono (awake04 w HE.out) ?_
    rintro e w1 ⟨rfl, hg⟩
    have G1 := Lib.hid hg
    clear hg k0 k1
    go_wp2_with fail
    refine Calls.mono (R1.out _ (HE.out.kept G1.out (by simp))) ?_
    rintro e w2 ⟨rfl, hg⟩
    have G2 := Lib.hid (gtrans G1.out hg)
    clear hg G1
    go_wp2_with fail
    refine Calls.mono (R2.out _ (HE.out.kept G2.out (by simp))) ?_
    rintro e w3 ⟨rfl, hg⟩
    have G3 := Lib.hid (gtrans G2.out hg)
    clear hg G2
    go_wp2_with fail
    refine Calls.mono (R3.out _ (HE.out.kept G3.out (by simp))) ?_
    rintro e w4 ⟨rfl, hg⟩
    have G4 := Lib.hid (gtrans G3.out hg)
    clear hg G3
    rcases hbc with h6 | ⟨h6, h7⟩
    · rw [h6, hRm]
      by_cases heq : s.extract p next = M
      · obtain ⟨q, hq, hql⟩ := umod cut (next - p) (by omega) (by omega)
        have hsub : ((next - p : Nat) : Int) = (next : Int) - (p : Int) := by omega
        rw [hsub] at hq
        have hk := HB.out (p + q) (by omega) (by omega)
        have hcs2 := (ahead_cut s (p + q) (by omega)).2
        have R5 := Lib.hid (fun w he => cread_any (s.extract 0 (p + q)) p w he (by omega))
        rw [hk] at R5
        unfold rdR at R5
        have hwq : wrap64 ((p : Int) + wrap64 ((IntKind.u64.wrap cut).tmod ((next : Int) - (p : Int)))) = ((p + q : Nat) : Int) := by
          rw [hq, IntWalk.wrap64_in _ (by omega)]; omega
        clear hk hq
        go_upto_region 15 with (fail)
        rw [hwq]
        go_wp2_with fail
        refine Calls.mono (R5.out _ (HE.out.kept G4.out (by simp))) ?_
        rintro e w5 ⟨rfl, hg⟩
        have G5 := Lib.hid (gtrans G4.out hg)
        clear hg G4
        go_wp2_with fail
        go_ret
        exact ⟨rfl, G5.out⟩
      · have z0 := str_ne heq
        go_wp2_with fail
        go_ret
        exact ⟨rfl, G4.out⟩
    · rw [h6]
      unfold rdR
      have z0 : (((m.length : Nat) : Int) != (next : Int) - (p : Int)) = true := by rw [bne_iff_ne]; exact h7
      go_wp2_with fail
      go_ret
      exact ⟨rfl, G4.out⟩
theorem behind_walk (s t : ByteArray) (at_ cut : Int) (w : World) (he : Et w) : Calls Tryd.prog 6 #[.string s, .int .i64 at_, .string t, .int .i64 cut] w fun e w' => e = .returned (.bool true) ∧ w.grownBy w' none := by
  by_cases hb : 3000 < s.size ∨ 3000 < t.size
  · exact behind_big s t at_ cut w he hb
  · exact behind_small s t at_ cut w he (by omega) (by omega)
end Go.Proofs.YtjjegmgjnfkblaaDoor
