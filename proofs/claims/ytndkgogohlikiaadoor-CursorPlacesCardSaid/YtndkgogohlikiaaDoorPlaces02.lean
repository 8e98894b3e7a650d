/-
  hustingslaw02.CursorPlaces is true: its walk.
-/
import Derived.Test.YtndkgogohlikiaaDoorReads02
namespace Go.Proofs.YtndkgogohlikiaaDoor
open Go.RowKit Go.BigFrame

/-- What step() tells of an act: how many bytes were read, and the error. -/
def stN (s : ByteArray) (p : Nat) (what : Nat) (n : Int) : Nat :=
  if what = 0 then 1 else if what = 1 then 2 else if what = 2 then 4 else if what = 3 then (tkS s p n).size else 0
def stE (s : ByteArray) (p : Nat) (what : Nat) (n : Int) : Nat :=
  if what = 0 then rdE s p 1 else if what = 1 then rdE s p 2 else if what = 2 then rdE s p 4 else if what = 3 then tkE s p n else skE s n

theorem st_no (s : ByteArray) (p : Nat) (what : Nat) (n : Int) (h : stE s p what n ≠ 0) : actP s p what n = p := by
  unfold stE at h
  unfold actP
  have r : ∀ m, rdE s p m ≠ 0 → rdP s p m = p := fun m h => by unfold rdE at h; unfold rdP; split <;> simp_all
  have t : tkE s p n ≠ 0 → tkP s p n = p := fun h => by unfold tkE at h; unfold tkP; repeat' split
                                                        all_goals simp_all
  have k : skE s n ≠ 0 → skP s p n = p := fun h => by unfold skE at h; unfold skP; split <;> simp_all
  repeat' split at h
  all_goals simp_all
theorem st_ok (s : ByteArray) (p : Nat) (what : Nat) (n : Int) (h : stE s p what n = 0) (h4 : what < 4) : actP s p what n = p + stN s p what n := by
  unfold stE at h
  unfold actP stN
  have r : ∀ m, rdE s p m = 0 → rdP s p m = p + m := fun m h => by unfold rdE at h; unfold rdP; split <;> simp_all
  have t : tkE s p n = 0 → tkP s p n = p + (tkS s p n).size := fun h => by
    unfold tkE at h
    unfold tkP tkS
    by_cases h1 : n < 0
    · simp [h1] at h
    · by_cases h2 : (s.size : Int) < p + n
      · simp [h1, h2] at h
      · simp [h1, h2]; omega
  repeat' split at h
  all_goals simp_all
  omega
theorem st_seek (s : ByteArray) (p : Nat) (what : Nat) (n : Int) (h : stE s p what n = 0) (h4 : 4 ≤ what) : ((actP s p what n : Nat) : Int) = n := by
  unfold stE at h
  unfold actP
  rw [if_neg (by omega), if_neg (by omega), if_neg (by omega), if_neg (by omega)] at *
  unfold skE at h
  unfold skP
  by_cases hq : n < 0 ∨ (s.size : Int) < n
  · simp [hq] at h
  · rw [if_neg hq]; omega

theorem step_rd (k m : Nat) (hk : k = 0 ∧ m = 1 ∨ k = 1 ∧ m = 2 ∨ k = 2 ∧ m = 4) (b : Nat) (s : ByteArray) (p : Nat) (n : Int) (w : World) (he : Et w) (hc : Cur w b s p) (hp : p ≤ s.size) (hs : s.size ≤ maxLen) :
    Calls Tryd.prog 24 #[.pointer (some ⟨b, 0, none⟩), .agg #[.int .u8 k, .int .i64 n]] w fun e w' => e = .returned (.tuple #[.int .i64 m, .int .i64 (rdE s p m)]) ∧ Cur w' b s (rdP s p m) ∧ w.grownBy w' (some b) := by
  have HE := Lib.hid he
  have HC := Lib.hid hc
  clear he hc
  rcases hk with ⟨rfl, rfl⟩ | ⟨rfl, rfl⟩ | ⟨rfl, rfl⟩
  · go_enter Tryd.func24, Tryd.ntmps24
    go_wp2_with fail
    refine (byte_any b s p _ (HC.out.kept (galloc (grefl _ none) _) (by simp)) (HE.out.kept (galloc (grefl _ none) _) (by simp)) hp hs).mono ?_
    rintro e w1 ⟨rfl, hc1, hg1⟩
    go_wp2_with fail
    go_ret2
    exact ⟨rfl, hc1, gtrans (galloc (grefl _ _) _) hg1⟩
  · go_enter Tryd.func24, Tryd.ntmps24
    go_wp2_with fail
    refine (two_any b s p _ (HC.out.kept (galloc (grefl _ none) _) (by simp)) (HE.out.kept (galloc (grefl _ none) _) (by simp)) hp hs).mono ?_
    rintro e w1 ⟨rfl, hc1, hg1⟩
    go_wp2_with fail
    go_ret2
    exact ⟨rfl, hc1, gtrans (galloc (grefl _ _) _) hg1⟩
  · go_enter Tryd.func24, Tryd.ntmps24
    go_wp2_with fail
    refine (four_any b s p _ (HC.out.kept (galloc (grefl _ none) _) (by simp)) (HE.out.kept (galloc (grefl _ none) _) (by simp)) hp hs).mono ?_
    rintro e w1 ⟨rfl, hc1, hg1⟩
    go_wp2_with fail
    go_ret2
    exact ⟨rfl, hc1, gtrans (galloc (grefl _ _) _) hg1⟩

theorem step_3 (b : Nat) (s : ByteArray) (p : Nat) (n : Int) (w : World) (he : Et w) (hc : Cur w b s p) (hp : p ≤ s.size) (hs : s.size ≤ maxLen) :
    Calls Tryd.prog 24 #[.pointer (some ⟨b, 0, none⟩), .agg #[.int .u8 3, .int .i64 n]] w fun e w' => e = .returned (.tuple #[.int .i64 (tkS s p n).size, .int .i64 (tkE s p n)]) ∧ Cur w' b s (tkP s p n) ∧ w.grownBy w' (some b) := by
  have HE := Lib.hid he
  have HC := Lib.hid hc
  clear he hc
  go_enter Tryd.func24, Tryd.ntmps24
  go_wp2_with fail
  refine (T_any b s p _ n (HC.out.kept (galloc (grefl _ none) _) (by simp)) (HE.out.kept (galloc (grefl _ none) _) (by simp)) hp hs).mono ?_
  rintro e w1 ⟨rfl, hc1, hg1⟩
  go_wp2_with fail
  go_ret2
  exact ⟨rfl, hc1, gtrans (galloc (grefl _ _) _) hg1⟩
theorem step_4 (b : Nat) (s : ByteArray) (p : Nat) (what : Nat) (h4 : 4 ≤ what) (h256 : what < 256) (n : Int) (w : World) (hc : Cur w b s p) :
    Calls Tryd.prog 24 #[.pointer (some ⟨b, 0, none⟩), .agg #[.int .u8 what, .int .i64 n]] w fun e w' => e = .returned (.tuple #[.int .i64 0, .int .i64 (skE s n)]) ∧ Cur w' b s (skP s p n) ∧ w.grownBy w' (some b) := by
  have HC := Lib.hid hc
  clear hc
  have b0 : ((what : Int) == 0) = false := beq_eq_false_iff_ne.2 (by omega)
  have b1 : ((what : Int) == 1) = false := beq_eq_false_iff_ne.2 (by omega)
  have b2 : ((what : Int) == 2) = false := beq_eq_false_iff_ne.2 (by omega)
  have b3 : ((what : Int) == 3) = false := beq_eq_false_iff_ne.2 (by omega)
  go_enter Tryd.func24, Tryd.ntmps24
  go_wp2_with fail
  refine (seek_any b s p _ n (HC.out.kept (galloc (grefl _ none) _) (by simp))).mono ?_
  rintro e w1 ⟨rfl, hc1, hg1⟩
  go_wp2_with fail
  go_ret2
  exact ⟨rfl, hc1, gtrans (galloc (grefl _ _) _) hg1⟩
theorem step_any (b : Nat) (s : ByteArray) (p : Nat) (what : Nat) (h256 : what < 256) (n : Int) (w : World) (he : Et w) (hc : Cur w b s p) (hp : p ≤ s.size) (hs : s.size ≤ maxLen) :
    Calls Tryd.prog 24 #[.pointer (some ⟨b, 0, none⟩), .agg #[.int .u8 what, .int .i64 n]] w fun e w' => e = .returned (.tuple #[.int .i64 (stN s p what n), .int .i64 (stE s p what n)]) ∧ Cur w' b s (actP s p what n) ∧ w.grownBy w' (some b) := by
  match what, h256 with
  | 0, _ => exact step_rd 0 1 (by simp) b s p n w he hc hp hs
  | 1, _ => exact step_rd 1 2 (by simp) b s p n w he hc hp hs
  | 2, _ => exact step_rd 2 4 (by simp) b s p n w he hc hp hs
  | 3, _ => exact step_3 b s p n w he hc hp hs
  | m + 4, h256 => exact step_4 b s p (m + 4) (by omega) h256 n w hc

set_option maxRecDepth 100000 in
theorem places_big (s : ByteArray) (A : Option Addr) (len cap : Nat) (w : World) (he : Et w) (hs : 20000 < s.size ∨ 300 < len) : Calls Tryd.prog 7 #[.string s, .slice A len cap] w fun e w' => e = .returned (.bool true) ∧ w.grownBy w' none := by
  by_cases hs1 : 20000 < s.size
  · have hb : decide ((20000 : Int) < (s.size : Int)) = true := by simp; omega
    go_enter Tryd.func7, Tryd.ntmps7
    go_wp2_with fail
    refine (awake_any w he).mono ?_
    rintro e w1 ⟨rfl, hg⟩
    go_wp2_with fail
    go_ret
    exact ⟨rfl, hg⟩
  · have hb : decide ((20000 : Int) < (s.size : Int)) = false := by simp; omega
    have hb2 : decide ((300 : Int) < (len : Int)) = true := by simp; omega
    go_enter Tryd.func7, Tryd.ntmps7
    go_wp2_with fail
    refine (awake_any w he).mono ?_
    rintro e w1 ⟨rfl, hg⟩
    go_wp2_with fail
    go_ret
    exact ⟨rfl, hg⟩

set_option maxRecDepth 100000 in
set_option maxHeartbeats 4000000 in
theorem places_small (s : ByteArray) (A : Option Addr) (len cap : Nat) (wh : Nat → Nat) (ns : Nat → Int) (w : World) (he : Et w) (hs : s.size ≤ 20000) (hl : len ≤ 300) (ha : Acts w A len wh ns) : Calls Tryd.prog 7 #[.string s, .slice A len cap] w fun e w' => e = .returned (.bool true) ∧ w.grownBy w' none := by
  have hb : decide ((20000 : Int) < (s.size : Int)) = false := by simp; omega
  have hb2 : decide ((300 : Int) < (len : Int)) = false := by simp; omega
  have HE := Lib.hid he
  have HA := Lib.hid ha
  have hm : s.size ≤ maxLen := by unfold maxLen; omega
  clear he ha
  go_enter Tryd.func7, Tryd.ntmps7
  go_wp2_with fail
  refine (awake_any w HE.out).mono ?_
  rintro e w0 ⟨rfl, hg⟩
  have HG0 := Lib.hid hg
  clear hg
  go_wp2_with fail
  refine (new_ex s w0).mono ?_
  rintro e w1 ⟨bc, rfl, hlc, hc, hg⟩
  have HC := Lib.hid hc
  have HG := Lib.hid (gtrans HG0.out hg)
  have hlb : w.heap.size ≤ bc := Nat.le_trans HG0.out.size hlc
  clear hc hg hlc HG0
  go_wp2_with fail
  go_loopw [6] (fun i wr => ∃ k p : Nat, k ≤ len ∧ i = .int .i64 k ∧ p ≤ s.size ∧ Cur wr bc s p ∧ w.grownBy wr none) (fun i _ => len - (intOf i).toNat)
  case atStart => exact ⟨0, 0, by omega, rfl, by omega, HC.out, HG.out⟩
  case round =>
    obtain ⟨k, p, hk, rfl, hp, hc, hgr⟩ := hrel
    have HC1 := Lib.hid hc
    have HG1 := Lib.hid hgr
    clear hc hgr HC HG
    by_cases hklt : k < len
    · obtain ⟨b, off, rfl, hcell⟩ := HA.out (by omega)
      obtain ⟨hc0, hc1, hw⟩ := hcell k hklt
      have L0 := Lib.hid hc0
      have L1 := Lib.hid hc1
      have l0 : wr.cell? ⟨b, off + k * 2, none⟩ = some (.int .u8 (wh k)) := HG1.out.cell hc0 (by simp)
      have l1 : wr.cell? ⟨b, off + k * 2 + 1, none⟩ = some (.int .i64 (ns k)) := HG1.out.cell hc1 (by simp)
      clear hcell hc0 hc1 HA
      have q1 : (0 : Int) ≤ (k : Int) := by omega
      have q2 : (k : Int) < (len : Int) := by omega
      go_wp2_with fail
      refine (at_any bc s p wr HC1.out).mono ?_
      rintro e w' ⟨rfl, rfl⟩
      go_wp2_with fail
      refine (step_any bc s p (wh k) hw (ns k) wr (HE.out.kept HG1.out (by simp)) HC1.out hp hm).mono ?_
      rintro e w2 ⟨rfl, hc2, hg2⟩
      have HC2 := Lib.hid hc2
      have HG2 := Lib.hid (gstepb HG1.out hg2 hlb)
      clear hc2 hg2 l0 l1
      have l0 : w2.cell? ⟨b, off + k * 2, none⟩ = some (.int .u8 (wh k)) := HG2.out.cell L0.out (by simp)
      have l1 : w2.cell? ⟨b, off + k * 2 + 1, none⟩ = some (.int .i64 (ns k)) := HG2.out.cell L1.out (by simp)
      have g0 : ∀ g : Gr w2, g.w.cell? ⟨b, off + k * 2, none⟩ = some (.int .u8 (wh k)) := Gr.cell l0
      have g1 : ∀ g : Gr w2, g.w.cell? ⟨b, off + k * 2 + 1, none⟩ = some (.int .i64 (ns k)) := Gr.cell l1
      have hap := actP_le s p (wh k) (ns k) hp
      by_cases hE : stE s p (wh k) (ns k) = 0
      · rw [hE]
        by_cases h4 : wh k < 4
        · have HP := st_ok s p (wh k) (ns k) hE h4
          rw [HP] at HC2 hap
          generalize hN : stN s p (wh k) (ns k) = N at *
          have HN := Lib.hid hN
          have HE2 := Lib.hid hE
          have HP2 := Lib.hid HP
          clear hN hE HP
          have s1 : IntKind.i64.wrap (((p : Int) + (N : Int)) + ((s.size : Int) - ((p : Int) + (N : Int)))) = (s.size : Int) := by rw [IntWalk.i64_in _ (by omega)]; omega
          have s2 : IntKind.i64.wrap ((p : Int) + (N : Int)) = (p : Int) + (N : Int) := IntWalk.i64_in _ (by omega)
          have d1 : decide ((wh k : Int) < 4) = true := by simp; omega
          have d2 : decide ((4 : Int) ≤ (wh k : Int)) = false := by simp; omega
          have d3 : decide ((3 : Int) < (wh k : Int)) = false := by simp; omega
          go_wp2_with fail
          refine wp_region_noPanic ?_
          refine wp_region_gr (by kernel_rfl) (by kernel_rfl) ?_
          repeat (go_big_quiet_step (first | (go_at_call 22; exact at_gr HC2.out _) | (go_at_call 23; exact left_gr HC2.out hap hm _)))
          refine wpQuiet_nil ?_
          rintro _ ⟨g, rfl⟩
          refine NoPanic.normal ?_
          clear s1 s2
          have k0 : g.w.cell? ⟨b, off + k * 2, none⟩ = some (.int .u8 (wh k)) := g0 g
          go_wp2_with fail
          refine (seek_any bc s (p + N) g.w p (HC2.out.kept g.h (by simp))).mono ?_
          rintro e w3 ⟨rfl, hc3, hg3⟩
          rw [skE_ok hp]
          rw [skP_ok hp] at hc3
          have HC3 := Lib.hid hc3
          have HG3 := Lib.hid (gstepb (gtrans HG2.out g.h) hg3 hlb)
          clear hc3 hg3 k0
          have k0 : w3.cell? ⟨b, off + k * 2, none⟩ = some (.int .u8 (wh k)) := HG3.out.cell L0.out (by simp)
          have k1 : w3.cell? ⟨b, off + k * 2 + 1, none⟩ = some (.int .i64 (ns k)) := HG3.out.cell L1.out (by simp)
          go_wp2_with fail
          refine (step_any bc s p (wh k) hw (ns k) w3 (HE.out.kept HG3.out (by simp)) HC3.out hp hm).mono ?_
          rintro e w4 ⟨rfl, hc4, hg4⟩
          rw [HN.out, HE2.out]
          rw [HP2.out] at hc4
          have HC4 := Lib.hid hc4
          have HG4 := Lib.hid (gstepb HG3.out hg4 hlb)
          clear hc4 hg4 k0 k1
          go_wp2
          go_roundw
          case rel => exact ⟨k + 1, p + N, by omega, by go_num, hap, HC4.out, HG4.out⟩
          case measure => simp [intOf]; omega
        · have HP := st_seek s p (wh k) (ns k) hE (by omega)
          generalize hPP : actP s p (wh k) (ns k) = P at *
          clear hPP
          have t2 : ((P : Int) != ns k) = false := by rw [HP]; simp
          clear HP hE
          have s1 : IntKind.i64.wrap ((P : Int) + ((s.size : Int) - (P : Int))) = (s.size : Int) := by rw [IntWalk.i64_in _ (by omega)]; omega
          have d1 : decide ((wh k : Int) < 4) = false := by simp; omega
          have d2 : decide ((4 : Int) ≤ (wh k : Int)) = true := by simp; omega
          have d3 : decide ((3 : Int) < (wh k : Int)) = true := by simp; omega
          go_wp2_with fail
          refine wp_region_noPanic ?_
          refine wp_region_gr (by kernel_rfl) (by kernel_rfl) ?_
          repeat (go_big_quiet_step (first | (go_at_call 22; exact at_gr HC2.out _) | (go_at_call 23; exact left_gr HC2.out hap hm _)))
          refine wpQuiet_nil ?_
          rintro _ ⟨g, rfl⟩
          refine NoPanic.normal ?_
          clear s1
          have k0 : g.w.cell? ⟨b, off + k * 2, none⟩ = some (.int .u8 (wh k)) := g0 g
          go_wp2
          go_roundw
          case rel => exact ⟨k + 1, P, by omega, by go_num, hap, HC2.out.kept g.h (by simp), gtrans HG2.out g.h⟩
          case measure => simp [intOf]; omega
      · have HP := st_no s p (wh k) (ns k) hE
        rw [HP] at HC2
        have e1 : ((stE s p (wh k) (ns k) : Int) != 0) = true := by rw [bne_iff_ne]; omega
        have e2 : ((stE s p (wh k) (ns k) : Int) == 0) = false := beq_eq_false_iff_ne.2 (by omega)
        have s1 : IntKind.i64.wrap ((p : Int) + ((s.size : Int) - (p : Int))) = (s.size : Int) := by rw [IntWalk.i64_in _ (by omega)]; omega
        clear HP hE
        by_cases h4 : wh k < 4
        · have d1 : decide ((wh k : Int) < 4) = true := by simp; omega
          have d2 : decide ((4 : Int) ≤ (wh k : Int)) = false := by simp; omega
          have d3 : decide ((3 : Int) < (wh k : Int)) = false := by simp; omega
          go_wp2_with fail
          refine wp_region_noPanic ?_
          refine wp_region_gr (by kernel_rfl) (by kernel_rfl) ?_
          repeat (go_big_quiet_step (first | (go_at_call 22; exact at_gr HC2.out _) | (go_at_call 23; exact left_gr HC2.out hp hm _)))
          refine wpQuiet_nil ?_
          rintro _ ⟨g, rfl⟩
          refine NoPanic.normal ?_
          clear s1
          have k0 : g.w.cell? ⟨b, off + k * 2, none⟩ = some (.int .u8 (wh k)) := g0 g
          go_wp2
          go_roundw
          case rel => exact ⟨k + 1, p, by omega, by go_num, hp, HC2.out.kept g.h (by simp), gtrans HG2.out g.h⟩
          case measure => simp [intOf]; omega
        · have d1 : decide ((wh k : Int) < 4) = false := by simp; omega
          have d2 : decide ((4 : Int) ≤ (wh k : Int)) = true := by simp; omega
          have d3 : decide ((3 : Int) < (wh k : Int)) = true := by simp; omega
          go_wp2_with fail
          refine wp_region_noPanic ?_
          refine wp_region_gr (by kernel_rfl) (by kernel_rfl) ?_
          repeat (go_big_quiet_step (first | (go_at_call 22; exact at_gr HC2.out _) | (go_at_call 23; exact left_gr HC2.out hp hm _)))
          refine wpQuiet_nil ?_
          rintro _ ⟨g, rfl⟩
          refine NoPanic.normal ?_
          clear s1
          have k0 : g.w.cell? ⟨b, off + k * 2, none⟩ = some (.int .u8 (wh k)) := g0 g
          go_wp2
          go_roundw
          case rel => exact ⟨k + 1, p, by omega, by go_num, hp, HC2.out.kept g.h (by simp), gtrans HG2.out g.h⟩
          case measure => simp [intOf]; omega
    · go_wp2
      go_ret
      exact ⟨rfl, HG1.out⟩

theorem places_walk (s : ByteArray) (A : Option Addr) (len cap : Nat) (wh : Nat → Nat) (ns : Nat → Int) (w : World) (he : Et w) (ha : Acts w A len wh ns) : Calls Tryd.prog 7 #[.string s, .slice A len cap] w fun e w' => e = .returned (.bool true) ∧ w.grownBy w' none := by
  by_cases h : 20000 < s.size ∨ 300 < len
  · exact places_big s A len cap w he h
  · exact places_small s A len cap wh ns w he (by omega) (by omega) ha
end Go.Proofs.YtndkgogohlikiaaDoor
