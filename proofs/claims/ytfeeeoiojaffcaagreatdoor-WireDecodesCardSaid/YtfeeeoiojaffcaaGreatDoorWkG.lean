/-
  Wire: the document's part: number, name.
-/
import Derived.Test.YtfeeeoiojaffcaaGreatDoorWkR
import Derived.Test.YtfeeeoiojaffcaaGreatDoorWiQ
import Derived.Deep.Cut
namespace Go.Proofs.YtfeeeoiojaffcaaGreatDoor
open Go.RowKit

theorem gany'' {w w' : World} {row : Option Nat} (g : w.grownBy w' none) : w.grownBy w' row := ⟨g.os, g.tape, g.output, g.size, fun k hk _ => g.block k hk (by simp)⟩
/-- The document's part: a place, and an error. -/
def Pt7 (w : World) (b p e : Nat) : Prop := w.heap[b]? = some (.cells #[.int .i64 p, .int .i64 e] 56 (0, 0))
theorem Pt7.kept {w w' : World} {b p e : Nat} (h : Pt7 w b p e) (g : w.grownBy w' none) : Pt7 w' b p e := gblock g h (by simp)
set_option maxRecDepth 100000 in
theorem pnum_no (b p e : Nat) (s : ByteArray) (n : Nat) (w : World) (h : Pt7 w b p e) (he : e ≠ 0) : Calls Tryz.prog 19 #[.pointer (some ⟨b, 0, none⟩), .string s, .int .i64 n] w fun e' w' => e' = .returned (.int .u64 0) ∧ w = w' := by
  have h1 : w.cell? ⟨b, 1, none⟩ = some (.int .i64 e) := bcellAt h 1
  have d : ((e : Int) != 0) = true := by simp; omega
  go_enter Tryz.func19, Tryz.ntmps19
  go_wp2_with fail
  go_ret
  exact ⟨rfl, rfl⟩
set_option maxRecDepth 100000 in
theorem pnum_short (b p : Nat) (s : ByteArray) (n : Nat) (w : World) (h : Pt7 w b p 0) (hp : p ≤ s.size) (hq : s.size < p + n) (_hs : s.size ≤ 1000000) (_hn : n ≤ 4) : Calls Tryz.prog 19 #[.pointer (some ⟨b, 0, none⟩), .string s, .int .i64 n] w fun e' w' => e' = .returned (.int .u64 0) ∧ Pt7 w' b p 4 ∧ w.grownBy w' (some b) := by
  have h0 : w.cell? ⟨b, 0, none⟩ = some (.int .i64 p) := bcellAt h 0
  have h1 : w.cell? ⟨b, 1, none⟩ = some (.int .i64 0) := bcellAt h 1
  have hf : w.frozen? ⟨b, 1, none⟩ = false := bfree h 1
  have hd : decide ((s.size : Int) - (p : Int) < (n : Int)) = true := by simp; omega
  go_enter Tryz.func19, Tryz.ntmps19
  go_wp2_with fail
  go_ret
  exact ⟨rfl, (bset h 1 _).trans (by simp), gset (grefl _ _) (.inl rfl) _⟩
set_option maxRecDepth 100000 in
set_option maxHeartbeats 1000000 in
theorem pnum_ok (b p : Nat) (s : ByteArray) (n : Nat) (w : World) (h : Pt7 w b p 0) (hq : p + n ≤ s.size) (hs : s.size ≤ 1000000) (hn : n ≤ 4) : Calls Tryz.prog 19 #[.pointer (some ⟨b, 0, none⟩), .string s, .int .i64 n] w fun e' w' => e' = .returned (.int .u64 (num s p n)) ∧ Pt7 w' b (p + n) 0 ∧ w.grownBy w' (some b) := by
  have h0 : w.cell? ⟨b, 0, none⟩ = some (.int .i64 p) := bcellAt h 0
  have h1 : w.cell? ⟨b, 1, none⟩ = some (.int .i64 0) := bcellAt h 1
  have hf : w.frozen? ⟨b, 0, none⟩ = false := bfree h 0
  have hd : decide ((s.size : Int) - (p : Int) < (n : Int)) = false := by simp; omega
  go_enter Tryz.func19, Tryz.ntmps19
  go_wp2_with fail
  go_loop [7, 8] (fun v i => ∃ k : Nat, k ≤ n ∧ i = .int .i64 k ∧ v = .int .u64 (num s p k)) (fun _ i => n - (intOf i).toNat)
  case atStart => exact ⟨0, by omega, rfl, rfl⟩
  case round =>
    obtain ⟨k, hk, rfl, rfl⟩ := hrel
    by_cases hlt : k < n
    · have HS := Lib.hid (num_snoc s p k (by omega))
      have hnl : num s p k < 4294967296 := by
        refine Nat.lt_of_lt_of_le (num_lt s p k) ?_
        rw [show (4294967296 : Nat) = 256 ^ 4 by rfl]
        exact Nat.pow_le_pow_right (by omega) (by omega)
      generalize num s p k = X at *
      have q1 : (0 : Int) ≤ (p : Int) + (k : Int) := by omega
      have q2 : (p : Int) + (k : Int) < (s.size : Int) := by omega
      have q4 : ((p : Int) + (k : Int)).toNat = p + k := by omega
      have q5 : p + k < s.size := by omega
      have q3 : IntKind.i64.wrap ((p : Int) + (k : Int)) = (p : Int) + (k : Int) := IntWalk.i64_in _ (by omega)
      go_wp2_with fail
      go_round
      case rel =>
        refine ⟨k + 1, by omega, by go_num, ?_⟩
        rw [HS.out]
        have hc := (s[p + k]).toNat_lt
        rw [IntKind.wrap_u64, IntKind.wrap_u64]
        congr 1
        omega
      case measure => simp [intOf]; omega
    · have hkn : k = n := by omega
      subst hkn
      go_wp2_with fail
      go_ret
      exact ⟨rfl, (bset h 0 _).trans (by simp), gset (grefl _ _) (.inl rfl) _⟩
set_option maxRecDepth 100000 in
theorem pname_no (b p e : Nat) (s : ByteArray) (w : World) (h : Pt7 w b p e) (he : e ≠ 0) : Calls Tryz.prog 18 #[.pointer (some ⟨b, 0, none⟩), .string s] w fun e' w' => e' = .returned (.string ByteArray.empty) ∧ w = w' := by
  have h1 : w.cell? ⟨b, 1, none⟩ = some (.int .i64 e) := bcellAt h 1
  have d : ((e : Int) != 0) = true := by simp; omega
  go_enter Tryz.func18, Tryz.ntmps18
  go_wp2_with fail
  go_ret
  exact ⟨rfl, rfl⟩
set_option maxRecDepth 100000 in
set_option maxHeartbeats 1000000 in
theorem pname_ok (b p : Nat) (s : ByteArray) (w : World) (h : Pt7 w b p 0) (hp : p ≤ s.size) (hs : s.size ≤ 1000000) {n : List UInt8} {q : Nat} (hr : rdF s p p none [] = .ok n q) :
    Calls Tryz.prog 18 #[.pointer (some ⟨b, 0, none⟩), .string s] w fun e' w' => e' = .returned (.string ⟨n.toArray⟩) ∧ Pt7 w' b q 0 ∧ w.grownBy w' (some b) := by
  have h0 : w.cell? ⟨b, 0, none⟩ = some (.int .i64 p) := bcellAt h 0
  have h1 : w.cell? ⟨b, 1, none⟩ = some (.int .i64 0) := bcellAt h 1
  have CR := cref_in s p w hp hs
  rw [hr] at CR
  have HP := Lib.hid h
  clear h hr
  go_enter Tryz.func18, Tryz.ntmps18
  go_wp2_with fail
  refine Calls.mono CR ?_
  clear CR
  rintro e w1 ⟨rfl, hg⟩
  have P1 := Lib.hid (Pt7.kept HP.out hg)
  have HG := Lib.hid hg
  clear hg h0 h1 HP
  have h0 := bcellAt P1.out 0
  have h1 := bcellAt P1.out 1
  have f0 := bfree P1.out 0
  have f1 := bfree P1.out 1
  simp only [rdR]
  go_wp2_with fail
  go_ret
  exact ⟨rfl, bset2_ P1.out (.int .i64 q) (.int .i64 0), gset (gset (gany'' HG.out) (p := ⟨b, 0, none⟩) (.inl rfl) (.int .i64 q)) (p := ⟨b, 1, none⟩) (.inl rfl) (.int .i64 0)⟩
set_option maxRecDepth 100000 in
set_option maxHeartbeats 1000000 in
theorem pname_bad (b p : Nat) (s : ByteArray) (w : World) (h : Pt7 w b p 0) (hp : p ≤ s.size) (hs : s.size ≤ 1000000) {x : Nat} (hr : rdF s p p none [] = .no x) :
    Calls Tryz.prog 18 #[.pointer (some ⟨b, 0, none⟩), .string s] w fun e' w' => e' = .returned (.string ByteArray.empty) ∧ Pt7 w' b 0 x ∧ w.grownBy w' (some b) := by
  have h0 : w.cell? ⟨b, 0, none⟩ = some (.int .i64 p) := bcellAt h 0
  have h1 : w.cell? ⟨b, 1, none⟩ = some (.int .i64 0) := bcellAt h 1
  have CR := cref_in s p w hp hs
  rw [hr] at CR
  have HP := Lib.hid h
  clear h hr
  go_enter Tryz.func18, Tryz.ntmps18
  go_wp2_with fail
  refine Calls.mono CR ?_
  clear CR
  rintro e w1 ⟨rfl, hg⟩
  have P1 := Lib.hid (Pt7.kept HP.out hg)
  have HG := Lib.hid hg
  clear hg h0 h1 HP
  have h0 := bcellAt P1.out 0
  have h1 := bcellAt P1.out 1
  have f0 := bfree P1.out 0
  have f1 := bfree P1.out 1
  simp only [rdR]
  go_wp2_with fail
  go_ret
  exact ⟨rfl, bset2_ P1.out (.int .i64 0) (.int .i64 x), gset (gset (gany'' HG.out) (p := ⟨b, 0, none⟩) (.inl rfl) (.int .i64 0)) (p := ⟨b, 1, none⟩) (.inl rfl) (.int .i64 x)⟩
/-- A number that a part gives, behind whatever error: the value, the place, the error. -/
def nuV (s : ByteArray) (p e n : Nat) : Nat := if e = 0 ∧ p + n ≤ s.size then num s p n else 0
def nuP (s : ByteArray) (p e n : Nat) : Nat := if e = 0 ∧ p + n ≤ s.size then p + n else p
def nuE (s : ByteArray) (p e n : Nat) : Nat := if e = 0 then (if p + n ≤ s.size then 0 else 4) else e
theorem pnum_any (b p e : Nat) (s : ByteArray) (n : Nat) (w : World) (h : Pt7 w b p e) (hp : e = 0 → p ≤ s.size) (hs : s.size ≤ 1000000) (hn : n ≤ 4) : Calls Tryz.prog 19 #[.pointer (some ⟨b, 0, none⟩), .string s, .int .i64 n] w fun e' w' => e' = .returned (.int .u64 (nuV s p e n)) ∧ Pt7 w' b (nuP s p e n) (nuE s p e n) ∧ w.grownBy w' (some b) := by
  unfold nuV nuP nuE
  by_cases he : e = 0
  · subst he
    by_cases hq : p + n ≤ s.size
    · simp only [hq, and_self, if_true]
      exact pnum_ok b p s n w h hq hs hn
    · simp only [hq, and_false, if_true, if_false]
      exact pnum_short b p s n w h (hp rfl) (by omega) hs hn
  · simp only [he, false_and, if_false]
    exact (pnum_no b p e s n w h he).mono fun e' w' ⟨h1, h2⟩ => by subst h2; exact ⟨h1, h, grefl _ _⟩
theorem nuE_ok {s : ByteArray} {p e n : Nat} (h : nuE s p e n = 0) : e = 0 ∧ p + n ≤ s.size := by
  unfold nuE at h
  split at h
  · split at h
    · exact ⟨by assumption, by assumption⟩
    · cases h
  · contradiction
theorem nu_ok {s : ByteArray} {p n : Nat} (h : p + n ≤ s.size) : nuV s p 0 n = num s p n ∧ nuP s p 0 n = p + n ∧ nuE s p 0 n = 0 := ⟨if_pos ⟨rfl, h⟩, if_pos ⟨rfl, h⟩, by unfold nuE; rw [if_pos rfl, if_pos h]⟩
theorem nuP_le {s : ByteArray} {p e n : Nat} (h : nuE s p e n = 0) : nuP s p e n ≤ s.size := by
  obtain ⟨rfl, h2⟩ := nuE_ok h
  rw [(nu_ok h2).2.1]
  exact h2
theorem nuV_lt (s : ByteArray) (p e n : Nat) : nuV s p e n < 256 ^ n := by
  unfold nuV
  split
  · exact num_lt s p n
  · exact Nat.pow_pos (by omega)
theorem nuE_4 {s : ByteArray} {p e n : Nat} (h : nuE s p e n ≠ 0) : nuE s p e n = if e = 0 then 4 else e := by
  unfold nuE at *
  split
  · rename_i he
    rw [if_pos he] at h
    split
    · rename_i hq; rw [if_pos hq] at h; exact absurd rfl h
    · rfl
  · rfl
/-- A name that a part gives. -/
def naV : Rd → ByteArray
  | .ok n _ => ⟨n.toArray⟩
  | .no _ => ByteArray.empty
def naP : Rd → Nat
  | .ok _ q => q
  | .no _ => 0
def naE : Rd → Nat
  | .ok _ _ => 0
  | .no x => x
theorem pname_any (b p : Nat) (s : ByteArray) (w : World) (h : Pt7 w b p 0) (hp : p ≤ s.size) (hs : s.size ≤ 1000000) :
    Calls Tryz.prog 18 #[.pointer (some ⟨b, 0, none⟩), .string s] w fun e' w' => e' = .returned (.string (naV (rdF s p p none []))) ∧ Pt7 w' b (naP (rdF s p p none [])) (naE (rdF s p p none [])) ∧ w.grownBy w' (some b) := by
  cases hr : rdF s p p none [] with
  | ok n q => exact pname_ok b p s w h hp hs hr
  | no x => exact pname_bad b p s w h hp hs hr
theorem nuE_no {s : ByteArray} {p e n : Nat} (h : e ≠ 0) : nuE s p e n = e := if_neg h
theorem nuE_short {s : ByteArray} {p n : Nat} (h : ¬ p + n ≤ s.size) : nuE s p 0 n = 4 := by unfold nuE; rw [if_pos rfl, if_neg h]
/-- The header of a record that is not whole. -/
theorem rd1_bad {s : ByteArray} {add : Bool} {p : Nat} {d : Ed} {R : Rd} {p1 p2 p3 p4 e1 e2 e3 e4 e5 : Nat} (hR : rdF s p p none [] = R) (N2 : naP R = p1) (N3 : naE R = e1) (Q1 : nuP s p1 e1 2 = p2) (E1 : nuE s p1 e1 2 = e2)
    (Q2 : nuP s p2 e2 2 = p3) (E2 : nuE s p2 e2 2 = e3) (Q3 : nuP s p3 e3 4 = p4) (E3 : nuE s p3 e3 4 = e4) (E4 : nuE s p4 e4 2 = e5) (h : e5 ≠ 0) : rd1 s add p d = .no e5 := by
  cases R with
  | no x =>
    have hx : x ≠ 0 := rd_no' _ _ _ _ _ hR
    have h1 : e1 = x := N3.symm
    subst h1
    rw [nuE_no hx] at E1; subst E1
    rw [nuE_no hx] at E2; subst E2
    rw [nuE_no hx] at E3; subst E3
    rw [nuE_no hx] at E4; subst E4
    exact rd1_name hR
  | ok n q =>
    have h1 : e1 = 0 := N3.symm
    have h2 : p1 = q := N2.symm
    subst h1 h2
    have four : ∀ {a b c : Nat}, nuE s a 4 b = c → c = 4 := fun h => by rw [nuE_no (by decide)] at h; exact h.symm
    by_cases k1 : p1 + 2 ≤ s.size
    · obtain ⟨_, z2, z3⟩ := nu_ok k1
      rw [z2] at Q1; rw [z3] at E1; subst Q1 E1
      by_cases k2 : p1 + 2 + 2 ≤ s.size
      · obtain ⟨_, y2, y3⟩ := nu_ok k2
        rw [y2] at Q2; rw [y3] at E2; subst Q2 E2
        by_cases k3 : p1 + 2 + 2 + 4 ≤ s.size
        · obtain ⟨_, x2, x3⟩ := nu_ok k3
          rw [x2] at Q3; rw [x3] at E3; subst Q3 E3
          by_cases k4 : p1 + 2 + 2 + 4 + 2 ≤ s.size
          · exact absurd (E4.symm.trans (nu_ok k4).2.2) h
          · rw [nuE_short k4] at E4; subst E4
            exact rd1_short hR (by omega)
        · rw [nuE_short k3] at E3; subst E3
          rw [four E4]
          exact rd1_short hR (by omega)
      · rw [nuE_short k2] at E2; subst E2
        have := four E3; subst this
        rw [four E4]
        exact rd1_short hR (by omega)
    · rw [nuE_short k1] at E1; subst E1
      have := four E2; subst this
      have := four E3; subst this
      rw [four E4]
      exact rd1_short hR (by omega)
/-- The header of a record that is whole. -/
theorem rd1_head {s : ByteArray} {p : Nat} {R : Rd} {nm : ByteArray} {p1 p2 p3 p4 p5 e1 e2 e3 e4 v1 v2 v3 v4 : Nat} (hR : rdF s p p none [] = R) (N1 : naV R = nm) (N2 : naP R = p1) (N3 : naE R = e1) (V1 : nuV s p1 e1 2 = v1) (Q1 : nuP s p1 e1 2 = p2) (E1 : nuE s p1 e1 2 = e2)
    (V2 : nuV s p2 e2 2 = v2) (Q2 : nuP s p2 e2 2 = p3) (E2 : nuE s p2 e2 2 = e3) (V3 : nuV s p3 e3 4 = v3) (Q3 : nuP s p3 e3 4 = p4) (E3 : nuE s p3 e3 4 = e4) (V4 : nuV s p4 e4 2 = v4) (Q4 : nuP s p4 e4 2 = p5) (E4 : nuE s p4 e4 2 = 0) :
    ∃ n, rdF s p p none [] = .ok n p1 ∧ nm = ⟨n.toArray⟩ ∧ v1 = num s p1 2 ∧ v2 = num s (p1 + 2) 2 ∧ v3 = num s (p1 + 4) 4 ∧ v4 = num s (p1 + 8) 2 ∧ p5 = p1 + 10 ∧ p1 + 10 ≤ s.size := by
  obtain ⟨a4, k4⟩ := nuE_ok E4
  subst a4
  obtain ⟨a3, k3⟩ := nuE_ok E3
  subst a3
  obtain ⟨a2, k2⟩ := nuE_ok E2
  subst a2
  obtain ⟨a1, k1⟩ := nuE_ok E1
  subst a1
  rw [(nu_ok k1).1] at V1; rw [(nu_ok k1).2.1] at Q1; subst Q1
  rw [(nu_ok k2).1] at V2; rw [(nu_ok k2).2.1] at Q2; subst Q2
  rw [(nu_ok k3).1] at V3; rw [(nu_ok k3).2.1] at Q3; subst Q3
  rw [(nu_ok k4).1] at V4; rw [(nu_ok k4).2.1] at Q4; subst Q4
  cases R with
  | no x => exact absurd N3 (rd_no' _ _ _ _ _ hR)
  | ok n q =>
    have h2 : p1 = q := N2.symm
    subst h2
    exact ⟨n, hR, N1.symm, V1.symm, V2.symm, V3.symm, V4.symm, rfl, by omega⟩
end Go.Proofs.YtfeeeoiojaffcaaGreatDoor
