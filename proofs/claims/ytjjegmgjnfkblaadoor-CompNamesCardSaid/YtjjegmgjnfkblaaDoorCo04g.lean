/-
  CompAs.
-/
import Derived.Test.YtjjegmgjnfkblaaDoorCo04e
import Derived.Test.YtjjegmgjnfkblaaDoorCoLaw
namespace Go.Proofs.YtjjegmgjnfkblaaDoor
open Go.RowKit

def rdS : Rd → ByteArray
  | .ok n _ => ⟨n.toArray⟩
  | .no _ => ByteArray.empty
def rdX : Rd → Nat
  | .ok _ x => x
  | .no _ => 0
def rdY : Rd → Nat
  | .ok _ _ => 0
  | .no e => e
theorem rdR_eq (r : Rd) : rdR r = .tuple #[.string (rdS r), .int .i64 (rdX r), .int .i64 (rdY r)] := by cases r <;> rfl
theorem rd_no {s : ByteArray} : ∀ p lim nx out, ∀ e, rdF s p lim nx out = .no e → e ≠ 0 := by
  refine rd_ind (s := s) ?_ ?_ ?_ ?_ ?_ ?_ ?_ ?_ ?_
  · intro p lim nx out h e he; rw [rd_short h] at he; cases he; decide
  · intro p lim nx out h h0 e he; rw [rd_end h h0] at he; cases he
  · intro p lim nx out h0 h64 h1 h2 ih e he; rw [rd_label h0 h64 h1 h2] at he; exact ih e he
  · intro p lim nx out h0 h64 h1 h2 e he; rw [rd_long h0 h64 h1 h2] at he; cases he; decide
  · intro p lim nx out h h0 h64 h1 e he; rw [rd_lshort h h0 h64 h1] at he; cases he; decide
  · intro p lim nx out h h64 h192 e he; rw [rd_form h h64 h192] at he; cases he; decide
  · intro p lim nx out h192 h2 h3 ih e he; rw [rd_ptr h192 h2 h3] at he; exact ih e he
  · intro p lim nx out h192 h2 h3 e he; rw [rd_loop h192 h2 h3] at he; cases he; decide
  · intro p lim nx out h h192 h2 e he; rw [rd_pshort h h192 h2] at he; cases he; decide
theorem rdAt_no {s : ByteArray} {at_ : Int} {e : Nat} (h : rdAt s at_ = .no e) : e ≠ 0 := by
  unfold rdAt at h
  split at h
  · exact rd_no _ _ _ _ _ h
  · cases h; decide
theorem rdAt_y {s : ByteArray} {at_ : Int} (h : rdY (rdAt s at_) = 0) : ∃ m next, rdAt s at_ = .ok m next := by
  cases hr : rdAt s at_ with
  | ok m next => exact ⟨m, next, rfl⟩
  | no e => rw [hr] at h; exact absurd h (rdAt_no hr)
theorem mk_self (n : ByteArray) : (⟨n.data.toList.toArray⟩ : ByteArray) = n := by cases n; simp

theorem cread_u (s : ByteArray) (at_ : Int) (w : World) (he : Et w) (hs : s.size ≤ 1000000) : Calls Tryd.prog 11 #[.string s, .int .i64 at_] w fun e w' => e = .returned (.tuple #[.string (rdS (rdAt s at_)), .int .i64 (rdX (rdAt s at_)), .int .i64 (rdY (rdAt s at_))]) ∧ w.grownBy w' none := by
  rw [← rdR_eq]; exact cread_any s at_ w he hs

set_option maxRecDepth 100000 in
theorem as_big (A n B : ByteArray) (at_ : Int) (w : World) (he : Et w) (hb : 2000 < A.size ∨ 2000 < B.size ∨ 2000 < n.size) : Calls Tryd.prog 7 #[.string A, .string n, .string B, .int .i64 at_] w fun e w' => e = .returned (.bool true) ∧ w.grownBy w' none := by
  have HE := Lib.hid he
  clear he
  by_cases h0 : 2000 < A.size
  · have k0 : decide ((2000 : Int) < (A.size : Int)) = true := by simp; omega
    go_enter Tryd.func7, Tryd.ntmps7
    go_wp2_with fail
    refine Calls.mono (awake04 w HE.out) ?_
    rintro e w1 ⟨rfl, hg⟩
    go_wp2_with fail
    go_ret
    exact ⟨rfl, hg⟩
  · have k0 : decide ((2000 : Int) < (A.size : Int)) = false := by simp; omega
    by_cases h1 : 2000 < B.size
    · have k1 : decide ((2000 : Int) < (B.size : Int)) = true := by simp; omega
      go_enter Tryd.func7, Tryd.ntmps7
      go_wp2_with fail
      refine Calls.mono (awake04 w HE.out) ?_
      rintro e w1 ⟨rfl, hg⟩
      go_wp2_with fail
      go_ret
      exact ⟨rfl, hg⟩
    · have k1 : decide ((2000 : Int) < (B.size : Int)) = false := by simp; omega
      have k2 : decide ((2000 : Int) < (n.size : Int)) = true := by simp; omega
      go_enter Tryd.func7, Tryd.ntmps7
      go_wp2_with fail
      refine Calls.mono (awake04 w HE.out) ?_
      rintro e w1 ⟨rfl, hg⟩
      go_wp2_with fail
      go_ret
      exact ⟨rfl, hg⟩

set_option maxRecDepth 100000 in
set_option maxHeartbeats 1000000 in
theorem as_small (A n B : ByteArray) (at_ : Int) (w : World) (he : Et w) (h0 : A.size ≤ 2000) (h1 : B.size ≤ 2000) (h2 : n.size ≤ 2000) : Calls Tryd.prog 7 #[.string A, .string n, .string B, .int .i64 at_] w fun e w' => e = .returned (.bool true) ∧ w.grownBy w' none := by
  have HE := Lib.hid he
  clear he
  have k0 : decide ((2000 : Int) < (A.size : Int)) = false := by simp; omega
  have k1 : decide ((2000 : Int) < (B.size : Int)) = false := by simp; omega
  have k2 : decide ((2000 : Int) < (n.size : Int)) = false := by simp; omega
  have hS : (A ++ n ++ B).size = A.size + n.size + B.size := by simp [ByteArray.size_append]
  have hAn : (A ++ n).size = A.size + n.size := by simp [ByteArray.size_append]
  have F1 := Lib.hid (fun h => rdAt_name A n B h)
  have F2 := Lib.hid (fun m next => rdAt_ok (s := A ++ n ++ B) (at_ := at_) (m := m) (next := next))
  have F3 := Lib.hid (rdAt_y (s := A ++ n ++ B) (at_ := at_))
  have R1 := Lib.hid (fun w he => cread_u (A ++ n ++ B) A.size w he (by omega))
  have R2 := Lib.hid (fun w he => cread_u (A ++ n ++ B) at_ w he (by omega))
  generalize hr1 : rdAt (A ++ n ++ B) (A.size : Int) = r1 at *
  generalize hr2 : rdAt (A ++ n ++ B) at_ = r2 at *
  generalize hSs : A ++ n ++ B = S at *
  generalize hAs : A ++ n = An at *
  clear hr1 hr2
  go_enter Tryd.func7, Tryd.ntmps7
  go_wp2_with fail
  refine Calls.mono (awake04 w HE.out) ?_
  rintro e w1 ⟨rfl, hg⟩
  have G1 := Lib.hid hg
  clear hg k0 k1 k2
  go_wp2_with fail
  refine Calls.mono (R1.out _ (HE.out.kept G1.out (by simp))) ?_
  rintro e w2 ⟨rfl, hg⟩
  have G2 := Lib.hid (gtrans G1.out hg)
  clear hg G1
  go_wp2_with fail
  refine (may_any n w2).mono ?_
  rintro e w3 ⟨rfl, rfl⟩
  cases hmay : may n with
  | true =>
    obtain rfl := F1.out hmay
    have q0 : rdS (.ok n.data.toList (A.size + n.size)) = n := mk_self n
    have q1 : ((rdY (.ok n.data.toList (A.size + n.size)) : Nat) : Int) = 0 := rfl
    have q2 : ((rdX (.ok n.data.toList (A.size + n.size)) : Nat) : Int) = (A.size : Int) + (n.size : Int) := by simp [rdX]
    clear hmay
    go_wp2_with fail
    refine Calls.mono (R2.out _ (HE.out.kept G2.out (by simp))) ?_
    rintro e w4 ⟨rfl, hg⟩
    have G4 := Lib.hid (gtrans G2.out hg)
    clear hg G2
    by_cases hy : rdY r2 = 0
    · obtain ⟨m, next, hm⟩ := F3.out hy
      obtain ⟨f1, f2, f3, _⟩ := F2.out m next hm
      subst hm
      have y0 : ((rdY (.ok m next) : Nat) : Int) = 0 := rfl
      have y1 : rdS (.ok m next) = ⟨m.toArray⟩ := rfl
      have y2 : rdX (.ok m next) = next := rfl
      have y3 : decide (at_ < (next : Int)) = true := by simp; omega
      have y4 : decide ((next : Int) ≤ (A.size : Int) + (n.size : Int) + (B.size : Int)) = true := by simp; omega
      clear hy
      go_wp2_with fail
      refine (may_any _ w4).mono ?_
      rintro e w5 ⟨rfl, rfl⟩
      go_wp2_with fail
      go_ret
      exact ⟨rfl, G4.out⟩
    · have y0 : (((rdY r2 : Nat) : Int) != 0) = true := by simp; omega
      go_wp2_with fail
      go_ret
      exact ⟨rfl, G4.out⟩
  | false =>
    go_wp2_with fail
    refine Calls.mono (R2.out _ (HE.out.kept G2.out (by simp))) ?_
    rintro e w4 ⟨rfl, hg⟩
    have G4 := Lib.hid (gtrans G2.out hg)
    clear hg G2
    by_cases hy : rdY r2 = 0
    · obtain ⟨m, next, hm⟩ := F3.out hy
      obtain ⟨f1, f2, f3, _⟩ := F2.out m next hm
      subst hm
      have y0 : ((rdY (.ok m next) : Nat) : Int) = 0 := rfl
      have y1 : rdS (.ok m next) = ⟨m.toArray⟩ := rfl
      have y2 : rdX (.ok m next) = next := rfl
      have y3 : decide (at_ < (next : Int)) = true := by simp; omega
      have y4 : decide ((next : Int) ≤ (A.size : Int) + (n.size : Int) + (B.size : Int)) = true := by simp; omega
      clear hy
      go_wp2_with fail
      refine (may_any _ w4).mono ?_
      rintro e w5 ⟨rfl, rfl⟩
      go_wp2_with fail
      go_ret
      exact ⟨rfl, G4.out⟩
    · have y0 : (((rdY r2 : Nat) : Int) != 0) = true := by simp; omega
      go_wp2_with fail
      go_ret
      exact ⟨rfl, G4.out⟩
theorem as_walk (A n B : ByteArray) (at_ : Int) (w : World) (he : Et w) : Calls Tryd.prog 7 #[.string A, .string n, .string B, .int .i64 at_] w fun e w' => e = .returned (.bool true) ∧ w.grownBy w' none := by
  by_cases hb : 2000 < A.size ∨ 2000 < B.size ∨ 2000 < n.size
  · exact as_big A n B at_ w he hb
  · exact as_small A n B at_ w he (by omega) (by omega) (by omega)
end Go.Proofs.YtjjegmgjnfkblaaDoor
