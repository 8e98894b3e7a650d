/-
  Wire: errors of reading are none of them 0; a message that is read may be, and is written (plain).
-/
import Derived.Test.YtkhigfbmdolgmaaGreatDoorWjF
namespace Go.Proofs.YtkhigfbmdolgmaaGreatDoor
open Go.RowKit

theorem optF_no {add : Bool} {d : Ed} {r : Rc} {x : Nat} (h : optF add d r = .error x) : x ≠ 0 := by
  unfold optF at h
  split at h
  · split at h
    · cases h
    · cases h; decide
  · cases h; decide
theorem rd1_no0 {s : ByteArray} {add : Bool} {p x : Nat} {d : Ed} (h : rd1 s add p d = .no x) : x ≠ 0 := by
  unfold rd1 at h
  cases hr : rdF s p p none [] with
  | no e =>
    rw [hr] at h
    have e1 : e = x := by simpa using h
    exact e1 ▸ rd_no' _ _ _ _ _ hr
  | ok n q =>
    rw [hr] at h
    dsimp only at h
    split at h
    · split at h
      · cases ho : optF add d (rawR s n q) with
        | ok d' => rw [ho] at h; cases h
        | error y =>
          rw [ho] at h
          have e1 : y = x := by simpa using h
          exact e1 ▸ optF_no ho
      · split at h
        · cases h
        · rename_i hne
          have e1 : (rdD s ((q + 10 : Nat) : Int) ((num s (q + 8) 2 : Nat) : Int) (num s q 2)).2 = x := by simpa using h
          exact e1 ▸ hne
    · have e1 : 4 = x := by simpa using h
      omega
theorem rdRs_no0 {s : ByteArray} {add : Bool} : ∀ (k p : Nat) (d : Ed) {x : Nat}, rdRs s add k p d = .no x → x ≠ 0
  | 0, p, d, x, h => by cases h
  | k + 1, p, d, x, h => by
    cases h1 : rd1 s add p d with
    | no e =>
      rw [rdRs_no h1] at h
      have e1 : e = x := by simpa using h
      exact e1 ▸ rd1_no0 h1
    | opt q d' =>
      rw [rdRs_opt h1] at h
      exact rdRs_no0 k q d' h
    | put r q =>
      rw [rdRs_rec h1] at h
      cases h2 : rdRs s add k q d with
      | no e =>
        rw [h2] at h
        have e1 : e = x := by simpa [Rq.pre] using h
        exact e1 ▸ rdRs_no0 k q d h2
      | ok l q' d' => rw [h2] at h; cases h
theorem rdQs_no0 {s : ByteArray} : ∀ (k p : Nat) {x : Nat}, rdQs s k p = .no x → x ≠ 0
  | 0, p, x, h => by cases h
  | k + 1, p, x, h => by
    rw [rdQs] at h
    cases h1 : rdQ1 s p with
    | error e =>
      rw [h1] at h
      have e1 : e = x := by simpa using h
      unfold rdQ1 at h1
      cases hr : rdF s p p none [] with
      | no e2 =>
        rw [hr] at h1
        have e3 : e2 = e := by simpa using h1
        exact e1 ▸ e3 ▸ rd_no' _ _ _ _ _ hr
      | ok n q =>
        rw [hr] at h1
        dsimp only at h1
        split at h1
        · cases h1
        · have e3 : 4 = e := by simpa using h1
          omega
    | ok y =>
      obtain ⟨y, q⟩ := y
      rw [h1] at h
      dsimp only at h
      cases h2 : rdQs s k q with
      | no e =>
        rw [h2] at h
        have e1 : e = x := by simpa [Qq.pre] using h
        exact e1 ▸ rdQs_no0 k q h2
      | ok l q' => rw [h2] at h; cases h
theorem rdM_no {s : ByteArray} {x : Nat} (h : rdM s = .error x) : x ≠ 0 := by
  unfold rdM at h
  split at h
  · cases h; decide
  · split at h
    · cases h; decide
    · cases hq : rdQs s (num s 4 2) 12 with
      | no e =>
        rw [hq] at h
        have e1 : e = x := by simpa [rdG] using h
        exact e1 ▸ rdQs_no0 _ _ hq
      | ok qs p =>
        rw [hq] at h
        unfold rdG rdA at h
        dsimp only at h
        cases ha : rdRs s false (num s 6 2) p ed0 with
        | no e =>
          rw [ha] at h
          have e1 : e = x := by simpa using h
          exact e1 ▸ rdRs_no0 _ _ _ ha
        | ok an p1 d1 =>
          rw [ha] at h
          dsimp only at h
          unfold rdU at h
          cases hu : rdRs s false (num s 8 2) p1 d1 with
          | no e =>
            rw [hu] at h
            have e1 : e = x := by simpa using h
            exact e1 ▸ rdRs_no0 _ _ _ hu
          | ok au p2 d2 =>
            rw [hu] at h
            dsimp only at h
            unfold rdX at h
            cases hx : rdRs s true (num s 10 2) p2 d2 with
            | no e =>
              rw [hx] at h
              have e1 : e = x := by simpa using h
              exact e1 ▸ rdRs_no0 _ _ _ hx
            | ok ex p3 d3 =>
              rw [hx] at h
              dsimp only at h
              unfold rdEnd at h
              split at h
              · cases h; decide
              · split at h
                · cases h
                · rename_i hne
                  injection h with e1
                  exact e1 ▸ hne
theorem dc_case (s : ByteArray) : (dcM s = ms0 ∧ ¬ dcE s = 0) ∨ (∃ m, rdM s = .ok m ∧ dcM s = m ∧ dcE s = 0) := by
  unfold dcM dcE
  cases h : rdM s with
  | ok m => exact .inr ⟨m, rfl, rfl, rfl⟩
  | error x => exact .inl ⟨rfl, rdM_no h⟩
end Go.Proofs.YtkhigfbmdolgmaaGreatDoor
