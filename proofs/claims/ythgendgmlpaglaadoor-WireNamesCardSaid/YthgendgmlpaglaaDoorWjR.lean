/-
  Wire: reading a message that is cut, and one with more behind (plain).
-/
import Derived.Test.YthgendgmlpaglaaDoorWjQ
namespace Go.Proofs.YthgendgmlpaglaaDoor
open Go.RowKit

theorem ahead_get {t s : ByteArray} (h : Ahead t s) : s.data.toList.take t.size = t.data.toList := by
  have hl : t.data.toList.length = t.size := Array.length_toList
  have hs : s.data.toList.length = s.size := Array.length_toList
  have h1 := h.1
  apply List.ext_getElem?
  intro i
  by_cases hi : i < t.size
  · rw [List.getElem?_take, if_pos hi, h.2 i hi]
  · rw [List.getElem?_take, if_neg hi, List.getElem?_eq_none (by omega)]
theorem num_ahead {t s : ByteArray} (h : Ahead t s) {p n : Nat} (hp : p + n ≤ t.size) : num t p n = num s p n := by
  unfold num
  rw [← ahead_get h, List.drop_take, List.take_take, Nat.min_eq_left (by omega)]
theorem ext_ahead {t s : ByteArray} (h : Ahead t s) {p q : Nat} (hq : q ≤ t.size) : t.extract p q = s.extract p q := by
  apply ByteArray.ext
  rw [ByteArray.data_extract, ByteArray.data_extract]
  apply Array.ext'
  rw [Array.toList_extract, Array.toList_extract, List.extract_eq_take_drop, List.extract_eq_take_drop, ← ahead_get h, List.drop_take, List.take_take]
  by_cases hpq : p ≤ q
  · rw [Nat.min_eq_left (by omega)]
  · rw [show q - p = 0 by omega, Nat.zero_min]
theorem rdQ1_ahead {t s : ByteArray} (h : Ahead t s) (p : Nat) : (rdQ1 t p = rdQ1 s p ∧ ∀ x q, rdQ1 t p = .ok (x, q) → q ≤ t.size) ∨ rdQ1 t p = .error 4 := by
  have h1 := h.1
  rcases rd_ahead h p p none [] with e | e
  · cases hr : rdF s p p none [] with
    | no x =>
      rw [hr] at e
      rw [rdQ1_name e, rdQ1_name hr]
      exact .inl ⟨rfl, fun _ _ hh => by cases hh⟩
    | ok n q =>
      rw [hr] at e
      by_cases hq : q + 4 ≤ t.size
      · left
        rw [rdQ1_ok e hq, rdQ1_ok hr (by omega), num_ahead h (by omega), num_ahead h (by omega)]
        exact ⟨rfl, fun _ _ hh => by cases hh; omega⟩
      · exact .inr (rdQ1_short e hq)
  · exact .inr (rdQ1_name e)
theorem rdQs_ahead {t s : ByteArray} (h : Ahead t s) : ∀ (k p : Nat), p ≤ t.size → (rdQs t k p = rdQs s k p ∧ ∀ l q, rdQs t k p = .ok l q → q ≤ t.size) ∨ rdQs t k p = .no 4
  | 0, p, hp => .inl ⟨rfl, fun l q e => by cases e; exact hp⟩
  | k + 1, p, hp => by
    rw [rdQs, rdQs]
    rcases rdQ1_ahead h p with ⟨e, hb⟩ | e
    · rw [← e]
      cases hr : rdQ1 t p with
      | error x => exact .inl ⟨rfl, fun l q e => by cases e⟩
      | ok y =>
        obtain ⟨x, q⟩ := y
        dsimp only
        rcases rdQs_ahead h k q (hb x q hr) with ⟨e2, h2⟩ | e2
        · rw [← e2]
          refine .inl ⟨rfl, fun l r e3 => ?_⟩
          cases hr2 : rdQs t k q with
          | no z => rw [hr2] at e3; cases e3
          | ok l' r' =>
            rw [hr2] at e3
            cases e3
            exact h2 _ _ hr2
        · rw [e2]
          exact .inr rfl
    · rw [e]
      exact .inr rfl
theorem rdD_ahead {t s : ByteArray} (h : Ahead t s) {a n kind : Nat} (hn : a + n ≤ t.size) : rdD t (a : Int) (n : Int) kind = rdD s (a : Int) (n : Int) kind := by
  have h1 := h.1
  unfold rdD
  rw [if_neg (by omega), if_neg (by omega), show ((a : Int) + (n : Int)).toNat = a + n by omega, ext_ahead h hn]
theorem rd1_ahead {t s : ByteArray} (h : Ahead t s) (add : Bool) (p : Nat) (d : Ed) : (rd1 t add p d = rd1 s add p d ∧ (∀ x q, rd1 t add p d = .put x q → q ≤ t.size) ∧ (∀ q x, rd1 t add p d = .opt q x → q ≤ t.size)) ∨ rd1 t add p d = .no 4 := by
  have h1 := h.1
  rcases rd_ahead h p p none [] with e | e
  · cases hr : rdF s p p none [] with
    | no x =>
      rw [hr] at e
      rw [rd1_name e, rd1_name hr]
      exact .inl ⟨rfl, (fun _ _ hh => by cases hh), fun _ _ hh => by cases hh⟩
    | ok n q =>
      rw [hr] at e
      by_cases hq : q + 10 ≤ t.size ∧ q + 10 + num t (q + 8) 2 ≤ t.size
      · left
        have m4 := num_ahead h (p := q + 8) (n := 2) (by omega)
        have m1 := num_ahead h (p := q) (n := 2) (by omega)
        have m2 := num_ahead h (p := q + 2) (n := 2) (by omega)
        have m3 := num_ahead h (p := q + 4) (n := 4) (by omega)
        have hraw : rawR t n q = rawR s n q := by
          unfold rawR
          rw [m1, m2, m3, ext_ahead h hq.2, m4]
        have hq' : q + 10 ≤ s.size ∧ q + 10 + num s (q + 8) 2 ≤ s.size := by rw [← m4]; omega
        have hq2 := hq.2
        rw [m4] at hq2
        by_cases h41 : num s q 2 = 41
        · rw [rd1_opt e hq (by rw [m1]; exact h41), rd1_opt hr hq' h41, hraw, m4]
          refine ⟨rfl, fun x r hh => ?_, fun r x hh => ?_⟩
          · split at hh <;> cases hh
          · split at hh
            · cases hh; exact hq2
            · cases hh
        · have hdd := rdD_ahead h (a := q + 10) (n := num s (q + 8) 2) (kind := num s q 2) hq2
          cases hd : rdD s ((q + 10 : Nat) : Int) ((num s (q + 8) 2 : Nat) : Int) (num s q 2) with
          | mk dat x =>
            rw [hd] at hdd
            rw [rd1_rec e hq (by rw [m1]; exact h41) (dat := dat) (x := x) (by rw [m4, m1]; exact hdd), rd1_rec hr hq' h41 hd, hraw, m4]
            refine ⟨rfl, fun y r hh => ?_, fun r y hh => ?_⟩
            · split at hh
              · cases hh; exact hq2
              · cases hh
            · split at hh <;> cases hh
      · exact .inr (rd1_short e hq)
  · exact .inr (rd1_name e)
theorem rdRs_ahead {t s : ByteArray} (h : Ahead t s) (add : Bool) : ∀ (k p : Nat) (d : Ed), p ≤ t.size → (rdRs t add k p d = rdRs s add k p d ∧ ∀ l q d', rdRs t add k p d = .ok l q d' → q ≤ t.size) ∨ rdRs t add k p d = .no 4
  | 0, p, d, hp => .inl ⟨rfl, fun l q d' e => by cases e; exact hp⟩
  | k + 1, p, d, hp => by
    rcases rd1_ahead h add p d with ⟨e, hb, hc⟩ | e
    · cases hr : rd1 t add p d with
      | no x =>
        rw [rdRs_no hr, rdRs_no (e ▸ hr)]
        exact .inl ⟨rfl, fun l q d' e => by cases e⟩
      | opt q d1 =>
        rw [rdRs_opt hr, rdRs_opt (e ▸ hr)]
        exact rdRs_ahead h add k q d1 (hc _ _ hr)
      | put x q =>
        rw [rdRs_rec hr, rdRs_rec (e ▸ hr)]
        rcases rdRs_ahead h add k q d (hb _ _ hr) with ⟨e2, h2⟩ | e2
        · rw [← e2]
          refine .inl ⟨rfl, fun l r d' e3 => ?_⟩
          cases hr2 : rdRs t add k q d with
          | no z => rw [hr2] at e3; cases e3
          | ok l' r' d2 =>
            rw [hr2] at e3
            cases e3
            exact h2 _ _ _ hr2
        · rw [e2]
          exact .inr rfl
    · exact .inr (rdRs_no e)
/-- The parts of a reading that succeeds. -/
structure RdParts (s : ByteArray) (m : Ms) : Prop where
  ex : ∃ qs p an p1 d1 au p2 d2 ex d3, rdQs s (num s 4 2) 12 = .ok qs p ∧ rdRs s false (num s 6 2) p ed0 = .ok an p1 d1 ∧ rdRs s false (num s 8 2) p1 d1 = .ok au p2 d2 ∧ rdRs s true (num s 10 2) p2 d2 = .ok ex s.size d3 ∧ m = msOf (fromN (num s 0 2) (num s 2 2)) qs an au ex d3
theorem rdRs_le {s : ByteArray} {add : Bool} {k p : Nat} {d : Ed} {l : List Rc} {q : Nat} {d' : Ed} (hp : p ≤ s.size) (h : rdRs s add k p d = .ok l q d') : q ≤ s.size := by
  rcases rdRs_ahead ⟨Nat.le_refl s.size, fun _ _ => rfl⟩ add k p d hp with ⟨_, h2⟩ | h2
  · exact h2 _ _ _ h
  · rw [h2] at h; cases h
theorem rdQs_le {s : ByteArray} {k p : Nat} {l : List Qn} {q : Nat} (hp : p ≤ s.size) (h : rdQs s k p = .ok l q) : q ≤ s.size := by
  rcases rdQs_ahead ⟨Nat.le_refl s.size, fun _ _ => rfl⟩ k p hp with ⟨_, h2⟩ | h2
  · exact h2 _ _ h
  · rw [h2] at h; cases h
theorem rdM_parts {s : ByteArray} {m : Ms} (h : rdM s = .ok m) : RdParts s m := by
  obtain ⟨_, _, h12, hmax⟩ := rdM_rng h
  unfold rdM at h
  rw [if_neg (by omega), if_neg (by omega)] at h
  cases hq : rdQs s (num s 4 2) 12 with
  | no e => rw [hq] at h; cases h
  | ok qs p =>
    rw [hq] at h
    unfold rdG rdA at h
    dsimp only at h
    have hp := rdQs_le h12 hq
    cases ha : rdRs s false (num s 6 2) p ed0 with
    | no e => rw [ha] at h; cases h
    | ok an p1 d1 =>
      rw [ha] at h
      dsimp only at h
      unfold rdU at h
      have hp1 := rdRs_le hp ha
      cases hu : rdRs s false (num s 8 2) p1 d1 with
      | no e => rw [hu] at h; cases h
      | ok au p2 d2 =>
        rw [hu] at h
        dsimp only at h
        unfold rdX at h
        have hp2 := rdRs_le hp1 hu
        cases hx : rdRs s true (num s 10 2) p2 d2 with
        | no e => rw [hx] at h; cases h
        | ok ex p3 d3 =>
          rw [hx] at h
          dsimp only at h
          have hp3 := rdRs_le hp2 hx
          unfold rdEnd at h
          split at h
          · cases h
          · rename_i hlt
            obtain rfl : p3 = s.size := by omega
            split at h
            · cases h
              exact ⟨qs, p, an, p1, d1, au, p2, d2, ex, d3, hq, ha, hu, hx, rfl⟩
            · cases h
/-- A message that is cut is short. -/
theorem rdM_cut {t s : ByteArray} {m : Ms} (h : Ahead t s) (hlt : t.size < s.size) (hs : rdM s = .ok m) : rdM t = .error 4 := by
  obtain ⟨_, _, _, hmax⟩ := rdM_rng hs
  obtain ⟨qs, p, an, p1, d1, au, p2, d2, ex, d3, hq, ha, hu, hx, _⟩ := (rdM_parts hs).ex
  unfold rdM
  rw [if_neg (by omega)]
  by_cases h12 : t.size < 12
  · rw [if_pos h12]
  rw [if_neg h12, num_ahead h (by omega), num_ahead h (by omega), num_ahead h (by omega), num_ahead h (by omega), num_ahead h (by omega), num_ahead h (by omega)]
  rcases rdQs_ahead h (num s 4 2) 12 (by omega) with ⟨e, hb⟩ | e
  case inr => rw [e]; rfl
  rw [hq] at e
  have hp := hb _ _ e
  rw [e]
  unfold rdG rdA
  dsimp only
  rcases rdRs_ahead h false (num s 6 2) p ed0 hp with ⟨e, hb⟩ | e
  case inr => rw [e]
  rw [ha] at e
  have hp1 := hb _ _ _ e
  rw [e]
  dsimp only
  unfold rdU
  rcases rdRs_ahead h false (num s 8 2) p1 d1 hp1 with ⟨e, hb⟩ | e
  case inr => rw [e]
  rw [hu] at e
  have hp2 := hb _ _ _ e
  rw [e]
  dsimp only
  unfold rdX
  rcases rdRs_ahead h true (num s 10 2) p2 d2 hp2 with ⟨e, hb⟩ | e
  case inr => rw [e]
  rw [hx] at e
  have := hb _ _ _ e
  omega
/-- One with bytes behind it is long. -/
theorem rdM_more {s u : ByteArray} {m : Ms} (h : Ahead s u) (hlt : s.size < u.size) (hs : rdM s = .ok m) : rdM u = .error 5 := by
  obtain ⟨_, _, h12, _⟩ := rdM_rng hs
  obtain ⟨qs, p, an, p1, d1, au, p2, d2, ex, d3, hq, ha, hu, hx, _⟩ := (rdM_parts hs).ex
  unfold rdM
  by_cases hmax : 65535 < u.size
  · rw [if_pos hmax]
  rw [if_neg hmax, if_neg (by omega), ← num_ahead h (by omega), ← num_ahead h (by omega), ← num_ahead h (by omega), ← num_ahead h (by omega), ← num_ahead h (by omega), ← num_ahead h (by omega)]
  have hp := rdQs_le h12 hq
  have hp1 := rdRs_le hp ha
  have hp2 := rdRs_le hp1 hu
  rcases rdQs_ahead h (num s 4 2) 12 (by omega) with ⟨e, _⟩ | e
  case inr => rw [hq] at e; cases e
  rw [← e, hq]
  unfold rdG rdA
  dsimp only
  rcases rdRs_ahead h false (num s 6 2) p ed0 hp with ⟨e, _⟩ | e
  case inr => rw [ha] at e; cases e
  rw [← e, ha]
  dsimp only
  unfold rdU
  rcases rdRs_ahead h false (num s 8 2) p1 d1 hp1 with ⟨e, _⟩ | e
  case inr => rw [hu] at e; cases e
  rw [← e, hu]
  dsimp only
  unfold rdX
  rcases rdRs_ahead h true (num s 10 2) p2 d2 hp2 with ⟨e, _⟩ | e
  case inr => rw [hx] at e; cases e
  rw [← e, hx]
  dsimp only
  unfold rdEnd
  rw [if_pos hlt]
end Go.Proofs.YthgendgmlpaglaaDoor
