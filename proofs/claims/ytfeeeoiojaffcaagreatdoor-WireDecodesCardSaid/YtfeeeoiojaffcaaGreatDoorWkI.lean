/-
  Wire: a message that is read may be, and the document can write it (plain).
-/
import Derived.Test.YtfeeeoiojaffcaaGreatDoorWkE
import Derived.Test.YtfeeeoiojaffcaaGreatDoorA19
namespace Go.Proofs.YtfeeeoiojaffcaaGreatDoor
open Go.RowKit

def ckw (c : Ck) : Nat := match c with | .num n => n | .nam => 255 | .txt => 4000 | .rst => 4000
theorem ck_w {c : Ck} {s : ByteArray} {p : Nat} {x : Pc} (hs : s.size ≤ 4000) (h : ckF c s p = .ok x) : x.text.size ≤ ckw c := by
  cases c with
  | num n =>
    unfold ckF at h
    simp only at h
    split at h
    · cases h
    · cases h; show (s.extract _ _).size ≤ n; rw [ext_size]; omega
  | nam =>
    unfold ckF at h
    simp only at h
    cases hr : rdF s p p none [] with
    | ok m q => rw [hr] at h; cases h; exact (may_size (rd_le hr).2.2).1
    | no e => rw [hr] at h; cases h
  | txt =>
    unfold ckF at h
    simp only at h
    split at h
    · cases h; show (s.extract _ _).size ≤ 4000; rw [ext_size]; omega
    · cases h
  | rst => cases h; show (s.extract _ _).size ≤ 4000; rw [ext_size]; omega
theorem run_w {s : ByteArray} (hs : s.size ≤ 4000) : ∀ (cs : List Ck) (p : Nat) (out l : List Pc) (q : Nat), runF cs s p out = .ok l q → (tx l).length ≤ (tx out).length + (cs.map ckw).sum := by
  intro cs
  induction cs with
  | nil => intro p out l q h; cases h; omega
  | cons c cs ih =>
    intro p out l q h
    unfold runF at h
    cases hc : ckF c s p with
    | no e => rw [hc] at h; cases h
    | ok x =>
      rw [hc] at h
      have h1 := ih _ _ _ _ h
      have h2 := ck_w hs hc
      rw [tx_app, List.length_append] at h1
      have h3 : (tx [x]).length = x.text.size := by unfold tx; simp
      rw [h3] at h1
      simp only [List.map_cons, List.sum_cons]
      omega
theorem cks_w (kind : Nat) : ((cks kind).map ckw).sum ≤ 4500 := by
  unfold cks
  repeat' split
  all_goals simp [ckw]
theorem rdD_w {s : ByteArray} (hs : s.size ≤ 4000) (a n : Int) (k : Nat) : (rdD s a n k).1.size ≤ 4500 := by
  unfold rdD
  split
  · show ByteArray.size ⟨#[]⟩ ≤ _; exact Nat.zero_le _
  · cases hsp : splF (s.extract 0 (a + n).toNat) a.toNat k with
    | no e => show ByteArray.size ⟨#[]⟩ ≤ _; exact Nat.zero_le _
    | ok l =>
      show ByteArray.size ⟨(tx l).toArray⟩ ≤ _
      unfold splF at hsp
      split at hsp
      · cases hsp
      · cases hr : runF (cks k) (s.extract 0 (a + n).toNat) a.toNat [] with
        | no e => rw [hr] at hsp; cases hsp
        | ok l' q =>
          rw [hr] at hsp
          simp only at hsp
          split at hsp
          · cases hsp
          · cases hsp
            have h1 := run_w (by rw [ext_size]; omega) _ _ _ _ _ hr
            have h2 := cks_w k
            have h3 : (tx []).length = 0 := rfl
            show (tx l).toArray.size ≤ _
            rw [List.size_toArray]
            omega
/-- A record that was read. -/
structure Rc.fine (r : Rc) : Prop where
  may : okR' r = true
  data : r.data.size ≤ 4500
  name : r.name.size ≤ 255
theorem rd1_put {s : ByteArray} {add : Bool} {p q : Nat} {d : Ed} {r : Rc} (hs : s.size ≤ 4000) (h : rd1 s add p d = .put r q) : r.fine := by
  unfold rd1 at h
  cases hF : rdF s p p none [] with
  | no e => rw [hF] at h; cases h
  | ok n q0 =>
    rw [hF] at h
    dsimp only at h
    split at h
    · split at h
      · cases ho : optF add d (rawR s n q0) with
        | error x => rw [ho] at h; cases h
        | ok d1 => rw [ho] at h; cases h
      · split at h
        · rename_i hx
          cases h
          refine ⟨?_, rdD_w hs _ _ _, (may_size (rd_le hF).2.2).1⟩
          unfold okR'
          rw [Bool.and_eq_true]
          exact ⟨(rd_le hF).2.2, read_may (Prod.ext rfl hx)⟩
        · cases h
    · cases h
theorem rd1_opt_has {s : ByteArray} {add : Bool} {p q : Nat} {d d' : Ed} (h : rd1 s add p d = .opt q d') : add = true ∧ d'.has = true := by
  unfold rd1 at h
  cases hF : rdF s p p none [] with
  | no e => rw [hF] at h; cases h
  | ok n q0 =>
    rw [hF] at h
    dsimp only at h
    split at h
    · split at h
      · cases ho : optF add d (rawR s n q0) with
        | error x => rw [ho] at h; cases h
        | ok d1 =>
          rw [ho] at h
          cases h
          unfold optF at ho
          split at ho
          · rename_i hc
            cases hop : opsAt (rawR s n q0).data 0 with
            | none => rw [hop] at ho; cases ho
            | some l => rw [hop] at ho; cases ho; exact ⟨hc.1, rfl⟩
          · cases ho
      · split at h
        · cases h
        · cases h
    · cases h
theorem rdRs_fine {s : ByteArray} {add : Bool} (hs : s.size ≤ 4000) : ∀ (k p : Nat) (d : Ed) (l : List Rc) (q : Nat) (d' : Ed), rdRs s add k p d = .ok l q d' →
    (∀ r ∈ l, r.fine) ∧ (d'.has = true ∨ d' = d) ∧ (add = false → d' = d) ∧ l.length ≤ k ∧ (d'.has = true → d.has = true ∨ l.length + 1 ≤ k) := by
  intro k
  induction k with
  | zero =>
    intro p d l q d' h
    cases h
    exact ⟨by simp, .inr rfl, fun _ => rfl, by simp, fun h => .inl h⟩
  | succ k ih =>
    intro p d l q d' h
    cases h1 : rd1 s add p d with
    | no e => rw [rdRs_no h1] at h; cases h
    | opt q1 d1 =>
      rw [rdRs_opt h1] at h
      obtain ⟨a, b, c, e, f⟩ := ih _ _ _ _ _ h
      obtain ⟨g1, g2⟩ := rd1_opt_has h1
      refine ⟨a, ?_, fun h0 => (by rw [g1] at h0; cases h0), by omega, fun _ => .inr (by omega)⟩
      rcases b with b | b
      · exact .inl b
      · rw [b]; exact .inl g2
    | put r q1 =>
      rw [rdRs_rec h1] at h
      cases h2 : rdRs s add k q1 d with
      | no e => rw [h2] at h; cases h
      | ok l2 q2 d2 =>
        rw [h2] at h
        cases h
        obtain ⟨a, b, c, e, f⟩ := ih _ _ _ _ _ h2
        refine ⟨fun x hx => ?_, b, c, by simp; omega, fun hh => ?_⟩
        · rcases List.mem_append.1 hx with hx | hx
          · rw [List.mem_singleton.1 hx]; exact rd1_put hs h1
          · exact a x hx
        · rcases f hh with f | f
          · exact .inl f
          · exact .inr (by simp; omega)
theorem rdQs_fine {s : ByteArray} : ∀ (k p : Nat) (l : List Qn) (q : Nat), rdQs s k p = .ok l q → l.length ≤ k ∧ ∀ x ∈ l, okQ x = true ∧ x.name.size ≤ 255 := by
  intro k
  induction k with
  | zero => intro p l q h; cases h; simp
  | succ k ih =>
    intro p l q h
    rw [rdQs] at h
    cases h1 : rdQ1 s p with
    | error e => rw [h1] at h; cases h
    | ok xq =>
      obtain ⟨x, q1⟩ := xq
      rw [h1] at h
      dsimp only at h
      cases h2 : rdQs s k q1 with
      | no e => rw [h2] at h; cases h
      | ok l2 q2 =>
        rw [h2] at h
        cases h
        obtain ⟨i1, i2⟩ := ih _ _ _ h2
        refine ⟨by simp; omega, fun y hy => ?_⟩
        rcases List.mem_append.1 hy with hy | hy
        · rw [List.mem_singleton.1 hy]
          unfold rdQ1 at h1
          cases hF : rdF s p p none [] with
          | no e => rw [hF] at h1; cases h1
          | ok n q0 =>
            rw [hF] at h1
            dsimp only at h1
            split at h1
            · cases h1; exact ⟨(rd_le hF).2.2, (may_size (rd_le hF).2.2).1⟩
            · cases h1
        · exact i2 y hy
theorem ms_read {s : ByteArray} {id n n0 n1 n2 n3 p0 p1 p2 p3 : Nat} {l : List Qn} {an au ex : List Rc} {d0 d1 d2 : Ed} (hid : id < 65536) (h0 : n0 < 65536) (h1 : n1 < 65536) (h2 : n2 < 65536) (h3 : n3 < 65536) (hs : s.size ≤ 4000)
    (hq : rdQs s n0 12 = .ok l p0) (ha : rdRs s false n1 p0 ed0 = .ok an p1 d0) (hu : rdRs s false n2 p1 d0 = .ok au p2 d1) (hx : rdRs s true n3 p2 d1 = .ok ex p3 d2) : (msOf (fromN id n) l an au ex d2).may = true ∧ (msOf (fromN id n) l an au ex d2).doc := by
  have rg := msOf_rng (H := fromN id n) hid (by omega) (by omega) hq ha hu hx
  obtain ⟨q1, q2⟩ := rdQs_fine _ _ _ _ hq
  obtain ⟨a1, a2, a3, a4, a5⟩ := rdRs_fine hs _ _ _ _ _ _ ha
  obtain ⟨u1, u2, u3, u4, u5⟩ := rdRs_fine hs _ _ _ _ _ _ hu
  obtain ⟨x1, x2, x3, x4, x5⟩ := rdRs_fine hs _ _ _ _ _ _ hx
  have e0 : d0 = ed0 := a3 rfl
  have e1 : d1 = ed0 := (u3 rfl).trans e0
  have f : ∀ (l : List Rc), (∀ r ∈ l, r.fine) → l.all okR = true := fun l h => List.all_eq_true.2 fun r hr => (okR_same r).trans (h r hr).may
  have g : ∀ (l : List Rc), (∀ r ∈ l, r.fine) → ∀ r ∈ l, r.name.size ≤ 1000000 ∧ r.data.size ≤ 5000 := fun l h r hr => ⟨by have := (h r hr).name; omega, by have := (h r hr).data; omega⟩
  refine ⟨Ms.may_yes.2 ⟨?_, ?_, ?_, ?_, ?_, List.all_eq_true.2 fun q hq => (q2 q hq).1, f _ a1, f _ u1, f _ x1, ?_⟩, ⟨rg, fun q hq => by have := (q2 q hq).2; omega, g _ a1, g _ u1, g _ x1⟩⟩
  · show ¬ (15 < n / 2048 % 16 ∨ 15 < n % 16)
    omega
  · show l.length ≤ _; omega
  · show an.length ≤ _; omega
  · show au.length ≤ _; omega
  · show ex.length + d2.has.toNat ≤ _
    cases hh : d2.has with
    | false => simp; omega
    | true =>
      rcases x5 hh with k | k
      · rw [e1] at k; cases k
      · simp; omega
  · show (d2.has || _) = true
    rcases x2 with k | k
    · rw [k]; rfl
    · rw [k, e1]; rfl
theorem wE_three (m : Ms) : (m.wE = 0 ∧ m.may = true) ∨ (m.wE = 3 ∧ m.may = false) ∨ (m.wE = 5 ∧ m.may = true) := by
  unfold Ms.wE
  by_cases h1 : m.may = false
  · rw [if_pos h1]; exact .inr (.inl ⟨rfl, h1⟩)
  · have h2 : m.may = true := by simpa using h1
    rw [if_neg h1]
    split
    · exact .inr (.inr ⟨rfl, h2⟩)
    · exact .inl ⟨rfl, h2⟩
/-- The end, as the document says it. -/
theorem rdEnd_doc {s : ByteArray} {p : Nat} {m : Ms} (hm : m.may = true) : rdEnd s p m = if p < s.size ∨ ¬ m.wE = 0 then .error 5 else .ok m := by
  unfold rdEnd
  by_cases h : p < s.size
  · rw [if_pos h, if_pos (.inl h)]
  · rw [if_neg h]
    rcases wE_three m with ⟨h1, _⟩ | ⟨_, h2⟩ | ⟨h1, _⟩
    · rw [if_pos h1, if_neg (by omega)]
    · rw [hm] at h2; cases h2
    · rw [if_neg (by omega), if_pos (.inr (by omega)), h1]
end Go.Proofs.YtfeeeoiojaffcaaGreatDoor
