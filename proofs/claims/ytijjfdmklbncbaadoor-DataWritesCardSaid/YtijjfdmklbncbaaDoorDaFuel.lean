/-
  Closed examples of data (layer 5) are reckoned by functions that go down a number.
-/
import Derived.Test.YtijjfdmklbncbaaDoorDaNum
import Derived.Test.YtijjfdmklbncbaaDoorCoFuel
namespace Go.Proofs.YtijjfdmklbncbaaDoor

def exK (s : ByteArray) (p q : Nat) : ByteArray := ⟨((s.data.toList.drop p).take (q - p)).toArray⟩
theorem exK_eq (s : ByteArray) (p q : Nat) : s.extract p q = exK s p q := by
  refine ba_ext ?_
  rw [Go.Lib.extract_data]
  rfl
def txK : Nat → ByteArray → Nat → Option Bool
  | 0, _, _ => none
  | k + 1, s, p => if p < s.size then (if p + 1 + bt s p = s.size then some true else txK k s (p + 1 + bt s p)) else some false
theorem txK_eq (s : ByteArray) : ∀ (k p : Nat) (b : Bool), txK k s p = some b → txF s p = b := by
  intro k
  induction k with
  | zero => intro p b h; cases h
  | succ k ih =>
    intro p b h
    unfold txK at h
    by_cases h1 : p < s.size
    · rw [if_pos h1] at h
      by_cases h2 : p + 1 + bt s p = s.size
      · rw [if_pos h2] at h; rw [txF_end h1 h2]; exact Option.some.inj h
      · rw [if_neg h2] at h; rw [txF_step h1 h2]; exact ih _ _ h
    · rw [if_neg h1] at h; rw [txF_out (by omega)]; exact Option.some.inj h
def ckK (k : Nat) (c : Ck) (s : ByteArray) (p : Nat) : Option Cr :=
  match c with
  | .num n => some (if s.size - p < n then .no 4 else .ok ⟨exK s p (p + n), false, p + n⟩)
  | .nam => match rdK k s p p none [] with
    | some (.ok n next) => some (.ok ⟨⟨n.toArray⟩, true, next⟩)
    | some (.no e) => some (.no e)
    | none => none
  | .txt => match txK k s p with
    | some true => some (.ok ⟨exK s p s.size, false, s.size⟩)
    | some false => some (.no 4)
    | none => none
  | .rst => some (.ok ⟨exK s p s.size, false, s.size⟩)
theorem ckK_eq {k : Nat} {c : Ck} {s : ByteArray} {p : Nat} {r : Cr} (h : ckK k c s p = some r) : ckF c s p = r := by
  cases c with
  | num n =>
    have h' := Option.some.inj h
    rw [← h', ← exK_eq]
    rfl
  | nam =>
    unfold ckK at h
    simp only at h
    unfold ckF
    simp only
    cases hr : rdK k s p p none [] with
    | none => rw [hr] at h; cases h
    | some q =>
      rw [hr] at h
      rw [rdK_eq s k _ _ _ _ _ hr]
      cases q with
      | ok n next => exact Option.some.inj h
      | no e => exact Option.some.inj h
  | txt =>
    unfold ckK at h
    simp only at h
    unfold ckF
    simp only
    cases hr : txK k s p with
    | none => rw [hr] at h; cases h
    | some b =>
      rw [hr] at h
      rw [txK_eq s k _ _ hr]
      cases b with
      | true => rw [if_pos rfl, exK_eq]; exact Option.some.inj h
      | false => exact Option.some.inj h
  | rst =>
    have h' := Option.some.inj h
    rw [← h', ← exK_eq]
    rfl
def runK (k : Nat) : List Ck → ByteArray → Nat → List Pc → Option Rr
  | [], _, p, out => some (.ok out p)
  | c :: cs, s, p, out => match ckK k c s p with
    | some (.ok x) => runK k cs s x.next (out ++ [x])
    | some (.no e) => some (.no e)
    | none => none
theorem runK_eq {k : Nat} {s : ByteArray} : ∀ (cs : List Ck) (p : Nat) (out : List Pc) (r : Rr), runK k cs s p out = some r → runF cs s p out = r := by
  intro cs
  induction cs with
  | nil => intro p out r h; exact Option.some.inj h
  | cons c cs ih =>
    intro p out r h
    unfold runK at h
    unfold runF
    cases hc : ckK k c s p with
    | none => rw [hc] at h; cases h
    | some q =>
      rw [hc] at h
      rw [ckK_eq hc]
      cases q with
      | ok x => exact ih _ _ _ h
      | no e => exact Option.some.inj h
def splK (k : Nat) (s : ByteArray) (p kind : Nat) : Option Ds :=
  if kind = 41 then some (.no 3) else match runK k (cks kind) s p [] with
    | some (.ok l q) => some (if q < s.size then .no 3 else .ok l)
    | some (.no e) => some (.no e)
    | none => none
theorem splK_eq {k : Nat} {s : ByteArray} {p kind : Nat} {r : Ds} (h : splK k s p kind = some r) : splF s p kind = r := by
  unfold splK at h
  unfold splF
  by_cases h41 : kind = 41
  · rw [if_pos h41] at h ⊢; exact Option.some.inj h
  · rw [if_neg h41] at h ⊢
    cases hr : runK k (cks kind) s p [] with
    | none => rw [hr] at h; cases h
    | some q =>
      rw [hr] at h
      rw [runK_eq _ _ _ _ hr]
      cases q with
      | ok l q => exact Option.some.inj h
      | no e => exact Option.some.inj h
theorem whK {k kind : Nat} {d : ByteArray} {l : List Pc} (h : splK k d 0 kind = some (.ok l)) (ht : tx l = d.data.toList) : whF kind d = some l := by
  unfold whF
  rw [splK_eq h]
  simp only
  rw [if_pos (by rw [ht])]
theorem whK_no {k kind e : Nat} {d : ByteArray} (h : splK k d 0 kind = some (.no e)) : whF kind d = none := by
  unfold whF
  rw [splK_eq h]
theorem whK_ne {k kind : Nat} {d : ByteArray} {l : List Pc} (h : splK k d 0 kind = some (.ok l)) (ht : ¬ tx l = d.data.toList) : whF kind d = none := by
  unfold whF
  rw [splK_eq h]
  simp only
  rw [if_neg]
  intro e
  exact ht (by rw [← e])
end Go.Proofs.YtijjfdmklbncbaaDoor
