/-
  Data (layer 5): how the parts of data are read, as the program says it and as the document says it.
  Closed examples of data (layer 5) are reckoned by functions that go down a number.
-/
import Derived.Test.YthgendgmlpaglaaDoorA4
namespace Go.Proofs.YthgendgmlpaglaaDoor

inductive Ck where
  | num (n : Nat)
  | nam
  | txt
  | rst
structure Pc where
  text : ByteArray
  name : Bool
  next : Nat
inductive Cr where
  | ok (x : Pc)
  | no (e : Nat)
inductive Rr where
  | ok (l : List Pc) (q : Nat)
  | no (e : Nat)
inductive Ds where
  | ok (l : List Pc)
  | no (e : Nat)
/-- Do texts, one or more, stand from p to the end? -/
def txF (s : ByteArray) (p : Nat) : Bool :=
  if _h : p < s.size then (if p + 1 + bt s p = s.size then true else txF s (p + 1 + bt s p)) else false
termination_by s.size - p
theorem txF_out {s : ByteArray} {p : Nat} (h : s.size ≤ p) : txF s p = false := by rw [txF, dif_neg (by omega)]
theorem txF_end {s : ByteArray} {p : Nat} (h : p < s.size) (e : p + 1 + bt s p = s.size) : txF s p = true := by rw [txF, dif_pos h, if_pos e]
theorem txF_step {s : ByteArray} {p : Nat} (h : p < s.size) (e : ¬ p + 1 + bt s p = s.size) : txF s p = txF s (p + 1 + bt s p) := by rw [txF, dif_pos h, if_neg e]
def ckF (c : Ck) (s : ByteArray) (p : Nat) : Cr :=
  match c with
  | .num n => if s.size - p < n then .no 4 else .ok ⟨s.extract p (p + n), false, p + n⟩
  | .nam => match rdF s p p none [] with
    | .ok n next => .ok ⟨⟨n.toArray⟩, true, next⟩
    | .no e => .no e
  | .txt => if txF s p = true then .ok ⟨s.extract p s.size, false, s.size⟩ else .no 4
  | .rst => .ok ⟨s.extract p s.size, false, s.size⟩
def runF : List Ck → ByteArray → Nat → List Pc → Rr
  | [], _, p, out => .ok out p
  | c :: cs, s, p, out => match ckF c s p with
    | .ok x => runF cs s x.next (out ++ [x])
    | .no e => .no e
def cks (kind : Nat) : List Ck :=
  if kind = 1 then [.num 4]
  else if kind = 28 then [.num 16]
  else if kind = 2 ∨ kind = 5 ∨ kind = 12 then [.nam]
  else if kind = 15 then [.num 2, .nam]
  else if kind = 6 then [.nam, .nam, .num 20]
  else if kind = 33 then [.num 6, .nam]
  else if kind = 16 then [.txt]
  else [.rst]
theorem cks_len (kind : Nat) : (cks kind).length ≤ 3 := by unfold cks; repeat' split
                                                           all_goals simp
def splF (s : ByteArray) (p kind : Nat) : Ds :=
  if kind = 41 then .no 3 else match runF (cks kind) s p [] with
    | .ok l q => if q < s.size then .no 3 else .ok l
    | .no e => .no e
/-- The bytes of parts. -/
def tx (l : List Pc) : List UInt8 := l.flatMap fun x => x.text.data.toList
def whF (kind : Nat) (d : ByteArray) : Option (List Pc) :=
  match splF d 0 kind with
  | .ok l => if (⟨(tx l).toArray⟩ : ByteArray) = d then some l else none
  | .no _ => none

/-- The document's layout: bytes ahead, names, bytes behind. -/
def layF (kind : Nat) : Option (Nat × Nat × Nat) :=
  if kind = 1 then some (4, 0, 0)
  else if kind = 28 then some (16, 0, 0)
  else if kind = 2 ∨ kind = 5 ∨ kind = 12 then some (0, 1, 0)
  else if kind = 15 then some (2, 1, 0)
  else if kind = 6 then some (0, 2, 20)
  else if kind = 33 then some (6, 1, 0)
  else none
def rnF : Nat → ByteArray → Nat → List Pc → Rr
  | 0, _, p, out => .ok out p
  | n + 1, s, p, out => match rdF s p p none [] with
    | .ok m q => rnF n s q (out ++ [⟨⟨m.toArray⟩, true, 0⟩])
    | .no e => .no e
def rplF (s : ByteArray) (p kind : Nat) : Ds :=
  if kind = 41 then .no 3
  else if kind = 16 then (if txF s p = true then .ok [⟨s.extract p s.size, false, 0⟩] else .no 4)
  else match layF kind with
    | none => .ok [⟨s.extract p s.size, false, 0⟩]
    | some (a, n, b) => if s.size - p < a then .no 4 else match rnF n s (p + a) [⟨s.extract p (p + a), false, 0⟩] with
      | .no e => .no e
      | .ok l q => if s.size - q < b then .no 4 else if b < s.size - q then .no 3 else .ok (l ++ [⟨s.extract q s.size, false, 0⟩])
def rwhF (kind : Nat) (d : ByteArray) : Option (List Pc) :=
  match rplF d 0 kind with
  | .ok l => if (⟨(tx l).toArray⟩ : ByteArray) = d then some l else none
  | .no _ => none

/-- What both lists of parts have in common. -/
def nz (l : List Pc) : List (ByteArray × Bool) := (l.map fun x => (x.text, x.name)).filter fun y => y.2 || decide (y.1.size ≠ 0)
theorem tx_nz (l : List Pc) : tx l = (nz l).flatMap fun y => y.1.data.toList := by
  unfold tx nz
  induction l with
  | nil => rfl
  | cons x l ih =>
    rw [List.map_cons, List.filter_cons, List.flatMap_cons, ih]
    split
    · rw [List.flatMap_cons]
    · rename_i h
      simp at h
      have : x.text.data.toList = [] := List.eq_nil_of_length_eq_zero (by rw [Array.length_toList, h.2]; rfl)
      rw [this, List.nil_append]
/-- Both say the same. -/
def DsEq : Ds → Ds → Prop
  | .ok l, .ok m => nz l = nz m
  | .no e, .no f => e = f
  | _, _ => False
theorem ext_size (s : ByteArray) (p q : Nat) : (s.extract p q).size = min q s.size - p := ByteArray.size_extract
theorem nz_zero {x : Pc} (h : x.text.size = 0) (hn : x.name = false) (l : List Pc) : nz (x :: l) = nz l := by
  unfold nz
  rw [List.map_cons, List.filter_cons]
  simp [h, hn]
theorem nz_app (l m : List Pc) : nz (l ++ m) = nz l ++ nz m := by unfold nz; simp
theorem nz_cons (x : Pc) (l : List Pc) : nz (x :: l) = nz [x] ++ nz l := nz_app [x] l
theorem nz_same {x y : Pc} (h : x.text = y.text) (hn : x.name = y.name) : nz [x] = nz [y] := by unfold nz; simp [h, hn]
theorem nz_empty {x : Pc} (h : x.text.size = 0) (hn : x.name = false) : nz [x] = [] := nz_zero h hn []

theorem rd_le {s : ByteArray} {p : Nat} {m : List UInt8} {q : Nat} (h : rdF s p p none [] = .ok m q) : p < q ∧ q ≤ s.size ∧ may ⟨m.toArray⟩ = true := by
  have := rd_ok_may (s := s) (a0 := p) p p none [] m q h (fun _ e => by cases e) (fun _ => Nat.le_refl _) Lbs.nil (by simp)
  exact ⟨this.2.1, this.2.2, this.1⟩
theorem names_ref (s : ByteArray) : ∀ (n p : Nat) (out out' : List Pc), p ≤ s.size →
    (∃ e, rnF n s p out' = .no e ∧ ∀ cs, runF (List.replicate n .nam ++ cs) s p out = .no e) ∨
    (∃ R R' q, rnF n s p out' = .ok (out' ++ R') q ∧ (∀ cs, runF (List.replicate n .nam ++ cs) s p out = runF cs s q (out ++ R)) ∧ nz R = nz R' ∧ p ≤ q ∧ q ≤ s.size) := by
  intro n
  induction n with
  | zero => intro p out out' hp; exact .inr ⟨[], [], p, by simp [rnF], by simp, rfl, Nat.le_refl _, hp⟩
  | succ n ih =>
    intro p out out' hp
    cases h : rdF s p p none [] with
    | no e => exact .inl ⟨e, by simp [rnF, h], by simp [runF, ckF, h, List.replicate_succ]⟩
    | ok m q =>
      obtain ⟨h1, h2, _⟩ := rd_le h
      rcases ih q (out ++ [⟨⟨m.toArray⟩, true, q⟩]) (out' ++ [⟨⟨m.toArray⟩, true, 0⟩]) h2 with ⟨e, e1, e2⟩ | ⟨R, R', q', e1, e2, e3, e4, e5⟩
      · exact .inl ⟨e, by simp [rnF, h, e1], fun cs => by simp [runF, ckF, h, List.replicate_succ, e2]⟩
      · refine .inr ⟨⟨⟨m.toArray⟩, true, q⟩ :: R, ⟨⟨m.toArray⟩, true, 0⟩ :: R', q', by simp [rnF, h, e1], fun cs => by simp [runF, ckF, h, List.replicate_succ, e2], ?_, by omega, e5⟩
        rw [nz_cons, nz_cons _ R', e3]
        rfl
/-- Bytes ahead, names, bytes behind, as the program lists them. -/
def pcks (a n b : Nat) : List Ck := (if a = 0 then [] else [.num a]) ++ (List.replicate n .nam ++ (if b = 0 then [] else [.num b]))
theorem lay_ref (s : ByteArray) (p a n b : Nat) (hp : p ≤ s.size) : DsEq (match runF (pcks a n b) s p [] with
    | .ok l q => if q < s.size then .no 3 else .ok l
    | .no e => .no e) (if s.size - p < a then .no 4 else match rnF n s (p + a) [⟨s.extract p (p + a), false, 0⟩] with
      | .no e => .no e
      | .ok l q => if s.size - q < b then .no 4 else if b < s.size - q then .no 3 else .ok (l ++ [⟨s.extract q s.size, false, 0⟩])) := by
  by_cases ha : s.size - p < a
  · rw [if_pos ha]
    have h0 : ¬ a = 0 := by omega
    simp [pcks, h0, runF, ckF, ha, DsEq]
  · rw [if_neg ha]
    have key : ∃ out, (∀ cs, runF ((if a = 0 then [] else [.num a]) ++ cs) s p [] = runF cs s (p + a) out) ∧ nz out = nz [⟨s.extract p (p + a), false, 0⟩] := by
      by_cases h0 : a = 0
      · subst h0
        exact ⟨[], fun cs => by simp, by rw [nz_empty (by show (s.extract p (p + 0)).size = 0; rw [ext_size]; omega) rfl]; rfl⟩
      · exact ⟨[⟨s.extract p (p + a), false, p + a⟩], fun cs => by simp [h0, runF, ckF, ha], nz_same rfl rfl⟩
    obtain ⟨out, k1, k2⟩ := key
    unfold pcks
    rw [k1]
    rcases names_ref s n (p + a) out [⟨s.extract p (p + a), false, 0⟩] (by omega) with ⟨e, e1, e2⟩ | ⟨R, R', q, e1, e2, e3, e4, e5⟩
    · rw [e1, e2]; exact rfl
    · rw [e1, e2]
      by_cases h0 : b = 0
      · subst h0
        simp only [if_true, runF, Nat.not_lt_zero, if_false]
        by_cases h1 : q < s.size
        · rw [if_pos h1, if_pos (by omega)]; exact rfl
        · rw [if_neg h1, if_neg (by omega)]
          show nz _ = nz _
          rw [nz_app, nz_app, nz_app, k2, e3, nz_empty (x := ⟨s.extract q s.size, false, 0⟩) (by show (s.extract q s.size).size = 0; rw [ext_size]; omega) rfl, List.append_nil]
      · simp only [if_neg h0, runF, ckF]
        by_cases h2 : s.size - q < b
        · rw [if_pos h2, if_pos h2]; exact rfl
        · rw [if_neg h2, if_neg h2]
          show DsEq (if q + b < s.size then _ else _) _
          by_cases h1 : q + b < s.size
          · rw [if_pos h1, if_pos (by omega)]; exact rfl
          · rw [if_neg h1, if_neg (by omega)]
            have e : q + b = s.size := by omega
            show nz _ = nz _
            rw [nz_app, nz_app, nz_app, nz_app, k2, e3, e]
            rfl
theorem cks_lay {kind a n b : Nat} (h : layF kind = some (a, n, b)) : cks kind = pcks a n b := by
  unfold layF at h
  unfold cks
  repeat' split at h
  all_goals (simp only [Option.some.injEq, Prod.mk.injEq, reduceCtorEq] at h)
  all_goals (obtain ⟨rfl, rfl, rfl⟩ := h)
  all_goals simp_all [pcks, List.replicate]
theorem spl_ref (s : ByteArray) (p kind : Nat) (hp : p ≤ s.size) : DsEq (splF s p kind) (rplF s p kind) := by
  unfold splF rplF
  by_cases h41 : kind = 41
  · rw [if_pos h41, if_pos h41]; exact rfl
  · rw [if_neg h41, if_neg h41]
    by_cases h16 : kind = 16
    · subst h16
      rw [if_pos rfl]
      have : cks 16 = [.txt] := rfl
      rw [this]
      simp only [runF, ckF]
      cases txF s p with
      | true => simp [DsEq, nz]
      | false => simp [DsEq]
    · rw [if_neg h16]
      cases h : layF kind with
      | none =>
        have : cks kind = [.rst] := by
          unfold layF at h
          unfold cks
          repeat' split at h
          all_goals simp_all
        rw [this]
        simp [runF, ckF, DsEq, nz]
      | some x =>
        obtain ⟨a, n, b⟩ := x
        rw [cks_lay h]
        exact lay_ref s p a n b hp
theorem wh_ref (kind : Nat) (d : ByteArray) : (whF kind d).map nz = (rwhF kind d).map nz := by
  unfold whF rwhF
  have := spl_ref d 0 kind (Nat.zero_le _)
  cases h1 : splF d 0 kind with
  | ok l =>
    cases h2 : rplF d 0 kind with
    | ok m =>
      rw [h1, h2] at this
      have e : nz l = nz m := this
      have et : tx l = tx m := by rw [tx_nz, tx_nz, e]
      simp only [et]
      split
      · simp [e]
      · rfl
    | no f => rw [h1, h2] at this; exact this.elim
  | no e =>
    cases h2 : rplF d 0 kind with
    | ok m => rw [h1, h2] at this; exact this.elim
    | no f => rfl
end Go.Proofs.YthgendgmlpaglaaDoor
namespace Go.Proofs.YthgendgmlpaglaaDoor

def exK (s : ByteArray) (p q : Nat) : ByteArray := ⟨((s.data.toList.drop p).take (q - p)).toArray⟩
theorem exK_eq (s : ByteArray) (p q : Nat) : s.extract p q = exK s p q := by
  refine ba_ext ?_
  rw [Go.Lib.extract_data]
  rfl
def txK : Nat → ByteArray → Nat → Option Bool
  | 0, _, _ => none
  | k + 1, s, p => if p < s.size then (if p + 1 + bt s p = s.size then some true else txK k s (p + 1 + bt s p)) else some false
theorem txK_eq (s : ByteArray) : ∀ (k p : Nat) (b : Bool), txK k s p = some b → txF s p = b := by
  intro k
  induction k with
  | zero => intro p b h; cases h
  | succ k ih =>
    intro p b h
    unfold txK at h
    by_cases h1 : p < s.size
    · rw [if_pos h1] at h
      by_cases h2 : p + 1 + bt s p = s.size
      · rw [if_pos h2] at h; rw [txF_end h1 h2]; exact Option.some.inj h
      · rw [if_neg h2] at h; rw [txF_step h1 h2]; exact ih _ _ h
    · rw [if_neg h1] at h; rw [txF_out (by omega)]; exact Option.some.inj h
def ckK (k : Nat) (c : Ck) (s : ByteArray) (p : Nat) : Option Cr :=
  match c with
  | .num n => some (if s.size - p < n then .no 4 else .ok ⟨exK s p (p + n), false, p + n⟩)
  | .nam => match rdK k s p p none [] with
    | some (.ok n next) => some (.ok ⟨⟨n.toArray⟩, true, next⟩)
    | some (.no e) => some (.no e)
    | none => none
  | .txt => match txK k s p with
    | some true => some (.ok ⟨exK s p s.size, false, s.size⟩)
    | some false => some (.no 4)
    | none => none
  | .rst => some (.ok ⟨exK s p s.size, false, s.size⟩)
theorem ckK_eq {k : Nat} {c : Ck} {s : ByteArray} {p : Nat} {r : Cr} (h : ckK k c s p = some r) : ckF c s p = r := by
  cases c with
  | num n =>
    have h' := Option.some.inj h
    rw [← h', ← exK_eq]
    rfl
  | nam =>
    unfold ckK at h
    simp only at h
    unfold ckF
    simp only
    cases hr : rdK k s p p none [] with
    | none => rw [hr] at h; cases h
    | some q =>
      rw [hr] at h
      rw [rdK_eq s k _ _ _ _ _ hr]
      cases q with
      | ok n next => exact Option.some.inj h
      | no e => exact Option.some.inj h
  | txt =>
    unfold ckK at h
    simp only at h
    unfold ckF
    simp only
    cases hr : txK k s p with
    | none => rw [hr] at h; cases h
    | some b =>
      rw [hr] at h
      rw [txK_eq s k _ _ hr]
      cases b with
      | true => rw [if_pos rfl, exK_eq]; exact Option.some.inj h
      | false => exact Option.some.inj h
  | rst =>
    have h' := Option.some.inj h
    rw [← h', ← exK_eq]
    rfl
def runK (k : Nat) : List Ck → ByteArray → Nat → List Pc → Option Rr
  | [], _, p, out => some (.ok out p)
  | c :: cs, s, p, out => match ckK k c s p with
    | some (.ok x) => runK k cs s x.next (out ++ [x])
    | some (.no e) => some (.no e)
    | none => none
theorem runK_eq {k : Nat} {s : ByteArray} : ∀ (cs : List Ck) (p : Nat) (out : List Pc) (r : Rr), runK k cs s p out = some r → runF cs s p out = r := by
  intro cs
  induction cs with
  | nil => intro p out r h; exact Option.some.inj h
  | cons c cs ih =>
    intro p out r h
    unfold runK at h
    unfold runF
    cases hc : ckK k c s p with
    | none => rw [hc] at h; cases h
    | some q =>
      rw [hc] at h
      rw [ckK_eq hc]
      cases q with
      | ok x => exact ih _ _ _ h
      | no e => exact Option.some.inj h
def splK (k : Nat) (s : ByteArray) (p kind : Nat) : Option Ds :=
  if kind = 41 then some (.no 3) else match runK k (cks kind) s p [] with
    | some (.ok l q) => some (if q < s.size then .no 3 else .ok l)
    | some (.no e) => some (.no e)
    | none => none
theorem splK_eq {k : Nat} {s : ByteArray} {p kind : Nat} {r : Ds} (h : splK k s p kind = some r) : splF s p kind = r := by
  unfold splK at h
  unfold splF
  by_cases h41 : kind = 41
  · rw [if_pos h41] at h ⊢; exact Option.some.inj h
  · rw [if_neg h41] at h ⊢
    cases hr : runK k (cks kind) s p [] with
    | none => rw [hr] at h; cases h
    | some q =>
      rw [hr] at h
      rw [runK_eq _ _ _ _ hr]
      cases q with
      | ok l q => exact Option.some.inj h
      | no e => exact Option.some.inj h
theorem whK {k kind : Nat} {d : ByteArray} {l : List Pc} (h : splK k d 0 kind = some (.ok l)) (ht : tx l = d.data.toList) : whF kind d = some l := by
  unfold whF
  rw [splK_eq h]
  simp only
  rw [if_pos (by rw [ht])]
theorem whK_no {k kind e : Nat} {d : ByteArray} (h : splK k d 0 kind = some (.no e)) : whF kind d = none := by
  unfold whF
  rw [splK_eq h]
theorem whK_ne {k kind : Nat} {d : ByteArray} {l : List Pc} (h : splK k d 0 kind = some (.ok l)) (ht : ¬ tx l = d.data.toList) : whF kind d = none := by
  unfold whF
  rw [splK_eq h]
  simp only
  rw [if_neg]
  intro e
  exact ht (by rw [← e])
end Go.Proofs.YthgendgmlpaglaaDoor
