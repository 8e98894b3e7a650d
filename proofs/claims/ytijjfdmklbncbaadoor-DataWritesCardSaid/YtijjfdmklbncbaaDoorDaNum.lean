/-
  Data (layer 5): how the parts of data are read, as the program says it and as the document says it.
-/
import Derived.Test.YtijjfdmklbncbaaDoorCoLaw
namespace Go.Proofs.YtijjfdmklbncbaaDoor

inductive Ck where
  | num (n : Nat)
  | nam
  | txt
  | rst
structure Pc where
  text : ByteArray
  name : Bool
  next : Nat
inductive Cr where
  | ok (x : Pc)
  | no (e : Nat)
inductive Rr where
  | ok (l : List Pc) (q : Nat)
  | no (e : Nat)
inductive Ds where
  | ok (l : List Pc)
  | no (e : Nat)
/-- Do texts, one or more, stand from p to the end? -/
def txF (s : ByteArray) (p : Nat) : Bool :=
  if _h : p < s.size then (if p + 1 + bt s p = s.size then true else txF s (p + 1 + bt s p)) else false
termination_by s.size - p
theorem txF_out {s : ByteArray} {p : Nat} (h : s.size ≤ p) : txF s p = false := by rw [txF, dif_neg (by omega)]
theorem txF_end {s : ByteArray} {p : Nat} (h : p < s.size) (e : p + 1 + bt s p = s.size) : txF s p = true := by rw [txF, dif_pos h, if_pos e]
theorem txF_step {s : ByteArray} {p : Nat} (h : p < s.size) (e : ¬ p + 1 + bt s p = s.size) : txF s p = txF s (p + 1 + bt s p) := by rw [txF, dif_pos h, if_neg e]
def ckF (c : Ck) (s : ByteArray) (p : Nat) : Cr :=
  match c with
  | .num n => if s.size - p < n then .no 4 else .ok ⟨s.extract p (p + n), false, p + n⟩
  | .nam => match rdF s p p none [] with
    | .ok n next => .ok ⟨⟨n.toArray⟩, true, next⟩
    | .no e => .no e
  | .txt => if txF s p = true then .ok ⟨s.extract p s.size, false, s.size⟩ else .no 4
  | .rst => .ok ⟨s.extract p s.size, false, s.size⟩
def runF : List Ck → ByteArray → Nat → List Pc → Rr
  | [], _, p, out => .ok out p
  | c :: cs, s, p, out => match ckF c s p with
    | .ok x => runF cs s x.next (out ++ [x])
    | .no e => .no e
def cks (kind : Nat) : List Ck :=
  if kind = 1 then [.num 4]
  else if kind = 28 then [.num 16]
  else if kind = 2 ∨ kind = 5 ∨ kind = 12 then [.nam]
  else if kind = 15 then [.num 2, .nam]
  else if kind = 6 then [.nam, .nam, .num 20]
  else if kind = 33 then [.num 6, .nam]
  else if kind = 16 then [.txt]
  else [.rst]
theorem cks_len (kind : Nat) : (cks kind).length ≤ 3 := by unfold cks; repeat' split
                                                           all_goals simp
def splF (s : ByteArray) (p kind : Nat) : Ds :=
  if kind = 41 then .no 3 else match runF (cks kind) s p [] with
    | .ok l q => if q < s.size then .no 3 else .ok l
    | .no e => .no e
/-- The bytes of parts. -/
def tx (l : List Pc) : List UInt8 := l.flatMap fun x => x.text.data.toList
def whF (kind : Nat) (d : ByteArray) : Option (List Pc) :=
  match splF d 0 kind with
  | .ok l => if (⟨(tx l).toArray⟩ : ByteArray) = d then some l else none
  | .no _ => none

/-- The document's layout: bytes ahead, names, bytes behind. -/
def layF (kind : Nat) : Option (Nat × Nat × Nat) :=
  if kind = 1 then some (4, 0, 0)
  else if kind = 28 then some (16, 0, 0)
  else if kind = 2 ∨ kind = 5 ∨ kind = 12 then some (0, 1, 0)
  else if kind = 15 then some (2, 1, 0)
  else if kind = 6 then some (0, 2, 20)
  else if kind = 33 then some (6, 1, 0)
  else none
def rnF : Nat → ByteArray → Nat → List Pc → Rr
  | 0, _, p, out => .ok out p
  | n + 1, s, p, out => match rdF s p p none [] with
    | .ok m q => rnF n s q (out ++ [⟨⟨m.toArray⟩, true, 0⟩])
    | .no e => .no e
def rplF (s : ByteArray) (p kind : Nat) : Ds :=
  if kind = 41 then .no 3
  else if kind = 16 then (if txF s p = true then .ok [⟨s.extract p s.size, false, 0⟩] else .no 4)
  else match layF kind with
    | none => .ok [⟨s.extract p s.size, false, 0⟩]
    | some (a, n, b) => if s.size - p < a then .no 4 else match rnF n s (p + a) [⟨s.extract p (p + a), false, 0⟩] with
      | .no e => .no e
      | .ok l q => if s.size - q < b then .no 4 else if b < s.size - q then .no 3 else .ok (l ++ [⟨s.extract q s.size, false, 0⟩])
def rwhF (kind : Nat) (d : ByteArray) : Option (List Pc) :=
  match rplF d 0 kind with
  | .ok l => if (⟨(tx l).toArray⟩ : ByteArray) = d then some l else none
  | .no _ => none

/-- What both lists of parts have in common. -/
def nz (l : List Pc) : List (ByteArray × Bool) := (l.map fun x => (x.text, x.name)).filter fun y => y.2 || decide (y.1.size ≠ 0)
theorem tx_nz (l : List Pc) : tx l = (nz l).flatMap fun y => y.1.data.toList := by
  unfold tx nz
  induction l with
  | nil => rfl
  | cons x l ih =>
    rw [List.map_cons, List.filter_cons, List.flatMap_cons, ih]
    split
    · rw [List.flatMap_cons]
    · rename_i h
      simp at h
      have : x.text.data.toList = [] := List.eq_nil_of_length_eq_zero (by rw [Array.length_toList, h.2]; rfl)
      rw [this, List.nil_append]
/-- Both say the same. -/
def DsEq : Ds → Ds → Prop
  | .ok l, .ok m => nz l = nz m
  | .no e, .no f => e = f
  | _, _ => False
theorem ext_size (s : ByteArray) (p q : Nat) : (s.extract p q).size = min q s.size - p := ByteArray.size_extract
theorem nz_zero {x : Pc} (h : x.text.size = 0) (hn : x.name = false) (l : List Pc) : nz (x :: l) = nz l := by
  unfold nz
  rw [List.map_cons, List.filter_cons]
  simp [h, hn]
theorem nz_app (l m : List Pc) : nz (l ++ m) = nz l ++ nz m := by unfold nz; simp
theorem nz_cons (x : Pc) (l : List Pc) : nz (x :: l) = nz [x] ++ nz l := nz_app [x] l
theorem nz_same {x y : Pc} (h : x.text = y.text) (hn : x.name = y.name) : nz [x] = nz [y] := by unfold nz; simp [h, hn]
theorem nz_empty {x : Pc} (h : x.text.size = 0) (hn : x.name = false) : nz [x] = [] := nz_zero h hn []

theorem rd_le {s : ByteArray} {p : Nat} {m : List UInt8} {q : Nat} (h : rdF s p p none [] = .ok m q) : p < q ∧ q ≤ s.size ∧ may ⟨m.toArray⟩ = true := by
  have := rd_ok_may (s := s) (a0 := p) p p none [] m q h (fun _ e => by cases e) (fun _ => Nat.le_refl _) Lbs.nil (by simp)
  exact ⟨this.2.1, this.2.2, this.1⟩
theorem names_ref (s : ByteArray) : ∀ (n p : Nat) (out out' : List Pc), p ≤ s.size →
    (∃ e, rnF n s p out' = .no e ∧ ∀ cs, runF (List.replicate n .nam ++ cs) s p out = .no e) ∨
    (∃ R R' q, rnF n s p out' = .ok (out' ++ R') q ∧ (∀ cs, runF (List.replicate n .nam ++ cs) s p out = runF cs s q (out ++ R)) ∧ nz R = nz R' ∧ p ≤ q ∧ q ≤ s.size) := by
  intro n
  induction n with
  | zero => intro p out out' hp; exact .inr ⟨[], [], p, by simp [rnF], by simp, rfl, Nat.le_refl _, hp⟩
  | succ n ih =>
    intro p out out' hp
    cases h : rdF s p p none [] with
    | no e => exact .inl ⟨e, by simp [rnF, h], by simp [runF, ckF, h, List.replicate_succ]⟩
    | ok m q =>
      obtain ⟨h1, h2, _⟩ := rd_le h
      rcases ih q (out ++ [⟨⟨m.toArray⟩, true, q⟩]) (out' ++ [⟨⟨m.toArray⟩, true, 0⟩]) h2 with ⟨e, e1, e2⟩ | ⟨R, R', q', e1, e2, e3, e4, e5⟩
      · exact .inl ⟨e, by simp [rnF, h, e1], fun cs => by simp [runF, ckF, h, List.replicate_succ, e2]⟩
      · refine .inr ⟨⟨⟨m.toArray⟩, true, q⟩ :: R, ⟨⟨m.toArray⟩, true, 0⟩ :: R', q', by simp [rnF, h, e1], fun cs => by simp [runF, ckF, h, List.replicate_succ, e2], ?_, by omega, e5⟩
        rw [nz_cons, nz_cons _ R', e3]
        rfl
/-- Bytes ahead, names, bytes behind, as the program lists them. -/
def pcks (a n b : Nat) : List Ck := (if a = 0 then [] else [.num a]) ++ (List.replicate n .nam ++ (if b = 0 then [] else [.num b]))
theorem lay_ref (s : ByteArray) (p a n b : Nat) (hp : p ≤ s.size) : DsEq (match runF (pcks a n b) s p [] with
    | .ok l q => if q < s.size then .no 3 else .ok l
    | .no e => .no e) (if s.size - p < a then .no 4 else match rnF n s (p + a) [⟨s.extract p (p + a), false, 0⟩] with
      | .no e => .no e
      | .ok l q => if s.size - q < b then .no 4 else if b < s.size - q then .no 3 else .ok (l ++ [⟨s.extract q s.size, false, 0⟩])) := by
  by_cases ha : s.size - p < a
  · rw [if_pos ha]
    have h0 : ¬ a = 0 := by omega
    simp [pcks, h0, runF, ckF, ha, DsEq]
  · rw [if_neg ha]
    have key : ∃ out, (∀ cs, runF ((if a = 0 then [] else [.num a]) ++ cs) s p [] = runF cs s (p + a) out) ∧ nz out = nz [⟨s.extract p (p + a), false, 0⟩] := by
      by_cases h0 : a = 0
      · subst h0
        exact ⟨[], fun cs => by simp, by rw [nz_empty (by show (s.extract p (p + 0)).size = 0; rw [ext_size]; omega) rfl]; rfl⟩
      · exact ⟨[⟨s.extract p (p + a), false, p + a⟩], fun cs => by simp [h0, runF, ckF, ha], nz_same rfl rfl⟩
    obtain ⟨out, k1, k2⟩ := key
    unfold pcks
    rw [k1]
    rcases names_ref s n (p + a) out [⟨s.extract p (p + a), false, 0⟩] (by omega) with ⟨e, e1, e2⟩ | ⟨R, R', q, e1, e2, e3, e4, e5⟩
    · rw [e1, e2]; exact rfl
    · rw [e1, e2]
      by_cases h0 : b = 0
      · subst h0
        simp only [if_true, runF, Nat.not_lt_zero, if_false]
        by_cases h1 : q < s.size
        · rw [if_pos h1, if_pos (by omega)]; exact rfl
        · rw [if_neg h1, if_neg (by omega)]
          show nz _ = nz _
          rw [nz_app, nz_app, nz_app, k2, e3, nz_empty (x := ⟨s.extract q s.size, false, 0⟩) (by show (s.extract q s.size).size = 0; rw [ext_size]; omega) rfl, List.append_nil]
      · simp only [if_neg h0, runF, ckF]
        by_cases h2 : s.size - q < b
        · rw [if_pos h2, if_pos h2]; exact rfl
        · rw [if_neg h2, if_neg h2]
          show DsEq (if q + b < s.size then _ else _) _
          by_cases h1 : q + b < s.size
          · rw [if_pos h1, if_pos (by omega)]; exact rfl
          · rw [if_neg h1, if_neg (by omega)]
            have e : q + b = s.size := by omega
            show nz _ = nz _
            rw [nz_app, nz_app, nz_app, nz_app, k2, e3, e]
            rfl
theorem cks_lay {kind a n b : Nat} (h : layF kind = some (a, n, b)) : cks kind = pcks a n b := by
  unfold layF at h
  unfold cks
  repeat' split at h
  all_goals (simp only [Option.some.injEq, Prod.mk.injEq, reduceCtorEq] at h)
  all_goals (obtain ⟨rfl, rfl, rfl⟩ := h)
  all_goals simp_all [pcks, List.replicate]
theorem spl_ref (s : ByteArray) (p kind : Nat) (hp : p ≤ s.size) : DsEq (splF s p kind) (rplF s p kind) := by
  unfold splF rplF
  by_cases h41 : kind = 41
  · rw [if_pos h41, if_pos h41]; exact rfl
  · rw [if_neg h41, if_neg h41]
    by_cases h16 : kind = 16
    · subst h16
      rw [if_pos rfl]
      have : cks 16 = [.txt] := rfl
      rw [this]
      simp only [runF, ckF]
      cases txF s p with
      | true => simp [DsEq, nz]
      | false => simp [DsEq]
    · rw [if_neg h16]
      cases h : layF kind with
      | none =>
        have : cks kind = [.rst] := by
          unfold layF at h
          unfold cks
          repeat' split at h
          all_goals simp_all
        rw [this]
        simp [runF, ckF, DsEq, nz]
      | some x =>
        obtain ⟨a, n, b⟩ := x
        rw [cks_lay h]
        exact lay_ref s p a n b hp
theorem wh_ref (kind : Nat) (d : ByteArray) : (whF kind d).map nz = (rwhF kind d).map nz := by
  unfold whF rwhF
  have := spl_ref d 0 kind (Nat.zero_le _)
  cases h1 : splF d 0 kind with
  | ok l =>
    cases h2 : rplF d 0 kind with
    | ok m =>
      rw [h1, h2] at this
      have e : nz l = nz m := this
      have et : tx l = tx m := by rw [tx_nz, tx_nz, e]
      simp only [et]
      split
      · simp [e]
      · rfl
    | no f => rw [h1, h2] at this; exact this.elim
  | no e =>
    cases h2 : rplF d 0 kind with
    | ok m => rw [h1, h2] at this; exact this.elim
    | no f => rfl
end Go.Proofs.YtijjfdmklbncbaaDoor
