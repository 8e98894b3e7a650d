/-
  Data (layer 5): laws of reading and writing, with no program in sight.
-/
import Derived.Test.YthgendgmlpaglaaDoorA9
import Derived.Test.YthgendgmlpaglaaDoorA7
namespace Go.Proofs.YthgendgmlpaglaaDoor

def Fit1 (c : Ck) (x : Pc) : Prop :=
  match c with
  | .num n => x.text.size = n ∧ x.name = false
  | .nam => may x.text = true ∧ x.name = true
  | .txt => txF x.text 0 = true ∧ x.name = false
  | .rst => x.name = false
def Fit : List Ck → List Pc → Prop
  | [], [] => True
  | c :: cs, x :: l => Fit1 c x ∧ Fit cs l
  | _, _ => False
theorem ck_fit {c : Ck} {s : ByteArray} {p : Nat} {x : Pc} (hp : p ≤ s.size) (h : ckF c s p = .ok x) : Fit1 c x := by
  cases c with
  | num n =>
    unfold ckF at h
    simp only at h
    split at h
    · cases h
    · cases h; exact ⟨by rw [ext_size]; omega, rfl⟩
  | nam =>
    unfold ckF at h
    simp only at h
    cases hr : rdF s p p none [] with
    | ok m q => rw [hr] at h; cases h; exact ⟨(rd_le hr).2.2, rfl⟩
    | no e => rw [hr] at h; cases h
  | txt =>
    unfold ckF at h
    simp only at h
    split at h
    · rename_i ht
      cases h
      refine ⟨?_, rfl⟩
      rw [txF_ext hp _ 0 rfl]; exact ht
    · cases h
  | rst => cases h; rfl
theorem run_fit {s : ByteArray} : ∀ (cs : List Ck) (p : Nat) (out l : List Pc) (q : Nat), p ≤ s.size → runF cs s p out = .ok l q → ∃ l1, l = out ++ l1 ∧ Fit cs l1 := by
  intro cs
  induction cs with
  | nil => intro p out l q hp h; cases h; exact ⟨[], by simp, trivial⟩
  | cons c cs ih =>
    intro p out l q hp h
    unfold runF at h
    cases hc : ckF c s p with
    | no e => rw [hc] at h; cases h
    | ok x =>
      rw [hc] at h
      obtain ⟨l1, e, hf⟩ := ih _ _ _ _ (ck_next hp hc) h
      exact ⟨x :: l1, by rw [e]; simp, ck_fit hp hc, hf⟩
theorem spl_fit {s : ByteArray} {p kind : Nat} {l : List Pc} (hp : p ≤ s.size) (h : splF s p kind = .ok l) : ¬ kind = 41 ∧ Fit (cks kind) l := by
  unfold splF at h
  split at h
  · cases h
  · rename_i h41
    cases hr : runF (cks kind) s p [] with
    | no e => rw [hr] at h; cases h
    | ok m q =>
      rw [hr] at h
      simp only at h
      split at h
      · cases h
      · cases h
        obtain ⟨l1, e, hf⟩ := run_fit _ _ _ _ _ hp hr
        exact ⟨h41, by rw [e]; exact hf⟩
/-- The checks that do not go up to the end. -/
def Inner (c : Ck) : Prop := (∃ n, c = .num n) ∨ c = .nam
theorem cks_good (kind : Nat) : cks kind = [.txt] ∨ cks kind = [.rst] ∨ ∀ c ∈ cks kind, Inner c := by
  unfold cks Inner
  repeat' split
  all_goals simp
def re : Nat → List Pc → List Pc
  | _, [] => []
  | p, x :: l => ⟨x.text, x.name, p + x.text.size⟩ :: re (p + x.text.size) l
theorem re_tx : ∀ (l : List Pc) (p : Nat), tx (re p l) = tx l := by
  intro l
  induction l with
  | nil => intro p; rfl
  | cons x l ih => intro p; show x.text.data.toList ++ tx (re _ l) = x.text.data.toList ++ tx l; rw [ih]
theorem re_nz : ∀ (l : List Pc) (p : Nat), nz (re p l) = nz l := by
  intro l
  induction l with
  | nil => intro p; rfl
  | cons x l ih =>
    intro p
    show nz (⟨x.text, x.name, p + x.text.size⟩ :: re _ l) = nz (x :: l)
    rw [nz_cons, nz_cons x l, ih]
    rfl
theorem tx_cons (x : Pc) (l : List Pc) : tx (x :: l) = x.text.data.toList ++ tx l := rfl
theorem mk_ext (l : List UInt8) (p q : Nat) : (⟨l.toArray⟩ : ByteArray).extract p q = ⟨((l.drop p).take (q - p)).toArray⟩ := exK_eq _ _ _
theorem mk_data (x : ByteArray) : (⟨x.data.toList.toArray⟩ : ByteArray) = x := rfl
theorem num_clear {n : Nat} {x : Pc} (hx : Fit1 (.num n) x) (A B : List UInt8) : ckF (.num n) ⟨(A ++ x.text.data.toList ++ B).toArray⟩ A.length = .ok ⟨x.text, x.name, A.length + x.text.size⟩ := by
  obtain ⟨h1, h2⟩ := hx
  unfold ckF
  simp only
  rw [if_neg (by rw [size_mk, List.length_append, List.length_append, nlen]; omega), mk_ext, List.append_assoc, List.drop_left]
  rw [show A.length + n - A.length = x.text.data.toList.length by rw [nlen]; omega, List.take_left, h2, h1]
theorem nam_clear {x : Pc} (hx : Fit1 .nam x) (A B : List UInt8) : ckF .nam ⟨(A ++ x.text.data.toList ++ B).toArray⟩ A.length = .ok ⟨x.text, x.name, A.length + x.text.size⟩ := by
  obtain ⟨h1, h2⟩ := hx
  have h := rdAt_name ⟨A.toArray⟩ x.text ⟨B.toArray⟩ h1
  have e : (⟨A.toArray⟩ : ByteArray) ++ x.text ++ ⟨B.toArray⟩ = ⟨(A ++ x.text.data.toList ++ B).toArray⟩ := by
    rw [← mk_append_list, ← mk_append_list]
  rw [e, rdAt_in (by omega) (by rw [size_mk, size_mk, List.length_append, List.length_append]; omega), Int.toNat_natCast, size_mk] at h
  unfold ckF
  simp only
  rw [h, h2]
theorem inner_clear {c : Ck} (hc : Inner c) {x : Pc} (hx : Fit1 c x) (A B : List UInt8) : ckF c ⟨(A ++ x.text.data.toList ++ B).toArray⟩ A.length = .ok ⟨x.text, x.name, A.length + x.text.size⟩ := by
  rcases hc with ⟨n, rfl⟩ | rfl
  · exact num_clear hx A B
  · exact nam_clear hx A B
theorem run_clear : ∀ (cs : List Ck) (l : List Pc) (A B : List UInt8) (out : List Pc), (∀ c ∈ cs, Inner c) → Fit cs l → runF cs ⟨(A ++ tx l ++ B).toArray⟩ A.length out = .ok (out ++ re A.length l) (A.length + (tx l).length) := by
  intro cs
  induction cs with
  | nil =>
    intro l A B out _ hf
    cases l with
    | nil => simp [runF, re, tx]
    | cons x l => cases hf
  | cons c cs ih =>
    intro l A B out hc hf
    cases l with
    | nil => cases hf
    | cons x l =>
      obtain ⟨h1, h2⟩ := hf
      unfold runF
      have e : A ++ tx (x :: l) ++ B = A ++ x.text.data.toList ++ (tx l ++ B) := by rw [tx_cons]; simp
      rw [e, inner_clear (hc c (List.mem_cons_self ..)) h1 A (tx l ++ B)]
      simp only
      have := ih l (A ++ x.text.data.toList) B (out ++ [⟨x.text, x.name, A.length + x.text.size⟩]) (fun c' h' => hc c' (List.mem_cons_of_mem _ h')) h2
      rw [List.append_assoc, List.length_append, nlen] at this
      rw [List.append_assoc, ← List.append_assoc (x.text.data.toList)] at *
      rw [this, tx_cons, List.length_append, nlen]
      simp only [re, List.append_assoc, List.singleton_append, Nat.add_assoc]
/-- Parts that fit, one behind the other up to the end, are read as they are. -/
theorem spl_clear {kind : Nat} {l : List Pc} (h41 : ¬ kind = 41) (hf : Fit (cks kind) l) (A : List UInt8) : splF ⟨(A ++ tx l).toArray⟩ A.length kind = .ok (re A.length l) := by
  unfold splF
  rw [if_neg h41]
  rcases cks_good kind with hk | hk | hk
  · rw [hk] at hf ⊢
    match l, hf with
    | [x], ⟨h1, _⟩ =>
      obtain ⟨h2, h3⟩ := h1
      have e : tx [x] = x.text.data.toList := by simp [tx]
      have ex : (⟨(A ++ x.text.data.toList).toArray⟩ : ByteArray).extract A.length (⟨(A ++ x.text.data.toList).toArray⟩ : ByteArray).size = x.text := by
        rw [mk_ext, List.drop_left, size_mk, List.length_append, show A.length + x.text.data.toList.length - A.length = x.text.data.toList.length by omega, List.take_length]
      have ht : txF ⟨(A ++ x.text.data.toList).toArray⟩ A.length = true := by
        have := txF_ext (s := ⟨(A ++ x.text.data.toList).toArray⟩) (p := A.length) (by rw [size_mk, List.length_append]; omega) _ 0 rfl
        rw [ex, h2] at this
        exact this.symm
      rw [e]
      unfold runF ckF
      simp only
      rw [if_pos ht, ex]
      simp only [runF, List.nil_append]
      rw [if_neg (by omega), size_mk, List.length_append, nlen]
      simp [re, h3]
  · rw [hk] at hf ⊢
    match l, hf with
    | [x], ⟨h1, _⟩ =>
      have h3 : x.name = false := h1
      have e : tx [x] = x.text.data.toList := by simp [tx]
      have ex : (⟨(A ++ x.text.data.toList).toArray⟩ : ByteArray).extract A.length (⟨(A ++ x.text.data.toList).toArray⟩ : ByteArray).size = x.text := by
        rw [mk_ext, List.drop_left, size_mk, List.length_append, show A.length + x.text.data.toList.length - A.length = x.text.data.toList.length by omega, List.take_length]
      rw [e]
      unfold runF ckF
      simp only
      rw [ex]
      simp only [runF, List.nil_append]
      rw [if_neg (by omega), size_mk, List.length_append, nlen]
      simp [re, h3]
  · have := run_clear (cks kind) l A [] [] hk hf
    rw [List.append_nil] at this
    rw [this]
    simp only [List.nil_append]
    rw [if_neg (by rw [size_mk, List.length_append]; omega)]
theorem wh_clear {kind : Nat} {l : List Pc} (h41 : ¬ kind = 41) (hf : Fit (cks kind) l) : whF kind ⟨(tx l).toArray⟩ = some (re 0 l) := by
  unfold whF
  have := spl_clear h41 hf []
  simp only [List.nil_append, List.length_nil] at this
  rw [this]
  simp only
  rw [if_pos (by rw [re_tx])]
theorem run_no {s : ByteArray} : ∀ {cs : List Ck} {p : Nat} {out : List Pc}, runF cs s p out = .no 0 → False := by
  intro cs
  induction cs with
  | nil => intro p out h; cases h
  | cons c cs ih =>
    intro p out h
    unfold runF at h
    cases hc : ckF c s p with
    | no e => rw [hc] at h; cases h; have := ck_pos hc; omega
    | ok x => rw [hc] at h; exact ih h
/-- What is read may be. -/
theorem read_may {msg : ByteArray} {a n : Int} {kind : Nat} {s : ByteArray} (h : rdD msg a n kind = (s, 0)) : mayD kind s = true := by
  unfold rdD at h
  split at h
  · cases h
  · rename_i hc
    cases hr : splF (msg.extract 0 (a + n).toNat) a.toNat kind with
    | no e =>
      rw [hr] at h
      simp only [Prod.mk.injEq] at h
      obtain ⟨_, rfl⟩ := h
      exfalso
      have hp : a.toNat ≤ (msg.extract 0 (a + n).toNat).size := by rw [ext_size]; omega
      unfold splF at hr
      split at hr
      · cases hr
      · cases hr2 : runF (cks kind) (msg.extract 0 (a + n).toNat) a.toNat [] with
        | no e => rw [hr2] at hr; cases hr; exact run_no hr2
        | ok l q =>
          rw [hr2] at hr
          simp only at hr
          split at hr
          · cases hr
          · cases hr
    | ok l =>
      rw [hr] at h
      simp only [Prod.mk.injEq, and_true] at h
      obtain ⟨h41, hf⟩ := spl_fit (by rw [ext_size]; omega) hr
      unfold mayD
      rw [← h, wh_clear h41 hf]
      rfl
end Go.Proofs.YthgendgmlpaglaaDoor
