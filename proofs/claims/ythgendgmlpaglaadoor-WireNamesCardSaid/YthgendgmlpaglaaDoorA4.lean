/-
  Layer 4 in plain words: the name at a place.
  Layers 1 and 4 in plain words: what bytes are a name; a table of endings; what putting a name gives.
  Closed examples of reading and putting are reckoned by functions that go down a number.
  Laws of reading a name, in plain words.
  Laws of putting a name, in plain words.
  Names (layer 1): labels, folded bytes.
-/
import Derived.Test.YthgendgmlpaglaaDoorA1
import Derived.Lib.Strings
import Derived.KernelRfl
namespace Go.Proofs.YthgendgmlpaglaaDoor

/-- The byte at a place. -/
def bt (s : ByteArray) (p : Nat) : Nat := (s.data.toList[p]?.getD 0).toNat
theorem bt_lt (s : ByteArray) (p : Nat) : bt s p < 256 := (s.data.toList[p]?.getD 0).toNat_lt
theorem bt_get (s : ByteArray) (p : Nat) (h : p < s.size) : bt s p = (s[p]'h).toNat := by
  have h' : p < s.data.toList.length := by simpa using h
  unfold bt
  rw [List.getElem?_eq_getElem h']
  rfl
theorem bt_num (s : ByteArray) (p : Nat) (h : p + 1 ≤ s.size) : num s p 1 = bt s p := by
  have h' : p < s.data.toList.length := by show p < s.data.toList.length; simp; exact h
  unfold num bt
  rw [List.drop_eq_getElem_cons h', List.take_succ_cons, List.take_zero, List.getElem?_eq_getElem h']
  simp [be]
/-- The bytes of the label at a place, its length first. -/
def lab (s : ByteArray) (p : Nat) : List UInt8 := (s.extract p (p + 1 + bt s p)).data.toList
theorem lab_len (s : ByteArray) (p : Nat) (h : p + 1 + bt s p ≤ s.size) : (lab s p).length = 1 + bt s p := by
  unfold lab
  have : (s.extract p (p + 1 + bt s p)).size = 1 + bt s p := by rw [ByteArray.size_extract]; omega
  rw [Array.length_toList]
  exact this

/-- What reading answers: the name's bytes and the place behind, or an error's number. -/
inductive Rd where
  | ok (n : List UInt8) (next : Nat)
  | no (e : Nat)
/-- Where a pointer points to. -/
def ptr (s : ByteArray) (p : Nat) : Nat := (bt s p - 192) * 256 + bt s (p + 1)
def rdF (s : ByteArray) (p lim : Nat) (nx : Option Nat) (out : List UInt8) : Rd :=
  if p < s.size then
    if bt s p = 0 then .ok (out ++ [0]) (nx.getD (p + 1))
    else if bt s p < 64 then
      if _h1 : p + 1 + bt s p ≤ s.size then
        if _h2 : out.length + 1 + bt s p + 1 ≤ 255 then rdF s (p + 1 + bt s p) lim nx (out ++ lab s p)
        else .no 5
      else .no 4
    else if bt s p < 192 then .no 3
    else if p + 2 ≤ s.size then
      if _h3 : ptr s p < lim then rdF s (ptr s p) (ptr s p) (some (nx.getD (p + 2))) out
      else .no 8
    else .no 4
  else .no 4
termination_by (lim, 256 - out.length)
decreasing_by
  · refine Prod.Lex.right _ ?_
    have := lab_len s p _h1
    simp only [List.length_append]
    omega
  · exact Prod.Lex.left _ _ _h3

theorem rd_end {s : ByteArray} {p lim : Nat} {nx : Option Nat} {out : List UInt8} (h : p < s.size) (h0 : bt s p = 0) : rdF s p lim nx out = .ok (out ++ [0]) (nx.getD (p + 1)) := by
  rw [rdF, if_pos h, if_pos h0]
theorem rd_short {s : ByteArray} {p lim : Nat} {nx : Option Nat} {out : List UInt8} (h : ¬ p < s.size) : rdF s p lim nx out = .no 4 := by
  rw [rdF, if_neg h]
theorem rd_label {s : ByteArray} {p lim : Nat} {nx : Option Nat} {out : List UInt8} (h0 : ¬ bt s p = 0) (h64 : bt s p < 64) (h1 : p + 1 + bt s p ≤ s.size) (h2 : out.length + 1 + bt s p + 1 ≤ 255) : rdF s p lim nx out = rdF s (p + 1 + bt s p) lim nx (out ++ lab s p) := by
  rw [rdF, if_pos (by omega), if_neg h0, if_pos h64, dif_pos h1, dif_pos h2]
theorem rd_long {s : ByteArray} {p lim : Nat} {nx : Option Nat} {out : List UInt8} (h0 : ¬ bt s p = 0) (h64 : bt s p < 64) (h1 : p + 1 + bt s p ≤ s.size) (h2 : ¬ out.length + 1 + bt s p + 1 ≤ 255) : rdF s p lim nx out = .no 5 := by
  rw [rdF, if_pos (by omega), if_neg h0, if_pos h64, dif_pos h1, dif_neg h2]
theorem rd_lshort {s : ByteArray} {p lim : Nat} {nx : Option Nat} {out : List UInt8} (h : p < s.size) (h0 : ¬ bt s p = 0) (h64 : bt s p < 64) (h1 : ¬ p + 1 + bt s p ≤ s.size) : rdF s p lim nx out = .no 4 := by
  rw [rdF, if_pos h, if_neg h0, if_pos h64, dif_neg h1]
theorem rd_form {s : ByteArray} {p lim : Nat} {nx : Option Nat} {out : List UInt8} (h : p < s.size) (h64 : 64 ≤ bt s p) (h192 : bt s p < 192) : rdF s p lim nx out = .no 3 := by
  rw [rdF, if_pos h, if_neg (by omega), if_neg (by omega), if_pos h192]
theorem rd_ptr {s : ByteArray} {p lim : Nat} {nx : Option Nat} {out : List UInt8} (h192 : 192 ≤ bt s p) (h2 : p + 2 ≤ s.size) (h3 : ptr s p < lim) : rdF s p lim nx out = rdF s (ptr s p) (ptr s p) (some (nx.getD (p + 2))) out := by
  rw [rdF, if_pos (by omega), if_neg (by omega), if_neg (by omega), if_neg (by omega), if_pos h2, dif_pos h3]
theorem rd_loop {s : ByteArray} {p lim : Nat} {nx : Option Nat} {out : List UInt8} (h192 : 192 ≤ bt s p) (h2 : p + 2 ≤ s.size) (h3 : ¬ ptr s p < lim) : rdF s p lim nx out = .no 8 := by
  rw [rdF, if_pos (by omega), if_neg (by omega), if_neg (by omega), if_neg (by omega), if_pos h2, dif_neg h3]
theorem rd_pshort {s : ByteArray} {p lim : Nat} {nx : Option Nat} {out : List UInt8} (h : p < s.size) (h192 : 192 ≤ bt s p) (h2 : ¬ p + 2 ≤ s.size) : rdF s p lim nx out = .no 4 := by
  rw [rdF, if_pos h, if_neg (by omega), if_neg (by omega), if_neg (by omega), if_neg h2]

/-- The name at a place, any number. -/
def rdAt (s : ByteArray) (at_ : Int) : Rd := if 0 ≤ at_ ∧ at_ ≤ (s.size : Int) then rdF s at_.toNat at_.toNat none [] else .no 1
theorem rdAt_in {s : ByteArray} {at_ : Int} (h : 0 ≤ at_) (h' : at_ ≤ (s.size : Int)) : rdAt s at_ = rdF s at_.toNat at_.toNat none [] := if_pos ⟨h, h'⟩
theorem rdAt_out {s : ByteArray} {at_ : Int} (h : at_ < 0 ∨ (s.size : Int) < at_) : rdAt s at_ = .no 1 := if_neg (by omega)
/-- The three results. -/
def rdR : Rd → Go.Value
  | .ok n next => .tuple #[.string ⟨n.toArray⟩, .int .i64 next, .int .i64 0]
  | .no e => .tuple #[.string ByteArray.empty, .int .i64 0, .int .i64 e]
end Go.Proofs.YthgendgmlpaglaaDoor
namespace Go.Proofs.YthgendgmlpaglaaDoor

/-- From this place on, labels, then the root. -/
def scan (s : ByteArray) (p : Nat) : Bool :=
  if _h : p < s.size then
    if bt s p = 0 then decide (p + 1 = s.size)
    else if bt s p ≤ 63 then scan s (p + 1 + bt s p)
    else false
  else false
termination_by s.size - p
/-- Are bytes a name? -/
def may (s : ByteArray) : Bool := decide (s.size ≤ 255) && scan s 0
theorem scan_end {s : ByteArray} {p : Nat} (h : p < s.size) (h0 : bt s p = 0) : scan s p = decide (p + 1 = s.size) := by rw [scan, dif_pos h, if_pos h0]
theorem scan_step {s : ByteArray} {p : Nat} (h : p < s.size) (h0 : ¬ bt s p = 0) (h1 : bt s p ≤ 63) : scan s p = scan s (p + 1 + bt s p) := by rw [scan, dif_pos h, if_neg h0, if_pos h1]
theorem scan_big {s : ByteArray} {p : Nat} (h : p < s.size) (h1 : 63 < bt s p) : scan s p = false := by rw [scan, dif_pos h, if_neg (by omega), if_neg (by omega)]
theorem scan_out {s : ByteArray} {p : Nat} (h : s.size ≤ p) : scan s p = false := by rw [scan, dif_neg (by omega)]
theorem scan_lt {s : ByteArray} {p : Nat} (h : scan s p = true) : p < s.size := by
  rcases Nat.lt_or_ge p s.size with h1 | h1
  · exact h1
  · rw [scan_out h1] at h; cases h
theorem scan_lab {s : ByteArray} {p : Nat} (h : scan s p = true) (h0 : ¬ bt s p = 0) : bt s p ≤ 63 ∧ p + 1 + bt s p < s.size ∧ scan s (p + 1 + bt s p) = true := by
  have hl := scan_lt h
  by_cases h1 : bt s p ≤ 63
  · rw [scan_step hl h0 h1] at h
    exact ⟨h1, scan_lt h, h⟩
  · rw [scan_big hl (by omega)] at h; cases h
theorem scan_root {s : ByteArray} {p : Nat} (h : scan s p = true) (h0 : bt s p = 0) : p + 1 = s.size := by
  rw [scan_end (scan_lt h) h0] at h
  simpa using h
theorem may_size {s : ByteArray} (h : may s = true) : s.size ≤ 255 ∧ scan s 0 = true := by simpa [may] using h

/-- A table of endings. -/
abbrev Tb := List (ByteArray × Nat)
def tget (T : Tb) (s : ByteArray) : Option Nat := (T.find? fun x => decide (x.1 = s)).map (·.2)
theorem tget_nil (s : ByteArray) : tget [] s = none := rfl
theorem tget_snoc_same {T : Tb} {s : ByteArray} {p : Nat} (h : tget T s = none) : tget (T ++ [(s, p)]) s = some p := by
  unfold tget at *
  simp only [Option.map_eq_none_iff] at h
  rw [List.find?_append, h]
  simp
theorem tget_snoc_other {T : Tb} {s s' : ByteArray} {p : Nat} (h : s' ≠ s) : tget (T ++ [(s, p)]) s' = tget T s' := by
  unfold tget
  rw [List.find?_append]
  have : ([(s, p)] : Tb).find? (fun x => decide (x.1 = s')) = none := by simp; exact fun e => h e.symm
  rw [this]
  simp
theorem tget_mem {T : Tb} {s : ByteArray} {p : Nat} (h : tget T s = some p) : (s, p) ∈ T := by
  unfold tget at h
  rw [Option.map_eq_some_iff] at h
  obtain ⟨x, hx, rfl⟩ := h
  have h1 := List.mem_of_find?_eq_some hx
  have h2 : x.1 = s := by simpa using List.find?_some hx
  rw [← h2]
  exact h1
/-- All places may be pointed to. -/
def Low (T : Tb) : Prop := ∀ x ∈ T, x.2 ≤ 16383
theorem Low.nil : Low [] := by intro x hx; cases hx
theorem Low.snoc {T : Tb} (h : Low T) {s : ByteArray} {p : Nat} (hp : p ≤ 16383) : Low (T ++ [(s, p)]) := by
  intro x hx
  rcases List.mem_append.1 hx with hx | hx
  · exact h x hx
  · simp at hx; subst hx; exact hp
/-- The ending at a place. -/
def suf (n : ByteArray) (p : Nat) : ByteArray := n.extract p n.size
/-- The table behind a label. -/
def tadd (n : ByteArray) (known : Bool) (p : Nat) (T : Tb) (len : Nat) : Tb :=
  if known = true ∧ tget T (suf n p) = none ∧ len ≤ 16383 then T ++ [(suf n p, len)] else T
def ptrB (k : Nat) : List UInt8 := [UInt8.ofNat (192 + k / 256), UInt8.ofNat (k % 256)]
/-- What putting a name from a place on gives: the bytes, the table. -/
def putF (n : ByteArray) (cmp known : Bool) (p : Nat) (T : Tb) (out : List UInt8) : List UInt8 × Tb :=
  if _h : p < n.size ∧ ¬ bt n p = 0 then
    if (tget T (suf n p)).isSome ∧ cmp = true then (out ++ ptrB ((tget T (suf n p)).getD 0), T)
    else putF n cmp known (p + 1 + bt n p) (tadd n known p T out.length) (out ++ lab n p)
  else (out ++ [0], T)
termination_by n.size - p
theorem putF_end {n : ByteArray} {cmp known : Bool} {p : Nat} {T : Tb} {out : List UInt8} (h0 : bt n p = 0) : putF n cmp known p T out = (out ++ [0], T) := by rw [putF, dif_neg (by omega)]
theorem putF_ptr {n : ByteArray} {cmp known : Bool} {p : Nat} {T : Tb} {out : List UInt8} (h : p < n.size) (h0 : ¬ bt n p = 0) {k : Nat} (hk : tget T (suf n p) = some k) (hc : cmp = true) : putF n cmp known p T out = (out ++ ptrB k, T) := by
  rw [putF, dif_pos ⟨h, h0⟩, hk, if_pos ⟨rfl, hc⟩]; rfl
theorem putF_step {n : ByteArray} {cmp known : Bool} {p : Nat} {T : Tb} {out : List UInt8} (h : p < n.size) (h0 : ¬ bt n p = 0) (hc : tget T (suf n p) = none ∨ cmp = false) : putF n cmp known p T out = putF n cmp known (p + 1 + bt n p) (tadd n known p T out.length) (out ++ lab n p) := by
  rw [putF, dif_pos ⟨h, h0⟩, if_neg]
  rintro ⟨h1, h2⟩
  rcases hc with hc | hc
  · rw [hc] at h1; cases h1
  · rw [hc] at h2; cases h2
theorem tadd_len (n : ByteArray) (known : Bool) (p : Nat) (T : Tb) (len : Nat) : (tadd n known p T len).length ≤ T.length + 1 := by
  unfold tadd; split
  · simp
  · omega
theorem tadd_low {T : Tb} (h : Low T) (n : ByteArray) (known : Bool) (p len : Nat) : Low (tadd n known p T len) := by
  unfold tadd; split
  · rename_i h1; exact h.snoc h1.2.2
  · exact h
end Go.Proofs.YthgendgmlpaglaaDoor
namespace Go.Proofs.YthgendgmlpaglaaDoor

theorem ba_ext {a b : ByteArray} (h : a.data.toList = b.data.toList) : a = b := by
  cases a; cases b
  simp at h
  rw [h]
theorem suf_eq (n : ByteArray) (p : Nat) : suf n p = ⟨(n.data.toList.drop p).toArray⟩ := by
  refine ba_ext ?_
  unfold suf
  rw [Go.Lib.extract_data]
  have : n.size - p = (n.data.toList.drop p).length := by rw [List.length_drop, Array.length_toList]; rfl
  rw [this, List.take_length]
theorem lab_eq' (n : ByteArray) (p : Nat) : lab n p = (n.data.toList.drop p).take (1 + bt n p) := by
  unfold lab
  rw [Go.Lib.extract_data]
  congr 1
  omega
def rdK : Nat → ByteArray → Nat → Nat → Option Nat → List UInt8 → Option Rd
  | 0, _, _, _, _, _ => none
  | k + 1, s, p, lim, nx, out =>
    if p < s.size then
      if bt s p = 0 then some (.ok (out ++ [0]) (nx.getD (p + 1)))
      else if bt s p < 64 then
        if p + 1 + bt s p ≤ s.size then
          if out.length + 1 + bt s p + 1 ≤ 255 then rdK k s (p + 1 + bt s p) lim nx (out ++ (s.data.toList.drop p).take (1 + bt s p))
          else some (.no 5)
        else some (.no 4)
      else if bt s p < 192 then some (.no 3)
      else if p + 2 ≤ s.size then
        if ptr s p < lim then rdK k s (ptr s p) (ptr s p) (some (nx.getD (p + 2))) out
        else some (.no 8)
      else some (.no 4)
    else some (.no 4)
theorem rdK_eq (s : ByteArray) : ∀ (k p lim : Nat) (nx : Option Nat) (out : List UInt8) (r : Rd), rdK k s p lim nx out = some r → rdF s p lim nx out = r := by
  intro k
  induction k with
  | zero => intro p lim nx out r h; cases h
  | succ k ih =>
    intro p lim nx out r h
    unfold rdK at h
    by_cases h1 : p < s.size
    · rw [if_pos h1] at h
      by_cases h2 : bt s p = 0
      · rw [if_pos h2] at h; rw [rd_end h1 h2]; exact Option.some.inj h
      · rw [if_neg h2] at h
        by_cases h3 : bt s p < 64
        · rw [if_pos h3] at h
          by_cases h4 : p + 1 + bt s p ≤ s.size
          · rw [if_pos h4] at h
            by_cases h5 : out.length + 1 + bt s p + 1 ≤ 255
            · rw [if_pos h5] at h; rw [rd_label h2 h3 h4 h5, lab_eq']; exact ih _ _ _ _ _ h
            · rw [if_neg h5] at h; rw [rd_long h2 h3 h4 h5]; exact Option.some.inj h
          · rw [if_neg h4] at h; rw [rd_lshort h1 h2 h3 h4]; exact Option.some.inj h
        · rw [if_neg h3] at h
          by_cases h4 : bt s p < 192
          · rw [if_pos h4] at h; rw [rd_form h1 (by omega) h4]; exact Option.some.inj h
          · rw [if_neg h4] at h
            by_cases h5 : p + 2 ≤ s.size
            · rw [if_pos h5] at h
              by_cases h6 : ptr s p < lim
              · rw [if_pos h6] at h; rw [rd_ptr (by omega) h5 h6]; exact ih _ _ _ _ _ h
              · rw [if_neg h6] at h; rw [rd_loop (by omega) h5 h6]; exact Option.some.inj h
            · rw [if_neg h5] at h; rw [rd_pshort h1 (by omega) h5]; exact Option.some.inj h
    · rw [if_neg h1] at h; rw [rd_short h1]; exact Option.some.inj h
theorem rdAtK {s : ByteArray} {p : Nat} {r : Rd} (k : Nat) (hp : p ≤ s.size) (h : rdK k s p p none [] = some r) : rdAt s (p : Int) = r := by
  rw [rdAt_in (by omega) (by omega)]; exact rdK_eq s k _ _ _ _ _ h
def putK : Nat → ByteArray → Bool → Bool → Nat → Tb → List UInt8 → Option (List UInt8 × Tb)
  | 0, _, _, _, _, _, _ => none
  | k + 1, n, cmp, known, p, T, out =>
    if p < n.size ∧ ¬ bt n p = 0 then
      if (tget T ⟨(n.data.toList.drop p).toArray⟩).isSome ∧ cmp = true then some (out ++ ptrB ((tget T ⟨(n.data.toList.drop p).toArray⟩).getD 0), T)
      else putK k n cmp known (p + 1 + bt n p) (if known = true ∧ tget T ⟨(n.data.toList.drop p).toArray⟩ = none ∧ out.length ≤ 16383 then T ++ [(⟨(n.data.toList.drop p).toArray⟩, out.length)] else T) (out ++ (n.data.toList.drop p).take (1 + bt n p))
    else some (out ++ [0], T)
theorem putK_eq (n : ByteArray) (cmp known : Bool) : ∀ (k p : Nat) (T : Tb) (out : List UInt8) (r : List UInt8 × Tb), putK k n cmp known p T out = some r → putF n cmp known p T out = r := by
  intro k
  induction k with
  | zero => intro p T out r h; cases h
  | succ k ih =>
    intro p T out r h
    unfold putK at h
    rw [← suf_eq, ← lab_eq'] at h
    rw [putF]
    by_cases h1 : p < n.size ∧ ¬ bt n p = 0
    · rw [if_pos h1] at h
      rw [dif_pos h1]
      by_cases h2 : (tget T (suf n p)).isSome ∧ cmp = true
      · rw [if_pos h2] at h; rw [if_pos h2]; exact Option.some.inj h
      · rw [if_neg h2] at h; rw [if_neg h2]; exact ih _ _ _ _ h
    · rw [if_neg h1] at h; rw [dif_neg h1]; exact Option.some.inj h
def mayK : Nat → ByteArray → Nat → Option Bool
  | 0, _, _ => none
  | k + 1, s, p =>
    if p < s.size then
      if bt s p = 0 then some (decide (p + 1 = s.size))
      else if bt s p ≤ 63 then mayK k s (p + 1 + bt s p)
      else some false
    else some false
theorem mayK_eq (s : ByteArray) : ∀ (k p : Nat) (r : Bool), mayK k s p = some r → scan s p = r := by
  intro k
  induction k with
  | zero => intro p r h; cases h
  | succ k ih =>
    intro p r h
    unfold mayK at h
    by_cases h1 : p < s.size
    · rw [if_pos h1] at h
      by_cases h2 : bt s p = 0
      · rw [if_pos h2] at h; rw [scan_end h1 h2]; exact Option.some.inj h
      · rw [if_neg h2] at h
        by_cases h3 : bt s p ≤ 63
        · rw [if_pos h3] at h; rw [scan_step h1 h2 h3]; exact ih _ _ h
        · rw [if_neg h3] at h; rw [scan_big h1 (by omega)]; exact Option.some.inj h
    · rw [if_neg h1] at h; rw [scan_out (by omega)]; exact Option.some.inj h
theorem may_of {s : ByteArray} (k : Nat) {r : Bool} (hs : s.size ≤ 255) (h : mayK k s 0 = some r) : may s = r := by
  unfold may; rw [mayK_eq s k 0 r h]; simp; intro; exact hs

def nW : ByteArray := ⟨#[3, 119, 119, 119, 2, 101, 120, 0]⟩
def nF : ByteArray := ⟨#[3, 102, 116, 112, 2, 101, 120, 0]⟩
def nE : ByteArray := ⟨#[2, 101, 120, 0]⟩
def nV : ByteArray := ⟨#[3, 87, 87, 87, 2, 101, 120, 0]⟩
def oW : List UInt8 := [3, 119, 119, 119, 2, 101, 120, 0]
def oF : List UInt8 := [3, 119, 119, 119, 2, 101, 120, 0, 3, 102, 116, 112, 192, 4]
def oE : List UInt8 := [3, 119, 119, 119, 2, 101, 120, 0, 3, 102, 116, 112, 192, 4, 192, 4]
def oV : List UInt8 := [3, 119, 119, 119, 2, 101, 120, 0, 3, 102, 116, 112, 192, 4, 192, 4, 3, 87, 87, 87, 192, 4]
def tW : Tb := [(nW, 0), (nE, 4)]
def tF : Tb := [(nW, 0), (nE, 4), (nF, 8)]
def tV : Tb := [(nW, 0), (nE, 4), (nF, 8), (nV, 16)]
theorem putW : putF nW true true 0 [] [] = (oW, tW) := putK_eq _ _ _ 9 _ _ _ _ (by decide +kernel)
theorem putFt : putF nF true true 0 tW oW = (oF, tF) := putK_eq _ _ _ 9 _ _ _ _ (by decide +kernel)
theorem putE : putF nE true true 0 tF oF = (oE, tF) := putK_eq _ _ _ 9 _ _ _ _ (by decide +kernel)
theorem putV : putF nV true true 0 tF oE = (oV, tV) := putK_eq _ _ _ 9 _ _ _ _ (by decide +kernel)
theorem mayW : may nW = true := may_of 9 (by decide) (by decide +kernel)
theorem mayF : may nF = true := may_of 9 (by decide) (by decide +kernel)
theorem mayE : may nE = true := may_of 9 (by decide) (by decide +kernel)
theorem mayV : may nV = true := may_of 9 (by decide) (by decide +kernel)
theorem rd8 : rdAt ⟨oV.toArray⟩ 8 = .ok [3, 102, 116, 112, 2, 101, 120, 0] 14 := rdAtK (p := 8) 9 (by decide) (by kernel_rfl)
theorem rdx0 : rdAt ⟨#[192, 0]⟩ 0 = .no 8 := rdAtK (p := 0) 9 (by decide) (by kernel_rfl)
theorem rdx1 : rdAt ⟨#[64]⟩ 0 = .no 3 := rdAtK (p := 0) 9 (by decide) (by kernel_rfl)
theorem rdx2 : rdAt ⟨#[3, 97]⟩ 0 = .no 4 := rdAtK (p := 0) 9 (by decide) (by kernel_rfl)
theorem rdx3 : rdAt ⟨#[]⟩ 0 = .no 4 := rdAtK (p := 0) 9 (by decide) (by kernel_rfl)
theorem rdx4 : rdAt ⟨#[]⟩ 1 = .no 1 := rdAt_out (by decide)
end Go.Proofs.YthgendgmlpaglaaDoor
namespace Go.Proofs.YthgendgmlpaglaaDoor

theorem rd_ind {s : ByteArray} {P : Nat → Nat → Option Nat → List UInt8 → Prop}
    (short : ∀ p lim nx out, ¬ p < s.size → P p lim nx out)
    (fin : ∀ p lim nx out, p < s.size → bt s p = 0 → P p lim nx out)
    (label : ∀ p lim nx out, ¬ bt s p = 0 → bt s p < 64 → p + 1 + bt s p ≤ s.size → out.length + 1 + bt s p + 1 ≤ 255 → P (p + 1 + bt s p) lim nx (out ++ lab s p) → P p lim nx out)
    (long : ∀ p lim nx out, ¬ bt s p = 0 → bt s p < 64 → p + 1 + bt s p ≤ s.size → ¬ out.length + 1 + bt s p + 1 ≤ 255 → P p lim nx out)
    (lshort : ∀ p lim nx out, p < s.size → ¬ bt s p = 0 → bt s p < 64 → ¬ p + 1 + bt s p ≤ s.size → P p lim nx out)
    (form : ∀ p lim nx out, p < s.size → 64 ≤ bt s p → bt s p < 192 → P p lim nx out)
    (point : ∀ p lim nx out, 192 ≤ bt s p → p + 2 ≤ s.size → ptr s p < lim → P (ptr s p) (ptr s p) (some (nx.getD (p + 2))) out → P p lim nx out)
    (loop : ∀ p lim nx out, 192 ≤ bt s p → p + 2 ≤ s.size → ¬ ptr s p < lim → P p lim nx out)
    (pshort : ∀ p lim nx out, p < s.size → 192 ≤ bt s p → ¬ p + 2 ≤ s.size → P p lim nx out) : ∀ p lim nx out, P p lim nx out := by
  have key : ∀ k j : Nat, ∀ p lim nx out, lim = k → 256 - List.length out = j → P p lim nx out := by
    intro k
    induction k using Nat.strongRecOn with
    | _ k ihk =>
      intro j
      induction j using Nat.strongRecOn with
      | _ j ihj =>
        intro p lim nx out hk hj
        by_cases h1 : p < s.size
        · by_cases h2 : bt s p = 0
          · exact fin _ _ _ _ h1 h2
          · by_cases h3 : bt s p < 64
            · by_cases h4 : p + 1 + bt s p ≤ s.size
              · by_cases h5 : out.length + 1 + bt s p + 1 ≤ 255
                · exact label _ _ _ _ h2 h3 h4 h5 (ihj (256 - (out ++ lab s p).length) (by rw [List.length_append, lab_len s p h4]; omega) _ _ _ _ hk rfl)
                · exact long _ _ _ _ h2 h3 h4 h5
              · exact lshort _ _ _ _ h1 h2 h3 h4
            · by_cases h4 : bt s p < 192
              · exact form _ _ _ _ h1 (by omega) h4
              · by_cases h5 : p + 2 ≤ s.size
                · by_cases h6 : ptr s p < lim
                  · exact point _ _ _ _ (by omega) h5 h6 (ihk (ptr s p) (by omega) _ _ _ _ _ rfl rfl)
                  · exact loop _ _ _ _ (by omega) h5 h6
                · exact pshort _ _ _ _ h1 (by omega) h5
        · exact short _ _ _ _ h1
  intro p lim nx out
  exact key _ _ _ _ _ _ rfl rfl

/-- Bytes that are labels: whatever stands behind them. -/
def Lbs (out : List UInt8) : Prop := ∀ rest : List UInt8, scan ⟨(out ++ rest).toArray⟩ 0 = scan ⟨(out ++ rest).toArray⟩ out.length
theorem Lbs.nil : Lbs [] := fun _ => rfl
theorem bt_mk (l : List UInt8) (p : Nat) : bt ⟨l.toArray⟩ p = (l[p]?.getD 0).toNat := rfl
theorem size_mk (l : List UInt8) : (⟨l.toArray⟩ : ByteArray).size = l.length := by simp [ByteArray.size]
theorem lab_get (s : ByteArray) (p : Nat) : ((lab s p)[0]?.getD 0).toNat = bt s p := by
  rw [lab_eq']
  unfold bt
  rw [List.getElem?_take_of_lt (by omega), List.getElem?_drop]
  rfl
theorem Lbs.snoc {out : List UInt8} (h : Lbs out) {s : ByteArray} {p : Nat} (h0 : ¬ bt s p = 0) (h1 : bt s p ≤ 63) (h2 : p + 1 + bt s p ≤ s.size) : Lbs (out ++ lab s p) := by
  intro rest
  have hl := lab_len s p h2
  have e := h (lab s p ++ rest)
  rw [← List.append_assoc] at e
  have hb : bt ⟨(out ++ lab s p ++ rest).toArray⟩ out.length = bt s p := by
    rw [bt_mk, List.append_assoc, List.getElem?_append_right (Nat.le_refl _), Nat.sub_self, List.getElem?_append_left (by omega)]
    exact lab_get s p
  rw [e, scan_step (by rw [size_mk]; simp; omega) (by rw [hb]; exact h0) (by rw [hb]; exact h1), hb, List.length_append, hl]
  congr 1
  omega
theorem Lbs.may {out : List UInt8} (h : Lbs out) (hl : out.length ≤ 254) : may ⟨(out ++ [0]).toArray⟩ = true := by
  have hb : bt ⟨(out ++ [0]).toArray⟩ out.length = 0 := by rw [bt_mk]; simp
  unfold Go.Proofs.YthgendgmlpaglaaDoor.may
  rw [h [0], scan_end (by rw [size_mk]; simp) hb, size_mk]
  simp
  omega

/-- What is read is a name; the place behind. -/
theorem rd_ok_may {s : ByteArray} {a0 : Nat} : ∀ p lim nx out, ∀ m next, rdF s p lim nx out = .ok m next → (∀ q, nx = some q → a0 < q ∧ q ≤ s.size) → (nx = none → a0 ≤ p) → Lbs out → out.length ≤ 254 → may ⟨m.toArray⟩ = true ∧ a0 < next ∧ next ≤ s.size := by
  refine rd_ind (s := s) ?_ ?_ ?_ ?_ ?_ ?_ ?_ ?_ ?_
  · intro p lim nx out h m next e; rw [rd_short h] at e; cases e
  · intro p lim nx out h h0 m next e hq hn hL hl
    rw [rd_end h h0] at e
    cases e
    refine ⟨hL.may hl, ?_⟩
    cases nx with
    | none => have := hn rfl; simp; omega
    | some q => exact hq q rfl
  · intro p lim nx out h0 h64 h1 h2 ih m next e hq hn hL hl
    rw [rd_label h0 h64 h1 h2] at e
    exact ih m next e hq (fun e => by have := hn e; omega) (hL.snoc h0 (by omega) h1) (by rw [List.length_append, lab_len s p h1]; omega)
  · intro p lim nx out h0 h64 h1 h2 m next e; rw [rd_long h0 h64 h1 h2] at e; cases e
  · intro p lim nx out h h0 h64 h1 m next e; rw [rd_lshort h h0 h64 h1] at e; cases e
  · intro p lim nx out h h64 h192 m next e; rw [rd_form h h64 h192] at e; cases e
  · intro p lim nx out h192 h2 h3 ih m next e hq hn hL hl
    rw [rd_ptr h192 h2 h3] at e
    refine ih m next e ?_ (fun e => by cases e) hL hl
    intro q hq'
    cases hq'
    cases nx with
    | none => have := hn rfl; simp; omega
    | some q => exact hq q rfl
  · intro p lim nx out h192 h2 h3 m next e; rw [rd_loop h192 h2 h3] at e; cases e
  · intro p lim nx out h h192 h2 m next e; rw [rd_pshort h h192 h2] at e; cases e
theorem rdAt_ok {s : ByteArray} {at_ : Int} {m : List UInt8} {next : Nat} (h : rdAt s at_ = .ok m next) : may ⟨m.toArray⟩ = true ∧ at_ < (next : Int) ∧ next ≤ s.size ∧ 0 ≤ at_ ∧ at_ ≤ (s.size : Int) ∧ rdF s at_.toNat at_.toNat none [] = .ok m next := by
  by_cases h1 : 0 ≤ at_ ∧ at_ ≤ (s.size : Int)
  · rw [rdAt_in h1.1 h1.2] at h
    obtain ⟨k1, k2, k3⟩ := rd_ok_may (a0 := at_.toNat) _ _ _ _ _ _ h (fun q e => by cases e) (fun _ => Nat.le_refl _) Lbs.nil (by simp)
    exact ⟨k1, by omega, k3, h1.1, h1.2, h⟩
  · rw [rdAt_out (by omega)] at h; cases h

/-- t begins as s, or s as t: the bytes that both have are the same. -/
def Ahead (t s : ByteArray) : Prop := t.size ≤ s.size ∧ ∀ p, p < t.size → t.data.toList[p]? = s.data.toList[p]?
theorem Ahead.bt {t s : ByteArray} (h : Ahead t s) {p : Nat} (hp : p < t.size) : bt t p = bt s p := by unfold Go.Proofs.YthgendgmlpaglaaDoor.bt; rw [h.2 p hp]
theorem Ahead.lab {t s : ByteArray} (h : Ahead t s) {p : Nat} (hp : p + 1 + Go.Proofs.YthgendgmlpaglaaDoor.bt t p ≤ t.size) : lab t p = lab s p := by
  have hb := h.bt (p := p) (by omega)
  rw [lab_eq', lab_eq', hb]
  apply List.ext_getElem?
  intro i
  by_cases hi : i < 1 + Go.Proofs.YthgendgmlpaglaaDoor.bt s p
  · rw [List.getElem?_take_of_lt hi, List.getElem?_take_of_lt hi, List.getElem?_drop, List.getElem?_drop, h.2 (p + i) (by omega)]
  · rw [List.getElem?_eq_none (by simp; omega), List.getElem?_eq_none (by simp; omega)]
theorem Ahead.ptr {t s : ByteArray} (h : Ahead t s) {p : Nat} (hp : p + 2 ≤ t.size) : ptr t p = ptr s p := by
  unfold Go.Proofs.YthgendgmlpaglaaDoor.ptr; rw [h.bt (by omega), h.bt (by omega)]
theorem ahead_append (s t : ByteArray) : Ahead s (s ++ t) := by
  refine ⟨by rw [ByteArray.size_append]; omega, fun p hp => ?_⟩
  rw [show (s ++ t).data.toList = s.data.toList ++ t.data.toList by rw [ByteArray.data_append]; simp]
  rw [List.getElem?_append_left (by rw [Array.length_toList]; exact hp)]
theorem ahead_cut (s : ByteArray) (k : Nat) (hk : k ≤ s.size) : Ahead (s.extract 0 k) s ∧ (s.extract 0 k).size = k := by
  have hs : (s.extract 0 k).size = k := by rw [ByteArray.size_extract]; omega
  refine ⟨⟨by omega, fun p hp => ?_⟩, hs⟩
  rw [Go.Lib.extract_data, List.getElem?_take_of_lt (by omega), List.getElem?_drop]
  congr 1
  omega
/-- What bytes say, fewer of them say too, or they are short. -/
theorem rd_ahead {t s : ByteArray} (h : Ahead t s) : ∀ p lim nx out, rdF t p lim nx out = rdF s p lim nx out ∨ rdF t p lim nx out = .no 4 := by
  refine rd_ind (s := t) ?_ ?_ ?_ ?_ ?_ ?_ ?_ ?_ ?_
  · intro p lim nx out h1; exact .inr (rd_short h1)
  · intro p lim nx out h1 h0
    left
    rw [rd_end h1 h0, rd_end (by have := h.1; omega) (by rw [← h.bt h1]; exact h0)]
  · intro p lim nx out h0 h64 h1 h2 ih
    have hb := h.bt (p := p) (by omega)
    rw [rd_label h0 h64 h1 h2, rd_label (s := s) (by rw [← hb]; exact h0) (by rw [← hb]; exact h64) (by rw [← hb]; have := h.1; omega) (by rw [← hb]; exact h2), ← hb, ← h.lab h1]
    exact ih
  · intro p lim nx out h0 h64 h1 h2
    have hb := h.bt (p := p) (by omega)
    left
    rw [rd_long h0 h64 h1 h2, rd_long (s := s) (by rw [← hb]; exact h0) (by rw [← hb]; exact h64) (by rw [← hb]; have := h.1; omega) (by rw [← hb]; exact h2)]
  · intro p lim nx out h1 h0 h64 h2; exact .inr (rd_lshort h1 h0 h64 h2)
  · intro p lim nx out h1 h64 h192
    have hb := h.bt h1
    left
    rw [rd_form h1 h64 h192, rd_form (s := s) (by have := h.1; omega) (by rw [← hb]; exact h64) (by rw [← hb]; exact h192)]
  · intro p lim nx out h192 h2 h3 ih
    have hb := h.bt (p := p) (by omega)
    have hp := h.ptr h2
    rw [rd_ptr h192 h2 h3, rd_ptr (s := s) (by rw [← hb]; exact h192) (by have := h.1; omega) (by rw [← hp]; exact h3), ← hp]
    exact ih
  · intro p lim nx out h192 h2 h3
    have hb := h.bt (p := p) (by omega)
    have hp := h.ptr h2
    left
    rw [rd_loop h192 h2 h3, rd_loop (s := s) (by rw [← hb]; exact h192) (by have := h.1; omega) (by rw [← hp]; exact h3)]
  · intro p lim nx out h1 h192 h2; exact .inr (rd_pshort h1 h192 h2)
/-- .. and where they say a name, more say it too. -/
theorem rd_more {t s : ByteArray} (h : Ahead t s) {p lim : Nat} {nx : Option Nat} {out m : List UInt8} {next : Nat} (e : rdF t p lim nx out = .ok m next) : rdF s p lim nx out = .ok m next := by
  rcases rd_ahead h p lim nx out with h1 | h1
  · rw [← h1]; exact e
  · rw [h1] at e; cases e
/-- What is read behind labels has one byte, or three at least. -/
theorem rd_rest {s : ByteArray} : ∀ p lim nx out, ∀ m next, rdF s p lim nx out = .ok m next → ∃ R : List UInt8, m = out ++ R ∧ (R.length = 1 ∨ 3 ≤ R.length) := by
  refine rd_ind (s := s) ?_ ?_ ?_ ?_ ?_ ?_ ?_ ?_ ?_
  · intro p lim nx out h m next e; rw [rd_short h] at e; cases e
  · intro p lim nx out h h0 m next e
    rw [rd_end h h0] at e
    cases e
    exact ⟨[0], rfl, .inl rfl⟩
  · intro p lim nx out h0 h64 h1 h2 ih m next e
    rw [rd_label h0 h64 h1 h2] at e
    obtain ⟨R, rfl, hR⟩ := ih m next e
    refine ⟨lab s p ++ R, by rw [List.append_assoc], .inr ?_⟩
    rw [List.length_append, lab_len s p h1]
    omega
  · intro p lim nx out h0 h64 h1 h2 m next e; rw [rd_long h0 h64 h1 h2] at e; cases e
  · intro p lim nx out h h0 h64 h1 m next e; rw [rd_lshort h h0 h64 h1] at e; cases e
  · intro p lim nx out h h64 h192 m next e; rw [rd_form h h64 h192] at e; cases e
  · intro p lim nx out h192 h2 h3 ih m next e
    rw [rd_ptr h192 h2 h3] at e
    exact ih m next e
  · intro p lim nx out h192 h2 h3 m next e; rw [rd_loop h192 h2 h3] at e; cases e
  · intro p lim nx out h h192 h2 m next e; rw [rd_pshort h h192 h2] at e; cases e
/-- The place behind stays, once a pointer was met. -/
theorem rd_next {s : ByteArray} : ∀ p lim nx out, ∀ m next q, nx = some q → rdF s p lim nx out = .ok m next → next = q := by
  refine rd_ind (s := s) ?_ ?_ ?_ ?_ ?_ ?_ ?_ ?_ ?_
  · intro p lim nx out h m next q hq e; rw [rd_short h] at e; cases e
  · intro p lim nx out h h0 m next q hq e
    rw [rd_end h h0, hq] at e
    cases e
    rfl
  · intro p lim nx out h0 h64 h1 h2 ih m next q hq e
    rw [rd_label h0 h64 h1 h2] at e
    exact ih m next q hq e
  · intro p lim nx out h0 h64 h1 h2 m next q hq e; rw [rd_long h0 h64 h1 h2] at e; cases e
  · intro p lim nx out h h0 h64 h1 m next q hq e; rw [rd_lshort h h0 h64 h1] at e; cases e
  · intro p lim nx out h h64 h192 m next q hq e; rw [rd_form h h64 h192] at e; cases e
  · intro p lim nx out h192 h2 h3 ih m next q hq e
    rw [rd_ptr h192 h2 h3] at e
    exact ih m next q (by rw [hq]; rfl) e
  · intro p lim nx out h192 h2 h3 m next q hq e; rw [rd_loop h192 h2 h3] at e; cases e
  · intro p lim nx out h h192 h2 m next q hq e; rw [rd_pshort h h192 h2] at e; cases e
/-- Without a pointer: as many bytes as the name has, and up to the place behind it is read alike; with one: not as many. -/
theorem rd_plain {s : ByteArray} : ∀ p lim nx out, ∀ m next, nx = none → rdF s p lim nx out = .ok m next →
    p < next ∧ ((m.length = out.length + (next - p) ∧ ∀ t, Ahead t s → next ≤ t.size → rdF t p lim none out = .ok m next) ∨ m.length ≠ out.length + (next - p)) := by
  refine rd_ind (s := s) ?_ ?_ ?_ ?_ ?_ ?_ ?_ ?_ ?_
  · intro p lim nx out h m next hq e; rw [rd_short h] at e; cases e
  · intro p lim nx out h h0 m next hq e
    rw [rd_end h h0, hq] at e
    cases e
    refine ⟨by simp, .inl ⟨by simp, fun t ht hn => ?_⟩⟩
    simp at hn
    rw [rd_end (by omega) (by rw [ht.bt (by omega)]; exact h0)]
  · intro p lim nx out h0 h64 h1 h2 ih m next hq e
    rw [rd_label h0 h64 h1 h2] at e
    obtain ⟨h3, h4⟩ := ih m next hq e
    have hl := lab_len s p h1
    refine ⟨by omega, ?_⟩
    rcases h4 with ⟨h5, h6⟩ | h5
    · refine .inl ⟨by rw [h5, List.length_append, hl]; omega, fun t ht hn => ?_⟩
      have hb := ht.bt (p := p) (by omega)
      rw [rd_label (by rw [hb]; exact h0) (by rw [hb]; exact h64) (by rw [hb]; omega) (by rw [hb]; exact h2), hb, ht.lab (by rw [hb]; omega)]
      exact h6 t ht hn
    · refine .inr ?_
      rw [List.length_append, hl] at h5
      omega
  · intro p lim nx out h0 h64 h1 h2 m next hq e; rw [rd_long h0 h64 h1 h2] at e; cases e
  · intro p lim nx out h h0 h64 h1 m next hq e; rw [rd_lshort h h0 h64 h1] at e; cases e
  · intro p lim nx out h h64 h192 m next hq e; rw [rd_form h h64 h192] at e; cases e
  · intro p lim nx out h192 h2 h3 _ m next hq e
    rw [rd_ptr h192 h2 h3, hq] at e
    have h4 := rd_next _ _ _ _ _ _ _ rfl e
    obtain ⟨R, h5, h6⟩ := rd_rest _ _ _ _ _ _ e
    simp at h4
    refine ⟨by omega, .inr ?_⟩
    rw [h5, List.length_append]
    omega
  · intro p lim nx out h192 h2 h3 m next hq e; rw [rd_loop h192 h2 h3] at e; cases e
  · intro p lim nx out h h192 h2 m next hq e; rw [rd_pshort h h192 h2] at e; cases e

/-- A name's bytes, wherever they stand, are read as that name. -/
theorem rd_name (A n B : ByteArray) (hn : n.size ≤ 255) (lim : Nat) (nx : Option Nat) : ∀ k p, n.size - p = k → scan n p = true → rdF (A ++ n ++ B) (A.size + p) lim nx (n.data.toList.take p) = .ok n.data.toList (nx.getD (A.size + n.size)) := by
  have hS : (A ++ n ++ B).size = A.size + n.size + B.size := by simp [ByteArray.size_append]
  have hget : ∀ i, i < n.size → (A ++ n ++ B).data.toList[A.size + i]? = n.data.toList[i]? := by
    intro i hi
    rw [show (A ++ n ++ B).data.toList = A.data.toList ++ n.data.toList ++ B.data.toList by simp [ByteArray.data_append]]
    have hAl : A.data.toList.length = A.size := by rw [Array.length_toList]; rfl
    have hnl : n.data.toList.length = n.size := by rw [Array.length_toList]; rfl
    rw [List.getElem?_append_left (by rw [List.length_append]; omega), List.getElem?_append_right (by omega)]
    congr 1
    omega
  have hbt : ∀ i, i < n.size → bt (A ++ n ++ B) (A.size + i) = bt n i := by intro i hi; unfold bt; rw [hget i hi]
  have hnl : n.data.toList.length = n.size := by rw [Array.length_toList]; rfl
  intro k
  induction k using Nat.strongRecOn with
  | _ k ih =>
    intro p hk hsc
    have hp := scan_lt hsc
    by_cases h0 : bt n p = 0
    · have hr := scan_root hsc h0
      rw [rd_end (by omega) (by rw [hbt p hp]; exact h0)]
      have h2 : n.data.toList[p]'(by omega) = 0 := by
        unfold bt at h0
        rw [List.getElem?_eq_getElem (by omega)] at h0
        simp only [Option.getD_some] at h0
        exact UInt8.toNat_inj.1 (by simpa using h0)
      have e := List.take_succ_eq_append_getElem (l := n.data.toList) (i := p) (by omega)
      rw [List.take_of_length_le (by omega), h2] at e
      rw [← e, show A.size + p + 1 = A.size + n.size by omega]
    · obtain ⟨h1, h2, h3⟩ := scan_lab hsc h0
      have hb := hbt p hp
      have hlab : lab (A ++ n ++ B) (A.size + p) = (n.data.toList.drop p).take (1 + bt n p) := by
        rw [lab_eq', hb]
        apply List.ext_getElem?
        intro i
        by_cases hi : i < 1 + bt n p
        · rw [List.getElem?_take_of_lt hi, List.getElem?_take_of_lt hi, List.getElem?_drop, List.getElem?_drop, Nat.add_assoc, hget (p + i) (by omega)]
        · rw [List.getElem?_eq_none (by simp; omega), List.getElem?_eq_none (by simp; omega)]
      rw [rd_label (by rw [hb]; exact h0) (by rw [hb]; omega) (by rw [hb]; omega) (by rw [hb, List.length_take]; omega), hlab, hb]
      have e : n.data.toList.take p ++ (n.data.toList.drop p).take (1 + bt n p) = n.data.toList.take (p + 1 + bt n p) := by
        rw [← List.take_add]; congr 1; omega
      rw [e, show A.size + p + 1 + bt n p = A.size + (p + 1 + bt n p) by omega]
      exact ih (n.size - (p + 1 + bt n p)) (by omega) _ rfl h3
theorem rdAt_name (A n B : ByteArray) (h : may n = true) : rdAt (A ++ n ++ B) (A.size : Int) = .ok n.data.toList (A.size + n.size) := by
  obtain ⟨h1, h2⟩ := may_size h
  rw [rdAt_in (by omega) (by simp [ByteArray.size_append]; omega)]
  have := rd_name A n B h1 A.size none _ 0 rfl h2
  simpa using this
end Go.Proofs.YthgendgmlpaglaaDoor
namespace Go.Proofs.YthgendgmlpaglaaDoor

theorem aheadL (b c : List UInt8) : Ahead ⟨b.toArray⟩ ⟨(b ++ c).toArray⟩ := by
  refine ⟨by simp [ByteArray.size], fun p hp => ?_⟩
  rw [size_mk] at hp
  show b[p]? = (b ++ c)[p]?
  rw [List.getElem?_append_left hp]
theorem bt_left {b c : List UInt8} {p : Nat} (h : p < b.length) : bt ⟨(b ++ c).toArray⟩ p = bt ⟨b.toArray⟩ p := by
  rw [bt_mk, bt_mk, List.getElem?_append_left h]
theorem bt_right {b c : List UInt8} {p : Nat} : bt ⟨(b ++ c).toArray⟩ (b.length + p) = (c[p]?.getD 0).toNat := by
  rw [bt_mk, List.getElem?_append_right (by omega)]
  congr 3
  omega
/-- The ending x may be read at this place, from a pointer. -/
def RdP (b : List UInt8) (x : ByteArray) (off : Nat) : Prop := off < b.length ∧ ∀ q o, List.length o + x.size ≤ 255 → rdF ⟨b.toArray⟩ off off (some q) o = .ok (o ++ x.data.toList) q
theorem RdP.more {b : List UInt8} {x : ByteArray} {off : Nat} (h : RdP b x off) (c : List UInt8) : RdP (b ++ c) x off :=
  ⟨by have := h.1; simp; omega, fun q o ho => rd_more (aheadL b c) (h.2 q o ho)⟩
theorem suf_list (n : ByteArray) (p : Nat) : (suf n p).data.toList = n.data.toList.drop p := by rw [suf_eq]
theorem suf_sz (n : ByteArray) (p : Nat) : (suf n p).size = n.size - p := by unfold suf; rw [ByteArray.size_extract]; omega
theorem nlen (n : ByteArray) : n.data.toList.length = n.size := by rw [Array.length_toList]; rfl
theorem drop_root {n : ByteArray} {p : Nat} (hsc : scan n p = true) (h0 : bt n p = 0) : n.data.toList.drop p = [0] := by
  have hp := scan_lt hsc
  have hr := scan_root hsc h0
  have hl := nlen n
  rw [List.drop_eq_getElem_cons (by omega), List.drop_of_length_le (by omega)]
  unfold bt at h0
  rw [List.getElem?_eq_getElem (by omega)] at h0
  simp only [Option.getD_some] at h0
  have : n.data.toList[p]'(by omega) = 0 := UInt8.toNat_inj.1 (by simpa using h0)
  rw [this]
theorem drop_lab {n : ByteArray} {p : Nat} : lab n p ++ n.data.toList.drop (p + 1 + bt n p) = n.data.toList.drop p := by
  rw [lab_eq', show p + 1 + bt n p = p + (1 + bt n p) by omega, ← List.drop_drop, List.take_append_drop]
/-- The label's first byte where it stands. -/
theorem lab_bt {b c : List UInt8} {n : ByteArray} {p : Nat} (h : p + 1 + bt n p ≤ n.size) : bt ⟨(b ++ lab n p ++ c).toArray⟩ b.length = bt n p := by
  have hl := lab_len n p h
  rw [List.append_assoc, show b.length = b.length + 0 by rfl, bt_right, List.getElem?_append_left (by omega)]
  exact lab_get n p
theorem lab_lab {b c : List UInt8} {n : ByteArray} {p : Nat} (h : p + 1 + bt n p ≤ n.size) : lab ⟨(b ++ lab n p ++ c).toArray⟩ b.length = lab n p := by
  have hl := lab_len n p h
  rw [lab_eq', lab_bt h]
  show List.take (1 + bt n p) (List.drop b.length (b ++ lab n p ++ c)) = lab n p
  rw [List.append_assoc, List.drop_left, ← hl, List.take_left]
theorem ptr_at (b : List UInt8) (k : Nat) (hk : k ≤ 16383) : bt ⟨(b ++ ptrB k).toArray⟩ b.length = 192 + k / 256 ∧ ptr ⟨(b ++ ptrB k).toArray⟩ b.length = k := by
  have h1 : bt ⟨(b ++ ptrB k).toArray⟩ b.length = 192 + k / 256 := by
    rw [show b.length = b.length + 0 by rfl, bt_right]
    simp [ptrB]
    omega
  have h2 : bt ⟨(b ++ ptrB k).toArray⟩ (b.length + 1) = k % 256 := by
    rw [bt_right]
    simp [ptrB]
  refine ⟨h1, ?_⟩
  unfold ptr
  rw [h1, h2]
  omega

/-- THE LAW: what is put is read as it was; so is every ending that the table has. -/
theorem put_all (n : ByteArray) (cmp known : Bool) (a0 : Nat) : ∀ k p (T : Tb) (out : List UInt8), n.size - p = k → scan n p = true → out.length = a0 + p → Low T →
    (∀ x ∈ T, (x.2 < a0 ∧ RdP out x.1 x.2) ∨ n.size - p < x.1.size) →
    (∃ c, (putF n cmp known p T out).1 = out ++ c) ∧
    (∀ lim nx o, a0 ≤ lim → List.length o + (n.size - p) ≤ 255 → rdF ⟨(putF n cmp known p T out).1.toArray⟩ (a0 + p) lim nx o = .ok (o ++ n.data.toList.drop p) (nx.getD (putF n cmp known p T out).1.length)) ∧
    (∀ x ∈ (putF n cmp known p T out).2, x ∈ T ∨ RdP (putF n cmp known p T out).1 x.1 x.2) := by
  intro k
  induction k using Nat.strongRecOn with
  | _ k ih =>
    intro p T out hk hsc hout hlow hT
    have hp := scan_lt hsc
    by_cases h0 : bt n p = 0
    · rw [putF_end h0]
      have hr := scan_root hsc h0
      refine ⟨⟨[0], rfl⟩, fun lim nx o _ _ => ?_, fun x hx => .inl hx⟩
      have hb : bt ⟨(out ++ [0]).toArray⟩ (a0 + p) = 0 := by rw [← hout, show out.length = out.length + 0 by rfl, bt_right]; rfl
      rw [rd_end (by rw [size_mk]; simp; omega) hb, drop_root hsc h0]
      simp [hout]
    · obtain ⟨h1, h2, h3⟩ := scan_lab hsc h0
      cases hg : tget T (suf n p) with
      | some j =>
        have hm := tget_mem hg
        have hj := hlow _ hm
        rcases hT _ hm with ⟨hja, hrp⟩ | hbad
        · cases cmp with
          | true =>
            rw [putF_ptr hp h0 hg rfl]
            refine ⟨⟨ptrB j, rfl⟩, fun lim nx o hlim ho => ?_, fun x hx => .inl hx⟩
            obtain ⟨e1, e2⟩ := ptr_at out j hj
            rw [← hout]
            rw [rd_ptr (by rw [e1]; omega) (by rw [size_mk]; simp [ptrB]) (by rw [e2]; simp at hja; omega), e2]
            have := (hrp.more (ptrB j)).2 (nx.getD (out.length + 2)) o (by rw [suf_sz]; exact ho)
            simp only at this
            rw [this, suf_list]
            simp [ptrB]
          | false =>
            have IH := ih (n.size - (p + 1 + bt n p)) (by omega) (p + 1 + bt n p) (tadd n known p T out.length) (out ++ lab n p) rfl h3 (by rw [List.length_append, lab_len n p (by omega)]; omega) (tadd_low hlow _ _ _ _) (by
              unfold tadd
              rw [hg, if_neg (by simp)]
              intro x hx
              rcases hT x hx with ⟨h5, h6⟩ | h5
              · exact .inl ⟨h5, h6.more _⟩
              · exact .inr (by omega))
            rw [← putF_step hp h0 (.inr rfl)] at IH
            generalize hR : putF n false known p T out = R at *
            obtain ⟨⟨c, hc⟩, i2, i3⟩ := IH
            refine ⟨⟨lab n p ++ c, by rw [hc, List.append_assoc]⟩, fun lim nx o hlim ho => ?_, fun x hx => ?_⟩
            · have hb := lab_bt (b := out) (c := c) (n := n) (p := p) (by omega)
              have hl := lab_lab (b := out) (c := c) (n := n) (p := p) (by omega)
              rw [← hc, hout] at hb hl
              rw [rd_label (by rw [hb]; exact h0) (by rw [hb]; omega) (by rw [hb, size_mk, hc]; simp [lab_len n p (by omega : p + 1 + bt n p ≤ n.size)]; omega) (by rw [hb]; omega), hb, hl]
              have := i2 lim nx (o ++ lab n p) hlim (by rw [List.length_append, lab_len n p (by omega)]; omega)
              rw [show a0 + p + 1 + bt n p = a0 + (p + 1 + bt n p) by omega, this, List.append_assoc, drop_lab]
            · rcases i3 x hx with h7 | h7
              · unfold tadd at h7
                rw [hg, if_neg (by simp)] at h7
                exact .inl h7
              · exact .inr h7
        · rw [suf_sz] at hbad
          exact absurd hbad (by omega)
      | none =>
        have IH := ih (n.size - (p + 1 + bt n p)) (by omega) (p + 1 + bt n p) (tadd n known p T out.length) (out ++ lab n p) rfl h3 (by rw [List.length_append, lab_len n p (by omega)]; omega) (tadd_low hlow _ _ _ _) (by
          intro x hx
          unfold tadd at hx
          split at hx
          · rcases List.mem_append.1 hx with hx | hx
            · rcases hT x hx with ⟨h5, h6⟩ | h5
              · exact .inl ⟨h5, h6.more _⟩
              · exact .inr (by omega)
            · simp at hx
              subst hx
              exact .inr (by rw [suf_sz]; omega)
          · rcases hT x hx with ⟨h5, h6⟩ | h5
            · exact .inl ⟨h5, h6.more _⟩
            · exact .inr (by omega))
        rw [← putF_step hp h0 (.inl hg)] at IH
        generalize hR : putF n cmp known p T out = R at *
        obtain ⟨⟨c, hc⟩, i2, i3⟩ := IH
        have main : ∀ lim nx o, a0 ≤ lim → List.length o + (n.size - p) ≤ 255 → rdF ⟨R.1.toArray⟩ (a0 + p) lim nx o = .ok (o ++ n.data.toList.drop p) (nx.getD R.1.length) := by
          intro lim nx o hlim ho
          have hb := lab_bt (b := out) (c := c) (n := n) (p := p) (by omega)
          have hl := lab_lab (b := out) (c := c) (n := n) (p := p) (by omega)
          rw [← hc, hout] at hb hl
          rw [rd_label (by rw [hb]; exact h0) (by rw [hb]; omega) (by rw [hb, size_mk, hc]; simp [lab_len n p (by omega : p + 1 + bt n p ≤ n.size)]; omega) (by rw [hb]; omega), hb, hl]
          have := i2 lim nx (o ++ lab n p) hlim (by rw [List.length_append, lab_len n p (by omega)]; omega)
          rw [show a0 + p + 1 + bt n p = a0 + (p + 1 + bt n p) by omega, this, List.append_assoc, drop_lab]
        refine ⟨⟨lab n p ++ c, by rw [hc, List.append_assoc]⟩, main, fun x hx => ?_⟩
        rcases i3 x hx with h7 | h7
        · unfold tadd at h7
          split at h7
          · rcases List.mem_append.1 h7 with h7 | h7
            · exact .inl h7
            · simp at h7
              subst h7
              refine .inr ⟨by rw [hc]; simp; have := lab_len n p (by omega : p + 1 + bt n p ≤ n.size); omega, fun q o ho => ?_⟩
              simp only at ho ⊢
              rw [suf_sz] at ho
              rw [hout, main (a0 + p) (some q) o (by omega) ho, suf_list]
              rfl
          · exact .inl h7
        · exact .inr h7
/-- A table of which every ending may be read in the bytes. -/
def TOk (b : List UInt8) (T : Tb) : Prop := Low T ∧ ∀ x ∈ T, RdP b x.1 x.2
theorem TOk.nil (b : List UInt8) : TOk b [] := ⟨Low.nil, fun x hx => by cases hx⟩
theorem TOk.more {b : List UInt8} {T : Tb} (h : TOk b T) (c : List UInt8) : TOk (b ++ c) T := ⟨h.1, fun x hx => (h.2 x hx).more c⟩
theorem putF_low (n : ByteArray) (cmp known : Bool) : ∀ k p (T : Tb) (out : List UInt8), n.size - p = k → Low T → Low (putF n cmp known p T out).2 := by
  intro k
  induction k using Nat.strongRecOn with
  | _ k ih =>
    intro p T out hk hl
    rw [putF]
    split
    · split
      · exact hl
      · exact ih (n.size - (p + 1 + bt n p)) (by omega) _ _ _ rfl (tadd_low hl _ _ _ _)
    · exact hl
theorem putF_few (n : ByteArray) (cmp known : Bool) : ∀ k p (T : Tb) (out : List UInt8), n.size - p = k → (putF n cmp known p T out).2.length ≤ T.length + (n.size - p) := by
  intro k
  induction k using Nat.strongRecOn with
  | _ k ih =>
    intro p T out hk
    rw [putF]
    split
    · split
      · simp
      · have := ih (n.size - (p + 1 + bt n p)) (by omega) (p + 1 + bt n p) (tadd n known p T out.length) (out ++ lab n p) rfl
        have := tadd_len n known p T out.length
        omega
    · simp
theorem put_ok {n : ByteArray} (cmp known : Bool) {T : Tb} {b : List UInt8} (hn : may n = true) (hT : TOk b T) :
    (∃ c, (putF n cmp known 0 T b).1 = b ++ c) ∧ rdAt ⟨(putF n cmp known 0 T b).1.toArray⟩ (b.length : Int) = .ok n.data.toList (putF n cmp known 0 T b).1.length ∧ TOk (putF n cmp known 0 T b).1 (putF n cmp known 0 T b).2 := by
  obtain ⟨h1, h2⟩ := may_size hn
  obtain ⟨⟨c, hc⟩, i2, i3⟩ := put_all n cmp known b.length _ 0 T b rfl h2 (by simp) hT.1 (fun x hx => .inl ⟨(hT.2 x hx).1, hT.2 x hx⟩)
  refine ⟨⟨c, hc⟩, ?_, putF_low n cmp known _ 0 T b rfl hT.1, fun x hx => ?_⟩
  · rw [rdAt_in (by omega) (by rw [size_mk, hc]; simp; omega)]
    have := i2 b.length none [] (Nat.le_refl _) (by simp; omega)
    simpa using this
  · rcases i3 x hx with h3 | h3
    · rw [hc]; exact (hT.2 x h3).more c
    · exact h3
/-- What is put whole. -/
theorem put_whole (n : ByteArray) (cmp known : Bool) : ∀ k p (T : Tb) (out : List UInt8), n.size - p = k → scan n p = true → (cmp = false ∨ ∀ x ∈ T, n.size - p < x.1.size) → (putF n cmp known p T out).1 = out ++ n.data.toList.drop p := by
  intro k
  induction k using Nat.strongRecOn with
  | _ k ih =>
    intro p T out hk hsc hT
    have hp := scan_lt hsc
    by_cases h0 : bt n p = 0
    · rw [putF_end h0, drop_root hsc h0]
    · obtain ⟨h1, h2, h3⟩ := scan_lab hsc h0
      have hc : tget T (suf n p) = none ∨ cmp = false := by
        rcases hT with h | h
        · exact .inr h
        · left
          cases hg : tget T (suf n p) with
          | none => rfl
          | some j =>
            have := h _ (tget_mem hg)
            rw [suf_sz] at this
            exact absurd this (by omega)
      rw [putF_step hp h0 hc, ih (n.size - (p + 1 + bt n p)) (by omega) _ _ _ rfl h3 ?_, List.append_assoc, drop_lab]
      rcases hT with h | h
      · exact .inl h
      · refine .inr fun x hx => ?_
        unfold tadd at hx
        split at hx
        · rcases List.mem_append.1 hx with hx | hx
          · have := h x hx; omega
          · simp at hx
            subst hx
            rw [suf_sz]
            omega
        · have := h x hx; omega
/-- What is put is the name, or ends by a pointer ahead. -/
theorem put_shape (n : ByteArray) (cmp known : Bool) (a0 : Nat) : ∀ k p (T : Tb) (out : List UInt8), n.size - p = k → scan n p = true → Low T → (∀ x ∈ T, x.2 < a0 ∨ n.size - p < x.1.size) →
    (putF n cmp known p T out).1 = out ++ n.data.toList.drop p ∨ ∃ q j, p ≤ q ∧ q + 3 ≤ n.size ∧ j ≤ 16383 ∧ j < a0 ∧ (putF n cmp known p T out).1 = out ++ (n.data.toList.drop p).take (q - p) ++ ptrB j := by
  intro k
  induction k using Nat.strongRecOn with
  | _ k ih =>
    intro p T out hk hsc hlow hT
    have hp := scan_lt hsc
    by_cases h0 : bt n p = 0
    · exact .inl (by rw [putF_end h0, drop_root hsc h0])
    · obtain ⟨h1, h2, h3⟩ := scan_lab hsc h0
      by_cases hc : tget T (suf n p) = none ∨ cmp = false
      · rw [putF_step hp h0 hc]
        have hT' : ∀ x ∈ tadd n known p T out.length, x.2 < a0 ∨ n.size - (p + 1 + bt n p) < x.1.size := by
          intro x hx
          unfold tadd at hx
          split at hx
          · rcases List.mem_append.1 hx with hx | hx
            · rcases hT x hx with h | h
              · exact .inl h
              · exact .inr (by omega)
            · simp at hx
              subst hx
              exact .inr (by rw [suf_sz]; omega)
          · rcases hT x hx with h | h
            · exact .inl h
            · exact .inr (by omega)
        rcases ih (n.size - (p + 1 + bt n p)) (by omega) _ _ (out ++ lab n p) rfl h3 (tadd_low hlow n known p out.length) hT' with h | ⟨q, j, hq, hq3, hj, hja, h⟩
        · exact .inl (by rw [h, List.append_assoc, drop_lab])
        · refine .inr ⟨q, j, by omega, hq3, hj, hja, ?_⟩
          rw [h]
          have : lab n p ++ (n.data.toList.drop (p + 1 + bt n p)).take (q - (p + 1 + bt n p)) = (n.data.toList.drop p).take (q - p) := by
            have e1 : List.take (q - p) (lab n p) = lab n p := List.take_of_length_le (by rw [lab_len n p (by omega)]; omega)
            rw [← drop_lab (n := n) (p := p), List.take_append, e1, lab_len n p (by omega)]
            congr 2
            omega
          rw [List.append_assoc out, this]
      · cases hg : tget T (suf n p) with
        | none => exact absurd (.inl hg) hc
        | some j =>
          have hcm : cmp = true := by cases cmp <;> simp_all
          rw [putF_ptr hp h0 hg hcm]
          rcases hT _ (tget_mem hg) with h | h
          · exact .inr ⟨p, j, Nat.le_refl _, by omega, hlow _ (tget_mem hg), h, by simp⟩
          · rw [suf_sz] at h
            exact absurd h (by omega)
end Go.Proofs.YthgendgmlpaglaaDoor
namespace Go.Proofs.YthgendgmlpaglaaDoor

/-- The labels of a name, from p on. -/
def lbs (s : ByteArray) (p : Nat) : List ByteArray :=
  if _h : p < s.size ∧ ¬ bt s p = 0 then s.extract (p + 1) (p + 1 + bt s p) :: lbs s (p + 1 + bt s p) else []
termination_by s.size - p
theorem lbs_end {s : ByteArray} {p : Nat} (h0 : bt s p = 0) : lbs s p = [] := by rw [lbs, dif_neg (by omega)]
theorem lbs_step {s : ByteArray} {p : Nat} (h : p < s.size) (h0 : ¬ bt s p = 0) : lbs s p = s.extract (p + 1) (p + 1 + bt s p) :: lbs s (p + 1 + bt s p) := by rw [lbs, dif_pos ⟨h, h0⟩]
def low (c : UInt8) : UInt8 := if 65 ≤ c.toNat ∧ c.toNat ≤ 90 then c + 32 else c
def lowL (l : List UInt8) : List UInt8 := l.map low
def lowB (s : ByteArray) : ByteArray := ⟨(lowL s.data.toList).toArray⟩
def bytesF (l : List ByteArray) : List UInt8 := (l.flatMap fun x => UInt8.ofNat x.size :: x.data.toList) ++ [0]
def foldB (s : ByteArray) : ByteArray := if may s = true then lowB s else ⟨#[]⟩
theorem foldB_yes {s : ByteArray} (h : may s = true) : foldB s = lowB s := if_pos h
theorem foldB_no {s : ByteArray} (h : may s = false) : foldB s = ⟨#[]⟩ := if_neg (by simp [h])
theorem lowB_size (s : ByteArray) : (lowB s).size = s.size := by unfold lowB lowL; rw [size_mk, List.length_map]; exact nlen s
theorem low_small (k : Nat) (h : k ≤ 63) : low (UInt8.ofNat k) = UInt8.ofNat k := by
  unfold low
  rw [if_neg]
  intro h2
  have : (UInt8.ofNat k).toNat = k := by simp; omega
  omega
theorem lab_cons' (s : ByteArray) (p : Nat) (h : p < s.size) : lab s p = UInt8.ofNat (bt s p) :: (s.extract (p + 1) (p + 1 + bt s p)).data.toList := by
  rw [lab_eq', Go.Lib.extract_data]
  rw [List.drop_eq_getElem_cons (by rw [nlen]; exact h), show 1 + bt s p = bt s p + 1 by omega, List.take_succ_cons]
  congr 1
  · unfold bt
    rw [List.getElem?_eq_getElem (by rw [nlen]; exact h)]
    simp
  · congr 1
    omega
theorem ext_len {s : ByteArray} {p : Nat} (h : p + 1 + bt s p ≤ s.size) : (s.extract (p + 1) (p + 1 + bt s p)).size = bt s p := by rw [ByteArray.size_extract]; omega
theorem bytes_lbs {s : ByteArray} : ∀ k p, s.size - p = k → scan s p = true → bytesF (lbs s p) = s.data.toList.drop p := by
  intro k
  induction k using Nat.strongRecOn with
  | _ k ih =>
    intro p hk h
    by_cases h0 : bt s p = 0
    · rw [lbs_end h0, drop_root h h0]; rfl
    · have hl := scan_lab h h0
      have hp := scan_lt h
      rw [lbs_step hp h0, ← drop_lab, ← ih (s.size - (p + 1 + bt s p)) (by omega) _ rfl hl.2.2]
      unfold bytesF
      rw [List.flatMap_cons, List.append_assoc, lab_cons' s p hp, ext_len (by omega)]
theorem bytes_low {s : ByteArray} : ∀ k p, s.size - p = k → scan s p = true → bytesF ((lbs s p).map lowB) = lowL (s.data.toList.drop p) := by
  intro k
  induction k using Nat.strongRecOn with
  | _ k ih =>
    intro p hk h
    by_cases h0 : bt s p = 0
    · rw [lbs_end h0, drop_root h h0]; rfl
    · have hl := scan_lab h h0
      have hp := scan_lt h
      rw [lbs_step hp h0, ← drop_lab]
      unfold lowL
      rw [List.map_append]
      have ih' := ih (s.size - (p + 1 + bt s p)) (by omega) _ rfl hl.2.2
      unfold lowL at ih'
      rw [← ih']
      unfold bytesF
      rw [List.map_cons, List.flatMap_cons, List.append_assoc, lab_cons' s p hp, List.map_cons, low_small _ hl.1, lowB_size, ext_len (by omega)]
      rfl
theorem fold_bytes {s : ByteArray} (h : may s = true) : (⟨(bytesF ((lbs s 0).map lowB)).toArray⟩ : ByteArray) = foldB s := by
  rw [foldB_yes h, bytes_low _ 0 rfl (may_size h).2]
  rfl
theorem lbs_len {s : ByteArray} : ∀ k p, s.size - p = k → (lbs s p).length ≤ s.size - p := by
  intro k
  induction k using Nat.strongRecOn with
  | _ k ih =>
    intro p hk
    by_cases h : p < s.size ∧ ¬ bt s p = 0
    · rw [lbs_step h.1 h.2]
      have := ih (s.size - (p + 1 + bt s p)) (by omega) _ rfl
      simp only [List.length_cons]
      omega
    · rw [lbs, dif_neg h]; simp
theorem lbs_size {s : ByteArray} : ∀ k p, s.size - p = k → scan s p = true → ∀ x ∈ lbs s p, x.size ≤ 63 ∧ 0 < x.size := by
  intro k
  induction k using Nat.strongRecOn with
  | _ k ih =>
    intro p hk h x hx
    by_cases h0 : bt s p = 0
    · rw [lbs_end h0] at hx; cases hx
    · have hl := scan_lab h h0
      rw [lbs_step (scan_lt h) h0] at hx
      rcases List.mem_cons.1 hx with rfl | hx
      · rw [ext_len (by omega)]; omega
      · exact ih (s.size - (p + 1 + bt s p)) (by omega) _ rfl hl.2.2 x hx
theorem bytesF_snoc (l : List ByteArray) (x : ByteArray) : ((l ++ [x]).flatMap fun x => UInt8.ofNat x.size :: x.data.toList) = (l.flatMap fun x => UInt8.ofNat x.size :: x.data.toList) ++ (UInt8.ofNat x.size :: x.data.toList) := by simp
end Go.Proofs.YthgendgmlpaglaaDoor
