/-
  Layers 1 and 4 in plain words: what bytes are a name; a table of endings; what putting a name gives.
-/
import Derived.Test.YtijjfdmklbncbaaDoorCoNum
namespace Go.Proofs.YtijjfdmklbncbaaDoor

/-- From this place on, labels, then the root. -/
def scan (s : ByteArray) (p : Nat) : Bool :=
  if _h : p < s.size then
    if bt s p = 0 then decide (p + 1 = s.size)
    else if bt s p ≤ 63 then scan s (p + 1 + bt s p)
    else false
  else false
termination_by s.size - p
/-- Are bytes a name? -/
def may (s : ByteArray) : Bool := decide (s.size ≤ 255) && scan s 0
theorem scan_end {s : ByteArray} {p : Nat} (h : p < s.size) (h0 : bt s p = 0) : scan s p = decide (p + 1 = s.size) := by rw [scan, dif_pos h, if_pos h0]
theorem scan_step {s : ByteArray} {p : Nat} (h : p < s.size) (h0 : ¬ bt s p = 0) (h1 : bt s p ≤ 63) : scan s p = scan s (p + 1 + bt s p) := by rw [scan, dif_pos h, if_neg h0, if_pos h1]
theorem scan_big {s : ByteArray} {p : Nat} (h : p < s.size) (h1 : 63 < bt s p) : scan s p = false := by rw [scan, dif_pos h, if_neg (by omega), if_neg (by omega)]
theorem scan_out {s : ByteArray} {p : Nat} (h : s.size ≤ p) : scan s p = false := by rw [scan, dif_neg (by omega)]
theorem scan_lt {s : ByteArray} {p : Nat} (h : scan s p = true) : p < s.size := by
  rcases Nat.lt_or_ge p s.size with h1 | h1
  · exact h1
  · rw [scan_out h1] at h; cases h
theorem scan_lab {s : ByteArray} {p : Nat} (h : scan s p = true) (h0 : ¬ bt s p = 0) : bt s p ≤ 63 ∧ p + 1 + bt s p < s.size ∧ scan s (p + 1 + bt s p) = true := by
  have hl := scan_lt h
  by_cases h1 : bt s p ≤ 63
  · rw [scan_step hl h0 h1] at h
    exact ⟨h1, scan_lt h, h⟩
  · rw [scan_big hl (by omega)] at h; cases h
theorem scan_root {s : ByteArray} {p : Nat} (h : scan s p = true) (h0 : bt s p = 0) : p + 1 = s.size := by
  rw [scan_end (scan_lt h) h0] at h
  simpa using h
theorem may_size {s : ByteArray} (h : may s = true) : s.size ≤ 255 ∧ scan s 0 = true := by simpa [may] using h

/-- A table of endings. -/
abbrev Tb := List (ByteArray × Nat)
def tget (T : Tb) (s : ByteArray) : Option Nat := (T.find? fun x => decide (x.1 = s)).map (·.2)
theorem tget_nil (s : ByteArray) : tget [] s = none := rfl
theorem tget_snoc_same {T : Tb} {s : ByteArray} {p : Nat} (h : tget T s = none) : tget (T ++ [(s, p)]) s = some p := by
  unfold tget at *
  simp only [Option.map_eq_none_iff] at h
  rw [List.find?_append, h]
  simp
theorem tget_snoc_other {T : Tb} {s s' : ByteArray} {p : Nat} (h : s' ≠ s) : tget (T ++ [(s, p)]) s' = tget T s' := by
  unfold tget
  rw [List.find?_append]
  have : ([(s, p)] : Tb).find? (fun x => decide (x.1 = s')) = none := by simp; exact fun e => h e.symm
  rw [this]
  simp
theorem tget_mem {T : Tb} {s : ByteArray} {p : Nat} (h : tget T s = some p) : (s, p) ∈ T := by
  unfold tget at h
  rw [Option.map_eq_some_iff] at h
  obtain ⟨x, hx, rfl⟩ := h
  have h1 := List.mem_of_find?_eq_some hx
  have h2 : x.1 = s := by simpa using List.find?_some hx
  rw [← h2]
  exact h1
/-- All places may be pointed to. -/
def Low (T : Tb) : Prop := ∀ x ∈ T, x.2 ≤ 16383
theorem Low.nil : Low [] := by intro x hx; cases hx
theorem Low.snoc {T : Tb} (h : Low T) {s : ByteArray} {p : Nat} (hp : p ≤ 16383) : Low (T ++ [(s, p)]) := by
  intro x hx
  rcases List.mem_append.1 hx with hx | hx
  · exact h x hx
  · simp at hx; subst hx; exact hp
/-- The ending at a place. -/
def suf (n : ByteArray) (p : Nat) : ByteArray := n.extract p n.size
/-- The table behind a label. -/
def tadd (n : ByteArray) (known : Bool) (p : Nat) (T : Tb) (len : Nat) : Tb :=
  if known = true ∧ tget T (suf n p) = none ∧ len ≤ 16383 then T ++ [(suf n p, len)] else T
def ptrB (k : Nat) : List UInt8 := [UInt8.ofNat (192 + k / 256), UInt8.ofNat (k % 256)]
/-- What putting a name from a place on gives: the bytes, the table. -/
def putF (n : ByteArray) (cmp known : Bool) (p : Nat) (T : Tb) (out : List UInt8) : List UInt8 × Tb :=
  if _h : p < n.size ∧ ¬ bt n p = 0 then
    if (tget T (suf n p)).isSome ∧ cmp = true then (out ++ ptrB ((tget T (suf n p)).getD 0), T)
    else putF n cmp known (p + 1 + bt n p) (tadd n known p T out.length) (out ++ lab n p)
  else (out ++ [0], T)
termination_by n.size - p
theorem putF_end {n : ByteArray} {cmp known : Bool} {p : Nat} {T : Tb} {out : List UInt8} (h0 : bt n p = 0) : putF n cmp known p T out = (out ++ [0], T) := by rw [putF, dif_neg (by omega)]
theorem putF_ptr {n : ByteArray} {cmp known : Bool} {p : Nat} {T : Tb} {out : List UInt8} (h : p < n.size) (h0 : ¬ bt n p = 0) {k : Nat} (hk : tget T (suf n p) = some k) (hc : cmp = true) : putF n cmp known p T out = (out ++ ptrB k, T) := by
  rw [putF, dif_pos ⟨h, h0⟩, hk, if_pos ⟨rfl, hc⟩]; rfl
theorem putF_step {n : ByteArray} {cmp known : Bool} {p : Nat} {T : Tb} {out : List UInt8} (h : p < n.size) (h0 : ¬ bt n p = 0) (hc : tget T (suf n p) = none ∨ cmp = false) : putF n cmp known p T out = putF n cmp known (p + 1 + bt n p) (tadd n known p T out.length) (out ++ lab n p) := by
  rw [putF, dif_pos ⟨h, h0⟩, if_neg]
  rintro ⟨h1, h2⟩
  rcases hc with hc | hc
  · rw [hc] at h1; cases h1
  · rw [hc] at h2; cases h2
theorem tadd_len (n : ByteArray) (known : Bool) (p : Nat) (T : Tb) (len : Nat) : (tadd n known p T len).length ≤ T.length + 1 := by
  unfold tadd; split
  · simp
  · omega
theorem tadd_low {T : Tb} (h : Low T) (n : ByteArray) (known : Bool) (p len : Nat) : Low (tadd n known p T len) := by
  unfold tadd; split
  · rename_i h1; exact h.snoc h1.2.2
  · exact h
end Go.Proofs.YtijjfdmklbncbaaDoor
