/-
  Names (layer 1): labels, folded bytes.
-/
import Derived.Test.YtijjfdmklbncbaaDoorCoPl
namespace Go.Proofs.YtijjfdmklbncbaaDoor

/-- The labels of a name, from p on. -/
def lbs (s : ByteArray) (p : Nat) : List ByteArray :=
  if _h : p < s.size ∧ ¬ bt s p = 0 then s.extract (p + 1) (p + 1 + bt s p) :: lbs s (p + 1 + bt s p) else []
termination_by s.size - p
theorem lbs_end {s : ByteArray} {p : Nat} (h0 : bt s p = 0) : lbs s p = [] := by rw [lbs, dif_neg (by omega)]
theorem lbs_step {s : ByteArray} {p : Nat} (h : p < s.size) (h0 : ¬ bt s p = 0) : lbs s p = s.extract (p + 1) (p + 1 + bt s p) :: lbs s (p + 1 + bt s p) := by rw [lbs, dif_pos ⟨h, h0⟩]
def low (c : UInt8) : UInt8 := if 65 ≤ c.toNat ∧ c.toNat ≤ 90 then c + 32 else c
def lowL (l : List UInt8) : List UInt8 := l.map low
def lowB (s : ByteArray) : ByteArray := ⟨(lowL s.data.toList).toArray⟩
def bytesF (l : List ByteArray) : List UInt8 := (l.flatMap fun x => UInt8.ofNat x.size :: x.data.toList) ++ [0]
def foldB (s : ByteArray) : ByteArray := if may s = true then lowB s else ⟨#[]⟩
theorem foldB_yes {s : ByteArray} (h : may s = true) : foldB s = lowB s := if_pos h
theorem foldB_no {s : ByteArray} (h : may s = false) : foldB s = ⟨#[]⟩ := if_neg (by simp [h])
theorem lowB_size (s : ByteArray) : (lowB s).size = s.size := by unfold lowB lowL; rw [size_mk, List.length_map]; exact nlen s
theorem low_small (k : Nat) (h : k ≤ 63) : low (UInt8.ofNat k) = UInt8.ofNat k := by
  unfold low
  rw [if_neg]
  intro h2
  have : (UInt8.ofNat k).toNat = k := by simp; omega
  omega
theorem lab_cons' (s : ByteArray) (p : Nat) (h : p < s.size) : lab s p = UInt8.ofNat (bt s p) :: (s.extract (p + 1) (p + 1 + bt s p)).data.toList := by
  rw [lab_eq', Go.Lib.extract_data]
  rw [List.drop_eq_getElem_cons (by rw [nlen]; exact h), show 1 + bt s p = bt s p + 1 by omega, List.take_succ_cons]
  congr 1
  · unfold bt
    rw [List.getElem?_eq_getElem (by rw [nlen]; exact h)]
    simp
  · congr 1
    omega
theorem ext_len {s : ByteArray} {p : Nat} (h : p + 1 + bt s p ≤ s.size) : (s.extract (p + 1) (p + 1 + bt s p)).size = bt s p := by rw [ByteArray.size_extract]; omega
theorem bytes_lbs {s : ByteArray} : ∀ k p, s.size - p = k → scan s p = true → bytesF (lbs s p) = s.data.toList.drop p := by
  intro k
  induction k using Nat.strongRecOn with
  | _ k ih =>
    intro p hk h
    by_cases h0 : bt s p = 0
    · rw [lbs_end h0, drop_root h h0]; rfl
    · have hl := scan_lab h h0
      have hp := scan_lt h
      rw [lbs_step hp h0, ← drop_lab, ← ih (s.size - (p + 1 + bt s p)) (by omega) _ rfl hl.2.2]
      unfold bytesF
      rw [List.flatMap_cons, List.append_assoc, lab_cons' s p hp, ext_len (by omega)]
theorem bytes_low {s : ByteArray} : ∀ k p, s.size - p = k → scan s p = true → bytesF ((lbs s p).map lowB) = lowL (s.data.toList.drop p) := by
  intro k
  induction k using Nat.strongRecOn with
  | _ k ih =>
    intro p hk h
    by_cases h0 : bt s p = 0
    · rw [lbs_end h0, drop_root h h0]; rfl
    · have hl := scan_lab h h0
      have hp := scan_lt h
      rw [lbs_step hp h0, ← drop_lab]
      unfold lowL
      rw [List.map_append]
      have ih' := ih (s.size - (p + 1 + bt s p)) (by omega) _ rfl hl.2.2
      unfold lowL at ih'
      rw [← ih']
      unfold bytesF
      rw [List.map_cons, List.flatMap_cons, List.append_assoc, lab_cons' s p hp, List.map_cons, low_small _ hl.1, lowB_size, ext_len (by omega)]
      rfl
theorem fold_bytes {s : ByteArray} (h : may s = true) : (⟨(bytesF ((lbs s 0).map lowB)).toArray⟩ : ByteArray) = foldB s := by
  rw [foldB_yes h, bytes_low _ 0 rfl (may_size h).2]
  rfl
theorem lbs_len {s : ByteArray} : ∀ k p, s.size - p = k → (lbs s p).length ≤ s.size - p := by
  intro k
  induction k using Nat.strongRecOn with
  | _ k ih =>
    intro p hk
    by_cases h : p < s.size ∧ ¬ bt s p = 0
    · rw [lbs_step h.1 h.2]
      have := ih (s.size - (p + 1 + bt s p)) (by omega) _ rfl
      simp only [List.length_cons]
      omega
    · rw [lbs, dif_neg h]; simp
theorem lbs_size {s : ByteArray} : ∀ k p, s.size - p = k → scan s p = true → ∀ x ∈ lbs s p, x.size ≤ 63 ∧ 0 < x.size := by
  intro k
  induction k using Nat.strongRecOn with
  | _ k ih =>
    intro p hk h x hx
    by_cases h0 : bt s p = 0
    · rw [lbs_end h0] at hx; cases hx
    · have hl := scan_lab h h0
      rw [lbs_step (scan_lt h) h0] at hx
      rcases List.mem_cons.1 hx with rfl | hx
      · rw [ext_len (by omega)]; omega
      · exact ih (s.size - (p + 1 + bt s p)) (by omega) _ rfl hl.2.2 x hx
theorem bytesF_snoc (l : List ByteArray) (x : ByteArray) : ((l ++ [x]).flatMap fun x => UInt8.ofNat x.size :: x.data.toList) = (l.flatMap fun x => UInt8.ofNat x.size :: x.data.toList) ++ (UInt8.ofNat x.size :: x.data.toList) := by simp
end Go.Proofs.YtijjfdmklbncbaaDoor
