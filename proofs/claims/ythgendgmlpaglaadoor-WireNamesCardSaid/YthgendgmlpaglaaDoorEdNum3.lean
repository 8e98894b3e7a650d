/-
  What is written of options is read as it was, and the other way: plain.
-/
import Derived.Test.YthgendgmlpaglaaDoorA11
namespace Go.Proofs.YthgendgmlpaglaaDoor
open Go.RowKit

theorem be_two (x : Nat) (h : x < 65536) : be (enc 2 x) = x := by
  rw [enc_two]
  simp only [be, List.foldl_cons, List.foldl_nil, UInt8.toNat_ofNat']
  omega
theorem num_two_at (l r : List UInt8) (x : Nat) (h : x < 65536) : num ⟨(l ++ (enc 2 x ++ r)).toArray⟩ l.length 2 = x := by
  unfold num
  rw [show (⟨(l ++ (enc 2 x ++ r)).toArray⟩ : ByteArray).data.toList = l ++ (enc 2 x ++ r) from rfl, List.drop_left, List.take_left' (enc_len 2 x), be_two x h]
theorem enc_be (l : List UInt8) (h : l.length = 2) : enc 2 (be l) = l := by
  match l, h with
  | [a, b], _ =>
    have ha := a.toNat_lt
    have hb := b.toNat_lt
    have e : be [a, b] = a.toNat * 256 + b.toNat := by simp [be]
    rw [e, enc_two]
    rw [show (a.toNat * 256 + b.toNat) / 256 % 256 = a.toNat by omega, show (a.toNat * 256 + b.toNat) % 256 = b.toNat by omega, UInt8.ofNat_toNat, UInt8.ofNat_toNat]
theorem enc_num2 (s : ByteArray) (p : Nat) (h : p + 2 ≤ s.size) : enc 2 (num s p 2) = (s.data.toList.drop p).take 2 := by
  have hl : s.data.toList.length = s.size := Array.length_toList
  unfold num
  exact enc_be _ (by rw [List.length_take, List.length_drop]; omega)
theorem ext_mid (a b c : List UInt8) : (⟨(a ++ (b ++ c)).toArray⟩ : ByteArray).extract a.length (a.length + b.length) = ⟨b.toArray⟩ := by
  apply ByteArray.ext
  rw [ByteArray.data_extract]
  apply Array.ext'
  rw [Array.toList_extract, List.extract_eq_take_drop]
  show ((a ++ (b ++ c)).drop a.length).take (a.length + b.length - a.length) = b
  rw [List.drop_left, Nat.add_sub_cancel_left, List.take_left]
theorem ba_mk (s : ByteArray) : (⟨s.data.toList.toArray⟩ : ByteArray) = s := by
  obtain ⟨⟨l⟩⟩ := s
  rfl

theorem ops_write (l : List Opt) : ∀ pre : List UInt8, (∀ o ∈ l, o.1 < 65536 ∧ o.2.size < 65536) → opsAt ⟨(pre ++ opsB l).toArray⟩ pre.length = some l := by
  induction l with
  | nil =>
    intro pre _
    refine opsAt_end ?_
    show (pre ++ opsB []).toArray.size ≤ pre.length
    simp [opsB]
  | cons o l ih =>
    intro pre h
    obtain ⟨c, s⟩ := o
    obtain ⟨hc, hs⟩ := h (c, s) (List.mem_cons_self ..)
    have e0 : pre ++ opsB ((c, s) :: l) = pre ++ (enc 2 c ++ (enc 2 s.size ++ (s.data.toList ++ opsB l))) := by
      have : opsB ((c, s) :: l) = opB (c, s) ++ opsB l := rfl
      rw [this]
      simp [opB]
    have hsl : s.data.toList.length = s.size := Array.length_toList
    have e1 := num_two_at pre (enc 2 s.size ++ (s.data.toList ++ opsB l)) c hc
    have e2 := num_two_at (pre ++ enc 2 c) (s.data.toList ++ opsB l) s.size hs
    have e3 := ext_mid (pre ++ enc 2 c ++ enc 2 s.size) s.data.toList (opsB l)
    have e4 := ih (pre ++ enc 2 c ++ enc 2 s.size ++ s.data.toList) (fun o ho => h o (List.mem_cons_of_mem _ ho))
    simp only [List.append_assoc, List.length_append, enc_len, hsl, ba_mk] at e1 e2 e3 e4
    rw [e0]
    have hz : (⟨(pre ++ (enc 2 c ++ (enc 2 s.size ++ (s.data.toList ++ opsB l)))).toArray⟩ : ByteArray).size = pre.length + 4 + s.size + (opsB l).length := by
      show (pre ++ (enc 2 c ++ (enc 2 s.size ++ (s.data.toList ++ opsB l)))).toArray.size = _
      simp only [List.size_toArray, List.length_append, enc_len, hsl]
      omega
    generalize (⟨(pre ++ (enc 2 c ++ (enc 2 s.size ++ (s.data.toList ++ opsB l)))).toArray⟩ : ByteArray) = t at *
    rw [opsAt_step (by omega) (by rw [e2]; omega), e1, e2]
    rw [show pre.length + (2 + (2 + s.size)) = pre.length + 4 + s.size by omega] at e4
    rw [show pre.length + (2 + 2) = pre.length + 4 by omega] at e3
    rw [e4, e3]
    rfl
theorem ops_back (l : List Opt) (h : ∀ o ∈ l, o.1 < 65536 ∧ o.2.size < 65536) : opsAt ⟨(opsB l).toArray⟩ 0 = some l := ops_write l [] h

theorem split4 (L : List UInt8) (n : Nat) : L.take 2 ++ ((L.drop 2).take 2 ++ ((L.drop 4).take n ++ L.drop (4 + n))) = L := by
  have e1 : (L.drop 4).take n ++ L.drop (4 + n) = L.drop 4 := by rw [← List.drop_drop, List.take_append_drop]
  have e2 : (L.drop 2).take 2 ++ L.drop 4 = L.drop 2 := by rw [show L.drop 4 = (L.drop 2).drop 2 by rw [List.drop_drop], List.take_append_drop]
  rw [e1, e2, List.take_append_drop]
theorem opsF_read (s : ByteArray) : ∀ (f p : Nat) (l : List Opt), p ≤ s.size → opsF s f p = some l → opsB l = s.data.toList.drop p ∧ ∀ o ∈ l, o.1 < 65536 ∧ o.2.size < 65536
  | 0, p, l, hp, h => by
    have hl : s.data.toList.length = s.size := Array.length_toList
    rw [opsF] at h
    split at h
    · cases h
    · cases h
      exact ⟨by rw [List.drop_of_length_le (by omega)]; rfl, by simp⟩
  | f + 1, p, l, hp, h => by
    have hl : s.data.toList.length = s.size := Array.length_toList
    rw [opsF_succ] at h
    split at h
    · split at h
      · rename_i h1 h2
        cases hr : opsF s f (p + 4 + num s (p + 2) 2) with
        | none => rw [hr] at h; cases h
        | some r =>
          rw [hr] at h
          obtain ⟨i1, i2⟩ := opsF_read s f _ r h2.2 hr
          cases h
          have n1 := num_lt s p 2
          have n2 := num_lt s (p + 2) 2
          have hz : (s.extract (p + 4) (p + 4 + num s (p + 2) 2)).size = num s (p + 2) 2 := by rw [ByteArray.size_extract]; omega
          refine ⟨?_, fun o ho => ?_⟩
          · show opB (num s p 2, s.extract (p + 4) (p + 4 + num s (p + 2) 2)) ++ opsB r = _
            unfold opB
            simp only
            rw [hz, i1, enc_num2 s p (by omega), enc_num2 s (p + 2) (by omega), ByteArray.data_extract, Array.toList_extract, List.extract_eq_take_drop]
            rw [show p + 4 + num s (p + 2) 2 - (p + 4) = num s (p + 2) 2 by omega]
            have e := split4 (s.data.toList.drop p) (num s (p + 2) 2)
            simp only [List.drop_drop] at e
            rw [← Nat.add_assoc] at e
            simpa only [List.append_assoc] using e
          · rcases List.mem_cons.1 ho with rfl | ho
            · exact ⟨by omega, by simp only [hz]; omega⟩
            · exact i2 o ho
      · cases h
    · cases h
      exact ⟨by rw [List.drop_of_length_le (by omega)]; rfl, by simp⟩
theorem ops_read {s : ByteArray} {l : List Opt} (h : opsAt s 0 = some l) : opsB l = s.data.toList ∧ ∀ o ∈ l, o.1 < 65536 ∧ o.2.size < 65536 := by
  have := opsF_read s _ 0 l (by omega) h
  simpa using this
end Go.Proofs.YthgendgmlpaglaaDoor
