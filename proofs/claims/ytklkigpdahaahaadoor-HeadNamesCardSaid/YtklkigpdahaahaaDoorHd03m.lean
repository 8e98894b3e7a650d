/-
  What Write writes Read reads, and the other way: plain.
-/
import Derived.Test.YtklkigpdahaahaaDoorHd03f
import Derived.Test.YtklkigpdahaahaaDoorHd03g
import Derived.Test.YtklkigpdahaahaaDoorHd03l
namespace Go.Proofs.YtklkigpdahaahaaDoor
open Go.RowKit

theorem be_enc2 (x : Nat) (h : x < 65536) : be (enc 2 x) = x := by
  rw [enc_two]
  simp only [be, List.foldl_cons, List.foldl_nil, UInt8.toNat_ofNat']
  omega
theorem num_at (l r : List UInt8) (x : Nat) (h : x < 65536) : num ⟨(l ++ (enc 2 x ++ r)).toArray⟩ l.length 2 = x := by
  unfold num
  rw [show (⟨(l ++ (enc 2 x ++ r)).toArray⟩ : ByteArray).data.toList = l ++ (enc 2 x ++ r) from rfl, List.drop_left, List.take_left' (enc_len 2 x), be_enc2 x h]
theorem wr_num (H : Hd) (a b c d : Int) (hi : H.id < 65536) (h : okW H a b c d) :
    num ⟨(wrL H a b c d).toArray⟩ 0 2 = H.id ∧ num ⟨(wrL H a b c d).toArray⟩ 2 2 = flagsN H ∧ (num ⟨(wrL H a b c d).toArray⟩ 4 2 : Int) = a ∧ (num ⟨(wrL H a b c d).toArray⟩ 6 2 : Int) = b ∧ (num ⟨(wrL H a b c d).toArray⟩ 8 2 : Int) = c ∧ (num ⟨(wrL H a b c d).toArray⟩ 10 2 : Int) = d := by
  obtain ⟨hg, ha, hb, hc, hd⟩ := h
  have hf := flagsN_lt H hg
  have e0 := num_at [] (enc 2 (flagsN H) ++ (enc 2 a.toNat ++ (enc 2 b.toNat ++ (enc 2 c.toNat ++ enc 2 d.toNat)))) H.id hi
  have e1 := num_at (enc 2 H.id) (enc 2 a.toNat ++ (enc 2 b.toNat ++ (enc 2 c.toNat ++ enc 2 d.toNat))) (flagsN H) hf
  have e2 := num_at (enc 2 H.id ++ enc 2 (flagsN H)) (enc 2 b.toNat ++ (enc 2 c.toNat ++ enc 2 d.toNat)) a.toNat (by omega)
  have e3 := num_at (enc 2 H.id ++ enc 2 (flagsN H) ++ enc 2 a.toNat) (enc 2 c.toNat ++ enc 2 d.toNat) b.toNat (by omega)
  have e4 := num_at (enc 2 H.id ++ enc 2 (flagsN H) ++ enc 2 a.toNat ++ enc 2 b.toNat) (enc 2 d.toNat) c.toNat (by omega)
  have e5 := num_at (enc 2 H.id ++ enc 2 (flagsN H) ++ enc 2 a.toNat ++ enc 2 b.toNat ++ enc 2 c.toNat) [] d.toNat (by omega)
  simp only [List.length_append, enc_len, List.nil_append, List.append_nil, List.append_assoc, List.length_nil, Nat.reduceAdd] at e0 e1 e2 e3 e4 e5
  unfold wrL
  simp only [List.append_assoc]
  rw [e0, e1, e2, e3, e4, e5]
  refine ⟨rfl, rfl, ?_, ?_, ?_, ?_⟩ <;> omega
theorem wr_len (H : Hd) (a b c d : Int) : (⟨(wrL H a b c d).toArray⟩ : ByteArray).size = 12 := by
  show (wrL H a b c d).toArray.size = 12
  simp [wrL, enc_len]
theorem wr_back (H : Hd) (a b c d : Int) (hi : H.id < 65536) (h : okW H a b c d) : fromN (num ⟨(wrL H a b c d).toArray⟩ 0 2) (num ⟨(wrL H a b c d).toArray⟩ 2 2) = H := by
  obtain ⟨h0, h1, _⟩ := wr_num H a b c d hi h
  rw [h0, h1, from_flags H h.1]

theorem enc_num (s : ByteArray) (p : Nat) (h : p + 2 ≤ s.size) : enc 2 (num s p 2) = (s.data.toList.drop p).take 2 := by
  have hl : s.data.toList.length = s.size := Array.length_toList
  rw [num_two s p h, enc_two]
  rw [List.drop_eq_getElem_cons (by omega), List.drop_eq_getElem_cons (by omega), List.take_succ_cons, List.take_succ_cons, List.take_zero]
  have l1 := (s[p]'(by omega)).toNat_lt
  have l2 := (s[p + 1]'(by omega)).toNat_lt
  have q1 : ((s[p]'(by omega)).toNat * 256 + (s[p + 1]'(by omega)).toNat) / 256 % 256 = (s[p]'(by omega)).toNat := by omega
  have q2 : ((s[p]'(by omega)).toNat * 256 + (s[p + 1]'(by omega)).toNat) % 256 = (s[p + 1]'(by omega)).toNat := by omega
  rw [q1, q2, UInt8.ofNat_toNat, UInt8.ofNat_toNat]
  rfl
theorem ok_read (s : ByteArray) : okW (fromN (num s 0 2) (num s 2 2)) (num s 4 2) (num s 6 2) (num s 8 2) (num s 10 2) := by
  have h4 := num_lt s 4 2
  have h6 := num_lt s 6 2
  have h8 := num_lt s 8 2
  have h10 := num_lt s 10 2
  refine ⟨from_good _ _, ?_, ?_, ?_, ?_⟩ <;> omega
theorem wr_read (s : ByteArray) (h : 12 ≤ s.size) : wrS (fromN (num s 0 2) (num s 2 2)) (num s 4 2) (num s 6 2) (num s 8 2) (num s 10 2) = s.extract 0 12 := by
  have hl : s.data.toList.length = s.size := Array.length_toList
  unfold wrS
  rw [if_pos (ok_read s)]
  have e : wrL (fromN (num s 0 2) (num s 2 2)) (num s 4 2) (num s 6 2) (num s 8 2) (num s 10 2) = s.data.toList.take 12 := by
    unfold wrL
    rw [flags_from _ _ (num_lt s 2 2)]
    show enc 2 (num s 0 2) ++ enc 2 (num s 2 2) ++ enc 2 (num s 4 2) ++ enc 2 (num s 6 2) ++ enc 2 (num s 8 2) ++ enc 2 (num s 10 2) = _
    rw [enc_num s 0 (by omega), enc_num s 2 (by omega), enc_num s 4 (by omega), enc_num s 6 (by omega), enc_num s 8 (by omega), enc_num s 10 (by omega), List.drop_zero]
    rw [← List.take_add, ← List.take_add, ← List.take_add, ← List.take_add, ← List.take_add]
  rw [e]
  apply ByteArray.ext
  rw [ByteArray.data_extract]
  apply Array.ext'
  rw [Array.toList_extract, List.extract_eq_take_drop, List.drop_zero]
end Go.Proofs.YtklkigpdahaahaaDoor
