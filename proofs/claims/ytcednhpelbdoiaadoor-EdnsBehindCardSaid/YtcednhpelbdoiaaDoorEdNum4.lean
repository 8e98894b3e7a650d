/-
  Options cut short: plain.
-/
import Derived.Test.YtcednhpelbdoiaaDoorEdNum3
namespace Go.Proofs.YtcednhpelbdoiaaDoor
open Go.RowKit

theorem opsAt_one (pre t : List UInt8) (o : Opt) (h : o.1 < 65536 ∧ o.2.size < 65536) :
    opsAt ⟨(pre ++ (opB o ++ t)).toArray⟩ pre.length = (opsAt ⟨(pre ++ (opB o ++ t)).toArray⟩ (pre.length + (opB o).length)).map (o :: ·) := by
  obtain ⟨c, s⟩ := o
  obtain ⟨hc, hs⟩ := h
  have e0 : pre ++ (opB (c, s) ++ t) = pre ++ (enc 2 c ++ (enc 2 s.size ++ (s.data.toList ++ t))) := by simp [opB]
  have hsl : s.data.toList.length = s.size := Array.length_toList
  have e1 := num_two_at pre (enc 2 s.size ++ (s.data.toList ++ t)) c hc
  have e2 := num_two_at (pre ++ enc 2 c) (s.data.toList ++ t) s.size hs
  have e3 := ext_mid (pre ++ enc 2 c ++ enc 2 s.size) s.data.toList t
  simp only [List.append_assoc, List.length_append, enc_len, hsl, ba_mk] at e1 e2 e3
  rw [opB_len, e0]
  have hz : (⟨(pre ++ (enc 2 c ++ (enc 2 s.size ++ (s.data.toList ++ t)))).toArray⟩ : ByteArray).size = pre.length + 4 + s.size + t.length := by
    show (pre ++ (enc 2 c ++ (enc 2 s.size ++ (s.data.toList ++ t)))).toArray.size = _
    simp only [List.size_toArray, List.length_append, enc_len, hsl]
    omega
  generalize (⟨(pre ++ (enc 2 c ++ (enc 2 s.size ++ (s.data.toList ++ t)))).toArray⟩ : ByteArray) = T at *
  rw [opsAt_step (by omega) (by rw [e2]; omega), e1, e2]
  rw [show pre.length + (2 + 2) = pre.length + 4 by omega] at e3
  rw [e3]
  simp only
  rw [show pre.length + 4 + s.size = pre.length + (4 + s.size) by omega]
theorem opsAt_run (l : List Opt) : ∀ pre t : List UInt8, (∀ o ∈ l, o.1 < 65536 ∧ o.2.size < 65536) →
    opsAt ⟨(pre ++ (opsB l ++ t)).toArray⟩ pre.length = (opsAt ⟨(pre ++ (opsB l ++ t)).toArray⟩ (pre.length + (opsB l).length)).map (l ++ ·) := by
  induction l with
  | nil =>
    intro pre t _
    have e : opsB [] = [] := rfl
    rw [e]
    simp
  | cons o l ih =>
    intro pre t h
    have e : opsB (o :: l) = opB o ++ opsB l := rfl
    have h1 := opsAt_one pre (opsB l ++ t) o (h o (List.mem_cons_self ..))
    have h2 := ih (pre ++ opB o) t (fun o ho => h o (List.mem_cons_of_mem _ ho))
    rw [e, List.append_assoc, h1]
    rw [List.append_assoc, List.length_append] at h2
    rw [h2, Option.map_map, List.length_append, Nat.add_assoc]
    rfl
theorem ops_cut (l : List Opt) (o : Opt) (t r : List UInt8) (hl : ∀ o ∈ l, o.1 < 65536 ∧ o.2.size < 65536) (ho : o.1 < 65536 ∧ o.2.size < 65536) (hb : opB o = t ++ r) (ht : t ≠ []) (hr : r ≠ []) : opsAt ⟨(opsB l ++ t).toArray⟩ 0 = none := by
  have h := opsAt_run l [] t hl
  simp only [List.nil_append, List.length_nil, Nat.zero_add] at h
  rw [h]
  have hn : opsAt ⟨(opsB l ++ t).toArray⟩ (opsB l).length = none := by
    have hz : (⟨(opsB l ++ t).toArray⟩ : ByteArray).size = (opsB l).length + t.length := by
      show (opsB l ++ t).toArray.size = _
      simp
    have htl : 0 < t.length := List.length_pos_iff.2 ht
    have hrl : 0 < r.length := List.length_pos_iff.2 hr
    have hob := opB_len o
    rw [hb, List.length_append] at hob
    refine opsAt_no (by omega) ?_
    by_cases h4 : t.length < 4
    · left; omega
    · right
      have hq : num ⟨(opsB l ++ t).toArray⟩ ((opsB l).length + 2) 2 = o.2.size := by
        have e2 := num_two_at (opsB l ++ enc 2 o.1) o.2.data.toList o.2.size ho.2
        have hd : ((opsB l ++ t).drop ((opsB l).length + 2)).take 2 = ((opsB l ++ (t ++ r)).drop ((opsB l).length + 2)).take 2 := by
          rw [← List.drop_drop, ← List.drop_drop, List.drop_left, List.drop_left, List.drop_append_of_le_length (by omega), List.take_append_of_le_length (by rw [List.length_drop]; omega)]
        unfold num at e2 ⊢
        rw [show (⟨(opsB l ++ t).toArray⟩ : ByteArray).data.toList = opsB l ++ t from rfl, hd, ← hb]
        rw [show (⟨(opsB l ++ enc 2 o.1 ++ (enc 2 o.2.size ++ o.2.data.toList)).toArray⟩ : ByteArray).data.toList = opsB l ++ enc 2 o.1 ++ (enc 2 o.2.size ++ o.2.data.toList) from rfl, List.length_append, enc_len] at e2
        rw [← e2]
        simp [opB]
      rw [hq, hz]
      omega
  rw [hn]
  rfl
theorem opsB_cut (L : List Opt) (j kk : Nat) (h : kk ≤ (opsB (L.take j)).length) : (opsB L).take kk = (opsB (L.take j)).take kk := by
  have e : opsB L = opsB (L.take j) ++ opsB (L.drop j) := by rw [← opsB_append, List.take_append_drop]
  rw [e, List.take_append_of_le_length h]
theorem cut_yes (L : List Opt) (j kk : Nat) (hc : ∀ o ∈ L, o.1 < 65536 ∧ o.2.size < 65536) (h : (opsB (L.take j)).length = kk) : opsAt ⟨((opsB L).take kk).toArray⟩ 0 = some (L.take j) := by
  rw [opsB_cut L j kk (by omega), List.take_of_length_le (by omega)]
  exact ops_back _ (fun o ho => hc o (List.mem_of_mem_take ho))
theorem cut_no (L : List Opt) (j kk : Nat) (hj : j ≤ L.length) (hc : ∀ o ∈ L, o.1 < 65536 ∧ o.2.size < 65536) (h : kk < (opsB (L.take j)).length) (hlast : ∀ j', j = j' + 1 → (opsB (L.take j')).length < kk) : opsAt ⟨((opsB L).take kk).toArray⟩ 0 = none := by
  cases j with
  | zero => simp [opsB] at h
  | succ i =>
    have hl := hlast i rfl
    have hi : i < L.length := hj
    rw [opsB_cut L (i + 1) kk (by omega)]
    rw [opsB_snoc L i hi] at h ⊢
    rw [List.length_append] at h
    rw [List.take_append, List.take_of_length_le (by omega)]
    refine ops_cut (L.take i) L[i] _ ((opB L[i]).drop (kk - (opsB (L.take i)).length)) (fun o ho => hc o (List.mem_of_mem_take ho)) (hc _ (List.getElem_mem hi)) (List.take_append_drop _ _).symm ?_ ?_
    · intro e
      have := congrArg List.length e
      rw [List.length_take, List.length_nil] at this
      omega
    · intro e
      have := congrArg List.length e
      rw [List.length_drop, List.length_nil] at this
      omega
theorem both_cut (l m : List Opt) (kk : Nat) : ((⟨(opsB l).toArray⟩ : ByteArray) ++ (⟨(opsB m).toArray⟩ : ByteArray)).extract 0 kk = ⟨((opsB (l ++ m)).take kk).toArray⟩ := by
  rw [mk_append_list, ← opsB_append]
  apply ByteArray.ext
  simp [ByteArray.data_extract]
end Go.Proofs.YtcednhpelbdoiaaDoor
