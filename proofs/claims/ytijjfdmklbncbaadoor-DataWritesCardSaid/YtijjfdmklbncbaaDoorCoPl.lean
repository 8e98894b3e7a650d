/-
  Laws of putting a name, in plain words.
-/
import Derived.Test.YtijjfdmklbncbaaDoorCoLaw
namespace Go.Proofs.YtijjfdmklbncbaaDoor

theorem aheadL (b c : List UInt8) : Ahead ⟨b.toArray⟩ ⟨(b ++ c).toArray⟩ := by
  refine ⟨by simp [ByteArray.size], fun p hp => ?_⟩
  rw [size_mk] at hp
  show b[p]? = (b ++ c)[p]?
  rw [List.getElem?_append_left hp]
theorem bt_left {b c : List UInt8} {p : Nat} (h : p < b.length) : bt ⟨(b ++ c).toArray⟩ p = bt ⟨b.toArray⟩ p := by
  rw [bt_mk, bt_mk, List.getElem?_append_left h]
theorem bt_right {b c : List UInt8} {p : Nat} : bt ⟨(b ++ c).toArray⟩ (b.length + p) = (c[p]?.getD 0).toNat := by
  rw [bt_mk, List.getElem?_append_right (by omega)]
  congr 3
  omega
/-- The ending x may be read at this place, from a pointer. -/
def RdP (b : List UInt8) (x : ByteArray) (off : Nat) : Prop := off < b.length ∧ ∀ q o, List.length o + x.size ≤ 255 → rdF ⟨b.toArray⟩ off off (some q) o = .ok (o ++ x.data.toList) q
theorem RdP.more {b : List UInt8} {x : ByteArray} {off : Nat} (h : RdP b x off) (c : List UInt8) : RdP (b ++ c) x off :=
  ⟨by have := h.1; simp; omega, fun q o ho => rd_more (aheadL b c) (h.2 q o ho)⟩
theorem suf_list (n : ByteArray) (p : Nat) : (suf n p).data.toList = n.data.toList.drop p := by rw [suf_eq]
theorem suf_sz (n : ByteArray) (p : Nat) : (suf n p).size = n.size - p := by unfold suf; rw [ByteArray.size_extract]; omega
theorem nlen (n : ByteArray) : n.data.toList.length = n.size := by rw [Array.length_toList]; rfl
theorem drop_root {n : ByteArray} {p : Nat} (hsc : scan n p = true) (h0 : bt n p = 0) : n.data.toList.drop p = [0] := by
  have hp := scan_lt hsc
  have hr := scan_root hsc h0
  have hl := nlen n
  rw [List.drop_eq_getElem_cons (by omega), List.drop_of_length_le (by omega)]
  unfold bt at h0
  rw [List.getElem?_eq_getElem (by omega)] at h0
  simp only [Option.getD_some] at h0
  have : n.data.toList[p]'(by omega) = 0 := UInt8.toNat_inj.1 (by simpa using h0)
  rw [this]
theorem drop_lab {n : ByteArray} {p : Nat} : lab n p ++ n.data.toList.drop (p + 1 + bt n p) = n.data.toList.drop p := by
  rw [lab_eq', show p + 1 + bt n p = p + (1 + bt n p) by omega, ← List.drop_drop, List.take_append_drop]
/-- The label's first byte where it stands. -/
theorem lab_bt {b c : List UInt8} {n : ByteArray} {p : Nat} (h : p + 1 + bt n p ≤ n.size) : bt ⟨(b ++ lab n p ++ c).toArray⟩ b.length = bt n p := by
  have hl := lab_len n p h
  rw [List.append_assoc, show b.length = b.length + 0 by rfl, bt_right, List.getElem?_append_left (by omega)]
  exact lab_get n p
theorem lab_lab {b c : List UInt8} {n : ByteArray} {p : Nat} (h : p + 1 + bt n p ≤ n.size) : lab ⟨(b ++ lab n p ++ c).toArray⟩ b.length = lab n p := by
  have hl := lab_len n p h
  rw [lab_eq', lab_bt h]
  show List.take (1 + bt n p) (List.drop b.length (b ++ lab n p ++ c)) = lab n p
  rw [List.append_assoc, List.drop_left, ← hl, List.take_left]
theorem ptr_at (b : List UInt8) (k : Nat) (hk : k ≤ 16383) : bt ⟨(b ++ ptrB k).toArray⟩ b.length = 192 + k / 256 ∧ ptr ⟨(b ++ ptrB k).toArray⟩ b.length = k := by
  have h1 : bt ⟨(b ++ ptrB k).toArray⟩ b.length = 192 + k / 256 := by
    rw [show b.length = b.length + 0 by rfl, bt_right]
    simp [ptrB]
    omega
  have h2 : bt ⟨(b ++ ptrB k).toArray⟩ (b.length + 1) = k % 256 := by
    rw [bt_right]
    simp [ptrB]
  refine ⟨h1, ?_⟩
  unfold ptr
  rw [h1, h2]
  omega

/-- THE LAW: what is put is read as it was; so is every ending that the table has. -/
theorem put_all (n : ByteArray) (cmp known : Bool) (a0 : Nat) : ∀ k p (T : Tb) (out : List UInt8), n.size - p = k → scan n p = true → out.length = a0 + p → Low T →
    (∀ x ∈ T, (x.2 < a0 ∧ RdP out x.1 x.2) ∨ n.size - p < x.1.size) →
    (∃ c, (putF n cmp known p T out).1 = out ++ c) ∧
    (∀ lim nx o, a0 ≤ lim → List.length o + (n.size - p) ≤ 255 → rdF ⟨(putF n cmp known p T out).1.toArray⟩ (a0 + p) lim nx o = .ok (o ++ n.data.toList.drop p) (nx.getD (putF n cmp known p T out).1.length)) ∧
    (∀ x ∈ (putF n cmp known p T out).2, x ∈ T ∨ RdP (putF n cmp known p T out).1 x.1 x.2) := by
  intro k
  induction k using Nat.strongRecOn with
  | _ k ih =>
    intro p T out hk hsc hout hlow hT
    have hp := scan_lt hsc
    by_cases h0 : bt n p = 0
    · rw [putF_end h0]
      have hr := scan_root hsc h0
      refine ⟨⟨[0], rfl⟩, fun lim nx o _ _ => ?_, fun x hx => .inl hx⟩
      have hb : bt ⟨(out ++ [0]).toArray⟩ (a0 + p) = 0 := by rw [← hout, show out.length = out.length + 0 by rfl, bt_right]; rfl
      rw [rd_end (by rw [size_mk]; simp; omega) hb, drop_root hsc h0]
      simp [hout]
    · obtain ⟨h1, h2, h3⟩ := scan_lab hsc h0
      cases hg : tget T (suf n p) with
      | some j =>
        have hm := tget_mem hg
        have hj := hlow _ hm
        rcases hT _ hm with ⟨hja, hrp⟩ | hbad
        · cases cmp with
          | true =>
            rw [putF_ptr hp h0 hg rfl]
            refine ⟨⟨ptrB j, rfl⟩, fun lim nx o hlim ho => ?_, fun x hx => .inl hx⟩
            obtain ⟨e1, e2⟩ := ptr_at out j hj
            rw [← hout]
            rw [rd_ptr (by rw [e1]; omega) (by rw [size_mk]; simp [ptrB]) (by rw [e2]; simp at hja; omega), e2]
            have := (hrp.more (ptrB j)).2 (nx.getD (out.length + 2)) o (by rw [suf_sz]; exact ho)
            simp only at this
            rw [this, suf_list]
            simp [ptrB]
          | false =>
            have IH := ih (n.size - (p + 1 + bt n p)) (by omega) (p + 1 + bt n p) (tadd n known p T out.length) (out ++ lab n p) rfl h3 (by rw [List.length_append, lab_len n p (by omega)]; omega) (tadd_low hlow _ _ _ _) (by
              unfold tadd
              rw [hg, if_neg (by simp)]
              intro x hx
              rcases hT x hx with ⟨h5, h6⟩ | h5
              · exact .inl ⟨h5, h6.more _⟩
              · exact .inr (by omega))
            rw [← putF_step hp h0 (.inr rfl)] at IH
            generalize hR : putF n false known p T out = R at *
            obtain ⟨⟨c, hc⟩, i2, i3⟩ := IH
            refine ⟨⟨lab n p ++ c, by rw [hc, List.append_assoc]⟩, fun lim nx o hlim ho => ?_, fun x hx => ?_⟩
            · have hb := lab_bt (b := out) (c := c) (n := n) (p := p) (by omega)
              have hl := lab_lab (b := out) (c := c) (n := n) (p := p) (by omega)
              rw [← hc, hout] at hb hl
              rw [rd_label (by rw [hb]; exact h0) (by rw [hb]; omega) (by rw [hb, size_mk, hc]; simp [lab_len n p (by omega : p + 1 + bt n p ≤ n.size)]; omega) (by rw [hb]; omega), hb, hl]
              have := i2 lim nx (o ++ lab n p) hlim (by rw [List.length_append, lab_len n p (by omega)]; omega)
              rw [show a0 + p + 1 + bt n p = a0 + (p + 1 + bt n p) by omega, this, List.append_assoc, drop_lab]
            · rcases i3 x hx with h7 | h7
              · unfold tadd at h7
                rw [hg, if_neg (by simp)] at h7
                exact .inl h7
              · exact .inr h7
        · rw [suf_sz] at hbad
          exact absurd hbad (by omega)
      | none =>
        have IH := ih (n.size - (p + 1 + bt n p)) (by omega) (p + 1 + bt n p) (tadd n known p T out.length) (out ++ lab n p) rfl h3 (by rw [List.length_append, lab_len n p (by omega)]; omega) (tadd_low hlow _ _ _ _) (by
          intro x hx
          unfold tadd at hx
          split at hx
          · rcases List.mem_append.1 hx with hx | hx
            · rcases hT x hx with ⟨h5, h6⟩ | h5
              · exact .inl ⟨h5, h6.more _⟩
              · exact .inr (by omega)
            · simp at hx
              subst hx
              exact .inr (by rw [suf_sz]; omega)
          · rcases hT x hx with ⟨h5, h6⟩ | h5
            · exact .inl ⟨h5, h6.more _⟩
            · exact .inr (by omega))
        rw [← putF_step hp h0 (.inl hg)] at IH
        generalize hR : putF n cmp known p T out = R at *
        obtain ⟨⟨c, hc⟩, i2, i3⟩ := IH
        have main : ∀ lim nx o, a0 ≤ lim → List.length o + (n.size - p) ≤ 255 → rdF ⟨R.1.toArray⟩ (a0 + p) lim nx o = .ok (o ++ n.data.toList.drop p) (nx.getD R.1.length) := by
          intro lim nx o hlim ho
          have hb := lab_bt (b := out) (c := c) (n := n) (p := p) (by omega)
          have hl := lab_lab (b := out) (c := c) (n := n) (p := p) (by omega)
          rw [← hc, hout] at hb hl
          rw [rd_label (by rw [hb]; exact h0) (by rw [hb]; omega) (by rw [hb, size_mk, hc]; simp [lab_len n p (by omega : p + 1 + bt n p ≤ n.size)]; omega) (by rw [hb]; omega), hb, hl]
          have := i2 lim nx (o ++ lab n p) hlim (by rw [List.length_append, lab_len n p (by omega)]; omega)
          rw [show a0 + p + 1 + bt n p = a0 + (p + 1 + bt n p) by omega, this, List.append_assoc, drop_lab]
        refine ⟨⟨lab n p ++ c, by rw [hc, List.append_assoc]⟩, main, fun x hx => ?_⟩
        rcases i3 x hx with h7 | h7
        · unfold tadd at h7
          split at h7
          · rcases List.mem_append.1 h7 with h7 | h7
            · exact .inl h7
            · simp at h7
              subst h7
              refine .inr ⟨by rw [hc]; simp; have := lab_len n p (by omega : p + 1 + bt n p ≤ n.size); omega, fun q o ho => ?_⟩
              simp only at ho ⊢
              rw [suf_sz] at ho
              rw [hout, main (a0 + p) (some q) o (by omega) ho, suf_list]
              rfl
          · exact .inl h7
        · exact .inr h7
/-- A table of which every ending may be read in the bytes. -/
def TOk (b : List UInt8) (T : Tb) : Prop := Low T ∧ ∀ x ∈ T, RdP b x.1 x.2
theorem TOk.nil (b : List UInt8) : TOk b [] := ⟨Low.nil, fun x hx => by cases hx⟩
theorem TOk.more {b : List UInt8} {T : Tb} (h : TOk b T) (c : List UInt8) : TOk (b ++ c) T := ⟨h.1, fun x hx => (h.2 x hx).more c⟩
theorem putF_low (n : ByteArray) (cmp known : Bool) : ∀ k p (T : Tb) (out : List UInt8), n.size - p = k → Low T → Low (putF n cmp known p T out).2 := by
  intro k
  induction k using Nat.strongRecOn with
  | _ k ih =>
    intro p T out hk hl
    rw [putF]
    split
    · split
      · exact hl
      · exact ih (n.size - (p + 1 + bt n p)) (by omega) _ _ _ rfl (tadd_low hl _ _ _ _)
    · exact hl
theorem putF_few (n : ByteArray) (cmp known : Bool) : ∀ k p (T : Tb) (out : List UInt8), n.size - p = k → (putF n cmp known p T out).2.length ≤ T.length + (n.size - p) := by
  intro k
  induction k using Nat.strongRecOn with
  | _ k ih =>
    intro p T out hk
    rw [putF]
    split
    · split
      · simp
      · have := ih (n.size - (p + 1 + bt n p)) (by omega) (p + 1 + bt n p) (tadd n known p T out.length) (out ++ lab n p) rfl
        have := tadd_len n known p T out.length
        omega
    · simp
theorem put_ok {n : ByteArray} (cmp known : Bool) {T : Tb} {b : List UInt8} (hn : may n = true) (hT : TOk b T) :
    (∃ c, (putF n cmp known 0 T b).1 = b ++ c) ∧ rdAt ⟨(putF n cmp known 0 T b).1.toArray⟩ (b.length : Int) = .ok n.data.toList (putF n cmp known 0 T b).1.length ∧ TOk (putF n cmp known 0 T b).1 (putF n cmp known 0 T b).2 := by
  obtain ⟨h1, h2⟩ := may_size hn
  obtain ⟨⟨c, hc⟩, i2, i3⟩ := put_all n cmp known b.length _ 0 T b rfl h2 (by simp) hT.1 (fun x hx => .inl ⟨(hT.2 x hx).1, hT.2 x hx⟩)
  refine ⟨⟨c, hc⟩, ?_, putF_low n cmp known _ 0 T b rfl hT.1, fun x hx => ?_⟩
  · rw [rdAt_in (by omega) (by rw [size_mk, hc]; simp; omega)]
    have := i2 b.length none [] (Nat.le_refl _) (by simp; omega)
    simpa using this
  · rcases i3 x hx with h3 | h3
    · rw [hc]; exact (hT.2 x h3).more c
    · exact h3
/-- What is put whole. -/
theorem put_whole (n : ByteArray) (cmp known : Bool) : ∀ k p (T : Tb) (out : List UInt8), n.size - p = k → scan n p = true → (cmp = false ∨ ∀ x ∈ T, n.size - p < x.1.size) → (putF n cmp known p T out).1 = out ++ n.data.toList.drop p := by
  intro k
  induction k using Nat.strongRecOn with
  | _ k ih =>
    intro p T out hk hsc hT
    have hp := scan_lt hsc
    by_cases h0 : bt n p = 0
    · rw [putF_end h0, drop_root hsc h0]
    · obtain ⟨h1, h2, h3⟩ := scan_lab hsc h0
      have hc : tget T (suf n p) = none ∨ cmp = false := by
        rcases hT with h | h
        · exact .inr h
        · left
          cases hg : tget T (suf n p) with
          | none => rfl
          | some j =>
            have := h _ (tget_mem hg)
            rw [suf_sz] at this
            exact absurd this (by omega)
      rw [putF_step hp h0 hc, ih (n.size - (p + 1 + bt n p)) (by omega) _ _ _ rfl h3 ?_, List.append_assoc, drop_lab]
      rcases hT with h | h
      · exact .inl h
      · refine .inr fun x hx => ?_
        unfold tadd at hx
        split at hx
        · rcases List.mem_append.1 hx with hx | hx
          · have := h x hx; omega
          · simp at hx
            subst hx
            rw [suf_sz]
            omega
        · have := h x hx; omega
/-- What is put is the name, or ends by a pointer ahead. -/
theorem put_shape (n : ByteArray) (cmp known : Bool) (a0 : Nat) : ∀ k p (T : Tb) (out : List UInt8), n.size - p = k → scan n p = true → Low T → (∀ x ∈ T, x.2 < a0 ∨ n.size - p < x.1.size) →
    (putF n cmp known p T out).1 = out ++ n.data.toList.drop p ∨ ∃ q j, p ≤ q ∧ q + 3 ≤ n.size ∧ j ≤ 16383 ∧ j < a0 ∧ (putF n cmp known p T out).1 = out ++ (n.data.toList.drop p).take (q - p) ++ ptrB j := by
  intro k
  induction k using Nat.strongRecOn with
  | _ k ih =>
    intro p T out hk hsc hlow hT
    have hp := scan_lt hsc
    by_cases h0 : bt n p = 0
    · exact .inl (by rw [putF_end h0, drop_root hsc h0])
    · obtain ⟨h1, h2, h3⟩ := scan_lab hsc h0
      by_cases hc : tget T (suf n p) = none ∨ cmp = false
      · rw [putF_step hp h0 hc]
        have hT' : ∀ x ∈ tadd n known p T out.length, x.2 < a0 ∨ n.size - (p + 1 + bt n p) < x.1.size := by
          intro x hx
          unfold tadd at hx
          split at hx
          · rcases List.mem_append.1 hx with hx | hx
            · rcases hT x hx with h | h
              · exact .inl h
              · exact .inr (by omega)
            · simp at hx
              subst hx
              exact .inr (by rw [suf_sz]; omega)
          · rcases hT x hx with h | h
            · exact .inl h
            · exact .inr (by omega)
        rcases ih (n.size - (p + 1 + bt n p)) (by omega) _ _ (out ++ lab n p) rfl h3 (tadd_low hlow n known p out.length) hT' with h | ⟨q, j, hq, hq3, hj, hja, h⟩
        · exact .inl (by rw [h, List.append_assoc, drop_lab])
        · refine .inr ⟨q, j, by omega, hq3, hj, hja, ?_⟩
          rw [h]
          have : lab n p ++ (n.data.toList.drop (p + 1 + bt n p)).take (q - (p + 1 + bt n p)) = (n.data.toList.drop p).take (q - p) := by
            have e1 : List.take (q - p) (lab n p) = lab n p := List.take_of_length_le (by rw [lab_len n p (by omega)]; omega)
            rw [← drop_lab (n := n) (p := p), List.take_append, e1, lab_len n p (by omega)]
            congr 2
            omega
          rw [List.append_assoc out, this]
      · cases hg : tget T (suf n p) with
        | none => exact absurd (.inl hg) hc
        | some j =>
          have hcm : cmp = true := by cases cmp <;> simp_all
          rw [putF_ptr hp h0 hg hcm]
          rcases hT _ (tget_mem hg) with h | h
          · exact .inr ⟨p, j, Nat.le_refl _, by omega, hlow _ (tget_mem hg), h, by simp⟩
          · rw [suf_sz] at h
            exact absurd h (by omega)
end Go.Proofs.YtijjfdmklbncbaaDoor
