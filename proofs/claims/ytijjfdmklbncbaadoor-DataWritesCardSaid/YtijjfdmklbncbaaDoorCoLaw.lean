/-
  Laws of reading a name, in plain words.
-/
import Derived.Test.YtijjfdmklbncbaaDoorCoFuel
namespace Go.Proofs.YtijjfdmklbncbaaDoor

theorem rd_ind {s : ByteArray} {P : Nat → Nat → Option Nat → List UInt8 → Prop}
    (short : ∀ p lim nx out, ¬ p < s.size → P p lim nx out)
    (fin : ∀ p lim nx out, p < s.size → bt s p = 0 → P p lim nx out)
    (label : ∀ p lim nx out, ¬ bt s p = 0 → bt s p < 64 → p + 1 + bt s p ≤ s.size → out.length + 1 + bt s p + 1 ≤ 255 → P (p + 1 + bt s p) lim nx (out ++ lab s p) → P p lim nx out)
    (long : ∀ p lim nx out, ¬ bt s p = 0 → bt s p < 64 → p + 1 + bt s p ≤ s.size → ¬ out.length + 1 + bt s p + 1 ≤ 255 → P p lim nx out)
    (lshort : ∀ p lim nx out, p < s.size → ¬ bt s p = 0 → bt s p < 64 → ¬ p + 1 + bt s p ≤ s.size → P p lim nx out)
    (form : ∀ p lim nx out, p < s.size → 64 ≤ bt s p → bt s p < 192 → P p lim nx out)
    (point : ∀ p lim nx out, 192 ≤ bt s p → p + 2 ≤ s.size → ptr s p < lim → P (ptr s p) (ptr s p) (some (nx.getD (p + 2))) out → P p lim nx out)
    (loop : ∀ p lim nx out, 192 ≤ bt s p → p + 2 ≤ s.size → ¬ ptr s p < lim → P p lim nx out)
    (pshort : ∀ p lim nx out, p < s.size → 192 ≤ bt s p → ¬ p + 2 ≤ s.size → P p lim nx out) : ∀ p lim nx out, P p lim nx out := by
  have key : ∀ k j : Nat, ∀ p lim nx out, lim = k → 256 - List.length out = j → P p lim nx out := by
    intro k
    induction k using Nat.strongRecOn with
    | _ k ihk =>
      intro j
      induction j using Nat.strongRecOn with
      | _ j ihj =>
        intro p lim nx out hk hj
        by_cases h1 : p < s.size
        · by_cases h2 : bt s p = 0
          · exact fin _ _ _ _ h1 h2
          · by_cases h3 : bt s p < 64
            · by_cases h4 : p + 1 + bt s p ≤ s.size
              · by_cases h5 : out.length + 1 + bt s p + 1 ≤ 255
                · exact label _ _ _ _ h2 h3 h4 h5 (ihj (256 - (out ++ lab s p).length) (by rw [List.length_append, lab_len s p h4]; omega) _ _ _ _ hk rfl)
                · exact long _ _ _ _ h2 h3 h4 h5
              · exact lshort _ _ _ _ h1 h2 h3 h4
            · by_cases h4 : bt s p < 192
              · exact form _ _ _ _ h1 (by omega) h4
              · by_cases h5 : p + 2 ≤ s.size
                · by_cases h6 : ptr s p < lim
                  · exact point _ _ _ _ (by omega) h5 h6 (ihk (ptr s p) (by omega) _ _ _ _ _ rfl rfl)
                  · exact loop _ _ _ _ (by omega) h5 h6
                · exact pshort _ _ _ _ h1 (by omega) h5
        · exact short _ _ _ _ h1
  intro p lim nx out
  exact key _ _ _ _ _ _ rfl rfl

/-- Bytes that are labels: whatever stands behind them. -/
def Lbs (out : List UInt8) : Prop := ∀ rest : List UInt8, scan ⟨(out ++ rest).toArray⟩ 0 = scan ⟨(out ++ rest).toArray⟩ out.length
theorem Lbs.nil : Lbs [] := fun _ => rfl
theorem bt_mk (l : List UInt8) (p : Nat) : bt ⟨l.toArray⟩ p = (l[p]?.getD 0).toNat := rfl
theorem size_mk (l : List UInt8) : (⟨l.toArray⟩ : ByteArray).size = l.length := by simp [ByteArray.size]
theorem lab_get (s : ByteArray) (p : Nat) : ((lab s p)[0]?.getD 0).toNat = bt s p := by
  rw [lab_eq']
  unfold bt
  rw [List.getElem?_take_of_lt (by omega), List.getElem?_drop]
  rfl
theorem Lbs.snoc {out : List UInt8} (h : Lbs out) {s : ByteArray} {p : Nat} (h0 : ¬ bt s p = 0) (h1 : bt s p ≤ 63) (h2 : p + 1 + bt s p ≤ s.size) : Lbs (out ++ lab s p) := by
  intro rest
  have hl := lab_len s p h2
  have e := h (lab s p ++ rest)
  rw [← List.append_assoc] at e
  have hb : bt ⟨(out ++ lab s p ++ rest).toArray⟩ out.length = bt s p := by
    rw [bt_mk, List.append_assoc, List.getElem?_append_right (Nat.le_refl _), Nat.sub_self, List.getElem?_append_left (by omega)]
    exact lab_get s p
  rw [e, scan_step (by rw [size_mk]; simp; omega) (by rw [hb]; exact h0) (by rw [hb]; exact h1), hb, List.length_append, hl]
  congr 1
  omega
theorem Lbs.may {out : List UInt8} (h : Lbs out) (hl : out.length ≤ 254) : may ⟨(out ++ [0]).toArray⟩ = true := by
  have hb : bt ⟨(out ++ [0]).toArray⟩ out.length = 0 := by rw [bt_mk]; simp
  unfold Go.Proofs.YtijjfdmklbncbaaDoor.may
  rw [h [0], scan_end (by rw [size_mk]; simp) hb, size_mk]
  simp
  omega

/-- What is read is a name; the place behind. -/
theorem rd_ok_may {s : ByteArray} {a0 : Nat} : ∀ p lim nx out, ∀ m next, rdF s p lim nx out = .ok m next → (∀ q, nx = some q → a0 < q ∧ q ≤ s.size) → (nx = none → a0 ≤ p) → Lbs out → out.length ≤ 254 → may ⟨m.toArray⟩ = true ∧ a0 < next ∧ next ≤ s.size := by
  refine rd_ind (s := s) ?_ ?_ ?_ ?_ ?_ ?_ ?_ ?_ ?_
  · intro p lim nx out h m next e; rw [rd_short h] at e; cases e
  · intro p lim nx out h h0 m next e hq hn hL hl
    rw [rd_end h h0] at e
    cases e
    refine ⟨hL.may hl, ?_⟩
    cases nx with
    | none => have := hn rfl; simp; omega
    | some q => exact hq q rfl
  · intro p lim nx out h0 h64 h1 h2 ih m next e hq hn hL hl
    rw [rd_label h0 h64 h1 h2] at e
    exact ih m next e hq (fun e => by have := hn e; omega) (hL.snoc h0 (by omega) h1) (by rw [List.length_append, lab_len s p h1]; omega)
  · intro p lim nx out h0 h64 h1 h2 m next e; rw [rd_long h0 h64 h1 h2] at e; cases e
  · intro p lim nx out h h0 h64 h1 m next e; rw [rd_lshort h h0 h64 h1] at e; cases e
  · intro p lim nx out h h64 h192 m next e; rw [rd_form h h64 h192] at e; cases e
  · intro p lim nx out h192 h2 h3 ih m next e hq hn hL hl
    rw [rd_ptr h192 h2 h3] at e
    refine ih m next e ?_ (fun e => by cases e) hL hl
    intro q hq'
    cases hq'
    cases nx with
    | none => have := hn rfl; simp; omega
    | some q => exact hq q rfl
  · intro p lim nx out h192 h2 h3 m next e; rw [rd_loop h192 h2 h3] at e; cases e
  · intro p lim nx out h h192 h2 m next e; rw [rd_pshort h h192 h2] at e; cases e
theorem rdAt_ok {s : ByteArray} {at_ : Int} {m : List UInt8} {next : Nat} (h : rdAt s at_ = .ok m next) : may ⟨m.toArray⟩ = true ∧ at_ < (next : Int) ∧ next ≤ s.size ∧ 0 ≤ at_ ∧ at_ ≤ (s.size : Int) ∧ rdF s at_.toNat at_.toNat none [] = .ok m next := by
  by_cases h1 : 0 ≤ at_ ∧ at_ ≤ (s.size : Int)
  · rw [rdAt_in h1.1 h1.2] at h
    obtain ⟨k1, k2, k3⟩ := rd_ok_may (a0 := at_.toNat) _ _ _ _ _ _ h (fun q e => by cases e) (fun _ => Nat.le_refl _) Lbs.nil (by simp)
    exact ⟨k1, by omega, k3, h1.1, h1.2, h⟩
  · rw [rdAt_out (by omega)] at h; cases h

/-- t begins as s, or s as t: the bytes that both have are the same. -/
def Ahead (t s : ByteArray) : Prop := t.size ≤ s.size ∧ ∀ p, p < t.size → t.data.toList[p]? = s.data.toList[p]?
theorem Ahead.bt {t s : ByteArray} (h : Ahead t s) {p : Nat} (hp : p < t.size) : bt t p = bt s p := by unfold Go.Proofs.YtijjfdmklbncbaaDoor.bt; rw [h.2 p hp]
theorem Ahead.lab {t s : ByteArray} (h : Ahead t s) {p : Nat} (hp : p + 1 + Go.Proofs.YtijjfdmklbncbaaDoor.bt t p ≤ t.size) : lab t p = lab s p := by
  have hb := h.bt (p := p) (by omega)
  rw [lab_eq', lab_eq', hb]
  apply List.ext_getElem?
  intro i
  by_cases hi : i < 1 + Go.Proofs.YtijjfdmklbncbaaDoor.bt s p
  · rw [List.getElem?_take_of_lt hi, List.getElem?_take_of_lt hi, List.getElem?_drop, List.getElem?_drop, h.2 (p + i) (by omega)]
  · rw [List.getElem?_eq_none (by simp; omega), List.getElem?_eq_none (by simp; omega)]
theorem Ahead.ptr {t s : ByteArray} (h : Ahead t s) {p : Nat} (hp : p + 2 ≤ t.size) : ptr t p = ptr s p := by
  unfold Go.Proofs.YtijjfdmklbncbaaDoor.ptr; rw [h.bt (by omega), h.bt (by omega)]
theorem ahead_append (s t : ByteArray) : Ahead s (s ++ t) := by
  refine ⟨by rw [ByteArray.size_append]; omega, fun p hp => ?_⟩
  rw [show (s ++ t).data.toList = s.data.toList ++ t.data.toList by rw [ByteArray.data_append]; simp]
  rw [List.getElem?_append_left (by rw [Array.length_toList]; exact hp)]
theorem ahead_cut (s : ByteArray) (k : Nat) (hk : k ≤ s.size) : Ahead (s.extract 0 k) s ∧ (s.extract 0 k).size = k := by
  have hs : (s.extract 0 k).size = k := by rw [ByteArray.size_extract]; omega
  refine ⟨⟨by omega, fun p hp => ?_⟩, hs⟩
  rw [Go.Lib.extract_data, List.getElem?_take_of_lt (by omega), List.getElem?_drop]
  congr 1
  omega
/-- What bytes say, fewer of them say too, or they are short. -/
theorem rd_ahead {t s : ByteArray} (h : Ahead t s) : ∀ p lim nx out, rdF t p lim nx out = rdF s p lim nx out ∨ rdF t p lim nx out = .no 4 := by
  refine rd_ind (s := t) ?_ ?_ ?_ ?_ ?_ ?_ ?_ ?_ ?_
  · intro p lim nx out h1; exact .inr (rd_short h1)
  · intro p lim nx out h1 h0
    left
    rw [rd_end h1 h0, rd_end (by have := h.1; omega) (by rw [← h.bt h1]; exact h0)]
  · intro p lim nx out h0 h64 h1 h2 ih
    have hb := h.bt (p := p) (by omega)
    rw [rd_label h0 h64 h1 h2, rd_label (s := s) (by rw [← hb]; exact h0) (by rw [← hb]; exact h64) (by rw [← hb]; have := h.1; omega) (by rw [← hb]; exact h2), ← hb, ← h.lab h1]
    exact ih
  · intro p lim nx out h0 h64 h1 h2
    have hb := h.bt (p := p) (by omega)
    left
    rw [rd_long h0 h64 h1 h2, rd_long (s := s) (by rw [← hb]; exact h0) (by rw [← hb]; exact h64) (by rw [← hb]; have := h.1; omega) (by rw [← hb]; exact h2)]
  · intro p lim nx out h1 h0 h64 h2; exact .inr (rd_lshort h1 h0 h64 h2)
  · intro p lim nx out h1 h64 h192
    have hb := h.bt h1
    left
    rw [rd_form h1 h64 h192, rd_form (s := s) (by have := h.1; omega) (by rw [← hb]; exact h64) (by rw [← hb]; exact h192)]
  · intro p lim nx out h192 h2 h3 ih
    have hb := h.bt (p := p) (by omega)
    have hp := h.ptr h2
    rw [rd_ptr h192 h2 h3, rd_ptr (s := s) (by rw [← hb]; exact h192) (by have := h.1; omega) (by rw [← hp]; exact h3), ← hp]
    exact ih
  · intro p lim nx out h192 h2 h3
    have hb := h.bt (p := p) (by omega)
    have hp := h.ptr h2
    left
    rw [rd_loop h192 h2 h3, rd_loop (s := s) (by rw [← hb]; exact h192) (by have := h.1; omega) (by rw [← hp]; exact h3)]
  · intro p lim nx out h1 h192 h2; exact .inr (rd_pshort h1 h192 h2)
/-- .. and where they say a name, more say it too. -/
theorem rd_more {t s : ByteArray} (h : Ahead t s) {p lim : Nat} {nx : Option Nat} {out m : List UInt8} {next : Nat} (e : rdF t p lim nx out = .ok m next) : rdF s p lim nx out = .ok m next := by
  rcases rd_ahead h p lim nx out with h1 | h1
  · rw [← h1]; exact e
  · rw [h1] at e; cases e
/-- What is read behind labels has one byte, or three at least. -/
theorem rd_rest {s : ByteArray} : ∀ p lim nx out, ∀ m next, rdF s p lim nx out = .ok m next → ∃ R : List UInt8, m = out ++ R ∧ (R.length = 1 ∨ 3 ≤ R.length) := by
  refine rd_ind (s := s) ?_ ?_ ?_ ?_ ?_ ?_ ?_ ?_ ?_
  · intro p lim nx out h m next e; rw [rd_short h] at e; cases e
  · intro p lim nx out h h0 m next e
    rw [rd_end h h0] at e
    cases e
    exact ⟨[0], rfl, .inl rfl⟩
  · intro p lim nx out h0 h64 h1 h2 ih m next e
    rw [rd_label h0 h64 h1 h2] at e
    obtain ⟨R, rfl, hR⟩ := ih m next e
    refine ⟨lab s p ++ R, by rw [List.append_assoc], .inr ?_⟩
    rw [List.length_append, lab_len s p h1]
    omega
  · intro p lim nx out h0 h64 h1 h2 m next e; rw [rd_long h0 h64 h1 h2] at e; cases e
  · intro p lim nx out h h0 h64 h1 m next e; rw [rd_lshort h h0 h64 h1] at e; cases e
  · intro p lim nx out h h64 h192 m next e; rw [rd_form h h64 h192] at e; cases e
  · intro p lim nx out h192 h2 h3 ih m next e
    rw [rd_ptr h192 h2 h3] at e
    exact ih m next e
  · intro p lim nx out h192 h2 h3 m next e; rw [rd_loop h192 h2 h3] at e; cases e
  · intro p lim nx out h h192 h2 m next e; rw [rd_pshort h h192 h2] at e; cases e
/-- The place behind stays, once a pointer was met. -/
theorem rd_next {s : ByteArray} : ∀ p lim nx out, ∀ m next q, nx = some q → rdF s p lim nx out = .ok m next → next = q := by
  refine rd_ind (s := s) ?_ ?_ ?_ ?_ ?_ ?_ ?_ ?_ ?_
  · intro p lim nx out h m next q hq e; rw [rd_short h] at e; cases e
  · intro p lim nx out h h0 m next q hq e
    rw [rd_end h h0, hq] at e
    cases e
    rfl
  · intro p lim nx out h0 h64 h1 h2 ih m next q hq e
    rw [rd_label h0 h64 h1 h2] at e
    exact ih m next q hq e
  · intro p lim nx out h0 h64 h1 h2 m next q hq e; rw [rd_long h0 h64 h1 h2] at e; cases e
  · intro p lim nx out h h0 h64 h1 m next q hq e; rw [rd_lshort h h0 h64 h1] at e; cases e
  · intro p lim nx out h h64 h192 m next q hq e; rw [rd_form h h64 h192] at e; cases e
  · intro p lim nx out h192 h2 h3 ih m next q hq e
    rw [rd_ptr h192 h2 h3] at e
    exact ih m next q (by rw [hq]; rfl) e
  · intro p lim nx out h192 h2 h3 m next q hq e; rw [rd_loop h192 h2 h3] at e; cases e
  · intro p lim nx out h h192 h2 m next q hq e; rw [rd_pshort h h192 h2] at e; cases e
/-- Without a pointer: as many bytes as the name has, and up to the place behind it is read alike; with one: not as many. -/
theorem rd_plain {s : ByteArray} : ∀ p lim nx out, ∀ m next, nx = none → rdF s p lim nx out = .ok m next →
    p < next ∧ ((m.length = out.length + (next - p) ∧ ∀ t, Ahead t s → next ≤ t.size → rdF t p lim none out = .ok m next) ∨ m.length ≠ out.length + (next - p)) := by
  refine rd_ind (s := s) ?_ ?_ ?_ ?_ ?_ ?_ ?_ ?_ ?_
  · intro p lim nx out h m next hq e; rw [rd_short h] at e; cases e
  · intro p lim nx out h h0 m next hq e
    rw [rd_end h h0, hq] at e
    cases e
    refine ⟨by simp, .inl ⟨by simp, fun t ht hn => ?_⟩⟩
    simp at hn
    rw [rd_end (by omega) (by rw [ht.bt (by omega)]; exact h0)]
  · intro p lim nx out h0 h64 h1 h2 ih m next hq e
    rw [rd_label h0 h64 h1 h2] at e
    obtain ⟨h3, h4⟩ := ih m next hq e
    have hl := lab_len s p h1
    refine ⟨by omega, ?_⟩
    rcases h4 with ⟨h5, h6⟩ | h5
    · refine .inl ⟨by rw [h5, List.length_append, hl]; omega, fun t ht hn => ?_⟩
      have hb := ht.bt (p := p) (by omega)
      rw [rd_label (by rw [hb]; exact h0) (by rw [hb]; exact h64) (by rw [hb]; omega) (by rw [hb]; exact h2), hb, ht.lab (by rw [hb]; omega)]
      exact h6 t ht hn
    · refine .inr ?_
      rw [List.length_append, hl] at h5
      omega
  · intro p lim nx out h0 h64 h1 h2 m next hq e; rw [rd_long h0 h64 h1 h2] at e; cases e
  · intro p lim nx out h h0 h64 h1 m next hq e; rw [rd_lshort h h0 h64 h1] at e; cases e
  · intro p lim nx out h h64 h192 m next hq e; rw [rd_form h h64 h192] at e; cases e
  · intro p lim nx out h192 h2 h3 _ m next hq e
    rw [rd_ptr h192 h2 h3, hq] at e
    have h4 := rd_next _ _ _ _ _ _ _ rfl e
    obtain ⟨R, h5, h6⟩ := rd_rest _ _ _ _ _ _ e
    simp at h4
    refine ⟨by omega, .inr ?_⟩
    rw [h5, List.length_append]
    omega
  · intro p lim nx out h192 h2 h3 m next hq e; rw [rd_loop h192 h2 h3] at e; cases e
  · intro p lim nx out h h192 h2 m next hq e; rw [rd_pshort h h192 h2] at e; cases e

/-- A name's bytes, wherever they stand, are read as that name. -/
theorem rd_name (A n B : ByteArray) (hn : n.size ≤ 255) (lim : Nat) (nx : Option Nat) : ∀ k p, n.size - p = k → scan n p = true → rdF (A ++ n ++ B) (A.size + p) lim nx (n.data.toList.take p) = .ok n.data.toList (nx.getD (A.size + n.size)) := by
  have hS : (A ++ n ++ B).size = A.size + n.size + B.size := by simp [ByteArray.size_append]
  have hget : ∀ i, i < n.size → (A ++ n ++ B).data.toList[A.size + i]? = n.data.toList[i]? := by
    intro i hi
    rw [show (A ++ n ++ B).data.toList = A.data.toList ++ n.data.toList ++ B.data.toList by simp [ByteArray.data_append]]
    have hAl : A.data.toList.length = A.size := by rw [Array.length_toList]; rfl
    have hnl : n.data.toList.length = n.size := by rw [Array.length_toList]; rfl
    rw [List.getElem?_append_left (by rw [List.length_append]; omega), List.getElem?_append_right (by omega)]
    congr 1
    omega
  have hbt : ∀ i, i < n.size → bt (A ++ n ++ B) (A.size + i) = bt n i := by intro i hi; unfold bt; rw [hget i hi]
  have hnl : n.data.toList.length = n.size := by rw [Array.length_toList]; rfl
  intro k
  induction k using Nat.strongRecOn with
  | _ k ih =>
    intro p hk hsc
    have hp := scan_lt hsc
    by_cases h0 : bt n p = 0
    · have hr := scan_root hsc h0
      rw [rd_end (by omega) (by rw [hbt p hp]; exact h0)]
      have h2 : n.data.toList[p]'(by omega) = 0 := by
        unfold bt at h0
        rw [List.getElem?_eq_getElem (by omega)] at h0
        simp only [Option.getD_some] at h0
        exact UInt8.toNat_inj.1 (by simpa using h0)
      have e := List.take_succ_eq_append_getElem (l := n.data.toList) (i := p) (by omega)
      rw [List.take_of_length_le (by omega), h2] at e
      rw [← e, show A.size + p + 1 = A.size + n.size by omega]
    · obtain ⟨h1, h2, h3⟩ := scan_lab hsc h0
      have hb := hbt p hp
      have hlab : lab (A ++ n ++ B) (A.size + p) = (n.data.toList.drop p).take (1 + bt n p) := by
        rw [lab_eq', hb]
        apply List.ext_getElem?
        intro i
        by_cases hi : i < 1 + bt n p
        · rw [List.getElem?_take_of_lt hi, List.getElem?_take_of_lt hi, List.getElem?_drop, List.getElem?_drop, Nat.add_assoc, hget (p + i) (by omega)]
        · rw [List.getElem?_eq_none (by simp; omega), List.getElem?_eq_none (by simp; omega)]
      rw [rd_label (by rw [hb]; exact h0) (by rw [hb]; omega) (by rw [hb]; omega) (by rw [hb, List.length_take]; omega), hlab, hb]
      have e : n.data.toList.take p ++ (n.data.toList.drop p).take (1 + bt n p) = n.data.toList.take (p + 1 + bt n p) := by
        rw [← List.take_add]; congr 1; omega
      rw [e, show A.size + p + 1 + bt n p = A.size + (p + 1 + bt n p) by omega]
      exact ih (n.size - (p + 1 + bt n p)) (by omega) _ rfl h3
theorem rdAt_name (A n B : ByteArray) (h : may n = true) : rdAt (A ++ n ++ B) (A.size : Int) = .ok n.data.toList (A.size + n.size) := by
  obtain ⟨h1, h2⟩ := may_size h
  rw [rdAt_in (by omega) (by simp [ByteArray.size_append]; omega)]
  have := rd_name A n B h1 A.size none _ 0 rfl h2
  simpa using this
end Go.Proofs.YtijjfdmklbncbaaDoor
