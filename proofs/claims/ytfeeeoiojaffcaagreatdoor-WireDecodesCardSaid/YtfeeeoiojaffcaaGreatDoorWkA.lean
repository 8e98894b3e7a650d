/-
  Wire: what the document says of a message (plain).
-/
import Derived.Test.YtfeeeoiojaffcaaGreatDoorA16
namespace Go.Proofs.YtfeeeoiojaffcaaGreatDoor
open Go.RowKit

theorem mayD_41 (d : ByteArray) : mayD 41 d = false := by
  unfold mayD whF splF
  rw [if_pos rfl]
  rfl
def okR' (r : Rc) : Bool := may r.name && mayD r.kind r.data
theorem okR_same (r : Rc) : okR r = okR' r := by
  unfold okR okR'
  by_cases h : r.kind = 41
  · rw [h, mayD_41]; simp
  · simp [h]
theorem okR_eq : okR = okR' := funext okR_same
/-- Whether the document lets a section be. -/
def secB (l : List Rc) : Bool := decide (l.length ≤ 65535) && l.all okR'
/-- What the document asks first. -/
def Ms.hB (m : Ms) : Bool := decide (15 < m.h.op) || decide (15 < m.h.code) || decide (65535 < m.qs.length) || (!m.has && !m.zero) || (m.has && decide (65534 < m.ex.length))
theorem Ms.may_doc (m : Ms) : m.may = (!m.hB && m.qs.all okQ && secB m.an && secB m.au && secB m.ex) := by
  rw [Bool.eq_iff_iff, Ms.may_yes]
  unfold secB Ms.hB
  rw [← okR_eq]
  constructor
  · intro y
    have hb := y.h
    unfold Hd.bad at hb
    have xl := y.xl
    unfold Ms.xn at xl
    have hz := y.z
    simp only [Bool.and_eq_true, Bool.not_eq_true', Bool.or_eq_false_iff, decide_eq_false_iff_not, decide_eq_true_eq, Bool.and_eq_false_iff, Bool.not_eq_false']
    refine ⟨⟨⟨⟨⟨⟨⟨⟨by omega, by omega⟩, by have := y.ql; omega⟩, ?_⟩, ?_⟩, y.q⟩, y.al, y.a⟩, y.ul, y.u⟩, by omega, y.x⟩
    · cases hh : m.has with
      | true => exact .inl (by simp)
      | false => rw [hh] at hz; exact .inr (by simpa using hz)
    · cases hh : m.has with
      | false => exact .inl rfl
      | true => rw [hh] at xl; exact .inr (by simp at xl; omega)
  · intro h
    simp only [Bool.and_eq_true, Bool.not_eq_true', Bool.or_eq_false_iff, decide_eq_false_iff_not, decide_eq_true_eq, Bool.and_eq_false_iff, Bool.not_eq_false'] at h
    obtain ⟨⟨⟨⟨⟨⟨⟨⟨h1, h2⟩, h3⟩, h4⟩, h5⟩, hq⟩, ha1, ha2⟩, hu1, hu2⟩, hx1, hx2⟩ := h
    refine ⟨by unfold Hd.bad; omega, by omega, ha1, hu1, ?_, hq, ha2, hu2, hx2, ?_⟩
    · unfold Ms.xn
      cases hh : m.has with
      | false => simp; omega
      | true => rw [hh] at h5; simp at h5 ⊢; omega
    · cases hh : m.has with
      | true => rfl
      | false => rw [hh] at h4; simpa using h4
theorem wrF_low_ (cmp : Bool) : ∀ (l : List Pc) (T : Tb) (out : List UInt8), Low T → Low (wrF cmp l T out).2 := by
  intro l
  induction l with
  | nil => intro T out h; exact h
  | cons x l ih =>
    intro T out h
    cases hn : x.name with
    | true => rw [wrF_nam hn]; exact ih _ _ (putF_low x.text cmp cmp _ 0 T out rfl h)
    | false => rw [wrF_txt hn]; exact ih _ _ h
theorem rF_low {s : Ws} (h : Low s.2) (r : Rc) : Low (rF s r).2 := by
  unfold rF rD
  exact wrF_low_ _ _ _ _ (putF_low r.name true true _ 0 s.2 s.1 rfl h)
theorem qF_low {s : Ws} (h : Low s.2) (q : Qn) : Low (qF s q).2 := putF_low q.name true true _ 0 s.2 s.1 rfl h
theorem qsF_take_le (s : Ws) (l : List Qn) (k : Nat) : (qsF s (l.take k)).le (qsF s l) := by
  have : qsF s l = qsF (qsF s (l.take k)) (l.drop k) := by
    unfold qsF
    rw [← List.foldl_append, List.take_append_drop]
  rw [this]
  exact qsF_le _ _
theorem rsF_take_le (s : Ws) (l : List Rc) (k : Nat) : (rsF s (l.take k)).le (rsF s l) := by
  have : rsF s l = rsF (rsF s (l.take k)) (l.drop k) := by
    unfold rsF
    rw [← List.foldl_append, List.take_append_drop]
  rw [this]
  exact rsF_le _ _
theorem qsF_low {s : Ws} (h : Low s.2) (l : List Qn) : Low (qsF s l).2 := by
  induction l generalizing s with
  | nil => exact h
  | cons q l ih => exact ih (qF_low h q)
theorem rsF_low {s : Ws} (h : Low s.2) (l : List Rc) : Low (rsF s l).2 := by
  induction l generalizing s with
  | nil => exact h
  | cons q l ih => exact ih (rF_low h q)
theorem nmF_root (s : Ws) : nmF root0 s = (s.1 ++ [0], s.2) := by
  unfold nmF
  rw [putF, dif_neg (by decide +kernel)]
theorem wE_long {m : Ms} (hm : m.may = true) {s : Ws} (hs : s.le m.s5) (h : 65535 < s.1.length) : m.wE = 5 := by
  unfold Ms.wE
  rw [if_neg (by rw [hm]; simp), if_pos (.inr (by have := hs.len; omega))]
theorem wE_opts {m : Ms} (hm : m.may = true) (h1 : m.has = true) (h2 : ¬ okO m.ops) : m.wE = 5 := by
  unfold Ms.wE
  rw [if_neg (by rw [hm]; simp), if_pos (.inl ⟨h1, h2⟩)]
theorem wE_fine {m : Ms} (hm : m.may = true) (h1 : m.has = true → okO m.ops) (h : m.s5.1.length ≤ 65535) : m.wE = 0 := by
  unfold Ms.wE
  rw [if_neg (by rw [hm]; simp), if_neg]
  rintro (⟨k1, k2⟩ | k)
  · exact k2 (h1 k1)
  · omega
theorem wE_not {m : Ms} (hm : m.may = false) : m.wE = 3 := if_pos hm
/-- Bytes of a state, as a string. -/
def Ws.str (s : Ws) : ByteArray := ⟨s.1.toArray⟩
theorem Ws.str_size (s : Ws) : s.str.size = s.1.length := size_mk _
end Go.Proofs.YtfeeeoiojaffcaaGreatDoor
