/-
  Wire: the same questions, records, messages.
  Wire: Same.
  Wire: how much a message is: records, large.
-/
import Derived.Test.YtkhigfbmdolgmaaGreatDoorA20
import Derived.Test.YtkhigfbmdolgmaaGreatDoorA11
import Derived.Laws.StructEq
namespace Go.Proofs.YtkhigfbmdolgmaaGreatDoor
open Go.RowKit

theorem qn_eq (w : World) (x y : Qn) : (Op.equalIn 10000 35 (.agg #[.string x.name, .int .u16 x.kind, .int .u16 x.cls]) (.agg #[.string y.name, .int .u16 y.kind, .int .u16 y.cls])).run Tryz.prog w = .ok (decide (x = y)) w := by
  obtain ⟨a, b, c⟩ := x
  obtain ⟨a', b', c'⟩ := y
  dsimp only
  by_cases h1 : a = a'
  · by_cases h2 : b = b'
    · by_cases h3 : c = c'
      · simp [go_sem, h1, h2, h3]
      · have : ¬ (c : Int) = (c' : Int) := by omega
        simp [go_sem, h1, h2, h3, this]
    · have : ¬ (b : Int) = (b' : Int) := by omega
      simp [go_sem, h1, h2, this]
  · have : ¬ a.toList = a'.toList := fun h => h1 (ba_inj h)
    simp [go_sem, h1, this]
theorem rc_eq (w : World) (x y : Rc) : (Op.equalIn 10000 93 (.agg #[.string x.name, .int .u16 x.kind, .int .u16 x.cls, .int .u32 x.ttl, .string x.data]) (.agg #[.string y.name, .int .u16 y.kind, .int .u16 y.cls, .int .u32 y.ttl, .string y.data])).run Tryz.prog w = .ok (decide (x = y)) w := by
  obtain ⟨a, b, c, d, e⟩ := x
  obtain ⟨a', b', c', d', e'⟩ := y
  dsimp only
  by_cases h1 : a = a'
  · by_cases h2 : b = b'
    · by_cases h3 : c = c'
      · by_cases h4 : d = d'
        · by_cases h5 : e = e'
          · simp [go_sem, h1, h2, h3, h4, h5]
          · have : ¬ e.toList = e'.toList := fun h => h5 (ba_inj h)
            simp [go_sem, h1, h2, h3, h4, h5, this]
        · have : ¬ (d : Int) = (d' : Int) := by omega
          simp [go_sem, h1, h2, h3, h4, this]
      · have : ¬ (c : Int) = (c' : Int) := by omega
        simp [go_sem, h1, h2, h3, this]
    · have : ¬ (b : Int) = (b' : Int) := by omega
      simp [go_sem, h1, h2, this]
  · have : ¬ a.toList = a'.toList := fun h => h1 (ba_inj h)
    simp [go_sem, h1, this]

end Go.Proofs.YtkhigfbmdolgmaaGreatDoor
namespace Go.Proofs.YtkhigfbmdolgmaaGreatDoor
open Go.RowKit

deriving instance DecidableEq for Hd
deriving instance DecidableEq for Ms
set_option maxRecDepth 100000 in
set_option maxHeartbeats 4000000 in
theorem hd_eq (w : World) (x y : Hd) : (Op.equalIn 10000 25 (.agg #[.int .u16 x.id, .bool x.qr, .int .u8 x.op, .bool x.aa, .bool x.tc, .bool x.rd, .bool x.ra, .bool x.z, .bool x.ad, .bool x.cd, .int .u8 x.code]) (.agg #[.int .u16 y.id, .bool y.qr, .int .u8 y.op, .bool y.aa, .bool y.tc, .bool y.rd, .bool y.ra, .bool y.z, .bool y.ad, .bool y.cd, .int .u8 y.code])).run Tryz.prog w = .ok (decide (x = y)) w := by
  obtain ⟨a0, a1, a2, a3, a4, a5, a6, a7, a8, a9, aa⟩ := x
  obtain ⟨b0, b1, b2, b3, b4, b5, b6, b7, b8, b9, ba⟩ := y
  dsimp only
  by_cases h0 : a0 = b0
  · by_cases h1 : a1 = b1
    · by_cases h2 : a2 = b2
      · by_cases h3 : a3 = b3
        · by_cases h4 : a4 = b4
          · by_cases h5 : a5 = b5
            · by_cases h6 : a6 = b6
              · by_cases h7 : a7 = b7
                · by_cases h8 : a8 = b8
                  · by_cases h9 : a9 = b9
                    · by_cases h10 : aa = ba
                      · simp [go_sem, h0, h1, h2, h3, h4, h5, h6, h7, h8, h9, h10]
                      · have hi : ¬ (aa : Int) = (ba : Int) := by omega
                        simp [go_sem, h0, h1, h2, h3, h4, h5, h6, h7, h8, h9, h10, hi]
                    · simp [go_sem, h0, h1, h2, h3, h4, h5, h6, h7, h8, h9]
                  · simp [go_sem, h0, h1, h2, h3, h4, h5, h6, h7, h8]
                · simp [go_sem, h0, h1, h2, h3, h4, h5, h6, h7]
              · simp [go_sem, h0, h1, h2, h3, h4, h5, h6]
            · simp [go_sem, h0, h1, h2, h3, h4, h5]
          · simp [go_sem, h0, h1, h2, h3, h4]
        · simp [go_sem, h0, h1, h2, h3]
      · have hi : ¬ (a2 : Int) = (b2 : Int) := by omega
        simp [go_sem, h0, h1, h2, hi]
    · simp [go_sem, h0, h1]
  · have hi : ¬ (a0 : Int) = (b0 : Int) := by omega
    simp [go_sem, h0, hi]
theorem ms_ne (m n : Ms) (h : ¬ m = n) : decide (m = n) = false := decide_eq_false h
theorem ms_eq {m n : Ms} (h0 : m.h = n.h) (h1 : m.qs = n.qs) (h2 : m.an = n.an) (h3 : m.au = n.au) (h4 : m.ex = n.ex) (h5 : m.has = n.has) : decide (m = n) = edB m.sz m.e m.v m.f m.ops n.sz n.e n.v n.f n.ops := by
  obtain ⟨a0, a1, a2, a3, a4, a5, a6, a7, a8, a9, aa⟩ := m
  obtain ⟨b0, b1, b2, b3, b4, b5, b6, b7, b8, b9, ba⟩ := n
  dsimp only at *
  subst h0 h1 h2 h3 h4 h5
  unfold edB
  rw [Bool.eq_iff_iff]
  simp only [decide_eq_true_eq, Ms.mk.injEq, true_and]
  constructor
  · rintro ⟨h1, h2, h3, h4, h5⟩
    exact ⟨by rw [h1], by rw [h2], by rw [h3], by rw [h4], h5⟩
  · rintro ⟨h1, h2, h3, h4, h5⟩
    exact ⟨by omega, by omega, by omega, by omega, h5⟩

end Go.Proofs.YtkhigfbmdolgmaaGreatDoor
namespace Go.Proofs.YtkhigfbmdolgmaaGreatDoor
open Go.RowKit

def rcW (r : Rc) : Nat := 12 + min 5000 r.name.size + min 5000 r.data.size
/-- A sum that is stopped at 5000. -/
def stS {α : Type} (f : α → Nat) : List α → Nat → Nat
  | [], s => s
  | r :: l, s => if s < 5000 then stS f l (s + f r) else s
theorem stS_stop {α : Type} (f : α → Nat) (l : List α) (s : Nat) (h : ¬ s < 5000) : stS f l s = s := by
  cases l with
  | nil => rfl
  | cons r l => rw [stS, if_neg h]
theorem stS_go {α : Type} (f : α → Nat) {l : List α} {k s : Nat} (hk : k < l.length) (h : s < 5000) : stS f (l.drop k) s = stS f (l.drop (k + 1)) (s + f l[k]) := by
  rw [List.drop_eq_getElem_cons hk, stS, if_pos h]
theorem stS_end {α : Type} (f : α → Nat) {l : List α} {k s : Nat} (hk : l.length ≤ k) : stS f (l.drop k) s = s := by
  rw [List.drop_eq_nil_of_le hk, stS]
theorem stS_sum {α : Type} (f : α → Nat) : ∀ (l : List α) (s : Nat), (stS f l s < 5000 → stS f l s = s + (l.map f).sum) ∧ s ≤ stS f l s := by
  intro l
  induction l with
  | nil => intro s; exact ⟨fun _ => by simp [stS], by simp [stS]⟩
  | cons r l ih =>
    intro s
    rw [stS]
    split
    · obtain ⟨h1, h2⟩ := ih (s + f r)
      exact ⟨fun h => by rw [h1 h]; simp; omega, by omega⟩
    · exact ⟨fun h => by omega, Nat.le_refl _⟩
theorem stS_le {α : Type} (f : α → Nat) (hf : ∀ x, f x ≤ 10012) : ∀ (l : List α) (s : Nat), s ≤ 15012 → stS f l s ≤ 15012 := by
  intro l
  induction l with
  | nil => intro s h; exact h
  | cons r l ih =>
    intro s h
    rw [stS]
    split
    · have := hf r
      exact ih _ (by omega)
    · exact h
theorem rcW_le (r : Rc) : rcW r ≤ 10012 := by unfold rcW; omega
def qnW (q : Qn) : Nat := 5 + min 5000 q.name.size
def opW (o : Opt) : Nat := 5 + min 5000 o.2.size
theorem qnW_le (q : Qn) : qnW q ≤ 10012 := by unfold qnW; omega
theorem opW_le (o : Opt) : opW o ≤ 10012 := by unfold opW; omega
/-- How much a message is. -/
def Ms.n0 (m : Ms) : Nat := stS rcW m.an 0 + stS rcW m.au 0 + stS rcW m.ex 0
def Ms.big (m : Ms) : Nat := stS opW m.ops (stS qnW m.qs m.n0)
/-- Nothing in it is longer than memory. -/
structure Ms.mem (m : Ms) : Prop where
  ql : m.qs.length ≤ maxLen
  al : m.an.length ≤ maxLen
  ul : m.au.length ≤ maxLen
  xl : m.ex.length ≤ maxLen
  ol : m.ops.length ≤ maxLen
  q : ∀ x ∈ m.qs, x.name.size ≤ maxLen
  a : ∀ r ∈ m.an, r.name.size ≤ maxLen ∧ r.data.size ≤ maxLen
  u : ∀ r ∈ m.au, r.name.size ≤ maxLen ∧ r.data.size ≤ maxLen
  x : ∀ r ∈ m.ex, r.name.size ≤ maxLen ∧ r.data.size ≤ maxLen
  o : ∀ x ∈ m.ops, x.2.size ≤ maxLen

end Go.Proofs.YtkhigfbmdolgmaaGreatDoor
