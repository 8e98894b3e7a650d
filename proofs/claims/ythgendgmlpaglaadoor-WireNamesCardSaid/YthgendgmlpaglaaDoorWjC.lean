/-
  Wire: how long a message is with its names whole.
-/
import Derived.Test.YthgendgmlpaglaaDoorWjQ
namespace Go.Proofs.YthgendgmlpaglaaDoor
open Go.RowKit

def qnS (q : Qn) : Nat := q.name.size + 4
def rcS (r : Rc) : Nat := r.name.size + 10 + r.data.size
def opS (o : Opt) : Nat := 4 + o.2.size
def suF {α : Type} (f : α → Nat) (l : List α) : Nat := (l.map f).sum
theorem suF_at {α : Type} (f : α → Nat) {l : List α} {k : Nat} (h : k < l.length) : suF f (l.drop k) = f l[k] + suF f (l.drop (k + 1)) := by
  unfold suF
  rw [List.drop_eq_getElem_cons h, List.map_cons, List.sum_cons]
theorem suF_end {α : Type} (f : α → Nat) {l : List α} {k : Nat} (h : ¬ k < l.length) : suF f (l.drop k) = 0 := by
  unfold suF
  rw [List.drop_of_length_le (by omega)]
  rfl
def Ms.sec (m : Ms) : Nat → List Rc
  | 0 => m.an
  | 1 => m.au
  | _ => m.ex
theorem whole_eq (m : Ms) : m.whole = 12 + suF qnS m.qs + suF rcS m.an + suF rcS m.au + suF rcS m.ex + (if m.has = true then 11 + suF opS m.ops else 0) := rfl
def Ms.secS (m : Ms) : Nat → Nat
  | 0 => 0
  | 1 => suF rcS m.an
  | 2 => suF rcS m.an + suF rcS m.au
  | _ => suF rcS m.an + suF rcS m.au + suF rcS m.ex
theorem secS_at (m : Ms) {k : Nat} (h : k < 3) : m.secS (k + 1) = m.secS k + suF rcS (m.sec k) := by
  match k, h with
  | 0, _ => show suF rcS m.an = 0 + _; rw [Nat.zero_add]; rfl
  | 1, _ => rfl
  | 2, _ => rfl
theorem secS_le (m : Ms) (k : Nat) : m.secS k ≤ suF rcS m.an + suF rcS m.au + suF rcS m.ex := by
  match k with
  | 0 => exact Nat.zero_le _
  | 1 => show suF rcS m.an ≤ _; omega
  | 2 => show suF rcS m.an + suF rcS m.au ≤ _; omega
  | _ + 3 => exact Nat.le_refl _
theorem sec_len {m : Ms} (hm : m.mem) (k : Nat) : (m.sec k).length ≤ maxLen ∧ ∀ r ∈ m.sec k, r.name.size ≤ maxLen ∧ r.data.size ≤ maxLen := by
  match k with
  | 0 => exact ⟨hm.al, hm.a⟩
  | 1 => exact ⟨hm.ul, hm.u⟩
  | _ + 2 => exact ⟨hm.xl, hm.x⟩
theorem suF_drop_le {α : Type} (f : α → Nat) (l : List α) (k : Nat) : suF f (l.drop k) ≤ suF f l := by
  induction l generalizing k with
  | nil => simp [suF]
  | cons x l ih =>
    cases k with
    | zero => exact Nat.le_refl _
    | succ k =>
      have := ih k
      show suF f (l.drop k) ≤ suF f (x :: l)
      have e : suF f (x :: l) = f x + suF f l := by simp [suF]
      omega

def sel {α : Type} (a b c : α) : Nat → α
  | 0 => a
  | 1 => b
  | _ => c
theorem sec3 {AA AU AX : Option Addr} {la lu lx ca cu cx bl : Nat} {m : Ms} {w' : World} {vq vo : Value} (k : Nat) (h : k < 3) (e1 : la = m.an.length) (e2 : lu = m.au.length) (e3 : lx = m.ex.length)
    (hb : w'.heap[bl]? = some (.cells #[.slice AA la ca, .slice AU lu cu, .slice AX lx cx] 32 (0, 0))) (hv : MsV w' m vq (.slice AA la ca) (.slice AU lu cu) (.slice AX lx cx) vo) :
    w'.cell? ⟨bl, k, none⟩ = some (.slice (sel AA AU AX k) (m.sec k).length (sel ca cu cx k)) ∧ Rs w' (.slice (sel AA AU AX k) (m.sec k).length (sel ca cu cx k)) (m.sec k) := by
  subst e1 e2 e3
  match k, h with
  | 0, _ => exact ⟨bcellAt hb 0, hv.a⟩
  | 1, _ => exact ⟨bcellAt hb 1, hv.u⟩
  | 2, _ => exact ⟨bcellAt hb 2, hv.x⟩

end Go.Proofs.YthgendgmlpaglaaDoor
