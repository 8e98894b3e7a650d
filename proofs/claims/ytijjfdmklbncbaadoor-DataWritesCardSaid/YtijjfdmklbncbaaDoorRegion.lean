/-
  Two laws for statements whose order Go leaves open. (1) 'wp_region_gr': every operation reads old memory or makes new memory alone, and yields one value whatever new memory there is: one walk in the order of the text serves. (2) 'wp_region_head_gr': the first n operations come up in the order of the text (a call among them may write), what is behind them is as in (1).
-/
import Derived.Test.YtijjfdmklbncbaaDoorBase
import Derived.Deep.RegionHeld3
namespace Go.Proofs.YtijjfdmklbncbaaDoor
open Go.RowKit

/-- A world that is w0 with new blocks. -/
structure Gr (w0 : World) where
  w : World
  h : w0.grownBy w none
instance (w0 : World) : Inhabited (Gr w0) := ⟨⟨w0, grefl w0 none⟩⟩
@[go_sem, simp] theorem Gr.ex {w0 : World} (g : Gr w0) : (∃ m : Gr w0, g.w = m.w) = True := eq_true ⟨g, rfl⟩
theorem Gr.cell {w0 : World} {a : Addr} {v : Value} (h : w0.cell? a = some v) : ∀ g : Gr w0, g.w.cell? a = some v := fun g => g.h.cell h (by simp)

section
variable {P : Program} {Q : Exit → Act → World → Prop} {a : Act} {w : World}

theorem wp_region_gr {id : Nat} {l : List Oper} (hm : P.follows .mixedOrders = true) (hB : Region.lexB .any l.toArray = true)
    (h : wpQuiet P l.toArray (fun w' => ∃ g : Gr w, w' = g.w) (fun a' => ∀ w', (∃ g : Gr w, w' = g.w) → Q .normal a' w') l a) : (Code.region id l.toArray true).wp P Q a w :=
  wp_region_quiet (C := fun w' => ∃ g : Gr w, w' = g.w) hm hB ⟨⟨w.drew, gdrew (grefl w none)⟩, rfl⟩ (by simpa using h)

/-- A callee that makes new memory alone, met in a world of the class. -/
theorem Calls.gr {f : FuncId} {args : Array Value} {g : Gr w} {v : Value} (h : Calls P f args g.w fun e w' => e = .returned v ∧ g.w.grownBy w' none) :
    Calls P f args g.w fun e w'' => e = .returned v ∧ ∃ m : Gr w, w'' = m.w :=
  h.mono fun _ w' ⟨he, hg⟩ => ⟨he, ⟨w', gtrans g.h hg⟩, rfl⟩

def isMove (o : Oper) : Bool := o.guard.isNone && match o.op with | .move _ => true | _ => false
/-- The first operations come up in the order of the text. -/
def headB (md : Region.Mode) (ops : Array Oper) : Nat → Nat → Array Bool → Bool
  | 0, k, listed => Region.lexFrom md ops (ops.size - k) k listed
  | f + 1, k, listed => (decide (Region.ready md ops listed = [k]) || (match ops[k]? with | some o => isMove o | none => false) && (Region.ready md ops listed).contains k && Region.free md ops listed k) && headB md ops f (k + 1) (listed.setIfInBounds k true)

/-- What stands behind the head. -/
def headQ (P : Program) (ops : Array Oper) (Q : Exit → Act → World → Prop) (rest : List Oper) : Exit → Act → World → Prop :=
  Exit.then (fun a' w' => wpQuiet P ops (fun w'' => ∃ g : Gr w', w'' = g.w) (fun a'' => ∀ w'', (∃ g : Gr w', w'' = g.w) → Q .normal a'' w'') rest a') Q

theorem letsOut_head {ops : Array Oper} {rest : List Oper} (h : LetsOut (headQ P ops Q rest)) : LetsOut Q := h
theorem wp_head {o : Oper} {K : Act → World → Prop} {ops : Array Oper} {rest : List Oper} (h : o.wp P a w K (headQ P ops Q rest)) : o.wp P a w K Q := by
  unfold Oper.wp at *
  generalize (execOp a.eval o).run P w = r at *
  cases r with
  | ok n w' =>
    cases n <;> simp only [Oper.upon] at h ⊢
    case enter f args => exact Calls.mono h (fun e w'' he => by cases e <;> exact he)
    all_goals exact h
  | halt x w' => cases x <;> simp only [Oper.upon] at h ⊢ <;> exact h

theorem move_asks {o : Oper} (x : Operand) (h : o.op = .move x) : ¬ o.asks P a w := by
  intro ha
  have h1 := ha.1
  unfold execOp at h1
  rw [h] at h1
  exact absurd h1 (by
    show noRoomEvent ∉ (#[] : Array _)
    simp)

theorem wpAny_head {ops : Array Oper} {md : Region.Mode} (hs : Region.noSelect ops = true) (hQ : ∀ c a b w, Q (.panic c) a w → Q (.panic c) b w) (n : Nat) :
    ∀ (l : List Oper) (k : Nat) (listed : Array Bool) (a : Act) (w : World), (∀ j, j < l.length → l[j]? = ops[k + j]?) → k + l.length = n → n ≤ ops.size →
      headB md ops l.length k listed = true → wpList P ops (headQ P ops Q (ops.toList.drop n)) l a w → wpAny P md ops Q (l.length + (ops.size - n)) listed a w
  | [], k, listed, a, w, _, hk, hn, hB, h => by
    obtain rfl : k = n := by simpa using hk
    have h' : wpQuiet P ops (fun w'' => ∃ g : Gr w, w'' = g.w) (fun a'' => ∀ w'', (∃ g : Gr w, w'' = g.w) → Q .normal a'' w'') (ops.toList.drop k) a := h
    have hlen : (ops.toList.drop k).length = ops.size - k := by simp
    have := wpAnyQ_lex (P := P) (md := md) (C := fun w'' => ∃ g : Gr w, w'' = g.w) hs (ops.toList.drop k) k listed a (by intro j; simp [List.getElem?_drop]) (by rw [hlen]; simpa [headB] using hB) h'
    rw [hlen] at this
    have := wpAny_of_quiet (Q' := Q) (fun a' w' hw' h => h w' hw') (ops.size - k) listed a w ⟨⟨w, grefl w none⟩, rfl⟩ this
    simpa using this
  | o :: l, k, listed, a, w, hl, hk, hn, hB, h => by
    have h0 : ops[k]? = some o := by simpa using (hl 0 (by simp)).symm
    simp only [List.length_cons, headB, Bool.and_eq_true, Bool.or_eq_true, decide_eq_true_eq, h0] at hB
    obtain ⟨hB1, hB2⟩ := hB
    have hk' : k + 1 + l.length = n := by simp only [List.length_cons] at hk; omega
    have hl' : ∀ j, j < l.length → l[j]? = ops[k + 1 + j]? := fun j hj => by
      have := hl (j + 1) (by simp; omega)
      simpa [Nat.add_assoc, Nat.add_comm 1 j] using this
    have rec_ := fun a' w' => wpAny_head hs hQ n l (k + 1) (listed.setIfInBounds k true) a' w' hl' hk' hn hB2
    rw [show (o :: l).length + (ops.size - n) = (l.length + (ops.size - n)) + 1 by simp only [List.length_cons]; omega]
    rcases hB1 with hone | ⟨⟨hmv, hr⟩, hf⟩
    · refine ⟨fun h1 => (by rw [hone] at h1; cases h1), fun i hi => ?_⟩
      rw [hone] at hi
      obtain rfl : i = k := by simpa using hi
      unfold wpOp
      simp only [h0]
      simp only [wpList] at h
      split
      · rename_i hw
        simp only [hw, if_true] at h
        rcases h with h | h
        · exact .inl (Oper.wp_mono rec_ (wp_head h))
        · exact .inr ⟨h.1, letsOut_head h.2⟩
      · rename_i hw
        simp only [hw] at h
        exact rec_ _ _ h
    · unfold isMove at hmv
      simp only [Bool.and_eq_true, Option.isNone_iff_eq_none] at hmv
      obtain ⟨hg, hmv⟩ := hmv
      cases hop : o.op <;> simp only [hop] at hmv <;> try cases hmv
      rename_i x
      have hw : Region.wanted o (yielded ops a.tmps) = true := by simp [Region.wanted, hg]
      simp only [wpList, hw, if_true] at h
      have hrun := fun w => BigFrame.run_move (P := P) (ρ := a.eval) x hop w
      have h2 : wpList P ops (headQ P ops Q (ops.toList.drop n)) l (a.put o.dst (a.eval x)) w := by
        rcases h with h | h
        · unfold Oper.wp at h
          rw [hrun] at h
          exact h
        · exact absurd h.1 (move_asks x hop)
      exact wpAny_take h0 hs hf hr (fun c a w => hQ c _ _ w) (.inl ⟨hw, hrun⟩) (rec_ _ _ h2)

theorem wp_region_head_gr {id : Nat} {l : List Oper} (n : Nat) (hm : P.follows .mixedOrders = true) (hQ : ∀ c a b w, Q (.panic c) a w → Q (.panic c) b w) (hB : (Region.noSelect l.toArray && decide (n ≤ l.length) && headB .any l.toArray n 0 (Array.replicate l.toArray.size false)) = true)
    (h : wpList P l.toArray (headQ P l.toArray Q (l.drop n)) (l.take n) a w.drew) : (Code.region id l.toArray true).wp P Q a w := by
  simp only [Bool.and_eq_true, decide_eq_true_eq] at hB
  obtain ⟨⟨hs, hn⟩, hB⟩ := hB
  refine wp_region_any hm ?_
  have htl : (l.take n).length = n := by simp; omega
  have := wpAny_head (P := P) (Q := Q) (md := .any) hs hQ n (l.take n) 0 (Array.replicate l.toArray.size false) a w.drew (fun j hj => by
    have hj' : j < n := by rw [htl] at hj; exact hj
    simp [hj']) (by simpa using htl) (by simpa using hn) (by rw [htl]; exact hB) (by simpa using h)
  rw [htl, show n + (l.toArray.size - n) = l.toArray.size by simp; omega] at this
  exact this
/-- The same, where the post of a panic may hang on the frame: the region must be shown not to panic. -/
theorem wp_region_head_grn {id : Nat} {l : List Oper} (n : Nat) (hm : P.follows .mixedOrders = true) (hB : (Region.noSelect l.toArray && decide (n ≤ l.length) && headB .any l.toArray n 0 (Array.replicate l.toArray.size false)) = true)
    (h : wpList P l.toArray (headQ P l.toArray (NoPanic Q) (l.drop n)) (l.take n) a w.drew) : (Code.region id l.toArray true).wp P Q a w :=
  wp_region_noPanic (wp_region_head_gr n hm (fun _ _ _ _ h => h) hB h)
theorem headQ_normal {ops : Array Oper} {rest : List Oper} (h : wpQuiet P ops (fun w'' => ∃ g : Gr w, w'' = g.w) (fun a'' => ∀ w'', (∃ g : Gr w, w'' = g.w) → Q .normal a'' w'') rest a) : headQ P ops Q rest .normal a w := h
end
end Go.Proofs.YtijjfdmklbncbaaDoor
