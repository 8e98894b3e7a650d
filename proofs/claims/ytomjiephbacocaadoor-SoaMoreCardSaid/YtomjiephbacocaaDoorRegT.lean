/-
  The law of segments with forks: two operations that make memory may come up side by side; then each may be first. (Over the class of worlds of XRegB.)
-/
import Derived.Test.YtomjiephbacocaaDoorA1
namespace Go.Proofs.YtomjiephbacocaaDoor
open Go.RowKit

inductive Tr where
  | done
  | quiet (is : List Nat) (r : Tr)
  | one (i : Nat) (r : Tr)
  | two (i : Nat) (r : Tr) (j : Nat) (s : Tr)
  | three (i : Nat) (r : Tr) (j : Nat) (s : Tr) (k : Nat) (t : Tr)
section
variable {B : Nat} {P : Program} {ops : Array Oper} {Q : Exit → Act → World → Prop} {md : Region.Mode}
def trLen : Tr → Nat
  | .done => 0
  | .quiet is r => is.length + trLen r
  | .one _ r => trLen r + 1
  | .two _ r _ _ => trLen r + 1
  | .three _ r _ _ _ _ => trLen r + 1
def trB (md : Region.Mode) (ops : Array Oper) : Tr → Array Bool → Bool
  | .done, listed => (Region.ready md ops listed).isEmpty
  | .quiet is r, listed => takesB md ops is listed && trB md ops r (setAll is listed)
  | .one i r, listed => decide (Region.ready md ops listed = [i]) && (ops[i]?).isSome && trB md ops r (listed.setIfInBounds i true)
  | .two i r j s, listed => decide (Region.ready md ops listed = [i, j]) && (ops[i]?).isSome && (ops[j]?).isSome && decide (trLen s = trLen r) && trB md ops r (listed.setIfInBounds i true) && trB md ops s (listed.setIfInBounds j true)
  | .three i r j s k t, listed => decide (Region.ready md ops listed = [i, j, k]) && (ops[i]?).isSome && (ops[j]?).isSome && (ops[k]?).isSome && decide (trLen s = trLen r) && decide (trLen t = trLen r) && trB md ops r (listed.setIfInBounds i true) && trB md ops s (listed.setIfInBounds j true) && trB md ops t (listed.setIfInBounds k true)
def wpTr (B : Nat) (P : Program) (ops : Array Oper) (Q : Exit → Act → World → Prop) : Tr → Act → World → Prop
  | .done, a, w => Q .normal a w
  | .quiet is r, a, w => wpQuiet P ops (fun u => ∃ g : GrB B w, u = g.w) (fun a' => wpTr B P ops Q r a' w) (is.filterMap fun i => ops[i]?) a
  | .one i r, a, w => wpList P ops (Exit.then (fun a' w' => KB B w w' ∧ wpTr B P ops Q r a' w') Q) ([i].filterMap fun i => ops[i]?) a w
  | .two i r j s, a, w => wpList P ops (Exit.then (fun a' w' => KB B w w' ∧ wpTr B P ops Q r a' w') Q) ([i].filterMap fun i => ops[i]?) a w ∧ wpList P ops (Exit.then (fun a' w' => KB B w w' ∧ wpTr B P ops Q s a' w') Q) ([j].filterMap fun i => ops[i]?) a w
  | .three i r j s k t, a, w => wpList P ops (Exit.then (fun a' w' => KB B w w' ∧ wpTr B P ops Q r a' w') Q) ([i].filterMap fun i => ops[i]?) a w ∧ wpList P ops (Exit.then (fun a' w' => KB B w w' ∧ wpTr B P ops Q s a' w') Q) ([j].filterMap fun i => ops[i]?) a w ∧ wpList P ops (Exit.then (fun a' w' => KB B w w' ∧ wpTr B P ops Q t a' w') Q) ([k].filterMap fun i => ops[i]?) a w
theorem wpOp_of_list {i : Nat} {N K : Act → World → Prop} {a : Act} {w : World} (hs : (ops[i]?).isSome = true) (hN : ∀ a' w', N a' w' → K a' w') (h : wpList P ops (Exit.then N Q) ([i].filterMap fun i => ops[i]?) a w) : wpOp P ops Q i K a w := by
  cases ho : ops[i]? with
  | none => rw [ho] at hs; cases hs
  | some o =>
    have h' : wpList P ops (Exit.then N Q) [o] a w := by simpa [ho] using h
    unfold wpOp
    simp only [ho]
    simp only [wpList] at h'
    have conv : ∀ {K' : Act → World → Prop} {N' : Act → World → Prop}, o.wp P a w K' (Exit.then N' Q) → o.wp P a w K' Q := by
      intro K' N' hh
      unfold Oper.wp at *
      generalize (execOp a.eval o).run P w = rr at *
      cases rr with
      | ok n w' =>
        cases n <;> simp only [Oper.upon] at hh ⊢
        case enter f args => exact Calls.mono hh (fun e w'' he => by cases e <;> exact he)
        all_goals exact hh
      | halt x w' => cases x <;> simp only [Oper.upon] at hh ⊢ <;> exact hh
    split
    · rename_i hw
      simp only [hw, if_true] at h'
      rcases h' with h' | h'
      · exact .inl (Oper.wp_mono (fun a' w' (hh : N a' w') => hN _ _ hh) (conv h'))
      · exact .inr ⟨h'.1, h'.2⟩
    · rename_i hw
      simp only [hw] at h'
      exact hN _ _ h'
theorem wpAnyB_of_tr (hs : Region.noSelect ops = true) (hQ : ∀ c a b w, Q (.panic c) a w → Q (.panic c) b w) : ∀ (t : Tr) (listed : Array Bool) (a : Act) (w : World),
    trB md ops t listed = true → wpTr B P ops Q t a w → wpAnyB B P md ops Q (trLen t) listed a w
  | .done, listed, a, w, hB, h => ⟨by simpa [trB] using hB, h⟩
  | .quiet is r, listed, a, w, hB, h => by
    simp only [trB, Bool.and_eq_true] at hB
    exact wpAnyB_takes hs hQ is listed a hB.1 (fun a' h' => wpAnyB_of_tr hs hQ r (setAll is listed) a' w hB.2 h') h
  | .one i r, listed, a, w, hB, h => by
    simp only [trB, Bool.and_eq_true, decide_eq_true_eq] at hB
    obtain ⟨⟨h1, h2⟩, h3⟩ := hB
    have rec_ := fun a' w' => wpAnyB_of_tr hs hQ r (listed.setIfInBounds i true) a' w' h3
    refine ⟨fun h0 => (by rw [h1] at h0; cases h0), fun j hj => ?_⟩
    rw [h1] at hj
    obtain rfl : j = i := by simpa using hj
    exact wpOp_of_list h2 (fun a' w' hh => ⟨hh.1, rec_ _ _ hh.2⟩) h
  | .two i r j s, listed, a, w, hB, h => by
    simp only [trB, Bool.and_eq_true, decide_eq_true_eq] at hB
    obtain ⟨⟨⟨⟨⟨h1, h2⟩, h3⟩, h4⟩, h5⟩, h6⟩ := hB
    have rec_ := fun a' w' => wpAnyB_of_tr hs hQ r (listed.setIfInBounds i true) a' w' h5
    have rec2 := fun a' w' => wpAnyB_of_tr hs hQ s (listed.setIfInBounds j true) a' w' h6
    rw [h4] at rec2
    refine ⟨fun h0 => (by rw [h1] at h0; cases h0), fun k hk => ?_⟩
    rw [h1] at hk
    simp only [List.mem_cons, List.not_mem_nil, or_false] at hk
    rcases hk with rfl | rfl
    · exact wpOp_of_list h2 (fun a' w' hh => ⟨hh.1, rec_ _ _ hh.2⟩) h.1
    · exact wpOp_of_list h3 (fun a' w' hh => ⟨hh.1, rec2 _ _ hh.2⟩) h.2
  | .three i r j s k t, listed, a, w, hB, h => by
    simp only [trB, Bool.and_eq_true, decide_eq_true_eq] at hB
    obtain ⟨⟨⟨⟨⟨⟨⟨⟨h1, h2⟩, h3⟩, h3'⟩, h4⟩, h4'⟩, h5⟩, h6⟩, h7⟩ := hB
    have rec_ := fun a' w' => wpAnyB_of_tr hs hQ r (listed.setIfInBounds i true) a' w' h5
    have rec2 := fun a' w' => wpAnyB_of_tr hs hQ s (listed.setIfInBounds j true) a' w' h6
    have rec3 := fun a' w' => wpAnyB_of_tr hs hQ t (listed.setIfInBounds k true) a' w' h7
    rw [h4] at rec2
    rw [h4'] at rec3
    refine ⟨fun h0 => (by rw [h1] at h0; cases h0), fun m hm => ?_⟩
    rw [h1] at hm
    simp only [List.mem_cons, List.not_mem_nil, or_false] at hm
    rcases hm with rfl | rfl | rfl
    · exact wpOp_of_list h2 (fun a' w' hh => ⟨hh.1, rec_ _ _ hh.2⟩) h.1
    · exact wpOp_of_list h3 (fun a' w' hh => ⟨hh.1, rec2 _ _ hh.2⟩) h.2.1
    · exact wpOp_of_list h3' (fun a' w' hh => ⟨hh.1, rec3 _ _ hh.2⟩) h.2.2
theorem wp_region_tr (B : Nat) {id : Nat} {l : List Oper} {a : Act} {w : World} (t : Tr) (hm : P.follows .mixedOrders = true)
    (hB : (Region.noSelect l.toArray && decide (trLen t = l.length) && trB .any l.toArray t (Array.replicate l.toArray.size false)) = true)
    (h : wpTr B P l.toArray (NoPanic Q) t a w.drew) : (Code.region id l.toArray true).wp P Q a w := by
  simp only [Bool.and_eq_true, decide_eq_true_eq] at hB
  obtain ⟨⟨hs, hn⟩, hB⟩ := hB
  refine wp_region_noPanic (wp_region_any hm (wpAny_of_B (B := B) _ _ _ _ ?_))
  have := wpAnyB_of_tr (B := B) (P := P) (Q := NoPanic Q) (md := .any) hs (fun _ _ _ _ h => h) t (Array.replicate l.toArray.size false) a w.drew hB h
  rw [hn] at this
  simpa using this
theorem wpTr_quiet {is : List Nat} {l : List Oper} {r : Tr} {a : Act} {w : World} (hl : (is.filterMap fun i => ops[i]?) = l) (h : wpQuiet P ops (fun u => ∃ g : GrB B w, u = g.w) (fun a' => wpTr B P ops Q r a' w) l a) : wpTr B P ops Q (.quiet is r) a w := by
  subst hl; exact h
theorem wpTr_one {i : Nat} {o : Oper} {r : Tr} {a : Act} {w : World} (ho : ops[i]? = some o) (h : wpList P ops (Exit.then (fun a' w' => KB B w w' ∧ wpTr B P ops Q r a' w') Q) [o] a w) : wpTr B P ops Q (.one i r) a w := by
  unfold wpTr; simpa [ho] using h
theorem wpTr_two {i j : Nat} {o p : Oper} {r s : Tr} {a : Act} {w : World} (ho : ops[i]? = some o) (hp : ops[j]? = some p) (h : wpList P ops (Exit.then (fun a' w' => KB B w w' ∧ wpTr B P ops Q r a' w') Q) [o] a w)
    (k : wpList P ops (Exit.then (fun a' w' => KB B w w' ∧ wpTr B P ops Q s a' w') Q) [p] a w) : wpTr B P ops Q (.two i r j s) a w := by
  unfold wpTr
  refine ⟨?_, ?_⟩
  · simpa [ho] using h
  · simpa [hp] using k
theorem wpTr_three {i j k : Nat} {o p q : Oper} {r s t : Tr} {a : Act} {w : World} (ho : ops[i]? = some o) (hp : ops[j]? = some p) (hq : ops[k]? = some q) (h : wpList P ops (Exit.then (fun a' w' => KB B w w' ∧ wpTr B P ops Q r a' w') Q) [o] a w)
    (h2 : wpList P ops (Exit.then (fun a' w' => KB B w w' ∧ wpTr B P ops Q s a' w') Q) [p] a w) (h3 : wpList P ops (Exit.then (fun a' w' => KB B w w' ∧ wpTr B P ops Q t a' w') Q) [q] a w) : wpTr B P ops Q (.three i r j s k t) a w := by
  unfold wpTr
  refine ⟨?_, ?_, ?_⟩
  · simpa [ho] using h
  · simpa [hp] using h2
  · simpa [hq] using h3
theorem wpTr_done {a : Act} {w : World} (h : Q .normal a w) : wpTr B P ops (NoPanic Q) .done a w := h
end
end Go.Proofs.YtomjiephbacocaaDoor
