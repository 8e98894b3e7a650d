/-
  The law of segments with forks: two operations that make memory may come up side by side; then each may be first. (Over the class of worlds of XRegB.)
  wp_region_trH: the law of a tree of orders (wp_region_tr), where the building of a struct too is an operation that leaves a value and can do nothing else.
  Five parameters.
-/
import Derived.Test.YtkhigfbmdolgmaaGreatDoorA1
import Derived.Test.YtkhigfbmdolgmaaGreatDoorA3
namespace Go.Proofs.YtkhigfbmdolgmaaGreatDoor
open Go.RowKit

inductive Tr where
  | done
  | quiet (is : List Nat) (r : Tr)
  | one (i : Nat) (r : Tr)
  | two (i : Nat) (r : Tr) (j : Nat) (s : Tr)
  | three (i : Nat) (r : Tr) (j : Nat) (s : Tr) (k : Nat) (t : Tr)
section
variable {B : Nat} {P : Program} {ops : Array Oper} {Q : Exit → Act → World → Prop} {md : Region.Mode}
def trLen : Tr → Nat
  | .done => 0
  | .quiet is r => is.length + trLen r
  | .one _ r => trLen r + 1
  | .two _ r _ _ => trLen r + 1
  | .three _ r _ _ _ _ => trLen r + 1
def trB (md : Region.Mode) (ops : Array Oper) : Tr → Array Bool → Bool
  | .done, listed => (Region.ready md ops listed).isEmpty
  | .quiet is r, listed => takesB md ops is listed && trB md ops r (setAll is listed)
  | .one i r, listed => decide (Region.ready md ops listed = [i]) && (ops[i]?).isSome && trB md ops r (listed.setIfInBounds i true)
  | .two i r j s, listed => decide (Region.ready md ops listed = [i, j]) && (ops[i]?).isSome && (ops[j]?).isSome && decide (trLen s = trLen r) && trB md ops r (listed.setIfInBounds i true) && trB md ops s (listed.setIfInBounds j true)
  | .three i r j s k t, listed => decide (Region.ready md ops listed = [i, j, k]) && (ops[i]?).isSome && (ops[j]?).isSome && (ops[k]?).isSome && decide (trLen s = trLen r) && decide (trLen t = trLen r) && trB md ops r (listed.setIfInBounds i true) && trB md ops s (listed.setIfInBounds j true) && trB md ops t (listed.setIfInBounds k true)
def wpTr (B : Nat) (P : Program) (ops : Array Oper) (Q : Exit → Act → World → Prop) : Tr → Act → World → Prop
  | .done, a, w => Q .normal a w
  | .quiet is r, a, w => wpQuiet P ops (fun u => ∃ g : GrB B w, u = g.w) (fun a' => wpTr B P ops Q r a' w) (is.filterMap fun i => ops[i]?) a
  | .one i r, a, w => wpList P ops (Exit.then (fun a' w' => KB B w w' ∧ wpTr B P ops Q r a' w') Q) ([i].filterMap fun i => ops[i]?) a w
  | .two i r j s, a, w => wpList P ops (Exit.then (fun a' w' => KB B w w' ∧ wpTr B P ops Q r a' w') Q) ([i].filterMap fun i => ops[i]?) a w ∧ wpList P ops (Exit.then (fun a' w' => KB B w w' ∧ wpTr B P ops Q s a' w') Q) ([j].filterMap fun i => ops[i]?) a w
  | .three i r j s k t, a, w => wpList P ops (Exit.then (fun a' w' => KB B w w' ∧ wpTr B P ops Q r a' w') Q) ([i].filterMap fun i => ops[i]?) a w ∧ wpList P ops (Exit.then (fun a' w' => KB B w w' ∧ wpTr B P ops Q s a' w') Q) ([j].filterMap fun i => ops[i]?) a w ∧ wpList P ops (Exit.then (fun a' w' => KB B w w' ∧ wpTr B P ops Q t a' w') Q) ([k].filterMap fun i => ops[i]?) a w
theorem wpOp_of_list {i : Nat} {N K : Act → World → Prop} {a : Act} {w : World} (hs : (ops[i]?).isSome = true) (hN : ∀ a' w', N a' w' → K a' w') (h : wpList P ops (Exit.then N Q) ([i].filterMap fun i => ops[i]?) a w) : wpOp P ops Q i K a w := by
  cases ho : ops[i]? with
  | none => rw [ho] at hs; cases hs
  | some o =>
    have h' : wpList P ops (Exit.then N Q) [o] a w := by simpa [ho] using h
    unfold wpOp
    simp only [ho]
    simp only [wpList] at h'
    have conv : ∀ {K' : Act → World → Prop} {N' : Act → World → Prop}, o.wp P a w K' (Exit.then N' Q) → o.wp P a w K' Q := by
      intro K' N' hh
      unfold Oper.wp at *
      generalize (execOp a.eval o).run P w = rr at *
      cases rr with
      | ok n w' =>
        cases n <;> simp only [Oper.upon] at hh ⊢
        case enter f args => exact Calls.mono hh (fun e w'' he => by cases e <;> exact he)
        all_goals exact hh
      | halt x w' => cases x <;> simp only [Oper.upon] at hh ⊢ <;> exact hh
    split
    · rename_i hw
      simp only [hw, if_true] at h'
      rcases h' with h' | h'
      · exact .inl (Oper.wp_mono (fun a' w' (hh : N a' w') => hN _ _ hh) (conv h'))
      · exact .inr ⟨h'.1, h'.2⟩
    · rename_i hw
      simp only [hw] at h'
      exact hN _ _ h'
theorem wpAnyB_of_tr (hs : Region.noSelect ops = true) (hQ : ∀ c a b w, Q (.panic c) a w → Q (.panic c) b w) : ∀ (t : Tr) (listed : Array Bool) (a : Act) (w : World),
    trB md ops t listed = true → wpTr B P ops Q t a w → wpAnyB B P md ops Q (trLen t) listed a w
  | .done, listed, a, w, hB, h => ⟨by simpa [trB] using hB, h⟩
  | .quiet is r, listed, a, w, hB, h => by
    simp only [trB, Bool.and_eq_true] at hB
    exact wpAnyB_takes hs hQ is listed a hB.1 (fun a' h' => wpAnyB_of_tr hs hQ r (setAll is listed) a' w hB.2 h') h
  | .one i r, listed, a, w, hB, h => by
    simp only [trB, Bool.and_eq_true, decide_eq_true_eq] at hB
    obtain ⟨⟨h1, h2⟩, h3⟩ := hB
    have rec_ := fun a' w' => wpAnyB_of_tr hs hQ r (listed.setIfInBounds i true) a' w' h3
    refine ⟨fun h0 => (by rw [h1] at h0; cases h0), fun j hj => ?_⟩
    rw [h1] at hj
    obtain rfl : j = i := by simpa using hj
    exact wpOp_of_list h2 (fun a' w' hh => ⟨hh.1, rec_ _ _ hh.2⟩) h
  | .two i r j s, listed, a, w, hB, h => by
    simp only [trB, Bool.and_eq_true, decide_eq_true_eq] at hB
    obtain ⟨⟨⟨⟨⟨h1, h2⟩, h3⟩, h4⟩, h5⟩, h6⟩ := hB
    have rec_ := fun a' w' => wpAnyB_of_tr hs hQ r (listed.setIfInBounds i true) a' w' h5
    have rec2 := fun a' w' => wpAnyB_of_tr hs hQ s (listed.setIfInBounds j true) a' w' h6
    rw [h4] at rec2
    refine ⟨fun h0 => (by rw [h1] at h0; cases h0), fun k hk => ?_⟩
    rw [h1] at hk
    simp only [List.mem_cons, List.not_mem_nil, or_false] at hk
    rcases hk with rfl | rfl
    · exact wpOp_of_list h2 (fun a' w' hh => ⟨hh.1, rec_ _ _ hh.2⟩) h.1
    · exact wpOp_of_list h3 (fun a' w' hh => ⟨hh.1, rec2 _ _ hh.2⟩) h.2
  | .three i r j s k t, listed, a, w, hB, h => by
    simp only [trB, Bool.and_eq_true, decide_eq_true_eq] at hB
    obtain ⟨⟨⟨⟨⟨⟨⟨⟨h1, h2⟩, h3⟩, h3'⟩, h4⟩, h4'⟩, h5⟩, h6⟩, h7⟩ := hB
    have rec_ := fun a' w' => wpAnyB_of_tr hs hQ r (listed.setIfInBounds i true) a' w' h5
    have rec2 := fun a' w' => wpAnyB_of_tr hs hQ s (listed.setIfInBounds j true) a' w' h6
    have rec3 := fun a' w' => wpAnyB_of_tr hs hQ t (listed.setIfInBounds k true) a' w' h7
    rw [h4] at rec2
    rw [h4'] at rec3
    refine ⟨fun h0 => (by rw [h1] at h0; cases h0), fun m hm => ?_⟩
    rw [h1] at hm
    simp only [List.mem_cons, List.not_mem_nil, or_false] at hm
    rcases hm with rfl | rfl | rfl
    · exact wpOp_of_list h2 (fun a' w' hh => ⟨hh.1, rec_ _ _ hh.2⟩) h.1
    · exact wpOp_of_list h3 (fun a' w' hh => ⟨hh.1, rec2 _ _ hh.2⟩) h.2.1
    · exact wpOp_of_list h3' (fun a' w' hh => ⟨hh.1, rec3 _ _ hh.2⟩) h.2.2
theorem wp_region_tr (B : Nat) {id : Nat} {l : List Oper} {a : Act} {w : World} (t : Tr) (hm : P.follows .mixedOrders = true)
    (hB : (Region.noSelect l.toArray && decide (trLen t = l.length) && trB .any l.toArray t (Array.replicate l.toArray.size false)) = true)
    (h : wpTr B P l.toArray (NoPanic Q) t a w.drew) : (Code.region id l.toArray true).wp P Q a w := by
  simp only [Bool.and_eq_true, decide_eq_true_eq] at hB
  obtain ⟨⟨hs, hn⟩, hB⟩ := hB
  refine wp_region_noPanic (wp_region_any hm (wpAny_of_B (B := B) _ _ _ _ ?_))
  have := wpAnyB_of_tr (B := B) (P := P) (Q := NoPanic Q) (md := .any) hs (fun _ _ _ _ h => h) t (Array.replicate l.toArray.size false) a w.drew hB h
  rw [hn] at this
  simpa using this
theorem wpTr_quiet {is : List Nat} {l : List Oper} {r : Tr} {a : Act} {w : World} (hl : (is.filterMap fun i => ops[i]?) = l) (h : wpQuiet P ops (fun u => ∃ g : GrB B w, u = g.w) (fun a' => wpTr B P ops Q r a' w) l a) : wpTr B P ops Q (.quiet is r) a w := by
  subst hl; exact h
theorem wpTr_one {i : Nat} {o : Oper} {r : Tr} {a : Act} {w : World} (ho : ops[i]? = some o) (h : wpList P ops (Exit.then (fun a' w' => KB B w w' ∧ wpTr B P ops Q r a' w') Q) [o] a w) : wpTr B P ops Q (.one i r) a w := by
  unfold wpTr; simpa [ho] using h
theorem wpTr_two {i j : Nat} {o p : Oper} {r s : Tr} {a : Act} {w : World} (ho : ops[i]? = some o) (hp : ops[j]? = some p) (h : wpList P ops (Exit.then (fun a' w' => KB B w w' ∧ wpTr B P ops Q r a' w') Q) [o] a w)
    (k : wpList P ops (Exit.then (fun a' w' => KB B w w' ∧ wpTr B P ops Q s a' w') Q) [p] a w) : wpTr B P ops Q (.two i r j s) a w := by
  unfold wpTr
  refine ⟨?_, ?_⟩
  · simpa [ho] using h
  · simpa [hp] using k
theorem wpTr_three {i j k : Nat} {o p q : Oper} {r s t : Tr} {a : Act} {w : World} (ho : ops[i]? = some o) (hp : ops[j]? = some p) (hq : ops[k]? = some q) (h : wpList P ops (Exit.then (fun a' w' => KB B w w' ∧ wpTr B P ops Q r a' w') Q) [o] a w)
    (h2 : wpList P ops (Exit.then (fun a' w' => KB B w w' ∧ wpTr B P ops Q s a' w') Q) [p] a w) (h3 : wpList P ops (Exit.then (fun a' w' => KB B w w' ∧ wpTr B P ops Q t a' w') Q) [q] a w) : wpTr B P ops Q (.three i r j s k t) a w := by
  unfold wpTr
  refine ⟨?_, ?_, ?_⟩
  · simpa [ho] using h
  · simpa [hp] using h2
  · simpa [hq] using h3
theorem wpTr_done {a : Act} {w : World} (h : Q .normal a w) : wpTr B P ops (NoPanic Q) .done a w := h
end
end Go.Proofs.YtkhigfbmdolgmaaGreatDoor
namespace Go.Proofs.YtkhigfbmdolgmaaGreatDoor
open Go.RowKit

section
variable {B : Nat} {P : Program} {ops : Array Oper} {Q : Exit → Act → World → Prop} {md : Region.Mode}

def valueOnlyH (o : Oper) : Bool :=
  match o.op with
  | .build .. | .move _ | .assign _ | .pick .. | .load .. | .binOp .. | .unOp .. | .convert .. | .slice .. | .fieldAddr .. | .field .. | .indexAddr .. | .index .. | .extract .. => true
  | _ => false
theorem valueOnly_specH {o : Oper} (h : valueOnlyH o = true) {ρ : Operand → Value} {w w' : World} {r : Next} (hr : (execOp ρ o).run P w = .ok r w') : ∃ x, r = .value x := by
  have key : ∀ s : Sem Value, (do pure (Next.value (← s)) : Sem Next).run P w = .ok r w' → ∃ x, r = .value x := by
    intro s hs
    simp only [Sem.run_bind, Sem.run_pure] at hs
    cases hq : s.run P w with
    | ok x u => rw [hq] at hs; simp only [Result.andThen] at hs; exact ⟨x, by injection hs with h1 _; exact h1.symm⟩
    | halt x u => rw [hq] at hs; cases hs
  unfold valueOnlyH at h
  cases hop : o.op <;> simp only [hop] at h <;> try cases h
  all_goals (unfold execOp at hr; rw [hop] at hr)
  all_goals first
    | exact key _ hr
    | exact ⟨_, by simp only [Sem.run_pure] at hr; injection hr with h1 _; exact h1.symm⟩
    | (simp only [Sem.run_bind, Sem.run_pure] at hr
       rename_i c _ _
       cases hq : (asBool (ρ c)).run P w with
       | ok x u => rw [hq] at hr; simp only [Result.andThen] at hr; exact ⟨_, by injection hr with h1 _; exact h1.symm⟩
       | halt x u => rw [hq] at hr; cases hr)
def takesBH (md : Region.Mode) (ops : Array Oper) : List Nat → Array Bool → Bool
  | [], _ => true
  | i :: is, listed => (match ops[i]? with | some o => valueOnlyH o | none => false) && (Region.ready md ops listed).contains i && Region.free md ops listed i && takesBH md ops is (listed.setIfInBounds i true)
theorem yieldsIf_of_quietBH {o : Oper} {a : Act} {w : World} {v : Value} (hv : valueOnlyH o = true) (hw : Region.wanted o (yielded ops a.tmps) = true)
    (h : ∀ u, (∃ g : GrB B w, u = g.w) → o.quietAt P a (fun u => ∃ g : GrB B w, u = g.w) u v) : YieldsIf P ops (fun u => KB B w u) o v a := by
  refine .inl ⟨hw, fun u hu => ?_⟩
  have h1 := h u ⟨⟨u, hu⟩, rfl⟩
  unfold Oper.quietAt at h1
  cases hr : (execOp a.eval o).run P u with
  | halt x u' => rw [hr] at h1; simp only [Oper.quietUpon] at h1
  | ok n u' =>
    obtain ⟨x, rfl⟩ := valueOnly_specH hv hr
    rw [hr] at h1
    simp only [Oper.quietUpon] at h1
    obtain ⟨rfl, rfl⟩ := h1
    rfl
theorem wpAnyB_takesH (hs : Region.noSelect ops = true) (hQ : ∀ c a b w, Q (.panic c) a w → Q (.panic c) b w) {w : World} {N : Act → Prop} {m : Nat} : ∀ (is : List Nat) (listed : Array Bool) (a : Act),
    takesBH md ops is listed = true → (∀ a', N a' → wpAnyB B P md ops Q m (setAll is listed) a' w) → wpQuiet P ops (fun u => ∃ g : GrB B w, u = g.w) N (is.filterMap fun i => ops[i]?) a → wpAnyB B P md ops Q (is.length + m) listed a w
  | [], listed, a, _, hN, h => by
    have := hN a h
    simpa [setAll] using this
  | i :: is, listed, a, hB, hN, h => by
    simp only [takesBH, Bool.and_eq_true] at hB
    obtain ⟨⟨⟨h1, h2⟩, h3⟩, h4⟩ := hB
    cases ho : ops[i]? with
    | none => rw [ho] at h1; cases h1
    | some o =>
      rw [ho] at h1
      have h' : wpQuiet P ops (fun u => ∃ g : GrB B w, u = g.w) N (o :: is.filterMap fun i => ops[i]?) a := by simpa [ho] using h
      rw [show (i :: is).length + m = (is.length + m) + 1 by simp only [List.length_cons]; omega]
      have rec_ := fun a' => wpAnyB_takesH hs hQ is (listed.setIfInBounds i true) a' h4 hN
      by_cases hw : Region.wanted o (yielded ops a.tmps) = true
      · simp only [wpQuiet, hw, if_true] at h'
        obtain ⟨v, hv, hn'⟩ := h'
        exact wpAnyB_first ho (Region.noSelect_spec hs) (fun c a w => hQ c _ _ w) _ _ _ _ (Region.free_spec ho h3) (by simpa using h2) (yieldsIf_of_quietBH h1 hw hv) (rec_ _ hn')
      · simp only [wpQuiet, hw] at h'
        exact wpAnyB_first ho (Region.noSelect_spec hs) (fun c a w => hQ c _ _ w) _ _ _ _ (Region.free_spec ho h3) (by simpa using h2) (.inr ⟨by simpa using hw, rfl⟩) (rec_ _ h')
def trBH (md : Region.Mode) (ops : Array Oper) : Tr → Array Bool → Bool
  | .done, listed => (Region.ready md ops listed).isEmpty
  | .quiet is r, listed => takesBH md ops is listed && trBH md ops r (setAll is listed)
  | .one i r, listed => decide (Region.ready md ops listed = [i]) && (ops[i]?).isSome && trBH md ops r (listed.setIfInBounds i true)
  | .two i r j s, listed => decide (Region.ready md ops listed = [i, j]) && (ops[i]?).isSome && (ops[j]?).isSome && decide (trLen s = trLen r) && trBH md ops r (listed.setIfInBounds i true) && trBH md ops s (listed.setIfInBounds j true)
  | .three i r j s k t, listed => decide (Region.ready md ops listed = [i, j, k]) && (ops[i]?).isSome && (ops[j]?).isSome && (ops[k]?).isSome && decide (trLen s = trLen r) && decide (trLen t = trLen r) && trBH md ops r (listed.setIfInBounds i true) && trBH md ops s (listed.setIfInBounds j true) && trBH md ops t (listed.setIfInBounds k true)
theorem wpAnyB_of_trH (hs : Region.noSelect ops = true) (hQ : ∀ c a b w, Q (.panic c) a w → Q (.panic c) b w) : ∀ (t : Tr) (listed : Array Bool) (a : Act) (w : World),
    trBH md ops t listed = true → wpTr B P ops Q t a w → wpAnyB B P md ops Q (trLen t) listed a w
  | .done, listed, a, w, hB, h => ⟨by simpa [trBH] using hB, h⟩
  | .quiet is r, listed, a, w, hB, h => by
    simp only [trBH, Bool.and_eq_true] at hB
    exact wpAnyB_takesH hs hQ is listed a hB.1 (fun a' h' => wpAnyB_of_trH hs hQ r (setAll is listed) a' w hB.2 h') h
  | .one i r, listed, a, w, hB, h => by
    simp only [trBH, Bool.and_eq_true, decide_eq_true_eq] at hB
    obtain ⟨⟨h1, h2⟩, h3⟩ := hB
    have rec_ := fun a' w' => wpAnyB_of_trH hs hQ r (listed.setIfInBounds i true) a' w' h3
    refine ⟨fun h0 => (by rw [h1] at h0; cases h0), fun j hj => ?_⟩
    rw [h1] at hj
    obtain rfl : j = i := by simpa using hj
    exact wpOp_of_list h2 (fun a' w' hh => ⟨hh.1, rec_ _ _ hh.2⟩) h
  | .two i r j s, listed, a, w, hB, h => by
    simp only [trBH, Bool.and_eq_true, decide_eq_true_eq] at hB
    obtain ⟨⟨⟨⟨⟨h1, h2⟩, h3⟩, h4⟩, h5⟩, h6⟩ := hB
    have rec_ := fun a' w' => wpAnyB_of_trH hs hQ r (listed.setIfInBounds i true) a' w' h5
    have rec2 := fun a' w' => wpAnyB_of_trH hs hQ s (listed.setIfInBounds j true) a' w' h6
    rw [h4] at rec2
    refine ⟨fun h0 => (by rw [h1] at h0; cases h0), fun k hk => ?_⟩
    rw [h1] at hk
    simp only [List.mem_cons, List.not_mem_nil, or_false] at hk
    rcases hk with rfl | rfl
    · exact wpOp_of_list h2 (fun a' w' hh => ⟨hh.1, rec_ _ _ hh.2⟩) h.1
    · exact wpOp_of_list h3 (fun a' w' hh => ⟨hh.1, rec2 _ _ hh.2⟩) h.2
  | .three i r j s k t, listed, a, w, hB, h => by
    simp only [trBH, Bool.and_eq_true, decide_eq_true_eq] at hB
    obtain ⟨⟨⟨⟨⟨⟨⟨⟨h1, h2⟩, h3⟩, h3'⟩, h4⟩, h4'⟩, h5⟩, h6⟩, h7⟩ := hB
    have rec_ := fun a' w' => wpAnyB_of_trH hs hQ r (listed.setIfInBounds i true) a' w' h5
    have rec2 := fun a' w' => wpAnyB_of_trH hs hQ s (listed.setIfInBounds j true) a' w' h6
    have rec3 := fun a' w' => wpAnyB_of_trH hs hQ t (listed.setIfInBounds k true) a' w' h7
    rw [h4] at rec2
    rw [h4'] at rec3
    refine ⟨fun h0 => (by rw [h1] at h0; cases h0), fun m hm => ?_⟩
    rw [h1] at hm
    simp only [List.mem_cons, List.not_mem_nil, or_false] at hm
    rcases hm with rfl | rfl | rfl
    · exact wpOp_of_list h2 (fun a' w' hh => ⟨hh.1, rec_ _ _ hh.2⟩) h.1
    · exact wpOp_of_list h3 (fun a' w' hh => ⟨hh.1, rec2 _ _ hh.2⟩) h.2.1
    · exact wpOp_of_list h3' (fun a' w' hh => ⟨hh.1, rec3 _ _ hh.2⟩) h.2.2
theorem wp_region_trH (B : Nat) {id : Nat} {l : List Oper} {a : Act} {w : World} (t : Tr) (hm : P.follows .mixedOrders = true)
    (hB : (Region.noSelect l.toArray && decide (trLen t = l.length) && trBH .any l.toArray t (Array.replicate l.toArray.size false)) = true)
    (h : wpTr B P l.toArray (NoPanic Q) t a w.drew) : (Code.region id l.toArray true).wp P Q a w := by
  simp only [Bool.and_eq_true, decide_eq_true_eq] at hB
  obtain ⟨⟨hs, hn⟩, hB⟩ := hB
  refine wp_region_noPanic (wp_region_any hm (wpAny_of_B (B := B) _ _ _ _ ?_))
  have := wpAnyB_of_trH (B := B) (P := P) (Q := NoPanic Q) (md := .any) hs (fun _ _ _ _ h => h) t (Array.replicate l.toArray.size false) a w.drew hB h
  rw [hn] at this
  simpa using this
end
end Go.Proofs.YtkhigfbmdolgmaaGreatDoor
namespace Go.Proofs.YtkhigfbmdolgmaaGreatDoor
open Go.ChangeShapes Go.WideShapes Go.RowKit

theorem trodAll_five_ {H : Type} {enc : TypeId × Value → H} {P : Program} {w : World} {base : Nat} {spare : Nat → Bool} {held : Bool} {t t' t'' t3 t4 : TypeId} {args : Array Value} {ds : List (DataW H)} {ps : List MemPlace} (h : DataW.TrodAll enc P w base spare held [t, t', t'', t3, t4] args.toList ds ps) :
    ∃ v v' v'' v3 v4 d d' d'' d3 d4 p p' p'' p3 p4, args = #[v, v', v'', v3, v4] ∧ ds = [d, d', d'', d3, d4] ∧ ps = p ++ p' ++ p'' ++ p3 ++ p4 ∧ DataW.Trod enc P w base spare held t v d p ∧ DataW.Trod enc P w base spare held t' v' d' p' ∧ DataW.Trod enc P w base spare held t'' v'' d'' p'' ∧ DataW.Trod enc P w base spare held t3 v3 d3 p3 ∧ DataW.Trod enc P w base spare held t4 v4 d4 p4 := by
  obtain ⟨v, vs, d, ds', p, q, hargs, rfl, rfl, hd, hrest⟩ := trodAll_cons h
  obtain ⟨v', vs', d', ds'', p', q', rfl, rfl, rfl, hd', hrest'⟩ := trodAll_cons hrest
  obtain ⟨v'', vs'', d'', ds''', p'', q'', rfl, rfl, rfl, hd'', hrest''⟩ := trodAll_cons hrest'
  obtain ⟨v3, vs3, d3, ds3, p3, q3, rfl, rfl, rfl, hd3, hrest3⟩ := trodAll_cons hrest''
  obtain ⟨v4, vs4, d4, ds4, p4, q4, rfl, rfl, rfl, hd4, hrest4⟩ := trodAll_cons hrest3
  obtain ⟨rfl, rfl, rfl⟩ := trodAll_nil hrest4
  exact ⟨v, v', v'', v3, v4, d, d', d'', d3, d4, p, p', p'', p3, p4, by cases args; simp_all, rfl, by simp, hd, hd', hd'', hd3, hd4⟩
end Go.Proofs.YtkhigfbmdolgmaaGreatDoor
