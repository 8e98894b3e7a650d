/-
  A third law for statements whose order Go leaves open: 'wp_region_segs': operations that read old memory and make none may be taken first; what makes memory (a call, a new slice) comes up alone. The order is given as a list of segments.
-/
import Derived.Test.YtijjfdmklbncbaaDoorRegion
namespace Go.Proofs.YtijjfdmklbncbaaDoor
open Go.RowKit

section
variable {P : Program} {ops : Array Oper} {Q : Exit → Act → World → Prop} {md : Region.Mode}

/-- Whatever order is picked from here on, and behind every operation there are new blocks alone. -/
def wpAnyG (P : Program) (md : Region.Mode) (ops : Array Oper) (Q : Exit → Act → World → Prop) : Nat → Array Bool → Act → World → Prop
  | 0, listed, a, w => Region.ready md ops listed = [] ∧ Q .normal a w
  | fuel + 1, listed, a, w =>
    (Region.ready md ops listed = [] → Q .normal a w) ∧
    ∀ i ∈ Region.ready md ops listed, wpOp P ops Q i (fun a' w' => w.grownBy w' none ∧ wpAnyG P md ops Q fuel (listed.setIfInBounds i true) a' w') a w
theorem wpAny_of_G : ∀ (fuel : Nat) (listed : Array Bool) (a : Act) (w : World), wpAnyG P md ops Q fuel listed a w → wpAny P md ops Q fuel listed a w
  | 0, _, _, _, h => h
  | fuel + 1, _, _, _, h => ⟨h.1, fun i hi => wpOp_mono (fun a' w' h' => wpAny_of_G fuel _ a' w' h'.2) (h.2 i hi)⟩

theorem wpAnyG_first {i : Nat} {oi : Oper} {v : Value} (hi : ops[i]? = some oi) (hsel : ∀ (j : Nat) (o : Oper) cs b, ops[j]? = some o → o.op ≠ .select cs b)
    (hQ : ∀ c a w, Q (.panic c) (a.put oi.dst v) w → Q (.panic c) a w) :
    ∀ (fuel : Nat) (listed : Array Bool) (a : Act) (w : World),
      (∀ j oj, ops[j]? = some oj → j ≠ i → listed.getD j true = false → (∀ e ∈ oj.after, Region.binds md e = true → e.on ≠ i) → oi.apart ops oj = true) →
      i ∈ Region.ready md ops listed → YieldsIf P ops (fun u => w.grownBy u none) oi v a →
      wpAnyG P md ops Q fuel (listed.setIfInBounds i true) (a.put oi.dst v) w → wpAnyG P md ops Q (fuel + 1) listed a w := by
  intro fuel
  induction fuel with
  | zero =>
    intro listed a w _ hr hy H
    refine ⟨fun h => (by rw [h] at hr; cases hr), fun j hj => ?_⟩
    by_cases hji : j = i
    · subst hji; exact hy.wpOp hi (grefl w none) ⟨grefl w none, H⟩
    · have := ready_mono hj hji
      rw [H.1] at this
      cases this
  | succ fuel ih =>
    intro listed a w hfree hr hy H
    refine ⟨fun h => (by rw [h] at hr; cases hr), fun j hj => ?_⟩
    by_cases hji : j = i
    · subst hji; exact hy.wpOp hi (grefl w none) ⟨grefl w none, H⟩
    · have h1 := H.2 j (ready_mono hj hji)
      obtain ⟨hjun, oj, hoj, hall⟩ := mem_ready.1 hj
      have hnot : ∀ e ∈ oj.after, Region.binds md e = true → e.on ≠ i := fun e he hb heq => by
        have h1 := hall e he hb
        have h0 := (mem_ready.1 hr).1
        rw [heq] at h1
        rcases Nat.lt_or_ge i listed.size with h' | h'
        · simp [h'] at h0 h1; rw [h0] at h1; cases h1
        · simp [Array.getElem?_eq_none h'] at h1
      have h2 := wpOp_putIf hoj (hfree j oj hoj hji hjun hnot) (fun cs b => hsel i oi cs b hi) (fun cs b => hsel j oj cs b hoj) hQ hy h1
      have hfree' : ∀ k ok, ops[k]? = some ok → k ≠ i → (listed.setIfInBounds j true).getD k true = false →
          (∀ e ∈ ok.after, Region.binds md e = true → e.on ≠ i) → oi.apart ops ok = true := fun k ok hk hki hun hno => by
        refine hfree k ok hk hki ?_ hno
        by_cases hjk : j = k
        · subst hjk; exact hjun
        · rw [getD_set_ne true hjk] at hun; exact hun
      refine wpOp_mono (fun a' w' h3 => ⟨h3.2.1, ih (listed.setIfInBounds j true) a' w' hfree' (ready_mono hr (Ne.symm hji)) (h3.1.imp (fun ⟨h5, h6⟩ => ⟨h5, fun u hu => h6 u (gtrans h3.2.1 hu)⟩) id) ?_⟩) h2
      rw [Array.setIfInBounds_comm _ _ hji]
      exact h3.2.2

/-- Operations that leave a value, and can do nothing else. -/
def valueOnly (o : Oper) : Bool :=
  match o.op with
  | .move _ | .assign _ | .pick .. | .load .. | .binOp .. | .unOp .. | .convert .. | .slice .. | .fieldAddr .. | .field .. | .indexAddr .. | .index .. | .extract .. => true
  | _ => false
theorem valueOnly_spec {o : Oper} (h : valueOnly o = true) {ρ : Operand → Value} {w w' : World} {r : Next} (hr : (execOp ρ o).run P w = .ok r w') : ∃ x, r = .value x := by
  have key : ∀ s : Sem Value, (do pure (Next.value (← s)) : Sem Next).run P w = .ok r w' → ∃ x, r = .value x := by
    intro s hs
    simp only [Sem.run_bind, Sem.run_pure] at hs
    cases hq : s.run P w with
    | ok x u => rw [hq] at hs; simp only [Result.andThen] at hs; exact ⟨x, by injection hs with h1 _; exact h1.symm⟩
    | halt x u => rw [hq] at hs; cases hs
  unfold valueOnly at h
  cases hop : o.op <;> simp only [hop] at h <;> try cases h
  all_goals (unfold execOp at hr; rw [hop] at hr)
  all_goals first
    | exact key _ hr
    | exact ⟨_, by simp only [Sem.run_pure] at hr; injection hr with h1 _; exact h1.symm⟩
    | (simp only [Sem.run_bind, Sem.run_pure] at hr
       rename_i c _ _
       cases hq : (asBool (ρ c)).run P w with
       | ok x u => rw [hq] at hr; simp only [Result.andThen] at hr; exact ⟨_, by injection hr with h1 _; exact h1.symm⟩
       | halt x u => rw [hq] at hr; cases hr)

theorem yieldsIf_of_quiet {o : Oper} {a : Act} {w : World} {v : Value} (hv : valueOnly o = true) (hw : Region.wanted o (yielded ops a.tmps) = true)
    (h : ∀ u, (∃ g : Gr w, u = g.w) → o.quietAt P a (fun u => ∃ g : Gr w, u = g.w) u v) : YieldsIf P ops (fun u => w.grownBy u none) o v a := by
  refine .inl ⟨hw, fun u hu => ?_⟩
  have h1 := h u ⟨⟨u, hu⟩, rfl⟩
  unfold Oper.quietAt at h1
  cases hr : (execOp a.eval o).run P u with
  | halt x u' => rw [hr] at h1; simp only [Oper.quietUpon] at h1
  | ok n u' =>
    obtain ⟨x, rfl⟩ := valueOnly_spec hv hr
    rw [hr] at h1
    simp only [Oper.quietUpon] at h1
    obtain ⟨rfl, rfl⟩ := h1
    rfl

/-- The segments: 'true': read, taken first one by one; 'false': one operation that comes up alone. -/
def takesB (md : Region.Mode) (ops : Array Oper) : List Nat → Array Bool → Bool
  | [], _ => true
  | i :: is, listed => (match ops[i]? with | some o => valueOnly o | none => false) && (Region.ready md ops listed).contains i && Region.free md ops listed i && takesB md ops is (listed.setIfInBounds i true)
def setAll : List Nat → Array Bool → Array Bool
  | [], listed => listed
  | i :: is, listed => setAll is (listed.setIfInBounds i true)
def segsB (md : Region.Mode) (ops : Array Oper) : List (Bool × List Nat) → Array Bool → Bool
  | [], listed => (Region.ready md ops listed).isEmpty
  | (true, is) :: r, listed => takesB md ops is listed && segsB md ops r (setAll is listed)
  | (false, [i]) :: r, listed => decide (Region.ready md ops listed = [i]) && (ops[i]?).isSome && segsB md ops r (listed.setIfInBounds i true)
  | (false, _) :: _, _ => false

def segLen : List (Bool × List Nat) → Nat
  | [] => 0
  | (_, is) :: r => is.length + segLen r

/-- The walk over the segments. -/
def wpSegs (P : Program) (ops : Array Oper) (Q : Exit → Act → World → Prop) : List (Bool × List Nat) → Act → World → Prop
  | [], a, w => Q .normal a w
  | (true, is) :: r, a, w => wpQuiet P ops (fun u => ∃ g : Gr w, u = g.w) (fun a' => wpSegs P ops Q r a' w) (is.filterMap fun i => ops[i]?) a
  | (false, is) :: r, a, w => wpList P ops (Exit.then (fun a' w' => w.grownBy w' none ∧ wpSegs P ops Q r a' w') Q) (is.filterMap fun i => ops[i]?) a w

theorem wpAnyG_takes (hs : Region.noSelect ops = true) (hQ : ∀ c a b w, Q (.panic c) a w → Q (.panic c) b w) {w : World} {N : Act → Prop} {m : Nat} : ∀ (is : List Nat) (listed : Array Bool) (a : Act),
    takesB md ops is listed = true → (∀ a', N a' → wpAnyG P md ops Q m (setAll is listed) a' w) → wpQuiet P ops (fun u => ∃ g : Gr w, u = g.w) N (is.filterMap fun i => ops[i]?) a → wpAnyG P md ops Q (is.length + m) listed a w
  | [], listed, a, _, hN, h => by
    have := hN a h
    simpa [setAll] using this
  | i :: is, listed, a, hB, hN, h => by
    simp only [takesB, Bool.and_eq_true] at hB
    obtain ⟨⟨⟨h1, h2⟩, h3⟩, h4⟩ := hB
    cases ho : ops[i]? with
    | none => rw [ho] at h1; cases h1
    | some o =>
      rw [ho] at h1
      have h' : wpQuiet P ops (fun u => ∃ g : Gr w, u = g.w) N (o :: is.filterMap fun i => ops[i]?) a := by simpa [ho] using h
      rw [show (i :: is).length + m = (is.length + m) + 1 by simp only [List.length_cons]; omega]
      have rec_ := fun a' => wpAnyG_takes hs hQ is (listed.setIfInBounds i true) a' h4 hN
      by_cases hw : Region.wanted o (yielded ops a.tmps) = true
      · simp only [wpQuiet, hw, if_true] at h'
        obtain ⟨v, hv, hn'⟩ := h'
        exact wpAnyG_first ho (Region.noSelect_spec hs) (fun c a w => hQ c _ _ w) _ _ _ _ (Region.free_spec ho h3) (by simpa using h2) (yieldsIf_of_quiet h1 hw hv) (rec_ _ hn')
      · simp only [wpQuiet, hw] at h'
        exact wpAnyG_first ho (Region.noSelect_spec hs) (fun c a w => hQ c _ _ w) _ _ _ _ (Region.free_spec ho h3) (by simpa using h2) (.inr ⟨by simpa using hw, rfl⟩) (rec_ _ h')

theorem wpAnyG_of_segs (hs : Region.noSelect ops = true) (hQ : ∀ c a b w, Q (.panic c) a w → Q (.panic c) b w) : ∀ (l : List (Bool × List Nat)) (listed : Array Bool) (a : Act) (w : World),
    segsB md ops l listed = true → wpSegs P ops Q l a w → wpAnyG P md ops Q (segLen l) listed a w
  | [], listed, a, w, hB, h => ⟨by simpa [segsB] using hB, h⟩
  | (true, is) :: r, listed, a, w, hB, h => by
    simp only [segsB, Bool.and_eq_true] at hB
    exact wpAnyG_takes hs hQ is listed a hB.1 (fun a' h' => wpAnyG_of_segs hs hQ r (setAll is listed) a' w hB.2 h') h
  | (false, [i]) :: r, listed, a, w, hB, h => by
    simp only [segsB, Bool.and_eq_true, decide_eq_true_eq] at hB
    obtain ⟨⟨h1, h2⟩, h3⟩ := hB
    cases ho : ops[i]? with
    | none => rw [ho] at h2; cases h2
    | some o =>
      have h' : wpList P ops (Exit.then (fun a' w' => w.grownBy w' none ∧ wpSegs P ops Q r a' w') Q) [o] a w := by
        have := h
        unfold wpSegs at this
        simpa [ho] using this
      have hlen : segLen ((false, [i]) :: r) = segLen r + 1 := by simp [segLen]; omega
      rw [hlen]
      have rec_ := fun a' w' => wpAnyG_of_segs hs hQ r (listed.setIfInBounds i true) a' w' h3
      refine ⟨fun h0 => (by rw [h1] at h0; cases h0), fun j hj => ?_⟩
      rw [h1] at hj
      obtain rfl : j = i := by simpa using hj
      unfold wpOp
      simp only [ho]
      simp only [wpList] at h'
      have conv : ∀ {K : Act → World → Prop} {N : Act → World → Prop}, o.wp P a w K (Exit.then N Q) → o.wp P a w K Q := by
        intro K N hh
        unfold Oper.wp at *
        generalize (execOp a.eval o).run P w = rr at *
        cases rr with
        | ok n w' =>
          cases n <;> simp only [Oper.upon] at hh ⊢
          case enter f args => exact Calls.mono hh (fun e w'' he => by cases e <;> exact he)
          all_goals exact hh
        | halt x w' => cases x <;> simp only [Oper.upon] at hh ⊢ <;> exact hh
      split
      · rename_i hw
        simp only [hw, if_true] at h'
        rcases h' with h' | h'
        · exact .inl (Oper.wp_mono (fun a' w' (hh : w.grownBy w' none ∧ wpSegs P ops Q r a' w') => ⟨hh.1, rec_ _ _ hh.2⟩) (conv h'))
        · exact .inr ⟨h'.1, h'.2⟩
      · rename_i hw
        simp only [hw] at h'
        have hh : w.grownBy w none ∧ wpSegs P ops Q r (a.put o.dst undef) w := h'
        exact ⟨hh.1, rec_ _ _ hh.2⟩
  | (false, []) :: r, listed, a, w, hB, h => by simp [segsB] at hB
  | (false, i :: j :: is) :: r, listed, a, w, hB, h => by simp [segsB] at hB

theorem wp_region_segs {id : Nat} {l : List Oper} {a : Act} {w : World} (segs : List (Bool × List Nat)) (hm : P.follows .mixedOrders = true)
    (hB : (Region.noSelect l.toArray && decide (segLen segs = l.length) && segsB .any l.toArray segs (Array.replicate l.toArray.size false)) = true)
    (h : wpSegs P l.toArray (NoPanic Q) segs a w.drew) : (Code.region id l.toArray true).wp P Q a w := by
  simp only [Bool.and_eq_true, decide_eq_true_eq] at hB
  obtain ⟨⟨hs, hn⟩, hB⟩ := hB
  refine wp_region_noPanic (wp_region_any hm (wpAny_of_G _ _ _ _ ?_))
  have := wpAnyG_of_segs (P := P) (Q := NoPanic Q) (md := .any) hs (fun _ _ _ _ h => h) segs (Array.replicate l.toArray.size false) a w.drew hB h
  rw [hn] at this
  simpa using this

theorem wpSegs_quiet {is : List Nat} {l : List Oper} {r : List (Bool × List Nat)} {a : Act} {w : World} (hl : (is.filterMap fun i => ops[i]?) = l) (h : wpQuiet P ops (fun u => ∃ g : Gr w, u = g.w) (fun a' => wpSegs P ops Q r a' w) l a) : wpSegs P ops Q ((true, is) :: r) a w := by
  subst hl; exact h
theorem wpSegs_one {i : Nat} {o : Oper} {r : List (Bool × List Nat)} {a : Act} {w : World} (ho : ops[i]? = some o) (h : wpList P ops (Exit.then (fun a' w' => w.grownBy w' none ∧ wpSegs P ops Q r a' w') Q) [o] a w) : wpSegs P ops Q ((false, [i]) :: r) a w := by
  unfold wpSegs; simpa [ho] using h
theorem wpSegs_done {a : Act} {w : World} (h : Q .normal a w) : wpSegs P ops (NoPanic Q) [] a w := h
end
end Go.Proofs.YtijjfdmklbncbaaDoor
