/-
  The law of segments (XRegB) for any relation of worlds that one may go along, and for a call that may panic. Nothing of the program stands here.
  The law of segments with forks, over any relation; a value that is built may be read like others.
  A deferred closure that opens with recover: the walk goes on behind it.
-/
import Derived.Test.YthgendgmlpaglaaDoorA1
import Derived.Recover
import Derived.Tactics
namespace Go.Proofs.YthgendgmlpaglaaDoor
open Go.RowKit

/-- A relation of worlds that one may go along. -/
structure Rt (R : World → World → Prop) : Prop where
  refl : ∀ w, R w w
  trans : ∀ {a b c}, R a b → R b c → R a c
/-- Worlds that come behind w0. -/
structure GrR (R : World → World → Prop) (w0 : World) where
  w : World
  h : R w0 w
@[go_sem, simp] theorem GrR.ex {R : World → World → Prop} {w0 : World} (g : GrR R w0) : (∃ m : GrR R w0, g.w = m.w) = True := eq_true ⟨g, rfl⟩

section
variable {R : World → World → Prop} {P : Program} {ops : Array Oper} {Q : Exit → Act → World → Prop} {md : Region.Mode}

/-- Whatever order is picked from here on, and behind every operation there are new blocks alone. -/
def wpAnyR (R : World → World → Prop) (P : Program) (md : Region.Mode) (ops : Array Oper) (Q : Exit → Act → World → Prop) : Nat → Array Bool → Act → World → Prop
  | 0, listed, a, w => Region.ready md ops listed = [] ∧ Q .normal a w
  | fuel + 1, listed, a, w =>
    (Region.ready md ops listed = [] → Q .normal a w) ∧
    ∀ i ∈ Region.ready md ops listed, wpOp P ops Q i (fun a' w' => R w w' ∧ wpAnyR R P md ops Q fuel (listed.setIfInBounds i true) a' w') a w
theorem wpAny_of_R : ∀ (fuel : Nat) (listed : Array Bool) (a : Act) (w : World), wpAnyR R P md ops Q fuel listed a w → wpAny P md ops Q fuel listed a w
  | 0, _, _, _, h => h
  | fuel + 1, _, _, _, h => ⟨h.1, fun i hi => wpOp_mono (fun a' w' h' => wpAny_of_R fuel _ a' w' h'.2) (h.2 i hi)⟩

theorem wpAnyR_first (hR : Rt R) {i : Nat} {oi : Oper} {v : Value} (hi : ops[i]? = some oi) (hsel : ∀ (j : Nat) (o : Oper) cs b, ops[j]? = some o → o.op ≠ .select cs b)
    (hQ : ∀ c a w, Q (.panic c) (a.put oi.dst v) w → Q (.panic c) a w) :
    ∀ (fuel : Nat) (listed : Array Bool) (a : Act) (w : World),
      (∀ j oj, ops[j]? = some oj → j ≠ i → listed.getD j true = false → (∀ e ∈ oj.after, Region.binds md e = true → e.on ≠ i) → oi.apart ops oj = true) →
      i ∈ Region.ready md ops listed → YieldsIf P ops (fun u => R w u) oi v a →
      wpAnyR R P md ops Q fuel (listed.setIfInBounds i true) (a.put oi.dst v) w → wpAnyR R P md ops Q (fuel + 1) listed a w := by
  intro fuel
  induction fuel with
  | zero =>
    intro listed a w _ hr hy H
    refine ⟨fun h => (by rw [h] at hr; cases hr), fun j hj => ?_⟩
    by_cases hji : j = i
    · subst hji; exact hy.wpOp hi (hR.refl w) ⟨hR.refl w, H⟩
    · have := ready_mono hj hji
      rw [H.1] at this
      cases this
  | succ fuel ih =>
    intro listed a w hfree hr hy H
    refine ⟨fun h => (by rw [h] at hr; cases hr), fun j hj => ?_⟩
    by_cases hji : j = i
    · subst hji; exact hy.wpOp hi (hR.refl w) ⟨hR.refl w, H⟩
    · have h1 := H.2 j (ready_mono hj hji)
      obtain ⟨hjun, oj, hoj, hall⟩ := mem_ready.1 hj
      have hnot : ∀ e ∈ oj.after, Region.binds md e = true → e.on ≠ i := fun e he hb heq => by
        have h1 := hall e he hb
        have h0 := (mem_ready.1 hr).1
        rw [heq] at h1
        rcases Nat.lt_or_ge i listed.size with h' | h'
        · simp [h'] at h0 h1; rw [h0] at h1; cases h1
        · simp [Array.getElem?_eq_none h'] at h1
      have h2 := wpOp_putIf hoj (hfree j oj hoj hji hjun hnot) (fun cs b => hsel i oi cs b hi) (fun cs b => hsel j oj cs b hoj) hQ hy h1
      have hfree' : ∀ k ok, ops[k]? = some ok → k ≠ i → (listed.setIfInBounds j true).getD k true = false →
          (∀ e ∈ ok.after, Region.binds md e = true → e.on ≠ i) → oi.apart ops ok = true := fun k ok hk hki hun hno => by
        refine hfree k ok hk hki ?_ hno
        by_cases hjk : j = k
        · subst hjk; exact hjun
        · rw [getD_set_ne true hjk] at hun; exact hun
      refine wpOp_mono (fun a' w' h3 => ⟨h3.2.1, ih (listed.setIfInBounds j true) a' w' hfree' (ready_mono hr (Ne.symm hji)) (h3.1.imp (fun ⟨h5, h6⟩ => ⟨h5, fun u hu => h6 u (hR.trans h3.2.1 hu)⟩) id) ?_⟩) h2
      rw [Array.setIfInBounds_comm _ _ hji]
      exact h3.2.2

/-- Operations that leave a value, and can do nothing else but panic. -/
def valueOnly2 (o : Oper) : Bool :=
  valueOnly o || (match o.op with
    | .nilCheck _ => true
    | .call c => (match c.callee with | .builtin .len => true | _ => false)
    | _ => false)
theorem valueOnly2_spec {o : Oper} (h : valueOnly2 o = true) {ρ : Operand → Value} {w w' : World} {r : Next} (hr : (execOp ρ o).run P w = .ok r w') : ∃ x, r = .value x := by
  unfold valueOnly2 at h
  rw [Bool.or_eq_true] at h
  rcases h with h | h
  · exact valueOnly_spec h hr
  · cases hop : o.op <;> simp only [hop] at h <;> try cases h
    · unfold execOp at hr
      rw [hop] at hr
      dsimp only at hr
      rename_i x
      generalize ρ x = vx at hr
      have fin : ∀ {vy : Value}, (pure (Next.value vy) : Sem Next).run P w = .ok r w' → ∃ x, r = .value x := fun {vy} h => ⟨vy, by simp only [Sem.run_pure] at h; injection h with h1 _; exact h1.symm⟩
      split at hr
      · cases hr
      · cases hr
      · cases hr
      · split at hr
        · cases hr
        · simp only [Sem.run_bind] at hr
          cases h1 : Sem.run P program w with
          | halt y u => rw [h1] at hr; cases hr
          | ok y u =>
            rw [h1] at hr
            simp only [Result.andThen] at hr
            generalize Sem.run P (nilAhead _ _ _ _) u = rr at hr
            cases rr with
            | halt y u => cases hr
            | ok q u2 =>
              simp only at hr
              split at hr
              · cases hr
              · exact ⟨_, by simp only [Sem.run_pure] at hr; injection hr with h1 _; exact h1.symm⟩
        · exact fin hr
      · exact fin hr
    · rename_i c
      cases hc : c.callee <;> simp only [hc] at h <;> try cases h
      rename_i b
      cases b <;> simp only at h <;> try cases h
      unfold execOp at hr
      rw [hop] at hr
      simp only [resolve, hc, Sem.run_bind, Sem.run_pure, Result.andThen_ok, invoke, builtin] at hr
      generalize (Builtin.len_ _ _ _).run P w = rr at hr
      cases rr with
      | ok x u => simp only [Result.andThen] at hr; exact ⟨x, by injection hr with h1 _; exact h1.symm⟩
      | halt x u => cases hr
theorem yieldsIf_of_quietR {o : Oper} {a : Act} {w : World} {v : Value} (hv : valueOnly2 o = true) (hw : Region.wanted o (yielded ops a.tmps) = true)
    (h : ∀ u, (∃ g : GrR R w, u = g.w) → o.quietAt P a (fun u => ∃ g : GrR R w, u = g.w) u v) : YieldsIf P ops (fun u => R w u) o v a := by
  refine .inl ⟨hw, fun u hu => ?_⟩
  have h1 := h u ⟨⟨u, hu⟩, rfl⟩
  unfold Oper.quietAt at h1
  cases hr : (execOp a.eval o).run P u with
  | halt x u' => rw [hr] at h1; simp only [Oper.quietUpon] at h1
  | ok n u' =>
    obtain ⟨x, rfl⟩ := valueOnly2_spec hv hr
    rw [hr] at h1
    simp only [Oper.quietUpon] at h1
    obtain ⟨rfl, rfl⟩ := h1
    rfl

/-- The segments: 'true': read, taken first one by one; 'false': one operation that comes up alone. -/
def takesP (md : Region.Mode) (ops : Array Oper) : List Nat → Array Bool → Bool
  | [], _ => true
  | i :: is, listed => (match ops[i]? with | some o => valueOnly2 o | none => false) && (Region.ready md ops listed).contains i && Region.free md ops listed i && takesP md ops is (listed.setIfInBounds i true)
def segsP (md : Region.Mode) (ops : Array Oper) : List (Bool × List Nat) → Array Bool → Bool
  | [], listed => (Region.ready md ops listed).isEmpty
  | (true, is) :: r, listed => takesP md ops is listed && segsP md ops r (setAll is listed)
  | (false, [i]) :: r, listed => decide (Region.ready md ops listed = [i]) && (ops[i]?).isSome && segsP md ops r (listed.setIfInBounds i true)
  | (false, _) :: _, _ => false

/-- The walk over the segments. -/
def wpSegsR (R : World → World → Prop) (P : Program) (ops : Array Oper) (Q : Exit → Act → World → Prop) : List (Bool × List Nat) → Act → World → Prop
  | [], a, w => Q .normal a w
  | (true, is) :: r, a, w => wpQuiet P ops (fun u => ∃ g : GrR R w, u = g.w) (fun a' => wpSegsR R P ops Q r a' w) (is.filterMap fun i => ops[i]?) a
  | (false, is) :: r, a, w => wpList P ops (Exit.then (fun a' w' => R w w' ∧ wpSegsR R P ops Q r a' w') Q) (is.filterMap fun i => ops[i]?) a w

theorem wpAnyR_takes (hR : Rt R) (hs : Region.noSelect ops = true) (hQ : ∀ c (a : Act) d v w, Q (.panic c) (a.put d v) w → Q (.panic c) a w) {w : World} {N : Act → Prop} {m : Nat} : ∀ (is : List Nat) (listed : Array Bool) (a : Act),
    takesP md ops is listed = true → (∀ a', N a' → wpAnyR R P md ops Q m (setAll is listed) a' w) → wpQuiet P ops (fun u => ∃ g : GrR R w, u = g.w) N (is.filterMap fun i => ops[i]?) a → wpAnyR R P md ops Q (is.length + m) listed a w
  | [], listed, a, _, hN, h => by
    have := hN a h
    simpa [setAll] using this
  | i :: is, listed, a, hB, hN, h => by
    simp only [takesP, Bool.and_eq_true] at hB
    obtain ⟨⟨⟨h1, h2⟩, h3⟩, h4⟩ := hB
    cases ho : ops[i]? with
    | none => rw [ho] at h1; cases h1
    | some o =>
      rw [ho] at h1
      have h' : wpQuiet P ops (fun u => ∃ g : GrR R w, u = g.w) N (o :: is.filterMap fun i => ops[i]?) a := by simpa [ho] using h
      rw [show (i :: is).length + m = (is.length + m) + 1 by simp only [List.length_cons]; omega]
      have rec_ := fun a' => wpAnyR_takes hR hs hQ is (listed.setIfInBounds i true) a' h4 hN
      by_cases hw : Region.wanted o (yielded ops a.tmps) = true
      · simp only [wpQuiet, hw, if_true] at h'
        obtain ⟨v, hv, hn'⟩ := h'
        exact wpAnyR_first hR ho (Region.noSelect_spec hs) (fun c a w => hQ c a _ _ w) _ _ _ _ (Region.free_spec ho h3) (by simpa using h2) (yieldsIf_of_quietR h1 hw hv) (rec_ _ hn')
      · simp only [wpQuiet, hw] at h'
        exact wpAnyR_first hR ho (Region.noSelect_spec hs) (fun c a w => hQ c a _ _ w) _ _ _ _ (Region.free_spec ho h3) (by simpa using h2) (.inr ⟨by simpa using hw, rfl⟩) (rec_ _ h')

theorem wpAnyR_of_segs (hR : Rt R) (hs : Region.noSelect ops = true) (hQ : ∀ c (a : Act) d v w, Q (.panic c) (a.put d v) w → Q (.panic c) a w) : ∀ (l : List (Bool × List Nat)) (listed : Array Bool) (a : Act) (w : World),
    segsP md ops l listed = true → wpSegsR R P ops Q l a w → wpAnyR R P md ops Q (segLen l) listed a w
  | [], listed, a, w, hB, h => ⟨by simpa [segsP] using hB, h⟩
  | (true, is) :: r, listed, a, w, hB, h => by
    simp only [segsP, Bool.and_eq_true] at hB
    exact wpAnyR_takes hR hs hQ is listed a hB.1 (fun a' h' => wpAnyR_of_segs hR hs hQ r (setAll is listed) a' w hB.2 h') h
  | (false, [i]) :: r, listed, a, w, hB, h => by
    simp only [segsP, Bool.and_eq_true, decide_eq_true_eq] at hB
    obtain ⟨⟨h1, h2⟩, h3⟩ := hB
    cases ho : ops[i]? with
    | none => rw [ho] at h2; cases h2
    | some o =>
      have h' : wpList P ops (Exit.then (fun a' w' => R w w' ∧ wpSegsR R P ops Q r a' w') Q) [o] a w := by
        have := h
        unfold wpSegsR at this
        simpa [ho] using this
      have hlen : segLen ((false, [i]) :: r) = segLen r + 1 := by simp [segLen]; omega
      rw [hlen]
      have rec_ := fun a' w' => wpAnyR_of_segs hR hs hQ r (listed.setIfInBounds i true) a' w' h3
      refine ⟨fun h0 => (by rw [h1] at h0; cases h0), fun j hj => ?_⟩
      rw [h1] at hj
      obtain rfl : j = i := by simpa using hj
      unfold wpOp
      simp only [ho]
      simp only [wpList] at h'
      have conv : ∀ {K : Act → World → Prop} {N : Act → World → Prop}, o.wp P a w K (Exit.then N Q) → o.wp P a w K Q := by
        intro K N hh
        unfold Oper.wp at *
        generalize (execOp a.eval o).run P w = rr at *
        cases rr with
        | ok n w' =>
          cases n <;> simp only [Oper.upon] at hh ⊢
          case enter f args => exact Calls.mono hh (fun e w'' he => by cases e <;> exact he)
          all_goals exact hh
        | halt x w' => cases x <;> simp only [Oper.upon] at hh ⊢ <;> exact hh
      split
      · rename_i hw
        simp only [hw, if_true] at h'
        rcases h' with h' | h'
        · exact .inl (Oper.wp_mono (fun a' w' (hh : R w w' ∧ wpSegsR R P ops Q r a' w') => ⟨hh.1, rec_ _ _ hh.2⟩) (conv h'))
        · exact .inr ⟨h'.1, h'.2⟩
      · rename_i hw
        simp only [hw] at h'
        have hh : R w w ∧ wpSegsR R P ops Q r (a.put o.dst undef) w := h'
        exact ⟨hh.1, rec_ _ _ hh.2⟩
  | (false, []) :: r, listed, a, w, hB, h => by simp [segsP] at hB
  | (false, i :: j :: is) :: r, listed, a, w, hB, h => by simp [segsP] at hB

theorem wp_region_segsP (hR : Rt R) {id : Nat} {l : List Oper} {a : Act} {w : World} (segs : List (Bool × List Nat)) (hm : P.follows .mixedOrders = true)
    (hB : (Region.noSelect l.toArray && decide (segLen segs = l.length) && segsP .any l.toArray segs (Array.replicate l.toArray.size false)) = true)
    (hQ : ∀ c (a : Act) d v w, Q (.panic c) (a.put d v) w → Q (.panic c) a w)
    (h : wpSegsR R P l.toArray Q segs a w.drew) : (Code.region id l.toArray true).wp P Q a w := by
  simp only [Bool.and_eq_true, decide_eq_true_eq] at hB
  obtain ⟨⟨hs, hn⟩, hB⟩ := hB
  refine wp_region_any hm (wpAny_of_R (R := R) _ _ _ _ ?_)
  have := wpAnyR_of_segs (R := R) (P := P) (Q := Q) (md := .any) hR hs hQ segs (Array.replicate l.toArray.size false) a w.drew hB h
  rw [hn] at this
  simpa using this
theorem wp_region_segsR (hR : Rt R) {id : Nat} {l : List Oper} {a : Act} {w : World} (segs : List (Bool × List Nat)) (hm : P.follows .mixedOrders = true)
    (hB : (Region.noSelect l.toArray && decide (segLen segs = l.length) && segsP .any l.toArray segs (Array.replicate l.toArray.size false)) = true)
    (h : wpSegsR R P l.toArray (NoPanic Q) segs a w.drew) : (Code.region id l.toArray true).wp P Q a w :=
  wp_region_noPanic (wp_region_segsP hR segs hm hB (fun _ _ _ _ _ h => h) h)

theorem wpSegsR_quiet {is : List Nat} {l : List Oper} {r : List (Bool × List Nat)} {a : Act} {w : World} (hl : (is.filterMap fun i => ops[i]?) = l) (h : wpQuiet P ops (fun u => ∃ g : GrR R w, u = g.w) (fun a' => wpSegsR R P ops Q r a' w) l a) : wpSegsR R P ops Q ((true, is) :: r) a w := by
  subst hl; exact h
theorem wpSegsR_one {i : Nat} {o : Oper} {r : List (Bool × List Nat)} {a : Act} {w : World} (ho : ops[i]? = some o) (h : wpList P ops (Exit.then (fun a' w' => R w w' ∧ wpSegsR R P ops Q r a' w') Q) [o] a w) : wpSegsR R P ops Q ((false, [i]) :: r) a w := by
  unfold wpSegsR; simpa [ho] using h
theorem wpSegsR_done {a : Act} {w : World} (h : Q .normal a w) : wpSegsR R P ops (NoPanic Q) [] a w := h
theorem wpSegsR_end {a : Act} {w : World} (h : Q .normal a w) : wpSegsR R P ops Q [] a w := h
end

/-- Blocks in S may turn, others not. -/
structure KS (S : Nat → Prop) (w w' : World) : Prop where
  os : w'.os = w.os
  tape : w'.tape = w.tape
  output : w'.output = w.output
  size : w.heap.size ≤ w'.heap.size
  block : ∀ i, ¬ S i → w'.heap[i]? = w.heap[i]?
theorem KS.rt (S : Nat → Prop) : Rt (KS S) := ⟨fun _ => ⟨rfl, rfl, rfl, Nat.le_refl _, fun _ _ => rfl⟩, fun h k => ⟨k.os.trans h.os, k.tape.trans h.tape, k.output.trans h.output, Nat.le_trans h.size k.size, fun i hi => (k.block i hi).trans (h.block i hi)⟩⟩
theorem KS.cell {S : Nat → Prop} {w w' : World} (h : KS S w w') {b off : Nat} {v : Value} (hc : w.cell? ⟨b, off, none⟩ = some v) (hb : ¬ S b) : w'.cell? ⟨b, off, none⟩ = some v := by
  unfold World.cell? at hc ⊢
  simp only at hc ⊢
  rw [h.block b hb]
  exact hc
theorem GrR.cell {S : Nat → Prop} {w0 : World} {b off : Nat} {v : Value} (h : w0.cell? ⟨b, off, none⟩ = some v) (hb : ¬ S b) : ∀ g : GrR (KS S) w0, g.w.cell? ⟨b, off, none⟩ = some v := fun g => g.h.cell h hb
end Go.Proofs.YthgendgmlpaglaaDoor
namespace Go.Proofs.YthgendgmlpaglaaDoor
open Go.RowKit

def valueOnly3 (o : Oper) : Bool := valueOnly2 o || (match o.op with | .build .. => true | _ => false)
theorem valueOnly3_spec {P : Program} {o : Oper} (h : valueOnly3 o = true) {ρ : Operand → Value} {w w' : World} {r : Next} (hr : (execOp ρ o).run P w = .ok r w') : ∃ x, r = .value x := by
  unfold valueOnly3 at h
  rw [Bool.or_eq_true] at h
  rcases h with h | h
  · exact valueOnly2_spec h hr
  · cases hop : o.op <;> simp only [hop] at h <;> try cases h
    unfold execOp at hr
    rw [hop] at hr
    simp only [Sem.run_bind] at hr
    generalize Sem.run P (Instr.build _ _) w = rr at hr
    cases rr with
    | ok x u => simp only [Result.andThen] at hr; exact ⟨x, by simp only [Sem.run_pure] at hr; injection hr with h1 _; exact h1.symm⟩
    | halt x u => cases hr
section
variable {R : World → World → Prop} {P : Program} {ops : Array Oper} {Q : Exit → Act → World → Prop} {md : Region.Mode}
theorem yieldsIf_of_quietU {o : Oper} {a : Act} {w : World} {v : Value} (hv : valueOnly3 o = true) (hw : Region.wanted o (yielded ops a.tmps) = true)
    (h : ∀ u, (∃ g : GrR R w, u = g.w) → o.quietAt P a (fun u => ∃ g : GrR R w, u = g.w) u v) : YieldsIf P ops (fun u => R w u) o v a := by
  refine .inl ⟨hw, fun u hu => ?_⟩
  have h1 := h u ⟨⟨u, hu⟩, rfl⟩
  unfold Oper.quietAt at h1
  cases hr : (execOp a.eval o).run P u with
  | halt x u' => rw [hr] at h1; simp only [Oper.quietUpon] at h1
  | ok n u' =>
    obtain ⟨x, rfl⟩ := valueOnly3_spec hv hr
    rw [hr] at h1
    simp only [Oper.quietUpon] at h1
    obtain ⟨rfl, rfl⟩ := h1
    rfl
def takesU (md : Region.Mode) (ops : Array Oper) : List Nat → Array Bool → Bool
  | [], _ => true
  | i :: is, listed => (match ops[i]? with | some o => valueOnly3 o | none => false) && (Region.ready md ops listed).contains i && Region.free md ops listed i && takesU md ops is (listed.setIfInBounds i true)
theorem wpAnyU_takes (hR : Rt R) (hs : Region.noSelect ops = true) (hQ : ∀ c (a : Act) d v w, Q (.panic c) (a.put d v) w → Q (.panic c) a w) {w : World} {N : Act → Prop} {m : Nat} : ∀ (is : List Nat) (listed : Array Bool) (a : Act),
    takesU md ops is listed = true → (∀ a', N a' → wpAnyR R P md ops Q m (setAll is listed) a' w) → wpQuiet P ops (fun u => ∃ g : GrR R w, u = g.w) N (is.filterMap fun i => ops[i]?) a → wpAnyR R P md ops Q (is.length + m) listed a w
  | [], listed, a, _, hN, h => by
    have := hN a h
    simpa [setAll] using this
  | i :: is, listed, a, hB, hN, h => by
    simp only [takesU, Bool.and_eq_true] at hB
    obtain ⟨⟨⟨h1, h2⟩, h3⟩, h4⟩ := hB
    cases ho : ops[i]? with
    | none => rw [ho] at h1; cases h1
    | some o =>
      rw [ho] at h1
      have h' : wpQuiet P ops (fun u => ∃ g : GrR R w, u = g.w) N (o :: is.filterMap fun i => ops[i]?) a := by simpa [ho] using h
      rw [show (i :: is).length + m = (is.length + m) + 1 by simp only [List.length_cons]; omega]
      have rec_ := fun a' => wpAnyU_takes hR hs hQ is (listed.setIfInBounds i true) a' h4 hN
      by_cases hw : Region.wanted o (yielded ops a.tmps) = true
      · simp only [wpQuiet, hw, if_true] at h'
        obtain ⟨v, hv, hn'⟩ := h'
        exact wpAnyR_first hR ho (Region.noSelect_spec hs) (fun c a w => hQ c a _ _ w) _ _ _ _ (Region.free_spec ho h3) (by simpa using h2) (yieldsIf_of_quietU h1 hw hv) (rec_ _ hn')
      · simp only [wpQuiet, hw] at h'
        exact wpAnyR_first hR ho (Region.noSelect_spec hs) (fun c a w => hQ c a _ _ w) _ _ _ _ (Region.free_spec ho h3) (by simpa using h2) (.inr ⟨by simpa using hw, rfl⟩) (rec_ _ h')

end
inductive Ur where
  | done
  | quiet (is : List Nat) (r : Ur)
  | one (i : Nat) (r : Ur)
  | two (i : Nat) (r : Ur) (j : Nat) (s : Ur)
  | three (i : Nat) (r : Ur) (j : Nat) (s : Ur) (k : Nat) (t : Ur)
section
variable {R : World → World → Prop} {P : Program} {ops : Array Oper} {Q : Exit → Act → World → Prop} {md : Region.Mode}
def urLen : Ur → Nat
  | .done => 0
  | .quiet is r => is.length + urLen r
  | .one _ r => urLen r + 1
  | .two _ r _ _ => urLen r + 1
  | .three _ r _ _ _ _ => urLen r + 1
def urB (md : Region.Mode) (ops : Array Oper) : Ur → Array Bool → Bool
  | .done, listed => (Region.ready md ops listed).isEmpty
  | .quiet is r, listed => takesU md ops is listed && urB md ops r (setAll is listed)
  | .one i r, listed => decide (Region.ready md ops listed = [i]) && (ops[i]?).isSome && urB md ops r (listed.setIfInBounds i true)
  | .two i r j s, listed => decide (Region.ready md ops listed = [i, j]) && (ops[i]?).isSome && (ops[j]?).isSome && decide (urLen s = urLen r) && urB md ops r (listed.setIfInBounds i true) && urB md ops s (listed.setIfInBounds j true)
  | .three i r j s k t, listed => decide (Region.ready md ops listed = [i, j, k]) && (ops[i]?).isSome && (ops[j]?).isSome && (ops[k]?).isSome && decide (urLen s = urLen r) && decide (urLen t = urLen r) && urB md ops r (listed.setIfInBounds i true) && urB md ops s (listed.setIfInBounds j true) && urB md ops t (listed.setIfInBounds k true)
def wpUr (R : World → World → Prop) (P : Program) (ops : Array Oper) (Q : Exit → Act → World → Prop) : Ur → Act → World → Prop
  | .done, a, w => Q .normal a w
  | .quiet is r, a, w => wpQuiet P ops (fun u => ∃ g : GrR R w, u = g.w) (fun a' => wpUr R P ops Q r a' w) (is.filterMap fun i => ops[i]?) a
  | .one i r, a, w => wpList P ops (Exit.then (fun a' w' => R w w' ∧ wpUr R P ops Q r a' w') Q) ([i].filterMap fun i => ops[i]?) a w
  | .two i r j s, a, w => wpList P ops (Exit.then (fun a' w' => R w w' ∧ wpUr R P ops Q r a' w') Q) ([i].filterMap fun i => ops[i]?) a w ∧ wpList P ops (Exit.then (fun a' w' => R w w' ∧ wpUr R P ops Q s a' w') Q) ([j].filterMap fun i => ops[i]?) a w
  | .three i r j s k t, a, w => wpList P ops (Exit.then (fun a' w' => R w w' ∧ wpUr R P ops Q r a' w') Q) ([i].filterMap fun i => ops[i]?) a w ∧ wpList P ops (Exit.then (fun a' w' => R w w' ∧ wpUr R P ops Q s a' w') Q) ([j].filterMap fun i => ops[i]?) a w ∧ wpList P ops (Exit.then (fun a' w' => R w w' ∧ wpUr R P ops Q t a' w') Q) ([k].filterMap fun i => ops[i]?) a w
theorem wpOp_of_listU {i : Nat} {N K : Act → World → Prop} {a : Act} {w : World} (hs : (ops[i]?).isSome = true) (hN : ∀ a' w', N a' w' → K a' w') (h : wpList P ops (Exit.then N Q) ([i].filterMap fun i => ops[i]?) a w) : wpOp P ops Q i K a w := by
  cases ho : ops[i]? with
  | none => rw [ho] at hs; cases hs
  | some o =>
    have h' : wpList P ops (Exit.then N Q) [o] a w := by simpa [ho] using h
    unfold wpOp
    simp only [ho]
    simp only [wpList] at h'
    have conv : ∀ {K' : Act → World → Prop} {N' : Act → World → Prop}, o.wp P a w K' (Exit.then N' Q) → o.wp P a w K' Q := by
      intro K' N' hh
      unfold Oper.wp at *
      generalize (execOp a.eval o).run P w = rr at *
      cases rr with
      | ok n w' =>
        cases n <;> simp only [Oper.upon] at hh ⊢
        case enter f args => exact Calls.mono hh (fun e w'' he => by cases e <;> exact he)
        all_goals exact hh
      | halt x w' => cases x <;> simp only [Oper.upon] at hh ⊢ <;> exact hh
    split
    · rename_i hw
      simp only [hw, if_true] at h'
      rcases h' with h' | h'
      · exact .inl (Oper.wp_mono (fun a' w' (hh : N a' w') => hN _ _ hh) (conv h'))
      · exact .inr ⟨h'.1, h'.2⟩
    · rename_i hw
      simp only [hw] at h'
      exact hN _ _ h'
theorem wpAnyR_of_ur (hR : Rt R) (hs : Region.noSelect ops = true) (hQ : ∀ c (a : Act) d v w, Q (.panic c) (a.put d v) w → Q (.panic c) a w) : ∀ (t : Ur) (listed : Array Bool) (a : Act) (w : World),
    urB md ops t listed = true → wpUr R P ops Q t a w → wpAnyR R P md ops Q (urLen t) listed a w
  | .done, listed, a, w, hB, h => ⟨by simpa [urB] using hB, h⟩
  | .quiet is r, listed, a, w, hB, h => by
    simp only [urB, Bool.and_eq_true] at hB
    exact wpAnyU_takes hR hs hQ is listed a hB.1 (fun a' h' => wpAnyR_of_ur hR hs hQ r (setAll is listed) a' w hB.2 h') h
  | .one i r, listed, a, w, hB, h => by
    simp only [urB, Bool.and_eq_true, decide_eq_true_eq] at hB
    obtain ⟨⟨h1, h2⟩, h3⟩ := hB
    have rec_ := fun a' w' => wpAnyR_of_ur hR hs hQ r (listed.setIfInBounds i true) a' w' h3
    refine ⟨fun h0 => (by rw [h1] at h0; cases h0), fun j hj => ?_⟩
    rw [h1] at hj
    obtain rfl : j = i := by simpa using hj
    exact wpOp_of_listU h2 (fun a' w' hh => ⟨hh.1, rec_ _ _ hh.2⟩) h
  | .two i r j s, listed, a, w, hB, h => by
    simp only [urB, Bool.and_eq_true, decide_eq_true_eq] at hB
    obtain ⟨⟨⟨⟨⟨h1, h2⟩, h3⟩, h4⟩, h5⟩, h6⟩ := hB
    have rec_ := fun a' w' => wpAnyR_of_ur hR hs hQ r (listed.setIfInBounds i true) a' w' h5
    have rec2 := fun a' w' => wpAnyR_of_ur hR hs hQ s (listed.setIfInBounds j true) a' w' h6
    rw [h4] at rec2
    refine ⟨fun h0 => (by rw [h1] at h0; cases h0), fun k hk => ?_⟩
    rw [h1] at hk
    simp only [List.mem_cons, List.not_mem_nil, or_false] at hk
    rcases hk with rfl | rfl
    · exact wpOp_of_listU h2 (fun a' w' hh => ⟨hh.1, rec_ _ _ hh.2⟩) h.1
    · exact wpOp_of_listU h3 (fun a' w' hh => ⟨hh.1, rec2 _ _ hh.2⟩) h.2
  | .three i r j s k t, listed, a, w, hB, h => by
    simp only [urB, Bool.and_eq_true, decide_eq_true_eq] at hB
    obtain ⟨⟨⟨⟨⟨⟨⟨⟨h1, h2⟩, h3⟩, h3'⟩, h4⟩, h4'⟩, h5⟩, h6⟩, h7⟩ := hB
    have rec_ := fun a' w' => wpAnyR_of_ur hR hs hQ r (listed.setIfInBounds i true) a' w' h5
    have rec2 := fun a' w' => wpAnyR_of_ur hR hs hQ s (listed.setIfInBounds j true) a' w' h6
    have rec3 := fun a' w' => wpAnyR_of_ur hR hs hQ t (listed.setIfInBounds k true) a' w' h7
    rw [h4] at rec2
    rw [h4'] at rec3
    refine ⟨fun h0 => (by rw [h1] at h0; cases h0), fun m hm => ?_⟩
    rw [h1] at hm
    simp only [List.mem_cons, List.not_mem_nil, or_false] at hm
    rcases hm with rfl | rfl | rfl
    · exact wpOp_of_listU h2 (fun a' w' hh => ⟨hh.1, rec_ _ _ hh.2⟩) h.1
    · exact wpOp_of_listU h3 (fun a' w' hh => ⟨hh.1, rec2 _ _ hh.2⟩) h.2.1
    · exact wpOp_of_listU h3' (fun a' w' hh => ⟨hh.1, rec3 _ _ hh.2⟩) h.2.2
theorem wp_region_ur (hR : Rt R) {id : Nat} {l : List Oper} {a : Act} {w : World} (t : Ur) (hm : P.follows .mixedOrders = true)
    (hB : (Region.noSelect l.toArray && decide (urLen t = l.length) && urB .any l.toArray t (Array.replicate l.toArray.size false)) = true)
    (h : wpUr R P l.toArray (NoPanic Q) t a w.drew) : (Code.region id l.toArray true).wp P Q a w := by
  simp only [Bool.and_eq_true, decide_eq_true_eq] at hB
  obtain ⟨⟨hs, hn⟩, hB⟩ := hB
  refine wp_region_noPanic (wp_region_any hm (wpAny_of_R (R := R) _ _ _ _ ?_))
  have := wpAnyR_of_ur (R := R) (P := P) (Q := NoPanic Q) (md := .any) hR hs (fun _ _ _ _ _ h => h) t (Array.replicate l.toArray.size false) a w.drew hB h
  rw [hn] at this
  simpa using this
theorem wpUr_quiet {is : List Nat} {l : List Oper} {r : Ur} {a : Act} {w : World} (hl : (is.filterMap fun i => ops[i]?) = l) (h : wpQuiet P ops (fun u => ∃ g : GrR R w, u = g.w) (fun a' => wpUr R P ops Q r a' w) l a) : wpUr R P ops Q (.quiet is r) a w := by
  subst hl; exact h
theorem wpUr_one {i : Nat} {o : Oper} {r : Ur} {a : Act} {w : World} (ho : ops[i]? = some o) (h : wpList P ops (Exit.then (fun a' w' => R w w' ∧ wpUr R P ops Q r a' w') Q) [o] a w) : wpUr R P ops Q (.one i r) a w := by
  unfold wpUr; simpa [ho] using h
theorem wpUr_two {i j : Nat} {o p : Oper} {r s : Ur} {a : Act} {w : World} (ho : ops[i]? = some o) (hp : ops[j]? = some p) (h : wpList P ops (Exit.then (fun a' w' => R w w' ∧ wpUr R P ops Q r a' w') Q) [o] a w)
    (k : wpList P ops (Exit.then (fun a' w' => R w w' ∧ wpUr R P ops Q s a' w') Q) [p] a w) : wpUr R P ops Q (.two i r j s) a w := by
  unfold wpUr
  refine ⟨?_, ?_⟩
  · simpa [ho] using h
  · simpa [hp] using k
theorem wpUr_three {i j k : Nat} {o p q : Oper} {r s t : Ur} {a : Act} {w : World} (ho : ops[i]? = some o) (hp : ops[j]? = some p) (hq : ops[k]? = some q) (h : wpList P ops (Exit.then (fun a' w' => R w w' ∧ wpUr R P ops Q r a' w') Q) [o] a w)
    (h2 : wpList P ops (Exit.then (fun a' w' => R w w' ∧ wpUr R P ops Q s a' w') Q) [p] a w) (h3 : wpList P ops (Exit.then (fun a' w' => R w w' ∧ wpUr R P ops Q t a' w') Q) [q] a w) : wpUr R P ops Q (.three i r j s k t) a w := by
  unfold wpUr
  refine ⟨?_, ?_, ?_⟩
  · simpa [ho] using h
  · simpa [hp] using h2
  · simpa [hq] using h3
theorem wpUr_done {a : Act} {w : World} (h : Q .normal a w) : wpUr R P ops (NoPanic Q) .done a w := h
end
end Go.Proofs.YthgendgmlpaglaaDoor
namespace Go.Proofs.YthgendgmlpaglaaDoor
open Go.RowKit

/-- What recover hands back, and what becomes of the frame below. -/
def Recov (u : FrameMode) (v : Value) (u' : FrameMode) : Prop :=
  (∃ older, u = .panicking ({ v, recovered := false } :: older) ∧ u' = .panicking ({ v, recovered := true } :: older)) ∨ (u = .returning ∧ v = .nilIface ∧ u' = .returning)
theorem bodyPost_S {P : Program} {fn : Func} {R : Ending → World → Prop} {c₀ : Frame} {cs : List Frame} {u' : FrameMode} (e : Exit) (a : Act) (w : World) (h : bodyPost P fn R e a w) :
    bodyPostS P fn c₀ cs (fun e v' w' => v' = u' ∧ R e w') e a ({ c₀ with mode := u' } :: cs) w := by
  cases e with
  | normal => exact ⟨h.1, u', rfl, h.2.elim fun v hv => ⟨v, hv.1, rfl, hv.2⟩⟩
  | ret => exact ⟨h.1, u', rfl, h.2.elim fun v hv => ⟨v, hv.1, rfl, hv.2⟩⟩
  | panic chain => exact ⟨h.1, u', rfl, rfl, h.2⟩
  | outgrown => exact ⟨u', rfl, h⟩
  | exit id => exact h.elim
  | goto l => exact h.elim
theorem callsD_recover {P : Program} {f : FuncId} {fn : Func} {id : Nat} {o0 : Oper} {tl : List Oper} {rest : Code} {args : Array Value} {u u' : FrameMode} {v : Value} {w : World} {R : Ending → World → Prop}
    (hf : P.funcs[f]? = some fn) (hb : fn.body = some (Code.seq (Code.region id (o0 :: tl).toArray false) rest)) (hg : o0.guard = none)
    (h0 : ∀ (ρ : Operand → Value) (w : World), (execOp ρ o0).run P w = .ok .recover w) (hm : Recov u v u')
    (h : wpList P (o0 :: tl).toArray (Exit.then (rest.wp P (bodyPost P fn R)) (bodyPost P fn R)) tl (Act.put { tmps := args ++ Array.replicate (fn.ntmps - args.size) undef, defers := [] } o0.dst v) w) :
    CallsD P f args u w fun e v' w' => v' = u' ∧ R e w' := by
  refine callsD_of_wpS hf hb fun c₀ cs hu => ?_
  apply wpS_seq
  intro b k hbk hro
  generalize ha : ({ tmps := args ++ Array.replicate (fn.ntmps - args.size) undef, defers := [] } : Act) = a at *
  have e1 : wpOps P (o0 :: tl).toArray (Exit.then (rest.wp P (bodyPost P fn R)) (bodyPost P fn R)) (List.range' 1 tl.length) = wpList P (o0 :: tl).toArray (Exit.then (rest.wp P (bodyPost P fn R)) (bodyPost P fn R)) tl :=
    wpOps_eq_wpList tl 1 (fun j => by rw [Nat.add_comm]; simp)
  have hrec : recoverD (c₀ :: cs) = some (v, { c₀ with mode := u' } :: cs) ∨ (recoverD (c₀ :: cs) = none ∧ v = .nilIface ∧ c₀ = { c₀ with mode := u' }) := by
    rcases hm with ⟨older, rfl, rfl⟩ | ⟨rfl, rfl, rfl⟩
    · left; simp [recoverD, hu]
    · right
      refine ⟨by simp [recoverD, hu], rfl, ?_⟩
      rw [← hu]
  obtain ⟨e, a', w', hq, harr⟩ := wp_ops (List.range' 1 tl.length) _ _ (by rw [e1]; exact h) b k ({ c₀ with mode := u' } :: cs)
  have hw : Region.wanted o0 (yielded (o0 :: tl).toArray a.tmps) = true := by simp [Region.wanted, hg]
  have hi : (o0 :: tl).toArray[0]? = some o0 := by simp
  have hstep := stepG_op (P := P) (b := b) (k := k) (cs := c₀ :: cs) (w := w) (a := a) (rest := List.range' 1 tl.length) hi hw
  have hfin : ∀ v, (b.at a (.inRegion (o0 :: tl).toArray (0 :: List.range' 1 tl.length) :: k)).finish v = b.at (a.put o0.dst v) (.inRegion (o0 :: tl).toArray (List.range' 1 tl.length) :: k) := by
    intro v; rw [Frame.finish_at, hi]; rfl
  have htr := tryRecover_deferred (fr := b.at a (.inRegion (o0 :: tl).toArray (0 :: List.range' 1 tl.length) :: k)) hbk (c₀ :: cs)
  have harr2 : Arrives P (lone (b.at a (.inRegion (o0 :: tl).toArray (0 :: List.range' 1 tl.length) :: k)) (c₀ :: cs) w) b k ({ c₀ with mode := u' } :: cs) e a' w' := by
    refine .of_steps (.one (step_lone_go ?_)) harr
    rw [hstep, ← hfin]
    simp only [Frame.at] at htr ⊢
    rcases hrec with hr | ⟨hr, rfl, hc⟩
    · simp [stepG.apply, h0, htr, hr]
    · simp [stepG.apply, h0, htr, hr, ← hc]
  refine ⟨e, a', { c₀ with mode := u' } :: cs, w', ?_, .of_steps (.one step_region) ?_⟩
  · cases e with
    | normal => exact wpS_of_wp (Code.wp_mono (fun e a w h => bodyPost_S e a w h) hq)
    | ret => exact bodyPost_S _ _ _ (show bodyPost P fn R .ret a' w' from hq)
    | panic c => exact bodyPost_S _ _ _ (show bodyPost P fn R (.panic c) a' w' from hq)
    | outgrown => exact bodyPost_S (c₀ := c₀) (cs := cs) _ _ _ (show bodyPost P fn R .outgrown a' w' from hq)
    | exit i => exact (show False from hq).elim
    | goto l => exact (show False from hq).elim
  · have : List.range (o0 :: tl).toArray.size = 0 :: List.range' 1 tl.length := by
      simp [List.range_eq_range', List.range'_succ]
    rw [this]
    exact harr2
end Go.Proofs.YthgendgmlpaglaaDoor
