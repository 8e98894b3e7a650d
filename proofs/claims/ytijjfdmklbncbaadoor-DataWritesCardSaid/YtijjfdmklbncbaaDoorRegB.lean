/-
  The law of segments (XRegG) for statements with a call that may turn blocks from B on: what is read first lies ahead of B.
-/
import Derived.Test.YtijjfdmklbncbaaDoorRegG
namespace Go.Proofs.YtijjfdmklbncbaaDoor
open Go.RowKit

/-- What lies ahead of block B is as it was. -/
structure KB (B : Nat) (w w' : World) : Prop where
  os : w'.os = w.os
  tape : w'.tape = w.tape
  output : w'.output = w.output
  size : w.heap.size ≤ w'.heap.size
  block : ∀ i, i < B → w'.heap[i]? = w.heap[i]?
theorem KB.refl (B : Nat) (w : World) : KB B w w := ⟨rfl, rfl, rfl, Nat.le_refl _, fun _ _ => rfl⟩
theorem KB.trans {B : Nat} {a b c : World} (h : KB B a b) (k : KB B b c) : KB B a c := ⟨k.os.trans h.os, k.tape.trans h.tape, k.output.trans h.output, Nat.le_trans h.size k.size, fun i hi => (k.block i hi).trans (h.block i hi)⟩
theorem KB.of {B : Nat} {w w' : World} (g : w.grownBy w' none) (hB : B ≤ w.heap.size) : KB B w w' := ⟨g.os, g.tape, g.output, g.size, fun i hi => g.block i (by omega) (by simp)⟩
theorem KB.gr {B : Nat} {w0 w w' : World} (g : w0.grownBy w none) (h : KB B w w') (hB : w0.heap.size ≤ B) : w0.grownBy w' none :=
  ⟨h.os.trans g.os, h.tape.trans g.tape, h.output.trans g.output, Nat.le_trans g.size h.size, fun i hi _ => (h.block i (by omega)).trans (g.block i hi (by simp))⟩
theorem KB.drew {B : Nat} {w w' : World} (h : KB B w w') : KB B w w'.drew := ⟨h.os, h.tape, h.output, h.size, h.block⟩
theorem KB.cell {B : Nat} {w w' : World} (h : KB B w w') {b off : Nat} {v : Value} (hc : w.cell? ⟨b, off, none⟩ = some v) (hb : b < B) : w'.cell? ⟨b, off, none⟩ = some v := by
  unfold World.cell? at hc ⊢
  simp only at hc ⊢
  rw [h.block b hb]
  exact hc
/-- A world that is w0 ahead of B. -/
structure GrB (B : Nat) (w0 : World) where
  w : World
  h : KB B w0 w
instance (B : Nat) (w0 : World) : Inhabited (GrB B w0) := ⟨⟨w0, KB.refl B w0⟩⟩
@[go_sem, simp] theorem GrB.ex {B : Nat} {w0 : World} (g : GrB B w0) : (∃ m : GrB B w0, g.w = m.w) = True := eq_true ⟨g, rfl⟩
theorem GrB.cell {B : Nat} {w0 : World} {b off : Nat} {v : Value} (h : w0.cell? ⟨b, off, none⟩ = some v) (hb : b < B) : ∀ g : GrB B w0, g.w.cell? ⟨b, off, none⟩ = some v := fun g => g.h.cell h hb

section
variable {B : Nat} {P : Program} {ops : Array Oper} {Q : Exit → Act → World → Prop} {md : Region.Mode}

/-- Whatever order is picked from here on, and behind every operation there are new blocks alone. -/
def wpAnyB (B : Nat) (P : Program) (md : Region.Mode) (ops : Array Oper) (Q : Exit → Act → World → Prop) : Nat → Array Bool → Act → World → Prop
  | 0, listed, a, w => Region.ready md ops listed = [] ∧ Q .normal a w
  | fuel + 1, listed, a, w =>
    (Region.ready md ops listed = [] → Q .normal a w) ∧
    ∀ i ∈ Region.ready md ops listed, wpOp P ops Q i (fun a' w' => KB B w w' ∧ wpAnyB B P md ops Q fuel (listed.setIfInBounds i true) a' w') a w
theorem wpAny_of_B : ∀ (fuel : Nat) (listed : Array Bool) (a : Act) (w : World), wpAnyB B P md ops Q fuel listed a w → wpAny P md ops Q fuel listed a w
  | 0, _, _, _, h => h
  | fuel + 1, _, _, _, h => ⟨h.1, fun i hi => wpOp_mono (fun a' w' h' => wpAny_of_B fuel _ a' w' h'.2) (h.2 i hi)⟩

theorem wpAnyB_first {i : Nat} {oi : Oper} {v : Value} (hi : ops[i]? = some oi) (hsel : ∀ (j : Nat) (o : Oper) cs b, ops[j]? = some o → o.op ≠ .select cs b)
    (hQ : ∀ c a w, Q (.panic c) (a.put oi.dst v) w → Q (.panic c) a w) :
    ∀ (fuel : Nat) (listed : Array Bool) (a : Act) (w : World),
      (∀ j oj, ops[j]? = some oj → j ≠ i → listed.getD j true = false → (∀ e ∈ oj.after, Region.binds md e = true → e.on ≠ i) → oi.apart ops oj = true) →
      i ∈ Region.ready md ops listed → YieldsIf P ops (fun u => KB B w u) oi v a →
      wpAnyB B P md ops Q fuel (listed.setIfInBounds i true) (a.put oi.dst v) w → wpAnyB B P md ops Q (fuel + 1) listed a w := by
  intro fuel
  induction fuel with
  | zero =>
    intro listed a w _ hr hy H
    refine ⟨fun h => (by rw [h] at hr; cases hr), fun j hj => ?_⟩
    by_cases hji : j = i
    · subst hji; exact hy.wpOp hi (KB.refl B w) ⟨KB.refl B w, H⟩
    · have := ready_mono hj hji
      rw [H.1] at this
      cases this
  | succ fuel ih =>
    intro listed a w hfree hr hy H
    refine ⟨fun h => (by rw [h] at hr; cases hr), fun j hj => ?_⟩
    by_cases hji : j = i
    · subst hji; exact hy.wpOp hi (KB.refl B w) ⟨KB.refl B w, H⟩
    · have h1 := H.2 j (ready_mono hj hji)
      obtain ⟨hjun, oj, hoj, hall⟩ := mem_ready.1 hj
      have hnot : ∀ e ∈ oj.after, Region.binds md e = true → e.on ≠ i := fun e he hb heq => by
        have h1 := hall e he hb
        have h0 := (mem_ready.1 hr).1
        rw [heq] at h1
        rcases Nat.lt_or_ge i listed.size with h' | h'
        · simp [h'] at h0 h1; rw [h0] at h1; cases h1
        · simp [Array.getElem?_eq_none h'] at h1
      have h2 := wpOp_putIf hoj (hfree j oj hoj hji hjun hnot) (fun cs b => hsel i oi cs b hi) (fun cs b => hsel j oj cs b hoj) hQ hy h1
      have hfree' : ∀ k ok, ops[k]? = some ok → k ≠ i → (listed.setIfInBounds j true).getD k true = false →
          (∀ e ∈ ok.after, Region.binds md e = true → e.on ≠ i) → oi.apart ops ok = true := fun k ok hk hki hun hno => by
        refine hfree k ok hk hki ?_ hno
        by_cases hjk : j = k
        · subst hjk; exact hjun
        · rw [getD_set_ne true hjk] at hun; exact hun
      refine wpOp_mono (fun a' w' h3 => ⟨h3.2.1, ih (listed.setIfInBounds j true) a' w' hfree' (ready_mono hr (Ne.symm hji)) (h3.1.imp (fun ⟨h5, h6⟩ => ⟨h5, fun u hu => h6 u (KB.trans h3.2.1 hu)⟩) id) ?_⟩) h2
      rw [Array.setIfInBounds_comm _ _ hji]
      exact h3.2.2

theorem yieldsIf_of_quietB {o : Oper} {a : Act} {w : World} {v : Value} (hv : valueOnly o = true) (hw : Region.wanted o (yielded ops a.tmps) = true)
    (h : ∀ u, (∃ g : GrB B w, u = g.w) → o.quietAt P a (fun u => ∃ g : GrB B w, u = g.w) u v) : YieldsIf P ops (fun u => KB B w u) o v a := by
  refine .inl ⟨hw, fun u hu => ?_⟩
  have h1 := h u ⟨⟨u, hu⟩, rfl⟩
  unfold Oper.quietAt at h1
  cases hr : (execOp a.eval o).run P u with
  | halt x u' => rw [hr] at h1; simp only [Oper.quietUpon] at h1
  | ok n u' =>
    obtain ⟨x, rfl⟩ := valueOnly_spec hv hr
    rw [hr] at h1
    simp only [Oper.quietUpon] at h1
    obtain ⟨rfl, rfl⟩ := h1
    rfl

/-- The walk over the segments. -/
def wpSegsB (B : Nat) (P : Program) (ops : Array Oper) (Q : Exit → Act → World → Prop) : List (Bool × List Nat) → Act → World → Prop
  | [], a, w => Q .normal a w
  | (true, is) :: r, a, w => wpQuiet P ops (fun u => ∃ g : GrB B w, u = g.w) (fun a' => wpSegsB B P ops Q r a' w) (is.filterMap fun i => ops[i]?) a
  | (false, is) :: r, a, w => wpList P ops (Exit.then (fun a' w' => KB B w w' ∧ wpSegsB B P ops Q r a' w') Q) (is.filterMap fun i => ops[i]?) a w

theorem wpAnyB_takes (hs : Region.noSelect ops = true) (hQ : ∀ c a b w, Q (.panic c) a w → Q (.panic c) b w) {w : World} {N : Act → Prop} {m : Nat} : ∀ (is : List Nat) (listed : Array Bool) (a : Act),
    takesB md ops is listed = true → (∀ a', N a' → wpAnyB B P md ops Q m (setAll is listed) a' w) → wpQuiet P ops (fun u => ∃ g : GrB B w, u = g.w) N (is.filterMap fun i => ops[i]?) a → wpAnyB B P md ops Q (is.length + m) listed a w
  | [], listed, a, _, hN, h => by
    have := hN a h
    simpa [setAll] using this
  | i :: is, listed, a, hB, hN, h => by
    simp only [takesB, Bool.and_eq_true] at hB
    obtain ⟨⟨⟨h1, h2⟩, h3⟩, h4⟩ := hB
    cases ho : ops[i]? with
    | none => rw [ho] at h1; cases h1
    | some o =>
      rw [ho] at h1
      have h' : wpQuiet P ops (fun u => ∃ g : GrB B w, u = g.w) N (o :: is.filterMap fun i => ops[i]?) a := by simpa [ho] using h
      rw [show (i :: is).length + m = (is.length + m) + 1 by simp only [List.length_cons]; omega]
      have rec_ := fun a' => wpAnyB_takes hs hQ is (listed.setIfInBounds i true) a' h4 hN
      by_cases hw : Region.wanted o (yielded ops a.tmps) = true
      · simp only [wpQuiet, hw, if_true] at h'
        obtain ⟨v, hv, hn'⟩ := h'
        exact wpAnyB_first ho (Region.noSelect_spec hs) (fun c a w => hQ c _ _ w) _ _ _ _ (Region.free_spec ho h3) (by simpa using h2) (yieldsIf_of_quietB h1 hw hv) (rec_ _ hn')
      · simp only [wpQuiet, hw] at h'
        exact wpAnyB_first ho (Region.noSelect_spec hs) (fun c a w => hQ c _ _ w) _ _ _ _ (Region.free_spec ho h3) (by simpa using h2) (.inr ⟨by simpa using hw, rfl⟩) (rec_ _ h')

theorem wpAnyB_of_segs (hs : Region.noSelect ops = true) (hQ : ∀ c a b w, Q (.panic c) a w → Q (.panic c) b w) : ∀ (l : List (Bool × List Nat)) (listed : Array Bool) (a : Act) (w : World),
    segsB md ops l listed = true → wpSegsB B P ops Q l a w → wpAnyB B P md ops Q (segLen l) listed a w
  | [], listed, a, w, hB, h => ⟨by simpa [segsB] using hB, h⟩
  | (true, is) :: r, listed, a, w, hB, h => by
    simp only [segsB, Bool.and_eq_true] at hB
    exact wpAnyB_takes hs hQ is listed a hB.1 (fun a' h' => wpAnyB_of_segs hs hQ r (setAll is listed) a' w hB.2 h') h
  | (false, [i]) :: r, listed, a, w, hB, h => by
    simp only [segsB, Bool.and_eq_true, decide_eq_true_eq] at hB
    obtain ⟨⟨h1, h2⟩, h3⟩ := hB
    cases ho : ops[i]? with
    | none => rw [ho] at h2; cases h2
    | some o =>
      have h' : wpList P ops (Exit.then (fun a' w' => KB B w w' ∧ wpSegsB B P ops Q r a' w') Q) [o] a w := by
        have := h
        unfold wpSegsB at this
        simpa [ho] using this
      have hlen : segLen ((false, [i]) :: r) = segLen r + 1 := by simp [segLen]; omega
      rw [hlen]
      have rec_ := fun a' w' => wpAnyB_of_segs hs hQ r (listed.setIfInBounds i true) a' w' h3
      refine ⟨fun h0 => (by rw [h1] at h0; cases h0), fun j hj => ?_⟩
      rw [h1] at hj
      obtain rfl : j = i := by simpa using hj
      unfold wpOp
      simp only [ho]
      simp only [wpList] at h'
      have conv : ∀ {K : Act → World → Prop} {N : Act → World → Prop}, o.wp P a w K (Exit.then N Q) → o.wp P a w K Q := by
        intro K N hh
        unfold Oper.wp at *
        generalize (execOp a.eval o).run P w = rr at *
        cases rr with
        | ok n w' =>
          cases n <;> simp only [Oper.upon] at hh ⊢
          case enter f args => exact Calls.mono hh (fun e w'' he => by cases e <;> exact he)
          all_goals exact hh
        | halt x w' => cases x <;> simp only [Oper.upon] at hh ⊢ <;> exact hh
      split
      · rename_i hw
        simp only [hw, if_true] at h'
        rcases h' with h' | h'
        · exact .inl (Oper.wp_mono (fun a' w' (hh : KB B w w' ∧ wpSegsB B P ops Q r a' w') => ⟨hh.1, rec_ _ _ hh.2⟩) (conv h'))
        · exact .inr ⟨h'.1, h'.2⟩
      · rename_i hw
        simp only [hw] at h'
        have hh : KB B w w ∧ wpSegsB B P ops Q r (a.put o.dst undef) w := h'
        exact ⟨hh.1, rec_ _ _ hh.2⟩
  | (false, []) :: r, listed, a, w, hB, h => by simp [segsB] at hB
  | (false, i :: j :: is) :: r, listed, a, w, hB, h => by simp [segsB] at hB

theorem wp_region_segsB (B : Nat) {id : Nat} {l : List Oper} {a : Act} {w : World} (segs : List (Bool × List Nat)) (hm : P.follows .mixedOrders = true)
    (hB : (Region.noSelect l.toArray && decide (segLen segs = l.length) && segsB .any l.toArray segs (Array.replicate l.toArray.size false)) = true)
    (h : wpSegsB B P l.toArray (NoPanic Q) segs a w.drew) : (Code.region id l.toArray true).wp P Q a w := by
  simp only [Bool.and_eq_true, decide_eq_true_eq] at hB
  obtain ⟨⟨hs, hn⟩, hB⟩ := hB
  refine wp_region_noPanic (wp_region_any hm (wpAny_of_B (B := B) _ _ _ _ ?_))
  have := wpAnyB_of_segs (B := B) (P := P) (Q := NoPanic Q) (md := .any) hs (fun _ _ _ _ h => h) segs (Array.replicate l.toArray.size false) a w.drew hB h
  rw [hn] at this
  simpa using this

theorem wpSegsB_quiet {is : List Nat} {l : List Oper} {r : List (Bool × List Nat)} {a : Act} {w : World} (hl : (is.filterMap fun i => ops[i]?) = l) (h : wpQuiet P ops (fun u => ∃ g : GrB B w, u = g.w) (fun a' => wpSegsB B P ops Q r a' w) l a) : wpSegsB B P ops Q ((true, is) :: r) a w := by
  subst hl; exact h
theorem wpSegsB_one {i : Nat} {o : Oper} {r : List (Bool × List Nat)} {a : Act} {w : World} (ho : ops[i]? = some o) (h : wpList P ops (Exit.then (fun a' w' => KB B w w' ∧ wpSegsB B P ops Q r a' w') Q) [o] a w) : wpSegsB B P ops Q ((false, [i]) :: r) a w := by
  unfold wpSegsB; simpa [ho] using h
theorem wpSegsB_done {a : Act} {w : World} (h : Q .normal a w) : wpSegsB B P ops (NoPanic Q) [] a w := h
end
end Go.Proofs.YtijjfdmklbncbaaDoor
