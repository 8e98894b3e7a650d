/-
  The law of segments once more, for a region that ends in stores: what comes late ('L' and on) comes behind all else, and may turn any block.
-/
import Derived.Test.YtomjiephbacocaaDoorA1
namespace Go.Proofs.YtomjiephbacocaaDoor
open Go.RowKit

section
variable {P : Program} {ops : Array Oper} {Q : Exit → Act → World → Prop} {md : Region.Mode}

/-- Whatever order is picked from here on, and behind every operation there are new blocks alone. -/
def wpAnyL (L : Nat) (P : Program) (md : Region.Mode) (ops : Array Oper) (Q : Exit → Act → World → Prop) : Nat → Array Bool → Act → World → Prop
  | 0, listed, a, w => Region.ready md ops listed = [] ∧ Q .normal a w
  | fuel + 1, listed, a, w =>
    (Region.ready md ops listed = [] → Q .normal a w) ∧
    ∀ i ∈ Region.ready md ops listed, wpOp P ops Q i (fun a' w' => (i < L → w.grownBy w' none) ∧ wpAnyL L P md ops Q fuel (listed.setIfInBounds i true) a' w') a w
theorem wpAny_of_L {L : Nat} : ∀ (fuel : Nat) (listed : Array Bool) (a : Act) (w : World), wpAnyL L P md ops Q fuel listed a w → wpAny P md ops Q fuel listed a w
  | 0, _, _, _, h => h
  | fuel + 1, _, _, _, h => ⟨h.1, fun i hi => wpOp_mono (fun a' w' h' => wpAny_of_L fuel _ a' w' h'.2) (h.2 i hi)⟩

/-- Whatever comes late comes behind all that does not. -/
def LateOk (L : Nat) (md : Region.Mode) (ops : Array Oper) : Prop := ∀ (z : Nat) (oz : Oper), ops[z]? = some oz → L ≤ z → ∀ i, i < L → ∃ e ∈ oz.after, Region.binds md e = true ∧ e.on = i
def lateB (L : Nat) (md : Region.Mode) (ops : Array Oper) : Bool := (List.range ops.size).all fun z => decide (z < L) || (match ops[z]? with | some oz => (List.range L).all fun i => oz.after.any fun e => Region.binds md e && decide (e.on = i) | none => true)
theorem lateB_spec {L : Nat} (h : lateB L md ops = true) : LateOk L md ops := by
  intro z oz hz hL i hi
  have hzs : z < ops.size := (Array.getElem?_eq_some_iff.1 hz).1
  have h1 := List.all_eq_true.1 h z (List.mem_range.2 hzs)
  rw [hz] at h1
  simp only [Bool.or_eq_true, decide_eq_true_eq] at h1
  rcases h1 with h1 | h1
  · omega
  · have h2 := List.all_eq_true.1 h1 i (List.mem_range.2 hi)
    rw [Array.any_eq_true] at h2
    obtain ⟨k, hk, h3⟩ := h2
    simp only [Bool.and_eq_true, decide_eq_true_eq] at h3
    exact ⟨_, Array.getElem_mem hk, h3⟩
theorem wpAnyL_first {L : Nat} (hlate : LateOk L md ops) {i : Nat} (hiL : i < L) {oi : Oper} {v : Value} (hi : ops[i]? = some oi) (hsel : ∀ (j : Nat) (o : Oper) cs b, ops[j]? = some o → o.op ≠ .select cs b)
    (hQ : ∀ c a w, Q (.panic c) (a.put oi.dst v) w → Q (.panic c) a w) :
    ∀ (fuel : Nat) (listed : Array Bool) (a : Act) (w : World),
      (∀ j oj, ops[j]? = some oj → j ≠ i → listed.getD j true = false → (∀ e ∈ oj.after, Region.binds md e = true → e.on ≠ i) → oi.apart ops oj = true) →
      i ∈ Region.ready md ops listed → YieldsIf P ops (fun u => w.grownBy u none) oi v a →
      wpAnyL L P md ops Q fuel (listed.setIfInBounds i true) (a.put oi.dst v) w → wpAnyL L P md ops Q (fuel + 1) listed a w := by
  intro fuel
  induction fuel with
  | zero =>
    intro listed a w _ hr hy H
    refine ⟨fun h => (by rw [h] at hr; cases hr), fun j hj => ?_⟩
    by_cases hji : j = i
    · subst hji; exact hy.wpOp hi (grefl w none) ⟨fun _ => grefl w none, H⟩
    · have := ready_mono hj hji
      rw [H.1] at this
      cases this
  | succ fuel ih =>
    intro listed a w hfree hr hy H
    refine ⟨fun h => (by rw [h] at hr; cases hr), fun j hj => ?_⟩
    by_cases hji : j = i
    · subst hji; exact hy.wpOp hi (grefl w none) ⟨fun _ => grefl w none, H⟩
    · have h1 := H.2 j (ready_mono hj hji)
      obtain ⟨hjun, oj, hoj, hall⟩ := mem_ready.1 hj
      have hnot : ∀ e ∈ oj.after, Region.binds md e = true → e.on ≠ i := fun e he hb heq => by
        have h1 := hall e he hb
        have h0 := (mem_ready.1 hr).1
        rw [heq] at h1
        rcases Nat.lt_or_ge i listed.size with h' | h'
        · simp [h'] at h0 h1; rw [h0] at h1; cases h1
        · simp [Array.getElem?_eq_none h'] at h1
      have h2 := wpOp_putIf hoj (hfree j oj hoj hji hjun hnot) (fun cs b => hsel i oi cs b hi) (fun cs b => hsel j oj cs b hoj) hQ hy h1
      have hfree' : ∀ k ok, ops[k]? = some ok → k ≠ i → (listed.setIfInBounds j true).getD k true = false →
          (∀ e ∈ ok.after, Region.binds md e = true → e.on ≠ i) → oi.apart ops ok = true := fun k ok hk hki hun hno => by
        refine hfree k ok hk hki ?_ hno
        by_cases hjk : j = k
        · subst hjk; exact hjun
        · rw [getD_set_ne true hjk] at hun; exact hun
      have hjL : j < L := by
        rcases Nat.lt_or_ge j L with h | h
        · exact h
        · obtain ⟨e, he, hb, heq⟩ := hlate j oj hoj h i hiL
          exact absurd heq (hnot e he hb)
      refine wpOp_mono (fun a' w' h3 => ⟨fun _ => h3.2.1 hjL, ih (listed.setIfInBounds j true) a' w' hfree' (ready_mono hr (Ne.symm hji)) (h3.1.imp (fun ⟨h5, h6⟩ => ⟨h5, fun u hu => h6 u (gtrans (h3.2.1 hjL) hu)⟩) id) ?_⟩) h2
      rw [Array.setIfInBounds_comm _ _ hji]
      exact h3.2.2

theorem wpList_mono_then {N N' : Act → World → Prop} {o : Oper} {a : Act} {w : World} (hn : ∀ a' w', N a' w' → N' a' w') (h : wpList P ops (Exit.then N Q) [o] a w) : wpList P ops (Exit.then N' Q) [o] a w := by
  simp only [wpList] at h ⊢
  have conv : ∀ {K : Act → World → Prop}, o.wp P a w K (Exit.then N Q) → o.wp P a w K (Exit.then N' Q) := by
    intro K hh
    unfold Oper.wp at *
    generalize (execOp a.eval o).run P w = rr at *
    cases rr with
    | ok n w' =>
      cases n <;> simp only [Oper.upon] at hh ⊢
      case enter f args => exact Calls.mono hh (fun e w'' he => by cases e <;> exact he)
      all_goals exact hh
    | halt x w' => cases x <;> simp only [Oper.upon] at hh ⊢ <;> exact hh
  split
  · rename_i hw
    simp only [hw, if_true] at h
    rcases h with h | ⟨h1, b, u, h2⟩
    · exact .inl (Oper.wp_mono (fun a' w' (hh : N a' w') => hn a' w' hh) (conv h))
    · exact .inr ⟨h1, b, u, h2⟩
  · rename_i hw
    simp only [hw] at h
    exact hn _ _ h

/-- The walk over the segments. -/
def wpSegsL (L : Nat) (P : Program) (ops : Array Oper) (Q : Exit → Act → World → Prop) : List (Bool × List Nat) → Act → World → Prop
  | [], a, w => Q .normal a w
  | (true, is) :: r, a, w => wpQuiet P ops (fun u => ∃ g : Gr w, u = g.w) (fun a' => wpSegsL L P ops Q r a' w) (is.filterMap fun i => ops[i]?) a
  | (false, is) :: r, a, w => wpList P ops (Exit.then (fun a' w' => ((∀ i ∈ is, i < L) → w.grownBy w' none) ∧ wpSegsL L P ops Q r a' w') Q) (is.filterMap fun i => ops[i]?) a w

theorem wpAnyL_takes {L : Nat} (hlate : LateOk L md ops) (hs : Region.noSelect ops = true) (hQ : ∀ c a b w, Q (.panic c) a w → Q (.panic c) b w) {w : World} {N : Act → Prop} {m : Nat} : ∀ (is : List Nat) (listed : Array Bool) (a : Act),
    (∀ i ∈ is, i < L) → takesB md ops is listed = true → (∀ a', N a' → wpAnyL L P md ops Q m (setAll is listed) a' w) → wpQuiet P ops (fun u => ∃ g : Gr w, u = g.w) N (is.filterMap fun i => ops[i]?) a → wpAnyL L P md ops Q (is.length + m) listed a w
  | [], listed, a, _, _, hN, h => by
    have := hN a h
    simpa [setAll] using this
  | i :: is, listed, a, hL, hB, hN, h => by
    simp only [takesB, Bool.and_eq_true] at hB
    obtain ⟨⟨⟨h1, h2⟩, h3⟩, h4⟩ := hB
    cases ho : ops[i]? with
    | none => rw [ho] at h1; cases h1
    | some o =>
      rw [ho] at h1
      have h' : wpQuiet P ops (fun u => ∃ g : Gr w, u = g.w) N (o :: is.filterMap fun i => ops[i]?) a := by simpa [ho] using h
      rw [show (i :: is).length + m = (is.length + m) + 1 by simp only [List.length_cons]; omega]
      have rec_ := fun a' => wpAnyL_takes hlate hs hQ is (listed.setIfInBounds i true) a' (fun k hk => hL k (List.mem_cons_of_mem _ hk)) h4 hN
      by_cases hw : Region.wanted o (yielded ops a.tmps) = true
      · simp only [wpQuiet, hw, if_true] at h'
        obtain ⟨v, hv, hn'⟩ := h'
        exact wpAnyL_first hlate (hL i (List.mem_cons_self ..)) ho (Region.noSelect_spec hs) (fun c a w => hQ c _ _ w) _ _ _ _ (Region.free_spec ho h3) (by simpa using h2) (yieldsIf_of_quiet h1 hw hv) (rec_ _ hn')
      · simp only [wpQuiet, hw] at h'
        exact wpAnyL_first hlate (hL i (List.mem_cons_self ..)) ho (Region.noSelect_spec hs) (fun c a w => hQ c _ _ w) _ _ _ _ (Region.free_spec ho h3) (by simpa using h2) (.inr ⟨by simpa using hw, rfl⟩) (rec_ _ h')

def quietL (L : Nat) : List (Bool × List Nat) → Bool
  | [] => true
  | (true, is) :: r => is.all (fun i => decide (i < L)) && quietL L r
  | (false, _) :: r => quietL L r
theorem wpAnyL_of_segs {L : Nat} (hlate : LateOk L md ops) (hs : Region.noSelect ops = true) (hQ : ∀ c a b w, Q (.panic c) a w → Q (.panic c) b w) : ∀ (l : List (Bool × List Nat)) (listed : Array Bool) (a : Act) (w : World),
    quietL L l = true → segsB md ops l listed = true → wpSegsL L P ops Q l a w → wpAnyL L P md ops Q (segLen l) listed a w
  | [], listed, a, w, _, hB, h => ⟨by simpa [segsB] using hB, h⟩
  | (true, is) :: r, listed, a, w, hL, hB, h => by
    simp only [segsB, Bool.and_eq_true] at hB
    simp only [quietL, Bool.and_eq_true, List.all_eq_true, decide_eq_true_eq] at hL
    exact wpAnyL_takes hlate hs hQ is listed a hL.1 hB.1 (fun a' h' => wpAnyL_of_segs hlate hs hQ r (setAll is listed) a' w hL.2 hB.2 h') h
  | (false, [i]) :: r, listed, a, w, hL, hB, h => by
    simp only [segsB, Bool.and_eq_true, decide_eq_true_eq] at hB
    obtain ⟨⟨h1, h2⟩, h3⟩ := hB
    cases ho : ops[i]? with
    | none => rw [ho] at h2; cases h2
    | some o =>
      have h' : wpList P ops (Exit.then (fun a' w' => (i < L → w.grownBy w' none) ∧ wpSegsL L P ops Q r a' w') Q) [o] a w := by
        have := h
        unfold wpSegsL at this
        simpa [ho] using this
      have hlen : segLen ((false, [i]) :: r) = segLen r + 1 := by simp [segLen]; omega
      rw [hlen]
      have rec_ := fun a' w' => wpAnyL_of_segs hlate hs hQ r (listed.setIfInBounds i true) a' w' hL h3
      refine ⟨fun h0 => (by rw [h1] at h0; cases h0), fun j hj => ?_⟩
      rw [h1] at hj
      obtain rfl : j = i := by simpa using hj
      unfold wpOp
      simp only [ho]
      simp only [wpList] at h'
      have conv : ∀ {K : Act → World → Prop} {N : Act → World → Prop}, o.wp P a w K (Exit.then N Q) → o.wp P a w K Q := by
        intro K N hh
        unfold Oper.wp at *
        generalize (execOp a.eval o).run P w = rr at *
        cases rr with
        | ok n w' =>
          cases n <;> simp only [Oper.upon] at hh ⊢
          case enter f args => exact Calls.mono hh (fun e w'' he => by cases e <;> exact he)
          all_goals exact hh
        | halt x w' => cases x <;> simp only [Oper.upon] at hh ⊢ <;> exact hh
      split
      · rename_i hw
        simp only [hw, if_true] at h'
        rcases h' with h' | h'
        · exact .inl (Oper.wp_mono (fun a' w' (hh : (j < L → w.grownBy w' none) ∧ wpSegsL L P ops Q r a' w') => ⟨hh.1, rec_ _ _ hh.2⟩) (conv h'))
        · exact .inr ⟨h'.1, h'.2⟩
      · rename_i hw
        simp only [hw] at h'
        have hh : (j < L → w.grownBy w none) ∧ wpSegsL L P ops Q r (a.put o.dst undef) w := h'
        exact ⟨hh.1, rec_ _ _ hh.2⟩
  | (false, []) :: r, listed, a, w, _, hB, h => by simp [segsB] at hB
  | (false, i :: j :: is) :: r, listed, a, w, _, hB, h => by simp [segsB] at hB

theorem wp_region_segsL {id : Nat} {l : List Oper} {a : Act} {w : World} (L : Nat) (segs : List (Bool × List Nat)) (hm : P.follows .mixedOrders = true)
    (hB : (lateB L .any l.toArray && quietL L segs && Region.noSelect l.toArray && decide (segLen segs = l.length) && segsB .any l.toArray segs (Array.replicate l.toArray.size false)) = true)
    (h : wpSegsL L P l.toArray (NoPanic Q) segs a w.drew) : (Code.region id l.toArray true).wp P Q a w := by
  simp only [Bool.and_eq_true, decide_eq_true_eq] at hB
  obtain ⟨⟨⟨⟨hl, hq⟩, hs⟩, hn⟩, hB⟩ := hB
  refine wp_region_noPanic (wp_region_any hm (wpAny_of_L (L := L) _ _ _ _ ?_))
  have := wpAnyL_of_segs (P := P) (Q := NoPanic Q) (md := .any) (lateB_spec hl) hs (fun _ _ _ _ h => h) segs (Array.replicate l.toArray.size false) a w.drew hq hB h
  rw [hn] at this
  simpa using this

theorem wpSegsL_quiet {L : Nat} {is : List Nat} {l : List Oper} {r : List (Bool × List Nat)} {a : Act} {w : World} (hl : (is.filterMap fun i => ops[i]?) = l) (h : wpQuiet P ops (fun u => ∃ g : Gr w, u = g.w) (fun a' => wpSegsL L P ops Q r a' w) l a) : wpSegsL L P ops Q ((true, is) :: r) a w := by
  subst hl; exact h
theorem wpSegsL_one {L : Nat} {i : Nat} {o : Oper} {r : List (Bool × List Nat)} {a : Act} {w : World} (ho : ops[i]? = some o) (h : wpList P ops (Exit.then (fun a' w' => w.grownBy w' none ∧ wpSegsL L P ops Q r a' w') Q) [o] a w) : wpSegsL L P ops Q ((false, [i]) :: r) a w := by
  unfold wpSegsL
  have : ([i].filterMap fun i => ops[i]?) = [o] := by simp [ho]
  rw [this]
  exact wpList_mono_then (fun a' w' h => ⟨fun _ => h.1, h.2⟩) h
theorem wpSegsL_late {L : Nat} {i : Nat} {o : Oper} {r : List (Bool × List Nat)} {a : Act} {w : World} (ho : ops[i]? = some o) (hi : L ≤ i) (h : wpList P ops (Exit.then (fun a' w' => wpSegsL L P ops Q r a' w') Q) [o] a w) : wpSegsL L P ops Q ((false, [i]) :: r) a w := by
  unfold wpSegsL
  have : ([i].filterMap fun i => ops[i]?) = [o] := by simp [ho]
  rw [this]
  exact wpList_mono_then (fun a' w' h => ⟨fun hl => by have := hl i (List.mem_singleton.2 rfl); omega, h⟩) h
theorem wpSegsL_done {L : Nat} {a : Act} {w : World} (h : Q .normal a w) : wpSegsL L P ops (NoPanic Q) [] a w := h
end
end Go.Proofs.YtomjiephbacocaaDoor
