/-
  SoaInward.
-/
import Derived.Test.YtomjiephbacocaaDoorSo10p
namespace Go.Proofs.YtomjiephbacocaaDoor
open Go.RowKit

/-- What is found, in one form. -/
def fdis : Fd → Bool
  | .got _ => true
  | _ => false
def fder : Fd → Int
  | .bad => 3
  | _ => 0
theorem find_u (n : ByteArray) (c : Nat) (v : Value) (l : List St) (w : World) (h : Sts w v l) (hl : l.length ≤ 1000000) (hd : ∀ x ∈ l, x.data.length ≤ 1000000) :
    Calls Tryd.prog 12 #[v, .string n, .int .u16 (c : Int)] w fun e w' => ∃ (nm : ByteArray) (kd cl tt : Nat) (A : Option Addr) (z y : Nat), e = .returned (.tuple #[.agg #[.string nm, .int .u16 (kd : Int), .int .u16 (cl : Int), .int .u32 (tt : Int), .slice A z y], .bool (fdis (fndF n c l)), .int .i64 (fder (fndF n c l))]) ∧ w.grownBy w' none ∧ ∀ x, fndF n c l = .got x → nm = x.name := by
  refine (sfind_any n c v l w h hl hd).mono ?_
  rintro e w' ⟨hg, hp⟩
  cases hf : fndF n c l with
  | non => rw [hf] at hp; exact ⟨⟨#[]⟩, 0, 0, 0, none, 0, 0, hp, hg, fun x hx => by cases hx⟩
  | bad => rw [hf] at hp; exact ⟨⟨#[]⟩, 0, 0, 0, none, 0, 0, hp, hg, fun x hx => by cases hx⟩
  | got x =>
    rw [hf] at hp
    obtain ⟨v', e1, ho⟩ := hp
    obtain ⟨A, z, rfl, _, _⟩ := own_shape ho
    exact ⟨x.name, x.kind, x.cls, x.ttl, A, x.data.length, z, e1, hg, fun y hy => by cases hy; rfl⟩
theorem bI_max (n : ByteArray) (c : Nat) (l : List St) : ∀ k, k ≤ l.length → ∀ (i : Nat) (hi : i < l.length), i < k → fitB n c l[i] = true → (nlb l[i].name : Int) ≤ (bI n c l k).2 := by
  intro k
  induction k with
  | zero => intro _ i _ h; omega
  | succ k ih =>
    intro hk i hi hik hf
    have hk' : k < l.length := by omega
    by_cases h : innB n c l[k] (bI n c l k).2 = true
    · rw [bI_yes hk' h]
      by_cases he : i = k
      · subst he; exact Int.le_refl _
      · have h1 := ih (by omega) i hi (by omega) hf
        unfold innB at h
        simp only [Bool.and_eq_true, decide_eq_true_eq] at h
        have := h.2
        show (nlb l[i].name : Int) ≤ (nlb l[k].name : Int)
        omega
    · rw [bI_no hk' (by simpa using h)]
      by_cases he : i = k
      · subst he
        unfold innB at h
        rw [hf] at h
        simp only [Bool.true_and, decide_eq_true_eq] at h
        omega
      · exact ih (by omega) i hi (by omega) hf
theorem fnd_got {n : ByteArray} {c : Nat} {l : List St} {x : St} (h : fndF n c l = .got x) : (bI n c l l.length).2 = (nlb x.name : Int) ∧ fitB n c x = true ∧ x ∈ l := by
  rcases bI_inv n c l l.length (Nat.le_refl _) with hb | ⟨j, hj, _, hb, hf⟩
  · rw [fnd_non hb] at h; cases h
  · rw [fnd_is hb (List.getElem?_eq_getElem hj)] at h
    split at h
    · cases h; exact ⟨by rw [hb], hf, List.getElem_mem hj⟩
    · cases h
theorem fnd_fit {n : ByteArray} {c : Nat} {l : List St} (h : fndF n c l ≠ .non) : ∃ x ∈ l, fitB n c x = true := by
  rcases bI_inv n c l l.length (Nat.le_refl _) with hb | ⟨j, hj, _, _, hf⟩
  · exact absurd (fnd_non hb) h
  · exact ⟨l[j], List.getElem_mem hj, hf⟩
theorem fnd_none {n : ByteArray} {c : Nat} {l : List St} (h : fndF n c l = .non) : ∀ x ∈ l, fitB n c x = false := by
  intro x hx
  rcases bI_inv n c l l.length (Nat.le_refl _) with hb | ⟨j, hj, _, hb, hf⟩
  · obtain ⟨i, hi, rfl⟩ := List.mem_iff_getElem.1 hx
    cases hq : fitB n c l[i] with
    | false => rfl
    | true =>
      have := bI_max n c l l.length (Nat.le_refl _) i hi hi hq
      rw [hb] at this
      have h2 : ((nlb l[i].name : Nat) : Int) ≤ -1 := this
      omega
  · rw [fnd_is hb (List.getElem?_eq_getElem hj)] at h
    split at h <;> cases h
theorem fnd_le {n m : ByteArray} {c : Nat} {l : List St} {x y : St} (hw : ∀ z, wiN m z = true → wiN n z = true) (hx : fndF n c l = .got x) (hy : fndF m c l = .got y) : nlb y.name ≤ nlb x.name := by
  obtain ⟨h1, _, _⟩ := fnd_got hx
  obtain ⟨_, h2, h3⟩ := fnd_got hy
  have hf : fitB n c y = true := by
    unfold fitB at h2 ⊢
    simp only [Bool.and_eq_true] at h2 ⊢
    exact ⟨h2.1, hw _ h2.2⟩
  obtain ⟨i, hi, rfl⟩ := List.mem_iff_getElem.1 h3
  have := bI_max n c l l.length (Nat.le_refl _) i hi hi hf
  rw [h1] at this
  omega
theorem fnd_in {n m : ByteArray} {c : Nat} {l : List St} (hw : ∀ z, wiN m z = true → wiN n z = true) (hn : fndF n c l = .non) : fndF m c l = .non := by
  refine Decidable.byContradiction (dec := Classical.propDecidable _) fun h => ?_
  obtain ⟨x, hx, hf⟩ := fnd_fit h
  have h1 := fnd_none hn x hx
  unfold fitB at h1 hf
  simp only [Bool.and_eq_true] at hf
  rw [hf.1.1, hf.1.2, hw _ hf.2] at h1
  cases h1
/-- A name that another one is within. -/
structure Anc (n m : ByteArray) : Prop where
  may : may m = true
  wi : ∀ z, wiN m z = true → wiN n z = true
theorem wi_of_up {n z : ByteArray} (hn : may n = true) (h1 : n.size ≠ 1) (h : wiN (upN n) z = true) : wiN n z = true := by
  have hz := (wi_may h).2
  cases hs : smN n z with
  | true => exact wi_sm hs
  | false => rw [wi_up hn hz h1 hs]; exact h
theorem Anc.up {n m : ByteArray} (h : Anc n m) (hi : isUp m = true) : Anc n (upN m) := by
  have h1 : m.size ≠ 1 := by
    unfold isUp at hi
    simp at hi
    exact hi.2
  exact ⟨(up_is h.may h1).2.1, fun z hz => h.wi z (wi_of_up h.may h1 hz)⟩
theorem anc_first {n : ByteArray} (hi : isUp n = true) : Anc n (upN n) := by
  have hi' := hi
  unfold isUp at hi'
  simp at hi'
  exact ⟨(up_is hi'.1 hi'.2).2.1, fun z hz => wi_of_up hi'.1 hi'.2 hz⟩
theorem up_less {n m : ByteArray} (h : Anc n m) : (upN m).size + 1 ≤ m.size := by
  have := scan_lt (may_scan h.may).2
  by_cases h1 : m.size = 1
  · have : upN m = ⟨#[]⟩ := if_neg (fun h => h.2 h1)
    rw [this, h1]
    exact Nat.le_refl _
  · exact (up_is h.may h1).2.2.1

set_option maxRecDepth 100000 in
set_option maxHeartbeats 64000000 in
theorem inward10_walk (v : Value) (l : List St) (n : ByteArray) (c : Nat) (w : World) (he : Et w) (h : Sts w v l) (hl : l.length ≤ maxLen) (hs : ∀ x ∈ l, x.name.size ≤ maxLen ∧ x.data.length ≤ maxLen ∧ ∀ s ∈ x.data, s.size ≤ maxLen) : Calls Tryd.prog 6 #[v, .string n, .int .u16 (c : Int)] w fun e w' => e = .returned (.bool true) ∧ w.grownBy w' none := by
  have HE := Lib.hid he
  have HI := Lib.hid h
  have HLg := Lib.hid (longsets_any v l w h hl hs)
  obtain ⟨A, cap, rfl, hcap⟩ := h.shape
  clear he h hs
  go_enter Tryd.func6, Tryd.ntmps6
  go_wp2_with fail
  refine HLg.out.mono ?_
  rintro e w1 ⟨q, rfl, rfl, hq⟩
  cases q with
  | true =>
    clear hq
    go_wp2_with fail
    refine (awake10 w HE.out).mono ?_
    rintro e w1 ⟨rfl, hg⟩
    go_wp2_with fail
    go_ret
    exact ⟨rfl, hg⟩
  | false =>
    have HSm := Lib.hid (hq rfl)
    have hl2 := (hq rfl).1
    clear hq hl HLg
    by_cases hn : 3000 < n.size
    · have k0 : decide ((3000 : Int) < (n.size : Int)) = true := by simp; omega
      go_wp2_with fail
      refine (awake10 w HE.out).mono ?_
      rintro e w1 ⟨rfl, hg⟩
      go_wp2_with fail
      go_ret
      exact ⟨rfl, hg⟩
    · have k0 : decide ((3000 : Int) < (n.size : Int)) = false := by simp; omega
      have HDs := Lib.hid (show ∀ x ∈ l, x.data.length ≤ 1000000 from fun x hx => by have := (HSm.out.2 x hx).2.1; omega)
      go_wp2_with fail
      refine (awake10 w HE.out).mono ?_
      rintro e w1 ⟨rfl, hg⟩
      have G1 := Lib.hid hg
      clear hg k0 hcap
      go_wp2_with fail
      refine (nparent_any n _).mono ?_
      rintro e w2 ⟨rfl, rfl⟩
      have HA0 := Lib.hid (anc_first (n := n))
      generalize isUp n = b0 at *
      generalize upN n = m0 at *
      go_wp2_with fail
      go_loopw [7, 8] (fun vu vb wr => ∃ (m : ByteArray) (b : Bool), vu = .string m ∧ vb = .bool b ∧ (b = true → Anc n m) ∧ w.grownBy wr none) (fun vu _ _ => match vu with | .string m => m.size | _ => 0)
      case atStart => exact ⟨m0, b0, rfl, rfl, HA0.out, G1.out⟩
      case round =>
        obtain ⟨m, b, rfl, rfl, ha, hg⟩ := hrel
        have HG := Lib.hid hg
        clear hg
        cases b with
        | false =>
          clear ha
          go_wp2_with fail
          go_ret
          exact ⟨rfl, HG.out⟩
        | true =>
          have HA := Lib.hid (ha rfl)
          clear ha
          cases hr : fndF n c l with
          | non =>
            have hrm := Lib.hid (fnd_in HA.out.wi hr)
            go_wp2_with fail
            refine (find_u n c _ l wr (HI.out.kept HG.out) (by omega) HDs.out).mono ?_
            rintro e w2 ⟨nm1, kd1, cl1, tt1, A1, z1, y1, rfl, hg, h1⟩
            have G2 := Lib.hid (galloc (gtrans HG.out hg) (.cells #[.string nm1, .int .u16 (kd1 : Int), .int .u16 (cl1 : Int), .int .u32 (tt1 : Int), .slice A1 z1 y1] 27))
            have B2 := Lib.hid (balloc w2 (.cells #[.string nm1, .int .u16 (kd1 : Int), .int .u16 (cl1 : Int), .int .u32 (tt1 : Int), .slice A1 z1 y1] 27))
            clear hg
            rw [hr]
            clear h1 hr
            simp only [fdis, fder]
            go_wp2_with fail
            generalize w2.heap.size = k9 at *
            generalize w2.alloc (.cells #[.string nm1, .int .u16 (kd1 : Int), .int .u16 (cl1 : Int), .int .u32 (tt1 : Int), .slice A1 z1 y1] 27) = w3 at *
            refine (find_u m c _ l w3 (HI.out.kept G2.out) (by omega) HDs.out).mono ?_
            rintro e w4 ⟨nm2, kd2, cl2, tt2, A2, z2, y2, rfl, hg, h2⟩
            have G4 := Lib.hid (galloc (gtrans G2.out hg) (.cells #[.string nm2, .int .u16 (kd2 : Int), .int .u16 (cl2 : Int), .int .u32 (tt2 : Int), .slice A2 z2 y2] 27))
            have B4 := Lib.hid (gblock (galloc hg (.cells #[.string nm2, .int .u16 (kd2 : Int), .int .u16 (cl2 : Int), .int .u32 (tt2 : Int), .slice A2 z2 y2] 27)) B2.out (by simp))
            have D4 := Lib.hid (balloc w4 (.cells #[.string nm2, .int .u16 (kd2 : Int), .int .u16 (cl2 : Int), .int .u32 (tt2 : Int), .slice A2 z2 y2] 27))
            clear hg G2 B2
            rw [hrm.out]
            clear h2 hrm
            simp only [fdis, fder]
            go_wp2_with fail
            generalize w4.heap.size = k12 at *
            generalize w4.alloc (.cells #[.string nm2, .int .u16 (kd2 : Int), .int .u16 (cl2 : Int), .int .u32 (tt2 : Int), .slice A2 z2 y2] 27) = w5 at *
            refine wp_region_segs [(true, [0, 1, 2, 3, 4, 5, 6, 7, 8, 9, 10, 11, 12, 13, 14, 15, 16, 17, 18, 19, 20, 22, 23]), (false, [21]), (false, [24]), (true, [25, 26, 27])] (by kernel_rfl) (by kernel_rfl) ?_
            refine wpSegs_quiet rfl ?_
            simp only [List.filterMap_cons, List.filterMap_nil, List.getElem?_toArray, List.getElem?_cons_succ, List.getElem?_cons_zero]
            show wpQuiet _ _ _ _ [_, _, _, _, _, _, _, _, _, _, _, _, _, _, _, _, _, _, _, _, _, _, _] _
            repeat (go_big_quiet_step (fail))
            refine wpQuiet_nil ?_
            refine wpSegs_one (by simp only [List.getElem?_toArray, List.getElem?_cons_succ, List.getElem?_cons_zero]; exact rfl) ?_
            go_wp2_with fail
            refine ⟨grefl _ _, ?_⟩
            refine wpSegs_one (by simp only [List.getElem?_toArray, List.getElem?_cons_succ, List.getElem?_cons_zero]; exact rfl) ?_
            go_wp2_with fail
            refine ⟨grefl _ _, ?_⟩
            refine wpSegs_quiet rfl ?_
            simp only [List.filterMap_cons, List.filterMap_nil, List.getElem?_toArray, List.getElem?_cons_succ, List.getElem?_cons_zero]
            show wpQuiet _ _ _ _ [_, _, _] _
            repeat (go_big_quiet_step (fail))
            refine wpQuiet_nil ?_
            refine wpSegs_done ?_
            have GD := Lib.hid (gdrew G4.out)
            go_wp2_with fail
            refine (nparent_any m _).mono ?_
            rintro e w9 ⟨rfl, rfl⟩
            have HN := Lib.hid (HA.out.up)
            have hu := up_less HA.out
            cases hi : isUp m with
            | true =>
              have HN2 := Lib.hid (HN.out hi)
              generalize upN m = m2 at *
              clear hi HN
              go_wp2_with fail
              go_roundw
              case rel => exact ⟨m2, true, rfl, rfl, fun _ => HN2.out, GD.out⟩
              case measure => simp; omega
            | false =>
              generalize upN m = m2 at *
              clear hi HN
              go_wp2_with fail
              go_roundw
              case rel => exact ⟨m2, false, rfl, rfl, (fun h => nomatch h), GD.out⟩
              case measure => simp; omega
          | bad =>
            go_wp2_with fail
            refine (find_u n c _ l wr (HI.out.kept HG.out) (by omega) HDs.out).mono ?_
            rintro e w2 ⟨nm1, kd1, cl1, tt1, A1, z1, y1, rfl, hg, h1⟩
            have G2 := Lib.hid (galloc (gtrans HG.out hg) (.cells #[.string nm1, .int .u16 (kd1 : Int), .int .u16 (cl1 : Int), .int .u32 (tt1 : Int), .slice A1 z1 y1] 27))
            have B2 := Lib.hid (balloc w2 (.cells #[.string nm1, .int .u16 (kd1 : Int), .int .u16 (cl1 : Int), .int .u32 (tt1 : Int), .slice A1 z1 y1] 27))
            clear hg
            rw [hr]
            clear h1 hr
            simp only [fdis, fder]
            go_wp2_with fail
            generalize w2.heap.size = k9 at *
            generalize w2.alloc (.cells #[.string nm1, .int .u16 (kd1 : Int), .int .u16 (cl1 : Int), .int .u32 (tt1 : Int), .slice A1 z1 y1] 27) = w3 at *
            refine (find_u m c _ l w3 (HI.out.kept G2.out) (by omega) HDs.out).mono ?_
            rintro e w4 ⟨nm2, kd2, cl2, tt2, A2, z2, y2, rfl, hg, h2⟩
            have G4 := Lib.hid (galloc (gtrans G2.out hg) (.cells #[.string nm2, .int .u16 (kd2 : Int), .int .u16 (cl2 : Int), .int .u32 (tt2 : Int), .slice A2 z2 y2] 27))
            have B4 := Lib.hid (gblock (galloc hg (.cells #[.string nm2, .int .u16 (kd2 : Int), .int .u16 (cl2 : Int), .int .u32 (tt2 : Int), .slice A2 z2 y2] 27)) B2.out (by simp))
            have D4 := Lib.hid (balloc w4 (.cells #[.string nm2, .int .u16 (kd2 : Int), .int .u16 (cl2 : Int), .int .u32 (tt2 : Int), .slice A2 z2 y2] 27))
            clear hg G2 B2
            clear h2
            generalize fdis (fndF m c l) = bb at *
            generalize fder (fndF m c l) = ff at *
            go_wp2_with fail
            generalize w4.heap.size = k12 at *
            generalize w4.alloc (.cells #[.string nm2, .int .u16 (kd2 : Int), .int .u16 (cl2 : Int), .int .u32 (tt2 : Int), .slice A2 z2 y2] 27) = w5 at *
            refine wp_region_segs [(true, [0, 1, 2, 3, 4, 5, 6, 7, 8, 9, 10, 11, 12, 13, 14, 15, 16, 17, 18, 19, 20, 22, 23]), (false, [21]), (false, [24]), (true, [25, 26, 27])] (by kernel_rfl) (by kernel_rfl) ?_
            refine wpSegs_quiet rfl ?_
            simp only [List.filterMap_cons, List.filterMap_nil, List.getElem?_toArray, List.getElem?_cons_succ, List.getElem?_cons_zero]
            show wpQuiet _ _ _ _ [_, _, _, _, _, _, _, _, _, _, _, _, _, _, _, _, _, _, _, _, _, _, _] _
            repeat (go_big_quiet_step (fail))
            refine wpQuiet_nil ?_
            refine wpSegs_one (by simp only [List.getElem?_toArray, List.getElem?_cons_succ, List.getElem?_cons_zero]; exact rfl) ?_
            go_wp2_with fail
            refine ⟨grefl _ _, ?_⟩
            refine wpSegs_one (by simp only [List.getElem?_toArray, List.getElem?_cons_succ, List.getElem?_cons_zero]; exact rfl) ?_
            go_wp2_with fail
            refine ⟨grefl _ _, ?_⟩
            refine wpSegs_quiet rfl ?_
            simp only [List.filterMap_cons, List.filterMap_nil, List.getElem?_toArray, List.getElem?_cons_succ, List.getElem?_cons_zero]
            show wpQuiet _ _ _ _ [_, _, _] _
            repeat (go_big_quiet_step (fail))
            refine wpQuiet_nil ?_
            refine wpSegs_done ?_
            have GD := Lib.hid (gdrew G4.out)
            go_wp2_with fail
            refine (nparent_any m _).mono ?_
            rintro e w9 ⟨rfl, rfl⟩
            have HN := Lib.hid (HA.out.up)
            have hu := up_less HA.out
            cases hi : isUp m with
            | true =>
              have HN2 := Lib.hid (HN.out hi)
              generalize upN m = m2 at *
              clear hi HN
              go_wp2_with fail
              go_roundw
              case rel => exact ⟨m2, true, rfl, rfl, fun _ => HN2.out, GD.out⟩
              case measure => simp; omega
            | false =>
              generalize upN m = m2 at *
              clear hi HN
              go_wp2_with fail
              go_roundw
              case rel => exact ⟨m2, false, rfl, rfl, (fun h => nomatch h), GD.out⟩
              case measure => simp; omega
          | got x =>
            cases hm0 : fndF m c l with
            | non =>
              have hb := Lib.hid (show fdis (fndF m c l) = false by rw [hm0]; rfl)
              clear hm0
              go_wp2_with fail
              refine (find_u n c _ l wr (HI.out.kept HG.out) (by omega) HDs.out).mono ?_
              rintro e w2 ⟨nm1, kd1, cl1, tt1, A1, z1, y1, rfl, hg, h1⟩
              have G2 := Lib.hid (galloc (gtrans HG.out hg) (.cells #[.string nm1, .int .u16 (kd1 : Int), .int .u16 (cl1 : Int), .int .u32 (tt1 : Int), .slice A1 z1 y1] 27))
              have B2 := Lib.hid (balloc w2 (.cells #[.string nm1, .int .u16 (kd1 : Int), .int .u16 (cl1 : Int), .int .u32 (tt1 : Int), .slice A1 z1 y1] 27))
              clear hg
              rw [hr]
              clear h1 hr
              simp only [fdis, fder]
              go_wp2_with fail
              generalize w2.heap.size = k9 at *
              generalize w2.alloc (.cells #[.string nm1, .int .u16 (kd1 : Int), .int .u16 (cl1 : Int), .int .u32 (tt1 : Int), .slice A1 z1 y1] 27) = w3 at *
              refine (find_u m c _ l w3 (HI.out.kept G2.out) (by omega) HDs.out).mono ?_
              rintro e w4 ⟨nm2, kd2, cl2, tt2, A2, z2, y2, rfl, hg, h2⟩
              have G4 := Lib.hid (galloc (gtrans G2.out hg) (.cells #[.string nm2, .int .u16 (kd2 : Int), .int .u16 (cl2 : Int), .int .u32 (tt2 : Int), .slice A2 z2 y2] 27))
              have B4 := Lib.hid (gblock (galloc hg (.cells #[.string nm2, .int .u16 (kd2 : Int), .int .u16 (cl2 : Int), .int .u32 (tt2 : Int), .slice A2 z2 y2] 27)) B2.out (by simp))
              have D4 := Lib.hid (balloc w4 (.cells #[.string nm2, .int .u16 (kd2 : Int), .int .u16 (cl2 : Int), .int .u32 (tt2 : Int), .slice A2 z2 y2] 27))
              clear hg G2 B2
              clear h2
              rw [hb.out]
              generalize fder (fndF m c l) = ff at *
              clear hb
              go_wp2_with fail
              generalize w4.heap.size = k12 at *
              generalize w4.alloc (.cells #[.string nm2, .int .u16 (kd2 : Int), .int .u16 (cl2 : Int), .int .u32 (tt2 : Int), .slice A2 z2 y2] 27) = w5 at *
              refine wp_region_segs [(true, [0, 1, 2, 3, 4, 5, 6, 7, 8, 9, 10, 11, 12, 13, 14, 15, 16, 17, 18, 19, 20, 22, 23]), (false, [21]), (false, [24]), (true, [25, 26, 27])] (by kernel_rfl) (by kernel_rfl) ?_
              refine wpSegs_quiet rfl ?_
              simp only [List.filterMap_cons, List.filterMap_nil, List.getElem?_toArray, List.getElem?_cons_succ, List.getElem?_cons_zero]
              show wpQuiet _ _ _ _ [_, _, _, _, _, _, _, _, _, _, _, _, _, _, _, _, _, _, _, _, _, _, _] _
              repeat (go_big_quiet_step (fail))
              refine wpQuiet_nil ?_
              refine wpSegs_one (by simp only [List.getElem?_toArray, List.getElem?_cons_succ, List.getElem?_cons_zero]; exact rfl) ?_
              go_wp2_with fail
              refine ⟨grefl _ _, ?_⟩
              refine wpSegs_one (by simp only [List.getElem?_toArray, List.getElem?_cons_succ, List.getElem?_cons_zero]; exact rfl) ?_
              go_wp2_with fail
              refine ⟨grefl _ _, ?_⟩
              refine wpSegs_quiet rfl ?_
              simp only [List.filterMap_cons, List.filterMap_nil, List.getElem?_toArray, List.getElem?_cons_succ, List.getElem?_cons_zero]
              show wpQuiet _ _ _ _ [_, _, _] _
              repeat (go_big_quiet_step (fail))
              refine wpQuiet_nil ?_
              refine wpSegs_done ?_
              have GD := Lib.hid (gdrew G4.out)
              go_wp2_with fail
              refine (nparent_any m _).mono ?_
              rintro e w9 ⟨rfl, rfl⟩
              have HN := Lib.hid (HA.out.up)
              have hu := up_less HA.out
              cases hi : isUp m with
              | true =>
                have HN2 := Lib.hid (HN.out hi)
                generalize upN m = m2 at *
                clear hi HN
                go_wp2_with fail
                go_roundw
                case rel => exact ⟨m2, true, rfl, rfl, fun _ => HN2.out, GD.out⟩
                case measure => simp; omega
              | false =>
                generalize upN m = m2 at *
                clear hi HN
                go_wp2_with fail
                go_roundw
                case rel => exact ⟨m2, false, rfl, rfl, (fun h => nomatch h), GD.out⟩
                case measure => simp; omega
            | bad =>
              have hb := Lib.hid (show fdis (fndF m c l) = false by rw [hm0]; rfl)
              clear hm0
              go_wp2_with fail
              refine (find_u n c _ l wr (HI.out.kept HG.out) (by omega) HDs.out).mono ?_
              rintro e w2 ⟨nm1, kd1, cl1, tt1, A1, z1, y1, rfl, hg, h1⟩
              have G2 := Lib.hid (galloc (gtrans HG.out hg) (.cells #[.string nm1, .int .u16 (kd1 : Int), .int .u16 (cl1 : Int), .int .u32 (tt1 : Int), .slice A1 z1 y1] 27))
              have B2 := Lib.hid (balloc w2 (.cells #[.string nm1, .int .u16 (kd1 : Int), .int .u16 (cl1 : Int), .int .u32 (tt1 : Int), .slice A1 z1 y1] 27))
              clear hg
              rw [hr]
              clear h1 hr
              simp only [fdis, fder]
              go_wp2_with fail
              generalize w2.heap.size = k9 at *
              generalize w2.alloc (.cells #[.string nm1, .int .u16 (kd1 : Int), .int .u16 (cl1 : Int), .int .u32 (tt1 : Int), .slice A1 z1 y1] 27) = w3 at *
              refine (find_u m c _ l w3 (HI.out.kept G2.out) (by omega) HDs.out).mono ?_
              rintro e w4 ⟨nm2, kd2, cl2, tt2, A2, z2, y2, rfl, hg, h2⟩
              have G4 := Lib.hid (galloc (gtrans G2.out hg) (.cells #[.string nm2, .int .u16 (kd2 : Int), .int .u16 (cl2 : Int), .int .u32 (tt2 : Int), .slice A2 z2 y2] 27))
              have B4 := Lib.hid (gblock (galloc hg (.cells #[.string nm2, .int .u16 (kd2 : Int), .int .u16 (cl2 : Int), .int .u32 (tt2 : Int), .slice A2 z2 y2] 27)) B2.out (by simp))
              have D4 := Lib.hid (balloc w4 (.cells #[.string nm2, .int .u16 (kd2 : Int), .int .u16 (cl2 : Int), .int .u32 (tt2 : Int), .slice A2 z2 y2] 27))
              clear hg G2 B2
              clear h2
              rw [hb.out]
              generalize fder (fndF m c l) = ff at *
              clear hb
              go_wp2_with fail
              generalize w4.heap.size = k12 at *
              generalize w4.alloc (.cells #[.string nm2, .int .u16 (kd2 : Int), .int .u16 (cl2 : Int), .int .u32 (tt2 : Int), .slice A2 z2 y2] 27) = w5 at *
              refine wp_region_segs [(true, [0, 1, 2, 3, 4, 5, 6, 7, 8, 9, 10, 11, 12, 13, 14, 15, 16, 17, 18, 19, 20, 22, 23]), (false, [21]), (false, [24]), (true, [25, 26, 27])] (by kernel_rfl) (by kernel_rfl) ?_
              refine wpSegs_quiet rfl ?_
              simp only [List.filterMap_cons, List.filterMap_nil, List.getElem?_toArray, List.getElem?_cons_succ, List.getElem?_cons_zero]
              show wpQuiet _ _ _ _ [_, _, _, _, _, _, _, _, _, _, _, _, _, _, _, _, _, _, _, _, _, _, _] _
              repeat (go_big_quiet_step (fail))
              refine wpQuiet_nil ?_
              refine wpSegs_one (by simp only [List.getElem?_toArray, List.getElem?_cons_succ, List.getElem?_cons_zero]; exact rfl) ?_
              go_wp2_with fail
              refine ⟨grefl _ _, ?_⟩
              refine wpSegs_one (by simp only [List.getElem?_toArray, List.getElem?_cons_succ, List.getElem?_cons_zero]; exact rfl) ?_
              go_wp2_with fail
              refine ⟨grefl _ _, ?_⟩
              refine wpSegs_quiet rfl ?_
              simp only [List.filterMap_cons, List.filterMap_nil, List.getElem?_toArray, List.getElem?_cons_succ, List.getElem?_cons_zero]
              show wpQuiet _ _ _ _ [_, _, _] _
              repeat (go_big_quiet_step (fail))
              refine wpQuiet_nil ?_
              refine wpSegs_done ?_
              have GD := Lib.hid (gdrew G4.out)
              go_wp2_with fail
              refine (nparent_any m _).mono ?_
              rintro e w9 ⟨rfl, rfl⟩
              have HN := Lib.hid (HA.out.up)
              have hu := up_less HA.out
              cases hi : isUp m with
              | true =>
                have HN2 := Lib.hid (HN.out hi)
                generalize upN m = m2 at *
                clear hi HN
                go_wp2_with fail
                go_roundw
                case rel => exact ⟨m2, true, rfl, rfl, fun _ => HN2.out, GD.out⟩
                case measure => simp; omega
              | false =>
                generalize upN m = m2 at *
                clear hi HN
                go_wp2_with fail
                go_roundw
                case rel => exact ⟨m2, false, rfl, rfl, (fun h => nomatch h), GD.out⟩
                case measure => simp; omega
            | got y =>
              have HLe := Lib.hid (fnd_le HA.out.wi hr hm0)
              have hm := Lib.hid hm0
              clear hm0
              go_wp2_with fail
              refine (find_u n c _ l wr (HI.out.kept HG.out) (by omega) HDs.out).mono ?_
              rintro e w2 ⟨nm1, kd1, cl1, tt1, A1, z1, y1, rfl, hg, h1⟩
              have G2 := Lib.hid (galloc (gtrans HG.out hg) (.cells #[.string nm1, .int .u16 (kd1 : Int), .int .u16 (cl1 : Int), .int .u32 (tt1 : Int), .slice A1 z1 y1] 27))
              have B2 := Lib.hid (balloc w2 (.cells #[.string nm1, .int .u16 (kd1 : Int), .int .u16 (cl1 : Int), .int .u32 (tt1 : Int), .slice A1 z1 y1] 27))
              clear hg
              have hx1 := Lib.hid (h1 x hr)
              rw [hr]
              clear h1 hr
              simp only [fdis, fder]
              go_wp2_with fail
              generalize w2.heap.size = k9 at *
              generalize w2.alloc (.cells #[.string nm1, .int .u16 (kd1 : Int), .int .u16 (cl1 : Int), .int .u32 (tt1 : Int), .slice A1 z1 y1] 27) = w3 at *
              refine (find_u m c _ l w3 (HI.out.kept G2.out) (by omega) HDs.out).mono ?_
              rintro e w4 ⟨nm2, kd2, cl2, tt2, A2, z2, y2, rfl, hg, h2⟩
              have G4 := Lib.hid (galloc (gtrans G2.out hg) (.cells #[.string nm2, .int .u16 (kd2 : Int), .int .u16 (cl2 : Int), .int .u32 (tt2 : Int), .slice A2 z2 y2] 27))
              have B4 := Lib.hid (gblock (galloc hg (.cells #[.string nm2, .int .u16 (kd2 : Int), .int .u16 (cl2 : Int), .int .u32 (tt2 : Int), .slice A2 z2 y2] 27)) B2.out (by simp))
              have D4 := Lib.hid (balloc w4 (.cells #[.string nm2, .int .u16 (kd2 : Int), .int .u16 (cl2 : Int), .int .u32 (tt2 : Int), .slice A2 z2 y2] 27))
              clear hg G2 B2
              have hy1 := Lib.hid (h2 y hm.out)
              rw [hm.out]
              clear h2 hm
              simp only [fdis, fder]
              go_wp2_with fail
              generalize w4.heap.size = k12 at *
              generalize w4.alloc (.cells #[.string nm2, .int .u16 (kd2 : Int), .int .u16 (cl2 : Int), .int .u32 (tt2 : Int), .slice A2 z2 y2] 27) = w5 at *
              obtain rfl := hx1.out
              obtain rfl := hy1.out
              have c0 : ∀ g : Gr w5.drew, g.w.cell? ⟨k9, 0, none⟩ = some (.string x.name) := Gr.cell (bcellAt B4.out 0)
              have e0 : ∀ g : Gr w5.drew, g.w.cell? ⟨k12, 0, none⟩ = some (.string y.name) := Gr.cell (bcellAt D4.out 0)
              have hle := HLe.out
              generalize x.name = nx at *
              generalize y.name = ny at *
              have q0 : decide ((nlb nx : Int) < (nlb ny : Int)) = false := by simp; omega
              have q1 : decide (nlb nx < nlb ny) = false := by simp; omega
              clear hle HLe
              refine wp_region_segs [(true, [0, 1, 2, 3, 4, 5, 6, 7, 8, 9, 10, 11, 12, 13, 14, 15, 16, 17, 18, 19, 20, 22, 23]), (false, [21]), (false, [24]), (true, [25, 26, 27])] (by kernel_rfl) (by kernel_rfl) ?_
              refine wpSegs_quiet rfl ?_
              simp only [List.filterMap_cons, List.filterMap_nil, List.getElem?_toArray, List.getElem?_cons_succ, List.getElem?_cons_zero]
              show wpQuiet _ _ _ _ [_, _, _, _, _, _, _, _, _, _, _, _, _, _, _, _, _, _, _, _, _, _, _] _
              repeat (go_big_quiet_step (fail))
              refine wpQuiet_nil ?_
              clear c0 e0
              have GD := Lib.hid (gdrew G4.out)
              refine wpSegs_one (by simp only [List.getElem?_toArray, List.getElem?_cons_succ, List.getElem?_cons_zero]; exact rfl) ?_
              go_wp2_with fail
              refine (lblabels_any nx _).mono ?_
              rintro e w7 ⟨rfl, hg⟩
              have GE := Lib.hid (gtrans GD.out hg)
              go_wp2_with fail
              refine ⟨hg, ?_⟩
              clear hg GD
              refine wpSegs_one (by simp only [List.getElem?_toArray, List.getElem?_cons_succ, List.getElem?_cons_zero]; exact rfl) ?_
              go_wp2_with fail
              refine (lblabels_any ny _).mono ?_
              rintro e w8 ⟨rfl, hg⟩
              have GF := Lib.hid (gtrans GE.out hg)
              go_wp2_with fail
              refine ⟨hg, ?_⟩
              clear hg GE
              refine wpSegs_quiet rfl ?_
              simp only [List.filterMap_cons, List.filterMap_nil, List.getElem?_toArray, List.getElem?_cons_succ, List.getElem?_cons_zero]
              show wpQuiet _ _ _ _ [_, _, _] _
              repeat (go_big_quiet_step (fail))
              refine wpQuiet_nil ?_
              refine wpSegs_done ?_
              clear q0 q1
              go_wp2_with fail
              refine (nparent_any m _).mono ?_
              rintro e w9 ⟨rfl, rfl⟩
              have HN := Lib.hid (HA.out.up)
              have hu := up_less HA.out
              cases hi : isUp m with
              | true =>
                have HN2 := Lib.hid (HN.out hi)
                generalize upN m = m2 at *
                clear hi HN
                go_wp2_with fail
                go_roundw
                case rel => exact ⟨m2, true, rfl, rfl, fun _ => HN2.out, GF.out⟩
                case measure => simp; omega
              | false =>
                generalize upN m = m2 at *
                clear hi HN
                go_wp2_with fail
                go_roundw
                case rel => exact ⟨m2, false, rfl, rfl, (fun h => nomatch h), GF.out⟩
                case measure => simp; omega
end Go.Proofs.YtomjiephbacocaaDoor
