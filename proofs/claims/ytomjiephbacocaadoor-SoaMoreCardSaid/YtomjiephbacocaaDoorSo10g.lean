/-
  Soa: the innermost set.
-/
import Derived.Test.YtomjiephbacocaaDoorSo10f
import Derived.Test.YtomjiephbacocaaDoorA8
namespace Go.Proofs.YtomjiephbacocaaDoor
open Go.RowKit

/-- The innermost of the first k sets: its place, and how many labels it has. -/
def bI (n : ByteArray) (c : Nat) (l : List St) : Nat → Int × Int
  | 0 => (-1, -1)
  | k + 1 => match l[k]? with
    | none => bI n c l k
    | some x => if innB n c x (bI n c l k).2 = true then ((k : Int), (nlb x.name : Int)) else bI n c l k
theorem bI_yes {n : ByteArray} {c : Nat} {l : List St} {k : Nat} (hk : k < l.length) (h : innB n c l[k] (bI n c l k).2 = true) : bI n c l (k + 1) = ((k : Int), (nlb l[k].name : Int)) := by
  rw [bI, List.getElem?_eq_getElem hk]
  simp only [h, if_true]
theorem bI_no {n : ByteArray} {c : Nat} {l : List St} {k : Nat} (hk : k < l.length) (h : innB n c l[k] (bI n c l k).2 = false) : bI n c l (k + 1) = bI n c l k := by
  rw [bI, List.getElem?_eq_getElem hk]
  simp [h]
theorem bI_inv (n : ByteArray) (c : Nat) (l : List St) : ∀ k, k ≤ l.length → bI n c l k = (-1, -1) ∨ ∃ (j : Nat) (h : j < l.length), j < k ∧ bI n c l k = ((j : Int), (nlb l[j].name : Int)) ∧ fitB n c l[j] = true := by
  intro k
  induction k with
  | zero => intro _; exact .inl rfl
  | succ k ih =>
    intro hk
    have hk' : k < l.length := by omega
    by_cases h : innB n c l[k] (bI n c l k).2 = true
    · refine .inr ⟨k, hk', by omega, bI_yes hk' h, ?_⟩
      unfold innB at h
      simp at h
      exact h.1
    · rw [bI_no hk' (by simpa using h)]
      rcases ih (by omega) with h1 | ⟨j, h1, h2, h3⟩
      · exact .inl h1
      · exact .inr ⟨j, h1, by omega, h3⟩

set_option maxRecDepth 100000 in
set_option maxHeartbeats 8000000 in
theorem innermost_any (n : ByteArray) (c : Nat) (v : Value) (l : List St) (w : World) (h : Sts w v l) (hl : l.length ≤ 1000000) : Calls Tryd.prog 24 #[v, .func (.func 25) #[.agg #[.string n, .int .u16 (c : Int)]] #[]] w fun e w' => e = .returned (.int .i64 (bI n c l l.length).1) ∧ w.grownBy w' none := by
  have HI := Lib.hid h
  obtain ⟨A, cap, rfl, hcap⟩ := h.shape
  clear h
  have cf : ∀ (args : Array Value) (w : World), (callFunc 25 args).run Tryd.prog w = .ok (.enter 25 args) w := fun _ _ => by kernel_rfl
  go_enter Tryd.func24, Tryd.ntmps24
  go_wp2_with fail
  go_loopw [5, 6, 11] (fun vf vd vi wr => ∃ (k : Nat) (f d : Int), k ≤ l.length ∧ vi = .int .i64 k ∧ vf = .int .i64 f ∧ vd = .int .i64 d ∧ bI n c l k = (f, d) ∧ w.grownBy wr none) (fun _ _ vi _ => l.length - (intOf vi).toNat)
  case atStart => exact ⟨0, -1, -1, by omega, rfl, rfl, rfl, rfl, grefl _ _⟩
  case round =>
    obtain ⟨k, f, d, hk, rfl, rfl, rfl, hb, hg⟩ := hrel
    have HB := Lib.hid hb
    have HG := Lib.hid hg
    clear hb hg
    by_cases hlt : k < l.length
    · have k1 : decide ((k : Int) < (l.length : Int)) = true := by simp; omega
      obtain ⟨b, off, rfl, _, _, c0, c1, c2, c3, c4⟩ := (HI.out.kept HG.out).at hlt
      have HIn := Lib.hid (inner_any n c l[k] d)
      have hyes := Lib.hid (fun hh => bI_yes (n := n) (c := c) hlt (by rw [HB.out]; exact hh))
      have hno := Lib.hid (fun hh => bI_no (n := n) (c := c) hlt (by rw [HB.out]; exact hh))
      unfold St.val at HIn
      obtain ⟨Ad, cd, hvd, _⟩ := (HI.out.2 l[k] (List.getElem_mem hlt)).shape
      generalize l[k] = x at *
      obtain ⟨nm, kd, cl, tt, vd, dat⟩ := x
      simp only at hvd c0 c1 c2 c3 c4
      subst hvd
      have C0 := Lib.hid c0
      go_wp2_with fail
      refine (HIn.out _).mono ?_
      rintro e w1 ⟨rfl, hg1⟩
      have HG1 := Lib.hid (gtrans (galloc HG.out _) hg1)
      have hb0 := bcellAt (gblock hg1 (balloc _ _) (by simp)) 0
      have hb1 : w1.cell? ⟨wr.heap.size, 0, none⟩ = some (.string nm) := hb0
      clear hb0 hg1 c0 c1 c2 c3 c4
      cases hq : innB n c ⟨nm, kd, cl, tt, .slice Ad dat.length cd, dat⟩ d with
      | true =>
        have HY := Lib.hid (hyes.out hq)
        clear hq
        go_wp2_with fail
        refine (nLabels_any nm _).mono ?_
        rintro e w2 ⟨A2, k2, rfl, hg2⟩
        have HG2 := Lib.hid (gtrans HG1.out hg2)
        clear hg2 hb1
        go_wp2_with fail
        go_roundw
        case rel => exact ⟨k + 1, (k : Int), (nlb nm : Int), by omega, by go_num, rfl, rfl, HY.out, HG2.out⟩
        case measure => simp [intOf]; omega
      | false =>
        have HY := Lib.hid (hno.out hq)
        clear hq hb1
        go_wp2_with fail
        go_roundw
        case rel => exact ⟨k + 1, f, d, by omega, by go_num, rfl, rfl, by rw [HY.out, HB.out], HG1.out⟩
        case measure => simp [intOf]; omega
    · have k1 : decide ((k : Int) < (l.length : Int)) = false := by simp; omega
      obtain rfl : k = l.length := by omega
      go_wp2_with fail
      go_ret
      exact ⟨by rw [HB.out]; rfl, HG.out⟩
end Go.Proofs.YtomjiephbacocaaDoor
