/-
  Soa: are two sets the same? LongSets.
-/
import Derived.Test.YtomjiephbacocaaDoorSo10i
import Derived.Test.YtomjiephbacocaaDoorA6
namespace Go.Proofs.YtomjiephbacocaaDoor
open Go.RowKit

/-- Are two sets the same? -/
def smS (x y : St) : Bool := decide (x.name = y.name) && decide (x.kind = y.kind) && decide (x.cls = y.cls) && decide (x.ttl = y.ttl) && decide (x.data = y.data)
theorem str_not {a b : ByteArray} (h : ¬ a = b) : (a.toList == b.toList) = false := by
  refine beq_eq_false_iff_ne.2 fun e => h ?_
  rw [ByteArray.toList_eq, ByteArray.toList_eq] at e
  exact ByteArray.ext (Array.toList_inj.1 e)

set_option maxRecDepth 100000 in
set_option maxHeartbeats 8000000 in
theorem equals_len (A B : Option Addr) (n m ca cb : Nat) (w : World) (h : n ≠ m) : Calls Tryd.prog 32 #[.slice A n ca, .slice B m cb] w fun e w' => e = .returned (.bool false) ∧ w.grownBy w' none := by
  have q : ((n : Int) != (m : Int)) = true := by simp; omega
  go_enter Tryd.func32, Tryd.ntmps32
  go_wp2_with fail
  go_ret
  exact ⟨rfl, grefl _ _⟩

set_option maxRecDepth 100000 in
set_option maxHeartbeats 8000000 in
theorem equals_any (A B : Option Addr) (ca cb : Nat) (xs ys : List ByteArray) (w : World) (hn : xs.length = ys.length) (ha : Sl w 1 (.slice A xs.length ca) xs.length (strs xs)) (hb : Sl w 1 (.slice B ys.length cb) ys.length (strs ys)) (hm : xs.length ≤ 1000000) :
    Calls Tryd.prog 32 #[.slice A xs.length ca, .slice B ys.length cb] w fun e w' => e = .returned (.bool (decide (xs = ys))) ∧ w.grownBy w' none := by
  have HA := Lib.hid ha
  have HB := Lib.hid hb
  have HN := Lib.hid hn
  have q : ((xs.length : Int) != (ys.length : Int)) = false := by rw [hn]; simp
  clear ha hb hn
  go_enter Tryd.func32, Tryd.ntmps32
  go_wp2_with fail
  clear q
  go_loopw [13] (fun i wr => ∃ k : Nat, k ≤ xs.length ∧ i = .int .i64 k ∧ xs.take k = ys.take k ∧ w.grownBy wr none) (fun i _ => xs.length - (intOf i).toNat)
  case atStart => exact ⟨0, by omega, rfl, rfl, grefl _ _⟩
  case round =>
    obtain ⟨k, hk, rfl, hsame, hg⟩ := hrel
    have HS := Lib.hid hsame
    have HG := Lib.hid hg
    clear hsame hg
    by_cases hlt : k < xs.length
    · have hlt2 : k < ys.length := by have := HN.out; omega
      obtain ⟨b, off, rfl, _, _, l0⟩ := sl_str (HA.out.kept0 HG.out) hlt
      obtain ⟨b', off', rfl, _, _, l1⟩ := sl_str (HB.out.kept0 HG.out) hlt2
      have q0 : (0 : Int) ≤ (k : Int) := by omega
      have q1 : (k : Int) < (xs.length : Int) := by omega
      have q2 : (k : Int) < (ys.length : Int) := by omega
      have q3 : decide ((k : Int) < (xs.length : Int)) = true := by simp; omega
      have HX := Lib.hid (List.take_succ_eq_append_getElem hlt)
      have HY := Lib.hid (List.take_succ_eq_append_getElem hlt2)
      generalize xs[k] = x at *
      generalize ys[k] = y at *
      by_cases hxy : x = y
      · have k3 : (x.toList != y.toList) = false := by rw [hxy]; simp
        have k4 : (x.toList == y.toList) = true := by rw [hxy]; simp
        have HXY := Lib.hid hxy
        clear hxy
        go_wp2_with fail
        go_quiet (fail)
        go_wp2
        go_roundw
        case rel => exact ⟨k + 1, by omega, by go_num, by rw [HX.out, HY.out, HS.out, HXY.out], gdrewN HG.out _⟩
        case measure => simp [intOf]; omega
      · have k4 : (x.toList == y.toList) = false := str_not hxy
        have k3 : (x.toList != y.toList) = true := by unfold bne; rw [k4]; rfl
        have HXY := Lib.hid hxy
        clear hxy
        go_wp2_with fail
        go_quiet (fail)
        go_wp2
        go_ret
        refine ⟨?_, gdrewN HG.out _⟩
        have hne : ¬ xs = ys := by
          intro e
          have e1 := HX.out
          rw [e, HY.out] at e1
          have e2 := List.append_inj_right' e1 (by simp)
          simp at e2
          exact HXY.out e2.symm
        simp [hne]
    · have q3 : decide ((k : Int) < (xs.length : Int)) = false := by simp; omega
      go_wp2
      go_ret
      refine ⟨?_, HG.out⟩
      have e1 := HS.out
      have e2 := HN.out
      rw [List.take_of_length_le (by omega), List.take_of_length_le (by omega)] at e1
      simp [e1]

set_option maxRecDepth 100000 in
set_option maxHeartbeats 16000000 in
theorem psame_any (x y : St) (w : World) (hx : StW w x) (hy : StW w y) (hm : x.data.length ≤ 1000000) : Calls Tryd.prog 22 #[x.val, y.val] w fun e w' => e = .returned (.bool (smS x y)) ∧ w.grownBy w' none := by
  obtain ⟨A, ca, hva, _⟩ := hx.shape
  obtain ⟨B, cb, hvb, _⟩ := hy.shape
  unfold StW at hx hy
  obtain ⟨nm, kd, cl, tt, vd, xs⟩ := x
  obtain ⟨nm', kd', cl', tt', vd', ys⟩ := y
  simp only at hva hvb hx hy hm
  subst hva hvb
  have HX := Lib.hid hx
  have HY := Lib.hid hy
  clear hx hy
  unfold St.val
  have HS := Lib.hid (show ∀ q : Bool, (decide (nm = nm') && decide (kd = kd') && decide (cl = cl') && decide (tt = tt') && decide (xs = ys)) = q → smS ⟨nm, kd, cl, tt, .slice A xs.length ca, xs⟩ ⟨nm', kd', cl', tt', .slice B ys.length cb, ys⟩ = q from fun q e => e)
  by_cases h0 : nm = nm'
  · have k0 : (nm.toList == nm'.toList) = true := by rw [h0]; simp
    have j0 : (nm.toList != nm'.toList) = false := by rw [h0]; simp
    by_cases h1 : kd = kd'
    · have k1 : ((kd : Int) == (kd' : Int)) = true := by simp; omega
      have j1 : ((kd : Int) != (kd' : Int)) = false := by simp; omega
      by_cases h2 : cl = cl'
      · have k2 : ((cl : Int) == (cl' : Int)) = true := by simp; omega
        have j2 : ((cl : Int) != (cl' : Int)) = false := by simp; omega
        by_cases h3 : tt = tt'
        · have k3 : ((tt : Int) == (tt' : Int)) = true := by simp; omega
          have j3 : ((tt : Int) != (tt' : Int)) = false := by simp; omega
          have HE := Lib.hid (show smS ⟨nm, kd, cl, tt, .slice A xs.length ca, xs⟩ ⟨nm', kd', cl', tt', .slice B ys.length cb, ys⟩ = decide (xs = ys) from HS.out _ (by simp [h0, h1, h2, h3]))
          have HC : ∀ w', w.grownBy w' none → Calls Tryd.prog 32 #[.slice A xs.length ca, .slice B ys.length cb] w' fun e w'' => e = .returned (.bool (decide (xs = ys))) ∧ w'.grownBy w'' none := by
            intro w' g
            by_cases hn : xs.length = ys.length
            · exact equals_any A B ca cb xs ys w' hn (HX.out.kept0 g) (HY.out.kept0 g) hm
            · have : decide (xs = ys) = false := by simp; intro e; exact hn (by rw [e])
              rw [this]
              exact equals_len A B xs.length ys.length ca cb w' hn
          have HCC := Lib.hid HC
          clear h0 h1 h2 h3 HC
          go_enter Tryd.func22, Tryd.ntmps22
          go_wp2_with fail
          refine (HCC.out _ (galloc (galloc (grefl _ none) _) _)).mono ?_
          rintro e w1 ⟨rfl, hg⟩
          have HG := Lib.hid (gfr1 (gfr1 hg))
          clear hg
          go_wp2_with fail
          go_ret
          exact ⟨by rw [HE.out]; rfl, HG.out⟩
        · have k3 : ((tt : Int) == (tt' : Int)) = false := by simp; omega
          have j3 : ((tt : Int) != (tt' : Int)) = true := by simp; omega
          have HE := Lib.hid (HS.out false (by simp [h3]))
          clear h0 h1 h2 h3
          go_enter Tryd.func22, Tryd.ntmps22
          go_wp2_with fail
          go_ret
          exact ⟨by rw [HE.out]; rfl, galloc (galloc (grefl _ none) _) _⟩
      · have k2 : ((cl : Int) == (cl' : Int)) = false := by simp; omega
        have j2 : ((cl : Int) != (cl' : Int)) = true := by simp; omega
        have HE := Lib.hid (HS.out false (by simp [h2]))
        clear h0 h1 h2
        go_enter Tryd.func22, Tryd.ntmps22
        go_wp2_with fail
        go_ret
        exact ⟨by rw [HE.out]; rfl, galloc (galloc (grefl _ none) _) _⟩
    · have k1 : ((kd : Int) == (kd' : Int)) = false := by simp; omega
      have j1 : ((kd : Int) != (kd' : Int)) = true := by simp; omega
      have HE := Lib.hid (HS.out false (by simp [h1]))
      clear h0 h1
      go_enter Tryd.func22, Tryd.ntmps22
      go_wp2_with fail
      go_ret
      exact ⟨by rw [HE.out]; rfl, galloc (galloc (grefl _ none) _) _⟩
  · have k0 : (nm.toList == nm'.toList) = false := str_not h0
    have j0 : (nm.toList != nm'.toList) = true := by unfold bne; rw [k0]; rfl
    have HE := Lib.hid (HS.out false (by simp [h0]))
    clear h0
    go_enter Tryd.func22, Tryd.ntmps22
    go_wp2_with fail
    go_ret
    exact ⟨by rw [HE.out]; rfl, galloc (galloc (grefl _ none) _) _⟩

set_option maxRecDepth 100000 in
set_option maxHeartbeats 16000000 in
theorem dsame_any (x y : St) (w : World) (hx : StW w x) (hy : StW w y) (hm : x.data.length ≤ 1000000) : Calls Tryd.prog 13 #[x.val, y.val] w fun e w' => e = .returned (.bool (smS x y)) ∧ w.grownBy w' none := by
  obtain ⟨A, ca, hva, _⟩ := hx.shape
  obtain ⟨B, cb, hvb, _⟩ := hy.shape
  unfold StW at hx hy
  obtain ⟨nm, kd, cl, tt, vd, xs⟩ := x
  obtain ⟨nm', kd', cl', tt', vd', ys⟩ := y
  simp only at hva hvb hx hy hm
  subst hva hvb
  have HX := Lib.hid hx
  have HY := Lib.hid hy
  clear hx hy
  unfold St.val
  have HS := Lib.hid (show ∀ q : Bool, (decide (nm = nm') && decide (kd = kd') && decide (cl = cl') && decide (tt = tt') && decide (xs = ys)) = q → smS ⟨nm, kd, cl, tt, .slice A xs.length ca, xs⟩ ⟨nm', kd', cl', tt', .slice B ys.length cb, ys⟩ = q from fun q e => e)
  by_cases h0 : nm = nm'
  · have k0 : (nm.toList == nm'.toList) = true := by rw [h0]; simp
    have j0 : (nm.toList != nm'.toList) = false := by rw [h0]; simp
    by_cases h1 : kd = kd'
    · have k1 : ((kd : Int) == (kd' : Int)) = true := by simp; omega
      have j1 : ((kd : Int) != (kd' : Int)) = false := by simp; omega
      by_cases h2 : cl = cl'
      · have k2 : ((cl : Int) == (cl' : Int)) = true := by simp; omega
        have j2 : ((cl : Int) != (cl' : Int)) = false := by simp; omega
        by_cases h3 : tt = tt'
        · have k3 : ((tt : Int) == (tt' : Int)) = true := by simp; omega
          have j3 : ((tt : Int) != (tt' : Int)) = false := by simp; omega
          have HE := Lib.hid (show smS ⟨nm, kd, cl, tt, .slice A xs.length ca, xs⟩ ⟨nm', kd', cl', tt', .slice B ys.length cb, ys⟩ = decide (xs = ys) from HS.out _ (by simp [h0, h1, h2, h3]))
          by_cases hn : xs.length = ys.length
          · have k9 : ((xs.length : Int) != (ys.length : Int)) = false := by simp; omega
            have HN := Lib.hid hn
            clear h0 h1 h2 h3 hn
            go_enter Tryd.func13, Tryd.ntmps13
            go_wp2_with fail
            clear k9 k0 k1 k2 k3 j0 j1 j2 j3
            go_loopw [5] (fun i wr => ∃ k : Nat, k ≤ xs.length ∧ i = .int .i64 k ∧ xs.take k = ys.take k ∧ w.grownBy wr none ∧ wr.heap[w.heap.size]? = some (.cells #[.string nm, .int .u16 (kd : Int), .int .u16 (cl : Int), .int .u32 (tt : Int), .slice A xs.length ca] 27 (0, 0)) ∧ wr.heap[w.heap.size + 1]? = some (.cells #[.string nm', .int .u16 (kd' : Int), .int .u16 (cl' : Int), .int .u32 (tt' : Int), .slice B ys.length cb] 27 (0, 0))) (fun i _ => xs.length - (intOf i).toNat)
            case atStart => exact ⟨0, by omega, rfl, rfl, galloc (galloc (grefl _ none) _) _, balloc2_0 _ _ _, balloc2_1 _ _ _⟩
            case round =>
              obtain ⟨k, hk, rfl, hsame, hg, hr0, hr1⟩ := hrel
              have HS1 := Lib.hid hsame
              have HG := Lib.hid hg
              have H0 := Lib.hid hr0
              have H1 := Lib.hid hr1
              have m0 : wr.cell? ⟨w.heap.size, 4, none⟩ = some (.slice A xs.length ca) := bcellAt hr0 4
              have m1 : wr.cell? ⟨w.heap.size + 1, 4, none⟩ = some (.slice B ys.length cb) := bcellAt hr1 4
              clear hsame hg hr0 hr1
              by_cases hlt : k < xs.length
              · have hlt2 : k < ys.length := by have := HN.out; omega
                obtain ⟨b, off, rfl, _, _, l0⟩ := sl_str (HX.out.kept0 HG.out) hlt
                obtain ⟨b', off', rfl, _, _, l1⟩ := sl_str (HY.out.kept0 HG.out) hlt2
                have q0 : (0 : Int) ≤ (k : Int) := by omega
                have q1 : (k : Int) < (xs.length : Int) := by omega
                have q2 : (k : Int) < (ys.length : Int) := by omega
                have q3 : decide ((k : Int) < (xs.length : Int)) = true := by simp; omega
                have HXk := Lib.hid (List.take_succ_eq_append_getElem hlt)
                have HYk := Lib.hid (List.take_succ_eq_append_getElem hlt2)
                generalize xs[k] = x at *
                generalize ys[k] = y at *
                by_cases hxy : x = y
                · have k3 : (x.toList != y.toList) = false := by rw [hxy]; simp
                  have k4 : (x.toList == y.toList) = true := by rw [hxy]; simp
                  have HXY := Lib.hid hxy
                  clear hxy
                  go_wp2_with fail
                  go_quiet (fail)
                  go_wp2
                  go_roundw
                  case rel => exact ⟨k + 1, by omega, by go_num, by rw [HXk.out, HYk.out, HS1.out, HXY.out], gdrewN HG.out _, H0.out, H1.out⟩
                  case measure => simp [intOf]; omega
                · have k4 : (x.toList == y.toList) = false := str_not hxy
                  have k3 : (x.toList != y.toList) = true := by unfold bne; rw [k4]; rfl
                  have HXY := Lib.hid hxy
                  clear hxy
                  go_wp2_with fail
                  go_quiet (fail)
                  go_wp2
                  go_ret
                  refine ⟨?_, gdrewN HG.out _⟩
                  have hne : ¬ xs = ys := by
                    intro e
                    have e1 := HXk.out
                    rw [e, HYk.out] at e1
                    have e2 := List.append_inj_right' e1 (by simp)
                    simp at e2
                    exact HXY.out e2.symm
                  rw [HE.out]
                  simp [hne]
              · have q3 : decide ((k : Int) < (xs.length : Int)) = false := by simp; omega
                go_wp2
                go_ret
                refine ⟨?_, HG.out⟩
                have e1 := HS1.out
                have e2 := HN.out
                rw [List.take_of_length_le (by omega), List.take_of_length_le (by omega)] at e1
                rw [HE.out]
                simp [e1]
          · have k9 : ((xs.length : Int) != (ys.length : Int)) = true := by simp; omega
            have HE2 := Lib.hid (show decide (xs = ys) = false by simp; intro e; exact hn (by rw [e]))
            clear h0 h1 h2 h3 hn
            go_enter Tryd.func13, Tryd.ntmps13
            go_wp2_with fail
            go_ret
            exact ⟨by rw [HE.out, HE2.out]; rfl, galloc (galloc (grefl _ none) _) _⟩
        · have k3 : ((tt : Int) == (tt' : Int)) = false := by simp; omega
          have j3 : ((tt : Int) != (tt' : Int)) = true := by simp; omega
          have HE := Lib.hid (HS.out false (by simp [h3]))
          clear h0 h1 h2 h3
          go_enter Tryd.func13, Tryd.ntmps13
          go_wp2_with fail
          go_ret
          exact ⟨by rw [HE.out]; rfl, galloc (galloc (grefl _ none) _) _⟩
      · have k2 : ((cl : Int) == (cl' : Int)) = false := by simp; omega
        have j2 : ((cl : Int) != (cl' : Int)) = true := by simp; omega
        have HE := Lib.hid (HS.out false (by simp [h2]))
        clear h0 h1 h2
        go_enter Tryd.func13, Tryd.ntmps13
        go_wp2_with fail
        go_ret
        exact ⟨by rw [HE.out]; rfl, galloc (galloc (grefl _ none) _) _⟩
    · have k1 : ((kd : Int) == (kd' : Int)) = false := by simp; omega
      have j1 : ((kd : Int) != (kd' : Int)) = true := by simp; omega
      have HE := Lib.hid (HS.out false (by simp [h1]))
      clear h0 h1
      go_enter Tryd.func13, Tryd.ntmps13
      go_wp2_with fail
      go_ret
      exact ⟨by rw [HE.out]; rfl, galloc (galloc (grefl _ none) _) _⟩
  · have k0 : (nm.toList == nm'.toList) = false := str_not h0
    have j0 : (nm.toList != nm'.toList) = true := by unfold bne; rw [k0]; rfl
    have HE := Lib.hid (HS.out false (by simp [h0]))
    clear h0
    go_enter Tryd.func13, Tryd.ntmps13
    go_wp2_with fail
    go_ret
    exact ⟨by rw [HE.out]; rfl, galloc (galloc (grefl _ none) _) _⟩
end Go.Proofs.YtomjiephbacocaaDoor
