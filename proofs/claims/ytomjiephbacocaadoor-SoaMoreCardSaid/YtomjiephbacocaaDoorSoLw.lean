/-
  Soa: the document's 'within' is the program's, in plain Lean.
-/
import Derived.Test.YtomjiephbacocaaDoorSo10e
namespace Go.Proofs.YtomjiephbacocaaDoor
open Go.RowKit

theorem bt_suf (n : ByteArray) (q p : Nat) : bt (suf n q) p = bt n (q + p) := by
  unfold bt
  rw [suf_eq]
  simp [List.getElem?_drop]
theorem suf_suf (n : ByteArray) (q p : Nat) : suf (suf n q) p = suf n (q + p) := by
  rw [suf_eq (suf n q), suf_eq n, suf_eq n]
  simp [List.drop_drop]
theorem sufSz (n : ByteArray) (p : Nat) : (suf n p).size = n.size - p := by unfold suf; rw [ByteArray.size_extract]; omega
theorem scan_suf (n : ByteArray) (q : Nat) : ∀ k p, n.size - (q + p) = k → scan (suf n q) p = scan n (q + p) := by
  intro k
  induction k using Nat.strongRecOn with
  | _ k ih =>
    intro p hk
    by_cases hp : q + p < n.size
    · have hp' : p < (suf n q).size := by rw [sufSz]; omega
      have hb := bt_suf n q p
      by_cases h0 : bt n (q + p) = 0
      · rw [scan_end hp h0, scan_end hp' (by rw [hb]; exact h0), sufSz]
        rw [decide_eq_decide]
        omega
      · by_cases h1 : bt n (q + p) ≤ 63
        · rw [scan_step hp h0 h1, scan_step hp' (by rw [hb]; exact h0) (by rw [hb]; exact h1), hb]
          rw [ih (n.size - (q + (p + 1 + bt n (q + p)))) (by omega) _ rfl]
          congr 1
          omega
        · rw [scan_big hp (by omega), scan_big hp' (by rw [hb]; omega)]
    · rw [scan_out (s := suf n q) (by rw [sufSz]; omega), scan_out (s := n) (by omega)]
theorem wn_suf (n : ByteArray) (q : Nat) (cut : Int) : ∀ (k p : Nat), (cut - (p : Int)).toNat = k → wn (suf n q) cut p + q = wn n (cut + q) (q + p) := by
  intro k
  induction k using Nat.strongRecOn with
  | _ k ih =>
    intro p hk
    by_cases h : (p : Int) < cut
    · rw [wn_step h, wn_step (p := q + p) (by omega), bt_suf]
      rw [ih (cut - ((p + 1 + bt n (q + p) : Nat) : Int)).toNat (by omega) _ rfl]
      congr 1
      omega
    · rw [wn_end h, wn_end (p := q + p) (by omega)]
      omega
theorem sm_size {n z : ByteArray} (h : n.size ≠ z.size) : smN n z = false := by
  unfold smN
  cases hn : may n <;> cases hz : may z <;> simp
  rw [foldB_yes hn, foldB_yes hz]
  intro e
  apply h
  rw [← lowB_size n, ← lowB_size z, e]
theorem wi_small {n z : ByteArray} (hn : may n = true) (hz : may z = true) (h : n.size ≤ z.size) : wiN n z = smN n z := by
  have h0 : wn n ((n.size : Int) - z.size) 0 = 0 := wn_end (by omega)
  by_cases he : n.size = z.size
  · unfold wiN smN
    rw [h0, hn, hz, foldB_yes hn, foldB_yes hz]
    have e1 : decide ((((0 : Nat) : Int)) = (n.size : Int) - z.size) = true := decide_eq_true (by omega)
    have e2 : suf n 0 = n := by rw [suf_eq]; rfl
    rw [e1, e2]
    rfl
  · rw [sm_size he]
    unfold wiN
    rw [h0]
    have e1 : decide ((((0 : Nat) : Int)) = (n.size : Int) - z.size) = false := decide_eq_false (by omega)
    rw [e1]
    simp
theorem up_is {n : ByteArray} (hn : may n = true) (h1 : n.size ≠ 1) : upN n = suf n (1 + bt n 0) ∧ may (upN n) = true ∧ (upN n).size + 1 ≤ n.size ∧ 1 + bt n 0 ≤ n.size := by
  have hs := may_scan hn
  have hp := scan_lt hs.2
  have hb := scan_go hs.2 (by omega)
  have e : upN n = suf n (1 + bt n 0) := if_pos ⟨hn, h1⟩
  have hq := scan_lt hb.2.2
  have hsz := sufSz n (1 + bt n 0)
  refine ⟨e, ?_, by rw [e, hsz]; omega, by omega⟩
  rw [e]
  unfold may
  rw [hsz, scan_suf n _ _ 0 rfl]
  have := hb.2.2
  simp only [Nat.zero_add] at this
  rw [Nat.add_zero, this]
  simp
  omega
theorem wi_up {n z : ByteArray} (hn : may n = true) (hz : may z = true) (h1 : n.size ≠ 1) (hs : smN n z = false) : wiN n z = wiN (upN n) z := by
  obtain ⟨e, hm, hsz, hq⟩ := up_is hn h1
  by_cases hc : n.size ≤ z.size
  · rw [wi_small hn hz hc, wi_small hm hz (by omega), hs, sm_size (by omega)]
  · have hk : wn n ((n.size : Int) - z.size) 0 = wn (upN n) (((upN n).size : Int) - z.size) 0 + (1 + bt n 0) := by
      rw [wn_step (by omega), e, wn_suf n _ _ _ 0 rfl, sufSz]
      congr 1
      omega
    have hsz2 : ((upN n).size : Int) = n.size - (1 + bt n 0) := by rw [e, sufSz]; omega
    unfold wiN
    rw [hn, hm, hk]
    generalize wn (upN n) (((upN n).size : Int) - z.size) 0 = p at *
    have e1 : decide (((p + (1 + bt n 0) : Nat) : Int) = (n.size : Int) - z.size) = decide ((p : Int) = ((upN n).size : Int) - z.size) := by
      rw [decide_eq_decide]
      omega
    have e2 : suf (upN n) p = suf n (p + (1 + bt n 0)) := by rw [e, suf_suf, Nat.add_comm]
    rw [e1, e2]
theorem wi_root {n z : ByteArray} (hn : may n = true) (hz : may z = true) (h1 : n.size = 1) : wiN n z = smN n z := by
  have := may_scan hz
  have := scan_lt this.2
  exact wi_small hn hz (by omega)
theorem wi_sm {n z : ByteArray} (h : smN n z = true) : wiN n z = true := by
  have hn : may n = true ∧ may z = true := by
    unfold smN at h
    simp at h
    exact h.1
  have : n.size = z.size := by
    apply Decidable.byContradiction
    intro hne
    rw [sm_size hne] at h
    cases h
  rw [wi_small hn.1 hn.2 (by omega), h]
theorem wi_may {n z : ByteArray} (h : wiN n z = true) : may n = true ∧ may z = true := by
  unfold wiN at h
  simp at h
  exact h.1.1

set_option maxRecDepth 100000 in
set_option maxHeartbeats 8000000 in
theorem rwithin_any (n z : ByteArray) (w : World) (hns : n.size ≤ 1000000) (hzs : z.size ≤ 1000000) : Calls Tryd.prog 31 #[.string n, .string z] w fun e w' => e = .returned (.bool (wiN n z)) ∧ w.grownBy w' none := by
  go_enter Tryd.func31, Tryd.ntmps31
  go_wp2_with fail
  refine (rmay_any n w hns).mono ?_
  rintro e w1 ⟨rfl, hg1⟩
  by_cases hn : may n = true
  · rw [hn]
    go_wp2_with fail
    refine (rmay_any z w1 hzs).mono ?_
    rintro e w2 ⟨rfl, hg2⟩
    by_cases hz : may z = true
    · rw [hz]
      have HG := Lib.hid (gtrans hg1 hg2)
      have HN := Lib.hid hn
      have HZ := Lib.hid hz
      clear hg1 hg2 hn hz
      go_wp2_with fail
      go_loopw [0] (fun v wr => ∃ m : ByteArray, v = .string m ∧ may m = true ∧ m.size ≤ n.size ∧ wiN n z = wiN m z ∧ w.grownBy wr none) (fun v _ => match v with | .string m => m.size | _ => 0)
      case atStart => exact ⟨n, rfl, HN.out, by omega, rfl, HG.out⟩
      case round =>
        obtain ⟨m, rfl, hm, hms, hw, hg⟩ := hrel
        have HM := Lib.hid hm
        have HW := Lib.hid hw
        have HR := Lib.hid hg
        clear hm hw hg
        go_wp2_with fail
        refine (rsame_any m z wr (by omega) hzs).mono ?_
        rintro e w3 ⟨rfl, hg3⟩
        have HR3 := Lib.hid (gtrans HR.out hg3)
        clear hg3 HR
        by_cases hs : smN m z = true
        · have HS := Lib.hid (wi_sm hs)
          rw [hs]
          clear hs
          go_wp2_with fail
          go_ret
          exact ⟨by rw [HW.out, HS.out]; rfl, HR3.out⟩
        · have hs' : smN m z = false := by simpa using hs
          have HS := Lib.hid hs'
          rw [hs']
          clear hs hs'
          go_wp2_with fail
          refine (rparent_any m w3 (by omega)).mono ?_
          rintro e w4 ⟨rfl, hg4⟩
          have HR4 := Lib.hid (gtrans HR3.out hg4)
          clear hg4 HR3
          by_cases h1 : m.size = 1
          · have hi : isUp m = false := by unfold isUp; simp [h1]
            have HE := Lib.hid (wi_root HM.out HZ.out h1)
            rw [hi]
            clear hi h1
            go_wp2_with fail
            go_ret
            exact ⟨by rw [HW.out, HE.out, HS.out]; rfl, HR4.out⟩
          · have hi : isUp m = true := by unfold isUp; rw [HM.out]; simp [h1]
            have HE := Lib.hid (wi_up HM.out HZ.out h1 HS.out)
            obtain ⟨hue, hm2, hsz, huq⟩ := up_is HM.out h1
            have HM2 := Lib.hid hm2
            clear hue huq
            rw [hi]
            clear hi h1 hm2
            generalize upN m = m2 at *
            go_wp2_with fail
            go_roundw
            case rel => exact ⟨m2, rfl, HM2.out, by omega, by rw [HW.out, HE.out], HR4.out⟩
            case measure => simp; omega
    · have hz' : may z = false := by simpa using hz
      have HW := Lib.hid (show wiN n z = false by unfold wiN; rw [hz']; simp)
      rw [hz']
      clear hz hz'
      go_wp2_with fail
      go_ret
      exact ⟨by rw [HW.out]; rfl, gtrans hg1 hg2⟩
  · have hn' : may n = false := by simpa using hn
    have HW := Lib.hid (show wiN n z = false by unfold wiN; rw [hn']; simp)
    rw [hn']
    clear hn hn'
    go_wp2_with fail
    go_ret
    exact ⟨by rw [HW.out]; rfl, hg1⟩
end Go.Proofs.YtomjiephbacocaaDoor
