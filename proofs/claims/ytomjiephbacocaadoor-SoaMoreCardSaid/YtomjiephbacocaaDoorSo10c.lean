/-
  Soa: the document's names: the same, the parent, within.
-/
import Derived.Test.YtomjiephbacocaaDoorSo10b
import Derived.Test.YtomjiephbacocaaDoorA6
namespace Go.Proofs.YtomjiephbacocaaDoor
open Go.RowKit

/-- Are two names the same? -/
def smN (a b : ByteArray) : Bool := may a && may b && decide (foldB a = foldB b)
set_option maxRecDepth 100000 in
set_option maxHeartbeats 8000000 in
theorem rsame_any (a b : ByteArray) (w : World) (ha : a.size ≤ 1000000) (hb : b.size ≤ 1000000) : Calls Tryd.prog 39 #[.string a, .string b] w fun e w' => e = .returned (.bool (smN a b)) ∧ w.grownBy w' none := by
  go_enter Tryd.func39, Tryd.ntmps39
  go_wp2_with fail
  refine (rmay_any a w ha).mono ?_
  rintro e w1 ⟨rfl, h1⟩
  by_cases hm : may a = true
  · rw [hm]
    go_wp2_with fail
    refine (rmay_any b w1 hb).mono ?_
    rintro e w2 ⟨rfl, h2⟩
    by_cases hm2 : may b = true
    · rw [hm2]
      have HW := Lib.hid (show smN a b = decide (foldB a = foldB b) by unfold smN; rw [hm, hm2]; simp)
      go_wp2_with fail
      refine (rfold_any a w2 (by omega)).mono ?_
      rintro e w3 ⟨rfl, h3⟩
      go_wp2_with fail
      refine (rfold_any b w3 (by omega)).mono ?_
      rintro e w4 ⟨rfl, h4⟩
      have G := Lib.hid (gtrans h1 (gtrans h2 (gtrans h3 h4)))
      by_cases hq : foldB a = foldB b
      · have k2 : ((foldB a).toList == (foldB b).toList) = true := by rw [hq]; simp
        have hd : decide (foldB a = foldB b) = true := decide_eq_true hq
        rw [hd] at HW
        clear hd hq
        go_wp2_with fail
        go_ret
        exact ⟨by rw [HW.out]; rfl, G.out⟩
      · have k2 : ((foldB a).toList == (foldB b).toList) = false := by
          refine beq_eq_false_iff_ne.2 fun h => hq ?_
          rw [ByteArray.toList_eq, ByteArray.toList_eq] at h
          exact ByteArray.ext (Array.toList_inj.1 h)
        have hd : decide (foldB a = foldB b) = false := decide_eq_false hq
        rw [hd] at HW
        clear hd hq
        go_wp2_with fail
        go_ret
        exact ⟨by rw [HW.out]; rfl, G.out⟩
    · have hz' : may b = false := by simpa using hm2
      have HW := Lib.hid (show smN a b = false by unfold smN; rw [hz']; simp)
      rw [hz']
      go_wp2_with fail
      go_ret
      exact ⟨by rw [HW.out]; rfl, gtrans h1 h2⟩
  · have hn' : may a = false := by simpa using hm
    have HW := Lib.hid (show smN a b = false by unfold smN; rw [hn']; simp)
    rw [hn']
    go_wp2_with fail
    go_ret
    exact ⟨by rw [HW.out]; rfl, h1⟩
end Go.Proofs.YtomjiephbacocaaDoor
