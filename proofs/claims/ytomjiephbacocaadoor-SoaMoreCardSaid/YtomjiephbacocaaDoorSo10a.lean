/-
  Soa: the walks of names: Parent, labels, Labels, Within.
-/
import Derived.Test.YtomjiephbacocaaDoorSoNum
import Derived.Test.YtomjiephbacocaaDoorA6
import Derived.Test.YtomjiephbacocaaDoorA5
namespace Go.Proofs.YtomjiephbacocaaDoor
open Go.RowKit

set_option maxRecDepth 100000 in
set_option maxHeartbeats 8000000 in
theorem nparent_any (n : ByteArray) (w : World) : Calls Tryd.prog 19 #[.string n] w fun e w' => e = .returned (.tuple #[.string (upN n), .bool (isUp n)]) ∧ w = w' := by
  go_enter Tryd.func19, Tryd.ntmps19
  go_wp2_with fail
  refine (may_any n w).mono ?_
  rintro e w1 ⟨rfl, rfl⟩
  by_cases hn : may n = true
  · by_cases h1 : n.size = 1
    · have hr := (root_iff hn).2 h1
      have k0 : (n.toList == [0]) = true := by rw [hr, ByteArray.toList_eq]; rfl
      have e1 : upN n = ⟨#[]⟩ := if_neg (fun h => h.2 h1)
      have e2 : isUp n = false := by unfold isUp; rw [hn]; simp [h1]
      rw [hn]
      clear hr
      go_wp2_with fail
      go_ret2
      exact ⟨by rw [e1, e2]; rfl, rfl⟩
    · have hs := may_scan hn
      have hp := scan_lt hs.2
      have hg := (bt_get n 0 hp).symm
      have hb := scan_go hs.2 (by omega)
      have hq := scan_lt hb.2.2
      have k0 : (n.toList == [0]) = false := by
        refine beq_eq_false_iff_ne.2 fun h => h1 ?_
        have := congrArg List.length h
        rwa [ByteArray.toList_eq, nlen] at this
      have HE1 := Lib.hid (show upN n = n.extract (1 + bt n 0) n.size from if_pos ⟨hn, h1⟩)
      have e2 : isUp n = true := by unfold isUp; rw [hn]; simp [h1]
      rw [hn]
      go_wp2_with fail
      go_ret2
      exact ⟨by rw [HE1.out, e2]; rfl, rfl⟩
  · have hn' : may n = false := by simpa using hn
    have e1 : upN n = ⟨#[]⟩ := if_neg (fun h => hn h.1)
    have e2 : isUp n = false := by unfold isUp; rw [hn']; rfl
    rw [hn']
    go_wp2_with fail
    go_ret2
    exact ⟨by rw [e1, e2]; rfl, rfl⟩

set_option maxRecDepth 100000 in
set_option maxHeartbeats 8000000 in
theorem nwithin_any (n z : ByteArray) (w : World) : Calls Tryd.prog 41 #[.string n, .string z] w fun e w' => e = .returned (.bool (wiN n z)) ∧ w.grownBy w' none := by
  go_enter Tryd.func41, Tryd.ntmps41
  go_wp2_with fail
  refine (may_any n w).mono ?_
  rintro e w1 ⟨rfl, rfl⟩
  by_cases hn : may n = true
  · rw [hn]
    go_wp2_with fail
    refine (may_any z w).mono ?_
    rintro e w1 ⟨rfl, rfl⟩
    by_cases hz : may z = true
    · rw [hz]
      obtain ⟨hns, hnc⟩ := may_scan hn
      obtain ⟨hzs, hzc⟩ := may_scan hz
      have hz0 := scan_lt hzc
      have HW := Lib.hid (show wiN n z = (decide ((wn n ((n.size : Int) - z.size) 0 : Int) = (n.size : Int) - z.size) && decide (lowB (suf n (wn n ((n.size : Int) - z.size) 0)) = lowB z)) by unfold wiN; rw [hn, hz]; simp)
      have HC := Lib.hid hnc
      clear hn hz hnc hzc
      go_wp2_with fail
      go_loop [6] (fun vp => ∃ p : Nat, vp = .int .i64 p ∧ p ≤ n.size ∧ scan n p = true ∧ wn n ((n.size : Int) - z.size) 0 = wn n ((n.size : Int) - z.size) p) (fun vp => n.size - (intOf vp).toNat)
      case atStart => exact ⟨0, rfl, by omega, HC.out, rfl⟩
      case round =>
        obtain ⟨p, rfl, hp, hsc, hwn⟩ := hrel
        have HN := Lib.hid hwn
        clear hwn
        have hp2 := scan_lt hsc
        by_cases hlt : (p : Int) < (n.size : Int) - z.size
        · have k0 : decide ((p : Int) < (n.size : Int) - (z.size : Int)) = true := decide_eq_true hlt
          have hg := (bt_get n p hp2).symm
          obtain ⟨h0, h63, hs2⟩ := scan_go hsc (by omega)
          have HS := Lib.hid hs2
          have hq := scan_lt hs2
          have HN2 := Lib.hid (HN.out.trans (wn_step hlt))
          clear hsc hs2 HN
          go_wp2_with fail
          go_round
          case rel => exact ⟨p + 1 + bt n p, by go_num, by omega, HS.out, HN2.out⟩
          case measure => simp [intOf]; omega
        · have k0 : decide ((p : Int) < (n.size : Int) - (z.size : Int)) = false := decide_eq_false hlt
          have HN2 := Lib.hid (HN.out.trans (wn_end hlt))
          rw [HN2.out] at HW
          clear hsc HN HN2
          by_cases he : (p : Int) = (n.size : Int) - z.size
          · have k1 : ((p : Int) == (n.size : Int) - (z.size : Int)) = true := by simpa using he
            have hd : decide ((p : Int) = (n.size : Int) - z.size) = true := decide_eq_true he
            rw [hd, Bool.true_and] at HW
            have hes : (n.extract p n.size).size ≤ 2000000 := by rw [ByteArray.size_extract]; omega
            have HX := Lib.hid (show n.extract p n.size = suf n p from rfl)
            clear hd he hlt
            go_wp2_with fail
            refine (lower_any _ w hes).mono ?_
            rintro e w2 ⟨rfl, h2⟩
            go_wp2_with fail
            refine (lower_any z w2 (by omega)).mono ?_
            rintro e w3 ⟨rfl, h3⟩
            rw [HX.out]
            by_cases hq : lowB (suf n p) = lowB z
            · have k2 : ((lowB (suf n p)).toList == (lowB z).toList) = true := by rw [hq]; simp
              have hd : decide (lowB (suf n p) = lowB z) = true := decide_eq_true hq
              rw [hd] at HW
              clear hd hq
              go_wp2_with fail
              go_ret
              exact ⟨by rw [HW.out]; rfl, gtrans h2 h3⟩
            · have k2 : ((lowB (suf n p)).toList == (lowB z).toList) = false := by
                refine beq_eq_false_iff_ne.2 fun h => hq ?_
                rw [ByteArray.toList_eq, ByteArray.toList_eq] at h
                exact ByteArray.ext (Array.toList_inj.1 h)
              have hd : decide (lowB (suf n p) = lowB z) = false := decide_eq_false hq
              rw [hd] at HW
              clear hd hq
              go_wp2_with fail
              go_ret
              exact ⟨by rw [HW.out]; rfl, gtrans h2 h3⟩
          · have k1 : ((p : Int) == (n.size : Int) - (z.size : Int)) = false := by simpa using he
            have hd : decide ((p : Int) = (n.size : Int) - z.size) = false := decide_eq_false he
            rw [hd, Bool.false_and] at HW
            clear hd he hlt
            go_wp2_with fail
            go_ret
            exact ⟨by rw [HW.out]; rfl, grefl _ _⟩
    · have hz' : may z = false := by simpa using hz
      have HW := Lib.hid (show wiN n z = false by unfold wiN; rw [hz']; simp)
      rw [hz']
      go_wp2_with fail
      go_ret
      exact ⟨by rw [HW.out]; rfl, grefl _ _⟩
  · have hn' : may n = false := by simpa using hn
    have HW := Lib.hid (show wiN n z = false by unfold wiN; rw [hn']; simp)
    rw [hn']
    go_wp2_with fail
    go_ret
    exact ⟨by rw [HW.out]; rfl, grefl _ _⟩
end Go.Proofs.YtomjiephbacocaaDoor
