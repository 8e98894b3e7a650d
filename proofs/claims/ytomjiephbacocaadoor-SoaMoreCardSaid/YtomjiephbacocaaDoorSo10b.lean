/-
  Soa: the walks of labels, and of a time's clamp.
-/
import Derived.Test.YtomjiephbacocaaDoorSo10a
namespace Go.Proofs.YtomjiephbacocaaDoor
open Go.RowKit

set_option maxRecDepth 100000 in
set_option maxHeartbeats 8000000 in
theorem nlabs_any (s : ByteArray) (w : World) (hm : may s = true) : Calls Tryd.prog 37 #[.string s] w fun e w' => ∃ v, e = .returned v ∧ w.grownBy w' none ∧ w'.ownsRow w.heap.size 9 1 v (lbs s 0).length (strs (lbs s 0)) := by
  obtain ⟨i2, i2h, i2z, i2s, i2b⟩ := info_parts Tryd.infoS
  have HM := Lib.hid (may_scan hm)
  have hs := HM.out.1
  clear hm
  go_enter Tryd.func37, Tryd.ntmps37
  go_wp2_with fail
  go_loopw [3, 4] (fun vo vp wr => ∃ (p : Nat) (xs : List ByteArray), vp = .int .i64 p ∧ scan s p = true ∧ xs.length ≤ p ∧ w.grownBy wr none ∧ wr.ownsRow w.heap.size 9 1 vo xs.length (strs xs) ∧ lbs s 0 = xs ++ lbs s p) (fun _ vp _ => s.size - (intOf vp).toNat)
  case atStart => exact ⟨0, [], rfl, HM.out.2, by simp, grefl _ _, World.ownsRow_nil _ _ _ _, rfl⟩
  case round =>
    obtain ⟨p, xs, rfl, hsc, hnp, hgr, hown, hr⟩ := hrel
    have HR := Lib.hid hr
    have HG := Lib.hid hgr
    have HO := Lib.hid hown
    have HS := Lib.hid hsc
    have hlt := scan_lt hsc
    obtain ⟨A, cap, rfl, hcap, hcm⟩ := own_shape hown
    unfold maxLen at hcm
    clear hr hgr hown hsc
    have hg := (bt_get s p hlt).symm
    have hb := bt_lt s p
    have l1 := s[p].toNat_lt
    by_cases hz : bt s p = 0
    · have z0 : (((bt s p : Nat) : Int) != 0) = false := by simp; omega
      have HL := Lib.hid (show lbs s 0 = xs by rw [HR.out, lbs_end hz, List.append_nil])
      go_wp2_with fail
      go_ret
      exact ⟨.slice A xs.length cap, rfl, HG.out, by rw [HL.out]; exact HO.out⟩
    · have z0 : (((bt s p : Nat) : Int) != 0) = true := by simp; omega
      have hp1 : p + 1 < s.size := by
        by_cases h : p + 1 < s.size
        · exact h
        · have hq := HS.out
          by_cases hb2 : bt s p ≤ 63
          · rw [scan_step hlt hz hb2, scan_out (by omega)] at hq; cases hq
          · rw [scan_big hlt (by omega)] at hq; cases hq
      obtain ⟨_, h63, hs2⟩ := scan_go HS.out hp1
      have hfit := scan_lt hs2
      have HS2 := Lib.hid hs2
      have HN := Lib.hid (show lbs s 0 = (xs ++ [s.extract (p + 1) (p + 1 + bt s p)]) ++ lbs s (p + 1 + bt s p) by rw [HR.out, lbs_step hlt hz, List.append_assoc]; rfl)
      clear hs2 HS HR
      go_wp2_with (at_builtin; refine wpList_append_own_at _ rfl (.tmp 17) (.tmp 23) 25 rfl w.heap.size 9 i2 _ 1 16 Tryd.underlying25 i2h i2z i2s i2b rfl (by decide) _ xs.length (strs xs) rfl (own_kept0 HO.out (galloc (grefl _ none) _)) ⟨_, 0, none⟩ 1 1 [.string (s.extract (p + 1) (p + 1 + bt s p))] rfl rfl (cell_one_new _ _ _) (by intro u hu; simp at hu; subst hu; rfl) (by unfold maxLen; omega) (by omega) (by have := HG.out.size; simp; omega) ?_)
      intro v6 w6 ho6 hg6 _ _
      have G6 := Lib.hid (show w.grownBy w6 none from gstep HG.out (gfr1 hg6) (fun r e => (World.ownsRow.lt HO.out r e).1))
      have O6 := Lib.hid ho6
      obtain ⟨A6, c6, rfl, _, _⟩ := own_shape ho6
      clear ho6 hg6
      go_wp2_with fail
      go_roundw
      case rel => exact ⟨p + 1 + bt s p, xs ++ [s.extract (p + 1) (p + 1 + bt s p)], by go_num, HS2.out, by simp; omega, G6.out, by simpa [strs] using O6.out, HN.out⟩
      case measure => simp [intOf]; omega

/-- How many labels a name has. -/
def nlb (s : ByteArray) : Nat := if may s = true then (lbs s 0).length else 0
set_option maxRecDepth 100000 in
set_option maxHeartbeats 8000000 in
theorem nLabels_any (s : ByteArray) (w : World) : Calls Tryd.prog 30 #[.string s] w fun e w' => ∃ A c, e = .returned (.slice A (nlb s) c) ∧ w.grownBy w' none := by
  go_enter Tryd.func30, Tryd.ntmps30
  go_wp2_with fail
  refine (may_any s w).mono ?_
  rintro e w1 ⟨rfl, rfl⟩
  by_cases hm : may s = true
  · have HL := Lib.hid (show nlb s = (lbs s 0).length from if_pos hm)
    have HK := Lib.hid (nlabs_any s w hm)
    rw [hm]
    go_wp2_with fail
    refine HK.out.mono ?_
    rintro e w2 ⟨v, rfl, hg, ho⟩
    obtain ⟨A, c, rfl, _, _⟩ := own_shape ho
    clear ho
    go_wp2_with fail
    go_ret
    exact ⟨A, c, by rw [HL.out]; rfl, hg⟩
  · have HL := Lib.hid (show nlb s = 0 from if_neg hm)
    have hm' : may s = false := by simpa using hm
    rw [hm']
    go_wp2_with fail
    go_ret
    exact ⟨none, 0, by rw [HL.out]; rfl, grefl _ _⟩

set_option maxRecDepth 100000 in
set_option maxHeartbeats 8000000 in
theorem lblabels_any (s : ByteArray) (w : World) : Calls Tryd.prog 20 #[.string s] w fun e w' => e = .returned (.int .i64 (nlb s : Int)) ∧ w.grownBy w' none := by
  go_enter Tryd.func20, Tryd.ntmps20
  go_wp2_with fail
  refine (nLabels_any s w).mono ?_
  rintro e w1 ⟨A, c, rfl, hg⟩
  go_wp2_with fail
  go_ret
  exact ⟨rfl, hg⟩

set_option maxRecDepth 100000 in
set_option maxHeartbeats 8000000 in
theorem rblabels_any (s : ByteArray) (w : World) (hs : s.size ≤ 2000000) (hm : may s = true) : Calls Tryd.prog 23 #[.string s] w fun e w' => e = .returned (.int .i64 (nlb s : Int)) ∧ w.grownBy w' none := by
  have HL := Lib.hid (show nlb s = (lbs s 0).length from if_pos hm)
  go_enter Tryd.func23, Tryd.ntmps23
  go_wp2_with fail
  refine (rlabs_any s w hs).mono ?_
  rintro e w1 ⟨v, rfl, hg, ho⟩
  obtain ⟨A, c, rfl, _, _⟩ := own_shape (ho hm)
  clear ho
  go_wp2_with fail
  go_ret
  exact ⟨by rw [HL.out]; rfl, hg⟩

/-- A TTL, or 0 if it is too great. -/
def clp (t : Nat) : Nat := if 2147483647 < t then 0 else t
set_option maxRecDepth 100000 in
theorem clamped_any (t : Nat) (w : World) : Calls Tryd.prog 28 #[.int .u32 (t : Int)] w fun e w' => e = .returned (.int .u32 (clp t : Int)) ∧ w = w' := by
  by_cases h : 2147483647 < t
  · have k0 : decide ((2147483647 : Int) < (t : Int)) = true := by simp; omega
    have e1 : clp t = 0 := if_pos h
    go_enter Tryd.func28, Tryd.ntmps28
    go_wp2_with fail
    go_ret
    exact ⟨by rw [e1]; rfl, rfl⟩
  · have k0 : decide ((2147483647 : Int) < (t : Int)) = false := by simp; omega
    have e1 : clp t = t := if_neg h
    go_enter Tryd.func28, Tryd.ntmps28
    go_wp2_with fail
    go_ret
    exact ⟨by rw [e1]; rfl, rfl⟩
end Go.Proofs.YtomjiephbacocaaDoor
