/-
  Soa: for how long a set tells, by the document.
-/
import Derived.Test.YtomjiephbacocaaDoorSo10l
namespace Go.Proofs.YtomjiephbacocaaDoor
open Go.RowKit

set_option maxRecDepth 100000 in
set_option maxHeartbeats 16000000 in
theorem rtime_any (x : St) (w : World) (hx : StW w x) (hd : ∀ s ∈ x.data, s.size ≤ 1000000) : Calls Tryd.prog 15 #[x.val] w fun e w' => e = .returned (.int .u32 (tmF x : Int)) ∧ w.grownBy w' none := by
  obtain ⟨A, cap, hv, _⟩ := hx.shape
  unfold StW at hx
  have HT := Lib.hid (show ∀ y, y = x → tmF x = match y.data with | [d] => if y.kind = 6 ∧ mayD 6 d = true then min (clp y.ttl) (clp (num d (d.size - 4) 4)) else 0 | _ => 0 from fun y e => by rw [e]; rfl)
  obtain ⟨nm, kd, cl, tt, vd, dat⟩ := x
  simp only at hv hx hd
  subst hv
  have HX := Lib.hid hx
  clear hx
  unfold St.val
  by_cases hk : kd = 6
  · have k0 : ((kd : Int) != 6) = false := by simp; omega
    by_cases hl : dat.length = 1
    · obtain ⟨d, rfl⟩ : ∃ d, dat = [d] := List.length_eq_one_iff.1 hl
      obtain ⟨b, off, rfl, _, _, c0⟩ := sl_str HX.out (show 0 < [d].length by simp)
      have C0 := Lib.hid (show w.cell? ⟨b, off, none⟩ = some (.string d) from c0)
      have hds := hd d (by simp)
      have d0 := cell_lt c0
      clear c0 hd hl
      have HM := Lib.hid (fun w' (g : w.grownBy w' none) => rmayd_any 6 d w' hds)
      have HV := Lib.hid (show ∀ v, tmF ⟨nm, kd, cl, tt, v, [d]⟩ = tmF ⟨nm, kd, cl, tt, .slice (some ⟨b, off, none⟩) [d].length cap, [d]⟩ from fun v => rfl)
      cases hm : mayD 6 d with
      | true =>
        have hsz := soa_size hm
        have HR := Lib.hid (show ∀ v, tmF ⟨nm, kd, cl, tt, v, [d]⟩ = min (clp tt) (clp (be (d.extract (d.size - 4) d.size).data.toList)) from fun v => by
          rw [HV.out, HT.out _ rfl, ← num_be d (by omega)]
          exact if_pos ⟨hk, hm⟩)
        rw [hm] at HM
        have hl4 : (d.extract (d.size - 4) d.size).size = 4 := by simp; omega
        clear hm hk HT
        have c0 : ∀ o : Obj, (w.alloc o).cell? ⟨b, off, none⟩ = some (.string d) := fun o => (galloc (grefl w none) o).cell C0.out (by simp)
        go_enter Tryd.func15, Tryd.ntmps15
        go_wp2_with fail
        refine (HM.out _ (galloc (grefl _ _) _)).mono ?_
        rintro e w1 ⟨rfl, hg⟩
        have HG := Lib.hid (gfr1 hg)
        have c1 : w1.cell? ⟨b, off, none⟩ = some (.string d) := hg.cell (c0 _) (by simp)
        have m4 : w1.cell? ⟨w.heap.size, 4, none⟩ = some (.slice (some ⟨b, off, none⟩) 1 cap) := bcellAt (gblock hg (balloc w _) (by simp)) 4
        have HQ := Lib.hid hg
        clear hg c0
        have m3 : w1.cell? ⟨w.heap.size, 3, none⟩ = some (.int .u32 (tt : Int)) := bcellAt (gblock HQ.out (balloc w _) (by simp)) 3
        clear HQ hl4 k0
        have HNum := Lib.hid (show be (d.extract (d.size - 4) d.size).data.toList = num d (d.size - 4) 4 from (num_be d (by omega)).symm)
        rw [HNum.out] at HR
        go_wp2_with fail
        clear c1 m4
        have HM3 := Lib.hid m3
        clear m3
        go_loop [4, 5] (fun v i => ∃ k : Nat, k ≤ 4 ∧ i = .int .i64 ((d.size : Int) - 4 + k) ∧ v = .int .u32 (num d (d.size - 4) k)) (fun _ i => d.size - (intOf i).toNat)
        case atStart => exact ⟨0, by omega, by congr 1; omega, rfl⟩
        case round =>
          obtain ⟨k, hk, rfl, rfl⟩ := hrel
          by_cases hlt : k < 4
          · have hks : d.size - 4 + k < d.size := by omega
            have hx : num d (d.size - 4) k < 16777216 := by
              refine Nat.lt_of_lt_of_le (num_lt _ _ _) ?_
              rw [show (16777216 : Nat) = 256 ^ 3 by rfl]
              exact Nat.pow_le_pow_right (by omega) (by omega)
            have HK := Lib.hid (show num d (d.size - 4) (k + 1) = num d (d.size - 4) k * 256 + d[d.size - 4 + k].toNat by
              unfold num
              rw [List.take_succ_eq_append_getElem (by rw [List.length_drop, nlen]; omega), be_snoc]
              simp
              rfl)
            have l1 := d[d.size - 4 + k].toNat_lt
            have p0 : decide ((d.size : Int) - 4 + (k : Int) < (d.size : Int)) = true := by simp; omega
            have HI := Lib.hid (show d[((d.size : Int) - 4 + (k : Int)).toNat]'(by omega) = d[d.size - 4 + k] by congr 1; omega)
            generalize num d (d.size - 4) k = X at *
            go_wp2_with fail
            go_round
            case rel => exact ⟨k + 1, by omega, by congr 1; omega, by rw [HK.out]; congr 1⟩
            case measure => simp [intOf]; omega
          · obtain rfl : k = 4 := by omega
            have m3 := HM3.out
            have p0 : decide ((d.size : Int) - 4 + ((4 : Nat) : Int) < (d.size : Int)) = false := decide_eq_false (by omega)
            generalize num d (d.size - 4) 4 = X at *
            go_wp2_with fail
            all_goals
              go_ret
              refine ⟨?_, HG.out⟩
              rw [HR.out]
              refine ret_int ?_
              unfold clp
              repeat' split
              all_goals omega
      | false =>
        have HR := Lib.hid (show ∀ v, tmF ⟨nm, kd, cl, tt, v, [d]⟩ = 0 from fun v => by rw [HV.out, HT.out _ rfl]; exact if_neg (fun h => by rw [hm] at h; cases h.2))
        rw [hm] at HM
        clear hm hk HT
        have c0 : ∀ o : Obj, (w.alloc o).cell? ⟨b, off, none⟩ = some (.string d) := fun o => (galloc (grefl w none) o).cell C0.out (by simp)
        go_enter Tryd.func15, Tryd.ntmps15
        go_wp2_with fail
        refine (HM.out _ (galloc (grefl _ _) _)).mono ?_
        rintro e w1 ⟨rfl, hg⟩
        have HG := Lib.hid (gfr1 hg)
        clear hg c0
        go_wp2_with fail
        go_ret
        exact ⟨by rw [HR.out]; rfl, HG.out⟩
    · have HR := Lib.hid (show tmF ⟨nm, kd, cl, tt, .slice A dat.length cap, dat⟩ = 0 by
        rw [HT.out _ rfl]
        match dat, hl with
        | [], _ => rfl
        | [d], h => exact absurd rfl h
        | _ :: _ :: _, _ => rfl)
      have k1 : ((dat.length : Int) != 1) = true := by simp; omega
      clear hk hl HT hd
      go_enter Tryd.func15, Tryd.ntmps15
      go_wp2_with fail
      go_ret
      exact ⟨by rw [HR.out]; rfl, galloc (grefl _ _) _⟩
  · have k0 : ((kd : Int) != 6) = true := by simp; omega
    have HR := Lib.hid (show tmF ⟨nm, kd, cl, tt, .slice A dat.length cap, dat⟩ = 0 by
      rw [HT.out _ rfl]
      simp only
      split
      · exact if_neg (fun h => hk h.1)
      · rfl)
    clear hk HT hd
    go_enter Tryd.func15, Tryd.ntmps15
    go_wp2_with fail
    go_ret
    exact ⟨by rw [HR.out]; rfl, galloc (grefl _ _) _⟩
end Go.Proofs.YtomjiephbacocaaDoor
