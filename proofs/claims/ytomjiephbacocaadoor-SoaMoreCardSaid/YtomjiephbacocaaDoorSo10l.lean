/-
  Soa: for how long a set tells: Time, the program's and the document's.
-/
import Derived.Test.YtomjiephbacocaaDoorSo10k
import Derived.Test.YtomjiephbacocaaDoorDaLaw
namespace Go.Proofs.YtomjiephbacocaaDoor
open Go.RowKit

/-- For how long a set tells. -/
def tmF (x : St) : Nat := match x.data with
  | [d] => if x.kind = 6 ∧ mayD 6 d = true then min (clp x.ttl) (clp (num d (d.size - 4) 4)) else 0
  | _ => 0
theorem soa_parts {d : ByteArray} (h : mayD 6 d = true) : ∃ a b x : ByteArray, may a = true ∧ may b = true ∧ x.size = 20 ∧ d.data.toList = a.data.toList ++ b.data.toList ++ x.data.toList := by
  unfold mayD at h
  obtain ⟨l, hl⟩ := Option.isSome_iff_exists.1 h
  obtain ⟨h1, h2, _⟩ := wh_good hl
  obtain ⟨_, hf⟩ := spl_fit (Nat.zero_le _) h1
  rw [show cks 6 = [.nam, .nam, .num 20] from rfl] at hf
  match l, hf with
  | [x, y, z], ⟨hx, hy, hz, _⟩ =>
    refine ⟨x.text, y.text, z.text, hx.1, hy.1, hz.1, ?_⟩
    rw [← h2]
    simp [tx]
theorem soa_size {d : ByteArray} (h : mayD 6 d = true) : 20 ≤ d.size := by
  obtain ⟨a, b, x, _, _, hx, e⟩ := soa_parts h
  have := congrArg List.length e
  rw [List.length_append, List.length_append, nlen, nlen, nlen, nlen] at this
  omega
theorem soa_may {a b x : ByteArray} (ha : may a = true) (hb : may b = true) (hx : x.size = 20) : mayD 6 ⟨(a.data.toList ++ b.data.toList ++ x.data.toList).toArray⟩ = true := by
  have := wh_clear (kind := 6) (l := [⟨a, true, 0⟩, ⟨b, true, 0⟩, ⟨x, false, 0⟩]) (by decide) (by rw [show cks 6 = [.nam, .nam, .num 20] from rfl]; exact ⟨⟨ha, rfl⟩, ⟨hb, rfl⟩, ⟨hx, rfl⟩, trivial⟩)
  unfold mayD
  rw [show (tx [⟨a, true, 0⟩, ⟨b, true, 0⟩, ⟨x, false, 0⟩]) = a.data.toList ++ b.data.toList ++ x.data.toList by simp [tx]] at this
  rw [this]
  rfl
theorem slb_string (w : World) (s : ByteArray) (cap : Nat) (hc : s.size ≤ cap) : SlB (w.drew.alloc (.cells (bytesRow s cap) 5 ((bytesRow s cap).size, (bytesRow s cap).size + 1))) (.slice (some ⟨w.heap.size, 0, none⟩) s.size cap) s.data.toList := by
  have hb : (w.drew.alloc (.cells (bytesRow s cap) 5 ((bytesRow s cap).size, (bytesRow s cap).size + 1))).heap[w.heap.size]? = some _ := balloc w.drew (.cells (bytesRow s cap) 5 ((bytesRow s cap).size, (bytesRow s cap).size + 1))
  refine ⟨_, cap, by rw [nlen], by rw [nlen]; exact hc, by simp, fun ad had j u hu => ?_⟩
  cases had
  rw [Addr.add_lit, Nat.zero_add, bcellAt hb, ← Array.getElem?_toList]
  have e : (bytesRow s cap).toList = bv s.data.toList ++ List.replicate (cap - s.size) (.int .u8 0) := by simp [bytesRow, bv]
  rw [e, List.getElem?_append_left (by have := (List.getElem?_eq_some_iff.1 hu).1; exact this)]
  exact hu
theorem num_be (d : ByteArray) (h : 4 ≤ d.size) : num d (d.size - 4) 4 = be (d.extract (d.size - 4) d.size).data.toList := by
  unfold num
  rw [Lib.extract_data]
  rw [show d.size - (d.size - 4) = 4 by omega]

set_option maxRecDepth 100000 in
set_option maxHeartbeats 16000000 in
theorem stime_any (x : St) (w : World) (he : Et w) (hx : StW w x) (hd : ∀ s ∈ x.data, s.size ≤ 1000000) : Calls Tryd.prog 14 #[x.val] w fun e w' => e = .returned (.int .u32 (tmF x : Int)) ∧ w.grownBy w' none := by
  obtain ⟨A, cap, hv, _⟩ := hx.shape
  have HE := Lib.hid he
  unfold StW at hx
  have HT := Lib.hid (show ∀ y, y = x → tmF x = match y.data with | [d] => if y.kind = 6 ∧ mayD 6 d = true then min (clp y.ttl) (clp (num d (d.size - 4) 4)) else 0 | _ => 0 from fun y e => by rw [e]; rfl)
  obtain ⟨nm, kd, cl, tt, vd, dat⟩ := x
  simp only at hv hx hd
  subst hv
  have HX := Lib.hid hx
  clear hx he
  unfold St.val
  by_cases hk : kd = 6
  · have k0 : ((kd : Int) != 6) = false := by simp; omega
    by_cases hl : dat.length = 1
    · obtain ⟨d, rfl⟩ : ∃ d, dat = [d] := List.length_eq_one_iff.1 hl
      obtain ⟨b, off, rfl, _, _, c0⟩ := sl_str HX.out (show 0 < [d].length by simp)
      have C0 := Lib.hid (show w.cell? ⟨b, off, none⟩ = some (.string d) from c0)
      have hds := hd d (by simp)
      have d0 := cell_lt c0
      clear c0 hd hl
      have HM := Lib.hid (fun w' (g : w.grownBy w' none) => mayd_any 6 d w' (HE.out.kept g (by simp)) hds)
      have HV := Lib.hid (show ∀ v, tmF ⟨nm, kd, cl, tt, v, [d]⟩ = tmF ⟨nm, kd, cl, tt, .slice (some ⟨b, off, none⟩) [d].length cap, [d]⟩ from fun v => rfl)
      cases hm : mayD 6 d with
      | true =>
        have hsz := soa_size hm
        have HR := Lib.hid (show ∀ v, tmF ⟨nm, kd, cl, tt, v, [d]⟩ = min (clp tt) (clp (be (d.extract (d.size - 4) d.size).data.toList)) from fun v => by
          rw [HV.out, HT.out _ rfl, ← num_be d (by omega)]
          exact if_pos ⟨hk, hm⟩)
        rw [hm] at HM
        have hl4 : (d.extract (d.size - 4) d.size).size = 4 := by simp; omega
        clear hm hk HT
        have c0 : ∀ o : Obj, (w.alloc o).cell? ⟨b, off, none⟩ = some (.string d) := fun o => (galloc (grefl w none) o).cell C0.out (by simp)
        go_enter Tryd.func14, Tryd.ntmps14
        go_wp2_with fail
        refine (HM.out _ (galloc (grefl _ _) _)).mono ?_
        rintro e w1 ⟨rfl, hg⟩
        have HG := Lib.hid (gfr1 hg)
        have c1 : w1.cell? ⟨b, off, none⟩ = some (.string d) := hg.cell (c0 _) (by simp)
        have m4 : w1.cell? ⟨w.heap.size, 4, none⟩ = some (.slice (some ⟨b, off, none⟩) 1 cap) := bcellAt (gblock hg (balloc w _) (by simp)) 4
        have HQ := Lib.hid hg
        clear hg c0
        have m3 : w1.cell? ⟨w.heap.size, 3, none⟩ = some (.int .u32 (tt : Int)) := bcellAt (gblock HQ.out (balloc w _) (by simp)) 3
        have hcv := run_bytes_of_string (P := Tryd.prog) w1 9 40 5 (d.extract (d.size - 4) d.size) Tryd.underlying9 Tryd.underlying40 Tryd.underlying5
        have HS := Lib.hid (slb_string w1 (d.extract (d.size - 4) d.size) _ (grownCap_ge w1 (d.extract (d.size - 4) d.size).size 0 5))
        have HG2 := Lib.hid (galloc (gdrew (grefl w1 none)) (.cells (bytesRow (d.extract (d.size - 4) d.size) (grownCap w1 (d.extract (d.size - 4) d.size).size 0 5)) 5 ((bytesRow (d.extract (d.size - 4) d.size) (grownCap w1 (d.extract (d.size - 4) d.size).size 0 5)).size, (bytesRow (d.extract (d.size - 4) d.size) (grownCap w1 (d.extract (d.size - 4) d.size).size 0 5)).size + 1)))
        have M3 := Lib.hid m3
        clear m3 HQ
        generalize hcw : (w1.drew.alloc (.cells (bytesRow (d.extract (d.size - 4) d.size) (grownCap w1 (d.extract (d.size - 4) d.size).size 0 5)) 5 ((bytesRow (d.extract (d.size - 4) d.size) (grownCap w1 (d.extract (d.size - 4) d.size).size 0 5)).size, (bytesRow (d.extract (d.size - 4) d.size) (grownCap w1 (d.extract (d.size - 4) d.size).size 0 5)).size + 1))) = wa at *
        generalize grownCap w1 (d.extract (d.size - 4) d.size).size 0 5 = cap0 at *
        clear hcw
        go_wp2_with fail
        clear hcv k0 c1 m4
        have m3 := HG2.out.cell M3.out (by simp)
        have HG3 := Lib.hid (gtrans HG.out HG2.out)
        have H4 := Lib.hid hl4
        clear hl4 M3 HG2
        generalize d.extract (d.size - 4) d.size = s at *
        have HM3 := Lib.hid m3
        clear m3
        go_loop [4, 35] (fun v i => ∃ k : Nat, k ≤ 4 ∧ i = .int .i64 k ∧ v = .int .u32 (be (s.data.toList.take k))) (fun _ i => 4 - (intOf i).toNat)
        case atStart => exact ⟨0, by omega, rfl, rfl⟩
        case round =>
          obtain ⟨k, hk, rfl, rfl⟩ := hrel
          by_cases hlt : k < 4
          · have hks : k < s.size := by rw [H4.out]; exact hlt
            have hx : be (s.data.toList.take k) < 16777216 := by
              refine Nat.lt_of_lt_of_le (be_lt _) ?_
              rw [show (16777216 : Nat) = 256 ^ 3 by rfl]
              refine Nat.pow_le_pow_right (by omega) ?_
              simp; omega
            have ho := shift_or (be (s.data.toList.take k)) s[k].toNat hx s[k].toNat_lt
            rw [show ((s[k].toNat : Int) % 4294967296) = (s[k].toNat : Int) by have := s[k].toNat_lt; omega] at ho
            have HO := Lib.hid ho
            clear ho
            have HK := Lib.hid (show be (s.data.toList.take (k + 1)) = be (s.data.toList.take k) * 256 + s[k].toNat by rw [take_snoc s k hks, be_snoc])
            obtain ⟨c0⟩ : Nonempty (wa.cell? ⟨w1.heap.size, k, none⟩ = some (.int .u8 (s[k].toNat : Int))) := ⟨by
              obtain ⟨A', cap', e, _, _, hc⟩ := HS.out
              simp only [Value.slice.injEq] at e
              obtain ⟨rfl, _, _⟩ := e
              have := hc _ rfl k _ (bv_get s.data.toList k (by rw [nlen]; exact hks))
              rw [Addr.add_lit, Nat.zero_add] at this
              rw [this]; rfl⟩
            have l1 := s[k].toNat_lt
            have p0 : (0 : Int) ≤ (k : Int) := by omega
            have p1 : (k : Int) < 4 := by omega
            clear hx
            generalize s[k].toNat = c at *
            generalize be (s.data.toList.take k) = X at *
            go_wp2
            go_round
            case rel => exact ⟨k + 1, by omega, by go_num, by rw [HO.out, HK.out]⟩
            case measure => simp [intOf]; omega
          · obtain rfl : k = 4 := by omega
            have m3 := HM3.out
            have HN := Lib.hid (show be (s.data.toList.take 4) = be s.data.toList by rw [List.take_of_length_le (by rw [nlen, H4.out]; exact Nat.le_refl _)])
            rw [← HN.out] at HR
            generalize be (s.data.toList.take 4) = X at *
            clear HN
            go_wp2_with fail
            refine (clamped_any tt wa).mono ?_
            rintro e w2 ⟨rfl, rfl⟩
            go_wp2_with fail
            refine (clamped_any X wa).mono ?_
            rintro e w2 ⟨rfl, rfl⟩
            generalize clp tt = a at *
            generalize clp X = b at *
            go_wp2_with fail
            all_goals
              go_ret
              refine ⟨?_, HG3.out⟩
              rw [HR.out]
              exact ret_int (by omega)
      | false =>
        have HR := Lib.hid (show ∀ v, tmF ⟨nm, kd, cl, tt, v, [d]⟩ = 0 from fun v => by rw [HV.out, HT.out _ rfl]; exact if_neg (fun h => by rw [hm] at h; cases h.2))
        rw [hm] at HM
        clear hm hk HT
        have c0 : ∀ o : Obj, (w.alloc o).cell? ⟨b, off, none⟩ = some (.string d) := fun o => (galloc (grefl w none) o).cell C0.out (by simp)
        go_enter Tryd.func14, Tryd.ntmps14
        go_wp2_with fail
        refine (HM.out _ (galloc (grefl _ _) _)).mono ?_
        rintro e w1 ⟨rfl, hg⟩
        have HG := Lib.hid (gfr1 hg)
        clear hg c0
        go_wp2_with fail
        go_ret
        exact ⟨by rw [HR.out]; rfl, HG.out⟩
    · have HR := Lib.hid (show tmF ⟨nm, kd, cl, tt, .slice A dat.length cap, dat⟩ = 0 by
        rw [HT.out _ rfl]
        match dat, hl with
        | [], _ => rfl
        | [d], h => exact absurd rfl h
        | _ :: _ :: _, _ => rfl)
      have k1 : ((dat.length : Int) != 1) = true := by simp; omega
      clear hk hl HT hd
      go_enter Tryd.func14, Tryd.ntmps14
      go_wp2_with fail
      go_ret
      exact ⟨by rw [HR.out]; rfl, galloc (grefl _ _) _⟩
  · have k0 : ((kd : Int) != 6) = true := by simp; omega
    have HR := Lib.hid (show tmF ⟨nm, kd, cl, tt, .slice A dat.length cap, dat⟩ = 0 by
      rw [HT.out _ rfl]
      simp only
      split
      · exact if_neg (fun h => hk h.1)
      · rfl)
    clear hk HT hd
    go_enter Tryd.func14, Tryd.ntmps14
    go_wp2_with fail
    go_ret
    exact ⟨by rw [HR.out]; rfl, galloc (grefl _ _) _⟩
end Go.Proofs.YtomjiephbacocaaDoor
