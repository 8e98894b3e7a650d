/-
  Soa: hustingsref01.Parent.
-/
import Derived.Test.YtomjiephbacocaaDoorSo10d
import Derived.Test.YtomjiephbacocaaDoorA7
namespace Go.Proofs.YtomjiephbacocaaDoor
open Go.RowKit

theorem lbs_ne {n : ByteArray} (h : may n = true) (h1 : n.size ≠ 1) : lbs n 0 = n.extract 1 (1 + bt n 0) :: lbs n (1 + bt n 0) := by
  have hs := may_scan h
  have hp := scan_lt hs.2
  have hb := scan_go hs.2 (by omega)
  have := lbs_step hp hb.1
  simpa using this
theorem lbs_root {n : ByteArray} (h : may n = true) (h1 : n.size = 1) : lbs n 0 = [] := by
  have := (root_iff h).2 h1
  subst this
  exact lbs_end rfl
theorem up_bytes {n : ByteArray} (h : may n = true) (h1 : n.size ≠ 1) : (⟨(bytesF (lbs n (1 + bt n 0))).toArray⟩ : ByteArray) = upN n := by
  have hs := may_scan h
  have hb := scan_go hs.2 (by have := scan_lt hs.2; omega)
  rw [bytes_lbs _ _ rfl (by simpa using hb.2.2)]
  unfold upN suf
  rw [if_pos ⟨h, h1⟩, exK_eq]
  unfold exK
  rw [List.take_of_length_le (by rw [List.length_drop, nlen]; exact Nat.le_refl _)]

set_option maxRecDepth 100000 in
set_option maxHeartbeats 8000000 in
theorem rparent_any (n : ByteArray) (w : World) (hs : n.size ≤ 1000000) : Calls Tryd.prog 40 #[.string n] w fun e w' => e = .returned (.tuple #[.string (upN n), .bool (isUp n)]) ∧ w.grownBy w' none := by
  go_enter Tryd.func40, Tryd.ntmps40
  go_wp2_with fail
  refine (rlabs_any n w (by omega)).mono ?_
  rintro e w1 ⟨v, rfl, hg, ho⟩
  by_cases hm : may n = true
  · rw [hm]
    by_cases h1 : n.size = 1
    · have HE := Lib.hid (show upN n = ⟨#[]⟩ from if_neg (fun h => h.2 h1))
      have HI := Lib.hid (show isUp n = false by unfold isUp; rw [hm]; simp [h1])
      have ho' := ho hm
      rw [lbs_root hm h1] at ho'
      obtain ⟨A, c, rfl, _, _⟩ := own_shape ho'
      clear ho ho' h1 hm
      go_wp2_with fail
      go_ret2
      exact ⟨by rw [HE.out, HI.out]; rfl, hg⟩
    · have HE := Lib.hid (up_bytes hm h1)
      have HI := Lib.hid (show isUp n = true by unfold isUp; rw [hm]; simp [h1])
      have hsc := may_scan hm
      have HX := Lib.hid (lbs_size (s := n) _ _ rfl (by simpa using (scan_go hsc.2 (by have := scan_lt hsc.2; omega)).2.2 : scan n (1 + bt n 0) = true))
      have hlen := lbs_len (s := n) _ (1 + bt n 0) rfl
      have ho' := ho hm
      rw [lbs_ne hm h1] at ho'
      generalize lbs n (1 + bt n 0) = l at *
      generalize n.extract 1 (1 + bt n 0) = x at *
      obtain ⟨A, c, rfl, hc, _⟩ := own_shape ho'
      have HT := Lib.hid (Sl.tail1 (FS.of ho').sl)
      have hl9 : l.length ≤ 300 := by omega
      have hc : l.length + 1 ≤ c := by simpa using hc
      clear ho ho' h1 hm hsc hlen
      have k0 : (((l.length : Int) + 1) == 0) = false := by simp; omega
      obtain ⟨b, off, rfl, ht⟩ := HT.out
      have HS := Lib.hid ht
      clear ht HT
      by_cases hc1 : c = 1
      · obtain rfl := hc1
        obtain rfl : l = [] := List.eq_nil_of_length_eq_zero (by omega)
        have HS0 := Lib.hid (show Sl w1 1 (.slice (some ⟨b, off, none⟩) 0 0) ([] : List ByteArray).length (strs []) from ⟨_, _, rfl, by omega, rfl, by simp, by intro h; exact absurd h (by simp)⟩)
        clear k0 hl9 hc
        go_wp2_with fail
        refine (rbytesS_any _ [] w1 HS0.out (by simp) (by simp)).mono ?_
        rintro e w2 ⟨rfl, hg2⟩
        rw [HE.out]
        go_wp2_with fail
        go_ret2
        exact ⟨by rw [HI.out]; rfl, gtrans hg hg2⟩
      · go_wp2_with fail
        refine (rbytesS_any _ l w1 HS.out (by omega) (fun x hx => by have := HX.out x hx; omega)).mono ?_
        rintro e w2 ⟨rfl, hg2⟩
        rw [HE.out]
        go_wp2_with fail
        go_ret2
        exact ⟨by rw [HI.out]; rfl, gtrans hg hg2⟩
  · have hm' : may n = false := by simpa using hm
    have HE := Lib.hid (show upN n = ⟨#[]⟩ from if_neg (fun h => hm h.1))
    have HI := Lib.hid (show isUp n = false by unfold isUp; rw [hm']; rfl)
    rw [hm']
    clear ho hm'
    go_wp2_with fail
    go_ret2
    exact ⟨by rw [HE.out, HI.out]; rfl, hg⟩
end Go.Proofs.YtomjiephbacocaaDoor
