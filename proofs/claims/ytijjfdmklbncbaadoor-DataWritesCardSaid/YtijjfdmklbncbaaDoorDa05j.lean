/-
  The document's data (layer 5): Names, Fold, Compressed, Read; Texts.
-/
import Derived.Test.YtijjfdmklbncbaaDoorDa05i
namespace Go.Proofs.YtijjfdmklbncbaaDoor
open Go.RowKit

set_option maxRecDepth 100000 in
set_option maxHeartbeats 1000000 in
theorem rnames_any (kind : Nat) (d : ByteArray) (w : World) (hs : d.size ≤ 1000000) : Calls Tryd.prog 21 #[.int .u16 kind, .string d] w fun e w' => ∃ v, e = .returned v ∧ w'.ownsRow w.heap.size 9 1 v (nms (rwhL kind d)).length (strs (nms (rwhL kind d))) ∧ w.grownBy w' none := by
  obtain ⟨i2, i2h, i2z, i2s, i2b⟩ := info_parts Tryd.infoS
  have HW := Lib.hid (rwhole_l kind d w hs)
  have hl4 := (rwhL_good kind d).1
  generalize rwhL kind d = l at *
  generalize mayD kind d = mb at *
  go_enter Tryd.func21, Tryd.ntmps21
  go_wp2_with fail
  refine Calls.mono HW.out ?_
  rintro e w1 ⟨v, rfl, hp, hg⟩
  have G1 := Lib.hid hg
  have P1 := Lib.hid hp
  obtain ⟨A, cap, rfl⟩ := FS.len hp
  clear hg hp HW
  go_wp2_with fail
  go_loopw [7, 8] (fun vo vi wr => ∃ i : Nat, vi = .int .i64 i ∧ i ≤ l.length ∧ w1.grownBy wr none ∧ wr.ownsRow w1.heap.size 9 1 vo (nms (l.take i)).length (strs (nms (l.take i))) ∧ (nms (l.take i)).length ≤ i) (fun _ vi _ => l.length - (intOf vi).toNat)
  case atStart => exact ⟨0, rfl, by omega, grefl _ _, World.ownsRow_nil _ _ _ _, by simp [nms]⟩
  case round =>
    obtain ⟨i, rfl, hil, hgr, hown, hn⟩ := hrel
    have HG := Lib.hid hgr
    have HO := Lib.hid hown
    obtain ⟨Ao, co, rfl, hco, hcm⟩ := own_shape hown
    unfold maxLen at hcm
    clear hgr hown
    by_cases hlt : i < l.length
    · have k0 : decide ((i : Int) < (l.length : Int)) = true := by simp; omega
      obtain ⟨g, rfl, _, hgl, c0, c1⟩ := (P1.out.kept0 HG.out).at hlt
      have HS := Lib.hid (nms_take hlt)
      cases hb : l[i].name with
      | false =>
        rw [hb] at c1 HS
        have HS' := Lib.hid (show nms (l.take (i + 1)) = nms (l.take i) by rw [HS.out]; simp)
        clear HS hb
        generalize l[i] = x at *
        generalize nms (l.take i) = o at *
        go_wp2_with fail
        go_roundw
        case rel => exact ⟨i + 1, by go_num, by omega, HG.out, by rw [HS'.out]; exact HO.out, by rw [HS'.out]; omega⟩
        case measure => simp [intOf]; omega
      | true =>
        rw [hb] at c1 HS
        have HS' := Lib.hid (show nms (l.take (i + 1)) = nms (l.take i) ++ [l[i].text] by rw [HS.out]; simp)
        clear HS hb
        generalize l[i] = x at *
        generalize nms (l.take i) = o at *
        go_wp2_with (at_builtin; refine wpList_append_own_at _ rfl (.tmp 26) (.tmp 32) 50 rfl w1.heap.size 9 i2 _ 1 16 Tryd.underlying50 i2h i2z i2s i2b rfl (by decide) _ o.length (strs o) rfl (own_kept0 HO.out (galloc (grefl _ none) _)) ⟨_, 0, none⟩ 1 1 [.string x.text] rfl rfl (cell_one_new _ _ _) (by intro u hu; simp at hu; subst hu; rfl) (by unfold maxLen; omega) (by omega) (by have := HG.out.size; simp; omega) ?_)
        intro v6 w6 ho6 hg6 _ _
        have G6 := Lib.hid (show w1.grownBy w6 none from gstep HG.out (gfr1 hg6) (fun r e => (World.ownsRow.lt HO.out r e).1))
        have O6 := Lib.hid ho6
        obtain ⟨A6, c6, rfl, _, _⟩ := own_shape ho6
        clear ho6 hg6
        go_wp2_with fail
        go_roundw
        case rel => exact ⟨i + 1, by go_num, by omega, G6.out, by rw [HS'.out]; simpa [strs] using O6.out, by rw [HS'.out]; simp; omega⟩
        case measure => simp [intOf]; omega
    · have k0 : decide ((i : Int) < (l.length : Int)) = false := by simp; omega
      have HE := Lib.hid (show nms (l.take i) = nms l by rw [List.take_of_length_le (by omega)])
      generalize nms (l.take i) = o at *
      go_wp2_with fail
      go_ret
      exact ⟨_, rfl, by rw [← HE.out]; exact row_base HO.out G1.out.size, gtrans G1.out HG.out⟩


theorem rnames_same (kind : Nat) (d : ByteArray) : nms (rwhL kind d) = nms (whL kind d) := by rw [nms_nz, nms_nz, (wh_same kind d).2]
theorem rfdt_same (kind : Nat) (d : ByteArray) : fdt (rwhL kind d) = fdt (whL kind d) := by rw [fdt_nz, fdt_nz, (wh_same kind d).2]
set_option maxRecDepth 100000 in
set_option maxHeartbeats 1000000 in
theorem rfoldd_any (kind : Nat) (d : ByteArray) (w : World) (hs : d.size ≤ 1000000) : Calls Tryd.prog 24 #[.int .u16 kind, .string d] w fun e w' => e = .returned (.string ⟨(fdt (whL kind d)).toArray⟩) ∧ w.grownBy w' none := by
  have HW := Lib.hid (rwhole_l kind d w hs)
  obtain ⟨hl4, hx⟩ := rwhL_good kind d
  have hxs : ∀ x ∈ rwhL kind d, x.text.size ≤ 1000300 := fun x h => by have := (hx x h).1; omega
  rw [← rfdt_same]
  clear hx
  generalize rwhL kind d = l at *
  generalize mayD kind d = mb at *
  go_enter Tryd.func24, Tryd.ntmps24
  go_wp2_with fail
  refine Calls.mono HW.out ?_
  rintro e w1 ⟨v, rfl, hp, hg⟩
  have G1 := Lib.hid hg
  have P1 := Lib.hid hp
  obtain ⟨A, cap, rfl⟩ := FS.len hp
  clear hg hp HW
  go_wp2_with fail
  go_loopw [7, 8] (fun vo vi wr => ∃ i : Nat, vi = .int .i64 i ∧ i ≤ l.length ∧ w1.grownBy wr none ∧ vo = .string ⟨(fdt (l.take i)).toArray⟩) (fun _ vi _ => l.length - (intOf vi).toNat)
  case atStart => exact ⟨0, rfl, by omega, grefl _ _, rfl⟩
  case round =>
    obtain ⟨i, rfl, hil, hgr, rfl⟩ := hrel
    have HG := Lib.hid hgr
    have hlen := fdt_len hxs i hil
    have hOs : (⟨(fdt (l.take i)).toArray⟩ : ByteArray).size ≤ 9000000 := by rw [size_mk]; omega
    clear hgr
    by_cases hlt : i < l.length
    · have k0 : decide ((i : Int) < (l.length : Int)) = true := by simp; omega
      obtain ⟨g, rfl, _, hgl, c0, c1⟩ := (P1.out.kept0 HG.out).at hlt
      have hx1 := hxs l[i] (List.getElem_mem hlt)
      cases hb : l[i].name with
      | false =>
        rw [hb] at c1
        have HS' := Lib.hid (show (⟨(fdt (l.take i)).toArray⟩ : ByteArray) ++ l[i].text = ⟨(fdt (l.take (i + 1))).toArray⟩ by
          rw [fdt_take hlt, hb]; exact mk_append_list _ l[i].text.data.toList)
        clear hb
        generalize l[i] = x at *
        generalize (⟨(fdt (l.take i)).toArray⟩ : ByteArray) = o at *
        go_wp2_with fail
        go_roundw
        case rel => exact ⟨i + 1, by go_num, by omega, HG.out, by rw [HS'.out]⟩
        case measure => simp [intOf]; omega
      | true =>
        rw [hb] at c1
        have HS' := Lib.hid (show (⟨(fdt (l.take i)).toArray⟩ : ByteArray) ++ foldB l[i].text = ⟨(fdt (l.take (i + 1))).toArray⟩ by
          rw [fdt_take hlt, hb]; exact mk_append_list _ (foldB l[i].text).data.toList)
        clear hb
        have hfs := foldB_size l[i].text
        generalize l[i] = x at *
        generalize (⟨(fdt (l.take i)).toArray⟩ : ByteArray) = o at *
        have HF := Lib.hid (fun w0 => rfold_any x.text w0 (by omega))
        go_wp2_with fail
        refine Calls.mono (HF.out _) ?_
        rintro e w2 ⟨rfl, hg⟩
        have HG2 := Lib.hid (gtrans HG.out hg)
        clear hg HF HG c0 c1
        generalize foldB x.text = FX at *
        go_wp2_with fail
        go_roundw
        case rel => exact ⟨i + 1, by go_num, by omega, HG2.out, by rw [HS'.out]⟩
        case measure => simp [intOf]; omega
    · have k0 : decide ((i : Int) < (l.length : Int)) = false := by simp; omega
      have HE := Lib.hid (show (⟨(fdt (l.take i)).toArray⟩ : ByteArray) = ⟨(fdt l).toArray⟩ by rw [List.take_of_length_le (by omega)])
      generalize (⟨(fdt (l.take i)).toArray⟩ : ByteArray) = o at *
      go_wp2_with fail
      go_ret
      exact ⟨by rw [← HE.out]; rfl, gtrans G1.out HG.out⟩
theorem rcompr_any (k : Nat) (w : World) : Calls Tryd.prog 26 #[.int .u16 k] w fun e w' => e = .returned (.bool (cmpF k)) ∧ w = w' := by
  by_cases h : k = 2 ∨ k = 5 ∨ k = 6 ∨ k = 12 ∨ k = 15
  · have HC := Lib.hid (show cmpF k = true from decide_eq_true h)
    rw [HC.out]
    rcases h with rfl | rfl | rfl | rfl | rfl
    all_goals
      go_enter Tryd.func26, Tryd.ntmps26
      go_wp2_with fail
      go_ret
      exact ⟨rfl, rfl⟩
  · have HC := Lib.hid (show cmpF k = false from decide_eq_false h)
    rw [HC.out]
    have q2 : ((k : Int) == 2) = false := by simp; omega
    have q5 : ((k : Int) == 5) = false := by simp; omega
    have q6 : ((k : Int) == 6) = false := by simp; omega
    have q12 : ((k : Int) == 12) = false := by simp; omega
    have q15 : ((k : Int) == 15) = false := by simp; omega
    clear h
    go_enter Tryd.func26, Tryd.ntmps26
    go_wp2_with fail
    go_ret
    exact ⟨rfl, rfl⟩

/-- What the document's Read gives. -/
theorem tx_same {s : ByteArray} {p kind : Nat} (hp : p ≤ s.size) : match splF s p kind with
    | .ok l => ∃ m, rplF s p kind = .ok m ∧ tx m = tx l
    | .no e => rplF s p kind = .no e := by
  have h := spl_ref s p kind hp
  cases h1 : splF s p kind with
  | ok l => cases h2 : rplF s p kind with
    | ok m =>
      rw [h1, h2] at h
      exact ⟨m, rfl, by rw [tx_nz, tx_nz, show nz l = nz m from h]⟩
    | no f => rw [h1, h2] at h; exact h.elim
  | no e => cases h2 : rplF s p kind with
    | ok m => rw [h1, h2] at h; exact h.elim
    | no f => rw [h1, h2] at h; exact congrArg Ds.no (show e = f from h).symm
set_option maxRecDepth 100000 in
set_option maxHeartbeats 1000000 in
theorem rrdata_any (msg : ByteArray) (at_ n : Int) (kind : Nat) (w : World) (hs : msg.size ≤ 1000000) : Calls Tryd.prog 13 #[.string msg, .int .i64 at_, .int .i64 n, .int .u16 kind] w fun e w' => e = .returned (.tuple #[.string (rdD msg at_ n kind).1, .int .i64 ((rdD msg at_ n kind).2 : Int)]) ∧ w.grownBy w' none := by
  by_cases h : at_ < 0 ∨ n < 0 ∨ (msg.size : Int) - at_ < n
  · have HR := Lib.hid (show rdD msg at_ n kind = (⟨#[]⟩, 1) from if_pos h)
    rw [HR.out]
    by_cases h1 : at_ < 0
    · have q1 : decide (at_ < 0) = true := by simpa using h1
      clear h
      go_enter Tryd.func13, Tryd.ntmps13
      go_wp2_with fail
      go_ret2
      exact ⟨rfl, grefl _ _⟩
    · have q1 : decide (at_ < 0) = false := by simpa using h1
      by_cases h2 : n < 0
      · have q2 : decide (n < 0) = true := by simpa using h2
        clear h
        go_enter Tryd.func13, Tryd.ntmps13
        go_wp2_with fail
        go_ret2
        exact ⟨rfl, grefl _ _⟩
      · have q2 : decide (n < 0) = false := by simpa using h2
        by_cases h4 : (msg.size : Int) < at_
        · have q4 : decide ((msg.size : Int) < at_) = true := by simpa using h4
          clear h
          go_enter Tryd.func13, Tryd.ntmps13
          go_wp2_with fail
          go_ret2
          exact ⟨rfl, grefl _ _⟩
        · have q4 : decide ((msg.size : Int) < at_) = false := by simpa using h4
          have h3 : (msg.size : Int) - at_ < n := by omega
          have q3 : decide ((msg.size : Int) - at_ < n) = true := by simpa using h3
          clear h
          go_enter Tryd.func13, Tryd.ntmps13
          go_wp2_with fail
          go_ret2
          exact ⟨rfl, grefl _ _⟩
  · obtain ⟨h1, h2, h3⟩ : 0 ≤ at_ ∧ 0 ≤ n ∧ n ≤ (msg.size : Int) - at_ := by omega
    have HR := Lib.hid (show rdD msg at_ n kind = _ from if_neg h)
    clear h
    obtain ⟨a, rfl⟩ := Int.eq_ofNat_of_zero_le h1
    obtain ⟨k, rfl⟩ := Int.eq_ofNat_of_zero_le h2
    have hak : a + k ≤ msg.size := by omega
    rw [show ((a : Int) + (k : Int)).toNat = a + k by omega, show ((a : Int)).toNat = a by omega] at HR
    have q1 : decide ((a : Int) < 0) = false := by simp
    have q2 : decide ((k : Int) < 0) = false := by simp
    have q4 : decide ((msg.size : Int) < (a : Int)) = false := by simp; omega
    have q3 : decide ((msg.size : Int) - (a : Int) < (k : Int)) = false := by simp; omega
    have hm : (msg.extract 0 (a + k)).size = a + k := by rw [ext_size]; omega
    have HS := Lib.hid (rpieces_any (msg.extract 0 (a + k)) a kind w (by omega) (by omega))
    have ht := tx_same (s := msg.extract 0 (a + k)) (p := a) (kind := kind) (by omega)
    clear h1 h2 h3
    cases hr : splF (msg.extract 0 (a + k)) a kind with
    | no er =>
      rw [hr] at ht HR
      rw [ht] at HS
      clear hr ht
      go_enter Tryd.func13, Tryd.ntmps13
      go_wp2_with fail
      refine Calls.mono HS.out ?_
      rintro e w1 ⟨hg, hp1, hp2, rfl⟩
      have G1 := Lib.hid hg
      have k1 : ((er : Int) != 0) = true := by simp; omega
      clear hg HS
      go_wp2_with fail
      go_ret2
      rw [HR.out]
      exact ⟨rfl, G1.out⟩
    | ok l =>
      rw [hr] at ht HR
      obtain ⟨m, hm1, hm2⟩ := ht
      rw [hm1] at HS
      obtain ⟨hgd, hl4⟩ := rpl_good (by omega) hm1
      have HT := Lib.hid (fun v w1 (h : RPcs w1 v m) => joined_any v m w1 h hl4 (fun x hx => by have := (hgd x hx).1; omega))
      rw [hm2] at HT
      clear hgd hr hm1 hm2 hl4
      go_enter Tryd.func13, Tryd.ntmps13
      go_wp2_with fail
      refine Calls.mono HS.out ?_
      rintro e w1 ⟨hg, v, rfl, ho⟩
      have G1 := Lib.hid hg
      have P1 := Lib.hid (RPcs.of ho)
      obtain ⟨A, cap, rfl, _, _⟩ := own_shape ho
      clear hg HS ho
      go_wp2_with fail
      refine Calls.mono (HT.out _ w1 P1.out) ?_
      rintro e wq ⟨rfl, hq⟩
      subst hq
      go_wp2_with fail
      go_ret2
      rw [HR.out]
      exact ⟨rfl, G1.out⟩

theorem strs_at {w : World} {n cap i : Nat} {A : Option Addr} {l : List ByteArray} (h : FS w 0 9 1 (.slice A n cap) l.length (strs l)) (hi : i < l.length) : ∃ g, A = some ⟨g, 0, none⟩ ∧ n = l.length ∧ g < w.heap.size ∧ w.cell? ⟨g, i, none⟩ = some (.string l[i]) := by
  have h' : FS w 0 9 1 (.slice A n cap) l.length (l.flatMap fun x => [Value.string x]) := by
    have : strs l = l.flatMap fun x => [Value.string x] := by unfold strs; rw [List.map_eq_flatMap]
    rw [← this]; exact h
  obtain ⟨g, h1, h2, h3, _, h4⟩ := FS.cellAt (k := 1) (f := fun x => [Value.string x]) (fun _ => rfl) h' hi
  have := h4 0 (by omega)
  rw [Nat.mul_one, Nat.add_zero] at this
  exact ⟨g, h1, h2, h3, this⟩
set_option maxRecDepth 100000 in
theorem texts_yes (va vb : Value) (l : List ByteArray) (w : World) (ha : FS w 0 9 1 va l.length (strs l)) (hb : FS w 0 9 1 vb l.length (strs l)) (hl : l.length ≤ 1000) : Calls Tryd.prog 22 #[va, vb] w fun e w' => e = .returned (.bool true) ∧ w.grownBy w' none := by
  have HA := Lib.hid ha
  have HB := Lib.hid hb
  obtain ⟨A, ca, ea⟩ := FS.len ha
  obtain ⟨B, cb, eb⟩ := FS.len hb
  subst ea eb
  clear ha hb
  have k1 : ((l.length : Int) != (l.length : Int)) = false := by simp
  go_enter Tryd.func22, Tryd.ntmps22
  go_wp2_with fail
  go_loopw [5] (fun vi wr => ∃ i : Nat, vi = .int .i64 i ∧ i ≤ l.length ∧ w.grownBy wr none) (fun vi _ => l.length - (intOf vi).toNat)
  case atStart => exact ⟨0, rfl, by omega, grefl _ _⟩
  case round =>
    obtain ⟨i, rfl, hil, hgr⟩ := hrel
    have HG := Lib.hid hgr
    clear hgr
    by_cases hlt : i < l.length
    · have k0 : decide ((i : Int) < (l.length : Int)) = true := by simp; omega
      obtain ⟨g, rfl, _, hgl, c0⟩ := strs_at (HA.out.kept0 HG.out) hlt
      obtain ⟨g2, rfl, _, hgl2, c1⟩ := strs_at (HB.out.kept0 HG.out) hlt
      have n1 : (l[i].toList == l[i].toList) = true := by simp
      generalize l[i] = x at *
      go_wp2_with fail
      go_quiet (fail)
      have HG2 := Lib.hid (gdrewN HG.out nq)
      generalize wr.drewN nq = w3 at *
      go_wp2_with fail
      go_roundw
      case rel => exact ⟨i + 1, by go_num, by omega, HG2.out⟩
      case measure => simp [intOf]; omega
    · have k0 : decide ((i : Int) < (l.length : Int)) = false := by simp; omega
      go_wp2_with fail
      go_ret
      exact ⟨rfl, HG.out⟩
end Go.Proofs.YtijjfdmklbncbaaDoor
