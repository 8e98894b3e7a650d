/-
  Names, Fold, Compressed, Read, Write (layer 5).
-/
import Derived.Test.YtijjfdmklbncbaaDoorDa05d
import Derived.Test.YtijjfdmklbncbaaDoorCo04d
namespace Go.Proofs.YtijjfdmklbncbaaDoor
open Go.RowKit

def whL (kind : Nat) (d : ByteArray) : List Pc := (whF kind d).getD []
theorem whL_good (kind : Nat) (d : ByteArray) : (whL kind d).length ≤ 3 ∧ ∀ x ∈ whL kind d, x.text.size ≤ d.size + 255 ∧ (x.name = true → may x.text = true) := by
  unfold whL
  cases h : whF kind d with
  | none => simp
  | some l =>
    obtain ⟨h1, _, h3⟩ := wh_good h
    exact ⟨spl_len h1, h3⟩
theorem whole_l (kind : Nat) (d : ByteArray) (w : World) (he : Et w) (hs : d.size ≤ 1000000) : Calls Tryd.prog 33 #[.int .u16 kind, .string d] w fun e w' => ∃ v, e = .returned (.tuple #[v, .bool (mayD kind d)]) ∧ Pcs w' v (whL kind d) ∧ w.grownBy w' none := by
  refine (whole_any kind d w he hs).mono ?_
  intro e w' h
  unfold WhPost at h
  unfold whL mayD
  cases hw : whF kind d with
  | none =>
    rw [hw] at h
    obtain ⟨h1, rfl⟩ := h
    exact ⟨_, rfl, ⟨rfl, .inl ⟨rfl, rfl⟩⟩, h1⟩
  | some l =>
    rw [hw] at h
    obtain ⟨h1, v, rfl, h2⟩ := h
    exact ⟨v, rfl, h2, h1⟩
def nms (l : List Pc) : List ByteArray := (l.filter (·.name)).map (·.text)
theorem nms_take {l : List Pc} {i : Nat} (h : i < l.length) : nms (l.take (i + 1)) = nms (l.take i) ++ (if l[i].name = true then [l[i].text] else []) := by
  unfold nms
  rw [List.take_succ_eq_append_getElem h, List.filter_append, List.map_append]
  congr 1
  cases hn : l[i].name <;> simp [hn]
def fdt (l : List Pc) : List UInt8 := l.flatMap fun x => if x.name = true then (foldB x.text).data.toList else x.text.data.toList
theorem fdt_take {l : List Pc} {i : Nat} (h : i < l.length) : fdt (l.take (i + 1)) = fdt (l.take i) ++ (if l[i].name = true then (foldB l[i].text).data.toList else l[i].text.data.toList) := by
  unfold fdt
  rw [List.take_succ_eq_append_getElem h, List.flatMap_append]
  simp
theorem foldB_size (s : ByteArray) : (foldB s).size ≤ s.size := by
  unfold foldB
  split
  · rw [lowB_size]; exact Nat.le_refl _
  · exact Nat.zero_le _
theorem fdt_len {l : List Pc} {b : Nat} (h : ∀ x ∈ l, x.text.size ≤ b) : ∀ i, i ≤ l.length → (fdt (l.take i)).length ≤ b * i := by
  intro i
  induction i with
  | zero => intro _; simp [fdt]
  | succ i ih =>
    intro hi
    rw [fdt_take (by omega), List.length_append]
    have := ih (by omega)
    have h1 := h l[i] (List.getElem_mem (by omega))
    have h2 := foldB_size l[i].text
    rw [Nat.mul_succ]
    split
    · rw [nlen]; omega
    · rw [nlen]; omega

set_option maxRecDepth 100000 in
set_option maxHeartbeats 1000000 in
theorem names_any (kind : Nat) (d : ByteArray) (w : World) (he : Et w) (hs : d.size ≤ 1000000) : Calls Tryd.prog 19 #[.int .u16 kind, .string d] w fun e w' => ∃ v, e = .returned v ∧ w'.ownsRow w.heap.size 9 1 v (nms (whL kind d)).length (strs (nms (whL kind d))) ∧ w.grownBy w' none := by
  obtain ⟨i2, i2h, i2z, i2s, i2b⟩ := info_parts Tryd.infoS
  have HW := Lib.hid (whole_l kind d w he hs)
  have hl3 := (whL_good kind d).1
  generalize whL kind d = l at *
  generalize mayD kind d = mb at *
  go_enter Tryd.func19, Tryd.ntmps19
  go_wp2_with fail
  refine Calls.mono HW.out ?_
  rintro e w1 ⟨v, rfl, hp, hg⟩
  have G1 := Lib.hid hg
  have P1 := Lib.hid hp
  obtain ⟨A, cap, rfl⟩ := FS.len hp
  clear hg hp HW
  go_wp2_with fail
  go_loopw [7, 18] (fun vo vi wr => ∃ i : Nat, vi = .int .i64 i ∧ i ≤ l.length ∧ w1.grownBy wr none ∧ wr.ownsRow w1.heap.size 9 1 vo (nms (l.take i)).length (strs (nms (l.take i))) ∧ (nms (l.take i)).length ≤ i) (fun _ vi _ => l.length - (intOf vi).toNat)
  case atStart => exact ⟨0, rfl, by omega, grefl _ _, World.ownsRow_nil _ _ _ _, by simp [nms]⟩
  case round =>
    obtain ⟨i, rfl, hil, hgr, hown, hn⟩ := hrel
    have HG := Lib.hid hgr
    have HO := Lib.hid hown
    obtain ⟨Ao, co, rfl, hco, hcm⟩ := own_shape hown
    unfold maxLen at hcm
    clear hgr hown
    by_cases hlt : i < l.length
    · have k0 : decide ((i : Int) < (l.length : Int)) = true := by simp; omega
      obtain ⟨g, rfl, _, hgl, c0, c1, c2⟩ := (P1.out.kept0 HG.out).at hlt
      have HS := Lib.hid (nms_take hlt)
      cases hb : l[i].name with
      | false =>
        rw [hb] at c1 HS
        have HS' := Lib.hid (show nms (l.take (i + 1)) = nms (l.take i) by rw [HS.out]; simp)
        clear HS hb
        generalize l[i] = x at *
        generalize nms (l.take i) = o at *
        go_wp2_with fail
        go_roundw
        case rel => exact ⟨i + 1, by go_num, by omega, galloc HG.out _, by rw [HS'.out]; exact own_kept0 HO.out (galloc (grefl _ none) _), by rw [HS'.out]; omega⟩
        case measure => simp [intOf]; omega
      | true =>
        rw [hb] at c1 HS
        have HS' := Lib.hid (show nms (l.take (i + 1)) = nms (l.take i) ++ [l[i].text] by rw [HS.out]; simp)
        clear HS hb
        generalize l[i] = x at *
        generalize nms (l.take i) = o at *
        go_wp2_with (at_builtin; refine wpList_append_own_at _ rfl (.tmp 24) (.tmp 27) 50 rfl w1.heap.size 9 i2 _ 1 16 Tryd.underlying50 i2h i2z i2s i2b rfl (by decide) _ o.length (strs o) rfl (own_kept0 HO.out (galloc (galloc (grefl _ none) _) _)) ⟨_, 0, none⟩ 1 1 [.string x.text] rfl rfl (cell_one_new1 _ _ _ _) (by intro u hu; simp at hu; subst hu; rfl) (by unfold maxLen; omega) (by omega) (by have := HG.out.size; simp; omega) ?_)
        intro v6 w6 ho6 hg6 _ _
        have G6 := Lib.hid (show w1.grownBy w6 none from gstep HG.out (gfr1 (gfr1 hg6)) (fun r e => (World.ownsRow.lt HO.out r e).1))
        have O6 := Lib.hid ho6
        obtain ⟨A6, c6, rfl, _, _⟩ := own_shape ho6
        clear ho6 hg6
        go_wp2_with fail
        go_roundw
        case rel => exact ⟨i + 1, by go_num, by omega, G6.out, by rw [HS'.out]; simpa [strs] using O6.out, by rw [HS'.out]; simp; omega⟩
        case measure => simp [intOf]; omega
    · have k0 : decide ((i : Int) < (l.length : Int)) = false := by simp; omega
      have HE := Lib.hid (show nms (l.take i) = nms l by rw [List.take_of_length_le (by omega)])
      generalize nms (l.take i) = o at *
      go_wp2_with fail
      go_ret
      exact ⟨_, rfl, by rw [← HE.out]; exact row_base HO.out G1.out.size, gtrans G1.out HG.out⟩

set_option maxRecDepth 100000 in
set_option maxHeartbeats 1000000 in
theorem foldd_any (kind : Nat) (d : ByteArray) (w : World) (he : Et w) (hs : d.size ≤ 1000000) : Calls Tryd.prog 20 #[.int .u16 kind, .string d] w fun e w' => e = .returned (.string ⟨(fdt (whL kind d)).toArray⟩) ∧ w.grownBy w' none := by
  obtain ⟨i0, hi, hz0, hz1, hz2⟩ := info_parts Tryd.infoByte
  have HW := Lib.hid (whole_l kind d w he hs)
  obtain ⟨hl3, hx⟩ := whL_good kind d
  have hxs : ∀ x ∈ whL kind d, x.text.size ≤ 1000300 := fun x h => by have := (hx x h).1; omega
  clear hx
  generalize whL kind d = l at *
  generalize mayD kind d = mb at *
  go_enter Tryd.func20, Tryd.ntmps20
  go_wp2_with fail
  refine Calls.mono HW.out ?_
  rintro e w1 ⟨v, rfl, hp, hg⟩
  have G1 := Lib.hid hg
  have P1 := Lib.hid hp
  obtain ⟨A, cap, rfl⟩ := FS.len hp
  clear hg hp HW
  go_wp2_with fail
  go_loopw [7, 18] (fun vo vi wr => ∃ i : Nat, vi = .int .i64 i ∧ i ≤ l.length ∧ w1.grownBy wr none ∧ Own wr w1.heap.size vo (fdt (l.take i))) (fun _ vi _ => l.length - (intOf vi).toNat)
  case atStart => exact ⟨0, rfl, by omega, grefl _ _, Own.nil _ _⟩
  case round =>
    obtain ⟨i, rfl, hil, hgr, hown⟩ := hrel
    have HG := Lib.hid hgr
    have HO := Lib.hid hown
    obtain ⟨Ao, co, rfl, hco, hcm⟩ := hown.shape
    unfold maxLen at hcm
    have hlen := fdt_len hxs i hil
    clear hgr hown
    by_cases hlt : i < l.length
    · have k0 : decide ((i : Int) < (l.length : Int)) = true := by simp; omega
      obtain ⟨g, rfl, _, hgl, c0, c1, c2⟩ := (P1.out.kept0 HG.out).at hlt
      have HS := Lib.hid (fdt_take hlt)
      have hx1 := hxs l[i] (List.getElem_mem hlt)
      cases hb : l[i].name with
      | false =>
        rw [hb] at c1 HS
        have HS' := Lib.hid (show fdt (l.take (i + 1)) = fdt (l.take i) ++ l[i].text.data.toList by rw [HS.out]; simp)
        clear HS hb
        generalize l[i] = x at *
        generalize fdt (l.take i) = o at *
        go_wp2_with (at_builtin; refine wpList_app_str rfl (.tmp 29) (.tmp 31) 30 9 rfl w1.heap.size i0 Tryd.underlying30 Tryd.underlying9 hi hz0 hz1 hz2 _ _ rfl (HO.out.kept0 (galloc (grefl _ none) _)) x.text rfl ?e1 ?e2 ?_)
        case e1 => omega
        case e2 => have := HG.out.size; simp; omega
        intro v6 w6 ho6 hg6
        have G6 := Lib.hid (gstep HG.out (gfr1 hg6) (fun r e => (HO.out.block r e).1))
        have O6 := Lib.hid ho6
        obtain ⟨A6, c6, rfl, _, _⟩ := ho6.shape
        clear ho6 hg6
        go_wp2_with fail
        go_roundw
        case rel => exact ⟨i + 1, by go_num, by omega, G6.out, by rw [HS'.out]; exact O6.out⟩
        case measure => simp [intOf]; omega
      | true =>
        rw [hb] at c1 HS
        have HS' := Lib.hid (show fdt (l.take (i + 1)) = fdt (l.take i) ++ (foldB l[i].text).data.toList by rw [HS.out]; simp)
        clear HS hb
        have hfs := foldB_size l[i].text
        generalize l[i] = x at *
        generalize fdt (l.take i) = o at *
        have HF := Lib.hid (fun w0 => nfold_any x.text w0 (by omega))
        go_wp2_with fail
        refine Calls.mono (HF.out _) ?_
        rintro e w2 ⟨rfl, hg⟩
        have HG2 := Lib.hid (gtrans HG.out (gfr1 hg))
        have HO2 := Lib.hid (HO.out.kept0 (gfr1 hg))
        clear hg HF HG HO c0 c1 c2
        go_wp2_with (at_builtin; refine wpList_app_str rfl (.tmp 24) (.tmp 27) 30 9 rfl w1.heap.size i0 Tryd.underlying30 Tryd.underlying9 hi hz0 hz1 hz2 _ _ rfl HO2.out (foldB x.text) rfl ?e1 ?e2 ?_)
        case e1 => omega
        case e2 => exact HG2.out.size
        intro v6 w6 ho6 hg6
        have G6 := Lib.hid (gstep HG2.out hg6 (fun r e => (HO2.out.block r e).1))
        have O6 := Lib.hid ho6
        obtain ⟨A6, c6, rfl, _, _⟩ := ho6.shape
        clear ho6 hg6
        go_wp2_with fail
        go_roundw
        case rel => exact ⟨i + 1, by go_num, by omega, G6.out, by rw [HS'.out]; exact O6.out⟩
        case measure => simp [intOf]; omega
    · have k0 : decide ((i : Int) < (l.length : Int)) = false := by simp; omega
      have hcv := cvs HO.out.sl
      have HE := Lib.hid (show fdt (l.take i) = fdt l by rw [List.take_of_length_le (by omega)])
      generalize fdt (l.take i) = o at *
      go_wp2_with fail
      go_ret
      exact ⟨by rw [← HE.out]; rfl, gtrans G1.out HG.out⟩
def cmpF (kind : Nat) : Bool := decide (kind = 2 ∨ kind = 5 ∨ kind = 6 ∨ kind = 12 ∨ kind = 15)
theorem compr_any (k : Nat) (w : World) : Calls Tryd.prog 25 #[.int .u16 k] w fun e w' => e = .returned (.bool (cmpF k)) ∧ w = w' := by
  by_cases h : k = 2 ∨ k = 5 ∨ k = 6 ∨ k = 12 ∨ k = 15
  · have HC := Lib.hid (show cmpF k = true from decide_eq_true h)
    rw [HC.out]
    rcases h with rfl | rfl | rfl | rfl | rfl
    all_goals
      go_enter Tryd.func25, Tryd.ntmps25
      go_wp2_with fail
      go_ret
      exact ⟨rfl, rfl⟩
  · have HC := Lib.hid (show cmpF k = false from decide_eq_false h)
    rw [HC.out]
    have q2 : ((k : Int) == 2) = false := by simp; omega
    have q5 : ((k : Int) == 5) = false := by simp; omega
    have q6 : ((k : Int) == 6) = false := by simp; omega
    have q12 : ((k : Int) == 12) = false := by simp; omega
    have q15 : ((k : Int) == 15) = false := by simp; omega
    clear h
    go_enter Tryd.func25, Tryd.ntmps25
    go_wp2_with fail
    go_ret
    exact ⟨rfl, rfl⟩
end Go.Proofs.YtijjfdmklbncbaaDoor
