/-
  The document's names: Labels, May; its table: At.
-/
import Derived.Test.YtjjegmgjnfkblaaDoorCo04j
import Derived.Test.YtjjegmgjnfkblaaDoorApp2
namespace Go.Proofs.YtjjegmgjnfkblaaDoor
open Go.RowKit

set_option maxRecDepth 100000 in
set_option maxHeartbeats 1000000 in
theorem rlabels_any (s : ByteArray) (w : World) (hs : s.size ≤ 1000000) : Calls Tryd.prog 32 #[.string s] w fun e w' => ∃ v, e = .returned (.tuple #[v, .bool (may s)]) ∧ w.grownBy w' none := by
  obtain ⟨i2, i2h, i2z, i2s, i2b⟩ := info_parts Tryd.infoStr
  go_enter Tryd.func32, Tryd.ntmps32
  go_wp2_with fail
  go_loopw [4, 5] (fun vo vp wr => ∃ (p n : Nat) (xs : List Value), vp = .int .i64 p ∧ p ≤ s.size ∧ n ≤ p ∧ w.grownBy wr none ∧ wr.ownsRow w.heap.size 9 1 vo n xs ∧ scan s 0 = scan s p) (fun _ vp _ => s.size - (intOf vp).toNat)
  case atStart => exact ⟨0, 0, [], rfl, by omega, by omega, grefl _ _, World.ownsRow_nil _ _ _ _, rfl⟩
  case round =>
    obtain ⟨p, n, xs, rfl, hp, hnp, hgr, hown, hr⟩ := hrel
    have HR := Lib.hid hr
    have HG := Lib.hid hgr
    have HO := Lib.hid hown
    obtain ⟨A, cap, rfl, hcap, hcm⟩ := own_shape hown
    unfold maxLen at hcm
    clear hr hgr hown
    by_cases hlt : p < s.size
    · have k0 : decide ((p : Int) < (s.size : Int)) = true := by simp; omega
      have hg := (bt_get s p hlt).symm
      have hb := bt_lt s p
      have l1 := s[p].toNat_lt
      by_cases hz : bt s p = 0
      · have z0 : (((bt s p : Nat) : Int) != 0) = false := by simp; omega
        have HN := Lib.hid (HR.out.trans (scan_end hlt hz))
        by_cases he : p + 1 = s.size
        · have e1 : ((p : Int) != (s.size : Int) - 1) = false := by simp; omega
          by_cases h5 : 255 < s.size
          · have k5 : decide ((255 : Int) < (s.size : Int)) = true := by simp; omega
            go_wp2_with fail
            go_ret2
            refine ⟨.slice none 0 0, ?_, HG.out⟩
            have : may s = false := by unfold may; simp; omega
            rw [this]; rfl
          · have k5 : decide ((255 : Int) < (s.size : Int)) = false := by simp; omega
            go_wp2_with fail
            go_ret2
            refine ⟨.slice A n cap, ?_, HG.out⟩
            have : may s = true := by unfold may; rw [HN.out]; simp; omega
            rw [this]; rfl
        · have e1 : ((p : Int) != (s.size : Int) - 1) = true := by simp; omega
          go_wp2_with fail
          go_ret2
          refine ⟨.slice none 0 0, ?_, HG.out⟩
          have : may s = false := by unfold may; rw [HN.out]; simp; omega
          rw [this]; rfl
      · have z0 : (((bt s p : Nat) : Int) != 0) = true := by simp; omega
        by_cases hbig : 63 < bt s p
        · have k1 : decide ((63 : Int) < ((bt s p : Nat) : Int)) = true := by simp; omega
          have HN := Lib.hid (HR.out.trans (scan_big hlt hbig))
          go_wp2_with fail
          go_ret2
          refine ⟨.slice none 0 0, ?_, HG.out⟩
          have : may s = false := by unfold may; rw [HN.out]; simp
          rw [this]; rfl
        · have k1 : decide ((63 : Int) < ((bt s p : Nat) : Int)) = false := by simp; omega
          have HN := Lib.hid (HR.out.trans (scan_step hlt hz (by omega)))
          by_cases hfit : p + 1 + bt s p ≤ s.size
          · have k2 : decide ((s.size : Int) < (p : Int) + 1 + ((bt s p : Nat) : Int)) = false := by simp; omega
            go_wp2_with (at_builtin; refine wpList_append_own_at _ rfl (.tmp 32) (.tmp 41) 33 rfl w.heap.size 9 i2 _ 1 16 Tryd.underlying33 i2h i2z i2s i2b rfl (by decide) _ n xs rfl (own_kept0 HO.out (galloc (grefl _ none) _)) ⟨_, 0, none⟩ 1 1 [.string (s.extract (p + 1) (p + 1 + bt s p))] rfl rfl (cell_one_new _ _ _) (by intro u hu; simp at hu; subst hu; rfl) (by unfold maxLen; omega) (by omega) (by have := HG.out.size; simp; omega) ?_)
            intro v6 w6 ho6 hg6 _ _
            have G6 := Lib.hid (show w.grownBy w6 none from gstep HG.out (gfr1 hg6) (fun r e => (World.ownsRow.lt HO.out r e).1))
            have O6 := Lib.hid ho6
            obtain ⟨A6, c6, rfl, _, _⟩ := own_shape ho6
            clear ho6 hg6
            go_wp2_with fail
            go_roundw
            case rel => exact ⟨p + 1 + bt s p, n + 1, _, by go_num, hfit, by omega, G6.out, O6.out, HN.out⟩
            case measure => simp [intOf]; omega
          · have k2 : decide ((s.size : Int) < (p : Int) + 1 + ((bt s p : Nat) : Int)) = true := by simp; omega
            go_wp2_with fail
            go_ret2
            refine ⟨.slice none 0 0, ?_, HG.out⟩
            have : may s = false := by unfold may; rw [HN.out, scan_out (by omega)]; simp
            rw [this]; rfl
    · have k0 : decide ((p : Int) < (s.size : Int)) = false := by simp; omega
      have e1 : ((p : Int) != (s.size : Int) - 1) = true := by simp; omega
      have HN := Lib.hid (HR.out.trans (scan_out (by omega)))
      go_wp2_with fail
      go_ret2
      refine ⟨.slice none 0 0, ?_, HG.out⟩
      have : may s = false := by unfold may; rw [HN.out]; simp
      rw [this]; rfl
theorem rmay_any (s : ByteArray) (w : World) (hs : s.size ≤ 1000000) : Calls Tryd.prog 28 #[.string s] w fun e w' => e = .returned (.bool (may s)) ∧ w.grownBy w' none := by
  go_enter Tryd.func28, Tryd.ntmps28
  go_wp2_with fail
  refine (rlabels_any s w hs).mono ?_
  rintro e w1 ⟨v, rfl, hg⟩
  go_wp2_with fail
  go_ret
  exact ⟨rfl, hg⟩

/-- The document's table at block b. -/
def tbv (T : Tb) : List Value := T.flatMap fun x => [.string x.1, .int .i64 (x.2 : Int)]
theorem tbv_len (T : Tb) : (tbv T).length = T.length * 2 := flat_len _ 2 (fun _ => rfl) T
structure RT (w : World) (b : Nat) (v : Value) (T : Tb) : Prop where
  cell : w.heap[b]? = some (.cells #[v] 46 (0, 0))
  row : w.ownsRow (b + 1) 52 2 v T.length (tbv T)
theorem RT.kept {w w' : World} {b : Nat} {v : Value} {T : Tb} {row : Option Nat} (h : RT w b v T) (g : w.grownBy w' row) (h1 : row ≠ some b) (h2 : v.ownBlock = none ∨ v.ownBlock ≠ row) : RT w' b v T := ⟨gblock g h.cell (fun e => h1 e.symm), World.ownsRow.kept h.row g h2⟩
theorem RT.kept0 {w w' : World} {b : Nat} {v : Value} {T : Tb} (h : RT w b v T) (g : w.grownBy w' none) : RT w' b v T := h.kept g (by simp) (by cases v.ownBlock <;> simp)
theorem RT.at {w : World} {b n cap : Nat} {A : Option Addr} {T : Tb} (h : RT w b (.slice A n cap) T) {i : Nat} (hi : i < T.length) : ∃ g, A = some ⟨g, 0, none⟩ ∧ w.cell? ⟨g, i * 2, none⟩ = some (.string T[i].1) ∧ w.cell? ⟨g, i * 2 + 1, none⟩ = some (.int .i64 (T[i].2 : Int)) := by
  obtain ⟨A', cap', e, _, _, h3, h4⟩ := (FS.of h.row).sl
  simp only [Value.slice.injEq] at e
  obtain ⟨rfl, rfl, rfl⟩ := e
  rcases h.row.2 with ⟨_, h2⟩ | ⟨g, cap2, cur, e, hb, hg, _, _, hcs, ht⟩
  · omega
  · simp only [Value.slice.injEq] at e
    obtain ⟨rfl, _, _⟩ := e
    have get := fun j hj => flat_get (fun x : ByteArray × Nat => [Value.string x.1, .int .i64 (x.2 : Int)]) 2 (fun _ => rfl) T i j hj T[i] (List.getElem?_eq_getElem hi)
    have cell := fun j (hj : j < 2) => show w.cell? ⟨g, i * 2 + j, none⟩ = [Value.string T[i].1, .int .i64 (T[i].2 : Int)][j]? by
      rw [bcellAt hg, ← Array.getElem?_toList, ← get j hj]
      show _ = (tbv T)[i * 2 + j]?
      rw [← ht, List.getElem?_take_of_lt (by omega)]
    exact ⟨g, rfl, cell 0 (by omega), cell 1 (by omega)⟩
theorem str_yes {a b : ByteArray} (h : a = b) : (a.toList == b.toList) = true := by subst h; simp
theorem tget_drop_hit {T : Tb} {i : Nat} {s : ByteArray} (hi : i < T.length) (h : T[i].1 = s) : tget (T.drop i) s = some T[i].2 := by
  unfold tget
  rw [List.drop_eq_getElem_cons hi, List.find?_cons]
  simp [h]
theorem tget_drop_miss {T : Tb} {i : Nat} {s : ByteArray} (hi : i < T.length) (h : ¬ T[i].1 = s) : tget (T.drop i) s = tget (T.drop (i + 1)) s := by
  unfold tget
  rw [List.drop_eq_getElem_cons hi, List.find?_cons]
  simp [h]
set_option maxRecDepth 100000 in
theorem rat_any (b : Nat) (v : Value) (T : Tb) (s : ByteArray) (w : World) (h : RT w b v T) (hl : T.length ≤ 1000000) : Calls Tryd.prog 19 #[.pointer (some ⟨b, 0, none⟩), .string s] w fun e w' => e = .returned (.tuple #[.int .i64 (((tget T s).getD 0 : Nat) : Int), .bool (tget T s).isSome]) ∧ w = w' := by
  have HT := Lib.hid h
  obtain ⟨A, cap, rfl, hcap, hcm⟩ := own_shape h.row
  unfold maxLen at hcm
  have c0 : w.cell? ⟨b, 0, none⟩ = some (.slice A T.length cap) := bcellAt h.cell 0
  clear h
  go_enter Tryd.func19, Tryd.ntmps19
  go_wp2_with fail
  go_loop [6] (fun vi => ∃ i : Nat, i ≤ T.length ∧ vi = .int .i64 i ∧ tget T s = tget (T.drop i) s) (fun vi => T.length - (intOf vi).toNat)
  case atStart => exact ⟨0, by omega, rfl, rfl⟩
  case round =>
    obtain ⟨i, hi, rfl, hr⟩ := hrel
    have HR := Lib.hid hr
    clear hr
    by_cases hlt : i < T.length
    · have k0 : decide ((i : Int) < (T.length : Int)) = true := by simp; omega
      obtain ⟨g, rfl, d0, d1⟩ := HT.out.at hlt
      by_cases he : T[i].1 = s
      · have z0 := str_yes he
        have HN := Lib.hid (HR.out.trans (tget_drop_hit hlt he))
        clear he
        generalize T[i].1 = q at *
        generalize T[i].2 = q2 at *
        go_wp2_with fail
        go_ret2
        rw [HN.out]
        exact ⟨rfl, rfl⟩
      · have z0 := str_ne he
        have HN := Lib.hid (HR.out.trans (tget_drop_miss hlt he))
        clear he
        generalize T[i].1 = q at *
        generalize T[i].2 = q2 at *
        go_wp2_with fail
        go_round
        case rel => exact ⟨i + 1, by omega, by go_num, HN.out⟩
        case measure => simp [intOf]; omega
    · have k0 : decide ((i : Int) < (T.length : Int)) = false := by simp; omega
      have HN := Lib.hid (HR.out.trans (show tget (T.drop i) s = none by rw [List.drop_of_length_le (by omega)]; rfl))
      go_wp2_with fail
      go_ret2
      rw [HN.out]
      exact ⟨rfl, rfl⟩
end Go.Proofs.YtjjegmgjnfkblaaDoor
