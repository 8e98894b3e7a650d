/-
  Names (layer 1): the document's Labels, Low, Bytes, Fold; the program's lower, Fold.
  The document's names: Labels, May; its table: At.
  The document's table: Put.
-/
import Derived.Test.YtkhigfbmdolgmaaGreatDoorA4
import Derived.Test.YtkhigfbmdolgmaaGreatDoorA5
import Derived.Test.YtkhigfbmdolgmaaGreatDoorA3
import Derived.Test.YtkhigfbmdolgmaaGreatDoorA2
import Derived.Maps.AppendAt
import Derived.Laws.IdiomStrings
namespace Go.Proofs.YtkhigfbmdolgmaaGreatDoor
open Go.RowKit

theorem Tryz.infoS : (Tryz.prog.info? 9).map (fun i => (i.zero, i.size, i.bytes)) = some (some (.string ByteArray.empty), 1, 16) := by kernel_rfl
def strs (l : List ByteArray) : List Value := l.map .string
theorem strs_len (l : List ByteArray) : (strs l).length = l.length := by simp [strs]
def LbPost (s : ByteArray) (w : World) (e : Ending) (w' : World) : Prop := ∃ v, e = .returned (.tuple #[v, .bool (may s)]) ∧ w.grownBy w' none ∧ (may s = true → w'.ownsRow w.heap.size 9 1 v (lbs s 0).length (strs (lbs s 0)))

set_option maxRecDepth 100000 in
set_option maxHeartbeats 1000000 in
theorem rlabs_any (s : ByteArray) (w : World) (hs : s.size ≤ 2000000) : Calls Tryz.prog 33 #[.string s] w (LbPost s w) := by
  obtain ⟨i2, i2h, i2z, i2s, i2b⟩ := info_parts Tryz.infoS
  go_enter Tryz.func33, Tryz.ntmps33
  go_wp2_with fail
  go_loopw [4, 5] (fun vo vp wr => ∃ (p : Nat) (xs : List ByteArray), vp = .int .i64 p ∧ p ≤ s.size ∧ xs.length ≤ p ∧ w.grownBy wr none ∧ wr.ownsRow w.heap.size 9 1 vo xs.length (strs xs) ∧ (scan s 0 = scan s p ∧ lbs s 0 = xs ++ lbs s p)) (fun _ vp _ => s.size - (intOf vp).toNat)
  case atStart => exact ⟨0, [], rfl, by omega, by simp, grefl _ _, World.ownsRow_nil _ _ _ _, rfl, rfl⟩
  case round =>
    obtain ⟨p, xs, rfl, hp, hnp, hgr, hown, hr⟩ := hrel
    have HR := Lib.hid hr
    have HG := Lib.hid hgr
    have HO := Lib.hid hown
    obtain ⟨A, cap, rfl, hcap, hcm⟩ := own_shape hown
    unfold maxLen at hcm
    clear hr hgr hown
    by_cases hlt : p < s.size
    · have k0 : decide ((p : Int) < (s.size : Int)) = true := by simp; omega
      have hg := (bt_get s p hlt).symm
      have hb := bt_lt s p
      have l1 := s[p].toNat_lt
      by_cases hz : bt s p = 0
      · have z0 : (((bt s p : Nat) : Int) != 0) = false := by simp; omega
        have HN := Lib.hid (HR.out.1.trans (scan_end hlt hz))
        by_cases he : p + 1 = s.size
        · have e1 : ((p : Int) != (s.size : Int) - 1) = false := by simp; omega
          by_cases h5 : 255 < s.size
          · have k5 : decide ((255 : Int) < (s.size : Int)) = true := by simp; omega
            go_wp2_with fail
            go_ret2
            have : may s = false := by unfold may; simp; omega
            exact ⟨.slice none 0 0, by rw [this]; rfl, HG.out, fun h => by rw [this] at h; cases h⟩
          · have k5 : decide ((255 : Int) < (s.size : Int)) = false := by simp; omega
            have HL := Lib.hid (show lbs s 0 = xs by rw [HR.out.2, lbs_end hz, List.append_nil])
            go_wp2_with fail
            go_ret2
            have : may s = true := by unfold may; rw [HN.out]; simp; omega
            exact ⟨.slice A xs.length cap, by rw [this]; rfl, HG.out, fun _ => by rw [HL.out]; exact HO.out⟩
        · have e1 : ((p : Int) != (s.size : Int) - 1) = true := by simp; omega
          go_wp2_with fail
          go_ret2
          have : may s = false := by unfold may; rw [HN.out]; simp; omega
          exact ⟨.slice none 0 0, by rw [this]; rfl, HG.out, fun h => by rw [this] at h; cases h⟩
      · have z0 : (((bt s p : Nat) : Int) != 0) = true := by simp; omega
        by_cases hbig : 63 < bt s p
        · have k1 : decide ((63 : Int) < ((bt s p : Nat) : Int)) = true := by simp; omega
          have HN := Lib.hid (HR.out.1.trans (scan_big hlt hbig))
          go_wp2_with fail
          go_ret2
          have : may s = false := by unfold may; rw [HN.out]; simp
          exact ⟨.slice none 0 0, by rw [this]; rfl, HG.out, fun h => by rw [this] at h; cases h⟩
        · have k1 : decide ((63 : Int) < ((bt s p : Nat) : Int)) = false := by simp; omega
          have HN := Lib.hid (show scan s 0 = scan s (p + 1 + bt s p) ∧ lbs s 0 = (xs ++ [s.extract (p + 1) (p + 1 + bt s p)]) ++ lbs s (p + 1 + bt s p) from ⟨HR.out.1.trans (scan_step hlt hz (by omega)), by rw [HR.out.2, lbs_step hlt hz, List.append_assoc]; rfl⟩)
          by_cases hfit : p + 1 + bt s p ≤ s.size
          · have k2 : decide ((s.size : Int) < (p : Int) + 1 + ((bt s p : Nat) : Int)) = false := by simp; omega
            go_wp2_with (at_builtin; refine wpList_append_own_at _ rfl (.tmp 32) (.tmp 41) 105 rfl w.heap.size 9 i2 _ 1 16 Tryz.underlying105 i2h i2z i2s i2b rfl (by decide) _ xs.length (strs xs) rfl (own_kept0 HO.out (galloc (grefl _ none) _)) ⟨_, 0, none⟩ 1 1 [.string (s.extract (p + 1) (p + 1 + bt s p))] rfl rfl (cell_one_new _ _ _) (by intro u hu; simp at hu; subst hu; rfl) (by unfold maxLen; omega) (by omega) (by have := HG.out.size; simp; omega) ?_)
            intro v6 w6 ho6 hg6 _ _
            have G6 := Lib.hid (show w.grownBy w6 none from gstep HG.out (gfr1 hg6) (fun r e => (World.ownsRow.lt HO.out r e).1))
            have O6 := Lib.hid ho6
            obtain ⟨A6, c6, rfl, _, _⟩ := own_shape ho6
            clear ho6 hg6
            go_wp2_with fail
            go_roundw
            case rel => exact ⟨p + 1 + bt s p, xs ++ [s.extract (p + 1) (p + 1 + bt s p)], by go_num, hfit, by simp; omega, G6.out, by simpa [strs] using O6.out, HN.out⟩
            case measure => simp [intOf]; omega
          · have k2 : decide ((s.size : Int) < (p : Int) + 1 + ((bt s p : Nat) : Int)) = true := by simp; omega
            go_wp2_with fail
            go_ret2
            have : may s = false := by unfold may; rw [HN.out.1, scan_out (by omega)]; simp
            exact ⟨.slice none 0 0, by rw [this]; rfl, HG.out, fun h => by rw [this] at h; cases h⟩
    · have k0 : decide ((p : Int) < (s.size : Int)) = false := by simp; omega
      have e1 : ((p : Int) != (s.size : Int) - 1) = true := by simp; omega
      have HN := Lib.hid (HR.out.1.trans (scan_out (by omega)))
      go_wp2_with fail
      go_ret2
      have : may s = false := by unfold may; rw [HN.out]; simp
      exact ⟨.slice none 0 0, by rw [this]; rfl, HG.out, fun h => by rw [this] at h; cases h⟩

theorem low_up (c : UInt8) (h1 : 65 ≤ c.toNat) (h2 : c.toNat ≤ 90) : ((low c).toNat : Int) = (c.toNat : Int) + 32 := by
  unfold low
  rw [if_pos ⟨h1, h2⟩]
  simp [UInt8.toNat_add]
  omega
theorem low_no (c : UInt8) (h : ¬ (65 ≤ c.toNat ∧ c.toNat ≤ 90)) : low c = c := if_neg h
theorem lowL_snoc (s : ByteArray) (i : Nat) (h : i < s.size) : lowL (s.data.toList.take (i + 1)) = lowL (s.data.toList.take i) ++ [low s[i]] := by
  unfold lowL
  rw [take_snoc s i h, List.map_append]
  rfl

/-- The own bytes of 'lower': the first i are folded. -/
structure LwB (w : World) (k : Nat) (s : ByteArray) (i : Nat) (wr : World) : Prop where
  gr : w.grownBy wr none
  lk : w.heap.size ≤ k
  blk : ∃ C : Array Value, wr.heap[k]? = some (.cells C 5 (C.size, C.size + 1)) ∧ s.size ≤ C.size ∧ C.toList.take s.size = bv (lowL (s.data.toList.take i) ++ s.data.toList.drop i)
theorem LwB.step {w wr : World} {k i : Nat} {s : ByteArray} (h : LwB w k s i wr) (hi : i < s.size) (v : Value) (hv : v = .int .u8 (low s[i]).toNat) : LwB w k s (i + 1) (wr.setCell ⟨k, i, none⟩ v) := by
  obtain ⟨C, h1, h2, h3⟩ := h.blk
  refine ⟨gnew (gset (gmono (row := some k) h.gr) (.inl rfl) _) (fun b e => by cases e; exact h.lk), h.lk, C.setIfInBounds i v, ?_, by simpa using h2, ?_⟩
  · have := bset h1 i v
    simpa using this
  · rw [Array.toList_setIfInBounds, List.take_set, h3]
    have e1 : s.data.toList.drop i = s[i] :: s.data.toList.drop (i + 1) := by
      rw [List.drop_eq_getElem_cons (by rw [nlen]; exact hi)]; rfl
    have e2 : (bv (lowL (s.data.toList.take i))).length = i := by rw [bv_len]; unfold lowL; rw [List.length_map, List.length_take, nlen]; omega
    rw [e1, bv_append, lowL_snoc s i hi, bv_append, bv_append, List.set_append_right _ _ (by omega), e2]
    simp [bv, hv]
theorem LwB.same {w wr : World} {k i : Nat} {s : ByteArray} (h : LwB w k s i wr) (hi : i < s.size) (hl : low s[i] = s[i]) : LwB w k s (i + 1) wr := by
  obtain ⟨C, h1, h2, h3⟩ := h.blk
  refine ⟨h.gr, h.lk, C, h1, h2, ?_⟩
  rw [h3, lowL_snoc s i hi, hl, List.append_assoc]
  congr 2
  rw [List.drop_eq_getElem_cons (by rw [nlen]; exact hi)]
  rfl
theorem LwB.at {w wr : World} {k i : Nat} {s : ByteArray} (h : LwB w k s i wr) (hi : i < s.size) : wr.cell? ⟨k, i, none⟩ = some (.int .u8 (s[i].toNat : Int)) ∧ wr.frozen? ⟨k, i, none⟩ = false := by
  obtain ⟨C, h1, h2, h3⟩ := h.blk
  constructor
  · rw [bcellAt h1, ← Array.getElem?_toList]
    have : (C.toList.take s.size)[i]? = (bv (lowL (s.data.toList.take i) ++ s.data.toList.drop i))[i]? := by rw [h3]
    rw [List.getElem?_take_of_lt (by omega)] at this
    rw [this, bv_append, List.getElem?_append_right (by rw [bv_len]; unfold lowL; rw [List.length_map, List.length_take]; omega)]
    have e2 : (bv (lowL (s.data.toList.take i))).length = i := by rw [bv_len]; unfold lowL; rw [List.length_map, List.length_take, nlen]; omega
    rw [e2, Nat.sub_self, List.drop_eq_getElem_cons (by rw [nlen]; exact hi)]
    rfl
  · simp [World.frozen?, h1]; omega
theorem LwB.done {w wr : World} {k : Nat} {s : ByteArray} (h : LwB w k s s.size wr) (cap : Nat) (hc : s.size ≤ cap) : SlB wr (.slice (some ⟨k, 0, none⟩) s.size cap) (lowL s.data.toList) := by
  obtain ⟨C, h1, h2, h3⟩ := h.blk
  have e : lowL (s.data.toList.take s.size) ++ s.data.toList.drop s.size = lowL s.data.toList := by
    rw [List.take_of_length_le (by rw [nlen]; exact Nat.le_refl _), List.drop_eq_nil_of_le (by rw [nlen]; exact Nat.le_refl _), List.append_nil]
  rw [e] at h3
  have hl : (lowL s.data.toList).length = s.size := by unfold lowL; rw [List.length_map, nlen]
  refine ⟨_, cap, by rw [hl], by rw [hl]; exact hc, by simp, fun ad had j u hu => ?_⟩
  cases had
  rw [Addr.add_lit, Nat.zero_add, bcellAt h1, ← Array.getElem?_toList]
  have hj : j < s.size := by have := (List.getElem?_eq_some_iff.1 hu).1; rw [bv_len, hl] at this; exact this
  rw [← List.getElem?_take_of_lt hj, h3]
  exact hu

end Go.Proofs.YtkhigfbmdolgmaaGreatDoor
namespace Go.Proofs.YtkhigfbmdolgmaaGreatDoor
open Go.RowKit

theorem rmay_any (s : ByteArray) (w : World) (hs : s.size ≤ 1000000) : Calls Tryz.prog 22 #[.string s] w fun e w' => e = .returned (.bool (may s)) ∧ w.grownBy w' none := by
  go_enter Tryz.func22, Tryz.ntmps22
  go_wp2_with fail
  refine (rlabs_any s w (by omega)).mono ?_
  rintro e w1 ⟨v, rfl, hg, _⟩
  go_wp2_with fail
  go_ret
  exact ⟨rfl, hg⟩

/-- The document's table at block b. -/
def tbv (T : Tb) : List Value := T.flatMap fun x => [.string x.1, .int .i64 (x.2 : Int)]
theorem tbv_len (T : Tb) : (tbv T).length = T.length * 2 := flat_len _ 2 (fun _ => rfl) T
structure RT (w : World) (b : Nat) (v : Value) (T : Tb) : Prop where
  cell : w.heap[b]? = some (.cells #[v] 64 (0, 0))
  row : w.ownsRow (b + 1) 91 2 v T.length (tbv T)
theorem RT.kept {w w' : World} {b : Nat} {v : Value} {T : Tb} {row : Option Nat} (h : RT w b v T) (g : w.grownBy w' row) (h1 : row ≠ some b) (h2 : v.ownBlock = none ∨ v.ownBlock ≠ row) : RT w' b v T := ⟨gblock g h.cell (fun e => h1 e.symm), World.ownsRow.kept h.row g h2⟩
theorem RT.kept0 {w w' : World} {b : Nat} {v : Value} {T : Tb} (h : RT w b v T) (g : w.grownBy w' none) : RT w' b v T := h.kept g (by simp) (by cases v.ownBlock <;> simp)
theorem RT.at {w : World} {b n cap : Nat} {A : Option Addr} {T : Tb} (h : RT w b (.slice A n cap) T) {i : Nat} (hi : i < T.length) : ∃ g, A = some ⟨g, 0, none⟩ ∧ w.cell? ⟨g, i * 2, none⟩ = some (.string T[i].1) ∧ w.cell? ⟨g, i * 2 + 1, none⟩ = some (.int .i64 (T[i].2 : Int)) := by
  obtain ⟨A', cap', e, _, _, h3, h4⟩ := (FS.of h.row).sl
  simp only [Value.slice.injEq] at e
  obtain ⟨rfl, rfl, rfl⟩ := e
  rcases h.row.2 with ⟨_, h2⟩ | ⟨g, cap2, cur, e, hb, hg, _, _, hcs, ht⟩
  · omega
  · simp only [Value.slice.injEq] at e
    obtain ⟨rfl, _, _⟩ := e
    have get := fun j hj => flat_get (fun x : ByteArray × Nat => [Value.string x.1, .int .i64 (x.2 : Int)]) 2 (fun _ => rfl) T i j hj T[i] (List.getElem?_eq_getElem hi)
    have cell := fun j (hj : j < 2) => show w.cell? ⟨g, i * 2 + j, none⟩ = [Value.string T[i].1, .int .i64 (T[i].2 : Int)][j]? by
      rw [bcellAt hg, ← Array.getElem?_toList, ← get j hj]
      show _ = (tbv T)[i * 2 + j]?
      rw [← ht, List.getElem?_take_of_lt (by omega)]
    exact ⟨g, rfl, cell 0 (by omega), cell 1 (by omega)⟩
theorem str_yes {a b : ByteArray} (h : a = b) : (a.toList == b.toList) = true := by subst h; simp
theorem tget_drop_hit {T : Tb} {i : Nat} {s : ByteArray} (hi : i < T.length) (h : T[i].1 = s) : tget (T.drop i) s = some T[i].2 := by
  unfold tget
  rw [List.drop_eq_getElem_cons hi, List.find?_cons]
  simp [h]
theorem tget_drop_miss {T : Tb} {i : Nat} {s : ByteArray} (hi : i < T.length) (h : ¬ T[i].1 = s) : tget (T.drop i) s = tget (T.drop (i + 1)) s := by
  unfold tget
  rw [List.drop_eq_getElem_cons hi, List.find?_cons]
  simp [h]
set_option maxRecDepth 100000 in
theorem rat_any (b : Nat) (v : Value) (T : Tb) (s : ByteArray) (w : World) (h : RT w b v T) (hl : T.length ≤ 1000000) : Calls Tryz.prog 26 #[.pointer (some ⟨b, 0, none⟩), .string s] w fun e w' => e = .returned (.tuple #[.int .i64 (((tget T s).getD 0 : Nat) : Int), .bool (tget T s).isSome]) ∧ w = w' := by
  have HT := Lib.hid h
  obtain ⟨A, cap, rfl, hcap, hcm⟩ := own_shape h.row
  unfold maxLen at hcm
  have c0 : w.cell? ⟨b, 0, none⟩ = some (.slice A T.length cap) := bcellAt h.cell 0
  clear h
  go_enter Tryz.func26, Tryz.ntmps26
  go_wp2_with fail
  go_loop [6] (fun vi => ∃ i : Nat, i ≤ T.length ∧ vi = .int .i64 i ∧ tget T s = tget (T.drop i) s) (fun vi => T.length - (intOf vi).toNat)
  case atStart => exact ⟨0, by omega, rfl, rfl⟩
  case round =>
    obtain ⟨i, hi, rfl, hr⟩ := hrel
    have HR := Lib.hid hr
    clear hr
    by_cases hlt : i < T.length
    · have k0 : decide ((i : Int) < (T.length : Int)) = true := by simp; omega
      obtain ⟨g, rfl, d0, d1⟩ := HT.out.at hlt
      by_cases he : T[i].1 = s
      · have z0 := str_yes he
        have HN := Lib.hid (HR.out.trans (tget_drop_hit hlt he))
        clear he
        generalize T[i].1 = q at *
        generalize T[i].2 = q2 at *
        go_wp2_with fail
        go_ret2
        rw [HN.out]
        exact ⟨rfl, rfl⟩
      · have z0 := str_ne he
        have HN := Lib.hid (HR.out.trans (tget_drop_miss hlt he))
        clear he
        generalize T[i].1 = q at *
        generalize T[i].2 = q2 at *
        go_wp2_with fail
        go_round
        case rel => exact ⟨i + 1, by omega, by go_num, HN.out⟩
        case measure => simp [intOf]; omega
    · have k0 : decide ((i : Int) < (T.length : Int)) = false := by simp; omega
      have HN := Lib.hid (HR.out.trans (show tget (T.drop i) s = none by rw [List.drop_of_length_le (by omega)]; rfl))
      go_wp2_with fail
      go_ret2
      rw [HN.out]
      exact ⟨rfl, rfl⟩
end Go.Proofs.YtkhigfbmdolgmaaGreatDoor
namespace Go.Proofs.YtkhigfbmdolgmaaGreatDoor
open Go.RowKit

theorem Tryz.infoEnt : (Tryz.prog.info? 91).map (fun i => (i.zero, i.size, i.bytes)) = some (some (.agg #[.string ByteArray.empty, .int .i64 0]), 2, 24) := by kernel_rfl
theorem tbv_snoc (T : Tb) (s : ByteArray) (p : Nat) : tbv (T ++ [(s, p)]) = tbv T ++ [.string s, .int .i64 (p : Int)] := by simp [tbv]
theorem suf_root {n : ByteArray} {p : Nat} (hsc : scan n p = true) (h0 : bt n p = 0) : suf n p = ⟨#[0]⟩ := by
  rw [suf_eq, drop_root hsc h0]
theorem suf_not {n : ByteArray} {p : Nat} (hsc : scan n p = true) (h0 : ¬ bt n p = 0) : ¬ suf n p = ⟨#[0]⟩ := by
  intro e
  have h1 := suf_sz n p
  rw [e] at h1
  obtain ⟨_, h2, _⟩ := scan_lab hsc h0
  have : (⟨#[0]⟩ : ByteArray).size = 1 := rfl
  omega
theorem suf_get {n : ByteArray} {p : Nat} : bt (suf n p) 0 = bt n p := by
  rw [suf_eq]
  unfold bt
  show ((n.data.toList.drop p)[0]?.getD 0).toNat = _
  rw [List.getElem?_drop]
  rfl
theorem suf_front {n : ByteArray} {p : Nat} (_h : p + 1 + bt n p ≤ n.size) : (suf n p).extract 0 (1 + bt n p) = ⟨(lab n p).toArray⟩ := by
  refine ba_ext ?_
  rw [Lib.extract_data, suf_list, lab_eq']
  simp
theorem suf_back {n : ByteArray} {p k : Nat} : (suf n p).extract k (suf n p).size = suf n (p + k) := by
  refine ba_ext ?_
  rw [Lib.extract_data, suf_list, suf_list, suf_sz, List.drop_drop]
  rw [List.take_of_length_le (by rw [List.length_drop, nlen]; omega)]
theorem str_lab' (out : List UInt8) (n : ByteArray) (p : Nat) : (⟨out.toArray⟩ : ByteArray) ++ (⟨(lab n p).toArray⟩ : ByteArray) = ⟨(out ++ lab n p).toArray⟩ := mk_append_list _ _
theorem ptr_str (k : Nat) (h : k ≤ 16383) : [Value.int .u8 (192 + (k : Int) / 256), Value.int .u8 ((k : Int) % 256)] = bv (ptrB k) := by
  simp [bv, ptrB]
  omega

/-- What the document's Put holds at its loop's head. -/
structure RpL (w : World) (b : Nat) (T : Tb) (a : List UInt8) (n : ByteArray) (cmp known : Bool) (p : Nat) (v : Value) (T' : Tb) (out : List UInt8) (wr : World) : Prop where
  sc : scan n p = true
  tab : RT wr b v T'
  low : Low T'
  gr : w.grownBy wr (some b)
  eq : putF n cmp known 0 T a = putF n cmp known p T' out
  few : T'.length + (n.size - p) ≤ T.length + n.size
  len : out.length ≤ a.length + p

theorem RpL.next {w wr w2 : World} {b : Nat} {T : Tb} {a : List UInt8} {n : ByteArray} {cmp known : Bool} {p : Nat} {v v2 : Value} {T' T2 : Tb} {out : List UInt8} (h : RpL w b T a n cmp known p v T' out wr) (h0 : ¬ bt n p = 0) (hc : tget T' (suf n p) = none ∨ cmp = false) (hT : tadd n known p T' out.length = T2) (k : RT w2 b v2 T2) (g : w.grownBy w2 (some b)) : RpL w b T a n cmp known (p + 1 + bt n p) v2 T2 (out ++ lab n p) w2 := by
  obtain ⟨h1, h2, h3⟩ := scan_lab h.sc h0
  refine ⟨h3, k, hT ▸ tadd_low h.low _ _ _ _, g, h.eq.trans ?_, ?_, ?_⟩
  · rw [← hT]; exact putF_step (by omega) h0 hc
  · have := h.few
    have := tadd_len n known p T' out.length
    rw [hT] at this
    omega
  · have := h.len
    rw [List.length_append, lab_len n p (by omega)]
    omega
theorem tbv_one (T : Tb) : ∀ u ∈ tbv T, u.oneCell' = true := by
  intro u hu
  unfold tbv at hu
  rw [List.mem_flatMap] at hu
  obtain ⟨x, _, hx⟩ := hu
  simp at hx
  rcases hx with rfl | rfl <;> rfl
theorem sl_pair (w : World) (e : TypeId) (u0 u1 : Value) : Sl (w.alloc (.cells #[u0, u1] e)) 2 (.slice (some ⟨w.heap.size, 0, none⟩) 1 1) 1 [u0, u1] := by
  refine ⟨_, _, rfl, Nat.le_refl _, rfl, by simp, fun _ => ⟨_, _, rfl, fun j u hu => ?_⟩⟩
  rw [bcellAt (balloc w (.cells #[u0, u1] e)), ← Array.getElem?_toList]
  simpa using hu

set_option maxRecDepth 100000 in
set_option maxHeartbeats 2000000 in
theorem rput_ok (b : Nat) (v : Value) (T : Tb) (a : List UInt8) (n : ByteArray) (cmp known : Bool) (w : World) (h : RT w b v T) (hlow : Low T) (hn : may n = true) (hT : T.length + n.size ≤ 1000000) (hal : a.length ≤ 1000000) :
    Calls Tryz.prog 14 #[.pointer (some ⟨b, 0, none⟩), .string ⟨a.toArray⟩, .string n, .bool cmp, .bool known] w fun e w' =>
      e = .returned (.tuple #[.string ⟨(putF n cmp known 0 T a).1.toArray⟩, .int .i64 0]) ∧ ∃ v', RT w' b v' (putF n cmp known 0 T a).2 ∧ w.grownBy w' (some b) := by
  obtain ⟨hn255, hsc⟩ := may_size hn
  have HT := Lib.hid h
  have HLow := Lib.hid hlow
  have hb := blt h.cell
  obtain ⟨i3, i3h, i3z, i3s, i3b⟩ := info_parts Tryz.infoEnt
  clear h hlow
  have hO : (⟨a.toArray⟩ : ByteArray).size = a.length := size_mk a
  go_enter Tryz.func14, Tryz.ntmps14
  go_wp2_with fail
  refine (rmay_any n w (by omega)).mono ?_
  rintro e w1 ⟨rfl, hg⟩
  have HL := Lib.hid (show RpL w b T a n cmp known 0 v T a w1 from ⟨hsc, HT.out.kept0 hg, HLow.out, gmono hg, rfl, by omega, by omega⟩)
  clear hg
  go_wp2_with fail
  go_loopw [1, 2] (fun vb vn wr => ∃ (p : Nat) (v' : Value) (T' : Tb) (out : List UInt8), vb = .string ⟨out.toArray⟩ ∧ vn = .string (suf n p) ∧ RpL w b T a n cmp known p v' T' out wr) (fun _ vn _ => (match vn with | .string s => s.size | _ => 0))
  case atStart => exact ⟨0, v, T, a, rfl, by rw [show suf n 0 = n by rw [suf_eq]; simp], HL.out⟩
  case round =>
    clear HL hO
    obtain ⟨p, v', T', out, rfl, rfl, hr⟩ := hrel
    have R0 := Lib.hid hr
    have hlt := scan_lt hr.sc
    have hbt := bt_lt n p
    have hlen := hr.len
    have hfew := hr.few
    obtain ⟨A, cap, rfl, hcap, hcm⟩ := own_shape hr.tab.row
    unfold maxLen at hcm
    have hO : (⟨out.toArray⟩ : ByteArray).size = out.length := size_mk out
    clear hr
    by_cases hz : bt n p = 0
    · have hsr := suf_root R0.out.sc hz
      have HN := Lib.hid (R0.out.eq.trans (putF_end hz))
      have HS := Lib.hid (str_end out)
      rw [hsr]
      generalize (⟨out.toArray⟩ : ByteArray) = O at *
      clear hsr
      go_wp2_with fail
      go_ret2
      rw [HN.out, HS.out]
      exact ⟨rfl, _, R0.out.tab, R0.out.gr⟩
    · have z0 : ((suf n p).toList == [0]) = false := by
        have e := str_ne (suf_not R0.out.sc hz)
        rwa [show (⟨#[0]⟩ : ByteArray).toList = [0] by rw [ByteArray.toList_eq]] at e
      have hx := scan_lab R0.out.sc hz
      have hss := suf_sz n p
      have hs1 : 2 + bt n p ≤ (suf n p).size := by omega
      have hs2 : (suf n p).size ≤ 255 := by omega
      have hsg := suf_get (n := n) (p := p)
      have hs0 : 0 < (suf n p).size := by omega
      have hg0 := (bt_get (suf n p) 0 hs0).symm
      have l1 := (suf n p)[0].toNat_lt
      rw [hsg] at hg0
      have HF := Lib.hid (suf_front (n := n) (p := p) (by omega))
      have HB := Lib.hid (suf_back (n := n) (p := p) (k := 1 + bt n p))
      have HSL := Lib.hid (str_lab' out n p)
      have hll := lab_len n p (by omega)
      clear hss
      generalize hSs : suf n p = S at *
      generalize hOo : (⟨out.toArray⟩ : ByteArray) = O at *
      go_wp2_with fail
      refine (rat_any b _ T' S wr R0.out.tab (by omega)).mono ?_
      rintro e w2 ⟨rfl, hq⟩
      subst hq
      cases hk : tget T' S with
      | some k =>
        have hkl : k ≤ 16383 := R0.out.low _ (tget_mem hk)
        simp only [Option.getD_some, Option.isSome_some]
        cases cmp with
        | true =>
          subst hSs
          have HN := Lib.hid (R0.out.eq.trans (putF_ptr hlt hz hk rfl))
          have hof := Lib.hid (ptr_str k hkl)
          have hcv := cvs (sl_new wr 5 (ptrB k) #[.int .u8 (192 + (k : Int) / 256), .int .u8 ((k : Int) % 256)] 2 (by exact hof.out) rfl)
          have hpz : (⟨(ptrB k).toArray⟩ : ByteArray).size = 2 := rfl
          have HS := Lib.hid (mk_append_list out (ptrB k))
          rw [hOo] at HS
          generalize (⟨(ptrB k).toArray⟩ : ByteArray) = PB at *
          go_wp2_with fail
          go_ret2
          rw [HN.out, ← HS.out]
          exact ⟨rfl, _, R0.out.tab.kept0 (galloc (grefl _ none) _), galloc R0.out.gr _⟩
        | false =>
          have RP := Lib.hid (R0.out.next (T2 := T') hz (.inr rfl) (by unfold tadd; rw [hSs, hk, if_neg (by simp)]) R0.out.tab R0.out.gr)
          cases known with
          | true =>
            have hXs : (S.extract 0 (1 + bt n p)).size = 1 + bt n p := by rw [ByteArray.size_extract]; omega
            have hYs : (S.extract (1 + bt n p) S.size).size = S.size - (1 + bt n p) := by rw [ByteArray.size_extract]; omega
            generalize hX : S.extract 0 (1 + bt n p) = X at *
            generalize hY : S.extract (1 + bt n p) S.size = Y at *
            go_wp2_with fail
            go_roundw
            case rel => exact ⟨p + 1 + bt n p, _, _, out ++ lab n p, by rw [← HSL.out, ← HF.out], by rw [hY, HB.out]; congr 2; omega, RP.out⟩
            case measure =>
              show (S.extract (1 + bt n p) S.size).size < S.size
              rw [hY]
              omega
          | false =>
            have hXs : (S.extract 0 (1 + bt n p)).size = 1 + bt n p := by rw [ByteArray.size_extract]; omega
            have hYs : (S.extract (1 + bt n p) S.size).size = S.size - (1 + bt n p) := by rw [ByteArray.size_extract]; omega
            generalize hX : S.extract 0 (1 + bt n p) = X at *
            generalize hY : S.extract (1 + bt n p) S.size = Y at *
            go_wp2_with fail
            go_roundw
            case rel => exact ⟨p + 1 + bt n p, _, _, out ++ lab n p, by rw [← HSL.out, ← HF.out], by rw [hY, HB.out]; congr 2; omega, RP.out⟩
            case measure =>
              show (S.extract (1 + bt n p) S.size).size < S.size
              rw [hY]
              omega
      | none =>
        simp only [Option.getD_none, Option.isSome_none]
        cases known with
        | true =>
          by_cases h16 : out.length ≤ 16383
          · have k16 : decide ((out.length : Int) ≤ 16383) = true := by simp; omega
            have hbw := blt R0.out.tab.cell
            have c0 : (wr.alloc (.cells #[] 91)).cell? ⟨b, 0, none⟩ = some (.slice A T'.length cap) := bcellAt (gblock (galloc (grefl wr none) _) R0.out.tab.cell (by simp)) 0
            go_wp2_with (at_builtin; refine wpList_app_k rfl (.tmp 52) (.tmp 56) 62 rfl wr.heap.size 91 i3 _ 2 24 Tryz.underlying62 i3h i3z i3s i3b rfl (by decide) _ 0 T'.length [] (tbv T') rfl (own_none wr _ _ 2 (Nat.le_refl _)) _ rfl ((FS.of R0.out.tab.row).sl.kept0 (galloc (grefl _ none) _)) (tbv_one T') ?y2 ?y3 ?y4 ?_)
            case y2 => unfold maxLen; omega
            case y3 => omega
            case y4 => simp
            intro v4 w4 ho4 hg4
            have G4 := Lib.hid (show wr.grownBy w4 none from gnew (gfr1 hg4) (fun r e => by simp [Value.ownBlock] at e; omega))
            have O4 := Lib.hid (show w4.ownsRow wr.heap.size 91 2 v4 T'.length (tbv T') by simpa using ho4)
            clear ho4 hg4 c0
            go_wp2_with (at_builtin; refine wpList_app_k rfl (.tmp 57) (.tmp 62) 62 rfl wr.heap.size 91 i3 _ 2 24 Tryz.underlying62 i3h i3z i3s i3b rfl (by decide) _ T'.length 1 (tbv T') [.string S, .int .i64 (out.length : Int)] rfl (own_kept0 O4.out (galloc (grefl _ none) _)) _ rfl (sl_pair w4 _ _ _) (by intro u hu; simp at hu; rcases hu with rfl | rfl <;> rfl) ?x2 ?x3 ?x4 ?_)
            case x2 => unfold maxLen; omega
            case x3 => omega
            case x4 => have := G4.out.size; simp; omega
            intro v5 w5 ho5 hg5
            have B5 := Lib.hid (show w5.heap[b]? = some (.cells #[.slice A T'.length cap] 64 (0, 0)) from gblock (gfr1 hg5) (gblock G4.out R0.out.tab.cell (by simp)) (fun e => by have := (World.ownsRow.lt O4.out b e.symm).1; omega))
            have G5 := Lib.hid (show w.grownBy w5 (some b) from gtrans R0.out.gr (gmono (gstep G4.out (gfr1 hg5) (fun r e => (World.ownsRow.lt O4.out r e).1))))
            have O5 := Lib.hid ho5
            obtain ⟨A5, c5, rfl, _, _⟩ := own_shape ho5
            have c0 : w5.cell? ⟨b, 0, none⟩ = some (.slice A T'.length cap) := bcellAt B5.out 0
            have f0 : w5.frozen? ⟨b, 0, none⟩ = false := bfree B5.out 0
            clear ho5 hg5
            have RP := Lib.hid (R0.out.next (T2 := T' ++ [(S, out.length)]) (w2 := w5.setCell ⟨b, 0, none⟩ (.slice A5 (T'.length + 1) c5)) (v2 := .slice A5 (T'.length + 1) c5) hz (.inl (by rw [hSs]; exact hk)) (by unfold tadd; rw [if_pos ⟨rfl, by rw [hSs]; exact hk, h16⟩, hSs])
              ⟨(bset B5.out 0 _).trans (by simp), by rw [List.length_append, tbv_snoc]; exact own_kept (row_base O5.out hbw) (gset (grefl w5 (some b)) (.inl rfl) _) (by omega)⟩ (gset G5.out (.inl rfl) _))
            have hXs : (S.extract 0 (1 + bt n p)).size = 1 + bt n p := by rw [ByteArray.size_extract]; omega
            have hYs : (S.extract (1 + bt n p) S.size).size = S.size - (1 + bt n p) := by rw [ByteArray.size_extract]; omega
            generalize hX : S.extract 0 (1 + bt n p) = X at *
            generalize hY : S.extract (1 + bt n p) S.size = Y at *
            go_wp2_with fail
            go_roundw
            case rel => exact ⟨p + 1 + bt n p, _, _, out ++ lab n p, by rw [← HSL.out, ← HF.out], by rw [hY, HB.out]; congr 2; omega, RP.out⟩
            case measure =>
              show (S.extract (1 + bt n p) S.size).size < S.size
              rw [hY]
              omega
          · have k16 : decide ((out.length : Int) ≤ 16383) = false := by simp; omega
            have RP := Lib.hid (R0.out.next (T2 := T') hz (.inl (by rw [hSs]; exact hk)) (by unfold tadd; rw [if_neg (by simp; omega)]) R0.out.tab R0.out.gr)
            have hXs : (S.extract 0 (1 + bt n p)).size = 1 + bt n p := by rw [ByteArray.size_extract]; omega
            have hYs : (S.extract (1 + bt n p) S.size).size = S.size - (1 + bt n p) := by rw [ByteArray.size_extract]; omega
            generalize hX : S.extract 0 (1 + bt n p) = X at *
            generalize hY : S.extract (1 + bt n p) S.size = Y at *
            go_wp2_with fail
            go_roundw
            case rel => exact ⟨p + 1 + bt n p, _, _, out ++ lab n p, by rw [← HSL.out, ← HF.out], by rw [hY, HB.out]; congr 2; omega, RP.out⟩
            case measure =>
              show (S.extract (1 + bt n p) S.size).size < S.size
              rw [hY]
              omega
        | false =>
          have RP := Lib.hid (R0.out.next (T2 := T') hz (.inl (by rw [hSs]; exact hk)) (by unfold tadd; rw [if_neg (by simp)]) R0.out.tab R0.out.gr)
          have hXs : (S.extract 0 (1 + bt n p)).size = 1 + bt n p := by rw [ByteArray.size_extract]; omega
          have hYs : (S.extract (1 + bt n p) S.size).size = S.size - (1 + bt n p) := by rw [ByteArray.size_extract]; omega
          generalize hX : S.extract 0 (1 + bt n p) = X at *
          generalize hY : S.extract (1 + bt n p) S.size = Y at *
          go_wp2_with fail
          go_roundw
          case rel => exact ⟨p + 1 + bt n p, _, _, out ++ lab n p, by rw [← HSL.out, ← HF.out], by rw [hY, HB.out]; congr 2; omega, RP.out⟩
          case measure =>
            show (S.extract (1 + bt n p) S.size).size < S.size
            rw [hY]
            omega

theorem rput_no (b : Nat) (s n : ByteArray) (cmp known : Bool) (w : World) (hn : may n = false) (hs : n.size ≤ 1000000) :
    Calls Tryz.prog 14 #[.pointer (some ⟨b, 0, none⟩), .string s, .string n, .bool cmp, .bool known] w fun e w' => e = .returned (.tuple #[.string ByteArray.empty, .int .i64 3]) ∧ w.grownBy w' none := by
  go_enter Tryz.func14, Tryz.ntmps14
  go_wp2_with fail
  refine (rmay_any n w hs).mono ?_
  rintro e w1 ⟨rfl, hg⟩
  go_wp2_with fail
  go_ret2
  exact ⟨rfl, hg⟩
end Go.Proofs.YtkhigfbmdolgmaaGreatDoor
