/-
  Names (layer 1): the document's Labels, Low, Bytes, Fold; the program's lower, Fold.
  The document's names: Labels, May; its table: At.
  The document's table: Put.
-/
import Derived.Test.YtomjiephbacocaaDoorA4
import Derived.Test.YtomjiephbacocaaDoorA5
import Derived.Test.YtomjiephbacocaaDoorA3
import Derived.Test.YtomjiephbacocaaDoorA2
import Derived.Maps.AppendAt
import Derived.Laws.IdiomStrings
namespace Go.Proofs.YtomjiephbacocaaDoor
open Go.RowKit

theorem Tryd.infoS : (Tryd.prog.info? 9).map (fun i => (i.zero, i.size, i.bytes)) = some (some (.string ByteArray.empty), 1, 16) := by kernel_rfl
def strs (l : List ByteArray) : List Value := l.map .string
theorem strs_len (l : List ByteArray) : (strs l).length = l.length := by simp [strs]
def LbPost (s : ByteArray) (w : World) (e : Ending) (w' : World) : Prop := ∃ v, e = .returned (.tuple #[v, .bool (may s)]) ∧ w.grownBy w' none ∧ (may s = true → w'.ownsRow w.heap.size 9 1 v (lbs s 0).length (strs (lbs s 0)))

set_option maxRecDepth 100000 in
set_option maxHeartbeats 1000000 in
theorem rlabs_any (s : ByteArray) (w : World) (hs : s.size ≤ 2000000) : Calls Tryd.prog 33 #[.string s] w (LbPost s w) := by
  obtain ⟨i2, i2h, i2z, i2s, i2b⟩ := info_parts Tryd.infoS
  go_enter Tryd.func33, Tryd.ntmps33
  go_wp2_with fail
  go_loopw [4, 5] (fun vo vp wr => ∃ (p : Nat) (xs : List ByteArray), vp = .int .i64 p ∧ p ≤ s.size ∧ xs.length ≤ p ∧ w.grownBy wr none ∧ wr.ownsRow w.heap.size 9 1 vo xs.length (strs xs) ∧ (scan s 0 = scan s p ∧ lbs s 0 = xs ++ lbs s p)) (fun _ vp _ => s.size - (intOf vp).toNat)
  case atStart => exact ⟨0, [], rfl, by omega, by simp, grefl _ _, World.ownsRow_nil _ _ _ _, rfl, rfl⟩
  case round =>
    obtain ⟨p, xs, rfl, hp, hnp, hgr, hown, hr⟩ := hrel
    have HR := Lib.hid hr
    have HG := Lib.hid hgr
    have HO := Lib.hid hown
    obtain ⟨A, cap, rfl, hcap, hcm⟩ := own_shape hown
    unfold maxLen at hcm
    clear hr hgr hown
    by_cases hlt : p < s.size
    · have k0 : decide ((p : Int) < (s.size : Int)) = true := by simp; omega
      have hg := (bt_get s p hlt).symm
      have hb := bt_lt s p
      have l1 := s[p].toNat_lt
      by_cases hz : bt s p = 0
      · have z0 : (((bt s p : Nat) : Int) != 0) = false := by simp; omega
        have HN := Lib.hid (HR.out.1.trans (scan_end hlt hz))
        by_cases he : p + 1 = s.size
        · have e1 : ((p : Int) != (s.size : Int) - 1) = false := by simp; omega
          by_cases h5 : 255 < s.size
          · have k5 : decide ((255 : Int) < (s.size : Int)) = true := by simp; omega
            go_wp2_with fail
            go_ret2
            have : may s = false := by unfold may; simp; omega
            exact ⟨.slice none 0 0, by rw [this]; rfl, HG.out, fun h => by rw [this] at h; cases h⟩
          · have k5 : decide ((255 : Int) < (s.size : Int)) = false := by simp; omega
            have HL := Lib.hid (show lbs s 0 = xs by rw [HR.out.2, lbs_end hz, List.append_nil])
            go_wp2_with fail
            go_ret2
            have : may s = true := by unfold may; rw [HN.out]; simp; omega
            exact ⟨.slice A xs.length cap, by rw [this]; rfl, HG.out, fun _ => by rw [HL.out]; exact HO.out⟩
        · have e1 : ((p : Int) != (s.size : Int) - 1) = true := by simp; omega
          go_wp2_with fail
          go_ret2
          have : may s = false := by unfold may; rw [HN.out]; simp; omega
          exact ⟨.slice none 0 0, by rw [this]; rfl, HG.out, fun h => by rw [this] at h; cases h⟩
      · have z0 : (((bt s p : Nat) : Int) != 0) = true := by simp; omega
        by_cases hbig : 63 < bt s p
        · have k1 : decide ((63 : Int) < ((bt s p : Nat) : Int)) = true := by simp; omega
          have HN := Lib.hid (HR.out.1.trans (scan_big hlt hbig))
          go_wp2_with fail
          go_ret2
          have : may s = false := by unfold may; rw [HN.out]; simp
          exact ⟨.slice none 0 0, by rw [this]; rfl, HG.out, fun h => by rw [this] at h; cases h⟩
        · have k1 : decide ((63 : Int) < ((bt s p : Nat) : Int)) = false := by simp; omega
          have HN := Lib.hid (show scan s 0 = scan s (p + 1 + bt s p) ∧ lbs s 0 = (xs ++ [s.extract (p + 1) (p + 1 + bt s p)]) ++ lbs s (p + 1 + bt s p) from ⟨HR.out.1.trans (scan_step hlt hz (by omega)), by rw [HR.out.2, lbs_step hlt hz, List.append_assoc]; rfl⟩)
          by_cases hfit : p + 1 + bt s p ≤ s.size
          · have k2 : decide ((s.size : Int) < (p : Int) + 1 + ((bt s p : Nat) : Int)) = false := by simp; omega
            go_wp2_with (at_builtin; refine wpList_append_own_at _ rfl (.tmp 32) (.tmp 41) 25 rfl w.heap.size 9 i2 _ 1 16 Tryd.underlying25 i2h i2z i2s i2b rfl (by decide) _ xs.length (strs xs) rfl (own_kept0 HO.out (galloc (grefl _ none) _)) ⟨_, 0, none⟩ 1 1 [.string (s.extract (p + 1) (p + 1 + bt s p))] rfl rfl (cell_one_new _ _ _) (by intro u hu; simp at hu; subst hu; rfl) (by unfold maxLen; omega) (by omega) (by have := HG.out.size; simp; omega) ?_)
            intro v6 w6 ho6 hg6 _ _
            have G6 := Lib.hid (show w.grownBy w6 none from gstep HG.out (gfr1 hg6) (fun r e => (World.ownsRow.lt HO.out r e).1))
            have O6 := Lib.hid ho6
            obtain ⟨A6, c6, rfl, _, _⟩ := own_shape ho6
            clear ho6 hg6
            go_wp2_with fail
            go_roundw
            case rel => exact ⟨p + 1 + bt s p, xs ++ [s.extract (p + 1) (p + 1 + bt s p)], by go_num, hfit, by simp; omega, G6.out, by simpa [strs] using O6.out, HN.out⟩
            case measure => simp [intOf]; omega
          · have k2 : decide ((s.size : Int) < (p : Int) + 1 + ((bt s p : Nat) : Int)) = true := by simp; omega
            go_wp2_with fail
            go_ret2
            have : may s = false := by unfold may; rw [HN.out.1, scan_out (by omega)]; simp
            exact ⟨.slice none 0 0, by rw [this]; rfl, HG.out, fun h => by rw [this] at h; cases h⟩
    · have k0 : decide ((p : Int) < (s.size : Int)) = false := by simp; omega
      have e1 : ((p : Int) != (s.size : Int) - 1) = true := by simp; omega
      have HN := Lib.hid (HR.out.1.trans (scan_out (by omega)))
      go_wp2_with fail
      go_ret2
      have : may s = false := by unfold may; rw [HN.out]; simp
      exact ⟨.slice none 0 0, by rw [this]; rfl, HG.out, fun h => by rw [this] at h; cases h⟩

theorem low_up (c : UInt8) (h1 : 65 ≤ c.toNat) (h2 : c.toNat ≤ 90) : ((low c).toNat : Int) = (c.toNat : Int) + 32 := by
  unfold low
  rw [if_pos ⟨h1, h2⟩]
  simp [UInt8.toNat_add]
  omega
theorem low_no (c : UInt8) (h : ¬ (65 ≤ c.toNat ∧ c.toNat ≤ 90)) : low c = c := if_neg h
theorem lowL_snoc (s : ByteArray) (i : Nat) (h : i < s.size) : lowL (s.data.toList.take (i + 1)) = lowL (s.data.toList.take i) ++ [low s[i]] := by
  unfold lowL
  rw [take_snoc s i h, List.map_append]
  rfl

set_option maxRecDepth 100000 in
set_option maxHeartbeats 1000000 in
theorem rlow_any (s : ByteArray) (w : World) (hs : s.size ≤ 2000000) : Calls Tryd.prog 53 #[.string s] w fun e w' => e = .returned (.string (lowB s)) ∧ w.grownBy w' none := by
  go_enter Tryd.func53, Tryd.ntmps53
  go_wp2_with fail
  go_loopw [3, 4] (fun vo vi wr => ∃ i : Nat, vi = .int .i64 i ∧ i ≤ s.size ∧ w.grownBy wr none ∧ vo = .string ⟨(lowL (s.data.toList.take i)).toArray⟩) (fun _ vi _ => s.size - (intOf vi).toNat)
  case atStart => exact ⟨0, rfl, by omega, grefl _ _, rfl⟩
  case round =>
    obtain ⟨i, rfl, hi, hgr, rfl⟩ := hrel
    have HG := Lib.hid hgr
    clear hgr
    have hOs : (⟨(lowL (s.data.toList.take i)).toArray⟩ : ByteArray).size ≤ 2000000 := by rw [size_mk]; simp [lowL]; omega
    by_cases hlt : i < s.size
    · have k0 : decide ((i : Int) < (s.size : Int)) = true := by simp; omega
      have HS := Lib.hid (lowL_snoc s i hlt)
      have HA := Lib.hid (mk_append_list (lowL (s.data.toList.take i)) [low s[i]])
      have hb := s[i].toNat_lt
      have hsz : (⟨[low s[i]].toArray⟩ : ByteArray).size = 1 := rfl
      by_cases hc : 65 ≤ s[i].toNat ∧ s[i].toNat ≤ 90
      · obtain ⟨h1, h2⟩ := hc
        have q1 : decide ((65 : Int) ≤ (s[i].toNat : Int)) = true := by simp; omega
        have q2 : decide ((s[i].toNat : Int) ≤ 90) = true := by simp; omega
        have hcv := cvs (sl_new wr 5 [low s[i]] #[.int .u8 ((s[i].toNat : Int) + 32)] 1 (by rw [← low_up _ h1 h2]; rfl) rfl)
        generalize (⟨[low s[i]].toArray⟩ : ByteArray) = C at *
        generalize (⟨(lowL (s.data.toList.take i)).toArray⟩ : ByteArray) = O at *
        go_wp2_with fail
        go_roundw
        case rel => exact ⟨i + 1, by go_num, by omega, galloc HG.out _, by rw [HS.out, ← HA.out]⟩
        case measure => simp [intOf]; omega
      · have HL := Lib.hid (low_no _ hc)
        rw [HL.out] at HA hsz
        have hcv := cvs (sl_new wr 5 [s[i]] #[.int .u8 (s[i].toNat : Int)] 1 rfl rfl)
        rw [HL.out] at HS
        generalize (⟨[s[i]].toArray⟩ : ByteArray) = C at *
        generalize (⟨(lowL (s.data.toList.take i)).toArray⟩ : ByteArray) = O at *
        by_cases h1 : 65 ≤ s[i].toNat
        · have q1 : decide ((65 : Int) ≤ (s[i].toNat : Int)) = true := by simp; omega
          have q2 : decide ((s[i].toNat : Int) ≤ 90) = false := by simp; omega
          clear hc
          go_wp2_with fail
          go_roundw
          case rel => exact ⟨i + 1, by go_num, by omega, galloc HG.out _, by rw [HS.out, ← HA.out]⟩
          case measure => simp [intOf]; omega
        · have q1 : decide ((65 : Int) ≤ (s[i].toNat : Int)) = false := by simp; omega
          clear hc
          go_wp2_with fail
          go_roundw
          case rel => exact ⟨i + 1, by go_num, by omega, galloc HG.out _, by rw [HS.out, ← HA.out]⟩
          case measure => simp [intOf]; omega
    · have k0 : decide ((i : Int) < (s.size : Int)) = false := by simp; omega
      have e : s.data.toList.take i = s.data.toList := List.take_of_length_le (by rw [nlen]; omega)
      have HE := Lib.hid (show (⟨(lowL (s.data.toList.take i)).toArray⟩ : ByteArray) = lowB s by rw [e]; rfl)
      clear e
      generalize (⟨(lowL (s.data.toList.take i)).toArray⟩ : ByteArray) = O at *
      go_wp2_with fail
      go_ret
      exact ⟨by rw [← HE.out]; rfl, HG.out⟩

set_option maxRecDepth 100000 in
set_option maxHeartbeats 1000000 in
theorem rbytes_any (v : Value) (l : List ByteArray) (w : World) (h : FS w 0 9 1 v l.length (strs l)) (hl : l.length ≤ 1000) (hx : ∀ x ∈ l, x.size ≤ 255) : Calls Tryd.prog 47 #[v] w fun e w' => e = .returned (.string ⟨(bytesF l).toArray⟩) ∧ w.grownBy w' none := by
  have HF := Lib.hid h
  obtain ⟨A, cap, rfl⟩ := h.len
  clear h
  go_enter Tryd.func47, Tryd.ntmps47
  go_wp2_with fail
  go_loopw [3, 4] (fun vo vi wr => ∃ (i : Nat) (o : List UInt8), vi = .int .i64 i ∧ i ≤ l.length ∧ w.grownBy wr none ∧ vo = .string ⟨o.toArray⟩ ∧ o.length ≤ 256 * i ∧ o = (l.take i).flatMap fun x => UInt8.ofNat x.size :: x.data.toList) (fun _ vi _ => l.length - (intOf vi).toNat)
  case atStart => exact ⟨0, [], rfl, by omega, grefl _ _, rfl, by simp, by simp⟩
  case round =>
    obtain ⟨i, o, rfl, hi, hgr, rfl, hol, ho⟩ := hrel
    have HG := Lib.hid hgr
    have HO := Lib.hid ho
    clear hgr ho
    have hOs : (⟨o.toArray⟩ : ByteArray).size ≤ 1000000 := by rw [size_mk]; omega
    by_cases hlt : i < l.length
    · have k0 : decide ((i : Int) < (l.length : Int)) = true := by simp; omega
      have hxs := hx l[i] (List.getElem_mem hlt)
      have HS := Lib.hid (show ((l.take (i + 1)).flatMap fun x => UInt8.ofNat x.size :: x.data.toList) = o ++ ([UInt8.ofNat l[i].size] ++ l[i].data.toList) by rw [List.take_succ_eq_append_getElem hlt, bytesF_snoc, HO.out]; rfl)
      have HA := Lib.hid (mk_append_list o [UInt8.ofNat l[i].size])
      have HB := Lib.hid (mk_append_list (o ++ [UInt8.ofNat l[i].size]) l[i].data.toList)
      have hX : (⟨l[i].data.toList.toArray⟩ : ByteArray) = l[i] := rfl
      rw [hX] at HB
      clear hX
      obtain ⟨c0⟩ : Nonempty (∃ g, A = some ⟨g, 0, none⟩ ∧ wr.cell? ⟨g, i, none⟩ = some (.string l[i])) := ⟨by
        obtain ⟨h1, h2⟩ := HF.out.kept0 HG.out
        rcases h2 with ⟨_, h2⟩ | ⟨g, cap', cur, e, hb, hg, hc1, hc2, ht⟩
        · omega
        · simp only [Value.slice.injEq] at e
          obtain ⟨rfl, _, _⟩ := e
          refine ⟨g, rfl, ?_⟩
          rw [bcellAt hg, ← Array.getElem?_toList]
          have : (cur.toList.take (l.length * 1))[i]? = (strs l)[i]? := by rw [ht]
          rw [List.getElem?_take_of_lt (by omega)] at this
          rw [this]
          simp [strs, hlt]⟩
      obtain ⟨g, rfl, c0⟩ := c0
      generalize l[i] = X at *
      have hsz : (⟨[UInt8.ofNat X.size].toArray⟩ : ByteArray).size = 1 := rfl
      have hBs : (⟨(o ++ [UInt8.ofNat X.size]).toArray⟩ : ByteArray).size ≤ 1000000 := by rw [size_mk]; simp; omega
      have hu : (UInt8.ofNat X.size).toNat = X.size := by simp; omega
      have hcv0 := fun w0 => sl_new w0 5 [UInt8.ofNat X.size] #[.int .u8 (X.size : Int)] 1 (by show _ = [Value.int .u8 ((UInt8.ofNat X.size).toNat : Int)]; rw [hu]) rfl
      clear hu
      rw [← HA.out] at HB hBs
      have hol' := hol
      have HZ := Lib.hid hol'
      go_wp2_with fail
      refine wp_region_segs [(true, [0, 1, 2, 3, 4, 10, 11, 12, 13]), (false, [5]), (true, [6]), (false, [7]), (true, [8, 9, 14, 15])] (by kernel_rfl) (by kernel_rfl) ?_
      have HG2 := Lib.hid (gdrew HG.out)
      have c1 : ∀ g' : Gr wr.drew, g'.w.cell? ⟨g, i, none⟩ = some (.string X) := Gr.cell c0
      clear c0 HG
      generalize wr.drew = w2 at *
      refine wpSegs_quiet rfl ?_
      simp only [List.filterMap_cons, List.filterMap_nil, List.getElem?_toArray, List.getElem?_cons_succ, List.getElem?_cons_zero]
      show wpQuiet _ _ _ _ [_, _, _, _, _, _, _, _, _] _
      repeat (go_big_quiet_step (fail))
      refine wpQuiet_nil ?_
      clear c1
      refine wpSegs_one (by simp only [List.getElem?_toArray, List.getElem?_cons_succ, List.getElem?_cons_zero]; exact rfl) ?_
      go_wp2_with fail
      refine ⟨grefl _ _, ?_⟩
      refine wpSegs_quiet rfl ?_
      simp only [List.filterMap_cons, List.filterMap_nil, List.getElem?_toArray, List.getElem?_cons_succ, List.getElem?_cons_zero]
      show wpQuiet _ _ _ _ [_] _
      repeat (go_big_quiet_step (fail))
      refine wpQuiet_nil ?_
      refine wpSegs_one (by simp only [List.getElem?_toArray, List.getElem?_cons_succ, List.getElem?_cons_zero]; exact rfl) ?_
      go_wp2_with fail
      refine ⟨galloc (grefl _ none) _, ?_⟩
      have hcv := fun g' : Gr (w2.alloc (.cells #[.int .u8 (X.size : Int)] 5)) => cvs ((hcv0 w2).kept0 g'.h)
      clear hcv0
      refine wpSegs_quiet rfl ?_
      simp only [List.filterMap_cons, List.filterMap_nil, List.getElem?_toArray, List.getElem?_cons_succ, List.getElem?_cons_zero]
      show wpQuiet _ _ _ _ [_, _, _, _] _
      generalize (⟨[UInt8.ofNat X.size].toArray⟩ : ByteArray) = C at *
      generalize (⟨o.toArray⟩ : ByteArray) = O at *
      repeat (go_big_quiet_step (fail))
      refine wpQuiet_nil ?_
      refine wpSegs_done ?_
      clear hcv
      go_wp2_with fail
      go_roundw
      case rel => exact ⟨i + 1, _, by go_num, by omega, galloc HG2.out _, by rw [HB.out], by simp only [List.length_append, List.length_cons, List.length_nil, nlen]; omega, by rw [HS.out, List.append_assoc]⟩
      case measure => simp [intOf]; omega
    · have k0 : decide ((i : Int) < (l.length : Int)) = false := by simp; omega
      have HL := Lib.hid (show (⟨o.toArray⟩ : ByteArray) ++ (⟨[0].toArray⟩ : ByteArray) = ⟨(bytesF l).toArray⟩ by rw [mk_append_list, HO.out, List.take_of_length_le (by omega)]; rfl)
      generalize (⟨o.toArray⟩ : ByteArray) = O at *
      go_wp2_with fail
      go_ret
      exact ⟨by rw [← HL.out]; rfl, HG.out⟩

set_option maxRecDepth 100000 in
set_option maxHeartbeats 1000000 in
theorem rfold_any (s : ByteArray) (w : World) (hs : s.size ≤ 2000000) : Calls Tryd.prog 46 #[.string s] w fun e w' => e = .returned (.string (foldB s)) ∧ w.grownBy w' none := by
  obtain ⟨i2, i2h, i2z, i2s, i2b⟩ := info_parts Tryd.infoS
  cases hm : may s with
  | false =>
    have HM := Lib.hid hm
    have HL := Lib.hid (rlabs_any s w hs)
    unfold LbPost at HL
    rw [hm] at HL
    clear hm
    go_enter Tryd.func46, Tryd.ntmps46
    go_wp2_with fail
    refine Calls.mono HL.out ?_
    rintro e w1 ⟨v, rfl, hg, _⟩
    have G1 := Lib.hid hg
    clear hg HL
    go_wp2_with fail
    go_ret
    exact ⟨by rw [foldB_no HM.out]; rfl, G1.out⟩
  | true =>
    have HM := Lib.hid hm
    have HL := Lib.hid (rlabs_any s w hs)
    unfold LbPost at HL
    rw [hm] at HL
    have HF := Lib.hid (fold_bytes hm)
    have hms := may_size hm
    have hlen := lbs_len (s := s) _ 0 rfl
    have hls := lbs_size (s := s) _ 0 rfl hms.2
    have hs5 := hms.1
    clear hm hms
    generalize lbs s 0 = l at *
    have HX := Lib.hid hls
    clear hls
    go_enter Tryd.func46, Tryd.ntmps46
    go_wp2_with fail
    refine Calls.mono HL.out ?_
    rintro e w1 ⟨v, rfl, hg, ho⟩
    have G1 := Lib.hid hg
    have O1 := Lib.hid (ho trivial)
    obtain ⟨A, cap, rfl, _, _⟩ := own_shape O1.out
    clear hg HL ho
    go_wp2_with fail
    go_loopw [5, 6] (fun vo vi wr => ∃ i : Nat, vi = .int .i64 i ∧ i ≤ l.length ∧ w.grownBy wr none ∧ w1.grownBy wr none ∧ wr.ownsRow w1.heap.size 9 1 vo i (strs ((l.take i).map lowB))) (fun _ vi _ => l.length - (intOf vi).toNat)
    case atStart => exact ⟨0, rfl, by omega, G1.out, grefl _ _, World.ownsRow_nil _ _ _ _⟩
    case round =>
      obtain ⟨i, rfl, hi, hgr, hg1, hown⟩ := hrel
      have HG := Lib.hid hgr
      have HG1 := Lib.hid hg1
      have HO := Lib.hid hown
      obtain ⟨Ao, co, rfl, hco, hcm⟩ := own_shape hown
      unfold maxLen at hcm
      clear hgr hg1 hown
      by_cases hlt : i < l.length
      · have k0 : decide ((i : Int) < (l.length : Int)) = true := by simp; omega
        obtain ⟨g, rfl, c0⟩ : ∃ g, A = some ⟨g, 0, none⟩ ∧ wr.cell? ⟨g, i, none⟩ = some (.string l[i]) := by
          obtain ⟨h1, h2⟩ := own_kept0 O1.out HG1.out
          rcases h2 with ⟨_, h2⟩ | ⟨g, cap', cur, e, hb, hg, hc1, hc2, _, ht⟩
          · omega
          · simp only [Value.slice.injEq] at e
            obtain ⟨rfl, _, _⟩ := e
            refine ⟨g, rfl, ?_⟩
            rw [bcellAt hg, ← Array.getElem?_toList]
            have : (cur.toList.take (l.length * 1))[i]? = (strs l)[i]? := by rw [ht]
            rw [List.getElem?_take_of_lt (by omega)] at this
            rw [this]
            simp [strs, hlt]
        have hxs := (HX.out l[i] (List.getElem_mem hlt)).1
        have HS := Lib.hid (show strs ((l.take (i + 1)).map lowB) = strs ((l.take i).map lowB) ++ [.string (lowB l[i])] by rw [List.take_succ_eq_append_getElem hlt]; unfold strs; rw [List.map_append, List.map_append]; rfl)
        have HR := Lib.hid (rlow_any l[i] wr (by omega))
        generalize l[i] = X at *
        go_wp2_with fail
        refine Calls.mono HR.out ?_
        rintro e w2 ⟨rfl, hg⟩
        have G2 := Lib.hid (gtrans HG.out hg)
        have G12 := Lib.hid (gtrans HG1.out hg)
        have O2 := Lib.hid (own_kept0 HO.out hg)
        clear hg c0 HG HG1 HO HR
        go_wp2_with (at_builtin; refine wpList_append_own_at _ rfl (.tmp 20) (.tmp 26) 25 rfl w1.heap.size 9 i2 _ 1 16 Tryd.underlying25 i2h i2z i2s i2b rfl (by decide) _ i (strs ((l.take i).map lowB)) rfl (own_kept0 O2.out (galloc (grefl _ none) _)) ⟨_, 0, none⟩ 1 1 [.string (lowB X)] rfl rfl (cell_one_new _ _ _) (by intro u hu; simp at hu; subst hu; rfl) (by unfold maxLen; omega) (by omega) (by have := G12.out.size; simp; omega) ?_)
        intro v6 w6 ho6 hg6 _ _
        have G6 := Lib.hid (show w.grownBy w6 none from gstep G2.out (gfr1 hg6) (fun r e => by have := (World.ownsRow.lt O2.out r e).1; have := G1.out.size; omega))
        have G16 := Lib.hid (show w1.grownBy w6 none from gstep G12.out (gfr1 hg6) (fun r e => (World.ownsRow.lt O2.out r e).1))
        have O6 := Lib.hid ho6
        obtain ⟨A6, c6, rfl, _, _⟩ := own_shape ho6
        clear ho6 hg6
        go_wp2_with fail
        go_roundw
        case rel => exact ⟨i + 1, by go_num, by omega, G6.out, G16.out, by rw [HS.out]; simpa only [List.map_take] using O6.out⟩
        case measure => simp [intOf]; omega
      · have k0 : decide ((i : Int) < (l.length : Int)) = false := by simp; omega
        have hil : i = l.length := by omega
        have O2 := HO.out
        rw [hil, List.take_length] at O2
        have HR := Lib.hid (rbytes_any (.slice Ao i co) (l.map lowB) wr (by
          have := FS.mono (base' := 0) (FS.of O2) (Nat.zero_le _)
          rw [List.length_map, hil]; exact this) (by rw [List.length_map]; omega) (by
          intro x hx
          obtain ⟨y, hy, rfl⟩ := List.mem_map.1 hx
          rw [lowB_size]
          have := (HX.out y hy).1
          omega))
        rw [HF.out] at HR
        clear O2 hil
        go_wp2_with fail
        refine Calls.mono HR.out ?_
        rintro e w2 ⟨rfl, hg⟩
        have G2 := Lib.hid (gtrans HG.out hg)
        clear hg HR
        go_wp2_with fail
        go_ret
        exact ⟨rfl, G2.out⟩

/-- The own bytes of 'lower': the first i are folded. -/
structure LwB (w : World) (k : Nat) (s : ByteArray) (i : Nat) (wr : World) : Prop where
  gr : w.grownBy wr none
  lk : w.heap.size ≤ k
  blk : ∃ C : Array Value, wr.heap[k]? = some (.cells C 5 (C.size, C.size + 1)) ∧ s.size ≤ C.size ∧ C.toList.take s.size = bv (lowL (s.data.toList.take i) ++ s.data.toList.drop i)
theorem LwB.step {w wr : World} {k i : Nat} {s : ByteArray} (h : LwB w k s i wr) (hi : i < s.size) (v : Value) (hv : v = .int .u8 (low s[i]).toNat) : LwB w k s (i + 1) (wr.setCell ⟨k, i, none⟩ v) := by
  obtain ⟨C, h1, h2, h3⟩ := h.blk
  refine ⟨gnew (gset (gmono (row := some k) h.gr) (.inl rfl) _) (fun b e => by cases e; exact h.lk), h.lk, C.setIfInBounds i v, ?_, by simpa using h2, ?_⟩
  · have := bset h1 i v
    simpa using this
  · rw [Array.toList_setIfInBounds, List.take_set, h3]
    have e1 : s.data.toList.drop i = s[i] :: s.data.toList.drop (i + 1) := by
      rw [List.drop_eq_getElem_cons (by rw [nlen]; exact hi)]; rfl
    have e2 : (bv (lowL (s.data.toList.take i))).length = i := by rw [bv_len]; unfold lowL; rw [List.length_map, List.length_take, nlen]; omega
    rw [e1, bv_append, lowL_snoc s i hi, bv_append, bv_append, List.set_append_right _ _ (by omega), e2]
    simp [bv, hv]
theorem LwB.same {w wr : World} {k i : Nat} {s : ByteArray} (h : LwB w k s i wr) (hi : i < s.size) (hl : low s[i] = s[i]) : LwB w k s (i + 1) wr := by
  obtain ⟨C, h1, h2, h3⟩ := h.blk
  refine ⟨h.gr, h.lk, C, h1, h2, ?_⟩
  rw [h3, lowL_snoc s i hi, hl, List.append_assoc]
  congr 2
  rw [List.drop_eq_getElem_cons (by rw [nlen]; exact hi)]
  rfl
theorem LwB.at {w wr : World} {k i : Nat} {s : ByteArray} (h : LwB w k s i wr) (hi : i < s.size) : wr.cell? ⟨k, i, none⟩ = some (.int .u8 (s[i].toNat : Int)) ∧ wr.frozen? ⟨k, i, none⟩ = false := by
  obtain ⟨C, h1, h2, h3⟩ := h.blk
  constructor
  · rw [bcellAt h1, ← Array.getElem?_toList]
    have : (C.toList.take s.size)[i]? = (bv (lowL (s.data.toList.take i) ++ s.data.toList.drop i))[i]? := by rw [h3]
    rw [List.getElem?_take_of_lt (by omega)] at this
    rw [this, bv_append, List.getElem?_append_right (by rw [bv_len]; unfold lowL; rw [List.length_map, List.length_take]; omega)]
    have e2 : (bv (lowL (s.data.toList.take i))).length = i := by rw [bv_len]; unfold lowL; rw [List.length_map, List.length_take, nlen]; omega
    rw [e2, Nat.sub_self, List.drop_eq_getElem_cons (by rw [nlen]; exact hi)]
    rfl
  · simp [World.frozen?, h1]; omega
theorem LwB.done {w wr : World} {k : Nat} {s : ByteArray} (h : LwB w k s s.size wr) (cap : Nat) (hc : s.size ≤ cap) : SlB wr (.slice (some ⟨k, 0, none⟩) s.size cap) (lowL s.data.toList) := by
  obtain ⟨C, h1, h2, h3⟩ := h.blk
  have e : lowL (s.data.toList.take s.size) ++ s.data.toList.drop s.size = lowL s.data.toList := by
    rw [List.take_of_length_le (by rw [nlen]; exact Nat.le_refl _), List.drop_eq_nil_of_le (by rw [nlen]; exact Nat.le_refl _), List.append_nil]
  rw [e] at h3
  have hl : (lowL s.data.toList).length = s.size := by unfold lowL; rw [List.length_map, nlen]
  refine ⟨_, cap, by rw [hl], by rw [hl]; exact hc, by simp, fun ad had j u hu => ?_⟩
  cases had
  rw [Addr.add_lit, Nat.zero_add, bcellAt h1, ← Array.getElem?_toList]
  have hj : j < s.size := by have := (List.getElem?_eq_some_iff.1 hu).1; rw [bv_len, hl] at this; exact this
  rw [← List.getElem?_take_of_lt hj, h3]
  exact hu

set_option maxRecDepth 100000 in
set_option maxHeartbeats 1000000 in
theorem lower_any (s : ByteArray) (w : World) (hs : s.size ≤ 2000000) : Calls Tryd.prog 48 #[.string s] w fun e w' => e = .returned (.string (lowB s)) ∧ w.grownBy w' none := by
  have hcv := run_bytes_of_string (P := Tryd.prog) w 9 40 5 s Tryd.underlying9 Tryd.underlying40 Tryd.underlying5
  have hcap := grownCap_ge w s.size 0 5
  go_enter Tryd.func48, Tryd.ntmps48
  go_wp2_with fail
  have HC := Lib.hid hcap
  have L0 : LwB w w.heap.size s 0 (w.drew.alloc (.cells (bytesRow s (grownCap w s.size 0 5)) 5 ((bytesRow s (grownCap w s.size 0 5)).size, (bytesRow s (grownCap w s.size 0 5)).size + 1))) := by
    refine ⟨galloc (gdrew (grefl w none)) _, Nat.le_refl _, _, balloc w.drew _, ?_, ?_⟩
    · simp [bytesRow]
    · have e : (bytesRow s (grownCap w s.size 0 5)).toList = bv s.data.toList ++ List.replicate (grownCap w s.size 0 5 - s.size) (.int .u8 0) := by simp [bytesRow, bv]
      rw [e, List.take_append_of_le_length (by rw [bv_len, nlen]; exact Nat.le_refl _), List.take_of_length_le (by rw [bv_len, nlen]; exact Nat.le_refl _)]
      simp [lowL]
  have H0 := Lib.hid L0
  clear hcv L0 hcap
  generalize grownCap w s.size 0 5 = cap at *
  go_loopw [10] (fun vi wr => ∃ i : Nat, vi = .int .i64 i ∧ i ≤ s.size ∧ LwB w w.heap.size s i wr) (fun vi _ => s.size - (intOf vi).toNat)
  case atStart => exact ⟨0, rfl, by omega, H0.out⟩
  case round =>
    clear H0
    obtain ⟨i, rfl, hi, hr⟩ := hrel
    have R0 := Lib.hid hr
    clear hr
    by_cases hlt : i < s.size
    · have k0 : decide ((i : Int) < (s.size : Int)) = true := by simp; omega
      obtain ⟨c0, f0⟩ := R0.out.at hlt
      have hb := s[i].toNat_lt
      by_cases h1 : 65 ≤ s[i].toNat
      · have q1 : decide ((65 : Int) ≤ (s[i].toNat : Int)) = true := by simp; omega
        by_cases h2 : s[i].toNat ≤ 90
        · have q2 : decide ((s[i].toNat : Int) ≤ 90) = true := by simp; omega
          have R1 := Lib.hid (R0.out.step hlt (.int .u8 ((s[i].toNat : Int) + 32)) (by rw [low_up _ h1 h2]))
          have hlw : w.heap.size < wr.heap.size := World.block_lt_of_cell? wr _ c0
          go_wp2_with fail
          go_roundw
          case rel => exact ⟨i + 1, by go_num, by omega, R1.out⟩
          case measure => simp [intOf]; omega
        · have q2 : decide ((s[i].toNat : Int) ≤ 90) = false := by simp; omega
          have R1 := Lib.hid (R0.out.same hlt (low_no _ (by omega)))
          go_wp2_with fail
          go_roundw
          case rel => exact ⟨i + 1, by go_num, by omega, R1.out⟩
          case measure => simp [intOf]; omega
      · have q1 : decide ((65 : Int) ≤ (s[i].toNat : Int)) = false := by simp; omega
        have R1 := Lib.hid (R0.out.same hlt (low_no _ (by omega)))
        go_wp2_with fail
        go_roundw
        case rel => exact ⟨i + 1, by go_num, by omega, R1.out⟩
        case measure => simp [intOf]; omega
    · have k0 : decide ((i : Int) < (s.size : Int)) = false := by simp; omega
      obtain rfl : i = s.size := by omega
      have hcv := cvs (R0.out.done cap HC.out)
      have HL := Lib.hid (show (⟨(lowL s.data.toList).toArray⟩ : ByteArray) = lowB s from rfl)
      rw [HL.out] at hcv
      go_wp2_with fail
      go_ret
      exact ⟨rfl, R0.out.gr⟩
end Go.Proofs.YtomjiephbacocaaDoor
namespace Go.Proofs.YtomjiephbacocaaDoor
open Go.RowKit

theorem rmay_any (s : ByteArray) (w : World) (hs : s.size ≤ 1000000) : Calls Tryd.prog 38 #[.string s] w fun e w' => e = .returned (.bool (may s)) ∧ w.grownBy w' none := by
  go_enter Tryd.func38, Tryd.ntmps38
  go_wp2_with fail
  refine (rlabs_any s w (by omega)).mono ?_
  rintro e w1 ⟨v, rfl, hg, _⟩
  go_wp2_with fail
  go_ret
  exact ⟨rfl, hg⟩

/-- The document's table at block b. -/
def tbv (T : Tb) : List Value := T.flatMap fun x => [.string x.1, .int .i64 (x.2 : Int)]
theorem tbv_len (T : Tb) : (tbv T).length = T.length * 2 := flat_len _ 2 (fun _ => rfl) T
theorem str_yes {a b : ByteArray} (h : a = b) : (a.toList == b.toList) = true := by subst h; simp
theorem tget_drop_hit {T : Tb} {i : Nat} {s : ByteArray} (hi : i < T.length) (h : T[i].1 = s) : tget (T.drop i) s = some T[i].2 := by
  unfold tget
  rw [List.drop_eq_getElem_cons hi, List.find?_cons]
  simp [h]
theorem tget_drop_miss {T : Tb} {i : Nat} {s : ByteArray} (hi : i < T.length) (h : ¬ T[i].1 = s) : tget (T.drop i) s = tget (T.drop (i + 1)) s := by
  unfold tget
  rw [List.drop_eq_getElem_cons hi, List.find?_cons]
  simp [h]
end Go.Proofs.YtomjiephbacocaaDoor
namespace Go.Proofs.YtomjiephbacocaaDoor
open Go.RowKit

theorem tbv_snoc (T : Tb) (s : ByteArray) (p : Nat) : tbv (T ++ [(s, p)]) = tbv T ++ [.string s, .int .i64 (p : Int)] := by simp [tbv]
theorem suf_root {n : ByteArray} {p : Nat} (hsc : scan n p = true) (h0 : bt n p = 0) : suf n p = ⟨#[0]⟩ := by
  rw [suf_eq, drop_root hsc h0]
theorem suf_not {n : ByteArray} {p : Nat} (hsc : scan n p = true) (h0 : ¬ bt n p = 0) : ¬ suf n p = ⟨#[0]⟩ := by
  intro e
  have h1 := suf_sz n p
  rw [e] at h1
  obtain ⟨_, h2, _⟩ := scan_lab hsc h0
  have : (⟨#[0]⟩ : ByteArray).size = 1 := rfl
  omega
theorem suf_get {n : ByteArray} {p : Nat} : bt (suf n p) 0 = bt n p := by
  rw [suf_eq]
  unfold bt
  show ((n.data.toList.drop p)[0]?.getD 0).toNat = _
  rw [List.getElem?_drop]
  rfl
theorem suf_front {n : ByteArray} {p : Nat} (_h : p + 1 + bt n p ≤ n.size) : (suf n p).extract 0 (1 + bt n p) = ⟨(lab n p).toArray⟩ := by
  refine ba_ext ?_
  rw [Lib.extract_data, suf_list, lab_eq']
  simp
theorem suf_back {n : ByteArray} {p k : Nat} : (suf n p).extract k (suf n p).size = suf n (p + k) := by
  refine ba_ext ?_
  rw [Lib.extract_data, suf_list, suf_list, suf_sz, List.drop_drop]
  rw [List.take_of_length_le (by rw [List.length_drop, nlen]; omega)]
theorem str_lab' (out : List UInt8) (n : ByteArray) (p : Nat) : (⟨out.toArray⟩ : ByteArray) ++ (⟨(lab n p).toArray⟩ : ByteArray) = ⟨(out ++ lab n p).toArray⟩ := mk_append_list _ _
theorem ptr_str (k : Nat) (h : k ≤ 16383) : [Value.int .u8 (192 + (k : Int) / 256), Value.int .u8 ((k : Int) % 256)] = bv (ptrB k) := by
  simp [bv, ptrB]
  omega

theorem tbv_one (T : Tb) : ∀ u ∈ tbv T, u.oneCell' = true := by
  intro u hu
  unfold tbv at hu
  rw [List.mem_flatMap] at hu
  obtain ⟨x, _, hx⟩ := hu
  simp at hx
  rcases hx with rfl | rfl <;> rfl
theorem sl_pair (w : World) (e : TypeId) (u0 u1 : Value) : Sl (w.alloc (.cells #[u0, u1] e)) 2 (.slice (some ⟨w.heap.size, 0, none⟩) 1 1) 1 [u0, u1] := by
  refine ⟨_, _, rfl, Nat.le_refl _, rfl, by simp, fun _ => ⟨_, _, rfl, fun j u hu => ?_⟩⟩
  rw [bcellAt (balloc w (.cells #[u0, u1] e)), ← Array.getElem?_toList]
  simpa using hu

end Go.Proofs.YtomjiephbacocaaDoor
