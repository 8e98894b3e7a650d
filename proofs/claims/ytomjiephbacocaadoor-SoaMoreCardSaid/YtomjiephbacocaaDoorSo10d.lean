/-
  Soa: hustingsref01.Bytes of any part of a row (its proof is XNm's rbytes_any, the row anywhere in its block).
-/
import Derived.Test.YtomjiephbacocaaDoorSo10c
namespace Go.Proofs.YtomjiephbacocaaDoor
open Go.RowKit

set_option maxRecDepth 100000 in
set_option maxHeartbeats 8000000 in
theorem rbytesS_any (v : Value) (l : List ByteArray) (w : World) (h : Sl w 1 v l.length (strs l)) (hl : l.length ≤ 1000) (hx : ∀ x ∈ l, x.size ≤ 255) : Calls Tryd.prog 47 #[v] w fun e w' => e = .returned (.string ⟨(bytesF l).toArray⟩) ∧ w.grownBy w' none := by
  have HF := Lib.hid h
  obtain ⟨A, cap, rfl, _, _, _, _⟩ := h
  go_enter Tryd.func47, Tryd.ntmps47
  go_wp2_with fail
  go_loopw [3, 4] (fun vo vi wr => ∃ (i : Nat) (o : List UInt8), vi = .int .i64 i ∧ i ≤ l.length ∧ w.grownBy wr none ∧ vo = .string ⟨o.toArray⟩ ∧ o.length ≤ 256 * i ∧ o = (l.take i).flatMap fun x => UInt8.ofNat x.size :: x.data.toList) (fun _ vi _ => l.length - (intOf vi).toNat)
  case atStart => exact ⟨0, [], rfl, by omega, grefl _ _, rfl, by simp, by simp⟩
  case round =>
    obtain ⟨i, o, rfl, hi, hgr, rfl, hol, ho⟩ := hrel
    have HG := Lib.hid hgr
    have HO := Lib.hid ho
    clear hgr ho
    have hOs : (⟨o.toArray⟩ : ByteArray).size ≤ 1000000 := by rw [size_mk]; omega
    by_cases hlt : i < l.length
    · have k0 : decide ((i : Int) < (l.length : Int)) = true := by simp; omega
      have hxs := hx l[i] (List.getElem_mem hlt)
      have HS := Lib.hid (show ((l.take (i + 1)).flatMap fun x => UInt8.ofNat x.size :: x.data.toList) = o ++ ([UInt8.ofNat l[i].size] ++ l[i].data.toList) by rw [List.take_succ_eq_append_getElem hlt, bytesF_snoc, HO.out]; rfl)
      have HA := Lib.hid (mk_append_list o [UInt8.ofNat l[i].size])
      have HB := Lib.hid (mk_append_list (o ++ [UInt8.ofNat l[i].size]) l[i].data.toList)
      have hX : (⟨l[i].data.toList.toArray⟩ : ByteArray) = l[i] := rfl
      rw [hX] at HB
      clear hX
      obtain ⟨c0⟩ : Nonempty (∃ g off, A = some ⟨g, off, none⟩ ∧ wr.cell? ⟨g, off + i, none⟩ = some (.string l[i])) := ⟨by
        obtain ⟨A', cap', e, _, _, _, h4⟩ := HF.out.kept0 HG.out
        simp only [Value.slice.injEq] at e
        obtain ⟨rfl, _, rfl⟩ := e
        obtain ⟨b, off, rfl, hc⟩ := h4 (by omega)
        exact ⟨b, off, rfl, by simpa using hc i _ (by simp [strs, hlt])⟩⟩
      obtain ⟨g, off, rfl, c0⟩ := c0
      generalize l[i] = X at *
      have hsz : (⟨[UInt8.ofNat X.size].toArray⟩ : ByteArray).size = 1 := rfl
      have hBs : (⟨(o ++ [UInt8.ofNat X.size]).toArray⟩ : ByteArray).size ≤ 1000000 := by rw [size_mk]; simp; omega
      have hu : (UInt8.ofNat X.size).toNat = X.size := by simp; omega
      have hcv0 := fun w0 => sl_new w0 5 [UInt8.ofNat X.size] #[.int .u8 (X.size : Int)] 1 (by show _ = [Value.int .u8 ((UInt8.ofNat X.size).toNat : Int)]; rw [hu]) rfl
      clear hu
      rw [← HA.out] at HB hBs
      have hol' := hol
      have HZ := Lib.hid hol'
      go_wp2_with fail
      refine wp_region_segs [(true, [0, 1, 2, 3, 4, 10, 11, 12, 13]), (false, [5]), (true, [6]), (false, [7]), (true, [8, 9, 14, 15])] (by kernel_rfl) (by kernel_rfl) ?_
      have HG2 := Lib.hid (gdrew HG.out)
      have c1 : ∀ g' : Gr wr.drew, g'.w.cell? ⟨g, off + i, none⟩ = some (.string X) := Gr.cell c0
      clear c0 HG
      generalize wr.drew = w2 at *
      refine wpSegs_quiet rfl ?_
      simp only [List.filterMap_cons, List.filterMap_nil, List.getElem?_toArray, List.getElem?_cons_succ, List.getElem?_cons_zero]
      show wpQuiet _ _ _ _ [_, _, _, _, _, _, _, _, _] _
      repeat (go_big_quiet_step (fail))
      refine wpQuiet_nil ?_
      clear c1
      refine wpSegs_one (by simp only [List.getElem?_toArray, List.getElem?_cons_succ, List.getElem?_cons_zero]; exact rfl) ?_
      go_wp2_with fail
      refine ⟨grefl _ _, ?_⟩
      refine wpSegs_quiet rfl ?_
      simp only [List.filterMap_cons, List.filterMap_nil, List.getElem?_toArray, List.getElem?_cons_succ, List.getElem?_cons_zero]
      show wpQuiet _ _ _ _ [_] _
      repeat (go_big_quiet_step (fail))
      refine wpQuiet_nil ?_
      refine wpSegs_one (by simp only [List.getElem?_toArray, List.getElem?_cons_succ, List.getElem?_cons_zero]; exact rfl) ?_
      go_wp2_with fail
      refine ⟨galloc (grefl _ none) _, ?_⟩
      have hcv := fun g' : Gr (w2.alloc (.cells #[.int .u8 (X.size : Int)] 5)) => cvs ((hcv0 w2).kept0 g'.h)
      clear hcv0
      refine wpSegs_quiet rfl ?_
      simp only [List.filterMap_cons, List.filterMap_nil, List.getElem?_toArray, List.getElem?_cons_succ, List.getElem?_cons_zero]
      show wpQuiet _ _ _ _ [_, _, _, _] _
      generalize (⟨[UInt8.ofNat X.size].toArray⟩ : ByteArray) = C at *
      generalize (⟨o.toArray⟩ : ByteArray) = O at *
      repeat (go_big_quiet_step (fail))
      refine wpQuiet_nil ?_
      refine wpSegs_done ?_
      clear hcv
      go_wp2_with fail
      go_roundw
      case rel => exact ⟨i + 1, _, by go_num, by omega, galloc HG2.out _, by rw [HB.out], by simp only [List.length_append, List.length_cons, List.length_nil, nlen]; omega, by rw [HS.out, List.append_assoc]⟩
      case measure => simp [intOf]; omega
    · have k0 : decide ((i : Int) < (l.length : Int)) = false := by simp; omega
      have HL := Lib.hid (show (⟨o.toArray⟩ : ByteArray) ++ (⟨[0].toArray⟩ : ByteArray) = ⟨(bytesF l).toArray⟩ by rw [mk_append_list, HO.out, List.take_of_length_le (by omega)]; rfl)
      generalize (⟨o.toArray⟩ : ByteArray) = O at *
      go_wp2_with fail
      go_ret
      exact ⟨by rw [← HL.out]; rfl, HG.out⟩

/-- A part of a row of strings, as a slice. -/
theorem Sl.tail1 {w : World} {A : Option Addr} {cap : Nat} {x : ByteArray} {l : List ByteArray} (h : Sl w 1 (.slice A (l.length + 1) cap) (l.length + 1) (strs (x :: l))) :
    ∃ b off, A = some ⟨b, off, none⟩ ∧ Sl w 1 (.slice (some ⟨b, off + 1, none⟩) l.length (cap - 1)) l.length (strs l) := by
  obtain ⟨A', cap', e, h1, h2, h3, h4⟩ := h
  simp only [Value.slice.injEq] at e
  obtain ⟨rfl, _, rfl⟩ := e
  obtain ⟨b, off, rfl, hc⟩ := h4 (by omega)
  refine ⟨b, off, rfl, _, _, rfl, by omega, by simp [strs], by simp, fun hn => ⟨b, off + 1, rfl, fun j u hu => ?_⟩⟩
  have := hc (j + 1) u (by simpa [strs] using hu)
  rwa [show off + (j + 1) = off + 1 + j by omega] at this
end Go.Proofs.YtomjiephbacocaaDoor
