/-
  Wire: WireCut's walk.
-/
import Derived.Test.YtncfjplolpgemaaDoorWjD
import Derived.Test.YtncfjplolpgemaaDoorWjR
import Derived.Deep.Cut
namespace Go.Proofs.YtncfjplolpgemaaDoor
open Go.RowKit

theorem list_ne {l : List UInt8} (h : (l == ByteArray.empty.toList) = false) : l.isEmpty = false := by
  have e : ByteArray.empty.toList = [] := by decide +kernel
  rw [e] at h
  cases l with
  | nil => cases h
  | cons x l => rfl
theorem dc_ok {m : Ms} (hr : m.rng) (h0 : m.wE = 0) : dcM m.out = m ∧ dcE m.out = 0 := by
  have e : rdM m.out = .ok m := by rw [(out_ok h0).1]; exact m_back hr h0
  unfold dcM dcE
  rw [e]
  exact ⟨rfl, rfl⟩
theorem dc_cut {m : Ms} (hr : m.rng) (h0 : m.wE = 0) {q : Nat} (hq : q < m.out.size) : dcE (m.out.extract 0 q) = 4 := by
  have e : rdM m.out = .ok m := by rw [(out_ok h0).1]; exact m_back hr h0
  obtain ⟨a1, a2⟩ := ahead_cut m.out q (by omega)
  have := rdM_cut a1 (by omega) e
  unfold dcE
  rw [this]
theorem dc_more {m : Ms} (hr : m.rng) (h0 : m.wE = 0) {t : ByteArray} (ht : 0 < t.size) : dcE (m.out ++ t) = 5 := by
  have e : rdM m.out = .ok m := by rw [(out_ok h0).1]; exact m_back hr h0
  have := rdM_more (ahead_append m.out t) (by rw [ByteArray.size_append]; omega) e
  unfold dcE
  rw [this]

set_option maxRecDepth 100000 in
set_option maxHeartbeats 4000000 in
theorem cut_walk (w : World) (m : Ms) (vq va vu vx vo : Value) (cut : Int) (t : ByteArray) (he : Et w) (hb : Bt w) (hm : MsV w m vq va vu vx vo) (tm : m.typ) :
    Calls Tryd.prog 4 #[m.val vq va vu vx vo, .int .i64 cut, .string t] w fun e w' => e = .returned (.bool true) ∧ w.grownBy w' none := by
  have HE := Lib.hid he
  have HT := Lib.hid hb
  have HM := Lib.hid hm
  have TM := Lib.hid tm
  clear he hb hm tm
  have ga := galloc (grefl w none) (.cells #[.int .u16 m.h.id, .bool m.h.qr, .int .u8 m.h.op, .bool m.h.aa, .bool m.h.tc, .bool m.h.rd, .bool m.h.ra, .bool m.h.z, .bool m.h.ad, .bool m.h.cd, .int .u8 m.h.code, vq, va, vu, vx, .bool m.has, .int .u16 m.sz, .int .u8 m.e, .int .u8 m.v, .int .u16 m.f, vo] 31)
  have HA := Lib.hid (balloc w (.cells #[.int .u16 m.h.id, .bool m.h.qr, .int .u8 m.h.op, .bool m.h.aa, .bool m.h.tc, .bool m.h.rd, .bool m.h.ra, .bool m.h.z, .bool m.h.ad, .bool m.h.cd, .int .u8 m.h.code, vq, va, vu, vx, .bool m.has, .int .u16 m.sz, .int .u8 m.e, .int .u8 m.v, .int .u16 m.f, vo] 31))
  have G := Lib.hid ga
  clear ga
  unfold Ms.val
  go_enter Tryd.func4, Tryd.ntmps4
  go_wp2_with (refine wpList_load_rowG rfl 31 _ rfl w.heap.size rfl _ _ _ _ HA.out Tryd.underlying31 rfl (by kernel_rfl) ?_)
  generalize w.alloc (.cells #[.int .u16 m.h.id, .bool m.h.qr, .int .u8 m.h.op, .bool m.h.aa, .bool m.h.tc, .bool m.h.rd, .bool m.h.ra, .bool m.h.z, .bool m.h.ad, .bool m.h.cd, .int .u8 m.h.code, vq, va, vu, vx, .bool m.has, .int .u16 m.sz, .int .u8 m.e, .int .u8 m.v, .int .u16 m.f, vo] 31) = w0 at *
  have CL := large_any w0 m vq va vu vx vo (HM.out.kept G.out) TM.out.mem
  unfold Ms.val at CL
  refine Calls.mono CL ?_
  clear CL
  rintro e w1 ⟨rfl, hg⟩
  have G1 := Lib.hid (gtrans G.out hg)
  have HA1 := Lib.hid (gblock hg HA.out (by simp))
  clear G HA hg
  have G := G1
  have HA := HA1
  clear G1 HA1
  by_cases h1 : 5000 ≤ m.big
  case pos =>
    rw [decide_eq_true h1]
    clear h1
    go_wp2_with fail
    refine Calls.mono (awake_any w1 (HE.out.kept G.out (by simp)) (HT.out.kept G.out (by simp))) ?_
    rintro e wz ⟨rfl, hg⟩
    have Gz := Lib.hid (gtrans G.out hg)
    clear hg
    go_wp2_with fail
    go_ret
    exact ⟨rfl, Gz.out⟩
  rw [decide_eq_false h1]
  have RG := Lib.hid (TM.out.rng (by omega))
  have SM := Lib.hid (big_small (m := m) (by omega))
  have BG := Lib.hid (show m.big < 5000 by omega)
  clear h1
  by_cases h2 : 1000 < t.size
  case pos =>
    have k0 : decide ((1000 : Int) < (t.size : Int)) = true := by simp; omega
    go_wp2_with fail
    refine Calls.mono (awake_any w1 (HE.out.kept G.out (by simp)) (HT.out.kept G.out (by simp))) ?_
    rintro e wz ⟨rfl, hg⟩
    have Gz := Lib.hid (gtrans G.out hg)
    clear hg
    go_wp2_with fail
    go_ret
    exact ⟨rfl, Gz.out⟩
  have k0 : decide ((1000 : Int) < (t.size : Int)) = false := by simp; omega
  have T8 := Lib.hid h2
  clear h2
  go_wp2_with fail
  refine Calls.mono (awake_any w1 (HE.out.kept G.out (by simp)) (HT.out.kept G.out (by simp))) ?_
  rintro e w2 ⟨rfl, hg⟩
  have G2 := Lib.hid (gtrans G.out hg)
  have HA2 := Lib.hid (gblock hg HA.out (by simp))
  clear G HA hg
  have G := G2
  have HA := HA2
  clear G2 HA2
  go_wp2_with (refine wpList_load_rowG rfl 31 _ rfl w.heap.size rfl _ _ _ _ HA.out Tryd.underlying31 rfl (by kernel_rfl) ?_)
  have CE := encode_any w2 m vq va vu vx vo (HE.out.kept G.out (by simp)) (HT.out.kept G.out (by simp)) (HM.out.kept G.out) RG.out
  unfold Ms.val at CE
  refine Calls.mono CE ?_
  clear CE
  rintro e w3 ⟨rfl, hg⟩
  have G3 := Lib.hid (gtrans G.out hg)
  have HA3 := Lib.hid (gblock hg HA.out (by simp))
  clear G HA hg
  have G := G3
  have HA := HA3
  clear G3 HA3
  clear k0
  rcases wE_cases m with ⟨hE, hMay⟩ | ⟨hE, hMay⟩ | ⟨hE, hMay⟩
  case inr.inl => rw [hE]; clear hMay hE; go_wp2_with fail; go_ret; exact ⟨rfl, G.out⟩
  case inr.inr => rw [hE]; clear hMay hE; go_wp2_with fail; go_ret; exact ⟨rfl, G.out⟩
  obtain ⟨o4, o5, o1, o2, o3⟩ := out_ok hE
  clear o4 o5
  have DC := Lib.hid (fun q => dc_cut (q := q) RG.out hE)
  have DM := Lib.hid (fun t => dc_more (t := t) RG.out hE)
  have DO := Lib.hid (dc_ok RG.out hE)
  rw [hE]
  rw [← o1] at o2 o3
  clear o1 hMay hE
  generalize m.out = s at *
  obtain ⟨q, hq, hql⟩ := umod cut s.size (by omega) (by omega)
  have HQ := Lib.hid (DC.out q hql)
  clear DC
  go_wp2_with fail
  clear hq hql
  have t9 : t.size ≤ 1000 := by have := T8.out; omega
  refine Calls.mono (decode_any w3 (s.extract 0 q) (HE.out.kept G.out (by simp)) (HT.out.kept G.out (by simp))) ?_
  rintro e w4 ⟨hg, x1q, x1a, x1u, x1x, x1o, rfl, hf⟩
  have Gw4 := Lib.hid (gtrans G.out hg)
  have HAw4 := Lib.hid (gblock hg HA.out (by simp))
  clear G HA hg
  have G := Gw4
  have HA := HAw4
  clear Gw4 HAw4
  rw [HQ.out]
  obtain ⟨B1q, d1q, rfl⟩ := hf.q.len
  obtain ⟨B1a, d1a, rfl⟩ := hf.a.len
  obtain ⟨B1u, d1u, rfl⟩ := hf.u.len
  obtain ⟨B1x, d1x, rfl⟩ := hf.x.len
  obtain ⟨B1o, d1o, rfl⟩ := hf.o.len
  have F1 := Lib.hid hf
  clear hf
  rw [Ms.val_cells]
  obtain ⟨C1, hC⟩ : ∃ C, C = Ms.cells (dcM (s.extract 0 q)) (.slice B1q (Ms.qs (dcM (s.extract 0 q))).length d1q) (.slice B1a (Ms.an (dcM (s.extract 0 q))).length d1a) (.slice B1u (Ms.au (dcM (s.extract 0 q))).length d1u) (.slice B1x (Ms.ex (dcM (s.extract 0 q))).length d1x) (.slice B1o (Ms.ops (dcM (s.extract 0 q))).length d1o) := ⟨_, rfl⟩
  rw [← hC]
  have EC1 := Lib.hid hC
  have hs1 : (Array.all C1 (·.oneCell')) = true := by rw [hC]; kernel_rfl
  have hz1 : C1.size = 21 := by rw [hC]; rfl
  clear hC
  have hg : w4.grownBy ((w4.alloc (.cells #[.int .u16 0, .bool false, .int .u8 0, .bool false, .bool false, .bool false, .bool false, .bool false, .bool false, .bool false, .int .u8 0, .slice none 0 0, .slice none 0 0, .slice none 0 0, .slice none 0 0, .bool false, .int .u16 0, .int .u8 0, .int .u8 0, .int .u16 0, .slice none 0 0] 31)).setRow w4.heap.size C1) none := gsetRow (galloc (grefl w4 none) _) (Nat.le_refl _) C1
  have M1 := Lib.hid (bsetR (balloc w4 (.cells #[.int .u16 0, .bool false, .int .u8 0, .bool false, .bool false, .bool false, .bool false, .bool false, .bool false, .bool false, .int .u8 0, .slice none 0 0, .slice none 0 0, .slice none 0 0, .slice none 0 0, .bool false, .int .u16 0, .int .u8 0, .int .u8 0, .int .u16 0, .slice none 0 0] 31)) C1)
  have MA := Lib.hid (balloc w4 (.cells #[.int .u16 0, .bool false, .int .u8 0, .bool false, .bool false, .bool false, .bool false, .bool false, .bool false, .bool false, .int .u8 0, .slice none 0 0, .slice none 0 0, .slice none 0 0, .slice none 0 0, .bool false, .int .u16 0, .int .u8 0, .int .u8 0, .int .u16 0, .slice none 0 0] 31))
  have F1' := Lib.hid (F1.out.kept hg)
  clear F1
  have Gw5 := Lib.hid (gtrans G.out hg)
  have HAw5 := Lib.hid (gblock hg HA.out (by simp))
  clear G HA hg
  have G := Gw5
  have HA := HAw5
  clear Gw5 HAw5
  go_wp2_with (refine wpList_store_row rfl 31 _ _ rfl w4.heap.size C1 rfl rfl 31 _ MA.out (by rw [hz1]; kernel_rfl) hz1.symm hs1 ?_)
  clear MA
  generalize (w4.alloc (.cells #[.int .u16 0, .bool false, .int .u8 0, .bool false, .bool false, .bool false, .bool false, .bool false, .bool false, .bool false, .int .u8 0, .slice none 0 0, .slice none 0 0, .slice none 0 0, .slice none 0 0, .bool false, .int .u16 0, .int .u8 0, .int .u8 0, .int .u16 0, .slice none 0 0] 31)).setRow w4.heap.size C1 = w5 at *
  generalize w4.heap.size = b1 at *
  clear M1 F1' EC1 HQ hs1 hz1
  have HZ := Lib.hid (show (t.toList.isEmpty = true ∧ dcE (s ++ t) = 0) ∨ (t.toList.isEmpty = false ∧ dcE (s ++ t) = 5) by
    by_cases h : t.size = 0
    · obtain rfl : t = ByteArray.empty := by
        cases t with
        | mk d => have : d = #[] := by simpa [ByteArray.size] using h
                  subst this; rfl
      exact .inl ⟨by decide +kernel, by rw [ByteArray.append_empty]; exact DO.out.2⟩
    · exact .inr ⟨list_ne (str_ne (b := ByteArray.empty) (fun e => h (by rw [e]; rfl))), DM.out t (by omega)⟩)
  clear DO DM
  rcases HZ.out with ⟨z1, z2⟩ | ⟨z1, z2⟩
  · refine Calls.mono (decode_any w5 (s ++ t) (HE.out.kept G.out (by simp)) (HT.out.kept G.out (by simp))) ?_
    rintro e w6 ⟨hg, x2q, x2a, x2u, x2x, x2o, rfl, hf⟩
    have Gw6 := Lib.hid (gtrans G.out hg)
    have HAw6 := Lib.hid (gblock hg HA.out (by simp))
    clear G HA hg
    have G := Gw6
    have HA := HAw6
    clear Gw6 HAw6
    rw [z2]
    obtain ⟨B2q, d2q, rfl⟩ := hf.q.len
    obtain ⟨B2a, d2a, rfl⟩ := hf.a.len
    obtain ⟨B2u, d2u, rfl⟩ := hf.u.len
    obtain ⟨B2x, d2x, rfl⟩ := hf.x.len
    obtain ⟨B2o, d2o, rfl⟩ := hf.o.len
    have F2 := Lib.hid hf
    clear hf
    rw [Ms.val_cells]
    obtain ⟨C2, hC⟩ : ∃ C, C = Ms.cells (dcM (s ++ t)) (.slice B2q (Ms.qs (dcM (s ++ t))).length d2q) (.slice B2a (Ms.an (dcM (s ++ t))).length d2a) (.slice B2u (Ms.au (dcM (s ++ t))).length d2u) (.slice B2x (Ms.ex (dcM (s ++ t))).length d2x) (.slice B2o (Ms.ops (dcM (s ++ t))).length d2o) := ⟨_, rfl⟩
    rw [← hC]
    have EC2 := Lib.hid hC
    have hs2 : (Array.all C2 (·.oneCell')) = true := by rw [hC]; kernel_rfl
    have hz2 : C2.size = 21 := by rw [hC]; rfl
    clear hC
    have hg : w6.grownBy ((w6.alloc (.cells #[.int .u16 0, .bool false, .int .u8 0, .bool false, .bool false, .bool false, .bool false, .bool false, .bool false, .bool false, .int .u8 0, .slice none 0 0, .slice none 0 0, .slice none 0 0, .slice none 0 0, .bool false, .int .u16 0, .int .u8 0, .int .u8 0, .int .u16 0, .slice none 0 0] 31)).setRow w6.heap.size C2) none := gsetRow (galloc (grefl w6 none) _) (Nat.le_refl _) C2
    have M2 := Lib.hid (bsetR (balloc w6 (.cells #[.int .u16 0, .bool false, .int .u8 0, .bool false, .bool false, .bool false, .bool false, .bool false, .bool false, .bool false, .int .u8 0, .slice none 0 0, .slice none 0 0, .slice none 0 0, .slice none 0 0, .bool false, .int .u16 0, .int .u8 0, .int .u8 0, .int .u16 0, .slice none 0 0] 31)) C2)
    have MA := Lib.hid (balloc w6 (.cells #[.int .u16 0, .bool false, .int .u8 0, .bool false, .bool false, .bool false, .bool false, .bool false, .bool false, .bool false, .int .u8 0, .slice none 0 0, .slice none 0 0, .slice none 0 0, .slice none 0 0, .bool false, .int .u16 0, .int .u8 0, .int .u8 0, .int .u16 0, .slice none 0 0] 31))
    have F2' := Lib.hid (F2.out.kept hg)
    clear F2
    have Gw7 := Lib.hid (gtrans G.out hg)
    have HAw7 := Lib.hid (gblock hg HA.out (by simp))
    clear G HA hg
    have G := Gw7
    have HA := HAw7
    clear Gw7 HAw7
    go_wp2_with (refine wpList_store_row rfl 31 _ _ rfl w6.heap.size C2 rfl rfl 31 _ MA.out (by rw [hz2]; kernel_rfl) hz2.symm hs2 ?_)
    clear MA
    generalize (w6.alloc (.cells #[.int .u16 0, .bool false, .int .u8 0, .bool false, .bool false, .bool false, .bool false, .bool false, .bool false, .bool false, .int .u8 0, .slice none 0 0, .slice none 0 0, .slice none 0 0, .slice none 0 0, .bool false, .int .u16 0, .int .u8 0, .int .u8 0, .int .u16 0, .slice none 0 0] 31)).setRow w6.heap.size C2 = w7 at *
    generalize w6.heap.size = b2 at *
    clear M2 F2' EC2 hs2 hz2
    go_ret
    exact ⟨rfl, G.out⟩
  · refine Calls.mono (decode_any w5 (s ++ t) (HE.out.kept G.out (by simp)) (HT.out.kept G.out (by simp))) ?_
    rintro e w6 ⟨hg, x2q, x2a, x2u, x2x, x2o, rfl, hf⟩
    have Gw6 := Lib.hid (gtrans G.out hg)
    have HAw6 := Lib.hid (gblock hg HA.out (by simp))
    clear G HA hg
    have G := Gw6
    have HA := HAw6
    clear Gw6 HAw6
    rw [z2]
    obtain ⟨B2q, d2q, rfl⟩ := hf.q.len
    obtain ⟨B2a, d2a, rfl⟩ := hf.a.len
    obtain ⟨B2u, d2u, rfl⟩ := hf.u.len
    obtain ⟨B2x, d2x, rfl⟩ := hf.x.len
    obtain ⟨B2o, d2o, rfl⟩ := hf.o.len
    have F2 := Lib.hid hf
    clear hf
    rw [Ms.val_cells]
    obtain ⟨C2, hC⟩ : ∃ C, C = Ms.cells (dcM (s ++ t)) (.slice B2q (Ms.qs (dcM (s ++ t))).length d2q) (.slice B2a (Ms.an (dcM (s ++ t))).length d2a) (.slice B2u (Ms.au (dcM (s ++ t))).length d2u) (.slice B2x (Ms.ex (dcM (s ++ t))).length d2x) (.slice B2o (Ms.ops (dcM (s ++ t))).length d2o) := ⟨_, rfl⟩
    rw [← hC]
    have EC2 := Lib.hid hC
    have hs2 : (Array.all C2 (·.oneCell')) = true := by rw [hC]; kernel_rfl
    have hz2 : C2.size = 21 := by rw [hC]; rfl
    clear hC
    have hg : w6.grownBy ((w6.alloc (.cells #[.int .u16 0, .bool false, .int .u8 0, .bool false, .bool false, .bool false, .bool false, .bool false, .bool false, .bool false, .int .u8 0, .slice none 0 0, .slice none 0 0, .slice none 0 0, .slice none 0 0, .bool false, .int .u16 0, .int .u8 0, .int .u8 0, .int .u16 0, .slice none 0 0] 31)).setRow w6.heap.size C2) none := gsetRow (galloc (grefl w6 none) _) (Nat.le_refl _) C2
    have M2 := Lib.hid (bsetR (balloc w6 (.cells #[.int .u16 0, .bool false, .int .u8 0, .bool false, .bool false, .bool false, .bool false, .bool false, .bool false, .bool false, .int .u8 0, .slice none 0 0, .slice none 0 0, .slice none 0 0, .slice none 0 0, .bool false, .int .u16 0, .int .u8 0, .int .u8 0, .int .u16 0, .slice none 0 0] 31)) C2)
    have MA := Lib.hid (balloc w6 (.cells #[.int .u16 0, .bool false, .int .u8 0, .bool false, .bool false, .bool false, .bool false, .bool false, .bool false, .bool false, .int .u8 0, .slice none 0 0, .slice none 0 0, .slice none 0 0, .slice none 0 0, .bool false, .int .u16 0, .int .u8 0, .int .u8 0, .int .u16 0, .slice none 0 0] 31))
    have F2' := Lib.hid (F2.out.kept hg)
    clear F2
    have Gw7 := Lib.hid (gtrans G.out hg)
    have HAw7 := Lib.hid (gblock hg HA.out (by simp))
    clear G HA hg
    have G := Gw7
    have HA := HAw7
    clear Gw7 HAw7
    go_wp2_with (refine wpList_store_row rfl 31 _ _ rfl w6.heap.size C2 rfl rfl 31 _ MA.out (by rw [hz2]; kernel_rfl) hz2.symm hs2 ?_)
    clear MA
    generalize (w6.alloc (.cells #[.int .u16 0, .bool false, .int .u8 0, .bool false, .bool false, .bool false, .bool false, .bool false, .bool false, .bool false, .int .u8 0, .slice none 0 0, .slice none 0 0, .slice none 0 0, .slice none 0 0, .bool false, .int .u16 0, .int .u8 0, .int .u8 0, .int .u16 0, .slice none 0 0] 31)).setRow w6.heap.size C2 = w7 at *
    generalize w6.heap.size = b2 at *
    clear M2 F2' EC2 hs2 hz2
    go_ret
    exact ⟨rfl, G.out⟩
end Go.Proofs.YtncfjplolpgemaaDoor
