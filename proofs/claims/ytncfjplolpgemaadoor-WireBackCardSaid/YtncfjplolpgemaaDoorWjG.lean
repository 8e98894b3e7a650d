/-
  Wire: WireBack's walk.
-/
import Derived.Test.YtncfjplolpgemaaDoorWjH
namespace Go.Proofs.YtncfjplolpgemaaDoor
open Go.RowKit

set_option maxRecDepth 100000 in
set_option maxHeartbeats 4000000 in
theorem wback_walk (w : World) (m : Ms) (vq va vu vx vo : Value) (t : ByteArray) (he : Et w) (hb : Bt w) (hm : MsV w m vq va vu vx vo) (tm : m.typ) :
    Calls Tryd.prog 3 #[m.val vq va vu vx vo, .string t] w fun e w' => e = .returned (.bool true) ∧ w.grownBy w' none := by
  have HE := Lib.hid he
  have HT := Lib.hid hb
  have HM := Lib.hid hm
  have TM := Lib.hid tm
  clear he hb hm tm
  have ga := galloc (grefl w none) (.cells #[.int .u16 m.h.id, .bool m.h.qr, .int .u8 m.h.op, .bool m.h.aa, .bool m.h.tc, .bool m.h.rd, .bool m.h.ra, .bool m.h.z, .bool m.h.ad, .bool m.h.cd, .int .u8 m.h.code, vq, va, vu, vx, .bool m.has, .int .u16 m.sz, .int .u8 m.e, .int .u8 m.v, .int .u16 m.f, vo] 31)
  have HA := Lib.hid (balloc w (.cells #[.int .u16 m.h.id, .bool m.h.qr, .int .u8 m.h.op, .bool m.h.aa, .bool m.h.tc, .bool m.h.rd, .bool m.h.ra, .bool m.h.z, .bool m.h.ad, .bool m.h.cd, .int .u8 m.h.code, vq, va, vu, vx, .bool m.has, .int .u16 m.sz, .int .u8 m.e, .int .u8 m.v, .int .u16 m.f, vo] 31))
  have G := Lib.hid ga
  clear ga
  unfold Ms.val
  go_enter Tryd.func3, Tryd.ntmps3
  go_wp2_with (refine wpList_load_rowG rfl 31 _ rfl w.heap.size rfl _ _ _ _ HA.out Tryd.underlying31 rfl (by kernel_rfl) ?_)
  generalize w.alloc (.cells #[.int .u16 m.h.id, .bool m.h.qr, .int .u8 m.h.op, .bool m.h.aa, .bool m.h.tc, .bool m.h.rd, .bool m.h.ra, .bool m.h.z, .bool m.h.ad, .bool m.h.cd, .int .u8 m.h.code, vq, va, vu, vx, .bool m.has, .int .u16 m.sz, .int .u8 m.e, .int .u8 m.v, .int .u16 m.f, vo] 31) = w0 at *
  have CL := large_any w0 m vq va vu vx vo (HM.out.kept G.out) TM.out.mem
  unfold Ms.val at CL
  refine Calls.mono CL ?_
  clear CL
  rintro e w1 ⟨rfl, hg⟩
  have G1 := Lib.hid (gtrans G.out hg)
  have HA1 := Lib.hid (gblock hg HA.out (by simp))
  clear G HA hg
  have G := G1
  have HA := HA1
  clear G1 HA1
  by_cases h1 : 5000 ≤ m.big
  case pos =>
    rw [decide_eq_true h1]
    clear h1
    go_wp2_with fail
    refine Calls.mono (awake_any w1 (HE.out.kept G.out (by simp)) (HT.out.kept G.out (by simp))) ?_
    rintro e wz ⟨rfl, hg⟩
    have Gz := Lib.hid (gtrans G.out hg)
    clear hg
    go_wp2_with fail
    go_ret
    exact ⟨rfl, Gz.out⟩
  rw [decide_eq_false h1]
  have RG := Lib.hid (TM.out.rng (by omega))
  have SM := Lib.hid (big_small (m := m) (by omega))
  have BG := Lib.hid (show m.big < 5000 by omega)
  clear h1
  by_cases h2 : 4000 < t.size
  case pos =>
    have k0 : decide ((4000 : Int) < (t.size : Int)) = true := by simp; omega
    go_wp2_with fail
    refine Calls.mono (awake_any w1 (HE.out.kept G.out (by simp)) (HT.out.kept G.out (by simp))) ?_
    rintro e wz ⟨rfl, hg⟩
    have Gz := Lib.hid (gtrans G.out hg)
    clear hg
    go_wp2_with fail
    go_ret
    exact ⟨rfl, Gz.out⟩
  have k0 : decide ((4000 : Int) < (t.size : Int)) = false := by simp; omega
  have T8 := Lib.hid h2
  clear h2
  go_wp2_with fail
  refine Calls.mono (awake_any w1 (HE.out.kept G.out (by simp)) (HT.out.kept G.out (by simp))) ?_
  rintro e w2 ⟨rfl, hg⟩
  have G2 := Lib.hid (gtrans G.out hg)
  have HA2 := Lib.hid (gblock hg HA.out (by simp))
  clear G HA hg
  have G := G2
  have HA := HA2
  clear G2 HA2
  go_wp2_with (refine wpList_load_rowG rfl 31 _ rfl w.heap.size rfl _ _ _ _ HA.out Tryd.underlying31 rfl (by kernel_rfl) ?_)
  have CE := encode_any w2 m vq va vu vx vo (HE.out.kept G.out (by simp)) (HT.out.kept G.out (by simp)) (HM.out.kept G.out) RG.out
  unfold Ms.val at CE
  refine Calls.mono CE ?_
  clear CE
  rintro e w3 ⟨rfl, hg⟩
  have G3 := Lib.hid (gtrans G.out hg)
  have HA3 := Lib.hid (gblock hg HA.out (by simp))
  clear G HA hg
  have G := G3
  have HA := HA3
  clear G3 HA3
  clear k0
  rcases wE_cases m with ⟨hE, hMay⟩ | ⟨hE, hMay⟩ | ⟨hE, hMay⟩
  · obtain ⟨hdM, hdE⟩ := dc_ok RG.out hE
    rw [hE]
    clear hE hMay
    go_wp2_with fail
    generalize m.out = s at *
    refine Calls.mono (decode_any w3 s (HE.out.kept G.out (by simp)) (HT.out.kept G.out (by simp))) ?_
    rintro e w4 ⟨hg, x1q, x1a, x1u, x1x, x1o, rfl, hf⟩
    have Gw4 := Lib.hid (gtrans G.out hg)
    have HAw4 := Lib.hid (gblock hg HA.out (by simp))
    clear G HA hg
    have G := Gw4
    have HA := HAw4
    clear Gw4 HAw4
    rw [hdM] at hf
    rw [hdM, hdE]
    obtain ⟨B1q, d1q, rfl⟩ := hf.q.len
    obtain ⟨B1a, d1a, rfl⟩ := hf.a.len
    obtain ⟨B1u, d1u, rfl⟩ := hf.u.len
    obtain ⟨B1x, d1x, rfl⟩ := hf.x.len
    obtain ⟨B1o, d1o, rfl⟩ := hf.o.len
    have F1 := Lib.hid hf
    clear hf
    rw [Ms.val_cells]
    obtain ⟨C1, hC⟩ : ∃ C, C = Ms.cells m (.slice B1q (Ms.qs m).length d1q) (.slice B1a (Ms.an m).length d1a) (.slice B1u (Ms.au m).length d1u) (.slice B1x (Ms.ex m).length d1x) (.slice B1o (Ms.ops m).length d1o) := ⟨_, rfl⟩
    rw [← hC]
    have EC1 := Lib.hid hC
    have hs1 : (Array.all C1 (·.oneCell')) = true := by rw [hC]; kernel_rfl
    have hz1 : C1.size = 21 := by rw [hC]; rfl
    clear hC
    have hg : w4.grownBy ((w4.alloc (.cells #[.int .u16 0, .bool false, .int .u8 0, .bool false, .bool false, .bool false, .bool false, .bool false, .bool false, .bool false, .int .u8 0, .slice none 0 0, .slice none 0 0, .slice none 0 0, .slice none 0 0, .bool false, .int .u16 0, .int .u8 0, .int .u8 0, .int .u16 0, .slice none 0 0] 31)).setRow w4.heap.size C1) none := gsetRow (galloc (grefl w4 none) _) (Nat.le_refl _) C1
    have M1 := Lib.hid (bsetR (balloc w4 (.cells #[.int .u16 0, .bool false, .int .u8 0, .bool false, .bool false, .bool false, .bool false, .bool false, .bool false, .bool false, .int .u8 0, .slice none 0 0, .slice none 0 0, .slice none 0 0, .slice none 0 0, .bool false, .int .u16 0, .int .u8 0, .int .u8 0, .int .u16 0, .slice none 0 0] 31)) C1)
    have MA := Lib.hid (balloc w4 (.cells #[.int .u16 0, .bool false, .int .u8 0, .bool false, .bool false, .bool false, .bool false, .bool false, .bool false, .bool false, .int .u8 0, .slice none 0 0, .slice none 0 0, .slice none 0 0, .slice none 0 0, .bool false, .int .u16 0, .int .u8 0, .int .u8 0, .int .u16 0, .slice none 0 0] 31))
    have F1' := Lib.hid (F1.out.kept hg)
    clear F1
    have Gw5 := Lib.hid (gtrans G.out hg)
    have HAw5 := Lib.hid (gblock hg HA.out (by simp))
    clear G HA hg
    have G := Gw5
    have HA := HAw5
    clear Gw5 HAw5
    go_wp2_with (first | refine wpList_store_row rfl 31 _ _ rfl w4.heap.size C1 rfl rfl 31 _ MA.out (by rw [hz1]; kernel_rfl) hz1.symm hs1 ?_ | refine wpList_load_rowG rfl 31 _ rfl w4.heap.size rfl _ _ _ _ M1.out Tryd.underlying31 rfl (by rw [hz1]; kernel_rfl) ?_ | refine wpList_load_rowG rfl 31 _ rfl w.heap.size rfl _ _ _ _ HA.out Tryd.underlying31 rfl (by kernel_rfl) ?_)
    clear MA
    generalize (w4.alloc (.cells #[.int .u16 0, .bool false, .int .u8 0, .bool false, .bool false, .bool false, .bool false, .bool false, .bool false, .bool false, .int .u8 0, .slice none 0 0, .slice none 0 0, .slice none 0 0, .slice none 0 0, .bool false, .int .u16 0, .int .u8 0, .int .u8 0, .int .u16 0, .slice none 0 0] 31)).setRow w4.heap.size C1 = w5 at *
    generalize w4.heap.size = b1 at *
    have HS := rfsame_any w5 m m (.slice B1q (Ms.qs m).length d1q) (.slice B1a (Ms.an m).length d1a) (.slice B1u (Ms.au m).length d1u) (.slice B1x (Ms.ex m).length d1x) (.slice B1o (Ms.ops m).length d1o) vq va vu vx vo F1'.out.v (HM.out.kept G.out) (by have := SM.out.ql; omega) (by have := SM.out.al; omega) (by have := SM.out.ul; omega) (by have := SM.out.xl; omega) (by have := SM.out.ol; omega)
    have EVX := Ms.val_cells m (.slice B1q (Ms.qs m).length d1q) (.slice B1a (Ms.an m).length d1a) (.slice B1u (Ms.au m).length d1u) (.slice B1x (Ms.ex m).length d1x) (.slice B1o (Ms.ops m).length d1o)
    rw [EVX, ← EC1.out, decide_eq_true (Eq.refl m)] at HS
    unfold Ms.val at HS
    refine Calls.mono HS ?_
    clear HS
    rintro e w6 ⟨rfl, hg⟩
    clear EVX F1' EC1 hdM hdE hs1
    have Gw6 := Lib.hid (gtrans G.out hg)
    have HAw6 := Lib.hid (gblock hg HA.out (by simp))
    clear G HA hg
    have G := Gw6
    have HA := HAw6
    clear Gw6 HAw6
    clear M1 hz1
    go_wp2_with fail
    rcases dc_case t with ⟨hm2, hx2⟩ | ⟨n, hn, hm2, hx2⟩
    · obtain ⟨x2, hxx⟩ : ∃ x2, dcE t = x2 := ⟨_, rfl⟩
      rw [hxx] at hx2
      have kx : (((x2 : Nat) : Int) != 0) = true := by simp; omega
      refine Calls.mono (decode_any w6 t (HE.out.kept G.out (by simp)) (HT.out.kept G.out (by simp))) ?_
      rintro e wab ⟨hg, x2q, x2a, x2u, x2x, x2o, rfl, hf⟩
      have Gwab := Lib.hid (gtrans G.out hg)
      have HAwab := Lib.hid (gblock hg HA.out (by simp))
      clear G HA hg
      have G := Gwab
      have HA := HAwab
      clear Gwab HAwab
      rw [hm2] at hf
      rw [hm2, hxx]
      obtain ⟨B2q, d2q, rfl⟩ := hf.q.len
      obtain ⟨B2a, d2a, rfl⟩ := hf.a.len
      obtain ⟨B2u, d2u, rfl⟩ := hf.u.len
      obtain ⟨B2x, d2x, rfl⟩ := hf.x.len
      obtain ⟨B2o, d2o, rfl⟩ := hf.o.len
      have F2 := Lib.hid hf
      clear hf
      rw [Ms.val_cells]
      obtain ⟨C2, hC⟩ : ∃ C, C = Ms.cells ms0 (.slice B2q (Ms.qs ms0).length d2q) (.slice B2a (Ms.an ms0).length d2a) (.slice B2u (Ms.au ms0).length d2u) (.slice B2x (Ms.ex ms0).length d2x) (.slice B2o (Ms.ops ms0).length d2o) := ⟨_, rfl⟩
      rw [← hC]
      have EC2 := Lib.hid hC
      have hs2 : (Array.all C2 (·.oneCell')) = true := by rw [hC]; kernel_rfl
      have hz2 : C2.size = 21 := by rw [hC]; rfl
      clear hC
      have hg : wab.grownBy ((wab.alloc (.cells #[.int .u16 0, .bool false, .int .u8 0, .bool false, .bool false, .bool false, .bool false, .bool false, .bool false, .bool false, .int .u8 0, .slice none 0 0, .slice none 0 0, .slice none 0 0, .slice none 0 0, .bool false, .int .u16 0, .int .u8 0, .int .u8 0, .int .u16 0, .slice none 0 0] 31)).setRow wab.heap.size C2) none := gsetRow (galloc (grefl wab none) _) (Nat.le_refl _) C2
      have M2 := Lib.hid (bsetR (balloc wab (.cells #[.int .u16 0, .bool false, .int .u8 0, .bool false, .bool false, .bool false, .bool false, .bool false, .bool false, .bool false, .int .u8 0, .slice none 0 0, .slice none 0 0, .slice none 0 0, .slice none 0 0, .bool false, .int .u16 0, .int .u8 0, .int .u8 0, .int .u16 0, .slice none 0 0] 31)) C2)
      have MA := Lib.hid (balloc wab (.cells #[.int .u16 0, .bool false, .int .u8 0, .bool false, .bool false, .bool false, .bool false, .bool false, .bool false, .bool false, .int .u8 0, .slice none 0 0, .slice none 0 0, .slice none 0 0, .slice none 0 0, .bool false, .int .u16 0, .int .u8 0, .int .u8 0, .int .u16 0, .slice none 0 0] 31))
      have F2' := Lib.hid (F2.out.kept hg)
      clear F2
      have Gwac := Lib.hid (gtrans G.out hg)
      have HAwac := Lib.hid (gblock hg HA.out (by simp))
      clear G HA hg
      have G := Gwac
      have HA := HAwac
      clear Gwac HAwac
      go_wp2_with (first | refine wpList_store_row rfl 31 _ _ rfl wab.heap.size C2 rfl rfl 31 _ MA.out (by rw [hz2]; kernel_rfl) hz2.symm hs2 ?_ | refine wpList_load_rowG rfl 31 _ rfl wab.heap.size rfl _ _ _ _ M2.out Tryd.underlying31 rfl (by rw [hz2]; kernel_rfl) ?_)
      clear MA
      generalize (wab.alloc (.cells #[.int .u16 0, .bool false, .int .u8 0, .bool false, .bool false, .bool false, .bool false, .bool false, .bool false, .bool false, .int .u8 0, .slice none 0 0, .slice none 0 0, .slice none 0 0, .slice none 0 0, .bool false, .int .u16 0, .int .u8 0, .int .u8 0, .int .u16 0, .slice none 0 0] 31)).setRow wab.heap.size C2 = wac at *
      generalize wab.heap.size = b2 at *
      have HS := rfsame_any wac ms0 ms0 (.slice B2q (Ms.qs ms0).length d2q) (.slice B2a (Ms.an ms0).length d2a) (.slice B2u (Ms.au ms0).length d2u) (.slice B2x (Ms.ex ms0).length d2x) (.slice B2o (Ms.ops ms0).length d2o) (.slice none 0 0) (.slice none 0 0) (.slice none 0 0) (.slice none 0 0) (.slice none 0 0) F2'.out.v (ms0_f _ 0).v (by decide) (by decide) (by decide) (by decide) (by decide)
      rw [ms0_val, Ms.val_cells, ← EC2.out, decide_eq_true (Eq.refl ms0)] at HS
      refine Calls.mono HS ?_
      clear HS
      rintro e wad ⟨rfl, hg⟩
      have GZ := Lib.hid (gtrans G.out hg)
      clear hg
      go_wp2_with fail
      go_ret
      exact ⟨rfl, GZ.out⟩
    · obtain ⟨rn, en, _, _⟩ := rdM_rng hn
      have RN := Lib.hid rn
      have MN := Lib.hid (Ms.wE0 en).1
      have YN := Lib.hid (Ms.may_yes.1 (Ms.wE0 en).1)
      have EN := Lib.hid en
      clear rn hn en
      refine Calls.mono (decode_any w6 t (HE.out.kept G.out (by simp)) (HT.out.kept G.out (by simp))) ?_
      rintro e wab ⟨hg, x2q, x2a, x2u, x2x, x2o, rfl, hf⟩
      have Gwab := Lib.hid (gtrans G.out hg)
      have HAwab := Lib.hid (gblock hg HA.out (by simp))
      clear G HA hg
      have G := Gwab
      have HA := HAwab
      clear Gwab HAwab
      rw [hm2] at hf
      rw [hm2, hx2]
      obtain ⟨B2q, d2q, rfl⟩ := hf.q.len
      obtain ⟨B2a, d2a, rfl⟩ := hf.a.len
      obtain ⟨B2u, d2u, rfl⟩ := hf.u.len
      obtain ⟨B2x, d2x, rfl⟩ := hf.x.len
      obtain ⟨B2o, d2o, rfl⟩ := hf.o.len
      have F2 := Lib.hid hf
      clear hf
      rw [Ms.val_cells]
      obtain ⟨C2, hC⟩ : ∃ C, C = Ms.cells n (.slice B2q (Ms.qs n).length d2q) (.slice B2a (Ms.an n).length d2a) (.slice B2u (Ms.au n).length d2u) (.slice B2x (Ms.ex n).length d2x) (.slice B2o (Ms.ops n).length d2o) := ⟨_, rfl⟩
      rw [← hC]
      have EC2 := Lib.hid hC
      have hs2 : (Array.all C2 (·.oneCell')) = true := by rw [hC]; kernel_rfl
      have hz2 : C2.size = 21 := by rw [hC]; rfl
      clear hC
      have hg : wab.grownBy ((wab.alloc (.cells #[.int .u16 0, .bool false, .int .u8 0, .bool false, .bool false, .bool false, .bool false, .bool false, .bool false, .bool false, .int .u8 0, .slice none 0 0, .slice none 0 0, .slice none 0 0, .slice none 0 0, .bool false, .int .u16 0, .int .u8 0, .int .u8 0, .int .u16 0, .slice none 0 0] 31)).setRow wab.heap.size C2) none := gsetRow (galloc (grefl wab none) _) (Nat.le_refl _) C2
      have M2 := Lib.hid (bsetR (balloc wab (.cells #[.int .u16 0, .bool false, .int .u8 0, .bool false, .bool false, .bool false, .bool false, .bool false, .bool false, .bool false, .int .u8 0, .slice none 0 0, .slice none 0 0, .slice none 0 0, .slice none 0 0, .bool false, .int .u16 0, .int .u8 0, .int .u8 0, .int .u16 0, .slice none 0 0] 31)) C2)
      have MA := Lib.hid (balloc wab (.cells #[.int .u16 0, .bool false, .int .u8 0, .bool false, .bool false, .bool false, .bool false, .bool false, .bool false, .bool false, .int .u8 0, .slice none 0 0, .slice none 0 0, .slice none 0 0, .slice none 0 0, .bool false, .int .u16 0, .int .u8 0, .int .u8 0, .int .u16 0, .slice none 0 0] 31))
      have F2' := Lib.hid (F2.out.kept hg)
      clear F2
      have Gwac := Lib.hid (gtrans G.out hg)
      have HAwac := Lib.hid (gblock hg HA.out (by simp))
      clear G HA hg
      have G := Gwac
      have HA := HAwac
      clear Gwac HAwac
      go_wp2_with (first | refine wpList_store_row rfl 31 _ _ rfl wab.heap.size C2 rfl rfl 31 _ MA.out (by rw [hz2]; kernel_rfl) hz2.symm hs2 ?_ | refine wpList_load_rowG rfl 31 _ rfl wab.heap.size rfl _ _ _ _ M2.out Tryd.underlying31 rfl (by rw [hz2]; kernel_rfl) ?_)
      clear MA
      generalize (wab.alloc (.cells #[.int .u16 0, .bool false, .int .u8 0, .bool false, .bool false, .bool false, .bool false, .bool false, .bool false, .bool false, .int .u8 0, .slice none 0 0, .slice none 0 0, .slice none 0 0, .slice none 0 0, .bool false, .int .u16 0, .int .u8 0, .int .u8 0, .int .u16 0, .slice none 0 0] 31)).setRow wab.heap.size C2 = wac at *
      generalize wab.heap.size = b2 at *
      clear hm2 hx2
      have F2 := F2'
      clear F2'
      have CE := encode_any wac n (.slice B2q (Ms.qs n).length d2q) (.slice B2a (Ms.an n).length d2a) (.slice B2u (Ms.au n).length d2u) (.slice B2x (Ms.ex n).length d2x) (.slice B2o (Ms.ops n).length d2o) (HE.out.kept G.out (by simp)) (HT.out.kept G.out (by simp)) F2.out.v RN.out
      rw [Ms.val_cells, ← EC2.out, EN.out] at CE
      refine Calls.mono CE ?_
      clear CE
      rintro e wad ⟨rfl, hg⟩
      have F2' := Lib.hid (F2.out.kept hg)
      clear F2
      have F2 := F2'
      clear F2'
      have Gwad := Lib.hid (gtrans G.out hg)
      have HAwad := Lib.hid (gblock hg HA.out (by simp))
      have M2wad := Lib.hid (gblock hg M2.out (by simp))
      clear G HA M2 hg
      have G := Gwad
      have HA := HAwad
      have M2 := M2wad
      clear Gwad HAwad M2wad
      obtain ⟨dm3, de3⟩ := dc_ok RN.out EN.out
      generalize n.out = u at *
      go_wp2_with fail
      refine Calls.mono (decode_any wad u (HE.out.kept G.out (by simp)) (HT.out.kept G.out (by simp))) ?_
      rintro e wae ⟨hg, x3q, x3a, x3u, x3x, x3o, rfl, hf⟩
      have HGE := Lib.hid hg
      have Gwae := Lib.hid (gtrans G.out hg)
      have HAwae := Lib.hid (gblock hg HA.out (by simp))
      have M2wae := Lib.hid (gblock hg M2.out (by simp))
      clear G HA M2 hg
      have G := Gwae
      have HA := HAwae
      have M2 := M2wae
      clear Gwae HAwae M2wae
      rw [dm3] at hf
      rw [dm3, de3]
      obtain ⟨B3q, d3q, rfl⟩ := hf.q.len
      obtain ⟨B3a, d3a, rfl⟩ := hf.a.len
      obtain ⟨B3u, d3u, rfl⟩ := hf.u.len
      obtain ⟨B3x, d3x, rfl⟩ := hf.x.len
      obtain ⟨B3o, d3o, rfl⟩ := hf.o.len
      have F3 := Lib.hid hf
      have F2x := Lib.hid (F2.out.kept HGE.out)
      clear F2 HGE
      clear hf
      rw [Ms.val_cells]
      obtain ⟨C3, hC⟩ : ∃ C, C = Ms.cells n (.slice B3q (Ms.qs n).length d3q) (.slice B3a (Ms.an n).length d3a) (.slice B3u (Ms.au n).length d3u) (.slice B3x (Ms.ex n).length d3x) (.slice B3o (Ms.ops n).length d3o) := ⟨_, rfl⟩
      rw [← hC]
      have EC3 := Lib.hid hC
      have hs3 : (Array.all C3 (·.oneCell')) = true := by rw [hC]; kernel_rfl
      have hz3 : C3.size = 21 := by rw [hC]; rfl
      clear hC
      have hg : wae.grownBy ((wae.alloc (.cells #[.int .u16 0, .bool false, .int .u8 0, .bool false, .bool false, .bool false, .bool false, .bool false, .bool false, .bool false, .int .u8 0, .slice none 0 0, .slice none 0 0, .slice none 0 0, .slice none 0 0, .bool false, .int .u16 0, .int .u8 0, .int .u8 0, .int .u16 0, .slice none 0 0] 31)).setRow wae.heap.size C3) none := gsetRow (galloc (grefl wae none) _) (Nat.le_refl _) C3
      have M3 := Lib.hid (bsetR (balloc wae (.cells #[.int .u16 0, .bool false, .int .u8 0, .bool false, .bool false, .bool false, .bool false, .bool false, .bool false, .bool false, .int .u8 0, .slice none 0 0, .slice none 0 0, .slice none 0 0, .slice none 0 0, .bool false, .int .u16 0, .int .u8 0, .int .u8 0, .int .u16 0, .slice none 0 0] 31)) C3)
      have MA := Lib.hid (balloc wae (.cells #[.int .u16 0, .bool false, .int .u8 0, .bool false, .bool false, .bool false, .bool false, .bool false, .bool false, .bool false, .int .u8 0, .slice none 0 0, .slice none 0 0, .slice none 0 0, .slice none 0 0, .bool false, .int .u16 0, .int .u8 0, .int .u8 0, .int .u16 0, .slice none 0 0] 31))
      have F3' := Lib.hid (F3.out.kept hg)
      have F2y := Lib.hid (F2x.out.kept hg)
      clear F3
      have Gwaf := Lib.hid (gtrans G.out hg)
      have HAwaf := Lib.hid (gblock hg HA.out (by simp))
      have M2waf := Lib.hid (gblock hg M2.out (by simp))
      clear G HA M2 hg
      have G := Gwaf
      have HA := HAwaf
      have M2 := M2waf
      clear Gwaf HAwaf M2waf
      go_wp2_with (first | refine wpList_store_row rfl 31 _ _ rfl wae.heap.size C3 rfl rfl 31 _ MA.out (by rw [hz3]; kernel_rfl) hz3.symm hs3 ?_ | refine wpList_load_rowG rfl 31 _ rfl b2 rfl _ _ _ _ M2.out Tryd.underlying31 rfl (by rw [hz2]; kernel_rfl) ?_)
      clear MA
      generalize (wae.alloc (.cells #[.int .u16 0, .bool false, .int .u8 0, .bool false, .bool false, .bool false, .bool false, .bool false, .bool false, .bool false, .int .u8 0, .slice none 0 0, .slice none 0 0, .slice none 0 0, .slice none 0 0, .bool false, .int .u16 0, .int .u8 0, .int .u8 0, .int .u16 0, .slice none 0 0] 31)).setRow wae.heap.size C3 = waf at *
      generalize wae.heap.size = b3 at *
      have CY := wmay_any waf n (.slice B2q (Ms.qs n).length d2q) (.slice B2a (Ms.an n).length d2a) (.slice B2u (Ms.au n).length d2u) (.slice B2x (Ms.ex n).length d2x) (.slice B2o (Ms.ops n).length d2o) (HE.out.kept G.out (by simp)) (HT.out.kept G.out (by simp)) F2y.out.v RN.out.few
      rw [Ms.val_cells, ← EC2.out, MN.out] at CY
      refine Calls.mono CY ?_
      clear CY
      rintro e wah ⟨rfl, hg⟩
      have F2z := Lib.hid (F2y.out.kept hg)
      have F3z := Lib.hid (F3'.out.kept hg)
      clear F2y F2x F3'
      have Gwah := Lib.hid (gtrans G.out hg)
      have HAwah := Lib.hid (gblock hg HA.out (by simp))
      have M2wah := Lib.hid (gblock hg M2.out (by simp))
      have M3wah := Lib.hid (gblock hg M3.out (by simp))
      clear G HA M2 M3 hg
      have G := Gwah
      have HA := HAwah
      have M2 := M2wah
      have M3 := M3wah
      clear Gwah HAwah M2wah M3wah
      go_wp2_with (first | refine wpList_load_rowG rfl 31 _ rfl b2 rfl _ _ _ _ M2.out Tryd.underlying31 rfl (by rw [hz2]; kernel_rfl) ?_ | refine wpList_load_rowG rfl 31 _ rfl b3 rfl _ _ _ _ M3.out Tryd.underlying31 rfl (by rw [hz3]; kernel_rfl) ?_)
      have HS := rfsame_any wah n n (.slice B3q (Ms.qs n).length d3q) (.slice B3a (Ms.an n).length d3a) (.slice B3u (Ms.au n).length d3u) (.slice B3x (Ms.ex n).length d3x) (.slice B3o (Ms.ops n).length d3o) (.slice B2q (Ms.qs n).length d2q) (.slice B2a (Ms.an n).length d2a) (.slice B2u (Ms.au n).length d2u) (.slice B2x (Ms.ex n).length d2x) (.slice B2o (Ms.ops n).length d2o) F3z.out.v F2z.out.v (by have := YN.out.ql; omega) (by have := YN.out.al; omega) (by have := YN.out.ul; omega) (RN.out.xl) (RN.out.ol)
      rw [Ms.val_cells, Ms.val_cells, ← EC2.out, ← EC3.out, decide_eq_true (Eq.refl n)] at HS
      refine Calls.mono HS ?_
      clear HS
      rintro e wai ⟨rfl, hg⟩
      have GZ := Lib.hid (gtrans G.out hg)
      clear hg
      go_wp2_with fail
      go_ret
      exact ⟨rfl, GZ.out⟩
  · rw [hE]
    clear hE hMay
    go_wp2_with fail
    rcases dc_case t with ⟨hm2, hx2⟩ | ⟨n, hn, hm2, hx2⟩
    · obtain ⟨x2, hxx⟩ : ∃ x2, dcE t = x2 := ⟨_, rfl⟩
      rw [hxx] at hx2
      have kx : (((x2 : Nat) : Int) != 0) = true := by simp; omega
      refine Calls.mono (decode_any w3 t (HE.out.kept G.out (by simp)) (HT.out.kept G.out (by simp))) ?_
      rintro e wbb ⟨hg, x2q, x2a, x2u, x2x, x2o, rfl, hf⟩
      have Gwbb := Lib.hid (gtrans G.out hg)
      have HAwbb := Lib.hid (gblock hg HA.out (by simp))
      clear G HA hg
      have G := Gwbb
      have HA := HAwbb
      clear Gwbb HAwbb
      rw [hm2] at hf
      rw [hm2, hxx]
      obtain ⟨B2q, d2q, rfl⟩ := hf.q.len
      obtain ⟨B2a, d2a, rfl⟩ := hf.a.len
      obtain ⟨B2u, d2u, rfl⟩ := hf.u.len
      obtain ⟨B2x, d2x, rfl⟩ := hf.x.len
      obtain ⟨B2o, d2o, rfl⟩ := hf.o.len
      have F2 := Lib.hid hf
      clear hf
      rw [Ms.val_cells]
      obtain ⟨C2, hC⟩ : ∃ C, C = Ms.cells ms0 (.slice B2q (Ms.qs ms0).length d2q) (.slice B2a (Ms.an ms0).length d2a) (.slice B2u (Ms.au ms0).length d2u) (.slice B2x (Ms.ex ms0).length d2x) (.slice B2o (Ms.ops ms0).length d2o) := ⟨_, rfl⟩
      rw [← hC]
      have EC2 := Lib.hid hC
      have hs2 : (Array.all C2 (·.oneCell')) = true := by rw [hC]; kernel_rfl
      have hz2 : C2.size = 21 := by rw [hC]; rfl
      clear hC
      have hg : wbb.grownBy ((wbb.alloc (.cells #[.int .u16 0, .bool false, .int .u8 0, .bool false, .bool false, .bool false, .bool false, .bool false, .bool false, .bool false, .int .u8 0, .slice none 0 0, .slice none 0 0, .slice none 0 0, .slice none 0 0, .bool false, .int .u16 0, .int .u8 0, .int .u8 0, .int .u16 0, .slice none 0 0] 31)).setRow wbb.heap.size C2) none := gsetRow (galloc (grefl wbb none) _) (Nat.le_refl _) C2
      have M2 := Lib.hid (bsetR (balloc wbb (.cells #[.int .u16 0, .bool false, .int .u8 0, .bool false, .bool false, .bool false, .bool false, .bool false, .bool false, .bool false, .int .u8 0, .slice none 0 0, .slice none 0 0, .slice none 0 0, .slice none 0 0, .bool false, .int .u16 0, .int .u8 0, .int .u8 0, .int .u16 0, .slice none 0 0] 31)) C2)
      have MA := Lib.hid (balloc wbb (.cells #[.int .u16 0, .bool false, .int .u8 0, .bool false, .bool false, .bool false, .bool false, .bool false, .bool false, .bool false, .int .u8 0, .slice none 0 0, .slice none 0 0, .slice none 0 0, .slice none 0 0, .bool false, .int .u16 0, .int .u8 0, .int .u8 0, .int .u16 0, .slice none 0 0] 31))
      have F2' := Lib.hid (F2.out.kept hg)
      clear F2
      have Gwbc := Lib.hid (gtrans G.out hg)
      have HAwbc := Lib.hid (gblock hg HA.out (by simp))
      clear G HA hg
      have G := Gwbc
      have HA := HAwbc
      clear Gwbc HAwbc
      go_wp2_with (first | refine wpList_store_row rfl 31 _ _ rfl wbb.heap.size C2 rfl rfl 31 _ MA.out (by rw [hz2]; kernel_rfl) hz2.symm hs2 ?_ | refine wpList_load_rowG rfl 31 _ rfl wbb.heap.size rfl _ _ _ _ M2.out Tryd.underlying31 rfl (by rw [hz2]; kernel_rfl) ?_)
      clear MA
      generalize (wbb.alloc (.cells #[.int .u16 0, .bool false, .int .u8 0, .bool false, .bool false, .bool false, .bool false, .bool false, .bool false, .bool false, .int .u8 0, .slice none 0 0, .slice none 0 0, .slice none 0 0, .slice none 0 0, .bool false, .int .u16 0, .int .u8 0, .int .u8 0, .int .u16 0, .slice none 0 0] 31)).setRow wbb.heap.size C2 = wbc at *
      generalize wbb.heap.size = b2 at *
      have HS := rfsame_any wbc ms0 ms0 (.slice B2q (Ms.qs ms0).length d2q) (.slice B2a (Ms.an ms0).length d2a) (.slice B2u (Ms.au ms0).length d2u) (.slice B2x (Ms.ex ms0).length d2x) (.slice B2o (Ms.ops ms0).length d2o) (.slice none 0 0) (.slice none 0 0) (.slice none 0 0) (.slice none 0 0) (.slice none 0 0) F2'.out.v (ms0_f _ 0).v (by decide) (by decide) (by decide) (by decide) (by decide)
      rw [ms0_val, Ms.val_cells, ← EC2.out, decide_eq_true (Eq.refl ms0)] at HS
      refine Calls.mono HS ?_
      clear HS
      rintro e wbd ⟨rfl, hg⟩
      have GZ := Lib.hid (gtrans G.out hg)
      clear hg
      go_wp2_with fail
      go_ret
      exact ⟨rfl, GZ.out⟩
    · obtain ⟨rn, en, _, _⟩ := rdM_rng hn
      have RN := Lib.hid rn
      have MN := Lib.hid (Ms.wE0 en).1
      have YN := Lib.hid (Ms.may_yes.1 (Ms.wE0 en).1)
      have EN := Lib.hid en
      clear rn hn en
      refine Calls.mono (decode_any w3 t (HE.out.kept G.out (by simp)) (HT.out.kept G.out (by simp))) ?_
      rintro e wbb ⟨hg, x2q, x2a, x2u, x2x, x2o, rfl, hf⟩
      have Gwbb := Lib.hid (gtrans G.out hg)
      have HAwbb := Lib.hid (gblock hg HA.out (by simp))
      clear G HA hg
      have G := Gwbb
      have HA := HAwbb
      clear Gwbb HAwbb
      rw [hm2] at hf
      rw [hm2, hx2]
      obtain ⟨B2q, d2q, rfl⟩ := hf.q.len
      obtain ⟨B2a, d2a, rfl⟩ := hf.a.len
      obtain ⟨B2u, d2u, rfl⟩ := hf.u.len
      obtain ⟨B2x, d2x, rfl⟩ := hf.x.len
      obtain ⟨B2o, d2o, rfl⟩ := hf.o.len
      have F2 := Lib.hid hf
      clear hf
      rw [Ms.val_cells]
      obtain ⟨C2, hC⟩ : ∃ C, C = Ms.cells n (.slice B2q (Ms.qs n).length d2q) (.slice B2a (Ms.an n).length d2a) (.slice B2u (Ms.au n).length d2u) (.slice B2x (Ms.ex n).length d2x) (.slice B2o (Ms.ops n).length d2o) := ⟨_, rfl⟩
      rw [← hC]
      have EC2 := Lib.hid hC
      have hs2 : (Array.all C2 (·.oneCell')) = true := by rw [hC]; kernel_rfl
      have hz2 : C2.size = 21 := by rw [hC]; rfl
      clear hC
      have hg : wbb.grownBy ((wbb.alloc (.cells #[.int .u16 0, .bool false, .int .u8 0, .bool false, .bool false, .bool false, .bool false, .bool false, .bool false, .bool false, .int .u8 0, .slice none 0 0, .slice none 0 0, .slice none 0 0, .slice none 0 0, .bool false, .int .u16 0, .int .u8 0, .int .u8 0, .int .u16 0, .slice none 0 0] 31)).setRow wbb.heap.size C2) none := gsetRow (galloc (grefl wbb none) _) (Nat.le_refl _) C2
      have M2 := Lib.hid (bsetR (balloc wbb (.cells #[.int .u16 0, .bool false, .int .u8 0, .bool false, .bool false, .bool false, .bool false, .bool false, .bool false, .bool false, .int .u8 0, .slice none 0 0, .slice none 0 0, .slice none 0 0, .slice none 0 0, .bool false, .int .u16 0, .int .u8 0, .int .u8 0, .int .u16 0, .slice none 0 0] 31)) C2)
      have MA := Lib.hid (balloc wbb (.cells #[.int .u16 0, .bool false, .int .u8 0, .bool false, .bool false, .bool false, .bool false, .bool false, .bool false, .bool false, .int .u8 0, .slice none 0 0, .slice none 0 0, .slice none 0 0, .slice none 0 0, .bool false, .int .u16 0, .int .u8 0, .int .u8 0, .int .u16 0, .slice none 0 0] 31))
      have F2' := Lib.hid (F2.out.kept hg)
      clear F2
      have Gwbc := Lib.hid (gtrans G.out hg)
      have HAwbc := Lib.hid (gblock hg HA.out (by simp))
      clear G HA hg
      have G := Gwbc
      have HA := HAwbc
      clear Gwbc HAwbc
      go_wp2_with (first | refine wpList_store_row rfl 31 _ _ rfl wbb.heap.size C2 rfl rfl 31 _ MA.out (by rw [hz2]; kernel_rfl) hz2.symm hs2 ?_ | refine wpList_load_rowG rfl 31 _ rfl wbb.heap.size rfl _ _ _ _ M2.out Tryd.underlying31 rfl (by rw [hz2]; kernel_rfl) ?_)
      clear MA
      generalize (wbb.alloc (.cells #[.int .u16 0, .bool false, .int .u8 0, .bool false, .bool false, .bool false, .bool false, .bool false, .bool false, .bool false, .int .u8 0, .slice none 0 0, .slice none 0 0, .slice none 0 0, .slice none 0 0, .bool false, .int .u16 0, .int .u8 0, .int .u8 0, .int .u16 0, .slice none 0 0] 31)).setRow wbb.heap.size C2 = wbc at *
      generalize wbb.heap.size = b2 at *
      clear hm2 hx2
      have F2 := F2'
      clear F2'
      have CE := encode_any wbc n (.slice B2q (Ms.qs n).length d2q) (.slice B2a (Ms.an n).length d2a) (.slice B2u (Ms.au n).length d2u) (.slice B2x (Ms.ex n).length d2x) (.slice B2o (Ms.ops n).length d2o) (HE.out.kept G.out (by simp)) (HT.out.kept G.out (by simp)) F2.out.v RN.out
      rw [Ms.val_cells, ← EC2.out, EN.out] at CE
      refine Calls.mono CE ?_
      clear CE
      rintro e wbd ⟨rfl, hg⟩
      have F2' := Lib.hid (F2.out.kept hg)
      clear F2
      have F2 := F2'
      clear F2'
      have Gwbd := Lib.hid (gtrans G.out hg)
      have HAwbd := Lib.hid (gblock hg HA.out (by simp))
      have M2wbd := Lib.hid (gblock hg M2.out (by simp))
      clear G HA M2 hg
      have G := Gwbd
      have HA := HAwbd
      have M2 := M2wbd
      clear Gwbd HAwbd M2wbd
      obtain ⟨dm3, de3⟩ := dc_ok RN.out EN.out
      generalize n.out = u at *
      go_wp2_with fail
      refine Calls.mono (decode_any wbd u (HE.out.kept G.out (by simp)) (HT.out.kept G.out (by simp))) ?_
      rintro e wbe ⟨hg, x3q, x3a, x3u, x3x, x3o, rfl, hf⟩
      have HGE := Lib.hid hg
      have Gwbe := Lib.hid (gtrans G.out hg)
      have HAwbe := Lib.hid (gblock hg HA.out (by simp))
      have M2wbe := Lib.hid (gblock hg M2.out (by simp))
      clear G HA M2 hg
      have G := Gwbe
      have HA := HAwbe
      have M2 := M2wbe
      clear Gwbe HAwbe M2wbe
      rw [dm3] at hf
      rw [dm3, de3]
      obtain ⟨B3q, d3q, rfl⟩ := hf.q.len
      obtain ⟨B3a, d3a, rfl⟩ := hf.a.len
      obtain ⟨B3u, d3u, rfl⟩ := hf.u.len
      obtain ⟨B3x, d3x, rfl⟩ := hf.x.len
      obtain ⟨B3o, d3o, rfl⟩ := hf.o.len
      have F3 := Lib.hid hf
      have F2x := Lib.hid (F2.out.kept HGE.out)
      clear F2 HGE
      clear hf
      rw [Ms.val_cells]
      obtain ⟨C3, hC⟩ : ∃ C, C = Ms.cells n (.slice B3q (Ms.qs n).length d3q) (.slice B3a (Ms.an n).length d3a) (.slice B3u (Ms.au n).length d3u) (.slice B3x (Ms.ex n).length d3x) (.slice B3o (Ms.ops n).length d3o) := ⟨_, rfl⟩
      rw [← hC]
      have EC3 := Lib.hid hC
      have hs3 : (Array.all C3 (·.oneCell')) = true := by rw [hC]; kernel_rfl
      have hz3 : C3.size = 21 := by rw [hC]; rfl
      clear hC
      have hg : wbe.grownBy ((wbe.alloc (.cells #[.int .u16 0, .bool false, .int .u8 0, .bool false, .bool false, .bool false, .bool false, .bool false, .bool false, .bool false, .int .u8 0, .slice none 0 0, .slice none 0 0, .slice none 0 0, .slice none 0 0, .bool false, .int .u16 0, .int .u8 0, .int .u8 0, .int .u16 0, .slice none 0 0] 31)).setRow wbe.heap.size C3) none := gsetRow (galloc (grefl wbe none) _) (Nat.le_refl _) C3
      have M3 := Lib.hid (bsetR (balloc wbe (.cells #[.int .u16 0, .bool false, .int .u8 0, .bool false, .bool false, .bool false, .bool false, .bool false, .bool false, .bool false, .int .u8 0, .slice none 0 0, .slice none 0 0, .slice none 0 0, .slice none 0 0, .bool false, .int .u16 0, .int .u8 0, .int .u8 0, .int .u16 0, .slice none 0 0] 31)) C3)
      have MA := Lib.hid (balloc wbe (.cells #[.int .u16 0, .bool false, .int .u8 0, .bool false, .bool false, .bool false, .bool false, .bool false, .bool false, .bool false, .int .u8 0, .slice none 0 0, .slice none 0 0, .slice none 0 0, .slice none 0 0, .bool false, .int .u16 0, .int .u8 0, .int .u8 0, .int .u16 0, .slice none 0 0] 31))
      have F3' := Lib.hid (F3.out.kept hg)
      have F2y := Lib.hid (F2x.out.kept hg)
      clear F3
      have Gwbf := Lib.hid (gtrans G.out hg)
      have HAwbf := Lib.hid (gblock hg HA.out (by simp))
      have M2wbf := Lib.hid (gblock hg M2.out (by simp))
      clear G HA M2 hg
      have G := Gwbf
      have HA := HAwbf
      have M2 := M2wbf
      clear Gwbf HAwbf M2wbf
      go_wp2_with (first | refine wpList_store_row rfl 31 _ _ rfl wbe.heap.size C3 rfl rfl 31 _ MA.out (by rw [hz3]; kernel_rfl) hz3.symm hs3 ?_ | refine wpList_load_rowG rfl 31 _ rfl b2 rfl _ _ _ _ M2.out Tryd.underlying31 rfl (by rw [hz2]; kernel_rfl) ?_)
      clear MA
      generalize (wbe.alloc (.cells #[.int .u16 0, .bool false, .int .u8 0, .bool false, .bool false, .bool false, .bool false, .bool false, .bool false, .bool false, .int .u8 0, .slice none 0 0, .slice none 0 0, .slice none 0 0, .slice none 0 0, .bool false, .int .u16 0, .int .u8 0, .int .u8 0, .int .u16 0, .slice none 0 0] 31)).setRow wbe.heap.size C3 = wbf at *
      generalize wbe.heap.size = b3 at *
      have CY := wmay_any wbf n (.slice B2q (Ms.qs n).length d2q) (.slice B2a (Ms.an n).length d2a) (.slice B2u (Ms.au n).length d2u) (.slice B2x (Ms.ex n).length d2x) (.slice B2o (Ms.ops n).length d2o) (HE.out.kept G.out (by simp)) (HT.out.kept G.out (by simp)) F2y.out.v RN.out.few
      rw [Ms.val_cells, ← EC2.out, MN.out] at CY
      refine Calls.mono CY ?_
      clear CY
      rintro e wbh ⟨rfl, hg⟩
      have F2z := Lib.hid (F2y.out.kept hg)
      have F3z := Lib.hid (F3'.out.kept hg)
      clear F2y F2x F3'
      have Gwbh := Lib.hid (gtrans G.out hg)
      have HAwbh := Lib.hid (gblock hg HA.out (by simp))
      have M2wbh := Lib.hid (gblock hg M2.out (by simp))
      have M3wbh := Lib.hid (gblock hg M3.out (by simp))
      clear G HA M2 M3 hg
      have G := Gwbh
      have HA := HAwbh
      have M2 := M2wbh
      have M3 := M3wbh
      clear Gwbh HAwbh M2wbh M3wbh
      go_wp2_with (first | refine wpList_load_rowG rfl 31 _ rfl b2 rfl _ _ _ _ M2.out Tryd.underlying31 rfl (by rw [hz2]; kernel_rfl) ?_ | refine wpList_load_rowG rfl 31 _ rfl b3 rfl _ _ _ _ M3.out Tryd.underlying31 rfl (by rw [hz3]; kernel_rfl) ?_)
      have HS := rfsame_any wbh n n (.slice B3q (Ms.qs n).length d3q) (.slice B3a (Ms.an n).length d3a) (.slice B3u (Ms.au n).length d3u) (.slice B3x (Ms.ex n).length d3x) (.slice B3o (Ms.ops n).length d3o) (.slice B2q (Ms.qs n).length d2q) (.slice B2a (Ms.an n).length d2a) (.slice B2u (Ms.au n).length d2u) (.slice B2x (Ms.ex n).length d2x) (.slice B2o (Ms.ops n).length d2o) F3z.out.v F2z.out.v (by have := YN.out.ql; omega) (by have := YN.out.al; omega) (by have := YN.out.ul; omega) (RN.out.xl) (RN.out.ol)
      rw [Ms.val_cells, Ms.val_cells, ← EC2.out, ← EC3.out, decide_eq_true (Eq.refl n)] at HS
      refine Calls.mono HS ?_
      clear HS
      rintro e wbi ⟨rfl, hg⟩
      have GZ := Lib.hid (gtrans G.out hg)
      clear hg
      go_wp2_with fail
      go_ret
      exact ⟨rfl, GZ.out⟩
  · rw [hE]
    clear hE hMay
    go_wp2_with fail
    rcases dc_case t with ⟨hm2, hx2⟩ | ⟨n, hn, hm2, hx2⟩
    · obtain ⟨x2, hxx⟩ : ∃ x2, dcE t = x2 := ⟨_, rfl⟩
      rw [hxx] at hx2
      have kx : (((x2 : Nat) : Int) != 0) = true := by simp; omega
      refine Calls.mono (decode_any w3 t (HE.out.kept G.out (by simp)) (HT.out.kept G.out (by simp))) ?_
      rintro e wcb ⟨hg, x2q, x2a, x2u, x2x, x2o, rfl, hf⟩
      have Gwcb := Lib.hid (gtrans G.out hg)
      have HAwcb := Lib.hid (gblock hg HA.out (by simp))
      clear G HA hg
      have G := Gwcb
      have HA := HAwcb
      clear Gwcb HAwcb
      rw [hm2] at hf
      rw [hm2, hxx]
      obtain ⟨B2q, d2q, rfl⟩ := hf.q.len
      obtain ⟨B2a, d2a, rfl⟩ := hf.a.len
      obtain ⟨B2u, d2u, rfl⟩ := hf.u.len
      obtain ⟨B2x, d2x, rfl⟩ := hf.x.len
      obtain ⟨B2o, d2o, rfl⟩ := hf.o.len
      have F2 := Lib.hid hf
      clear hf
      rw [Ms.val_cells]
      obtain ⟨C2, hC⟩ : ∃ C, C = Ms.cells ms0 (.slice B2q (Ms.qs ms0).length d2q) (.slice B2a (Ms.an ms0).length d2a) (.slice B2u (Ms.au ms0).length d2u) (.slice B2x (Ms.ex ms0).length d2x) (.slice B2o (Ms.ops ms0).length d2o) := ⟨_, rfl⟩
      rw [← hC]
      have EC2 := Lib.hid hC
      have hs2 : (Array.all C2 (·.oneCell')) = true := by rw [hC]; kernel_rfl
      have hz2 : C2.size = 21 := by rw [hC]; rfl
      clear hC
      have hg : wcb.grownBy ((wcb.alloc (.cells #[.int .u16 0, .bool false, .int .u8 0, .bool false, .bool false, .bool false, .bool false, .bool false, .bool false, .bool false, .int .u8 0, .slice none 0 0, .slice none 0 0, .slice none 0 0, .slice none 0 0, .bool false, .int .u16 0, .int .u8 0, .int .u8 0, .int .u16 0, .slice none 0 0] 31)).setRow wcb.heap.size C2) none := gsetRow (galloc (grefl wcb none) _) (Nat.le_refl _) C2
      have M2 := Lib.hid (bsetR (balloc wcb (.cells #[.int .u16 0, .bool false, .int .u8 0, .bool false, .bool false, .bool false, .bool false, .bool false, .bool false, .bool false, .int .u8 0, .slice none 0 0, .slice none 0 0, .slice none 0 0, .slice none 0 0, .bool false, .int .u16 0, .int .u8 0, .int .u8 0, .int .u16 0, .slice none 0 0] 31)) C2)
      have MA := Lib.hid (balloc wcb (.cells #[.int .u16 0, .bool false, .int .u8 0, .bool false, .bool false, .bool false, .bool false, .bool false, .bool false, .bool false, .int .u8 0, .slice none 0 0, .slice none 0 0, .slice none 0 0, .slice none 0 0, .bool false, .int .u16 0, .int .u8 0, .int .u8 0, .int .u16 0, .slice none 0 0] 31))
      have F2' := Lib.hid (F2.out.kept hg)
      clear F2
      have Gwcc := Lib.hid (gtrans G.out hg)
      have HAwcc := Lib.hid (gblock hg HA.out (by simp))
      clear G HA hg
      have G := Gwcc
      have HA := HAwcc
      clear Gwcc HAwcc
      go_wp2_with (first | refine wpList_store_row rfl 31 _ _ rfl wcb.heap.size C2 rfl rfl 31 _ MA.out (by rw [hz2]; kernel_rfl) hz2.symm hs2 ?_ | refine wpList_load_rowG rfl 31 _ rfl wcb.heap.size rfl _ _ _ _ M2.out Tryd.underlying31 rfl (by rw [hz2]; kernel_rfl) ?_)
      clear MA
      generalize (wcb.alloc (.cells #[.int .u16 0, .bool false, .int .u8 0, .bool false, .bool false, .bool false, .bool false, .bool false, .bool false, .bool false, .int .u8 0, .slice none 0 0, .slice none 0 0, .slice none 0 0, .slice none 0 0, .bool false, .int .u16 0, .int .u8 0, .int .u8 0, .int .u16 0, .slice none 0 0] 31)).setRow wcb.heap.size C2 = wcc at *
      generalize wcb.heap.size = b2 at *
      have HS := rfsame_any wcc ms0 ms0 (.slice B2q (Ms.qs ms0).length d2q) (.slice B2a (Ms.an ms0).length d2a) (.slice B2u (Ms.au ms0).length d2u) (.slice B2x (Ms.ex ms0).length d2x) (.slice B2o (Ms.ops ms0).length d2o) (.slice none 0 0) (.slice none 0 0) (.slice none 0 0) (.slice none 0 0) (.slice none 0 0) F2'.out.v (ms0_f _ 0).v (by decide) (by decide) (by decide) (by decide) (by decide)
      rw [ms0_val, Ms.val_cells, ← EC2.out, decide_eq_true (Eq.refl ms0)] at HS
      refine Calls.mono HS ?_
      clear HS
      rintro e wcd ⟨rfl, hg⟩
      have GZ := Lib.hid (gtrans G.out hg)
      clear hg
      go_wp2_with fail
      go_ret
      exact ⟨rfl, GZ.out⟩
    · obtain ⟨rn, en, _, _⟩ := rdM_rng hn
      have RN := Lib.hid rn
      have MN := Lib.hid (Ms.wE0 en).1
      have YN := Lib.hid (Ms.may_yes.1 (Ms.wE0 en).1)
      have EN := Lib.hid en
      clear rn hn en
      refine Calls.mono (decode_any w3 t (HE.out.kept G.out (by simp)) (HT.out.kept G.out (by simp))) ?_
      rintro e wcb ⟨hg, x2q, x2a, x2u, x2x, x2o, rfl, hf⟩
      have Gwcb := Lib.hid (gtrans G.out hg)
      have HAwcb := Lib.hid (gblock hg HA.out (by simp))
      clear G HA hg
      have G := Gwcb
      have HA := HAwcb
      clear Gwcb HAwcb
      rw [hm2] at hf
      rw [hm2, hx2]
      obtain ⟨B2q, d2q, rfl⟩ := hf.q.len
      obtain ⟨B2a, d2a, rfl⟩ := hf.a.len
      obtain ⟨B2u, d2u, rfl⟩ := hf.u.len
      obtain ⟨B2x, d2x, rfl⟩ := hf.x.len
      obtain ⟨B2o, d2o, rfl⟩ := hf.o.len
      have F2 := Lib.hid hf
      clear hf
      rw [Ms.val_cells]
      obtain ⟨C2, hC⟩ : ∃ C, C = Ms.cells n (.slice B2q (Ms.qs n).length d2q) (.slice B2a (Ms.an n).length d2a) (.slice B2u (Ms.au n).length d2u) (.slice B2x (Ms.ex n).length d2x) (.slice B2o (Ms.ops n).length d2o) := ⟨_, rfl⟩
      rw [← hC]
      have EC2 := Lib.hid hC
      have hs2 : (Array.all C2 (·.oneCell')) = true := by rw [hC]; kernel_rfl
      have hz2 : C2.size = 21 := by rw [hC]; rfl
      clear hC
      have hg : wcb.grownBy ((wcb.alloc (.cells #[.int .u16 0, .bool false, .int .u8 0, .bool false, .bool false, .bool false, .bool false, .bool false, .bool false, .bool false, .int .u8 0, .slice none 0 0, .slice none 0 0, .slice none 0 0, .slice none 0 0, .bool false, .int .u16 0, .int .u8 0, .int .u8 0, .int .u16 0, .slice none 0 0] 31)).setRow wcb.heap.size C2) none := gsetRow (galloc (grefl wcb none) _) (Nat.le_refl _) C2
      have M2 := Lib.hid (bsetR (balloc wcb (.cells #[.int .u16 0, .bool false, .int .u8 0, .bool false, .bool false, .bool false, .bool false, .bool false, .bool false, .bool false, .int .u8 0, .slice none 0 0, .slice none 0 0, .slice none 0 0, .slice none 0 0, .bool false, .int .u16 0, .int .u8 0, .int .u8 0, .int .u16 0, .slice none 0 0] 31)) C2)
      have MA := Lib.hid (balloc wcb (.cells #[.int .u16 0, .bool false, .int .u8 0, .bool false, .bool false, .bool false, .bool false, .bool false, .bool false, .bool false, .int .u8 0, .slice none 0 0, .slice none 0 0, .slice none 0 0, .slice none 0 0, .bool false, .int .u16 0, .int .u8 0, .int .u8 0, .int .u16 0, .slice none 0 0] 31))
      have F2' := Lib.hid (F2.out.kept hg)
      clear F2
      have Gwcc := Lib.hid (gtrans G.out hg)
      have HAwcc := Lib.hid (gblock hg HA.out (by simp))
      clear G HA hg
      have G := Gwcc
      have HA := HAwcc
      clear Gwcc HAwcc
      go_wp2_with (first | refine wpList_store_row rfl 31 _ _ rfl wcb.heap.size C2 rfl rfl 31 _ MA.out (by rw [hz2]; kernel_rfl) hz2.symm hs2 ?_ | refine wpList_load_rowG rfl 31 _ rfl wcb.heap.size rfl _ _ _ _ M2.out Tryd.underlying31 rfl (by rw [hz2]; kernel_rfl) ?_)
      clear MA
      generalize (wcb.alloc (.cells #[.int .u16 0, .bool false, .int .u8 0, .bool false, .bool false, .bool false, .bool false, .bool false, .bool false, .bool false, .int .u8 0, .slice none 0 0, .slice none 0 0, .slice none 0 0, .slice none 0 0, .bool false, .int .u16 0, .int .u8 0, .int .u8 0, .int .u16 0, .slice none 0 0] 31)).setRow wcb.heap.size C2 = wcc at *
      generalize wcb.heap.size = b2 at *
      clear hm2 hx2
      have F2 := F2'
      clear F2'
      have CE := encode_any wcc n (.slice B2q (Ms.qs n).length d2q) (.slice B2a (Ms.an n).length d2a) (.slice B2u (Ms.au n).length d2u) (.slice B2x (Ms.ex n).length d2x) (.slice B2o (Ms.ops n).length d2o) (HE.out.kept G.out (by simp)) (HT.out.kept G.out (by simp)) F2.out.v RN.out
      rw [Ms.val_cells, ← EC2.out, EN.out] at CE
      refine Calls.mono CE ?_
      clear CE
      rintro e wcd ⟨rfl, hg⟩
      have F2' := Lib.hid (F2.out.kept hg)
      clear F2
      have F2 := F2'
      clear F2'
      have Gwcd := Lib.hid (gtrans G.out hg)
      have HAwcd := Lib.hid (gblock hg HA.out (by simp))
      have M2wcd := Lib.hid (gblock hg M2.out (by simp))
      clear G HA M2 hg
      have G := Gwcd
      have HA := HAwcd
      have M2 := M2wcd
      clear Gwcd HAwcd M2wcd
      obtain ⟨dm3, de3⟩ := dc_ok RN.out EN.out
      generalize n.out = u at *
      go_wp2_with fail
      refine Calls.mono (decode_any wcd u (HE.out.kept G.out (by simp)) (HT.out.kept G.out (by simp))) ?_
      rintro e wce ⟨hg, x3q, x3a, x3u, x3x, x3o, rfl, hf⟩
      have HGE := Lib.hid hg
      have Gwce := Lib.hid (gtrans G.out hg)
      have HAwce := Lib.hid (gblock hg HA.out (by simp))
      have M2wce := Lib.hid (gblock hg M2.out (by simp))
      clear G HA M2 hg
      have G := Gwce
      have HA := HAwce
      have M2 := M2wce
      clear Gwce HAwce M2wce
      rw [dm3] at hf
      rw [dm3, de3]
      obtain ⟨B3q, d3q, rfl⟩ := hf.q.len
      obtain ⟨B3a, d3a, rfl⟩ := hf.a.len
      obtain ⟨B3u, d3u, rfl⟩ := hf.u.len
      obtain ⟨B3x, d3x, rfl⟩ := hf.x.len
      obtain ⟨B3o, d3o, rfl⟩ := hf.o.len
      have F3 := Lib.hid hf
      have F2x := Lib.hid (F2.out.kept HGE.out)
      clear F2 HGE
      clear hf
      rw [Ms.val_cells]
      obtain ⟨C3, hC⟩ : ∃ C, C = Ms.cells n (.slice B3q (Ms.qs n).length d3q) (.slice B3a (Ms.an n).length d3a) (.slice B3u (Ms.au n).length d3u) (.slice B3x (Ms.ex n).length d3x) (.slice B3o (Ms.ops n).length d3o) := ⟨_, rfl⟩
      rw [← hC]
      have EC3 := Lib.hid hC
      have hs3 : (Array.all C3 (·.oneCell')) = true := by rw [hC]; kernel_rfl
      have hz3 : C3.size = 21 := by rw [hC]; rfl
      clear hC
      have hg : wce.grownBy ((wce.alloc (.cells #[.int .u16 0, .bool false, .int .u8 0, .bool false, .bool false, .bool false, .bool false, .bool false, .bool false, .bool false, .int .u8 0, .slice none 0 0, .slice none 0 0, .slice none 0 0, .slice none 0 0, .bool false, .int .u16 0, .int .u8 0, .int .u8 0, .int .u16 0, .slice none 0 0] 31)).setRow wce.heap.size C3) none := gsetRow (galloc (grefl wce none) _) (Nat.le_refl _) C3
      have M3 := Lib.hid (bsetR (balloc wce (.cells #[.int .u16 0, .bool false, .int .u8 0, .bool false, .bool false, .bool false, .bool false, .bool false, .bool false, .bool false, .int .u8 0, .slice none 0 0, .slice none 0 0, .slice none 0 0, .slice none 0 0, .bool false, .int .u16 0, .int .u8 0, .int .u8 0, .int .u16 0, .slice none 0 0] 31)) C3)
      have MA := Lib.hid (balloc wce (.cells #[.int .u16 0, .bool false, .int .u8 0, .bool false, .bool false, .bool false, .bool false, .bool false, .bool false, .bool false, .int .u8 0, .slice none 0 0, .slice none 0 0, .slice none 0 0, .slice none 0 0, .bool false, .int .u16 0, .int .u8 0, .int .u8 0, .int .u16 0, .slice none 0 0] 31))
      have F3' := Lib.hid (F3.out.kept hg)
      have F2y := Lib.hid (F2x.out.kept hg)
      clear F3
      have Gwcf := Lib.hid (gtrans G.out hg)
      have HAwcf := Lib.hid (gblock hg HA.out (by simp))
      have M2wcf := Lib.hid (gblock hg M2.out (by simp))
      clear G HA M2 hg
      have G := Gwcf
      have HA := HAwcf
      have M2 := M2wcf
      clear Gwcf HAwcf M2wcf
      go_wp2_with (first | refine wpList_store_row rfl 31 _ _ rfl wce.heap.size C3 rfl rfl 31 _ MA.out (by rw [hz3]; kernel_rfl) hz3.symm hs3 ?_ | refine wpList_load_rowG rfl 31 _ rfl b2 rfl _ _ _ _ M2.out Tryd.underlying31 rfl (by rw [hz2]; kernel_rfl) ?_)
      clear MA
      generalize (wce.alloc (.cells #[.int .u16 0, .bool false, .int .u8 0, .bool false, .bool false, .bool false, .bool false, .bool false, .bool false, .bool false, .int .u8 0, .slice none 0 0, .slice none 0 0, .slice none 0 0, .slice none 0 0, .bool false, .int .u16 0, .int .u8 0, .int .u8 0, .int .u16 0, .slice none 0 0] 31)).setRow wce.heap.size C3 = wcf at *
      generalize wce.heap.size = b3 at *
      have CY := wmay_any wcf n (.slice B2q (Ms.qs n).length d2q) (.slice B2a (Ms.an n).length d2a) (.slice B2u (Ms.au n).length d2u) (.slice B2x (Ms.ex n).length d2x) (.slice B2o (Ms.ops n).length d2o) (HE.out.kept G.out (by simp)) (HT.out.kept G.out (by simp)) F2y.out.v RN.out.few
      rw [Ms.val_cells, ← EC2.out, MN.out] at CY
      refine Calls.mono CY ?_
      clear CY
      rintro e wch ⟨rfl, hg⟩
      have F2z := Lib.hid (F2y.out.kept hg)
      have F3z := Lib.hid (F3'.out.kept hg)
      clear F2y F2x F3'
      have Gwch := Lib.hid (gtrans G.out hg)
      have HAwch := Lib.hid (gblock hg HA.out (by simp))
      have M2wch := Lib.hid (gblock hg M2.out (by simp))
      have M3wch := Lib.hid (gblock hg M3.out (by simp))
      clear G HA M2 M3 hg
      have G := Gwch
      have HA := HAwch
      have M2 := M2wch
      have M3 := M3wch
      clear Gwch HAwch M2wch M3wch
      go_wp2_with (first | refine wpList_load_rowG rfl 31 _ rfl b2 rfl _ _ _ _ M2.out Tryd.underlying31 rfl (by rw [hz2]; kernel_rfl) ?_ | refine wpList_load_rowG rfl 31 _ rfl b3 rfl _ _ _ _ M3.out Tryd.underlying31 rfl (by rw [hz3]; kernel_rfl) ?_)
      have HS := rfsame_any wch n n (.slice B3q (Ms.qs n).length d3q) (.slice B3a (Ms.an n).length d3a) (.slice B3u (Ms.au n).length d3u) (.slice B3x (Ms.ex n).length d3x) (.slice B3o (Ms.ops n).length d3o) (.slice B2q (Ms.qs n).length d2q) (.slice B2a (Ms.an n).length d2a) (.slice B2u (Ms.au n).length d2u) (.slice B2x (Ms.ex n).length d2x) (.slice B2o (Ms.ops n).length d2o) F3z.out.v F2z.out.v (by have := YN.out.ql; omega) (by have := YN.out.al; omega) (by have := YN.out.ul; omega) (RN.out.xl) (RN.out.ol)
      rw [Ms.val_cells, Ms.val_cells, ← EC2.out, ← EC3.out, decide_eq_true (Eq.refl n)] at HS
      refine Calls.mono HS ?_
      clear HS
      rintro e wci ⟨rfl, hg⟩
      have GZ := Lib.hid (gtrans G.out hg)
      clear hg
      go_wp2_with fail
      go_ret
      exact ⟨rfl, GZ.out⟩
end Go.Proofs.YtncfjplolpgemaaDoor
