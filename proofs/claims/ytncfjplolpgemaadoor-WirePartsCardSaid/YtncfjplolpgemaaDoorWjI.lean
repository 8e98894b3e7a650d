/-
  Wire: WireParts's walk.
-/
import Derived.Test.YtncfjplolpgemaaDoorWjD
import Derived.Test.YtncfjplolpgemaaDoorWjE
import Derived.Deep.Cut
namespace Go.Proofs.YtncfjplolpgemaaDoor
open Go.RowKit

theorem hilo (x : Nat) (h : x ≤ 65535) : (hi8 x).toNat * 256 + (lo8 x).toNat = x := by
  unfold hi8 lo8
  rw [UInt8.toNat_ofNat', UInt8.toNat_ofNat']
  omega
/-- The numbers that stand in a body's header. -/
structure Twelve (m : Ms) (s : ByteArray) : Prop where
  i : bt s 0 * 256 + bt s 1 = m.h.id
  q : bt s 4 * 256 + bt s 5 = m.qs.length
  a : bt s 6 * 256 + bt s 7 = m.an.length
  u : bt s 8 * 256 + bt s 9 = m.au.length
  x : bt s 10 * 256 + bt s 11 = m.xn
theorem twelve {m : Ms} {s : ByteArray} (hr : m.h.id < 65536) (hy : m.yes) (e : s = ⟨m.s5.1.toArray⟩) : Twelve m s := by
  obtain ⟨B, e1, _⟩ := s5_bytes m 0
  subst e
  have h : ∀ p, bt ⟨m.s5.1.toArray⟩ p = (m.s5.1[p]?.getD 0).toNat := fun p => rfl
  refine ⟨?_, ?_, ?_, ?_, ?_⟩ <;> rw [h, h, e1]
  · exact hilo _ (by omega)
  · exact hilo _ hy.ql
  · exact hilo _ hy.al
  · exact hilo _ hy.ul
  · exact hilo _ hy.xl
theorem id_cells (i : Nat) (h : i < 65536) : (#[.int .u8 ((i : Int) / 256), .int .u8 ((i : Int) % 256)] : Array Value).toList = bv [hi8 i, lo8 i] := by
  unfold bv hi8 lo8
  simp
  omega
theorem id_v {w : World} {m : Ms} {i : Nat} {vq va vu vx vo : Value} (h : MsV w m vq va vu vx vo) : MsV w (m.withId i) vq va vu vx vo := ⟨h.q, h.a, h.u, h.x, h.o⟩
theorem id_rng {m : Ms} {i : Nat} (h : m.rng) (hi : i < 65536) : (m.withId i).rng := ⟨hi, h.q, h.a, h.u, h.x, h.xl, h.ol, h.sz, h.e, h.v, h.f, h.o⟩
theorem mk_self' (n : ByteArray) : (⟨n.data.toList.toArray⟩ : ByteArray) = n := by cases n; simp
theorem with_id {m : Ms} {s : ByteArray} (e : s = ⟨m.s5.1.toArray⟩) (_h2 : 2 ≤ s.size) (i : Nat) : (⟨(m.withId i).s5.1.toArray⟩ : ByteArray) = ⟨#[hi8 i, lo8 i]⟩ ++ s.extract 2 s.size := by
  obtain ⟨B, _, e2⟩ := s5_bytes m i
  have e3 : (s.extract 2 s.size).data.toList = m.s5.1.drop 2 := by
    rw [Lib.extract_data, e]
    show List.take (_ - 2) (List.drop 2 m.s5.1) = _
    rw [size_mk, List.take_of_length_le (by rw [List.length_drop]; omega)]
  have e4 := mk_append_list [hi8 i, lo8 i] (s.extract 2 s.size).data.toList
  rw [mk_self'] at e4
  rw [e2, ← e3]
  exact e4.symm
set_option maxRecDepth 100000 in
set_option maxHeartbeats 4000000 in
theorem wparts_walk (w : World) (m : Ms) (vq va vu vx vo : Value) (i : Nat) (he : Et w) (hb : Bt w) (hm : MsV w m vq va vu vx vo) (tm : m.typ) (hi : i < 65536) :
    Calls Tryd.prog 5 #[m.val vq va vu vx vo, .int .u16 i] w fun e w' => e = .returned (.bool true) ∧ w.grownBy w' none := by
  have HE := Lib.hid he
  have HT := Lib.hid hb
  have HM := Lib.hid hm
  have TM := Lib.hid tm
  clear he hb hm tm
  have ga := galloc (grefl w none) (.cells #[.int .u16 m.h.id, .bool m.h.qr, .int .u8 m.h.op, .bool m.h.aa, .bool m.h.tc, .bool m.h.rd, .bool m.h.ra, .bool m.h.z, .bool m.h.ad, .bool m.h.cd, .int .u8 m.h.code, vq, va, vu, vx, .bool m.has, .int .u16 m.sz, .int .u8 m.e, .int .u8 m.v, .int .u16 m.f, vo] 31)
  have HA := Lib.hid (balloc w (.cells #[.int .u16 m.h.id, .bool m.h.qr, .int .u8 m.h.op, .bool m.h.aa, .bool m.h.tc, .bool m.h.rd, .bool m.h.ra, .bool m.h.z, .bool m.h.ad, .bool m.h.cd, .int .u8 m.h.code, vq, va, vu, vx, .bool m.has, .int .u16 m.sz, .int .u8 m.e, .int .u8 m.v, .int .u16 m.f, vo] 31))
  have G := Lib.hid ga
  clear ga
  unfold Ms.val
  go_enter Tryd.func5, Tryd.ntmps5
  go_wp2_with (refine wpList_load_rowG rfl 31 _ rfl w.heap.size rfl _ _ _ _ HA.out Tryd.underlying31 rfl (by kernel_rfl) ?_)
  generalize w.alloc (.cells #[.int .u16 m.h.id, .bool m.h.qr, .int .u8 m.h.op, .bool m.h.aa, .bool m.h.tc, .bool m.h.rd, .bool m.h.ra, .bool m.h.z, .bool m.h.ad, .bool m.h.cd, .int .u8 m.h.code, vq, va, vu, vx, .bool m.has, .int .u16 m.sz, .int .u8 m.e, .int .u8 m.v, .int .u16 m.f, vo] 31) = w0 at *
  have CL := large_any w0 m vq va vu vx vo (HM.out.kept G.out) TM.out.mem
  unfold Ms.val at CL
  refine Calls.mono CL ?_
  clear CL
  rintro e w1 ⟨rfl, hg⟩
  have G1 := Lib.hid (gtrans G.out hg)
  have HA1 := Lib.hid (gblock hg HA.out (by simp))
  clear G HA hg
  have G := G1
  have HA := HA1
  clear G1 HA1
  by_cases h1 : 5000 ≤ m.big
  case pos =>
    rw [decide_eq_true h1]
    clear h1
    go_wp2_with fail
    refine Calls.mono (awake_any w1 (HE.out.kept G.out (by simp)) (HT.out.kept G.out (by simp))) ?_
    rintro e wz ⟨rfl, hg⟩
    have Gz := Lib.hid (gtrans G.out hg)
    clear hg
    go_wp2_with fail
    go_ret
    exact ⟨rfl, Gz.out⟩
  rw [decide_eq_false h1]
  have RG := Lib.hid (TM.out.rng (by omega))
  have SM := Lib.hid (big_small (m := m) (by omega))
  have BG := Lib.hid (show m.big < 5000 by omega)
  clear h1
  go_wp2_with fail
  refine Calls.mono (awake_any w1 (HE.out.kept G.out (by simp)) (HT.out.kept G.out (by simp))) ?_
  rintro e w2 ⟨rfl, hg⟩
  have G2 := Lib.hid (gtrans G.out hg)
  have HA2 := Lib.hid (gblock hg HA.out (by simp))
  clear G HA hg
  have G := G2
  have HA := HA2
  clear G2 HA2
  go_wp2_with (refine wpList_load_rowG rfl 31 _ rfl w.heap.size rfl _ _ _ _ HA.out Tryd.underlying31 rfl (by kernel_rfl) ?_)
  have CE := encode_any w2 m vq va vu vx vo (HE.out.kept G.out (by simp)) (HT.out.kept G.out (by simp)) (HM.out.kept G.out) RG.out
  unfold Ms.val at CE
  refine Calls.mono CE ?_
  clear CE
  rintro e w3 ⟨rfl, hg⟩
  have G3 := Lib.hid (gtrans G.out hg)
  have HA3 := Lib.hid (gblock hg HA.out (by simp))
  clear G HA hg
  have G := G3
  have HA := HA3
  clear G3 HA3
  rcases wE_cases m with ⟨hE, hMay⟩ | ⟨hE, hMay⟩ | ⟨hE, hMay⟩
  case inr.inl => rw [hE]; clear hMay hE; go_wp2_with fail; go_ret; exact ⟨rfl, G.out⟩
  case inr.inr => rw [hE]; clear hMay hE; go_wp2_with fail; go_ret; exact ⟨rfl, G.out⟩
  obtain ⟨o4, o5, o1, o2, o3⟩ := out_ok hE
  clear o5
  have HY := Lib.hid (Ms.may_yes.1 hMay)
  have HO := Lib.hid o4
  have HE0 := Lib.hid hE
  rw [hE]
  rw [← o1] at o2 o3
  clear o1 hMay hE o4
  have c15 : w3.cell? ⟨w.heap.size, 15, none⟩ = some (.bool m.has) := bcellAt HA.out 15
  obtain ⟨Aq, cq, rfl⟩ := HM.out.q.form
  obtain ⟨Aa, ca, rfl⟩ := HM.out.a.form
  obtain ⟨Au, cu, rfl⟩ := HM.out.u.form
  obtain ⟨Ax, cx, rfl⟩ := HM.out.x.form
  obtain ⟨Ao, co, rfl⟩ := HM.out.o.form
  have c11 := bcellAt HA.out 11
  have c12 := bcellAt HA.out 12
  have c13 := bcellAt HA.out 13
  have c14 := bcellAt HA.out 14
  have HX := Lib.hid (show m.xn = m.ex.length + m.has.toNat from rfl)
  have sl1 := SM.out.xl
  have TW := Lib.hid (twelve TM.out.id HY.out HO.out)
  generalize m.out = s at *
  rcases Bool.eq_false_or_eq_true m.has with hh | hh
  case inr =>
    have HH := Lib.hid hh
    rw [hh] at c15
    clear hh
    go_wp2_with fail
    have HL := Lib.hid (balloc w3 (.cells #[.int .i64 m.qs.length, .int .i64 m.an.length, .int .i64 m.au.length, .int .i64 m.ex.length] 3))
    have hg : w3.grownBy (w3.alloc (.cells #[.int .i64 m.qs.length, .int .i64 m.an.length, .int .i64 m.au.length, .int .i64 m.ex.length] 3)) none := galloc (grefl w3 none) _
    have GL := Lib.hid (gtrans G.out hg)
    have HAL := Lib.hid (gblock hg HA.out (by simp))
    clear hg G HA c11 c12 c13 c14 c15
    generalize w3.alloc (.cells #[.int .i64 m.qs.length, .int .i64 m.an.length, .int .i64 m.au.length, .int .i64 m.ex.length] 3) = w4 at *
    generalize w3.heap.size = bl at *
    go_loopw [9] (fun n wr => ∃ k : Nat, k ≤ 4 ∧ n = .int .i64 k ∧ w4.grownBy wr none) (fun n _ => 4 - (intOf n).toNat)
    case atStart => exact ⟨0, by omega, rfl, grefl _ none⟩
    case round =>
      obtain ⟨k, hk, rfl, hg⟩ := hrel
      have GR := Lib.hid hg
      have HL1 := Lib.hid (gblock hg HL.out (by simp))
      clear hg
      by_cases hk4 : k < 4
      · obtain rfl | rfl | rfl | rfl : k = 0 ∨ k = 1 ∨ k = 2 ∨ k = 3 := by omega
        · have e0 := bcellAt HL1.out 0
          have g0 := (bt_get s 4 (by omega)).symm
          have g1 := (bt_get s 5 (by omega)).symm
          have b0 := bt_lt s 4
          have b1 := bt_lt s 5
          have y0 : (((bt s 4 : Nat) : Int) * 256 + ((bt s 5 : Nat) : Int) != ((m.qs.length : Nat) : Int)) = false := by
            have h := TW.out.q
            have h2 := HX.out
            rw [HH.out] at h2
            simp at h2 ⊢
            omega
          go_wp2_with fail
          go_region
          go_wp2_with fail
          go_roundw
          case rel => exact ⟨1, by omega, by go_num, gdrew GR.out⟩
          case measure => simp [intOf]
        · have e0 := bcellAt HL1.out 1
          have g0 := (bt_get s 6 (by omega)).symm
          have g1 := (bt_get s 7 (by omega)).symm
          have b0 := bt_lt s 6
          have b1 := bt_lt s 7
          have y0 : (((bt s 6 : Nat) : Int) * 256 + ((bt s 7 : Nat) : Int) != ((m.an.length : Nat) : Int)) = false := by
            have h := TW.out.a
            have h2 := HX.out
            rw [HH.out] at h2
            simp at h2 ⊢
            omega
          go_wp2_with fail
          go_region
          go_wp2_with fail
          go_roundw
          case rel => exact ⟨2, by omega, by go_num, gdrew GR.out⟩
          case measure => simp [intOf]
        · have e0 := bcellAt HL1.out 2
          have g0 := (bt_get s 8 (by omega)).symm
          have g1 := (bt_get s 9 (by omega)).symm
          have b0 := bt_lt s 8
          have b1 := bt_lt s 9
          have y0 : (((bt s 8 : Nat) : Int) * 256 + ((bt s 9 : Nat) : Int) != ((m.au.length : Nat) : Int)) = false := by
            have h := TW.out.u
            have h2 := HX.out
            rw [HH.out] at h2
            simp at h2 ⊢
            omega
          go_wp2_with fail
          go_region
          go_wp2_with fail
          go_roundw
          case rel => exact ⟨3, by omega, by go_num, gdrew GR.out⟩
          case measure => simp [intOf]
        · have e0 := bcellAt HL1.out 3
          have g0 := (bt_get s 10 (by omega)).symm
          have g1 := (bt_get s 11 (by omega)).symm
          have b0 := bt_lt s 10
          have b1 := bt_lt s 11
          have y0 : (((bt s 10 : Nat) : Int) * 256 + ((bt s 11 : Nat) : Int) != ((m.ex.length : Nat) : Int)) = false := by
            have h := TW.out.x
            have h2 := HX.out
            rw [HH.out] at h2
            simp at h2 ⊢
            omega
          go_wp2_with fail
          go_region
          go_wp2_with fail
          go_roundw
          case rel => exact ⟨4, by omega, by go_num, gdrew GR.out⟩
          case measure => simp [intOf]
      · have k4 : decide ((k : Int) < 4) = false := by simp; omega
        have HA := Lib.hid (gblock GR.out HAL.out (by simp))
        have hgA : wr.grownBy ((wr.alloc (.cells #[.int .u16 0, .bool false, .int .u8 0, .bool false, .bool false, .bool false, .bool false, .bool false, .bool false, .bool false, .int .u8 0, .slice none 0 0, .slice none 0 0, .slice none 0 0, .slice none 0 0, .bool false, .int .u16 0, .int .u8 0, .int .u8 0, .int .u16 0, .slice none 0 0] 31)).setRow wr.heap.size #[.int .u16 m.h.id, .bool m.h.qr, .int .u8 m.h.op, .bool m.h.aa, .bool m.h.tc, .bool m.h.rd, .bool m.h.ra, .bool m.h.z, .bool m.h.ad, .bool m.h.cd, .int .u8 m.h.code, .slice Aq m.qs.length cq, .slice Aa m.an.length ca, .slice Au m.au.length cu, .slice Ax m.ex.length cx, .bool m.has, .int .u16 m.sz, .int .u8 m.e, .int .u8 m.v, .int .u16 m.f, .slice Ao m.ops.length co]) none := gsetRow (galloc (grefl wr none) (.cells #[.int .u16 0, .bool false, .int .u8 0, .bool false, .bool false, .bool false, .bool false, .bool false, .bool false, .bool false, .int .u8 0, .slice none 0 0, .slice none 0 0, .slice none 0 0, .slice none 0 0, .bool false, .int .u16 0, .int .u8 0, .int .u8 0, .int .u16 0, .slice none 0 0] 31)) (Nat.le_refl _) #[.int .u16 m.h.id, .bool m.h.qr, .int .u8 m.h.op, .bool m.h.aa, .bool m.h.tc, .bool m.h.rd, .bool m.h.ra, .bool m.h.z, .bool m.h.ad, .bool m.h.cd, .int .u8 m.h.code, .slice Aq m.qs.length cq, .slice Aa m.an.length ca, .slice Au m.au.length cu, .slice Ax m.ex.length cx, .bool m.has, .int .u16 m.sz, .int .u8 m.e, .int .u8 m.v, .int .u16 m.f, .slice Ao m.ops.length co]
        have BM := Lib.hid (bsetR (balloc wr (.cells #[.int .u16 0, .bool false, .int .u8 0, .bool false, .bool false, .bool false, .bool false, .bool false, .bool false, .bool false, .int .u8 0, .slice none 0 0, .slice none 0 0, .slice none 0 0, .slice none 0 0, .bool false, .int .u16 0, .int .u8 0, .int .u8 0, .int .u16 0, .slice none 0 0] 31)) #[.int .u16 m.h.id, .bool m.h.qr, .int .u8 m.h.op, .bool m.h.aa, .bool m.h.tc, .bool m.h.rd, .bool m.h.ra, .bool m.h.z, .bool m.h.ad, .bool m.h.cd, .int .u8 m.h.code, .slice Aq m.qs.length cq, .slice Aa m.an.length ca, .slice Au m.au.length cu, .slice Ax m.ex.length cx, .bool m.has, .int .u16 m.sz, .int .u8 m.e, .int .u8 m.v, .int .u16 m.f, .slice Ao m.ops.length co])
        have BZ := Lib.hid (balloc wr (.cells #[.int .u16 0, .bool false, .int .u8 0, .bool false, .bool false, .bool false, .bool false, .bool false, .bool false, .bool false, .int .u8 0, .slice none 0 0, .slice none 0 0, .slice none 0 0, .slice none 0 0, .bool false, .int .u16 0, .int .u8 0, .int .u8 0, .int .u16 0, .slice none 0 0] 31))
        have q1 : ((wr.alloc (.cells #[.int .u16 0, .bool false, .int .u8 0, .bool false, .bool false, .bool false, .bool false, .bool false, .bool false, .bool false, .int .u8 0, .slice none 0 0, .slice none 0 0, .slice none 0 0, .slice none 0 0, .bool false, .int .u16 0, .int .u8 0, .int .u8 0, .int .u16 0, .slice none 0 0] 31)).setRow wr.heap.size #[.int .u16 m.h.id, .bool m.h.qr, .int .u8 m.h.op, .bool m.h.aa, .bool m.h.tc, .bool m.h.rd, .bool m.h.ra, .bool m.h.z, .bool m.h.ad, .bool m.h.cd, .int .u8 m.h.code, .slice Aq m.qs.length cq, .slice Aa m.an.length ca, .slice Au m.au.length cu, .slice Ax m.ex.length cx, .bool m.has, .int .u16 m.sz, .int .u8 m.e, .int .u8 m.v, .int .u16 m.f, .slice Ao m.ops.length co]).cell? ⟨wr.heap.size, 0, none⟩ = some (.int .u16 m.h.id) := bcellAt BM.out 0
        have q2 : ((wr.alloc (.cells #[.int .u16 0, .bool false, .int .u8 0, .bool false, .bool false, .bool false, .bool false, .bool false, .bool false, .bool false, .int .u8 0, .slice none 0 0, .slice none 0 0, .slice none 0 0, .slice none 0 0, .bool false, .int .u16 0, .int .u8 0, .int .u8 0, .int .u16 0, .slice none 0 0] 31)).setRow wr.heap.size #[.int .u16 m.h.id, .bool m.h.qr, .int .u8 m.h.op, .bool m.h.aa, .bool m.h.tc, .bool m.h.rd, .bool m.h.ra, .bool m.h.z, .bool m.h.ad, .bool m.h.cd, .int .u8 m.h.code, .slice Aq m.qs.length cq, .slice Aa m.an.length ca, .slice Au m.au.length cu, .slice Ax m.ex.length cx, .bool m.has, .int .u16 m.sz, .int .u8 m.e, .int .u8 m.v, .int .u16 m.f, .slice Ao m.ops.length co]).frozen? ⟨wr.heap.size, 0, none⟩ = false := bfree BM.out 0
        have hg : wr.grownBy (((wr.alloc (.cells #[.int .u16 0, .bool false, .int .u8 0, .bool false, .bool false, .bool false, .bool false, .bool false, .bool false, .bool false, .int .u8 0, .slice none 0 0, .slice none 0 0, .slice none 0 0, .slice none 0 0, .bool false, .int .u16 0, .int .u8 0, .int .u8 0, .int .u16 0, .slice none 0 0] 31)).setRow wr.heap.size #[.int .u16 m.h.id, .bool m.h.qr, .int .u8 m.h.op, .bool m.h.aa, .bool m.h.tc, .bool m.h.rd, .bool m.h.ra, .bool m.h.z, .bool m.h.ad, .bool m.h.cd, .int .u8 m.h.code, .slice Aq m.qs.length cq, .slice Aa m.an.length ca, .slice Au m.au.length cu, .slice Ax m.ex.length cx, .bool m.has, .int .u16 m.sz, .int .u8 m.e, .int .u8 m.v, .int .u16 m.f, .slice Ao m.ops.length co]).setCell ⟨wr.heap.size, 0, none⟩ (.int .u16 i)) none := gset2 hgA (Nat.le_refl _)
        have BX := Lib.hid (show (((wr.alloc (.cells #[.int .u16 0, .bool false, .int .u8 0, .bool false, .bool false, .bool false, .bool false, .bool false, .bool false, .bool false, .int .u8 0, .slice none 0 0, .slice none 0 0, .slice none 0 0, .slice none 0 0, .bool false, .int .u16 0, .int .u8 0, .int .u8 0, .int .u16 0, .slice none 0 0] 31)).setRow wr.heap.size #[.int .u16 m.h.id, .bool m.h.qr, .int .u8 m.h.op, .bool m.h.aa, .bool m.h.tc, .bool m.h.rd, .bool m.h.ra, .bool m.h.z, .bool m.h.ad, .bool m.h.cd, .int .u8 m.h.code, .slice Aq m.qs.length cq, .slice Aa m.an.length ca, .slice Au m.au.length cu, .slice Ax m.ex.length cx, .bool m.has, .int .u16 m.sz, .int .u8 m.e, .int .u8 m.v, .int .u16 m.f, .slice Ao m.ops.length co]).setCell ⟨wr.heap.size, 0, none⟩ (.int .u16 i)).heap[wr.heap.size]? = some (.cells #[.int .u16 i, .bool m.h.qr, .int .u8 m.h.op, .bool m.h.aa, .bool m.h.tc, .bool m.h.rd, .bool m.h.ra, .bool m.h.z, .bool m.h.ad, .bool m.h.cd, .int .u8 m.h.code, .slice Aq m.qs.length cq, .slice Aa m.an.length ca, .slice Au m.au.length cu, .slice Ax m.ex.length cx, .bool m.has, .int .u16 m.sz, .int .u8 m.e, .int .u8 m.v, .int .u16 m.f, .slice Ao m.ops.length co] 31 (0, 0)) from bset BM.out 0 (.int .u16 i))
        have G := Lib.hid (gtrans (gtrans GL.out GR.out) hg)
        have HA2 := Lib.hid (gblock hg HA.out (by simp))
        clear hg hgA BM GL GR HAL HL HL1
        go_wp2_with (first | refine wpList_load_rowG rfl 31 _ rfl w.heap.size rfl _ _ _ _ HA.out Tryd.underlying31 rfl (by kernel_rfl) ?_ | refine wpList_store_row rfl 31 _ _ rfl wr.heap.size #[.int .u16 m.h.id, .bool m.h.qr, .int .u8 m.h.op, .bool m.h.aa, .bool m.h.tc, .bool m.h.rd, .bool m.h.ra, .bool m.h.z, .bool m.h.ad, .bool m.h.cd, .int .u8 m.h.code, .slice Aq m.qs.length cq, .slice Aa m.an.length ca, .slice Au m.au.length cu, .slice Ax m.ex.length cx, .bool m.has, .int .u16 m.sz, .int .u8 m.e, .int .u8 m.v, .int .u16 m.f, .slice Ao m.ops.length co] rfl rfl 31 _ BZ.out (by kernel_rfl) rfl (by kernel_rfl) ?_ | refine wpList_load_rowG rfl 31 _ rfl wr.heap.size rfl _ _ _ _ BX.out Tryd.underlying31 rfl (by kernel_rfl) ?_)
        clear q1 q2 BZ BX HA
        generalize (((wr.alloc (.cells #[.int .u16 0, .bool false, .int .u8 0, .bool false, .bool false, .bool false, .bool false, .bool false, .bool false, .bool false, .int .u8 0, .slice none 0 0, .slice none 0 0, .slice none 0 0, .slice none 0 0, .bool false, .int .u16 0, .int .u8 0, .int .u8 0, .int .u16 0, .slice none 0 0] 31)).setRow wr.heap.size #[.int .u16 m.h.id, .bool m.h.qr, .int .u8 m.h.op, .bool m.h.aa, .bool m.h.tc, .bool m.h.rd, .bool m.h.ra, .bool m.h.z, .bool m.h.ad, .bool m.h.cd, .int .u8 m.h.code, .slice Aq m.qs.length cq, .slice Aa m.an.length ca, .slice Au m.au.length cu, .slice Ax m.ex.length cx, .bool m.has, .int .u16 m.sz, .int .u8 m.e, .int .u8 m.v, .int .u16 m.f, .slice Ao m.ops.length co]).setCell ⟨wr.heap.size, 0, none⟩ (.int .u16 i)) = w5 at *
        clear k4 hk hk4
        have CE := encode_any w5 (m.withId i) (.slice Aq m.qs.length cq) (.slice Aa m.an.length ca) (.slice Au m.au.length cu) (.slice Ax m.ex.length cx) (.slice Ao m.ops.length co) (HE.out.kept G.out (by simp)) (HT.out.kept G.out (by simp)) (id_v (HM.out.kept G.out)) (id_rng RG.out hi)
        rw [(out_ok ((withId_wE m i).trans HE0.out)).1, with_id HO.out (by omega) i, withId_wE, HE0.out] at CE
        refine Calls.mono CE ?_
        clear CE
        rintro e w6 ⟨rfl, hg⟩
        have G6 := Lib.hid (gtrans G.out hg)
        have HA6 := Lib.hid (gblock hg HA2.out (by simp))
        clear hg G HA2
        have sz2 := Lib.hid (show 2 ≤ s.size by omega)
        go_upto_region 18 with (fail)
        refine wp_region_segs [(true, [0, 1, 2, 3, 4, 5, 6, 7, 8, 11, 12]), (false, [9]), (false, [10]), (true, [13, 14, 15, 16, 17, 18, 19, 20, 21, 22, 23, 24, 25, 26, 27, 28, 29, 30, 31])] (by kernel_rfl) (by kernel_rfl) ?_
        have hg : w6.grownBy w6.drew none := gdrew (grefl _ none)
        have G7 := Lib.hid (gtrans G6.out hg)
        have HA7 := Lib.hid (gblock hg HA6.out (by simp))
        clear hg G6 HA6
        generalize w6.drew = w7 at *
        refine wpSegs_quiet rfl ?_
        simp only [List.filterMap_cons, List.filterMap_nil, List.getElem?_toArray, List.getElem?_cons_succ, List.getElem?_cons_zero]
        show wpQuiet _ _ _ _ [_, _, _, _, _, _, _, _, _, _, _] _
        repeat (go_big_quiet_step (fail))
        refine wpQuiet_nil ?_
        refine wpSegs_one (by simp only [List.getElem?_toArray, List.getElem?_cons_succ, List.getElem?_cons_zero]; exact rfl) ?_
        go_wp2_with fail
        refine ⟨galloc (grefl _ none) _, ?_⟩
        have SB := Lib.hid (sl_new w7 5 [hi8 i, lo8 i] #[.int .u8 ((i : Int) / 256), .int .u8 ((i : Int) % 256)] 2 (id_cells i hi) rfl)
        have hg : w7.grownBy (w7.alloc (.cells #[.int .u8 ((i : Int) / 256), .int .u8 ((i : Int) % 256)] 5)) none := galloc (grefl _ none) _
        have G8 := Lib.hid (gtrans G7.out hg)
        have HA8 := Lib.hid (gblock hg HA7.out (by simp))
        clear hg G7 HA7
        generalize w7.alloc (.cells #[.int .u8 ((i : Int) / 256), .int .u8 ((i : Int) % 256)] 5) = w8 at *
        refine wpSegs_one (by simp only [List.getElem?_toArray, List.getElem?_cons_succ, List.getElem?_cons_zero]; exact rfl) ?_
        have cvb := cvs SB.out
        go_wp2_with fail
        clear cvb
        refine ⟨grefl _ none, ?_⟩
        have cid : ∀ g : Gr w8, g.w.cell? ⟨w.heap.size, 0, none⟩ = some (.int .u16 m.h.id) := Gr.cell (bcellAt HA8.out 0)
        have g0 := (bt_get s 0 (by omega)).symm
        have g1 := (bt_get s 1 (by omega)).symm
        have b0 := bt_lt s 0
        have b1 := bt_lt s 1
        refine wpSegs_quiet rfl ?_
        simp only [List.filterMap_cons, List.filterMap_nil, List.getElem?_toArray, List.getElem?_cons_succ, List.getElem?_cons_zero]
        show wpQuiet _ _ _ _ [_, _, _, _, _, _, _, _, _, _, _, _, _, _, _, _, _, _, _] _
        have y0 : (((bt s 0 : Nat) : Int) * 256 + ((bt s 1 : Nat) : Int) == wrap64 (m.h.id : Int)) = true := by
          have h := TW.out.i
          have h2 := TM.out.id
          have h3 : wrap64 (m.h.id : Int) = m.h.id := by unfold wrap64; omega
          rw [h3]
          simp
          omega
        repeat (go_big_quiet_step (fail))
        refine wpQuiet_nil ?_
        clear g0 g1 y0 cid
        refine wpSegs_done ?_
        go_wp2_with fail
        go_ret
        exact ⟨rfl, G8.out⟩
  case inl =>
    have HH := Lib.hid hh
    rw [hh] at c15
    clear hh
    go_wp2_with fail
    have HL := Lib.hid (balloc w3 (.cells #[.int .i64 m.qs.length, .int .i64 m.an.length, .int .i64 m.au.length, .int .i64 (m.ex.length + 1)] 3))
    have hg : w3.grownBy (w3.alloc (.cells #[.int .i64 m.qs.length, .int .i64 m.an.length, .int .i64 m.au.length, .int .i64 (m.ex.length + 1)] 3)) none := galloc (grefl w3 none) _
    have GL := Lib.hid (gtrans G.out hg)
    have HAL := Lib.hid (gblock hg HA.out (by simp))
    clear hg G HA c11 c12 c13 c14 c15
    generalize w3.alloc (.cells #[.int .i64 m.qs.length, .int .i64 m.an.length, .int .i64 m.au.length, .int .i64 (m.ex.length + 1)] 3) = w4 at *
    generalize w3.heap.size = bl at *
    go_loopw [9] (fun n wr => ∃ k : Nat, k ≤ 4 ∧ n = .int .i64 k ∧ w4.grownBy wr none) (fun n _ => 4 - (intOf n).toNat)
    case atStart => exact ⟨0, by omega, rfl, grefl _ none⟩
    case round =>
      obtain ⟨k, hk, rfl, hg⟩ := hrel
      have GR := Lib.hid hg
      have HL1 := Lib.hid (gblock hg HL.out (by simp))
      clear hg
      by_cases hk4 : k < 4
      · obtain rfl | rfl | rfl | rfl : k = 0 ∨ k = 1 ∨ k = 2 ∨ k = 3 := by omega
        · have e0 := bcellAt HL1.out 0
          have g0 := (bt_get s 4 (by omega)).symm
          have g1 := (bt_get s 5 (by omega)).symm
          have b0 := bt_lt s 4
          have b1 := bt_lt s 5
          have y0 : (((bt s 4 : Nat) : Int) * 256 + ((bt s 5 : Nat) : Int) != ((m.qs.length : Nat) : Int)) = false := by
            have h := TW.out.q
            have h2 := HX.out
            rw [HH.out] at h2
            simp at h2 ⊢
            omega
          go_wp2_with fail
          go_region
          go_wp2_with fail
          go_roundw
          case rel => exact ⟨1, by omega, by go_num, gdrew GR.out⟩
          case measure => simp [intOf]
        · have e0 := bcellAt HL1.out 1
          have g0 := (bt_get s 6 (by omega)).symm
          have g1 := (bt_get s 7 (by omega)).symm
          have b0 := bt_lt s 6
          have b1 := bt_lt s 7
          have y0 : (((bt s 6 : Nat) : Int) * 256 + ((bt s 7 : Nat) : Int) != ((m.an.length : Nat) : Int)) = false := by
            have h := TW.out.a
            have h2 := HX.out
            rw [HH.out] at h2
            simp at h2 ⊢
            omega
          go_wp2_with fail
          go_region
          go_wp2_with fail
          go_roundw
          case rel => exact ⟨2, by omega, by go_num, gdrew GR.out⟩
          case measure => simp [intOf]
        · have e0 := bcellAt HL1.out 2
          have g0 := (bt_get s 8 (by omega)).symm
          have g1 := (bt_get s 9 (by omega)).symm
          have b0 := bt_lt s 8
          have b1 := bt_lt s 9
          have y0 : (((bt s 8 : Nat) : Int) * 256 + ((bt s 9 : Nat) : Int) != ((m.au.length : Nat) : Int)) = false := by
            have h := TW.out.u
            have h2 := HX.out
            rw [HH.out] at h2
            simp at h2 ⊢
            omega
          go_wp2_with fail
          go_region
          go_wp2_with fail
          go_roundw
          case rel => exact ⟨3, by omega, by go_num, gdrew GR.out⟩
          case measure => simp [intOf]
        · have e0 := bcellAt HL1.out 3
          have g0 := (bt_get s 10 (by omega)).symm
          have g1 := (bt_get s 11 (by omega)).symm
          have b0 := bt_lt s 10
          have b1 := bt_lt s 11
          have y0 : (((bt s 10 : Nat) : Int) * 256 + ((bt s 11 : Nat) : Int) != (((m.ex.length + 1) : Nat) : Int)) = false := by
            have h := TW.out.x
            have h2 := HX.out
            rw [HH.out] at h2
            simp at h2 ⊢
            omega
          go_wp2_with fail
          go_region
          go_wp2_with fail
          go_roundw
          case rel => exact ⟨4, by omega, by go_num, gdrew GR.out⟩
          case measure => simp [intOf]
      · have k4 : decide ((k : Int) < 4) = false := by simp; omega
        have HA := Lib.hid (gblock GR.out HAL.out (by simp))
        have hgA : wr.grownBy ((wr.alloc (.cells #[.int .u16 0, .bool false, .int .u8 0, .bool false, .bool false, .bool false, .bool false, .bool false, .bool false, .bool false, .int .u8 0, .slice none 0 0, .slice none 0 0, .slice none 0 0, .slice none 0 0, .bool false, .int .u16 0, .int .u8 0, .int .u8 0, .int .u16 0, .slice none 0 0] 31)).setRow wr.heap.size #[.int .u16 m.h.id, .bool m.h.qr, .int .u8 m.h.op, .bool m.h.aa, .bool m.h.tc, .bool m.h.rd, .bool m.h.ra, .bool m.h.z, .bool m.h.ad, .bool m.h.cd, .int .u8 m.h.code, .slice Aq m.qs.length cq, .slice Aa m.an.length ca, .slice Au m.au.length cu, .slice Ax m.ex.length cx, .bool m.has, .int .u16 m.sz, .int .u8 m.e, .int .u8 m.v, .int .u16 m.f, .slice Ao m.ops.length co]) none := gsetRow (galloc (grefl wr none) (.cells #[.int .u16 0, .bool false, .int .u8 0, .bool false, .bool false, .bool false, .bool false, .bool false, .bool false, .bool false, .int .u8 0, .slice none 0 0, .slice none 0 0, .slice none 0 0, .slice none 0 0, .bool false, .int .u16 0, .int .u8 0, .int .u8 0, .int .u16 0, .slice none 0 0] 31)) (Nat.le_refl _) #[.int .u16 m.h.id, .bool m.h.qr, .int .u8 m.h.op, .bool m.h.aa, .bool m.h.tc, .bool m.h.rd, .bool m.h.ra, .bool m.h.z, .bool m.h.ad, .bool m.h.cd, .int .u8 m.h.code, .slice Aq m.qs.length cq, .slice Aa m.an.length ca, .slice Au m.au.length cu, .slice Ax m.ex.length cx, .bool m.has, .int .u16 m.sz, .int .u8 m.e, .int .u8 m.v, .int .u16 m.f, .slice Ao m.ops.length co]
        have BM := Lib.hid (bsetR (balloc wr (.cells #[.int .u16 0, .bool false, .int .u8 0, .bool false, .bool false, .bool false, .bool false, .bool false, .bool false, .bool false, .int .u8 0, .slice none 0 0, .slice none 0 0, .slice none 0 0, .slice none 0 0, .bool false, .int .u16 0, .int .u8 0, .int .u8 0, .int .u16 0, .slice none 0 0] 31)) #[.int .u16 m.h.id, .bool m.h.qr, .int .u8 m.h.op, .bool m.h.aa, .bool m.h.tc, .bool m.h.rd, .bool m.h.ra, .bool m.h.z, .bool m.h.ad, .bool m.h.cd, .int .u8 m.h.code, .slice Aq m.qs.length cq, .slice Aa m.an.length ca, .slice Au m.au.length cu, .slice Ax m.ex.length cx, .bool m.has, .int .u16 m.sz, .int .u8 m.e, .int .u8 m.v, .int .u16 m.f, .slice Ao m.ops.length co])
        have BZ := Lib.hid (balloc wr (.cells #[.int .u16 0, .bool false, .int .u8 0, .bool false, .bool false, .bool false, .bool false, .bool false, .bool false, .bool false, .int .u8 0, .slice none 0 0, .slice none 0 0, .slice none 0 0, .slice none 0 0, .bool false, .int .u16 0, .int .u8 0, .int .u8 0, .int .u16 0, .slice none 0 0] 31))
        have q1 : ((wr.alloc (.cells #[.int .u16 0, .bool false, .int .u8 0, .bool false, .bool false, .bool false, .bool false, .bool false, .bool false, .bool false, .int .u8 0, .slice none 0 0, .slice none 0 0, .slice none 0 0, .slice none 0 0, .bool false, .int .u16 0, .int .u8 0, .int .u8 0, .int .u16 0, .slice none 0 0] 31)).setRow wr.heap.size #[.int .u16 m.h.id, .bool m.h.qr, .int .u8 m.h.op, .bool m.h.aa, .bool m.h.tc, .bool m.h.rd, .bool m.h.ra, .bool m.h.z, .bool m.h.ad, .bool m.h.cd, .int .u8 m.h.code, .slice Aq m.qs.length cq, .slice Aa m.an.length ca, .slice Au m.au.length cu, .slice Ax m.ex.length cx, .bool m.has, .int .u16 m.sz, .int .u8 m.e, .int .u8 m.v, .int .u16 m.f, .slice Ao m.ops.length co]).cell? ⟨wr.heap.size, 0, none⟩ = some (.int .u16 m.h.id) := bcellAt BM.out 0
        have q2 : ((wr.alloc (.cells #[.int .u16 0, .bool false, .int .u8 0, .bool false, .bool false, .bool false, .bool false, .bool false, .bool false, .bool false, .int .u8 0, .slice none 0 0, .slice none 0 0, .slice none 0 0, .slice none 0 0, .bool false, .int .u16 0, .int .u8 0, .int .u8 0, .int .u16 0, .slice none 0 0] 31)).setRow wr.heap.size #[.int .u16 m.h.id, .bool m.h.qr, .int .u8 m.h.op, .bool m.h.aa, .bool m.h.tc, .bool m.h.rd, .bool m.h.ra, .bool m.h.z, .bool m.h.ad, .bool m.h.cd, .int .u8 m.h.code, .slice Aq m.qs.length cq, .slice Aa m.an.length ca, .slice Au m.au.length cu, .slice Ax m.ex.length cx, .bool m.has, .int .u16 m.sz, .int .u8 m.e, .int .u8 m.v, .int .u16 m.f, .slice Ao m.ops.length co]).frozen? ⟨wr.heap.size, 0, none⟩ = false := bfree BM.out 0
        have hg : wr.grownBy (((wr.alloc (.cells #[.int .u16 0, .bool false, .int .u8 0, .bool false, .bool false, .bool false, .bool false, .bool false, .bool false, .bool false, .int .u8 0, .slice none 0 0, .slice none 0 0, .slice none 0 0, .slice none 0 0, .bool false, .int .u16 0, .int .u8 0, .int .u8 0, .int .u16 0, .slice none 0 0] 31)).setRow wr.heap.size #[.int .u16 m.h.id, .bool m.h.qr, .int .u8 m.h.op, .bool m.h.aa, .bool m.h.tc, .bool m.h.rd, .bool m.h.ra, .bool m.h.z, .bool m.h.ad, .bool m.h.cd, .int .u8 m.h.code, .slice Aq m.qs.length cq, .slice Aa m.an.length ca, .slice Au m.au.length cu, .slice Ax m.ex.length cx, .bool m.has, .int .u16 m.sz, .int .u8 m.e, .int .u8 m.v, .int .u16 m.f, .slice Ao m.ops.length co]).setCell ⟨wr.heap.size, 0, none⟩ (.int .u16 i)) none := gset2 hgA (Nat.le_refl _)
        have BX := Lib.hid (show (((wr.alloc (.cells #[.int .u16 0, .bool false, .int .u8 0, .bool false, .bool false, .bool false, .bool false, .bool false, .bool false, .bool false, .int .u8 0, .slice none 0 0, .slice none 0 0, .slice none 0 0, .slice none 0 0, .bool false, .int .u16 0, .int .u8 0, .int .u8 0, .int .u16 0, .slice none 0 0] 31)).setRow wr.heap.size #[.int .u16 m.h.id, .bool m.h.qr, .int .u8 m.h.op, .bool m.h.aa, .bool m.h.tc, .bool m.h.rd, .bool m.h.ra, .bool m.h.z, .bool m.h.ad, .bool m.h.cd, .int .u8 m.h.code, .slice Aq m.qs.length cq, .slice Aa m.an.length ca, .slice Au m.au.length cu, .slice Ax m.ex.length cx, .bool m.has, .int .u16 m.sz, .int .u8 m.e, .int .u8 m.v, .int .u16 m.f, .slice Ao m.ops.length co]).setCell ⟨wr.heap.size, 0, none⟩ (.int .u16 i)).heap[wr.heap.size]? = some (.cells #[.int .u16 i, .bool m.h.qr, .int .u8 m.h.op, .bool m.h.aa, .bool m.h.tc, .bool m.h.rd, .bool m.h.ra, .bool m.h.z, .bool m.h.ad, .bool m.h.cd, .int .u8 m.h.code, .slice Aq m.qs.length cq, .slice Aa m.an.length ca, .slice Au m.au.length cu, .slice Ax m.ex.length cx, .bool m.has, .int .u16 m.sz, .int .u8 m.e, .int .u8 m.v, .int .u16 m.f, .slice Ao m.ops.length co] 31 (0, 0)) from bset BM.out 0 (.int .u16 i))
        have G := Lib.hid (gtrans (gtrans GL.out GR.out) hg)
        have HA2 := Lib.hid (gblock hg HA.out (by simp))
        clear hg hgA BM GL GR HAL HL HL1
        go_wp2_with (first | refine wpList_load_rowG rfl 31 _ rfl w.heap.size rfl _ _ _ _ HA.out Tryd.underlying31 rfl (by kernel_rfl) ?_ | refine wpList_store_row rfl 31 _ _ rfl wr.heap.size #[.int .u16 m.h.id, .bool m.h.qr, .int .u8 m.h.op, .bool m.h.aa, .bool m.h.tc, .bool m.h.rd, .bool m.h.ra, .bool m.h.z, .bool m.h.ad, .bool m.h.cd, .int .u8 m.h.code, .slice Aq m.qs.length cq, .slice Aa m.an.length ca, .slice Au m.au.length cu, .slice Ax m.ex.length cx, .bool m.has, .int .u16 m.sz, .int .u8 m.e, .int .u8 m.v, .int .u16 m.f, .slice Ao m.ops.length co] rfl rfl 31 _ BZ.out (by kernel_rfl) rfl (by kernel_rfl) ?_ | refine wpList_load_rowG rfl 31 _ rfl wr.heap.size rfl _ _ _ _ BX.out Tryd.underlying31 rfl (by kernel_rfl) ?_)
        clear q1 q2 BZ BX HA
        generalize (((wr.alloc (.cells #[.int .u16 0, .bool false, .int .u8 0, .bool false, .bool false, .bool false, .bool false, .bool false, .bool false, .bool false, .int .u8 0, .slice none 0 0, .slice none 0 0, .slice none 0 0, .slice none 0 0, .bool false, .int .u16 0, .int .u8 0, .int .u8 0, .int .u16 0, .slice none 0 0] 31)).setRow wr.heap.size #[.int .u16 m.h.id, .bool m.h.qr, .int .u8 m.h.op, .bool m.h.aa, .bool m.h.tc, .bool m.h.rd, .bool m.h.ra, .bool m.h.z, .bool m.h.ad, .bool m.h.cd, .int .u8 m.h.code, .slice Aq m.qs.length cq, .slice Aa m.an.length ca, .slice Au m.au.length cu, .slice Ax m.ex.length cx, .bool m.has, .int .u16 m.sz, .int .u8 m.e, .int .u8 m.v, .int .u16 m.f, .slice Ao m.ops.length co]).setCell ⟨wr.heap.size, 0, none⟩ (.int .u16 i)) = w5 at *
        clear k4 hk hk4
        have CE := encode_any w5 (m.withId i) (.slice Aq m.qs.length cq) (.slice Aa m.an.length ca) (.slice Au m.au.length cu) (.slice Ax m.ex.length cx) (.slice Ao m.ops.length co) (HE.out.kept G.out (by simp)) (HT.out.kept G.out (by simp)) (id_v (HM.out.kept G.out)) (id_rng RG.out hi)
        rw [(out_ok ((withId_wE m i).trans HE0.out)).1, with_id HO.out (by omega) i, withId_wE, HE0.out] at CE
        refine Calls.mono CE ?_
        clear CE
        rintro e w6 ⟨rfl, hg⟩
        have G6 := Lib.hid (gtrans G.out hg)
        have HA6 := Lib.hid (gblock hg HA2.out (by simp))
        clear hg G HA2
        have sz2 := Lib.hid (show 2 ≤ s.size by omega)
        go_upto_region 18 with (fail)
        refine wp_region_segs [(true, [0, 1, 2, 3, 4, 5, 6, 7, 8, 11, 12]), (false, [9]), (false, [10]), (true, [13, 14, 15, 16, 17, 18, 19, 20, 21, 22, 23, 24, 25, 26, 27, 28, 29, 30, 31])] (by kernel_rfl) (by kernel_rfl) ?_
        have hg : w6.grownBy w6.drew none := gdrew (grefl _ none)
        have G7 := Lib.hid (gtrans G6.out hg)
        have HA7 := Lib.hid (gblock hg HA6.out (by simp))
        clear hg G6 HA6
        generalize w6.drew = w7 at *
        refine wpSegs_quiet rfl ?_
        simp only [List.filterMap_cons, List.filterMap_nil, List.getElem?_toArray, List.getElem?_cons_succ, List.getElem?_cons_zero]
        show wpQuiet _ _ _ _ [_, _, _, _, _, _, _, _, _, _, _] _
        repeat (go_big_quiet_step (fail))
        refine wpQuiet_nil ?_
        refine wpSegs_one (by simp only [List.getElem?_toArray, List.getElem?_cons_succ, List.getElem?_cons_zero]; exact rfl) ?_
        go_wp2_with fail
        refine ⟨galloc (grefl _ none) _, ?_⟩
        have SB := Lib.hid (sl_new w7 5 [hi8 i, lo8 i] #[.int .u8 ((i : Int) / 256), .int .u8 ((i : Int) % 256)] 2 (id_cells i hi) rfl)
        have hg : w7.grownBy (w7.alloc (.cells #[.int .u8 ((i : Int) / 256), .int .u8 ((i : Int) % 256)] 5)) none := galloc (grefl _ none) _
        have G8 := Lib.hid (gtrans G7.out hg)
        have HA8 := Lib.hid (gblock hg HA7.out (by simp))
        clear hg G7 HA7
        generalize w7.alloc (.cells #[.int .u8 ((i : Int) / 256), .int .u8 ((i : Int) % 256)] 5) = w8 at *
        refine wpSegs_one (by simp only [List.getElem?_toArray, List.getElem?_cons_succ, List.getElem?_cons_zero]; exact rfl) ?_
        have cvb := cvs SB.out
        go_wp2_with fail
        clear cvb
        refine ⟨grefl _ none, ?_⟩
        have cid : ∀ g : Gr w8, g.w.cell? ⟨w.heap.size, 0, none⟩ = some (.int .u16 m.h.id) := Gr.cell (bcellAt HA8.out 0)
        have g0 := (bt_get s 0 (by omega)).symm
        have g1 := (bt_get s 1 (by omega)).symm
        have b0 := bt_lt s 0
        have b1 := bt_lt s 1
        refine wpSegs_quiet rfl ?_
        simp only [List.filterMap_cons, List.filterMap_nil, List.getElem?_toArray, List.getElem?_cons_succ, List.getElem?_cons_zero]
        show wpQuiet _ _ _ _ [_, _, _, _, _, _, _, _, _, _, _, _, _, _, _, _, _, _, _] _
        have y0 : (((bt s 0 : Nat) : Int) * 256 + ((bt s 1 : Nat) : Int) == wrap64 (m.h.id : Int)) = true := by
          have h := TW.out.i
          have h2 := TM.out.id
          have h3 : wrap64 (m.h.id : Int) = m.h.id := by unfold wrap64; omega
          rw [h3]
          simp
          omega
        repeat (go_big_quiet_step (fail))
        refine wpQuiet_nil ?_
        clear g0 g1 y0 cid
        refine wpSegs_done ?_
        go_wp2_with fail
        go_ret
        exact ⟨rfl, G8.out⟩
end Go.Proofs.YtncfjplolpgemaaDoor
