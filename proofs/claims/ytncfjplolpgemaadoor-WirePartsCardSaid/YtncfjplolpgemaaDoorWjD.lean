/-
  Wire: WireWithin's walk.
-/
import Derived.Test.YtncfjplolpgemaaDoorWjC
namespace Go.Proofs.YtncfjplolpgemaaDoor
open Go.RowKit

theorem big_whole {m : Ms} (h : m.big < 5000) : suF qnS m.qs + suF rcS m.an + suF rcS m.au + suF rcS m.ex + suF opS m.ops ≤ 1000000 := by
  have hs := big_sum h
  have hl := big_small h
  have e1 : ∀ l : List Qn, (l.map qnW).sum < 5000 → suF qnS l ≤ (l.map qnW).sum := by
    intro l
    induction l with
    | nil => intro _; exact Nat.le_refl _
    | cons x l ih =>
      intro h
      rw [List.map_cons, List.sum_cons] at h ⊢
      have := ih (by omega)
      have := qn_small (r := x) (by omega)
      have e : suF qnS (x :: l) = qnS x + suF qnS l := by simp [suF]
      have e' : qnS x = x.name.size + 4 := rfl
      omega
  have e2 : ∀ l : List Rc, (l.map rcW).sum < 5000 → suF rcS l ≤ (l.map rcW).sum := by
    intro l
    induction l with
    | nil => intro _; exact Nat.le_refl _
    | cons x l ih =>
      intro h
      rw [List.map_cons, List.sum_cons] at h ⊢
      have := ih (by omega)
      have := rc_small (r := x) (by omega)
      have e : suF rcS (x :: l) = rcS x + suF rcS l := by simp [suF]
      have e' : rcS x = x.name.size + 10 + x.data.size := rfl
      omega
  have e3 : ∀ l : List Opt, (l.map opW).sum < 5000 → suF opS l ≤ (l.map opW).sum := by
    intro l
    induction l with
    | nil => intro _; exact Nat.le_refl _
    | cons x l ih =>
      intro h
      rw [List.map_cons, List.sum_cons] at h ⊢
      have := ih (by omega)
      have := op_small (r := x) (by omega)
      have e : suF opS (x :: l) = opS x + suF opS l := by simp [suF]
      have e' : opS x = 4 + x.2.size := rfl
      omega
  have := e1 m.qs (by omega)
  have := e2 m.an (by omega)
  have := e2 m.au (by omega)
  have := e2 m.ex (by omega)
  have := e3 m.ops (by omega)
  omega
theorem wE_cases (m : Ms) : (m.wE = 0 ∧ m.may = true) ∨ (m.wE = 3 ∧ m.may = false) ∨ (m.wE = 5 ∧ m.may = true) := by
  unfold Ms.wE
  by_cases h1 : m.may = false
  · rw [if_pos h1]; exact .inr (.inl ⟨rfl, h1⟩)
  · have h2 : m.may = true := by simpa using h1
    rw [if_neg h1]
    split
    · exact .inr (.inr ⟨rfl, h2⟩)
    · exact .inl ⟨rfl, h2⟩
theorem out_no {m : Ms} (h : ¬ m.wE = 0) : m.out = ByteArray.empty ∧ m.num = 0 := ⟨if_neg h, if_neg h⟩
theorem out_ok {m : Ms} (h : m.wE = 0) : m.out = ⟨m.s5.1.toArray⟩ ∧ m.num = m.s5.1.length ∧ m.out.size = m.num ∧ 12 ≤ m.num ∧ m.num ≤ 65535 := by
  have e1 : m.out = ⟨m.s5.1.toArray⟩ := if_pos h
  have e2 : m.num = m.s5.1.length := if_pos h
  refine ⟨e1, e2, by rw [e1, e2, size_mk], ?_, by rw [e2]; exact (Ms.wE0 h).2.2⟩
  obtain ⟨⟨B, e⟩, _⟩ := s5_from m
  have := m.s0_len
  rw [e2, e, List.length_append]
  omega

set_option maxRecDepth 100000 in
set_option maxHeartbeats 4000000 in
theorem within_walk (w : World) (m : Ms) (vq va vu vx vo : Value) (he : Et w) (hb : Bt w) (hm : MsV w m vq va vu vx vo) (tm : m.typ) :
    Calls Tryd.prog 8 #[m.val vq va vu vx vo] w fun e w' => e = .returned (.bool true) ∧ w.grownBy w' none := by
  have HE := Lib.hid he
  have HT := Lib.hid hb
  have HM := Lib.hid hm
  have TM := Lib.hid tm
  clear he hb hm tm
  have ga := galloc (grefl w none) (.cells #[.int .u16 m.h.id, .bool m.h.qr, .int .u8 m.h.op, .bool m.h.aa, .bool m.h.tc, .bool m.h.rd, .bool m.h.ra, .bool m.h.z, .bool m.h.ad, .bool m.h.cd, .int .u8 m.h.code, vq, va, vu, vx, .bool m.has, .int .u16 m.sz, .int .u8 m.e, .int .u8 m.v, .int .u16 m.f, vo] 31)
  have HA := Lib.hid (balloc w (.cells #[.int .u16 m.h.id, .bool m.h.qr, .int .u8 m.h.op, .bool m.h.aa, .bool m.h.tc, .bool m.h.rd, .bool m.h.ra, .bool m.h.z, .bool m.h.ad, .bool m.h.cd, .int .u8 m.h.code, vq, va, vu, vx, .bool m.has, .int .u16 m.sz, .int .u8 m.e, .int .u8 m.v, .int .u16 m.f, vo] 31))
  have G := Lib.hid ga
  clear ga
  unfold Ms.val
  go_enter Tryd.func8, Tryd.ntmps8
  go_wp2_with (refine wpList_load_rowG rfl 31 _ rfl w.heap.size rfl _ _ _ _ HA.out Tryd.underlying31 rfl (by kernel_rfl) ?_)
  generalize w.alloc (.cells #[.int .u16 m.h.id, .bool m.h.qr, .int .u8 m.h.op, .bool m.h.aa, .bool m.h.tc, .bool m.h.rd, .bool m.h.ra, .bool m.h.z, .bool m.h.ad, .bool m.h.cd, .int .u8 m.h.code, vq, va, vu, vx, .bool m.has, .int .u16 m.sz, .int .u8 m.e, .int .u8 m.v, .int .u16 m.f, vo] 31) = w0 at *
  have CL := large_any w0 m vq va vu vx vo (HM.out.kept G.out) TM.out.mem
  unfold Ms.val at CL
  refine Calls.mono CL ?_
  clear CL
  rintro e w1 ⟨rfl, hg⟩
  have G1 := Lib.hid (gtrans G.out hg)
  have HA1 := Lib.hid (gblock hg HA.out (by simp))
  clear G HA hg
  have G := G1
  have HA := HA1
  clear G1 HA1
  by_cases h1 : 5000 ≤ m.big
  case pos =>
    rw [decide_eq_true h1]
    clear h1
    go_wp2_with fail
    refine Calls.mono (awake_any w1 (HE.out.kept G.out (by simp)) (HT.out.kept G.out (by simp))) ?_
    rintro e wz ⟨rfl, hg⟩
    have Gz := Lib.hid (gtrans G.out hg)
    clear hg
    go_wp2_with fail
    go_ret
    exact ⟨rfl, Gz.out⟩
  rw [decide_eq_false h1]
  have RG := Lib.hid (TM.out.rng (by omega))
  have SM := Lib.hid (big_small (m := m) (by omega))
  have BG := Lib.hid (show m.big < 5000 by omega)
  clear h1
  go_wp2_with fail
  refine Calls.mono (awake_any w1 (HE.out.kept G.out (by simp)) (HT.out.kept G.out (by simp))) ?_
  rintro e w2 ⟨rfl, hg⟩
  have G2 := Lib.hid (gtrans G.out hg)
  have HA2 := Lib.hid (gblock hg HA.out (by simp))
  clear G HA hg
  have G := G2
  have HA := HA2
  clear G2 HA2
  go_wp2_with (refine wpList_load_rowG rfl 31 _ rfl w.heap.size rfl _ _ _ _ HA.out Tryd.underlying31 rfl (by kernel_rfl) ?_)
  have CE := encode_any w2 m vq va vu vx vo (HE.out.kept G.out (by simp)) (HT.out.kept G.out (by simp)) (HM.out.kept G.out) RG.out
  unfold Ms.val at CE
  refine Calls.mono CE ?_
  clear CE
  rintro e w3 ⟨rfl, hg⟩
  have G3 := Lib.hid (gtrans G.out hg)
  have HA3 := Lib.hid (gblock hg HA.out (by simp))
  clear G HA hg
  have G := G3
  have HA := HA3
  clear G3 HA3
  go_wp2_with (refine wpList_load_rowG rfl 31 _ rfl w.heap.size rfl _ _ _ _ HA.out Tryd.underlying31 rfl (by kernel_rfl) ?_)
  have CE := size_any w3 m vq va vu vx vo (HE.out.kept G.out (by simp)) (HT.out.kept G.out (by simp)) (HM.out.kept G.out) RG.out
  unfold Ms.val at CE
  refine Calls.mono CE ?_
  clear CE
  rintro e w4 ⟨rfl, hg⟩
  have G4 := Lib.hid (gtrans G.out hg)
  have HA4 := Lib.hid (gblock hg HA.out (by simp))
  clear G HA hg
  have G := G4
  have HA := HA4
  clear G4 HA4
  rcases wE_cases m with ⟨hE, hMay⟩ | ⟨hE, hMay⟩ | ⟨hE, hMay⟩
  · obtain ⟨o4, o5, o1, o2, o3⟩ := out_ok hE
    have OW := s5_whole RG.out hE
    have ON : m.num ≤ m.whole := by rw [(out_ok hE).2.1]; exact OW
    rw [hE]
    have WH := Lib.hid (big_whole BG.out)
    have WL := Lib.hid (show m.whole ≤ 1001000 by rw [whole_eq]; have := WH.out; split <;> omega)
    clear o4 o5 OW
    rw [← o1] at o2 o3 ON ⊢
    clear o1
    generalize m.out = t at *
    have C1 := Lib.hid (fun (w' : World) (g : w4.grownBy w' none) => mwhole_any w' m vq va vu vx vo ((HM.out.kept G.out).kept g) TM.out.mem WH.out)
    have C2 := Lib.hid (fun (w' : World) (g : w4.grownBy w' none) => wmay_any w' m vq va vu vx vo ((HE.out.kept G.out (by simp)).kept g (by simp)) ((HT.out.kept G.out (by simp)).kept g (by simp)) ((HM.out.kept G.out).kept g) RG.out.few)
    rw [hMay] at C2
    unfold Ms.val at C1 C2
    have k1 : decide ((12 : Int) ≤ (t.size : Int)) = true := by simp; omega
    have k2 : decide ((t.size : Int) ≤ 65535) = true := by simp; omega
    have k3 : decide (t.size ≤ m.whole) = true := by simp; omega
    clear hE hMay o2 o3 ON
    go_wp2_with (refine wpList_load_rowG rfl 31 _ rfl w.heap.size rfl _ _ _ _ HA.out Tryd.underlying31 rfl (by kernel_rfl) ?_)
    refine Calls.mono (C1.out w4 (grefl w4 none)) ?_
    rintro e w5 ⟨rfl, hg⟩
    have C2' := Lib.hid (C2.out w5 hg)
    clear C1 C2
    have G5 := Lib.hid (gtrans G.out hg)
    have HA5 := Lib.hid (gblock hg HA.out (by simp))
    clear G HA hg
    have G := G5
    have HA := HA5
    clear G5 HA5
    go_wp2_with (refine wpList_load_rowG rfl 31 _ rfl w.heap.size rfl _ _ _ _ HA.out Tryd.underlying31 rfl (by kernel_rfl) ?_)
    refine Calls.mono C2'.out ?_
    rintro e w6 ⟨rfl, hg⟩
    clear C2'
    have G6 := Lib.hid (gtrans G.out hg)
    clear hg
    go_wp2_with fail
    go_ret
    exact ⟨rfl, G6.out⟩
  · obtain ⟨o4, o5⟩ := out_no (m := m) (by omega)
    have C2 := wmay_any w4 m vq va vu vx vo (HE.out.kept G.out (by simp)) (HT.out.kept G.out (by simp)) (HM.out.kept G.out) RG.out.few
    rw [hMay] at C2
    unfold Ms.val at C2
    rw [hE, o4, o5]
    clear hE o4 o5 hMay
    go_wp2_with (refine wpList_load_rowG rfl 31 _ rfl w.heap.size rfl _ _ _ _ HA.out Tryd.underlying31 rfl (by kernel_rfl) ?_)
    refine Calls.mono C2 ?_
    rintro e w6 ⟨rfl, hg⟩
    clear C2
    have G6 := Lib.hid (gtrans G.out hg)
    clear hg
    go_wp2_with fail
    go_ret
    exact ⟨rfl, G6.out⟩
  · obtain ⟨o4, o5⟩ := out_no (m := m) (by omega)
    have C2 := wmay_any w4 m vq va vu vx vo (HE.out.kept G.out (by simp)) (HT.out.kept G.out (by simp)) (HM.out.kept G.out) RG.out.few
    rw [hMay] at C2
    unfold Ms.val at C2
    rw [hE, o4, o5]
    clear hE o4 o5 hMay
    go_wp2_with (refine wpList_load_rowG rfl 31 _ rfl w.heap.size rfl _ _ _ _ HA.out Tryd.underlying31 rfl (by kernel_rfl) ?_)
    refine Calls.mono C2 ?_
    rintro e w6 ⟨rfl, hg⟩
    clear C2
    have G6 := Lib.hid (gtrans G.out hg)
    clear hg
    go_wp2_with fail
    go_ret
    exact ⟨rfl, G6.out⟩
end Go.Proofs.YtncfjplolpgemaaDoor
