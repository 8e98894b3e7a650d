/-
  Wire: the same questions, records, messages.
  Wire: Same.
  Wire: how much a message is: records, large.
-/
import Derived.Test.YthgendgmlpaglaaDoorA20
import Derived.Test.YthgendgmlpaglaaDoorA11
import Derived.Laws.StructEq
namespace Go.Proofs.YthgendgmlpaglaaDoor
open Go.RowKit

theorem qn_eq (w : World) (x y : Qn) : (Op.equalIn 10000 42 (.agg #[.string x.name, .int .u16 x.kind, .int .u16 x.cls]) (.agg #[.string y.name, .int .u16 y.kind, .int .u16 y.cls])).run Tryd.prog w = .ok (decide (x = y)) w := by
  obtain ⟨a, b, c⟩ := x
  obtain ⟨a', b', c'⟩ := y
  dsimp only
  by_cases h1 : a = a'
  · by_cases h2 : b = b'
    · by_cases h3 : c = c'
      · simp [go_sem, h1, h2, h3]
      · have : ¬ (c : Int) = (c' : Int) := by omega
        simp [go_sem, h1, h2, h3, this]
    · have : ¬ (b : Int) = (b' : Int) := by omega
      simp [go_sem, h1, h2, this]
  · have : ¬ a.toList = a'.toList := fun h => h1 (ba_inj h)
    simp [go_sem, h1, this]
theorem rc_eq (w : World) (x y : Rc) : (Op.equalIn 10000 47 (.agg #[.string x.name, .int .u16 x.kind, .int .u16 x.cls, .int .u32 x.ttl, .string x.data]) (.agg #[.string y.name, .int .u16 y.kind, .int .u16 y.cls, .int .u32 y.ttl, .string y.data])).run Tryd.prog w = .ok (decide (x = y)) w := by
  obtain ⟨a, b, c, d, e⟩ := x
  obtain ⟨a', b', c', d', e'⟩ := y
  dsimp only
  by_cases h1 : a = a'
  · by_cases h2 : b = b'
    · by_cases h3 : c = c'
      · by_cases h4 : d = d'
        · by_cases h5 : e = e'
          · simp [go_sem, h1, h2, h3, h4, h5]
          · have : ¬ e.toList = e'.toList := fun h => h5 (ba_inj h)
            simp [go_sem, h1, h2, h3, h4, h5, this]
        · have : ¬ (d : Int) = (d' : Int) := by omega
          simp [go_sem, h1, h2, h3, h4, this]
      · have : ¬ (c : Int) = (c' : Int) := by omega
        simp [go_sem, h1, h2, h3, this]
    · have : ¬ (b : Int) = (b' : Int) := by omega
      simp [go_sem, h1, h2, this]
  · have : ¬ a.toList = a'.toList := fun h => h1 (ba_inj h)
    simp [go_sem, h1, this]

set_option maxRecDepth 100000 in
theorem rfQ_len (A B : Option Addr) (n m ca cb : Nat) (w : World) (h : n ≠ m) : Calls Tryd.prog 12 #[.slice A n ca, .slice B m cb] w fun e w' => e = .returned (.bool false) ∧ w.grownBy w' none := by
  have q : ((n : Int) != (m : Int)) = true := by simp; omega
  go_enter Tryd.func12, Tryd.ntmps12
  go_wp2
  go_ret
  exact ⟨rfl, grefl _ none⟩

set_option maxRecDepth 100000 in
set_option maxHeartbeats 1000000 in
theorem rfQ_loop (A B : Option Addr) (ca cb : Nat) (xs ys : List Qn) (w : World) (hn : xs.length = ys.length) (ha : Qs w (.slice A xs.length ca) xs) (hb : Qs w (.slice B ys.length cb) ys) (hm : xs.length ≤ 1000000) :
    Calls Tryd.prog 12 #[.slice A xs.length ca, .slice B ys.length cb] w fun e w' => e = .returned (.bool (decide (xs = ys))) ∧ w.grownBy w' none := by
  have HA := Lib.hid ha
  have HB := Lib.hid hb
  have HN := Lib.hid hn
  have q : ((xs.length : Int) != (ys.length : Int)) = false := by rw [hn]; simp
  clear ha hb hn
  go_enter Tryd.func12, Tryd.ntmps12
  go_wp2_with fail
  clear q
  go_loopw [5] (fun i wr => ∃ k : Nat, k ≤ xs.length ∧ i = .int .i64 k ∧ xs.take k = ys.take k ∧ w.grownBy wr none) (fun i _ => xs.length - (intOf i).toNat)
  case atStart => exact ⟨0, by omega, rfl, rfl, grefl _ none⟩
  case round =>
    obtain ⟨k, hk, rfl, hsame, hg⟩ := hrel
    have HS := Lib.hid hsame
    have HG := Lib.hid hg
    clear hsame hg
    by_cases hlt : k < xs.length
    · obtain ⟨b, off, rfl, l0, l1, l2⟩ := (HA.out.kept HG.out).at hlt
      obtain ⟨b', off', rfl, m0, m1, m2⟩ := (HB.out.kept HG.out).at (show k < ys.length by have := HN.out; omega)
      have q0 : (0 : Int) ≤ (k : Int) := by omega
      have q1 : (k : Int) < (xs.length : Int) := by omega
      have q2 : (k : Int) < (ys.length : Int) := by have := HN.out; omega
      have HX := Lib.hid (List.take_succ_eq_append_getElem hlt)
      have HY := Lib.hid (List.take_succ_eq_append_getElem (show k < ys.length by have := HN.out; omega))
      generalize xs[k] = x at *
      generalize ys[k]'(by have := HN.out; omega) = y at *
      have oe := qn_eq
      by_cases hxy : x = y
      · have q3 : decide (x = y) = true := by simpa using hxy
        have HXY := Lib.hid hxy
        clear hxy
        go_wp2_with fail
        go_quiet (fail)
        go_wp2
        go_roundw
        case rel => exact ⟨k + 1, by omega, by go_num, by rw [HX.out, HY.out, HS.out, HXY.out], gdrewN HG.out _⟩
        case measure => simp [intOf]; omega
      · have q3 : decide (x = y) = false := by simpa using hxy
        have HXY := Lib.hid hxy
        clear hxy
        go_wp2_with fail
        go_quiet (fail)
        go_wp2
        go_ret
        refine ⟨?_, gdrewN HG.out _⟩
        have hne : ¬ xs = ys := by
          intro e
          have e1 := HX.out
          rw [e, HY.out] at e1
          have e2 := List.append_inj_right' e1 (by simp)
          simp at e2
          exact HXY.out e2.symm
        simp [hne]
    · go_wp2
      go_ret
      refine ⟨?_, HG.out⟩
      have e1 := HS.out
      have e2 := HN.out
      rw [List.take_of_length_le (by omega), List.take_of_length_le (by omega)] at e1
      simp [e1]
theorem rfQ_any (va vb : Value) (xs ys : List Qn) (w : World) (ha : Qs w va xs) (hb : Qs w vb ys) (hm : xs.length ≤ 1000000) :
    Calls Tryd.prog 12 #[va, vb] w fun e w' => e = .returned (.bool (decide (xs = ys))) ∧ w.grownBy w' none := by
  obtain ⟨A, ca, rfl⟩ := ha.form
  obtain ⟨B, cb, rfl⟩ := hb.form
  by_cases hn : xs.length = ys.length
  · exact rfQ_loop A B ca cb xs ys w hn ha hb hm
  · have hne : ¬ xs = ys := fun e => hn (by rw [e])
    rw [decide_eq_false hne]
    exact rfQ_len A B xs.length ys.length ca cb w hn

set_option maxRecDepth 100000 in
theorem rfR_len (A B : Option Addr) (n m ca cb : Nat) (w : World) (h : n ≠ m) : Calls Tryd.prog 13 #[.slice A n ca, .slice B m cb] w fun e w' => e = .returned (.bool false) ∧ w.grownBy w' none := by
  have q : ((n : Int) != (m : Int)) = true := by simp; omega
  go_enter Tryd.func13, Tryd.ntmps13
  go_wp2
  go_ret
  exact ⟨rfl, grefl _ none⟩

set_option maxRecDepth 100000 in
set_option maxHeartbeats 1000000 in
theorem rfR_loop (A B : Option Addr) (ca cb : Nat) (xs ys : List Rc) (w : World) (hn : xs.length = ys.length) (ha : Rs w (.slice A xs.length ca) xs) (hb : Rs w (.slice B ys.length cb) ys) (hm : xs.length ≤ 1000000) :
    Calls Tryd.prog 13 #[.slice A xs.length ca, .slice B ys.length cb] w fun e w' => e = .returned (.bool (decide (xs = ys))) ∧ w.grownBy w' none := by
  have HA := Lib.hid ha
  have HB := Lib.hid hb
  have HN := Lib.hid hn
  have q : ((xs.length : Int) != (ys.length : Int)) = false := by rw [hn]; simp
  clear ha hb hn
  go_enter Tryd.func13, Tryd.ntmps13
  go_wp2_with fail
  clear q
  go_loopw [5] (fun i wr => ∃ k : Nat, k ≤ xs.length ∧ i = .int .i64 k ∧ xs.take k = ys.take k ∧ w.grownBy wr none) (fun i _ => xs.length - (intOf i).toNat)
  case atStart => exact ⟨0, by omega, rfl, rfl, grefl _ none⟩
  case round =>
    obtain ⟨k, hk, rfl, hsame, hg⟩ := hrel
    have HS := Lib.hid hsame
    have HG := Lib.hid hg
    clear hsame hg
    by_cases hlt : k < xs.length
    · obtain ⟨b, off, rfl, l0, l1, l2, l3, l4⟩ := (HA.out.kept HG.out).at hlt
      obtain ⟨b', off', rfl, m0, m1, m2, m3, m4⟩ := (HB.out.kept HG.out).at (show k < ys.length by have := HN.out; omega)
      have q0 : (0 : Int) ≤ (k : Int) := by omega
      have q1 : (k : Int) < (xs.length : Int) := by omega
      have q2 : (k : Int) < (ys.length : Int) := by have := HN.out; omega
      have HX := Lib.hid (List.take_succ_eq_append_getElem hlt)
      have HY := Lib.hid (List.take_succ_eq_append_getElem (show k < ys.length by have := HN.out; omega))
      generalize xs[k] = x at *
      generalize ys[k]'(by have := HN.out; omega) = y at *
      have oe := rc_eq
      by_cases hxy : x = y
      · have q3 : decide (x = y) = true := by simpa using hxy
        have HXY := Lib.hid hxy
        clear hxy
        go_wp2_with fail
        go_quiet (fail)
        go_wp2
        go_roundw
        case rel => exact ⟨k + 1, by omega, by go_num, by rw [HX.out, HY.out, HS.out, HXY.out], gdrewN HG.out _⟩
        case measure => simp [intOf]; omega
      · have q3 : decide (x = y) = false := by simpa using hxy
        have HXY := Lib.hid hxy
        clear hxy
        go_wp2_with fail
        go_quiet (fail)
        go_wp2
        go_ret
        refine ⟨?_, gdrewN HG.out _⟩
        have hne : ¬ xs = ys := by
          intro e
          have e1 := HX.out
          rw [e, HY.out] at e1
          have e2 := List.append_inj_right' e1 (by simp)
          simp at e2
          exact HXY.out e2.symm
        simp [hne]
    · go_wp2
      go_ret
      refine ⟨?_, HG.out⟩
      have e1 := HS.out
      have e2 := HN.out
      rw [List.take_of_length_le (by omega), List.take_of_length_le (by omega)] at e1
      simp [e1]
theorem rfR_any (va vb : Value) (xs ys : List Rc) (w : World) (ha : Rs w va xs) (hb : Rs w vb ys) (hm : xs.length ≤ 1000000) :
    Calls Tryd.prog 13 #[va, vb] w fun e w' => e = .returned (.bool (decide (xs = ys))) ∧ w.grownBy w' none := by
  obtain ⟨A, ca, rfl⟩ := ha.form
  obtain ⟨B, cb, rfl⟩ := hb.form
  by_cases hn : xs.length = ys.length
  · exact rfR_loop A B ca cb xs ys w hn ha hb hm
  · have hne : ¬ xs = ys := fun e => hn (by rw [e])
    rw [decide_eq_false hne]
    exact rfR_len A B xs.length ys.length ca cb w hn
end Go.Proofs.YthgendgmlpaglaaDoor
namespace Go.Proofs.YthgendgmlpaglaaDoor
open Go.RowKit

deriving instance DecidableEq for Hd
deriving instance DecidableEq for Ms
set_option maxRecDepth 100000 in
set_option maxHeartbeats 4000000 in
theorem hd_eq (w : World) (x y : Hd) : (Op.equalIn 10000 30 (.agg #[.int .u16 x.id, .bool x.qr, .int .u8 x.op, .bool x.aa, .bool x.tc, .bool x.rd, .bool x.ra, .bool x.z, .bool x.ad, .bool x.cd, .int .u8 x.code]) (.agg #[.int .u16 y.id, .bool y.qr, .int .u8 y.op, .bool y.aa, .bool y.tc, .bool y.rd, .bool y.ra, .bool y.z, .bool y.ad, .bool y.cd, .int .u8 y.code])).run Tryd.prog w = .ok (decide (x = y)) w := by
  obtain ⟨a0, a1, a2, a3, a4, a5, a6, a7, a8, a9, aa⟩ := x
  obtain ⟨b0, b1, b2, b3, b4, b5, b6, b7, b8, b9, ba⟩ := y
  dsimp only
  by_cases h0 : a0 = b0
  · by_cases h1 : a1 = b1
    · by_cases h2 : a2 = b2
      · by_cases h3 : a3 = b3
        · by_cases h4 : a4 = b4
          · by_cases h5 : a5 = b5
            · by_cases h6 : a6 = b6
              · by_cases h7 : a7 = b7
                · by_cases h8 : a8 = b8
                  · by_cases h9 : a9 = b9
                    · by_cases h10 : aa = ba
                      · simp [go_sem, h0, h1, h2, h3, h4, h5, h6, h7, h8, h9, h10]
                      · have hi : ¬ (aa : Int) = (ba : Int) := by omega
                        simp [go_sem, h0, h1, h2, h3, h4, h5, h6, h7, h8, h9, h10, hi]
                    · simp [go_sem, h0, h1, h2, h3, h4, h5, h6, h7, h8, h9]
                  · simp [go_sem, h0, h1, h2, h3, h4, h5, h6, h7, h8]
                · simp [go_sem, h0, h1, h2, h3, h4, h5, h6, h7]
              · simp [go_sem, h0, h1, h2, h3, h4, h5, h6]
            · simp [go_sem, h0, h1, h2, h3, h4, h5]
          · simp [go_sem, h0, h1, h2, h3, h4]
        · simp [go_sem, h0, h1, h2, h3]
      · have hi : ¬ (a2 : Int) = (b2 : Int) := by omega
        simp [go_sem, h0, h1, h2, hi]
    · simp [go_sem, h0, h1]
  · have hi : ¬ (a0 : Int) = (b0 : Int) := by omega
    simp [go_sem, h0, hi]
theorem ms_ne (m n : Ms) (h : ¬ m = n) : decide (m = n) = false := decide_eq_false h
theorem ms_eq {m n : Ms} (h0 : m.h = n.h) (h1 : m.qs = n.qs) (h2 : m.an = n.an) (h3 : m.au = n.au) (h4 : m.ex = n.ex) (h5 : m.has = n.has) : decide (m = n) = edB m.sz m.e m.v m.f m.ops n.sz n.e n.v n.f n.ops := by
  obtain ⟨a0, a1, a2, a3, a4, a5, a6, a7, a8, a9, aa⟩ := m
  obtain ⟨b0, b1, b2, b3, b4, b5, b6, b7, b8, b9, ba⟩ := n
  dsimp only at *
  subst h0 h1 h2 h3 h4 h5
  unfold edB
  rw [Bool.eq_iff_iff]
  simp only [decide_eq_true_eq, Ms.mk.injEq, true_and]
  constructor
  · rintro ⟨h1, h2, h3, h4, h5⟩
    exact ⟨by rw [h1], by rw [h2], by rw [h3], by rw [h4], h5⟩
  · rintro ⟨h1, h2, h3, h4, h5⟩
    exact ⟨by omega, by omega, by omega, by omega, h5⟩

set_option maxRecDepth 100000 in
set_option maxHeartbeats 4000000 in
theorem rfsame_any (w : World) (m n : Ms) (vq va vu vx vo wq wa wu wx wo : Value) (hm : MsV w m vq va vu vx vo) (hn : MsV w n wq wa wu wx wo) (lq : m.qs.length ≤ 1000000) (la : m.an.length ≤ 1000000) (lu : m.au.length ≤ 1000000) (lx : m.ex.length ≤ 1000000) (lo : m.ops.length ≤ 1000000) :
    Calls Tryd.prog 7 #[m.val vq va vu vx vo, n.val wq wa wu wx wo] w fun e w' => e = .returned (.bool (decide (m = n))) ∧ w.grownBy w' none := by
  have CQ := Lib.hid (fun (w' : World) (g : w.grownBy w' none) => rfQ_any vq wq m.qs n.qs w' (hm.q.kept g) (hn.q.kept g) lq)
  have CA := Lib.hid (fun (w' : World) (g : w.grownBy w' none) => rfR_any va wa m.an n.an w' (hm.a.kept g) (hn.a.kept g) la)
  have CU := Lib.hid (fun (w' : World) (g : w.grownBy w' none) => rfR_any vu wu m.au n.au w' (hm.u.kept g) (hn.u.kept g) lu)
  have CX := Lib.hid (fun (w' : World) (g : w.grownBy w' none) => rfR_any vx wx m.ex n.ex w' (hm.x.kept g) (hn.x.kept g) lx)
  have CE := Lib.hid (fun (w' : World) (g : w.grownBy w' none) => rsame_any m.sz m.e m.v m.f n.sz n.e n.v n.f vo wo m.ops n.ops w' (hm.o.kept g) (hn.o.kept g) lo)
  have NE := Lib.hid (ms_ne m n)
  clear hm hn lq la lu lx lo
  unfold ev at CE
  have ga := galloc (grefl w none) (.cells #[.int .u16 m.h.id, .bool m.h.qr, .int .u8 m.h.op, .bool m.h.aa, .bool m.h.tc, .bool m.h.rd, .bool m.h.ra, .bool m.h.z, .bool m.h.ad, .bool m.h.cd, .int .u8 m.h.code, vq, va, vu, vx, .bool m.has, .int .u16 m.sz, .int .u8 m.e, .int .u8 m.v, .int .u16 m.f, vo] 37)
  have gb := galloc (grefl (w.alloc (.cells #[.int .u16 m.h.id, .bool m.h.qr, .int .u8 m.h.op, .bool m.h.aa, .bool m.h.tc, .bool m.h.rd, .bool m.h.ra, .bool m.h.z, .bool m.h.ad, .bool m.h.cd, .int .u8 m.h.code, vq, va, vu, vx, .bool m.has, .int .u16 m.sz, .int .u8 m.e, .int .u8 m.v, .int .u16 m.f, vo] 37)) none) (.cells #[.int .u16 n.h.id, .bool n.h.qr, .int .u8 n.h.op, .bool n.h.aa, .bool n.h.tc, .bool n.h.rd, .bool n.h.ra, .bool n.h.z, .bool n.h.ad, .bool n.h.cd, .int .u8 n.h.code, wq, wa, wu, wx, .bool n.has, .int .u16 n.sz, .int .u8 n.e, .int .u8 n.v, .int .u16 n.f, wo] 37)
  have HA := Lib.hid (gblock gb (balloc w (.cells #[.int .u16 m.h.id, .bool m.h.qr, .int .u8 m.h.op, .bool m.h.aa, .bool m.h.tc, .bool m.h.rd, .bool m.h.ra, .bool m.h.z, .bool m.h.ad, .bool m.h.cd, .int .u8 m.h.code, vq, va, vu, vx, .bool m.has, .int .u16 m.sz, .int .u8 m.e, .int .u8 m.v, .int .u16 m.f, vo] 37)) (by simp))
  have HB := Lib.hid (show ((w.alloc (.cells #[.int .u16 m.h.id, .bool m.h.qr, .int .u8 m.h.op, .bool m.h.aa, .bool m.h.tc, .bool m.h.rd, .bool m.h.ra, .bool m.h.z, .bool m.h.ad, .bool m.h.cd, .int .u8 m.h.code, vq, va, vu, vx, .bool m.has, .int .u16 m.sz, .int .u8 m.e, .int .u8 m.v, .int .u16 m.f, vo] 37)).alloc (.cells #[.int .u16 n.h.id, .bool n.h.qr, .int .u8 n.h.op, .bool n.h.aa, .bool n.h.tc, .bool n.h.rd, .bool n.h.ra, .bool n.h.z, .bool n.h.ad, .bool n.h.cd, .int .u8 n.h.code, wq, wa, wu, wx, .bool n.has, .int .u16 n.sz, .int .u8 n.e, .int .u8 n.v, .int .u16 n.f, wo] 37)).heap[w.heap.size + 1]? = some (.cells #[.int .u16 n.h.id, .bool n.h.qr, .int .u8 n.h.op, .bool n.h.aa, .bool n.h.tc, .bool n.h.rd, .bool n.h.ra, .bool n.h.z, .bool n.h.ad, .bool n.h.cd, .int .u8 n.h.code, wq, wa, wu, wx, .bool n.has, .int .u16 n.sz, .int .u8 n.e, .int .u8 n.v, .int .u16 n.f, wo] 37 (0, 0)) from heap_alloc2_new w _ _)
  have G := Lib.hid (gtrans ga gb)
  clear ga gb
  unfold Ms.val
  have he := hd_eq
  by_cases h0 : m.h = n.h
  case neg =>
    have d0 : decide (m.h = n.h) = false := by simpa using h0
    have HX := Lib.hid (NE.out (fun e => h0 (by rw [e])))
    clear h0
    go_enter Tryd.func7, Tryd.ntmps7
    go_wp2_with fail
    go_ret
    exact ⟨by rw [HX.out]; rfl, G.out⟩
  have d0 : decide (m.h = n.h) = true := by simpa using h0
  have H0 := Lib.hid h0
  clear h0
  go_enter Tryd.func7, Tryd.ntmps7
  go_wp2_with fail
  clear d0 he
  generalize (w.alloc (.cells #[.int .u16 m.h.id, .bool m.h.qr, .int .u8 m.h.op, .bool m.h.aa, .bool m.h.tc, .bool m.h.rd, .bool m.h.ra, .bool m.h.z, .bool m.h.ad, .bool m.h.cd, .int .u8 m.h.code, vq, va, vu, vx, .bool m.has, .int .u16 m.sz, .int .u8 m.e, .int .u8 m.v, .int .u16 m.f, vo] 37)).alloc (.cells #[.int .u16 n.h.id, .bool n.h.qr, .int .u8 n.h.op, .bool n.h.aa, .bool n.h.tc, .bool n.h.rd, .bool n.h.ra, .bool n.h.z, .bool n.h.ad, .bool n.h.cd, .int .u8 n.h.code, wq, wa, wu, wx, .bool n.has, .int .u16 n.sz, .int .u8 n.e, .int .u8 n.v, .int .u16 n.f, wo] 37) = w0 at *
  refine Calls.mono (CQ.out w0 G.out) ?_
  rintro e w1 ⟨rfl, hg⟩
  have G0 := Lib.hid (gtrans G.out hg)
  have HA0 := Lib.hid (gblock hg HA.out (by simp))
  have HB0 := Lib.hid (gblock hg HB.out (by simp))
  clear G HA HB hg
  have G := G0
  have HA := HA0
  have HB := HB0
  clear G0 HA0 HB0
  by_cases h1 : m.qs = n.qs
  case neg =>
    have HX := Lib.hid (NE.out (fun e => h1 (by rw [e])))
    rw [decide_eq_false h1]
    clear h1
    go_wp2_with fail
    go_ret
    exact ⟨by rw [HX.out]; rfl, G.out⟩
  rw [decide_eq_true h1]
  have H1 := Lib.hid h1
  clear h1
  have a12 : w1.cell? ⟨w.heap.size, 12, none⟩ = some (va) := bcellAt HA.out 12
  have b12 : w1.cell? ⟨w.heap.size + 1, 12, none⟩ = some (wa) := bcellAt HB.out 12
  go_wp2_with fail
  clear a12 b12
  refine Calls.mono (CA.out w1 G.out) ?_
  rintro e w2 ⟨rfl, hg⟩
  have G1 := Lib.hid (gtrans G.out hg)
  have HA1 := Lib.hid (gblock hg HA.out (by simp))
  have HB1 := Lib.hid (gblock hg HB.out (by simp))
  clear G HA HB hg
  have G := G1
  have HA := HA1
  have HB := HB1
  clear G1 HA1 HB1
  by_cases h2 : m.an = n.an
  case neg =>
    have HX := Lib.hid (NE.out (fun e => h2 (by rw [e])))
    rw [decide_eq_false h2]
    clear h2
    go_wp2_with fail
    go_ret
    exact ⟨by rw [HX.out]; rfl, G.out⟩
  rw [decide_eq_true h2]
  have H2 := Lib.hid h2
  clear h2
  have a13 : w2.cell? ⟨w.heap.size, 13, none⟩ = some (vu) := bcellAt HA.out 13
  have b13 : w2.cell? ⟨w.heap.size + 1, 13, none⟩ = some (wu) := bcellAt HB.out 13
  go_wp2_with fail
  clear a13 b13
  refine Calls.mono (CU.out w2 G.out) ?_
  rintro e w3 ⟨rfl, hg⟩
  have G2 := Lib.hid (gtrans G.out hg)
  have HA2 := Lib.hid (gblock hg HA.out (by simp))
  have HB2 := Lib.hid (gblock hg HB.out (by simp))
  clear G HA HB hg
  have G := G2
  have HA := HA2
  have HB := HB2
  clear G2 HA2 HB2
  by_cases h3 : m.au = n.au
  case neg =>
    have HX := Lib.hid (NE.out (fun e => h3 (by rw [e])))
    rw [decide_eq_false h3]
    clear h3
    go_wp2_with fail
    go_ret
    exact ⟨by rw [HX.out]; rfl, G.out⟩
  rw [decide_eq_true h3]
  have H3 := Lib.hid h3
  clear h3
  have a14 : w3.cell? ⟨w.heap.size, 14, none⟩ = some (vx) := bcellAt HA.out 14
  have b14 : w3.cell? ⟨w.heap.size + 1, 14, none⟩ = some (wx) := bcellAt HB.out 14
  go_wp2_with fail
  clear a14 b14
  refine Calls.mono (CX.out w3 G.out) ?_
  rintro e w4 ⟨rfl, hg⟩
  have G3 := Lib.hid (gtrans G.out hg)
  have HA3 := Lib.hid (gblock hg HA.out (by simp))
  have HB3 := Lib.hid (gblock hg HB.out (by simp))
  clear G HA HB hg
  have G := G3
  have HA := HA3
  have HB := HB3
  clear G3 HA3 HB3
  by_cases h4 : m.ex = n.ex
  case neg =>
    have HX := Lib.hid (NE.out (fun e => h4 (by rw [e])))
    rw [decide_eq_false h4]
    clear h4
    go_wp2_with fail
    go_ret
    exact ⟨by rw [HX.out]; rfl, G.out⟩
  rw [decide_eq_true h4]
  have H4 := Lib.hid h4
  clear h4
  have a15 : w4.cell? ⟨w.heap.size, 15, none⟩ = some (.bool m.has) := bcellAt HA.out 15
  have b15 : w4.cell? ⟨w.heap.size + 1, 15, none⟩ = some (.bool n.has) := bcellAt HB.out 15
  have a16 : w4.cell? ⟨w.heap.size, 16, none⟩ = some (.int .u16 m.sz) := bcellAt HA.out 16
  have b16 : w4.cell? ⟨w.heap.size + 1, 16, none⟩ = some (.int .u16 n.sz) := bcellAt HB.out 16
  have a17 : w4.cell? ⟨w.heap.size, 17, none⟩ = some (.int .u8 m.e) := bcellAt HA.out 17
  have b17 : w4.cell? ⟨w.heap.size + 1, 17, none⟩ = some (.int .u8 n.e) := bcellAt HB.out 17
  have a18 : w4.cell? ⟨w.heap.size, 18, none⟩ = some (.int .u8 m.v) := bcellAt HA.out 18
  have b18 : w4.cell? ⟨w.heap.size + 1, 18, none⟩ = some (.int .u8 n.v) := bcellAt HB.out 18
  have a19 : w4.cell? ⟨w.heap.size, 19, none⟩ = some (.int .u16 m.f) := bcellAt HA.out 19
  have b19 : w4.cell? ⟨w.heap.size + 1, 19, none⟩ = some (.int .u16 n.f) := bcellAt HB.out 19
  have a20 : w4.cell? ⟨w.heap.size, 20, none⟩ = some (vo) := bcellAt HA.out 20
  have b20 : w4.cell? ⟨w.heap.size + 1, 20, none⟩ = some (wo) := bcellAt HB.out 20
  by_cases h5 : m.has = n.has
  case neg =>
    have HX := Lib.hid (NE.out (fun e => h5 (by rw [e])))
    have d5 : (m.has == n.has) = false := by simpa using h5
    clear h5
    go_wp2_with fail
    go_ret
    exact ⟨by rw [HX.out]; rfl, G.out⟩
  have d5 : (m.has == n.has) = true := by simpa using h5
  have H5 := Lib.hid h5
  clear h5
  go_wp2_with fail
  refine Calls.mono (CE.out w4 G.out) ?_
  rintro e w5 ⟨rfl, hg⟩
  have G5 := Lib.hid (gtrans G.out hg)
  clear hg
  have EQ := Lib.hid (show decide (m = n) = edB m.sz m.e m.v m.f m.ops n.sz n.e n.v n.f n.ops from ms_eq H0.out H1.out H2.out H3.out H4.out H5.out)
  go_wp2_with fail
  go_ret
  exact ⟨by rw [EQ.out]; rfl, G5.out⟩
end Go.Proofs.YthgendgmlpaglaaDoor
namespace Go.Proofs.YthgendgmlpaglaaDoor
open Go.RowKit

def rcW (r : Rc) : Nat := 12 + min 5000 r.name.size + min 5000 r.data.size
/-- A sum that is stopped at 5000. -/
def stS {α : Type} (f : α → Nat) : List α → Nat → Nat
  | [], s => s
  | r :: l, s => if s < 5000 then stS f l (s + f r) else s
theorem stS_stop {α : Type} (f : α → Nat) (l : List α) (s : Nat) (h : ¬ s < 5000) : stS f l s = s := by
  cases l with
  | nil => rfl
  | cons r l => rw [stS, if_neg h]
theorem stS_go {α : Type} (f : α → Nat) {l : List α} {k s : Nat} (hk : k < l.length) (h : s < 5000) : stS f (l.drop k) s = stS f (l.drop (k + 1)) (s + f l[k]) := by
  rw [List.drop_eq_getElem_cons hk, stS, if_pos h]
theorem stS_end {α : Type} (f : α → Nat) {l : List α} {k s : Nat} (hk : l.length ≤ k) : stS f (l.drop k) s = s := by
  rw [List.drop_eq_nil_of_le hk, stS]
theorem stS_sum {α : Type} (f : α → Nat) : ∀ (l : List α) (s : Nat), (stS f l s < 5000 → stS f l s = s + (l.map f).sum) ∧ s ≤ stS f l s := by
  intro l
  induction l with
  | nil => intro s; exact ⟨fun _ => by simp [stS], by simp [stS]⟩
  | cons r l ih =>
    intro s
    rw [stS]
    split
    · obtain ⟨h1, h2⟩ := ih (s + f r)
      exact ⟨fun h => by rw [h1 h]; simp; omega, by omega⟩
    · exact ⟨fun h => by omega, Nat.le_refl _⟩
theorem stS_le {α : Type} (f : α → Nat) (hf : ∀ x, f x ≤ 10012) : ∀ (l : List α) (s : Nat), s ≤ 15012 → stS f l s ≤ 15012 := by
  intro l
  induction l with
  | nil => intro s h; exact h
  | cons r l ih =>
    intro s h
    rw [stS]
    split
    · have := hf r
      exact ih _ (by omega)
    · exact h
theorem rcW_le (r : Rc) : rcW r ≤ 10012 := by unfold rcW; omega
def qnW (q : Qn) : Nat := 5 + min 5000 q.name.size
def opW (o : Opt) : Nat := 5 + min 5000 o.2.size
theorem qnW_le (q : Qn) : qnW q ≤ 10012 := by unfold qnW; omega
theorem opW_le (o : Opt) : opW o ≤ 10012 := by unfold opW; omega
/-- How much a message is. -/
def Ms.n0 (m : Ms) : Nat := stS rcW m.an 0 + stS rcW m.au 0 + stS rcW m.ex 0
def Ms.big (m : Ms) : Nat := stS opW m.ops (stS qnW m.qs m.n0)
/-- Nothing in it is longer than memory. -/
structure Ms.mem (m : Ms) : Prop where
  ql : m.qs.length ≤ maxLen
  al : m.an.length ≤ maxLen
  ul : m.au.length ≤ maxLen
  xl : m.ex.length ≤ maxLen
  ol : m.ops.length ≤ maxLen
  q : ∀ x ∈ m.qs, x.name.size ≤ maxLen
  a : ∀ r ∈ m.an, r.name.size ≤ maxLen ∧ r.data.size ≤ maxLen
  u : ∀ r ∈ m.au, r.name.size ≤ maxLen ∧ r.data.size ≤ maxLen
  x : ∀ r ∈ m.ex, r.name.size ≤ maxLen ∧ r.data.size ≤ maxLen
  o : ∀ x ∈ m.ops, x.2.size ≤ maxLen

end Go.Proofs.YthgendgmlpaglaaDoor
