/-
  CompNames.
-/
import Derived.Test.YtjjegmgjnfkblaaDoorCo04p
namespace Go.Proofs.YtjjegmgjnfkblaaDoor
open Go.RowKit

theorem SlB.tail {w : World} {base n cap g : Nat} {x y : List UInt8} (h : Own w base (.slice (some ⟨g, 0, none⟩) n cap) (x ++ y)) (k : Nat) (hk : x.length = k) : SlB w (.slice (some ⟨g, k, none⟩) y.length (cap - k)) y := by
  obtain ⟨A', cap', e, h1, h2, h3⟩ := h.sl
  simp only [Value.slice.injEq] at e
  obtain ⟨rfl, _, rfl⟩ := e
  refine ⟨_, _, rfl, by simp at h1; omega, by simp, fun ad had j u hu => ?_⟩
  cases had
  have := h3 _ rfl (k + j) u (by rw [bv_append, List.getElem?_append_right (by rw [bv_len]; omega), bv_len, hk]; simpa using hu)
  rw [Addr.add_lit] at this ⊢
  rw [← this]
  congr 2
  omega
theorem cread_rw (r : Rw) (h : rwB r) (w : World) (he : Et w) : Calls Tryd.prog 11 #[.string r.msg, .int .i64 r.at_] w fun e w' => e = .returned (.tuple #[.string r.n, .int .i64 (r.next : Int), .int .i64 (r.e : Int)]) ∧ w.grownBy w' none := by
  obtain ⟨h0, h1, h2, h3⟩ := h
  have := cread_u r.msg r.at_ w he h0
  rwa [h1, h2, h3] at this

theorem Aw.own' {w w1 : World} {b : Nat} {T : Tb} {v v' : Value} {l l' : List UInt8} (h : Aw w b T v l w1) (o : Own w1 (b + 1) v' l') : Aw w b T v' l' w1 := ⟨h.gr, h.tab, o, h.lb⟩
theorem aput_any (b : Nat) (T : Tb) (va : Value) (a : List UInt8) (n : ByteArray) (cmp known : Bool) (w0 w : World) (h : Aw w0 b T va a w) (hn : may n = true) (hT : T.length + n.size ≤ 1000000) (hal : a.length ≤ 1000000)
    (l : List UInt8) (T2 : Tb) (hp : putF n cmp known 0 T a = (l, T2)) :
    Calls Tryd.prog 15 #[.pointer (some ⟨b, 0, none⟩), va, .string n, .bool cmp, .bool known] w fun e w' => ∃ v', e = .returned (.tuple #[v', .int .i64 0]) ∧ Aw w0 b T2 va a w' ∧ Own w' (b + 1) v' l ∧ ∀ vx x, Own w (b + 1) vx x → Own w' (b + 1) vx x := by
  obtain ⟨m, ht, hm⟩ := h.tab
  have kept : ∀ w1, TG w w1 b m → ∀ vx x, Own w (b + 1) vx x → Own w1 (b + 1) vx x := by
    intro w1 hg vx x hx
    refine hx.keptT hg ?_ ?_
    · intro e; have := (hx.block b e).1; omega
    · cases m with
      | none => exact .inl rfl
      | some k => exact .inr (own_ne_map hx (ht.some k rfl).1)
  refine (tput_ok b m T _ a n cmp known w ht h.own.sl hn hT (by omega)).mono ?_
  rintro e w1 ⟨v', m', rfl, ho, ht1, hg, hms⟩
  rw [hp] at ho ht1
  simp only at ho ht1
  have hb := blt ht.cell
  refine ⟨v', rfl, ⟨TG.gr h.gr hg h.lb hm, ⟨m', ht1, fun k e => ?_⟩, kept w1 hg _ _ h.own, h.lb⟩, ho.base hb, kept w1 hg⟩
  rcases hms k e with h1 | h1
  · exact hm k h1
  · exact Nat.le_trans h.gr.size h1
theorem aat_any (b : Nat) (T : Tb) (va : Value) (a : List UInt8) (n : ByteArray) (w0 w : World) (h : Aw w0 b T va a w) (hs : n.size ≤ 1000000) (o : Option Nat) (ho : tget T n = o) : Calls Tryd.prog 18 #[.pointer (some ⟨b, 0, none⟩), .string n] w fun e w' => e = .returned (.tuple #[.int .i64 ((o.getD 0 : Nat) : Int), .bool o.isSome]) ∧ w.grownBy w' none := by
  obtain ⟨m, ht, hm⟩ := h.tab
  rw [← ho]
  exact tat_any b m T n w ht hs
/-- The rows as they lie in memory. -/
structure RB (w : World) (k : Nat) (wr : World) : Prop where
  gr : w.grownBy wr none
  lk : w.heap.size ≤ k
  blk : ∃ t, wr.heap[k]? = some (.cells (rows.flatMap rv).toArray t (0, 0))
theorem RB.next {w w1 w2 : World} {k : Nat} (h : RB w k w1) (g : w1.grownBy w2 none) : RB w k w2 := by
  obtain ⟨t, ht⟩ := h.blk
  exact ⟨gtrans h.gr g, h.lk, t, gblock g ht (by simp)⟩
theorem RB.at {w wr : World} {k i : Nat} (h : RB w k wr) (hi : i < rows.length) : wr.cell? ⟨k, i * 5, none⟩ = some (.string rows[i].msg) ∧ wr.cell? ⟨k, i * 5 + 1, none⟩ = some (.int .i64 rows[i].at_) ∧ wr.cell? ⟨k, i * 5 + 2, none⟩ = some (.string rows[i].n) ∧ wr.cell? ⟨k, i * 5 + 3, none⟩ = some (.int .i64 (rows[i].next : Int)) ∧ wr.cell? ⟨k, i * 5 + 4, none⟩ = some (.int .i64 (rows[i].e : Int)) := by
  obtain ⟨t, ht⟩ := h.blk
  have key : ∀ j, j < 5 → wr.cell? ⟨k, i * 5 + j, none⟩ = (rv rows[i])[j]? := by
    intro j hj
    rw [bcellAt ht, List.getElem?_toArray]
    exact flat_get rv 5 (fun _ => rfl) rows i j hj rows[i] (List.getElem?_eq_getElem hi)
  exact ⟨key 0 (by omega), key 1 (by omega), key 2 (by omega), key 3 (by omega), key 4 (by omega)⟩

set_option maxRecDepth 100000 in
set_option maxHeartbeats 4000000 in
theorem cnames_walk (w : World) (he : Et w) : Calls Tryd.prog 9 #[] w fun e w' => e = .returned (.bool true) ∧ w.grownBy w' none := by
  have HE := Lib.hid he
  clear he
  obtain ⟨i0, hi, hz0, hz1, hz2⟩ := info_parts Tryd.infoByte
  have m6 : (mnS 126).size = 253 := by rfl
  have m7 : (mnS 127).size = 255 := by rfl
  have MA := Lib.hid (fun w => many_any 127 (by omega) w)
  have MB := Lib.hid (fun w => many_any 128 (by omega) w)
  have MC := Lib.hid (fun w => many_any 126 (by omega) w)
  have HR := Lib.hid (show rows.length = 20 from rfl)
  go_enter Tryd.func9, Tryd.ntmps9
  go_wp2_with fail
  refine Calls.mono (awake04 w HE.out) ?_
  rintro e w1 ⟨rfl, hg⟩
  have G1 := Lib.hid hg
  clear hg
  go_wp2_with fail
  refine (MA.out w1).mono ?_
  rintro e w2 ⟨rfl, hq⟩
  subst hq
  go_wp2_with fail
  refine (MA.out w1).mono ?_
  rintro e w2 ⟨rfl, hq⟩
  subst hq
  go_wp2_with fail
  refine (MB.out w1).mono ?_
  rintro e w2 ⟨rfl, hq⟩
  subst hq
  go_wp2_with fail
  refine (MC.out w1).mono ?_
  rintro e w2 ⟨rfl, hq⟩
  subst hq
  go_wp2_with fail
  refine (MC.out w1).mono ?_
  rintro e w2 ⟨rfl, hq⟩
  subst hq
  go_wp2_with fail
  refine (MA.out w1).mono ?_
  rintro e w2 ⟨rfl, hq⟩
  subst hq
  go_wp2_with fail
  go_loopw [68] (fun vi wr => ∃ i : Nat, i ≤ 20 ∧ vi = .int .i64 i ∧ RB w w1.heap.size wr) (fun vi _ => 20 - (intOf vi).toNat)
  case atStart => exact ⟨0, by omega, rfl, galloc G1.out _, G1.out.size, _, balloc _ _⟩
  case round =>
    obtain ⟨i, hi20, rfl, hr⟩ := hrel
    have R0 := Lib.hid hr
    clear hr
    by_cases hlt : i < 20
    · have q0 : decide ((i : Int) < 20) = true := by simp; omega
      obtain ⟨c0, c1, c2, c3, c4⟩ := R0.out.at (by rw [HR.out]; exact hlt)
      have HW := Lib.hid (rows_ok _ (List.getElem_mem (by rw [HR.out]; exact hlt)))
      generalize rows[i] = r at *
      have n1 : (r.n.toList != r.n.toList) = false := by simp
      have n2 : ((r.next : Int) != (r.next : Int)) = false := by simp
      have n3 : ((r.e : Int) != (r.e : Int)) = false := by simp
      go_wp2_with fail
      refine (cread_rw r HW.out _ (HE.out.kept (galloc R0.out.gr _) (by simp))).mono ?_
      rintro e w2 ⟨rfl, hg⟩
      have R2 := Lib.hid (R0.out.next (gtrans (galloc (grefl wr none) _) hg))
      have b2 := gblock hg (balloc _ _) (by simp)
      have d2 := fun j => bcellAt b2 j
      have d20 := d2 2
      have d21 := d2 3
      have d22 := d2 4
      simp at d20 d21 d22
      clear d2 b2 hg c0 c1 c2 c3 c4
      go_wp2_with fail
      go_roundw
      case rel => exact ⟨i + 1, by omega, by go_num, R2.out⟩
      case measure => simp [intOf]; omega
    · have q0 : decide ((i : Int) < 20) = false := by simp; omega
      have G3 := Lib.hid R0.out.gr
      clear R0 G1
      go_upto_region 11 with (fail)
      refine wp_region_lit ?_
      refine (wpList_make_z rfl _ _ 31 rfl (wr.heap.size + 1) i0 Tryd.underlying31 hi hz0 hz1 hz2 .i64 .i64 16381 16381 16381 rfl rfl rfl rfl (by omega) (by simp) ?_)
      intro w4 ho hg
      have hz0' : (List.replicate 16381 (0 : UInt8)).length = 16381 := List.length_replicate
      generalize List.replicate 16381 (0 : UInt8) = Z at ho hz0'
      have HZ := Lib.hid hz0'
      clear hz0'
      rw [asz] at ho
      have A4 : Hid (Aw w wr.heap.size [] _ Z w4) := Lib.hid ⟨gtrans (galloc G3.out _) hg, ⟨none, Tab.kept0 ⟨balloc _ _, fun _ => rfl, fun _ e => (by cases e), Low.nil⟩ hg, fun _ e => by cases e⟩, ho, G3.out.size⟩
      clear ho hg
      go_wp2_with fail
      refine (aput_any wr.heap.size [] _ Z nA true true w w4 A4.out mayA (by decide) (by have := HZ.out; omega) _ _ (putA HZ.out)).mono ?_
      rintro e w5 ⟨v5, rfl, h5, o5, _⟩
      have HY := Lib.hid (show (Z ++ [1, 97, 1, 98, 0] : List UInt8).length = 16386 by have := HZ.out; simp; omega)
      generalize (Z ++ [1, 97, 1, 98, 0] : List UInt8) = Y at *
      have A5 := Lib.hid (h5.own' o5)
      obtain ⟨Ay, cy, ey, hcy, _⟩ := o5.shape
      rw [HY.out] at ey hcy
      subst ey
      clear h5 o5 A4
      go_wp2_with fail
      refine (aat_any wr.heap.size tA _ Y nA w w5 A5.out (by decide) (some 16381) (by decide +kernel)).mono ?_
      rintro e w6 ⟨rfl, hg⟩
      have A6 := Lib.hid (A5.out.quiet hg)
      clear A5 hg
      go_wp2_with fail
      refine (aat_any wr.heap.size tA _ Y nB w w6 A6.out (by decide) (some 16383) (by decide +kernel)).mono ?_
      rintro e w7 ⟨rfl, hg⟩
      have A7 := Lib.hid (A6.out.quiet hg)
      clear A6 hg
      go_wp2_with fail
      refine (aat_any wr.heap.size tA _ Y ⟨#[0]⟩ w w7 A7.out (by decide) none (by decide +kernel)).mono ?_
      rintro e w8 ⟨rfl, hg⟩
      have A8 := Lib.hid (A7.out.quiet hg)
      clear A7 hg
      go_wp2_with fail
      refine (aput_any wr.heap.size tA _ Y nC true true w w8 A8.out mayC (by decide) (by have := HY.out; omega) _ _ (putC HY.out)).mono ?_
      rintro e w9 ⟨v9, rfl, h9, _, _⟩
      have A9 := Lib.hid h9
      clear h9 A8
      go_wp2_with fail
      refine (aat_any wr.heap.size tA _ Y nC w w9 A9.out (by decide) none (by decide +kernel)).mono ?_
      rintro e w10 ⟨rfl, hg⟩
      have A10 := Lib.hid (A9.out.quiet hg)
      clear A9 hg
      go_wp2_with fail
      refine (aput_any wr.heap.size tA _ Y nB true true w w10 A10.out mayB (by decide) (by have := HY.out; omega) _ _ (putB1 Y)).mono ?_
      rintro e w11 ⟨v11, rfl, h11, o11, _⟩
      have A11 := Lib.hid h11
      have O11 := Lib.hid o11
      clear h11 o11 A10
      go_wp2_with fail
      refine (aput_any wr.heap.size tA _ Y nB false true w w11 A11.out mayB (by decide) (by have := HY.out; omega) _ _ (putB2 Y)).mono ?_
      rintro e w12 ⟨v12, rfl, h12, o12, k12⟩
      have A12 := Lib.hid h12
      have O12 := Lib.hid o12
      have P12 := Lib.hid (k12 _ _ O11.out)
      clear h12 o12 k12 A11 O11
      go_wp2_with fail
      refine (tput_no wr.heap.size _ ⟨#[1, 98]⟩ true true w12 may_no).mono ?_
      rintro e w13 ⟨rfl, hg⟩
      have G13 := Lib.hid (gtrans A12.out.gr hg)
      have O13 := Lib.hid (O12.out.kept0 hg)
      have P13 := Lib.hid (P12.out.kept0 hg)
      clear hg O12 P12 A12
      go_wp2_with fail
      refine (tput_nil _ _ true true w13).mono ?_
      rintro e w14 ⟨rfl, hg⟩
      have G14 := Lib.hid (gtrans G13.out hg)
      have O14 := Lib.hid (O13.out.kept0 hg)
      have P14 := Lib.hid (P13.out.kept0 hg)
      clear hg G13 O13 P13
      go_wp2_with fail
      refine (tat_nil _ w14).mono ?_
      rintro e w15 ⟨rfl, hg⟩
      have G15 := Lib.hid (gtrans G14.out hg)
      obtain ⟨A1, c1, e1, l1, _⟩ := (P14.out.kept0 hg).shape
      obtain ⟨A2, c2, e2, l2, _⟩ := (O14.out.kept0 hg).shape
      have p1 := P14.out.kept0 hg
      have p2 := O14.out.kept0 hg
      rw [List.length_append, HY.out] at e1 l1 e2 l2
      simp only [List.length_cons, List.length_nil, Nat.reduceAdd, Nat.zero_add] at e1 e2 l1 l2
      rw [e1] at p1
      rw [e2] at p2
      subst e1 e2
      clear hg G14 O14 P14
      obtain ⟨g1, rfl, _, _⟩ := Own.cellAt p1 (by simp)
      obtain ⟨g2, rfl, _, _⟩ := Own.cellAt p2 (by simp)
      have s1 := SlB.tail p1 16386 HY.out
      have s2 := SlB.tail p2 16386 HY.out
      have cv1 := cvs s1
      have cv2 := cvs s2
      simp only [List.length_cons, List.length_nil, Nat.reduceAdd, Nat.zero_add] at cv1 cv2
      clear p1 p2 s1 s2 HY HZ
      go_wp2_with fail
      go_ret
      exact ⟨rfl, G15.out⟩
end Go.Proofs.YtjjegmgjnfkblaaDoor
