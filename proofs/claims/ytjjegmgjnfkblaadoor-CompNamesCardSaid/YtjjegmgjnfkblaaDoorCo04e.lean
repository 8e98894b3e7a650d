/-
  The examples of layer 4 (awake).
-/
import Derived.Test.YtjjegmgjnfkblaaDoorCoFuel
import Derived.Test.YtjjegmgjnfkblaaDoorCo04b
import Derived.Test.YtjjegmgjnfkblaaDoorCo04d
import Derived.Test.YtjjegmgjnfkblaaDoorRegion
namespace Go.Proofs.YtjjegmgjnfkblaaDoor
open Go.RowKit

/-- The own table of a law, and what was put by it. -/
structure Aw (w : World) (b : Nat) (T : Tb) (v : Value) (l : List UInt8) (w' : World) : Prop where
  gr : w.grownBy w' none
  tab : ∃ m, Tab w' b m T ∧ ∀ k, m = some k → w.heap.size ≤ k
  own : Own w' (b + 1) v l
  lb : w.heap.size ≤ b

theorem Aw.quiet {w w1 w2 : World} {b : Nat} {T : Tb} {v : Value} {l : List UInt8} (h : Aw w b T v l w1) (g : w1.grownBy w2 none) : Aw w b T v l w2 := by
  obtain ⟨m, ht, hm⟩ := h.tab
  exact ⟨gtrans h.gr g, ⟨m, ht.kept0 g, hm⟩, h.own.kept0 g, h.lb⟩
theorem Aw.start {w w1 : World} {b : Nat} (hl : w.heap.size ≤ b) (ht : Tab w1 b none []) (hg : w.grownBy w1 none) : Aw w b [] (.slice none 0 0) [] w1 :=
  ⟨hg, ⟨none, ht, fun _ e => by cases e⟩, Own.nil _ _, hl⟩
theorem str_mk (a : List UInt8) (want : ByteArray) : (⟨(a ++ want.data.toList).toArray⟩ : ByteArray) = (⟨a.toArray⟩ : ByteArray) ++ want := by rw [← mk_append_list]

set_option maxRecDepth 100000 in
set_option maxHeartbeats 1000000 in
theorem is_any (b : Nat) (T : Tb) (va : Value) (a : List UInt8) (n want : ByteArray) (w0 w : World) (h : Aw w0 b T va a w) (hn : may n = true) (hT : T.length + n.size ≤ 1000000) (hal : a.length ≤ 1000000)
    (l : List UInt8) (T2 : Tb) (hp : putF n true true 0 T a = (l, T2)) (hl : l = a ++ want.data.toList) (hws : want.size ≤ 1000) :
    Calls Tryd.prog 21 #[.pointer (some ⟨b, 0, none⟩), va, .string n, .string want] w fun e w' => ∃ v', e = .returned (.tuple #[v', .bool true]) ∧ Aw w0 b T2 v' l w' := by
  obtain ⟨m, ht, hm⟩ := h.tab
  have HA := Lib.hid h
  have HTb := Lib.hid ht
  obtain ⟨A, ca, rfl, _, _⟩ := h.own.shape
  clear ht h
  go_enter Tryd.func21, Tryd.ntmps21
  go_wp2_with fail
  refine (tput_ok b m T _ a n true true w HTb.out HA.out.own.sl hn hT (by omega)).mono ?_
  rintro e w1 ⟨v', m', rfl, ho, ht, hg, hms⟩
  rw [hp] at ho ht
  simp only at ho ht
  have hb := blt HTb.out.cell
  have s1 : SlB w1 (.slice A a.length ca) a := by
    refine HA.out.own.sl.keptT hg ?_ ?_
    · intro e; have := (HA.out.own.block b e).1; omega
    · intro k e
      subst e
      exact own_ne_map HA.out.own (HTb.out.some k rfl).1
  have HZ := Lib.hid (show Aw w0 b T2 v' l w1 from ⟨TG.gr HA.out.gr hg HA.out.lb hm, ⟨m', ht, fun k e => by
    rcases hms k e with h1 | h1
    · exact hm k h1
    · exact Nat.le_trans HA.out.gr.size h1⟩, ho.base hb, HA.out.lb⟩)
  obtain ⟨A2, c2, rfl, _, _⟩ := ho.shape
  have cv1 : ∀ g : Gr w1, _ := fun g => run_string_of (P := Tryd.prog) g.w 31 9 5 Tryd.underlying31 Tryd.underlying5 Tryd.underlying9 (ho.sl.kept0 g.h)
  have cv2 : ∀ g : Gr w1, _ := fun g => run_string_of (P := Tryd.prog) g.w 31 9 5 Tryd.underlying31 Tryd.underlying5 Tryd.underlying9 (s1.kept0 g.h)
  clear ho ht hg hms s1
  rw [show (⟨l.toArray⟩ : ByteArray) = (⟨a.toArray⟩ : ByteArray) ++ want by rw [hl, str_mk]] at cv1
  clear hl hp
  have hOs : (⟨a.toArray⟩ : ByteArray).size ≤ 1000000 := by rw [str_size]; omega
  generalize (⟨a.toArray⟩ : ByteArray) = O at *
  go_wp2_with fail
  refine wp_region_gr (by kernel_rfl) (by kernel_rfl) ?_
  repeat (go_big_quiet_step (fail))
  refine wpQuiet_nil ?_
  rintro w2 ⟨g, rfl⟩
  have G2 := Lib.hid g.h
  generalize g.w = w2 at *
  go_wp2_with fail
  go_ret2
  exact ⟨_, rfl, HZ.out.quiet G2.out⟩

theorem cread_is (s : ByteArray) (at_ : Int) (w : World) (he : Et w) (hs : s.size ≤ 1000000) (r : Rd) (hr : rdAt s at_ = r) : Calls Tryd.prog 11 #[.string s, .int .i64 at_] w fun e w' => e = .returned (rdR r) ∧ w.grownBy w' none := by
  rw [← hr]; exact cread_any s at_ w he hs

set_option maxRecDepth 100000 in
set_option maxHeartbeats 4000000 in
theorem awake04 (w : World) (he : Et w) : Calls Tryd.prog 10 #[] w fun e w' => e = .returned (.bool true) ∧ w.grownBy w' none := by
  have HE := Lib.hid he
  clear he
  go_enter Tryd.func10, Tryd.ntmps10
  go_wp2_with fail
  refine (tnew_any w).mono ?_
  rintro e w1 ⟨b, rfl, hl, ht, hg⟩
  have A1 := Lib.hid (Aw.start hl ht hg)
  clear hl ht hg
  go_wp2_with fail
  refine (is_any b [] _ [] nW ⟨oW.toArray⟩ w w1 A1.out mayW (by decide) (by decide) oW tW putW rfl (by decide)).mono ?_
  rintro e w2 ⟨v2, rfl, h2⟩
  have A2 := Lib.hid h2
  clear h2
  go_wp2_with fail
  refine (is_any b tW v2 oW nF ⟨#[3, 102, 116, 112, 192, 4]⟩ w w2 A2.out mayF (by decide) (by decide) oF tF putFt rfl (by decide)).mono ?_
  rintro e w3 ⟨v3, rfl, h3⟩
  have A3 := Lib.hid h3
  clear h3
  go_wp2_with fail
  refine (is_any b tF v3 oF nE ⟨#[192, 4]⟩ w w3 A3.out mayE (by decide) (by decide) oE tF putE rfl (by decide)).mono ?_
  rintro e w4 ⟨v4, rfl, h4⟩
  have A4 := Lib.hid h4
  clear h4
  go_wp2_with fail
  refine (is_any b tF v4 oE nV ⟨#[3, 87, 87, 87, 192, 4]⟩ w w4 A4.out mayV (by decide) (by decide) oV tV putV rfl (by decide)).mono ?_
  rintro e w5 ⟨v5, rfl, h5⟩
  have A5 := Lib.hid h5
  have hcv := run_string_of (P := Tryd.prog) w5 31 9 5 Tryd.underlying31 Tryd.underlying5 Tryd.underlying9 h5.own.sl
  clear h5
  go_wp2_with fail
  have G5 := Lib.hid A5.out.gr
  clear hcv A1 A2 A3 A4 A5
  refine (cread_is ⟨oV.toArray⟩ 8 w5 (HE.out.kept G5.out (by simp)) (by decide) _ rd8).mono ?_
  rintro e w6 ⟨rfl, hg⟩
  have G6 := Lib.hid (gtrans G5.out hg)
  clear hg G5
  unfold rdR
  go_wp2_with fail
  refine (cread_is _ _ w6 (HE.out.kept G6.out (by simp)) (by decide) _ rdx0).mono ?_
  rintro e w7 ⟨rfl, hg⟩
  have G7 := Lib.hid (gtrans G6.out hg)
  clear hg G6
  unfold rdR
  go_wp2_with fail
  refine (cread_is _ _ w7 (HE.out.kept G7.out (by simp)) (by decide) _ rdx1).mono ?_
  rintro e w8 ⟨rfl, hg⟩
  have G8 := Lib.hid (gtrans G7.out hg)
  clear hg G7
  unfold rdR
  go_wp2_with fail
  refine (cread_is _ _ w8 (HE.out.kept G8.out (by simp)) (by decide) _ rdx2).mono ?_
  rintro e w9 ⟨rfl, hg⟩
  have G9 := Lib.hid (gtrans G8.out hg)
  clear hg G8
  unfold rdR
  go_wp2_with fail
  refine (cread_is _ _ w9 (HE.out.kept G9.out (by simp)) (by decide) _ rdx3).mono ?_
  rintro e w10 ⟨rfl, hg⟩
  have G10 := Lib.hid (gtrans G9.out hg)
  clear hg G9
  unfold rdR
  go_wp2_with fail
  refine (cread_is _ _ w10 (HE.out.kept G10.out (by simp)) (by decide) _ rdx4).mono ?_
  rintro e w11 ⟨rfl, hg⟩
  have G11 := Lib.hid (gtrans G10.out hg)
  clear hg G10
  unfold rdR
  go_wp2_with fail
  go_ret
  exact ⟨rfl, G11.out⟩
end Go.Proofs.YtjjegmgjnfkblaaDoor
