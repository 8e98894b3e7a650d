/-
  Intake: IntakeAlone (plain, and its walk).
-/
import Derived.Test.YtoncjhjnmomecaaDoorIkI
import Derived.Test.YtoncjhjnmomecaaDoorWjF
import Derived.Test.YtoncjhjnmomecaaDoorIkO
import Derived.Test.YtoncjhjnmomecaaDoorA23
import Derived.Deep.Cut
namespace Go.Proofs.YtoncjhjnmomecaaDoor
open Go.RowKit

theorem look_of {m : Ms} {q : Qn} (hr : m.rng) (h0 : m.wE = 0) (hqr : m.h.qr = false) (hop : m.h.op = 0) (hq : m.qs = [q]) (hv : m.v = 0) :
    look m.out = ⟨if refd q = true then 2 else 3, if refd q = true then 5 else 0, hC m.h, true, q, m.has, if m.has = true then (m.sz : Int) else 0⟩ := by
  have hd := dc_ok hr h0
  have hR := dcE_ok hd.2
  rw [hd.1] at hR
  have hh := rdM_h hR
  have ho := out_ok h0
  unfold look exam
  rw [if_neg (by have := ho.2.2.1; have := ho.2.2.2.1; omega), ← hh, if_neg (by rw [hqr]; simp), if_neg (by rw [hop]; simp), if_neg (by rw [hd.2]; simp), hd.1, examM_yes _ hq]
  unfold examQ
  rw [if_neg (by rw [hv]; simp)]
  cases refd q <;> rfl
def hz (h : Hd) : Hd := ⟨h.id, false, 0, h.aa, h.tc, h.rd, h.ra, h.z, h.ad, h.cd, h.code⟩
def mAl (h : Hd) (q : Qn) : Ms := ⟨hz h, [q], [], [], [], false, 0, 0, 0, 0, []⟩
def mBl (g : Hd) (q : Qn) (l : List Rc) (ed : Nat) : Ms := ⟨hz g, [q], l, [], l, true, ed, 0, 0, 0, []⟩
def mRe (h : Hd) (q : Qn) : Ms := ⟨⟨h.id, true, 0, false, false, h.rd, true, false, false, h.cd, 0⟩, [q], [], [], [], false, 0, 0, 0, 0, []⟩
theorem mAl_rng {h : Hd} {q : Qn} (hi : h.id < 65536) (hq : q.rng) : (mAl h q).rng :=
  ⟨hi, fun x hx => by rw [List.mem_singleton.1 hx]; exact hq, fun r h => (by cases h), fun r h => (by cases h), fun r h => (by cases h), Nat.zero_le _, Nat.zero_le _, (by show (0 : Nat) < 65536; omega), (by show (0 : Nat) < 256; omega), (by show (0 : Nat) < 256; omega), (by show (0 : Nat) < 65536; omega), fun o h => (by cases h)⟩
theorem mBl_rng {g : Hd} {q : Qn} {l : List Rc} {ed : Nat} (hi : g.id < 65536) (hq : q.rng) (hl : ∀ r ∈ l, r.rng) (hn : l.length ≤ 1000000) (he : ed < 65536) : (mBl g q l ed).rng :=
  ⟨hi, fun x hx => by rw [List.mem_singleton.1 hx]; exact hq, hl, fun r h => (by cases h), hl, hn, Nat.zero_le _, he, (by show (0 : Nat) < 256; omega), (by show (0 : Nat) < 256; omega), (by show (0 : Nat) < 65536; omega), fun o h => (by cases h)⟩
def cAl (h : Hd) (q : Qn) (K : Nat) (N : Int) : Cm := ⟨K, N, ⟨h.id, false, 0, false, false, h.rd, false, false, false, h.cd, 0⟩, true, q, false, 0⟩
def cBl (g : Hd) (q : Qn) (ed : Nat) (K : Nat) (N : Int) : Cm := ⟨K, N, ⟨g.id, false, 0, false, false, g.rd, false, false, false, g.cd, 0⟩, true, q, true, ed⟩
theorem blank_al (h : Hd) (q : Qn) (K : Nat) (N : Int) : blank (cAl h q K N) 0 600 = mRe h q := by
  unfold blank cAl mRe
  rfl
set_option maxRecDepth 100000 in
set_option maxHeartbeats 8000000 in
theorem alone_walk (w : World) (q : Qn) (h g : Hd) (l : List Rc) (vl : Value) (ed : Nat) (he : Et w) (hb : Bt w) (hq : q.rng) (hh : h.id < 65536) (hg : g.id < 65536) (hl : Rs w vl l) (hlm : l.length ≤ maxLen) (ht : ∀ r ∈ l, r.typ ∧ r.name.size ≤ maxLen ∧ r.data.size ≤ maxLen) (hqn : q.name.size ≤ maxLen) (hed : ed < 65536) :
    Calls Tryd.prog 5 #[.agg #[.string q.name, .int .u16 q.kind, .int .u16 q.cls], h.v, g.v, vl, .int .u16 ed] w fun e w' => e = .returned (.bool true) ∧ w.grownBy w' none := by
  have HE := Lib.hid he
  have HB := Lib.hid hb
  have HL := Lib.hid hl
  have HT := Lib.hid ht
  have HQ := Lib.hid hq
  have HI := Lib.hid hh
  have GI := Lib.hid hg
  have ED := Lib.hid hed
  have LM := Lib.hid hlm
  obtain ⟨A, cap, rfl, hcap, _⟩ := hl
  clear he hb ht hq hh hg hed hcap
  unfold maxLen at hlm hqn
  have EA := Lib.hid (fun (w' : World) (g : w.grownBy w' none) => awake25_any w' (HE.out.kept g (by simp)) (HB.out.kept g (by simp)))
  have X1 : (w.alloc (.cells #[.string q.name, .int .u16 q.kind, .int .u16 q.cls] 26)).heap.size = w.heap.size + 1 := by simp only [World.size_alloc]
  have X2 : ((w.alloc (.cells #[.string q.name, .int .u16 q.kind, .int .u16 q.cls] 26)).alloc (.cells #[.int .u16 h.id, .bool h.qr, .int .u8 h.op, .bool h.aa, .bool h.tc, .bool h.rd, .bool h.ra, .bool h.z, .bool h.ad, .bool h.cd, .int .u8 h.code] 24)).heap.size = w.heap.size + 1 + 1 := by simp only [World.size_alloc]
  have Q0 := Lib.hid (gblock (galloc (grefl ((w.alloc (.cells #[.string q.name, .int .u16 q.kind, .int .u16 q.cls] 26)).alloc (.cells #[.int .u16 h.id, .bool h.qr, .int .u8 h.op, .bool h.aa, .bool h.tc, .bool h.rd, .bool h.ra, .bool h.z, .bool h.ad, .bool h.cd, .int .u8 h.code] 24)) none) (.cells #[.int .u16 g.id, .bool g.qr, .int .u8 g.op, .bool g.aa, .bool g.tc, .bool g.rd, .bool g.ra, .bool g.z, .bool g.ad, .bool g.cd, .int .u8 g.code] 24)) (heap_alloc2_old w (.cells #[.string q.name, .int .u16 q.kind, .int .u16 q.cls] 26) (.cells #[.int .u16 h.id, .bool h.qr, .int .u8 h.op, .bool h.aa, .bool h.tc, .bool h.rd, .bool h.ra, .bool h.z, .bool h.ad, .bool h.cd, .int .u8 h.code] 24)) (by simp))
  have H0 := Lib.hid (gblock (galloc (grefl ((w.alloc (.cells #[.string q.name, .int .u16 q.kind, .int .u16 q.cls] 26)).alloc (.cells #[.int .u16 h.id, .bool h.qr, .int .u8 h.op, .bool h.aa, .bool h.tc, .bool h.rd, .bool h.ra, .bool h.z, .bool h.ad, .bool h.cd, .int .u8 h.code] 24)) none) (.cells #[.int .u16 g.id, .bool g.qr, .int .u8 g.op, .bool g.aa, .bool g.tc, .bool g.rd, .bool g.ra, .bool g.z, .bool g.ad, .bool g.cd, .int .u8 g.code] 24)) (show ((w.alloc (.cells #[.string q.name, .int .u16 q.kind, .int .u16 q.cls] 26)).alloc (.cells #[.int .u16 h.id, .bool h.qr, .int .u8 h.op, .bool h.aa, .bool h.tc, .bool h.rd, .bool h.ra, .bool h.z, .bool h.ad, .bool h.cd, .int .u8 h.code] 24)).heap[w.heap.size + 1]? = some (.cells #[.int .u16 h.id, .bool h.qr, .int .u8 h.op, .bool h.aa, .bool h.tc, .bool h.rd, .bool h.ra, .bool h.z, .bool h.ad, .bool h.cd, .int .u8 h.code] 24 (0, 0)) from X1 ▸ balloc (w.alloc (.cells #[.string q.name, .int .u16 q.kind, .int .u16 q.cls] 26)) (.cells #[.int .u16 h.id, .bool h.qr, .int .u8 h.op, .bool h.aa, .bool h.tc, .bool h.rd, .bool h.ra, .bool h.z, .bool h.ad, .bool h.cd, .int .u8 h.code] 24)) (by simp))
  have G0 := Lib.hid (show (((w.alloc (.cells #[.string q.name, .int .u16 q.kind, .int .u16 q.cls] 26)).alloc (.cells #[.int .u16 h.id, .bool h.qr, .int .u8 h.op, .bool h.aa, .bool h.tc, .bool h.rd, .bool h.ra, .bool h.z, .bool h.ad, .bool h.cd, .int .u8 h.code] 24)).alloc (.cells #[.int .u16 g.id, .bool g.qr, .int .u8 g.op, .bool g.aa, .bool g.tc, .bool g.rd, .bool g.ra, .bool g.z, .bool g.ad, .bool g.cd, .int .u8 g.code] 24)).heap[w.heap.size + 1 + 1]? = some (.cells #[.int .u16 g.id, .bool g.qr, .int .u8 g.op, .bool g.aa, .bool g.tc, .bool g.rd, .bool g.ra, .bool g.z, .bool g.ad, .bool g.cd, .int .u8 g.code] 24 (0, 0)) from X2 ▸ balloc ((w.alloc (.cells #[.string q.name, .int .u16 q.kind, .int .u16 q.cls] 26)).alloc (.cells #[.int .u16 h.id, .bool h.qr, .int .u8 h.op, .bool h.aa, .bool h.tc, .bool h.rd, .bool h.ra, .bool h.z, .bool h.ad, .bool h.cd, .int .u8 h.code] 24)) (.cells #[.int .u16 g.id, .bool g.qr, .int .u8 g.op, .bool g.aa, .bool g.tc, .bool g.rd, .bool g.ra, .bool g.z, .bool g.ad, .bool g.cd, .int .u8 g.code] 24))
  have G := Lib.hid (galloc (galloc (galloc (grefl w none) (.cells #[.string q.name, .int .u16 q.kind, .int .u16 q.cls] 26)) (.cells #[.int .u16 h.id, .bool h.qr, .int .u8 h.op, .bool h.aa, .bool h.tc, .bool h.rd, .bool h.ra, .bool h.z, .bool h.ad, .bool h.cd, .int .u8 h.code] 24)) (.cells #[.int .u16 g.id, .bool g.qr, .int .u8 g.op, .bool g.aa, .bool g.tc, .bool g.rd, .bool g.ra, .bool g.z, .bool g.ad, .bool g.cd, .int .u8 g.code] 24))
  clear X1 X2
  unfold Hd.v
  go_enter Tryd.func5, Tryd.ntmps5
  go_upto_region 1 with fail
  generalize (((w.alloc (.cells #[.string q.name, .int .u16 q.kind, .int .u16 q.cls] 26)).alloc (.cells #[.int .u16 h.id, .bool h.qr, .int .u8 h.op, .bool h.aa, .bool h.tc, .bool h.rd, .bool h.ra, .bool h.z, .bool h.ad, .bool h.cd, .int .u8 h.code] 24)).alloc (.cells #[.int .u16 g.id, .bool g.qr, .int .u8 g.op, .bool g.aa, .bool g.tc, .bool g.rd, .bool g.ra, .bool g.z, .bool g.ad, .bool g.cd, .int .u8 g.code] 24)) = w1 at *
  have Lb := Lib.hid (show w.heap.size ≤ w.heap.size ∧ w.heap.size ≤ w.heap.size + 1 ∧ w.heap.size ≤ w.heap.size + 1 + 1 from by omega)
  have N1 := Lib.hid (show w.heap.size ≠ w.heap.size + 1 ∧ w.heap.size ≠ w.heap.size + 1 + 1 ∧ w.heap.size + 1 ≠ w.heap.size + 1 + 1 from by omega)
  obtain ⟨b7, hb7⟩ : ∃ b, b = w.heap.size + 1 + 1 := ⟨_, rfl⟩
  rw [← hb7] at G0 Lb N1 ⊢
  clear hb7
  obtain ⟨b6, hb6⟩ : ∃ b, b = w.heap.size + 1 := ⟨_, rfl⟩
  rw [← hb6] at H0 Lb N1 ⊢
  clear hb6
  obtain ⟨b5, hb5⟩ : ∃ b, b = w.heap.size := ⟨_, rfl⟩
  rw [← hb5] at Q0 N1 ⊢
  replace Lb := Lib.hid (show w.heap.size ≤ b5 ∧ w.heap.size ≤ b6 ∧ w.heap.size ≤ b7 from ⟨by omega, Lb.out.2⟩)
  clear hb5
  have c0 := bcellAt Q0.out 0
  by_cases h1 : 1000 < q.name.size
  · have d1 : decide ((1000 : Int) < (q.name.size : Int)) = true := decide_eq_true (by omega)
    go_wp2_with fail
    refine Calls.mono (EA.out _ G.out) ?_
    rintro e wz ⟨rfl, hg⟩
    have Gz := Lib.hid (gtrans G.out hg)
    clear hg
    go_wp2_with fail
    go_ret
    exact ⟨rfl, Gz.out⟩
  have d1 : decide ((1000 : Int) < (q.name.size : Int)) = false := decide_eq_false (by omega)
  by_cases h2 : 20 < l.length
  · have d2 : decide ((20 : Int) < (l.length : Int)) = true := decide_eq_true (by omega)
    go_wp2_with fail
    refine Calls.mono (EA.out _ G.out) ?_
    rintro e wz ⟨rfl, hg⟩
    have Gz := Lib.hid (gtrans G.out hg)
    clear hg
    go_wp2_with fail
    go_ret
    exact ⟨rfl, Gz.out⟩
  have d2 : decide ((20 : Int) < (l.length : Int)) = false := decide_eq_false (by omega)
  have LL := Lib.hid (show l.length ≤ 20 by omega)
  go_wp2_with fail
  refine Calls.mono (EA.out _ G.out) ?_
  rintro e w2 ⟨rfl, hg⟩
  clear c0 h1 d1 d2 h2 hqn
  have G' := Lib.hid (gtrans G.out hg)
  have Q0' := Lib.hid (gblock hg Q0.out (by simp))
  have H0' := Lib.hid (gblock hg H0.out (by simp))
  have G0' := Lib.hid (gblock hg G0.out (by simp))
  clear hg G Q0 H0 G0
  have G := G'
  have Q0 := Q0'
  have H0 := H0'
  have G0 := G0'
  clear G' Q0' H0' G0'
  go_wp2_with fail
  have HR := Lib.hid (HL.out.kept G.out)
  go_loop [11] (fun vi => ∃ k : Nat, k ≤ l.length ∧ vi = .int .i64 k ∧ ∀ r ∈ l.take k, r.data.size ≤ 1000) (fun vi => l.length - (intOf vi).toNat)
  case atStart => exact ⟨0, by omega, rfl, by simp⟩
  case round =>
    obtain ⟨k, hk, rfl, hs⟩ := hrel
    by_cases hlt : k < l.length
    · have k1 : decide ((k : Int) < (l.length : Int)) = true := decide_eq_true (by omega)
      obtain ⟨b, off, rfl, l0, _, _, _, l4⟩ := HR.out.at hlt
      have hn := HT.out l[k] (List.getElem_mem hlt)
      have HS := Lib.hid (show l[k].data.size ≤ 1000 → ∀ r ∈ l.take (k + 1), r.data.size ≤ 1000 from fun hd r hr => by
        rw [List.take_succ_eq_append_getElem hlt, List.mem_append, List.mem_singleton] at hr
        rcases hr with hr | hr
        · exact hs r hr
        · rw [hr]; exact hd)
      clear hs
      generalize l[k] = r at *
      obtain ⟨_, hn1, hn2⟩ := hn
      unfold maxLen at hn1 hn2
      have q0 : (0 : Int) ≤ (k : Int) := by omega
      have q1 : (k : Int) < (l.length : Int) := by omega
      by_cases h3 : 300 < r.name.size
      · have d3 : decide ((300 : Int) < (r.name.size : Int)) = true := decide_eq_true (by omega)
        go_wp2_with fail
        go_ret
        exact ⟨rfl, G.out⟩
      have d3 : decide ((300 : Int) < (r.name.size : Int)) = false := decide_eq_false (by omega)
      by_cases h4 : 1000 < r.data.size
      · have d4 : decide ((1000 : Int) < (r.data.size : Int)) = true := decide_eq_true (by omega)
        go_wp2_with fail
        go_ret
        exact ⟨rfl, G.out⟩
      have d4 : decide ((1000 : Int) < (r.data.size : Int)) = false := decide_eq_false (by omega)
      go_wp2_with fail
      go_round
      case rel => exact ⟨k + 1, by omega, by go_num, HS.out (by omega)⟩
      case measure => simp [intOf]; omega
    have k1 : decide ((k : Int) < (l.length : Int)) = false := decide_eq_false (by omega)
    have HD := Lib.hid (show ∀ r ∈ l, r.data.size ≤ 1000 from fun r hr => hs r (by rw [List.take_of_length_le (by omega)]; exact hr))
    clear hs
    go_upto_region 8 with fail
    clear k1 hlt hk hlm
    have e1 := bcellAt H0.out 1
    have e2 := bcellAt H0.out 2
    have f1 := bfree H0.out 1
    have f2 := bfree H0.out 2
    have e3 := bcellAt G0.out 1
    have e4 := bcellAt G0.out 2
    have f3 := bfree G0.out 1
    have f4 := bfree G0.out 2
    have n1 := N1.out.2.2
    have n2 := N1.out.2.2.symm
    go_upto_region 9 with fail
    clear e1 e2 f1 f2 e3 e4 f3 f4 n1 n2
    have g1 : w2.grownBy ((w2.setCell ⟨b6, 1, none⟩ (.bool false)).setCell ⟨b6, 2, none⟩ (.int .u8 0)) (some b6) := gset (gset (grefl w2 (some b6)) (p := ⟨b6, 1, none⟩) (.inl rfl) (.bool false)) (p := ⟨b6, 2, none⟩) (.inl rfl) (.int .u8 0)
    have g2 : ((w2.setCell ⟨b6, 1, none⟩ (.bool false)).setCell ⟨b6, 2, none⟩ (.int .u8 0)).grownBy ((((w2.setCell ⟨b6, 1, none⟩ (.bool false)).setCell ⟨b6, 2, none⟩ (.int .u8 0)).setCell ⟨b7, 1, none⟩ (.bool false)).setCell ⟨b7, 2, none⟩ (.int .u8 0)) (some b7) := gset (gset (grefl _ (some b7)) (p := ⟨b7, 1, none⟩) (.inl rfl) (.bool false)) (p := ⟨b7, 2, none⟩) (.inl rfl) (.int .u8 0)
    have Q1 := Lib.hid (gblock g2 (gblock g1 Q0.out (by simpa using N1.out.1)) (by simpa using N1.out.2.1))
    have H1 := Lib.hid (gblock g2 (show ((w2.setCell ⟨b6, 1, none⟩ (.bool false)).setCell ⟨b6, 2, none⟩ (.int .u8 0)).heap[b6]? = some (.cells #[.int .u16 h.id, .bool false, .int .u8 0, .bool h.aa, .bool h.tc, .bool h.rd, .bool h.ra, .bool h.z, .bool h.ad, .bool h.cd, .int .u8 h.code] 24 (0, 0)) from bset (bset H0.out 1 (.bool false)) 2 (.int .u8 0)) (by simpa using N1.out.2.2))
    have G1 := Lib.hid (show ((((w2.setCell ⟨b6, 1, none⟩ (.bool false)).setCell ⟨b6, 2, none⟩ (.int .u8 0)).setCell ⟨b7, 1, none⟩ (.bool false)).setCell ⟨b7, 2, none⟩ (.int .u8 0)).heap[b7]? = some (.cells #[.int .u16 g.id, .bool false, .int .u8 0, .bool g.aa, .bool g.tc, .bool g.rd, .bool g.ra, .bool g.z, .bool g.ad, .bool g.cd, .int .u8 g.code] 24 (0, 0)) from bset (bset (gblock g1 G0.out (by simpa using N1.out.2.2.symm)) 1 (.bool false)) 2 (.int .u8 0))
    have G' := Lib.hid (gset2 (gset2 (gset2 (gset2 G.out (p := ⟨b6, 1, none⟩) (v := .bool false) Lb.out.2.1) (p := ⟨b6, 2, none⟩) (v := .int .u8 0) Lb.out.2.1) (p := ⟨b7, 1, none⟩) (v := .bool false) Lb.out.2.2) (p := ⟨b7, 2, none⟩) (v := .int .u8 0) Lb.out.2.2)
    clear g1 g2 Q0 H0 G0 G HR
    have G := G'
    clear G'
    generalize ((((w2.setCell ⟨b6, 1, none⟩ (.bool false)).setCell ⟨b6, 2, none⟩ (.int .u8 0)).setCell ⟨b7, 1, none⟩ (.bool false)).setCell ⟨b7, 2, none⟩ (.int .u8 0)) = w3 at *
    have B1 := Lib.hid (show ((w3.alloc (.cells #[.string q.name, .int .u16 q.kind, .int .u16 q.cls] 26)).alloc (.cells #[.int .u16 0, .bool false, .int .u8 0, .bool false, .bool false, .bool false, .bool false, .bool false, .bool false, .bool false, .int .u8 0, .slice none 0 0, .slice none 0 0, .slice none 0 0, .slice none 0 0, .bool false, .int .u16 0, .int .u8 0, .int .u8 0, .int .u16 0, .slice none 0 0] 41)).heap[w3.heap.size + 1]? = some (.cells #[.int .u16 0, .bool false, .int .u8 0, .bool false, .bool false, .bool false, .bool false, .bool false, .bool false, .bool false, .int .u8 0, .slice none 0 0, .slice none 0 0, .slice none 0 0, .slice none 0 0, .bool false, .int .u16 0, .int .u8 0, .int .u8 0, .int .u16 0, .slice none 0 0] 41 (0, 0)) from heap_alloc2_new w3 _ _)
    have SQ := Lib.hid (show Qs (((w3.alloc (.cells #[.string q.name, .int .u16 q.kind, .int .u16 q.cls] 26)).alloc (.cells #[.int .u16 0, .bool false, .int .u8 0, .bool false, .bool false, .bool false, .bool false, .bool false, .bool false, .bool false, .int .u8 0, .slice none 0 0, .slice none 0 0, .slice none 0 0, .slice none 0 0, .bool false, .int .u16 0, .int .u8 0, .int .u8 0, .int .u16 0, .slice none 0 0] 41)).setRow (w3.heap.size + 1) #[.int .u16 h.id, .bool false, .int .u8 0, .bool h.aa, .bool h.tc, .bool h.rd, .bool h.ra, .bool h.z, .bool h.ad, .bool h.cd, .int .u8 h.code, .slice (some ⟨w3.heap.size, 0, none⟩) 1 1, .slice none 0 0, .slice none 0 0, .slice none 0 0, .bool false, .int .u16 0, .int .u8 0, .int .u8 0, .int .u16 0, .slice none 0 0]) (.slice (some ⟨w3.heap.size, 0, none⟩) 1 1) [q] from (((sl_row w3 3 1 [.string q.name, .int .u16 q.kind, .int .u16 q.cls] 26 rfl).kept0 (galloc (grefl _ none) (.cells #[.int .u16 0, .bool false, .int .u8 0, .bool false, .bool false, .bool false, .bool false, .bool false, .bool false, .bool false, .int .u8 0, .slice none 0 0, .slice none 0 0, .slice none 0 0, .slice none 0 0, .bool false, .int .u16 0, .int .u8 0, .int .u8 0, .int .u16 0, .slice none 0 0] 41))).kept (grow_row _ (w3.heap.size + 1) #[.int .u16 h.id, .bool false, .int .u8 0, .bool h.aa, .bool h.tc, .bool h.rd, .bool h.ra, .bool h.z, .bool h.ad, .bool h.cd, .int .u8 h.code, .slice (some ⟨w3.heap.size, 0, none⟩) 1 1, .slice none 0 0, .slice none 0 0, .slice none 0 0, .bool false, .int .u16 0, .int .u8 0, .int .u8 0, .int .u16 0, .slice none 0 0]) (fun b e => .inr (by cases e; simp [Value.ownBlock]))))
    have hg : w3.grownBy (((w3.alloc (.cells #[.string q.name, .int .u16 q.kind, .int .u16 q.cls] 26)).alloc (.cells #[.int .u16 0, .bool false, .int .u8 0, .bool false, .bool false, .bool false, .bool false, .bool false, .bool false, .bool false, .int .u8 0, .slice none 0 0, .slice none 0 0, .slice none 0 0, .slice none 0 0, .bool false, .int .u16 0, .int .u8 0, .int .u8 0, .int .u16 0, .slice none 0 0] 41)).setRow (w3.heap.size + 1) #[.int .u16 h.id, .bool false, .int .u8 0, .bool h.aa, .bool h.tc, .bool h.rd, .bool h.ra, .bool h.z, .bool h.ad, .bool h.cd, .int .u8 h.code, .slice (some ⟨w3.heap.size, 0, none⟩) 1 1, .slice none 0 0, .slice none 0 0, .slice none 0 0, .bool false, .int .u16 0, .int .u8 0, .int .u8 0, .int .u16 0, .slice none 0 0]) none := gsetR (galloc (galloc (grefl _ none) _) _) (by omega) _
    have M1 := Lib.hid (bsetR B1.out #[.int .u16 h.id, .bool false, .int .u8 0, .bool h.aa, .bool h.tc, .bool h.rd, .bool h.ra, .bool h.z, .bool h.ad, .bool h.cd, .int .u8 h.code, .slice (some ⟨w3.heap.size, 0, none⟩) 1 1, .slice none 0 0, .slice none 0 0, .slice none 0 0, .bool false, .int .u16 0, .int .u8 0, .int .u8 0, .int .u16 0, .slice none 0 0])
    go_upto_region 10 with (first | refine wpList_load_row rfl 24 _ rfl b6 rfl _ _ _ _ H1.out Tryd.underlying24 rfl (by kernel_rfl) ?_ | refine wpList_load_row rfl 26 _ rfl b5 rfl _ _ _ _ Q1.out Tryd.underlying26 rfl (by kernel_rfl) ?_ | refine wpList_store_row rfl 41 _ _ rfl (w3.heap.size + 1) #[.int .u16 h.id, .bool false, .int .u8 0, .bool h.aa, .bool h.tc, .bool h.rd, .bool h.ra, .bool h.z, .bool h.ad, .bool h.cd, .int .u8 h.code, .slice (some ⟨w3.heap.size, 0, none⟩) 1 1, .slice none 0 0, .slice none 0 0, .slice none 0 0, .bool false, .int .u16 0, .int .u8 0, .int .u8 0, .int .u16 0, .slice none 0 0] rfl rfl 41 _ B1.out (by kernel_rfl) rfl (by kernel_rfl) ?_)
    clear B1
    have G' := Lib.hid (gtrans G.out hg)
    have Q1' := Lib.hid (gblock hg Q1.out (by simp))
    have H1' := Lib.hid (gblock hg H1.out (by simp))
    have G1' := Lib.hid (gblock hg G1.out (by simp))
    clear hg G Q1 H1 G1
    have G := G'
    have Q1 := Q1'
    have H1 := H1'
    have G1 := G1'
    clear G' Q1' H1' G1'
    generalize (((w3.alloc (.cells #[.string q.name, .int .u16 q.kind, .int .u16 q.cls] 26)).alloc (.cells #[.int .u16 0, .bool false, .int .u8 0, .bool false, .bool false, .bool false, .bool false, .bool false, .bool false, .bool false, .int .u8 0, .slice none 0 0, .slice none 0 0, .slice none 0 0, .slice none 0 0, .bool false, .int .u16 0, .int .u8 0, .int .u8 0, .int .u16 0, .slice none 0 0] 41)).setRow (w3.heap.size + 1) #[.int .u16 h.id, .bool false, .int .u8 0, .bool h.aa, .bool h.tc, .bool h.rd, .bool h.ra, .bool h.z, .bool h.ad, .bool h.cd, .int .u8 h.code, .slice (some ⟨w3.heap.size, 0, none⟩) 1 1, .slice none 0 0, .slice none 0 0, .slice none 0 0, .bool false, .int .u16 0, .int .u8 0, .int .u8 0, .int .u16 0, .slice none 0 0]) = x1 at *
    generalize w3.heap.size + 1 = m1 at *
    obtain ⟨qa, hqa⟩ : ∃ v : Value, v = (.slice (some ⟨w3.heap.size, 0, none⟩) 1 1) := ⟨_, rfl⟩
    have S1 := Lib.hid (show Qs x1 qa [q] from hqa ▸ SQ.out)
    replace M1 := Lib.hid (show x1.heap[m1]? = some (.cells #[.int .u16 h.id, .bool false, .int .u8 0, .bool h.aa, .bool h.tc, .bool h.rd, .bool h.ra, .bool h.z, .bool h.ad, .bool h.cd, .int .u8 h.code, qa, .slice none 0 0, .slice none 0 0, .slice none 0 0, .bool false, .int .u16 0, .int .u8 0, .int .u8 0, .int .u16 0, .slice none 0 0] 41 (0, 0)) from hqa ▸ M1.out)
    have V1 := Lib.hid hqa
    clear SQ hqa
    have B1 := Lib.hid (show ((x1.alloc (.cells #[.string q.name, .int .u16 q.kind, .int .u16 q.cls] 26)).alloc (.cells #[.int .u16 0, .bool false, .int .u8 0, .bool false, .bool false, .bool false, .bool false, .bool false, .bool false, .bool false, .int .u8 0, .slice none 0 0, .slice none 0 0, .slice none 0 0, .slice none 0 0, .bool false, .int .u16 0, .int .u8 0, .int .u8 0, .int .u16 0, .slice none 0 0] 41)).heap[x1.heap.size + 1]? = some (.cells #[.int .u16 0, .bool false, .int .u8 0, .bool false, .bool false, .bool false, .bool false, .bool false, .bool false, .bool false, .int .u8 0, .slice none 0 0, .slice none 0 0, .slice none 0 0, .slice none 0 0, .bool false, .int .u16 0, .int .u8 0, .int .u8 0, .int .u16 0, .slice none 0 0] 41 (0, 0)) from heap_alloc2_new x1 _ _)
    have SQ := Lib.hid (show Qs (((x1.alloc (.cells #[.string q.name, .int .u16 q.kind, .int .u16 q.cls] 26)).alloc (.cells #[.int .u16 0, .bool false, .int .u8 0, .bool false, .bool false, .bool false, .bool false, .bool false, .bool false, .bool false, .int .u8 0, .slice none 0 0, .slice none 0 0, .slice none 0 0, .slice none 0 0, .bool false, .int .u16 0, .int .u8 0, .int .u8 0, .int .u16 0, .slice none 0 0] 41)).setRow (x1.heap.size + 1) #[.int .u16 g.id, .bool false, .int .u8 0, .bool g.aa, .bool g.tc, .bool g.rd, .bool g.ra, .bool g.z, .bool g.ad, .bool g.cd, .int .u8 g.code, .slice (some ⟨x1.heap.size, 0, none⟩) 1 1, .slice A l.length cap, .slice none 0 0, .slice A l.length cap, .bool true, .int .u16 ed, .int .u8 0, .int .u8 0, .int .u16 0, .slice none 0 0]) (.slice (some ⟨x1.heap.size, 0, none⟩) 1 1) [q] from (((sl_row x1 3 1 [.string q.name, .int .u16 q.kind, .int .u16 q.cls] 26 rfl).kept0 (galloc (grefl _ none) (.cells #[.int .u16 0, .bool false, .int .u8 0, .bool false, .bool false, .bool false, .bool false, .bool false, .bool false, .bool false, .int .u8 0, .slice none 0 0, .slice none 0 0, .slice none 0 0, .slice none 0 0, .bool false, .int .u16 0, .int .u8 0, .int .u8 0, .int .u16 0, .slice none 0 0] 41))).kept (grow_row _ (x1.heap.size + 1) #[.int .u16 g.id, .bool false, .int .u8 0, .bool g.aa, .bool g.tc, .bool g.rd, .bool g.ra, .bool g.z, .bool g.ad, .bool g.cd, .int .u8 g.code, .slice (some ⟨x1.heap.size, 0, none⟩) 1 1, .slice A l.length cap, .slice none 0 0, .slice A l.length cap, .bool true, .int .u16 ed, .int .u8 0, .int .u8 0, .int .u16 0, .slice none 0 0]) (fun b e => .inr (by cases e; simp [Value.ownBlock]))))
    have hg : x1.grownBy (((x1.alloc (.cells #[.string q.name, .int .u16 q.kind, .int .u16 q.cls] 26)).alloc (.cells #[.int .u16 0, .bool false, .int .u8 0, .bool false, .bool false, .bool false, .bool false, .bool false, .bool false, .bool false, .int .u8 0, .slice none 0 0, .slice none 0 0, .slice none 0 0, .slice none 0 0, .bool false, .int .u16 0, .int .u8 0, .int .u8 0, .int .u16 0, .slice none 0 0] 41)).setRow (x1.heap.size + 1) #[.int .u16 g.id, .bool false, .int .u8 0, .bool g.aa, .bool g.tc, .bool g.rd, .bool g.ra, .bool g.z, .bool g.ad, .bool g.cd, .int .u8 g.code, .slice (some ⟨x1.heap.size, 0, none⟩) 1 1, .slice A l.length cap, .slice none 0 0, .slice A l.length cap, .bool true, .int .u16 ed, .int .u8 0, .int .u8 0, .int .u16 0, .slice none 0 0]) none := gsetR (galloc (galloc (grefl _ none) _) _) (by omega) _
    have M2 := Lib.hid (bsetR B1.out #[.int .u16 g.id, .bool false, .int .u8 0, .bool g.aa, .bool g.tc, .bool g.rd, .bool g.ra, .bool g.z, .bool g.ad, .bool g.cd, .int .u8 g.code, .slice (some ⟨x1.heap.size, 0, none⟩) 1 1, .slice A l.length cap, .slice none 0 0, .slice A l.length cap, .bool true, .int .u16 ed, .int .u8 0, .int .u8 0, .int .u16 0, .slice none 0 0])
    go_upto_region 11 with (first | refine wpList_load_row rfl 24 _ rfl b7 rfl _ _ _ _ G1.out Tryd.underlying24 rfl (by kernel_rfl) ?_ | refine wpList_load_row rfl 26 _ rfl b5 rfl _ _ _ _ Q1.out Tryd.underlying26 rfl (by kernel_rfl) ?_ | refine wpList_store_row rfl 41 _ _ rfl (x1.heap.size + 1) #[.int .u16 g.id, .bool false, .int .u8 0, .bool g.aa, .bool g.tc, .bool g.rd, .bool g.ra, .bool g.z, .bool g.ad, .bool g.cd, .int .u8 g.code, .slice (some ⟨x1.heap.size, 0, none⟩) 1 1, .slice A l.length cap, .slice none 0 0, .slice A l.length cap, .bool true, .int .u16 ed, .int .u8 0, .int .u8 0, .int .u16 0, .slice none 0 0] rfl rfl 41 _ B1.out (by kernel_rfl) rfl (by kernel_rfl) ?_)
    clear B1
    have G' := Lib.hid (gtrans G.out hg)
    have Q1' := Lib.hid (gblock hg Q1.out (by simp))
    have H1' := Lib.hid (gblock hg H1.out (by simp))
    have G1' := Lib.hid (gblock hg G1.out (by simp))
    have M1' := Lib.hid (gblock hg M1.out (by simp))
    have S1' := Lib.hid (S1.out.kept hg)
    clear hg G Q1 H1 G1 M1 S1
    have G := G'
    have Q1 := Q1'
    have H1 := H1'
    have G1 := G1'
    have M1 := M1'
    have S1 := S1'
    clear G' Q1' H1' G1' M1' S1'
    generalize (((x1.alloc (.cells #[.string q.name, .int .u16 q.kind, .int .u16 q.cls] 26)).alloc (.cells #[.int .u16 0, .bool false, .int .u8 0, .bool false, .bool false, .bool false, .bool false, .bool false, .bool false, .bool false, .int .u8 0, .slice none 0 0, .slice none 0 0, .slice none 0 0, .slice none 0 0, .bool false, .int .u16 0, .int .u8 0, .int .u8 0, .int .u16 0, .slice none 0 0] 41)).setRow (x1.heap.size + 1) #[.int .u16 g.id, .bool false, .int .u8 0, .bool g.aa, .bool g.tc, .bool g.rd, .bool g.ra, .bool g.z, .bool g.ad, .bool g.cd, .int .u8 g.code, .slice (some ⟨x1.heap.size, 0, none⟩) 1 1, .slice A l.length cap, .slice none 0 0, .slice A l.length cap, .bool true, .int .u16 ed, .int .u8 0, .int .u8 0, .int .u16 0, .slice none 0 0]) = x2 at *
    generalize x1.heap.size + 1 = m2 at *
    obtain ⟨qb, hqb⟩ : ∃ v : Value, v = (.slice (some ⟨x1.heap.size, 0, none⟩) 1 1) := ⟨_, rfl⟩
    have S2 := Lib.hid (show Qs x2 qb [q] from hqb ▸ SQ.out)
    replace M2 := Lib.hid (show x2.heap[m2]? = some (.cells #[.int .u16 g.id, .bool false, .int .u8 0, .bool g.aa, .bool g.tc, .bool g.rd, .bool g.ra, .bool g.z, .bool g.ad, .bool g.cd, .int .u8 g.code, qb, .slice A l.length cap, .slice none 0 0, .slice A l.length cap, .bool true, .int .u16 ed, .int .u8 0, .int .u8 0, .int .u16 0, .slice none 0 0] 41 (0, 0)) from hqb ▸ M2.out)
    have V2 := Lib.hid hqb
    clear SQ hqb
    have HR := Lib.hid (HL.out.kept G.out)
    have RA := Lib.hid (mAl_rng (h := h) HI.out HQ.out)
    have RB := Lib.hid (mBl_rng (g := g) (l := l) (ed := ed) GI.out HQ.out (fun r hr => ⟨(HT.out r hr).1.kind, (HT.out r hr).1.cls, (HT.out r hr).1.ttl, by have := HD.out r hr; omega⟩) (by have := LL.out; omega) ED.out)
    have CE := encode_any x2 (mAl h q) qa (.slice none 0 0) (.slice none 0 0) (.slice none 0 0) (.slice none 0 0) (HE.out.kept G.out (by simp)) (HB.out.kept G.out (by simp)) ⟨S1.out, Sl.nil _ _, Sl.nil _ _, Sl.nil _ _, Sl.nil _ _⟩ RA.out
    rw [show (mAl h q).val qa (.slice none 0 0) (.slice none 0 0) (.slice none 0 0) (.slice none 0 0) = .agg #[.int .u16 h.id, .bool false, .int .u8 0, .bool h.aa, .bool h.tc, .bool h.rd, .bool h.ra, .bool h.z, .bool h.ad, .bool h.cd, .int .u8 h.code, qa, .slice none 0 0, .slice none 0 0, .slice none 0 0, .bool false, .int .u16 0, .int .u8 0, .int .u8 0, .int .u16 0, .slice none 0 0] from rfl] at CE
    have CE := Lib.hid CE
    go_wp2_with (refine wpList_load_row rfl 41 _ rfl m1 rfl _ _ _ _ M1.out Tryd.underlying41 rfl (by kernel_rfl) ?_)
    refine Calls.mono CE.out ?_
    clear CE
    rintro e w4 ⟨rfl, hg⟩
    have G' := Lib.hid (gtrans G.out hg)
    have Q1' := Lib.hid (gblock hg Q1.out (by simp))
    have H1' := Lib.hid (gblock hg H1.out (by simp))
    have G1' := Lib.hid (gblock hg G1.out (by simp))
    have M1' := Lib.hid (gblock hg M1.out (by simp))
    have M2' := Lib.hid (gblock hg M2.out (by simp))
    have S1' := Lib.hid (S1.out.kept hg)
    have S2' := Lib.hid (S2.out.kept hg)
    have HR' := Lib.hid (HR.out.kept hg)
    clear hg G Q1 H1 G1 M1 M2 S1 S2 HR
    have G := G'
    have Q1 := Q1'
    have H1 := H1'
    have G1 := G1'
    have M1 := M1'
    have M2 := M2'
    have S1 := S1'
    have S2 := S2'
    have HR := HR'
    clear G' Q1' H1' G1' M1' M2' S1' S2' HR'
    go_upto_region 12 with fail
    have CE := encode_any w4 (mBl g q l ed) qb (.slice A l.length cap) (.slice none 0 0) (.slice A l.length cap) (.slice none 0 0) (HE.out.kept G.out (by simp)) (HB.out.kept G.out (by simp)) ⟨S2.out, HR.out, Sl.nil _ _, HR.out, Sl.nil _ _⟩ RB.out
    rw [show (mBl g q l ed).val qb (.slice A l.length cap) (.slice none 0 0) (.slice A l.length cap) (.slice none 0 0) = .agg #[.int .u16 g.id, .bool false, .int .u8 0, .bool g.aa, .bool g.tc, .bool g.rd, .bool g.ra, .bool g.z, .bool g.ad, .bool g.cd, .int .u8 g.code, qb, .slice A l.length cap, .slice none 0 0, .slice A l.length cap, .bool true, .int .u16 ed, .int .u8 0, .int .u8 0, .int .u16 0, .slice none 0 0] from rfl] at CE
    have CE := Lib.hid CE
    go_wp2_with (refine wpList_load_row rfl 41 _ rfl m2 rfl _ _ _ _ M2.out Tryd.underlying41 rfl (by kernel_rfl) ?_)
    refine Calls.mono CE.out ?_
    clear CE
    rintro e w5 ⟨rfl, hg⟩
    have G' := Lib.hid (gtrans G.out hg)
    have Q1' := Lib.hid (gblock hg Q1.out (by simp))
    have H1' := Lib.hid (gblock hg H1.out (by simp))
    have G1' := Lib.hid (gblock hg G1.out (by simp))
    have M1' := Lib.hid (gblock hg M1.out (by simp))
    have M2' := Lib.hid (gblock hg M2.out (by simp))
    have S1' := Lib.hid (S1.out.kept hg)
    have S2' := Lib.hid (S2.out.kept hg)
    have HR' := Lib.hid (HR.out.kept hg)
    clear hg G Q1 H1 G1 M1 M2 S1 S2 HR
    have G := G'
    have Q1 := Q1'
    have H1 := H1'
    have G1 := G1'
    have M1 := M1'
    have M2 := M2'
    have S1 := S1'
    have S2 := S2'
    have HR := HR'
    clear G' Q1' H1' G1' M1' M2' S1' S2' HR'
    go_upto_region 13 with fail
    by_cases hA : (mAl h q).wE = 0
    case neg =>
      have d1 : (((mAl h q).wE : Int) != 0) = true := by simp; omega
      go_wp2_with fail
      go_ret
      exact ⟨rfl, G.out⟩
    have dA : (((mAl h q).wE : Int) != 0) = false := by simp; omega
    by_cases hB : (mBl g q l ed).wE = 0
    case neg =>
      have d1 : (((mBl g q l ed).wE : Int) != 0) = true := by simp; omega
      go_wp2_with fail
      go_ret
      exact ⟨rfl, G.out⟩
    have dB : (((mBl g q l ed).wE : Int) != 0) = false := by simp; omega
    go_upto_region 15 with fail
    have LA := look_of RA.out hA rfl rfl rfl rfl
    have LB := look_of RB.out hB rfl rfl rfl rfl
    have zA : (mAl h q).out.size ≤ maxLen := by have := out_ok hA; unfold maxLen; omega
    have zB : (mBl g q l ed).out.size ≤ maxLen := by have := out_ok hB; unfold maxLen; omega
    obtain ⟨K, hK⟩ : ∃ k : Nat, (if refd q = true then 2 else 3) = k := ⟨_, rfl⟩
    obtain ⟨N, hN⟩ : ∃ k : Int, (if refd q = true then 5 else 0) = k := ⟨_, rfl⟩
    rw [hK, hN] at LA LB
    replace LA : look (mAl h q).out = cAl h q K N := LA
    replace LB : look (mBl g q l ed).out = cBl g q ed K N := LB
    have CA := fun (w' : World) (g' : w.grownBy w' none) => look_any w' (mAl h q).out (HE.out.kept g' (by simp)) (HB.out.kept g' (by simp)) zA
    rw [LA] at CA
    have CA := Lib.hid (fun (w' : World) (g' : w.grownBy w' none) => show Calls Tryd.prog 14 #[.string (mAl h q).out] w' fun e w'' => e = .returned (.agg #[.int .u8 K, .int .i64 N, .int .u16 h.id, .bool false, .int .u8 0, .bool false, .bool false, .bool h.rd, .bool false, .bool false, .bool false, .bool h.cd, .int .u8 0, .bool true, .string q.name, .int .u16 q.kind, .int .u16 q.cls, .bool false, .int .i64 0]) ∧ w'.grownBy w'' none from CA w' g')
    have CB := fun (w' : World) (g' : w.grownBy w' none) => look_any w' (mBl g q l ed).out (HE.out.kept g' (by simp)) (HB.out.kept g' (by simp)) zB
    rw [LB] at CB
    have CB := Lib.hid (fun (w' : World) (g' : w.grownBy w' none) => show Calls Tryd.prog 14 #[.string (mBl g q l ed).out] w' fun e w'' => e = .returned (.agg #[.int .u8 K, .int .i64 N, .int .u16 g.id, .bool false, .int .u8 0, .bool false, .bool false, .bool g.rd, .bool false, .bool false, .bool false, .bool g.cd, .int .u8 0, .bool true, .string q.name, .int .u16 q.kind, .int .u16 q.cls, .bool true, .int .i64 ed]) ∧ w'.grownBy w'' none from CB w' g')
    have CK := Lib.hid (fun (w' : World) => show Calls Tryd.prog 11 #[.agg #[.int .u8 K, .int .i64 N, .int .u16 h.id, .bool false, .int .u8 0, .bool false, .bool false, .bool h.rd, .bool false, .bool false, .bool false, .bool h.cd, .int .u8 0, .bool true, .string q.name, .int .u16 q.kind, .int .u16 q.cls, .bool false, .int .i64 0], .int .i64 0, .int .i64 600] w' (BkPost (mRe h q) w') from blank_al h q K N ▸ blank_any w' (cAl h q K N) 0 600)
    clear LA LB zA zB hK hN hA hB dA dB
    generalize (mAl h q).out = oa at *
    generalize (mBl g q l ed).out = ob at *
    go_wp2_with fail
    refine Calls.mono (CA.out _ G.out) ?_
    rintro e w6 ⟨rfl, hg⟩
    have G' := Lib.hid (gtrans G.out hg)
    have Q1' := Lib.hid (gblock hg Q1.out (by simp))
    have H1' := Lib.hid (gblock hg H1.out (by simp))
    have G1' := Lib.hid (gblock hg G1.out (by simp))
    clear hg G Q1 H1 G1
    have G := G'
    have Q1 := Q1'
    have H1 := H1'
    have G1 := G1'
    clear G' Q1' H1' G1'
    go_wp2_with fail
    refine Calls.mono (CB.out _ G.out) ?_
    rintro e w7 ⟨rfl, hg⟩
    have G' := Lib.hid (gtrans G.out hg)
    have Q1' := Lib.hid (gblock hg Q1.out (by simp))
    have H1' := Lib.hid (gblock hg H1.out (by simp))
    have G1' := Lib.hid (gblock hg G1.out (by simp))
    clear hg G Q1 H1 G1
    have G := G'
    have Q1 := Q1'
    have H1 := H1'
    have G1 := G1'
    clear G' Q1' H1' G1'
    clear CA CB HR S1 S2 M1 M2
    have Z18 := Lib.hid (show ((w7.alloc (.cells #[.int .u8 0, .int .i64 0, .int .u16 0, .bool false, .int .u8 0, .bool false, .bool false, .bool false, .bool false, .bool false, .bool false, .bool false, .int .u8 0, .bool false, .string { data := #[] }, .int .u16 0, .int .u16 0, .bool false, .int .i64 0] 28)).alloc (.cells #[.int .u8 0, .int .i64 0, .int .u16 0, .bool false, .int .u8 0, .bool false, .bool false, .bool false, .bool false, .bool false, .bool false, .bool false, .int .u8 0, .bool false, .string { data := #[] }, .int .u16 0, .int .u16 0, .bool false, .int .i64 0] 28)).heap[w7.heap.size]? = some (.cells #[.int .u8 0, .int .i64 0, .int .u16 0, .bool false, .int .u8 0, .bool false, .bool false, .bool false, .bool false, .bool false, .bool false, .bool false, .int .u8 0, .bool false, .string { data := #[] }, .int .u16 0, .int .u16 0, .bool false, .int .i64 0] 28 (0, 0)) from heap_alloc2_old w7 _ _)
    have Z19 := Lib.hid (show (((w7.alloc (.cells #[.int .u8 0, .int .i64 0, .int .u16 0, .bool false, .int .u8 0, .bool false, .bool false, .bool false, .bool false, .bool false, .bool false, .bool false, .int .u8 0, .bool false, .string { data := #[] }, .int .u16 0, .int .u16 0, .bool false, .int .i64 0] 28)).alloc (.cells #[.int .u8 0, .int .i64 0, .int .u16 0, .bool false, .int .u8 0, .bool false, .bool false, .bool false, .bool false, .bool false, .bool false, .bool false, .int .u8 0, .bool false, .string { data := #[] }, .int .u16 0, .int .u16 0, .bool false, .int .i64 0] 28)).setRow w7.heap.size #[.int .u8 K, .int .i64 N, .int .u16 h.id, .bool false, .int .u8 0, .bool false, .bool false, .bool h.rd, .bool false, .bool false, .bool false, .bool h.cd, .int .u8 0, .bool true, .string q.name, .int .u16 q.kind, .int .u16 q.cls, .bool false, .int .i64 0]).heap[(w7.heap.size + 1)]? = some (.cells #[.int .u8 0, .int .i64 0, .int .u16 0, .bool false, .int .u8 0, .bool false, .bool false, .bool false, .bool false, .bool false, .bool false, .bool false, .int .u8 0, .bool false, .string { data := #[] }, .int .u16 0, .int .u16 0, .bool false, .int .i64 0] 28 (0, 0)) from gblock (gsetRs _ _ _) (heap_alloc2_new w7 _ _) (by simp))
    have R18 := Lib.hid (show ((((w7.alloc (.cells #[.int .u8 0, .int .i64 0, .int .u16 0, .bool false, .int .u8 0, .bool false, .bool false, .bool false, .bool false, .bool false, .bool false, .bool false, .int .u8 0, .bool false, .string { data := #[] }, .int .u16 0, .int .u16 0, .bool false, .int .i64 0] 28)).alloc (.cells #[.int .u8 0, .int .i64 0, .int .u16 0, .bool false, .int .u8 0, .bool false, .bool false, .bool false, .bool false, .bool false, .bool false, .bool false, .int .u8 0, .bool false, .string { data := #[] }, .int .u16 0, .int .u16 0, .bool false, .int .i64 0] 28)).setRow w7.heap.size #[.int .u8 K, .int .i64 N, .int .u16 h.id, .bool false, .int .u8 0, .bool false, .bool false, .bool h.rd, .bool false, .bool false, .bool false, .bool h.cd, .int .u8 0, .bool true, .string q.name, .int .u16 q.kind, .int .u16 q.cls, .bool false, .int .i64 0]).setRow (w7.heap.size + 1) #[.int .u8 K, .int .i64 N, .int .u16 g.id, .bool false, .int .u8 0, .bool false, .bool false, .bool g.rd, .bool false, .bool false, .bool false, .bool g.cd, .int .u8 0, .bool true, .string q.name, .int .u16 q.kind, .int .u16 q.cls, .bool true, .int .i64 ed]).heap[w7.heap.size]? = some (.cells #[.int .u8 K, .int .i64 N, .int .u16 h.id, .bool false, .int .u8 0, .bool false, .bool false, .bool h.rd, .bool false, .bool false, .bool false, .bool h.cd, .int .u8 0, .bool true, .string q.name, .int .u16 q.kind, .int .u16 q.cls, .bool false, .int .i64 0] 28 (0, 0)) from gblock (gsetRs _ _ _) (bsetR Z18.out _) (by simp))
    have R19 := Lib.hid (show ((((w7.alloc (.cells #[.int .u8 0, .int .i64 0, .int .u16 0, .bool false, .int .u8 0, .bool false, .bool false, .bool false, .bool false, .bool false, .bool false, .bool false, .int .u8 0, .bool false, .string { data := #[] }, .int .u16 0, .int .u16 0, .bool false, .int .i64 0] 28)).alloc (.cells #[.int .u8 0, .int .i64 0, .int .u16 0, .bool false, .int .u8 0, .bool false, .bool false, .bool false, .bool false, .bool false, .bool false, .bool false, .int .u8 0, .bool false, .string { data := #[] }, .int .u16 0, .int .u16 0, .bool false, .int .i64 0] 28)).setRow w7.heap.size #[.int .u8 K, .int .i64 N, .int .u16 h.id, .bool false, .int .u8 0, .bool false, .bool false, .bool h.rd, .bool false, .bool false, .bool false, .bool h.cd, .int .u8 0, .bool true, .string q.name, .int .u16 q.kind, .int .u16 q.cls, .bool false, .int .i64 0]).setRow (w7.heap.size + 1) #[.int .u8 K, .int .i64 N, .int .u16 g.id, .bool false, .int .u8 0, .bool false, .bool false, .bool g.rd, .bool false, .bool false, .bool false, .bool g.cd, .int .u8 0, .bool true, .string q.name, .int .u16 q.kind, .int .u16 q.cls, .bool true, .int .i64 ed]).heap[(w7.heap.size + 1)]? = some (.cells #[.int .u8 K, .int .i64 N, .int .u16 g.id, .bool false, .int .u8 0, .bool false, .bool false, .bool g.rd, .bool false, .bool false, .bool false, .bool g.cd, .int .u8 0, .bool true, .string q.name, .int .u16 q.kind, .int .u16 q.cls, .bool true, .int .i64 ed] 28 (0, 0)) from bsetR Z19.out _)
    have hg : w7.grownBy ((((w7.alloc (.cells #[.int .u8 0, .int .i64 0, .int .u16 0, .bool false, .int .u8 0, .bool false, .bool false, .bool false, .bool false, .bool false, .bool false, .bool false, .int .u8 0, .bool false, .string { data := #[] }, .int .u16 0, .int .u16 0, .bool false, .int .i64 0] 28)).alloc (.cells #[.int .u8 0, .int .i64 0, .int .u16 0, .bool false, .int .u8 0, .bool false, .bool false, .bool false, .bool false, .bool false, .bool false, .bool false, .int .u8 0, .bool false, .string { data := #[] }, .int .u16 0, .int .u16 0, .bool false, .int .i64 0] 28)).setRow w7.heap.size #[.int .u8 K, .int .i64 N, .int .u16 h.id, .bool false, .int .u8 0, .bool false, .bool false, .bool h.rd, .bool false, .bool false, .bool false, .bool h.cd, .int .u8 0, .bool true, .string q.name, .int .u16 q.kind, .int .u16 q.cls, .bool false, .int .i64 0]).setRow (w7.heap.size + 1) #[.int .u8 K, .int .i64 N, .int .u16 g.id, .bool false, .int .u8 0, .bool false, .bool false, .bool g.rd, .bool false, .bool false, .bool false, .bool g.cd, .int .u8 0, .bool true, .string q.name, .int .u16 q.kind, .int .u16 q.cls, .bool true, .int .i64 ed]) none := gsetR (gsetR (galloc (galloc (grefl _ none) _) _) (Nat.le_refl _) _) (by omega) _
    have G' := Lib.hid (gtrans G.out hg)
    have Q1' := Lib.hid (gblock hg Q1.out (by simp))
    have H1' := Lib.hid (gblock hg H1.out (by simp))
    have G1' := Lib.hid (gblock hg G1.out (by simp))
    clear hg G Q1 H1 G1
    have G := G'
    have Q1 := Q1'
    have H1 := H1'
    have G1 := G1'
    clear G' Q1' H1' G1'
    go_upto_region 16 with (first | refine wpList_store_row rfl 28 _ _ rfl w7.heap.size #[.int .u8 K, .int .i64 N, .int .u16 h.id, .bool false, .int .u8 0, .bool false, .bool false, .bool h.rd, .bool false, .bool false, .bool false, .bool h.cd, .int .u8 0, .bool true, .string q.name, .int .u16 q.kind, .int .u16 q.cls, .bool false, .int .i64 0] rfl rfl 28 _ Z18.out (by kernel_rfl) rfl (by kernel_rfl) ?_ | refine wpList_store_row rfl 28 _ _ rfl (w7.heap.size + 1) #[.int .u8 K, .int .i64 N, .int .u16 g.id, .bool false, .int .u8 0, .bool false, .bool false, .bool g.rd, .bool false, .bool false, .bool false, .bool g.cd, .int .u8 0, .bool true, .string q.name, .int .u16 q.kind, .int .u16 q.cls, .bool true, .int .i64 ed] rfl rfl 28 _ Z19.out (by kernel_rfl) rfl (by kernel_rfl) ?_)
    clear Z18 Z19
    generalize ((((w7.alloc (.cells #[.int .u8 0, .int .i64 0, .int .u16 0, .bool false, .int .u8 0, .bool false, .bool false, .bool false, .bool false, .bool false, .bool false, .bool false, .int .u8 0, .bool false, .string { data := #[] }, .int .u16 0, .int .u16 0, .bool false, .int .i64 0] 28)).alloc (.cells #[.int .u8 0, .int .i64 0, .int .u16 0, .bool false, .int .u8 0, .bool false, .bool false, .bool false, .bool false, .bool false, .bool false, .bool false, .int .u8 0, .bool false, .string { data := #[] }, .int .u16 0, .int .u16 0, .bool false, .int .i64 0] 28)).setRow w7.heap.size #[.int .u8 K, .int .i64 N, .int .u16 h.id, .bool false, .int .u8 0, .bool false, .bool false, .bool h.rd, .bool false, .bool false, .bool false, .bool h.cd, .int .u8 0, .bool true, .string q.name, .int .u16 q.kind, .int .u16 q.cls, .bool false, .int .i64 0]).setRow (w7.heap.size + 1) #[.int .u8 K, .int .i64 N, .int .u16 g.id, .bool false, .int .u8 0, .bool false, .bool false, .bool g.rd, .bool false, .bool false, .bool false, .bool g.cd, .int .u8 0, .bool true, .string q.name, .int .u16 q.kind, .int .u16 q.cls, .bool true, .int .i64 ed]) = w8 at *
    generalize w7.heap.size + 1 = p19 at *
    generalize w7.heap.size = p18 at *
    have hw : wrap64 (ed : Int) = ed := by have := ED.out; unfold wrap64; omega
    have hg : w8.grownBy w8.drew none := gdrew (grefl _ none)
    refine wp_region_trH w8.drew.heap.size (.quiet [0, 1, 2, 3, 4, 5, 6, 7, 8, 9, 10, 11, 12, 13, 14, 15, 16, 17, 18, 19, 20, 21, 22, 23, 24, 25, 26, 27, 28, 29, 30, 31] (.quiet [32, 33, 34, 35, 36, 37, 38, 39, 40, 41, 42, 43, 44, 45, 46, 47, 48, 49, 50, 51, 52, 53, 54, 55, 56, 57, 58, 59, 60, 61, 62] (.quiet [63, 64, 65, 67, 68, 69, 70, 71, 72, 73, 74] (.two 66 (.one 75 (.quiet [76] (.one 77 (.quiet [78, 79] .done)))) 75 (.quiet [76] (.one 66 (.one 77 (.quiet [78, 79] .done)))))))) (by kernel_rfl) (by kernel_rfl) ?_
    have G' := Lib.hid (gtrans G.out hg)
    have Q1' := Lib.hid (gblock hg Q1.out (by simp))
    have H1' := Lib.hid (gblock hg H1.out (by simp))
    have G1' := Lib.hid (gblock hg G1.out (by simp))
    have R18' := Lib.hid (gblock hg R18.out (by simp))
    have R19' := Lib.hid (gblock hg R19.out (by simp))
    clear hg G Q1 H1 G1 R18 R19
    have G := G'
    have Q1 := Q1'
    have H1 := H1'
    have G1 := G1'
    have R18 := R18'
    have R19 := R19'
    clear G' Q1' H1' G1' R18' R19'
    generalize w8.drew = wd at *
    have GW := Lib.hid (grefl wd none)
    have x0 : ∀ gg : GrB wd.heap.size wd, gg.w.cell? ⟨p18, 0, none⟩ = some (.int .u8 K) := GrB.cell (bcellAt R18.out 0) (blt R18.out)
    have x1 : ∀ gg : GrB wd.heap.size wd, gg.w.cell? ⟨p18, 1, none⟩ = some (.int .i64 N) := GrB.cell (bcellAt R18.out 1) (blt R18.out)
    have x2 : ∀ gg : GrB wd.heap.size wd, gg.w.cell? ⟨p18, 2, none⟩ = some (.int .u16 h.id) := GrB.cell (bcellAt R18.out 2) (blt R18.out)
    have x13 : ∀ gg : GrB wd.heap.size wd, gg.w.cell? ⟨p18, 13, none⟩ = some (.bool true) := GrB.cell (bcellAt R18.out 13) (blt R18.out)
    have x14 : ∀ gg : GrB wd.heap.size wd, gg.w.cell? ⟨p18, 14, none⟩ = some (.string q.name) := GrB.cell (bcellAt R18.out 14) (blt R18.out)
    have x15 : ∀ gg : GrB wd.heap.size wd, gg.w.cell? ⟨p18, 15, none⟩ = some (.int .u16 q.kind) := GrB.cell (bcellAt R18.out 15) (blt R18.out)
    have x16 : ∀ gg : GrB wd.heap.size wd, gg.w.cell? ⟨p18, 16, none⟩ = some (.int .u16 q.cls) := GrB.cell (bcellAt R18.out 16) (blt R18.out)
    have x17 : ∀ gg : GrB wd.heap.size wd, gg.w.cell? ⟨p18, 17, none⟩ = some (.bool false) := GrB.cell (bcellAt R18.out 17) (blt R18.out)
    have y0 : ∀ gg : GrB wd.heap.size wd, gg.w.cell? ⟨p19, 0, none⟩ = some (.int .u8 K) := GrB.cell (bcellAt R19.out 0) (blt R19.out)
    have y1 : ∀ gg : GrB wd.heap.size wd, gg.w.cell? ⟨p19, 1, none⟩ = some (.int .i64 N) := GrB.cell (bcellAt R19.out 1) (blt R19.out)
    have y2 : ∀ gg : GrB wd.heap.size wd, gg.w.cell? ⟨p19, 2, none⟩ = some (.int .u16 g.id) := GrB.cell (bcellAt R19.out 2) (blt R19.out)
    have y13 : ∀ gg : GrB wd.heap.size wd, gg.w.cell? ⟨p19, 13, none⟩ = some (.bool true) := GrB.cell (bcellAt R19.out 13) (blt R19.out)
    have y14 : ∀ gg : GrB wd.heap.size wd, gg.w.cell? ⟨p19, 14, none⟩ = some (.string q.name) := GrB.cell (bcellAt R19.out 14) (blt R19.out)
    have y15 : ∀ gg : GrB wd.heap.size wd, gg.w.cell? ⟨p19, 15, none⟩ = some (.int .u16 q.kind) := GrB.cell (bcellAt R19.out 15) (blt R19.out)
    have y16 : ∀ gg : GrB wd.heap.size wd, gg.w.cell? ⟨p19, 16, none⟩ = some (.int .u16 q.cls) := GrB.cell (bcellAt R19.out 16) (blt R19.out)
    have y17 : ∀ gg : GrB wd.heap.size wd, gg.w.cell? ⟨p19, 17, none⟩ = some (.bool true) := GrB.cell (bcellAt R19.out 17) (blt R19.out)
    have y18 : ∀ gg : GrB wd.heap.size wd, gg.w.cell? ⟨p19, 18, none⟩ = some (.int .i64 ed) := GrB.cell (bcellAt R19.out 18) (blt R19.out)
    have q0 : ∀ gg : GrB wd.heap.size wd, gg.w.cell? ⟨b5, 0, none⟩ = some (.string q.name) := GrB.cell (bcellAt Q1.out 0) (blt Q1.out)
    have q1 : ∀ gg : GrB wd.heap.size wd, gg.w.cell? ⟨b5, 1, none⟩ = some (.int .u16 q.kind) := GrB.cell (bcellAt Q1.out 1) (blt Q1.out)
    have q2 : ∀ gg : GrB wd.heap.size wd, gg.w.cell? ⟨b5, 2, none⟩ = some (.int .u16 q.cls) := GrB.cell (bcellAt Q1.out 2) (blt Q1.out)
    have u0 : ∀ gg : GrB wd.heap.size wd, gg.w.cell? ⟨b6, 0, none⟩ = some (.int .u16 h.id) := GrB.cell (bcellAt H1.out 0) (blt H1.out)
    have u5 : ∀ gg : GrB wd.heap.size wd, gg.w.cell? ⟨b6, 5, none⟩ = some (.bool h.rd) := GrB.cell (bcellAt H1.out 5) (blt H1.out)
    have u9 : ∀ gg : GrB wd.heap.size wd, gg.w.cell? ⟨b6, 9, none⟩ = some (.bool h.cd) := GrB.cell (bcellAt H1.out 9) (blt H1.out)
    have v0 : ∀ gg : GrB wd.heap.size wd, gg.w.cell? ⟨b7, 0, none⟩ = some (.int .u16 g.id) := GrB.cell (bcellAt G1.out 0) (blt G1.out)
    have L18 := Lib.hid (fun (w' : World) (hh : ∃ gg : GrB wd.heap.size wd, w' = gg.w) => (by obtain ⟨gg, rfl⟩ := hh; exact (gg.h.block p18 (blt R18.out)).trans R18.out : w'.heap[p18]? = some (.cells #[.int .u8 K, .int .i64 N, .int .u16 h.id, .bool false, .int .u8 0, .bool false, .bool false, .bool h.rd, .bool false, .bool false, .bool false, .bool h.cd, .int .u8 0, .bool true, .string q.name, .int .u16 q.kind, .int .u16 q.cls, .bool false, .int .i64 0] 28 (0, 0))))
    simp only [List.append_eq, List.cons_append, List.nil_append, Act.put]
    refine wpTr_quiet rfl ?_
    simp only [List.filterMap_cons, List.filterMap_nil, List.getElem?_toArray, List.getElem?_cons_succ, List.getElem?_cons_zero]
    show wpQuiet _ _ _ _ [_, _, _, _, _, _, _, _, _, _, _, _, _, _, _, _, _, _, _, _, _, _, _, _, _, _, _, _, _, _, _, _] _
    repeat (go_big_quiet_step (fail))
    refine wpQuiet_nil ?_
    refine wpTr_quiet rfl ?_
    simp only [List.filterMap_cons, List.filterMap_nil, List.getElem?_toArray, List.getElem?_cons_succ, List.getElem?_cons_zero]
    show wpQuiet _ _ _ _ [_, _, _, _, _, _, _, _, _, _, _, _, _, _, _, _, _, _, _, _, _, _, _, _, _, _, _, _, _, _, _] _
    repeat (go_big_quiet_step (fail))
    refine wpQuiet_nil ?_
    refine wpTr_quiet rfl ?_
    simp only [List.filterMap_cons, List.filterMap_nil, List.getElem?_toArray, List.getElem?_cons_succ, List.getElem?_cons_zero]
    show wpQuiet _ _ _ _ [_, _, _, _, _, _, _, _, _, _, _] _
    go_big_quiet_step (fail)
    go_big_quiet_step (fail)
    refine wpQuiet_load_row rfl 28 _ rfl p18 rfl _ _ _ _ L18.out Tryd.underlying28 rfl (by kernel_rfl) ?_
    simp only [Act.put, List.setIfInBounds_toArray, List.set_cons_succ, List.set_cons_zero]
    repeat (go_big_quiet_step (fail))
    refine wpQuiet_nil ?_
    clear L18 hw x0 x1 x2 x13 x14 x15 x16 x17 y0 y1 y2 y13 y14 y15 y16 y17 y18 q0 q1 q2 u0 u5 u9 v0
    refine wpTr_two (by simp only [List.getElem?_toArray, List.getElem?_cons_succ, List.getElem?_cons_zero]; exact rfl) (by simp only [List.getElem?_toArray, List.getElem?_cons_succ, List.getElem?_cons_zero]; exact rfl) ?_ ?_
    · skip
      have X0 := Lib.hid (grefl wd none)
      go_wp2_with fail
      refine Calls.mono (CK.out _) ?_
      rintro e z01 ⟨hg, vq, rfl, hf⟩
      have HF := Lib.hid hf.v
      clear hf
      go_wp2_with fail
      have hk := hg
      have hkb := KB.of hk X0.out.size
      refine ⟨hkb, ?_⟩
      clear hkb
      have X1 := Lib.hid (gtrans X0.out hk)
      clear X0
      have X0 := X1
      clear X1
      clear hk hg
      refine wpTr_one (by simp only [List.getElem?_toArray, List.getElem?_cons_succ, List.getElem?_cons_zero]; exact rfl) ?_
      go_wp2_with fail
      have hk : z01.grownBy (z01.alloc (.cells #[.string q.name, .int .u16 q.kind, .int .u16 q.cls] 26)) none := galloc (grefl _ none) _
      have SQ := Lib.hid (show Qs (z01.alloc (.cells #[.string q.name, .int .u16 q.kind, .int .u16 q.cls] 26)) (.slice (some ⟨z01.heap.size, 0, none⟩) 1 1) [q] from sl_row z01 3 1 [.string q.name, .int .u16 q.kind, .int .u16 q.cls] 26 rfl)
      have hkb := KB.of hk X0.out.size
      refine ⟨hkb, ?_⟩
      clear hkb
      have X1 := Lib.hid (gtrans X0.out hk)
      have HF := Lib.hid (HF.out.kept hk)
      clear X0
      have X0 := X1
      clear X1
      clear hk
      generalize (z01.alloc (.cells #[.string q.name, .int .u16 q.kind, .int .u16 q.cls] 26)) = z02 at *
      obtain ⟨aq, haq⟩ : ∃ k : Nat, k = z01.heap.size := ⟨_, rfl⟩
      rw [← haq] at SQ ⊢
      clear haq
      refine wpTr_quiet rfl ?_
      simp only [List.filterMap_cons, List.filterMap_nil, List.getElem?_toArray, List.getElem?_cons_succ, List.getElem?_cons_zero]
      show wpQuiet _ _ _ _ [_] _
      go_big_quiet_step (fail)
      refine wpQuiet_nil ?_
      have SM := rfsame_any z02 (mRe h q) (mRe h q) vq (.slice none 0 0) (.slice none 0 0) (.slice none 0 0) (.slice none 0 0) (.slice (some ⟨aq, 0, none⟩) 1 1) (.slice none 0 0) (.slice none 0 0) (.slice none 0 0) (.slice none 0 0) HF.out ⟨SQ.out, Sl.nil _ _, Sl.nil _ _, Sl.nil _ _, Sl.nil _ _⟩ (by show (1 : Nat) ≤ 1000000; decide) (Nat.zero_le _) (Nat.zero_le _) (Nat.zero_le _) (Nat.zero_le _)
      rw [decide_eq_true (rfl : mRe h q = mRe h q)] at SM
      rw [show (mRe h q).val (.slice (some ⟨aq, 0, none⟩) 1 1) (.slice none 0 0) (.slice none 0 0) (.slice none 0 0) (.slice none 0 0) = .agg #[.int .u16 h.id, .bool true, .int .u8 0, .bool false, .bool false, .bool h.rd, .bool true, .bool false, .bool false, .bool h.cd, .int .u8 0, .slice (some ⟨aq, 0, none⟩) 1 1, .slice none 0 0, .slice none 0 0, .slice none 0 0, .bool false, .int .u16 0, .int .u8 0, .int .u8 0, .int .u16 0, .slice none 0 0] from rfl] at SM
      have SM := Lib.hid SM
      refine wpTr_one (by simp only [List.getElem?_toArray, List.getElem?_cons_succ, List.getElem?_cons_zero]; exact rfl) ?_
      go_wp2_with fail
      refine Calls.mono SM.out ?_
      clear SM
      rintro e zf ⟨rfl, hg⟩
      go_wp2_with fail
      refine ⟨KB.of hg X0.out.size, ?_⟩
      have G' := Lib.hid (gtrans G.out (gtrans X0.out hg))
      refine wpTr_quiet rfl ?_
      simp only [List.filterMap_cons, List.filterMap_nil, List.getElem?_toArray, List.getElem?_cons_succ, List.getElem?_cons_zero]
      show wpQuiet _ _ _ _ [_, _] _
      repeat (go_big_quiet_step (fail))
      refine wpQuiet_nil ?_
      refine wpTr_done ?_
      go_wp2_with fail
      go_ret
      exact ⟨rfl, G'.out⟩
    · skip
      have X0 := Lib.hid (grefl wd none)
      go_wp2_with fail
      have hk : wd.grownBy (wd.alloc (.cells #[.string q.name, .int .u16 q.kind, .int .u16 q.cls] 26)) none := galloc (grefl _ none) _
      have SQ := Lib.hid (show Qs (wd.alloc (.cells #[.string q.name, .int .u16 q.kind, .int .u16 q.cls] 26)) (.slice (some ⟨wd.heap.size, 0, none⟩) 1 1) [q] from sl_row wd 3 1 [.string q.name, .int .u16 q.kind, .int .u16 q.cls] 26 rfl)
      have hkb := KB.of hk X0.out.size
      refine ⟨hkb, ?_⟩
      clear hkb
      have X1 := Lib.hid (gtrans X0.out hk)
      clear X0
      have X0 := X1
      clear X1
      clear hk
      generalize (wd.alloc (.cells #[.string q.name, .int .u16 q.kind, .int .u16 q.cls] 26)) = z11 at *
      refine wpTr_quiet rfl ?_
      simp only [List.filterMap_cons, List.filterMap_nil, List.getElem?_toArray, List.getElem?_cons_succ, List.getElem?_cons_zero]
      show wpQuiet _ _ _ _ [_] _
      go_big_quiet_step (fail)
      refine wpQuiet_nil ?_
      refine wpTr_one (by simp only [List.getElem?_toArray, List.getElem?_cons_succ, List.getElem?_cons_zero]; exact rfl) ?_
      go_wp2_with fail
      refine Calls.mono (CK.out _) ?_
      rintro e z12 ⟨hg, vq, rfl, hf⟩
      have HF := Lib.hid hf.v
      clear hf
      go_wp2_with fail
      have hk := hg
      have hkb := KB.of hk X0.out.size
      refine ⟨hkb, ?_⟩
      clear hkb
      have X1 := Lib.hid (gtrans X0.out hk)
      have SQ := Lib.hid (SQ.out.kept hk)
      clear X0
      have X0 := X1
      clear X1
      clear hk hg
      have SM := rfsame_any z12 (mRe h q) (mRe h q) vq (.slice none 0 0) (.slice none 0 0) (.slice none 0 0) (.slice none 0 0) (.slice (some ⟨wd.heap.size, 0, none⟩) 1 1) (.slice none 0 0) (.slice none 0 0) (.slice none 0 0) (.slice none 0 0) HF.out ⟨SQ.out, Sl.nil _ _, Sl.nil _ _, Sl.nil _ _, Sl.nil _ _⟩ (by show (1 : Nat) ≤ 1000000; decide) (Nat.zero_le _) (Nat.zero_le _) (Nat.zero_le _) (Nat.zero_le _)
      rw [decide_eq_true (rfl : mRe h q = mRe h q)] at SM
      rw [show (mRe h q).val (.slice (some ⟨wd.heap.size, 0, none⟩) 1 1) (.slice none 0 0) (.slice none 0 0) (.slice none 0 0) (.slice none 0 0) = .agg #[.int .u16 h.id, .bool true, .int .u8 0, .bool false, .bool false, .bool h.rd, .bool true, .bool false, .bool false, .bool h.cd, .int .u8 0, .slice (some ⟨wd.heap.size, 0, none⟩) 1 1, .slice none 0 0, .slice none 0 0, .slice none 0 0, .bool false, .int .u16 0, .int .u8 0, .int .u8 0, .int .u16 0, .slice none 0 0] from rfl] at SM
      have SM := Lib.hid SM
      refine wpTr_one (by simp only [List.getElem?_toArray, List.getElem?_cons_succ, List.getElem?_cons_zero]; exact rfl) ?_
      go_wp2_with fail
      refine Calls.mono SM.out ?_
      clear SM
      rintro e zf ⟨rfl, hg⟩
      go_wp2_with fail
      refine ⟨KB.of hg X0.out.size, ?_⟩
      have G' := Lib.hid (gtrans G.out (gtrans X0.out hg))
      refine wpTr_quiet rfl ?_
      simp only [List.filterMap_cons, List.filterMap_nil, List.getElem?_toArray, List.getElem?_cons_succ, List.getElem?_cons_zero]
      show wpQuiet _ _ _ _ [_, _] _
      repeat (go_big_quiet_step (fail))
      refine wpQuiet_nil ?_
      refine wpTr_done ?_
      go_wp2_with fail
      go_ret
      exact ⟨rfl, G'.out⟩
end Go.Proofs.YtoncjhjnmomecaaDoor
