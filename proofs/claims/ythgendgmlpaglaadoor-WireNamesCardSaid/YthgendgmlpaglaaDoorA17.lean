/-
  Wire: the deferred closures of Encode, Size.
  Wire: Encode, Size.
-/
import Derived.Test.YthgendgmlpaglaaDoorWiL
import Derived.Test.YthgendgmlpaglaaDoorA12
namespace Go.Proofs.YthgendgmlpaglaaDoor
open Go.RowKit

/-- What such a closure leaves behind a panic: two variables have been set. -/
def CloPost (p q : Nat) (x y : Value) (w : World) (e : Ending) (w' : World) : Prop :=
  e = .returned (.tuple #[]) ∧ ∃ wm, w.grownBy wm none ∧ w' = ((wm.setCell ⟨p, 0, none⟩ x).setCell ⟨q, 0, none⟩ y).drew
theorem ta_yes (k : Int) (w : World) : (Instr.typeAssert (fault k) 20 49 true).run Tryd.prog w = .ok (.tuple #[.agg #[.int .i64 k], .bool true]) w := by kernel_rfl
theorem ta_no (w : World) : (Instr.typeAssert .nilIface 20 49 true).run Tryd.prog w = .ok (.tuple #[.agg #[.int .i64 0], .bool false]) w := by kernel_rfl

set_option maxRecDepth 100000 in
set_option maxHeartbeats 2000000 in
theorem enc1_bad (p q : Nat) (k : Int) (t1 t2 : TypeId) (w : World) (x y : Value) (hp : w.heap[p]? = some (.cells #[x] t1 (0, 0))) (hq : w.heap[q]? = some (.cells #[y] t2 (0, 0))) (hne : p ≠ q) :
    CallsD Tryd.prog 19 #[.pointer (some ⟨p, 0, none⟩), .pointer (some ⟨q, 0, none⟩)] (.panicking [{ v := fault k, recovered := false }]) w fun e u' w' =>
      u' = .panicking [{ v := fault k, recovered := true }] ∧ CloPost p q (.string ByteArray.empty) (.int .i64 k) w e w' := by
  have hta := ta_yes k w
  refine callsD_recover Tryd.func19 rfl rfl (fun _ _ => rfl) (.inl ⟨[], rfl, rfl⟩) ?_
  simp only [Act.put]
  show wpList _ _ _ _ { tmps := #[.pointer (some ⟨p, 0, none⟩), .pointer (some ⟨q, 0, none⟩), undef, undef, undef, fault k, undef, undef, undef, undef, undef, undef], defers := [] } w
  go_wp2_with fail
  have lp := blt hp
  have lq := blt hq
  have g1 := galloc (grefl w none) (.cells #[.int .i64 k] 49)
  have p0 := bcellAt (gblock g1 hp (by simp)) 0
  have q0 := bcellAt (gblock g1 hq (by simp)) 0
  have pf := bfree (gblock g1 hp (by simp)) 0
  have qf := bfree (gblock g1 hq (by simp)) 0
  have n0 := bcellAt (balloc w (.cells #[.int .i64 k] 49)) 0
  generalize w.alloc (.cells #[.int .i64 k] 49) = w1 at *
  have hn : w.heap.size ≠ p := by omega
  have hm : w.heap.size ≠ q := by omega
  have G1 := Lib.hid g1
  generalize w.heap.size = nb at *
  clear g1
  go_region
  go_end0
  exact ⟨rfl, _, G1.out, rfl⟩
set_option maxRecDepth 100000 in
set_option maxHeartbeats 2000000 in
theorem enc1_idle (p q : Value) (w : World) :
    CallsD Tryd.prog 19 #[p, q] .returning w fun e u' w' =>
      u' = .returning ∧ e = .returned (.tuple #[]) ∧ w.grownBy w' none := by
  have hta := ta_no w
  refine callsD_recover Tryd.func19 rfl rfl (fun _ _ => rfl) (.inr ⟨rfl, rfl, rfl⟩) ?_
  simp only [Act.put]
  show wpList _ _ _ _ { tmps := #[p, q, undef, undef, undef, .nilIface, undef, undef, undef, undef, undef, undef], defers := [] } w
  go_wp2_with fail
  go_end0
  exact ⟨rfl, galloc (grefl w none) _⟩

set_option maxRecDepth 100000 in
set_option maxHeartbeats 2000000 in
theorem siz1_bad (p q : Nat) (k : Int) (t1 t2 : TypeId) (w : World) (x y : Value) (hp : w.heap[p]? = some (.cells #[x] t1 (0, 0))) (hq : w.heap[q]? = some (.cells #[y] t2 (0, 0))) (hne : p ≠ q) :
    CallsD Tryd.prog 29 #[.pointer (some ⟨p, 0, none⟩), .pointer (some ⟨q, 0, none⟩)] (.panicking [{ v := fault k, recovered := false }]) w fun e u' w' =>
      u' = .panicking [{ v := fault k, recovered := true }] ∧ CloPost p q (.int .i64 0) (.int .i64 k) w e w' := by
  have hta := ta_yes k w
  refine callsD_recover Tryd.func29 rfl rfl (fun _ _ => rfl) (.inl ⟨[], rfl, rfl⟩) ?_
  simp only [Act.put]
  show wpList _ _ _ _ { tmps := #[.pointer (some ⟨p, 0, none⟩), .pointer (some ⟨q, 0, none⟩), undef, undef, undef, fault k, undef, undef, undef, undef, undef, undef], defers := [] } w
  go_wp2_with fail
  have lp := blt hp
  have lq := blt hq
  have g1 := galloc (grefl w none) (.cells #[.int .i64 k] 49)
  have p0 := bcellAt (gblock g1 hp (by simp)) 0
  have q0 := bcellAt (gblock g1 hq (by simp)) 0
  have pf := bfree (gblock g1 hp (by simp)) 0
  have qf := bfree (gblock g1 hq (by simp)) 0
  have n0 := bcellAt (balloc w (.cells #[.int .i64 k] 49)) 0
  generalize w.alloc (.cells #[.int .i64 k] 49) = w1 at *
  have hn : w.heap.size ≠ p := by omega
  have hm : w.heap.size ≠ q := by omega
  have G1 := Lib.hid g1
  generalize w.heap.size = nb at *
  clear g1
  go_region
  go_end0
  exact ⟨rfl, _, G1.out, rfl⟩
set_option maxRecDepth 100000 in
set_option maxHeartbeats 2000000 in
theorem siz1_idle (p q : Value) (w : World) :
    CallsD Tryd.prog 29 #[p, q] .returning w fun e u' w' =>
      u' = .returning ∧ e = .returned (.tuple #[]) ∧ w.grownBy w' none := by
  have hta := ta_no w
  refine callsD_recover Tryd.func29 rfl rfl (fun _ _ => rfl) (.inr ⟨rfl, rfl, rfl⟩) ?_
  simp only [Act.put]
  show wpList _ _ _ _ { tmps := #[p, q, undef, undef, undef, .nilIface, undef, undef, undef, undef, undef, undef], defers := [] } w
  go_wp2_with fail
  go_end0
  exact ⟨rfl, galloc (grefl w none) _⟩
end Go.Proofs.YthgendgmlpaglaaDoor
namespace Go.Proofs.YthgendgmlpaglaaDoor
open Go.RowKit

def Ms.out (m : Ms) : ByteArray := if m.wE = 0 then ⟨m.s5.1.toArray⟩ else ByteArray.empty
def Ms.num (m : Ms) : Nat := if m.wE = 0 then m.s5.1.length else 0
theorem gset2 {w0 w : World} {p : Addr} {v : Value} (g : w0.grownBy w none) (h : w0.heap.size ≤ p.block) : w0.grownBy (w.setCell p v) none := gset g (.inr h) _
theorem set_two {w : World} {p q : Nat} {x y : Value} {t1 t2 : TypeId} {z1 z2 : Nat × Nat} (hp : w.heap[p]? = some (.cells #[x] t1 z1)) (hq : w.heap[q]? = some (.cells #[y] t2 z2)) (hne : p ≠ q) (x' y' : Value) :
    ((w.setCell ⟨p, 0, none⟩ x').setCell ⟨q, 0, none⟩ y').heap[p]? = some (.cells #[x'] t1 z1) ∧ ((w.setCell ⟨p, 0, none⟩ x').setCell ⟨q, 0, none⟩ y').heap[q]? = some (.cells #[y'] t2 z2) := by
  have g1 : w.grownBy (w.setCell ⟨p, 0, none⟩ x') (some p) := gset (grefl w _) (p := ⟨p, 0, none⟩) (.inl rfl) _
  have g2 : (w.setCell ⟨p, 0, none⟩ x').grownBy ((w.setCell ⟨p, 0, none⟩ x').setCell ⟨q, 0, none⟩ y') (some q) := gset (grefl _ _) (p := ⟨q, 0, none⟩) (.inl rfl) _
  have h1 := bset hp 0 x'
  have h2 := gblock g1 hq (by simpa using fun e => hne e.symm)
  exact ⟨gblock g2 h1 (by simpa using hne), bset h2 0 y'⟩

set_option maxRecDepth 100000 in
set_option maxHeartbeats 4000000 in
theorem encode_any (w : World) (m : Ms) (vq va vu vx vo : Value) (he : Et w) (hb : Bt w) (hv : MsV w m vq va vu vx vo) (hr : m.rng) :
    Calls Tryd.prog 9 #[m.val vq va vu vx vo] w fun e w' => e = .returned (.tuple #[.string m.out, .int .i64 m.wE]) ∧ w.grownBy w' none := by
  have hmf : ∀ (fn : Fn) (first cap : Array Value) (w : World), (Instr.makeFunc fn first cap).run Tryd.prog w = .ok (.func fn first cap) w := fun _ _ _ _ => rfl
  have WW := Lib.hid (fun (w' : World) (g : w.grownBy w' none) => wwrite_any w' m vq va vu vx vo (he.kept g (by simp)) (hb.kept g (by simp)) (hv.kept g) hr)
  clear he hb hv hr
  unfold Ms.val at WW ⊢
  go_enter_defers Tryd.func9, Tryd.ntmps9
  have GA := Lib.hid (galloc (galloc (galloc (grefl w none) (.cells #[.int .u16 m.h.id, .bool m.h.qr, .int .u8 m.h.op, .bool m.h.aa, .bool m.h.tc, .bool m.h.rd, .bool m.h.ra, .bool m.h.z, .bool m.h.ad, .bool m.h.cd, .int .u8 m.h.code, vq, va, vu, vx, .bool m.has, .int .u16 m.sz, .int .u8 m.e, .int .u8 m.v, .int .u16 m.f, vo] 37)) (.cells #[.string { data := #[] }] 9)) (.cells #[.int .i64 0] 23))
  have BA := Lib.hid (gblock (galloc (galloc (grefl (w.alloc (.cells #[.int .u16 m.h.id, .bool m.h.qr, .int .u8 m.h.op, .bool m.h.aa, .bool m.h.tc, .bool m.h.rd, .bool m.h.ra, .bool m.h.z, .bool m.h.ad, .bool m.h.cd, .int .u8 m.h.code, vq, va, vu, vx, .bool m.has, .int .u16 m.sz, .int .u8 m.e, .int .u8 m.v, .int .u16 m.f, vo] 37)) none) (.cells #[.string { data := #[] }] 9)) (.cells #[.int .i64 0] 23)) (balloc w (.cells #[.int .u16 m.h.id, .bool m.h.qr, .int .u8 m.h.op, .bool m.h.aa, .bool m.h.tc, .bool m.h.rd, .bool m.h.ra, .bool m.h.z, .bool m.h.ad, .bool m.h.cd, .int .u8 m.h.code, vq, va, vu, vx, .bool m.has, .int .u16 m.sz, .int .u8 m.e, .int .u8 m.v, .int .u16 m.f, vo] 37)) (by simp))
  have BP := Lib.hid (gblock (galloc (grefl ((w.alloc (.cells #[.int .u16 m.h.id, .bool m.h.qr, .int .u8 m.h.op, .bool m.h.aa, .bool m.h.tc, .bool m.h.rd, .bool m.h.ra, .bool m.h.z, .bool m.h.ad, .bool m.h.cd, .int .u8 m.h.code, vq, va, vu, vx, .bool m.has, .int .u16 m.sz, .int .u8 m.e, .int .u8 m.v, .int .u16 m.f, vo] 37)).alloc (.cells #[.string { data := #[] }] 9)) none) (.cells #[.int .i64 0] 23)) (balloc (w.alloc (.cells #[.int .u16 m.h.id, .bool m.h.qr, .int .u8 m.h.op, .bool m.h.aa, .bool m.h.tc, .bool m.h.rd, .bool m.h.ra, .bool m.h.z, .bool m.h.ad, .bool m.h.cd, .int .u8 m.h.code, vq, va, vu, vx, .bool m.has, .int .u16 m.sz, .int .u8 m.e, .int .u8 m.v, .int .u16 m.f, vo] 37)) (.cells #[.string { data := #[] }] 9)) (by simp))
  have BQ := Lib.hid (balloc ((w.alloc (.cells #[.int .u16 m.h.id, .bool m.h.qr, .int .u8 m.h.op, .bool m.h.aa, .bool m.h.tc, .bool m.h.rd, .bool m.h.ra, .bool m.h.z, .bool m.h.ad, .bool m.h.cd, .int .u8 m.h.code, vq, va, vu, vx, .bool m.has, .int .u16 m.sz, .int .u8 m.e, .int .u8 m.v, .int .u16 m.f, vo] 37)).alloc (.cells #[.string { data := #[] }] 9)) (.cells #[.int .i64 0] 23))
  go_wp2_with (refine wpList_load_row rfl 37 _ rfl w.heap.size rfl _ _ _ _ BA.out Tryd.underlying37 rfl (by kernel_rfl) ?_)
  clear BA hmf
  simp only [World.size_alloc] at BP BQ
  have hsz : ∀ x y z, (((w.alloc x).alloc y).alloc z).heap.size = w.heap.size + 3 := by intro x y z; simp only [World.size_alloc]
  refine Calls.mono (WW.out _ GA.out) ?_
  rintro e w1 ⟨hg1, h1⟩
  have G1 := Lib.hid (gtrans GA.out hg1)
  have P1 := Lib.hid (gblock hg1 BP.out (by simp))
  have Q1 := Lib.hid (gblock hg1 BQ.out (by simp))
  clear hg1 GA BP BQ WW hsz
  have lp := Lib.hid (show w.heap.size ≤ w.heap.size + 1 from by omega)
  have lq := Lib.hid (show w.heap.size ≤ w.heap.size + 1 + 1 from by omega)
  have hne : w.heap.size + 1 ≠ w.heap.size + 1 + 1 := by omega
  generalize w.heap.size + 1 + 1 = q at *
  generalize w.heap.size + 1 = p at *
  generalize hbm : w.heap.size = bm at *
  have HBM := Lib.hid hbm
  clear hbm
  have p0 := bcellAt P1.out 0
  have pf := bfree P1.out 0
  have q0 := bcellAt Q1.out 0
  have qf := bfree Q1.out 0
  by_cases hE : m.wE = 0
  · rw [if_pos hE] at h1
    obtain ⟨v, rfl, hs⟩ := h1
    have hcv := cvs hs
    have HO := Lib.hid (show m.out = ⟨m.s5.1.toArray⟩ from if_pos hE)
    have HE := Lib.hid hE
    clear hE
    go_wp2_with fail
    refine leaves_cons (f := 19) (args := #[.pointer (some ⟨p, 0, none⟩), .pointer (some ⟨q, 0, none⟩)]) (by simp) (by simp [go_sem]) ?_
    refine (enc1_idle _ _ _).mono ?_
    rintro e u' w2 ⟨rfl, rfl, hg2⟩
    obtain ⟨P2, Q2⟩ := set_two P1.out Q1.out hne (.string ⟨m.s5.1.toArray⟩) (.int .i64 0)
    have p2 := bcellAt (gblock hg2 P2 (by simp)) 0
    have q2 := bcellAt (gblock hg2 Q2 (by simp)) 0
    have G2 := Lib.hid (gtrans (gset2 (gset2 G1.out (p := ⟨p, 0, none⟩) (v := .string ⟨m.s5.1.toArray⟩) (by rw [HBM.out]; exact lp.out)) (p := ⟨q, 0, none⟩) (v := .int .i64 0) (by rw [HBM.out]; exact lq.out)) hg2)
    clear p0 pf q0 qf P2 Q2 hg2 hne
    simp [Leaves, settle, results, Tryd.results9, go_sem, p2, q2]
    exact ⟨by rw [HO.out, HE.out]; simp, G2.out⟩
  · rw [if_neg hE] at h1
    subst h1
    have HO := Lib.hid (show m.out = ByteArray.empty from if_neg hE)
    clear hE
    go_wp2_with fail
    refine leaves_cons (f := 19) (args := #[.pointer (some ⟨p, 0, none⟩), .pointer (some ⟨q, 0, none⟩)]) (by simp) (by simp [go_sem]) ?_
    refine (enc1_bad p q m.wE _ _ w1 _ _ P1.out Q1.out hne).mono ?_
    rintro e u' w2 ⟨rfl, rfl, wm, hgm, rfl⟩
    obtain ⟨P2, Q2⟩ := set_two (gblock hgm P1.out (by simp)) (gblock hgm Q1.out (by simp)) hne (.string ByteArray.empty) (.int .i64 m.wE)
    have p2 := bcellAt P2 0
    have q2 := bcellAt Q2 0
    have G2 := Lib.hid (gset2 (gset2 (gtrans G1.out hgm) (p := ⟨p, 0, none⟩) (v := .string ByteArray.empty) (by rw [HBM.out]; exact lp.out)) (p := ⟨q, 0, none⟩) (v := .int .i64 m.wE) (by rw [HBM.out]; exact lq.out))
    clear p0 pf q0 qf P2 Q2 hne
    simp [Leaves, settle, results, Tryd.results9, go_sem, p2, q2]
    exact ⟨HO.out.symm, gdrew G2.out⟩
set_option maxRecDepth 100000 in
set_option maxHeartbeats 4000000 in
theorem size_any (w : World) (m : Ms) (vq va vu vx vo : Value) (he : Et w) (hb : Bt w) (hv : MsV w m vq va vu vx vo) (hr : m.rng) :
    Calls Tryd.prog 17 #[m.val vq va vu vx vo] w fun e w' => e = .returned (.tuple #[.int .i64 m.num, .int .i64 m.wE]) ∧ w.grownBy w' none := by
  have hmf : ∀ (fn : Fn) (first cap : Array Value) (w : World), (Instr.makeFunc fn first cap).run Tryd.prog w = .ok (.func fn first cap) w := fun _ _ _ _ => rfl
  have WW := Lib.hid (fun (w' : World) (g : w.grownBy w' none) => wwrite_any w' m vq va vu vx vo (he.kept g (by simp)) (hb.kept g (by simp)) (hv.kept g) hr)
  clear he hb hv hr
  unfold Ms.val at WW ⊢
  go_enter_defers Tryd.func17, Tryd.ntmps17
  have GA := Lib.hid (galloc (galloc (galloc (grefl w none) (.cells #[.int .u16 m.h.id, .bool m.h.qr, .int .u8 m.h.op, .bool m.h.aa, .bool m.h.tc, .bool m.h.rd, .bool m.h.ra, .bool m.h.z, .bool m.h.ad, .bool m.h.cd, .int .u8 m.h.code, vq, va, vu, vx, .bool m.has, .int .u16 m.sz, .int .u8 m.e, .int .u8 m.v, .int .u16 m.f, vo] 37)) (.cells #[.int .i64 0] 3)) (.cells #[.int .i64 0] 23))
  have BA := Lib.hid (gblock (galloc (galloc (grefl (w.alloc (.cells #[.int .u16 m.h.id, .bool m.h.qr, .int .u8 m.h.op, .bool m.h.aa, .bool m.h.tc, .bool m.h.rd, .bool m.h.ra, .bool m.h.z, .bool m.h.ad, .bool m.h.cd, .int .u8 m.h.code, vq, va, vu, vx, .bool m.has, .int .u16 m.sz, .int .u8 m.e, .int .u8 m.v, .int .u16 m.f, vo] 37)) none) (.cells #[.int .i64 0] 3)) (.cells #[.int .i64 0] 23)) (balloc w (.cells #[.int .u16 m.h.id, .bool m.h.qr, .int .u8 m.h.op, .bool m.h.aa, .bool m.h.tc, .bool m.h.rd, .bool m.h.ra, .bool m.h.z, .bool m.h.ad, .bool m.h.cd, .int .u8 m.h.code, vq, va, vu, vx, .bool m.has, .int .u16 m.sz, .int .u8 m.e, .int .u8 m.v, .int .u16 m.f, vo] 37)) (by simp))
  have BP := Lib.hid (gblock (galloc (grefl ((w.alloc (.cells #[.int .u16 m.h.id, .bool m.h.qr, .int .u8 m.h.op, .bool m.h.aa, .bool m.h.tc, .bool m.h.rd, .bool m.h.ra, .bool m.h.z, .bool m.h.ad, .bool m.h.cd, .int .u8 m.h.code, vq, va, vu, vx, .bool m.has, .int .u16 m.sz, .int .u8 m.e, .int .u8 m.v, .int .u16 m.f, vo] 37)).alloc (.cells #[.int .i64 0] 3)) none) (.cells #[.int .i64 0] 23)) (balloc (w.alloc (.cells #[.int .u16 m.h.id, .bool m.h.qr, .int .u8 m.h.op, .bool m.h.aa, .bool m.h.tc, .bool m.h.rd, .bool m.h.ra, .bool m.h.z, .bool m.h.ad, .bool m.h.cd, .int .u8 m.h.code, vq, va, vu, vx, .bool m.has, .int .u16 m.sz, .int .u8 m.e, .int .u8 m.v, .int .u16 m.f, vo] 37)) (.cells #[.int .i64 0] 3)) (by simp))
  have BQ := Lib.hid (balloc ((w.alloc (.cells #[.int .u16 m.h.id, .bool m.h.qr, .int .u8 m.h.op, .bool m.h.aa, .bool m.h.tc, .bool m.h.rd, .bool m.h.ra, .bool m.h.z, .bool m.h.ad, .bool m.h.cd, .int .u8 m.h.code, vq, va, vu, vx, .bool m.has, .int .u16 m.sz, .int .u8 m.e, .int .u8 m.v, .int .u16 m.f, vo] 37)).alloc (.cells #[.int .i64 0] 3)) (.cells #[.int .i64 0] 23))
  go_wp2_with (refine wpList_load_row rfl 37 _ rfl w.heap.size rfl _ _ _ _ BA.out Tryd.underlying37 rfl (by kernel_rfl) ?_)
  clear BA hmf
  simp only [World.size_alloc] at BP BQ
  have hsz : ∀ x y z, (((w.alloc x).alloc y).alloc z).heap.size = w.heap.size + 3 := by intro x y z; simp only [World.size_alloc]
  refine Calls.mono (WW.out _ GA.out) ?_
  rintro e w1 ⟨hg1, h1⟩
  have G1 := Lib.hid (gtrans GA.out hg1)
  have P1 := Lib.hid (gblock hg1 BP.out (by simp))
  have Q1 := Lib.hid (gblock hg1 BQ.out (by simp))
  clear hg1 GA BP BQ WW hsz
  have lp := Lib.hid (show w.heap.size ≤ w.heap.size + 1 from by omega)
  have lq := Lib.hid (show w.heap.size ≤ w.heap.size + 1 + 1 from by omega)
  have hne : w.heap.size + 1 ≠ w.heap.size + 1 + 1 := by omega
  generalize w.heap.size + 1 + 1 = q at *
  generalize w.heap.size + 1 = p at *
  generalize hbm : w.heap.size = bm at *
  have HBM := Lib.hid hbm
  clear hbm
  have p0 := bcellAt P1.out 0
  have pf := bfree P1.out 0
  have q0 := bcellAt Q1.out 0
  have qf := bfree Q1.out 0
  by_cases hE : m.wE = 0
  · rw [if_pos hE] at h1
    obtain ⟨v, rfl, hs⟩ := h1
    obtain ⟨As, cs, rfl, _, _⟩ := hs
    have HO := Lib.hid (show m.num = m.s5.1.length from if_pos hE)
    have HE := Lib.hid hE
    clear hE
    go_wp2_with fail
    refine leaves_cons (f := 29) (args := #[.pointer (some ⟨p, 0, none⟩), .pointer (some ⟨q, 0, none⟩)]) (by simp) (by simp [go_sem]) ?_
    refine (siz1_idle _ _ _).mono ?_
    rintro e u' w2 ⟨rfl, rfl, hg2⟩
    obtain ⟨P2, Q2⟩ := set_two P1.out Q1.out hne (.int .i64 m.s5.1.length) (.int .i64 0)
    have p2 := bcellAt (gblock hg2 P2 (by simp)) 0
    have q2 := bcellAt (gblock hg2 Q2 (by simp)) 0
    have G2 := Lib.hid (gtrans (gset2 (gset2 G1.out (p := ⟨p, 0, none⟩) (v := .int .i64 m.s5.1.length) (by rw [HBM.out]; exact lp.out)) (p := ⟨q, 0, none⟩) (v := .int .i64 0) (by rw [HBM.out]; exact lq.out)) hg2)
    clear p0 pf q0 qf P2 Q2 hg2 hne
    simp [Leaves, settle, results, Tryd.results17, go_sem, p2, q2]
    exact ⟨by rw [HO.out, HE.out]; simp, G2.out⟩
  · rw [if_neg hE] at h1
    subst h1
    have HO := Lib.hid (show m.num = 0 from if_neg hE)
    clear hE
    go_wp2_with fail
    refine leaves_cons (f := 29) (args := #[.pointer (some ⟨p, 0, none⟩), .pointer (some ⟨q, 0, none⟩)]) (by simp) (by simp [go_sem]) ?_
    refine (siz1_bad p q m.wE _ _ w1 _ _ P1.out Q1.out hne).mono ?_
    rintro e u' w2 ⟨rfl, rfl, wm, hgm, rfl⟩
    obtain ⟨P2, Q2⟩ := set_two (gblock hgm P1.out (by simp)) (gblock hgm Q1.out (by simp)) hne (.int .i64 0) (.int .i64 m.wE)
    have p2 := bcellAt P2 0
    have q2 := bcellAt Q2 0
    have G2 := Lib.hid (gset2 (gset2 (gtrans G1.out hgm) (p := ⟨p, 0, none⟩) (v := .int .i64 0) (by rw [HBM.out]; exact lp.out)) (p := ⟨q, 0, none⟩) (v := .int .i64 m.wE) (by rw [HBM.out]; exact lq.out))
    clear p0 pf q0 qf P2 Q2 hne
    simp [Leaves, settle, results, Tryd.results17, go_sem, p2, q2]
    exact ⟨by rw [HO.out]; rfl, gdrew G2.out⟩
end Go.Proofs.YthgendgmlpaglaaDoor
