/-
  Wire: own.
-/
import Derived.Test.YtfeeeoiojaffcaaGreatDoorA21
import Derived.Test.YtfeeeoiojaffcaaGreatDoorA3
namespace Go.Proofs.YtfeeeoiojaffcaaGreatDoor
open Go.RowKit

theorem own_empty (w : World) (base : Nat) (e : TypeId) (k n : Nat) (h : n = w.heap.size) (hb : base ≤ n) : (w.alloc (.cells #[] e)).ownsRow base e k (.slice (some ⟨n, 0, none⟩) 0 0) 0 [] := by
  subst h
  exact ⟨by simp, .inr ⟨w.heap.size, 0, #[], rfl, hb, balloc w _, Nat.le_refl _, by simp [maxLen], by simp, by simp⟩⟩
theorem qsV_one (l : List Qn) : ∀ u ∈ qsV l, u.oneCell' = true := by
  intro u hu
  obtain ⟨o, _, h⟩ := List.mem_flatMap.1 hu
  simp [qv] at h
  rcases h with rfl | rfl | rfl <;> rfl
theorem rsV_one (l : List Rc) : ∀ u ∈ rsV l, u.oneCell' = true := by
  intro u hu
  obtain ⟨o, _, h⟩ := List.mem_flatMap.1 hu
  simp [rv] at h
  rcases h with rfl | rfl | rfl | rfl | rfl <;> rfl
/-- New memory behind: what is appended onto a slice that lies from a bound on. -/
theorem gown {a b c : World} {base k n : Nat} {e : TypeId} {v : Value} {xs : List Value} (g : a.grownBy b none) (o : b.ownsRow base e k v n xs) (h : b.grownBy c v.ownBlock) (hb : a.heap.size ≤ base) : a.grownBy c none :=
  ⟨h.os.trans g.os, h.tape.trans g.tape, h.output.trans g.output, Nat.le_trans g.size h.size, fun i hi _ => (h.block i (Nat.lt_of_lt_of_le hi g.size) (fun e => by have := (World.ownsRow.lt o i e.symm).1; omega)).trans (g.block i hi (by simp))⟩

set_option maxRecDepth 100000 in
set_option maxHeartbeats 8000000 in
theorem own_any (w : World) (m : Ms) (vq va vu vx vo : Value) (hv : MsV w m vq va vu vx vo) (lq : m.qs.length ≤ 1000000) (la : m.an.length ≤ 1000000) (lu : m.au.length ≤ 1000000) (lx : m.ex.length ≤ 1000000) (lo : m.ops.length ≤ 1000000) :
    Calls Tryz.prog 11 #[m.val vq va vu vx vo] w fun e w' => (∃ wq wa wu wx wo, e = .returned (m.val wq wa wu wx wo) ∧ MsF w' w.heap.size m wq wa wu wx wo) ∧ w.grownBy w' none := by
  have HV := Lib.hid hv
  obtain ⟨Aq, cq, rfl⟩ := hv.q.form
  obtain ⟨Aa, ca, rfl⟩ := hv.a.form
  obtain ⟨Au, cu, rfl⟩ := hv.u.form
  obtain ⟨Ax, cx, rfl⟩ := hv.x.form
  obtain ⟨Ao, co, rfl⟩ := hv.o.form
  clear hv
  unfold Ms.val
  have LM : (1000000 : Nat) ≤ maxLen := by unfold maxLen; omega
  obtain ⟨iq, hiq, hq0, hq1, hq2⟩ := info_parts Tryz.infoQue
  obtain ⟨ir, hir, hr0, hr1, hr2⟩ := info_parts Tryz.infoRec
  obtain ⟨io, hio, ho0, ho1, ho2⟩ := info_parts Tryz.infoOpt
  have ga := galloc (grefl w none) (.cells #[.int .u16 m.h.id, .bool m.h.qr, .int .u8 m.h.op, .bool m.h.aa, .bool m.h.tc, .bool m.h.rd, .bool m.h.ra, .bool m.h.z, .bool m.h.ad, .bool m.h.cd, .int .u8 m.h.code, .slice Aq m.qs.length cq, .slice Aa m.an.length ca, .slice Au m.au.length cu, .slice Ax m.ex.length cx, .bool m.has, .int .u16 m.sz, .int .u8 m.e, .int .u8 m.v, .int .u16 m.f, .slice Ao m.ops.length co] 32)
  have gb := galloc (grefl (w.alloc (.cells #[.int .u16 m.h.id, .bool m.h.qr, .int .u8 m.h.op, .bool m.h.aa, .bool m.h.tc, .bool m.h.rd, .bool m.h.ra, .bool m.h.z, .bool m.h.ad, .bool m.h.cd, .int .u8 m.h.code, .slice Aq m.qs.length cq, .slice Aa m.an.length ca, .slice Au m.au.length cu, .slice Ax m.ex.length cx, .bool m.has, .int .u16 m.sz, .int .u8 m.e, .int .u8 m.v, .int .u16 m.f, .slice Ao m.ops.length co] 32)) none) (.cells #[.int .u16 0, .bool false, .int .u8 0, .bool false, .bool false, .bool false, .bool false, .bool false, .bool false, .bool false, .int .u8 0, .slice none 0 0, .slice none 0 0, .slice none 0 0, .slice none 0 0, .bool false, .int .u16 0, .int .u8 0, .int .u8 0, .int .u16 0, .slice none 0 0] 32)
  have BX := Lib.hid (gblock gb (balloc w (.cells #[.int .u16 m.h.id, .bool m.h.qr, .int .u8 m.h.op, .bool m.h.aa, .bool m.h.tc, .bool m.h.rd, .bool m.h.ra, .bool m.h.z, .bool m.h.ad, .bool m.h.cd, .int .u8 m.h.code, .slice Aq m.qs.length cq, .slice Aa m.an.length ca, .slice Au m.au.length cu, .slice Ax m.ex.length cx, .bool m.has, .int .u16 m.sz, .int .u8 m.e, .int .u8 m.v, .int .u16 m.f, .slice Ao m.ops.length co] 32)) (by simp))
  have RS := Lib.hid (show ((w.alloc (.cells #[.int .u16 m.h.id, .bool m.h.qr, .int .u8 m.h.op, .bool m.h.aa, .bool m.h.tc, .bool m.h.rd, .bool m.h.ra, .bool m.h.z, .bool m.h.ad, .bool m.h.cd, .int .u8 m.h.code, .slice Aq m.qs.length cq, .slice Aa m.an.length ca, .slice Au m.au.length cu, .slice Ax m.ex.length cx, .bool m.has, .int .u16 m.sz, .int .u8 m.e, .int .u8 m.v, .int .u16 m.f, .slice Ao m.ops.length co] 32)).alloc (.cells #[.int .u16 0, .bool false, .int .u8 0, .bool false, .bool false, .bool false, .bool false, .bool false, .bool false, .bool false, .int .u8 0, .slice none 0 0, .slice none 0 0, .slice none 0 0, .slice none 0 0, .bool false, .int .u16 0, .int .u8 0, .int .u8 0, .int .u16 0, .slice none 0 0] 32)).heap[w.heap.size + 1]? = some (.cells #[.int .u16 0, .bool false, .int .u8 0, .bool false, .bool false, .bool false, .bool false, .bool false, .bool false, .bool false, .int .u8 0, .slice none 0 0, .slice none 0 0, .slice none 0 0, .slice none 0 0, .bool false, .int .u16 0, .int .u8 0, .int .u8 0, .int .u16 0, .slice none 0 0] 32 (0, 0)) from heap_alloc2_new w _ _)
  have G := Lib.hid (gtrans ga gb)
  have SZ := Lib.hid (show w.heap.size + 2 ≤ ((w.alloc (.cells #[.int .u16 m.h.id, .bool m.h.qr, .int .u8 m.h.op, .bool m.h.aa, .bool m.h.tc, .bool m.h.rd, .bool m.h.ra, .bool m.h.z, .bool m.h.ad, .bool m.h.cd, .int .u8 m.h.code, .slice Aq m.qs.length cq, .slice Aa m.an.length ca, .slice Au m.au.length cu, .slice Ax m.ex.length cx, .bool m.has, .int .u16 m.sz, .int .u8 m.e, .int .u8 m.v, .int .u16 m.f, .slice Ao m.ops.length co] 32)).alloc (.cells #[.int .u16 0, .bool false, .int .u8 0, .bool false, .bool false, .bool false, .bool false, .bool false, .bool false, .bool false, .int .u8 0, .slice none 0 0, .slice none 0 0, .slice none 0 0, .slice none 0 0, .bool false, .int .u16 0, .int .u8 0, .int .u8 0, .int .u16 0, .slice none 0 0] 32)).heap.size from by simp only [World.size_alloc]; omega)
  clear ga gb
  go_enter Tryz.func11, Tryz.ntmps11
  have GE := Lib.hid (galloc (grefl ((w.alloc (.cells #[.int .u16 m.h.id, .bool m.h.qr, .int .u8 m.h.op, .bool m.h.aa, .bool m.h.tc, .bool m.h.rd, .bool m.h.ra, .bool m.h.z, .bool m.h.ad, .bool m.h.cd, .int .u8 m.h.code, .slice Aq m.qs.length cq, .slice Aa m.an.length ca, .slice Au m.au.length cu, .slice Ax m.ex.length cx, .bool m.has, .int .u16 m.sz, .int .u8 m.e, .int .u8 m.v, .int .u16 m.f, .slice Ao m.ops.length co] 32)).alloc (.cells #[.int .u16 0, .bool false, .int .u8 0, .bool false, .bool false, .bool false, .bool false, .bool false, .bool false, .bool false, .int .u8 0, .slice none 0 0, .slice none 0 0, .slice none 0 0, .slice none 0 0, .bool false, .int .u16 0, .int .u8 0, .int .u8 0, .int .u16 0, .slice none 0 0] 32)) none) (.cells #[] 46))
  have OE := Lib.hid (own_empty ((w.alloc (.cells #[.int .u16 m.h.id, .bool m.h.qr, .int .u8 m.h.op, .bool m.h.aa, .bool m.h.tc, .bool m.h.rd, .bool m.h.ra, .bool m.h.z, .bool m.h.ad, .bool m.h.cd, .int .u8 m.h.code, .slice Aq m.qs.length cq, .slice Aa m.an.length ca, .slice Au m.au.length cu, .slice Ax m.ex.length cx, .bool m.has, .int .u16 m.sz, .int .u8 m.e, .int .u8 m.v, .int .u16 m.f, .slice Ao m.ops.length co] 32)).alloc (.cells #[.int .u16 0, .bool false, .int .u8 0, .bool false, .bool false, .bool false, .bool false, .bool false, .bool false, .bool false, .int .u8 0, .slice none 0 0, .slice none 0 0, .slice none 0 0, .slice none 0 0, .bool false, .int .u16 0, .int .u8 0, .int .u8 0, .int .u16 0, .slice none 0 0] 32)) (w.heap.size + 1 + 1) 46 3 (w.heap.size + 1 + 1) (by simp only [World.size_alloc]) (Nat.le_refl _))
  have c11 : (((w.alloc (.cells #[.int .u16 m.h.id, .bool m.h.qr, .int .u8 m.h.op, .bool m.h.aa, .bool m.h.tc, .bool m.h.rd, .bool m.h.ra, .bool m.h.z, .bool m.h.ad, .bool m.h.cd, .int .u8 m.h.code, .slice Aq m.qs.length cq, .slice Aa m.an.length ca, .slice Au m.au.length cu, .slice Ax m.ex.length cx, .bool m.has, .int .u16 m.sz, .int .u8 m.e, .int .u8 m.v, .int .u16 m.f, .slice Ao m.ops.length co] 32)).alloc (.cells #[.int .u16 0, .bool false, .int .u8 0, .bool false, .bool false, .bool false, .bool false, .bool false, .bool false, .bool false, .int .u8 0, .slice none 0 0, .slice none 0 0, .slice none 0 0, .slice none 0 0, .bool false, .int .u16 0, .int .u8 0, .int .u8 0, .int .u16 0, .slice none 0 0] 32)).alloc (.cells #[] 46)).cell? ⟨w.heap.size, 11, none⟩ = some (.slice Aq m.qs.length cq) := bcellAt (gblock GE.out BX.out (by simp)) 11
  have SE := Lib.hid (((HV.out.q.kept G.out).kept GE.out))
  go_wp2_with (at_builtin; refine wpList_app_k rfl (.tmp 3) (.tmp 5) 26 rfl (w.heap.size + 1 + 1) 46 iq _ 3 24 Tryz.underlying26 hiq hq0 hq1 hq2 rfl (by decide) _ 0 m.qs.length [] (qsV m.qs) rfl OE.out _ rfl SE.out (qsV_one _) ?c1 ?c2 ?c3 ?_)
  case c1 => omega
  case c2 => omega
  case c3 => refine Nat.le_trans ?_ GE.out.size; simp only [World.size_alloc]; omega
  intro vq wq hoq hgq
  have RW := Lib.hid (gown GE.out OE.out hgq (by simp only [World.size_alloc]; omega))
  have FN := Lib.hid (show FS wq (w.heap.size + 2) 46 3 vq m.qs.length (qsV m.qs) from by have := (FS.of hoq).mono (show w.heap.size + 2 ≤ w.heap.size + 1 + 1 from by omega); simpa using this)
  obtain ⟨Aq', cq', rfl⟩ := FN.out.len
  have BN := Lib.hid (gblock RW.out BX.out (by simp))
  have RN := Lib.hid (gblock RW.out RS.out (by simp))
  have GN := Lib.hid (gtrans G.out RW.out)
  have SN := Lib.hid (show w.heap.size + 2 ≤ wq.heap.size from Nat.le_trans SZ.out RW.out.size)
  clear c11 GE OE SE hoq hgq RW BX RS G SZ
  have cb : wq.cell? ⟨w.heap.size, 11, none⟩ = some (.slice Aq m.qs.length cq) := bcellAt BN.out 11
  have fb : wq.frozen? ⟨w.heap.size, 11, none⟩ = false := bfree BN.out 11
  have gs : wq.grownBy (wq.setCell ⟨w.heap.size, 11, none⟩ (.slice Aq' m.qs.length cq')) (some w.heap.size) := gset (grefl _ _) (p := ⟨w.heap.size, 11, none⟩) (.inl rfl) _
  have BX := Lib.hid (show (wq.setCell ⟨w.heap.size, 11, none⟩ (.slice Aq' m.qs.length cq')).heap[w.heap.size]? = some (.cells #[.int .u16 m.h.id, .bool m.h.qr, .int .u8 m.h.op, .bool m.h.aa, .bool m.h.tc, .bool m.h.rd, .bool m.h.ra, .bool m.h.z, .bool m.h.ad, .bool m.h.cd, .int .u8 m.h.code, .slice Aq' m.qs.length cq', .slice Aa m.an.length ca, .slice Au m.au.length cu, .slice Ax m.ex.length cx, .bool m.has, .int .u16 m.sz, .int .u8 m.e, .int .u8 m.v, .int .u16 m.f, .slice Ao m.ops.length co] 32 (0, 0)) from bset BN.out 11 _)
  have RS := Lib.hid (gblock gs RN.out (by simp))
  have G := Lib.hid (gset2 GN.out (p := ⟨w.heap.size, 11, none⟩) (v := .slice Aq' m.qs.length cq') (Nat.le_refl _))
  have SZ := Lib.hid (show w.heap.size + 2 ≤ (wq.setCell ⟨w.heap.size, 11, none⟩ (.slice Aq' m.qs.length cq')).heap.size from by rw [show (wq.setCell ⟨w.heap.size, 11, none⟩ (.slice Aq' m.qs.length cq')).heap.size = wq.heap.size from by simp [World.setCell]]; exact SN.out)
  have Fq := Lib.hid (FN.out.keptb gs (by omega))
  clear gs BN RN GN SN FN
  have GE := Lib.hid (galloc (grefl (wq.setCell ⟨w.heap.size, 11, none⟩ (.slice Aq' m.qs.length cq')) none) (.cells #[] 49))
  have OE := Lib.hid (own_empty (wq.setCell ⟨w.heap.size, 11, none⟩ (.slice Aq' m.qs.length cq')) (wq.heap.size) 49 5 (wq.heap.size) (by simp [World.setCell]) (Nat.le_refl _))
  have c12 : ((wq.setCell ⟨w.heap.size, 11, none⟩ (.slice Aq' m.qs.length cq')).alloc (.cells #[] 49)).cell? ⟨w.heap.size, 12, none⟩ = some (.slice Aa m.an.length ca) := bcellAt (gblock GE.out BX.out (by simp)) 12
  have SE := Lib.hid (((HV.out.a.kept G.out).kept GE.out))
  go_wp2_with (at_builtin; refine wpList_app_k rfl (.tmp 8) (.tmp 10) 27 rfl (wq.heap.size) 49 ir _ 5 40 Tryz.underlying27 hir hr0 hr1 hr2 rfl (by decide) _ 0 m.an.length [] (rsV m.an) rfl OE.out _ rfl SE.out (rsV_one _) ?c1 ?c2 ?c3 ?_)
  case c1 => omega
  case c2 => omega
  case c3 => refine Nat.le_trans ?_ GE.out.size; simp [World.setCell]
  intro va wa hoa hga
  have RW := Lib.hid (gown GE.out OE.out hga (by simp [World.setCell]))
  have FN := Lib.hid (show FS wa (w.heap.size + 2) 49 5 va m.an.length (rsV m.an) from by have := (FS.of hoa).mono (show w.heap.size + 2 ≤ wq.heap.size from by have := SZ.out; simpa [World.setCell] using this); simpa using this)
  obtain ⟨Aa', ca', rfl⟩ := FN.out.len
  have BN := Lib.hid (gblock RW.out BX.out (by simp))
  have RN := Lib.hid (gblock RW.out RS.out (by simp))
  have GN := Lib.hid (gtrans G.out RW.out)
  have SN := Lib.hid (show w.heap.size + 2 ≤ wa.heap.size from Nat.le_trans SZ.out RW.out.size)
  have Fqn := Lib.hid (Fq.out.kept0 RW.out)
  clear c12 GE OE SE hoa hga RW BX RS G SZ Fq
  have cb : wa.cell? ⟨w.heap.size, 12, none⟩ = some (.slice Aa m.an.length ca) := bcellAt BN.out 12
  have fb : wa.frozen? ⟨w.heap.size, 12, none⟩ = false := bfree BN.out 12
  have gs : wa.grownBy (wa.setCell ⟨w.heap.size, 12, none⟩ (.slice Aa' m.an.length ca')) (some w.heap.size) := gset (grefl _ _) (p := ⟨w.heap.size, 12, none⟩) (.inl rfl) _
  have BX := Lib.hid (show (wa.setCell ⟨w.heap.size, 12, none⟩ (.slice Aa' m.an.length ca')).heap[w.heap.size]? = some (.cells #[.int .u16 m.h.id, .bool m.h.qr, .int .u8 m.h.op, .bool m.h.aa, .bool m.h.tc, .bool m.h.rd, .bool m.h.ra, .bool m.h.z, .bool m.h.ad, .bool m.h.cd, .int .u8 m.h.code, .slice Aq' m.qs.length cq', .slice Aa' m.an.length ca', .slice Au m.au.length cu, .slice Ax m.ex.length cx, .bool m.has, .int .u16 m.sz, .int .u8 m.e, .int .u8 m.v, .int .u16 m.f, .slice Ao m.ops.length co] 32 (0, 0)) from bset BN.out 12 _)
  have RS := Lib.hid (gblock gs RN.out (by simp))
  have G := Lib.hid (gset2 GN.out (p := ⟨w.heap.size, 12, none⟩) (v := .slice Aa' m.an.length ca') (Nat.le_refl _))
  have SZ := Lib.hid (show w.heap.size + 2 ≤ (wa.setCell ⟨w.heap.size, 12, none⟩ (.slice Aa' m.an.length ca')).heap.size from by rw [show (wa.setCell ⟨w.heap.size, 12, none⟩ (.slice Aa' m.an.length ca')).heap.size = wa.heap.size from by simp [World.setCell]]; exact SN.out)
  have Fa := Lib.hid (FN.out.keptb gs (by omega))
  have Fq := Lib.hid (Fqn.out.keptb gs (by omega))
  clear gs BN RN GN SN FN Fqn
  have GE := Lib.hid (galloc (grefl (wa.setCell ⟨w.heap.size, 12, none⟩ (.slice Aa' m.an.length ca')) none) (.cells #[] 49))
  have OE := Lib.hid (own_empty (wa.setCell ⟨w.heap.size, 12, none⟩ (.slice Aa' m.an.length ca')) (wa.heap.size) 49 5 (wa.heap.size) (by simp [World.setCell]) (Nat.le_refl _))
  have c13 : ((wa.setCell ⟨w.heap.size, 12, none⟩ (.slice Aa' m.an.length ca')).alloc (.cells #[] 49)).cell? ⟨w.heap.size, 13, none⟩ = some (.slice Au m.au.length cu) := bcellAt (gblock GE.out BX.out (by simp)) 13
  have SE := Lib.hid (((HV.out.u.kept G.out).kept GE.out))
  go_wp2_with (at_builtin; refine wpList_app_k rfl (.tmp 13) (.tmp 15) 27 rfl (wa.heap.size) 49 ir _ 5 40 Tryz.underlying27 hir hr0 hr1 hr2 rfl (by decide) _ 0 m.au.length [] (rsV m.au) rfl OE.out _ rfl SE.out (rsV_one _) ?c1 ?c2 ?c3 ?_)
  case c1 => omega
  case c2 => omega
  case c3 => refine Nat.le_trans ?_ GE.out.size; simp [World.setCell]
  intro vu wu hou hgu
  have RW := Lib.hid (gown GE.out OE.out hgu (by simp [World.setCell]))
  have FN := Lib.hid (show FS wu (w.heap.size + 2) 49 5 vu m.au.length (rsV m.au) from by have := (FS.of hou).mono (show w.heap.size + 2 ≤ wa.heap.size from by have := SZ.out; simpa [World.setCell] using this); simpa using this)
  obtain ⟨Au', cu', rfl⟩ := FN.out.len
  have BN := Lib.hid (gblock RW.out BX.out (by simp))
  have RN := Lib.hid (gblock RW.out RS.out (by simp))
  have GN := Lib.hid (gtrans G.out RW.out)
  have SN := Lib.hid (show w.heap.size + 2 ≤ wu.heap.size from Nat.le_trans SZ.out RW.out.size)
  have Fqn := Lib.hid (Fq.out.kept0 RW.out)
  have Fan := Lib.hid (Fa.out.kept0 RW.out)
  clear c13 GE OE SE hou hgu RW BX RS G SZ Fq Fa
  have cb : wu.cell? ⟨w.heap.size, 13, none⟩ = some (.slice Au m.au.length cu) := bcellAt BN.out 13
  have fb : wu.frozen? ⟨w.heap.size, 13, none⟩ = false := bfree BN.out 13
  have gs : wu.grownBy (wu.setCell ⟨w.heap.size, 13, none⟩ (.slice Au' m.au.length cu')) (some w.heap.size) := gset (grefl _ _) (p := ⟨w.heap.size, 13, none⟩) (.inl rfl) _
  have BX := Lib.hid (show (wu.setCell ⟨w.heap.size, 13, none⟩ (.slice Au' m.au.length cu')).heap[w.heap.size]? = some (.cells #[.int .u16 m.h.id, .bool m.h.qr, .int .u8 m.h.op, .bool m.h.aa, .bool m.h.tc, .bool m.h.rd, .bool m.h.ra, .bool m.h.z, .bool m.h.ad, .bool m.h.cd, .int .u8 m.h.code, .slice Aq' m.qs.length cq', .slice Aa' m.an.length ca', .slice Au' m.au.length cu', .slice Ax m.ex.length cx, .bool m.has, .int .u16 m.sz, .int .u8 m.e, .int .u8 m.v, .int .u16 m.f, .slice Ao m.ops.length co] 32 (0, 0)) from bset BN.out 13 _)
  have RS := Lib.hid (gblock gs RN.out (by simp))
  have G := Lib.hid (gset2 GN.out (p := ⟨w.heap.size, 13, none⟩) (v := .slice Au' m.au.length cu') (Nat.le_refl _))
  have SZ := Lib.hid (show w.heap.size + 2 ≤ (wu.setCell ⟨w.heap.size, 13, none⟩ (.slice Au' m.au.length cu')).heap.size from by rw [show (wu.setCell ⟨w.heap.size, 13, none⟩ (.slice Au' m.au.length cu')).heap.size = wu.heap.size from by simp [World.setCell]]; exact SN.out)
  have Fu := Lib.hid (FN.out.keptb gs (by omega))
  have Fq := Lib.hid (Fqn.out.keptb gs (by omega))
  have Fa := Lib.hid (Fan.out.keptb gs (by omega))
  clear gs BN RN GN SN FN Fqn Fan
  have GE := Lib.hid (galloc (grefl (wu.setCell ⟨w.heap.size, 13, none⟩ (.slice Au' m.au.length cu')) none) (.cells #[] 49))
  have OE := Lib.hid (own_empty (wu.setCell ⟨w.heap.size, 13, none⟩ (.slice Au' m.au.length cu')) (wu.heap.size) 49 5 (wu.heap.size) (by simp [World.setCell]) (Nat.le_refl _))
  have c14 : ((wu.setCell ⟨w.heap.size, 13, none⟩ (.slice Au' m.au.length cu')).alloc (.cells #[] 49)).cell? ⟨w.heap.size, 14, none⟩ = some (.slice Ax m.ex.length cx) := bcellAt (gblock GE.out BX.out (by simp)) 14
  have SE := Lib.hid (((HV.out.x.kept G.out).kept GE.out))
  go_wp2_with (at_builtin; refine wpList_app_k rfl (.tmp 18) (.tmp 20) 27 rfl (wu.heap.size) 49 ir _ 5 40 Tryz.underlying27 hir hr0 hr1 hr2 rfl (by decide) _ 0 m.ex.length [] (rsV m.ex) rfl OE.out _ rfl SE.out (rsV_one _) ?c1 ?c2 ?c3 ?_)
  case c1 => omega
  case c2 => omega
  case c3 => refine Nat.le_trans ?_ GE.out.size; simp [World.setCell]
  intro vx wx hox hgx
  have RW := Lib.hid (gown GE.out OE.out hgx (by simp [World.setCell]))
  have FN := Lib.hid (show FS wx (w.heap.size + 2) 49 5 vx m.ex.length (rsV m.ex) from by have := (FS.of hox).mono (show w.heap.size + 2 ≤ wu.heap.size from by have := SZ.out; simpa [World.setCell] using this); simpa using this)
  obtain ⟨Ax', cx', rfl⟩ := FN.out.len
  have BN := Lib.hid (gblock RW.out BX.out (by simp))
  have RN := Lib.hid (gblock RW.out RS.out (by simp))
  have GN := Lib.hid (gtrans G.out RW.out)
  have SN := Lib.hid (show w.heap.size + 2 ≤ wx.heap.size from Nat.le_trans SZ.out RW.out.size)
  have Fqn := Lib.hid (Fq.out.kept0 RW.out)
  have Fan := Lib.hid (Fa.out.kept0 RW.out)
  have Fun := Lib.hid (Fu.out.kept0 RW.out)
  clear c14 GE OE SE hox hgx RW BX RS G SZ Fq Fa Fu
  have cb : wx.cell? ⟨w.heap.size, 14, none⟩ = some (.slice Ax m.ex.length cx) := bcellAt BN.out 14
  have fb : wx.frozen? ⟨w.heap.size, 14, none⟩ = false := bfree BN.out 14
  have gs : wx.grownBy (wx.setCell ⟨w.heap.size, 14, none⟩ (.slice Ax' m.ex.length cx')) (some w.heap.size) := gset (grefl _ _) (p := ⟨w.heap.size, 14, none⟩) (.inl rfl) _
  have BX := Lib.hid (show (wx.setCell ⟨w.heap.size, 14, none⟩ (.slice Ax' m.ex.length cx')).heap[w.heap.size]? = some (.cells #[.int .u16 m.h.id, .bool m.h.qr, .int .u8 m.h.op, .bool m.h.aa, .bool m.h.tc, .bool m.h.rd, .bool m.h.ra, .bool m.h.z, .bool m.h.ad, .bool m.h.cd, .int .u8 m.h.code, .slice Aq' m.qs.length cq', .slice Aa' m.an.length ca', .slice Au' m.au.length cu', .slice Ax' m.ex.length cx', .bool m.has, .int .u16 m.sz, .int .u8 m.e, .int .u8 m.v, .int .u16 m.f, .slice Ao m.ops.length co] 32 (0, 0)) from bset BN.out 14 _)
  have RS := Lib.hid (gblock gs RN.out (by simp))
  have G := Lib.hid (gset2 GN.out (p := ⟨w.heap.size, 14, none⟩) (v := .slice Ax' m.ex.length cx') (Nat.le_refl _))
  have SZ := Lib.hid (show w.heap.size + 2 ≤ (wx.setCell ⟨w.heap.size, 14, none⟩ (.slice Ax' m.ex.length cx')).heap.size from by rw [show (wx.setCell ⟨w.heap.size, 14, none⟩ (.slice Ax' m.ex.length cx')).heap.size = wx.heap.size from by simp [World.setCell]]; exact SN.out)
  have Fx := Lib.hid (FN.out.keptb gs (by omega))
  have Fq := Lib.hid (Fqn.out.keptb gs (by omega))
  have Fa := Lib.hid (Fan.out.keptb gs (by omega))
  have Fu := Lib.hid (Fun.out.keptb gs (by omega))
  clear gs BN RN GN SN FN Fqn Fan Fun
  have GE := Lib.hid (galloc (grefl (wx.setCell ⟨w.heap.size, 14, none⟩ (.slice Ax' m.ex.length cx')) none) (.cells #[] 72))
  have OE := Lib.hid (own_empty (wx.setCell ⟨w.heap.size, 14, none⟩ (.slice Ax' m.ex.length cx')) (wx.heap.size) 72 2 (wx.heap.size) (by simp [World.setCell]) (Nat.le_refl _))
  have c20 : ((wx.setCell ⟨w.heap.size, 14, none⟩ (.slice Ax' m.ex.length cx')).alloc (.cells #[] 72)).cell? ⟨w.heap.size, 20, none⟩ = some (.slice Ao m.ops.length co) := bcellAt (gblock GE.out BX.out (by simp)) 20
  have SE := Lib.hid (((HV.out.o.kept G.out).kept GE.out))
  go_wp2_with (at_builtin; refine wpList_app_k rfl (.tmp 23) (.tmp 26) 28 rfl (wx.heap.size) 72 io _ 2 24 Tryz.underlying28 hio ho0 ho1 ho2 rfl (by decide) _ 0 m.ops.length [] (ov m.ops) rfl OE.out _ rfl SE.out (ov_one _) ?c1 ?c2 ?c3 ?_)
  case c1 => omega
  case c2 => omega
  case c3 => refine Nat.le_trans ?_ GE.out.size; simp [World.setCell]
  intro vo wo hoo hgo
  have RW := Lib.hid (gown GE.out OE.out hgo (by simp [World.setCell]))
  have FN := Lib.hid (show FS wo (w.heap.size + 2) 72 2 vo m.ops.length (ov m.ops) from by have := (FS.of hoo).mono (show w.heap.size + 2 ≤ wx.heap.size from by have := SZ.out; simpa [World.setCell] using this); simpa using this)
  obtain ⟨Ao', co', rfl⟩ := FN.out.len
  have BN := Lib.hid (gblock RW.out BX.out (by simp))
  have RN := Lib.hid (gblock RW.out RS.out (by simp))
  have GN := Lib.hid (gtrans G.out RW.out)
  have SN := Lib.hid (show w.heap.size + 2 ≤ wo.heap.size from Nat.le_trans SZ.out RW.out.size)
  have Fqn := Lib.hid (Fq.out.kept0 RW.out)
  have Fan := Lib.hid (Fa.out.kept0 RW.out)
  have Fun := Lib.hid (Fu.out.kept0 RW.out)
  have Fxn := Lib.hid (Fx.out.kept0 RW.out)
  clear c20 GE OE SE hoo hgo RW BX RS G SZ Fq Fa Fu Fx
  have cb : wo.cell? ⟨w.heap.size, 20, none⟩ = some (.slice Ao m.ops.length co) := bcellAt BN.out 20
  have fb : wo.frozen? ⟨w.heap.size, 20, none⟩ = false := bfree BN.out 20
  have gs : wo.grownBy (wo.setCell ⟨w.heap.size, 20, none⟩ (.slice Ao' m.ops.length co')) (some w.heap.size) := gset (grefl _ _) (p := ⟨w.heap.size, 20, none⟩) (.inl rfl) _
  have BX := Lib.hid (show (wo.setCell ⟨w.heap.size, 20, none⟩ (.slice Ao' m.ops.length co')).heap[w.heap.size]? = some (.cells #[.int .u16 m.h.id, .bool m.h.qr, .int .u8 m.h.op, .bool m.h.aa, .bool m.h.tc, .bool m.h.rd, .bool m.h.ra, .bool m.h.z, .bool m.h.ad, .bool m.h.cd, .int .u8 m.h.code, .slice Aq' m.qs.length cq', .slice Aa' m.an.length ca', .slice Au' m.au.length cu', .slice Ax' m.ex.length cx', .bool m.has, .int .u16 m.sz, .int .u8 m.e, .int .u8 m.v, .int .u16 m.f, .slice Ao' m.ops.length co'] 32 (0, 0)) from bset BN.out 20 _)
  have RS := Lib.hid (gblock gs RN.out (by simp))
  have G := Lib.hid (gset2 GN.out (p := ⟨w.heap.size, 20, none⟩) (v := .slice Ao' m.ops.length co') (Nat.le_refl _))
  have SZ := Lib.hid (show w.heap.size + 2 ≤ (wo.setCell ⟨w.heap.size, 20, none⟩ (.slice Ao' m.ops.length co')).heap.size from by rw [show (wo.setCell ⟨w.heap.size, 20, none⟩ (.slice Ao' m.ops.length co')).heap.size = wo.heap.size from by simp [World.setCell]]; exact SN.out)
  have Fo := Lib.hid (FN.out.keptb gs (by omega))
  have Fq := Lib.hid (Fqn.out.keptb gs (by omega))
  have Fa := Lib.hid (Fan.out.keptb gs (by omega))
  have Fu := Lib.hid (Fun.out.keptb gs (by omega))
  have Fx := Lib.hid (Fxn.out.keptb gs (by omega))
  clear gs BN RN GN SN FN Fqn Fan Fun Fxn
  go_wp2_with (first | refine wpList_load_row rfl 32 _ rfl w.heap.size rfl _ _ _ _ BX.out Tryz.underlying32 rfl (by kernel_rfl) ?_ | refine wpList_store_row rfl 32 _ _ rfl (w.heap.size + 1) #[.int .u16 m.h.id, .bool m.h.qr, .int .u8 m.h.op, .bool m.h.aa, .bool m.h.tc, .bool m.h.rd, .bool m.h.ra, .bool m.h.z, .bool m.h.ad, .bool m.h.cd, .int .u8 m.h.code, .slice Aq' m.qs.length cq', .slice Aa' m.an.length ca', .slice Au' m.au.length cu', .slice Ax' m.ex.length cx', .bool m.has, .int .u16 m.sz, .int .u8 m.e, .int .u8 m.v, .int .u16 m.f, .slice Ao' m.ops.length co'] rfl rfl 32 _ RS.out (by kernel_rfl) rfl (by kernel_rfl) ?_)
  have gr := grow_row (wo.setCell ⟨w.heap.size, 20, none⟩ (.slice Ao' m.ops.length co')) (w.heap.size + 1) #[.int .u16 m.h.id, .bool m.h.qr, .int .u8 m.h.op, .bool m.h.aa, .bool m.h.tc, .bool m.h.rd, .bool m.h.ra, .bool m.h.z, .bool m.h.ad, .bool m.h.cd, .int .u8 m.h.code, .slice Aq' m.qs.length cq', .slice Aa' m.an.length ca', .slice Au' m.au.length cu', .slice Ax' m.ex.length cx', .bool m.has, .int .u16 m.sz, .int .u8 m.e, .int .u8 m.v, .int .u16 m.f, .slice Ao' m.ops.length co']
  refine bodyPost_ret (results_cell_row rfl _ _ (w.heap.size + 1) _ _ _ _ rfl (bsetR RS.out _) Tryz.underlying32 rfl (by kernel_rfl)) rfl ?_
  exact ⟨⟨_, _, _, _, _, rfl, MsF.mono (base := w.heap.size + 2) ⟨Fq.out.keptb gr (by omega), Fa.out.keptb gr (by omega), Fu.out.keptb gr (by omega), Fx.out.keptb gr (by omega), Fo.out.keptb gr (by omega)⟩ (by omega)⟩, gsetRow G.out (by omega) _⟩
end Go.Proofs.YtfeeeoiojaffcaaGreatDoor
