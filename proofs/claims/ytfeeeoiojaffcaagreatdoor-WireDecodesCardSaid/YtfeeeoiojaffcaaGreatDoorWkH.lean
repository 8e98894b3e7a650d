/-
  Wire: the document's record.
-/
import Derived.Test.YtfeeeoiojaffcaaGreatDoorWkG
import Derived.Test.YtfeeeoiojaffcaaGreatDoorWkC
import Derived.Test.YtfeeeoiojaffcaaGreatDoorA12
import Derived.Laws.CopyRow
import Derived.Deep.Cut
namespace Go.Proofs.YtfeeeoiojaffcaaGreatDoor
open Go.RowKit

theorem rd_next_le {s : ByteArray} {p q : Nat} {n : List UInt8} (hp : p ≤ s.size) (h : rdF s p p none [] = .ok n q) : q ≤ s.size := by
  have e : rdAt s (p : Int) = .ok n q := by unfold rdAt; rw [if_pos ⟨by omega, by omega⟩]; simpa using h
  exact (rdAt_ok e).2.2.1
def mrow (h : Hd) (vq va vu vx : Value) (d : Ed) (vo : Value) : Array Value := #[.int .u16 h.id, .bool h.qr, .int .u8 h.op, .bool h.aa, .bool h.tc, .bool h.rd, .bool h.ra, .bool h.z, .bool h.ad, .bool h.cd, .int .u8 h.code, vq, va, vu, vx, .bool d.has, .int .u16 d.sz, .int .u8 d.e, .int .u8 d.v, .int .u16 d.f, vo]
theorem gsetRow_ {a w : World} {row : Option Nat} {g : Nat} (h : a.grownBy w row) (hg : a.heap.size ≤ g) (cs : Array Value) : a.grownBy (w.setRow g cs) row :=
  ⟨h.os, h.tape, h.output, by simpa [World.setRow] using h.size, fun i hi hn => (setRow_other w g i cs (by omega)).trans (h.block i hi hn)⟩
def RkPost (r : R1) (pb mb : Nat) (h : Hd) (vq va vu vx : Value) (d : Ed) (vo : Value) (w : World) (e : Ending) (w' : World) : Prop :=
  TG w w' pb (some mb) ∧ match r with
    | .no x => ∃ (r : Rc) (f : Bool) (p' : Nat) (d' : Ed) (vo' : Value), e = .returned (.tuple #[rcv r, .bool f]) ∧ Pt7 w' pb p' x ∧ w'.heap[mb]? = some (.cells (mrow h vq va vu vx d' vo') 32 (0, 0)) ∧ ((d' = d ∧ vo' = vo) ∨ FS w' w.heap.size 72 2 vo' d'.ops.length (ov d'.ops))
    | .opt q d' => ∃ (r : Rc) (vo' : Value), e = .returned (.tuple #[rcv r, .bool false]) ∧ Pt7 w' pb q 0 ∧ w'.heap[mb]? = some (.cells (mrow h vq va vu vx d' vo') 32 (0, 0)) ∧ FS w' w.heap.size 72 2 vo' d'.ops.length (ov d'.ops)
    | .put x q => e = .returned (.tuple #[rcv x, .bool true]) ∧ Pt7 w' pb q 0 ∧ w'.heap[mb]? = some (.cells (mrow h vq va vu vx d vo) 32 (0, 0))
theorem RkPost.no {r : R1} {pb mb p' x : Nat} {h : Hd} {vq va vu vx vo vo' : Value} {d d' : Ed} {w w' : World} {e : Ending} {rr : Rc} {f : Bool} (hr : r = .no x) (g : TG w w' pb (some mb)) (he : e = .returned (.tuple #[rcv rr, .bool f])) (hp : Pt7 w' pb p' x) (hm : w'.heap[mb]? = some (.cells (mrow h vq va vu vx d' vo') 32 (0, 0))) (ho : (d' = d ∧ vo' = vo) ∨ FS w' w.heap.size 72 2 vo' d'.ops.length (ov d'.ops)) : RkPost r pb mb h vq va vu vx d vo w e w' := by
  subst hr; exact ⟨g, rr, f, p', d', vo', he, hp, hm, ho⟩
theorem RkPost.put {r : R1} {pb mb q : Nat} {h : Hd} {vq va vu vx vo : Value} {d : Ed} {w w' : World} {e : Ending} {x : Rc} (hr : r = .put x q) (g : TG w w' pb (some mb)) (he : e = .returned (.tuple #[rcv x, .bool true])) (hp : Pt7 w' pb q 0) (hm : w'.heap[mb]? = some (.cells (mrow h vq va vu vx d vo) 32 (0, 0))) : RkPost r pb mb h vq va vu vx d vo w e w' := by
  subst hr; exact ⟨g, he, hp, hm⟩
theorem RkPost.opt {r : R1} {pb mb q : Nat} {h : Hd} {vq va vu vx vo vo' : Value} {d d' : Ed} {w w' : World} {e : Ending} {x : Rc} (hr : r = .opt q d') (g : TG w w' pb (some mb)) (he : e = .returned (.tuple #[rcv x, .bool false])) (hp : Pt7 w' pb q 0) (hm : w'.heap[mb]? = some (.cells (mrow h vq va vu vx d' vo') 32 (0, 0))) (hf : FS w' w.heap.size 72 2 vo' d'.ops.length (ov d'.ops)) : RkPost r pb mb h vq va vu vx d vo w e w' := by
  subst hr; exact ⟨g, x, vo', he, hp, hm, hf⟩
theorem rd1_dat {s : ByteArray} {add : Bool} {p : Nat} {d : Ed} {n : List UInt8} {nm : ByteArray} {q v1 v2 v3 v4 p5 : Nat} (hr : rdF s p p none [] = .ok n q) (X1 : nm = ⟨n.toArray⟩) (X2 : v1 = num s q 2) (X3 : v2 = num s (q + 2) 2) (X4 : v3 = num s (q + 4) 4) (X6 : v4 = num s (q + 8) 2) (X7 : p5 = q + 10) (X8 : q + 10 ≤ s.size) (LL : p5 + v4 ≤ s.size) (k41 : ¬ v1 = 41) (hs : s.size ≤ 65535) :
    ∃ (dat : ByteArray) (x : Nat), (∀ w, Calls Tryz.prog 46 #[.string s, .int .i64 p5, .int .i64 v4, .int .u16 v1] w fun e w' => e = .returned (.tuple #[.string dat, .int .i64 x]) ∧ w.grownBy w' none) ∧ ((x = 0 ∧ rd1 s add p d = .put ⟨nm, v1, v2, v3, dat⟩ (p5 + v4)) ∨ (x ≠ 0 ∧ rd1 s add p d = .no x)) := by
  subst X1 X2 X3 X4 X6 X7
  refine ⟨(rdD s (q + 10 : Nat) (num s (q + 8) 2 : Nat) (num s q 2)).1, (rdD s (q + 10 : Nat) (num s (q + 8) 2 : Nat) (num s q 2)).2, fun w => rrdata_any s _ _ _ w (by omega), ?_⟩
  have e := rd1_rec (add := add) (d := d) hr ⟨X8, LL⟩ k41 (dat := (rdD s (q + 10 : Nat) (num s (q + 8) 2 : Nat) (num s q 2)).1) (x := (rdD s (q + 10 : Nat) (num s (q + 8) 2 : Nat) (num s q 2)).2) rfl
  by_cases h0 : (rdD s (q + 10 : Nat) (num s (q + 8) 2 : Nat) (num s q 2)).2 = 0
  · rw [if_pos h0] at e
    exact .inl ⟨h0, e⟩
  · rw [if_neg h0] at e
    exact .inr ⟨h0, e⟩
theorem rd1_not {s : ByteArray} {k : Nat} {p : Nat} {d : Ed} {n : List UInt8} {nm : ByteArray} {q v1 v4 p5 : Nat} (hr : rdF s p p none [] = .ok n q) (X1 : nm = ⟨n.toArray⟩) (X2 : v1 = num s q 2) (X6 : v4 = num s (q + 8) 2) (X7 : p5 = q + 10) (X8 : q + 10 ≤ s.size) (LL : p5 + v4 ≤ s.size) (k41 : v1 = 41) (h : ¬ (k = 3 ∧ d.has = false ∧ nm = root0)) : rd1 s (decide (k = 3)) p d = .no 3 := by
  subst X1 X2 X6 X7
  rw [rd1_opt hr ⟨X8, LL⟩ k41]
  unfold optF
  rw [if_neg]
  rintro ⟨h1, h2, h3⟩
  exact h ⟨by simpa using h1, h2, h3⟩
def EdV (z e v f er : Nat) (l : List Opt) (w : World) (e' : Ending) (w' : World) : Prop :=
  ∃ A cap, e' = .returned (.tuple #[.agg #[.int .u16 z, .int .u8 e, .int .u8 v, .int .u16 f, .slice A l.length cap], .int .i64 er]) ∧ FS w' w.heap.size 72 2 (.slice A l.length cap) l.length (ov l) ∧ w.grownBy w' none
theorem rd1_yes {s : ByteArray} {p : Nat} {d : Ed} {n : List UInt8} {nm : ByteArray} {q v1 v2 v3 v4 p5 : Nat} (hr : rdF s p p none [] = .ok n q) (X1 : nm = ⟨n.toArray⟩) (X2 : v1 = num s q 2) (X3 : v2 = num s (q + 2) 2) (X4 : v3 = num s (q + 4) 4) (X6 : v4 = num s (q + 8) 2) (X7 : p5 = q + 10) (X8 : q + 10 ≤ s.size) (LL : p5 + v4 ≤ s.size) (k41 : v1 = 41) (hs : s.size ≤ 65535) (h2 : d.has = false) (h3 : nm = root0) :
    ∃ (z e v f er : Nat) (l : List Opt), (∀ w, Calls Tryz.prog 45 #[.int .u16 v2, .int .u32 v3, .string (s.extract p5 (p5 + v4))] w (EdV z e v f er l w)) ∧ ((er = 0 ∧ rd1 s true p d = .opt (p5 + v4) ⟨true, z, e, v, f, l⟩) ∨ (er ≠ 0 ∧ rd1 s true p d = .no er)) := by
  subst X1 X2 X3 X4 X6 X7
  have e := rd1_opt (add := true) (d := d) hr ⟨X8, LL⟩ k41
  unfold optF at e
  rw [if_pos ⟨rfl, h2, h3⟩] at e
  have hl : (s.extract (q + 10) (q + 10 + num s (q + 8) 2)).size ≤ 100000 := by rw [ext_size]; omega
  have CR := fun w => reread_any (num s (q + 2) 2) (num s (q + 4) 4) (s.extract (q + 10) (q + 10 + num s (q + 8) 2)) w (num_lt s _ 4) hl
  unfold EdPost at CR
  cases hop : opsAt (s.extract (q + 10) (q + 10 + num s (q + 8) 2)) 0 with
  | none =>
    rw [show (rawR s n q).data = s.extract (q + 10) (q + 10 + num s (q + 8) 2) from rfl, hop] at e
    refine ⟨0, 0, 0, 0, 4, [], fun w => (CR w).mono ?_, .inr ⟨by decide, e⟩⟩
    rintro e' w' ⟨hg, h'⟩
    rw [hop] at h'
    exact ⟨none, 0, h', FS.none, hg⟩
  | some l =>
    rw [show (rawR s n q).data = s.extract (q + 10) (q + 10 + num s (q + 8) 2) from rfl, hop] at e
    refine ⟨_, _, _, _, 0, l, fun w => (CR w).mono ?_, .inl ⟨rfl, e⟩⟩
    rintro e' w' ⟨hg, h'⟩
    rw [hop] at h'
    obtain ⟨v, rfl, hf⟩ := h'
    obtain ⟨A, cap, rfl⟩ := hf.len
    exact ⟨A, cap, rfl, hf, hg⟩
theorem KC.ofB {p : Addr → Prop} {w w' : World} {mb : Nat} (g : w.grownBy w' (some mb)) (h : ∀ a, p a → a.block ≠ mb) : KC p w w' := fun a v hp hc => g.cell hc (by have := h a hp; simpa using this)
/-- A struct is stored in the middle of a row. -/
theorem wpList_store_mid {P : Program} {ops : Array Oper} {rest : List Oper} {o : Oper} {a : Act} {w : World} {Q : Exit → Act → World → Prop} (hgd : o.guard = none) (ty : TypeId) (x y : Operand) (ho : o.op = .store ty x y)
    (g k : Nat) (cells new : Array Value) (hx : a.eval x = .pointer (some ⟨g, k, none⟩)) (hy : a.eval y = .agg cells)
    (t : TypeId) (old : Array Value) (hg : w.heap[g]? = some (.cells old t (0, 0))) (hi : (P.info? ty).map (·.size) = some cells.size)
    (hfit : k + cells.size ≤ old.size) (h1 : cells.all (·.oneCell') = true) (hn : (old.toList.take (k + 0) ++ cells.toList ++ old.toList.drop (k + 0 + cells.toList.length)).toArray = new)
    (h : wpList P ops Q rest (a.put o.dst undef) (w.setRow g new)) : wpList P ops Q (o :: rest) a w :=
  wpList_plain hgd fun _ hK => by
    have hst := run_storeCells_at P g k t cells.toList 0 old w hg (by simpa using hfit) (fun v hv => (Array.all_eq_true_iff_forall_mem.1 h1) v (by simpa using hv))
    rw [hn] at hst
    have hsv : (storeVar ty ⟨g, k, none⟩ (.agg cells)).run P w = .ok () (w.setRow g new) := by
      cases hq : P.info? ty with
      | none => simp [hq] at hi
      | some i =>
        have hs : cells.size = i.size := by simp [hq] at hi; omega
        simp [storeVar, sizeOf, typeInfo, hq, Value.cells, hs, hst]
    unfold Oper.wp execOp
    simp only [ho, hx, hy, Instr.storeAt, Instr.sureAddr, Sem.run_bind, Sem.run_pure, Result.andThen_ok, hsv]
    exact hK _ _ h
set_option maxRecDepth 100000 in
set_option maxHeartbeats 8000000 in
theorem prec_any (w : World) (pb mb p : Nat) (s : ByteArray) (k : Nat) (h : Hd) (vq va vu vx : Value) (d : Ed) (vo : Value) (hP : Pt7 w pb p 0) (hp : p ≤ s.size) (hs : s.size ≤ 65535) (hM : w.heap[mb]? = some (.cells (mrow h vq va vu vx d vo) 32 (0, 0))) (hne : pb ≠ mb) :
    Calls Tryz.prog 20 #[.pointer (some ⟨pb, 0, none⟩), .string s, .pointer (some ⟨mb, 0, none⟩), .int .i64 k] w (RkPost (rd1 s (decide (k = 3)) p d) pb mb h vq va vu vx d vo w) := by
  have P0 := Lib.hid hP
  have M0 := Lib.hid hM
  have HS := Lib.hid hs
  have NE := Lib.hid hne
  have LP := Lib.hid (show pb < w.heap.size from blt hP)
  have LM := Lib.hid (show mb < w.heap.size from blt hM)
  clear hP hM hne
  have R8 := Lib.hid (heap_alloc2_old w (.cells #[.string { data := #[] }, .int .u16 0, .int .u16 0, .int .u32 0, .string { data := #[] }] 49) (.cells #[.string { data := #[] }, .int .u16 0, .int .u16 0, .int .u32 0, .string { data := #[] }] 49))
  have R10 := Lib.hid (heap_alloc2_new w (.cells #[.string { data := #[] }, .int .u16 0, .int .u16 0, .int .u32 0, .string { data := #[] }] 49) (.cells #[.string { data := #[] }, .int .u16 0, .int .u16 0, .int .u32 0, .string { data := #[] }] 49))
  have ga := galloc (galloc (grefl w none) (.cells #[.string { data := #[] }, .int .u16 0, .int .u16 0, .int .u32 0, .string { data := #[] }] 49)) (.cells #[.string { data := #[] }, .int .u16 0, .int .u16 0, .int .u32 0, .string { data := #[] }] 49)
  have P := Lib.hid (Pt7.kept P0.out ga)
  have M := Lib.hid (gblock ga M0.out (by simp))
  have G := Lib.hid (show w.grownBy ((w.alloc (.cells #[.string { data := #[] }, .int .u16 0, .int .u16 0, .int .u32 0, .string { data := #[] }] 49)).alloc (.cells #[.string { data := #[] }, .int .u16 0, .int .u16 0, .int .u32 0, .string { data := #[] }] 49)) (some pb) from gany' ga)
  clear ga P0 M0
  obtain ⟨b8, hb8⟩ : ∃ b, b = w.heap.size := ⟨_, rfl⟩
  obtain ⟨b10, hb10⟩ : ∃ b, b = w.heap.size + 1 := ⟨_, rfl⟩
  have NB := Lib.hid (show b8 ≠ pb ∧ b10 ≠ pb ∧ b8 ≠ mb ∧ b10 ≠ mb ∧ b8 ≠ b10 ∧ w.heap.size ≤ b8 ∧ w.heap.size ≤ b10 from by have := LP.out; have := LM.out; omega)
  rw [← hb8] at R8
  rw [← hb10] at R10
  go_enter Tryz.func20, Tryz.ntmps20
  go_upto_region 2 with fail
  generalize ((w.alloc (.cells #[.string { data := #[] }, .int .u16 0, .int .u16 0, .int .u32 0, .string { data := #[] }] 49)).alloc (.cells #[.string { data := #[] }, .int .u16 0, .int .u16 0, .int .u32 0, .string { data := #[] }] 49)) = w1 at *
  rw [← hb10, ← hb8]
  clear hb8 hb10
  have CN := pname_any pb p s w1 P.out hp (by omega)
  obtain ⟨R, hR⟩ : ∃ r, rdF s p p none [] = r := ⟨_, rfl⟩
  have RB := Lib.hid (show ∀ n q, R = .ok n q → q ≤ s.size from fun n q e => rd_next_le hp (hR.trans e))
  rw [hR] at CN
  have HR := Lib.hid hR
  clear hR hp
  obtain ⟨nm, hnm⟩ : ∃ n, naV R = n := ⟨_, rfl⟩
  obtain ⟨p1, hp1⟩ : ∃ n, naP R = n := ⟨_, rfl⟩
  obtain ⟨e1, he1⟩ : ∃ n, naE R = n := ⟨_, rfl⟩
  have B1 := Lib.hid (show e1 = 0 → p1 ≤ s.size from fun h0 => by subst he1 hp1; cases R with | ok n q => exact RB.out n q rfl | no x => exact Nat.zero_le _)
  rw [hnm, hp1, he1] at CN
  have N1 := Lib.hid hnm
  have N2 := Lib.hid hp1
  have N3 := Lib.hid he1
  clear hnm hp1 he1
  have CN := Lib.hid CN
  go_wp2_with fail
  refine Calls.mono CN.out ?_
  clear CN
  rintro e w2 ⟨rfl, hP', hg⟩
  have P := Lib.hid hP'
  have R8 := Lib.hid (gblock hg R8.out (by simpa using NB.out.1))
  have R10 := Lib.hid (gblock hg R10.out (by simpa using NB.out.2.1))
  have M := Lib.hid (gblock hg M.out (by simpa using NE.out.symm))
  have G := Lib.hid (gsome G.out hg)
  clear hP' hg
  have c0 := bcellAt R10.out 0
  have f0 := bfree R10.out 0
  go_upto_region 3 with fail
  clear c0 f0
  have gk : w2.grownBy (w2.setCell ⟨b10, 0, none⟩ (.string nm)) (some b10) := gset (grefl _ _) (p := ⟨b10, 0, none⟩) (.inl rfl) _
  have R8' := Lib.hid (gblock gk R8.out (by simpa using NB.out.2.2.2.2.1))
  have P' := Lib.hid (show Pt7 (w2.setCell ⟨b10, 0, none⟩ (.string nm)) pb _ _ from gblock gk P.out (by simpa using NB.out.2.1.symm))
  have M' := Lib.hid (gblock gk M.out (by simpa using NB.out.2.2.2.1.symm))
  have R10' := Lib.hid (show (w2.setCell ⟨b10, 0, none⟩ (.string nm)).heap[b10]? = some (.cells #[.string nm, .int .u16 0, .int .u16 0, .int .u32 0, .string { data := #[] }] 49 (0, 0)) from bset R10.out 0 (.string nm))
  have G' := Lib.hid (gset G.out (p := ⟨b10, 0, none⟩) (.inr NB.out.2.2.2.2.2.2) (.string nm))
  clear gk R8 P M R10 G
  have R8 := R8'
  have P := P'
  have M := M'
  have R10 := R10'
  have G := G'
  clear R8' P' M' R10' G'
  generalize (w2.setCell ⟨b10, 0, none⟩ (.string nm)) = w2s at *
  have CN := pnum_any pb p1 e1 s 2 w2s P.out B1.out (by have := HS.out; omega) (by omega)
  have VL := nuV_lt s p1 e1 2
  have B2 := Lib.hid (show nuE s p1 e1 2 = 0 → nuP s p1 e1 2 ≤ s.size from fun h0 => nuP_le h0)
  obtain ⟨v1, hv1⟩ : ∃ x, nuV s p1 e1 2 = x := ⟨_, rfl⟩
  obtain ⟨p2, hp2⟩ : ∃ x, nuP s p1 e1 2 = x := ⟨_, rfl⟩
  obtain ⟨e2, he2⟩ : ∃ x, nuE s p1 e1 2 = x := ⟨_, rfl⟩
  rw [hv1, hp2, he2] at CN
  rw [hv1] at VL
  rw [hp2, he2] at B2
  have V1 := Lib.hid hv1
  have Q1 := Lib.hid hp2
  have E1 := Lib.hid he2
  have K1 := B2
  clear B2 hv1 hp2 he2
  have Z1 := Lib.hid VL
  clear VL
  have CN := Lib.hid CN
  go_wp2_with fail
  refine Calls.mono CN.out ?_
  clear CN
  rintro e x3 ⟨rfl, hP', hg⟩
  have P := Lib.hid hP'
  have R8 := Lib.hid (gblock hg R8.out (by simpa using NB.out.1))
  have R10 := Lib.hid (gblock hg R10.out (by simpa using NB.out.2.1))
  have M := Lib.hid (gblock hg M.out (by simpa using NE.out.symm))
  have G := Lib.hid (gsome G.out hg)
  clear hP' hg
  have wv : IntKind.u16.wrap (v1 : Int) = v1 := by rw [IntKind.wrap_u16]; have := Z1.out; omega
  have c1 := bcellAt R10.out 1
  have f1 := bfree R10.out 1
  go_upto_region 4 with fail
  clear c1 f1
  have gk : x3.grownBy (x3.setCell ⟨b10, 1, none⟩ (.int .u16 v1)) (some b10) := gset (grefl _ _) (p := ⟨b10, 1, none⟩) (.inl rfl) _
  have R8' := Lib.hid (gblock gk R8.out (by simpa using NB.out.2.2.2.2.1))
  have P' := Lib.hid (show Pt7 (x3.setCell ⟨b10, 1, none⟩ (.int .u16 v1)) pb _ _ from gblock gk P.out (by simpa using NB.out.2.1.symm))
  have M' := Lib.hid (gblock gk M.out (by simpa using NB.out.2.2.2.1.symm))
  have R10' := Lib.hid (show (x3.setCell ⟨b10, 1, none⟩ (.int .u16 v1)).heap[b10]? = some (.cells #[.string nm, .int .u16 v1, .int .u16 0, .int .u32 0, .string { data := #[] }] 49 (0, 0)) from bset R10.out 1 (.int .u16 v1))
  have G' := Lib.hid (gset G.out (p := ⟨b10, 1, none⟩) (.inr NB.out.2.2.2.2.2.2) (.int .u16 v1))
  clear gk R8 P M R10 G
  have R8 := R8'
  have P := P'
  have M := M'
  have R10 := R10'
  have G := G'
  clear R8' P' M' R10' G'
  generalize (x3.setCell ⟨b10, 1, none⟩ (.int .u16 v1)) = x3s at *
  clear wv
  have CN := pnum_any pb p2 e2 s 2 x3s P.out K1.out (by have := HS.out; omega) (by omega)
  have VL := nuV_lt s p2 e2 2
  have B2 := Lib.hid (show nuE s p2 e2 2 = 0 → nuP s p2 e2 2 ≤ s.size from fun h0 => nuP_le h0)
  obtain ⟨v2, hv2⟩ : ∃ x, nuV s p2 e2 2 = x := ⟨_, rfl⟩
  obtain ⟨p3, hp3⟩ : ∃ x, nuP s p2 e2 2 = x := ⟨_, rfl⟩
  obtain ⟨e3, he3⟩ : ∃ x, nuE s p2 e2 2 = x := ⟨_, rfl⟩
  rw [hv2, hp3, he3] at CN
  rw [hv2] at VL
  rw [hp3, he3] at B2
  have V2 := Lib.hid hv2
  have Q2 := Lib.hid hp3
  have E2 := Lib.hid he3
  have K2 := B2
  clear B2 hv2 hp3 he3
  have Z2 := Lib.hid VL
  clear VL
  have CN := Lib.hid CN
  go_wp2_with fail
  refine Calls.mono CN.out ?_
  clear CN
  rintro e x4 ⟨rfl, hP', hg⟩
  have P := Lib.hid hP'
  have R8 := Lib.hid (gblock hg R8.out (by simpa using NB.out.1))
  have R10 := Lib.hid (gblock hg R10.out (by simpa using NB.out.2.1))
  have M := Lib.hid (gblock hg M.out (by simpa using NE.out.symm))
  have G := Lib.hid (gsome G.out hg)
  clear hP' hg
  have wv : IntKind.u16.wrap (v2 : Int) = v2 := by rw [IntKind.wrap_u16]; have := Z2.out; omega
  have c2 := bcellAt R10.out 2
  have f2 := bfree R10.out 2
  go_upto_region 5 with fail
  clear c2 f2
  have gk : x4.grownBy (x4.setCell ⟨b10, 2, none⟩ (.int .u16 v2)) (some b10) := gset (grefl _ _) (p := ⟨b10, 2, none⟩) (.inl rfl) _
  have R8' := Lib.hid (gblock gk R8.out (by simpa using NB.out.2.2.2.2.1))
  have P' := Lib.hid (show Pt7 (x4.setCell ⟨b10, 2, none⟩ (.int .u16 v2)) pb _ _ from gblock gk P.out (by simpa using NB.out.2.1.symm))
  have M' := Lib.hid (gblock gk M.out (by simpa using NB.out.2.2.2.1.symm))
  have R10' := Lib.hid (show (x4.setCell ⟨b10, 2, none⟩ (.int .u16 v2)).heap[b10]? = some (.cells #[.string nm, .int .u16 v1, .int .u16 v2, .int .u32 0, .string { data := #[] }] 49 (0, 0)) from bset R10.out 2 (.int .u16 v2))
  have G' := Lib.hid (gset G.out (p := ⟨b10, 2, none⟩) (.inr NB.out.2.2.2.2.2.2) (.int .u16 v2))
  clear gk R8 P M R10 G
  have R8 := R8'
  have P := P'
  have M := M'
  have R10 := R10'
  have G := G'
  clear R8' P' M' R10' G'
  generalize (x4.setCell ⟨b10, 2, none⟩ (.int .u16 v2)) = x4s at *
  clear wv
  have CN := pnum_any pb p3 e3 s 4 x4s P.out K2.out (by have := HS.out; omega) (by omega)
  have VL := nuV_lt s p3 e3 4
  have B2 := Lib.hid (show nuE s p3 e3 4 = 0 → nuP s p3 e3 4 ≤ s.size from fun h0 => nuP_le h0)
  obtain ⟨v3, hv3⟩ : ∃ x, nuV s p3 e3 4 = x := ⟨_, rfl⟩
  obtain ⟨p4, hp4⟩ : ∃ x, nuP s p3 e3 4 = x := ⟨_, rfl⟩
  obtain ⟨e4, he4⟩ : ∃ x, nuE s p3 e3 4 = x := ⟨_, rfl⟩
  rw [hv3, hp4, he4] at CN
  rw [hv3] at VL
  rw [hp4, he4] at B2
  have V3 := Lib.hid hv3
  have Q3 := Lib.hid hp4
  have E3 := Lib.hid he4
  have K3 := B2
  clear B2 hv3 hp4 he4
  have Z3 := Lib.hid VL
  clear VL
  have CN := Lib.hid CN
  go_wp2_with fail
  refine Calls.mono CN.out ?_
  clear CN
  rintro e x5 ⟨rfl, hP', hg⟩
  have P := Lib.hid hP'
  have R8 := Lib.hid (gblock hg R8.out (by simpa using NB.out.1))
  have R10 := Lib.hid (gblock hg R10.out (by simpa using NB.out.2.1))
  have M := Lib.hid (gblock hg M.out (by simpa using NE.out.symm))
  have G := Lib.hid (gsome G.out hg)
  clear hP' hg
  have wv : IntKind.u32.wrap (v3 : Int) = v3 := by rw [IntKind.wrap_u32]; have := Z3.out; omega
  have c3 := bcellAt R10.out 3
  have f3 := bfree R10.out 3
  go_upto_region 6 with fail
  clear c3 f3
  have gk : x5.grownBy (x5.setCell ⟨b10, 3, none⟩ (.int .u32 v3)) (some b10) := gset (grefl _ _) (p := ⟨b10, 3, none⟩) (.inl rfl) _
  have R8' := Lib.hid (gblock gk R8.out (by simpa using NB.out.2.2.2.2.1))
  have P' := Lib.hid (show Pt7 (x5.setCell ⟨b10, 3, none⟩ (.int .u32 v3)) pb _ _ from gblock gk P.out (by simpa using NB.out.2.1.symm))
  have M' := Lib.hid (gblock gk M.out (by simpa using NB.out.2.2.2.1.symm))
  have R10' := Lib.hid (show (x5.setCell ⟨b10, 3, none⟩ (.int .u32 v3)).heap[b10]? = some (.cells #[.string nm, .int .u16 v1, .int .u16 v2, .int .u32 v3, .string { data := #[] }] 49 (0, 0)) from bset R10.out 3 (.int .u32 v3))
  have G' := Lib.hid (gset G.out (p := ⟨b10, 3, none⟩) (.inr NB.out.2.2.2.2.2.2) (.int .u32 v3))
  clear gk R8 P M R10 G
  have R8 := R8'
  have P := P'
  have M := M'
  have R10 := R10'
  have G := G'
  clear R8' P' M' R10' G'
  generalize (x5.setCell ⟨b10, 3, none⟩ (.int .u32 v3)) = x5s at *
  clear wv
  have CN := pnum_any pb p4 e4 s 2 x5s P.out K3.out (by have := HS.out; omega) (by omega)
  have VL := nuV_lt s p4 e4 2
  have B2 := Lib.hid (show nuE s p4 e4 2 = 0 → nuP s p4 e4 2 ≤ s.size from fun h0 => nuP_le h0)
  obtain ⟨v4, hv4⟩ : ∃ x, nuV s p4 e4 2 = x := ⟨_, rfl⟩
  obtain ⟨p5, hp5⟩ : ∃ x, nuP s p4 e4 2 = x := ⟨_, rfl⟩
  obtain ⟨e5, he5⟩ : ∃ x, nuE s p4 e4 2 = x := ⟨_, rfl⟩
  rw [hv4, hp5, he5] at CN
  rw [hv4] at VL
  rw [hp5, he5] at B2
  have V4 := Lib.hid hv4
  have Q4 := Lib.hid hp5
  have E4 := Lib.hid he5
  have K4 := B2
  clear B2 hv4 hp5 he5
  have Z4 := Lib.hid VL
  clear VL
  have CN := Lib.hid CN
  go_wp2_with fail
  refine Calls.mono CN.out ?_
  clear CN
  rintro e x6 ⟨rfl, hP', hg⟩
  have P := Lib.hid hP'
  have R8 := Lib.hid (gblock hg R8.out (by simpa using NB.out.1))
  have R10 := Lib.hid (gblock hg R10.out (by simpa using NB.out.2.1))
  have M := Lib.hid (gblock hg M.out (by simpa using NE.out.symm))
  have G := Lib.hid (gsome G.out hg)
  clear hP' hg
  have wv : wrap64 (v4 : Int) = v4 := by have := Z4.out; unfold wrap64; omega
  go_upto_region 7 with fail
  rw [wv]
  clear wv
  by_cases h5 : e5 = 0
  case neg =>
    have RB1 := Lib.hid (rd1_bad (add := decide (k = 3)) (d := d) HR.out N2.out N3.out Q1.out E1.out Q2.out E2.out Q3.out E3.out E4.out h5)
    have e0 : ((e5 : Int) == 0) = false := by simp; omega
    have e0' : ((e5 : Int) != 0) = true := by simp; omega
    have c1 : x6.cell? ⟨pb, 1, none⟩ = some (.int .i64 e5) := bcellAt P.out 1
    clear h5
    have T8 := Lib.hid (bsetR R8.out #[.string nm, .int .u16 v1, .int .u16 v2, .int .u32 v3, .string { data := #[] }])
    have gk := gsetRs x6 b8 #[.string nm, .int .u16 v1, .int .u16 v2, .int .u32 v3, .string { data := #[] }]
    have P9 := Lib.hid (show Pt7 (x6.setRow b8 #[.string nm, .int .u16 v1, .int .u16 v2, .int .u32 v3, .string { data := #[] }]) pb _ _ from gblock gk P.out (by simpa using NB.out.1.symm))
    have M9 := Lib.hid (gblock gk M.out (by simpa using NB.out.2.2.1.symm))
    have G9 := Lib.hid (gsetRow_ G.out NB.out.2.2.2.2.2.1 #[.string nm, .int .u16 v1, .int .u16 v2, .int .u32 v3, .string { data := #[] }])
    clear gk
    go_wp2_with (first | refine wpList_load_row rfl 49 _ rfl b10 rfl _ _ _ _ R10.out Tryz.underlying49 rfl (by kernel_rfl) ?_ | refine wpList_store_row rfl 49 _ _ rfl b8 #[.string nm, .int .u16 v1, .int .u16 v2, .int .u32 v3, .string { data := #[] }] rfl rfl 49 _ R8.out (by kernel_rfl) rfl (by kernel_rfl) ?_)
    refine bodyPost_ret_by (results_cr rfl _ _ b8 49 #[.string nm, .int .u16 v1, .int .u16 v2, .int .u32 v3, .string { data := #[] }] (0, 0) _ rfl T8.out Tryz.underlying49 rfl (by kernel_rfl)) rfl ?_
    exact RkPost.no (rr := ⟨nm, v1, v2, v3, ByteArray.empty⟩) RB1.out (TG.ofB G9.out _) rfl P9.out M9.out (.inl ⟨rfl, rfl⟩)
  subst h5
  obtain ⟨n, hr, h1, h2, h3, h4, h6, h7, h8⟩ := rd1_head HR.out N1.out N2.out N3.out V1.out Q1.out E1.out V2.out Q2.out E2.out V3.out Q3.out E3.out V4.out Q4.out E4.out
  have RD := Lib.hid hr
  clear HR N1 N2 N3 V1 Q1 E1 V2 Q2 E2 V3 Q3 E3 V4 Q4 E4 RB hr
  have X1 := Lib.hid h1
  have X2 := Lib.hid h2
  have X3 := Lib.hid h3
  have X4 := Lib.hid h4
  have X6 := Lib.hid h6
  have X7 := Lib.hid h7
  have X8 := Lib.hid h8
  clear h1 h2 h3 h4 h6 h7 h8
  have wv : wrap64 (v4 : Int) = v4 := by have := Z4.out; unfold wrap64; omega
  have c0 : x6.cell? ⟨pb, 0, none⟩ = some (.int .i64 p5) := bcellAt P.out 0
  have c1 : x6.cell? ⟨pb, 1, none⟩ = some (.int .i64 0) := bcellAt P.out 1
  have f0 : x6.frozen? ⟨pb, 0, none⟩ = false := bfree P.out 0
  have f1 : x6.frozen? ⟨pb, 1, none⟩ = false := bfree P.out 1
  have hs5 : s.size ≤ 65535 := HS.out
  have hp5 : p5 ≤ s.size := by have := X7.out; have := X8.out; omega
  have hv4 : v4 < 65536 := by have := Z4.out; omega
  by_cases hL : p5 + v4 ≤ s.size
  case neg =>
    have d6 : decide ((s.size : Int) - (p5 : Int) < (v4 : Int)) = true := decide_eq_true (by omega)
    have RB1 := Lib.hid (rd1_short (add := decide (k = 3)) (d := d) RD.out (by have := X6.out; have := X7.out; omega))
    clear hL
    have gk : x6.grownBy (x6.setCell ⟨pb, 1, none⟩ (.int .i64 4)) (some pb) := gset (grefl _ _) (p := ⟨pb, 1, none⟩) (.inl rfl) _
    have R8' := Lib.hid (gblock gk R8.out (by simpa using NB.out.1))
    have R10' := Lib.hid (gblock gk R10.out (by simpa using NB.out.2.1))
    have M' := Lib.hid (gblock gk M.out (by simpa using NE.out.symm))
    have P' := Lib.hid (show Pt7 (x6.setCell ⟨pb, 1, none⟩ (.int .i64 4)) pb (p5) (4) from bset P.out 1 (.int .i64 4))
    have G' := Lib.hid (gsome G.out gk)
    clear gk R8 R10 M P G
    have R8 := R8'
    have R10 := R10'
    have M := M'
    have P := P'
    have G := G'
    clear R8' R10' M' P' G'
    have t1 : (x6.setCell ⟨pb, 1, none⟩ (.int .i64 4)).cell? ⟨pb, 1, none⟩ = some (.int .i64 4) := bcellAt P.out 1
    have T8 := Lib.hid (bsetR R8.out #[.string nm, .int .u16 v1, .int .u16 v2, .int .u32 v3, .string { data := #[] }])
    have gk := gsetRs (x6.setCell ⟨pb, 1, none⟩ (.int .i64 4)) b8 #[.string nm, .int .u16 v1, .int .u16 v2, .int .u32 v3, .string { data := #[] }]
    have P9 := Lib.hid (show Pt7 ((x6.setCell ⟨pb, 1, none⟩ (.int .i64 4)).setRow b8 #[.string nm, .int .u16 v1, .int .u16 v2, .int .u32 v3, .string { data := #[] }]) pb _ _ from gblock gk P.out (by simpa using NB.out.1.symm))
    have M9 := Lib.hid (gblock gk M.out (by simpa using NB.out.2.2.1.symm))
    have G9 := Lib.hid (gsetRow_ G.out NB.out.2.2.2.2.2.1 #[.string nm, .int .u16 v1, .int .u16 v2, .int .u32 v3, .string { data := #[] }])
    clear gk
    go_wp2_with (first | refine wpList_load_row rfl 49 _ rfl b10 rfl _ _ _ _ R10.out Tryz.underlying49 rfl (by kernel_rfl) ?_ | refine wpList_store_row rfl 49 _ _ rfl b8 #[.string nm, .int .u16 v1, .int .u16 v2, .int .u32 v3, .string { data := #[] }] rfl rfl 49 _ R8.out (by kernel_rfl) rfl (by kernel_rfl) ?_)
    refine bodyPost_ret_by (results_cr rfl _ _ b8 49 #[.string nm, .int .u16 v1, .int .u16 v2, .int .u32 v3, .string { data := #[] }] (0, 0) _ rfl T8.out Tryz.underlying49 rfl (by kernel_rfl)) rfl ?_
    exact RkPost.no (rr := ⟨nm, v1, v2, v3, ByteArray.empty⟩) RB1.out (TG.ofB G9.out _) rfl P9.out M9.out (.inl ⟨rfl, rfl⟩)
  have d6 : decide ((s.size : Int) - (p5 : Int) < (v4 : Int)) = false := decide_eq_false (by omega)
  have LL := Lib.hid hL
  clear hL
  have hpe : p5 + v4 ≤ s.size := LL.out
  by_cases k41 : v1 = 41
  case neg =>
    have d41 : ((v1 : Int) == 41) = false := by simp; omega
    have gk : x6.grownBy (x6.setCell ⟨pb, 0, none⟩ (.int .i64 ((p5 : Int) + (v4 : Int)))) (some pb) := gset (grefl _ _) (p := ⟨pb, 0, none⟩) (.inl rfl) _
    have R8' := Lib.hid (gblock gk R8.out (by simpa using NB.out.1))
    have R10' := Lib.hid (gblock gk R10.out (by simpa using NB.out.2.1))
    have M' := Lib.hid (gblock gk M.out (by simpa using NE.out.symm))
    have P' := Lib.hid (show Pt7 (x6.setCell ⟨pb, 0, none⟩ (.int .i64 ((p5 : Int) + (v4 : Int)))) pb (p5 + v4) (0) from bset P.out 0 (.int .i64 ((p5 : Int) + (v4 : Int))))
    have G' := Lib.hid (gsome G.out gk)
    clear gk R8 R10 M P G
    have R8 := R8'
    have R10 := R10'
    have M := M'
    have P := P'
    have G := G'
    clear R8' R10' M' P' G'
    have t1 := bcellAt R10.out 1
    go_upto_region 20 with fail
    clear c0 c1 f0 f1 wv d6 d41 t1
    generalize (x6.setCell ⟨pb, 0, none⟩ (.int .i64 ((p5 : Int) + (v4 : Int)))) = x6t at *
    have X5 := Lib.hid k41
    obtain ⟨dat, x, CR, RX⟩ := rd1_dat (add := decide (k = 3)) (d := d) RD.out X1.out X2.out X3.out X4.out X6.out X7.out X8.out LL.out k41 hs5
    have RB1 := Lib.hid RX
    clear k41 RX RD X1 X2 X3 X4 X5 X6 X7 X8 LL Z1 Z2 Z3 Z4 B1 K1 K2 K3 K4 hs5 hp5 hv4 hpe
    have CR := Lib.hid CR
    have t1 := bcellAt R10.out 1
    go_wp2_with fail
    refine Calls.mono (CR.out x6t) ?_
    clear CR
    rintro e y1 ⟨rfl, hg⟩
    have P' := Lib.hid (P.out.kept hg)
    have R8' := Lib.hid (gblock hg R8.out (by simp))
    have R10' := Lib.hid (gblock hg R10.out (by simp))
    have M' := Lib.hid (gblock hg M.out (by simp))
    have G' := Lib.hid (gsome G.out (gany' hg))
    clear hg t1 P R8 R10 M G
    have R8 := R8'
    have R10 := R10'
    have M := M'
    have P := P'
    have G := G'
    clear R8' R10' M' P' G'
    have c4 := bcellAt R10.out 4
    have f4 := bfree R10.out 4
    have gk : y1.grownBy (y1.setCell ⟨b10, 4, none⟩ (.string dat)) (some b10) := gset (grefl _ _) (p := ⟨b10, 4, none⟩) (.inl rfl) _
    have R8' := Lib.hid (gblock gk R8.out (by simpa using NB.out.2.2.2.2.1))
    have P' := Lib.hid (show Pt7 (y1.setCell ⟨b10, 4, none⟩ (.string dat)) pb _ _ from gblock gk P.out (by simpa using NB.out.2.1.symm))
    have M' := Lib.hid (gblock gk M.out (by simpa using NB.out.2.2.2.1.symm))
    have R10' := Lib.hid (show (y1.setCell ⟨b10, 4, none⟩ (.string dat)).heap[b10]? = some (.cells #[.string nm, .int .u16 v1, .int .u16 v2, .int .u32 v3, .string dat] 49 (0, 0)) from bset R10.out 4 (.string dat))
    have G' := Lib.hid (gset G.out (p := ⟨b10, 4, none⟩) (.inr NB.out.2.2.2.2.2.2) (.string dat))
    clear gk R8 P M R10 G
    have R8 := R8'
    have P := P'
    have M := M'
    have R10 := R10'
    have G := G'
    clear R8' P' M' R10' G'
    have e1 := bcellAt P.out 1
    have g1 := bfree P.out 1
    have gk : (y1.setCell ⟨b10, 4, none⟩ (.string dat)).grownBy ((y1.setCell ⟨b10, 4, none⟩ (.string dat)).setCell ⟨pb, 1, none⟩ (.int .i64 x)) (some pb) := gset (grefl _ _) (p := ⟨pb, 1, none⟩) (.inl rfl) _
    have R8' := Lib.hid (gblock gk R8.out (by simpa using NB.out.1))
    have R10' := Lib.hid (gblock gk R10.out (by simpa using NB.out.2.1))
    have M' := Lib.hid (gblock gk M.out (by simpa using NE.out.symm))
    have P' := Lib.hid (show Pt7 ((y1.setCell ⟨b10, 4, none⟩ (.string dat)).setCell ⟨pb, 1, none⟩ (.int .i64 x)) pb (p5 + v4) x from bset P.out 1 (.int .i64 x))
    have G' := Lib.hid (gsome G.out gk)
    clear gk R8 R10 M P G
    have R8 := R8'
    have R10 := R10'
    have M := M'
    have P := P'
    have G := G'
    clear R8' R10' M' P' G'
    go_upto_region 21 with fail
    clear c4 f4 e1 g1
    generalize ((y1.setCell ⟨b10, 4, none⟩ (.string dat)).setCell ⟨pb, 1, none⟩ (.int .i64 x)) = y2 at *
    have T8 := Lib.hid (bsetR R8.out #[.string nm, .int .u16 v1, .int .u16 v2, .int .u32 v3, .string dat])
    have gk := gsetRs y2 b8 #[.string nm, .int .u16 v1, .int .u16 v2, .int .u32 v3, .string dat]
    have P9 := Lib.hid (show Pt7 (y2.setRow b8 #[.string nm, .int .u16 v1, .int .u16 v2, .int .u32 v3, .string dat]) pb _ _ from gblock gk P.out (by simpa using NB.out.1.symm))
    have M9 := Lib.hid (gblock gk M.out (by simpa using NB.out.2.2.1.symm))
    have G9 := Lib.hid (gsetRow_ G.out NB.out.2.2.2.2.2.1 #[.string nm, .int .u16 v1, .int .u16 v2, .int .u32 v3, .string dat])
    clear gk
    go_wp2_with (first | refine wpList_load_row rfl 49 _ rfl b10 rfl _ _ _ _ R10.out Tryz.underlying49 rfl (by kernel_rfl) ?_ | refine wpList_store_row rfl 49 _ _ rfl b8 #[.string nm, .int .u16 v1, .int .u16 v2, .int .u32 v3, .string dat] rfl rfl 49 _ R8.out (by kernel_rfl) rfl (by kernel_rfl) ?_)
    refine bodyPost_ret_by (results_cr rfl _ _ b8 49 #[.string nm, .int .u16 v1, .int .u16 v2, .int .u32 v3, .string dat] (0, 0) _ rfl T8.out Tryz.underlying49 rfl (by kernel_rfl)) rfl ?_
    rcases RB1.out with ⟨rfl, h1⟩ | ⟨h0, h1⟩
    · exact RkPost.put h1 (TG.ofB G9.out _) rfl P9.out M9.out
    · exact RkPost.no (rr := ⟨nm, v1, v2, v3, dat⟩) h1 (TG.ofB G9.out _) rfl P9.out M9.out (.inl ⟨rfl, rfl⟩)
  have d41 : ((v1 : Int) == 41) = true := by simp; omega
  have X5 := Lib.hid k41
  clear k41
  have gk : x6.grownBy (x6.setCell ⟨pb, 0, none⟩ (.int .i64 ((p5 : Int) + (v4 : Int)))) (some pb) := gset (grefl _ _) (p := ⟨pb, 0, none⟩) (.inl rfl) _
  have R8' := Lib.hid (gblock gk R8.out (by simpa using NB.out.1))
  have R10' := Lib.hid (gblock gk R10.out (by simpa using NB.out.2.1))
  have M' := Lib.hid (gblock gk M.out (by simpa using NE.out.symm))
  have P' := Lib.hid (show Pt7 (x6.setCell ⟨pb, 0, none⟩ (.int .i64 ((p5 : Int) + (v4 : Int)))) pb (p5 + v4) (0) from bset P.out 0 (.int .i64 ((p5 : Int) + (v4 : Int))))
  have G' := Lib.hid (gsome G.out gk)
  clear gk R8 R10 M P G
  have R8 := R8'
  have R10 := R10'
  have M := M'
  have P := P'
  have G := G'
  clear R8' R10' M' P' G'
  have t1 := bcellAt R10.out 1
  go_upto_region 14 with fail
  clear c0 c1 f0 f1 wv d6 d41 t1
  generalize (x6.setCell ⟨pb, 0, none⟩ (.int .i64 ((p5 : Int) + (v4 : Int)))) = x6t at *
  by_cases hk3 : k = 3
  case neg =>
    have RB1 := Lib.hid (rd1_not (k := k) (d := d) RD.out X1.out X2.out X6.out X7.out X8.out LL.out X5.out (fun h => hk3 h.1))
    have a1 : ((k : Int) != 3) = true := by simp; omega
    clear hk3
    clear hs5 hp5 hv4 hpe RD X1 X2 X3 X4 X5 X6 X7 X8 LL Z1 Z2 Z3 Z4 B1 K1 K2 K3 K4
    have c1 := bcellAt P.out 1
    have f1 := bfree P.out 1
    have m15 : x6t.cell? ⟨mb, 15, none⟩ = some (.bool d.has) := bcellAt M.out 15
    have n0 := bcellAt R10.out 0
    have gk : x6t.grownBy (x6t.setCell ⟨pb, 1, none⟩ (.int .i64 3)) (some pb) := gset (grefl _ _) (p := ⟨pb, 1, none⟩) (.inl rfl) _
    have R8' := Lib.hid (gblock gk R8.out (by simpa using NB.out.1))
    have R10' := Lib.hid (gblock gk R10.out (by simpa using NB.out.2.1))
    have M' := Lib.hid (gblock gk M.out (by simpa using NE.out.symm))
    have P' := Lib.hid (show Pt7 (x6t.setCell ⟨pb, 1, none⟩ (.int .i64 3)) pb (p5 + v4) (3) from bset P.out 1 (.int .i64 3))
    have G' := Lib.hid (gsome G.out gk)
    clear gk R8 R10 M P G
    have R8 := R8'
    have R10 := R10'
    have M := M'
    have P := P'
    have G := G'
    clear R8' R10' M' P' G'
    go_upto_region 16 with fail
    clear c1 f1 m15 n0
    generalize (x6t.setCell ⟨pb, 1, none⟩ (.int .i64 3)) = y1 at *
    have T8 := Lib.hid (bsetR R8.out #[.string nm, .int .u16 v1, .int .u16 v2, .int .u32 v3, .string { data := #[] }])
    have gk := gsetRs y1 b8 #[.string nm, .int .u16 v1, .int .u16 v2, .int .u32 v3, .string { data := #[] }]
    have P9 := Lib.hid (show Pt7 (y1.setRow b8 #[.string nm, .int .u16 v1, .int .u16 v2, .int .u32 v3, .string { data := #[] }]) pb _ _ from gblock gk P.out (by simpa using NB.out.1.symm))
    have M9 := Lib.hid (gblock gk M.out (by simpa using NB.out.2.2.1.symm))
    have G9 := Lib.hid (gsetRow_ G.out NB.out.2.2.2.2.2.1 #[.string nm, .int .u16 v1, .int .u16 v2, .int .u32 v3, .string { data := #[] }])
    clear gk
    go_wp2_with (first | refine wpList_load_row rfl 49 _ rfl b10 rfl _ _ _ _ R10.out Tryz.underlying49 rfl (by kernel_rfl) ?_ | refine wpList_store_row rfl 49 _ _ rfl b8 #[.string nm, .int .u16 v1, .int .u16 v2, .int .u32 v3, .string { data := #[] }] rfl rfl 49 _ R8.out (by kernel_rfl) rfl (by kernel_rfl) ?_)
    refine bodyPost_ret_by (results_cr rfl _ _ b8 49 #[.string nm, .int .u16 v1, .int .u16 v2, .int .u32 v3, .string { data := #[] }] (0, 0) _ rfl T8.out Tryz.underlying49 rfl (by kernel_rfl)) rfl ?_
    exact RkPost.no (rr := ⟨nm, v1, v2, v3, ByteArray.empty⟩) RB1.out (TG.ofB G9.out _) rfl P9.out M9.out (.inl ⟨rfl, rfl⟩)
  subst hk3
  have a1 : (((3 : Nat) : Int) != 3) = false := by decide
  cases hh : d.has with
  | true =>
    have RB1 := Lib.hid (rd1_not (k := 3) (d := d) RD.out X1.out X2.out X6.out X7.out X8.out LL.out X5.out (fun h => by rw [hh] at h; cases h.2.1))
    clear hs5 hp5 hv4 hpe RD X1 X2 X3 X4 X5 X6 X7 X8 LL Z1 Z2 Z3 Z4 B1 K1 K2 K3 K4
    have c1 := bcellAt P.out 1
    have f1 := bfree P.out 1
    have m15 : x6t.cell? ⟨mb, 15, none⟩ = some (.bool d.has) := bcellAt M.out 15
    have n0 := bcellAt R10.out 0
    rw [hh] at m15
    have gk : x6t.grownBy (x6t.setCell ⟨pb, 1, none⟩ (.int .i64 3)) (some pb) := gset (grefl _ _) (p := ⟨pb, 1, none⟩) (.inl rfl) _
    have R8' := Lib.hid (gblock gk R8.out (by simpa using NB.out.1))
    have R10' := Lib.hid (gblock gk R10.out (by simpa using NB.out.2.1))
    have M' := Lib.hid (gblock gk M.out (by simpa using NE.out.symm))
    have P' := Lib.hid (show Pt7 (x6t.setCell ⟨pb, 1, none⟩ (.int .i64 3)) pb (p5 + v4) (3) from bset P.out 1 (.int .i64 3))
    have G' := Lib.hid (gsome G.out gk)
    clear gk R8 R10 M P G
    have R8 := R8'
    have R10 := R10'
    have M := M'
    have P := P'
    have G := G'
    clear R8' R10' M' P' G'
    clear hh
    go_upto_region 16 with fail
    clear c1 f1 m15 n0
    generalize (x6t.setCell ⟨pb, 1, none⟩ (.int .i64 3)) = y1 at *
    have T8 := Lib.hid (bsetR R8.out #[.string nm, .int .u16 v1, .int .u16 v2, .int .u32 v3, .string { data := #[] }])
    have gk := gsetRs y1 b8 #[.string nm, .int .u16 v1, .int .u16 v2, .int .u32 v3, .string { data := #[] }]
    have P9 := Lib.hid (show Pt7 (y1.setRow b8 #[.string nm, .int .u16 v1, .int .u16 v2, .int .u32 v3, .string { data := #[] }]) pb _ _ from gblock gk P.out (by simpa using NB.out.1.symm))
    have M9 := Lib.hid (gblock gk M.out (by simpa using NB.out.2.2.1.symm))
    have G9 := Lib.hid (gsetRow_ G.out NB.out.2.2.2.2.2.1 #[.string nm, .int .u16 v1, .int .u16 v2, .int .u32 v3, .string { data := #[] }])
    clear gk
    go_wp2_with (first | refine wpList_load_row rfl 49 _ rfl b10 rfl _ _ _ _ R10.out Tryz.underlying49 rfl (by kernel_rfl) ?_ | refine wpList_store_row rfl 49 _ _ rfl b8 #[.string nm, .int .u16 v1, .int .u16 v2, .int .u32 v3, .string { data := #[] }] rfl rfl 49 _ R8.out (by kernel_rfl) rfl (by kernel_rfl) ?_)
    refine bodyPost_ret_by (results_cr rfl _ _ b8 49 #[.string nm, .int .u16 v1, .int .u16 v2, .int .u32 v3, .string { data := #[] }] (0, 0) _ rfl T8.out Tryz.underlying49 rfl (by kernel_rfl)) rfl ?_
    exact RkPost.no (rr := ⟨nm, v1, v2, v3, ByteArray.empty⟩) RB1.out (TG.ofB G9.out _) rfl P9.out M9.out (.inl ⟨rfl, rfl⟩)
  | false =>
  by_cases hn : nm = root0
  case neg =>
    have RB1 := Lib.hid (rd1_not (k := 3) (d := d) RD.out X1.out X2.out X6.out X7.out X8.out LL.out X5.out (fun h => hn h.2.2))
    have a2 : (nm.toList == [0]) = false := by have := str_ne hn; rwa [show root0.toList = [0] from by decide +kernel] at this
    clear hn
    clear hs5 hp5 hv4 hpe RD X1 X2 X3 X4 X5 X6 X7 X8 LL Z1 Z2 Z3 Z4 B1 K1 K2 K3 K4
    have c1 := bcellAt P.out 1
    have f1 := bfree P.out 1
    have m15 : x6t.cell? ⟨mb, 15, none⟩ = some (.bool d.has) := bcellAt M.out 15
    have n0 := bcellAt R10.out 0
    rw [hh] at m15
    have gk : x6t.grownBy (x6t.setCell ⟨pb, 1, none⟩ (.int .i64 3)) (some pb) := gset (grefl _ _) (p := ⟨pb, 1, none⟩) (.inl rfl) _
    have R8' := Lib.hid (gblock gk R8.out (by simpa using NB.out.1))
    have R10' := Lib.hid (gblock gk R10.out (by simpa using NB.out.2.1))
    have M' := Lib.hid (gblock gk M.out (by simpa using NE.out.symm))
    have P' := Lib.hid (show Pt7 (x6t.setCell ⟨pb, 1, none⟩ (.int .i64 3)) pb (p5 + v4) (3) from bset P.out 1 (.int .i64 3))
    have G' := Lib.hid (gsome G.out gk)
    clear gk R8 R10 M P G
    have R8 := R8'
    have R10 := R10'
    have M := M'
    have P := P'
    have G := G'
    clear R8' R10' M' P' G'
    clear hh
    go_upto_region 16 with fail
    clear c1 f1 m15 n0
    generalize (x6t.setCell ⟨pb, 1, none⟩ (.int .i64 3)) = y1 at *
    have T8 := Lib.hid (bsetR R8.out #[.string nm, .int .u16 v1, .int .u16 v2, .int .u32 v3, .string { data := #[] }])
    have gk := gsetRs y1 b8 #[.string nm, .int .u16 v1, .int .u16 v2, .int .u32 v3, .string { data := #[] }]
    have P9 := Lib.hid (show Pt7 (y1.setRow b8 #[.string nm, .int .u16 v1, .int .u16 v2, .int .u32 v3, .string { data := #[] }]) pb _ _ from gblock gk P.out (by simpa using NB.out.1.symm))
    have M9 := Lib.hid (gblock gk M.out (by simpa using NB.out.2.2.1.symm))
    have G9 := Lib.hid (gsetRow_ G.out NB.out.2.2.2.2.2.1 #[.string nm, .int .u16 v1, .int .u16 v2, .int .u32 v3, .string { data := #[] }])
    clear gk
    go_wp2_with (first | refine wpList_load_row rfl 49 _ rfl b10 rfl _ _ _ _ R10.out Tryz.underlying49 rfl (by kernel_rfl) ?_ | refine wpList_store_row rfl 49 _ _ rfl b8 #[.string nm, .int .u16 v1, .int .u16 v2, .int .u32 v3, .string { data := #[] }] rfl rfl 49 _ R8.out (by kernel_rfl) rfl (by kernel_rfl) ?_)
    refine bodyPost_ret_by (results_cr rfl _ _ b8 49 #[.string nm, .int .u16 v1, .int .u16 v2, .int .u32 v3, .string { data := #[] }] (0, 0) _ rfl T8.out Tryz.underlying49 rfl (by kernel_rfl)) rfl ?_
    exact RkPost.no (rr := ⟨nm, v1, v2, v3, ByteArray.empty⟩) RB1.out (TG.ofB G9.out _) rfl P9.out M9.out (.inl ⟨rfl, rfl⟩)
  have a2 : (nm.toList == [0]) = true := by rw [hn]; decide +kernel
  obtain ⟨z, e, v, f, er, l, CR, RX⟩ := rd1_yes (d := d) RD.out X1.out X2.out X3.out X4.out X6.out X7.out X8.out LL.out X5.out hs5 hh hn
  have RB1 := Lib.hid RX
  have CR := Lib.hid CR
  have m15 : x6t.cell? ⟨mb, 15, none⟩ = some (.bool d.has) := bcellAt M.out 15
  rw [hh] at m15
  clear hh hn RX RD X1 X2 X3 X4 X5 X6 X7 X8 Z1 Z2 Z3 Z4 B1 K1 K2 K3 K4
  have f15 := bfree M.out 15
  have n0 := bcellAt R10.out 0
  have gk : x6t.grownBy (x6t.setCell ⟨mb, 15, none⟩ (.bool true)) (some mb) := gset (grefl _ _) (p := ⟨mb, 15, none⟩) (.inl rfl) _
  have R8' := Lib.hid (gblock gk R8.out (by simpa using NB.out.2.2.1))
  have R10' := Lib.hid (gblock gk R10.out (by simpa using NB.out.2.2.2.1))
  have P' := Lib.hid (show Pt7 (x6t.setCell ⟨mb, 15, none⟩ (.bool true)) pb _ _ from gblock gk P.out (by simpa using NE.out))
  have M1 := M.out
  unfold mrow at M1
  have M2 := bset M1 15 (.bool true)
  simp only [List.setIfInBounds_toArray, List.set_cons_succ, List.set_cons_zero] at M2
  have M' := Lib.hid M2
  have T' := Lib.hid ((TG.ofB G.out (some mb)).trans (TG.ofM gk pb) (fun _ e => .inl e))
  clear gk M1 M2 R8 R10 P M G
  have R8 := R8'
  have R10 := R10'
  have P := P'
  have M := M'
  have T := T'
  clear R8' R10' P' M' T'
  go_upto_region 18 with fail
  clear m15 f15 n0 a1 a2
  generalize (x6t.setCell ⟨mb, 15, none⟩ (.bool true)) = y0 at *
  have d2 : ∀ g : GrR (KC (fun a => a.block = b10)) y0.drew, g.w.cell? ⟨b10, 2, none⟩ = some (.int .u16 v2) := fun g => g.h _ _ rfl (bcellAt R10.out 2)
  have d3 : ∀ g : GrR (KC (fun a => a.block = b10)) y0.drew, g.w.cell? ⟨b10, 3, none⟩ = some (.int .u32 v3) := fun g => g.h _ _ rfl (bcellAt R10.out 3)
  have q1 : (0 : Int) ≤ (p5 : Int) := by omega
  have q2 : (p5 : Int) ≤ (p5 : Int) + (v4 : Int) := by omega
  have q3 : (p5 : Int) + (v4 : Int) ≤ (s.size : Int) := by omega
  have q4 : ((p5 : Int) + (v4 : Int)).toNat = p5 + v4 := by omega
  have q5 : IntKind.i64.wrap ((p5 : Int) + (v4 : Int)) = (p5 : Int) + (v4 : Int) := IntWalk.i64_in _ (by omega)
  refine wp_region_segsR (KC.rt (fun a => a.block = b10)) [(true, [0, 1, 2, 3, 4, 5, 6, 7, 8, 9, 10, 11]), (false, [12]), (true, [13, 14, 15, 16, 17]), (false, [18]), (true, [19, 20]), (false, [21])] (by kernel_rfl) (by kernel_rfl) ?_
  refine wpSegsR_quiet rfl ?_
  simp only [List.filterMap_cons, List.filterMap_nil, List.getElem?_toArray, List.getElem?_cons_succ, List.getElem?_cons_zero]
  show wpQuiet _ _ _ _ [_, _, _, _, _, _, _, _, _, _, _, _] _
  repeat (go_big_quiet_step (fail))
  refine wpQuiet_nil ?_
  have hg : y0.grownBy y0.drew none := gdrew (grefl y0 none)
  have P' := Lib.hid (P.out.kept hg)
  have R8' := Lib.hid (gblock hg R8.out (by simp))
  have R10' := Lib.hid (gblock hg R10.out (by simp))
  have M' := Lib.hid (gblock hg M.out (by simp))
  have T' := Lib.hid (T.out.trans (TG.of0 hg pb (some mb)) (fun _ e => .inl e))
  clear R8 R10 P M T
  have R8 := R8'
  have R10 := R10'
  have P := P'
  have M := M'
  have T := T'
  clear R8' R10' P' M' T'
  clear hg d2 d3
  generalize y0.drew = y1 at *
  refine wpSegsR_one (by simp only [List.getElem?_toArray, List.getElem?_cons_succ, List.getElem?_cons_zero]; exact rfl) ?_
  go_wp2_with fail
  clear q1 q2 q3 q4 q5 hs5 hp5 hv4 hpe LL
  refine Calls.mono (CR.out y1) ?_
  clear CR
  rintro e' y2 ⟨A, cap, rfl, hf, hg⟩
  have KG := Lib.hid (KC.of (p := (fun a => a.block = b10)) hg)
  have LB := Lib.hid (show mb < y1.heap.size ∧ pb < y1.heap.size ∧ b8 < y1.heap.size ∧ w.heap.size ≤ y1.heap.size from ⟨blt M.out, blt P.out, blt R8.out, T.out.size⟩)
  have P' := Lib.hid (P.out.kept hg)
  have R8' := Lib.hid (gblock hg R8.out (by simp))
  have R10' := Lib.hid (gblock hg R10.out (by simp))
  have M' := Lib.hid (gblock hg M.out (by simp))
  have T' := Lib.hid (T.out.trans (TG.of0 hg pb (some mb)) (fun _ e => .inl e))
  clear R8 R10 P M T
  have R8 := R8'
  have R10 := R10'
  have P := P'
  have M := M'
  have T := T'
  clear R8' R10' P' M' T'
  have F := Lib.hid hf
  clear hf hg
  go_wp2_with fail
  refine ⟨KG.out, ?_⟩
  clear KG
  refine wpSegsR_quiet rfl ?_
  simp only [List.filterMap_cons, List.filterMap_nil, List.getElem?_toArray, List.getElem?_cons_succ, List.getElem?_cons_zero]
  show wpQuiet _ _ _ _ [_, _, _, _, _] _
  repeat (go_big_quiet_step (fail))
  refine wpQuiet_nil ?_
  refine wpSegsR_one (by simp only [List.getElem?_toArray, List.getElem?_cons_succ, List.getElem?_cons_zero]; exact rfl) ?_
  go_wp2_with (refine wpList_store_mid rfl 30 _ _ rfl mb 16 #[.int .u16 z, .int .u8 e, .int .u8 v, .int .u16 f, .slice A l.length cap] #[.int .u16 h.id, .bool h.qr, .int .u8 h.op, .bool h.aa, .bool h.tc, .bool h.rd, .bool h.ra, .bool h.z, .bool h.ad, .bool h.cd, .int .u8 h.code, vq, va, vu, vx, .bool true, .int .u16 z, .int .u8 e, .int .u8 v, .int .u16 f, .slice A l.length cap] rfl rfl 32 _ M.out (by kernel_rfl) (by simp) (by kernel_rfl) (by rfl) ?_)
  have gk := grow_row y2 mb #[.int .u16 h.id, .bool h.qr, .int .u8 h.op, .bool h.aa, .bool h.tc, .bool h.rd, .bool h.ra, .bool h.z, .bool h.ad, .bool h.cd, .int .u8 h.code, vq, va, vu, vx, .bool true, .int .u16 z, .int .u8 e, .int .u8 v, .int .u16 f, .slice A l.length cap]
  have NM := Lib.hid (show mb ≠ b10 from NB.out.2.2.2.1.symm)
  refine ⟨KC.ofB gk (fun a ha => by rw [ha]; exact NM.out.symm), ?_⟩
  simp only [Act.put]
  have R8' := Lib.hid (gblock gk R8.out (by simpa using NB.out.2.2.1))
  have R10' := Lib.hid (gblock gk R10.out (by simpa using NB.out.2.2.2.1))
  have P' := Lib.hid (show Pt7 (y2.setRow mb #[.int .u16 h.id, .bool h.qr, .int .u8 h.op, .bool h.aa, .bool h.tc, .bool h.rd, .bool h.ra, .bool h.z, .bool h.ad, .bool h.cd, .int .u8 h.code, vq, va, vu, vx, .bool true, .int .u16 z, .int .u8 e, .int .u8 v, .int .u16 f, .slice A l.length cap]) pb _ _ from gblock gk P.out (by simpa using NE.out))
  have M' := Lib.hid (bsetR M.out #[.int .u16 h.id, .bool h.qr, .int .u8 h.op, .bool h.aa, .bool h.tc, .bool h.rd, .bool h.ra, .bool h.z, .bool h.ad, .bool h.cd, .int .u8 h.code, vq, va, vu, vx, .bool true, .int .u16 z, .int .u8 e, .int .u8 v, .int .u16 f, .slice A l.length cap])
  have T' := Lib.hid (T.out.trans (TG.ofM gk pb) (fun _ e => .inl e))
  have F' := Lib.hid (F.out.keptb gk LB.out.1)
  clear gk R8 R10 P M T F
  have R8 := R8'
  have R10 := R10'
  have P := P'
  have M := M'
  have T := T'
  have F := F'
  clear R8' R10' P' M' T' F'
  generalize (y2.setRow mb #[.int .u16 h.id, .bool h.qr, .int .u8 h.op, .bool h.aa, .bool h.tc, .bool h.rd, .bool h.ra, .bool h.z, .bool h.ad, .bool h.cd, .int .u8 h.code, vq, va, vu, vx, .bool true, .int .u16 z, .int .u8 e, .int .u8 v, .int .u16 f, .slice A l.length cap]) = y3 at *
  refine wpSegsR_quiet rfl ?_
  simp only [List.filterMap_cons, List.filterMap_nil, List.getElem?_toArray, List.getElem?_cons_succ, List.getElem?_cons_zero]
  show wpQuiet _ _ _ _ [_, _] _
  repeat (go_big_quiet_step (fail))
  refine wpQuiet_nil ?_
  have e1 := bcellAt P.out 1
  have g1 := bfree P.out 1
  refine wpSegsR_one (by simp only [List.getElem?_toArray, List.getElem?_cons_succ, List.getElem?_cons_zero]; exact rfl) ?_
  go_wp2_with fail
  clear e1 g1
  have gk : y3.grownBy (y3.setCell ⟨pb, 1, none⟩ (.int .i64 er)) (some pb) := gset (grefl _ _) (p := ⟨pb, 1, none⟩) (.inl rfl) _
  refine ⟨KC.ofB gk (fun a ha => by rw [ha]; exact NB.out.2.1), ?_⟩
  have R8' := Lib.hid (gblock gk R8.out (by simpa using NB.out.1))
  have R10' := Lib.hid (gblock gk R10.out (by simpa using NB.out.2.1))
  have M' := Lib.hid (gblock gk M.out (by simpa using NE.out.symm))
  have P' := Lib.hid (show Pt7 (y3.setCell ⟨pb, 1, none⟩ (.int .i64 er)) pb (p5 + v4) er from bset P.out 1 (.int .i64 er))
  have T' := Lib.hid (T.out.trans (TG.ofB gk (some mb)) (fun _ e => .inl e))
  have F' := Lib.hid (F.out.keptb gk LB.out.2.1)
  clear gk R8 R10 P M T F
  have R8 := R8'
  have R10 := R10'
  have P := P'
  have M := M'
  have T := T'
  have F := F'
  clear R8' R10' P' M' T' F'
  generalize (y3.setCell ⟨pb, 1, none⟩ (.int .i64 er)) = y4 at *
  refine wpSegsR_done ?_
  have T8 := Lib.hid (bsetR R8.out #[.string nm, .int .u16 v1, .int .u16 v2, .int .u32 v3, .string { data := #[] }])
  have gk := grow_row y4 b8 #[.string nm, .int .u16 v1, .int .u16 v2, .int .u32 v3, .string { data := #[] }]
  have P9 := Lib.hid (show Pt7 (y4.setRow b8 #[.string nm, .int .u16 v1, .int .u16 v2, .int .u32 v3, .string { data := #[] }]) pb _ _ from gblock gk P.out (by simpa using NB.out.1.symm))
  have M9 := Lib.hid (gblock gk M.out (by simpa using NB.out.2.2.1.symm))
  have T9 := Lib.hid (T.out.trans (TG.ofM gk pb) (fun i e => .inr (by cases e; exact NB.out.2.2.2.2.2.1)))
  have F9 := Lib.hid ((F.out.keptb gk LB.out.2.2.1).mono LB.out.2.2.2)
  clear gk
  go_wp2_with (first | refine wpList_load_row rfl 49 _ rfl b10 rfl _ _ _ _ R10.out Tryz.underlying49 rfl (by kernel_rfl) ?_ | refine wpList_store_row rfl 49 _ _ rfl b8 #[.string nm, .int .u16 v1, .int .u16 v2, .int .u32 v3, .string { data := #[] }] rfl rfl 49 _ R8.out (by kernel_rfl) rfl (by kernel_rfl) ?_)
  refine bodyPost_ret_by (results_cr rfl _ _ b8 49 #[.string nm, .int .u16 v1, .int .u16 v2, .int .u32 v3, .string { data := #[] }] (0, 0) _ rfl T8.out Tryz.underlying49 rfl (by kernel_rfl)) rfl ?_
  rcases RB1.out with ⟨rfl, h1⟩ | ⟨h0, h1⟩
  · exact RkPost.opt (x := ⟨nm, v1, v2, v3, ByteArray.empty⟩) h1 T9.out rfl P9.out M9.out F9.out
  · exact RkPost.no (rr := ⟨nm, v1, v2, v3, ByteArray.empty⟩) (d' := ⟨true, z, e, v, f, l⟩) h1 T9.out rfl P9.out M9.out (.inr F9.out)
end Go.Proofs.YtfeeeoiojaffcaaGreatDoor
