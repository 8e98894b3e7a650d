/-
  Package head: Read.
-/
import Derived.Test.YtklkigpdahaahaaDoorHd03c
import Derived.Test.YtklkigpdahaahaaDoorCurC
import Derived.Laws.Tables
import Derived.Deep.RegionHeld3
namespace Go.Proofs.YtklkigpdahaahaaDoor
open Go.RowKit

theorem two_ok (b : Nat) (s : ByteArray) (p : Nat) (w : World) (h : Cur w b s p) (he : Et w) (hp : p + 2 ≤ s.size) (hs : s.size ≤ maxLen) : Calls Tryd.prog 20 #[.pointer (some ⟨b, 0, none⟩)] w fun e w' => e = .returned (.tuple #[.int .u16 (num s p 2), .int .i64 0]) ∧ Cur w' b s (p + 2) ∧ w.grownBy w' (some b) := by
  have h2 := two_any b s p w h he (by omega) hs
  rw [rdE_ok hp, rdV_ok hp, rdP_ok hp] at h2
  exact h2

/-- The results of a function that returns two rows and a number. -/
theorem results_ccr {P : Program} {fn : Func} {p q r : Tmp} {ty uy : TypeId} (h : fn.results = #[.cell p ty, .cell q uy, .tmp r]) (tmps : Array Value) (w : World) (g k : Nat) (t u : TypeId) (cs ds : Array Value) (fr gr : Nat × Nat) (d e : TypeDesc)
    (hp : tmps.getD p undef = .pointer (some ⟨g, 0, none⟩)) (hg : w.heap[g]? = some (.cells cs t fr)) (hu : P.underlying ty = some d) (hd : (match d with | .struct _ | .array _ _ => true | _ => false) = true) (hi : (P.info? ty).map (·.size) = some cs.size)
    (hq : tmps.getD q undef = .pointer (some ⟨k, 0, none⟩)) (hk : w.heap[k]? = some (.cells ds u gr)) (hv : P.underlying uy = some e) (he : (match e with | .struct _ | .array _ _ => true | _ => false) = true) (hj : (P.info? uy).map (·.size) = some ds.size) :
    (results fn tmps).run P w = .ok (.tuple #[.agg cs, .agg ds, tmps.getD r undef]) w := by
  have hp' : tmps[p]?.getD undef = .pointer (some ⟨g, 0, none⟩) := by simpa using hp
  have hq' : tmps[q]?.getD undef = .pointer (some ⟨k, 0, none⟩) := by simpa using hq
  simp [results, h, hp', hq', asAddr, run_loadVar_row w g t ty cs fr d hg hu hd hi, run_loadVar_row w k u uy ds gr e hk hv he hj]

theorem gsetRow {a w : World} {g : Nat} (h : a.grownBy w none) (hg : a.heap.size ≤ g) (cs : Array Value) : a.grownBy (w.setRow g cs) none :=
  ⟨h.os, h.tape, h.output, by simpa [World.setRow] using h.size, fun i hi hn => (setRow_other w g i cs (by omega)).trans (h.block i hi hn)⟩
theorem bsetRow {w : World} {g : Nat} {c : Array Value} {t : TypeId} {z : Nat × Nat} (h : w.heap[g]? = some (.cells c t z)) (cs : Array Value) : (w.setRow g cs).heap[g]? = some (.cells cs t z) := by
  simp [World.setRow, Array.getElem?_modify, h]

/-- In a region that draws its order: a whole row may be read first, if S says that it stays. -/
theorem yieldsIf_load_row {P : Program} {ops : Array Oper} {S : World → Prop} {op : Oper} {a : Act} (hw : Region.wanted op (yielded ops a.tmps) = true) (ty : TypeId) (x : Operand) (ho : op.op = .load ty x)
    (g : Nat) (hx : a.eval x = .pointer (some ⟨g, 0, none⟩)) (t : TypeId) (cs : Array Value) (fr : Nat × Nat) (d : TypeDesc) (hS : ∀ w, S w → w.heap[g]? = some (.cells cs t fr))
    (hu : P.underlying ty = some d) (hd : (match d with | .struct _ | .array _ _ => true | _ => false) = true) (hi : (P.info? ty).map (·.size) = some cs.size) : YieldsIf P ops S op (.agg cs) a :=
  .inl ⟨hw, fun w hw' => by
    unfold execOp
    simp only [ho, hx, Instr.loadAt, Instr.sureAddr, Sem.run_bind, Sem.run_pure, Result.andThen_ok, run_loadVar_row w g t ty cs fr d (hS w hw') hu hd hi]⟩

def hd0 : Hd := ⟨0, false, 0, false, false, false, false, false, false, false, 0⟩
def cv (a b c d : Int) : Value := .agg #[.int .i64 a, .int .i64 b, .int .i64 c, .int .i64 d]

theorem read_short (s : ByteArray) (w : World) (h : s.size < 12) : Calls Tryd.prog 9 #[.string s] w fun e w' => e = .returned (.tuple #[hd0.v, cv 0 0 0 0, .int .i64 4]) ∧ w.grownBy w' none := by
  have g1 : ((s.size : Nat) : Int) < 12 := by omega
  go_enter Tryd.func9, Tryd.ntmps9
  go_wp2
  refine bodyPost_ret (results_ccr rfl _ _ w.heap.size (w.heap.size + 1) _ _ _ _ _ _ _ _ rfl (heap_alloc2_old w _ _) Tryd.underlying24 rfl (by kernel_rfl) rfl (heap_alloc2_new w _ _) Tryd.underlying26 rfl (by kernel_rfl)) rfl ?_
  exact ⟨rfl, galloc (galloc (grefl _ none) _) _⟩

/-- What Read holds in the middle of its loop. -/
structure Rd (w : World) (bc bh bn : Nat) (s : ByteArray) (H : Hd) (p : Nat) (cs : Array Value) (wr : World) : Prop where
  gr : w.grownBy wr none
  cur : Cur wr bc s p
  r1 : wr.heap[w.heap.size]? = some (.cells #[.int .u16 0, .bool false, .int .u8 0, .bool false, .bool false, .bool false, .bool false, .bool false, .bool false, .bool false, .int .u8 0] 24 (0, 0))
  r2 : wr.heap[w.heap.size + 1]? = some (.cells #[.int .i64 0, .int .i64 0, .int .i64 0, .int .i64 0] 26 (0, 0))
  rh : wr.heap[bh]? = some (.cells #[.int .u16 H.id, .bool H.qr, .int .u8 H.op, .bool H.aa, .bool H.tc, .bool H.rd, .bool H.ra, .bool H.z, .bool H.ad, .bool H.cd, .int .u8 H.code] 24 (0, 0))
  rn : wr.heap[bn]? = some (.cells cs 26 (0, 0))
  lc : w.heap.size + 2 ≤ bc
  ch : bc < bh
  hn : bh < bn
theorem Rd.two {w wr w' : World} {bc bh bn p q : Nat} {s : ByteArray} {H : Hd} {cs : Array Value} (r : Rd w bc bh bn s H p cs wr) (g : wr.grownBy w' (some bc)) (c : Cur w' bc s q) : Rd w bc bh bn s H q cs w' := by
  have h1 := r.lc
  have h2 := r.ch
  have h3 := r.hn
  exact ⟨gstepb r.gr g (by omega), c, gblock g r.r1 (by simp; omega), gblock g r.r2 (by simp; omega), gblock g r.rh (by simp; omega), gblock g r.rn (by simp; omega), h1, h2, h3⟩
theorem Rd.set {w wr : World} {bc bh bn p : Nat} {s : ByteArray} {H : Hd} {cs : Array Value} (r : Rd w bc bh bn s H p cs wr) (i : Nat) (v : Value) : Rd w bc bh bn s H p (cs.setIfInBounds i v) (wr.setCell ⟨bn, i, none⟩ v) := by
  have h1 := r.lc
  have h2 := r.ch
  have h3 := r.hn
  have ho : ∀ k, k ≠ bn → (wr.setCell ⟨bn, i, none⟩ v).heap[k]? = wr.heap[k]? := fun k hk => heap_setCell_other wr ⟨bn, i, none⟩ k v hk
  refine ⟨?_, (ho _ (by omega)).trans r.cur, (ho _ (by omega)).trans r.r1, (ho _ (by omega)).trans r.r2, (ho _ (by omega)).trans r.rh, bset r.rn i v, h1, h2, h3⟩
  exact ⟨r.gr.os, r.gr.tape, r.gr.output, by simpa using r.gr.size, fun k hk hn => (ho k (by omega)).trans (r.gr.block k hk hn)⟩

set_option maxHeartbeats 4000000 in
set_option maxRecDepth 100000 in
theorem read_ok (s : ByteArray) (w : World) (he : Et w) (hb : Bt w) (h : 12 ≤ s.size) (hs : s.size ≤ maxLen) : Calls Tryd.prog 9 #[.string s] w fun e w' => e = .returned (.tuple #[(fromN (num s 0 2) (num s 2 2)).v, cv (num s 4 2) (num s 6 2) (num s 8 2) (num s 10 2), .int .i64 0]) ∧ w.grownBy w' none := by
  have g1 : ¬ ((s.size : Nat) : Int) < 12 := by omega
  have HE := Lib.hid he
  have HB := Lib.hid hb
  have n0 := num_lt s 0 2
  have n1 := num_lt s 2 2
  have n2 := num_lt s 4 2
  have n3 := num_lt s 6 2
  have n4 := num_lt s 8 2
  have n5 := num_lt s 10 2
  clear he hb
  go_enter Tryd.func9, Tryd.ntmps9
  go_wp2_with fail
  refine (new_ex s _).mono ?_
  rintro e w1 ⟨bc, rfl, hlc, hc, hg⟩
  have LC := Lib.hid (show w.heap.size + 2 ≤ bc by simpa using hlc)
  have G1 := Lib.hid (gtrans (galloc (galloc (grefl w none) _) _) hg)
  have R1 := Lib.hid (gblock hg (heap_alloc2_old w _ _) (by simp))
  have R2 := Lib.hid (gblock hg (heap_alloc2_new w _ _) (by simp))
  have C1 := Lib.hid hc
  clear hlc hg hc
  go_wp2_with fail
  refine (two_ok bc s 0 w1 C1.out (HE.out.kept G1.out (by simp)) (by omega) hs).mono ?_
  rintro e w2 ⟨rfl, hc, hg⟩
  have G2 := Lib.hid (gstepb G1.out hg (by have := LC.out; omega))
  have R12 := Lib.hid (gblock hg R1.out (by have := LC.out; simp; omega))
  have R22 := Lib.hid (gblock hg R2.out (by have := LC.out; simp; omega))
  have C2 := Lib.hid hc
  clear hg hc G1 R1 R2 C1
  go_wp2_with fail
  refine (two_ok bc s 2 w2 C2.out (HE.out.kept G2.out (by simp)) (by omega) hs).mono ?_
  rintro e w3 ⟨rfl, hc, hg⟩
  have G3 := Lib.hid (gstepb G2.out hg (by have := LC.out; omega))
  have R13 := Lib.hid (gblock hg R12.out (by have := LC.out; simp; omega))
  have R23 := Lib.hid (gblock hg R22.out (by have := LC.out; simp; omega))
  have C3 := Lib.hid hc
  clear hg hc G2 R12 R22 C2
  go_wp2_with fail
  refine (from_any (num s 2 2) n1 w3 (HB.out.kept G3.out (by simp))).mono ?_
  rintro e w4 ⟨rfl, hg⟩
  have G4 := Lib.hid (gtrans G3.out hg)
  have R14 := Lib.hid (gblock hg R13.out (by simp))
  have R24 := Lib.hid (gblock hg R23.out (by simp))
  have C4 := Lib.hid (Cur.kept C3.out hg (by simp))
  clear hg G3 R13 R23 C3
  obtain ⟨H, hH⟩ : ∃ H, H = fromN 0 (num s 2 2) := ⟨_, rfl⟩
  rw [← hH]
  have HH := Lib.hid hH
  clear hH
  simp only [Hd.v]
  go_wp2_with fail
  have D0 := Lib.hid (show Rd w bc w4.heap.size (w4.heap.size + 1) s { H with id := num s 0 2 } 4 #[.int .i64 0, .int .i64 0, .int .i64 0, .int .i64 0] ((w4.alloc (.cells #[.int .u16 (num s 0 2), .bool H.qr, .int .u8 H.op, .bool H.aa, .bool H.tc, .bool H.rd, .bool H.ra, .bool H.z, .bool H.ad, .bool H.cd, .int .u8 H.code] 24)).alloc (.cells #[.int .i64 0, .int .i64 0, .int .i64 0, .int .i64 0] 26)) from
    have hn := galloc (galloc (grefl w4 none) (.cells #[.int .u16 (num s 0 2), .bool H.qr, .int .u8 H.op, .bool H.aa, .bool H.tc, .bool H.rd, .bool H.ra, .bool H.z, .bool H.ad, .bool H.cd, .int .u8 H.code] 24)) (.cells #[.int .i64 0, .int .i64 0, .int .i64 0, .int .i64 0] 26)
    ⟨gtrans G4.out hn, C4.out.kept hn (by simp), gblock hn R14.out (by simp), gblock hn R24.out (by simp), heap_alloc2_old _ _ _, heap_alloc2_new _ _ _, LC.out, blt C4.out, by omega⟩)
  clear G4 R14 R24 C4
  refine wp_loop_rounds 5 ?_
  rw [rounds_succ]
  go_wp2_with fail
  refine (two_ok bc s 4 _ D0.out.cur (HE.out.kept D0.out.gr (by simp)) (by omega) hs).mono ?_
  rintro e v0 ⟨rfl, hc, hg⟩
  have E0 := Lib.hid (D0.out.two hg hc)
  have c0 : v0.cell? ⟨w4.heap.size + 1, 0, none⟩ = some (.int .i64 0) := bcellAt E0.out.rn 0
  have f0 : v0.frozen? ⟨w4.heap.size + 1, 0, none⟩ = false := bfree E0.out.rn 0
  clear hc hg D0
  go_wp2_with fail
  have D1 := Lib.hid (E0.out.set 0 (.int .i64 (num s 4 2)))
  clear c0 f0 E0
  rw [rounds_succ]
  go_wp2_with fail
  refine (two_ok bc s 6 _ D1.out.cur (HE.out.kept D1.out.gr (by simp)) (by omega) hs).mono ?_
  rintro e v1 ⟨rfl, hc, hg⟩
  have E1 := Lib.hid (D1.out.two hg hc)
  have c1 : v1.cell? ⟨w4.heap.size + 1, 1, none⟩ = some (.int .i64 0) := bcellAt E1.out.rn 1
  have f1 : v1.frozen? ⟨w4.heap.size + 1, 1, none⟩ = false := bfree E1.out.rn 1
  clear hc hg D1
  go_wp2_with fail
  have D2 := Lib.hid (E1.out.set 1 (.int .i64 (num s 6 2)))
  clear c1 f1 E1
  rw [rounds_succ]
  go_wp2_with fail
  refine (two_ok bc s 8 _ D2.out.cur (HE.out.kept D2.out.gr (by simp)) (by omega) hs).mono ?_
  rintro e v2 ⟨rfl, hc, hg⟩
  have E2 := Lib.hid (D2.out.two hg hc)
  have c2 : v2.cell? ⟨w4.heap.size + 1, 2, none⟩ = some (.int .i64 0) := bcellAt E2.out.rn 2
  have f2 : v2.frozen? ⟨w4.heap.size + 1, 2, none⟩ = false := bfree E2.out.rn 2
  clear hc hg D2
  go_wp2_with fail
  have D3 := Lib.hid (E2.out.set 2 (.int .i64 (num s 8 2)))
  clear c2 f2 E2
  rw [rounds_succ]
  go_wp2_with fail
  refine (two_ok bc s 10 _ D3.out.cur (HE.out.kept D3.out.gr (by simp)) (by omega) hs).mono ?_
  rintro e v3 ⟨rfl, hc, hg⟩
  have E3 := Lib.hid (D3.out.two hg hc)
  have c3 : v3.cell? ⟨w4.heap.size + 1, 3, none⟩ = some (.int .i64 0) := bcellAt E3.out.rn 3
  have f3 : v3.frozen? ⟨w4.heap.size + 1, 3, none⟩ = false := bfree E3.out.rn 3
  clear hc hg D3
  go_wp2_with fail
  have D4 := Lib.hid (E3.out.set 3 (.int .i64 (num s 10 2)))
  clear c3 f3 E3
  rw [rounds_succ]
  go_wp2_with fail
  have hlt1 : w.heap.size + 2 ≤ w4.heap.size := Nat.le_of_lt (Nat.lt_of_le_of_lt D4.out.lc D4.out.ch)
  refine wp_region_held_drew (S := fun w' => w'.heap[w4.heap.size]? = some (.cells #[.int .u16 (num s 0 2), .bool H.qr, .int .u8 H.op, .bool H.aa, .bool H.tc, .bool H.rd, .bool H.ra, .bool H.z, .bool H.ad, .bool H.cd, .int .u8 H.code] 24 (0, 0)) ∧ w'.heap[w4.heap.size + 1]? = some (.cells #[.int .i64 (num s 4 2), .int .i64 (num s 6 2), .int .i64 (num s 8 2), .int .i64 (num s 10 2)] 26 (0, 0))) (by kernel_rfl) ⟨D4.out.rh, D4.out.rn⟩ (fun hHeld => ?_)
  refine wpAnyH_take (i := 0) (oi := { dst := some 49, op := .load 24 (.tmp 10), type := 24, pos := "head.go:48", after := #[], guard := none }) (v := .agg #[.int .u16 (num s 0 2), .bool H.qr, .int .u8 H.op, .bool H.aa, .bool H.tc, .bool H.rd, .bool H.ra, .bool H.z, .bool H.ad, .bool H.cd, .int .u8 H.code]) rfl (by kernel_rfl) (by kernel_rfl) (by kernel_rfl) (fun _ _ _ h => h) (yieldsIf_load_row (by rfl) _ _ rfl w4.heap.size rfl _ _ _ _ (fun w h => h.1) Tryd.underlying24 rfl (by kernel_rfl)) hHeld ?_
  simp only [Act.put, List.setIfInBounds_toArray, List.set_cons_zero, List.set_cons_succ]
  refine wpAnyH_take (i := 1) (oi := { dst := some 50, op := .load 26 (.tmp 11), type := 26, pos := "head.go:48", after := #[{ on := 2, ground := .gcOnly .lateStores }], guard := none }) (v := .agg #[.int .i64 (num s 4 2), .int .i64 (num s 6 2), .int .i64 (num s 8 2), .int .i64 (num s 10 2)]) rfl (by kernel_rfl) (by kernel_rfl) (by kernel_rfl) (fun _ _ _ h => h) (yieldsIf_load_row (by rfl) _ _ rfl (w4.heap.size + 1) rfl _ _ _ _ (fun w h => h.2) Tryd.underlying26 rfl (by kernel_rfl)) hHeld ?_
  simp only [Act.put, List.setIfInBounds_toArray, List.set_cons_zero, List.set_cons_succ]
  refine wpAnyH_ready (rs := [2]) (by kernel_rfl) (by simp) ?_
  refine AllReadyH.cons (o := { dst := none, op := .store 24 (.tmp 2) (.tmp 49), type := 0, pos := "head.go:48", after := #[{ on := 0, ground := .data }, { on := 0, ground := .phase }, { on := 1, ground := .textOnly .lateStores }], guard := none }) rfl (fun K hK => ?_) AllReadyH.nil
  rw [if_pos (by rfl)]
  refine wp_store_row _ _ _ rfl w.heap.size #[.int .u16 (num s 0 2), .bool H.qr, .int .u8 H.op, .bool H.aa, .bool H.tc, .bool H.rd, .bool H.ra, .bool H.z, .bool H.ad, .bool H.cd, .int .u8 H.code] rfl rfl _ _ D4.out.r1 (by kernel_rfl) rfl (by simp [Value.oneCell']) ?_
  refine hK.out _ _ ⟨(setRow_other _ _ _ _ (by omega)).trans hHeld.1, (setRow_other _ _ _ _ (by omega)).trans hHeld.2⟩ (fun hHeld2 => ?_)
  clear hK K hHeld
  simp only [Act.put]
  refine wpAnyH_ready (rs := [3]) (by kernel_rfl) (by simp) ?_
  refine AllReadyH.cons (o := { dst := none, op := .store 26 (.tmp 3) (.tmp 50), type := 0, pos := "head.go:48", after := #[{ on := 1, ground := .data }, { on := 2, ground := .chain }, { on := 0, ground := .phase }, { on := 1, ground := .phase }, { on := 2, ground := .phase }], guard := none }) rfl (fun K hK => ?_) AllReadyH.nil
  rw [if_pos (by rfl)]
  refine wp_store_row _ _ _ rfl (w.heap.size + 1) #[.int .i64 (num s 4 2), .int .i64 (num s 6 2), .int .i64 (num s 8 2), .int .i64 (num s 10 2)] rfl rfl _ _ ((setRow_other _ _ _ _ (by omega)).trans D4.out.r2) (by kernel_rfl) rfl (by simp [Value.oneCell']) ?_
  refine hK.out _ _ ⟨(setRow_other _ _ _ _ (by omega)).trans hHeld2.1, (setRow_other _ _ _ _ (by omega)).trans hHeld2.2⟩ (fun hHeld3 => ?_)
  clear hK K hHeld2
  simp only [Act.put]
  refine wpAnyH_ready (rs := [4]) (by kernel_rfl) (by simp) ?_
  refine AllReadyH.cons (o := { dst := some 4, op := .assign (.const (.int .i64 0)), type := 27, pos := "head.go:48", after := #[{ on := 3, ground := .chain }, { on := 0, ground := .phase }, { on := 1, ground := .phase }, { on := 2, ground := .phase }, { on := 3, ground := .phase }], guard := none }) rfl (fun K hK => ?_) AllReadyH.nil
  go_simp
  refine hK.out _ _ hHeld3 (fun _ => ?_)
  clear hK K hHeld3
  refine wpAnyH_done (by kernel_rfl) ?_ _
  go_wp2
  refine bodyPost_ret (results_ccr rfl _ _ w.heap.size (w.heap.size + 1) _ _ _ _ _ _ _ _ rfl ((setRow_other _ _ _ _ (by omega)).trans (bsetRow D4.out.r1 _)) Tryd.underlying24 rfl (by kernel_rfl) rfl (bsetRow ((setRow_other _ _ _ _ (by omega)).trans D4.out.r2) _) Tryd.underlying26 rfl (by kernel_rfl)) rfl ?_
  refine ⟨?_, gsetRow (gsetRow (gdrew D4.out.gr) (by omega) _) (by omega) _⟩
  have e := HH.out
  subst e
  rfl
end Go.Proofs.YtklkigpdahaahaaDoor
