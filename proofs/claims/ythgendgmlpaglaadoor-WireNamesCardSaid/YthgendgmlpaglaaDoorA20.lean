/-
  Wire: read at any bytes; Decode.
  Wire: Decode.
-/
import Derived.Test.YthgendgmlpaglaaDoorWiR
namespace Go.Proofs.YthgendgmlpaglaaDoor
open Go.RowKit

set_option maxRecDepth 100000 in
set_option maxHeartbeats 4000000 in
theorem rread_over (w : World) (s : ByteArray) (hs : 65535 < s.size) :
    Calls Tryd.prog 11 #[.string s] w (RmPost (rdM s) w) := by
  have RM := Lib.hid (show rdM s = .error 5 from if_pos hs)
  have k0 : decide ((65535 : Int) < (s.size : Int)) = true := by simp; omega
  clear hs
  go_enter Tryd.func11, Tryd.ntmps11
  go_wp2_with fail
  refine Calls.mono (must_no 5 (by decide) _) ?_
  rintro e w1 ⟨rfl, rfl⟩
  go_wp2_with fail
  exact ⟨rfl, RmPost.no RM.out (galloc (grefl w none) _) rfl⟩
set_option maxRecDepth 100000 in
set_option maxHeartbeats 4000000 in
theorem rread_short (w : World) (s : ByteArray) (hs : s.size < 12) :
    Calls Tryd.prog 11 #[.string s] w (RmPost (rdM s) w) := by
  have RM := Lib.hid (show rdM s = .error 4 from by unfold rdM; rw [if_neg (by omega), if_pos hs])
  have RK := Lib.hid (fun w' : World => read_short s w' hs)
  have k0 : decide ((65535 : Int) < (s.size : Int)) = false := by simp; omega
  clear hs
  unfold Hd.v cv at RK
  go_enter Tryd.func11, Tryd.ntmps11
  go_wp2_with fail
  refine Calls.mono (RK.out _) ?_
  rintro e w1 ⟨rfl, hg1⟩
  have G1 := Lib.hid (gtrans (galloc (grefl w none) _) hg1)
  clear hg1
  go_wp2_with fail
  refine Calls.mono (must_no 4 (by decide) _) ?_
  rintro e w2 ⟨rfl, rfl⟩
  go_wp2_with fail
  exact ⟨rfl, RmPost.no RM.out (galloc (galloc G1.out _) _) rfl⟩
theorem rread_any (w : World) (s : ByteArray) (he : Et w) (hb : Bt w) : Calls Tryd.prog 11 #[.string s] w (RmPost (rdM s) w) := by
  by_cases h1 : 65535 < s.size
  · exact rread_over w s h1
  · by_cases h2 : s.size < 12
    · exact rread_short w s h2
    · exact rread_long w s he hb (by omega) (by omega)

def zM : Array Value := #[.int .u16 0, .bool false, .int .u8 0, .bool false, .bool false, .bool false, .bool false, .bool false, .bool false, .bool false, .int .u8 0, .slice none 0 0, .slice none 0 0, .slice none 0 0, .slice none 0 0, .bool false, .int .u16 0, .int .u8 0, .int .u8 0, .int .u16 0, .slice none 0 0]
set_option maxRecDepth 100000 in
set_option maxHeartbeats 4000000 in
theorem dec1_bad (p q : Nat) (k : Int) (t1 t2 : TypeId) (w : World) (xs : Array Value) (y : Value) (hp : w.heap[p]? = some (.cells xs t1 (0, 0))) (hx : xs.size = 21) (hq : w.heap[q]? = some (.cells #[y] t2 (0, 0))) (hne : p ≠ q) :
    CallsD Tryd.prog 10 #[.pointer (some ⟨p, 0, none⟩), .pointer (some ⟨q, 0, none⟩)] (.panicking [{ v := fault k, recovered := false }]) w fun e u' w' =>
      u' = .panicking [{ v := fault k, recovered := true }] ∧ e = .returned (.tuple #[]) ∧ ∃ wm, w.grownBy wm none ∧ w' = ((wm.setRow p zM).setCell ⟨q, 0, none⟩ (.int .i64 k)) := by
  have hta := ta_yes k w
  refine callsD_recover Tryd.func10 rfl rfl (fun _ _ => rfl) (.inl ⟨[], rfl, rfl⟩) ?_
  simp only [Act.put]
  show wpList _ _ _ _ { tmps := #[.pointer (some ⟨p, 0, none⟩), .pointer (some ⟨q, 0, none⟩), undef, undef, undef, fault k, undef, undef, undef, undef, undef, undef, undef], defers := [] } w
  go_wp2_with fail
  have lp := blt hp
  have lq := blt hq
  have g1 := galloc (grefl w none) (.cells #[.int .i64 k] 49)
  have HP := Lib.hid (gblock g1 hp (by simp))
  have HQ := Lib.hid (gblock g1 hq (by simp))
  have HN := Lib.hid (balloc w (.cells #[.int .i64 k] 49))
  have hn : w.heap.size ≠ p := by omega
  have hm : w.heap.size ≠ q := by omega
  have G1 := Lib.hid g1
  clear g1
  generalize w.alloc (.cells #[.int .i64 k] 49) = w1 at *
  generalize w.heap.size = nb at *
  refine wp_region_ur (KC.rt fun a => a = ⟨nb, 0, none⟩) (.quiet [0, 1, 2] (.one 3 (.one 4 .done))) (by kernel_rfl) (by kernel_rfl) ?_
  have d0 : ∀ g : GrR (KC fun a => a = ⟨nb, 0, none⟩) w1.drew, g.w.cell? ⟨nb, 0, none⟩ = some (.int .i64 k) := fun g => g.h _ _ rfl (bcellAt HN.out 0)
  refine wpUr_quiet rfl ?_
  simp only [List.filterMap_cons, List.filterMap_nil, List.getElem?_toArray, List.getElem?_cons_succ, List.getElem?_cons_zero]
  show wpQuiet _ _ _ _ [_, _, _] _
  repeat (go_big_quiet_step (fail))
  refine wpQuiet_nil ?_
  have P2 := Lib.hid (show w1.drew.heap[p]? = some (.cells xs t1 (0, 0)) from HP.out)
  have Q2 := Lib.hid (show w1.drew.heap[q]? = some (.cells #[y] t2 (0, 0)) from HQ.out)
  have G2 := Lib.hid (gdrew G1.out)
  clear d0 HP HQ HN G1
  generalize w1.drew = wd at *
  refine wpUr_one (by simp only [List.getElem?_toArray, List.getElem?_cons_succ, List.getElem?_cons_zero]; exact rfl) ?_
  refine wpList_store_row rfl 37 _ _ rfl p zM rfl rfl t1 _ P2.out (by kernel_rfl) (by rw [hx]; rfl) (by kernel_rfl) ?_
  have gr := grow_row wd p zM
  refine wpList_nil ⟨fun a v ha hc => gr.cell hc (by rw [ha]; simpa using hn), ?_⟩
  have Q3 := gblock gr Q2.out (by simpa using fun e => hne e.symm)
  have q0 := bcellAt Q3 0
  have qf := bfree Q3 0
  refine wpUr_one (by simp only [List.getElem?_toArray, List.getElem?_cons_succ, List.getElem?_cons_zero]; exact rfl) ?_
  simp only [Act.put]
  generalize hw3 : wd.setRow p zM = w3 at *
  have HW := Lib.hid hw3
  clear hw3
  go_wp2_with fail
  refine ⟨KC.set (by simp), wpUr_done ?_⟩
  go_wp2_with fail
  go_end0
  exact ⟨rfl, wd, G2.out, by rw [HW.out]⟩
set_option maxRecDepth 100000 in
set_option maxHeartbeats 2000000 in
theorem dec1_idle (p q : Value) (w : World) :
    CallsD Tryd.prog 10 #[p, q] .returning w fun e u' w' =>
      u' = .returning ∧ e = .returned (.tuple #[]) ∧ w.grownBy w' none := by
  have hta := ta_no w
  refine callsD_recover Tryd.func10 rfl rfl (fun _ _ => rfl) (.inr ⟨rfl, rfl, rfl⟩) ?_
  simp only [Act.put]
  show wpList _ _ _ _ { tmps := #[p, q, undef, undef, undef, .nilIface, undef, undef, undef, undef, undef, undef, undef], defers := [] } w
  go_wp2_with fail
  go_end0
  exact ⟨rfl, galloc (grefl w none) _⟩
end Go.Proofs.YthgendgmlpaglaaDoor
namespace Go.Proofs.YthgendgmlpaglaaDoor
open Go.RowKit

def ms0 : Ms := ⟨hd0, [], [], [], [], false, 0, 0, 0, 0, []⟩
def dcM (s : ByteArray) : Ms := match rdM s with | .ok m => m | .error _ => ms0
def dcE (s : ByteArray) : Nat := match rdM s with | .ok _ => 0 | .error x => x
def DcPost (s : ByteArray) (w : World) (e : Ending) (w' : World) : Prop :=
  w.grownBy w' none ∧ ∃ vq va vu vx vo, e = .returned (.tuple #[(dcM s).val vq va vu vx vo, .int .i64 (dcE s)]) ∧ MsF w' w.heap.size (dcM s) vq va vu vx vo
theorem ms0_val : ms0.val (.slice none 0 0) (.slice none 0 0) (.slice none 0 0) (.slice none 0 0) (.slice none 0 0) = .agg zM := rfl
def Ms.cells (m : Ms) (vq va vu vx vo : Value) : Array Value := #[.int .u16 m.h.id, .bool m.h.qr, .int .u8 m.h.op, .bool m.h.aa, .bool m.h.tc, .bool m.h.rd, .bool m.h.ra, .bool m.h.z, .bool m.h.ad, .bool m.h.cd, .int .u8 m.h.code, vq, va, vu, vx, .bool m.has, .int .u16 m.sz, .int .u8 m.e, .int .u8 m.v, .int .u16 m.f, vo]
theorem Ms.val_cells (m : Ms) (vq va vu vx vo : Value) : m.val vq va vu vx vo = .agg (m.cells vq va vu vx vo) := rfl
theorem ops_form {w : World} {v : Value} {l : List Opt} (h : Ops w v l) : ∃ A cap, v = .slice A l.length cap := h.form
theorem ms0_f (w : World) (b : Nat) : MsF w b ms0 (.slice none 0 0) (.slice none 0 0) (.slice none 0 0) (.slice none 0 0) (.slice none 0 0) := ⟨FS.none, FS.none, FS.none, FS.none, FS.none⟩

theorem results_rc {P : Program} {fn : Func} {p q : Tmp} {ty tq : TypeId} (h : fn.results = #[.cell p ty, .cell q tq]) (tmps : Array Value) (w : World) (g b : Nat) (t : TypeId) (cs : Array Value) (fr : Nat × Nat) (d : TypeDesc) (y : Value)
    (hp : tmps.getD p undef = .pointer (some ⟨g, 0, none⟩)) (hg : w.heap[g]? = some (.cells cs t fr))
    (hu : P.underlying ty = some d) (hd : (match d with | .struct _ | .array _ _ => true | _ => false) = true) (hi : (P.info? ty).map (·.size) = some cs.size)
    (hq : tmps.getD q undef = .pointer (some ⟨b, 0, none⟩)) (hc : w.cell? ⟨b, 0, none⟩ = some y) (hs : P.underlying tq = some (.int .i64)) :
    (results fn tmps).run P w = .ok (.tuple #[.agg cs, y]) w := by
  have hp' : tmps[p]?.getD undef = .pointer (some ⟨g, 0, none⟩) := by simpa using hp
  have hq' : tmps[q]?.getD undef = .pointer (some ⟨b, 0, none⟩) := by simpa using hq
  have hl : (loadVar tq ⟨b, 0, none⟩).run P w = .ok y w := by simp [loadVar, isAgg, run_underlying hs, hc]
  simp [results, h, hp', hq', asAddr, run_loadVar_row w g t ty cs fr d hg hu hd hi, hl]
set_option maxRecDepth 100000 in
set_option maxHeartbeats 4000000 in
theorem decode_any (w : World) (s : ByteArray) (he : Et w) (hb : Bt w) :
    Calls Tryd.prog 6 #[.string s] w (DcPost s w) := by
  have hmf : ∀ (fn : Fn) (first cap : Array Value) (w : World), (Instr.makeFunc fn first cap).run Tryd.prog w = .ok (.func fn first cap) w := fun _ _ _ _ => rfl
  have RR := Lib.hid (fun (w' : World) (g : w.grownBy w' none) => rread_any w' s (he.kept g (by simp)) (hb.kept g (by simp)))
  clear he hb
  have GA := Lib.hid (galloc (galloc (grefl w none) (.cells zM 37)) (.cells #[.int .i64 0] 23))
  have BP := Lib.hid (gblock (galloc (grefl (w.alloc (.cells zM 37)) none) (.cells #[.int .i64 0] 23)) (balloc w (.cells zM 37)) (by simp))
  have BQ := Lib.hid (show ((w.alloc (.cells zM 37)).alloc (.cells #[.int .i64 0] 23)).heap[w.heap.size + 1]? = some (.cells #[.int .i64 0] 23 (0, 0)) from heap_alloc2_new w _ _)
  go_enter_defers Tryd.func6, Tryd.ntmps6
  go_wp2_with fail
  clear hmf
  refine Calls.mono (RR.out _ GA.out) ?_
  rintro e w1 ⟨hg1, h1⟩
  have P1 := Lib.hid (gblock hg1 BP.out (by simp))
  have Q1 := Lib.hid (gblock hg1 BQ.out (by simp))
  have G1 := Lib.hid (gtrans GA.out hg1)
  have h2 : match rdM s with
      | .ok m => ∃ vq va vu vx vo, e = .returned (m.val vq va vu vx vo) ∧ MsF w1 (w.heap.size + 2) m vq va vu vx vo
      | .error x => e = .panicked [{ v := fault x, recovered := false }] := by
    cases hR : rdM s with
    | ok m =>
      rw [hR] at h1
      obtain ⟨vq, va, vu, vx, vo, he, hf⟩ := h1
      exact ⟨vq, va, vu, vx, vo, he, hf.mono (by simp only [World.size_alloc]; omega)⟩
    | error x => rw [hR] at h1; exact h1
  clear hg1 GA BP BQ RR h1
  obtain ⟨q, hq⟩ : ∃ q, w.heap.size + 1 = q := ⟨_, rfl⟩
  obtain ⟨p, hp⟩ : ∃ p, w.heap.size = p := ⟨_, rfl⟩
  have LW := Lib.hid (show w.heap.size = p ∧ p + 1 = q ∧ w.heap.size + 2 = q + 1 from by omega)
  rw [hq] at Q1 ⊢
  rw [hp] at P1 ⊢
  have hne : p ≠ q := by omega
  clear hp hq
  cases hR : rdM s with
  | ok m =>
    rw [hR] at h2
    obtain ⟨vq, va, vu, vx, vo, rfl, hf⟩ := h2
    have HM := Lib.hid (show dcM s = m from by unfold dcM; rw [hR])
    have HE := Lib.hid (show dcE s = 0 from by unfold dcE; rw [hR])
    obtain ⟨Aq, cq, rfl⟩ := hf.q.len
    obtain ⟨Aa, ca, rfl⟩ := hf.a.len
    obtain ⟨Au, cu, rfl⟩ := hf.u.len
    obtain ⟨Ax, cx, rfl⟩ := hf.x.len
    obtain ⟨Ao, co, rfl⟩ := hf.o.len
    have HF := Lib.hid hf
    clear hR hf
    have gr := grow_row w1 p (m.cells (.slice Aq m.qs.length cq) (.slice Aa m.an.length ca) (.slice Au m.au.length cu) (.slice Ax m.ex.length cx) (.slice Ao m.ops.length co))
    have GR := Lib.hid gr
    have P2 := Lib.hid (bsetR P1.out (m.cells (.slice Aq m.qs.length cq) (.slice Aa m.an.length ca) (.slice Au m.au.length cu) (.slice Ax m.ex.length cx) (.slice Ao m.ops.length co)))
    have Q2 := Lib.hid (gblock gr Q1.out (by simp; omega))
    have q0 := bcellAt Q2.out 0
    have qf := bfree Q2.out 0
    clear gr
    rw [Ms.val_cells]
    go_wp2_with (refine wpList_store_row rfl 37 _ _ rfl p (m.cells (.slice Aq m.qs.length cq) (.slice Aa m.an.length ca) (.slice Au m.au.length cu) (.slice Ax m.ex.length cx) (.slice Ao m.ops.length co)) rfl rfl 37 _ P1.out (by kernel_rfl) rfl (by kernel_rfl) ?_)
    refine leaves_cons (f := 10) (args := #[.pointer (some ⟨p, 0, none⟩), .pointer (some ⟨q, 0, none⟩)]) (by simp) (by simp [go_sem]) ?_
    refine (dec1_idle _ _ _).mono ?_
    rintro e u' w2 ⟨rfl, rfl, hg2⟩
    have g3 : (w1.setRow p (m.cells (.slice Aq m.qs.length cq) (.slice Aa m.an.length ca) (.slice Au m.au.length cu) (.slice Ax m.ex.length cx) (.slice Ao m.ops.length co))).grownBy ((w1.setRow p (m.cells (.slice Aq m.qs.length cq) (.slice Aa m.an.length ca) (.slice Au m.au.length cu) (.slice Ax m.ex.length cx) (.slice Ao m.ops.length co))).setCell ⟨q, 0, none⟩ (.int .i64 0)) (some q) := gset (grefl _ _) (p := ⟨q, 0, none⟩) (.inl rfl) _
    have P3 := gblock hg2 (gblock g3 P2.out (by simpa using hne)) (by simp)
    have Q3 := gblock hg2 (bset Q2.out 0 (.int .i64 0)) (by simp)
    have F3 := Lib.hid (((HF.out.keptb GR.out (by have := LW.out; omega)).keptb g3 (by have := LW.out; omega)).kept hg2)
    have G3 := Lib.hid (gtrans (gset2 (gsetRow G1.out (show w.heap.size ≤ p from by have := LW.out; omega) _) (p := ⟨q, 0, none⟩) (v := .int .i64 0) (by have := LW.out; show w.heap.size ≤ q; omega)) hg2)
    refine ⟨_, results_rc rfl _ _ p q 37 _ (0, 0) _ _ rfl P3 Tryd.underlying37 rfl (by kernel_rfl) rfl (bcellAt Q3 0) (by kernel_rfl), G3.out, .slice Aq m.qs.length cq, .slice Aa m.an.length ca, .slice Au m.au.length cu, .slice Ax m.ex.length cx, .slice Ao m.ops.length co, ?_, ?_⟩
    · rw [HM.out, HE.out]; rfl
    · rw [HM.out]; exact F3.out.mono (by omega)
  | error x =>
    rw [hR] at h2
    subst h2
    have HM := Lib.hid (show dcM s = ms0 from by unfold dcM; rw [hR])
    have HE := Lib.hid (show dcE s = x from by unfold dcE; rw [hR])
    clear hR
    go_wp2_with fail
    refine leaves_cons (f := 10) (args := #[.pointer (some ⟨p, 0, none⟩), .pointer (some ⟨q, 0, none⟩)]) (by simp) (by simp [go_sem]) ?_
    refine (dec1_bad p q x _ _ w1 _ _ P1.out rfl Q1.out hne).mono ?_
    rintro e u' w2 ⟨rfl, rfl, wm, hgm, rfl⟩
    have gr := grow_row wm p zM
    have P2 := bsetR (gblock hgm P1.out (by simp)) zM
    have Q2 := gblock gr (gblock hgm Q1.out (by simp)) (by simpa using fun e => hne e.symm)
    have g3 : (wm.setRow p zM).grownBy ((wm.setRow p zM).setCell ⟨q, 0, none⟩ (.int .i64 x)) (some q) := gset (grefl _ _) (p := ⟨q, 0, none⟩) (.inl rfl) _
    have P3 := gblock g3 P2 (by simpa using hne)
    have Q3 := bset Q2 0 (.int .i64 x)
    have G3 := gset2 (gsetRow (gtrans G1.out hgm) (show w.heap.size ≤ p from by have := LW.out; omega) zM) (p := ⟨q, 0, none⟩) (v := .int .i64 x) (by have := LW.out; show w.heap.size ≤ q; omega)
    refine ⟨_, results_rc rfl _ _ p q 37 _ (0, 0) _ _ rfl P3 Tryd.underlying37 rfl (by kernel_rfl) rfl (bcellAt Q3 0) (by kernel_rfl), G3, .slice none 0 0, .slice none 0 0, .slice none 0 0, .slice none 0 0, .slice none 0 0, ?_, ?_⟩
    · rw [HM.out, HE.out, ← ms0_val]; rfl
    · rw [HM.out]; exact ms0_f _ _
end Go.Proofs.YthgendgmlpaglaaDoor
