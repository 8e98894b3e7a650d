/-
  The program's checks (layer 5): each by its contract.
  The program's list of checks (layer 5), by the type.
  split, text, whole (layer 5).
  text, whole, May (layer 5).
  Names, Fold, Compressed, Read, Write (layer 5).
  Read, Write (layer 5).
-/
import Derived.Test.YthgendgmlpaglaaDoorA7
import Derived.Test.YthgendgmlpaglaaDoorA6
import Derived.Test.YthgendgmlpaglaaDoorA5
import Derived.StillTailTactics
import Derived.IntWalk
import Derived.Laws.Rows
namespace Go.Proofs.YthgendgmlpaglaaDoor
open Go.RowKit

def pcv (x : Pc) : List Value := [.string x.text, .bool x.name, .int .i64 (x.next : Int)]
def crV : Cr → Value
  | .ok x => .tuple #[.agg #[.string x.text, .bool x.name, .int .i64 (x.next : Int)], .int .i64 0]
  | .no e => .tuple #[.agg #[.string ByteArray.empty, .bool false, .int .i64 0], .int .i64 (e : Int)]
theorem Tryd.pieceSize : (Tryd.prog.info? 145).map (·.size) = some 3 := by kernel_rfl

theorem txF_eq {s : ByteArray} {p : Nat} (h : p < s.size) : txF s p = (if p + 1 + bt s p = s.size then true else txF s (p + 1 + bt s p)) := by rw [txF, dif_pos h]
theorem kb_alloc (w : World) (o o' : Obj) : KB w.heap.size (w.alloc o).drew (w.alloc o').drew :=
  ⟨rfl, rfl, rfl, by show (w.alloc o).heap.size ≤ (w.alloc o').heap.size; simp, fun i hi => (Below.heap_alloc w o' i hi).trans (Below.heap_alloc w o i hi).symm⟩
theorem rd_pos {s : ByteArray} {p e : Nat} : ∀ {lim nx out}, rdF s p lim nx out = .no e → 1 ≤ e ∧ e ≤ 8 := by
  intro lim nx out h
  exact rd_ind (s := s) (P := fun p lim nx out => rdF s p lim nx out = .no e → 1 ≤ e ∧ e ≤ 8)
    (fun p lim nx out h e => by rw [rd_short h] at e; cases e; omega)
    (fun p lim nx out h h0 e => by rw [rd_end h h0] at e; cases e)
    (fun p lim nx out h0 h64 h1 h2 ih e => ih (by rw [rd_label h0 h64 h1 h2] at e; exact e))
    (fun p lim nx out h0 h64 h1 h2 e => by rw [rd_long h0 h64 h1 h2] at e; cases e; omega)
    (fun p lim nx out h h0 h64 h1 e => by rw [rd_lshort h h0 h64 h1] at e; cases e; omega)
    (fun p lim nx out h h64 h192 e => by rw [rd_form h h64 h192] at e; cases e; omega)
    (fun p lim nx out h192 h2 h3 ih e => ih (by rw [rd_ptr h192 h2 h3] at e; exact e))
    (fun p lim nx out h192 h2 h3 e => by rw [rd_loop h192 h2 h3] at e; cases e; omega)
    (fun p lim nx out h h192 h2 e => by rw [rd_pshort h h192 h2] at e; cases e; omega) p lim nx out h

set_option maxRecDepth 100000 in
set_option maxHeartbeats 1000000 in
theorem cnum_any (n : Nat) (s : ByteArray) (p b : Nat) (w : World) (hc : w.cell? ⟨b, 0, none⟩ = some (.int .i64 n)) (hn : n ≤ 1000) (hp : p ≤ s.size) (hs : s.size ≤ 1000000) : Calls Tryd.prog 81 #[.string s, .int .i64 p, .pointer (some ⟨b, 0, none⟩)] w fun e w' => e = .returned (crV (ckF (.num n) s p)) ∧ w.grownBy w' none := by
  have hb : b < w.heap.size := World.block_lt_of_cell? w _ hc
  by_cases h : s.size - p < n
  · have k0 : decide ((s.size : Int) - (p : Int) < (n : Int)) = true := by simp; omega
    have HK := Lib.hid (show ckF (.num n) s p = .no 4 from if_pos h)
    clear h
    go_enter Tryd.func81, Tryd.ntmps81
    go_wp2_with fail
    refine bodyPost_ret (results_cr rfl _ _ w.heap.size _ _ _ _ rfl (balloc w _) Tryd.underlying145 rfl (by kernel_rfl)) rfl ?_
    exact ⟨by rw [HK.out]; rfl, galloc (grefl w none) _⟩
  · have k0 : decide ((s.size : Int) - (p : Int) < (n : Int)) = false := by simp; omega
    have HK := Lib.hid (show ckF (.num n) s p = .ok ⟨s.extract p (p + n), false, p + n⟩ from if_neg h)
    go_enter Tryd.func81, Tryd.ntmps81
    go_wp2_with fail
    have hB := Lib.hid (balloc w (.cells #[.string ⟨#[]⟩, .bool false, .int .i64 0] 145))
    have G0 := Lib.hid (gdrew (galloc (grefl w none) (.cells #[.string ⟨#[]⟩, .bool false, .int .i64 0] 145)))
    have c1 := (G0.out.cell hc (by simp))
    have HB := Lib.hid (show ((w.alloc (.cells #[.string ⟨#[]⟩, .bool false, .int .i64 0] 145)).drew).heap[w.heap.size]? = _ from hB.out)
    clear hc hB
    refine wp_region_still_tail 10 (by kernel_rfl) (by kernel_rfl) ?_
    simp only [List.take_succ_cons, List.take_zero, List.drop_succ_cons, List.drop_zero]
    rw [show ({ (w.alloc (.cells #[.string ⟨#[]⟩, .bool false, .int .i64 0] 145)) with drawn := (w.alloc (.cells #[.string ⟨#[]⟩, .bool false, .int .i64 0] 145)).drawn + 1 } : World) = (w.alloc (.cells #[.string ⟨#[]⟩, .bool false, .int .i64 0] 145)).drew from rfl]
    generalize (w.alloc (.cells #[.string ⟨#[]⟩, .bool false, .int .i64 0] 145)).drew = w2 at *
    have a3 : s.size ≤ 1000000 := hs
    have a1 : 0 ≤ (p : Int) + (n : Int) := by omega
    have a2 : ((p : Int) + (n : Int)).toNat = p + n := by omega
    have a4 : p ≤ p + n := by omega
    have a5 : p + n ≤ s.size := by omega
    have a0 : IntKind.i64.wrap ((p : Int) + (n : Int)) = (p : Int) + (n : Int) := IntWalk.i64_in _ (by omega)
    have b1 : (p : Int) ≤ (p : Int) + (n : Int) := by omega
    have b2 : (p : Int) + (n : Int) ≤ (s.size : Int) := by omega
    repeat still_step
    refine wpStill_nil ?_
    clear a0 a1 a2
    have c2 := fun j => bcellAt HB.out j
    have f2 := fun j => bfree HB.out j
    have l2 := blt HB.out
    go_wp2_with fail
    refine bodyPost_ret (results_cr rfl _ _ w.heap.size _ _ _ _ rfl (bset3_ HB.out _ _ _) Tryd.underlying145 rfl (by kernel_rfl)) rfl ?_
    exact ⟨by rw [HK.out]; rfl, gstepb G0.out (gset3_ _ _ _ _ _) (Nat.le_refl _)⟩

set_option maxRecDepth 100000 in
set_option maxHeartbeats 1000000 in
theorem cnam_any (s : ByteArray) (p : Nat) (w : World) (he : Et w) (hp : p ≤ s.size) (hs : s.size ≤ 1000000) : Calls Tryd.prog 82 #[.string s, .int .i64 p] w fun e w' => e = .returned (crV (ckF .nam s p)) ∧ w.grownBy w' none := by
  have HR := Lib.hid (fun w1 h => cread_any s (p : Int) w1 h hs)
  rw [rdAt_in (by omega) (by omega)] at HR
  have HE := Lib.hid he
  clear he
  have HK : ckF .nam s p = match rdF s p p none [] with
    | .ok n next => .ok ⟨⟨n.toArray⟩, true, next⟩
    | .no e => .no e := rfl
  simp only [Int.toNat_natCast] at HR
  cases hr : rdF s p p none [] with
  | ok n next =>
    rw [hr] at HR HK
    have HK' := Lib.hid HK
    clear HK hr
    unfold rdR at HR
    go_enter Tryd.func82, Tryd.ntmps82
    go_wp2_with fail
    refine Calls.mono (HR.out _ (HE.out.kept (galloc (grefl w none) _) (by simp))) ?_
    rintro e w1 ⟨rfl, hg⟩
    have HB := Lib.hid (gblock hg (balloc w _) (by simp))
    have G1 := Lib.hid (gtrans (galloc (grefl w none) _) hg)
    have c0 := fun j => bcellAt HB.out j
    have f0 := fun j => bfree HB.out j
    have l0 := blt HB.out
    clear hg HR
    go_wp2_with fail
    refine bodyPost_ret (results_cr rfl _ _ w.heap.size _ _ _ _ rfl (bset3_ HB.out _ _ _) Tryd.underlying145 rfl (by kernel_rfl)) rfl ?_
    exact ⟨by rw [HK'.out]; rfl, gstepb G1.out (gset3_ _ _ _ _ _) (Nat.le_refl _)⟩
  | no er =>
    rw [hr] at HR HK
    have HK' := Lib.hid HK
    clear HK
    have hpos := rd_pos (p := p) hr
    clear hr
    unfold rdR at HR
    have k0 : ((er : Int) != 0) = true := by simp; omega
    go_enter Tryd.func82, Tryd.ntmps82
    go_wp2_with fail
    refine Calls.mono (HR.out _ (HE.out.kept (galloc (grefl w none) _) (by simp))) ?_
    rintro e w1 ⟨rfl, hg⟩
    have HB := Lib.hid (gblock hg (balloc w _) (by simp))
    have G1 := Lib.hid (gtrans (galloc (grefl w none) _) hg)
    have c0 := fun j => bcellAt HB.out j
    have f0 := fun j => bfree HB.out j
    have l0 := blt HB.out
    clear hg HR
    go_wp2_with fail
    refine bodyPost_ret (results_cr rfl _ _ w.heap.size _ _ _ _ rfl (bset3_ HB.out _ _ _) Tryd.underlying145 rfl (by kernel_rfl)) rfl ?_
    exact ⟨by rw [HK'.out]; rfl, gstepb G1.out (gset3_ _ _ _ _ _) (Nat.le_refl _)⟩

set_option maxRecDepth 100000 in
set_option maxHeartbeats 1000000 in
theorem ctxt_any (s : ByteArray) (p : Nat) (w : World) (hp : p ≤ s.size) (hs : s.size ≤ 1000000) : Calls Tryd.prog 83 #[.string s, .int .i64 p] w fun e w' => e = .returned (crV (ckF .txt s p)) ∧ w.grownBy w' none := by
  go_enter Tryd.func83, Tryd.ntmps83
  go_wp2_with fail
  go_loop [6, 7] (fun ve vf => ∃ (q : Nat) (fi : Bool), ve = .int .i64 q ∧ vf = .bool fi ∧ q ≤ s.size ∧ p ≤ q ∧ (fi = true → q = p) ∧ (fi = false → txF s p = (if q = s.size then true else txF s q))) (fun ve _ => s.size - (intOf ve).toNat)
  case atStart => exact ⟨p, true, rfl, rfl, hp, Nat.le_refl _, (fun _ => rfl), fun e => by cases e⟩
  case round =>
    obtain ⟨q, fi, rfl, rfl, hq, hpq, h1, h2⟩ := hrel
    cases fi with
    | true =>
      obtain rfl : q = p := h1 rfl
      clear h1 h2
      by_cases hlt : q < s.size
      · have k1 : ((q : Int) == (s.size : Int)) = false := by simp; omega
        have hg := (bt_get s q hlt).symm
        have hb := bt_lt s q
        have l1 := s[q].toNat_lt
        by_cases hfit : q + 1 + bt s q ≤ s.size
        · have k2 : decide ((s.size : Int) < (q : Int) + (1 + ((bt s q : Nat) : Int))) = false := by simp; omega
          have HN := Lib.hid (show txF s q = (if q + 1 + bt s q = s.size then true else txF s (q + 1 + bt s q)) by exact txF_eq hlt)
          go_wp2_with fail
          go_round
          case rel => exact ⟨q + 1 + bt s q, false, by go_num, rfl, hfit, by omega, (fun e => by cases e), fun _ => HN.out⟩
          case measure => simp [intOf]; omega
        · have k2 : decide ((s.size : Int) < (q : Int) + (1 + ((bt s q : Nat) : Int))) = true := by simp; omega
          have HN := Lib.hid (show ckF .txt s q = .no 4 by
            have e : txF s q = false := by rw [txF_step hlt (by omega), txF_out (by omega)]
            show (if txF s q = true then _ else _) = _
            rw [e]; rfl)
          go_wp2_with fail
          refine bodyPost_ret (results_cr rfl _ _ w.heap.size _ _ _ _ rfl (balloc w _) Tryd.underlying145 rfl (by kernel_rfl)) rfl ?_
          exact ⟨by rw [HN.out]; rfl, galloc (grefl w none) _⟩
      · have k1 : ((q : Int) == (s.size : Int)) = true := by simp; omega
        have HN := Lib.hid (show ckF .txt s q = .no 4 by
          show (if txF s q = true then _ else _) = _
          rw [txF_out (by omega)]; rfl)
        go_wp2_with fail
        refine bodyPost_ret (results_cr rfl _ _ w.heap.size _ _ _ _ rfl (balloc w _) Tryd.underlying145 rfl (by kernel_rfl)) rfl ?_
        exact ⟨by rw [HN.out]; rfl, galloc (grefl w none) _⟩
    | false =>
      have HT := Lib.hid (h2 rfl)
      clear h1 h2
      by_cases hlt : q < s.size
      · have k0 : decide ((q : Int) < (s.size : Int)) = true := by simp; omega
        have k1 : ((q : Int) == (s.size : Int)) = false := by simp; omega
        have hg := (bt_get s q hlt).symm
        have hb := bt_lt s q
        have l1 := s[q].toNat_lt
        by_cases hfit : q + 1 + bt s q ≤ s.size
        · have k2 : decide ((s.size : Int) < (q : Int) + (1 + ((bt s q : Nat) : Int))) = false := by simp; omega
          have HN := Lib.hid (show txF s p = (if q + 1 + bt s q = s.size then true else txF s (q + 1 + bt s q)) by rw [HT.out, if_neg (by omega)]; exact txF_eq hlt)
          go_wp2_with fail
          go_round
          case rel => exact ⟨q + 1 + bt s q, false, by go_num, rfl, hfit, by omega, (fun e => by cases e), fun _ => HN.out⟩
          case measure => simp [intOf]; omega
        · have k2 : decide ((s.size : Int) < (q : Int) + (1 + ((bt s q : Nat) : Int))) = true := by simp; omega
          have HN := Lib.hid (show ckF .txt s p = .no 4 by
            have e : txF s p = false := by rw [HT.out, if_neg (by omega), txF_step hlt (by omega), txF_out (by omega)]
            show (if txF s p = true then _ else _) = _
            rw [e]; rfl)
          go_wp2_with fail
          refine bodyPost_ret (results_cr rfl _ _ w.heap.size _ _ _ _ rfl (balloc w _) Tryd.underlying145 rfl (by kernel_rfl)) rfl ?_
          exact ⟨by rw [HN.out]; rfl, galloc (grefl w none) _⟩
      · have k0 : decide ((q : Int) < (s.size : Int)) = false := by simp; omega
        obtain rfl : q = s.size := by omega
        have HN := Lib.hid (show ckF .txt s p = .ok ⟨s.extract p s.size, false, s.size⟩ by
          show (if txF s p = true then _ else _) = _
          rw [HT.out, if_pos rfl, if_pos rfl])
        go_wp2_with fail
        refine bodyPost_ret (results_cr rfl _ _ w.heap.size _ _ _ _ rfl (balloc w _) Tryd.underlying145 rfl (by kernel_rfl)) rfl ?_
        exact ⟨by rw [HN.out]; rfl, galloc (grefl w none) _⟩
set_option maxRecDepth 100000 in
theorem crst_any (s : ByteArray) (p : Nat) (w : World) (hp : p ≤ s.size) (_hs : s.size ≤ 1000000) : Calls Tryd.prog 84 #[.string s, .int .i64 p] w fun e w' => e = .returned (crV (ckF .rst s p)) ∧ w.grownBy w' none := by
  go_enter Tryd.func84, Tryd.ntmps84
  go_wp2_with fail
  refine bodyPost_ret (results_cr rfl _ _ w.heap.size _ _ _ _ rfl (balloc w _) Tryd.underlying145 rfl (by kernel_rfl)) rfl ?_
  exact ⟨rfl, galloc (grefl w none) _⟩

/-- The value of a check. -/
def CkV (w : World) (v : Value) (c : Ck) : Prop :=
  match c with
  | .num n => ∃ b, n ≤ 1000 ∧ v = .func (.func 81) #[] #[.pointer (some ⟨b, 0, none⟩)] ∧ w.heap[b]? = some (.cells #[.int .i64 n] 3 (0, 0))
  | .nam => v = .func (.func 82) #[] #[]
  | .txt => v = .func (.func 83) #[] #[]
  | .rst => v = .func (.func 84) #[] #[]
theorem CkV.kept {w w' : World} {v : Value} {c : Ck} {row : Option Nat} (h : CkV w v c) (g : w.grownBy w' row) (hr : ∀ b, row = some b → w.heap.size ≤ b ∨ ∃ c t z, w.heap[b]? = some (.cells c t z) ∧ c.size ≠ 1) : CkV w' v c := by
  cases c with
  | num n =>
    obtain ⟨b, h1, h2, h3⟩ := h
    refine ⟨b, h1, h2, gblock g h3 ?_⟩
    intro e
    rcases hr b e.symm with h4 | ⟨c, t, z, h4, h5⟩
    · have := blt h3; omega
    · rw [h3] at h4
      cases h4
      simp at h5
  | nam => exact h
  | txt => exact h
  | rst => exact h
theorem CkV.kept0 {w w' : World} {v : Value} {c : Ck} (h : CkV w v c) (g : w.grownBy w' none) : CkV w' v c := h.kept g (fun _ e => by cases e)
theorem cf_num (args : Array Value) (w : World) : (callFunc 81 args).run Tryd.prog w = .ok (.enter 81 args) w := by kernel_rfl
theorem cf_nam (args : Array Value) (w : World) : (callFunc 82 args).run Tryd.prog w = .ok (.enter 82 args) w := by kernel_rfl
theorem cf_txt (args : Array Value) (w : World) : (callFunc 83 args).run Tryd.prog w = .ok (.enter 83 args) w := by kernel_rfl
theorem cf_rst (args : Array Value) (w : World) : (callFunc 84 args).run Tryd.prog w = .ok (.enter 84 args) w := by kernel_rfl
theorem CkV.calls {w : World} {v : Value} {c : Ck} (h : CkV w v c) : ∃ (fn : FuncId) (caps : Array Value), v = .func (.func fn) #[] caps ∧ (∀ (args : Array Value) (w : World), (callFunc fn args).run Tryd.prog w = .ok (.enter fn args) w) ∧ ∀ (w1 : World) (s : ByteArray) (p : Nat), w.grownBy w1 none → Et w1 → p ≤ s.size → s.size ≤ 1000000 →
    Calls Tryd.prog fn (#[.string s, .int .i64 p] ++ caps) w1 fun e w' => e = .returned (crV (ckF c s p)) ∧ w1.grownBy w' none := by
  cases c with
  | num n =>
    obtain ⟨b, h1, h2, h3⟩ := h
    exact ⟨_, _, h2, cf_num, fun w1 s p g he hp hs => cnum_any n s p b w1 (bcellAt (gblock g h3 (by simp)) 0) h1 hp hs⟩
  | nam => exact ⟨_, _, h, cf_nam, fun w1 s p g he hp hs => cnam_any s p w1 he hp hs⟩
  | txt => exact ⟨_, _, h, cf_txt, fun w1 s p g he hp hs => ctxt_any s p w1 hp hs⟩
  | rst => exact ⟨_, _, h, cf_rst, fun w1 s p g he hp hs => crst_any s p w1 hp hs⟩
theorem mkf (fn : Fn) (first cap : Array Value) (w : World) : (Instr.makeFunc fn first cap).run Tryd.prog w = .ok (.func fn first cap) w := rfl
theorem number_any (n : Nat) (hn : n ≤ 1000) (w : World) : Calls Tryd.prog 77 #[.int .i64 n] w fun e w' => ∃ v, e = .returned v ∧ CkV w' v (.num n) ∧ w.grownBy w' none := by
  have hmf := mkf
  go_enter Tryd.func77, Tryd.ntmps77
  go_wp2_with fail
  go_ret
  exact ⟨_, rfl, ⟨_, hn, rfl, balloc w _⟩, galloc (grefl w none) _⟩
theorem named_any (w : World) : Calls Tryd.prog 78 #[] w fun e w' => ∃ v, e = .returned v ∧ CkV w' v .nam ∧ w.grownBy w' none := by
  have hmf := mkf
  go_enter Tryd.func78, Tryd.ntmps78
  go_wp2_with fail
  go_ret
  exact ⟨_, rfl, rfl, grefl w none⟩
theorem textsM_any (w : World) : Calls Tryd.prog 79 #[] w fun e w' => ∃ v, e = .returned v ∧ CkV w' v .txt ∧ w.grownBy w' none := by
  have hmf := mkf
  go_enter Tryd.func79, Tryd.ntmps79
  go_wp2_with fail
  go_ret
  exact ⟨_, rfl, rfl, grefl w none⟩
theorem restM_any (w : World) : Calls Tryd.prog 80 #[] w fun e w' => ∃ v, e = .returned v ∧ CkV w' v .rst ∧ w.grownBy w' none := by
  have hmf := mkf
  go_enter Tryd.func80, Tryd.ntmps80
  go_wp2_with fail
  go_ret
  exact ⟨_, rfl, rfl, grefl w none⟩
end Go.Proofs.YthgendgmlpaglaaDoor
namespace Go.Proofs.YthgendgmlpaglaaDoor
open Go.RowKit

@[go_sem] theorem run_store_func {P : Program} {w : World} {a : Addr} {m : Mode} (fn : Fn) (x y : Array Value) : (store a (.func fn x y) m).run P w = stored P w a (.func fn x y) m := run_store P w a _ m rfl
@[go_sem] theorem run_store_nilFunc {P : Program} {w : World} {a : Addr} {m : Mode} : (store a .nilFunc m).run P w = stored P w a .nilFunc m := run_store P w a _ m rfl
/-- A row of three checks. -/
def CkA (w : World) (v : Value) (cs : List Ck) : Prop :=
  ∃ v0 v1 v2, v = .agg #[v0, v1, v2] ∧ cs.length ≤ 3 ∧ ∀ i, i < 3 → (∀ c, cs[i]? = some c → ∃ u, [v0, v1, v2][i]? = some u ∧ CkV w u c) ∧ (cs[i]? = none → [v0, v1, v2][i]? = some .nilFunc)
theorem CkA.one {w : World} {v0 : Value} {c0 : Ck} (h0 : CkV w v0 c0) : CkA w (.agg #[v0, .nilFunc, .nilFunc]) [c0] :=
  ⟨_, _, _, rfl, by simp, fun i hi => by
    rcases i with _ | _ | _ | i
    · exact ⟨fun c e => ⟨_, rfl, by cases e; exact h0⟩, fun e => by cases e⟩
    · exact ⟨(fun c e => by cases e), fun _ => rfl⟩
    · exact ⟨(fun c e => by cases e), fun _ => rfl⟩
    · omega⟩
theorem CkA.two {w : World} {v0 v1 : Value} {c0 c1 : Ck} (h0 : CkV w v0 c0) (h1 : CkV w v1 c1) : CkA w (.agg #[v0, v1, .nilFunc]) [c0, c1] :=
  ⟨_, _, _, rfl, by simp, fun i hi => by
    rcases i with _ | _ | _ | i
    · exact ⟨fun c e => ⟨_, rfl, by cases e; exact h0⟩, fun e => by cases e⟩
    · exact ⟨fun c e => ⟨_, rfl, by cases e; exact h1⟩, fun e => by cases e⟩
    · exact ⟨(fun c e => by cases e), fun _ => rfl⟩
    · omega⟩
theorem CkA.three {w : World} {v0 v1 v2 : Value} {c0 c1 c2 : Ck} (h0 : CkV w v0 c0) (h1 : CkV w v1 c1) (h2 : CkV w v2 c2) : CkA w (.agg #[v0, v1, v2]) [c0, c1, c2] :=
  ⟨_, _, _, rfl, by simp, fun i hi => by
    rcases i with _ | _ | _ | i
    · exact ⟨fun c e => ⟨_, rfl, by cases e; exact h0⟩, fun e => by cases e⟩
    · exact ⟨fun c e => ⟨_, rfl, by cases e; exact h1⟩, fun e => by cases e⟩
    · exact ⟨fun c e => ⟨_, rfl, by cases e; exact h2⟩, fun e => by cases e⟩
    · omega⟩

set_option maxRecDepth 100000 in
set_option maxHeartbeats 1000000 in
theorem checks_any (k : Nat) (w : World) : Calls Tryd.prog 73 #[.int .u16 k] w fun e w' => ∃ v, e = .returned v ∧ CkA w' v (cks k) ∧ w.grownBy w' none := by
  have hmf := mkf
  by_cases h1 : k = 1
  · subst h1
    have HC : cks 1 = [.num 4] := rfl
    have HC1 := Lib.hid HC
    clear HC
    have HB0 := Lib.hid (balloc w (.cells #[.nilFunc, .nilFunc, .nilFunc] 160))
    have G0 := Lib.hid (galloc (grefl w none) (.cells #[.nilFunc, .nilFunc, .nilFunc] 160))
    go_enter Tryd.func73, Tryd.ntmps73
    go_wp2_with fail
    generalize w.alloc (.cells #[.nilFunc, .nilFunc, .nilFunc] 160) = u0 at *
    refine Calls.mono (number_any 4 (by omega) _) ?_
    rintro e u1 ⟨v0, rfl, hv, hg⟩
    have G1 := Lib.hid (gtrans G0.out hg)
    have HB1 := Lib.hid (gblock hg HB0.out (by simp))
    obtain ⟨fn0, ca0, rfl, _⟩ := hv.calls
    have K0 := Lib.hid hv
    clear hv hg G0 HB0 
    have c0 : u1.cell? ⟨w.heap.size, 0, none⟩ = some .nilFunc := bcellAt HB1.out 0
    have f0 : u1.frozen? ⟨w.heap.size, 0, none⟩ = false := bfree HB1.out 0
    have c1 : u1.cell? ⟨w.heap.size, 1, none⟩ = some .nilFunc := bcellAt HB1.out 1
    have f1 : u1.frozen? ⟨w.heap.size, 1, none⟩ = false := bfree HB1.out 1
    have c2 : u1.cell? ⟨w.heap.size, 2, none⟩ = some .nilFunc := bcellAt HB1.out 2
    have f2 : u1.frozen? ⟨w.heap.size, 2, none⟩ = false := bfree HB1.out 2
    have l0 := blt HB1.out
    go_wp2_with fail
    refine bodyPost_ret (results_cell_row rfl _ _ w.heap.size _ _ _ _ rfl (bset3_ HB1.out _ _ _) Tryd.underlying160 rfl (by kernel_rfl)) rfl ?_
    refine ⟨_, rfl, ?_, gstepb G1.out (gset3_ _ _ _ _ _) (Nat.le_refl _)⟩
    rw [HC1.out]
    exact CkA.one (K0.out.kept (gset3_ _ _ _ _ _) (fun b e => .inr ⟨_, _, _, by cases e; exact HB1.out, by simp⟩))
  by_cases h28 : k = 28
  · subst h28
    have HC : cks 28 = [.num 16] := rfl
    have HC1 := Lib.hid HC
    clear HC
    have HB0 := Lib.hid (balloc w (.cells #[.nilFunc, .nilFunc, .nilFunc] 160))
    have G0 := Lib.hid (galloc (grefl w none) (.cells #[.nilFunc, .nilFunc, .nilFunc] 160))
    go_enter Tryd.func73, Tryd.ntmps73
    go_wp2_with fail
    generalize w.alloc (.cells #[.nilFunc, .nilFunc, .nilFunc] 160) = u0 at *
    refine Calls.mono (number_any 16 (by omega) _) ?_
    rintro e u1 ⟨v0, rfl, hv, hg⟩
    have G1 := Lib.hid (gtrans G0.out hg)
    have HB1 := Lib.hid (gblock hg HB0.out (by simp))
    obtain ⟨fn0, ca0, rfl, _⟩ := hv.calls
    have K0 := Lib.hid hv
    clear hv hg G0 HB0 
    have c0 : u1.cell? ⟨w.heap.size, 0, none⟩ = some .nilFunc := bcellAt HB1.out 0
    have f0 : u1.frozen? ⟨w.heap.size, 0, none⟩ = false := bfree HB1.out 0
    have c1 : u1.cell? ⟨w.heap.size, 1, none⟩ = some .nilFunc := bcellAt HB1.out 1
    have f1 : u1.frozen? ⟨w.heap.size, 1, none⟩ = false := bfree HB1.out 1
    have c2 : u1.cell? ⟨w.heap.size, 2, none⟩ = some .nilFunc := bcellAt HB1.out 2
    have f2 : u1.frozen? ⟨w.heap.size, 2, none⟩ = false := bfree HB1.out 2
    have l0 := blt HB1.out
    go_wp2_with fail
    refine bodyPost_ret (results_cell_row rfl _ _ w.heap.size _ _ _ _ rfl (bset3_ HB1.out _ _ _) Tryd.underlying160 rfl (by kernel_rfl)) rfl ?_
    refine ⟨_, rfl, ?_, gstepb G1.out (gset3_ _ _ _ _ _) (Nat.le_refl _)⟩
    rw [HC1.out]
    exact CkA.one (K0.out.kept (gset3_ _ _ _ _ _) (fun b e => .inr ⟨_, _, _, by cases e; exact HB1.out, by simp⟩))
  by_cases h2 : k = 2
  · subst h2
    have HC : cks 2 = [.nam] := rfl
    have HC1 := Lib.hid HC
    clear HC
    have HB0 := Lib.hid (balloc w (.cells #[.nilFunc, .nilFunc, .nilFunc] 160))
    have G0 := Lib.hid (galloc (grefl w none) (.cells #[.nilFunc, .nilFunc, .nilFunc] 160))
    go_enter Tryd.func73, Tryd.ntmps73
    go_wp2_with fail
    generalize w.alloc (.cells #[.nilFunc, .nilFunc, .nilFunc] 160) = u0 at *
    refine Calls.mono (named_any _) ?_
    rintro e u1 ⟨v0, rfl, hv, hg⟩
    have G1 := Lib.hid (gtrans G0.out hg)
    have HB1 := Lib.hid (gblock hg HB0.out (by simp))
    obtain ⟨fn0, ca0, rfl, _⟩ := hv.calls
    have K0 := Lib.hid hv
    clear hv hg G0 HB0 
    have c0 : u1.cell? ⟨w.heap.size, 0, none⟩ = some .nilFunc := bcellAt HB1.out 0
    have f0 : u1.frozen? ⟨w.heap.size, 0, none⟩ = false := bfree HB1.out 0
    have c1 : u1.cell? ⟨w.heap.size, 1, none⟩ = some .nilFunc := bcellAt HB1.out 1
    have f1 : u1.frozen? ⟨w.heap.size, 1, none⟩ = false := bfree HB1.out 1
    have c2 : u1.cell? ⟨w.heap.size, 2, none⟩ = some .nilFunc := bcellAt HB1.out 2
    have f2 : u1.frozen? ⟨w.heap.size, 2, none⟩ = false := bfree HB1.out 2
    have l0 := blt HB1.out
    go_wp2_with fail
    refine bodyPost_ret (results_cell_row rfl _ _ w.heap.size _ _ _ _ rfl (bset3_ HB1.out _ _ _) Tryd.underlying160 rfl (by kernel_rfl)) rfl ?_
    refine ⟨_, rfl, ?_, gstepb G1.out (gset3_ _ _ _ _ _) (Nat.le_refl _)⟩
    rw [HC1.out]
    exact CkA.one (K0.out.kept (gset3_ _ _ _ _ _) (fun b e => .inr ⟨_, _, _, by cases e; exact HB1.out, by simp⟩))
  by_cases h5 : k = 5
  · subst h5
    have HC : cks 5 = [.nam] := rfl
    have HC1 := Lib.hid HC
    clear HC
    have HB0 := Lib.hid (balloc w (.cells #[.nilFunc, .nilFunc, .nilFunc] 160))
    have G0 := Lib.hid (galloc (grefl w none) (.cells #[.nilFunc, .nilFunc, .nilFunc] 160))
    go_enter Tryd.func73, Tryd.ntmps73
    go_wp2_with fail
    generalize w.alloc (.cells #[.nilFunc, .nilFunc, .nilFunc] 160) = u0 at *
    refine Calls.mono (named_any _) ?_
    rintro e u1 ⟨v0, rfl, hv, hg⟩
    have G1 := Lib.hid (gtrans G0.out hg)
    have HB1 := Lib.hid (gblock hg HB0.out (by simp))
    obtain ⟨fn0, ca0, rfl, _⟩ := hv.calls
    have K0 := Lib.hid hv
    clear hv hg G0 HB0 
    have c0 : u1.cell? ⟨w.heap.size, 0, none⟩ = some .nilFunc := bcellAt HB1.out 0
    have f0 : u1.frozen? ⟨w.heap.size, 0, none⟩ = false := bfree HB1.out 0
    have c1 : u1.cell? ⟨w.heap.size, 1, none⟩ = some .nilFunc := bcellAt HB1.out 1
    have f1 : u1.frozen? ⟨w.heap.size, 1, none⟩ = false := bfree HB1.out 1
    have c2 : u1.cell? ⟨w.heap.size, 2, none⟩ = some .nilFunc := bcellAt HB1.out 2
    have f2 : u1.frozen? ⟨w.heap.size, 2, none⟩ = false := bfree HB1.out 2
    have l0 := blt HB1.out
    go_wp2_with fail
    refine bodyPost_ret (results_cell_row rfl _ _ w.heap.size _ _ _ _ rfl (bset3_ HB1.out _ _ _) Tryd.underlying160 rfl (by kernel_rfl)) rfl ?_
    refine ⟨_, rfl, ?_, gstepb G1.out (gset3_ _ _ _ _ _) (Nat.le_refl _)⟩
    rw [HC1.out]
    exact CkA.one (K0.out.kept (gset3_ _ _ _ _ _) (fun b e => .inr ⟨_, _, _, by cases e; exact HB1.out, by simp⟩))
  by_cases h12 : k = 12
  · subst h12
    have HC : cks 12 = [.nam] := rfl
    have HC1 := Lib.hid HC
    clear HC
    have HB0 := Lib.hid (balloc w (.cells #[.nilFunc, .nilFunc, .nilFunc] 160))
    have G0 := Lib.hid (galloc (grefl w none) (.cells #[.nilFunc, .nilFunc, .nilFunc] 160))
    go_enter Tryd.func73, Tryd.ntmps73
    go_wp2_with fail
    generalize w.alloc (.cells #[.nilFunc, .nilFunc, .nilFunc] 160) = u0 at *
    refine Calls.mono (named_any _) ?_
    rintro e u1 ⟨v0, rfl, hv, hg⟩
    have G1 := Lib.hid (gtrans G0.out hg)
    have HB1 := Lib.hid (gblock hg HB0.out (by simp))
    obtain ⟨fn0, ca0, rfl, _⟩ := hv.calls
    have K0 := Lib.hid hv
    clear hv hg G0 HB0 
    have c0 : u1.cell? ⟨w.heap.size, 0, none⟩ = some .nilFunc := bcellAt HB1.out 0
    have f0 : u1.frozen? ⟨w.heap.size, 0, none⟩ = false := bfree HB1.out 0
    have c1 : u1.cell? ⟨w.heap.size, 1, none⟩ = some .nilFunc := bcellAt HB1.out 1
    have f1 : u1.frozen? ⟨w.heap.size, 1, none⟩ = false := bfree HB1.out 1
    have c2 : u1.cell? ⟨w.heap.size, 2, none⟩ = some .nilFunc := bcellAt HB1.out 2
    have f2 : u1.frozen? ⟨w.heap.size, 2, none⟩ = false := bfree HB1.out 2
    have l0 := blt HB1.out
    go_wp2_with fail
    refine bodyPost_ret (results_cell_row rfl _ _ w.heap.size _ _ _ _ rfl (bset3_ HB1.out _ _ _) Tryd.underlying160 rfl (by kernel_rfl)) rfl ?_
    refine ⟨_, rfl, ?_, gstepb G1.out (gset3_ _ _ _ _ _) (Nat.le_refl _)⟩
    rw [HC1.out]
    exact CkA.one (K0.out.kept (gset3_ _ _ _ _ _) (fun b e => .inr ⟨_, _, _, by cases e; exact HB1.out, by simp⟩))
  by_cases h15 : k = 15
  · subst h15
    have HC : cks 15 = [.num 2, .nam] := rfl
    have HC1 := Lib.hid HC
    clear HC
    have HB0 := Lib.hid (balloc w (.cells #[.nilFunc, .nilFunc, .nilFunc] 160))
    have G0 := Lib.hid (galloc (grefl w none) (.cells #[.nilFunc, .nilFunc, .nilFunc] 160))
    go_enter Tryd.func73, Tryd.ntmps73
    go_wp2_with fail
    generalize w.alloc (.cells #[.nilFunc, .nilFunc, .nilFunc] 160) = u0 at *
    refine Calls.mono (number_any 2 (by omega) _) ?_
    rintro e u1 ⟨v0, rfl, hv, hg⟩
    have G1 := Lib.hid (gtrans G0.out hg)
    have HB1 := Lib.hid (gblock hg HB0.out (by simp))
    obtain ⟨fn0, ca0, rfl, _⟩ := hv.calls
    have K0 := Lib.hid hv
    clear hv hg G0 HB0 
    go_wp2_with fail
    refine Calls.mono (named_any _) ?_
    rintro e u2 ⟨v1, rfl, hv, hg⟩
    have G2 := Lib.hid (gtrans G1.out hg)
    have HB2 := Lib.hid (gblock hg HB1.out (by simp))
    have K0_1 := Lib.hid (K0.out.kept0 hg)
    obtain ⟨fn1, ca1, rfl, _⟩ := hv.calls
    have K1 := Lib.hid hv
    clear hv hg G1 HB1 K0
    have c0 : u2.cell? ⟨w.heap.size, 0, none⟩ = some .nilFunc := bcellAt HB2.out 0
    have f0 : u2.frozen? ⟨w.heap.size, 0, none⟩ = false := bfree HB2.out 0
    have c1 : u2.cell? ⟨w.heap.size, 1, none⟩ = some .nilFunc := bcellAt HB2.out 1
    have f1 : u2.frozen? ⟨w.heap.size, 1, none⟩ = false := bfree HB2.out 1
    have c2 : u2.cell? ⟨w.heap.size, 2, none⟩ = some .nilFunc := bcellAt HB2.out 2
    have f2 : u2.frozen? ⟨w.heap.size, 2, none⟩ = false := bfree HB2.out 2
    have l0 := blt HB2.out
    go_wp2_with fail
    refine bodyPost_ret (results_cell_row rfl _ _ w.heap.size _ _ _ _ rfl (bset3_ HB2.out _ _ _) Tryd.underlying160 rfl (by kernel_rfl)) rfl ?_
    refine ⟨_, rfl, ?_, gstepb G2.out (gset3_ _ _ _ _ _) (Nat.le_refl _)⟩
    rw [HC1.out]
    exact CkA.two (K0_1.out.kept (gset3_ _ _ _ _ _) (fun b e => .inr ⟨_, _, _, by cases e; exact HB2.out, by simp⟩)) (K1.out.kept (gset3_ _ _ _ _ _) (fun b e => .inr ⟨_, _, _, by cases e; exact HB2.out, by simp⟩))
  by_cases h6 : k = 6
  · subst h6
    have HC : cks 6 = [.nam, .nam, .num 20] := rfl
    have HC1 := Lib.hid HC
    clear HC
    have HB0 := Lib.hid (balloc w (.cells #[.nilFunc, .nilFunc, .nilFunc] 160))
    have G0 := Lib.hid (galloc (grefl w none) (.cells #[.nilFunc, .nilFunc, .nilFunc] 160))
    go_enter Tryd.func73, Tryd.ntmps73
    go_wp2_with fail
    generalize w.alloc (.cells #[.nilFunc, .nilFunc, .nilFunc] 160) = u0 at *
    refine Calls.mono (named_any _) ?_
    rintro e u1 ⟨v0, rfl, hv, hg⟩
    have G1 := Lib.hid (gtrans G0.out hg)
    have HB1 := Lib.hid (gblock hg HB0.out (by simp))
    obtain ⟨fn0, ca0, rfl, _⟩ := hv.calls
    have K0 := Lib.hid hv
    clear hv hg G0 HB0 
    go_wp2_with fail
    refine Calls.mono (named_any _) ?_
    rintro e u2 ⟨v1, rfl, hv, hg⟩
    have G2 := Lib.hid (gtrans G1.out hg)
    have HB2 := Lib.hid (gblock hg HB1.out (by simp))
    have K0_1 := Lib.hid (K0.out.kept0 hg)
    obtain ⟨fn1, ca1, rfl, _⟩ := hv.calls
    have K1 := Lib.hid hv
    clear hv hg G1 HB1 K0
    go_wp2_with fail
    refine Calls.mono (number_any 20 (by omega) _) ?_
    rintro e u3 ⟨v2, rfl, hv, hg⟩
    have G3 := Lib.hid (gtrans G2.out hg)
    have HB3 := Lib.hid (gblock hg HB2.out (by simp))
    have K0_1_2 := Lib.hid (K0_1.out.kept0 hg)
    have K1_2 := Lib.hid (K1.out.kept0 hg)
    obtain ⟨fn2, ca2, rfl, _⟩ := hv.calls
    have K2 := Lib.hid hv
    clear hv hg G2 HB2 K0_1 K1
    have c0 : u3.cell? ⟨w.heap.size, 0, none⟩ = some .nilFunc := bcellAt HB3.out 0
    have f0 : u3.frozen? ⟨w.heap.size, 0, none⟩ = false := bfree HB3.out 0
    have c1 : u3.cell? ⟨w.heap.size, 1, none⟩ = some .nilFunc := bcellAt HB3.out 1
    have f1 : u3.frozen? ⟨w.heap.size, 1, none⟩ = false := bfree HB3.out 1
    have c2 : u3.cell? ⟨w.heap.size, 2, none⟩ = some .nilFunc := bcellAt HB3.out 2
    have f2 : u3.frozen? ⟨w.heap.size, 2, none⟩ = false := bfree HB3.out 2
    have l0 := blt HB3.out
    go_wp2_with fail
    refine bodyPost_ret (results_cell_row rfl _ _ w.heap.size _ _ _ _ rfl (bset3_ HB3.out _ _ _) Tryd.underlying160 rfl (by kernel_rfl)) rfl ?_
    refine ⟨_, rfl, ?_, gstepb G3.out (gset3_ _ _ _ _ _) (Nat.le_refl _)⟩
    rw [HC1.out]
    exact CkA.three (K0_1_2.out.kept (gset3_ _ _ _ _ _) (fun b e => .inr ⟨_, _, _, by cases e; exact HB3.out, by simp⟩)) (K1_2.out.kept (gset3_ _ _ _ _ _) (fun b e => .inr ⟨_, _, _, by cases e; exact HB3.out, by simp⟩)) (K2.out.kept (gset3_ _ _ _ _ _) (fun b e => .inr ⟨_, _, _, by cases e; exact HB3.out, by simp⟩))
  by_cases h33 : k = 33
  · subst h33
    have HC : cks 33 = [.num 6, .nam] := rfl
    have HC1 := Lib.hid HC
    clear HC
    have HB0 := Lib.hid (balloc w (.cells #[.nilFunc, .nilFunc, .nilFunc] 160))
    have G0 := Lib.hid (galloc (grefl w none) (.cells #[.nilFunc, .nilFunc, .nilFunc] 160))
    go_enter Tryd.func73, Tryd.ntmps73
    go_wp2_with fail
    generalize w.alloc (.cells #[.nilFunc, .nilFunc, .nilFunc] 160) = u0 at *
    refine Calls.mono (number_any 6 (by omega) _) ?_
    rintro e u1 ⟨v0, rfl, hv, hg⟩
    have G1 := Lib.hid (gtrans G0.out hg)
    have HB1 := Lib.hid (gblock hg HB0.out (by simp))
    obtain ⟨fn0, ca0, rfl, _⟩ := hv.calls
    have K0 := Lib.hid hv
    clear hv hg G0 HB0 
    go_wp2_with fail
    refine Calls.mono (named_any _) ?_
    rintro e u2 ⟨v1, rfl, hv, hg⟩
    have G2 := Lib.hid (gtrans G1.out hg)
    have HB2 := Lib.hid (gblock hg HB1.out (by simp))
    have K0_1 := Lib.hid (K0.out.kept0 hg)
    obtain ⟨fn1, ca1, rfl, _⟩ := hv.calls
    have K1 := Lib.hid hv
    clear hv hg G1 HB1 K0
    have c0 : u2.cell? ⟨w.heap.size, 0, none⟩ = some .nilFunc := bcellAt HB2.out 0
    have f0 : u2.frozen? ⟨w.heap.size, 0, none⟩ = false := bfree HB2.out 0
    have c1 : u2.cell? ⟨w.heap.size, 1, none⟩ = some .nilFunc := bcellAt HB2.out 1
    have f1 : u2.frozen? ⟨w.heap.size, 1, none⟩ = false := bfree HB2.out 1
    have c2 : u2.cell? ⟨w.heap.size, 2, none⟩ = some .nilFunc := bcellAt HB2.out 2
    have f2 : u2.frozen? ⟨w.heap.size, 2, none⟩ = false := bfree HB2.out 2
    have l0 := blt HB2.out
    go_wp2_with fail
    refine bodyPost_ret (results_cell_row rfl _ _ w.heap.size _ _ _ _ rfl (bset3_ HB2.out _ _ _) Tryd.underlying160 rfl (by kernel_rfl)) rfl ?_
    refine ⟨_, rfl, ?_, gstepb G2.out (gset3_ _ _ _ _ _) (Nat.le_refl _)⟩
    rw [HC1.out]
    exact CkA.two (K0_1.out.kept (gset3_ _ _ _ _ _) (fun b e => .inr ⟨_, _, _, by cases e; exact HB2.out, by simp⟩)) (K1.out.kept (gset3_ _ _ _ _ _) (fun b e => .inr ⟨_, _, _, by cases e; exact HB2.out, by simp⟩))
  by_cases h16 : k = 16
  · subst h16
    have HC : cks 16 = [.txt] := rfl
    have HC1 := Lib.hid HC
    clear HC
    have HB0 := Lib.hid (balloc w (.cells #[.nilFunc, .nilFunc, .nilFunc] 160))
    have G0 := Lib.hid (galloc (grefl w none) (.cells #[.nilFunc, .nilFunc, .nilFunc] 160))
    go_enter Tryd.func73, Tryd.ntmps73
    go_wp2_with fail
    generalize w.alloc (.cells #[.nilFunc, .nilFunc, .nilFunc] 160) = u0 at *
    refine Calls.mono (textsM_any _) ?_
    rintro e u1 ⟨v0, rfl, hv, hg⟩
    have G1 := Lib.hid (gtrans G0.out hg)
    have HB1 := Lib.hid (gblock hg HB0.out (by simp))
    obtain ⟨fn0, ca0, rfl, _⟩ := hv.calls
    have K0 := Lib.hid hv
    clear hv hg G0 HB0 
    have c0 : u1.cell? ⟨w.heap.size, 0, none⟩ = some .nilFunc := bcellAt HB1.out 0
    have f0 : u1.frozen? ⟨w.heap.size, 0, none⟩ = false := bfree HB1.out 0
    have c1 : u1.cell? ⟨w.heap.size, 1, none⟩ = some .nilFunc := bcellAt HB1.out 1
    have f1 : u1.frozen? ⟨w.heap.size, 1, none⟩ = false := bfree HB1.out 1
    have c2 : u1.cell? ⟨w.heap.size, 2, none⟩ = some .nilFunc := bcellAt HB1.out 2
    have f2 : u1.frozen? ⟨w.heap.size, 2, none⟩ = false := bfree HB1.out 2
    have l0 := blt HB1.out
    go_wp2_with fail
    refine bodyPost_ret (results_cell_row rfl _ _ w.heap.size _ _ _ _ rfl (bset3_ HB1.out _ _ _) Tryd.underlying160 rfl (by kernel_rfl)) rfl ?_
    refine ⟨_, rfl, ?_, gstepb G1.out (gset3_ _ _ _ _ _) (Nat.le_refl _)⟩
    rw [HC1.out]
    exact CkA.one (K0.out.kept (gset3_ _ _ _ _ _) (fun b e => .inr ⟨_, _, _, by cases e; exact HB1.out, by simp⟩))
  have q1 : ((k : Int) == 1) = false := by simp; omega
  have q28 : ((k : Int) == 28) = false := by simp; omega
  have q2 : ((k : Int) == 2) = false := by simp; omega
  have q5 : ((k : Int) == 5) = false := by simp; omega
  have q12 : ((k : Int) == 12) = false := by simp; omega
  have q15 : ((k : Int) == 15) = false := by simp; omega
  have q6 : ((k : Int) == 6) = false := by simp; omega
  have q33 : ((k : Int) == 33) = false := by simp; omega
  have q16 : ((k : Int) == 16) = false := by simp; omega
  have HC : cks k = [.rst] := by unfold cks; rw [if_neg h1, if_neg h28, if_neg (by omega), if_neg h15, if_neg h6, if_neg h33, if_neg h16]
  have HC1 := Lib.hid HC
  clear HC
  have HB0 := Lib.hid (balloc w (.cells #[.nilFunc, .nilFunc, .nilFunc] 160))
  have G0 := Lib.hid (galloc (grefl w none) (.cells #[.nilFunc, .nilFunc, .nilFunc] 160))
  go_enter Tryd.func73, Tryd.ntmps73
  go_wp2_with fail
  generalize w.alloc (.cells #[.nilFunc, .nilFunc, .nilFunc] 160) = u0 at *
  refine Calls.mono (restM_any _) ?_
  rintro e u1 ⟨v0, rfl, hv, hg⟩
  have G1 := Lib.hid (gtrans G0.out hg)
  have HB1 := Lib.hid (gblock hg HB0.out (by simp))
  obtain ⟨fn0, ca0, rfl, _⟩ := hv.calls
  have K0 := Lib.hid hv
  clear hv hg G0 HB0 
  have c0 : u1.cell? ⟨w.heap.size, 0, none⟩ = some .nilFunc := bcellAt HB1.out 0
  have f0 : u1.frozen? ⟨w.heap.size, 0, none⟩ = false := bfree HB1.out 0
  have c1 : u1.cell? ⟨w.heap.size, 1, none⟩ = some .nilFunc := bcellAt HB1.out 1
  have f1 : u1.frozen? ⟨w.heap.size, 1, none⟩ = false := bfree HB1.out 1
  have c2 : u1.cell? ⟨w.heap.size, 2, none⟩ = some .nilFunc := bcellAt HB1.out 2
  have f2 : u1.frozen? ⟨w.heap.size, 2, none⟩ = false := bfree HB1.out 2
  have l0 := blt HB1.out
  go_wp2_with fail
  refine bodyPost_ret (results_cell_row rfl _ _ w.heap.size _ _ _ _ rfl (bset3_ HB1.out _ _ _) Tryd.underlying160 rfl (by kernel_rfl)) rfl ?_
  refine ⟨_, rfl, ?_, gstepb G1.out (gset3_ _ _ _ _ _) (Nat.le_refl _)⟩
  rw [HC1.out]
  exact CkA.one (K0.out.kept (gset3_ _ _ _ _ _) (fun b e => .inr ⟨_, _, _, by cases e; exact HB1.out, by simp⟩))
end Go.Proofs.YthgendgmlpaglaaDoor
namespace Go.Proofs.YthgendgmlpaglaaDoor
open Go.RowKit

theorem Tryd.infoPc : (Tryd.prog.info? 145).map (fun i => (i.zero, i.size, i.bytes)) = some (some (.agg #[.string ByteArray.empty, .bool false, .int .i64 0]), 3, 32) := by kernel_rfl
def pcvs (l : List Pc) : List Value := l.flatMap pcv
theorem pcvs_snoc (l : List Pc) (x : Pc) : pcvs (l ++ [x]) = pcvs l ++ [.string x.text, .bool x.name, .int .i64 (x.next : Int)] := by simp [pcvs, pcv]
theorem sl_tri (w : World) (e : TypeId) (u0 u1 u2 : Value) : Sl (w.alloc (.cells #[u0, u1, u2] e)) 3 (.slice (some ⟨w.heap.size, 0, none⟩) 1 1) 1 [u0, u1, u2] := by
  refine ⟨_, 1, rfl, Nat.le_refl _, rfl, (fun e => by cases e), fun _ => ⟨w.heap.size, 0, rfl, fun j u hu => ?_⟩⟩
  rw [Nat.zero_add, bcellAt (balloc w _) j]
  simpa using hu
theorem sl_tri1 (w : World) (o : Obj) (e : TypeId) (u0 u1 u2 : Value) : Sl ((w.alloc o).alloc (.cells #[u0, u1, u2] e)) 3 (.slice (some ⟨w.heap.size + 1, 0, none⟩) 1 1) 1 [u0, u1, u2] := by
  have h := sl_tri (w.alloc o) e u0 u1 u2
  rw [asz] at h
  exact h
/-- Parts as they lie in memory. -/
def Pcs (w : World) (v : Value) (l : List Pc) : Prop := FS w 0 145 3 v l.length (pcvs l)
structure SpL (w : World) (s : ByteArray) (p0 : Nat) (cs : List Ck) (va : Value) (i p : Nat) (out : List Pc) (v : Value) (wr : World) : Prop where
  gr : w.grownBy wr none
  own : wr.ownsRow w.heap.size 145 3 v out.length (pcvs out)
  ck : CkA wr va cs
  le : p ≤ s.size
  eq : runF cs s p0 [] = runF (cs.drop i) s p out
  len : out.length ≤ i
theorem CkA.kept0 {w w' : World} {v : Value} {cs : List Ck} (h : CkA w v cs) (g : w.grownBy w' none) : CkA w' v cs := by
  obtain ⟨v0, v1, v2, e, h1, h2⟩ := h
  refine ⟨v0, v1, v2, e, h1, fun i hi => ⟨fun c hc => ?_, (h2 i hi).2⟩⟩
  obtain ⟨u, hu, k⟩ := (h2 i hi).1 c hc
  exact ⟨u, hu, k.kept0 g⟩
theorem CkA.keptO {w w' : World} {v vo : Value} {cs : List Ck} {base n : Nat} {e : TypeId} {xs : List Value} (h : CkA w v cs) (o : w.ownsRow base e 3 vo n xs) (g : w.grownBy w' vo.ownBlock) : CkA w' v cs := by
  obtain ⟨v0, v1, v2, ev, h1, h2⟩ := h
  refine ⟨v0, v1, v2, ev, h1, fun i hi => ⟨fun c hc => ?_, (h2 i hi).2⟩⟩
  obtain ⟨u, hu, k⟩ := (h2 i hi).1 c hc
  refine ⟨u, hu, k.kept g (fun b eb => .inr ?_)⟩
  rcases o.2 with ⟨rfl, _⟩ | ⟨b', cap, cur, rfl, _, hg, _, _, hcs, _⟩
  · cases eb
  · cases eb
    exact ⟨cur, _, _, hg, by omega⟩
theorem ck_next {c : Ck} {s : ByteArray} {p : Nat} {x : Pc} (hp : p ≤ s.size) (h : ckF c s p = .ok x) : x.next ≤ s.size := by
  cases c with
  | num n =>
    unfold ckF at h
    simp only at h
    split at h
    · cases h
    · cases h; show p + n ≤ s.size; omega
  | nam =>
    unfold ckF at h
    simp only at h
    cases hr : rdF s p p none [] with
    | ok m q => rw [hr] at h; cases h; exact (rd_le hr).2.1
    | no e => rw [hr] at h; cases h
  | txt =>
    unfold ckF at h
    simp only at h
    split at h
    · cases h; exact Nat.le_refl _
    · cases h
  | rst => cases h; exact Nat.le_refl _
theorem ck_pos {c : Ck} {s : ByteArray} {p e : Nat} (h : ckF c s p = .no e) : 1 ≤ e ∧ e ≤ 8 := by
  cases c with
  | num n =>
    unfold ckF at h
    simp only at h
    split at h
    · cases h; omega
    · cases h
  | nam =>
    unfold ckF at h
    simp only at h
    cases hr : rdF s p p none [] with
    | ok m q => rw [hr] at h; cases h
    | no e' => rw [hr] at h; cases h; exact rd_pos hr
  | txt =>
    unfold ckF at h
    simp only at h
    split at h
    · cases h
    · cases h; omega
  | rst => cases h
/-- What a split gives. -/
def SpPost (s : ByteArray) (p kind : Nat) (w : World) (e : Ending) (w' : World) : Prop :=
  w.grownBy w' none ∧ match splF s p kind with
    | .ok l => l.length ≤ 3 ∧ ∃ v, e = .returned (.tuple #[v, .int .i64 0]) ∧ w'.ownsRow w.heap.size 145 3 v l.length (pcvs l)
    | .no x => 1 ≤ x ∧ x ≤ 8 ∧ e = .returned (.tuple #[.slice none 0 0, .int .i64 (x : Int)])
theorem eqf (fn : Fn) (x y : Array Value) (w : World) : (binOp .eql 159 (.func fn x y) .nilFunc).run Tryd.prog w = .ok (.bool false) w := by kernel_rfl
theorem eqn (w : World) : (binOp .eql 159 .nilFunc .nilFunc).run Tryd.prog w = .ok (.bool true) w := by kernel_rfl

set_option maxRecDepth 100000 in
set_option maxHeartbeats 1000000 in
theorem split_any (s : ByteArray) (p0 kind : Nat) (w : World) (he : Et w) (hp : p0 ≤ s.size) (hs : s.size ≤ 1000000) : Calls Tryd.prog 64 #[.string s, .int .i64 p0, .int .u16 kind] w (SpPost s p0 kind w) := by
  obtain ⟨i3, i3h, i3z, i3s, i3b⟩ := info_parts Tryd.infoPc
  have HE := Lib.hid he
  clear he
  by_cases h41 : kind = 41
  · have HK := Lib.hid (show splF s p0 kind = .no 3 from if_pos h41)
    subst h41
    go_enter Tryd.func64, Tryd.ntmps64
    go_wp2_with fail
    go_ret2
    unfold SpPost
    rw [HK.out]
    exact ⟨grefl _ _, by omega, by omega, rfl⟩
  · have k0 : ((kind : Int) == 41) = false := by simp; omega
    have HK := Lib.hid (show splF s p0 kind = _ from if_neg h41)
    clear h41
    have he1 := eqf
    have he2 := eqn
    go_enter Tryd.func64, Tryd.ntmps64
    go_wp2_with fail
    refine Calls.mono (checks_any kind w) ?_
    rintro e w1 ⟨va, rfl, hck, hg⟩
    have hcl := cks_len kind
    generalize cks kind = cs at *
    have S0 := Lib.hid (show SpL w s p0 cs va 0 p0 [] (.slice none 0 0) w1 from ⟨hg, World.ownsRow_nil _ _ _ _, hck, hp, rfl, Nat.le_refl _⟩)
    obtain ⟨v0, v1, v2, rfl, _, hcs⟩ := hck
    have HCS := Lib.hid (fun i hi => (hcs i hi).2)
    clear hcs hg hp
    go_wp2_with fail
    go_loopw [1, 8, 17] (fun vp vo vi wr => ∃ (i p : Nat) (out : List Pc), i ≤ 3 ∧ i ≤ cs.length ∧ vi = .int .i64 i ∧ vp = .int .i64 p ∧ SpL w s p0 cs (.agg #[v0, v1, v2]) i p out vo wr) (fun _ _ vi _ => 3 - (intOf vi).toNat)
    case atStart => exact ⟨0, p0, [], by omega, by omega, rfl, rfl, S0.out⟩
    case round =>
      clear S0
      obtain ⟨i, p, out, hi3, hic, rfl, rfl, hr⟩ := hrel
      have R0 := Lib.hid hr
      have hple := hr.le
      have hlen := hr.len
      obtain ⟨A, cap, rfl, hcap, hcm⟩ := own_shape hr.own
      unfold maxLen at hcm
      clear hr
      by_cases hlt : i < 3
      · have q0 : decide ((i : Int) < 3) = true := by simp; omega
        obtain ⟨u0, u1, u2, eu, _, hcs⟩ := R0.out.ck
        simp only [Value.agg.injEq, Array.mk.injEq, List.cons.injEq, and_true] at eu
        obtain ⟨rfl, rfl, rfl⟩ := eu
        have hix : ∀ u, [v0, v1, v2][i]? = some u → ∀ w, (Instr.index 160 (.agg #[v0, v1, v2]) (.int .i64 (i : Int))).run Tryd.prog w = .ok u w := by
          intro u hu w
          rcases (show i = 0 ∨ i = 1 ∨ i = 2 by omega) with rfl | rfl | rfl
          all_goals
            simp at hu
            subst hu
            kernel_rfl
        cases hc : cs[i]? with
        | none =>
          have hv := (hcs i hlt).2 hc
          have hix' := hix _ hv
          have HF := Lib.hid (show runF cs s p0 [] = .ok out p by
            rw [R0.out.eq, List.drop_eq_nil_of_le (List.getElem?_eq_none_iff.1 hc)]; rfl)
          clear hix hv hcs hc
          by_cases hend : p < s.size
          · have q1 : decide ((p : Int) < (s.size : Int)) = true := by simp; omega
            have HZ := Lib.hid (show splF s p0 kind = .no 3 by rw [HK.out, HF.out]; exact if_pos hend)
            go_wp2_with fail
            go_ret2
            unfold SpPost
            rw [HZ.out]
            exact ⟨R0.out.gr, by omega, by omega, rfl⟩
          · have q1 : decide ((p : Int) < (s.size : Int)) = false := by simp; omega
            have HZ := Lib.hid (show splF s p0 kind = .ok out by rw [HK.out, HF.out]; exact if_neg hend)
            go_wp2_with fail
            go_ret2
            unfold SpPost
            rw [HZ.out]
            exact ⟨R0.out.gr, by omega, _, rfl, R0.out.own⟩
        | some c =>
          obtain ⟨u, hv, hk⟩ := (hcs i hlt).1 c hc
          obtain ⟨fn, caps, rfl, hcf, hcall⟩ := hk.calls
          have hix' := hix _ hv
          have hil : i < cs.length := (List.getElem?_eq_some_iff.1 hc).1
          have HF := Lib.hid (show runF cs s p0 [] = match ckF c s p with
            | .ok x => runF (cs.drop (i + 1)) s x.next (out ++ [x])
            | .no e => .no e by
              rw [R0.out.eq, List.drop_eq_getElem_cons hil]
              have : cs[i] = c := by rw [List.getElem?_eq_getElem hil] at hc; exact Option.some.inj hc
              rw [this]; rfl)
          have HC := Lib.hid (hcall wr s p (grefl _ _) (HE.out.kept R0.out.gr (by simp)) hple hs)
          clear hix hv hk hcall hcs hc
          cases hr : ckF c s p with
          | no er =>
            rw [hr] at HF HC
            have hpos := ck_pos hr
            clear hr
            unfold crV at HC
            have q2 : ((er : Int) != 0) = true := by simp; omega
            have HZ := Lib.hid (show splF s p0 kind = .no er by rw [HK.out, HF.out])
            go_wp2_with fail
            refine Calls.mono HC.out ?_
            rintro e w2 ⟨rfl, hg⟩
            have G2 := Lib.hid (gtrans R0.out.gr hg)
            clear hg HC
            go_wp2_with fail
            go_ret2
            unfold SpPost
            rw [HZ.out]
            exact ⟨galloc G2.out _, hpos.1, hpos.2, rfl⟩
          | ok x =>
            rw [hr] at HF HC
            have hxn := ck_next hple hr
            clear hr
            unfold crV at HC
            go_wp2_with fail
            refine Calls.mono HC.out ?_
            rintro e w2 ⟨rfl, hg⟩
            have G2 := Lib.hid (gtrans R0.out.gr hg)
            have O2 := Lib.hid (own_kept0 R0.out.own hg)
            have K2 := Lib.hid (R0.out.ck.kept0 hg)
            have E2 := Lib.hid R0.out.eq
            clear hg HC
            go_wp2_with (at_builtin; refine wpList_app_k rfl (.tmp 32) (.tmp 34) 135 rfl w.heap.size 145 i3 _ 3 32 Tryd.underlying135 i3h i3z i3s i3b rfl (by decide) _ out.length 1 (pcvs out) [.string x.text, .bool x.name, .int .i64 (x.next : Int)] rfl (own_kept0 O2.out (galloc (galloc (grefl _ none) _) _)) _ rfl (sl_tri1 w2 _ _ _ _ _) (by intro u hu; simp at hu; rcases hu with rfl | rfl | rfl <;> rfl) ?x2 ?x3 ?x4 ?_)
            case x2 => unfold maxLen; omega
            case x3 => omega
            case x4 => have := G2.out.size; simp; omega
            intro v6 w6 ho6 hg6
            have hbl := fun r e => (World.ownsRow.lt O2.out r e).1
            have ck6 := (K2.out.kept0 (galloc (galloc (grefl w2 none) (.cells #[.string x.text, .bool x.name, .int .i64 (x.next : Int)] 145)) (.cells #[.string x.text, .bool x.name, .int .i64 (x.next : Int)] 145))).keptO (own_kept0 O2.out (galloc (galloc (grefl w2 none) _) _)) hg6
            have b6 := gblock hg6 (balloc2_0 w2 _ _) (fun e => by have := (World.ownsRow.lt O2.out _ e.symm).2; omega)
            have c6 := bcellAt b6 2
            simp at c6
            have HV := Lib.hid ho6
            have R6 := Lib.hid (show SpL w s p0 cs (.agg #[v0, v1, v2]) (i + 1) x.next (out ++ [x]) v6 w6 from
              ⟨gstep G2.out (gfr1 (gfr1 hg6)) hbl, by rw [pcvs_snoc, List.length_append]; exact ho6, ck6, hxn, by rw [HF.out], by simp; omega⟩)
            obtain ⟨A6, cap6, rfl, _, _⟩ := own_shape HV.out
            clear ho6 hg6 hbl ck6 b6 HV O2 K2 E2 R0 HF
            go_wp2_with fail
            go_roundw
            case rel => exact ⟨i + 1, x.next, out ++ [x], by omega, by omega, by go_num, rfl, by simpa using R6.out⟩
            case measure => simp [intOf]; omega
      · have q0 : decide ((i : Int) < 3) = false := by simp; omega
        have HF := Lib.hid (show runF cs s p0 [] = .ok out p by
          rw [R0.out.eq, List.drop_eq_nil_of_le (by omega)]; rfl)
        by_cases hend : p < s.size
        · have q1 : decide ((p : Int) < (s.size : Int)) = true := by simp; omega
          have HZ := Lib.hid (show splF s p0 kind = .no 3 by rw [HK.out, HF.out]; exact if_pos hend)
          go_wp2_with fail
          go_ret2
          unfold SpPost
          rw [HZ.out]
          exact ⟨R0.out.gr, by omega, by omega, rfl⟩
        · have q1 : decide ((p : Int) < (s.size : Int)) = false := by simp; omega
          have HZ := Lib.hid (show splF s p0 kind = .ok out by rw [HK.out, HF.out]; exact if_neg hend)
          go_wp2_with fail
          go_ret2
          unfold SpPost
          rw [HZ.out]
          exact ⟨R0.out.gr, by omega, _, rfl, R0.out.own⟩
end Go.Proofs.YthgendgmlpaglaaDoor
namespace Go.Proofs.YthgendgmlpaglaaDoor
open Go.RowKit

theorem pcv_len (x : Pc) : (pcv x).length = 3 := rfl
theorem FS.cellAt {w : World} {base k n cap i : Nat} {e : TypeId} {A : Option Addr} {α : Type} {f : α → List Value} {l : List α} (hf : ∀ a, (f a).length = k) (h : FS w base e k (.slice A n cap) l.length (l.flatMap f)) (hi : i < l.length) :
    ∃ g, A = some ⟨g, 0, none⟩ ∧ n = l.length ∧ g < w.heap.size ∧ base ≤ g ∧ ∀ j, j < k → w.cell? ⟨g, i * k + j, none⟩ = (f l[i])[j]? := by
  obtain ⟨h1, h2⟩ := h
  rcases h2 with ⟨_, h2⟩ | ⟨g, cap', cur, e, hb, hg, hc1, hc2, ht⟩
  · omega
  · simp only [Value.slice.injEq] at e
    obtain ⟨rfl, rfl, _⟩ := e
    refine ⟨g, rfl, rfl, blt hg, hb, fun j hj => ?_⟩
    have get := flat_get f k hf l i j hj l[i] (List.getElem?_eq_getElem hi)
    rw [bcellAt hg, ← Array.getElem?_toList, ← get, ← ht, List.getElem?_take_of_lt ?_]
    have : (i + 1) * k ≤ l.length * k := Nat.mul_le_mul_right k hi
    rw [Nat.succ_mul] at this
    omega
theorem Pcs.at {w : World} {n cap i : Nat} {A : Option Addr} {l : List Pc} (h : Pcs w (.slice A n cap) l) (hi : i < l.length) : ∃ g, A = some ⟨g, 0, none⟩ ∧ n = l.length ∧ g < w.heap.size ∧
    w.cell? ⟨g, i * 3, none⟩ = some (.string l[i].text) ∧ w.cell? ⟨g, i * 3 + 1, none⟩ = some (.bool l[i].name) ∧ w.cell? ⟨g, i * 3 + 2, none⟩ = some (.int .i64 (l[i].next : Int)) := by
  obtain ⟨g, h1, h2, h3, _, h4⟩ := FS.cellAt (f := pcv) pcv_len h hi
  exact ⟨g, h1, h2, h3, h4 0 (by omega), h4 1 (by omega), h4 2 (by omega)⟩
theorem Pcs.of {w : World} {base : Nat} {v : Value} {l : List Pc} (h : w.ownsRow base 145 3 v l.length (pcvs l)) : Pcs w v l := (FS.of h).mono (Nat.zero_le _)
theorem Pcs.kept0 {w w' : World} {v : Value} {l : List Pc} (h : Pcs w v l) (g : w.grownBy w' none) : Pcs w' v l := FS.kept0 h g

/-- What is true of each part is true of all that are read. -/
theorem run_all {P : Pc → Prop} {s : ByteArray} (hP : ∀ c p x, p ≤ s.size → ckF c s p = .ok x → P x) : ∀ (cs : List Ck) (p : Nat) (out l : List Pc) (q : Nat), p ≤ s.size → (∀ x ∈ out, P x) → runF cs s p out = .ok l q → ∀ x ∈ l, P x := by
  intro cs
  induction cs with
  | nil => intro p out l q hp ho h; cases h; exact ho
  | cons c cs ih =>
    intro p out l q hp ho h
    unfold runF at h
    cases hc : ckF c s p with
    | no e => rw [hc] at h; cases h
    | ok x =>
      rw [hc] at h
      refine ih x.next (out ++ [x]) l q (ck_next hp hc) ?_ h
      intro y hy
      rcases List.mem_append.1 hy with hy | hy
      · exact ho y hy
      · rw [List.mem_singleton.1 hy]; exact hP c p x hp hc
theorem spl_all {P : Pc → Prop} {s : ByteArray} (hP : ∀ c p x, p ≤ s.size → ckF c s p = .ok x → P x) {p kind : Nat} {l : List Pc} (hp : p ≤ s.size) (h : splF s p kind = .ok l) : ∀ x ∈ l, P x := by
  unfold splF at h
  split at h
  · cases h
  · cases hr : runF (cks kind) s p [] with
    | no e => rw [hr] at h; cases h
    | ok m q =>
      rw [hr] at h
      simp only at h
      split at h
      · cases h
      · cases h; exact run_all hP (cks kind) p [] _ q hp (by simp) hr
theorem ck_good {s : ByteArray} {c : Ck} {p : Nat} {x : Pc} (hp : p ≤ s.size) (h : ckF c s p = .ok x) : x.text.size ≤ s.size + 255 ∧ (x.name = true → may x.text = true) := by
  cases c with
  | num n =>
    unfold ckF at h
    simp only at h
    split at h
    · cases h
    · cases h; exact ⟨by rw [ext_size]; omega, fun e => by cases e⟩
  | nam =>
    unfold ckF at h
    simp only at h
    cases hr : rdF s p p none [] with
    | ok m q =>
      rw [hr] at h; cases h
      have := (rd_le hr).2.2
      exact ⟨by have := (may_size this).1; simp only; omega, fun _ => this⟩
    | no e => rw [hr] at h; cases h
  | txt =>
    unfold ckF at h
    simp only at h
    split at h
    · cases h; exact ⟨by rw [ext_size]; omega, fun e => by cases e⟩
    · cases h
  | rst => cases h; exact ⟨by rw [ext_size]; omega, fun e => by cases e⟩
theorem spl_good {s : ByteArray} {p kind : Nat} {l : List Pc} (hp : p ≤ s.size) (h : splF s p kind = .ok l) : ∀ x ∈ l, x.text.size ≤ s.size + 255 ∧ (x.name = true → may x.text = true) :=
  spl_all (fun _ _ _ hp h => ck_good hp h) hp h
theorem tx_take {l : List Pc} {i : Nat} (h : i < l.length) : tx (l.take (i + 1)) = tx (l.take i) ++ l[i].text.data.toList := by
  unfold tx
  rw [List.take_succ_eq_append_getElem h, List.flatMap_append]
  simp
theorem tx_len {l : List Pc} {b : Nat} (h : ∀ x ∈ l, x.text.size ≤ b) : ∀ i, i ≤ l.length → (tx (l.take i)).length ≤ b * i := by
  intro i
  induction i with
  | zero => intro _; simp [tx]
  | succ i ih =>
    intro hi
    rw [tx_take (by omega), List.length_append, nlen]
    have := ih (by omega)
    have := h l[i] (List.getElem_mem (by omega))
    rw [Nat.mul_succ]
    omega

set_option maxRecDepth 100000 in
set_option maxHeartbeats 1000000 in
theorem text_any (v : Value) (l : List Pc) (w : World) (h : Pcs w v l) (hl : l.length ≤ 3) (hx : ∀ x ∈ l, x.text.size ≤ 2000000) : Calls Tryd.prog 65 #[v] w fun e w' => e = .returned (.string ⟨(tx l).toArray⟩) ∧ w.grownBy w' none := by
  obtain ⟨i0, hi, hz0, hz1, hz2⟩ := info_parts Tryd.infoByte
  have HP := Lib.hid h
  obtain ⟨A, cap, rfl⟩ := FS.len h
  clear h
  by_cases h1 : l.length = 1
  · have hpos : 0 < l.length := by omega
    obtain ⟨g, rfl, _, hgl, c0, _, _⟩ := HP.out.at (i := 0) hpos
    have k1 : ((l.length : Int) == 1) = true := by simp; omega
    have HT := Lib.hid (show (⟨(tx l).toArray⟩ : ByteArray) = l[0].text by
      match l, h1 with
      | [x], _ => simp [tx])
    clear h1
    generalize l[0].text = X at *
    go_enter Tryd.func65, Tryd.ntmps65
    go_wp2_with fail
    go_ret
    exact ⟨by rw [HT.out]; rfl, grefl _ _⟩
  · have k1 : ((l.length : Int) == 1) = false := by simp; omega
    clear h1
    go_enter Tryd.func65, Tryd.ntmps65
    go_wp2_with fail
    go_loopw [3, 15] (fun vo vi wr => ∃ i : Nat, vi = .int .i64 i ∧ i ≤ l.length ∧ w.grownBy wr none ∧ Own wr w.heap.size vo (tx (l.take i))) (fun _ vi _ => l.length - (intOf vi).toNat)
    case atStart => exact ⟨0, rfl, by omega, grefl _ _, Own.nil _ _⟩
    case round =>
      obtain ⟨i, rfl, hil, hgr, hown⟩ := hrel
      have HG := Lib.hid hgr
      have HO := Lib.hid hown
      obtain ⟨Ao, co, rfl, hco, hcm⟩ := hown.shape
      unfold maxLen at hcm
      have hlen := tx_len hx i hil
      clear hgr hown
      by_cases hlt : i < l.length
      · have k0 : decide ((i : Int) < (l.length : Int)) = true := by simp; omega
        obtain ⟨g, rfl, _, hgl, c0, c1, c2⟩ := (HP.out.kept0 HG.out).at hlt
        have HS := Lib.hid (tx_take hlt)
        have hxs := hx l[i] (List.getElem_mem hlt)
        generalize l[i] = x at *
        generalize tx (l.take i) = o at *
        go_wp2_with (at_builtin; refine wpList_app_str rfl (.tmp 19) (.tmp 21) 26 9 rfl w.heap.size i0 Tryd.underlying26 Tryd.underlying9 hi hz0 hz1 hz2 _ _ rfl (HO.out.kept0 (galloc (grefl _ none) _)) x.text rfl ?e1 ?e2 ?_)
        case e1 => omega
        case e2 => have := HG.out.size; simp; omega
        intro v6 w6 ho6 hg6
        have G6 := Lib.hid (gstep HG.out (gfr1 hg6) (fun r e => (HO.out.block r e).1))
        have O6 := Lib.hid ho6
        obtain ⟨A6, c6, rfl, _, _⟩ := ho6.shape
        clear ho6 hg6
        go_wp2_with fail
        go_roundw
        case rel => exact ⟨i + 1, by go_num, by omega, G6.out, by rw [HS.out]; exact O6.out⟩
        case measure => simp [intOf]; omega
      · have k0 : decide ((i : Int) < (l.length : Int)) = false := by simp; omega
        have hcv := cvs HO.out.sl
        have HE := Lib.hid (show tx (l.take i) = tx l by rw [List.take_of_length_le (by omega)])
        generalize tx (l.take i) = o at *
        go_wp2_with fail
        go_ret
        exact ⟨by rw [← HE.out]; rfl, HG.out⟩

/-- What 'whole' gives. -/
def WhPost (kind : Nat) (d : ByteArray) (w : World) (e : Ending) (w' : World) : Prop :=
  w.grownBy w' none ∧ match whF kind d with
    | some l => ∃ v, e = .returned (.tuple #[v, .bool true]) ∧ Pcs w' v l
    | none => e = .returned (.tuple #[.slice none 0 0, .bool false])
theorem wh_good {kind : Nat} {d : ByteArray} {l : List Pc} (h : whF kind d = some l) : splF d 0 kind = .ok l ∧ (⟨(tx l).toArray⟩ : ByteArray) = d ∧ ∀ x ∈ l, x.text.size ≤ d.size + 255 ∧ (x.name = true → may x.text = true) := by
  unfold whF at h
  cases hs : splF d 0 kind with
  | no e => rw [hs] at h; cases h
  | ok m =>
    rw [hs] at h
    simp only at h
    split at h
    · rename_i ht
      cases h
      exact ⟨rfl, ht, spl_good (Nat.zero_le _) hs⟩
    · cases h
theorem run_len {s : ByteArray} : ∀ (cs : List Ck) (p : Nat) (out l : List Pc) (q : Nat), runF cs s p out = .ok l q → l.length = out.length + cs.length := by
  intro cs
  induction cs with
  | nil => intro p out l q h; cases h; rfl
  | cons c cs ih =>
    intro p out l q h
    unfold runF at h
    cases hc : ckF c s p with
    | no e => rw [hc] at h; cases h
    | ok x => rw [hc] at h; have := ih _ _ _ _ h; simp at this ⊢; omega
theorem spl_len {s : ByteArray} {p kind : Nat} {l : List Pc} (h : splF s p kind = .ok l) : l.length ≤ 3 := by
  unfold splF at h
  split at h
  · cases h
  · cases hr : runF (cks kind) s p [] with
    | no e => rw [hr] at h; cases h
    | ok m q =>
      rw [hr] at h
      simp only at h
      split at h
      · cases h
      · cases h
        have := run_len _ _ _ _ _ hr
        have := cks_len kind
        simp at *
        omega

set_option maxRecDepth 100000 in
set_option maxHeartbeats 1000000 in
theorem whole_any (kind : Nat) (d : ByteArray) (w : World) (he : Et w) (hs : d.size ≤ 1000000) : Calls Tryd.prog 66 #[.int .u16 kind, .string d] w (WhPost kind d w) := by
  have HS := Lib.hid (split_any d 0 kind w he (Nat.zero_le _) hs)
  unfold SpPost at HS
  cases hr : splF d 0 kind with
  | no er =>
    rw [hr] at HS
    have HW := Lib.hid (show whF kind d = none by unfold whF; rw [hr])
    clear hr
    go_enter Tryd.func66, Tryd.ntmps66
    go_wp2_with fail
    refine Calls.mono HS.out ?_
    rintro e w1 ⟨hg, h1, h2, rfl⟩
    have G1 := Lib.hid hg
    have k1 : ((er : Int) != 0) = true := by simp; omega
    clear hg HS
    go_wp2_with fail
    go_ret2
    unfold WhPost
    rw [HW.out]
    exact ⟨G1.out, rfl⟩
  | ok l =>
    rw [hr] at HS
    have hgd := spl_good (Nat.zero_le _) hr
    have HT := Lib.hid (fun v w1 (h : Pcs w1 v l) => text_any v l w1 h (spl_len hr) (fun x hx => by have := (hgd x hx).1; omega))
    clear hgd
    have hdef : whF kind d = if (⟨(tx l).toArray⟩ : ByteArray) = d then some l else none := by unfold whF; rw [hr]
    have HW := Lib.hid hdef
    clear hr hdef
    have hTs : (⟨(tx l).toArray⟩ : ByteArray).size = (tx l).length := size_mk _
    generalize hTx : (⟨(tx l).toArray⟩ : ByteArray) = T at *
    clear hTx hTs
    by_cases hq : T = d
    · have k2 : (T.toList == d.toList) = true := by rw [hq]; simp
      have HQ := Lib.hid (show whF kind d = some l by rw [HW.out, if_pos hq])
      clear hq HW
      go_enter Tryd.func66, Tryd.ntmps66
      go_wp2_with fail
      refine Calls.mono HS.out ?_
      rintro e w1 ⟨hg, _, v, rfl, ho⟩
      have G1 := Lib.hid hg
      have P1 := Lib.hid (Pcs.of ho)
      obtain ⟨A, cap, rfl, _, _⟩ := own_shape ho
      clear hg HS ho
      go_wp2_with fail
      refine Calls.mono (HT.out _ w1 P1.out) ?_
      rintro e w2 ⟨rfl, hg⟩
      have G2 := Lib.hid (gtrans G1.out hg)
      have P2 := Lib.hid (P1.out.kept0 hg)
      clear hg
      go_wp2_with fail
      go_ret2
      unfold WhPost
      rw [HQ.out]
      exact ⟨G2.out, _, rfl, P2.out⟩
    · have k2 : (T.toList == d.toList) = false := str_ne hq
      have HQ := Lib.hid (show whF kind d = none by rw [HW.out, if_neg hq])
      clear hq HW
      go_enter Tryd.func66, Tryd.ntmps66
      go_wp2_with fail
      refine Calls.mono HS.out ?_
      rintro e w1 ⟨hg, _, v, rfl, ho⟩
      have G1 := Lib.hid hg
      have P1 := Lib.hid (Pcs.of ho)
      obtain ⟨A, cap, rfl, _, _⟩ := own_shape ho
      clear hg HS ho
      go_wp2_with fail
      refine Calls.mono (HT.out _ w1 P1.out) ?_
      rintro e w2 ⟨rfl, hg⟩
      have G2 := Lib.hid (gtrans G1.out hg)
      clear hg
      go_wp2_with fail
      go_ret2
      unfold WhPost
      rw [HQ.out]
      exact ⟨G2.out, rfl⟩
def mayD (kind : Nat) (d : ByteArray) : Bool := (whF kind d).isSome
theorem mayd_any (kind : Nat) (d : ByteArray) (w : World) (he : Et w) (hs : d.size ≤ 1000000) : Calls Tryd.prog 54 #[.int .u16 kind, .string d] w fun e w' => e = .returned (.bool (mayD kind d)) ∧ w.grownBy w' none := by
  have HS := Lib.hid (whole_any kind d w he hs)
  unfold WhPost at HS
  unfold mayD
  cases hr : whF kind d with
  | none =>
    rw [hr] at HS
    clear hr
    go_enter Tryd.func54, Tryd.ntmps54
    go_wp2_with fail
    refine Calls.mono HS.out ?_
    rintro e w1 ⟨hg, rfl⟩
    have G1 := Lib.hid hg
    clear hg HS
    go_wp2_with fail
    go_ret
    exact ⟨rfl, G1.out⟩
  | some l =>
    rw [hr] at HS
    clear hr
    go_enter Tryd.func54, Tryd.ntmps54
    go_wp2_with fail
    refine Calls.mono HS.out ?_
    rintro e w1 ⟨hg, v, rfl, _⟩
    have G1 := Lib.hid hg
    clear hg HS
    go_wp2_with fail
    go_ret
    exact ⟨rfl, G1.out⟩
end Go.Proofs.YthgendgmlpaglaaDoor
namespace Go.Proofs.YthgendgmlpaglaaDoor
open Go.RowKit

def whL (kind : Nat) (d : ByteArray) : List Pc := (whF kind d).getD []
theorem whL_good (kind : Nat) (d : ByteArray) : (whL kind d).length ≤ 3 ∧ ∀ x ∈ whL kind d, x.text.size ≤ d.size + 255 ∧ (x.name = true → may x.text = true) := by
  unfold whL
  cases h : whF kind d with
  | none => simp
  | some l =>
    obtain ⟨h1, _, h3⟩ := wh_good h
    exact ⟨spl_len h1, h3⟩
theorem whole_l (kind : Nat) (d : ByteArray) (w : World) (he : Et w) (hs : d.size ≤ 1000000) : Calls Tryd.prog 66 #[.int .u16 kind, .string d] w fun e w' => ∃ v, e = .returned (.tuple #[v, .bool (mayD kind d)]) ∧ Pcs w' v (whL kind d) ∧ w.grownBy w' none := by
  refine (whole_any kind d w he hs).mono ?_
  intro e w' h
  unfold WhPost at h
  unfold whL mayD
  cases hw : whF kind d with
  | none =>
    rw [hw] at h
    obtain ⟨h1, rfl⟩ := h
    exact ⟨_, rfl, ⟨rfl, .inl ⟨rfl, rfl⟩⟩, h1⟩
  | some l =>
    rw [hw] at h
    obtain ⟨h1, v, rfl, h2⟩ := h
    exact ⟨v, rfl, h2, h1⟩
def nms (l : List Pc) : List ByteArray := (l.filter (·.name)).map (·.text)
theorem nms_take {l : List Pc} {i : Nat} (h : i < l.length) : nms (l.take (i + 1)) = nms (l.take i) ++ (if l[i].name = true then [l[i].text] else []) := by
  unfold nms
  rw [List.take_succ_eq_append_getElem h, List.filter_append, List.map_append]
  congr 1
  cases hn : l[i].name <;> simp [hn]
def fdt (l : List Pc) : List UInt8 := l.flatMap fun x => if x.name = true then (foldB x.text).data.toList else x.text.data.toList
theorem fdt_take {l : List Pc} {i : Nat} (h : i < l.length) : fdt (l.take (i + 1)) = fdt (l.take i) ++ (if l[i].name = true then (foldB l[i].text).data.toList else l[i].text.data.toList) := by
  unfold fdt
  rw [List.take_succ_eq_append_getElem h, List.flatMap_append]
  simp
theorem foldB_size (s : ByteArray) : (foldB s).size ≤ s.size := by
  unfold foldB
  split
  · rw [lowB_size]; exact Nat.le_refl _
  · exact Nat.zero_le _
theorem fdt_len {l : List Pc} {b : Nat} (h : ∀ x ∈ l, x.text.size ≤ b) : ∀ i, i ≤ l.length → (fdt (l.take i)).length ≤ b * i := by
  intro i
  induction i with
  | zero => intro _; simp [fdt]
  | succ i ih =>
    intro hi
    rw [fdt_take (by omega), List.length_append]
    have := ih (by omega)
    have h1 := h l[i] (List.getElem_mem (by omega))
    have h2 := foldB_size l[i].text
    rw [Nat.mul_succ]
    split
    · rw [nlen]; omega
    · rw [nlen]; omega

def cmpF (kind : Nat) : Bool := decide (kind = 2 ∨ kind = 5 ∨ kind = 6 ∨ kind = 12 ∨ kind = 15)
theorem compr_any (k : Nat) (w : World) : Calls Tryd.prog 68 #[.int .u16 k] w fun e w' => e = .returned (.bool (cmpF k)) ∧ w = w' := by
  by_cases h : k = 2 ∨ k = 5 ∨ k = 6 ∨ k = 12 ∨ k = 15
  · have HC := Lib.hid (show cmpF k = true from decide_eq_true h)
    rw [HC.out]
    rcases h with rfl | rfl | rfl | rfl | rfl
    all_goals
      go_enter Tryd.func68, Tryd.ntmps68
      go_wp2_with fail
      go_ret
      exact ⟨rfl, rfl⟩
  · have HC := Lib.hid (show cmpF k = false from decide_eq_false h)
    rw [HC.out]
    have q2 : ((k : Int) == 2) = false := by simp; omega
    have q5 : ((k : Int) == 5) = false := by simp; omega
    have q6 : ((k : Int) == 6) = false := by simp; omega
    have q12 : ((k : Int) == 12) = false := by simp; omega
    have q15 : ((k : Int) == 15) = false := by simp; omega
    clear h
    go_enter Tryd.func68, Tryd.ntmps68
    go_wp2_with fail
    go_ret
    exact ⟨rfl, rfl⟩
end Go.Proofs.YthgendgmlpaglaaDoor
namespace Go.Proofs.YthgendgmlpaglaaDoor
open Go.RowKit

/-- What Read gives: data, and an error's number. -/
def rdD (msg : ByteArray) (at_ n : Int) (kind : Nat) : ByteArray × Nat :=
  if at_ < 0 ∨ n < 0 ∨ (msg.size : Int) - at_ < n then (⟨#[]⟩, 1)
  else match splF (msg.extract 0 (at_ + n).toNat) at_.toNat kind with
    | .ok l => (⟨(tx l).toArray⟩, 0)
    | .no e => (⟨#[]⟩, e)
set_option maxRecDepth 100000 in
set_option maxHeartbeats 1000000 in
theorem rdata_any (msg : ByteArray) (at_ n : Int) (kind : Nat) (w : World) (he : Et w) (hs : msg.size ≤ 1000000) (ha : Hid (at_ ≤ 9223372036854775807)) : Calls Tryd.prog 52 #[.string msg, .int .i64 at_, .int .i64 n, .int .u16 kind] w fun e w' => e = .returned (.tuple #[.string (rdD msg at_ n kind).1, .int .i64 ((rdD msg at_ n kind).2 : Int)]) ∧ w.grownBy w' none := by
  by_cases h : at_ < 0 ∨ n < 0 ∨ (msg.size : Int) - at_ < n
  · have HR := Lib.hid (show rdD msg at_ n kind = (⟨#[]⟩, 1) from if_pos h)
    rw [HR.out]
    by_cases h1 : at_ < 0
    · have q1 : decide (at_ < 0) = true := by simpa using h1
      clear h
      go_enter Tryd.func52, Tryd.ntmps52
      go_wp2_with fail
      go_ret2
      exact ⟨rfl, grefl _ _⟩
    · have q1 : decide (at_ < 0) = false := by simpa using h1
      by_cases h2 : n < 0
      · have q2 : decide (n < 0) = true := by simpa using h2
        clear h
        go_enter Tryd.func52, Tryd.ntmps52
        go_wp2_with fail
        go_ret2
        exact ⟨rfl, grefl _ _⟩
      · have q2 : decide (n < 0) = false := by simpa using h2
        have h3 : (msg.size : Int) - at_ < n := by omega
        have q3 : decide ((msg.size : Int) - at_ < n) = true := by simpa using h3
        clear h
        have hw : wrap64 ((msg.size : Int) - at_) = (msg.size : Int) - at_ := by unfold wrap64; have := ha.out; omega
        go_enter Tryd.func52, Tryd.ntmps52
        go_wp2_with fail
        go_ret2
        exact ⟨rfl, grefl _ _⟩
  · obtain ⟨h1, h2, h3⟩ : 0 ≤ at_ ∧ 0 ≤ n ∧ n ≤ (msg.size : Int) - at_ := by omega
    have HR := Lib.hid (show rdD msg at_ n kind = _ from if_neg h)
    clear h
    obtain ⟨a, rfl⟩ := Int.eq_ofNat_of_zero_le h1
    obtain ⟨k, rfl⟩ := Int.eq_ofNat_of_zero_le h2
    have hak : a + k ≤ msg.size := by omega
    rw [show ((a : Int) + (k : Int)).toNat = a + k by omega, show ((a : Int)).toNat = a by omega] at HR
    have q1 : decide ((a : Int) < 0) = false := by simp
    have q2 : decide ((k : Int) < 0) = false := by simp
    have q3 : decide ((msg.size : Int) - (a : Int) < (k : Int)) = false := by simp; omega
    have hm : (msg.extract 0 (a + k)).size = a + k := by rw [ext_size]; omega
    have HS := Lib.hid (fun w1 h => split_any (msg.extract 0 (a + k)) a kind w1 h (by omega) (by omega))
    have HE := Lib.hid he
    clear he h1 h2 h3
    unfold SpPost at HS
    cases hr : splF (msg.extract 0 (a + k)) a kind with
    | no er =>
      rw [hr] at HS HR
      clear hr
      go_enter Tryd.func52, Tryd.ntmps52
      go_wp2_with fail
      refine Calls.mono (HS.out w HE.out) ?_
      rintro e w1 ⟨hg, hp1, hp2, rfl⟩
      have G1 := Lib.hid hg
      have k1 : ((er : Int) != 0) = true := by simp; omega
      clear hg HS
      go_wp2_with fail
      go_ret2
      rw [HR.out]
      exact ⟨rfl, G1.out⟩
    | ok l =>
      rw [hr] at HS HR
      have hgd := spl_good (by omega) hr
      have HT := Lib.hid (fun v w1 (h : Pcs w1 v l) => text_any v l w1 h (spl_len hr) (fun x hx => by have := (hgd x hx).1; omega))
      clear hgd hr
      go_enter Tryd.func52, Tryd.ntmps52
      go_wp2_with fail
      refine Calls.mono (HS.out w HE.out) ?_
      rintro e w1 ⟨hg, _, v, rfl, ho⟩
      have G1 := Lib.hid hg
      have P1 := Lib.hid (Pcs.of ho)
      obtain ⟨A, cap, rfl, _, _⟩ := own_shape ho
      clear hg HS ho
      go_wp2_with fail
      refine Calls.mono (HT.out _ w1 P1.out) ?_
      rintro e w2 ⟨rfl, hg⟩
      have G2 := Lib.hid (gtrans G1.out hg)
      clear hg
      go_wp2_with fail
      go_ret2
      rw [HR.out]
      exact ⟨rfl, G2.out⟩

/-- Parts, written one behind the other. -/
def wrF (cmp : Bool) : List Pc → Tb → List UInt8 → List UInt8 × Tb
  | [], T, out => (out, T)
  | x :: l, T, out => if x.name = true then wrF cmp l (putF x.text cmp cmp 0 T out).2 (putF x.text cmp cmp 0 T out).1 else wrF cmp l T (out ++ x.text.data.toList)
theorem wrF_txt {cmp : Bool} {x : Pc} {l : List Pc} {T : Tb} {out : List UInt8} (h : x.name = false) : wrF cmp (x :: l) T out = wrF cmp l T (out ++ x.text.data.toList) := by rw [wrF, if_neg (by simp [h])]
theorem wrF_nam {cmp : Bool} {x : Pc} {l : List Pc} {T : Tb} {out : List UInt8} (h : x.name = true) : wrF cmp (x :: l) T out = wrF cmp l (putF x.text cmp cmp 0 T out).2 (putF x.text cmp cmp 0 T out).1 := by rw [wrF, if_pos h]
def WrPost (b : Nat) (m : Option Nat) (T : Tb) (a : List UInt8) (kind : Nat) (d : ByteArray) (w : World) (e : Ending) (w' : World) : Prop :=
  match whF kind d with
  | none => e = .returned (.tuple #[.slice none 0 0, .int .i64 3]) ∧ w.grownBy w' none
  | some l => ∃ v' m', e = .returned (.tuple #[v', .int .i64 0]) ∧ Own w' w.heap.size v' (wrF (cmpF kind) l T a).1 ∧ Tab w' b m' (wrF (cmpF kind) l T a).2 ∧ TG w w' b m ∧ ∀ i, m' = some i → m = some i ∨ w.heap.size ≤ i
theorem PtM.put {w : World} {b : Nat} {m : Option Nat} {T' T2 : Tb} {out out' : List UInt8} {mr m2 : Option Nat} {v v' : Value} {wr w2 : World} (h : PtM w b m T' out mr v wr) (ho : Own w2 wr.heap.size v' out') (ht : Tab w2 b m2 T2) (hg : TG wr w2 b mr) (hm : ∀ i, m2 = some i → mr = some i ∨ wr.heap.size ≤ i) : PtM w b m T2 out' m2 v' w2 :=
  ⟨ho.base h.tg.size, ht, h.tg.trans hg h.ms, tg_ms h.tg h.ms hm⟩
theorem putF_outlen (n : ByteArray) (cmp known : Bool) : ∀ k p (T : Tb) (out : List UInt8), n.size - p = k → scan n p = true → (putF n cmp known p T out).1.length ≤ out.length + (n.size - p) + 1 := by
  intro k
  induction k using Nat.strongRecOn with
  | _ k ih =>
    intro p T out hk hsc
    have hp := scan_lt hsc
    by_cases h0 : bt n p = 0
    · rw [putF_end h0]; simp
    · have hl := scan_lab hsc h0
      cases hg : tget T (suf n p) with
      | some q =>
        cases cmp with
        | true => rw [putF_ptr hp h0 hg rfl]; simp [ptrB]; omega
        | false =>
          rw [putF_step hp h0 (.inr rfl)]
          have := ih (n.size - (p + 1 + bt n p)) (by omega) _ (tadd n known p T out.length) (out ++ lab n p) rfl hl.2.2
          rw [List.length_append, lab_len n p (by omega)] at this
          omega
      | none =>
        rw [putF_step hp h0 (.inl hg)]
        have := ih (n.size - (p + 1 + bt n p)) (by omega) _ (tadd n known p T out.length) (out ++ lab n p) rfl hl.2.2
        rw [List.length_append, lab_len n p (by omega)] at this
        omega
theorem putF_few' {n : ByteArray} (cmp : Bool) (T : Tb) (out : List UInt8) (hn : may n = true) : (putF n cmp cmp 0 T out).2.length ≤ T.length + 255 ∧ (putF n cmp cmp 0 T out).1.length ≤ out.length + 256 := by
  have h1 := putF_few n cmp cmp _ 0 T out rfl
  have h2 := putF_outlen n cmp cmp _ 0 T out rfl (may_size hn).2
  have := (may_size hn).1
  omega
theorem Pcs.keptT {w w' : World} {v : Value} {l : List Pc} {b : Nat} {m : Option Nat} {T : Tb} (h : Pcs w v l) (t : Tab w b m T) (g : TG w w' b m) : Pcs w' v l := by
  obtain ⟨h1, h2⟩ := h
  refine ⟨h1, ?_⟩
  rcases h2 with h2 | ⟨k, cap, cur, e, hb, hk, hc⟩
  · exact .inl h2
  · refine .inr ⟨k, cap, cur, e, hb, g.blk hk ?_ ?_, hc⟩
    · intro e
      subst e
      have := t.cell
      rw [hk] at this
      cases this
    · intro e
      subst e
      obtain ⟨⟨D, ⟨es, clock, hm, _⟩, _⟩, _⟩ := t.some k rfl
      rw [hk] at hm
      cases hm
structure WtL (w : World) (b : Nat) (m : Option Nat) (T : Tb) (a : List UInt8) (cmp : Bool) (l : List Pc) (i : Nat) (T' : Tb) (out : List UInt8) (mr : Option Nat) (v : Value) (wr : World) : Prop where
  pm : PtM w b m T' out mr v wr
  eq : wrF cmp l T a = wrF cmp (l.drop i) T' out
  few : T'.length ≤ T.length + 255 * i
  len : out.length ≤ a.length + 1300000 * i
theorem twrite_nil (va : Value) (kind : Nat) (d : ByteArray) (w : World) : Calls Tryd.prog 58 #[va, .pointer none, .int .u16 kind, .string d] w fun e w' => e = .returned (.tuple #[.slice none 0 0, .int .i64 2]) ∧ w.grownBy w' none := by
  go_enter Tryd.func58, Tryd.ntmps58
  go_wp2_with fail
  go_ret2
  exact ⟨rfl, grefl _ _⟩

set_option maxRecDepth 100000 in
set_option maxHeartbeats 2000000 in
theorem twrite_any (b : Nat) (m : Option Nat) (T : Tb) (va : Value) (a : List UInt8) (kind : Nat) (d : ByteArray) (w : World) (he : Et w) (h : Tab w b m T) (ha : SlB w va a) (hd : d.size ≤ 1000000) (hT : T.length ≤ 900000) (hal : a.length ≤ 900000000) :
    Calls Tryd.prog 58 #[va, .pointer (some ⟨b, 0, none⟩), .int .u16 kind, .string d] w (WrPost b m T a kind d w) := by
  obtain ⟨i0, hi, hz0, hz1, hz2⟩ := info_parts Tryd.infoByte
  have HW := Lib.hid (whole_l kind d w he hd)
  have HT := Lib.hid h
  have HA := Lib.hid ha
  have hbl := blt h.cell
  obtain ⟨hl3, hgood⟩ := whL_good kind d
  obtain ⟨A, capa, rfl, _, _, _⟩ := ha
  clear h he
  cases hm : whF kind d with
  | none =>
    have HP := Lib.hid hm
    rw [show mayD kind d = false by unfold mayD; rw [hm]; rfl] at HW
    clear hm hgood
    go_enter Tryd.func58, Tryd.ntmps58
    go_wp2_with fail
    refine Calls.mono HW.out ?_
    rintro e w1 ⟨v, rfl, _, hg⟩
    have G1 := Lib.hid hg
    clear hg HW
    go_wp2_with fail
    go_ret2
    unfold WrPost
    rw [HP.out]
    exact ⟨rfl, G1.out⟩
  | some l =>
    have HP := Lib.hid hm
    rw [show mayD kind d = true by unfold mayD; rw [hm]; rfl] at HW
    rw [show whL kind d = l by unfold whL; rw [hm]; rfl] at HW hl3 hgood
    have HX := Lib.hid hgood
    clear hm hgood
    go_enter Tryd.func58, Tryd.ntmps58
    go_wp2_with fail
    refine Calls.mono HW.out ?_
    rintro e w1 ⟨v, rfl, hp, hg⟩
    have G1 := Lib.hid hg
    have P1 := Lib.hid hp
    have T1 := Lib.hid (HT.out.kept0 hg)
    have A1 := Lib.hid (HA.out.kept0 hg)
    obtain ⟨Ap, cp, rfl⟩ := FS.len hp
    have hb1 := blt T1.out.cell
    have hbd := hg.size
    clear hg hp HW HA HT
    go_wp2_with (at_make; refine wpList_make_own _ rfl _ _ 26 rfl w1.heap.size 5 i0 (.int .u8 0) 1 Tryd.underlying26 hi hz0 hz1 _ _ _ (a.length + d.size) rfl rfl (by omega) ?b2 ?b3 (Nat.le_refl _) ?_)
    case b2 => rw [hz2]; omega
    case b3 => unfold maxLen; omega
    intro w0 hown0 hgrow0
    have ho0 : Own w0 w1.heap.size (.slice (some ⟨w1.heap.size, 0, none⟩) ([] : List UInt8).length (a.length + d.size)) [] := hown0
    go_wp2_with (at_builtin; refine wpList_app_sl rfl (.tmp 34) (.tmp 35) 26 rfl w1.heap.size i0 Tryd.underlying26 hi hz0 hz1 hz2 _ [] a rfl ho0 _ rfl (A1.out.kept0 hgrow0) ?c1 ?c2 ?_)
    case c1 => simp; omega
    case c2 => exact hgrow0.size
    intro v1 w2 ho1 hg1
    have HL := Lib.hid (show WtL w1 b m T a (cmpF kind) l 0 T a m v1 w2 from by
      have g01 : w1.grownBy w2 none := gstep hgrow0 hg1 (fun r hr => (ho0.block r hr).1)
      exact ⟨⟨ho1, T1.out.kept0 g01, TG.of0 g01 _ _, fun i e => .inl e⟩, rfl, by omega, by omega⟩)
    clear ho1 hg1 ho0 hown0 hgrow0 A1
    go_wp2_with fail
    refine Calls.mono (compr_any kind w2) ?_
    rintro e wq ⟨rfl, hq⟩
    subst hq
    obtain ⟨cmp, hcm⟩ : ∃ c, cmpF kind = c := ⟨_, rfl⟩
    rw [hcm] at HL ⊢
    have HCM := Lib.hid hcm
    clear hcm
    go_wp2_with fail
    go_loopw [12, 41] (fun vo vi wr => ∃ (i : Nat) (T' : Tb) (out : List UInt8) (mr : Option Nat), vi = .int .i64 i ∧ i ≤ l.length ∧ WtL w1 b m T a cmp l i T' out mr vo wr) (fun _ vi _ => l.length - (intOf vi).toNat)
    case atStart => exact ⟨0, T, a, m, rfl, by omega, HL.out⟩
    case round =>
      clear HL
      obtain ⟨i, T', out, mr, rfl, hil, hr⟩ := hrel
      have R0 := Lib.hid hr
      have hfew := hr.few
      have hlen := hr.len
      obtain ⟨O, cap, rfl, hcap, hcm⟩ := hr.pm.own.shape
      unfold maxLen at hcm
      clear hr
      by_cases hlt : i < l.length
      · have k0 : decide ((i : Int) < (l.length : Int)) = true := by simp; omega
        obtain ⟨g, rfl, _, hgl, c0, c1, c2⟩ := (P1.out.keptT T1.out R0.out.pm.tg).at hlt
        obtain ⟨hx1, hx2⟩ := HX.out l[i] (List.getElem_mem hlt)
        have HD := Lib.hid (show l.drop i = l[i] :: l.drop (i + 1) from List.drop_eq_getElem_cons hlt)
        cases hb : l[i].name with
        | false =>
          rw [hb] at c1
          have HN := Lib.hid (show wrF cmp l T a = wrF cmp (l.drop (i + 1)) T' (out ++ l[i].text.data.toList) by
            rw [R0.out.eq, HD.out, wrF_txt hb])
          have hnl := nlen l[i].text
          clear hb hx2 HD
          generalize l[i] = x at *
          have M1 := Lib.hid (R0.out.pm.quiet (galloc (grefl wr none) (.cells #[.string x.text, .bool false, .int .i64 (x.next : Int)] 145)))
          go_wp2_with (at_builtin; refine wpList_app_str rfl (.tmp 48) (.tmp 50) 26 9 rfl w1.heap.size i0 Tryd.underlying26 Tryd.underlying9 hi hz0 hz1 hz2 _ _ rfl (R0.out.pm.own.kept0 (galloc (grefl _ none) _)) x.text rfl ?e1 ?e2 ?_)
          case e1 => omega
          case e2 => have := R0.out.pm.tg.size; simp; omega
          intro v6 w6 ho6 hg6
          have R6 := Lib.hid (show WtL w1 b m T a cmp l (i + 1) T' (out ++ x.text.data.toList) mr v6 w6 from ⟨M1.out.app hb1 hg6 ho6, HN.out, by omega, by simp only [List.length_append]; omega⟩)
          obtain ⟨A6, c6, rfl, _, _⟩ := ho6.shape
          clear ho6 hg6 M1
          go_wp2_with fail
          go_roundw
          case rel => exact ⟨i + 1, T', out ++ x.text.data.toList, mr, by go_num, by omega, R6.out⟩
          case measure => simp [intOf]; omega
        | true =>
          rw [hb] at c1
          have HN := Lib.hid (show wrF cmp l T a = wrF cmp (l.drop (i + 1)) (putF l[i].text cmp cmp 0 T' out).2 (putF l[i].text cmp cmp 0 T' out).1 by
            rw [R0.out.eq, HD.out, wrF_nam hb])
          have hmy := hx2 hb
          have HF := Lib.hid (putF_few' cmp T' out hmy)
          have h255 := (may_size hmy).1
          have HM := Lib.hid hmy
          clear hb hx2 HD hmy
          generalize l[i] = x at *
          have M1 := Lib.hid (R0.out.pm.quiet (galloc (grefl wr none) (.cells #[.string x.text, .bool true, .int .i64 (x.next : Int)] 145)))
          go_wp2_with fail
          refine Calls.mono (tput_ok b mr T' _ out x.text cmp cmp _ M1.out.tab M1.out.own.sl HM.out (by omega) (by omega)) ?_
          rintro e w6 ⟨v', m', rfl, ho, ht, hg, hms⟩
          have R6 := Lib.hid (show WtL w1 b m T a cmp l (i + 1) (putF x.text cmp cmp 0 T' out).2 (putF x.text cmp cmp 0 T' out).1 m' v' w6 from ⟨M1.out.put ho ht hg hms, HN.out, by have := HF.out.1; omega, by have := HF.out.2; omega⟩)
          obtain ⟨A6, c6, rfl, _, _⟩ := ho.shape
          clear ho ht hg hms M1 HN HF
          generalize putF x.text cmp cmp 0 T' out = pq at *
          go_wp2_with fail
          go_roundw
          case rel => exact ⟨i + 1, pq.2, pq.1, m', by go_num, by omega, R6.out⟩
          case measure => simp [intOf]; omega
      · have k0 : decide ((i : Int) < (l.length : Int)) = false := by simp; omega
        have HE := Lib.hid (show wrF cmp l T a = (out, T') by rw [R0.out.eq, List.drop_eq_nil_of_le (by omega)]; rfl)
        have HC := Lib.hid (show cmpF kind = cmp from HCM.out)
        go_wp2_with fail
        go_ret2
        unfold WrPost
        rw [HP.out]
        simp only
        rw [HC.out, HE.out]
        exact ⟨_, mr, rfl, R0.out.pm.own.base hbd, R0.out.pm.tab, (TG.of0 G1.out b m).trans R0.out.pm.tg (fun i e => .inl e), fun i e => by
          rcases R0.out.pm.ms i e with h1 | h1
          · exact .inl h1
          · exact .inr (Nat.le_trans hbd h1)⟩
end Go.Proofs.YthgendgmlpaglaaDoor
