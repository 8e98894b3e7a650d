/-
  The program's checks (layer 5): each by its contract.
-/
import Derived.Test.YtijjfdmklbncbaaDoorDaNum
import Derived.Test.YtijjfdmklbncbaaDoorNm
import Derived.Test.YtijjfdmklbncbaaDoorCo04b
import Derived.StillTailTactics
import Derived.IntWalk
namespace Go.Proofs.YtijjfdmklbncbaaDoor
open Go.RowKit

def pcv (x : Pc) : List Value := [.string x.text, .bool x.name, .int .i64 (x.next : Int)]
def crV : Cr → Value
  | .ok x => .tuple #[.agg #[.string x.text, .bool x.name, .int .i64 (x.next : Int)], .int .i64 0]
  | .no e => .tuple #[.agg #[.string ByteArray.empty, .bool false, .int .i64 0], .int .i64 (e : Int)]
theorem Tryd.pieceSize : (Tryd.prog.info? 73).map (·.size) = some 3 := by kernel_rfl

theorem txF_eq {s : ByteArray} {p : Nat} (h : p < s.size) : txF s p = (if p + 1 + bt s p = s.size then true else txF s (p + 1 + bt s p)) := by rw [txF, dif_pos h]
theorem kb_alloc (w : World) (o o' : Obj) : KB w.heap.size (w.alloc o).drew (w.alloc o').drew :=
  ⟨rfl, rfl, rfl, by show (w.alloc o).heap.size ≤ (w.alloc o').heap.size; simp, fun i hi => (Below.heap_alloc w o' i hi).trans (Below.heap_alloc w o i hi).symm⟩
theorem rd_pos {s : ByteArray} {p e : Nat} : ∀ {lim nx out}, rdF s p lim nx out = .no e → 1 ≤ e ∧ e ≤ 8 := by
  intro lim nx out h
  exact rd_ind (s := s) (P := fun p lim nx out => rdF s p lim nx out = .no e → 1 ≤ e ∧ e ≤ 8)
    (fun p lim nx out h e => by rw [rd_short h] at e; cases e; omega)
    (fun p lim nx out h h0 e => by rw [rd_end h h0] at e; cases e)
    (fun p lim nx out h0 h64 h1 h2 ih e => ih (by rw [rd_label h0 h64 h1 h2] at e; exact e))
    (fun p lim nx out h0 h64 h1 h2 e => by rw [rd_long h0 h64 h1 h2] at e; cases e; omega)
    (fun p lim nx out h h0 h64 h1 e => by rw [rd_lshort h h0 h64 h1] at e; cases e; omega)
    (fun p lim nx out h h64 h192 e => by rw [rd_form h h64 h192] at e; cases e; omega)
    (fun p lim nx out h192 h2 h3 ih e => ih (by rw [rd_ptr h192 h2 h3] at e; exact e))
    (fun p lim nx out h192 h2 h3 e => by rw [rd_loop h192 h2 h3] at e; cases e; omega)
    (fun p lim nx out h h192 h2 e => by rw [rd_pshort h h192 h2] at e; cases e; omega) p lim nx out h

set_option maxRecDepth 100000 in
set_option maxHeartbeats 1000000 in
theorem cnum_any (n : Nat) (s : ByteArray) (p b : Nat) (w : World) (hc : w.cell? ⟨b, 0, none⟩ = some (.int .i64 n)) (hn : n ≤ 1000) (hp : p ≤ s.size) (hs : s.size ≤ 1000000) : Calls Tryd.prog 53 #[.string s, .int .i64 p, .pointer (some ⟨b, 0, none⟩)] w fun e w' => e = .returned (crV (ckF (.num n) s p)) ∧ w.grownBy w' none := by
  have hb : b < w.heap.size := World.block_lt_of_cell? w _ hc
  by_cases h : s.size - p < n
  · have k0 : decide ((s.size : Int) - (p : Int) < (n : Int)) = true := by simp; omega
    have HK := Lib.hid (show ckF (.num n) s p = .no 4 from if_pos h)
    clear h
    go_enter Tryd.func53, Tryd.ntmps53
    go_wp2_with fail
    refine bodyPost_ret (results_cr rfl _ _ w.heap.size _ _ _ _ rfl (balloc w _) Tryd.underlying73 rfl (by kernel_rfl)) rfl ?_
    exact ⟨by rw [HK.out]; rfl, galloc (grefl w none) _⟩
  · have k0 : decide ((s.size : Int) - (p : Int) < (n : Int)) = false := by simp; omega
    have HK := Lib.hid (show ckF (.num n) s p = .ok ⟨s.extract p (p + n), false, p + n⟩ from if_neg h)
    go_enter Tryd.func53, Tryd.ntmps53
    go_wp2_with fail
    have hB := Lib.hid (balloc w (.cells #[.string ⟨#[]⟩, .bool false, .int .i64 0] 73))
    have G0 := Lib.hid (gdrew (galloc (grefl w none) (.cells #[.string ⟨#[]⟩, .bool false, .int .i64 0] 73)))
    have c1 := (G0.out.cell hc (by simp))
    have HB := Lib.hid (show ((w.alloc (.cells #[.string ⟨#[]⟩, .bool false, .int .i64 0] 73)).drew).heap[w.heap.size]? = _ from hB.out)
    clear hc hB
    refine wp_region_still_tail 10 (by kernel_rfl) (by kernel_rfl) ?_
    simp only [List.take_succ_cons, List.take_zero, List.drop_succ_cons, List.drop_zero]
    rw [show ({ (w.alloc (.cells #[.string ⟨#[]⟩, .bool false, .int .i64 0] 73)) with drawn := (w.alloc (.cells #[.string ⟨#[]⟩, .bool false, .int .i64 0] 73)).drawn + 1 } : World) = (w.alloc (.cells #[.string ⟨#[]⟩, .bool false, .int .i64 0] 73)).drew from rfl]
    generalize (w.alloc (.cells #[.string ⟨#[]⟩, .bool false, .int .i64 0] 73)).drew = w2 at *
    have a3 : s.size ≤ 1000000 := hs
    have a1 : 0 ≤ (p : Int) + (n : Int) := by omega
    have a2 : ((p : Int) + (n : Int)).toNat = p + n := by omega
    have a4 : p ≤ p + n := by omega
    have a5 : p + n ≤ s.size := by omega
    have a0 : IntKind.i64.wrap ((p : Int) + (n : Int)) = (p : Int) + (n : Int) := IntWalk.i64_in _ (by omega)
    have b1 : (p : Int) ≤ (p : Int) + (n : Int) := by omega
    have b2 : (p : Int) + (n : Int) ≤ (s.size : Int) := by omega
    repeat still_step
    refine wpStill_nil ?_
    clear a0 a1 a2
    have c2 := fun j => bcellAt HB.out j
    have f2 := fun j => bfree HB.out j
    have l2 := blt HB.out
    go_wp2_with fail
    refine bodyPost_ret (results_cr rfl _ _ w.heap.size _ _ _ _ rfl (bset3_ HB.out _ _ _) Tryd.underlying73 rfl (by kernel_rfl)) rfl ?_
    exact ⟨by rw [HK.out]; rfl, gstepb G0.out (gset3_ _ _ _ _ _) (Nat.le_refl _)⟩

set_option maxRecDepth 100000 in
set_option maxHeartbeats 1000000 in
theorem cnam_any (s : ByteArray) (p : Nat) (w : World) (he : Et w) (hp : p ≤ s.size) (hs : s.size ≤ 1000000) : Calls Tryd.prog 54 #[.string s, .int .i64 p] w fun e w' => e = .returned (crV (ckF .nam s p)) ∧ w.grownBy w' none := by
  have HR := Lib.hid (fun w1 h => cread_any s (p : Int) w1 h hs)
  rw [rdAt_in (by omega) (by omega)] at HR
  have HE := Lib.hid he
  clear he
  have HK : ckF .nam s p = match rdF s p p none [] with
    | .ok n next => .ok ⟨⟨n.toArray⟩, true, next⟩
    | .no e => .no e := rfl
  simp only [Int.toNat_natCast] at HR
  cases hr : rdF s p p none [] with
  | ok n next =>
    rw [hr] at HR HK
    have HK' := Lib.hid HK
    clear HK hr
    unfold rdR at HR
    go_enter Tryd.func54, Tryd.ntmps54
    go_wp2_with fail
    refine Calls.mono (HR.out _ (HE.out.kept (galloc (grefl w none) _) (by simp))) ?_
    rintro e w1 ⟨rfl, hg⟩
    have HB := Lib.hid (gblock hg (balloc w _) (by simp))
    have G1 := Lib.hid (gtrans (galloc (grefl w none) _) hg)
    have c0 := fun j => bcellAt HB.out j
    have f0 := fun j => bfree HB.out j
    have l0 := blt HB.out
    clear hg HR
    go_wp2_with fail
    refine bodyPost_ret (results_cr rfl _ _ w.heap.size _ _ _ _ rfl (bset3_ HB.out _ _ _) Tryd.underlying73 rfl (by kernel_rfl)) rfl ?_
    exact ⟨by rw [HK'.out]; rfl, gstepb G1.out (gset3_ _ _ _ _ _) (Nat.le_refl _)⟩
  | no er =>
    rw [hr] at HR HK
    have HK' := Lib.hid HK
    clear HK
    have hpos := rd_pos (p := p) hr
    clear hr
    unfold rdR at HR
    have k0 : ((er : Int) != 0) = true := by simp; omega
    go_enter Tryd.func54, Tryd.ntmps54
    go_wp2_with fail
    refine Calls.mono (HR.out _ (HE.out.kept (galloc (grefl w none) _) (by simp))) ?_
    rintro e w1 ⟨rfl, hg⟩
    have HB := Lib.hid (gblock hg (balloc w _) (by simp))
    have G1 := Lib.hid (gtrans (galloc (grefl w none) _) hg)
    have c0 := fun j => bcellAt HB.out j
    have f0 := fun j => bfree HB.out j
    have l0 := blt HB.out
    clear hg HR
    go_wp2_with fail
    refine bodyPost_ret (results_cr rfl _ _ w.heap.size _ _ _ _ rfl (bset3_ HB.out _ _ _) Tryd.underlying73 rfl (by kernel_rfl)) rfl ?_
    exact ⟨by rw [HK'.out]; rfl, gstepb G1.out (gset3_ _ _ _ _ _) (Nat.le_refl _)⟩

set_option maxRecDepth 100000 in
set_option maxHeartbeats 1000000 in
theorem ctxt_any (s : ByteArray) (p : Nat) (w : World) (hp : p ≤ s.size) (hs : s.size ≤ 1000000) : Calls Tryd.prog 56 #[.string s, .int .i64 p] w fun e w' => e = .returned (crV (ckF .txt s p)) ∧ w.grownBy w' none := by
  go_enter Tryd.func56, Tryd.ntmps56
  go_wp2_with fail
  go_loop [6, 7] (fun ve vf => ∃ (q : Nat) (fi : Bool), ve = .int .i64 q ∧ vf = .bool fi ∧ q ≤ s.size ∧ p ≤ q ∧ (fi = true → q = p) ∧ (fi = false → txF s p = (if q = s.size then true else txF s q))) (fun ve _ => s.size - (intOf ve).toNat)
  case atStart => exact ⟨p, true, rfl, rfl, hp, Nat.le_refl _, (fun _ => rfl), fun e => by cases e⟩
  case round =>
    obtain ⟨q, fi, rfl, rfl, hq, hpq, h1, h2⟩ := hrel
    cases fi with
    | true =>
      obtain rfl : q = p := h1 rfl
      clear h1 h2
      by_cases hlt : q < s.size
      · have k1 : ((q : Int) == (s.size : Int)) = false := by simp; omega
        have hg := (bt_get s q hlt).symm
        have hb := bt_lt s q
        have l1 := s[q].toNat_lt
        by_cases hfit : q + 1 + bt s q ≤ s.size
        · have k2 : decide ((s.size : Int) < (q : Int) + (1 + ((bt s q : Nat) : Int))) = false := by simp; omega
          have HN := Lib.hid (show txF s q = (if q + 1 + bt s q = s.size then true else txF s (q + 1 + bt s q)) by exact txF_eq hlt)
          go_wp2_with fail
          go_round
          case rel => exact ⟨q + 1 + bt s q, false, by go_num, rfl, hfit, by omega, (fun e => by cases e), fun _ => HN.out⟩
          case measure => simp [intOf]; omega
        · have k2 : decide ((s.size : Int) < (q : Int) + (1 + ((bt s q : Nat) : Int))) = true := by simp; omega
          have HN := Lib.hid (show ckF .txt s q = .no 4 by
            have e : txF s q = false := by rw [txF_step hlt (by omega), txF_out (by omega)]
            show (if txF s q = true then _ else _) = _
            rw [e]; rfl)
          go_wp2_with fail
          refine bodyPost_ret (results_cr rfl _ _ w.heap.size _ _ _ _ rfl (balloc w _) Tryd.underlying73 rfl (by kernel_rfl)) rfl ?_
          exact ⟨by rw [HN.out]; rfl, galloc (grefl w none) _⟩
      · have k1 : ((q : Int) == (s.size : Int)) = true := by simp; omega
        have HN := Lib.hid (show ckF .txt s q = .no 4 by
          show (if txF s q = true then _ else _) = _
          rw [txF_out (by omega)]; rfl)
        go_wp2_with fail
        refine bodyPost_ret (results_cr rfl _ _ w.heap.size _ _ _ _ rfl (balloc w _) Tryd.underlying73 rfl (by kernel_rfl)) rfl ?_
        exact ⟨by rw [HN.out]; rfl, galloc (grefl w none) _⟩
    | false =>
      have HT := Lib.hid (h2 rfl)
      clear h1 h2
      by_cases hlt : q < s.size
      · have k0 : decide ((q : Int) < (s.size : Int)) = true := by simp; omega
        have k1 : ((q : Int) == (s.size : Int)) = false := by simp; omega
        have hg := (bt_get s q hlt).symm
        have hb := bt_lt s q
        have l1 := s[q].toNat_lt
        by_cases hfit : q + 1 + bt s q ≤ s.size
        · have k2 : decide ((s.size : Int) < (q : Int) + (1 + ((bt s q : Nat) : Int))) = false := by simp; omega
          have HN := Lib.hid (show txF s p = (if q + 1 + bt s q = s.size then true else txF s (q + 1 + bt s q)) by rw [HT.out, if_neg (by omega)]; exact txF_eq hlt)
          go_wp2_with fail
          go_round
          case rel => exact ⟨q + 1 + bt s q, false, by go_num, rfl, hfit, by omega, (fun e => by cases e), fun _ => HN.out⟩
          case measure => simp [intOf]; omega
        · have k2 : decide ((s.size : Int) < (q : Int) + (1 + ((bt s q : Nat) : Int))) = true := by simp; omega
          have HN := Lib.hid (show ckF .txt s p = .no 4 by
            have e : txF s p = false := by rw [HT.out, if_neg (by omega), txF_step hlt (by omega), txF_out (by omega)]
            show (if txF s p = true then _ else _) = _
            rw [e]; rfl)
          go_wp2_with fail
          refine bodyPost_ret (results_cr rfl _ _ w.heap.size _ _ _ _ rfl (balloc w _) Tryd.underlying73 rfl (by kernel_rfl)) rfl ?_
          exact ⟨by rw [HN.out]; rfl, galloc (grefl w none) _⟩
      · have k0 : decide ((q : Int) < (s.size : Int)) = false := by simp; omega
        obtain rfl : q = s.size := by omega
        have HN := Lib.hid (show ckF .txt s p = .ok ⟨s.extract p s.size, false, s.size⟩ by
          show (if txF s p = true then _ else _) = _
          rw [HT.out, if_pos rfl, if_pos rfl])
        go_wp2_with fail
        refine bodyPost_ret (results_cr rfl _ _ w.heap.size _ _ _ _ rfl (balloc w _) Tryd.underlying73 rfl (by kernel_rfl)) rfl ?_
        exact ⟨by rw [HN.out]; rfl, galloc (grefl w none) _⟩
set_option maxRecDepth 100000 in
theorem crst_any (s : ByteArray) (p : Nat) (w : World) (hp : p ≤ s.size) (_hs : s.size ≤ 1000000) : Calls Tryd.prog 57 #[.string s, .int .i64 p] w fun e w' => e = .returned (crV (ckF .rst s p)) ∧ w.grownBy w' none := by
  go_enter Tryd.func57, Tryd.ntmps57
  go_wp2_with fail
  refine bodyPost_ret (results_cr rfl _ _ w.heap.size _ _ _ _ rfl (balloc w _) Tryd.underlying73 rfl (by kernel_rfl)) rfl ?_
  exact ⟨rfl, galloc (grefl w none) _⟩

/-- The value of a check. -/
def CkV (w : World) (v : Value) (c : Ck) : Prop :=
  match c with
  | .num n => ∃ b, n ≤ 1000 ∧ v = .func (.func 53) #[] #[.pointer (some ⟨b, 0, none⟩)] ∧ w.heap[b]? = some (.cells #[.int .i64 n] 3 (0, 0))
  | .nam => v = .func (.func 54) #[] #[]
  | .txt => v = .func (.func 56) #[] #[]
  | .rst => v = .func (.func 57) #[] #[]
theorem CkV.kept {w w' : World} {v : Value} {c : Ck} {row : Option Nat} (h : CkV w v c) (g : w.grownBy w' row) (hr : ∀ b, row = some b → w.heap.size ≤ b ∨ ∃ c t z, w.heap[b]? = some (.cells c t z) ∧ c.size ≠ 1) : CkV w' v c := by
  cases c with
  | num n =>
    obtain ⟨b, h1, h2, h3⟩ := h
    refine ⟨b, h1, h2, gblock g h3 ?_⟩
    intro e
    rcases hr b e.symm with h4 | ⟨c, t, z, h4, h5⟩
    · have := blt h3; omega
    · rw [h3] at h4
      cases h4
      simp at h5
  | nam => exact h
  | txt => exact h
  | rst => exact h
theorem CkV.kept0 {w w' : World} {v : Value} {c : Ck} (h : CkV w v c) (g : w.grownBy w' none) : CkV w' v c := h.kept g (fun _ e => by cases e)
theorem cf_num (args : Array Value) (w : World) : (callFunc 53 args).run Tryd.prog w = .ok (.enter 53 args) w := by kernel_rfl
theorem cf_nam (args : Array Value) (w : World) : (callFunc 54 args).run Tryd.prog w = .ok (.enter 54 args) w := by kernel_rfl
theorem cf_txt (args : Array Value) (w : World) : (callFunc 56 args).run Tryd.prog w = .ok (.enter 56 args) w := by kernel_rfl
theorem cf_rst (args : Array Value) (w : World) : (callFunc 57 args).run Tryd.prog w = .ok (.enter 57 args) w := by kernel_rfl
theorem CkV.calls {w : World} {v : Value} {c : Ck} (h : CkV w v c) : ∃ (fn : FuncId) (caps : Array Value), v = .func (.func fn) #[] caps ∧ (∀ (args : Array Value) (w : World), (callFunc fn args).run Tryd.prog w = .ok (.enter fn args) w) ∧ ∀ (w1 : World) (s : ByteArray) (p : Nat), w.grownBy w1 none → Et w1 → p ≤ s.size → s.size ≤ 1000000 →
    Calls Tryd.prog fn (#[.string s, .int .i64 p] ++ caps) w1 fun e w' => e = .returned (crV (ckF c s p)) ∧ w1.grownBy w' none := by
  cases c with
  | num n =>
    obtain ⟨b, h1, h2, h3⟩ := h
    exact ⟨_, _, h2, cf_num, fun w1 s p g he hp hs => cnum_any n s p b w1 (bcellAt (gblock g h3 (by simp)) 0) h1 hp hs⟩
  | nam => exact ⟨_, _, h, cf_nam, fun w1 s p g he hp hs => cnam_any s p w1 he hp hs⟩
  | txt => exact ⟨_, _, h, cf_txt, fun w1 s p g he hp hs => ctxt_any s p w1 hp hs⟩
  | rst => exact ⟨_, _, h, cf_rst, fun w1 s p g he hp hs => crst_any s p w1 hp hs⟩
theorem mkf (fn : Fn) (first cap : Array Value) (w : World) : (Instr.makeFunc fn first cap).run Tryd.prog w = .ok (.func fn first cap) w := rfl
theorem number_any (n : Nat) (hn : n ≤ 1000) (w : World) : Calls Tryd.prog 49 #[.int .i64 n] w fun e w' => ∃ v, e = .returned v ∧ CkV w' v (.num n) ∧ w.grownBy w' none := by
  have hmf := mkf
  go_enter Tryd.func49, Tryd.ntmps49
  go_wp2_with fail
  go_ret
  exact ⟨_, rfl, ⟨_, hn, rfl, balloc w _⟩, galloc (grefl w none) _⟩
theorem named_any (w : World) : Calls Tryd.prog 50 #[] w fun e w' => ∃ v, e = .returned v ∧ CkV w' v .nam ∧ w.grownBy w' none := by
  have hmf := mkf
  go_enter Tryd.func50, Tryd.ntmps50
  go_wp2_with fail
  go_ret
  exact ⟨_, rfl, rfl, grefl w none⟩
theorem textsM_any (w : World) : Calls Tryd.prog 51 #[] w fun e w' => ∃ v, e = .returned v ∧ CkV w' v .txt ∧ w.grownBy w' none := by
  have hmf := mkf
  go_enter Tryd.func51, Tryd.ntmps51
  go_wp2_with fail
  go_ret
  exact ⟨_, rfl, rfl, grefl w none⟩
theorem restM_any (w : World) : Calls Tryd.prog 52 #[] w fun e w' => ∃ v, e = .returned v ∧ CkV w' v .rst ∧ w.grownBy w' none := by
  have hmf := mkf
  go_enter Tryd.func52, Tryd.ntmps52
  go_wp2_with fail
  go_ret
  exact ⟨_, rfl, rfl, grefl w none⟩
end Go.Proofs.YtijjfdmklbncbaaDoor
