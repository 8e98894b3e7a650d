/-
  Wire: the reader's records.
-/
import Derived.Test.YthgendgmlpaglaaDoorA18
import Derived.Test.YthgendgmlpaglaaDoorA8
import Derived.Test.YthgendgmlpaglaaDoorA12
namespace Go.Proofs.YthgendgmlpaglaaDoor
open Go.RowKit

theorem FS.lt {w : World} {base k n : Nat} {e : TypeId} {v : Value} {xs : List Value} (h : FS w base e k v n xs) : ∀ j, v.ownBlock = some j → j < w.heap.size := by
  intro j hj
  rcases h.2 with ⟨rfl, _⟩ | ⟨g', cap, cur, rfl, _, hg, _⟩
  · cases hj
  · cases hj; exact blt hg
theorem et_tg {w w' : World} {rb bc p : Nat} {s : ByteArray} {h : Hd} {vq va vu vx : Value} {d : Ed} {vo : Value} (he : Et w) (r : Rb w rb bc s p h vq va vu vx d vo) (t : TG w w' bc (some rb)) : Et w' := by
  have h1 := Cur.ne r.cur he
  have h2 : 1 ≠ rb := fun e => by
    have h3 : w.cell? ⟨rb, 0, none⟩ = some (.string s) := bcellAt r.blk 0
    unfold Et at he
    rw [e, h3] at he
    cases he
  unfold Et at he ⊢
  rw [← he]
  exact World.cell?_of_block (t.block _ (World.block_lt_of_cell? w _ he) (fun e => h1 (congrArg some e.symm)) (by simpa using h2))
/-- In the middle of a record. -/
structure Rx (w0 : World) (rb bc : Nat) (s : ByteArray) (h : Hd) (vq va vu vx : Value) (A : Option Addr) (cap : Nat) (l : List Rc) (p : Nat) (d : Ed) (vo : Value) (xb : Nat) (xs : Array Value) (w : World) : Prop where
  own : w.ownsRow w0.heap.size 47 5 (.slice A l.length cap) l.length (rsV l)
  b : Rb w rb bc s p h vq va vu vx d vo
  t : TG w0 w bc (some rb)
  x : w.heap[xb]? = some (.cells xs 47 (0, 0))
  ne : Value.ownBlock (.slice A l.length cap) ≠ some xb
  vn : vo.ownBlock ≠ some xb
  lx : w0.heap.size ≤ xb
  lr : rb < w0.heap.size
  lb : bc < w0.heap.size
section
variable {w0 w w' : World} {rb bc p q xb cap : Nat} {s : ByteArray} {h : Hd} {vq va vu vx vo : Value} {A : Option Addr} {l : List Rc} {d : Ed} {xs : Array Value}
theorem Rx.step (r : Rx w0 rb bc s h vq va vu vx A cap l p d vo xb xs w) (g : w.grownBy w' (some bc)) (k : Rdr w' rb bc s q) : Rx w0 rb bc s h vq va vu vx A cap l q d vo xb xs w' := by
  have h1 := r.lr
  have h2 := r.lx
  have h3 := r.b.ne
  have h4 := r.lb
  exact ⟨own_kept r.own g (by omega), r.b.step g k, r.t.trans (TG.ofB g (some rb)) (fun _ e => .inl e), gblock g r.x (by simp; omega), r.ne, r.vn, r.lx, r.lr, r.lb⟩
theorem Rx.kept (r : Rx w0 rb bc s h vq va vu vx A cap l p d vo xb xs w) (g : w.grownBy w' none) : Rx w0 rb bc s h vq va vu vx A cap l p d vo xb xs w' :=
  ⟨own_kept0 r.own g, r.b.kept g, r.t.trans (TG.of0 g _ (some rb)) (fun _ e => .inl e), gblock g r.x (by simp), r.ne, r.vn, r.lx, r.lr, r.lb⟩
theorem Rb.other (r : Rb w rb bc s p h vq va vu vx d vo) (g : w.grownBy w' (some xb)) (hb : rb < xb) (hc : bc < xb) (ho : vo.ownBlock ≠ some xb) : Rb w' rb bc s p h vq va vu vx d vo := by
  exact ⟨gblock g r.blk (by simp; omega), gblock g r.cur (by simp; omega), r.le, r.ne, r.ops.kept g (.inr ho)⟩
theorem Rx.set (r : Rx w0 rb bc s h vq va vu vx A cap l p d vo xb xs w) (i : Nat) (v : Value) : Rx w0 rb bc s h vq va vu vx A cap l p d vo xb (xs.setIfInBounds i v) (w.setCell ⟨xb, i, none⟩ v) := by
  have g : w.grownBy (w.setCell ⟨xb, i, none⟩ v) (some xb) := gset (grefl w _) (p := ⟨xb, i, none⟩) (.inl rfl) _
  have h1 := r.lr
  have h0 := r.lb
  have h2 := r.lx
  have h3 := r.t.size
  exact ⟨World.ownsRow.kept r.own g (.inr r.ne), r.b.other g (by omega) (by omega) r.vn, ⟨g.os.trans r.t.os, g.tape.trans r.t.tape, g.output.trans r.t.output, Nat.le_trans r.t.size g.size, fun j hj hb hm => (g.block j (by omega) (by simp; omega)).trans (r.t.block j hj hb hm)⟩, bset r.x i v, r.ne, r.vn, r.lx, r.lr, r.lb⟩
theorem Rx.rdr (r : Rx w0 rb bc s h vq va vu vx A cap l p d vo xb xs w) : Rdr w rb bc s p := r.b.rdr
theorem Rb.app {base n k : Nat} {e : TypeId} {v : Value} {ys : List Value} (r : Rb w rb bc s p h vq va vu vx d vo) (o : w.ownsRow base e k v n ys) (he : e ≠ 57) (g : w.grownBy w' v.ownBlock) (hb : rb < base) (hc : bc < base) : Rb w' rb bc s p h vq va vu vx d vo := by
  have hl := World.ownsRow.lt o
  have n1 : some rb ≠ v.ownBlock := fun e => by have := (hl rb e.symm).1; omega
  have n2 : some bc ≠ v.ownBlock := fun e => by have := (hl bc e.symm).1; omega
  refine ⟨gblock g r.blk n1, gblock g r.cur n2, r.le, r.ne, r.ops.kept g ?_⟩
  rcases r.ops.2 with ⟨rfl, _⟩ | ⟨g', c', cur, rfl, _, hg, _⟩
  · exact .inl rfl
  · right
    intro ev
    rcases o.2 with ⟨rfl, _⟩ | ⟨g2, c2, cur2, rfl, _, hg2, _⟩
    · cases ev
    · simp only [Value.ownBlock, Option.some.injEq] at ev
      subst ev
      rw [hg] at hg2
      injection hg2 with h3
      injection h3 with _ h4 _
      exact he h4.symm
theorem TG.app {base n k : Nat} {e : TypeId} {v : Value} {ys : List Value} (t : TG w0 w bc (some rb)) (o : w.ownsRow base e k v n ys) (g : w.grownBy w' v.ownBlock) (hb : w0.heap.size ≤ base) : TG w0 w' bc (some rb) :=
  t.trans (TG.mk g.os g.tape g.output g.size fun i hi _ hm => g.block i hi hm : TG w w' bc v.ownBlock) (fun i e => .inr (Nat.le_trans hb (World.ownsRow.lt o i e).1))
theorem rsV_append (a b : List Rc) : rsV (a ++ b) = rsV a ++ rsV b := by unfold rsV; rw [List.flatMap_append]
theorem Rx.start (o : w.ownsRow w0.heap.size 47 5 (.slice A l.length cap) l.length (rsV l)) (b : Rb w rb bc s p h vq va vu vx d vo) (t : TG w0 w bc (some rb)) (lr : rb < w0.heap.size) (lb : bc < w0.heap.size) (n : ByteArray) :
    Rx w0 rb bc s h vq va vu vx A cap l p d vo w.heap.size #[.string n, .int .u16 0, .int .u16 0, .int .u32 0, .string ⟨#[]⟩] (w.alloc (.cells #[.string n, .int .u16 0, .int .u16 0, .int .u32 0, .string ⟨#[]⟩] 47)) := by
  have g := galloc (grefl w none) (.cells #[.string n, .int .u16 0, .int .u16 0, .int .u32 0, .string ⟨#[]⟩] 47)
  exact ⟨own_kept0 o g, b.kept g, t.trans (TG.of0 g _ (some rb)) (fun _ e => .inl e), balloc w _, fun e => by have := (World.ownsRow.lt o _ e).2; omega, fun e => by have := b.ops.lt _ e; omega, t.size, lr, lb⟩
end
/-- Cells of a kind stay. -/
def KC (p : Addr → Prop) (w w' : World) : Prop := ∀ a v, p a → w.cell? a = some v → w'.cell? a = some v
theorem KC.rt (p : Addr → Prop) : Rt (KC p) := ⟨fun _ _ _ _ h => h, fun h k a v hp hc => k a v hp (h a v hp hc)⟩
instance (p : Addr → Prop) (w0 : World) : Inhabited (GrR (KC p) w0) := ⟨⟨w0, (KC.rt p).refl w0⟩⟩
theorem KC.of {p : Addr → Prop} {w w' : World} (g : w.grownBy w' none) : KC p w w' := fun _ _ _ hc => g.cell hc (by simp)
theorem KC.set {p : Addr → Prop} {w : World} {x : Addr} {v : Value} (h : ¬ p x) : KC p w (w.setCell x v) := fun a u hp hc => by
  have e : x ≠ a := fun e => h (e ▸ hp)
  exact (World.cell?_setCell_other _ _ _ _ e).trans hc

set_option maxRecDepth 100000 in
set_option maxHeartbeats 8000000 in
theorem rrecs_any (w : World) (rb bc p0 : Nat) (s : ByteArray) (h : Hd) (vq va vu vx : Value) (d0 : Ed) (vo0 : Value) (n : Nat) (add : Bool) (he : Et w) (hb : Rb w rb bc s p0 h vq va vu vx d0 vo0) (hs : s.size ≤ 100000) (hn : n ≤ 65535) :
    Calls Tryd.prog 27 #[.pointer (some ⟨rb, 0, none⟩), .int .i64 n, .bool add] w (RqPost rb bc s h vq va vu vx (rdRs s add n p0 d0) w) := by
  obtain ⟨i0, hi, hz0, hz1, hz2⟩ := info_parts Tryd.infoRec
  have HE := Lib.hid he
  have HB := Lib.hid hb
  have LR := Lib.hid (blt hb.blk)
  have LB := Lib.hid (blt hb.cur)
  have hm : s.size ≤ maxLen := by unfold maxLen; omega
  have EK := Lib.hid (fun (w' : World) (t : TG w w' bc (some rb)) => et_tg he hb t)
  obtain ⟨R, hR⟩ : ∃ R, rdRs s add n p0 d0 = R := ⟨_, rfl⟩
  have SO := Lib.hid (show RsSo s add R n [] p0 d0 from by unfold RsSo; rw [hR, Rq.pre_nil])
  rw [hR]
  clear he hb hR
  go_enter Tryd.func27, Tryd.ntmps27
  go_wp2_with fail
  go_loopw [7, 15] (fun vl vi wr => ∃ (i p : Nat) (l : List Rc) (d : Ed) (A : Option Addr) (cap : Nat) (vo : Value), vi = .int .i64 i ∧ i ≤ n ∧ vl = .slice A l.length cap ∧ l.length ≤ i ∧ wr.ownsRow w.heap.size 47 5 (.slice A l.length cap) l.length (rsV l) ∧ Rb wr rb bc s p h vq va vu vx d vo ∧ TG w wr bc (some rb) ∧ RsSo s add R (n - i) l p d) (fun _ vi _ => n - (intOf vi).toNat)
  case atStart => exact ⟨0, p0, [], d0, none, 0, vo0, rfl, by omega, rfl, by simp, World.ownsRow_nil _ _ _ _, HB.out, TG.refl _ _ _, SO.out⟩
  case round =>
    obtain ⟨i, p, l, d, A, cap, vo, rfl, hin, rfl, hli, ho, hb, ht, hso⟩ := hrel
    have O := Lib.hid ho
    have B := Lib.hid hb
    have T := Lib.hid ht
    have LI := Lib.hid hli
    have hcp := (own_shape ho)
    by_cases hlt : i < n
    · obtain ⟨k, hk⟩ : ∃ k, n - i = k + 1 := ⟨n - i - 1, by omega⟩
      rw [hk] at hso
      have S := Lib.hid hso
      have HK := Lib.hid hk
      clear ho hb ht hso hli hk hcp SO HB
      go_wp2_with fail
      cases hF : rdF s p p none [] with
      | no x =>
        refine Calls.mono (rname_no wr rb bc p s (EK.out _ T.out) B.out.rdr hs hF) ?_
        rintro e w1 ⟨rfl, hg⟩
        have T1 := Lib.hid (T.out.trans (TG.ofB hg (some rb)) (fun _ e => .inl e))
        have HR := Lib.hid (S.out.no (rd1_name hF))
        clear hF hg
        go_wp2_with fail
        exact ⟨rfl, RqPost.no HR.out T1.out rfl⟩
      | ok nm q =>
      refine Calls.mono (rname_yes wr rb bc p s (EK.out _ T.out) B.out.rdr hs hF) ?_
      rintro e w1 ⟨rfl, hg, hr⟩
      have X2 := Lib.hid (Rx.start (own_kept O.out hg LB.out) (B.out.step hg hr) (T.out.trans (TG.ofB hg (some rb)) (fun _ e => .inl e)) LR.out LB.out ⟨nm.toArray⟩)
      have HF := Lib.hid hF
      have SHORT := Lib.hid (fun hs => S.out.no (rd1_short (add := add) (d := d) hF hs))
      clear hg hr hF O B T
      go_wp2_with fail
      generalize w1.alloc (.cells #[.string ⟨nm.toArray⟩, .int .u16 0, .int .u16 0, .int .u32 0, .string ⟨#[]⟩] 47) = w2 at *
      generalize w1.heap.size = xb at *
      by_cases h2 : q + 2 ≤ s.size
      case neg =>
        refine Calls.mono (rtwo_no w2 rb bc (q) s (EK.out _ X2.out.t) X2.out.rdr hs h2) ?_
        rintro e w3 ⟨rfl, hg⟩
        have T1 := Lib.hid (X2.out.t.trans (TG.ofB hg (some rb)) (fun _ e => .inl e))
        clear hg
        have HR := Lib.hid (SHORT.out (by omega))
        go_wp2_with fail
        exact ⟨rfl, RqPost.no HR.out T1.out rfl⟩
      refine Calls.mono (rtwo_yes w2 rb bc (q) s (EK.out _ X2.out.t) X2.out.rdr hs h2) ?_
      rintro e w3 ⟨rfl, hg, hr⟩
      have X3 := Lib.hid (X2.out.step hg (show Rdr w3 rb bc s (q + 2) from hr))
      clear hg hr X2
      have c1 : w3.cell? ⟨xb, 1, none⟩ = some (.int .u16 0) := bcellAt X3.out.x 1
      have f1 : w3.frozen? ⟨xb, 1, none⟩ = false := bfree X3.out.x 1
      have X4 := Lib.hid (show Rx w rb bc s h vq va vu vx A cap l (q + 2) d vo xb #[.string ⟨nm.toArray⟩, .int .u16 (num s q 2), .int .u16 0, .int .u32 0, .string ⟨#[]⟩] (w3.setCell ⟨xb, 1, none⟩ (.int .u16 (num s q 2))) from X3.out.set 1 (.int .u16 (num s q 2)))
      go_wp2_with fail
      clear c1 f1 X3
      generalize w3.setCell ⟨xb, 1, none⟩ (.int .u16 (num s q 2)) = w4 at *
      by_cases h4 : q + 2 + 2 ≤ s.size
      case neg =>
        refine Calls.mono (rtwo_no w4 rb bc (q + 2) s (EK.out _ X4.out.t) X4.out.rdr hs h4) ?_
        rintro e w5 ⟨rfl, hg⟩
        have T1 := Lib.hid (X4.out.t.trans (TG.ofB hg (some rb)) (fun _ e => .inl e))
        clear hg
        have HR := Lib.hid (SHORT.out (by omega))
        go_wp2_with fail
        exact ⟨rfl, RqPost.no HR.out T1.out rfl⟩
      refine Calls.mono (rtwo_yes w4 rb bc (q + 2) s (EK.out _ X4.out.t) X4.out.rdr hs h4) ?_
      rintro e w5 ⟨rfl, hg, hr⟩
      have X5 := Lib.hid (X4.out.step hg (show Rdr w5 rb bc s (q + 4) from hr))
      clear hg hr X4
      have c2 : w5.cell? ⟨xb, 2, none⟩ = some (.int .u16 0) := bcellAt X5.out.x 2
      have f2 : w5.frozen? ⟨xb, 2, none⟩ = false := bfree X5.out.x 2
      have X6 := Lib.hid (show Rx w rb bc s h vq va vu vx A cap l (q + 4) d vo xb #[.string ⟨nm.toArray⟩, .int .u16 (num s q 2), .int .u16 (num s (q + 2) 2), .int .u32 0, .string ⟨#[]⟩] (w5.setCell ⟨xb, 2, none⟩ (.int .u16 (num s (q + 2) 2))) from X5.out.set 2 (.int .u16 (num s (q + 2) 2)))
      have r1 := X6.out.rdr.c1
      go_wp2_with fail
      clear c2 f2 X5 r1
      generalize w5.setCell ⟨xb, 2, none⟩ (.int .u16 (num s (q + 2) 2)) = w6 at *
      by_cases h8 : q + 4 + 4 ≤ s.size
      case neg =>
        refine Calls.mono (four_no bc s (q + 4) w6 X6.out.b.cur (EK.out _ X6.out.t) X6.out.b.le h8 hm) ?_
        rintro e w7 ⟨rfl, _, hg⟩
        have T1 := Lib.hid (X6.out.t.trans (TG.ofB hg (some rb)) (fun _ e => .inl e))
        have HR := Lib.hid (SHORT.out (by omega))
        clear hg
        go_wp2_with fail
        refine Calls.mono (must_no 4 (by decide) w7) ?_
        rintro e w8 ⟨rfl, rfl⟩
        go_wp2_with fail
        exact ⟨rfl, RqPost.no HR.out T1.out rfl⟩
      refine Calls.mono (four_k bc s (q + 4) w6 X6.out.b.cur (EK.out _ X6.out.t) h8 hm) ?_
      rintro e w7 ⟨rfl, hc, hg⟩
      have X7 := Lib.hid (X6.out.step hg (X6.out.rdr.step hg (show Cur w7 bc s (q + 8) from hc) (by omega)))
      clear hc hg X6
      go_wp2_with fail
      refine Calls.mono (must_ok w7) ?_
      rintro e w7' ⟨rfl, rfl⟩
      have c3 : w7.cell? ⟨xb, 3, none⟩ = some (.int .u32 0) := bcellAt X7.out.x 3
      have f3 : w7.frozen? ⟨xb, 3, none⟩ = false := bfree X7.out.x 3
      have X8 := Lib.hid (show Rx w rb bc s h vq va vu vx A cap l (q + 8) d vo xb #[.string ⟨nm.toArray⟩, .int .u16 (num s q 2), .int .u16 (num s (q + 2) 2), .int .u32 (num s (q + 4) 4), .string ⟨#[]⟩] (w7.setCell ⟨xb, 3, none⟩ (.int .u32 (num s (q + 4) 4))) from X7.out.set 3 (.int .u32 (num s (q + 4) 4)))
      go_wp2_with fail
      clear c3 f3 X7
      generalize w7.setCell ⟨xb, 3, none⟩ (.int .u32 (num s (q + 4) 4)) = w8 at *
      by_cases h10 : q + 8 + 2 ≤ s.size
      case neg =>
        refine Calls.mono (rtwo_no w8 rb bc (q + 8) s (EK.out _ X8.out.t) X8.out.rdr hs h10) ?_
        rintro e w9 ⟨rfl, hg⟩
        have T1 := Lib.hid (X8.out.t.trans (TG.ofB hg (some rb)) (fun _ e => .inl e))
        clear hg
        have HR := Lib.hid (SHORT.out (by omega))
        go_wp2_with fail
        exact ⟨rfl, RqPost.no HR.out T1.out rfl⟩
      refine Calls.mono (rtwo_yes w8 rb bc (q + 8) s (EK.out _ X8.out.t) X8.out.rdr hs h10) ?_
      rintro e w9 ⟨rfl, hg, hr⟩
      have X9 := Lib.hid (X8.out.step hg (show Rdr w9 rb bc s (q + 10) from hr))
      clear hg hr X8
      have zl := num_lt s (q + 8) 2
      have r1 := X9.out.rdr.c1
      go_wp2_with fail
      refine Calls.mono (at_any bc s (q + 10) w9 X9.out.b.cur) ?_
      rintro e w9' ⟨rfl, rfl⟩
      go_wp2_with fail
      by_cases hz : q + 10 + num s (q + 8) 2 ≤ s.size
      case neg =>
        refine Calls.mono (T_short bc s (q + 10) w9 (num s (q + 8) 2) X9.out.b.cur (EK.out _ X9.out.t) (by omega) X9.out.b.le (by omega) hm) ?_
        rintro e wa ⟨rfl, _, hg⟩
        have T1 := Lib.hid (X9.out.t.trans (TG.ofB hg (some rb)) (fun _ e => .inl e))
        have HR := Lib.hid (SHORT.out (by omega))
        clear hg
        go_wp2_with fail
        refine Calls.mono (must_no 4 (by decide) wa) ?_
        rintro e wb ⟨rfl, rfl⟩
        go_wp2_with fail
        exact ⟨rfl, RqPost.no HR.out T1.out rfl⟩
      refine Calls.mono (T_ok bc s (q + 10) w9 (num s (q + 8) 2) X9.out.b.cur hz hm) ?_
      rintro e wa ⟨rfl, hc, hg⟩
      have Xa := Lib.hid (X9.out.step hg (X9.out.rdr.step hg hc hz))
      clear hc hg X9 r1
      go_wp2_with fail
      refine Calls.mono (must_ok wa) ?_
      rintro e wa' ⟨rfl, rfl⟩
      have HIN := Lib.hid (show q + 10 ≤ s.size ∧ q + 10 + num s (q + 8) 2 ≤ s.size from ⟨by omega, hz⟩)
      have c1 : wa.cell? ⟨xb, 1, none⟩ = some (.int .u16 (num s q 2)) := bcellAt Xa.out.x 1
      by_cases hk : num s q 2 = 41
      · have k1 : ((num s q 2 : Int) == 41) = true := by simp; omega
        have HK1 := Lib.hid hk
        clear hk
        have c4 : wa.cell? ⟨xb, 4, none⟩ = some (.string ⟨#[]⟩) := bcellAt Xa.out.x 4
        have f4 : wa.frozen? ⟨xb, 4, none⟩ = false := bfree Xa.out.x 4
        have Xb := Lib.hid (show Rx w rb bc s h vq va vu vx A cap l (q + 10 + num s (q + 8) 2) d vo xb #[.string ⟨nm.toArray⟩, .int .u16 (num s q 2), .int .u16 (num s (q + 2) 2), .int .u32 (num s (q + 4) 4), .string (s.extract (q + 10) (q + 10 + num s (q + 8) 2))] (wa.setCell ⟨xb, 4, none⟩ (.string (s.extract (q + 10) (q + 10 + num s (q + 8) 2)))) from Xa.out.set 4 (.string (s.extract (q + 10) (q + 10 + num s (q + 8) 2))))
        have x0 : (wa.setCell ⟨xb, 4, none⟩ (.string (s.extract (q + 10) (q + 10 + num s (q + 8) 2)))).cell? ⟨xb, 0, none⟩ = some (.string ⟨nm.toArray⟩) := bcellAt Xb.out.x 0
        have x1 : (wa.setCell ⟨xb, 4, none⟩ (.string (s.extract (q + 10) (q + 10 + num s (q + 8) 2)))).cell? ⟨xb, 1, none⟩ = some (.int .u16 (num s q 2)) := bcellAt Xb.out.x 1
        have x2 : (wa.setCell ⟨xb, 4, none⟩ (.string (s.extract (q + 10) (q + 10 + num s (q + 8) 2)))).cell? ⟨xb, 2, none⟩ = some (.int .u16 (num s (q + 2) 2)) := bcellAt Xb.out.x 2
        have x3 : (wa.setCell ⟨xb, 4, none⟩ (.string (s.extract (q + 10) (q + 10 + num s (q + 8) 2)))).cell? ⟨xb, 3, none⟩ = some (.int .u32 (num s (q + 4) 4)) := bcellAt Xb.out.x 3
        have x4 : (wa.setCell ⟨xb, 4, none⟩ (.string (s.extract (q + 10) (q + 10 + num s (q + 8) 2)))).cell? ⟨xb, 4, none⟩ = some (.string (s.extract (q + 10) (q + 10 + num s (q + 8) 2))) := bcellAt Xb.out.x 4
        go_wp2_with fail
        clear c1 k1 c4 f4 x0 x1 x2 x3 x4 Xa
        generalize wa.setCell ⟨xb, 4, none⟩ (.string (s.extract (q + 10) (q + 10 + num s (q + 8) 2))) = wb at *
        refine Calls.mono (show Calls Tryd.prog 51 #[.pointer (some ⟨rb, 0, none⟩), .agg #[.string ⟨nm.toArray⟩, .int .u16 (num s q 2), .int .u16 (num s (q + 2) 2), .int .u32 (num s (q + 4) 4), .string (s.extract (q + 10) (q + 10 + num s (q + 8) 2))], .bool add] wb (OpPost rb bc s (q + 10 + num s (q + 8) 2) h vq va vu vx (optF add d (rawR s nm q)) wb) from option_any wb rb bc (q + 10 + num s (q + 8) 2) s h vq va vu vx d vo (rawR s nm q) add (EK.out _ Xb.out.t) Xb.out.b (num_lt s (q + 4) 4) (by show (s.extract _ _).size ≤ 100000; rw [ByteArray.size_extract]; omega)) ?_
        rintro e wc hc
        unfold OpPost at hc
        obtain ⟨hg, hc⟩ := hc
        have T1 := Lib.hid (Xb.out.t.trans (TG.ofM (b := bc) hg) (fun _ e => .inl e))
        have O1 := Lib.hid (own_kept Xb.out.own hg LR.out)
        have HO1 := rd1_opt (add := add) (d := d) HF.out HIN.out HK1.out
        clear hg Xb
        cases hO : optF add d (rawR s nm q) with
        | error x =>
          rw [hO] at hc HO1
          subst hc
          have HR := Lib.hid (S.out.no HO1)
          clear hO HO1
          go_wp2_with fail
          exact ⟨rfl, RqPost.no HR.out T1.out rfl⟩
        | ok d' =>
          rw [hO] at hc HO1
          obtain ⟨rfl, vo', hb'⟩ := hc
          have S' := Lib.hid (S.out.opt HO1)
          have B' := Lib.hid hb'
          clear hO HO1 hb'
          go_wp2_with fail
          go_roundw
          case rel => exact ⟨i + 1, _, l, d', A, cap, vo', by go_num, by omega, rfl, by have := LI.out; omega, O1.out, B'.out, T1.out, by rw [show n - (i + 1) = k from by have := HK.out; omega]; exact S'.out⟩
          case measure => simp [intOf]; omega
      · have k1 : ((num s q 2 : Int) == 41) = false := by simp; omega
        have HK1 := Lib.hid hk
        clear hk
        obtain ⟨⟨dat, x⟩, hD⟩ : ∃ r, rdD s (q + 10 : Nat) (num s (q + 8) 2 : Nat) (num s q 2) = r := ⟨_, rfl⟩
        have HO1 := Lib.hid (rd1_rec (add := add) (d := d) HF.out HIN.out HK1.out hD)
        have RA := Lib.hid (fun (w' : World) (he : Et w') => show Calls Tryd.prog 52 #[.string s, .int .i64 ((q : Int) + 10), .int .i64 (num s (q + 8) 2), .int .u16 (num s q 2)] w' (fun e w'' => e = .returned (.tuple #[.string dat, .int .i64 x]) ∧ w'.grownBy w'' none) from by
          have h := rdata_any s ((q + 10 : Nat) : Int) (num s (q + 8) 2 : Nat) (num s q 2) w' he (by omega) (Lib.hid (by omega))
          rw [hD] at h
          rwa [show ((q + 10 : Nat) : Int) = (q : Int) + 10 from by simp] at h)
        clear hD
        have lrb := LR.out
        have lxb := Xa.out.lx
        go_wp2_with fail
        clear c1
        have d0 : ∀ g : GrR (KC fun a => a = ⟨rb, 0, none⟩ ∨ a = ⟨xb, 1, none⟩) wa.drew, g.w.cell? ⟨rb, 0, none⟩ = some (.string s) := fun g => g.h _ _ (.inl rfl) Xa.out.rdr.c0
        have d1 : ∀ g : GrR (KC fun a => a = ⟨rb, 0, none⟩ ∨ a = ⟨xb, 1, none⟩) wa.drew, g.w.cell? ⟨xb, 1, none⟩ = some (.int .u16 (num s q 2)) := fun g => g.h _ _ (.inr rfl) (bcellAt Xa.out.x 1)
        refine wp_region_segsR (KC.rt fun a => a = ⟨rb, 0, none⟩ ∨ a = ⟨xb, 1, none⟩) [(true, [0, 1, 2, 3, 4, 5, 6, 7]), (false, [8]), (true, [9, 10, 11, 12]), (false, [13]), (true, [14])] (by kernel_rfl) (by kernel_rfl) ?_
        refine wpSegsR_quiet rfl ?_
        simp only [List.filterMap_cons, List.filterMap_nil, List.getElem?_toArray, List.getElem?_cons_succ, List.getElem?_cons_zero]
        show wpQuiet _ _ _ _ [_, _, _, _, _, _, _, _] _
        repeat (go_big_quiet_step (fail))
        refine wpQuiet_nil ?_
        have Xb := Lib.hid (Xa.out.kept (gdrew (grefl wa none)))
        clear d0 d1 Xa
        generalize wa.drew = wb at *
        refine wpSegsR_one (by simp only [List.getElem?_toArray, List.getElem?_cons_succ, List.getElem?_cons_zero]; exact rfl) ?_
        go_wp2_with fail
        refine Calls.mono (RA.out wb (EK.out _ Xb.out.t)) ?_
        rintro e wc ⟨rfl, hg⟩
        have Xc := Lib.hid (Xb.out.kept hg)
        have KG := Lib.hid (KC.of (p := fun a => a = ⟨rb, 0, none⟩ ∨ a = ⟨xb, 1, none⟩) hg)
        clear hg Xb RA
        go_wp2_with fail
        refine ⟨KG.out, ?_⟩
        clear KG
        refine wpSegsR_quiet rfl ?_
        simp only [List.filterMap_cons, List.filterMap_nil, List.getElem?_toArray, List.getElem?_cons_succ, List.getElem?_cons_zero]
        show wpQuiet _ _ _ _ [_, _, _, _] _
        repeat (go_big_quiet_step (fail))
        refine wpQuiet_nil ?_
        have c4 : wc.cell? ⟨xb, 4, none⟩ = some (.string ⟨#[]⟩) := bcellAt Xc.out.x 4
        have f4 : wc.frozen? ⟨xb, 4, none⟩ = false := bfree Xc.out.x 4
        refine wpSegsR_one (by simp only [List.getElem?_toArray, List.getElem?_cons_succ, List.getElem?_cons_zero]; exact rfl) ?_
        go_wp2_with fail
        have Xd := Lib.hid (show Rx w rb bc s h vq va vu vx A cap l (q + 10 + num s (q + 8) 2) d vo xb #[.string ⟨nm.toArray⟩, .int .u16 (num s q 2), .int .u16 (num s (q + 2) 2), .int .u32 (num s (q + 4) 4), .string dat] (wc.setCell ⟨xb, 4, none⟩ (.string dat)) from Xc.out.set 4 (.string dat))
        refine ⟨KC.set (by simp), ?_⟩
        clear c4 f4 Xc
        generalize wc.setCell ⟨xb, 4, none⟩ (.string dat) = wd at *
        refine wpSegsR_quiet rfl ?_
        simp only [List.filterMap_cons, List.filterMap_nil, List.getElem?_toArray, List.getElem?_cons_succ, List.getElem?_cons_zero]
        show wpQuiet _ _ _ _ [_] _
        repeat (go_big_quiet_step (fail))
        refine wpQuiet_nil ?_
        refine wpSegsR_done ?_
        by_cases hx : x = 0
        case neg =>
          have HR := Lib.hid (S.out.no (HO1.out.trans (if_neg hx)))
          have HX := Lib.hid hx
          clear hx
          go_wp2_with fail
          refine Calls.mono (must_no x (by have := HX.out; omega) wd) ?_
          rintro e we ⟨rfl, rfl⟩
          go_wp2_with fail
          exact ⟨rfl, RqPost.no HR.out Xd.out.t rfl⟩
        have S' := Lib.hid (S.out.put (HO1.out.trans (if_pos hx)))
        subst hx
        clear HO1
        go_wp2_with fail
        refine Calls.mono (must_ok wd) ?_
        rintro e we ⟨rfl, rfl⟩
        have x0 : wd.cell? ⟨xb, 0, none⟩ = some (.string ⟨nm.toArray⟩) := bcellAt Xd.out.x 0
        have x1 : wd.cell? ⟨xb, 1, none⟩ = some (.int .u16 (num s q 2)) := bcellAt Xd.out.x 1
        have x2 : wd.cell? ⟨xb, 2, none⟩ = some (.int .u16 (num s (q + 2) 2)) := bcellAt Xd.out.x 2
        have x3 : wd.cell? ⟨xb, 3, none⟩ = some (.int .u32 (num s (q + 4) 4)) := bcellAt Xd.out.x 3
        have x4 : wd.cell? ⟨xb, 4, none⟩ = some (.string dat) := bcellAt Xd.out.x 4
        have hfew := LI.out
        go_wp2_with (at_builtin; refine wpList_append_own _ rfl (.tmp 81) (.tmp 83) 32 rfl w.heap.size 47 i0 _ 5 40 Tryd.underlying32 hi hz0 hz1 hz2 rfl (by omega) (.slice A l.length cap) l.length (rsV l) rfl (own_kept0 Xd.out.own (galloc (grefl _ none) _)) ⟨wd.heap.size, 0, none⟩ 1 1 [.string ⟨nm.toArray⟩, .int .u16 (num s q 2), .int .u16 (num s (q + 2) 2), .int .u32 (num s (q + 4) 4), .string dat] rfl rfl ?c1 ?c2 ?c3 ?c4 ?c5 ?_)
        case c1 => exact new_row wd _ _
        case c2 => intro u hu; simp at hu; rcases hu with rfl | rfl | rfl | rfl | rfl <;> rfl
        case c3 => unfold maxLen; omega
        case c4 => omega
        case c5 => have := Xd.out.t.size; simp; omega
        intro v' we hown6 hg6 _
        have OW := Lib.hid (show we.ownsRow w.heap.size 47 5 v' (l ++ [{ rawR s nm q with data := dat }]).length (rsV (l ++ [{ rawR s nm q with data := dat }])) from by
          rw [List.length_append, rsV_append]
          exact hown6)
        obtain ⟨A', cap', rfl, _, _⟩ := own_shape hown6
        have TB := Xd.out.kept (galloc (grefl wd none) (.cells #[.string ⟨nm.toArray⟩, .int .u16 (num s q 2), .int .u16 (num s (q + 2) 2), .int .u32 (num s (q + 4) 4), .string dat] 47))
        have BE := Lib.hid (TB.b.app TB.own (by decide) hg6 LR.out LB.out)
        have TE := Lib.hid (TB.t.app TB.own hg6 (Nat.le_refl _))
        clear TB hown6 hg6 Xd x0 x1 x2 x3 x4
        go_wp2_with fail
        go_roundw
        case rel => exact ⟨i + 1, _, l ++ [{ rawR s nm q with data := dat }], d, A', cap', vo, by go_num, by omega, by rw [List.length_append]; rfl, by rw [List.length_append]; have := LI.out; simp; omega, by have := OW.out; rw [List.length_append] at this ⊢; exact this, BE.out, TE.out, by rw [show n - (i + 1) = k from by have := HK.out; omega]; exact S'.out⟩
        case measure => simp [intOf]; omega
    · have k0 : decide ((i : Int) < (n : Int)) = false := by simp; omega
      rw [show n - i = 0 from by omega] at hso
      have HR := Lib.hid hso.done
      clear ho hb ht hso hcp SO HB
      go_wp2_with fail
      go_ret
      exact RqPost.yes HR.out T.out rfl (FS.of O.out) B.out
end Go.Proofs.YthgendgmlpaglaaDoor
