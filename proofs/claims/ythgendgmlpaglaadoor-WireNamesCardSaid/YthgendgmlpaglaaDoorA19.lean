/-
  Wire: reading a message, plain; in the middle of a question.
  Wire: what is read is within bounds.
-/
import Derived.Test.YthgendgmlpaglaaDoorWiQ
import Derived.Test.YthgendgmlpaglaaDoorA7
namespace Go.Proofs.YthgendgmlpaglaaDoor
open Go.RowKit

def rdQ1 (s : ByteArray) (p : Nat) : Except Nat (Qn × Nat) :=
  match rdF s p p none [] with
  | .no e => .error e
  | .ok n q => if q + 4 ≤ s.size then .ok (⟨⟨n.toArray⟩, num s q 2, num s (q + 2) 2⟩, q + 4) else .error 4
theorem rdQ1_name {s : ByteArray} {p e : Nat} (h : rdF s p p none [] = .no e) : rdQ1 s p = .error e := by unfold rdQ1; rw [h]
theorem rdQ1_short {s : ByteArray} {p q : Nat} {n : List UInt8} (h : rdF s p p none [] = .ok n q) (hs : ¬ q + 4 ≤ s.size) : rdQ1 s p = .error 4 := by unfold rdQ1; rw [h]; exact if_neg hs
theorem rdQ1_ok {s : ByteArray} {p q : Nat} {n : List UInt8} (h : rdF s p p none [] = .ok n q) (hs : q + 4 ≤ s.size) : rdQ1 s p = .ok (⟨⟨n.toArray⟩, num s q 2, num s (q + 2) 2⟩, q + 4) := by unfold rdQ1; rw [h]; exact if_pos hs
/-- Questions read. -/
inductive Qq where
  | no (e : Nat)
  | ok (l : List Qn) (q : Nat)
def Qq.pre (l : List Qn) : Qq → Qq
  | .no e => .no e
  | .ok l' q => .ok (l ++ l') q
def rdQs (s : ByteArray) : Nat → Nat → Qq
  | 0, p => .ok [] p
  | k + 1, p => match rdQ1 s p with
    | .error e => .no e
    | .ok (x, q) => (rdQs s k q).pre [x]
theorem Qq.pre_pre (a b : List Qn) (r : Qq) : (r.pre b).pre a = r.pre (a ++ b) := by cases r <;> simp [Qq.pre]
theorem Qq.pre_nil (r : Qq) : r.pre [] = r := by cases r <;> simp [Qq.pre]
def QsSo (s : ByteArray) (R : Qq) (k : Nat) (l : List Qn) (p : Nat) : Prop := R = (rdQs s k p).pre l
theorem QsSo.no {s : ByteArray} {R : Qq} {k p e : Nat} {l : List Qn} (h : QsSo s R (k + 1) l p) (h1 : rdQ1 s p = .error e) : R = .no e := by
  unfold QsSo at h; rw [h, rdQs, h1]; rfl
theorem QsSo.put {s : ByteArray} {R : Qq} {k p q : Nat} {l : List Qn} {x : Qn} (h : QsSo s R (k + 1) l p) (h1 : rdQ1 s p = .ok (x, q)) : QsSo s R k (l ++ [x]) q := by
  unfold QsSo at h ⊢; rw [h, rdQs, h1]; exact Qq.pre_pre _ _ _
theorem QsSo.done {s : ByteArray} {R : Qq} {p : Nat} {l : List Qn} (h : QsSo s R 0 l p) : R = .ok l p := by
  unfold QsSo at h; rw [h, rdQs, Qq.pre, List.append_nil]
def ed0 : Ed := ⟨false, 0, 0, 0, 0, []⟩
def msOf (H : Hd) (qs : List Qn) (an au ex : List Rc) (d : Ed) : Ms := ⟨H, qs, an, au, ex, d.has, d.sz, d.e, d.v, d.f, d.ops⟩
/-- The end: nothing may be left over, and the message must be writable. -/
def rdEnd (s : ByteArray) (p : Nat) (m : Ms) : Except Nat Ms := if p < s.size then .error 5 else if m.wE = 0 then .ok m else .error m.wE
def rdX (s : ByteArray) (H : Hd) (n3 : Nat) (qs : List Qn) (an au : List Rc) (p : Nat) (d : Ed) : Except Nat Ms :=
  match rdRs s true n3 p d with
  | .no e => .error e
  | .ok ex q d' => rdEnd s q (msOf H qs an au ex d')
def rdU (s : ByteArray) (H : Hd) (n2 n3 : Nat) (qs : List Qn) (an : List Rc) (p : Nat) (d : Ed) : Except Nat Ms :=
  match rdRs s false n2 p d with
  | .no e => .error e
  | .ok au q d' => rdX s H n3 qs an au q d'
def rdA (s : ByteArray) (H : Hd) (n1 n2 n3 : Nat) (qs : List Qn) (p : Nat) : Except Nat Ms :=
  match rdRs s false n1 p ed0 with
  | .no e => .error e
  | .ok an q d' => rdU s H n2 n3 qs an q d'
def rdG (s : ByteArray) (H : Hd) (n1 n2 n3 : Nat) : Qq → Except Nat Ms
  | .no e => .error e
  | .ok qs p => rdA s H n1 n2 n3 qs p
def rdM (s : ByteArray) : Except Nat Ms :=
  if 65535 < s.size then .error 5
  else if s.size < 12 then .error 4
  else rdG s (fromN (num s 0 2) (num s 2 2)) (num s 6 2) (num s 8 2) (num s 10 2) (rdQs s (num s 4 2) 12)
/-- A message's slices are new memory from a block on. -/
structure MsF (w : World) (base : Nat) (m : Ms) (vq va vu vx vo : Value) : Prop where
  q : FS w base 42 3 vq m.qs.length (qsV m.qs)
  a : FS w base 47 5 va m.an.length (rsV m.an)
  u : FS w base 47 5 vu m.au.length (rsV m.au)
  x : FS w base 47 5 vx m.ex.length (rsV m.ex)
  o : FS w base 57 2 vo m.ops.length (ov m.ops)
theorem MsF.v {w : World} {base : Nat} {m : Ms} {vq va vu vx vo : Value} (h : MsF w base m vq va vu vx vo) : MsV w m vq va vu vx vo := ⟨h.q.sl, h.a.sl, h.u.sl, h.x.sl, h.o.sl⟩
theorem MsF.kept {w w' : World} {base : Nat} {m : Ms} {vq va vu vx vo : Value} (h : MsF w base m vq va vu vx vo) (g : w.grownBy w' none) : MsF w' base m vq va vu vx vo := ⟨h.q.kept0 g, h.a.kept0 g, h.u.kept0 g, h.x.kept0 g, h.o.kept0 g⟩
theorem MsF.keptb {w w' : World} {base b : Nat} {m : Ms} {vq va vu vx vo : Value} (h : MsF w base m vq va vu vx vo) (g : w.grownBy w' (some b)) (hb : b < base) : MsF w' base m vq va vu vx vo := ⟨h.q.keptb g hb, h.a.keptb g hb, h.u.keptb g hb, h.x.keptb g hb, h.o.keptb g hb⟩
theorem MsF.mono {w : World} {base base' : Nat} {m : Ms} {vq va vu vx vo : Value} (h : MsF w base m vq va vu vx vo) (hb : base' ≤ base) : MsF w base' m vq va vu vx vo := ⟨h.q.mono hb, h.a.mono hb, h.u.mono hb, h.x.mono hb, h.o.mono hb⟩
/-- What read leaves. -/
def RmPost (r : Except Nat Ms) (w : World) (e : Ending) (w' : World) : Prop :=
  w.grownBy w' none ∧ match r with
    | .ok m => ∃ vq va vu vx vo, e = .returned (m.val vq va vu vx vo) ∧ MsF w' w.heap.size m vq va vu vx vo
    | .error x => e = .panicked [{ v := fault x, recovered := false }]
theorem RmPost.no {r : Except Nat Ms} {w w' : World} {e : Ending} {x : Nat} (hr : r = .error x) (g : w.grownBy w' none) (he : e = .panicked [{ v := fault x, recovered := false }]) : RmPost r w e w' := by
  subst hr
  exact ⟨g, he⟩
theorem RmPost.yes {r : Except Nat Ms} {w w' : World} {e : Ending} {m : Ms} {vq va vu vx vo : Value} (hr : r = .ok m) (g : w.grownBy w' none) (he : e = .returned (m.val vq va vu vx vo)) (h : MsF w' w.heap.size m vq va vu vx vo) : RmPost r w e w' := by
  subst hr
  exact ⟨g, vq, va, vu, vx, vo, he, h⟩
theorem wp_cut {P : Program} {c : Code} {K : Act → World → Prop} {Q : Exit → Act → World → Prop} {a : Act} {w : World} (I : Act → World → Prop) (h1 : c.wp P (Exit.then I (fun _ _ _ => False)) a w) (h2 : ∀ a w, I a w → K a w) : c.wp P (Exit.then K Q) a w :=
  Code.wp_mono (fun e a w h => by
    cases e with
    | normal => exact h2 _ _ h
    | ret => exact (show False from h).elim
    | panic c => exact (show False from h).elim
    | outgrown => exact (show False from h).elim
    | exit i => exact (show False from h).elim
    | goto l => exact (show False from h).elim) h1

/-- In the middle of a question. -/
structure Qx (w0 : World) (rb bc : Nat) (s : ByteArray) (h : Hd) (va vu vx : Value) (A : Option Addr) (cap : Nat) (l : List Qn) (p : Nat) (d : Ed) (vo : Value) (xb : Nat) (xs : Array Value) (w : World) : Prop where
  own : w.ownsRow w0.heap.size 42 3 (.slice A l.length cap) l.length (qsV l)
  b : Rb w rb bc s p h (.slice A l.length cap) va vu vx d vo
  t : TG w0 w bc (some rb)
  x : w.heap[xb]? = some (.cells xs 42 (0, 0))
  ne : Value.ownBlock (.slice A l.length cap) ≠ some xb
  vn : vo.ownBlock ≠ some xb
  lx : w0.heap.size ≤ xb
  lr : rb < w0.heap.size
  lb : bc < w0.heap.size
section
variable {w0 w w' : World} {rb bc p q xb cap : Nat} {s : ByteArray} {h : Hd} {vq va vu vx vo : Value} {A : Option Addr} {l : List Qn} {d : Ed} {xs : Array Value}
theorem Qx.step (r : Qx w0 rb bc s h va vu vx A cap l p d vo xb xs w) (g : w.grownBy w' (some bc)) (k : Rdr w' rb bc s q) : Qx w0 rb bc s h va vu vx A cap l q d vo xb xs w' := by
  have h1 := r.lr
  have h2 := r.lx
  have h4 := r.lb
  exact ⟨own_kept r.own g (by omega), r.b.step g k, r.t.trans (TG.ofB g (some rb)) (fun _ e => .inl e), gblock g r.x (by simp; omega), r.ne, r.vn, r.lx, r.lr, r.lb⟩
theorem Qx.kept (r : Qx w0 rb bc s h va vu vx A cap l p d vo xb xs w) (g : w.grownBy w' none) : Qx w0 rb bc s h va vu vx A cap l p d vo xb xs w' :=
  ⟨own_kept0 r.own g, r.b.kept g, r.t.trans (TG.of0 g _ (some rb)) (fun _ e => .inl e), gblock g r.x (by simp), r.ne, r.vn, r.lx, r.lr, r.lb⟩
theorem Qx.set (r : Qx w0 rb bc s h va vu vx A cap l p d vo xb xs w) (i : Nat) (v : Value) : Qx w0 rb bc s h va vu vx A cap l p d vo xb (xs.setIfInBounds i v) (w.setCell ⟨xb, i, none⟩ v) := by
  have g : w.grownBy (w.setCell ⟨xb, i, none⟩ v) (some xb) := gset (grefl w _) (p := ⟨xb, i, none⟩) (.inl rfl) _
  have h1 := r.lr
  have h0 := r.lb
  have h2 := r.lx
  have h3 := r.t.size
  exact ⟨World.ownsRow.kept r.own g (.inr r.ne), r.b.other g (by omega) (by omega) r.vn, ⟨g.os.trans r.t.os, g.tape.trans r.t.tape, g.output.trans r.t.output, Nat.le_trans r.t.size g.size, fun j hj hb hm => (g.block j (by omega) (by simp; omega)).trans (r.t.block j hj hb hm)⟩, bset r.x i v, r.ne, r.vn, r.lx, r.lr, r.lb⟩
theorem Qx.rdr (r : Qx w0 rb bc s h va vu vx A cap l p d vo xb xs w) : Rdr w rb bc s p := r.b.rdr
theorem Qx.start (o : w.ownsRow w0.heap.size 42 3 (.slice A l.length cap) l.length (qsV l)) (b : Rb w rb bc s p h (.slice A l.length cap) va vu vx d vo) (t : TG w0 w bc (some rb)) (lr : rb < w0.heap.size) (lb : bc < w0.heap.size) (n : ByteArray) :
    Qx w0 rb bc s h va vu vx A cap l p d vo w.heap.size #[.string n, .int .u16 0, .int .u16 0] (w.alloc (.cells #[.string n, .int .u16 0, .int .u16 0] 42)) := by
  have g := galloc (grefl w none) (.cells #[.string n, .int .u16 0, .int .u16 0] 42)
  exact ⟨own_kept0 o g, b.kept g, t.trans (TG.of0 g _ (some rb)) (fun _ e => .inl e), balloc w _, fun e => by have := (World.ownsRow.lt o _ e).2; omega, fun e => by have := b.ops.lt _ e; omega, t.size, lr, lb⟩
theorem qsV_append (a b : List Qn) : qsV (a ++ b) = qsV a ++ qsV b := by unfold qsV; rw [List.flatMap_append]
set_option maxRecDepth 100000 in
set_option maxHeartbeats 1000000 in
/-- A slice of the message is set. -/
theorem Rb.set13 (r : Rb w rb bc s p h vq va vu vx d vo) (v : Value) (hv : vo.ownBlock ≠ some rb) : Rb (w.setCell ⟨rb, 13, none⟩ v) rb bc s p h v va vu vx d vo := by
  have g : w.grownBy (w.setCell ⟨rb, 13, none⟩ v) (some rb) := gset (grefl w _) (p := ⟨rb, 13, none⟩) (.inl rfl) _
  have b := r.blk
  unfold rcs at b
  have b1 := bset b 13 v
  simp only [List.setIfInBounds_toArray, List.set_cons_succ, List.set_cons_zero] at b1
  exact ⟨by unfold rcs; exact b1, gblock g r.cur (by have := r.ne; simp; omega), r.le, r.ne, r.ops.kept g (.inr hv)⟩
theorem Rb.vo_ne (r : Rb w rb bc s p h vq va vu vx d vo) : vo.ownBlock ≠ some rb := by
  rcases r.ops.2 with ⟨rfl, _⟩ | ⟨g', cap, cur, rfl, h4, _⟩
  · simp [Value.ownBlock]
  · simp only [Value.ownBlock, ne_eq, Option.some.injEq]; omega
set_option maxRecDepth 100000 in
set_option maxHeartbeats 1000000 in
theorem Rb.set14 (r : Rb w rb bc s p h vq va vu vx d vo) (v : Value) : Rb (w.setCell ⟨rb, 14, none⟩ v) rb bc s p h vq v vu vx d vo := by
  have g : w.grownBy (w.setCell ⟨rb, 14, none⟩ v) (some rb) := gset (grefl w _) (p := ⟨rb, 14, none⟩) (.inl rfl) _
  have b := r.blk
  unfold rcs at b
  have b1 := bset b 14 v
  simp only [List.setIfInBounds_toArray, List.set_cons_succ, List.set_cons_zero] at b1
  exact ⟨by unfold rcs; exact b1, gblock g r.cur (by have := r.ne; simp; omega), r.le, r.ne, r.ops.kept g (.inr r.vo_ne)⟩
set_option maxRecDepth 100000 in
set_option maxHeartbeats 1000000 in
theorem Rb.set15 (r : Rb w rb bc s p h vq va vu vx d vo) (v : Value) : Rb (w.setCell ⟨rb, 15, none⟩ v) rb bc s p h vq va v vx d vo := by
  have g : w.grownBy (w.setCell ⟨rb, 15, none⟩ v) (some rb) := gset (grefl w _) (p := ⟨rb, 15, none⟩) (.inl rfl) _
  have b := r.blk
  unfold rcs at b
  have b1 := bset b 15 v
  simp only [List.setIfInBounds_toArray, List.set_cons_succ, List.set_cons_zero] at b1
  exact ⟨by unfold rcs; exact b1, gblock g r.cur (by have := r.ne; simp; omega), r.le, r.ne, r.ops.kept g (.inr r.vo_ne)⟩
set_option maxRecDepth 100000 in
set_option maxHeartbeats 1000000 in
theorem Rb.set16 (r : Rb w rb bc s p h vq va vu vx d vo) (v : Value) : Rb (w.setCell ⟨rb, 16, none⟩ v) rb bc s p h vq va vu v d vo := by
  have g : w.grownBy (w.setCell ⟨rb, 16, none⟩ v) (some rb) := gset (grefl w _) (p := ⟨rb, 16, none⟩) (.inl rfl) _
  have b := r.blk
  unfold rcs at b
  have b1 := bset b 16 v
  simp only [List.setIfInBounds_toArray, List.set_cons_succ, List.set_cons_zero] at b1
  exact ⟨by unfold rcs; exact b1, gblock g r.cur (by have := r.ne; simp; omega), r.le, r.ne, r.ops.kept g (.inr r.vo_ne)⟩
end
end Go.Proofs.YthgendgmlpaglaaDoor
namespace Go.Proofs.YthgendgmlpaglaaDoor
open Go.RowKit

theorem tx_app (a b : List Pc) : tx (a ++ b) = tx a ++ tx b := by unfold tx; rw [List.flatMap_append]
theorem ck_len {c : Ck} {s : ByteArray} {p : Nat} {x : Pc} (hs : s.size ≤ 65535) (h : ckF c s p = .ok x) : x.text.size ≤ 65535 := by
  cases c with
  | num n =>
    unfold ckF at h
    simp only at h
    split at h
    · cases h
    · cases h; show (s.extract _ _).size ≤ _; rw [ext_size]; omega
  | nam =>
    unfold ckF at h
    simp only at h
    cases hr : rdF s p p none [] with
    | ok m q => rw [hr] at h; cases h; exact Nat.le_trans (may_size (rd_le hr).2.2).1 (by decide)
    | no e => rw [hr] at h; cases h
  | txt =>
    unfold ckF at h
    simp only at h
    split at h
    · cases h; show (s.extract _ _).size ≤ _; rw [ext_size]; omega
    · cases h
  | rst => cases h; show (s.extract _ _).size ≤ _; rw [ext_size]; omega
theorem run_lenW {s : ByteArray} (hs : s.size ≤ 65535) : ∀ (cs : List Ck) (p : Nat) (out l : List Pc) (q : Nat), runF cs s p out = .ok l q → (tx l).length ≤ (tx out).length + cs.length * 65535 := by
  intro cs
  induction cs with
  | nil => intro p out l q h; cases h; omega
  | cons c cs ih =>
    intro p out l q h
    unfold runF at h
    cases hc : ckF c s p with
    | no e => rw [hc] at h; cases h
    | ok x =>
      rw [hc] at h
      have h1 := ih _ _ _ _ h
      have h2 := ck_len hs hc
      rw [tx_app, List.length_append] at h1
      have h3 : (tx [x]).length = x.text.size := by unfold tx; simp
      rw [h3] at h1
      simp only [List.length_cons]
      omega
theorem rdD_len {s : ByteArray} (hs : s.size ≤ 65535) (a n : Int) (k : Nat) : (rdD s a n k).1.size ≤ 1000000 := by
  unfold rdD
  split
  · show ByteArray.size ⟨#[]⟩ ≤ _; exact Nat.zero_le _
  · cases hsp : splF (s.extract 0 (a + n).toNat) a.toNat k with
    | no e => show ByteArray.size ⟨#[]⟩ ≤ _; exact Nat.zero_le _
    | ok l =>
      show ByteArray.size ⟨(tx l).toArray⟩ ≤ _
      unfold splF at hsp
      split at hsp
      · cases hsp
      · cases hr : runF (cks k) (s.extract 0 (a + n).toNat) a.toNat [] with
        | no e => rw [hr] at hsp; cases hsp
        | ok l' q =>
          rw [hr] at hsp
          simp only at hsp
          split at hsp
          · cases hsp
          · cases hsp
            have h1 := run_lenW (by rw [ext_size]; omega) _ _ _ _ _ hr
            have h2 := cks_len k
            have h3 : (tx []).length = 0 := rfl
            show (tx l).toArray.size ≤ _
            rw [List.size_toArray]
            have h4 : (cks k).length * 65535 ≤ 3 * 65535 := Nat.mul_le_mul_right _ h2
            omega
structure Ed.rng (d : Ed) : Prop where
  ol : d.ops.length ≤ 1000000
  sz : d.sz < 65536
  e : d.e < 256
  v : d.v < 256
  f : d.f < 65536
  o : ∀ o ∈ d.ops, o.1 < 65536
theorem opsAt_rng {s : ByteArray} : ∀ k p l, s.size - p = k → opsAt s p = some l → l.length * 4 ≤ s.size - p ∧ ∀ o ∈ l, o.1 < 65536 := by
  intro k
  induction k using Nat.strongRecOn with
  | _ k ih =>
    intro p l hk h
    by_cases h0 : s.size ≤ p
    · rw [opsAt_end h0] at h
      cases h
      exact ⟨by simp, by simp⟩
    · by_cases h1 : p + 4 ≤ s.size ∧ p + 4 + num s (p + 2) 2 ≤ s.size
      · rw [opsAt_step h1.1 h1.2] at h
        cases hr : opsAt s (p + 4 + num s (p + 2) 2) with
        | none => rw [hr] at h; cases h
        | some l' =>
          rw [hr] at h
          simp only [Option.map_some, Option.some.injEq] at h
          subst h
          obtain ⟨h1, h2⟩ := ih (s.size - (p + 4 + num s (p + 2) 2)) (by omega) _ l' rfl hr
          refine ⟨by simp only [List.length_cons]; omega, fun o ho => ?_⟩
          rcases List.mem_cons.1 ho with rfl | ho
          · exact num_lt s p 2
          · exact h2 o ho
      · rw [opsAt_no (by omega) (by omega)] at h
        cases h
theorem opt_rng {add : Bool} {d d' : Ed} {r : Rc} (hc : r.cls < 65536) (ht : r.ttl < 4294967296) (hd : r.data.size ≤ 65535) (h : optF add d r = .ok d') : d'.rng := by
  unfold optF at h
  split at h
  · cases ho : opsAt r.data 0 with
    | none => rw [ho] at h; cases h
    | some l =>
      rw [ho] at h
      cases h
      obtain ⟨h1, h2⟩ := opsAt_rng _ 0 l rfl ho
      exact ⟨by show l.length ≤ _; omega, hc, by show r.ttl / 16777216 < _; omega, by show r.ttl / 65536 % 256 < _; omega, by show r.ttl % 65536 < _; omega, h2⟩
  · cases h
theorem rawR_data {s : ByteArray} {n : List UInt8} {q : Nat} (hs : s.size ≤ 65535) : (rawR s n q).data.size ≤ 65535 := by
  show (s.extract _ _).size ≤ _
  rw [ext_size]; omega
theorem rd1_rng {s : ByteArray} {add : Bool} {p : Nat} {d : Ed} (hs : s.size ≤ 65535) : (∀ r q, rd1 s add p d = .put r q → r.rng) ∧ (∀ q d', rd1 s add p d = .opt q d' → d'.rng) := by
  unfold rd1
  cases hF : rdF s p p none [] with
  | no e => exact ⟨(fun _ _ h => nomatch h), (fun _ _ h => nomatch h)⟩
  | ok n q0 =>
    dsimp only
    split
    · split
      · cases ho : optF add d (rawR s n q0) with
        | error x => exact ⟨(fun _ _ h => nomatch h), (fun _ _ h => nomatch h)⟩
        | ok d1 =>
          refine ⟨(fun _ _ h => nomatch h), fun q d' h => ?_⟩
          cases h
          exact opt_rng (num_lt s _ 2) (num_lt s _ 4) (rawR_data hs) ho
      · split
        · refine ⟨fun r q h => ?_, (fun _ _ h => nomatch h)⟩
          cases h
          exact ⟨num_lt s _ 2, num_lt s _ 2, num_lt s _ 4, rdD_len hs _ _ _⟩
        · exact ⟨(fun _ _ h => nomatch h), (fun _ _ h => nomatch h)⟩
    · exact ⟨(fun _ _ h => nomatch h), (fun _ _ h => nomatch h)⟩
theorem rdRs_rng {s : ByteArray} {add : Bool} (hs : s.size ≤ 65535) : ∀ (k p : Nat) (d : Ed) (l : List Rc) (q : Nat) (d' : Ed), d.rng → rdRs s add k p d = .ok l q d' → d'.rng ∧ l.length ≤ k ∧ ∀ r ∈ l, r.rng := by
  intro k
  induction k with
  | zero => intro p d l q d' hd h; cases h; exact ⟨hd, by simp, by simp⟩
  | succ k ih =>
    intro p d l q d' hd h
    have hr := rd1_rng (add := add) (p := p) (d := d) hs
    cases h1 : rd1 s add p d with
    | no e => rw [rdRs_no h1] at h; cases h
    | opt q1 d1 =>
      rw [rdRs_opt h1] at h
      obtain ⟨a, b, c⟩ := ih _ _ _ _ _ (hr.2 _ _ h1) h
      exact ⟨a, by omega, c⟩
    | put r q1 =>
      rw [rdRs_rec h1] at h
      cases h2 : rdRs s add k q1 d with
      | no e => rw [h2] at h; cases h
      | ok l2 q2 d2 =>
        rw [h2] at h
        cases h
        obtain ⟨a, b, c⟩ := ih _ _ _ _ _ hd h2
        refine ⟨a, by simp; omega, fun x hx => ?_⟩
        rcases List.mem_append.1 hx with hx | hx
        · rw [List.mem_singleton.1 hx]; exact hr.1 _ _ h1
        · exact c x hx
theorem rdQs_rng {s : ByteArray} : ∀ (k p : Nat) (l : List Qn) (q : Nat), rdQs s k p = .ok l q → ∀ x ∈ l, x.rng := by
  intro k
  induction k with
  | zero => intro p l q h; cases h; simp
  | succ k ih =>
    intro p l q h
    rw [rdQs] at h
    cases h1 : rdQ1 s p with
    | error e => rw [h1] at h; cases h
    | ok xq =>
      obtain ⟨x, q1⟩ := xq
      rw [h1] at h
      dsimp only at h
      cases h2 : rdQs s k q1 with
      | no e => rw [h2] at h; cases h
      | ok l2 q2 =>
        rw [h2] at h
        cases h
        intro y hy
        rcases List.mem_append.1 hy with hy | hy
        · rw [List.mem_singleton.1 hy]
          unfold rdQ1 at h1
          split at h1
          · cases h1
          · split at h1
            · cases h1; exact ⟨num_lt s _ 2, num_lt s _ 2⟩
            · cases h1
        · exact ih _ _ _ h2 y hy
theorem ed0_rng : ed0.rng := ⟨by simp [ed0], by simp [ed0], by simp [ed0], by simp [ed0], by simp [ed0], by simp [ed0]⟩
theorem msOf_rng {s : ByteArray} {H : Hd} {n0 n1 n2 n3 p0 p1 p2 p3 : Nat} {l : List Qn} {an au ex : List Rc} {d0 d1 d2 : Ed} (hid : H.id < 65536) (h3 : n3 ≤ 65535) (hs : s.size ≤ 65535)
    (hq : rdQs s n0 12 = .ok l p0) (ha : rdRs s false n1 p0 ed0 = .ok an p1 d0) (hu : rdRs s false n2 p1 d0 = .ok au p2 d1) (hx : rdRs s true n3 p2 d1 = .ok ex p3 d2) : (msOf H l an au ex d2).rng := by
  obtain ⟨a1, a2, a3⟩ := rdRs_rng hs _ _ _ _ _ _ ed0_rng ha
  obtain ⟨u1, u2, u3⟩ := rdRs_rng hs _ _ _ _ _ _ a1 hu
  obtain ⟨x1, x2, x3⟩ := rdRs_rng hs _ _ _ _ _ _ u1 hx
  exact ⟨hid, rdQs_rng _ _ _ _ hq, a3, u3, x3, by show ex.length ≤ _; omega, x1.ol, x1.sz, x1.e, x1.v, x1.f, x1.o⟩
end Go.Proofs.YthgendgmlpaglaaDoor
