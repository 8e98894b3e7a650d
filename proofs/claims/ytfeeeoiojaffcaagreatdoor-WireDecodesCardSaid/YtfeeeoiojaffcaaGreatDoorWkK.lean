/-
  Wire: the document's Decode, plain: what is kept of a message in the making.
-/
import Derived.Test.YtfeeeoiojaffcaaGreatDoorWkH
import Derived.Test.YtfeeeoiojaffcaaGreatDoorWkI
import Derived.Test.YtfeeeoiojaffcaaGreatDoorWiR
import Derived.Test.YtfeeeoiojaffcaaGreatDoorA20
namespace Go.Proofs.YtfeeeoiojaffcaaGreatDoor
open Go.RowKit

/-- Questions read; then records of each section. -/
def C1 (s : ByteArray) (lq : List Qn) (p : Nat) : Prop := rdQs s (num s 4 2) 12 = .ok lq p
def C2 (s : ByteArray) (lq : List Qn) (an : List Rc) (p : Nat) (d : Ed) : Prop := ∃ p0, C1 s lq p0 ∧ rdRs s false (num s 6 2) p0 ed0 = .ok an p d
def C3 (s : ByteArray) (lq : List Qn) (an au : List Rc) (p : Nat) (d : Ed) : Prop := ∃ p0 d0, C2 s lq an p0 d0 ∧ rdRs s false (num s 8 2) p0 d0 = .ok au p d
def C4 (s : ByteArray) (lq : List Qn) (an au ex : List Rc) (p : Nat) (d : Ed) : Prop := ∃ p0 d0, C3 s lq an au p0 d0 ∧ rdRs s true (num s 10 2) p0 d0 = .ok ex p d
section
variable {s : ByteArray} {lq : List Qn} {an au ex : List Rc} {p e : Nat} {d : Ed}
theorem rdM_long (h : 12 ≤ s.size) (hs : s.size ≤ 65535) : rdM s = rdG s (fromN (num s 0 2) (num s 2 2)) (num s 6 2) (num s 8 2) (num s 10 2) (rdQs s (num s 4 2) 12) := by
  unfold rdM
  rw [if_neg (by omega), if_neg (by omega)]
theorem rdM_short (h : s.size < 12) : rdM s = .error 4 := by
  unfold rdM
  rw [if_neg (by omega), if_pos h]
theorem C1_no (h : 12 ≤ s.size) (hs : s.size ≤ 65535) (k : rdQs s (num s 4 2) 12 = .no e) : rdM s = .error e := by
  rw [rdM_long h hs, k]; rfl
theorem C2_no (h : 12 ≤ s.size) (hs : s.size ≤ 65535) (c : C1 s lq p) (k : rdRs s false (num s 6 2) p ed0 = .no e) : rdM s = .error e := by
  rw [rdM_long h hs, show rdQs s (num s 4 2) 12 = _ from c]
  unfold rdG rdA
  simp only [k]
theorem C3_no (h : 12 ≤ s.size) (hs : s.size ≤ 65535) (c : C2 s lq an p d) (k : rdRs s false (num s 8 2) p d = .no e) : rdM s = .error e := by
  obtain ⟨p0, c1, k1⟩ := c
  rw [rdM_long h hs, show rdQs s (num s 4 2) 12 = _ from c1]
  unfold rdG rdA
  simp only [k1]
  unfold rdU
  simp only [k]
theorem C4_no (h : 12 ≤ s.size) (hs : s.size ≤ 65535) (c : C3 s lq an au p d) (k : rdRs s true (num s 10 2) p d = .no e) : rdM s = .error e := by
  obtain ⟨p1, d1, ⟨p0, c1, k1⟩, k2⟩ := c
  rw [rdM_long h hs, show rdQs s (num s 4 2) 12 = _ from c1]
  unfold rdG rdA
  simp only [k1]
  unfold rdU
  simp only [k2]
  unfold rdX
  simp only [k]
theorem C4_end (h : 12 ≤ s.size) (hs : s.size ≤ 4000) (c : C4 s lq an au ex p d) : rdM s = rdEnd s p (msOf (fromN (num s 0 2) (num s 2 2)) lq an au ex d) ∧ (msOf (fromN (num s 0 2) (num s 2 2)) lq an au ex d).may = true ∧ (msOf (fromN (num s 0 2) (num s 2 2)) lq an au ex d).doc := by
  obtain ⟨p2, d2, ⟨p1, d1, ⟨p0, c1, k1⟩, k2⟩, k3⟩ := c
  refine ⟨?_, ms_read (num_lt s 0 2) (num_lt s 4 2) (num_lt s 6 2) (num_lt s 8 2) (num_lt s 10 2) hs c1 k1 k2 k3⟩
  rw [rdM_long h (by omega), show rdQs s (num s 4 2) 12 = _ from c1]
  unfold rdG rdA
  simp only [k1]
  unfold rdU
  simp only [k2]
  unfold rdX
  simp only [k3]
end
theorem optF_ne {add : Bool} {d : Ed} {r : Rc} {x : Nat} (h : optF add d r = .error x) : x ≠ 0 := by
  unfold optF at h
  split at h
  · split at h
    · cases h
    · cases h; decide
  · cases h; decide
theorem rd1_ne {s : ByteArray} {add : Bool} {p x : Nat} {d : Ed} (h : rd1 s add p d = .no x) : x ≠ 0 := by
  unfold rd1 at h
  cases hr : rdF s p p none [] with
  | no e =>
    rw [hr] at h
    have e1 : e = x := by simpa using h
    exact e1 ▸ rd_no' _ _ _ _ _ hr
  | ok n q =>
    rw [hr] at h
    dsimp only at h
    split at h
    · split at h
      · cases ho : optF add d (rawR s n q) with
        | ok d' => rw [ho] at h; cases h
        | error y =>
          rw [ho] at h
          have e1 : y = x := by simpa using h
          exact e1 ▸ optF_ne ho
      · split at h
        · cases h
        · rename_i hne
          have e1 : (rdD s ((q + 10 : Nat) : Int) ((num s (q + 8) 2 : Nat) : Int) (num s q 2)).2 = x := by simpa using h
          exact e1 ▸ hne
    · have e1 : 4 = x := by simpa using h
      omega
theorem rd1_le {s : ByteArray} {add : Bool} {p : Nat} {d : Ed} : (∀ r q, rd1 s add p d = .put r q → q ≤ s.size) ∧ (∀ q d', rd1 s add p d = .opt q d' → q ≤ s.size) := by
  unfold rd1
  cases hF : rdF s p p none [] with
  | no e => exact ⟨(fun _ _ h => nomatch h), (fun _ _ h => nomatch h)⟩
  | ok n q0 =>
    dsimp only
    split
    · rename_i hc
      split
      · cases ho : optF add d (rawR s n q0) with
        | error x => exact ⟨(fun _ _ h => nomatch h), (fun _ _ h => nomatch h)⟩
        | ok d1 =>
          refine ⟨(fun _ _ h => nomatch h), fun q d' h => ?_⟩
          cases h
          exact hc.2
      · split
        · refine ⟨fun r q h => ?_, (fun _ _ h => nomatch h)⟩
          cases h
          exact hc.2
        · exact ⟨(fun _ _ h => nomatch h), (fun _ _ h => nomatch h)⟩
    · exact ⟨(fun _ _ h => nomatch h), (fun _ _ h => nomatch h)⟩
/-- What a record's reading leaves, in one form. -/
def RkU (r1 : R1) (pb mb : Nat) (h : Hd) (vq va vu vx : Value) (d : Ed) (vo : Value) (w : World) (e : Ending) (w' : World) : Prop :=
  ∃ (r : Rc) (f : Bool) (p' x : Nat) (d' : Ed) (vo' : Value), e = .returned (.tuple #[rcv r, .bool f]) ∧ Pt7 w' pb p' x ∧ w'.heap[mb]? = some (.cells (mrow h vq va vu vx d' vo') 32 (0, 0)) ∧ TG w w' pb (some mb) ∧ ((d' = d ∧ vo' = vo) ∨ FS w' w.heap.size 72 2 vo' d'.ops.length (ov d'.ops)) ∧
    ((x ≠ 0 ∧ r1 = .no x) ∨ (x = 0 ∧ f = false ∧ r1 = .opt p' d') ∨ (x = 0 ∧ f = true ∧ r1 = .put r p' ∧ d' = d))
theorem RkU.of {r1 : R1} {pb mb : Nat} {h : Hd} {vq va vu vx vo : Value} {d : Ed} {w w' : World} {e : Ending} (hn : ∀ x, r1 = .no x → x ≠ 0) (hh : RkPost r1 pb mb h vq va vu vx d vo w e w') : RkU r1 pb mb h vq va vu vx d vo w e w' := by
  unfold RkPost at hh
  obtain ⟨g, hh⟩ := hh
  cases r1 with
  | no x =>
    obtain ⟨r, f, p', d', vo', he, hp, hm, ho⟩ := hh
    exact ⟨r, f, p', x, d', vo', he, hp, hm, g, ho, .inl ⟨hn x rfl, rfl⟩⟩
  | opt q d' =>
    obtain ⟨r, vo', he, hp, hm, hf⟩ := hh
    exact ⟨r, false, q, 0, d', vo', he, hp, hm, g, .inr hf, .inr (.inl ⟨rfl, rfl, rfl⟩)⟩
  | put x q =>
    obtain ⟨he, hp, hm⟩ := hh
    exact ⟨x, true, q, 0, d, vo, he, hp, hm, g, .inl ⟨rfl, rfl⟩, .inr (.inr ⟨rfl, rfl, rfl, rfl⟩)⟩
theorem own_tg {w w' : World} {base k n pb mb : Nat} {e : TypeId} {v : Value} {xs : List Value} (h : w.ownsRow base e k v n xs) (t : TG w w' pb (some mb)) (hp : pb < base) (hm : mb < base) : w'.ownsRow base e k v n xs := by
  obtain ⟨wm, g1, g2⟩ := t.split
  exact own_kept (own_kept h g1 hp) g2 hm
theorem FS.other {w w' : World} {b1 b2 k1 k2 n1 n2 : Nat} {e1 e2 : TypeId} {v1 v2 : Value} {x1 x2 : List Value} (h : FS w b1 e1 k1 v1 n1 x1) (o : w.ownsRow b2 e2 k2 v2 n2 x2) (he : e2 ≠ e1) (g : w.grownBy w' v2.ownBlock) : FS w' b1 e1 k1 v1 n1 x1 := by
  refine h.kept g ?_
  rcases h.2 with ⟨rfl, _⟩ | ⟨g', c', cur, rfl, _, hg, _⟩
  · exact .inl rfl
  · right
    intro ev
    rcases o.2 with ⟨rfl, _⟩ | ⟨g2, c2, cur2, rfl, _, hg2, _⟩
    · cases ev
    · simp only [Value.ownBlock, Option.some.injEq] at ev
      subst ev
      rw [hg] at hg2
      injection hg2 with h3
      injection h3 with _ h4 _
      exact he h4.symm
/-- A message in the making: the slice that grows, the message's block, the part's, the options. -/
structure Sx (wk : World) (B pb mb : Nat) (E : TypeId) (k : Nat) (cells : Array Value) (v : Value) (n : Nat) (xs : List Value) (p e : Nat) (d : Ed) (vo : Value) (w : World) : Prop where
  own : w.ownsRow wk.heap.size E k v n xs
  m : w.heap[mb]? = some (.cells cells 32 (0, 0))
  pt : Pt7 w pb p e
  t : TG wk w pb (some mb)
  o : FS w B 72 2 vo d.ops.length (ov d.ops)
  lp : pb < B
  lm : mb < B
  lb : B ≤ wk.heap.size
  ne : pb ≠ mb
section
variable {wk w w' : World} {B pb mb k n p e : Nat} {E : TypeId} {cells : Array Value} {v : Value} {xs : List Value} {d : Ed} {vo : Value}
theorem Sx.kept (r : Sx wk B pb mb E k cells v n xs p e d vo w) (g : w.grownBy w' none) : Sx wk B pb mb E k cells v n xs p e d vo w' :=
  ⟨own_kept0 r.own g, gblock g r.m (by simp), gblock g r.pt (by simp), r.t.trans (TG.of0 g _ (some mb)) (fun _ e => .inl e), r.o.kept0 g, r.lp, r.lm, r.lb, r.ne⟩
theorem Sx.num (r : Sx wk B pb mb E k cells v n xs p e d vo w) (g : w.grownBy w' (some pb)) {p' e' : Nat} (h : Pt7 w' pb p' e') : Sx wk B pb mb E k cells v n xs p' e' d vo w' := by
  have h1 := r.lp
  have h2 := r.lb
  have h3 := r.ne
  exact ⟨own_kept r.own g (by omega), gblock g r.m (by simp; omega), h, r.t.trans (TG.ofB g (some mb)) (fun _ e => .inl e), r.o.keptb g r.lp, r.lp, r.lm, r.lb, r.ne⟩
/-- A block of one's own, that the message's slices don't know. -/
structure Sx.free (wk : World) (pb mb : Nat) (v vo : Value) (xb : Nat) : Prop where
  v : v.ownBlock ≠ some xb
  vo : vo.ownBlock ≠ some xb
  l : wk.heap.size ≤ xb
  p : xb ≠ pb
  m : xb ≠ mb
theorem Sx.new (r : Sx wk B pb mb E k cells v n xs p e d vo w) : Sx.free wk pb mb v vo w.heap.size :=
  ⟨fun e => by have := (World.ownsRow.lt r.own _ e).2; omega, fun e => by have := r.o.lt _ e; omega, r.t.size, fun e => by have := blt r.pt; omega, fun e => by have := blt r.m; omega⟩
theorem Sx.loc (r : Sx wk B pb mb E k cells v n xs p e d vo w) {xb : Nat} (f : Sx.free wk pb mb v vo xb) (g : w.grownBy w' (some xb)) : Sx wk B pb mb E k cells v n xs p e d vo w' := by
  refine ⟨World.ownsRow.kept r.own g (.inr f.v), gblock g r.m (by simpa using f.m.symm), gblock g r.pt (by simpa using f.p.symm), r.t.trans (TG.ofM g pb) (fun i e => .inr (by cases e; exact f.l)), r.o.kept g (.inr f.vo), r.lp, r.lm, r.lb, r.ne⟩
theorem Sx.app (r : Sx wk B pb mb E k cells v n xs p e d vo w) (hE : E ≠ 72) (g : w.grownBy w' v.ownBlock) {v' : Value} {n' : Nat} {xs' : List Value} (own' : w'.ownsRow wk.heap.size E k v' n' xs') : Sx wk B pb mb E k cells v' n' xs' p e d vo w' := by
  have h0 := r.lp
  have h1 := r.lm
  have h2 := r.lb
  have hl := World.ownsRow.lt r.own
  have n1 : some pb ≠ v.ownBlock := fun e => by have := (hl pb e.symm).1; omega
  have n2 : some mb ≠ v.ownBlock := fun e => by have := (hl mb e.symm).1; omega
  exact ⟨own', gblock g r.m n2, gblock g r.pt n1, r.t.app r.own g (Nat.le_refl _), r.o.other r.own hE g, r.lp, r.lm, r.lb, r.ne⟩
theorem Sx.put (r : Sx wk B pb mb E k cells v n xs p e d vo w) (i : Nat) (u : Value) : Sx wk B pb mb E k (cells.setIfInBounds i u) v n xs p e d vo (w.setCell ⟨mb, i, none⟩ u) := by
  have g : w.grownBy (w.setCell ⟨mb, i, none⟩ u) (some mb) := gset (grefl w _) (p := ⟨mb, i, none⟩) (.inl rfl) _
  have h1 := r.lm
  have h2 := r.lb
  have h3 := r.ne
  exact ⟨own_kept r.own g (by omega), bset r.m i u, gblock g r.pt (by simp; omega), r.t.trans (TG.ofM g pb) (fun _ e => .inl e), r.o.keptb g r.lm, r.lp, r.lm, r.lb, r.ne⟩
theorem Sx.rec_ (r : Sx wk B pb mb E k cells v n xs p e d vo w) (t : TG w w' pb (some mb)) {cells' : Array Value} {p' e' : Nat} {d' : Ed} {vo' : Value} (m : w'.heap[mb]? = some (.cells cells' 32 (0, 0))) (h : Pt7 w' pb p' e') (o : FS w' B 72 2 vo' d'.ops.length (ov d'.ops)) : Sx wk B pb mb E k cells' v n xs p' e' d' vo' w' := by
  have h0 := r.lp
  have h1 := r.lm
  have h2 := r.lb
  exact ⟨own_tg r.own t (by omega) (by omega), m, h, r.t.trans t (fun _ e => .inl e), o, r.lp, r.lm, r.lb, r.ne⟩
end
theorem Sx.rk {wk w w' : World} {B pb mb k n p e p' e' : Nat} {E : TypeId} {cells cells' : Array Value} {v : Value} {xs : List Value} {d d' : Ed} {vo vo' : Value} (r : Sx wk B pb mb E k cells v n xs p e d vo w) (t : TG w w' pb (some mb)) (m : w'.heap[mb]? = some (.cells cells' 32 (0, 0))) (h : Pt7 w' pb p' e') (o : (d' = d ∧ vo' = vo) ∨ FS w' w.heap.size 72 2 vo' d'.ops.length (ov d'.ops)) : Sx wk B pb mb E k cells' v n xs p' e' d' vo' w' := by
  refine r.rec_ t m h ?_
  rcases o with ⟨rfl, rfl⟩ | o
  · exact r.o.keptTG t r.lm r.lp
  · exact o.mono (Nat.le_trans r.lb r.t.size)
theorem mrow_q (h : Hd) (vq va vu vx : Value) (d : Ed) (vo v : Value) : (mrow h vq va vu vx d vo).setIfInBounds 11 v = mrow h v va vu vx d vo := rfl
theorem mrow_a (h : Hd) (vq va vu vx : Value) (d : Ed) (vo v : Value) : (mrow h vq va vu vx d vo).setIfInBounds 12 v = mrow h vq v vu vx d vo := rfl
theorem mrow_u (h : Hd) (vq va vu vx : Value) (d : Ed) (vo v : Value) : (mrow h vq va vu vx d vo).setIfInBounds 13 v = mrow h vq va v vx d vo := rfl
theorem mrow_x (h : Hd) (vq va vu vx : Value) (d : Ed) (vo v : Value) : (mrow h vq va vu vx d vo).setIfInBounds 14 v = mrow h vq va vu v d vo := rfl
/-- A message between two sections. -/
structure St (w5 : World) (B pb mb : Nat) (s : ByteArray) (H : Hd) (lq : List Qn) (an au ex : List Rc) (vq va vu vx vo : Value) (p : Nat) (d : Ed) (w : World) : Prop where
  hp : p ≤ s.size
  pt : Pt7 w pb p 0
  m : w.heap[mb]? = some (.cells (mrow H vq va vu vx d vo) 32 (0, 0))
  q : FS w B 46 3 vq lq.length (qsV lq)
  a : FS w B 49 5 va an.length (rsV an)
  u : FS w B 49 5 vu au.length (rsV au)
  x : FS w B 49 5 vx ex.length (rsV ex)
  o : FS w B 72 2 vo d.ops.length (ov d.ops)
  t : TG w5 w pb (some mb)
  lp : pb < B
  lm : mb < B
  lb : B ≤ w.heap.size
  ne : pb ≠ mb
section
variable {w5 wk w : World} {B pb mb : Nat} {s : ByteArray} {H : Hd} {lq : List Qn} {an au l : List Rc} {vq va vu v vo vo0 : Value} {p p0 : Nat} {d d0 : Ed}
theorem St.go {an au ex : List Rc} {va vu vx : Value} (st : St w5 B pb mb s H lq an au ex vq va vu vx vo p d w) : Sx w B pb mb 49 5 (mrow H vq va vu vx d vo) (.slice none 0 0) ([] : List Rc).length (rsV []) p 0 d vo w :=
  ⟨World.ownsRow_nil _ _ _ _, st.m, st.pt, TG.refl _ _ _, st.o, st.lp, st.lm, st.lb, st.ne⟩
theorem St.n1 (st : St w5 B pb mb s H lq [] [] [] vq (.slice none 0 0) (.slice none 0 0) (.slice none 0 0) vo0 p0 d0 wk) (x : Sx wk B pb mb 49 5 (mrow H vq v (.slice none 0 0) (.slice none 0 0) d vo) v l.length (rsV l) p 0 d vo w) (hp : p ≤ s.size) :
    St w5 B pb mb s H lq l [] [] vq v (.slice none 0 0) (.slice none 0 0) vo p d w :=
  ⟨hp, x.pt, x.m, st.q.keptTG x.t st.lm st.lp, (FS.of x.own).mono x.lb, FS.none, FS.none, x.o, st.t.trans x.t (fun _ e => .inl e), st.lp, st.lm, Nat.le_trans st.lb x.t.size, st.ne⟩
theorem St.n2 (st : St w5 B pb mb s H lq an [] [] vq va (.slice none 0 0) (.slice none 0 0) vo0 p0 d0 wk) (x : Sx wk B pb mb 49 5 (mrow H vq va v (.slice none 0 0) d vo) v l.length (rsV l) p 0 d vo w) (hp : p ≤ s.size) :
    St w5 B pb mb s H lq an l [] vq va v (.slice none 0 0) vo p d w :=
  ⟨hp, x.pt, x.m, st.q.keptTG x.t st.lm st.lp, st.a.keptTG x.t st.lm st.lp, (FS.of x.own).mono x.lb, FS.none, x.o, st.t.trans x.t (fun _ e => .inl e), st.lp, st.lm, Nat.le_trans st.lb x.t.size, st.ne⟩
theorem St.n3 (st : St w5 B pb mb s H lq an au [] vq va vu (.slice none 0 0) vo0 p0 d0 wk) (x : Sx wk B pb mb 49 5 (mrow H vq va vu v d vo) v l.length (rsV l) p 0 d vo w) (hp : p ≤ s.size) :
    St w5 B pb mb s H lq an au l vq va vu v vo p d w :=
  ⟨hp, x.pt, x.m, st.q.keptTG x.t st.lm st.lp, st.a.keptTG x.t st.lm st.lp, st.u.keptTG x.t st.lm st.lp, (FS.of x.own).mono x.lb, x.o, st.t.trans x.t (fun _ e => .inl e), st.lp, st.lm, Nat.le_trans st.lb x.t.size, st.ne⟩
end
/-- An error that is there stays. -/
def Bad (w7 : World) (pb mb : Nat) (s : ByteArray) (w : World) : Prop := ∃ p e, e ≠ 0 ∧ rdM s = .error e ∧ Pt7 w pb p e ∧ TG w7 w pb (some mb)
/-- A message ahead of each section, and behind them. -/
def S1 (w5 : World) (B pb mb : Nat) (s : ByteArray) (H : Hd) (w : World) : Prop := ∃ (lq : List Qn) (vq : Value) (p : Nat), C1 s lq p ∧ St w5 B pb mb s H lq [] [] [] vq (.slice none 0 0) (.slice none 0 0) (.slice none 0 0) (.slice none 0 0) p ed0 w
def S2 (w5 : World) (B pb mb : Nat) (s : ByteArray) (H : Hd) (w : World) : Prop := ∃ (lq : List Qn) (an : List Rc) (vq va vo : Value) (p : Nat) (d : Ed), C2 s lq an p d ∧ St w5 B pb mb s H lq an [] [] vq va (.slice none 0 0) (.slice none 0 0) vo p d w
def S3 (w5 : World) (B pb mb : Nat) (s : ByteArray) (H : Hd) (w : World) : Prop := ∃ (lq : List Qn) (an au : List Rc) (vq va vu vo : Value) (p : Nat) (d : Ed), C3 s lq an au p d ∧ St w5 B pb mb s H lq an au [] vq va vu (.slice none 0 0) vo p d w
def S4 (w5 : World) (B pb mb : Nat) (s : ByteArray) (H : Hd) (w : World) : Prop := ∃ (lq : List Qn) (an au ex : List Rc) (vq va vu vx vo : Value) (p : Nat) (d : Ed), C4 s lq an au ex p d ∧ St w5 B pb mb s H lq an au ex vq va vu vx vo p d w
/-- Where a section stands. -/
def Sn (w5 : World) (B pb mb : Nat) (s : ByteArray) (H : Hd) (k : Nat) (w : World) : Prop := Bad w5 pb mb s w ∨ (k = 1 ∧ S1 w5 B pb mb s H w) ∨ (k = 2 ∧ S2 w5 B pb mb s H w) ∨ (k = 3 ∧ S3 w5 B pb mb s H w) ∨ (k = 4 ∧ S4 w5 B pb mb s H w)
section
variable {w5 w : World} {B pb mb : Nat} {s : ByteArray} {H : Hd}
theorem Sn.one (h : Sn w5 B pb mb s H 1 w) : Bad w5 pb mb s w ∨ S1 w5 B pb mb s H w := by
  rcases h with h | ⟨_, h⟩ | ⟨h, _⟩ | ⟨h, _⟩ | ⟨h, _⟩
  · exact .inl h
  · exact .inr h
  all_goals omega
theorem Sn.two (h : Sn w5 B pb mb s H 2 w) : Bad w5 pb mb s w ∨ S2 w5 B pb mb s H w := by
  rcases h with h | ⟨h, _⟩ | ⟨_, h⟩ | ⟨h, _⟩ | ⟨h, _⟩
  · exact .inl h
  · omega
  · exact .inr h
  all_goals omega
theorem Sn.three (h : Sn w5 B pb mb s H 3 w) : Bad w5 pb mb s w ∨ S3 w5 B pb mb s H w := by
  rcases h with h | ⟨h, _⟩ | ⟨h, _⟩ | ⟨_, h⟩ | ⟨h, _⟩
  · exact .inl h
  · omega
  · omega
  · exact .inr h
  · omega
theorem Sn.four (h : Sn w5 B pb mb s H 4 w) : Bad w5 pb mb s w ∨ S4 w5 B pb mb s H w := by
  rcases h with h | ⟨h, _⟩ | ⟨h, _⟩ | ⟨h, _⟩ | ⟨_, h⟩
  · exact .inl h
  · omega
  · omega
  · omega
  · exact .inr h
theorem Sn.tg {k : Nat} (h : Sn w5 B pb mb s H k w) : TG w5 w pb (some mb) := by
  rcases h with ⟨_, _, _, _, _, h⟩ | ⟨_, _, _, _, _, h⟩ | ⟨_, _, _, _, _, _, _, _, _, h⟩ | ⟨_, _, _, _, _, _, _, _, _, _, _, h⟩ | ⟨_, _, _, _, _, _, _, _, _, _, _, _, _, h⟩
  · exact h
  all_goals exact h.t
end
/-- In the middle of a section. -/
def Sm (W0 : World) (B pb mb : Nat) (s : ByteArray) (add : Bool) (R : Rq) (row : Value → Ed → Value → Array Value) (k i : Nat) (w : World) : Prop :=
  ∃ (l : List Rc) (A : Option Addr) (cap p : Nat) (d : Ed) (vo : Value), l.length ≤ i ∧ p ≤ s.size ∧ RsSo s add R k l p d ∧ Sx W0 B pb mb 49 5 (row (.slice A l.length cap) d vo) (.slice A l.length cap) l.length (rsV l) p 0 d vo w
/-- A question as the document's part reads it. -/
theorem rdQ1_u {s : ByteArray} {p : Nat} {R : Rd} {nm : ByteArray} {p1 p2 p3 e1 e2 e3 v1 v2 : Nat} (hR : rdF s p p none [] = R) (N1 : naV R = nm) (N2 : naP R = p1) (N3 : naE R = e1) (V1 : nuV s p1 e1 2 = v1) (Q1 : nuP s p1 e1 2 = p2) (E1 : nuE s p1 e1 2 = e2)
    (V2 : nuV s p2 e2 2 = v2) (Q2 : nuP s p2 e2 2 = p3) (E2 : nuE s p2 e2 2 = e3) : (e3 ≠ 0 ∧ rdQ1 s p = .error e3) ∨ (e3 = 0 ∧ rdQ1 s p = .ok (⟨nm, v1, v2⟩, p3) ∧ p3 ≤ s.size) := by
  cases R with
  | no x =>
    have hx : x ≠ 0 := rd_no' _ _ _ _ _ hR
    have h1 : e1 = x := N3.symm
    subst h1
    rw [nuE_no hx] at E1; subst E1
    rw [nuE_no hx] at E2; subst E2
    exact .inl ⟨hx, rdQ1_name hR⟩
  | ok n q =>
    have h1 : e1 = 0 := N3.symm
    have h2 : p1 = q := N2.symm
    have h3 : nm = ⟨n.toArray⟩ := N1.symm
    subst h1 h2 h3
    by_cases k1 : p1 + 2 ≤ s.size
    · obtain ⟨z1, z2, z3⟩ := nu_ok k1
      rw [z1] at V1; rw [z2] at Q1; rw [z3] at E1; subst V1 Q1 E1
      by_cases k2 : p1 + 2 + 2 ≤ s.size
      · obtain ⟨y1, y2, y3⟩ := nu_ok k2
        rw [y1] at V2; rw [y2] at Q2; rw [y3] at E2; subst V2 Q2 E2
        exact .inr ⟨rfl, rdQ1_ok hR (by omega), k2⟩
      · rw [nuE_short k2] at E2; subst E2
        exact .inl ⟨by decide, rdQ1_short hR (by omega)⟩
    · rw [nuE_short k1] at E1; subst E1
      rw [nuE_no (by decide)] at E2; subst E2
      exact .inl ⟨by decide, rdQ1_short hR (by omega)⟩
end Go.Proofs.YtfeeeoiojaffcaaGreatDoor
