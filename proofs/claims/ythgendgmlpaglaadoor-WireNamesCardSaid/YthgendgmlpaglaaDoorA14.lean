/-
  Wire: what is put behind bytes hangs on how many there are, and not beyond 16383.
  Wire: the plain bytes of questions and records, one behind the other.
  Wire: the writer's name.
  Wire: the writer's fixed, questions.
-/
import Derived.Test.YthgendgmlpaglaaDoorA4
import Derived.Test.YthgendgmlpaglaaDoorA8
import Derived.Test.YthgendgmlpaglaaDoorA1
import Derived.Test.YthgendgmlpaglaaDoorA13
import Derived.Test.YthgendgmlpaglaaDoorA12
import Derived.Test.YthgendgmlpaglaaDoorA11
namespace Go.Proofs.YthgendgmlpaglaaDoor

/-- Two bases that are alike for putting. -/
def Alike (a b : Nat) : Prop := a = b ∨ (16384 ≤ a ∧ 16384 ≤ b)
theorem tadd_alike (n : ByteArray) (known : Bool) (p : Nat) (T : Tb) {a b : Nat} (h : Alike a b) : tadd n known p T a = tadd n known p T b := by
  rcases h with rfl | ⟨h1, h2⟩
  · rfl
  · unfold tadd
    rw [if_neg (by omega), if_neg (by omega)]
theorem putF_base (n : ByteArray) (cmp known : Bool) : ∀ k p (T : Tb) (out out' : List UInt8), n.size - p = k → Alike out.length out'.length →
    ∃ (X : List UInt8) (T' : Tb), X ≠ [] ∧ putF n cmp known p T out = (out ++ X, T') ∧ putF n cmp known p T out' = (out' ++ X, T') := by
  intro k
  induction k using Nat.strongRecOn with
  | _ k ih =>
    intro p T out out' hk hl
    by_cases h : p < n.size ∧ ¬ bt n p = 0
    · by_cases hc : (tget T (suf n p)).isSome ∧ cmp = true
      · obtain ⟨q, hq⟩ := Option.isSome_iff_exists.1 hc.1
        exact ⟨ptrB q, T, by simp [ptrB], putF_ptr h.1 h.2 hq hc.2, putF_ptr h.1 h.2 hq hc.2⟩
      · have hc' : tget T (suf n p) = none ∨ cmp = false := by
          cases hg : tget T (suf n p) with
          | none => exact .inl rfl
          | some x => rw [hg] at hc; right; simpa using hc
        rw [putF_step h.1 h.2 hc', putF_step h.1 h.2 hc', tadd_alike n known p T hl]
        obtain ⟨X, T', hX, e1, e2⟩ := ih (n.size - (p + 1 + bt n p)) (by omega) (p + 1 + bt n p) (tadd n known p T out'.length) (out ++ lab n p) (out' ++ lab n p) rfl (by
          rw [List.length_append, List.length_append]
          rcases hl with h1 | h1
          · exact .inl (by omega)
          · exact .inr (by omega))
        exact ⟨lab n p ++ X, T', by simp [hX], by rw [e1, List.append_assoc], by rw [e2, List.append_assoc]⟩
    · refine ⟨[0], T, by simp, ?_, ?_⟩ <;> rw [putF, dif_neg h]
/-- The base of what is put next. -/
def bas (bs : List UInt8) : List UInt8 := bs.take 16384
theorem bas_alike (bs : List UInt8) : Alike (bas bs).length bs.length := by
  unfold bas
  rw [List.length_take]
  by_cases h : bs.length ≤ 16384
  · exact .inl (by omega)
  · exact .inr (by omega)
theorem put_base (n : ByteArray) (T : Tb) (bs : List UInt8) : ∃ (X : List UInt8) (T' : Tb), X ≠ [] ∧ putF n true true 0 T (bas bs) = (bas bs ++ X, T') ∧ putF n true true 0 T bs = (bs ++ X, T') :=
  putF_base n true true _ 0 T _ _ rfl (bas_alike bs)
end Go.Proofs.YthgendgmlpaglaaDoor
namespace Go.Proofs.YthgendgmlpaglaaDoor

theorem lab_pos (n : ByteArray) (p : Nat) (h : p < n.size) : 1 ≤ (lab n p).length := by
  unfold lab
  rw [Array.length_toList]
  show 1 ≤ (n.extract p (p + 1 + bt n p)).size
  rw [ByteArray.size_extract]
  omega
theorem putF_grow (n : ByteArray) (cmp known : Bool) : ∀ k p (T : Tb) (out : List UInt8), n.size - p = k → (putF n cmp known p T out).2.length + out.length ≤ T.length + (putF n cmp known p T out).1.length := by
  intro k
  induction k using Nat.strongRecOn with
  | _ k ih =>
    intro p T out hk
    by_cases h : p < n.size ∧ ¬ bt n p = 0
    · by_cases hc : (tget T (suf n p)).isSome ∧ cmp = true
      · obtain ⟨q, hq⟩ := Option.isSome_iff_exists.1 hc.1
        rw [putF_ptr h.1 h.2 hq hc.2]
        simp
      · have hc' : tget T (suf n p) = none ∨ cmp = false := by
          cases hg : tget T (suf n p) with
          | none => exact .inl rfl
          | some x => rw [hg] at hc; right; simpa using hc
        rw [putF_step h.1 h.2 hc']
        have := ih (n.size - (p + 1 + bt n p)) (by omega) (p + 1 + bt n p) (tadd n known p T out.length) (out ++ lab n p) rfl
        have h1 := tadd_len n known p T out.length
        have h2 := lab_pos n p h.1
        rw [List.length_append] at this
        omega
    · rw [putF, dif_neg h]
      simp
theorem wrF_base (cmp : Bool) : ∀ (l : List Pc) (T : Tb) (out out' : List UInt8), Alike out.length out'.length →
    ∃ (X : List UInt8) (T' : Tb), wrF cmp l T out = (out ++ X, T') ∧ wrF cmp l T out' = (out' ++ X, T')
  | [], T, out, out', _ => ⟨[], T, by rw [wrF, List.append_nil], by rw [wrF, List.append_nil]⟩
  | x :: l, T, out, out', h => by
    have al : ∀ X : List UInt8, Alike (out ++ X).length (out' ++ X).length := fun X => by
      rw [List.length_append, List.length_append]
      rcases h with h1 | h1
      · exact .inl (by omega)
      · exact .inr (by omega)
    cases hx : x.name with
    | false =>
      rw [wrF_txt hx, wrF_txt hx]
      obtain ⟨X, T', e1, e2⟩ := wrF_base cmp l T _ _ (al x.text.data.toList)
      exact ⟨x.text.data.toList ++ X, T', by rw [e1, List.append_assoc], by rw [e2, List.append_assoc]⟩
    | true =>
      rw [wrF_nam hx, wrF_nam hx]
      obtain ⟨X, T', _, e1, e2⟩ := putF_base x.text cmp cmp _ 0 T out out' rfl h
      rw [e1, e2]
      obtain ⟨Y, T2, e3, e4⟩ := wrF_base cmp l T' _ _ (al X)
      exact ⟨X ++ Y, T2, by rw [e3, List.append_assoc], by rw [e4, List.append_assoc]⟩
theorem wrF_grow (cmp : Bool) : ∀ (l : List Pc) (T : Tb) (out : List UInt8), (wrF cmp l T out).2.length + out.length ≤ T.length + (wrF cmp l T out).1.length
  | [], T, out => by rw [wrF]; exact Nat.le_refl _
  | x :: l, T, out => by
    cases hx : x.name with
    | false =>
      rw [wrF_txt hx]
      have := wrF_grow cmp l T (out ++ x.text.data.toList)
      rw [List.length_append] at this
      omega
    | true =>
      rw [wrF_nam hx]
      have h1 := putF_grow x.text cmp cmp _ 0 T out rfl
      have h2 := wrF_grow cmp l (putF x.text cmp cmp 0 T out).2 (putF x.text cmp cmp 0 T out).1
      omega

/-- What is written: bytes and table. -/
abbrev Ws := List UInt8 × Tb
/-- One state is behind another one. -/
def Ws.le (s s' : Ws) : Prop := (∃ X, s'.1 = s.1 ++ X) ∧ s'.2.length + s.1.length ≤ s.2.length + s'.1.length
theorem Ws.le.len {s s' : Ws} (h : s.le s') : s.1.length ≤ s'.1.length := by
  obtain ⟨⟨X, e⟩, _⟩ := h
  rw [e, List.length_append]; omega
theorem Ws.le.few {s s' : Ws} (h : s.le s') (k : s.2.length ≤ s.1.length) : s'.2.length ≤ s'.1.length := by
  have := h.2; omega
theorem Ws.le_refl (s : Ws) : s.le s := ⟨⟨[], (List.append_nil _).symm⟩, Nat.le_refl _⟩
theorem Ws.le.trans {a b c : Ws} (h : a.le b) (k : b.le c) : a.le c := by
  obtain ⟨⟨X, e⟩, h2⟩ := h
  obtain ⟨⟨Y, f⟩, k2⟩ := k
  exact ⟨⟨X ++ Y, by rw [f, e, List.append_assoc]⟩, by omega⟩
/-- Bytes behind. -/
def adF (x : List UInt8) (s : Ws) : Ws := (s.1 ++ x, s.2)
theorem adF_le (x : List UInt8) (s : Ws) : s.le (adF x s) := ⟨⟨x, rfl⟩, by unfold adF; simp⟩
/-- A name behind. -/
def nmF (n : ByteArray) (s : Ws) : Ws := putF n true true 0 s.2 s.1
theorem nmF_le (n : ByteArray) (s : Ws) : s.le (nmF n s) := by
  obtain ⟨X, T', _, _, e⟩ := put_base n s.2 s.1
  exact ⟨⟨X, by unfold nmF; rw [e]⟩, putF_grow n true true _ 0 s.2 s.1 rfl⟩
structure Qn where
  name : ByteArray
  kind : Nat
  cls : Nat
deriving DecidableEq
structure Rc where
  name : ByteArray
  kind : Nat
  cls : Nat
  ttl : Nat
  data : ByteArray
deriving DecidableEq
def qF (s : Ws) (q : Qn) : Ws := adF (enc 2 q.kind ++ enc 2 q.cls) (nmF q.name s)
theorem qF_le (s : Ws) (q : Qn) : s.le (qF s q) := (nmF_le _ _).trans (adF_le _ _)
def qsF (s : Ws) (l : List Qn) : Ws := l.foldl qF s
def fx (kind cls ttl : Nat) : List UInt8 := enc 2 kind ++ enc 2 cls ++ enc 4 ttl
/-- The state ahead of a record's data: two bytes for the length stand there. -/
def rH (s : Ws) (r : Rc) : Ws := adF [0, 0] (adF (fx r.kind r.cls r.ttl) (nmF r.name s))
theorem rH_le (s : Ws) (r : Rc) : s.le (rH s r) := ((nmF_le _ _).trans (adF_le _ _)).trans (adF_le _ _)
/-- The state behind it, with nothing in the two bytes. -/
def rD (s : Ws) (r : Rc) : Ws := wrF (cmpF r.kind) ((whF r.kind r.data).getD []) (rH s r).2 (rH s r).1
theorem rD_le (s : Ws) (r : Rc) : (rH s r).le (rD s r) := by
  obtain ⟨X, T', e, _⟩ := wrF_base (cmpF r.kind) ((whF r.kind r.data).getD []) (rH s r).2 (rH s r).1 (rH s r).1 (.inl rfl)
  exact ⟨⟨X, by unfold rD; rw [e]⟩, wrF_grow _ _ _ _⟩
/-- A record behind: its length is set into the two bytes. -/
def rF (s : Ws) (r : Rc) : Ws := ((adF (fx r.kind r.cls r.ttl) (nmF r.name s)).1 ++ (enc 2 ((rD s r).1.length - (rH s r).1.length) ++ (rD s r).1.drop (rH s r).1.length), (rD s r).2)
theorem rF_len (s : Ws) (r : Rc) : (rF s r).1.length = (rD s r).1.length := by
  have h := (rD_le s r).len
  have h2 : (rH s r).1.length = (adF (fx r.kind r.cls r.ttl) (nmF r.name s)).1.length + 2 := by unfold rH adF; simp; omega
  unfold rF
  rw [List.length_append, List.length_append, List.length_drop, enc_len]
  omega
theorem rH_two (s : Ws) (r : Rc) : 2 ≤ (rH s r).1.length := by unfold rH adF; simp; omega
theorem rF_eq (s : Ws) (r : Rc) : rF s r = ((rH s r).1.take ((rH s r).1.length - 2) ++ (enc 2 ((rD s r).1.length - (rH s r).1.length) ++ (rD s r).1.drop (rH s r).1.length), (rD s r).2) := by
  have e : (rH s r).1.take ((rH s r).1.length - 2) = (adF (fx r.kind r.cls r.ttl) (nmF r.name s)).1 := by
    have : (rH s r).1 = (adF (fx r.kind r.cls r.ttl) (nmF r.name s)).1 ++ [0, 0] := rfl
    rw [this, List.length_append]
    exact List.take_left' rfl
  rw [e]
  rfl
theorem rF_le (s : Ws) (r : Rc) : s.le (rF s r) := by
  obtain ⟨⟨X, e⟩, _⟩ := (nmF_le r.name s).trans (adF_le (fx r.kind r.cls r.ttl) _)
  have h2 := ((rH_le s r).trans (rD_le s r)).2
  refine ⟨⟨_, by unfold rF; rw [e, List.append_assoc]⟩, ?_⟩
  rw [rF_len]
  exact h2
def rsF (s : Ws) (l : List Rc) : Ws := l.foldl rF s
theorem qsF_le : ∀ (l : List Qn) (s : Ws), s.le (qsF s l)
  | [], s => Ws.le_refl s
  | q :: l, s => (qF_le s q).trans (qsF_le l _)
theorem rsF_le : ∀ (l : List Rc) (s : Ws), s.le (rsF s l)
  | [], s => Ws.le_refl s
  | r :: l, s => (rF_le s r).trans (rsF_le l _)
end Go.Proofs.YthgendgmlpaglaaDoor
namespace Go.Proofs.YthgendgmlpaglaaDoor
open Go.RowKit

theorem SlB.drop {w : World} {g n c : Nat} {x y : List UInt8} (h : SlB w (.slice (some ⟨g, 0, none⟩) n c) (x ++ y)) : SlB w (.slice (some ⟨g, x.length, none⟩) y.length (c - x.length)) y := by
  obtain ⟨A', c', e, h1, h2, h3⟩ := h
  simp only [Value.slice.injEq] at e
  obtain ⟨rfl, rfl, rfl⟩ := e
  rw [List.length_append] at h1
  refine ⟨_, _, rfl, by omega, (fun hA => nomatch hA), fun ad had j u hu => ?_⟩
  cases had
  have hj := (List.getElem?_eq_some_iff.1 hu).1
  have := h3 _ rfl (x.length + j) u (by rw [bv_append, List.getElem?_append_right (by rw [bv_len]; omega), bv_len, Nat.add_sub_cancel_left]; exact hu)
  rw [Addr.add_lit] at this ⊢
  rwa [Nat.zero_add] at this
theorem Wr.putT {w w' : World} {B b tb : Nat} {m m' : Option Nat} {v : Value} {bs : List UInt8} {T T' : Tb} (h : Wr w B b tb m v bs T) (g : TG w w' tb m) (t : Tab w' tb m' T') (hm : ∀ i, m' = some i → m = some i ∨ w.heap.size ≤ i) (hB : B ≤ w.heap.size) : Wr w' B b tb m' v bs T' := by
  have hne := h.ne
  refine ⟨?_, h.own.keptT g hne.2.1 ?_, t, h.lb, h.lt, fun k hk => ?_⟩
  · rw [g.block b (blt h.cell) hne.2.2.2 (fun e => (hne.2.2.1 b e.symm).2 rfl)]
    exact h.cell
  · cases m with
    | none => exact .inl rfl
    | some k => exact .inr (hne.2.2.1 k rfl).1
  · rcases hm k hk with h1 | h1
    · exact h.lm k h1
    · omega
theorem kb_tg {B b : Nat} {m : Option Nat} {w w' : World} (g : TG w w' b m) (hB : B ≤ w.heap.size) (hb : B ≤ b) (hm : ∀ k, m = some k → B ≤ k) : KB B w w' :=
  ⟨g.os, g.tape, g.output, g.size, fun i hi => g.block i (by omega) (by omega) (fun e => by have := hm i e.symm; omega)⟩
/-- Blocks of other types than those in p are as they were; so are those ahead of B. -/
structure KT (p : TypeId → Prop) (B : Nat) (w w' : World) : Prop where
  kb : KB B w w'
  ty : ∀ (i : Nat) (c : Array Value) (t : TypeId) (z : Nat × Nat), w.heap[i]? = some (Obj.cells c t z) → ¬ p t → w'.heap[i]? = w.heap[i]?
theorem KT.refl (p : TypeId → Prop) (B : Nat) (w : World) : KT p B w w := ⟨KB.refl B w, fun _ _ _ _ _ _ => rfl⟩
theorem KT.trans {p : TypeId → Prop} {B : Nat} {a b c : World} (h : KT p B a b) (k : KT p B b c) : KT p B a c :=
  ⟨h.kb.trans k.kb, fun i d t z hi hp => (k.ty i d t z ((h.ty i d t z hi hp).trans hi) hp).trans (h.ty i d t z hi hp)⟩
theorem KT.rt (p : TypeId → Prop) (B : Nat) : Rt (KT p B) := ⟨KT.refl p B, KT.trans⟩
theorem KT.of {p : TypeId → Prop} {B : Nat} {w w' : World} (g : w.grownBy w' none) (hB : B ≤ w.heap.size) : KT p B w w' :=
  ⟨KB.of g hB, fun i c t z hi _ => g.block i (blt hi) (by simp)⟩
theorem KT.blk {p : TypeId → Prop} {B : Nat} {w w' : World} (h : KT p B w w') {i : Nat} {c : Array Value} {t : TypeId} {z : Nat × Nat} (hi : w.heap[i]? = some (.cells c t z)) (hp : ¬ p t) : w'.heap[i]? = some (.cells c t z) := (h.ty i c t z hi hp).trans hi
theorem KT.mono {p q : TypeId → Prop} {B : Nat} {w w' : World} (h : KT p B w w') (hpq : ∀ t, p t → q t) : KT q B w w' := ⟨h.kb, fun i c t z hi hq => h.ty i c t z hi fun hp => hq (hpq t hp)⟩
instance (p : TypeId → Prop) (B : Nat) (w0 : World) : Inhabited (GrR (KT p B) w0) := ⟨⟨w0, KT.refl p B w0⟩⟩
/-- The types of what a writer turns. -/
def pW (t : TypeId) : Prop := t = 5 ∨ t = 118 ∨ t = 87
def pT (t : TypeId) : Prop := t = 118
abbrev KW := KT pW
theorem kt_put {w w' : World} {B tb : Nat} {m : Option Nat} {T : Tb} (h : Tab w tb m T) (g : TG w w' tb m) (hB : B ≤ w.heap.size) (hb : B ≤ tb) (hm : ∀ k, m = some k → B ≤ k) : KT pT B w w' := by
  refine ⟨kb_tg g hB hb hm, fun i c t z hi hp => g.block i (blt hi) (fun e => ?_) (fun e => ?_)⟩
  · subst e
    rw [h.cell] at hi
    cases hi
    exact hp rfl
  · obtain ⟨⟨D, ⟨es, clock, hk, _⟩, _⟩, _⟩ := h.some i e.symm
    rw [hi] at hk; cases hk
theorem kw_put {w w' : World} {B tb : Nat} {m : Option Nat} {T : Tb} (h : Tab w tb m T) (g : TG w w' tb m) (hB : B ≤ w.heap.size) (hb : B ≤ tb) (hm : ∀ k, m = some k → B ≤ k) : KW B w w' :=
  (kt_put h g hB hb hm).mono fun _ ht => .inr (.inl ht)
theorem kb_add {B b : Nat} {w w' : World} {v : Value} {l : List UInt8} (g : TG w w' b v.ownBlock) (h : OwnM w B v l) (hB : B ≤ w.heap.size) (hb : B ≤ b) : KB B w w' := by
  refine kb_tg g hB hb fun k hk => ?_
  rcases h with ⟨rfl, _⟩ | ⟨g', cap, cur, fz, rfl, hg, _⟩
  · cases hk
  · cases hk; exact hg
theorem kw_add {w w' : World} {B b tb : Nat} {m : Option Nat} {v : Value} {bs : List UInt8} {T : Tb} (h : Wr w B b tb m v bs T) (g : TG w w' b v.ownBlock) (hB : B ≤ w.heap.size) : KW B w w' := by
  refine ⟨kb_add g h.own hB h.lb, fun i c t z hi hp => g.block i (blt hi) (fun e => ?_) (fun e => ?_)⟩
  · subst e
    rw [h.cell] at hi
    cases hi
    exact hp (.inr (.inr rfl))
  · obtain ⟨c', z', hk⟩ := own_u8M h.own i e.symm
    rw [hi] at hk
    cases hk
    exact hp (.inl rfl)
/-- A writer with these bytes and this table. -/
def WS (w : World) (B b tb : Nat) (s : Ws) : Prop := (∃ m v, Wr w B b tb m v s.1 s.2) ∧ s.1.length ≤ 65535 ∧ s.2.length ≤ s.1.length
theorem WS.kept {w w' : World} {B b tb : Nat} {s : Ws} (h : WS w B b tb s) (g : w.grownBy w' none) : WS w' B b tb s := by
  obtain ⟨⟨m, v, h1⟩, h2⟩ := h
  exact ⟨⟨m, v, h1.kept g⟩, h2⟩
/-- What a writer's part leaves: it returned, or it was too long. -/
def WwPost (B b tb : Nat) (s : Ws) (w : World) (e : Ending) (w' : World) : Prop :=
  KW B w w' ∧ if s.1.length ≤ 65535 then e = .returned (.tuple #[]) ∧ WS w' B b tb s else e = .panicked [{ v := fault 5, recovered := false }]
theorem WwPost.ok {B b tb : Nat} {s : Ws} {w w' : World} {e : Ending} (h : WwPost B b tb s w e w') (hs : s.1.length ≤ 65535) : e = .returned (.tuple #[]) ∧ WS w' B b tb s := by
  have := h.2
  rwa [if_pos hs] at this
theorem WwPost.no {B b tb : Nat} {s : Ws} {w w' : World} {e : Ending} (h : WwPost B b tb s w e w') (hs : 65535 < s.1.length) : e = .panicked [{ v := fault 5, recovered := false }] := by
  have := h.2
  rwa [if_neg (by omega)] at this
theorem WwPost.yes {B b tb : Nat} {s : Ws} {w w' : World} {e : Ending} (g : KW B w w') (he : e = .returned (.tuple #[])) (hs : WS w' B b tb s) : WwPost B b tb s w e w' :=
  ⟨g, by rw [if_pos hs.2.1]; exact ⟨he, hs⟩⟩
theorem WwPost.bad {B b tb : Nat} {s : Ws} {w w' : World} {e : Ending} (g : KW B w w') (he : e = .panicked [{ v := fault 5, recovered := false }]) (hs : 65535 < s.1.length) : WwPost B b tb s w e w' :=
  ⟨g, by rw [if_neg (by omega)]; exact he⟩
/-- add: what it leaves. -/
theorem add_l (w : World) (B b tb : Nat) (m : Option Nat) (v : Value) (s : Ws) (vx : Value) (x : List UInt8) (h1 : Wr w B b tb m v s.1 s.2) (h2 : s.1.length ≤ 65535) (h3 : s.2.length ≤ s.1.length + x.length) (hB : B ≤ w.heap.size) (hx : SlB w vx x) :
    Calls Tryd.prog 38 #[.pointer (some ⟨b, 0, none⟩), vx] w (WwPost B b tb (adF x s) w) := by
  by_cases hf : s.1.length + x.length ≤ 65535
  · refine (add_ok w B b tb m v s.1 s.2 vx x h1 hx hf).mono ?_
    rintro e w' ⟨rfl, v', hw, g⟩
    exact .yes (kw_add h1 g hB) rfl ⟨⟨m, v', hw⟩, by unfold adF; simpa using hf, by unfold adF; simpa using h3⟩
  · refine (add_no w B b tb m v s.1 s.2 vx x h1 hx h2 (by omega)).mono ?_
    rintro e w' ⟨rfl, rfl⟩
    exact .bad (KT.refl _ _ _) rfl (by unfold adF; simp; omega)
theorem add_any (w : World) (B b tb : Nat) (s : Ws) (vx : Value) (x : List UInt8) (h : WS w B b tb s) (hB : B ≤ w.heap.size) (hx : SlB w vx x) :
    Calls Tryd.prog 38 #[.pointer (some ⟨b, 0, none⟩), vx] w (WwPost B b tb (adF x s) w) := by
  obtain ⟨⟨m, v, h1⟩, h2, h3⟩ := h
  exact add_l w B b tb m v s vx x h1 h2 (by omega) hB hx

set_option maxRecDepth 100000 in
set_option maxHeartbeats 8000000 in
theorem name_any (w : World) (B b tb : Nat) (s : Ws) (n : ByteArray) (h : WS w B b tb s) (hB : B ≤ w.heap.size) (hn : may n = true) :
    Calls Tryd.prog 37 #[.pointer (some ⟨b, 0, none⟩), .string n] w (WwPost B b tb (nmF n s) w) := by
  obtain ⟨⟨m, v, h1⟩, hb, hT⟩ := h
  have HW := Lib.hid h1
  have HP := Lib.hid (put_base n s.2 s.1)
  have hns := (may_size hn).1
  have HN := Lib.hid hn
  have hle := Lib.hid (nmF_le n s)
  obtain ⟨s', hs'⟩ : ∃ s', nmF n s = s' := ⟨_, rfl⟩
  have EN := Lib.hid hs'
  rw [hs']
  clear hs'
  obtain ⟨bs, T⟩ := s
  dsimp only at HW HP hb hT
  clear h1 hn
  go_enter Tryd.func37, Tryd.ntmps37
  go_wp2_with fail
  refine (base_any w B b tb m v bs T HW.out hb).mono ?_
  rintro e w1 ⟨v1, rfl, hg, hs⟩
  have W1 := Lib.hid (HW.out.kept hg)
  have G1 := Lib.hid (show KW B w w1 from KT.of hg hB)
  have HB1 := Lib.hid (Nat.le_trans hB hg.size)
  have S1 := Lib.hid hs
  obtain ⟨A1, c1, rfl, _, _⟩ := hs
  have hc1 := bcellAt W1.out.cell 1
  have c1' : w1.cell? ⟨b, 1, none⟩ = some (.pointer (some ⟨tb, 0, none⟩)) := hc1
  clear hg hc1 HW
  rw [List.length_take] at S1
  go_wp2_with fail
  refine (tput_ok tb m T (.slice A1 (min 16384 bs.length) c1) (bas bs) n true true w1 W1.out.tab S1.out HN.out ?l1 ?l2).mono ?_
  case l1 => omega
  case l2 => unfold bas; rw [List.length_take]; omega
  rintro e w2 ⟨v2, m2, rfl, ho, ht, hg, hms⟩
  obtain ⟨X, T', hX, e1, e2⟩ := HP.out
  rw [e1] at ho ht
  dsimp only at ho ht
  have E2 := Lib.hid (show nmF n (bs, T) = (bs ++ X, T') from e2)
  have G2 := Lib.hid (G1.out.trans (kw_put W1.out.tab hg HB1.out W1.out.lt W1.out.lm))
  have Q2 := Lib.hid (show T'.length ≤ bs.length + X.length from by have := hle.out.2; rw [E2.out] at this; simp at this; omega)
  have W2 := Lib.hid (W1.out.putT hg ht hms HB1.out)
  have S2 := Lib.hid ho.sl
  have hX0 : 0 < X.length := by cases X with | nil => exact (hX rfl).elim | cons => simp
  have hlb : (bas bs).length = min 16384 bs.length := by unfold bas; rw [List.length_take]
  obtain ⟨A2, c2, rfl, hc2, _⟩ := ho.shape
  rcases ho.2 with ⟨h0, _⟩ | ⟨gb, cap, cur, h0, _⟩
  · exfalso
    simp only [Value.slice.injEq, List.length_append] at h0
    omega
  simp only [Value.slice.injEq] at h0
  obtain ⟨rfl, _, rfl⟩ := h0
  have D2 := Lib.hid S2.out.drop
  rw [List.length_append] at hc2
  clear ho ht hg hms e1 e2 HP HN S1 S2 W1 G1 c1'
  go_wp2_with fail
  refine (must_ok w2).mono ?_
  rintro e w3 ⟨rfl, rfl⟩
  go_wp2_with fail
  rw [hlb] at D2
  refine (add_l w2 B b tb m2 v (bs, T') _ X W2.out hb Q2.out (Nat.le_trans hB G2.out.kb.size) D2.out).mono ?_
  rintro e w4 h4
  have E4 : adF X (bs, T') = s' := E2.out.symm.trans EN.out
  rw [E4] at h4
  clear E4 E2 EN hle W2 D2 Q2
  have K4 := Lib.hid (G2.out.trans h4.1)
  by_cases hs : s'.1.length ≤ 65535
  · obtain ⟨rfl, h5⟩ := h4.ok hs
    have H5 := Lib.hid h5
    clear h4 h5 hs
    go_wp2_with fail
    go_end0
    exact .yes K4.out rfl H5.out
  · obtain rfl := h4.no (by omega)
    clear h4
    go_wp2_with fail
    exact ⟨rfl, WwPost.bad K4.out rfl (by omega)⟩
end Go.Proofs.YthgendgmlpaglaaDoor
namespace Go.Proofs.YthgendgmlpaglaaDoor
open Go.RowKit

theorem put4_x (w : World) (va : Value) (a : List UInt8) (x : Nat) (hx : x < 4294967296) (ha : SlB w va a) (hn : a.length ≤ 70368744177000) : Calls Tryd.prog 59 #[va, .int .u32 x] w fun e w' => ∃ v, e = .returned v ∧ SlB w' v (a ++ enc 4 x) ∧ w.grownBy w' none :=
  (put4_any w va a x hx ha hn).mono fun _ _ ⟨he, ho, hg⟩ => ⟨_, he, ho.sl, hg⟩

set_option maxRecDepth 100000 in
set_option maxHeartbeats 2000000 in
theorem fixed_any (w : World) (B b tb : Nat) (s : Ws) (kind cls ttl : Nat) (h : WS w B b tb s) (hB : B ≤ w.heap.size) (hk : kind < 65536) (hc : cls < 65536) (ht : ttl < 4294967296) :
    Calls Tryd.prog 42 #[.pointer (some ⟨b, 0, none⟩), .int .u16 kind, .int .u16 cls, .int .u32 ttl] w (WwPost B b tb (adF (fx kind cls ttl) s) w) := by
  have HW := Lib.hid h
  have HK := Lib.hid hk
  have HC := Lib.hid hc
  have HT := Lib.hid ht
  clear h hk hc ht
  go_enter Tryd.func42, Tryd.ntmps42
  go_wp2_with fail
  refine Calls.mono (put2_x w _ [] kind HK.out (Own.nil _ 0).sl (by simp)) ?_
  rintro e w1 ⟨v1, rfl, hs1, hg1⟩
  have S1 := Lib.hid hs1
  have G1 := Lib.hid hg1
  clear hs1 hg1
  go_wp2_with fail
  refine Calls.mono (put2_x w1 _ _ cls HC.out S1.out (by simp [enc_len])) ?_
  rintro e w2 ⟨v2, rfl, hs2, hg2⟩
  have S2 := Lib.hid hs2
  have G2 := Lib.hid (gtrans G1.out hg2)
  clear hs2 hg2 S1 G1
  go_wp2_with fail
  refine Calls.mono (put4_x w2 _ _ ttl HT.out S2.out (by simp [enc_len])) ?_
  rintro e w3 ⟨v3, rfl, hs3, hg3⟩
  have S3 := Lib.hid (show SlB w3 v3 (fx kind cls ttl) from hs3)
  have G3 := Lib.hid (gtrans G2.out hg3)
  clear hs3 hg3 S2 G2
  go_wp2_with fail
  refine Calls.mono (add_any w3 B b tb s v3 _ (HW.out.kept G3.out) (Nat.le_trans hB G3.out.size) S3.out) ?_
  rintro e w4 h4
  have K4 := Lib.hid ((show KW B w w3 from KT.of G3.out hB).trans h4.1)
  generalize adF (fx kind cls ttl) s = s' at *
  by_cases hs : s'.1.length ≤ 65535
  · obtain ⟨rfl, h5⟩ := h4.ok hs
    have H5 := Lib.hid h5
    clear h4 h5 hs
    go_wp2_with fail
    go_end0
    exact .yes K4.out rfl H5.out
  · obtain rfl := h4.no (by omega)
    clear h4
    go_wp2_with fail
    exact ⟨rfl, WwPost.bad K4.out rfl (by omega)⟩
end Go.Proofs.YthgendgmlpaglaaDoor
