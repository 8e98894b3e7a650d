/-
  Wire: another ID is another two bytes, and nothing else (plain).
-/
import Derived.Test.YtoncjhjnmomecaaDoorWjQ
namespace Go.Proofs.YtoncjhjnmomecaaDoor
open Go.RowKit

def Eqv (s s' : Ws) : Prop := s.1.length = s'.1.length ∧ s.2 = s'.2
/-- The same bytes come behind both. -/
structure Pal (s s' t t' : Ws) : Prop where
  ex : ∃ X, t.1 = s.1 ++ X ∧ t'.1 = s'.1 ++ X
  tb : t.2 = t'.2
theorem Pal.eqv {s s' t t' : Ws} (p : Pal s s' t t') (h : Eqv s s') : Eqv t t' := by
  obtain ⟨X, e1, e2⟩ := p.ex
  refine ⟨?_, p.tb⟩
  rw [e1, e2, List.length_append, List.length_append, h.1]
theorem Pal.trans {s s' t t' u u' : Ws} (p : Pal s s' t t') (q : Pal t t' u u') : Pal s s' u u' := by
  obtain ⟨X, e1, e2⟩ := p.ex
  obtain ⟨Y, f1, f2⟩ := q.ex
  exact ⟨⟨X ++ Y, by rw [f1, e1, List.append_assoc], by rw [f2, e2, List.append_assoc]⟩, q.tb⟩
theorem Pal.refl {s s' : Ws} (h : Eqv s s') : Pal s s' s s' := ⟨⟨[], (List.append_nil _).symm, (List.append_nil _).symm⟩, h.2⟩
theorem ad_pal (x : List UInt8) {s s' : Ws} (h : Eqv s s') : Pal s s' (adF x s) (adF x s') := ⟨⟨x, rfl, rfl⟩, h.2⟩
theorem nm_pal (n : ByteArray) {s s' : Ws} (h : Eqv s s') : Pal s s' (nmF n s) (nmF n s') := by
  obtain ⟨X, T', _, e1, e2⟩ := putF_base n true true _ 0 s.2 s.1 s'.1 rfl (.inl h.1)
  unfold nmF
  rw [← h.2, e1, e2]
  exact ⟨⟨X, rfl, rfl⟩, rfl⟩
theorem q_pal (q : Qn) {s s' : Ws} (h : Eqv s s') : Pal s s' (qF s q) (qF s' q) :=
  (nm_pal q.name h).trans (ad_pal _ ((nm_pal q.name h).eqv h))
theorem qs_pal : ∀ (l : List Qn) {s s' : Ws}, Eqv s s' → Pal s s' (qsF s l) (qsF s' l)
  | [], _, _, h => Pal.refl h
  | q :: l, _, _, h => (q_pal q h).trans (qs_pal l ((q_pal q h).eqv h))
theorem r_pal (r : Rc) {s s' : Ws} (h : Eqv s s') : Pal s s' (rF s r) (rF s' r) := by
  have p1 := nm_pal r.name h
  have p2 := p1.trans (ad_pal (fx r.kind r.cls r.ttl) (p1.eqv h))
  have p3 : Pal s s' (rH s r) (rH s' r) := p2.trans (ad_pal [0, 0] (p2.eqv h))
  have h3 := p3.eqv h
  obtain ⟨X, T', e1, e2⟩ := wrF_base (cmpF r.kind) ((whF r.kind r.data).getD []) (rH s r).2 (rH s r).1 (rH s' r).1 (.inl h3.1)
  have d1 : rD s r = ((rH s r).1 ++ X, T') := e1
  have d2 : rD s' r = ((rH s' r).1 ++ X, T') := by unfold rD; rw [← h3.2]; exact e2
  obtain ⟨Y, f1, f2⟩ := p2.ex
  unfold rF
  rw [d1, d2]
  simp only [List.length_append, Nat.add_sub_cancel_left, List.drop_left]
  exact ⟨⟨Y ++ (enc 2 X.length ++ X), by rw [f1, List.append_assoc], by rw [f2, List.append_assoc]⟩, rfl⟩
theorem rs_pal : ∀ (l : List Rc) {s s' : Ws}, Eqv s s' → Pal s s' (rsF s l) (rsF s' l)
  | [], _, _, h => Pal.refl h
  | r :: l, _, _, h => (r_pal r h).trans (rs_pal l ((r_pal r h).eqv h))
theorem op_pal (sz ttl : Nat) (d : List UInt8) {s s' : Ws} (h : Eqv s s') : Pal s s' (opF sz ttl d s) (opF sz ttl d s') := by
  have p1 := nm_pal root0 h
  have p2 := p1.trans (ad_pal (fx 41 sz ttl) (p1.eqv h))
  have p3 := p2.trans (ad_pal (enc 2 d.length) (p2.eqv h))
  exact p3.trans (ad_pal d (p3.eqv h))
/-- A message with another ID. -/
def Ms.withId (m : Ms) (i : Nat) : Ms := { m with h := { m.h with id := i } }
theorem id_pal (m : Ms) (i : Nat) : Pal m.s0 (m.withId i).s0 m.s5 (m.withId i).s5 := by
  have h0 : Eqv m.s0 (m.withId i).s0 := ⟨by rw [m.s0_len, (m.withId i).s0_len], rfl⟩
  have p1 : Pal m.s0 (m.withId i).s0 m.s1 (m.withId i).s1 := qs_pal m.qs h0
  have p2 : Pal m.s0 (m.withId i).s0 m.s2 (m.withId i).s2 := p1.trans (rs_pal m.an (p1.eqv h0))
  have p3 : Pal m.s0 (m.withId i).s0 m.s3 (m.withId i).s3 := p2.trans (rs_pal m.au (p2.eqv h0))
  have p4 : Pal m.s0 (m.withId i).s0 m.s4 (m.withId i).s4 := p3.trans (rs_pal m.ex (p3.eqv h0))
  unfold Ms.s5
  show Pal _ _ (if m.has = true then _ else _) (if m.has = true then opF m.sz (ttlN m.e m.v m.f) (opsB m.ops) (m.withId i).s4 else (m.withId i).s4)
  cases m.has with
  | false => exact p4
  | true => exact p4.trans (op_pal _ _ _ (p4.eqv h0))
def hi8 (x : Nat) : UInt8 := UInt8.ofNat (x / 256 % 256)
def lo8 (x : Nat) : UInt8 := UInt8.ofNat (x % 256)
theorem enc2_eq (x : Nat) : enc 2 x = [hi8 x, lo8 x] := rfl
/-- The first 12 bytes, one by one. -/
theorem s5_bytes (m : Ms) (i : Nat) : ∃ B : List UInt8,
    m.s5.1 = hi8 (m.h.id) :: lo8 (m.h.id) :: hi8 (flagsN m.h) :: lo8 (flagsN m.h) :: hi8 (m.qs.length) :: lo8 (m.qs.length) :: hi8 (m.an.length) :: lo8 (m.an.length) :: hi8 (m.au.length) :: lo8 (m.au.length) :: hi8 (m.xn) :: lo8 (m.xn) :: B ∧
    (m.withId i).s5.1 = hi8 (i) :: lo8 (i) :: m.s5.1.drop 2 := by
  obtain ⟨X, e1, e2⟩ := (id_pal m i).ex
  have a1 : m.s0.1 = wrL m.h m.qs.length m.an.length m.au.length m.xn := rfl
  have a2 : (m.withId i).s0.1 = wrL (m.withId i).h m.qs.length m.an.length m.au.length m.xn := rfl
  rw [a1] at e1
  rw [a2] at e2
  unfold wrL at e1 e2
  simp only [Int.toNat_natCast, enc2_eq, List.cons_append, List.nil_append] at e1 e2
  refine ⟨X, e1, ?_⟩
  rw [e2, e1]
  rfl
theorem withId_may (m : Ms) (i : Nat) : (m.withId i).may = m.may := rfl
theorem withId_wE (m : Ms) (i : Nat) : (m.withId i).wE = m.wE := by
  have h := ((id_pal m i).eqv ⟨by rw [m.s0_len, (m.withId i).s0_len], rfl⟩).1
  unfold Ms.wE
  rw [withId_may, ← h]
  rfl
end Go.Proofs.YtoncjhjnmomecaaDoor
