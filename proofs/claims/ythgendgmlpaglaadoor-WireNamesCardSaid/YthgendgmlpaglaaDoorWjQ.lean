/-
  Wire: a message that is written is read as it was; how long it is (plain).
-/
import Derived.Test.YthgendgmlpaglaaDoorWjP
namespace Go.Proofs.YthgendgmlpaglaaDoor
open Go.RowKit

theorem wr_nums (H : Hd) (a b c d : Nat) (B : List UInt8) (hi : H.id < 65536) (hg : ¬ H.bad) (ha : a ≤ 65535) (hb : b ≤ 65535) (hc : c ≤ 65535) (hd : d ≤ 65535) :
    num ⟨(wrL H a b c d ++ B).toArray⟩ 0 2 = H.id ∧ num ⟨(wrL H a b c d ++ B).toArray⟩ 2 2 = flagsN H ∧ num ⟨(wrL H a b c d ++ B).toArray⟩ 4 2 = a ∧ num ⟨(wrL H a b c d ++ B).toArray⟩ 6 2 = b ∧ num ⟨(wrL H a b c d ++ B).toArray⟩ 8 2 = c ∧ num ⟨(wrL H a b c d ++ B).toArray⟩ 10 2 = d := by
  have hf := flagsN_lt H hg
  unfold wrL
  simp only [Int.toNat_natCast]
  have e0 := num_two_at [] (enc 2 (flagsN H) ++ (enc 2 a ++ (enc 2 b ++ (enc 2 c ++ (enc 2 d ++ B))))) H.id hi
  have e1 := num_two_at (enc 2 H.id) (enc 2 a ++ (enc 2 b ++ (enc 2 c ++ (enc 2 d ++ B)))) (flagsN H) hf
  have e2 := num_two_at (enc 2 H.id ++ enc 2 (flagsN H)) (enc 2 b ++ (enc 2 c ++ (enc 2 d ++ B))) a (by omega)
  have e3 := num_two_at (enc 2 H.id ++ enc 2 (flagsN H) ++ enc 2 a) (enc 2 c ++ (enc 2 d ++ B)) b (by omega)
  have e4 := num_two_at (enc 2 H.id ++ enc 2 (flagsN H) ++ enc 2 a ++ enc 2 b) (enc 2 d ++ B) c (by omega)
  have e5 := num_two_at (enc 2 H.id ++ enc 2 (flagsN H) ++ enc 2 a ++ enc 2 b ++ enc 2 c) B d (by omega)
  simp only [List.length_append, enc_len, List.nil_append, List.append_assoc, List.length_nil, Nat.reduceAdd] at e0 e1 e2 e3 e4 e5 ⊢
  exact ⟨e0, e1, e2, e3, e4, e5⟩
theorem Ms.wE0 {m : Ms} (h : m.wE = 0) : m.may = true ∧ (m.has = true → okO m.ops) ∧ m.s5.1.length ≤ 65535 := by
  unfold Ms.wE at h
  by_cases h1 : m.may = false
  · rw [if_pos h1] at h; cases h
  · rw [if_neg h1] at h
    by_cases h2 : (m.has = true ∧ ¬ okO m.ops) ∨ 65535 < m.s5.1.length
    · rw [if_pos h2] at h; cases h
    · refine ⟨by simpa using h1, fun hh => ?_, by omega⟩
      by_cases ho : okO m.ops
      · exact ho
      · exact absurd (.inl ⟨hh, ho⟩) h2
theorem Ms.wE3 (m : Ms) : m.wE = 3 ↔ m.may = false := by
  unfold Ms.wE
  by_cases h1 : m.may = false
  · rw [if_pos h1]; simp [h1]
  · rw [if_neg h1]
    refine ⟨fun h => ?_, fun h => absurd h h1⟩
    split at h <;> cases h
theorem okR_ok {l : List Rc} (h : ∀ r ∈ l, r.rng) (k : l.all okR = true) : ∀ r ∈ l, r.ok ∧ ¬ r.kind = 41 := fun r hr => ⟨rcs_ok h k r hr, by
  have := List.all_eq_true.1 k r hr
  unfold okR at this
  simp only [Bool.and_eq_true, decide_eq_true_eq] at this
  exact this.1.1⟩
theorem ms_eta {m : Ms} {b : Bool} (h : m.has = b) : (⟨m.h, m.qs, m.an, m.au, m.ex, b, m.sz, m.e, m.v, m.f, m.ops⟩ : Ms) = m := by cases m; cases h; rfl
structure Ms.read (m : Ms) : Prop where
  g1 : m.s1.good ∧ m.s1.1.length ≤ 12 + (m.qs.map fun q => q.name.size + 4).sum ∧ ∀ B, rdQs ⟨(m.s1.1 ++ B).toArray⟩ m.qs.length 12 = .ok m.qs m.s1.1.length
  g2 : m.s2.good ∧ m.s2.1.length ≤ m.s1.1.length + (m.an.map fun r => r.name.size + 10 + r.data.size).sum ∧ (m.s2.1.length ≤ 65535 → ∀ B add d k, rdRs ⟨(m.s2.1 ++ B).toArray⟩ add (m.an.length + k) m.s1.1.length d = (rdRs ⟨(m.s2.1 ++ B).toArray⟩ add k m.s2.1.length d).pre m.an)
  g3 : m.s3.good ∧ m.s3.1.length ≤ m.s2.1.length + (m.au.map fun r => r.name.size + 10 + r.data.size).sum ∧ (m.s3.1.length ≤ 65535 → ∀ B add d k, rdRs ⟨(m.s3.1 ++ B).toArray⟩ add (m.au.length + k) m.s2.1.length d = (rdRs ⟨(m.s3.1 ++ B).toArray⟩ add k m.s3.1.length d).pre m.au)
  g4 : m.s4.good ∧ m.s4.1.length ≤ m.s3.1.length + (m.ex.map fun r => r.name.size + 10 + r.data.size).sum ∧ (m.s4.1.length ≤ 65535 → ∀ B add d k, rdRs ⟨(m.s4.1 ++ B).toArray⟩ add (m.ex.length + k) m.s3.1.length d = (rdRs ⟨(m.s4.1 ++ B).toArray⟩ add k m.s4.1.length d).pre m.ex)
theorem Ms.reads {m : Ms} (hr : m.rng) (hm : m.may = true) : m.read := by
  obtain ⟨hg, ql, al, ul, xl, q, a, u, x, z⟩ := Ms.may_yes.1 hm
  have g1 := qs_back m.qs m.s0 (fun y hy => ⟨hr.q y hy, List.all_eq_true.1 q y hy⟩) (TOk.nil _)
  rw [m.s0_len] at g1
  have g2 := rs_back m.an m.s1 (okR_ok hr.a a) g1.1
  have g3 := rs_back m.au m.s2 (okR_ok hr.u u) g2.1
  have g4 := rs_back m.ex m.s3 (okR_ok hr.x x) g3.1
  exact ⟨g1, g2, g3, g4⟩
/-- How long a message is with its names whole. -/
def Ms.whole (m : Ms) : Nat := 12 + (m.qs.map fun q => q.name.size + 4).sum + (m.an.map fun r => r.name.size + 10 + r.data.size).sum + (m.au.map fun r => r.name.size + 10 + r.data.size).sum + (m.ex.map fun r => r.name.size + 10 + r.data.size).sum + (if m.has = true then 11 + (m.ops.map fun o => 4 + o.2.size).sum else 0)
theorem opsB_sum (l : List Opt) : (opsB l).length = (l.map fun o => 4 + o.2.size).sum := by
  unfold opsB
  rw [List.length_flatMap]
  congr 1
  exact List.map_congr_left fun o _ => opB_len o
theorem s5_whole {m : Ms} (hr : m.rng) (h0 : m.wE = 0) : m.s5.1.length ≤ m.whole := by
  obtain ⟨hm, ho, _⟩ := Ms.wE0 h0
  obtain ⟨g1, g2, g3, g4⟩ := Ms.reads hr hm
  have l1 := g1.2.1
  have l2 := g2.2.1
  have l3 := g3.2.1
  have l4 := g4.2.1
  unfold Ms.whole Ms.s5
  cases hh : m.has with
  | false => simp only [Bool.false_eq_true, if_false]; omega
  | true =>
    simp only [if_true]
    have := (op_back hr.sz hr.e hr.v hr.f hr.o (ho hh) g4.1).1
    have e := opsB_sum m.ops
    omega
theorem s5_from (m : Ms) : (∃ B, m.s5.1 = m.s0.1 ++ B) ∧ (∃ B, m.s5.1 = m.s1.1 ++ B) ∧ (∃ B, m.s5.1 = m.s2.1 ++ B) ∧ (∃ B, m.s5.1 = m.s3.1 ++ B) ∧ (∃ B, m.s5.1 = m.s4.1 ++ B) := by
  have a4 := m.le45
  have a3 := m.le34.trans a4
  have a2 := m.le23.trans a3
  have a1 := m.le12.trans a2
  have a0 := (qsF_le m.qs m.s0).trans a1
  exact ⟨a0.1, a1.1, a2.1, a3.1, a4.1⟩
/-- What is written is read as it was. -/
theorem m_back {m : Ms} (hr : m.rng) (h0 : m.wE = 0) : rdM ⟨m.s5.1.toArray⟩ = .ok m := by
  obtain ⟨hm, ho, hl⟩ := Ms.wE0 h0
  obtain ⟨g1, g2, g3, g4⟩ := Ms.reads hr hm
  obtain ⟨hg, ql, al, ul, xl, q, a, u, x, z⟩ := Ms.may_yes.1 hm
  obtain ⟨⟨B0, e0⟩, ⟨B1, e1⟩, ⟨B2, e2⟩, ⟨B3, e3⟩, ⟨B4, e4⟩⟩ := s5_from m
  have hz : (⟨m.s5.1.toArray⟩ : ByteArray).size = m.s5.1.length := size_mk _
  have h12 := m.s0_len
  have l0 : m.s5.1.length = 12 + B0.length := by rw [e0, List.length_append, h12]
  have l2 : m.s5.1.length = m.s2.1.length + B2.length := by rw [e2, List.length_append]
  have l3 : m.s5.1.length = m.s3.1.length + B3.length := by rw [e3, List.length_append]
  have l4 : m.s5.1.length = m.s4.1.length + B4.length := by rw [e4, List.length_append]
  obtain ⟨n0, n1, n2, n3, n4, n5⟩ := wr_nums m.h m.qs.length m.an.length m.au.length m.xn B0 hr.id hg ql al ul xl
  have es0 : wrL m.h m.qs.length m.an.length m.au.length m.xn ++ B0 = m.s5.1 := e0.symm
  rw [es0] at n0 n1 n2 n3 n4 n5
  have r1 := g1.2.2 B1
  rw [← e1] at r1
  have r2 := g2.2.2 (by omega) B2 false ed0 0
  rw [← e2] at r2
  have r3 := g3.2.2 (by omega) B3 false ed0 0
  rw [← e3] at r3
  have hN : rdRs ⟨m.s5.1.toArray⟩ true m.xn m.s3.1.length ed0 = .ok m.ex m.s5.1.length ⟨m.has, m.sz, m.e, m.v, m.f, m.ops⟩ := by
    have r4 := g4.2.2 (by omega) B4 true ed0 m.has.toNat
    rw [← e4] at r4
    show rdRs _ true (m.ex.length + m.has.toNat) _ _ = _
    rw [r4]
    unfold Ms.s5 at hl ⊢
    cases hh : m.has with
    | false =>
      rw [hh] at z
      have hz0 : m.zero = true := by simpa using z
      unfold Ms.zero at hz0
      obtain ⟨z1, z2, z3, z4, z5⟩ := of_decide_eq_true hz0
      simp only [Bool.toNat_false, Bool.false_eq_true, if_false]
      rw [z1, z2, z3, z4, z5]
      show (Rq.ok [] m.s4.1.length ed0).pre m.ex = _
      rw [Rq.pre, List.append_nil]
      rfl
    | true =>
      simp only [Bool.toNat_true, if_true]
      have r5 := (op_back hr.sz hr.e hr.v hr.f hr.o (ho hh) g4.1).2 []
      rw [List.append_nil] at r5
      rw [rdRs_opt (k := 0) r5]
      show (Rq.ok [] _ _).pre m.ex = _
      rw [Rq.pre, List.append_nil]
  unfold rdM
  rw [if_neg (by omega), if_neg (by omega), n0, n1, n2, n3, n4, n5, r1]
  unfold rdG rdA
  dsimp only
  have r2' : rdRs ⟨m.s5.1.toArray⟩ false m.an.length m.s1.1.length ed0 = .ok m.an m.s2.1.length ed0 := by
    rw [← Nat.add_zero m.an.length, r2, rdRs, Rq.pre, List.append_nil]
  have r3' : rdRs ⟨m.s5.1.toArray⟩ false m.au.length m.s2.1.length ed0 = .ok m.au m.s3.1.length ed0 := by
    rw [← Nat.add_zero m.au.length, r3, rdRs, Rq.pre, List.append_nil]
  rw [r2']
  dsimp only
  unfold rdU
  rw [r3']
  dsimp only
  unfold rdX
  rw [hN]
  dsimp only
  have hE : msOf (fromN m.h.id (flagsN m.h)) m.qs m.an m.au m.ex ⟨m.has, m.sz, m.e, m.v, m.f, m.ops⟩ = m := by
    rw [from_flags _ hg]
    exact ms_eta rfl
  unfold rdEnd
  rw [hE, if_neg (by omega), if_pos h0]
/-- What is read can be written. -/
theorem rdM_rng {s : ByteArray} {m : Ms} (h : rdM s = .ok m) : m.rng ∧ m.wE = 0 ∧ 12 ≤ s.size ∧ s.size ≤ 65535 := by
  unfold rdM at h
  by_cases h1 : 65535 < s.size
  · rw [if_pos h1] at h; cases h
  · rw [if_neg h1] at h
    by_cases h2 : s.size < 12
    · rw [if_pos h2] at h; cases h
    · rw [if_neg h2] at h
      cases hq : rdQs s (num s 4 2) 12 with
      | no e => rw [hq] at h; cases h
      | ok qs p =>
        rw [hq] at h
        unfold rdG rdA at h
        dsimp only at h
        cases ha : rdRs s false (num s 6 2) p ed0 with
        | no e => rw [ha] at h; cases h
        | ok an p1 d1 =>
          rw [ha] at h
          dsimp only at h
          unfold rdU at h
          cases hu : rdRs s false (num s 8 2) p1 d1 with
          | no e => rw [hu] at h; cases h
          | ok au p2 d2 =>
            rw [hu] at h
            dsimp only at h
            unfold rdX at h
            cases hx : rdRs s true (num s 10 2) p2 d2 with
            | no e => rw [hx] at h; cases h
            | ok ex p3 d3 =>
              rw [hx] at h
              dsimp only at h
              unfold rdEnd at h
              have n0 := num_lt s 0 2
              have n3 := num_lt s 10 2
              have hg := msOf_rng (H := fromN (num s 0 2) (num s 2 2)) (by show num s 0 2 < 65536; omega) (by omega) (by omega) hq ha hu hx
              split at h
              · cases h
              · split at h
                · rename_i h5
                  cases h
                  exact ⟨hg, h5, by omega, by omega⟩
                · cases h
end Go.Proofs.YthgendgmlpaglaaDoor
