/-
  Intake: what a datagram is, its room, its reply (plain).
-/
import Derived.Test.YtkhigfbmdolgmaaGreatDoorWjH
namespace Go.Proofs.YtkhigfbmdolgmaaGreatDoor
open Go.RowKit

/-- What came. -/
structure Cm where
  kind : Nat
  code : Int
  h : Hd
  hasQ : Bool
  q : Qn
  hasE : Bool
  size : Int
def q0 : Qn := ⟨ByteArray.empty, 0, 0⟩
/-- The parts of a query's header that count. -/
def hC (h : Hd) : Hd := ⟨h.id, false, h.op, false, false, h.rd, false, false, false, h.cd, 0⟩
def cm0 (h : Hd) : Cm := ⟨0, 0, hC h, false, q0, false, 0⟩
def Cm.edns (c : Cm) (m : Ms) : Cm := ⟨c.kind, c.code, c.h, c.hasQ, c.q, m.has, if m.has = true then (m.sz : Int) else 0⟩
def Cm.ask (c : Cm) (q : Qn) : Cm := ⟨c.kind, c.code, c.h, true, q, c.hasE, c.size⟩
inductive Lk where
  | drop
  | told (c : Cm) (n : Nat)
  | asks (c : Cm)
def refd (q : Qn) : Bool := decide (q.cls ≠ 1) || (decide (q.kind = 0) || decide (q.kind = 41) || (decide (249 ≤ q.kind) && decide (q.kind ≤ 255)))
def examQ (c : Cm) (m : Ms) (q : Qn) : Lk := if m.has = true ∧ m.v ≠ 0 then .told (c.ask q) 16 else if refd q = true then .told (c.ask q) 5 else .asks (c.ask q)
def examM (c : Cm) (m : Ms) : Lk := match m.qs with
  | [q] => examQ (c.edns m) m q
  | _ => .told (c.edns m) 1
def exam (s : ByteArray) : Lk :=
  if s.size < 12 then .drop
  else if (fromN (num s 0 2) (num s 2 2)).qr = true then .drop
  else if (fromN (num s 0 2) (num s 2 2)).op ≠ 0 then .told (cm0 (fromN (num s 0 2) (num s 2 2))) 4
  else if dcE s ≠ 0 then .told (cm0 (fromN (num s 0 2) (num s 2 2))) 1
  else examM (cm0 (fromN (num s 0 2) (num s 2 2))) (dcM s)
def Lk.cm : Lk → Cm
  | .drop => ⟨1, 0, hd0, false, q0, false, 0⟩
  | .told c n => ⟨2, n, c.h, c.hasQ, c.q, c.hasE, c.size⟩
  | .asks c => ⟨3, c.code, c.h, c.hasQ, c.q, c.hasE, c.size⟩
def look (s : ByteArray) : Cm := (exam s).cm
/-- How many bytes a reply has room for. -/
def room (c : Cm) (most : Int) : Int := if c.hasE = true ∧ 512 < c.size then min c.size (max most 512) else 512
/-- The reply by a code. -/
def blank (c : Cm) (code size : Int) : Ms :=
  ⟨⟨c.h.id, true, c.h.op, false, false, c.h.rd, true, false, false, c.h.cd, (code % 16).toNat⟩, if c.hasQ = true then [c.q] else [], [], [], [], c.hasE, if c.hasE = true then (size % 65536).toNat else 0, if c.hasE = true then (code % 4096 / 16).toNat else 0, 0, 0, []⟩

theorem dcE_ok {s : ByteArray} (h : dcE s = 0) : rdM s = .ok (dcM s) := by
  unfold dcE dcM at *
  cases hr : rdM s with
  | ok m => rfl
  | error x =>
    rw [hr] at h
    exact absurd h (rdM_no hr)
theorem rdM_h {s : ByteArray} {m : Ms} (h : rdM s = .ok m) : m.h = fromN (num s 0 2) (num s 2 2) := by
  obtain ⟨qs, p, an, p1, d1, au, p2, d2, ex, d3, _, _, _, _, e⟩ := (rdM_parts h).ex
  rw [e]; rfl
/-- What is not dropped: as its header says; its question may be. -/
structure LkOk (s : ByteArray) (c : Cm) : Prop where
  long : 12 ≤ s.size
  id : c.h.id = num s 0 2
  op : c.h.op < 16
  q : c.hasQ = true → c.q.rng ∧ may c.q.name = true
  kind : c.kind = 2 ∨ c.kind = 3
theorem look_cases (s : ByteArray) : look s = Lk.cm .drop ∨ LkOk s (look s) := by
  have hop : (fromN (num s 0 2) (num s 2 2)).op < 16 := by
    show num s 2 2 / 2048 % 16 < 16
    omega
  unfold look exam
  by_cases h12 : s.size < 12
  · rw [if_pos h12]; exact .inl rfl
  rw [if_neg h12]
  by_cases hq : (fromN (num s 0 2) (num s 2 2)).qr = true
  · rw [if_pos hq]; exact .inl rfl
  rw [if_neg hq]
  refine .inr ?_
  by_cases ho : (fromN (num s 0 2) (num s 2 2)).op ≠ 0
  · rw [if_pos ho]
    exact ⟨by omega, rfl, hop, fun h => (by cases h), .inl rfl⟩
  rw [if_neg ho]
  by_cases he : dcE s ≠ 0
  · rw [if_pos he]
    exact ⟨by omega, rfl, hop, fun h => (by cases h), .inl rfl⟩
  rw [if_neg he]
  have hM := dcE_ok (s := s) (by omega)
  obtain ⟨hr, h0, _, _⟩ := rdM_rng hM
  have hm := (Ms.wE0 h0).1
  unfold examM
  generalize hl : (dcM s).qs = l at *
  match l, hl with
  | [], _ => exact ⟨by omega, rfl, hop, fun h => (by cases h), .inl rfl⟩
  | [q], hl =>
    have hq1 : q.rng ∧ may q.name = true := by
      refine ⟨hr.q q (by rw [hl]; exact List.mem_singleton.2 rfl), ?_⟩
      have := (Ms.may_yes.1 hm).q
      exact List.all_eq_true.1 this q (by rw [hl]; exact List.mem_singleton.2 rfl)
    show LkOk s (examQ _ _ q).cm
    unfold examQ
    split
    · exact ⟨by omega, rfl, hop, fun _ => hq1, .inl rfl⟩
    · split
      · exact ⟨by omega, rfl, hop, fun _ => hq1, .inl rfl⟩
      · exact ⟨by omega, rfl, hop, fun _ => hq1, .inr rfl⟩
  | a :: b :: l, _ => exact ⟨by omega, rfl, hop, fun h => (by cases h), .inl rfl⟩
theorem s5_le_whole {m : Ms} (hr : m.rng) (hm : m.may = true) (ho : m.has = true → okO m.ops) : m.s5.1.length ≤ m.whole := by
  obtain ⟨g1, g2, g3, g4⟩ := Ms.reads hr hm
  have l1 := g1.2.1
  have l2 := g2.2.1
  have l3 := g3.2.1
  have l4 := g4.2.1
  unfold Ms.whole Ms.s5
  cases hh : m.has with
  | false => simp only [Bool.false_eq_true, if_false]; omega
  | true =>
    simp only [if_true]
    have := (op_back hr.sz hr.e hr.v hr.f hr.o (ho hh) g4.1).1
    have e := opsB_sum m.ops
    omega
theorem code_16 (x : Int) : (x % 16).toNat < 16 := by omega
theorem blank_rng {c : Cm} {code size : Int} (hi : c.h.id < 65536) (hq : c.hasQ = true → c.q.rng) : (blank c code size).rng := by
  refine ⟨hi, ?_, fun r h => (by cases h), fun r h => (by cases h), fun r h => (by cases h), Nat.zero_le _, Nat.zero_le _, ?_, ?_, (by show (0 : Nat) < 256; omega), (by show (0 : Nat) < 65536; omega), fun o h => (by cases h)⟩
  · intro q h
    unfold blank at h
    dsimp only at h
    split at h
    · rw [List.mem_singleton] at h
      subst h
      exact hq (by assumption)
    · cases h
  · unfold blank
    dsimp only
    split <;> omega
  · unfold blank
    dsimp only
    split <;> omega
theorem blank_may {c : Cm} {code size : Int} (ho : c.h.op < 16) (hq : c.hasQ = true → may c.q.name = true) : (blank c code size).may = true := by
  refine Ms.may_yes.2 ⟨?_, ?_, Nat.zero_le _, Nat.zero_le _, ?_, ?_, rfl, rfl, rfl, ?_⟩
  · unfold Hd.bad
    have := code_16 code
    show ¬ (15 < c.h.op ∨ 15 < (code % 16).toNat)
    omega
  · unfold blank
    dsimp only
    split <;> simp
  · unfold Ms.xn blank
    dsimp only
    cases c.hasE <;> simp
  · unfold blank
    dsimp only
    cases hh : c.hasQ with
    | false => rfl
    | true => simp [okQ, hq hh]
  · unfold Ms.zero blank
    dsimp only
    cases c.hasE <;> simp
theorem blank_ok {c : Cm} {code size : Int} (hi : c.h.id < 65536) (ho : c.h.op < 16) (hq : c.hasQ = true → c.q.rng ∧ may c.q.name = true) : (blank c code size).wE = 0 ∧ (blank c code size).s5.1.length ≤ 512 := by
  have hr := blank_rng (code := code) (size := size) hi fun h => (hq h).1
  have hm := blank_may (code := code) (size := size) ho fun h => (hq h).2
  have hk : okO (blank c code size).ops := by show okO []; decide
  have hl := s5_le_whole hr hm fun _ => hk
  have hw : (blank c code size).whole ≤ 512 := by
    unfold Ms.whole blank
    dsimp only
    cases hh : c.hasQ with
    | false => cases c.hasE <;> simp
    | true =>
      have := (may_size (hq hh).2).1
      cases c.hasE <;> simp <;> omega
  refine ⟨?_, by omega⟩
  unfold Ms.wE
  rw [if_neg (by rw [hm]; simp), if_neg]
  rintro (⟨_, h⟩ | h)
  · exact h hk
  · omega
theorem room_512 (c : Cm) (most : Int) : 512 ≤ room c most := by
  unfold room
  split <;> omega
theorem mask64 (x : Int) (k : Nat) (hk : k ≤ 32) : bits .and .i64 x ((2 ^ k - 1 : Nat) : Int) = x % ((2 ^ k : Nat) : Int) := by
  have h1 : 2 ^ k ≤ 2 ^ 32 := Nat.pow_le_pow_right (by omega) hk
  have h0 : 0 < 2 ^ k := Nat.two_pow_pos k
  have hd : (2 ^ 64 : Nat) = 2 ^ k * 2 ^ (64 - k) := by rw [← Nat.pow_add]; congr 1; omega
  unfold bits
  dsimp only
  rw [BitVec.toNat_and, BitVec.toNat_ofInt, BitVec.toNat_ofInt]
  have e1 : (((2 ^ k - 1 : Nat) : Int) % ((2 ^ IntKind.i64.bits : Nat) : Int)).toNat = 2 ^ k - 1 := by
    have : ((2 ^ IntKind.i64.bits : Nat) : Int) = 18446744073709551616 := by decide
    rw [this]
    omega
  rw [e1, Nat.and_two_pow_sub_one_eq_mod]
  have e2 : ((x % ((2 ^ IntKind.i64.bits : Nat) : Int)).toNat % 2 ^ k : Nat) = (x % ((2 ^ k : Nat) : Int)).toNat := by
    have hb : IntKind.i64.bits = 64 := rfl
    rw [hb, hd]
    have h3 : 0 ≤ x % ((2 ^ k * 2 ^ (64 - k) : Nat) : Int) := Int.emod_nonneg _ (by have := Nat.two_pow_pos (64 - k); have := Nat.mul_pos h0 this; omega)
    have h4 : 0 ≤ x % ((2 ^ k : Nat) : Int) := Int.emod_nonneg _ (by omega)
    apply Int.ofNat.inj
    show (((x % ((2 ^ k * 2 ^ (64 - k) : Nat) : Int)).toNat % 2 ^ k : Nat) : Int) = ((x % ((2 ^ k : Nat) : Int)).toNat : Int)
    rw [Int.natCast_emod, Int.toNat_of_nonneg h3, Int.toNat_of_nonneg h4]
    exact Int.emod_emod_of_dvd x (Int.natCast_dvd_natCast.2 (Nat.dvd_mul_right _ _))
  rw [e2]
  have h4 : 0 ≤ x % ((2 ^ k : Nat) : Int) := Int.emod_nonneg _ (by omega)
  have h5 : x % ((2 ^ k : Nat) : Int) < ((2 ^ k : Nat) : Int) := Int.emod_lt_of_pos _ (by omega)
  rw [Int.toNat_of_nonneg h4]
  rw [IntWalk.i64_left]
  unfold wrap64
  omega
end Go.Proofs.YtkhigfbmdolgmaaGreatDoor
