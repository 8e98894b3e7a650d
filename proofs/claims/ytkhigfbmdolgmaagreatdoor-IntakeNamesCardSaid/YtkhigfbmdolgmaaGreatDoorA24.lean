/-
  Wire: what the document says of a message (plain).
  The document's header, cursor and EDNS (chapters 02, 03, 06), for its messages.
  Wire: the document's records, May.
  Wire: the document's put.
  Wire: the document's May.
  Wire: the document's Encode.
-/
import Derived.Test.YtkhigfbmdolgmaaGreatDoorA16
import Derived.Test.YtkhigfbmdolgmaaGreatDoorA4
import Derived.Test.YtkhigfbmdolgmaaGreatDoorA6
import Derived.Test.YtkhigfbmdolgmaaGreatDoorA9
import Derived.Test.YtkhigfbmdolgmaaGreatDoorA10
import Derived.Test.YtkhigfbmdolgmaaGreatDoorA11
import Derived.ChangeKeysEq
import Derived.Laws.StructEq
import Derived.Deep.Cut
import Derived.Test.YtkhigfbmdolgmaaGreatDoorA17
namespace Go.Proofs.YtkhigfbmdolgmaaGreatDoor
open Go.RowKit

theorem mayD_41 (d : ByteArray) : mayD 41 d = false := by
  unfold mayD whF splF
  rw [if_pos rfl]
  rfl
def okR' (r : Rc) : Bool := may r.name && mayD r.kind r.data
theorem okR_same (r : Rc) : okR r = okR' r := by
  unfold okR okR'
  by_cases h : r.kind = 41
  · rw [h, mayD_41]; simp
  · simp [h]
theorem okR_eq : okR = okR' := funext okR_same
/-- Whether the document lets a section be. -/
def secB (l : List Rc) : Bool := decide (l.length ≤ 65535) && l.all okR'
/-- What the document asks first. -/
def Ms.hB (m : Ms) : Bool := decide (15 < m.h.op) || decide (15 < m.h.code) || decide (65535 < m.qs.length) || (!m.has && !m.zero) || (m.has && decide (65534 < m.ex.length))
theorem Ms.may_doc (m : Ms) : m.may = (!m.hB && m.qs.all okQ && secB m.an && secB m.au && secB m.ex) := by
  rw [Bool.eq_iff_iff, Ms.may_yes]
  unfold secB Ms.hB
  rw [← okR_eq]
  constructor
  · intro y
    have hb := y.h
    unfold Hd.bad at hb
    have xl := y.xl
    unfold Ms.xn at xl
    have hz := y.z
    simp only [Bool.and_eq_true, Bool.not_eq_true', Bool.or_eq_false_iff, decide_eq_false_iff_not, decide_eq_true_eq, Bool.and_eq_false_iff, Bool.not_eq_false']
    refine ⟨⟨⟨⟨⟨⟨⟨⟨by omega, by omega⟩, by have := y.ql; omega⟩, ?_⟩, ?_⟩, y.q⟩, y.al, y.a⟩, y.ul, y.u⟩, by omega, y.x⟩
    · cases hh : m.has with
      | true => exact .inl (by simp)
      | false => rw [hh] at hz; exact .inr (by simpa using hz)
    · cases hh : m.has with
      | false => exact .inl rfl
      | true => rw [hh] at xl; exact .inr (by simp at xl; omega)
  · intro h
    simp only [Bool.and_eq_true, Bool.not_eq_true', Bool.or_eq_false_iff, decide_eq_false_iff_not, decide_eq_true_eq, Bool.and_eq_false_iff, Bool.not_eq_false'] at h
    obtain ⟨⟨⟨⟨⟨⟨⟨⟨h1, h2⟩, h3⟩, h4⟩, h5⟩, hq⟩, ha1, ha2⟩, hu1, hu2⟩, hx1, hx2⟩ := h
    refine ⟨by unfold Hd.bad; omega, by omega, ha1, hu1, ?_, hq, ha2, hu2, hx2, ?_⟩
    · unfold Ms.xn
      cases hh : m.has with
      | false => simp; omega
      | true => rw [hh] at h5; simp at h5 ⊢; omega
    · cases hh : m.has with
      | true => rfl
      | false => rw [hh] at h4; simpa using h4
theorem wrF_low_ (cmp : Bool) : ∀ (l : List Pc) (T : Tb) (out : List UInt8), Low T → Low (wrF cmp l T out).2 := by
  intro l
  induction l with
  | nil => intro T out h; exact h
  | cons x l ih =>
    intro T out h
    cases hn : x.name with
    | true => rw [wrF_nam hn]; exact ih _ _ (putF_low x.text cmp cmp _ 0 T out rfl h)
    | false => rw [wrF_txt hn]; exact ih _ _ h
theorem rF_low {s : Ws} (h : Low s.2) (r : Rc) : Low (rF s r).2 := by
  unfold rF rD
  exact wrF_low_ _ _ _ _ (putF_low r.name true true _ 0 s.2 s.1 rfl h)
theorem qF_low {s : Ws} (h : Low s.2) (q : Qn) : Low (qF s q).2 := putF_low q.name true true _ 0 s.2 s.1 rfl h
theorem qsF_take_le (s : Ws) (l : List Qn) (k : Nat) : (qsF s (l.take k)).le (qsF s l) := by
  have : qsF s l = qsF (qsF s (l.take k)) (l.drop k) := by
    unfold qsF
    rw [← List.foldl_append, List.take_append_drop]
  rw [this]
  exact qsF_le _ _
theorem rsF_take_le (s : Ws) (l : List Rc) (k : Nat) : (rsF s (l.take k)).le (rsF s l) := by
  have : rsF s l = rsF (rsF s (l.take k)) (l.drop k) := by
    unfold rsF
    rw [← List.foldl_append, List.take_append_drop]
  rw [this]
  exact rsF_le _ _
theorem qsF_low {s : Ws} (h : Low s.2) (l : List Qn) : Low (qsF s l).2 := by
  induction l generalizing s with
  | nil => exact h
  | cons q l ih => exact ih (qF_low h q)
theorem rsF_low {s : Ws} (h : Low s.2) (l : List Rc) : Low (rsF s l).2 := by
  induction l generalizing s with
  | nil => exact h
  | cons q l ih => exact ih (rF_low h q)
theorem nmF_root (s : Ws) : nmF root0 s = (s.1 ++ [0], s.2) := by
  unfold nmF
  rw [putF, dif_neg (by decide +kernel)]
theorem wE_long {m : Ms} (hm : m.may = true) {s : Ws} (hs : s.le m.s5) (h : 65535 < s.1.length) : m.wE = 5 := by
  unfold Ms.wE
  rw [if_neg (by rw [hm]; simp), if_pos (.inr (by have := hs.len; omega))]
theorem wE_opts {m : Ms} (hm : m.may = true) (h1 : m.has = true) (h2 : ¬ okO m.ops) : m.wE = 5 := by
  unfold Ms.wE
  rw [if_neg (by rw [hm]; simp), if_pos (.inl ⟨h1, h2⟩)]
theorem wE_fine {m : Ms} (hm : m.may = true) (h1 : m.has = true → okO m.ops) (h : m.s5.1.length ≤ 65535) : m.wE = 0 := by
  unfold Ms.wE
  rw [if_neg (by rw [hm]; simp), if_neg]
  rintro (⟨k1, k2⟩ | k)
  · exact k2 (h1 k1)
  · omega
theorem wE_not {m : Ms} (hm : m.may = false) : m.wE = 3 := if_pos hm
/-- Bytes of a state, as a string. -/
def Ws.str (s : Ws) : ByteArray := ⟨s.1.toArray⟩
theorem Ws.str_size (s : Ws) : s.str.size = s.1.length := size_mk _
end Go.Proofs.YtkhigfbmdolgmaaGreatDoor
namespace Go.Proofs.YtkhigfbmdolgmaaGreatDoor

theorem counts_eq (w : World) (a b c d a' b' c' d' : Int) : (Op.equalIn 10000 74 (.agg #[.int .i64 a, .int .i64 b, .int .i64 c, .int .i64 d]) (.agg #[.int .i64 a', .int .i64 b', .int .i64 c', .int .i64 d'])).run Tryz.prog w = .ok (a == a' && (b == b' && (c == c' && d == d'))) w := by
  have hi : Tryz.prog.cellsOf 3 = 1 := by kernel_rfl
  have r4 : List.range 4 = [0, 1, 2, 3] := by decide
  obtain ⟨i, hq⟩ := Option.isSome_iff_exists.1 (show (Tryz.prog.info? 3).isSome = true by kernel_rfl)
  rw [run_equalIn_array w 9999 _ _ Tryz.underlying74 hq, r4]
  by_cases h1 : a = a' <;> by_cases h2 : b = b' <;> by_cases h3 : c = c' <;> by_cases h4 : d = d' <;> simp [Op.eqItems, part, hi, go_sem, h1, h2, h3, h4]
theorem four_eq (w : World) (a b c d a' b' c' d' : Int) : (Op.equalIn 10000 60 (.agg #[.int .i64 a, .int .i64 b, .int .i64 c, .int .i64 d]) (.agg #[.int .i64 a', .int .i64 b', .int .i64 c', .int .i64 d'])).run Tryz.prog w = .ok (a == a' && (b == b' && (c == c' && d == d'))) w := by
  have hi : Tryz.prog.cellsOf 3 = 1 := by kernel_rfl
  have r4 : List.range 4 = [0, 1, 2, 3] := by decide
  obtain ⟨i, hq⟩ := Option.isSome_iff_exists.1 (show (Tryz.prog.info? 3).isSome = true by kernel_rfl)
  rw [run_equalIn_array w 9999 _ _ Tryz.underlying60 hq, r4]
  by_cases h1 : a = a' <;> by_cases h2 : b = b' <;> by_cases h3 : c = c' <;> by_cases h4 : d = d' <;> simp [Op.eqItems, part, hi, go_sem, h1, h2, h3, h4]
end Go.Proofs.YtkhigfbmdolgmaaGreatDoor
namespace Go.Proofs.YtkhigfbmdolgmaaGreatDoor
open Go.RowKit

theorem read_lit (s : ByteArray) (h c : Value) (w : World) (he : Et w) (hb : Bt w) (hl : 12 ≤ s.size) (hs : s.size ≤ maxLen) (hh : (fromN (num s 0 2) (num s 2 2)).v = h) (hc : cv (num s 4 2) (num s 6 2) (num s 8 2) (num s 10 2) = c) : Calls Tryz.prog 18 #[.string s] w fun e w' => e = .returned (.tuple #[h, c, .int .i64 0]) ∧ w.grownBy w' none := by
  subst hh hc
  exact read_ok s w he hb hl hs
theorem flags_lit (H : Hd) (a : Value) (n k : Int) (w : World) (hb : Bt w) (ha : H.v = a) (hn : (flN H : Int) = n) (hk : (flE H : Int) = k) : Calls Tryz.prog 74 #[a] w fun e w' => e = .returned (.tuple #[.int .u16 n, .int .i64 k]) ∧ w.grownBy w' none := by
  subst ha hn hk
  exact flags_any H w hb

theorem gfrom1 {a w : World} {o : Obj} (h : (a.alloc o).grownBy w none) : a.grownBy w none := gtrans (galloc (grefl _ none) _) h
theorem gfrom2 {a w : World} {o p : Obj} (h : ((a.alloc o).alloc p).grownBy w none) : a.grownBy w none := gfrom1 (gfrom1 h)

end Go.Proofs.YtkhigfbmdolgmaaGreatDoor
namespace Go.Proofs.YtkhigfbmdolgmaaGreatDoor
open Go.RowKit

theorem wrap_in (x : Int) (h : -9223372036854775808 ≤ x) (h' : x < 9223372036854775808) : wrap64 x = x := by unfold wrap64; omega
theorem wrap_small (n : Nat) (h : n < 256) : wrap64 (n : Int) = n := wrap_in _ (by omega) (by omega)
theorem num_two (s : ByteArray) (p : Nat) (h : p + 2 ≤ s.size) : num s p 2 = (s[p]'(by omega)).toNat * 256 + (s[p + 1]'(by omega)).toNat := by
  have hl : s.data.toList.length = s.size := Array.length_toList
  unfold num
  rw [List.drop_eq_getElem_cons (by omega), List.drop_eq_getElem_cons (by omega), List.take_succ_cons, List.take_succ_cons, List.take_zero]
  simp only [be, List.foldl_cons, List.foldl_nil, Nat.zero_mul, Nat.zero_add]
  rfl

end Go.Proofs.YtkhigfbmdolgmaaGreatDoor
namespace Go.Proofs.YtkhigfbmdolgmaaGreatDoor
open Go.RowKit

end Go.Proofs.YtkhigfbmdolgmaaGreatDoor
namespace Go.Proofs.YtkhigfbmdolgmaaGreatDoor
open Go.RowKit

theorem rbit_any (q : Bool) (n : Int) (w : World) : Calls Tryz.prog 35 #[.bool q, .int .i64 n] w fun e w' => e = .returned (.int .i64 ((q.toNat : Int) * n)) ∧ w = w' := by
  cases q
  · go_enter Tryz.func35, Tryz.ntmps35
    go_wp2
    go_ret
    exact ⟨by simp, rfl⟩
  · go_enter Tryz.func35, Tryz.ntmps35
    go_wp2
    go_ret
    exact ⟨by simp, rfl⟩

set_option maxRecDepth 100000 in
theorem rhtwo_any (n : Nat) (hn : n < 65536) (w : World) : Calls Tryz.prog 25 #[.int .i64 n] w fun e w' => e = .returned (.string ⟨(enc 2 n).toArray⟩) ∧ w.grownBy w' none := by
  have hcv : (convert 46 9 (.slice (some ⟨w.heap.size, 0, none⟩) 2 2)).run Tryz.prog (w.alloc (.cells #[.int .u8 ((n : Int) / 256), .int .u8 ((n : Int) % 256)] 5)) = .ok (.string ⟨(enc 2 n).toArray⟩) (w.alloc (.cells #[.int .u8 ((n : Int) / 256), .int .u8 ((n : Int) % 256)] 5)) :=
    run_string_of _ 46 9 5 Tryz.underlying46 Tryz.underlying5 Tryz.underlying9 (sl_new w _ (enc 2 n) _ 2 (by
      rw [enc_two]
      simp only [bv, List.map_cons, List.map_nil]
      rw [← cell_byte _ (n / 256) rfl, ← cell_byte _ n rfl]
      rw [show ((n : Int) / 256) = ((n / 256 % 256 : Nat) : Int) by omega, show ((n : Int) % 256) = ((n % 256 : Nat) : Int) by omega]) (by rw [enc_len]))
  go_enter Tryz.func25, Tryz.ntmps25
  go_wp2
  go_ret
  exact ⟨rfl, galloc (grefl _ none) _⟩

theorem sum_wraps (o c q1 q2 q3 q4 q5 q6 q7 q8 : Nat) (ho : o ≤ 15) (hc : c ≤ 15) (h1 : q1 ≤ 1) (h2 : q2 ≤ 1) (h3 : q3 ≤ 1) (h4 : q4 ≤ 1) (h5 : q5 ≤ 1) (h6 : q6 ≤ 1) (h7 : q7 ≤ 1) (h8 : q8 ≤ 1) :
    IntKind.u16.wrap (wrap64 (wrap64 (wrap64 (wrap64 (wrap64 (wrap64 (wrap64 (wrap64 (wrap64 ((q1 : Int) * 32768 + wrap64 (wrap64 (o : Int) * 2048)) + (q2 : Int) * 1024) + (q3 : Int) * 512) + (q4 : Int) * 256) + (q5 : Int) * 128) + (q6 : Int) * 64) + (q7 : Int) * 32) + (q8 : Int) * 16) + wrap64 (c : Int)))
      = ((q1 * 32768 + o * 2048 + q2 * 1024 + q3 * 512 + q4 * 256 + q5 * 128 + q6 * 64 + q7 * 32 + q8 * 16 + c : Nat) : Int) := by
  rw [wrap_in (o : Int) (by omega) (by omega), wrap_in (c : Int) (by omega) (by omega), wrap_in ((o : Int) * 2048) (by omega) (by omega)]
  rw [wrap_in ((q1 : Int) * 32768 + (o : Int) * 2048) (by omega) (by omega), wrap_in ((q1 : Int) * 32768 + (o : Int) * 2048 + (q2 : Int) * 1024) (by omega) (by omega), wrap_in ((q1 : Int) * 32768 + (o : Int) * 2048 + (q2 : Int) * 1024 + (q3 : Int) * 512) (by omega) (by omega), wrap_in ((q1 : Int) * 32768 + (o : Int) * 2048 + (q2 : Int) * 1024 + (q3 : Int) * 512 + (q4 : Int) * 256) (by omega) (by omega), wrap_in ((q1 : Int) * 32768 + (o : Int) * 2048 + (q2 : Int) * 1024 + (q3 : Int) * 512 + (q4 : Int) * 256 + (q5 : Int) * 128) (by omega) (by omega), wrap_in ((q1 : Int) * 32768 + (o : Int) * 2048 + (q2 : Int) * 1024 + (q3 : Int) * 512 + (q4 : Int) * 256 + (q5 : Int) * 128 + (q6 : Int) * 64) (by omega) (by omega), wrap_in ((q1 : Int) * 32768 + (o : Int) * 2048 + (q2 : Int) * 1024 + (q3 : Int) * 512 + (q4 : Int) * 256 + (q5 : Int) * 128 + (q6 : Int) * 64 + (q7 : Int) * 32) (by omega) (by omega), wrap_in ((q1 : Int) * 32768 + (o : Int) * 2048 + (q2 : Int) * 1024 + (q3 : Int) * 512 + (q4 : Int) * 256 + (q5 : Int) * 128 + (q6 : Int) * 64 + (q7 : Int) * 32 + (q8 : Int) * 16) (by omega) (by omega), wrap_in ((q1 : Int) * 32768 + (o : Int) * 2048 + (q2 : Int) * 1024 + (q3 : Int) * 512 + (q4 : Int) * 256 + (q5 : Int) * 128 + (q6 : Int) * 64 + (q7 : Int) * 32 + (q8 : Int) * 16 + (c : Int)) (by omega) (by omega)]
  rw [IntKind.wrap_u16]
  omega

theorem rflags_bad (H : Hd) (w : World) (h : H.bad) : Calls Tryz.prog 24 #[H.v] w fun e w' => e = .returned (.tuple #[.int .u16 0, .int .i64 1]) ∧ w.grownBy w' none := by
  show Calls Tryz.prog 24 #[.agg #[.int .u16 H.id, .bool H.qr, .int .u8 H.op, .bool H.aa, .bool H.tc, .bool H.rd, .bool H.ra, .bool H.z, .bool H.ad, .bool H.cd, .int .u8 H.code]] w _
  by_cases h1 : 15 < H.op
  · have h1' : decide ((15 : Int) < (H.op : Int)) = true := by simp; omega
    go_enter Tryz.func24, Tryz.ntmps24
    go_wp2
    go_ret2
    exact ⟨rfl, galloc (grefl _ none) _⟩
  · have h1' : decide ((15 : Int) < (H.op : Int)) = false := by simp; omega
    have h2' : decide ((15 : Int) < (H.code : Int)) = true := by unfold Hd.bad at h; simp; omega
    go_enter Tryz.func24, Tryz.ntmps24
    go_wp2
    go_ret2
    exact ⟨rfl, galloc (grefl _ none) _⟩

set_option maxRecDepth 100000 in
set_option maxHeartbeats 1000000 in
theorem rflags_ok (H : Hd) (w : World) (h : ¬ H.bad) : Calls Tryz.prog 24 #[H.v] w fun e w' => e = .returned (.tuple #[.int .u16 (flagsN H), .int .i64 0]) ∧ w.grownBy w' none := by
  show Calls Tryz.prog 24 #[.agg #[.int .u16 H.id, .bool H.qr, .int .u8 H.op, .bool H.aa, .bool H.tc, .bool H.rd, .bool H.ra, .bool H.z, .bool H.ad, .bool H.cd, .int .u8 H.code]] w _
  have h1' : decide ((15 : Int) < (H.op : Int)) = false := by unfold Hd.bad at h; simp; omega
  have h2' : decide ((15 : Int) < (H.code : Int)) = false := by unfold Hd.bad at h; simp; omega
  go_enter Tryz.func24, Tryz.ntmps24
  go_wp2
  go_quiet ((go_at_call 35; exact Calls.quiet_of_same ((rbit_any _ _ _).mono fun _ _ ⟨he, hw⟩ => ⟨he, hw.symm⟩)))
  go_wp2
  go_ret2
  refine ⟨?_, gdrewN (galloc (grefl _ none) _) _⟩
  have hw := sum_wraps H.op H.code H.qr.toNat H.aa.toNat H.tc.toNat H.rd.toNat H.ra.toNat H.z.toNat H.ad.toNat H.cd.toNat (by unfold Hd.bad at h; omega) (by unfold Hd.bad at h; omega) (btle _) (btle _) (btle _) (btle _) (btle _) (btle _) (btle _) (btle _)
  show Ending.returned (.tuple #[.int .u16 (IntKind.u16.wrap _), .int .i64 0]) = _
  rw [hw]
  rfl
theorem rflags_any (H : Hd) (w : World) : Calls Tryz.prog 24 #[H.v] w fun e w' => e = .returned (.tuple #[.int .u16 (flN H), .int .i64 (flE H)]) ∧ w.grownBy w' none := by
  unfold flN flE
  by_cases h : H.bad
  · rw [if_pos h, if_pos h]
    exact rflags_bad H w h
  · rw [if_neg h, if_neg h]
    exact rflags_ok H w h
end Go.Proofs.YtkhigfbmdolgmaaGreatDoor
namespace Go.Proofs.YtkhigfbmdolgmaaGreatDoor
open Go.RowKit

theorem rhwrite_bad (H : Hd) (a b c d : Int) (w : World) (h : H.bad) : Calls Tryz.prog 13 #[H.v, cv a b c d] w fun e w' => e = .returned (.tuple #[.string ByteArray.empty, .int .i64 1]) ∧ w.grownBy w' none := by
  have e1 : flN H = 0 := if_pos h
  have e2 : flE H = 1 := if_pos h
  show Calls Tryz.prog 13 #[.agg #[.int .u16 H.id, .bool H.qr, .int .u8 H.op, .bool H.aa, .bool H.tc, .bool H.rd, .bool H.ra, .bool H.z, .bool H.ad, .bool H.cd, .int .u8 H.code], .agg #[.int .i64 a, .int .i64 b, .int .i64 c, .int .i64 d]] w _
  go_enter Tryz.func13, Tryz.ntmps13
  go_wp2_with fail
  refine Calls.mono (rflags_any H _) ?_
  rw [e1, e2]
  rintro e w1 ⟨rfl, hg⟩
  have G1 := Lib.hid (gfr1 (gfr1 hg))
  clear hg e1 e2
  go_wp2
  go_ret2
  exact ⟨rfl, G1.out⟩

/-- What is written after k counts. -/
def wrK (H : Hd) (x : Nat → Int) : Nat → List UInt8
  | 0 => enc 2 H.id ++ enc 2 (flagsN H)
  | k + 1 => wrK H x k ++ enc 2 (x k).toNat
theorem wrK_len (H : Hd) (x : Nat → Int) (k : Nat) : (wrK H x k).length = 4 + 2 * k := by
  induction k with
  | zero => simp [wrK, enc_len]
  | succ k ih => simp [wrK, enc_len, ih]; omega

def cx (a b c d : Int) (k : Nat) : Int := match k with | 0 => a | 1 => b | 2 => c | _ => d
theorem cx_get (a b c d : Int) (k : Nat) (h : k < 4) : (#[Value.int .i64 a, .int .i64 b, .int .i64 c, .int .i64 d])[k]? = some (.int .i64 (cx a b c d k)) := by
  match k, h with
  | 0, _ => rfl
  | 1, _ => rfl
  | 2, _ => rfl
  | 3, _ => rfl
theorem ok_cx {H : Hd} {a b c d : Int} (h : okW H a b c d) (k : Nat) (hk : k < 4) : 0 ≤ cx a b c d k ∧ cx a b c d k ≤ 65535 := by
  obtain ⟨_, ha, hb, hc, hd⟩ := h
  match k, hk with
  | 0, _ => exact ha
  | 1, _ => exact hb
  | 2, _ => exact hc
  | 3, _ => exact hd
theorem wrK0 (H : Hd) (x : Nat → Int) : (⟨(wrK H x 0).toArray⟩ : ByteArray) = ⟨(enc 2 H.id).toArray⟩ ++ ⟨(enc 2 (flagsN H)).toArray⟩ := (mk_append_list _ _).symm
theorem wrKs (H : Hd) (x : Nat → Int) (k : Nat) : (⟨(wrK H x (k + 1)).toArray⟩ : ByteArray) = ⟨(wrK H x k).toArray⟩ ++ ⟨(enc 2 (x k).toNat).toArray⟩ := (mk_append_list _ _).symm

set_option maxRecDepth 100000 in
set_option maxHeartbeats 1000000 in
theorem rhwrite_ok (H : Hd) (a b c d : Int) (w : World) (hi : H.id < 65536) (h : ¬ H.bad) : Calls Tryz.prog 13 #[H.v, cv a b c d] w fun e w' => e = .returned (.tuple #[.string (wrS H a b c d), .int .i64 (wrE H a b c d)]) ∧ w.grownBy w' none := by
  have e1 : flN H = flagsN H := if_neg h
  have e2 : flE H = 0 := if_neg h
  have hf := flagsN_lt H h
  show Calls Tryz.prog 13 #[.agg #[.int .u16 H.id, .bool H.qr, .int .u8 H.op, .bool H.aa, .bool H.tc, .bool H.rd, .bool H.ra, .bool H.z, .bool H.ad, .bool H.cd, .int .u8 H.code], .agg #[.int .i64 a, .int .i64 b, .int .i64 c, .int .i64 d]] w _
  go_enter Tryz.func13, Tryz.ntmps13
  go_wp2_with fail
  refine Calls.mono (rflags_any H _) ?_
  rw [e1, e2]
  rintro e w1 ⟨rfl, hg⟩
  have G1 := Lib.hid (gfr1 (gfr1 hg))
  have R1 := Lib.hid (gblock hg (balloc2_0 w _ _) (by simp))
  have R2 := Lib.hid (gblock hg (balloc2_1 w _ _) (by simp))
  have c0 : w1.cell? ⟨w.heap.size, 0, none⟩ = some (.int .u16 H.id) := bcellAt R1.out 0
  clear hg e1 e2
  go_wp2_with fail
  refine Calls.mono (rhtwo_any H.id hi _) ?_
  rintro e w2 ⟨rfl, hg⟩
  have G2 := Lib.hid (gtrans G1.out hg)
  have R22 := Lib.hid (gblock hg R2.out (by simp))
  clear hg G1 R1 R2 c0
  go_wp2_with fail
  refine Calls.mono (rhtwo_any (flagsN H) hf _) ?_
  rintro e w3 ⟨rfl, hg⟩
  have G3 := Lib.hid (gtrans G2.out hg)
  have R3 := Lib.hid (gblock hg R22.out (by simp))
  clear hg G2 R22
  have hl1 := enc_len 2 H.id
  have hl2 := enc_len 2 (flagsN H)
  have hq : ¬ 9223372036854775807 < (enc 2 H.id).length + (enc 2 (flagsN H)).length := by omega
  clear hl1 hl2
  go_wp2_with fail
  go_loopw [8, 9] (fun s i wr => ∃ k : Nat, k ≤ 4 ∧ i = .int .i64 k ∧ s = .string ⟨(wrK H (cx a b c d) k).toArray⟩ ∧ (∀ j, j < k → 0 ≤ cx a b c d j ∧ cx a b c d j ≤ 65535) ∧ w.grownBy wr none ∧ wr.heap[w.heap.size + 1]? = some (.cells #[.int .i64 a, .int .i64 b, .int .i64 c, .int .i64 d] 60 (0, 0))) (fun _ i _ => 4 - (intOf i).toNat)
  case atStart => exact ⟨0, by omega, rfl, by rw [← wrK0], by intro j hj; omega, G3.out, R3.out⟩
  case round =>
    obtain ⟨k, hk, rfl, rfl, hj, hg, hr⟩ := hrel
    have HJ := Lib.hid hj
    have HG := Lib.hid hg
    have HR := Lib.hid hr
    clear hj hg hr
    have hlen := wrK_len H (cx a b c d) k
    by_cases hlt : k < 4
    · have hc : wr.cell? ⟨w.heap.size + 1, k, none⟩ = some (.int .i64 (cx a b c d k)) := (bcellAt HR.out k).trans (cx_get a b c d k hlt)
      generalize hx : cx a b c d k = x at *
      have HX := Lib.hid hx
      clear hx
      have q0 : (0 : Int) ≤ (k : Int) := by omega
      have q1 : (k : Int) < 4 := by omega
      by_cases hb : 0 ≤ x ∧ x ≤ 65535
      · obtain ⟨y, rfl⟩ : ∃ n : Nat, x = n := ⟨x.toNat, by omega⟩
        have HY := Lib.hid (show y < 65536 by omega)
        have b0 : decide (((y : Nat) : Int) < 0) = false := by simp
        have b1 : decide ((65535 : Int) < ((y : Nat) : Int)) = false := by simp; omega
        have hl2 := enc_len 2 y
        have hq : ¬ 9223372036854775807 < (wrK H (cx a b c d) k).length + (enc 2 y).length := by omega
        clear hl2 hlen hb
        go_wp2_with fail
        refine Calls.mono (rhtwo_any y HY.out _) ?_
        rintro e w4 ⟨rfl, hg⟩
        have G4 := Lib.hid (gtrans HG.out hg)
        have R4 := Lib.hid (gblock hg HR.out (by simp))
        clear hg
        go_wp2_with fail
        go_roundw
        case rel => exact ⟨k + 1, by omega, by go_num, by rw [wrKs, HX.out]; simp, fun j hj => by
          rcases Nat.lt_succ_iff_lt_or_eq.1 hj with h | h
          · exact HJ.out j h
          · rw [h, HX.out]; have := HY.out; omega, G4.out, R4.out⟩
        case measure => simp [intOf]; omega
      · have HF := Lib.hid (show ¬ okW H a b c d from fun ho => hb (by rw [← HX.out]; exact ok_cx ho k hlt))
        by_cases h0 : x < 0
        · have b0 : decide (x < 0) = true := by simp; omega
          go_wp2
          go_ret2
          refine ⟨?_, HG.out⟩
          unfold wrS wrE
          rw [if_neg HF.out, if_neg HF.out]
          rfl
        · have b0 : decide (x < 0) = false := by simp; omega
          have b1 : decide (65535 < x) = true := by simp; omega
          go_wp2
          go_ret2
          refine ⟨?_, HG.out⟩
          unfold wrS wrE
          rw [if_neg HF.out, if_neg HF.out]
          rfl
    · obtain rfl : k = 4 := by omega
      have HF := Lib.hid (show okW H a b c d from ⟨h, HJ.out 0 (by omega), HJ.out 1 (by omega), HJ.out 2 (by omega), HJ.out 3 (by omega)⟩)
      go_wp2
      go_ret2
      refine ⟨?_, HG.out⟩
      unfold wrS wrE
      rw [if_pos HF.out, if_pos HF.out]
      rfl

theorem rhwrite_any (H : Hd) (a b c d : Int) (w : World) (hi : H.id < 65536) : Calls Tryz.prog 13 #[H.v, cv a b c d] w fun e w' => e = .returned (.tuple #[.string (wrS H a b c d), .int .i64 (wrE H a b c d)]) ∧ w.grownBy w' none := by
  by_cases h : H.bad
  · have e := rhwrite_bad H a b c d w h
    have hn : ¬ okW H a b c d := fun ho => ho.1 h
    unfold wrS wrE
    rw [if_neg hn, if_neg hn]
    exact e
  · exact rhwrite_ok H a b c d w hi h
end Go.Proofs.YtkhigfbmdolgmaaGreatDoor
namespace Go.Proofs.YtkhigfbmdolgmaaGreatDoor
open Go.RowKit

theorem enc_cons (n x : Nat) : enc (n + 1) x = UInt8.ofNat (x / 256 ^ n % 256) :: enc n x := by
  induction n generalizing x with
  | zero => simp [enc]
  | succ n ih =>
    rw [enc, ih, enc, List.cons_append, Nat.div_div_eq_div_mul, Nat.pow_succ, Nat.mul_comm 256]
theorem mk_cons (c : UInt8) (l : List UInt8) : (⟨#[c]⟩ : ByteArray) ++ (⟨l.toArray⟩ : ByteArray) = ⟨(c :: l).toArray⟩ := by
  have := ByteArray.mk_append_mk [c] l
  simpa using this

set_option maxRecDepth 100000 in
/-- hustingsref02.Put: the bytes of a number. -/
theorem rput_any (x k : Nat) (hx : x < 4294967296) (hk : k ≤ 8) (w : World) : Calls Tryz.prog 15 #[.int .u64 x, .int .i64 k] w fun e w' => e = .returned (.string ⟨(enc k x).toArray⟩) ∧ w.grownBy w' none := by
  go_enter Tryz.func15, Tryz.ntmps15
  go_wp2_with fail
  go_loopw [0, 5, 6] (fun n s i wr => ∃ j : Nat, j ≤ k ∧ i = .int .i64 j ∧ n = .int .u64 ((x / 256 ^ j : Nat) : Int) ∧ s = .string ⟨(enc j x).toArray⟩ ∧ w.grownBy wr none) (fun _ _ i _ => k - (intOf i).toNat)
  case atStart => exact ⟨0, by omega, rfl, by simp, rfl, grefl _ _⟩
  case round =>
    obtain ⟨j, hj, rfl, rfl, rfl, hg⟩ := hrel
    have hlen := enc_len j x
    have hE := enc_cons j x
    by_cases hlt : j < k
    · have hlt2 : x / 256 ^ j < 4294967296 := Nat.lt_of_le_of_lt (Nat.div_le_self _ _) hx
      have HM := Lib.hid (show x / 256 ^ (j + 1) = x / 256 ^ j / 256 by rw [Nat.pow_succ, Nat.div_div_eq_div_mul])
      have HE := Lib.hid hE
      have HL := Lib.hid hlen
      have hlt3 : (enc j x).length ≤ 8 := by omega
      clear hE hlen
      generalize x / 256 ^ j = y at *
      generalize enc j x = l at *
      have hcv : (convert 46 9 (.slice (some ⟨wr.heap.size, 0, none⟩) 1 1)).run Tryz.prog (wr.alloc (.cells #[.int .u8 ((y : Int) % 256)] 5)) = .ok (.string ⟨#[UInt8.ofNat (y % 256)]⟩) (wr.alloc (.cells #[.int .u8 ((y : Int) % 256)] 5)) :=
        run_string_of _ 46 9 5 Tryz.underlying46 Tryz.underlying5 Tryz.underlying9 (sl_new wr _ [UInt8.ofNat (y % 256)] _ 1 (congrArg (fun z => [z]) (cell_byte _ y (by omega))) rfl)
      go_wp2
      go_roundw
      case rel => exact ⟨j + 1, by omega, by go_num, by rw [HM.out]; go_num, by rw [HE.out]; exact congrArg Value.string (mk_cons _ _), galloc hg _⟩
      case measure => simp [intOf]; omega
    · go_wp2
      go_ret
      have hjk : j = k := by omega
      subst hjk
      exact ⟨rfl, hg⟩

theorem num_snoc (s : ByteArray) (p k : Nat) (h : p + k < s.size) : num s p (k + 1) = num s p k * 256 + (s[p + k]).toNat := by
  unfold num
  rw [List.take_succ_eq_append_getElem (by simp; omega), be_snoc]
  congr 2
  simp
  rfl

theorem u64_step (X c : Nat) (hX : X < 4294967296) (hc : c < 256) : IntKind.u64.wrap (256 * (X : Int) + IntKind.u64.wrap (c : Int)) = ((X * 256 + c : Nat) : Int) := by
  rw [IntKind.wrap_u64, IntKind.wrap_u64]; omega
end Go.Proofs.YtkhigfbmdolgmaaGreatDoor
namespace Go.Proofs.YtkhigfbmdolgmaaGreatDoor
open Go.RowKit

end Go.Proofs.YtkhigfbmdolgmaaGreatDoor
namespace Go.Proofs.YtkhigfbmdolgmaaGreatDoor
open Go.RowKit

theorem opB_str (tot : List UInt8) (x : Opt) : (⟨(tot ++ opB x).toArray⟩ : ByteArray) = ⟨tot.toArray⟩ ++ ⟨(enc 2 x.1).toArray⟩ ++ ⟨(enc 2 x.2.size).toArray⟩ ++ x.2 := by
  obtain ⟨n, s⟩ := x
  obtain ⟨⟨l⟩⟩ := s
  unfold opB
  rw [mk_append_list, mk_append_list, mk_append_list]
  simp

set_option maxRecDepth 100000 in
set_option maxHeartbeats 2000000 in
theorem rwrite6_any (sz e v f : Nat) (A : Option Addr) (ca : Nat) (l : List Opt) (w : World) (he : e < 256) (hv : v < 256) (hf : f < 65536) (ha : Ops w (.slice A l.length ca) l) (hl : l.length ≤ maxLen) (hc : ∀ o ∈ l, o.1 < 65536) :
    Calls Tryz.prog 17 #[.agg #[.int .u16 sz, .int .u8 e, .int .u8 v, .int .u16 f, .slice A l.length ca]] w fun e' w' => e' = .returned (ewR sz e v f l) ∧ w.grownBy w' none := by
  have HA := Lib.hid ha
  have HC := Lib.hid hc
  unfold maxLen at hl
  clear ha hc
  go_enter Tryz.func17, Tryz.ntmps17
  go_wp2_with fail
  go_loopw [6, 7] (fun s i wr => ∃ k : Nat, k ≤ l.length ∧ i = .int .i64 k ∧ s = .string ⟨(opsB (l.take k)).toArray⟩ ∧ (opsB (l.take k)).length ≤ 65535 ∧ w.grownBy wr none ∧ wr.heap[w.heap.size]? = some (.cells #[.int .u16 sz, .int .u8 e, .int .u8 v, .int .u16 f, .slice A l.length ca] 30 (0, 0))) (fun _ i _ => l.length - (intOf i).toNat)
  case atStart => exact ⟨0, by omega, rfl, rfl, by simp [opsB], galloc (grefl _ none) _, balloc1_0 _ _⟩
  case round =>
    obtain ⟨k, hk, rfl, rfl, ht, hg, hr⟩ := hrel
    have HG := Lib.hid hg
    have HR := Lib.hid hr
    have c4 : wr.cell? ⟨w.heap.size, 4, none⟩ = some (.slice A l.length ca) := bcellAt hr 4
    clear hg hr
    by_cases hlt : k < l.length
    · obtain ⟨b, off, rfl, l0, l1⟩ := (HA.out.kept HG.out).at rfl hlt
      have q0 : (0 : Int) ≤ (k : Int) := by omega
      have q1 : (k : Int) < (l.length : Int) := by omega
      have HL := Lib.hid (opsB_snoc_len l k hlt)
      have HB := Lib.hid (opsB_snoc l k hlt)
      have HM := Lib.hid (opsB_mem l k hlt)
      have HT := Lib.hid (opsB_take_le l (k + 1))
      have hx1 := HC.out l[k] (List.getElem_mem hlt)
      generalize l[k] = x at *
      generalize opsB (l.take k) = tot at *
      by_cases h1 : x.2.size ≤ 65535
      · have q2 : decide ((65535 : Int) < (x.2.size : Int)) = false := by simp; omega
        go_wp2_with fail
        have G3 := Lib.hid (galloc (grefl wr none) (.cells #[.int .u16 x.1, .string x.2] 96))
        have X3 := Lib.hid (balloc1_0 wr (.cells #[.int .u16 x.1, .string x.2] 96))
        generalize wr.alloc (.cells #[.int .u16 x.1, .string x.2] 96) = w3 at *
        have x0 : ∀ g : Gr w3, g.w.cell? ⟨wr.heap.size, 0, none⟩ = some (.int .u16 x.1) := Gr.cell (bcellAt X3.out 0)
        have x1 : ∀ g : Gr w3, g.w.cell? ⟨wr.heap.size, 1, none⟩ = some (.string x.2) := Gr.cell (bcellAt X3.out 1)
        have le1 := enc_len 2 x.1
        have le2 := enc_len 2 x.2.size
        have g1 : ¬ 9223372036854775807 < tot.length + (enc 2 x.1).length := by omega
        have g2 : ¬ 9223372036854775807 < tot.length + (enc 2 x.1).length + (enc 2 x.2.size).length := by omega
        have g3 : ¬ 9223372036854775807 < tot.length + (enc 2 x.1).length + (enc 2 x.2.size).length + x.2.size := by omega
        have w1 : IntKind.u64.wrap (x.1 : Int) = (x.1 : Int) := by rw [IntKind.wrap_u64]; omega
        have w2 : IntKind.u64.wrap (x.2.size : Int) = (x.2.size : Int) := by rw [IntKind.wrap_u64]; omega
        clear c4 le1 le2
        refine wp_region_noPanic ?_
        refine wp_region_gr (by kernel_rfl) (by kernel_rfl) ?_
        repeat (go_big_quiet_step (first | (go_at_call 15; exact Calls.gr (rput_any _ 2 (by omega) (by omega) _))))
        refine wpQuiet_nil ?_
        rintro _ ⟨gq, rfl⟩
        refine NoPanic.normal ?_
        have G4 := Lib.hid (gtrans G3.out gq.h)
        clear x0 x1 w1 w2 X3
        generalize gq.w = w4 at *
        have le1 := enc_len 2 x.1
        have le2 := enc_len 2 x.2.size
        by_cases h2 : tot.length + 4 + x.2.size ≤ 65535
        · have q3 : decide ((65535 : Int) < (tot.length : Int) + ((enc 2 x.1).length : Int) + ((enc 2 x.2.size).length : Int) + (x.2.size : Int)) = false := by simp; omega
          clear le1 le2
          go_wp2_with fail
          go_roundw
          case rel => exact ⟨k + 1, by omega, by go_num, by rw [HB.out, opB_str], by rw [HL.out]; exact h2, gtrans HG.out G4.out, gblock G4.out HR.out (by simp)⟩
          case measure => simp [intOf]; omega
        · have q3 : decide ((65535 : Int) < (tot.length : Int) + ((enc 2 x.1).length : Int) + ((enc 2 x.2.size).length : Int) + (x.2.size : Int)) = true := by simp; omega
          have HN := Lib.hid (show ¬ okO l by unfold okO; have := HL.out; have := HT.out; omega)
          clear le1 le2
          go_wp2_with fail
          refine bodyPost_ret (results_t4 rfl _ _) rfl ?_
          refine ⟨?_, gtrans HG.out G4.out⟩
          unfold ewR
          rw [if_neg HN.out]
          rfl
      · have q2 : decide ((65535 : Int) < (x.2.size : Int)) = true := by simp; omega
        have HN := Lib.hid (show ¬ okO l by unfold okO; have := HM.out; omega)
        go_wp2_with fail
        refine bodyPost_ret (results_t4 rfl _ _) rfl ?_
        refine ⟨?_, galloc HG.out _⟩
        unfold ewR
        rw [if_neg HN.out]
        rfl
    · obtain rfl : k = l.length := by omega
      rw [List.take_length] at *
      have HO := Lib.hid (show okO l from ht)
      have d0 : wr.cell? ⟨w.heap.size, 0, none⟩ = some (.int .u16 sz) := bcellAt HR.out 0
      have d1 : wr.cell? ⟨w.heap.size, 1, none⟩ = some (.int .u8 e) := bcellAt HR.out 1
      have d2 : wr.cell? ⟨w.heap.size, 2, none⟩ = some (.int .u8 v) := bcellAt HR.out 2
      have d3 : wr.cell? ⟨w.heap.size, 3, none⟩ = some (.int .u16 f) := bcellAt HR.out 3
      go_wp2_with fail
      go_quiet (fail)
      go_wp2_with fail
      refine bodyPost_ret (results_t4 rfl _ _) rfl ?_
      refine ⟨?_, gdrewN HG.out _⟩
      unfold ewR
      rw [if_pos HO.out]
      rfl
end Go.Proofs.YtkhigfbmdolgmaaGreatDoor
namespace Go.Proofs.YtkhigfbmdolgmaaGreatDoor
open Go.RowKit

set_option maxRecDepth 100000 in
set_option maxHeartbeats 4000000 in
theorem rsec_any (w : World) (v : Value) (l : List Rc) (hv : Rs w v l) (hn : ∀ r ∈ l, r.name.size ≤ 1000000 ∧ r.data.size ≤ 1000000) :
    Calls Tryz.prog 23 #[v] w fun e w' => e = .returned (.bool (secB l)) ∧ w.grownBy w' none := by
  have HV := Lib.hid hv
  have HD := Lib.hid hn
  obtain ⟨A, cap, rfl⟩ := hv.form
  clear hv hn
  have SE := Lib.hid (show secB l = (decide (l.length ≤ 65535) && l.all okR') from rfl)
  go_enter Tryz.func23, Tryz.ntmps23
  by_cases h1 : 65535 < l.length
  · have d1 : decide ((65535 : Int) < (l.length : Int)) = true := decide_eq_true (by omega)
    have HS := Lib.hid (show secB l = false from by rw [SE.out, decide_eq_false (by omega)]; rfl)
    clear h1
    go_wp2_with fail
    go_ret
    exact ⟨by rw [HS.out]; rfl, grefl _ _⟩
  have d1 : decide ((65535 : Int) < (l.length : Int)) = false := decide_eq_false (by omega)
  have SF := Lib.hid (show secB l = l.all okR' from by rw [SE.out, decide_eq_true (by omega)]; rfl)
  have HL := Lib.hid h1
  clear h1 SE
  go_wp2_with fail
  clear d1
  go_loopw [3] (fun vi wr => ∃ i : Nat, vi = .int .i64 i ∧ i ≤ l.length ∧ (l.take i).all okR' = true ∧ w.grownBy wr none) (fun vi _ => l.length - (intOf vi).toNat)
  case atStart => exact ⟨0, rfl, by omega, rfl, grefl _ _⟩
  case round =>
    obtain ⟨i, rfl, hil, hall, hg⟩ := hrel
    have HA := Lib.hid hall
    have GR := Lib.hid hg
    clear hall hg
    by_cases hlt : i < l.length
    · obtain ⟨bl, off, rfl, l0, l1, l2, l3, l4⟩ := (HV.out.kept GR.out).at hlt
      have q0 : (0 : Int) ≤ (i : Int) := by omega
      have q1 : (i : Int) < (l.length : Int) := by omega
      have HX := Lib.hid (all_snoc okR' l i hlt)
      have HN := Lib.hid (all_not okR' l i hlt)
      have hdd := HD.out l[i] (List.getElem_mem hlt)
      generalize l[i] = r at *
      have M1 := Lib.hid (fun w' => rmay_any r.name w' hdd.1)
      have M2 := Lib.hid (fun w' => rmayd_any r.kind r.data w' hdd.2)
      have HO := Lib.hid (show okR' r = (may r.name && mayD r.kind r.data) from rfl)
      generalize may r.name = b1 at *
      generalize mayD r.kind r.data = b2 at *
      clear hdd l2 l3
      go_wp2_with fail
      replace l0 := Gr.cell l0
      replace l1 := Gr.cell l1
      replace l4 := Gr.cell l4
      cases b1
      case false =>
        have HF := Lib.hid (HN.out (by rw [HO.out]; rfl))
        refine wp_region_noPanic ?_
        refine wp_region_gr (by kernel_rfl) (by kernel_rfl) ?_
        repeat (go_big_quiet_step ((go_at_call 22; with_reducible exact Calls.gr (M1.out _))))
        refine wpQuiet_nil ?_
        rintro _ ⟨gq, rfl⟩
        refine NoPanic.normal ?_
        have G2 := Lib.hid (gtrans GR.out gq.h)
        go_wp2_with fail
        go_ret
        exact ⟨by rw [SF.out, HF.out]; rfl, G2.out⟩
      cases b2
      case false =>
        have HF := Lib.hid (HN.out (by rw [HO.out]; rfl))
        refine wp_region_noPanic ?_
        refine wp_region_gr (by kernel_rfl) (by kernel_rfl) ?_
        repeat (go_big_quiet_step (first | (go_at_call 22; with_reducible exact Calls.gr (M1.out _)) | (go_at_call 34; with_reducible exact Calls.gr (M2.out _))))
        refine wpQuiet_nil ?_
        rintro _ ⟨gq, rfl⟩
        refine NoPanic.normal ?_
        have G2 := Lib.hid (gtrans GR.out gq.h)
        go_wp2_with fail
        go_ret
        exact ⟨by rw [SF.out, HF.out]; rfl, G2.out⟩
      refine wp_region_noPanic ?_
      refine wp_region_gr (by kernel_rfl) (by kernel_rfl) ?_
      repeat (go_big_quiet_step (first | (go_at_call 22; with_reducible exact Calls.gr (M1.out _)) | (go_at_call 34; with_reducible exact Calls.gr (M2.out _))))
      refine wpQuiet_nil ?_
      rintro _ ⟨gq, rfl⟩
      refine NoPanic.normal ?_
      have G2 := Lib.hid (gtrans GR.out gq.h)
      clear l0 l1 l4 M1 M2
      generalize gq.w = w2 at *
      have OK := Lib.hid (show okR' r = true from by rw [HO.out]; rfl)
      clear gq HO HN
      have hLL : l.length ≤ 65535 := by have := HL.out; omega
      go_wp2_with fail
      go_roundw
      case rel => exact ⟨i + 1, by go_num, by omega, by rw [HX.out, HA.out, OK.out]; rfl, G2.out⟩
      case measure => simp [intOf]; omega
    · have k1 : decide ((i : Int) < (l.length : Int)) = false := decide_eq_false (by omega)
      have HT := Lib.hid (show l.all okR' = true from by have := HA.out; rwa [List.take_of_length_le (by omega)] at this)
      go_wp2_with fail
      go_ret
      exact ⟨by rw [SF.out, HT.out]; rfl, GR.out⟩
end Go.Proofs.YtkhigfbmdolgmaaGreatDoor
namespace Go.Proofs.YtkhigfbmdolgmaaGreatDoor
open Go.RowKit

theorem put_le_ (n : ByteArray) (cmp known : Bool) (T : Tb) (b : List UInt8) (hsc : scan n 0 = true) (hl : Low T) : (putF n cmp known 0 T b).1.length ≤ b.length + n.size := by
  rcases put_shape n cmp known 16384 _ 0 T b rfl hsc hl (fun x hx => .inl (by have := hl x hx; omega)) with h | ⟨q, j, _, h1, _, _, h⟩
  · rw [h]; have := nlen n; simp <;> omega
  · rw [h]; have := nlen n; simp [ptrB] <;> omega
theorem gcell_ {w w' : World} {row : Option Nat} {b i : Nat} {v : Value} (g : w.grownBy w' row) (h : w.cell? ⟨b, i, none⟩ = some v) (hn : some b ≠ row) : w'.cell? ⟨b, i, none⟩ = some v := by
  have hb : b < w.heap.size := by
    unfold World.cell? at h
    cases hh : w.heap[b]? with
    | none => rw [hh] at h; cases h
    | some o => exact blt hh
  unfold World.cell? at h ⊢
  rw [g.block b hb hn]
  exact h
theorem fx_str (S : Ws) (k c t : Nat) : (⟨S.1.toArray⟩ : ByteArray) ++ ⟨(enc 2 k).toArray⟩ ++ ⟨(enc 2 c).toArray⟩ ++ ⟨(enc 4 t).toArray⟩ = ⟨(adF (fx k c t) S).1.toArray⟩ := by
  rw [mk_append_list, mk_append_list, mk_append_list]
  unfold adF fx
  simp only [List.append_assoc]
theorem cls_str (S : Ws) (k c : Nat) : (⟨S.1.toArray⟩ : ByteArray) ++ ⟨(enc 2 k).toArray⟩ ++ ⟨(enc 2 c).toArray⟩ = ⟨(adF (enc 2 k ++ enc 2 c) S).1.toArray⟩ := by
  rw [mk_append_list, mk_append_list]
  unfold adF
  simp only [List.append_assoc]
theorem kb_some {w w' : World} {b : Nat} (g : w.grownBy w' (some b)) (h : b ≤ w.heap.size) : KB b w w' :=
  ⟨g.os, g.tape, g.output, g.size, fun i hi => g.block i (by omega) (by simp; omega)⟩
theorem gsome {a w w' : World} {b : Nat} (g : a.grownBy w (some b)) (h : w.grownBy w' (some b)) : a.grownBy w' (some b) :=
  ⟨h.os.trans g.os, h.tape.trans g.tape, h.output.trans g.output, Nat.le_trans g.size h.size, fun i hi hn => (h.block i (Nat.lt_of_lt_of_le hi g.size) hn).trans (g.block i hi hn)⟩
theorem gany' {w w' : World} {row : Option Nat} (g : w.grownBy w' none) : w.grownBy w' row := ⟨g.os, g.tape, g.output, g.size, fun k hk _ => g.block k hk (by simp)⟩
theorem mk_self'' (n : ByteArray) : (⟨n.data.toList.toArray⟩ : ByteArray) = n := by cases n; simp
theorem mk_drop (l : List UInt8) (k : Nat) : (⟨l.toArray⟩ : ByteArray).extract k l.length = ⟨(l.drop k).toArray⟩ := by
  have e : ((⟨l.toArray⟩ : ByteArray).extract k l.length).data.toList = l.drop k := by
    rw [Lib.extract_data]
    show List.take (_ - k) (List.drop k l) = _
    rw [List.take_of_length_le (by rw [List.length_drop]; omega)]
  rw [← e, mk_self'']
theorem rF_str (a e u : List UInt8) (k : Nat) : (⟨a.toArray⟩ : ByteArray) ++ ⟨e.toArray⟩ ++ (⟨u.toArray⟩ : ByteArray).extract k u.length = ⟨(a ++ (e ++ u.drop k)).toArray⟩ := by
  rw [mk_drop, mk_append_list, mk_append_list, List.append_assoc]
/-- What may stand in a section that is written. -/
structure Rc.put (r : Rc) : Prop where
  may : okR' r = true
  kind : r.kind < 65536
  cls : r.cls < 65536
  ttl : r.ttl < 4294967296
  data : r.data.size ≤ 5000
theorem rH_doc (s : Ws) (r : Rc) : (rH s r).1 = (adF (fx r.kind r.cls r.ttl) (nmF r.name s)).1 ++ [0, 0] := rfl
theorem Rc.put.data' {r : Rc} (h : r.put) : ∃ l, whF r.kind r.data = some l := by
  have := h.may
  unfold okR' mayD at this
  simp only [Bool.and_eq_true] at this
  exact Option.isSome_iff_exists.1 this.2
theorem Rc.put.name {r : Rc} (h : r.put) : Go.Proofs.YtkhigfbmdolgmaaGreatDoor.may r.name = true := by
  have := h.may
  unfold okR' at this
  simp only [Bool.and_eq_true] at this
  exact this.1
def PutsPost (b : Nat) (st : Ws) (w : World) (e : Ending) (w' : World) : Prop :=
  w.grownBy w' (some b) ∧ if 65535 < st.1.length then e = .returned (.tuple #[.string ByteArray.empty, .bool false]) else e = .returned (.tuple #[.string ⟨st.1.toArray⟩, .bool true]) ∧ ∃ vt, RT w' b vt st.2
theorem PutsPost.no {b : Nat} {st : Ws} {w w' : World} {e : Ending} (h : 65535 < st.1.length) (g : w.grownBy w' (some b)) (he : e = .returned (.tuple #[.string ByteArray.empty, .bool false])) : PutsPost b st w e w' := ⟨g, by rw [if_pos h]; exact he⟩
theorem PutsPost.yes {b : Nat} {st : Ws} {w w' : World} {e : Ending} {vt : Value} (h : ¬ 65535 < st.1.length) (g : w.grownBy w' (some b)) (he : e = .returned (.tuple #[.string ⟨st.1.toArray⟩, .bool true])) (k : RT w' b vt st.2) : PutsPost b st w e w' := ⟨g, by rw [if_neg h]; exact ⟨he, vt, k⟩⟩
theorem rslice_lt {w : World} {v : Value} {l : List Rc} {b : Nat} (h : Rs w v l) (hb : ∀ k, v.ownBlock = some k → k < b) : ∀ {w' : World}, w.grownBy w' (some b) → Rs w' v l :=
  fun g => Sl.kept h g fun k e => by cases e; exact .inr fun hk => by have := hb _ hk; omega
set_option maxRecDepth 100000 in
set_option maxHeartbeats 4000000 in
theorem rputs_any (b : Nat) (vt : Value) (st : Ws) (v : Value) (l : List Rc) (w : World) (ht : RT w b vt st.2) (hlow : Low st.2) (hfew : st.2.length ≤ st.1.length) (hlen : st.1.length ≤ 65535) (hv : Rs w v l) (hr : ∀ r ∈ l, r.put) (hb : 0 < l.length → ∀ k, v.ownBlock = some k → k < b) (hll : l.length ≤ 65535) :
    Calls Tryz.prog 16 #[.string ⟨st.1.toArray⟩, .pointer (some ⟨b, 0, none⟩), v] w (PutsPost b (rsF st l) w) := by
  have HV := Lib.hid hv
  have HR := Lib.hid hr
  have HB := Lib.hid hb
  obtain ⟨A, cap, rfl⟩ := hv.form
  have LE := Lib.hid (fun k => rsF_take_le st l k)
  have SN := Lib.hid (fun k h => rsF_snoc st l k h)
  have LW := Lib.hid (fun k => rsF_low hlow (l.take k))
  have FW := Lib.hid (fun k => (rsF_le (l.take k) st).few hfew)
  have TK := Lib.hid (show rsF st (l.take l.length) = rsF st l from by rw [List.take_length])
  have E0 := Lib.hid (show rsF st (l.take 0) = st from rfl)
  clear hv hr hb hlow hfew
  go_enter Tryz.func16, Tryz.ntmps16
  go_wp2_with fail
  go_loopw [0, 8] (fun vs vi wr => ∃ (i : Nat) (vt' : Value), vi = .int .i64 i ∧ i ≤ l.length ∧ vs = .string ⟨(rsF st (l.take i)).1.toArray⟩ ∧ RT wr b vt' (rsF st (l.take i)).2 ∧ (rsF st (l.take i)).1.length ≤ 65535 ∧ w.grownBy wr (some b)) (fun _ vi _ => l.length - (intOf vi).toNat)
  case atStart => exact ⟨0, vt, rfl, by omega, rfl, ht, hlen, grefl _ _⟩
  case round =>
    obtain ⟨i, vt', rfl, hil, rfl, hT, hl5, hg⟩ := hrel
    have GR := Lib.hid hg
    have T0 := Lib.hid hT
    clear ht hg hT hlen
    by_cases hlt : i < l.length
    · have R0 := Lib.hid (rslice_lt HV.out (HB.out (by omega)) GR.out)
      obtain ⟨bl, off, hA, l0, l1, l2, l3, l4⟩ := R0.out.at hlt
      subst hA
      have hbl : bl < b := HB.out (by omega) bl rfl
      have q0 : (0 : Int) ≤ (i : Int) := by omega
      have q1 : (i : Int) < (l.length : Int) := by omega
      have HP := Lib.hid (HR.out l[i] (List.getElem_mem hlt))
      have SI := Lib.hid (SN.out i hlt)
      have LI := Lib.hid (LW.out i)
      have FI := Lib.hid (FW.out i)
      have LN := Lib.hid (LE.out (i + 1))
      generalize l[i] = r at *
      generalize rsF st (l.take i) = S at *
      obtain ⟨S', hS'⟩ : ∃ s, rsF st (l.take (i + 1)) = s := ⟨_, rfl⟩
      rw [hS'] at SI LN
      have ES := Lib.hid hS'
      clear hS'
      have P1 := rput_ok b vt' S.2 S.1 r.name true true _ T0.out LI.out HP.out.name (by have := (may_size HP.out.name).1; have := FI.out; omega) (by omega)
      have L5 := Lib.hid hl5
      clear hl5
      go_wp2_with fail
      refine Calls.mono P1 ?_
      clear P1
      rintro e w1 ⟨rfl, vt1, hT1, hg1⟩
      have T1 := Lib.hid hT1
      have G1 := Lib.hid (gsome GR.out hg1)
      have N1 := Lib.hid (show putF r.name true true 0 S.2 S.1 = nmF r.name S from rfl)
      have LW1 := Lib.hid (show Low (nmF r.name S).2 from putF_low r.name true true _ 0 S.2 S.1 rfl LI.out)
      have LS1 := Lib.hid (show (nmF r.name S).1.length ≤ 65800 from by have := put_le_ r.name true true S.2 S.1 (may_size HP.out.name).2 LI.out; have := (may_size HP.out.name).1; have := L5.out; show (putF r.name true true 0 S.2 S.1).1.length ≤ 65800; omega)
      have FW1 := Lib.hid ((nmF_le r.name S).few FI.out)
      have D1 := Lib.hid (show rD S r = wrF (cmpF r.kind) ((whF r.kind r.data).getD []) (nmF r.name S).2 ((adF (fx r.kind r.cls r.ttl) (nmF r.name S)).1 ++ [0, 0]) from rfl)
      have RF1 := Lib.hid (show rF S r = ((adF (fx r.kind r.cls r.ttl) (nmF r.name S)).1 ++ (enc 2 ((rD S r).1.length - ((adF (fx r.kind r.cls r.ttl) (nmF r.name S)).1 ++ [0, 0]).length) ++ (rD S r).1.drop ((adF (fx r.kind r.cls r.ttl) (nmF r.name S)).1 ++ [0, 0]).length), (rD S r).2) from rfl)
      have RL := Lib.hid (rF_len S r)
      have RDle := Lib.hid (show ∃ X, (rD S r).1 = ((adF (fx r.kind r.cls r.ttl) (nmF r.name S)).1 ++ [0, 0]) ++ X from (rD_le S r).1)
      rw [N1.out] at T1 ⊢
      clear hT1 N1 T0 LI FI
      generalize nmF r.name S = S1 at *
      have l1' := gcell_ hg1 l1 (by simp; omega)
      have l2' := gcell_ hg1 l2 (by simp; omega)
      have l3' := gcell_ hg1 l3 (by simp; omega)
      have l4' := gcell_ hg1 l4 (by simp; omega)
      clear hg1 l0 l1 l2 l3 l4 R0
      have GR := G1
      clear G1
      go_wp2_with fail
      have K2 := Lib.hid (fun w' => rput_any r.kind 2 (by have := HP.out.kind; omega) (by omega) w')
      have K3 := Lib.hid (fun w' => rput_any r.cls 2 (by have := HP.out.cls; omega) (by omega) w')
      have K4 := Lib.hid (fun w' => rput_any r.ttl 4 HP.out.ttl (by omega) w')
      have w2 : IntKind.u64.wrap (r.kind : Int) = r.kind := by rw [IntKind.wrap_u64]; have := HP.out.kind; omega
      have w3 : IntKind.u64.wrap (r.cls : Int) = r.cls := by rw [IntKind.wrap_u64]; have := HP.out.cls; omega
      have w4 : IntKind.u64.wrap (r.ttl : Int) = r.ttl := by rw [IntKind.wrap_u64]; have := HP.out.ttl; omega
      have ZF := Lib.hid (fx_str S1 r.kind r.cls r.ttl)
      have S2T := Lib.hid (show (adF (fx r.kind r.cls r.ttl) S1).2 = S1.2 from rfl)
      have S2L := Lib.hid (show (adF (fx r.kind r.cls r.ttl) S1).1.length = S1.1.length + 8 from by unfold adF fx; simp [enc_len] <;> omega)
      generalize adF (fx r.kind r.cls r.ttl) S1 = S2 at *
      have c1 := Gr.cell l1'
      have c2 := Gr.cell l2'
      have c3 := Gr.cell l3'
      have nl1 : ¬ (9223372036854775807 < S1.1.length + (enc 2 r.kind).length) := by rw [enc_len]; have := LS1.out; omega
      have nl2 : ¬ (9223372036854775807 < S1.1.length + (enc 2 r.kind).length + (enc 2 r.cls).length) := by rw [enc_len, enc_len]; have := LS1.out; omega
      have nl3 : ¬ (9223372036854775807 < S1.1.length + (enc 2 r.kind).length + (enc 2 r.cls).length + (enc 4 r.ttl).length) := by rw [enc_len, enc_len, enc_len]; have := LS1.out; omega
      refine wp_region_noPanic ?_
      refine wp_region_gr (by kernel_rfl) (by kernel_rfl) ?_
      repeat (go_big_quiet_step (first | (go_at_call 15; with_reducible exact Calls.gr (K2.out _)) | (go_at_call 15; with_reducible exact Calls.gr (K3.out _)) | (go_at_call 15; with_reducible exact Calls.gr (K4.out _))))
      refine wpQuiet_nil ?_
      rintro _ ⟨gq, rfl⟩
      refine NoPanic.normal ?_
      rw [ZF.out]
      have T2 := Lib.hid (T1.out.kept0 gq.h)
      have G2 := Lib.hid (show w.grownBy gq.w (some b) from gsome GR.out (gany' gq.h))
      have m1 := gcell_ gq.h l1' (by simp)
      have m4 := gcell_ gq.h l4' (by simp)
      clear c1 c2 c3 nl1 nl2 nl3 K2 K3 K4 w2 w3 w4 ZF l1' l2' l3' l4' T1 GR
      generalize gq.w = w2 at *
      clear gq
      have hsz : (⟨S2.1.toArray⟩ : ByteArray).size = S2.1.length := size_mk _
      obtain ⟨X2, hX2⟩ : ∃ X : ByteArray, X = ⟨S2.1.toArray⟩ := ⟨_, rfl⟩
      rw [← hX2] at hsz ⊢
      have z3 : X2 ++ (⟨#[0, 0]⟩ : ByteArray) = ⟨(S2.1 ++ [0, 0]).toArray⟩ := by rw [hX2]; exact mk_append_list S2.1 [0, 0]
      have HX := Lib.hid hX2
      clear hX2
      go_wp2_with fail
      have KW := rwrite_any b vt1 S1.2 (S2.1 ++ [0, 0]) r.kind r.data w2.drew (T2.out.kept0 (gdrew (grefl w2 none))) LW1.out HP.out.data (by have := FW1.out; have := LS1.out; omega) (by rw [List.length_append]; have := S2L.out; have := LS1.out; simp; omega)
      obtain ⟨L, hL⟩ := HP.out.data'
      unfold RwrPost at KW
      rw [hL] at KW
      have D2 := Lib.hid (show wrF (cmpF r.kind) L S1.2 (S2.1 ++ [0, 0]) = rD S r from by rw [D1.out, hL]; rfl)
      dsimp only at KW
      rw [D2.out] at KW
      have KW := Lib.hid KW
      clear hL D1 D2
      generalize rD S r = U at *
      have hb2 := Lib.hid (blt T2.out.cell)
      have d1 : ∀ g : GrB b w2.drew, g.w.cell? ⟨bl, off + i * 5 + 1, none⟩ = some (.int .u16 r.kind) := GrB.cell m1 hbl
      have d4 : ∀ g : GrB b w2.drew, g.w.cell? ⟨bl, off + i * 5 + 4, none⟩ = some (.string r.data) := GrB.cell m4 hbl
      have nl4 : ¬ (9223372036854775807 < S2.1.length + 2) := by have := S2L.out; have := LS1.out; omega
      refine wp_region_segsB b [(true, [0, 1, 2, 3, 4, 5, 6, 7, 8, 9, 10, 11, 12]), (false, [13]), (true, [14, 15, 16, 17, 18])] (by kernel_rfl) (by kernel_rfl) ?_
      refine wpSegsB_quiet rfl ?_
      simp only [List.filterMap_cons, List.filterMap_nil, List.getElem?_toArray, List.getElem?_cons_succ, List.getElem?_cons_zero]
      show wpQuiet _ _ _ _ [_, _, _, _, _, _, _, _, _, _, _, _, _] _
      repeat (go_big_quiet_step (fail))
      refine wpQuiet_nil ?_
      refine wpSegsB_one (by simp only [List.getElem?_toArray, List.getElem?_cons_succ, List.getElem?_cons_zero]; exact rfl) ?_
      go_wp2_with fail
      refine Calls.mono KW.out ?_
      rintro e w3 ⟨rfl, vt2, hT3, hg3⟩
      have T3 := Lib.hid hT3
      have G3 := Lib.hid (gsome G2.out (gsome (gany' (gdrew (grefl w2 none))) hg3))
      have KBx := Lib.hid (kb_some hg3 (Nat.le_of_lt hb2.out))
      clear hT3 hg3 KW T2 G2 d1 d4 m1 m4 hb2 z3 nl4
      go_wp2_with fail
      refine ⟨KBx.out, ?_⟩
      clear KBx
      refine wpSegsB_quiet rfl ?_
      simp only [List.filterMap_cons, List.filterMap_nil, List.getElem?_toArray, List.getElem?_cons_succ, List.getElem?_cons_zero]
      show wpQuiet _ _ _ _ [_, _, _, _, _] _
      repeat (go_big_quiet_step (fail))
      refine wpQuiet_nil ?_
      refine wpSegsB_done ?_
      have usz : (⟨U.1.toArray⟩ : ByteArray).size = U.1.length := size_mk _
      obtain ⟨UU, hUU⟩ : ∃ X : ByteArray, X = ⟨U.1.toArray⟩ := ⟨_, rfl⟩
      rw [← hUU] at usz ⊢
      have HU := Lib.hid hUU
      clear hUU
      by_cases h6 : 65535 < U.1.length
      · have d6 : decide ((65535 : Int) < (U.1.length : Int)) = true := decide_eq_true (by omega)
        have LO := Lib.hid (show 65535 < (rsF st l).1.length from by have h1 := LN.out.len; rw [SI.out, RL.out] at h1; omega)
        clear h6
        go_wp2_with fail
        go_ret2
        exact PutsPost.no LO.out G3.out rfl
      have d6 : decide ((65535 : Int) < (U.1.length : Int)) = false := decide_eq_false (by omega)
      obtain ⟨X, hX⟩ := RDle.out
      have UL := Lib.hid (show S2.1.length + 2 ≤ U.1.length ∧ U.1.length ≤ 65535 from ⟨by rw [hX]; simp <;> omega, by omega⟩)
      have zl : (S2.1 ++ ([0, 0] : List UInt8)).length = S2.1.length + 2 := List.length_append
      have RF2 := RF1.out
      rw [zl] at RF2
      have z5 : X2 ++ (⟨(enc 2 (U.1.length - (S2.1.length + 2))).toArray⟩ : ByteArray) ++ UU.extract (S2.1.length + 2) U.1.length = ⟨(rF S r).1.toArray⟩ := by
        rw [RF2, HX.out, HU.out]
        exact rF_str _ _ _ _
      clear zl RF2
      have Z5 := Lib.hid z5
      have RT2 := Lib.hid (show (rF S r).2 = U.2 from by rw [RF1.out])
      clear hX h6 z5 RF1 RDle
      generalize S2.1.length = k2 at *
      generalize U.1.length = ku at *
      obtain ⟨n, hn⟩ : ∃ n, ku - (k2 + 2) = n := ⟨_, rfl⟩
      rw [hn] at Z5
      have HN := Lib.hid hn
      clear hn
      have KP := Lib.hid (fun w' => rput_any n 2 (by have := UL.out; have := HN.out; omega) (by omega) w')
      go_wp2_with fail
      clear d6
      obtain ⟨k3, hk3⟩ : ∃ k, k2 + 2 = k := ⟨_, rfl⟩
      obtain ⟨x1, hx1⟩ : ∃ x : Int, (ku : Int) - (k2 : Int) = x := ⟨_, rfl⟩
      have a1 : wrap64 ((ku : Int) - (k2 : Int)) = x1 := by have := UL.out; unfold wrap64; omega
      have a2 : wrap64 (x1 - 2) = (n : Int) := by have := UL.out; have := HN.out; unfold wrap64; omega
      have a3 : IntKind.u64.wrap (n : Int) = n := by rw [IntKind.wrap_u64]; have := UL.out; have := HN.out; omega
      have a4 : wrap64 ((k2 : Int) + 2) = (k3 : Int) := by have := UL.out; unfold wrap64; omega
      have a5 : k3 ≤ ku := by have := UL.out.1; omega
      have nl5 : ¬ (9223372036854775807 < k2 + (enc 2 n).length) := Nat.not_lt.2 (by rw [enc_len]; exact Nat.le_trans (Nat.le_trans UL.out.1 UL.out.2) (by decide))
      have nl6 : ¬ (9223372036854775807 < k2 + (enc 2 n).length + (ku - k3)) := Nat.not_lt.2 (by rw [enc_len]; exact Nat.le_trans (Nat.add_le_add (Nat.le_trans UL.out.1 UL.out.2) (Nat.le_trans (Nat.sub_le _ _) UL.out.2)) (by decide))
      rw [hk3] at Z5
      clear hk3 hx1
      refine wp_region_noPanic ?_
      refine wp_region_gr (by kernel_rfl) (by kernel_rfl) ?_
      repeat (go_big_quiet_step ((go_at_call 15; with_reducible exact Calls.gr (KP.out _))))
      refine wpQuiet_nil ?_
      rintro _ ⟨gq, rfl⟩
      refine NoPanic.normal ?_
      rw [Z5.out]
      have T4 := Lib.hid (T3.out.kept0 gq.h)
      have G4 := Lib.hid (gsome G3.out (gany' gq.h))
      clear T3 G3 nl5 nl6 a1 a2 a3 a4 a5
      generalize gq.w = w4 at *
      clear gq
      go_wp2_with fail
      go_roundw
      case rel => exact ⟨i + 1, vt2, by go_num, by omega, by rw [ES.out, SI.out], by rw [ES.out, SI.out, RT2.out]; exact T4.out, by rw [ES.out, SI.out, RL.out]; exact UL.out.2, G4.out⟩
      case measure => simp [intOf]; omega
    · have k1 : decide ((i : Int) < (l.length : Int)) = false := decide_eq_false (by omega)
      obtain rfl : i = l.length := by omega
      rw [TK.out] at T0 hl5 ⊢
      go_wp2_with fail
      go_ret2
      exact PutsPost.yes (by omega) GR.out rfl T0.out
end Go.Proofs.YtkhigfbmdolgmaaGreatDoor
namespace Go.Proofs.YtkhigfbmdolgmaaGreatDoor
open Go.RowKit

set_option maxRecDepth 100000 in
set_option maxHeartbeats 8000000 in
theorem rmay7_any (w : World) (m : Ms) (vq va vu vx vo : Value) (hv : MsV w m vq va vu vx vo) (hf : m.few) (hn : ∀ q ∈ m.qs, q.name.size ≤ 1000000) (han : ∀ r ∈ m.an, r.name.size ≤ 1000000) (hun : ∀ r ∈ m.au, r.name.size ≤ 1000000) (hxn : ∀ r ∈ m.ex, r.name.size ≤ 1000000) :
    Calls Tryz.prog 12 #[m.val vq va vu vx vo] w fun e w' => e = .returned (.bool m.may) ∧ w.grownBy w' none := by
  have HV := Lib.hid hv
  have HF := Lib.hid hf
  have HN := Lib.hid hn
  have RA := Lib.hid (fun (w' : World) (g : w.grownBy w' none) => rsec_any w' va m.an (hv.a.kept g) (fun r hr => ⟨han r hr, hf.ad r hr⟩))
  have RU := Lib.hid (fun (w' : World) (g : w.grownBy w' none) => rsec_any w' vu m.au (hv.u.kept g) (fun r hr => ⟨hun r hr, hf.ud r hr⟩))
  have RX := Lib.hid (fun (w' : World) (g : w.grownBy w' none) => rsec_any w' vx m.ex (hv.x.kept g) (fun r hr => ⟨hxn r hr, hf.xd r hr⟩))
  have MAY := Lib.hid (Ms.may_doc m)
  have HHB := Lib.hid (show m.hB = (decide (15 < m.h.op) || decide (15 < m.h.code) || decide (65535 < m.qs.length) || (!m.has && !m.zero) || (m.has && decide (65534 < m.ex.length))) from rfl)
  obtain ⟨hz, hhz⟩ : ∃ hz, m.zero = hz := ⟨_, rfl⟩
  have ZZ := Lib.hid (show edB (m.sz : Int) m.e m.v m.f m.ops 0 0 0 0 [] = hz from by rw [← hhz]; unfold edB Ms.zero; simp)
  rw [hhz] at HHB
  obtain ⟨sa, hsa⟩ : ∃ b, secB m.an = b := ⟨_, rfl⟩
  obtain ⟨su, hsu⟩ : ∃ b, secB m.au = b := ⟨_, rfl⟩
  obtain ⟨sx, hsx⟩ : ∃ b, secB m.ex = b := ⟨_, rfl⟩
  rw [hsa] at RA MAY
  rw [hsu] at RU MAY
  rw [hsx] at RX MAY
  clear hhz hn han hun hxn hf hsa hsu hsx
  obtain ⟨Aq, cq, rfl⟩ := hv.q.form
  obtain ⟨Aa, ca, rfl⟩ := hv.a.form
  obtain ⟨Au, cu, rfl⟩ := hv.u.form
  obtain ⟨Ax, cx, rfl⟩ := hv.x.form
  obtain ⟨Ao, co, rfl⟩ := hv.o.form
  clear hv
  obtain ⟨h, qs, an, au, ex, has, sz, e, v, f, ops⟩ := m
  generalize Ms.may ⟨h, qs, an, au, ex, has, sz, e, v, f, ops⟩ = mv at *
  generalize Ms.hB ⟨h, qs, an, au, ex, has, sz, e, v, f, ops⟩ = hb at *
  dsimp only at MAY HHB ZZ HN RA RU RX
  unfold Ms.val
  dsimp only
  have BA := Lib.hid (balloc w (.cells #[.int .u16 h.id, .bool h.qr, .int .u8 h.op, .bool h.aa, .bool h.tc, .bool h.rd, .bool h.ra, .bool h.z, .bool h.ad, .bool h.cd, .int .u8 h.code, .slice Aq qs.length cq, .slice Aa an.length ca, .slice Au au.length cu, .slice Ax ex.length cx, .bool has, .int .u16 sz, .int .u8 e, .int .u8 v, .int .u16 f, .slice Ao ops.length co] 32))
  have GA := Lib.hid (galloc (grefl w none) (.cells #[.int .u16 h.id, .bool h.qr, .int .u8 h.op, .bool h.aa, .bool h.tc, .bool h.rd, .bool h.ra, .bool h.z, .bool h.ad, .bool h.cd, .int .u8 h.code, .slice Aq qs.length cq, .slice Aa an.length ca, .slice Au au.length cu, .slice Ax ex.length cx, .bool has, .int .u16 sz, .int .u8 e, .int .u8 v, .int .u16 f, .slice Ao ops.length co] 32))
  go_enter Tryz.func12, Tryz.ntmps12
  go_upto_region 1 with fail
  generalize (w.alloc (.cells #[.int .u16 h.id, .bool h.qr, .int .u8 h.op, .bool h.aa, .bool h.tc, .bool h.rd, .bool h.ra, .bool h.z, .bool h.ad, .bool h.cd, .int .u8 h.code, .slice Aq qs.length cq, .slice Aa an.length ca, .slice Au au.length cu, .slice Ax ex.length cx, .bool has, .int .u16 sz, .int .u8 e, .int .u8 v, .int .u16 f, .slice Ao ops.length co] 32)) = w1 at *
  have c2 := bcellAt BA.out 2
  have c10 := bcellAt BA.out 10
  have c11 := bcellAt BA.out 11
  have c14 := bcellAt BA.out 14
  have c15 := bcellAt BA.out 15
  have c16 := bcellAt BA.out 16
  have c17 := bcellAt BA.out 17
  have c18 := bcellAt BA.out 18
  have c19 := bcellAt BA.out 19
  have c20 := bcellAt BA.out 20
  by_cases h1 : 15 < h.op
  · have d1 : decide ((15 : Int) < (h.op : Int)) = true := decide_eq_true (by omega)
    have HT := Lib.hid (show mv = false from by rw [MAY.out, HHB.out, decide_eq_true h1]; simp)
    clear h1
    go_wp2_with fail
    go_ret
    exact ⟨by rw [HT.out]; rfl, GA.out⟩
  have d1 : decide ((15 : Int) < (h.op : Int)) = false := decide_eq_false (by omega)
  have E1 := Lib.hid h1
  clear h1
  by_cases h2 : 15 < h.code
  · have d2 : decide ((15 : Int) < (h.code : Int)) = true := decide_eq_true (by omega)
    have HT := Lib.hid (show mv = false from by rw [MAY.out, HHB.out, decide_eq_true h2]; simp)
    clear h2
    go_wp2_with fail
    go_ret
    exact ⟨by rw [HT.out]; rfl, GA.out⟩
  have d2 : decide ((15 : Int) < (h.code : Int)) = false := decide_eq_false (by omega)
  have E2 := Lib.hid h2
  clear h2
  by_cases h3 : 65535 < qs.length
  · have d3 : decide ((65535 : Int) < (qs.length : Int)) = true := decide_eq_true (by omega)
    have HT := Lib.hid (show mv = false from by rw [MAY.out, HHB.out, decide_eq_true h3]; simp)
    clear h3
    go_wp2_with fail
    go_ret
    exact ⟨by rw [HT.out]; rfl, GA.out⟩
  have d3 : decide ((65535 : Int) < (qs.length : Int)) = false := decide_eq_false (by omega)
  have E3 := Lib.hid h3
  clear h3
  have HH := Lib.hid (show hb = ((!has && !hz) || (has && decide (65534 < ex.length))) from by rw [HHB.out, decide_eq_false E1.out, decide_eq_false E2.out, decide_eq_false E3.out]; simp)
  clear HHB E1 E2
  have CUT : ∃ w2 : World, True := ⟨w, trivial⟩
  clear CUT
  cases has
  case false =>
    go_wp2_with fail
    refine Calls.mono (rsame_any sz e v f 0 0 0 0 _ _ ops [] w1 (HV.out.o.kept GA.out) (Sl.nil _ _) HF.out.o) ?_
    rw [ZZ.out]
    rintro ee w2 ⟨rfl, hg2⟩
    have G2 := Lib.hid (gtrans GA.out hg2)
    have B2 := Lib.hid (gblock hg2 BA.out (by simp))
    clear hg2 GA BA c2 c10 c11 c14 c15 c16 c17 c18 c19 c20 d1 d2 d3
    have c15 := bcellAt B2.out 15
    cases hz
    case false =>
      have HT := Lib.hid (show mv = false from by rw [MAY.out, HH.out]; simp)
      go_wp2_with fail
      go_ret
      exact ⟨by rw [HT.out]; rfl, G2.out⟩
    have HS := Lib.hid (show mv = (qs.all okQ && sa && su && sx) from by rw [MAY.out, HH.out]; simp)
    clear HH MAY
    go_wp2_with fail
    clear c15
    go_loopw [3] (fun vi wr => ∃ i : Nat, vi = .int .i64 i ∧ i ≤ qs.length ∧ (qs.take i).all okQ = true ∧ w2.grownBy wr none) (fun vi _ => qs.length - (intOf vi).toNat)
    case atStart => exact ⟨0, rfl, by omega, rfl, grefl _ _⟩
    case round =>
      obtain ⟨i, rfl, hil, hall, hg⟩ := hrel
      have HA := Lib.hid hall
      have G4 := Lib.hid (gtrans G2.out hg)
      have B5 := Lib.hid (gblock hg B2.out (by simp))
      have HG := Lib.hid hg
      clear hall hg
      have b11 := bcellAt B5.out 11
      by_cases hlt : i < qs.length
      · obtain ⟨bl, off, rfl, l0, l1, l2⟩ := (HV.out.q.kept G4.out).at hlt
        have q0 : (0 : Int) ≤ (i : Int) := by omega
        have q1 : (i : Int) < (qs.length : Int) := by omega
        have HX := Lib.hid (all_snoc okQ qs i hlt)
        have HNo := Lib.hid (all_not okQ qs i hlt)
        have hnm := HN.out qs[i] (List.getElem_mem hlt)
        generalize qs[i] = r at *
        clear l1 l2
        go_wp2_with fail
        refine Calls.mono (rmay_any r.name _ hnm) ?_
        rintro ee w4 ⟨rfl, hg⟩
        have G5 := Lib.hid (gtrans G4.out hg)
        have GW := Lib.hid (gtrans HG.out hg)
        have B6 := Lib.hid (gblock hg B5.out (by simp))
        clear hg b11 l0
        cases hm : may r.name with
        | false =>
          have HT := Lib.hid (show mv = false from by rw [HS.out, HNo.out hm]; simp)
          clear hm
          go_wp2_with fail
          go_ret
          exact ⟨by rw [HT.out]; rfl, G5.out⟩
        | true =>
          have OK := Lib.hid (show okQ r = true from hm)
          have hLL : qs.length ≤ 65535 := by have := E3.out; omega
          clear hm
          go_wp2_with fail
          go_roundw
          case rel => exact ⟨i + 1, by go_num, by omega, by rw [HX.out, HA.out, OK.out]; rfl, GW.out⟩
          case measure => simp [intOf]; omega
      · have k1 : decide ((i : Int) < (qs.length : Int)) = false := decide_eq_false (by omega)
        have HT := Lib.hid (show mv = (sa && su && sx) from by rw [HS.out, show qs.all okQ = true from by have := HA.out; rwa [List.take_of_length_le (by omega)] at this]; simp)
        have b12 := bcellAt B5.out 12
        go_wp2_with fail
        refine Calls.mono (RA.out _ G4.out) ?_
        rintro ee w5 ⟨rfl, hg⟩
        have G5 := Lib.hid (gtrans G4.out hg)
        have B6 := Lib.hid (gblock hg B5.out (by simp))
        clear hg b11 b12 k1
        have b13 := bcellAt B6.out 13
        cases sa
        case false =>
          go_wp2_with fail
          go_ret
          exact ⟨by rw [HT.out]; rfl, G5.out⟩
        go_wp2_with fail
        refine Calls.mono (RU.out _ G5.out) ?_
        rintro ee w6 ⟨rfl, hg⟩
        have G6 := Lib.hid (gtrans G5.out hg)
        have B7 := Lib.hid (gblock hg B6.out (by simp))
        clear hg b13
        have b14 := bcellAt B7.out 14
        cases su
        case false =>
          go_wp2_with fail
          go_ret
          exact ⟨by rw [HT.out]; rfl, G6.out⟩
        go_wp2_with fail
        refine Calls.mono (RX.out _ G6.out) ?_
        rintro ee w7 ⟨rfl, hg⟩
        have G7 := Lib.hid (gtrans G6.out hg)
        clear hg b14
        go_wp2_with fail
        go_ret
        exact ⟨by rw [HT.out]; cases sx <;> rfl, G7.out⟩
  case true =>
    by_cases h4 : 65534 < ex.length
    · have d4 : decide ((65534 : Int) < (ex.length : Int)) = true := decide_eq_true (by omega)
      have HT := Lib.hid (show mv = false from by rw [MAY.out, HH.out, decide_eq_true h4]; simp)
      clear h4
      go_wp2_with fail
      go_ret
      exact ⟨by rw [HT.out]; rfl, GA.out⟩
    have d4 : decide ((65534 : Int) < (ex.length : Int)) = false := decide_eq_false (by omega)
    have HS := Lib.hid (show mv = (qs.all okQ && sa && su && sx) from by rw [MAY.out, HH.out, decide_eq_false h4]; simp)
    clear HH MAY h4
    have G2 := GA
    have B2 := BA
    clear GA BA
    generalize w1 = w2 at *
    go_wp2_with fail
    clear c2 c10 c11 c14 c15 c16 c17 c18 c19 c20 d1 d2 d3 d4
    go_loopw [3] (fun vi wr => ∃ i : Nat, vi = .int .i64 i ∧ i ≤ qs.length ∧ (qs.take i).all okQ = true ∧ w2.grownBy wr none) (fun vi _ => qs.length - (intOf vi).toNat)
    case atStart => exact ⟨0, rfl, by omega, rfl, grefl _ _⟩
    case round =>
      obtain ⟨i, rfl, hil, hall, hg⟩ := hrel
      have HA := Lib.hid hall
      have G4 := Lib.hid (gtrans G2.out hg)
      have B5 := Lib.hid (gblock hg B2.out (by simp))
      have HG := Lib.hid hg
      clear hall hg
      have b11 := bcellAt B5.out 11
      by_cases hlt : i < qs.length
      · obtain ⟨bl, off, rfl, l0, l1, l2⟩ := (HV.out.q.kept G4.out).at hlt
        have q0 : (0 : Int) ≤ (i : Int) := by omega
        have q1 : (i : Int) < (qs.length : Int) := by omega
        have HX := Lib.hid (all_snoc okQ qs i hlt)
        have HNo := Lib.hid (all_not okQ qs i hlt)
        have hnm := HN.out qs[i] (List.getElem_mem hlt)
        generalize qs[i] = r at *
        clear l1 l2
        go_wp2_with fail
        refine Calls.mono (rmay_any r.name _ hnm) ?_
        rintro ee w4 ⟨rfl, hg⟩
        have G5 := Lib.hid (gtrans G4.out hg)
        have GW := Lib.hid (gtrans HG.out hg)
        have B6 := Lib.hid (gblock hg B5.out (by simp))
        clear hg b11 l0
        cases hm : may r.name with
        | false =>
          have HT := Lib.hid (show mv = false from by rw [HS.out, HNo.out hm]; simp)
          clear hm
          go_wp2_with fail
          go_ret
          exact ⟨by rw [HT.out]; rfl, G5.out⟩
        | true =>
          have OK := Lib.hid (show okQ r = true from hm)
          have hLL : qs.length ≤ 65535 := by have := E3.out; omega
          clear hm
          go_wp2_with fail
          go_roundw
          case rel => exact ⟨i + 1, by go_num, by omega, by rw [HX.out, HA.out, OK.out]; rfl, GW.out⟩
          case measure => simp [intOf]; omega
      · have k1 : decide ((i : Int) < (qs.length : Int)) = false := decide_eq_false (by omega)
        have HT := Lib.hid (show mv = (sa && su && sx) from by rw [HS.out, show qs.all okQ = true from by have := HA.out; rwa [List.take_of_length_le (by omega)] at this]; simp)
        have b12 := bcellAt B5.out 12
        go_wp2_with fail
        refine Calls.mono (RA.out _ G4.out) ?_
        rintro ee w5 ⟨rfl, hg⟩
        have G5 := Lib.hid (gtrans G4.out hg)
        have B6 := Lib.hid (gblock hg B5.out (by simp))
        clear hg b11 b12 k1
        have b13 := bcellAt B6.out 13
        cases sa
        case false =>
          go_wp2_with fail
          go_ret
          exact ⟨by rw [HT.out]; rfl, G5.out⟩
        go_wp2_with fail
        refine Calls.mono (RU.out _ G5.out) ?_
        rintro ee w6 ⟨rfl, hg⟩
        have G6 := Lib.hid (gtrans G5.out hg)
        have B7 := Lib.hid (gblock hg B6.out (by simp))
        clear hg b13
        have b14 := bcellAt B7.out 14
        cases su
        case false =>
          go_wp2_with fail
          go_ret
          exact ⟨by rw [HT.out]; rfl, G6.out⟩
        go_wp2_with fail
        refine Calls.mono (RX.out _ G6.out) ?_
        rintro ee w7 ⟨rfl, hg⟩
        have G7 := Lib.hid (gtrans G6.out hg)
        clear hg b14
        go_wp2_with fail
        go_ret
        exact ⟨by rw [HT.out]; cases sx <;> rfl, G7.out⟩
end Go.Proofs.YtkhigfbmdolgmaaGreatDoor
namespace Go.Proofs.YtkhigfbmdolgmaaGreatDoor
open Go.RowKit

theorem out_not {m : Ms} {e : Nat} (h : m.wE = e) (he : e ≠ 0) : m.out = ByteArray.empty := if_neg (by omega)
theorem nlB (x : Nat) (h : x ≤ 200000) : ¬ (9223372036854775807 < x) := by omega
theorem rs_lt {w : World} {v : Value} {l : List Rc} (h : Rs w v l) (hl : 0 < l.length) : ∀ k, v.ownBlock = some k → k < w.heap.size := by
  obtain ⟨A, cap, rfl, h1, h2, h3, h4⟩ := h
  obtain ⟨b, off, rfl, hc⟩ := h4 hl
  intro k hk
  have : b = k := by simpa [Value.ownBlock] using hk
  subst this
  have h5 : (rsV l)[0]? ≠ none := by
    rw [List.getElem?_eq_getElem (by rw [h2]; omega)]
    simp
  obtain ⟨u, hu⟩ := Option.ne_none_iff_exists'.1 h5
  have := World.block_lt_of_cell? w _ (hc 0 u hu)
  simpa using this
/-- The states between a message's sections. -/
def Ms.sk (m : Ms) : Nat → Ws
  | 0 => m.s1
  | 1 => m.s2
  | 2 => m.s3
  | _ => m.s4
def Ms.sx (m : Ms) : Nat → List Rc
  | 0 => m.an
  | 1 => m.au
  | _ => m.ex
theorem Ms.sk_step (m : Ms) (k : Nat) (h : k < 3) : m.sk (k + 1) = rsF (m.sk k) (m.sx k) := by
  match k, h with
  | 0, _ => rfl
  | 1, _ => rfl
  | 2, _ => rfl
theorem Ms.sk_le (m : Ms) (k : Nat) : (m.sk k).le m.s5 := by
  match k with
  | 0 => exact ((m.le12.trans m.le23).trans m.le34).trans m.le45
  | 1 => exact (m.le23.trans m.le34).trans m.le45
  | 2 => exact m.le34.trans m.le45
  | _ + 3 => exact m.le45
theorem Ms.sk_low (m : Ms) (k : Nat) : Low (m.sk k).2 := by
  have h1 : Low m.s1.2 := qsF_low (s := m.s0) Low.nil m.qs
  have h2 : Low m.s2.2 := rsF_low h1 m.an
  have h3 : Low m.s3.2 := rsF_low h2 m.au
  match k with
  | 0 => exact h1
  | 1 => exact h2
  | 2 => exact h3
  | _ + 3 => exact rsF_low h3 m.ex
theorem Ms.sk_few (m : Ms) (k : Nat) : (m.sk k).2.length ≤ (m.sk k).1.length := by
  have h1 : m.s1.2.length ≤ m.s1.1.length := (qsF_le m.qs m.s0).few (Nat.zero_le _)
  match k with
  | 0 => exact h1
  | 1 => exact m.le12.few h1
  | 2 => exact (m.le12.trans m.le23).few h1
  | _ + 3 => exact ((m.le12.trans m.le23).trans m.le34).few h1
theorem ttlN_lt' {e v f : Nat} (he : e < 256) (hv : v < 256) (hf : f < 65536) : ttlN e v f < 4294967296 := by unfold ttlN; omega
def sel_ {α : Type} (a b c : α) : Nat → α
  | 0 => a
  | 1 => b
  | _ => c
theorem sx_cell {AA AU AX : Option Addr} {ca cu cx bl : Nat} {m : Ms} {w0 w' : World} {vq vo : Value} (k : Nat) (h : k < 3)
    (hb : w'.heap[bl]? = some (.cells #[.slice AA m.an.length ca, .slice AU m.au.length cu, .slice AX m.ex.length cx] 27 (0, 0))) (hv : MsV w0 m vq (.slice AA m.an.length ca) (.slice AU m.au.length cu) (.slice AX m.ex.length cx) vo) :
    w'.cell? ⟨bl, k, none⟩ = some (.slice (sel_ AA AU AX k) (m.sx k).length (sel_ ca cu cx k)) ∧ Rs w0 (.slice (sel_ AA AU AX k) (m.sx k).length (sel_ ca cu cx k)) (m.sx k) := by
  match k, h with
  | 0, _ => exact ⟨bcellAt hb 0, hv.a⟩
  | 1, _ => exact ⟨bcellAt hb 1, hv.u⟩
  | 2, _ => exact ⟨bcellAt hb 2, hv.x⟩
theorem op_str (s : Ws) (sz ttl : Nat) (d : List UInt8) : (⟨s.1.toArray⟩ : ByteArray) ++ ⟨#[0]⟩ ++ ⟨(enc 2 41).toArray⟩ ++ ⟨(enc 2 sz).toArray⟩ ++ ⟨(enc 4 ttl).toArray⟩ ++ ⟨(enc 2 d.length).toArray⟩ ++ ⟨d.toArray⟩ = ⟨(opF sz ttl d s).1.toArray⟩ := by
  unfold opF
  rw [nmF_root, show (⟨#[0]⟩ : ByteArray) = ⟨([0] : List UInt8).toArray⟩ from rfl, mk_append_list, mk_append_list, mk_append_list, mk_append_list, mk_append_list, mk_append_list]
  unfold adF fx
  simp only [List.append_assoc]
/-- What the document can write. -/
structure Ms.doc (m : Ms) : Prop where
  rng : m.rng
  qn : ∀ q ∈ m.qs, q.name.size ≤ 1000000
  an : ∀ r ∈ m.an, r.name.size ≤ 1000000 ∧ r.data.size ≤ 5000
  un : ∀ r ∈ m.au, r.name.size ≤ 1000000 ∧ r.data.size ≤ 5000
  xn : ∀ r ∈ m.ex, r.name.size ≤ 1000000 ∧ r.data.size ≤ 5000
theorem Ms.doc.put {m : Ms} (h : m.doc) (hm : m.may = true) (k : Nat) : (∀ r ∈ m.sx k, r.put) ∧ (m.sx k).length ≤ 65535 := by
  have y := Ms.may_yes.1 hm
  have f : ∀ (l : List Rc), (∀ r ∈ l, r.rng) → (∀ r ∈ l, r.name.size ≤ 1000000 ∧ r.data.size ≤ 5000) → l.all okR = true → ∀ r ∈ l, r.put := fun l h1 h2 h3 r hr =>
    ⟨okR_same r ▸ List.all_eq_true.1 h3 r hr, (h1 r hr).kind, (h1 r hr).cls, (h1 r hr).ttl, (h2 r hr).2⟩
  match k with
  | 0 => exact ⟨f _ h.rng.a h.an y.a, y.al⟩
  | 1 => exact ⟨f _ h.rng.u h.un y.u, y.ul⟩
  | _ + 2 => exact ⟨f _ h.rng.x h.xn y.x, by have := y.xl; unfold Ms.xn at this; show m.ex.length ≤ 65535; omega⟩
set_option maxRecDepth 100000 in
set_option maxHeartbeats 8000000 in
theorem rencode_any (w : World) (m : Ms) (vq va vu vx vo : Value) (hv : MsV w m vq va vu vx vo) (hd : m.doc) :
    Calls Tryz.prog 10 #[m.val vq va vu vx vo] w fun e w' => e = .returned (.tuple #[.string m.out, .int .i64 m.wE]) ∧ w.grownBy w' none := by
  have HV := Lib.hid hv
  have HD := Lib.hid hd
  have RM := Lib.hid (fun (w' : World) (g : w.grownBy w' none) => rmay7_any w' m vq va vu vx vo (hv.kept g) hd.rng.few hd.qn (fun r hr => (hd.an r hr).1) (fun r hr => (hd.un r hr).1) (fun r hr => (hd.xn r hr).1))
  obtain ⟨Aq, cq, rfl⟩ := hv.q.form
  obtain ⟨Aa, ca, rfl⟩ := hv.a.form
  obtain ⟨Au, cu, rfl⟩ := hv.u.form
  obtain ⟨Ax, cx, rfl⟩ := hv.x.form
  obtain ⟨Ao, co, rfl⟩ := hv.o.form
  clear hv hd
  unfold Ms.val at RM ⊢
  have BA := Lib.hid (balloc w (.cells #[.int .u16 m.h.id, .bool m.h.qr, .int .u8 m.h.op, .bool m.h.aa, .bool m.h.tc, .bool m.h.rd, .bool m.h.ra, .bool m.h.z, .bool m.h.ad, .bool m.h.cd, .int .u8 m.h.code, .slice Aq m.qs.length cq, .slice Aa m.an.length ca, .slice Au m.au.length cu, .slice Ax m.ex.length cx, .bool m.has, .int .u16 m.sz, .int .u8 m.e, .int .u8 m.v, .int .u16 m.f, .slice Ao m.ops.length co] 32))
  have GA := Lib.hid (galloc (grefl w none) (.cells #[.int .u16 m.h.id, .bool m.h.qr, .int .u8 m.h.op, .bool m.h.aa, .bool m.h.tc, .bool m.h.rd, .bool m.h.ra, .bool m.h.z, .bool m.h.ad, .bool m.h.cd, .int .u8 m.h.code, .slice Aq m.qs.length cq, .slice Aa m.an.length ca, .slice Au m.au.length cu, .slice Ax m.ex.length cx, .bool m.has, .int .u16 m.sz, .int .u8 m.e, .int .u8 m.v, .int .u16 m.f, .slice Ao m.ops.length co] 32))
  go_enter Tryz.func10, Tryz.ntmps10
  go_upto_region 1 with fail
  generalize (w.alloc (.cells #[.int .u16 m.h.id, .bool m.h.qr, .int .u8 m.h.op, .bool m.h.aa, .bool m.h.tc, .bool m.h.rd, .bool m.h.ra, .bool m.h.z, .bool m.h.ad, .bool m.h.cd, .int .u8 m.h.code, .slice Aq m.qs.length cq, .slice Aa m.an.length ca, .slice Au m.au.length cu, .slice Ax m.ex.length cx, .bool m.has, .int .u16 m.sz, .int .u8 m.e, .int .u8 m.v, .int .u16 m.f, .slice Ao m.ops.length co] 32)) = w1 at *
  obtain ⟨b1, hb1⟩ : ∃ b, b = w.heap.size := ⟨_, rfl⟩
  rw [← hb1] at BA ⊢
  have L1 := Lib.hid (show w.heap.size ≤ b1 from by omega)
  clear hb1
  go_wp2_with (refine wpList_load_row rfl 32 _ rfl b1 rfl _ _ _ _ BA.out Tryz.underlying32 rfl (by kernel_rfl) ?_)
  refine Calls.mono (RM.out _ GA.out) ?_
  rintro e w2 ⟨rfl, hg⟩
  have G := Lib.hid (gtrans GA.out hg)
  have B := Lib.hid (gblock hg BA.out (by simp))
  clear hg GA BA RM
  by_cases hm : m.may = true
  case neg =>
    have hm' : m.may = false := by simpa using hm
    have HE := Lib.hid (wE_not hm')
    rw [hm']
    clear hm hm'
    go_wp2_with fail
    go_ret2
    exact ⟨by rw [out_not HE.out (by decide), HE.out]; rfl, G.out⟩
  have HM := Lib.hid hm
  rw [hm]
  clear hm
  have YS := Lib.hid (Ms.may_yes.1 HM.out)
  have OW : okW m.h m.qs.length m.an.length m.au.length m.xn := ⟨YS.out.h, ⟨by omega, by have := YS.out.ql; omega⟩, ⟨by omega, by have := YS.out.al; omega⟩, ⟨by omega, by have := YS.out.ul; omega⟩, ⟨by omega, by have := YS.out.xl; omega⟩⟩
  have HW := Lib.hid (fun w' => rhwrite_any m.h m.qs.length m.an.length m.au.length m.xn w' HD.out.rng.id)
  unfold wrS wrE at HW
  rw [if_pos OW, if_pos OW] at HW
  rw [show wrL m.h m.qs.length m.an.length m.au.length m.xn = m.s0.1 from rfl] at HW
  clear OW
  have HW := Lib.hid (fun w' => show Calls Tryz.prog 13 #[.agg #[.int .u16 m.h.id, .bool m.h.qr, .int .u8 m.h.op, .bool m.h.aa, .bool m.h.tc, .bool m.h.rd, .bool m.h.ra, .bool m.h.z, .bool m.h.ad, .bool m.h.cd, .int .u8 m.h.code], .agg #[.int .i64 m.qs.length, .int .i64 m.an.length, .int .i64 m.au.length, .int .i64 m.xn]] w' fun e w'' => e = .returned (.tuple #[.string ⟨m.s0.1.toArray⟩, .int .i64 0]) ∧ w'.grownBy w'' none from HW.out w')
  have XN := Lib.hid (show m.xn = m.ex.length + m.has.toNat from rfl)
  have XL := Lib.hid YS.out.xl
  have c0 := bcellAt B.out 0
  have c1 := bcellAt B.out 1
  have c2 := bcellAt B.out 2
  have c3 := bcellAt B.out 3
  have c4 := bcellAt B.out 4
  have c5 := bcellAt B.out 5
  have c6 := bcellAt B.out 6
  have c7 := bcellAt B.out 7
  have c8 := bcellAt B.out 8
  have c9 := bcellAt B.out 9
  have c10 := bcellAt B.out 10
  have c11 := bcellAt B.out 11
  have c12 := bcellAt B.out 12
  have c13 := bcellAt B.out 13
  have c14 := bcellAt B.out 14
  have c15 := bcellAt B.out 15
  have T0 : ∃ hs : Bool, m.has = hs := ⟨_, rfl⟩
  obtain ⟨hs, hhs⟩ := T0
  rw [hhs] at XN c15
  have HH := Lib.hid hhs
  clear hhs
  generalize m.xn = xn at *
  have FIN : ∀ (a : Nat), a = a := fun _ => rfl
  clear FIN
  have CC := Lib.hid (show hs = false ∧ wrap64 ((m.ex.length : Int) + 0) = xn ∨ hs = true ∧ wrap64 ((m.ex.length : Int) + 1) = xn from by
    have := XL.out
    cases hs with
    | false => exact .inl ⟨rfl, by rw [XN.out]; simp; unfold wrap64; rw [XN.out] at this; simp at this; omega⟩
    | true => exact .inr ⟨rfl, by rw [XN.out] at this ⊢; simp at this ⊢; unfold wrap64; omega⟩)
  rcases CC.out with ⟨rfl, hx⟩ | ⟨rfl, hx⟩
  case inl =>
    have hx' : wrap64 (m.ex.length : Int) = xn := by rw [← hx]; simp
    clear hx
    have hx := hx'
    clear hx'
    go_upto_region 6 with fail
    go_wp2_with fail
    refine Calls.mono (HW.out _) ?_
    rintro e w3 ⟨rfl, hg⟩
    have G3 := Lib.hid (gtrans G.out hg)
    have B3 := Lib.hid (gblock hg B.out (by simp))
    clear hg G B HW hx CC XN XL c0 c1 c2 c3 c4 c5 c6 c7 c8 c9 c10 c11 c12 c13 c14 c15
    have TB := Lib.hid (balloc w3 (.cells #[.slice none 0 0] 64))
    have ga := galloc (grefl w3 none) (.cells #[.slice none 0 0] 64)
    have G4 := Lib.hid (gtrans G3.out ga)
    have B4 := Lib.hid (gblock ga B3.out (by simp))
    have L7 := Lib.hid (show b1 < w3.heap.size from blt B3.out)
    have LW := Lib.hid (G3.out.size)
    have T4 := Lib.hid (show RT (w3.alloc (.cells #[.slice none 0 0] 64)) w3.heap.size (.slice none 0 0) m.s0.2 from ⟨TB.out, ⟨rfl, .inl ⟨rfl, rfl⟩⟩⟩)
    clear ga G3 B3 TB
    go_upto_region 8 with fail
    generalize (w3.alloc (.cells #[.slice none 0 0] 64)) = w4 at *
    generalize w3.heap.size = b7 at *
    have LE := Lib.hid (fun k => (qsF_take_le m.s0 m.qs k).trans (m.sk_le 0))
    have SN := Lib.hid (fun k h => qsF_snoc m.s0 m.qs k h)
    have LQ := Lib.hid (fun k => qsF_low Low.nil (m.qs.take k) (s := m.s0))
    have FQ := Lib.hid (fun k => (qsF_le (m.qs.take k) m.s0).few (Nat.zero_le _))
    have S1 := Lib.hid (show qsF m.s0 (m.qs.take m.qs.length) = m.s1 from by rw [List.take_length]; rfl)
    have S0L := Lib.hid (m.s0_len)
    have QOK := Lib.hid (YS.out.q)
    have QL := Lib.hid (YS.out.ql)
    go_wp2_with fail
    go_loopw [5, 8] (fun vs vi wr => ∃ (i : Nat) (vt' : Value), vi = .int .i64 i ∧ i ≤ m.qs.length ∧ vs = .string ⟨(qsF m.s0 (m.qs.take i)).1.toArray⟩ ∧ RT wr b7 vt' (qsF m.s0 (m.qs.take i)).2 ∧ (qsF m.s0 (m.qs.take i)).1.length ≤ 65535 ∧ w4.grownBy wr (some b7)) (fun _ vi _ => m.qs.length - (intOf vi).toNat)
    case atStart => exact ⟨0, _, rfl, by omega, rfl, T4.out, by show m.s0.1.length ≤ 65535; rw [S0L.out]; decide, grefl _ _⟩
    case round =>
      obtain ⟨i, vt', rfl, hil, rfl, hT, hl5, hg⟩ := hrel
      have GR := Lib.hid hg
      have GW := Lib.hid (gstepo G4.out hg LW.out)
      have T0 := Lib.hid hT
      have B5 := Lib.hid (gblock hg B4.out (by have := L7.out; simp; omega))
      clear hg hT
      have c11 := bcellAt B5.out 11
      by_cases hlt : i < m.qs.length
      · obtain ⟨bl, off, hA, l0, l1, l2⟩ := (HV.out.q.kept GW.out).at hlt
        subst hA
        have hbl : bl < b7 := by
          have h0 := (HV.out.q).at hlt
          obtain ⟨b', off', e', k0, _⟩ := h0
          cases e'
          have := World.block_lt_of_cell? w _ k0
          have := LW.out
          simp at *
          omega
        have q0 : (0 : Int) ≤ (i : Int) := by omega
        have q1 : (i : Int) < (m.qs.length : Int) := by omega
        have HP := Lib.hid (show may (m.qs[i]).name = true from List.all_eq_true.1 QOK.out _ (List.getElem_mem hlt))
        have HG := Lib.hid (HD.out.rng.q _ (List.getElem_mem hlt))
        have SI := Lib.hid (SN.out i hlt)
        have LI := Lib.hid (LQ.out i)
        have FI := Lib.hid (FQ.out i)
        have LN := Lib.hid (LE.out (i + 1))
        generalize m.qs[i] = q at *
        generalize qsF m.s0 (m.qs.take i) = S at *
        obtain ⟨S', hS'⟩ : ∃ s, qsF m.s0 (m.qs.take (i + 1)) = s := ⟨_, rfl⟩
        rw [hS'] at SI LN
        have ES := Lib.hid hS'
        clear hS'
        have P1 := rput_ok b7 vt' S.2 S.1 q.name true true _ T0.out LI.out HP.out (by have := (may_size HP.out).1; have := FI.out; omega) (by omega)
        have L5 := Lib.hid hl5
        clear hl5
        go_wp2_with fail
        refine Calls.mono P1 ?_
        clear P1
        rintro e w5 ⟨rfl, vt1, hT1, hg1⟩
        have T1 := Lib.hid hT1
        have GR1 := Lib.hid (gsome GR.out hg1)
        have B6 := Lib.hid (gblock hg1 B5.out (by have := L7.out; simp; omega))
        have N1 := Lib.hid (show putF q.name true true 0 S.2 S.1 = nmF q.name S from rfl)
        have LS1 := Lib.hid (show (nmF q.name S).1.length ≤ 65800 from by have := put_le_ q.name true true S.2 S.1 (may_size HP.out).2 LI.out; have := (may_size HP.out).1; have := L5.out; show (putF q.name true true 0 S.2 S.1).1.length ≤ 65800; omega)
        have l1' := gcell_ hg1 l1 (by simp; omega)
        have l2' := gcell_ hg1 l2 (by simp; omega)
        rw [N1.out] at T1 ⊢
        have QF := Lib.hid (show qF S q = adF (enc 2 q.kind ++ enc 2 q.cls) (nmF q.name S) from rfl)
        clear hT1 N1 T0 LI FI hg1 l0 l1 l2 B5 GR c11
        generalize nmF q.name S = S1' at *
        go_wp2_with fail
        have K2 := Lib.hid (fun w' => rput_any q.kind 2 (by have := HG.out.kind; omega) (by omega) w')
        have K3 := Lib.hid (fun w' => rput_any q.cls 2 (by have := HG.out.cls; omega) (by omega) w')
        have u2 : IntKind.u64.wrap (q.kind : Int) = q.kind := by rw [IntKind.wrap_u64]; have := HG.out.kind; omega
        have u3 : IntKind.u64.wrap (q.cls : Int) = q.cls := by rw [IntKind.wrap_u64]; have := HG.out.cls; omega
        have ZF := Lib.hid (cls_str S1' q.kind q.cls)
        rw [← QF.out] at ZF
        have S2T := Lib.hid (show (qF S q).2 = S1'.2 from by rw [QF.out]; rfl)
        generalize qF S q = S2 at *
        have c1 := Gr.cell l1'
        have c2 := Gr.cell l2'
        have c3 := Gr.cell (bcellAt B6.out 11)
        have nl1 : ¬ (9223372036854775807 < S1'.1.length + (enc 2 q.kind).length) := by rw [enc_len]; have := LS1.out; omega
        have nl2 : ¬ (9223372036854775807 < S1'.1.length + (enc 2 q.kind).length + (enc 2 q.cls).length) := by rw [enc_len, enc_len]; have := LS1.out; omega
        refine wp_region_noPanic ?_
        refine wp_region_gr (by kernel_rfl) (by kernel_rfl) ?_
        repeat (go_big_quiet_step (first | (go_at_call 15; with_reducible exact Calls.gr (K2.out _)) | (go_at_call 15; with_reducible exact Calls.gr (K3.out _))))
        refine wpQuiet_nil ?_
        rintro _ ⟨gq, rfl⟩
        refine NoPanic.normal ?_
        rw [ZF.out]
        have T2 := Lib.hid (T1.out.kept0 gq.h)
        have GR := Lib.hid (gsome GR1.out (gany' gq.h))
        clear c1 c2 c3 nl1 nl2 K2 K3 u2 u3 ZF l1' l2' T1 GR1 B6 QF
        generalize gq.w = w6 at *
        clear gq
        have hsz : (⟨S2.1.toArray⟩ : ByteArray).size = S2.1.length := size_mk _
        obtain ⟨X2, hX2⟩ : ∃ X : ByteArray, X = ⟨S2.1.toArray⟩ := ⟨_, rfl⟩
        rw [← hX2] at hsz ⊢
        have HX := Lib.hid hX2
        clear hX2
        by_cases h6 : 65535 < S2.1.length
        · have d6 : decide ((65535 : Int) < (S2.1.length : Int)) = true := decide_eq_true (by omega)
          have HE := Lib.hid (wE_long HM.out LN.out (by rw [SI.out]; exact h6))
          clear h6
          go_wp2_with fail
          go_ret2
          exact ⟨by rw [out_not HE.out (by decide), HE.out]; rfl, gstepo G4.out GR.out LW.out⟩
        have d6 : decide ((65535 : Int) < (S2.1.length : Int)) = false := decide_eq_false (by omega)
        have hLL : m.qs.length ≤ 65535 := QL.out
        have H6 := Lib.hid h6
        clear h6
        go_wp2_with fail
        go_roundw
        case rel => exact ⟨i + 1, vt1, by go_num, by omega, by rw [ES.out, SI.out, HX.out], by rw [ES.out, SI.out, S2T.out]; exact T2.out, by rw [ES.out, SI.out]; have := H6.out; omega, GR.out⟩
        case measure => simp [intOf]; omega
      · have k1 : decide ((i : Int) < (m.qs.length : Int)) = false := decide_eq_false (by omega)
        obtain rfl : i = m.qs.length := by omega
        rw [S1.out] at T0 hl5 ⊢
        have L5 := Lib.hid hl5
        clear hl5 SN LQ FQ LE S1 QOK S0L B4 G4 T4
        have c12 := bcellAt B5.out 12
        have c13 := bcellAt B5.out 13
        have c14 := bcellAt B5.out 14
        have ga := galloc (grefl wr none) (.cells #[.slice Aa m.an.length ca, .slice Au m.au.length cu, .slice Ax m.ex.length cx] 27)
        have BS := Lib.hid (balloc wr (.cells #[.slice Aa m.an.length ca, .slice Au m.au.length cu, .slice Ax m.ex.length cx] 27))
        have B6 := Lib.hid (gblock ga B5.out (by simp))
        have T6 := Lib.hid (T0.out.kept0 ga)
        have G6 := Lib.hid (gtrans GW.out ga)
        have L9 := Lib.hid (blt T0.out.cell)
        have LWW := Lib.hid (show w.heap.size ≤ b7 from LW.out)
        clear ga T0 B5 GR GW hil hlt
        go_upto_region 16 with fail
        clear k1 c11 c12 c13 c14
        generalize (wr.alloc (.cells #[.slice Aa m.an.length ca, .slice Au m.au.length cu, .slice Ax m.ex.length cx] 27)) = w7 at *
        generalize wr.heap.size = b9 at *
        go_wp2_with fail
        go_loopw [5, 10] (fun vs vi wx => ∃ (k : Nat) (vt' : Value), vi = .int .i64 k ∧ k ≤ 3 ∧ vs = .string ⟨(m.sk k).1.toArray⟩ ∧ RT wx b7 vt' (m.sk k).2 ∧ (m.sk k).1.length ≤ 65535 ∧ w7.grownBy wx (some b7)) (fun _ vi _ => 3 - (intOf vi).toNat)
        case atStart => exact ⟨0, _, rfl, by omega, rfl, T6.out, L5.out, grefl _ _⟩
        case round =>
          obtain ⟨k, vt2, rfl, hk3, rfl, hT, hl5, hg⟩ := hrel
          have GR := Lib.hid hg
          have GW := Lib.hid (gstepo G6.out hg LWW.out)
          have T0 := Lib.hid hT
          have B7 := Lib.hid (gblock hg B6.out (by have := L7.out; simp; omega))
          have BS' := Lib.hid (gblock hg BS.out (by have := L9.out; simp; omega))
          clear hg hT
          by_cases hlt : k < 3
          · obtain ⟨cc, hRs⟩ := sx_cell (m := m) (w0 := w) k hlt BS'.out HV.out
            have q0 : (0 : Int) ≤ (k : Int) := by omega
            have q1 : (k : Int) < 3 := by omega
            have KP := rputs_any b7 vt2 (m.sk k) (.slice (sel_ Aa Au Ax k) (m.sx k).length (sel_ ca cu cx k)) (m.sx k) wr T0.out (m.sk_low k) (m.sk_few k) hl5 (hRs.kept0 GW.out) (HD.out.put HM.out k).1 (fun h0 j hj => by have := rs_lt hRs h0 j hj; have := LWW.out; omega) (HD.out.put HM.out k).2
            rw [← m.sk_step k hlt] at KP
            have SL := Lib.hid (m.sk_le (k + 1))
            clear hRs hl5
            have HK := Lib.hid hlt
            go_wp2_with fail
            refine Calls.mono KP ?_
            clear KP
            rintro e w8 hp
            unfold PutsPost at hp
            obtain ⟨hg, hp⟩ := hp
            have GR1 := Lib.hid (gsome GR.out hg)
            have GW1 := Lib.hid (gstepo GW.out hg LWW.out)
            clear hg cc q0 q1 hlt
            by_cases h6 : 65535 < (m.sk (k + 1)).1.length
            · rw [if_pos h6] at hp
              subst hp
              have HE := Lib.hid (wE_long HM.out SL.out h6)
              clear h6
              go_wp2_with fail
              go_ret2
              exact ⟨by rw [out_not HE.out (by decide), HE.out]; rfl, GW1.out⟩
            rw [if_neg h6] at hp
            obtain ⟨rfl, vt3, hT3⟩ := hp
            have T3 := Lib.hid hT3
            have H6 := Lib.hid h6
            have hKK : k < 3 := HK.out
            clear h6 hT3
            go_wp2_with fail
            go_roundw
            case rel => exact ⟨k + 1, vt3, by go_num, by have := HK.out; omega, rfl, T3.out, by have := H6.out; omega, GR1.out⟩
            case measure => have := HK.out; simp [intOf]; omega
          · have k1 : decide ((k : Int) < 3) = false := decide_eq_false (by omega)
            obtain rfl : k = 3 := by omega
            have L4 := Lib.hid (show m.s4.1.length ≤ 65535 from hl5)
            rw [show m.sk 3 = m.s4 from rfl] at *
            clear hlt hk3 hl5
            have c15 : wr.cell? ⟨b1, 15, none⟩ = some (.bool false) := (bcellAt B7.out 15).trans (by rw [← HH.out]; rfl)
            have S5 := Lib.hid (show m.s5 = m.s4 from by unfold Ms.s5; rw [HH.out]; rfl)
            have HE := Lib.hid (wE_fine HM.out (by rw [HH.out]; simp) (by rw [S5.out]; exact L4.out))
            have HO := Lib.hid (show m.out = ⟨m.s4.1.toArray⟩ from by rw [← S5.out]; exact if_pos HE.out)
            have hsz : (⟨m.s4.1.toArray⟩ : ByteArray).size = m.s4.1.length := size_mk _
            obtain ⟨X2, hX2⟩ : ∃ X : ByteArray, X = ⟨m.s4.1.toArray⟩ := ⟨_, rfl⟩
            have HQ := Lib.hid (show m.out = X2 from HO.out.trans hX2.symm)
            rw [← hX2] at hsz ⊢
            clear hX2 HO
            have d6 : decide ((65535 : Int) < (m.s4.1.length : Int)) = false := decide_eq_false (by have := L4.out; omega)
            go_wp2_with fail
            go_ret2
            exact ⟨by rw [HQ.out, HE.out]; rfl, GW.out⟩
  case inr =>
    go_upto_region 6 with fail
    go_wp2_with fail
    refine Calls.mono (HW.out _) ?_
    rintro e w3 ⟨rfl, hg⟩
    have G3 := Lib.hid (gtrans G.out hg)
    have B3 := Lib.hid (gblock hg B.out (by simp))
    clear hg G B HW hx CC XN XL c0 c1 c2 c3 c4 c5 c6 c7 c8 c9 c10 c11 c12 c13 c14 c15
    have TB := Lib.hid (balloc w3 (.cells #[.slice none 0 0] 64))
    have ga := galloc (grefl w3 none) (.cells #[.slice none 0 0] 64)
    have G4 := Lib.hid (gtrans G3.out ga)
    have B4 := Lib.hid (gblock ga B3.out (by simp))
    have L7 := Lib.hid (show b1 < w3.heap.size from blt B3.out)
    have LW := Lib.hid (G3.out.size)
    have T4 := Lib.hid (show RT (w3.alloc (.cells #[.slice none 0 0] 64)) w3.heap.size (.slice none 0 0) m.s0.2 from ⟨TB.out, ⟨rfl, .inl ⟨rfl, rfl⟩⟩⟩)
    clear ga G3 B3 TB
    go_upto_region 8 with fail
    generalize (w3.alloc (.cells #[.slice none 0 0] 64)) = w4 at *
    generalize w3.heap.size = b7 at *
    have LE := Lib.hid (fun k => (qsF_take_le m.s0 m.qs k).trans (m.sk_le 0))
    have SN := Lib.hid (fun k h => qsF_snoc m.s0 m.qs k h)
    have LQ := Lib.hid (fun k => qsF_low Low.nil (m.qs.take k) (s := m.s0))
    have FQ := Lib.hid (fun k => (qsF_le (m.qs.take k) m.s0).few (Nat.zero_le _))
    have S1 := Lib.hid (show qsF m.s0 (m.qs.take m.qs.length) = m.s1 from by rw [List.take_length]; rfl)
    have S0L := Lib.hid (m.s0_len)
    have QOK := Lib.hid (YS.out.q)
    have QL := Lib.hid (YS.out.ql)
    go_wp2_with fail
    go_loopw [5, 8] (fun vs vi wr => ∃ (i : Nat) (vt' : Value), vi = .int .i64 i ∧ i ≤ m.qs.length ∧ vs = .string ⟨(qsF m.s0 (m.qs.take i)).1.toArray⟩ ∧ RT wr b7 vt' (qsF m.s0 (m.qs.take i)).2 ∧ (qsF m.s0 (m.qs.take i)).1.length ≤ 65535 ∧ w4.grownBy wr (some b7)) (fun _ vi _ => m.qs.length - (intOf vi).toNat)
    case atStart => exact ⟨0, _, rfl, by omega, rfl, T4.out, by show m.s0.1.length ≤ 65535; rw [S0L.out]; decide, grefl _ _⟩
    case round =>
      obtain ⟨i, vt', rfl, hil, rfl, hT, hl5, hg⟩ := hrel
      have GR := Lib.hid hg
      have GW := Lib.hid (gstepo G4.out hg LW.out)
      have T0 := Lib.hid hT
      have B5 := Lib.hid (gblock hg B4.out (by have := L7.out; simp; omega))
      clear hg hT
      have c11 := bcellAt B5.out 11
      by_cases hlt : i < m.qs.length
      · obtain ⟨bl, off, hA, l0, l1, l2⟩ := (HV.out.q.kept GW.out).at hlt
        subst hA
        have hbl : bl < b7 := by
          have h0 := (HV.out.q).at hlt
          obtain ⟨b', off', e', k0, _⟩ := h0
          cases e'
          have := World.block_lt_of_cell? w _ k0
          have := LW.out
          simp at *
          omega
        have q0 : (0 : Int) ≤ (i : Int) := by omega
        have q1 : (i : Int) < (m.qs.length : Int) := by omega
        have HP := Lib.hid (show may (m.qs[i]).name = true from List.all_eq_true.1 QOK.out _ (List.getElem_mem hlt))
        have HG := Lib.hid (HD.out.rng.q _ (List.getElem_mem hlt))
        have SI := Lib.hid (SN.out i hlt)
        have LI := Lib.hid (LQ.out i)
        have FI := Lib.hid (FQ.out i)
        have LN := Lib.hid (LE.out (i + 1))
        generalize m.qs[i] = q at *
        generalize qsF m.s0 (m.qs.take i) = S at *
        obtain ⟨S', hS'⟩ : ∃ s, qsF m.s0 (m.qs.take (i + 1)) = s := ⟨_, rfl⟩
        rw [hS'] at SI LN
        have ES := Lib.hid hS'
        clear hS'
        have P1 := rput_ok b7 vt' S.2 S.1 q.name true true _ T0.out LI.out HP.out (by have := (may_size HP.out).1; have := FI.out; omega) (by omega)
        have L5 := Lib.hid hl5
        clear hl5
        go_wp2_with fail
        refine Calls.mono P1 ?_
        clear P1
        rintro e w5 ⟨rfl, vt1, hT1, hg1⟩
        have T1 := Lib.hid hT1
        have GR1 := Lib.hid (gsome GR.out hg1)
        have B6 := Lib.hid (gblock hg1 B5.out (by have := L7.out; simp; omega))
        have N1 := Lib.hid (show putF q.name true true 0 S.2 S.1 = nmF q.name S from rfl)
        have LS1 := Lib.hid (show (nmF q.name S).1.length ≤ 65800 from by have := put_le_ q.name true true S.2 S.1 (may_size HP.out).2 LI.out; have := (may_size HP.out).1; have := L5.out; show (putF q.name true true 0 S.2 S.1).1.length ≤ 65800; omega)
        have l1' := gcell_ hg1 l1 (by simp; omega)
        have l2' := gcell_ hg1 l2 (by simp; omega)
        rw [N1.out] at T1 ⊢
        have QF := Lib.hid (show qF S q = adF (enc 2 q.kind ++ enc 2 q.cls) (nmF q.name S) from rfl)
        clear hT1 N1 T0 LI FI hg1 l0 l1 l2 B5 GR c11
        generalize nmF q.name S = S1' at *
        go_wp2_with fail
        have K2 := Lib.hid (fun w' => rput_any q.kind 2 (by have := HG.out.kind; omega) (by omega) w')
        have K3 := Lib.hid (fun w' => rput_any q.cls 2 (by have := HG.out.cls; omega) (by omega) w')
        have u2 : IntKind.u64.wrap (q.kind : Int) = q.kind := by rw [IntKind.wrap_u64]; have := HG.out.kind; omega
        have u3 : IntKind.u64.wrap (q.cls : Int) = q.cls := by rw [IntKind.wrap_u64]; have := HG.out.cls; omega
        have ZF := Lib.hid (cls_str S1' q.kind q.cls)
        rw [← QF.out] at ZF
        have S2T := Lib.hid (show (qF S q).2 = S1'.2 from by rw [QF.out]; rfl)
        generalize qF S q = S2 at *
        have c1 := Gr.cell l1'
        have c2 := Gr.cell l2'
        have c3 := Gr.cell (bcellAt B6.out 11)
        have nl1 : ¬ (9223372036854775807 < S1'.1.length + (enc 2 q.kind).length) := by rw [enc_len]; have := LS1.out; omega
        have nl2 : ¬ (9223372036854775807 < S1'.1.length + (enc 2 q.kind).length + (enc 2 q.cls).length) := by rw [enc_len, enc_len]; have := LS1.out; omega
        refine wp_region_noPanic ?_
        refine wp_region_gr (by kernel_rfl) (by kernel_rfl) ?_
        repeat (go_big_quiet_step (first | (go_at_call 15; with_reducible exact Calls.gr (K2.out _)) | (go_at_call 15; with_reducible exact Calls.gr (K3.out _))))
        refine wpQuiet_nil ?_
        rintro _ ⟨gq, rfl⟩
        refine NoPanic.normal ?_
        rw [ZF.out]
        have T2 := Lib.hid (T1.out.kept0 gq.h)
        have GR := Lib.hid (gsome GR1.out (gany' gq.h))
        clear c1 c2 c3 nl1 nl2 K2 K3 u2 u3 ZF l1' l2' T1 GR1 B6 QF
        generalize gq.w = w6 at *
        clear gq
        have hsz : (⟨S2.1.toArray⟩ : ByteArray).size = S2.1.length := size_mk _
        obtain ⟨X2, hX2⟩ : ∃ X : ByteArray, X = ⟨S2.1.toArray⟩ := ⟨_, rfl⟩
        rw [← hX2] at hsz ⊢
        have HX := Lib.hid hX2
        clear hX2
        by_cases h6 : 65535 < S2.1.length
        · have d6 : decide ((65535 : Int) < (S2.1.length : Int)) = true := decide_eq_true (by omega)
          have HE := Lib.hid (wE_long HM.out LN.out (by rw [SI.out]; exact h6))
          clear h6
          go_wp2_with fail
          go_ret2
          exact ⟨by rw [out_not HE.out (by decide), HE.out]; rfl, gstepo G4.out GR.out LW.out⟩
        have d6 : decide ((65535 : Int) < (S2.1.length : Int)) = false := decide_eq_false (by omega)
        have hLL : m.qs.length ≤ 65535 := QL.out
        have H6 := Lib.hid h6
        clear h6
        go_wp2_with fail
        go_roundw
        case rel => exact ⟨i + 1, vt1, by go_num, by omega, by rw [ES.out, SI.out, HX.out], by rw [ES.out, SI.out, S2T.out]; exact T2.out, by rw [ES.out, SI.out]; have := H6.out; omega, GR.out⟩
        case measure => simp [intOf]; omega
      · have k1 : decide ((i : Int) < (m.qs.length : Int)) = false := decide_eq_false (by omega)
        obtain rfl : i = m.qs.length := by omega
        rw [S1.out] at T0 hl5 ⊢
        have L5 := Lib.hid hl5
        clear hl5 SN LQ FQ LE S1 QOK S0L B4 G4 T4
        have c12 := bcellAt B5.out 12
        have c13 := bcellAt B5.out 13
        have c14 := bcellAt B5.out 14
        have ga := galloc (grefl wr none) (.cells #[.slice Aa m.an.length ca, .slice Au m.au.length cu, .slice Ax m.ex.length cx] 27)
        have BS := Lib.hid (balloc wr (.cells #[.slice Aa m.an.length ca, .slice Au m.au.length cu, .slice Ax m.ex.length cx] 27))
        have B6 := Lib.hid (gblock ga B5.out (by simp))
        have T6 := Lib.hid (T0.out.kept0 ga)
        have G6 := Lib.hid (gtrans GW.out ga)
        have L9 := Lib.hid (blt T0.out.cell)
        have LWW := Lib.hid (show w.heap.size ≤ b7 from LW.out)
        clear ga T0 B5 GR GW hil hlt
        go_upto_region 16 with fail
        clear k1 c11 c12 c13 c14
        generalize (wr.alloc (.cells #[.slice Aa m.an.length ca, .slice Au m.au.length cu, .slice Ax m.ex.length cx] 27)) = w7 at *
        generalize wr.heap.size = b9 at *
        go_wp2_with fail
        go_loopw [5, 10] (fun vs vi wx => ∃ (k : Nat) (vt' : Value), vi = .int .i64 k ∧ k ≤ 3 ∧ vs = .string ⟨(m.sk k).1.toArray⟩ ∧ RT wx b7 vt' (m.sk k).2 ∧ (m.sk k).1.length ≤ 65535 ∧ w7.grownBy wx (some b7)) (fun _ vi _ => 3 - (intOf vi).toNat)
        case atStart => exact ⟨0, _, rfl, by omega, rfl, T6.out, L5.out, grefl _ _⟩
        case round =>
          obtain ⟨k, vt2, rfl, hk3, rfl, hT, hl5, hg⟩ := hrel
          have GR := Lib.hid hg
          have GW := Lib.hid (gstepo G6.out hg LWW.out)
          have T0 := Lib.hid hT
          have B7 := Lib.hid (gblock hg B6.out (by have := L7.out; simp; omega))
          have BS' := Lib.hid (gblock hg BS.out (by have := L9.out; simp; omega))
          clear hg hT
          by_cases hlt : k < 3
          · obtain ⟨cc, hRs⟩ := sx_cell (m := m) (w0 := w) k hlt BS'.out HV.out
            have q0 : (0 : Int) ≤ (k : Int) := by omega
            have q1 : (k : Int) < 3 := by omega
            have KP := rputs_any b7 vt2 (m.sk k) (.slice (sel_ Aa Au Ax k) (m.sx k).length (sel_ ca cu cx k)) (m.sx k) wr T0.out (m.sk_low k) (m.sk_few k) hl5 (hRs.kept0 GW.out) (HD.out.put HM.out k).1 (fun h0 j hj => by have := rs_lt hRs h0 j hj; have := LWW.out; omega) (HD.out.put HM.out k).2
            rw [← m.sk_step k hlt] at KP
            have SL := Lib.hid (m.sk_le (k + 1))
            clear hRs hl5
            have HK := Lib.hid hlt
            go_wp2_with fail
            refine Calls.mono KP ?_
            clear KP
            rintro e w8 hp
            unfold PutsPost at hp
            obtain ⟨hg, hp⟩ := hp
            have GR1 := Lib.hid (gsome GR.out hg)
            have GW1 := Lib.hid (gstepo GW.out hg LWW.out)
            clear hg cc q0 q1 hlt
            by_cases h6 : 65535 < (m.sk (k + 1)).1.length
            · rw [if_pos h6] at hp
              subst hp
              have HE := Lib.hid (wE_long HM.out SL.out h6)
              clear h6
              go_wp2_with fail
              go_ret2
              exact ⟨by rw [out_not HE.out (by decide), HE.out]; rfl, GW1.out⟩
            rw [if_neg h6] at hp
            obtain ⟨rfl, vt3, hT3⟩ := hp
            have T3 := Lib.hid hT3
            have H6 := Lib.hid h6
            have hKK : k < 3 := HK.out
            clear h6 hT3
            go_wp2_with fail
            go_roundw
            case rel => exact ⟨k + 1, vt3, by go_num, by have := HK.out; omega, rfl, T3.out, by have := H6.out; omega, GR1.out⟩
            case measure => have := HK.out; simp [intOf]; omega
          · have k1 : decide ((k : Int) < 3) = false := decide_eq_false (by omega)
            obtain rfl : k = 3 := by omega
            have L4 := Lib.hid (show m.s4.1.length ≤ 65535 from hl5)
            rw [show m.sk 3 = m.s4 from rfl] at *
            clear hlt hk3 hl5
            have c15 : wr.cell? ⟨b1, 15, none⟩ = some (.bool true) := (bcellAt B7.out 15).trans (by rw [← HH.out]; rfl)
            have c16 := bcellAt B7.out 16
            have c17 := bcellAt B7.out 17
            have c18 := bcellAt B7.out 18
            have c19 := bcellAt B7.out 19
            have c20 := bcellAt B7.out 20
            have KW := rwrite6_any m.sz m.e m.v m.f Ao co m.ops wr HD.out.rng.e HD.out.rng.v HD.out.rng.f (HV.out.o.kept GW.out) (by have := HD.out.rng.ol; unfold maxLen; omega) HD.out.rng.o
            go_wp2_with fail
            refine Calls.mono KW ?_
            clear KW
            rintro e w8 ⟨rfl, hg⟩
            have GW1 := Lib.hid (gtrans GW.out hg)
            clear hg c15 c16 c17 c18 c19 c20
            unfold ewR
            by_cases ho : okO m.ops
            case neg =>
              rw [if_neg ho]
              have HE := Lib.hid (wE_opts HM.out HH.out ho)
              clear ho
              go_wp2_with fail
              go_ret2
              exact ⟨by rw [out_not HE.out (by decide), HE.out]; rfl, GW1.out⟩
            rw [if_pos ho]
            have HO := Lib.hid ho
            have tl := ttlN_lt' HD.out.rng.e HD.out.rng.v HD.out.rng.f
            have K1 := Lib.hid (fun w' => rput_any 41 2 (by omega) (by omega) w')
            have K2 := Lib.hid (fun w' => rput_any m.sz 2 (by have := HD.out.rng.sz; omega) (by omega) w')
            have K3 := Lib.hid (fun w' => rput_any (ttlN m.e m.v m.f) 4 tl (by omega) w')
            have K4 := Lib.hid (fun w' => rput_any (opsB m.ops).length 2 (by unfold okO at ho; omega) (by omega) w')
            have u2 : IntKind.u64.wrap (m.sz : Int) = m.sz := by rw [IntKind.wrap_u64]; have := HD.out.rng.sz; omega
            have u3 : IntKind.u64.wrap ((ttlN m.e m.v m.f : Nat) : Int) = (ttlN m.e m.v m.f : Nat) := by rw [IntKind.wrap_u64]; omega
            have u4 : IntKind.u64.wrap (((opsB m.ops).length : Nat) : Int) = ((opsB m.ops).length : Nat) := by rw [IntKind.wrap_u64]; unfold okO at ho; omega
            have hs8 : (⟨(opsB m.ops).toArray⟩ : ByteArray).size = (opsB m.ops).length := size_mk _
            have ZF := Lib.hid (op_str m.s4 m.sz (ttlN m.e m.v m.f) (opsB m.ops))
            have S5 := Lib.hid (show m.s5 = opF m.sz (ttlN m.e m.v m.f) (opsB m.ops) m.s4 from by unfold Ms.s5; rw [HH.out]; rfl)
            rw [← S5.out] at ZF
            generalize ttlN m.e m.v m.f = tt at *
            have ol : (opsB m.ops).length ≤ 65535 := ho
            have n1 : ¬ (9223372036854775807 < m.s4.1.length + 1) := nlB _ (by have := L4.out; omega)
            have n2 : ¬ (9223372036854775807 < m.s4.1.length + 1 + (enc 2 41).length) := nlB _ (by rw [enc_len]; have := L4.out; omega)
            have n3 : ¬ (9223372036854775807 < m.s4.1.length + 1 + (enc 2 41).length + (enc 2 m.sz).length) := nlB _ (by rw [enc_len, enc_len]; have := L4.out; omega)
            have n4 : ¬ (9223372036854775807 < m.s4.1.length + 1 + (enc 2 41).length + (enc 2 m.sz).length + (enc 4 tt).length) := nlB _ (by rw [enc_len, enc_len, enc_len]; have := L4.out; omega)
            have n5 : ¬ (9223372036854775807 < m.s4.1.length + 1 + (enc 2 41).length + (enc 2 m.sz).length + (enc 4 tt).length + (enc 2 (opsB m.ops).length).length) := nlB _ (by rw [enc_len, enc_len, enc_len, enc_len]; have := L4.out; omega)
            have n6 : ¬ (9223372036854775807 < m.s4.1.length + 1 + (enc 2 41).length + (enc 2 m.sz).length + (enc 4 tt).length + (enc 2 (opsB m.ops).length).length + (opsB m.ops).length) := nlB _ (by rw [enc_len, enc_len, enc_len, enc_len]; have := L4.out; omega)
            clear ho tl ol
            go_wp2_with fail
            refine Calls.mono (K1.out _) ?_
            rintro e w9 ⟨rfl, hg⟩
            have GW2 := Lib.hid (gtrans GW1.out hg)
            clear hg GW1
            go_wp2_with fail
            refine Calls.mono (K2.out _) ?_
            rintro e w10 ⟨rfl, hg⟩
            have GW3 := Lib.hid (gtrans GW2.out hg)
            clear hg GW2
            go_wp2_with fail
            refine Calls.mono (K3.out _) ?_
            rintro e w11 ⟨rfl, hg⟩
            have GW4 := Lib.hid (gtrans GW3.out hg)
            clear hg GW3
            go_wp2_with fail
            refine Calls.mono (K4.out _) ?_
            rintro e w12 ⟨rfl, hg⟩
            have GW5 := Lib.hid (gtrans GW4.out hg)
            clear hg GW4 u2 u3 u4
            have zf := ZF.out
            have hsz : (⟨m.s5.1.toArray⟩ : ByteArray).size = m.s5.1.length := size_mk _
            obtain ⟨X2, hX2⟩ : ∃ X : ByteArray, X = ⟨m.s5.1.toArray⟩ := ⟨_, rfl⟩
            rw [← hX2] at hsz zf
            have HX := Lib.hid hX2
            clear hX2
            by_cases h6 : 65535 < m.s5.1.length
            · have d6 : decide ((65535 : Int) < (m.s5.1.length : Int)) = true := decide_eq_true (by omega)
              have HE := Lib.hid (wE_long HM.out (Ws.le_refl m.s5) h6)
              clear h6
              go_wp2_with fail
              go_ret2
              exact ⟨by rw [out_not HE.out (by decide), HE.out]; rfl, GW5.out⟩
            have d6 : decide ((65535 : Int) < (m.s5.1.length : Int)) = false := decide_eq_false (by omega)
            have HE := Lib.hid (wE_fine HM.out (fun _ => HO.out) (by omega))
            have HQ := Lib.hid (show m.out = X2 from by rw [HX.out]; exact if_pos HE.out)
            clear h6
            go_wp2_with fail
            go_ret2
            exact ⟨by rw [HQ.out, HE.out]; rfl, GW5.out⟩
end Go.Proofs.YtkhigfbmdolgmaaGreatDoor
