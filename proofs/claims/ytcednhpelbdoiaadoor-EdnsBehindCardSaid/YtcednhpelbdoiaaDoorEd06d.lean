/-
  Package edns: Same; slices.Equal at options; the document's Same.
-/
import Derived.Test.YtcednhpelbdoiaaDoorEd06b
import Derived.Laws.StructEq
namespace Go.Proofs.YtcednhpelbdoiaaDoor
open Go.RowKit

/-- An EDNS: its parts, its options' slice. -/
def ev (a b c d : Int) (v : Value) : Value := .agg #[.int .u16 a, .int .u8 b, .int .u8 c, .int .u16 d, v]
def Ops (w : World) (v : Value) (l : List Opt) : Prop := Sl w 2 v l.length (ov l)
theorem Ops.at {w : World} {A : Option Addr} {n cap : Nat} {l : List Opt} (h : Ops w (.slice A n cap) l) (hn : n = l.length) {k : Nat} (hk : k < l.length) :
    ∃ b off, A = some ⟨b, off, none⟩ ∧ w.cell? ⟨b, off + k * 2, none⟩ = some (.int .u16 l[k].1) ∧ w.cell? ⟨b, off + k * 2 + 1, none⟩ = some (.string l[k].2) := by
  subst hn
  obtain ⟨A', cap', h1, h2, h3, h4, h5⟩ := h
  simp only [Value.slice.injEq] at h1
  obtain ⟨rfl, _, rfl⟩ := h1
  obtain ⟨b, off, rfl, hc⟩ := h5 (by omega)
  refine ⟨b, off, rfl, hc (k * 2) _ ?_, ?_⟩
  · exact flat_get (fun o : Opt => [.int .u16 o.1, .string o.2]) 2 (fun _ => rfl) l k 0 (by omega) l[k] (by simp)
  · rw [Nat.add_assoc]
    exact hc (k * 2 + 1) _ (flat_get (fun o : Opt => [.int .u16 o.1, .string o.2]) 2 (fun _ => rfl) l k 1 (by omega) l[k] (by simp))
theorem Ops.kept {w w' : World} {v : Value} {l : List Opt} (h : Ops w v l) (g : w.grownBy w' none) : Ops w' v l := Sl.kept0 h g
theorem Ops.form {w : World} {v : Value} {l : List Opt} (h : Ops w v l) : ∃ A cap, v = .slice A l.length cap := by
  obtain ⟨A, cap, h1, _⟩ := h
  exact ⟨A, cap, h1⟩

theorem ba_inj {s t : ByteArray} (h : s.toList = t.toList) : s = t := by
  rw [ByteArray.toList_eq, ByteArray.toList_eq] at h
  exact ByteArray.ext (Array.ext' h)
def optB (a a' : Int) (s s' : ByteArray) : Bool := decide (a = a' ∧ s = s')
theorem opt_eq (w : World) (a a' : Int) (s s' : ByteArray) : (Op.equalIn 10000 33 (.agg #[.int .u16 a, .string s]) (.agg #[.int .u16 a', .string s'])).run Tryd.prog w = .ok (optB a a' s s') w := by
  unfold optB
  by_cases h1 : a = a'
  · by_cases h2 : s = s'
    · simp [go_sem, h1, h2]
    · have h3 : ¬ s.toList = s'.toList := fun h => h2 (ba_inj h)
      simp [go_sem, h1, h2, h3]
  · simp [go_sem, h1]
theorem opt_beq (x y : Opt) : optB x.1 y.1 x.2 y.2 = decide (x = y) := by
  obtain ⟨a, b⟩ := x
  obtain ⟨c, d⟩ := y
  unfold optB
  rw [Bool.eq_iff_iff]
  simp
  intro _
  constructor <;> intro h <;> omega

set_option maxRecDepth 100000 in
theorem equal_len (A B : Option Addr) (n m ca cb : Nat) (w : World) (h : n ≠ m) : Calls Tryd.prog 30 #[.slice A n ca, .slice B m cb] w fun e w' => e = .returned (.bool false) ∧ w.grownBy w' none := by
  have q : ((n : Int) != (m : Int)) = true := by simp; omega
  go_enter Tryd.func30, Tryd.ntmps30
  go_wp2
  go_ret
  exact ⟨rfl, grefl _ none⟩

set_option maxRecDepth 100000 in
set_option maxHeartbeats 1000000 in
theorem equal_any (A B : Option Addr) (ca cb : Nat) (xs ys : List Opt) (w : World) (hn : xs.length = ys.length) (ha : Ops w (.slice A xs.length ca) xs) (hb : Ops w (.slice B ys.length cb) ys) (hm : xs.length ≤ 1000000) :
    Calls Tryd.prog 30 #[.slice A xs.length ca, .slice B ys.length cb] w fun e w' => e = .returned (.bool (decide (xs = ys))) ∧ w.grownBy w' none := by
  have HA := Lib.hid ha
  have HB := Lib.hid hb
  have HN := Lib.hid hn
  have q : ((xs.length : Int) != (ys.length : Int)) = false := by rw [hn]; simp
  clear ha hb hn
  go_enter Tryd.func30, Tryd.ntmps30
  go_wp2_with fail
  clear q
  go_loopw [13] (fun i wr => ∃ k : Nat, k ≤ xs.length ∧ i = .int .i64 k ∧ xs.take k = ys.take k ∧ w.grownBy wr none) (fun i _ => xs.length - (intOf i).toNat)
  case atStart => exact ⟨0, by omega, rfl, rfl, grefl _ none⟩
  case round =>
    obtain ⟨k, hk, rfl, hsame, hg⟩ := hrel
    have HS := Lib.hid hsame
    have HG := Lib.hid hg
    clear hsame hg
    by_cases hlt : k < xs.length
    · obtain ⟨b, off, rfl, l0, l1⟩ := (HA.out.kept HG.out).at rfl hlt
      obtain ⟨b', off', rfl, l2, l3⟩ := (HB.out.kept HG.out).at rfl (show k < ys.length by have := HN.out; omega)
      have q0 : (0 : Int) ≤ (k : Int) := by omega
      have q1 : (k : Int) < (xs.length : Int) := by omega
      have q2 : (k : Int) < (ys.length : Int) := by have := HN.out; omega
      have HX := Lib.hid (List.take_succ_eq_append_getElem hlt)
      have HY := Lib.hid (List.take_succ_eq_append_getElem (show k < ys.length by have := HN.out; omega))
      generalize xs[k] = x at *
      generalize ys[k]'(by have := HN.out; omega) = y at *
      have oe := opt_eq
      by_cases hxy : x = y
      · have q3 : optB x.1 y.1 x.2 y.2 = true := by rw [opt_beq]; simpa using hxy
        have HXY := Lib.hid hxy
        clear hxy
        go_wp2_with fail
        go_quiet (fail)
        go_wp2
        go_roundw
        case rel => exact ⟨k + 1, by omega, by go_num, by rw [HX.out, HY.out, HS.out, HXY.out], gdrewN HG.out _⟩
        case measure => simp [intOf]; omega
      · have q3 : optB x.1 y.1 x.2 y.2 = false := by rw [opt_beq]; simpa using hxy
        have HXY := Lib.hid hxy
        clear hxy
        go_wp2_with fail
        go_quiet (fail)
        go_wp2
        go_ret
        refine ⟨?_, gdrewN HG.out _⟩
        have hne : ¬ xs = ys := by
          intro e
          have e1 := HX.out
          rw [e, HY.out] at e1
          have e2 := List.append_inj_right' e1 (by simp)
          simp at e2
          exact HXY.out e2.symm
        simp [hne]
    · go_wp2
      go_ret
      refine ⟨?_, HG.out⟩
      have e1 := HS.out
      have e2 := HN.out
      rw [List.take_of_length_le (by omega), List.take_of_length_le (by omega)] at e1
      simp [e1]

set_option maxRecDepth 100000 in
set_option maxHeartbeats 1000000 in
theorem esame_no0 (a b c d a' b' c' d' : Int) (A B : Option Addr) (n m ca cb : Nat) (w : World)  (h0 : ¬ a = a') : Calls Tryd.prog 20 #[.agg #[.int .u16 a, .int .u8 b, .int .u8 c, .int .u16 d, .slice A n ca], .agg #[.int .u16 a', .int .u8 b', .int .u8 c', .int .u16 d', .slice B m cb]] w fun e w' => e = .returned (.bool false) ∧ w.grownBy w' none := by
  have e0 : (a == a') = false := by simpa using h0
  clear h0
  go_enter Tryd.func20, Tryd.ntmps20
  go_wp2_with fail
  go_ret
  exact ⟨rfl, galloc (galloc (grefl _ none) _) _⟩

set_option maxRecDepth 100000 in
set_option maxHeartbeats 1000000 in
theorem esame_no1 (a b c d a' b' c' d' : Int) (A B : Option Addr) (n m ca cb : Nat) (w : World) (h0 : a = a') (h1 : ¬ b = b') : Calls Tryd.prog 20 #[.agg #[.int .u16 a, .int .u8 b, .int .u8 c, .int .u16 d, .slice A n ca], .agg #[.int .u16 a', .int .u8 b', .int .u8 c', .int .u16 d', .slice B m cb]] w fun e w' => e = .returned (.bool false) ∧ w.grownBy w' none := by
  have e0 : (a == a') = true := by subst h0; simp
  have e1 : (b == b') = false := by simpa using h1
  clear h0 h1
  go_enter Tryd.func20, Tryd.ntmps20
  go_wp2_with fail
  go_ret
  exact ⟨rfl, galloc (galloc (grefl _ none) _) _⟩

set_option maxRecDepth 100000 in
set_option maxHeartbeats 1000000 in
theorem esame_no2 (a b c d a' b' c' d' : Int) (A B : Option Addr) (n m ca cb : Nat) (w : World) (h0 : a = a') (h1 : b = b') (h2 : ¬ c = c') : Calls Tryd.prog 20 #[.agg #[.int .u16 a, .int .u8 b, .int .u8 c, .int .u16 d, .slice A n ca], .agg #[.int .u16 a', .int .u8 b', .int .u8 c', .int .u16 d', .slice B m cb]] w fun e w' => e = .returned (.bool false) ∧ w.grownBy w' none := by
  have e0 : (a == a') = true := by subst h0; simp
  have e1 : (b == b') = true := by subst h1; simp
  have e2 : (c == c') = false := by simpa using h2
  clear h0 h1 h2
  go_enter Tryd.func20, Tryd.ntmps20
  go_wp2_with fail
  go_ret
  exact ⟨rfl, galloc (galloc (grefl _ none) _) _⟩

set_option maxRecDepth 100000 in
set_option maxHeartbeats 1000000 in
theorem esame_no3 (a b c d a' b' c' d' : Int) (A B : Option Addr) (n m ca cb : Nat) (w : World) (h0 : a = a') (h1 : b = b') (h2 : c = c') (h3 : ¬ d = d') : Calls Tryd.prog 20 #[.agg #[.int .u16 a, .int .u8 b, .int .u8 c, .int .u16 d, .slice A n ca], .agg #[.int .u16 a', .int .u8 b', .int .u8 c', .int .u16 d', .slice B m cb]] w fun e w' => e = .returned (.bool false) ∧ w.grownBy w' none := by
  have e0 : (a == a') = true := by subst h0; simp
  have e1 : (b == b') = true := by subst h1; simp
  have e2 : (c == c') = true := by subst h2; simp
  have e3 : (d == d') = false := by simpa using h3
  clear h0 h1 h2 h3
  go_enter Tryd.func20, Tryd.ntmps20
  go_wp2_with fail
  go_ret
  exact ⟨rfl, galloc (galloc (grefl _ none) _) _⟩

set_option maxRecDepth 100000 in
set_option maxHeartbeats 1000000 in
theorem rsame_no0 (a b c d a' b' c' d' : Int) (A B : Option Addr) (n m ca cb : Nat) (w : World)  (h0 : ¬ a = a') : Calls Tryd.prog 13 #[.agg #[.int .u16 a, .int .u8 b, .int .u8 c, .int .u16 d, .slice A n ca], .agg #[.int .u16 a', .int .u8 b', .int .u8 c', .int .u16 d', .slice B m cb]] w fun e w' => e = .returned (.bool false) ∧ w.grownBy w' none := by
  have e0 : (a != a') = true := by simpa using h0
  clear h0
  go_enter Tryd.func13, Tryd.ntmps13
  go_wp2_with fail
  go_ret
  exact ⟨rfl, galloc (galloc (grefl _ none) _) _⟩

set_option maxRecDepth 100000 in
set_option maxHeartbeats 1000000 in
theorem rsame_no1 (a b c d a' b' c' d' : Int) (A B : Option Addr) (n m ca cb : Nat) (w : World) (h0 : a = a') (h1 : ¬ b = b') : Calls Tryd.prog 13 #[.agg #[.int .u16 a, .int .u8 b, .int .u8 c, .int .u16 d, .slice A n ca], .agg #[.int .u16 a', .int .u8 b', .int .u8 c', .int .u16 d', .slice B m cb]] w fun e w' => e = .returned (.bool false) ∧ w.grownBy w' none := by
  have e0 : (a != a') = false := by subst h0; simp
  have e1 : (b != b') = true := by simpa using h1
  clear h0 h1
  go_enter Tryd.func13, Tryd.ntmps13
  go_wp2_with fail
  go_ret
  exact ⟨rfl, galloc (galloc (grefl _ none) _) _⟩

set_option maxRecDepth 100000 in
set_option maxHeartbeats 1000000 in
theorem rsame_no2 (a b c d a' b' c' d' : Int) (A B : Option Addr) (n m ca cb : Nat) (w : World) (h0 : a = a') (h1 : b = b') (h2 : ¬ c = c') : Calls Tryd.prog 13 #[.agg #[.int .u16 a, .int .u8 b, .int .u8 c, .int .u16 d, .slice A n ca], .agg #[.int .u16 a', .int .u8 b', .int .u8 c', .int .u16 d', .slice B m cb]] w fun e w' => e = .returned (.bool false) ∧ w.grownBy w' none := by
  have e0 : (a != a') = false := by subst h0; simp
  have e1 : (b != b') = false := by subst h1; simp
  have e2 : (c != c') = true := by simpa using h2
  clear h0 h1 h2
  go_enter Tryd.func13, Tryd.ntmps13
  go_wp2_with fail
  go_ret
  exact ⟨rfl, galloc (galloc (grefl _ none) _) _⟩

set_option maxRecDepth 100000 in
set_option maxHeartbeats 1000000 in
theorem rsame_no3 (a b c d a' b' c' d' : Int) (A B : Option Addr) (n m ca cb : Nat) (w : World) (h0 : a = a') (h1 : b = b') (h2 : c = c') (h3 : ¬ d = d') : Calls Tryd.prog 13 #[.agg #[.int .u16 a, .int .u8 b, .int .u8 c, .int .u16 d, .slice A n ca], .agg #[.int .u16 a', .int .u8 b', .int .u8 c', .int .u16 d', .slice B m cb]] w fun e w' => e = .returned (.bool false) ∧ w.grownBy w' none := by
  have e0 : (a != a') = false := by subst h0; simp
  have e1 : (b != b') = false := by subst h1; simp
  have e2 : (c != c') = false := by subst h2; simp
  have e3 : (d != d') = true := by simpa using h3
  clear h0 h1 h2 h3
  go_enter Tryd.func13, Tryd.ntmps13
  go_wp2_with fail
  go_ret
  exact ⟨rfl, galloc (galloc (grefl _ none) _) _⟩

/-- Have two the same parts and options? -/
def edB (a b c d : Int) (xs : List Opt) (a' b' c' d' : Int) (ys : List Opt) : Bool := decide (a = a' ∧ b = b' ∧ c = c' ∧ d = d' ∧ xs = ys)

set_option maxRecDepth 100000 in
set_option maxHeartbeats 1000000 in
theorem esame_yes (a b c d : Int) (va vb : Value) (q : Bool) (w : World) (hq : ∀ w', w.grownBy w' none → Calls Tryd.prog 30 #[va, vb] w' fun e w'' => e = .returned (.bool q) ∧ w'.grownBy w'' none) :
    Calls Tryd.prog 20 #[.agg #[.int .u16 a, .int .u8 b, .int .u8 c, .int .u16 d, va], .agg #[.int .u16 a, .int .u8 b, .int .u8 c, .int .u16 d, vb]] w fun e w' => e = .returned (.bool q) ∧ w.grownBy w' none := by
  have HQ := Lib.hid hq
  clear hq
  go_enter Tryd.func20, Tryd.ntmps20
  go_wp2_with fail
  refine Calls.mono (HQ.out _ (galloc (galloc (grefl _ none) _) _)) ?_
  rintro e w1 ⟨rfl, hg⟩
  go_wp2_with fail
  go_ret
  exact ⟨rfl, gfr1 (gfr1 hg)⟩

set_option maxRecDepth 100000 in
set_option maxHeartbeats 1000000 in
theorem rsame_len (a b c d : Int) (A B : Option Addr) (n m ca cb : Nat) (w : World) (h : n ≠ m) : Calls Tryd.prog 13 #[.agg #[.int .u16 a, .int .u8 b, .int .u8 c, .int .u16 d, .slice A n ca], .agg #[.int .u16 a, .int .u8 b, .int .u8 c, .int .u16 d, .slice B m cb]] w fun e w' => e = .returned (.bool false) ∧ w.grownBy w' none := by
  have q : ((n : Int) != (m : Int)) = true := by simp; omega
  go_enter Tryd.func13, Tryd.ntmps13
  go_wp2_with fail
  go_ret
  exact ⟨rfl, galloc (galloc (grefl _ none) _) _⟩

set_option maxRecDepth 100000 in
set_option maxHeartbeats 2000000 in
theorem rsame_loop (a b c d : Int) (A B : Option Addr) (ca cb : Nat) (xs ys : List Opt) (w : World) (hn : xs.length = ys.length) (ha : Ops w (.slice A xs.length ca) xs) (hb : Ops w (.slice B ys.length cb) ys) (hm : xs.length ≤ 1000000) :
    Calls Tryd.prog 13 #[.agg #[.int .u16 a, .int .u8 b, .int .u8 c, .int .u16 d, .slice A xs.length ca], .agg #[.int .u16 a, .int .u8 b, .int .u8 c, .int .u16 d, .slice B ys.length cb]] w fun e w' => e = .returned (.bool (decide (xs = ys))) ∧ w.grownBy w' none := by
  have HA := Lib.hid ha
  have HB := Lib.hid hb
  have HN := Lib.hid hn
  have q : ((xs.length : Int) != (ys.length : Int)) = false := by rw [hn]; simp
  clear ha hb hn
  go_enter Tryd.func13, Tryd.ntmps13
  go_wp2_with fail
  clear q
  go_loopw [5] (fun i wr => ∃ k : Nat, k ≤ xs.length ∧ i = .int .i64 k ∧ xs.take k = ys.take k ∧ w.grownBy wr none ∧ wr.heap[w.heap.size]? = some (.cells #[.int .u16 a, .int .u8 b, .int .u8 c, .int .u16 d, .slice A xs.length ca] 27 (0, 0)) ∧ wr.heap[w.heap.size + 1]? = some (.cells #[.int .u16 a, .int .u8 b, .int .u8 c, .int .u16 d, .slice B ys.length cb] 27 (0, 0))) (fun i _ => xs.length - (intOf i).toNat)
  case atStart => exact ⟨0, by omega, rfl, rfl, galloc (galloc (grefl _ none) _) _, balloc2_0 _ _ _, balloc2_1 _ _ _⟩
  case round =>
    obtain ⟨k, hk, rfl, hsame, hg, hr0, hr1⟩ := hrel
    have HS := Lib.hid hsame
    have HG := Lib.hid hg
    have H0 := Lib.hid hr0
    have H1 := Lib.hid hr1
    have m0 : wr.cell? ⟨w.heap.size, 4, none⟩ = some (.slice A xs.length ca) := bcellAt hr0 4
    have m1 : wr.cell? ⟨w.heap.size + 1, 4, none⟩ = some (.slice B ys.length cb) := bcellAt hr1 4
    clear hsame hg hr0 hr1
    by_cases hlt : k < xs.length
    · obtain ⟨b, off, rfl, l0, l1⟩ := (HA.out.kept HG.out).at rfl hlt
      obtain ⟨b', off', rfl, l2, l3⟩ := (HB.out.kept HG.out).at rfl (show k < ys.length by have := HN.out; omega)
      have q0 : (0 : Int) ≤ (k : Int) := by omega
      have q1 : (k : Int) < (xs.length : Int) := by omega
      have q2 : (k : Int) < (ys.length : Int) := by have := HN.out; omega
      have HX := Lib.hid (List.take_succ_eq_append_getElem hlt)
      have HY := Lib.hid (List.take_succ_eq_append_getElem (show k < ys.length by have := HN.out; omega))
      generalize xs[k] = x at *
      generalize ys[k]'(by have := HN.out; omega) = y at *
      have oe := opt_eq
      by_cases hxy : x = y
      · have q3 : optB x.1 y.1 x.2 y.2 = true := by rw [opt_beq]; simpa using hxy
        have HXY := Lib.hid hxy
        clear hxy
        go_wp2_with fail
        go_quiet (fail)
        go_wp2
        go_roundw
        case rel => exact ⟨k + 1, by omega, by go_num, by rw [HX.out, HY.out, HS.out, HXY.out], gdrewN HG.out _, H0.out, H1.out⟩
        case measure => simp [intOf]; omega
      · have q3 : optB x.1 y.1 x.2 y.2 = false := by rw [opt_beq]; simpa using hxy
        have HXY := Lib.hid hxy
        clear hxy
        go_wp2_with fail
        go_quiet (fail)
        go_wp2
        go_ret
        refine ⟨?_, gdrewN HG.out _⟩
        have hne : ¬ xs = ys := by
          intro e
          have e1 := HX.out
          rw [e, HY.out] at e1
          have e2 := List.append_inj_right' e1 (by simp)
          simp at e2
          exact HXY.out e2.symm
        simp [hne]
    · go_wp2
      go_ret
      refine ⟨?_, HG.out⟩
      have e1 := HS.out
      have e2 := HN.out
      rw [List.take_of_length_le (by omega), List.take_of_length_le (by omega)] at e1
      simp [e1]

theorem esame_any (a b c d a' b' c' d' : Int) (va vb : Value) (xs ys : List Opt) (w : World) (ha : Ops w va xs) (hb : Ops w vb ys) (hm : xs.length ≤ 1000000) :
    Calls Tryd.prog 20 #[ev a b c d va, ev a' b' c' d' vb] w fun e w' => e = .returned (.bool (edB a b c d xs a' b' c' d' ys)) ∧ w.grownBy w' none := by
  obtain ⟨A, ca, rfl⟩ := ha.form
  obtain ⟨B, cb, rfl⟩ := hb.form
  by_cases h0 : a = a'
  · by_cases h1 : b = b'
    · by_cases h2 : c = c'
      · by_cases h3 : d = d'
        · subst h0 h1 h2 h3
          by_cases hn : xs.length = ys.length
          · rw [show edB a b c d xs a b c d ys = decide (xs = ys) by simp [edB]]
            exact esame_yes a b c d _ _ (decide (xs = ys)) w (fun w' g => equal_any A B ca cb xs ys w' hn (ha.kept g) (hb.kept g) hm)
          · have hne : ¬ xs = ys := fun e => hn (by rw [e])
            rw [show edB a b c d xs a b c d ys = false by simp [edB, hne]]
            exact esame_yes a b c d _ _ false w (fun w' _ => equal_len A B xs.length ys.length ca cb w' hn)
        · rw [show edB a b c d xs a' b' c' d' ys = false by simp [edB, h3]]
          exact esame_no3 a b c d a' b' c' d' A B xs.length ys.length ca cb w h0 h1 h2 h3
      · rw [show edB a b c d xs a' b' c' d' ys = false by simp [edB, h2]]
        exact esame_no2 a b c d a' b' c' d' A B xs.length ys.length ca cb w h0 h1 h2
    · rw [show edB a b c d xs a' b' c' d' ys = false by simp [edB, h1]]
      exact esame_no1 a b c d a' b' c' d' A B xs.length ys.length ca cb w h0 h1
  · rw [show edB a b c d xs a' b' c' d' ys = false by simp [edB, h0]]
    exact esame_no0 a b c d a' b' c' d' A B xs.length ys.length ca cb w h0
theorem rsame_any (a b c d a' b' c' d' : Int) (va vb : Value) (xs ys : List Opt) (w : World) (ha : Ops w va xs) (hb : Ops w vb ys) (hm : xs.length ≤ 1000000) :
    Calls Tryd.prog 13 #[ev a b c d va, ev a' b' c' d' vb] w fun e w' => e = .returned (.bool (edB a b c d xs a' b' c' d' ys)) ∧ w.grownBy w' none := by
  obtain ⟨A, ca, rfl⟩ := ha.form
  obtain ⟨B, cb, rfl⟩ := hb.form
  by_cases h0 : a = a'
  · by_cases h1 : b = b'
    · by_cases h2 : c = c'
      · by_cases h3 : d = d'
        · subst h0 h1 h2 h3
          by_cases hn : xs.length = ys.length
          · rw [show edB a b c d xs a b c d ys = decide (xs = ys) by simp [edB]]
            exact rsame_loop a b c d A B ca cb xs ys w hn ha hb hm
          · have hne : ¬ xs = ys := fun e => hn (by rw [e])
            rw [show edB a b c d xs a b c d ys = false by simp [edB, hne]]
            exact rsame_len a b c d A B xs.length ys.length ca cb w hn
        · rw [show edB a b c d xs a' b' c' d' ys = false by simp [edB, h3]]
          exact rsame_no3 a b c d a' b' c' d' A B xs.length ys.length ca cb w h0 h1 h2 h3
      · rw [show edB a b c d xs a' b' c' d' ys = false by simp [edB, h2]]
        exact rsame_no2 a b c d a' b' c' d' A B xs.length ys.length ca cb w h0 h1 h2
    · rw [show edB a b c d xs a' b' c' d' ys = false by simp [edB, h1]]
      exact rsame_no1 a b c d a' b' c' d' A B xs.length ys.length ca cb w h0 h1
  · rw [show edB a b c d xs a' b' c' d' ys = false by simp [edB, h0]]
    exact rsame_no0 a b c d a' b' c' d' A B xs.length ys.length ca cb w h0
end Go.Proofs.YtcednhpelbdoiaaDoor
