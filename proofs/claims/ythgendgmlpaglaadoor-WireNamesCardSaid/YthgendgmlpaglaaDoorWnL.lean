/-
  Wire: WireNames, its rows.
-/
import Derived.Test.YthgendgmlpaglaaDoorWnK
import Derived.Test.YthgendgmlpaglaaDoorA30
namespace Go.Proofs.YthgendgmlpaglaaDoor
open Go.RowKit

/-- What is known of an operation's value. -/
inductive Sp where
  | is (x : Value)
  | row (n : Nat) (cs : Array Value) (t : TypeId)
  | zero (n : Nat)
def Sp.ok : Sp → Value → World → Prop
  | .is x, v, _ => v = x
  | .row n cs t, v, w => ∃ g, v = .slice (some ⟨g, 0, none⟩) n n ∧ w.heap[g]? = some (.cells cs t (0, 0))
  | .zero n, v, w => SlB w v (List.replicate n 0)
theorem Sp.mono {s : Sp} {v : Value} {w w' : World} (h : s.ok v w) (g : w.grownBy w' none) : s.ok v w' := by
  cases s with
  | is x => exact h
  | row n cs t =>
    obtain ⟨b, h1, h2⟩ := h
    exact ⟨b, h1, gblock g h2 (by simp)⟩
  | zero n => exact SlB.kept h g (by simp)
section
variable {Q : Exit → Act → World → Prop} {a : Act} {w w' : World} {o : Oper} {V : Value → World → Prop} {v : Value}
theorem ev_is {t : Nat} {x : Value} (h : ∃ v, a.tmps[t]? = some v ∧ v = x) : a.eval (.tmp t) = x := by
  obtain ⟨v, h1, rfl⟩ := h
  show a.tmps.getD t undef = v
  rw [Array.getD_eq_getD_getElem?, h1]
  rfl
theorem ev_old {t : Nat} {x : Value} (h : a.tmps[t]? = some x) : a.eval (.tmp t) = x := ev_is ⟨x, h, rfl⟩
theorem st_val (hr : (execOp a.eval o).run Tryd.prog w = .ok (.value v) w') (hv : V v w') (hg : w.grownBy w' none) : o.wp Tryd.prog a w (fun a' w'' => ∃ v, a' = a.put o.dst v ∧ V v w'' ∧ w.grownBy w'' none) Q := by
  unfold Oper.wp
  rw [hr]
  exact ⟨v, rfl, hv, hg⟩
theorem ev_const (v : Value) : a.eval (.const v) = v := rfl
section
variable {ρ : Operand → Value}
theorem rn_build {x : Operand} {s : ByteArray} {e : Int} (hc : ∀ v, ρ (.const v) = v) (ho : o.op = .build 24 #[(0, x), (1, .const (.int .i64 e))]) (hx : ρ x = .string s) : (execOp ρ o).run Tryd.prog w = .ok (.value (.agg #[.string s, .int .i64 e])) w := by
  unfold execOp
  rw [ho]
  go_simp
theorem rn_bs4 {x y z u : Int} (hc : ∀ v, ρ (.const v) = v) (ho : o.op = .buildSlice 26 4 #[(0, .const (.int .u8 x)), (1, .const (.int .u8 y)), (2, .const (.int .u8 z)), (3, .const (.int .u8 u))]) : (execOp ρ o).run Tryd.prog w = .ok (.value (.slice (some ⟨w.heap.size, 0, none⟩) 4 4)) (w.alloc (.cells #[.int .u8 x, .int .u8 y, .int .u8 z, .int .u8 u] 5)) := by
  unfold execOp
  rw [ho]
  go_simp
theorem rn_add {x y : Operand} {s t : ByteArray} {u : TypeId} (hu : u = 9) (ho : o.op = .binOp .add u x y u) (hx : ρ x = .string s) (hy : ρ y = .string t) (hs : ¬ 9223372036854775807 < s.size + t.size) : (execOp ρ o).run Tryd.prog w = .ok (.value (.string (s ++ t))) w := by
  subst hu
  unfold execOp
  rw [ho]
  go_simp
theorem rn_move {x : Operand} {v : Value} (ho : o.op = .move x) (hx : ρ x = v) : (execOp ρ o).run Tryd.prog w = .ok (.value v) w := by
  unfold execOp
  rw [ho]
  go_simp
theorem rn_len {x : Operand} {s : ByteArray} {n : Int} (ho : o.op = Op.call { callee := Callee.builtin Builtin.len, args := #[x], argTypes := #[9] }) (hx : ρ x = .string s) (hn : (s.size : Int) = n) : (execOp ρ o).run Tryd.prog w = .ok (.value (.int .i64 n)) w := by
  subst hn
  unfold execOp
  rw [ho]
  go_simp
theorem rn_sub {x : Operand} {n m : Int} (hc : ∀ v, ρ (.const v) = v) (ho : o.op = .binOp .sub 3 x (.const (.int .i64 1)) 3) (hx : ρ x = .int .i64 n) (hm : IntKind.i64.wrap (n - 1) = m) : (execOp ρ o).run Tryd.prog w = .ok (.value (.int .i64 m)) w := by
  subst hm
  unfold execOp
  rw [ho]
  go_simp
theorem rn_slice {x y : Operand} {s t : ByteArray} {n : Nat} (ho : o.op = .slice 9 x none (some y) none) (hx : ρ x = .string s) (hy : ρ y = .int .i64 n) (hn : n ≤ s.size) (ht : s.extract 0 n = t) : (execOp ρ o).run Tryd.prog w = .ok (.value (.string t)) w := by
  subst ht
  have h0 : (0 : Int) ≤ (n : Int) := by omega
  have h1 : (n : Int) ≤ (s.size : Int) := by omega
  unfold execOp
  rw [ho]
  go_simp
theorem rn_make {n : Nat} {L : Int} (hc : ∀ v, ρ (.const v) = v) (ho : o.op = .makeSlice 26 (.const (.int .i64 L)) (.const (.int .i64 L))) (hL : L = (n : Int)) (hn : n ≤ 100000) :
    ∃ w', (execOp ρ o).run Tryd.prog w = .ok (.value (.slice (some ⟨w.heap.size, 0, none⟩) n n)) w' ∧ SlB w' (.slice (some ⟨w.heap.size, 0, none⟩) n n) (List.replicate n 0) ∧ w.grownBy w' none := by
  obtain ⟨i0, hi, hz0, hz1, hz2⟩ := info_parts Tryd.infoByte
  obtain ⟨w', hrun, r1, r2⟩ := run_make_full (P := Tryd.prog) w 0 26 5 i0 (.int .u8 0) 1 Tryd.underlying26 hi hz0 hz1 .i64 .i64 n (by rw [hz2]; omega) (by unfold maxLen; omega) (Nat.zero_le _)
  subst hL
  refine ⟨w', ?_, ?_, r2⟩
  · unfold execOp
    rw [ho]
    simp [hc, hrun, Result.andThen]
  · have e : (madeCells (Value.int .u8 0).cells (n * 1)).toList = bv (List.replicate n 0) := by
      rw [Nat.mul_one]
      show (madeCells #[Value.int .u8 0] n).toList = _
      rw [toList_madeCells_one, bv, List.map_replicate]
      rfl
    rw [e] at r1
    have : Own w' 0 (.slice (some ⟨w.heap.size, 0, none⟩) n n) (List.replicate n 0) := by
      unfold Own
      simpa using r1
    exact this.sl
theorem rn_conv {x : Operand} {n : Nat} (ho : o.op = .convert 26 9 x) (hx : ρ x = v) (h : SlB w v (List.replicate n 0)) : (execOp ρ o).run Tryd.prog w = .ok (.value (.string (zs n))) w := by
  have cv := cvs h
  rw [zs_mk] at cv
  unfold execOp
  rw [ho]
  go_simp
theorem rn_enter {x : Operand} {t : TypeId} (hc : ∀ f, ρ (.func f) = .func (.func f) #[] #[]) (ho : o.op = Op.call { callee := Callee.value (Operand.func 5), args := #[x], argTypes := #[t] }) (hx : ρ x = v) : (execOp ρ o).run Tryd.prog w = .ok (.enter 5 #[v]) w := by
  unfold execOp
  rw [ho]
  go_simp
theorem rn_len22 {x : Operand} {A : Option Addr} {t : TypeId} (ht : t = 27) (ho : o.op = Op.call { callee := Callee.builtin Builtin.len, args := #[x], argTypes := #[t] }) (hx : ρ x = .slice A 22 22) : (execOp ρ o).run Tryd.prog w = .ok (.value (.int .i64 22)) w := by
  subst ht
  unfold execOp
  rw [ho]
  go_simp
set_option maxHeartbeats 4000000 in
set_option maxRecDepth 100000 in
theorem rn_rows {x0 x1 x2 x3 x4 x5 x6 x7 x8 x9 x10 x11 x12 x13 x14 x15 x16 x17 x18 x19 x20 x21 : Operand} {s0 s1 s2 s3 s4 s5 s6 s7 s8 s9 s10 s11 s12 s13 s14 s15 s16 s17 s18 s19 s20 s21 : ByteArray} {n0 n1 n2 n3 n4 n5 n6 n7 n8 n9 n10 n11 n12 n13 n14 n15 n16 n17 n18 n19 n20 n21 : Int} (ho : o.op = .buildSlice 27 22 #[(0, x0), (1, x1), (2, x2), (3, x3), (4, x4), (5, x5), (6, x6), (7, x7), (8, x8), (9, x9), (10, x10), (11, x11), (12, x12), (13, x13), (14, x14), (15, x15), (16, x16), (17, x17), (18, x18), (19, x19), (20, x20), (21, x21)])
    (h0 : ρ x0 = .agg #[.string s0, .int .i64 n0]) (h1 : ρ x1 = .agg #[.string s1, .int .i64 n1]) (h2 : ρ x2 = .agg #[.string s2, .int .i64 n2]) (h3 : ρ x3 = .agg #[.string s3, .int .i64 n3]) (h4 : ρ x4 = .agg #[.string s4, .int .i64 n4]) (h5 : ρ x5 = .agg #[.string s5, .int .i64 n5]) (h6 : ρ x6 = .agg #[.string s6, .int .i64 n6]) (h7 : ρ x7 = .agg #[.string s7, .int .i64 n7]) (h8 : ρ x8 = .agg #[.string s8, .int .i64 n8]) (h9 : ρ x9 = .agg #[.string s9, .int .i64 n9]) (h10 : ρ x10 = .agg #[.string s10, .int .i64 n10]) (h11 : ρ x11 = .agg #[.string s11, .int .i64 n11]) (h12 : ρ x12 = .agg #[.string s12, .int .i64 n12]) (h13 : ρ x13 = .agg #[.string s13, .int .i64 n13]) (h14 : ρ x14 = .agg #[.string s14, .int .i64 n14]) (h15 : ρ x15 = .agg #[.string s15, .int .i64 n15]) (h16 : ρ x16 = .agg #[.string s16, .int .i64 n16]) (h17 : ρ x17 = .agg #[.string s17, .int .i64 n17]) (h18 : ρ x18 = .agg #[.string s18, .int .i64 n18]) (h19 : ρ x19 = .agg #[.string s19, .int .i64 n19]) (h20 : ρ x20 = .agg #[.string s20, .int .i64 n20]) (h21 : ρ x21 = .agg #[.string s21, .int .i64 n21]) :
    (execOp ρ o).run Tryd.prog w = .ok (.value (.slice (some ⟨w.heap.size, 0, none⟩) 22 22)) (w.alloc (.cells #[.string s0, .int .i64 n0, .string s1, .int .i64 n1, .string s2, .int .i64 n2, .string s3, .int .i64 n3, .string s4, .int .i64 n4, .string s5, .int .i64 n5, .string s6, .int .i64 n6, .string s7, .int .i64 n7, .string s8, .int .i64 n8, .string s9, .int .i64 n9, .string s10, .int .i64 n10, .string s11, .int .i64 n11, .string s12, .int .i64 n12, .string s13, .int .i64 n13, .string s14, .int .i64 n14, .string s15, .int .i64 n15, .string s16, .int .i64 n16, .string s17, .int .i64 n17, .string s18, .int .i64 n18, .string s19, .int .i64 n19, .string s20, .int .i64 n20, .string s21, .int .i64 n21] 24)) := by
  unfold execOp
  rw [ho]
  go_simp
end
theorem st_head (x y z u : UInt8) {V : Value → World → Prop} {t : TypeId} {r : Operand} {cs : Array Value} (ho : o.op = Op.call { callee := Callee.value (Operand.func 5), args := #[r], argTypes := #[t] }) (hcs : cs = #[.int .u8 x.toNat, .int .u8 y.toNat, .int .u8 z.toNat, .int .u8 u.toNat]) (hr : ∃ v, a.eval r = v ∧ ∃ g, v = .slice (some ⟨g, 0, none⟩) 4 4 ∧ w.heap[g]? = some (.cells cs 5 (0, 0))) (hV : ∀ w', V (.string (hw x y z u)) w') :
    o.wp Tryd.prog a w (fun a' w'' => ∃ v, a' = a.put o.dst v ∧ V v w'' ∧ w.grownBy w'' none) Q := by
  obtain ⟨v, h1, g, rfl, h2⟩ := hr
  subst hcs
  unfold Oper.wp
  rw [rn_enter (fun _ => rfl) ho h1]
  refine Calls.mono (head_gen w g x y z u h2) ?_
  rintro e w' ⟨rfl, hg⟩
  exact ⟨_, rfl, hV w', hg⟩
theorem st_alloc {V : Value → World → Prop} {cs : Array Value} {t : TypeId} {n : Nat} (hr : (execOp a.eval o).run Tryd.prog w = .ok (.value (.slice (some ⟨w.heap.size, 0, none⟩) n n)) (w.alloc (.cells cs t))) (hV : ∀ v w', (∃ g, v = .slice (some ⟨g, 0, none⟩) n n ∧ w'.heap[g]? = some (.cells cs t (0, 0))) → V v w') : o.wp Tryd.prog a w (fun a' w'' => ∃ v, a' = a.put o.dst v ∧ V v w'' ∧ w.grownBy w'' none) Q :=
  st_val hr (hV _ _ ⟨_, rfl, balloc _ _⟩) (galloc (grefl w none) _)
theorem ev_dep {t : Nat} {p : Value → Prop} (h : ∃ v, a.tmps[t]? = some v ∧ p v) : ∃ v, a.eval (.tmp t) = v ∧ p v := by
  obtain ⟨v, h1, h2⟩ := h
  exact ⟨v, ev_old h1, h2⟩
theorem st_make (n : Nat) {L : Int} {V : Value → World → Prop} (ho : o.op = .makeSlice 26 (.const (.int .i64 L)) (.const (.int .i64 L))) (hL : L = (n : Int)) (hn : n ≤ 100000) (hV : ∀ v w', SlB w' v (List.replicate n 0) → V v w') : o.wp Tryd.prog a w (fun a' w'' => ∃ v, a' = a.put o.dst v ∧ V v w'' ∧ w.grownBy w'' none) Q := by
  obtain ⟨w', h1, h2, h3⟩ := rn_make (ρ := a.eval) (w := w) (fun _ => rfl) ho hL hn
  exact st_val h1 (hV _ _ h2) h3
theorem st_conv {x : Operand} {n : Nat} {V : Value → World → Prop} (ho : o.op = .convert 26 9 x) (h : ∃ v, a.eval x = v ∧ SlB w v (List.replicate n 0)) (hV : ∀ w', V (.string (zs n)) w') : o.wp Tryd.prog a w (fun a' w'' => ∃ v, a' = a.put o.dst v ∧ V v w'' ∧ w.grownBy w'' none) Q := by
  obtain ⟨v, h1, h2⟩ := h
  exact st_val (rn_conv ho h1 h2) (hV _) (grefl _ _)
theorem gd_of {t : Array Value} {k : Nat} {v : Value} (h : t[k]? = some v) : t.getD k undef = v := by
  rw [Array.getD_eq_getD_getElem?, h]
  rfl
theorem tmps_eq (t : Array Value) (n : Nat) (h : t.size = n) : t = ((List.range n).map fun k => t.getD k undef).toArray := by
  subst h
  apply Array.ext
  · simp
  · intro i h1 h2
    simp [h1]
end
def wnCells : Array Value := (wnRows.flatMap wxV).toArray
def wnD : List Nat := [11, 12, 13, 14, 15, 16, 17, 18, 19, 20, 21, 22, 23, 24, 25, 26, 27, 28, 29, 30, 31, 32, 33, 34, 35, 36, 37, 38, 39, 40, 41, 42, 43, 44, 45, 46, 47, 48, 49, 50, 51, 52, 53, 54, 55, 56, 57, 58, 59, 60, 61, 62, 63, 64, 65, 66, 67, 68, 69, 70, 71, 72, 73, 74, 75, 76, 77, 78, 79, 80, 81, 82, 83, 84, 85, 86, 87, 88, 89, 90, 91, 92, 93, 94, 95, 96, 97, 98, 99, 100, 101, 102, 103, 104, 105, 106, 107, 108, 109, 110, 111, 112, 113, 114, 115, 116, 117, 118, 119, 120, 121, 122, 123, 124]
def wnS0 : List Sp := [.is (.agg #[.string ⟨#[]⟩, .int .i64 4]), .row 4 #[.int .u8 1, .int .u8 0, .int .u8 0, .int .u8 0] 5, .is (.string (hw 1 0 0 0)), .is (.agg #[.string (hw 1 0 0 0), .int .i64 4]), .row 4 #[.int .u8 1, .int .u8 0, .int .u8 0, .int .u8 0] 5, .is (.string (hw 1 0 0 0)), .is (.string ((hw 1 0 0 0) ++ ⟨#[0, 0, 1, 0]⟩)), .is (.agg #[.string ((hw 1 0 0 0) ++ ⟨#[0, 0, 1, 0]⟩), .int .i64 4]), .row 4 #[.int .u8 1, .int .u8 0, .int .u8 0, .int .u8 0] 5, .is (.string (hw 1 0 0 0)), .is (.string ((hw 1 0 0 0) ++ ⟨#[192, 12, 0, 1, 0, 1]⟩)), .is (.agg #[.string ((hw 1 0 0 0) ++ ⟨#[192, 12, 0, 1, 0, 1]⟩), .int .i64 8]), .row 4 #[.int .u8 1, .int .u8 0, .int .u8 0, .int .u8 0] 5, .is (.string (hw 1 0 0 0)), .is (.string ((hw 1 0 0 0) ++ ⟨#[64]⟩)), .is (.agg #[.string ((hw 1 0 0 0) ++ ⟨#[64]⟩), .int .i64 3])]
def wnS1 : List Sp := [.row 4 #[.int .u8 1, .int .u8 0, .int .u8 0, .int .u8 0] 5, .is (.string (hw 1 0 0 0)), .is (.string ((hw 1 0 0 0) ++ ⟨#[0, 0, 1, 0, 1]⟩)), .is (.agg #[.string ((hw 1 0 0 0) ++ ⟨#[0, 0, 1, 0, 1]⟩), .int .i64 0]), .row 4 #[.int .u8 1, .int .u8 0, .int .u8 0, .int .u8 0] 5, .is (.string (hw 1 0 0 0)), .is (.string ((hw 1 0 0 0) ++ ⟨#[192, 2, 0, 1, 0, 1]⟩)), .is (.agg #[.string ((hw 1 0 0 0) ++ ⟨#[192, 2, 0, 1, 0, 1]⟩), .int .i64 0]), .row 4 #[.int .u8 0, .int .u8 0, .int .u8 0, .int .u8 0] 5, .is (.string (hw 0 0 0 0)), .is (.string ((hw 0 0 0 0) ++ ⟨#[120]⟩)), .is (.agg #[.string ((hw 0 0 0 0) ++ ⟨#[120]⟩), .int .i64 5]), .row 4 #[.int .u8 0, .int .u8 1, .int .u8 0, .int .u8 0] 5, .is (.string (hw 0 1 0 0)), .is (.string ⟨#[0, 0, 1, 0, 1, 0, 0, 0, 0, 0, 4, 97, 98, 99, 100]⟩), .is (.string ((hw 0 1 0 0) ++ ⟨#[0, 0, 1, 0, 1, 0, 0, 0, 0, 0, 4, 97, 98, 99, 100]⟩))]
def wnS2 : List Sp := [.is (.agg #[.string ((hw 0 1 0 0) ++ ⟨#[0, 0, 1, 0, 1, 0, 0, 0, 0, 0, 4, 97, 98, 99, 100]⟩), .int .i64 0]), .row 4 #[.int .u8 0, .int .u8 1, .int .u8 0, .int .u8 0] 5, .is (.string (hw 0 1 0 0)), .is (.string ⟨#[0, 0, 1, 0, 1, 0, 0, 0, 0, 0, 4, 97, 98, 99, 100]⟩), .is (.string ⟨#[0, 0, 1, 0, 1, 0, 0, 0, 0, 0, 4, 97, 98, 99, 100]⟩), .is (.int .i64 15), .is (.int .i64 14), .is (.string ⟨#[0, 0, 1, 0, 1, 0, 0, 0, 0, 0, 4, 97, 98, 99]⟩), .is (.string ((hw 0 1 0 0) ++ ⟨#[0, 0, 1, 0, 1, 0, 0, 0, 0, 0, 4, 97, 98, 99]⟩)), .is (.agg #[.string ((hw 0 1 0 0) ++ ⟨#[0, 0, 1, 0, 1, 0, 0, 0, 0, 0, 4, 97, 98, 99]⟩), .int .i64 4]), .row 4 #[.int .u8 0, .int .u8 1, .int .u8 0, .int .u8 0] 5, .is (.string (hw 0 1 0 0)), .is (.string ((hw 0 1 0 0) ++ ⟨#[0, 0, 1, 0, 1, 0, 0, 0, 0, 0, 3, 97, 98, 99]⟩)), .is (.agg #[.string ((hw 0 1 0 0) ++ ⟨#[0, 0, 1, 0, 1, 0, 0, 0, 0, 0, 3, 97, 98, 99]⟩), .int .i64 4]), .row 4 #[.int .u8 0, .int .u8 1, .int .u8 0, .int .u8 0] 5, .is (.string (hw 0 1 0 0))]
def wnS3 : List Sp := [.is (.string ((hw 0 1 0 0) ++ ⟨#[0, 0, 1, 0, 1, 0, 0, 0, 0, 0, 5, 97, 98, 99, 100, 101]⟩)), .is (.agg #[.string ((hw 0 1 0 0) ++ ⟨#[0, 0, 1, 0, 1, 0, 0, 0, 0, 0, 5, 97, 98, 99, 100, 101]⟩), .int .i64 3]), .row 4 #[.int .u8 0, .int .u8 0, .int .u8 0, .int .u8 1] 5, .is (.string (hw 0 0 0 1)), .is (.string ⟨#[0, 0, 41, 2, 0, 0, 0, 0, 0, 0, 0]⟩), .is (.string ((hw 0 0 0 1) ++ ⟨#[0, 0, 41, 2, 0, 0, 0, 0, 0, 0, 0]⟩)), .is (.agg #[.string ((hw 0 0 0 1) ++ ⟨#[0, 0, 41, 2, 0, 0, 0, 0, 0, 0, 0]⟩), .int .i64 0]), .row 4 #[.int .u8 0, .int .u8 1, .int .u8 0, .int .u8 0] 5, .is (.string (hw 0 1 0 0)), .is (.string ⟨#[0, 0, 41, 2, 0, 0, 0, 0, 0, 0, 0]⟩), .is (.string ((hw 0 1 0 0) ++ ⟨#[0, 0, 41, 2, 0, 0, 0, 0, 0, 0, 0]⟩)), .is (.agg #[.string ((hw 0 1 0 0) ++ ⟨#[0, 0, 41, 2, 0, 0, 0, 0, 0, 0, 0]⟩), .int .i64 3]), .row 4 #[.int .u8 0, .int .u8 0, .int .u8 1, .int .u8 0] 5, .is (.string (hw 0 0 1 0)), .is (.string ⟨#[0, 0, 41, 2, 0, 0, 0, 0, 0, 0, 0]⟩), .is (.string ((hw 0 0 1 0) ++ ⟨#[0, 0, 41, 2, 0, 0, 0, 0, 0, 0, 0]⟩))]
def wnS4 : List Sp := [.is (.agg #[.string ((hw 0 0 1 0) ++ ⟨#[0, 0, 41, 2, 0, 0, 0, 0, 0, 0, 0]⟩), .int .i64 3]), .row 4 #[.int .u8 0, .int .u8 0, .int .u8 0, .int .u8 2] 5, .is (.string (hw 0 0 0 2)), .is (.string ⟨#[0, 0, 41, 2, 0, 0, 0, 0, 0, 0, 0]⟩), .is (.string ((hw 0 0 0 2) ++ ⟨#[0, 0, 41, 2, 0, 0, 0, 0, 0, 0, 0]⟩)), .is (.string ⟨#[0, 0, 41, 2, 0, 0, 0, 0, 0, 0, 0]⟩), .is (.string (((hw 0 0 0 2) ++ ⟨#[0, 0, 41, 2, 0, 0, 0, 0, 0, 0, 0]⟩) ++ ⟨#[0, 0, 41, 2, 0, 0, 0, 0, 0, 0, 0]⟩)), .is (.agg #[.string (((hw 0 0 0 2) ++ ⟨#[0, 0, 41, 2, 0, 0, 0, 0, 0, 0, 0]⟩) ++ ⟨#[0, 0, 41, 2, 0, 0, 0, 0, 0, 0, 0]⟩), .int .i64 3]), .row 4 #[.int .u8 0, .int .u8 0, .int .u8 0, .int .u8 2] 5, .is (.string (hw 0 0 0 2)), .is (.string ⟨#[0, 0, 41, 2, 0, 0, 0, 0, 0, 0, 0]⟩), .is (.string ((hw 0 0 0 2) ++ ⟨#[0, 0, 41, 2, 0, 0, 0, 0, 0, 0, 0]⟩)), .is (.string ⟨#[0, 0, 1, 0, 1, 0, 0, 0, 0, 0, 4, 97, 98, 99, 100]⟩), .is (.string (((hw 0 0 0 2) ++ ⟨#[0, 0, 41, 2, 0, 0, 0, 0, 0, 0, 0]⟩) ++ ⟨#[0, 0, 1, 0, 1, 0, 0, 0, 0, 0, 4, 97, 98, 99, 100]⟩)), .is (.agg #[.string (((hw 0 0 0 2) ++ ⟨#[0, 0, 41, 2, 0, 0, 0, 0, 0, 0, 0]⟩) ++ ⟨#[0, 0, 1, 0, 1, 0, 0, 0, 0, 0, 4, 97, 98, 99, 100]⟩), .int .i64 0]), .row 4 #[.int .u8 0, .int .u8 0, .int .u8 0, .int .u8 1] 5]
def wnS5 : List Sp := [.is (.string (hw 0 0 0 1)), .is (.string ((hw 0 0 0 1) ++ ⟨#[1, 97]⟩)), .is (.string ⟨#[0, 0, 41, 2, 0, 0, 0, 0, 0, 0, 0]⟩), .is (.string (((hw 0 0 0 1) ++ ⟨#[1, 97]⟩) ++ ⟨#[0, 0, 41, 2, 0, 0, 0, 0, 0, 0, 0]⟩)), .is (.agg #[.string (((hw 0 0 0 1) ++ ⟨#[1, 97]⟩) ++ ⟨#[0, 0, 41, 2, 0, 0, 0, 0, 0, 0, 0]⟩), .int .i64 3]), .row 4 #[.int .u8 0, .int .u8 0, .int .u8 0, .int .u8 1] 5, .is (.string (hw 0 0 0 1)), .is (.string ⟨#[0, 0, 41, 2, 0, 0, 0, 0, 0, 0, 0]⟩), .is (.string ⟨#[0, 0, 41, 2, 0, 0, 0, 0, 0, 0, 0]⟩), .is (.int .i64 11), .is (.int .i64 10), .is (.string ⟨#[0, 0, 41, 2, 0, 0, 0, 0, 0, 0]⟩), .is (.string ((hw 0 0 0 1) ++ ⟨#[0, 0, 41, 2, 0, 0, 0, 0, 0, 0]⟩)), .is (.string (((hw 0 0 0 1) ++ ⟨#[0, 0, 41, 2, 0, 0, 0, 0, 0, 0]⟩) ++ ⟨#[1, 120]⟩)), .is (.agg #[.string (((hw 0 0 0 1) ++ ⟨#[0, 0, 41, 2, 0, 0, 0, 0, 0, 0]⟩) ++ ⟨#[1, 120]⟩), .int .i64 4]), .row 4 #[.int .u8 0, .int .u8 0, .int .u8 0, .int .u8 1] 5]
def wnS6 : List Sp := [.is (.string (hw 0 0 0 1)), .is (.string ⟨#[0, 0, 41, 2, 0, 0, 0, 0, 0, 0, 0]⟩), .is (.string ⟨#[0, 0, 41, 2, 0, 0, 0, 0, 0, 0, 0]⟩), .is (.int .i64 11), .is (.int .i64 10), .is (.string ⟨#[0, 0, 41, 2, 0, 0, 0, 0, 0, 0]⟩), .is (.string ((hw 0 0 0 1) ++ ⟨#[0, 0, 41, 2, 0, 0, 0, 0, 0, 0]⟩)), .is (.string (((hw 0 0 0 1) ++ ⟨#[0, 0, 41, 2, 0, 0, 0, 0, 0, 0]⟩) ++ ⟨#[4, 0, 1, 0, 0]⟩)), .is (.agg #[.string (((hw 0 0 0 1) ++ ⟨#[0, 0, 41, 2, 0, 0, 0, 0, 0, 0]⟩) ++ ⟨#[4, 0, 1, 0, 0]⟩), .int .i64 0]), .zero 65536, .is (.string (zs 65536)), .is (.agg #[.string (zs 65536), .int .i64 5]), .zero 65535, .is (.string (zs 65535)), .is (.agg #[.string (zs 65535), .int .i64 5]), .row 22 wnCells 24]
def wnS7 : List Sp := [.is (.int .i64 22), .is (.int .i64 0)]
def wnSpecs : List Sp := wnS0 ++ (wnS1 ++ (wnS2 ++ (wnS3 ++ (wnS4 ++ (wnS5 ++ (wnS6 ++ (wnS7)))))))
def wnV (i : Nat) (v : Value) (w : World) : Prop := (wnSpecs.getD i (.is undef)).ok v w
set_option maxRecDepth 100000 in
set_option maxHeartbeats 16000000 in
theorem wn_rows {K : Act → World → Prop} {Q : Exit → Act → World → Prop} {c0 c3 c4 c5 c6 c7 c8 c9 c10 c11 c12 c13 c14 c15 c16 c17 c18 c19 c20 c21 c22 c23 c24 c25 c26 c27 c28 c29 c30 c31 c32 c33 c34 c35 c36 c37 c38 c39 c40 c41 c42 c43 c44 c45 c46 c47 c48 c49 c50 c51 c52 c53 c54 c55 c56 c57 c58 c59 c60 c61 c62 c63 c64 c65 c66 c67 c68 c69 c70 c71 c72 c73 c74 c75 c76 c77 c78 c79 c80 c81 c82 c83 c84 c85 c86 c87 c88 c89 c90 c91 c92 c93 c94 c95 c96 c97 c98 c99 c100 c101 c102 c103 c104 c105 c106 c107 c108 c109 c110 c111 c112 c113 c114 c115 c116 c117 c118 c119 c120 c121 c122 c123 c124 c125 c126 c127 c128 c129 c130 c131 c132 c133 c134 c135 c136 c137 c138 c139 c140 c141 c142 c143 c144 c145 c146 c147 c148 c149 : Value} (w : World)
    (hK : ∀ (u11 u12 u13 u14 u15 u16 u17 u18 u19 u20 u21 u22 u23 u24 u25 u26 u27 u28 u29 u30 u31 u32 u33 u34 u35 u36 u37 u38 u39 u40 u41 u42 u43 u44 u45 u46 u47 u48 u49 u50 u51 u52 u53 u54 u55 u56 u57 u58 u59 u60 u61 u62 u63 u64 u65 u66 u67 u68 u69 u70 u71 u72 u73 u74 u75 u76 u77 u78 u79 u80 u81 u82 u83 u84 u85 u86 u87 u88 u89 u90 u91 u92 u93 u94 u95 u96 u97 u98 u99 u100 u101 u102 u103 u104 u105 u106 u107 u108 u109 u110 u111 u112 u113 u114 u115 u116 u117 u118 u119 u120 u121 : Value) (g : Nat) (wx : World), FS wx 0 24 2 (.slice (some ⟨g, 0, none⟩) 22 22) wnRows.length (wnRows.flatMap wxV) → w.grownBy wx none → K ⟨#[c0, .string ⟨#[0, 0, 41, 2, 0, 0, 0, 0, 0, 0, 0]⟩, .string ⟨#[0, 0, 1, 0, 1, 0, 0, 0, 0, 0, 4, 97, 98, 99, 100]⟩, c3, c4, c5, c6, c7, c8, c9, c10, u11, u12, u13, u14, u15, u16, u17, u18, u19, u20, u21, u22, u23, u24, u25, u26, u27, u28, u29, u30, u31, u32, u33, u34, u35, u36, u37, u38, u39, u40, u41, u42, u43, u44, u45, u46, u47, u48, u49, u50, u51, u52, u53, u54, u55, u56, u57, u58, u59, u60, u61, u62, u63, u64, u65, u66, u67, u68, u69, u70, u71, u72, u73, u74, u75, u76, u77, u78, u79, u80, u81, u82, u83, u84, u85, u86, u87, u88, u89, u90, u91, u92, u93, u94, u95, u96, u97, u98, u99, u100, u101, u102, u103, u104, u105, u106, u107, u108, u109, u110, u111, u112, u113, u114, u115, u116, u117, u118, u119, u120, u121, .slice (some ⟨g, 0, none⟩) 22 22, .int .i64 22, .int .i64 0, c125, c126, c127, c128, c129, c130, c131, c132, c133, c134, c135, c136, c137, c138, c139, c140, c141, c142, c143, c144, c145, c146, c147, c148, c149], []⟩ wx) :
    Code.wp Tryd.prog (cFst (cFst (cTail 4 (Tryd.f3.body.getD .skip)))) (Exit.then K Q) ⟨#[c0, .string ⟨#[0, 0, 41, 2, 0, 0, 0, 0, 0, 0, 0]⟩, .string ⟨#[0, 0, 1, 0, 1, 0, 0, 0, 0, 0, 4, 97, 98, 99, 100]⟩, c3, c4, c5, c6, c7, c8, c9, c10, c11, c12, c13, c14, c15, c16, c17, c18, c19, c20, c21, c22, c23, c24, c25, c26, c27, c28, c29, c30, c31, c32, c33, c34, c35, c36, c37, c38, c39, c40, c41, c42, c43, c44, c45, c46, c47, c48, c49, c50, c51, c52, c53, c54, c55, c56, c57, c58, c59, c60, c61, c62, c63, c64, c65, c66, c67, c68, c69, c70, c71, c72, c73, c74, c75, c76, c77, c78, c79, c80, c81, c82, c83, c84, c85, c86, c87, c88, c89, c90, c91, c92, c93, c94, c95, c96, c97, c98, c99, c100, c101, c102, c103, c104, c105, c106, c107, c108, c109, c110, c111, c112, c113, c114, c115, c116, c117, c118, c119, c120, c121, c122, c123, c124, c125, c126, c127, c128, c129, c130, c131, c132, c133, c134, c135, c136, c137, c138, c139, c140, c141, c142, c143, c144, c145, c146, c147, c148, c149], []⟩ w := by
  conv => arg 2; whnf
  have HK := Lib.hid hK
  clear hK
  refine wp_region_M (V := wnV) wnD (by kernel_rfl) (fun i v w w' h g => Sp.mono h g) (by kernel_rfl) ?_ ?_
  refine ⟨?_, ?_⟩
  · intro a w1 _ hc hd
    exact st_val (rn_build (fun _ => rfl) rfl rfl) rfl (grefl _ _)
  refine ⟨?_, ?_⟩
  · intro a w1 _ hc hd
    exact st_alloc (rn_bs4 (fun _ => rfl) rfl) (fun _ _ h => h)
  refine ⟨?_, ?_⟩
  · intro a w1 _ hc hd
    exact st_head 1 0 0 0 rfl rfl (ev_dep (hd ⟨1, .data⟩ (by simp) rfl)) (fun _ => rfl)
  refine ⟨?_, ?_⟩
  · intro a w1 _ hc hd
    have e13 : a.eval (.tmp 13) = .string (hw 1 0 0 0) := ev_is (hd ⟨2, .data⟩ (by simp) rfl)
    exact st_val (rn_build (fun _ => rfl) rfl e13) rfl (grefl _ _)
  refine ⟨?_, ?_⟩
  · intro a w1 _ hc hd
    exact st_alloc (rn_bs4 (fun _ => rfl) rfl) (fun _ _ h => h)
  refine ⟨?_, ?_⟩
  · intro a w1 _ hc hd
    exact st_head 1 0 0 0 rfl rfl (ev_dep (hd ⟨4, .data⟩ (by simp) rfl)) (fun _ => rfl)
  refine ⟨?_, ?_⟩
  · intro a w1 _ hc hd
    have e16 : a.eval (.tmp 16) = .string (hw 1 0 0 0) := ev_is (hd ⟨5, .data⟩ (by simp) rfl)
    exact st_val (rn_add rfl rfl e16 rfl (by decide +kernel)) rfl (grefl _ _)
  refine ⟨?_, ?_⟩
  · intro a w1 _ hc hd
    have e17 : a.eval (.tmp 17) = .string ((hw 1 0 0 0) ++ ⟨#[0, 0, 1, 0]⟩) := ev_is (hd ⟨6, .data⟩ (by simp) rfl)
    exact st_val (rn_build (fun _ => rfl) rfl e17) rfl (grefl _ _)
  refine ⟨?_, ?_⟩
  · intro a w1 _ hc hd
    exact st_alloc (rn_bs4 (fun _ => rfl) rfl) (fun _ _ h => h)
  refine ⟨?_, ?_⟩
  · intro a w1 _ hc hd
    exact st_head 1 0 0 0 rfl rfl (ev_dep (hd ⟨8, .data⟩ (by simp) rfl)) (fun _ => rfl)
  refine ⟨?_, ?_⟩
  · intro a w1 _ hc hd
    have e20 : a.eval (.tmp 20) = .string (hw 1 0 0 0) := ev_is (hd ⟨9, .data⟩ (by simp) rfl)
    exact st_val (rn_add rfl rfl e20 rfl (by decide +kernel)) rfl (grefl _ _)
  refine ⟨?_, ?_⟩
  · intro a w1 _ hc hd
    have e21 : a.eval (.tmp 21) = .string ((hw 1 0 0 0) ++ ⟨#[192, 12, 0, 1, 0, 1]⟩) := ev_is (hd ⟨10, .data⟩ (by simp) rfl)
    exact st_val (rn_build (fun _ => rfl) rfl e21) rfl (grefl _ _)
  refine ⟨?_, ?_⟩
  · intro a w1 _ hc hd
    exact st_alloc (rn_bs4 (fun _ => rfl) rfl) (fun _ _ h => h)
  refine ⟨?_, ?_⟩
  · intro a w1 _ hc hd
    exact st_head 1 0 0 0 rfl rfl (ev_dep (hd ⟨12, .data⟩ (by simp) rfl)) (fun _ => rfl)
  refine ⟨?_, ?_⟩
  · intro a w1 _ hc hd
    have e24 : a.eval (.tmp 24) = .string (hw 1 0 0 0) := ev_is (hd ⟨13, .data⟩ (by simp) rfl)
    exact st_val (rn_add rfl rfl e24 rfl (by decide +kernel)) rfl (grefl _ _)
  refine ⟨?_, ?_⟩
  · intro a w1 _ hc hd
    have e25 : a.eval (.tmp 25) = .string ((hw 1 0 0 0) ++ ⟨#[64]⟩) := ev_is (hd ⟨14, .data⟩ (by simp) rfl)
    exact st_val (rn_build (fun _ => rfl) rfl e25) rfl (grefl _ _)
  refine ⟨?_, ?_⟩
  · intro a w1 _ hc hd
    exact st_alloc (rn_bs4 (fun _ => rfl) rfl) (fun _ _ h => h)
  refine ⟨?_, ?_⟩
  · intro a w1 _ hc hd
    exact st_head 1 0 0 0 rfl rfl (ev_dep (hd ⟨16, .data⟩ (by simp) rfl)) (fun _ => rfl)
  refine ⟨?_, ?_⟩
  · intro a w1 _ hc hd
    have e28 : a.eval (.tmp 28) = .string (hw 1 0 0 0) := ev_is (hd ⟨17, .data⟩ (by simp) rfl)
    exact st_val (rn_add rfl rfl e28 rfl (by decide +kernel)) rfl (grefl _ _)
  refine ⟨?_, ?_⟩
  · intro a w1 _ hc hd
    have e29 : a.eval (.tmp 29) = .string ((hw 1 0 0 0) ++ ⟨#[0, 0, 1, 0, 1]⟩) := ev_is (hd ⟨18, .data⟩ (by simp) rfl)
    exact st_val (rn_build (fun _ => rfl) rfl e29) rfl (grefl _ _)
  refine ⟨?_, ?_⟩
  · intro a w1 _ hc hd
    exact st_alloc (rn_bs4 (fun _ => rfl) rfl) (fun _ _ h => h)
  refine ⟨?_, ?_⟩
  · intro a w1 _ hc hd
    exact st_head 1 0 0 0 rfl rfl (ev_dep (hd ⟨20, .data⟩ (by simp) rfl)) (fun _ => rfl)
  refine ⟨?_, ?_⟩
  · intro a w1 _ hc hd
    have e32 : a.eval (.tmp 32) = .string (hw 1 0 0 0) := ev_is (hd ⟨21, .data⟩ (by simp) rfl)
    exact st_val (rn_add rfl rfl e32 rfl (by decide +kernel)) rfl (grefl _ _)
  refine ⟨?_, ?_⟩
  · intro a w1 _ hc hd
    have e33 : a.eval (.tmp 33) = .string ((hw 1 0 0 0) ++ ⟨#[192, 2, 0, 1, 0, 1]⟩) := ev_is (hd ⟨22, .data⟩ (by simp) rfl)
    exact st_val (rn_build (fun _ => rfl) rfl e33) rfl (grefl _ _)
  refine ⟨?_, ?_⟩
  · intro a w1 _ hc hd
    exact st_alloc (rn_bs4 (fun _ => rfl) rfl) (fun _ _ h => h)
  refine ⟨?_, ?_⟩
  · intro a w1 _ hc hd
    exact st_head 0 0 0 0 rfl rfl (ev_dep (hd ⟨24, .data⟩ (by simp) rfl)) (fun _ => rfl)
  refine ⟨?_, ?_⟩
  · intro a w1 _ hc hd
    have e36 : a.eval (.tmp 36) = .string (hw 0 0 0 0) := ev_is (hd ⟨25, .data⟩ (by simp) rfl)
    exact st_val (rn_add rfl rfl e36 rfl (by decide +kernel)) rfl (grefl _ _)
  refine ⟨?_, ?_⟩
  · intro a w1 _ hc hd
    have e37 : a.eval (.tmp 37) = .string ((hw 0 0 0 0) ++ ⟨#[120]⟩) := ev_is (hd ⟨26, .data⟩ (by simp) rfl)
    exact st_val (rn_build (fun _ => rfl) rfl e37) rfl (grefl _ _)
  refine ⟨?_, ?_⟩
  · intro a w1 _ hc hd
    exact st_alloc (rn_bs4 (fun _ => rfl) rfl) (fun _ _ h => h)
  refine ⟨?_, ?_⟩
  · intro a w1 _ hc hd
    exact st_head 0 1 0 0 rfl rfl (ev_dep (hd ⟨28, .data⟩ (by simp) rfl)) (fun _ => rfl)
  refine ⟨?_, ?_⟩
  · intro a w1 _ hc hd
    exact st_val (rn_move rfl (ev_old (show a.tmps[2]? = some (.string ⟨#[0, 0, 1, 0, 1, 0, 0, 0, 0, 0, 4, 97, 98, 99, 100]⟩) from hc 2 (by decide)))) rfl (grefl _ _)
  refine ⟨?_, ?_⟩
  · intro a w1 _ hc hd
    have e40 : a.eval (.tmp 40) = .string (hw 0 1 0 0) := ev_is (hd ⟨29, .data⟩ (by simp) rfl)
    have e41 : a.eval (.tmp 41) = .string ⟨#[0, 0, 1, 0, 1, 0, 0, 0, 0, 0, 4, 97, 98, 99, 100]⟩ := ev_is (hd ⟨30, .data⟩ (by simp) rfl)
    exact st_val (rn_add rfl rfl e40 e41 (by decide +kernel)) rfl (grefl _ _)
  refine ⟨?_, ?_⟩
  · intro a w1 _ hc hd
    have e42 : a.eval (.tmp 42) = .string ((hw 0 1 0 0) ++ ⟨#[0, 0, 1, 0, 1, 0, 0, 0, 0, 0, 4, 97, 98, 99, 100]⟩) := ev_is (hd ⟨31, .data⟩ (by simp) rfl)
    exact st_val (rn_build (fun _ => rfl) rfl e42) rfl (grefl _ _)
  refine ⟨?_, ?_⟩
  · intro a w1 _ hc hd
    exact st_alloc (rn_bs4 (fun _ => rfl) rfl) (fun _ _ h => h)
  refine ⟨?_, ?_⟩
  · intro a w1 _ hc hd
    exact st_head 0 1 0 0 rfl rfl (ev_dep (hd ⟨33, .data⟩ (by simp) rfl)) (fun _ => rfl)
  refine ⟨?_, ?_⟩
  · intro a w1 _ hc hd
    exact st_val (rn_move rfl (ev_old (show a.tmps[2]? = some (.string ⟨#[0, 0, 1, 0, 1, 0, 0, 0, 0, 0, 4, 97, 98, 99, 100]⟩) from hc 2 (by decide)))) rfl (grefl _ _)
  refine ⟨?_, ?_⟩
  · intro a w1 _ hc hd
    exact st_val (rn_move rfl (ev_old (show a.tmps[2]? = some (.string ⟨#[0, 0, 1, 0, 1, 0, 0, 0, 0, 0, 4, 97, 98, 99, 100]⟩) from hc 2 (by decide)))) rfl (grefl _ _)
  refine ⟨?_, ?_⟩
  · intro a w1 _ hc hd
    have e47 : a.eval (.tmp 47) = .string ⟨#[0, 0, 1, 0, 1, 0, 0, 0, 0, 0, 4, 97, 98, 99, 100]⟩ := ev_is (hd ⟨36, .data⟩ (by simp) rfl)
    exact st_val (rn_len rfl e47 (by decide +kernel)) rfl (grefl _ _)
  refine ⟨?_, ?_⟩
  · intro a w1 _ hc hd
    have e48 : a.eval (.tmp 48) = .int .i64 15 := ev_is (hd ⟨37, .data⟩ (by simp) rfl)
    exact st_val (rn_sub (fun _ => rfl) rfl e48 (by decide)) rfl (grefl _ _)
  refine ⟨?_, ?_⟩
  · intro a w1 _ hc hd
    have e46 : a.eval (.tmp 46) = .string ⟨#[0, 0, 1, 0, 1, 0, 0, 0, 0, 0, 4, 97, 98, 99, 100]⟩ := ev_is (hd ⟨35, .data⟩ (by simp) rfl)
    have e49 : a.eval (.tmp 49) = .int .i64 14 := ev_is (hd ⟨38, .data⟩ (by simp) rfl)
    exact st_val (rn_slice (n := 14) rfl e46 e49 (by decide +kernel) (by decide +kernel)) rfl (grefl _ _)
  refine ⟨?_, ?_⟩
  · intro a w1 _ hc hd
    have e45 : a.eval (.tmp 45) = .string (hw 0 1 0 0) := ev_is (hd ⟨34, .data⟩ (by simp) rfl)
    have e50 : a.eval (.tmp 50) = .string ⟨#[0, 0, 1, 0, 1, 0, 0, 0, 0, 0, 4, 97, 98, 99]⟩ := ev_is (hd ⟨39, .data⟩ (by simp) rfl)
    exact st_val (rn_add rfl rfl e45 e50 (by decide +kernel)) rfl (grefl _ _)
  refine ⟨?_, ?_⟩
  · intro a w1 _ hc hd
    have e51 : a.eval (.tmp 51) = .string ((hw 0 1 0 0) ++ ⟨#[0, 0, 1, 0, 1, 0, 0, 0, 0, 0, 4, 97, 98, 99]⟩) := ev_is (hd ⟨40, .data⟩ (by simp) rfl)
    exact st_val (rn_build (fun _ => rfl) rfl e51) rfl (grefl _ _)
  refine ⟨?_, ?_⟩
  · intro a w1 _ hc hd
    exact st_alloc (rn_bs4 (fun _ => rfl) rfl) (fun _ _ h => h)
  refine ⟨?_, ?_⟩
  · intro a w1 _ hc hd
    exact st_head 0 1 0 0 rfl rfl (ev_dep (hd ⟨42, .data⟩ (by simp) rfl)) (fun _ => rfl)
  refine ⟨?_, ?_⟩
  · intro a w1 _ hc hd
    have e54 : a.eval (.tmp 54) = .string (hw 0 1 0 0) := ev_is (hd ⟨43, .data⟩ (by simp) rfl)
    exact st_val (rn_add rfl rfl e54 rfl (by decide +kernel)) rfl (grefl _ _)
  refine ⟨?_, ?_⟩
  · intro a w1 _ hc hd
    have e55 : a.eval (.tmp 55) = .string ((hw 0 1 0 0) ++ ⟨#[0, 0, 1, 0, 1, 0, 0, 0, 0, 0, 3, 97, 98, 99]⟩) := ev_is (hd ⟨44, .data⟩ (by simp) rfl)
    exact st_val (rn_build (fun _ => rfl) rfl e55) rfl (grefl _ _)
  refine ⟨?_, ?_⟩
  · intro a w1 _ hc hd
    exact st_alloc (rn_bs4 (fun _ => rfl) rfl) (fun _ _ h => h)
  refine ⟨?_, ?_⟩
  · intro a w1 _ hc hd
    exact st_head 0 1 0 0 rfl rfl (ev_dep (hd ⟨46, .data⟩ (by simp) rfl)) (fun _ => rfl)
  refine ⟨?_, ?_⟩
  · intro a w1 _ hc hd
    have e58 : a.eval (.tmp 58) = .string (hw 0 1 0 0) := ev_is (hd ⟨47, .data⟩ (by simp) rfl)
    exact st_val (rn_add rfl rfl e58 rfl (by decide +kernel)) rfl (grefl _ _)
  refine ⟨?_, ?_⟩
  · intro a w1 _ hc hd
    have e59 : a.eval (.tmp 59) = .string ((hw 0 1 0 0) ++ ⟨#[0, 0, 1, 0, 1, 0, 0, 0, 0, 0, 5, 97, 98, 99, 100, 101]⟩) := ev_is (hd ⟨48, .data⟩ (by simp) rfl)
    exact st_val (rn_build (fun _ => rfl) rfl e59) rfl (grefl _ _)
  refine ⟨?_, ?_⟩
  · intro a w1 _ hc hd
    exact st_alloc (rn_bs4 (fun _ => rfl) rfl) (fun _ _ h => h)
  refine ⟨?_, ?_⟩
  · intro a w1 _ hc hd
    exact st_head 0 0 0 1 rfl rfl (ev_dep (hd ⟨50, .data⟩ (by simp) rfl)) (fun _ => rfl)
  refine ⟨?_, ?_⟩
  · intro a w1 _ hc hd
    exact st_val (rn_move rfl (ev_old (show a.tmps[1]? = some (.string ⟨#[0, 0, 41, 2, 0, 0, 0, 0, 0, 0, 0]⟩) from hc 1 (by decide)))) rfl (grefl _ _)
  refine ⟨?_, ?_⟩
  · intro a w1 _ hc hd
    have e62 : a.eval (.tmp 62) = .string (hw 0 0 0 1) := ev_is (hd ⟨51, .data⟩ (by simp) rfl)
    have e63 : a.eval (.tmp 63) = .string ⟨#[0, 0, 41, 2, 0, 0, 0, 0, 0, 0, 0]⟩ := ev_is (hd ⟨52, .data⟩ (by simp) rfl)
    exact st_val (rn_add rfl rfl e62 e63 (by decide +kernel)) rfl (grefl _ _)
  refine ⟨?_, ?_⟩
  · intro a w1 _ hc hd
    have e64 : a.eval (.tmp 64) = .string ((hw 0 0 0 1) ++ ⟨#[0, 0, 41, 2, 0, 0, 0, 0, 0, 0, 0]⟩) := ev_is (hd ⟨53, .data⟩ (by simp) rfl)
    exact st_val (rn_build (fun _ => rfl) rfl e64) rfl (grefl _ _)
  refine ⟨?_, ?_⟩
  · intro a w1 _ hc hd
    exact st_alloc (rn_bs4 (fun _ => rfl) rfl) (fun _ _ h => h)
  refine ⟨?_, ?_⟩
  · intro a w1 _ hc hd
    exact st_head 0 1 0 0 rfl rfl (ev_dep (hd ⟨55, .data⟩ (by simp) rfl)) (fun _ => rfl)
  refine ⟨?_, ?_⟩
  · intro a w1 _ hc hd
    exact st_val (rn_move rfl (ev_old (show a.tmps[1]? = some (.string ⟨#[0, 0, 41, 2, 0, 0, 0, 0, 0, 0, 0]⟩) from hc 1 (by decide)))) rfl (grefl _ _)
  refine ⟨?_, ?_⟩
  · intro a w1 _ hc hd
    have e67 : a.eval (.tmp 67) = .string (hw 0 1 0 0) := ev_is (hd ⟨56, .data⟩ (by simp) rfl)
    have e68 : a.eval (.tmp 68) = .string ⟨#[0, 0, 41, 2, 0, 0, 0, 0, 0, 0, 0]⟩ := ev_is (hd ⟨57, .data⟩ (by simp) rfl)
    exact st_val (rn_add rfl rfl e67 e68 (by decide +kernel)) rfl (grefl _ _)
  refine ⟨?_, ?_⟩
  · intro a w1 _ hc hd
    have e69 : a.eval (.tmp 69) = .string ((hw 0 1 0 0) ++ ⟨#[0, 0, 41, 2, 0, 0, 0, 0, 0, 0, 0]⟩) := ev_is (hd ⟨58, .data⟩ (by simp) rfl)
    exact st_val (rn_build (fun _ => rfl) rfl e69) rfl (grefl _ _)
  refine ⟨?_, ?_⟩
  · intro a w1 _ hc hd
    exact st_alloc (rn_bs4 (fun _ => rfl) rfl) (fun _ _ h => h)
  refine ⟨?_, ?_⟩
  · intro a w1 _ hc hd
    exact st_head 0 0 1 0 rfl rfl (ev_dep (hd ⟨60, .data⟩ (by simp) rfl)) (fun _ => rfl)
  refine ⟨?_, ?_⟩
  · intro a w1 _ hc hd
    exact st_val (rn_move rfl (ev_old (show a.tmps[1]? = some (.string ⟨#[0, 0, 41, 2, 0, 0, 0, 0, 0, 0, 0]⟩) from hc 1 (by decide)))) rfl (grefl _ _)
  refine ⟨?_, ?_⟩
  · intro a w1 _ hc hd
    have e72 : a.eval (.tmp 72) = .string (hw 0 0 1 0) := ev_is (hd ⟨61, .data⟩ (by simp) rfl)
    have e73 : a.eval (.tmp 73) = .string ⟨#[0, 0, 41, 2, 0, 0, 0, 0, 0, 0, 0]⟩ := ev_is (hd ⟨62, .data⟩ (by simp) rfl)
    exact st_val (rn_add rfl rfl e72 e73 (by decide +kernel)) rfl (grefl _ _)
  refine ⟨?_, ?_⟩
  · intro a w1 _ hc hd
    have e74 : a.eval (.tmp 74) = .string ((hw 0 0 1 0) ++ ⟨#[0, 0, 41, 2, 0, 0, 0, 0, 0, 0, 0]⟩) := ev_is (hd ⟨63, .data⟩ (by simp) rfl)
    exact st_val (rn_build (fun _ => rfl) rfl e74) rfl (grefl _ _)
  refine ⟨?_, ?_⟩
  · intro a w1 _ hc hd
    exact st_alloc (rn_bs4 (fun _ => rfl) rfl) (fun _ _ h => h)
  refine ⟨?_, ?_⟩
  · intro a w1 _ hc hd
    exact st_head 0 0 0 2 rfl rfl (ev_dep (hd ⟨65, .data⟩ (by simp) rfl)) (fun _ => rfl)
  refine ⟨?_, ?_⟩
  · intro a w1 _ hc hd
    exact st_val (rn_move rfl (ev_old (show a.tmps[1]? = some (.string ⟨#[0, 0, 41, 2, 0, 0, 0, 0, 0, 0, 0]⟩) from hc 1 (by decide)))) rfl (grefl _ _)
  refine ⟨?_, ?_⟩
  · intro a w1 _ hc hd
    have e77 : a.eval (.tmp 77) = .string (hw 0 0 0 2) := ev_is (hd ⟨66, .data⟩ (by simp) rfl)
    have e78 : a.eval (.tmp 78) = .string ⟨#[0, 0, 41, 2, 0, 0, 0, 0, 0, 0, 0]⟩ := ev_is (hd ⟨67, .data⟩ (by simp) rfl)
    exact st_val (rn_add rfl rfl e77 e78 (by decide +kernel)) rfl (grefl _ _)
  refine ⟨?_, ?_⟩
  · intro a w1 _ hc hd
    exact st_val (rn_move rfl (ev_old (show a.tmps[1]? = some (.string ⟨#[0, 0, 41, 2, 0, 0, 0, 0, 0, 0, 0]⟩) from hc 1 (by decide)))) rfl (grefl _ _)
  refine ⟨?_, ?_⟩
  · intro a w1 _ hc hd
    have e79 : a.eval (.tmp 79) = .string ((hw 0 0 0 2) ++ ⟨#[0, 0, 41, 2, 0, 0, 0, 0, 0, 0, 0]⟩) := ev_is (hd ⟨68, .data⟩ (by simp) rfl)
    have e80 : a.eval (.tmp 80) = .string ⟨#[0, 0, 41, 2, 0, 0, 0, 0, 0, 0, 0]⟩ := ev_is (hd ⟨69, .data⟩ (by simp) rfl)
    exact st_val (rn_add rfl rfl e79 e80 (by decide +kernel)) rfl (grefl _ _)
  refine ⟨?_, ?_⟩
  · intro a w1 _ hc hd
    have e81 : a.eval (.tmp 81) = .string (((hw 0 0 0 2) ++ ⟨#[0, 0, 41, 2, 0, 0, 0, 0, 0, 0, 0]⟩) ++ ⟨#[0, 0, 41, 2, 0, 0, 0, 0, 0, 0, 0]⟩) := ev_is (hd ⟨70, .data⟩ (by simp) rfl)
    exact st_val (rn_build (fun _ => rfl) rfl e81) rfl (grefl _ _)
  refine ⟨?_, ?_⟩
  · intro a w1 _ hc hd
    exact st_alloc (rn_bs4 (fun _ => rfl) rfl) (fun _ _ h => h)
  refine ⟨?_, ?_⟩
  · intro a w1 _ hc hd
    exact st_head 0 0 0 2 rfl rfl (ev_dep (hd ⟨72, .data⟩ (by simp) rfl)) (fun _ => rfl)
  refine ⟨?_, ?_⟩
  · intro a w1 _ hc hd
    exact st_val (rn_move rfl (ev_old (show a.tmps[1]? = some (.string ⟨#[0, 0, 41, 2, 0, 0, 0, 0, 0, 0, 0]⟩) from hc 1 (by decide)))) rfl (grefl _ _)
  refine ⟨?_, ?_⟩
  · intro a w1 _ hc hd
    have e84 : a.eval (.tmp 84) = .string (hw 0 0 0 2) := ev_is (hd ⟨73, .data⟩ (by simp) rfl)
    have e85 : a.eval (.tmp 85) = .string ⟨#[0, 0, 41, 2, 0, 0, 0, 0, 0, 0, 0]⟩ := ev_is (hd ⟨74, .data⟩ (by simp) rfl)
    exact st_val (rn_add rfl rfl e84 e85 (by decide +kernel)) rfl (grefl _ _)
  refine ⟨?_, ?_⟩
  · intro a w1 _ hc hd
    exact st_val (rn_move rfl (ev_old (show a.tmps[2]? = some (.string ⟨#[0, 0, 1, 0, 1, 0, 0, 0, 0, 0, 4, 97, 98, 99, 100]⟩) from hc 2 (by decide)))) rfl (grefl _ _)
  refine ⟨?_, ?_⟩
  · intro a w1 _ hc hd
    have e86 : a.eval (.tmp 86) = .string ((hw 0 0 0 2) ++ ⟨#[0, 0, 41, 2, 0, 0, 0, 0, 0, 0, 0]⟩) := ev_is (hd ⟨75, .data⟩ (by simp) rfl)
    have e87 : a.eval (.tmp 87) = .string ⟨#[0, 0, 1, 0, 1, 0, 0, 0, 0, 0, 4, 97, 98, 99, 100]⟩ := ev_is (hd ⟨76, .data⟩ (by simp) rfl)
    exact st_val (rn_add rfl rfl e86 e87 (by decide +kernel)) rfl (grefl _ _)
  refine ⟨?_, ?_⟩
  · intro a w1 _ hc hd
    have e88 : a.eval (.tmp 88) = .string (((hw 0 0 0 2) ++ ⟨#[0, 0, 41, 2, 0, 0, 0, 0, 0, 0, 0]⟩) ++ ⟨#[0, 0, 1, 0, 1, 0, 0, 0, 0, 0, 4, 97, 98, 99, 100]⟩) := ev_is (hd ⟨77, .data⟩ (by simp) rfl)
    exact st_val (rn_build (fun _ => rfl) rfl e88) rfl (grefl _ _)
  refine ⟨?_, ?_⟩
  · intro a w1 _ hc hd
    exact st_alloc (rn_bs4 (fun _ => rfl) rfl) (fun _ _ h => h)
  refine ⟨?_, ?_⟩
  · intro a w1 _ hc hd
    exact st_head 0 0 0 1 rfl rfl (ev_dep (hd ⟨79, .data⟩ (by simp) rfl)) (fun _ => rfl)
  refine ⟨?_, ?_⟩
  · intro a w1 _ hc hd
    have e91 : a.eval (.tmp 91) = .string (hw 0 0 0 1) := ev_is (hd ⟨80, .data⟩ (by simp) rfl)
    exact st_val (rn_add rfl rfl e91 rfl (by decide +kernel)) rfl (grefl _ _)
  refine ⟨?_, ?_⟩
  · intro a w1 _ hc hd
    exact st_val (rn_move rfl (ev_old (show a.tmps[1]? = some (.string ⟨#[0, 0, 41, 2, 0, 0, 0, 0, 0, 0, 0]⟩) from hc 1 (by decide)))) rfl (grefl _ _)
  refine ⟨?_, ?_⟩
  · intro a w1 _ hc hd
    have e92 : a.eval (.tmp 92) = .string ((hw 0 0 0 1) ++ ⟨#[1, 97]⟩) := ev_is (hd ⟨81, .data⟩ (by simp) rfl)
    have e93 : a.eval (.tmp 93) = .string ⟨#[0, 0, 41, 2, 0, 0, 0, 0, 0, 0, 0]⟩ := ev_is (hd ⟨82, .data⟩ (by simp) rfl)
    exact st_val (rn_add rfl rfl e92 e93 (by decide +kernel)) rfl (grefl _ _)
  refine ⟨?_, ?_⟩
  · intro a w1 _ hc hd
    have e94 : a.eval (.tmp 94) = .string (((hw 0 0 0 1) ++ ⟨#[1, 97]⟩) ++ ⟨#[0, 0, 41, 2, 0, 0, 0, 0, 0, 0, 0]⟩) := ev_is (hd ⟨83, .data⟩ (by simp) rfl)
    exact st_val (rn_build (fun _ => rfl) rfl e94) rfl (grefl _ _)
  refine ⟨?_, ?_⟩
  · intro a w1 _ hc hd
    exact st_alloc (rn_bs4 (fun _ => rfl) rfl) (fun _ _ h => h)
  refine ⟨?_, ?_⟩
  · intro a w1 _ hc hd
    exact st_head 0 0 0 1 rfl rfl (ev_dep (hd ⟨85, .data⟩ (by simp) rfl)) (fun _ => rfl)
  refine ⟨?_, ?_⟩
  · intro a w1 _ hc hd
    exact st_val (rn_move rfl (ev_old (show a.tmps[1]? = some (.string ⟨#[0, 0, 41, 2, 0, 0, 0, 0, 0, 0, 0]⟩) from hc 1 (by decide)))) rfl (grefl _ _)
  refine ⟨?_, ?_⟩
  · intro a w1 _ hc hd
    exact st_val (rn_move rfl (ev_old (show a.tmps[1]? = some (.string ⟨#[0, 0, 41, 2, 0, 0, 0, 0, 0, 0, 0]⟩) from hc 1 (by decide)))) rfl (grefl _ _)
  refine ⟨?_, ?_⟩
  · intro a w1 _ hc hd
    have e99 : a.eval (.tmp 99) = .string ⟨#[0, 0, 41, 2, 0, 0, 0, 0, 0, 0, 0]⟩ := ev_is (hd ⟨88, .data⟩ (by simp) rfl)
    exact st_val (rn_len rfl e99 (by decide +kernel)) rfl (grefl _ _)
  refine ⟨?_, ?_⟩
  · intro a w1 _ hc hd
    have e100 : a.eval (.tmp 100) = .int .i64 11 := ev_is (hd ⟨89, .data⟩ (by simp) rfl)
    exact st_val (rn_sub (fun _ => rfl) rfl e100 (by decide)) rfl (grefl _ _)
  refine ⟨?_, ?_⟩
  · intro a w1 _ hc hd
    have e98 : a.eval (.tmp 98) = .string ⟨#[0, 0, 41, 2, 0, 0, 0, 0, 0, 0, 0]⟩ := ev_is (hd ⟨87, .data⟩ (by simp) rfl)
    have e101 : a.eval (.tmp 101) = .int .i64 10 := ev_is (hd ⟨90, .data⟩ (by simp) rfl)
    exact st_val (rn_slice (n := 10) rfl e98 e101 (by decide +kernel) (by decide +kernel)) rfl (grefl _ _)
  refine ⟨?_, ?_⟩
  · intro a w1 _ hc hd
    have e97 : a.eval (.tmp 97) = .string (hw 0 0 0 1) := ev_is (hd ⟨86, .data⟩ (by simp) rfl)
    have e102 : a.eval (.tmp 102) = .string ⟨#[0, 0, 41, 2, 0, 0, 0, 0, 0, 0]⟩ := ev_is (hd ⟨91, .data⟩ (by simp) rfl)
    exact st_val (rn_add rfl rfl e97 e102 (by decide +kernel)) rfl (grefl _ _)
  refine ⟨?_, ?_⟩
  · intro a w1 _ hc hd
    have e103 : a.eval (.tmp 103) = .string ((hw 0 0 0 1) ++ ⟨#[0, 0, 41, 2, 0, 0, 0, 0, 0, 0]⟩) := ev_is (hd ⟨92, .data⟩ (by simp) rfl)
    exact st_val (rn_add rfl rfl e103 rfl (by decide +kernel)) rfl (grefl _ _)
  refine ⟨?_, ?_⟩
  · intro a w1 _ hc hd
    have e104 : a.eval (.tmp 104) = .string (((hw 0 0 0 1) ++ ⟨#[0, 0, 41, 2, 0, 0, 0, 0, 0, 0]⟩) ++ ⟨#[1, 120]⟩) := ev_is (hd ⟨93, .data⟩ (by simp) rfl)
    exact st_val (rn_build (fun _ => rfl) rfl e104) rfl (grefl _ _)
  refine ⟨?_, ?_⟩
  · intro a w1 _ hc hd
    exact st_alloc (rn_bs4 (fun _ => rfl) rfl) (fun _ _ h => h)
  refine ⟨?_, ?_⟩
  · intro a w1 _ hc hd
    exact st_head 0 0 0 1 rfl rfl (ev_dep (hd ⟨95, .data⟩ (by simp) rfl)) (fun _ => rfl)
  refine ⟨?_, ?_⟩
  · intro a w1 _ hc hd
    exact st_val (rn_move rfl (ev_old (show a.tmps[1]? = some (.string ⟨#[0, 0, 41, 2, 0, 0, 0, 0, 0, 0, 0]⟩) from hc 1 (by decide)))) rfl (grefl _ _)
  refine ⟨?_, ?_⟩
  · intro a w1 _ hc hd
    exact st_val (rn_move rfl (ev_old (show a.tmps[1]? = some (.string ⟨#[0, 0, 41, 2, 0, 0, 0, 0, 0, 0, 0]⟩) from hc 1 (by decide)))) rfl (grefl _ _)
  refine ⟨?_, ?_⟩
  · intro a w1 _ hc hd
    have e109 : a.eval (.tmp 109) = .string ⟨#[0, 0, 41, 2, 0, 0, 0, 0, 0, 0, 0]⟩ := ev_is (hd ⟨98, .data⟩ (by simp) rfl)
    exact st_val (rn_len rfl e109 (by decide +kernel)) rfl (grefl _ _)
  refine ⟨?_, ?_⟩
  · intro a w1 _ hc hd
    have e110 : a.eval (.tmp 110) = .int .i64 11 := ev_is (hd ⟨99, .data⟩ (by simp) rfl)
    exact st_val (rn_sub (fun _ => rfl) rfl e110 (by decide)) rfl (grefl _ _)
  refine ⟨?_, ?_⟩
  · intro a w1 _ hc hd
    have e108 : a.eval (.tmp 108) = .string ⟨#[0, 0, 41, 2, 0, 0, 0, 0, 0, 0, 0]⟩ := ev_is (hd ⟨97, .data⟩ (by simp) rfl)
    have e111 : a.eval (.tmp 111) = .int .i64 10 := ev_is (hd ⟨100, .data⟩ (by simp) rfl)
    exact st_val (rn_slice (n := 10) rfl e108 e111 (by decide +kernel) (by decide +kernel)) rfl (grefl _ _)
  refine ⟨?_, ?_⟩
  · intro a w1 _ hc hd
    have e107 : a.eval (.tmp 107) = .string (hw 0 0 0 1) := ev_is (hd ⟨96, .data⟩ (by simp) rfl)
    have e112 : a.eval (.tmp 112) = .string ⟨#[0, 0, 41, 2, 0, 0, 0, 0, 0, 0]⟩ := ev_is (hd ⟨101, .data⟩ (by simp) rfl)
    exact st_val (rn_add rfl rfl e107 e112 (by decide +kernel)) rfl (grefl _ _)
  refine ⟨?_, ?_⟩
  · intro a w1 _ hc hd
    have e113 : a.eval (.tmp 113) = .string ((hw 0 0 0 1) ++ ⟨#[0, 0, 41, 2, 0, 0, 0, 0, 0, 0]⟩) := ev_is (hd ⟨102, .data⟩ (by simp) rfl)
    exact st_val (rn_add rfl rfl e113 rfl (by decide +kernel)) rfl (grefl _ _)
  refine ⟨?_, ?_⟩
  · intro a w1 _ hc hd
    have e114 : a.eval (.tmp 114) = .string (((hw 0 0 0 1) ++ ⟨#[0, 0, 41, 2, 0, 0, 0, 0, 0, 0]⟩) ++ ⟨#[4, 0, 1, 0, 0]⟩) := ev_is (hd ⟨103, .data⟩ (by simp) rfl)
    exact st_val (rn_build (fun _ => rfl) rfl e114) rfl (grefl _ _)
  refine ⟨?_, ?_⟩
  · intro a w1 _ hc hd
    exact st_make 65536 rfl rfl (by omega) (fun _ _ h => h)
  refine ⟨?_, ?_⟩
  · intro a w1 _ hc hd
    exact st_conv rfl (ev_dep (hd ⟨105, .data⟩ (by simp) rfl)) (fun _ => rfl)
  refine ⟨?_, ?_⟩
  · intro a w1 _ hc hd
    have e117 : a.eval (.tmp 117) = .string (zs 65536) := ev_is (hd ⟨106, .data⟩ (by simp) rfl)
    exact st_val (rn_build (fun _ => rfl) rfl e117) rfl (grefl _ _)
  refine ⟨?_, ?_⟩
  · intro a w1 _ hc hd
    exact st_make 65535 rfl rfl (by omega) (fun _ _ h => h)
  refine ⟨?_, ?_⟩
  · intro a w1 _ hc hd
    exact st_conv rfl (ev_dep (hd ⟨108, .data⟩ (by simp) rfl)) (fun _ => rfl)
  refine ⟨?_, ?_⟩
  · intro a w1 _ hc hd
    have e120 : a.eval (.tmp 120) = .string (zs 65535) := ev_is (hd ⟨109, .data⟩ (by simp) rfl)
    exact st_val (rn_build (fun _ => rfl) rfl e120) rfl (grefl _ _)
  refine ⟨?_, ?_⟩
  · intro a w1 _ hc hd
    have e11 : a.eval (.tmp 11) = .agg #[.string ⟨#[]⟩, .int .i64 4] := ev_is (hd ⟨0, .data⟩ (by simp) rfl)
    have e14 : a.eval (.tmp 14) = .agg #[.string (hw 1 0 0 0), .int .i64 4] := ev_is (hd ⟨3, .data⟩ (by simp) rfl)
    have e18 : a.eval (.tmp 18) = .agg #[.string ((hw 1 0 0 0) ++ ⟨#[0, 0, 1, 0]⟩), .int .i64 4] := ev_is (hd ⟨7, .data⟩ (by simp) rfl)
    have e22 : a.eval (.tmp 22) = .agg #[.string ((hw 1 0 0 0) ++ ⟨#[192, 12, 0, 1, 0, 1]⟩), .int .i64 8] := ev_is (hd ⟨11, .data⟩ (by simp) rfl)
    have e26 : a.eval (.tmp 26) = .agg #[.string ((hw 1 0 0 0) ++ ⟨#[64]⟩), .int .i64 3] := ev_is (hd ⟨15, .data⟩ (by simp) rfl)
    have e30 : a.eval (.tmp 30) = .agg #[.string ((hw 1 0 0 0) ++ ⟨#[0, 0, 1, 0, 1]⟩), .int .i64 0] := ev_is (hd ⟨19, .data⟩ (by simp) rfl)
    have e34 : a.eval (.tmp 34) = .agg #[.string ((hw 1 0 0 0) ++ ⟨#[192, 2, 0, 1, 0, 1]⟩), .int .i64 0] := ev_is (hd ⟨23, .data⟩ (by simp) rfl)
    have e38 : a.eval (.tmp 38) = .agg #[.string ((hw 0 0 0 0) ++ ⟨#[120]⟩), .int .i64 5] := ev_is (hd ⟨27, .data⟩ (by simp) rfl)
    have e43 : a.eval (.tmp 43) = .agg #[.string ((hw 0 1 0 0) ++ ⟨#[0, 0, 1, 0, 1, 0, 0, 0, 0, 0, 4, 97, 98, 99, 100]⟩), .int .i64 0] := ev_is (hd ⟨32, .data⟩ (by simp) rfl)
    have e52 : a.eval (.tmp 52) = .agg #[.string ((hw 0 1 0 0) ++ ⟨#[0, 0, 1, 0, 1, 0, 0, 0, 0, 0, 4, 97, 98, 99]⟩), .int .i64 4] := ev_is (hd ⟨41, .data⟩ (by simp) rfl)
    have e56 : a.eval (.tmp 56) = .agg #[.string ((hw 0 1 0 0) ++ ⟨#[0, 0, 1, 0, 1, 0, 0, 0, 0, 0, 3, 97, 98, 99]⟩), .int .i64 4] := ev_is (hd ⟨45, .data⟩ (by simp) rfl)
    have e60 : a.eval (.tmp 60) = .agg #[.string ((hw 0 1 0 0) ++ ⟨#[0, 0, 1, 0, 1, 0, 0, 0, 0, 0, 5, 97, 98, 99, 100, 101]⟩), .int .i64 3] := ev_is (hd ⟨49, .data⟩ (by simp) rfl)
    have e65 : a.eval (.tmp 65) = .agg #[.string ((hw 0 0 0 1) ++ ⟨#[0, 0, 41, 2, 0, 0, 0, 0, 0, 0, 0]⟩), .int .i64 0] := ev_is (hd ⟨54, .data⟩ (by simp) rfl)
    have e70 : a.eval (.tmp 70) = .agg #[.string ((hw 0 1 0 0) ++ ⟨#[0, 0, 41, 2, 0, 0, 0, 0, 0, 0, 0]⟩), .int .i64 3] := ev_is (hd ⟨59, .data⟩ (by simp) rfl)
    have e75 : a.eval (.tmp 75) = .agg #[.string ((hw 0 0 1 0) ++ ⟨#[0, 0, 41, 2, 0, 0, 0, 0, 0, 0, 0]⟩), .int .i64 3] := ev_is (hd ⟨64, .data⟩ (by simp) rfl)
    have e82 : a.eval (.tmp 82) = .agg #[.string (((hw 0 0 0 2) ++ ⟨#[0, 0, 41, 2, 0, 0, 0, 0, 0, 0, 0]⟩) ++ ⟨#[0, 0, 41, 2, 0, 0, 0, 0, 0, 0, 0]⟩), .int .i64 3] := ev_is (hd ⟨71, .data⟩ (by simp) rfl)
    have e89 : a.eval (.tmp 89) = .agg #[.string (((hw 0 0 0 2) ++ ⟨#[0, 0, 41, 2, 0, 0, 0, 0, 0, 0, 0]⟩) ++ ⟨#[0, 0, 1, 0, 1, 0, 0, 0, 0, 0, 4, 97, 98, 99, 100]⟩), .int .i64 0] := ev_is (hd ⟨78, .data⟩ (by simp) rfl)
    have e95 : a.eval (.tmp 95) = .agg #[.string (((hw 0 0 0 1) ++ ⟨#[1, 97]⟩) ++ ⟨#[0, 0, 41, 2, 0, 0, 0, 0, 0, 0, 0]⟩), .int .i64 3] := ev_is (hd ⟨84, .data⟩ (by simp) rfl)
    have e105 : a.eval (.tmp 105) = .agg #[.string (((hw 0 0 0 1) ++ ⟨#[0, 0, 41, 2, 0, 0, 0, 0, 0, 0]⟩) ++ ⟨#[1, 120]⟩), .int .i64 4] := ev_is (hd ⟨94, .data⟩ (by simp) rfl)
    have e115 : a.eval (.tmp 115) = .agg #[.string (((hw 0 0 0 1) ++ ⟨#[0, 0, 41, 2, 0, 0, 0, 0, 0, 0]⟩) ++ ⟨#[4, 0, 1, 0, 0]⟩), .int .i64 0] := ev_is (hd ⟨104, .data⟩ (by simp) rfl)
    have e118 : a.eval (.tmp 118) = .agg #[.string (zs 65536), .int .i64 5] := ev_is (hd ⟨107, .data⟩ (by simp) rfl)
    have e121 : a.eval (.tmp 121) = .agg #[.string (zs 65535), .int .i64 5] := ev_is (hd ⟨110, .data⟩ (by simp) rfl)
    exact st_alloc (rn_rows rfl e11 e14 e18 e22 e26 e30 e34 e38 e43 e52 e56 e60 e65 e70 e75 e82 e89 e95 e105 e115 e118 e121) (fun _ _ h => h)
  refine ⟨?_, ?_⟩
  · intro a w1 _ hc hd
    obtain ⟨v, h1, g, rfl, _⟩ := ev_dep (p := fun v => ∃ g, v = .slice (some ⟨g, 0, none⟩) 22 22 ∧ w1.heap[g]? = some (.cells wnCells 24 (0, 0))) (t := 122) (hd ⟨111, .data⟩ (by simp) rfl)
    exact st_val (rn_len22 rfl rfl h1) rfl (grefl _ _)
  refine ⟨?_, ?_⟩
  · intro a w1 _ hc hd
    exact st_val (rn_move rfl rfl) rfl (grefl _ _)
  · trivial
  · intro a' w' hI
    obtain ⟨T, DF⟩ := a'
    obtain rfl : DF = [] := hI.defers
    have HG := Lib.hid (gtrans (gdrew (grefl w none)) hI.grown)
    rw [tmps_eq T 150 hI.frame]
    show K ⟨#[T.getD 0 undef, T.getD 1 undef, T.getD 2 undef, T.getD 3 undef, T.getD 4 undef, T.getD 5 undef, T.getD 6 undef, T.getD 7 undef, T.getD 8 undef, T.getD 9 undef, T.getD 10 undef, T.getD 11 undef, T.getD 12 undef, T.getD 13 undef, T.getD 14 undef, T.getD 15 undef, T.getD 16 undef, T.getD 17 undef, T.getD 18 undef, T.getD 19 undef, T.getD 20 undef, T.getD 21 undef, T.getD 22 undef, T.getD 23 undef, T.getD 24 undef, T.getD 25 undef, T.getD 26 undef, T.getD 27 undef, T.getD 28 undef, T.getD 29 undef, T.getD 30 undef, T.getD 31 undef, T.getD 32 undef, T.getD 33 undef, T.getD 34 undef, T.getD 35 undef, T.getD 36 undef, T.getD 37 undef, T.getD 38 undef, T.getD 39 undef, T.getD 40 undef, T.getD 41 undef, T.getD 42 undef, T.getD 43 undef, T.getD 44 undef, T.getD 45 undef, T.getD 46 undef, T.getD 47 undef, T.getD 48 undef, T.getD 49 undef, T.getD 50 undef, T.getD 51 undef, T.getD 52 undef, T.getD 53 undef, T.getD 54 undef, T.getD 55 undef, T.getD 56 undef, T.getD 57 undef, T.getD 58 undef, T.getD 59 undef, T.getD 60 undef, T.getD 61 undef, T.getD 62 undef, T.getD 63 undef, T.getD 64 undef, T.getD 65 undef, T.getD 66 undef, T.getD 67 undef, T.getD 68 undef, T.getD 69 undef, T.getD 70 undef, T.getD 71 undef, T.getD 72 undef, T.getD 73 undef, T.getD 74 undef, T.getD 75 undef, T.getD 76 undef, T.getD 77 undef, T.getD 78 undef, T.getD 79 undef, T.getD 80 undef, T.getD 81 undef, T.getD 82 undef, T.getD 83 undef, T.getD 84 undef, T.getD 85 undef, T.getD 86 undef, T.getD 87 undef, T.getD 88 undef, T.getD 89 undef, T.getD 90 undef, T.getD 91 undef, T.getD 92 undef, T.getD 93 undef, T.getD 94 undef, T.getD 95 undef, T.getD 96 undef, T.getD 97 undef, T.getD 98 undef, T.getD 99 undef, T.getD 100 undef, T.getD 101 undef, T.getD 102 undef, T.getD 103 undef, T.getD 104 undef, T.getD 105 undef, T.getD 106 undef, T.getD 107 undef, T.getD 108 undef, T.getD 109 undef, T.getD 110 undef, T.getD 111 undef, T.getD 112 undef, T.getD 113 undef, T.getD 114 undef, T.getD 115 undef, T.getD 116 undef, T.getD 117 undef, T.getD 118 undef, T.getD 119 undef, T.getD 120 undef, T.getD 121 undef, T.getD 122 undef, T.getD 123 undef, T.getD 124 undef, T.getD 125 undef, T.getD 126 undef, T.getD 127 undef, T.getD 128 undef, T.getD 129 undef, T.getD 130 undef, T.getD 131 undef, T.getD 132 undef, T.getD 133 undef, T.getD 134 undef, T.getD 135 undef, T.getD 136 undef, T.getD 137 undef, T.getD 138 undef, T.getD 139 undef, T.getD 140 undef, T.getD 141 undef, T.getD 142 undef, T.getD 143 undef, T.getD 144 undef, T.getD 145 undef, T.getD 146 undef, T.getD 147 undef, T.getD 148 undef, T.getD 149 undef], []⟩ w'
    rw [gd_of (show T[0]? = some (c0) from hI.old 0 (by decide))]
    rw [gd_of (show T[1]? = some (.string ⟨#[0, 0, 41, 2, 0, 0, 0, 0, 0, 0, 0]⟩) from hI.old 1 (by decide))]
    rw [gd_of (show T[2]? = some (.string ⟨#[0, 0, 1, 0, 1, 0, 0, 0, 0, 0, 4, 97, 98, 99, 100]⟩) from hI.old 2 (by decide))]
    rw [gd_of (show T[3]? = some (c3) from hI.old 3 (by decide))]
    rw [gd_of (show T[4]? = some (c4) from hI.old 4 (by decide))]
    rw [gd_of (show T[5]? = some (c5) from hI.old 5 (by decide))]
    rw [gd_of (show T[6]? = some (c6) from hI.old 6 (by decide))]
    rw [gd_of (show T[7]? = some (c7) from hI.old 7 (by decide))]
    rw [gd_of (show T[8]? = some (c8) from hI.old 8 (by decide))]
    rw [gd_of (show T[9]? = some (c9) from hI.old 9 (by decide))]
    rw [gd_of (show T[10]? = some (c10) from hI.old 10 (by decide))]
    rw [gd_of (show T[125]? = some (c125) from hI.old 125 (by decide))]
    rw [gd_of (show T[126]? = some (c126) from hI.old 126 (by decide))]
    rw [gd_of (show T[127]? = some (c127) from hI.old 127 (by decide))]
    rw [gd_of (show T[128]? = some (c128) from hI.old 128 (by decide))]
    rw [gd_of (show T[129]? = some (c129) from hI.old 129 (by decide))]
    rw [gd_of (show T[130]? = some (c130) from hI.old 130 (by decide))]
    rw [gd_of (show T[131]? = some (c131) from hI.old 131 (by decide))]
    rw [gd_of (show T[132]? = some (c132) from hI.old 132 (by decide))]
    rw [gd_of (show T[133]? = some (c133) from hI.old 133 (by decide))]
    rw [gd_of (show T[134]? = some (c134) from hI.old 134 (by decide))]
    rw [gd_of (show T[135]? = some (c135) from hI.old 135 (by decide))]
    rw [gd_of (show T[136]? = some (c136) from hI.old 136 (by decide))]
    rw [gd_of (show T[137]? = some (c137) from hI.old 137 (by decide))]
    rw [gd_of (show T[138]? = some (c138) from hI.old 138 (by decide))]
    rw [gd_of (show T[139]? = some (c139) from hI.old 139 (by decide))]
    rw [gd_of (show T[140]? = some (c140) from hI.old 140 (by decide))]
    rw [gd_of (show T[141]? = some (c141) from hI.old 141 (by decide))]
    rw [gd_of (show T[142]? = some (c142) from hI.old 142 (by decide))]
    rw [gd_of (show T[143]? = some (c143) from hI.old 143 (by decide))]
    rw [gd_of (show T[144]? = some (c144) from hI.old 144 (by decide))]
    rw [gd_of (show T[145]? = some (c145) from hI.old 145 (by decide))]
    rw [gd_of (show T[146]? = some (c146) from hI.old 146 (by decide))]
    rw [gd_of (show T[147]? = some (c147) from hI.old 147 (by decide))]
    rw [gd_of (show T[148]? = some (c148) from hI.old 148 (by decide))]
    rw [gd_of (show T[149]? = some (c149) from hI.old 149 (by decide))]
    obtain ⟨x122, t122, h122⟩ : ∃ v, T[122]? = some v ∧ ∃ g, v = .slice (some ⟨g, 0, none⟩) 22 22 ∧ w'.heap[g]? = some (.cells wnCells 24 (0, 0)) := hI.done 111 (by decide) (by simp [wnD])
    obtain ⟨x123, t123, h123⟩ : ∃ v, T[123]? = some v ∧ v = .int .i64 22 := hI.done 112 (by decide) (by simp [wnD])
    obtain ⟨x124, t124, h124⟩ : ∃ v, T[124]? = some v ∧ v = .int .i64 0 := hI.done 113 (by decide) (by simp [wnD])
    obtain ⟨g, rfl, hb⟩ := h122
    subst h123 h124
    rw [gd_of t122, gd_of t123, gd_of t124]
    exact HK.out _ _ _ _ _ _ _ _ _ _ _ _ _ _ _ _ _ _ _ _ _ _ _ _ _ _ _ _ _ _ _ _ _ _ _ _ _ _ _ _ _ _ _ _ _ _ _ _ _ _ _ _ _ _ _ _ _ _ _ _ _ _ _ _ _ _ _ _ _ _ _ _ _ _ _ _ _ _ _ _ _ _ _ _ _ _ _ _ _ _ _ _ _ _ _ _ _ _ _ _ _ _ _ _ _ _ _ _ _ _ _ g w' ⟨rfl, .inr ⟨g, 22, wnCells, rfl, Nat.zero_le _, hb, Nat.le_refl _, (by have : wnCells.size = 44 := rfl; omega), rfl⟩⟩ HG.out
end Go.Proofs.YthgendgmlpaglaaDoor
