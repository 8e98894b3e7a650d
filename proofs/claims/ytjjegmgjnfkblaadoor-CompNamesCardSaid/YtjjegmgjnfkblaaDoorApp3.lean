/-
  append(b, make([]byte, n)...) onto bytes of the call's own: the translation hands the builtin the number n.
-/
import Derived.Test.YtjjegmgjnfkblaaDoorApp
import Derived.Lib.AppendZeros
namespace Go.Proofs.YtjjegmgjnfkblaaDoor
open Go.RowKit

theorem zc_list (n : Nat) : (Builtin.zeroCells (Value.int .u8 0).cells n).toList = List.replicate n (.int .u8 0) := by
  show (Builtin.zeroCells #[Value.int .u8 0] n).toList = _
  apply List.ext_getElem?
  intro j
  by_cases hj : j < n
  · simp [Builtin.zeroCells, hj, Nat.mod_one]
  · simp [Builtin.zeroCells, hj]
theorem zc_arr (n : Nat) : Builtin.zeroCells (Value.int .u8 0).cells n = (bv (List.replicate n 0)).toArray := by
  apply Array.ext'
  rw [zc_list, bv, List.map_replicate]
  rfl
theorem bv_zeros (n : Nat) : bv (List.replicate n 0) = List.replicate n (.int .u8 0) := by
  rw [bv, List.map_replicate]; rfl

section
variable {P : Program} {w : World}
theorem run_app_zeros (base : Nat) (t tn ty : TypeId) (i : TypeInfo) (ht : P.underlying t = some (.slice 5)) (htn : P.underlying tn = some (.int .i64)) (hi : P.info? 5 = some i) (hz : i.zero = some (.int .u8 0)) (hs : i.size = 1) (hb : i.bytes = 1)
    (v : Value) (xs : List UInt8) (hown : Own w base v xs) (n : Nat) (b1 : xs.length + n ≤ 140737488355328) (hbase : base ≤ w.heap.size) :
    ∃ v' w', (Builtin.append_ #[t, tn] ty #[v, .int .i64 n]).run P w = .ok v' w' ∧ Own w' base v' (xs ++ List.replicate n 0) ∧ w.grownBy w' v.ownBlock := by
  have hw : IntKind.i64.wrap (n : Int) = n := by rw [IntKind.wrap_i64]; omega
  have hneg : ¬ ((n : Int) < 0) := by omega
  have h48i : ¬ (281474976710656 < (n : Int)) := by omega
  have hm : xs.length + n ≤ maxLen := by unfold maxLen; omega
  have hlen : (bv xs ++ bv (List.replicate n 0)).length = (xs.length + n) * 1 := by simp [bv_len]
  have grown : ∀ (old : Nat), old < xs.length + n → ∀ (row : Option Nat),
      (w.drew.alloc (.cells ((bv xs).toArray ++ (bv (List.replicate n 0)).toArray ++ Builtin.zeroCells (Value.int .u8 0).cells (grownCap w (xs.length + n) old 5 - (xs.length + n))) 5)).ownsRow base 5 1
        (.slice (some ⟨w.heap.size, 0, none⟩) (xs.length + n) (grownCap w (xs.length + n) old 5)) (xs.length + n) (bv xs ++ bv (List.replicate n 0)) ∧
      w.grownBy (w.drew.alloc (.cells ((bv xs).toArray ++ (bv (List.replicate n 0)).toArray ++ Builtin.zeroCells (Value.int .u8 0).cells (grownCap w (xs.length + n) old 5 - (xs.length + n))) 5)) row := by
    intro old ho row
    have hge := grownCap_ge w (xs.length + n) old 5
    have hcm : grownCap w (xs.length + n) old 5 ≤ maxLen := grownCap_le_maxLen w (xs.length + n) old 5 hm
    refine ⟨⟨hlen, .inr ⟨w.heap.size, _, _, rfl, hbase, heap_alloc_new w.drew _, hge, hcm, ?_, ?_⟩⟩, galloc (gdrew (grefl w row)) _⟩
    · simp only [Array.size_append, List.size_toArray, size_zeroCells, bv_len, List.length_replicate]
      show xs.length + n + (grownCap w (xs.length + n) old 5 - (xs.length + n)) * 1 = _
      omega
    · simp only [Array.toList_append, List.append_assoc]
      rw [← List.append_assoc, ← hlen]
      exact List.take_left
  have fin : ∀ v' w', w'.ownsRow base 5 1 v' (xs.length + n) (bv xs ++ bv (List.replicate n 0)) → Own w' base v' (xs ++ List.replicate n 0) := by
    intro v' w' h
    unfold Own
    rw [bv_append, List.length_append, List.length_replicate]
    exact h
  have hw0 : IntKind.i64.wrap 0 = 0 := by decide
  by_cases hn : n = 0
  · subst hn
    refine ⟨v, w, ?_, by simpa using hown, grefl _ _⟩
    rcases hown.2 with ⟨rfl, hx0⟩ | ⟨g, cap, cur, rfl, hbg, hg, hnc, hcm, hcs, htake⟩
    · simp [Builtin.append_, run_underlying ht, run_underlying htn, sizeOf, typeInfo, hi, hb, asInt, asIntOf, hw0]
    · simp [Builtin.append_, run_underlying ht, run_underlying htn, sizeOf, typeInfo, hi, hb, asInt, asIntOf, hw0, hnc, storeCells]
  · rcases hown.2 with ⟨rfl, hx0⟩ | ⟨g, cap, cur, rfl, hbg, hg, hnc, hcm, hcs, htake⟩
    · have hx : xs = [] := List.eq_nil_of_length_eq_zero hx0
      subst hx
      have hr := Lib.run_append_nil_zeros (P := P) w t tn ty 5 i (.int .u8 0) .i64 .i64 ht htn hi hz n (by omega) (by omega) (by omega) (by rw [hb]; omega)
      have hgr := grown 0 (by simp; omega) (Value.ownBlock (.slice none 0 0))
      rw [zc_arr n] at hr
      simp only [List.length_nil, Nat.zero_add, show bv [] = [] from rfl, List.nil_append, Array.empty_append] at hgr
      refine ⟨_, _, hr, fin _ _ ?_, hgr.2⟩
      simp only [List.length_nil, Nat.zero_add, show bv [] = [] from rfl, List.nil_append]
      exact hgr.1
    · by_cases hroom : xs.length + n ≤ cap
      · have hst := run_storeCells_at P g xs.length 5 (bv (List.replicate n 0)) 0 cur w hg (by simp [bv_len]; omega) (bv_one _)
        simp only [Nat.add_zero] at hst
        rw [bv_zeros] at hst
        refine ⟨.slice (some ⟨g, 0, none⟩) (xs.length + n) cap, w.setRow g (cur.toList.take xs.length ++ List.replicate n (Value.int .u8 0) ++ cur.toList.drop (xs.length + (List.replicate n (Value.int .u8 0)).length)).toArray, ?_, fin _ _ ⟨hlen, .inr ⟨g, cap, _, rfl, hbg, setRow_heap w g cur _ _ _ hg, hroom, hcm, ?_, ?_⟩⟩, gsetRs _ _ _⟩
        · simp [Builtin.append_, run_underlying ht, run_underlying htn, sizeOf, typeInfo, zeroValue, hi, hz, hs, hb, asInt, asIntOf, hw, hn, hneg, h48i, hroom, Addr.add_lit, zc_list, hst]
        · simp; omega
        · rw [← hlen, bv_zeros]
          have : bv xs = cur.toList.take xs.length := by rw [← htake]; simp
          rw [this]
          exact List.take_left
      · have holds : ∀ j u, (bv xs)[j]? = some u → w.cell? ((⟨g, 0, none⟩ : Addr).add j) = some u := hown.cells (g := g) rfl
        have hf := run_firstCells_some (P := P) w.drew 1 xs.length ⟨g, 0, none⟩ xs.length cap (bv xs) (by simp [bv_len]) (by simpa using holds)
        have hgr := grown cap (by omega) (Value.ownBlock (.slice (some ⟨g, 0, none⟩) xs.length cap))
        have h63' : ¬ (9223372036854775807 < ((xs.length : Int) + (n : Int))) := by omega
        have h48' : ¬ (281474976710656 < Builtin.nextslicecap (xs.length + n) cap) := by
          have := growslice_fits (bytes := 1) (show cap < xs.length + n by omega) (by omega)
          omega
        refine ⟨.slice (some ⟨w.heap.size, 0, none⟩) (xs.length + n) (grownCap w (xs.length + n) cap 5), _, ?_, fin _ _ hgr.1, hgr.2⟩
        rw [← zc_arr n]
        simp [Builtin.append_, run_underlying ht, run_underlying htn, sizeOf, typeInfo, zeroValue, hi, hz, hs, hb, asInt, asIntOf, hw, hn, hneg, h48i, hroom, h63', h48', hf, Question.forced, newRow, grownCap]
theorem wpList_app_zeros {ops : Array Oper} {rest : List Oper} {o : Oper} {a : Act} {Q : Exit → Act → World → Prop} (hg : o.guard = none) (s x : Operand) (t tn : TypeId) (hop : o.op = Op.call { callee := Callee.builtin Builtin.append, args := #[s, x], argTypes := #[t, tn] })
    (base : Nat) (i : TypeInfo) (ht : P.underlying t = some (.slice 5)) (htn : P.underlying tn = some (.int .i64)) (hi : P.info? 5 = some i) (hz : i.zero = some (.int .u8 0)) (hs : i.size = 1) (hb : i.bytes = 1)
    (v : Value) (xs : List UInt8) (hv : a.eval s = v) (hown : Own w base v xs) (n : Nat) (N : Int) (hx : a.eval x = .int .i64 N) (hN : N = (n : Int)) (b1 : xs.length + n ≤ 140737488355328) (hbase : base ≤ w.heap.size)
    (hK : ∀ v' w', Own w' base v' (xs ++ List.replicate n 0) → w.grownBy w' v.ownBlock → wpList P ops Q rest (a.put o.dst v') w') : wpList P ops Q (o :: rest) a w := by
  subst hN
  obtain ⟨v', w', hr, ho, hgr⟩ := run_app_zeros (P := P) (w := w) base t tn o.type i ht htn hi hz hs hb v xs hown n b1 hbase
  exact Lib.wpList_append_run w hg s x t tn hop v _ hv hx v' w' hr (hK v' w' ho hgr)
end
end Go.Proofs.YtjjegmgjnfkblaaDoor
