/-
  The document's header, cursor and EDNS (chapters 02, 03, 06), for its messages.
-/
import Derived.Test.YtfeeeoiojaffcaaGreatDoorA4
import Derived.Test.YtfeeeoiojaffcaaGreatDoorA6
import Derived.Test.YtfeeeoiojaffcaaGreatDoorA9
import Derived.Test.YtfeeeoiojaffcaaGreatDoorA10
import Derived.Test.YtfeeeoiojaffcaaGreatDoorA11
import Derived.ChangeKeysEq
import Derived.Laws.StructEq
namespace Go.Proofs.YtfeeeoiojaffcaaGreatDoor

theorem counts_eq (w : World) (a b c d a' b' c' d' : Int) : (Op.equalIn 10000 88 (.agg #[.int .i64 a, .int .i64 b, .int .i64 c, .int .i64 d]) (.agg #[.int .i64 a', .int .i64 b', .int .i64 c', .int .i64 d'])).run Tryz.prog w = .ok (a == a' && (b == b' && (c == c' && d == d'))) w := by
  have hi : Tryz.prog.cellsOf 3 = 1 := by kernel_rfl
  have r4 : List.range 4 = [0, 1, 2, 3] := by decide
  obtain ⟨i, hq⟩ := Option.isSome_iff_exists.1 (show (Tryz.prog.info? 3).isSome = true by kernel_rfl)
  rw [run_equalIn_array w 9999 _ _ Tryz.underlying88 hq, r4]
  by_cases h1 : a = a' <;> by_cases h2 : b = b' <;> by_cases h3 : c = c' <;> by_cases h4 : d = d' <;> simp [Op.eqItems, part, hi, go_sem, h1, h2, h3, h4]
theorem four_eq (w : World) (a b c d a' b' c' d' : Int) : (Op.equalIn 10000 51 (.agg #[.int .i64 a, .int .i64 b, .int .i64 c, .int .i64 d]) (.agg #[.int .i64 a', .int .i64 b', .int .i64 c', .int .i64 d'])).run Tryz.prog w = .ok (a == a' && (b == b' && (c == c' && d == d'))) w := by
  have hi : Tryz.prog.cellsOf 3 = 1 := by kernel_rfl
  have r4 : List.range 4 = [0, 1, 2, 3] := by decide
  obtain ⟨i, hq⟩ := Option.isSome_iff_exists.1 (show (Tryz.prog.info? 3).isSome = true by kernel_rfl)
  rw [run_equalIn_array w 9999 _ _ Tryz.underlying51 hq, r4]
  by_cases h1 : a = a' <;> by_cases h2 : b = b' <;> by_cases h3 : c = c' <;> by_cases h4 : d = d' <;> simp [Op.eqItems, part, hi, go_sem, h1, h2, h3, h4]
end Go.Proofs.YtfeeeoiojaffcaaGreatDoor
namespace Go.Proofs.YtfeeeoiojaffcaaGreatDoor
open Go.RowKit

theorem read_lit (s : ByteArray) (h c : Value) (w : World) (he : Et w) (hb : Bt w) (hl : 12 ≤ s.size) (hs : s.size ≤ maxLen) (hh : (fromN (num s 0 2) (num s 2 2)).v = h) (hc : cv (num s 4 2) (num s 6 2) (num s 8 2) (num s 10 2) = c) : Calls Tryz.prog 48 #[.string s] w fun e w' => e = .returned (.tuple #[h, c, .int .i64 0]) ∧ w.grownBy w' none := by
  subst hh hc
  exact read_ok s w he hb hl hs
theorem flags_lit (H : Hd) (a : Value) (n k : Int) (w : World) (hb : Bt w) (ha : H.v = a) (hn : (flN H : Int) = n) (hk : (flE H : Int) = k) : Calls Tryz.prog 35 #[a] w fun e w' => e = .returned (.tuple #[.int .u16 n, .int .i64 k]) ∧ w.grownBy w' none := by
  subst ha hn hk
  exact flags_any H w hb

theorem gfrom1 {a w : World} {o : Obj} (h : (a.alloc o).grownBy w none) : a.grownBy w none := gtrans (galloc (grefl _ none) _) h
theorem gfrom2 {a w : World} {o p : Obj} (h : ((a.alloc o).alloc p).grownBy w none) : a.grownBy w none := gfrom1 (gfrom1 h)

end Go.Proofs.YtfeeeoiojaffcaaGreatDoor
namespace Go.Proofs.YtfeeeoiojaffcaaGreatDoor
open Go.RowKit

theorem wrap_in (x : Int) (h : -9223372036854775808 ≤ x) (h' : x < 9223372036854775808) : wrap64 x = x := by unfold wrap64; omega
theorem wrap_small (n : Nat) (h : n < 256) : wrap64 (n : Int) = n := wrap_in _ (by omega) (by omega)
theorem num_two (s : ByteArray) (p : Nat) (h : p + 2 ≤ s.size) : num s p 2 = (s[p]'(by omega)).toNat * 256 + (s[p + 1]'(by omega)).toNat := by
  have hl : s.data.toList.length = s.size := Array.length_toList
  unfold num
  rw [List.drop_eq_getElem_cons (by omega), List.drop_eq_getElem_cons (by omega), List.take_succ_cons, List.take_succ_cons, List.take_zero]
  simp only [be, List.foldl_cons, List.foldl_nil, Nat.zero_mul, Nat.zero_add]
  rfl

theorem refnum_ok (s : ByteArray) (p : Nat) (w : World) (h : p + 2 ≤ s.size) (hs : s.size ≤ maxLen) : Calls Tryz.prog 43 #[.string s, .int .i64 p] w fun e w' => e = .returned (.int .i64 (num s p 2)) ∧ w.grownBy w' none := by
  unfold maxLen at hs
  have h0 : (0 : Int) ≤ (p : Int) := by omega
  have h1 : (p : Int) < ((s.size : Nat) : Int) := by omega
  have h2 : (p : Int) + 1 < ((s.size : Nat) : Int) := by omega
  have h3 : (0 : Int) ≤ (p : Int) + 1 := by omega
  have h4 : IntKind.i64.wrap ((p : Int) + 1) = (p : Int) + 1 := IntWalk.i64_in _ (by omega)
  go_enter Tryz.func43, Tryz.ntmps43
  go_wp2
  go_quiet (fail)
  go_wp2
  go_ret
  refine ⟨?_, gdrewN (grefl _ none) _⟩
  have e1 := wrap_small (s[p]'(by omega)).toNat (by have := (s[p]'(by omega)).toNat_lt; omega)
  have e2 := wrap_small (s[p + 1]'(by omega)).toNat (by have := (s[p + 1]'(by omega)).toNat_lt; omega)
  have l1 := (s[p]'(by omega)).toNat_lt
  have l2 := (s[p + 1]'(by omega)).toNat_lt
  simp only [Array.getD]
  show Ending.returned (Value.int IntKind.i64 (wrap64 (wrap64 (wrap64 ((s[p]'(by omega)).toNat : Int) * 256) + wrap64 ((s[p + 1]'(by omega)).toNat : Int)))) = _
  have e3 := wrap_in (((s[p]'(by omega)).toNat : Int) * 256) (by omega) (by omega)
  have e4 := wrap_in (((s[p]'(by omega)).toNat : Int) * 256 + ((s[p + 1]'(by omega)).toNat : Int)) (by omega) (by omega)
  rw [e1, e2, e3, e4, num_two s p h]
  rfl

theorem rfrom_any (n : Nat) (hn : n < 65536) (w : World) : Calls Tryz.prog 42 #[.int .u16 n] w fun e w' => e = .returned (fromN 0 n).v ∧ w.grownBy w' none := by
  go_enter Tryz.func42, Tryz.ntmps42
  go_wp2
  refine bodyPost_ret (results_cell_row rfl _ _ w.heap.size _ _ _ _ rfl (balloc w _) Tryz.underlying25 rfl (by kernel_rfl)) rfl ?_
  refine ⟨?_, galloc (grefl _ none) _⟩
  have q : ∀ i k : Nat, 2 ^ i = k → ((n : Int) / (k : Int) % 2 == 1) = bq n i := by
    intro i k hk
    subst hk
    unfold bq
    rw [Bool.eq_iff_iff]
    simp only [beq_iff_eq, decide_eq_true_eq]
    omega
  have q15 : ((n : Int) / 32768 == 1) = bq n 15 := by
    unfold bq
    rw [Bool.eq_iff_iff]
    simp only [beq_iff_eq, decide_eq_true_eq]
    omega
  have c1 : ((n : Int) / 2048 % 16) = ((n / 2048 % 16 : Nat) : Int) := by omega
  have c2 : ((n : Int) % 16) = ((n % 16 : Nat) : Int) := by omega
  have q10 : ((n : Int) / 1024 % 2 == 1) = bq n 10 := q 10 1024 rfl
  have q9 : ((n : Int) / 512 % 2 == 1) = bq n 9 := q 9 512 rfl
  have q8 : ((n : Int) / 256 % 2 == 1) = bq n 8 := q 8 256 rfl
  have q7 : ((n : Int) / 128 % 2 == 1) = bq n 7 := q 7 128 rfl
  have q6 : ((n : Int) / 64 % 2 == 1) = bq n 6 := q 6 64 rfl
  have q5 : ((n : Int) / 32 % 2 == 1) = bq n 5 := q 5 32 rfl
  have q4 : ((n : Int) / 16 % 2 == 1) = bq n 4 := q 4 16 rfl
  rw [q15, q10, q9, q8, q7, q6, q5, q4, c1, c2]
  rfl
end Go.Proofs.YtfeeeoiojaffcaaGreatDoor
namespace Go.Proofs.YtfeeeoiojaffcaaGreatDoor
open Go.RowKit

theorem rhread_short (s : ByteArray) (w : World) (h : s.size < 12) : Calls Tryz.prog 17 #[.string s] w fun e w' => e = .returned (.tuple #[hd0.v, cv 0 0 0 0, .int .i64 4]) ∧ w.grownBy w' none := by
  have g1 : ((s.size : Nat) : Int) < 12 := by omega
  go_enter Tryz.func17, Tryz.ntmps17
  go_wp2
  refine bodyPost_ret (results_ccr rfl _ _ w.heap.size (w.heap.size + 1) _ _ _ _ _ _ _ _ rfl (heap_alloc2_old w _ _) Tryz.underlying25 rfl (by kernel_rfl) rfl (heap_alloc2_new w _ _) Tryz.underlying51 rfl (by kernel_rfl)) rfl ?_
  exact ⟨rfl, galloc (galloc (grefl _ none) _) _⟩

set_option maxHeartbeats 4000000 in
set_option maxRecDepth 100000 in
theorem rhread_ok (s : ByteArray) (w : World) (h : 12 ≤ s.size) (hs : s.size ≤ maxLen) : Calls Tryz.prog 17 #[.string s] w fun e w' => e = .returned (.tuple #[(fromN (num s 0 2) (num s 2 2)).v, cv (num s 4 2) (num s 6 2) (num s 8 2) (num s 10 2), .int .i64 0]) ∧ w.grownBy w' none := by
  have g1 : ¬ ((s.size : Nat) : Int) < 12 := by omega
  have n0 := num_lt s 0 2
  have n1 := num_lt s 2 2
  go_enter Tryz.func17, Tryz.ntmps17
  go_wp2_with fail
  refine Calls.mono (refnum_ok s 2 _ (by omega) hs) ?_
  rintro e w1 ⟨rfl, hg⟩
  have R1 := Lib.hid (gblock hg (heap_alloc2_old w _ _) (by simp))
  have R2 := Lib.hid (gblock hg (heap_alloc2_new w _ _) (by simp))
  have G1 := Lib.hid (gfrom2 hg)
  clear hg
  go_wp2_with fail
  refine Calls.mono (rfrom_any (num s 2 2) n1 w1) ?_
  rintro e w2 ⟨rfl, hg⟩
  have HLT := Lib.hid (show w.heap.size + 2 ≤ w2.heap.size from Nat.succ_le_of_lt (blt (gblock hg R2.out (by simp))))
  have G2 := Lib.hid (gtrans G1.out hg)
  have R12 := Lib.hid (gblock hg R1.out (by simp))
  have R22 := Lib.hid (gblock hg R2.out (by simp))
  clear hg G1 R1 R2
  obtain ⟨H, hH⟩ : ∃ H, H = fromN 0 (num s 2 2) := ⟨_, rfl⟩
  rw [← hH]
  have HH := Lib.hid hH
  clear hH
  simp only [Hd.v]
  go_wp2_with fail
  refine Calls.mono (refnum_ok s 0 _ (by omega) hs) ?_
  rintro e w3 ⟨rfl, hg⟩
  have G3 := Lib.hid (gtrans G2.out (gfrom1 hg))
  have R13 := Lib.hid (gblock (gfrom1 hg) R12.out (by simp))
  have R23 := Lib.hid (gblock (gfrom1 hg) R22.out (by simp))
  have H3 := Lib.hid (gblock hg (balloc w2 _) (by simp))
  have c0 := bcellAt H3.out 0
  have f0 := bfree H3.out 0
  simp only [List.getElem?_toArray, List.getElem?_cons_zero] at c0
  clear hg G2 R12 R22
  go_wp2_with fail
  have hlt1 : w.heap.size + 2 ≤ w2.heap.size := HLT.out
  have oth : ∀ k, k ≠ w2.heap.size → (w3.setCell ⟨w2.heap.size, 0, none⟩ (.int .u16 (num s 0 2))).heap[k]? = w3.heap[k]? := fun k hk => heap_setCell_other w3 ⟨w2.heap.size, 0, none⟩ k _ hk
  have H4 := Lib.hid (bset H3.out 0 (.int .u16 (num s 0 2)))
  have R14 := Lib.hid ((oth _ (by omega)).trans R13.out)
  have R24 := Lib.hid ((oth _ (by omega)).trans R23.out)
  have G4 := Lib.hid (show w.grownBy (w3.setCell ⟨w2.heap.size, 0, none⟩ (.int .u16 (num s 0 2))) none from ⟨G3.out.os, G3.out.tape, G3.out.output, by simpa using G3.out.size, fun k hk hn => (oth k (by omega)).trans (G3.out.block k hk hn)⟩)
  clear oth c0 f0 H3 R13 R23 G3
  refine wp_region_held_drew (S := fun w' => w'.heap[w2.heap.size]? = some (.cells #[.int .u16 (num s 0 2), .bool H.qr, .int .u8 H.op, .bool H.aa, .bool H.tc, .bool H.rd, .bool H.ra, .bool H.z, .bool H.ad, .bool H.cd, .int .u8 H.code] 25 (0, 0))) (by kernel_rfl) H4.out (fun hHeld => ?_)
  refine wpAnyH_take (i := 0) (oi := { dst := some 19, op := .load 25 (.tmp 5), type := 25, pos := "ref.go:40", after := #[], guard := none }) (v := .agg #[.int .u16 (num s 0 2), .bool H.qr, .int .u8 H.op, .bool H.aa, .bool H.tc, .bool H.rd, .bool H.ra, .bool H.z, .bool H.ad, .bool H.cd, .int .u8 H.code]) rfl (by kernel_rfl) (by kernel_rfl) (by kernel_rfl) (fun _ _ _ h => h) (yieldsIf_load_row (by rfl) _ _ rfl w2.heap.size rfl _ _ _ _ (fun w h => h) Tryz.underlying25 rfl (by kernel_rfl)) hHeld ?_
  simp only [Act.put, List.setIfInBounds_toArray, List.set_cons_zero, List.set_cons_succ]
  refine wpAnyH_take (i := 1) (oi := { dst := some 20, op := .move (.tmp 0), type := 9, pos := "ref.go:40", after := #[], guard := none }) (v := .string s) rfl (by kernel_rfl) (by kernel_rfl) (by kernel_rfl) (fun _ _ _ h => h) (Or.inl ⟨by rfl, fun _ _ => rfl⟩) hHeld ?_
  simp only [Act.put, List.setIfInBounds_toArray, List.set_cons_zero, List.set_cons_succ]
  refine wpAnyH_take (i := 3) (oi := { dst := some 22, op := .move (.tmp 0), type := 9, pos := "ref.go:40", after := #[], guard := none }) (v := .string s) rfl (by kernel_rfl) (by kernel_rfl) (by kernel_rfl) (fun _ _ _ h => h) (Or.inl ⟨by rfl, fun _ _ => rfl⟩) hHeld ?_
  simp only [Act.put, List.setIfInBounds_toArray, List.set_cons_zero, List.set_cons_succ]
  refine wpAnyH_take (i := 5) (oi := { dst := some 24, op := .move (.tmp 0), type := 9, pos := "ref.go:40", after := #[], guard := none }) (v := .string s) rfl (by kernel_rfl) (by kernel_rfl) (by kernel_rfl) (fun _ _ _ h => h) (Or.inl ⟨by rfl, fun _ _ => rfl⟩) hHeld ?_
  simp only [Act.put, List.setIfInBounds_toArray, List.set_cons_zero, List.set_cons_succ]
  refine wpAnyH_take (i := 7) (oi := { dst := some 26, op := .move (.tmp 0), type := 9, pos := "ref.go:40", after := #[], guard := none }) (v := .string s) rfl (by kernel_rfl) (by kernel_rfl) (by kernel_rfl) (fun _ _ _ h => h) (Or.inl ⟨by rfl, fun _ _ => rfl⟩) hHeld ?_
  simp only [Act.put, List.setIfInBounds_toArray, List.set_cons_zero, List.set_cons_succ]
  refine wpAnyH_ready (rs := [2]) (by kernel_rfl) (by simp) ?_
  refine AllReadyH.cons (o := { dst := some 21, op := .call { callee := .value (.func 43), args := #[.tmp 20, .const (.int .i64 4)], argTypes := #[9, 3] }, type := 3, pos := "ref.go:40", after := #[{ on := 1, ground := .data }], guard := none }) rfl (fun K hK => ?_) AllReadyH.nil
  go_simp
  refine Calls.mono (refnum_ok s 4 _ (by omega) hs) ?_
  rintro e v0 ⟨rfl, hg⟩
  go_wp2_with fail
  have Ga0 := Lib.hid (gtrans (gdrew G4.out) hg)
  have Ra0 := Lib.hid (gblock hg R14.out (by simp))
  have Rb0 := Lib.hid (gblock hg R24.out (by simp))
  refine hK.out _ _ (gblock hg hHeld (by simp)) (fun hHeld0 => ?_)
  clear hK K hg
  refine wpAnyH_ready (rs := [4]) (by kernel_rfl) (by simp) ?_
  refine AllReadyH.cons (o := { dst := some 23, op := .call { callee := .value (.func 43), args := #[.tmp 22, .const (.int .i64 6)], argTypes := #[9, 3] }, type := 3, pos := "ref.go:40", after := #[{ on := 3, ground := .data }, { on := 2, ground := .chain }], guard := none }) rfl (fun K hK => ?_) AllReadyH.nil
  go_simp
  refine Calls.mono (refnum_ok s 6 _ (by omega) hs) ?_
  rintro e v1 ⟨rfl, hg⟩
  go_wp2_with fail
  have Ga1 := Lib.hid (gtrans Ga0.out hg)
  have Ra1 := Lib.hid (gblock hg Ra0.out (by simp))
  have Rb1 := Lib.hid (gblock hg Rb0.out (by simp))
  refine hK.out _ _ (gblock hg hHeld0 (by simp)) (fun hHeld1 => ?_)
  clear hK K hg
  refine wpAnyH_ready (rs := [6]) (by kernel_rfl) (by simp) ?_
  refine AllReadyH.cons (o := { dst := some 25, op := .call { callee := .value (.func 43), args := #[.tmp 24, .const (.int .i64 8)], argTypes := #[9, 3] }, type := 3, pos := "ref.go:40", after := #[{ on := 5, ground := .data }, { on := 4, ground := .chain }], guard := none }) rfl (fun K hK => ?_) AllReadyH.nil
  go_simp
  refine Calls.mono (refnum_ok s 8 _ (by omega) hs) ?_
  rintro e v2 ⟨rfl, hg⟩
  go_wp2_with fail
  have Ga2 := Lib.hid (gtrans Ga1.out hg)
  have Ra2 := Lib.hid (gblock hg Ra1.out (by simp))
  have Rb2 := Lib.hid (gblock hg Rb1.out (by simp))
  refine hK.out _ _ (gblock hg hHeld1 (by simp)) (fun hHeld2 => ?_)
  clear hK K hg
  refine wpAnyH_ready (rs := [8]) (by kernel_rfl) (by simp) ?_
  refine AllReadyH.cons (o := { dst := some 27, op := .call { callee := .value (.func 43), args := #[.tmp 26, .const (.int .i64 10)], argTypes := #[9, 3] }, type := 3, pos := "ref.go:40", after := #[{ on := 7, ground := .data }, { on := 6, ground := .chain }], guard := none }) rfl (fun K hK => ?_) AllReadyH.nil
  go_simp
  refine Calls.mono (refnum_ok s 10 _ (by omega) hs) ?_
  rintro e v3 ⟨rfl, hg⟩
  go_wp2_with fail
  have Ga3 := Lib.hid (gtrans Ga2.out hg)
  have Ra3 := Lib.hid (gblock hg Ra2.out (by simp))
  have Rb3 := Lib.hid (gblock hg Rb2.out (by simp))
  refine hK.out _ _ (gblock hg hHeld2 (by simp)) (fun hHeld3 => ?_)
  clear hK K hg
  refine wpAnyH_take (i := 9) (oi := { dst := some 28, op := .build 51 #[(0, .tmp 21), (1, .tmp 23), (2, .tmp 25), (3, .tmp 27)], type := 51, pos := "ref.go:40", after := #[{ on := 2, ground := .data }, { on := 4, ground := .data }, { on := 6, ground := .data }, { on := 8, ground := .data }, { on := 10, ground := .gcOnly .lateStores }], guard := none }) (v := .agg #[.int .i64 (num s 4 2), .int .i64 (num s 6 2), .int .i64 (num s 8 2), .int .i64 (num s 10 2)]) rfl (by kernel_rfl) (by kernel_rfl) (by kernel_rfl) (fun _ _ _ h => h) (Or.inl ⟨by rfl, fun _ _ => by go_simp⟩) hHeld3 ?_
  simp only [Act.put, List.setIfInBounds_toArray, List.set_cons_zero, List.set_cons_succ]
  refine wpAnyH_ready (rs := [10]) (by kernel_rfl) (by simp) ?_
  refine AllReadyH.cons (o := { dst := none, op := .store 25 (.tmp 2) (.tmp 19), type := 0, pos := "ref.go:40", after := #[{ on := 0, ground := .data }, { on := 8, ground := .chain }, { on := 0, ground := .phase }, { on := 1, ground := .textOnly .lateStores }, { on := 2, ground := .textOnly .lateStoresUnsure }, { on := 3, ground := .textOnly .lateStores }, { on := 4, ground := .textOnly .lateStoresUnsure }, { on := 5, ground := .textOnly .lateStores }, { on := 6, ground := .textOnly .lateStoresUnsure }, { on := 7, ground := .textOnly .lateStores }, { on := 8, ground := .textOnly .lateStoresUnsure }, { on := 9, ground := .textOnly .lateStores }], guard := none }) rfl (fun K hK => ?_) AllReadyH.nil
  rw [if_pos (by rfl)]
  refine wp_store_row _ _ _ rfl w.heap.size #[.int .u16 (num s 0 2), .bool H.qr, .int .u8 H.op, .bool H.aa, .bool H.tc, .bool H.rd, .bool H.ra, .bool H.z, .bool H.ad, .bool H.cd, .int .u8 H.code] rfl rfl _ _ Ra3.out (by kernel_rfl) rfl (by simp [Value.oneCell']) ?_
  refine hK.out _ _ ((setRow_other _ _ _ _ (by omega)).trans hHeld3) (fun hHeld4 => ?_)
  clear hK K
  simp only [Act.put]
  refine wpAnyH_ready (rs := [11]) (by kernel_rfl) (by simp) ?_
  refine AllReadyH.cons (o := { dst := none, op := .store 51 (.tmp 3) (.tmp 28), type := 0, pos := "ref.go:40", after := #[{ on := 9, ground := .data }, { on := 10, ground := .chain }, { on := 0, ground := .phase }, { on := 1, ground := .phase }, { on := 2, ground := .phase }, { on := 3, ground := .phase }, { on := 4, ground := .phase }, { on := 5, ground := .phase }, { on := 6, ground := .phase }, { on := 7, ground := .phase }, { on := 8, ground := .phase }, { on := 9, ground := .phase }, { on := 10, ground := .phase }], guard := none }) rfl (fun K hK => ?_) AllReadyH.nil
  rw [if_pos (by rfl)]
  refine wp_store_row _ _ _ rfl (w.heap.size + 1) #[.int .i64 (num s 4 2), .int .i64 (num s 6 2), .int .i64 (num s 8 2), .int .i64 (num s 10 2)] rfl rfl _ _ ((setRow_other _ _ _ _ (by omega)).trans Rb3.out) (by kernel_rfl) rfl (by simp [Value.oneCell']) ?_
  refine hK.out _ _ ((setRow_other _ _ _ _ (by omega)).trans hHeld4) (fun hHeld5 => ?_)
  clear hK K
  simp only [Act.put]
  refine wpAnyH_ready (rs := [12]) (by kernel_rfl) (by simp) ?_
  refine AllReadyH.cons (o := { dst := some 4, op := .assign (.const (.int .i64 0)), type := 33, pos := "ref.go:40", after := #[{ on := 11, ground := .chain }, { on := 0, ground := .phase }, { on := 1, ground := .phase }, { on := 2, ground := .phase }, { on := 3, ground := .phase }, { on := 4, ground := .phase }, { on := 5, ground := .phase }, { on := 6, ground := .phase }, { on := 7, ground := .phase }, { on := 8, ground := .phase }, { on := 9, ground := .phase }, { on := 10, ground := .phase }, { on := 11, ground := .phase }], guard := none }) rfl (fun K hK => ?_) AllReadyH.nil
  go_simp
  refine hK.out _ _ hHeld5 (fun _ => ?_)
  clear hK K
  refine wpAnyH_done (by kernel_rfl) ?_ _
  go_wp2
  refine bodyPost_ret (results_ccr rfl _ _ w.heap.size (w.heap.size + 1) _ _ _ _ _ _ _ _ rfl ((setRow_other _ _ _ _ (by omega)).trans (bsetRow Ra3.out _)) Tryz.underlying25 rfl (by kernel_rfl) rfl (bsetRow ((setRow_other _ _ _ _ (by omega)).trans Rb3.out) _) Tryz.underlying51 rfl (by kernel_rfl)) rfl ?_
  refine ⟨?_, gsetRow (gsetRow Ga3.out (by omega) _) (by omega) _⟩
  have e := HH.out
  subst e
  rfl
end Go.Proofs.YtfeeeoiojaffcaaGreatDoor
namespace Go.Proofs.YtfeeeoiojaffcaaGreatDoor
open Go.RowKit

theorem rbit_any (q : Bool) (n : Int) (w : World) : Calls Tryz.prog 90 #[.bool q, .int .i64 n] w fun e w' => e = .returned (.int .i64 ((q.toNat : Int) * n)) ∧ w = w' := by
  cases q
  · go_enter Tryz.func90, Tryz.ntmps90
    go_wp2
    go_ret
    exact ⟨by simp, rfl⟩
  · go_enter Tryz.func90, Tryz.ntmps90
    go_wp2
    go_ret
    exact ⟨by simp, rfl⟩

set_option maxRecDepth 100000 in
theorem rhtwo_any (n : Nat) (hn : n < 65536) (w : World) : Calls Tryz.prog 64 #[.int .i64 n] w fun e w' => e = .returned (.string ⟨(enc 2 n).toArray⟩) ∧ w.grownBy w' none := by
  have hcv : (convert 50 9 (.slice (some ⟨w.heap.size, 0, none⟩) 2 2)).run Tryz.prog (w.alloc (.cells #[.int .u8 ((n : Int) / 256), .int .u8 ((n : Int) % 256)] 5)) = .ok (.string ⟨(enc 2 n).toArray⟩) (w.alloc (.cells #[.int .u8 ((n : Int) / 256), .int .u8 ((n : Int) % 256)] 5)) :=
    run_string_of _ 50 9 5 Tryz.underlying50 Tryz.underlying5 Tryz.underlying9 (sl_new w _ (enc 2 n) _ 2 (by
      rw [enc_two]
      simp only [bv, List.map_cons, List.map_nil]
      rw [← cell_byte _ (n / 256) rfl, ← cell_byte _ n rfl]
      rw [show ((n : Int) / 256) = ((n / 256 % 256 : Nat) : Int) by omega, show ((n : Int) % 256) = ((n % 256 : Nat) : Int) by omega]) (by rw [enc_len]))
  go_enter Tryz.func64, Tryz.ntmps64
  go_wp2
  go_ret
  exact ⟨rfl, galloc (grefl _ none) _⟩

theorem sum_wraps (o c q1 q2 q3 q4 q5 q6 q7 q8 : Nat) (ho : o ≤ 15) (hc : c ≤ 15) (h1 : q1 ≤ 1) (h2 : q2 ≤ 1) (h3 : q3 ≤ 1) (h4 : q4 ≤ 1) (h5 : q5 ≤ 1) (h6 : q6 ≤ 1) (h7 : q7 ≤ 1) (h8 : q8 ≤ 1) :
    IntKind.u16.wrap (wrap64 (wrap64 (wrap64 (wrap64 (wrap64 (wrap64 (wrap64 (wrap64 (wrap64 ((q1 : Int) * 32768 + wrap64 (wrap64 (o : Int) * 2048)) + (q2 : Int) * 1024) + (q3 : Int) * 512) + (q4 : Int) * 256) + (q5 : Int) * 128) + (q6 : Int) * 64) + (q7 : Int) * 32) + (q8 : Int) * 16) + wrap64 (c : Int)))
      = ((q1 * 32768 + o * 2048 + q2 * 1024 + q3 * 512 + q4 * 256 + q5 * 128 + q6 * 64 + q7 * 32 + q8 * 16 + c : Nat) : Int) := by
  rw [wrap_in (o : Int) (by omega) (by omega), wrap_in (c : Int) (by omega) (by omega), wrap_in ((o : Int) * 2048) (by omega) (by omega)]
  rw [wrap_in ((q1 : Int) * 32768 + (o : Int) * 2048) (by omega) (by omega), wrap_in ((q1 : Int) * 32768 + (o : Int) * 2048 + (q2 : Int) * 1024) (by omega) (by omega), wrap_in ((q1 : Int) * 32768 + (o : Int) * 2048 + (q2 : Int) * 1024 + (q3 : Int) * 512) (by omega) (by omega), wrap_in ((q1 : Int) * 32768 + (o : Int) * 2048 + (q2 : Int) * 1024 + (q3 : Int) * 512 + (q4 : Int) * 256) (by omega) (by omega), wrap_in ((q1 : Int) * 32768 + (o : Int) * 2048 + (q2 : Int) * 1024 + (q3 : Int) * 512 + (q4 : Int) * 256 + (q5 : Int) * 128) (by omega) (by omega), wrap_in ((q1 : Int) * 32768 + (o : Int) * 2048 + (q2 : Int) * 1024 + (q3 : Int) * 512 + (q4 : Int) * 256 + (q5 : Int) * 128 + (q6 : Int) * 64) (by omega) (by omega), wrap_in ((q1 : Int) * 32768 + (o : Int) * 2048 + (q2 : Int) * 1024 + (q3 : Int) * 512 + (q4 : Int) * 256 + (q5 : Int) * 128 + (q6 : Int) * 64 + (q7 : Int) * 32) (by omega) (by omega), wrap_in ((q1 : Int) * 32768 + (o : Int) * 2048 + (q2 : Int) * 1024 + (q3 : Int) * 512 + (q4 : Int) * 256 + (q5 : Int) * 128 + (q6 : Int) * 64 + (q7 : Int) * 32 + (q8 : Int) * 16) (by omega) (by omega), wrap_in ((q1 : Int) * 32768 + (o : Int) * 2048 + (q2 : Int) * 1024 + (q3 : Int) * 512 + (q4 : Int) * 256 + (q5 : Int) * 128 + (q6 : Int) * 64 + (q7 : Int) * 32 + (q8 : Int) * 16 + (c : Int)) (by omega) (by omega)]
  rw [IntKind.wrap_u16]
  omega

theorem rflags_bad (H : Hd) (w : World) (h : H.bad) : Calls Tryz.prog 63 #[H.v] w fun e w' => e = .returned (.tuple #[.int .u16 0, .int .i64 1]) ∧ w.grownBy w' none := by
  show Calls Tryz.prog 63 #[.agg #[.int .u16 H.id, .bool H.qr, .int .u8 H.op, .bool H.aa, .bool H.tc, .bool H.rd, .bool H.ra, .bool H.z, .bool H.ad, .bool H.cd, .int .u8 H.code]] w _
  by_cases h1 : 15 < H.op
  · have h1' : decide ((15 : Int) < (H.op : Int)) = true := by simp; omega
    go_enter Tryz.func63, Tryz.ntmps63
    go_wp2
    go_ret2
    exact ⟨rfl, galloc (grefl _ none) _⟩
  · have h1' : decide ((15 : Int) < (H.op : Int)) = false := by simp; omega
    have h2' : decide ((15 : Int) < (H.code : Int)) = true := by unfold Hd.bad at h; simp; omega
    go_enter Tryz.func63, Tryz.ntmps63
    go_wp2
    go_ret2
    exact ⟨rfl, galloc (grefl _ none) _⟩

set_option maxRecDepth 100000 in
set_option maxHeartbeats 1000000 in
theorem rflags_ok (H : Hd) (w : World) (h : ¬ H.bad) : Calls Tryz.prog 63 #[H.v] w fun e w' => e = .returned (.tuple #[.int .u16 (flagsN H), .int .i64 0]) ∧ w.grownBy w' none := by
  show Calls Tryz.prog 63 #[.agg #[.int .u16 H.id, .bool H.qr, .int .u8 H.op, .bool H.aa, .bool H.tc, .bool H.rd, .bool H.ra, .bool H.z, .bool H.ad, .bool H.cd, .int .u8 H.code]] w _
  have h1' : decide ((15 : Int) < (H.op : Int)) = false := by unfold Hd.bad at h; simp; omega
  have h2' : decide ((15 : Int) < (H.code : Int)) = false := by unfold Hd.bad at h; simp; omega
  go_enter Tryz.func63, Tryz.ntmps63
  go_wp2
  go_quiet ((go_at_call 90; exact Calls.quiet_of_same ((rbit_any _ _ _).mono fun _ _ ⟨he, hw⟩ => ⟨he, hw.symm⟩)))
  go_wp2
  go_ret2
  refine ⟨?_, gdrewN (galloc (grefl _ none) _) _⟩
  have hw := sum_wraps H.op H.code H.qr.toNat H.aa.toNat H.tc.toNat H.rd.toNat H.ra.toNat H.z.toNat H.ad.toNat H.cd.toNat (by unfold Hd.bad at h; omega) (by unfold Hd.bad at h; omega) (btle _) (btle _) (btle _) (btle _) (btle _) (btle _) (btle _) (btle _)
  show Ending.returned (.tuple #[.int .u16 (IntKind.u16.wrap _), .int .i64 0]) = _
  rw [hw]
  rfl
theorem rflags_any (H : Hd) (w : World) : Calls Tryz.prog 63 #[H.v] w fun e w' => e = .returned (.tuple #[.int .u16 (flN H), .int .i64 (flE H)]) ∧ w.grownBy w' none := by
  unfold flN flE
  by_cases h : H.bad
  · rw [if_pos h, if_pos h]
    exact rflags_bad H w h
  · rw [if_neg h, if_neg h]
    exact rflags_ok H w h
end Go.Proofs.YtfeeeoiojaffcaaGreatDoor
namespace Go.Proofs.YtfeeeoiojaffcaaGreatDoor
open Go.RowKit

theorem rhwrite_bad (H : Hd) (a b c d : Int) (w : World) (h : H.bad) : Calls Tryz.prog 29 #[H.v, cv a b c d] w fun e w' => e = .returned (.tuple #[.string ByteArray.empty, .int .i64 1]) ∧ w.grownBy w' none := by
  have e1 : flN H = 0 := if_pos h
  have e2 : flE H = 1 := if_pos h
  show Calls Tryz.prog 29 #[.agg #[.int .u16 H.id, .bool H.qr, .int .u8 H.op, .bool H.aa, .bool H.tc, .bool H.rd, .bool H.ra, .bool H.z, .bool H.ad, .bool H.cd, .int .u8 H.code], .agg #[.int .i64 a, .int .i64 b, .int .i64 c, .int .i64 d]] w _
  go_enter Tryz.func29, Tryz.ntmps29
  go_wp2_with fail
  refine Calls.mono (rflags_any H _) ?_
  rw [e1, e2]
  rintro e w1 ⟨rfl, hg⟩
  have G1 := Lib.hid (gfr1 (gfr1 hg))
  clear hg e1 e2
  go_wp2
  go_ret2
  exact ⟨rfl, G1.out⟩

/-- What is written after k counts. -/
def wrK (H : Hd) (x : Nat → Int) : Nat → List UInt8
  | 0 => enc 2 H.id ++ enc 2 (flagsN H)
  | k + 1 => wrK H x k ++ enc 2 (x k).toNat
theorem wrK_len (H : Hd) (x : Nat → Int) (k : Nat) : (wrK H x k).length = 4 + 2 * k := by
  induction k with
  | zero => simp [wrK, enc_len]
  | succ k ih => simp [wrK, enc_len, ih]; omega

def cx (a b c d : Int) (k : Nat) : Int := match k with | 0 => a | 1 => b | 2 => c | _ => d
theorem cx_get (a b c d : Int) (k : Nat) (h : k < 4) : (#[Value.int .i64 a, .int .i64 b, .int .i64 c, .int .i64 d])[k]? = some (.int .i64 (cx a b c d k)) := by
  match k, h with
  | 0, _ => rfl
  | 1, _ => rfl
  | 2, _ => rfl
  | 3, _ => rfl
theorem ok_cx {H : Hd} {a b c d : Int} (h : okW H a b c d) (k : Nat) (hk : k < 4) : 0 ≤ cx a b c d k ∧ cx a b c d k ≤ 65535 := by
  obtain ⟨_, ha, hb, hc, hd⟩ := h
  match k, hk with
  | 0, _ => exact ha
  | 1, _ => exact hb
  | 2, _ => exact hc
  | 3, _ => exact hd
theorem wrK0 (H : Hd) (x : Nat → Int) : (⟨(wrK H x 0).toArray⟩ : ByteArray) = ⟨(enc 2 H.id).toArray⟩ ++ ⟨(enc 2 (flagsN H)).toArray⟩ := (mk_append_list _ _).symm
theorem wrKs (H : Hd) (x : Nat → Int) (k : Nat) : (⟨(wrK H x (k + 1)).toArray⟩ : ByteArray) = ⟨(wrK H x k).toArray⟩ ++ ⟨(enc 2 (x k).toNat).toArray⟩ := (mk_append_list _ _).symm

set_option maxRecDepth 100000 in
set_option maxHeartbeats 1000000 in
theorem rhwrite_ok (H : Hd) (a b c d : Int) (w : World) (hi : H.id < 65536) (h : ¬ H.bad) : Calls Tryz.prog 29 #[H.v, cv a b c d] w fun e w' => e = .returned (.tuple #[.string (wrS H a b c d), .int .i64 (wrE H a b c d)]) ∧ w.grownBy w' none := by
  have e1 : flN H = flagsN H := if_neg h
  have e2 : flE H = 0 := if_neg h
  have hf := flagsN_lt H h
  show Calls Tryz.prog 29 #[.agg #[.int .u16 H.id, .bool H.qr, .int .u8 H.op, .bool H.aa, .bool H.tc, .bool H.rd, .bool H.ra, .bool H.z, .bool H.ad, .bool H.cd, .int .u8 H.code], .agg #[.int .i64 a, .int .i64 b, .int .i64 c, .int .i64 d]] w _
  go_enter Tryz.func29, Tryz.ntmps29
  go_wp2_with fail
  refine Calls.mono (rflags_any H _) ?_
  rw [e1, e2]
  rintro e w1 ⟨rfl, hg⟩
  have G1 := Lib.hid (gfr1 (gfr1 hg))
  have R1 := Lib.hid (gblock hg (balloc2_0 w _ _) (by simp))
  have R2 := Lib.hid (gblock hg (balloc2_1 w _ _) (by simp))
  have c0 : w1.cell? ⟨w.heap.size, 0, none⟩ = some (.int .u16 H.id) := bcellAt R1.out 0
  clear hg e1 e2
  go_wp2_with fail
  refine Calls.mono (rhtwo_any H.id hi _) ?_
  rintro e w2 ⟨rfl, hg⟩
  have G2 := Lib.hid (gtrans G1.out hg)
  have R22 := Lib.hid (gblock hg R2.out (by simp))
  clear hg G1 R1 R2 c0
  go_wp2_with fail
  refine Calls.mono (rhtwo_any (flagsN H) hf _) ?_
  rintro e w3 ⟨rfl, hg⟩
  have G3 := Lib.hid (gtrans G2.out hg)
  have R3 := Lib.hid (gblock hg R22.out (by simp))
  clear hg G2 R22
  have hl1 := enc_len 2 H.id
  have hl2 := enc_len 2 (flagsN H)
  have hq : ¬ 9223372036854775807 < (enc 2 H.id).length + (enc 2 (flagsN H)).length := by omega
  clear hl1 hl2
  go_wp2_with fail
  go_loopw [8, 9] (fun s i wr => ∃ k : Nat, k ≤ 4 ∧ i = .int .i64 k ∧ s = .string ⟨(wrK H (cx a b c d) k).toArray⟩ ∧ (∀ j, j < k → 0 ≤ cx a b c d j ∧ cx a b c d j ≤ 65535) ∧ w.grownBy wr none ∧ wr.heap[w.heap.size + 1]? = some (.cells #[.int .i64 a, .int .i64 b, .int .i64 c, .int .i64 d] 51 (0, 0))) (fun _ i _ => 4 - (intOf i).toNat)
  case atStart => exact ⟨0, by omega, rfl, by rw [← wrK0], by intro j hj; omega, G3.out, R3.out⟩
  case round =>
    obtain ⟨k, hk, rfl, rfl, hj, hg, hr⟩ := hrel
    have HJ := Lib.hid hj
    have HG := Lib.hid hg
    have HR := Lib.hid hr
    clear hj hg hr
    have hlen := wrK_len H (cx a b c d) k
    by_cases hlt : k < 4
    · have hc : wr.cell? ⟨w.heap.size + 1, k, none⟩ = some (.int .i64 (cx a b c d k)) := (bcellAt HR.out k).trans (cx_get a b c d k hlt)
      generalize hx : cx a b c d k = x at *
      have HX := Lib.hid hx
      clear hx
      have q0 : (0 : Int) ≤ (k : Int) := by omega
      have q1 : (k : Int) < 4 := by omega
      by_cases hb : 0 ≤ x ∧ x ≤ 65535
      · obtain ⟨y, rfl⟩ : ∃ n : Nat, x = n := ⟨x.toNat, by omega⟩
        have HY := Lib.hid (show y < 65536 by omega)
        have b0 : decide (((y : Nat) : Int) < 0) = false := by simp
        have b1 : decide ((65535 : Int) < ((y : Nat) : Int)) = false := by simp; omega
        have hl2 := enc_len 2 y
        have hq : ¬ 9223372036854775807 < (wrK H (cx a b c d) k).length + (enc 2 y).length := by omega
        clear hl2 hlen hb
        go_wp2_with fail
        refine Calls.mono (rhtwo_any y HY.out _) ?_
        rintro e w4 ⟨rfl, hg⟩
        have G4 := Lib.hid (gtrans HG.out hg)
        have R4 := Lib.hid (gblock hg HR.out (by simp))
        clear hg
        go_wp2_with fail
        go_roundw
        case rel => exact ⟨k + 1, by omega, by go_num, by rw [wrKs, HX.out]; simp, fun j hj => by
          rcases Nat.lt_succ_iff_lt_or_eq.1 hj with h | h
          · exact HJ.out j h
          · rw [h, HX.out]; have := HY.out; omega, G4.out, R4.out⟩
        case measure => simp [intOf]; omega
      · have HF := Lib.hid (show ¬ okW H a b c d from fun ho => hb (by rw [← HX.out]; exact ok_cx ho k hlt))
        by_cases h0 : x < 0
        · have b0 : decide (x < 0) = true := by simp; omega
          go_wp2
          go_ret2
          refine ⟨?_, HG.out⟩
          unfold wrS wrE
          rw [if_neg HF.out, if_neg HF.out]
          rfl
        · have b0 : decide (x < 0) = false := by simp; omega
          have b1 : decide (65535 < x) = true := by simp; omega
          go_wp2
          go_ret2
          refine ⟨?_, HG.out⟩
          unfold wrS wrE
          rw [if_neg HF.out, if_neg HF.out]
          rfl
    · obtain rfl : k = 4 := by omega
      have HF := Lib.hid (show okW H a b c d from ⟨h, HJ.out 0 (by omega), HJ.out 1 (by omega), HJ.out 2 (by omega), HJ.out 3 (by omega)⟩)
      go_wp2
      go_ret2
      refine ⟨?_, HG.out⟩
      unfold wrS wrE
      rw [if_pos HF.out, if_pos HF.out]
      rfl

theorem rhwrite_any (H : Hd) (a b c d : Int) (w : World) (hi : H.id < 65536) : Calls Tryz.prog 29 #[H.v, cv a b c d] w fun e w' => e = .returned (.tuple #[.string (wrS H a b c d), .int .i64 (wrE H a b c d)]) ∧ w.grownBy w' none := by
  by_cases h : H.bad
  · have e := rhwrite_bad H a b c d w h
    have hn : ¬ okW H a b c d := fun ho => ho.1 h
    unfold wrS wrE
    rw [if_neg hn, if_neg hn]
    exact e
  · exact rhwrite_ok H a b c d w hi h
end Go.Proofs.YtfeeeoiojaffcaaGreatDoor
namespace Go.Proofs.YtfeeeoiojaffcaaGreatDoor
open Go.RowKit

theorem enc_cons (n x : Nat) : enc (n + 1) x = UInt8.ofNat (x / 256 ^ n % 256) :: enc n x := by
  induction n generalizing x with
  | zero => simp [enc]
  | succ n ih =>
    rw [enc, ih, enc, List.cons_append, Nat.div_div_eq_div_mul, Nat.pow_succ, Nat.mul_comm 256]
theorem mk_cons (c : UInt8) (l : List UInt8) : (⟨#[c]⟩ : ByteArray) ++ (⟨l.toArray⟩ : ByteArray) = ⟨(c :: l).toArray⟩ := by
  have := ByteArray.mk_append_mk [c] l
  simpa using this

set_option maxRecDepth 100000 in
/-- hustingsref02.Put: the bytes of a number. -/
theorem rput_any (x k : Nat) (hx : x < 4294967296) (hk : k ≤ 8) (w : World) : Calls Tryz.prog 31 #[.int .u64 x, .int .i64 k] w fun e w' => e = .returned (.string ⟨(enc k x).toArray⟩) ∧ w.grownBy w' none := by
  go_enter Tryz.func31, Tryz.ntmps31
  go_wp2_with fail
  go_loopw [0, 5, 6] (fun n s i wr => ∃ j : Nat, j ≤ k ∧ i = .int .i64 j ∧ n = .int .u64 ((x / 256 ^ j : Nat) : Int) ∧ s = .string ⟨(enc j x).toArray⟩ ∧ w.grownBy wr none) (fun _ _ i _ => k - (intOf i).toNat)
  case atStart => exact ⟨0, by omega, rfl, by simp, rfl, grefl _ _⟩
  case round =>
    obtain ⟨j, hj, rfl, rfl, rfl, hg⟩ := hrel
    have hlen := enc_len j x
    have hE := enc_cons j x
    by_cases hlt : j < k
    · have hlt2 : x / 256 ^ j < 4294967296 := Nat.lt_of_le_of_lt (Nat.div_le_self _ _) hx
      have HM := Lib.hid (show x / 256 ^ (j + 1) = x / 256 ^ j / 256 by rw [Nat.pow_succ, Nat.div_div_eq_div_mul])
      have HE := Lib.hid hE
      have HL := Lib.hid hlen
      have hlt3 : (enc j x).length ≤ 8 := by omega
      clear hE hlen
      generalize x / 256 ^ j = y at *
      generalize enc j x = l at *
      have hcv : (convert 50 9 (.slice (some ⟨wr.heap.size, 0, none⟩) 1 1)).run Tryz.prog (wr.alloc (.cells #[.int .u8 ((y : Int) % 256)] 5)) = .ok (.string ⟨#[UInt8.ofNat (y % 256)]⟩) (wr.alloc (.cells #[.int .u8 ((y : Int) % 256)] 5)) :=
        run_string_of _ 50 9 5 Tryz.underlying50 Tryz.underlying5 Tryz.underlying9 (sl_new wr _ [UInt8.ofNat (y % 256)] _ 1 (congrArg (fun z => [z]) (cell_byte _ y (by omega))) rfl)
      go_wp2
      go_roundw
      case rel => exact ⟨j + 1, by omega, by go_num, by rw [HM.out]; go_num, by rw [HE.out]; exact congrArg Value.string (mk_cons _ _), galloc hg _⟩
      case measure => simp [intOf]; omega
    · go_wp2
      go_ret
      have hjk : j = k := by omega
      subst hjk
      exact ⟨rfl, hg⟩

/-- The reference's cursor over s at place p lies in block b. -/
def RCur (w : World) (b : Nat) (s : ByteArray) (p : Nat) : Prop := w.heap[b]? = some (.cells #[.string s, .int .i64 p] 135 (0, 0))

theorem number_short (b : Nat) (s : ByteArray) (p n : Nat) (w : World) (h : RCur w b s p) (hp : p ≤ s.size) (hq : s.size < p + n) (hs : s.size ≤ maxLen) : Calls Tryz.prog 71 #[.pointer (some ⟨b, 0, none⟩), .int .i64 n] w fun e w' => e = .returned (.tuple #[.int .u64 0, .int .i64 4]) ∧ w.grownBy w' none := by
  have h0 : w.cell? ⟨b, 0, none⟩ = some (.string s) := bcellAt h 0
  have h1 : w.cell? ⟨b, 1, none⟩ = some (.int .i64 p) := bcellAt h 1
  unfold maxLen at hs
  go_enter Tryz.func71, Tryz.ntmps71
  go_wp2
  go_quiet (fail)
  go_wp2
  go_ret2
  exact ⟨rfl, gdrewN (grefl _ _) _⟩

theorem num_snoc (s : ByteArray) (p k : Nat) (h : p + k < s.size) : num s p (k + 1) = num s p k * 256 + (s[p + k]).toNat := by
  unfold num
  rw [List.take_succ_eq_append_getElem (by simp; omega), be_snoc]
  congr 2
  simp
  rfl

theorem u64_step (X c : Nat) (hX : X < 4294967296) (hc : c < 256) : IntKind.u64.wrap (256 * (X : Int) + IntKind.u64.wrap (c : Int)) = ((X * 256 + c : Nat) : Int) := by
  rw [IntKind.wrap_u64, IntKind.wrap_u64]; omega
set_option maxRecDepth 100000 in
theorem number_ok (b : Nat) (s : ByteArray) (p n : Nat) (w : World) (h : RCur w b s p) (hq : p + n ≤ s.size) (hn : n ≤ 4) (hs : s.size ≤ maxLen) : Calls Tryz.prog 71 #[.pointer (some ⟨b, 0, none⟩), .int .i64 n] w fun e w' => e = .returned (.tuple #[.int .u64 (num s p n), .int .i64 0]) ∧ RCur w' b s (p + n) ∧ w.grownBy w' (some b) := by
  have h0 : w.cell? ⟨b, 0, none⟩ = some (.string s) := bcellAt h 0
  have h1 : w.cell? ⟨b, 1, none⟩ = some (.int .i64 p) := bcellAt h 1
  have hf : w.frozen? ⟨b, 1, none⟩ = false := bfree h 1
  unfold maxLen at hs
  have hd : decide ((s.size : Int) - (p : Int) < (n : Int)) = false := by simp; omega
  go_enter Tryz.func71, Tryz.ntmps71
  go_wp2
  go_quiet (fail)
  go_wp2
  go_loopw [6, 7] (fun v i wr => ∃ k : Nat, k ≤ n ∧ i = .int .i64 k ∧ v = .int .u64 (num s p k) ∧ ∃ d, wr = w.drewN d) (fun _ i _ => n - (intOf i).toNat)
  case atStart => exact ⟨0, by omega, rfl, rfl, _, rfl⟩
  case round =>
    obtain ⟨k, hk, rfl, rfl, d, rfl⟩ := hrel
    by_cases hlt : k < n
    · have HS := Lib.hid (num_snoc s p k (by omega))
      have hnl : num s p k < 4294967296 := by
        refine Nat.lt_of_lt_of_le (num_lt s p k) ?_
        rw [show (4294967296 : Nat) = 256 ^ 4 by rfl]
        exact Nat.pow_le_pow_right (by omega) (by omega)
      generalize num s p k = X at *
      have q1 : (0 : Int) ≤ (p : Int) + (k : Int) := by omega
      have q2 : (p : Int) + (k : Int) < (s.size : Int) := by omega
      have q4 : ((p : Int) + (k : Int)).toNat = p + k := by omega
      have q5 : p + k < s.size := by omega
      have q3 : IntKind.i64.wrap ((p : Int) + (k : Int)) = (p : Int) + (k : Int) := IntWalk.i64_in _ (by omega)
      go_wp2
      go_quiet (fail)
      rw [u64_step X _ hnl (s[p + k].toNat_lt)]
      clear q3
      go_wp2
      go_roundw
      case rel => exact ⟨k + 1, by omega, by go_num, by rw [HS.out], _, rfl⟩
      case measure => simp [intOf]; omega
    · have hkn : k = n := by omega
      subst hkn
      go_wp2
      go_ret2
      exact ⟨rfl, (bset (w := w.drewN d) h 1 _).trans (by simp), gset (gdrewN (grefl _ _) _) (.inl rfl) _⟩

theorem rcnumber_any (b : Nat) (s : ByteArray) (p n : Nat) (w : World) (h : RCur w b s p) (hp : p ≤ s.size) (hn : n ≤ 4) (hs : s.size ≤ maxLen) : Calls Tryz.prog 71 #[.pointer (some ⟨b, 0, none⟩), .int .i64 n] w fun e w' => e = .returned (.tuple #[.int .u64 (rdV s p n), .int .i64 (rdE s p n)]) ∧ RCur w' b s (rdP s p n) ∧ w.grownBy w' (some b) := by
  by_cases hq : p + n ≤ s.size
  · simp only [rdV, rdE, rdP, if_pos hq]
    exact number_ok b s p n w h hq hn hs
  · simp only [rdV, rdE, rdP, if_neg hq]
    exact (number_short b s p n w h hp (by omega) hs).mono fun e w' ⟨he, hg⟩ => ⟨he, gblock hg h (by simp), gmono hg⟩

theorem rtake_neg (b : Nat) (w : World) (n : Int) (hn : n < 0) : Calls Tryz.prog 72 #[.pointer (some ⟨b, 0, none⟩), .int .i64 n] w fun e w' => e = .returned (.tuple #[.string ByteArray.empty, .int .i64 1]) ∧ w = w' := by
  go_enter Tryz.func72, Tryz.ntmps72
  go_wp2
  go_ret2
  exact ⟨rfl, rfl⟩
theorem rtake_short (b : Nat) (s : ByteArray) (p : Nat) (w : World) (n : Int) (h : RCur w b s p) (hn : 0 ≤ n) (hp : p ≤ s.size) (hq : s.size < p + n) (hs : s.size ≤ maxLen) : Calls Tryz.prog 72 #[.pointer (some ⟨b, 0, none⟩), .int .i64 n] w fun e w' => e = .returned (.tuple #[.string ByteArray.empty, .int .i64 4]) ∧ w.grownBy w' none := by
  have h0 : w.cell? ⟨b, 0, none⟩ = some (.string s) := bcellAt h 0
  have h1 : w.cell? ⟨b, 1, none⟩ = some (.int .i64 p) := bcellAt h 1
  unfold maxLen at hs
  go_enter Tryz.func72, Tryz.ntmps72
  go_wp2
  go_quiet (fail)
  go_wp2
  go_ret2
  exact ⟨rfl, gdrewN (grefl _ _) _⟩
theorem rtake_ok (b : Nat) (s : ByteArray) (p : Nat) (w : World) (n : Nat) (h : RCur w b s p) (hq : p + n ≤ s.size) (hs : s.size ≤ maxLen) : Calls Tryz.prog 72 #[.pointer (some ⟨b, 0, none⟩), .int .i64 n] w fun e w' => e = .returned (.tuple #[.string (s.extract p (p + n)), .int .i64 0]) ∧ RCur w' b s (p + n) ∧ w.grownBy w' (some b) := by
  have h0 : w.cell? ⟨b, 0, none⟩ = some (.string s) := bcellAt h 0
  have h1 : w.cell? ⟨b, 1, none⟩ = some (.int .i64 p) := bcellAt h 1
  have hf : w.frozen? ⟨b, 1, none⟩ = false := bfree h 1
  unfold maxLen at hs
  go_enter Tryz.func72, Tryz.ntmps72
  go_wp2
  go_quiet (fail)
  go_wp2
  go_quiet (fail)
  go_wp2
  go_ret2
  exact ⟨rfl, (bset h 1 _).trans (by simp), gset (gdrewN (grefl _ _) _) (.inl rfl) _⟩
theorem rtake_any (b : Nat) (s : ByteArray) (p : Nat) (w : World) (n : Int) (h : RCur w b s p) (hp : p ≤ s.size) (hs : s.size ≤ maxLen) : Calls Tryz.prog 72 #[.pointer (some ⟨b, 0, none⟩), .int .i64 n] w fun e w' => e = .returned (.tuple #[.string (tkS s p n), .int .i64 (tkE s p n)]) ∧ RCur w' b s (tkP s p n) ∧ w.grownBy w' (some b) := by
  by_cases hn : n < 0
  · simp only [tkS, tkE, tkP, if_pos hn]
    exact (rtake_neg b w n hn).mono fun e w' ⟨he, hw⟩ => ⟨he, by subst hw; exact h, by subst hw; exact grefl _ _⟩
  · by_cases hq : (s.size : Int) < p + n
    · simp only [tkS, tkE, tkP, if_neg hn, if_pos hq]
      exact (rtake_short b s p w n h (by omega) hp hq hs).mono fun e w' ⟨he, hg⟩ => ⟨he, gblock hg h (by simp), gmono hg⟩
    · simp only [tkS, tkE, tkP, if_neg hn, if_neg hq]
      obtain ⟨m, rfl⟩ := Int.eq_ofNat_of_zero_le (show 0 ≤ n by omega)
      exact rtake_ok b s p w m h (by omega) hs

end Go.Proofs.YtfeeeoiojaffcaaGreatDoor
namespace Go.Proofs.YtfeeeoiojaffcaaGreatDoor
open Go.RowKit

theorem RCur.kept1 {w w' : World} {b : Nat} {s : ByteArray} {p : Nat} {row : Option Nat} (h : RCur w b s p) (g : w.grownBy w' row) (hr : some b ≠ row) : RCur w' b s p := gblock g h hr
theorem rcurAt_of {w : World} {b p : Nat} {s : ByteArray} (h : RCur w b s p) : curAt w b = p := by
  have e : w.cell? ⟨b, 1, none⟩ = some (.int .i64 p) := bcellAt h 1
  unfold curAt
  rw [e]
  rfl
/-- What the document's Read holds at its loop's head. -/
structure RrL (w : World) (class_ ttl : Nat) (s : ByteArray) (p : Nat) (v : Value) (l : List Opt) (wr : World) : Prop where
  gr : w.grownBy wr none
  cur : RCur wr (w.heap.size + 2) s p
  own : wr.ownsRow (w.heap.size + 3) 72 2 v l.length (ov l)
  res : Z5 w wr
  x : wr.heap[w.heap.size + 1]? = some (.cells #[.int .u16 class_, .int .u8 ((ttl / 16777216 : Nat) : Int), .int .u8 ((ttl / 65536 % 256 : Nat) : Int), .int .u16 ((ttl % 65536 : Nat) : Int), v] 30 (0, 0))
  le : p ≤ s.size
  so : OpsSo s l p
  few : l.length * 4 ≤ p
theorem RrL.quiet {w wr w' : World} {class_ ttl p : Nat} {s : ByteArray} {v : Value} {l : List Opt} (h : RrL w class_ ttl s p v l wr) (g : wr.grownBy w' none) : RrL w class_ ttl s p v l w' :=
  ⟨gtrans h.gr g, gblock g h.cur (by simp), own_kept0 h.own g, gblock g h.res (by simp), gblock g h.x (by simp), h.le, h.so, h.few⟩
/-- The same in the middle of a round. -/
structure RrM (w : World) (class_ ttl : Nat) (s : ByteArray) (q : Nat) (v : Value) (l : List Opt) (wr : World) : Prop where
  gr : w.grownBy wr none
  cur : RCur wr (w.heap.size + 2) s q
  own : wr.ownsRow (w.heap.size + 3) 72 2 v l.length (ov l)
  res : Z5 w wr
  x : wr.heap[w.heap.size + 1]? = some (.cells #[.int .u16 class_, .int .u8 ((ttl / 16777216 : Nat) : Int), .int .u8 ((ttl / 65536 % 256 : Nat) : Int), .int .u16 ((ttl % 65536 : Nat) : Int), v] 30 (0, 0))
theorem RrL.m {w wr : World} {class_ ttl p : Nat} {s : ByteArray} {v : Value} {l : List Opt} (h : RrL w class_ ttl s p v l wr) : RrM w class_ ttl s p v l wr := ⟨h.gr, h.cur, h.own, h.res, h.x⟩
theorem RrM.step {w wr w' : World} {class_ ttl p q : Nat} {s : ByteArray} {v : Value} {l : List Opt} (h : RrM w class_ ttl s p v l wr) (g : wr.grownBy w' (some (w.heap.size + 2))) (c : RCur w' (w.heap.size + 2) s q) : RrM w class_ ttl s q v l w' :=
  ⟨gstepo h.gr g (by omega), c, own_kept h.own g (by omega), gblock g h.res (by simp), gblock g h.x (by simp)⟩
theorem RrM.quiet {w wr w' : World} {class_ ttl p : Nat} {s : ByteArray} {v : Value} {l : List Opt} (h : RrM w class_ ttl s p v l wr) (g : wr.grownBy w' none) : RrM w class_ ttl s p v l w' :=
  ⟨gtrans h.gr g, gblock g h.cur (by simp), own_kept0 h.own g, gblock g h.res (by simp), gblock g h.x (by simp)⟩

theorem RrM.app {w w5 w6 : World} {class_ ttl q : Nat} {s : ByteArray} {v v' : Value} {l : List Opt} {o : Opt} (h : RrM w class_ ttl s q v l w5) (ob : Obj)
    (own' : w6.ownsRow (w.heap.size + 3) 72 2 v' (l ++ [o]).length (ov (l ++ [o]))) (g : (w5.alloc ob).grownBy w6 v.ownBlock) :
    w.grownBy w6 none ∧ RCur w6 (w.heap.size + 2) s q ∧ w6.ownsRow (w.heap.size + 3) 72 2 v' (l ++ [o]).length (ov (l ++ [o])) ∧ Z5 w w6 ∧ w6.heap[w.heap.size + 1]? = some (.cells #[.int .u16 class_, .int .u8 ((ttl / 16777216 : Nat) : Int), .int .u8 ((ttl / 65536 % 256 : Nat) : Int), .int .u16 ((ttl % 65536 : Nat) : Int), v] 30 (0, 0)) := by
  have g5 : w5.grownBy w6 v.ownBlock := gfr1 g
  have hne : ∀ b, v.ownBlock = some b → w.heap.size + 3 ≤ b := fun b hb => (World.ownsRow.lt h.own b hb).1
  refine ⟨gstep h.gr g5 (fun r hr => by have := hne r hr; omega), gblock g5 h.cur ?_, own', gblock g5 h.res ?_, gblock g5 h.x ?_⟩
  · intro e; have := hne _ e.symm; omega
  · intro e; have := hne _ e.symm; omega
  · intro e; have := hne _ e.symm; omega
theorem RrL.of {w w6 : World} {class_ ttl p : Nat} {s : ByteArray} {v v' : Value} {l : List Opt}
    (m : w.grownBy w6 none ∧ RCur w6 (w.heap.size + 2) s (p + 4 + num s (p + 2) 2) ∧ w6.ownsRow (w.heap.size + 3) 72 2 v' (l ++ [(num s p 2, s.extract (p + 4) (p + 4 + num s (p + 2) 2))]).length (ov (l ++ [(num s p 2, s.extract (p + 4) (p + 4 + num s (p + 2) 2))])) ∧ Z5 w w6 ∧ w6.heap[w.heap.size + 1]? = some (.cells #[.int .u16 class_, .int .u8 ((ttl / 16777216 : Nat) : Int), .int .u8 ((ttl / 65536 % 256 : Nat) : Int), .int .u16 ((ttl % 65536 : Nat) : Int), v] 30 (0, 0)))
    (so : OpsSo s l p) (few : l.length * 4 ≤ p) (h4 : p + 4 ≤ s.size) (h5 : p + 4 + num s (p + 2) 2 ≤ s.size) :
    RrL w class_ ttl s (p + 4 + num s (p + 2) 2) v' (l ++ [(num s p 2, s.extract (p + 4) (p + 4 + num s (p + 2) 2))]) (w6.setCell ⟨w.heap.size + 1, 4, none⟩ v') := by
  obtain ⟨gr, cur, own, res, x⟩ := m
  have g : w6.grownBy (w6.setCell ⟨w.heap.size + 1, 4, none⟩ v') (some (w.heap.size + 1)) := gset (grefl _ _) (.inl rfl) _
  exact ⟨gstepo gr g (by omega), gblock g cur (by simp), own_kept own g (by omega), gblock g res (by simp), bset x 4 v', h5, so.step h4 h5, by simp; omega⟩

set_option maxRecDepth 100000 in
set_option maxHeartbeats 2000000 in
theorem reread_any (class_ ttl : Nat) (s : ByteArray) (w : World) (ht : ttl < 4294967296) (hs : s.size ≤ 100000) : Calls Tryz.prog 45 #[.int .u16 class_, .int .u32 ttl, .string s] w (EdPost class_ ttl s w) := by
  have hm : s.size ≤ maxLen := by unfold maxLen; omega
  obtain ⟨i0, hi, hz0, hz1, hz2⟩ := info_parts Tryz.infoOpt
  go_enter Tryz.func45, Tryz.ntmps45
  go_wp2_with fail
  go_loopw [10] (fun _ wr => ∃ p v l, RrL w class_ ttl s p v l wr) (fun _ wr => s.size - curAt wr (w.heap.size + 2))
  case atStart =>
    refine ⟨0, .slice none 0 0, [], galloc (galloc (galloc (grefl _ none) _) _) _, balloc3_2 _ _ _ _, World.ownsRow_nil _ _ _ _, balloc3_0 _ _ _ _, ?_, by omega, OpsSo.start s, by simp⟩
    refine (balloc3_1 w _ _ _).trans ?_
    rfl
  case round =>
    obtain ⟨p, v, l, hr⟩ := hrel
    have R0 := Lib.hid hr
    have hp := hr.le
    obtain ⟨A, cap, rfl, hcap, hcm⟩ := own_shape hr.own
    unfold maxLen at hcm
    have HM := Lib.hid (rcurAt_of hr.cur)
    have c1 : wr.cell? ⟨w.heap.size + 2, 1, none⟩ = some (.int .i64 p) := bcellAt hr.cur 1
    clear hr
    by_cases hlt : p < s.size
    · go_wp2_with fail
      have M0 := Lib.hid R0.out.m
      clear c1
      by_cases h2 : p + 2 ≤ s.size
      · refine Calls.mono (number_ok (w.heap.size + 2) s p 2 wr M0.out.cur h2 (by omega) hm) ?_
        rintro e w3 ⟨rfl, hc3, hg3⟩
        have M3 := Lib.hid (M0.out.step hg3 hc3)
        clear hc3 hg3 M0
        go_wp2_with fail
        by_cases h4 : p + 4 ≤ s.size
        · refine Calls.mono (number_ok (w.heap.size + 2) s (p + 2) 2 w3 M3.out.cur (by omega) (by omega) hm) ?_
          rintro e w4 ⟨rfl, hc4, hg4⟩
          have M4 := Lib.hid (M3.out.step hg4 hc4)
          clear hc4 hg4 M3
          have nb := num_lt s (p + 2) 2
          have nc := num_lt s p 2
          go_wp2_with fail
          by_cases h5 : p + 4 + num s (p + 2) 2 ≤ s.size
          · refine Calls.mono (rtake_ok (w.heap.size + 2) s (p + 4) w4 (num s (p + 2) 2) M4.out.cur h5 hm) ?_
            rintro e w5 ⟨rfl, hc5, hg5⟩
            have M5 := Lib.hid (M4.out.step hg5 hc5)
            clear hc5 hg5 M4
            have hfew : (l.length + 1) * 4 ≤ 100000 := by have := R0.out.few; omega
            have x4 : w5.cell? ⟨w.heap.size + 1, 4, none⟩ = some (.slice A l.length cap) := bcellAt M5.out.x 4
            go_wp2_with (at_builtin; refine wpList_append_own _ rfl (.tmp 66) (.tmp 71) 28 rfl (w.heap.size + 3) 72 i0 _ 2 24 Tryz.underlying28 hi hz0 hz1 hz2 rfl (by omega) (.slice A l.length cap) l.length (ov l) rfl (M5.out.own.alloc _) ⟨w5.heap.size, 0, none⟩ 1 1 [.int .u16 (num s p 2), .string (s.extract (p + 4) (p + 4 + num s (p + 2) 2))] rfl rfl ?c1 ?c2 ?c3 ?c4 ?c5 ?_)
            case c1 => exact new_pair w5 _ _ _
            case c2 => intro u hu; simp at hu; rcases hu with rfl | rfl <;> rfl
            case c3 => unfold maxLen; omega
            case c4 => omega
            case c5 => have := blt M5.out.cur; simp; omega
            intro v' w6 hown6 hg6 _
            obtain ⟨A', cap', rfl, _, _⟩ := own_shape hown6
            have M6 := Lib.hid (M5.out.app (o := (num s p 2, s.extract (p + 4) (p + 4 + num s (p + 2) 2))) (v' := .slice A' (l.length + 1) cap') _ (by rw [List.length_append, ov_append]; exact hown6) hg6)
            clear hown6 hg6 M5 x4
            have x5 : w6.cell? ⟨w.heap.size + 1, 4, none⟩ = some (.slice A l.length cap) := bcellAt M6.out.2.2.2.2 4
            have x6 : w6.frozen? ⟨w.heap.size + 1, 4, none⟩ = false := bfree M6.out.2.2.2.2 4
            go_wp2_with fail
            go_roundw
            case rel => exact ⟨_, _, _, RrL.of M6.out R0.out.so R0.out.few h4 h5⟩
            case measure => rw [HM.out, rcurAt_of (RrL.of M6.out R0.out.so R0.out.few h4 h5).cur]; omega
          · refine Calls.mono (rtake_short (w.heap.size + 2) s (p + 4) w4 (num s (p + 2) 2) M4.out.cur (by omega) h4 (by omega) hm) ?_
            rintro e w5 ⟨rfl, hg5⟩
            have M5 := Lib.hid (M4.out.quiet hg5)
            have HN := Lib.hid (R0.out.so.no hlt (by omega))
            clear hg5 M4
            have z0 : w5.cell? ⟨w.heap.size, 0, none⟩ = some (.int .u16 0) := bcellAt M5.out.res 0
            have z1 : w5.cell? ⟨w.heap.size, 1, none⟩ = some (.int .u8 0) := bcellAt M5.out.res 1
            have z2 : w5.cell? ⟨w.heap.size, 2, none⟩ = some (.int .u8 0) := bcellAt M5.out.res 2
            have z3 : w5.cell? ⟨w.heap.size, 3, none⟩ = some (.int .u16 0) := bcellAt M5.out.res 3
            have z4 : w5.cell? ⟨w.heap.size, 4, none⟩ = some (.slice none 0 0) := bcellAt M5.out.res 4
            have y0 : w5.frozen? ⟨w.heap.size, 0, none⟩ = false := bfree M5.out.res 0
            have y1 : w5.frozen? ⟨w.heap.size, 1, none⟩ = false := bfree M5.out.res 1
            have y2 : w5.frozen? ⟨w.heap.size, 2, none⟩ = false := bfree M5.out.res 2
            have y3 : w5.frozen? ⟨w.heap.size, 3, none⟩ = false := bfree M5.out.res 3
            have y4 : w5.frozen? ⟨w.heap.size, 4, none⟩ = false := bfree M5.out.res 4
            go_wp2_with fail
            refine bodyPost_ret (results_cr rfl _ _ w.heap.size _ _ _ _ rfl (bset5_ M5.out.res _ _ _ _ _) Tryz.underlying30 rfl (by kernel_rfl)) rfl ?_
            exact EdPost.no HN.out (gstepo M5.out.gr (gset5_ _ _ _ _ _ _ _) (Nat.le_refl _)) rfl
        · refine Calls.mono (number_short (w.heap.size + 2) s (p + 2) 2 w3 M3.out.cur h2 (by omega) hm) ?_
          rintro e w4 ⟨rfl, hg4⟩
          have M4 := Lib.hid (M3.out.quiet hg4)
          have HN := Lib.hid (R0.out.so.no hlt (by omega))
          clear hg4 M3
          have z0 : w4.cell? ⟨w.heap.size, 0, none⟩ = some (.int .u16 0) := bcellAt M4.out.res 0
          have z1 : w4.cell? ⟨w.heap.size, 1, none⟩ = some (.int .u8 0) := bcellAt M4.out.res 1
          have z2 : w4.cell? ⟨w.heap.size, 2, none⟩ = some (.int .u8 0) := bcellAt M4.out.res 2
          have z3 : w4.cell? ⟨w.heap.size, 3, none⟩ = some (.int .u16 0) := bcellAt M4.out.res 3
          have z4 : w4.cell? ⟨w.heap.size, 4, none⟩ = some (.slice none 0 0) := bcellAt M4.out.res 4
          have y0 : w4.frozen? ⟨w.heap.size, 0, none⟩ = false := bfree M4.out.res 0
          have y1 : w4.frozen? ⟨w.heap.size, 1, none⟩ = false := bfree M4.out.res 1
          have y2 : w4.frozen? ⟨w.heap.size, 2, none⟩ = false := bfree M4.out.res 2
          have y3 : w4.frozen? ⟨w.heap.size, 3, none⟩ = false := bfree M4.out.res 3
          have y4 : w4.frozen? ⟨w.heap.size, 4, none⟩ = false := bfree M4.out.res 4
          go_wp2_with fail
          refine bodyPost_ret (results_cr rfl _ _ w.heap.size _ _ _ _ rfl (bset5_ M4.out.res _ _ _ _ _) Tryz.underlying30 rfl (by kernel_rfl)) rfl ?_
          exact EdPost.no HN.out (gstepo M4.out.gr (gset5_ _ _ _ _ _ _ _) (Nat.le_refl _)) rfl
      · refine Calls.mono (number_short (w.heap.size + 2) s p 2 wr M0.out.cur hp (by omega) hm) ?_
        rintro e w3 ⟨rfl, hg3⟩
        have M3 := Lib.hid (M0.out.quiet hg3)
        have HN := Lib.hid (R0.out.so.no hlt (by omega))
        clear hg3 M0
        have z0 : w3.cell? ⟨w.heap.size, 0, none⟩ = some (.int .u16 0) := bcellAt M3.out.res 0
        have z1 : w3.cell? ⟨w.heap.size, 1, none⟩ = some (.int .u8 0) := bcellAt M3.out.res 1
        have z2 : w3.cell? ⟨w.heap.size, 2, none⟩ = some (.int .u8 0) := bcellAt M3.out.res 2
        have z3 : w3.cell? ⟨w.heap.size, 3, none⟩ = some (.int .u16 0) := bcellAt M3.out.res 3
        have z4 : w3.cell? ⟨w.heap.size, 4, none⟩ = some (.slice none 0 0) := bcellAt M3.out.res 4
        have y0 : w3.frozen? ⟨w.heap.size, 0, none⟩ = false := bfree M3.out.res 0
        have y1 : w3.frozen? ⟨w.heap.size, 1, none⟩ = false := bfree M3.out.res 1
        have y2 : w3.frozen? ⟨w.heap.size, 2, none⟩ = false := bfree M3.out.res 2
        have y3 : w3.frozen? ⟨w.heap.size, 3, none⟩ = false := bfree M3.out.res 3
        have y4 : w3.frozen? ⟨w.heap.size, 4, none⟩ = false := bfree M3.out.res 4
        go_wp2_with fail
        refine bodyPost_ret (results_cr rfl _ _ w.heap.size _ _ _ _ rfl (bset5_ M3.out.res _ _ _ _ _) Tryz.underlying30 rfl (by kernel_rfl)) rfl ?_
        exact EdPost.no HN.out (gstepo M3.out.gr (gset5_ _ _ _ _ _ _ _) (Nat.le_refl _)) rfl
    · have HD := Lib.hid (R0.out.so.done (by omega))
      have z0 : wr.cell? ⟨w.heap.size, 0, none⟩ = some (.int .u16 0) := bcellAt R0.out.res 0
      have z1 : wr.cell? ⟨w.heap.size, 1, none⟩ = some (.int .u8 0) := bcellAt R0.out.res 1
      have z2 : wr.cell? ⟨w.heap.size, 2, none⟩ = some (.int .u8 0) := bcellAt R0.out.res 2
      have z3 : wr.cell? ⟨w.heap.size, 3, none⟩ = some (.int .u16 0) := bcellAt R0.out.res 3
      have z4 : wr.cell? ⟨w.heap.size, 4, none⟩ = some (.slice none 0 0) := bcellAt R0.out.res 4
      have y0 : wr.frozen? ⟨w.heap.size, 0, none⟩ = false := bfree R0.out.res 0
      have y1 : wr.frozen? ⟨w.heap.size, 1, none⟩ = false := bfree R0.out.res 1
      have y2 : wr.frozen? ⟨w.heap.size, 2, none⟩ = false := bfree R0.out.res 2
      have y3 : wr.frozen? ⟨w.heap.size, 3, none⟩ = false := bfree R0.out.res 3
      have y4 : wr.frozen? ⟨w.heap.size, 4, none⟩ = false := bfree R0.out.res 4
      have x0 : wr.cell? ⟨w.heap.size + 1, 0, none⟩ = some (.int .u16 class_) := bcellAt R0.out.x 0
      have x1 : wr.cell? ⟨w.heap.size + 1, 1, none⟩ = some (.int .u8 ((ttl / 16777216 : Nat) : Int)) := bcellAt R0.out.x 1
      have x2 : wr.cell? ⟨w.heap.size + 1, 2, none⟩ = some (.int .u8 ((ttl / 65536 % 256 : Nat) : Int)) := bcellAt R0.out.x 2
      have x3 : wr.cell? ⟨w.heap.size + 1, 3, none⟩ = some (.int .u16 ((ttl % 65536 : Nat) : Int)) := bcellAt R0.out.x 3
      have x4 : wr.cell? ⟨w.heap.size + 1, 4, none⟩ = some ((.slice A l.length cap)) := bcellAt R0.out.x 4
      go_wp2_with fail
      refine bodyPost_ret (results_cr rfl _ _ w.heap.size _ _ _ _ rfl (bset5_ R0.out.res _ _ _ _ _) Tryz.underlying30 rfl (by kernel_rfl)) rfl ?_
      refine EdPost.yes HD.out (gstepo R0.out.gr (gset5_ _ _ _ _ _ _ _) (Nat.le_refl _)) (.slice A l.length cap) rfl ?_
      refine FS.mono ((FS.of R0.out.own).kept (gset5_ _ _ _ _ _ _ _) ?_) (by omega)
      right
      intro e
      have := (World.ownsRow.lt R0.out.own _ e).1
      omega
end Go.Proofs.YtfeeeoiojaffcaaGreatDoor
namespace Go.Proofs.YtfeeeoiojaffcaaGreatDoor
open Go.RowKit

theorem opB_str (tot : List UInt8) (x : Opt) : (⟨(tot ++ opB x).toArray⟩ : ByteArray) = ⟨tot.toArray⟩ ++ ⟨(enc 2 x.1).toArray⟩ ++ ⟨(enc 2 x.2.size).toArray⟩ ++ x.2 := by
  obtain ⟨n, s⟩ := x
  obtain ⟨⟨l⟩⟩ := s
  unfold opB
  rw [mk_append_list, mk_append_list, mk_append_list]
  simp

set_option maxRecDepth 100000 in
set_option maxHeartbeats 2000000 in
theorem rwrite6_any (sz e v f : Nat) (A : Option Addr) (ca : Nat) (l : List Opt) (w : World) (he : e < 256) (hv : v < 256) (hf : f < 65536) (ha : Ops w (.slice A l.length ca) l) (hl : l.length ≤ maxLen) (hc : ∀ o ∈ l, o.1 < 65536) :
    Calls Tryz.prog 33 #[.agg #[.int .u16 sz, .int .u8 e, .int .u8 v, .int .u16 f, .slice A l.length ca]] w fun e' w' => e' = .returned (ewR sz e v f l) ∧ w.grownBy w' none := by
  have HA := Lib.hid ha
  have HC := Lib.hid hc
  unfold maxLen at hl
  clear ha hc
  go_enter Tryz.func33, Tryz.ntmps33
  go_wp2_with fail
  go_loopw [6, 7] (fun s i wr => ∃ k : Nat, k ≤ l.length ∧ i = .int .i64 k ∧ s = .string ⟨(opsB (l.take k)).toArray⟩ ∧ (opsB (l.take k)).length ≤ 65535 ∧ w.grownBy wr none ∧ wr.heap[w.heap.size]? = some (.cells #[.int .u16 sz, .int .u8 e, .int .u8 v, .int .u16 f, .slice A l.length ca] 30 (0, 0))) (fun _ i _ => l.length - (intOf i).toNat)
  case atStart => exact ⟨0, by omega, rfl, rfl, by simp [opsB], galloc (grefl _ none) _, balloc1_0 _ _⟩
  case round =>
    obtain ⟨k, hk, rfl, rfl, ht, hg, hr⟩ := hrel
    have HG := Lib.hid hg
    have HR := Lib.hid hr
    have c4 : wr.cell? ⟨w.heap.size, 4, none⟩ = some (.slice A l.length ca) := bcellAt hr 4
    clear hg hr
    by_cases hlt : k < l.length
    · obtain ⟨b, off, rfl, l0, l1⟩ := (HA.out.kept HG.out).at rfl hlt
      have q0 : (0 : Int) ≤ (k : Int) := by omega
      have q1 : (k : Int) < (l.length : Int) := by omega
      have HL := Lib.hid (opsB_snoc_len l k hlt)
      have HB := Lib.hid (opsB_snoc l k hlt)
      have HM := Lib.hid (opsB_mem l k hlt)
      have HT := Lib.hid (opsB_take_le l (k + 1))
      have hx1 := HC.out l[k] (List.getElem_mem hlt)
      generalize l[k] = x at *
      generalize opsB (l.take k) = tot at *
      by_cases h1 : x.2.size ≤ 65535
      · have q2 : decide ((65535 : Int) < (x.2.size : Int)) = false := by simp; omega
        go_wp2_with fail
        have G3 := Lib.hid (galloc (grefl wr none) (.cells #[.int .u16 x.1, .string x.2] 72))
        have X3 := Lib.hid (balloc1_0 wr (.cells #[.int .u16 x.1, .string x.2] 72))
        generalize wr.alloc (.cells #[.int .u16 x.1, .string x.2] 72) = w3 at *
        have x0 : ∀ g : Gr w3, g.w.cell? ⟨wr.heap.size, 0, none⟩ = some (.int .u16 x.1) := Gr.cell (bcellAt X3.out 0)
        have x1 : ∀ g : Gr w3, g.w.cell? ⟨wr.heap.size, 1, none⟩ = some (.string x.2) := Gr.cell (bcellAt X3.out 1)
        have le1 := enc_len 2 x.1
        have le2 := enc_len 2 x.2.size
        have g1 : ¬ 9223372036854775807 < tot.length + (enc 2 x.1).length := by omega
        have g2 : ¬ 9223372036854775807 < tot.length + (enc 2 x.1).length + (enc 2 x.2.size).length := by omega
        have g3 : ¬ 9223372036854775807 < tot.length + (enc 2 x.1).length + (enc 2 x.2.size).length + x.2.size := by omega
        have w1 : IntKind.u64.wrap (x.1 : Int) = (x.1 : Int) := by rw [IntKind.wrap_u64]; omega
        have w2 : IntKind.u64.wrap (x.2.size : Int) = (x.2.size : Int) := by rw [IntKind.wrap_u64]; omega
        clear c4 le1 le2
        refine wp_region_noPanic ?_
        refine wp_region_gr (by kernel_rfl) (by kernel_rfl) ?_
        repeat (go_big_quiet_step (first | (go_at_call 31; exact Calls.gr (rput_any _ 2 (by omega) (by omega) _))))
        refine wpQuiet_nil ?_
        rintro _ ⟨gq, rfl⟩
        refine NoPanic.normal ?_
        have G4 := Lib.hid (gtrans G3.out gq.h)
        clear x0 x1 w1 w2 X3
        generalize gq.w = w4 at *
        have le1 := enc_len 2 x.1
        have le2 := enc_len 2 x.2.size
        by_cases h2 : tot.length + 4 + x.2.size ≤ 65535
        · have q3 : decide ((65535 : Int) < (tot.length : Int) + ((enc 2 x.1).length : Int) + ((enc 2 x.2.size).length : Int) + (x.2.size : Int)) = false := by simp; omega
          clear le1 le2
          go_wp2_with fail
          go_roundw
          case rel => exact ⟨k + 1, by omega, by go_num, by rw [HB.out, opB_str], by rw [HL.out]; exact h2, gtrans HG.out G4.out, gblock G4.out HR.out (by simp)⟩
          case measure => simp [intOf]; omega
        · have q3 : decide ((65535 : Int) < (tot.length : Int) + ((enc 2 x.1).length : Int) + ((enc 2 x.2.size).length : Int) + (x.2.size : Int)) = true := by simp; omega
          have HN := Lib.hid (show ¬ okO l by unfold okO; have := HL.out; have := HT.out; omega)
          clear le1 le2
          go_wp2_with fail
          refine bodyPost_ret (results_t4 rfl _ _) rfl ?_
          refine ⟨?_, gtrans HG.out G4.out⟩
          unfold ewR
          rw [if_neg HN.out]
          rfl
      · have q2 : decide ((65535 : Int) < (x.2.size : Int)) = true := by simp; omega
        have HN := Lib.hid (show ¬ okO l by unfold okO; have := HM.out; omega)
        go_wp2_with fail
        refine bodyPost_ret (results_t4 rfl _ _) rfl ?_
        refine ⟨?_, galloc HG.out _⟩
        unfold ewR
        rw [if_neg HN.out]
        rfl
    · obtain rfl : k = l.length := by omega
      rw [List.take_length] at *
      have HO := Lib.hid (show okO l from ht)
      have d0 : wr.cell? ⟨w.heap.size, 0, none⟩ = some (.int .u16 sz) := bcellAt HR.out 0
      have d1 : wr.cell? ⟨w.heap.size, 1, none⟩ = some (.int .u8 e) := bcellAt HR.out 1
      have d2 : wr.cell? ⟨w.heap.size, 2, none⟩ = some (.int .u8 v) := bcellAt HR.out 2
      have d3 : wr.cell? ⟨w.heap.size, 3, none⟩ = some (.int .u16 f) := bcellAt HR.out 3
      go_wp2_with fail
      go_quiet (fail)
      go_wp2_with fail
      refine bodyPost_ret (results_t4 rfl _ _) rfl ?_
      refine ⟨?_, gdrewN HG.out _⟩
      unfold ewR
      rw [if_pos HO.out]
      rfl
end Go.Proofs.YtfeeeoiojaffcaaGreatDoor
