/-
  The document's Read.
-/
import Derived.Test.YtklkigpdahaahaaDoorHd03g
namespace Go.Proofs.YtklkigpdahaahaaDoor
open Go.RowKit

theorem rread_short (s : ByteArray) (w : World) (h : s.size < 12) : Calls Tryd.prog 10 #[.string s] w fun e w' => e = .returned (.tuple #[hd0.v, cv 0 0 0 0, .int .i64 4]) ∧ w.grownBy w' none := by
  have g1 : ((s.size : Nat) : Int) < 12 := by omega
  go_enter Tryd.func10, Tryd.ntmps10
  go_wp2
  refine bodyPost_ret (results_ccr rfl _ _ w.heap.size (w.heap.size + 1) _ _ _ _ _ _ _ _ rfl (heap_alloc2_old w _ _) Tryd.underlying24 rfl (by kernel_rfl) rfl (heap_alloc2_new w _ _) Tryd.underlying25 rfl (by kernel_rfl)) rfl ?_
  exact ⟨rfl, galloc (galloc (grefl _ none) _) _⟩

set_option maxHeartbeats 4000000 in
set_option maxRecDepth 100000 in
theorem rread_ok (s : ByteArray) (w : World) (h : 12 ≤ s.size) (hs : s.size ≤ maxLen) : Calls Tryd.prog 10 #[.string s] w fun e w' => e = .returned (.tuple #[(fromN (num s 0 2) (num s 2 2)).v, cv (num s 4 2) (num s 6 2) (num s 8 2) (num s 10 2), .int .i64 0]) ∧ w.grownBy w' none := by
  have g1 : ¬ ((s.size : Nat) : Int) < 12 := by omega
  have n0 := num_lt s 0 2
  have n1 := num_lt s 2 2
  go_enter Tryd.func10, Tryd.ntmps10
  go_wp2_with fail
  refine Calls.mono (refnum_ok s 2 _ (by omega) hs) ?_
  rintro e w1 ⟨rfl, hg⟩
  have R1 := Lib.hid (gblock hg (heap_alloc2_old w _ _) (by simp))
  have R2 := Lib.hid (gblock hg (heap_alloc2_new w _ _) (by simp))
  have G1 := Lib.hid (gfrom2 hg)
  clear hg
  go_wp2_with fail
  refine Calls.mono (rfrom_any (num s 2 2) n1 w1) ?_
  rintro e w2 ⟨rfl, hg⟩
  have HLT := Lib.hid (show w.heap.size + 2 ≤ w2.heap.size from Nat.succ_le_of_lt (blt (gblock hg R2.out (by simp))))
  have G2 := Lib.hid (gtrans G1.out hg)
  have R12 := Lib.hid (gblock hg R1.out (by simp))
  have R22 := Lib.hid (gblock hg R2.out (by simp))
  clear hg G1 R1 R2
  obtain ⟨H, hH⟩ : ∃ H, H = fromN 0 (num s 2 2) := ⟨_, rfl⟩
  rw [← hH]
  have HH := Lib.hid hH
  clear hH
  simp only [Hd.v]
  go_wp2_with fail
  refine Calls.mono (refnum_ok s 0 _ (by omega) hs) ?_
  rintro e w3 ⟨rfl, hg⟩
  have G3 := Lib.hid (gtrans G2.out (gfrom1 hg))
  have R13 := Lib.hid (gblock (gfrom1 hg) R12.out (by simp))
  have R23 := Lib.hid (gblock (gfrom1 hg) R22.out (by simp))
  have H3 := Lib.hid (gblock hg (balloc w2 _) (by simp))
  have c0 := bcellAt H3.out 0
  have f0 := bfree H3.out 0
  simp only [List.getElem?_toArray, List.getElem?_cons_zero] at c0
  clear hg G2 R12 R22
  go_wp2_with fail
  have hlt1 : w.heap.size + 2 ≤ w2.heap.size := HLT.out
  have oth : ∀ k, k ≠ w2.heap.size → (w3.setCell ⟨w2.heap.size, 0, none⟩ (.int .u16 (num s 0 2))).heap[k]? = w3.heap[k]? := fun k hk => heap_setCell_other w3 ⟨w2.heap.size, 0, none⟩ k _ hk
  have H4 := Lib.hid (bset H3.out 0 (.int .u16 (num s 0 2)))
  have R14 := Lib.hid ((oth _ (by omega)).trans R13.out)
  have R24 := Lib.hid ((oth _ (by omega)).trans R23.out)
  have G4 := Lib.hid (show w.grownBy (w3.setCell ⟨w2.heap.size, 0, none⟩ (.int .u16 (num s 0 2))) none from ⟨G3.out.os, G3.out.tape, G3.out.output, by simpa using G3.out.size, fun k hk hn => (oth k (by omega)).trans (G3.out.block k hk hn)⟩)
  clear oth c0 f0 H3 R13 R23 G3
  refine wp_region_held_drew (S := fun w' => w'.heap[w2.heap.size]? = some (.cells #[.int .u16 (num s 0 2), .bool H.qr, .int .u8 H.op, .bool H.aa, .bool H.tc, .bool H.rd, .bool H.ra, .bool H.z, .bool H.ad, .bool H.cd, .int .u8 H.code] 24 (0, 0))) (by kernel_rfl) H4.out (fun hHeld => ?_)
  refine wpAnyH_take (i := 0) (oi := { dst := some 19, op := .load 24 (.tmp 5), type := 24, pos := "ref.go:40", after := #[], guard := none }) (v := .agg #[.int .u16 (num s 0 2), .bool H.qr, .int .u8 H.op, .bool H.aa, .bool H.tc, .bool H.rd, .bool H.ra, .bool H.z, .bool H.ad, .bool H.cd, .int .u8 H.code]) rfl (by kernel_rfl) (by kernel_rfl) (by kernel_rfl) (fun _ _ _ h => h) (yieldsIf_load_row (by rfl) _ _ rfl w2.heap.size rfl _ _ _ _ (fun w h => h) Tryd.underlying24 rfl (by kernel_rfl)) hHeld ?_
  simp only [Act.put, List.setIfInBounds_toArray, List.set_cons_zero, List.set_cons_succ]
  refine wpAnyH_take (i := 1) (oi := { dst := some 20, op := .move (.tmp 0), type := 9, pos := "ref.go:40", after := #[], guard := none }) (v := .string s) rfl (by kernel_rfl) (by kernel_rfl) (by kernel_rfl) (fun _ _ _ h => h) (Or.inl ⟨by rfl, fun _ _ => rfl⟩) hHeld ?_
  simp only [Act.put, List.setIfInBounds_toArray, List.set_cons_zero, List.set_cons_succ]
  refine wpAnyH_take (i := 3) (oi := { dst := some 22, op := .move (.tmp 0), type := 9, pos := "ref.go:40", after := #[], guard := none }) (v := .string s) rfl (by kernel_rfl) (by kernel_rfl) (by kernel_rfl) (fun _ _ _ h => h) (Or.inl ⟨by rfl, fun _ _ => rfl⟩) hHeld ?_
  simp only [Act.put, List.setIfInBounds_toArray, List.set_cons_zero, List.set_cons_succ]
  refine wpAnyH_take (i := 5) (oi := { dst := some 24, op := .move (.tmp 0), type := 9, pos := "ref.go:40", after := #[], guard := none }) (v := .string s) rfl (by kernel_rfl) (by kernel_rfl) (by kernel_rfl) (fun _ _ _ h => h) (Or.inl ⟨by rfl, fun _ _ => rfl⟩) hHeld ?_
  simp only [Act.put, List.setIfInBounds_toArray, List.set_cons_zero, List.set_cons_succ]
  refine wpAnyH_take (i := 7) (oi := { dst := some 26, op := .move (.tmp 0), type := 9, pos := "ref.go:40", after := #[], guard := none }) (v := .string s) rfl (by kernel_rfl) (by kernel_rfl) (by kernel_rfl) (fun _ _ _ h => h) (Or.inl ⟨by rfl, fun _ _ => rfl⟩) hHeld ?_
  simp only [Act.put, List.setIfInBounds_toArray, List.set_cons_zero, List.set_cons_succ]
  refine wpAnyH_ready (rs := [2]) (by kernel_rfl) (by simp) ?_
  refine AllReadyH.cons (o := { dst := some 21, op := .call { callee := .value (.func 21), args := #[.tmp 20, .const (.int .i64 4)], argTypes := #[9, 3] }, type := 3, pos := "ref.go:40", after := #[{ on := 1, ground := .data }], guard := none }) rfl (fun K hK => ?_) AllReadyH.nil
  go_simp
  refine Calls.mono (refnum_ok s 4 _ (by omega) hs) ?_
  rintro e v0 ⟨rfl, hg⟩
  go_wp2_with fail
  have Ga0 := Lib.hid (gtrans (gdrew G4.out) hg)
  have Ra0 := Lib.hid (gblock hg R14.out (by simp))
  have Rb0 := Lib.hid (gblock hg R24.out (by simp))
  refine hK.out _ _ (gblock hg hHeld (by simp)) (fun hHeld0 => ?_)
  clear hK K hg
  refine wpAnyH_ready (rs := [4]) (by kernel_rfl) (by simp) ?_
  refine AllReadyH.cons (o := { dst := some 23, op := .call { callee := .value (.func 21), args := #[.tmp 22, .const (.int .i64 6)], argTypes := #[9, 3] }, type := 3, pos := "ref.go:40", after := #[{ on := 3, ground := .data }, { on := 2, ground := .chain }], guard := none }) rfl (fun K hK => ?_) AllReadyH.nil
  go_simp
  refine Calls.mono (refnum_ok s 6 _ (by omega) hs) ?_
  rintro e v1 ⟨rfl, hg⟩
  go_wp2_with fail
  have Ga1 := Lib.hid (gtrans Ga0.out hg)
  have Ra1 := Lib.hid (gblock hg Ra0.out (by simp))
  have Rb1 := Lib.hid (gblock hg Rb0.out (by simp))
  refine hK.out _ _ (gblock hg hHeld0 (by simp)) (fun hHeld1 => ?_)
  clear hK K hg
  refine wpAnyH_ready (rs := [6]) (by kernel_rfl) (by simp) ?_
  refine AllReadyH.cons (o := { dst := some 25, op := .call { callee := .value (.func 21), args := #[.tmp 24, .const (.int .i64 8)], argTypes := #[9, 3] }, type := 3, pos := "ref.go:40", after := #[{ on := 5, ground := .data }, { on := 4, ground := .chain }], guard := none }) rfl (fun K hK => ?_) AllReadyH.nil
  go_simp
  refine Calls.mono (refnum_ok s 8 _ (by omega) hs) ?_
  rintro e v2 ⟨rfl, hg⟩
  go_wp2_with fail
  have Ga2 := Lib.hid (gtrans Ga1.out hg)
  have Ra2 := Lib.hid (gblock hg Ra1.out (by simp))
  have Rb2 := Lib.hid (gblock hg Rb1.out (by simp))
  refine hK.out _ _ (gblock hg hHeld1 (by simp)) (fun hHeld2 => ?_)
  clear hK K hg
  refine wpAnyH_ready (rs := [8]) (by kernel_rfl) (by simp) ?_
  refine AllReadyH.cons (o := { dst := some 27, op := .call { callee := .value (.func 21), args := #[.tmp 26, .const (.int .i64 10)], argTypes := #[9, 3] }, type := 3, pos := "ref.go:40", after := #[{ on := 7, ground := .data }, { on := 6, ground := .chain }], guard := none }) rfl (fun K hK => ?_) AllReadyH.nil
  go_simp
  refine Calls.mono (refnum_ok s 10 _ (by omega) hs) ?_
  rintro e v3 ⟨rfl, hg⟩
  go_wp2_with fail
  have Ga3 := Lib.hid (gtrans Ga2.out hg)
  have Ra3 := Lib.hid (gblock hg Ra2.out (by simp))
  have Rb3 := Lib.hid (gblock hg Rb2.out (by simp))
  refine hK.out _ _ (gblock hg hHeld2 (by simp)) (fun hHeld3 => ?_)
  clear hK K hg
  refine wpAnyH_take (i := 9) (oi := { dst := some 28, op := .build 25 #[(0, .tmp 21), (1, .tmp 23), (2, .tmp 25), (3, .tmp 27)], type := 25, pos := "ref.go:40", after := #[{ on := 2, ground := .data }, { on := 4, ground := .data }, { on := 6, ground := .data }, { on := 8, ground := .data }, { on := 10, ground := .gcOnly .lateStores }], guard := none }) (v := .agg #[.int .i64 (num s 4 2), .int .i64 (num s 6 2), .int .i64 (num s 8 2), .int .i64 (num s 10 2)]) rfl (by kernel_rfl) (by kernel_rfl) (by kernel_rfl) (fun _ _ _ h => h) (Or.inl ⟨by rfl, fun _ _ => by go_simp⟩) hHeld3 ?_
  simp only [Act.put, List.setIfInBounds_toArray, List.set_cons_zero, List.set_cons_succ]
  refine wpAnyH_ready (rs := [10]) (by kernel_rfl) (by simp) ?_
  refine AllReadyH.cons (o := { dst := none, op := .store 24 (.tmp 2) (.tmp 19), type := 0, pos := "ref.go:40", after := #[{ on := 0, ground := .data }, { on := 8, ground := .chain }, { on := 0, ground := .phase }, { on := 1, ground := .textOnly .lateStores }, { on := 2, ground := .textOnly .lateStoresUnsure }, { on := 3, ground := .textOnly .lateStores }, { on := 4, ground := .textOnly .lateStoresUnsure }, { on := 5, ground := .textOnly .lateStores }, { on := 6, ground := .textOnly .lateStoresUnsure }, { on := 7, ground := .textOnly .lateStores }, { on := 8, ground := .textOnly .lateStoresUnsure }, { on := 9, ground := .textOnly .lateStores }], guard := none }) rfl (fun K hK => ?_) AllReadyH.nil
  rw [if_pos (by rfl)]
  refine wp_store_row _ _ _ rfl w.heap.size #[.int .u16 (num s 0 2), .bool H.qr, .int .u8 H.op, .bool H.aa, .bool H.tc, .bool H.rd, .bool H.ra, .bool H.z, .bool H.ad, .bool H.cd, .int .u8 H.code] rfl rfl _ _ Ra3.out (by kernel_rfl) rfl (by simp [Value.oneCell']) ?_
  refine hK.out _ _ ((setRow_other _ _ _ _ (by omega)).trans hHeld3) (fun hHeld4 => ?_)
  clear hK K
  simp only [Act.put]
  refine wpAnyH_ready (rs := [11]) (by kernel_rfl) (by simp) ?_
  refine AllReadyH.cons (o := { dst := none, op := .store 25 (.tmp 3) (.tmp 28), type := 0, pos := "ref.go:40", after := #[{ on := 9, ground := .data }, { on := 10, ground := .chain }, { on := 0, ground := .phase }, { on := 1, ground := .phase }, { on := 2, ground := .phase }, { on := 3, ground := .phase }, { on := 4, ground := .phase }, { on := 5, ground := .phase }, { on := 6, ground := .phase }, { on := 7, ground := .phase }, { on := 8, ground := .phase }, { on := 9, ground := .phase }, { on := 10, ground := .phase }], guard := none }) rfl (fun K hK => ?_) AllReadyH.nil
  rw [if_pos (by rfl)]
  refine wp_store_row _ _ _ rfl (w.heap.size + 1) #[.int .i64 (num s 4 2), .int .i64 (num s 6 2), .int .i64 (num s 8 2), .int .i64 (num s 10 2)] rfl rfl _ _ ((setRow_other _ _ _ _ (by omega)).trans Rb3.out) (by kernel_rfl) rfl (by simp [Value.oneCell']) ?_
  refine hK.out _ _ ((setRow_other _ _ _ _ (by omega)).trans hHeld4) (fun hHeld5 => ?_)
  clear hK K
  simp only [Act.put]
  refine wpAnyH_ready (rs := [12]) (by kernel_rfl) (by simp) ?_
  refine AllReadyH.cons (o := { dst := some 4, op := .assign (.const (.int .i64 0)), type := 27, pos := "ref.go:40", after := #[{ on := 11, ground := .chain }, { on := 0, ground := .phase }, { on := 1, ground := .phase }, { on := 2, ground := .phase }, { on := 3, ground := .phase }, { on := 4, ground := .phase }, { on := 5, ground := .phase }, { on := 6, ground := .phase }, { on := 7, ground := .phase }, { on := 8, ground := .phase }, { on := 9, ground := .phase }, { on := 10, ground := .phase }, { on := 11, ground := .phase }], guard := none }) rfl (fun K hK => ?_) AllReadyH.nil
  go_simp
  refine hK.out _ _ hHeld5 (fun _ => ?_)
  clear hK K
  refine wpAnyH_done (by kernel_rfl) ?_ _
  go_wp2
  refine bodyPost_ret (results_ccr rfl _ _ w.heap.size (w.heap.size + 1) _ _ _ _ _ _ _ _ rfl ((setRow_other _ _ _ _ (by omega)).trans (bsetRow Ra3.out _)) Tryd.underlying24 rfl (by kernel_rfl) rfl (bsetRow ((setRow_other _ _ _ _ (by omega)).trans Rb3.out) _) Tryd.underlying25 rfl (by kernel_rfl)) rfl ?_
  refine ⟨?_, gsetRow (gsetRow Ga3.out (by omega) _) (by omega) _⟩
  have e := HH.out
  subst e
  rfl
end Go.Proofs.YtklkigpdahaahaaDoor
