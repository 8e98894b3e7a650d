/-
  hustingslaw02.CursorApart is true: its walk.
-/
import Derived.Test.YtndkgogohlikiaaDoorAwake02
import Derived.Test.YtndkgogohlikiaaDoorCurG
import Derived.Lib.BufferWrite
namespace Go.Proofs.YtndkgogohlikiaaDoor
open Go.RowKit Go.BigFrame

theorem SlB.cut {w : World} {A : Option Addr} {cap : Nat} {l r : List UInt8} (h : SlB w (.slice A (l ++ r).length cap) (l ++ r)) : SlB w (.slice A l.length cap) l := by
  obtain ⟨A', cap', e, h1, h2, h3⟩ := h
  obtain ⟨rfl, _, rfl⟩ : A = A' ∧ True ∧ cap = cap' := by injection e with e1 _ e3; exact ⟨e1, trivial, e3⟩
  refine ⟨A, cap, rfl, by simp at h1; omega, fun e => ?_, fun ad had j u hu => h3 ad had j u ?_⟩
  · have := h2 e
    simp at this
    exact ⟨by simp [this.1.1], this.2⟩
  · rw [bv_append, List.getElem?_append_left (List.getElem?_eq_some_iff.1 hu).1]
    exact hu
theorem copied {w : World} {g : Nat} {cur : Array Value} {t : TypeId} (hg : w.heap[g]? = some (.cells cur t (0, 0))) (cs : Array Value) : (w.setRow g cs).heap[g]? = some (.cells cs t (0, 0)) := by
  simp [World.setRow, Array.getElem?_modify, hg]
theorem gsetRow {a w : World} {row : Option Nat} (h : a.grownBy w row) {g : Nat} (hp : row = some g ∨ a.heap.size ≤ g) (cs : Array Value) : a.grownBy (w.setRow g cs) row :=
  ⟨h.os, h.tape, h.output, by simpa [World.setRow] using h.size, fun i hi hne => by
    have : i ≠ g := by
      rintro rfl
      rcases hp with hp | hp
      · exact hne hp.symm
      · omega
    rw [← h.block i hi hne]
    simp only [World.setRow, Array.getElem?_modify]
    rw [if_neg (Ne.symm this)]⟩
theorem sl_block {w : World} {g cap : Nat} {cs : Array Value} {t : TypeId} {z : Nat × Nat} {l : List UInt8} {r : List Value} (hg : w.heap[g]? = some (.cells cs t z)) (h : cs.toList = bv l ++ r) (hc : l.length ≤ cap) : SlB w (.slice (some ⟨g, 0, none⟩) l.length cap) l := by
  refine ⟨_, _, rfl, hc, by simp, ?_⟩
  intro ad had j u hu
  obtain rfl := Option.some.inj had
  rw [Addr.add_lit, bcellAt hg, ← Array.getElem?_toList, h]
  simp only [Nat.zero_add]
  rw [List.getElem?_append_left (List.getElem?_eq_some_iff.1 hu).1]
  exact hu
theorem own_cells {w : World} {base g n cap : Nat} {l : List UInt8} (h : Own w base (.slice (some ⟨g, 0, none⟩) n cap) l) : base ≤ g ∧ g < w.heap.size ∧ n = l.length ∧ ∃ cur, w.heap[g]? = some (.cells cur 5 (0, 0)) ∧ l.length ≤ cur.size := by
  rcases h.2 with ⟨e, _⟩ | ⟨g', cap', cur, e, hb, hg, hc, _, hs, _⟩
  · cases e
  · injection e with e1 e2 e3
    have e1' : g = g' := by simpa using e1
    subst e1'
    exact ⟨hb, blt hg, e2, cur, hg, by omega⟩

theorem copy_made (w0 : World) (s : ByteArray) (r : Nat) : ∃ W2, (Builtin.copy_ #[39, 9] 3 #[.slice (some ⟨w0.heap.size, 0, none⟩) s.size (s.size + r), .string s]).run Tryd.prog (w0.alloc (.cells (madeCells #[.int .u8 0] (s.size + r)) 5)) = .ok (goInt s.size) W2 ∧ SlB W2 (.slice (some ⟨w0.heap.size, 0, none⟩) s.size (s.size + r)) s.data.toList ∧ w0.grownBy W2 none ∧ w0.heap.size < W2.heap.size := by
  obtain ⟨i0, hi, hz0, hz1, hz2⟩ := info_parts Tryd.infoByte
  have hblk := balloc w0 (.cells (madeCells #[.int .u8 0] (s.size + r)) 5)
  have h := Lib.run_copy_row_string (P := Tryd.prog) (w0.alloc (.cells (madeCells #[.int .u8 0] (s.size + r)) 5)) 39 9 3 5 w0.heap.size 0 s.size (s.size + r) s _ _ Tryd.underlying39 (by rw [hi]; simp [hz1]) hblk (Nat.le_refl _) (by rw [size_madeCells]; omega)
  refine ⟨_, h, ?_, gsetRow (galloc (grefl _ _) _) (.inr (Nat.le_refl _)) _, by simp [World.setRow]⟩
  have hsz : s.data.toList.length = s.size := by simp
  have h2 := sl_block (cap := s.size + r) (l := s.data.toList) (r := (madeCells #[.int .u8 0] (s.size + r)).toList.drop (0 + s.size)) (copied hblk ((madeCells #[.int .u8 0] (s.size + r)).toList.take 0 ++ Lib.byteCells s.data.toList ++ (madeCells #[.int .u8 0] (s.size + r)).toList.drop (0 + s.size)).toArray) (by simp [Lib.byteCells, bv]) (by rw [hsz]; omega)
  rw [hsz] at h2
  exact h2

set_option maxRecDepth 100000 in
theorem apart_big (s : ByteArray) (x1 x2 x3 : Int) (w : World) (he : Et w) (hs : 10000 < s.size) : Calls Tryd.prog 5 #[.string s, .int .i64 x1, .int .u32 x2, .int .u32 x3] w fun e w' => e = .returned (.bool true) ∧ w.grownBy w' none := by
  have hb : decide ((10000 : Int) < (s.size : Int)) = true := by simp; omega
  go_enter Tryd.func5, Tryd.ntmps5
  go_wp2_with fail
  refine (awake_any w he).mono ?_
  rintro e w1 ⟨rfl, hg⟩
  go_wp2_with fail
  go_ret
  exact ⟨rfl, hg⟩

set_option maxRecDepth 100000 in
set_option maxHeartbeats 4000000 in
theorem apart_small (s : ByteArray) (x1 : Int) (r x y : Nat) (w : World) (he : Et w) (hs : s.size ≤ 10000) (hr : wrap64 ((IntKind.u64.wrap x1).tmod 20) = r) (hr20 : r < 20) (hx : x < 4294967296) (hy : y < 4294967296) : Calls Tryd.prog 5 #[.string s, .int .i64 x1, .int .u32 x, .int .u32 y] w fun e w' => e = .returned (.bool true) ∧ w.grownBy w' none := by
  have hb : decide ((10000 : Int) < (s.size : Int)) = false := by simp; omega
  obtain ⟨i0, hi, hz0, hz1, hz2⟩ := info_parts Tryd.infoByte
  have HMK := Lib.hid (fun W : World => run_make (P := Tryd.prog) W 39 5 i0 (.int .u8 0) Tryd.underlying39 hi hz0 .i64 .i64 (s.size : Int) ((s.size : Int) + (r : Int)) (by omega) (by omega) (by rw [hz2]; omega) (by omega))
  have HE := Lib.hid he
  have HR := Lib.hid hr
  clear he hr
  go_enter Tryd.func5, Tryd.ntmps5
  go_wp2_with fail
  refine (awake_any w HE.out).mono ?_
  rintro e w0 ⟨rfl, hg⟩
  have HG0 := Lib.hid hg
  clear hg
  have hmk : (Instr.makeSlice 39 (.int .i64 (s.size : Int)) (.int .i64 ((s.size : Int) + (r : Int)))).run Tryd.prog w0 = .ok (.slice (some ⟨w0.heap.size, 0, none⟩) s.size (s.size + r)) (w0.alloc (.cells (madeCells #[.int .u8 0] (s.size + r)) 5)) := by
    have := HMK.out w0
    rw [hz1, Nat.mul_one, show ((s.size : Int) + (r : Int)).toNat = s.size + r by omega, Int.toNat_natCast] at this
    exact this
  have hq := HR.out
  obtain ⟨W2, hcp, hB2, hW2, hb0l'⟩ := copy_made w0 s r
  have HB := Lib.hid hB2
  have HW2 := Lib.hid (gtrans HG0.out hW2)
  clear hB2 hW2
  have HL := Lib.hid (show s.data.toList.length = s.size by simp)
  clear HG0
  go_wp2_with fail
  clear hcp hmk hq
  have hb0l : w0.heap.size < W2.heap.size := hb0l'
  generalize hw0 : w0.heap.size = b0 at *
  clear hw0
  have hb0 : b0 < W2.heap.size := hb0l
  have hws : w.heap.size ≤ W2.heap.size := HW2.out.size
  clear hb0l HMK HR i0 hi hz0 hz1 hz2
  generalize hl : s.data.toList = l at *
  have HS := Lib.hid hl
  clear hl
  refine (put4_any W2 _ l x hx HB.out (by rw [HL.out]; omega)).mono ?_
  rintro e w3 ⟨rfl, ho, hg⟩
  rw [HL.out] at ho
  rw [HL.out]
  have hzp : W2.heap.size < W2.heap.size + 1 := by omega
  generalize W2.heap.size + 1 = bp at *
  have HOp := Lib.hid ho
  have hyp : bp < w3.heap.size := (own_cells ho).2.1
  have HKw3 := Lib.hid (hg)
  have hszw3 : W2.heap.size ≤ w3.heap.size := hg.size
  clear ho hg
  go_wp2_with fail
  refine (put4_any w3 _ l y hy (HB.out.kept0 HKw3.out) (by rw [HL.out]; omega)).mono ?_
  rintro e w4 ⟨rfl, ho, hg⟩
  rw [HL.out] at ho
  rw [HL.out]
  have hzq : w3.heap.size < w3.heap.size + 1 := by omega
  generalize w3.heap.size + 1 = bq at *
  have HOq := Lib.hid ho
  have hyq : bq < w4.heap.size := (own_cells ho).2.1
  have HKw4 := Lib.hid (gtrans HKw3.out hg)
  have hszw4 : w3.heap.size ≤ w4.heap.size := hg.size
  have HOpw4 := Lib.hid (HOp.out.kept hg (.inl rfl))
  clear HOp
  clear ho hg
  go_wp2_with fail
  refine (put1_any w4 _ l 7 (by omega) (HB.out.kept0 HKw4.out) (by rw [HL.out]; omega)).mono ?_
  rintro e w5 ⟨rfl, ho, hg⟩
  rw [HL.out] at ho
  rw [HL.out]
  have hzu : w4.heap.size < w4.heap.size + 1 := by omega
  generalize w4.heap.size + 1 = bu at *
  have HOu := Lib.hid ho
  have hyu : bu < w5.heap.size := (own_cells ho).2.1
  have HKw5 := Lib.hid (gtrans HKw4.out hg)
  have hszw5 : w4.heap.size ≤ w5.heap.size := hg.size
  have HOpw5 := Lib.hid (HOpw4.out.kept hg (.inl rfl))
  have HOqw5 := Lib.hid (HOq.out.kept hg (.inl rfl))
  clear HOpw4 HOq
  clear ho hg
  go_wp2_with fail
  refine (put2_any w5 _ l 9 (by omega) (HB.out.kept0 HKw5.out) (by rw [HL.out]; omega)).mono ?_
  rintro e w6 ⟨rfl, ho, hg⟩
  rw [HL.out] at ho
  rw [HL.out]
  have hzv : w5.heap.size < w5.heap.size + 1 := by omega
  generalize w5.heap.size + 1 = bv' at *
  have HOv := Lib.hid ho
  have hyv : bv' < w6.heap.size := (own_cells ho).2.1
  have HKw6 := Lib.hid (gtrans HKw5.out hg)
  have hszw6 : w5.heap.size ≤ w6.heap.size := hg.size
  have HOpw6 := Lib.hid (HOpw5.out.kept hg (.inl rfl))
  have HOqw6 := Lib.hid (HOqw5.out.kept hg (.inl rfl))
  have HOuw6 := Lib.hid (HOu.out.kept hg (.inl rfl))
  clear HOpw5 HOqw5 HOu
  clear ho hg
  clear HKw3 HKw4 HKw5
  have hcq := run_string_of (P := Tryd.prog) w6 39 9 5 Tryd.underlying39 Tryd.underlying5 Tryd.underlying9 HOqw6.out.sl
  have HW6 := Lib.hid (gtrans HW2.out HKw6.out)
  have HB6 := Lib.hid (HB.out.kept0 HKw6.out)
  obtain ⟨_, _, heq, curp, hcp, hszp⟩ := own_cells HOpw6.out
  clear heq
  have HCP := Lib.hid hcp
  have hle4 : (l ++ enc 4 x).length = s.size + 4 := by rw [List.length_append, enc_len, HL.out]
  rw [hle4] at hszp
  clear hle4 hcp HB HW2 HKw6
  go_wp2_with fail
  go_loopw [15] (fun i wr => ∃ (k : Nat) (cur : Array Value), k ≤ s.size + 4 ∧ i = .int .i64 k ∧ w6.grownBy wr (some bp) ∧ wr.heap[bp]? = some (.cells cur 5 (0, 0)) ∧ s.size + 4 ≤ cur.size) (fun i _ => s.size + 4 - (intOf i).toNat)
  case atStart => exact ⟨0, curp, by omega, rfl, grefl _ _, HCP.out, hszp⟩
  case round =>
    obtain ⟨k, cur, hk, rfl, hgr, hcur, hsz⟩ := hrel
    clear hcq
    by_cases hklt : k < s.size + 4
    · have c0 : wr.cell? ⟨bp, k, none⟩ = some cur[k] := by rw [bcellAt hcur, Array.getElem?_eq_getElem (by omega)]
      have f0 : wr.frozen? ⟨bp, k, none⟩ = false := bfree hcur k
      have q1 : (0 : Int) ≤ (k : Int) := by omega
      have q2 : (k : Int) < ((s.size + 4 : Nat) : Int) := by omega
      have HCU := Lib.hid hcur
      have HGR := Lib.hid hgr
      clear hcur hgr
      go_wp2
      go_roundw
      case rel => exact ⟨k + 1, _, by omega, by go_num, gset HGR.out (.inl rfl) _, bset HCU.out k _, by simp; omega⟩
      case measure => simp [intOf]; omega
    · have HCU := Lib.hid hcur
      have HGR := Lib.hid hgr
      clear hcur hgr
      obtain ⟨_, _, heq, curu, hcu, hszu⟩ := own_cells HOuw6.out
      have hszu' : s.size + 1 ≤ curu.size := by rw [heq]; exact hszu
      clear heq hszu
      have hcu2 := gblock HGR.out hcu (by simp; omega)
      have c0 : wr.cell? ⟨bu, s.size, none⟩ = some curu[s.size] := by rw [bcellAt hcu2, Array.getElem?_eq_getElem (by omega)]
      have f0 : wr.frozen? ⟨bu, s.size, none⟩ = false := bfree hcu2 _
      clear hcu hcu2
      go_wp2
      have HGE := Lib.hid (gset (grefl wr (some bu)) (p := ⟨bu, s.size, none⟩) (.inl rfl) (.int .u8 98))
      have keep : ∀ (v : Value) (lst : List UInt8), SlB w6 v lst → v.ownBlock ≠ some bp → v.ownBlock ≠ some bu → SlB (wr.setCell ⟨bu, s.size, none⟩ (.int .u8 98)) v lst := fun v lst h h1 h2 =>
        (h.kept HGR.out (fun b e => .inr (by cases e; exact h1))).kept HGE.out (fun b e => .inr (by cases e; exact h2))
      have sb := keep _ _ HB6.out (by simp [Value.ownBlock]; omega) (by simp [Value.ownBlock]; omega)
      have sq := keep _ _ HOqw6.out.sl (by simp [Value.ownBlock]; omega) (by simp [Value.ownBlock]; omega)
      have sv := keep _ _ HOv.out.sl (by simp [Value.ownBlock]; omega) (by simp [Value.ownBlock]; omega)
      have HWE := Lib.hid (show w.grownBy (wr.setCell ⟨bu, s.size, none⟩ (.int .u8 98)) none from gnew (gset (gnew (gtrans (gmono HW6.out) HGR.out) (fun b e => by cases e; omega)) (row := none) (.inr (by show w.heap.size ≤ bu; omega)) _) (fun b e => by cases e))
      have hmk : (⟨l.toArray⟩ : ByteArray) = s := by rw [← HS.out]
      have sv' : SlB (wr.setCell ⟨bu, s.size, none⟩ (.int .u8 98)) (.slice (some ⟨bv', 0, none⟩) s.size (s.size + 2)) l := by
        have h2 : s.size + 2 = (l ++ enc 2 9).length := by rw [List.length_append, enc_len, HL.out]
        have h3 : SlB (wr.setCell ⟨bu, s.size, none⟩ (.int .u8 98)) (.slice (some ⟨bv', 0, none⟩) (l ++ enc 2 9).length (s.size + 2)) (l ++ enc 2 9) := by rw [← h2]; exact sv
        have h4 := SlB.cut h3
        rwa [HL.out] at h4
      have q0 : 0 < s.size → (wr.setCell ⟨bu, s.size, none⟩ (.int .u8 98)).cell? ⟨bq, 0, none⟩ = some (.int .u8 ((s[0]?.getD 0).toNat : Nat)) := by
        intro h0
        obtain ⟨A', c', e, _, _, h3⟩ := sq
        have e1 : some ⟨bq, 0, none⟩ = A' := by injection e
        have h4 := h3 _ e1.symm 0 (.int .u8 ((s[0]?.getD 0).toNat : Nat)) (by
          have hl0 : 0 < l.length := by rw [HL.out]; exact h0
          have hls : l[0] = s[0]?.getD 0 := by
            have : s[0]? = some l[0] := by
              simp only [← HS.out]
              simp [h0]
              rfl
            rw [this]; rfl
          rw [bv_append, List.getElem?_append_left (by rw [bv_len]; exact hl0), bv_get l 0 hl0, hls])
        simpa [Addr.add] using h4
      generalize wr.setCell ⟨bu, s.size, none⟩ (.int .u8 98) = WE at *
      have hcb : ∀ g : Gr WE, _ := fun g => run_string_of (P := Tryd.prog) g.w 39 9 5 Tryd.underlying39 Tryd.underlying5 Tryd.underlying9 (sb.kept0 g.h)
      have hcq : ∀ g : Gr WE, _ := fun g => run_string_of (P := Tryd.prog) g.w 39 9 5 Tryd.underlying39 Tryd.underlying5 Tryd.underlying9 (sq.kept0 g.h)
      have hcv : ∀ g : Gr WE, _ := fun g => run_string_of (P := Tryd.prog) g.w 39 9 5 Tryd.underlying39 Tryd.underlying5 Tryd.underlying9 (sv'.kept0 g.h)
      rw [hmk] at hcb hcv
      clear sb sq sv sv' keep hmk c0 f0
      by_cases h0 : s.size = 0
      · have z0 : ((s.size : Int) == 0) = true := by rw [beq_iff_eq]; omega
        clear q0 h0
        refine wp_region_noPanic ?_
        refine wp_region_gr (by kernel_rfl) (by kernel_rfl) ?_
        repeat (go_big_quiet_step (fail))
        refine wpQuiet_nil ?_
        rintro _ ⟨g, rfl⟩
        refine NoPanic.normal ?_
        go_wp2
        go_ret
        exact ⟨rfl, gtrans HWE.out g.h⟩
      · have z0 : ((s.size : Int) == 0) = false := beq_eq_false_iff_ne.2 (by omega)
        have z1 : 0 < s.size := by omega
        have z2 : (0 : Int) < (s.size : Int) := by omega
        have z3 : (0 : Int) < ((s.size + 4 : Nat) : Int) := by omega
        have hq0 : ∀ g : Gr WE, g.w.cell? ⟨bq, 0, none⟩ = some (.int .u8 ((s[0]?.getD 0).toNat : Nat)) := Gr.cell (q0 z1)
        clear q0 h0
        refine wp_region_noPanic ?_
        refine wp_region_gr (by kernel_rfl) (by kernel_rfl) ?_
        repeat (go_big_quiet_step (fail))
        refine wpQuiet_nil ?_
        rintro _ ⟨g, rfl⟩
        refine NoPanic.normal ?_
        go_wp2
        go_ret
        exact ⟨rfl, gtrans HWE.out g.h⟩

theorem apart_walk (s : ByteArray) (x1 : Int) (x y : Nat) (w : World) (he : Et w) (hx : x < 4294967296) (hy : y < 4294967296) : Calls Tryd.prog 5 #[.string s, .int .i64 x1, .int .u32 x, .int .u32 y] w fun e w' => e = .returned (.bool true) ∧ w.grownBy w' none := by
  by_cases h : 10000 < s.size
  · exact apart_big s x1 x y w he h
  · obtain ⟨r, hr, hr20⟩ := umod x1 20 (by omega) (by omega)
    exact apart_small s x1 r x y w he (by omega) hr hr20 hx hy
end Go.Proofs.YtndkgogohlikiaaDoor
