/-
  CompLess.
-/
import Derived.Test.YtjjegmgjnfkblaaDoorCo04h
import Derived.Test.YtjjegmgjnfkblaaDoorCoIt
import Derived.Test.YtjjegmgjnfkblaaDoorCoPl
import Derived.Test.YtjjegmgjnfkblaaDoorRegB
import Derived.Test.YtjjegmgjnfkblaaDoorApp3
namespace Go.Proofs.YtjjegmgjnfkblaaDoor
open Go.RowKit

theorem TG.kb {w w' : World} {b B : Nat} {m : Option Nat} (h : TG w w' b m) (hB : B ≤ w.heap.size) (hb : B ≤ b) (hm : ∀ k, m = some k → B ≤ k) : KB B w w' :=
  ⟨h.os, h.tape, h.output, h.size, fun i hi => h.block i (by omega) (by omega) (fun e => by have := hm i e.symm; omega)⟩
theorem cell_lt {w : World} {b off : Nat} {v : Value} (h : w.cell? ⟨b, off, none⟩ = some v) : b < w.heap.size := World.block_lt_of_cell? w _ h
/-- What a statement over items holds at its loop's head: its table, its bytes. -/
structure Ls (w : World) (tb : Nat) (T : Tb) (v : Value) (bl : List UInt8) (i g : Nat) (wr : World) : Prop where
  gr : w.grownBy wr none
  tab : ∃ m, Tab wr tb m T ∧ ∀ k, m = some k → w.heap.size ≤ k
  lb : w.heap.size ≤ tb
  own : Own wr (tb + 1) v bl
  ok : TOk bl T
  few : T.length ≤ 255 * i
  len : bl.length ≤ g * i
theorem Ls.start {w w1 : World} {tb g : Nat} (hl : w.heap.size ≤ tb) (ht : Tab w1 tb none []) (hg : w.grownBy w1 none) : Ls w tb [] (.slice none 0 0) [] 0 g w1 :=
  ⟨hg, ⟨none, ht, fun _ e => by cases e⟩, hl, Own.nil _ _, TOk.nil _, by simp, by simp⟩
theorem Ls.quiet {w w1 w2 : World} {tb i g : Nat} {T : Tb} {v : Value} {bl : List UInt8} (h : Ls w tb T v bl i g w1) (k : w1.grownBy w2 none) : Ls w tb T v bl i g w2 := by
  obtain ⟨m, ht, hm⟩ := h.tab
  exact ⟨gtrans h.gr k, ⟨m, ht.kept0 k, hm⟩, h.lb, h.own.kept0 k, h.ok, h.few, h.len⟩
/-- Further bytes of 0. -/
theorem Ls.zeros {w w1 w2 : World} {tb i g z : Nat} {T : Tb} {v v' : Value} {bl : List UInt8} (h : Ls w tb T v bl i g w1) (k : w1.grownBy w2 v.ownBlock) (o : Own w2 (tb + 1) v' (bl ++ List.replicate z 0)) :
    w.grownBy w2 none ∧ (∃ m, Tab w2 tb m T ∧ ∀ k, m = some k → w.heap.size ≤ k) ∧ Own w2 (tb + 1) v' (bl ++ List.replicate z 0) ∧ TOk (bl ++ List.replicate z 0) T := by
  obtain ⟨m, ht, hm⟩ := h.tab
  refine ⟨gstep h.gr k (fun r e => by have := (h.own.block r e).1; have := h.lb; omega), ⟨m, ht.kept k ?_ ?_, hm⟩, o, h.ok.more _⟩
  · intro e; have := (h.own.block tb e).1; omega
  · cases hv : v.ownBlock with
    | none => exact .inl rfl
    | some b =>
      refine .inr fun e => ?_
      exact own_ne_map h.own (ht.some b e.symm).1 hv
/-- The same, ahead of Put. -/
structure Lz (w : World) (tb : Nat) (m : Option Nat) (T : Tb) (v : Value) (bl : List UInt8) (wr : World) : Prop where
  gr : w.grownBy wr none
  tab : Tab wr tb m T
  ms : ∀ k, m = some k → w.heap.size ≤ k
  lb : w.heap.size ≤ tb
  own : Own wr (tb + 1) v bl
  ok : TOk bl T
theorem Lz.quiet {w w1 w2 : World} {tb : Nat} {m : Option Nat} {T : Tb} {v : Value} {bl : List UInt8} (h : Lz w tb m T v bl w1) (k : w1.grownBy w2 none) : Lz w tb m T v bl w2 :=
  ⟨gtrans h.gr k, h.tab.kept0 k, h.ms, h.lb, h.own.kept0 k, h.ok⟩
/-- Behind Put: the table, what was put, and the bytes that were there. -/
structure Lp (w : World) (tb : Nat) (T : Tb) (v : Value) (bl : List UInt8) (v' : Value) (bl' : List UInt8) (wr : World) : Prop where
  gr : w.grownBy wr none
  tab : ∃ m, Tab wr tb m T ∧ ∀ k, m = some k → w.heap.size ≤ k
  lb : w.heap.size ≤ tb
  own : Own wr (tb + 1) v bl
  own' : Own wr (tb + 1) v' bl'
  ok : TOk bl' T
theorem Lp.quiet {w w1 w2 : World} {tb : Nat} {T : Tb} {v v' : Value} {bl bl' : List UInt8} (h : Lp w tb T v bl v' bl' w1) (k : w1.grownBy w2 none) : Lp w tb T v bl v' bl' w2 := by
  obtain ⟨m, ht, hm⟩ := h.tab
  exact ⟨gtrans h.gr k, ⟨m, ht.kept0 k, hm⟩, h.lb, h.own.kept0 k, h.own'.kept0 k, h.ok⟩
theorem Lz.put {w w1 w2 : World} {tb : Nat} {m : Option Nat} {T : Tb} {v : Value} {bl : List UInt8} {n : ByteArray} {cmp known : Bool} (h : Lz w tb m T v bl w1) (hn : may n = true) {v' : Value} {m' : Option Nat} (ho : Own w2 w1.heap.size v' (putF n cmp known 0 T bl).1) (ht : Tab w2 tb m' (putF n cmp known 0 T bl).2) (hg : TG w1 w2 tb m) (hms : ∀ i, m' = some i → m = some i ∨ w1.heap.size ≤ i) :
    Lp w tb (putF n cmp known 0 T bl).2 v bl v' (putF n cmp known 0 T bl).1 w2 ∧ KB w.heap.size w1 w2 := by
  have hb := blt h.tab.cell
  refine ⟨⟨TG.gr h.gr hg h.lb h.ms, ⟨m', ht, fun k e => ?_⟩, h.lb, h.own.keptT hg ?_ ?_, ho.base hb, (put_ok cmp known hn h.ok).2.2⟩, hg.kb h.gr.size h.lb h.ms⟩
  · rcases hms k e with h1 | h1
    · exact h.ms k h1
    · exact Nat.le_trans h.gr.size h1
  · intro e; have := (h.own.block tb e).1; omega
  · cases m with
    | none => exact .inl rfl
    | some k => exact .inr (own_ne_map h.own (h.tab.some k rfl).1)

theorem cvs {w : World} {v : Value} {l : List UInt8} (h : SlB w v l) : (convert 31 9 v).run Tryd.prog w = .ok (.string ⟨l.toArray⟩) w :=
  run_string_of (P := Tryd.prog) w 31 9 5 Tryd.underlying31 Tryd.underlying5 Tryd.underlying9 h
theorem SlB.front {w : World} {A : Option Addr} {n cap : Nat} {x y : List UInt8} (h : SlB w (.slice A n cap) (x ++ y)) (hA : A ≠ none) : SlB w (.slice A x.length cap) x := by
  obtain ⟨A', cap', e, h1, h2, h3⟩ := h
  simp only [Value.slice.injEq] at e
  obtain ⟨rfl, _, rfl⟩ := e
  refine ⟨A, cap, rfl, by simp at h1; omega, fun e => absurd e hA, fun ad had j u hu => h3 ad had j u ?_⟩
  rw [bv_append, List.getElem?_append_left (by have := (List.getElem?_eq_some_iff.1 hu).1; exact this)]
  exact hu
theorem Own.cellAt {w : World} {base n cap : Nat} {A : Option Addr} {l : List UInt8} (h : Own w base (.slice A n cap) l) (hl : 0 < l.length) : ∃ g, A = some ⟨g, 0, none⟩ ∧ base ≤ g ∧ ∀ j (hj : j < l.length), w.cell? ⟨g, j, none⟩ = some (.int .u8 l[j].toNat) := by
  rcases h.2 with ⟨_, h2⟩ | ⟨g, cap', cur, e, hb, hg, _, _, _, ht⟩
  · omega
  · simp only [Value.slice.injEq] at e
    obtain ⟨rfl, _, _⟩ := e
    refine ⟨g, rfl, hb, fun j hj => ?_⟩
    have := bv_get l j hj
    rw [bcellAt hg, ← Array.getElem?_toList]
    rw [← ht, List.getElem?_take_of_lt (by omega)] at this
    exact this

set_option maxRecDepth 100000 in
set_option maxHeartbeats 1000000 in
theorem less_small (v : Value) (l : List It) (w : World) (he : Et w) (h : Its w v l) (hl : l.length ≤ maxLen) (hs : ∀ x ∈ l, x.gap < 65536 ∧ x.name.size ≤ maxLen) (h8 : itSum l < 8000) : Calls Tryd.prog 5 #[v] w fun e w' => e = .returned (.bool true) ∧ w.grownBy w' none := by
  have HI := Lib.hid h
  have HE := Lib.hid he
  have hl4 : l.length ≤ 400 := by
    have := itSum_len l l.length (Nat.le_refl _)
    rw [List.take_length] at this
    omega
  obtain ⟨i0, hi, hz0, hz1, hz2⟩ := info_parts Tryd.infoByte
  have HL := Lib.hid (long_any v l w h hl (fun x hx => (hs x hx).2))
  obtain ⟨A, cap, rfl, hcap⟩ := h.shape
  have HS := Lib.hid hs
  clear h he hs
  have hd : decide (8000 ≤ itSum l) = false := by simp; omega
  rw [hd] at HL
  clear hd h8
  go_enter Tryd.func5, Tryd.ntmps5
  go_wp2_with fail
  refine Calls.mono HL.out ?_
  rintro e w1 ⟨rfl, rfl⟩
  clear HL
  go_wp2_with fail
  refine Calls.mono (awake04 w HE.out) ?_
  rintro e w2 ⟨rfl, hg⟩
  have G2 := Lib.hid hg
  clear hg
  go_wp2_with fail
  refine (tnew_any w2).mono ?_
  rintro e w3 ⟨tb, rfl, hlb, ht, hg⟩
  have A3 := Lib.hid (show Ls w tb [] (.slice none 0 0) [] 0 3300 w3 from Ls.start (Nat.le_trans G2.out.size hlb) ht (gtrans G2.out hg))
  clear hlb ht hg G2
  go_wp2_with fail
  go_loopw [4, 5] (fun vb vi wr => ∃ (k : Nat) (T : Tb) (bl : List UInt8), k ≤ l.length ∧ vi = .int .i64 k ∧ Ls w tb T vb bl k 3300 wr) (fun _ vi _ => l.length - (intOf vi).toNat)
  case atStart => exact ⟨0, [], [], by omega, rfl, A3.out⟩
  case round =>
    clear A3
    obtain ⟨k, T, bl, hk, rfl, hr⟩ := hrel
    have R0 := Lib.hid hr
    obtain ⟨Ab, cb, rfl, hcb, hcm⟩ := hr.own.shape
    unfold maxLen at hcm
    have hlen := hr.len
    have hfew := hr.few
    clear hr
    by_cases hlt : k < l.length
    · have q0 : decide ((k : Int) < (l.length : Int)) = true := by simp; omega
      obtain ⟨b, off, rfl, _, _, c0, c1, c2, c3⟩ := HI.out.at hlt
      have d0 : b < w.heap.size := cell_lt c0
      have C0 := Lib.hid c0
      have C1 := Lib.hid c1
      have C2 := Lib.hid c2
      have C3 := Lib.hid c3
      clear c0 c1 c2 c3
      obtain ⟨hgap, hnm⟩ := HS.out l[k] (List.getElem_mem hlt)
      generalize l[k].name = nm at *
      generalize l[k].cmp = cmp at *
      generalize l[k].known = known at *
      generalize l[k].gap = gap at *
      have c3 : wr.cell? ⟨b, off + k * 4 + 3, none⟩ = some (.int .u16 gap) := R0.out.gr.cell C3.out (by simp)
      go_wp2_with (at_builtin; refine wpList_app_zeros rfl (.tmp 25) (.tmp 32) 31 3 rfl (tb + 1) i0 Tryd.underlying31 Tryd.underlying3 hi hz0 hz1 hz2 _ bl rfl R0.out.own (gap % 3000) _ rfl ?e0 ?e1 ?e2 ?_)
      case e1 => omega
      case e2 => obtain ⟨m, ht, _⟩ := R0.out.tab; exact blt ht.cell
      intro v4 w4 ho4 hg4
      obtain ⟨z1, ⟨m, z2, z3⟩, z4, z5⟩ := R0.out.zeros hg4 ho4
      have Z4 := Lib.hid (show Lz w tb m T v4 (bl ++ List.replicate (gap % 3000) 0) w4 from ⟨z1, z2, z3, R0.out.lb, z4, z5⟩)
      have lz : (bl ++ List.replicate (gap % 3000) (0 : UInt8)).length ≤ bl.length + 3000 := by simp; omega
      generalize (bl ++ List.replicate (gap % 3000) (0 : UInt8)) = b4 at *
      obtain ⟨A4, c4, rfl, hc4, hcm4⟩ := z4.shape
      unfold maxLen at hcm4
      clear ho4 hg4 z1 z2 z3 z4 z5 c3
      go_wp2_with fail
      have c0 : ∀ g : GrB w.heap.size w4.drew, g.w.cell? ⟨b, off + k * 4, none⟩ = some (.string nm) := GrB.cell (Z4.out.gr.cell C0.out (by simp)) d0
      have c1 : ∀ g : GrB w.heap.size w4.drew, g.w.cell? ⟨b, off + k * 4 + 1, none⟩ = some (.bool cmp) := GrB.cell (Z4.out.gr.cell C1.out (by simp)) d0
      have c2 : ∀ g : GrB w.heap.size w4.drew, g.w.cell? ⟨b, off + k * 4 + 2, none⟩ = some (.bool known) := GrB.cell (Z4.out.gr.cell C2.out (by simp)) d0
      refine wp_region_segsB w.heap.size [(true, [0, 1, 2, 3, 4, 5, 6, 7, 8, 9, 10, 11, 12, 13, 14, 15, 16]), (false, [17]), (true, [18, 19, 20, 21, 22])] (by kernel_rfl) (by kernel_rfl) ?_
      refine wpSegsB_quiet rfl ?_
      simp only [List.filterMap_cons, List.filterMap_nil, List.getElem?_toArray, List.getElem?_cons_succ, List.getElem?_cons_zero]
      show wpQuiet _ _ _ _ [_, _, _, _, _, _, _, _, _, _, _, _, _, _, _, _, _] _
      repeat (go_big_quiet_step (fail))
      refine wpQuiet_nil ?_
      refine wpSegsB_one (by simp only [List.getElem?_toArray, List.getElem?_cons_succ, List.getElem?_cons_zero]; exact rfl) ?_
      have Z5 := Lib.hid (Z4.out.quiet (gdrew (grefl w4 none)))
      clear Z4 c0 c1 c2
      generalize w4.drew = w4d at *
      go_wp2_with fail
      by_cases hmay : may nm = true
      · have hn5 := may_size hmay
        have K5 := tput_ok tb m T _ b4 nm cmp known w4d Z5.out.tab Z5.out.own.sl hmay (by omega) (by omega)
        refine K5.mono ?_
        clear K5
        rintro e w5 ⟨v5, m5, rfl, ho5, ht5, hg5, hms5⟩
        obtain ⟨l5, kb5⟩ := Z5.out.put hmay ho5 ht5 hg5 hms5
        have L5 := Lib.hid l5
        have KB5 := Lib.hid kb5
        obtain ⟨A5, c5, rfl, hc5, hcm5⟩ := ho5.shape
        unfold maxLen at hcm5
        have hwh := Lib.hid (put_whole nm true true _ 0 [] b4 rfl hn5.2 (.inr (fun x hx => by cases hx)))
        have hfe := Lib.hid (putF_few nm cmp known _ 0 T b4 rfl)
        have hsh := put_shape nm cmp known b4.length _ 0 T b4 rfl hn5.2 Z5.out.ok.1 (fun x hx => .inl (Z5.out.ok.2 x hx).1)
        have hwc := fun (h : cmp = false) => put_whole nm cmp known _ 0 T b4 rfl hn5.2 (.inl h)
        generalize putF nm cmp known 0 T b4 = P1 at *
        clear l5 kb5 ho5 ht5 hg5 hms5 Z5
        go_wp2_with fail
        refine ⟨KB5.out, ?_⟩
        refine wpSegsB_quiet rfl ?_
        simp only [List.filterMap_cons, List.filterMap_nil, List.getElem?_toArray, List.getElem?_cons_succ, List.getElem?_cons_zero]
        show wpQuiet _ _ _ _ [_, _, _, _, _] _
        repeat (go_big_quiet_step (fail))
        refine wpQuiet_nil ?_
        refine wpSegsB_done ?_
        clear KB5
        go_wp2_with fail
        have c0 : ∀ g : GrB w.heap.size w5.drew, g.w.cell? ⟨b, off + k * 4, none⟩ = some (.string nm) := GrB.cell (L5.out.gr.cell C0.out (by simp)) d0
        refine wp_region_segsB w.heap.size [(true, [1, 2, 3, 4, 5, 6]), (false, [0]), (false, [7]), (true, [8, 9, 10, 11, 12])] (by kernel_rfl) (by kernel_rfl) ?_
        refine wpSegsB_quiet rfl ?_
        simp only [List.filterMap_cons, List.filterMap_nil, List.getElem?_toArray, List.getElem?_cons_succ, List.getElem?_cons_zero]
        show wpQuiet _ _ _ _ [_, _, _, _, _, _] _
        repeat (go_big_quiet_step (fail))
        refine wpQuiet_nil ?_
        clear c0
        refine wpSegsB_one (by simp only [List.getElem?_toArray, List.getElem?_cons_zero]; exact rfl) ?_
        go_wp2_with fail
        refine (tnew_any _).mono ?_
        rintro e w6 ⟨tb2, rfl, hlb6, ht6, hg6⟩
        have L6 := Lib.hid (L5.out.quiet (gtrans (gdrew (grefl w5 none)) hg6))
        have G6 := Lib.hid (show w5.grownBy w6 none ∧ Tab w6 tb2 none [] ∧ w5.heap.size ≤ tb2 from ⟨gtrans (gdrew (grefl w5 none)) hg6, ht6, hlb6⟩)
        go_wp2_with fail
        refine ⟨KB.of hg6 L5.out.gr.size, ?_⟩
        clear hg6 ht6 hlb6
        refine wpSegsB_one (by simp only [List.getElem?_toArray, List.getElem?_cons_succ, List.getElem?_cons_zero]; exact rfl) ?_
        go_wp2_with fail
        refine (tput_ok tb2 none [] _ b4 nm true true w6 G6.out.2.1 L6.out.own.sl hmay (by simp; omega) (by omega)).mono ?_
        rintro e w7 ⟨v7, m7, rfl, ho7, _, hg7, _⟩
        rw [hwh.out, List.drop_zero] at ho7
        obtain ⟨A7, c7, rfl, hc7, hcm7⟩ := ho7.shape
        unfold maxLen at hcm7
        have L7 := Lib.hid (L5.out.quiet (TG.gr G6.out.1 hg7 G6.out.2.2 (fun k e => by cases e)))
        have O7 := Lib.hid ho7.sl
        have KB7 := Lib.hid (hg7.kb (B := w.heap.size) (Nat.le_trans L5.out.gr.size G6.out.1.size) (Nat.le_trans L5.out.gr.size G6.out.2.2) (fun k e => by cases e))
        have hDl : (b4 ++ nm.data.toList).length = b4.length + nm.size := by rw [List.length_append, nlen]
        have hDs : (⟨(b4 ++ nm.data.toList).toArray⟩ : ByteArray) = (⟨b4.toArray⟩ : ByteArray) ++ nm := str_mk b4 nm
        have hO4 : (⟨b4.toArray⟩ : ByteArray).size ≤ 2000000 := by rw [size_mk]; omega
        clear ho7 hg7 G6 L5 L6 hwh
        have hcase : (P1.1 = b4 ++ nm.data.toList) ∨ (cmp = true ∧ ∃ q j, q + 3 ≤ nm.size ∧ j ≤ 16383 ∧ j < b4.length ∧ P1.1 = b4 ++ nm.data.toList.take q ++ ptrB j) := by
          rcases hsh with h | ⟨q, j, _, h1, h2, h3, h4⟩
          · exact .inl (by simpa using h)
          · cases cmp with
            | false => exact .inl (by simpa using hwc rfl)
            | true => exact .inr ⟨rfl, q, j, h1, h2, h3, by simpa using h4⟩
        clear hsh hwc
        have hPb : ∃ y, P1.1 = b4 ++ y ∧ 0 < y.length ∧ y.length ≤ nm.size := by
          rcases hcase with h | ⟨_, q, j, h1, _, _, h⟩
          · exact ⟨_, h, by rw [nlen]; have := scan_lt hn5.2; omega, by rw [nlen]; omega⟩
          · exact ⟨_, by rw [h, List.append_assoc], by simp [ptrB], by have := nlen nm; simp [ptrB]; omega⟩
        obtain ⟨y, hy, hy0, hyn⟩ := hPb
        have hPl : b4.length < P1.1.length ∧ P1.1.length ≤ b4.length + nm.size := by rw [hy, List.length_append]; omega
        have HY := Lib.hid hy
        have HC := Lib.hid hcase
        have HD := Lib.hid hDl
        clear hy hcase
        obtain ⟨g5, rfl, hg5, _⟩ := L7.out.own'.cellAt (by omega)
        generalize hP : P1.1 = P at *
        generalize hT1 : P1.2 = T1 at *
        generalize hD : b4 ++ nm.data.toList = D at *
        have k1 : decide (D.length < P.length) = false := by simp; omega
        have k2 : decide (P.length ≤ b4.length) = false := by simp; omega
        have n5 : b4.length ≤ c5 := by omega
        clear hDl
        go_wp2_with fail
        refine ⟨KB7.out, ?_⟩
        refine wpSegsB_quiet rfl ?_
        simp only [List.filterMap_cons, List.filterMap_nil, List.getElem?_toArray, List.getElem?_cons_succ, List.getElem?_cons_zero]
        show wpQuiet _ _ _ _ [_, _, _, _, _] _
        repeat (go_big_quiet_step (fail))
        refine wpQuiet_nil ?_
        refine wpSegsB_done ?_
        clear KB7
        go_wp2_with fail
        have c0 : ∀ g : Gr w7, g.w.cell? ⟨b, off + k * 4, none⟩ = some (.string nm) := Gr.cell (L7.out.gr.cell C0.out (by simp))
        have v1 : ∀ g : Gr w7, _ := fun g => cvs (O7.out.kept0 g.h)
        have v2 : ∀ g : Gr w7, _ := fun g => cvs (L7.out.own.sl.kept0 g.h)
        have v3 : ∀ g : Gr w7, _ := fun g => cvs (((HY.out ▸ L7.out.own'.sl : SlB w7 _ (b4 ++ y)).front (by simp)).kept0 g.h)
        rw [hDs] at v1
        refine wp_region_noPanic ?_
        refine wp_region_gr (by kernel_rfl) (by kernel_rfl) ?_
        repeat (go_big_quiet_step (fail))
        refine wpQuiet_nil ?_
        rintro w8 ⟨gq, rfl⟩
        refine NoPanic.normal ?_
        have L8 := Lib.hid (L7.out.quiet gq.h)
        have O8 := Lib.hid (O7.out.kept0 gq.h)
        generalize gq.w = w8 at *
        clear c0 v1 v2 v3 L7 O7
        have c0 : w8.cell? ⟨b, off + k * 4, none⟩ = some (.string nm) := L8.out.gr.cell C0.out (by simp)
        have c1 : w8.cell? ⟨b, off + k * 4 + 1, none⟩ = some (.bool cmp) := L8.out.gr.cell C1.out (by simp)
        have v1 := cvs O8.out
        have v2 := cvs L8.out.own'.sl
        have LN := Lib.hid (show Ls w tb T1 (.slice (some ⟨g5, 0, none⟩) P.length c5) P (k + 1) 3300 w8 from ⟨L8.out.gr, L8.out.tab, L8.out.lb, L8.out.own', L8.out.ok, by have := hfe.out; omega, by omega⟩)
        rcases HC.out with hw | ⟨rfl, q, j, h1, h2, h3, hp⟩
        · subst hw
          have e1 : (P.length == P.length) = true := by simp
          go_wp2_with fail
          all_goals
            go_roundw
            case rel => exact ⟨k + 1, T1, P, by omega, by go_num, LN.out⟩
            case measure => simp [intOf]; omega
        · have hDl := HD.out
          have hnl := nlen nm
          obtain ⟨x, hx, hxl⟩ : ∃ x : List UInt8, P = x ++ ptrB j ∧ x.length = b4.length + q := ⟨b4 ++ nm.data.toList.take q, hp, by simp; omega⟩
          have hPx : P.length = x.length + 2 := by rw [hx]; simp [ptrB]
          have e1 : (P.length == D.length) = false := by simp; omega
          have k3 : decide (P.length < D.length) = true := by simp; omega
          have e2 : ((P.length : Int) == (D.length : Int)) = false := by simp; omega
          have k4 : decide ((P.length : Int) < 2) = false := by simp; omega
          obtain ⟨g6, eg, _, hcell⟩ := L8.out.own'.cellAt (by omega)
          cases eg
          have z0 : w8.cell? ⟨g5, x.length, none⟩ = some (.int .u8 (192 + (j : Int) / 256)) := by
            rw [hcell x.length (by omega)]
            have : P[x.length]'(by omega) = UInt8.ofNat (192 + j / 256) := by simp [hx, ptrB]
            rw [this]
            simp
            omega
          have z1 : w8.cell? ⟨g5, x.length + 1, none⟩ = some (.int .u8 ((j : Int) % 256)) := by
            rw [hcell (x.length + 1) (by omega)]
            have : P[x.length + 1]'(by omega) = UInt8.ofNat (j % 256) := by simp [hx, ptrB]
            rw [this]
            simp
          have hxs : x.length ≤ 3000000 := by omega
          clear hcell hx hp
          generalize x.length = xl at *
          clear hDl hnl hxl
          have HPx := Lib.hid hPx
          clear hPx
          go_upto_region 22 with (fail)
          have hPx := HPx.out
          rw [hPx]
          have x5 : xl + 2 ≤ c5 := by omega
          have LM := Lib.hid (show Ls w tb T1 (.slice (some ⟨g5, 0, none⟩) (xl + 2) c5) P (k + 1) 3300 w8 from hPx ▸ LN.out)
          clear hPx
          have p1 : (192 + (j : Int) / 256) * 256 + (j : Int) % 256 - 49152 = (j : Int) := by omega
          have p2 : decide ((j : Int) < 0) = false := by simp
          have p3 : decide ((16383 : Int) < (j : Int)) = false := by simp; omega
          have p4 : decide (b4.length ≤ j) = false := by simp; omega
          go_quiet (fail)
          have LQ := Lib.hid (LM.out.quiet (gdrewN (grefl w8 none) nq))
          generalize w8.drewN nq = w9 at *
          go_wp2_with fail
          go_roundw
          case rel => exact ⟨k + 1, T1, P, by omega, by go_num, LQ.out⟩
          case measure => simp [intOf]; omega
      · have hmf : may nm = false := by cases h : may nm <;> simp_all
        have K5 := tput_no tb (.slice A4 b4.length c4) nm cmp known w4d hmf
        refine K5.mono ?_
        clear K5
        rintro e w5 ⟨rfl, hg5⟩
        have KB5 := Lib.hid (KB.of (B := w.heap.size) hg5 Z5.out.gr.size)
        have LN := Lib.hid (show Ls w tb T (.slice A4 b4.length c4) b4 (k + 1) 3300 w5 from by
          have q := Z5.out.quiet hg5
          exact ⟨q.gr, ⟨m, q.tab, q.ms⟩, q.lb, q.own, q.ok, by omega, by omega⟩)
        clear hg5 Z5
        go_wp2_with fail
        refine ⟨KB5.out, ?_⟩
        refine wpSegsB_quiet rfl ?_
        simp only [List.filterMap_cons, List.filterMap_nil, List.getElem?_toArray, List.getElem?_cons_succ, List.getElem?_cons_zero]
        show wpQuiet _ _ _ _ [_, _, _, _, _] _
        repeat (go_big_quiet_step (fail))
        refine wpQuiet_nil ?_
        refine wpSegsB_done ?_
        clear KB5
        go_wp2_with fail
        go_roundw
        case rel => exact ⟨k + 1, T, b4, by omega, by go_num, LN.out⟩
        case measure => simp [intOf]; omega
    · have q0 : decide ((k : Int) < (l.length : Int)) = false := by simp; omega
      go_wp2_with fail
      go_ret
      exact ⟨rfl, R0.out.gr⟩
set_option maxRecDepth 100000 in
theorem less_walk (v : Value) (l : List It) (w : World) (he : Et w) (h : Its w v l) (hl : l.length ≤ maxLen) (hs : ∀ x ∈ l, x.gap < 65536 ∧ x.name.size ≤ maxLen) : Calls Tryd.prog 5 #[v] w fun e w' => e = .returned (.bool true) ∧ w.grownBy w' none := by
  by_cases h8 : itSum l < 8000
  · exact less_small v l w he h hl hs h8
  · have HL := Lib.hid (long_any v l w h hl (fun x hx => (hs x hx).2))
    obtain ⟨A, cap, rfl, hcap⟩ := h.shape
    have hd : decide (8000 ≤ itSum l) = true := by simp; omega
    rw [hd] at HL
    have HE := Lib.hid he
    clear h he hs hd h8
    go_enter Tryd.func5, Tryd.ntmps5
    go_wp2_with fail
    refine Calls.mono HL.out ?_
    rintro e w1 ⟨rfl, rfl⟩
    go_wp2_with fail
    refine Calls.mono (awake04 w HE.out) ?_
    rintro e w2 ⟨rfl, hg⟩
    go_wp2_with fail
    go_ret
    exact ⟨rfl, hg⟩
end Go.Proofs.YtjjegmgjnfkblaaDoor
