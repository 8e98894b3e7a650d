/-
  Soa: the examples (awake).
-/
import Derived.Test.YtomjiephbacocaaDoorSoFu
import Derived.Test.YtomjiephbacocaaDoorRegL
import Derived.ArgAppend
namespace Go.Proofs.YtomjiephbacocaaDoor
open Go.RowKit

theorem find_got {n : ByteArray} {c : Nat} {v : Value} {l : List St} {w : World} {x : St} (h : Sts w v l) (hl : l.length ≤ 1000000) (hd : ∀ x ∈ l, x.data.length ≤ 1000000) (hf : fndF n c l = .got x) :
    Calls Tryd.prog 12 #[v, .string n, .int .u16 (c : Int)] w fun e w' => ∃ v', e = .returned (.tuple #[(x.at v').val, .bool true, .int .i64 0]) ∧ w.grownBy w' none ∧ w'.ownsRow w.heap.size 9 1 v' x.data.length (strs x.data) := by
  have := sfind_any n c v l w h hl hd
  rw [hf] at this
  refine this.mono ?_
  rintro e w' ⟨hg, v', rfl, ho⟩
  exact ⟨v', rfl, hg, ho⟩
theorem find_bad {n : ByteArray} {c : Nat} {v : Value} {l : List St} {w : World} (h : Sts w v l) (hl : l.length ≤ 1000000) (hd : ∀ x ∈ l, x.data.length ≤ 1000000) (hf : fndF n c l = .bad) :
    Calls Tryd.prog 12 #[v, .string n, .int .u16 (c : Int)] w fun e w' => e = .returned (.tuple #[zsv, .bool false, .int .i64 3]) ∧ w.grownBy w' none := by
  have := sfind_any n c v l w h hl hd
  rw [hf] at this
  refine this.mono ?_
  rintro e w' ⟨hg, rfl⟩
  exact ⟨rfl, hg⟩
theorem find_non {n : ByteArray} {c : Nat} {v : Value} {l : List St} {w : World} (h : Sts w v l) (hl : l.length ≤ 1000000) (hd : ∀ x ∈ l, x.data.length ≤ 1000000) (hf : fndF n c l = .non) :
    Calls Tryd.prog 12 #[v, .string n, .int .u16 (c : Int)] w fun e w' => e = .returned (.tuple #[zsv, .bool false, .int .i64 0]) ∧ w.grownBy w' none := by
  have := sfind_any n c v l w h hl hd
  rw [hf] at this
  refine this.mono ?_
  rintro e w' ⟨hg, rfl⟩
  exact ⟨rfl, hg⟩
theorem sets_small (g0 g1 : Nat) : ∀ x ∈ [ofS zE 9 d5 g0, ofS zR 9 d256 g1], x.data.length ≤ 1000000 := by
  intro x hx
  simp only [List.mem_cons, List.not_mem_nil, or_false] at hx
  rcases hx with rfl | rfl <;> exact (show 1 ≤ 1000000 by omega)

theorem sts_one (w : World) (x : St) (hx : StW w x) : Sts (w.alloc (.cells #[.string x.name, .int .u16 (x.kind : Int), .int .u16 (x.cls : Int), .int .u32 (x.ttl : Int), x.vd] 27)) (.slice (some ⟨w.heap.size, 0, none⟩) 1 1) [x] := by
  refine ⟨⟨_, 1, rfl, Nat.le_refl _, rfl, by simp, fun _ => ⟨w.heap.size, 0, rfl, fun j u hu => ?_⟩⟩, fun z hz => ?_⟩
  · rw [Nat.zero_add, bcellAt (balloc w _), ← Array.getElem?_toList]
    exact hu
  · simp only [List.mem_cons, List.not_mem_nil, or_false] at hz
    subst hz
    exact hx.kept (galloc (grefl w none) _)
theorem sl1_cell {w : World} {x : St} {g : Nat} {d : ByteArray} (h : StW w x) (hv : x.vd = .slice (some ⟨g, 0, none⟩) 1 1 ∧ x.data = [d] := by exact ⟨rfl, rfl⟩) : w.cell? ⟨g, 0, none⟩ = some (.string d) := by
  unfold StW at h
  rw [hv.1, hv.2] at h
  obtain ⟨b, off, e, _, _, c⟩ := sl_str h (show 0 < [d].length by simp)
  simp only [Option.some.injEq, Addr.mk.injEq, and_true] at e
  obtain ⟨rfl, rfl⟩ := e
  exact c
theorem sts2_cells {w : World} {b : Nat} {x y : St} (h : Sts w (.slice (some ⟨b, 0, none⟩) 2 2) [x, y]) :
    (w.cell? ⟨b, 0, none⟩ = some (.string x.name) ∧ w.cell? ⟨b, 1, none⟩ = some (.int .u16 (x.kind : Int)) ∧ w.cell? ⟨b, 2, none⟩ = some (.int .u16 (x.cls : Int)) ∧ w.cell? ⟨b, 3, none⟩ = some (.int .u32 (x.ttl : Int)) ∧ w.cell? ⟨b, 4, none⟩ = some x.vd) ∧
    w.cell? ⟨b, 5, none⟩ = some (.string y.name) ∧ w.cell? ⟨b, 6, none⟩ = some (.int .u16 (y.kind : Int)) ∧ w.cell? ⟨b, 7, none⟩ = some (.int .u16 (y.cls : Int)) ∧ w.cell? ⟨b, 8, none⟩ = some (.int .u32 (y.ttl : Int)) ∧ w.cell? ⟨b, 9, none⟩ = some y.vd := by
  obtain ⟨b', off', e, _, _, c0, c1, c2, c3, c4⟩ := h.at (show 0 < [x, y].length by simp)
  simp only [Option.some.injEq, Addr.mk.injEq, and_true] at e
  obtain ⟨rfl, rfl⟩ := e
  obtain ⟨b', off', e, _, _, e0, e1, e2, e3, e4⟩ := h.at (show 1 < [x, y].length by simp)
  simp only [Option.some.injEq, Addr.mk.injEq, and_true] at e
  obtain ⟨rfl, rfl⟩ := e
  exact ⟨⟨c0, c1, c2, c3, c4⟩, e0, e1, e2, e3, e4⟩

def dFF : ByteArray := ⟨#[255, 255, 255, 255]⟩
theorem tm0 (g : Nat) : tmF (ofS zR 9 dFF g) = 0 := by
  rw [tm_of _ _ _ _ rfl]
  decide +kernel
theorem exd_small {n : ByteArray} {t : Nat} {last : ByteArray} {g : Nat} (h : last.size = 4 := by rfl) : ∀ s ∈ (ofS n t last g).data, s.size ≤ 1000000 := by
  intro s hs
  have : s = ofD last := by simpa [ofS] using hs
  rw [this, ofD_size, h]
  omega
theorem same_at (y : St) (v : Value) (w : World) (hx : Sl w 1 v y.data.length (strs y.data)) (hy : StW w y) (hm : y.data.length ≤ 1000000) : Calls Tryd.prog 13 #[(y.at v).val, y.val] w fun e w' => e = .returned (.bool true) ∧ w.grownBy w' none := by
  have := dsame_any (y.at v) y w hx hy hm
  rw [show smS (y.at v) y = true by unfold smS St.at; simp] at this
  exact this
theorem time_at (y : St) (v : Value) (w : World) (t : Nat) (he : Et w) (hx : Sl w 1 v y.data.length (strs y.data)) (hd : ∀ s ∈ y.data, s.size ≤ 1000000) (ht : tmF y = t) : Calls Tryd.prog 14 #[(y.at v).val] w fun e w' => e = .returned (.int .u32 (t : Int)) ∧ w.grownBy w' none := by
  have := stime_any (y.at v) w he hx hd
  rw [show tmF (y.at v) = tmF y from rfl, ht] at this
  exact this

set_option maxRecDepth 100000 in
set_option maxHeartbeats 16000000 in
theorem awake10 (w : World) (he : Et w) : Calls Tryd.prog 10 #[] w fun e w' => e = .returned (.bool true) ∧ w.grownBy w' none := by
  have HE := Lib.hid he
  clear he
  go_enter Tryd.func10, Tryd.ntmps10
  go_wp2_with fail
  refine (two10_any w).mono ?_
  rintro e w1 ⟨b, g0, g1, rfl, hs, hg⟩
  have S1 := Lib.hid hs
  have G1 := Lib.hid hg
  clear hs hg
  go_wp2_with fail
  refine (find_got S1.out (by simp) (sets_small g0 g1) (fA g0 g1)).mono ?_
  rintro e w2 ⟨va, rfl, hg, ho⟩
  obtain ⟨Aa, ca, rfl, _, _⟩ := own_shape ho
  have S2 := Lib.hid (S1.out.kept hg)
  have G2 := Lib.hid (gtrans G1.out hg)
  have O2 := Lib.hid (FS.of ho).sl
  simp only [St.at, St.val, ofS, List.length_cons, List.length_nil]
  clear hg ho S1 G1
  go_wp2_with fail
  have S2' := Lib.hid (S2.out.kept (galloc (grefl w2 none) (.cells #[.string zE, .int .u16 6, .int .u16 1, .int .u32 9, .slice Aa 1 ca] 27)))
  refine (find_got S2'.out (by simp) (sets_small g0 g1) (fE g0 g1)).mono ?_
  rintro e w3 ⟨vb, rfl, hg, ho⟩
  obtain ⟨Ab, cb, rfl, _, _⟩ := own_shape ho
  have S3 := Lib.hid (S2'.out.kept hg)
  have G3 := Lib.hid (gtrans (galloc G2.out (.cells #[.string zE, .int .u16 6, .int .u16 1, .int .u32 9, .slice Aa 1 ca] 27)) hg)
  have O3 := Lib.hid (FS.of ho).sl
  have OA3 := Lib.hid ((O2.out.kept0 (galloc (grefl w2 none) (.cells #[.string zE, .int .u16 6, .int .u16 1, .int .u32 9, .slice Aa 1 ca] 27))).kept0 hg)
  have B3 := Lib.hid (gblock hg (balloc w2 (.cells #[.string zE, .int .u16 6, .int .u16 1, .int .u32 9, .slice Aa 1 ca] 27)) (by simp))
  simp only [St.at, St.val, ofS, List.length_cons, List.length_nil]
  clear hg ho S2 G2 S2' O2
  have hlt3 := blt B3.out
  generalize w2.heap.size = k2 at *
  go_wp2_with fail
  have S3' := Lib.hid (S3.out.kept (galloc (grefl w3 none) (.cells #[.string zE, .int .u16 6, .int .u16 1, .int .u32 9, .slice Ab 1 cb] 27)))
  refine (find_got S3'.out (by simp) (sets_small g0 g1) (fC g0 g1)).mono ?_
  rintro e w4 ⟨vc, rfl, hg, ho⟩
  obtain ⟨Ac, cc, rfl, _, _⟩ := own_shape ho
  have S4 := Lib.hid (S3'.out.kept hg)
  have q4 := gtrans (galloc (grefl w3 none) (.cells #[.string zE, .int .u16 6, .int .u16 1, .int .u32 9, .slice Ab 1 cb] 27)) hg
  have G4 := Lib.hid (gtrans G3.out q4)
  have OA4 := Lib.hid (OA3.out.kept0 q4)
  have OB4 := Lib.hid (O3.out.kept0 q4)
  have OC4 := Lib.hid (FS.of ho).sl
  have B4 := Lib.hid (gblock q4 B3.out (by simp))
  have C4 := Lib.hid (gblock hg (balloc w3 (.cells #[.string zE, .int .u16 6, .int .u16 1, .int .u32 9, .slice Ab 1 cb] 27)) (by simp))
  simp only [St.at, St.val, ofS, List.length_cons, List.length_nil]
  clear hg ho S3 G3 S3' OA3 O3 q4 B3 hlt3
  have hlt4 := blt B4.out
  have hlt5 := blt C4.out
  generalize w3.heap.size = k3 at *
  obtain ⟨⟨n0, n1, n2, n3, n4⟩, n5, n6, n7, n8, n9⟩ := sts2_cells S4.out
  have hb := cell_lt n0
  simp only [ofS] at n0 n1 n2 n3 n4 n5 n6 n7 n8 n9
  have N4 := Lib.hid (And.intro n0 (And.intro n1 (And.intro n2 (And.intro n3 n4))))
  have CG4 := Lib.hid (sl1_cell (S4.out.2 (ofS zE 9 d5 g0) (by simp)) ⟨rfl, rfl⟩)
  go_wp2_with fail
  have q5 := gdrew (galloc (galloc (grefl w4 none) (.cells #[.string zR, .int .u16 6, .int .u16 1, .int .u32 9, .slice Ac 1 cc] 27)) (.cells #[.string zE, .int .u16 6, .int .u16 1, .int .u32 9, .slice (some ⟨g0, 0, none⟩) 1 1] 27))
  have D5 := Lib.hid (show (((w4.alloc (.cells #[.string zR, .int .u16 6, .int .u16 1, .int .u32 9, .slice Ac 1 cc] 27)).alloc (.cells #[.string zE, .int .u16 6, .int .u16 1, .int .u32 9, .slice (some ⟨g0, 0, none⟩) 1 1] 27)).drew).heap[w4.heap.size]? = _ from balloc2_0 w4 _ _)
  have E5 := Lib.hid (show (((w4.alloc (.cells #[.string zR, .int .u16 6, .int .u16 1, .int .u32 9, .slice Ac 1 cc] 27)).alloc (.cells #[.string zE, .int .u16 6, .int .u16 1, .int .u32 9, .slice (some ⟨g0, 0, none⟩) 1 1] 27)).drew).heap[w4.heap.size + 1]? = _ from balloc2_1 w4 _ _)
  refine wp_region_segsL 10 [(true, [0, 1, 2, 3, 4, 5, 6]), (false, [7]), (false, [8]), (true, [9]), (false, [10])] (by kernel_rfl) (by kernel_rfl) ?_
  generalize ((w4.alloc (.cells #[.string zR, .int .u16 6, .int .u16 1, .int .u32 9, .slice Ac 1 cc] 27)).alloc (.cells #[.string zE, .int .u16 6, .int .u16 1, .int .u32 9, .slice (some ⟨g0, 0, none⟩) 1 1] 27)).drew = w5 at *
  have Q5 := Lib.hid q5
  have CG := Lib.hid (q5.cell CG4.out (by simp))
  clear q5 N4 n0 n1 n2 n3 n4 n5 n6 n7 n8 n9
  generalize hk4 : w4.heap.size = k4 at *
  have HK := Lib.hid hk4
  clear hk4
  have hsz : (ofD d5).size ≤ 1000000 := by rw [ofD_size]; exact (show 18 + 4 ≤ 1000000 by omega)
  have m4 : ∀ g : Gr w5, g.w.cell? ⟨k4 + 1, 4, none⟩ = some (.slice (some ⟨g0, 0, none⟩) 1 1) := Gr.cell (bcellAt E5.out 4)
  have cg' : ∀ g : Gr w5, g.w.cell? ⟨g0, 0, none⟩ = some (.string (ofD d5)) := Gr.cell CG.out
  refine wpSegsL_quiet rfl ?_
  simp only [List.filterMap_cons, List.filterMap_nil, List.getElem?_toArray, List.getElem?_cons_succ, List.getElem?_cons_zero]
  show wpQuiet _ _ _ _ [_, _, _, _, _, _, _] _
  repeat (go_big_quiet_step (fail))
  refine wpQuiet_nil ?_
  clear hsz m4 cg'
  generalize ofD d5 ++ ⟨#[]⟩ = dd at *
  obtain ⟨i2, i2h, i2z, i2s, i2b⟩ := info_parts Tryd.infoS
  refine wpSegsL_one (by simp only [List.getElem?_toArray, List.getElem?_cons_succ, List.getElem?_cons_zero]; exact rfl) ?_
  go_wp2_with fail
  refine ⟨galloc (grefl _ none) _, ?_⟩
  refine wpSegsL_one (by simp only [List.getElem?_toArray, List.getElem?_cons_succ, List.getElem?_cons_zero]; exact rfl) ?_
  go_wp2_with (at_builtin; refine wpList_append_grows _ rfl (.tmp 38) (.tmp 44) 25 rfl 9 i2 _ 1 16 Tryd.underlying25 i2h i2z i2s i2b rfl (by decide) (some ⟨g0, 0, none⟩) 1 1 [.string (ofD d5)] rfl (by simp) rfl ?c1 ⟨w5.heap.size, 0, none⟩ 1 1 [.string dd] rfl rfl ?c2 ?c3 ?c4 ?c5 ?c6 ?_)
  case c1 =>
    intro bb e j u hu
    cases e
    cases j with
    | zero =>
      simp at hu
      subst hu
      rw [Addr.add_lit]
      exact (galloc (grefl w5 none) _).cell CG.out (by simp)
    | succ j => simp at hu
  case c2 =>
    intro j u hu
    rw [Addr.add_lit, Nat.zero_add, bcellAt (balloc w5 _), ← Array.getElem?_toList]
    exact hu
  case c3 =>
    intro u hu
    simp at hu
    subst hu
    rfl
  case c4 => omega
  case c5 => unfold maxLen; omega
  case c6 => omega
  intro v6 w6 ho6 hg6
  obtain ⟨A6, c6, rfl, _, _⟩ := own_shape ho6
  have hg6' := gfr1 hg6
  have D6 := Lib.hid (gblock hg6' D5.out (by simp))
  have E6 := Lib.hid (gblock hg6' E5.out (by simp))
  have Q6 := Lib.hid (gtrans Q5.out hg6')
  have O6 := Lib.hid ho6
  have hlt6 : k4 + 1 < (w5.alloc (.cells #[.string dd] 9)).heap.size := by have := blt E5.out; simp; omega
  have HL6 := Lib.hid hlt6
  have hgg := hg6
  clear ho6 hg6 hg6' D5 E5 Q5 CG hlt6
  go_wp2_with fail
  refine ⟨hgg, ?_⟩
  clear hgg
  refine wpSegsL_quiet rfl ?_
  simp only [List.filterMap_cons, List.filterMap_nil, List.getElem?_toArray, List.getElem?_cons_succ, List.getElem?_cons_zero]
  show wpQuiet _ _ _ _ [_] _
  repeat (go_big_quiet_step (fail))
  refine wpQuiet_nil ?_
  obtain ⟨⟨m0, m1, m2, m3, m4⟩, f0, f1, f2, f3, f4⟩ := cells5 E6.out
  refine wpSegsL_late (by simp only [List.getElem?_toArray, List.getElem?_cons_succ, List.getElem?_cons_zero]; exact rfl) (by decide) ?_
  go_wp2_with fail
  refine wpSegsL_done ?_
  go_wp2_with fail
  have gs : w6.grownBy (w6.setCell ⟨k4 + 1, 4, none⟩ (.slice A6 2 c6)) (some (k4 + 1)) := gset (grefl w6 _) (p := ⟨k4 + 1, 4, none⟩) (.inl rfl) _
  have Q7 := Lib.hid (gstepo Q6.out gs (by rw [HK.out]; omega))
  have D7 := Lib.hid (gblock gs D6.out (by simp))
  have O7 := Lib.hid (FS.of (own_kept O6.out gs (by have := HL6.out; simpa using this))).sl
  clear gs D6 Q6 O6 HL6 E6 m0 m1 m2 m3 m4 f0 f1 f2 f3 f4
  have hs7 : (w6.setCell ⟨k4 + 1, 4, none⟩ (.slice A6 2 c6)).heap.size = w6.heap.size := by simp [World.setCell]
  generalize w6.setCell ⟨k4 + 1, 4, none⟩ (.slice A6 2 c6) = w7 at *
  have T7 := Lib.hid (sts_one w7 ⟨zE, 6, 1, 9, .slice A6 2 c6, [ofD d5, dd]⟩ O7.out)
  rw [hs7] at T7
  clear hs7
  refine (find_bad T7.out (by simp) (by simp) (fBad _ _ (by simp))).mono ?_
  rintro e w8 ⟨rfl, hg⟩
  have Q8 := Lib.hid (gtrans Q7.out (gfr1 hg))
  have D8 := Lib.hid (gblock (gfr1 hg) D7.out (by simp))
  clear hg T7 O7 D7 Q7
  unfold zsv
  go_wp2_with fail
  have Qd := Lib.hid (gdrew (galloc Q8.out (.cells #[.string ByteArray.empty, .int .u16 0, .int .u16 0, .int .u32 0, .slice none 0 0] 27)))
  have Dd := Lib.hid (gblock (gdrew (galloc (grefl w8 none) (.cells #[.string ByteArray.empty, .int .u16 0, .int .u16 0, .int .u32 0, .slice none 0 0] 27))) D8.out (by simp))
  clear Q8 D8
  refine wp_region_segs [(true, [0, 1, 2, 3, 4, 5, 6, 7, 8, 9, 10, 11, 12, 13, 14, 15, 16, 17, 18, 19, 20, 21, 22, 23]), (false, [24]), (true, [25, 26, 27, 28, 29, 30]), (false, [31]), (true, [32, 33, 34, 35, 36, 37]), (false, [38]), (true, [39, 40, 41]), (false, [42]), (true, [43, 44, 45, 46]), (false, [47]), (true, [48, 49, 50]), (false, [51]), (false, [52]), (true, [53, 54, 55, 56, 57, 58, 59, 60, 61, 62, 63])] (by kernel_rfl) (by kernel_rfl) ?_
  generalize (w8.alloc (.cells #[.string ByteArray.empty, .int .u16 0, .int .u16 0, .int .u32 0, .slice none 0 0] 27)).drew = x0 at *
  have a0 : ∀ g : Gr x0, g.w.cell? ⟨k2, 0, none⟩ = some (.string zE) := Gr.cell (bcellAt (gblock Qd.out B4.out (by simp)) 0)
  have a1 : ∀ g : Gr x0, g.w.cell? ⟨k2, 1, none⟩ = some (.int .u16 6) := Gr.cell (bcellAt (gblock Qd.out B4.out (by simp)) 1)
  have a2 : ∀ g : Gr x0, g.w.cell? ⟨k2, 2, none⟩ = some (.int .u16 1) := Gr.cell (bcellAt (gblock Qd.out B4.out (by simp)) 2)
  have a3 : ∀ g : Gr x0, g.w.cell? ⟨k2, 3, none⟩ = some (.int .u32 9) := Gr.cell (bcellAt (gblock Qd.out B4.out (by simp)) 3)
  have a4 : ∀ g : Gr x0, g.w.cell? ⟨k2, 4, none⟩ = some (.slice Aa 1 ca) := Gr.cell (bcellAt (gblock Qd.out B4.out (by simp)) 4)
  have l0 : ∀ g : Gr x0, g.w.cell? ⟨b, 0, none⟩ = some (.string zE) := Gr.cell ((sts2_cells (S4.out.kept Qd.out)).1.1)
  have l1 : ∀ g : Gr x0, g.w.cell? ⟨b, 1, none⟩ = some (.int .u16 6) := Gr.cell ((sts2_cells (S4.out.kept Qd.out)).1.2.1)
  have l2 : ∀ g : Gr x0, g.w.cell? ⟨b, 2, none⟩ = some (.int .u16 1) := Gr.cell ((sts2_cells (S4.out.kept Qd.out)).1.2.2.1)
  have l3 : ∀ g : Gr x0, g.w.cell? ⟨b, 3, none⟩ = some (.int .u32 9) := Gr.cell ((sts2_cells (S4.out.kept Qd.out)).1.2.2.2.1)
  have l4 : ∀ g : Gr x0, g.w.cell? ⟨b, 4, none⟩ = some (.slice (some ⟨g0, 0, none⟩) 1 1) := Gr.cell ((sts2_cells (S4.out.kept Qd.out)).1.2.2.2.2)
  refine wpSegs_quiet rfl ?_
  simp only [List.filterMap_cons, List.filterMap_nil, List.getElem?_toArray, List.getElem?_cons_succ, List.getElem?_cons_zero]
  show wpQuiet _ _ _ _ [_, _, _, _, _, _, _, _, _, _, _, _, _, _, _, _, _, _, _, _, _, _, _, _] _
  repeat (go_big_quiet_step (fail))
  refine wpQuiet_nil ?_
  clear a0 a1 a2 a3 a4 l0 l1 l2 l3 l4
  refine wpSegs_one (by simp only [List.getElem?_toArray, List.getElem?_cons_succ, List.getElem?_cons_zero]; exact rfl) ?_
  go_wp2_with fail
  refine (same_at (ofS zE 9 d5 g0) (.slice Aa 1 ca) x0 (OA4.out.kept0 Qd.out) ((S4.out.2 _ (by simp)).kept Qd.out) (show 1 ≤ 1000000 by omega)).mono ?_
  rintro e x1 ⟨rfl, hg⟩
  have Q1 := Lib.hid (gtrans Qd.out hg)
  have D1 := Lib.hid (gblock hg Dd.out (by simp))
  have R1 := Lib.hid hg
  clear hg Qd Dd
  go_wp2_with fail
  refine ⟨R1.out, ?_⟩
  clear R1
  have a0 : ∀ g : Gr x1, g.w.cell? ⟨k3, 0, none⟩ = some (.string zE) := Gr.cell (bcellAt (gblock Q1.out C4.out (by simp)) 0)
  have a1 : ∀ g : Gr x1, g.w.cell? ⟨k3, 1, none⟩ = some (.int .u16 6) := Gr.cell (bcellAt (gblock Q1.out C4.out (by simp)) 1)
  have a2 : ∀ g : Gr x1, g.w.cell? ⟨k3, 2, none⟩ = some (.int .u16 1) := Gr.cell (bcellAt (gblock Q1.out C4.out (by simp)) 2)
  have a3 : ∀ g : Gr x1, g.w.cell? ⟨k3, 3, none⟩ = some (.int .u32 9) := Gr.cell (bcellAt (gblock Q1.out C4.out (by simp)) 3)
  have a4 : ∀ g : Gr x1, g.w.cell? ⟨k3, 4, none⟩ = some (.slice Ab 1 cb) := Gr.cell (bcellAt (gblock Q1.out C4.out (by simp)) 4)
  have l0 : ∀ g : Gr x1, g.w.cell? ⟨b, 0, none⟩ = some (.string zE) := Gr.cell ((sts2_cells (S4.out.kept Q1.out)).1.1)
  have l1 : ∀ g : Gr x1, g.w.cell? ⟨b, 1, none⟩ = some (.int .u16 6) := Gr.cell ((sts2_cells (S4.out.kept Q1.out)).1.2.1)
  have l2 : ∀ g : Gr x1, g.w.cell? ⟨b, 2, none⟩ = some (.int .u16 1) := Gr.cell ((sts2_cells (S4.out.kept Q1.out)).1.2.2.1)
  have l3 : ∀ g : Gr x1, g.w.cell? ⟨b, 3, none⟩ = some (.int .u32 9) := Gr.cell ((sts2_cells (S4.out.kept Q1.out)).1.2.2.2.1)
  have l4 : ∀ g : Gr x1, g.w.cell? ⟨b, 4, none⟩ = some (.slice (some ⟨g0, 0, none⟩) 1 1) := Gr.cell ((sts2_cells (S4.out.kept Q1.out)).1.2.2.2.2)
  refine wpSegs_quiet rfl ?_
  simp only [List.filterMap_cons, List.filterMap_nil, List.getElem?_toArray, List.getElem?_cons_succ, List.getElem?_cons_zero]
  show wpQuiet _ _ _ _ [_, _, _, _, _, _] _
  repeat (go_big_quiet_step (fail))
  refine wpQuiet_nil ?_
  clear a0 a1 a2 a3 a4 l0 l1 l2 l3 l4
  refine wpSegs_one (by simp only [List.getElem?_toArray, List.getElem?_cons_succ, List.getElem?_cons_zero]; exact rfl) ?_
  go_wp2_with fail
  refine (same_at (ofS zE 9 d5 g0) (.slice Ab 1 cb) x1 (OB4.out.kept0 Q1.out) ((S4.out.2 _ (by simp)).kept Q1.out) (show 1 ≤ 1000000 by omega)).mono ?_
  rintro e x2 ⟨rfl, hg⟩
  have Q2 := Lib.hid (gtrans Q1.out hg)
  have D2 := Lib.hid (gblock hg D1.out (by simp))
  have R2 := Lib.hid hg
  clear hg Q1 D1
  go_wp2_with fail
  refine ⟨R2.out, ?_⟩
  clear R2
  have a0 : ∀ g : Gr x2, g.w.cell? ⟨k4, 0, none⟩ = some (.string zR) := Gr.cell (bcellAt D2.out 0)
  have a1 : ∀ g : Gr x2, g.w.cell? ⟨k4, 1, none⟩ = some (.int .u16 6) := Gr.cell (bcellAt D2.out 1)
  have a2 : ∀ g : Gr x2, g.w.cell? ⟨k4, 2, none⟩ = some (.int .u16 1) := Gr.cell (bcellAt D2.out 2)
  have a3 : ∀ g : Gr x2, g.w.cell? ⟨k4, 3, none⟩ = some (.int .u32 9) := Gr.cell (bcellAt D2.out 3)
  have a4 : ∀ g : Gr x2, g.w.cell? ⟨k4, 4, none⟩ = some (.slice Ac 1 cc) := Gr.cell (bcellAt D2.out 4)
  have l5 : ∀ g : Gr x2, g.w.cell? ⟨b, 5, none⟩ = some (.string zR) := Gr.cell ((sts2_cells (S4.out.kept Q2.out)).2.1)
  have l6 : ∀ g : Gr x2, g.w.cell? ⟨b, 6, none⟩ = some (.int .u16 6) := Gr.cell ((sts2_cells (S4.out.kept Q2.out)).2.2.1)
  have l7 : ∀ g : Gr x2, g.w.cell? ⟨b, 7, none⟩ = some (.int .u16 1) := Gr.cell ((sts2_cells (S4.out.kept Q2.out)).2.2.2.1)
  have l8 : ∀ g : Gr x2, g.w.cell? ⟨b, 8, none⟩ = some (.int .u32 9) := Gr.cell ((sts2_cells (S4.out.kept Q2.out)).2.2.2.2.1)
  have l9 : ∀ g : Gr x2, g.w.cell? ⟨b, 9, none⟩ = some (.slice (some ⟨g1, 0, none⟩) 1 1) := Gr.cell ((sts2_cells (S4.out.kept Q2.out)).2.2.2.2.2)
  refine wpSegs_quiet rfl ?_
  simp only [List.filterMap_cons, List.filterMap_nil, List.getElem?_toArray, List.getElem?_cons_succ, List.getElem?_cons_zero]
  show wpQuiet _ _ _ _ [_, _, _, _, _, _] _
  repeat (go_big_quiet_step (fail))
  refine wpQuiet_nil ?_
  clear a0 a1 a2 a3 a4 l5 l6 l7 l8 l9
  refine wpSegs_one (by simp only [List.getElem?_toArray, List.getElem?_cons_succ, List.getElem?_cons_zero]; exact rfl) ?_
  go_wp2_with fail
  refine (same_at (ofS zR 9 d256 g1) (.slice Ac 1 cc) x2 (OC4.out.kept0 Q2.out) ((S4.out.2 _ (by simp)).kept Q2.out) (show 1 ≤ 1000000 by omega)).mono ?_
  rintro e x3 ⟨rfl, hg⟩
  have Q3 := Lib.hid (gtrans Q2.out hg)
  have D3 := Lib.hid (gblock hg D2.out (by simp))
  have R3 := Lib.hid hg
  clear hg Q2 D2
  go_wp2_with fail
  refine ⟨R3.out, ?_⟩
  clear R3
  have a0 : ∀ g : Gr x3, g.w.cell? ⟨k2, 0, none⟩ = some (.string zE) := Gr.cell (bcellAt (gblock Q3.out B4.out (by simp)) 0)
  have a1 : ∀ g : Gr x3, g.w.cell? ⟨k2, 1, none⟩ = some (.int .u16 6) := Gr.cell (bcellAt (gblock Q3.out B4.out (by simp)) 1)
  have a2 : ∀ g : Gr x3, g.w.cell? ⟨k2, 2, none⟩ = some (.int .u16 1) := Gr.cell (bcellAt (gblock Q3.out B4.out (by simp)) 2)
  have a3 : ∀ g : Gr x3, g.w.cell? ⟨k2, 3, none⟩ = some (.int .u32 9) := Gr.cell (bcellAt (gblock Q3.out B4.out (by simp)) 3)
  have a4 : ∀ g : Gr x3, g.w.cell? ⟨k2, 4, none⟩ = some (.slice Aa 1 ca) := Gr.cell (bcellAt (gblock Q3.out B4.out (by simp)) 4)
  refine wpSegs_quiet rfl ?_
  simp only [List.filterMap_cons, List.filterMap_nil, List.getElem?_toArray, List.getElem?_cons_succ, List.getElem?_cons_zero]
  show wpQuiet _ _ _ _ [_, _, _] _
  repeat (go_big_quiet_step (fail))
  refine wpQuiet_nil ?_
  clear a0 a1 a2 a3 a4
  refine wpSegs_one (by simp only [List.getElem?_toArray, List.getElem?_cons_succ, List.getElem?_cons_zero]; exact rfl) ?_
  go_wp2_with fail
  refine (time_at (ofS zE 9 d5 g0) (.slice Aa 1 ca) x3 5 (HE.out.kept (gtrans G4.out Q3.out) (by simp)) (OA4.out.kept0 Q3.out) exd_small (tm5 _)).mono ?_
  rintro e x4 ⟨rfl, hg⟩
  have Q4 := Lib.hid (gtrans Q3.out hg)
  have D4 := Lib.hid (gblock hg D3.out (by simp))
  have R4 := Lib.hid hg
  clear hg Q3 D3
  go_wp2_with fail
  refine ⟨R4.out, ?_⟩
  clear R4
  have a0 : ∀ g : Gr x4, g.w.cell? ⟨k4, 0, none⟩ = some (.string zR) := Gr.cell (bcellAt D4.out 0)
  have a1 : ∀ g : Gr x4, g.w.cell? ⟨k4, 1, none⟩ = some (.int .u16 6) := Gr.cell (bcellAt D4.out 1)
  have a2 : ∀ g : Gr x4, g.w.cell? ⟨k4, 2, none⟩ = some (.int .u16 1) := Gr.cell (bcellAt D4.out 2)
  have a3 : ∀ g : Gr x4, g.w.cell? ⟨k4, 3, none⟩ = some (.int .u32 9) := Gr.cell (bcellAt D4.out 3)
  have a4 : ∀ g : Gr x4, g.w.cell? ⟨k4, 4, none⟩ = some (.slice Ac 1 cc) := Gr.cell (bcellAt D4.out 4)
  refine wpSegs_quiet rfl ?_
  simp only [List.filterMap_cons, List.filterMap_nil, List.getElem?_toArray, List.getElem?_cons_succ, List.getElem?_cons_zero]
  show wpQuiet _ _ _ _ [_, _, _, _] _
  repeat (go_big_quiet_step (fail))
  refine wpQuiet_nil ?_
  clear a0 a1 a2 a3 a4
  refine wpSegs_one (by simp only [List.getElem?_toArray, List.getElem?_cons_succ, List.getElem?_cons_zero]; exact rfl) ?_
  go_wp2_with fail
  refine (time_at (ofS zR 9 d256 g1) (.slice Ac 1 cc) x4 9 (HE.out.kept (gtrans G4.out Q4.out) (by simp)) (OC4.out.kept0 Q4.out) exd_small (tm9 _)).mono ?_
  rintro e x5 ⟨rfl, hg⟩
  have Q5 := Lib.hid (gtrans Q4.out hg)
  have D5 := Lib.hid (gblock hg D4.out (by simp))
  have R5 := Lib.hid hg
  clear hg Q4 D4
  go_wp2_with fail
  refine ⟨R5.out, ?_⟩
  clear R5
  refine wpSegs_quiet rfl ?_
  simp only [List.filterMap_cons, List.filterMap_nil, List.getElem?_toArray, List.getElem?_cons_succ, List.getElem?_cons_zero]
  show wpQuiet _ _ _ _ [_, _, _] _
  repeat (go_big_quiet_step (fail))
  refine wpQuiet_nil ?_
  refine wpSegs_one (by simp only [List.getElem?_toArray, List.getElem?_cons_succ, List.getElem?_cons_zero]; exact rfl) ?_
  go_wp2_with fail
  refine (of_any zR 9 dFF x5 (by decide)).mono ?_
  rintro e x6 ⟨g2, rfl, hs, hg⟩
  have Q6 := Lib.hid (gtrans Q5.out hg)
  have D6 := Lib.hid (gblock hg D5.out (by simp))
  have R6 := Lib.hid hg
  clear hg Q5 D5
  have HS := Lib.hid hs
  clear hs
  simp only [St.val, ofS]
  go_wp2_with fail
  refine ⟨R6.out, ?_⟩
  clear R6
  refine wpSegs_one (by simp only [List.getElem?_toArray, List.getElem?_cons_succ, List.getElem?_cons_zero]; exact rfl) ?_
  go_wp2_with fail
  refine (time_at (ofS zR 9 dFF g2) (.slice (some ⟨g2, 0, none⟩) 1 1) x6 0 (HE.out.kept (gtrans G4.out Q6.out) (by simp)) HS.out exd_small (tm0 _)).mono ?_
  rintro e x7 ⟨rfl, hg⟩
  have Q7 := Lib.hid (gtrans Q6.out hg)
  have D7 := Lib.hid (gblock hg D6.out (by simp))
  have R7 := Lib.hid hg
  clear hg Q6 D6
  go_wp2_with fail
  refine ⟨R7.out, ?_⟩
  clear R7
  refine wpSegs_quiet rfl ?_
  simp only [List.filterMap_cons, List.filterMap_nil, List.getElem?_toArray, List.getElem?_cons_succ, List.getElem?_cons_zero]
  show wpQuiet _ _ _ _ [_, _, _, _, _, _, _, _, _, _, _] _
  repeat (go_big_quiet_step (fail))
  refine wpQuiet_nil ?_
  refine wpSegs_done ?_
  go_wp2_with fail
  go_ret
  exact ⟨rfl, gtrans G4.out Q7.out⟩
end Go.Proofs.YtomjiephbacocaaDoor
