/-
  Wire: read.
-/
import Derived.Test.YthgendgmlpaglaaDoorA19
import Derived.Test.YthgendgmlpaglaaDoorA12
import Derived.Deep.MidRow
namespace Go.Proofs.YthgendgmlpaglaaDoor
open Go.RowKit

theorem gof {a b c : World} {m : Nat} (g : a.grownBy b none) (h : b.grownBy c (some m)) (hm : a.heap.size ≤ m) : a.grownBy c none :=
  ⟨h.os.trans g.os, h.tape.trans g.tape, h.output.trans g.output, Nat.le_trans g.size h.size, fun k hk hn => (h.block k (Nat.lt_of_lt_of_le hk g.size) (by simp; omega)).trans (g.block k hk hn)⟩
theorem tgof {a b c : World} {m n : Nat} (g : a.grownBy b none) (h : TG b c m (some n)) (hm : a.heap.size ≤ m ∧ a.heap.size ≤ n) : a.grownBy c none :=
  ⟨h.os.trans g.os, h.tape.trans g.tape, h.output.trans g.output, Nat.le_trans g.size h.size, fun k hk hn => (h.block k (Nat.lt_of_lt_of_le hk g.size) (by omega) (by simp; omega)).trans (g.block k hk hn)⟩
theorem FS.keptTG {w w' : World} {base k n rb bc : Nat} {e : TypeId} {v : Value} {xs : List Value} (h : FS w base e k v n xs) (t : TG w w' bc (some rb)) (hr : rb < base) (hc : bc < base) : FS w' base e k v n xs := by
  refine ⟨h.1, ?_⟩
  rcases h.2 with h2 | ⟨g', cap, cur, rfl, h4, h5, h6⟩
  · exact .inl h2
  · exact .inr ⟨g', cap, cur, rfl, h4, (t.block g' (blt h5) (by omega) (by simp; omega)).trans h5, h6⟩
theorem Rb.range {w : World} {rb bc p : Nat} {s : ByteArray} {h : Hd} {vq va vu vx : Value} {d : Ed} {vo : Value} (r : Rb w rb bc s p h vq va vu vx d vo) : w.rangeAt rb 2 ((rcs s bc h vq va vu vx d vo).toList.drop 2) := fun j v hj => by
  rw [List.getElem?_drop] at hj
  rw [bcellAt r.blk (2 + j), ← hj]
  simp
instance (B : Nat) (w : World) : Inhabited (GrR (KB B) w) := ⟨⟨w, KB.refl B w⟩⟩
set_option maxRecDepth 100000 in
set_option maxHeartbeats 8000000 in
theorem rread_long (w : World) (s : ByteArray) (he : Et w) (hb : Bt w) (h12 : 12 ≤ s.size) (hs : s.size ≤ 65535) :
    Calls Tryd.prog 11 #[.string s] w (RmPost (rdM s) w) := by
  have HE := Lib.hid he
  have HB := Lib.hid hb
  have hm : s.size ≤ maxLen := by unfold maxLen; omega
  obtain ⟨H, hH⟩ : ∃ H, fromN (num s 0 2) (num s 2 2) = H := ⟨_, rfl⟩
  obtain ⟨n0, hn0⟩ : ∃ n, num s 4 2 = n := ⟨_, rfl⟩
  obtain ⟨n1, hn1⟩ : ∃ n, num s 6 2 = n := ⟨_, rfl⟩
  obtain ⟨n2, hn2⟩ : ∃ n, num s 8 2 = n := ⟨_, rfl⟩
  obtain ⟨n3, hn3⟩ : ∃ n, num s 10 2 = n := ⟨_, rfl⟩
  have L0 := Lib.hid (show n0 ≤ 65535 from by have := num_lt s 4 2; omega)
  have L1 := Lib.hid (show n1 ≤ 65535 from by have := num_lt s 6 2; omega)
  have L2 := Lib.hid (show n2 ≤ 65535 from by have := num_lt s 8 2; omega)
  have L3 := Lib.hid (show n3 ≤ 65535 from by have := num_lt s 10 2; omega)
  have RK := fun (w' : World) (g : w.grownBy w' none) => read_ok s w' (he.kept g (by simp)) (hb.kept g (by simp)) h12 hm
  rw [hH, hn0, hn1, hn2, hn3] at RK
  have RK := Lib.hid RK
  have HID := Lib.hid (show H.id < 65536 from by rw [← hH]; exact num_lt s 0 2)
  obtain ⟨Q0, hQ0⟩ : ∃ r, rdQs s n0 12 = r := ⟨_, rfl⟩
  have RM := Lib.hid (show rdM s = rdG s H n1 n2 n3 Q0 from by
    unfold rdM
    rw [if_neg (by omega), if_neg (by omega), hn0, hn1, hn2, hn3, hH, hQ0])
  have SO := Lib.hid (show QsSo s Q0 n0 [] 12 from by unfold QsSo; rw [Qq.pre_nil, hQ0])
  have HQ0 := Lib.hid hQ0
  generalize rdM s = RR at *
  clear he hb hH hn0 hn1 hn2 hn3 hQ0
  have k0 : decide ((65535 : Int) < (s.size : Int)) = false := by simp; omega
  go_enter Tryd.func11, Tryd.ntmps11
  go_wp2_with fail
  refine Calls.mono (RK.out _ (galloc (grefl w none) _)) ?_
  rintro e w1 ⟨rfl, hg1⟩
  unfold Hd.v cv
  go_wp2_with fail
  refine Calls.mono (must_ok _) ?_
  rintro e w1' ⟨rfl, rfl⟩
  have HD := Lib.hid (gblock (galloc (grefl (w1.alloc (.cells #[.int .u16 H.id, .bool H.qr, .int .u8 H.op, .bool H.aa, .bool H.tc, .bool H.rd, .bool H.ra, .bool H.z, .bool H.ad, .bool H.cd, .int .u8 H.code] 30)) none) (.cells #[.int .i64 n0, .int .i64 n1, .int .i64 n2, .int .i64 n3] 66)) (balloc w1 (.cells #[.int .u16 H.id, .bool H.qr, .int .u8 H.op, .bool H.aa, .bool H.tc, .bool H.rd, .bool H.ra, .bool H.z, .bool H.ad, .bool H.cd, .int .u8 H.code] 30)) (by simp))
  have CT := Lib.hid (show ((w1.alloc (.cells #[.int .u16 H.id, .bool H.qr, .int .u8 H.op, .bool H.aa, .bool H.tc, .bool H.rd, .bool H.ra, .bool H.z, .bool H.ad, .bool H.cd, .int .u8 H.code] 30)).alloc (.cells #[.int .i64 n0, .int .i64 n1, .int .i64 n2, .int .i64 n3] 66)).heap[w1.heap.size + 1]? = some (.cells #[.int .i64 n0, .int .i64 n1, .int .i64 n2, .int .i64 n3] 66 (0, 0)) from heap_alloc2_new w1 _ _)
  have g2 := galloc (galloc (grefl w1 none) (.cells #[.int .u16 H.id, .bool H.qr, .int .u8 H.op, .bool H.aa, .bool H.tc, .bool H.rd, .bool H.ra, .bool H.z, .bool H.ad, .bool H.cd, .int .u8 H.code] 30)) (.cells #[.int .i64 n0, .int .i64 n1, .int .i64 n2, .int .i64 n3] 66)
  have RS := Lib.hid (gblock (gtrans hg1 g2) (balloc w (.cells #[.int .u16 0, .bool false, .int .u8 0, .bool false, .bool false, .bool false, .bool false, .bool false, .bool false, .bool false, .int .u8 0, .slice none 0 0, .slice none 0 0, .slice none 0 0, .slice none 0 0, .bool false, .int .u16 0, .int .u8 0, .int .u8 0, .int .u16 0, .slice none 0 0] 37)) (by simp))
  have G2 := Lib.hid (gtrans (gtrans (galloc (grefl w none) (.cells #[.int .u16 0, .bool false, .int .u8 0, .bool false, .bool false, .bool false, .bool false, .bool false, .bool false, .bool false, .int .u8 0, .slice none 0 0, .slice none 0 0, .slice none 0 0, .slice none 0 0, .bool false, .int .u16 0, .int .u8 0, .int .u8 0, .int .u16 0, .slice none 0 0] 37)) hg1) g2)
  have RW := Lib.hid (show w.heap.size ≤ w.heap.size from Nat.le_refl _)
  clear g2 hg1 RK k0
  go_wp2_with fail
  generalize (w1.alloc (.cells #[.int .u16 H.id, .bool H.qr, .int .u8 H.op, .bool H.aa, .bool H.tc, .bool H.rd, .bool H.ra, .bool H.z, .bool H.ad, .bool H.cd, .int .u8 H.code] 30)).alloc (.cells #[.int .i64 n0, .int .i64 n1, .int .i64 n2, .int .i64 n3] 66) = w2 at *
  generalize hb1 : w1.heap.size + 1 = cb at *
  generalize w1.heap.size = hb at *
  obtain ⟨rs, hrs⟩ : ∃ rs, w.heap.size = rs := ⟨_, rfl⟩
  rw [hrs] at RS RW ⊢
  have RSW := Lib.hid hrs
  clear hb1 hrs
  refine wp_cut (fun a w' => ∃ rb bc, (Rb w' rb bc s 0 H (.slice none 0 0) (.slice none 0 0) (.slice none 0 0) (.slice none 0 0) ed0 (.slice none 0 0) ∧ w2.grownBy w' none ∧ w2.heap.size ≤ rb ∧ w2.heap.size ≤ bc) ∧ a = { tmps := #[.string s, undef, .pointer (some ⟨rs, 0, none⟩), .pointer (some ⟨hb, 0, none⟩), .pointer (some ⟨cb, 0, none⟩), .int .i64 0, .pointer (some ⟨rb, 0, none⟩), undef, .string s, .int .i64 s.size, .bool false, undef, .tuple #[.agg #[.int .u16 H.id, .bool H.qr, .int .u8 H.op, .bool H.aa, .bool H.tc, .bool H.rd, .bool H.ra, .bool H.z, .bool H.ad, .bool H.cd, .int .u8 H.code], .agg #[.int .i64 n0, .int .i64 n1, .int .i64 n2, .int .i64 n3], .int .i64 0], .string s, .tuple #[.agg #[.int .u16 H.id, .bool H.qr, .int .u8 H.op, .bool H.aa, .bool H.tc, .bool H.rd, .bool H.ra, .bool H.z, .bool H.ad, .bool H.cd, .int .u8 H.code], .agg #[.int .i64 n0, .int .i64 n1, .int .i64 n2, .int .i64 n3], .int .i64 0], .agg #[.int .u16 H.id, .bool H.qr, .int .u8 H.op, .bool H.aa, .bool H.tc, .bool H.rd, .bool H.ra, .bool H.z, .bool H.ad, .bool H.cd, .int .u8 H.code], .agg #[.int .i64 n0, .int .i64 n1, .int .i64 n2, .int .i64 n3], .int .i64 0, .int .i64 0, .tuple #[], .string s, .string s, .pointer (some ⟨bc, 0, none⟩), .agg #[.int .u16 H.id, .bool H.qr, .int .u8 H.op, .bool H.aa, .bool H.tc, .bool H.rd, .bool H.ra, .bool H.z, .bool H.ad, .bool H.cd, .int .u8 H.code], .agg #[.int .u16 H.id, .bool H.qr, .int .u8 H.op, .bool H.aa, .bool H.tc, .bool H.rd, .bool H.ra, .bool H.z, .bool H.ad, .bool H.cd, .int .u8 H.code, .slice none 0 0, .slice none 0 0, .slice none 0 0, .slice none 0 0, .bool false, .int .u16 0, .int .u8 0, .int .u8 0, .int .u16 0, .slice none 0 0], .agg #[.string s, .pointer (some ⟨bc, 0, none⟩), .int .u16 H.id, .bool H.qr, .int .u8 H.op, .bool H.aa, .bool H.tc, .bool H.rd, .bool H.ra, .bool H.z, .bool H.ad, .bool H.cd, .int .u8 H.code, .slice none 0 0, .slice none 0 0, .slice none 0 0, .slice none 0 0, .bool false, .int .u16 0, .int .u8 0, .int .u8 0, .int .u16 0, .slice none 0 0], undef, undef, undef, undef, undef, undef, undef, undef, undef, undef, undef, undef, undef, undef, undef, undef, undef, undef, undef, undef, undef, undef, undef, undef, undef, undef, undef, undef, undef, undef, undef, undef, undef, undef, undef, undef, undef, undef, undef, undef, undef, undef, undef, undef, undef, undef, undef, undef, undef, undef, undef, undef], defers := [] }) ?_ ?_
  · have HD' := Lib.hid (show w2.drew.heap[hb]? = some (.cells #[.int .u16 H.id, .bool H.qr, .int .u8 H.op, .bool H.aa, .bool H.tc, .bool H.rd, .bool H.ra, .bool H.z, .bool H.ad, .bool H.cd, .int .u8 H.code] 30 (0, 0)) from HD.out)
    have gd := gdrew (grefl w2 none)
    refine wp_region_ur (⟨KB.refl w2.drew.heap.size, KB.trans⟩ : Rt (KB w2.drew.heap.size)) (.quiet [0, 1, 3, 4] (.two 2 (.quiet [5] (.one 6 (.one 7 .done))) 6 (.one 2 (.quiet [5] (.one 7 .done))))) (by kernel_rfl) (by kernel_rfl) ?_
    have GD := Lib.hid gd
    have SZ := Lib.hid (show w2.heap.size = w2.drew.heap.size from rfl)
    clear gd
    generalize w2.drew = wd at *
    have d0 : ∀ g : GrR (KB wd.heap.size) wd, g.w.cell? ⟨hb, 0, none⟩ = some (.int .u16 H.id) := fun g => g.h.cell (bcellAt HD'.out 0) (blt HD'.out)
    have d1 : ∀ g : GrR (KB wd.heap.size) wd, g.w.cell? ⟨hb, 1, none⟩ = some (.bool H.qr) := fun g => g.h.cell (bcellAt HD'.out 1) (blt HD'.out)
    have d2 : ∀ g : GrR (KB wd.heap.size) wd, g.w.cell? ⟨hb, 2, none⟩ = some (.int .u8 H.op) := fun g => g.h.cell (bcellAt HD'.out 2) (blt HD'.out)
    have d3 : ∀ g : GrR (KB wd.heap.size) wd, g.w.cell? ⟨hb, 3, none⟩ = some (.bool H.aa) := fun g => g.h.cell (bcellAt HD'.out 3) (blt HD'.out)
    have d4 : ∀ g : GrR (KB wd.heap.size) wd, g.w.cell? ⟨hb, 4, none⟩ = some (.bool H.tc) := fun g => g.h.cell (bcellAt HD'.out 4) (blt HD'.out)
    have d5 : ∀ g : GrR (KB wd.heap.size) wd, g.w.cell? ⟨hb, 5, none⟩ = some (.bool H.rd) := fun g => g.h.cell (bcellAt HD'.out 5) (blt HD'.out)
    have d6 : ∀ g : GrR (KB wd.heap.size) wd, g.w.cell? ⟨hb, 6, none⟩ = some (.bool H.ra) := fun g => g.h.cell (bcellAt HD'.out 6) (blt HD'.out)
    have d7 : ∀ g : GrR (KB wd.heap.size) wd, g.w.cell? ⟨hb, 7, none⟩ = some (.bool H.z) := fun g => g.h.cell (bcellAt HD'.out 7) (blt HD'.out)
    have d8 : ∀ g : GrR (KB wd.heap.size) wd, g.w.cell? ⟨hb, 8, none⟩ = some (.bool H.ad) := fun g => g.h.cell (bcellAt HD'.out 8) (blt HD'.out)
    have d9 : ∀ g : GrR (KB wd.heap.size) wd, g.w.cell? ⟨hb, 9, none⟩ = some (.bool H.cd) := fun g => g.h.cell (bcellAt HD'.out 9) (blt HD'.out)
    have d10 : ∀ g : GrR (KB wd.heap.size) wd, g.w.cell? ⟨hb, 10, none⟩ = some (.int .u8 H.code) := fun g => g.h.cell (bcellAt HD'.out 10) (blt HD'.out)
    refine wpUr_quiet rfl ?_
    simp only [List.filterMap_cons, List.filterMap_nil, List.getElem?_toArray, List.getElem?_cons_succ, List.getElem?_cons_zero]
    show wpQuiet _ _ _ _ [_, _, _, _] _
    repeat (go_big_quiet_step (fail))
    refine wpQuiet_nil ?_
    clear d0 d1 d2 d3 d4 d5 d6 d7 d8 d9 d10
    refine wpUr_two (by simp only [List.getElem?_toArray, List.getElem?_cons_succ, List.getElem?_cons_zero]; exact rfl) (by simp only [List.getElem?_toArray, List.getElem?_cons_succ, List.getElem?_cons_zero]; exact rfl) ?_ ?_
    · skip
      go_wp2_with fail
      refine Calls.mono (new_any s wd) ?_
      rintro e we ⟨rfl, hc, hg⟩
      have KE := Lib.hid (KB.of hg (Nat.le_refl wd.heap.size))
      have GE := Lib.hid hg
      have CE := Lib.hid hc
      clear hg hc
      go_wp2_with fail
      refine ⟨KE.out, ?_⟩
      refine wpUr_quiet rfl ?_
      simp only [List.filterMap_cons, List.filterMap_nil, List.getElem?_toArray, List.getElem?_cons_succ, List.getElem?_cons_zero]
      show wpQuiet _ _ _ _ [_] _
      repeat (go_big_quiet_step (fail))
      refine wpQuiet_nil ?_
      refine wpUr_one (by simp only [List.getElem?_toArray, List.getElem?_cons_succ, List.getElem?_cons_zero]; exact rfl) ?_
      go_wp2_with fail
      refine ⟨KB.of (galloc (grefl we none) _) GE.out.size, ?_⟩
      refine wpUr_one (by simp only [List.getElem?_toArray, List.getElem?_cons_succ, List.getElem?_cons_zero]; exact rfl) ?_
      refine wpList_store_row rfl 72 _ _ rfl we.heap.size (rcs s wd.heap.size H (.slice none 0 0) (.slice none 0 0) (.slice none 0 0) (.slice none 0 0) ed0 (.slice none 0 0)) rfl rfl 72 _ (balloc we _) (by kernel_rfl) rfl (by kernel_rfl) ?_
      have gw := gsetRow (galloc (grefl we none) (.cells #[.string ⟨#[]⟩, .pointer none, .int .u16 0, .bool false, .int .u8 0, .bool false, .bool false, .bool false, .bool false, .bool false, .bool false, .bool false, .int .u8 0, .slice none 0 0, .slice none 0 0, .slice none 0 0, .slice none 0 0, .bool false, .int .u16 0, .int .u8 0, .int .u8 0, .int .u16 0, .slice none 0 0] 72)) (Nat.le_refl _) (rcs s wd.heap.size H (.slice none 0 0) (.slice none 0 0) (.slice none 0 0) (.slice none 0 0) ed0 (.slice none 0 0))
      refine wpList_nil ⟨?_, wpUr_done ?_⟩
      · exact ⟨rfl, rfl, rfl, by simp [World.setRow], fun i hi => setRow_other _ _ i _ (by have := GE.out.size; omega)⟩
      · have hlt := blt CE.out
        exact ⟨we.heap.size, wd.heap.size, ⟨⟨bsetR (balloc we _) _, gblock gw CE.out (by simp), Nat.zero_le _, by omega, FS.none⟩, gtrans GD.out (gtrans GE.out gw), by have := GE.out.size; rw [SZ.out]; omega, by rw [SZ.out]; exact Nat.le_refl _⟩, rfl⟩
    · skip
      go_wp2_with fail
      refine ⟨KB.of (galloc (grefl wd none) _) (Nat.le_refl _), ?_⟩
      have GA := Lib.hid (galloc (grefl wd none) (.cells #[.string ⟨#[]⟩, .pointer none, .int .u16 0, .bool false, .int .u8 0, .bool false, .bool false, .bool false, .bool false, .bool false, .bool false, .bool false, .int .u8 0, .slice none 0 0, .slice none 0 0, .slice none 0 0, .slice none 0 0, .bool false, .int .u16 0, .int .u8 0, .int .u8 0, .int .u16 0, .slice none 0 0] 72))
      have BA := Lib.hid (balloc wd (.cells #[.string ⟨#[]⟩, .pointer none, .int .u16 0, .bool false, .int .u8 0, .bool false, .bool false, .bool false, .bool false, .bool false, .bool false, .bool false, .int .u8 0, .slice none 0 0, .slice none 0 0, .slice none 0 0, .slice none 0 0, .bool false, .int .u16 0, .int .u8 0, .int .u8 0, .int .u16 0, .slice none 0 0] 72))
      have LA := Lib.hid (show (wd.alloc (.cells #[.string ⟨#[]⟩, .pointer none, .int .u16 0, .bool false, .int .u8 0, .bool false, .bool false, .bool false, .bool false, .bool false, .bool false, .bool false, .int .u8 0, .slice none 0 0, .slice none 0 0, .slice none 0 0, .slice none 0 0, .bool false, .int .u16 0, .int .u8 0, .int .u8 0, .int .u16 0, .slice none 0 0] 72)).heap.size = wd.heap.size + 1 from World.size_alloc _ _)
      refine wpUr_one (by simp only [List.getElem?_toArray, List.getElem?_cons_succ, List.getElem?_cons_zero]; exact rfl) ?_
      go_wp2_with fail
      generalize wd.alloc (.cells #[.string ⟨#[]⟩, .pointer none, .int .u16 0, .bool false, .int .u8 0, .bool false, .bool false, .bool false, .bool false, .bool false, .bool false, .bool false, .int .u8 0, .slice none 0 0, .slice none 0 0, .slice none 0 0, .slice none 0 0, .bool false, .int .u16 0, .int .u8 0, .int .u8 0, .int .u16 0, .slice none 0 0] 72) = we at *
      refine Calls.mono (new_any s we) ?_
      rintro e wf ⟨rfl, hc, hg⟩
      have KE := Lib.hid (KB.of hg (show wd.heap.size ≤ we.heap.size from GA.out.size))
      have GE := Lib.hid hg
      have CE := Lib.hid hc
      have BE := Lib.hid (gblock hg BA.out (by simp))
      clear hg hc
      go_wp2_with fail
      refine ⟨KE.out, ?_⟩
      refine wpUr_quiet rfl ?_
      simp only [List.filterMap_cons, List.filterMap_nil, List.getElem?_toArray, List.getElem?_cons_succ, List.getElem?_cons_zero]
      show wpQuiet _ _ _ _ [_] _
      repeat (go_big_quiet_step (fail))
      refine wpQuiet_nil ?_
      refine wpUr_one (by simp only [List.getElem?_toArray, List.getElem?_cons_succ, List.getElem?_cons_zero]; exact rfl) ?_
      refine wpList_store_row rfl 72 _ _ rfl wd.heap.size (rcs s we.heap.size H (.slice none 0 0) (.slice none 0 0) (.slice none 0 0) (.slice none 0 0) ed0 (.slice none 0 0)) rfl rfl 72 _ BE.out (by kernel_rfl) rfl (by kernel_rfl) ?_
      have gw := gsetRow (gtrans GA.out GE.out) (Nat.le_refl _) (rcs s we.heap.size H (.slice none 0 0) (.slice none 0 0) (.slice none 0 0) (.slice none 0 0) ed0 (.slice none 0 0))
      have gr := grow_row wf wd.heap.size (rcs s we.heap.size H (.slice none 0 0) (.slice none 0 0) (.slice none 0 0) (.slice none 0 0) ed0 (.slice none 0 0))
      have hne : wd.heap.size ≠ we.heap.size := by have := LA.out; omega
      refine wpList_nil ⟨?_, wpUr_done ?_⟩
      · exact ⟨rfl, rfl, rfl, gr.size, fun i hi => gr.block i (Nat.lt_of_lt_of_le hi (gtrans GA.out GE.out).size) (by simp; omega)⟩
      · exact ⟨wd.heap.size, we.heap.size, ⟨⟨bsetR BE.out _, gblock gr CE.out (by simpa using fun e => hne e.symm), Nat.zero_le _, hne, FS.none⟩, gtrans GD.out gw, by rw [SZ.out]; exact Nat.le_refl _, by rw [SZ.out]; exact GA.out.size⟩, rfl⟩
  · rintro a w5 ⟨rb, bc, ⟨hrb, hg5, lrb, lbc⟩, rfl⟩
    have R5 := Lib.hid hrb
    have G5 := Lib.hid (gtrans G2.out hg5)
    have C5 := Lib.hid (gblock hg5 CT.out (by simp))
    have S5 := Lib.hid (gblock hg5 RS.out (by simp))
    have NR := Lib.hid (show cb < rb ∧ rs < rb ∧ cb < bc ∧ rs < bc from by have := blt CT.out; have := blt RS.out; omega)
    clear hrb hg5 lrb lbc G2 CT RS HD
    have r1 := R5.out.rdr.c1
    go_wp2_with fail
    refine Calls.mono (T_ok bc s 0 w5 12 R5.out.cur (by omega) hm) ?_
    rintro e w6 ⟨rfl, hc, hg⟩
    have R6 := Lib.hid (R5.out.step hg (R5.out.rdr.step hg hc (by omega)))
    have G6 := Lib.hid (gof G5.out hg (by have := NR.out; have := RSW.out; omega))
    have C6 := Lib.hid (gblock hg C5.out (by have := NR.out; simp; omega))
    have S6 := Lib.hid (gblock hg S5.out (by have := NR.out; simp; omega))
    clear hc hg R5 G5 C5 S5 r1
    go_wp2_with fail
    refine Calls.mono (must_ok w6) ?_
    rintro e w6' ⟨rfl, rfl⟩
    have k0 : w6.cell? ⟨cb, 0, none⟩ = some (.int .i64 n0) := bcellAt C6.out 0
    go_wp2_with fail
    clear k0
    have EK := Lib.hid (fun (w' : World) (t : TG w6 w' bc (some rb)) => et_tg (HE.out.kept G6.out (by simp)) R6.out t)
    have LR := Lib.hid (blt R6.out.blk)
    have LB := Lib.hid (blt R6.out.cur)
    obtain ⟨i0, hi, hz0, hz1, hz2⟩ := info_parts Tryd.infoQue
    go_loopw [36] (fun vi wr => ∃ (i p : Nat) (l : List Qn) (A : Option Addr) (cap : Nat), vi = .int .i64 i ∧ i ≤ n0 ∧ l.length ≤ i ∧ wr.ownsRow w6.heap.size 42 3 (.slice A l.length cap) l.length (qsV l) ∧ Rb wr rb bc s p H (.slice A l.length cap) (.slice none 0 0) (.slice none 0 0) (.slice none 0 0) ed0 (.slice none 0 0) ∧ TG w6 wr bc (some rb) ∧ QsSo s Q0 (n0 - i) l p) (fun vi _ => n0 - (intOf vi).toNat)
    case atStart => exact ⟨0, 12, [], none, 0, rfl, by omega, by simp, World.ownsRow_nil _ _ _ _, R6.out, TG.refl _ _ _, SO.out⟩
    case round =>
      obtain ⟨i, p, l, A, cap, rfl, hin, hli, ho, hb, ht, hso⟩ := hrel
      have O := Lib.hid ho
      have B := Lib.hid hb
      have T := Lib.hid ht
      have LI := Lib.hid hli
      have l0 := L0.out
      by_cases hlt : i < n0
      · obtain ⟨k, hk⟩ : ∃ k, n0 - i = k + 1 := ⟨n0 - i - 1, by omega⟩
        rw [hk] at hso
        have S := Lib.hid hso
        have HK := Lib.hid hk
        clear ho hb ht hso hli hk SO
        go_wp2_with fail
        cases hF : rdF s p p none [] with
        | no x =>
          refine Calls.mono (rname_no wr rb bc p s (EK.out _ T.out) B.out.rdr (by omega) hF) ?_
          rintro e w7 ⟨rfl, hg⟩
          have T1 := Lib.hid (T.out.trans (TG.ofB hg (some rb)) (fun _ e => .inl e))
          have HR := Lib.hid (show RR = .error x from by rw [RM.out, S.out.no (rdQ1_name hF)]; rfl)
          clear hF hg
          go_wp2_with fail
          exact ⟨rfl, RmPost.no HR.out (tgof G6.out T1.out (by have := NR.out; have := RSW.out; omega)) rfl⟩
        | ok nm q =>
        refine Calls.mono (rname_yes wr rb bc p s (EK.out _ T.out) B.out.rdr (by omega) hF) ?_
        rintro e w7 ⟨rfl, hg, hr⟩
        have X2 := Lib.hid (Qx.start (own_kept O.out hg LB.out) (B.out.step hg hr) (T.out.trans (TG.ofB hg (some rb)) (fun _ e => .inl e)) LR.out LB.out ⟨nm.toArray⟩)
        have HF := Lib.hid hF
        have SHORT := Lib.hid (fun hs => show RR = .error 4 from by rw [RM.out, S.out.no (rdQ1_short hF hs)]; rfl)
        clear hg hr hF O B T
        go_wp2_with fail
        generalize w7.alloc (.cells #[.string ⟨nm.toArray⟩, .int .u16 0, .int .u16 0] 42) = w8 at *
        generalize w7.heap.size = xb at *
        by_cases h2 : q + 2 ≤ s.size
        case neg =>
          refine Calls.mono (rtwo_no w8 rb bc q s (EK.out _ X2.out.t) X2.out.rdr (by omega) h2) ?_
          rintro e w9 ⟨rfl, hg⟩
          have T1 := Lib.hid (X2.out.t.trans (TG.ofB hg (some rb)) (fun _ e => .inl e))
          have HR := Lib.hid (SHORT.out (by omega))
          clear hg
          go_wp2_with fail
          exact ⟨rfl, RmPost.no HR.out (tgof G6.out T1.out (by have := NR.out; have := RSW.out; omega)) rfl⟩
        refine Calls.mono (rtwo_yes w8 rb bc q s (EK.out _ X2.out.t) X2.out.rdr (by omega) h2) ?_
        rintro e w9 ⟨rfl, hg, hr⟩
        have X3 := Lib.hid (X2.out.step hg (show Rdr w9 rb bc s (q + 2) from hr))
        clear hg hr X2
        have c1 : w9.cell? ⟨xb, 1, none⟩ = some (.int .u16 0) := bcellAt X3.out.x 1
        have f1 : w9.frozen? ⟨xb, 1, none⟩ = false := bfree X3.out.x 1
        have X4 := Lib.hid (X3.out.set 1 (.int .u16 (num s q 2)))
        go_wp2_with fail
        clear c1 f1 X3
        generalize w9.setCell ⟨xb, 1, none⟩ (.int .u16 (num s q 2)) = wa at *
        by_cases h4 : q + 2 + 2 ≤ s.size
        case neg =>
          refine Calls.mono (rtwo_no wa rb bc (q + 2) s (EK.out _ X4.out.t) X4.out.rdr (by omega) h4) ?_
          rintro e wb ⟨rfl, hg⟩
          have T1 := Lib.hid (X4.out.t.trans (TG.ofB hg (some rb)) (fun _ e => .inl e))
          have HR := Lib.hid (SHORT.out (by omega))
          clear hg
          go_wp2_with fail
          exact ⟨rfl, RmPost.no HR.out (tgof G6.out T1.out (by have := NR.out; have := RSW.out; omega)) rfl⟩
        refine Calls.mono (rtwo_yes wa rb bc (q + 2) s (EK.out _ X4.out.t) X4.out.rdr (by omega) h4) ?_
        rintro e wb ⟨rfl, hg, hr⟩
        have X5 := Lib.hid (X4.out.step hg (show Rdr wb rb bc s (q + 4) from hr))
        clear hg hr X4
        have c2 : wb.cell? ⟨xb, 2, none⟩ = some (.int .u16 0) := bcellAt X5.out.x 2
        have f2 : wb.frozen? ⟨xb, 2, none⟩ = false := bfree X5.out.x 2
        have X6 := Lib.hid (show Qx w6 rb bc s H (.slice none 0 0) (.slice none 0 0) (.slice none 0 0) A cap l (q + 4) ed0 (.slice none 0 0) xb #[.string ⟨nm.toArray⟩, .int .u16 (num s q 2), .int .u16 (num s (q + 2) 2)] (wb.setCell ⟨xb, 2, none⟩ (.int .u16 (num s (q + 2) 2))) from X5.out.set 2 (.int .u16 (num s (q + 2) 2)))
        have x0 : (wb.setCell ⟨xb, 2, none⟩ (.int .u16 (num s (q + 2) 2))).cell? ⟨xb, 0, none⟩ = some (.string ⟨nm.toArray⟩) := bcellAt X6.out.x 0
        have x1 : (wb.setCell ⟨xb, 2, none⟩ (.int .u16 (num s (q + 2) 2))).cell? ⟨xb, 1, none⟩ = some (.int .u16 (num s q 2)) := bcellAt X6.out.x 1
        have x2 : (wb.setCell ⟨xb, 2, none⟩ (.int .u16 (num s (q + 2) 2))).cell? ⟨xb, 2, none⟩ = some (.int .u16 (num s (q + 2) 2)) := bcellAt X6.out.x 2
        have x13 : (wb.setCell ⟨xb, 2, none⟩ (.int .u16 (num s (q + 2) 2))).cell? ⟨rb, 13, none⟩ = some (.slice A l.length cap) := bcellAt X6.out.b.blk 13
        have hfew := LI.out
        go_wp2_with (at_builtin; refine wpList_append_own _ rfl (.tmp 46) (.tmp 48) 31 rfl w6.heap.size 42 i0 _ 3 24 Tryd.underlying31 hi hz0 hz1 hz2 rfl (by omega) (.slice A l.length cap) l.length (qsV l) rfl (own_kept0 X6.out.own (galloc (grefl _ none) _)) ⟨wb.heap.size, 0, none⟩ 1 1 [.string ⟨nm.toArray⟩, .int .u16 (num s q 2), .int .u16 (num s (q + 2) 2)] rfl rfl ?c1 ?c2 ?c3 ?c4 ?c5 ?_)
        case c1 =>
          have e := new_row (wb.setCell ⟨xb, 2, none⟩ (.int .u16 (num s (q + 2) 2))) [.string ⟨nm.toArray⟩, .int .u16 (num s q 2), .int .u16 (num s (q + 2) 2)] 42
          rwa [show (wb.setCell ⟨xb, 2, none⟩ (.int .u16 (num s (q + 2) 2))).heap.size = wb.heap.size from by simp [World.setCell]] at e
        case c2 => intro u hu; simp at hu; rcases hu with rfl | rfl | rfl <;> rfl
        case c3 => unfold maxLen; omega
        case c4 => omega
        case c5 => have := X6.out.t.size; simp at this ⊢; omega
        intro v' we hown6 hg6 _
        have TB := X6.out.kept (galloc (grefl (wb.setCell ⟨xb, 2, none⟩ (.int .u16 (num s (q + 2) 2))) none) (.cells #[.string ⟨nm.toArray⟩, .int .u16 (num s q 2), .int .u16 (num s (q + 2) 2)] 42))
        have BE := Lib.hid (TB.b.app TB.own (by decide) hg6 LR.out LB.out)
        have TE := Lib.hid (TB.t.app TB.own hg6 (Nat.le_refl _))
        have OE := Lib.hid (show we.ownsRow w6.heap.size 42 3 v' (l ++ [Qn.mk ⟨nm.toArray⟩ (num s q 2) (num s (q + 2) 2)]).length (qsV (l ++ [Qn.mk ⟨nm.toArray⟩ (num s q 2) (num s (q + 2) 2)])) from by
          rw [List.length_append, qsV_append]
          exact hown6)
        obtain ⟨A', cap', rfl, _, _⟩ := own_shape hown6
        have c13 : we.cell? ⟨rb, 13, none⟩ = some (.slice A l.length cap) := bcellAt BE.out.blk 13
        have f13 : we.frozen? ⟨rb, 13, none⟩ = false := bfree BE.out.blk 13
        have SE := Lib.hid (S.out.put (rdQ1_ok HF.out (by omega)))
        have gs : we.grownBy (we.setCell ⟨rb, 13, none⟩ (.slice A' (l.length + 1) cap')) (some rb) := gset (grefl we _) (p := ⟨rb, 13, none⟩) (.inl rfl) _
        have B' := Lib.hid (BE.out.set13 (.slice A' (l.length + 1) cap') BE.out.vo_ne)
        have T' := Lib.hid (TE.out.trans (TG.ofM (b := bc) gs) (fun _ e => .inl e))
        have O' := Lib.hid (own_kept OE.out gs LR.out)
        clear TB hown6 hg6 x0 x1 x2 x13 X6 X5 c2 f2 gs BE TE OE S SHORT HF
        go_wp2_with fail
        go_roundw
        case rel => exact ⟨i + 1, _, l ++ [Qn.mk ⟨nm.toArray⟩ (num s q 2) (num s (q + 2) 2)], A', cap', by go_num, by omega, by rw [List.length_append]; have := LI.out; simp; omega, by have := O'.out; rw [List.length_append] at this ⊢; exact this, by have := B'.out; rw [List.length_append]; exact this, T'.out, by rw [show n0 - (i + 1) = k from by have := HK.out; omega]; exact SE.out⟩
        case measure => simp [intOf]; omega
      · have k1 : decide ((i : Int) < (n0 : Int)) = false := by simp; omega
        rw [show n0 - i = 0 from by omega] at hso
        have HQ := Lib.hid hso.done
        have HRQ := Lib.hid (HQ0.out.trans HQ.out)
        have RA := Lib.hid (show RR = rdA s H n1 n2 n3 l p from by rw [RM.out, HQ.out]; rfl)
        have LP := Lib.hid (show cb < w6.heap.size ∧ rs < w6.heap.size ∧ w.heap.size ≤ rb ∧ w.heap.size ≤ bc from ⟨blt C6.out, blt S6.out, by have := NR.out; have := RSW.out; omega⟩)
        have Ga := Lib.hid (tgof G6.out T.out (by have := LP.out; omega))
        have Ca := Lib.hid (show wr.heap[cb]? = some (.cells #[.int .i64 n0, .int .i64 n1, .int .i64 n2, .int .i64 n3] 66 (0, 0)) from (T.out.block cb (blt C6.out) (by have := NR.out; omega) (by have := NR.out; simp; omega)).trans C6.out)
        have Sa := Lib.hid ((T.out.block rs (blt S6.out) (by have := NR.out; omega) (by have := NR.out; simp; omega)).trans S6.out)
        have Fq := Lib.hid (show FS wr (max rb bc + 1) 42 3 (.slice A l.length cap) l.length (qsV l) from (FS.of O.out).mono (by have := LR.out; have := LB.out; omega))
        have Ba := B
        clear ho hb ht hso SO RM O B T LI EK G6 C6 S6 R6
        have ka : wr.cell? ⟨cb, 1, none⟩ = some (.int .i64 n1) := bcellAt Ca.out 1
        go_wp2_with fail
        clear ka
        obtain ⟨Rr0, hRr0⟩ : ∃ r, rdRs s false n1 p ed0 = r := ⟨_, rfl⟩
        have hcall := rrecs_any wr rb bc p s H (.slice A l.length cap) (.slice none 0 0) (.slice none 0 0) (.slice none 0 0) ed0 (.slice none 0 0) n1 false (HE.out.kept Ga.out (by simp)) Ba.out (by omega) (by have := L1.out; omega)
        rw [hRr0] at hcall
        refine Calls.mono hcall ?_
        clear hcall
        rintro e wy0 hy
        unfold RqPost at hy
        obtain ⟨ht, hy⟩ := hy
        have Gb := Lib.hid (tgof Ga.out ht (by have := LP.out; omega))
        have HRr0 := Lib.hid hRr0
        clear hRr0
        cases hrr : Rr0 with
        | no x =>
          rw [hrr] at hy
          subst hy
          have HR := Lib.hid (show RR = .error x from by rw [RA.out]; unfold rdA; rw [HRr0.out, hrr])
          clear hrr ht
          go_wp2_with fail
          exact ⟨rfl, RmPost.no HR.out Gb.out rfl⟩
        | ok an p0 d0 =>
        rw [hrr] at hy
        obtain ⟨v0, vo0, rfl, hfs, hb0⟩ := hy
        obtain ⟨A0, cap0, rfl⟩ := hfs.len
        have HRk0 := Lib.hid (HRr0.out.trans hrr)
        have RB0 := Lib.hid (show RR = rdU s H n2 n3 l an p0 d0 from by rw [RA.out]; unfold rdA; rw [HRk0.out])
        clear hrr RA
        have lrw := LP.out
        have gs : wy0.grownBy (wy0.setCell ⟨rb, 14, none⟩ (.slice A0 an.length cap0)) (some rb) := gset (grefl wy0 _) (p := ⟨rb, 14, none⟩) (.inl rfl) _
        have lrb := blt Ba.out.blk
        have lbc := blt Ba.out.cur
        have Fq' := Lib.hid ((Fq.out.keptTG ht (by omega) (by omega)).keptb gs (by omega))
        have Fa := Lib.hid ((hfs.mono (show max rb bc + 1 ≤ _ from by omega)).keptb gs (by omega))
        have Cb := Lib.hid (gblock gs ((ht.block cb (by have := blt Ca.out; omega) (by have := NR.out; omega) (by have := NR.out; simp; omega)).trans Ca.out) (by have := NR.out; simp; omega))
        have Sb := Lib.hid (gblock gs ((ht.block rs (by have := blt Sa.out; omega) (by have := NR.out; omega) (by have := NR.out; simp; omega)).trans Sa.out) (by have := NR.out; simp; omega))
        have Bb := Lib.hid (hb0.set14 (.slice A0 an.length cap0))
        have Gc := Lib.hid (gof Gb.out gs (by omega))
        have cc : wy0.cell? ⟨rb, 14, none⟩ = some (.slice none 0 0) := bcellAt hb0.blk 14
        have fc : wy0.frozen? ⟨rb, 14, none⟩ = false := bfree hb0.blk 14
        clear Fq
        have Fq := Fq'
        clear Fq'
        clear ht hfs hb0 Ca Sa Ba Ga Gb gs lrb lbc lrw
        have ka : (wy0.setCell ⟨rb, 14, none⟩ (.slice A0 an.length cap0)).cell? ⟨cb, 2, none⟩ = some (.int .i64 n2) := bcellAt Cb.out 2
        go_wp2_with fail
        clear ka cc fc
        generalize wy0.setCell ⟨rb, 14, none⟩ (.slice A0 an.length cap0) = wz0 at *
        have Ga := Gc
        have Ca := Cb
        have Sa := Sb
        have Ba := Bb
        have RA := RB0
        clear Gc Cb Sb Bb RB0
        obtain ⟨Rr1, hRr1⟩ : ∃ r, rdRs s false n2 p0 d0 = r := ⟨_, rfl⟩
        have hcall := rrecs_any wz0 rb bc p0 s H (.slice A l.length cap) (.slice A0 an.length cap0) (.slice none 0 0) (.slice none 0 0) d0 vo0 n2 false (HE.out.kept Ga.out (by simp)) Ba.out (by omega) (by have := L2.out; omega)
        rw [hRr1] at hcall
        refine Calls.mono hcall ?_
        clear hcall
        rintro e wy1 hy
        unfold RqPost at hy
        obtain ⟨ht, hy⟩ := hy
        have Gb := Lib.hid (tgof Ga.out ht (by have := LP.out; omega))
        have HRr1 := Lib.hid hRr1
        clear hRr1
        cases hrr : Rr1 with
        | no x =>
          rw [hrr] at hy
          subst hy
          have HR := Lib.hid (show RR = .error x from by rw [RA.out]; unfold rdU; rw [HRr1.out, hrr])
          clear hrr ht
          go_wp2_with fail
          exact ⟨rfl, RmPost.no HR.out Gb.out rfl⟩
        | ok au p1 d1 =>
        rw [hrr] at hy
        obtain ⟨v1, vo1, rfl, hfs, hb1⟩ := hy
        obtain ⟨A1, cap1, rfl⟩ := hfs.len
        have HRk1 := Lib.hid (HRr1.out.trans hrr)
        have RB1 := Lib.hid (show RR = rdX s H n3 l an au p1 d1 from by rw [RA.out]; unfold rdU; rw [HRk1.out])
        clear hrr RA
        have lrw := LP.out
        have gs : wy1.grownBy (wy1.setCell ⟨rb, 15, none⟩ (.slice A1 au.length cap1)) (some rb) := gset (grefl wy1 _) (p := ⟨rb, 15, none⟩) (.inl rfl) _
        have lrb := blt Ba.out.blk
        have lbc := blt Ba.out.cur
        have Fq' := Lib.hid ((Fq.out.keptTG ht (by omega) (by omega)).keptb gs (by omega))
        have Fa' := Lib.hid ((Fa.out.keptTG ht (by omega) (by omega)).keptb gs (by omega))
        have Fu := Lib.hid ((hfs.mono (show max rb bc + 1 ≤ _ from by omega)).keptb gs (by omega))
        have Cb := Lib.hid (gblock gs ((ht.block cb (by have := blt Ca.out; omega) (by have := NR.out; omega) (by have := NR.out; simp; omega)).trans Ca.out) (by have := NR.out; simp; omega))
        have Sb := Lib.hid (gblock gs ((ht.block rs (by have := blt Sa.out; omega) (by have := NR.out; omega) (by have := NR.out; simp; omega)).trans Sa.out) (by have := NR.out; simp; omega))
        have Bb := Lib.hid (hb1.set15 (.slice A1 au.length cap1))
        have Gc := Lib.hid (gof Gb.out gs (by omega))
        have cc : wy1.cell? ⟨rb, 15, none⟩ = some (.slice none 0 0) := bcellAt hb1.blk 15
        have fc : wy1.frozen? ⟨rb, 15, none⟩ = false := bfree hb1.blk 15
        clear Fq
        have Fq := Fq'
        clear Fq'
        clear Fa
        have Fa := Fa'
        clear Fa'
        clear ht hfs hb1 Ca Sa Ba Ga Gb gs lrb lbc lrw
        have ka : (wy1.setCell ⟨rb, 15, none⟩ (.slice A1 au.length cap1)).cell? ⟨cb, 3, none⟩ = some (.int .i64 n3) := bcellAt Cb.out 3
        go_wp2_with fail
        clear ka cc fc
        generalize wy1.setCell ⟨rb, 15, none⟩ (.slice A1 au.length cap1) = wz1 at *
        have Ga := Gc
        have Ca := Cb
        have Sa := Sb
        have Ba := Bb
        have RA := RB1
        clear Gc Cb Sb Bb RB1
        obtain ⟨Rr2, hRr2⟩ : ∃ r, rdRs s true n3 p1 d1 = r := ⟨_, rfl⟩
        have hcall := rrecs_any wz1 rb bc p1 s H (.slice A l.length cap) (.slice A0 an.length cap0) (.slice A1 au.length cap1) (.slice none 0 0) d1 vo1 n3 true (HE.out.kept Ga.out (by simp)) Ba.out (by omega) (by have := L3.out; omega)
        rw [hRr2] at hcall
        refine Calls.mono hcall ?_
        clear hcall
        rintro e wy2 hy
        unfold RqPost at hy
        obtain ⟨ht, hy⟩ := hy
        have Gb := Lib.hid (tgof Ga.out ht (by have := LP.out; omega))
        have HRr2 := Lib.hid hRr2
        clear hRr2
        cases hrr : Rr2 with
        | no x =>
          rw [hrr] at hy
          subst hy
          have HR := Lib.hid (show RR = .error x from by rw [RA.out]; unfold rdX; rw [HRr2.out, hrr])
          clear hrr ht
          go_wp2_with fail
          exact ⟨rfl, RmPost.no HR.out Gb.out rfl⟩
        | ok ex p2 d2 =>
        rw [hrr] at hy
        obtain ⟨v2, vo2, rfl, hfs, hb2⟩ := hy
        obtain ⟨A2, cap2, rfl⟩ := hfs.len
        have HRk2 := Lib.hid (HRr2.out.trans hrr)
        have RB2 := Lib.hid (show RR = rdEnd s p2 (msOf H l an au ex d2) from by rw [RA.out]; unfold rdX; rw [HRk2.out])
        clear hrr RA
        have lrw := LP.out
        have gs : wy2.grownBy (wy2.setCell ⟨rb, 16, none⟩ (.slice A2 ex.length cap2)) (some rb) := gset (grefl wy2 _) (p := ⟨rb, 16, none⟩) (.inl rfl) _
        have lrb := blt Ba.out.blk
        have lbc := blt Ba.out.cur
        have Fq' := Lib.hid ((Fq.out.keptTG ht (by omega) (by omega)).keptb gs (by omega))
        have Fa' := Lib.hid ((Fa.out.keptTG ht (by omega) (by omega)).keptb gs (by omega))
        have Fu' := Lib.hid ((Fu.out.keptTG ht (by omega) (by omega)).keptb gs (by omega))
        have Fx := Lib.hid ((hfs.mono (show max rb bc + 1 ≤ _ from by omega)).keptb gs (by omega))
        have Cb := Lib.hid (gblock gs ((ht.block cb (by have := blt Ca.out; omega) (by have := NR.out; omega) (by have := NR.out; simp; omega)).trans Ca.out) (by have := NR.out; simp; omega))
        have Sb := Lib.hid (gblock gs ((ht.block rs (by have := blt Sa.out; omega) (by have := NR.out; omega) (by have := NR.out; simp; omega)).trans Sa.out) (by have := NR.out; simp; omega))
        have Bb := Lib.hid (hb2.set16 (.slice A2 ex.length cap2))
        have Gc := Lib.hid (gof Gb.out gs (by omega))
        have cc : wy2.cell? ⟨rb, 16, none⟩ = some (.slice none 0 0) := bcellAt hb2.blk 16
        have fc : wy2.frozen? ⟨rb, 16, none⟩ = false := bfree hb2.blk 16
        clear Fq
        have Fq := Fq'
        clear Fq'
        clear Fa
        have Fa := Fa'
        clear Fa'
        clear Fu
        have Fu := Fu'
        clear Fu'
        clear ht hfs hb2 Ca Sa Ba Ga Gb gs lrb lbc lrw
        have ka : (wy2.setCell ⟨rb, 16, none⟩ (.slice A2 ex.length cap2)).cell? ⟨rb, 1, none⟩ = some (.pointer (some ⟨bc, 0, none⟩)) := Bb.out.rdr.c1
        go_wp2_with fail
        clear ka cc fc
        generalize wy2.setCell ⟨rb, 16, none⟩ (.slice A2 ex.length cap2) = wz2 at *
        have Ga := Gc
        have Ca := Cb
        have Sa := Sb
        have Ba := Bb
        have RA := RB2
        clear Gc Cb Sb Bb RB2
        refine Calls.mono (left_any bc s p2 wz2 Ba.out.cur Ba.out.le hm) ?_
        rintro e wl ⟨rfl, hg⟩
        have Gl := Lib.hid (gtrans Ga.out hg)
        have Bl := Lib.hid (Ba.out.kept hg)
        have Sl := Lib.hid (gblock hg Sa.out (by simp))
        have Fq' := Lib.hid (Fq.out.kept0 hg)
        have Fa' := Lib.hid (Fa.out.kept0 hg)
        have Fu' := Lib.hid (Fu.out.kept0 hg)
        have Fx' := Lib.hid (Fx.out.kept0 hg)
        clear hg Ga Ba Sa Ca Fq Fa Fu Fx
        by_cases hp : p2 < s.size
        · have hk : decide ((0 : Int) < (s.size : Int) - (p2 : Int)) = true := by simp; omega
          have HR := Lib.hid (show RR = .error 5 from by rw [RA.out]; unfold rdEnd; rw [if_pos hp])
          go_wp2_with fail
          refine Calls.mono (must_no 5 (by decide) wl) ?_
          rintro e wm ⟨rfl, rfl⟩
          go_wp2_with fail
          exact ⟨rfl, RmPost.no HR.out Gl.out rfl⟩
        have hk : decide ((0 : Int) < (s.size : Int) - (p2 : Int)) = false := by simp; omega
        obtain ⟨m, hmsg⟩ : ∃ m, msOf H l an au ex d2 = m := ⟨_, rfl⟩
        have HM := Lib.hid hmsg
        have RE := Lib.hid (show RR = if m.wE = 0 then .ok m else .error m.wE from by rw [RA.out, hmsg]; unfold rdEnd; rw [if_neg hp])
        have RG := Lib.hid (Bl.out.range)
        have HVl := Lib.hid (show MsV wl m (.slice A l.length cap) (.slice A0 an.length cap0) (.slice A1 au.length cap1) (.slice A2 ex.length cap2) vo2 from by
          rw [← hmsg]
          exact ⟨Fq'.out.sl, Fa'.out.sl, Fu'.out.sl, Fx'.out.sl, Bl.out.ops.sl⟩)
        have WW := wwrite_any wl m (.slice A l.length cap) (.slice A0 an.length cap0) (.slice A1 au.length cap1) (.slice A2 ex.length cap2) vo2 (HE.out.kept Gl.out (by simp)) (HB.out.kept Gl.out (by simp)) HVl.out (by
          rw [← hmsg]
          exact msOf_rng HID.out (L3.out) hs HRQ.out HRk0.out HRk1.out HRk2.out)
        have EV := Lib.hid (show m.val (.slice A l.length cap) (.slice A0 an.length cap0) (.slice A1 au.length cap1) (.slice A2 ex.length cap2) vo2 = .agg #[.int .u16 H.id, .bool H.qr, .int .u8 H.op, .bool H.aa, .bool H.tc, .bool H.rd, .bool H.ra, .bool H.z, .bool H.ad, .bool H.cd, .int .u8 H.code, .slice A l.length cap, .slice A0 an.length cap0, .slice A1 au.length cap1, .slice A2 ex.length cap2, .bool d2.has, .int .u16 d2.sz, .int .u8 d2.e, .int .u8 d2.v, .int .u16 d2.f, vo2] from by rw [← hmsg]; rfl)
        rw [EV.out] at WW
        have WW := Lib.hid WW
        clear hmsg RA
        go_wp2_with (refine wpList_load_mid rfl 37 _ rfl rb 2 rfl [.int .u16 H.id, .bool H.qr, .int .u8 H.op, .bool H.aa, .bool H.tc, .bool H.rd, .bool H.ra, .bool H.z, .bool H.ad, .bool H.cd, .int .u8 H.code, .slice A l.length cap, .slice A0 an.length cap0, .slice A1 au.length cap1, .slice A2 ex.length cap2, .bool d2.has, .int .u16 d2.sz, .int .u8 d2.e, .int .u8 d2.v, .int .u16 d2.f, vo2] _ RG.out Tryd.underlying37 rfl (by kernel_rfl) ?_)
        refine Calls.mono WW.out ?_
        rintro e wf hw
        unfold WPost at hw
        obtain ⟨hgw, hw⟩ := hw
        by_cases hE : m.wE = 0
        case neg =>
          rw [if_neg hE] at hw
          subst hw
          have HR := Lib.hid (show RR = .error m.wE from by rw [RE.out, if_neg hE])
          have Gf := Lib.hid (gtrans Gl.out hgw)
          clear hE hgw
          go_wp2_with fail
          exact ⟨rfl, RmPost.no HR.out Gf.out rfl⟩
        rw [if_pos hE] at hw
        obtain ⟨vw, rfl, _⟩ := hw
        have HR := Lib.hid (show RR = .ok m from by rw [RE.out, if_pos hE])
        have Gf := Lib.hid (gtrans Gl.out hgw)
        have RF := Lib.hid ((Bl.out.kept hgw).range)
        have SF := Lib.hid (gblock hgw Sl.out (by simp))
        have Fq := Lib.hid (Fq'.out.kept0 hgw)
        have Fa := Lib.hid (Fa'.out.kept0 hgw)
        have Fu := Lib.hid (Fu'.out.kept0 hgw)
        have Fx := Lib.hid (Fx'.out.kept0 hgw)
        have Bf := Lib.hid (Bl.out.kept hgw)
        clear hE hgw RG RE WW Gl Bl Sl Fq' Fa' Fu' Fx' hk HVl hp
        obtain ⟨Ao, co, hvo⟩ := Bf.out.ops.len
        subst hvo
        go_wp2_with (first | refine wpList_load_mid rfl 37 _ rfl rb 2 rfl [.int .u16 H.id, .bool H.qr, .int .u8 H.op, .bool H.aa, .bool H.tc, .bool H.rd, .bool H.ra, .bool H.z, .bool H.ad, .bool H.cd, .int .u8 H.code, .slice A l.length cap, .slice A0 an.length cap0, .slice A1 au.length cap1, .slice A2 ex.length cap2, .bool d2.has, .int .u16 d2.sz, .int .u8 d2.e, .int .u8 d2.v, .int .u16 d2.f, .slice Ao d2.ops.length co] _ RF.out Tryd.underlying37 rfl (by kernel_rfl) ?_ | refine wpList_store_row rfl 37 _ _ rfl rs #[.int .u16 H.id, .bool H.qr, .int .u8 H.op, .bool H.aa, .bool H.tc, .bool H.rd, .bool H.ra, .bool H.z, .bool H.ad, .bool H.cd, .int .u8 H.code, .slice A l.length cap, .slice A0 an.length cap0, .slice A1 au.length cap1, .slice A2 ex.length cap2, .bool d2.has, .int .u16 d2.sz, .int .u8 d2.e, .int .u8 d2.v, .int .u16 d2.f, .slice Ao d2.ops.length co] rfl rfl 37 _ SF.out (by kernel_rfl) rfl (by kernel_rfl) ?_)
        have nr := NR.out
        have gr := grow_row wf rs #[.int .u16 H.id, .bool H.qr, .int .u8 H.op, .bool H.aa, .bool H.tc, .bool H.rd, .bool H.ra, .bool H.z, .bool H.ad, .bool H.cd, .int .u8 H.code, .slice A l.length cap, .slice A0 an.length cap0, .slice A1 au.length cap1, .slice A2 ex.length cap2, .bool d2.has, .int .u16 d2.sz, .int .u8 d2.e, .int .u8 d2.v, .int .u16 d2.f, .slice Ao d2.ops.length co]
        refine bodyPost_ret (results_cell_row rfl _ _ rs _ _ _ _ rfl (bsetR SF.out _) Tryd.underlying37 rfl (by kernel_rfl)) rfl ?_
        refine RmPost.yes HR.out (gsetRow Gf.out (by have := RSW.out; omega) _) (congrArg _ EV.out.symm) ?_
        rw [← HM.out]
        have rsw := RSW.out
        exact MsF.mono (base := max rb bc + 1) ⟨Fq.out.keptb gr (by omega), Fa.out.keptb gr (by omega), Fu.out.keptb gr (by omega), Fx.out.keptb gr (by omega), Bf.out.ops.keptb gr (by omega)⟩ (by omega)
end Go.Proofs.YthgendgmlpaglaaDoor
