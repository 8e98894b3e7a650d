/-
  Wire: awake.
-/
import Derived.Test.YthgendgmlpaglaaDoorWiY
namespace Go.Proofs.YthgendgmlpaglaaDoor
open Go.RowKit

theorem wpList_load_rowG {P : Program} {ops : Array Oper} {rest : List Oper} {o : Oper} {a : Act} {w : World} {Q : Exit → Act → World → Prop} (hw : Region.wanted o (yielded ops a.tmps) = true) (ty : TypeId) (x : Operand) (ho : o.op = .load ty x)
    (g : Nat) (hx : a.eval x = .pointer (some ⟨g, 0, none⟩)) (t : TypeId) (cs : Array Value) (fr : Nat × Nat) (d : TypeDesc) (hg : w.heap[g]? = some (.cells cs t fr))
    (hu : P.underlying ty = some d) (hd : (match d with | .struct _ | .array _ _ => true | _ => false) = true) (hi : (P.info? ty).map (·.size) = some cs.size)
    (h : wpList P ops Q rest (a.put o.dst (.agg cs)) w) : wpList P ops Q (o :: rest) a w := by
  unfold wpList
  rw [if_pos hw]
  exact .inl (wp_load_row ty x ho g hx t cs fr d hg hu hd hi h)
theorem sl_row (w : World) (k n : Nat) (xs : List Value) (e : TypeId) (h : xs.length = n * k) : Sl (w.alloc (.cells xs.toArray e)) k (.slice (some ⟨w.heap.size, 0, none⟩) n n) n xs :=
  ⟨_, _, rfl, Nat.le_refl _, h, by simp, fun _ => ⟨_, _, rfl, fun j u hu => by
    rw [bcellAt (balloc w _)]
    simpa using hu⟩⟩
theorem mk10 (w : World) : (Instr.makeSlice 26 (.int .i64 10) (.int .i64 10)).run Tryd.prog w = .ok (.slice (some ⟨w.heap.size, 0, none⟩) 10 10) (w.alloc (.cells #[.int .u8 0, .int .u8 0, .int .u8 0, .int .u8 0, .int .u8 0, .int .u8 0, .int .u8 0, .int .u8 0, .int .u8 0, .int .u8 0] 5)) := by kernel_rfl
theorem mk11 (w : World) : (Instr.makeSlice 26 (.int .i64 11) (.int .i64 11)).run Tryd.prog w = .ok (.slice (some ⟨w.heap.size, 0, none⟩) 11 11) (w.alloc (.cells #[.int .u8 0, .int .u8 0, .int .u8 0, .int .u8 0, .int .u8 0, .int .u8 0, .int .u8 0, .int .u8 0, .int .u8 0, .int .u8 0, .int .u8 0] 5)) := by kernel_rfl
set_option maxRecDepth 100000 in
set_option maxHeartbeats 8000000 in
theorem awake_any (w : World) (he : Et w) (hb : Bt w) : Calls Tryd.prog 4 #[] w fun e w' => e = .returned (.bool true) ∧ w.grownBy w' none := by
  have HE := Lib.hid he
  have HB := Lib.hid hb
  clear he hb
  have B1 := Lib.hid (show ((w.alloc (.cells #[.string ⟨#[2, 101, 120, 0]⟩, .int .u16 1, .int .u16 1] 42)).alloc (.cells #[.int .u16 0, .bool false, .int .u8 0, .bool false, .bool false, .bool false, .bool false, .bool false, .bool false, .bool false, .int .u8 0, .slice none 0 0, .slice none 0 0, .slice none 0 0, .slice none 0 0, .bool false, .int .u16 0, .int .u8 0, .int .u8 0, .int .u16 0, .slice none 0 0] 37)).heap[w.heap.size + 1]? = some (.cells #[.int .u16 0, .bool false, .int .u8 0, .bool false, .bool false, .bool false, .bool false, .bool false, .bool false, .bool false, .int .u8 0, .slice none 0 0, .slice none 0 0, .slice none 0 0, .slice none 0 0, .bool false, .int .u16 0, .int .u8 0, .int .u8 0, .int .u16 0, .slice none 0 0] 37 (0, 0)) from heap_alloc2_new w _ _)
  have BX := Lib.hid (show (((w.alloc (.cells #[.string ⟨#[2, 101, 120, 0]⟩, .int .u16 1, .int .u16 1] 42)).alloc (.cells #[.int .u16 0, .bool false, .int .u8 0, .bool false, .bool false, .bool false, .bool false, .bool false, .bool false, .bool false, .int .u8 0, .slice none 0 0, .slice none 0 0, .slice none 0 0, .slice none 0 0, .bool false, .int .u16 0, .int .u8 0, .int .u8 0, .int .u16 0, .slice none 0 0] 37)).setRow (w.heap.size + 1) #[.int .u16 1, .bool false, .int .u8 0, .bool false, .bool false, .bool true, .bool false, .bool false, .bool false, .bool false, .int .u8 0, .slice (some ⟨w.heap.size, 0, none⟩) 1 1, .slice none 0 0, .slice none 0 0, .slice none 0 0, .bool false, .int .u16 0, .int .u8 0, .int .u8 0, .int .u16 0, .slice none 0 0]).heap[w.heap.size + 1]? = some (.cells #[.int .u16 1, .bool false, .int .u8 0, .bool false, .bool false, .bool true, .bool false, .bool false, .bool false, .bool false, .int .u8 0, .slice (some ⟨w.heap.size, 0, none⟩) 1 1, .slice none 0 0, .slice none 0 0, .slice none 0 0, .bool false, .int .u16 0, .int .u8 0, .int .u8 0, .int .u16 0, .slice none 0 0] 37 (0, 0)) from bsetR B1.out _)
  have G := Lib.hid (gsetRow (galloc (galloc (grefl w none) (.cells #[.string ⟨#[2, 101, 120, 0]⟩, .int .u16 1, .int .u16 1] 42)) (.cells #[.int .u16 0, .bool false, .int .u8 0, .bool false, .bool false, .bool false, .bool false, .bool false, .bool false, .bool false, .int .u8 0, .slice none 0 0, .slice none 0 0, .slice none 0 0, .slice none 0 0, .bool false, .int .u16 0, .int .u8 0, .int .u8 0, .int .u16 0, .slice none 0 0] 37)) (show w.heap.size ≤ w.heap.size + 1 from by omega) #[.int .u16 1, .bool false, .int .u8 0, .bool false, .bool false, .bool true, .bool false, .bool false, .bool false, .bool false, .int .u8 0, .slice (some ⟨w.heap.size, 0, none⟩) 1 1, .slice none 0 0, .slice none 0 0, .slice none 0 0, .bool false, .int .u16 0, .int .u8 0, .int .u8 0, .int .u16 0, .slice none 0 0])
  have SQ := Lib.hid (show Qs (((w.alloc (.cells #[.string ⟨#[2, 101, 120, 0]⟩, .int .u16 1, .int .u16 1] 42)).alloc (.cells #[.int .u16 0, .bool false, .int .u8 0, .bool false, .bool false, .bool false, .bool false, .bool false, .bool false, .bool false, .int .u8 0, .slice none 0 0, .slice none 0 0, .slice none 0 0, .slice none 0 0, .bool false, .int .u16 0, .int .u8 0, .int .u8 0, .int .u16 0, .slice none 0 0] 37)).setRow (w.heap.size + 1) #[.int .u16 1, .bool false, .int .u8 0, .bool false, .bool false, .bool true, .bool false, .bool false, .bool false, .bool false, .int .u8 0, .slice (some ⟨w.heap.size, 0, none⟩) 1 1, .slice none 0 0, .slice none 0 0, .slice none 0 0, .bool false, .int .u16 0, .int .u8 0, .int .u8 0, .int .u16 0, .slice none 0 0]) (.slice (some ⟨w.heap.size, 0, none⟩) 1 1) [qA] from (((sl_row w 3 1 [.string ⟨#[2, 101, 120, 0]⟩, .int .u16 1, .int .u16 1] 42 rfl).kept0 (galloc (grefl _ none) (.cells #[.int .u16 0, .bool false, .int .u8 0, .bool false, .bool false, .bool false, .bool false, .bool false, .bool false, .bool false, .int .u8 0, .slice none 0 0, .slice none 0 0, .slice none 0 0, .slice none 0 0, .bool false, .int .u16 0, .int .u8 0, .int .u8 0, .int .u16 0, .slice none 0 0] 37))).kept (grow_row _ (w.heap.size + 1) #[.int .u16 1, .bool false, .int .u8 0, .bool false, .bool false, .bool true, .bool false, .bool false, .bool false, .bool false, .int .u8 0, .slice (some ⟨w.heap.size, 0, none⟩) 1 1, .slice none 0 0, .slice none 0 0, .slice none 0 0, .bool false, .int .u16 0, .int .u8 0, .int .u8 0, .int .u16 0, .slice none 0 0]) (fun b e => .inr (by cases e; simp [Value.ownBlock]))))
  go_enter Tryd.func4, Tryd.ntmps4
  go_wp2_with (first | refine wpList_store_row rfl 37 _ _ rfl (w.heap.size + 1) #[.int .u16 1, .bool false, .int .u8 0, .bool false, .bool false, .bool true, .bool false, .bool false, .bool false, .bool false, .int .u8 0, .slice (some ⟨w.heap.size, 0, none⟩) 1 1, .slice none 0 0, .slice none 0 0, .slice none 0 0, .bool false, .int .u16 0, .int .u8 0, .int .u8 0, .int .u16 0, .slice none 0 0] rfl rfl 37 _ B1.out (by kernel_rfl) rfl (by kernel_rfl) ?_ | refine wpList_load_row rfl 37 _ rfl (w.heap.size + 1) rfl _ _ _ _ BX.out Tryd.underlying37 rfl (by kernel_rfl) ?_)
  generalize (((w.alloc (.cells #[.string ⟨#[2, 101, 120, 0]⟩, .int .u16 1, .int .u16 1] 42)).alloc (.cells #[.int .u16 0, .bool false, .int .u8 0, .bool false, .bool false, .bool false, .bool false, .bool false, .bool false, .bool false, .int .u8 0, .slice none 0 0, .slice none 0 0, .slice none 0 0, .slice none 0 0, .bool false, .int .u16 0, .int .u8 0, .int .u8 0, .int .u16 0, .slice none 0 0] 37)).setRow (w.heap.size + 1) #[.int .u16 1, .bool false, .int .u8 0, .bool false, .bool false, .bool true, .bool false, .bool false, .bool false, .bool false, .int .u8 0, .slice (some ⟨w.heap.size, 0, none⟩) 1 1, .slice none 0 0, .slice none 0 0, .slice none 0 0, .bool false, .int .u16 0, .int .u8 0, .int .u8 0, .int .u16 0, .slice none 0 0]) = w2 at *
  clear B1
  have BW := Lib.hid (show w.heap.size + 1 < w2.heap.size from blt BX.out)
  have EV : mA.val (.slice (some ⟨w.heap.size, 0, none⟩) 1 1) (.slice none 0 0) (.slice none 0 0) (.slice none 0 0) (.slice none 0 0) = .agg #[.int .u16 1, .bool false, .int .u8 0, .bool false, .bool false, .bool true, .bool false, .bool false, .bool false, .bool false, .int .u8 0, .slice (some ⟨w.heap.size, 0, none⟩) 1 1, .slice none 0 0, .slice none 0 0, .slice none 0 0, .bool false, .int .u16 0, .int .u8 0, .int .u8 0, .int .u16 0, .slice none 0 0] := by kernel_rfl
  have HC := encode_any w2 mA (.slice (some ⟨w.heap.size, 0, none⟩) 1 1) (.slice none 0 0) (.slice none 0 0) (.slice none 0 0) (.slice none 0 0) (HE.out.kept G.out (by simp)) (HB.out.kept G.out (by simp)) ⟨SQ.out, Sl.nil _ _, Sl.nil _ _, Sl.nil _ _, Sl.nil _ _⟩ mA_rng
  rw [EV, mA_out.1, mA_out.2] at HC
  refine Calls.mono HC ?_
  clear HC EV
  rintro e w3 ⟨rfl, hg⟩
  have B3 := Lib.hid (gblock hg BX.out (by simp))
  have G3 := Lib.hid (gtrans G.out hg)
  have S3 := Lib.hid (SQ.out.kept hg)
  clear hg BX G SQ BW
  have n0 : (bA == [0, 1, 1, 0, 0, 1, 0, 0, 0, 0, 0, 0, 2, 101, 120, 0, 0, 1, 0, 1]) = true := by decide +kernel
  have q1 : w3.cell? ⟨w.heap.size + 1, 1, none⟩ = some (.bool false) := bcellAt B3.out 1
  have q2 : w3.frozen? ⟨w.heap.size + 1, 1, none⟩ = false := bfree B3.out 1
  have BW3 := Lib.hid (show w.heap.size + 1 < w3.heap.size from blt B3.out)
  have g4 : w3.grownBy (w3.setCell ⟨w.heap.size + 1, 1, none⟩ (.bool true)) (some (w.heap.size + 1)) := gset (grefl _ _) (p := ⟨w.heap.size + 1, 1, none⟩) (.inl rfl) _
  have g5 := galloc (grefl (w3.setCell ⟨w.heap.size + 1, 1, none⟩ (.bool true)) none) (.cells #[.string ⟨#[2, 101, 120, 0]⟩, .int .u16 1, .int .u16 1, .int .u32 5, .string ⟨#[10, 0, 0, 1]⟩] 47)
  have B5 := Lib.hid (gblock g5 (bset B3.out 1 (.bool true)) (by simp))
  have q3 : ((w3.setCell ⟨w.heap.size + 1, 1, none⟩ (.bool true)).alloc (.cells #[.string ⟨#[2, 101, 120, 0]⟩, .int .u16 1, .int .u16 1, .int .u32 5, .string ⟨#[10, 0, 0, 1]⟩] 47)).cell? ⟨w.heap.size + 1, 12, none⟩ = some (.slice none 0 0) := bcellAt B5.out 12
  have q4 : ((w3.setCell ⟨w.heap.size + 1, 1, none⟩ (.bool true)).alloc (.cells #[.string ⟨#[2, 101, 120, 0]⟩, .int .u16 1, .int .u16 1, .int .u32 5, .string ⟨#[10, 0, 0, 1]⟩] 47)).frozen? ⟨w.heap.size + 1, 12, none⟩ = false := bfree B5.out 12
  have g6 : ((w3.setCell ⟨w.heap.size + 1, 1, none⟩ (.bool true)).alloc (.cells #[.string ⟨#[2, 101, 120, 0]⟩, .int .u16 1, .int .u16 1, .int .u32 5, .string ⟨#[10, 0, 0, 1]⟩] 47)).grownBy (((w3.setCell ⟨w.heap.size + 1, 1, none⟩ (.bool true)).alloc (.cells #[.string ⟨#[2, 101, 120, 0]⟩, .int .u16 1, .int .u16 1, .int .u32 5, .string ⟨#[10, 0, 0, 1]⟩] 47)).setCell ⟨w.heap.size + 1, 12, none⟩ (.slice (some ⟨w3.heap.size, 0, none⟩) 1 1)) (some (w.heap.size + 1)) := gset (grefl _ _) (p := ⟨w.heap.size + 1, 12, none⟩) (.inl rfl) _
  have B6 := Lib.hid (show (((w3.setCell ⟨w.heap.size + 1, 1, none⟩ (.bool true)).alloc (.cells #[.string ⟨#[2, 101, 120, 0]⟩, .int .u16 1, .int .u16 1, .int .u32 5, .string ⟨#[10, 0, 0, 1]⟩] 47)).setCell ⟨w.heap.size + 1, 12, none⟩ (.slice (some ⟨w3.heap.size, 0, none⟩) 1 1)).heap[w.heap.size + 1]? = some (.cells #[.int .u16 1, .bool true, .int .u8 0, .bool false, .bool false, .bool true, .bool false, .bool false, .bool false, .bool false, .int .u8 0, .slice (some ⟨w.heap.size, 0, none⟩) 1 1, .slice (some ⟨w3.heap.size, 0, none⟩) 1 1, .slice none 0 0, .slice none 0 0, .bool false, .int .u16 0, .int .u8 0, .int .u8 0, .int .u16 0, .slice none 0 0] 37 (0, 0)) from bset B5.out 12 _)
  have sz4 : (w3.setCell ⟨w.heap.size + 1, 1, none⟩ (.bool true)).heap.size = w3.heap.size := by simp [World.setCell]
  have SA6 := Lib.hid (show Rs (((w3.setCell ⟨w.heap.size + 1, 1, none⟩ (.bool true)).alloc (.cells #[.string ⟨#[2, 101, 120, 0]⟩, .int .u16 1, .int .u16 1, .int .u32 5, .string ⟨#[10, 0, 0, 1]⟩] 47)).setCell ⟨w.heap.size + 1, 12, none⟩ (.slice (some ⟨w3.heap.size, 0, none⟩) 1 1)) (.slice (some ⟨w3.heap.size, 0, none⟩) 1 1) [rA] from by
    have h := sl_row (w3.setCell ⟨w.heap.size + 1, 1, none⟩ (.bool true)) 5 1 [.string ⟨#[2, 101, 120, 0]⟩, .int .u16 1, .int .u16 1, .int .u32 5, .string ⟨#[10, 0, 0, 1]⟩] 47 rfl
    rw [sz4] at h
    exact h.kept g6 (fun b e => .inr (by cases e; have := BW3.out; simp [Value.ownBlock]; omega)))
  have SQ6 := Lib.hid (show Qs (((w3.setCell ⟨w.heap.size + 1, 1, none⟩ (.bool true)).alloc (.cells #[.string ⟨#[2, 101, 120, 0]⟩, .int .u16 1, .int .u16 1, .int .u32 5, .string ⟨#[10, 0, 0, 1]⟩] 47)).setCell ⟨w.heap.size + 1, 12, none⟩ (.slice (some ⟨w3.heap.size, 0, none⟩) 1 1)) (.slice (some ⟨w.heap.size, 0, none⟩) 1 1) [qA] from ((Sl.kept S3.out g4 (fun b e => .inr (by cases e; simp [Value.ownBlock]))).kept0 g5).kept g6 (fun b e => .inr (by cases e; simp [Value.ownBlock])))
  have G6 := Lib.hid (gset2 (gtrans (gset2 G3.out (p := ⟨w.heap.size + 1, 1, none⟩) (v := .bool true) (by show w.heap.size ≤ w.heap.size + 1; omega)) g5) (p := ⟨w.heap.size + 1, 12, none⟩) (v := .slice (some ⟨w3.heap.size, 0, none⟩) 1 1) (by show w.heap.size ≤ w.heap.size + 1; omega))
  clear g4 g5 g6 sz4 B5 B3 S3 G3
  go_wp2_with (refine wpList_load_row rfl 37 _ rfl (w.heap.size + 1) rfl _ _ _ _ B6.out Tryd.underlying37 rfl (by kernel_rfl) ?_)
  generalize has : w3.heap.size = ab at *
  clear has
  generalize ((w3.setCell ⟨w.heap.size + 1, 1, none⟩ (.bool true)).alloc (.cells #[.string ⟨#[2, 101, 120, 0]⟩, .int .u16 1, .int .u16 1, .int .u32 5, .string ⟨#[10, 0, 0, 1]⟩] 47)).setCell ⟨w.heap.size + 1, 12, none⟩ (.slice (some ⟨ab, 0, none⟩) 1 1) = w6 at *
  have EV : mB.val (.slice (some ⟨w.heap.size, 0, none⟩) 1 1) (.slice (some ⟨ab, 0, none⟩) 1 1) (.slice none 0 0) (.slice none 0 0) (.slice none 0 0) = .agg #[.int .u16 1, .bool true, .int .u8 0, .bool false, .bool false, .bool true, .bool false, .bool false, .bool false, .bool false, .int .u8 0, .slice (some ⟨w.heap.size, 0, none⟩) 1 1, .slice (some ⟨ab, 0, none⟩) 1 1, .slice none 0 0, .slice none 0 0, .bool false, .int .u16 0, .int .u8 0, .int .u8 0, .int .u16 0, .slice none 0 0] := by kernel_rfl
  have HC := encode_any w6 mB (.slice (some ⟨w.heap.size, 0, none⟩) 1 1) (.slice (some ⟨ab, 0, none⟩) 1 1) (.slice none 0 0) (.slice none 0 0) (.slice none 0 0) (HE.out.kept G6.out (by simp)) (HB.out.kept G6.out (by simp)) ⟨SQ6.out, SA6.out, Sl.nil _ _, Sl.nil _ _, Sl.nil _ _⟩ mB_rng
  rw [EV, mB_out.1, mB_out.2] at HC
  refine Calls.mono HC ?_
  clear HC
  rintro e w7 ⟨rfl, hg⟩
  have B7 := Lib.hid (gblock hg B6.out (by simp))
  have G7 := Lib.hid (gtrans G6.out hg)
  have SQ7 := Lib.hid (SQ6.out.kept hg)
  have SA7 := Lib.hid (SA6.out.kept hg)
  clear hg B6 G6 SQ6 SA6 n0 q1 q2 q3 q4 BW3
  have EVh := Lib.hid EV
  clear EV
  go_wp2_with fail
  have HD := decode_any w7 tB (HE.out.kept G7.out (by simp)) (HB.out.kept G7.out (by simp))
  refine Calls.mono HD ?_
  clear HD
  rintro e w8 ⟨hg, wq, wa, wu, wx, wo, rfl, hf⟩
  rw [dcB.1] at hf
  rw [dcB.1, dcB.2]
  obtain ⟨Bq, dq, rfl⟩ := hf.q.len
  obtain ⟨Ba, da, rfl⟩ := hf.a.len
  obtain ⟨Bu, du, rfl⟩ := hf.u.len
  obtain ⟨Bx, dx, rfl⟩ := hf.x.len
  obtain ⟨Bo, dd, rfl⟩ := hf.o.len
  have F8 := Lib.hid hf
  have B8 := Lib.hid (gblock hg B7.out (by simp))
  have G8 := Lib.hid (gtrans G7.out hg)
  have SQ8 := Lib.hid (SQ7.out.kept hg)
  have SA8 := Lib.hid (SA7.out.kept hg)
  clear hg hf B7 G7 SQ7 SA7
  rw [Ms.val_cells]
  have g9 := galloc (grefl w8 none) (.cells #[.int .u16 0, .bool false, .int .u8 0, .bool false, .bool false, .bool false, .bool false, .bool false, .bool false, .bool false, .int .u8 0, .slice none 0 0, .slice none 0 0, .slice none 0 0, .slice none 0 0, .bool false, .int .u16 0, .int .u8 0, .int .u8 0, .int .u16 0, .slice none 0 0] 37)
  have M8 := Lib.hid (balloc w8 (.cells #[.int .u16 0, .bool false, .int .u8 0, .bool false, .bool false, .bool false, .bool false, .bool false, .bool false, .bool false, .int .u8 0, .slice none 0 0, .slice none 0 0, .slice none 0 0, .slice none 0 0, .bool false, .int .u16 0, .int .u8 0, .int .u8 0, .int .u16 0, .slice none 0 0] 37))
  obtain ⟨C9, hC9⟩ : ∃ C, C = mB.cells (.slice Bq mB.qs.length dq) (.slice Ba mB.an.length da) (.slice Bu mB.au.length du) (.slice Bx mB.ex.length dx) (.slice Bo mB.ops.length dd) := ⟨_, rfl⟩
  rw [← hC9]
  have HC9 := Lib.hid hC9
  have g10 := gsetRow g9 (Nat.le_refl _) C9
  have M9 := Lib.hid (bsetR M8.out C9)
  have B9 := Lib.hid (gblock g10 B8.out (by simp))
  have G9 := Lib.hid (gtrans G8.out g10)
  have F9 := Lib.hid (F8.out.kept g10)
  have SQ9 := Lib.hid (SQ8.out.kept g10)
  have SA9 := Lib.hid (SA8.out.kept g10)
  have hs9 : (Array.all C9 (·.oneCell')) = true := by rw [hC9]; kernel_rfl
  have hz9 : C9.size = 21 := by rw [hC9]; rfl
  clear g9 g10 hC9 G8 B8 F8 SQ8 SA8
  go_wp2_with (refine wpList_store_row rfl 37 _ _ rfl w8.heap.size C9 rfl rfl 37 _ M8.out (by rw [hz9]; kernel_rfl) hz9.symm hs9 ?_)
  clear M8 hs9
  generalize (w8.alloc (.cells #[.int .u16 0, .bool false, .int .u8 0, .bool false, .bool false, .bool false, .bool false, .bool false, .bool false, .bool false, .int .u8 0, .slice none 0 0, .slice none 0 0, .slice none 0 0, .slice none 0 0, .bool false, .int .u16 0, .int .u8 0, .int .u8 0, .int .u16 0, .slice none 0 0] 37)).setRow w8.heap.size C9 = w9 at *
  generalize w8.heap.size = mb at *
  have EVC : mC.val (.slice none 0 0) (.slice none 0 0) (.slice none 0 0) (.slice none 0 0) (.slice none 0 0) = .agg #[.int .u16 7, .bool false, .int .u8 0, .bool false, .bool false, .bool false, .bool false, .bool false, .bool false, .bool false, .int .u8 0, .slice none 0 0, .slice none 0 0, .slice none 0 0, .slice none 0 0, .bool false, .int .u16 0, .int .u8 0, .int .u8 0, .int .u16 0, .slice none 0 0] := by kernel_rfl
  have HC := encode_any w9 mC (.slice none 0 0) (.slice none 0 0) (.slice none 0 0) (.slice none 0 0) (.slice none 0 0) (HE.out.kept G9.out (by simp)) (HB.out.kept G9.out (by simp)) ⟨Sl.nil _ _, Sl.nil _ _, Sl.nil _ _, Sl.nil _ _, Sl.nil _ _⟩ mC_rng
  rw [EVC, mC_out.1, mC_out.2] at HC
  refine Calls.mono HC ?_
  clear HC EVC
  rintro e wa ⟨rfl, hga⟩
  have Ga := Lib.hid (gtrans G9.out hga)
  have EVD : mD.val (.slice none 0 0) (.slice none 0 0) (.slice none 0 0) (.slice none 0 0) (.slice none 0 0) = .agg #[.int .u16 0, .bool false, .int .u8 0, .bool false, .bool false, .bool false, .bool false, .bool false, .bool false, .bool false, .int .u8 0, .slice none 0 0, .slice none 0 0, .slice none 0 0, .slice none 0 0, .bool true, .int .u16 1232, .int .u8 0, .int .u8 0, .int .u16 0, .slice none 0 0] := by kernel_rfl
  have HC := encode_any wa mD (.slice none 0 0) (.slice none 0 0) (.slice none 0 0) (.slice none 0 0) (.slice none 0 0) (HE.out.kept Ga.out (by simp)) (HB.out.kept Ga.out (by simp)) ⟨Sl.nil _ _, Sl.nil _ _, Sl.nil _ _, Sl.nil _ _, Sl.nil _ _⟩ mD_rng
  rw [EVD, mD_out.1, mD_out.2] at HC
  have HD := Lib.hid HC
  clear HC EVD
  go_wp2_with fail
  refine Calls.mono HD.out ?_
  rintro e wb ⟨rfl, hgb⟩
  have Gb := Lib.hid (gtrans Ga.out hgb)
  have gab := gtrans hga hgb
  have Bb := Lib.hid (gblock gab B9.out (by simp))
  have Mb := Lib.hid (gblock gab M9.out (by simp))
  have Fb := Lib.hid (F9.out.kept gab)
  have SQb := Lib.hid (SQ9.out.kept gab)
  have SAb := Lib.hid (SA9.out.kept gab)
  clear hga hgb gab HD B9 M9 G9 F9 SQ9 SA9 Ga
  have z1 : (⟨bA.toArray⟩ : ByteArray).size = 20 := by decide +kernel
  have z2 : ((⟨#[0, 1, 129, 0, 0, 1, 0, 1, 0, 0, 0, 0]⟩ : ByteArray) ++ (⟨bA.toArray⟩ : ByteArray).extract 12 20 ++ ⟨#[192, 12, 0, 1, 0, 1, 0, 0, 0, 5, 0, 4, 10, 0, 0, 1]⟩) = tB := by decide +kernel
  have z3 : (bB == tB.toList) = true := by decide +kernel
  go_wp2_with (first | refine wpList_load_rowG rfl 37 _ rfl (w.heap.size + 1) rfl _ _ _ _ Bb.out Tryd.underlying37 rfl (by kernel_rfl) ?_ | refine wpList_load_rowG rfl 37 _ rfl mb rfl _ _ _ _ Mb.out Tryd.underlying37 rfl (by rw [hz9]; kernel_rfl) ?_)
  have HS := rfsame_any wb mB mB _ _ _ _ _ _ _ _ _ _ Fb.out.v (⟨SQb.out, SAb.out, Sl.nil _ _, Sl.nil _ _, Sl.nil _ _⟩ : MsV wb mB (.slice (some ⟨w.heap.size, 0, none⟩) 1 1) (.slice (some ⟨ab, 0, none⟩) 1 1) (.slice none 0 0) (.slice none 0 0) (.slice none 0 0)) (by decide) (by decide) (by decide) (by decide) (by decide)
  rw [EVh.out, Ms.val_cells, ← HC9.out, decide_eq_true (Eq.refl mB)] at HS
  refine Calls.mono HS ?_
  clear HS Fb SQb SAb Bb Mb EVh HC9 z1 z2 z3
  rintro e wc ⟨rfl, hg⟩
  have Gc := Lib.hid (gtrans Gb.out hg)
  clear hg Gb
  have cv10 := cvs (sl_new wc 5 [0, 0, 0, 0, 0, 0, 0, 0, 0, 0] #[.int .u8 0, .int .u8 0, .int .u8 0, .int .u8 0, .int .u8 0, .int .u8 0, .int .u8 0, .int .u8 0, .int .u8 0, .int .u8 0] 10 rfl rfl)
  rw [show (ByteArray.mk [0, 0, 0, 0, 0, 0, 0, 0, 0, 0].toArray) = (⟨#[0, 0, 0, 0, 0, 0, 0, 0, 0, 0]⟩ : ByteArray) from rfl] at cv10
  have mk10 := mk10 wc
  have cv11 := cvs (sl_new (wc.alloc (.cells #[.int .u8 0, .int .u8 0, .int .u8 0, .int .u8 0, .int .u8 0, .int .u8 0, .int .u8 0, .int .u8 0, .int .u8 0, .int .u8 0] 5)) 5 [0, 0, 0, 0, 0, 0, 0, 0, 0, 0, 0] #[.int .u8 0, .int .u8 0, .int .u8 0, .int .u8 0, .int .u8 0, .int .u8 0, .int .u8 0, .int .u8 0, .int .u8 0, .int .u8 0, .int .u8 0] 11 rfl rfl)
  rw [show (ByteArray.mk [0, 0, 0, 0, 0, 0, 0, 0, 0, 0, 0].toArray) = (⟨#[0, 0, 0, 0, 0, 0, 0, 0, 0, 0, 0]⟩ : ByteArray) from rfl] at cv11
  have mk11 := mk11 (wc.alloc (.cells #[.int .u8 0, .int .u8 0, .int .u8 0, .int .u8 0, .int .u8 0, .int .u8 0, .int .u8 0, .int .u8 0, .int .u8 0, .int .u8 0] 5))
  simp only [asz] at cv11 mk11
  have z4 : (bC == ((⟨#[0, 7]⟩ : ByteArray) ++ ⟨#[0, 0, 0, 0, 0, 0, 0, 0, 0, 0]⟩).toList) = true := by decide +kernel
  have z5 : (bD == ((⟨#[0, 0, 0, 0, 0, 0, 0, 0, 0, 0, 0]⟩ : ByteArray) ++ ⟨#[1, 0, 0, 41, 4, 208, 0, 0, 0, 0, 0, 0]⟩).toList) = true := by decide +kernel
  go_wp2_with fail
  refine bodyPost_ret (v := .bool true) (by kernel_rfl) rfl ⟨rfl, galloc (galloc Gc.out (.cells #[.int .u8 0, .int .u8 0, .int .u8 0, .int .u8 0, .int .u8 0, .int .u8 0, .int .u8 0, .int .u8 0, .int .u8 0, .int .u8 0] 5)) (.cells #[.int .u8 0, .int .u8 0, .int .u8 0, .int .u8 0, .int .u8 0, .int .u8 0, .int .u8 0, .int .u8 0, .int .u8 0, .int .u8 0, .int .u8 0] 5)⟩
end Go.Proofs.YthgendgmlpaglaaDoor
