/-
  Wire: head, and the messages of limits.
  Wire: limits.
  Wire: bytes of one's own: a string is appended, a byte is set.
  A drawn region whose operations only make new memory, in whatever order they come: each leaves a value of which something is known that new memory leaves true.
-/
import Derived.Test.YthgendgmlpaglaaDoorA29
import Derived.Test.YthgendgmlpaglaaDoorWiZ
import Derived.Deep.Cut
import Derived.Deep.CutBlock
import Derived.Lib.AppendStr
import Derived.Test.YthgendgmlpaglaaDoorA1
namespace Go.Proofs.YthgendgmlpaglaaDoor
open Go.RowKit

set_option maxRecDepth 100000 in
set_option maxHeartbeats 4000000 in
theorem head_gen (w : World) (g : Nat) (a b c d : UInt8) (h : w.heap[g]? = some (.cells #[.int .u8 a.toNat, .int .u8 b.toNat, .int .u8 c.toNat, .int .u8 d.toNat] 5 (0, 0))) :
    Calls Tryd.prog 5 #[.slice (some ⟨g, 0, none⟩) 4 4] w fun e w' => e = .returned (.string (hw a b c d)) ∧ w.grownBy w' none := by
  have HB := Lib.hid h
  clear h
  have G := Lib.hid (gdrew (grefl w none))
  go_enter Tryd.func5, Tryd.ntmps5
  go_upto_region 1 with fail
  refine wp_region_segs [(true, [0, 1, 2, 3, 4, 5, 6, 7, 8, 9, 10, 11]), (false, [12]), (false, [13]), (false, [14])] (by kernel_rfl) (by kernel_rfl) ?_
  have HD := Lib.hid (show w.drew.heap[g]? = some (.cells #[.int .u8 a.toNat, .int .u8 b.toNat, .int .u8 c.toNat, .int .u8 d.toNat] 5 (0, 0)) from HB.out)
  clear HB
  generalize w.drew = wd at *
  have c0 : ∀ g' : Gr wd, g'.w.cell? ⟨g, 0, none⟩ = some (.int .u8 a.toNat) := Gr.cell (bcellAt HD.out 0)
  have c1 : ∀ g' : Gr wd, g'.w.cell? ⟨g, 1, none⟩ = some (.int .u8 b.toNat) := Gr.cell (bcellAt HD.out 1)
  have c2 : ∀ g' : Gr wd, g'.w.cell? ⟨g, 2, none⟩ = some (.int .u8 c.toNat) := Gr.cell (bcellAt HD.out 2)
  have c3 : ∀ g' : Gr wd, g'.w.cell? ⟨g, 3, none⟩ = some (.int .u8 d.toNat) := Gr.cell (bcellAt HD.out 3)
  refine wpSegs_quiet rfl ?_
  simp only [List.filterMap_cons, List.filterMap_nil, List.getElem?_toArray, List.getElem?_cons_succ, List.getElem?_cons_zero]
  show wpQuiet _ _ _ _ [_, _, _, _, _, _, _, _, _, _, _, _] _
  repeat (go_big_quiet_step (fail))
  refine wpQuiet_nil ?_
  clear c0 c1 c2 c3
  have NW := Lib.hid (sl_new wd 5 [0, 9, 0, 0, 0, a, 0, b, 0, c, 0, d] #[.int .u8 0, .int .u8 9, .int .u8 0, .int .u8 0, .int .u8 0, .int .u8 a.toNat, .int .u8 0, .int .u8 b.toNat, .int .u8 0, .int .u8 c.toNat, .int .u8 0, .int .u8 d.toNat] 12 rfl rfl)
  have GA := Lib.hid (galloc (grefl wd none) (.cells #[.int .u8 0, .int .u8 9, .int .u8 0, .int .u8 0, .int .u8 0, .int .u8 a.toNat, .int .u8 0, .int .u8 b.toNat, .int .u8 0, .int .u8 c.toNat, .int .u8 0, .int .u8 d.toNat] 5))
  refine wpSegs_one (by simp only [List.getElem?_toArray, List.getElem?_cons_succ, List.getElem?_cons_zero]; exact rfl) ?_
  go_wp2_with fail
  refine ⟨GA.out, ?_⟩
  have cv := cvs NW.out
  rw [show (ByteArray.mk [0, 9, 0, 0, 0, a, 0, b, 0, c, 0, d].toArray) = hw a b c d from rfl] at cv
  generalize (wd.alloc (.cells #[.int .u8 0, .int .u8 9, .int .u8 0, .int .u8 0, .int .u8 0, .int .u8 a.toNat, .int .u8 0, .int .u8 b.toNat, .int .u8 0, .int .u8 c.toNat, .int .u8 0, .int .u8 d.toNat] 5)) = wa at *
  refine wpSegs_one (by simp only [List.getElem?_toArray, List.getElem?_cons_succ, List.getElem?_cons_zero]; exact rfl) ?_
  go_wp2_with fail
  clear cv
  refine ⟨grefl _ _, ?_⟩
  refine wpSegs_one (by simp only [List.getElem?_toArray, List.getElem?_cons_succ, List.getElem?_cons_zero]; exact rfl) ?_
  go_wp2_with fail
  refine ⟨grefl _ _, ?_⟩
  refine wpSegs_done ?_
  go_wp2_with fail
  go_ret
  exact ⟨rfl, gtrans G.out GA.out⟩
/-- head, called with a row that has just been made. -/
theorem head_new (w : World) (a b c d : UInt8) (cs : Array Value) (hc : cs = #[.int .u8 a.toNat, .int .u8 b.toNat, .int .u8 c.toNat, .int .u8 d.toNat]) :
    Calls Tryd.prog 5 #[.slice (some ⟨w.heap.size, 0, none⟩) 4 4] (w.alloc (.cells cs 5)) fun e w' => e = .returned (.string (hw a b c d)) ∧ w.grownBy w' none :=
  (head_gen _ _ a b c d (by rw [balloc, hc])).mono fun e w' h => ⟨h.1, gtrans (galloc (grefl w none) _) h.2⟩
theorem zs_mk (n : Nat) : (⟨(List.replicate n (0 : UInt8)).toArray⟩ : ByteArray) = zs n := rfl
/-- A message's cells with one list of records, or of options. -/
def rAny (va : Value) : Array Value := #[.int .u16 0, .bool false, .int .u8 0, .bool false, .bool false, .bool false, .bool false, .bool false, .bool false, .bool false, .int .u8 0, .slice none 0 0, va, .slice none 0 0, .slice none 0 0, .bool false, .int .u16 0, .int .u8 0, .int .u8 0, .int .u16 0, .slice none 0 0]
def rOpt (vo : Value) : Array Value := #[.int .u16 0, .bool false, .int .u8 0, .bool false, .bool false, .bool false, .bool false, .bool false, .bool false, .bool false, .int .u8 0, .slice none 0 0, .slice none 0 0, .slice none 0 0, .slice none 0 0, .bool true, .int .u16 0, .int .u8 0, .int .u8 0, .int .u16 0, vo]
theorem mAny_val (n : Nat) (va : Value) : (mAny n).val (.slice none 0 0) va (.slice none 0 0) (.slice none 0 0) (.slice none 0 0) = .agg (rAny va) := rfl
theorem mOpt_val (n : Nat) (vo : Value) : (mOpt n).val (.slice none 0 0) (.slice none 0 0) (.slice none 0 0) (.slice none 0 0) vo = .agg (rOpt vo) := rfl
theorem sl_blk7 {w : World} {g k n : Nat} {xs : List Value} {e : TypeId} (hb : w.heap[g]? = some (.cells xs.toArray e (0, 0))) (h : xs.length = n * k) : Sl w k (.slice (some ⟨g, 0, none⟩) n n) n xs :=
  ⟨_, _, rfl, Nat.le_refl _, h, by simp, fun _ => ⟨_, _, rfl, fun j u hu => by
    rw [bcellAt hb]
    simpa using hu⟩⟩
theorem any_v {w : World} {g n : Nat} (h : w.heap[g]? = some (.cells #[.string ⟨#[0]⟩, .int .u16 99, .int .u16 0, .int .u32 0, .string (zs n)] 47 (0, 0))) : MsV w (mAny n) (.slice none 0 0) (.slice (some ⟨g, 0, none⟩) 1 1) (.slice none 0 0) (.slice none 0 0) (.slice none 0 0) :=
  ⟨Sl.nil _ _, sl_blk7 (xs := [.string ⟨#[0]⟩, .int .u16 99, .int .u16 0, .int .u32 0, .string (zs n)]) h rfl, Sl.nil _ _, Sl.nil _ _, Sl.nil _ _⟩
theorem opt_v {w : World} {g n : Nat} (h : w.heap[g]? = some (.cells #[.int .u16 0, .string (zs n)] 57 (0, 0))) : MsV w (mOpt n) (.slice none 0 0) (.slice none 0 0) (.slice none 0 0) (.slice none 0 0) (.slice (some ⟨g, 0, none⟩) 1 1) :=
  ⟨Sl.nil _ _, Sl.nil _ _, Sl.nil _ _, Sl.nil _ _, sl_blk7 (xs := [.int .u16 0, .string (zs n)]) h rfl⟩
def AnyPost (n : Nat) (w : World) (e : Ending) (w' : World) : Prop :=
  ∃ g : Nat, e = .returned (.agg (rAny (.slice (some ⟨g, 0, none⟩) 1 1))) ∧ w'.heap[g]? = some (.cells #[.string ⟨#[0]⟩, .int .u16 99, .int .u16 0, .int .u32 0, .string (zs n)] 47 (0, 0)) ∧ w.grownBy w' none
set_option maxRecDepth 100000 in
set_option maxHeartbeats 4000000 in
theorem any_any (w : World) (n : Nat) (hn : n ≤ 1000000) : Calls Tryd.prog 15 #[.int .i64 n] w (AnyPost n w) := by
  have B0 := Lib.hid (balloc w (.cells #[.int .u16 0, .bool false, .int .u8 0, .bool false, .bool false, .bool false, .bool false, .bool false, .bool false, .bool false, .int .u8 0, .slice none 0 0, .slice none 0 0, .slice none 0 0, .slice none 0 0, .bool false, .int .u16 0, .int .u8 0, .int .u8 0, .int .u16 0, .slice none 0 0] 37))
  have G0 := Lib.hid (galloc (grefl w none) (.cells #[.int .u16 0, .bool false, .int .u8 0, .bool false, .bool false, .bool false, .bool false, .bool false, .bool false, .bool false, .int .u8 0, .slice none 0 0, .slice none 0 0, .slice none 0 0, .slice none 0 0, .bool false, .int .u16 0, .int .u8 0, .int .u8 0, .int .u16 0, .slice none 0 0] 37))
  have LW := Lib.hid (show w.heap.size < (w.alloc (.cells #[.int .u16 0, .bool false, .int .u8 0, .bool false, .bool false, .bool false, .bool false, .bool false, .bool false, .bool false, .int .u8 0, .slice none 0 0, .slice none 0 0, .slice none 0 0, .slice none 0 0, .bool false, .int .u16 0, .int .u8 0, .int .u8 0, .int .u16 0, .slice none 0 0] 37)).heap.size from by simp)
  have HN := Lib.hid hn
  clear hn
  obtain ⟨i0, hi, hz0, hz1, hz2⟩ := info_parts Tryd.infoByte
  go_enter Tryd.func15, Tryd.ntmps15
  go_upto_region 1 with fail
  generalize w.alloc (.cells #[.int .u16 0, .bool false, .int .u8 0, .bool false, .bool false, .bool false, .bool false, .bool false, .bool false, .bool false, .int .u8 0, .slice none 0 0, .slice none 0 0, .slice none 0 0, .slice none 0 0, .bool false, .int .u16 0, .int .u8 0, .int .u8 0, .int .u16 0, .slice none 0 0] 37) = w1 at *
  go_wp2_with (at_make; refine (wpList_make_z rfl _ _ 26 rfl w1.heap.size i0 Tryd.underlying26 hi hz0 hz1 hz2 .i64 .i64 n n n rfl rfl rfl rfl (by have := HN.out; omega) (Nat.le_refl _) ?_))
  intro w2 ho hg
  have cv := cvs ho.sl
  rw [zs_mk] at cv
  have B1 := Lib.hid (gblock hg B0.out (by simp))
  have G1 := Lib.hid (gtrans G0.out hg)
  have L1 := Lib.hid (show w.heap.size < w2.heap.size from Nat.lt_of_lt_of_le LW.out hg.size)
  clear ho hg B0 G0 LW hi hz0 hz1 hz2
  have gk := galloc (grefl w2 none) (.cells #[.string ⟨#[0]⟩, .int .u16 99, .int .u16 0, .int .u32 0, .string (zs n)] 47)
  have BQ := Lib.hid (balloc w2 (.cells #[.string ⟨#[0]⟩, .int .u16 99, .int .u16 0, .int .u32 0, .string (zs n)] 47))
  have B2 := Lib.hid (gblock gk B1.out (by simp))
  have G2 := Lib.hid (gtrans G1.out gk)
  have R := Lib.hid (bsetR B2.out (rAny (.slice (some ⟨w2.heap.size, 0, none⟩) 1 1)))
  have gr := grow_row (w2.alloc (.cells #[.string ⟨#[0]⟩, .int .u16 99, .int .u16 0, .int .u32 0, .string (zs n)] 47)) w.heap.size (rAny (.slice (some ⟨w2.heap.size, 0, none⟩) 1 1))
  have BQ2 := Lib.hid (gblock gr BQ.out (by have := L1.out; simp; omega))
  have G3 := Lib.hid (gsetR G2.out (Nat.le_refl _) (rAny (.slice (some ⟨w2.heap.size, 0, none⟩) 1 1)))
  clear gk gr G2 BQ B1 G1
  go_wp2_with (refine wpList_store_row rfl 37 _ _ rfl w.heap.size (rAny (.slice (some ⟨w2.heap.size, 0, none⟩) 1 1)) rfl rfl 37 _ B2.out (by kernel_rfl) rfl (by kernel_rfl) ?_)
  refine bodyPost_ret_by (results_cell_row rfl _ _ w.heap.size 37 (rAny (.slice (some ⟨w2.heap.size, 0, none⟩) 1 1)) (0, 0) _ rfl R.out Tryd.underlying37 rfl (by kernel_rfl)) rfl ?_
  exact ⟨w2.heap.size, rfl, BQ2.out, G3.out⟩
set_option maxRecDepth 100000 in
set_option maxHeartbeats 4000000 in
theorem opts_any (w : World) (n : Nat) (hn : n ≤ 1000000) (he : Et w) (hb : Bt w) : Calls Tryd.prog 16 #[.int .i64 n] w fun e w' => e = .returned (.int .i64 (mOpt n).wE) ∧ w.grownBy w' none := by
  have HE := Lib.hid he
  have HB := Lib.hid hb
  have HN := Lib.hid hn
  clear hn he hb
  obtain ⟨i0, hi, hz0, hz1, hz2⟩ := info_parts Tryd.infoByte
  go_enter Tryd.func16, Tryd.ntmps16
  go_wp2_with (at_make; refine (wpList_make_z rfl _ _ 26 rfl w.heap.size i0 Tryd.underlying26 hi hz0 hz1 hz2 .i64 .i64 n n n rfl rfl rfl rfl (by have := HN.out; omega) (Nat.le_refl _) ?_))
  intro w2 ho hg
  have cv := cvs ho.sl
  rw [zs_mk] at cv
  have G1 := Lib.hid hg
  clear ho hg hi hz0 hz1 hz2
  have BQ := Lib.hid (balloc w2 (.cells #[.int .u16 0, .string (zs n)] 57))
  have G2 := Lib.hid (galloc G1.out (.cells #[.int .u16 0, .string (zs n)] 57))
  have CE := encode_any (w2.alloc (.cells #[.int .u16 0, .string (zs n)] 57)) (mOpt n) (.slice none 0 0) (.slice none 0 0) (.slice none 0 0) (.slice none 0 0) (.slice (some ⟨w2.heap.size, 0, none⟩) 1 1) (HE.out.kept G2.out (by simp)) (HB.out.kept G2.out (by simp)) (opt_v BQ.out) (mOpt_rng n)
  rw [mOpt_val] at CE
  unfold rOpt at CE
  have CE := Lib.hid CE
  go_wp2_with fail
  refine Calls.mono CE.out ?_
  clear CE BQ cv
  rintro e w3 ⟨rfl, hg⟩
  have G3 := Lib.hid (gtrans G2.out hg)
  clear hg
  go_wp2_with fail
  go_ret
  exact ⟨rfl, G3.out⟩
end Go.Proofs.YthgendgmlpaglaaDoor
namespace Go.Proofs.YthgendgmlpaglaaDoor
open Go.RowKit

/-- The code of a sequence, in pieces. -/
def cFst : Code → Code | .seq x _ => x | c => c
def cSnd : Code → Code | .seq _ y => y | c => c
def cTail : Nat → Code → Code | 0, c => c | n + 1, c => cTail n (cSnd c)
/-- What Decode leaves, as cells. -/
def DcC (s : ByteArray) (w : World) (e : Ending) (w' : World) : Prop :=
  ∃ C : Array Value, e = .returned (.tuple #[.agg C, .int .i64 (dcE s)]) ∧ C.size = 21 ∧ C.all (·.oneCell') = true ∧ (∃ A cap, C[12]? = some (.slice A (dcM s).an.length cap)) ∧ w.grownBy w' none
theorem dec_c (w : World) (s : ByteArray) (he : Et w) (hb : Bt w) : Calls Tryd.prog 6 #[.string s] w (DcC s w) :=
  (decode_any w s he hb).mono fun e w' h => by
    obtain ⟨hg, vq, va, vu, vx, vo, rfl, hf⟩ := h
    obtain ⟨B2q, d2q, rfl⟩ := hf.q.len
    obtain ⟨B2a, d2a, rfl⟩ := hf.a.len
    obtain ⟨B2u, d2u, rfl⟩ := hf.u.len
    obtain ⟨B2x, d2x, rfl⟩ := hf.x.len
    obtain ⟨B2o, d2o, rfl⟩ := hf.o.len
    rw [Ms.val_cells]
    exact ⟨_, rfl, rfl, (by kernel_rfl), ⟨B2a, d2a, rfl⟩, hg⟩
theorem enc_any_is (n : Nat) (S : ByteArray) (x : Int) (g : Nat) (w : World) (he : Et w) (hb : Bt w) (hn : n ≤ 1000000) (h : w.heap[g]? = some (.cells #[.string ⟨#[0]⟩, .int .u16 99, .int .u16 0, .int .u32 0, .string (zs n)] 47 (0, 0))) (hS : (mAny n).out = S) (hx : ((mAny n).wE : Int) = x) :
    Calls Tryd.prog 9 #[.agg (rAny (.slice (some ⟨g, 0, none⟩) 1 1))] w fun e w' => e = .returned (.tuple #[.string S, .int .i64 x]) ∧ w.grownBy w' none := by
  have CE := encode_any w (mAny n) _ _ _ _ _ he hb (any_v h) (mAny_rng n hn)
  rw [mAny_val, hS, hx] at CE
  exact CE
theorem enc_opt_is (n : Nat) (x : Int) (g : Nat) (w : World) (he : Et w) (hb : Bt w) (h : w.heap[g]? = some (.cells #[.int .u16 0, .string (zs n)] 57 (0, 0))) (hx : ((mOpt n).wE : Int) = x) :
    Calls Tryd.prog 9 #[.agg #[.int .u16 0, .bool false, .int .u8 0, .bool false, .bool false, .bool false, .bool false, .bool false, .bool false, .bool false, .int .u8 0, .slice none 0 0, .slice none 0 0, .slice none 0 0, .slice none 0 0, .bool true, .int .u16 0, .int .u8 0, .int .u8 0, .int .u16 0, .slice (some ⟨g, 0, none⟩) 1 1]] w fun e w' => e = .returned (.tuple #[.string (mOpt n).out, .int .i64 x]) ∧ w.grownBy w' none := by
  have CE := encode_any w (mOpt n) _ _ _ _ _ he hb (opt_v h) (mOpt_rng n)
  rw [mOpt_val, hx] at CE
  exact CE
theorem opts_is (n : Nat) (x : Int) (w : World) (hn : n ≤ 1000000) (he : Et w) (hb : Bt w) (hx : ((mOpt n).wE : Int) = x) (y : Int) (hy : (n : Int) = y) : Calls Tryd.prog 16 #[.int .i64 y] w fun e w' => e = .returned (.int .i64 x) ∧ w.grownBy w' none := by
  have h := opts_any w n hn he hb
  rw [hx, hy] at h
  exact h
theorem any_is (n : Nat) (w : World) (hn : n ≤ 1000000) (y : Int) (hy : (n : Int) = y) : Calls Tryd.prog 15 #[.int .i64 y] w (AnyPost n w) := by
  have h := any_any w n hn
  rw [hy] at h
  exact h
end Go.Proofs.YthgendgmlpaglaaDoor
namespace Go.Proofs.YthgendgmlpaglaaDoor
open Go.RowKit

section
variable {P : Program} (w : World)
theorem run_append_room_strM (t u ty e : TypeId) (i : TypeInfo) (ht : P.underlying t = some (.slice e)) (hu : P.underlying u = some .string) (hi : P.info? e = some i) (hs1 : i.size = 1)
    (g sLen sCap : Nat) (cur : Array Value) (fz : Nat × Nat) (hg : w.heap[g]? = some (.cells cur e fz)) (hz : Unfz cur.size fz) (s : ByteArray)
    (hroom : sLen + s.size ≤ sCap) (hfit : sLen + s.size ≤ cur.size) :
    (Builtin.append_ #[t, u] ty #[.slice (some ⟨g, 0, none⟩) sLen sCap, .string s]).run P w =
      .ok (.slice (some ⟨g, 0, none⟩) (sLen + s.size) sCap) (w.setRow g (cur.toList.take sLen ++ Lib.strCells s ++ cur.toList.drop (sLen + s.size)).toArray) := by
  have hf := Lib.run_firstCells_string (P := P) w 1 s
  have hst := run_storeCells_atM P g sLen e fz (Lib.strCells s) 0 cur w hg hz (by simpa [Lib.strCells_length] using hfit) (Lib.strCells_oneCell s)
  simp only [Nat.add_zero, Lib.strCells_length] at hst
  simp [Builtin.append_, run_underlying ht, run_underlying hu, sizeOf, typeInfo, hi, hs1, Builtin.lenOf, hroom, hf, Addr.add_lit, hst]
theorem strC_bv (s : ByteArray) : Lib.strCells s = bv s.data.toList := rfl
/-- 'append(out, text...)' onto such bytes. -/
theorem run_app_strM (t u ty : TypeId) (base : Nat) (i : TypeInfo) (h1 : P.underlying t = some (.slice 5)) (hu : P.underlying u = some .string) (h2 : P.info? 5 = some i) (h3 : i.zero = some (.int .u8 0)) (h4 : i.size = 1) (h5 : i.bytes = 1)
    (v : Value) (xs : List UInt8) (hown : OwnM w base v xs) (s : ByteArray) (b1 : xs.length + s.size ≤ 140737488355328) (hb : base ≤ w.heap.size) :
    ∃ v' w', (Builtin.append_ #[t, u] ty #[v, .string s]).run P w = .ok v' w' ∧ OwnM w' base v' (xs ++ s.data.toList) ∧ w.grownBy w' v.ownBlock := by
  have hm : xs.length + s.size ≤ maxLen := by unfold maxLen; omega
  have hsl : s.data.toList.length = s.size := by rw [Array.length_toList]; rfl
  have hlen : (xs ++ s.data.toList).length = xs.length + s.size := by rw [List.length_append, hsl]
  rcases hown with ⟨rfl, h0⟩ | ⟨g, cap, cur, fz, rfl, hbg, hg, hz, hnc, hcm, hcs, htake⟩
  · obtain rfl : xs = [] := List.eq_nil_of_length_eq_zero h0
    obtain ⟨v', w', e1, e2, e3, _⟩ := Lib.run_append_own_string (P := P) w base t u ty 5 i h1 hu h2 h3 h4 h5 (.slice none 0 0) 0 [] (World.ownsRow_nil _ _ _ _) s (by simpa using hm) (by simpa using b1) hb
    refine ⟨v', w', e1, OwnM.of ?_, e3⟩
    unfold Own
    rw [strC_bv] at e2
    simp only [List.nil_append, hsl]
    simpa using e2
  · by_cases hroom : xs.length + s.size ≤ cap
    · have hr := run_append_room_strM (P := P) w t u ty 5 i h1 hu h2 h4 g xs.length cap cur fz hg hz s hroom (by omega)
      refine ⟨_, _, hr, .inr ⟨g, cap, _, fz, by rw [hlen], hbg, setRow_heap w g cur _ _ _ hg, ?_, by omega, hcm, ?_, ?_⟩, ⟨rfl, rfl, rfl, by simp, fun k _ hk => setRow_other w g k _ (fun e => hk (by simp [Value.ownBlock, e]))⟩⟩
      · have : (cur.toList.take xs.length ++ Lib.strCells s ++ cur.toList.drop (xs.length + s.size)).toArray.size = cur.size := by
          simp only [List.size_toArray, List.length_append, List.length_take, List.length_drop, Array.length_toList, Lib.strCells_length]
          omega
        rw [this]; exact hz
      · simp only [List.size_toArray, List.length_append, List.length_take, List.length_drop, Array.length_toList, Lib.strCells_length]
        omega
      · rw [htake, strC_bv, ← bv_append]
        exact List.take_left' (bv_len _)
    · have holds : ∀ j u, (bv xs)[j]? = some u → w.cell? ((⟨g, 0, none⟩ : Addr).add j) = some u := by
        intro j u hu
        have hj := (List.getElem?_eq_some_iff.1 hu).1
        rw [bv_len] at hj
        rw [Addr.add_lit, bcellAt hg, ← Array.getElem?_toList, Nat.zero_add]
        rw [← htake, List.getElem?_take_of_lt (by omega)] at hu
        exact hu
      have hr := Lib.run_append_grow_string (P := P) w t u ty 5 i (.int .u8 0) h1 hu h2 h3 ⟨g, 0, none⟩ xs.length cap (bv xs) (by rw [bv_len, h4, Nat.mul_one]) holds s (by omega) (by omega) (by rw [h5]; exact growslice_fits (by omega) (by omega))
      have hge := grownCap_ge w (xs.length + s.size) cap 5
      have hcm2 : grownCap w (xs.length + s.size) cap 5 ≤ maxLen := grownCap_le_maxLen w _ cap _ hm
      refine ⟨_, _, hr, .inr ⟨w.heap.size, _, _, (0, 0), by rw [hlen], hb, heap_alloc_new w.drew _, .inl rfl, by omega, hcm2, ?_, ?_⟩, ⟨rfl, rfl, rfl, by simp, fun k hk _ => (galloc (gdrew (grefl w none)) _).block k hk (by simp)⟩⟩
      · have hz1 : (Value.int IntKind.u8 0).cells.size = 1 := rfl
        simp only [Array.size_append, List.size_toArray, size_zeroCells, hz1, bv_len, Lib.strCells_length]
        omega
      · simp only [Array.toList_append, List.append_assoc]
        rw [← List.append_assoc, strC_bv, ← bv_append]
        exact List.take_left' (bv_len _)
end
section
variable {P : Program} {w : World} {ops : Array Oper} {rest : List Oper} {o : Oper} {a : Act} {Q : Exit → Act → World → Prop}
theorem wpList_app_strM (hg : o.guard = none) (s x : Operand) (t u : TypeId) (hop : o.op = Op.call { callee := Callee.builtin Builtin.append, args := #[s, x], argTypes := #[t, u] })
    (base : Nat) (i : TypeInfo) (h1 : P.underlying t = some (.slice 5)) (hu : P.underlying u = some .string) (h2 : P.info? 5 = some i) (h3 : i.zero = some (.int .u8 0)) (h4 : i.size = 1) (h5 : i.bytes = 1)
    (v : Value) (xs : List UInt8) (hs : a.eval s = v) (hown : OwnM w base v xs) (txt : ByteArray) (hx : a.eval x = .string txt) (b1 : xs.length + txt.size ≤ 140737488355328) (hb : base ≤ w.heap.size)
    (hK : ∀ v' w', OwnM w' base v' (xs ++ txt.data.toList) → w.grownBy w' v.ownBlock → wpList P ops Q rest (a.put o.dst v') w') : wpList P ops Q (o :: rest) a w := by
  obtain ⟨v', w', hr, ho, hgr⟩ := run_app_strM (P := P) w t u o.type base i h1 hu h2 h3 h4 h5 v xs hown txt b1 hb
  refine wpList_plain hg fun _ hK' => ?_
  unfold Oper.wp execOp
  simp only [hop, resolve, invoke, builtin, Sem.run_bind, Sem.run_pure, Result.andThen_ok, List.map_toArray, List.map_cons, List.map_nil, hs, hx, hr]
  exact hK' _ _ (hK v' w' ho hgr)
end
/-- A byte of such bytes, and the bytes behind its being set. -/
theorem OwnM.at {w : World} {base n cap : Nat} {A : Option Addr} {l : List UInt8} (h : OwnM w base (.slice A n cap) l) (h0 : 0 < l.length) :
    ∃ g, A = some ⟨g, 0, none⟩ ∧ base ≤ g ∧ g < w.heap.size ∧ l.length ≤ cap ∧ ∀ j (hj : j < l.length), w.cell? ⟨g, j, none⟩ = some (.int .u8 l[j].toNat) ∧ w.frozen? ⟨g, j, none⟩ = false ∧
      ∀ x : UInt8, OwnM (w.setCell ⟨g, j, none⟩ (.int .u8 x.toNat)) base (.slice A n cap) (l.set j x) := by
  rcases h with ⟨_, h1⟩ | ⟨g, cap', cur, fz, e, hb, hg, hz, hl, hm, hs, ht⟩
  · omega
  · simp only [Value.slice.injEq] at e
    obtain ⟨rfl, rfl, rfl⟩ := e
    refine ⟨g, rfl, hb, (Array.getElem?_eq_some_iff.1 hg).1, hl, fun j hj => ⟨?_, ?_, fun x => ?_⟩⟩
    · have hb2 := bv_get l j hj
      rw [bcellAt hg, ← Array.getElem?_toList]
      rw [← ht, List.getElem?_take_of_lt (by omega)] at hb2
      exact hb2
    · obtain ⟨lo, hi'⟩ := fz
      simp only [World.frozen?, hg, Bool.and_eq_false_iff, decide_eq_false_iff_not]
      rcases hz with hz | hz
      · right; simp only at hz; omega
      · left; simp only at hz; omega
    · refine .inr ⟨g, cap, cur.setIfInBounds j (.int .u8 x.toNat), fz, by rw [List.length_set], hb, ?_, ?_, by rw [List.length_set]; exact hl, hm, by rw [Array.size_setIfInBounds]; exact hs, ?_⟩
      · rw [setCell_eq_setRow w g j cur _ fz _ hg]
        exact setRow_heap w g cur _ _ _ hg
      · rw [Array.size_setIfInBounds]; exact hz
      · rw [List.length_set, Array.toList_setIfInBounds, List.take_set, ht]
        unfold bv
        rw [List.map_set]
end Go.Proofs.YthgendgmlpaglaaDoor
namespace Go.Proofs.YthgendgmlpaglaaDoor
open Go.RowKit

section
variable {P : Program} {Q : Exit → Act → World → Prop}
/-- Operations, one by one, with their numbers. -/
def Steps (S : Nat → Oper → Prop) : Nat → List Oper → Prop
  | _, [] => True
  | n, o :: r => S n o ∧ Steps S (n + 1) r
theorem Steps.at {S : Nat → Oper → Prop} : ∀ {l : List Oper} {n i : Nat} {o : Oper}, Steps S n l → l[i]? = some o → S (n + i) o
  | [], _, _, _, _, h => by simp at h
  | x :: l, n, 0, o, hs, h => by
    obtain rfl : x = o := by simpa using h
    exact hs.1
  | x :: l, n, i + 1, o, hs, h => by
    have := Steps.at (i := i) hs.2 (by simpa using h)
    rwa [show n + 1 + i = n + (i + 1) from by omega] at this
/-- What is known of the operations that have been done. -/
structure MInv (V : Nat → Value → World → Prop) (D : List Nat) (a0 : Act) (w0 : World) (L : Array Bool) (a : Act) (w : World) : Prop where
  size : L.size = D.length
  grown : w0.grownBy w none
  defers : a.defers = a0.defers
  frame : a.tmps.size = a0.tmps.size
  old : ∀ k, k ∉ D → a.tmps[k]? = a0.tmps[k]?
  done : ∀ i (h : i < D.length), L[i]? = some true → ∃ v, a.tmps[D[i]]? = some v ∧ V i v w
/-- What one operation has to do. -/
def MStep (P : Program) (Q : Exit → Act → World → Prop) (V : Nat → Value → World → Prop) (D : List Nat) (a0 : Act) (w0 : World) (i : Nat) (o : Oper) : Prop :=
  ∀ (a : Act) (w : World), w0.grownBy w none → (∀ k, k ∉ D → a.tmps[k]? = a0.tmps[k]?) → (∀ e ∈ o.after, Region.binds .any e = true → ∃ v, a.tmps[D.getD e.on 0]? = some v ∧ V e.on v w) →
    o.wp P a w (fun a' w' => ∃ v, a' = a.put o.dst v ∧ V i v w' ∧ w.grownBy w' none) Q
def okM (l : List Oper) (D : List Nat) (n : Nat) : Bool :=
  decide (l.map (·.dst) = D.map some) && decide D.Nodup && D.all (decide <| · < n) && l.all (fun o => o.guard.isNone) &&
    (List.range l.length).all fun i => match l[i]? with | some o => o.after.all fun e => decide (e.on < i) | none => true
theorem ready_lt {ops : Array Oper} {L : Array Bool} {i : Nat} (h : i ∈ Region.ready .any ops L) (hl : L.size = ops.size) : i < ops.size ∧ L[i]? = some false ∧ ∀ o, ops[i]? = some o → ∀ e ∈ o.after, Region.binds .any e = true → L.getD e.on false = true := by
  unfold Region.ready at h
  obtain ⟨h1, h2⟩ := List.mem_filter.1 h
  have hi : i < ops.size := List.mem_range.1 h1
  simp only [Bool.and_eq_true, Bool.not_eq_true'] at h2
  refine ⟨hi, ?_, fun o ho e he hb => ?_⟩
  · have h3 := h2.1
    have hi' : i < L.size := by omega
    rw [Array.getD_eq_getD_getElem?, Array.getElem?_eq_getElem hi'] at h3
    rw [Array.getElem?_eq_getElem hi']
    simp at h3
    rw [h3]
  · have h3 := h2.2
    rw [ho] at h3
    simp only [Option.map_some, Option.getD_some, Array.all_eq_true_iff_forall_mem, Bool.or_eq_true, Bool.not_eq_true'] at h3
    rcases h3 e he with h4 | h4
    · rw [hb] at h4; cases h4
    · exact h4
theorem ready_all {l : List Oper} {D : List Nat} {n : Nat} (hB : okM l D n = true) {L : Array Bool} (hl : L.size = l.length) (h : Region.ready .any l.toArray L = []) : ∀ i, i < l.length → L[i]? = some true := by
  simp only [okM, Bool.and_eq_true, List.all_eq_true] at hB
  intro i
  induction i using Nat.strongRecOn with
  | _ i ih =>
    intro hi
    have hi' : i < L.size := by omega
    rw [Array.getElem?_eq_getElem hi']
    cases hb : L[i] with
    | true => rfl
    | false =>
      exfalso
      have hm : i ∈ Region.ready .any l.toArray L := by
        unfold Region.ready
        refine List.mem_filter.2 ⟨List.mem_range.2 (by simpa using hi), ?_⟩
        have ho : l.toArray[i]? = some l[i] := by simp [hi]
        rw [ho]
        simp only [Option.map_some, Option.getD_some, Bool.and_eq_true, Bool.not_eq_true', Array.all_eq_true_iff_forall_mem, Bool.or_eq_true]
        refine ⟨by rw [Array.getD_eq_getD_getElem?, Array.getElem?_eq_getElem hi', hb]; rfl, fun e he => .inr ?_⟩
        have h1 := hB.2 i (List.mem_range.2 hi)
        rw [List.getElem?_eq_getElem hi] at h1
        simp only [Array.all_eq_true_iff_forall_mem, decide_eq_true_eq] at h1
        have h2 := h1 e he
        have h3 := ih e.on h2 (by omega)
        rw [Array.getD_eq_getD_getElem?, h3]
        rfl
      rw [h] at hm
      cases hm
theorem wpAny_M {V : Nat → Value → World → Prop} {l : List Oper} {D : List Nat} {a0 : Act} {w0 : World} (hV : ∀ i v w w', V i v w → w.grownBy w' none → V i v w') (hB : okM l D a0.tmps.size = true)
    (hs : Steps (MStep P Q V D a0 w0) 0 l)
    (he : ∀ a w, MInv V D a0 w0 (Array.replicate D.length true) a w → Q .normal a w) : ∀ (fuel : Nat) (L : Array Bool) (a : Act) (w : World), L.toList.count false = fuel → MInv V D a0 w0 L a w → wpAny P .any l.toArray Q fuel L a w := by
  have hB' := hB
  simp only [okM, Bool.and_eq_true, List.all_eq_true, decide_eq_true_eq] at hB'
  obtain ⟨⟨⟨⟨b1, b2⟩, b3⟩, b4⟩, b5⟩ := hB'
  have hlen : l.length = D.length := by have := congrArg List.length b1; simpa using this
  have fin : ∀ (L : Array Bool) (a : Act) (w : World), MInv V D a0 w0 L a w → (∀ i, i < D.length → L[i]? = some true) → Q .normal a w := by
    intro L a w hI hall
    refine he a w ⟨by simp, hI.grown, hI.defers, hI.frame, hI.old, fun i h _ => hI.done i h (hall i h)⟩
  intro fuel
  induction fuel with
  | zero =>
    intro L a w hc hI
    have hall : ∀ i, i < D.length → L[i]? = some true := by
      intro i hi
      have hi' : i < L.size := by rw [hI.size]; exact hi
      rw [Array.getElem?_eq_getElem hi']
      cases hb : L[i] with
      | true => rfl
      | false =>
        exfalso
        have : false ∈ L.toList := by rw [← hb]; exact Array.getElem_mem_toList hi'
        have := List.count_pos_iff.2 this
        omega
    refine ⟨?_, fin L a w hI hall⟩
    cases hr : Region.ready .any l.toArray L with
    | nil => rfl
    | cons i r =>
      exfalso
      have hi : i ∈ Region.ready .any l.toArray L := by rw [hr]; exact List.mem_cons_self
      obtain ⟨h1, h2, _⟩ := ready_lt hi (by rw [hI.size, ← hlen]; simp)
      rw [hall i (by simpa [hlen] using h1)] at h2
      cases h2
  | succ fuel ih =>
    intro L a w hc hI
    refine ⟨fun hr => fin L a w hI fun i hi => ready_all hB (by rw [hI.size, hlen]) hr i (by omega), fun i hi => ?_⟩
    obtain ⟨h1, h2, h3⟩ := ready_lt hi (by rw [hI.size, ← hlen]; simp)
    have hil : i < l.length := by simpa using h1
    have hiD : i < D.length := by omega
    have ho : l.toArray[i]? = some l[i] := by simp [hil]
    have hdst : l[i].dst = some D[i] := by
      have := congrArg (·[i]?) b1
      simp only [List.getElem?_map, List.getElem?_eq_getElem hil, List.getElem?_eq_getElem hiD, Option.map_some] at this
      exact Option.some.inj this
    have hguard : l[i].guard = none := by
      have := b4 l[i] (List.getElem_mem hil)
      simpa using this
    have st := hs.at (List.getElem?_eq_getElem hil)
    rw [Nat.zero_add] at st
    have st' := st a w hI.grown hI.old (fun e hem hb => by
      have h4 := h3 l[i] ho e hem hb
      have h5 : e.on < D.length := by
        have h6 := b5 i (List.mem_range.2 hil)
        rw [List.getElem?_eq_getElem hil] at h6
        simp only [Array.all_eq_true_iff_forall_mem, decide_eq_true_eq] at h6
        have := h6 e hem
        omega
      have h7 : L[e.on]? = some true := by
        have hx : e.on < L.size := by rw [hI.size]; exact h5
        rw [Array.getD_eq_getD_getElem?, Array.getElem?_eq_getElem hx] at h4
        rw [Array.getElem?_eq_getElem hx]
        exact congrArg some h4
      obtain ⟨v, hv, hk⟩ := hI.done e.on h5 h7
      exact ⟨v, by rw [List.getD_eq_getElem?_getD, List.getElem?_eq_getElem h5]; exact hv, hk⟩)
    unfold wpOp
    rw [ho]
    dsimp only
    rw [if_pos (by unfold Region.wanted; rw [hguard])]
    refine .inl (Oper.wp_mono (fun a' w' hh => ?_) st')
    obtain ⟨v, rfl, hv, hg⟩ := hh
    have hiL : i < L.size := by rw [hI.size]; exact hiD
    refine ih (L.setIfInBounds i true) _ w' ?_ ⟨by rw [Array.size_setIfInBounds]; exact hI.size, gtrans hI.grown hg, ?_, ?_, ?_, ?_⟩
    · rw [Array.toList_setIfInBounds, List.count_set (by simpa using hiL)]
      have : L.toList[i]'(by simpa using hiL) = false := by
        have := h2
        rw [Array.getElem?_eq_getElem hiL] at this
        simpa using Option.some.inj this
      rw [this, hc]
      simp
    · rw [hdst]; exact hI.defers
    · rw [hdst]
      show (a.tmps.setIfInBounds D[i] v).size = _
      rw [Array.size_setIfInBounds]; exact hI.frame
    · intro k hk
      rw [hdst]
      show (a.tmps.setIfInBounds D[i] v)[k]? = _
      rw [Array.getElem?_setIfInBounds_ne (fun e => hk (by rw [← e]; exact List.getElem_mem hiD))]
      exact hI.old k hk
    · intro j hj hL
      rw [hdst]
      show ∃ v', (a.tmps.setIfInBounds D[i] v)[D[j]]? = some v' ∧ V j v' w'
      by_cases e : i = j
      · subst e
        have hsz : D[i] < a.tmps.size := by rw [hI.frame]; exact b3 _ (List.getElem_mem hiD)
        exact ⟨v, by rw [Array.getElem?_setIfInBounds_self_of_lt hsz], hv⟩
      · have hne : D[i] ≠ D[j] := fun hq => by
          rcases Nat.lt_or_gt_of_ne e with h | h
          · exact (List.pairwise_iff_getElem.1 b2) i j hiD hj h hq
          · exact (List.pairwise_iff_getElem.1 b2) j i hj hiD h hq.symm
        rw [Array.getElem?_setIfInBounds_ne hne]
        rw [Array.getElem?_setIfInBounds_ne e] at hL
        obtain ⟨v', h6, h7⟩ := hI.done j hj hL
        exact ⟨v', h6, hV _ _ _ _ h7 hg⟩
theorem wp_region_M {V : Nat → Value → World → Prop} {id : Nat} {l : List Oper} (D : List Nat) {a : Act} {w : World} (hm : P.follows .mixedOrders = true) (hV : ∀ i v w w', V i v w → w.grownBy w' none → V i v w')
    (hB : okM l D a.tmps.size = true) (hs : Steps (MStep P Q V D a w.drew) 0 l)
    (he : ∀ a' w', MInv V D a w.drew (Array.replicate D.length true) a' w' → Q .normal a' w') : (Code.region id l.toArray true).wp P Q a w := by
  have hlen : l.length = D.length := by
    simp only [okM, Bool.and_eq_true, decide_eq_true_eq] at hB
    have := congrArg List.length hB.1.1.1.1
    simpa using this
  refine wp_region_any hm ?_
  refine wpAny_M (P := P) (Q := Q) (V := V) (l := l) (D := D) (a0 := a) (w0 := w.drew) hV hB hs he _ _ _ _ ?_ ⟨by simp [hlen], grefl _ none, rfl, rfl, fun _ _ => rfl, fun i h hL => ?_⟩
  · simp
  · exfalso
    have : (Array.replicate l.toArray.size false)[i]? = some false := by simp [hlen, h]
    rw [this] at hL
    cases hL
end
end Go.Proofs.YthgendgmlpaglaaDoor
