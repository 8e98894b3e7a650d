/-
  Intake: IntakeOut's walk.
-/
import Derived.Test.YtoncjhjnmomecaaDoorIkI
import Derived.Test.YtoncjhjnmomecaaDoorWjE
import Derived.Test.YtoncjhjnmomecaaDoorWjF
import Derived.Deep.Cut
namespace Go.Proofs.YtoncjhjnmomecaaDoor
open Go.RowKit

theorem num_bts (s : ByteArray) (h : 2 ≤ s.size) : num s 0 2 = bt s 0 * 256 + bt s 1 := by
  have hl : s.data.toList.length = s.size := Array.length_toList
  rw [bt_get s 0 (by omega), bt_get s 1 (by omega)]
  unfold num
  rw [List.drop_eq_getElem_cons (by omega), List.drop_eq_getElem_cons (by omega), List.take_succ_cons, List.take_succ_cons, List.take_zero]
  simp only [be, List.foldl_cons, List.foldl_nil, Nat.zero_mul, Nat.zero_add]
  rfl
theorem out_two {m : Ms} {s : ByteArray} (hi : m.h.id = num s 0 2) (h2 : 2 ≤ s.size) (h0 : m.wE = 0) : bt m.out 0 = bt s 0 ∧ bt m.out 1 = bt s 1 := by
  obtain ⟨B, e1, _⟩ := s5_bytes m 0
  have h : ∀ p, bt m.out p = (m.s5.1[p]?.getD 0).toNat := fun p => by rw [(out_ok h0).1]; rfl
  have k0 := bt_lt s 0
  have k1 := bt_lt s 1
  rw [h, h, e1, hi, num_bts s h2]
  constructor
  · show (hi8 _).toNat = _
    unfold hi8
    rw [UInt8.toNat_ofNat']
    omega
  · show (lo8 _).toNat = _
    unfold lo8
    rw [UInt8.toNat_ofNat']
    omega
/-- What a reply to what came is. -/
structure BlOk (s : ByteArray) (c : Cm) (m : Ms) : Prop where
  rng : m.rng
  e0 : m.wE = 0
  short : m.out.size ≤ 512
  two : 2 ≤ m.out.size
  b0 : bt m.out 0 = bt s 0
  b1 : bt m.out 1 = bt s 1
  qr : m.h.qr = true
  ra : m.h.ra = true
  has : m.has = c.hasE
  qs : m.qs = if c.hasQ = true then [c.q] else []
  an : m.an = []
  au : m.au = []
  ex : m.ex = []
  ops : m.ops = []
theorem blank_all {s : ByteArray} {c : Cm} (h : LkOk s c) (code size : Int) : BlOk s c (blank c code size) := by
  have hid : c.h.id < 65536 := by
    have := h.id
    have h12 := h.long
    have k0 := bt_lt s 0
    have k1 := bt_lt s 1
    rw [this, num_bts s (by omega)]
    omega
  obtain ⟨h0, hl⟩ := blank_ok (c := c) (code := code) (size := size) hid h.op h.q
  have ho := out_ok h0
  have ht := out_two (m := blank c code size) (s := s) h.id (by have := h.long; omega) h0
  exact ⟨blank_rng hid fun k => (h.q k).1, h0, by rw [ho.2.2.1, ho.2.1]; exact hl, by have := ho.2.2.1; have := ho.2.2.2.1; omega, ht.1, ht.2, rfl, rfl, rfl, rfl, rfl, rfl, rfl, rfl⟩
set_option maxRecDepth 100000 in
set_option maxHeartbeats 8000000 in
theorem iout_walk (w : World) (s : ByteArray) (kk ss most : Int) (he : Et w) (hb : Bt w) :
    Calls Tryd.prog 6 #[.string s, .int .i64 kk, .int .i64 ss, .int .i64 most] w fun e w' => e = .returned (.bool true) ∧ w.grownBy w' none := by
  have HE := Lib.hid he
  have HB := Lib.hid hb
  clear he hb
  have EA := Lib.hid (fun (w' : World) (g : w.grownBy w' none) => awake25_any w' (HE.out.kept g (by simp)) (HB.out.kept g (by simp)))
  have G0 := Lib.hid (grefl w none)
  go_enter Tryd.func6, Tryd.ntmps6
  by_cases h : 4000 < s.size
  · have hd : decide ((4000 : Int) < (s.size : Int)) = true := decide_eq_true (by omega)
    go_wp2_with fail
    refine Calls.mono (EA.out _ G0.out) ?_
    rintro e w7 ⟨rfl, hg⟩
    have G7 := Lib.hid hg
    clear hg hd h
    go_wp2_with fail
    go_ret
    exact ⟨rfl, G7.out⟩
  have hd : decide ((4000 : Int) < (s.size : Int)) = false := decide_eq_false (by omega)
  have HS := Lib.hid h
  clear h
  go_wp2_with fail
  refine Calls.mono (EA.out _ G0.out) ?_
  rintro e w1 ⟨rfl, hg⟩
  have G := Lib.hid hg
  clear hg EA G0
  go_wp2_with fail
  clear hd
  have CL := look_any w1 s (HE.out.kept G.out (by simp)) (HB.out.kept G.out (by simp)) (by have := HS.out; unfold maxLen; omega)
  rcases look_cases s with h | h
  · rw [h] at CL
    have CL' := Lib.hid (show Calls Tryd.prog 14 #[.string s] w1 fun e w' => e = .returned (.agg #[.int .u8 1, .int .i64 0, .int .u16 0, .bool false, .int .u8 0, .bool false, .bool false, .bool false, .bool false, .bool false, .bool false, .bool false, .int .u8 0, .bool false, .string { data := #[] }, .int .u16 0, .int .u16 0, .bool false, .int .i64 0]) ∧ w1.grownBy w' none from CL)
    clear CL h
    refine Calls.mono CL'.out ?_
    clear CL'
    rintro e w2 ⟨rfl, hg⟩
    have G2 := Lib.hid (gtrans G.out hg)
    clear hg
    have A := Lib.hid (balloc w2 (.cells #[.int .u8 0, .int .i64 0, .int .u16 0, .bool false, .int .u8 0, .bool false, .bool false, .bool false, .bool false, .bool false, .bool false, .bool false, .int .u8 0, .bool false, .string { data := #[] }, .int .u16 0, .int .u16 0, .bool false, .int .i64 0] 28))
    have c0 := bcellAt (bsetR A.out #[.int .u8 1, .int .i64 0, .int .u16 0, .bool false, .int .u8 0, .bool false, .bool false, .bool false, .bool false, .bool false, .bool false, .bool false, .int .u8 0, .bool false, .string { data := #[] }, .int .u16 0, .int .u16 0, .bool false, .int .i64 0]) 0
    go_wp2_with (refine wpList_store_row rfl 28 _ _ rfl w2.heap.size #[.int .u8 1, .int .i64 0, .int .u16 0, .bool false, .int .u8 0, .bool false, .bool false, .bool false, .bool false, .bool false, .bool false, .bool false, .int .u8 0, .bool false, .string { data := #[] }, .int .u16 0, .int .u16 0, .bool false, .int .i64 0] rfl rfl 28 _ A.out (by kernel_rfl) rfl (by kernel_rfl) ?_)
    go_ret
    exact ⟨rfl, gsetR (galloc G2.out _) (by have := G2.out.size; exact this) _⟩
  generalize look s = c at *
  have LK := Lib.hid h
  clear h
  have CL' := Lib.hid (show Calls Tryd.prog 14 #[.string s] w1 fun e w' => e = .returned (.agg #[.int .u8 c.kind, .int .i64 c.code, .int .u16 c.h.id, .bool c.h.qr, .int .u8 c.h.op, .bool c.h.aa, .bool c.h.tc, .bool c.h.rd, .bool c.h.ra, .bool c.h.z, .bool c.h.ad, .bool c.h.cd, .int .u8 c.h.code, .bool c.hasQ, .string c.q.name, .int .u16 c.q.kind, .int .u16 c.q.cls, .bool c.hasE, .int .i64 c.size]) ∧ w1.grownBy w' none from CL)
  clear CL
  refine Calls.mono CL'.out ?_
  clear CL'
  rintro e w2 ⟨rfl, hg⟩
  have G' := Lib.hid (gtrans G.out hg)
  clear hg G
  have G := G'
  clear G'
  have A := Lib.hid (balloc w2 (.cells #[.int .u8 0, .int .i64 0, .int .u16 0, .bool false, .int .u8 0, .bool false, .bool false, .bool false, .bool false, .bool false, .bool false, .bool false, .int .u8 0, .bool false, .string { data := #[] }, .int .u16 0, .int .u16 0, .bool false, .int .i64 0] 28))
  have hg : w2.grownBy ((w2.alloc (.cells #[.int .u8 0, .int .i64 0, .int .u16 0, .bool false, .int .u8 0, .bool false, .bool false, .bool false, .bool false, .bool false, .bool false, .bool false, .int .u8 0, .bool false, .string { data := #[] }, .int .u16 0, .int .u16 0, .bool false, .int .i64 0] 28)).setRow w2.heap.size #[.int .u8 c.kind, .int .i64 c.code, .int .u16 c.h.id, .bool c.h.qr, .int .u8 c.h.op, .bool c.h.aa, .bool c.h.tc, .bool c.h.rd, .bool c.h.ra, .bool c.h.z, .bool c.h.ad, .bool c.h.cd, .int .u8 c.h.code, .bool c.hasQ, .string c.q.name, .int .u16 c.q.kind, .int .u16 c.q.cls, .bool c.hasE, .int .i64 c.size]) none := gsetR (galloc (grefl _ none) _) (Nat.le_refl _) _
  have A1 := Lib.hid (bsetR A.out #[.int .u8 c.kind, .int .i64 c.code, .int .u16 c.h.id, .bool c.h.qr, .int .u8 c.h.op, .bool c.h.aa, .bool c.h.tc, .bool c.h.rd, .bool c.h.ra, .bool c.h.z, .bool c.h.ad, .bool c.h.cd, .int .u8 c.h.code, .bool c.hasQ, .string c.q.name, .int .u16 c.q.kind, .int .u16 c.q.cls, .bool c.hasE, .int .i64 c.size])
  have ek : (((c.kind : Nat) : Int) == 1) = false := by rcases LK.out.kind with h | h <;> rw [h] <;> rfl
  go_upto_region 4 with (refine wpList_store_row rfl 28 _ _ rfl w2.heap.size #[.int .u8 c.kind, .int .i64 c.code, .int .u16 c.h.id, .bool c.h.qr, .int .u8 c.h.op, .bool c.h.aa, .bool c.h.tc, .bool c.h.rd, .bool c.h.ra, .bool c.h.z, .bool c.h.ad, .bool c.h.cd, .int .u8 c.h.code, .bool c.hasQ, .string c.q.name, .int .u16 c.q.kind, .int .u16 c.q.cls, .bool c.hasE, .int .i64 c.size] rfl rfl 28 _ A.out (by kernel_rfl) rfl (by kernel_rfl) ?_)
  clear A
  have G' := Lib.hid (gtrans G.out hg)
  clear hg G
  have G := G'
  clear G'
  generalize ((w2.alloc (.cells #[.int .u8 0, .int .i64 0, .int .u16 0, .bool false, .int .u8 0, .bool false, .bool false, .bool false, .bool false, .bool false, .bool false, .bool false, .int .u8 0, .bool false, .string { data := #[] }, .int .u16 0, .int .u16 0, .bool false, .int .i64 0] 28)).setRow w2.heap.size #[.int .u8 c.kind, .int .i64 c.code, .int .u16 c.h.id, .bool c.h.qr, .int .u8 c.h.op, .bool c.h.aa, .bool c.h.tc, .bool c.h.rd, .bool c.h.ra, .bool c.h.z, .bool c.h.ad, .bool c.h.cd, .int .u8 c.h.code, .bool c.hasQ, .string c.q.name, .int .u16 c.q.kind, .int .u16 c.q.cls, .bool c.hasE, .int .i64 c.size]) = w3 at *
  generalize w2.heap.size = b9 at *
  have c0 := bcellAt A1.out 0
  have BK := Lib.hid (blank_all LK.out kk ss)
  have CB := Lib.hid (show Calls Tryd.prog 11 #[.agg #[.int .u8 c.kind, .int .i64 c.code, .int .u16 c.h.id, .bool c.h.qr, .int .u8 c.h.op, .bool c.h.aa, .bool c.h.tc, .bool c.h.rd, .bool c.h.ra, .bool c.h.z, .bool c.h.ad, .bool c.h.cd, .int .u8 c.h.code, .bool c.hasQ, .string c.q.name, .int .u16 c.q.kind, .int .u16 c.q.cls, .bool c.hasE, .int .i64 c.size], .int .i64 kk, .int .i64 ss] w3 (BkPost (blank c kk ss) w3) from blank_any w3 c kk ss)
  generalize blank c kk ss = m at *
  go_wp2_with (refine wpList_load_row rfl 28 _ rfl b9 rfl _ _ _ _ A1.out Tryd.underlying28 rfl (by kernel_rfl) ?_)
  clear c0 ek
  refine Calls.mono CB.out ?_
  clear CB
  rintro e w4 ⟨hg, vq, rfl, hf⟩
  have F1 := Lib.hid hf.v
  clear hf
  have G' := Lib.hid (gtrans G.out hg)
  have A1' := Lib.hid (gblock hg A1.out (by simp))
  clear hg G A1
  have G := G'
  have A1 := A1'
  clear G' A1'
  rw [Ms.val_cells]
  obtain ⟨C4, hC⟩ : ∃ C, C = Ms.cells m vq (.slice none 0 0) (.slice none 0 0) (.slice none 0 0) (.slice none 0 0) := ⟨_, rfl⟩
  rw [← hC]
  have EC4 := Lib.hid hC
  have hs4 : (Array.all C4 (·.oneCell')) = true := by rw [hC]; obtain ⟨A, cap, rfl, _⟩ := F1.out.q; kernel_rfl
  have hz4 : C4.size = 21 := by rw [hC]; rfl
  clear hC
  have MA := Lib.hid (balloc w4 (.cells #[.int .u16 0, .bool false, .int .u8 0, .bool false, .bool false, .bool false, .bool false, .bool false, .bool false, .bool false, .int .u8 0, .slice none 0 0, .slice none 0 0, .slice none 0 0, .slice none 0 0, .bool false, .int .u16 0, .int .u8 0, .int .u8 0, .int .u16 0, .slice none 0 0] 41))
  have hg : w4.grownBy ((w4.alloc (.cells #[.int .u16 0, .bool false, .int .u8 0, .bool false, .bool false, .bool false, .bool false, .bool false, .bool false, .bool false, .int .u8 0, .slice none 0 0, .slice none 0 0, .slice none 0 0, .slice none 0 0, .bool false, .int .u16 0, .int .u8 0, .int .u8 0, .int .u16 0, .slice none 0 0] 41)).setRow w4.heap.size C4) none := gsetR (galloc (grefl _ none) _) (Nat.le_refl _) C4
  have A2 := Lib.hid (bsetR MA.out C4)
  go_upto_region 7 with (refine wpList_store_row rfl 41 _ _ rfl w4.heap.size C4 rfl rfl 41 _ MA.out (by rw [hz4]; kernel_rfl) hz4.symm hs4 ?_)
  clear MA hs4
  have G' := Lib.hid (gtrans G.out hg)
  have A1' := Lib.hid (gblock hg A1.out (by simp))
  have F1' := Lib.hid (F1.out.kept hg)
  clear hg G A1 F1
  have G := G'
  have A1 := A1'
  have F1 := F1'
  clear G' A1' F1'
  generalize ((w4.alloc (.cells #[.int .u16 0, .bool false, .int .u8 0, .bool false, .bool false, .bool false, .bool false, .bool false, .bool false, .bool false, .int .u8 0, .slice none 0 0, .slice none 0 0, .slice none 0 0, .slice none 0 0, .bool false, .int .u16 0, .int .u8 0, .int .u8 0, .int .u16 0, .slice none 0 0] 41)).setRow w4.heap.size C4) = w5 at *
  generalize w4.heap.size = b10 at *
  have CE := encode_any w5 m vq (.slice none 0 0) (.slice none 0 0) (.slice none 0 0) (.slice none 0 0) (HE.out.kept G.out (by simp)) (HB.out.kept G.out (by simp)) F1.out BK.out.rng
  rw [Ms.val_cells, ← EC4.out, BK.out.e0] at CE
  have CE := Lib.hid CE
  go_wp2_with (refine wpList_load_row rfl 41 _ rfl b10 rfl _ _ _ _ A2.out Tryd.underlying41 rfl (by rw [hz4]; kernel_rfl) ?_)
  refine Calls.mono CE.out ?_
  clear CE
  rintro e w6 ⟨rfl, hg⟩
  have G' := Lib.hid (gtrans G.out hg)
  have A1' := Lib.hid (gblock hg A1.out (by simp))
  have A2' := Lib.hid (gblock hg A2.out (by simp))
  have F1' := Lib.hid (F1.out.kept hg)
  clear hg G A1 A2 F1
  have G := G'
  have A1 := A1'
  have A2 := A2'
  have F1 := F1'
  clear G' A1' A2' F1'
  go_wp2_with fail
  have CD := decode_any w6 m.out (HE.out.kept G.out (by simp)) (HB.out.kept G.out (by simp))
  unfold DcPost at CD
  rw [(dc_ok BK.out.rng BK.out.e0).1, (dc_ok BK.out.rng BK.out.e0).2] at CD
  refine Calls.mono CD ?_
  clear CD
  rintro e w7 ⟨hg, xq, xa, xu, xx, xo, rfl, hf⟩
  obtain ⟨Bq, dq, rfl⟩ := hf.q.len
  obtain ⟨Ba, da, rfl⟩ := hf.a.len
  obtain ⟨Bu, du, rfl⟩ := hf.u.len
  obtain ⟨Bx, dx, rfl⟩ := hf.x.len
  obtain ⟨Bo, dd, rfl⟩ := hf.o.len
  have F2 := Lib.hid hf
  clear hf
  have G' := Lib.hid (gtrans G.out hg)
  have A1' := Lib.hid (gblock hg A1.out (by simp))
  have A2' := Lib.hid (gblock hg A2.out (by simp))
  have F1' := Lib.hid (F1.out.kept hg)
  clear hg G A1 A2 F1
  have G := G'
  have A1 := A1'
  have A2 := A2'
  have F1 := F1'
  clear G' A1' A2' F1'
  rw [Ms.val_cells]
  obtain ⟨C7, hC⟩ : ∃ C, C = Ms.cells m (.slice Bq m.qs.length dq) (.slice Ba m.an.length da) (.slice Bu m.au.length du) (.slice Bx m.ex.length dx) (.slice Bo m.ops.length dd) := ⟨_, rfl⟩
  rw [← hC]
  have EC7 := Lib.hid hC
  have hs7 : (Array.all C7 (·.oneCell')) = true := by rw [hC]; kernel_rfl
  have hz7 : C7.size = 21 := by rw [hC]; rfl
  clear hC
  have MA := Lib.hid (balloc w7 (.cells #[.int .u16 0, .bool false, .int .u8 0, .bool false, .bool false, .bool false, .bool false, .bool false, .bool false, .bool false, .int .u8 0, .slice none 0 0, .slice none 0 0, .slice none 0 0, .slice none 0 0, .bool false, .int .u16 0, .int .u8 0, .int .u8 0, .int .u16 0, .slice none 0 0] 41))
  have hg : w7.grownBy ((w7.alloc (.cells #[.int .u16 0, .bool false, .int .u8 0, .bool false, .bool false, .bool false, .bool false, .bool false, .bool false, .bool false, .int .u8 0, .slice none 0 0, .slice none 0 0, .slice none 0 0, .slice none 0 0, .bool false, .int .u16 0, .int .u8 0, .int .u8 0, .int .u16 0, .slice none 0 0] 41)).setRow w7.heap.size C7) none := gsetR (galloc (grefl _ none) _) (Nat.le_refl _) C7
  have A3 := Lib.hid (bsetR MA.out C7)
  go_upto_region 9 with (refine wpList_store_row rfl 41 _ _ rfl w7.heap.size C7 rfl rfl 41 _ MA.out (by rw [hz7]; kernel_rfl) hz7.symm hs7 ?_)
  clear MA hs7
  have G' := Lib.hid (gtrans G.out hg)
  have A1' := Lib.hid (gblock hg A1.out (by simp))
  have A2' := Lib.hid (gblock hg A2.out (by simp))
  have F1' := Lib.hid (F1.out.kept hg)
  have F2' := Lib.hid (F2.out.kept hg)
  clear hg G A1 A2 F1 F2
  have G := G'
  have A1 := A1'
  have A2 := A2'
  have F1 := F1'
  have F2 := F2'
  clear G' A1' A2' F1' F2'
  generalize ((w7.alloc (.cells #[.int .u16 0, .bool false, .int .u8 0, .bool false, .bool false, .bool false, .bool false, .bool false, .bool false, .bool false, .int .u8 0, .slice none 0 0, .slice none 0 0, .slice none 0 0, .slice none 0 0, .bool false, .int .u16 0, .int .u8 0, .int .u8 0, .int .u16 0, .slice none 0 0] 41)).setRow w7.heap.size C7) = w8 at *
  generalize w7.heap.size = b13 at *
  have L_A1 := Lib.hid (fun (w' : World) (h : ∃ g : Gr w8, w' = g.w) => (by obtain ⟨g, rfl⟩ := h; exact gblock g.h A1.out (by simp) : w'.heap[b9]? = some (.cells #[.int .u8 c.kind, .int .i64 c.code, .int .u16 c.h.id, .bool c.h.qr, .int .u8 c.h.op, .bool c.h.aa, .bool c.h.tc, .bool c.h.rd, .bool c.h.ra, .bool c.h.z, .bool c.h.ad, .bool c.h.cd, .int .u8 c.h.code, .bool c.hasQ, .string c.q.name, .int .u16 c.q.kind, .int .u16 c.q.cls, .bool c.hasE, .int .i64 c.size] 28 (0, 0))))
  have L_A2 := Lib.hid (fun (w' : World) (h : ∃ g : Gr w8, w' = g.w) => (by obtain ⟨g, rfl⟩ := h; exact gblock g.h A2.out (by simp) : w'.heap[b10]? = some (.cells C4 41 (0, 0))))
  have L_A3 := Lib.hid (fun (w' : World) (h : ∃ g : Gr w8, w' = g.w) => (by obtain ⟨g, rfl⟩ := h; exact gblock g.h A3.out (by simp) : w'.heap[b13]? = some (.cells C7 41 (0, 0))))
  have SM := Lib.hid (fun g : Gr w8 => wsame_any g.w m m vq (.slice none 0 0) (.slice none 0 0) (.slice none 0 0) (.slice none 0 0) (.slice Bq m.qs.length dq) (.slice Ba m.an.length da) (.slice Bu m.au.length du) (.slice Bx m.ex.length dx) (.slice Bo m.ops.length dd) (F1.out.kept g.h) (F2.out.kept g.h).v (by rw [BK.out.qs]; split <;> simp) (by rw [BK.out.an]; simp) (by rw [BK.out.au]; simp) (by rw [BK.out.ex]; simp) (by rw [BK.out.ops]; simp))
  rw [decide_eq_true (rfl : m = m), Ms.val_cells, Ms.val_cells, ← EC4.out, ← EC7.out] at SM
  have RM := Lib.hid (fun g : Gr w8 => show Calls Tryd.prog 7 #[.agg #[.int .u8 c.kind, .int .i64 c.code, .int .u16 c.h.id, .bool c.h.qr, .int .u8 c.h.op, .bool c.h.aa, .bool c.h.tc, .bool c.h.rd, .bool c.h.ra, .bool c.h.z, .bool c.h.ad, .bool c.h.cd, .int .u8 c.h.code, .bool c.hasQ, .string c.q.name, .int .u16 c.q.kind, .int .u16 c.q.cls, .bool c.hasE, .int .i64 c.size], .int .i64 most] g.w fun e w'' => e = .returned (.int .i64 (room c most)) ∧ g.w.grownBy w'' none from room_any g.w c most)
  have y1 : decide (room c most < (m.out.size : Int)) = false := decide_eq_false (by have := room_512 c most; have := BK.out.short; omega)
  have y2 : decide ((512 : Int) < (m.out.size : Int)) = false := decide_eq_false (by have := BK.out.short; omega)
  have y3 : 1 < m.out.size := by have := BK.out.two; omega
  have y4 : 1 < s.size := by have := LK.out.long; omega
  have y5 : 0 < m.out.size := by omega
  have y6 : 0 < s.size := by omega
  have g0 : (m.out[0]'y5).toNat = bt s 0 := (bt_get m.out 0 y5).symm.trans BK.out.b0
  have g1 : (m.out[1]'y3).toNat = bt s 1 := (bt_get m.out 1 y3).symm.trans BK.out.b1
  have g2 : (s[0]'y6).toNat = bt s 0 := (bt_get s 0 y6).symm
  have g3 : (s[1]'y4).toNat = bt s 1 := (bt_get s 1 y4).symm
  have cqr : ∀ g : Gr w8, g.w.cell? ⟨b13, 1, none⟩ = some (.bool true) := Gr.cell ((bcellAt A3.out 1).trans (by rw [EC7.out]; show some (Value.bool m.h.qr) = _; rw [BK.out.qr]))
  have cra : ∀ g : Gr w8, g.w.cell? ⟨b13, 6, none⟩ = some (.bool true) := Gr.cell ((bcellAt A3.out 6).trans (by rw [EC7.out]; show some (Value.bool m.h.ra) = _; rw [BK.out.ra]))
  refine wp_region_noPanic ?_
  refine wp_region_gr (by kernel_rfl) (by kernel_rfl) ?_
  go_big_quiet_step (fail)
  go_big_quiet_step (fail)
  go_big_quiet_step (fail)
  go_big_quiet_step (fail)
  go_big_quiet_step (fail)
  go_big_quiet_step (fail)
  go_big_quiet_step (fail)
  refine wpQuiet_load_row rfl 41 _ rfl b10 rfl _ _ _ _ L_A2.out Tryd.underlying41 rfl (by rw [hz4]; kernel_rfl) ?_
  simp only [Act.put, List.setIfInBounds_toArray, List.set_cons_succ, List.set_cons_zero]
  refine wpQuiet_load_row rfl 41 _ rfl b13 rfl _ _ _ _ L_A3.out Tryd.underlying41 rfl (by rw [hz7]; kernel_rfl) ?_
  simp only [Act.put, List.setIfInBounds_toArray, List.set_cons_succ, List.set_cons_zero]
  go_big_quiet_step ((go_at_call 16; with_reducible exact Calls.gr (SM.out _)))
  go_big_quiet_step (fail)
  go_big_quiet_step (fail)
  go_big_quiet_step (fail)
  go_big_quiet_step (fail)
  go_big_quiet_step (fail)
  refine wpQuiet_load_row rfl 28 _ rfl b9 rfl _ _ _ _ L_A1.out Tryd.underlying28 rfl (by kernel_rfl) ?_
  simp only [Act.put, List.setIfInBounds_toArray, List.set_cons_succ, List.set_cons_zero]
  go_big_quiet_step (fail)
  go_big_quiet_step ((go_at_call 7; with_reducible exact Calls.gr (RM.out _)))
  repeat (go_big_quiet_step (fail))
  refine wpQuiet_nil ?_
  rintro _ ⟨gq, rfl⟩
  refine NoPanic.normal ?_
  have hg := gq.h
  clear y1 y2 y3 y4 y5 y6 g0 g1 g2 g3 cqr cra L_A1 L_A2 L_A3 SM RM
  have G' := Lib.hid (gtrans G.out hg)
  have A1' := Lib.hid (gblock hg A1.out (by simp))
  have A2' := Lib.hid (gblock hg A2.out (by simp))
  have A3' := Lib.hid (gblock hg A3.out (by simp))
  have F1' := Lib.hid (F1.out.kept hg)
  have F2' := Lib.hid (F2.out.kept hg)
  clear hg G A1 A2 A3 F1 F2
  have G := G'
  have A1 := A1'
  have A2 := A2'
  have A3 := A3'
  have F1 := F1'
  have F2 := F2'
  clear G' A1' A2' A3' F1' F2'
  generalize gq.w = w9 at *
  clear gq
  go_upto_region 11 with fail
  have c17 : ∀ g : Gr w9, g.w.cell? ⟨b9, 17, none⟩ = some (.bool c.hasE) := Gr.cell (bcellAt A1.out 17)
  have c14 : ∀ g : Gr w9, g.w.cell? ⟨b9, 14, none⟩ = some (.string c.q.name) := Gr.cell (bcellAt A1.out 14)
  have c15 : ∀ g : Gr w9, g.w.cell? ⟨b9, 15, none⟩ = some (.int .u16 c.q.kind) := Gr.cell (bcellAt A1.out 15)
  have c16 : ∀ g : Gr w9, g.w.cell? ⟨b9, 16, none⟩ = some (.int .u16 c.q.cls) := Gr.cell (bcellAt A1.out 16)
  have d15 : ∀ g : Gr w9, g.w.cell? ⟨b13, 15, none⟩ = some (.bool c.hasE) := Gr.cell ((bcellAt A3.out 15).trans (by rw [EC7.out]; show some (Value.bool m.has) = _; rw [BK.out.has]))
  have d12 : ∀ g : Gr w9, g.w.cell? ⟨b13, 12, none⟩ = some (.slice Ba 0 da) := Gr.cell ((bcellAt A3.out 12).trans (by rw [EC7.out]; show some (Value.slice Ba m.an.length da) = _; rw [BK.out.an]; rfl))
  have d13 : ∀ g : Gr w9, g.w.cell? ⟨b13, 13, none⟩ = some (.slice Bu 0 du) := Gr.cell ((bcellAt A3.out 13).trans (by rw [EC7.out]; show some (Value.slice Bu m.au.length du) = _; rw [BK.out.au]; rfl))
  have d14 : ∀ g : Gr w9, g.w.cell? ⟨b13, 14, none⟩ = some (.slice Bx 0 dx) := Gr.cell ((bcellAt A3.out 14).trans (by rw [EC7.out]; show some (Value.slice Bx m.ex.length dx) = _; rw [BK.out.ex]; rfl))
  cases hq : c.hasQ
  case false =>
    have c13 : ∀ g : Gr w9, g.w.cell? ⟨b9, 13, none⟩ = some (.bool false) := Gr.cell ((bcellAt A1.out 13).trans (by rw [← hq]; rfl))
    have hl : m.qs = [] := by rw [BK.out.qs, hq]; rfl
    have d11 : ∀ g : Gr w9, g.w.cell? ⟨b13, 11, none⟩ = some (.slice Bq 0 dq) := Gr.cell ((bcellAt A3.out 11).trans (by rw [EC7.out]; show some (Value.slice Bq m.qs.length dq) = _; rw [hl]; rfl))
    clear hl
    clear hq
    refine wp_region_noPanic ?_
    refine wp_region_gr (by kernel_rfl) (by kernel_rfl) ?_
    repeat (go_big_quiet_step (fail))
    refine wpQuiet_nil ?_
    rintro _ ⟨gq, rfl⟩
    refine NoPanic.normal ?_
    have G' := Lib.hid (gtrans G.out gq.h)
    go_wp2_with fail
    go_ret
    exact ⟨rfl, G'.out⟩
  case true =>
    have c13 : ∀ g : Gr w9, g.w.cell? ⟨b9, 13, none⟩ = some (.bool true) := Gr.cell ((bcellAt A1.out 13).trans (by rw [← hq]; rfl))
    have hl : m.qs = [c.q] := by rw [BK.out.qs, hq]; rfl
    obtain ⟨bl, hbl, _⟩ := fs_at F2.out.q (by rw [hl]; exact Nat.one_pos)
    have QL := F2.out.q.sl
    rw [hbl] at QL
    obtain ⟨l0, l1, l2⟩ := one_q QL hl
    replace l0 : ∀ g : Gr w9, g.w.cell? ⟨bl, 0, none⟩ = some (.string c.q.name) := Gr.cell l0
    replace l1 : ∀ g : Gr w9, g.w.cell? ⟨bl, 1, none⟩ = some (.int .u16 c.q.kind) := Gr.cell l1
    replace l2 : ∀ g : Gr w9, g.w.cell? ⟨bl, 2, none⟩ = some (.int .u16 c.q.cls) := Gr.cell l2
    have d11 : ∀ g : Gr w9, g.w.cell? ⟨b13, 11, none⟩ = some (.slice (some ⟨bl, 0, none⟩) 1 dq) := Gr.cell ((bcellAt A3.out 11).trans (by rw [EC7.out]; show some (Value.slice Bq m.qs.length dq) = _; rw [hl, hbl]; rfl))
    clear hl QL hbl
    clear hq
    refine wp_region_noPanic ?_
    refine wp_region_gr (by kernel_rfl) (by kernel_rfl) ?_
    repeat (go_big_quiet_step (fail))
    refine wpQuiet_nil ?_
    rintro _ ⟨gq, rfl⟩
    refine NoPanic.normal ?_
    have G' := Lib.hid (gtrans G.out gq.h)
    go_wp2_with fail
    go_ret
    exact ⟨rfl, G'.out⟩
end Go.Proofs.YtoncjhjnmomecaaDoor
