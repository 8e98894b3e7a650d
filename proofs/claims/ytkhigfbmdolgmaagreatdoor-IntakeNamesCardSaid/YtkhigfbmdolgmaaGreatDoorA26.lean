/-
  Intake: what the bytes of a message are looked at as (plain).
  Intake: the laws' asks and bytes.
-/
import Derived.Test.YtkhigfbmdolgmaaGreatDoorIkD
import Derived.Test.YtkhigfbmdolgmaaGreatDoorA25
import Derived.Test.YtkhigfbmdolgmaaGreatDoorA24
namespace Go.Proofs.YtkhigfbmdolgmaaGreatDoor
open Go.RowKit

theorem num_app_ (s t : ByteArray) (p n : Nat) (h : p + n ≤ s.size) : num (s ++ t) p n = num s p n := by
  have hl : s.data.toList.length = s.size := Array.length_toList
  unfold num
  rw [ByteArray.data_append, Array.toList_append, List.drop_append_of_le_length (by omega), List.take_append_of_le_length (by rw [List.length_drop]; omega)]
theorem num_ext_ (s : ByteArray) (m p n : Nat) (h : p + n ≤ m) : num (s.extract 0 m) p n = num s p n := by
  unfold num
  rw [ByteArray.data_extract, Array.toList_extract, List.extract_eq_take_drop, List.drop_zero, List.drop_take, List.take_take, Nat.min_eq_left (by omega)]

def lkM (m : Ms) : Lk := if m.h.qr = true then .drop else if m.h.op ≠ 0 then .told (cm0 m.h) 4 else examM (cm0 m.h) m
theorem out_rd {m : Ms} (hr : m.rng) (h0 : m.wE = 0) : rdM m.out = .ok m := by
  rw [(out_ok h0).1]
  exact m_back hr h0
theorem look_out {m : Ms} (hr : m.rng) (h0 : m.wE = 0) : look m.out = (lkM m).cm := by
  have hM := out_rd hr h0
  have hh := rdM_h hM
  obtain ⟨_, _, h3, h4, _⟩ := out_ok h0
  have e1 : dcM m.out = m := by unfold dcM; rw [hM]
  have e2 : dcE m.out = 0 := by unfold dcE; rw [hM]
  unfold look exam lkM
  rw [if_neg (by omega), ← hh, e1, e2]
  by_cases hq : m.h.qr = true
  · rw [if_pos hq, if_pos hq]
  · rw [if_neg hq, if_neg hq]
    by_cases ho : m.h.op ≠ 0
    · rw [if_pos ho, if_pos ho]
    · rw [if_neg ho, if_neg ho, if_neg (by simp)]
theorem look_12 {m : Ms} (hr : m.rng) (h0 : m.wE = 0) (hq : ¬ m.h.qr = true) (ho : m.h.op ≠ 0) : look (m.out.extract 0 12) = (Lk.told (cm0 m.h) 4).cm := by
  have hh := rdM_h (out_rd hr h0)
  obtain ⟨_, _, h3, h4, _⟩ := out_ok h0
  unfold look exam
  rw [if_neg (by rw [ext_size]; omega), num_ext_ _ _ _ _ (by omega), num_ext_ _ _ _ _ (by omega), ← hh, if_neg hq, if_pos ho]
theorem look_11' {m : Ms} : look (m.out.extract 0 11) = Lk.drop.cm := by
  unfold look exam
  rw [if_pos (by rw [ext_size]; omega)]
theorem look_more {m : Ms} (hr : m.rng) (h0 : m.wE = 0) (hq : ¬ m.h.qr = true) (ho : ¬ m.h.op ≠ 0) {t : ByteArray} (ht : 0 < t.size) : look (m.out ++ t) = (Lk.told (cm0 m.h) 1).cm := by
  have hh := rdM_h (out_rd hr h0)
  obtain ⟨_, _, h3, h4, _⟩ := out_ok h0
  have e := dc_more hr h0 ht
  unfold look exam
  rw [if_neg (by rw [ByteArray.size_append]; omega), num_app_ _ _ _ _ (by omega), num_app_ _ _ _ _ (by omega), ← hh, if_neg hq, if_neg ho, e, if_pos (by simp)]
/-- Messages of ID 9, with questions of the root, or an OPT record. -/
def gm (qr : Bool) (op : Nat) (qs : List Qn) (has : Bool) (sz v : Nat) : Ms := ⟨⟨9, qr, op, false, false, true, false, false, false, false, 0⟩, qs, [], [], [], has, sz, 0, v, 0, []⟩
def qr0 (k c : Nat) : Qn := ⟨root0, k, c⟩
/-- What is asked of such a message. -/
structure Gm (op : Nat) (qs : List Qn) (has : Bool) (sz v : Nat) : Prop where
  oo : op ≤ 15
  q : ∀ q ∈ qs, q.kind < 65536 ∧ q.cls < 65536 ∧ may q.name = true
  l : qs.length ≤ 10
  w : (qs.map fun q => q.name.size + 4).sum ≤ 1000
  ss : sz < 65536
  vv : v < 256
  z : has = true ∨ (sz = 0 ∧ v = 0)
section
variable {qr : Bool} {op : Nat} {qs : List Qn} {has : Bool} {sz v : Nat}
theorem Gm.rng (h : Gm op qs has sz v) : (gm qr op qs has sz v).rng :=
  ⟨by show 9 < 65536; omega, fun q hq => ⟨(h.q q hq).1, (h.q q hq).2.1⟩, fun r hr => (by cases hr), fun r hr => (by cases hr), fun r hr => (by cases hr), Nat.zero_le _, Nat.zero_le _, h.ss, (by show (0 : Nat) < 256; omega), h.vv, (by show (0 : Nat) < 65536; omega), fun o ho => (by cases ho)⟩
theorem Gm.my (h : Gm op qs has sz v) : (gm qr op qs has sz v).may = true := by
  have hl := h.l
  refine Ms.may_yes.2 ⟨?_, ?_, Nat.zero_le _, Nat.zero_le _, ?_, ?_, rfl, rfl, rfl, ?_⟩
  · have := h.oo
    show ¬ (15 < op ∨ 15 < 0)
    omega
  · show qs.length ≤ _; omega
  · show 0 + has.toNat ≤ _
    cases has <;> simp
  · exact List.all_eq_true.2 fun q hq => (h.q q hq).2.2
  · show (has || _) = true
    rcases h.z with rfl | ⟨rfl, rfl⟩
    · rfl
    · rw [Bool.or_eq_true]; exact .inr rfl
theorem Gm.w0 (h : Gm op qs has sz v) : (gm qr op qs has sz v).wE = 0 := by
  have ho : (gm qr op qs has sz v).has = true → okO (gm qr op qs has sz v).ops := fun _ => by
    show okO []
    unfold okO
    decide
  have l := s5_le_whole (h.rng (qr := qr)) (h.my (qr := qr)) ho
  have lw := h.w
  have hw : (gm qr op qs has sz v).whole ≤ 2000 := by
    unfold Ms.whole
    show 12 + (qs.map fun q => q.name.size + 4).sum + 0 + 0 + 0 + (if has = true then 11 + 0 else 0) ≤ 2000
    split <;> omega
  unfold Ms.wE
  rw [if_neg (by rw [h.my]; simp), if_neg]
  rintro (⟨k1, k2⟩ | k)
  · exact k2 (ho k1)
  · omega
theorem Gm.lk (h : Gm op qs has sz v) : look (gm qr op qs has sz v).out = (lkM (gm qr op qs has sz v)).cm := look_out h.rng h.w0
end
theorem Gm.one {k c : Nat} {has : Bool} {sz v : Nat} (hk : k < 65536) (hc : c < 65536) (hs : sz < 65536) (hv : v < 256) (hz : has = true ∨ (sz = 0 ∧ v = 0)) : Gm 0 [qr0 k c] has sz v :=
  ⟨by omega, fun q hq => by rw [List.mem_singleton.1 hq]; exact ⟨hk, hc, (by decide +kernel : may root0 = true)⟩, by simp, by show (root0.size + 4 + 0) ≤ 1000; decide, hs, hv, hz⟩
theorem Gm.two {op : Nat} (ho : op ≤ 15) : Gm op [qr0 0 0, qr0 1 1] true 4000 1 :=
  ⟨ho, fun q hq => by
    rcases List.mem_cons.1 hq with rfl | hq
    · exact ⟨by decide, by decide, by decide +kernel⟩
    · rw [List.mem_singleton.1 hq]; exact ⟨by decide, by decide, by decide +kernel⟩, by simp, by show (root0.size + 4 + (root0.size + 4 + 0)) ≤ 1000; decide, by omega, by omega, .inl rfl⟩
/-- A row of the examples: the bytes, and what is looked for. -/
structure Rw where
  s : ByteArray
  kind : Nat
  code : Nat
  has : Bool
def Rw.ok (r : Rw) : Prop := (r.kind = 1 ∧ r.code = 0 ∧ r.has = false ∧ look r.s = Lk.drop.cm) ∨ (r.kind ≠ 1 ∧ (look r.s).kind = r.kind ∧ (look r.s).code = r.code ∧ (look r.s).hasQ = r.has ∧ (look r.s).h.id = 9 ∧ (look r.s).h.rd = true)
def mAsk (k c : Nat) : Ms := gm false 0 [qr0 k c] false 0 0
def mEdn : Ms := gm false 0 [qr0 1 1] true 4000 0
def mOld : Ms := gm false 0 [qr0 1 1] true 4000 1
def mOdd : Ms := gm false 0 [qr0 255 3] true 4000 1
def mTwo : Ms := gm false 0 [qr0 0 0, qr0 1 1] true 4000 1
def mOth : Ms := gm false 5 [qr0 0 0, qr0 1 1] true 4000 1
def mRep : Ms := gm true 5 [qr0 0 0, qr0 1 1] true 4000 1
def rows25 : List Rw := [⟨mRep.out, 1, 0, false⟩, ⟨mOth.out, 2, 4, false⟩, ⟨mOth.out.extract 0 12, 2, 4, false⟩, ⟨mOth.out.extract 0 11, 1, 0, false⟩, ⟨mTwo.out, 2, 1, false⟩, ⟨mOdd.out, 2, 16, true⟩, ⟨mOld.out, 2, 16, true⟩, ⟨mEdn.out, 3, 0, true⟩, ⟨mEdn.out ++ ⟨#[120]⟩, 2, 1, false⟩,
  ⟨(mAsk 0 1).out, 2, 5, true⟩, ⟨(mAsk 1 1).out, 3, 0, true⟩, ⟨(mAsk 41 1).out, 2, 5, true⟩, ⟨(mAsk 248 1).out, 3, 0, true⟩, ⟨(mAsk 249 1).out, 2, 5, true⟩, ⟨(mAsk 255 1).out, 2, 5, true⟩, ⟨(mAsk 256 1).out, 3, 0, true⟩, ⟨(mAsk 1 3).out, 2, 5, true⟩, ⟨(mAsk 1 255).out, 2, 5, true⟩, ⟨⟨#[]⟩, 1, 0, false⟩]
theorem ask_ok {k c : Nat} (hk : k < 65536) (hc : c < 65536) (n : Nat) (hn : (lkM (mAsk k c)).cm.kind = n ∧ n ≠ 1) (cd : Nat) (hcd : (lkM (mAsk k c)).cm.code = cd) (hx : (lkM (mAsk k c)).cm.hasQ = true ∧ (lkM (mAsk k c)).cm.h.id = 9 ∧ (lkM (mAsk k c)).cm.h.rd = true) : (⟨(mAsk k c).out, n, cd, true⟩ : Rw).ok := by
  have e : look (mAsk k c).out = (lkM (mAsk k c)).cm := (Gm.one (has := false) (sz := 0) (v := 0) hk hc (by omega) (by omega) (.inr ⟨rfl, rfl⟩)).lk
  refine .inr ⟨hn.2, ?_, ?_, ?_, ?_, ?_⟩
  · show (look (mAsk k c).out).kind = n; rw [e]; exact hn.1
  · show (look (mAsk k c).out).code = cd; rw [e]; exact hcd
  · show (look (mAsk k c).out).hasQ = true; rw [e]; exact hx.1
  · show (look (mAsk k c).out).h.id = 9; rw [e]; exact hx.2.1
  · show (look (mAsk k c).out).h.rd = true; rw [e]; exact hx.2.2
theorem gen_ok {s : ByteArray} {l : Cm} (e : look s = l) (n cd : Nat) (hq : Bool) (h : n ≠ 1 ∧ l.kind = n ∧ l.code = cd ∧ l.hasQ = hq ∧ l.h.id = 9 ∧ l.h.rd = true) : (⟨s, n, cd, hq⟩ : Rw).ok := by
  subst e
  exact .inr h
theorem rows25_ok : ∀ r ∈ rows25, r.ok := by
  have a1 := Gm.one (k := 1) (c := 1) (has := true) (sz := 4000) (v := 0) (by omega) (by omega) (by omega) (by omega) (.inl rfl)
  have a2 := Gm.one (k := 1) (c := 1) (has := true) (sz := 4000) (v := 1) (by omega) (by omega) (by omega) (by omega) (.inl rfl)
  have a3 := Gm.one (k := 255) (c := 3) (has := true) (sz := 4000) (v := 1) (by omega) (by omega) (by omega) (by omega) (.inl rfl)
  have t0 := Gm.two (op := 0) (by omega)
  have t5 := Gm.two (op := 5) (by omega)
  intro r hr
  simp only [rows25, List.mem_cons, List.not_mem_nil, or_false] at hr
  rcases hr with rfl | rfl | rfl | rfl | rfl | rfl | rfl | rfl | rfl | rfl | rfl | rfl | rfl | rfl | rfl | rfl | rfl | rfl | rfl
  · exact .inl ⟨rfl, rfl, rfl, t5.lk (qr := true)⟩
  · exact gen_ok (t5.lk (qr := false)) _ _ _ ⟨by decide, rfl, rfl, rfl, rfl, rfl⟩
  · exact gen_ok (look_12 (t5.rng (qr := false)) t5.w0 (by decide) (by decide)) _ _ _ ⟨by decide, rfl, rfl, rfl, rfl, rfl⟩
  · exact .inl ⟨rfl, rfl, rfl, look_11' (m := mOth)⟩
  · exact gen_ok (t0.lk (qr := false)) _ _ _ ⟨by decide, rfl, rfl, rfl, rfl, rfl⟩
  · exact gen_ok (a3.lk (qr := false)) _ _ _ ⟨by decide, rfl, rfl, rfl, rfl, rfl⟩
  · exact gen_ok (a2.lk (qr := false)) _ _ _ ⟨by decide, rfl, rfl, rfl, rfl, rfl⟩
  · exact gen_ok (a1.lk (qr := false)) _ _ _ ⟨by decide, rfl, rfl, rfl, rfl, rfl⟩
  · exact gen_ok (look_more (a1.rng (qr := false)) a1.w0 (by decide) (by decide) (by decide)) _ _ _ ⟨by decide, rfl, rfl, rfl, rfl, rfl⟩
  all_goals first
    | exact ask_ok (by decide) (by decide) _ ⟨rfl, by decide⟩ _ rfl ⟨rfl, rfl, rfl⟩
    | exact .inl ⟨rfl, rfl, rfl, by unfold look exam; rw [if_pos (by decide)]⟩
theorem gm_size {qr : Bool} {op : Nat} {qs : List Qn} {has : Bool} {sz v : Nat} (h : Gm op qs has sz v) : 12 ≤ (gm qr op qs has sz v).out.size ∧ (gm qr op qs has sz v).out.size ≤ 65535 := by
  obtain ⟨_, _, h3, h4, h5⟩ := out_ok (h.w0 (qr := qr))
  omega
theorem rows25_len : ∀ r ∈ rows25, r.s.size ≤ 100000 := by
  have a1 := (gm_size (qr := false) (Gm.one (k := 1) (c := 1) (has := true) (sz := 4000) (v := 0) (by omega) (by omega) (by omega) (by omega) (.inl rfl))).2
  have a2 := (gm_size (qr := false) (Gm.one (k := 1) (c := 1) (has := true) (sz := 4000) (v := 1) (by omega) (by omega) (by omega) (by omega) (.inl rfl))).2
  have a3 := (gm_size (qr := false) (Gm.one (k := 255) (c := 3) (has := true) (sz := 4000) (v := 1) (by omega) (by omega) (by omega) (by omega) (.inl rfl))).2
  have t0 := (gm_size (qr := false) (Gm.two (op := 0) (by omega))).2
  have t5 := (gm_size (qr := false) (Gm.two (op := 5) (by omega))).2
  have t6 := (gm_size (qr := true) (Gm.two (op := 5) (by omega))).2
  have ak : ∀ k c : Nat, k < 65536 → c < 65536 → (mAsk k c).out.size ≤ 65535 := fun k c hk hc => (gm_size (qr := false) (Gm.one (has := false) (sz := 0) (v := 0) hk hc (by omega) (by omega) (.inr ⟨rfl, rfl⟩))).2
  intro r hr
  simp only [rows25, List.mem_cons, List.not_mem_nil, or_false] at hr
  rcases hr with rfl | rfl | rfl | rfl | rfl | rfl | rfl | rfl | rfl | rfl | rfl | rfl | rfl | rfl | rfl | rfl | rfl | rfl | rfl
  · show mRep.out.size ≤ _; exact Nat.le_trans t6 (by decide)
  · show mOth.out.size ≤ _; exact Nat.le_trans t5 (by decide)
  · show (mOth.out.extract 0 12).size ≤ _; rw [ext_size]; omega
  · show (mOth.out.extract 0 11).size ≤ _; rw [ext_size]; omega
  · show mTwo.out.size ≤ _; exact Nat.le_trans t0 (by decide)
  · show mOdd.out.size ≤ _; exact Nat.le_trans a3 (by decide)
  · show mOld.out.size ≤ _; exact Nat.le_trans a2 (by decide)
  · show mEdn.out.size ≤ _; exact Nat.le_trans a1 (by decide)
  · show (mEdn.out ++ ⟨#[120]⟩).size ≤ _
    rw [ByteArray.size_append]
    exact Nat.le_trans (Nat.add_le_add_right (show mEdn.out.size ≤ 65535 from a1) _) (by decide)
  all_goals first
    | exact Nat.le_trans (ak _ _ (by decide) (by decide)) (by decide)
    | exact Nat.zero_le _
/-- The rows over their bytes. -/
def rowsV (s6 s5 s4 s3 s2 s1 a1 a2 a3 a4 a5 a6 a7 a8 a9 : ByteArray) : List Rw := [⟨s6, 1, 0, false⟩, ⟨s5, 2, 4, false⟩, ⟨s5.extract 0 12, 2, 4, false⟩, ⟨s5.extract 0 11, 1, 0, false⟩, ⟨s4, 2, 1, false⟩, ⟨s3, 2, 16, true⟩, ⟨s2, 2, 16, true⟩, ⟨s1, 3, 0, true⟩, ⟨s1 ++ ⟨#[120]⟩, 2, 1, false⟩,
  ⟨a1, 2, 5, true⟩, ⟨a2, 3, 0, true⟩, ⟨a3, 2, 5, true⟩, ⟨a4, 3, 0, true⟩, ⟨a5, 2, 5, true⟩, ⟨a6, 2, 5, true⟩, ⟨a7, 3, 0, true⟩, ⟨a8, 2, 5, true⟩, ⟨a9, 2, 5, true⟩, ⟨⟨#[]⟩, 1, 0, false⟩]
def rwV (r : Rw) : List Value := [.string r.s, .int .u8 r.kind, .int .i64 r.code, .bool r.has]
theorem rows25_V : rows25 = rowsV mRep.out mOth.out mTwo.out mOdd.out mOld.out mEdn.out (mAsk 0 1).out (mAsk 1 1).out (mAsk 41 1).out (mAsk 248 1).out (mAsk 249 1).out (mAsk 255 1).out (mAsk 256 1).out (mAsk 1 3).out (mAsk 1 255).out := rfl
end Go.Proofs.YtkhigfbmdolgmaaGreatDoor
namespace Go.Proofs.YtkhigfbmdolgmaaGreatDoor
open Go.RowKit

/-- A message's row: of ID 9, with questions alone. -/
def row25 (qr : Bool) (op : Nat) (has : Bool) (sz v : Nat) (vq : Value) : Array Value := #[.int .u16 9, .bool qr, .int .u8 op, .bool false, .bool false, .bool true, .bool false, .bool false, .bool false, .bool false, .int .u8 0, vq, .slice none 0 0, .slice none 0 0, .slice none 0 0, .bool has, .int .u16 sz, .int .u8 0, .int .u8 v, .int .u16 0, .slice none 0 0]
theorem gm_val (qr : Bool) (op : Nat) (qs : List Qn) (has : Bool) (sz v : Nat) (vq : Value) : (gm qr op qs has sz v).val vq (.slice none 0 0) (.slice none 0 0) (.slice none 0 0) (.slice none 0 0) = .agg (row25 qr op has sz v vq) := rfl
theorem Gm.doc {qr : Bool} {op : Nat} {qs : List Qn} {has : Bool} {sz v : Nat} (h : Gm op qs has sz v) : (gm qr op qs has sz v).doc :=
  ⟨h.rng, fun q hq => (by have := (may_size (h.q q hq).2.2).1; omega), fun r hr => (by cases hr), fun r hr => (by cases hr), fun r hr => (by cases hr)⟩
set_option maxRecDepth 100000 in
set_option maxHeartbeats 1000000 in
theorem bytes_any (w : World) (m : Ms) (vq va vu vx vo : Value) (hv : MsV w m vq va vu vx vo) (hd : m.doc) :
    Calls Tryz.prog 6 #[m.val vq va vu vx vo] w fun e w' => e = .returned (.string m.out) ∧ w.grownBy w' none := by
  have ga := galloc (grefl w none) (.cells (m.cells vq va vu vx vo) 32)
  have B := Lib.hid (balloc w (.cells (m.cells vq va vu vx vo) 32))
  have CE := rencode_any (w.alloc (.cells (m.cells vq va vu vx vo) 32)) m vq va vu vx vo (hv.kept ga) hd
  rw [Ms.val_cells] at CE ⊢
  have CE := Lib.hid CE
  have G := Lib.hid ga
  clear ga hv hd
  have hs : (m.cells vq va vu vx vo).size = 21 := rfl
  generalize m.cells vq va vu vx vo = C at *
  go_enter Tryz.func6, Tryz.ntmps6
  go_wp2_with (refine wpList_load_row rfl 32 _ rfl w.heap.size rfl _ _ _ _ B.out Tryz.underlying32 rfl (by rw [hs]; kernel_rfl) ?_)
  refine Calls.mono CE.out ?_
  rintro e w1 ⟨rfl, hg⟩
  have G1 := Lib.hid (gtrans G.out hg)
  clear hg
  go_wp2_with fail
  go_ret
  exact ⟨rfl, G1.out⟩
/-- What asks gives. -/
def AkPost (k c : Nat) (w : World) (e : Ending) (w' : World) : Prop :=
  ∃ g : Nat, e = .returned (.agg (row25 false 0 false 0 0 (.slice (some ⟨g, 0, none⟩) 1 1))) ∧ w'.heap[g]? = some (.cells #[.string ⟨#[0]⟩, .int .u16 k, .int .u16 c] 35 (0, 0)) ∧ w.grownBy w' none
theorem sl_blk {w : World} {g k n : Nat} {xs : List Value} {e : TypeId} (hb : w.heap[g]? = some (.cells xs.toArray e (0, 0))) (h : xs.length = n * k) : Sl w k (.slice (some ⟨g, 0, none⟩) n n) n xs :=
  ⟨_, _, rfl, Nat.le_refl _, h, by simp, fun _ => ⟨_, _, rfl, fun j u hu => by
    rw [bcellAt hb]
    simpa using hu⟩⟩
theorem qs_one {w : World} {g k c : Nat} (hb : w.heap[g]? = some (.cells #[.string ⟨#[0]⟩, .int .u16 k, .int .u16 c] 35 (0, 0))) : Qs w (.slice (some ⟨g, 0, none⟩) 1 1) [qr0 k c] := sl_blk (xs := [.string ⟨#[0]⟩, .int .u16 k, .int .u16 c]) hb rfl
theorem gm_v {w : World} {qr : Bool} {op : Nat} {qs : List Qn} {has : Bool} {sz v : Nat} {vq : Value} (h : Qs w vq qs) : MsV w (gm qr op qs has sz v) vq (.slice none 0 0) (.slice none 0 0) (.slice none 0 0) (.slice none 0 0) := ⟨h, Sl.nil _ _, Sl.nil _ _, Sl.nil _ _, Sl.nil _ _⟩
set_option maxRecDepth 100000 in
set_option maxHeartbeats 4000000 in
theorem asks_any (w : World) (k c : Nat) : Calls Tryz.prog 5 #[.int .u16 k, .int .u16 c] w (AkPost k c w) := by
  have B0 := Lib.hid (balloc w (.cells #[.int .u16 0, .bool false, .int .u8 0, .bool false, .bool false, .bool false, .bool false, .bool false, .bool false, .bool false, .int .u8 0, .slice none 0 0, .slice none 0 0, .slice none 0 0, .slice none 0 0, .bool false, .int .u16 0, .int .u8 0, .int .u8 0, .int .u16 0, .slice none 0 0] 32))
  have G0 := Lib.hid (galloc (grefl w none) (.cells #[.int .u16 0, .bool false, .int .u8 0, .bool false, .bool false, .bool false, .bool false, .bool false, .bool false, .bool false, .int .u8 0, .slice none 0 0, .slice none 0 0, .slice none 0 0, .slice none 0 0, .bool false, .int .u16 0, .int .u8 0, .int .u8 0, .int .u16 0, .slice none 0 0] 32))
  have LW := Lib.hid (show w.heap.size < (w.alloc (.cells #[.int .u16 0, .bool false, .int .u8 0, .bool false, .bool false, .bool false, .bool false, .bool false, .bool false, .bool false, .int .u8 0, .slice none 0 0, .slice none 0 0, .slice none 0 0, .slice none 0 0, .bool false, .int .u16 0, .int .u8 0, .int .u8 0, .int .u16 0, .slice none 0 0] 32)).heap.size from by simp)
  go_enter Tryz.func5, Tryz.ntmps5
  go_upto_region 1 with fail
  generalize w.alloc (.cells #[.int .u16 0, .bool false, .int .u8 0, .bool false, .bool false, .bool false, .bool false, .bool false, .bool false, .bool false, .int .u8 0, .slice none 0 0, .slice none 0 0, .slice none 0 0, .slice none 0 0, .bool false, .int .u16 0, .int .u8 0, .int .u8 0, .int .u16 0, .slice none 0 0] 32) = w1 at *
  have gk := galloc (grefl w1 none) (.cells #[.string ⟨#[0]⟩, .int .u16 k, .int .u16 c] 35)
  have BQ := Lib.hid (balloc w1 (.cells #[.string ⟨#[0]⟩, .int .u16 k, .int .u16 c] 35))
  have B1 := Lib.hid (gblock gk B0.out (by simp))
  have G1 := Lib.hid (gtrans G0.out gk)
  have R := Lib.hid (bsetR B1.out (row25 false 0 false 0 0 (.slice (some ⟨w1.heap.size, 0, none⟩) 1 1)))
  have gr := grow_row (w1.alloc (.cells #[.string ⟨#[0]⟩, .int .u16 k, .int .u16 c] 35)) w.heap.size (row25 false 0 false 0 0 (.slice (some ⟨w1.heap.size, 0, none⟩) 1 1))
  have BQ2 := Lib.hid (gblock gr BQ.out (by have := LW.out; simp; omega))
  have G2 := Lib.hid (gsetR G1.out (Nat.le_refl _) (row25 false 0 false 0 0 (.slice (some ⟨w1.heap.size, 0, none⟩) 1 1)))
  clear gk gr G1 BQ
  go_wp2_with (refine wpList_store_row rfl 32 _ _ rfl w.heap.size (row25 false 0 false 0 0 (.slice (some ⟨w1.heap.size, 0, none⟩) 1 1)) rfl rfl 32 _ B1.out (by kernel_rfl) rfl (by kernel_rfl) ?_)
  refine bodyPost_ret_by (results_cell_row rfl _ _ w.heap.size 32 (row25 false 0 false 0 0 (.slice (some ⟨w1.heap.size, 0, none⟩) 1 1)) (0, 0) _ rfl R.out Tryz.underlying32 rfl (by kernel_rfl)) rfl ?_
  exact ⟨w1.heap.size, rfl, BQ2.out, G2.out⟩
end Go.Proofs.YtkhigfbmdolgmaaGreatDoor
