/-
  Intake: what comes in as arguments.
  Intake: how much room a reply has; a reply by a code.
  Intake: a reply by a code.
-/
import Derived.Test.YtkhigfbmdolgmaaGreatDoorA22
import Derived.Test.YtkhigfbmdolgmaaGreatDoorIkD
import Derived.Test.YtkhigfbmdolgmaaGreatDoorIkC
import Derived.Test.YtkhigfbmdolgmaaGreatDoorIkF
import Derived.Deep.Cut
import Derived.Laws.CopyRow
namespace Go.Proofs.YtkhigfbmdolgmaaGreatDoor
open Go.ChangeShapes Go.WideShapes Go.RowKit Go.Deep

def Cm.v (c : Cm) : Value := .agg #[.int .u8 c.kind, .int .i64 c.code, .int .u16 c.h.id, .bool c.h.qr, .int .u8 c.h.op, .bool c.h.aa, .bool c.h.tc, .bool c.h.rd, .bool c.h.ra, .bool c.h.z, .bool c.h.ad, .bool c.h.cd, .int .u8 c.h.code, .bool c.hasQ, .string c.q.name, .int .u16 c.q.kind, .int .u16 c.q.cls, .bool c.hasE, .int .i64 c.size]
structure Cm.typ (c : Cm) : Prop where
  kind : c.kind < 256
  id : c.h.id < 65536
  op : c.h.op < 256
  q : c.q.rng ∧ c.q.name.size ≤ maxLen
theorem nat_u8' {x : Int} (h : (Lit.int .u8 x).wf = true) : ∃ n : Nat, x = n ∧ n < 256 := by
  have h' : 0 ≤ x ∧ x ≤ 255 := by simpa [Lit.wf, IntKind.min, IntKind.max, IntKind.signed, IntKind.bits] using h
  exact ⟨x.toNat, by omega, by omega⟩
set_option maxRecDepth 100000 in
theorem open_qn {H : Type} {enc : TypeId × Value → H} {W : World} {r : Reach} {b0 : Nat} {v : Value} {d : DataW H} {p : List MemPlace}
    (hv : Value.okWide Tryz.prog W r b0 35 v) (h : DataW.Trod enc Tryz.prog W 0 (fun _ => true) true 35 v d p) : ∃ q : Qn, v = .agg #[.string q.name, .int .u16 q.kind, .int .u16 q.cls] ∧ q.rng ∧ q.name.size ≤ maxLen := by
  obtain ⟨cs, rfl, hsz⟩ := okWide_struct Tryz.underlying35 hv
  obtain ⟨l⟩ := cs
  have hl : l.length = 3 := by simpa using hsz.trans (show Tryz.prog.cellsOf 35 = 3 from by kernel_rfl)
  obtain ⟨fuel, hf⟩ := h
  match l, hl with
  | [c0, c1, c2], _ =>
    obtain ⟨_, hq⟩ := open_part Tryz.underlying35 (by kernel_rfl) hf
    obtain ⟨_, q0⟩ := hq 0 _ c0 rfl rfl
    obtain ⟨_, q1⟩ := hq 1 _ c1 rfl rfl
    obtain ⟨_, q2⟩ := hq 2 _ c2 rfl rfl
    obtain ⟨s, e0, _, hs⟩ := DataW.trod_string Tryz.underlying9 q0
    obtain ⟨g1, e1, hg1⟩ := one_u16 Tryz.underlying23 q1
    obtain ⟨g2, e2, hg2⟩ := one_u16 Tryz.underlying23 q2
    have e0' : c0 = .string s := by simpa using e0
    subst e0' e1 e2
    exact ⟨⟨s, g1, g2⟩, rfl, ⟨hg1, hg2⟩, hs⟩
set_option maxRecDepth 100000 in
theorem open_hd {H : Type} {enc : TypeId × Value → H} {W : World} {r : Reach} {b0 : Nat} {v : Value} {d : DataW H} {p : List MemPlace}
    (hv : Value.okWide Tryz.prog W r b0 25 v) (h : DataW.Trod enc Tryz.prog W 0 (fun _ => true) true 25 v d p) : ∃ x : Hd, v = x.v ∧ x.id < 65536 ∧ x.op < 256 ∧ x.code < 256 := by
  obtain ⟨cs, rfl, hsz⟩ := okWide_struct Tryz.underlying25 hv
  obtain ⟨l⟩ := cs
  have hl : l.length = 11 := by simpa using hsz.trans (show Tryz.prog.cellsOf 25 = 11 from by kernel_rfl)
  obtain ⟨fuel, hf⟩ := h
  match l, hl with
  | [c0, c1, c2, c3, c4, c5, c6, c7, c8, c9, c10], _ =>
    obtain ⟨_, hh⟩ := open_part Tryz.underlying25 (by kernel_rfl) hf
    obtain ⟨_, hy0⟩ := hh 0 _ c0 rfl rfl
    obtain ⟨kh0, rfl, lh0⟩ := one_u16 Tryz.underlying23 hy0
    obtain ⟨_, hy1⟩ := hh 1 _ c1 rfl rfl
    obtain ⟨kh1, rfl⟩ := one_bool Tryz.underlying4 hy1
    obtain ⟨_, hy2⟩ := hh 2 _ c2 rfl rfl
    obtain ⟨kh2, rfl, lh2⟩ := one_u8 Tryz.underlying5 hy2
    obtain ⟨_, hy3⟩ := hh 3 _ c3 rfl rfl
    obtain ⟨kh3, rfl⟩ := one_bool Tryz.underlying4 hy3
    obtain ⟨_, hy4⟩ := hh 4 _ c4 rfl rfl
    obtain ⟨kh4, rfl⟩ := one_bool Tryz.underlying4 hy4
    obtain ⟨_, hy5⟩ := hh 5 _ c5 rfl rfl
    obtain ⟨kh5, rfl⟩ := one_bool Tryz.underlying4 hy5
    obtain ⟨_, hy6⟩ := hh 6 _ c6 rfl rfl
    obtain ⟨kh6, rfl⟩ := one_bool Tryz.underlying4 hy6
    obtain ⟨_, hy7⟩ := hh 7 _ c7 rfl rfl
    obtain ⟨kh7, rfl⟩ := one_bool Tryz.underlying4 hy7
    obtain ⟨_, hy8⟩ := hh 8 _ c8 rfl rfl
    obtain ⟨kh8, rfl⟩ := one_bool Tryz.underlying4 hy8
    obtain ⟨_, hy9⟩ := hh 9 _ c9 rfl rfl
    obtain ⟨kh9, rfl⟩ := one_bool Tryz.underlying4 hy9
    obtain ⟨_, hy10⟩ := hh 10 _ c10 rfl rfl
    obtain ⟨kh10, rfl, lh10⟩ := one_u8 Tryz.underlying5 hy10
    exact ⟨⟨kh0, kh1, kh2, kh3, kh4, kh5, kh6, kh7, kh8, kh9, kh10⟩, rfl, lh0, lh2, lh10⟩
theorem open_rl {H : Type} {enc : TypeId × Value → H} {W : World} {v : Value} {d : DataW H} {p : List MemPlace}
    (h : DataW.Trod enc Tryz.prog W 0 (fun _ => true) true 27 v d p) (hv : ∃ A n c, v = .slice A n c) : ∃ l : List Rc, Rs W v l ∧ l.length ≤ maxLen ∧ ∀ x ∈ l, x.typ ∧ x.name.size ≤ maxLen ∧ x.data.size ≤ maxLen := by
  obtain ⟨fuel, hf⟩ := h
  obtain ⟨A, n, c, rfl⟩ := hv
  exact open_rs hf
end Go.Proofs.YtkhigfbmdolgmaaGreatDoor
namespace Go.Proofs.YtkhigfbmdolgmaaGreatDoor
open Go.RowKit

theorem Cm.v_val (c : Cm) : c.v = c.val := rfl
theorem room_no (c : Cm) (most : Int) (h : c.hasE = false) : room c most = 512 := by unfold room; rw [h]; simp
theorem room_low (c : Cm) (most : Int) (h : c.size ≤ 512) : room c most = 512 := by unfold room; rw [if_neg (by omega)]
theorem room_min (c : Cm) (most : Int) (h : c.hasE = true) (hs : ¬ c.size ≤ 512) : room c most = min c.size (max most 512) := by unfold room; rw [if_pos ⟨h, by omega⟩]
set_option maxRecDepth 100000 in
set_option maxHeartbeats 2000000 in
theorem room_any (w : World) (c : Cm) (most : Int) : Calls Tryz.prog 8 #[c.val, .int .i64 most] w fun e w' => e = .returned (.int .i64 (room c most)) ∧ w.grownBy w' none := by
  have R1 := Lib.hid (room_no c most)
  have R2 := Lib.hid (room_low c most)
  have R3 := Lib.hid (room_min c most)
  obtain ⟨rv, er⟩ : ∃ r, room c most = r := ⟨_, rfl⟩
  rw [er] at R1 R2 R3 ⊢
  clear er
  obtain ⟨kind, num, ⟨id, qr, op, aa, tc, rd, ra, z, ad, cd, code⟩, hasQ, ⟨qn, qk, qc⟩, hasE, size⟩ := c
  dsimp only at R1 R2 R3
  have HX := Lib.hid (balloc w (.cells #[.int .u8 kind, .int .i64 num, .int .u16 id, .bool qr, .int .u8 op, .bool aa, .bool tc, .bool rd, .bool ra, .bool z, .bool ad, .bool cd, .int .u8 code, .bool hasQ, .string qn, .int .u16 qk, .int .u16 qc, .bool hasE, .int .i64 size] 40))
  have G := Lib.hid (galloc (grefl w none) (.cells #[.int .u8 kind, .int .i64 num, .int .u16 id, .bool qr, .int .u8 op, .bool aa, .bool tc, .bool rd, .bool ra, .bool z, .bool ad, .bool cd, .int .u8 code, .bool hasQ, .string qn, .int .u16 qk, .int .u16 qc, .bool hasE, .int .i64 size] 40))
  obtain ⟨b1, e1⟩ : ∃ b, decide (most < 512) = b := ⟨_, rfl⟩
  obtain ⟨b2, e2⟩ : ∃ b, decide (size ≤ 512) = b := ⟨_, rfl⟩
  have c17 := bcellAt HX.out 17
  have c18 := bcellAt HX.out 18
  unfold Cm.val
  dsimp only
  go_enter Tryz.func8, Tryz.ntmps8
  cases hasE
  case false =>
    rw [R1.out rfl]
    cases b1
    case true => go_wp2_with fail; go_ret; exact ⟨rfl, G.out⟩
    case false => go_wp2_with fail; go_ret; exact ⟨rfl, G.out⟩
  cases b2
  case true =>
    rw [R2.out (of_decide_eq_true e2)]
    cases b1
    case true => go_wp2_with fail; go_ret; exact ⟨rfl, G.out⟩
    case false => go_wp2_with fail; go_ret; exact ⟨rfl, G.out⟩
  rw [R3.out rfl (of_decide_eq_false e2)]
  cases b1
  case true =>
    have hm : max most 512 = 512 := by have := of_decide_eq_true e1; omega
    rw [hm]
    go_wp2_with fail; all_goals (go_ret; exact ⟨by first | (rw [Int.min_eq_right (by have := of_decide_eq_false e2; omega)]; rfl) | (rw [Int.min_eq_left (by have := of_decide_eq_false e2; omega)]; rfl), G.out⟩)
  case false =>
    have hm : max most 512 = most := by have := of_decide_eq_false e1; omega
    rw [hm]
    go_wp2_with fail; all_goals (go_ret; exact ⟨by first | (rw [Int.min_eq_right (by have := of_decide_eq_false e2; omega)]; rfl) | (rw [Int.min_eq_left (by have := of_decide_eq_false e2; omega)]; rfl), G.out⟩)
end Go.Proofs.YtkhigfbmdolgmaaGreatDoor
namespace Go.Proofs.YtkhigfbmdolgmaaGreatDoor
open Go.RowKit

theorem gsetRo {a w : World} {g : Nat} (h : a.grownBy w (some g)) (cs : Array Value) : a.grownBy (w.setRow g cs) (some g) :=
  ⟨h.os, h.tape, h.output, by simpa [World.setRow] using h.size, fun i hi hn => (setRow_other w g i cs (fun e => hn (by rw [e]))).trans (h.block i hi hn)⟩
/-- A struct is stored in the middle of a row. -/
theorem wpList_store_part {P : Program} {ops : Array Oper} {rest : List Oper} {o : Oper} {a : Act} {w : World} {Q : Exit → Act → World → Prop} (hgd : o.guard = none) (ty : TypeId) (x y : Operand) (ho : o.op = .store ty x y)
    (g k : Nat) (cells new : Array Value) (hx : a.eval x = .pointer (some ⟨g, k, none⟩)) (hy : a.eval y = .agg cells)
    (t : TypeId) (old : Array Value) (hg : w.heap[g]? = some (.cells old t (0, 0))) (hi : (P.info? ty).map (·.size) = some cells.size)
    (hfit : k + cells.size ≤ old.size) (h1 : cells.all (·.oneCell') = true) (hn : (old.toList.take (k + 0) ++ cells.toList ++ old.toList.drop (k + 0 + cells.toList.length)).toArray = new)
    (h : wpList P ops Q rest (a.put o.dst undef) (w.setRow g new)) : wpList P ops Q (o :: rest) a w :=
  wpList_plain hgd fun _ hK => by
    have hst := run_storeCells_at P g k t cells.toList 0 old w hg (by simpa using hfit) (fun v hv => (Array.all_eq_true_iff_forall_mem.1 h1) v (by simpa using hv))
    rw [hn] at hst
    have hsv : (storeVar ty ⟨g, k, none⟩ (.agg cells)).run P w = .ok () (w.setRow g new) := by
      cases hq : P.info? ty with
      | none => simp [hq] at hi
      | some i =>
        have hs : cells.size = i.size := by simp [hq] at hi; omega
        simp [storeVar, sizeOf, typeInfo, hq, Value.cells, hs, hst]
    unfold Oper.wp execOp
    simp only [ho, hx, hy, Instr.storeAt, Instr.sureAddr, Sem.run_bind, Sem.run_pure, Result.andThen_ok, hsv]
    exact hK _ _ h
/-- A message told by value; its questions lie in new memory, if it has any. -/
def BkPost (m : Ms) (w : World) (e : Ending) (w' : World) : Prop :=
  w.grownBy w' none ∧ ∃ vq, e = .returned (m.val vq (.slice none 0 0) (.slice none 0 0) (.slice none 0 0) (.slice none 0 0)) ∧ MsF w' w.heap.size m vq (.slice none 0 0) (.slice none 0 0) (.slice none 0 0) (.slice none 0 0)
theorem BkPost.of {m m' : Ms} {w w' : World} {e : Ending} {vq : Value} (hm : m = m') (g : w.grownBy w' none) (he : e = .returned (m'.val vq (.slice none 0 0) (.slice none 0 0) (.slice none 0 0) (.slice none 0 0))) (h : FS w' w.heap.size 35 3 vq m'.qs.length (qsV m'.qs))
    (ha : m'.an = [] := by rfl) (hu : m'.au = [] := by rfl) (hx : m'.ex = [] := by rfl) (ho : m'.ops = [] := by rfl) : BkPost m w e w' := by
  subst hm
  exact ⟨g, vq, he, h, by rw [ha]; exact FS.none, by rw [hu]; exact FS.none, by rw [hx]; exact FS.none, by rw [ho]; exact FS.none⟩
set_option maxRecDepth 100000 in
set_option maxHeartbeats 4000000 in
theorem blank_any (w : World) (c : Cm) (kk ss : Int) : Calls Tryz.prog 9 #[c.val, .int .i64 kk, .int .i64 ss] w (BkPost (blank c kk ss) w) := by
  obtain ⟨cc, hcc⟩ : ∃ x, (kk % 16).toNat = x := ⟨_, rfl⟩
  obtain ⟨sz, hsz⟩ : ∃ x, (ss % 65536).toNat = x := ⟨_, rfl⟩
  obtain ⟨ex, hex⟩ : ∃ x, (kk % 4096 / 16).toNat = x := ⟨_, rfl⟩
  have HB := Lib.hid (show blank c kk ss = ⟨⟨c.h.id, true, c.h.op, false, false, c.h.rd, true, false, false, c.h.cd, cc⟩, if c.hasQ = true then [c.q] else [], [], [], [], c.hasE, if c.hasE = true then sz else 0, if c.hasE = true then ex else 0, 0, 0, []⟩ from by subst hcc hsz hex; rfl)
  obtain ⟨bm, hbm⟩ : ∃ m, blank c kk ss = m := ⟨_, rfl⟩
  rw [hbm] at HB ⊢
  clear hbm
  obtain ⟨k1, hk1⟩ : ∃ x, kk % 4096 = x := ⟨_, rfl⟩
  have m1 : bits .and .i64 kk 4095 = k1 := (mask64 kk 12 (by omega)).trans hk1
  have m2 : bits .and .i64 k1 15 % 256 = (cc : Int) := by rw [show bits .and .i64 k1 15 = k1 % 16 from mask64 k1 4 (by omega)]; omega
  have m3 : IntKind.u16.wrap (bits .and .i64 ss 65535) = (sz : Int) := by rw [show bits .and .i64 ss 65535 = ss % 65536 from mask64 ss 16 (by omega), IntKind.wrap_u16]; omega
  have m4 : k1 / 16 % 256 = (ex : Int) := by omega
  clear hcc hsz hex hk1
  obtain ⟨kind, num, ⟨id, qr, op, aa, tc, rd, ra, z, ad, cd, code⟩, hasQ, ⟨qn, qk, qc⟩, hasE, size⟩ := c
  dsimp only at HB
  have e1 : (w.alloc (.cells #[.int .u8 kind, .int .i64 num, .int .u16 id, .bool qr, .int .u8 op, .bool aa, .bool tc, .bool rd, .bool ra, .bool z, .bool ad, .bool cd, .int .u8 code, .bool hasQ, .string qn, .int .u16 qk, .int .u16 qc, .bool hasE, .int .i64 size] 40)).heap.size = (w.heap.size + 1) := by simp only [World.size_alloc]
  have e2 : ((w.alloc (.cells #[.int .u8 kind, .int .i64 num, .int .u16 id, .bool qr, .int .u8 op, .bool aa, .bool tc, .bool rd, .bool ra, .bool z, .bool ad, .bool cd, .int .u8 code, .bool hasQ, .string qn, .int .u16 qk, .int .u16 qc, .bool hasE, .int .i64 size] 40)).alloc (.cells #[.int .u16 0, .bool false, .int .u8 0, .bool false, .bool false, .bool false, .bool false, .bool false, .bool false, .bool false, .int .u8 0, .slice none 0 0, .slice none 0 0, .slice none 0 0, .slice none 0 0, .bool false, .int .u16 0, .int .u8 0, .int .u8 0, .int .u16 0, .slice none 0 0] 32)).heap.size = (w.heap.size + 1 + 1) := by simp only [World.size_alloc]
  have HA := Lib.hid (heap_alloc2_old w (.cells #[.int .u8 kind, .int .i64 num, .int .u16 id, .bool qr, .int .u8 op, .bool aa, .bool tc, .bool rd, .bool ra, .bool z, .bool ad, .bool cd, .int .u8 code, .bool hasQ, .string qn, .int .u16 qk, .int .u16 qc, .bool hasE, .int .i64 size] 40) (.cells #[.int .u16 0, .bool false, .int .u8 0, .bool false, .bool false, .bool false, .bool false, .bool false, .bool false, .bool false, .int .u8 0, .slice none 0 0, .slice none 0 0, .slice none 0 0, .slice none 0 0, .bool false, .int .u16 0, .int .u8 0, .int .u8 0, .int .u16 0, .slice none 0 0] 32))
  have HZ := Lib.hid (show (((w.alloc (.cells #[.int .u8 kind, .int .i64 num, .int .u16 id, .bool qr, .int .u8 op, .bool aa, .bool tc, .bool rd, .bool ra, .bool z, .bool ad, .bool cd, .int .u8 code, .bool hasQ, .string qn, .int .u16 qk, .int .u16 qc, .bool hasE, .int .i64 size] 40)).alloc (.cells #[.int .u16 0, .bool false, .int .u8 0, .bool false, .bool false, .bool false, .bool false, .bool false, .bool false, .bool false, .int .u8 0, .slice none 0 0, .slice none 0 0, .slice none 0 0, .slice none 0 0, .bool false, .int .u16 0, .int .u8 0, .int .u8 0, .int .u16 0, .slice none 0 0] 32)).alloc (.cells #[.int .u16 0, .bool false, .int .u8 0, .bool false, .bool false, .bool false, .bool false, .bool false, .bool false, .bool false, .int .u8 0, .slice none 0 0, .slice none 0 0, .slice none 0 0, .slice none 0 0, .bool false, .int .u16 0, .int .u8 0, .int .u8 0, .int .u16 0, .slice none 0 0] 32)).heap[(w.heap.size + 1 + 1)]? = some (.cells #[.int .u16 0, .bool false, .int .u8 0, .bool false, .bool false, .bool false, .bool false, .bool false, .bool false, .bool false, .int .u8 0, .slice none 0 0, .slice none 0 0, .slice none 0 0, .slice none 0 0, .bool false, .int .u16 0, .int .u8 0, .int .u8 0, .int .u16 0, .slice none 0 0] 32 (0, 0)) from e2 ▸ balloc ((w.alloc (.cells #[.int .u8 kind, .int .i64 num, .int .u16 id, .bool qr, .int .u8 op, .bool aa, .bool tc, .bool rd, .bool ra, .bool z, .bool ad, .bool cd, .int .u8 code, .bool hasQ, .string qn, .int .u16 qk, .int .u16 qc, .bool hasE, .int .i64 size] 40)).alloc (.cells #[.int .u16 0, .bool false, .int .u8 0, .bool false, .bool false, .bool false, .bool false, .bool false, .bool false, .bool false, .int .u8 0, .slice none 0 0, .slice none 0 0, .slice none 0 0, .slice none 0 0, .bool false, .int .u16 0, .int .u8 0, .int .u8 0, .int .u16 0, .slice none 0 0] 32)) (.cells #[.int .u16 0, .bool false, .int .u8 0, .bool false, .bool false, .bool false, .bool false, .bool false, .bool false, .bool false, .int .u8 0, .slice none 0 0, .slice none 0 0, .slice none 0 0, .slice none 0 0, .bool false, .int .u16 0, .int .u8 0, .int .u8 0, .int .u16 0, .slice none 0 0] 32))
  have HX := Lib.hid (gblock (gsetRs (((w.alloc (.cells #[.int .u8 kind, .int .i64 num, .int .u16 id, .bool qr, .int .u8 op, .bool aa, .bool tc, .bool rd, .bool ra, .bool z, .bool ad, .bool cd, .int .u8 code, .bool hasQ, .string qn, .int .u16 qk, .int .u16 qc, .bool hasE, .int .i64 size] 40)).alloc (.cells #[.int .u16 0, .bool false, .int .u8 0, .bool false, .bool false, .bool false, .bool false, .bool false, .bool false, .bool false, .int .u8 0, .slice none 0 0, .slice none 0 0, .slice none 0 0, .slice none 0 0, .bool false, .int .u16 0, .int .u8 0, .int .u8 0, .int .u16 0, .slice none 0 0] 32)).alloc (.cells #[.int .u16 0, .bool false, .int .u8 0, .bool false, .bool false, .bool false, .bool false, .bool false, .bool false, .bool false, .int .u8 0, .slice none 0 0, .slice none 0 0, .slice none 0 0, .slice none 0 0, .bool false, .int .u16 0, .int .u8 0, .int .u8 0, .int .u16 0, .slice none 0 0] 32)) (w.heap.size + 1 + 1) #[.int .u16 id, .bool true, .int .u8 op, .bool false, .bool false, .bool rd, .bool true, .bool false, .bool false, .bool cd, .int .u8 cc, .slice none 0 0, .slice none 0 0, .slice none 0 0, .slice none 0 0, .bool false, .int .u16 0, .int .u8 0, .int .u8 0, .int .u16 0, .slice none 0 0]) (gblock (galloc (grefl ((w.alloc (.cells #[.int .u8 kind, .int .i64 num, .int .u16 id, .bool qr, .int .u8 op, .bool aa, .bool tc, .bool rd, .bool ra, .bool z, .bool ad, .bool cd, .int .u8 code, .bool hasQ, .string qn, .int .u16 qk, .int .u16 qc, .bool hasE, .int .i64 size] 40)).alloc (.cells #[.int .u16 0, .bool false, .int .u8 0, .bool false, .bool false, .bool false, .bool false, .bool false, .bool false, .bool false, .int .u8 0, .slice none 0 0, .slice none 0 0, .slice none 0 0, .slice none 0 0, .bool false, .int .u16 0, .int .u8 0, .int .u8 0, .int .u16 0, .slice none 0 0] 32)) none) (.cells #[.int .u16 0, .bool false, .int .u8 0, .bool false, .bool false, .bool false, .bool false, .bool false, .bool false, .bool false, .int .u8 0, .slice none 0 0, .slice none 0 0, .slice none 0 0, .slice none 0 0, .bool false, .int .u16 0, .int .u8 0, .int .u8 0, .int .u16 0, .slice none 0 0] 32)) HA.out (by simp)) (by simp; omega))
  have HR := Lib.hid (gblock (gsetRs (((w.alloc (.cells #[.int .u8 kind, .int .i64 num, .int .u16 id, .bool qr, .int .u8 op, .bool aa, .bool tc, .bool rd, .bool ra, .bool z, .bool ad, .bool cd, .int .u8 code, .bool hasQ, .string qn, .int .u16 qk, .int .u16 qc, .bool hasE, .int .i64 size] 40)).alloc (.cells #[.int .u16 0, .bool false, .int .u8 0, .bool false, .bool false, .bool false, .bool false, .bool false, .bool false, .bool false, .int .u8 0, .slice none 0 0, .slice none 0 0, .slice none 0 0, .slice none 0 0, .bool false, .int .u16 0, .int .u8 0, .int .u8 0, .int .u16 0, .slice none 0 0] 32)).alloc (.cells #[.int .u16 0, .bool false, .int .u8 0, .bool false, .bool false, .bool false, .bool false, .bool false, .bool false, .bool false, .int .u8 0, .slice none 0 0, .slice none 0 0, .slice none 0 0, .slice none 0 0, .bool false, .int .u16 0, .int .u8 0, .int .u8 0, .int .u16 0, .slice none 0 0] 32)) (w.heap.size + 1 + 1) #[.int .u16 id, .bool true, .int .u8 op, .bool false, .bool false, .bool rd, .bool true, .bool false, .bool false, .bool cd, .int .u8 cc, .slice none 0 0, .slice none 0 0, .slice none 0 0, .slice none 0 0, .bool false, .int .u16 0, .int .u8 0, .int .u8 0, .int .u16 0, .slice none 0 0]) (gblock (galloc (grefl ((w.alloc (.cells #[.int .u8 kind, .int .i64 num, .int .u16 id, .bool qr, .int .u8 op, .bool aa, .bool tc, .bool rd, .bool ra, .bool z, .bool ad, .bool cd, .int .u8 code, .bool hasQ, .string qn, .int .u16 qk, .int .u16 qc, .bool hasE, .int .i64 size] 40)).alloc (.cells #[.int .u16 0, .bool false, .int .u8 0, .bool false, .bool false, .bool false, .bool false, .bool false, .bool false, .bool false, .int .u8 0, .slice none 0 0, .slice none 0 0, .slice none 0 0, .slice none 0 0, .bool false, .int .u16 0, .int .u8 0, .int .u8 0, .int .u16 0, .slice none 0 0] 32)) none) (.cells #[.int .u16 0, .bool false, .int .u8 0, .bool false, .bool false, .bool false, .bool false, .bool false, .bool false, .bool false, .int .u8 0, .slice none 0 0, .slice none 0 0, .slice none 0 0, .slice none 0 0, .bool false, .int .u16 0, .int .u8 0, .int .u8 0, .int .u16 0, .slice none 0 0] 32)) (show ((w.alloc (.cells #[.int .u8 kind, .int .i64 num, .int .u16 id, .bool qr, .int .u8 op, .bool aa, .bool tc, .bool rd, .bool ra, .bool z, .bool ad, .bool cd, .int .u8 code, .bool hasQ, .string qn, .int .u16 qk, .int .u16 qc, .bool hasE, .int .i64 size] 40)).alloc (.cells #[.int .u16 0, .bool false, .int .u8 0, .bool false, .bool false, .bool false, .bool false, .bool false, .bool false, .bool false, .int .u8 0, .slice none 0 0, .slice none 0 0, .slice none 0 0, .slice none 0 0, .bool false, .int .u16 0, .int .u8 0, .int .u8 0, .int .u16 0, .slice none 0 0] 32)).heap[(w.heap.size + 1)]? = some (.cells #[.int .u16 0, .bool false, .int .u8 0, .bool false, .bool false, .bool false, .bool false, .bool false, .bool false, .bool false, .int .u8 0, .slice none 0 0, .slice none 0 0, .slice none 0 0, .slice none 0 0, .bool false, .int .u16 0, .int .u8 0, .int .u8 0, .int .u16 0, .slice none 0 0] 32 (0, 0)) from e1 ▸ balloc (w.alloc (.cells #[.int .u8 kind, .int .i64 num, .int .u16 id, .bool qr, .int .u8 op, .bool aa, .bool tc, .bool rd, .bool ra, .bool z, .bool ad, .bool cd, .int .u8 code, .bool hasQ, .string qn, .int .u16 qk, .int .u16 qc, .bool hasE, .int .i64 size] 40)) (.cells #[.int .u16 0, .bool false, .int .u8 0, .bool false, .bool false, .bool false, .bool false, .bool false, .bool false, .bool false, .int .u8 0, .slice none 0 0, .slice none 0 0, .slice none 0 0, .slice none 0 0, .bool false, .int .u16 0, .int .u8 0, .int .u8 0, .int .u16 0, .slice none 0 0] 32)) (by simp)) (by simp))
  have HM := Lib.hid (bsetR HZ.out #[.int .u16 id, .bool true, .int .u8 op, .bool false, .bool false, .bool rd, .bool true, .bool false, .bool false, .bool cd, .int .u8 cc, .slice none 0 0, .slice none 0 0, .slice none 0 0, .slice none 0 0, .bool false, .int .u16 0, .int .u8 0, .int .u8 0, .int .u16 0, .slice none 0 0])
  have G := Lib.hid (gsetR (galloc (galloc (galloc (grefl w none) (.cells #[.int .u8 kind, .int .i64 num, .int .u16 id, .bool qr, .int .u8 op, .bool aa, .bool tc, .bool rd, .bool ra, .bool z, .bool ad, .bool cd, .int .u8 code, .bool hasQ, .string qn, .int .u16 qk, .int .u16 qc, .bool hasE, .int .i64 size] 40)) (.cells #[.int .u16 0, .bool false, .int .u8 0, .bool false, .bool false, .bool false, .bool false, .bool false, .bool false, .bool false, .int .u8 0, .slice none 0 0, .slice none 0 0, .slice none 0 0, .slice none 0 0, .bool false, .int .u16 0, .int .u8 0, .int .u8 0, .int .u16 0, .slice none 0 0] 32)) (.cells #[.int .u16 0, .bool false, .int .u8 0, .bool false, .bool false, .bool false, .bool false, .bool false, .bool false, .bool false, .int .u8 0, .slice none 0 0, .slice none 0 0, .slice none 0 0, .slice none 0 0, .bool false, .int .u16 0, .int .u8 0, .int .u8 0, .int .u16 0, .slice none 0 0] 32)) (show w.heap.size ≤ (w.heap.size + 1 + 1) by omega) #[.int .u16 id, .bool true, .int .u8 op, .bool false, .bool false, .bool rd, .bool true, .bool false, .bool false, .bool cd, .int .u8 cc, .slice none 0 0, .slice none 0 0, .slice none 0 0, .slice none 0 0, .bool false, .int .u16 0, .int .u8 0, .int .u8 0, .int .u16 0, .slice none 0 0])
  have c2 := bcellAt HA.out 2
  have c4 := bcellAt HA.out 4
  have c7 := bcellAt HA.out 7
  have c11 := bcellAt HA.out 11
  clear e1 e2
  unfold Cm.val
  dsimp only
  go_enter Tryz.func9, Tryz.ntmps9
  go_upto_region 3 with (refine wpList_store_row rfl 32 _ _ rfl (w.heap.size + 1 + 1) #[.int .u16 id, .bool true, .int .u8 op, .bool false, .bool false, .bool rd, .bool true, .bool false, .bool false, .bool cd, .int .u8 cc, .slice none 0 0, .slice none 0 0, .slice none 0 0, .slice none 0 0, .bool false, .int .u16 0, .int .u8 0, .int .u8 0, .int .u16 0, .slice none 0 0] rfl rfl 32 _ HZ.out (by kernel_rfl) rfl (by kernel_rfl) ?_)
  clear c2 c4 c7 c11 HZ HA
  generalize ((((w.alloc (.cells #[.int .u8 kind, .int .i64 num, .int .u16 id, .bool qr, .int .u8 op, .bool aa, .bool tc, .bool rd, .bool ra, .bool z, .bool ad, .bool cd, .int .u8 code, .bool hasQ, .string qn, .int .u16 qk, .int .u16 qc, .bool hasE, .int .i64 size] 40)).alloc (.cells #[.int .u16 0, .bool false, .int .u8 0, .bool false, .bool false, .bool false, .bool false, .bool false, .bool false, .bool false, .int .u8 0, .slice none 0 0, .slice none 0 0, .slice none 0 0, .slice none 0 0, .bool false, .int .u16 0, .int .u8 0, .int .u8 0, .int .u16 0, .slice none 0 0] 32)).alloc (.cells #[.int .u16 0, .bool false, .int .u8 0, .bool false, .bool false, .bool false, .bool false, .bool false, .bool false, .bool false, .int .u8 0, .slice none 0 0, .slice none 0 0, .slice none 0 0, .slice none 0 0, .bool false, .int .u16 0, .int .u8 0, .int .u8 0, .int .u16 0, .slice none 0 0] 32)).setRow (w.heap.size + 1 + 1) #[.int .u16 id, .bool true, .int .u8 op, .bool false, .bool false, .bool rd, .bool true, .bool false, .bool false, .bool cd, .int .u8 cc, .slice none 0 0, .slice none 0 0, .slice none 0 0, .slice none 0 0, .bool false, .int .u16 0, .int .u8 0, .int .u8 0, .int .u16 0, .slice none 0 0]) = w3 at *
  have Ls := Lib.hid (show w.heap.size < (w.heap.size + 1) by omega)
  have Ns := Lib.hid (show (w.heap.size + 1) ≠ (w.heap.size + 1 + 1) by omega)
  have Lt := Lib.hid (show (w.heap.size + 1) < (w.heap.size + 1 + 1) by omega)
  generalize (w.heap.size + 1 + 1) = b2 at *
  generalize (w.heap.size + 1) = b1 at *
  cases hasQ
  case false =>
    have c13 := bcellAt HX.out 13
    have X5 := HX
    have R5 := HR
    have M5 := HM
    have G5 := G
    have F5 := Lib.hid (show FS w3 w.heap.size 35 3 (.slice none 0 0) 0 (qsV []) from FS.none)
    clear HX HR HM G
    go_upto_region 5 with fail
    clear c13
    generalize w3 = w5 at *
    have c17 := bcellAt X5.out 17
    cases hasE
    case false =>
      have R6 := R5
      have M6 := M5
      have G6 := G5
      have F6 := F5
      clear R5 M5 G5 F5
      go_upto_region 8 with fail
      clear c17
      generalize w5 = w6 at *
      have T7 := Lib.hid (bsetR R6.out #[.int .u16 id, .bool true, .int .u8 op, .bool false, .bool false, .bool rd, .bool true, .bool false, .bool false, .bool cd, .int .u8 cc, .slice none 0 0, .slice none 0 0, .slice none 0 0, .slice none 0 0, .bool false, .int .u16 0, .int .u8 0, .int .u8 0, .int .u16 0, .slice none 0 0])
      have g7 := gsetRs w6 b1 #[.int .u16 id, .bool true, .int .u8 op, .bool false, .bool false, .bool rd, .bool true, .bool false, .bool false, .bool cd, .int .u8 cc, .slice none 0 0, .slice none 0 0, .slice none 0 0, .slice none 0 0, .bool false, .int .u16 0, .int .u8 0, .int .u8 0, .int .u16 0, .slice none 0 0]
      have F7 := Lib.hid (show FS (w6.setRow b1 #[.int .u16 id, .bool true, .int .u8 op, .bool false, .bool false, .bool rd, .bool true, .bool false, .bool false, .bool cd, .int .u8 cc, .slice none 0 0, .slice none 0 0, .slice none 0 0, .slice none 0 0, .bool false, .int .u16 0, .int .u8 0, .int .u8 0, .int .u16 0, .slice none 0 0]) w.heap.size 35 3 (.slice none 0 0) 0 (qsV []) from FS.none)
      have G7 := Lib.hid (gsetR G6.out (show w.heap.size ≤ b1 by have := Ls.out; omega) #[.int .u16 id, .bool true, .int .u8 op, .bool false, .bool false, .bool rd, .bool true, .bool false, .bool false, .bool cd, .int .u8 cc, .slice none 0 0, .slice none 0 0, .slice none 0 0, .slice none 0 0, .bool false, .int .u16 0, .int .u8 0, .int .u8 0, .int .u16 0, .slice none 0 0])
      clear g7 F6 G6
      go_wp2_with (first | refine wpList_load_row rfl 32 _ rfl b2 rfl _ _ _ _ M6.out Tryz.underlying32 rfl (by kernel_rfl) ?_ | refine wpList_store_row rfl 32 _ _ rfl b1 #[.int .u16 id, .bool true, .int .u8 op, .bool false, .bool false, .bool rd, .bool true, .bool false, .bool false, .bool cd, .int .u8 cc, .slice none 0 0, .slice none 0 0, .slice none 0 0, .slice none 0 0, .bool false, .int .u16 0, .int .u8 0, .int .u8 0, .int .u16 0, .slice none 0 0] rfl rfl 32 _ R6.out (by kernel_rfl) rfl (by kernel_rfl) ?_)
      refine bodyPost_ret_by (results_cell_row rfl _ _ b1 32 #[.int .u16 id, .bool true, .int .u8 op, .bool false, .bool false, .bool rd, .bool true, .bool false, .bool false, .bool cd, .int .u8 cc, .slice none 0 0, .slice none 0 0, .slice none 0 0, .slice none 0 0, .bool false, .int .u16 0, .int .u8 0, .int .u8 0, .int .u16 0, .slice none 0 0] (0, 0) _ rfl T7.out Tryz.underlying32 rfl (by kernel_rfl)) rfl ?_
      exact BkPost.of HB.out G7.out rfl F7.out
    case true =>
      have LB2 : w.heap.size ≤ b2 := by have := Lt.out; have := Ls.out; omega
      have c15 := bcellAt M5.out 15
      have f15 := bfree M5.out 15
      have B15 := Lib.hid (show (w5.setCell ⟨b2, 15, none⟩ (.bool true)).heap[b2]? = some (.cells #[.int .u16 id, .bool true, .int .u8 op, .bool false, .bool false, .bool rd, .bool true, .bool false, .bool false, .bool cd, .int .u8 cc, .slice none 0 0, .slice none 0 0, .slice none 0 0, .slice none 0 0, .bool true, .int .u16 0, .int .u8 0, .int .u8 0, .int .u16 0, .slice none 0 0] 32 (0, 0)) from bset M5.out 15 (.bool true))
      have M6 := Lib.hid (bsetR B15.out #[.int .u16 id, .bool true, .int .u8 op, .bool false, .bool false, .bool rd, .bool true, .bool false, .bool false, .bool cd, .int .u8 cc, .slice none 0 0, .slice none 0 0, .slice none 0 0, .slice none 0 0, .bool true, .int .u16 sz, .int .u8 ex, .int .u8 0, .int .u16 0, .slice none 0 0])
      have gk : w5.grownBy ((w5.setCell ⟨b2, 15, none⟩ (.bool true)).setRow b2 #[.int .u16 id, .bool true, .int .u8 op, .bool false, .bool false, .bool rd, .bool true, .bool false, .bool false, .bool cd, .int .u8 cc, .slice none 0 0, .slice none 0 0, .slice none 0 0, .slice none 0 0, .bool true, .int .u16 sz, .int .u8 ex, .int .u8 0, .int .u16 0, .slice none 0 0]) (some b2) := gsetRo (gset (grefl w5 (some b2)) (p := ⟨b2, 15, none⟩) (.inl rfl) (.bool true)) #[.int .u16 id, .bool true, .int .u8 op, .bool false, .bool false, .bool rd, .bool true, .bool false, .bool false, .bool cd, .int .u8 cc, .slice none 0 0, .slice none 0 0, .slice none 0 0, .slice none 0 0, .bool true, .int .u16 sz, .int .u8 ex, .int .u8 0, .int .u16 0, .slice none 0 0]
      have R6 := Lib.hid (gblock gk R5.out (by simpa using Ns.out))
      have F6 := Lib.hid (show FS ((w5.setCell ⟨b2, 15, none⟩ (.bool true)).setRow b2 #[.int .u16 id, .bool true, .int .u8 op, .bool false, .bool false, .bool rd, .bool true, .bool false, .bool false, .bool cd, .int .u8 cc, .slice none 0 0, .slice none 0 0, .slice none 0 0, .slice none 0 0, .bool true, .int .u16 sz, .int .u8 ex, .int .u8 0, .int .u16 0, .slice none 0 0]) w.heap.size 35 3 (.slice none 0 0) 0 (qsV []) from FS.none)
      have G6 := Lib.hid (gsetR (gset2 G5.out (p := ⟨b2, 15, none⟩) (v := .bool true) LB2) LB2 #[.int .u16 id, .bool true, .int .u8 op, .bool false, .bool false, .bool rd, .bool true, .bool false, .bool false, .bool cd, .int .u8 cc, .slice none 0 0, .slice none 0 0, .slice none 0 0, .slice none 0 0, .bool true, .int .u16 sz, .int .u8 ex, .int .u8 0, .int .u16 0, .slice none 0 0])
      clear gk LB2 G5 F5 R5 M5
      go_upto_region 8 with (refine wpList_store_part rfl 30 _ _ rfl b2 16 #[.int .u16 sz, .int .u8 ex, .int .u8 0, .int .u16 0, .slice none 0 0] #[.int .u16 id, .bool true, .int .u8 op, .bool false, .bool false, .bool rd, .bool true, .bool false, .bool false, .bool cd, .int .u8 cc, .slice none 0 0, .slice none 0 0, .slice none 0 0, .slice none 0 0, .bool true, .int .u16 sz, .int .u8 ex, .int .u8 0, .int .u16 0, .slice none 0 0] rfl rfl 32 _ B15.out (by kernel_rfl) (by simp) (by kernel_rfl) (by rfl) ?_)
      clear c17 c15 f15 B15
      generalize ((w5.setCell ⟨b2, 15, none⟩ (.bool true)).setRow b2 #[.int .u16 id, .bool true, .int .u8 op, .bool false, .bool false, .bool rd, .bool true, .bool false, .bool false, .bool cd, .int .u8 cc, .slice none 0 0, .slice none 0 0, .slice none 0 0, .slice none 0 0, .bool true, .int .u16 sz, .int .u8 ex, .int .u8 0, .int .u16 0, .slice none 0 0]) = w6 at *
      have T7 := Lib.hid (bsetR R6.out #[.int .u16 id, .bool true, .int .u8 op, .bool false, .bool false, .bool rd, .bool true, .bool false, .bool false, .bool cd, .int .u8 cc, .slice none 0 0, .slice none 0 0, .slice none 0 0, .slice none 0 0, .bool true, .int .u16 sz, .int .u8 ex, .int .u8 0, .int .u16 0, .slice none 0 0])
      have g7 := gsetRs w6 b1 #[.int .u16 id, .bool true, .int .u8 op, .bool false, .bool false, .bool rd, .bool true, .bool false, .bool false, .bool cd, .int .u8 cc, .slice none 0 0, .slice none 0 0, .slice none 0 0, .slice none 0 0, .bool true, .int .u16 sz, .int .u8 ex, .int .u8 0, .int .u16 0, .slice none 0 0]
      have F7 := Lib.hid (show FS (w6.setRow b1 #[.int .u16 id, .bool true, .int .u8 op, .bool false, .bool false, .bool rd, .bool true, .bool false, .bool false, .bool cd, .int .u8 cc, .slice none 0 0, .slice none 0 0, .slice none 0 0, .slice none 0 0, .bool true, .int .u16 sz, .int .u8 ex, .int .u8 0, .int .u16 0, .slice none 0 0]) w.heap.size 35 3 (.slice none 0 0) 0 (qsV []) from FS.none)
      have G7 := Lib.hid (gsetR G6.out (show w.heap.size ≤ b1 by have := Ls.out; omega) #[.int .u16 id, .bool true, .int .u8 op, .bool false, .bool false, .bool rd, .bool true, .bool false, .bool false, .bool cd, .int .u8 cc, .slice none 0 0, .slice none 0 0, .slice none 0 0, .slice none 0 0, .bool true, .int .u16 sz, .int .u8 ex, .int .u8 0, .int .u16 0, .slice none 0 0])
      clear g7 F6 G6
      go_wp2_with (first | refine wpList_load_row rfl 32 _ rfl b2 rfl _ _ _ _ M6.out Tryz.underlying32 rfl (by kernel_rfl) ?_ | refine wpList_store_row rfl 32 _ _ rfl b1 #[.int .u16 id, .bool true, .int .u8 op, .bool false, .bool false, .bool rd, .bool true, .bool false, .bool false, .bool cd, .int .u8 cc, .slice none 0 0, .slice none 0 0, .slice none 0 0, .slice none 0 0, .bool true, .int .u16 sz, .int .u8 ex, .int .u8 0, .int .u16 0, .slice none 0 0] rfl rfl 32 _ R6.out (by kernel_rfl) rfl (by kernel_rfl) ?_)
      refine bodyPost_ret_by (results_cell_row rfl _ _ b1 32 #[.int .u16 id, .bool true, .int .u8 op, .bool false, .bool false, .bool rd, .bool true, .bool false, .bool false, .bool cd, .int .u8 cc, .slice none 0 0, .slice none 0 0, .slice none 0 0, .slice none 0 0, .bool true, .int .u16 sz, .int .u8 ex, .int .u8 0, .int .u16 0, .slice none 0 0] (0, 0) _ rfl T7.out Tryz.underlying32 rfl (by kernel_rfl)) rfl ?_
      exact BkPost.of HB.out G7.out rfl F7.out
  case true =>
    have c13 := bcellAt HX.out 13
    have c14 := bcellAt HX.out 14
    have c15 := bcellAt HX.out 15
    have c16 := bcellAt HX.out 16
    have ga := galloc (grefl w3 none) (.cells #[.string qn, .int .u16 qk, .int .u16 qc] 35)
    have M4 := Lib.hid (gblock ga HM.out (by simp))
    have d11 := bcellAt M4.out 11
    have f11 := bfree M4.out 11
    have Lb := Lib.hid (blt HM.out)
    have gs : (w3.alloc (.cells #[.string qn, .int .u16 qk, .int .u16 qc] 35)).grownBy ((w3.alloc (.cells #[.string qn, .int .u16 qk, .int .u16 qc] 35)).setCell ⟨b2, 11, none⟩ (.slice (some ⟨w3.heap.size, 0, none⟩) 1 1)) (some b2) := gset (grefl _ _) (p := ⟨b2, 11, none⟩) (.inl rfl) _
    have M5 := Lib.hid (show ((w3.alloc (.cells #[.string qn, .int .u16 qk, .int .u16 qc] 35)).setCell ⟨b2, 11, none⟩ (.slice (some ⟨w3.heap.size, 0, none⟩) 1 1)).heap[b2]? = some (.cells #[.int .u16 id, .bool true, .int .u8 op, .bool false, .bool false, .bool rd, .bool true, .bool false, .bool false, .bool cd, .int .u8 cc, .slice (some ⟨w3.heap.size, 0, none⟩) 1 1, .slice none 0 0, .slice none 0 0, .slice none 0 0, .bool false, .int .u16 0, .int .u8 0, .int .u8 0, .int .u16 0, .slice none 0 0] 32 (0, 0)) from bset M4.out 11 (.slice (some ⟨w3.heap.size, 0, none⟩) 1 1))
    have X5 := Lib.hid (gblock gs (gblock ga HX.out (by simp)) (by have := Ls.out; have := HX.out; simp; have := Lt.out; omega))
    have R5 := Lib.hid (gblock gs (gblock ga HR.out (by simp)) (by simpa using Ns.out))
    have F5 := Lib.hid (show FS ((w3.alloc (.cells #[.string qn, .int .u16 qk, .int .u16 qc] 35)).setCell ⟨b2, 11, none⟩ (.slice (some ⟨w3.heap.size, 0, none⟩) 1 1)) w.heap.size 35 3 (.slice (some ⟨w3.heap.size, 0, none⟩) 1 1) 1 (qsV [⟨qn, qk, qc⟩]) from FS.kept ⟨rfl, .inr ⟨w3.heap.size, 1, #[.string qn, .int .u16 qk, .int .u16 qc], rfl, G.out.size, balloc w3 _, Nat.le_refl _, by simp, rfl⟩⟩ gs (.inr (by have := Lb.out; simp [Value.ownBlock]; omega)))
    have NQ := Lib.hid (show (.slice (some ⟨w3.heap.size, 0, none⟩) 1 1 : Value).ownBlock ≠ some b2 by have := Lb.out; simp [Value.ownBlock]; omega)
    have NR := Lib.hid (show (.slice (some ⟨w3.heap.size, 0, none⟩) 1 1 : Value).ownBlock ≠ some b1 by have := Lb.out; have := Lt.out; simp [Value.ownBlock]; omega)
    have G5 := Lib.hid (gset (gtrans G.out ga) (p := ⟨b2, 11, none⟩) (.inr (by have := Lt.out; have := Ls.out; show w.heap.size ≤ b2; omega)) (.slice (some ⟨w3.heap.size, 0, none⟩) 1 1))
    clear ga gs M4 HX HR HM G Lb
    go_upto_region 5 with fail
    clear c13 c14 c15 c16 d11 f11
    generalize hvq : Value.slice (some ⟨w3.heap.size, 0, none⟩) 1 1 = vq at *
    clear hvq
    generalize ((w3.alloc (.cells #[.string qn, .int .u16 qk, .int .u16 qc] 35)).setCell ⟨b2, 11, none⟩ vq) = w5 at *
    have c17 := bcellAt X5.out 17
    cases hasE
    case false =>
      have R6 := R5
      have M6 := M5
      have G6 := G5
      have F6 := F5
      clear R5 M5 G5 F5
      go_upto_region 8 with fail
      clear c17
      generalize w5 = w6 at *
      have T7 := Lib.hid (bsetR R6.out #[.int .u16 id, .bool true, .int .u8 op, .bool false, .bool false, .bool rd, .bool true, .bool false, .bool false, .bool cd, .int .u8 cc, vq, .slice none 0 0, .slice none 0 0, .slice none 0 0, .bool false, .int .u16 0, .int .u8 0, .int .u8 0, .int .u16 0, .slice none 0 0])
      have g7 := gsetRs w6 b1 #[.int .u16 id, .bool true, .int .u8 op, .bool false, .bool false, .bool rd, .bool true, .bool false, .bool false, .bool cd, .int .u8 cc, vq, .slice none 0 0, .slice none 0 0, .slice none 0 0, .bool false, .int .u16 0, .int .u8 0, .int .u8 0, .int .u16 0, .slice none 0 0]
      have F7 := Lib.hid (F6.out.kept g7 (.inr NR.out))
      have G7 := Lib.hid (gsetR G6.out (show w.heap.size ≤ b1 by have := Ls.out; omega) #[.int .u16 id, .bool true, .int .u8 op, .bool false, .bool false, .bool rd, .bool true, .bool false, .bool false, .bool cd, .int .u8 cc, vq, .slice none 0 0, .slice none 0 0, .slice none 0 0, .bool false, .int .u16 0, .int .u8 0, .int .u8 0, .int .u16 0, .slice none 0 0])
      clear g7 F6 G6
      go_wp2_with (first | refine wpList_load_row rfl 32 _ rfl b2 rfl _ _ _ _ M6.out Tryz.underlying32 rfl (by kernel_rfl) ?_ | refine wpList_store_row rfl 32 _ _ rfl b1 #[.int .u16 id, .bool true, .int .u8 op, .bool false, .bool false, .bool rd, .bool true, .bool false, .bool false, .bool cd, .int .u8 cc, vq, .slice none 0 0, .slice none 0 0, .slice none 0 0, .bool false, .int .u16 0, .int .u8 0, .int .u8 0, .int .u16 0, .slice none 0 0] rfl rfl 32 _ R6.out (by kernel_rfl) rfl (by kernel_rfl) ?_)
      refine bodyPost_ret_by (results_cell_row rfl _ _ b1 32 #[.int .u16 id, .bool true, .int .u8 op, .bool false, .bool false, .bool rd, .bool true, .bool false, .bool false, .bool cd, .int .u8 cc, vq, .slice none 0 0, .slice none 0 0, .slice none 0 0, .bool false, .int .u16 0, .int .u8 0, .int .u8 0, .int .u16 0, .slice none 0 0] (0, 0) _ rfl T7.out Tryz.underlying32 rfl (by kernel_rfl)) rfl ?_
      exact BkPost.of HB.out G7.out rfl F7.out
    case true =>
      have LB2 : w.heap.size ≤ b2 := by have := Lt.out; have := Ls.out; omega
      have c15 := bcellAt M5.out 15
      have f15 := bfree M5.out 15
      have B15 := Lib.hid (show (w5.setCell ⟨b2, 15, none⟩ (.bool true)).heap[b2]? = some (.cells #[.int .u16 id, .bool true, .int .u8 op, .bool false, .bool false, .bool rd, .bool true, .bool false, .bool false, .bool cd, .int .u8 cc, vq, .slice none 0 0, .slice none 0 0, .slice none 0 0, .bool true, .int .u16 0, .int .u8 0, .int .u8 0, .int .u16 0, .slice none 0 0] 32 (0, 0)) from bset M5.out 15 (.bool true))
      have M6 := Lib.hid (bsetR B15.out #[.int .u16 id, .bool true, .int .u8 op, .bool false, .bool false, .bool rd, .bool true, .bool false, .bool false, .bool cd, .int .u8 cc, vq, .slice none 0 0, .slice none 0 0, .slice none 0 0, .bool true, .int .u16 sz, .int .u8 ex, .int .u8 0, .int .u16 0, .slice none 0 0])
      have gk : w5.grownBy ((w5.setCell ⟨b2, 15, none⟩ (.bool true)).setRow b2 #[.int .u16 id, .bool true, .int .u8 op, .bool false, .bool false, .bool rd, .bool true, .bool false, .bool false, .bool cd, .int .u8 cc, vq, .slice none 0 0, .slice none 0 0, .slice none 0 0, .bool true, .int .u16 sz, .int .u8 ex, .int .u8 0, .int .u16 0, .slice none 0 0]) (some b2) := gsetRo (gset (grefl w5 (some b2)) (p := ⟨b2, 15, none⟩) (.inl rfl) (.bool true)) #[.int .u16 id, .bool true, .int .u8 op, .bool false, .bool false, .bool rd, .bool true, .bool false, .bool false, .bool cd, .int .u8 cc, vq, .slice none 0 0, .slice none 0 0, .slice none 0 0, .bool true, .int .u16 sz, .int .u8 ex, .int .u8 0, .int .u16 0, .slice none 0 0]
      have R6 := Lib.hid (gblock gk R5.out (by simpa using Ns.out))
      have F6 := Lib.hid (F5.out.kept gk (.inr NQ.out))
      have G6 := Lib.hid (gsetR (gset2 G5.out (p := ⟨b2, 15, none⟩) (v := .bool true) LB2) LB2 #[.int .u16 id, .bool true, .int .u8 op, .bool false, .bool false, .bool rd, .bool true, .bool false, .bool false, .bool cd, .int .u8 cc, vq, .slice none 0 0, .slice none 0 0, .slice none 0 0, .bool true, .int .u16 sz, .int .u8 ex, .int .u8 0, .int .u16 0, .slice none 0 0])
      clear gk LB2 G5 F5 R5 M5
      go_upto_region 8 with (refine wpList_store_part rfl 30 _ _ rfl b2 16 #[.int .u16 sz, .int .u8 ex, .int .u8 0, .int .u16 0, .slice none 0 0] #[.int .u16 id, .bool true, .int .u8 op, .bool false, .bool false, .bool rd, .bool true, .bool false, .bool false, .bool cd, .int .u8 cc, vq, .slice none 0 0, .slice none 0 0, .slice none 0 0, .bool true, .int .u16 sz, .int .u8 ex, .int .u8 0, .int .u16 0, .slice none 0 0] rfl rfl 32 _ B15.out (by kernel_rfl) (by simp) (by kernel_rfl) (by rfl) ?_)
      clear c17 c15 f15 B15
      generalize ((w5.setCell ⟨b2, 15, none⟩ (.bool true)).setRow b2 #[.int .u16 id, .bool true, .int .u8 op, .bool false, .bool false, .bool rd, .bool true, .bool false, .bool false, .bool cd, .int .u8 cc, vq, .slice none 0 0, .slice none 0 0, .slice none 0 0, .bool true, .int .u16 sz, .int .u8 ex, .int .u8 0, .int .u16 0, .slice none 0 0]) = w6 at *
      have T7 := Lib.hid (bsetR R6.out #[.int .u16 id, .bool true, .int .u8 op, .bool false, .bool false, .bool rd, .bool true, .bool false, .bool false, .bool cd, .int .u8 cc, vq, .slice none 0 0, .slice none 0 0, .slice none 0 0, .bool true, .int .u16 sz, .int .u8 ex, .int .u8 0, .int .u16 0, .slice none 0 0])
      have g7 := gsetRs w6 b1 #[.int .u16 id, .bool true, .int .u8 op, .bool false, .bool false, .bool rd, .bool true, .bool false, .bool false, .bool cd, .int .u8 cc, vq, .slice none 0 0, .slice none 0 0, .slice none 0 0, .bool true, .int .u16 sz, .int .u8 ex, .int .u8 0, .int .u16 0, .slice none 0 0]
      have F7 := Lib.hid (F6.out.kept g7 (.inr NR.out))
      have G7 := Lib.hid (gsetR G6.out (show w.heap.size ≤ b1 by have := Ls.out; omega) #[.int .u16 id, .bool true, .int .u8 op, .bool false, .bool false, .bool rd, .bool true, .bool false, .bool false, .bool cd, .int .u8 cc, vq, .slice none 0 0, .slice none 0 0, .slice none 0 0, .bool true, .int .u16 sz, .int .u8 ex, .int .u8 0, .int .u16 0, .slice none 0 0])
      clear g7 F6 G6
      go_wp2_with (first | refine wpList_load_row rfl 32 _ rfl b2 rfl _ _ _ _ M6.out Tryz.underlying32 rfl (by kernel_rfl) ?_ | refine wpList_store_row rfl 32 _ _ rfl b1 #[.int .u16 id, .bool true, .int .u8 op, .bool false, .bool false, .bool rd, .bool true, .bool false, .bool false, .bool cd, .int .u8 cc, vq, .slice none 0 0, .slice none 0 0, .slice none 0 0, .bool true, .int .u16 sz, .int .u8 ex, .int .u8 0, .int .u16 0, .slice none 0 0] rfl rfl 32 _ R6.out (by kernel_rfl) rfl (by kernel_rfl) ?_)
      refine bodyPost_ret_by (results_cell_row rfl _ _ b1 32 #[.int .u16 id, .bool true, .int .u8 op, .bool false, .bool false, .bool rd, .bool true, .bool false, .bool false, .bool cd, .int .u8 cc, vq, .slice none 0 0, .slice none 0 0, .slice none 0 0, .bool true, .int .u16 sz, .int .u8 ex, .int .u8 0, .int .u16 0, .slice none 0 0] (0, 0) _ rfl T7.out Tryz.underlying32 rfl (by kernel_rfl)) rfl ?_
      exact BkPost.of HB.out G7.out rfl F7.out
end Go.Proofs.YtkhigfbmdolgmaaGreatDoor
