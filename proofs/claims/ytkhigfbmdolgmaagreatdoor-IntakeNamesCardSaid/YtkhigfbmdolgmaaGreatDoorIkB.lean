/-
  Intake: what a datagram is (examine, where it is decoded).
-/
import Derived.Test.YtkhigfbmdolgmaaGreatDoorIkA
namespace Go.Proofs.YtkhigfbmdolgmaaGreatDoor
open Go.RowKit

theorem examM_no (c : Cm) {m : Ms} (h : ¬ m.qs.length = 1) : examM c m = .told (c.edns m) 1 := by
  unfold examM
  generalize m.qs = l at *
  match l, h with
  | [], _ => rfl
  | [_], h => exact absurd rfl h
  | _ :: _ :: _, _ => rfl
theorem fs_at {w : World} {base k n cap : Nat} {e : TypeId} {A : Option Addr} {xs : List Value} (h : FS w base e k (.slice A n cap) n xs) (hn : 0 < n) : ∃ g, A = some ⟨g, 0, none⟩ ∧ base ≤ g := by
  rcases h.2 with ⟨_, h2⟩ | ⟨g, c, cur, h3, h4, _⟩
  · omega
  · cases h3
    exact ⟨g, rfl, h4⟩
theorem one_q {w : World} {b n cap : Nat} {l : List Qn} {q : Qn} (h : Qs w (.slice (some ⟨b, 0, none⟩) n cap) l) (hl : l = [q]) : w.cell? ⟨b, 0, none⟩ = some (.string q.name) ∧ w.cell? ⟨b, 1, none⟩ = some (.int .u16 q.kind) ∧ w.cell? ⟨b, 2, none⟩ = some (.int .u16 q.cls) := by
  subst hl
  obtain ⟨b', o, e, l0, l1, l2⟩ := h.at (k := 0) (by simp)
  cases e
  exact ⟨l0, l1, l2⟩
theorem gcell {w w' : World} {row : Option Nat} {b i : Nat} {v : Value} (g : w.grownBy w' row) (h : w.cell? ⟨b, i, none⟩ = some v) (hn : some b ≠ row) : w'.cell? ⟨b, i, none⟩ = some v := by
  have hb : b < w.heap.size := by
    unfold World.cell? at h
    cases hh : w.heap[b]? with
    | none => rw [hh] at h; cases h
    | some o => exact blt hh
  unfold World.cell? at h ⊢
  rw [g.block b hb hn]
  exact h
theorem cells3 {w w' : World} {b6 bl : Nat} {x y z : Value} (g : w.grownBy w' (some b6)) (h : w.cell? ⟨bl, 0, none⟩ = some x ∧ w.cell? ⟨bl, 1, none⟩ = some y ∧ w.cell? ⟨bl, 2, none⟩ = some z) (hn : bl ≠ b6) : w'.cell? ⟨bl, 0, none⟩ = some x ∧ w'.cell? ⟨bl, 1, none⟩ = some y ∧ w'.cell? ⟨bl, 2, none⟩ = some z :=
  ⟨gcell g h.1 (by simpa using hn), gcell g h.2.1 (by simpa using hn), gcell g h.2.2 (by simpa using hn)⟩
theorem examM_yes (c : Cm) {m : Ms} {q : Qn} (h : m.qs = [q]) : examM c m = examQ (c.edns m) m q := by
  unfold examM
  rw [h]
set_option maxRecDepth 100000 in
set_option maxHeartbeats 8000000 in
theorem examine_b (w : World) (s : ByteArray) (he : Et w) (hb : Bt w) (hs : s.size ≤ maxLen) (h12 : ¬ s.size < 12) (hq : ¬ (fromN (num s 0 2) (num s 2 2)).qr = true) (ho : ¬ (fromN (num s 0 2) (num s 2 2)).op ≠ 0) :
    Calls Tryz.prog 11 #[.string s] w fun e w' => e = .returned (exam s).v ∧ w.grownBy w' none := by
  have HE := Lib.hid he
  have HT := Lib.hid hb
  have CR := read_ok s w he hb (by omega) hs
  have EX := Lib.hid (show exam s = _ from (if_neg h12).trans ((if_neg hq).trans (if_neg ho)))
  clear he hb hs h12
  generalize fromN (num s 0 2) (num s 2 2) = H at *
  obtain ⟨id, qr, op, aa, tc, rd, ra, z, ad, cd, code⟩ := H
  generalize num s 4 2 = n4 at *
  generalize num s 6 2 = n6 at *
  generalize num s 8 2 = n8 at *
  generalize num s 10 2 = n10 at *
  dsimp only at EX hq ho
  obtain rfl : op = 0 := by omega
  obtain rfl : qr = false := by simpa using hq
  clear ho hq
  go_enter Tryz.func11, Tryz.ntmps11
  go_wp2_with fail
  refine Calls.mono CR ?_
  clear CR
  rintro e w1 ⟨rfl, hg⟩
  simp only [Hd.v, cv]
  have G := Lib.hid hg
  have LW := Lib.hid hg.size
  clear hg
  have e3 : ((w1.alloc (.cells #[.int .u16 id, .bool false, .int .u8 0, .bool aa, .bool tc, .bool rd, .bool ra, .bool z, .bool ad, .bool cd, .int .u8 code] 25)).alloc (.cells #[.int .i64 n4, .int .i64 n6, .int .i64 n8, .int .i64 n10] 74)).heap.size = (w1.heap.size + 1 + 1) := by simp only [World.size_alloc]
  have BZ := Lib.hid (show (((w1.alloc (.cells #[.int .u16 id, .bool false, .int .u8 0, .bool aa, .bool tc, .bool rd, .bool ra, .bool z, .bool ad, .bool cd, .int .u8 code] 25)).alloc (.cells #[.int .i64 n4, .int .i64 n6, .int .i64 n8, .int .i64 n10] 74)).alloc (.cells #[.int .u8 0, .int .i64 0, .int .u16 0, .bool false, .int .u8 0, .bool false, .bool false, .bool false, .bool false, .bool false, .bool false, .bool false, .int .u8 0, .bool false, .string { data := #[] }, .int .u16 0, .int .u16 0, .bool false, .int .i64 0] 40)).heap[(w1.heap.size + 1 + 1)]? = some (.cells #[.int .u8 0, .int .i64 0, .int .u16 0, .bool false, .int .u8 0, .bool false, .bool false, .bool false, .bool false, .bool false, .bool false, .bool false, .int .u8 0, .bool false, .string { data := #[] }, .int .u16 0, .int .u16 0, .bool false, .int .i64 0] 40) from e3 ▸ balloc ((w1.alloc (.cells #[.int .u16 id, .bool false, .int .u8 0, .bool aa, .bool tc, .bool rd, .bool ra, .bool z, .bool ad, .bool cd, .int .u8 code] 25)).alloc (.cells #[.int .i64 n4, .int .i64 n6, .int .i64 n8, .int .i64 n10] 74)) (.cells #[.int .u8 0, .int .i64 0, .int .u16 0, .bool false, .int .u8 0, .bool false, .bool false, .bool false, .bool false, .bool false, .bool false, .bool false, .int .u8 0, .bool false, .string { data := #[] }, .int .u16 0, .int .u16 0, .bool false, .int .i64 0] 40))
  have BX := Lib.hid (bsetR BZ.out #[.int .u8 0, .int .i64 0, .int .u16 id, .bool false, .int .u8 0, .bool false, .bool false, .bool rd, .bool false, .bool false, .bool false, .bool cd, .int .u8 0, .bool false, .string { data := #[] }, .int .u16 0, .int .u16 0, .bool false, .int .i64 0])
  have G := Lib.hid (gsetRow (galloc (galloc (galloc G.out (.cells #[.int .u16 id, .bool false, .int .u8 0, .bool aa, .bool tc, .bool rd, .bool ra, .bool z, .bool ad, .bool cd, .int .u8 code] 25)) (.cells #[.int .i64 n4, .int .i64 n6, .int .i64 n8, .int .i64 n10] 74)) (.cells #[.int .u8 0, .int .i64 0, .int .u16 0, .bool false, .int .u8 0, .bool false, .bool false, .bool false, .bool false, .bool false, .bool false, .bool false, .int .u8 0, .bool false, .string { data := #[] }, .int .u16 0, .int .u16 0, .bool false, .int .i64 0] 40)) (show w.heap.size ≤ (w1.heap.size + 1 + 1) by have := G.out.size; omega) #[.int .u8 0, .int .i64 0, .int .u16 id, .bool false, .int .u8 0, .bool false, .bool false, .bool rd, .bool false, .bool false, .bool false, .bool cd, .int .u8 0, .bool false, .string { data := #[] }, .int .u16 0, .int .u16 0, .bool false, .int .i64 0])
  have HH1 := Lib.hid (gblock (gsetRs (((w1.alloc (.cells #[.int .u16 id, .bool false, .int .u8 0, .bool aa, .bool tc, .bool rd, .bool ra, .bool z, .bool ad, .bool cd, .int .u8 code] 25)).alloc (.cells #[.int .i64 n4, .int .i64 n6, .int .i64 n8, .int .i64 n10] 74)).alloc (.cells #[.int .u8 0, .int .i64 0, .int .u16 0, .bool false, .int .u8 0, .bool false, .bool false, .bool false, .bool false, .bool false, .bool false, .bool false, .int .u8 0, .bool false, .string { data := #[] }, .int .u16 0, .int .u16 0, .bool false, .int .i64 0] 40)) (w1.heap.size + 1 + 1) #[.int .u8 0, .int .i64 0, .int .u16 id, .bool false, .int .u8 0, .bool false, .bool false, .bool rd, .bool false, .bool false, .bool false, .bool cd, .int .u8 0, .bool false, .string { data := #[] }, .int .u16 0, .int .u16 0, .bool false, .int .i64 0]) (gblock (galloc (galloc (grefl (w1.alloc (.cells #[.int .u16 id, .bool false, .int .u8 0, .bool aa, .bool tc, .bool rd, .bool ra, .bool z, .bool ad, .bool cd, .int .u8 code] 25)) none) (.cells #[.int .i64 n4, .int .i64 n6, .int .i64 n8, .int .i64 n10] 74)) (.cells #[.int .u8 0, .int .i64 0, .int .u16 0, .bool false, .int .u8 0, .bool false, .bool false, .bool false, .bool false, .bool false, .bool false, .bool false, .int .u8 0, .bool false, .string { data := #[] }, .int .u16 0, .int .u16 0, .bool false, .int .i64 0] 40)) (balloc w1 (.cells #[.int .u16 id, .bool false, .int .u8 0, .bool aa, .bool tc, .bool rd, .bool ra, .bool z, .bool ad, .bool cd, .int .u8 code] 25)) (by simp)) (by simp; omega))
  have co : ((((w1.alloc (.cells #[.int .u16 id, .bool false, .int .u8 0, .bool aa, .bool tc, .bool rd, .bool ra, .bool z, .bool ad, .bool cd, .int .u8 code] 25)).alloc (.cells #[.int .i64 n4, .int .i64 n6, .int .i64 n8, .int .i64 n10] 74)).alloc (.cells #[.int .u8 0, .int .i64 0, .int .u16 0, .bool false, .int .u8 0, .bool false, .bool false, .bool false, .bool false, .bool false, .bool false, .bool false, .int .u8 0, .bool false, .string { data := #[] }, .int .u16 0, .int .u16 0, .bool false, .int .i64 0] 40)).setRow (w1.heap.size + 1 + 1) #[.int .u8 0, .int .i64 0, .int .u16 id, .bool false, .int .u8 0, .bool false, .bool false, .bool rd, .bool false, .bool false, .bool false, .bool cd, .int .u8 0, .bool false, .string { data := #[] }, .int .u16 0, .int .u16 0, .bool false, .int .i64 0]).cell? ⟨w1.heap.size, 2, none⟩ = some (.int .u8 0) := bcellAt HH1.out 2
  clear e3 HH1
  go_wp2_with (first | refine wpList_store_row rfl 40 _ _ rfl (w1.heap.size + 1 + 1) #[.int .u8 0, .int .i64 0, .int .u16 id, .bool false, .int .u8 0, .bool false, .bool false, .bool rd, .bool false, .bool false, .bool false, .bool cd, .int .u8 0, .bool false, .string { data := #[] }, .int .u16 0, .int .u16 0, .bool false, .int .i64 0] rfl rfl 40 _ BZ.out (by kernel_rfl) rfl (by kernel_rfl) ?_ | refine wpList_load_row rfl 40 _ rfl (w1.heap.size + 1 + 1) rfl _ _ _ _ BX.out Tryz.underlying40 rfl (by kernel_rfl) ?_)
  clear co BZ
  generalize ((((w1.alloc (.cells #[.int .u16 id, .bool false, .int .u8 0, .bool aa, .bool tc, .bool rd, .bool ra, .bool z, .bool ad, .bool cd, .int .u8 code] 25)).alloc (.cells #[.int .i64 n4, .int .i64 n6, .int .i64 n8, .int .i64 n10] 74)).alloc (.cells #[.int .u8 0, .int .i64 0, .int .u16 0, .bool false, .int .u8 0, .bool false, .bool false, .bool false, .bool false, .bool false, .bool false, .bool false, .int .u8 0, .bool false, .string { data := #[] }, .int .u16 0, .int .u16 0, .bool false, .int .i64 0] 40)).setRow (w1.heap.size + 1 + 1) #[.int .u8 0, .int .i64 0, .int .u16 id, .bool false, .int .u8 0, .bool false, .bool false, .bool rd, .bool false, .bool false, .bool false, .bool cd, .int .u8 0, .bool false, .string { data := #[] }, .int .u16 0, .int .u16 0, .bool false, .int .i64 0]) = w2 at *
  have lb6 : w.heap.size ≤ (w1.heap.size + 1 + 1) := by have := LW.out; omega
  generalize (w1.heap.size + 1 + 1) = b6 at *
  have L26 := Lib.hid (blt BX.out)
  refine Calls.mono (decode_any w2 s (HE.out.kept G.out (by simp)) (HT.out.kept G.out (by simp))) ?_
  rintro e w3 ⟨hg, x4q, x4a, x4u, x4x, x4o, rfl, hf⟩
  have Gw3 := Lib.hid (gtrans G.out hg)
  have BXw3 := Lib.hid (gblock hg BX.out (by simp))
  clear G BX hg
  have G := Gw3
  have BX := BXw3
  clear Gw3 BXw3
  have L23 := Lib.hid (blt BX.out)
  obtain ⟨B4q, d4q, rfl⟩ := hf.q.len
  obtain ⟨B4a, d4a, rfl⟩ := hf.a.len
  obtain ⟨B4u, d4u, rfl⟩ := hf.u.len
  obtain ⟨B4x, d4x, rfl⟩ := hf.x.len
  obtain ⟨B4o, d4o, rfl⟩ := hf.o.len
  have F4 := Lib.hid hf
  clear hf
  rw [Ms.val_cells]
  obtain ⟨C4, hC⟩ : ∃ C, C = Ms.cells (dcM s) (.slice B4q (Ms.qs (dcM s)).length d4q) (.slice B4a (Ms.an (dcM s)).length d4a) (.slice B4u (Ms.au (dcM s)).length d4u) (.slice B4x (Ms.ex (dcM s)).length d4x) (.slice B4o (Ms.ops (dcM s)).length d4o) := ⟨_, rfl⟩
  rw [← hC]
  have EC4 := Lib.hid hC
  have hs4 : (Array.all C4 (·.oneCell')) = true := by rw [hC]; kernel_rfl
  have hz4 : C4.size = 21 := by rw [hC]; rfl
  clear hC
  have hg : w3.grownBy ((w3.alloc (.cells #[.int .u16 0, .bool false, .int .u8 0, .bool false, .bool false, .bool false, .bool false, .bool false, .bool false, .bool false, .int .u8 0, .slice none 0 0, .slice none 0 0, .slice none 0 0, .slice none 0 0, .bool false, .int .u16 0, .int .u8 0, .int .u8 0, .int .u16 0, .slice none 0 0] 32)).setRow w3.heap.size C4) none := gsetRow (galloc (grefl w3 none) _) (Nat.le_refl _) C4
  have M4 := Lib.hid (bsetR (balloc w3 (.cells #[.int .u16 0, .bool false, .int .u8 0, .bool false, .bool false, .bool false, .bool false, .bool false, .bool false, .bool false, .int .u8 0, .slice none 0 0, .slice none 0 0, .slice none 0 0, .slice none 0 0, .bool false, .int .u16 0, .int .u8 0, .int .u8 0, .int .u16 0, .slice none 0 0] 32)) C4)
  have MA := Lib.hid (balloc w3 (.cells #[.int .u16 0, .bool false, .int .u8 0, .bool false, .bool false, .bool false, .bool false, .bool false, .bool false, .bool false, .int .u8 0, .slice none 0 0, .slice none 0 0, .slice none 0 0, .slice none 0 0, .bool false, .int .u16 0, .int .u8 0, .int .u8 0, .int .u16 0, .slice none 0 0] 32))
  have F4' := Lib.hid (F4.out.kept hg)
  clear F4
  have Gw4 := Lib.hid (gtrans G.out hg)
  have BXw4 := Lib.hid (gblock hg BX.out (by simp))
  clear G BX hg
  have G := Gw4
  have BX := BXw4
  clear Gw4 BXw4
  have HB6 := Lib.hid lb6
  by_cases he : dcE s = 0
  case neg =>
    have e0 : (((dcE s : Nat) : Int) == 0) = false := by simp; omega
    go_wp2_with (first | refine wpList_store_row rfl 32 _ _ rfl w3.heap.size C4 rfl rfl 32 _ MA.out (by rw [hz4]; kernel_rfl) hz4.symm hs4 ?_ | refine wpList_load_rowG rfl 40 _ rfl b6 rfl _ _ _ _ BX.out Tryz.underlying40 rfl (by kernel_rfl) ?_)
    go_ret
    exact ⟨by rw [EX.out, if_pos he]; rfl, G.out⟩
  have EX := Lib.hid (EX.out.trans (if_neg (fun h => h he)))
  have RR := Lib.hid (rdM_rng (dcE_ok he)).1
  have SZ := Lib.hid RR.out.sz
  have RQ := Lib.hid RR.out.q
  rw [he]
  clear he
  generalize dcM s = m at *
  have nM := Lib.hid (show w3.heap.size ≠ b6 by have := L26.out; have := L23.out; omega)
  cases hh : m.has
  case false =>
    have c15 : ((w3.alloc (.cells #[.int .u16 0, .bool false, .int .u8 0, .bool false, .bool false, .bool false, .bool false, .bool false, .bool false, .bool false, .int .u8 0, .slice none 0 0, .slice none 0 0, .slice none 0 0, .slice none 0 0, .bool false, .int .u16 0, .int .u8 0, .int .u8 0, .int .u16 0, .slice none 0 0] 32)).setRow w3.heap.size C4).cell? ⟨w3.heap.size, 15, none⟩ = some (.bool false) := (bcellAt M4.out 15).trans (by rw [EC4.out]; show some (Value.bool m.has) = _; rw [hh])
    have HM := Lib.hid hh
    by_cases hl : m.qs.length = 1
    case neg =>
      have e1 : (((m.qs.length : Nat) : Int) != 1) = true := by simp; omega
      have c11 : ((w3.alloc (.cells #[.int .u16 0, .bool false, .int .u8 0, .bool false, .bool false, .bool false, .bool false, .bool false, .bool false, .bool false, .int .u8 0, .slice none 0 0, .slice none 0 0, .slice none 0 0, .slice none 0 0, .bool false, .int .u16 0, .int .u8 0, .int .u8 0, .int .u16 0, .slice none 0 0] 32)).setRow w3.heap.size C4).cell? ⟨w3.heap.size, 11, none⟩ = some (.slice B4q m.qs.length d4q) := (bcellAt M4.out 11).trans (by rw [EC4.out]; rfl)
      clear hh
      go_wp2_with (first | refine wpList_store_row rfl 32 _ _ rfl w3.heap.size C4 rfl rfl 32 _ MA.out (by rw [hz4]; kernel_rfl) hz4.symm hs4 ?_ | refine wpList_load_rowG rfl 40 _ rfl b6 rfl _ _ _ _ BX.out Tryz.underlying40 rfl (by kernel_rfl) ?_)
      go_ret
      exact ⟨by rw [EX.out, examM_no _ hl]; unfold Cm.edns; rw [HM.out]; rfl, G.out⟩
    obtain ⟨q, hq⟩ := List.length_eq_one_iff.1 hl
    have hQ : Qs ((w3.alloc (.cells #[.int .u16 0, .bool false, .int .u8 0, .bool false, .bool false, .bool false, .bool false, .bool false, .bool false, .bool false, .int .u8 0, .slice none 0 0, .slice none 0 0, .slice none 0 0, .slice none 0 0, .bool false, .int .u16 0, .int .u8 0, .int .u8 0, .int .u16 0, .slice none 0 0] 32)).setRow w3.heap.size C4) (.slice B4q m.qs.length d4q) m.qs := F4'.out.q.sl
    obtain ⟨bl, rfl, hbl⟩ := fs_at F4'.out.q (by omega)
    have QL := Lib.hid (one_q hQ hq)
    have hne := Lib.hid (show bl ≠ b6 by have := L26.out; omega)
    clear hQ hbl
    have EL := Lib.hid (show C4[11]? = some (.slice (some ⟨bl, 0, none⟩) 1 d4q) by rw [EC4.out]; show some (Value.slice _ m.qs.length _) = _; rw [hl])
    have EV := Lib.hid (show C4[18]? = some (.int .u8 m.v) by rw [EC4.out]; rfl)
    have ES := Lib.hid (show C4[16]? = some (.int .u16 m.sz) by rw [EC4.out]; rfl)
    have EH := Lib.hid (show C4[15]? = some (.bool false) by rw [EC4.out]; show some (Value.bool m.has) = _; rw [hh])
    have HQ := Lib.hid hq
    have HQR := Lib.hid (show q.kind < 65536 ∧ q.cls < 65536 by have := RQ.out q (by rw [hq]; exact List.mem_singleton.2 rfl); exact ⟨this.kind, this.cls⟩)
    clear hl hq hh EC4
    have c11 : ((w3.alloc (.cells #[.int .u16 0, .bool false, .int .u8 0, .bool false, .bool false, .bool false, .bool false, .bool false, .bool false, .bool false, .int .u8 0, .slice none 0 0, .slice none 0 0, .slice none 0 0, .slice none 0 0, .bool false, .int .u16 0, .int .u8 0, .int .u8 0, .int .u16 0, .slice none 0 0] 32)).setRow w3.heap.size C4).cell? ⟨w3.heap.size, 11, none⟩ = some (.slice (some ⟨bl, 0, none⟩) 1 d4q) := (bcellAt M4.out 11).trans EL.out
    go_upto_region 13 with (first | refine wpList_store_row rfl 32 _ _ rfl w3.heap.size C4 rfl rfl 32 _ MA.out (by rw [hz4]; kernel_rfl) hz4.symm hs4 ?_ | refine wpList_load_rowG rfl 40 _ rfl b6 rfl _ _ _ _ BX.out Tryz.underlying40 rfl (by kernel_rfl) ?_)
    clear c15 c11 MA hz4 hs4 F4'
    generalize ((w3.alloc (.cells #[.int .u16 0, .bool false, .int .u8 0, .bool false, .bool false, .bool false, .bool false, .bool false, .bool false, .bool false, .int .u8 0, .slice none 0 0, .slice none 0 0, .slice none 0 0, .slice none 0 0, .bool false, .int .u16 0, .int .u8 0, .int .u8 0, .int .u16 0, .slice none 0 0] 32)).setRow w3.heap.size C4) = w4 at *
    have c11 := (bcellAt M4.out 11).trans EL.out
    have c13 := bcellAt BX.out 13
    have c14 := bcellAt BX.out 14
    have c15 := bcellAt BX.out 15
    have c16 := bcellAt BX.out 16
    have r13 := bfree BX.out 13
    have r14 := bfree BX.out 14
    have r15 := bfree BX.out 15
    have r16 := bfree BX.out 16
    obtain ⟨l0, l1, l2⟩ := QL.out
    have n1 := hne.out
    have n2 := hne.out.symm
    go_region
    have BX6 := Lib.hid (show ((((w4.setCell ⟨b6, 13, none⟩ (.bool true)).setCell ⟨b6, 14, none⟩ (.string q.name)).setCell ⟨b6, 15, none⟩ (.int .u16 q.kind)).setCell ⟨b6, 16, none⟩ (.int .u16 q.cls)).drew.heap[b6]? = some (.cells #[.int .u8 0, .int .i64 0, .int .u16 id, .bool false, .int .u8 0, .bool false, .bool false, .bool rd, .bool false, .bool false, .bool false, .bool cd, .int .u8 0, .bool true, .string q.name, .int .u16 q.kind, .int .u16 q.cls, .bool false, .int .i64 0] 40 (0, 0)) from (bset (bset (bset (bset BX.out 13 (.bool true)) 14 (.string q.name)) 15 (.int .u16 q.kind)) 16 (.int .u16 q.cls)))
    have G6 := Lib.hid (gdrew (gset2 (gset2 (gset2 (gset2 G.out (p := ⟨b6, 13, none⟩) (v := .bool true) HB6.out) (p := ⟨b6, 14, none⟩) (v := .string q.name) HB6.out) (p := ⟨b6, 15, none⟩) (v := .int .u16 q.kind) HB6.out) (p := ⟨b6, 16, none⟩) (v := .int .u16 q.cls) HB6.out))
    have M6 := Lib.hid (gblock (gdrew (gset (gset (gset (gset (grefl w4 (some b6)) (p := ⟨b6, 13, none⟩) (.inl rfl) (.bool true)) (p := ⟨b6, 14, none⟩) (.inl rfl) (.string q.name)) (p := ⟨b6, 15, none⟩) (.inl rfl) (.int .u16 q.kind)) (p := ⟨b6, 16, none⟩) (.inl rfl) (.int .u16 q.cls))) M4.out (by simpa using nM.out))
    clear c11 c13 c14 c15 c16 r13 r14 r15 r16 l0 l1 l2 n1 n2 BX G M4 QL
    generalize ((((w4.setCell ⟨b6, 13, none⟩ (.bool true)).setCell ⟨b6, 14, none⟩ (.string q.name)).setCell ⟨b6, 15, none⟩ (.int .u16 q.kind)).setCell ⟨b6, 16, none⟩ (.int .u16 q.cls)).drew = w6 at *
    have BX := BX6
    have G := G6
    have c15 := (bcellAt M6.out 15).trans EH.out
    have c18 := (bcellAt M6.out 18).trans EV.out
    have k14 := bcellAt BX.out 14
    have k15 := bcellAt BX.out 15
    have k16 := bcellAt BX.out 16
    clear BX6 G6
    go_wp2_with (refine wpList_load_rowG rfl 40 _ rfl b6 rfl _ _ _ _ BX.out Tryz.underlying40 rfl (by kernel_rfl) ?_)
    refine Calls.mono (refused_any _ q HQR.out.1 HQR.out.2) ?_
    rintro e w7 ⟨rfl, hg⟩
    have BX7 := Lib.hid (gblock hg BX.out (by simp))
    have G7 := Lib.hid (gtrans G.out hg)
    clear c15 c18 k14 k15 k16 BX G hg
    have BX := BX7
    have G := G7
    have hno : ¬ (m.has = true ∧ m.v ≠ 0) := by rw [HM.out]; simp
    clear BX7 G7
    cases hr : refd q
    case true =>
      go_wp2_with (refine wpList_load_rowG rfl 40 _ rfl b6 rfl _ _ _ _ BX.out Tryz.underlying40 rfl (by kernel_rfl) ?_)
      go_ret
      exact ⟨by rw [EX.out, examM_yes _ HQ.out]; unfold examQ; rw [if_neg hno, if_pos hr]; unfold Cm.edns; rw [HM.out]; rfl, G.out⟩
    case false =>
      go_wp2_with (refine wpList_load_rowG rfl 40 _ rfl b6 rfl _ _ _ _ BX.out Tryz.underlying40 rfl (by kernel_rfl) ?_)
      go_ret
      exact ⟨by rw [EX.out, examM_yes _ HQ.out]; unfold examQ; rw [if_neg hno, if_neg (by rw [hr]; simp)]; unfold Cm.edns; rw [HM.out]; rfl, G.out⟩
  case true =>
    have c15 : ((w3.alloc (.cells #[.int .u16 0, .bool false, .int .u8 0, .bool false, .bool false, .bool false, .bool false, .bool false, .bool false, .bool false, .int .u8 0, .slice none 0 0, .slice none 0 0, .slice none 0 0, .slice none 0 0, .bool false, .int .u16 0, .int .u8 0, .int .u8 0, .int .u16 0, .slice none 0 0] 32)).setRow w3.heap.size C4).cell? ⟨w3.heap.size, 15, none⟩ = some (.bool true) := (bcellAt M4.out 15).trans (by rw [EC4.out]; show some (Value.bool m.has) = _; rw [hh])
    have HM := Lib.hid hh
    by_cases hl : m.qs.length = 1
    case neg =>
      have e1 : (((m.qs.length : Nat) : Int) != 1) = true := by simp; omega
      have c11 : ((w3.alloc (.cells #[.int .u16 0, .bool false, .int .u8 0, .bool false, .bool false, .bool false, .bool false, .bool false, .bool false, .bool false, .int .u8 0, .slice none 0 0, .slice none 0 0, .slice none 0 0, .slice none 0 0, .bool false, .int .u16 0, .int .u8 0, .int .u8 0, .int .u16 0, .slice none 0 0] 32)).setRow w3.heap.size C4).cell? ⟨w3.heap.size, 11, none⟩ = some (.slice B4q m.qs.length d4q) := (bcellAt M4.out 11).trans (by rw [EC4.out]; rfl)
      have c16 : ((w3.alloc (.cells #[.int .u16 0, .bool false, .int .u8 0, .bool false, .bool false, .bool false, .bool false, .bool false, .bool false, .bool false, .int .u8 0, .slice none 0 0, .slice none 0 0, .slice none 0 0, .slice none 0 0, .bool false, .int .u16 0, .int .u8 0, .int .u8 0, .int .u16 0, .slice none 0 0] 32)).setRow w3.heap.size C4).cell? ⟨w3.heap.size, 16, none⟩ = some (.int .u16 m.sz) := (bcellAt M4.out 16).trans (by rw [EC4.out]; rfl)
      have hsz := Lib.hid (show wrap64 (m.sz : Int) = m.sz by have := SZ.out; unfold wrap64; omega)
      clear hh
      go_upto_region 10 with (first | refine wpList_store_row rfl 32 _ _ rfl w3.heap.size C4 rfl rfl 32 _ MA.out (by rw [hz4]; kernel_rfl) hz4.symm hs4 ?_ | refine wpList_load_rowG rfl 40 _ rfl b6 rfl _ _ _ _ BX.out Tryz.underlying40 rfl (by kernel_rfl) ?_)
      clear MA hz4 hs4
      generalize ((w3.alloc (.cells #[.int .u16 0, .bool false, .int .u8 0, .bool false, .bool false, .bool false, .bool false, .bool false, .bool false, .bool false, .int .u8 0, .slice none 0 0, .slice none 0 0, .slice none 0 0, .slice none 0 0, .bool false, .int .u16 0, .int .u8 0, .int .u8 0, .int .u16 0, .slice none 0 0] 32)).setRow w3.heap.size C4) = w4 at *
      have c17 := bcellAt BX.out 17
      have c18 := bcellAt BX.out 18
      have r17 := bfree BX.out 17
      have r18 := bfree BX.out 18
      have hsz := hsz.out
      go_region
      have BX5 := Lib.hid (show ((w4.setCell ⟨b6, 17, none⟩ (.bool true)).setCell ⟨b6, 18, none⟩ (.int .i64 m.sz)).drew.heap[b6]? = some (.cells #[.int .u8 0, .int .i64 0, .int .u16 id, .bool false, .int .u8 0, .bool false, .bool false, .bool rd, .bool false, .bool false, .bool false, .bool cd, .int .u8 0, .bool false, .string { data := #[] }, .int .u16 0, .int .u16 0, .bool true, .int .i64 m.sz] 40 (0, 0)) from (bset (bset BX.out 17 (.bool true)) 18 (.int .i64 m.sz)))
      have G5 := Lib.hid (gdrew (gset2 (gset2 G.out (p := ⟨b6, 17, none⟩) (v := .bool true) HB6.out) (p := ⟨b6, 18, none⟩) (v := .int .i64 m.sz) HB6.out))
      have M5 := Lib.hid (gblock (gdrew (gset (gset (grefl w4 (some b6)) (p := ⟨b6, 17, none⟩) (.inl rfl) (.bool true)) (p := ⟨b6, 18, none⟩) (.inl rfl) (.int .i64 m.sz))) M4.out (by simpa using nM.out))
      clear c17 c18 r17 r18 c15 c11 c16 BX G M4
      generalize ((w4.setCell ⟨b6, 17, none⟩ (.bool true)).setCell ⟨b6, 18, none⟩ (.int .i64 m.sz)).drew = w5 at *
      have BX := BX5
      have G := G5
      have c11 : w5.cell? ⟨w3.heap.size, 11, none⟩ = some (.slice B4q m.qs.length d4q) := (bcellAt M5.out 11).trans (by rw [EC4.out]; rfl)
      clear BX5 G5
      go_wp2_with (refine wpList_load_rowG rfl 40 _ rfl b6 rfl _ _ _ _ BX.out Tryz.underlying40 rfl (by kernel_rfl) ?_)
      go_ret
      exact ⟨by rw [EX.out, examM_no _ hl]; unfold Cm.edns; rw [HM.out]; rfl, G.out⟩
    obtain ⟨q, hq⟩ := List.length_eq_one_iff.1 hl
    have hQ : Qs ((w3.alloc (.cells #[.int .u16 0, .bool false, .int .u8 0, .bool false, .bool false, .bool false, .bool false, .bool false, .bool false, .bool false, .int .u8 0, .slice none 0 0, .slice none 0 0, .slice none 0 0, .slice none 0 0, .bool false, .int .u16 0, .int .u8 0, .int .u8 0, .int .u16 0, .slice none 0 0] 32)).setRow w3.heap.size C4) (.slice B4q m.qs.length d4q) m.qs := F4'.out.q.sl
    obtain ⟨bl, rfl, hbl⟩ := fs_at F4'.out.q (by omega)
    have QL := Lib.hid (one_q hQ hq)
    have hne := Lib.hid (show bl ≠ b6 by have := L26.out; omega)
    clear hQ hbl
    have EL := Lib.hid (show C4[11]? = some (.slice (some ⟨bl, 0, none⟩) 1 d4q) by rw [EC4.out]; show some (Value.slice _ m.qs.length _) = _; rw [hl])
    have EV := Lib.hid (show C4[18]? = some (.int .u8 m.v) by rw [EC4.out]; rfl)
    have ES := Lib.hid (show C4[16]? = some (.int .u16 m.sz) by rw [EC4.out]; rfl)
    have EH := Lib.hid (show C4[15]? = some (.bool true) by rw [EC4.out]; show some (Value.bool m.has) = _; rw [hh])
    have HQ := Lib.hid hq
    have HQR := Lib.hid (show q.kind < 65536 ∧ q.cls < 65536 by have := RQ.out q (by rw [hq]; exact List.mem_singleton.2 rfl); exact ⟨this.kind, this.cls⟩)
    clear hl hq hh EC4
    have c11 : ((w3.alloc (.cells #[.int .u16 0, .bool false, .int .u8 0, .bool false, .bool false, .bool false, .bool false, .bool false, .bool false, .bool false, .int .u8 0, .slice none 0 0, .slice none 0 0, .slice none 0 0, .slice none 0 0, .bool false, .int .u16 0, .int .u8 0, .int .u8 0, .int .u16 0, .slice none 0 0] 32)).setRow w3.heap.size C4).cell? ⟨w3.heap.size, 11, none⟩ = some (.slice (some ⟨bl, 0, none⟩) 1 d4q) := (bcellAt M4.out 11).trans EL.out
    have c16 : ((w3.alloc (.cells #[.int .u16 0, .bool false, .int .u8 0, .bool false, .bool false, .bool false, .bool false, .bool false, .bool false, .bool false, .int .u8 0, .slice none 0 0, .slice none 0 0, .slice none 0 0, .slice none 0 0, .bool false, .int .u16 0, .int .u8 0, .int .u8 0, .int .u16 0, .slice none 0 0] 32)).setRow w3.heap.size C4).cell? ⟨w3.heap.size, 16, none⟩ = some (.int .u16 m.sz) := (bcellAt M4.out 16).trans ES.out
    have hsz := Lib.hid (show wrap64 (m.sz : Int) = m.sz by have := SZ.out; unfold wrap64; omega)
    go_upto_region 10 with (first | refine wpList_store_row rfl 32 _ _ rfl w3.heap.size C4 rfl rfl 32 _ MA.out (by rw [hz4]; kernel_rfl) hz4.symm hs4 ?_ | refine wpList_load_rowG rfl 40 _ rfl b6 rfl _ _ _ _ BX.out Tryz.underlying40 rfl (by kernel_rfl) ?_)
    clear MA hz4 hs4 c15 c11 c16 F4'
    generalize ((w3.alloc (.cells #[.int .u16 0, .bool false, .int .u8 0, .bool false, .bool false, .bool false, .bool false, .bool false, .bool false, .bool false, .int .u8 0, .slice none 0 0, .slice none 0 0, .slice none 0 0, .slice none 0 0, .bool false, .int .u16 0, .int .u8 0, .int .u8 0, .int .u16 0, .slice none 0 0] 32)).setRow w3.heap.size C4) = w4 at *
    have c16 := (bcellAt M4.out 16).trans ES.out
    have c17 := bcellAt BX.out 17
    have c18 := bcellAt BX.out 18
    have r17 := bfree BX.out 17
    have r18 := bfree BX.out 18
    have hsz := hsz.out
    go_region
    have BX5 := Lib.hid (show ((w4.setCell ⟨b6, 17, none⟩ (.bool true)).setCell ⟨b6, 18, none⟩ (.int .i64 m.sz)).drew.heap[b6]? = some (.cells #[.int .u8 0, .int .i64 0, .int .u16 id, .bool false, .int .u8 0, .bool false, .bool false, .bool rd, .bool false, .bool false, .bool false, .bool cd, .int .u8 0, .bool false, .string { data := #[] }, .int .u16 0, .int .u16 0, .bool true, .int .i64 m.sz] 40 (0, 0)) from (bset (bset BX.out 17 (.bool true)) 18 (.int .i64 m.sz)))
    have G5 := Lib.hid (gdrew (gset2 (gset2 G.out (p := ⟨b6, 17, none⟩) (v := .bool true) HB6.out) (p := ⟨b6, 18, none⟩) (v := .int .i64 m.sz) HB6.out))
    have gk := gdrew (gset (gset (grefl w4 (some b6)) (p := ⟨b6, 17, none⟩) (.inl rfl) (.bool true)) (p := ⟨b6, 18, none⟩) (.inl rfl) (.int .i64 m.sz))
    have M5 := Lib.hid (gblock gk M4.out (by simpa using nM.out))
    have QL5 := Lib.hid (cells3 gk QL.out hne.out)
    clear c16 c17 c18 r17 r18 BX G M4 QL gk
    generalize ((w4.setCell ⟨b6, 17, none⟩ (.bool true)).setCell ⟨b6, 18, none⟩ (.int .i64 m.sz)).drew = w5 at *
    have BX := BX5
    have G := G5
    have M4 := M5
    have QL := QL5
    clear BX5 G5 M5 QL5
    have c11 := (bcellAt M4.out 11).trans EL.out
    go_upto_region 13 with (fail)
    clear c11
    have c11 := (bcellAt M4.out 11).trans EL.out
    have c13 := bcellAt BX.out 13
    have c14 := bcellAt BX.out 14
    have c15 := bcellAt BX.out 15
    have c16 := bcellAt BX.out 16
    have r13 := bfree BX.out 13
    have r14 := bfree BX.out 14
    have r15 := bfree BX.out 15
    have r16 := bfree BX.out 16
    obtain ⟨l0, l1, l2⟩ := QL.out
    have n1 := hne.out
    have n2 := hne.out.symm
    go_region
    have BX6 := Lib.hid (show ((((w5.setCell ⟨b6, 13, none⟩ (.bool true)).setCell ⟨b6, 14, none⟩ (.string q.name)).setCell ⟨b6, 15, none⟩ (.int .u16 q.kind)).setCell ⟨b6, 16, none⟩ (.int .u16 q.cls)).drew.heap[b6]? = some (.cells #[.int .u8 0, .int .i64 0, .int .u16 id, .bool false, .int .u8 0, .bool false, .bool false, .bool rd, .bool false, .bool false, .bool false, .bool cd, .int .u8 0, .bool true, .string q.name, .int .u16 q.kind, .int .u16 q.cls, .bool true, .int .i64 m.sz] 40 (0, 0)) from (bset (bset (bset (bset BX.out 13 (.bool true)) 14 (.string q.name)) 15 (.int .u16 q.kind)) 16 (.int .u16 q.cls)))
    have G6 := Lib.hid (gdrew (gset2 (gset2 (gset2 (gset2 G.out (p := ⟨b6, 13, none⟩) (v := .bool true) HB6.out) (p := ⟨b6, 14, none⟩) (v := .string q.name) HB6.out) (p := ⟨b6, 15, none⟩) (v := .int .u16 q.kind) HB6.out) (p := ⟨b6, 16, none⟩) (v := .int .u16 q.cls) HB6.out))
    have M6 := Lib.hid (gblock (gdrew (gset (gset (gset (gset (grefl w5 (some b6)) (p := ⟨b6, 13, none⟩) (.inl rfl) (.bool true)) (p := ⟨b6, 14, none⟩) (.inl rfl) (.string q.name)) (p := ⟨b6, 15, none⟩) (.inl rfl) (.int .u16 q.kind)) (p := ⟨b6, 16, none⟩) (.inl rfl) (.int .u16 q.cls))) M4.out (by simpa using nM.out))
    clear c11 c13 c14 c15 c16 r13 r14 r15 r16 l0 l1 l2 n1 n2 BX G M4 QL
    generalize ((((w5.setCell ⟨b6, 13, none⟩ (.bool true)).setCell ⟨b6, 14, none⟩ (.string q.name)).setCell ⟨b6, 15, none⟩ (.int .u16 q.kind)).setCell ⟨b6, 16, none⟩ (.int .u16 q.cls)).drew = w6 at *
    have BX := BX6
    have G := G6
    have c15 := (bcellAt M6.out 15).trans EH.out
    have c18 := (bcellAt M6.out 18).trans EV.out
    have k14 := bcellAt BX.out 14
    have k15 := bcellAt BX.out 15
    have k16 := bcellAt BX.out 16
    clear BX6 G6
    by_cases hv : m.v = 0
    case neg =>
      have ev : (((m.v : Nat) : Int) != 0) = true := by simp; omega
      go_wp2_with (refine wpList_load_rowG rfl 40 _ rfl b6 rfl _ _ _ _ BX.out Tryz.underlying40 rfl (by kernel_rfl) ?_)
      go_ret
      exact ⟨by rw [EX.out, examM_yes _ HQ.out]; unfold examQ; rw [if_pos ⟨HM.out, hv⟩]; unfold Cm.edns; rw [HM.out]; rfl, G.out⟩
    have ev : (((m.v : Nat) : Int) != 0) = false := by simp; omega
    go_wp2_with (refine wpList_load_rowG rfl 40 _ rfl b6 rfl _ _ _ _ BX.out Tryz.underlying40 rfl (by kernel_rfl) ?_)
    refine Calls.mono (refused_any _ q HQR.out.1 HQR.out.2) ?_
    rintro e w7 ⟨rfl, hg⟩
    have BX7 := Lib.hid (gblock hg BX.out (by simp))
    have G7 := Lib.hid (gtrans G.out hg)
    clear c15 c18 k14 k15 k16 BX G hg
    have BX := BX7
    have G := G7
    have hno : ¬ (m.has = true ∧ m.v ≠ 0) := by exact fun h => h.2 hv
    clear BX7 G7 ev
    cases hr : refd q
    case true =>
      go_wp2_with (refine wpList_load_rowG rfl 40 _ rfl b6 rfl _ _ _ _ BX.out Tryz.underlying40 rfl (by kernel_rfl) ?_)
      go_ret
      exact ⟨by rw [EX.out, examM_yes _ HQ.out]; unfold examQ; rw [if_neg hno, if_pos hr]; unfold Cm.edns; rw [HM.out]; rfl, G.out⟩
    case false =>
      go_wp2_with (refine wpList_load_rowG rfl 40 _ rfl b6 rfl _ _ _ _ BX.out Tryz.underlying40 rfl (by kernel_rfl) ?_)
      go_ret
      exact ⟨by rw [EX.out, examM_yes _ HQ.out]; unfold examQ; rw [if_neg hno, if_neg (by rw [hr]; simp)]; unfold Cm.edns; rw [HM.out]; rfl, G.out⟩
end Go.Proofs.YtkhigfbmdolgmaaGreatDoor
