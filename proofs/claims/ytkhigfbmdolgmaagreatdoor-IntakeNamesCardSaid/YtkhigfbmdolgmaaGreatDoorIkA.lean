/-
  Intake: what a datagram is (examine, Look).
-/
import Derived.Test.YtkhigfbmdolgmaaGreatDoorIkD
import Derived.Deep.Cut
namespace Go.Proofs.YtkhigfbmdolgmaaGreatDoor
open Go.RowKit

def Cm.val (c : Cm) : Value := .agg #[.int .u8 c.kind, .int .i64 c.code, .int .u16 c.h.id, .bool c.h.qr, .int .u8 c.h.op, .bool c.h.aa, .bool c.h.tc, .bool c.h.rd, .bool c.h.ra, .bool c.h.z, .bool c.h.ad, .bool c.h.cd, .int .u8 c.h.code, .bool c.hasQ, .string c.q.name, .int .u16 c.q.kind, .int .u16 c.q.cls, .bool c.hasE, .int .i64 c.size]
def Lk.v : Lk → Value
  | .drop => .iface 78 (.agg #[])
  | .told c n => .iface 52 (.agg #[.int .u8 c.kind, .int .i64 c.code, .int .u16 c.h.id, .bool c.h.qr, .int .u8 c.h.op, .bool c.h.aa, .bool c.h.tc, .bool c.h.rd, .bool c.h.ra, .bool c.h.z, .bool c.h.ad, .bool c.h.cd, .int .u8 c.h.code, .bool c.hasQ, .string c.q.name, .int .u16 c.q.kind, .int .u16 c.q.cls, .bool c.hasE, .int .i64 c.size, .int .i64 n])
  | .asks c => .iface 55 (.agg #[.int .u8 c.kind, .int .i64 c.code, .int .u16 c.h.id, .bool c.h.qr, .int .u8 c.h.op, .bool c.h.aa, .bool c.h.tc, .bool c.h.rd, .bool c.h.ra, .bool c.h.z, .bool c.h.ad, .bool c.h.cd, .int .u8 c.h.code, .bool c.hasQ, .string c.q.name, .int .u16 c.q.kind, .int .u16 c.q.cls, .bool c.hasE, .int .i64 c.size])
set_option maxRecDepth 100000 in
set_option maxHeartbeats 1000000 in
theorem refused_any (w : World) (q : Qn) (hk : q.kind < 65536) (_hc : q.cls < 65536) : Calls Tryz.prog 20 #[.agg #[.string q.name, .int .u16 q.kind, .int .u16 q.cls]] w fun e w' => e = .returned (.bool (refd q)) ∧ w.grownBy w' none := by
  obtain ⟨b1, e1⟩ : ∃ b, ((q.cls : Int) != 1) = b := ⟨_, rfl⟩
  obtain ⟨b2, e2⟩ : ∃ b, ((q.kind : Int) == 0) = b := ⟨_, rfl⟩
  obtain ⟨b3, e3⟩ : ∃ b, ((q.kind : Int) == 41) = b := ⟨_, rfl⟩
  obtain ⟨b4, e4⟩ : ∃ b, decide ((249 : Int) ≤ (q.kind : Int)) = b := ⟨_, rfl⟩
  obtain ⟨b5, e5⟩ : ∃ b, decide ((q.kind : Int) ≤ 255) = b := ⟨_, rfl⟩
  have hR : refd q = (b1 || (b2 || b3 || (b4 && b5))) := by
    subst e1; subst e2; subst e3; subst e4; subst e5
    unfold refd
    have f1 : decide (q.cls ≠ 1) = ((q.cls : Int) != 1) := by rw [Bool.eq_iff_iff]; simp; omega
    have f2 : decide (q.kind = 0) = ((q.kind : Int) == 0) := by rw [Bool.eq_iff_iff]; simp
    have f3 : decide (q.kind = 41) = ((q.kind : Int) == 41) := by rw [Bool.eq_iff_iff]; simp; omega
    have f4 : decide (249 ≤ q.kind) = decide ((249 : Int) ≤ (q.kind : Int)) := by rw [Bool.eq_iff_iff]; simp; omega
    have f5 : decide (q.kind ≤ 255) = decide ((q.kind : Int) ≤ 255) := by rw [Bool.eq_iff_iff]; simp; omega
    rw [f1, f2, f3, f4, f5]
  rw [hR]
  clear hR hk
  go_enter Tryz.func20, Tryz.ntmps20
  cases b1
  case true => go_wp2_with fail; go_ret; exact ⟨rfl, galloc (grefl _ none) _⟩
  cases b2
  case true => go_wp2_with fail; go_ret; exact ⟨rfl, galloc (grefl _ none) _⟩
  cases b3
  case true => go_wp2_with fail; go_ret; exact ⟨rfl, galloc (grefl _ none) _⟩
  cases b4
  case false => go_wp2_with fail; go_ret; exact ⟨rfl, galloc (grefl _ none) _⟩
  cases b5
  case true => go_wp2_with fail; go_ret; exact ⟨rfl, galloc (grefl _ none) _⟩
  go_wp2_with fail
  go_ret
  exact ⟨rfl, galloc (grefl _ none) _⟩
def hdE (s : ByteArray) : Nat := if s.size < 12 then 4 else 0
def hdH (s : ByteArray) : Hd := if s.size < 12 then hd0 else fromN (num s 0 2) (num s 2 2)
def hdN (s : ByteArray) (i : Nat) : Nat := if s.size < 12 then 0 else num s i 2
theorem hread (s : ByteArray) (w : World) (he : Et w) (hb : Bt w) (hs : s.size ≤ maxLen) : Calls Tryz.prog 18 #[.string s] w fun e w' => e = .returned (.tuple #[(hdH s).v, cv (hdN s 4) (hdN s 6) (hdN s 8) (hdN s 10), .int .i64 (hdE s)]) ∧ w.grownBy w' none := by
  unfold hdH hdE hdN
  by_cases h : s.size < 12
  · simp only [if_pos h]
    exact read_short s w h
  · simp only [if_neg h]
    exact read_ok s w he hb (by omega) hs
set_option maxRecDepth 100000 in
set_option maxHeartbeats 4000000 in
theorem examine_a (w : World) (s : ByteArray) (he : Et w) (hb : Bt w) (hs : s.size ≤ maxLen) (hx : s.size < 12 ∨ (fromN (num s 0 2) (num s 2 2)).qr = true ∨ (fromN (num s 0 2) (num s 2 2)).op ≠ 0) :
    Calls Tryz.prog 11 #[.string s] w fun e w' => e = .returned (exam s).v ∧ w.grownBy w' none := by
  have HE := Lib.hid he
  have HT := Lib.hid hb
  by_cases h12 : s.size < 12
  · rw [show exam s = .drop from if_pos h12]
    have CR := read_short s w h12
    clear he hb hs h12
    go_enter Tryz.func11, Tryz.ntmps11
    go_wp2_with fail
    refine Calls.mono CR ?_
    clear CR
    rintro e w1 ⟨rfl, hg⟩
    simp only [Hd.v, cv, hd0]
    have G := Lib.hid hg
    clear hg
    go_wp2_with fail
    go_ret
    exact ⟨rfl, galloc (galloc G.out _) _⟩
  have CR := read_ok s w he hb (by omega) hs
  have EX := Lib.hid (show exam s = _ from if_neg h12)
  have h12' := h12
  clear he hb hs h12
  generalize fromN (num s 0 2) (num s 2 2) = H at *
  obtain ⟨id, qr, op, aa, tc, rd, ra, z, ad, cd, code⟩ := H
  generalize num s 4 2 = n4 at *
  generalize num s 6 2 = n6 at *
  generalize num s 8 2 = n8 at *
  generalize num s 10 2 = n10 at *
  dsimp only at EX
  cases qr
  case true =>
    rw [EX.out, if_pos rfl]
    clear EX
    go_enter Tryz.func11, Tryz.ntmps11
    go_wp2_with fail
    refine Calls.mono CR ?_
    clear CR
    rintro e w1 ⟨rfl, hg⟩
    simp only [Hd.v, cv]
    have G := Lib.hid hg
    clear hg
    go_wp2_with fail
    go_ret
    exact ⟨rfl, galloc (galloc G.out _) _⟩
  have EX := Lib.hid (EX.out.trans (if_neg (by simp)))
  by_cases ho : op ≠ 0
  case pos =>
    rw [EX.out, if_pos ho]
    clear EX
    have eo : ((op : Int) != 0) = true := by simp; omega
    go_enter Tryz.func11, Tryz.ntmps11
    go_wp2_with fail
    refine Calls.mono CR ?_
    clear CR
    rintro e w1 ⟨rfl, hg⟩
    simp only [Hd.v, cv]
    have G := Lib.hid hg
    clear hg
    have e3 : ((w1.alloc (.cells #[.int .u16 id, .bool false, .int .u8 op, .bool aa, .bool tc, .bool rd, .bool ra, .bool z, .bool ad, .bool cd, .int .u8 code] 25)).alloc (.cells #[.int .i64 n4, .int .i64 n6, .int .i64 n8, .int .i64 n10] 74)).heap.size = (w1.heap.size + 1 + 1) := by simp only [World.size_alloc]
    have BZ := Lib.hid (show (((w1.alloc (.cells #[.int .u16 id, .bool false, .int .u8 op, .bool aa, .bool tc, .bool rd, .bool ra, .bool z, .bool ad, .bool cd, .int .u8 code] 25)).alloc (.cells #[.int .i64 n4, .int .i64 n6, .int .i64 n8, .int .i64 n10] 74)).alloc (.cells #[.int .u8 0, .int .i64 0, .int .u16 0, .bool false, .int .u8 0, .bool false, .bool false, .bool false, .bool false, .bool false, .bool false, .bool false, .int .u8 0, .bool false, .string { data := #[] }, .int .u16 0, .int .u16 0, .bool false, .int .i64 0] 40)).heap[(w1.heap.size + 1 + 1)]? = some (.cells #[.int .u8 0, .int .i64 0, .int .u16 0, .bool false, .int .u8 0, .bool false, .bool false, .bool false, .bool false, .bool false, .bool false, .bool false, .int .u8 0, .bool false, .string { data := #[] }, .int .u16 0, .int .u16 0, .bool false, .int .i64 0] 40) from e3 ▸ balloc ((w1.alloc (.cells #[.int .u16 id, .bool false, .int .u8 op, .bool aa, .bool tc, .bool rd, .bool ra, .bool z, .bool ad, .bool cd, .int .u8 code] 25)).alloc (.cells #[.int .i64 n4, .int .i64 n6, .int .i64 n8, .int .i64 n10] 74)) (.cells #[.int .u8 0, .int .i64 0, .int .u16 0, .bool false, .int .u8 0, .bool false, .bool false, .bool false, .bool false, .bool false, .bool false, .bool false, .int .u8 0, .bool false, .string { data := #[] }, .int .u16 0, .int .u16 0, .bool false, .int .i64 0] 40))
    have BX := Lib.hid (bsetR BZ.out #[.int .u8 0, .int .i64 0, .int .u16 id, .bool false, .int .u8 op, .bool false, .bool false, .bool rd, .bool false, .bool false, .bool false, .bool cd, .int .u8 0, .bool false, .string { data := #[] }, .int .u16 0, .int .u16 0, .bool false, .int .i64 0])
    have G := Lib.hid (gsetRow (galloc (galloc (galloc G.out (.cells #[.int .u16 id, .bool false, .int .u8 op, .bool aa, .bool tc, .bool rd, .bool ra, .bool z, .bool ad, .bool cd, .int .u8 code] 25)) (.cells #[.int .i64 n4, .int .i64 n6, .int .i64 n8, .int .i64 n10] 74)) (.cells #[.int .u8 0, .int .i64 0, .int .u16 0, .bool false, .int .u8 0, .bool false, .bool false, .bool false, .bool false, .bool false, .bool false, .bool false, .int .u8 0, .bool false, .string { data := #[] }, .int .u16 0, .int .u16 0, .bool false, .int .i64 0] 40)) (show w.heap.size ≤ (w1.heap.size + 1 + 1) by have := G.out.size; omega) #[.int .u8 0, .int .i64 0, .int .u16 id, .bool false, .int .u8 op, .bool false, .bool false, .bool rd, .bool false, .bool false, .bool false, .bool cd, .int .u8 0, .bool false, .string { data := #[] }, .int .u16 0, .int .u16 0, .bool false, .int .i64 0])
    have HH1 := Lib.hid (gblock (gsetRs (((w1.alloc (.cells #[.int .u16 id, .bool false, .int .u8 op, .bool aa, .bool tc, .bool rd, .bool ra, .bool z, .bool ad, .bool cd, .int .u8 code] 25)).alloc (.cells #[.int .i64 n4, .int .i64 n6, .int .i64 n8, .int .i64 n10] 74)).alloc (.cells #[.int .u8 0, .int .i64 0, .int .u16 0, .bool false, .int .u8 0, .bool false, .bool false, .bool false, .bool false, .bool false, .bool false, .bool false, .int .u8 0, .bool false, .string { data := #[] }, .int .u16 0, .int .u16 0, .bool false, .int .i64 0] 40)) (w1.heap.size + 1 + 1) #[.int .u8 0, .int .i64 0, .int .u16 id, .bool false, .int .u8 op, .bool false, .bool false, .bool rd, .bool false, .bool false, .bool false, .bool cd, .int .u8 0, .bool false, .string { data := #[] }, .int .u16 0, .int .u16 0, .bool false, .int .i64 0]) (gblock (galloc (galloc (grefl (w1.alloc (.cells #[.int .u16 id, .bool false, .int .u8 op, .bool aa, .bool tc, .bool rd, .bool ra, .bool z, .bool ad, .bool cd, .int .u8 code] 25)) none) (.cells #[.int .i64 n4, .int .i64 n6, .int .i64 n8, .int .i64 n10] 74)) (.cells #[.int .u8 0, .int .i64 0, .int .u16 0, .bool false, .int .u8 0, .bool false, .bool false, .bool false, .bool false, .bool false, .bool false, .bool false, .int .u8 0, .bool false, .string { data := #[] }, .int .u16 0, .int .u16 0, .bool false, .int .i64 0] 40)) (balloc w1 (.cells #[.int .u16 id, .bool false, .int .u8 op, .bool aa, .bool tc, .bool rd, .bool ra, .bool z, .bool ad, .bool cd, .int .u8 code] 25)) (by simp)) (by simp; omega))
    have co : ((((w1.alloc (.cells #[.int .u16 id, .bool false, .int .u8 op, .bool aa, .bool tc, .bool rd, .bool ra, .bool z, .bool ad, .bool cd, .int .u8 code] 25)).alloc (.cells #[.int .i64 n4, .int .i64 n6, .int .i64 n8, .int .i64 n10] 74)).alloc (.cells #[.int .u8 0, .int .i64 0, .int .u16 0, .bool false, .int .u8 0, .bool false, .bool false, .bool false, .bool false, .bool false, .bool false, .bool false, .int .u8 0, .bool false, .string { data := #[] }, .int .u16 0, .int .u16 0, .bool false, .int .i64 0] 40)).setRow (w1.heap.size + 1 + 1) #[.int .u8 0, .int .i64 0, .int .u16 id, .bool false, .int .u8 op, .bool false, .bool false, .bool rd, .bool false, .bool false, .bool false, .bool cd, .int .u8 0, .bool false, .string { data := #[] }, .int .u16 0, .int .u16 0, .bool false, .int .i64 0]).cell? ⟨w1.heap.size, 2, none⟩ = some (.int .u8 op) := bcellAt HH1.out 2
    clear e3 HH1
    go_wp2_with (first | refine wpList_store_row rfl 40 _ _ rfl (w1.heap.size + 1 + 1) #[.int .u8 0, .int .i64 0, .int .u16 id, .bool false, .int .u8 op, .bool false, .bool false, .bool rd, .bool false, .bool false, .bool false, .bool cd, .int .u8 0, .bool false, .string { data := #[] }, .int .u16 0, .int .u16 0, .bool false, .int .i64 0] rfl rfl 40 _ BZ.out (by kernel_rfl) rfl (by kernel_rfl) ?_ | refine wpList_load_row rfl 40 _ rfl (w1.heap.size + 1 + 1) rfl _ _ _ _ BX.out Tryz.underlying40 rfl (by kernel_rfl) ?_)
    go_ret
    exact ⟨rfl, G.out⟩
  rcases hx with h | h | h
  · exact absurd h h12'
  · cases h
  · exact absurd h ho
end Go.Proofs.YtkhigfbmdolgmaaGreatDoor
