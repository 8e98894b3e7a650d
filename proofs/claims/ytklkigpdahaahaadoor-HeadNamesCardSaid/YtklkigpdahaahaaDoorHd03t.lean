/-
  HeadNames: the table, the walk.
-/
import Derived.Test.YtklkigpdahaahaaDoorHd03p
import Derived.Test.YtklkigpdahaahaaDoorRegG
import Derived.Test.YtklkigpdahaahaaDoorHdEq
namespace Go.Proofs.YtklkigpdahaahaaDoor
open Go.RowKit

def tH : Nat → Hd
  | 0 => ⟨0, true, 0, false, false, false, false, false, false, false, 0⟩
  | 1 => ⟨0, false, 15, false, false, false, false, false, false, false, 0⟩
  | 2 => ⟨0, false, 1, false, false, false, false, false, false, false, 0⟩
  | 3 => ⟨0, false, 0, true, false, false, false, false, false, false, 0⟩
  | 4 => ⟨0, false, 0, false, true, false, false, false, false, false, 0⟩
  | 5 => ⟨0, false, 0, false, false, true, false, false, false, false, 0⟩
  | 6 => ⟨0, false, 0, false, false, false, true, false, false, false, 0⟩
  | 7 => ⟨0, false, 0, false, false, false, false, true, false, false, 0⟩
  | 8 => ⟨0, false, 0, false, false, false, false, false, true, false, 0⟩
  | 9 => ⟨0, false, 0, false, false, false, false, false, false, true, 0⟩
  | 10 => ⟨0, false, 0, false, false, false, false, false, false, false, 15⟩
  | _ => ⟨0, false, 0, false, false, false, false, false, false, false, 0⟩
def tN : Nat → Nat
  | 0 => 32768
  | 1 => 30720
  | 2 => 2048
  | 3 => 1024
  | 4 => 512
  | 5 => 256
  | 6 => 128
  | 7 => 64
  | 8 => 32
  | 9 => 16
  | 10 => 15
  | _ => 0
/-- The table as cells. -/
def tbl : Array Value := #[.int .u16 0, .bool true, .int .u8 0, .bool false, .bool false, .bool false, .bool false, .bool false, .bool false, .bool false, .int .u8 0, .int .u16 32768, .int .u16 0, .bool false, .int .u8 15, .bool false, .bool false, .bool false, .bool false, .bool false, .bool false, .bool false, .int .u8 0, .int .u16 30720, .int .u16 0, .bool false, .int .u8 1, .bool false, .bool false, .bool false, .bool false, .bool false, .bool false, .bool false, .int .u8 0, .int .u16 2048, .int .u16 0, .bool false, .int .u8 0, .bool true, .bool false, .bool false, .bool false, .bool false, .bool false, .bool false, .int .u8 0, .int .u16 1024, .int .u16 0, .bool false, .int .u8 0, .bool false, .bool true, .bool false, .bool false, .bool false, .bool false, .bool false, .int .u8 0, .int .u16 512, .int .u16 0, .bool false, .int .u8 0, .bool false, .bool false, .bool true, .bool false, .bool false, .bool false, .bool false, .int .u8 0, .int .u16 256, .int .u16 0, .bool false, .int .u8 0, .bool false, .bool false, .bool false, .bool true, .bool false, .bool false, .bool false, .int .u8 0, .int .u16 128, .int .u16 0, .bool false, .int .u8 0, .bool false, .bool false, .bool false, .bool false, .bool true, .bool false, .bool false, .int .u8 0, .int .u16 64, .int .u16 0, .bool false, .int .u8 0, .bool false, .bool false, .bool false, .bool false, .bool false, .bool true, .bool false, .int .u8 0, .int .u16 32, .int .u16 0, .bool false, .int .u8 0, .bool false, .bool false, .bool false, .bool false, .bool false, .bool false, .bool true, .int .u8 0, .int .u16 16, .int .u16 0, .bool false, .int .u8 0, .bool false, .bool false, .bool false, .bool false, .bool false, .bool false, .bool false, .int .u8 15, .int .u16 15, .int .u16 0, .bool false, .int .u8 0, .bool false, .bool false, .bool false, .bool false, .bool false, .bool false, .bool false, .int .u8 0, .int .u16 0]
theorem lt12 {k : Nat} (h : k < 12) : k = 0 ∨ k = 1 ∨ k = 2 ∨ k = 3 ∨ k = 4 ∨ k = 5 ∨ k = 6 ∨ k = 7 ∨ k = 8 ∨ k = 9 ∨ k = 10 ∨ k = 11 := by omega
set_option maxRecDepth 100000 in
theorem tbl0 (k : Nat) (h : k < 12) : tbl[k * 12]? = some (.int .u16 (tH k).id) := by
  rcases lt12 h with rfl | rfl | rfl | rfl | rfl | rfl | rfl | rfl | rfl | rfl | rfl | rfl <;> rfl
set_option maxRecDepth 100000 in
theorem tbl1 (k : Nat) (h : k < 12) : tbl[k * 12 + 1]? = some (.bool (tH k).qr) := by
  rcases lt12 h with rfl | rfl | rfl | rfl | rfl | rfl | rfl | rfl | rfl | rfl | rfl | rfl <;> rfl
set_option maxRecDepth 100000 in
theorem tbl2 (k : Nat) (h : k < 12) : tbl[k * 12 + 2]? = some (.int .u8 (tH k).op) := by
  rcases lt12 h with rfl | rfl | rfl | rfl | rfl | rfl | rfl | rfl | rfl | rfl | rfl | rfl <;> rfl
set_option maxRecDepth 100000 in
theorem tbl3 (k : Nat) (h : k < 12) : tbl[k * 12 + 3]? = some (.bool (tH k).aa) := by
  rcases lt12 h with rfl | rfl | rfl | rfl | rfl | rfl | rfl | rfl | rfl | rfl | rfl | rfl <;> rfl
set_option maxRecDepth 100000 in
theorem tbl4 (k : Nat) (h : k < 12) : tbl[k * 12 + 4]? = some (.bool (tH k).tc) := by
  rcases lt12 h with rfl | rfl | rfl | rfl | rfl | rfl | rfl | rfl | rfl | rfl | rfl | rfl <;> rfl
set_option maxRecDepth 100000 in
theorem tbl5 (k : Nat) (h : k < 12) : tbl[k * 12 + 5]? = some (.bool (tH k).rd) := by
  rcases lt12 h with rfl | rfl | rfl | rfl | rfl | rfl | rfl | rfl | rfl | rfl | rfl | rfl <;> rfl
set_option maxRecDepth 100000 in
theorem tbl6 (k : Nat) (h : k < 12) : tbl[k * 12 + 6]? = some (.bool (tH k).ra) := by
  rcases lt12 h with rfl | rfl | rfl | rfl | rfl | rfl | rfl | rfl | rfl | rfl | rfl | rfl <;> rfl
set_option maxRecDepth 100000 in
theorem tbl7 (k : Nat) (h : k < 12) : tbl[k * 12 + 7]? = some (.bool (tH k).z) := by
  rcases lt12 h with rfl | rfl | rfl | rfl | rfl | rfl | rfl | rfl | rfl | rfl | rfl | rfl <;> rfl
set_option maxRecDepth 100000 in
theorem tbl8 (k : Nat) (h : k < 12) : tbl[k * 12 + 8]? = some (.bool (tH k).ad) := by
  rcases lt12 h with rfl | rfl | rfl | rfl | rfl | rfl | rfl | rfl | rfl | rfl | rfl | rfl <;> rfl
set_option maxRecDepth 100000 in
theorem tbl9 (k : Nat) (h : k < 12) : tbl[k * 12 + 9]? = some (.bool (tH k).cd) := by
  rcases lt12 h with rfl | rfl | rfl | rfl | rfl | rfl | rfl | rfl | rfl | rfl | rfl | rfl <;> rfl
set_option maxRecDepth 100000 in
theorem tbl10 (k : Nat) (h : k < 12) : tbl[k * 12 + 10]? = some (.int .u8 (tH k).code) := by
  rcases lt12 h with rfl | rfl | rfl | rfl | rfl | rfl | rfl | rfl | rfl | rfl | rfl | rfl <;> rfl
set_option maxRecDepth 100000 in
theorem tbl11 (k : Nat) (h : k < 12) : tbl[k * 12 + 11]? = some (.int .u16 (tN k)) := by
  rcases lt12 h with rfl | rfl | rfl | rfl | rfl | rfl | rfl | rfl | rfl | rfl | rfl | rfl <;> rfl
theorem t_good (k : Nat) (h : k < 12) : ¬ (tH k).bad := by
  rcases lt12 h with rfl | rfl | rfl | rfl | rfl | rfl | rfl | rfl | rfl | rfl | rfl | rfl <;> decide
theorem t_fl (k : Nat) (h : k < 12) : flagsN (tH k) = tN k := by
  rcases lt12 h with rfl | rfl | rfl | rfl | rfl | rfl | rfl | rfl | rfl | rfl | rfl | rfl <;> rfl
theorem t_id (k : Nat) (h : k < 12) : (tH k).id = 0 := by
  rcases lt12 h with rfl | rfl | rfl | rfl | rfl | rfl | rfl | rfl | rfl | rfl | rfl | rfl <;> rfl
theorem t_lt (k : Nat) (h : k < 12) : tN k < 65536 := by
  rcases lt12 h with rfl | rfl | rfl | rfl | rfl | rfl | rfl | rfl | rfl | rfl | rfl | rfl <;> decide
theorem t_wr (k : Nat) (h : k < 12) : wrL (tH k) 0 65535 256 1 = [0, 0, UInt8.ofNat (tN k / 256 % 256), UInt8.ofNat (tN k % 256), 0, 0, 255, 255, 1, 0, 0, 1] := by
  rcases lt12 h with rfl | rfl | rfl | rfl | rfl | rfl | rfl | rfl | rfl | rfl | rfl | rfl <;> rfl
theorem t_flags (k : Nat) (h : k < 12) (w : World) (hb : Bt w) : Calls Tryd.prog 14 #[(tH k).v] w fun e w' => e = .returned (.tuple #[.int .u16 (tN k), .int .i64 0]) ∧ w.grownBy w' none := by
  have e := flags_good (tH k) (t_good k h) w hb
  rw [t_fl k h] at e
  exact e
theorem t_from (k : Nat) (h : k < 12) (w : World) (hb : Bt w) : Calls Tryd.prog 13 #[.int .u16 (tN k)] w fun e w' => e = .returned (tH k).v ∧ w.grownBy w' none := by
  have e := from_any (tN k) (t_lt k h) w hb
  rw [← t_fl k h, from_id _ (t_good k h), ← t_id k h] at e
  rw [← t_fl k h]
  exact e
theorem t_write (k : Nat) (h : k < 12) (w : World) (hb : Bt w) : Calls Tryd.prog 15 #[(tH k).v, cv 0 65535 256 1] w fun e w' => e = .returned (.tuple #[.string ⟨#[0, 0, UInt8.ofNat (tN k / 256 % 256), UInt8.ofNat (tN k % 256), 0, 0, 255, 255, 1, 0, 0, 1]⟩, .int .i64 0]) ∧ w.grownBy w' none := by
  have e := write_good (tH k) 0 65535 256 1 (by rw [t_id k h]; omega) ⟨t_good k h, by omega, by omega, by omega, by omega⟩ w hb
  rw [t_wr k h] at e
  exact e
theorem t_cells (n : Nat) : [Value.int .u8 0, .int .u8 0, .int .u8 ((n : Int) / 256 % 256), .int .u8 ((n : Int) % 256), .int .u8 0, .int .u8 0, .int .u8 255, .int .u8 255, .int .u8 1, .int .u8 0, .int .u8 0, .int .u8 1] = bv [0, 0, UInt8.ofNat (n / 256 % 256), UInt8.ofNat (n % 256), 0, 0, 255, 255, 1, 0, 0, 1] := by
  simp only [bv, List.map_cons, List.map_nil]
  rw [← cell_byte _ (n / 256) rfl, ← cell_byte _ n rfl]
  rfl

set_option maxHeartbeats 8000000 in
set_option maxRecDepth 100000 in
theorem hnames_walk (w : World) (he : Et w) (hb : Bt w) : Calls Tryd.prog 6 #[] w fun e w' => e = .returned (.bool true) ∧ w.grownBy w' none := by
  have HE := Lib.hid he
  have HB := Lib.hid hb
  have ce := counts_eq
  clear he hb
  go_enter Tryd.func6, Tryd.ntmps6
  have GR0 := Lib.hid (grefl w none)
  go_wp2_with fail
  refine Calls.mono (awake03 _ (HE.out.kept (GR0.out) (by simp)) (HB.out.kept (GR0.out) (by simp))) ?_
  rintro e w1 ⟨rfl, hg⟩
  have GR1 := Lib.hid (gtrans GR0.out (hg))
  clear hg GR0
  go_wp2_with fail
  have hg := galloc (grefl w1 none) (.cells tbl 38)
  have TB0 := Lib.hid (balloc w1 (.cells tbl 38))
  have GB := Lib.hid (gtrans GR1.out hg)
  clear hg
  go_loopw [48] (fun i wr => ∃ k : Nat, k ≤ 12 ∧ i = .int .i64 k ∧ w.grownBy wr none ∧ wr.heap[w1.heap.size]? = some (.cells tbl 38 (0, 0))) (fun i _ => 12 - (intOf i).toNat)
  case atStart => exact ⟨0, by omega, rfl, GB.out, TB0.out⟩
  case round =>
    obtain ⟨k, hk, rfl, hgr, htb⟩ := hrel
    have TB1 := Lib.hid htb
    have GB1 := Lib.hid hgr
    clear htb hgr GB TB0 GR1
    by_cases hlt : k < 12
    · have tc0 : wr.cell? ⟨w1.heap.size, k * 12, none⟩ = some (.int .u16 (tH k).id) := (bcellAt TB1.out _).trans (tbl0 k hlt)
      have tc1 : wr.cell? ⟨w1.heap.size, k * 12 + 1, none⟩ = some (.bool (tH k).qr) := (bcellAt TB1.out _).trans (tbl1 k hlt)
      have tc2 : wr.cell? ⟨w1.heap.size, k * 12 + 2, none⟩ = some (.int .u8 (tH k).op) := (bcellAt TB1.out _).trans (tbl2 k hlt)
      have tc3 : wr.cell? ⟨w1.heap.size, k * 12 + 3, none⟩ = some (.bool (tH k).aa) := (bcellAt TB1.out _).trans (tbl3 k hlt)
      have tc4 : wr.cell? ⟨w1.heap.size, k * 12 + 4, none⟩ = some (.bool (tH k).tc) := (bcellAt TB1.out _).trans (tbl4 k hlt)
      have tc5 : wr.cell? ⟨w1.heap.size, k * 12 + 5, none⟩ = some (.bool (tH k).rd) := (bcellAt TB1.out _).trans (tbl5 k hlt)
      have tc6 : wr.cell? ⟨w1.heap.size, k * 12 + 6, none⟩ = some (.bool (tH k).ra) := (bcellAt TB1.out _).trans (tbl6 k hlt)
      have tc7 : wr.cell? ⟨w1.heap.size, k * 12 + 7, none⟩ = some (.bool (tH k).z) := (bcellAt TB1.out _).trans (tbl7 k hlt)
      have tc8 : wr.cell? ⟨w1.heap.size, k * 12 + 8, none⟩ = some (.bool (tH k).ad) := (bcellAt TB1.out _).trans (tbl8 k hlt)
      have tc9 : wr.cell? ⟨w1.heap.size, k * 12 + 9, none⟩ = some (.bool (tH k).cd) := (bcellAt TB1.out _).trans (tbl9 k hlt)
      have tc10 : wr.cell? ⟨w1.heap.size, k * 12 + 10, none⟩ = some (.int .u8 (tH k).code) := (bcellAt TB1.out _).trans (tbl10 k hlt)
      have tc11 : wr.cell? ⟨w1.heap.size, k * 12 + 11, none⟩ = some (.int .u16 (tN k)) := (bcellAt TB1.out _).trans (tbl11 k hlt)
      have q0 : (0 : Int) ≤ (k : Int) := by omega
      have q1 : (k : Int) < 12 := by omega
      have HK := Lib.hid hlt
      go_wp2_with fail
      refine Calls.mono (t_flags k HK.out _ (HB.out.kept (galloc (GB1.out) _) (by simp))) ?_
      rintro e w2 ⟨rfl, hg⟩
      have GR2 := Lib.hid (gtrans GB1.out (gfr1 (hg)))
      have TB_2 := Lib.hid (gblock (gfr1 (hg)) TB1.out (by simp))
      have X_2 := Lib.hid (gblock hg (balloc1_0 wr (.cells #[.int .u16 (tH k).id, .bool (tH k).qr, .int .u8 (tH k).op, .bool (tH k).aa, .bool (tH k).tc, .bool (tH k).rd, .bool (tH k).ra, .bool (tH k).z, .bool (tH k).ad, .bool (tH k).cd, .int .u8 (tH k).code, .int .u16 (tN k)] 38)) (by simp))
      clear hg GB1 TB1 tc0 tc1 tc2 tc3 tc4 tc5 tc6 tc7 tc8 tc9 tc10 tc11
      have c_X_0 : w2.cell? ⟨wr.heap.size, 0, none⟩ = some (.int .u16 (tH k).id) := bcellAt X_2.out 0
      have c_X_1 : w2.cell? ⟨wr.heap.size, 1, none⟩ = some (.bool (tH k).qr) := bcellAt X_2.out 1
      have c_X_2 : w2.cell? ⟨wr.heap.size, 2, none⟩ = some (.int .u8 (tH k).op) := bcellAt X_2.out 2
      have c_X_3 : w2.cell? ⟨wr.heap.size, 3, none⟩ = some (.bool (tH k).aa) := bcellAt X_2.out 3
      have c_X_4 : w2.cell? ⟨wr.heap.size, 4, none⟩ = some (.bool (tH k).tc) := bcellAt X_2.out 4
      have c_X_5 : w2.cell? ⟨wr.heap.size, 5, none⟩ = some (.bool (tH k).rd) := bcellAt X_2.out 5
      have c_X_6 : w2.cell? ⟨wr.heap.size, 6, none⟩ = some (.bool (tH k).ra) := bcellAt X_2.out 6
      have c_X_7 : w2.cell? ⟨wr.heap.size, 7, none⟩ = some (.bool (tH k).z) := bcellAt X_2.out 7
      have c_X_8 : w2.cell? ⟨wr.heap.size, 8, none⟩ = some (.bool (tH k).ad) := bcellAt X_2.out 8
      have c_X_9 : w2.cell? ⟨wr.heap.size, 9, none⟩ = some (.bool (tH k).cd) := bcellAt X_2.out 9
      have c_X_10 : w2.cell? ⟨wr.heap.size, 10, none⟩ = some (.int .u8 (tH k).code) := bcellAt X_2.out 10
      have c_X_11 : w2.cell? ⟨wr.heap.size, 11, none⟩ = some (.int .u16 (tN k)) := bcellAt X_2.out 11
      have l_X : wr.heap.size < w2.heap.size := blt X_2.out
      go_wp2_with fail
      refine Calls.mono (t_write k HK.out _ (HB.out.kept (GR2.out) (by simp))) ?_
      rintro e w3 ⟨rfl, hg⟩
      have GR3 := Lib.hid (gtrans GR2.out (hg))
      have TB_3 := Lib.hid (gblock (hg) TB_2.out (by simp))
      have X_3 := Lib.hid (gblock (hg) X_2.out (by simp))
      clear hg GR2 TB_2 X_2 c_X_0 c_X_1 c_X_2 c_X_3 c_X_4 c_X_5 c_X_6 c_X_7 c_X_8 c_X_9 c_X_10 c_X_11 l_X
      go_wp2_with fail
      refine wp_region_segs [(true, [0, 1, 2, 3, 4, 5, 6, 7, 8, 9, 10, 12, 13]), (false, [11]), (true, [14, 15, 16, 17, 18, 19, 20, 21, 22, 23, 24, 25, 26, 27, 28]), (false, [29]), (true, [30, 31, 32])] (by kernel_rfl) (by kernel_rfl) ?_
      have hg : w3.grownBy w3.drew none := gdrew (grefl _ none)
      have GR4 := Lib.hid (gtrans GR3.out (hg))
      have TB_4 := Lib.hid (gblock (hg) TB_3.out (by simp))
      have X_4 := Lib.hid (gblock (hg) X_3.out (by simp))
      clear hg GR3 TB_3 X_3
      generalize w3.drew = w4 at *
      have c_X_0 : ∀ g : Gr w4, g.w.cell? ⟨wr.heap.size, 0, none⟩ = some (.int .u16 (tH k).id) := Gr.cell (bcellAt X_4.out 0)
      have c_X_1 : ∀ g : Gr w4, g.w.cell? ⟨wr.heap.size, 1, none⟩ = some (.bool (tH k).qr) := Gr.cell (bcellAt X_4.out 1)
      have c_X_2 : ∀ g : Gr w4, g.w.cell? ⟨wr.heap.size, 2, none⟩ = some (.int .u8 (tH k).op) := Gr.cell (bcellAt X_4.out 2)
      have c_X_3 : ∀ g : Gr w4, g.w.cell? ⟨wr.heap.size, 3, none⟩ = some (.bool (tH k).aa) := Gr.cell (bcellAt X_4.out 3)
      have c_X_4 : ∀ g : Gr w4, g.w.cell? ⟨wr.heap.size, 4, none⟩ = some (.bool (tH k).tc) := Gr.cell (bcellAt X_4.out 4)
      have c_X_5 : ∀ g : Gr w4, g.w.cell? ⟨wr.heap.size, 5, none⟩ = some (.bool (tH k).rd) := Gr.cell (bcellAt X_4.out 5)
      have c_X_6 : ∀ g : Gr w4, g.w.cell? ⟨wr.heap.size, 6, none⟩ = some (.bool (tH k).ra) := Gr.cell (bcellAt X_4.out 6)
      have c_X_7 : ∀ g : Gr w4, g.w.cell? ⟨wr.heap.size, 7, none⟩ = some (.bool (tH k).z) := Gr.cell (bcellAt X_4.out 7)
      have c_X_8 : ∀ g : Gr w4, g.w.cell? ⟨wr.heap.size, 8, none⟩ = some (.bool (tH k).ad) := Gr.cell (bcellAt X_4.out 8)
      have c_X_9 : ∀ g : Gr w4, g.w.cell? ⟨wr.heap.size, 9, none⟩ = some (.bool (tH k).cd) := Gr.cell (bcellAt X_4.out 9)
      have c_X_10 : ∀ g : Gr w4, g.w.cell? ⟨wr.heap.size, 10, none⟩ = some (.int .u8 (tH k).code) := Gr.cell (bcellAt X_4.out 10)
      have c_X_11 : ∀ g : Gr w4, g.w.cell? ⟨wr.heap.size, 11, none⟩ = some (.int .u16 (tN k)) := Gr.cell (bcellAt X_4.out 11)
      refine wpSegs_quiet rfl ?_
      simp only [List.filterMap_cons, List.filterMap_nil, List.getElem?_toArray, List.getElem?_cons_succ, List.getElem?_cons_zero]
      show wpQuiet _ _ _ _ [_, _, _, _, _, _, _, _, _, _, _, _, _] _
      repeat (go_big_quiet_step (fail))
      refine wpQuiet_nil ?_
      clear c_X_0 c_X_1 c_X_2 c_X_3 c_X_4 c_X_5 c_X_6 c_X_7 c_X_8 c_X_9 c_X_10 c_X_11
      refine wpSegs_one (by simp only [List.getElem?_toArray, List.getElem?_cons_succ, List.getElem?_cons_zero]; exact rfl) ?_
      go_wp2_with fail
      refine Calls.mono (t_from k HK.out _ (HB.out.kept (GR4.out) (by simp))) ?_
      rintro e w5 ⟨rfl, hg⟩
      have HGK := Lib.hid hg
      have GR5 := Lib.hid (gtrans GR4.out (hg))
      have TB_5 := Lib.hid (gblock (hg) TB_4.out (by simp))
      have X_5 := Lib.hid (gblock (hg) X_4.out (by simp))
      clear hg GR4 TB_4 X_4
      go_wp2_with fail
      refine ⟨HGK.out, ?_⟩
      clear HGK
      simp only [Hd.v]
      have c_X_0 : ∀ g : Gr w5, g.w.cell? ⟨wr.heap.size, 0, none⟩ = some (.int .u16 (tH k).id) := Gr.cell (bcellAt X_5.out 0)
      have c_X_1 : ∀ g : Gr w5, g.w.cell? ⟨wr.heap.size, 1, none⟩ = some (.bool (tH k).qr) := Gr.cell (bcellAt X_5.out 1)
      have c_X_2 : ∀ g : Gr w5, g.w.cell? ⟨wr.heap.size, 2, none⟩ = some (.int .u8 (tH k).op) := Gr.cell (bcellAt X_5.out 2)
      have c_X_3 : ∀ g : Gr w5, g.w.cell? ⟨wr.heap.size, 3, none⟩ = some (.bool (tH k).aa) := Gr.cell (bcellAt X_5.out 3)
      have c_X_4 : ∀ g : Gr w5, g.w.cell? ⟨wr.heap.size, 4, none⟩ = some (.bool (tH k).tc) := Gr.cell (bcellAt X_5.out 4)
      have c_X_5 : ∀ g : Gr w5, g.w.cell? ⟨wr.heap.size, 5, none⟩ = some (.bool (tH k).rd) := Gr.cell (bcellAt X_5.out 5)
      have c_X_6 : ∀ g : Gr w5, g.w.cell? ⟨wr.heap.size, 6, none⟩ = some (.bool (tH k).ra) := Gr.cell (bcellAt X_5.out 6)
      have c_X_7 : ∀ g : Gr w5, g.w.cell? ⟨wr.heap.size, 7, none⟩ = some (.bool (tH k).z) := Gr.cell (bcellAt X_5.out 7)
      have c_X_8 : ∀ g : Gr w5, g.w.cell? ⟨wr.heap.size, 8, none⟩ = some (.bool (tH k).ad) := Gr.cell (bcellAt X_5.out 8)
      have c_X_9 : ∀ g : Gr w5, g.w.cell? ⟨wr.heap.size, 9, none⟩ = some (.bool (tH k).cd) := Gr.cell (bcellAt X_5.out 9)
      have c_X_10 : ∀ g : Gr w5, g.w.cell? ⟨wr.heap.size, 10, none⟩ = some (.int .u8 (tH k).code) := Gr.cell (bcellAt X_5.out 10)
      have c_X_11 : ∀ g : Gr w5, g.w.cell? ⟨wr.heap.size, 11, none⟩ = some (.int .u16 (tN k)) := Gr.cell (bcellAt X_5.out 11)
      refine wpSegs_quiet rfl ?_
      simp only [List.filterMap_cons, List.filterMap_nil, List.getElem?_toArray, List.getElem?_cons_succ, List.getElem?_cons_zero]
      show wpQuiet _ _ _ _ [_, _, _, _, _, _, _, _, _, _, _, _, _, _, _] _
      repeat (go_big_quiet_step (fail))
      refine wpQuiet_nil ?_
      clear c_X_0 c_X_1 c_X_2 c_X_3 c_X_4 c_X_5 c_X_6 c_X_7 c_X_8 c_X_9 c_X_10 c_X_11
      refine wpSegs_one (by simp only [List.getElem?_toArray, List.getElem?_cons_succ, List.getElem?_cons_zero]; exact rfl) ?_
      go_wp2_with fail
      refine ⟨galloc (grefl _ none) _, ?_⟩
      have SB := Lib.hid (sl_new w5 5 [0, 0, UInt8.ofNat (tN k / 256 % 256), UInt8.ofNat (tN k % 256), 0, 0, 255, 255, 1, 0, 0, 1] #[.int .u8 0, .int .u8 0, .int .u8 ((tN k : Int) / 256 % 256), .int .u8 ((tN k : Int) % 256), .int .u8 0, .int .u8 0, .int .u8 255, .int .u8 255, .int .u8 1, .int .u8 0, .int .u8 0, .int .u8 1] 12 (t_cells (tN k)) rfl)
      have hg : (w5.alloc (.cells #[.int .u8 0, .int .u8 0, .int .u8 ((tN k : Int) / 256 % 256), .int .u8 ((tN k : Int) % 256), .int .u8 0, .int .u8 0, .int .u8 255, .int .u8 255, .int .u8 1, .int .u8 0, .int .u8 0, .int .u8 1] 5)).grownBy (w5.alloc (.cells #[.int .u8 0, .int .u8 0, .int .u8 ((tN k : Int) / 256 % 256), .int .u8 ((tN k : Int) % 256), .int .u8 0, .int .u8 0, .int .u8 255, .int .u8 255, .int .u8 1, .int .u8 0, .int .u8 0, .int .u8 1] 5)) none := grefl _ none
      have GR6 := Lib.hid (gtrans GR5.out (gfr1 (hg)))
      have TB_6 := Lib.hid (gblock (gfr1 (hg)) TB_5.out (by simp))
      have X_6 := Lib.hid (gblock (gfr1 (hg)) X_5.out (by simp))
      have SB_6 := Lib.hid (gblock hg (balloc1_0 w5 (.cells #[.int .u8 0, .int .u8 0, .int .u8 ((tN k : Int) / 256 % 256), .int .u8 ((tN k : Int) % 256), .int .u8 0, .int .u8 0, .int .u8 255, .int .u8 255, .int .u8 1, .int .u8 0, .int .u8 0, .int .u8 1] 5)) (by simp))
      clear hg GR5 TB_5 X_5
      generalize w5.alloc (.cells #[.int .u8 0, .int .u8 0, .int .u8 ((tN k : Int) / 256 % 256), .int .u8 ((tN k : Int) % 256), .int .u8 0, .int .u8 0, .int .u8 255, .int .u8 255, .int .u8 1, .int .u8 0, .int .u8 0, .int .u8 1] 5) = w6 at *
      clear SB_6
      have hcv : ∀ g : Gr w6, _ := fun g => run_string_of (P := Tryd.prog) g.w 45 9 5 Tryd.underlying45 Tryd.underlying5 Tryd.underlying9 (SB.out.kept0 g.h)
      have c_X_0 : ∀ g : Gr w6, g.w.cell? ⟨wr.heap.size, 0, none⟩ = some (.int .u16 (tH k).id) := Gr.cell (bcellAt X_6.out 0)
      have c_X_1 : ∀ g : Gr w6, g.w.cell? ⟨wr.heap.size, 1, none⟩ = some (.bool (tH k).qr) := Gr.cell (bcellAt X_6.out 1)
      have c_X_2 : ∀ g : Gr w6, g.w.cell? ⟨wr.heap.size, 2, none⟩ = some (.int .u8 (tH k).op) := Gr.cell (bcellAt X_6.out 2)
      have c_X_3 : ∀ g : Gr w6, g.w.cell? ⟨wr.heap.size, 3, none⟩ = some (.bool (tH k).aa) := Gr.cell (bcellAt X_6.out 3)
      have c_X_4 : ∀ g : Gr w6, g.w.cell? ⟨wr.heap.size, 4, none⟩ = some (.bool (tH k).tc) := Gr.cell (bcellAt X_6.out 4)
      have c_X_5 : ∀ g : Gr w6, g.w.cell? ⟨wr.heap.size, 5, none⟩ = some (.bool (tH k).rd) := Gr.cell (bcellAt X_6.out 5)
      have c_X_6 : ∀ g : Gr w6, g.w.cell? ⟨wr.heap.size, 6, none⟩ = some (.bool (tH k).ra) := Gr.cell (bcellAt X_6.out 6)
      have c_X_7 : ∀ g : Gr w6, g.w.cell? ⟨wr.heap.size, 7, none⟩ = some (.bool (tH k).z) := Gr.cell (bcellAt X_6.out 7)
      have c_X_8 : ∀ g : Gr w6, g.w.cell? ⟨wr.heap.size, 8, none⟩ = some (.bool (tH k).ad) := Gr.cell (bcellAt X_6.out 8)
      have c_X_9 : ∀ g : Gr w6, g.w.cell? ⟨wr.heap.size, 9, none⟩ = some (.bool (tH k).cd) := Gr.cell (bcellAt X_6.out 9)
      have c_X_10 : ∀ g : Gr w6, g.w.cell? ⟨wr.heap.size, 10, none⟩ = some (.int .u8 (tH k).code) := Gr.cell (bcellAt X_6.out 10)
      have c_X_11 : ∀ g : Gr w6, g.w.cell? ⟨wr.heap.size, 11, none⟩ = some (.int .u16 (tN k)) := Gr.cell (bcellAt X_6.out 11)
      refine wpSegs_quiet rfl ?_
      simp only [List.filterMap_cons, List.filterMap_nil, List.getElem?_toArray, List.getElem?_cons_succ, List.getElem?_cons_zero]
      show wpQuiet _ _ _ _ [_, _, _] _
      repeat (go_big_quiet_step (fail))
      refine wpQuiet_nil ?_
      clear c_X_0 c_X_1 c_X_2 c_X_3 c_X_4 c_X_5 c_X_6 c_X_7 c_X_8 c_X_9 c_X_10 c_X_11
      refine wpSegs_done ?_
      clear hcv SB
      clear X_6
      go_wp2_with fail
      go_roundw
      case rel => exact ⟨k + 1, by omega, by go_num, GR6.out, TB_6.out⟩
      case measure => simp [intOf]; omega
    · clear TB1
      go_wp2_with fail
      refine Calls.mono (flags_lit ⟨0, false, 16, false, false, false, false, false, false, false, 0⟩ _ 0 1 _ (HB.out.kept (GB1.out) (by simp)) rfl (by kernel_rfl) (by kernel_rfl)) ?_
      rintro e v1 ⟨rfl, hg⟩
      have GR1 := Lib.hid (gtrans GB1.out (hg))
      clear hg GB1
      go_wp2_with fail
      refine Calls.mono (flags_lit ⟨0, false, 0, false, false, false, false, false, false, false, 16⟩ _ 0 1 _ (HB.out.kept (GR1.out) (by simp)) rfl (by kernel_rfl) (by kernel_rfl)) ?_
      rintro e v2 ⟨rfl, hg⟩
      have GR2 := Lib.hid (gtrans GR1.out (hg))
      clear hg GR1
      go_wp2_with fail
      refine Calls.mono (write_no ⟨0, false, 0, false, false, false, false, false, false, false, 255⟩ 0 0 0 0 (by decide) (by decide) _ (HB.out.kept (GR2.out) (by simp))) ?_
      rintro e v3 ⟨rfl, hg⟩
      have GR3 := Lib.hid (gtrans GR2.out (hg))
      clear hg GR2
      go_wp2_with fail
      refine Calls.mono (write_no ⟨0, false, 0, false, false, false, false, false, false, false, 0⟩ 0 0 0 65536 (by decide) (by decide) _ (HB.out.kept (GR3.out) (by simp))) ?_
      rintro e v4 ⟨rfl, hg⟩
      have GR4 := Lib.hid (gtrans GR3.out (hg))
      clear hg GR3
      go_wp2_with fail
      refine Calls.mono (write_no ⟨0, false, 0, false, false, false, false, false, false, false, 0⟩ (-1) 0 0 0 (by decide) (by decide) _ (HB.out.kept (GR4.out) (by simp))) ?_
      rintro e v5 ⟨rfl, hg⟩
      have GR5 := Lib.hid (gtrans GR4.out (hg))
      clear hg GR4
      go_wp2_with fail
      refine Calls.mono (read_short _ _ (by decide)) ?_
      rintro e v6 ⟨rfl, hg⟩
      have GR6 := Lib.hid (gtrans GR5.out (hg))
      clear hg GR5
      simp only [Hd.v, hd0, cv]
      go_wp2_with fail
      go_ret
      exact ⟨rfl, by first | exact GR6.out | exact galloc GR6.out _ | exact galloc (galloc GR6.out _) _ | exact galloc (galloc (galloc GR6.out _) _) _⟩
end Go.Proofs.YtklkigpdahaahaaDoor
