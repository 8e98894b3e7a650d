/-
  Intake: how much room a reply has; a reply by a code.
-/
import Derived.Test.YtoncjhjnmomecaaDoorIkC
import Derived.Test.YtoncjhjnmomecaaDoorIkF
import Derived.Test.YtoncjhjnmomecaaDoorIkO
namespace Go.Proofs.YtoncjhjnmomecaaDoor
open Go.RowKit

theorem Cm.v_val (c : Cm) : c.v = c.val := rfl
theorem room_no (c : Cm) (most : Int) (h : c.hasE = false) : room c most = 512 := by unfold room; rw [h]; simp
theorem room_low (c : Cm) (most : Int) (h : c.size ≤ 512) : room c most = 512 := by unfold room; rw [if_neg (by omega)]
theorem room_min (c : Cm) (most : Int) (h : c.hasE = true) (hs : ¬ c.size ≤ 512) : room c most = min c.size (max most 512) := by unfold room; rw [if_pos ⟨h, by omega⟩]
set_option maxRecDepth 100000 in
set_option maxHeartbeats 2000000 in
theorem room_any (w : World) (c : Cm) (most : Int) : Calls Tryd.prog 7 #[c.val, .int .i64 most] w fun e w' => e = .returned (.int .i64 (room c most)) ∧ w.grownBy w' none := by
  have R1 := Lib.hid (room_no c most)
  have R2 := Lib.hid (room_low c most)
  have R3 := Lib.hid (room_min c most)
  obtain ⟨rv, er⟩ : ∃ r, room c most = r := ⟨_, rfl⟩
  rw [er] at R1 R2 R3 ⊢
  clear er
  obtain ⟨kind, num, ⟨id, qr, op, aa, tc, rd, ra, z, ad, cd, code⟩, hasQ, ⟨qn, qk, qc⟩, hasE, size⟩ := c
  dsimp only at R1 R2 R3
  have HX := Lib.hid (balloc w (.cells #[.int .u8 kind, .int .i64 num, .int .u16 id, .bool qr, .int .u8 op, .bool aa, .bool tc, .bool rd, .bool ra, .bool z, .bool ad, .bool cd, .int .u8 code, .bool hasQ, .string qn, .int .u16 qk, .int .u16 qc, .bool hasE, .int .i64 size] 28))
  have G := Lib.hid (galloc (grefl w none) (.cells #[.int .u8 kind, .int .i64 num, .int .u16 id, .bool qr, .int .u8 op, .bool aa, .bool tc, .bool rd, .bool ra, .bool z, .bool ad, .bool cd, .int .u8 code, .bool hasQ, .string qn, .int .u16 qk, .int .u16 qc, .bool hasE, .int .i64 size] 28))
  obtain ⟨b1, e1⟩ : ∃ b, decide (most < 512) = b := ⟨_, rfl⟩
  obtain ⟨b2, e2⟩ : ∃ b, decide (size ≤ 512) = b := ⟨_, rfl⟩
  have c17 := bcellAt HX.out 17
  have c18 := bcellAt HX.out 18
  unfold Cm.val
  dsimp only
  go_enter Tryd.func7, Tryd.ntmps7
  cases hasE
  case false =>
    rw [R1.out rfl]
    cases b1
    case true => go_wp2_with fail; go_ret; exact ⟨rfl, G.out⟩
    case false => go_wp2_with fail; go_ret; exact ⟨rfl, G.out⟩
  cases b2
  case true =>
    rw [R2.out (of_decide_eq_true e2)]
    cases b1
    case true => go_wp2_with fail; go_ret; exact ⟨rfl, G.out⟩
    case false => go_wp2_with fail; go_ret; exact ⟨rfl, G.out⟩
  rw [R3.out rfl (of_decide_eq_false e2)]
  cases b1
  case true =>
    have hm : max most 512 = 512 := by have := of_decide_eq_true e1; omega
    rw [hm]
    go_wp2_with fail; all_goals (go_ret; exact ⟨by first | (rw [Int.min_eq_right (by have := of_decide_eq_false e2; omega)]; rfl) | (rw [Int.min_eq_left (by have := of_decide_eq_false e2; omega)]; rfl), G.out⟩)
  case false =>
    have hm : max most 512 = most := by have := of_decide_eq_false e1; omega
    rw [hm]
    go_wp2_with fail; all_goals (go_ret; exact ⟨by first | (rw [Int.min_eq_right (by have := of_decide_eq_false e2; omega)]; rfl) | (rw [Int.min_eq_left (by have := of_decide_eq_false e2; omega)]; rfl), G.out⟩)
set_option maxRecDepth 100000 in
set_option maxHeartbeats 2000000 in
theorem rroom_any (w : World) (c : Cm) (most : Int) : Calls Tryd.prog 9 #[c.val, .int .i64 most] w fun e w' => e = .returned (.int .i64 (room c most)) ∧ w.grownBy w' none := by
  have R1 := Lib.hid (room_no c most)
  have R2 := Lib.hid (room_low c most)
  have R3 := Lib.hid (room_min c most)
  obtain ⟨rv, er⟩ : ∃ r, room c most = r := ⟨_, rfl⟩
  rw [er] at R1 R2 R3 ⊢
  clear er
  obtain ⟨kind, num, ⟨id, qr, op, aa, tc, rd, ra, z, ad, cd, code⟩, hasQ, ⟨qn, qk, qc⟩, hasE, size⟩ := c
  dsimp only at R1 R2 R3
  have HX := Lib.hid (balloc w (.cells #[.int .u8 kind, .int .i64 num, .int .u16 id, .bool qr, .int .u8 op, .bool aa, .bool tc, .bool rd, .bool ra, .bool z, .bool ad, .bool cd, .int .u8 code, .bool hasQ, .string qn, .int .u16 qk, .int .u16 qc, .bool hasE, .int .i64 size] 32))
  have G := Lib.hid (galloc (grefl w none) (.cells #[.int .u8 kind, .int .i64 num, .int .u16 id, .bool qr, .int .u8 op, .bool aa, .bool tc, .bool rd, .bool ra, .bool z, .bool ad, .bool cd, .int .u8 code, .bool hasQ, .string qn, .int .u16 qk, .int .u16 qc, .bool hasE, .int .i64 size] 32))
  obtain ⟨b1, e1⟩ : ∃ b, decide (512 < most) = b := ⟨_, rfl⟩
  obtain ⟨b2, e2⟩ : ∃ b, decide (512 < size) = b := ⟨_, rfl⟩
  have c17 := bcellAt HX.out 17
  have c18 := bcellAt HX.out 18
  unfold Cm.val
  dsimp only
  go_enter Tryd.func9, Tryd.ntmps9
  cases hasE
  case false =>
    rw [R1.out rfl]
    go_wp2_with fail; go_ret; exact ⟨rfl, G.out⟩
  cases b2
  case false =>
    rw [R2.out (by have := of_decide_eq_false e2; omega)]
    go_wp2_with fail; go_ret; exact ⟨rfl, G.out⟩
  have hs := of_decide_eq_true e2
  rw [R3.out rfl (by omega)]
  clear hs
  cases b1
  case false =>
    have hm : min size (max most 512) = 512 := by have := of_decide_eq_false e1; have := of_decide_eq_true e2; omega
    rw [hm]
    go_wp2_with fail; go_ret; exact ⟨rfl, G.out⟩
  case true =>
    have hm : max most 512 = most := by have := of_decide_eq_true e1; omega
    rw [hm]
    go_wp2_with fail; all_goals (go_ret; exact ⟨by first | (rw [Int.min_eq_right (by have := of_decide_eq_true e2; omega)]; rfl) | (rw [Int.min_eq_left (by have := of_decide_eq_true e2; omega)]; rfl), G.out⟩)
end Go.Proofs.YtoncjhjnmomecaaDoor
