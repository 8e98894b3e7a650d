/-
  name.May.
-/
import Derived.Test.YtijjfdmklbncbaaDoorCoNm
import Derived.Test.YtijjfdmklbncbaaDoorBase
namespace Go.Proofs.YtijjfdmklbncbaaDoor
open Go.RowKit

set_option maxRecDepth 100000 in
theorem may_any (s : ByteArray) (w : World) : Calls Tryd.prog 37 #[.string s] w fun e w' => e = .returned (.bool (may s)) ∧ w = w' := by
  by_cases h0 : s.size = 0
  · have hm : may s = false := by unfold may; rw [scan_out (by omega)]; simp
    rw [hm]
    go_enter Tryd.func37, Tryd.ntmps37
    go_wp2_with fail
    go_ret
    exact ⟨rfl, rfl⟩
  · by_cases h1 : 255 < s.size
    · have hm : may s = false := by unfold may; simp; omega
      rw [hm]
      go_enter Tryd.func37, Tryd.ntmps37
      go_wp2_with fail
      go_ret
      exact ⟨rfl, rfl⟩
    · have hm : may s = scan s 0 := by unfold may; simp; omega
      rw [hm]
      have z1 : (((s.size : Nat) : Int) == 0) = false := by rw [beq_eq_false_iff_ne]; omega
      have z2 : decide ((255 : Int) < ((s.size : Nat) : Int)) = false := by simp; omega
      go_enter Tryd.func37, Tryd.ntmps37
      go_wp2_with fail
      go_loop [3] (fun v => ∃ p : Nat, v = .int .i64 p ∧ p ≤ 400 ∧ scan s 0 = scan s p) (fun v => 400 - (intOf v).toNat)
      case atStart => exact ⟨0, rfl, by omega, rfl⟩
      case round =>
        obtain ⟨p, rfl, hp, hr⟩ := hrel
        have HR := Lib.hid hr
        clear hr
        by_cases hlt : p < s.size
        · have hg := (bt_get s p hlt).symm
          have hb := bt_lt s p
          have l1 := s[p].toNat_lt
          by_cases hz : bt s p = 0
          · have HN := Lib.hid (HR.out.trans (scan_end hlt hz))
            have z0 : (((bt s p : Nat) : Int) == 0) = true := by simp; omega
            go_wp2_with fail
            go_ret
            rw [HN.out]
            refine ⟨?_, rfl⟩
            by_cases he : p + 1 = s.size
            · simp [he]; omega
            · simp [he]; omega
          · have z0 : (((bt s p : Nat) : Int) == 0) = false := by simp; omega
            by_cases hbig : 63 < bt s p
            · have HN := Lib.hid (HR.out.trans (scan_big hlt hbig))
              go_wp2_with fail
              go_ret
              rw [HN.out]
              exact ⟨rfl, rfl⟩
            · have HN := Lib.hid (HR.out.trans (scan_step hlt hz (by omega)))
              go_wp2_with fail
              go_round
              case rel => exact ⟨p + 1 + bt s p, by go_num, by omega, HN.out⟩
              case measure => simp [intOf]; omega
        · have HN := Lib.hid (HR.out.trans (scan_out (by omega)))
          go_wp2_with fail
          go_ret
          rw [HN.out]
          exact ⟨rfl, rfl⟩
end Go.Proofs.YtijjfdmklbncbaaDoor
