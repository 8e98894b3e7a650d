/-
  EdnsCodes.
-/
import Derived.Test.YtcednhpelbdoiaaDoorEd06h
namespace Go.Proofs.YtcednhpelbdoiaaDoor
open Go.RowKit

theorem code_lt (c x : Nat) (hx : x < 256) : codeN c x < 4096 := by unfold codeN; omega
theorem code_mod (c x : Nat) : codeN c x % 16 = c % 16 := by unfold codeN; omega
theorem code_div (c x : Nat) : codeN c x / 16 = x := by unfold codeN; omega
theorem code_self (c x : Nat) : codeN (c % 16) x = codeN c x := by unfold codeN; omega
theorem code_split (n : Nat) : codeN (n % 16) (n / 16) = n := by unfold codeN; omega

theorem code_i (a b : Int) (c x : Nat) (ha : a = c) (hb : b = x) (hc : c < 256) (he : x < 256) (w : World) : Calls Tryd.prog 15 #[.int .u8 a, .int .u8 b] w fun e w' => e = .returned (.int .i64 (codeN c x)) ∧ w = w' := by
  subst ha hb
  exact code_any c x hc he w
theorem split_i (a : Int) (n : Nat) (ha : a = n) (h : n < 4096) (w : World) : Calls Tryd.prog 14 #[.int .i64 a] w fun e w' => e = .returned (.tuple #[.int .u8 ((n % 16 : Nat) : Int), .int .u8 ((n / 16 : Nat) : Int), .int .i64 0]) ∧ w = w' := by
  subst ha
  exact split_ok n h w

set_option maxRecDepth 100000 in
set_option maxHeartbeats 400000 in
theorem codes_walk (c x : Nat) (n : Int) (hc : c < 256) (hx : x < 256) (w : World) (he : Et w) : Calls Tryd.prog 4 #[.int .u8 c, .int .u8 x, .int .i64 n] w fun e w' => e = .returned (.bool true) ∧ w.grownBy w' none := by
  have HE := Lib.hid he
  clear he
  have hlt := code_lt c x hx
  have HM := Lib.hid (code_mod c x)
  have HD := Lib.hid (code_div c x)
  have HS := Lib.hid (code_self c x)
  obtain ⟨q, hq, hq2⟩ := umod n 4096 (by omega) (by omega)
  have HP := Lib.hid (code_split q)
  have hq' : wrap64 ((IntKind.u64.wrap n).tmod 4096) = (q : Int) := hq
  clear hq
  go_enter Tryd.func4, Tryd.ntmps4
  go_wp2_with fail
  refine Calls.mono (code_any c x hc hx _) ?_
  rintro e wq ⟨rfl, hq0⟩
  subst hq0
  generalize hk : codeN c x = k at *
  have HK := Lib.hid hk
  clear hk
  go_wp2_with fail
  refine Calls.mono (split_ok k hlt _) ?_
  rw [HM.out, HD.out]
  rintro e wq ⟨rfl, hq0⟩
  subst hq0
  go_wp2_with fail
  refine Calls.mono (awake06 _ HE.out) ?_
  rintro e w1 ⟨rfl, hg⟩
  have G1 := Lib.hid hg
  clear hg
  go_wp2_with fail
  refine Calls.mono (code_any c x hc hx _) ?_
  rw [HK.out]
  rintro e wq ⟨rfl, hq0⟩
  subst hq0
  go_wp2_with fail
  refine Calls.mono (code_i _ _ (c % 16) x (by omega) rfl (by omega) hx _) ?_
  rw [HS.out]
  rintro e wq ⟨rfl, hq0⟩
  subst hq0
  go_wp2_with fail
  refine Calls.mono (split_i _ q rfl hq2 _) ?_
  rintro e wq ⟨rfl, hq0⟩
  subst hq0
  go_wp2_with fail
  refine Calls.mono (code_i _ _ (q % 16) (q / 16) (by omega) (by omega) (by omega) (by omega) _) ?_
  rw [HP.out]
  rintro e wq ⟨rfl, hq0⟩
  subst hq0
  go_wp2_with fail
  go_ret
  exact ⟨rfl, G1.out⟩
end Go.Proofs.YtcednhpelbdoiaaDoor
