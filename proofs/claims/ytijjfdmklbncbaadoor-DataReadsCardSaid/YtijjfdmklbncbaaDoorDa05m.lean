/-
  DataReads.
-/
import Derived.Test.YtijjfdmklbncbaaDoorDa05j
import Derived.Test.YtijjfdmklbncbaaDoorDa05l
namespace Go.Proofs.YtijjfdmklbncbaaDoor
open Go.RowKit

theorem i64_top {x : Int} (h : (Lit.int .i64 x).wf = true) : Hid (x ≤ 9223372036854775807) := by
  refine Lib.hid ?_
  simp only [Lit.wf, IntKind.min, IntKind.max, IntKind.signed, IntKind.bits, Bool.and_eq_true, decide_eq_true_eq, if_true] at h
  have := h.2
  omega
set_option maxRecDepth 100000 in
theorem reads5_walk (msg : ByteArray) (at_ n : Int) (kind : Nat) (w : World) (he : Et w) (ha : Hid (at_ ≤ 9223372036854775807)) : Calls Tryd.prog 3 #[.string msg, .int .i64 at_, .int .i64 n, .int .u16 kind] w fun e w' => e = .returned (.bool true) ∧ w.grownBy w' none := by
  by_cases hs : 4000 < msg.size
  · have hb : decide ((4000 : Int) < (msg.size : Int)) = true := by simp; omega
    go_enter Tryd.func3, Tryd.ntmps3
    go_wp2_with fail
    refine Calls.mono (awake05 w he) ?_
    rintro e w1 ⟨rfl, hg⟩
    go_wp2_with fail
    go_ret
    exact ⟨rfl, hg⟩
  · have hb : decide ((4000 : Int) < (msg.size : Int)) = false := by simp; omega
    have HE := Lib.hid he
    clear he
    have K1 := Lib.hid (fun w h => rdata_any msg at_ n kind w h (by omega) ha)
    have K2 := Lib.hid (fun w => rrdata_any msg at_ n kind w (by omega))
    generalize rdD msg at_ n kind = r at *
    obtain ⟨a, x⟩ := r
    simp only at K1 K2
    have n1 : (a.toList == a.toList) = true := by simp
    have n2 : ((x : Int) == (x : Int)) = true := by simp
    go_enter Tryd.func3, Tryd.ntmps3
    go_wp2_with fail
    refine Calls.mono (K1.out _ HE.out) ?_
    rintro e w1 ⟨rfl, hg⟩
    have G1 := Lib.hid hg
    clear hg
    go_wp2_with fail
    refine Calls.mono (K2.out _) ?_
    rintro e w2 ⟨rfl, hg⟩
    have G2 := Lib.hid (gtrans G1.out hg)
    clear hg
    go_wp2_with fail
    refine Calls.mono (awake05 _ (HE.out.kept G2.out (by simp))) ?_
    rintro e w3 ⟨rfl, hg⟩
    have G3 := Lib.hid (gtrans G2.out hg)
    clear hg
    go_wp2_with fail
    go_ret
    exact ⟨rfl, G3.out⟩
end Go.Proofs.YtijjfdmklbncbaaDoor
