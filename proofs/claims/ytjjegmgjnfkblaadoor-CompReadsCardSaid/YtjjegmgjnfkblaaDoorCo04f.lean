/-
  CompReads.
-/
import Derived.Test.YtjjegmgjnfkblaaDoorCo04e
namespace Go.Proofs.YtjjegmgjnfkblaaDoor
open Go.RowKit

set_option maxRecDepth 100000 in
theorem reads4_walk (s : ByteArray) (at_ : Int) (w : World) (he : Et w) : Calls Tryd.prog 3 #[.string s, .int .i64 at_] w fun e w' => e = .returned (.bool true) ∧ w.grownBy w' none := by
  by_cases hs : 4000 < s.size
  · have hb : decide ((4000 : Int) < (s.size : Int)) = true := by simp; omega
    go_enter Tryd.func3, Tryd.ntmps3
    go_wp2_with fail
    refine Calls.mono (awake04 w he) ?_
    rintro e w1 ⟨rfl, hg⟩
    go_wp2_with fail
    go_ret
    exact ⟨rfl, hg⟩
  · have hb : decide ((4000 : Int) < (s.size : Int)) = false := by simp; omega
    have HE := Lib.hid he
    clear he
    have K1 := fun w h => cread_any s at_ w h (by omega)
    have K2 := fun w => cref_any s at_ w (by omega)
    generalize rdAt s at_ = r at *
    cases r with
    | ok n next =>
      unfold rdR at K1 K2
      have H1 := Lib.hid K1
      have H2 := Lib.hid K2
      clear K1 K2
      go_enter Tryd.func3, Tryd.ntmps3
      go_wp2_with fail
      refine Calls.mono (H1.out _ HE.out) ?_
      rintro e w1 ⟨rfl, hg⟩
      have G1 := Lib.hid hg
      clear hg
      go_wp2_with fail
      refine Calls.mono (H2.out _) ?_
      rintro e w2 ⟨rfl, hg⟩
      have G2 := Lib.hid (gtrans G1.out hg)
      clear hg
      go_wp2_with fail
      refine Calls.mono (awake04 _ (HE.out.kept G2.out (by simp))) ?_
      rintro e w3 ⟨rfl, hg⟩
      have G3 := Lib.hid (gtrans G2.out hg)
      clear hg
      go_wp2_with fail
      go_ret
      exact ⟨rfl, G3.out⟩
    | no er =>
      unfold rdR at K1 K2
      have H1 := Lib.hid K1
      have H2 := Lib.hid K2
      clear K1 K2
      go_enter Tryd.func3, Tryd.ntmps3
      go_wp2_with fail
      refine Calls.mono (H1.out _ HE.out) ?_
      rintro e w1 ⟨rfl, hg⟩
      have G1 := Lib.hid hg
      clear hg
      go_wp2_with fail
      refine Calls.mono (H2.out _) ?_
      rintro e w2 ⟨rfl, hg⟩
      have G2 := Lib.hid (gtrans G1.out hg)
      clear hg
      go_wp2_with fail
      refine Calls.mono (awake04 _ (HE.out.kept G2.out (by simp))) ?_
      rintro e w3 ⟨rfl, hg⟩
      have G3 := Lib.hid (gtrans G2.out hg)
      clear hg
      go_wp2_with fail
      go_ret
      exact ⟨rfl, G3.out⟩
end Go.Proofs.YtjjegmgjnfkblaaDoor
