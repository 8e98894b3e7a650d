/-
  Soa: which set fits; the walks of matches, inner, Fits.
-/
import Derived.Test.YtomjiephbacocaaDoorSoLw
import Derived.Test.YtomjiephbacocaaDoorSoSt
namespace Go.Proofs.YtomjiephbacocaaDoor
open Go.RowKit

/-- Does a set fit a name and a class? -/
def fitB (n : ByteArray) (c : Nat) (x : St) : Bool := decide (x.kind = 6) && decide (x.cls = c) && wiN n x.name
theorem galloc5 {a w : World} (h : a.grownBy w none) (x : St) (t : TypeId) : a.grownBy (w.alloc (.cells #[.string x.name, .int .u16 (x.kind : Int), .int .u16 (x.cls : Int), .int .u32 (x.ttl : Int), x.vd] t)) none := galloc h _

set_option maxRecDepth 100000 in
set_option maxHeartbeats 8000000 in
theorem matches_any (n : ByteArray) (c : Nat) (x : St) (w : World) : Calls Tryd.prog 34 #[.agg #[.string n, .int .u16 (c : Int)], x.val] w fun e w' => e = .returned (.bool (fitB n c x)) ∧ w.grownBy w' none := by
  obtain ⟨nm, kd, cl, tt, vd, dat⟩ := x
  unfold St.val
  by_cases hk : kd = 6
  · have k0 : ((kd : Int) == 6) = true := by simp; omega
    by_cases hc : cl = c
    · have k1 : ((cl : Int) == (c : Int)) = true := by simp; omega
      have HE := Lib.hid (show fitB n c ⟨nm, kd, cl, tt, vd, dat⟩ = wiN n nm by unfold fitB; simp [hk, hc])
      clear hk hc
      go_enter Tryd.func34, Tryd.ntmps34
      go_wp2_with fail
      refine (nwithin_any n nm _).mono ?_
      rintro e w1 ⟨rfl, hg⟩
      have HG := Lib.hid (gtrans (galloc (galloc (grefl _ none) _) _) hg)
      clear hg
      go_wp2_with fail
      go_ret
      exact ⟨by rw [HE.out]; rfl, HG.out⟩
    · have k1 : ((cl : Int) == (c : Int)) = false := by simp; omega
      have HE := Lib.hid (show fitB n c ⟨nm, kd, cl, tt, vd, dat⟩ = false by unfold fitB; simp [hc])
      clear hk hc
      go_enter Tryd.func34, Tryd.ntmps34
      go_wp2_with fail
      go_ret
      exact ⟨by rw [HE.out]; rfl, galloc (galloc (grefl _ none) _) _⟩
  · have k0 : ((kd : Int) == 6) = false := by simp; omega
    have HE := Lib.hid (show fitB n c ⟨nm, kd, cl, tt, vd, dat⟩ = false by unfold fitB; simp [hk])
    clear hk
    go_enter Tryd.func34, Tryd.ntmps34
    go_wp2_with fail
    go_ret
    exact ⟨by rw [HE.out]; rfl, galloc (galloc (grefl _ none) _) _⟩

set_option maxRecDepth 100000 in
set_option maxHeartbeats 8000000 in
theorem rfits_any (n : ByteArray) (c : Nat) (x : St) (w : World) (hn : n.size ≤ 1000000) (hx : x.name.size ≤ 1000000) : Calls Tryd.prog 21 #[x.val, .string n, .int .u16 (c : Int)] w fun e w' => e = .returned (.bool (fitB n c x)) ∧ w.grownBy w' none := by
  obtain ⟨nm, kd, cl, tt, vd, dat⟩ := x
  unfold St.val
  by_cases hk : kd = 6
  · have k0 : ((kd : Int) == 6) = true := by simp; omega
    by_cases hc : cl = c
    · have k1 : ((cl : Int) == (c : Int)) = true := by simp; omega
      have HE := Lib.hid (show fitB n c ⟨nm, kd, cl, tt, vd, dat⟩ = wiN n nm by unfold fitB; simp [hk, hc])
      clear hk hc
      go_enter Tryd.func21, Tryd.ntmps21
      go_wp2_with fail
      refine (rwithin_any n nm _ hn hx).mono ?_
      rintro e w1 ⟨rfl, hg⟩
      have HG := Lib.hid (gtrans (galloc (grefl _ none) _) hg)
      clear hg
      go_wp2_with fail
      go_ret
      exact ⟨by rw [HE.out]; rfl, HG.out⟩
    · have k1 : ((cl : Int) == (c : Int)) = false := by simp; omega
      have HE := Lib.hid (show fitB n c ⟨nm, kd, cl, tt, vd, dat⟩ = false by unfold fitB; simp [hc])
      clear hk hc
      go_enter Tryd.func21, Tryd.ntmps21
      go_wp2_with fail
      go_ret
      exact ⟨by rw [HE.out]; rfl, galloc (grefl _ none) _⟩
  · have k0 : ((kd : Int) == 6) = false := by simp; omega
    have HE := Lib.hid (show fitB n c ⟨nm, kd, cl, tt, vd, dat⟩ = false by unfold fitB; simp [hk])
    clear hk
    go_enter Tryd.func21, Tryd.ntmps21
    go_wp2_with fail
    go_ret
    exact ⟨by rw [HE.out]; rfl, galloc (grefl _ none) _⟩

/-- Is a set further inside than a depth? -/
def innB (n : ByteArray) (c : Nat) (x : St) (d : Int) : Bool := fitB n c x && decide (d < (nlb x.name : Int))
set_option maxRecDepth 100000 in
set_option maxHeartbeats 8000000 in
theorem inner_any (n : ByteArray) (c : Nat) (x : St) (d : Int) (w : World) : Calls Tryd.prog 25 #[.agg #[.string n, .int .u16 (c : Int)], x.val, .int .i64 d] w fun e w' => e = .returned (.bool (innB n c x d)) ∧ w.grownBy w' none := by
  have HM := Lib.hid (matches_any n c x)
  have hd : innB n c x d = (fitB n c x && decide (d < (nlb x.name : Int))) := rfl
  obtain ⟨nm, kd, cl, tt, vd, dat⟩ := x
  unfold St.val at HM ⊢
  cases hf : fitB n c ⟨nm, kd, cl, tt, vd, dat⟩ with
  | true =>
    rw [hf, Bool.true_and] at hd
    have HD := Lib.hid hd
    rw [hf] at HM
    clear hd hf
    have q0 : decide (d < (nlb nm : Int)) = decide (d < (nlb nm : Int)) := rfl
    cases hq : decide (d < (nlb nm : Int)) with
    | true =>
      have HQ := Lib.hid (HD.out.trans hq)
      clear q0
      go_enter Tryd.func25, Tryd.ntmps25
      go_wp2_with fail
      refine (HM.out _).mono ?_
      rintro e w1 ⟨rfl, hg⟩
      have c0 : w1.cell? ⟨w.heap.size + 1, 0, none⟩ = some (.string nm) := bcellAt (gblock hg (balloc2_1 _ _ _) (by simp)) 0
      have HG := Lib.hid (gtrans (galloc (galloc (grefl w none) _) _) hg)
      clear hg
      go_wp2_with fail
      refine (nLabels_any nm _).mono ?_
      rintro e w2 ⟨A, k, rfl, hg2⟩
      have HG2 := Lib.hid (gtrans HG.out hg2)
      clear hg2
      go_wp2_with fail
      go_ret
      exact ⟨by rw [HQ.out]; rfl, HG2.out⟩
    | false =>
      have HQ := Lib.hid (HD.out.trans hq)
      clear q0
      go_enter Tryd.func25, Tryd.ntmps25
      go_wp2_with fail
      refine (HM.out _).mono ?_
      rintro e w1 ⟨rfl, hg⟩
      have c0 : w1.cell? ⟨w.heap.size + 1, 0, none⟩ = some (.string nm) := bcellAt (gblock hg (balloc2_1 _ _ _) (by simp)) 0
      have HG := Lib.hid (gtrans (galloc (galloc (grefl w none) _) _) hg)
      clear hg
      go_wp2_with fail
      refine (nLabels_any nm _).mono ?_
      rintro e w2 ⟨A, k, rfl, hg2⟩
      have HG2 := Lib.hid (gtrans HG.out hg2)
      clear hg2
      go_wp2_with fail
      go_ret
      exact ⟨by rw [HQ.out]; rfl, HG2.out⟩
  | false =>
    rw [hf, Bool.false_and] at hd
    have HD := Lib.hid hd
    rw [hf] at HM
    clear hd hf
    go_enter Tryd.func25, Tryd.ntmps25
    go_wp2_with fail
    refine (HM.out _).mono ?_
    rintro e w1 ⟨rfl, hg⟩
    have c0 : w1.cell? ⟨w.heap.size + 1, 0, none⟩ = some (.string nm) := bcellAt (gblock hg (balloc2_1 _ _ _) (by simp)) 0
    have HG := Lib.hid (gtrans (galloc (galloc (grefl w none) _) _) hg)
    clear hg
    go_wp2_with fail
    go_ret
    exact ⟨by rw [HD.out]; rfl, HG.out⟩
end Go.Proofs.YtomjiephbacocaaDoor
