/-
  Wire: the document's records, May.
-/
import Derived.Test.YtfeeeoiojaffcaaGreatDoorWkA
import Derived.Test.YtfeeeoiojaffcaaGreatDoorWkR
import Derived.Deep.Cut
namespace Go.Proofs.YtfeeeoiojaffcaaGreatDoor
open Go.RowKit

set_option maxRecDepth 100000 in
set_option maxHeartbeats 4000000 in
theorem rsec_any (w : World) (v : Value) (l : List Rc) (hv : Rs w v l) (hn : ∀ r ∈ l, r.name.size ≤ 1000000 ∧ r.data.size ≤ 1000000) :
    Calls Tryz.prog 41 #[v] w fun e w' => e = .returned (.bool (secB l)) ∧ w.grownBy w' none := by
  have HV := Lib.hid hv
  have HD := Lib.hid hn
  obtain ⟨A, cap, rfl⟩ := hv.form
  clear hv hn
  have SE := Lib.hid (show secB l = (decide (l.length ≤ 65535) && l.all okR') from rfl)
  go_enter Tryz.func41, Tryz.ntmps41
  by_cases h1 : 65535 < l.length
  · have d1 : decide ((65535 : Int) < (l.length : Int)) = true := decide_eq_true (by omega)
    have HS := Lib.hid (show secB l = false from by rw [SE.out, decide_eq_false (by omega)]; rfl)
    clear h1
    go_wp2_with fail
    go_ret
    exact ⟨by rw [HS.out]; rfl, grefl _ _⟩
  have d1 : decide ((65535 : Int) < (l.length : Int)) = false := decide_eq_false (by omega)
  have SF := Lib.hid (show secB l = l.all okR' from by rw [SE.out, decide_eq_true (by omega)]; rfl)
  have HL := Lib.hid h1
  clear h1 SE
  go_wp2_with fail
  clear d1
  go_loopw [3] (fun vi wr => ∃ i : Nat, vi = .int .i64 i ∧ i ≤ l.length ∧ (l.take i).all okR' = true ∧ w.grownBy wr none) (fun vi _ => l.length - (intOf vi).toNat)
  case atStart => exact ⟨0, rfl, by omega, rfl, grefl _ _⟩
  case round =>
    obtain ⟨i, rfl, hil, hall, hg⟩ := hrel
    have HA := Lib.hid hall
    have GR := Lib.hid hg
    clear hall hg
    by_cases hlt : i < l.length
    · obtain ⟨bl, off, rfl, l0, l1, l2, l3, l4⟩ := (HV.out.kept GR.out).at hlt
      have q0 : (0 : Int) ≤ (i : Int) := by omega
      have q1 : (i : Int) < (l.length : Int) := by omega
      have HX := Lib.hid (all_snoc okR' l i hlt)
      have HN := Lib.hid (all_not okR' l i hlt)
      have hdd := HD.out l[i] (List.getElem_mem hlt)
      generalize l[i] = r at *
      have M1 := Lib.hid (fun w' => rmay_any r.name w' hdd.1)
      have M2 := Lib.hid (fun w' => rmayd_any r.kind r.data w' hdd.2)
      have HO := Lib.hid (show okR' r = (may r.name && mayD r.kind r.data) from rfl)
      generalize may r.name = b1 at *
      generalize mayD r.kind r.data = b2 at *
      clear hdd l2 l3
      go_wp2_with fail
      replace l0 := Gr.cell l0
      replace l1 := Gr.cell l1
      replace l4 := Gr.cell l4
      cases b1
      case false =>
        have HF := Lib.hid (HN.out (by rw [HO.out]; rfl))
        refine wp_region_noPanic ?_
        refine wp_region_gr (by kernel_rfl) (by kernel_rfl) ?_
        repeat (go_big_quiet_step ((go_at_call 40; with_reducible exact Calls.gr (M1.out _))))
        refine wpQuiet_nil ?_
        rintro _ ⟨gq, rfl⟩
        refine NoPanic.normal ?_
        have G2 := Lib.hid (gtrans GR.out gq.h)
        go_wp2_with fail
        go_ret
        exact ⟨by rw [SF.out, HF.out]; rfl, G2.out⟩
      cases b2
      case false =>
        have HF := Lib.hid (HN.out (by rw [HO.out]; rfl))
        refine wp_region_noPanic ?_
        refine wp_region_gr (by kernel_rfl) (by kernel_rfl) ?_
        repeat (go_big_quiet_step (first | (go_at_call 40; with_reducible exact Calls.gr (M1.out _)) | (go_at_call 70; with_reducible exact Calls.gr (M2.out _))))
        refine wpQuiet_nil ?_
        rintro _ ⟨gq, rfl⟩
        refine NoPanic.normal ?_
        have G2 := Lib.hid (gtrans GR.out gq.h)
        go_wp2_with fail
        go_ret
        exact ⟨by rw [SF.out, HF.out]; rfl, G2.out⟩
      refine wp_region_noPanic ?_
      refine wp_region_gr (by kernel_rfl) (by kernel_rfl) ?_
      repeat (go_big_quiet_step (first | (go_at_call 40; with_reducible exact Calls.gr (M1.out _)) | (go_at_call 70; with_reducible exact Calls.gr (M2.out _))))
      refine wpQuiet_nil ?_
      rintro _ ⟨gq, rfl⟩
      refine NoPanic.normal ?_
      have G2 := Lib.hid (gtrans GR.out gq.h)
      clear l0 l1 l4 M1 M2
      generalize gq.w = w2 at *
      have OK := Lib.hid (show okR' r = true from by rw [HO.out]; rfl)
      clear gq HO HN
      have hLL : l.length ≤ 65535 := by have := HL.out; omega
      go_wp2_with fail
      go_roundw
      case rel => exact ⟨i + 1, by go_num, by omega, by rw [HX.out, HA.out, OK.out]; rfl, G2.out⟩
      case measure => simp [intOf]; omega
    · have k1 : decide ((i : Int) < (l.length : Int)) = false := decide_eq_false (by omega)
      have HT := Lib.hid (show l.all okR' = true from by have := HA.out; rwa [List.take_of_length_le (by omega)] at this)
      go_wp2_with fail
      go_ret
      exact ⟨by rw [SF.out, HT.out]; rfl, GR.out⟩
end Go.Proofs.YtfeeeoiojaffcaaGreatDoor
