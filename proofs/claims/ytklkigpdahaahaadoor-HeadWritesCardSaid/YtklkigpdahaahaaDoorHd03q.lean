/-
  The document's two, bit, Flags.
-/
import Derived.Test.YtklkigpdahaahaaDoorHd03m
import Derived.Test.YtklkigpdahaahaaDoorWalk
namespace Go.Proofs.YtklkigpdahaahaaDoor
open Go.RowKit

theorem rbit_any (q : Bool) (n : Int) (w : World) : Calls Tryd.prog 24 #[.bool q, .int .i64 n] w fun e w' => e = .returned (.int .i64 ((q.toNat : Int) * n)) ∧ w = w' := by
  cases q
  · go_enter Tryd.func24, Tryd.ntmps24
    go_wp2
    go_ret
    exact ⟨by simp, rfl⟩
  · go_enter Tryd.func24, Tryd.ntmps24
    go_wp2
    go_ret
    exact ⟨by simp, rfl⟩

set_option maxRecDepth 100000 in
theorem rtwo_any (n : Nat) (hn : n < 65536) (w : World) : Calls Tryd.prog 23 #[.int .i64 n] w fun e w' => e = .returned (.string ⟨(enc 2 n).toArray⟩) ∧ w.grownBy w' none := by
  have hcv : (convert 45 9 (.slice (some ⟨w.heap.size, 0, none⟩) 2 2)).run Tryd.prog (w.alloc (.cells #[.int .u8 ((n : Int) / 256), .int .u8 ((n : Int) % 256)] 5)) = .ok (.string ⟨(enc 2 n).toArray⟩) (w.alloc (.cells #[.int .u8 ((n : Int) / 256), .int .u8 ((n : Int) % 256)] 5)) :=
    run_string_of _ 45 9 5 Tryd.underlying45 Tryd.underlying5 Tryd.underlying9 (sl_new w _ (enc 2 n) _ 2 (by
      rw [enc_two]
      simp only [bv, List.map_cons, List.map_nil]
      rw [← cell_byte _ (n / 256) rfl, ← cell_byte _ n rfl]
      rw [show ((n : Int) / 256) = ((n / 256 % 256 : Nat) : Int) by omega, show ((n : Int) % 256) = ((n % 256 : Nat) : Int) by omega]) (by rw [enc_len]))
  go_enter Tryd.func23, Tryd.ntmps23
  go_wp2
  go_ret
  exact ⟨rfl, galloc (grefl _ none) _⟩

theorem sum_wraps (o c q1 q2 q3 q4 q5 q6 q7 q8 : Nat) (ho : o ≤ 15) (hc : c ≤ 15) (h1 : q1 ≤ 1) (h2 : q2 ≤ 1) (h3 : q3 ≤ 1) (h4 : q4 ≤ 1) (h5 : q5 ≤ 1) (h6 : q6 ≤ 1) (h7 : q7 ≤ 1) (h8 : q8 ≤ 1) :
    IntKind.u16.wrap (wrap64 (wrap64 (wrap64 (wrap64 (wrap64 (wrap64 (wrap64 (wrap64 (wrap64 ((q1 : Int) * 32768 + wrap64 (wrap64 (o : Int) * 2048)) + (q2 : Int) * 1024) + (q3 : Int) * 512) + (q4 : Int) * 256) + (q5 : Int) * 128) + (q6 : Int) * 64) + (q7 : Int) * 32) + (q8 : Int) * 16) + wrap64 (c : Int)))
      = ((q1 * 32768 + o * 2048 + q2 * 1024 + q3 * 512 + q4 * 256 + q5 * 128 + q6 * 64 + q7 * 32 + q8 * 16 + c : Nat) : Int) := by
  rw [wrap_in (o : Int) (by omega) (by omega), wrap_in (c : Int) (by omega) (by omega), wrap_in ((o : Int) * 2048) (by omega) (by omega)]
  rw [wrap_in ((q1 : Int) * 32768 + (o : Int) * 2048) (by omega) (by omega), wrap_in ((q1 : Int) * 32768 + (o : Int) * 2048 + (q2 : Int) * 1024) (by omega) (by omega), wrap_in ((q1 : Int) * 32768 + (o : Int) * 2048 + (q2 : Int) * 1024 + (q3 : Int) * 512) (by omega) (by omega), wrap_in ((q1 : Int) * 32768 + (o : Int) * 2048 + (q2 : Int) * 1024 + (q3 : Int) * 512 + (q4 : Int) * 256) (by omega) (by omega), wrap_in ((q1 : Int) * 32768 + (o : Int) * 2048 + (q2 : Int) * 1024 + (q3 : Int) * 512 + (q4 : Int) * 256 + (q5 : Int) * 128) (by omega) (by omega), wrap_in ((q1 : Int) * 32768 + (o : Int) * 2048 + (q2 : Int) * 1024 + (q3 : Int) * 512 + (q4 : Int) * 256 + (q5 : Int) * 128 + (q6 : Int) * 64) (by omega) (by omega), wrap_in ((q1 : Int) * 32768 + (o : Int) * 2048 + (q2 : Int) * 1024 + (q3 : Int) * 512 + (q4 : Int) * 256 + (q5 : Int) * 128 + (q6 : Int) * 64 + (q7 : Int) * 32) (by omega) (by omega), wrap_in ((q1 : Int) * 32768 + (o : Int) * 2048 + (q2 : Int) * 1024 + (q3 : Int) * 512 + (q4 : Int) * 256 + (q5 : Int) * 128 + (q6 : Int) * 64 + (q7 : Int) * 32 + (q8 : Int) * 16) (by omega) (by omega), wrap_in ((q1 : Int) * 32768 + (o : Int) * 2048 + (q2 : Int) * 1024 + (q3 : Int) * 512 + (q4 : Int) * 256 + (q5 : Int) * 128 + (q6 : Int) * 64 + (q7 : Int) * 32 + (q8 : Int) * 16 + (c : Int)) (by omega) (by omega)]
  rw [IntKind.wrap_u16]
  omega

theorem rflags_bad (H : Hd) (w : World) (h : H.bad) : Calls Tryd.prog 17 #[H.v] w fun e w' => e = .returned (.tuple #[.int .u16 0, .int .i64 1]) ∧ w.grownBy w' none := by
  show Calls Tryd.prog 17 #[.agg #[.int .u16 H.id, .bool H.qr, .int .u8 H.op, .bool H.aa, .bool H.tc, .bool H.rd, .bool H.ra, .bool H.z, .bool H.ad, .bool H.cd, .int .u8 H.code]] w _
  by_cases h1 : 15 < H.op
  · have h1' : decide ((15 : Int) < (H.op : Int)) = true := by simp; omega
    go_enter Tryd.func17, Tryd.ntmps17
    go_wp2
    go_ret2
    exact ⟨rfl, galloc (grefl _ none) _⟩
  · have h1' : decide ((15 : Int) < (H.op : Int)) = false := by simp; omega
    have h2' : decide ((15 : Int) < (H.code : Int)) = true := by unfold Hd.bad at h; simp; omega
    go_enter Tryd.func17, Tryd.ntmps17
    go_wp2
    go_ret2
    exact ⟨rfl, galloc (grefl _ none) _⟩

set_option maxRecDepth 100000 in
set_option maxHeartbeats 1000000 in
theorem rflags_ok (H : Hd) (w : World) (h : ¬ H.bad) : Calls Tryd.prog 17 #[H.v] w fun e w' => e = .returned (.tuple #[.int .u16 (flagsN H), .int .i64 0]) ∧ w.grownBy w' none := by
  show Calls Tryd.prog 17 #[.agg #[.int .u16 H.id, .bool H.qr, .int .u8 H.op, .bool H.aa, .bool H.tc, .bool H.rd, .bool H.ra, .bool H.z, .bool H.ad, .bool H.cd, .int .u8 H.code]] w _
  have h1' : decide ((15 : Int) < (H.op : Int)) = false := by unfold Hd.bad at h; simp; omega
  have h2' : decide ((15 : Int) < (H.code : Int)) = false := by unfold Hd.bad at h; simp; omega
  go_enter Tryd.func17, Tryd.ntmps17
  go_wp2
  go_quiet ((go_at_call 24; exact Calls.quiet_of_same ((rbit_any _ _ _).mono fun _ _ ⟨he, hw⟩ => ⟨he, hw.symm⟩)))
  go_wp2
  go_ret2
  refine ⟨?_, gdrewN (galloc (grefl _ none) _) _⟩
  have hw := sum_wraps H.op H.code H.qr.toNat H.aa.toNat H.tc.toNat H.rd.toNat H.ra.toNat H.z.toNat H.ad.toNat H.cd.toNat (by unfold Hd.bad at h; omega) (by unfold Hd.bad at h; omega) (btle _) (btle _) (btle _) (btle _) (btle _) (btle _) (btle _) (btle _)
  show Ending.returned (.tuple #[.int .u16 (IntKind.u16.wrap _), .int .i64 0]) = _
  rw [hw]
  rfl
theorem rflags_any (H : Hd) (w : World) : Calls Tryd.prog 17 #[H.v] w fun e w' => e = .returned (.tuple #[.int .u16 (flN H), .int .i64 (flE H)]) ∧ w.grownBy w' none := by
  unfold flN flE
  by_cases h : H.bad
  · rw [if_pos h, if_pos h]
    exact rflags_bad H w h
  · rw [if_neg h, if_neg h]
    exact rflags_ok H w h
end Go.Proofs.YtklkigpdahaahaaDoor
