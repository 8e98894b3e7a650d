/-
  The document's Write of layer 6.
-/
import Derived.Test.YtcednhpelbdoiaaDoorEd06f
import Derived.Test.YtcednhpelbdoiaaDoorRef02
namespace Go.Proofs.YtcednhpelbdoiaaDoor
open Go.RowKit

theorem opB_str (tot : List UInt8) (x : Opt) : (⟨(tot ++ opB x).toArray⟩ : ByteArray) = ⟨tot.toArray⟩ ++ ⟨(enc 2 x.1).toArray⟩ ++ ⟨(enc 2 x.2.size).toArray⟩ ++ x.2 := by
  obtain ⟨n, s⟩ := x
  obtain ⟨⟨l⟩⟩ := s
  unfold opB
  rw [mk_append_list, mk_append_list, mk_append_list]
  simp

set_option maxRecDepth 100000 in
set_option maxHeartbeats 2000000 in
theorem rwrite6_any (sz e v f : Nat) (A : Option Addr) (ca : Nat) (l : List Opt) (w : World) (he : e < 256) (hv : v < 256) (hf : f < 65536) (ha : Ops w (.slice A l.length ca) l) (hl : l.length ≤ maxLen) (hc : ∀ o ∈ l, o.1 < 65536) :
    Calls Tryd.prog 18 #[.agg #[.int .u16 sz, .int .u8 e, .int .u8 v, .int .u16 f, .slice A l.length ca]] w fun e' w' => e' = .returned (ewR sz e v f l) ∧ w.grownBy w' none := by
  have HA := Lib.hid ha
  have HC := Lib.hid hc
  unfold maxLen at hl
  clear ha hc
  go_enter Tryd.func18, Tryd.ntmps18
  go_wp2_with fail
  go_loopw [6, 7] (fun s i wr => ∃ k : Nat, k ≤ l.length ∧ i = .int .i64 k ∧ s = .string ⟨(opsB (l.take k)).toArray⟩ ∧ (opsB (l.take k)).length ≤ 65535 ∧ w.grownBy wr none ∧ wr.heap[w.heap.size]? = some (.cells #[.int .u16 sz, .int .u8 e, .int .u8 v, .int .u16 f, .slice A l.length ca] 27 (0, 0))) (fun _ i _ => l.length - (intOf i).toNat)
  case atStart => exact ⟨0, by omega, rfl, rfl, by simp [opsB], galloc (grefl _ none) _, balloc1_0 _ _⟩
  case round =>
    obtain ⟨k, hk, rfl, rfl, ht, hg, hr⟩ := hrel
    have HG := Lib.hid hg
    have HR := Lib.hid hr
    have c4 : wr.cell? ⟨w.heap.size, 4, none⟩ = some (.slice A l.length ca) := bcellAt hr 4
    clear hg hr
    by_cases hlt : k < l.length
    · obtain ⟨b, off, rfl, l0, l1⟩ := (HA.out.kept HG.out).at rfl hlt
      have q0 : (0 : Int) ≤ (k : Int) := by omega
      have q1 : (k : Int) < (l.length : Int) := by omega
      have HL := Lib.hid (opsB_snoc_len l k hlt)
      have HB := Lib.hid (opsB_snoc l k hlt)
      have HM := Lib.hid (opsB_mem l k hlt)
      have HT := Lib.hid (opsB_take_le l (k + 1))
      have hx1 := HC.out l[k] (List.getElem_mem hlt)
      generalize l[k] = x at *
      generalize opsB (l.take k) = tot at *
      by_cases h1 : x.2.size ≤ 65535
      · have q2 : decide ((65535 : Int) < (x.2.size : Int)) = false := by simp; omega
        go_wp2_with fail
        have G3 := Lib.hid (galloc (grefl wr none) (.cells #[.int .u16 x.1, .string x.2] 33))
        have X3 := Lib.hid (balloc1_0 wr (.cells #[.int .u16 x.1, .string x.2] 33))
        generalize wr.alloc (.cells #[.int .u16 x.1, .string x.2] 33) = w3 at *
        have x0 : ∀ g : Gr w3, g.w.cell? ⟨wr.heap.size, 0, none⟩ = some (.int .u16 x.1) := Gr.cell (bcellAt X3.out 0)
        have x1 : ∀ g : Gr w3, g.w.cell? ⟨wr.heap.size, 1, none⟩ = some (.string x.2) := Gr.cell (bcellAt X3.out 1)
        have le1 := enc_len 2 x.1
        have le2 := enc_len 2 x.2.size
        have g1 : ¬ 9223372036854775807 < tot.length + (enc 2 x.1).length := by omega
        have g2 : ¬ 9223372036854775807 < tot.length + (enc 2 x.1).length + (enc 2 x.2.size).length := by omega
        have g3 : ¬ 9223372036854775807 < tot.length + (enc 2 x.1).length + (enc 2 x.2.size).length + x.2.size := by omega
        have w1 : IntKind.u64.wrap (x.1 : Int) = (x.1 : Int) := by rw [IntKind.wrap_u64]; omega
        have w2 : IntKind.u64.wrap (x.2.size : Int) = (x.2.size : Int) := by rw [IntKind.wrap_u64]; omega
        clear c4 le1 le2
        refine wp_region_noPanic ?_
        refine wp_region_gr (by kernel_rfl) (by kernel_rfl) ?_
        repeat (go_big_quiet_step (first | (go_at_call 29; exact Calls.gr (rput_any _ 2 (by omega) (by omega) _))))
        refine wpQuiet_nil ?_
        rintro _ ⟨gq, rfl⟩
        refine NoPanic.normal ?_
        have G4 := Lib.hid (gtrans G3.out gq.h)
        clear x0 x1 w1 w2 X3
        generalize gq.w = w4 at *
        have le1 := enc_len 2 x.1
        have le2 := enc_len 2 x.2.size
        by_cases h2 : tot.length + 4 + x.2.size ≤ 65535
        · have q3 : decide ((65535 : Int) < (tot.length : Int) + ((enc 2 x.1).length : Int) + ((enc 2 x.2.size).length : Int) + (x.2.size : Int)) = false := by simp; omega
          clear le1 le2
          go_wp2_with fail
          go_roundw
          case rel => exact ⟨k + 1, by omega, by go_num, by rw [HB.out, opB_str], by rw [HL.out]; exact h2, gtrans HG.out G4.out, gblock G4.out HR.out (by simp)⟩
          case measure => simp [intOf]; omega
        · have q3 : decide ((65535 : Int) < (tot.length : Int) + ((enc 2 x.1).length : Int) + ((enc 2 x.2.size).length : Int) + (x.2.size : Int)) = true := by simp; omega
          have HN := Lib.hid (show ¬ okO l by unfold okO; have := HL.out; have := HT.out; omega)
          clear le1 le2
          go_wp2_with fail
          refine bodyPost_ret (results_t4 rfl _ _) rfl ?_
          refine ⟨?_, gtrans HG.out G4.out⟩
          unfold ewR
          rw [if_neg HN.out]
          rfl
      · have q2 : decide ((65535 : Int) < (x.2.size : Int)) = true := by simp; omega
        have HN := Lib.hid (show ¬ okO l by unfold okO; have := HM.out; omega)
        go_wp2_with fail
        refine bodyPost_ret (results_t4 rfl _ _) rfl ?_
        refine ⟨?_, galloc HG.out _⟩
        unfold ewR
        rw [if_neg HN.out]
        rfl
    · obtain rfl : k = l.length := by omega
      rw [List.take_length] at *
      have HO := Lib.hid (show okO l from ht)
      have d0 : wr.cell? ⟨w.heap.size, 0, none⟩ = some (.int .u16 sz) := bcellAt HR.out 0
      have d1 : wr.cell? ⟨w.heap.size, 1, none⟩ = some (.int .u8 e) := bcellAt HR.out 1
      have d2 : wr.cell? ⟨w.heap.size, 2, none⟩ = some (.int .u8 v) := bcellAt HR.out 2
      have d3 : wr.cell? ⟨w.heap.size, 3, none⟩ = some (.int .u16 f) := bcellAt HR.out 3
      go_wp2_with fail
      go_quiet (fail)
      go_wp2_with fail
      refine bodyPost_ret (results_t4 rfl _ _) rfl ?_
      refine ⟨?_, gdrewN HG.out _⟩
      unfold ewR
      rw [if_pos HO.out]
      rfl
end Go.Proofs.YtcednhpelbdoiaaDoor
