/-
  Package edns: Write.
-/
import Derived.Test.YtcednhpelbdoiaaDoorEd06d
import Derived.Test.YtcednhpelbdoiaaDoorApp
import Derived.Test.YtcednhpelbdoiaaDoorEdNum2
namespace Go.Proofs.YtcednhpelbdoiaaDoor
open Go.RowKit

/-- What Write returns. -/
def ewR (sz e v f : Nat) (l : List Opt) : Value := if okO l then .tuple #[.int .u16 sz, .int .u32 (ttlN e v f), .string ⟨(opsB l).toArray⟩, .int .i64 0] else .tuple #[.int .u16 0, .int .u32 0, .string ByteArray.empty, .int .i64 5]
theorem put2_x (w : World) (va : Value) (a : List UInt8) (x : Nat) (hx : x < 65536) (ha : SlB w va a) (hn : a.length ≤ 70368744177000) : Calls Tryd.prog 28 #[va, .int .u16 x] w fun e w' => ∃ v, e = .returned v ∧ SlB w' v (a ++ enc 2 x) ∧ w.grownBy w' none :=
  (put2_any w va a x hx ha hn).mono fun _ _ ⟨he, ho, hg⟩ => ⟨_, he, ho.sl, hg⟩
theorem results_t4 {P : Program} {fn : Func} {t u v x : Tmp} (h : fn.results = #[.tmp t, .tmp u, .tmp v, .tmp x]) (tmps : Array Value) (w : World) :
    (results fn tmps).run P w = .ok (.tuple #[tmps.getD t undef, tmps.getD u undef, tmps.getD v undef, tmps.getD x undef]) w := by simp [results, h]

theorem ownB (A : Option Addr) (n m c d : Nat) : (Value.slice A n c).ownBlock = (Value.slice A m d).ownBlock := by cases A <;> rfl
theorem ttl_bits (e v f : Nat) (he : e < 256) (hv : v < 256) (hf : f < 65536) : bits .or .u32 (bits .or .u32 ((e : Int) * 16777216) ((v : Int) * 65536)) (f : Int) = ((ttlN e v f : Nat) : Int) := by
  rw [show ((e : Int) * 16777216) = ((e * 16777216 : Nat) : Int) by omega, show ((v : Int) * 65536) = ((v * 65536 : Nat) : Int) by omega, u32_or_nat _ _ (by omega) (by omega), nat_join 24 _ _ (by omega) (by omega), u32_or_nat _ _ (by omega) (by omega), nat_join 16 _ _ (by omega) (by omega)]
  rfl

set_option maxRecDepth 100000 in
set_option maxHeartbeats 2000000 in
theorem ewrite_any (sz e v f : Nat) (A : Option Addr) (ca : Nat) (l : List Opt) (w : World) (he : e < 256) (hv : v < 256) (hf : f < 65536) (ha : Ops w (.slice A l.length ca) l) (hl : l.length ≤ maxLen) (hc : ∀ o ∈ l, o.1 < 65536) :
    Calls Tryd.prog 16 #[.agg #[.int .u16 sz, .int .u8 e, .int .u8 v, .int .u16 f, .slice A l.length ca]] w fun e' w' => e' = .returned (ewR sz e v f l) ∧ w.grownBy w' none := by
  have HA := Lib.hid ha
  have HC := Lib.hid hc
  obtain ⟨i0, hi, hz0, hz1, hz2⟩ := info_parts Tryd.infoByte
  unfold maxLen at hl
  clear ha hc
  go_enter Tryd.func16, Tryd.ntmps16
  go_wp2_with fail
  go_loopw [6, 16] (fun t i wr => ∃ k : Nat, k ≤ l.length ∧ i = .int .i64 k ∧ t = .int .i64 (opsB (l.take k)).length ∧ (opsB (l.take k)).length ≤ 65535 ∧ w.grownBy wr none ∧ wr.heap[w.heap.size]? = some (.cells #[.int .u16 sz, .int .u8 e, .int .u8 v, .int .u16 f, .slice A l.length ca] 27 (0, 0))) (fun _ i _ => l.length - (intOf i).toNat)
  case atStart => exact ⟨0, by omega, rfl, rfl, by simp [opsB], galloc (grefl _ none) _, balloc1_0 _ _⟩
  case round =>
    obtain ⟨k, hk, rfl, rfl, ht, hg, hr⟩ := hrel
    have HG := Lib.hid hg
    have HR := Lib.hid hr
    clear hg hr
    by_cases hlt : k < l.length
    · obtain ⟨b, off, rfl, l0, l1⟩ := (HA.out.kept HG.out).at rfl hlt
      have q0 : (0 : Int) ≤ (k : Int) := by omega
      have q1 : (k : Int) < (l.length : Int) := by omega
      have HL := Lib.hid (opsB_snoc_len l k hlt)
      have HM := Lib.hid (opsB_mem l k hlt)
      have HT := Lib.hid (opsB_take_le l (k + 1))
      generalize l[k] = x at *
      generalize (opsB (l.take k)).length = tot at *
      by_cases h1 : x.2.size ≤ 65535
      · have q2 : decide ((65535 : Int) < (x.2.size : Int)) = false := by simp; omega
        by_cases h2 : tot + 4 + x.2.size ≤ 65535
        · have q3 : decide ((65535 : Int) < (tot : Int) + (4 + (x.2.size : Int))) = false := by simp; omega
          go_wp2_with fail
          go_roundw
          case rel => exact ⟨k + 1, by omega, by go_num, by rw [HL.out]; simp; omega, by rw [HL.out]; exact h2, galloc HG.out _, gblock (galloc (grefl _ none) _) HR.out (by simp)⟩
          case measure => simp [intOf]; omega
        · have q3 : decide ((65535 : Int) < (tot : Int) + (4 + (x.2.size : Int))) = true := by simp; omega
          have HN := Lib.hid (show ¬ okO l by unfold okO; have := HL.out; have := HT.out; omega)
          go_wp2_with fail
          refine bodyPost_ret (results_t4 rfl _ _) rfl ?_
          refine ⟨?_, galloc HG.out _⟩
          unfold ewR
          rw [if_neg HN.out]
          rfl
      · have q2 : decide ((65535 : Int) < (x.2.size : Int)) = true := by simp; omega
        have HN := Lib.hid (show ¬ okO l by unfold okO; have := HM.out; omega)
        go_wp2_with fail
        refine bodyPost_ret (results_t4 rfl _ _) rfl ?_
        refine ⟨?_, galloc HG.out _⟩
        unfold ewR
        rw [if_neg HN.out]
        rfl
    · obtain rfl : k = l.length := by omega
      rw [List.take_length] at *
      obtain ⟨wo, rfl⟩ : ∃ wo : World, wo = wr := ⟨_, rfl⟩
      have HO := Lib.hid (show okO l from ht)
      have c4 : wo.cell? ⟨w.heap.size, 4, none⟩ = some (.slice A l.length ca) := bcellAt HR.out 4
      go_wp2_with (at_make; refine wpList_make_own _ rfl _ _ 42 rfl wo.heap.size 5 i0 (.int .u8 0) 1 Tryd.underlying42 hi hz0 hz1 _ _ _ (opsB l).length rfl rfl (by omega) ?b2 ?b3 (Nat.le_refl _) ?_)
      case b2 => rw [hz2]; omega
      case b3 => unfold maxLen; omega
      intro w0 hown0 hg0
      have G0 := Lib.hid (gtrans HG.out hg0)
      have R0 := Lib.hid (gblock hg0 HR.out (by simp))
      have S0 := Lib.hid (Nat.lt_of_lt_of_le (blt HR.out) hg0.size)
      have O0 := Lib.hid (show Own w0 wo.heap.size (.slice (some ⟨wo.heap.size, 0, none⟩) 0 (opsB l).length) [] from hown0)
      have HB := Lib.hid (blt HR.out)
      have c5 : w0.cell? ⟨w.heap.size, 4, none⟩ = some (.slice A l.length ca) := bcellAt R0.out 4
      clear hown0 hg0 c4 HG HR
      go_wp2_with fail
      go_loopw [9, 38] (fun o i wr => ∃ k : Nat, k ≤ l.length ∧ i = .int .i64 k ∧ Own wr wo.heap.size o (opsB (l.take k)) ∧ w.grownBy wr none ∧ wo.heap.size ≤ wr.heap.size ∧ wr.heap[w.heap.size]? = some (.cells #[.int .u16 sz, .int .u8 e, .int .u8 v, .int .u16 f, .slice A l.length ca] 27 (0, 0))) (fun _ i _ => l.length - (intOf i).toNat)
      case atStart => exact ⟨0, by omega, rfl, O0.out, G0.out, Nat.le_of_lt (O0.out.block _ rfl).2, R0.out⟩
      case round =>
        obtain ⟨k, hk2, rfl, ho, hg, hz, hr⟩ := hrel
        have OW := Lib.hid ho
        have HG := Lib.hid hg
        have HR := Lib.hid hr
        have HZ := Lib.hid hz
        obtain ⟨A0, cap0, rfl, hcap1, hcap2⟩ := ho.shape
        unfold maxLen at hcap2
        clear ho hg hr hz c5
        by_cases hlt2 : k < l.length
        · obtain ⟨b, off, rfl, l0, l1⟩ := (HA.out.kept HG.out).at rfl hlt2
          have q0 : (0 : Int) ≤ (k : Int) := by omega
          have q1 : (k : Int) < (l.length : Int) := by omega
          have HL := Lib.hid (opsB_snoc l k hlt2)
          have hx1 := HC.out l[k] (List.getElem_mem hlt2)
          have hx2 : l[k].2.size ≤ 65535 := Nat.le_trans (opsB_mem l k hlt2) ht
          have hx3 := opsB_snoc_len l k hlt2
          have hx4 := opsB_take_le l (k + 1)
          generalize l[k] = x at *
          have HX := Lib.hid hx1
          go_wp2_with fail
          refine Calls.mono (put2_x _ _ [] x.1 HX.out (Own.nil _ 0).sl (by simp)) ?_
          rintro e' w3 ⟨v3, rfl, hs3, hg3⟩
          have S3 := Lib.hid hs3
          have G3 := Lib.hid (gfr1 hg3)
          have O3 := Lib.hid (OW.out.kept0 (gfr1 hg3))
          have X3 := Lib.hid (gblock hg3 (balloc1_0 wr _) (by simp))
          have BK := Lib.hid OW.out.block
          clear hs3 hg3 OW
          have x1 : w3.cell? ⟨wr.heap.size, 1, none⟩ = some (.string x.2) := bcellAt X3.out 1
          go_wp2_with fail
          refine Calls.mono (put2_x _ _ _ x.2.size (by omega) S3.out (by simp [enc_len])) ?_
          rintro e' w4 ⟨v4, rfl, hs4, hg4⟩
          have S4 := Lib.hid hs4
          have G4 := Lib.hid (gtrans G3.out hg4)
          have O4 := Lib.hid (O3.out.kept0 hg4)
          have X4 := Lib.hid (gblock hg4 X3.out (by simp))
          clear hs4 hg4 O3 X3 S3 x1 G3
          have x1 : w4.cell? ⟨wr.heap.size, 1, none⟩ = some (.string x.2) := bcellAt X4.out 1
          go_wp2_with (at_builtin; refine wpList_app_sl rfl (.tmp 45) (.tmp 51) 42 rfl wo.heap.size i0 Tryd.underlying42 hi hz0 hz1 hz2 (.slice A0 (opsB (List.take k l)).length cap0) (opsB (l.take k)) ([] ++ enc 2 x.1 ++ enc 2 x.2.size) rfl O4.out v4 rfl S4.out ?d1 ?d2 ?_)
          case d1 => simp [enc_len]; omega
          case d2 => exact Nat.le_trans HZ.out G4.out.size
          intro v5 w5 ho5 hg5
          have G5 := Lib.hid (show w.grownBy w5 none from gstep (gtrans HG.out G4.out) hg5 (fun r hr => by have := (BK.out r hr).1; have := HB.out; omega))
          have X5 := Lib.hid (gblock hg5 X4.out (fun e => by have := (BK.out _ e.symm).2; omega))
          have R5 := Lib.hid (gblock hg5 (gblock G4.out HR.out (by simp)) (fun e => by have := (BK.out _ e.symm).1; have := HB.out; omega))
          have O5 := Lib.hid ho5
          have Z5' := Lib.hid (Nat.le_trans HZ.out (Nat.le_trans G4.out.size hg5.size))
          obtain ⟨A5, cap5, rfl, _, _⟩ := ho5.shape
          clear ho5 hg5 x1 X4 O4 S4 G4
          have x1 : w5.cell? ⟨wr.heap.size, 1, none⟩ = some (.string x.2) := bcellAt X5.out 1
          go_wp2_with (at_builtin; refine wpList_app_str rfl (.tmp 53) (.tmp 55) 42 9 rfl wo.heap.size i0 Tryd.underlying42 Tryd.underlying9 hi hz0 hz1 hz2 _ _ rfl O5.out x.2 rfl ?d3 Z5'.out ?_)
          case d3 => simp [enc_len]; omega
          intro v6 w6 ho6 hg6
          have G6 := Lib.hid (show w.grownBy w6 none from gstep G5.out hg6 (fun r hr => by have := (O5.out.block r ((ownB _ _ _ _ _).trans hr)).1; have := HB.out; omega))
          have R6 := Lib.hid (gblock hg6 R5.out (fun e => by have := (O5.out.block _ ((ownB _ _ _ _ _).trans e.symm)).1; have := HB.out; omega))
          have O6 := Lib.hid (show Own w6 wo.heap.size v6 (opsB (l.take (k + 1))) by rw [HL.out]; unfold opB; simpa using ho6)
          have Z6 := Lib.hid (Nat.le_trans Z5'.out hg6.size)
          clear ho6 hg6 x1 X5 O5 R5 G5
          go_wp2_with fail
          go_roundw
          case rel => exact ⟨k + 1, by omega, by go_num, O6.out, G6.out, Z6.out, R6.out⟩
          case measure => simp [intOf]; omega
        · obtain rfl : k = l.length := by omega
          rw [List.take_length] at *
          have d0 : wr.cell? ⟨w.heap.size, 0, none⟩ = some (.int .u16 sz) := bcellAt HR.out 0
          have d1 : wr.cell? ⟨w.heap.size, 1, none⟩ = some (.int .u8 e) := bcellAt HR.out 1
          have d2 : wr.cell? ⟨w.heap.size, 2, none⟩ = some (.int .u8 v) := bcellAt HR.out 2
          have d3 : wr.cell? ⟨w.heap.size, 3, none⟩ = some (.int .u16 f) := bcellAt HR.out 3
          have hcv : ∀ g : Gr wr, _ := fun g => run_string_of (P := Tryd.prog) g.w 42 9 5 Tryd.underlying42 Tryd.underlying5 Tryd.underlying9 (OW.out.sl.kept0 g.h)
          have e0 : ∀ g : Gr wr, g.w.cell? ⟨w.heap.size, 0, none⟩ = some (.int .u16 sz) := Gr.cell d0
          go_wp2_with fail
          refine wp_region_noPanic ?_
          refine wp_region_gr (by kernel_rfl) (by kernel_rfl) ?_
          repeat (go_big_quiet_step (fail))
          refine wpQuiet_nil ?_
          rintro _ ⟨gq, rfl⟩
          refine NoPanic.normal ?_
          go_wp2_with fail
          refine bodyPost_ret (results_t4 rfl _ _) rfl ?_
          refine ⟨?_, gtrans HG.out gq.h⟩
          unfold ewR
          rw [if_pos HO.out]
          rw [ttl_bits e v f he hv hf]
          rfl
end Go.Proofs.YtcednhpelbdoiaaDoor
