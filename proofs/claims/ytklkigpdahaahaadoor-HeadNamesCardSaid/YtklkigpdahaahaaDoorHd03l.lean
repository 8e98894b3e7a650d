/-
  Package head: Write.
-/
import Derived.Test.YtklkigpdahaahaaDoorHd03e
namespace Go.Proofs.YtklkigpdahaahaaDoor
open Go.RowKit

theorem put2_ex (w : World) (va : Value) (a : List UInt8) (x : Nat) (hx : x < 65536) (ha : SlB w va a) (hn : a.length ≤ 70368744177000) : Calls Tryd.prog 22 #[va, .int .u16 x] w fun e w' => ∃ v, e = .returned v ∧ SlB w' v (a ++ enc 2 x) ∧ w.grownBy w' none :=
  (put2_any w va a x hx ha hn).mono fun _ _ ⟨he, ho, hg⟩ => ⟨_, he, ho.sl, hg⟩

set_option maxHeartbeats 4000000 in
set_option maxRecDepth 100000 in
theorem write_ok (H : Hd) (a b c d : Int) (w : World) (hb : Bt w) (hi : H.id < 65536) (hg : ¬ H.bad) (h0 : 0 ≤ a ∧ a ≤ 65535) (h1 : 0 ≤ b ∧ b ≤ 65535) (h2 : 0 ≤ c ∧ c ≤ 65535) (h3 : 0 ≤ d ∧ d ≤ 65535) : Calls Tryd.prog 15 #[H.v, cv a b c d] w fun e w' => e = .returned (.tuple #[.string ⟨(enc 2 H.id ++ enc 2 (flagsN H) ++ enc 2 a.toNat ++ enc 2 b.toNat ++ enc 2 c.toNat ++ enc 2 d.toNat).toArray⟩, .int .i64 0]) ∧ w.grownBy w' none := by
  have HB := Lib.hid hb
  have e1 : flN H = flagsN H := if_neg hg
  have e2 : flE H = 0 := if_neg hg
  have HL := Lib.hid (flagsN_lt H hg)
  obtain ⟨y0, rfl⟩ : ∃ n : Nat, a = n := ⟨a.toNat, by omega⟩
  have p0 : ¬ ((y0 : Nat) : Int) < 0 := by omega
  have q0 : ¬ (65535 : Int) < ((y0 : Nat) : Int) := by omega
  have Y0 := Lib.hid (show y0 < 65536 by omega)
  have m0 : ((y0 : Nat) : Int) % 65536 = ((y0 : Nat) : Int) := by omega
  obtain ⟨y1, rfl⟩ : ∃ n : Nat, b = n := ⟨b.toNat, by omega⟩
  have p1 : ¬ ((y1 : Nat) : Int) < 0 := by omega
  have q1 : ¬ (65535 : Int) < ((y1 : Nat) : Int) := by omega
  have Y1 := Lib.hid (show y1 < 65536 by omega)
  have m1 : ((y1 : Nat) : Int) % 65536 = ((y1 : Nat) : Int) := by omega
  obtain ⟨y2, rfl⟩ : ∃ n : Nat, c = n := ⟨c.toNat, by omega⟩
  have p2 : ¬ ((y2 : Nat) : Int) < 0 := by omega
  have q2 : ¬ (65535 : Int) < ((y2 : Nat) : Int) := by omega
  have Y2 := Lib.hid (show y2 < 65536 by omega)
  have m2 : ((y2 : Nat) : Int) % 65536 = ((y2 : Nat) : Int) := by omega
  obtain ⟨y3, rfl⟩ : ∃ n : Nat, d = n := ⟨d.toNat, by omega⟩
  have p3 : ¬ ((y3 : Nat) : Int) < 0 := by omega
  have q3 : ¬ (65535 : Int) < ((y3 : Nat) : Int) := by omega
  have Y3 := Lib.hid (show y3 < 65536 by omega)
  have m3 : ((y3 : Nat) : Int) % 65536 = ((y3 : Nat) : Int) := by omega
  have HI := Lib.hid hi
  clear hb hg hi
  have i0 : ∀ w, (Instr.index 26 (.agg #[.int .i64 ((y0 : Nat) : Int), .int .i64 ((y1 : Nat) : Int), .int .i64 ((y2 : Nat) : Int), .int .i64 ((y3 : Nat) : Int)]) (.int .i64 0)).run Tryd.prog w = .ok (.int .i64 ((y0 : Nat) : Int)) w := fun _ => by kernel_rfl
  have i1 : ∀ w, (Instr.index 26 (.agg #[.int .i64 ((y0 : Nat) : Int), .int .i64 ((y1 : Nat) : Int), .int .i64 ((y2 : Nat) : Int), .int .i64 ((y3 : Nat) : Int)]) (.int .i64 1)).run Tryd.prog w = .ok (.int .i64 ((y1 : Nat) : Int)) w := fun _ => by kernel_rfl
  have i2 : ∀ w, (Instr.index 26 (.agg #[.int .i64 ((y0 : Nat) : Int), .int .i64 ((y1 : Nat) : Int), .int .i64 ((y2 : Nat) : Int), .int .i64 ((y3 : Nat) : Int)]) (.int .i64 2)).run Tryd.prog w = .ok (.int .i64 ((y2 : Nat) : Int)) w := fun _ => by kernel_rfl
  have i3 : ∀ w, (Instr.index 26 (.agg #[.int .i64 ((y0 : Nat) : Int), .int .i64 ((y1 : Nat) : Int), .int .i64 ((y2 : Nat) : Int), .int .i64 ((y3 : Nat) : Int)]) (.int .i64 3)).run Tryd.prog w = .ok (.int .i64 ((y3 : Nat) : Int)) w := fun _ => by kernel_rfl
  show Calls Tryd.prog 15 #[.agg #[.int .u16 H.id, .bool H.qr, .int .u8 H.op, .bool H.aa, .bool H.tc, .bool H.rd, .bool H.ra, .bool H.z, .bool H.ad, .bool H.cd, .int .u8 H.code], .agg #[.int .i64 ((y0 : Nat) : Int), .int .i64 ((y1 : Nat) : Int), .int .i64 ((y2 : Nat) : Int), .int .i64 ((y3 : Nat) : Int)]] w _
  go_enter Tryd.func15, Tryd.ntmps15
  go_wp2_with fail
  refine Calls.mono (flags_any H _ (HB.out.kept (galloc (galloc (grefl _ none) _) _) (by simp))) ?_
  rw [e1, e2]
  rintro e w1 ⟨rfl, hg⟩
  have G1 := Lib.hid (gfrom2 hg)
  have R1 := Lib.hid (gblock hg (heap_alloc2_old w _ _) (by simp))
  have R2 := Lib.hid (gblock hg (heap_alloc2_new w _ _) (by simp))
  have c0 := bcellAt R1.out 0
  simp only [List.getElem?_toArray, List.getElem?_cons_zero] at c0
  clear hg
  go_wp2_with fail
  refine Calls.mono (put2_ex w1 _ [] H.id HI.out (Own.nil w1 0).sl (by simp)) ?_
  rintro e w2 ⟨v0, rfl, hsl, hg⟩
  have G2 := Lib.hid (gtrans G1.out hg)
  have S2 := Lib.hid hsl
  have R22 := Lib.hid (gblock hg R2.out (by simp))
  clear hg hsl G1 R1 R2 c0
  go_wp2_with fail
  refine Calls.mono (put2_ex w2 _ _ (flagsN H) HL.out S2.out (by simp [enc_len])) ?_
  rintro e w3 ⟨v1, rfl, hsl, hg⟩
  have G3 := Lib.hid (gtrans G2.out hg)
  have S3 := Lib.hid hsl
  have R23 := Lib.hid (gblock hg R22.out (by simp))
  clear hg hsl G2 S2 R22
  have ca0 := bcellAt R23.out 0
  have ca1 := bcellAt R23.out 1
  have ca2 := bcellAt R23.out 2
  have ca3 := bcellAt R23.out 3
  simp only [List.getElem?_toArray, List.getElem?_cons_zero, List.getElem?_cons_succ] at ca0 ca1 ca2 ca3
  go_wp2_with fail
  refine wp_loop_rounds 5 ?_
  clear ca0 ca1 ca2 ca3 R23
  rw [rounds_succ]
  go_wp2_with fail
  refine Calls.mono (put2_ex _ _ _ y0 Y0.out S3.out (by simp [enc_len])) ?_
  rintro e w4 ⟨v2, rfl, hsl, hg⟩
  have G4 := Lib.hid (gtrans G3.out hg)
  have S4 := Lib.hid hsl
  clear hg hsl G3 S3
  go_wp2_with fail
  rw [rounds_succ]
  go_wp2_with fail
  refine Calls.mono (put2_ex _ _ _ y1 Y1.out S4.out (by simp [enc_len])) ?_
  rintro e w5 ⟨v3, rfl, hsl, hg⟩
  have G5 := Lib.hid (gtrans G4.out hg)
  have S5 := Lib.hid hsl
  clear hg hsl G4 S4
  go_wp2_with fail
  rw [rounds_succ]
  go_wp2_with fail
  refine Calls.mono (put2_ex _ _ _ y2 Y2.out S5.out (by simp [enc_len])) ?_
  rintro e w6 ⟨v4, rfl, hsl, hg⟩
  have G6 := Lib.hid (gtrans G5.out hg)
  have S6 := Lib.hid hsl
  clear hg hsl G5 S5
  go_wp2_with fail
  rw [rounds_succ]
  go_wp2_with fail
  refine Calls.mono (put2_ex _ _ _ y3 Y3.out S6.out (by simp [enc_len])) ?_
  rintro e w7 ⟨v5, rfl, hsl, hg⟩
  have G7 := Lib.hid (gtrans G6.out hg)
  have S7 := Lib.hid hsl
  clear hg hsl G6 S6
  go_wp2_with fail
  rw [rounds_succ]
  have st := run_string_of (P := Tryd.prog) w7 45 9 5 Tryd.underlying45 Tryd.underlying5 Tryd.underlying9 S7.out
  go_wp2
  go_ret2
  exact ⟨rfl, G7.out⟩

set_option maxHeartbeats 4000000 in
set_option maxRecDepth 100000 in
theorem write_c3 (H : Hd) (a b c d : Int) (w : World) (hb : Bt w) (hi : H.id < 65536) (hg : ¬ H.bad) (h0 : 0 ≤ a ∧ a ≤ 65535) (h1 : 0 ≤ b ∧ b ≤ 65535) (h2 : 0 ≤ c ∧ c ≤ 65535) (hx : d < 0 ∨ 65535 < d) : Calls Tryd.prog 15 #[H.v, cv a b c d] w fun e w' => e = .returned (.tuple #[.string ByteArray.empty, .int .i64 1]) ∧ w.grownBy w' none := by
  have HB := Lib.hid hb
  have e1 : flN H = flagsN H := if_neg hg
  have e2 : flE H = 0 := if_neg hg
  have HL := Lib.hid (flagsN_lt H hg)
  obtain ⟨y0, rfl⟩ : ∃ n : Nat, a = n := ⟨a.toNat, by omega⟩
  have p0 : ¬ ((y0 : Nat) : Int) < 0 := by omega
  have q0 : ¬ (65535 : Int) < ((y0 : Nat) : Int) := by omega
  have Y0 := Lib.hid (show y0 < 65536 by omega)
  have m0 : ((y0 : Nat) : Int) % 65536 = ((y0 : Nat) : Int) := by omega
  obtain ⟨y1, rfl⟩ : ∃ n : Nat, b = n := ⟨b.toNat, by omega⟩
  have p1 : ¬ ((y1 : Nat) : Int) < 0 := by omega
  have q1 : ¬ (65535 : Int) < ((y1 : Nat) : Int) := by omega
  have Y1 := Lib.hid (show y1 < 65536 by omega)
  have m1 : ((y1 : Nat) : Int) % 65536 = ((y1 : Nat) : Int) := by omega
  obtain ⟨y2, rfl⟩ : ∃ n : Nat, c = n := ⟨c.toNat, by omega⟩
  have p2 : ¬ ((y2 : Nat) : Int) < 0 := by omega
  have q2 : ¬ (65535 : Int) < ((y2 : Nat) : Int) := by omega
  have Y2 := Lib.hid (show y2 < 65536 by omega)
  have m2 : ((y2 : Nat) : Int) % 65536 = ((y2 : Nat) : Int) := by omega
  have HI := Lib.hid hi
  clear hb hg hi
  have i0 : ∀ w, (Instr.index 26 (.agg #[.int .i64 ((y0 : Nat) : Int), .int .i64 ((y1 : Nat) : Int), .int .i64 ((y2 : Nat) : Int), .int .i64 d]) (.int .i64 0)).run Tryd.prog w = .ok (.int .i64 ((y0 : Nat) : Int)) w := fun _ => by kernel_rfl
  have i1 : ∀ w, (Instr.index 26 (.agg #[.int .i64 ((y0 : Nat) : Int), .int .i64 ((y1 : Nat) : Int), .int .i64 ((y2 : Nat) : Int), .int .i64 d]) (.int .i64 1)).run Tryd.prog w = .ok (.int .i64 ((y1 : Nat) : Int)) w := fun _ => by kernel_rfl
  have i2 : ∀ w, (Instr.index 26 (.agg #[.int .i64 ((y0 : Nat) : Int), .int .i64 ((y1 : Nat) : Int), .int .i64 ((y2 : Nat) : Int), .int .i64 d]) (.int .i64 2)).run Tryd.prog w = .ok (.int .i64 ((y2 : Nat) : Int)) w := fun _ => by kernel_rfl
  have i3 : ∀ w, (Instr.index 26 (.agg #[.int .i64 ((y0 : Nat) : Int), .int .i64 ((y1 : Nat) : Int), .int .i64 ((y2 : Nat) : Int), .int .i64 d]) (.int .i64 3)).run Tryd.prog w = .ok (.int .i64 d) w := fun _ => by kernel_rfl
  show Calls Tryd.prog 15 #[.agg #[.int .u16 H.id, .bool H.qr, .int .u8 H.op, .bool H.aa, .bool H.tc, .bool H.rd, .bool H.ra, .bool H.z, .bool H.ad, .bool H.cd, .int .u8 H.code], .agg #[.int .i64 ((y0 : Nat) : Int), .int .i64 ((y1 : Nat) : Int), .int .i64 ((y2 : Nat) : Int), .int .i64 d]] w _
  go_enter Tryd.func15, Tryd.ntmps15
  go_wp2_with fail
  refine Calls.mono (flags_any H _ (HB.out.kept (galloc (galloc (grefl _ none) _) _) (by simp))) ?_
  rw [e1, e2]
  rintro e w1 ⟨rfl, hg⟩
  have G1 := Lib.hid (gfrom2 hg)
  have R1 := Lib.hid (gblock hg (heap_alloc2_old w _ _) (by simp))
  have R2 := Lib.hid (gblock hg (heap_alloc2_new w _ _) (by simp))
  have c0 := bcellAt R1.out 0
  simp only [List.getElem?_toArray, List.getElem?_cons_zero] at c0
  clear hg
  go_wp2_with fail
  refine Calls.mono (put2_ex w1 _ [] H.id HI.out (Own.nil w1 0).sl (by simp)) ?_
  rintro e w2 ⟨v0, rfl, hsl, hg⟩
  have G2 := Lib.hid (gtrans G1.out hg)
  have S2 := Lib.hid hsl
  have R22 := Lib.hid (gblock hg R2.out (by simp))
  clear hg hsl G1 R1 R2 c0
  go_wp2_with fail
  refine Calls.mono (put2_ex w2 _ _ (flagsN H) HL.out S2.out (by simp [enc_len])) ?_
  rintro e w3 ⟨v1, rfl, hsl, hg⟩
  have G3 := Lib.hid (gtrans G2.out hg)
  have S3 := Lib.hid hsl
  have R23 := Lib.hid (gblock hg R22.out (by simp))
  clear hg hsl G2 S2 R22
  have ca0 := bcellAt R23.out 0
  have ca1 := bcellAt R23.out 1
  have ca2 := bcellAt R23.out 2
  have ca3 := bcellAt R23.out 3
  simp only [List.getElem?_toArray, List.getElem?_cons_zero, List.getElem?_cons_succ] at ca0 ca1 ca2 ca3
  go_wp2_with fail
  refine wp_loop_rounds 5 ?_
  clear ca0 ca1 ca2 ca3 R23
  rw [rounds_succ]
  go_wp2_with fail
  refine Calls.mono (put2_ex _ _ _ y0 Y0.out S3.out (by simp [enc_len])) ?_
  rintro e w4 ⟨v2, rfl, hsl, hg⟩
  have G4 := Lib.hid (gtrans G3.out hg)
  have S4 := Lib.hid hsl
  clear hg hsl G3 S3
  go_wp2_with fail
  rw [rounds_succ]
  go_wp2_with fail
  refine Calls.mono (put2_ex _ _ _ y1 Y1.out S4.out (by simp [enc_len])) ?_
  rintro e w5 ⟨v3, rfl, hsl, hg⟩
  have G5 := Lib.hid (gtrans G4.out hg)
  have S5 := Lib.hid hsl
  clear hg hsl G4 S4
  go_wp2_with fail
  rw [rounds_succ]
  go_wp2_with fail
  refine Calls.mono (put2_ex _ _ _ y2 Y2.out S5.out (by simp [enc_len])) ?_
  rintro e w6 ⟨v4, rfl, hsl, hg⟩
  have G6 := Lib.hid (gtrans G5.out hg)
  have S6 := Lib.hid hsl
  clear hg hsl G5 S5
  go_wp2_with fail
  rw [rounds_succ]
  by_cases hn : d < 0
  · go_wp2
    go_ret2
    exact ⟨rfl, G6.out⟩
  · have hn2 : 65535 < d := by omega
    go_wp2
    go_ret2
    exact ⟨rfl, G6.out⟩

set_option maxHeartbeats 4000000 in
set_option maxRecDepth 100000 in
theorem write_c2 (H : Hd) (a b c d : Int) (w : World) (hb : Bt w) (hi : H.id < 65536) (hg : ¬ H.bad) (h0 : 0 ≤ a ∧ a ≤ 65535) (h1 : 0 ≤ b ∧ b ≤ 65535) (hx : c < 0 ∨ 65535 < c) : Calls Tryd.prog 15 #[H.v, cv a b c d] w fun e w' => e = .returned (.tuple #[.string ByteArray.empty, .int .i64 1]) ∧ w.grownBy w' none := by
  have HB := Lib.hid hb
  have e1 : flN H = flagsN H := if_neg hg
  have e2 : flE H = 0 := if_neg hg
  have HL := Lib.hid (flagsN_lt H hg)
  obtain ⟨y0, rfl⟩ : ∃ n : Nat, a = n := ⟨a.toNat, by omega⟩
  have p0 : ¬ ((y0 : Nat) : Int) < 0 := by omega
  have q0 : ¬ (65535 : Int) < ((y0 : Nat) : Int) := by omega
  have Y0 := Lib.hid (show y0 < 65536 by omega)
  have m0 : ((y0 : Nat) : Int) % 65536 = ((y0 : Nat) : Int) := by omega
  obtain ⟨y1, rfl⟩ : ∃ n : Nat, b = n := ⟨b.toNat, by omega⟩
  have p1 : ¬ ((y1 : Nat) : Int) < 0 := by omega
  have q1 : ¬ (65535 : Int) < ((y1 : Nat) : Int) := by omega
  have Y1 := Lib.hid (show y1 < 65536 by omega)
  have m1 : ((y1 : Nat) : Int) % 65536 = ((y1 : Nat) : Int) := by omega
  have HI := Lib.hid hi
  clear hb hg hi
  have i0 : ∀ w, (Instr.index 26 (.agg #[.int .i64 ((y0 : Nat) : Int), .int .i64 ((y1 : Nat) : Int), .int .i64 c, .int .i64 d]) (.int .i64 0)).run Tryd.prog w = .ok (.int .i64 ((y0 : Nat) : Int)) w := fun _ => by kernel_rfl
  have i1 : ∀ w, (Instr.index 26 (.agg #[.int .i64 ((y0 : Nat) : Int), .int .i64 ((y1 : Nat) : Int), .int .i64 c, .int .i64 d]) (.int .i64 1)).run Tryd.prog w = .ok (.int .i64 ((y1 : Nat) : Int)) w := fun _ => by kernel_rfl
  have i2 : ∀ w, (Instr.index 26 (.agg #[.int .i64 ((y0 : Nat) : Int), .int .i64 ((y1 : Nat) : Int), .int .i64 c, .int .i64 d]) (.int .i64 2)).run Tryd.prog w = .ok (.int .i64 c) w := fun _ => by kernel_rfl
  have i3 : ∀ w, (Instr.index 26 (.agg #[.int .i64 ((y0 : Nat) : Int), .int .i64 ((y1 : Nat) : Int), .int .i64 c, .int .i64 d]) (.int .i64 3)).run Tryd.prog w = .ok (.int .i64 d) w := fun _ => by kernel_rfl
  show Calls Tryd.prog 15 #[.agg #[.int .u16 H.id, .bool H.qr, .int .u8 H.op, .bool H.aa, .bool H.tc, .bool H.rd, .bool H.ra, .bool H.z, .bool H.ad, .bool H.cd, .int .u8 H.code], .agg #[.int .i64 ((y0 : Nat) : Int), .int .i64 ((y1 : Nat) : Int), .int .i64 c, .int .i64 d]] w _
  go_enter Tryd.func15, Tryd.ntmps15
  go_wp2_with fail
  refine Calls.mono (flags_any H _ (HB.out.kept (galloc (galloc (grefl _ none) _) _) (by simp))) ?_
  rw [e1, e2]
  rintro e w1 ⟨rfl, hg⟩
  have G1 := Lib.hid (gfrom2 hg)
  have R1 := Lib.hid (gblock hg (heap_alloc2_old w _ _) (by simp))
  have R2 := Lib.hid (gblock hg (heap_alloc2_new w _ _) (by simp))
  have c0 := bcellAt R1.out 0
  simp only [List.getElem?_toArray, List.getElem?_cons_zero] at c0
  clear hg
  go_wp2_with fail
  refine Calls.mono (put2_ex w1 _ [] H.id HI.out (Own.nil w1 0).sl (by simp)) ?_
  rintro e w2 ⟨v0, rfl, hsl, hg⟩
  have G2 := Lib.hid (gtrans G1.out hg)
  have S2 := Lib.hid hsl
  have R22 := Lib.hid (gblock hg R2.out (by simp))
  clear hg hsl G1 R1 R2 c0
  go_wp2_with fail
  refine Calls.mono (put2_ex w2 _ _ (flagsN H) HL.out S2.out (by simp [enc_len])) ?_
  rintro e w3 ⟨v1, rfl, hsl, hg⟩
  have G3 := Lib.hid (gtrans G2.out hg)
  have S3 := Lib.hid hsl
  have R23 := Lib.hid (gblock hg R22.out (by simp))
  clear hg hsl G2 S2 R22
  have ca0 := bcellAt R23.out 0
  have ca1 := bcellAt R23.out 1
  have ca2 := bcellAt R23.out 2
  have ca3 := bcellAt R23.out 3
  simp only [List.getElem?_toArray, List.getElem?_cons_zero, List.getElem?_cons_succ] at ca0 ca1 ca2 ca3
  go_wp2_with fail
  refine wp_loop_rounds 5 ?_
  clear ca0 ca1 ca2 ca3 R23
  rw [rounds_succ]
  go_wp2_with fail
  refine Calls.mono (put2_ex _ _ _ y0 Y0.out S3.out (by simp [enc_len])) ?_
  rintro e w4 ⟨v2, rfl, hsl, hg⟩
  have G4 := Lib.hid (gtrans G3.out hg)
  have S4 := Lib.hid hsl
  clear hg hsl G3 S3
  go_wp2_with fail
  rw [rounds_succ]
  go_wp2_with fail
  refine Calls.mono (put2_ex _ _ _ y1 Y1.out S4.out (by simp [enc_len])) ?_
  rintro e w5 ⟨v3, rfl, hsl, hg⟩
  have G5 := Lib.hid (gtrans G4.out hg)
  have S5 := Lib.hid hsl
  clear hg hsl G4 S4
  go_wp2_with fail
  rw [rounds_succ]
  by_cases hn : c < 0
  · go_wp2
    go_ret2
    exact ⟨rfl, G5.out⟩
  · have hn2 : 65535 < c := by omega
    go_wp2
    go_ret2
    exact ⟨rfl, G5.out⟩

set_option maxHeartbeats 4000000 in
set_option maxRecDepth 100000 in
theorem write_c1 (H : Hd) (a b c d : Int) (w : World) (hb : Bt w) (hi : H.id < 65536) (hg : ¬ H.bad) (h0 : 0 ≤ a ∧ a ≤ 65535) (hx : b < 0 ∨ 65535 < b) : Calls Tryd.prog 15 #[H.v, cv a b c d] w fun e w' => e = .returned (.tuple #[.string ByteArray.empty, .int .i64 1]) ∧ w.grownBy w' none := by
  have HB := Lib.hid hb
  have e1 : flN H = flagsN H := if_neg hg
  have e2 : flE H = 0 := if_neg hg
  have HL := Lib.hid (flagsN_lt H hg)
  obtain ⟨y0, rfl⟩ : ∃ n : Nat, a = n := ⟨a.toNat, by omega⟩
  have p0 : ¬ ((y0 : Nat) : Int) < 0 := by omega
  have q0 : ¬ (65535 : Int) < ((y0 : Nat) : Int) := by omega
  have Y0 := Lib.hid (show y0 < 65536 by omega)
  have m0 : ((y0 : Nat) : Int) % 65536 = ((y0 : Nat) : Int) := by omega
  have HI := Lib.hid hi
  clear hb hg hi
  have i0 : ∀ w, (Instr.index 26 (.agg #[.int .i64 ((y0 : Nat) : Int), .int .i64 b, .int .i64 c, .int .i64 d]) (.int .i64 0)).run Tryd.prog w = .ok (.int .i64 ((y0 : Nat) : Int)) w := fun _ => by kernel_rfl
  have i1 : ∀ w, (Instr.index 26 (.agg #[.int .i64 ((y0 : Nat) : Int), .int .i64 b, .int .i64 c, .int .i64 d]) (.int .i64 1)).run Tryd.prog w = .ok (.int .i64 b) w := fun _ => by kernel_rfl
  have i2 : ∀ w, (Instr.index 26 (.agg #[.int .i64 ((y0 : Nat) : Int), .int .i64 b, .int .i64 c, .int .i64 d]) (.int .i64 2)).run Tryd.prog w = .ok (.int .i64 c) w := fun _ => by kernel_rfl
  have i3 : ∀ w, (Instr.index 26 (.agg #[.int .i64 ((y0 : Nat) : Int), .int .i64 b, .int .i64 c, .int .i64 d]) (.int .i64 3)).run Tryd.prog w = .ok (.int .i64 d) w := fun _ => by kernel_rfl
  show Calls Tryd.prog 15 #[.agg #[.int .u16 H.id, .bool H.qr, .int .u8 H.op, .bool H.aa, .bool H.tc, .bool H.rd, .bool H.ra, .bool H.z, .bool H.ad, .bool H.cd, .int .u8 H.code], .agg #[.int .i64 ((y0 : Nat) : Int), .int .i64 b, .int .i64 c, .int .i64 d]] w _
  go_enter Tryd.func15, Tryd.ntmps15
  go_wp2_with fail
  refine Calls.mono (flags_any H _ (HB.out.kept (galloc (galloc (grefl _ none) _) _) (by simp))) ?_
  rw [e1, e2]
  rintro e w1 ⟨rfl, hg⟩
  have G1 := Lib.hid (gfrom2 hg)
  have R1 := Lib.hid (gblock hg (heap_alloc2_old w _ _) (by simp))
  have R2 := Lib.hid (gblock hg (heap_alloc2_new w _ _) (by simp))
  have c0 := bcellAt R1.out 0
  simp only [List.getElem?_toArray, List.getElem?_cons_zero] at c0
  clear hg
  go_wp2_with fail
  refine Calls.mono (put2_ex w1 _ [] H.id HI.out (Own.nil w1 0).sl (by simp)) ?_
  rintro e w2 ⟨v0, rfl, hsl, hg⟩
  have G2 := Lib.hid (gtrans G1.out hg)
  have S2 := Lib.hid hsl
  have R22 := Lib.hid (gblock hg R2.out (by simp))
  clear hg hsl G1 R1 R2 c0
  go_wp2_with fail
  refine Calls.mono (put2_ex w2 _ _ (flagsN H) HL.out S2.out (by simp [enc_len])) ?_
  rintro e w3 ⟨v1, rfl, hsl, hg⟩
  have G3 := Lib.hid (gtrans G2.out hg)
  have S3 := Lib.hid hsl
  have R23 := Lib.hid (gblock hg R22.out (by simp))
  clear hg hsl G2 S2 R22
  have ca0 := bcellAt R23.out 0
  have ca1 := bcellAt R23.out 1
  have ca2 := bcellAt R23.out 2
  have ca3 := bcellAt R23.out 3
  simp only [List.getElem?_toArray, List.getElem?_cons_zero, List.getElem?_cons_succ] at ca0 ca1 ca2 ca3
  go_wp2_with fail
  refine wp_loop_rounds 5 ?_
  clear ca0 ca1 ca2 ca3 R23
  rw [rounds_succ]
  go_wp2_with fail
  refine Calls.mono (put2_ex _ _ _ y0 Y0.out S3.out (by simp [enc_len])) ?_
  rintro e w4 ⟨v2, rfl, hsl, hg⟩
  have G4 := Lib.hid (gtrans G3.out hg)
  have S4 := Lib.hid hsl
  clear hg hsl G3 S3
  go_wp2_with fail
  rw [rounds_succ]
  by_cases hn : b < 0
  · go_wp2
    go_ret2
    exact ⟨rfl, G4.out⟩
  · have hn2 : 65535 < b := by omega
    go_wp2
    go_ret2
    exact ⟨rfl, G4.out⟩

set_option maxHeartbeats 4000000 in
set_option maxRecDepth 100000 in
theorem write_c0 (H : Hd) (a b c d : Int) (w : World) (hb : Bt w) (hi : H.id < 65536) (hg : ¬ H.bad) (hx : a < 0 ∨ 65535 < a) : Calls Tryd.prog 15 #[H.v, cv a b c d] w fun e w' => e = .returned (.tuple #[.string ByteArray.empty, .int .i64 1]) ∧ w.grownBy w' none := by
  have HB := Lib.hid hb
  have e1 : flN H = flagsN H := if_neg hg
  have e2 : flE H = 0 := if_neg hg
  have HL := Lib.hid (flagsN_lt H hg)
  have HI := Lib.hid hi
  clear hb hg hi
  have i0 : ∀ w, (Instr.index 26 (.agg #[.int .i64 a, .int .i64 b, .int .i64 c, .int .i64 d]) (.int .i64 0)).run Tryd.prog w = .ok (.int .i64 a) w := fun _ => by kernel_rfl
  have i1 : ∀ w, (Instr.index 26 (.agg #[.int .i64 a, .int .i64 b, .int .i64 c, .int .i64 d]) (.int .i64 1)).run Tryd.prog w = .ok (.int .i64 b) w := fun _ => by kernel_rfl
  have i2 : ∀ w, (Instr.index 26 (.agg #[.int .i64 a, .int .i64 b, .int .i64 c, .int .i64 d]) (.int .i64 2)).run Tryd.prog w = .ok (.int .i64 c) w := fun _ => by kernel_rfl
  have i3 : ∀ w, (Instr.index 26 (.agg #[.int .i64 a, .int .i64 b, .int .i64 c, .int .i64 d]) (.int .i64 3)).run Tryd.prog w = .ok (.int .i64 d) w := fun _ => by kernel_rfl
  show Calls Tryd.prog 15 #[.agg #[.int .u16 H.id, .bool H.qr, .int .u8 H.op, .bool H.aa, .bool H.tc, .bool H.rd, .bool H.ra, .bool H.z, .bool H.ad, .bool H.cd, .int .u8 H.code], .agg #[.int .i64 a, .int .i64 b, .int .i64 c, .int .i64 d]] w _
  go_enter Tryd.func15, Tryd.ntmps15
  go_wp2_with fail
  refine Calls.mono (flags_any H _ (HB.out.kept (galloc (galloc (grefl _ none) _) _) (by simp))) ?_
  rw [e1, e2]
  rintro e w1 ⟨rfl, hg⟩
  have G1 := Lib.hid (gfrom2 hg)
  have R1 := Lib.hid (gblock hg (heap_alloc2_old w _ _) (by simp))
  have R2 := Lib.hid (gblock hg (heap_alloc2_new w _ _) (by simp))
  have c0 := bcellAt R1.out 0
  simp only [List.getElem?_toArray, List.getElem?_cons_zero] at c0
  clear hg
  go_wp2_with fail
  refine Calls.mono (put2_ex w1 _ [] H.id HI.out (Own.nil w1 0).sl (by simp)) ?_
  rintro e w2 ⟨v0, rfl, hsl, hg⟩
  have G2 := Lib.hid (gtrans G1.out hg)
  have S2 := Lib.hid hsl
  have R22 := Lib.hid (gblock hg R2.out (by simp))
  clear hg hsl G1 R1 R2 c0
  go_wp2_with fail
  refine Calls.mono (put2_ex w2 _ _ (flagsN H) HL.out S2.out (by simp [enc_len])) ?_
  rintro e w3 ⟨v1, rfl, hsl, hg⟩
  have G3 := Lib.hid (gtrans G2.out hg)
  have S3 := Lib.hid hsl
  have R23 := Lib.hid (gblock hg R22.out (by simp))
  clear hg hsl G2 S2 R22
  have ca0 := bcellAt R23.out 0
  have ca1 := bcellAt R23.out 1
  have ca2 := bcellAt R23.out 2
  have ca3 := bcellAt R23.out 3
  simp only [List.getElem?_toArray, List.getElem?_cons_zero, List.getElem?_cons_succ] at ca0 ca1 ca2 ca3
  go_wp2_with fail
  refine wp_loop_rounds 5 ?_
  clear ca0 ca1 ca2 ca3 R23
  rw [rounds_succ]
  by_cases hn : a < 0
  · go_wp2
    go_ret2
    exact ⟨rfl, G3.out⟩
  · have hn2 : 65535 < a := by omega
    go_wp2
    go_ret2
    exact ⟨rfl, G3.out⟩

set_option maxHeartbeats 4000000 in
set_option maxRecDepth 100000 in
theorem write_bad (H : Hd) (a b c d : Int) (w : World) (hb : Bt w) (hg : H.bad) : Calls Tryd.prog 15 #[H.v, cv a b c d] w fun e w' => e = .returned (.tuple #[.string ByteArray.empty, .int .i64 1]) ∧ w.grownBy w' none := by
  have HB := Lib.hid hb
  have e1 : flN H = 0 := if_pos hg
  have e2 : flE H = 1 := if_pos hg
  clear hb hg
  show Calls Tryd.prog 15 #[.agg #[.int .u16 H.id, .bool H.qr, .int .u8 H.op, .bool H.aa, .bool H.tc, .bool H.rd, .bool H.ra, .bool H.z, .bool H.ad, .bool H.cd, .int .u8 H.code], .agg #[.int .i64 a, .int .i64 b, .int .i64 c, .int .i64 d]] w _
  go_enter Tryd.func15, Tryd.ntmps15
  go_wp2_with fail
  refine Calls.mono (flags_any H _ (HB.out.kept (galloc (galloc (grefl _ none) _) _) (by simp))) ?_
  rw [e1, e2]
  rintro e w1 ⟨rfl, hg⟩
  have G1 := Lib.hid (gfrom2 hg)
  clear hg
  go_wp2
  go_ret2
  exact ⟨rfl, G1.out⟩

/-- May this header with these counts be written? -/
def okW (H : Hd) (a b c d : Int) : Prop := ¬ H.bad ∧ (0 ≤ a ∧ a ≤ 65535) ∧ (0 ≤ b ∧ b ≤ 65535) ∧ (0 ≤ c ∧ c ≤ 65535) ∧ (0 ≤ d ∧ d ≤ 65535)
instance (H : Hd) (a b c d : Int) : Decidable (okW H a b c d) := inferInstanceAs (Decidable (_ ∧ _))
def wrL (H : Hd) (a b c d : Int) : List UInt8 := enc 2 H.id ++ enc 2 (flagsN H) ++ enc 2 a.toNat ++ enc 2 b.toNat ++ enc 2 c.toNat ++ enc 2 d.toNat
def wrS (H : Hd) (a b c d : Int) : ByteArray := if okW H a b c d then ⟨(wrL H a b c d).toArray⟩ else ByteArray.empty
def wrE (H : Hd) (a b c d : Int) : Int := if okW H a b c d then 0 else 1
theorem write_any (H : Hd) (a b c d : Int) (w : World) (hb : Bt w) (hi : H.id < 65536) : Calls Tryd.prog 15 #[H.v, cv a b c d] w fun e w' => e = .returned (.tuple #[.string (wrS H a b c d), .int .i64 (wrE H a b c d)]) ∧ w.grownBy w' none := by
  unfold wrS wrE
  by_cases h : okW H a b c d
  · rw [if_pos h, if_pos h]
    exact write_ok H a b c d w hb hi h.1 h.2.1 h.2.2.1 h.2.2.2.1 h.2.2.2.2
  · rw [if_neg h, if_neg h]
    unfold okW at h
    by_cases hg : H.bad
    · exact write_bad H a b c d w hb hg
    by_cases h0 : 0 ≤ a ∧ a ≤ 65535
    · by_cases h1 : 0 ≤ b ∧ b ≤ 65535
      · by_cases h2 : 0 ≤ c ∧ c ≤ 65535
        · exact write_c3 H a b c d w hb hi hg h0 h1 h2 (by have h3 : ¬ (0 ≤ d ∧ d ≤ 65535) := fun h3 => h ⟨hg, h0, h1, h2, h3⟩; omega)
        · exact write_c2 H a b c d w hb hi hg h0 h1 (by omega)
      · exact write_c1 H a b c d w hb hi hg h0 (by omega)
    · exact write_c0 H a b c d w hb hi hg (by omega)
end Go.Proofs.YtklkigpdahaahaaDoor
