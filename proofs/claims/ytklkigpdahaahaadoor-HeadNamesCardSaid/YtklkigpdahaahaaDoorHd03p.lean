/-
  HeadBack: the walks joined.
-/
import Derived.Test.YtklkigpdahaahaaDoorHd03n
namespace Go.Proofs.YtklkigpdahaahaaDoor
open Go.RowKit

theorem from_id (H : Hd) (hb : ¬ H.bad) : fromN 0 (flagsN H) = { H with id := 0 } := by
  have e := from_flags H hb
  have e2 : fromN 0 (flagsN H) = { fromN H.id (flagsN H) with id := 0 } := rfl
  rw [e2, e]
theorem flags_back (n : Nat) (hn : n < 65536) (w : World) (hb : Bt w) : Calls Tryd.prog 14 #[(fromN 0 n).v] w fun e w' => e = .returned (.tuple #[.int .u16 n, .int .i64 0]) ∧ w.grownBy w' none :=
  flags_lit (fromN 0 n) _ n 0 w hb rfl (by unfold flN; rw [if_neg (from_good _ _), flags_from _ _ hn]) (by unfold flE; rw [if_neg (from_good _ _)]; rfl)
theorem flags_good (H : Hd) (hg : ¬ H.bad) (w : World) (hb : Bt w) : Calls Tryd.prog 14 #[H.v] w fun e w' => e = .returned (.tuple #[.int .u16 (flagsN H), .int .i64 0]) ∧ w.grownBy w' none :=
  flags_lit H _ (flagsN H) 0 w hb rfl (by unfold flN; rw [if_neg hg]) (by unfold flE; rw [if_neg hg]; rfl)
theorem write_good (H : Hd) (a b c d : Int) (hi : H.id < 65536) (h : okW H a b c d) (w : World) (hb : Bt w) : Calls Tryd.prog 15 #[H.v, cv a b c d] w fun e w' => e = .returned (.tuple #[.string ⟨(wrL H a b c d).toArray⟩, .int .i64 0]) ∧ w.grownBy w' none := by
  have e := write_any H a b c d w hb hi
  unfold wrS wrE at e
  rw [if_pos h, if_pos h] at e
  exact e
theorem write_no (H : Hd) (a b c d : Int) (hi : H.id < 65536) (h : ¬ okW H a b c d) (w : World) (hb : Bt w) : Calls Tryd.prog 15 #[H.v, cv a b c d] w fun e w' => e = .returned (.tuple #[.string ByteArray.empty, .int .i64 1]) ∧ w.grownBy w' none := by
  have e := write_any H a b c d w hb hi
  unfold wrS wrE at e
  rw [if_neg h, if_neg h] at e
  exact e
theorem write_read (s : ByteArray) (hl : 12 ≤ s.size) (w : World) (hb : Bt w) : Calls Tryd.prog 15 #[(fromN (num s 0 2) (num s 2 2)).v, cv (num s 4 2) (num s 6 2) (num s 8 2) (num s 10 2)] w fun e w' => e = .returned (.tuple #[.string (s.extract 0 12), .int .i64 0]) ∧ w.grownBy w' none := by
  have e := write_any (fromN (num s 0 2) (num s 2 2)) (num s 4 2) (num s 6 2) (num s 8 2) (num s 10 2) w hb (num_lt s 0 2)
  have e1 := wr_read s hl
  unfold wrE at e
  rw [if_pos (ok_read s), e1] at e
  exact e
theorem read_wr (H : Hd) (a b c d : Int) (hi : H.id < 65536) (h : okW H a b c d) (w : World) (he : Et w) (hb : Bt w) : Calls Tryd.prog 9 #[.string ⟨(wrL H a b c d).toArray⟩] w fun e w' => e = .returned (.tuple #[H.v, cv a b c d, .int .i64 0]) ∧ w.grownBy w' none := by
  obtain ⟨_, _, h2, h3, h4, h5⟩ := wr_num H a b c d hi h
  refine read_lit _ _ _ w he hb (by rw [wr_len]; omega) (by rw [wr_len]; unfold maxLen; omega) (by rw [wr_back H a b c d hi h]) (by rw [h2, h3, h4, h5])

theorem back_walk (H : Hd) (a b c d : Int) (s : ByteArray) (n : Nat) (hi : H.id < 65536) (hn : n < 65536) (hs : s.size ≤ maxLen) (w : World) (he : Et w) (hb : Bt w) : Calls Tryd.prog 8 #[H.v, cv a b c d, .string s, .int .u16 n] w fun e w' => e = .returned (.bool true) ∧ w.grownBy w' none := by
  by_cases h : okW H a b c d
  · by_cases hl : 12 ≤ s.size
    · exact back_wr H.id H.op H.code H.qr H.aa H.tc H.rd H.ra H.z H.ad H.cd a b c d _ _ _ _ _ _ _ _ _ _ _ _ _ _ _ ⟨(wrL H a b c d).toArray⟩ s (flagsN H) n _ _ _ _ _ _ _ _ _ _ w he hb (write_good H a b c d hi h) (by rw [wr_len]; rfl) (read_wr H a b c d hi h) (flags_good H h.1) (fun w hb => by have e := from_any (flagsN H) (flagsN_lt H h.1) w hb; rw [from_id H h.1] at e; exact e)
        (fun w he hb => read_lit s _ _ w he hb hl hs rfl rfl) (by omega) (write_read s hl) (from_any n hn) (flags_back n hn)
    · exact back_ws H.id H.op H.code H.qr H.aa H.tc H.rd H.ra H.z H.ad H.cd a b c d _ _ _ _ _ _ _ _ _ _ _ _ _ _ _ ⟨(wrL H a b c d).toArray⟩ s (flagsN H) n _ _ _ _ _ _ _ _ _ _ w he hb (write_good H a b c d hi h) (by rw [wr_len]; rfl) (read_wr H a b c d hi h) (flags_good H h.1) (fun w hb => by have e := from_any (flagsN H) (flagsN_lt H h.1) w hb; rw [from_id H h.1] at e; exact e)
        (fun w _ _ => read_short s w (by omega)) (from_any n hn) (flags_back n hn)
  · by_cases hl : 12 ≤ s.size
    · exact back_nr H.id H.op H.code H.qr H.aa H.tc H.rd H.ra H.z H.ad H.cd a b c d _ _ _ _ _ _ _ _ _ _ _ _ _ _ _ ByteArray.empty s 0 n _ _ _ _ _ _ _ _ _ _ w he hb (write_no H a b c d hi h)
        (fun w he hb => read_lit s _ _ w he hb hl hs rfl rfl) (by omega) (write_read s hl) (from_any n hn) (flags_back n hn)
    · exact back_ns H.id H.op H.code H.qr H.aa H.tc H.rd H.ra H.z H.ad H.cd a b c d _ _ _ _ _ _ _ _ _ _ _ _ _ _ _ ByteArray.empty s 0 n _ _ _ _ _ _ _ _ _ _ w he hb (write_no H a b c d hi h)
        (fun w _ _ => read_short s w (by omega)) (from_any n hn) (flags_back n hn)
end Go.Proofs.YtklkigpdahaahaaDoor
