/-
  Contracts of package cursor: value, Byte, Two, Four, Take, Seek, each for every state.
-/
import Derived.Test.YtijjfdmklbncbaaDoorCurA
import Derived.Test.YtijjfdmklbncbaaDoorCurB
import Derived.Test.YtijjfdmklbncbaaDoorNum
namespace Go.Proofs.YtijjfdmklbncbaaDoor
open Go.RowKit

/-- The package-level variable errors.errorType holds what the program's text lays. -/
def Et (w : World) : Prop := w.cell? ⟨0, 0, none⟩ = some (.iface 135 (.agg #[.pointer (some ⟨1, 114, none⟩)]))
theorem Et.kept {w w' : World} {row : Option Nat} (h : Et w) (g : w.grownBy w' row) (hr : row ≠ some 0) : Et w' := g.cell h (fun e => hr e.symm)
theorem Cur.ne {w : World} {b : Nat} {s : ByteArray} {p : Nat} (h : Cur w b s p) (he : Et w) : (some b : Option Nat) ≠ some 0 := by
  intro e
  have hb : b = 0 := Option.some.inj e
  have hc : w.cell? ⟨b, 0, none⟩ = some (.string s) := bcellAt h 0
  rw [hb] at hc
  unfold Et at he
  rw [hc] at he
  cases he
theorem Cur.kept {w w' : World} {b : Nat} {s : ByteArray} {p : Nat} {row : Option Nat} (h : Cur w b s p) (g : w.grownBy w' row) (hr : some b ≠ row) : Cur w' b s p := gblock g h hr

theorem seek_any (b : Nat) (s : ByteArray) (p : Nat) (w : World) (q : Int) (h : Cur w b s p) : Calls Tryd.prog 59 #[.pointer (some ⟨b, 0, none⟩), .int .i64 q] w fun e w' => e = .returned (.int .i64 (skE s q)) ∧ Cur w' b s (skP s p q) ∧ w.grownBy w' (some b) := by
  by_cases hq : q < 0 ∨ (s.size : Int) < q
  · refine (seek_bad b s p w q h hq).mono ?_
    rintro e w' ⟨rfl, rfl⟩
    simp only [skE, skP, if_pos hq]
    exact ⟨rfl, h, grefl _ _⟩
  · refine (seek_ok b s p w q h (by omega) (by omega)).mono ?_
    rintro e w' ⟨rfl, hc, hg⟩
    simp only [skE, skP, if_neg hq]
    exact ⟨rfl, hc, hg⟩

theorem T_ok (b : Nat) (s : ByteArray) (p : Nat) (w : World) (n : Nat) (h : Cur w b s p) (hq : p + n ≤ s.size) (hs : s.size ≤ maxLen) : Calls Tryd.prog 62 #[.pointer (some ⟨b, 0, none⟩), .int .i64 n] w fun e w' => e = .returned (.tuple #[.string (s.extract p (p + n)), .int .i64 0]) ∧ Cur w' b s (p + n) ∧ w.grownBy w' (some b) := by
  go_enter Tryd.func62, Tryd.ntmps62
  go_wp2_with fail
  refine (take_ok b s p w n h hq hs).mono ?_
  rintro e w1 ⟨rfl, hc1, hg1⟩
  go_wp2_with fail
  refine (number_nil _).mono ?_
  rintro e w2 ⟨rfl, rfl⟩
  go_wp2_with fail
  go_ret2
  exact ⟨rfl, hc1, hg1⟩

theorem T_neg (b : Nat) (s : ByteArray) (p : Nat) (w : World) (n : Int) (h : Cur w b s p) (he : Et w) (hn : n < 0) : Calls Tryd.prog 62 #[.pointer (some ⟨b, 0, none⟩), .int .i64 n] w fun e w' => e = .returned (.tuple #[.string ByteArray.empty, .int .i64 1]) ∧ Cur w' b s p ∧ w.grownBy w' (some b) := by
  go_enter Tryd.func62, Tryd.ntmps62
  go_wp2_with fail
  refine (take_neg b w n hn).mono ?_
  rintro e w1 ⟨rfl, rfl⟩
  go_wp2_with fail
  refine (number_fail 1 w he).mono ?_
  rintro e w2 ⟨rfl, hg⟩
  go_wp2_with fail
  go_ret2
  exact ⟨rfl, h.kept hg (by simp), gmono hg⟩

theorem T_short (b : Nat) (s : ByteArray) (p : Nat) (w : World) (n : Int) (h : Cur w b s p) (he : Et w) (hn : 0 ≤ n) (hp : p ≤ s.size) (hq : s.size < p + n) (hs : s.size ≤ maxLen) : Calls Tryd.prog 62 #[.pointer (some ⟨b, 0, none⟩), .int .i64 n] w fun e w' => e = .returned (.tuple #[.string ByteArray.empty, .int .i64 4]) ∧ Cur w' b s p ∧ w.grownBy w' (some b) := by
  go_enter Tryd.func62, Tryd.ntmps62
  go_wp2_with fail
  refine (take_short b s p w n h hn hp hq hs).mono ?_
  rintro e w1 ⟨rfl, hg1⟩
  go_wp2_with fail
  refine (number_fail 4 w1 (he.kept hg1 (by simp))).mono ?_
  rintro e w2 ⟨rfl, hg⟩
  go_wp2_with fail
  go_ret2
  exact ⟨rfl, h.kept (gtrans hg1 hg) (by simp), gmono (gtrans hg1 hg)⟩

theorem T_any (b : Nat) (s : ByteArray) (p : Nat) (w : World) (n : Int) (h : Cur w b s p) (he : Et w) (hp : p ≤ s.size) (hs : s.size ≤ maxLen) : Calls Tryd.prog 62 #[.pointer (some ⟨b, 0, none⟩), .int .i64 n] w fun e w' => e = .returned (.tuple #[.string (tkS s p n), .int .i64 (tkE s p n)]) ∧ Cur w' b s (tkP s p n) ∧ w.grownBy w' (some b) := by
  by_cases hn : n < 0
  · simp only [tkS, tkE, tkP, if_pos hn]
    exact T_neg b s p w n h he hn
  · by_cases hq : (s.size : Int) < p + n
    · simp only [tkS, tkE, tkP, if_neg hn, if_pos hq]
      exact T_short b s p w n h he (by omega) hp hq hs
    · simp only [tkS, tkE, tkP, if_neg hn, if_neg hq]
      obtain ⟨m, rfl⟩ := Int.eq_ofNat_of_zero_le (show 0 ≤ n by omega)
      exact T_ok b s p w m h (by omega) hs

theorem value_ok (b : Nat) (s : ByteArray) (p : Nat) (w : World) (n : Nat) (h : Cur w b s p) (hq : p + n ≤ s.size) (hs : s.size ≤ maxLen) (hn : n ≤ 4) : Calls Tryd.prog 63 #[.pointer (some ⟨b, 0, none⟩), .int .i64 n] w fun e w' => e = .returned (.tuple #[.int .u32 (num s p n), .int .i64 0]) ∧ Cur w' b s (p + n) ∧ w.grownBy w' (some b) := by
  have hl0 : (s.extract p (p + n)).size = n := by simp; omega
  have HB : Hid (num s p n = be (s.extract p (p + n)).data.toList) := by
    show num s p n = _
    unfold num
    rw [Lib.extract_data]
    simp
  go_enter Tryd.func63, Tryd.ntmps63
  go_wp2_with fail
  refine (take_ok b s p w n h hq hs).mono ?_
  rintro e w1 ⟨rfl, hc1, hg1⟩
  generalize s.extract p (p + n) = l at *
  obtain rfl := hl0
  go_wp2_with fail
  go_loop [8, 9] (fun v i => ∃ (k : Nat), k ≤ l.size ∧ i = .int .i64 k ∧ v = .int .u32 (be (l.data.toList.take k))) (fun _ i => l.size - (intOf i).toNat)
  case atStart => exact ⟨0, by omega, rfl, rfl⟩
  case round =>
    obtain ⟨k, hk, rfl, rfl⟩ := hrel
    by_cases hlt : k < l.size
    · have hx : be (l.data.toList.take k) < 16777216 := by
        refine Nat.lt_of_lt_of_le (be_lt _) ?_
        rw [show (16777216 : Nat) = 256 ^ 3 by rfl]
        refine Nat.pow_le_pow_right (by omega) ?_
        simp; omega
      have HS := Lib.hid (shift_or (be (l.data.toList.take k)) l[k].toNat hx l[k].toNat_lt)
      have HT := Lib.hid (show be (l.data.toList.take (k + 1)) = be (l.data.toList.take k) * 256 + l[k].toNat by rw [take_snoc l k hlt, be_snoc])
      clear hx
      generalize hX : be (l.data.toList.take k) = X at *
      go_wp2
      go_round
      case rel => exact ⟨k + 1, by omega, by go_num, by rw [HS.out, HT.out]⟩
      case measure => simp [intOf]; omega
    · go_wp2
      go_ret2
      refine ⟨?_, hc1, hg1⟩
      rw [HB.out, List.take_of_length_le (by simp; omega)]
      rfl

theorem value_short (b : Nat) (s : ByteArray) (p : Nat) (w : World) (n : Nat) (h : Cur w b s p) (he : Et w) (hp : p ≤ s.size) (hq : s.size < p + n) (hs : s.size ≤ maxLen) : Calls Tryd.prog 63 #[.pointer (some ⟨b, 0, none⟩), .int .i64 n] w fun e w' => e = .returned (.tuple #[.int .u32 0, .int .i64 4]) ∧ Cur w' b s p ∧ w.grownBy w' (some b) := by
  go_enter Tryd.func63, Tryd.ntmps63
  go_wp2_with fail
  refine (take_short b s p w n h (by omega) hp (by omega) hs).mono ?_
  rintro e w1 ⟨rfl, hg1⟩
  go_wp2_with fail
  refine (number_fail 4 w1 (he.kept hg1 (by simp))).mono ?_
  rintro e w2 ⟨rfl, hg⟩
  go_wp2_with fail
  go_ret2
  exact ⟨rfl, h.kept (gtrans hg1 hg) (by simp), gmono (gtrans hg1 hg)⟩

theorem value_any (b : Nat) (s : ByteArray) (p : Nat) (w : World) (n : Nat) (h : Cur w b s p) (he : Et w) (hp : p ≤ s.size) (hs : s.size ≤ maxLen) (hn : n ≤ 4) : Calls Tryd.prog 63 #[.pointer (some ⟨b, 0, none⟩), .int .i64 n] w fun e w' => e = .returned (.tuple #[.int .u32 (rdV s p n), .int .i64 (rdE s p n)]) ∧ Cur w' b s (rdP s p n) ∧ w.grownBy w' (some b) := by
  by_cases hq : p + n ≤ s.size
  · simp only [rdV, rdE, rdP, if_pos hq]
    exact value_ok b s p w n h hq hs hn
  · simp only [rdV, rdE, rdP, if_neg hq]
    exact value_short b s p w n h he hp (by omega) hs

theorem byte_any (b : Nat) (s : ByteArray) (p : Nat) (w : World) (h : Cur w b s p) (he : Et w) (hp : p ≤ s.size) (hs : s.size ≤ maxLen) : Calls Tryd.prog 60 #[.pointer (some ⟨b, 0, none⟩)] w fun e w' => e = .returned (.tuple #[.int .u8 (rdV s p 1), .int .i64 (rdE s p 1)]) ∧ Cur w' b s (rdP s p 1) ∧ w.grownBy w' (some b) := by
  have hv := rdV_lt s p 1
  go_enter Tryd.func60, Tryd.ntmps60
  go_wp2_with fail
  refine (value_any b s p w 1 h he hp hs (by omega)).mono ?_
  rintro e w1 ⟨rfl, hc1, hg1⟩
  go_wp2_with fail
  go_ret2
  exact ⟨by simp, hc1, hg1⟩

theorem value_nil (n : Int) (w : World) (he : Et w) : Calls Tryd.prog 63 #[.pointer none, .int .i64 n] w fun e w' => e = .returned (.tuple #[.int .u32 0, .int .i64 2]) ∧ w.grownBy w' none := by
  go_enter Tryd.func63, Tryd.ntmps63
  go_wp2_with fail
  refine (take_nil w _).mono ?_
  rintro e w1 ⟨rfl, rfl⟩
  go_wp2_with fail
  refine (number_fail 2 w he).mono ?_
  rintro e w2 ⟨rfl, hg⟩
  go_wp2_with fail
  go_ret2
  exact ⟨rfl, hg⟩

theorem T_nil (n : Int) (w : World) (he : Et w) : Calls Tryd.prog 62 #[.pointer none, .int .i64 n] w fun e w' => e = .returned (.tuple #[.string ByteArray.empty, .int .i64 2]) ∧ w.grownBy w' none := by
  go_enter Tryd.func62, Tryd.ntmps62
  go_wp2_with fail
  refine (take_nil w _).mono ?_
  rintro e w1 ⟨rfl, rfl⟩
  go_wp2_with fail
  refine (number_fail 2 w he).mono ?_
  rintro e w2 ⟨rfl, hg⟩
  go_wp2_with fail
  go_ret2
  exact ⟨rfl, hg⟩

theorem byte_nil (w : World) (he : Et w) : Calls Tryd.prog 60 #[.pointer none] w fun e w' => e = .returned (.tuple #[.int .u8 0, .int .i64 2]) ∧ w.grownBy w' none := by
  go_enter Tryd.func60, Tryd.ntmps60
  go_wp2_with fail
  refine (value_nil _ w he).mono ?_
  rintro e w1 ⟨rfl, hg⟩
  go_wp2_with fail
  go_ret2
  exact ⟨rfl, hg⟩

theorem seek_nil (q : Int) (w : World) : Calls Tryd.prog 59 #[.pointer none, .int .i64 q] w fun e w' => e = .returned (.int .i64 2) ∧ w.grownBy w' none := by
  go_enter Tryd.func59, Tryd.ntmps59
  go_wp2_with fail
  go_ret
  exact ⟨rfl, grefl _ _⟩

theorem at_nil (w : World) : Calls Tryd.prog 61 #[.pointer none] w fun e w' => e = .returned (.int .i64 0) ∧ w.grownBy w' none := by
  go_enter Tryd.func61, Tryd.ntmps61
  go_wp2_with fail
  go_ret
  exact ⟨rfl, grefl _ _⟩

theorem new_ex (s : ByteArray) (w : World) : Calls Tryd.prog 58 #[.string s] w fun e w' => ∃ b, e = .returned (.pointer (some ⟨b, 0, none⟩)) ∧ w.heap.size ≤ b ∧ Cur w' b s 0 ∧ w.grownBy w' none :=
  (new_any s w).mono fun _ _ ⟨he, hc, hg⟩ => ⟨_, he, Nat.le_refl _, hc, hg⟩
theorem gstep {a b c : World} {row : Option Nat} (h : a.grownBy b none) (k : b.grownBy c row) (hr : ∀ r, row = some r → a.heap.size ≤ r) : a.grownBy c none :=
  gnew (gtrans (gmono h) k) hr
theorem gstepb {a b c : World} {r : Nat} (h : a.grownBy b none) (k : b.grownBy c (some r)) (hr : a.heap.size ≤ r) : a.grownBy c none :=
  gstep h k (fun x e => by cases e; exact hr)
theorem cur_ne {w : World} {b r : Nat} {s : ByteArray} {p : Nat} (h : Cur w b s p) (hr : w.heap.size ≤ r) : (b : Nat) ≠ r := by have := blt h; omega
end Go.Proofs.YtijjfdmklbncbaaDoor
