/-
  hustingslaw02.CursorBack is true: its walk.
-/
import Derived.Test.YtndkgogohlikiaaDoorAwake02
import Derived.Test.YtndkgogohlikiaaDoorCurG
namespace Go.Proofs.YtndkgogohlikiaaDoor
open Go.RowKit Go.BigFrame

/-- How many bytes the number i has. -/
def pk (i : Nat) : Nat := if i % 3 = 0 then 1 else if i % 3 = 1 then 2 else 4
/-- The bytes of the first k numbers. -/
def pbs (f : Nat → Nat) : Nat → List UInt8
  | 0 => []
  | k + 1 => pbs f k ++ enc (pk k) (f k)
theorem pk_le (i : Nat) : 1 ≤ pk i ∧ pk i ≤ 4 := by unfold pk; repeat' split
                                                    all_goals omega
theorem pbs_len (f : Nat → Nat) (k : Nat) : (pbs f k).length ≤ 4 * k := by
  induction k with
  | zero => simp [pbs]
  | succ k ih => have := pk_le k; simp [pbs, enc_len]; omega
theorem pbs_succ_len (f : Nat → Nat) (k : Nat) : (pbs f (k + 1)).length = (pbs f k).length + pk k := by simp [pbs, enc_len]
theorem pbs_mono (f : Nat → Nat) (k n : Nat) (h : k ≤ n) : ∃ r, pbs f n = pbs f k ++ r := by
  induction n with
  | zero => obtain rfl : k = 0 := by omega
            exact ⟨[], by simp⟩
  | succ n ih =>
    by_cases hk : k = n + 1
    · subst hk; exact ⟨[], by simp⟩
    · obtain ⟨r, hr⟩ := ih (by omega)
      exact ⟨r ++ enc (pk n) (f n), by simp [pbs, hr]⟩
theorem be_enc (n x : Nat) : be (enc n x) = x % 256 ^ n := by
  induction n generalizing x with
  | zero => simp [enc, be_nil, Nat.mod_one]
  | succ n ih =>
    rw [enc, be_snoc, ih, Nat.pow_succ, Nat.mul_comm (256 ^ n) 256, Nat.mod_mul]
    simp
    omega
theorem enc_mod1 (x : Nat) : enc 1 (x % 256) = enc 1 x := by simp [enc]
theorem enc_mod2 (x : Nat) : enc 2 (x % 65536) = enc 2 x := by
  rw [enc_two, enc_two]
  congr 2
  · rw [show x % 65536 / 256 % 256 = x / 256 % 256 by omega]
  · rw [show x % 65536 % 256 = x % 256 by omega]
theorem read_back (f : Nat → Nat) (k n : Nat) (h : k < n) : (pbs f k).length + pk k ≤ (⟨(pbs f n).toArray⟩ : ByteArray).size ∧ num ⟨(pbs f n).toArray⟩ (pbs f k).length (pk k) = f k % 256 ^ pk k := by
  obtain ⟨r, hr⟩ := pbs_mono f (k + 1) n (by omega)
  have hr' : pbs f n = pbs f k ++ (enc (pk k) (f k) ++ r) := by rw [hr]; simp [pbs]
  constructor
  · show _ ≤ (pbs f n).toArray.size
    rw [hr']; simp [enc_len]
  · unfold num
    show be (((pbs f n).toArray.toList.drop (pbs f k).length).take (pk k)) = _
    rw [List.toList_toArray, hr', List.drop_left, List.take_left' (enc_len _ _), be_enc]

/-- The slice at address A holds len numbers of 32 bits. -/
def U32s (w : World) (A : Option Addr) (len : Nat) (f : Nat → Nat) : Prop :=
  0 < len → ∃ b off, A = some ⟨b, off, none⟩ ∧ ∀ i, i < len → w.cell? ⟨b, off + i, none⟩ = some (.int .u32 (f i)) ∧ f i < 4294967296

set_option maxRecDepth 100000 in
theorem back_big (A : Option Addr) (len cap : Nat) (w : World) (he : Et w) (hs : 2000 < len) : Calls Tryd.prog 9 #[.slice A len cap] w fun e w' => e = .returned (.bool true) ∧ w.grownBy w' none := by
  have hb : decide ((2000 : Int) < (len : Int)) = true := by simp; omega
  go_enter Tryd.func9, Tryd.ntmps9
  go_wp2_with fail
  refine (awake_any w he).mono ?_
  rintro e w1 ⟨rfl, hg⟩
  go_wp2_with fail
  go_ret
  exact ⟨rfl, hg⟩

set_option maxRecDepth 100000 in
set_option maxHeartbeats 4000000 in
theorem back_small (A : Option Addr) (len cap : Nat) (f : Nat → Nat) (w : World) (he : Et w) (hl : len ≤ 2000) (ha : U32s w A len f) : Calls Tryd.prog 9 #[.slice A len cap] w fun e w' => e = .returned (.bool true) ∧ w.grownBy w' none := by
  have hb : decide ((2000 : Int) < (len : Int)) = false := by simp; omega
  have HE := Lib.hid he
  have HA := Lib.hid ha
  clear he ha
  go_enter Tryd.func9, Tryd.ntmps9
  go_wp2_with fail
  refine (awake_any w HE.out).mono ?_
  rintro e w0 ⟨rfl, hg⟩
  have HG0 := Lib.hid hg
  clear hg
  go_wp2_with fail
  go_loopw [3, 4] (fun v i wr => ∃ k : Nat, k ≤ len ∧ i = .int .i64 k ∧ Own wr w.heap.size v (pbs f k) ∧ w.grownBy wr none) (fun _ i _ => len - (intOf i).toNat)
  case atStart => exact ⟨0, by omega, rfl, Own.nil _ _, HG0.out⟩
  case round =>
    obtain ⟨k, hk, rfl, ho, hgr⟩ := hrel
    have HO := Lib.hid ho
    have HG := Lib.hid hgr
    have hpl := pbs_len f k
    clear ho hgr HG0
    by_cases hklt : k < len
    · obtain ⟨b, off, rfl, hcell⟩ := HA.out (by omega)
      obtain ⟨hc0, hw⟩ := hcell k hklt
      have l0 : wr.cell? ⟨b, off + k, none⟩ = some (.int .u32 (f k)) := HG.out.cell hc0 (by simp)
      clear hcell hc0
      have q1 : (0 : Int) ≤ (k : Int) := by omega
      have q2 : (k : Int) < (len : Int) := by omega
      have hsz : w.heap.size ≤ wr.heap.size := HG.out.size
      rcases (show k % 3 = 0 ∨ k % 3 = 1 ∨ k % 3 = 2 by omega) with h3 | h3 | h3
      · have HK := Lib.hid (show pk k = 1 by simp [pk, h3])
        have t0 : ((k : Int) % 3 == 0) = true := by rw [beq_iff_eq]; omega
        clear h3
        go_wp2_with fail
        refine (put1_any wr _ (pbs f k) (f k % 256) (by omega) HO.out.sl (by omega)).mono ?_
        rintro e w1 ⟨rfl, ho1, hg1⟩
        rw [enc_mod1] at ho1
        have HO1 := Lib.hid ho1
        have HG1 := Lib.hid (gtrans HG.out hg1)
        clear ho1 hg1
        go_wp2
        go_roundw
        case rel => exact ⟨k + 1, by omega, by go_num, by rw [pbs, HK.out]; exact HO1.out.base (by omega), HG1.out⟩
        case measure => simp [intOf]; omega
      · have HK := Lib.hid (show pk k = 2 by simp [pk, h3])
        have t0 : ((k : Int) % 3 == 0) = false := beq_eq_false_iff_ne.2 (by omega)
        have t1 : ((k : Int) % 3 == 1) = true := by rw [beq_iff_eq]; omega
        clear h3
        go_wp2_with fail
        refine (put2_any wr _ (pbs f k) (f k % 65536) (by omega) HO.out.sl (by omega)).mono ?_
        rintro e w1 ⟨rfl, ho1, hg1⟩
        rw [enc_mod2] at ho1
        have HO1 := Lib.hid ho1
        have HG1 := Lib.hid (gtrans HG.out hg1)
        clear ho1 hg1
        go_wp2
        go_roundw
        case rel => exact ⟨k + 1, by omega, by go_num, by rw [pbs, HK.out]; exact HO1.out.base (by omega), HG1.out⟩
        case measure => simp [intOf]; omega
      · have HK := Lib.hid (show pk k = 4 by simp [pk, h3])
        have t0 : ((k : Int) % 3 == 0) = false := beq_eq_false_iff_ne.2 (by omega)
        have t1 : ((k : Int) % 3 == 1) = false := beq_eq_false_iff_ne.2 (by omega)
        clear h3
        go_wp2_with fail
        refine (put4_any wr _ (pbs f k) (f k) hw HO.out.sl (by omega)).mono ?_
        rintro e w1 ⟨rfl, ho1, hg1⟩
        have HO1 := Lib.hid ho1
        have HG1 := Lib.hid (gtrans HG.out hg1)
        clear ho1 hg1
        go_wp2
        go_roundw
        case rel => exact ⟨k + 1, by omega, by go_num, by rw [pbs, HK.out]; exact HO1.out.base (by omega), HG1.out⟩
        case measure => simp [intOf]; omega
    · obtain rfl : k = len := by omega
      clear hklt
      have hcv := run_string_of (P := Tryd.prog) wr 39 9 5 Tryd.underlying39 Tryd.underlying5 Tryd.underlying9 HO.out.sl
      obtain ⟨A', c', hv, _⟩ := HO.out.sl
      subst hv
      have HSZ := Lib.hid (show (⟨(pbs f k).toArray⟩ : ByteArray).size = (pbs f k).length by show (pbs f k).toArray.size = _; simp)
      generalize hS : (⟨(pbs f k).toArray⟩ : ByteArray) = S at *
      have HS := Lib.hid hS
      clear hS
      have hsl : S.size ≤ 8000 := by rw [HSZ.out]; omega
      have hsm : S.size ≤ maxLen := by unfold maxLen; omega
      go_wp2_with fail
      refine (new_ex S wr).mono ?_
      rintro e w2 ⟨bc, rfl, hlc, hc, hg⟩
      have HC := Lib.hid hc
      have HG2 := Lib.hid (gtrans HG.out hg)
      have hlb : w.heap.size ≤ bc := Nat.le_trans HG.out.size hlc
      clear hc hg hlc hcv
      go_wp2_with fail
      go_loopw [6] (fun i wq => ∃ j : Nat, j ≤ k ∧ i = .int .i64 j ∧ Cur wq bc S (pbs f j).length ∧ w.grownBy wq none) (fun i _ => k - (intOf i).toNat)
      case atStart => exact ⟨0, by omega, rfl, HC.out, HG2.out⟩
      case round =>
        obtain ⟨j, hj, rfl, hc, hgr⟩ := hrel
        have HC1 := Lib.hid hc
        have HG1 := Lib.hid hgr
        clear hc hgr HC HG2 HO
        by_cases hjlt : j < k
        · obtain ⟨b, off, rfl, hcell⟩ := HA.out (by omega)
          obtain ⟨hc0, hw⟩ := hcell j hjlt
          have L0 := Lib.hid hc0
          clear hcell hc0
          have q1 : (0 : Int) ≤ (j : Int) := by omega
          have q2 : (j : Int) < (k : Int) := by omega
          have hrb := read_back f j k hjlt
          rw [HS.out] at hrb
          obtain ⟨hr1, hr2⟩ := hrb
          rcases (show j % 3 = 0 ∨ j % 3 = 1 ∨ j % 3 = 2 by omega) with h3 | h3 | h3
          · have HK := Lib.hid (show pk j = 1 by simp [pk, h3])
            have t0 : ((j : Int) % 3 == 0) = true := by rw [beq_iff_eq]; omega
            rw [HK.out] at hr1 hr2
            clear h3
            go_wp2_with fail
            refine (byte_any bc S (pbs f j).length wr HC1.out (HE.out.kept HG1.out (by simp)) (by omega) hsm).mono ?_
            rintro e w3 ⟨rfl, hc3, hg3⟩
            rw [rdE_ok hr1, rdV_ok hr1, hr2]
            rw [rdP_ok hr1] at hc3
            have HC3 := Lib.hid hc3
            have HG3 := Lib.hid (gstepb HG1.out hg3 hlb)
            have l0 : w3.cell? ⟨b, off + j, none⟩ = some (.int .u32 (f j)) := HG3.out.cell L0.out (by simp)
            clear hc3 hg3 hr1 hr2
            go_wp2
            go_roundw
            case rel => exact ⟨j + 1, by omega, by go_num, by rw [pbs_succ_len, HK.out]; exact HC3.out, HG3.out⟩
            case measure => simp [intOf]; omega
          · have HK := Lib.hid (show pk j = 2 by simp [pk, h3])
            have t0 : ((j : Int) % 3 == 0) = false := beq_eq_false_iff_ne.2 (by omega)
            have t1 : ((j : Int) % 3 == 1) = true := by rw [beq_iff_eq]; omega
            rw [HK.out] at hr1 hr2
            clear h3
            go_wp2_with fail
            refine (two_any bc S (pbs f j).length wr HC1.out (HE.out.kept HG1.out (by simp)) (by omega) hsm).mono ?_
            rintro e w3 ⟨rfl, hc3, hg3⟩
            rw [rdE_ok hr1, rdV_ok hr1, hr2]
            rw [rdP_ok hr1] at hc3
            have HC3 := Lib.hid hc3
            have HG3 := Lib.hid (gstepb HG1.out hg3 hlb)
            have l0 : w3.cell? ⟨b, off + j, none⟩ = some (.int .u32 (f j)) := HG3.out.cell L0.out (by simp)
            clear hc3 hg3 hr1 hr2
            have uw : IntKind.u16.wrap (f j : Int) = (f j : Int) % 65536 := IntKind.wrap_u16 _
            go_wp2
            go_roundw
            case rel => exact ⟨j + 1, by omega, by go_num, by rw [pbs_succ_len, HK.out]; exact HC3.out, HG3.out⟩
            case measure => simp [intOf]; omega
          · have HK := Lib.hid (show pk j = 4 by simp [pk, h3])
            have t0 : ((j : Int) % 3 == 0) = false := beq_eq_false_iff_ne.2 (by omega)
            have t1 : ((j : Int) % 3 == 1) = false := beq_eq_false_iff_ne.2 (by omega)
            rw [HK.out] at hr1 hr2
            clear h3
            go_wp2_with fail
            refine (four_any bc S (pbs f j).length wr HC1.out (HE.out.kept HG1.out (by simp)) (by omega) hsm).mono ?_
            rintro e w3 ⟨rfl, hc3, hg3⟩
            rw [rdE_ok hr1, rdV_ok hr1, hr2]
            rw [rdP_ok hr1] at hc3
            have HC3 := Lib.hid hc3
            have HG3 := Lib.hid (gstepb HG1.out hg3 hlb)
            have l0 : w3.cell? ⟨b, off + j, none⟩ = some (.int .u32 (f j)) := HG3.out.cell L0.out (by simp)
            clear hc3 hg3 hr1 hr2
            rw [Nat.mod_eq_of_lt (show f j < 256 ^ 4 from hw)]
            go_wp2
            go_roundw
            case rel => exact ⟨j + 1, by omega, by go_num, by rw [pbs_succ_len, HK.out]; exact HC3.out, HG3.out⟩
            case measure => simp [intOf]; omega
        · obtain rfl : j = k := by omega
          have hls : (pbs f j).length = S.size := HSZ.out.symm
          rw [hls] at HC1
          rw [hls]
          clear hjlt hls
          go_wp2_with fail
          refine (left_any bc S S.size wr HC1.out (by omega) hsm).mono ?_
          rintro e w3 ⟨rfl, hg3⟩
          have z0 : ((S.size : Int) - (S.size : Int)) = 0 := by omega
          rw [z0]
          have HC3 := Lib.hid (HC1.out.kept hg3 (by simp))
          have HG3 := Lib.hid (gtrans HG1.out hg3)
          clear hg3 z0
          go_wp2_with fail
          refine (at_any bc S S.size w3 HC3.out).mono ?_
          rintro e w' ⟨rfl, rfl⟩
          go_wp2_with fail
          go_ret
          exact ⟨rfl, HG3.out⟩

theorem back_walk (A : Option Addr) (len cap : Nat) (f : Nat → Nat) (w : World) (he : Et w) (ha : U32s w A len f) : Calls Tryd.prog 9 #[.slice A len cap] w fun e w' => e = .returned (.bool true) ∧ w.grownBy w' none := by
  by_cases h : 2000 < len
  · exact back_big A len cap w he h
  · exact back_small A len cap f w he (by omega) ha
end Go.Proofs.YtndkgogohlikiaaDoor
