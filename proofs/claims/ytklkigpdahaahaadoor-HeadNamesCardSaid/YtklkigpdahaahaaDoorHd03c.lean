/-
  Package head: Flags as a sum; back and forth.
-/
import Derived.Test.YtklkigpdahaahaaDoorHd03b
namespace Go.Proofs.YtklkigpdahaahaaDoor
open Go.RowKit

/-- The flags of a header, as a sum. -/
def flagsN (h : Hd) : Nat := h.qr.toNat * 32768 + h.op * 2048 + h.aa.toNat * 1024 + h.tc.toNat * 512 + h.rd.toNat * 256 + h.ra.toNat * 128 + h.z.toNat * 64 + h.ad.toNat * 32 + h.cd.toNat * 16 + h.code
def Hd.bad (h : Hd) : Prop := 15 < h.op ∨ 15 < h.code
instance (h : Hd) : Decidable h.bad := inferInstanceAs (Decidable (_ ∨ _))
def flE (h : Hd) : Nat := if h.bad then 1 else 0
def flN (h : Hd) : Nat := if h.bad then 0 else flagsN h

theorem orq_bit (q : Bool) (x i : Nat) (hx : x < 65536) (hi : i < 16) (h : x / 2 ^ i % 2 = 0) : orq q (x : Int) ((2 ^ i : Nat) : Int) = ((x + q.toNat * 2 ^ i : Nat) : Int) := by
  cases q
  · simp [orq]
  · simp only [orq, if_true, or_bit x i hx hi h]; simp

theorem btle (q : Bool) : q.toNat ≤ 1 := by cases q <;> simp

theorem oacc_flags (h : Hd) (hb : ¬ h.bad) : oacc (bits .or .u16 ((h.op : Int) * 2048) (h.code : Int)) [(h.qr, 32768), (h.aa, 1024), (h.tc, 512), (h.rd, 256), (h.ra, 128), (h.z, 64), (h.ad, 32), (h.cd, 16)] = (flagsN h : Int) := by
  obtain ⟨h1, h2⟩ : h.op ≤ 15 ∧ h.code ≤ 15 := by unfold Hd.bad at hb; omega
  have t15 := btle h.qr
  have t10 := btle h.aa
  have t9 := btle h.tc
  have t8 := btle h.rd
  have t7 := btle h.ra
  have t6 := btle h.z
  have t5 := btle h.ad
  have t4 := btle h.cd
  have e0 : bits .or .u16 ((h.op : Int) * 2048) (h.code : Int) = ((h.op * 2048 + h.code : Nat) : Int) := by
    rw [show ((h.op : Int) * 2048) = ((h.op * 2048 : Nat) : Int) by omega, u16_or_nat _ _ (by omega) (by omega), nat_join 11 _ _ (by omega) (by omega)]
  simp only [oacc, List.foldl_cons, List.foldl_nil]
  rw [e0]
  rw [show (32768 : Int) = ((2 ^ 15 : Nat) : Int) by rfl, orq_bit h.qr _ 15 (by omega) (by omega) (by omega)]
  rw [show (1024 : Int) = ((2 ^ 10 : Nat) : Int) by rfl, orq_bit h.aa _ 10 (by omega) (by omega) (by omega)]
  rw [show (512 : Int) = ((2 ^ 9 : Nat) : Int) by rfl, orq_bit h.tc _ 9 (by omega) (by omega) (by omega)]
  rw [show (256 : Int) = ((2 ^ 8 : Nat) : Int) by rfl, orq_bit h.rd _ 8 (by omega) (by omega) (by omega)]
  rw [show (128 : Int) = ((2 ^ 7 : Nat) : Int) by rfl, orq_bit h.ra _ 7 (by omega) (by omega) (by omega)]
  rw [show (64 : Int) = ((2 ^ 6 : Nat) : Int) by rfl, orq_bit h.z _ 6 (by omega) (by omega) (by omega)]
  rw [show (32 : Int) = ((2 ^ 5 : Nat) : Int) by rfl, orq_bit h.ad _ 5 (by omega) (by omega) (by omega)]
  rw [show (16 : Int) = ((2 ^ 4 : Nat) : Int) by rfl, orq_bit h.cd _ 4 (by omega) (by omega) (by omega)]
  unfold flagsN
  omega

theorem flags_any (h : Hd) (w : World) (hb : Bt w) : Calls Tryd.prog 14 #[h.v] w fun e w' => e = .returned (.tuple #[.int .u16 (flN h), .int .i64 (flE h)]) ∧ w.grownBy w' none := by
  by_cases hg : h.bad
  · refine (flags_bad h.id h.op h.code h.qr h.aa h.tc h.rd h.ra h.z h.ad h.cd w hg).mono ?_
    rintro e w' ⟨rfl, hw⟩
    refine ⟨?_, hw⟩
    rw [flN, flE, if_pos hg, if_pos hg]; rfl
  · obtain ⟨t, fr, hb⟩ := hb
    obtain ⟨h1, h2⟩ : h.op ≤ 15 ∧ h.code ≤ 15 := by unfold Hd.bad at hg; omega
    refine (flags_gen h.id h.op h.code h.qr h.aa h.tc h.rd h.ra h.z h.ad h.cd _ _ _ _ _ _ _ _ t fr w h1 h2 hb).mono ?_
    rintro e w' ⟨rfl, hw⟩
    refine ⟨?_, hw⟩
    rw [flN, flE, if_neg hg, if_neg hg, oacc_flags h hg]; rfl

theorem bq_toNat (n i : Nat) : (bq n i).toNat = n / 2 ^ i % 2 := by
  unfold bq
  by_cases h : n / 2 ^ i % 2 = 1
  · simp [h]
  · simp [h]; omega
theorem bq_of (q : Bool) (n i : Nat) (h : n / 2 ^ i % 2 = q.toNat) : bq n i = q := by
  unfold bq
  cases q
  · simp at h; simp [h]
  · simp at h; simp [h]

theorem from_good (id n : Nat) : ¬ (fromN id n).bad := by
  unfold Hd.bad fromN
  simp only
  omega
theorem flags_from (id n : Nat) (hn : n < 65536) : flagsN (fromN id n) = n := by
  simp only [flagsN, fromN, bq_toNat]
  omega
theorem from_flags (h : Hd) (hb : ¬ h.bad) : fromN h.id (flagsN h) = h := by
  obtain ⟨h1, h2⟩ : h.op ≤ 15 ∧ h.code ≤ 15 := by unfold Hd.bad at hb; omega
  obtain ⟨id, qr, op, aa, tc, rd, ra, z, ad, cd, code⟩ := h
  have t15 := btle qr
  have t10 := btle aa
  have t9 := btle tc
  have t8 := btle rd
  have t7 := btle ra
  have t6 := btle z
  have t5 := btle ad
  have t4 := btle cd
  simp only at h1 h2
  unfold fromN flagsN
  simp only
  rw [bq_of qr _ 15 (by omega)]
  rw [bq_of aa _ 10 (by omega)]
  rw [bq_of tc _ 9 (by omega)]
  rw [bq_of rd _ 8 (by omega)]
  rw [bq_of ra _ 7 (by omega)]
  rw [bq_of z _ 6 (by omega)]
  rw [bq_of ad _ 5 (by omega)]
  rw [bq_of cd _ 4 (by omega)]
  simp only [Hd.mk.injEq, true_and]
  omega
theorem flagsN_lt (h : Hd) (hb : ¬ h.bad) : flagsN h < 65536 := by
  obtain ⟨h1, h2⟩ : h.op ≤ 15 ∧ h.code ≤ 15 := by unfold Hd.bad at hb; omega
  have t15 := btle h.qr
  have t10 := btle h.aa
  have t9 := btle h.tc
  have t8 := btle h.rd
  have t7 := btle h.ra
  have t6 := btle h.z
  have t5 := btle h.ad
  have t4 := btle h.cd
  unfold flagsN
  omega
end Go.Proofs.YtklkigpdahaahaaDoor
