/-
  DataNames: the rows.
-/
import Derived.Test.YtijjfdmklbncbaaDoorDa05l
namespace Go.Proofs.YtijjfdmklbncbaaDoor
open Go.RowKit

structure R1 where
  kind : Nat
  s : ByteArray
  n : Nat
structure R2 where
  kind : Nat
  s : ByteArray
  e : Nat
def r1v (r : R1) : List Value := [.int .u16 (r.kind : Int), .string r.s, .int .i64 (r.n : Int)]
def r2v (r : R2) : List Value := [.int .u16 (r.kind : Int), .string r.s, .int .i64 (r.e : Int)]
def tw : ByteArray := ⟨#[48, 49, 50, 51, 52, 53, 54, 55, 56, 57, 48, 49, 50, 51, 52, 53, 54, 55, 56, 57]⟩
def eX : ByteArray := ⟨#[2, 69, 120, 0]⟩
def rows1 : List R1 := [⟨1, ⟨#[1, 2, 3, 4]⟩, 0⟩, ⟨28, ⟨#[48, 49, 50, 51, 52, 53, 54, 55, 56, 57, 97, 98, 99, 100, 101, 102]⟩, 0⟩, ⟨2, eX, 1⟩, ⟨5, ⟨#[0]⟩, 1⟩, ⟨12, eX, 1⟩, ⟨15, ⟨#[0, 10]⟩ ++ eX, 1⟩,
  ⟨6, eX ++ eX ++ tw, 2⟩, ⟨33, ⟨#[49, 50, 51, 52, 53, 54]⟩ ++ eX, 1⟩, ⟨16, ⟨#[0]⟩, 0⟩, ⟨16, ⟨#[1, 97, 2, 98, 99]⟩, 0⟩, ⟨99, ⟨#[]⟩, 0⟩, ⟨0, ⟨#[192, 0]⟩, 0⟩, ⟨65535, ⟨#[97, 110, 121]⟩, 0⟩]
def rows2 : List R2 := [⟨1, ⟨#[97, 98, 99]⟩, 4⟩, ⟨1, ⟨#[97, 98, 99, 100, 101]⟩, 3⟩, ⟨28, ⟨#[1, 2, 3, 4]⟩, 4⟩, ⟨2, ⟨#[]⟩, 4⟩, ⟨2, eX ++ ⟨#[120]⟩, 3⟩, ⟨2, ⟨#[2, 69]⟩, 4⟩, ⟨2, ⟨#[64]⟩, 3⟩, ⟨2, ⟨#[192, 0]⟩, 8⟩, ⟨15, ⟨#[97]⟩, 4⟩, ⟨15, ⟨#[97, 98]⟩, 4⟩,
  ⟨6, eX ++ eX ++ ⟨#[48, 49, 50, 51, 52, 53, 54, 55, 56, 57, 48, 49, 50, 51, 52, 53, 54, 55, 56]⟩, 4⟩, ⟨6, eX ++ eX ++ tw ++ ⟨#[48]⟩, 3⟩, ⟨6, eX ++ tw, 4⟩, ⟨6, eX ++ ⟨#[0]⟩ ++ tw ++ ⟨#[120]⟩, 3⟩, ⟨16, ⟨#[]⟩, 4⟩, ⟨16, ⟨#[2, 97]⟩, 4⟩, ⟨16, ⟨#[1, 97, 98]⟩, 4⟩, ⟨41, ⟨#[]⟩, 3⟩, ⟨41, ⟨#[97, 98, 99]⟩, 3⟩]
def e2 (c : UInt8) : UInt8 := if c = 69 then 101 else c
def e2B (s : ByteArray) : ByteArray := ⟨(s.data.toList.map e2).toArray⟩
structure Ok1 (r : R1) : Prop where
  may : mayD r.kind r.s = true
  nms : (nms (whL r.kind r.s)).length = r.n
  fold : (⟨(fdt (whL r.kind r.s)).toArray⟩ : ByteArray) = e2B r.s
  size : r.s.size ≤ 100
structure Ok2 (r : R2) : Prop where
  may : mayD r.kind r.s = false
  read : rdD r.s 0 (r.s.size : Int) r.kind = (⟨#[]⟩, r.e)
  nms : nms (whL r.kind r.s) = []
  fold : (⟨(fdt (whL r.kind r.s)).toArray⟩ : ByteArray) = ⟨#[]⟩
  size : r.s.size ≤ 100
  pos : 0 < r.e
theorem may_eX : may eX = true := may_of 9 (by decide) (by decide +kernel)
theorem may_0 : may ⟨#[0]⟩ = true := may_of 9 (by decide) (by decide +kernel)
theorem fd_eX : (foldB eX).data.toList = [2, 101, 120, 0] := by rw [foldB_yes may_eX]; decide +kernel
theorem fd_0 : (foldB ⟨#[0]⟩).data.toList = [0] := by rw [foldB_yes may_0]; decide +kernel
theorem ok1_of {r : R1} {l : List Pc} (h : splK 60 r.s 0 r.kind = some (.ok l)) (ht : tx l = r.s.data.toList) (hn : (nms l).length = r.n) (hf : fdt l = r.s.data.toList.map e2) (hs : r.s.size ≤ 100) : Ok1 r := by
  have hw := whK h ht
  have hL : whL r.kind r.s = l := by unfold whL; rw [hw]; rfl
  exact ⟨by unfold mayD; rw [hw]; rfl, by rw [hL, hn], by rw [hL, hf]; rfl, hs⟩
theorem ok2_of {r : R2} (h : splK 60 r.s 0 r.kind = some (.no r.e)) (hs : r.s.size ≤ 100) (hp : 0 < r.e) : Ok2 r := by
  have hw := whK_no h
  have hL : whL r.kind r.s = [] := by unfold whL; rw [hw]; rfl
  refine ⟨by unfold mayD; rw [hw]; rfl, ?_, by rw [hL]; rfl, by rw [hL]; rfl, hs, hp⟩
  unfold rdD
  rw [if_neg (by omega), show ((0 : Int) + (r.s.size : Int)).toNat = r.s.size by omega, show ((0 : Int)).toNat = 0 from rfl]
  have e : r.s.extract 0 r.s.size = r.s := by
    rw [exK_eq]
    unfold exK
    rw [List.drop_zero, Nat.sub_zero, List.take_of_length_le (by rw [nlen]; exact Nat.le_refl _)]
  rw [e, splK_eq h]
theorem rows1_ok : ∀ r ∈ rows1, Ok1 r := by
  unfold rows1
  simp only [List.forall_mem_cons]
  have F : ∀ (l : List Pc), fdt l = l.flatMap fun x => if x.name = true then (foldB x.text).data.toList else x.text.data.toList := fun _ => rfl
  refine ⟨ok1_of (l := [⟨⟨#[1, 2, 3, 4]⟩, false, 4⟩]) (by kernel_rfl) (by kernel_rfl) rfl (by kernel_rfl) (by decide), ok1_of (l := [⟨⟨#[48, 49, 50, 51, 52, 53, 54, 55, 56, 57, 97, 98, 99, 100, 101, 102]⟩, false, 16⟩]) (by kernel_rfl) (by kernel_rfl) rfl (by kernel_rfl) (by decide),
    ok1_of (l := [⟨eX, true, 4⟩]) (by kernel_rfl) (by kernel_rfl) rfl (by rw [F]; simp only [List.flatMap_cons, List.flatMap_nil, if_true, fd_eX]; kernel_rfl) (by decide),
    ok1_of (l := [⟨⟨#[0]⟩, true, 1⟩]) (by kernel_rfl) (by kernel_rfl) rfl (by rw [F]; simp only [List.flatMap_cons, List.flatMap_nil, if_true, fd_0]; kernel_rfl) (by decide),
    ok1_of (l := [⟨eX, true, 4⟩]) (by kernel_rfl) (by kernel_rfl) rfl (by rw [F]; simp only [List.flatMap_cons, List.flatMap_nil, if_true, fd_eX]; kernel_rfl) (by decide),
    ok1_of (l := [⟨⟨#[0, 10]⟩, false, 2⟩, ⟨eX, true, 6⟩]) (by kernel_rfl) (by kernel_rfl) rfl (by rw [F]; simp only [List.flatMap_cons, List.flatMap_nil, if_true, fd_eX, Bool.false_eq_true, if_false]; kernel_rfl) (by decide +kernel),
    ok1_of (l := [⟨eX, true, 4⟩, ⟨eX, true, 8⟩, ⟨tw, false, 28⟩]) (by kernel_rfl) (by kernel_rfl) rfl (by rw [F]; simp only [List.flatMap_cons, List.flatMap_nil, if_true, fd_eX, Bool.false_eq_true, if_false]; kernel_rfl) (by decide +kernel),
    ok1_of (l := [⟨⟨#[49, 50, 51, 52, 53, 54]⟩, false, 6⟩, ⟨eX, true, 10⟩]) (by kernel_rfl) (by kernel_rfl) rfl (by rw [F]; simp only [List.flatMap_cons, List.flatMap_nil, if_true, fd_eX, Bool.false_eq_true, if_false]; kernel_rfl) (by decide +kernel),
    ok1_of (l := [⟨⟨#[0]⟩, false, 1⟩]) (by kernel_rfl) (by kernel_rfl) rfl (by kernel_rfl) (by decide), ok1_of (l := [⟨⟨#[1, 97, 2, 98, 99]⟩, false, 5⟩]) (by kernel_rfl) (by kernel_rfl) rfl (by kernel_rfl) (by decide),
    ok1_of (l := [⟨⟨#[]⟩, false, 0⟩]) (by kernel_rfl) (by kernel_rfl) rfl (by kernel_rfl) (by decide), ok1_of (l := [⟨⟨#[192, 0]⟩, false, 2⟩]) (by kernel_rfl) (by kernel_rfl) rfl (by kernel_rfl) (by decide), ok1_of (l := [⟨⟨#[97, 110, 121]⟩, false, 3⟩]) (by kernel_rfl) (by kernel_rfl) rfl (by kernel_rfl) (by decide), fun r hr => by cases hr⟩
theorem rows2_ok : ∀ r ∈ rows2, Ok2 r := by
  unfold rows2
  simp only [List.forall_mem_cons]
  refine ⟨?_, ?_, ?_, ?_, ?_, ?_, ?_, ?_, ?_, ?_, ?_, ?_, ?_, ?_, ?_, ?_, ?_, ?_, ?_, fun r hr => by cases hr⟩
  all_goals exact ok2_of (by kernel_rfl) (by decide +kernel) (by decide)
theorem xA : rdD ⟨#[2, 101, 120, 0, 0, 10, 192, 0, 98, 101, 104, 105, 110, 100]⟩ 4 4 15 = (⟨#[0, 10, 2, 101, 120, 0]⟩, 0) := (rdD_ok (a := 4) (k := 4) (l := [⟨⟨#[0, 10]⟩, false, 6⟩, ⟨⟨#[2, 101, 120, 0]⟩, true, 8⟩]) 60 (by decide) (by kernel_rfl)).trans (by kernel_rfl)
theorem xF : rdD ⟨#[2, 101, 120, 0]⟩ 1 4 1 = (⟨#[]⟩, 1) := rdD_out (by decide)
theorem xG : rdD ⟨#[97, 98, 99]⟩ 4 0 99 = (⟨#[]⟩, 1) := rdD_out (by decide)
theorem xH : rdD ⟨#[97, 98, 99]⟩ (-1) 1 99 = (⟨#[]⟩, 1) := rdD_out (by decide)
theorem xI : rdD ⟨#[97, 98, 99]⟩ 1 4611686018427387904 99 = (⟨#[]⟩, 1) := rdD_out (by decide)
theorem xK : rdD ⟨#[97, 98, 99]⟩ 3 0 99 = (⟨#[]⟩, 0) := (rdD_ok (a := 3) (k := 0) (l := [⟨⟨#[]⟩, false, 3⟩]) 60 (by decide) (by kernel_rfl)).trans (by kernel_rfl)
theorem xM : rdD ⟨#[2, 101, 120, 0, 49, 50, 51, 52, 53, 54, 192, 0]⟩ 4 8 33 = (⟨#[49, 50, 51, 52, 53, 54, 2, 101, 120, 0]⟩, 0) := (rdD_ok (a := 4) (k := 8) (l := [⟨⟨#[49, 50, 51, 52, 53, 54]⟩, false, 10⟩, ⟨⟨#[2, 101, 120, 0]⟩, true, 12⟩]) 60 (by decide) (by kernel_rfl)).trans (by kernel_rfl)
theorem xP : mayD 15 ⟨#[0, 0, 192, 0]⟩ = false := by
  unfold mayD
  rw [whK_ne (k := 60) (l := [⟨⟨#[0, 0]⟩, false, 2⟩, ⟨⟨#[0]⟩, true, 4⟩]) (by kernel_rfl) (by decide +kernel)]
  rfl
end Go.Proofs.YtijjfdmklbncbaaDoor
