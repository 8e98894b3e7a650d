/-
  Layer 5's examples (awake).
-/
import Derived.Test.YtijjfdmklbncbaaDoorA8
import Derived.Test.YtijjfdmklbncbaaDoorA7
import Derived.Test.YtijjfdmklbncbaaDoorA5
namespace Go.Proofs.YtijjfdmklbncbaaDoor
open Go.RowKit

theorem awr_any (b : Nat) (T : Tb) (va : Value) (a : List UInt8) (kind : Nat) (d : ByteArray) (w0 w : World) (he : Et w) (h : Aw w0 b T va a w) (hd : d.size ≤ 1000000) (hT : T.length ≤ 900000) (hal : a.length ≤ 900000000) (l : List Pc) (hl : whF kind d = some l)
    (o : List UInt8) (T2 : Tb) (hp : wrF (cmpF kind) l T a = (o, T2)) :
    Calls Tryd.prog 16 #[va, .pointer (some ⟨b, 0, none⟩), .int .u16 kind, .string d] w fun e w' => ∃ v', e = .returned (.tuple #[v', .int .i64 0]) ∧ Aw w0 b T2 va a w' ∧ Own w' (b + 1) v' o ∧ ∀ vx x, Own w (b + 1) vx x → Own w' (b + 1) vx x := by
  obtain ⟨m, ht, hm⟩ := h.tab
  have kept : ∀ w1, TG w w1 b m → ∀ vx x, Own w (b + 1) vx x → Own w1 (b + 1) vx x := by
    intro w1 hg vx x hx
    refine hx.keptT hg ?_ ?_
    · intro e; have := (hx.block b e).1; omega
    · cases m with
      | none => exact .inl rfl
      | some k => exact .inr (own_ne_map hx (ht.some k rfl).1)
  refine (twrite_any b m T va a kind d w he ht h.own.sl hd hT hal).mono ?_
  intro e w1 hw
  unfold WrPost at hw
  rw [hl] at hw
  simp only at hw
  rw [hp] at hw
  obtain ⟨v', m', rfl, ho, ht1, hg, hms⟩ := hw
  have hb := blt ht.cell
  refine ⟨v', rfl, ⟨TG.gr h.gr hg h.lb hm, ⟨m', ht1, fun k e => ?_⟩, kept w1 hg _ _ h.own, h.lb⟩, ho.base hb, kept w1 hg⟩
  rcases hms k e with h1 | h1
  · exact hm k h1
  · exact Nat.le_trans h.gr.size h1
theorem rdD_no {msg : ByteArray} {a k kind e : Nat} (f : Nat) (hak : a + k ≤ msg.size) (h : splK f (exK msg 0 (a + k)) a kind = some (.no e)) : rdD msg (a : Int) (k : Int) kind = (⟨#[]⟩, e) := by
  unfold rdD
  rw [if_neg (by omega), show ((a : Int) + (k : Int)).toNat = a + k by omega, show ((a : Int)).toNat = a by omega, exK_eq, splK_eq h]
theorem rdD_ok {msg : ByteArray} {a k kind : Nat} {l : List Pc} (f : Nat) (hak : a + k ≤ msg.size) (h : splK f (exK msg 0 (a + k)) a kind = some (.ok l)) : rdD msg (a : Int) (k : Int) kind = (⟨(tx l).toArray⟩, 0) := by
  unfold rdD
  rw [if_neg (by omega), show ((a : Int) + (k : Int)).toNat = a + k by omega, show ((a : Int)).toNat = a by omega, exK_eq, splK_eq h]
theorem rdD_out {msg : ByteArray} {a k : Int} {kind : Nat} (h : a < 0 ∨ k < 0 ∨ (msg.size : Int) - a < k) : rdD msg a k kind = (⟨#[]⟩, 1) := if_pos h
theorem rdata_is (msg : ByteArray) (a k : Int) (kind : Nat) (w : World) (he : Et w) (hs : msg.size ≤ 1000000) (ha : Hid (a ≤ 9223372036854775807)) (s : ByteArray) (e : Nat) (h : rdD msg a k kind = (s, e)) : Calls Tryd.prog 12 #[.string msg, .int .i64 a, .int .i64 k, .int .u16 kind] w fun en w' => en = .returned (.tuple #[.string s, .int .i64 (e : Int)]) ∧ w.grownBy w' none := by
  have := rdata_any msg a k kind w he hs ha
  rwa [h] at this

def dEx : ByteArray := ⟨#[2, 101, 120, 0]⟩
def dMx : ByteArray := ⟨#[0, 10, 2, 101, 120, 0]⟩
def dSrv : ByteArray := ⟨#[49, 50, 51, 52, 53, 54, 2, 101, 120, 0]⟩
theorem mayEx : may dEx = true := may_of 9 (by decide) (by decide +kernel)
theorem putEx : putF dEx true true 0 [] [] = ([2, 101, 120, 0], [(dEx, 0)]) := putK_eq dEx true true 9 _ _ _ _ (by kernel_rfl)
theorem whMx : whF 15 dMx = some [⟨⟨#[0, 10]⟩, false, 2⟩, ⟨dEx, true, 6⟩] := whK (k := 9) (by kernel_rfl) (by kernel_rfl)
theorem whSrv : whF 33 dSrv = some [⟨⟨#[49, 50, 51, 52, 53, 54]⟩, false, 6⟩, ⟨dEx, true, 10⟩] := whK (k := 9) (by kernel_rfl) (by kernel_rfl)
theorem wrMx : wrF (cmpF 15) [⟨⟨#[0, 10]⟩, false, 2⟩, ⟨dEx, true, 6⟩] [(dEx, 0)] [2, 101, 120, 0] = ([2, 101, 120, 0, 0, 10, 192, 0], [(dEx, 0)]) := by
  rw [show cmpF 15 = true by decide, wrF_txt rfl, wrF_nam rfl]
  rw [show putF dEx true true 0 [(dEx, 0)] ([2, 101, 120, 0] ++ (⟨#[0, 10]⟩ : ByteArray).data.toList) = ([2, 101, 120, 0, 0, 10, 192, 0], [(dEx, 0)]) from putK_eq dEx true true 9 _ _ _ _ (by kernel_rfl)]
  rfl
theorem wrSrv : wrF (cmpF 33) [⟨⟨#[49, 50, 51, 52, 53, 54]⟩, false, 6⟩, ⟨dEx, true, 10⟩] [(dEx, 0)] [2, 101, 120, 0, 0, 10, 192, 0] = ([2, 101, 120, 0, 0, 10, 192, 0, 49, 50, 51, 52, 53, 54, 2, 101, 120, 0], [(dEx, 0)]) := by
  rw [show cmpF 33 = false by decide, wrF_txt rfl, wrF_nam rfl]
  rw [show putF dEx false false 0 [(dEx, 0)] ([2, 101, 120, 0, 0, 10, 192, 0] ++ (⟨#[49, 50, 51, 52, 53, 54]⟩ : ByteArray).data.toList) = ([2, 101, 120, 0, 0, 10, 192, 0, 49, 50, 51, 52, 53, 54, 2, 101, 120, 0], [(dEx, 0)]) from putK_eq dEx false false 9 _ _ _ _ (by kernel_rfl)]
  rfl
theorem rdA3 : rdD ⟨#[97, 98, 99]⟩ 0 3 1 = (⟨#[]⟩, 4) := rdD_no (a := 0) (k := 3) 9 (by decide) (by kernel_rfl)
theorem rdA5 : rdD ⟨#[97, 98, 99, 100, 101]⟩ 0 5 1 = (⟨#[]⟩, 3) := rdD_no (a := 0) (k := 5) 9 (by decide) (by kernel_rfl)
theorem mayT : mayD 16 ⟨#[1, 97, 0]⟩ = true := by unfold mayD; rw [whK (k := 9) (l := [⟨⟨#[1, 97, 0]⟩, false, 3⟩]) (by kernel_rfl) (by kernel_rfl)]; rfl
theorem mayT0 : mayD 16 ⟨#[]⟩ = false := by unfold mayD; rw [whK_no (k := 9) (e := 4) (by kernel_rfl)]; rfl
theorem mayA0 : may ⟨#[1, 65, 0]⟩ = true := may_of 9 (by decide) (by decide +kernel)
theorem fdNs : (⟨(fdt (whL 2 ⟨#[1, 65, 0]⟩)).toArray⟩ : ByteArray) = ⟨#[1, 97, 0]⟩ := by
  unfold whL
  rw [whK (k := 9) (l := [⟨⟨#[1, 65, 0]⟩, true, 3⟩]) (by kernel_rfl) (by kernel_rfl)]
  show (⟨(fdt [⟨⟨#[1, 65, 0]⟩, true, 3⟩]).toArray⟩ : ByteArray) = _
  unfold fdt
  simp only [List.flatMap_cons, List.flatMap_nil, if_true]
  rw [foldB_yes mayA0]
  kernel_rfl

set_option maxRecDepth 100000 in
set_option maxHeartbeats 4000000 in
theorem awake05 (w : World) (he : Et w) : Calls Tryd.prog 11 #[] w fun e w' => e = .returned (.bool true) ∧ w.grownBy w' none := by
  have HE := Lib.hid he
  clear he
  have LT := Lib.hid (show (0 : Int) ≤ 9223372036854775807 by decide)
  go_enter Tryd.func11, Tryd.ntmps11
  go_wp2_with fail
  refine (tnew_any w).mono ?_
  rintro e w1 ⟨b, rfl, hl, ht, hg⟩
  have A1 := Lib.hid (Aw.start hl ht hg)
  clear hl ht hg
  go_wp2_with fail
  refine (aput_any b [] _ [] dEx true true w w1 A1.out mayEx (by decide) (by decide) _ _ putEx).mono ?_
  rintro e w2 ⟨v2, rfl, h2, o2, _⟩
  have A2 := Lib.hid (h2.own' o2)
  clear h2 o2 A1
  go_wp2_with fail
  refine (awr_any b _ v2 _ 15 dMx w w2 (HE.out.kept A2.out.gr (by simp)) A2.out (by decide) (by decide) (by decide) _ whMx _ _ wrMx).mono ?_
  rintro e w3 ⟨v3, rfl, h3, o3, _⟩
  have A3 := Lib.hid (h3.own' o3)
  clear h3 o3 A2
  go_wp2_with fail
  refine (awr_any b _ v3 _ 33 dSrv w w3 (HE.out.kept A3.out.gr (by simp)) A3.out (by decide) (by decide) (by decide) _ whSrv _ _ wrSrv).mono ?_
  rintro e w4 ⟨v4, rfl, h4, o4, _⟩
  have A4 := Lib.hid h4
  have O4 := Lib.hid o4
  clear h4 o4 A3
  go_wp2_with fail
  refine (rdata_is ⟨#[97, 98, 99]⟩ 0 3 1 w4 (HE.out.kept A4.out.gr (by simp)) (by decide) LT _ _ rdA3).mono ?_
  rintro e w5 ⟨rfl, hg⟩
  have A5 := Lib.hid (A4.out.quiet hg)
  have O5 := Lib.hid (O4.out.kept0 hg)
  clear hg A4 O4
  go_wp2_with fail
  refine (rdata_is ⟨#[97, 98, 99, 100, 101]⟩ 0 5 1 w5 (HE.out.kept A5.out.gr (by simp)) (by decide) LT _ _ rdA5).mono ?_
  rintro e w6 ⟨rfl, hg⟩
  have A6 := Lib.hid (A5.out.quiet hg)
  have cv1 := cvs (A5.out.quiet hg).own.sl
  have cv2 := cvs (O5.out.kept0 hg).sl
  clear hg A5 O5
  rw [show (⟨([2, 101, 120, 0, 0, 10, 192, 0, 49, 50, 51, 52, 53, 54, 2, 101, 120, 0] : List UInt8).toArray⟩ : ByteArray) = (⟨([2, 101, 120, 0, 0, 10, 192, 0] : List UInt8).toArray⟩ : ByteArray) ++ (⟨([49, 50, 51, 52, 53, 54, 2, 101, 120, 0] : List UInt8).toArray⟩ : ByteArray) from (mk_append_list [2, 101, 120, 0, 0, 10, 192, 0] [49, 50, 51, 52, 53, 54, 2, 101, 120, 0]).symm] at cv2
  have k1 : ((⟨([2, 101, 120, 0, 0, 10, 192, 0] : List UInt8).toArray⟩ : ByteArray).toList == [2, 101, 120, 0, 0, 10, 192, 0]) = true := by rw [ByteArray.toList_eq]; decide
  have hOs : (⟨([2, 101, 120, 0, 0, 10, 192, 0] : List UInt8).toArray⟩ : ByteArray).size ≤ 1000 := by decide
  generalize (⟨([2, 101, 120, 0, 0, 10, 192, 0] : List UInt8).toArray⟩ : ByteArray) = O1 at *
  have M1 := Lib.hid (fun w => mayd_any 16 ⟨#[1, 97, 0]⟩ w)
  have M2 := Lib.hid (fun w => mayd_any 16 ⟨#[]⟩ w)
  have M3 := Lib.hid (fun w => foldd_any 2 ⟨#[1, 65, 0]⟩ w)
  rw [mayT] at M1
  rw [mayT0] at M2
  rw [fdNs] at M3
  have G6 := Lib.hid A6.out.gr
  clear A6
  go_wp2_with fail
  refine Calls.mono (M1.out w6 (HE.out.kept G6.out (by simp)) (by decide)) ?_
  rintro e w7 ⟨rfl, hg⟩
  have G7 := Lib.hid (gtrans G6.out hg)
  clear hg G6
  go_wp2_with fail
  refine Calls.mono (M2.out w7 (HE.out.kept G7.out (by simp)) (by decide)) ?_
  rintro e w8 ⟨rfl, hg⟩
  have G8 := Lib.hid (gtrans G7.out hg)
  clear hg G7
  go_wp2_with fail
  refine Calls.mono (M3.out w8 (HE.out.kept G8.out (by simp)) (by decide)) ?_
  rintro e w9 ⟨rfl, hg⟩
  have G9 := Lib.hid (gtrans G8.out hg)
  clear hg G8
  go_wp2_with fail
  go_ret
  exact ⟨rfl, G9.out⟩
end Go.Proofs.YtijjfdmklbncbaaDoor
