/-
  DataTells.
-/
import Derived.Test.YtijjfdmklbncbaaDoorDa05l
import Derived.Test.YtijjfdmklbncbaaDoorDa05j
namespace Go.Proofs.YtijjfdmklbncbaaDoor
open Go.RowKit

/-- A slice of strings of the law's own, whatever is written into it. -/
def Spo (base n : Nat) (v : Value) (w : World) : Prop := n = 0 ∨ ∃ (g cap : Nat) (cur : Array Value) (e : TypeId), v = .slice (some ⟨g, 0, none⟩) n cap ∧ base ≤ g ∧ w.heap[g]? = some (.cells cur e (0, 0)) ∧ n ≤ cur.size
theorem Spo.of {w : World} {base n : Nat} {e : TypeId} {v : Value} {xs : List Value} (h : w.ownsRow base e 1 v n xs) : Spo base n v w := by
  rcases h.2 with ⟨_, h2⟩ | ⟨g, cap, cur, h3, h4, h5, h6, _, h8, _⟩
  · exact .inl h2
  · exact .inr ⟨g, cap, cur, e, h3, h4, h5, by omega⟩
theorem Spo.kept0 {w w' : World} {base n : Nat} {v : Value} (h : Spo base n v w) (g : w.grownBy w' none) : Spo base n v w' := by
  rcases h with h | ⟨k, cap, cur, e, h3, h4, h5, h6⟩
  · exact .inl h
  · exact .inr ⟨k, cap, cur, e, h3, h4, gblock g h5 (by simp), h6⟩

set_option maxRecDepth 100000 in
set_option maxHeartbeats 2000000 in
theorem tells5_walk (kind : Nat) (data : ByteArray) (w : World) (he : Et w) : Calls Tryd.prog 9 #[.int .u16 kind, .string data] w fun e w' => e = .returned (.bool true) ∧ w.grownBy w' none := by
  have HE := Lib.hid he
  by_cases hs : 5000 < data.size
  · have hb : decide ((5000 : Int) < (data.size : Int)) = true := by simp; omega
    go_enter Tryd.func9, Tryd.ntmps9
    go_wp2_with fail
    refine Calls.mono (awake05 w he) ?_
    rintro e w1 ⟨rfl, hg⟩
    go_wp2_with fail
    go_ret
    exact ⟨rfl, hg⟩
  have hb : decide ((5000 : Int) < (data.size : Int)) = false := by simp; omega
  clear he
  have K1 := Lib.hid (fun w => rnames_any kind data w (by omega))
  rw [rnames_same] at K1
  have K2 := Lib.hid (fun w h => names_any kind data w h (by omega))
  have K3 := Lib.hid (fun w h => mayd_any kind data w h (by omega))
  have K4 := Lib.hid (fun w => rmayd_any kind data w (by omega))
  have K5 := Lib.hid (fun w h => foldd_any kind data w h (by omega))
  have K6 := Lib.hid (fun w => rfoldd_any kind data w (by omega))
  have K7 := Lib.hid (fun w => compr_any kind w)
  have K8 := Lib.hid (fun w => rcompr_any kind w)
  have hn3 : (nms (whL kind data)).length ≤ 3 := by
    have := (whL_good kind data).1
    unfold nms
    rw [List.length_map]
    have := List.length_filter_le (fun x : Pc => x.name) (whL kind data)
    omega
  generalize nms (whL kind data) = N at *
  generalize (⟨(fdt (whL kind data)).toArray⟩ : ByteArray) = FD at *
  generalize mayD kind data = md at *
  generalize cmpF kind = cp at *
  have n1 : (FD.toList == FD.toList) = true := by simp
  have n2 : (md == md) = true := by simp
  have n3 : (cp == cp) = true := by simp
  go_enter Tryd.func9, Tryd.ntmps9
  go_wp2_with fail
  refine Calls.mono (K1.out w) ?_
  rintro e w1 ⟨vw, rfl, how, hg⟩
  have G1 := Lib.hid hg
  have W1 := Lib.hid ((FS.of how).mono (Nat.zero_le _))
  obtain ⟨Aw, cw, rfl, _, _⟩ := own_shape how
  clear hg how K1
  go_wp2_with fail
  go_loopw [6] (fun vr wr => ∃ r : Nat, vr = .int .i64 r ∧ r ≤ 2 ∧ w1.grownBy wr none) (fun vr _ => 2 - (intOf vr).toNat)
  case atStart => exact ⟨0, rfl, by omega, grefl _ _⟩
  case round =>
    obtain ⟨r, rfl, hr2, hgr⟩ := hrel
    have HG := Lib.hid hgr
    clear hgr
    by_cases hlt : r < 2
    · have k0 : decide ((r : Int) < 2) = true := by simp; omega
      go_wp2_with fail
      refine Calls.mono (K2.out wr (HE.out.kept (gtrans G1.out HG.out) (by simp))) ?_
      rintro e w2 ⟨vl, rfl, hol, hg⟩
      have HG2 := Lib.hid (gtrans HG.out hg)
      have L2 := Lib.hid ((FS.of hol).mono (Nat.zero_le _))
      have S2 := Lib.hid (Spo.of hol)
      obtain ⟨Al, cl, rfl, _, _⟩ := own_shape hol
      have hsz := hg.size
      clear hol hg
      go_wp2_with fail
      refine Calls.mono (texts_yes _ _ N w2 L2.out (W1.out.kept0 HG2.out) (by omega)) ?_
      rintro e w3 ⟨rfl, hg⟩
      have HG3 := Lib.hid (gtrans HG2.out hg)
      have S3 := Lib.hid (S2.out.kept0 hg)
      clear hg L2 S2 HG2
      go_wp2_with fail
      have hbz : w1.heap.size ≤ wr.heap.size := HG.out.size
      generalize wr.heap.size = bz at hbz S3
      go_loopw [8] (fun vk wi => ∃ k : Nat, vk = .int .i64 k ∧ k ≤ N.length ∧ w1.grownBy wi none ∧ Spo bz N.length (.slice Al N.length cl) wi) (fun vk _ => N.length - (intOf vk).toNat)
      case atStart => exact ⟨0, rfl, by omega, HG3.out, S3.out⟩
      case round =>
        obtain ⟨k, rfl, hk, hgi, hsp⟩ := hrel
        have HGi := Lib.hid hgi
        have HSi := Lib.hid hsp
        clear hgi
        by_cases hlk : k < N.length
        · have q0 : decide ((k : Int) < (N.length : Int)) = true := by simp; omega
          rcases hsp with h | ⟨g, cap, cur, e, h3, h4, h5, h6⟩
          · omega
          simp only [Value.slice.injEq, true_and] at h3
          obtain ⟨rfl, rfl⟩ := h3
          have c0 : wr.cell? ⟨g, k, none⟩ = some cur[k] := by rw [bcellAt h5]; exact Array.getElem?_eq_getElem (by omega)
          have f0 : wr.frozen? ⟨g, k, none⟩ = false := bfree h5 k
          have l0 := blt h5
          have R := Lib.hid (fun v => show w1.grownBy (wr.setCell ⟨g, k, none⟩ v) none ∧ Spo bz N.length (.slice (some ⟨g, 0, none⟩) N.length cl) (wr.setCell ⟨g, k, none⟩ v) from
            ⟨gset HGi.out (.inr (Nat.le_trans hbz h4)) v, .inr ⟨g, cl, cur.setIfInBounds k v, e, rfl, h4, bset h5 k v, by simpa using h6⟩⟩)
          generalize cur[k] = uk at c0
          clear h5 h6
          go_wp2_with fail
          go_roundw
          case rel => exact ⟨k + 1, by go_num, by omega, (R.out _).1, (R.out _).2⟩
          case measure => simp [intOf]; omega
        · have q0 : decide ((k : Int) < (N.length : Int)) = false := by simp; omega
          clear hsp
          go_wp2_with fail
          go_roundw
          case rel => exact ⟨r + 1, by go_num, by omega, HGi.out⟩
          case measure => simp [intOf]; omega
    · have k0 : decide ((r : Int) < 2) = false := by simp; omega
      have GW := Lib.hid (gtrans G1.out HG.out)
      go_wp2_with fail
      refine Calls.mono (K3.out wr (HE.out.kept GW.out (by simp))) ?_
      rintro e w2 ⟨rfl, hg⟩
      have GW2 := Lib.hid (gtrans GW.out hg)
      clear hg GW HG
      go_wp2_with fail
      refine Calls.mono (K4.out w2) ?_
      rintro e w3 ⟨rfl, hg⟩
      have GW3 := Lib.hid (gtrans GW2.out hg)
      clear hg GW2
      go_wp2_with fail
      refine Calls.mono (K5.out w3 (HE.out.kept GW3.out (by simp))) ?_
      rintro e w4 ⟨rfl, hg⟩
      have GW4 := Lib.hid (gtrans GW3.out hg)
      clear hg GW3
      go_wp2_with fail
      refine Calls.mono (K6.out w4) ?_
      rintro e w5 ⟨rfl, hg⟩
      have GW5 := Lib.hid (gtrans GW4.out hg)
      clear hg GW4
      go_wp2_with fail
      refine Calls.mono (K7.out w5) ?_
      rintro e wq ⟨rfl, hq⟩
      subst hq
      go_wp2_with fail
      refine Calls.mono (K8.out w5) ?_
      rintro e wq ⟨rfl, hq⟩
      subst hq
      go_wp2_with fail
      refine Calls.mono (awake05 w5 (HE.out.kept GW5.out (by simp))) ?_
      rintro e w6 ⟨rfl, hg⟩
      have GW6 := Lib.hid (gtrans GW5.out hg)
      clear hg GW5
      go_wp2_with fail
      go_ret
      exact ⟨rfl, GW6.out⟩
end Go.Proofs.YtijjfdmklbncbaaDoor
