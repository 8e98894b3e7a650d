/-
  DataFolded.
-/
import Derived.Test.YtijjfdmklbncbaaDoorDa05j
import Derived.Test.YtijjfdmklbncbaaDoorDa05l
import Derived.Test.YtijjfdmklbncbaaDoorDaLaw
namespace Go.Proofs.YtijjfdmklbncbaaDoor
open Go.RowKit

theorem low_low (c : UInt8) : low (low c) = low c := by
  unfold low
  by_cases h : 65 ≤ c.toNat ∧ c.toNat ≤ 90
  · rw [if_pos h, if_neg]
    intro h2
    have : (c + 32).toNat = c.toNat + 32 := by simp [UInt8.toNat_add]; omega
    omega
  · rw [if_neg h, if_neg h]
theorem low_le (c : UInt8) (h : c.toNat ≤ 63) : low c = c := low_no c (by omega)
theorem lowB_bt (s : ByteArray) (p : Nat) (h : bt s p ≤ 63) : bt (lowB s) p = bt s p := by
  unfold bt at h ⊢
  show (((lowL s.data.toList))[p]?.getD 0).toNat = _
  unfold lowL
  rw [List.getElem?_map]
  cases hc : s.data.toList[p]? with
  | none => rfl
  | some c =>
    rw [hc] at h
    simp only [Option.getD_some] at h
    simp [low_le c h]
theorem scan_low {s : ByteArray} : ∀ k p, s.size - p = k → scan s p = true → scan (lowB s) p = true := by
  intro k
  induction k using Nat.strongRecOn with
  | _ k ih =>
    intro p hk h
    have hp := scan_lt h
    have hp' : p < (lowB s).size := by rw [lowB_size]; exact hp
    by_cases h0 : bt s p = 0
    · have := scan_root h h0
      rw [scan_end hp' (by rw [lowB_bt s p (by omega)]; exact h0), lowB_size]
      simp; omega
    · obtain ⟨h1, h2, h3⟩ := scan_lab h h0
      have hb := lowB_bt s p h1
      rw [scan_step hp' (by rw [hb]; exact h0) (by rw [hb]; exact h1), hb]
      exact ih _ (by omega) _ rfl h3
theorem may_low {s : ByteArray} (h : may s = true) : may (lowB s) = true := by
  obtain ⟨h1, h2⟩ := may_size h
  unfold may
  rw [lowB_size, scan_low _ 0 rfl h2]
  simp; omega
theorem foldB_fold {s : ByteArray} (h : may s = true) : foldB (foldB s) = foldB s := by
  rw [foldB_yes h, foldB_yes (may_low h)]
  unfold lowB lowL
  simp only [List.map_map]
  congr 2
  refine List.map_congr_left ?_
  intro c _
  exact low_low c
def fdP (x : Pc) : Pc := ⟨if x.name = true then foldB x.text else x.text, x.name, x.next⟩
theorem fd_tx (l : List Pc) : tx (l.map fdP) = fdt l := by
  unfold tx fdt
  rw [List.flatMap_map]
  congr 1
  funext x
  unfold fdP
  cases x.name <;> simp
theorem fd_fit : ∀ (cs : List Ck) (l : List Pc), Fit cs l → Fit cs (l.map fdP) := by
  intro cs
  induction cs with
  | nil => intro l h; cases l with
    | nil => trivial
    | cons x l => cases h
  | cons c cs ih =>
    intro l h
    cases l with
    | nil => cases h
    | cons x l =>
      refine ⟨?_, ih l h.2⟩
      have h1 := h.1
      cases c with
      | num n => exact ⟨by unfold fdP; rw [h1.2]; simpa using h1.1, h1.2⟩
      | nam =>
        refine ⟨?_, h1.2⟩
        show may (if x.name = true then foldB x.text else x.text) = true
        rw [if_pos h1.2, foldB_yes h1.1]
        exact may_low h1.1
      | txt => exact ⟨by unfold fdP; rw [h1.2]; simpa using h1.1, h1.2⟩
      | rst => exact h1
theorem nms_map (l : List Pc) : nms (l.map fdP) = (nms l).map foldB := by
  unfold nms
  induction l with
  | nil => rfl
  | cons x l ih =>
    obtain ⟨t, nm, nx⟩ := x
    cases nm with
    | true => simpa [fdP] using ih
    | false => simpa [fdP] using ih
theorem fdt_fd : ∀ (l : List Pc), (∀ x ∈ l, x.name = true → may x.text = true) → fdt (l.map fdP) = fdt l := by
  intro l
  induction l with
  | nil => intro _; rfl
  | cons x l ih =>
    intro h
    have h1 := h x (List.mem_cons_self ..)
    show (if (fdP x).name = true then (foldB (fdP x).text).data.toList else (fdP x).text.data.toList) ++ fdt (l.map fdP) = (if x.name = true then (foldB x.text).data.toList else x.text.data.toList) ++ fdt l
    rw [ih (fun y hy => h y (List.mem_cons_of_mem _ hy))]
    congr 1
    unfold fdP
    cases hn : x.name with
    | true => simp only [if_true]; rw [foldB_fold (h1 hn)]
    | false => simp
theorem fdt_size : ∀ (l : List Pc), (∀ x ∈ l, x.name = true → may x.text = true) → (fdt l).length = (tx l).length := by
  intro l
  induction l with
  | nil => intro _; rfl
  | cons x l ih =>
    intro h
    have h1 := h x (List.mem_cons_self ..)
    show ((if x.name = true then (foldB x.text).data.toList else x.text.data.toList) ++ fdt l).length = (x.text.data.toList ++ tx l).length
    rw [List.length_append, List.length_append, ih (fun y hy => h y (List.mem_cons_of_mem _ hy))]
    congr 1
    cases hn : x.name with
    | true => simp only [if_true]; rw [nlen, nlen, foldB_yes (h1 hn), lowB_size]
    | false => simp
theorem fdt_none : ∀ (l : List Pc), nms l = [] → fdt l = tx l := by
  intro l
  induction l with
  | nil => intro _; rfl
  | cons x l ih =>
    intro h
    obtain ⟨t, nm, nx⟩ := x
    cases nm with
    | true => unfold nms at h; simp at h
    | false =>
      have : nms l = [] := by unfold nms at h ⊢; simpa using h
      show t.data.toList ++ fdt l = t.data.toList ++ tx l
      rw [ih this]
/-- All that the statement says of folded data. -/
structure Fdd (kind : Nat) (d s : ByteArray) : Prop where
  may : mayD kind s = true
  size : s.size = d.size
  again : (⟨(fdt (whL kind s)).toArray⟩ : ByteArray) = s
  names : nms (whL kind s) = (nms (whL kind d)).map foldB
  none : nms (whL kind d) = [] → s = d
theorem folded_all {kind : Nat} {d : ByteArray} (h : mayD kind d = true) : Fdd kind d ⟨(fdt (whL kind d)).toArray⟩ := by
  have hw : ∃ l, whF kind d = some l := by
    unfold mayD at h
    cases hh : whF kind d with
    | none => rw [hh] at h; cases h
    | some l => exact ⟨l, rfl⟩
  obtain ⟨l, hw⟩ := hw
  have hL : whL kind d = l := by unfold whL; rw [hw]; rfl
  rw [hL]
  obtain ⟨h1, h2, h3⟩ := wh_good hw
  obtain ⟨h41, hf⟩ := spl_fit (Nat.zero_le _) h1
  have hmay : ∀ x ∈ l, x.name = true → Go.Proofs.YtijjfdmklbncbaaDoor.may x.text = true := fun x hx => (h3 x hx).2
  have hs := wh_clear h41 (fd_fit _ _ hf)
  rw [fd_tx] at hs
  have hL2 : whL kind ⟨(fdt l).toArray⟩ = re 0 (l.map fdP) := by unfold whL; rw [hs]; rfl
  refine ⟨by unfold mayD; rw [hs]; rfl, by rw [size_mk, fdt_size l hmay, ← size_mk, h2], ?_, ?_, ?_⟩
  · rw [hL2, fdt_nz, re_nz, ← fdt_nz, fdt_fd l hmay]
  · rw [hL2, nms_nz, re_nz, ← nms_nz, nms_map, hL]
  · intro e
    rw [hL] at e
    rw [fdt_none l e, h2]
theorem folded_no {kind : Nat} {d : ByteArray} (h : mayD kind d = false) : (⟨(fdt (whL kind d)).toArray⟩ : ByteArray) = ⟨#[]⟩ := by
  have : whL kind d = [] := by
    unfold mayD at h
    unfold whL
    cases hh : whF kind d with
    | none => rfl
    | some l => rw [hh] at h; cases h
  rw [this]; rfl

structure FdL (w : World) (N : List ByteArray) (v : Value) (bm : Nat) (vm : Value) (M : List ByteArray) (i : Nat) (wr : World) : Prop where
  gr : w.grownBy wr none
  blk : 0 < N.length → ∃ (g cap : Nat) (cur : Array Value), v = .slice (some ⟨g, 0, none⟩) N.length cap ∧ w.heap.size ≤ g ∧ g < bm ∧ N.length ≤ cap ∧ wr.heap[g]? = some (.cells cur 9 (0, 0)) ∧ cap ≤ cur.size ∧ cur.toList.take N.length = strs ((N.take i).map foldB ++ N.drop i)
  fm : wr.ownsRow bm 9 1 vm M.length (strs M)
  f0 : N.length = 0 → FS wr 0 9 1 v 0 []
theorem FdL.quiet {w : World} {N M : List ByteArray} {v vm : Value} {bm i : Nat} {wr w2 : World} (h : FdL w N v bm vm M i wr) (g : wr.grownBy w2 none) : FdL w N v bm vm M i w2 := by
  refine ⟨gtrans h.gr g, fun hn => ?_, own_kept0 h.fm g, fun hn => FS.kept0 (h.f0 hn) g⟩
  obtain ⟨k, cap, cur, h1, h2, h3, h4, h5, h6, h7⟩ := h.blk hn
  exact ⟨k, cap, cur, h1, h2, h3, h4, gblock g h5 (by simp), h6, h7⟩
theorem FdL.store {w : World} {N M : List ByteArray} {vm : Value} {bm i g cap : Nat} {wr : World} (h : FdL w N (.slice (some ⟨g, 0, none⟩) N.length cap) bm vm M i wr) (hi : i < N.length) : FdL w N (.slice (some ⟨g, 0, none⟩) N.length cap) bm vm M (i + 1) (wr.setCell ⟨g, i, none⟩ (.string (foldB N[i]))) := by
  obtain ⟨k, cap', cur, h1, h2, h3, h4, h5, h6, h7⟩ := h.blk (by omega)
  simp only [Value.slice.injEq, Option.some.injEq, Addr.mk.injEq, and_true, true_and] at h1
  obtain ⟨rfl, rfl⟩ := h1
  refine ⟨gset h.gr (.inr h2) _, fun _ => ⟨g, cap, cur.setIfInBounds i (.string (foldB N[i])), rfl, h2, h3, h4, bset h5 i _, by simpa using h6, ?_⟩, ?_, fun hn => by omega⟩
  · rw [Array.toList_setIfInBounds, List.take_set, h7]
    have e1 : (strs ((N.take i).map foldB)).length = i := by simp [strs]; omega
    unfold strs at *
    rw [List.map_append, List.set_append_right _ _ (by omega), e1, Nat.sub_self, List.drop_eq_getElem_cons hi, List.map_cons, List.set_cons_zero, List.take_succ_eq_append_getElem hi]
    simp only [List.map_append, List.map_cons, List.map_nil, List.append_assoc, List.cons_append, List.nil_append]
  · refine World.ownsRow.kept h.fm (gset (grefl wr (some g)) (.inl rfl) _) (.inr ?_)
    intro e
    have := (World.ownsRow.lt h.fm g e).1
    omega
theorem FdL.at {w : World} {N M : List ByteArray} {v vm : Value} {bm i : Nat} {wr : World} (h : FdL w N v bm vm M i wr) (hi : i < N.length) : ∃ g cap, v = .slice (some ⟨g, 0, none⟩) N.length cap ∧ wr.cell? ⟨g, i, none⟩ = some (.string N[i]) ∧ wr.frozen? ⟨g, i, none⟩ = false ∧ g < wr.heap.size := by
  obtain ⟨k, cap', cur, h1, h2, h3, h4, h5, h6, h7⟩ := h.blk (by omega)
  refine ⟨k, cap', h1, ?_, bfree h5 i, blt h5⟩
  rw [bcellAt h5, ← Array.getElem?_toList]
  have : (cur.toList.take N.length)[i]? = (strs ((N.take i).map foldB ++ N.drop i))[i]? := by rw [h7]
  rw [List.getElem?_take_of_lt hi] at this
  rw [this]
  unfold strs
  rw [List.map_append, List.getElem?_append_right (by simp; omega)]
  have e1 : (((N.take i).map foldB).map Value.string).length = i := by simp; omega
  rw [e1, Nat.sub_self, List.drop_eq_getElem_cons hi]
  rfl
theorem FdL.done {w : World} {N M : List ByteArray} {v vm : Value} {bm : Nat} {wr : World} (h : FdL w N v bm vm M N.length wr) : FS wr 0 9 1 v (N.map foldB).length (strs (N.map foldB)) := by
  by_cases hn : N.length = 0
  · have := h.f0 hn
    have e : N = [] := List.eq_nil_of_length_eq_zero hn
    subst e
    exact this
  · obtain ⟨k, cap', cur, h1, h2, h3, h4, h5, h6, h7⟩ := h.blk (by omega)
    rw [List.take_length, List.drop_length, List.append_nil] at h7
    refine ⟨by simp [strs], .inr ⟨k, cap', cur, by rw [List.length_map]; exact h1, Nat.zero_le _, h5, by rw [List.length_map]; exact h4, by omega, ?_⟩⟩
    rw [List.length_map, Nat.mul_one, h7]
theorem FdL.start {w w1 w2 : World} {N M : List ByteArray} {v vm : Value} (hg : w.grownBy w1 none) (h : w1.ownsRow w.heap.size 9 1 v N.length (strs N)) (hg2 : w1.grownBy w2 none) (hm : w2.ownsRow w1.heap.size 9 1 vm M.length (strs M)) : FdL w N v w1.heap.size vm M 0 w2 := by
  refine ⟨gtrans hg hg2, fun hn => ?_, hm, fun hn => ?_⟩
  · rcases h.2 with ⟨_, h2⟩ | ⟨g, cap, cur, h3, h4, h5, h6, _, h8, h9⟩
    · omega
    · exact ⟨g, cap, cur, h3, h4, blt h5, h6, gblock hg2 h5 (by simp), by omega, by simpa using h9⟩
  · have := FS.kept0 ((FS.of h).mono (Nat.zero_le _)) hg2
    have e : N = [] := List.eq_nil_of_length_eq_zero hn
    subst e
    exact this

set_option maxRecDepth 100000 in
set_option maxHeartbeats 2000000 in
theorem folded5_walk (kind : Nat) (data : ByteArray) (w : World) (he : Et w) : Calls Tryd.prog 10 #[.int .u16 kind, .string data] w fun e w' => e = .returned (.bool true) ∧ w.grownBy w' none := by
  have HE := Lib.hid he
  by_cases hs : 5000 < data.size
  · have hb : decide ((5000 : Int) < (data.size : Int)) = true := by simp; omega
    go_enter Tryd.func10, Tryd.ntmps10
    go_wp2_with fail
    refine Calls.mono (awake05 w he) ?_
    rintro e w1 ⟨rfl, hg⟩
    go_wp2_with fail
    go_ret
    exact ⟨rfl, hg⟩
  have hb : decide ((5000 : Int) < (data.size : Int)) = false := by simp; omega
  clear he
  have K1 := Lib.hid (fun w h => foldd_any kind data w h (by omega))
  have K2 := Lib.hid (fun w h => mayd_any kind data w h (by omega))
  cases hmd : mayD kind data with
  | false =>
    rw [hmd] at K2
    rw [folded_no hmd] at K1
    clear hmd
    go_enter Tryd.func10, Tryd.ntmps10
    go_wp2_with fail
    refine Calls.mono (awake05 w HE.out) ?_
    rintro e w1 ⟨rfl, hg⟩
    have G1 := Lib.hid hg
    clear hg
    go_wp2_with fail
    refine Calls.mono (K1.out _ (HE.out.kept G1.out (by simp))) ?_
    rintro e w2 ⟨rfl, hg⟩
    have G2 := Lib.hid (gtrans G1.out hg)
    clear hg
    go_wp2_with fail
    refine Calls.mono (K2.out _ (HE.out.kept G2.out (by simp))) ?_
    rintro e w3 ⟨rfl, hg⟩
    have G3 := Lib.hid (gtrans G2.out hg)
    clear hg
    go_wp2_with fail
    go_ret
    exact ⟨rfl, G3.out⟩
  | true =>
    rw [hmd] at K2
    have HF := Lib.hid (folded_all hmd)
    have K3 := Lib.hid (fun w h => names_any kind data w h (by omega))
    have hsz := HF.out.size
    have hnone := HF.out.none
    clear hmd
    have hn3 : (nms (whL kind data)).length ≤ 3 := by
      have := (whL_good kind data).1
      unfold nms
      rw [List.length_map]
      have := List.length_filter_le (fun x : Pc => x.name) (whL kind data)
      omega
    have hnm : ∀ x ∈ nms (whL kind data), x.size ≤ 1000000 := by
      intro x hx
      unfold nms at hx
      obtain ⟨y, hy, rfl⟩ := List.mem_map.1 hx
      have := ((whL_good kind data).2 y (List.mem_filter.1 hy).1).1
      omega
    have HNM := Lib.hid hnm
    generalize (⟨(fdt (whL kind data)).toArray⟩ : ByteArray) = S at *
    have K4 := Lib.hid (fun w h => names_any kind S w h (by omega))
    have K5 := Lib.hid (fun w h => mayd_any kind S w h (by omega))
    have K6 := Lib.hid (fun w h => foldd_any kind S w h (by omega))
    rw [HF.out.names] at K4
    rw [HF.out.may] at K5
    rw [HF.out.again] at K6
    generalize nms (whL kind data) = N at *
    have n1 : (S.toList == S.toList) = true := by simp
    have n2 : ((S.size : Int) == (data.size : Int)) = true := by simp; omega
    have HNn := Lib.hid hnone
    clear hnone hnm HF
    go_enter Tryd.func10, Tryd.ntmps10
    go_wp2_with fail
    refine Calls.mono (awake05 w HE.out) ?_
    rintro e w1 ⟨rfl, hg⟩
    have G1 := Lib.hid hg
    clear hg
    go_wp2_with fail
    refine Calls.mono (K1.out _ (HE.out.kept G1.out (by simp))) ?_
    rintro e w2 ⟨rfl, hg⟩
    have G2 := Lib.hid (gtrans G1.out hg)
    clear hg
    go_wp2_with fail
    refine Calls.mono (K2.out _ (HE.out.kept G2.out (by simp))) ?_
    rintro e w3 ⟨rfl, hg⟩
    have G3 := Lib.hid (gtrans G2.out hg)
    clear hg
    go_wp2_with fail
    refine Calls.mono (K3.out _ (HE.out.kept G3.out (by simp))) ?_
    rintro e w4 ⟨vl, rfl, hol, hg⟩
    have HOL := Lib.hid hol
    have G34 := Lib.hid hg
    obtain ⟨Al, cl, rfl, _, _⟩ := own_shape hol
    clear hg hol
    go_wp2_with fail
    refine Calls.mono (K4.out _ (HE.out.kept (gtrans G3.out G34.out) (by simp))) ?_
    rintro e w5 ⟨vm, rfl, hom, hg⟩
    have L0 := Lib.hid (FdL.start G34.out HOL.out hg hom)
    obtain ⟨Am, cm, rfl, _, _⟩ := own_shape hom
    clear hg hom HOL K1 K2 K3 K4
    generalize w4.heap.size = bm at L0
    go_wp2_with fail
    go_loopw [8] (fun vi wr => ∃ i : Nat, vi = .int .i64 i ∧ i ≤ N.length ∧ FdL w3 N (.slice Al N.length cl) bm (.slice Am (N.map foldB).length cm) (N.map foldB) i wr) (fun vi _ => N.length - (intOf vi).toNat)
    case atStart => exact ⟨0, rfl, by omega, L0.out⟩
    case round =>
      clear L0
      obtain ⟨i, rfl, hi, hr⟩ := hrel
      have R0 := Lib.hid hr
      clear hr
      by_cases hlt : i < N.length
      · have q0 : decide ((i : Int) < (N.length : Int)) = true := by simp; omega
        obtain ⟨g, cap, e, c0, f0, l0⟩ := R0.out.at hlt
        simp only [Value.slice.injEq, true_and] at e
        obtain ⟨rfl, rfl⟩ := e
        have KF := Lib.hid (nfold_any N[i] wr (by have := HNM.out N[i] (List.getElem_mem hlt); omega))
        have HST := Lib.hid (fun w6 (h : FdL w3 N (.slice (some ⟨g, 0, none⟩) N.length cl) bm (.slice Am (N.map foldB).length cm) (N.map foldB) i w6) => h.store hlt)
        generalize N[i] = X at *
        go_wp2_with fail
        refine Calls.mono KF.out ?_
        rintro e w6 ⟨rfl, hg⟩
        have R1 := Lib.hid (R0.out.quiet hg)
        obtain ⟨k, cap', cur, h1, _, _, _, h5, h6, _⟩ := R1.out.blk (by omega)
        simp only [Value.slice.injEq, Option.some.injEq, Addr.mk.injEq, and_true, true_and] at h1
        obtain ⟨rfl, rfl⟩ := h1
        have c1 : w6.cell? ⟨g, i, none⟩ = some (.string X) := hg.cell c0 (by simp)
        have f1 : w6.frozen? ⟨g, i, none⟩ = false := bfree h5 i
        have l1 := blt h5
        have R2 := Lib.hid (HST.out w6 R1.out)
        clear hg c0 f0 l0 h5 h6
        go_wp2_with fail
        go_roundw
        case rel => exact ⟨i + 1, by go_num, by omega, R2.out⟩
        case measure => simp [intOf]; omega
      · have q0 : decide ((i : Int) < (N.length : Int)) = false := by simp; omega
        obtain rfl : i = N.length := by omega
        have FL := Lib.hid R0.out.done
        have FM := Lib.hid ((FS.of R0.out.fm).mono (Nat.zero_le _))
        have G6 := Lib.hid (gtrans G3.out R0.out.gr)
        rw [List.length_map] at FL FM
        have KT := Lib.hid (fun w6 (g : wr.grownBy w6 none) => texts_yes (.slice Al N.length cl) (.slice Am N.length cm) (N.map foldB) w6 (by rw [List.length_map]; exact FS.kept0 FL.out g) (by rw [List.length_map]; exact FS.kept0 FM.out g) (by rw [List.length_map]; omega))
        by_cases hz : N.length = 0
        · have hsd : S = data := HNn.out (List.eq_nil_of_length_eq_zero hz)
          have n3 : (S.toList == data.toList) = true := by rw [hsd]; simp
          have q1 : decide ((0 : Int) < (N.length : Int)) = false := decide_eq_false (by omega)
          have q1' : decide (0 < N.length) = false := decide_eq_false (by omega)
          clear hsd hz
          go_wp2_with fail
          refine Calls.mono (K5.out _ (HE.out.kept G6.out (by simp))) ?_
          rintro e w7 ⟨rfl, hg⟩
          have G67 := Lib.hid hg
          clear hg
          go_wp2_with fail
          refine Calls.mono (K6.out _ (HE.out.kept (gtrans G6.out G67.out) (by simp))) ?_
          rintro e w8 ⟨rfl, hg⟩
          have G68 := Lib.hid (gtrans G67.out hg)
          clear hg G67
          go_wp2_with fail
          refine Calls.mono (KT.out w8 G68.out) ?_
          rintro e w9 ⟨rfl, hg⟩
          have G9 := Lib.hid (gtrans G6.out (gtrans G68.out hg))
          clear hg
          go_wp2_with fail
          go_ret
          exact ⟨rfl, G9.out⟩
        · have q1 : decide ((0 : Int) < (N.length : Int)) = true := decide_eq_true (by omega)
          have q1' : decide (0 < N.length) = true := decide_eq_true (by omega)
          have HZ := Lib.hid hz
          clear hz
          go_wp2_with fail
          refine Calls.mono (K5.out _ (HE.out.kept G6.out (by simp))) ?_
          rintro e w7 ⟨rfl, hg⟩
          have G67 := Lib.hid hg
          clear hg
          go_wp2_with fail
          refine Calls.mono (K6.out _ (HE.out.kept (gtrans G6.out G67.out) (by simp))) ?_
          rintro e w8 ⟨rfl, hg⟩
          have G68 := Lib.hid (gtrans G67.out hg)
          clear hg G67
          go_wp2_with fail
          refine Calls.mono (KT.out w8 G68.out) ?_
          rintro e w9 ⟨rfl, hg⟩
          have G9 := Lib.hid (gtrans G6.out (gtrans G68.out hg))
          clear hg
          go_wp2_with fail
          all_goals first
            | (exfalso; exact HZ.out (by omega))
            | (exfalso; exact HZ.out (by rw [‹N = []›]; rfl))
            | (go_ret; exact ⟨rfl, G9.out⟩)
end Go.Proofs.YtijjfdmklbncbaaDoor
