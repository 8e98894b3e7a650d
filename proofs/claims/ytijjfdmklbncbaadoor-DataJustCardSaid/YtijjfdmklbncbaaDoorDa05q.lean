/-
  DataJust.
-/
import Derived.Test.YtijjfdmklbncbaaDoorDa05l
import Derived.Test.YtijjfdmklbncbaaDoorDaLaw
namespace Go.Proofs.YtijjfdmklbncbaaDoor
open Go.RowKit

def justK : List Nat := [1, 28, 2, 5, 12, 15, 6, 33]
theorem just_good {kind : Nat} (h : kind ∈ justK) : ¬ kind = 41 ∧ (∀ c ∈ cks kind, Inner c) ∧ (∀ c ∈ cks kind, c ≠ .num 0) ∧ cks kind ≠ [] := by
  simp only [justK, List.mem_cons, List.not_mem_nil, or_false] at h
  rcases h with rfl | rfl | rfl | rfl | rfl | rfl | rfl | rfl
  all_goals simp [cks, Inner]
theorem just_more {kind : Nat} (hk : kind ∈ justK) {d : ByteArray} {l : List Pc} (h : whF kind d = some l) (b : UInt8) : whF kind (d ++ ⟨#[b]⟩) = none := by
  obtain ⟨h1, h2, _⟩ := wh_good h
  obtain ⟨h41, hf⟩ := spl_fit (Nat.zero_le _) h1
  have hr := run_clear (cks kind) l [] [b] [] (just_good hk).2.1 hf
  simp only [List.nil_append, List.length_nil, Nat.zero_add] at hr
  have e : d ++ ⟨#[b]⟩ = ⟨(tx l ++ [b]).toArray⟩ := by rw [← mk_append_list, h2]
  unfold whF splF
  rw [e, if_neg h41, hr]
  simp only
  rw [if_pos (by rw [size_mk, List.length_append]; simp)]
theorem fit_pos {cs : List Ck} {l : List Pc} (hf : Fit cs l) (h1 : ∀ c ∈ cs, Inner c) (h2 : ∀ c ∈ cs, c ≠ .num 0) (h3 : cs ≠ []) : 0 < (tx l).length := by
  match cs, l, hf with
  | [], [], _ => exact absurd rfl h3
  | c :: cs, x :: l, ⟨hx, _⟩ =>
    rw [tx_cons, List.length_append, nlen]
    have : 0 < x.text.size := by
      rcases h1 c (List.mem_cons_self ..) with ⟨n, rfl⟩ | rfl
      · have := h2 _ (List.mem_cons_self ..)
        rw [hx.1]
        rcases Nat.eq_zero_or_pos n with h | h
        · subst h; exact absurd rfl this
        · exact h
      · have := (may_size hx.1).2
        have := scan_lt this
        omega
    omega
theorem just_pos {kind : Nat} (hk : kind ∈ justK) {d : ByteArray} {l : List Pc} (h : whF kind d = some l) : 0 < d.size := by
  obtain ⟨h1, h2, _⟩ := wh_good h
  obtain ⟨h41, hf⟩ := spl_fit (Nat.zero_le _) h1
  obtain ⟨_, g1, g2, g3⟩ := just_good hk
  have := fit_pos hf g1 g2 g3
  rw [← h2, size_mk]
  exact this
theorem just_less {kind : Nat} (hk : kind ∈ justK) {d : ByteArray} {l : List Pc} (h : whF kind d = some l) : whF kind (d.extract 0 (d.size - 1)) = none := by
  have hp := just_pos hk h
  cases h' : whF kind (d.extract 0 (d.size - 1)) with
  | none => rfl
  | some l' =>
    have := just_more hk h' (d[d.size - 1]'(by omega))
    have e : d.extract 0 (d.size - 1) ++ ⟨#[d[d.size - 1]'(by omega)]⟩ = d := by
      refine ba_ext ?_
      rw [exK_eq]
      show (exK d 0 (d.size - 1) ++ ⟨[d[d.size - 1]'(by omega)].toArray⟩).data.toList = _
      unfold exK
      rw [mk_append_list, List.drop_zero, Nat.sub_zero]
      show List.take (d.size - 1) d.data.toList ++ [d[d.size - 1]'(by omega)] = _
      rw [← take_snoc d (d.size - 1) (by omega), List.take_of_length_le (by rw [nlen]; omega)]
    rw [e, h] at this
    cases this

set_option maxRecDepth 100000 in
set_option maxHeartbeats 2000000 in
theorem just5_walk (which : Nat) (data : ByteArray) (more : Nat) (w : World) (he : Et w) (hw : which < 256) (hm : more < 256) : Calls Tryd.prog 7 #[.int .u8 which, .string data, .int .u8 more] w fun e w' => e = .returned (.bool true) ∧ w.grownBy w' none := by
  have HE := Lib.hid he
  by_cases hs : 5000 < data.size
  · have hb : decide ((5000 : Int) < (data.size : Int)) = true := by simp; omega
    go_enter Tryd.func7, Tryd.ntmps7
    go_wp2_with fail
    refine Calls.mono (awake05 w he) ?_
    rintro e w1 ⟨rfl, hg⟩
    go_wp2_with fail
    go_ret
    exact ⟨rfl, hg⟩
  have hb : decide ((5000 : Int) < (data.size : Int)) = false := by simp; omega
  clear he
  obtain ⟨kind, hkm, hki⟩ : ∃ kind, kind ∈ justK ∧ (#[.int .u16 1, .int .u16 28, .int .u16 2, .int .u16 5, .int .u16 12, .int .u16 15, .int .u16 6, .int .u16 33] : Array Value)[which % 8]? = some (.int .u16 (kind : Int)) := by
    have : which % 8 < 8 := Nat.mod_lt _ (by omega)
    generalize which % 8 = j at *
    rcases (show j = 0 ∨ j = 1 ∨ j = 2 ∨ j = 3 ∨ j = 4 ∨ j = 5 ∨ j = 6 ∨ j = 7 by omega) with rfl | rfl | rfl | rfl | rfl | rfl | rfl | rfl
    · exact ⟨1, by simp [justK], rfl⟩
    · exact ⟨28, by simp [justK], rfl⟩
    · exact ⟨2, by simp [justK], rfl⟩
    · exact ⟨5, by simp [justK], rfl⟩
    · exact ⟨12, by simp [justK], rfl⟩
    · exact ⟨15, by simp [justK], rfl⟩
    · exact ⟨6, by simp [justK], rfl⟩
    · exact ⟨33, by simp [justK], rfl⟩
  have hj : which % 8 < 8 := Nat.mod_lt _ (by omega)
  go_enter Tryd.func7, Tryd.ntmps7
  go_wp2_with fail
  refine Calls.mono (awake05 w HE.out) ?_
  rintro e w1 ⟨rfl, hg⟩
  have G1 := Lib.hid hg
  clear hg
  have hke : ([.int .u16 1, .int .u16 28, .int .u16 2, .int .u16 5, .int .u16 12, .int .u16 15, .int .u16 6, .int .u16 33] : List Value)[which % 8]'(by simpa using hj) = .int .u16 (kind : Int) := by
    have := hki
    simp only [List.getElem?_toArray] at this
    rw [List.getElem?_eq_getElem (by simpa using hj)] at this
    exact Option.some.inj this
  clear hki
  have K1 := Lib.hid (fun w h => mayd_any kind data w h (by omega))
  cases hwf : whF kind data with
  | none =>
    rw [show mayD kind data = false by unfold mayD; rw [hwf]; rfl] at K1
    clear hwf
    go_wp2_with fail
    refine Calls.mono (K1.out _ (HE.out.kept (galloc G1.out _) (by simp))) ?_
    rintro e w2 ⟨rfl, hg⟩
    have G2 := Lib.hid (gtrans (galloc G1.out _) hg)
    clear hg
    go_wp2_with fail
    go_ret
    exact ⟨rfl, G2.out⟩
  | some l =>
    rw [show mayD kind data = true by unfold mayD; rw [hwf]; rfl] at K1
    have hpos := just_pos hkm hwf
    have HMore := Lib.hid (just_more hkm hwf (UInt8.ofNat more))
    have HLess := Lib.hid (just_less hkm hwf)
    clear hwf
    have hds : (⟨#[UInt8.ofNat more]⟩ : ByteArray).size = 1 := rfl
    have hla : (data ++ (⟨#[UInt8.ofNat more]⟩ : ByteArray)).size = data.size + 1 := by rw [ByteArray.size_append, hds]
    have hll : (data.extract 0 (data.size - 1)).size ≤ 5000 := by rw [ext_size]; omega
    have K2 := Lib.hid (fun w h => mayd_any kind (data ++ (⟨#[UInt8.ofNat more]⟩ : ByteArray)) w h (by omega))
    have K3 := Lib.hid (fun w h => mayd_any kind (data.extract 0 (data.size - 1)) w h (by omega))
    rw [show mayD kind (data ++ (⟨#[UInt8.ofNat more]⟩ : ByteArray)) = false by unfold mayD; rw [HMore.out]; rfl] at K2
    rw [show mayD kind (data.extract 0 (data.size - 1)) = false by unfold mayD; rw [HLess.out]; rfl] at K3
    have hne : data.toList ≠ [] := by
      intro e
      rw [ByteArray.toList_eq] at e
      have := nlen data
      rw [e] at this
      simp at this
      omega
    have e1 : data.toList.isEmpty = false := by simpa using hne
    have e2 : (data.toList == []) = false := by simpa using hne
    clear hne
    have hmu : (UInt8.ofNat more).toNat = more := by simp; omega
    have hcv0 := fun w0 => cvs (sl_new w0 5 [UInt8.ofNat more] #[.int .u8 (more : Int)] 1 (by show _ = [Value.int .u8 ((UInt8.ofNat more).toNat : Int)]; rw [hmu]) rfl)
    rw [show (⟨[UInt8.ofNat more].toArray⟩ : ByteArray) = (⟨#[UInt8.ofNat more]⟩ : ByteArray) from rfl] at hcv0
    clear hmu
    generalize (⟨#[UInt8.ofNat more]⟩ : ByteArray) = C at *
    go_wp2_with fail
    refine Calls.mono (K1.out _ (HE.out.kept (galloc G1.out _) (by simp))) ?_
    rintro e w2 ⟨rfl, hg⟩
    have G2 := Lib.hid (gtrans (galloc G1.out _) hg)
    have hcv := hcv0 w2
    clear hg hcv0
    go_wp2_with fail
    refine Calls.mono (K2.out _ (HE.out.kept (galloc G2.out _) (by simp))) ?_
    rintro e w3 ⟨rfl, hg⟩
    have G3 := Lib.hid (gtrans (galloc G2.out _) hg)
    clear hg hcv
    go_wp2_with fail
    refine Calls.mono (K3.out _ (HE.out.kept G3.out (by simp))) ?_
    rintro e w4 ⟨rfl, hg⟩
    have G4 := Lib.hid (gtrans G3.out hg)
    clear hg
    go_wp2_with fail
    go_ret
    exact ⟨rfl, G4.out⟩
end Go.Proofs.YtijjfdmklbncbaaDoor
