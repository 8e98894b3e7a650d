/-
  The document's data (layer 5): joined, Whole, May, Names, Fold, Compressed, Read.
-/
import Derived.Test.YtijjfdmklbncbaaDoorDa05h
import Derived.Test.YtijjfdmklbncbaaDoorDa05f
namespace Go.Proofs.YtijjfdmklbncbaaDoor
open Go.RowKit

theorem rn_all {P : Pc → Prop} {s : ByteArray} (hP : ∀ p m q, p ≤ s.size → rdF s p p none [] = .ok m q → P ⟨⟨m.toArray⟩, true, 0⟩) : ∀ (n p : Nat) (out l : List Pc) (q : Nat), p ≤ s.size → (∀ x ∈ out, P x) → rnF n s p out = .ok l q → (∀ x ∈ l, P x) ∧ l.length = out.length + n := by
  intro n
  induction n with
  | zero => intro p out l q hp ho h; cases h; exact ⟨ho, rfl⟩
  | succ n ih =>
    intro p out l q hp ho h
    unfold rnF at h
    cases hr : rdF s p p none [] with
    | no e => rw [hr] at h; cases h
    | ok m q' =>
      rw [hr] at h
      have := ih q' (out ++ [⟨⟨m.toArray⟩, true, 0⟩]) l q (rd_le hr).2.1 (by
        intro y hy
        rcases List.mem_append.1 hy with hy | hy
        · exact ho y hy
        · rw [List.mem_singleton.1 hy]; exact hP p m q' hp hr) h
      refine ⟨this.1, ?_⟩
      rw [this.2]
      simp
      omega
theorem rpl_good {s : ByteArray} {p kind : Nat} {l : List Pc} (hp : p ≤ s.size) (h : rplF s p kind = .ok l) : (∀ x ∈ l, x.text.size ≤ s.size + 255 ∧ (x.name = true → may x.text = true)) ∧ l.length ≤ 4 := by
  have one : ∀ p q, (∀ x ∈ [(⟨s.extract p q, false, 0⟩ : Pc)], x.text.size ≤ s.size + 255 ∧ (x.name = true → may x.text = true)) := by
    intro p q x hx
    rw [List.mem_singleton.1 hx]
    exact ⟨by rw [ext_size]; omega, fun e => by cases e⟩
  by_cases h41 : kind = 41
  · rw [show rplF s p kind = .no 3 from if_pos h41] at h; cases h
  by_cases h16 : kind = 16
  · subst h16
    have h' : (if txF s p = true then Ds.ok [⟨s.extract p s.size, false, 0⟩] else .no 4) = .ok l := h
    split at h'
    · cases h'; exact ⟨one p s.size, by simp⟩
    · cases h'
  · rw [rpl_lay h41 h16] at h
    cases hl : layF kind with
    | none => rw [hl] at h; cases h; exact ⟨one p s.size, by simp⟩
    | some x =>
      obtain ⟨a, n, b⟩ := x
      rw [hl] at h
      simp only at h
      split at h
      · cases h
      · rename_i hsh
        cases hr : rnF n s (p + a) [⟨s.extract p (p + a), false, 0⟩] with
        | no e => rw [hr] at h; cases h
        | ok m q =>
          rw [hr] at h
          simp only at h
          split at h
          · cases h
          · split at h
            · cases h
            · cases h
              have hn := (lay_small hl).2.1
              obtain ⟨k1, k2⟩ := rn_all (P := fun x => x.text.size ≤ s.size + 255 ∧ (x.name = true → may x.text = true)) (s := s) (fun p m q hp hr => by
                have := (rd_le hr).2.2
                exact ⟨by have := (may_size this).1; simp only; omega, fun _ => this⟩) n (p + a) _ m q (by omega) (one p (p + a)) hr
              refine ⟨?_, by rw [List.length_append, k2]; simp; omega⟩
              intro x hx
              rcases List.mem_append.1 hx with hx | hx
              · exact k1 x hx
              · exact one q s.size x hx
set_option maxRecDepth 100000 in
set_option maxHeartbeats 1000000 in
theorem joined_any (v : Value) (l : List Pc) (w : World) (h : RPcs w v l) (hl : l.length ≤ 4) (hx : ∀ x ∈ l, x.text.size ≤ 2000000) : Calls Tryd.prog 32 #[v] w fun e w' => e = .returned (.string ⟨(tx l).toArray⟩) ∧ w = w' := by
  have HP := Lib.hid h
  obtain ⟨A, cap, rfl⟩ := FS.len h
  clear h
  go_enter Tryd.func32, Tryd.ntmps32
  go_wp2_with fail
  go_loop [3, 4] (fun vo vi => ∃ i : Nat, vi = .int .i64 i ∧ i ≤ l.length ∧ vo = .string ⟨(tx (l.take i)).toArray⟩) (fun _ vi => l.length - (intOf vi).toNat)
  case atStart => exact ⟨0, rfl, by omega, rfl⟩
  case round =>
    obtain ⟨i, rfl, hil, rfl⟩ := hrel
    have hlen := tx_len hx i hil
    have hOs : (⟨(tx (l.take i)).toArray⟩ : ByteArray).size ≤ 9000000 := by rw [size_mk]; omega
    by_cases hlt : i < l.length
    · have k0 : decide ((i : Int) < (l.length : Int)) = true := by simp; omega
      obtain ⟨g, rfl, _, hgl, c0, c1⟩ := HP.out.at hlt
      have HS := Lib.hid (show (⟨(tx (l.take i)).toArray⟩ : ByteArray) ++ l[i].text = ⟨(tx (l.take (i + 1))).toArray⟩ by
        rw [tx_take hlt]; exact mk_append_list _ l[i].text.data.toList)
      have hxs := hx l[i] (List.getElem_mem hlt)
      generalize l[i] = x at *
      generalize (⟨(tx (l.take i)).toArray⟩ : ByteArray) = o at *
      go_wp2_with fail
      go_round
      case rel => exact ⟨i + 1, by go_num, by omega, by rw [HS.out]⟩
      case measure => simp [intOf]; omega
    · have k0 : decide ((i : Int) < (l.length : Int)) = false := by simp; omega
      have HE := Lib.hid (show (⟨(tx (l.take i)).toArray⟩ : ByteArray) = ⟨(tx l).toArray⟩ by rw [List.take_of_length_le (by omega)])
      generalize (⟨(tx (l.take i)).toArray⟩ : ByteArray) = o at *
      go_wp2_with fail
      go_ret
      exact ⟨by rw [← HE.out]; rfl, rfl⟩
def RwPost (kind : Nat) (d : ByteArray) (w : World) (e : Ending) (w' : World) : Prop :=
  ∃ v, e = .returned (.tuple #[v, .bool (rwhF kind d).isSome]) ∧ RPcs w' v ((rwhF kind d).getD []) ∧ w.grownBy w' none
set_option maxRecDepth 100000 in
set_option maxHeartbeats 1000000 in
theorem rwhole_any (kind : Nat) (d : ByteArray) (w : World) (hs : d.size ≤ 1000000) : Calls Tryd.prog 34 #[.int .u16 kind, .string d] w (RwPost kind d w) := by
  have HS := Lib.hid (rpieces_any d 0 kind w (Nat.zero_le _) hs)
  cases hr : rplF d 0 kind with
  | no er =>
    rw [hr] at HS
    have HW := Lib.hid (show rwhF kind d = none by unfold rwhF; rw [hr])
    clear hr
    go_enter Tryd.func34, Tryd.ntmps34
    go_wp2_with fail
    refine Calls.mono HS.out ?_
    rintro e w1 ⟨hg, h1, h2, rfl⟩
    have G1 := Lib.hid hg
    have k1 : ((er : Int) != 0) = true := by simp; omega
    clear hg HS
    go_wp2_with fail
    go_ret2
    unfold RwPost
    rw [HW.out]
    exact ⟨_, rfl, ⟨rfl, .inl ⟨rfl, rfl⟩⟩, G1.out⟩
  | ok l =>
    rw [hr] at HS
    obtain ⟨hgd, hl4⟩ := rpl_good (Nat.zero_le _) hr
    have HT := Lib.hid (fun v w1 (h : RPcs w1 v l) => joined_any v l w1 h hl4 (fun x hx => by have := (hgd x hx).1; omega))
    clear hgd
    have hdef : rwhF kind d = if (⟨(tx l).toArray⟩ : ByteArray) = d then some l else none := by unfold rwhF; rw [hr]
    have HW := Lib.hid hdef
    clear hr hdef
    generalize hTx : (⟨(tx l).toArray⟩ : ByteArray) = T at *
    clear hTx
    by_cases hq : T = d
    · have k2 : (T.toList == d.toList) = true := by rw [hq]; simp
      have HQ := Lib.hid (show rwhF kind d = some l by rw [HW.out, if_pos hq])
      clear hq HW
      go_enter Tryd.func34, Tryd.ntmps34
      go_wp2_with fail
      refine Calls.mono HS.out ?_
      rintro e w1 ⟨hg, v, rfl, ho⟩
      have G1 := Lib.hid hg
      have P1 := Lib.hid (RPcs.of ho)
      obtain ⟨A, cap, rfl, _, _⟩ := own_shape ho
      clear hg HS ho
      go_wp2_with fail
      refine Calls.mono (HT.out _ w1 P1.out) ?_
      rintro e wq ⟨rfl, hq⟩
      subst hq
      go_wp2_with fail
      go_ret2
      unfold RwPost
      rw [HQ.out]
      exact ⟨_, rfl, P1.out, G1.out⟩
    · have k2 : (T.toList == d.toList) = false := str_ne hq
      have HQ := Lib.hid (show rwhF kind d = none by rw [HW.out, if_neg hq])
      clear hq HW
      go_enter Tryd.func34, Tryd.ntmps34
      go_wp2_with fail
      refine Calls.mono HS.out ?_
      rintro e w1 ⟨hg, v, rfl, ho⟩
      have G1 := Lib.hid hg
      have P1 := Lib.hid (RPcs.of ho)
      obtain ⟨A, cap, rfl, _, _⟩ := own_shape ho
      clear hg HS ho
      go_wp2_with fail
      refine Calls.mono (HT.out _ w1 P1.out) ?_
      rintro e wq ⟨rfl, hq⟩
      subst hq
      go_wp2_with fail
      go_ret2
      unfold RwPost
      rw [HQ.out]
      exact ⟨_, rfl, ⟨rfl, .inl ⟨rfl, rfl⟩⟩, G1.out⟩
def rwhL (kind : Nat) (d : ByteArray) : List Pc := (rwhF kind d).getD []
theorem rwhL_good (kind : Nat) (d : ByteArray) : (rwhL kind d).length ≤ 4 ∧ ∀ x ∈ rwhL kind d, x.text.size ≤ d.size + 255 ∧ (x.name = true → may x.text = true) := by
  unfold rwhL rwhF
  cases h : rplF d 0 kind with
  | no e => simp
  | ok l =>
    obtain ⟨h1, h2⟩ := rpl_good (Nat.zero_le _) h
    simp only
    split
    · exact ⟨h2, h1⟩
    · simp
theorem wh_same (kind : Nat) (d : ByteArray) : (rwhF kind d).isSome = mayD kind d ∧ nz (rwhL kind d) = nz (whL kind d) := by
  have h := wh_ref kind d
  unfold mayD rwhL whL
  cases h1 : whF kind d with
  | none => cases h2 : rwhF kind d with
    | none => exact ⟨rfl, rfl⟩
    | some m => rw [h1, h2] at h; cases h
  | some l => cases h2 : rwhF kind d with
    | none => rw [h1, h2] at h; cases h
    | some m => rw [h1, h2] at h; simp at h; exact ⟨rfl, h.symm⟩
theorem nms_nz (l : List Pc) : nms l = ((nz l).filter (·.2)).map (·.1) := by
  unfold nms nz
  induction l with
  | nil => rfl
  | cons x l ih =>
    obtain ⟨t, nm, nx⟩ := x
    cases nm with
    | true => simpa using ih
    | false =>
      simp only [List.map_cons, List.filter_cons, Bool.false_or, Bool.false_eq_true, if_false]
      split
      · simpa using ih
      · exact ih
theorem fdt_nz (l : List Pc) : fdt l = (nz l).flatMap fun y => if y.2 = true then (foldB y.1).data.toList else y.1.data.toList := by
  unfold fdt nz
  induction l with
  | nil => rfl
  | cons x l ih =>
    rw [List.map_cons, List.filter_cons, List.flatMap_cons, ih]
    by_cases h : ((x.text, x.name).2 || decide ((x.text, x.name).1.size ≠ 0)) = true
    · rw [if_pos h, List.flatMap_cons]
    · rw [if_neg h]
      simp only [Bool.or_eq_true, decide_eq_true_eq, not_or, Decidable.not_not] at h
      have : x.text.data.toList = [] := List.eq_nil_of_length_eq_zero (by rw [nlen]; exact h.2)
      rw [if_neg h.1, this, List.nil_append]
theorem rwhole_l (kind : Nat) (d : ByteArray) (w : World) (hs : d.size ≤ 1000000) : Calls Tryd.prog 34 #[.int .u16 kind, .string d] w fun e w' => ∃ v, e = .returned (.tuple #[v, .bool (mayD kind d)]) ∧ RPcs w' v (rwhL kind d) ∧ w.grownBy w' none := by
  rw [← (wh_same kind d).1]
  exact rwhole_any kind d w hs
theorem rmayd_any (kind : Nat) (d : ByteArray) (w : World) (hs : d.size ≤ 1000000) : Calls Tryd.prog 23 #[.int .u16 kind, .string d] w fun e w' => e = .returned (.bool (mayD kind d)) ∧ w.grownBy w' none := by
  have HS := Lib.hid (rwhole_l kind d w hs)
  generalize mayD kind d = mb at *
  go_enter Tryd.func23, Tryd.ntmps23
  go_wp2_with fail
  refine Calls.mono HS.out ?_
  rintro e w1 ⟨v, rfl, _, hg⟩
  have G1 := Lib.hid hg
  clear hg HS
  go_wp2_with fail
  go_ret
  exact ⟨rfl, G1.out⟩
end Go.Proofs.YtijjfdmklbncbaaDoor
