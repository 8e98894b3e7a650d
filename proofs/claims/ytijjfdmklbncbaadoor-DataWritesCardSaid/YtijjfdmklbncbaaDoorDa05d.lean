/-
  text, whole, May (layer 5).
-/
import Derived.Test.YtijjfdmklbncbaaDoorDa05c
namespace Go.Proofs.YtijjfdmklbncbaaDoor
open Go.RowKit

theorem pcv_len (x : Pc) : (pcv x).length = 3 := rfl
theorem FS.cellAt {w : World} {base k n cap i : Nat} {e : TypeId} {A : Option Addr} {α : Type} {f : α → List Value} {l : List α} (hf : ∀ a, (f a).length = k) (h : FS w base e k (.slice A n cap) l.length (l.flatMap f)) (hi : i < l.length) :
    ∃ g, A = some ⟨g, 0, none⟩ ∧ n = l.length ∧ g < w.heap.size ∧ base ≤ g ∧ ∀ j, j < k → w.cell? ⟨g, i * k + j, none⟩ = (f l[i])[j]? := by
  obtain ⟨h1, h2⟩ := h
  rcases h2 with ⟨_, h2⟩ | ⟨g, cap', cur, e, hb, hg, hc1, hc2, ht⟩
  · omega
  · simp only [Value.slice.injEq] at e
    obtain ⟨rfl, rfl, _⟩ := e
    refine ⟨g, rfl, rfl, blt hg, hb, fun j hj => ?_⟩
    have get := flat_get f k hf l i j hj l[i] (List.getElem?_eq_getElem hi)
    rw [bcellAt hg, ← Array.getElem?_toList, ← get, ← ht, List.getElem?_take_of_lt ?_]
    have : (i + 1) * k ≤ l.length * k := Nat.mul_le_mul_right k hi
    rw [Nat.succ_mul] at this
    omega
theorem Pcs.at {w : World} {n cap i : Nat} {A : Option Addr} {l : List Pc} (h : Pcs w (.slice A n cap) l) (hi : i < l.length) : ∃ g, A = some ⟨g, 0, none⟩ ∧ n = l.length ∧ g < w.heap.size ∧
    w.cell? ⟨g, i * 3, none⟩ = some (.string l[i].text) ∧ w.cell? ⟨g, i * 3 + 1, none⟩ = some (.bool l[i].name) ∧ w.cell? ⟨g, i * 3 + 2, none⟩ = some (.int .i64 (l[i].next : Int)) := by
  obtain ⟨g, h1, h2, h3, _, h4⟩ := FS.cellAt (f := pcv) pcv_len h hi
  exact ⟨g, h1, h2, h3, h4 0 (by omega), h4 1 (by omega), h4 2 (by omega)⟩
theorem Pcs.of {w : World} {base : Nat} {v : Value} {l : List Pc} (h : w.ownsRow base 73 3 v l.length (pcvs l)) : Pcs w v l := (FS.of h).mono (Nat.zero_le _)
theorem Pcs.kept0 {w w' : World} {v : Value} {l : List Pc} (h : Pcs w v l) (g : w.grownBy w' none) : Pcs w' v l := FS.kept0 h g

/-- What is true of each part is true of all that are read. -/
theorem run_all {P : Pc → Prop} {s : ByteArray} (hP : ∀ c p x, p ≤ s.size → ckF c s p = .ok x → P x) : ∀ (cs : List Ck) (p : Nat) (out l : List Pc) (q : Nat), p ≤ s.size → (∀ x ∈ out, P x) → runF cs s p out = .ok l q → ∀ x ∈ l, P x := by
  intro cs
  induction cs with
  | nil => intro p out l q hp ho h; cases h; exact ho
  | cons c cs ih =>
    intro p out l q hp ho h
    unfold runF at h
    cases hc : ckF c s p with
    | no e => rw [hc] at h; cases h
    | ok x =>
      rw [hc] at h
      refine ih x.next (out ++ [x]) l q (ck_next hp hc) ?_ h
      intro y hy
      rcases List.mem_append.1 hy with hy | hy
      · exact ho y hy
      · rw [List.mem_singleton.1 hy]; exact hP c p x hp hc
theorem spl_all {P : Pc → Prop} {s : ByteArray} (hP : ∀ c p x, p ≤ s.size → ckF c s p = .ok x → P x) {p kind : Nat} {l : List Pc} (hp : p ≤ s.size) (h : splF s p kind = .ok l) : ∀ x ∈ l, P x := by
  unfold splF at h
  split at h
  · cases h
  · cases hr : runF (cks kind) s p [] with
    | no e => rw [hr] at h; cases h
    | ok m q =>
      rw [hr] at h
      simp only at h
      split at h
      · cases h
      · cases h; exact run_all hP (cks kind) p [] _ q hp (by simp) hr
theorem ck_good {s : ByteArray} {c : Ck} {p : Nat} {x : Pc} (hp : p ≤ s.size) (h : ckF c s p = .ok x) : x.text.size ≤ s.size + 255 ∧ (x.name = true → may x.text = true) := by
  cases c with
  | num n =>
    unfold ckF at h
    simp only at h
    split at h
    · cases h
    · cases h; exact ⟨by rw [ext_size]; omega, fun e => by cases e⟩
  | nam =>
    unfold ckF at h
    simp only at h
    cases hr : rdF s p p none [] with
    | ok m q =>
      rw [hr] at h; cases h
      have := (rd_le hr).2.2
      exact ⟨by have := (may_size this).1; simp only; omega, fun _ => this⟩
    | no e => rw [hr] at h; cases h
  | txt =>
    unfold ckF at h
    simp only at h
    split at h
    · cases h; exact ⟨by rw [ext_size]; omega, fun e => by cases e⟩
    · cases h
  | rst => cases h; exact ⟨by rw [ext_size]; omega, fun e => by cases e⟩
theorem spl_good {s : ByteArray} {p kind : Nat} {l : List Pc} (hp : p ≤ s.size) (h : splF s p kind = .ok l) : ∀ x ∈ l, x.text.size ≤ s.size + 255 ∧ (x.name = true → may x.text = true) :=
  spl_all (fun _ _ _ hp h => ck_good hp h) hp h
theorem tx_take {l : List Pc} {i : Nat} (h : i < l.length) : tx (l.take (i + 1)) = tx (l.take i) ++ l[i].text.data.toList := by
  unfold tx
  rw [List.take_succ_eq_append_getElem h, List.flatMap_append]
  simp
theorem tx_len {l : List Pc} {b : Nat} (h : ∀ x ∈ l, x.text.size ≤ b) : ∀ i, i ≤ l.length → (tx (l.take i)).length ≤ b * i := by
  intro i
  induction i with
  | zero => intro _; simp [tx]
  | succ i ih =>
    intro hi
    rw [tx_take (by omega), List.length_append, nlen]
    have := ih (by omega)
    have := h l[i] (List.getElem_mem (by omega))
    rw [Nat.mul_succ]
    omega

set_option maxRecDepth 100000 in
set_option maxHeartbeats 1000000 in
theorem text_any (v : Value) (l : List Pc) (w : World) (h : Pcs w v l) (hl : l.length ≤ 3) (hx : ∀ x ∈ l, x.text.size ≤ 2000000) : Calls Tryd.prog 30 #[v] w fun e w' => e = .returned (.string ⟨(tx l).toArray⟩) ∧ w.grownBy w' none := by
  obtain ⟨i0, hi, hz0, hz1, hz2⟩ := info_parts Tryd.infoByte
  have HP := Lib.hid h
  obtain ⟨A, cap, rfl⟩ := FS.len h
  clear h
  by_cases h1 : l.length = 1
  · have hpos : 0 < l.length := by omega
    obtain ⟨g, rfl, _, hgl, c0, _, _⟩ := HP.out.at (i := 0) hpos
    have k1 : ((l.length : Int) == 1) = true := by simp; omega
    have HT := Lib.hid (show (⟨(tx l).toArray⟩ : ByteArray) = l[0].text by
      match l, h1 with
      | [x], _ => simp [tx])
    clear h1
    generalize l[0].text = X at *
    go_enter Tryd.func30, Tryd.ntmps30
    go_wp2_with fail
    go_ret
    exact ⟨by rw [HT.out]; rfl, grefl _ _⟩
  · have k1 : ((l.length : Int) == 1) = false := by simp; omega
    clear h1
    go_enter Tryd.func30, Tryd.ntmps30
    go_wp2_with fail
    go_loopw [3, 15] (fun vo vi wr => ∃ i : Nat, vi = .int .i64 i ∧ i ≤ l.length ∧ w.grownBy wr none ∧ Own wr w.heap.size vo (tx (l.take i))) (fun _ vi _ => l.length - (intOf vi).toNat)
    case atStart => exact ⟨0, rfl, by omega, grefl _ _, Own.nil _ _⟩
    case round =>
      obtain ⟨i, rfl, hil, hgr, hown⟩ := hrel
      have HG := Lib.hid hgr
      have HO := Lib.hid hown
      obtain ⟨Ao, co, rfl, hco, hcm⟩ := hown.shape
      unfold maxLen at hcm
      have hlen := tx_len hx i hil
      clear hgr hown
      by_cases hlt : i < l.length
      · have k0 : decide ((i : Int) < (l.length : Int)) = true := by simp; omega
        obtain ⟨g, rfl, _, hgl, c0, c1, c2⟩ := (HP.out.kept0 HG.out).at hlt
        have HS := Lib.hid (tx_take hlt)
        have hxs := hx l[i] (List.getElem_mem hlt)
        generalize l[i] = x at *
        generalize tx (l.take i) = o at *
        go_wp2_with (at_builtin; refine wpList_app_str rfl (.tmp 19) (.tmp 21) 30 9 rfl w.heap.size i0 Tryd.underlying30 Tryd.underlying9 hi hz0 hz1 hz2 _ _ rfl (HO.out.kept0 (galloc (grefl _ none) _)) x.text rfl ?e1 ?e2 ?_)
        case e1 => omega
        case e2 => have := HG.out.size; simp; omega
        intro v6 w6 ho6 hg6
        have G6 := Lib.hid (gstep HG.out (gfr1 hg6) (fun r e => (HO.out.block r e).1))
        have O6 := Lib.hid ho6
        obtain ⟨A6, c6, rfl, _, _⟩ := ho6.shape
        clear ho6 hg6
        go_wp2_with fail
        go_roundw
        case rel => exact ⟨i + 1, by go_num, by omega, G6.out, by rw [HS.out]; exact O6.out⟩
        case measure => simp [intOf]; omega
      · have k0 : decide ((i : Int) < (l.length : Int)) = false := by simp; omega
        have hcv := cvs HO.out.sl
        have HE := Lib.hid (show tx (l.take i) = tx l by rw [List.take_of_length_le (by omega)])
        generalize tx (l.take i) = o at *
        go_wp2_with fail
        go_ret
        exact ⟨by rw [← HE.out]; rfl, HG.out⟩

/-- What 'whole' gives. -/
def WhPost (kind : Nat) (d : ByteArray) (w : World) (e : Ending) (w' : World) : Prop :=
  w.grownBy w' none ∧ match whF kind d with
    | some l => ∃ v, e = .returned (.tuple #[v, .bool true]) ∧ Pcs w' v l
    | none => e = .returned (.tuple #[.slice none 0 0, .bool false])
theorem wh_good {kind : Nat} {d : ByteArray} {l : List Pc} (h : whF kind d = some l) : splF d 0 kind = .ok l ∧ (⟨(tx l).toArray⟩ : ByteArray) = d ∧ ∀ x ∈ l, x.text.size ≤ d.size + 255 ∧ (x.name = true → may x.text = true) := by
  unfold whF at h
  cases hs : splF d 0 kind with
  | no e => rw [hs] at h; cases h
  | ok m =>
    rw [hs] at h
    simp only at h
    split at h
    · rename_i ht
      cases h
      exact ⟨rfl, ht, spl_good (Nat.zero_le _) hs⟩
    · cases h
theorem run_len {s : ByteArray} : ∀ (cs : List Ck) (p : Nat) (out l : List Pc) (q : Nat), runF cs s p out = .ok l q → l.length = out.length + cs.length := by
  intro cs
  induction cs with
  | nil => intro p out l q h; cases h; rfl
  | cons c cs ih =>
    intro p out l q h
    unfold runF at h
    cases hc : ckF c s p with
    | no e => rw [hc] at h; cases h
    | ok x => rw [hc] at h; have := ih _ _ _ _ h; simp at this ⊢; omega
theorem spl_len {s : ByteArray} {p kind : Nat} {l : List Pc} (h : splF s p kind = .ok l) : l.length ≤ 3 := by
  unfold splF at h
  split at h
  · cases h
  · cases hr : runF (cks kind) s p [] with
    | no e => rw [hr] at h; cases h
    | ok m q =>
      rw [hr] at h
      simp only at h
      split at h
      · cases h
      · cases h
        have := run_len _ _ _ _ _ hr
        have := cks_len kind
        simp at *
        omega

set_option maxRecDepth 100000 in
set_option maxHeartbeats 1000000 in
theorem whole_any (kind : Nat) (d : ByteArray) (w : World) (he : Et w) (hs : d.size ≤ 1000000) : Calls Tryd.prog 33 #[.int .u16 kind, .string d] w (WhPost kind d w) := by
  have HS := Lib.hid (split_any d 0 kind w he (Nat.zero_le _) hs)
  unfold SpPost at HS
  cases hr : splF d 0 kind with
  | no er =>
    rw [hr] at HS
    have HW := Lib.hid (show whF kind d = none by unfold whF; rw [hr])
    clear hr
    go_enter Tryd.func33, Tryd.ntmps33
    go_wp2_with fail
    refine Calls.mono HS.out ?_
    rintro e w1 ⟨hg, h1, h2, rfl⟩
    have G1 := Lib.hid hg
    have k1 : ((er : Int) != 0) = true := by simp; omega
    clear hg HS
    go_wp2_with fail
    go_ret2
    unfold WhPost
    rw [HW.out]
    exact ⟨G1.out, rfl⟩
  | ok l =>
    rw [hr] at HS
    have hgd := spl_good (Nat.zero_le _) hr
    have HT := Lib.hid (fun v w1 (h : Pcs w1 v l) => text_any v l w1 h (spl_len hr) (fun x hx => by have := (hgd x hx).1; omega))
    clear hgd
    have hdef : whF kind d = if (⟨(tx l).toArray⟩ : ByteArray) = d then some l else none := by unfold whF; rw [hr]
    have HW := Lib.hid hdef
    clear hr hdef
    have hTs : (⟨(tx l).toArray⟩ : ByteArray).size = (tx l).length := size_mk _
    generalize hTx : (⟨(tx l).toArray⟩ : ByteArray) = T at *
    clear hTx hTs
    by_cases hq : T = d
    · have k2 : (T.toList == d.toList) = true := by rw [hq]; simp
      have HQ := Lib.hid (show whF kind d = some l by rw [HW.out, if_pos hq])
      clear hq HW
      go_enter Tryd.func33, Tryd.ntmps33
      go_wp2_with fail
      refine Calls.mono HS.out ?_
      rintro e w1 ⟨hg, _, v, rfl, ho⟩
      have G1 := Lib.hid hg
      have P1 := Lib.hid (Pcs.of ho)
      obtain ⟨A, cap, rfl, _, _⟩ := own_shape ho
      clear hg HS ho
      go_wp2_with fail
      refine Calls.mono (HT.out _ w1 P1.out) ?_
      rintro e w2 ⟨rfl, hg⟩
      have G2 := Lib.hid (gtrans G1.out hg)
      have P2 := Lib.hid (P1.out.kept0 hg)
      clear hg
      go_wp2_with fail
      go_ret2
      unfold WhPost
      rw [HQ.out]
      exact ⟨G2.out, _, rfl, P2.out⟩
    · have k2 : (T.toList == d.toList) = false := str_ne hq
      have HQ := Lib.hid (show whF kind d = none by rw [HW.out, if_neg hq])
      clear hq HW
      go_enter Tryd.func33, Tryd.ntmps33
      go_wp2_with fail
      refine Calls.mono HS.out ?_
      rintro e w1 ⟨hg, _, v, rfl, ho⟩
      have G1 := Lib.hid hg
      have P1 := Lib.hid (Pcs.of ho)
      obtain ⟨A, cap, rfl, _, _⟩ := own_shape ho
      clear hg HS ho
      go_wp2_with fail
      refine Calls.mono (HT.out _ w1 P1.out) ?_
      rintro e w2 ⟨rfl, hg⟩
      have G2 := Lib.hid (gtrans G1.out hg)
      clear hg
      go_wp2_with fail
      go_ret2
      unfold WhPost
      rw [HQ.out]
      exact ⟨G2.out, rfl⟩
def mayD (kind : Nat) (d : ByteArray) : Bool := (whF kind d).isSome
theorem mayd_any (kind : Nat) (d : ByteArray) (w : World) (he : Et w) (hs : d.size ≤ 1000000) : Calls Tryd.prog 18 #[.int .u16 kind, .string d] w fun e w' => e = .returned (.bool (mayD kind d)) ∧ w.grownBy w' none := by
  have HS := Lib.hid (whole_any kind d w he hs)
  unfold WhPost at HS
  unfold mayD
  cases hr : whF kind d with
  | none =>
    rw [hr] at HS
    clear hr
    go_enter Tryd.func18, Tryd.ntmps18
    go_wp2_with fail
    refine Calls.mono HS.out ?_
    rintro e w1 ⟨hg, rfl⟩
    have G1 := Lib.hid hg
    clear hg HS
    go_wp2_with fail
    go_ret
    exact ⟨rfl, G1.out⟩
  | some l =>
    rw [hr] at HS
    clear hr
    go_enter Tryd.func18, Tryd.ntmps18
    go_wp2_with fail
    refine Calls.mono HS.out ?_
    rintro e w1 ⟨hg, v, rfl, _⟩
    have G1 := Lib.hid hg
    clear hg HS
    go_wp2_with fail
    go_ret
    exact ⟨rfl, G1.out⟩
end Go.Proofs.YtijjfdmklbncbaaDoor
