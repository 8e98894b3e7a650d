/-
  The document's data (layer 5): texts, layout.
  The document's data (layer 5): pieces.
  The document's data (layer 5): joined, Whole, May, Names, Fold, Compressed, Read.
  The document's data (layer 5): Names, Fold, Compressed, Read; Texts.
  The document's data (layer 5): Write.
-/
import Derived.Test.YthgendgmlpaglaaDoorA8
import Derived.Test.YthgendgmlpaglaaDoorA5
import Derived.Test.YthgendgmlpaglaaDoorA6
import Derived.Deep.RegionWith
namespace Go.Proofs.YthgendgmlpaglaaDoor
open Go.RowKit

def rpcv (x : Pc) : List Value := [.string x.text, .bool x.name]
theorem rpcv_len (x : Pc) : (rpcv x).length = 2 := rfl
def rpcvs (l : List Pc) : List Value := l.flatMap rpcv
theorem rpcvs_snoc (l : List Pc) (x : Pc) : rpcvs (l ++ [x]) = rpcvs l ++ [.string x.text, .bool x.name] := by simp [rpcvs, rpcv]
theorem own_pair (w : World) (base : Nat) (e : TypeId) (u0 u1 : Value) (hb : base ≤ w.heap.size) : (w.alloc (.cells #[u0, u1] e)).ownsRow base e 2 (.slice (some ⟨w.heap.size, 0, none⟩) 1 1) 1 [u0, u1] :=
  ⟨by simp, .inr ⟨w.heap.size, 1, #[u0, u1], rfl, hb, balloc w _, Nat.le_refl _, by unfold maxLen; omega, by simp, by simp⟩⟩
theorem sl_two (w : World) (e : TypeId) (u0 u1 : Value) : Sl (w.alloc (.cells #[u0, u1] e)) 2 (.slice (some ⟨w.heap.size, 0, none⟩) 1 1) 1 [u0, u1] := by
  refine ⟨_, 1, rfl, Nat.le_refl _, rfl, (fun e => by cases e), fun _ => ⟨w.heap.size, 0, rfl, fun j u hu => ?_⟩⟩
  rw [Nat.zero_add, bcellAt (balloc w _) j]
  simpa using hu
def txR (s : ByteArray) : Ds := if txF s 0 = true then .ok [⟨s, false, 0⟩] else .no 4
theorem txR_yes {s : ByteArray} (h : txF s 0 = true) : txR s = .ok [⟨s, false, 0⟩] := if_pos h
theorem txR_no {s : ByteArray} (h : txF s 0 = false) : txR s = .no 4 := if_neg (by simp [h])
theorem txF_ext {s : ByteArray} {p : Nat} (hp : p ≤ s.size) : ∀ k q, s.size - (p + q) = k → txF (s.extract p s.size) q = txF s (p + q) := by
  intro k
  induction k using Nat.strongRecOn with
  | _ k ih =>
    intro q hk
    have hsz : (s.extract p s.size).size = s.size - p := by rw [ext_size]; omega
    have hbt : bt (s.extract p s.size) q = bt s (p + q) := by
      show bt (suf s p) q = _
      unfold bt
      rw [suf_list, List.getElem?_drop]
    by_cases h : p + q < s.size
    · rw [txF_eq (s := s.extract p s.size) (p := q) (by omega), txF_eq h, hsz, hbt]
      by_cases e : q + 1 + bt s (p + q) = s.size - p
      · rw [if_pos e, if_pos (by omega)]
      · rw [if_neg e, if_neg (by omega), ih (s.size - (p + (q + 1 + bt s (p + q)))) (by omega) _ rfl]
        congr 1
        omega
    · rw [txF_out (by omega), txF_out (by omega)]

theorem results_q4 {P : Program} {fn : Func} {t u v x : Tmp} (h : fn.results = #[.tmp t, .tmp u, .tmp v, .tmp x]) (tmps : Array Value) (w : World) :
    (results fn tmps).run P w = .ok (.tuple #[tmps.getD t undef, tmps.getD u undef, tmps.getD v undef, tmps.getD x undef]) w := by simp [results, h]
def layI (kind : Nat) : Nat × Nat × Nat × Bool := match layF kind with
  | some (a, n, b) => (a, n, b, true)
  | none => (0, 0, 0, false)
end Go.Proofs.YthgendgmlpaglaaDoor
namespace Go.Proofs.YthgendgmlpaglaaDoor
open Go.RowKit

theorem rpl_txt {s : ByteArray} {p : Nat} (hp : p ≤ s.size) : rplF s p 16 = txR (s.extract p s.size) := by
  have e : txF (s.extract p s.size) 0 = txF s p := by rw [txF_ext hp _ 0 rfl]; rfl
  show (if txF s p = true then _ else _) = _
  unfold txR
  rw [e]
theorem rpl_lay {s : ByteArray} {p kind : Nat} (h41 : ¬ kind = 41) (h16 : ¬ kind = 16) : rplF s p kind = match layF kind with
    | none => .ok [⟨s.extract p s.size, false, 0⟩]
    | some (a, n, b) => if s.size - p < a then .no 4 else match rnF n s (p + a) [⟨s.extract p (p + a), false, 0⟩] with
      | .no e => .no e
      | .ok l q => if s.size - q < b then .no 4 else if b < s.size - q then .no 3 else .ok (l ++ [⟨s.extract q s.size, false, 0⟩]) := by
  unfold rplF
  rw [if_neg h41, if_neg h16]
  cases layF kind with
  | none => rfl
  | some x => obtain ⟨a, n, b⟩ := x; rfl
theorem lay_small {kind a n b : Nat} (h : layF kind = some (a, n, b)) : a ≤ 16 ∧ n ≤ 2 ∧ b ≤ 20 := by
  unfold layF at h
  repeat' split at h
  all_goals (simp only [Option.some.injEq, Prod.mk.injEq, reduceCtorEq] at h)
  all_goals (obtain ⟨rfl, rfl, rfl⟩ := h)
  all_goals omega
end Go.Proofs.YthgendgmlpaglaaDoor
namespace Go.Proofs.YthgendgmlpaglaaDoor
open Go.RowKit

theorem rn_all {P : Pc → Prop} {s : ByteArray} (hP : ∀ p m q, p ≤ s.size → rdF s p p none [] = .ok m q → P ⟨⟨m.toArray⟩, true, 0⟩) : ∀ (n p : Nat) (out l : List Pc) (q : Nat), p ≤ s.size → (∀ x ∈ out, P x) → rnF n s p out = .ok l q → (∀ x ∈ l, P x) ∧ l.length = out.length + n := by
  intro n
  induction n with
  | zero => intro p out l q hp ho h; cases h; exact ⟨ho, rfl⟩
  | succ n ih =>
    intro p out l q hp ho h
    unfold rnF at h
    cases hr : rdF s p p none [] with
    | no e => rw [hr] at h; cases h
    | ok m q' =>
      rw [hr] at h
      have := ih q' (out ++ [⟨⟨m.toArray⟩, true, 0⟩]) l q (rd_le hr).2.1 (by
        intro y hy
        rcases List.mem_append.1 hy with hy | hy
        · exact ho y hy
        · rw [List.mem_singleton.1 hy]; exact hP p m q' hp hr) h
      refine ⟨this.1, ?_⟩
      rw [this.2]
      simp
      omega
theorem rpl_good {s : ByteArray} {p kind : Nat} {l : List Pc} (hp : p ≤ s.size) (h : rplF s p kind = .ok l) : (∀ x ∈ l, x.text.size ≤ s.size + 255 ∧ (x.name = true → may x.text = true)) ∧ l.length ≤ 4 := by
  have one : ∀ p q, (∀ x ∈ [(⟨s.extract p q, false, 0⟩ : Pc)], x.text.size ≤ s.size + 255 ∧ (x.name = true → may x.text = true)) := by
    intro p q x hx
    rw [List.mem_singleton.1 hx]
    exact ⟨by rw [ext_size]; omega, fun e => by cases e⟩
  by_cases h41 : kind = 41
  · rw [show rplF s p kind = .no 3 from if_pos h41] at h; cases h
  by_cases h16 : kind = 16
  · subst h16
    have h' : (if txF s p = true then Ds.ok [⟨s.extract p s.size, false, 0⟩] else .no 4) = .ok l := h
    split at h'
    · cases h'; exact ⟨one p s.size, by simp⟩
    · cases h'
  · rw [rpl_lay h41 h16] at h
    cases hl : layF kind with
    | none => rw [hl] at h; cases h; exact ⟨one p s.size, by simp⟩
    | some x =>
      obtain ⟨a, n, b⟩ := x
      rw [hl] at h
      simp only at h
      split at h
      · cases h
      · rename_i hsh
        cases hr : rnF n s (p + a) [⟨s.extract p (p + a), false, 0⟩] with
        | no e => rw [hr] at h; cases h
        | ok m q =>
          rw [hr] at h
          simp only at h
          split at h
          · cases h
          · split at h
            · cases h
            · cases h
              have hn := (lay_small hl).2.1
              obtain ⟨k1, k2⟩ := rn_all (P := fun x => x.text.size ≤ s.size + 255 ∧ (x.name = true → may x.text = true)) (s := s) (fun p m q hp hr => by
                have := (rd_le hr).2.2
                exact ⟨by have := (may_size this).1; simp only; omega, fun _ => this⟩) n (p + a) _ m q (by omega) (one p (p + a)) hr
              refine ⟨?_, by rw [List.length_append, k2]; simp; omega⟩
              intro x hx
              rcases List.mem_append.1 hx with hx | hx
              · exact k1 x hx
              · exact one q s.size x hx
def rwhL (kind : Nat) (d : ByteArray) : List Pc := (rwhF kind d).getD []
theorem rwhL_good (kind : Nat) (d : ByteArray) : (rwhL kind d).length ≤ 4 ∧ ∀ x ∈ rwhL kind d, x.text.size ≤ d.size + 255 ∧ (x.name = true → may x.text = true) := by
  unfold rwhL rwhF
  cases h : rplF d 0 kind with
  | no e => simp
  | ok l =>
    obtain ⟨h1, h2⟩ := rpl_good (Nat.zero_le _) h
    simp only
    split
    · exact ⟨h2, h1⟩
    · simp
theorem wh_same (kind : Nat) (d : ByteArray) : (rwhF kind d).isSome = mayD kind d ∧ nz (rwhL kind d) = nz (whL kind d) := by
  have h := wh_ref kind d
  unfold mayD rwhL whL
  cases h1 : whF kind d with
  | none => cases h2 : rwhF kind d with
    | none => exact ⟨rfl, rfl⟩
    | some m => rw [h1, h2] at h; cases h
  | some l => cases h2 : rwhF kind d with
    | none => rw [h1, h2] at h; cases h
    | some m => rw [h1, h2] at h; simp at h; exact ⟨rfl, h.symm⟩
theorem nms_nz (l : List Pc) : nms l = ((nz l).filter (·.2)).map (·.1) := by
  unfold nms nz
  induction l with
  | nil => rfl
  | cons x l ih =>
    obtain ⟨t, nm, nx⟩ := x
    cases nm with
    | true => simpa using ih
    | false =>
      simp only [List.map_cons, List.filter_cons, Bool.false_or, Bool.false_eq_true, if_false]
      split
      · simpa using ih
      · exact ih
theorem fdt_nz (l : List Pc) : fdt l = (nz l).flatMap fun y => if y.2 = true then (foldB y.1).data.toList else y.1.data.toList := by
  unfold fdt nz
  induction l with
  | nil => rfl
  | cons x l ih =>
    rw [List.map_cons, List.filter_cons, List.flatMap_cons, ih]
    by_cases h : ((x.text, x.name).2 || decide ((x.text, x.name).1.size ≠ 0)) = true
    · rw [if_pos h, List.flatMap_cons]
    · rw [if_neg h]
      simp only [Bool.or_eq_true, decide_eq_true_eq, not_or, Decidable.not_not] at h
      have : x.text.data.toList = [] := List.eq_nil_of_length_eq_zero (by rw [nlen]; exact h.2)
      rw [if_neg h.1, this, List.nil_append]
end Go.Proofs.YthgendgmlpaglaaDoor
namespace Go.Proofs.YthgendgmlpaglaaDoor
open Go.RowKit

theorem rnames_same (kind : Nat) (d : ByteArray) : nms (rwhL kind d) = nms (whL kind d) := by rw [nms_nz, nms_nz, (wh_same kind d).2]
theorem rfdt_same (kind : Nat) (d : ByteArray) : fdt (rwhL kind d) = fdt (whL kind d) := by rw [fdt_nz, fdt_nz, (wh_same kind d).2]
/-- What the document's Read gives. -/
theorem tx_same {s : ByteArray} {p kind : Nat} (hp : p ≤ s.size) : match splF s p kind with
    | .ok l => ∃ m, rplF s p kind = .ok m ∧ tx m = tx l
    | .no e => rplF s p kind = .no e := by
  have h := spl_ref s p kind hp
  cases h1 : splF s p kind with
  | ok l => cases h2 : rplF s p kind with
    | ok m =>
      rw [h1, h2] at h
      exact ⟨m, rfl, by rw [tx_nz, tx_nz, show nz l = nz m from h]⟩
    | no f => rw [h1, h2] at h; exact h.elim
  | no e => cases h2 : rplF s p kind with
    | ok m => rw [h1, h2] at h; exact h.elim
    | no f => rw [h1, h2] at h; exact congrArg Ds.no (show e = f from h).symm
theorem strs_at {w : World} {n cap i : Nat} {A : Option Addr} {l : List ByteArray} (h : FS w 0 9 1 (.slice A n cap) l.length (strs l)) (hi : i < l.length) : ∃ g, A = some ⟨g, 0, none⟩ ∧ n = l.length ∧ g < w.heap.size ∧ w.cell? ⟨g, i, none⟩ = some (.string l[i]) := by
  have h' : FS w 0 9 1 (.slice A n cap) l.length (l.flatMap fun x => [Value.string x]) := by
    have : strs l = l.flatMap fun x => [Value.string x] := by unfold strs; rw [List.map_eq_flatMap]
    rw [← this]; exact h
  obtain ⟨g, h1, h2, h3, _, h4⟩ := FS.cellAt (k := 1) (f := fun x => [Value.string x]) (fun _ => rfl) h' hi
  have := h4 0 (by omega)
  rw [Nat.mul_one, Nat.add_zero] at this
  exact ⟨g, h1, h2, h3, this⟩
end Go.Proofs.YthgendgmlpaglaaDoor
namespace Go.Proofs.YthgendgmlpaglaaDoor
open Go.RowKit

theorem wrF_nz {cmp : Bool} : ∀ (l m : List Pc) (T : Tb) (out : List UInt8), nz l = nz m → wrF cmp l T out = wrF cmp m T out := by
  have key : ∀ (l : List Pc) (T : Tb) (out : List UInt8), wrF cmp l T out = (nz l).foldl (fun (s : List UInt8 × Tb) y => if y.2 = true then putF y.1 cmp cmp 0 s.2 s.1 else (s.1 ++ y.1.data.toList, s.2)) (out, T) := by
    intro l
    induction l with
    | nil => intro T out; rfl
    | cons x l ih =>
      intro T out
      unfold nz
      rw [List.map_cons, List.filter_cons]
      cases hn : x.name with
      | true =>
        rw [wrF_nam hn, ih]
        simp [nz]
      | false =>
        rw [wrF_txt hn, ih]
        by_cases h : x.text.size = 0
        · have : x.text.data.toList = [] := List.eq_nil_of_length_eq_zero (by rw [nlen]; exact h)
          simp [h, this, nz]
        · simp [h, nz]
  intro l m T out h
  rw [key, key, h]
end Go.Proofs.YthgendgmlpaglaaDoor
