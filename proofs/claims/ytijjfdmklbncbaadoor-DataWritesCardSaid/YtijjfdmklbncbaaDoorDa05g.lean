/-
  The document's data (layer 5): texts, layout.
-/
import Derived.Test.YtijjfdmklbncbaaDoorDa05d
namespace Go.Proofs.YtijjfdmklbncbaaDoor
open Go.RowKit

def rpcv (x : Pc) : List Value := [.string x.text, .bool x.name]
theorem rpcv_len (x : Pc) : (rpcv x).length = 2 := rfl
def rpcvs (l : List Pc) : List Value := l.flatMap rpcv
theorem rpcvs_snoc (l : List Pc) (x : Pc) : rpcvs (l ++ [x]) = rpcvs l ++ [.string x.text, .bool x.name] := by simp [rpcvs, rpcv]
theorem own_pair (w : World) (base : Nat) (e : TypeId) (u0 u1 : Value) (hb : base ≤ w.heap.size) : (w.alloc (.cells #[u0, u1] e)).ownsRow base e 2 (.slice (some ⟨w.heap.size, 0, none⟩) 1 1) 1 [u0, u1] :=
  ⟨by simp, .inr ⟨w.heap.size, 1, #[u0, u1], rfl, hb, balloc w _, Nat.le_refl _, by unfold maxLen; omega, by simp, by simp⟩⟩
theorem sl_two (w : World) (e : TypeId) (u0 u1 : Value) : Sl (w.alloc (.cells #[u0, u1] e)) 2 (.slice (some ⟨w.heap.size, 0, none⟩) 1 1) 1 [u0, u1] := by
  refine ⟨_, 1, rfl, Nat.le_refl _, rfl, (fun e => by cases e), fun _ => ⟨w.heap.size, 0, rfl, fun j u hu => ?_⟩⟩
  rw [Nat.zero_add, bcellAt (balloc w _) j]
  simpa using hu
def RPcs (w : World) (v : Value) (l : List Pc) : Prop := FS w 0 77 2 v l.length (rpcvs l)
theorem RPcs.at {w : World} {n cap i : Nat} {A : Option Addr} {l : List Pc} (h : RPcs w (.slice A n cap) l) (hi : i < l.length) : ∃ g, A = some ⟨g, 0, none⟩ ∧ n = l.length ∧ g < w.heap.size ∧
    w.cell? ⟨g, i * 2, none⟩ = some (.string l[i].text) ∧ w.cell? ⟨g, i * 2 + 1, none⟩ = some (.bool l[i].name) := by
  obtain ⟨g, h1, h2, h3, _, h4⟩ := FS.cellAt (f := rpcv) rpcv_len h hi
  exact ⟨g, h1, h2, h3, h4 0 (by omega), h4 1 (by omega)⟩
theorem RPcs.of {w : World} {base : Nat} {v : Value} {l : List Pc} (h : w.ownsRow base 77 2 v l.length (rpcvs l)) : RPcs w v l := (FS.of h).mono (Nat.zero_le _)
theorem RPcs.kept0 {w w' : World} {v : Value} {l : List Pc} (h : RPcs w v l) (g : w.grownBy w' none) : RPcs w' v l := FS.kept0 h g
def txR (s : ByteArray) : Ds := if txF s 0 = true then .ok [⟨s, false, 0⟩] else .no 4
theorem txR_yes {s : ByteArray} (h : txF s 0 = true) : txR s = .ok [⟨s, false, 0⟩] := if_pos h
theorem txR_no {s : ByteArray} (h : txF s 0 = false) : txR s = .no 4 := if_neg (by simp [h])
/-- What 'pieces' gives. -/
def RpPost (r : Ds) (w : World) (e : Ending) (w' : World) : Prop :=
  w.grownBy w' none ∧ match r with
    | .ok l => ∃ v, e = .returned (.tuple #[v, .int .i64 0]) ∧ w'.ownsRow w.heap.size 77 2 v l.length (rpcvs l)
    | .no x => 1 ≤ x ∧ x ≤ 8 ∧ e = .returned (.tuple #[.slice none 0 0, .int .i64 (x : Int)])

set_option maxRecDepth 100000 in
set_option maxHeartbeats 1000000 in
theorem rtexts_any (s : ByteArray) (w : World) (hs : s.size ≤ 1000000) : Calls Tryd.prog 41 #[.string s] w (RpPost (txR s) w) := by
  by_cases h0 : s.size = 0
  · have HT := Lib.hid (show txF s 0 = false from txF_out (by omega))
    rw [txR_no HT.out]
    have hl : s.toList = [] := by
      rw [ByteArray.toList_eq]
      exact List.eq_nil_of_length_eq_zero (by rw [nlen]; exact h0)
    have q0 : (s.toList == []) = true := by rw [hl]; rfl
    have q1 : s.toList.isEmpty = true := by rw [hl]; rfl
    clear hl h0
    go_enter Tryd.func41, Tryd.ntmps41
    go_wp2_with fail
    go_ret2
    exact ⟨grefl _ _, by omega, by omega, rfl⟩
  · have hl : s.toList ≠ [] := by
      intro e
      rw [ByteArray.toList_eq] at e
      exact h0 (by rw [← nlen, e]; rfl)
    have q0 : (s.toList == []) = false := by simpa using hl
    have q1 : s.toList.isEmpty = false := by simpa using hl
    clear hl
    go_enter Tryd.func41, Tryd.ntmps41
    go_wp2_with fail
    go_loop [4] (fun vq => ∃ q : Nat, vq = .int .i64 q ∧ q ≤ s.size ∧ txF s 0 = (if q = s.size then true else txF s q)) (fun vq => s.size - (intOf vq).toNat)
    case atStart => exact ⟨0, rfl, by omega, by rw [if_neg (by omega)]⟩
    case round =>
      obtain ⟨q, rfl, hq, hT⟩ := hrel
      have HT := Lib.hid hT
      clear hT
      by_cases hlt : q < s.size
      · have k0 : decide ((q : Int) < (s.size : Int)) = true := by simp; omega
        have hg := (bt_get s q hlt).symm
        have hb := bt_lt s q
        have l1 := s[q].toNat_lt
        by_cases hfit : q + 1 + bt s q ≤ s.size
        · have k2 : decide ((s.size : Int) < (q : Int) + 1 + ((bt s q : Nat) : Int)) = false := by simp; omega
          have HN := Lib.hid (show txF s 0 = (if q + 1 + bt s q = s.size then true else txF s (q + 1 + bt s q)) by rw [HT.out, if_neg (by omega)]; exact txF_eq hlt)
          go_wp2_with fail
          go_round
          case rel => exact ⟨q + 1 + bt s q, by go_num, hfit, HN.out⟩
          case measure => simp [intOf]; omega
        · have k2 : decide ((s.size : Int) < (q : Int) + 1 + ((bt s q : Nat) : Int)) = true := by simp; omega
          have HN := Lib.hid (show txF s 0 = false by rw [HT.out, if_neg (by omega), txF_step hlt (by omega), txF_out (by omega)])
          go_wp2_with fail
          go_ret2
          rw [txR_no HN.out]
          exact ⟨grefl _ _, by omega, by omega, rfl⟩
      · have k0 : decide ((q : Int) < (s.size : Int)) = false := by simp; omega
        have HN := Lib.hid (show txF s 0 = true by rw [HT.out, if_pos (by omega)])
        go_wp2_with fail
        go_ret2
        rw [txR_yes HN.out]
        exact ⟨galloc (grefl _ _) _, _, rfl, own_pair w _ _ _ _ (Nat.le_refl _)⟩
theorem txF_ext {s : ByteArray} {p : Nat} (hp : p ≤ s.size) : ∀ k q, s.size - (p + q) = k → txF (s.extract p s.size) q = txF s (p + q) := by
  intro k
  induction k using Nat.strongRecOn with
  | _ k ih =>
    intro q hk
    have hsz : (s.extract p s.size).size = s.size - p := by rw [ext_size]; omega
    have hbt : bt (s.extract p s.size) q = bt s (p + q) := by
      show bt (suf s p) q = _
      unfold bt
      rw [suf_list, List.getElem?_drop]
    by_cases h : p + q < s.size
    · rw [txF_eq (s := s.extract p s.size) (p := q) (by omega), txF_eq h, hsz, hbt]
      by_cases e : q + 1 + bt s (p + q) = s.size - p
      · rw [if_pos e, if_pos (by omega)]
      · rw [if_neg e, if_neg (by omega), ih (s.size - (p + (q + 1 + bt s (p + q)))) (by omega) _ rfl]
        congr 1
        omega
    · rw [txF_out (by omega), txF_out (by omega)]

theorem results_q4 {P : Program} {fn : Func} {t u v x : Tmp} (h : fn.results = #[.tmp t, .tmp u, .tmp v, .tmp x]) (tmps : Array Value) (w : World) :
    (results fn tmps).run P w = .ok (.tuple #[tmps.getD t undef, tmps.getD u undef, tmps.getD v undef, tmps.getD x undef]) w := by simp [results, h]
def layI (kind : Nat) : Nat × Nat × Nat × Bool := match layF kind with
  | some (a, n, b) => (a, n, b, true)
  | none => (0, 0, 0, false)
set_option maxRecDepth 100000 in
theorem rlayout_any (k : Nat) (w : World) : Calls Tryd.prog 42 #[.int .u16 k] w fun e w' => e = .returned (.tuple #[.int .i64 ((layI k).1 : Int), .int .i64 ((layI k).2.1 : Int), .int .i64 ((layI k).2.2.1 : Int), .bool (layI k).2.2.2]) ∧ w = w' := by
  by_cases h : k = 1 ∨ k = 28 ∨ k = 2 ∨ k = 5 ∨ k = 12 ∨ k = 15 ∨ k = 6 ∨ k = 33
  · rcases h with rfl | rfl | rfl | rfl | rfl | rfl | rfl | rfl
    all_goals
      go_enter Tryd.func42, Tryd.ntmps42
      go_wp2_with fail
      refine bodyPost_ret (results_q4 rfl _ _) rfl ?_
      exact ⟨rfl, rfl⟩
  · have HC := Lib.hid (show layI k = (0, 0, 0, false) by
      have : layF k = none := by
        unfold layF
        rw [if_neg (by omega), if_neg (by omega), if_neg (by omega), if_neg (by omega), if_neg (by omega), if_neg (by omega)]
      unfold layI; rw [this])
    rw [HC.out]
    have q1 : ((k : Int) == 1) = false := by simp; omega
    have q28 : ((k : Int) == 28) = false := by simp; omega
    have q2 : ((k : Int) == 2) = false := by simp; omega
    have q5 : ((k : Int) == 5) = false := by simp; omega
    have q6 : ((k : Int) == 6) = false := by simp; omega
    have q12 : ((k : Int) == 12) = false := by simp; omega
    have q15 : ((k : Int) == 15) = false := by simp; omega
    have q33 : ((k : Int) == 33) = false := by simp; omega
    clear h
    go_enter Tryd.func42, Tryd.ntmps42
    go_wp2_with fail
    refine bodyPost_ret (results_q4 rfl _ _) rfl ?_
    exact ⟨rfl, rfl⟩
end Go.Proofs.YtijjfdmklbncbaaDoor
