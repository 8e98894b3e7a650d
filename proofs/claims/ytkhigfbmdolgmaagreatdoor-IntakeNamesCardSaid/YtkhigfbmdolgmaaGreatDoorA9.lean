/-
  The document's data (layer 5): texts, layout.
  The document's data (layer 5): pieces.
  The document's data (layer 5): joined, Whole, May, Names, Fold, Compressed, Read.
  The document's data (layer 5): Names, Fold, Compressed, Read; Texts.
  The document's data (layer 5): Write.
-/
import Derived.Test.YtkhigfbmdolgmaaGreatDoorA8
import Derived.Test.YtkhigfbmdolgmaaGreatDoorA5
import Derived.Test.YtkhigfbmdolgmaaGreatDoorA6
import Derived.Deep.RegionWith
namespace Go.Proofs.YtkhigfbmdolgmaaGreatDoor
open Go.RowKit

def rpcv (x : Pc) : List Value := [.string x.text, .bool x.name]
theorem rpcv_len (x : Pc) : (rpcv x).length = 2 := rfl
def rpcvs (l : List Pc) : List Value := l.flatMap rpcv
theorem rpcvs_snoc (l : List Pc) (x : Pc) : rpcvs (l ++ [x]) = rpcvs l ++ [.string x.text, .bool x.name] := by simp [rpcvs, rpcv]
theorem own_pair (w : World) (base : Nat) (e : TypeId) (u0 u1 : Value) (hb : base ≤ w.heap.size) : (w.alloc (.cells #[u0, u1] e)).ownsRow base e 2 (.slice (some ⟨w.heap.size, 0, none⟩) 1 1) 1 [u0, u1] :=
  ⟨by simp, .inr ⟨w.heap.size, 1, #[u0, u1], rfl, hb, balloc w _, Nat.le_refl _, by unfold maxLen; omega, by simp, by simp⟩⟩
theorem sl_two (w : World) (e : TypeId) (u0 u1 : Value) : Sl (w.alloc (.cells #[u0, u1] e)) 2 (.slice (some ⟨w.heap.size, 0, none⟩) 1 1) 1 [u0, u1] := by
  refine ⟨_, 1, rfl, Nat.le_refl _, rfl, (fun e => by cases e), fun _ => ⟨w.heap.size, 0, rfl, fun j u hu => ?_⟩⟩
  rw [Nat.zero_add, bcellAt (balloc w _) j]
  simpa using hu
def RPcs (w : World) (v : Value) (l : List Pc) : Prop := FS w 0 114 2 v l.length (rpcvs l)
theorem RPcs.at {w : World} {n cap i : Nat} {A : Option Addr} {l : List Pc} (h : RPcs w (.slice A n cap) l) (hi : i < l.length) : ∃ g, A = some ⟨g, 0, none⟩ ∧ n = l.length ∧ g < w.heap.size ∧
    w.cell? ⟨g, i * 2, none⟩ = some (.string l[i].text) ∧ w.cell? ⟨g, i * 2 + 1, none⟩ = some (.bool l[i].name) := by
  obtain ⟨g, h1, h2, h3, _, h4⟩ := FS.cellAt (f := rpcv) rpcv_len h hi
  exact ⟨g, h1, h2, h3, h4 0 (by omega), h4 1 (by omega)⟩
theorem RPcs.of {w : World} {base : Nat} {v : Value} {l : List Pc} (h : w.ownsRow base 114 2 v l.length (rpcvs l)) : RPcs w v l := (FS.of h).mono (Nat.zero_le _)
theorem RPcs.kept0 {w w' : World} {v : Value} {l : List Pc} (h : RPcs w v l) (g : w.grownBy w' none) : RPcs w' v l := FS.kept0 h g
def txR (s : ByteArray) : Ds := if txF s 0 = true then .ok [⟨s, false, 0⟩] else .no 4
theorem txR_yes {s : ByteArray} (h : txF s 0 = true) : txR s = .ok [⟨s, false, 0⟩] := if_pos h
theorem txR_no {s : ByteArray} (h : txF s 0 = false) : txR s = .no 4 := if_neg (by simp [h])
/-- What 'pieces' gives. -/
def RpPost (r : Ds) (w : World) (e : Ending) (w' : World) : Prop :=
  w.grownBy w' none ∧ match r with
    | .ok l => ∃ v, e = .returned (.tuple #[v, .int .i64 0]) ∧ w'.ownsRow w.heap.size 114 2 v l.length (rpcvs l)
    | .no x => 1 ≤ x ∧ x ≤ 8 ∧ e = .returned (.tuple #[.slice none 0 0, .int .i64 (x : Int)])

set_option maxRecDepth 100000 in
set_option maxHeartbeats 1000000 in
theorem rtexts_any (s : ByteArray) (w : World) (hs : s.size ≤ 1000000) : Calls Tryz.prog 66 #[.string s] w (RpPost (txR s) w) := by
  by_cases h0 : s.size = 0
  · have HT := Lib.hid (show txF s 0 = false from txF_out (by omega))
    rw [txR_no HT.out]
    have hl : s.toList = [] := by
      rw [ByteArray.toList_eq]
      exact List.eq_nil_of_length_eq_zero (by rw [nlen]; exact h0)
    have q0 : (s.toList == []) = true := by rw [hl]; rfl
    have q1 : s.toList.isEmpty = true := by rw [hl]; rfl
    clear hl h0
    go_enter Tryz.func66, Tryz.ntmps66
    go_wp2_with fail
    go_ret2
    exact ⟨grefl _ _, by omega, by omega, rfl⟩
  · have hl : s.toList ≠ [] := by
      intro e
      rw [ByteArray.toList_eq] at e
      exact h0 (by rw [← nlen, e]; rfl)
    have q0 : (s.toList == []) = false := by simpa using hl
    have q1 : s.toList.isEmpty = false := by simpa using hl
    clear hl
    go_enter Tryz.func66, Tryz.ntmps66
    go_wp2_with fail
    go_loop [4] (fun vq => ∃ q : Nat, vq = .int .i64 q ∧ q ≤ s.size ∧ txF s 0 = (if q = s.size then true else txF s q)) (fun vq => s.size - (intOf vq).toNat)
    case atStart => exact ⟨0, rfl, by omega, by rw [if_neg (by omega)]⟩
    case round =>
      obtain ⟨q, rfl, hq, hT⟩ := hrel
      have HT := Lib.hid hT
      clear hT
      by_cases hlt : q < s.size
      · have k0 : decide ((q : Int) < (s.size : Int)) = true := by simp; omega
        have hg := (bt_get s q hlt).symm
        have hb := bt_lt s q
        have l1 := s[q].toNat_lt
        by_cases hfit : q + 1 + bt s q ≤ s.size
        · have k2 : decide ((s.size : Int) < (q : Int) + 1 + ((bt s q : Nat) : Int)) = false := by simp; omega
          have HN := Lib.hid (show txF s 0 = (if q + 1 + bt s q = s.size then true else txF s (q + 1 + bt s q)) by rw [HT.out, if_neg (by omega)]; exact txF_eq hlt)
          go_wp2_with fail
          go_round
          case rel => exact ⟨q + 1 + bt s q, by go_num, hfit, HN.out⟩
          case measure => simp [intOf]; omega
        · have k2 : decide ((s.size : Int) < (q : Int) + 1 + ((bt s q : Nat) : Int)) = true := by simp; omega
          have HN := Lib.hid (show txF s 0 = false by rw [HT.out, if_neg (by omega), txF_step hlt (by omega), txF_out (by omega)])
          go_wp2_with fail
          go_ret2
          rw [txR_no HN.out]
          exact ⟨grefl _ _, by omega, by omega, rfl⟩
      · have k0 : decide ((q : Int) < (s.size : Int)) = false := by simp; omega
        have HN := Lib.hid (show txF s 0 = true by rw [HT.out, if_pos (by omega)])
        go_wp2_with fail
        go_ret2
        rw [txR_yes HN.out]
        exact ⟨galloc (grefl _ _) _, _, rfl, own_pair w _ _ _ _ (Nat.le_refl _)⟩
theorem txF_ext {s : ByteArray} {p : Nat} (hp : p ≤ s.size) : ∀ k q, s.size - (p + q) = k → txF (s.extract p s.size) q = txF s (p + q) := by
  intro k
  induction k using Nat.strongRecOn with
  | _ k ih =>
    intro q hk
    have hsz : (s.extract p s.size).size = s.size - p := by rw [ext_size]; omega
    have hbt : bt (s.extract p s.size) q = bt s (p + q) := by
      show bt (suf s p) q = _
      unfold bt
      rw [suf_list, List.getElem?_drop]
    by_cases h : p + q < s.size
    · rw [txF_eq (s := s.extract p s.size) (p := q) (by omega), txF_eq h, hsz, hbt]
      by_cases e : q + 1 + bt s (p + q) = s.size - p
      · rw [if_pos e, if_pos (by omega)]
      · rw [if_neg e, if_neg (by omega), ih (s.size - (p + (q + 1 + bt s (p + q)))) (by omega) _ rfl]
        congr 1
        omega
    · rw [txF_out (by omega), txF_out (by omega)]

theorem results_q4 {P : Program} {fn : Func} {t u v x : Tmp} (h : fn.results = #[.tmp t, .tmp u, .tmp v, .tmp x]) (tmps : Array Value) (w : World) :
    (results fn tmps).run P w = .ok (.tuple #[tmps.getD t undef, tmps.getD u undef, tmps.getD v undef, tmps.getD x undef]) w := by simp [results, h]
def layI (kind : Nat) : Nat × Nat × Nat × Bool := match layF kind with
  | some (a, n, b) => (a, n, b, true)
  | none => (0, 0, 0, false)
set_option maxRecDepth 100000 in
theorem rlayout_any (k : Nat) (w : World) : Calls Tryz.prog 67 #[.int .u16 k] w fun e w' => e = .returned (.tuple #[.int .i64 ((layI k).1 : Int), .int .i64 ((layI k).2.1 : Int), .int .i64 ((layI k).2.2.1 : Int), .bool (layI k).2.2.2]) ∧ w = w' := by
  by_cases h : k = 1 ∨ k = 28 ∨ k = 2 ∨ k = 5 ∨ k = 12 ∨ k = 15 ∨ k = 6 ∨ k = 33
  · rcases h with rfl | rfl | rfl | rfl | rfl | rfl | rfl | rfl
    all_goals
      go_enter Tryz.func67, Tryz.ntmps67
      go_wp2_with fail
      refine bodyPost_ret (results_q4 rfl _ _) rfl ?_
      exact ⟨rfl, rfl⟩
  · have HC := Lib.hid (show layI k = (0, 0, 0, false) by
      have : layF k = none := by
        unfold layF
        rw [if_neg (by omega), if_neg (by omega), if_neg (by omega), if_neg (by omega), if_neg (by omega), if_neg (by omega)]
      unfold layI; rw [this])
    rw [HC.out]
    have q1 : ((k : Int) == 1) = false := by simp; omega
    have q28 : ((k : Int) == 28) = false := by simp; omega
    have q2 : ((k : Int) == 2) = false := by simp; omega
    have q5 : ((k : Int) == 5) = false := by simp; omega
    have q6 : ((k : Int) == 6) = false := by simp; omega
    have q12 : ((k : Int) == 12) = false := by simp; omega
    have q15 : ((k : Int) == 15) = false := by simp; omega
    have q33 : ((k : Int) == 33) = false := by simp; omega
    clear h
    go_enter Tryz.func67, Tryz.ntmps67
    go_wp2_with fail
    refine bodyPost_ret (results_q4 rfl _ _) rfl ?_
    exact ⟨rfl, rfl⟩
end Go.Proofs.YtkhigfbmdolgmaaGreatDoor
namespace Go.Proofs.YtkhigfbmdolgmaaGreatDoor
open Go.RowKit

theorem Tryz.infoRp : (Tryz.prog.info? 114).map (fun i => (i.zero, i.size, i.bytes)) = some (some (.agg #[.string ByteArray.empty, .bool false]), 2, 24) := by kernel_rfl
theorem rpl_txt {s : ByteArray} {p : Nat} (hp : p ≤ s.size) : rplF s p 16 = txR (s.extract p s.size) := by
  have e : txF (s.extract p s.size) 0 = txF s p := by rw [txF_ext hp _ 0 rfl]; rfl
  show (if txF s p = true then _ else _) = _
  unfold txR
  rw [e]
theorem rpl_lay {s : ByteArray} {p kind : Nat} (h41 : ¬ kind = 41) (h16 : ¬ kind = 16) : rplF s p kind = match layF kind with
    | none => .ok [⟨s.extract p s.size, false, 0⟩]
    | some (a, n, b) => if s.size - p < a then .no 4 else match rnF n s (p + a) [⟨s.extract p (p + a), false, 0⟩] with
      | .no e => .no e
      | .ok l q => if s.size - q < b then .no 4 else if b < s.size - q then .no 3 else .ok (l ++ [⟨s.extract q s.size, false, 0⟩]) := by
  unfold rplF
  rw [if_neg h41, if_neg h16]
  cases layF kind with
  | none => rfl
  | some x => obtain ⟨a, n, b⟩ := x; rfl
theorem lay_small {kind a n b : Nat} (h : layF kind = some (a, n, b)) : a ≤ 16 ∧ n ≤ 2 ∧ b ≤ 20 := by
  unfold layF at h
  repeat' split at h
  all_goals (simp only [Option.some.injEq, Prod.mk.injEq, reduceCtorEq] at h)
  all_goals (obtain ⟨rfl, rfl, rfl⟩ := h)
  all_goals omega
structure RqL (w : World) (s : ByteArray) (p0 n : Nat) (hd : Pc) (i q : Nat) (out : List Pc) (v : Value) (wr : World) : Prop where
  gr : w.grownBy wr none
  own : wr.ownsRow w.heap.size 114 2 v out.length (rpcvs out)
  le : q ≤ s.size
  eq : rnF n s p0 [hd] = rnF (n - i) s q out
  len : out.length ≤ i + 1
set_option maxRecDepth 100000 in
set_option maxHeartbeats 2000000 in
theorem rpieces_any (s : ByteArray) (p kind : Nat) (w : World) (hp : p ≤ s.size) (hs : s.size ≤ 1000000) : Calls Tryz.prog 46 #[.string s, .int .i64 p, .int .u16 kind] w (RpPost (rplF s p kind) w) := by
  obtain ⟨i3, i3h, i3z, i3s, i3b⟩ := info_parts Tryz.infoRp
  by_cases h41 : kind = 41
  · have HK := Lib.hid (show rplF s p kind = .no 3 from if_pos h41)
    rw [HK.out]
    subst h41
    go_enter Tryz.func46, Tryz.ntmps46
    go_wp2_with fail
    go_ret2
    exact ⟨grefl _ _, by omega, by omega, rfl⟩
  by_cases h16 : kind = 16
  · subst h16
    rw [rpl_txt hp]
    have HT := Lib.hid (rtexts_any (s.extract p s.size) w (by rw [ext_size]; omega))
    generalize txR (s.extract p s.size) = r at *
    cases r with
    | no x =>
      go_enter Tryz.func46, Tryz.ntmps46
      go_wp2_with fail
      refine Calls.mono HT.out ?_
      rintro e w1 ⟨hg, h1, h2, rfl⟩
      have G1 := Lib.hid hg
      clear hg HT
      go_wp2_with fail
      go_ret2
      exact ⟨G1.out, h1, h2, rfl⟩
    | ok l =>
      go_enter Tryz.func46, Tryz.ntmps46
      go_wp2_with fail
      refine Calls.mono HT.out ?_
      rintro e w1 ⟨hg, v, rfl, ho⟩
      have G1 := Lib.hid hg
      have O1 := Lib.hid ho
      obtain ⟨A, cap, rfl, _, _⟩ := own_shape ho
      clear hg HT ho
      go_wp2_with fail
      go_ret2
      exact ⟨G1.out, _, rfl, O1.out⟩
  have HK := Lib.hid (rpl_lay (s := s) (p := p) h41 h16)
  have k41 : ((kind : Int) == 41) = false := by simp; omega
  have k16 : ((kind : Int) == 16) = false := by simp; omega
  have HL := Lib.hid (rlayout_any kind w)
  clear h41 h16
  cases hl : layF kind with
  | none =>
    rw [show layI kind = (0, 0, 0, false) by unfold layI; rw [hl]] at HL
    rw [hl] at HK
    rw [HK.out]
    clear hl
    go_enter Tryz.func46, Tryz.ntmps46
    go_wp2_with fail
    refine Calls.mono HL.out ?_
    rintro e wq ⟨rfl, hq⟩
    subst hq
    go_wp2_with fail
    go_ret2
    exact ⟨galloc (grefl _ _) _, _, rfl, own_pair w _ _ _ _ (Nat.le_refl _)⟩
  | some abc =>
    obtain ⟨a, n, b⟩ := abc
    obtain ⟨ha16, hn2, hb20⟩ := lay_small hl
    rw [show layI kind = (a, n, b, true) by unfold layI; rw [hl]] at HL
    rw [hl] at HK
    simp only at HK HL
    clear hl
    generalize rplF s p kind = r at *
    by_cases hsh : s.size - p < a
    · have k1 : decide ((s.size : Int) - (p : Int) < (a : Int)) = true := by simp; omega
      have HZ := Lib.hid (show r = .no 4 by rw [HK.out, if_pos hsh])
      clear hsh
      go_enter Tryz.func46, Tryz.ntmps46
      go_wp2_with fail
      refine Calls.mono HL.out ?_
      rintro e wq ⟨rfl, hq⟩
      subst hq
      go_wp2_with fail
      go_ret2
      rw [HZ.out]
      exact ⟨grefl _ _, by omega, by omega, rfl⟩
    · have k1 : decide ((s.size : Int) - (p : Int) < (a : Int)) = false := by simp; omega
      have HZ := Lib.hid (HK.out.trans (if_neg hsh))
      have hpa : p + a ≤ s.size := by omega
      clear hsh HK
      go_enter Tryz.func46, Tryz.ntmps46
      go_wp2_with fail
      refine Calls.mono HL.out ?_
      rintro e wq ⟨rfl, hq⟩
      subst hq
      clear HL
      go_wp2_with fail
      go_loopw [1, 12, 13] (fun vq vo vi wr => ∃ (i q : Nat) (out : List Pc), vi = .int .i64 i ∧ vq = .int .i64 q ∧ i ≤ n ∧ RqL w s (p + a) n ⟨s.extract p (p + a), false, 0⟩ i q out vo wr) (fun _ _ vi _ => n - (intOf vi).toNat)
      case atStart => exact ⟨0, p + a, _, rfl, by go_num, by omega, galloc (grefl _ _) _, own_pair w _ _ _ _ (Nat.le_refl _), hpa, rfl, Nat.le_refl _⟩
      case round =>
        obtain ⟨i, q, out, rfl, rfl, hin, hr⟩ := hrel
        have R0 := Lib.hid hr
        have hqs := hr.le
        have hlen := hr.len
        obtain ⟨A, cap, rfl, hcap, hcm⟩ := own_shape hr.own
        unfold maxLen at hcm
        clear hr
        by_cases hlt : i < n
        · have k0 : decide ((i : Int) < (n : Int)) = true := by simp; omega
          have HR := Lib.hid (cref_any s (q : Int) wr hs)
          rw [rdAt_in (by omega) (by omega), Int.toNat_natCast] at HR
          have HN := Lib.hid (show rnF n s (p + a) [⟨s.extract p (p + a), false, 0⟩] = match rdF s q q none [] with
            | .ok m q' => rnF (n - (i + 1)) s q' (out ++ [⟨⟨m.toArray⟩, true, 0⟩])
            | .no e => .no e by
              rw [R0.out.eq, show n - i = (n - (i + 1)) + 1 by omega]; rfl)
          cases hrd : rdF s q q none [] with
          | no er =>
            rw [hrd] at HR HN
            have hpos := rd_pos hrd
            clear hrd
            unfold rdR at HR
            have k2 : ((er : Int) != 0) = true := by simp; omega
            go_wp2_with fail
            refine Calls.mono HR.out ?_
            rintro e w2 ⟨rfl, hg⟩
            have G2 := Lib.hid (gtrans R0.out.gr hg)
            clear hg HR
            go_wp2_with fail
            go_ret2
            rw [HZ.out, HN.out]
            exact ⟨G2.out, hpos.1, hpos.2, rfl⟩
          | ok m q' =>
            rw [hrd] at HR HN
            have hq' := (rd_le hrd).2.1
            clear hrd
            unfold rdR at HR
            go_wp2_with fail
            refine Calls.mono HR.out ?_
            rintro e w2 ⟨rfl, hg⟩
            have G2 := Lib.hid (gtrans R0.out.gr hg)
            have O2 := Lib.hid (own_kept0 R0.out.own hg)
            clear hg HR
            generalize (⟨m.toArray⟩ : ByteArray) = M at *
            go_wp2_with (at_builtin; refine wpList_app_k rfl (.tmp 73) (.tmp 76) 110 rfl w.heap.size 114 i3 _ 2 24 Tryz.underlying110 i3h i3z i3s i3b rfl (by decide) _ out.length 1 (rpcvs out) [.string M, .bool true] rfl (own_kept0 O2.out (galloc (grefl _ none) _)) _ rfl (sl_two w2 _ _ _) (by intro u hu; simp at hu; rcases hu with rfl | rfl <;> rfl) ?x2 ?x3 ?x4 ?_)
            case x2 => unfold maxLen; omega
            case x3 => omega
            case x4 => have := G2.out.size; simp; omega
            intro v6 w6 ho6 hg6
            have R6 := Lib.hid (show RqL w s (p + a) n ⟨s.extract p (p + a), false, 0⟩ (i + 1) q' (out ++ [⟨M, true, 0⟩]) v6 w6 from
              ⟨gstep G2.out (gfr1 hg6) (fun r e => (World.ownsRow.lt O2.out r e).1), by rw [rpcvs_snoc, List.length_append]; exact ho6, hq', HN.out, by simp; omega⟩)
            obtain ⟨A6, c6, rfl, _, _⟩ := own_shape ho6
            clear ho6 hg6 O2
            go_wp2_with fail
            go_roundw
            case rel => exact ⟨i + 1, q', out ++ [⟨M, true, 0⟩], by go_num, rfl, by omega, by simpa using R6.out⟩
            case measure => simp [intOf]; omega
        · have k0 : decide ((i : Int) < (n : Int)) = false := by simp; omega
          have HN := Lib.hid (show rnF n s (p + a) [⟨s.extract p (p + a), false, 0⟩] = .ok out q by
            rw [R0.out.eq, show n - i = 0 by omega]; rfl)
          have HZ2 := Lib.hid (show r = (if s.size - q < b then .no 4 else if b < s.size - q then .no 3 else .ok (out ++ [⟨s.extract q s.size, false, 0⟩])) by rw [HZ.out, HN.out])
          clear HZ HN
          by_cases h1 : s.size - q < b
          · have k1 : decide ((s.size : Int) - (q : Int) < (b : Int)) = true := by simp; omega
            have HF := Lib.hid (HZ2.out.trans (if_pos h1))
            clear h1
            go_wp2_with fail
            go_ret2
            rw [HF.out]
            exact ⟨R0.out.gr, by omega, by omega, rfl⟩
          · have k1 : decide ((s.size : Int) - (q : Int) < (b : Int)) = false := by simp; omega
            by_cases h2 : b < s.size - q
            · have k2 : decide ((b : Int) < (s.size : Int) - (q : Int)) = true := by simp; omega
              have HF := Lib.hid (HZ2.out.trans ((if_neg h1).trans (if_pos h2)))
              clear h1 h2
              go_wp2_with fail
              go_ret2
              rw [HF.out]
              exact ⟨R0.out.gr, by omega, by omega, rfl⟩
            · have k2 : decide ((b : Int) < (s.size : Int) - (q : Int)) = false := by simp; omega
              have HF := Lib.hid (HZ2.out.trans ((if_neg h1).trans (if_neg h2)))
              clear h1 h2
              generalize hM : s.extract q s.size = M at *
              go_wp2_with (at_builtin; refine wpList_app_k rfl (.tmp 91) (.tmp 96) 110 rfl w.heap.size 114 i3 _ 2 24 Tryz.underlying110 i3h i3z i3s i3b rfl (by decide) _ out.length 1 (rpcvs out) [.string M, .bool false] rfl (own_kept0 R0.out.own (galloc (grefl _ none) _)) _ rfl (by rw [← hM]; exact sl_two wr _ _ _) (by intro u hu; simp at hu; rcases hu with rfl | rfl <;> rfl) ?x2 ?x3 ?x4 ?_)
              case x2 => unfold maxLen; omega
              case x3 => omega
              case x4 => have := R0.out.gr.size; simp; omega
              intro v6 w6 ho6 hg6
              have G6 := Lib.hid (show w.grownBy w6 none from gstep R0.out.gr (gfr1 hg6) (fun r e => (World.ownsRow.lt R0.out.own r e).1))
              have O6 := Lib.hid ho6
              obtain ⟨A6, c6, rfl, _, _⟩ := own_shape ho6
              clear ho6 hg6
              go_wp2_with fail
              go_ret2
              rw [HF.out]
              exact ⟨G6.out, _, rfl, by rw [rpcvs_snoc, List.length_append]; exact O6.out⟩
end Go.Proofs.YtkhigfbmdolgmaaGreatDoor
namespace Go.Proofs.YtkhigfbmdolgmaaGreatDoor
open Go.RowKit

theorem rn_all {P : Pc → Prop} {s : ByteArray} (hP : ∀ p m q, p ≤ s.size → rdF s p p none [] = .ok m q → P ⟨⟨m.toArray⟩, true, 0⟩) : ∀ (n p : Nat) (out l : List Pc) (q : Nat), p ≤ s.size → (∀ x ∈ out, P x) → rnF n s p out = .ok l q → (∀ x ∈ l, P x) ∧ l.length = out.length + n := by
  intro n
  induction n with
  | zero => intro p out l q hp ho h; cases h; exact ⟨ho, rfl⟩
  | succ n ih =>
    intro p out l q hp ho h
    unfold rnF at h
    cases hr : rdF s p p none [] with
    | no e => rw [hr] at h; cases h
    | ok m q' =>
      rw [hr] at h
      have := ih q' (out ++ [⟨⟨m.toArray⟩, true, 0⟩]) l q (rd_le hr).2.1 (by
        intro y hy
        rcases List.mem_append.1 hy with hy | hy
        · exact ho y hy
        · rw [List.mem_singleton.1 hy]; exact hP p m q' hp hr) h
      refine ⟨this.1, ?_⟩
      rw [this.2]
      simp
      omega
theorem rpl_good {s : ByteArray} {p kind : Nat} {l : List Pc} (hp : p ≤ s.size) (h : rplF s p kind = .ok l) : (∀ x ∈ l, x.text.size ≤ s.size + 255 ∧ (x.name = true → may x.text = true)) ∧ l.length ≤ 4 := by
  have one : ∀ p q, (∀ x ∈ [(⟨s.extract p q, false, 0⟩ : Pc)], x.text.size ≤ s.size + 255 ∧ (x.name = true → may x.text = true)) := by
    intro p q x hx
    rw [List.mem_singleton.1 hx]
    exact ⟨by rw [ext_size]; omega, fun e => by cases e⟩
  by_cases h41 : kind = 41
  · rw [show rplF s p kind = .no 3 from if_pos h41] at h; cases h
  by_cases h16 : kind = 16
  · subst h16
    have h' : (if txF s p = true then Ds.ok [⟨s.extract p s.size, false, 0⟩] else .no 4) = .ok l := h
    split at h'
    · cases h'; exact ⟨one p s.size, by simp⟩
    · cases h'
  · rw [rpl_lay h41 h16] at h
    cases hl : layF kind with
    | none => rw [hl] at h; cases h; exact ⟨one p s.size, by simp⟩
    | some x =>
      obtain ⟨a, n, b⟩ := x
      rw [hl] at h
      simp only at h
      split at h
      · cases h
      · rename_i hsh
        cases hr : rnF n s (p + a) [⟨s.extract p (p + a), false, 0⟩] with
        | no e => rw [hr] at h; cases h
        | ok m q =>
          rw [hr] at h
          simp only at h
          split at h
          · cases h
          · split at h
            · cases h
            · cases h
              have hn := (lay_small hl).2.1
              obtain ⟨k1, k2⟩ := rn_all (P := fun x => x.text.size ≤ s.size + 255 ∧ (x.name = true → may x.text = true)) (s := s) (fun p m q hp hr => by
                have := (rd_le hr).2.2
                exact ⟨by have := (may_size this).1; simp only; omega, fun _ => this⟩) n (p + a) _ m q (by omega) (one p (p + a)) hr
              refine ⟨?_, by rw [List.length_append, k2]; simp; omega⟩
              intro x hx
              rcases List.mem_append.1 hx with hx | hx
              · exact k1 x hx
              · exact one q s.size x hx
set_option maxRecDepth 100000 in
set_option maxHeartbeats 1000000 in
theorem joined_any (v : Value) (l : List Pc) (w : World) (h : RPcs w v l) (hl : l.length ≤ 4) (hx : ∀ x ∈ l, x.text.size ≤ 2000000) : Calls Tryz.prog 47 #[v] w fun e w' => e = .returned (.string ⟨(tx l).toArray⟩) ∧ w = w' := by
  have HP := Lib.hid h
  obtain ⟨A, cap, rfl⟩ := FS.len h
  clear h
  go_enter Tryz.func47, Tryz.ntmps47
  go_wp2_with fail
  go_loop [3, 4] (fun vo vi => ∃ i : Nat, vi = .int .i64 i ∧ i ≤ l.length ∧ vo = .string ⟨(tx (l.take i)).toArray⟩) (fun _ vi => l.length - (intOf vi).toNat)
  case atStart => exact ⟨0, rfl, by omega, rfl⟩
  case round =>
    obtain ⟨i, rfl, hil, rfl⟩ := hrel
    have hlen := tx_len hx i hil
    have hOs : (⟨(tx (l.take i)).toArray⟩ : ByteArray).size ≤ 9000000 := by rw [size_mk]; omega
    by_cases hlt : i < l.length
    · have k0 : decide ((i : Int) < (l.length : Int)) = true := by simp; omega
      obtain ⟨g, rfl, _, hgl, c0, c1⟩ := HP.out.at hlt
      have HS := Lib.hid (show (⟨(tx (l.take i)).toArray⟩ : ByteArray) ++ l[i].text = ⟨(tx (l.take (i + 1))).toArray⟩ by
        rw [tx_take hlt]; exact mk_append_list _ l[i].text.data.toList)
      have hxs := hx l[i] (List.getElem_mem hlt)
      generalize l[i] = x at *
      generalize (⟨(tx (l.take i)).toArray⟩ : ByteArray) = o at *
      go_wp2_with fail
      go_round
      case rel => exact ⟨i + 1, by go_num, by omega, by rw [HS.out]⟩
      case measure => simp [intOf]; omega
    · have k0 : decide ((i : Int) < (l.length : Int)) = false := by simp; omega
      have HE := Lib.hid (show (⟨(tx (l.take i)).toArray⟩ : ByteArray) = ⟨(tx l).toArray⟩ by rw [List.take_of_length_le (by omega)])
      generalize (⟨(tx (l.take i)).toArray⟩ : ByteArray) = o at *
      go_wp2_with fail
      go_ret
      exact ⟨by rw [← HE.out]; rfl, rfl⟩
def RwPost (kind : Nat) (d : ByteArray) (w : World) (e : Ending) (w' : World) : Prop :=
  ∃ v, e = .returned (.tuple #[v, .bool (rwhF kind d).isSome]) ∧ RPcs w' v ((rwhF kind d).getD []) ∧ w.grownBy w' none
set_option maxRecDepth 100000 in
set_option maxHeartbeats 1000000 in
theorem rwhole_any (kind : Nat) (d : ByteArray) (w : World) (hs : d.size ≤ 1000000) : Calls Tryz.prog 36 #[.int .u16 kind, .string d] w (RwPost kind d w) := by
  have HS := Lib.hid (rpieces_any d 0 kind w (Nat.zero_le _) hs)
  cases hr : rplF d 0 kind with
  | no er =>
    rw [hr] at HS
    have HW := Lib.hid (show rwhF kind d = none by unfold rwhF; rw [hr])
    clear hr
    go_enter Tryz.func36, Tryz.ntmps36
    go_wp2_with fail
    refine Calls.mono HS.out ?_
    rintro e w1 ⟨hg, h1, h2, rfl⟩
    have G1 := Lib.hid hg
    have k1 : ((er : Int) != 0) = true := by simp; omega
    clear hg HS
    go_wp2_with fail
    go_ret2
    unfold RwPost
    rw [HW.out]
    exact ⟨_, rfl, ⟨rfl, .inl ⟨rfl, rfl⟩⟩, G1.out⟩
  | ok l =>
    rw [hr] at HS
    obtain ⟨hgd, hl4⟩ := rpl_good (Nat.zero_le _) hr
    have HT := Lib.hid (fun v w1 (h : RPcs w1 v l) => joined_any v l w1 h hl4 (fun x hx => by have := (hgd x hx).1; omega))
    clear hgd
    have hdef : rwhF kind d = if (⟨(tx l).toArray⟩ : ByteArray) = d then some l else none := by unfold rwhF; rw [hr]
    have HW := Lib.hid hdef
    clear hr hdef
    generalize hTx : (⟨(tx l).toArray⟩ : ByteArray) = T at *
    clear hTx
    by_cases hq : T = d
    · have k2 : (T.toList == d.toList) = true := by rw [hq]; simp
      have HQ := Lib.hid (show rwhF kind d = some l by rw [HW.out, if_pos hq])
      clear hq HW
      go_enter Tryz.func36, Tryz.ntmps36
      go_wp2_with fail
      refine Calls.mono HS.out ?_
      rintro e w1 ⟨hg, v, rfl, ho⟩
      have G1 := Lib.hid hg
      have P1 := Lib.hid (RPcs.of ho)
      obtain ⟨A, cap, rfl, _, _⟩ := own_shape ho
      clear hg HS ho
      go_wp2_with fail
      refine Calls.mono (HT.out _ w1 P1.out) ?_
      rintro e wq ⟨rfl, hq⟩
      subst hq
      go_wp2_with fail
      go_ret2
      unfold RwPost
      rw [HQ.out]
      exact ⟨_, rfl, P1.out, G1.out⟩
    · have k2 : (T.toList == d.toList) = false := str_ne hq
      have HQ := Lib.hid (show rwhF kind d = none by rw [HW.out, if_neg hq])
      clear hq HW
      go_enter Tryz.func36, Tryz.ntmps36
      go_wp2_with fail
      refine Calls.mono HS.out ?_
      rintro e w1 ⟨hg, v, rfl, ho⟩
      have G1 := Lib.hid hg
      have P1 := Lib.hid (RPcs.of ho)
      obtain ⟨A, cap, rfl, _, _⟩ := own_shape ho
      clear hg HS ho
      go_wp2_with fail
      refine Calls.mono (HT.out _ w1 P1.out) ?_
      rintro e wq ⟨rfl, hq⟩
      subst hq
      go_wp2_with fail
      go_ret2
      unfold RwPost
      rw [HQ.out]
      exact ⟨_, rfl, ⟨rfl, .inl ⟨rfl, rfl⟩⟩, G1.out⟩
def rwhL (kind : Nat) (d : ByteArray) : List Pc := (rwhF kind d).getD []
theorem rwhL_good (kind : Nat) (d : ByteArray) : (rwhL kind d).length ≤ 4 ∧ ∀ x ∈ rwhL kind d, x.text.size ≤ d.size + 255 ∧ (x.name = true → may x.text = true) := by
  unfold rwhL rwhF
  cases h : rplF d 0 kind with
  | no e => simp
  | ok l =>
    obtain ⟨h1, h2⟩ := rpl_good (Nat.zero_le _) h
    simp only
    split
    · exact ⟨h2, h1⟩
    · simp
theorem wh_same (kind : Nat) (d : ByteArray) : (rwhF kind d).isSome = mayD kind d ∧ nz (rwhL kind d) = nz (whL kind d) := by
  have h := wh_ref kind d
  unfold mayD rwhL whL
  cases h1 : whF kind d with
  | none => cases h2 : rwhF kind d with
    | none => exact ⟨rfl, rfl⟩
    | some m => rw [h1, h2] at h; cases h
  | some l => cases h2 : rwhF kind d with
    | none => rw [h1, h2] at h; cases h
    | some m => rw [h1, h2] at h; simp at h; exact ⟨rfl, h.symm⟩
theorem nms_nz (l : List Pc) : nms l = ((nz l).filter (·.2)).map (·.1) := by
  unfold nms nz
  induction l with
  | nil => rfl
  | cons x l ih =>
    obtain ⟨t, nm, nx⟩ := x
    cases nm with
    | true => simpa using ih
    | false =>
      simp only [List.map_cons, List.filter_cons, Bool.false_or, Bool.false_eq_true, if_false]
      split
      · simpa using ih
      · exact ih
theorem fdt_nz (l : List Pc) : fdt l = (nz l).flatMap fun y => if y.2 = true then (foldB y.1).data.toList else y.1.data.toList := by
  unfold fdt nz
  induction l with
  | nil => rfl
  | cons x l ih =>
    rw [List.map_cons, List.filter_cons, List.flatMap_cons, ih]
    by_cases h : ((x.text, x.name).2 || decide ((x.text, x.name).1.size ≠ 0)) = true
    · rw [if_pos h, List.flatMap_cons]
    · rw [if_neg h]
      simp only [Bool.or_eq_true, decide_eq_true_eq, not_or, Decidable.not_not] at h
      have : x.text.data.toList = [] := List.eq_nil_of_length_eq_zero (by rw [nlen]; exact h.2)
      rw [if_neg h.1, this, List.nil_append]
theorem rwhole_l (kind : Nat) (d : ByteArray) (w : World) (hs : d.size ≤ 1000000) : Calls Tryz.prog 36 #[.int .u16 kind, .string d] w fun e w' => ∃ v, e = .returned (.tuple #[v, .bool (mayD kind d)]) ∧ RPcs w' v (rwhL kind d) ∧ w.grownBy w' none := by
  rw [← (wh_same kind d).1]
  exact rwhole_any kind d w hs
theorem rmayd_any (kind : Nat) (d : ByteArray) (w : World) (hs : d.size ≤ 1000000) : Calls Tryz.prog 34 #[.int .u16 kind, .string d] w fun e w' => e = .returned (.bool (mayD kind d)) ∧ w.grownBy w' none := by
  have HS := Lib.hid (rwhole_l kind d w hs)
  generalize mayD kind d = mb at *
  go_enter Tryz.func34, Tryz.ntmps34
  go_wp2_with fail
  refine Calls.mono HS.out ?_
  rintro e w1 ⟨v, rfl, _, hg⟩
  have G1 := Lib.hid hg
  clear hg HS
  go_wp2_with fail
  go_ret
  exact ⟨rfl, G1.out⟩
end Go.Proofs.YtkhigfbmdolgmaaGreatDoor
namespace Go.Proofs.YtkhigfbmdolgmaaGreatDoor
open Go.RowKit

theorem rnames_same (kind : Nat) (d : ByteArray) : nms (rwhL kind d) = nms (whL kind d) := by rw [nms_nz, nms_nz, (wh_same kind d).2]
theorem rfdt_same (kind : Nat) (d : ByteArray) : fdt (rwhL kind d) = fdt (whL kind d) := by rw [fdt_nz, fdt_nz, (wh_same kind d).2]
theorem rcompr_any (k : Nat) (w : World) : Calls Tryz.prog 37 #[.int .u16 k] w fun e w' => e = .returned (.bool (cmpF k)) ∧ w = w' := by
  by_cases h : k = 2 ∨ k = 5 ∨ k = 6 ∨ k = 12 ∨ k = 15
  · have HC := Lib.hid (show cmpF k = true from decide_eq_true h)
    rw [HC.out]
    rcases h with rfl | rfl | rfl | rfl | rfl
    all_goals
      go_enter Tryz.func37, Tryz.ntmps37
      go_wp2_with fail
      go_ret
      exact ⟨rfl, rfl⟩
  · have HC := Lib.hid (show cmpF k = false from decide_eq_false h)
    rw [HC.out]
    have q2 : ((k : Int) == 2) = false := by simp; omega
    have q5 : ((k : Int) == 5) = false := by simp; omega
    have q6 : ((k : Int) == 6) = false := by simp; omega
    have q12 : ((k : Int) == 12) = false := by simp; omega
    have q15 : ((k : Int) == 15) = false := by simp; omega
    clear h
    go_enter Tryz.func37, Tryz.ntmps37
    go_wp2_with fail
    go_ret
    exact ⟨rfl, rfl⟩

/-- What the document's Read gives. -/
theorem tx_same {s : ByteArray} {p kind : Nat} (hp : p ≤ s.size) : match splF s p kind with
    | .ok l => ∃ m, rplF s p kind = .ok m ∧ tx m = tx l
    | .no e => rplF s p kind = .no e := by
  have h := spl_ref s p kind hp
  cases h1 : splF s p kind with
  | ok l => cases h2 : rplF s p kind with
    | ok m =>
      rw [h1, h2] at h
      exact ⟨m, rfl, by rw [tx_nz, tx_nz, show nz l = nz m from h]⟩
    | no f => rw [h1, h2] at h; exact h.elim
  | no e => cases h2 : rplF s p kind with
    | ok m => rw [h1, h2] at h; exact h.elim
    | no f => rw [h1, h2] at h; exact congrArg Ds.no (show e = f from h).symm
theorem strs_at {w : World} {n cap i : Nat} {A : Option Addr} {l : List ByteArray} (h : FS w 0 9 1 (.slice A n cap) l.length (strs l)) (hi : i < l.length) : ∃ g, A = some ⟨g, 0, none⟩ ∧ n = l.length ∧ g < w.heap.size ∧ w.cell? ⟨g, i, none⟩ = some (.string l[i]) := by
  have h' : FS w 0 9 1 (.slice A n cap) l.length (l.flatMap fun x => [Value.string x]) := by
    have : strs l = l.flatMap fun x => [Value.string x] := by unfold strs; rw [List.map_eq_flatMap]
    rw [← this]; exact h
  obtain ⟨g, h1, h2, h3, _, h4⟩ := FS.cellAt (k := 1) (f := fun x => [Value.string x]) (fun _ => rfl) h' hi
  have := h4 0 (by omega)
  rw [Nat.mul_one, Nat.add_zero] at this
  exact ⟨g, h1, h2, h3, this⟩
end Go.Proofs.YtkhigfbmdolgmaaGreatDoor
namespace Go.Proofs.YtkhigfbmdolgmaaGreatDoor
open Go.RowKit

theorem wrF_nz {cmp : Bool} : ∀ (l m : List Pc) (T : Tb) (out : List UInt8), nz l = nz m → wrF cmp l T out = wrF cmp m T out := by
  have key : ∀ (l : List Pc) (T : Tb) (out : List UInt8), wrF cmp l T out = (nz l).foldl (fun (s : List UInt8 × Tb) y => if y.2 = true then putF y.1 cmp cmp 0 s.2 s.1 else (s.1 ++ y.1.data.toList, s.2)) (out, T) := by
    intro l
    induction l with
    | nil => intro T out; rfl
    | cons x l ih =>
      intro T out
      unfold nz
      rw [List.map_cons, List.filter_cons]
      cases hn : x.name with
      | true =>
        rw [wrF_nam hn, ih]
        simp [nz]
      | false =>
        rw [wrF_txt hn, ih]
        by_cases h : x.text.size = 0
        · have : x.text.data.toList = [] := List.eq_nil_of_length_eq_zero (by rw [nlen]; exact h)
          simp [h, this, nz]
        · simp [h, nz]
  intro l m T out h
  rw [key, key, h]
def RwrPost (b : Nat) (T : Tb) (a : List UInt8) (kind : Nat) (d : ByteArray) (w : World) (e : Ending) (w' : World) : Prop :=
  match whF kind d with
  | none => e = .returned (.tuple #[.string ByteArray.empty, .int .i64 3]) ∧ w.grownBy w' none
  | some l => e = .returned (.tuple #[.string ⟨(wrF (cmpF kind) l T a).1.toArray⟩, .int .i64 0]) ∧ ∃ v', RT w' b v' (wrF (cmpF kind) l T a).2 ∧ w.grownBy w' (some b)
structure RwL (w : World) (b : Nat) (T : Tb) (a : List UInt8) (cmp : Bool) (l : List Pc) (i : Nat) (v : Value) (T' : Tb) (out : List UInt8) (wr : World) : Prop where
  tab : RT wr b v T'
  low : Low T'
  gr : w.grownBy wr (some b)
  eq : wrF cmp l T a = wrF cmp (l.drop i) T' out
  few : T'.length ≤ T.length + 255 * i
  len : out.length ≤ a.length + 5300 * i
set_option maxRecDepth 100000 in
set_option maxHeartbeats 4000000 in
theorem rwrite_any (b : Nat) (vt : Value) (T : Tb) (a : List UInt8) (kind : Nat) (d : ByteArray) (w : World) (h : RT w b vt T) (hlow : Low T) (hd : d.size ≤ 5000) (hT : T.length ≤ 900000) (hal : a.length ≤ 900000) :
    Calls Tryz.prog 27 #[.string ⟨a.toArray⟩, .pointer (some ⟨b, 0, none⟩), .int .u16 kind, .string d] w (RwrPost b T a kind d w) := by
  have HW := Lib.hid (rwhole_l kind d w (by omega))
  have HT := Lib.hid h
  have HLow := Lib.hid hlow
  have hbl := blt h.cell
  have HTB := Lib.hid h.cell
  obtain ⟨hl4, hgood⟩ := rwhL_good kind d
  have hOs : (⟨a.toArray⟩ : ByteArray).size ≤ 900000 := by rw [size_mk]; omega
  clear h hlow
  cases hm : whF kind d with
  | none =>
    have HP := Lib.hid hm
    rw [show mayD kind d = false by unfold mayD; rw [hm]; rfl] at HW
    clear hm hgood
    generalize (⟨a.toArray⟩ : ByteArray) = o at *
    go_enter Tryz.func27, Tryz.ntmps27
    go_wp2_with fail
    refine Calls.mono HW.out ?_
    rintro e w1 ⟨v, rfl, _, hg⟩
    have G1 := Lib.hid hg
    clear hg HW
    go_wp2_with fail
    go_ret2
    unfold RwrPost
    rw [HP.out]
    exact ⟨rfl, G1.out⟩
  | some l0 =>
    have HP := Lib.hid hm
    rw [show mayD kind d = true by unfold mayD; rw [hm]; rfl] at HW
    have hsame := (wh_same kind d).2
    rw [show whL kind d = l0 by unfold whL; rw [hm]; rfl] at hsame
    have HSame := Lib.hid hsame
    have HX := Lib.hid hgood
    clear hm hgood hsame
    generalize rwhL kind d = l at *
    have HC := Lib.hid (fun w0 => rcompr_any kind w0)
    have HQ := Lib.hid (show RwrPost b T a kind d w = fun e w' => e = .returned (.tuple #[.string ⟨(wrF (cmpF kind) l T a).1.toArray⟩, .int .i64 0]) ∧ ∃ v', RT w' b v' (wrF (cmpF kind) l T a).2 ∧ w.grownBy w' (some b) by
      funext e w'
      unfold RwrPost
      rw [HP.out]
      simp only
      rw [wrF_nz l l0 T a HSame.out])
    generalize cmpF kind = cmp at *
    go_enter Tryz.func27, Tryz.ntmps27
    go_wp2_with fail
    refine Calls.mono HW.out ?_
    rintro e w1 ⟨v, rfl, hp, hg⟩
    have P1 := Lib.hid hp
    obtain ⟨Ap, cp, rfl⟩ := FS.len hp
    have L0 := Lib.hid (show RwL w b T a cmp l 0 vt T a w1 from ⟨HT.out.kept0 hg, HLow.out, gmono hg, rfl, by omega, by omega⟩)
    have GW := Lib.hid hg
    clear hg hp HW HT HLow
    go_wp2_with fail
    go_loopw [0, 12] (fun vo vi wr => ∃ (i : Nat) (T' : Tb) (out : List UInt8) (v' : Value), vi = .int .i64 i ∧ vo = .string ⟨out.toArray⟩ ∧ i ≤ l.length ∧ RwL w b T a cmp l i v' T' out wr ∧ w1.grownBy wr (some b)) (fun _ vi _ => l.length - (intOf vi).toNat)
    case atStart => exact ⟨0, T, a, vt, rfl, rfl, by omega, L0.out, grefl _ _⟩
    case round =>
      clear L0
      obtain ⟨i, T', out, v', rfl, rfl, hil, hr, hg1⟩ := hrel
      have R0 := Lib.hid hr
      have HG1 := Lib.hid hg1
      have hfew := hr.few
      have hlen := hr.len
      have hOs2 : (⟨out.toArray⟩ : ByteArray).size ≤ 2000000 := by rw [size_mk]; omega
      clear hr hg1
      by_cases hlt : i < l.length
      · have k0 : decide ((i : Int) < (l.length : Int)) = true := by simp; omega
        have PP := Lib.hid (show RPcs wr (.slice Ap l.length cp) l from by
          refine FS.kept P1.out HG1.out ?_
          cases Ap with
          | none => exact .inl rfl
          | some ad =>
            right
            intro e
            have e' : ad.block = b := by simpa [Value.ownBlock] using e
            rcases P1.out.2 with ⟨h1, _⟩ | ⟨g, cap, cur, h1, _, hk, _⟩
            · cases h1
            · simp only [Value.slice.injEq, Option.some.injEq] at h1
              rw [h1.1] at e'
              simp only at e'
              subst e'
              have := gblock GW.out (HTB.out) (by simp)
              rw [hk] at this
              cases this)
        obtain ⟨g, rfl, _, hgl, c0, c1⟩ := PP.out.at hlt
        obtain ⟨hx1, hx2⟩ := HX.out l[i] (List.getElem_mem hlt)
        have HD := Lib.hid (show l.drop i = l[i] :: l.drop (i + 1) from List.drop_eq_getElem_cons hlt)
        cases hb : l[i].name with
        | false =>
          rw [hb] at c1
          have HN := Lib.hid (show wrF cmp l T a = wrF cmp (l.drop (i + 1)) T' (out ++ l[i].text.data.toList) by
            rw [R0.out.eq, HD.out, wrF_txt hb])
          have HS := Lib.hid (show (⟨out.toArray⟩ : ByteArray) ++ l[i].text = ⟨(out ++ l[i].text.data.toList).toArray⟩ from mk_append_list _ l[i].text.data.toList)
          have hnl := nlen l[i].text
          clear hb hx2 HD
          generalize l[i] = x at *
          generalize (⟨out.toArray⟩ : ByteArray) = O at *
          go_wp2_with fail
          go_roundw
          case rel => exact ⟨i + 1, T', out ++ x.text.data.toList, v', by go_num, by rw [HS.out], by omega, ⟨R0.out.tab, R0.out.low, R0.out.gr, HN.out, by omega, by simp only [List.length_append]; omega⟩, HG1.out⟩
          case measure => simp [intOf]; omega
        | true =>
          rw [hb] at c1
          have HN := Lib.hid (show wrF cmp l T a = wrF cmp (l.drop (i + 1)) (putF l[i].text cmp cmp 0 T' out).2 (putF l[i].text cmp cmp 0 T' out).1 by
            rw [R0.out.eq, HD.out, wrF_nam hb])
          have hmy := hx2 hb
          have HF := Lib.hid (putF_few' cmp T' out hmy)
          have h255 := (may_size hmy).1
          have HM := Lib.hid hmy
          have HPut := Lib.hid (fun wz (hz : RT wz b v' T') => rput_ok b v' T' out l[i].text cmp cmp wz hz R0.out.low HM.out (by omega) (by omega))
          clear hb hx2 HD hmy
          generalize l[i] = x at *
          generalize (⟨out.toArray⟩ : ByteArray) = O at *
          go_wp2_with fail
          go_region_with (first
            | (go_at_call 37; refine Calls.mono (HC.out _) ?_; rintro e wq ⟨rfl, hq⟩; subst hq)
            | (go_at_call 14; refine Calls.mono (HPut.out _ (R0.out.tab.kept0 (gdrew (grefl _ none)))) ?_; rintro e w6 ⟨rfl, v6, ht6, hg6⟩))
          all_goals
            have R6 := Lib.hid (show RwL w b T a cmp l (i + 1) v6 (putF x.text cmp cmp 0 T' out).2 (putF x.text cmp cmp 0 T' out).1 w6 from
              ⟨ht6, putF_low x.text cmp cmp _ 0 T' out rfl R0.out.low, gtrans R0.out.gr (gtrans (gdrew (grefl wr (some b))) hg6), HN.out, by have := HF.out.1; omega, by have := HF.out.2; omega⟩)
            have HG6 := Lib.hid (show w1.grownBy w6 (some b) from gtrans HG1.out (gtrans (gdrew (grefl wr (some b))) hg6))
            clear ht6 hg6 HN HF HPut
            generalize putF x.text cmp cmp 0 T' out = pq at *
            go_wp2_with fail
            go_roundw
            case rel => exact ⟨i + 1, pq.2, pq.1, v6, by go_num, rfl, by omega, R6.out, HG6.out⟩
            case measure => simp [intOf]; omega
      · have k0 : decide ((i : Int) < (l.length : Int)) = false := by simp; omega
        have HE := Lib.hid (show wrF cmp l T a = (out, T') by rw [R0.out.eq, List.drop_eq_nil_of_le (by omega)]; rfl)
        generalize hO : (⟨out.toArray⟩ : ByteArray) = O at *
        go_wp2_with fail
        go_ret2
        rw [HQ.out, HE.out]
        exact ⟨by rw [hO]; rfl, _, R0.out.tab, R0.out.gr⟩
end Go.Proofs.YtkhigfbmdolgmaaGreatDoor
