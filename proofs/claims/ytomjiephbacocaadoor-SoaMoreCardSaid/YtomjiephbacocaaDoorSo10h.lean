/-
  Soa: slices.Clone of strings, Find.
-/
import Derived.Test.YtomjiephbacocaaDoorSo10g
import Derived.Test.YtomjiephbacocaaDoorA3
namespace Go.Proofs.YtomjiephbacocaaDoor
open Go.RowKit

theorem strs_one (l : List ByteArray) : ∀ u ∈ strs l, u.oneCell' = true := by
  intro u hu
  unfold strs at hu
  rw [List.mem_map] at hu
  obtain ⟨s, _, rfl⟩ := hu
  rfl

set_option maxRecDepth 100000 in
set_option maxHeartbeats 8000000 in
theorem clone_any (v : Value) (l : List ByteArray) (w : World) (h : Sl w 1 v l.length (strs l)) (hl : l.length ≤ 1000000) : Calls Tryd.prog 26 #[v] w fun e w' => ∃ v', e = .returned v' ∧ w.grownBy w' none ∧ w'.ownsRow w.heap.size 9 1 v' l.length (strs l) := by
  obtain ⟨i2, i2h, i2z, i2s, i2b⟩ := info_parts Tryd.infoS
  have HI := Lib.hid h
  obtain ⟨A, cap, rfl, hcap, hlen, hn, hs⟩ := h
  have ho : (w.alloc (.cells #[] 9)).ownsRow w.heap.size 9 1 (.slice (some ⟨w.heap.size, 0, none⟩) 0 0) 0 [] := own_none w _ _ 1 (Nat.le_refl _)
  have HO := Lib.hid ho
  clear ho hs
  have hq : ∀ (A : Option Addr) (n c : Nat) (w : World), (binOp .eql 25 (.slice A n c) (.slice none 0 0)).run Tryd.prog w = .ok (.bool A.isNone) w := fun A n c w => Lib.run_eql_slice_nil w 25 9 A n c 0 0 Tryd.underlying25
  cases A with
  | none =>
    obtain ⟨h0, rfl⟩ := hn rfl
    have h1 : l = [] := List.eq_nil_of_length_eq_zero h0
    subst h1
    clear hn h0 hcap hlen
    go_enter Tryd.func26, Tryd.ntmps26
    go_wp2_with fail
    go_ret
    exact ⟨_, rfl, grefl _ _, World.ownsRow_nil _ _ _ _⟩
  | some a =>
    clear hn hcap hlen
    go_enter Tryd.func26, Tryd.ntmps26
    go_wp2_with (at_builtin; refine wpList_app_k rfl (.tmp 5) (.tmp 6) 25 rfl w.heap.size 9 i2 _ 1 16 Tryd.underlying25 i2h i2z i2s i2b rfl (by decide) _ 0 l.length [] (strs l) rfl HO.out _ rfl (HI.out.kept0 (galloc (grefl _ none) _)) ?c1 ?c2 ?c3 ?c4 ?_)
    case c1 => exact strs_one l
    case c2 => unfold maxLen; omega
    case c3 => omega
    case c4 => simp
    intro v1 w1 ho1 hg1
    have HO1 := Lib.hid ho1
    have HG1 := Lib.hid (show w.grownBy w1 none from gnew (gfr1 hg1) (fun r e => by cases e; exact Nat.le_refl _))
    clear ho1 hg1
    go_wp2_with fail
    go_ret
    exact ⟨_, rfl, HG1.out, by simpa using HO1.out⟩

theorem cells5 {w : World} {k : Nat} {a0 a1 a2 a3 a4 : Value} {t : TypeId} (h : w.heap[k]? = some (.cells #[a0, a1, a2, a3, a4] t (0, 0))) :
    (w.cell? ⟨k, 0, none⟩ = some a0 ∧ w.cell? ⟨k, 1, none⟩ = some a1 ∧ w.cell? ⟨k, 2, none⟩ = some a2 ∧ w.cell? ⟨k, 3, none⟩ = some a3 ∧ w.cell? ⟨k, 4, none⟩ = some a4) ∧
    w.frozen? ⟨k, 0, none⟩ = false ∧ w.frozen? ⟨k, 1, none⟩ = false ∧ w.frozen? ⟨k, 2, none⟩ = false ∧ w.frozen? ⟨k, 3, none⟩ = false ∧ w.frozen? ⟨k, 4, none⟩ = false :=
  ⟨⟨bcellAt h 0, bcellAt h 1, bcellAt h 2, bcellAt h 3, bcellAt h 4⟩, bfree h 0, bfree h 1, bfree h 2, bfree h 3, bfree h 4⟩
theorem own_base {w : World} {base base' k n : Nat} {e : TypeId} {v : Value} {xs : List Value} (h : w.ownsRow base e k v n xs) (hb : base' ≤ base) : w.ownsRow base' e k v n xs := by
  refine ⟨h.1, ?_⟩
  rcases h.2 with h2 | ⟨g, cap, cur, h3, h4, h5⟩
  · exact .inl h2
  · exact .inr ⟨g, cap, cur, h3, by omega, h5⟩
theorem b4last {w : World} {k : Nat} {a0 a1 a2 a3 a4 : Value} {t : TypeId} {z : Nat × Nat} (h : w.heap[k]? = some (.cells #[a0, a1, a2, a3, a4] t z)) (v4 : Value) : (w.setCell ⟨k, 4, none⟩ v4).heap[k]? = some (.cells #[a0, a1, a2, a3, v4] t z) := bset h 4 v4
/-- A set whose data lie elsewhere. -/
def St.at (x : St) (v : Value) : St := { x with vd := v }
def zsv : Value := .agg #[.string ByteArray.empty, .int .u16 0, .int .u16 0, .int .u32 0, .slice none 0 0]
/-- What is found among sets. -/
inductive Fd where
  | non
  | bad
  | got (x : St)
def fndF (n : ByteArray) (c : Nat) (l : List St) : Fd :=
  if (bI n c l l.length).1 < 0 then .non
  else match l[(bI n c l l.length).1.toNat]? with
    | none => .non
    | some x => if x.data.length = 1 then .got x else .bad
/-- What the program says of it: in new memory. -/
def FdPost (r : Fd) (w : World) (e : Ending) (w' : World) : Prop :=
  w.grownBy w' none ∧ match r with
    | .non => e = .returned (.tuple #[zsv, .bool false, .int .i64 0])
    | .bad => e = .returned (.tuple #[zsv, .bool false, .int .i64 3])
    | .got x => ∃ v, e = .returned (.tuple #[(x.at v).val, .bool true, .int .i64 0]) ∧ w'.ownsRow w.heap.size 9 1 v x.data.length (strs x.data)
/-- Three results: a struct that lies in a block, and two slots. -/
theorem results_crr {P : Program} {fn : Func} {p r q : Tmp} {ty : TypeId} (h : fn.results = #[.cell p ty, .tmp r, .tmp q]) (tmps : Array Value) (w : World) (g : Nat) (t : TypeId) (cs : Array Value) (fr : Nat × Nat) (d : TypeDesc)
    (hp : tmps.getD p undef = .pointer (some ⟨g, 0, none⟩)) (hg : w.heap[g]? = some (.cells cs t fr)) (hu : P.underlying ty = some d) (hd : (match d with | .struct _ | .array _ _ => true | _ => false) = true) (hi : (P.info? ty).map (·.size) = some cs.size) :
    (results fn tmps).run P w = .ok (.tuple #[.agg cs, tmps.getD r undef, tmps.getD q undef]) w := by
  have hp' : tmps[p]?.getD undef = .pointer (some ⟨g, 0, none⟩) := by simpa using hp
  simp [results, h, hp', asAddr, run_loadVar_row w g t ty cs fr d hg hu hd hi]

set_option maxRecDepth 100000 in
set_option maxHeartbeats 8000000 in
theorem sfind_any (n : ByteArray) (c : Nat) (v : Value) (l : List St) (w : World) (h : Sts w v l) (hl : l.length ≤ 1000000) (hd : ∀ x ∈ l, x.data.length ≤ 1000000) : Calls Tryd.prog 12 #[v, .string n, .int .u16 (c : Int)] w (FdPost (fndF n c l) w) := by
  have HI := Lib.hid h
  have HD := Lib.hid hd
  have HC := Lib.hid (innermost_any n c v l)
  have HF := Lib.hid (show ∀ a, a = bI n c l l.length → fndF n c l = if a.1 < 0 then .non else match l[a.1.toNat]? with | none => .non | some x => if x.data.length = 1 then .got x else .bad from fun a e => by rw [e]; rfl)
  obtain ⟨A, cap, rfl, hcap⟩ := h.shape
  clear h hd
  rcases bI_inv n c l l.length (Nat.le_refl _) with hb | ⟨j, hj, _, hb, _⟩
  · rw [hb] at HC
    have HE := Lib.hid (show fndF n c l = .non from HF.out _ hb.symm)
    clear hb HF
    go_enter Tryd.func12, Tryd.ntmps12
    go_wp2_with fail
    refine (HC.out _ (HI.out.kept (galloc (galloc (grefl _ none) _) _)) hl).mono ?_
    rintro e w3 ⟨rfl, hg⟩
    have HG := Lib.hid (gtrans (galloc (galloc (grefl w none) _) _) hg)
    have HB := Lib.hid (gblock hg (balloc2_0 w _ _) (by simp))
    obtain ⟨⟨m0, m1, m2, m3, m4⟩, f0, f1, f2, f3, f4⟩ := cells5 HB.out
    clear hg
    go_wp2_with fail
    refine bodyPost_ret (results_crr rfl _ _ w.heap.size _ _ _ _ rfl (bset5_ HB.out _ _ _ _ _) Tryd.underlying27 rfl (by kernel_rfl)) rfl ?_
    rw [HE.out]
    exact ⟨gset (gset (gset (gset (gset HG.out (.inr (Nat.le_refl _)) _) (.inr (Nat.le_refl _)) _) (.inr (Nat.le_refl _)) _) (.inr (Nat.le_refl _)) _) (.inr (Nat.le_refl _)) _, rfl⟩
  · rw [hb] at HC
    obtain ⟨b, off, rfl, _, _, c0, c1, c2, c3, c4⟩ := HI.out.at hj
    have hw := HI.out.2 l[j] (List.getElem_mem hj)
    have hdl := HD.out l[j] (List.getElem_mem hj)
    have hfn : fndF n c l = if l[j].data.length = 1 then .got l[j] else .bad := by
      rw [HF.out _ hb.symm, if_neg (by show ¬ ((j : Int) < 0); omega)]
      show (match l[((j : Int)).toNat]? with | none => Fd.non | some x => if x.data.length = 1 then .got x else .bad) = _
      rw [Int.toNat_natCast, List.getElem?_eq_getElem hj]
    clear hb HF
    generalize l[j] = x at *
    obtain ⟨Ad, cd, hvd, _⟩ := hw.shape
    obtain ⟨nm, kd, cl, tt, vd, dat⟩ := x
    simp only at hvd c0 c1 c2 c3 c4 hdl hfn
    subst hvd
    have HW := Lib.hid hw
    have HFn := Lib.hid hfn
    have HC0 := Lib.hid (And.intro c0 (And.intro c1 (And.intro c2 (And.intro c3 c4))))
    have d0 : b < w.heap.size := cell_lt c0
    clear hw hfn c0 c1 c2 c3 c4
    have q0 : (0 : Int) ≤ (j : Int) := by omega
    have q1 : (j : Int) < (l.length : Int) := by omega
    have q2 : decide ((j : Int) < 0) = false := by simp
    go_enter Tryd.func12, Tryd.ntmps12
    go_wp2_with fail
    refine (HC.out _ (HI.out.kept (galloc (galloc (grefl _ none) _) _)) hl).mono ?_
    rintro e w3 ⟨rfl, hg⟩
    have HG := Lib.hid (gtrans (galloc (galloc (grefl w none) _) _) hg)
    have HB := Lib.hid (gblock hg (balloc2_0 w _ _) (by simp))
    obtain ⟨⟨m0, m1, m2, m3, m4⟩, f0, f1, f2, f3, f4⟩ := cells5 HB.out
    have c0 := HG.out.cell HC0.out.1 (by simp)
    have c1 := HG.out.cell HC0.out.2.1 (by simp)
    have c2 := HG.out.cell HC0.out.2.2.1 (by simp)
    have c3 := HG.out.cell HC0.out.2.2.2.1 (by simp)
    have c4 := HG.out.cell HC0.out.2.2.2.2 (by simp)
    clear hg
    by_cases h1 : dat.length = 1
    · have q3 : ((dat.length : Int) != 1) = false := by simp; omega
      obtain ⟨s, rfl⟩ : ∃ s, dat = [s] := List.length_eq_one_iff.1 h1
      have HE := Lib.hid (show fndF n c l = .got ⟨nm, kd, cl, tt, .slice Ad 1 cd, [s]⟩ by rw [HFn.out, if_pos h1]; rfl)
      have HG4 := Lib.hid (gset (gset (gset (gset (gset HG.out (p := ⟨w.heap.size, 0, none⟩) (.inr (Nat.le_refl _)) (.string nm)) (p := ⟨w.heap.size, 1, none⟩) (.inr (Nat.le_refl _)) (.int .u16 (kd : Int))) (p := ⟨w.heap.size, 2, none⟩) (.inr (Nat.le_refl _)) (.int .u16 (cl : Int))) (p := ⟨w.heap.size, 3, none⟩) (.inr (Nat.le_refl _)) (.int .u32 (tt : Int))) (p := ⟨w.heap.size, 4, none⟩) (.inr (Nat.le_refl _)) (.slice Ad 1 cd))
      have HB4 := Lib.hid (bset5_ HB.out (.string nm) (.int .u16 (kd : Int)) (.int .u16 (cl : Int)) (.int .u32 (tt : Int)) (.slice Ad 1 cd))
      clear h1 hdl hcap
      go_wp2_with fail
      clear c0 c1 c2 c3 c4 m0 m1 m2 m3 m4 f0 f1 f2 f3 f4 HB HG
      generalize (((((w3.setCell ⟨w.heap.size, 0, none⟩ (.string nm)).setCell ⟨w.heap.size, 1, none⟩ (.int .u16 (kd : Int))).setCell ⟨w.heap.size, 2, none⟩ (.int .u16 (cl : Int))).setCell ⟨w.heap.size, 3, none⟩ (.int .u32 (tt : Int))).setCell ⟨w.heap.size, 4, none⟩ (.slice Ad 1 cd)) = w4 at *
      refine (clone_any _ [s] w4 (HW.out.kept HG4.out) (by simp)).mono ?_
      rintro e w5 ⟨v5, rfl, hg5, ho5⟩
      have HG5 := Lib.hid (gtrans HG4.out hg5)
      have HB5 := Lib.hid (gblock hg5 HB4.out (by simp))
      have HO5 := Lib.hid ho5
      have HS5 := Lib.hid (show w.heap.size < w4.heap.size from blt HB4.out)
      obtain ⟨⟨m0, m1, m2, m3, m4⟩, f0, f1, f2, f3, f4⟩ := cells5 HB5.out
      obtain ⟨A5, cap5, rfl, _, _⟩ := own_shape ho5
      clear hg5 ho5 HB4
      go_wp2_with fail
      have g1 : w5.grownBy ((((((w5.setCell ⟨w.heap.size, 4, none⟩ (.slice A5 1 cap5)).setCell ⟨w.heap.size, 0, none⟩ (.string nm)).setCell ⟨w.heap.size, 1, none⟩ (.int .u16 (kd : Int))).setCell ⟨w.heap.size, 2, none⟩ (.int .u16 (cl : Int))).setCell ⟨w.heap.size, 3, none⟩ (.int .u32 (tt : Int))).setCell ⟨w.heap.size, 4, none⟩ (.slice A5 1 cap5)) (some w.heap.size) :=
        gtrans (gset (grefl w5 _) (p := ⟨w.heap.size, 4, none⟩) (.inl rfl) _) (gset5_ _ w.heap.size _ _ _ _ _)
      have HB6 := Lib.hid (bset5_ (b4last HB5.out (.slice A5 1 cap5)) (.string nm) (.int .u16 (kd : Int)) (.int .u16 (cl : Int)) (.int .u32 (tt : Int)) (.slice A5 1 cap5))
      refine bodyPost_ret (results_crr rfl _ _ w.heap.size _ _ _ _ rfl HB6.out Tryd.underlying27 rfl (by kernel_rfl)) rfl ?_
      rw [HE.out]
      exact ⟨gstepo HG5.out g1 (Nat.le_refl _), .slice A5 1 cap5, rfl, own_base (own_kept HO5.out g1 HS5.out) (Nat.le_of_lt HS5.out)⟩
    · have q3 : ((dat.length : Int) != 1) = true := by simp; omega
      have HE := Lib.hid (show fndF n c l = .bad by rw [HFn.out, if_neg h1])
      clear h1
      go_wp2_with fail
      refine bodyPost_ret (results_crr rfl _ _ w.heap.size _ _ _ _ rfl (bset5_ (bset5_ HB.out _ _ _ _ _) _ _ _ _ _) Tryd.underlying27 rfl (by kernel_rfl)) rfl ?_
      rw [HE.out]
      exact ⟨gset (gset (gset (gset (gset (gset (gset (gset (gset (gset HG.out (.inr (Nat.le_refl _)) _) (.inr (Nat.le_refl _)) _) (.inr (Nat.le_refl _)) _) (.inr (Nat.le_refl _)) _) (.inr (Nat.le_refl _)) _) (.inr (Nat.le_refl _)) _) (.inr (Nat.le_refl _)) _) (.inr (Nat.le_refl _)) _) (.inr (Nat.le_refl _)) _) (.inr (Nat.le_refl _)) _, rfl⟩
end Go.Proofs.YtomjiephbacocaaDoor
