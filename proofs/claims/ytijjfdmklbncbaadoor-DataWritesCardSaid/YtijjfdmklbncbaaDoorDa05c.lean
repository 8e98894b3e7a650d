/-
  split, text, whole (layer 5).
-/
import Derived.Test.YtijjfdmklbncbaaDoorDa05b
namespace Go.Proofs.YtijjfdmklbncbaaDoor
open Go.RowKit

theorem Tryd.infoPc : (Tryd.prog.info? 73).map (fun i => (i.zero, i.size, i.bytes)) = some (some (.agg #[.string ByteArray.empty, .bool false, .int .i64 0]), 3, 32) := by kernel_rfl
def pcvs (l : List Pc) : List Value := l.flatMap pcv
theorem pcvs_snoc (l : List Pc) (x : Pc) : pcvs (l ++ [x]) = pcvs l ++ [.string x.text, .bool x.name, .int .i64 (x.next : Int)] := by simp [pcvs, pcv]
theorem sl_tri (w : World) (e : TypeId) (u0 u1 u2 : Value) : Sl (w.alloc (.cells #[u0, u1, u2] e)) 3 (.slice (some ⟨w.heap.size, 0, none⟩) 1 1) 1 [u0, u1, u2] := by
  refine ⟨_, 1, rfl, Nat.le_refl _, rfl, (fun e => by cases e), fun _ => ⟨w.heap.size, 0, rfl, fun j u hu => ?_⟩⟩
  rw [Nat.zero_add, bcellAt (balloc w _) j]
  simpa using hu
theorem sl_tri1 (w : World) (o : Obj) (e : TypeId) (u0 u1 u2 : Value) : Sl ((w.alloc o).alloc (.cells #[u0, u1, u2] e)) 3 (.slice (some ⟨w.heap.size + 1, 0, none⟩) 1 1) 1 [u0, u1, u2] := by
  have h := sl_tri (w.alloc o) e u0 u1 u2
  rw [asz] at h
  exact h
/-- Parts as they lie in memory. -/
def Pcs (w : World) (v : Value) (l : List Pc) : Prop := FS w 0 73 3 v l.length (pcvs l)
structure SpL (w : World) (s : ByteArray) (p0 : Nat) (cs : List Ck) (va : Value) (i p : Nat) (out : List Pc) (v : Value) (wr : World) : Prop where
  gr : w.grownBy wr none
  own : wr.ownsRow w.heap.size 73 3 v out.length (pcvs out)
  ck : CkA wr va cs
  le : p ≤ s.size
  eq : runF cs s p0 [] = runF (cs.drop i) s p out
  len : out.length ≤ i
theorem CkA.kept0 {w w' : World} {v : Value} {cs : List Ck} (h : CkA w v cs) (g : w.grownBy w' none) : CkA w' v cs := by
  obtain ⟨v0, v1, v2, e, h1, h2⟩ := h
  refine ⟨v0, v1, v2, e, h1, fun i hi => ⟨fun c hc => ?_, (h2 i hi).2⟩⟩
  obtain ⟨u, hu, k⟩ := (h2 i hi).1 c hc
  exact ⟨u, hu, k.kept0 g⟩
theorem CkA.keptO {w w' : World} {v vo : Value} {cs : List Ck} {base n : Nat} {e : TypeId} {xs : List Value} (h : CkA w v cs) (o : w.ownsRow base e 3 vo n xs) (g : w.grownBy w' vo.ownBlock) : CkA w' v cs := by
  obtain ⟨v0, v1, v2, ev, h1, h2⟩ := h
  refine ⟨v0, v1, v2, ev, h1, fun i hi => ⟨fun c hc => ?_, (h2 i hi).2⟩⟩
  obtain ⟨u, hu, k⟩ := (h2 i hi).1 c hc
  refine ⟨u, hu, k.kept g (fun b eb => .inr ?_)⟩
  rcases o.2 with ⟨rfl, _⟩ | ⟨b', cap, cur, rfl, _, hg, _, _, hcs, _⟩
  · cases eb
  · cases eb
    exact ⟨cur, _, _, hg, by omega⟩
theorem ck_next {c : Ck} {s : ByteArray} {p : Nat} {x : Pc} (hp : p ≤ s.size) (h : ckF c s p = .ok x) : x.next ≤ s.size := by
  cases c with
  | num n =>
    unfold ckF at h
    simp only at h
    split at h
    · cases h
    · cases h; show p + n ≤ s.size; omega
  | nam =>
    unfold ckF at h
    simp only at h
    cases hr : rdF s p p none [] with
    | ok m q => rw [hr] at h; cases h; exact (rd_le hr).2.1
    | no e => rw [hr] at h; cases h
  | txt =>
    unfold ckF at h
    simp only at h
    split at h
    · cases h; exact Nat.le_refl _
    · cases h
  | rst => cases h; exact Nat.le_refl _
theorem ck_pos {c : Ck} {s : ByteArray} {p e : Nat} (h : ckF c s p = .no e) : 1 ≤ e ∧ e ≤ 8 := by
  cases c with
  | num n =>
    unfold ckF at h
    simp only at h
    split at h
    · cases h; omega
    · cases h
  | nam =>
    unfold ckF at h
    simp only at h
    cases hr : rdF s p p none [] with
    | ok m q => rw [hr] at h; cases h
    | no e' => rw [hr] at h; cases h; exact rd_pos hr
  | txt =>
    unfold ckF at h
    simp only at h
    split at h
    · cases h
    · cases h; omega
  | rst => cases h
/-- What a split gives. -/
def SpPost (s : ByteArray) (p kind : Nat) (w : World) (e : Ending) (w' : World) : Prop :=
  w.grownBy w' none ∧ match splF s p kind with
    | .ok l => l.length ≤ 3 ∧ ∃ v, e = .returned (.tuple #[v, .int .i64 0]) ∧ w'.ownsRow w.heap.size 73 3 v l.length (pcvs l)
    | .no x => 1 ≤ x ∧ x ≤ 8 ∧ e = .returned (.tuple #[.slice none 0 0, .int .i64 (x : Int)])
theorem eqf (fn : Fn) (x y : Array Value) (w : World) : (binOp .eql 84 (.func fn x y) .nilFunc).run Tryd.prog w = .ok (.bool false) w := by kernel_rfl
theorem eqn (w : World) : (binOp .eql 84 .nilFunc .nilFunc).run Tryd.prog w = .ok (.bool true) w := by kernel_rfl

set_option maxRecDepth 100000 in
set_option maxHeartbeats 1000000 in
theorem split_any (s : ByteArray) (p0 kind : Nat) (w : World) (he : Et w) (hp : p0 ≤ s.size) (hs : s.size ≤ 1000000) : Calls Tryd.prog 29 #[.string s, .int .i64 p0, .int .u16 kind] w (SpPost s p0 kind w) := by
  obtain ⟨i3, i3h, i3z, i3s, i3b⟩ := info_parts Tryd.infoPc
  have HE := Lib.hid he
  clear he
  by_cases h41 : kind = 41
  · have HK := Lib.hid (show splF s p0 kind = .no 3 from if_pos h41)
    subst h41
    go_enter Tryd.func29, Tryd.ntmps29
    go_wp2_with fail
    go_ret2
    unfold SpPost
    rw [HK.out]
    exact ⟨grefl _ _, by omega, by omega, rfl⟩
  · have k0 : ((kind : Int) == 41) = false := by simp; omega
    have HK := Lib.hid (show splF s p0 kind = _ from if_neg h41)
    clear h41
    have he1 := eqf
    have he2 := eqn
    go_enter Tryd.func29, Tryd.ntmps29
    go_wp2_with fail
    refine Calls.mono (checks_any kind w) ?_
    rintro e w1 ⟨va, rfl, hck, hg⟩
    have hcl := cks_len kind
    generalize cks kind = cs at *
    have S0 := Lib.hid (show SpL w s p0 cs va 0 p0 [] (.slice none 0 0) w1 from ⟨hg, World.ownsRow_nil _ _ _ _, hck, hp, rfl, Nat.le_refl _⟩)
    obtain ⟨v0, v1, v2, rfl, _, hcs⟩ := hck
    have HCS := Lib.hid (fun i hi => (hcs i hi).2)
    clear hcs hg hp
    go_wp2_with fail
    go_loopw [1, 8, 17] (fun vp vo vi wr => ∃ (i p : Nat) (out : List Pc), i ≤ 3 ∧ i ≤ cs.length ∧ vi = .int .i64 i ∧ vp = .int .i64 p ∧ SpL w s p0 cs (.agg #[v0, v1, v2]) i p out vo wr) (fun _ _ vi _ => 3 - (intOf vi).toNat)
    case atStart => exact ⟨0, p0, [], by omega, by omega, rfl, rfl, S0.out⟩
    case round =>
      clear S0
      obtain ⟨i, p, out, hi3, hic, rfl, rfl, hr⟩ := hrel
      have R0 := Lib.hid hr
      have hple := hr.le
      have hlen := hr.len
      obtain ⟨A, cap, rfl, hcap, hcm⟩ := own_shape hr.own
      unfold maxLen at hcm
      clear hr
      by_cases hlt : i < 3
      · have q0 : decide ((i : Int) < 3) = true := by simp; omega
        obtain ⟨u0, u1, u2, eu, _, hcs⟩ := R0.out.ck
        simp only [Value.agg.injEq, Array.mk.injEq, List.cons.injEq, and_true] at eu
        obtain ⟨rfl, rfl, rfl⟩ := eu
        have hix : ∀ u, [v0, v1, v2][i]? = some u → ∀ w, (Instr.index 85 (.agg #[v0, v1, v2]) (.int .i64 (i : Int))).run Tryd.prog w = .ok u w := by
          intro u hu w
          rcases (show i = 0 ∨ i = 1 ∨ i = 2 by omega) with rfl | rfl | rfl
          all_goals
            simp at hu
            subst hu
            kernel_rfl
        cases hc : cs[i]? with
        | none =>
          have hv := (hcs i hlt).2 hc
          have hix' := hix _ hv
          have HF := Lib.hid (show runF cs s p0 [] = .ok out p by
            rw [R0.out.eq, List.drop_eq_nil_of_le (List.getElem?_eq_none_iff.1 hc)]; rfl)
          clear hix hv hcs hc
          by_cases hend : p < s.size
          · have q1 : decide ((p : Int) < (s.size : Int)) = true := by simp; omega
            have HZ := Lib.hid (show splF s p0 kind = .no 3 by rw [HK.out, HF.out]; exact if_pos hend)
            go_wp2_with fail
            go_ret2
            unfold SpPost
            rw [HZ.out]
            exact ⟨R0.out.gr, by omega, by omega, rfl⟩
          · have q1 : decide ((p : Int) < (s.size : Int)) = false := by simp; omega
            have HZ := Lib.hid (show splF s p0 kind = .ok out by rw [HK.out, HF.out]; exact if_neg hend)
            go_wp2_with fail
            go_ret2
            unfold SpPost
            rw [HZ.out]
            exact ⟨R0.out.gr, by omega, _, rfl, R0.out.own⟩
        | some c =>
          obtain ⟨u, hv, hk⟩ := (hcs i hlt).1 c hc
          obtain ⟨fn, caps, rfl, hcf, hcall⟩ := hk.calls
          have hix' := hix _ hv
          have hil : i < cs.length := (List.getElem?_eq_some_iff.1 hc).1
          have HF := Lib.hid (show runF cs s p0 [] = match ckF c s p with
            | .ok x => runF (cs.drop (i + 1)) s x.next (out ++ [x])
            | .no e => .no e by
              rw [R0.out.eq, List.drop_eq_getElem_cons hil]
              have : cs[i] = c := by rw [List.getElem?_eq_getElem hil] at hc; exact Option.some.inj hc
              rw [this]; rfl)
          have HC := Lib.hid (hcall wr s p (grefl _ _) (HE.out.kept R0.out.gr (by simp)) hple hs)
          clear hix hv hk hcall hcs hc
          cases hr : ckF c s p with
          | no er =>
            rw [hr] at HF HC
            have hpos := ck_pos hr
            clear hr
            unfold crV at HC
            have q2 : ((er : Int) != 0) = true := by simp; omega
            have HZ := Lib.hid (show splF s p0 kind = .no er by rw [HK.out, HF.out])
            go_wp2_with fail
            refine Calls.mono HC.out ?_
            rintro e w2 ⟨rfl, hg⟩
            have G2 := Lib.hid (gtrans R0.out.gr hg)
            clear hg HC
            go_wp2_with fail
            go_ret2
            unfold SpPost
            rw [HZ.out]
            exact ⟨galloc G2.out _, hpos.1, hpos.2, rfl⟩
          | ok x =>
            rw [hr] at HF HC
            have hxn := ck_next hple hr
            clear hr
            unfold crV at HC
            go_wp2_with fail
            refine Calls.mono HC.out ?_
            rintro e w2 ⟨rfl, hg⟩
            have G2 := Lib.hid (gtrans R0.out.gr hg)
            have O2 := Lib.hid (own_kept0 R0.out.own hg)
            have K2 := Lib.hid (R0.out.ck.kept0 hg)
            have E2 := Lib.hid R0.out.eq
            clear hg HC
            go_wp2_with (at_builtin; refine wpList_app_k rfl (.tmp 32) (.tmp 34) 59 rfl w.heap.size 73 i3 _ 3 32 Tryd.underlying59 i3h i3z i3s i3b rfl (by decide) _ out.length 1 (pcvs out) [.string x.text, .bool x.name, .int .i64 (x.next : Int)] rfl (own_kept0 O2.out (galloc (galloc (grefl _ none) _) _)) _ rfl (sl_tri1 w2 _ _ _ _ _) (by intro u hu; simp at hu; rcases hu with rfl | rfl | rfl <;> rfl) ?x2 ?x3 ?x4 ?_)
            case x2 => unfold maxLen; omega
            case x3 => omega
            case x4 => have := G2.out.size; simp; omega
            intro v6 w6 ho6 hg6
            have hbl := fun r e => (World.ownsRow.lt O2.out r e).1
            have ck6 := (K2.out.kept0 (galloc (galloc (grefl w2 none) (.cells #[.string x.text, .bool x.name, .int .i64 (x.next : Int)] 73)) (.cells #[.string x.text, .bool x.name, .int .i64 (x.next : Int)] 73))).keptO (own_kept0 O2.out (galloc (galloc (grefl w2 none) _) _)) hg6
            have b6 := gblock hg6 (balloc2_0 w2 _ _) (fun e => by have := (World.ownsRow.lt O2.out _ e.symm).2; omega)
            have c6 := bcellAt b6 2
            simp at c6
            have HV := Lib.hid ho6
            have R6 := Lib.hid (show SpL w s p0 cs (.agg #[v0, v1, v2]) (i + 1) x.next (out ++ [x]) v6 w6 from
              ⟨gstep G2.out (gfr1 (gfr1 hg6)) hbl, by rw [pcvs_snoc, List.length_append]; exact ho6, ck6, hxn, by rw [HF.out], by simp; omega⟩)
            obtain ⟨A6, cap6, rfl, _, _⟩ := own_shape HV.out
            clear ho6 hg6 hbl ck6 b6 HV O2 K2 E2 R0 HF
            go_wp2_with fail
            go_roundw
            case rel => exact ⟨i + 1, x.next, out ++ [x], by omega, by omega, by go_num, rfl, by simpa using R6.out⟩
            case measure => simp [intOf]; omega
      · have q0 : decide ((i : Int) < 3) = false := by simp; omega
        have HF := Lib.hid (show runF cs s p0 [] = .ok out p by
          rw [R0.out.eq, List.drop_eq_nil_of_le (by omega)]; rfl)
        by_cases hend : p < s.size
        · have q1 : decide ((p : Int) < (s.size : Int)) = true := by simp; omega
          have HZ := Lib.hid (show splF s p0 kind = .no 3 by rw [HK.out, HF.out]; exact if_pos hend)
          go_wp2_with fail
          go_ret2
          unfold SpPost
          rw [HZ.out]
          exact ⟨R0.out.gr, by omega, by omega, rfl⟩
        · have q1 : decide ((p : Int) < (s.size : Int)) = false := by simp; omega
          have HZ := Lib.hid (show splF s p0 kind = .ok out by rw [HK.out, HF.out]; exact if_neg hend)
          go_wp2_with fail
          go_ret2
          unfold SpPost
          rw [HZ.out]
          exact ⟨R0.out.gr, by omega, _, rfl, R0.out.own⟩
end Go.Proofs.YtijjfdmklbncbaaDoor
