/-
  SoaMore.
-/
import Derived.Test.YtomjiephbacocaaDoorSo10p
import Derived.Test.YtomjiephbacocaaDoorRegT
import Derived.Deep.CutRange
import Derived.ArgAppend
import Derived.Lib.AppendZeros
import Derived.Deep.CutBlock
namespace Go.Proofs.YtomjiephbacocaaDoor
open Go.RowKit

theorem Tryd.infoSet : (Tryd.prog.info? 27).map (fun i => (i.zero, i.size, i.bytes)) = some (some (.agg #[.string ByteArray.empty, .int .u16 0, .int .u16 0, .int .u32 0, .slice none 0 0]), 5, 48) := by kernel_rfl
def fdSet : Fd → St
  | .got y => y
  | _ => ⟨⟨#[]⟩, 0, 0, 0, .slice none 0 0, []⟩
def fdis : Fd → Bool
  | .got _ => true
  | _ => false
def fder : Fd → Int
  | .bad => 3
  | _ => 0
theorem find_s (n : ByteArray) (c : Nat) (v : Value) (l : List St) (w : World) (h : Sts w v l) (hl : l.length ≤ 1000000) (hd : ∀ x ∈ l, x.data.length ≤ 1000000) :
    Calls Tryd.prog 12 #[v, .string n, .int .u16 (c : Int)] w fun e w' => ∃ (A : Option Addr) (z : Nat), e = .returned (.tuple #[((fdSet (fndF n c l)).at (.slice A (fdSet (fndF n c l)).data.length z)).val, .bool (fdis (fndF n c l)), .int .i64 (fder (fndF n c l))]) ∧ w.grownBy w' none ∧ Sl w' 1 (.slice A (fdSet (fndF n c l)).data.length z) (fdSet (fndF n c l)).data.length (strs (fdSet (fndF n c l)).data) ∧ ∀ b, Value.ownBlock (.slice A (fdSet (fndF n c l)).data.length z) = some b → w.heap.size ≤ b ∧ b < w'.heap.size := by
  refine (sfind_any n c v l w h hl hd).mono ?_
  rintro e w' ⟨hg, hp⟩
  cases hf : fndF n c l with
  | non => rw [hf] at hp; exact ⟨none, 0, hp, hg, Sl.nil _ _, fun b h => by cases h⟩
  | bad => rw [hf] at hp; exact ⟨none, 0, hp, hg, Sl.nil _ _, fun b h => by cases h⟩
  | got x =>
    rw [hf] at hp
    obtain ⟨v', e1, ho⟩ := hp
    obtain ⟨A, z, rfl, _, _⟩ := own_shape ho
    exact ⟨A, z, e1, hg, (FS.of ho).sl, World.ownsRow.lt ho⟩
theorem bI_app (n : ByteArray) (c : Nat) (l : List St) (y : St) : ∀ k, k ≤ l.length → bI n c (l ++ [y]) k = bI n c l k := by
  intro k
  induction k with
  | zero => intro _; rfl
  | succ k ih =>
    intro hk
    have h1 := ih (by omega)
    unfold bI
    rw [List.getElem?_append_left (by omega), h1]
theorem fnd_yes {n : ByteArray} {c : Nat} {l : List St} {y : St} (h : innB n c y (bI n c l l.length).2 = true) : fndF n c (l ++ [y]) = if y.data.length = 1 then .got y else .bad := by
  refine fnd_is (j := l.length) (d := (nlb y.name : Int)) ?_ (by simp)
  rw [List.length_append, List.length_singleton]
  have h2 : l.length < (l ++ [y]).length := by simp
  have h3 : (l ++ [y])[l.length] = y := by simp
  rw [bI_yes h2 (by rw [h3, bI_app n c l y _ (Nat.le_refl _)]; exact h), h3]
theorem fnd_no {n : ByteArray} {c : Nat} {l : List St} {y : St} (h : innB n c y (bI n c l l.length).2 = false) : fndF n c (l ++ [y]) = fndF n c l := by
  have h2 : l.length < (l ++ [y]).length := by simp
  have h3 : (l ++ [y])[l.length] = y := by simp
  have hb : bI n c (l ++ [y]) (l ++ [y]).length = bI n c l l.length := by
    rw [List.length_append, List.length_singleton, bI_no h2 (by rw [h3, bI_app n c l y _ (Nat.le_refl _)]; exact h), bI_app n c l y _ (Nat.le_refl _)]
  rcases bI_inv n c l l.length (Nat.le_refl _) with h4 | ⟨j, hj, _, h4, _⟩
  · rw [fnd_non h4, fnd_non (hb.trans h4)]
  · rw [fnd_is h4 (List.getElem?_eq_getElem hj), fnd_is (hb.trans h4) (by rw [List.getElem?_append_left hj]; exact List.getElem?_eq_getElem hj)]
theorem fnd_depth {n : ByteArray} {c : Nat} {l : List St} : (fndF n c l = .non → (bI n c l l.length).2 = -1) ∧ ∀ x, fndF n c l = .got x → (bI n c l l.length).2 = (nlb x.name : Int) := by
  rcases bI_inv n c l l.length (Nat.le_refl _) with h4 | ⟨j, hj, _, h4, _⟩
  · refine ⟨fun _ => by rw [h4], fun x hx => ?_⟩
    rw [fnd_non h4] at hx; cases hx
  · rw [fnd_is h4 (List.getElem?_eq_getElem hj)]
    refine ⟨fun h => ?_, fun x hx => ?_⟩
    · split at h <;> cases h
    · split at hx
      · cases hx; rw [h4]
      · cases hx
theorem fnd_in2 {n : ByteArray} {c : Nat} {l : List St} {x : St} (h : fndF n c l = .got x) : x ∈ l := by
  rcases bI_inv n c l l.length (Nat.le_refl _) with hb | ⟨j, hj, _, hb, hf⟩
  · rw [fnd_non hb] at h; cases h
  · rw [fnd_is hb (List.getElem?_eq_getElem hj)] at h
    split at h
    · cases h; exact List.getElem_mem hj
    · cases h
/-- What stands behind the second find. -/
def MrRel (r : Fd) (w0 : World) (v12 v13 v14 : Value) (wx : World) : Prop := w0.grownBy wx none ∧ ∃ (k : Nat) (A : Option Addr) (z : Nat), v12 = .pointer (some ⟨k, 0, none⟩) ∧ v13 = .bool (fdis r) ∧ v14 = .int .i64 (fder r) ∧
  wx.heap[k]? = some (.cells #[.string (fdSet r).name, .int .u16 ((fdSet r).kind : Int), .int .u16 ((fdSet r).cls : Int), .int .u32 ((fdSet r).ttl : Int), .slice A (fdSet r).data.length z] 27 (0, 0)) ∧ Sl wx 1 (.slice A (fdSet r).data.length z) (fdSet r).data.length (strs (fdSet r).data)
theorem kb_own {w w' : World} {B k n : Nat} {e : TypeId} {v : Value} {xs : List Value} (h : w.ownsRow B e k v n xs) (g : w.grownBy w' v.ownBlock) (hB : B ≤ w.heap.size) : KB B w w' := by
  refine ⟨g.os, g.tape, g.output, g.size, fun i hi => g.block i (by omega) ?_⟩
  intro e1
  have := (World.ownsRow.lt h i e1.symm).1
  omega
theorem kb_set5 (B : Nat) (w : World) (k : Nat) (v0 v1 v2 v3 v4 : Value) (h : B ≤ k) : KB B w (((((w.setCell ⟨k, 0, none⟩ v0).setCell ⟨k, 1, none⟩ v1).setCell ⟨k, 2, none⟩ v2).setCell ⟨k, 3, none⟩ v3).setCell ⟨k, 4, none⟩ v4) := by
  have g := gset5_ w k v0 v1 v2 v3 v4
  exact ⟨g.os, g.tape, g.output, g.size, fun i hi => by
    rcases Nat.lt_or_ge i w.heap.size with h1 | h1
    · exact g.block i h1 (by simp; omega)
    · rw [Array.getElem?_eq_none h1, Array.getElem?_eq_none (by simpa [World.setCell] using h1)]⟩
theorem mr_mk {r : Fd} {w0 w : World} {k : Nat} {A : Option Addr} {z : Nat} {a0 a1 a2 a3 a4 : Value} (h : w0.grownBy w none) (hb : w.heap[k]? = some (.cells #[a0, a1, a2, a3, a4] 27 (0, 0))) (hk : w0.heap.size ≤ k)
    (ho : Sl (((((w.setCell ⟨k, 0, none⟩ (.string (fdSet r).name)).setCell ⟨k, 1, none⟩ (.int .u16 ((fdSet r).kind : Int))).setCell ⟨k, 2, none⟩ (.int .u16 ((fdSet r).cls : Int))).setCell ⟨k, 3, none⟩ (.int .u32 ((fdSet r).ttl : Int))).setCell ⟨k, 4, none⟩ (.slice A (fdSet r).data.length z)) 1 (.slice A (fdSet r).data.length z) (fdSet r).data.length (strs (fdSet r).data)) :
    MrRel r w0 (.pointer (some ⟨k, 0, none⟩)) (.bool (fdis r)) (.int .i64 (fder r)) (((((w.setCell ⟨k, 0, none⟩ (.string (fdSet r).name)).setCell ⟨k, 1, none⟩ (.int .u16 ((fdSet r).kind : Int))).setCell ⟨k, 2, none⟩ (.int .u16 ((fdSet r).cls : Int))).setCell ⟨k, 3, none⟩ (.int .u32 ((fdSet r).ttl : Int))).setCell ⟨k, 4, none⟩ (.slice A (fdSet r).data.length z)) := by
  have g := gset5_ w k (.string (fdSet r).name) (.int .u16 ((fdSet r).kind : Int)) (.int .u16 ((fdSet r).cls : Int)) (.int .u32 ((fdSet r).ttl : Int)) (.slice A (fdSet r).data.length z)
  exact ⟨gstepo h g hk, k, A, z, rfl, rfl, rfl, bset5_ hb _ _ _ _ _, ho⟩
theorem stv_one (x : St) (h : ∃ A n c, x.vd = .slice A n c) : ∀ u ∈ stv x, u.oneCell' = true := by
  obtain ⟨A, n, c, h⟩ := h
  intro u hu
  unfold stv at hu
  rw [h] at hu
  simp only [List.mem_cons, List.not_mem_nil, or_false] at hu
  rcases hu with rfl | rfl | rfl | rfl | rfl <;> rfl
theorem stvs_one (l : List St) (h : ∀ x ∈ l, ∃ A n c, x.vd = .slice A n c) : ∀ u ∈ l.flatMap stv, u.oneCell' = true := by
  intro u hu
  rw [List.mem_flatMap] at hu
  obtain ⟨x, hx, hu⟩ := hu
  exact stv_one x (h x hx) u hu
theorem sl_row1 {w : World} {k : Nat} {x : St} (h : w.heap[k]? = some (.cells #[.string x.name, .int .u16 (x.kind : Int), .int .u16 (x.cls : Int), .int .u32 (x.ttl : Int), x.vd] 27 (0, 0))) : Sl w 5 (.slice (some ⟨k, 0, none⟩) 1 1) 1 (stv x) := by
  refine ⟨_, 1, rfl, Nat.le_refl _, rfl, by simp, fun _ => ⟨k, 0, rfl, fun j u hu => ?_⟩⟩
  rw [Nat.zero_add, bcellAt h, ← Array.getElem?_toList]
  exact hu
theorem psame_at2 (z : St) (v v' : Value) (w : World) (h : Sl w 1 v z.data.length (strs z.data)) (h' : Sl w 1 v' z.data.length (strs z.data)) (hm : z.data.length ≤ 1000000) : Calls Tryd.prog 22 #[(z.at v).val, (z.at v').val] w fun e w' => e = .returned (.bool true) ∧ w.grownBy w' none := by
  have := psame_any (z.at v) (z.at v') w h h' hm
  rw [show smS (z.at v) (z.at v') = true by unfold smS St.at; simp] at this
  exact this
/-- append onto a slice of no capacity: nothing that was there turns. -/
theorem run_app_0 {P : Program} (w : World) (t ty e : TypeId) (i : TypeInfo) (z : Value) (k bytes p : Nat) (h1 : P.underlying t = some (.slice e)) (h2 : P.info? e = some i) (h3 : i.zero = some z) (h4 : i.size = k) (h5 : i.bytes = bytes) (h6 : z.cells.size = k) (h7 : 0 < k) (base : Nat)
    (hown : w.ownsRow base e k (.slice (some ⟨p, 0, none⟩) 0 0) 0 []) (m : Nat) (news : List Value) (vx : Value) (hsl : Sl w k vx m news) (b0 : m ≤ maxLen) (b1 : m * bytes ≤ 140737488355328) (hb : base ≤ w.heap.size) :
    ∃ v' w', (Builtin.append_ #[t, t] ty #[.slice (some ⟨p, 0, none⟩) 0 0, vx]).run P w = .ok v' w' ∧ w'.ownsRow base e k v' m news ∧ w.grownBy w' none ∧ ∀ b, v'.ownBlock = some b → b = p ∨ w.heap.size ≤ b := by
  obtain ⟨A, c, rfl, hc, k1, k2, k3⟩ := hsl
  by_cases hm : m = 0
  · subst hm
    have hn : news = [] := List.eq_nil_of_length_eq_zero (by simpa using k1)
    subst hn
    refine ⟨.slice (some ⟨p, 0, none⟩) 0 0, w, ?_, hown, grefl w _, fun b hb => .inl (by simpa [Value.ownBlock] using hb.symm)⟩
    cases A with
    | none =>
      obtain ⟨_, rfl⟩ := k2 rfl
      exact run_append_owned_none (P := P) w base t ty e i k h1 h2 _ 0 [] hown
    | some a => simp [Builtin.append_, run_underlying h1, sizeOf, typeInfo, h2, Builtin.lenOf, Builtin.firstCells, loadCells, loadCellsFrom, storeCells]
  · obtain ⟨b, off, rfl, hcell⟩ := k3 (by omega)
    obtain ⟨v', w', hr, ho, hg⟩ := run_append_arg_grows (P := P) w t ty e i z k bytes h1 h2 h3 h4 h5 h6 h7 ⟨p, 0, none⟩ 0 0 [] (by simp) (by simp) ⟨b, off, none⟩ m c news k1 (fun j u hu => by rw [Addr.add_lit]; exact hcell j u hu) (by omega) (by omega) (by simpa using b1)
    rw [Nat.zero_add, List.nil_append] at ho
    exact ⟨v', w', hr, own_base ho hb, hg, fun b' hb' => .inr (World.ownsRow.lt ho b' hb').1⟩
theorem wpList_app_0 {P : Program} {w : World} {ops : Array Oper} {rest : List Oper} {o : Oper} {a : Act} {Q : Exit → Act → World → Prop} (hg : o.guard = none) (s x : Operand) (t : TypeId) (hop : o.op = Op.call { callee := Callee.builtin Builtin.append, args := #[s, x], argTypes := #[t, t] })
    (base : Nat) (e : TypeId) (i : TypeInfo) (z : Value) (k bytes p : Nat) (h1 : P.underlying t = some (.slice e)) (h2 : P.info? e = some i) (h3 : i.zero = some z) (h4 : i.size = k) (h5 : i.bytes = bytes) (h6 : z.cells.size = k) (h7 : 0 < k)
    (hs : a.eval s = .slice (some ⟨p, 0, none⟩) 0 0) (hown : w.ownsRow base e k (.slice (some ⟨p, 0, none⟩) 0 0) 0 []) (m : Nat) (news : List Value) (vx : Value) (hx : a.eval x = vx) (hsl : Sl w k vx m news) (b0 : m ≤ maxLen) (b1 : m * bytes ≤ 140737488355328) (hb : base ≤ w.heap.size)
    (hK : ∀ v' w', w'.ownsRow base e k v' m news → w.grownBy w' none → (∀ b, v'.ownBlock = some b → b = p ∨ w.heap.size ≤ b) → wpList P ops Q rest (a.put o.dst v') w') : wpList P ops Q (o :: rest) a w := by
  obtain ⟨v', w', hr, ho, hgr, hn⟩ := run_app_0 (P := P) w t o.type e i z k bytes p h1 h2 h3 h4 h5 h6 h7 base hown m news vx hsl b0 b1 hb
  exact Lib.wpList_append_run w hg s x t t hop _ _ hs hx v' w' hr (hK v' w' ho hgr hn)
theorem own_lt {w : World} {B k n m g c : Nat} {e : TypeId} {xs : List Value} (h : w.ownsRow B e k (.slice (some ⟨g, 0, none⟩) m c) n xs) : g < w.heap.size := (World.ownsRow.lt h g rfl).2

set_option maxRecDepth 100000 in
set_option maxHeartbeats 64000000 in
theorem more10_walk (v : Value) (l : List St) (more : St) (n : ByteArray) (c : Nat) (w : World) (he : Et w) (h : Sts w v l) (hl : l.length ≤ maxLen) (hs : ∀ x ∈ l, x.name.size ≤ maxLen ∧ x.data.length ≤ maxLen ∧ ∀ s ∈ x.data, s.size ≤ maxLen) (h1 : StW w more) (h2 : more.name.size ≤ maxLen ∧ more.data.length ≤ maxLen ∧ ∀ d ∈ more.data, d.size ≤ maxLen) : Calls Tryd.prog 8 #[v, more.val, .string n, .int .u16 (c : Int)] w fun e w' => e = .returned (.bool true) ∧ w.grownBy w' none := by
  obtain ⟨i7, i7h, i7z, i7s, i7b⟩ := info_parts Tryd.infoSet
  have HE := Lib.hid he
  have HI := Lib.hid h
  have HS0 := Lib.hid h1
  have HLg := Lib.hid (fun (w' : World) (g : w.grownBy w' none) => longsets_any v l w' (h.kept g) hl hs)
  have HLs := Lib.hid (fun w' (g : w.grownBy w' none) => longsets_any _ [more] _ (sts_one w' more (h1.kept g)) (by simp [maxLen]) (fun x hx => by rw [List.mem_singleton.1 hx]; exact h2))
  have HV := Lib.hid (stvs_one l (fun x hx => by obtain ⟨A, z, e, _⟩ := (h.2 x hx).shape; exact ⟨A, _, z, e⟩))
  obtain ⟨A, cap, rfl, hcap⟩ := h.shape
  obtain ⟨As, cs, hvs, _⟩ := h1.shape
  obtain ⟨snm, skd, scl, stt, svd, sdat⟩ := more
  simp only at hvs HLs
  subst hvs
  clear he h hs h1 h2
  unfold St.val
  go_enter Tryd.func8, Tryd.ntmps8
  go_wp2_with fail
  refine (HLg.out _ (galloc (grefl _ _) _)).mono ?_
  rintro e w1 ⟨q, rfl, rfl, hq⟩
  have G1 := Lib.hid (galloc (grefl w none) (.cells #[.string snm, .int .u16 (skd : Int), .int .u16 (scl : Int), .int .u32 (stt : Int), .slice As sdat.length cs] 27))
  have BS1 := Lib.hid (balloc w (.cells #[.string snm, .int .u16 (skd : Int), .int .u16 (scl : Int), .int .u32 (stt : Int), .slice As sdat.length cs] 27))
  have hbs := BS1.out
  obtain ⟨⟨s0, s1, s2, s3, s4⟩, _, _, _, _, _⟩ := cells5 hbs
  clear hbs
  generalize w.alloc (.cells #[.string snm, .int .u16 (skd : Int), .int .u16 (scl : Int), .int .u32 (stt : Int), .slice As sdat.length cs] 27) = w1 at *
  cases q with
  | true =>
    clear hq
    go_wp2_with fail
    refine (awake10 w1 (HE.out.kept G1.out (by simp))).mono ?_
    rintro e w9 ⟨rfl, hg⟩
    have GZ := Lib.hid (gtrans G1.out hg)
    clear hg
    go_wp2_with fail
    go_ret
    exact ⟨rfl, GZ.out⟩
  | false =>
    have HSm := Lib.hid (hq rfl)
    have hl2 := (hq rfl).1
    clear hq hl HLg
    go_wp2_with fail
    refine (HLs.out w1 G1.out).mono ?_
    rintro e w2' ⟨q, rfl, rfl, hq⟩
    clear s0 s1 s2 s3 s4
    have G2 := Lib.hid (galloc G1.out (.cells #[.string snm, .int .u16 (skd : Int), .int .u16 (scl : Int), .int .u32 (stt : Int), .slice As sdat.length cs] 27))
    have BS2 := Lib.hid (gblock (galloc (grefl w1 none) (.cells #[.string snm, .int .u16 (skd : Int), .int .u16 (scl : Int), .int .u32 (stt : Int), .slice As sdat.length cs] 27)) BS1.out (by simp))
    clear HLs BS1 G1
    cases q with
    | true =>
      clear hq
      go_wp2_with fail
      refine (awake10 _ (HE.out.kept G2.out (by simp))).mono ?_
      rintro e w9 ⟨rfl, hg⟩
      have GZ := Lib.hid (gtrans G2.out hg)
      clear hg
      go_wp2_with fail
      go_ret
      exact ⟨rfl, GZ.out⟩
    | false =>
      have HSq := Lib.hid ((hq rfl).2 _ (List.mem_singleton.2 rfl))
      clear hq
      by_cases hn : 3000 < n.size
      · have k0 : decide ((3000 : Int) < (n.size : Int)) = true := by simp; omega
        go_wp2_with fail
        refine (awake10 _ (HE.out.kept G2.out (by simp))).mono ?_
        rintro e w9 ⟨rfl, hg⟩
        have GZ := Lib.hid (gtrans G2.out hg)
        clear hg
        go_wp2_with fail
        go_ret
        exact ⟨rfl, GZ.out⟩
      · have k0 : decide ((3000 : Int) < (n.size : Int)) = false := by simp; omega
        have HDs := Lib.hid (show ∀ x ∈ l, x.data.length ≤ 1000000 from fun x hx => by have := (HSm.out.2 x hx).2.1; omega)
        have HDm := Lib.hid (show ∀ x ∈ l ++ [(⟨snm, skd, scl, stt, .slice As sdat.length cs, sdat⟩ : St)], x.data.length ≤ 1000000 from fun x hx => by
          rw [List.mem_append] at hx
          rcases hx with hx | hx
          · exact HDs.out x hx
          · rw [List.mem_singleton.1 hx]; have := HSq.out.2.1; simp only at this ⊢; omega)
        go_wp2_with fail
        generalize w1.alloc (.cells #[.string snm, .int .u16 (skd : Int), .int .u16 (scl : Int), .int .u32 (stt : Int), .slice As sdat.length cs] 27) = w2 at *
        generalize w.heap.size = kM at BS2 ⊢
        refine (awake10 w2 (HE.out.kept G2.out (by simp))).mono ?_
        rintro e w3 ⟨rfl, hg⟩
        have G3 := Lib.hid (gtrans G2.out hg)
        have BS3 := Lib.hid (gblock hg BS2.out (by simp))
        clear k0 hcap hg G2 BS2
        go_wp2_with fail
        refine (find_s n c _ l w3 (HI.out.kept G3.out) (by omega) HDs.out).mono ?_
        rintro e w4 ⟨A9, z9, rfl, hg, ho, hfn⟩
        clear hfn
        have HGx := Lib.hid (show ∀ x, fndF n c l = .got x → x ∈ l from fun x hx => fnd_in2 hx)
        have HD := Lib.hid (fnd_depth (n := n) (c := c) (l := l))
        have HY := Lib.hid (fnd_yes (n := n) (c := c) (l := l) (y := (⟨snm, skd, scl, stt, .slice As sdat.length cs, sdat⟩ : St)))
        have HN := Lib.hid (fnd_no (n := n) (c := c) (l := l) (y := (⟨snm, skd, scl, stt, .slice As sdat.length cs, sdat⟩ : St)))
        generalize fndF n c l = r1 at *
        unfold St.val St.at
        go_upto_region 4 with (fail)
        have R1C := Lib.hid (balloc w4 (.cells #[.string (fdSet r1).name, .int .u16 ((fdSet r1).kind : Int), .int .u16 ((fdSet r1).cls : Int), .int .u32 ((fdSet r1).ttl : Int), .slice A9 (fdSet r1).data.length z9] 27))
        have O5 := Lib.hid (ho.kept0 (galloc (grefl w4 none) (.cells #[.string (fdSet r1).name, .int .u16 ((fdSet r1).kind : Int), .int .u16 ((fdSet r1).cls : Int), .int .u32 ((fdSet r1).ttl : Int), .slice A9 (fdSet r1).data.length z9] 27)))
        have G5 := Lib.hid (galloc (gtrans G3.out hg) (.cells #[.string (fdSet r1).name, .int .u16 ((fdSet r1).kind : Int), .int .u16 ((fdSet r1).cls : Int), .int .u32 ((fdSet r1).ttl : Int), .slice A9 (fdSet r1).data.length z9] 27))
        have BS5 := Lib.hid (gblock (galloc hg (.cells #[.string (fdSet r1).name, .int .u16 ((fdSet r1).kind : Int), .int .u16 ((fdSet r1).cls : Int), .int .u32 ((fdSet r1).ttl : Int), .slice A9 (fdSet r1).data.length z9] 27)) BS3.out (by simp))
        clear hg ho G3 BS3
        generalize w4.heap.size = k9 at *
        generalize w4.alloc (.cells #[.string (fdSet r1).name, .int .u16 ((fdSet r1).kind : Int), .int .u16 ((fdSet r1).cls : Int), .int .u32 ((fdSet r1).ttl : Int), .slice A9 (fdSet r1).data.length z9] 27) = w5 at *
        go_cut [12, 13, 14] from 40 to 52 (fun v12 v13 v14 wx => MrRel (fndF n c (l ++ [(⟨snm, skd, scl, stt, .slice As sdat.length cs, sdat⟩ : St)])) w5 v12 v13 v14 wx)
        case first =>
          clear HD HY HN
          have GD := Lib.hid (gdrew (grefl w5 none))
          have BM := Lib.hid (gblock GD.out BS5.out (by simp))
          have HI4 := Lib.hid (HI.out.kept (gtrans G5.out GD.out))
          have HSM := Lib.hid (HS0.out.kept (gtrans G5.out GD.out))
          refine wp_region_tr w5.drew.heap.size (.quiet [1, 3, 6, 7] (.three 0 (.three 2 (.two 4 (.two 5 (.two 8 (.quiet [9, 10, 11, 12] (.one 13 (.one 14 (.quiet [15, 16] .done)))) 13 (.one 8 (.quiet [9, 10, 11, 12] (.one 14 (.quiet [15, 16] .done))))) 13 (.one 5 (.one 8 (.quiet [9, 10, 11, 12] (.one 14 (.quiet [15, 16] .done)))))) 13 (.one 4 (.one 5 (.one 8 (.quiet [9, 10, 11, 12] (.one 14 (.quiet [15, 16] .done))))))) 4 (.two 2 (.two 5 (.two 8 (.quiet [9, 10, 11, 12] (.one 13 (.one 14 (.quiet [15, 16] .done)))) 13 (.one 8 (.quiet [9, 10, 11, 12] (.one 14 (.quiet [15, 16] .done))))) 13 (.one 5 (.one 8 (.quiet [9, 10, 11, 12] (.one 14 (.quiet [15, 16] .done)))))) 13 (.one 2 (.one 5 (.one 8 (.quiet [9, 10, 11, 12] (.one 14 (.quiet [15, 16] .done))))))) 13 (.two 2 (.one 4 (.one 5 (.one 8 (.quiet [9, 10, 11, 12] (.one 14 (.quiet [15, 16] .done)))))) 4 (.one 2 (.one 5 (.one 8 (.quiet [9, 10, 11, 12] (.one 14 (.quiet [15, 16] .done)))))))) 4 (.two 0 (.two 2 (.two 5 (.two 8 (.quiet [9, 10, 11, 12] (.one 13 (.one 14 (.quiet [15, 16] .done)))) 13 (.one 8 (.quiet [9, 10, 11, 12] (.one 14 (.quiet [15, 16] .done))))) 13 (.one 5 (.one 8 (.quiet [9, 10, 11, 12] (.one 14 (.quiet [15, 16] .done)))))) 13 (.one 2 (.one 5 (.one 8 (.quiet [9, 10, 11, 12] (.one 14 (.quiet [15, 16] .done))))))) 13 (.one 0 (.one 2 (.one 5 (.one 8 (.quiet [9, 10, 11, 12] (.one 14 (.quiet [15, 16] .done)))))))) 13 (.two 0 (.two 2 (.one 4 (.one 5 (.one 8 (.quiet [9, 10, 11, 12] (.one 14 (.quiet [15, 16] .done)))))) 4 (.one 2 (.one 5 (.one 8 (.quiet [9, 10, 11, 12] (.one 14 (.quiet [15, 16] .done))))))) 4 (.one 0 (.one 2 (.one 5 (.one 8 (.quiet [9, 10, 11, 12] (.one 14 (.quiet [15, 16] .done)))))))))) (by kernel_rfl) (by kernel_rfl) ?_
          generalize w5.drew = wd at *
          have GW0 := Lib.hid (grefl wd none)
          have s0 : ∀ g : GrB wd.heap.size wd, g.w.cell? ⟨kM, 0, none⟩ = some (.string snm) := GrB.cell (bcellAt BM.out 0) (blt BM.out)
          have s1 : ∀ g : GrB wd.heap.size wd, g.w.cell? ⟨kM, 1, none⟩ = some (.int .u16 (skd : Int)) := GrB.cell (bcellAt BM.out 1) (blt BM.out)
          have s2 : ∀ g : GrB wd.heap.size wd, g.w.cell? ⟨kM, 2, none⟩ = some (.int .u16 (scl : Int)) := GrB.cell (bcellAt BM.out 2) (blt BM.out)
          have s3 : ∀ g : GrB wd.heap.size wd, g.w.cell? ⟨kM, 3, none⟩ = some (.int .u32 (stt : Int)) := GrB.cell (bcellAt BM.out 3) (blt BM.out)
          have s4 : ∀ g : GrB wd.heap.size wd, g.w.cell? ⟨kM, 4, none⟩ = some (.slice As sdat.length cs) := GrB.cell (bcellAt BM.out 4) (blt BM.out)
          refine wpTr_quiet rfl ?_
          simp only [List.filterMap_cons, List.filterMap_nil, List.getElem?_toArray, List.getElem?_cons_succ, List.getElem?_cons_zero]
          show wpQuiet _ _ _ _ [_, _, _, _] _
          repeat (go_big_quiet_step (fail))
          refine wpQuiet_nil ?_
          clear s0 s1 s2 s3 s4
          refine wpTr_three (by simp only [List.getElem?_toArray, List.getElem?_cons_zero]; exact rfl) (by simp only [List.getElem?_toArray, List.getElem?_cons_succ, List.getElem?_cons_zero]; exact rfl) (by simp only [List.getElem?_toArray, List.getElem?_cons_succ, List.getElem?_cons_zero]; exact rfl) ?_ ?_ ?_
          · go_wp2_with fail
            have hk := galloc (grefl wd none) (.cells #[] 27)
            have X1 := Lib.hid (gtrans GW0.out hk)
            have y1 : wd.heap.size < (wd.alloc (.cells #[] 27)).heap.size := blt (balloc wd _)
            have O1 := Lib.hid (own_none wd wd.heap.size 27 5 GW0.out.size)
            refine ⟨KB.of hk GW0.out.size, ?_⟩
            generalize wd.alloc (.cells #[] 27) = x1 at *
            clear hk
            refine wpTr_three (by simp only [List.getElem?_toArray, List.getElem?_cons_succ, List.getElem?_cons_zero]; exact rfl) (by simp only [List.getElem?_toArray, List.getElem?_cons_succ, List.getElem?_cons_zero]; exact rfl) (by simp only [List.getElem?_toArray, List.getElem?_cons_succ, List.getElem?_cons_zero]; exact rfl) ?_ ?_ ?_
            · go_wp2_with (at_builtin; refine wpList_app_0 rfl (.tmp 41) (.tmp 42) 22 rfl wd.heap.size 27 i7 _ 5 48 (wd.heap.size) Tryd.underlying22 i7h i7z i7s i7b rfl (by decide) rfl O1.out l.length (l.flatMap stv) _ rfl (Sl.kept0 HI4.out.1 X1.out) ?c1 ?c2 ?c3 ?_)
              case c1 => unfold maxLen; omega
              case c2 => omega
              case c3 => exact X1.out.size
              intro v2 x2 ho hg hn
              have X2 := Lib.hid (gtrans X1.out hg)
              have y2 : x1.heap.size ≤ x2.heap.size := hg.size
              have O2 := Lib.hid ho
              have hkb := KB.of hg X1.out.size
              obtain ⟨A2, z2, rfl, _, _⟩ := own_shape O2.out
              clear ho hg hn
              go_wp2_with fail
              refine ⟨hkb, ?_⟩
              clear hkb
              refine wpTr_two (by simp only [List.getElem?_toArray, List.getElem?_cons_succ, List.getElem?_cons_zero]; exact rfl) (by simp only [List.getElem?_toArray, List.getElem?_cons_succ, List.getElem?_cons_zero]; exact rfl) ?_ ?_
              · go_wp2_with fail
                have hk := galloc (grefl x2 none) (.cells #[.string snm, .int .u16 (skd : Int), .int .u16 (scl : Int), .int .u32 (stt : Int), .slice As sdat.length cs] 27)
                have X3 := Lib.hid (gtrans X2.out hk)
                have y3 : x2.heap.size < (x2.alloc (.cells #[.string snm, .int .u16 (skd : Int), .int .u16 (scl : Int), .int .u32 (stt : Int), .slice As sdat.length cs] 27)).heap.size := blt (balloc x2 _)
                have O3 := Lib.hid (own_kept0 O2.out hk)
                have B3 := Lib.hid (balloc x2 (.cells #[.string snm, .int .u16 (skd : Int), .int .u16 (scl : Int), .int .u32 (stt : Int), .slice As sdat.length cs] 27))
                refine ⟨KB.of hk X2.out.size, ?_⟩
                generalize x2.alloc (.cells #[.string snm, .int .u16 (skd : Int), .int .u16 (scl : Int), .int .u32 (stt : Int), .slice As sdat.length cs] 27) = x3 at *
                clear hk
                refine wpTr_two (by simp only [List.getElem?_toArray, List.getElem?_cons_succ, List.getElem?_cons_zero]; exact rfl) (by simp only [List.getElem?_toArray, List.getElem?_cons_succ, List.getElem?_cons_zero]; exact rfl) ?_ ?_
                · go_wp2_with (at_builtin; refine wpList_app_k rfl (.tmp 43) (.tmp 45) 22 rfl wd.heap.size 27 i7 _ 5 48 Tryd.underlying22 i7h i7z i7s i7b rfl (by decide) _ l.length 1 (l.flatMap stv) (stv (⟨snm, skd, scl, stt, .slice As sdat.length cs, sdat⟩ : St)) rfl O3.out _ rfl (sl_row1 (x := (⟨snm, skd, scl, stt, .slice As sdat.length cs, sdat⟩ : St)) B3.out) ?c1 ?c2 ?c3 ?c4 ?_)
                  case c1 => exact stv_one _ ⟨_, _, _, rfl⟩
                  case c2 => unfold maxLen; omega
                  case c3 => omega
                  case c4 => exact X3.out.size
                  intro v4 x4 ho hg
                  have hkb := kb_own O3.out hg X3.out.size
                  have y4 : x3.heap.size ≤ x4.heap.size := hg.size
                  have X4 := Lib.hid (KB.gr (grefl wd none) (KB.trans (KB.of X3.out (Nat.le_refl _)) hkb) (Nat.le_refl _))
                  have T4 := Lib.hid (show Sts x4 v4 (l ++ [(⟨snm, skd, scl, stt, .slice As sdat.length cs, sdat⟩ : St)]) from ⟨by rw [List.length_append, List.flatMap_append]; simpa using (FS.of ho).sl, fun y hy => by
                    rw [List.mem_append] at hy
                    rcases hy with hy | hy
                    · exact (HI4.out.2 y hy).kept X4.out
                    · rw [List.mem_singleton.1 hy]; exact HSM.out.kept X4.out⟩)
                  obtain ⟨A4, z4, rfl, _, _⟩ := own_shape ho
                  clear ho hg
                  go_wp2_with fail
                  refine ⟨hkb, ?_⟩
                  clear hkb
                  refine wpTr_two (by simp only [List.getElem?_toArray, List.getElem?_cons_succ, List.getElem?_cons_zero]; exact rfl) (by simp only [List.getElem?_toArray, List.getElem?_cons_succ, List.getElem?_cons_zero]; exact rfl) ?_ ?_
                  · go_wp2_with fail
                    refine (find_s n c _ (l ++ [(⟨snm, skd, scl, stt, .slice As sdat.length cs, sdat⟩ : St)]) x4 T4.out (by simp; omega) HDm.out).mono ?_
                    rintro e x5 ⟨A, z, rfl, hg, ho, hfn⟩
                    have FN := Lib.hid hfn
                    clear hfn
                    have X5 := Lib.hid (gtrans X4.out hg)
                    have y5 : x4.heap.size ≤ x5.heap.size := hg.size
                    have F5 := Lib.hid ho
                    generalize fndF n c (l ++ [(⟨snm, skd, scl, stt, .slice As sdat.length cs, sdat⟩ : St)]) = r2 at *
                    unfold St.val St.at
                    go_wp2_with fail
                    refine ⟨KB.of hg X4.out.size, ?_⟩
                    clear ho hg
                    refine wpTr_quiet rfl ?_
                    simp only [List.filterMap_cons, List.filterMap_nil, List.getElem?_toArray, List.getElem?_cons_succ, List.getElem?_cons_zero]
                    show wpQuiet _ _ _ _ [_, _, _, _] _
                    repeat (go_big_quiet_step (fail))
                    refine wpQuiet_nil ?_
                    refine wpTr_one (by simp only [List.getElem?_toArray, List.getElem?_cons_succ, List.getElem?_cons_zero]; exact rfl) ?_
                    go_wp2_with fail
                    have hk := galloc (grefl x5 none) (.cells #[.string ⟨#[]⟩, .int .u16 0, .int .u16 0, .int .u32 0, .slice none 0 0] 27)
                    have X6 := Lib.hid (gtrans X5.out hk)
                    have y6 : x5.heap.size < (x5.alloc (.cells #[.string ⟨#[]⟩, .int .u16 0, .int .u16 0, .int .u32 0, .slice none 0 0] 27)).heap.size := blt (balloc x5 _)
                    have Z6 := Lib.hid (balloc x5 (.cells #[.string ⟨#[]⟩, .int .u16 0, .int .u16 0, .int .u32 0, .slice none 0 0] 27))
                    have HL := Lib.hid (show wd.heap.size ≤ x5.heap.size from X5.out.size)
                    have F6 := Lib.hid (F5.out.kept0 hk)
                    refine ⟨KB.of hk X5.out.size, ?_⟩
                    generalize x5.alloc (.cells #[.string ⟨#[]⟩, .int .u16 0, .int .u16 0, .int .u32 0, .slice none 0 0] 27) = x6 at *
                    clear hk
                    obtain ⟨⟨m0, m1, m2, m3, m4⟩, f0, f1, f2, f3, f4⟩ := cells5 Z6.out
                    have OG := Lib.hid (F6.out.kept (gset5_ x6 (x5.heap.size) (.string (fdSet r2).name) (.int .u16 ((fdSet r2).kind : Int)) (.int .u16 ((fdSet r2).cls : Int)) (.int .u32 ((fdSet r2).ttl : Int)) (.slice A (fdSet r2).data.length z)) (fun b hb => .inr (fun hq => by cases hb; have := FN.out _ hq; omega)))
                    refine wpTr_one (by simp only [List.getElem?_toArray, List.getElem?_cons_succ, List.getElem?_cons_zero]; exact rfl) ?_
                    go_wp2_with fail
                    refine ⟨kb_set5 wd.heap.size x6 (x5.heap.size) _ _ _ _ _ HL.out, ?_⟩
                    refine wpTr_quiet rfl ?_
                    simp only [List.filterMap_cons, List.filterMap_nil, List.getElem?_toArray, List.getElem?_cons_succ, List.getElem?_cons_zero]
                    show wpQuiet _ _ _ _ [_, _] _
                    repeat (go_big_quiet_step (fail))
                    refine wpQuiet_nil ?_
                    refine wpTr_done ?_
                    clear m0 m1 m2 m3 m4 f0 f1 f2 f3 f4
                    go_wp2_with fail
                    go_meet
                    exact mr_mk (gtrans GD.out X6.out) Z6.out (Nat.le_trans GD.out.size HL.out) OG.out
                  · go_wp2_with fail
                    have hk := galloc (grefl x4 none) (.cells #[.string ⟨#[]⟩, .int .u16 0, .int .u16 0, .int .u32 0, .slice none 0 0] 27)
                    have X7 := Lib.hid (gtrans X4.out hk)
                    have y7 : x4.heap.size < (x4.alloc (.cells #[.string ⟨#[]⟩, .int .u16 0, .int .u16 0, .int .u32 0, .slice none 0 0] 27)).heap.size := blt (balloc x4 _)
                    have Z7 := Lib.hid (balloc x4 (.cells #[.string ⟨#[]⟩, .int .u16 0, .int .u16 0, .int .u32 0, .slice none 0 0] 27))
                    have HL := Lib.hid (show wd.heap.size ≤ x4.heap.size from X4.out.size)
                    have T7 := Lib.hid (T4.out.kept hk)
                    refine ⟨KB.of hk X4.out.size, ?_⟩
                    generalize x4.alloc (.cells #[.string ⟨#[]⟩, .int .u16 0, .int .u16 0, .int .u32 0, .slice none 0 0] 27) = x7 at *
                    clear hk
                    refine wpTr_one (by simp only [List.getElem?_toArray, List.getElem?_cons_succ, List.getElem?_cons_zero]; exact rfl) ?_
                    go_wp2_with fail
                    refine (find_s n c _ (l ++ [(⟨snm, skd, scl, stt, .slice As sdat.length cs, sdat⟩ : St)]) x7 T7.out (by simp; omega) HDm.out).mono ?_
                    rintro e x8 ⟨A, z, rfl, hg, ho, hfn⟩
                    have FN := Lib.hid hfn
                    clear hfn
                    have X8 := Lib.hid (gtrans X7.out hg)
                    have y8 : x7.heap.size ≤ x8.heap.size := hg.size
                    have F8 := Lib.hid ho
                    have Z8 := Lib.hid (gblock hg Z7.out (by simp))
                    generalize fndF n c (l ++ [(⟨snm, skd, scl, stt, .slice As sdat.length cs, sdat⟩ : St)]) = r2 at *
                    unfold St.val St.at
                    go_wp2_with fail
                    refine ⟨KB.of hg X7.out.size, ?_⟩
                    clear ho hg
                    refine wpTr_quiet rfl ?_
                    simp only [List.filterMap_cons, List.filterMap_nil, List.getElem?_toArray, List.getElem?_cons_succ, List.getElem?_cons_zero]
                    show wpQuiet _ _ _ _ [_, _, _, _] _
                    repeat (go_big_quiet_step (fail))
                    refine wpQuiet_nil ?_
                    obtain ⟨⟨m0, m1, m2, m3, m4⟩, f0, f1, f2, f3, f4⟩ := cells5 Z8.out
                    have OG := Lib.hid (F8.out.kept (gset5_ x8 (x4.heap.size) (.string (fdSet r2).name) (.int .u16 ((fdSet r2).kind : Int)) (.int .u16 ((fdSet r2).cls : Int)) (.int .u32 ((fdSet r2).ttl : Int)) (.slice A (fdSet r2).data.length z)) (fun b hb => .inr (fun hq => by cases hb; have := FN.out _ hq; omega)))
                    refine wpTr_one (by simp only [List.getElem?_toArray, List.getElem?_cons_succ, List.getElem?_cons_zero]; exact rfl) ?_
                    go_wp2_with fail
                    refine ⟨kb_set5 wd.heap.size x8 (x4.heap.size) _ _ _ _ _ HL.out, ?_⟩
                    refine wpTr_quiet rfl ?_
                    simp only [List.filterMap_cons, List.filterMap_nil, List.getElem?_toArray, List.getElem?_cons_succ, List.getElem?_cons_zero]
                    show wpQuiet _ _ _ _ [_, _] _
                    repeat (go_big_quiet_step (fail))
                    refine wpQuiet_nil ?_
                    refine wpTr_done ?_
                    clear m0 m1 m2 m3 m4 f0 f1 f2 f3 f4
                    go_wp2_with fail
                    go_meet
                    exact mr_mk (gtrans GD.out X8.out) Z8.out (Nat.le_trans GD.out.size HL.out) OG.out
                · go_wp2_with fail
                  have hk := galloc (grefl x3 none) (.cells #[.string ⟨#[]⟩, .int .u16 0, .int .u16 0, .int .u32 0, .slice none 0 0] 27)
                  have X9 := Lib.hid (gtrans X3.out hk)
                  have y9 : x3.heap.size < (x3.alloc (.cells #[.string ⟨#[]⟩, .int .u16 0, .int .u16 0, .int .u32 0, .slice none 0 0] 27)).heap.size := blt (balloc x3 _)
                  have B9 := Lib.hid (gblock hk B3.out (by simp))
                  have O9 := Lib.hid (own_kept0 O3.out hk)
                  have NE := Lib.hid (show ∀ b, Value.ownBlock (.slice A2 l.length z2) = some b → b ≠ x3.heap.size from fun b hb => by have := (World.ownsRow.lt O3.out b hb).2; omega)
                  have Z9 := Lib.hid (balloc x3 (.cells #[.string ⟨#[]⟩, .int .u16 0, .int .u16 0, .int .u32 0, .slice none 0 0] 27))
                  have HL := Lib.hid (show wd.heap.size ≤ x3.heap.size from X3.out.size)
                  refine ⟨KB.of hk X3.out.size, ?_⟩
                  generalize x3.alloc (.cells #[.string ⟨#[]⟩, .int .u16 0, .int .u16 0, .int .u32 0, .slice none 0 0] 27) = x9 at *
                  clear hk
                  refine wpTr_one (by simp only [List.getElem?_toArray, List.getElem?_cons_succ, List.getElem?_cons_zero]; exact rfl) ?_
                  go_wp2_with (at_builtin; refine wpList_app_k rfl (.tmp 43) (.tmp 45) 22 rfl wd.heap.size 27 i7 _ 5 48 Tryd.underlying22 i7h i7z i7s i7b rfl (by decide) _ l.length 1 (l.flatMap stv) (stv (⟨snm, skd, scl, stt, .slice As sdat.length cs, sdat⟩ : St)) rfl O9.out _ rfl (sl_row1 (x := (⟨snm, skd, scl, stt, .slice As sdat.length cs, sdat⟩ : St)) B9.out) ?c1 ?c2 ?c3 ?c4 ?_)
                  case c1 => exact stv_one _ ⟨_, _, _, rfl⟩
                  case c2 => unfold maxLen; omega
                  case c3 => omega
                  case c4 => exact X9.out.size
                  intro v10 x10 ho hg
                  have hkb := kb_own O9.out hg X9.out.size
                  have y10 : x9.heap.size ≤ x10.heap.size := hg.size
                  have X10 := Lib.hid (KB.gr (grefl wd none) (KB.trans (KB.of X9.out (Nat.le_refl _)) hkb) (Nat.le_refl _))
                  have T10 := Lib.hid (show Sts x10 v10 (l ++ [(⟨snm, skd, scl, stt, .slice As sdat.length cs, sdat⟩ : St)]) from ⟨by rw [List.length_append, List.flatMap_append]; simpa using (FS.of ho).sl, fun y hy => by
                    rw [List.mem_append] at hy
                    rcases hy with hy | hy
                    · exact (HI4.out.2 y hy).kept X10.out
                    · rw [List.mem_singleton.1 hy]; exact HSM.out.kept X10.out⟩)
                  have Z10 := Lib.hid (gblock hg Z9.out (fun e => NE.out _ e.symm rfl))
                  obtain ⟨A10, z10, rfl, _, _⟩ := own_shape ho
                  clear ho hg
                  go_wp2_with fail
                  refine ⟨hkb, ?_⟩
                  clear hkb
                  refine wpTr_one (by simp only [List.getElem?_toArray, List.getElem?_cons_succ, List.getElem?_cons_zero]; exact rfl) ?_
                  go_wp2_with fail
                  refine (find_s n c _ (l ++ [(⟨snm, skd, scl, stt, .slice As sdat.length cs, sdat⟩ : St)]) x10 T10.out (by simp; omega) HDm.out).mono ?_
                  rintro e x11 ⟨A, z, rfl, hg, ho, hfn⟩
                  have FN := Lib.hid hfn
                  clear hfn
                  have X11 := Lib.hid (gtrans X10.out hg)
                  have y11 : x10.heap.size ≤ x11.heap.size := hg.size
                  have F11 := Lib.hid ho
                  have Z11 := Lib.hid (gblock hg Z10.out (by simp))
                  generalize fndF n c (l ++ [(⟨snm, skd, scl, stt, .slice As sdat.length cs, sdat⟩ : St)]) = r2 at *
                  unfold St.val St.at
                  go_wp2_with fail
                  refine ⟨KB.of hg X10.out.size, ?_⟩
                  clear ho hg
                  refine wpTr_quiet rfl ?_
                  simp only [List.filterMap_cons, List.filterMap_nil, List.getElem?_toArray, List.getElem?_cons_succ, List.getElem?_cons_zero]
                  show wpQuiet _ _ _ _ [_, _, _, _] _
                  repeat (go_big_quiet_step (fail))
                  refine wpQuiet_nil ?_
                  obtain ⟨⟨m0, m1, m2, m3, m4⟩, f0, f1, f2, f3, f4⟩ := cells5 Z11.out
                  have OG := Lib.hid (F11.out.kept (gset5_ x11 (x3.heap.size) (.string (fdSet r2).name) (.int .u16 ((fdSet r2).kind : Int)) (.int .u16 ((fdSet r2).cls : Int)) (.int .u32 ((fdSet r2).ttl : Int)) (.slice A (fdSet r2).data.length z)) (fun b hb => .inr (fun hq => by cases hb; have := FN.out _ hq; omega)))
                  refine wpTr_one (by simp only [List.getElem?_toArray, List.getElem?_cons_succ, List.getElem?_cons_zero]; exact rfl) ?_
                  go_wp2_with fail
                  refine ⟨kb_set5 wd.heap.size x11 (x3.heap.size) _ _ _ _ _ HL.out, ?_⟩
                  refine wpTr_quiet rfl ?_
                  simp only [List.filterMap_cons, List.filterMap_nil, List.getElem?_toArray, List.getElem?_cons_succ, List.getElem?_cons_zero]
                  show wpQuiet _ _ _ _ [_, _] _
                  repeat (go_big_quiet_step (fail))
                  refine wpQuiet_nil ?_
                  refine wpTr_done ?_
                  clear m0 m1 m2 m3 m4 f0 f1 f2 f3 f4
                  go_wp2_with fail
                  go_meet
                  exact mr_mk (gtrans GD.out X11.out) Z11.out (Nat.le_trans GD.out.size HL.out) OG.out
              · go_wp2_with fail
                have hk := galloc (grefl x2 none) (.cells #[.string ⟨#[]⟩, .int .u16 0, .int .u16 0, .int .u32 0, .slice none 0 0] 27)
                have X12 := Lib.hid (gtrans X2.out hk)
                have y12 : x2.heap.size < (x2.alloc (.cells #[.string ⟨#[]⟩, .int .u16 0, .int .u16 0, .int .u32 0, .slice none 0 0] 27)).heap.size := blt (balloc x2 _)
                have O12 := Lib.hid (own_kept0 O2.out hk)
                have NE := Lib.hid (show ∀ b, Value.ownBlock (.slice A2 l.length z2) = some b → b ≠ x2.heap.size from fun b hb => by have := (World.ownsRow.lt O2.out b hb).2; omega)
                have Z12 := Lib.hid (balloc x2 (.cells #[.string ⟨#[]⟩, .int .u16 0, .int .u16 0, .int .u32 0, .slice none 0 0] 27))
                have HL := Lib.hid (show wd.heap.size ≤ x2.heap.size from X2.out.size)
                refine ⟨KB.of hk X2.out.size, ?_⟩
                generalize x2.alloc (.cells #[.string ⟨#[]⟩, .int .u16 0, .int .u16 0, .int .u32 0, .slice none 0 0] 27) = x12 at *
                clear hk
                refine wpTr_one (by simp only [List.getElem?_toArray, List.getElem?_cons_succ, List.getElem?_cons_zero]; exact rfl) ?_
                go_wp2_with fail
                have hk := galloc (grefl x12 none) (.cells #[.string snm, .int .u16 (skd : Int), .int .u16 (scl : Int), .int .u32 (stt : Int), .slice As sdat.length cs] 27)
                have X13 := Lib.hid (gtrans X12.out hk)
                have y13 : x12.heap.size < (x12.alloc (.cells #[.string snm, .int .u16 (skd : Int), .int .u16 (scl : Int), .int .u32 (stt : Int), .slice As sdat.length cs] 27)).heap.size := blt (balloc x12 _)
                have Z13 := Lib.hid (gblock hk Z12.out (by simp))
                have O13 := Lib.hid (own_kept0 O12.out hk)
                have B13 := Lib.hid (balloc x12 (.cells #[.string snm, .int .u16 (skd : Int), .int .u16 (scl : Int), .int .u32 (stt : Int), .slice As sdat.length cs] 27))
                refine ⟨KB.of hk X12.out.size, ?_⟩
                generalize x12.alloc (.cells #[.string snm, .int .u16 (skd : Int), .int .u16 (scl : Int), .int .u32 (stt : Int), .slice As sdat.length cs] 27) = x13 at *
                clear hk
                refine wpTr_one (by simp only [List.getElem?_toArray, List.getElem?_cons_succ, List.getElem?_cons_zero]; exact rfl) ?_
                go_wp2_with (at_builtin; refine wpList_app_k rfl (.tmp 43) (.tmp 45) 22 rfl wd.heap.size 27 i7 _ 5 48 Tryd.underlying22 i7h i7z i7s i7b rfl (by decide) _ l.length 1 (l.flatMap stv) (stv (⟨snm, skd, scl, stt, .slice As sdat.length cs, sdat⟩ : St)) rfl O13.out _ rfl (sl_row1 (x := (⟨snm, skd, scl, stt, .slice As sdat.length cs, sdat⟩ : St)) B13.out) ?c1 ?c2 ?c3 ?c4 ?_)
                case c1 => exact stv_one _ ⟨_, _, _, rfl⟩
                case c2 => unfold maxLen; omega
                case c3 => omega
                case c4 => exact X13.out.size
                intro v14 x14 ho hg
                have hkb := kb_own O13.out hg X13.out.size
                have y14 : x13.heap.size ≤ x14.heap.size := hg.size
                have X14 := Lib.hid (KB.gr (grefl wd none) (KB.trans (KB.of X13.out (Nat.le_refl _)) hkb) (Nat.le_refl _))
                have T14 := Lib.hid (show Sts x14 v14 (l ++ [(⟨snm, skd, scl, stt, .slice As sdat.length cs, sdat⟩ : St)]) from ⟨by rw [List.length_append, List.flatMap_append]; simpa using (FS.of ho).sl, fun y hy => by
                  rw [List.mem_append] at hy
                  rcases hy with hy | hy
                  · exact (HI4.out.2 y hy).kept X14.out
                  · rw [List.mem_singleton.1 hy]; exact HSM.out.kept X14.out⟩)
                have Z14 := Lib.hid (gblock hg Z13.out (fun e => NE.out _ e.symm rfl))
                obtain ⟨A14, z14, rfl, _, _⟩ := own_shape ho
                clear ho hg
                go_wp2_with fail
                refine ⟨hkb, ?_⟩
                clear hkb
                refine wpTr_one (by simp only [List.getElem?_toArray, List.getElem?_cons_succ, List.getElem?_cons_zero]; exact rfl) ?_
                go_wp2_with fail
                refine (find_s n c _ (l ++ [(⟨snm, skd, scl, stt, .slice As sdat.length cs, sdat⟩ : St)]) x14 T14.out (by simp; omega) HDm.out).mono ?_
                rintro e x15 ⟨A, z, rfl, hg, ho, hfn⟩
                have FN := Lib.hid hfn
                clear hfn
                have X15 := Lib.hid (gtrans X14.out hg)
                have y15 : x14.heap.size ≤ x15.heap.size := hg.size
                have F15 := Lib.hid ho
                have Z15 := Lib.hid (gblock hg Z14.out (by simp))
                generalize fndF n c (l ++ [(⟨snm, skd, scl, stt, .slice As sdat.length cs, sdat⟩ : St)]) = r2 at *
                unfold St.val St.at
                go_wp2_with fail
                refine ⟨KB.of hg X14.out.size, ?_⟩
                clear ho hg
                refine wpTr_quiet rfl ?_
                simp only [List.filterMap_cons, List.filterMap_nil, List.getElem?_toArray, List.getElem?_cons_succ, List.getElem?_cons_zero]
                show wpQuiet _ _ _ _ [_, _, _, _] _
                repeat (go_big_quiet_step (fail))
                refine wpQuiet_nil ?_
                obtain ⟨⟨m0, m1, m2, m3, m4⟩, f0, f1, f2, f3, f4⟩ := cells5 Z15.out
                have OG := Lib.hid (F15.out.kept (gset5_ x15 (x2.heap.size) (.string (fdSet r2).name) (.int .u16 ((fdSet r2).kind : Int)) (.int .u16 ((fdSet r2).cls : Int)) (.int .u32 ((fdSet r2).ttl : Int)) (.slice A (fdSet r2).data.length z)) (fun b hb => .inr (fun hq => by cases hb; have := FN.out _ hq; omega)))
                refine wpTr_one (by simp only [List.getElem?_toArray, List.getElem?_cons_succ, List.getElem?_cons_zero]; exact rfl) ?_
                go_wp2_with fail
                refine ⟨kb_set5 wd.heap.size x15 (x2.heap.size) _ _ _ _ _ HL.out, ?_⟩
                refine wpTr_quiet rfl ?_
                simp only [List.filterMap_cons, List.filterMap_nil, List.getElem?_toArray, List.getElem?_cons_succ, List.getElem?_cons_zero]
                show wpQuiet _ _ _ _ [_, _] _
                repeat (go_big_quiet_step (fail))
                refine wpQuiet_nil ?_
                refine wpTr_done ?_
                clear m0 m1 m2 m3 m4 f0 f1 f2 f3 f4
                go_wp2_with fail
                go_meet
                exact mr_mk (gtrans GD.out X15.out) Z15.out (Nat.le_trans GD.out.size HL.out) OG.out
            · go_wp2_with fail
              have hk := galloc (grefl x1 none) (.cells #[.string snm, .int .u16 (skd : Int), .int .u16 (scl : Int), .int .u32 (stt : Int), .slice As sdat.length cs] 27)
              have X16 := Lib.hid (gtrans X1.out hk)
              have y16 : x1.heap.size < (x1.alloc (.cells #[.string snm, .int .u16 (skd : Int), .int .u16 (scl : Int), .int .u32 (stt : Int), .slice As sdat.length cs] 27)).heap.size := blt (balloc x1 _)
              have O16 := Lib.hid (own_kept0 O1.out hk)
              have B16 := Lib.hid (balloc x1 (.cells #[.string snm, .int .u16 (skd : Int), .int .u16 (scl : Int), .int .u32 (stt : Int), .slice As sdat.length cs] 27))
              refine ⟨KB.of hk X1.out.size, ?_⟩
              generalize x1.alloc (.cells #[.string snm, .int .u16 (skd : Int), .int .u16 (scl : Int), .int .u32 (stt : Int), .slice As sdat.length cs] 27) = x16 at *
              clear hk
              refine wpTr_two (by simp only [List.getElem?_toArray, List.getElem?_cons_succ, List.getElem?_cons_zero]; exact rfl) (by simp only [List.getElem?_toArray, List.getElem?_cons_succ, List.getElem?_cons_zero]; exact rfl) ?_ ?_
              · go_wp2_with (at_builtin; refine wpList_app_0 rfl (.tmp 41) (.tmp 42) 22 rfl wd.heap.size 27 i7 _ 5 48 (wd.heap.size) Tryd.underlying22 i7h i7z i7s i7b rfl (by decide) rfl O16.out l.length (l.flatMap stv) _ rfl (Sl.kept0 HI4.out.1 X16.out) ?c1 ?c2 ?c3 ?_)
                case c1 => unfold maxLen; omega
                case c2 => omega
                case c3 => exact X16.out.size
                intro v17 x17 ho hg hn
                have X17 := Lib.hid (gtrans X16.out hg)
                have y17 : x16.heap.size ≤ x17.heap.size := hg.size
                have O17 := Lib.hid ho
                have B17 := Lib.hid (gblock hg B16.out (by simp))
                have hkb := KB.of hg X16.out.size
                obtain ⟨A17, z17, rfl, _, _⟩ := own_shape O17.out
                clear ho hg hn
                go_wp2_with fail
                refine ⟨hkb, ?_⟩
                clear hkb
                refine wpTr_two (by simp only [List.getElem?_toArray, List.getElem?_cons_succ, List.getElem?_cons_zero]; exact rfl) (by simp only [List.getElem?_toArray, List.getElem?_cons_succ, List.getElem?_cons_zero]; exact rfl) ?_ ?_
                · go_wp2_with (at_builtin; refine wpList_app_k rfl (.tmp 43) (.tmp 45) 22 rfl wd.heap.size 27 i7 _ 5 48 Tryd.underlying22 i7h i7z i7s i7b rfl (by decide) _ l.length 1 (l.flatMap stv) (stv (⟨snm, skd, scl, stt, .slice As sdat.length cs, sdat⟩ : St)) rfl O17.out _ rfl (sl_row1 (x := (⟨snm, skd, scl, stt, .slice As sdat.length cs, sdat⟩ : St)) B17.out) ?c1 ?c2 ?c3 ?c4 ?_)
                  case c1 => exact stv_one _ ⟨_, _, _, rfl⟩
                  case c2 => unfold maxLen; omega
                  case c3 => omega
                  case c4 => exact X17.out.size
                  intro v18 x18 ho hg
                  have hkb := kb_own O17.out hg X17.out.size
                  have y18 : x17.heap.size ≤ x18.heap.size := hg.size
                  have X18 := Lib.hid (KB.gr (grefl wd none) (KB.trans (KB.of X17.out (Nat.le_refl _)) hkb) (Nat.le_refl _))
                  have T18 := Lib.hid (show Sts x18 v18 (l ++ [(⟨snm, skd, scl, stt, .slice As sdat.length cs, sdat⟩ : St)]) from ⟨by rw [List.length_append, List.flatMap_append]; simpa using (FS.of ho).sl, fun y hy => by
                    rw [List.mem_append] at hy
                    rcases hy with hy | hy
                    · exact (HI4.out.2 y hy).kept X18.out
                    · rw [List.mem_singleton.1 hy]; exact HSM.out.kept X18.out⟩)
                  obtain ⟨A18, z18, rfl, _, _⟩ := own_shape ho
                  clear ho hg
                  go_wp2_with fail
                  refine ⟨hkb, ?_⟩
                  clear hkb
                  refine wpTr_two (by simp only [List.getElem?_toArray, List.getElem?_cons_succ, List.getElem?_cons_zero]; exact rfl) (by simp only [List.getElem?_toArray, List.getElem?_cons_succ, List.getElem?_cons_zero]; exact rfl) ?_ ?_
                  · go_wp2_with fail
                    refine (find_s n c _ (l ++ [(⟨snm, skd, scl, stt, .slice As sdat.length cs, sdat⟩ : St)]) x18 T18.out (by simp; omega) HDm.out).mono ?_
                    rintro e x19 ⟨A, z, rfl, hg, ho, hfn⟩
                    have FN := Lib.hid hfn
                    clear hfn
                    have X19 := Lib.hid (gtrans X18.out hg)
                    have y19 : x18.heap.size ≤ x19.heap.size := hg.size
                    have F19 := Lib.hid ho
                    generalize fndF n c (l ++ [(⟨snm, skd, scl, stt, .slice As sdat.length cs, sdat⟩ : St)]) = r2 at *
                    unfold St.val St.at
                    go_wp2_with fail
                    refine ⟨KB.of hg X18.out.size, ?_⟩
                    clear ho hg
                    refine wpTr_quiet rfl ?_
                    simp only [List.filterMap_cons, List.filterMap_nil, List.getElem?_toArray, List.getElem?_cons_succ, List.getElem?_cons_zero]
                    show wpQuiet _ _ _ _ [_, _, _, _] _
                    repeat (go_big_quiet_step (fail))
                    refine wpQuiet_nil ?_
                    refine wpTr_one (by simp only [List.getElem?_toArray, List.getElem?_cons_succ, List.getElem?_cons_zero]; exact rfl) ?_
                    go_wp2_with fail
                    have hk := galloc (grefl x19 none) (.cells #[.string ⟨#[]⟩, .int .u16 0, .int .u16 0, .int .u32 0, .slice none 0 0] 27)
                    have X20 := Lib.hid (gtrans X19.out hk)
                    have y20 : x19.heap.size < (x19.alloc (.cells #[.string ⟨#[]⟩, .int .u16 0, .int .u16 0, .int .u32 0, .slice none 0 0] 27)).heap.size := blt (balloc x19 _)
                    have Z20 := Lib.hid (balloc x19 (.cells #[.string ⟨#[]⟩, .int .u16 0, .int .u16 0, .int .u32 0, .slice none 0 0] 27))
                    have HL := Lib.hid (show wd.heap.size ≤ x19.heap.size from X19.out.size)
                    have F20 := Lib.hid (F19.out.kept0 hk)
                    refine ⟨KB.of hk X19.out.size, ?_⟩
                    generalize x19.alloc (.cells #[.string ⟨#[]⟩, .int .u16 0, .int .u16 0, .int .u32 0, .slice none 0 0] 27) = x20 at *
                    clear hk
                    obtain ⟨⟨m0, m1, m2, m3, m4⟩, f0, f1, f2, f3, f4⟩ := cells5 Z20.out
                    have OG := Lib.hid (F20.out.kept (gset5_ x20 (x19.heap.size) (.string (fdSet r2).name) (.int .u16 ((fdSet r2).kind : Int)) (.int .u16 ((fdSet r2).cls : Int)) (.int .u32 ((fdSet r2).ttl : Int)) (.slice A (fdSet r2).data.length z)) (fun b hb => .inr (fun hq => by cases hb; have := FN.out _ hq; omega)))
                    refine wpTr_one (by simp only [List.getElem?_toArray, List.getElem?_cons_succ, List.getElem?_cons_zero]; exact rfl) ?_
                    go_wp2_with fail
                    refine ⟨kb_set5 wd.heap.size x20 (x19.heap.size) _ _ _ _ _ HL.out, ?_⟩
                    refine wpTr_quiet rfl ?_
                    simp only [List.filterMap_cons, List.filterMap_nil, List.getElem?_toArray, List.getElem?_cons_succ, List.getElem?_cons_zero]
                    show wpQuiet _ _ _ _ [_, _] _
                    repeat (go_big_quiet_step (fail))
                    refine wpQuiet_nil ?_
                    refine wpTr_done ?_
                    clear m0 m1 m2 m3 m4 f0 f1 f2 f3 f4
                    go_wp2_with fail
                    go_meet
                    exact mr_mk (gtrans GD.out X20.out) Z20.out (Nat.le_trans GD.out.size HL.out) OG.out
                  · go_wp2_with fail
                    have hk := galloc (grefl x18 none) (.cells #[.string ⟨#[]⟩, .int .u16 0, .int .u16 0, .int .u32 0, .slice none 0 0] 27)
                    have X21 := Lib.hid (gtrans X18.out hk)
                    have y21 : x18.heap.size < (x18.alloc (.cells #[.string ⟨#[]⟩, .int .u16 0, .int .u16 0, .int .u32 0, .slice none 0 0] 27)).heap.size := blt (balloc x18 _)
                    have Z21 := Lib.hid (balloc x18 (.cells #[.string ⟨#[]⟩, .int .u16 0, .int .u16 0, .int .u32 0, .slice none 0 0] 27))
                    have HL := Lib.hid (show wd.heap.size ≤ x18.heap.size from X18.out.size)
                    have T21 := Lib.hid (T18.out.kept hk)
                    refine ⟨KB.of hk X18.out.size, ?_⟩
                    generalize x18.alloc (.cells #[.string ⟨#[]⟩, .int .u16 0, .int .u16 0, .int .u32 0, .slice none 0 0] 27) = x21 at *
                    clear hk
                    refine wpTr_one (by simp only [List.getElem?_toArray, List.getElem?_cons_succ, List.getElem?_cons_zero]; exact rfl) ?_
                    go_wp2_with fail
                    refine (find_s n c _ (l ++ [(⟨snm, skd, scl, stt, .slice As sdat.length cs, sdat⟩ : St)]) x21 T21.out (by simp; omega) HDm.out).mono ?_
                    rintro e x22 ⟨A, z, rfl, hg, ho, hfn⟩
                    have FN := Lib.hid hfn
                    clear hfn
                    have X22 := Lib.hid (gtrans X21.out hg)
                    have y22 : x21.heap.size ≤ x22.heap.size := hg.size
                    have F22 := Lib.hid ho
                    have Z22 := Lib.hid (gblock hg Z21.out (by simp))
                    generalize fndF n c (l ++ [(⟨snm, skd, scl, stt, .slice As sdat.length cs, sdat⟩ : St)]) = r2 at *
                    unfold St.val St.at
                    go_wp2_with fail
                    refine ⟨KB.of hg X21.out.size, ?_⟩
                    clear ho hg
                    refine wpTr_quiet rfl ?_
                    simp only [List.filterMap_cons, List.filterMap_nil, List.getElem?_toArray, List.getElem?_cons_succ, List.getElem?_cons_zero]
                    show wpQuiet _ _ _ _ [_, _, _, _] _
                    repeat (go_big_quiet_step (fail))
                    refine wpQuiet_nil ?_
                    obtain ⟨⟨m0, m1, m2, m3, m4⟩, f0, f1, f2, f3, f4⟩ := cells5 Z22.out
                    have OG := Lib.hid (F22.out.kept (gset5_ x22 (x18.heap.size) (.string (fdSet r2).name) (.int .u16 ((fdSet r2).kind : Int)) (.int .u16 ((fdSet r2).cls : Int)) (.int .u32 ((fdSet r2).ttl : Int)) (.slice A (fdSet r2).data.length z)) (fun b hb => .inr (fun hq => by cases hb; have := FN.out _ hq; omega)))
                    refine wpTr_one (by simp only [List.getElem?_toArray, List.getElem?_cons_succ, List.getElem?_cons_zero]; exact rfl) ?_
                    go_wp2_with fail
                    refine ⟨kb_set5 wd.heap.size x22 (x18.heap.size) _ _ _ _ _ HL.out, ?_⟩
                    refine wpTr_quiet rfl ?_
                    simp only [List.filterMap_cons, List.filterMap_nil, List.getElem?_toArray, List.getElem?_cons_succ, List.getElem?_cons_zero]
                    show wpQuiet _ _ _ _ [_, _] _
                    repeat (go_big_quiet_step (fail))
                    refine wpQuiet_nil ?_
                    refine wpTr_done ?_
                    clear m0 m1 m2 m3 m4 f0 f1 f2 f3 f4
                    go_wp2_with fail
                    go_meet
                    exact mr_mk (gtrans GD.out X22.out) Z22.out (Nat.le_trans GD.out.size HL.out) OG.out
                · go_wp2_with fail
                  have hk := galloc (grefl x17 none) (.cells #[.string ⟨#[]⟩, .int .u16 0, .int .u16 0, .int .u32 0, .slice none 0 0] 27)
                  have X23 := Lib.hid (gtrans X17.out hk)
                  have y23 : x17.heap.size < (x17.alloc (.cells #[.string ⟨#[]⟩, .int .u16 0, .int .u16 0, .int .u32 0, .slice none 0 0] 27)).heap.size := blt (balloc x17 _)
                  have B23 := Lib.hid (gblock hk B17.out (by simp))
                  have O23 := Lib.hid (own_kept0 O17.out hk)
                  have NE := Lib.hid (show ∀ b, Value.ownBlock (.slice A17 l.length z17) = some b → b ≠ x17.heap.size from fun b hb => by have := (World.ownsRow.lt O17.out b hb).2; omega)
                  have Z23 := Lib.hid (balloc x17 (.cells #[.string ⟨#[]⟩, .int .u16 0, .int .u16 0, .int .u32 0, .slice none 0 0] 27))
                  have HL := Lib.hid (show wd.heap.size ≤ x17.heap.size from X17.out.size)
                  refine ⟨KB.of hk X17.out.size, ?_⟩
                  generalize x17.alloc (.cells #[.string ⟨#[]⟩, .int .u16 0, .int .u16 0, .int .u32 0, .slice none 0 0] 27) = x23 at *
                  clear hk
                  refine wpTr_one (by simp only [List.getElem?_toArray, List.getElem?_cons_succ, List.getElem?_cons_zero]; exact rfl) ?_
                  go_wp2_with (at_builtin; refine wpList_app_k rfl (.tmp 43) (.tmp 45) 22 rfl wd.heap.size 27 i7 _ 5 48 Tryd.underlying22 i7h i7z i7s i7b rfl (by decide) _ l.length 1 (l.flatMap stv) (stv (⟨snm, skd, scl, stt, .slice As sdat.length cs, sdat⟩ : St)) rfl O23.out _ rfl (sl_row1 (x := (⟨snm, skd, scl, stt, .slice As sdat.length cs, sdat⟩ : St)) B23.out) ?c1 ?c2 ?c3 ?c4 ?_)
                  case c1 => exact stv_one _ ⟨_, _, _, rfl⟩
                  case c2 => unfold maxLen; omega
                  case c3 => omega
                  case c4 => exact X23.out.size
                  intro v24 x24 ho hg
                  have hkb := kb_own O23.out hg X23.out.size
                  have y24 : x23.heap.size ≤ x24.heap.size := hg.size
                  have X24 := Lib.hid (KB.gr (grefl wd none) (KB.trans (KB.of X23.out (Nat.le_refl _)) hkb) (Nat.le_refl _))
                  have T24 := Lib.hid (show Sts x24 v24 (l ++ [(⟨snm, skd, scl, stt, .slice As sdat.length cs, sdat⟩ : St)]) from ⟨by rw [List.length_append, List.flatMap_append]; simpa using (FS.of ho).sl, fun y hy => by
                    rw [List.mem_append] at hy
                    rcases hy with hy | hy
                    · exact (HI4.out.2 y hy).kept X24.out
                    · rw [List.mem_singleton.1 hy]; exact HSM.out.kept X24.out⟩)
                  have Z24 := Lib.hid (gblock hg Z23.out (fun e => NE.out _ e.symm rfl))
                  obtain ⟨A24, z24, rfl, _, _⟩ := own_shape ho
                  clear ho hg
                  go_wp2_with fail
                  refine ⟨hkb, ?_⟩
                  clear hkb
                  refine wpTr_one (by simp only [List.getElem?_toArray, List.getElem?_cons_succ, List.getElem?_cons_zero]; exact rfl) ?_
                  go_wp2_with fail
                  refine (find_s n c _ (l ++ [(⟨snm, skd, scl, stt, .slice As sdat.length cs, sdat⟩ : St)]) x24 T24.out (by simp; omega) HDm.out).mono ?_
                  rintro e x25 ⟨A, z, rfl, hg, ho, hfn⟩
                  have FN := Lib.hid hfn
                  clear hfn
                  have X25 := Lib.hid (gtrans X24.out hg)
                  have y25 : x24.heap.size ≤ x25.heap.size := hg.size
                  have F25 := Lib.hid ho
                  have Z25 := Lib.hid (gblock hg Z24.out (by simp))
                  generalize fndF n c (l ++ [(⟨snm, skd, scl, stt, .slice As sdat.length cs, sdat⟩ : St)]) = r2 at *
                  unfold St.val St.at
                  go_wp2_with fail
                  refine ⟨KB.of hg X24.out.size, ?_⟩
                  clear ho hg
                  refine wpTr_quiet rfl ?_
                  simp only [List.filterMap_cons, List.filterMap_nil, List.getElem?_toArray, List.getElem?_cons_succ, List.getElem?_cons_zero]
                  show wpQuiet _ _ _ _ [_, _, _, _] _
                  repeat (go_big_quiet_step (fail))
                  refine wpQuiet_nil ?_
                  obtain ⟨⟨m0, m1, m2, m3, m4⟩, f0, f1, f2, f3, f4⟩ := cells5 Z25.out
                  have OG := Lib.hid (F25.out.kept (gset5_ x25 (x17.heap.size) (.string (fdSet r2).name) (.int .u16 ((fdSet r2).kind : Int)) (.int .u16 ((fdSet r2).cls : Int)) (.int .u32 ((fdSet r2).ttl : Int)) (.slice A (fdSet r2).data.length z)) (fun b hb => .inr (fun hq => by cases hb; have := FN.out _ hq; omega)))
                  refine wpTr_one (by simp only [List.getElem?_toArray, List.getElem?_cons_succ, List.getElem?_cons_zero]; exact rfl) ?_
                  go_wp2_with fail
                  refine ⟨kb_set5 wd.heap.size x25 (x17.heap.size) _ _ _ _ _ HL.out, ?_⟩
                  refine wpTr_quiet rfl ?_
                  simp only [List.filterMap_cons, List.filterMap_nil, List.getElem?_toArray, List.getElem?_cons_succ, List.getElem?_cons_zero]
                  show wpQuiet _ _ _ _ [_, _] _
                  repeat (go_big_quiet_step (fail))
                  refine wpQuiet_nil ?_
                  refine wpTr_done ?_
                  clear m0 m1 m2 m3 m4 f0 f1 f2 f3 f4
                  go_wp2_with fail
                  go_meet
                  exact mr_mk (gtrans GD.out X25.out) Z25.out (Nat.le_trans GD.out.size HL.out) OG.out
              · go_wp2_with fail
                have hk := galloc (grefl x16 none) (.cells #[.string ⟨#[]⟩, .int .u16 0, .int .u16 0, .int .u32 0, .slice none 0 0] 27)
                have X26 := Lib.hid (gtrans X16.out hk)
                have y26 : x16.heap.size < (x16.alloc (.cells #[.string ⟨#[]⟩, .int .u16 0, .int .u16 0, .int .u32 0, .slice none 0 0] 27)).heap.size := blt (balloc x16 _)
                have B26 := Lib.hid (gblock hk B16.out (by simp))
                have O26 := Lib.hid (own_kept0 O16.out hk)
                have Z26 := Lib.hid (balloc x16 (.cells #[.string ⟨#[]⟩, .int .u16 0, .int .u16 0, .int .u32 0, .slice none 0 0] 27))
                have HL := Lib.hid (show wd.heap.size ≤ x16.heap.size from X16.out.size)
                refine ⟨KB.of hk X16.out.size, ?_⟩
                generalize x16.alloc (.cells #[.string ⟨#[]⟩, .int .u16 0, .int .u16 0, .int .u32 0, .slice none 0 0] 27) = x26 at *
                clear hk
                refine wpTr_one (by simp only [List.getElem?_toArray, List.getElem?_cons_succ, List.getElem?_cons_zero]; exact rfl) ?_
                go_wp2_with (at_builtin; refine wpList_app_0 rfl (.tmp 41) (.tmp 42) 22 rfl wd.heap.size 27 i7 _ 5 48 (wd.heap.size) Tryd.underlying22 i7h i7z i7s i7b rfl (by decide) rfl O26.out l.length (l.flatMap stv) _ rfl (Sl.kept0 HI4.out.1 X26.out) ?c1 ?c2 ?c3 ?_)
                case c1 => unfold maxLen; omega
                case c2 => omega
                case c3 => exact X26.out.size
                intro v27 x27 ho hg hn
                have X27 := Lib.hid (gtrans X26.out hg)
                have y27 : x26.heap.size ≤ x27.heap.size := hg.size
                have O27 := Lib.hid ho
                have B27 := Lib.hid (gblock hg B26.out (by simp))
                have Z27 := Lib.hid (gblock hg Z26.out (by simp))
                have NE0 := Lib.hid (show ∀ b, v27.ownBlock = some b → b ≠ x16.heap.size from fun b hb => by rcases hn b hb with h | h <;> omega)
                have hkb := KB.of hg X26.out.size
                obtain ⟨A27, z27, rfl, _, _⟩ := own_shape O27.out
                have NE := Lib.hid (show ∀ b, Value.ownBlock (.slice A27 l.length z27) = some b → b ≠ x16.heap.size from NE0.out)
                clear NE0
                clear ho hg hn
                go_wp2_with fail
                refine ⟨hkb, ?_⟩
                clear hkb
                refine wpTr_one (by simp only [List.getElem?_toArray, List.getElem?_cons_succ, List.getElem?_cons_zero]; exact rfl) ?_
                go_wp2_with (at_builtin; refine wpList_app_k rfl (.tmp 43) (.tmp 45) 22 rfl wd.heap.size 27 i7 _ 5 48 Tryd.underlying22 i7h i7z i7s i7b rfl (by decide) _ l.length 1 (l.flatMap stv) (stv (⟨snm, skd, scl, stt, .slice As sdat.length cs, sdat⟩ : St)) rfl O27.out _ rfl (sl_row1 (x := (⟨snm, skd, scl, stt, .slice As sdat.length cs, sdat⟩ : St)) B27.out) ?c1 ?c2 ?c3 ?c4 ?_)
                case c1 => exact stv_one _ ⟨_, _, _, rfl⟩
                case c2 => unfold maxLen; omega
                case c3 => omega
                case c4 => exact X27.out.size
                intro v28 x28 ho hg
                have hkb := kb_own O27.out hg X27.out.size
                have y28 : x27.heap.size ≤ x28.heap.size := hg.size
                have X28 := Lib.hid (KB.gr (grefl wd none) (KB.trans (KB.of X27.out (Nat.le_refl _)) hkb) (Nat.le_refl _))
                have T28 := Lib.hid (show Sts x28 v28 (l ++ [(⟨snm, skd, scl, stt, .slice As sdat.length cs, sdat⟩ : St)]) from ⟨by rw [List.length_append, List.flatMap_append]; simpa using (FS.of ho).sl, fun y hy => by
                  rw [List.mem_append] at hy
                  rcases hy with hy | hy
                  · exact (HI4.out.2 y hy).kept X28.out
                  · rw [List.mem_singleton.1 hy]; exact HSM.out.kept X28.out⟩)
                have Z28 := Lib.hid (gblock hg Z27.out (fun e => NE.out _ e.symm rfl))
                obtain ⟨A28, z28, rfl, _, _⟩ := own_shape ho
                clear ho hg
                go_wp2_with fail
                refine ⟨hkb, ?_⟩
                clear hkb
                refine wpTr_one (by simp only [List.getElem?_toArray, List.getElem?_cons_succ, List.getElem?_cons_zero]; exact rfl) ?_
                go_wp2_with fail
                refine (find_s n c _ (l ++ [(⟨snm, skd, scl, stt, .slice As sdat.length cs, sdat⟩ : St)]) x28 T28.out (by simp; omega) HDm.out).mono ?_
                rintro e x29 ⟨A, z, rfl, hg, ho, hfn⟩
                have FN := Lib.hid hfn
                clear hfn
                have X29 := Lib.hid (gtrans X28.out hg)
                have y29 : x28.heap.size ≤ x29.heap.size := hg.size
                have F29 := Lib.hid ho
                have Z29 := Lib.hid (gblock hg Z28.out (by simp))
                generalize fndF n c (l ++ [(⟨snm, skd, scl, stt, .slice As sdat.length cs, sdat⟩ : St)]) = r2 at *
                unfold St.val St.at
                go_wp2_with fail
                refine ⟨KB.of hg X28.out.size, ?_⟩
                clear ho hg
                refine wpTr_quiet rfl ?_
                simp only [List.filterMap_cons, List.filterMap_nil, List.getElem?_toArray, List.getElem?_cons_succ, List.getElem?_cons_zero]
                show wpQuiet _ _ _ _ [_, _, _, _] _
                repeat (go_big_quiet_step (fail))
                refine wpQuiet_nil ?_
                obtain ⟨⟨m0, m1, m2, m3, m4⟩, f0, f1, f2, f3, f4⟩ := cells5 Z29.out
                have OG := Lib.hid (F29.out.kept (gset5_ x29 (x16.heap.size) (.string (fdSet r2).name) (.int .u16 ((fdSet r2).kind : Int)) (.int .u16 ((fdSet r2).cls : Int)) (.int .u32 ((fdSet r2).ttl : Int)) (.slice A (fdSet r2).data.length z)) (fun b hb => .inr (fun hq => by cases hb; have := FN.out _ hq; omega)))
                refine wpTr_one (by simp only [List.getElem?_toArray, List.getElem?_cons_succ, List.getElem?_cons_zero]; exact rfl) ?_
                go_wp2_with fail
                refine ⟨kb_set5 wd.heap.size x29 (x16.heap.size) _ _ _ _ _ HL.out, ?_⟩
                refine wpTr_quiet rfl ?_
                simp only [List.filterMap_cons, List.filterMap_nil, List.getElem?_toArray, List.getElem?_cons_succ, List.getElem?_cons_zero]
                show wpQuiet _ _ _ _ [_, _] _
                repeat (go_big_quiet_step (fail))
                refine wpQuiet_nil ?_
                refine wpTr_done ?_
                clear m0 m1 m2 m3 m4 f0 f1 f2 f3 f4
                go_wp2_with fail
                go_meet
                exact mr_mk (gtrans GD.out X29.out) Z29.out (Nat.le_trans GD.out.size HL.out) OG.out
            · go_wp2_with fail
              have hk := galloc (grefl x1 none) (.cells #[.string ⟨#[]⟩, .int .u16 0, .int .u16 0, .int .u32 0, .slice none 0 0] 27)
              have X30 := Lib.hid (gtrans X1.out hk)
              have y30 : x1.heap.size < (x1.alloc (.cells #[.string ⟨#[]⟩, .int .u16 0, .int .u16 0, .int .u32 0, .slice none 0 0] 27)).heap.size := blt (balloc x1 _)
              have O30 := Lib.hid (own_kept0 O1.out hk)
              have Z30 := Lib.hid (balloc x1 (.cells #[.string ⟨#[]⟩, .int .u16 0, .int .u16 0, .int .u32 0, .slice none 0 0] 27))
              have HL := Lib.hid (show wd.heap.size ≤ x1.heap.size from X1.out.size)
              refine ⟨KB.of hk X1.out.size, ?_⟩
              generalize x1.alloc (.cells #[.string ⟨#[]⟩, .int .u16 0, .int .u16 0, .int .u32 0, .slice none 0 0] 27) = x30 at *
              clear hk
              refine wpTr_two (by simp only [List.getElem?_toArray, List.getElem?_cons_succ, List.getElem?_cons_zero]; exact rfl) (by simp only [List.getElem?_toArray, List.getElem?_cons_succ, List.getElem?_cons_zero]; exact rfl) ?_ ?_
              · go_wp2_with (at_builtin; refine wpList_app_0 rfl (.tmp 41) (.tmp 42) 22 rfl wd.heap.size 27 i7 _ 5 48 (wd.heap.size) Tryd.underlying22 i7h i7z i7s i7b rfl (by decide) rfl O30.out l.length (l.flatMap stv) _ rfl (Sl.kept0 HI4.out.1 X30.out) ?c1 ?c2 ?c3 ?_)
                case c1 => unfold maxLen; omega
                case c2 => omega
                case c3 => exact X30.out.size
                intro v31 x31 ho hg hn
                have X31 := Lib.hid (gtrans X30.out hg)
                have y31 : x30.heap.size ≤ x31.heap.size := hg.size
                have O31 := Lib.hid ho
                have Z31 := Lib.hid (gblock hg Z30.out (by simp))
                have NE0 := Lib.hid (show ∀ b, v31.ownBlock = some b → b ≠ x1.heap.size from fun b hb => by rcases hn b hb with h | h <;> omega)
                have hkb := KB.of hg X30.out.size
                obtain ⟨A31, z31, rfl, _, _⟩ := own_shape O31.out
                have NE := Lib.hid (show ∀ b, Value.ownBlock (.slice A31 l.length z31) = some b → b ≠ x1.heap.size from NE0.out)
                clear NE0
                clear ho hg hn
                go_wp2_with fail
                refine ⟨hkb, ?_⟩
                clear hkb
                refine wpTr_one (by simp only [List.getElem?_toArray, List.getElem?_cons_succ, List.getElem?_cons_zero]; exact rfl) ?_
                go_wp2_with fail
                have hk := galloc (grefl x31 none) (.cells #[.string snm, .int .u16 (skd : Int), .int .u16 (scl : Int), .int .u32 (stt : Int), .slice As sdat.length cs] 27)
                have X32 := Lib.hid (gtrans X31.out hk)
                have y32 : x31.heap.size < (x31.alloc (.cells #[.string snm, .int .u16 (skd : Int), .int .u16 (scl : Int), .int .u32 (stt : Int), .slice As sdat.length cs] 27)).heap.size := blt (balloc x31 _)
                have Z32 := Lib.hid (gblock hk Z31.out (by simp))
                have O32 := Lib.hid (own_kept0 O31.out hk)
                have B32 := Lib.hid (balloc x31 (.cells #[.string snm, .int .u16 (skd : Int), .int .u16 (scl : Int), .int .u32 (stt : Int), .slice As sdat.length cs] 27))
                refine ⟨KB.of hk X31.out.size, ?_⟩
                generalize x31.alloc (.cells #[.string snm, .int .u16 (skd : Int), .int .u16 (scl : Int), .int .u32 (stt : Int), .slice As sdat.length cs] 27) = x32 at *
                clear hk
                refine wpTr_one (by simp only [List.getElem?_toArray, List.getElem?_cons_succ, List.getElem?_cons_zero]; exact rfl) ?_
                go_wp2_with (at_builtin; refine wpList_app_k rfl (.tmp 43) (.tmp 45) 22 rfl wd.heap.size 27 i7 _ 5 48 Tryd.underlying22 i7h i7z i7s i7b rfl (by decide) _ l.length 1 (l.flatMap stv) (stv (⟨snm, skd, scl, stt, .slice As sdat.length cs, sdat⟩ : St)) rfl O32.out _ rfl (sl_row1 (x := (⟨snm, skd, scl, stt, .slice As sdat.length cs, sdat⟩ : St)) B32.out) ?c1 ?c2 ?c3 ?c4 ?_)
                case c1 => exact stv_one _ ⟨_, _, _, rfl⟩
                case c2 => unfold maxLen; omega
                case c3 => omega
                case c4 => exact X32.out.size
                intro v33 x33 ho hg
                have hkb := kb_own O32.out hg X32.out.size
                have y33 : x32.heap.size ≤ x33.heap.size := hg.size
                have X33 := Lib.hid (KB.gr (grefl wd none) (KB.trans (KB.of X32.out (Nat.le_refl _)) hkb) (Nat.le_refl _))
                have T33 := Lib.hid (show Sts x33 v33 (l ++ [(⟨snm, skd, scl, stt, .slice As sdat.length cs, sdat⟩ : St)]) from ⟨by rw [List.length_append, List.flatMap_append]; simpa using (FS.of ho).sl, fun y hy => by
                  rw [List.mem_append] at hy
                  rcases hy with hy | hy
                  · exact (HI4.out.2 y hy).kept X33.out
                  · rw [List.mem_singleton.1 hy]; exact HSM.out.kept X33.out⟩)
                have Z33 := Lib.hid (gblock hg Z32.out (fun e => NE.out _ e.symm rfl))
                obtain ⟨A33, z33, rfl, _, _⟩ := own_shape ho
                clear ho hg
                go_wp2_with fail
                refine ⟨hkb, ?_⟩
                clear hkb
                refine wpTr_one (by simp only [List.getElem?_toArray, List.getElem?_cons_succ, List.getElem?_cons_zero]; exact rfl) ?_
                go_wp2_with fail
                refine (find_s n c _ (l ++ [(⟨snm, skd, scl, stt, .slice As sdat.length cs, sdat⟩ : St)]) x33 T33.out (by simp; omega) HDm.out).mono ?_
                rintro e x34 ⟨A, z, rfl, hg, ho, hfn⟩
                have FN := Lib.hid hfn
                clear hfn
                have X34 := Lib.hid (gtrans X33.out hg)
                have y34 : x33.heap.size ≤ x34.heap.size := hg.size
                have F34 := Lib.hid ho
                have Z34 := Lib.hid (gblock hg Z33.out (by simp))
                generalize fndF n c (l ++ [(⟨snm, skd, scl, stt, .slice As sdat.length cs, sdat⟩ : St)]) = r2 at *
                unfold St.val St.at
                go_wp2_with fail
                refine ⟨KB.of hg X33.out.size, ?_⟩
                clear ho hg
                refine wpTr_quiet rfl ?_
                simp only [List.filterMap_cons, List.filterMap_nil, List.getElem?_toArray, List.getElem?_cons_succ, List.getElem?_cons_zero]
                show wpQuiet _ _ _ _ [_, _, _, _] _
                repeat (go_big_quiet_step (fail))
                refine wpQuiet_nil ?_
                obtain ⟨⟨m0, m1, m2, m3, m4⟩, f0, f1, f2, f3, f4⟩ := cells5 Z34.out
                have OG := Lib.hid (F34.out.kept (gset5_ x34 (x1.heap.size) (.string (fdSet r2).name) (.int .u16 ((fdSet r2).kind : Int)) (.int .u16 ((fdSet r2).cls : Int)) (.int .u32 ((fdSet r2).ttl : Int)) (.slice A (fdSet r2).data.length z)) (fun b hb => .inr (fun hq => by cases hb; have := FN.out _ hq; omega)))
                refine wpTr_one (by simp only [List.getElem?_toArray, List.getElem?_cons_succ, List.getElem?_cons_zero]; exact rfl) ?_
                go_wp2_with fail
                refine ⟨kb_set5 wd.heap.size x34 (x1.heap.size) _ _ _ _ _ HL.out, ?_⟩
                refine wpTr_quiet rfl ?_
                simp only [List.filterMap_cons, List.filterMap_nil, List.getElem?_toArray, List.getElem?_cons_succ, List.getElem?_cons_zero]
                show wpQuiet _ _ _ _ [_, _] _
                repeat (go_big_quiet_step (fail))
                refine wpQuiet_nil ?_
                refine wpTr_done ?_
                clear m0 m1 m2 m3 m4 f0 f1 f2 f3 f4
                go_wp2_with fail
                go_meet
                exact mr_mk (gtrans GD.out X34.out) Z34.out (Nat.le_trans GD.out.size HL.out) OG.out
              · go_wp2_with fail
                have hk := galloc (grefl x30 none) (.cells #[.string snm, .int .u16 (skd : Int), .int .u16 (scl : Int), .int .u32 (stt : Int), .slice As sdat.length cs] 27)
                have X35 := Lib.hid (gtrans X30.out hk)
                have y35 : x30.heap.size < (x30.alloc (.cells #[.string snm, .int .u16 (skd : Int), .int .u16 (scl : Int), .int .u32 (stt : Int), .slice As sdat.length cs] 27)).heap.size := blt (balloc x30 _)
                have Z35 := Lib.hid (gblock hk Z30.out (by simp))
                have O35 := Lib.hid (own_kept0 O30.out hk)
                have B35 := Lib.hid (balloc x30 (.cells #[.string snm, .int .u16 (skd : Int), .int .u16 (scl : Int), .int .u32 (stt : Int), .slice As sdat.length cs] 27))
                refine ⟨KB.of hk X30.out.size, ?_⟩
                generalize x30.alloc (.cells #[.string snm, .int .u16 (skd : Int), .int .u16 (scl : Int), .int .u32 (stt : Int), .slice As sdat.length cs] 27) = x35 at *
                clear hk
                refine wpTr_one (by simp only [List.getElem?_toArray, List.getElem?_cons_succ, List.getElem?_cons_zero]; exact rfl) ?_
                go_wp2_with (at_builtin; refine wpList_app_0 rfl (.tmp 41) (.tmp 42) 22 rfl wd.heap.size 27 i7 _ 5 48 (wd.heap.size) Tryd.underlying22 i7h i7z i7s i7b rfl (by decide) rfl O35.out l.length (l.flatMap stv) _ rfl (Sl.kept0 HI4.out.1 X35.out) ?c1 ?c2 ?c3 ?_)
                case c1 => unfold maxLen; omega
                case c2 => omega
                case c3 => exact X35.out.size
                intro v36 x36 ho hg hn
                have X36 := Lib.hid (gtrans X35.out hg)
                have y36 : x35.heap.size ≤ x36.heap.size := hg.size
                have O36 := Lib.hid ho
                have B36 := Lib.hid (gblock hg B35.out (by simp))
                have Z36 := Lib.hid (gblock hg Z35.out (by simp))
                have NE0 := Lib.hid (show ∀ b, v36.ownBlock = some b → b ≠ x1.heap.size from fun b hb => by rcases hn b hb with h | h <;> omega)
                have hkb := KB.of hg X35.out.size
                obtain ⟨A36, z36, rfl, _, _⟩ := own_shape O36.out
                have NE := Lib.hid (show ∀ b, Value.ownBlock (.slice A36 l.length z36) = some b → b ≠ x1.heap.size from NE0.out)
                clear NE0
                clear ho hg hn
                go_wp2_with fail
                refine ⟨hkb, ?_⟩
                clear hkb
                refine wpTr_one (by simp only [List.getElem?_toArray, List.getElem?_cons_succ, List.getElem?_cons_zero]; exact rfl) ?_
                go_wp2_with (at_builtin; refine wpList_app_k rfl (.tmp 43) (.tmp 45) 22 rfl wd.heap.size 27 i7 _ 5 48 Tryd.underlying22 i7h i7z i7s i7b rfl (by decide) _ l.length 1 (l.flatMap stv) (stv (⟨snm, skd, scl, stt, .slice As sdat.length cs, sdat⟩ : St)) rfl O36.out _ rfl (sl_row1 (x := (⟨snm, skd, scl, stt, .slice As sdat.length cs, sdat⟩ : St)) B36.out) ?c1 ?c2 ?c3 ?c4 ?_)
                case c1 => exact stv_one _ ⟨_, _, _, rfl⟩
                case c2 => unfold maxLen; omega
                case c3 => omega
                case c4 => exact X36.out.size
                intro v37 x37 ho hg
                have hkb := kb_own O36.out hg X36.out.size
                have y37 : x36.heap.size ≤ x37.heap.size := hg.size
                have X37 := Lib.hid (KB.gr (grefl wd none) (KB.trans (KB.of X36.out (Nat.le_refl _)) hkb) (Nat.le_refl _))
                have T37 := Lib.hid (show Sts x37 v37 (l ++ [(⟨snm, skd, scl, stt, .slice As sdat.length cs, sdat⟩ : St)]) from ⟨by rw [List.length_append, List.flatMap_append]; simpa using (FS.of ho).sl, fun y hy => by
                  rw [List.mem_append] at hy
                  rcases hy with hy | hy
                  · exact (HI4.out.2 y hy).kept X37.out
                  · rw [List.mem_singleton.1 hy]; exact HSM.out.kept X37.out⟩)
                have Z37 := Lib.hid (gblock hg Z36.out (fun e => NE.out _ e.symm rfl))
                obtain ⟨A37, z37, rfl, _, _⟩ := own_shape ho
                clear ho hg
                go_wp2_with fail
                refine ⟨hkb, ?_⟩
                clear hkb
                refine wpTr_one (by simp only [List.getElem?_toArray, List.getElem?_cons_succ, List.getElem?_cons_zero]; exact rfl) ?_
                go_wp2_with fail
                refine (find_s n c _ (l ++ [(⟨snm, skd, scl, stt, .slice As sdat.length cs, sdat⟩ : St)]) x37 T37.out (by simp; omega) HDm.out).mono ?_
                rintro e x38 ⟨A, z, rfl, hg, ho, hfn⟩
                have FN := Lib.hid hfn
                clear hfn
                have X38 := Lib.hid (gtrans X37.out hg)
                have y38 : x37.heap.size ≤ x38.heap.size := hg.size
                have F38 := Lib.hid ho
                have Z38 := Lib.hid (gblock hg Z37.out (by simp))
                generalize fndF n c (l ++ [(⟨snm, skd, scl, stt, .slice As sdat.length cs, sdat⟩ : St)]) = r2 at *
                unfold St.val St.at
                go_wp2_with fail
                refine ⟨KB.of hg X37.out.size, ?_⟩
                clear ho hg
                refine wpTr_quiet rfl ?_
                simp only [List.filterMap_cons, List.filterMap_nil, List.getElem?_toArray, List.getElem?_cons_succ, List.getElem?_cons_zero]
                show wpQuiet _ _ _ _ [_, _, _, _] _
                repeat (go_big_quiet_step (fail))
                refine wpQuiet_nil ?_
                obtain ⟨⟨m0, m1, m2, m3, m4⟩, f0, f1, f2, f3, f4⟩ := cells5 Z38.out
                have OG := Lib.hid (F38.out.kept (gset5_ x38 (x1.heap.size) (.string (fdSet r2).name) (.int .u16 ((fdSet r2).kind : Int)) (.int .u16 ((fdSet r2).cls : Int)) (.int .u32 ((fdSet r2).ttl : Int)) (.slice A (fdSet r2).data.length z)) (fun b hb => .inr (fun hq => by cases hb; have := FN.out _ hq; omega)))
                refine wpTr_one (by simp only [List.getElem?_toArray, List.getElem?_cons_succ, List.getElem?_cons_zero]; exact rfl) ?_
                go_wp2_with fail
                refine ⟨kb_set5 wd.heap.size x38 (x1.heap.size) _ _ _ _ _ HL.out, ?_⟩
                refine wpTr_quiet rfl ?_
                simp only [List.filterMap_cons, List.filterMap_nil, List.getElem?_toArray, List.getElem?_cons_succ, List.getElem?_cons_zero]
                show wpQuiet _ _ _ _ [_, _] _
                repeat (go_big_quiet_step (fail))
                refine wpQuiet_nil ?_
                refine wpTr_done ?_
                clear m0 m1 m2 m3 m4 f0 f1 f2 f3 f4
                go_wp2_with fail
                go_meet
                exact mr_mk (gtrans GD.out X38.out) Z38.out (Nat.le_trans GD.out.size HL.out) OG.out
          · go_wp2_with fail
            have hk := galloc (grefl wd none) (.cells #[.string snm, .int .u16 (skd : Int), .int .u16 (scl : Int), .int .u32 (stt : Int), .slice As sdat.length cs] 27)
            have X39 := Lib.hid (gtrans GW0.out hk)
            have y39 : wd.heap.size < (wd.alloc (.cells #[.string snm, .int .u16 (skd : Int), .int .u16 (scl : Int), .int .u32 (stt : Int), .slice As sdat.length cs] 27)).heap.size := blt (balloc wd _)
            have B39 := Lib.hid (balloc wd (.cells #[.string snm, .int .u16 (skd : Int), .int .u16 (scl : Int), .int .u32 (stt : Int), .slice As sdat.length cs] 27))
            refine ⟨KB.of hk GW0.out.size, ?_⟩
            generalize wd.alloc (.cells #[.string snm, .int .u16 (skd : Int), .int .u16 (scl : Int), .int .u32 (stt : Int), .slice As sdat.length cs] 27) = x39 at *
            clear hk
            refine wpTr_two (by simp only [List.getElem?_toArray, List.getElem?_cons_zero]; exact rfl) (by simp only [List.getElem?_toArray, List.getElem?_cons_succ, List.getElem?_cons_zero]; exact rfl) ?_ ?_
            · go_wp2_with fail
              have hk := galloc (grefl x39 none) (.cells #[] 27)
              have X40 := Lib.hid (gtrans X39.out hk)
              have y40 : x39.heap.size < (x39.alloc (.cells #[] 27)).heap.size := blt (balloc x39 _)
              have B40 := Lib.hid (gblock hk B39.out (by simp))
              have O40 := Lib.hid (own_none x39 wd.heap.size 27 5 X39.out.size)
              refine ⟨KB.of hk X39.out.size, ?_⟩
              generalize x39.alloc (.cells #[] 27) = x40 at *
              clear hk
              refine wpTr_two (by simp only [List.getElem?_toArray, List.getElem?_cons_succ, List.getElem?_cons_zero]; exact rfl) (by simp only [List.getElem?_toArray, List.getElem?_cons_succ, List.getElem?_cons_zero]; exact rfl) ?_ ?_
              · go_wp2_with (at_builtin; refine wpList_app_0 rfl (.tmp 41) (.tmp 42) 22 rfl wd.heap.size 27 i7 _ 5 48 (x39.heap.size) Tryd.underlying22 i7h i7z i7s i7b rfl (by decide) rfl O40.out l.length (l.flatMap stv) _ rfl (Sl.kept0 HI4.out.1 X40.out) ?c1 ?c2 ?c3 ?_)
                case c1 => unfold maxLen; omega
                case c2 => omega
                case c3 => exact X40.out.size
                intro v41 x41 ho hg hn
                have X41 := Lib.hid (gtrans X40.out hg)
                have y41 : x40.heap.size ≤ x41.heap.size := hg.size
                have O41 := Lib.hid ho
                have B41 := Lib.hid (gblock hg B40.out (by simp))
                have hkb := KB.of hg X40.out.size
                obtain ⟨A41, z41, rfl, _, _⟩ := own_shape O41.out
                clear ho hg hn
                go_wp2_with fail
                refine ⟨hkb, ?_⟩
                clear hkb
                refine wpTr_two (by simp only [List.getElem?_toArray, List.getElem?_cons_succ, List.getElem?_cons_zero]; exact rfl) (by simp only [List.getElem?_toArray, List.getElem?_cons_succ, List.getElem?_cons_zero]; exact rfl) ?_ ?_
                · go_wp2_with (at_builtin; refine wpList_app_k rfl (.tmp 43) (.tmp 45) 22 rfl wd.heap.size 27 i7 _ 5 48 Tryd.underlying22 i7h i7z i7s i7b rfl (by decide) _ l.length 1 (l.flatMap stv) (stv (⟨snm, skd, scl, stt, .slice As sdat.length cs, sdat⟩ : St)) rfl O41.out _ rfl (sl_row1 (x := (⟨snm, skd, scl, stt, .slice As sdat.length cs, sdat⟩ : St)) B41.out) ?c1 ?c2 ?c3 ?c4 ?_)
                  case c1 => exact stv_one _ ⟨_, _, _, rfl⟩
                  case c2 => unfold maxLen; omega
                  case c3 => omega
                  case c4 => exact X41.out.size
                  intro v42 x42 ho hg
                  have hkb := kb_own O41.out hg X41.out.size
                  have y42 : x41.heap.size ≤ x42.heap.size := hg.size
                  have X42 := Lib.hid (KB.gr (grefl wd none) (KB.trans (KB.of X41.out (Nat.le_refl _)) hkb) (Nat.le_refl _))
                  have T42 := Lib.hid (show Sts x42 v42 (l ++ [(⟨snm, skd, scl, stt, .slice As sdat.length cs, sdat⟩ : St)]) from ⟨by rw [List.length_append, List.flatMap_append]; simpa using (FS.of ho).sl, fun y hy => by
                    rw [List.mem_append] at hy
                    rcases hy with hy | hy
                    · exact (HI4.out.2 y hy).kept X42.out
                    · rw [List.mem_singleton.1 hy]; exact HSM.out.kept X42.out⟩)
                  obtain ⟨A42, z42, rfl, _, _⟩ := own_shape ho
                  clear ho hg
                  go_wp2_with fail
                  refine ⟨hkb, ?_⟩
                  clear hkb
                  refine wpTr_two (by simp only [List.getElem?_toArray, List.getElem?_cons_succ, List.getElem?_cons_zero]; exact rfl) (by simp only [List.getElem?_toArray, List.getElem?_cons_succ, List.getElem?_cons_zero]; exact rfl) ?_ ?_
                  · go_wp2_with fail
                    refine (find_s n c _ (l ++ [(⟨snm, skd, scl, stt, .slice As sdat.length cs, sdat⟩ : St)]) x42 T42.out (by simp; omega) HDm.out).mono ?_
                    rintro e x43 ⟨A, z, rfl, hg, ho, hfn⟩
                    have FN := Lib.hid hfn
                    clear hfn
                    have X43 := Lib.hid (gtrans X42.out hg)
                    have y43 : x42.heap.size ≤ x43.heap.size := hg.size
                    have F43 := Lib.hid ho
                    generalize fndF n c (l ++ [(⟨snm, skd, scl, stt, .slice As sdat.length cs, sdat⟩ : St)]) = r2 at *
                    unfold St.val St.at
                    go_wp2_with fail
                    refine ⟨KB.of hg X42.out.size, ?_⟩
                    clear ho hg
                    refine wpTr_quiet rfl ?_
                    simp only [List.filterMap_cons, List.filterMap_nil, List.getElem?_toArray, List.getElem?_cons_succ, List.getElem?_cons_zero]
                    show wpQuiet _ _ _ _ [_, _, _, _] _
                    repeat (go_big_quiet_step (fail))
                    refine wpQuiet_nil ?_
                    refine wpTr_one (by simp only [List.getElem?_toArray, List.getElem?_cons_succ, List.getElem?_cons_zero]; exact rfl) ?_
                    go_wp2_with fail
                    have hk := galloc (grefl x43 none) (.cells #[.string ⟨#[]⟩, .int .u16 0, .int .u16 0, .int .u32 0, .slice none 0 0] 27)
                    have X44 := Lib.hid (gtrans X43.out hk)
                    have y44 : x43.heap.size < (x43.alloc (.cells #[.string ⟨#[]⟩, .int .u16 0, .int .u16 0, .int .u32 0, .slice none 0 0] 27)).heap.size := blt (balloc x43 _)
                    have Z44 := Lib.hid (balloc x43 (.cells #[.string ⟨#[]⟩, .int .u16 0, .int .u16 0, .int .u32 0, .slice none 0 0] 27))
                    have HL := Lib.hid (show wd.heap.size ≤ x43.heap.size from X43.out.size)
                    have F44 := Lib.hid (F43.out.kept0 hk)
                    refine ⟨KB.of hk X43.out.size, ?_⟩
                    generalize x43.alloc (.cells #[.string ⟨#[]⟩, .int .u16 0, .int .u16 0, .int .u32 0, .slice none 0 0] 27) = x44 at *
                    clear hk
                    obtain ⟨⟨m0, m1, m2, m3, m4⟩, f0, f1, f2, f3, f4⟩ := cells5 Z44.out
                    have OG := Lib.hid (F44.out.kept (gset5_ x44 (x43.heap.size) (.string (fdSet r2).name) (.int .u16 ((fdSet r2).kind : Int)) (.int .u16 ((fdSet r2).cls : Int)) (.int .u32 ((fdSet r2).ttl : Int)) (.slice A (fdSet r2).data.length z)) (fun b hb => .inr (fun hq => by cases hb; have := FN.out _ hq; omega)))
                    refine wpTr_one (by simp only [List.getElem?_toArray, List.getElem?_cons_succ, List.getElem?_cons_zero]; exact rfl) ?_
                    go_wp2_with fail
                    refine ⟨kb_set5 wd.heap.size x44 (x43.heap.size) _ _ _ _ _ HL.out, ?_⟩
                    refine wpTr_quiet rfl ?_
                    simp only [List.filterMap_cons, List.filterMap_nil, List.getElem?_toArray, List.getElem?_cons_succ, List.getElem?_cons_zero]
                    show wpQuiet _ _ _ _ [_, _] _
                    repeat (go_big_quiet_step (fail))
                    refine wpQuiet_nil ?_
                    refine wpTr_done ?_
                    clear m0 m1 m2 m3 m4 f0 f1 f2 f3 f4
                    go_wp2_with fail
                    go_meet
                    exact mr_mk (gtrans GD.out X44.out) Z44.out (Nat.le_trans GD.out.size HL.out) OG.out
                  · go_wp2_with fail
                    have hk := galloc (grefl x42 none) (.cells #[.string ⟨#[]⟩, .int .u16 0, .int .u16 0, .int .u32 0, .slice none 0 0] 27)
                    have X45 := Lib.hid (gtrans X42.out hk)
                    have y45 : x42.heap.size < (x42.alloc (.cells #[.string ⟨#[]⟩, .int .u16 0, .int .u16 0, .int .u32 0, .slice none 0 0] 27)).heap.size := blt (balloc x42 _)
                    have Z45 := Lib.hid (balloc x42 (.cells #[.string ⟨#[]⟩, .int .u16 0, .int .u16 0, .int .u32 0, .slice none 0 0] 27))
                    have HL := Lib.hid (show wd.heap.size ≤ x42.heap.size from X42.out.size)
                    have T45 := Lib.hid (T42.out.kept hk)
                    refine ⟨KB.of hk X42.out.size, ?_⟩
                    generalize x42.alloc (.cells #[.string ⟨#[]⟩, .int .u16 0, .int .u16 0, .int .u32 0, .slice none 0 0] 27) = x45 at *
                    clear hk
                    refine wpTr_one (by simp only [List.getElem?_toArray, List.getElem?_cons_succ, List.getElem?_cons_zero]; exact rfl) ?_
                    go_wp2_with fail
                    refine (find_s n c _ (l ++ [(⟨snm, skd, scl, stt, .slice As sdat.length cs, sdat⟩ : St)]) x45 T45.out (by simp; omega) HDm.out).mono ?_
                    rintro e x46 ⟨A, z, rfl, hg, ho, hfn⟩
                    have FN := Lib.hid hfn
                    clear hfn
                    have X46 := Lib.hid (gtrans X45.out hg)
                    have y46 : x45.heap.size ≤ x46.heap.size := hg.size
                    have F46 := Lib.hid ho
                    have Z46 := Lib.hid (gblock hg Z45.out (by simp))
                    generalize fndF n c (l ++ [(⟨snm, skd, scl, stt, .slice As sdat.length cs, sdat⟩ : St)]) = r2 at *
                    unfold St.val St.at
                    go_wp2_with fail
                    refine ⟨KB.of hg X45.out.size, ?_⟩
                    clear ho hg
                    refine wpTr_quiet rfl ?_
                    simp only [List.filterMap_cons, List.filterMap_nil, List.getElem?_toArray, List.getElem?_cons_succ, List.getElem?_cons_zero]
                    show wpQuiet _ _ _ _ [_, _, _, _] _
                    repeat (go_big_quiet_step (fail))
                    refine wpQuiet_nil ?_
                    obtain ⟨⟨m0, m1, m2, m3, m4⟩, f0, f1, f2, f3, f4⟩ := cells5 Z46.out
                    have OG := Lib.hid (F46.out.kept (gset5_ x46 (x42.heap.size) (.string (fdSet r2).name) (.int .u16 ((fdSet r2).kind : Int)) (.int .u16 ((fdSet r2).cls : Int)) (.int .u32 ((fdSet r2).ttl : Int)) (.slice A (fdSet r2).data.length z)) (fun b hb => .inr (fun hq => by cases hb; have := FN.out _ hq; omega)))
                    refine wpTr_one (by simp only [List.getElem?_toArray, List.getElem?_cons_succ, List.getElem?_cons_zero]; exact rfl) ?_
                    go_wp2_with fail
                    refine ⟨kb_set5 wd.heap.size x46 (x42.heap.size) _ _ _ _ _ HL.out, ?_⟩
                    refine wpTr_quiet rfl ?_
                    simp only [List.filterMap_cons, List.filterMap_nil, List.getElem?_toArray, List.getElem?_cons_succ, List.getElem?_cons_zero]
                    show wpQuiet _ _ _ _ [_, _] _
                    repeat (go_big_quiet_step (fail))
                    refine wpQuiet_nil ?_
                    refine wpTr_done ?_
                    clear m0 m1 m2 m3 m4 f0 f1 f2 f3 f4
                    go_wp2_with fail
                    go_meet
                    exact mr_mk (gtrans GD.out X46.out) Z46.out (Nat.le_trans GD.out.size HL.out) OG.out
                · go_wp2_with fail
                  have hk := galloc (grefl x41 none) (.cells #[.string ⟨#[]⟩, .int .u16 0, .int .u16 0, .int .u32 0, .slice none 0 0] 27)
                  have X47 := Lib.hid (gtrans X41.out hk)
                  have y47 : x41.heap.size < (x41.alloc (.cells #[.string ⟨#[]⟩, .int .u16 0, .int .u16 0, .int .u32 0, .slice none 0 0] 27)).heap.size := blt (balloc x41 _)
                  have B47 := Lib.hid (gblock hk B41.out (by simp))
                  have O47 := Lib.hid (own_kept0 O41.out hk)
                  have NE := Lib.hid (show ∀ b, Value.ownBlock (.slice A41 l.length z41) = some b → b ≠ x41.heap.size from fun b hb => by have := (World.ownsRow.lt O41.out b hb).2; omega)
                  have Z47 := Lib.hid (balloc x41 (.cells #[.string ⟨#[]⟩, .int .u16 0, .int .u16 0, .int .u32 0, .slice none 0 0] 27))
                  have HL := Lib.hid (show wd.heap.size ≤ x41.heap.size from X41.out.size)
                  refine ⟨KB.of hk X41.out.size, ?_⟩
                  generalize x41.alloc (.cells #[.string ⟨#[]⟩, .int .u16 0, .int .u16 0, .int .u32 0, .slice none 0 0] 27) = x47 at *
                  clear hk
                  refine wpTr_one (by simp only [List.getElem?_toArray, List.getElem?_cons_succ, List.getElem?_cons_zero]; exact rfl) ?_
                  go_wp2_with (at_builtin; refine wpList_app_k rfl (.tmp 43) (.tmp 45) 22 rfl wd.heap.size 27 i7 _ 5 48 Tryd.underlying22 i7h i7z i7s i7b rfl (by decide) _ l.length 1 (l.flatMap stv) (stv (⟨snm, skd, scl, stt, .slice As sdat.length cs, sdat⟩ : St)) rfl O47.out _ rfl (sl_row1 (x := (⟨snm, skd, scl, stt, .slice As sdat.length cs, sdat⟩ : St)) B47.out) ?c1 ?c2 ?c3 ?c4 ?_)
                  case c1 => exact stv_one _ ⟨_, _, _, rfl⟩
                  case c2 => unfold maxLen; omega
                  case c3 => omega
                  case c4 => exact X47.out.size
                  intro v48 x48 ho hg
                  have hkb := kb_own O47.out hg X47.out.size
                  have y48 : x47.heap.size ≤ x48.heap.size := hg.size
                  have X48 := Lib.hid (KB.gr (grefl wd none) (KB.trans (KB.of X47.out (Nat.le_refl _)) hkb) (Nat.le_refl _))
                  have T48 := Lib.hid (show Sts x48 v48 (l ++ [(⟨snm, skd, scl, stt, .slice As sdat.length cs, sdat⟩ : St)]) from ⟨by rw [List.length_append, List.flatMap_append]; simpa using (FS.of ho).sl, fun y hy => by
                    rw [List.mem_append] at hy
                    rcases hy with hy | hy
                    · exact (HI4.out.2 y hy).kept X48.out
                    · rw [List.mem_singleton.1 hy]; exact HSM.out.kept X48.out⟩)
                  have Z48 := Lib.hid (gblock hg Z47.out (fun e => NE.out _ e.symm rfl))
                  obtain ⟨A48, z48, rfl, _, _⟩ := own_shape ho
                  clear ho hg
                  go_wp2_with fail
                  refine ⟨hkb, ?_⟩
                  clear hkb
                  refine wpTr_one (by simp only [List.getElem?_toArray, List.getElem?_cons_succ, List.getElem?_cons_zero]; exact rfl) ?_
                  go_wp2_with fail
                  refine (find_s n c _ (l ++ [(⟨snm, skd, scl, stt, .slice As sdat.length cs, sdat⟩ : St)]) x48 T48.out (by simp; omega) HDm.out).mono ?_
                  rintro e x49 ⟨A, z, rfl, hg, ho, hfn⟩
                  have FN := Lib.hid hfn
                  clear hfn
                  have X49 := Lib.hid (gtrans X48.out hg)
                  have y49 : x48.heap.size ≤ x49.heap.size := hg.size
                  have F49 := Lib.hid ho
                  have Z49 := Lib.hid (gblock hg Z48.out (by simp))
                  generalize fndF n c (l ++ [(⟨snm, skd, scl, stt, .slice As sdat.length cs, sdat⟩ : St)]) = r2 at *
                  unfold St.val St.at
                  go_wp2_with fail
                  refine ⟨KB.of hg X48.out.size, ?_⟩
                  clear ho hg
                  refine wpTr_quiet rfl ?_
                  simp only [List.filterMap_cons, List.filterMap_nil, List.getElem?_toArray, List.getElem?_cons_succ, List.getElem?_cons_zero]
                  show wpQuiet _ _ _ _ [_, _, _, _] _
                  repeat (go_big_quiet_step (fail))
                  refine wpQuiet_nil ?_
                  obtain ⟨⟨m0, m1, m2, m3, m4⟩, f0, f1, f2, f3, f4⟩ := cells5 Z49.out
                  have OG := Lib.hid (F49.out.kept (gset5_ x49 (x41.heap.size) (.string (fdSet r2).name) (.int .u16 ((fdSet r2).kind : Int)) (.int .u16 ((fdSet r2).cls : Int)) (.int .u32 ((fdSet r2).ttl : Int)) (.slice A (fdSet r2).data.length z)) (fun b hb => .inr (fun hq => by cases hb; have := FN.out _ hq; omega)))
                  refine wpTr_one (by simp only [List.getElem?_toArray, List.getElem?_cons_succ, List.getElem?_cons_zero]; exact rfl) ?_
                  go_wp2_with fail
                  refine ⟨kb_set5 wd.heap.size x49 (x41.heap.size) _ _ _ _ _ HL.out, ?_⟩
                  refine wpTr_quiet rfl ?_
                  simp only [List.filterMap_cons, List.filterMap_nil, List.getElem?_toArray, List.getElem?_cons_succ, List.getElem?_cons_zero]
                  show wpQuiet _ _ _ _ [_, _] _
                  repeat (go_big_quiet_step (fail))
                  refine wpQuiet_nil ?_
                  refine wpTr_done ?_
                  clear m0 m1 m2 m3 m4 f0 f1 f2 f3 f4
                  go_wp2_with fail
                  go_meet
                  exact mr_mk (gtrans GD.out X49.out) Z49.out (Nat.le_trans GD.out.size HL.out) OG.out
              · go_wp2_with fail
                have hk := galloc (grefl x40 none) (.cells #[.string ⟨#[]⟩, .int .u16 0, .int .u16 0, .int .u32 0, .slice none 0 0] 27)
                have X50 := Lib.hid (gtrans X40.out hk)
                have y50 : x40.heap.size < (x40.alloc (.cells #[.string ⟨#[]⟩, .int .u16 0, .int .u16 0, .int .u32 0, .slice none 0 0] 27)).heap.size := blt (balloc x40 _)
                have B50 := Lib.hid (gblock hk B40.out (by simp))
                have O50 := Lib.hid (own_kept0 O40.out hk)
                have Z50 := Lib.hid (balloc x40 (.cells #[.string ⟨#[]⟩, .int .u16 0, .int .u16 0, .int .u32 0, .slice none 0 0] 27))
                have HL := Lib.hid (show wd.heap.size ≤ x40.heap.size from X40.out.size)
                refine ⟨KB.of hk X40.out.size, ?_⟩
                generalize x40.alloc (.cells #[.string ⟨#[]⟩, .int .u16 0, .int .u16 0, .int .u32 0, .slice none 0 0] 27) = x50 at *
                clear hk
                refine wpTr_one (by simp only [List.getElem?_toArray, List.getElem?_cons_succ, List.getElem?_cons_zero]; exact rfl) ?_
                go_wp2_with (at_builtin; refine wpList_app_0 rfl (.tmp 41) (.tmp 42) 22 rfl wd.heap.size 27 i7 _ 5 48 (x39.heap.size) Tryd.underlying22 i7h i7z i7s i7b rfl (by decide) rfl O50.out l.length (l.flatMap stv) _ rfl (Sl.kept0 HI4.out.1 X50.out) ?c1 ?c2 ?c3 ?_)
                case c1 => unfold maxLen; omega
                case c2 => omega
                case c3 => exact X50.out.size
                intro v51 x51 ho hg hn
                have X51 := Lib.hid (gtrans X50.out hg)
                have y51 : x50.heap.size ≤ x51.heap.size := hg.size
                have O51 := Lib.hid ho
                have B51 := Lib.hid (gblock hg B50.out (by simp))
                have Z51 := Lib.hid (gblock hg Z50.out (by simp))
                have NE0 := Lib.hid (show ∀ b, v51.ownBlock = some b → b ≠ x40.heap.size from fun b hb => by rcases hn b hb with h | h <;> omega)
                have hkb := KB.of hg X50.out.size
                obtain ⟨A51, z51, rfl, _, _⟩ := own_shape O51.out
                have NE := Lib.hid (show ∀ b, Value.ownBlock (.slice A51 l.length z51) = some b → b ≠ x40.heap.size from NE0.out)
                clear NE0
                clear ho hg hn
                go_wp2_with fail
                refine ⟨hkb, ?_⟩
                clear hkb
                refine wpTr_one (by simp only [List.getElem?_toArray, List.getElem?_cons_succ, List.getElem?_cons_zero]; exact rfl) ?_
                go_wp2_with (at_builtin; refine wpList_app_k rfl (.tmp 43) (.tmp 45) 22 rfl wd.heap.size 27 i7 _ 5 48 Tryd.underlying22 i7h i7z i7s i7b rfl (by decide) _ l.length 1 (l.flatMap stv) (stv (⟨snm, skd, scl, stt, .slice As sdat.length cs, sdat⟩ : St)) rfl O51.out _ rfl (sl_row1 (x := (⟨snm, skd, scl, stt, .slice As sdat.length cs, sdat⟩ : St)) B51.out) ?c1 ?c2 ?c3 ?c4 ?_)
                case c1 => exact stv_one _ ⟨_, _, _, rfl⟩
                case c2 => unfold maxLen; omega
                case c3 => omega
                case c4 => exact X51.out.size
                intro v52 x52 ho hg
                have hkb := kb_own O51.out hg X51.out.size
                have y52 : x51.heap.size ≤ x52.heap.size := hg.size
                have X52 := Lib.hid (KB.gr (grefl wd none) (KB.trans (KB.of X51.out (Nat.le_refl _)) hkb) (Nat.le_refl _))
                have T52 := Lib.hid (show Sts x52 v52 (l ++ [(⟨snm, skd, scl, stt, .slice As sdat.length cs, sdat⟩ : St)]) from ⟨by rw [List.length_append, List.flatMap_append]; simpa using (FS.of ho).sl, fun y hy => by
                  rw [List.mem_append] at hy
                  rcases hy with hy | hy
                  · exact (HI4.out.2 y hy).kept X52.out
                  · rw [List.mem_singleton.1 hy]; exact HSM.out.kept X52.out⟩)
                have Z52 := Lib.hid (gblock hg Z51.out (fun e => NE.out _ e.symm rfl))
                obtain ⟨A52, z52, rfl, _, _⟩ := own_shape ho
                clear ho hg
                go_wp2_with fail
                refine ⟨hkb, ?_⟩
                clear hkb
                refine wpTr_one (by simp only [List.getElem?_toArray, List.getElem?_cons_succ, List.getElem?_cons_zero]; exact rfl) ?_
                go_wp2_with fail
                refine (find_s n c _ (l ++ [(⟨snm, skd, scl, stt, .slice As sdat.length cs, sdat⟩ : St)]) x52 T52.out (by simp; omega) HDm.out).mono ?_
                rintro e x53 ⟨A, z, rfl, hg, ho, hfn⟩
                have FN := Lib.hid hfn
                clear hfn
                have X53 := Lib.hid (gtrans X52.out hg)
                have y53 : x52.heap.size ≤ x53.heap.size := hg.size
                have F53 := Lib.hid ho
                have Z53 := Lib.hid (gblock hg Z52.out (by simp))
                generalize fndF n c (l ++ [(⟨snm, skd, scl, stt, .slice As sdat.length cs, sdat⟩ : St)]) = r2 at *
                unfold St.val St.at
                go_wp2_with fail
                refine ⟨KB.of hg X52.out.size, ?_⟩
                clear ho hg
                refine wpTr_quiet rfl ?_
                simp only [List.filterMap_cons, List.filterMap_nil, List.getElem?_toArray, List.getElem?_cons_succ, List.getElem?_cons_zero]
                show wpQuiet _ _ _ _ [_, _, _, _] _
                repeat (go_big_quiet_step (fail))
                refine wpQuiet_nil ?_
                obtain ⟨⟨m0, m1, m2, m3, m4⟩, f0, f1, f2, f3, f4⟩ := cells5 Z53.out
                have OG := Lib.hid (F53.out.kept (gset5_ x53 (x40.heap.size) (.string (fdSet r2).name) (.int .u16 ((fdSet r2).kind : Int)) (.int .u16 ((fdSet r2).cls : Int)) (.int .u32 ((fdSet r2).ttl : Int)) (.slice A (fdSet r2).data.length z)) (fun b hb => .inr (fun hq => by cases hb; have := FN.out _ hq; omega)))
                refine wpTr_one (by simp only [List.getElem?_toArray, List.getElem?_cons_succ, List.getElem?_cons_zero]; exact rfl) ?_
                go_wp2_with fail
                refine ⟨kb_set5 wd.heap.size x53 (x40.heap.size) _ _ _ _ _ HL.out, ?_⟩
                refine wpTr_quiet rfl ?_
                simp only [List.filterMap_cons, List.filterMap_nil, List.getElem?_toArray, List.getElem?_cons_succ, List.getElem?_cons_zero]
                show wpQuiet _ _ _ _ [_, _] _
                repeat (go_big_quiet_step (fail))
                refine wpQuiet_nil ?_
                refine wpTr_done ?_
                clear m0 m1 m2 m3 m4 f0 f1 f2 f3 f4
                go_wp2_with fail
                go_meet
                exact mr_mk (gtrans GD.out X53.out) Z53.out (Nat.le_trans GD.out.size HL.out) OG.out
            · go_wp2_with fail
              have hk := galloc (grefl x39 none) (.cells #[.string ⟨#[]⟩, .int .u16 0, .int .u16 0, .int .u32 0, .slice none 0 0] 27)
              have X54 := Lib.hid (gtrans X39.out hk)
              have y54 : x39.heap.size < (x39.alloc (.cells #[.string ⟨#[]⟩, .int .u16 0, .int .u16 0, .int .u32 0, .slice none 0 0] 27)).heap.size := blt (balloc x39 _)
              have B54 := Lib.hid (gblock hk B39.out (by simp))
              have Z54 := Lib.hid (balloc x39 (.cells #[.string ⟨#[]⟩, .int .u16 0, .int .u16 0, .int .u32 0, .slice none 0 0] 27))
              have HL := Lib.hid (show wd.heap.size ≤ x39.heap.size from X39.out.size)
              refine ⟨KB.of hk X39.out.size, ?_⟩
              generalize x39.alloc (.cells #[.string ⟨#[]⟩, .int .u16 0, .int .u16 0, .int .u32 0, .slice none 0 0] 27) = x54 at *
              clear hk
              refine wpTr_one (by simp only [List.getElem?_toArray, List.getElem?_cons_zero]; exact rfl) ?_
              go_wp2_with fail
              have hk := galloc (grefl x54 none) (.cells #[] 27)
              have X55 := Lib.hid (gtrans X54.out hk)
              have y55 : x54.heap.size < (x54.alloc (.cells #[] 27)).heap.size := blt (balloc x54 _)
              have B55 := Lib.hid (gblock hk B54.out (by simp))
              have Z55 := Lib.hid (gblock hk Z54.out (by simp))
              have O55 := Lib.hid (own_none x54 wd.heap.size 27 5 X54.out.size)
              refine ⟨KB.of hk X54.out.size, ?_⟩
              generalize x54.alloc (.cells #[] 27) = x55 at *
              clear hk
              refine wpTr_one (by simp only [List.getElem?_toArray, List.getElem?_cons_succ, List.getElem?_cons_zero]; exact rfl) ?_
              go_wp2_with (at_builtin; refine wpList_app_0 rfl (.tmp 41) (.tmp 42) 22 rfl wd.heap.size 27 i7 _ 5 48 (x54.heap.size) Tryd.underlying22 i7h i7z i7s i7b rfl (by decide) rfl O55.out l.length (l.flatMap stv) _ rfl (Sl.kept0 HI4.out.1 X55.out) ?c1 ?c2 ?c3 ?_)
              case c1 => unfold maxLen; omega
              case c2 => omega
              case c3 => exact X55.out.size
              intro v56 x56 ho hg hn
              have X56 := Lib.hid (gtrans X55.out hg)
              have y56 : x55.heap.size ≤ x56.heap.size := hg.size
              have O56 := Lib.hid ho
              have B56 := Lib.hid (gblock hg B55.out (by simp))
              have Z56 := Lib.hid (gblock hg Z55.out (by simp))
              have NE0 := Lib.hid (show ∀ b, v56.ownBlock = some b → b ≠ x39.heap.size from fun b hb => by rcases hn b hb with h | h <;> omega)
              have hkb := KB.of hg X55.out.size
              obtain ⟨A56, z56, rfl, _, _⟩ := own_shape O56.out
              have NE := Lib.hid (show ∀ b, Value.ownBlock (.slice A56 l.length z56) = some b → b ≠ x39.heap.size from NE0.out)
              clear NE0
              clear ho hg hn
              go_wp2_with fail
              refine ⟨hkb, ?_⟩
              clear hkb
              refine wpTr_one (by simp only [List.getElem?_toArray, List.getElem?_cons_succ, List.getElem?_cons_zero]; exact rfl) ?_
              go_wp2_with (at_builtin; refine wpList_app_k rfl (.tmp 43) (.tmp 45) 22 rfl wd.heap.size 27 i7 _ 5 48 Tryd.underlying22 i7h i7z i7s i7b rfl (by decide) _ l.length 1 (l.flatMap stv) (stv (⟨snm, skd, scl, stt, .slice As sdat.length cs, sdat⟩ : St)) rfl O56.out _ rfl (sl_row1 (x := (⟨snm, skd, scl, stt, .slice As sdat.length cs, sdat⟩ : St)) B56.out) ?c1 ?c2 ?c3 ?c4 ?_)
              case c1 => exact stv_one _ ⟨_, _, _, rfl⟩
              case c2 => unfold maxLen; omega
              case c3 => omega
              case c4 => exact X56.out.size
              intro v57 x57 ho hg
              have hkb := kb_own O56.out hg X56.out.size
              have y57 : x56.heap.size ≤ x57.heap.size := hg.size
              have X57 := Lib.hid (KB.gr (grefl wd none) (KB.trans (KB.of X56.out (Nat.le_refl _)) hkb) (Nat.le_refl _))
              have T57 := Lib.hid (show Sts x57 v57 (l ++ [(⟨snm, skd, scl, stt, .slice As sdat.length cs, sdat⟩ : St)]) from ⟨by rw [List.length_append, List.flatMap_append]; simpa using (FS.of ho).sl, fun y hy => by
                rw [List.mem_append] at hy
                rcases hy with hy | hy
                · exact (HI4.out.2 y hy).kept X57.out
                · rw [List.mem_singleton.1 hy]; exact HSM.out.kept X57.out⟩)
              have Z57 := Lib.hid (gblock hg Z56.out (fun e => NE.out _ e.symm rfl))
              obtain ⟨A57, z57, rfl, _, _⟩ := own_shape ho
              clear ho hg
              go_wp2_with fail
              refine ⟨hkb, ?_⟩
              clear hkb
              refine wpTr_one (by simp only [List.getElem?_toArray, List.getElem?_cons_succ, List.getElem?_cons_zero]; exact rfl) ?_
              go_wp2_with fail
              refine (find_s n c _ (l ++ [(⟨snm, skd, scl, stt, .slice As sdat.length cs, sdat⟩ : St)]) x57 T57.out (by simp; omega) HDm.out).mono ?_
              rintro e x58 ⟨A, z, rfl, hg, ho, hfn⟩
              have FN := Lib.hid hfn
              clear hfn
              have X58 := Lib.hid (gtrans X57.out hg)
              have y58 : x57.heap.size ≤ x58.heap.size := hg.size
              have F58 := Lib.hid ho
              have Z58 := Lib.hid (gblock hg Z57.out (by simp))
              generalize fndF n c (l ++ [(⟨snm, skd, scl, stt, .slice As sdat.length cs, sdat⟩ : St)]) = r2 at *
              unfold St.val St.at
              go_wp2_with fail
              refine ⟨KB.of hg X57.out.size, ?_⟩
              clear ho hg
              refine wpTr_quiet rfl ?_
              simp only [List.filterMap_cons, List.filterMap_nil, List.getElem?_toArray, List.getElem?_cons_succ, List.getElem?_cons_zero]
              show wpQuiet _ _ _ _ [_, _, _, _] _
              repeat (go_big_quiet_step (fail))
              refine wpQuiet_nil ?_
              obtain ⟨⟨m0, m1, m2, m3, m4⟩, f0, f1, f2, f3, f4⟩ := cells5 Z58.out
              have OG := Lib.hid (F58.out.kept (gset5_ x58 (x39.heap.size) (.string (fdSet r2).name) (.int .u16 ((fdSet r2).kind : Int)) (.int .u16 ((fdSet r2).cls : Int)) (.int .u32 ((fdSet r2).ttl : Int)) (.slice A (fdSet r2).data.length z)) (fun b hb => .inr (fun hq => by cases hb; have := FN.out _ hq; omega)))
              refine wpTr_one (by simp only [List.getElem?_toArray, List.getElem?_cons_succ, List.getElem?_cons_zero]; exact rfl) ?_
              go_wp2_with fail
              refine ⟨kb_set5 wd.heap.size x58 (x39.heap.size) _ _ _ _ _ HL.out, ?_⟩
              refine wpTr_quiet rfl ?_
              simp only [List.filterMap_cons, List.filterMap_nil, List.getElem?_toArray, List.getElem?_cons_succ, List.getElem?_cons_zero]
              show wpQuiet _ _ _ _ [_, _] _
              repeat (go_big_quiet_step (fail))
              refine wpQuiet_nil ?_
              refine wpTr_done ?_
              clear m0 m1 m2 m3 m4 f0 f1 f2 f3 f4
              go_wp2_with fail
              go_meet
              exact mr_mk (gtrans GD.out X58.out) Z58.out (Nat.le_trans GD.out.size HL.out) OG.out
          · go_wp2_with fail
            have hk := galloc (grefl wd none) (.cells #[.string ⟨#[]⟩, .int .u16 0, .int .u16 0, .int .u32 0, .slice none 0 0] 27)
            have X59 := Lib.hid (gtrans GW0.out hk)
            have y59 : wd.heap.size < (wd.alloc (.cells #[.string ⟨#[]⟩, .int .u16 0, .int .u16 0, .int .u32 0, .slice none 0 0] 27)).heap.size := blt (balloc wd _)
            have Z59 := Lib.hid (balloc wd (.cells #[.string ⟨#[]⟩, .int .u16 0, .int .u16 0, .int .u32 0, .slice none 0 0] 27))
            have HL := Lib.hid (show wd.heap.size ≤ wd.heap.size from GW0.out.size)
            refine ⟨KB.of hk GW0.out.size, ?_⟩
            generalize wd.alloc (.cells #[.string ⟨#[]⟩, .int .u16 0, .int .u16 0, .int .u32 0, .slice none 0 0] 27) = x59 at *
            clear hk
            refine wpTr_two (by simp only [List.getElem?_toArray, List.getElem?_cons_zero]; exact rfl) (by simp only [List.getElem?_toArray, List.getElem?_cons_succ, List.getElem?_cons_zero]; exact rfl) ?_ ?_
            · go_wp2_with fail
              have hk := galloc (grefl x59 none) (.cells #[] 27)
              have X60 := Lib.hid (gtrans X59.out hk)
              have y60 : x59.heap.size < (x59.alloc (.cells #[] 27)).heap.size := blt (balloc x59 _)
              have Z60 := Lib.hid (gblock hk Z59.out (by simp))
              have O60 := Lib.hid (own_none x59 wd.heap.size 27 5 X59.out.size)
              refine ⟨KB.of hk X59.out.size, ?_⟩
              generalize x59.alloc (.cells #[] 27) = x60 at *
              clear hk
              refine wpTr_two (by simp only [List.getElem?_toArray, List.getElem?_cons_succ, List.getElem?_cons_zero]; exact rfl) (by simp only [List.getElem?_toArray, List.getElem?_cons_succ, List.getElem?_cons_zero]; exact rfl) ?_ ?_
              · go_wp2_with (at_builtin; refine wpList_app_0 rfl (.tmp 41) (.tmp 42) 22 rfl wd.heap.size 27 i7 _ 5 48 (x59.heap.size) Tryd.underlying22 i7h i7z i7s i7b rfl (by decide) rfl O60.out l.length (l.flatMap stv) _ rfl (Sl.kept0 HI4.out.1 X60.out) ?c1 ?c2 ?c3 ?_)
                case c1 => unfold maxLen; omega
                case c2 => omega
                case c3 => exact X60.out.size
                intro v61 x61 ho hg hn
                have X61 := Lib.hid (gtrans X60.out hg)
                have y61 : x60.heap.size ≤ x61.heap.size := hg.size
                have O61 := Lib.hid ho
                have Z61 := Lib.hid (gblock hg Z60.out (by simp))
                have NE0 := Lib.hid (show ∀ b, v61.ownBlock = some b → b ≠ wd.heap.size from fun b hb => by rcases hn b hb with h | h <;> omega)
                have hkb := KB.of hg X60.out.size
                obtain ⟨A61, z61, rfl, _, _⟩ := own_shape O61.out
                have NE := Lib.hid (show ∀ b, Value.ownBlock (.slice A61 l.length z61) = some b → b ≠ wd.heap.size from NE0.out)
                clear NE0
                clear ho hg hn
                go_wp2_with fail
                refine ⟨hkb, ?_⟩
                clear hkb
                refine wpTr_one (by simp only [List.getElem?_toArray, List.getElem?_cons_succ, List.getElem?_cons_zero]; exact rfl) ?_
                go_wp2_with fail
                have hk := galloc (grefl x61 none) (.cells #[.string snm, .int .u16 (skd : Int), .int .u16 (scl : Int), .int .u32 (stt : Int), .slice As sdat.length cs] 27)
                have X62 := Lib.hid (gtrans X61.out hk)
                have y62 : x61.heap.size < (x61.alloc (.cells #[.string snm, .int .u16 (skd : Int), .int .u16 (scl : Int), .int .u32 (stt : Int), .slice As sdat.length cs] 27)).heap.size := blt (balloc x61 _)
                have Z62 := Lib.hid (gblock hk Z61.out (by simp))
                have O62 := Lib.hid (own_kept0 O61.out hk)
                have B62 := Lib.hid (balloc x61 (.cells #[.string snm, .int .u16 (skd : Int), .int .u16 (scl : Int), .int .u32 (stt : Int), .slice As sdat.length cs] 27))
                refine ⟨KB.of hk X61.out.size, ?_⟩
                generalize x61.alloc (.cells #[.string snm, .int .u16 (skd : Int), .int .u16 (scl : Int), .int .u32 (stt : Int), .slice As sdat.length cs] 27) = x62 at *
                clear hk
                refine wpTr_one (by simp only [List.getElem?_toArray, List.getElem?_cons_succ, List.getElem?_cons_zero]; exact rfl) ?_
                go_wp2_with (at_builtin; refine wpList_app_k rfl (.tmp 43) (.tmp 45) 22 rfl wd.heap.size 27 i7 _ 5 48 Tryd.underlying22 i7h i7z i7s i7b rfl (by decide) _ l.length 1 (l.flatMap stv) (stv (⟨snm, skd, scl, stt, .slice As sdat.length cs, sdat⟩ : St)) rfl O62.out _ rfl (sl_row1 (x := (⟨snm, skd, scl, stt, .slice As sdat.length cs, sdat⟩ : St)) B62.out) ?c1 ?c2 ?c3 ?c4 ?_)
                case c1 => exact stv_one _ ⟨_, _, _, rfl⟩
                case c2 => unfold maxLen; omega
                case c3 => omega
                case c4 => exact X62.out.size
                intro v63 x63 ho hg
                have hkb := kb_own O62.out hg X62.out.size
                have y63 : x62.heap.size ≤ x63.heap.size := hg.size
                have X63 := Lib.hid (KB.gr (grefl wd none) (KB.trans (KB.of X62.out (Nat.le_refl _)) hkb) (Nat.le_refl _))
                have T63 := Lib.hid (show Sts x63 v63 (l ++ [(⟨snm, skd, scl, stt, .slice As sdat.length cs, sdat⟩ : St)]) from ⟨by rw [List.length_append, List.flatMap_append]; simpa using (FS.of ho).sl, fun y hy => by
                  rw [List.mem_append] at hy
                  rcases hy with hy | hy
                  · exact (HI4.out.2 y hy).kept X63.out
                  · rw [List.mem_singleton.1 hy]; exact HSM.out.kept X63.out⟩)
                have Z63 := Lib.hid (gblock hg Z62.out (fun e => NE.out _ e.symm rfl))
                obtain ⟨A63, z63, rfl, _, _⟩ := own_shape ho
                clear ho hg
                go_wp2_with fail
                refine ⟨hkb, ?_⟩
                clear hkb
                refine wpTr_one (by simp only [List.getElem?_toArray, List.getElem?_cons_succ, List.getElem?_cons_zero]; exact rfl) ?_
                go_wp2_with fail
                refine (find_s n c _ (l ++ [(⟨snm, skd, scl, stt, .slice As sdat.length cs, sdat⟩ : St)]) x63 T63.out (by simp; omega) HDm.out).mono ?_
                rintro e x64 ⟨A, z, rfl, hg, ho, hfn⟩
                have FN := Lib.hid hfn
                clear hfn
                have X64 := Lib.hid (gtrans X63.out hg)
                have y64 : x63.heap.size ≤ x64.heap.size := hg.size
                have F64 := Lib.hid ho
                have Z64 := Lib.hid (gblock hg Z63.out (by simp))
                generalize fndF n c (l ++ [(⟨snm, skd, scl, stt, .slice As sdat.length cs, sdat⟩ : St)]) = r2 at *
                unfold St.val St.at
                go_wp2_with fail
                refine ⟨KB.of hg X63.out.size, ?_⟩
                clear ho hg
                refine wpTr_quiet rfl ?_
                simp only [List.filterMap_cons, List.filterMap_nil, List.getElem?_toArray, List.getElem?_cons_succ, List.getElem?_cons_zero]
                show wpQuiet _ _ _ _ [_, _, _, _] _
                repeat (go_big_quiet_step (fail))
                refine wpQuiet_nil ?_
                obtain ⟨⟨m0, m1, m2, m3, m4⟩, f0, f1, f2, f3, f4⟩ := cells5 Z64.out
                have OG := Lib.hid (F64.out.kept (gset5_ x64 (wd.heap.size) (.string (fdSet r2).name) (.int .u16 ((fdSet r2).kind : Int)) (.int .u16 ((fdSet r2).cls : Int)) (.int .u32 ((fdSet r2).ttl : Int)) (.slice A (fdSet r2).data.length z)) (fun b hb => .inr (fun hq => by cases hb; have := FN.out _ hq; omega)))
                refine wpTr_one (by simp only [List.getElem?_toArray, List.getElem?_cons_succ, List.getElem?_cons_zero]; exact rfl) ?_
                go_wp2_with fail
                refine ⟨kb_set5 wd.heap.size x64 (wd.heap.size) _ _ _ _ _ HL.out, ?_⟩
                refine wpTr_quiet rfl ?_
                simp only [List.filterMap_cons, List.filterMap_nil, List.getElem?_toArray, List.getElem?_cons_succ, List.getElem?_cons_zero]
                show wpQuiet _ _ _ _ [_, _] _
                repeat (go_big_quiet_step (fail))
                refine wpQuiet_nil ?_
                refine wpTr_done ?_
                clear m0 m1 m2 m3 m4 f0 f1 f2 f3 f4
                go_wp2_with fail
                go_meet
                exact mr_mk (gtrans GD.out X64.out) Z64.out (Nat.le_trans GD.out.size HL.out) OG.out
              · go_wp2_with fail
                have hk := galloc (grefl x60 none) (.cells #[.string snm, .int .u16 (skd : Int), .int .u16 (scl : Int), .int .u32 (stt : Int), .slice As sdat.length cs] 27)
                have X65 := Lib.hid (gtrans X60.out hk)
                have y65 : x60.heap.size < (x60.alloc (.cells #[.string snm, .int .u16 (skd : Int), .int .u16 (scl : Int), .int .u32 (stt : Int), .slice As sdat.length cs] 27)).heap.size := blt (balloc x60 _)
                have Z65 := Lib.hid (gblock hk Z60.out (by simp))
                have O65 := Lib.hid (own_kept0 O60.out hk)
                have B65 := Lib.hid (balloc x60 (.cells #[.string snm, .int .u16 (skd : Int), .int .u16 (scl : Int), .int .u32 (stt : Int), .slice As sdat.length cs] 27))
                refine ⟨KB.of hk X60.out.size, ?_⟩
                generalize x60.alloc (.cells #[.string snm, .int .u16 (skd : Int), .int .u16 (scl : Int), .int .u32 (stt : Int), .slice As sdat.length cs] 27) = x65 at *
                clear hk
                refine wpTr_one (by simp only [List.getElem?_toArray, List.getElem?_cons_succ, List.getElem?_cons_zero]; exact rfl) ?_
                go_wp2_with (at_builtin; refine wpList_app_0 rfl (.tmp 41) (.tmp 42) 22 rfl wd.heap.size 27 i7 _ 5 48 (x59.heap.size) Tryd.underlying22 i7h i7z i7s i7b rfl (by decide) rfl O65.out l.length (l.flatMap stv) _ rfl (Sl.kept0 HI4.out.1 X65.out) ?c1 ?c2 ?c3 ?_)
                case c1 => unfold maxLen; omega
                case c2 => omega
                case c3 => exact X65.out.size
                intro v66 x66 ho hg hn
                have X66 := Lib.hid (gtrans X65.out hg)
                have y66 : x65.heap.size ≤ x66.heap.size := hg.size
                have O66 := Lib.hid ho
                have B66 := Lib.hid (gblock hg B65.out (by simp))
                have Z66 := Lib.hid (gblock hg Z65.out (by simp))
                have NE0 := Lib.hid (show ∀ b, v66.ownBlock = some b → b ≠ wd.heap.size from fun b hb => by rcases hn b hb with h | h <;> omega)
                have hkb := KB.of hg X65.out.size
                obtain ⟨A66, z66, rfl, _, _⟩ := own_shape O66.out
                have NE := Lib.hid (show ∀ b, Value.ownBlock (.slice A66 l.length z66) = some b → b ≠ wd.heap.size from NE0.out)
                clear NE0
                clear ho hg hn
                go_wp2_with fail
                refine ⟨hkb, ?_⟩
                clear hkb
                refine wpTr_one (by simp only [List.getElem?_toArray, List.getElem?_cons_succ, List.getElem?_cons_zero]; exact rfl) ?_
                go_wp2_with (at_builtin; refine wpList_app_k rfl (.tmp 43) (.tmp 45) 22 rfl wd.heap.size 27 i7 _ 5 48 Tryd.underlying22 i7h i7z i7s i7b rfl (by decide) _ l.length 1 (l.flatMap stv) (stv (⟨snm, skd, scl, stt, .slice As sdat.length cs, sdat⟩ : St)) rfl O66.out _ rfl (sl_row1 (x := (⟨snm, skd, scl, stt, .slice As sdat.length cs, sdat⟩ : St)) B66.out) ?c1 ?c2 ?c3 ?c4 ?_)
                case c1 => exact stv_one _ ⟨_, _, _, rfl⟩
                case c2 => unfold maxLen; omega
                case c3 => omega
                case c4 => exact X66.out.size
                intro v67 x67 ho hg
                have hkb := kb_own O66.out hg X66.out.size
                have y67 : x66.heap.size ≤ x67.heap.size := hg.size
                have X67 := Lib.hid (KB.gr (grefl wd none) (KB.trans (KB.of X66.out (Nat.le_refl _)) hkb) (Nat.le_refl _))
                have T67 := Lib.hid (show Sts x67 v67 (l ++ [(⟨snm, skd, scl, stt, .slice As sdat.length cs, sdat⟩ : St)]) from ⟨by rw [List.length_append, List.flatMap_append]; simpa using (FS.of ho).sl, fun y hy => by
                  rw [List.mem_append] at hy
                  rcases hy with hy | hy
                  · exact (HI4.out.2 y hy).kept X67.out
                  · rw [List.mem_singleton.1 hy]; exact HSM.out.kept X67.out⟩)
                have Z67 := Lib.hid (gblock hg Z66.out (fun e => NE.out _ e.symm rfl))
                obtain ⟨A67, z67, rfl, _, _⟩ := own_shape ho
                clear ho hg
                go_wp2_with fail
                refine ⟨hkb, ?_⟩
                clear hkb
                refine wpTr_one (by simp only [List.getElem?_toArray, List.getElem?_cons_succ, List.getElem?_cons_zero]; exact rfl) ?_
                go_wp2_with fail
                refine (find_s n c _ (l ++ [(⟨snm, skd, scl, stt, .slice As sdat.length cs, sdat⟩ : St)]) x67 T67.out (by simp; omega) HDm.out).mono ?_
                rintro e x68 ⟨A, z, rfl, hg, ho, hfn⟩
                have FN := Lib.hid hfn
                clear hfn
                have X68 := Lib.hid (gtrans X67.out hg)
                have y68 : x67.heap.size ≤ x68.heap.size := hg.size
                have F68 := Lib.hid ho
                have Z68 := Lib.hid (gblock hg Z67.out (by simp))
                generalize fndF n c (l ++ [(⟨snm, skd, scl, stt, .slice As sdat.length cs, sdat⟩ : St)]) = r2 at *
                unfold St.val St.at
                go_wp2_with fail
                refine ⟨KB.of hg X67.out.size, ?_⟩
                clear ho hg
                refine wpTr_quiet rfl ?_
                simp only [List.filterMap_cons, List.filterMap_nil, List.getElem?_toArray, List.getElem?_cons_succ, List.getElem?_cons_zero]
                show wpQuiet _ _ _ _ [_, _, _, _] _
                repeat (go_big_quiet_step (fail))
                refine wpQuiet_nil ?_
                obtain ⟨⟨m0, m1, m2, m3, m4⟩, f0, f1, f2, f3, f4⟩ := cells5 Z68.out
                have OG := Lib.hid (F68.out.kept (gset5_ x68 (wd.heap.size) (.string (fdSet r2).name) (.int .u16 ((fdSet r2).kind : Int)) (.int .u16 ((fdSet r2).cls : Int)) (.int .u32 ((fdSet r2).ttl : Int)) (.slice A (fdSet r2).data.length z)) (fun b hb => .inr (fun hq => by cases hb; have := FN.out _ hq; omega)))
                refine wpTr_one (by simp only [List.getElem?_toArray, List.getElem?_cons_succ, List.getElem?_cons_zero]; exact rfl) ?_
                go_wp2_with fail
                refine ⟨kb_set5 wd.heap.size x68 (wd.heap.size) _ _ _ _ _ HL.out, ?_⟩
                refine wpTr_quiet rfl ?_
                simp only [List.filterMap_cons, List.filterMap_nil, List.getElem?_toArray, List.getElem?_cons_succ, List.getElem?_cons_zero]
                show wpQuiet _ _ _ _ [_, _] _
                repeat (go_big_quiet_step (fail))
                refine wpQuiet_nil ?_
                refine wpTr_done ?_
                clear m0 m1 m2 m3 m4 f0 f1 f2 f3 f4
                go_wp2_with fail
                go_meet
                exact mr_mk (gtrans GD.out X68.out) Z68.out (Nat.le_trans GD.out.size HL.out) OG.out
            · go_wp2_with fail
              have hk := galloc (grefl x59 none) (.cells #[.string snm, .int .u16 (skd : Int), .int .u16 (scl : Int), .int .u32 (stt : Int), .slice As sdat.length cs] 27)
              have X69 := Lib.hid (gtrans X59.out hk)
              have y69 : x59.heap.size < (x59.alloc (.cells #[.string snm, .int .u16 (skd : Int), .int .u16 (scl : Int), .int .u32 (stt : Int), .slice As sdat.length cs] 27)).heap.size := blt (balloc x59 _)
              have Z69 := Lib.hid (gblock hk Z59.out (by simp))
              have B69 := Lib.hid (balloc x59 (.cells #[.string snm, .int .u16 (skd : Int), .int .u16 (scl : Int), .int .u32 (stt : Int), .slice As sdat.length cs] 27))
              refine ⟨KB.of hk X59.out.size, ?_⟩
              generalize x59.alloc (.cells #[.string snm, .int .u16 (skd : Int), .int .u16 (scl : Int), .int .u32 (stt : Int), .slice As sdat.length cs] 27) = x69 at *
              clear hk
              refine wpTr_one (by simp only [List.getElem?_toArray, List.getElem?_cons_zero]; exact rfl) ?_
              go_wp2_with fail
              have hk := galloc (grefl x69 none) (.cells #[] 27)
              have X70 := Lib.hid (gtrans X69.out hk)
              have y70 : x69.heap.size < (x69.alloc (.cells #[] 27)).heap.size := blt (balloc x69 _)
              have B70 := Lib.hid (gblock hk B69.out (by simp))
              have Z70 := Lib.hid (gblock hk Z69.out (by simp))
              have O70 := Lib.hid (own_none x69 wd.heap.size 27 5 X69.out.size)
              refine ⟨KB.of hk X69.out.size, ?_⟩
              generalize x69.alloc (.cells #[] 27) = x70 at *
              clear hk
              refine wpTr_one (by simp only [List.getElem?_toArray, List.getElem?_cons_succ, List.getElem?_cons_zero]; exact rfl) ?_
              go_wp2_with (at_builtin; refine wpList_app_0 rfl (.tmp 41) (.tmp 42) 22 rfl wd.heap.size 27 i7 _ 5 48 (x69.heap.size) Tryd.underlying22 i7h i7z i7s i7b rfl (by decide) rfl O70.out l.length (l.flatMap stv) _ rfl (Sl.kept0 HI4.out.1 X70.out) ?c1 ?c2 ?c3 ?_)
              case c1 => unfold maxLen; omega
              case c2 => omega
              case c3 => exact X70.out.size
              intro v71 x71 ho hg hn
              have X71 := Lib.hid (gtrans X70.out hg)
              have y71 : x70.heap.size ≤ x71.heap.size := hg.size
              have O71 := Lib.hid ho
              have B71 := Lib.hid (gblock hg B70.out (by simp))
              have Z71 := Lib.hid (gblock hg Z70.out (by simp))
              have NE0 := Lib.hid (show ∀ b, v71.ownBlock = some b → b ≠ wd.heap.size from fun b hb => by rcases hn b hb with h | h <;> omega)
              have hkb := KB.of hg X70.out.size
              obtain ⟨A71, z71, rfl, _, _⟩ := own_shape O71.out
              have NE := Lib.hid (show ∀ b, Value.ownBlock (.slice A71 l.length z71) = some b → b ≠ wd.heap.size from NE0.out)
              clear NE0
              clear ho hg hn
              go_wp2_with fail
              refine ⟨hkb, ?_⟩
              clear hkb
              refine wpTr_one (by simp only [List.getElem?_toArray, List.getElem?_cons_succ, List.getElem?_cons_zero]; exact rfl) ?_
              go_wp2_with (at_builtin; refine wpList_app_k rfl (.tmp 43) (.tmp 45) 22 rfl wd.heap.size 27 i7 _ 5 48 Tryd.underlying22 i7h i7z i7s i7b rfl (by decide) _ l.length 1 (l.flatMap stv) (stv (⟨snm, skd, scl, stt, .slice As sdat.length cs, sdat⟩ : St)) rfl O71.out _ rfl (sl_row1 (x := (⟨snm, skd, scl, stt, .slice As sdat.length cs, sdat⟩ : St)) B71.out) ?c1 ?c2 ?c3 ?c4 ?_)
              case c1 => exact stv_one _ ⟨_, _, _, rfl⟩
              case c2 => unfold maxLen; omega
              case c3 => omega
              case c4 => exact X71.out.size
              intro v72 x72 ho hg
              have hkb := kb_own O71.out hg X71.out.size
              have y72 : x71.heap.size ≤ x72.heap.size := hg.size
              have X72 := Lib.hid (KB.gr (grefl wd none) (KB.trans (KB.of X71.out (Nat.le_refl _)) hkb) (Nat.le_refl _))
              have T72 := Lib.hid (show Sts x72 v72 (l ++ [(⟨snm, skd, scl, stt, .slice As sdat.length cs, sdat⟩ : St)]) from ⟨by rw [List.length_append, List.flatMap_append]; simpa using (FS.of ho).sl, fun y hy => by
                rw [List.mem_append] at hy
                rcases hy with hy | hy
                · exact (HI4.out.2 y hy).kept X72.out
                · rw [List.mem_singleton.1 hy]; exact HSM.out.kept X72.out⟩)
              have Z72 := Lib.hid (gblock hg Z71.out (fun e => NE.out _ e.symm rfl))
              obtain ⟨A72, z72, rfl, _, _⟩ := own_shape ho
              clear ho hg
              go_wp2_with fail
              refine ⟨hkb, ?_⟩
              clear hkb
              refine wpTr_one (by simp only [List.getElem?_toArray, List.getElem?_cons_succ, List.getElem?_cons_zero]; exact rfl) ?_
              go_wp2_with fail
              refine (find_s n c _ (l ++ [(⟨snm, skd, scl, stt, .slice As sdat.length cs, sdat⟩ : St)]) x72 T72.out (by simp; omega) HDm.out).mono ?_
              rintro e x73 ⟨A, z, rfl, hg, ho, hfn⟩
              have FN := Lib.hid hfn
              clear hfn
              have X73 := Lib.hid (gtrans X72.out hg)
              have y73 : x72.heap.size ≤ x73.heap.size := hg.size
              have F73 := Lib.hid ho
              have Z73 := Lib.hid (gblock hg Z72.out (by simp))
              generalize fndF n c (l ++ [(⟨snm, skd, scl, stt, .slice As sdat.length cs, sdat⟩ : St)]) = r2 at *
              unfold St.val St.at
              go_wp2_with fail
              refine ⟨KB.of hg X72.out.size, ?_⟩
              clear ho hg
              refine wpTr_quiet rfl ?_
              simp only [List.filterMap_cons, List.filterMap_nil, List.getElem?_toArray, List.getElem?_cons_succ, List.getElem?_cons_zero]
              show wpQuiet _ _ _ _ [_, _, _, _] _
              repeat (go_big_quiet_step (fail))
              refine wpQuiet_nil ?_
              obtain ⟨⟨m0, m1, m2, m3, m4⟩, f0, f1, f2, f3, f4⟩ := cells5 Z73.out
              have OG := Lib.hid (F73.out.kept (gset5_ x73 (wd.heap.size) (.string (fdSet r2).name) (.int .u16 ((fdSet r2).kind : Int)) (.int .u16 ((fdSet r2).cls : Int)) (.int .u32 ((fdSet r2).ttl : Int)) (.slice A (fdSet r2).data.length z)) (fun b hb => .inr (fun hq => by cases hb; have := FN.out _ hq; omega)))
              refine wpTr_one (by simp only [List.getElem?_toArray, List.getElem?_cons_succ, List.getElem?_cons_zero]; exact rfl) ?_
              go_wp2_with fail
              refine ⟨kb_set5 wd.heap.size x73 (wd.heap.size) _ _ _ _ _ HL.out, ?_⟩
              refine wpTr_quiet rfl ?_
              simp only [List.filterMap_cons, List.filterMap_nil, List.getElem?_toArray, List.getElem?_cons_succ, List.getElem?_cons_zero]
              show wpQuiet _ _ _ _ [_, _] _
              repeat (go_big_quiet_step (fail))
              refine wpQuiet_nil ?_
              refine wpTr_done ?_
              clear m0 m1 m2 m3 m4 f0 f1 f2 f3 f4
              go_wp2_with fail
              go_meet
              exact mr_mk (gtrans GD.out X73.out) Z73.out (Nat.le_trans GD.out.size HL.out) OG.out
        case rest =>
          obtain ⟨hg, kT, A7, z7, rfl, rfl, rfl, hb, ho⟩ := hcut
          have HQ := Lib.hid hg
          have B7 := Lib.hid hb
          have O7 := Lib.hid ho
          clear hg hb ho
          have GC := Lib.hid (gtrans G5.out HQ.out)
          have B9 := Lib.hid (gblock HQ.out R1C.out (by simp))
          have BMc := Lib.hid (gblock HQ.out BS5.out (by simp))
          have O9 := Lib.hid (O5.out.kept0 HQ.out)
          have OSc := Lib.hid (HS0.out.kept GC.out)
          clear HQ R1C BS5 O5
          have HMn := Lib.hid (show (⟨snm, skd, scl, stt, .slice As sdat.length cs, sdat⟩ : St).name.size ≤ 1000000 by have := HSq.out.1; simp only at this ⊢; omega)
          have HIn := Lib.hid (show ∀ d, innB n c (⟨snm, skd, scl, stt, .slice As sdat.length cs, sdat⟩ : St) d = (fitB n c (⟨snm, skd, scl, stt, .slice As sdat.length cs, sdat⟩ : St) && decide (d < (nlb snm : Int))) from fun d => rfl)
          have hr1 := HD.out
          generalize hbI : (bI n c l l.length).2 = dd at *
          have HBI := Lib.hid hbI
          clear hbI
          cases hin : innB n c (⟨snm, skd, scl, stt, .slice As sdat.length cs, sdat⟩ : St) dd with
          | true =>
            have HQ2 := Lib.hid (HY.out hin)
            rw [HIn.out] at hin
            simp only [Bool.and_eq_true, decide_eq_true_eq] at hin
            have hfit := Lib.hid hin.1
            have hlt := hin.2
            clear hin HY HN HIn
            cases r1 with
            | bad =>
              clear hr1 hlt
              by_cases h1 : sdat.length = 1
              · have HR2 := Lib.hid (show fndF n c (l ++ [(⟨snm, skd, scl, stt, .slice As sdat.length cs, sdat⟩ : St)]) = .got (⟨snm, skd, scl, stt, .slice As sdat.length cs, sdat⟩ : St) by rw [HQ2.out]; exact if_pos h1)
                clear h1
                rw [HR2.out] at B7 O7 ⊢
                simp only [fdis, fder]
                obtain ⟨⟨a0, a1, a2, a3, a4⟩, _, _, _, _, _⟩ := cells5 B7.out
                obtain ⟨⟨b0, b1, b2, b3, b4⟩, _, _, _, _, _⟩ := cells5 BMc.out
                have HF := Lib.hid (rfits_any n c (⟨snm, skd, scl, stt, .slice As sdat.length cs, sdat⟩ : St))
                rw [hfit.out] at HF
                go_wp2_with fail
                clear a0 a1 a2 a3 a4 b0 b1 b2 b3 b4
                refine (psame_at2 (⟨snm, skd, scl, stt, .slice As sdat.length cs, sdat⟩ : St) _ (.slice As sdat.length cs) _ O7.out OSc.out (by show sdat.length ≤ 1000000; have := HSq.out.2.1; simp only at this; omega)).mono ?_
                rintro e wy ⟨rfl, hg⟩
                have g9 := Lib.hid (gtrans GC.out hg)
                have B7_9 := Lib.hid (gblock hg B7.out (by simp))
                have B9_9 := Lib.hid (gblock hg B9.out (by simp))
                have BM_9 := Lib.hid (gblock hg BMc.out (by simp))
                have O7_9 := Lib.hid (O7.out.kept0 hg)
                have O9_9 := Lib.hid (O9.out.kept0 hg)
                have OS_9 := Lib.hid (OSc.out.kept hg)
                obtain ⟨⟨b0, b1, b2, b3, b4⟩, _, _, _, _, _⟩ := cells5 BM_9.out
                clear hg
                go_wp2_with fail
                clear b0 b1 b2 b3 b4
                refine (HF.out _ (by omega) HMn.out).mono ?_
                rintro e wz ⟨rfl, hg⟩
                have GY := Lib.hid (gtrans g9.out hg)
                clear hg
                go_wp2_with fail
                go_ret
                exact ⟨rfl, GY.out⟩
              · have HR2 := Lib.hid (show fndF n c (l ++ [(⟨snm, skd, scl, stt, .slice As sdat.length cs, sdat⟩ : St)]) = .bad by rw [HQ2.out]; exact if_neg h1)
                clear h1
                rw [HR2.out] at B7 O7 ⊢
                simp only [fdis, fder]
                go_wp2_with fail
                go_ret
                exact ⟨rfl, GC.out⟩
            | non =>
              clear hr1 hlt
              have HZs := Lib.hid (show (fdSet Fd.non).data.length ≤ 1000000 from Nat.zero_le _)
              by_cases h1 : sdat.length = 1
              · have HR2 := Lib.hid (show fndF n c (l ++ [(⟨snm, skd, scl, stt, .slice As sdat.length cs, sdat⟩ : St)]) = .got (⟨snm, skd, scl, stt, .slice As sdat.length cs, sdat⟩ : St) by rw [HQ2.out]; exact if_pos h1)
                have H1 := Lib.hid h1
                clear h1
                rw [HR2.out] at B7 O7 ⊢
                simp only [fdis, fder]
                go_wp2_with fail
                have b0 : ∀ g : Gr wc.drew, g.w.cell? ⟨kM, 0, none⟩ = some (.string snm) := Gr.cell (bcellAt BMc.out 0)
                have b1 : ∀ g : Gr wc.drew, g.w.cell? ⟨kM, 1, none⟩ = some (.int .u16 (skd : Int)) := Gr.cell (bcellAt BMc.out 1)
                have b2 : ∀ g : Gr wc.drew, g.w.cell? ⟨kM, 2, none⟩ = some (.int .u16 (scl : Int)) := Gr.cell (bcellAt BMc.out 2)
                have b3 : ∀ g : Gr wc.drew, g.w.cell? ⟨kM, 3, none⟩ = some (.int .u32 (stt : Int)) := Gr.cell (bcellAt BMc.out 3)
                have b4 : ∀ g : Gr wc.drew, g.w.cell? ⟨kM, 4, none⟩ = some (.slice As sdat.length cs) := Gr.cell (bcellAt BMc.out 4)
                refine wp_region_segs [(true, [0, 1, 2]), (false, [3]), (true, [4, 5, 6, 7, 8, 9, 11, 12]), (false, [10]), (false, [13]), (true, [14, 15, 16])] (by kernel_rfl) (by kernel_rfl) ?_
                refine wpSegs_quiet rfl ?_
                simp only [List.filterMap_cons, List.filterMap_nil, List.getElem?_toArray, List.getElem?_cons_succ, List.getElem?_cons_zero]
                show wpQuiet _ _ _ _ [_, _, _] _
                repeat (go_big_quiet_step (fail))
                refine wpQuiet_nil ?_
                clear b0 b1 b2 b3 b4
                have hd := gdrew (grefl wc none)
                have g10 := Lib.hid (gtrans GC.out hd)
                have B7_10 := Lib.hid (gblock hd B7.out (by simp))
                have B9_10 := Lib.hid (gblock hd B9.out (by simp))
                have BM_10 := Lib.hid (gblock hd BMc.out (by simp))
                have O7_10 := Lib.hid (O7.out.kept0 hd)
                have O9_10 := Lib.hid (O9.out.kept0 hd)
                have OS_10 := Lib.hid (OSc.out.kept hd)
                clear hd
                generalize wc.drew = wd at *
                have HF := Lib.hid (rfits_any n c (⟨snm, skd, scl, stt, .slice As sdat.length cs, sdat⟩ : St))
                rw [hfit.out] at HF
                refine wpSegs_one (by simp only [List.getElem?_toArray, List.getElem?_cons_succ, List.getElem?_cons_zero]; exact rfl) ?_
                go_wp2_with fail
                refine (HF.out _ (by omega) HMn.out).mono ?_
                rintro e we ⟨rfl, hg⟩
                have g11 := Lib.hid (gtrans g10.out hg)
                have B7_11 := Lib.hid (gblock hg B7_10.out (by simp))
                have B9_11 := Lib.hid (gblock hg B9_10.out (by simp))
                have BM_11 := Lib.hid (gblock hg BM_10.out (by simp))
                have O7_11 := Lib.hid (O7_10.out.kept0 hg)
                have O9_11 := Lib.hid (O9_10.out.kept0 hg)
                have OS_11 := Lib.hid (OS_10.out.kept hg)
                go_wp2_with fail
                refine ⟨hg, ?_⟩
                clear hg HF
                refine wpSegs_quiet rfl ?_
                simp only [List.filterMap_cons, List.filterMap_nil, List.getElem?_toArray, List.getElem?_cons_succ, List.getElem?_cons_zero]
                show wpQuiet _ _ _ _ [_, _, _, _, _, _, _, _] _
                repeat (go_big_quiet_step (fail))
                refine wpQuiet_nil ?_
                refine wpSegs_one (by simp only [List.getElem?_toArray, List.getElem?_cons_succ, List.getElem?_cons_zero]; exact rfl) ?_
                go_wp2_with fail
                refine ⟨grefl _ _, ?_⟩
                refine wpSegs_one (by simp only [List.getElem?_toArray, List.getElem?_cons_succ, List.getElem?_cons_zero]; exact rfl) ?_
                go_wp2_with fail
                refine ⟨grefl _ _, ?_⟩
                refine wpSegs_quiet rfl ?_
                simp only [List.filterMap_cons, List.filterMap_nil, List.getElem?_toArray, List.getElem?_cons_succ, List.getElem?_cons_zero]
                show wpQuiet _ _ _ _ [_, _, _] _
                repeat (go_big_quiet_step (fail))
                refine wpQuiet_nil ?_
                refine wpSegs_done ?_
                have k1 : ((sdat.length : Int) != 1) = false := by have := H1.out; simp; omega
                obtain ⟨⟨a0, a1, a2, a3, a4⟩, _, _, _, _, _⟩ := cells5 B7_11.out
                obtain ⟨⟨b0, b1, b2, b3, b4⟩, _, _, _, _, _⟩ := cells5 BM_11.out
                go_wp2_with fail
                clear a0 a1 a2 a3 a4 b0 b1 b2 b3 b4
                refine (psame_at2 (⟨snm, skd, scl, stt, .slice As sdat.length cs, sdat⟩ : St) _ (.slice As sdat.length cs) _ O7_11.out OS_11.out (by show sdat.length ≤ 1000000; have := HSq.out.2.1; simp only at this; omega)).mono ?_
                rintro e wz ⟨rfl, hg⟩
                have GY := Lib.hid (gtrans g11.out hg)
                clear hg
                go_wp2_with fail
                go_ret
                exact ⟨rfl, GY.out⟩
              · have HR2 := Lib.hid (show fndF n c (l ++ [(⟨snm, skd, scl, stt, .slice As sdat.length cs, sdat⟩ : St)]) = .bad by rw [HQ2.out]; exact if_neg h1)
                have H1 := Lib.hid h1
                clear h1
                rw [HR2.out] at B7 O7 ⊢
                simp only [fdis, fder]
                go_wp2_with fail
                have b0 : ∀ g : Gr wc.drew, g.w.cell? ⟨kM, 0, none⟩ = some (.string snm) := Gr.cell (bcellAt BMc.out 0)
                have b1 : ∀ g : Gr wc.drew, g.w.cell? ⟨kM, 1, none⟩ = some (.int .u16 (skd : Int)) := Gr.cell (bcellAt BMc.out 1)
                have b2 : ∀ g : Gr wc.drew, g.w.cell? ⟨kM, 2, none⟩ = some (.int .u16 (scl : Int)) := Gr.cell (bcellAt BMc.out 2)
                have b3 : ∀ g : Gr wc.drew, g.w.cell? ⟨kM, 3, none⟩ = some (.int .u32 (stt : Int)) := Gr.cell (bcellAt BMc.out 3)
                have b4 : ∀ g : Gr wc.drew, g.w.cell? ⟨kM, 4, none⟩ = some (.slice As sdat.length cs) := Gr.cell (bcellAt BMc.out 4)
                refine wp_region_segs [(true, [0, 1, 2]), (false, [3]), (true, [4, 5, 6, 7, 8, 9, 11, 12]), (false, [10]), (false, [13]), (true, [14, 15, 16])] (by kernel_rfl) (by kernel_rfl) ?_
                refine wpSegs_quiet rfl ?_
                simp only [List.filterMap_cons, List.filterMap_nil, List.getElem?_toArray, List.getElem?_cons_succ, List.getElem?_cons_zero]
                show wpQuiet _ _ _ _ [_, _, _] _
                repeat (go_big_quiet_step (fail))
                refine wpQuiet_nil ?_
                clear b0 b1 b2 b3 b4
                have hd := gdrew (grefl wc none)
                have g10 := Lib.hid (gtrans GC.out hd)
                have B7_10 := Lib.hid (gblock hd B7.out (by simp))
                have B9_10 := Lib.hid (gblock hd B9.out (by simp))
                have BM_10 := Lib.hid (gblock hd BMc.out (by simp))
                have O7_10 := Lib.hid (O7.out.kept0 hd)
                have O9_10 := Lib.hid (O9.out.kept0 hd)
                have OS_10 := Lib.hid (OSc.out.kept hd)
                clear hd
                generalize wc.drew = wd at *
                have HF := Lib.hid (rfits_any n c (⟨snm, skd, scl, stt, .slice As sdat.length cs, sdat⟩ : St))
                rw [hfit.out] at HF
                refine wpSegs_one (by simp only [List.getElem?_toArray, List.getElem?_cons_succ, List.getElem?_cons_zero]; exact rfl) ?_
                go_wp2_with fail
                refine (HF.out _ (by omega) HMn.out).mono ?_
                rintro e we ⟨rfl, hg⟩
                have g11 := Lib.hid (gtrans g10.out hg)
                have B7_11 := Lib.hid (gblock hg B7_10.out (by simp))
                have B9_11 := Lib.hid (gblock hg B9_10.out (by simp))
                have BM_11 := Lib.hid (gblock hg BM_10.out (by simp))
                have O7_11 := Lib.hid (O7_10.out.kept0 hg)
                have O9_11 := Lib.hid (O9_10.out.kept0 hg)
                have OS_11 := Lib.hid (OS_10.out.kept hg)
                go_wp2_with fail
                refine ⟨hg, ?_⟩
                clear hg HF
                refine wpSegs_quiet rfl ?_
                simp only [List.filterMap_cons, List.filterMap_nil, List.getElem?_toArray, List.getElem?_cons_succ, List.getElem?_cons_zero]
                show wpQuiet _ _ _ _ [_, _, _, _, _, _, _, _] _
                repeat (go_big_quiet_step (fail))
                refine wpQuiet_nil ?_
                refine wpSegs_one (by simp only [List.getElem?_toArray, List.getElem?_cons_succ, List.getElem?_cons_zero]; exact rfl) ?_
                go_wp2_with fail
                refine ⟨grefl _ _, ?_⟩
                refine wpSegs_one (by simp only [List.getElem?_toArray, List.getElem?_cons_succ, List.getElem?_cons_zero]; exact rfl) ?_
                go_wp2_with fail
                refine ⟨grefl _ _, ?_⟩
                refine wpSegs_quiet rfl ?_
                simp only [List.filterMap_cons, List.filterMap_nil, List.getElem?_toArray, List.getElem?_cons_succ, List.getElem?_cons_zero]
                show wpQuiet _ _ _ _ [_, _, _] _
                repeat (go_big_quiet_step (fail))
                refine wpQuiet_nil ?_
                refine wpSegs_done ?_
                obtain ⟨⟨m0, m1, m2, m3, m4⟩, _, _, _, _, _⟩ := cells5 BM_11.out
                have k1 : ((sdat.length : Int) != 1) = true := by have := H1.out; simp; omega
                go_wp2_with fail
                go_ret
                exact ⟨rfl, g11.out⟩
            | got x =>
              have hdx := hr1.2 x rfl
              clear hr1
              have hlx : nlb x.name < nlb snm := by omega
              clear hdx hlt
              have HLb0 := Lib.hid (show decide ((nlb (fdSet (Fd.got x)).name : Int) < (nlb snm : Int)) = true from decide_eq_true (by show (nlb x.name : Int) < (nlb snm : Int); omega))
              have HLb1 := Lib.hid (show decide (nlb (fdSet (Fd.got x)).name < nlb snm) = true from decide_eq_true (by show nlb x.name < nlb snm; omega))
              clear hlx
              by_cases h1 : sdat.length = 1
              · have HR2 := Lib.hid (show fndF n c (l ++ [(⟨snm, skd, scl, stt, .slice As sdat.length cs, sdat⟩ : St)]) = .got (⟨snm, skd, scl, stt, .slice As sdat.length cs, sdat⟩ : St) by rw [HQ2.out]; exact if_pos h1)
                have H1 := Lib.hid h1
                clear h1
                rw [HR2.out] at B7 O7 ⊢
                simp only [fdis, fder]
                go_wp2_with fail
                have b0 : ∀ g : Gr wc.drew, g.w.cell? ⟨kM, 0, none⟩ = some (.string snm) := Gr.cell (bcellAt BMc.out 0)
                have b1 : ∀ g : Gr wc.drew, g.w.cell? ⟨kM, 1, none⟩ = some (.int .u16 (skd : Int)) := Gr.cell (bcellAt BMc.out 1)
                have b2 : ∀ g : Gr wc.drew, g.w.cell? ⟨kM, 2, none⟩ = some (.int .u16 (scl : Int)) := Gr.cell (bcellAt BMc.out 2)
                have b3 : ∀ g : Gr wc.drew, g.w.cell? ⟨kM, 3, none⟩ = some (.int .u32 (stt : Int)) := Gr.cell (bcellAt BMc.out 3)
                have b4 : ∀ g : Gr wc.drew, g.w.cell? ⟨kM, 4, none⟩ = some (.slice As sdat.length cs) := Gr.cell (bcellAt BMc.out 4)
                refine wp_region_segs [(true, [0, 1, 2]), (false, [3]), (true, [4, 5, 6, 7, 8, 9, 11, 12]), (false, [10]), (false, [13]), (true, [14, 15, 16])] (by kernel_rfl) (by kernel_rfl) ?_
                refine wpSegs_quiet rfl ?_
                simp only [List.filterMap_cons, List.filterMap_nil, List.getElem?_toArray, List.getElem?_cons_succ, List.getElem?_cons_zero]
                show wpQuiet _ _ _ _ [_, _, _] _
                repeat (go_big_quiet_step (fail))
                refine wpQuiet_nil ?_
                clear b0 b1 b2 b3 b4
                have hd := gdrew (grefl wc none)
                have g1 := Lib.hid (gtrans GC.out hd)
                have B7_1 := Lib.hid (gblock hd B7.out (by simp))
                have B9_1 := Lib.hid (gblock hd B9.out (by simp))
                have BM_1 := Lib.hid (gblock hd BMc.out (by simp))
                have O7_1 := Lib.hid (O7.out.kept0 hd)
                have O9_1 := Lib.hid (O9.out.kept0 hd)
                have OS_1 := Lib.hid (OSc.out.kept hd)
                clear hd
                generalize wc.drew = wd at *
                have HF := Lib.hid (rfits_any n c (⟨snm, skd, scl, stt, .slice As sdat.length cs, sdat⟩ : St))
                rw [hfit.out] at HF
                refine wpSegs_one (by simp only [List.getElem?_toArray, List.getElem?_cons_succ, List.getElem?_cons_zero]; exact rfl) ?_
                go_wp2_with fail
                refine (HF.out _ (by omega) HMn.out).mono ?_
                rintro e we ⟨rfl, hg⟩
                have g2 := Lib.hid (gtrans g1.out hg)
                have B7_2 := Lib.hid (gblock hg B7_1.out (by simp))
                have B9_2 := Lib.hid (gblock hg B9_1.out (by simp))
                have BM_2 := Lib.hid (gblock hg BM_1.out (by simp))
                have O7_2 := Lib.hid (O7_1.out.kept0 hg)
                have O9_2 := Lib.hid (O9_1.out.kept0 hg)
                have OS_2 := Lib.hid (OS_1.out.kept hg)
                go_wp2_with fail
                refine ⟨hg, ?_⟩
                clear hg HF
                have b0 : ∀ g : Gr we, g.w.cell? ⟨kM, 0, none⟩ = some (.string snm) := Gr.cell (bcellAt BM_2.out 0)
                have a0 : ∀ g : Gr we, g.w.cell? ⟨k9, 0, none⟩ = some (.string (fdSet (Fd.got x)).name) := Gr.cell (bcellAt B9_2.out 0)
                refine wpSegs_quiet rfl ?_
                simp only [List.filterMap_cons, List.filterMap_nil, List.getElem?_toArray, List.getElem?_cons_succ, List.getElem?_cons_zero]
                show wpQuiet _ _ _ _ [_, _, _, _, _, _, _, _] _
                repeat (go_big_quiet_step (fail))
                refine wpQuiet_nil ?_
                clear a0 b0
                refine wpSegs_one (by simp only [List.getElem?_toArray, List.getElem?_cons_succ, List.getElem?_cons_zero]; exact rfl) ?_
                go_wp2_with fail
                refine (lblabels_any snm _).mono ?_
                rintro e wf ⟨rfl, hg⟩
                have g3 := Lib.hid (gtrans g2.out hg)
                have B7_3 := Lib.hid (gblock hg B7_2.out (by simp))
                have B9_3 := Lib.hid (gblock hg B9_2.out (by simp))
                have BM_3 := Lib.hid (gblock hg BM_2.out (by simp))
                have O7_3 := Lib.hid (O7_2.out.kept0 hg)
                have O9_3 := Lib.hid (O9_2.out.kept0 hg)
                have OS_3 := Lib.hid (OS_2.out.kept hg)
                go_wp2_with fail
                refine ⟨hg, ?_⟩
                clear hg
                refine wpSegs_one (by simp only [List.getElem?_toArray, List.getElem?_cons_succ, List.getElem?_cons_zero]; exact rfl) ?_
                go_wp2_with fail
                refine (lblabels_any (fdSet (Fd.got x)).name _).mono ?_
                rintro e wg ⟨rfl, hg⟩
                have g4 := Lib.hid (gtrans g3.out hg)
                have B7_4 := Lib.hid (gblock hg B7_3.out (by simp))
                have B9_4 := Lib.hid (gblock hg B9_3.out (by simp))
                have BM_4 := Lib.hid (gblock hg BM_3.out (by simp))
                have O7_4 := Lib.hid (O7_3.out.kept0 hg)
                have O9_4 := Lib.hid (O9_3.out.kept0 hg)
                have OS_4 := Lib.hid (OS_3.out.kept hg)
                go_wp2_with fail
                refine ⟨hg, ?_⟩
                clear hg
                have q0 := HLb0.out
                have q1 := HLb1.out
                refine wpSegs_quiet rfl ?_
                simp only [List.filterMap_cons, List.filterMap_nil, List.getElem?_toArray, List.getElem?_cons_succ, List.getElem?_cons_zero]
                show wpQuiet _ _ _ _ [_, _, _] _
                repeat (go_big_quiet_step (fail))
                refine wpQuiet_nil ?_
                clear q0 q1
                refine wpSegs_done ?_
                have k1 : ((sdat.length : Int) != 1) = false := by have := H1.out; simp; omega
                obtain ⟨⟨a0, a1, a2, a3, a4⟩, _, _, _, _, _⟩ := cells5 B7_4.out
                obtain ⟨⟨b0, b1, b2, b3, b4⟩, _, _, _, _, _⟩ := cells5 BM_4.out
                go_wp2_with fail
                clear a0 a1 a2 a3 a4 b0 b1 b2 b3 b4
                refine (psame_at2 (⟨snm, skd, scl, stt, .slice As sdat.length cs, sdat⟩ : St) _ (.slice As sdat.length cs) _ O7_4.out OS_4.out (by show sdat.length ≤ 1000000; have := HSq.out.2.1; simp only at this; omega)).mono ?_
                rintro e wz ⟨rfl, hg⟩
                have GY := Lib.hid (gtrans g4.out hg)
                clear hg
                go_wp2_with fail
                go_ret
                exact ⟨rfl, GY.out⟩
              · have HR2 := Lib.hid (show fndF n c (l ++ [(⟨snm, skd, scl, stt, .slice As sdat.length cs, sdat⟩ : St)]) = .bad by rw [HQ2.out]; exact if_neg h1)
                have H1 := Lib.hid h1
                clear h1
                rw [HR2.out] at B7 O7 ⊢
                simp only [fdis, fder]
                go_wp2_with fail
                have b0 : ∀ g : Gr wc.drew, g.w.cell? ⟨kM, 0, none⟩ = some (.string snm) := Gr.cell (bcellAt BMc.out 0)
                have b1 : ∀ g : Gr wc.drew, g.w.cell? ⟨kM, 1, none⟩ = some (.int .u16 (skd : Int)) := Gr.cell (bcellAt BMc.out 1)
                have b2 : ∀ g : Gr wc.drew, g.w.cell? ⟨kM, 2, none⟩ = some (.int .u16 (scl : Int)) := Gr.cell (bcellAt BMc.out 2)
                have b3 : ∀ g : Gr wc.drew, g.w.cell? ⟨kM, 3, none⟩ = some (.int .u32 (stt : Int)) := Gr.cell (bcellAt BMc.out 3)
                have b4 : ∀ g : Gr wc.drew, g.w.cell? ⟨kM, 4, none⟩ = some (.slice As sdat.length cs) := Gr.cell (bcellAt BMc.out 4)
                refine wp_region_segs [(true, [0, 1, 2]), (false, [3]), (true, [4, 5, 6, 7, 8, 9, 11, 12]), (false, [10]), (false, [13]), (true, [14, 15, 16])] (by kernel_rfl) (by kernel_rfl) ?_
                refine wpSegs_quiet rfl ?_
                simp only [List.filterMap_cons, List.filterMap_nil, List.getElem?_toArray, List.getElem?_cons_succ, List.getElem?_cons_zero]
                show wpQuiet _ _ _ _ [_, _, _] _
                repeat (go_big_quiet_step (fail))
                refine wpQuiet_nil ?_
                clear b0 b1 b2 b3 b4
                have hd := gdrew (grefl wc none)
                have g1 := Lib.hid (gtrans GC.out hd)
                have B7_1 := Lib.hid (gblock hd B7.out (by simp))
                have B9_1 := Lib.hid (gblock hd B9.out (by simp))
                have BM_1 := Lib.hid (gblock hd BMc.out (by simp))
                have O7_1 := Lib.hid (O7.out.kept0 hd)
                have O9_1 := Lib.hid (O9.out.kept0 hd)
                have OS_1 := Lib.hid (OSc.out.kept hd)
                clear hd
                generalize wc.drew = wd at *
                have HF := Lib.hid (rfits_any n c (⟨snm, skd, scl, stt, .slice As sdat.length cs, sdat⟩ : St))
                rw [hfit.out] at HF
                refine wpSegs_one (by simp only [List.getElem?_toArray, List.getElem?_cons_succ, List.getElem?_cons_zero]; exact rfl) ?_
                go_wp2_with fail
                refine (HF.out _ (by omega) HMn.out).mono ?_
                rintro e we ⟨rfl, hg⟩
                have g2 := Lib.hid (gtrans g1.out hg)
                have B7_2 := Lib.hid (gblock hg B7_1.out (by simp))
                have B9_2 := Lib.hid (gblock hg B9_1.out (by simp))
                have BM_2 := Lib.hid (gblock hg BM_1.out (by simp))
                have O7_2 := Lib.hid (O7_1.out.kept0 hg)
                have O9_2 := Lib.hid (O9_1.out.kept0 hg)
                have OS_2 := Lib.hid (OS_1.out.kept hg)
                go_wp2_with fail
                refine ⟨hg, ?_⟩
                clear hg HF
                have b0 : ∀ g : Gr we, g.w.cell? ⟨kM, 0, none⟩ = some (.string snm) := Gr.cell (bcellAt BM_2.out 0)
                have a0 : ∀ g : Gr we, g.w.cell? ⟨k9, 0, none⟩ = some (.string (fdSet (Fd.got x)).name) := Gr.cell (bcellAt B9_2.out 0)
                refine wpSegs_quiet rfl ?_
                simp only [List.filterMap_cons, List.filterMap_nil, List.getElem?_toArray, List.getElem?_cons_succ, List.getElem?_cons_zero]
                show wpQuiet _ _ _ _ [_, _, _, _, _, _, _, _] _
                repeat (go_big_quiet_step (fail))
                refine wpQuiet_nil ?_
                clear a0 b0
                refine wpSegs_one (by simp only [List.getElem?_toArray, List.getElem?_cons_succ, List.getElem?_cons_zero]; exact rfl) ?_
                go_wp2_with fail
                refine (lblabels_any snm _).mono ?_
                rintro e wf ⟨rfl, hg⟩
                have g3 := Lib.hid (gtrans g2.out hg)
                have B7_3 := Lib.hid (gblock hg B7_2.out (by simp))
                have B9_3 := Lib.hid (gblock hg B9_2.out (by simp))
                have BM_3 := Lib.hid (gblock hg BM_2.out (by simp))
                have O7_3 := Lib.hid (O7_2.out.kept0 hg)
                have O9_3 := Lib.hid (O9_2.out.kept0 hg)
                have OS_3 := Lib.hid (OS_2.out.kept hg)
                go_wp2_with fail
                refine ⟨hg, ?_⟩
                clear hg
                refine wpSegs_one (by simp only [List.getElem?_toArray, List.getElem?_cons_succ, List.getElem?_cons_zero]; exact rfl) ?_
                go_wp2_with fail
                refine (lblabels_any (fdSet (Fd.got x)).name _).mono ?_
                rintro e wg ⟨rfl, hg⟩
                have g4 := Lib.hid (gtrans g3.out hg)
                have B7_4 := Lib.hid (gblock hg B7_3.out (by simp))
                have B9_4 := Lib.hid (gblock hg B9_3.out (by simp))
                have BM_4 := Lib.hid (gblock hg BM_3.out (by simp))
                have O7_4 := Lib.hid (O7_3.out.kept0 hg)
                have O9_4 := Lib.hid (O9_3.out.kept0 hg)
                have OS_4 := Lib.hid (OS_3.out.kept hg)
                go_wp2_with fail
                refine ⟨hg, ?_⟩
                clear hg
                have q0 := HLb0.out
                have q1 := HLb1.out
                refine wpSegs_quiet rfl ?_
                simp only [List.filterMap_cons, List.filterMap_nil, List.getElem?_toArray, List.getElem?_cons_succ, List.getElem?_cons_zero]
                show wpQuiet _ _ _ _ [_, _, _] _
                repeat (go_big_quiet_step (fail))
                refine wpQuiet_nil ?_
                clear q0 q1
                refine wpSegs_done ?_
                obtain ⟨⟨m0, m1, m2, m3, m4⟩, _, _, _, _, _⟩ := cells5 BM_4.out
                have k1 : ((sdat.length : Int) != 1) = true := by have := H1.out; simp; omega
                go_wp2_with fail
                go_ret
                exact ⟨rfl, g4.out⟩
          | false =>
            have HR2 := Lib.hid (HN.out hin)
            rw [HIn.out] at hin
            clear HY HN HIn
            rw [HR2.out] at B7 O7 ⊢
            cases r1 with
            | bad =>
              clear hr1 hin
              simp only [fdis, fder]
              go_wp2_with fail
              go_ret
              exact ⟨rfl, GC.out⟩
            | non =>
              have hdx := hr1.1 rfl
              clear hr1
              have hfit := Lib.hid (show fitB n c (⟨snm, skd, scl, stt, .slice As sdat.length cs, sdat⟩ : St) = false by
                cases hf : fitB n c (⟨snm, skd, scl, stt, .slice As sdat.length cs, sdat⟩ : St) with
                | false => rfl
                | true => rw [hf, hdx] at hin; simp at hin; omega)
              clear hin hdx
              have HZs := Lib.hid (show (fdSet Fd.non).data.length ≤ 1000000 from Nat.zero_le _)
              simp only [fdis, fder]
              go_wp2_with fail
              have b0 : ∀ g : Gr wc.drew, g.w.cell? ⟨kM, 0, none⟩ = some (.string snm) := Gr.cell (bcellAt BMc.out 0)
              have b1 : ∀ g : Gr wc.drew, g.w.cell? ⟨kM, 1, none⟩ = some (.int .u16 (skd : Int)) := Gr.cell (bcellAt BMc.out 1)
              have b2 : ∀ g : Gr wc.drew, g.w.cell? ⟨kM, 2, none⟩ = some (.int .u16 (scl : Int)) := Gr.cell (bcellAt BMc.out 2)
              have b3 : ∀ g : Gr wc.drew, g.w.cell? ⟨kM, 3, none⟩ = some (.int .u32 (stt : Int)) := Gr.cell (bcellAt BMc.out 3)
              have b4 : ∀ g : Gr wc.drew, g.w.cell? ⟨kM, 4, none⟩ = some (.slice As sdat.length cs) := Gr.cell (bcellAt BMc.out 4)
              refine wp_region_segs [(true, [0, 1, 2]), (false, [3]), (true, [4, 5, 6, 7, 8, 9, 11, 12]), (false, [10]), (false, [13]), (true, [14, 15, 16])] (by kernel_rfl) (by kernel_rfl) ?_
              refine wpSegs_quiet rfl ?_
              simp only [List.filterMap_cons, List.filterMap_nil, List.getElem?_toArray, List.getElem?_cons_succ, List.getElem?_cons_zero]
              show wpQuiet _ _ _ _ [_, _, _] _
              repeat (go_big_quiet_step (fail))
              refine wpQuiet_nil ?_
              clear b0 b1 b2 b3 b4
              have hd := gdrew (grefl wc none)
              have g12 := Lib.hid (gtrans GC.out hd)
              have B7_12 := Lib.hid (gblock hd B7.out (by simp))
              have B9_12 := Lib.hid (gblock hd B9.out (by simp))
              have BM_12 := Lib.hid (gblock hd BMc.out (by simp))
              have O7_12 := Lib.hid (O7.out.kept0 hd)
              have O9_12 := Lib.hid (O9.out.kept0 hd)
              have OS_12 := Lib.hid (OSc.out.kept hd)
              clear hd
              generalize wc.drew = wd at *
              have HF := Lib.hid (rfits_any n c (⟨snm, skd, scl, stt, .slice As sdat.length cs, sdat⟩ : St))
              rw [hfit.out] at HF
              refine wpSegs_one (by simp only [List.getElem?_toArray, List.getElem?_cons_succ, List.getElem?_cons_zero]; exact rfl) ?_
              go_wp2_with fail
              refine (HF.out _ (by omega) HMn.out).mono ?_
              rintro e we ⟨rfl, hg⟩
              have g13 := Lib.hid (gtrans g12.out hg)
              have B7_13 := Lib.hid (gblock hg B7_12.out (by simp))
              have B9_13 := Lib.hid (gblock hg B9_12.out (by simp))
              have BM_13 := Lib.hid (gblock hg BM_12.out (by simp))
              have O7_13 := Lib.hid (O7_12.out.kept0 hg)
              have O9_13 := Lib.hid (O9_12.out.kept0 hg)
              have OS_13 := Lib.hid (OS_12.out.kept hg)
              go_wp2_with fail
              refine ⟨hg, ?_⟩
              clear hg HF
              refine wpSegs_quiet rfl ?_
              simp only [List.filterMap_cons, List.filterMap_nil, List.getElem?_toArray, List.getElem?_cons_succ, List.getElem?_cons_zero]
              show wpQuiet _ _ _ _ [_, _, _, _, _, _, _, _] _
              repeat (go_big_quiet_step (fail))
              refine wpQuiet_nil ?_
              refine wpSegs_one (by simp only [List.getElem?_toArray, List.getElem?_cons_succ, List.getElem?_cons_zero]; exact rfl) ?_
              go_wp2_with fail
              refine ⟨grefl _ _, ?_⟩
              refine wpSegs_one (by simp only [List.getElem?_toArray, List.getElem?_cons_succ, List.getElem?_cons_zero]; exact rfl) ?_
              go_wp2_with fail
              refine ⟨grefl _ _, ?_⟩
              refine wpSegs_quiet rfl ?_
              simp only [List.filterMap_cons, List.filterMap_nil, List.getElem?_toArray, List.getElem?_cons_succ, List.getElem?_cons_zero]
              show wpQuiet _ _ _ _ [_, _, _] _
              repeat (go_big_quiet_step (fail))
              refine wpQuiet_nil ?_
              refine wpSegs_done ?_
              obtain ⟨⟨a0, a1, a2, a3, a4⟩, _, _, _, _, _⟩ := cells5 B7_13.out
              obtain ⟨⟨b0, b1, b2, b3, b4⟩, _, _, _, _, _⟩ := cells5 B9_13.out
              go_wp2_with fail
              clear a0 a1 a2 a3 a4 b0 b1 b2 b3 b4
              refine (psame_at2 (fdSet Fd.non) _ _ _ O7_13.out O9_13.out HZs.out).mono ?_
              rintro e wz ⟨rfl, hg⟩
              have GY := Lib.hid (gtrans g13.out hg)
              clear hg
              go_wp2_with fail
              go_ret
              exact ⟨rfl, GY.out⟩
            | got x =>
              have hdx := hr1.2 x rfl
              clear hr1
              have HZs := Lib.hid (show (fdSet (Fd.got x)).data.length ≤ 1000000 from HDs.out x (HGx.out x rfl))
              simp only [fdis, fder]
              cases hf : fitB n c (⟨snm, skd, scl, stt, .slice As sdat.length cs, sdat⟩ : St) with
              | false =>
                have hfit := Lib.hid hf
                clear hf hin hdx
                go_wp2_with fail
                have b0 : ∀ g : Gr wc.drew, g.w.cell? ⟨kM, 0, none⟩ = some (.string snm) := Gr.cell (bcellAt BMc.out 0)
                have b1 : ∀ g : Gr wc.drew, g.w.cell? ⟨kM, 1, none⟩ = some (.int .u16 (skd : Int)) := Gr.cell (bcellAt BMc.out 1)
                have b2 : ∀ g : Gr wc.drew, g.w.cell? ⟨kM, 2, none⟩ = some (.int .u16 (scl : Int)) := Gr.cell (bcellAt BMc.out 2)
                have b3 : ∀ g : Gr wc.drew, g.w.cell? ⟨kM, 3, none⟩ = some (.int .u32 (stt : Int)) := Gr.cell (bcellAt BMc.out 3)
                have b4 : ∀ g : Gr wc.drew, g.w.cell? ⟨kM, 4, none⟩ = some (.slice As sdat.length cs) := Gr.cell (bcellAt BMc.out 4)
                refine wp_region_segs [(true, [0, 1, 2]), (false, [3]), (true, [4, 5, 6, 7, 8, 9, 11, 12]), (false, [10]), (false, [13]), (true, [14, 15, 16])] (by kernel_rfl) (by kernel_rfl) ?_
                refine wpSegs_quiet rfl ?_
                simp only [List.filterMap_cons, List.filterMap_nil, List.getElem?_toArray, List.getElem?_cons_succ, List.getElem?_cons_zero]
                show wpQuiet _ _ _ _ [_, _, _] _
                repeat (go_big_quiet_step (fail))
                refine wpQuiet_nil ?_
                clear b0 b1 b2 b3 b4
                have hd := gdrew (grefl wc none)
                have g14 := Lib.hid (gtrans GC.out hd)
                have B7_14 := Lib.hid (gblock hd B7.out (by simp))
                have B9_14 := Lib.hid (gblock hd B9.out (by simp))
                have BM_14 := Lib.hid (gblock hd BMc.out (by simp))
                have O7_14 := Lib.hid (O7.out.kept0 hd)
                have O9_14 := Lib.hid (O9.out.kept0 hd)
                have OS_14 := Lib.hid (OSc.out.kept hd)
                clear hd
                generalize wc.drew = wd at *
                have HF := Lib.hid (rfits_any n c (⟨snm, skd, scl, stt, .slice As sdat.length cs, sdat⟩ : St))
                rw [hfit.out] at HF
                refine wpSegs_one (by simp only [List.getElem?_toArray, List.getElem?_cons_succ, List.getElem?_cons_zero]; exact rfl) ?_
                go_wp2_with fail
                refine (HF.out _ (by omega) HMn.out).mono ?_
                rintro e we ⟨rfl, hg⟩
                have g15 := Lib.hid (gtrans g14.out hg)
                have B7_15 := Lib.hid (gblock hg B7_14.out (by simp))
                have B9_15 := Lib.hid (gblock hg B9_14.out (by simp))
                have BM_15 := Lib.hid (gblock hg BM_14.out (by simp))
                have O7_15 := Lib.hid (O7_14.out.kept0 hg)
                have O9_15 := Lib.hid (O9_14.out.kept0 hg)
                have OS_15 := Lib.hid (OS_14.out.kept hg)
                go_wp2_with fail
                refine ⟨hg, ?_⟩
                clear hg HF
                refine wpSegs_quiet rfl ?_
                simp only [List.filterMap_cons, List.filterMap_nil, List.getElem?_toArray, List.getElem?_cons_succ, List.getElem?_cons_zero]
                show wpQuiet _ _ _ _ [_, _, _, _, _, _, _, _] _
                repeat (go_big_quiet_step (fail))
                refine wpQuiet_nil ?_
                refine wpSegs_one (by simp only [List.getElem?_toArray, List.getElem?_cons_succ, List.getElem?_cons_zero]; exact rfl) ?_
                go_wp2_with fail
                refine ⟨grefl _ _, ?_⟩
                refine wpSegs_one (by simp only [List.getElem?_toArray, List.getElem?_cons_succ, List.getElem?_cons_zero]; exact rfl) ?_
                go_wp2_with fail
                refine ⟨grefl _ _, ?_⟩
                refine wpSegs_quiet rfl ?_
                simp only [List.filterMap_cons, List.filterMap_nil, List.getElem?_toArray, List.getElem?_cons_succ, List.getElem?_cons_zero]
                show wpQuiet _ _ _ _ [_, _, _] _
                repeat (go_big_quiet_step (fail))
                refine wpQuiet_nil ?_
                refine wpSegs_done ?_
                obtain ⟨⟨a0, a1, a2, a3, a4⟩, _, _, _, _, _⟩ := cells5 B7_15.out
                obtain ⟨⟨b0, b1, b2, b3, b4⟩, _, _, _, _, _⟩ := cells5 B9_15.out
                go_wp2_with fail
                clear a0 a1 a2 a3 a4 b0 b1 b2 b3 b4
                refine (psame_at2 (fdSet (Fd.got x)) _ _ _ O7_15.out O9_15.out HZs.out).mono ?_
                rintro e wz ⟨rfl, hg⟩
                have GY := Lib.hid (gtrans g15.out hg)
                clear hg
                go_wp2_with fail
                go_ret
                exact ⟨rfl, GY.out⟩
              | true =>
                have hfit := Lib.hid hf
                rw [hf] at hin
                simp only [Bool.true_and, decide_eq_false_iff_not] at hin
                have hlx : ¬ nlb x.name < nlb snm := by omega
                clear hf hin hdx
                have HLb0 := Lib.hid (show decide ((nlb (fdSet (Fd.got x)).name : Int) < (nlb snm : Int)) = false from decide_eq_false (by show ¬ (nlb x.name : Int) < (nlb snm : Int); omega))
                have HLb1 := Lib.hid (show decide (nlb (fdSet (Fd.got x)).name < nlb snm) = false from decide_eq_false (by show ¬ nlb x.name < nlb snm; omega))
                clear hlx
                go_wp2_with fail
                have b0 : ∀ g : Gr wc.drew, g.w.cell? ⟨kM, 0, none⟩ = some (.string snm) := Gr.cell (bcellAt BMc.out 0)
                have b1 : ∀ g : Gr wc.drew, g.w.cell? ⟨kM, 1, none⟩ = some (.int .u16 (skd : Int)) := Gr.cell (bcellAt BMc.out 1)
                have b2 : ∀ g : Gr wc.drew, g.w.cell? ⟨kM, 2, none⟩ = some (.int .u16 (scl : Int)) := Gr.cell (bcellAt BMc.out 2)
                have b3 : ∀ g : Gr wc.drew, g.w.cell? ⟨kM, 3, none⟩ = some (.int .u32 (stt : Int)) := Gr.cell (bcellAt BMc.out 3)
                have b4 : ∀ g : Gr wc.drew, g.w.cell? ⟨kM, 4, none⟩ = some (.slice As sdat.length cs) := Gr.cell (bcellAt BMc.out 4)
                refine wp_region_segs [(true, [0, 1, 2]), (false, [3]), (true, [4, 5, 6, 7, 8, 9, 11, 12]), (false, [10]), (false, [13]), (true, [14, 15, 16])] (by kernel_rfl) (by kernel_rfl) ?_
                refine wpSegs_quiet rfl ?_
                simp only [List.filterMap_cons, List.filterMap_nil, List.getElem?_toArray, List.getElem?_cons_succ, List.getElem?_cons_zero]
                show wpQuiet _ _ _ _ [_, _, _] _
                repeat (go_big_quiet_step (fail))
                refine wpQuiet_nil ?_
                clear b0 b1 b2 b3 b4
                have hd := gdrew (grefl wc none)
                have g5 := Lib.hid (gtrans GC.out hd)
                have B7_5 := Lib.hid (gblock hd B7.out (by simp))
                have B9_5 := Lib.hid (gblock hd B9.out (by simp))
                have BM_5 := Lib.hid (gblock hd BMc.out (by simp))
                have O7_5 := Lib.hid (O7.out.kept0 hd)
                have O9_5 := Lib.hid (O9.out.kept0 hd)
                have OS_5 := Lib.hid (OSc.out.kept hd)
                clear hd
                generalize wc.drew = wd at *
                have HF := Lib.hid (rfits_any n c (⟨snm, skd, scl, stt, .slice As sdat.length cs, sdat⟩ : St))
                rw [hfit.out] at HF
                refine wpSegs_one (by simp only [List.getElem?_toArray, List.getElem?_cons_succ, List.getElem?_cons_zero]; exact rfl) ?_
                go_wp2_with fail
                refine (HF.out _ (by omega) HMn.out).mono ?_
                rintro e we ⟨rfl, hg⟩
                have g6 := Lib.hid (gtrans g5.out hg)
                have B7_6 := Lib.hid (gblock hg B7_5.out (by simp))
                have B9_6 := Lib.hid (gblock hg B9_5.out (by simp))
                have BM_6 := Lib.hid (gblock hg BM_5.out (by simp))
                have O7_6 := Lib.hid (O7_5.out.kept0 hg)
                have O9_6 := Lib.hid (O9_5.out.kept0 hg)
                have OS_6 := Lib.hid (OS_5.out.kept hg)
                go_wp2_with fail
                refine ⟨hg, ?_⟩
                clear hg HF
                have b0 : ∀ g : Gr we, g.w.cell? ⟨kM, 0, none⟩ = some (.string snm) := Gr.cell (bcellAt BM_6.out 0)
                have a0 : ∀ g : Gr we, g.w.cell? ⟨k9, 0, none⟩ = some (.string (fdSet (Fd.got x)).name) := Gr.cell (bcellAt B9_6.out 0)
                refine wpSegs_quiet rfl ?_
                simp only [List.filterMap_cons, List.filterMap_nil, List.getElem?_toArray, List.getElem?_cons_succ, List.getElem?_cons_zero]
                show wpQuiet _ _ _ _ [_, _, _, _, _, _, _, _] _
                repeat (go_big_quiet_step (fail))
                refine wpQuiet_nil ?_
                clear a0 b0
                refine wpSegs_one (by simp only [List.getElem?_toArray, List.getElem?_cons_succ, List.getElem?_cons_zero]; exact rfl) ?_
                go_wp2_with fail
                refine (lblabels_any snm _).mono ?_
                rintro e wf ⟨rfl, hg⟩
                have g7 := Lib.hid (gtrans g6.out hg)
                have B7_7 := Lib.hid (gblock hg B7_6.out (by simp))
                have B9_7 := Lib.hid (gblock hg B9_6.out (by simp))
                have BM_7 := Lib.hid (gblock hg BM_6.out (by simp))
                have O7_7 := Lib.hid (O7_6.out.kept0 hg)
                have O9_7 := Lib.hid (O9_6.out.kept0 hg)
                have OS_7 := Lib.hid (OS_6.out.kept hg)
                go_wp2_with fail
                refine ⟨hg, ?_⟩
                clear hg
                refine wpSegs_one (by simp only [List.getElem?_toArray, List.getElem?_cons_succ, List.getElem?_cons_zero]; exact rfl) ?_
                go_wp2_with fail
                refine (lblabels_any (fdSet (Fd.got x)).name _).mono ?_
                rintro e wg ⟨rfl, hg⟩
                have g8 := Lib.hid (gtrans g7.out hg)
                have B7_8 := Lib.hid (gblock hg B7_7.out (by simp))
                have B9_8 := Lib.hid (gblock hg B9_7.out (by simp))
                have BM_8 := Lib.hid (gblock hg BM_7.out (by simp))
                have O7_8 := Lib.hid (O7_7.out.kept0 hg)
                have O9_8 := Lib.hid (O9_7.out.kept0 hg)
                have OS_8 := Lib.hid (OS_7.out.kept hg)
                go_wp2_with fail
                refine ⟨hg, ?_⟩
                clear hg
                have q0 := HLb0.out
                have q1 := HLb1.out
                refine wpSegs_quiet rfl ?_
                simp only [List.filterMap_cons, List.filterMap_nil, List.getElem?_toArray, List.getElem?_cons_succ, List.getElem?_cons_zero]
                show wpQuiet _ _ _ _ [_, _, _] _
                repeat (go_big_quiet_step (fail))
                refine wpQuiet_nil ?_
                clear q0 q1
                refine wpSegs_done ?_
                obtain ⟨⟨a0, a1, a2, a3, a4⟩, _, _, _, _, _⟩ := cells5 B7_8.out
                obtain ⟨⟨b0, b1, b2, b3, b4⟩, _, _, _, _, _⟩ := cells5 B9_8.out
                go_wp2_with fail
                clear a0 a1 a2 a3 a4 b0 b1 b2 b3 b4
                refine (psame_at2 (fdSet (Fd.got x)) _ _ _ O7_8.out O9_8.out HZs.out).mono ?_
                rintro e wz ⟨rfl, hg⟩
                have GY := Lib.hid (gtrans g8.out hg)
                clear hg
                go_wp2_with fail
                go_ret
                exact ⟨rfl, GY.out⟩
end Go.Proofs.YtomjiephbacocaaDoor
