/-
  Bytes of one's own in a row that '[]byte(s)' has made: its mark lies behind the row.
  Wire (layer 7): must.
  Wire: the writer's state, add.
  Wire: the writer's add.
  Wire: the writer's base.
-/
import Derived.Test.YthgendgmlpaglaaDoorA3
import Derived.Test.YthgendgmlpaglaaDoorA5
import Derived.Lib.ConvBytes
import Derived.Lib.FrozenHead
import Derived.Test.YthgendgmlpaglaaDoorDaLaw
import Derived.Recover
import Derived.WalkSmall
import Derived.Test.YthgendgmlpaglaaDoorA1
namespace Go.Proofs.YthgendgmlpaglaaDoor
open Go.RowKit

/-- No cell of the row is frozen. -/
def Unfz (n : Nat) (fz : Nat × Nat) : Prop := fz.2 = 0 ∨ n ≤ fz.1
def OwnM (w : World) (base : Nat) (v : Value) (l : List UInt8) : Prop :=
  (v = .slice none 0 0 ∧ l.length = 0) ∨
   ∃ g cap cur fz, v = .slice (some ⟨g, 0, none⟩) l.length cap ∧ base ≤ g ∧ w.heap[g]? = some (.cells cur 5 fz) ∧ Unfz cur.size fz ∧ l.length ≤ cap ∧ cap ≤ maxLen ∧ cur.size = cap ∧ cur.toList.take l.length = bv l
theorem OwnM.of {w : World} {base : Nat} {v : Value} {l : List UInt8} (h : Own w base v l) : OwnM w base v l := by
  rcases h.2 with h1 | ⟨g, cap, cur, rfl, h2, h3, h4, h5, h6, h7⟩
  · exact .inl h1
  · rw [Nat.mul_one] at h6 h7
    exact .inr ⟨g, cap, cur, (0, 0), rfl, h2, h3, .inl rfl, h4, h5, h6, h7⟩
theorem OwnM.sl {w : World} {base : Nat} {v : Value} {l : List UInt8} (h : OwnM w base v l) : SlB w v l := by
  rcases h with ⟨rfl, hl⟩ | ⟨g, cap, cur, fz, rfl, _, hg, _, hc, _, hs, ht⟩
  · have : l = [] := List.eq_nil_of_length_eq_zero hl
    subst this
    exact ⟨none, 0, rfl, by simp, by simp, by simp⟩
  · refine ⟨some ⟨g, 0, none⟩, cap, rfl, hc, by simp, ?_⟩
    intro ad had j u hu
    obtain rfl := Option.some.inj had
    have hj : j < l.length := by
      have := (List.getElem?_eq_some_iff.1 hu).1
      rwa [bv_len] at this
    rw [Addr.add_lit, bcellAt hg, ← Array.getElem?_toList]
    rw [← ht, List.getElem?_take_of_lt (by omega)] at hu
    simpa using hu
theorem OwnM.kept {w w' : World} {base : Nat} {v : Value} {l : List UInt8} {row : Option Nat} (h : OwnM w base v l) (g : w.grownBy w' row) (hr : row = none ∨ v.ownBlock ≠ row) : OwnM w' base v l := by
  rcases h with hn | ⟨b, cap, cur, fz, rfl, hb, hgg, rest⟩
  · exact .inl hn
  · refine .inr ⟨b, cap, cur, fz, rfl, hb, ?_, rest⟩
    rw [g.block b (Array.getElem?_eq_some_iff.1 hgg).1 ?_]
    · exact hgg
    · rcases hr with rfl | hr
      · simp
      · exact hr
theorem OwnM.kept0 {w w' : World} {base : Nat} {v : Value} {l : List UInt8} (h : OwnM w base v l) (g : w.grownBy w' none) : OwnM w' base v l := h.kept g (.inl rfl)
theorem OwnM.shape {w : World} {base : Nat} {v : Value} {l : List UInt8} (h : OwnM w base v l) : ∃ A cap, v = .slice A l.length cap ∧ l.length ≤ cap ∧ cap ≤ maxLen := by
  rcases h with ⟨rfl, hl⟩ | ⟨g, cap, cur, fz, rfl, _, hg, _, hc, hm, _⟩
  · exact ⟨none, 0, by rw [hl], by omega, by simp⟩
  · exact ⟨_, cap, rfl, hc, hm⟩
theorem OwnM.keptT {w w' : World} {base : Nat} {v : Value} {l : List UInt8} {b : Nat} {m : Option Nat} (h : OwnM w base v l) (g : TG w w' b m) (h1 : v.ownBlock ≠ some b) (h2 : m = none ∨ v.ownBlock ≠ m) : OwnM w' base v l := by
  obtain ⟨wm, g1, g2⟩ := g.split
  exact (h.kept g1 (.inr h1)).kept g2 h2
theorem OwnM.base {w : World} {base base' : Nat} {v : Value} {l : List UInt8} (h : OwnM w base v l) (hb : base' ≤ base) : OwnM w base' v l := by
  rcases h with h2 | ⟨g, cap, cur, fz, h3, h4, h5⟩
  · exact .inl h2
  · exact .inr ⟨g, cap, cur, fz, h3, Nat.le_trans hb h4, h5⟩
theorem own_u8M {w : World} {B : Nat} {v : Value} {l : List UInt8} (h : OwnM w B v l) : ∀ k, v.ownBlock = some k → ∃ c z, w.heap[k]? = some (.cells c 5 z) := by
  intro k hk
  rcases h with ⟨rfl, _⟩ | ⟨g, cap, cur, fz, rfl, _, hg, _⟩
  · cases hk
  · cases hk; exact ⟨cur, fz, hg⟩
/-- '[]byte(s)': bytes of one's own. -/
theorem OwnM.conv (w : World) (s : ByteArray) (h : s.size ≤ 140737488355328) : OwnM (Lib.bytesWorld w 5 s) w.heap.size (.slice (some ⟨w.heap.size, 0, none⟩) s.size (grownCap w s.size 0 5)) s.data.toList := by
  have hl : s.data.toList.length = s.size := by rw [Array.length_toList]; rfl
  have hge := grownCap_ge w s.size 0 5
  refine .inr ⟨w.heap.size, _, _, _, by rw [hl], Nat.le_refl _, Lib.bytesWorld_at_new w _ s, .inr (Nat.le_refl _), by omega, grownCap_le_maxLen w _ _ _ (by unfold maxLen; omega), ?_, ?_⟩
  · have hd : s.data.size = s.size := rfl
    simp only [Lib.bytesCells, Array.size_append, Array.size_map, Array.size_replicate]
    omega
  · simp only [Lib.bytesCells, Array.toList_append, Array.toList_map, bv]
    exact List.take_left' (by simp)
theorem conv_grown (w : World) (e : TypeId) (s : ByteArray) : w.grownBy (Lib.bytesWorld w e s) none :=
  ⟨rfl, rfl, rfl, by rw [Lib.bytesWorld_size]; omega, fun k hk _ => Lib.bytesWorld_at_old w e s k hk⟩

theorem run_storeCells_atM (P : Program) (g o : Nat) (t : TypeId) (fz : Nat × Nat) : ∀ (vs : List Value) (i : Nat) (cur : Array Value) (w : World), w.heap[g]? = some (.cells cur t fz) → Unfz cur.size fz → o + i + vs.length ≤ cur.size → (∀ v ∈ vs, v.oneCell' = true) →
    (storeCells ⟨g, o, none⟩ vs i).run P w = .ok () (w.setRow g (cur.toList.take (o + i) ++ vs ++ cur.toList.drop (o + i + vs.length)).toArray)
  | [], i, cur, w, hg, _, _, _ => by
    simp only [storeCells, List.append_nil, List.length_nil, Nat.add_zero, List.take_append_drop, Array.toArray_toList]
    rw [setRow_self w g cur t fz hg]
    rfl
  | v :: rest, i, cur, w, hg, hfz, hl, h1 => by
    have hi : o + i < cur.size := by simp at hl; omega
    have hadd : (⟨g, o, none⟩ : Addr).add i = ⟨g, o + i, none⟩ := by unfold Addr.add; split <;> simp_all
    have hcell : w.cell? ⟨g, o + i, none⟩ = some cur[o + i] := by simp [World.cell?, hg, hi]
    have hfro : w.frozen? ⟨g, o + i, none⟩ = false := by
      obtain ⟨lo, hi'⟩ := fz
      simp only [World.frozen?, hg, Bool.and_eq_false_iff, decide_eq_false_iff_not]
      rcases hfz with hz | hz
      · right; simp only at hz; omega
      · left; simp only at hz; omega
    have hst : (store ((⟨g, o, none⟩ : Addr).add i) v).run P w = .ok () (w.setRow g (cur.setIfInBounds (o + i) v)) := by
      rw [hadd, run_store P w _ v _ (h1 v (by simp)), hcell]
      simp [hfro, setCell_eq_setRow w g (o + i) cur t fz v hg]
    have ih := run_storeCells_atM P g o t fz rest (i + 1) (cur.setIfInBounds (o + i) v) (w.setRow g (cur.setIfInBounds (o + i) v)) (setRow_heap w g cur _ t _ hg) (by rwa [Array.size_setIfInBounds]) (by simp at hl ⊢; omega) (fun x hx => h1 x (by simp [hx]))
    simp only [storeCells, Sem.run_bind, hst, Result.andThen_ok, ih, setRow_setRow]
    congr 3
    have e := list_seg_step cur.toList (o + i) v rest (by simp at hl ⊢; omega)
    simpa [Array.toList_setIfInBounds, Nat.add_assoc] using e

section
variable {P : Program} (w : World)
theorem run_copy_rowM (dT sT ty elem : TypeId) (g o dLen dCap : Nat) (a : Addr) (sLen sCap : Nat) (cur : Array Value) (t : TypeId) (fz : Nat × Nat) (cs : List Value)
    (hu : P.underlying dT = some (.slice elem)) (hs : (P.info? elem).map (·.size) = some 1)
    (hg : w.heap[g]? = some (.cells cur t fz)) (hz : Unfz cur.size fz) (hn : cs.length = Nat.min sLen dLen)
    (hsrc : ∀ j v, cs[j]? = some v → w.cell? (a.add j) = some v) (hfit : o + cs.length ≤ cur.size) (h1 : ∀ v ∈ cs, v.oneCell' = true) :
    (Builtin.copy_ #[dT, sT] ty #[.slice (some ⟨g, o, none⟩) dLen dCap, .slice (some a) sLen sCap]).run P w =
      .ok (goInt cs.length) (w.setRow g (cur.toList.take o ++ cs ++ cur.toList.drop (o + cs.length)).toArray) := by
  have hl := run_loadCells_list (P := P) w a cs hsrc
  have hst := run_storeCells_atM P g o t fz cs 0 cur w hg hz (by simpa using hfit) h1
  cases hq : P.info? elem with
  | none => simp [hq] at hs
  | some i =>
    have hi : i.size = 1 := by simpa [hq] using hs
    simp [Builtin.copy_, run_underlying hu, Builtin.lenOf, Builtin.firstCells, sizeOf, typeInfo, hq, hi, ← hn, hl, hst]
theorem run_append_roomM (t ty e : TypeId) (i : TypeInfo) (ht : P.underlying t = some (.slice e)) (hi : P.info? e = some i) (hs1 : i.size = 1)
    (g sLen sCap : Nat) (cur : Array Value) (fz : Nat × Nat) (hg : w.heap[g]? = some (.cells cur e fz)) (hz : Unfz cur.size fz)
    (a : Addr) (m c : Nat) (news : List Value) (hl : news.length = m) (hnews : ∀ j u, news[j]? = some u → w.cell? (a.add j) = some u) (h1 : ∀ u ∈ news, u.oneCell' = true)
    (hroom : sLen + m ≤ sCap) (hfit : sLen + news.length ≤ cur.size) :
    (Builtin.append_ #[t, t] ty #[.slice (some ⟨g, 0, none⟩) sLen sCap, .slice (some a) m c]).run P w =
      .ok (.slice (some ⟨g, 0, none⟩) (sLen + m) sCap) (w.setRow g (cur.toList.take sLen ++ news ++ cur.toList.drop (sLen + news.length)).toArray) := by
  have hf := run_firstCells_some (P := P) w 1 m a m c news (by omega) hnews
  have hst := run_storeCells_atM P g sLen e fz news 0 cur w hg hz (by simpa using hfit) h1
  simp only [Nat.add_zero] at hst
  simp [Builtin.append_, run_underlying ht, sizeOf, typeInfo, hi, hs1, Builtin.lenOf, hroom, hf, Addr.add_lit, hst]
end

section
variable {P : Program} {w : World} {ops : Array Oper} {rest : List Oper} {o : Oper} {a : Act} {Q : Exit → Act → World → Prop}
/-- 'append(out, src...)' onto such bytes. -/
theorem run_app_M (t ty : TypeId) (base : Nat) (i : TypeInfo) (h1 : P.underlying t = some (.slice 5)) (h2 : P.info? 5 = some i) (h3 : i.zero = some (.int .u8 0)) (h4 : i.size = 1) (h5 : i.bytes = 1)
    (v : Value) (xs news : List UInt8) (hown : OwnM w base v xs) (ad : Addr) (c : Nat) (hnews : ∀ j u, (bv news)[j]? = some u → w.cell? (ad.add j) = some u) (b1 : xs.length + news.length ≤ 140737488355328) (hb : base ≤ w.heap.size) :
    ∃ v' w', (Builtin.append_ #[t, t] ty #[v, .slice (some ad) news.length c]).run P w = .ok v' w' ∧ OwnM w' base v' (xs ++ news) ∧ w.grownBy w' v.ownBlock := by
  have hm : xs.length + news.length ≤ maxLen := by unfold maxLen; omega
  have hlen : (xs ++ news).length = xs.length + news.length := List.length_append
  rcases hown with ⟨rfl, h0⟩ | ⟨g, cap, cur, fz, rfl, hbg, hg, hz, hnc, hcm, hcs, htake⟩
  · obtain rfl : xs = [] := List.eq_nil_of_length_eq_zero h0
    obtain ⟨v', w', e1, e2, e3, _⟩ := run_append_own (P := P) w base t ty 5 i (.int .u8 0) 1 1 h1 h2 h3 h4 h5 rfl (by omega) (.slice none 0 0) 0 [] (World.ownsRow_nil _ _ _ _) ad news.length c (bv news) (by simp [bv_len]) hnews (bv_one _) (by simpa using hm) (by simpa using b1) hb
    refine ⟨v', w', e1, OwnM.of ?_, e3⟩
    unfold Own
    simpa using e2
  · by_cases hroom : xs.length + news.length ≤ cap
    · have hr := run_append_roomM (P := P) w t ty 5 i h1 h2 h4 g xs.length cap cur fz hg hz ad news.length c (bv news) (bv_len _) hnews (bv_one _) hroom (by rw [bv_len]; omega)
      refine ⟨_, _, hr, .inr ⟨g, cap, _, fz, by rw [hlen], hbg, setRow_heap w g cur _ _ _ hg, ?_, by omega, hcm, ?_, ?_⟩, ⟨rfl, rfl, rfl, by simp, fun k _ hk => setRow_other w g k _ (fun e => hk (by simp [Value.ownBlock, e]))⟩⟩
      · have : (cur.toList.take xs.length ++ bv news ++ cur.toList.drop (xs.length + (bv news).length)).toArray.size = cur.size := by
          simp only [List.size_toArray, List.length_append, List.length_take, List.length_drop, Array.length_toList, bv_len]
          omega
        rw [this]; exact hz
      · simp only [List.size_toArray, List.length_append, List.length_take, List.length_drop, Array.length_toList, bv_len]
        omega
      · rw [htake, ← bv_append]
        exact List.take_left' (bv_len _)
    · have holds : ∀ j u, (bv xs)[j]? = some u → w.cell? ((⟨g, 0, none⟩ : Addr).add j) = some u := by
        intro j u hu
        have hj := (List.getElem?_eq_some_iff.1 hu).1
        rw [bv_len] at hj
        rw [Addr.add_lit, bcellAt hg, ← Array.getElem?_toList, Nat.zero_add]
        rw [← htake, List.getElem?_take_of_lt (by omega)] at hu
        exact hu
      have hr := run_append_grow (P := P) w t ty 5 i (.int .u8 0) h1 h2 h3 ⟨g, 0, none⟩ xs.length cap (bv xs) (by rw [bv_len, h4, Nat.mul_one]) holds ad news.length c (bv news) (by rw [bv_len, h4, Nat.mul_one]) hnews (by omega) (by omega) (by rw [h5]; exact growslice_fits (by omega) (by omega))
      have hge := grownCap_ge w (xs.length + news.length) cap 5
      have hcm2 : grownCap w (xs.length + news.length) cap 5 ≤ maxLen := grownCap_le_maxLen w _ cap _ hm
      refine ⟨_, _, hr, .inr ⟨w.heap.size, _, _, (0, 0), by rw [hlen], hb, heap_alloc_new w.drew _, .inl rfl, by omega, hcm2, ?_, ?_⟩, ⟨rfl, rfl, rfl, by simp, fun k hk _ => (galloc (gdrew (grefl w none)) _).block k hk (by simp)⟩⟩
      · have hz1 : (Value.int IntKind.u8 0).cells.size = 1 := rfl
        simp only [Array.size_append, List.size_toArray, size_zeroCells, hz1, bv_len]
        omega
      · simp only [Array.toList_append, List.append_assoc]
        rw [← List.append_assoc, ← bv_append]
        exact List.take_left' (bv_len _)
theorem wpList_app_slM (hg : o.guard = none) (s x : Operand) (t : TypeId) (hop : o.op = Op.call { callee := Callee.builtin Builtin.append, args := #[s, x], argTypes := #[t, t] })
    (base : Nat) (i : TypeInfo) (h1 : P.underlying t = some (.slice 5)) (h2 : P.info? 5 = some i) (h3 : i.zero = some (.int .u8 0)) (h4 : i.size = 1) (h5 : i.bytes = 1)
    (v : Value) (xs news : List UInt8) (hs : a.eval s = v) (hown : OwnM w base v xs) (vx : Value) (hx : a.eval x = vx) (hsl : SlB w vx news) (b1 : xs.length + news.length ≤ 140737488355328) (hb : base ≤ w.heap.size)
    (hK : ∀ v' w', OwnM w' base v' (xs ++ news) → w.grownBy w' v.ownBlock → wpList P ops Q rest (a.put o.dst v') w') : wpList P ops Q (o :: rest) a w := by
  obtain ⟨A, c, rfl, _, k2, k3⟩ := hsl
  have run : ∃ v' w', (Builtin.append_ #[t, t] o.type #[v, .slice A news.length c]).run P w = .ok v' w' ∧ OwnM w' base v' (xs ++ news) ∧ w.grownBy w' v.ownBlock := by
    cases A with
    | none =>
      obtain ⟨e1, rfl⟩ := k2 rfl
      have : news = [] := List.eq_nil_of_length_eq_zero e1
      subst this
      obtain ⟨A', c', e2, hc', _⟩ := hown.shape
      subst e2
      refine ⟨_, w, ?_, by simpa using hown, grefl w _⟩
      cases A' <;> simp [Builtin.append_, run_underlying h1, sizeOf, typeInfo, h2, Builtin.lenOf, Builtin.firstCells, loadCells, storeCells, hc']
    | some ad => exact run_app_M t o.type base i h1 h2 h3 h4 h5 v xs news hown ad c (k3 ad rfl) b1 hb
  obtain ⟨v', w', hr, ho, hgr⟩ := run
  refine wpList_plain hg fun _ hK' => ?_
  unfold Oper.wp execOp
  simp only [hop, resolve, invoke, builtin, Sem.run_bind, Sem.run_pure, Result.andThen_ok, List.map_toArray, List.map_cons, List.map_nil, hs, hx, hr]
  exact hK' _ _ (hK v' w' ho hgr)
end
end Go.Proofs.YthgendgmlpaglaaDoor
namespace Go.Proofs.YthgendgmlpaglaaDoor
open Go.RowKit

/-- What a failing call panics with. -/
def fault (k : Int) : Value := .iface 49 (.agg #[.int .i64 k])
theorem must_ok (w : World) : Calls Tryd.prog 21 #[.int .i64 0] w fun e w' => e = .returned (.tuple #[]) ∧ w = w' := by
  go_enter Tryd.func21, Tryd.ntmps21
  go_wp2_with fail
  go_end0
  exact ⟨rfl, rfl⟩
theorem must_no (k : Int) (hk : k ≠ 0) (w : World) : Calls Tryd.prog 21 #[.int .i64 k] w fun e w' => e = .panicked [{ v := fault k, recovered := false }] ∧ w = w' := by
  have k0 : (k != 0) = true := by simpa using hk
  clear hk
  go_enter Tryd.func21, Tryd.ntmps21
  go_wp2_with fail
  exact ⟨rfl, rfl, rfl⟩
end Go.Proofs.YthgendgmlpaglaaDoor
namespace Go.Proofs.YthgendgmlpaglaaDoor
open Go.RowKit

/-- A writer: a block of two cells; its bytes are its own; its table. All from B on. -/
structure Wr (w : World) (B b tb : Nat) (m : Option Nat) (v : Value) (bs : List UInt8) (T : Tb) : Prop where
  cell : w.heap[b]? = some (.cells #[v, .pointer (some ⟨tb, 0, none⟩)] 87 (0, 0))
  own : OwnM w B v bs
  tab : Tab w tb m T
  lb : B ≤ b
  lt : B ≤ tb
  lm : ∀ k, m = some k → B ≤ k
theorem Wr.ne {w : World} {B b tb : Nat} {m : Option Nat} {v : Value} {bs : List UInt8} {T : Tb} (h : Wr w B b tb m v bs T) : v.ownBlock ≠ some b ∧ v.ownBlock ≠ some tb ∧ (∀ k, m = some k → v.ownBlock ≠ some k ∧ k ≠ b) ∧ b ≠ tb := by
  refine ⟨fun e => ?_, fun e => ?_, fun k hk => ⟨fun e => ?_, fun e => ?_⟩, fun e => ?_⟩
  · obtain ⟨c, z, hc⟩ := own_u8M h.own _ e
    rw [h.cell] at hc; cases hc
  · obtain ⟨c, z, hc⟩ := own_u8M h.own _ e
    rw [h.tab.cell] at hc; cases hc
  · obtain ⟨c, z, hc⟩ := own_u8M h.own _ e
    obtain ⟨⟨D, ⟨es, clock, hm, _⟩, _⟩, _⟩ := h.tab.some k hk
    rw [hc] at hm; cases hm
  · subst e
    obtain ⟨⟨D, ⟨es, clock, hm, _⟩, _⟩, _⟩ := h.tab.some k hk
    rw [h.cell] at hm; cases hm
  · subst e
    have := h.cell
    rw [h.tab.cell] at this
    simp at this
theorem Wr.kept {w w' : World} {B b tb : Nat} {m : Option Nat} {v : Value} {bs : List UInt8} {T : Tb} (h : Wr w B b tb m v bs T) (g : w.grownBy w' none) : Wr w' B b tb m v bs T :=
  ⟨gblock g h.cell (by simp), h.own.kept0 g, h.tab.kept0 g, h.lb, h.lt, h.lm⟩
end Go.Proofs.YthgendgmlpaglaaDoor
namespace Go.Proofs.YthgendgmlpaglaaDoor
open Go.RowKit

set_option maxRecDepth 100000 in
set_option maxHeartbeats 8000000 in
theorem add_no (w : World) (B b tb : Nat) (m : Option Nat) (v : Value) (bs : List UInt8) (T : Tb) (vx : Value) (x : List UInt8) (h : Wr w B b tb m v bs T) (hx : SlB w vx x) (hb : bs.length ≤ 65535) (hf : 65535 < bs.length + x.length) :
    Calls Tryd.prog 38 #[.pointer (some ⟨b, 0, none⟩), vx] w fun e w' => e = .panicked [{ v := fault 5, recovered := false }] ∧ w = w' := by
  obtain ⟨A, c, rfl, _, _⟩ := h.own.shape
  obtain ⟨Ax, cx, rfl, _, _⟩ := hx
  have c0 : w.cell? ⟨b, 0, none⟩ = some (.slice A bs.length c) := bcellAt h.cell 0
  have k0 : decide ((65535 : Int) - (bs.length : Int) < (x.length : Int)) = true := by simp; omega
  clear h
  go_enter Tryd.func38, Tryd.ntmps38
  go_wp2_with fail
  refine (must_no 5 (by decide) w).mono ?_
  rintro e w1 ⟨rfl, rfl⟩
  go_wp2_with fail
  exact ⟨rfl, rfl, rfl⟩

set_option maxRecDepth 100000 in
set_option maxHeartbeats 8000000 in
theorem add_ok (w : World) (B b tb : Nat) (m : Option Nat) (v : Value) (bs : List UInt8) (T : Tb) (vx : Value) (x : List UInt8) (h : Wr w B b tb m v bs T) (hx : SlB w vx x) (hf : bs.length + x.length ≤ 65535) :
    Calls Tryd.prog 38 #[.pointer (some ⟨b, 0, none⟩), vx] w fun e w' => e = .returned (.tuple #[]) ∧ ∃ v', Wr w' B b tb m v' (bs ++ x) T ∧ TG w w' b v.ownBlock := by
  obtain ⟨i0, hi, hz0, hz1, hz2⟩ := info_parts Tryd.infoByte
  have HW := Lib.hid h
  have HX := Lib.hid hx
  obtain ⟨A, c, rfl, _, _⟩ := h.own.shape
  obtain ⟨Ax, cx, rfl, _, _⟩ := hx
  have c0 : w.cell? ⟨b, 0, none⟩ = some (.slice A bs.length c) := bcellAt h.cell 0
  have k0 : decide ((65535 : Int) - (bs.length : Int) < (x.length : Int)) = false := by simp; omega
  have hbs := blt h.cell
  have hB := h.lb
  clear h
  go_enter Tryd.func38, Tryd.ntmps38
  go_wp2_with (at_builtin; refine wpList_app_slM rfl (.tmp 18) (.tmp 19) 26 rfl B i0 Tryd.underlying26 hi hz0 hz1 hz2 _ bs x rfl HW.out.own _ rfl HX.out ?c1 ?c2 ?_)
  case c1 => omega
  case c2 => omega
  intro v1 w1 ho hg
  have hne := HW.out.ne
  have HO := Lib.hid ho
  have hb1 := gblock hg HW.out.cell (fun e => hne.1 e.symm)
  have HB1 := Lib.hid hb1
  have ht1 : Tab w1 tb m T := HW.out.tab.kept hg hne.2.1 (by
    cases m with
    | none =>
      cases hq : Value.ownBlock (.slice A bs.length c) with
      | none => exact .inl rfl
      | some k => exact .inr (by simp)
    | some k => exact .inr (hne.2.2.1 k rfl).1)
  have HT1 := Lib.hid ht1
  have HG1 := Lib.hid hg
  have HN := Lib.hid hne
  obtain ⟨A1, c1, rfl, _, _⟩ := ho.shape
  have m0 : w1.cell? ⟨b, 0, none⟩ = some (.slice A bs.length c) := bcellAt hb1 0
  have f0 : w1.frozen? ⟨b, 0, none⟩ = false := bfree hb1 0
  clear ho hb1 ht1 hg hne c0 k0
  go_wp2_with fail
  go_end0
  have gs : w1.grownBy (w1.setCell ⟨b, 0, none⟩ (.slice A1 (bs.length + x.length) c1)) (some b) := gset (grefl w1 _) (p := ⟨b, 0, none⟩) (.inl rfl) _
  have ho := HO.out
  rw [List.length_append] at ho
  have hv : Value.ownBlock (.slice A1 (bs.length + x.length) c1) ≠ some b := by
    intro e
    obtain ⟨c', z', hc'⟩ := own_u8M ho _ e
    rw [HB1.out] at hc'
    cases hc'
  refine ⟨rfl, _, ⟨bset HB1.out 0 _, ho.kept gs (.inr hv), HT1.out.kept gs (by simpa using HN.out.2.2.2) ?_, HW.out.lb, HW.out.lt, HW.out.lm⟩, ?_⟩
  · cases m with
    | none => exact .inr (by simp)
    | some k => exact .inr (by simpa using fun e => (HN.out.2.2.1 k rfl).2 e.symm)
  · exact ⟨gs.os.trans HG1.out.os, gs.tape.trans HG1.out.tape, gs.output.trans HG1.out.output, Nat.le_trans HG1.out.size gs.size, fun i hi hb ho => (gs.block i (Nat.lt_of_lt_of_le hi HG1.out.size) (by simpa using hb)).trans (HG1.out.block i hi ho)⟩
end Go.Proofs.YthgendgmlpaglaaDoor
namespace Go.Proofs.YthgendgmlpaglaaDoor
open Go.RowKit

theorem SlB.take {w : World} {A : Option Addr} {n c : Nat} {l : List UInt8} (h : SlB w (.slice A n c) l) (k : Nat) : SlB w (.slice A (l.take k).length c) (l.take k) := by
  obtain ⟨A', c', e, h1, h2, h3⟩ := h
  simp only [Value.slice.injEq] at e
  obtain ⟨rfl, rfl, rfl⟩ := e
  refine ⟨_, _, rfl, Nat.le_trans (by rw [List.length_take]; omega) h1, fun hA => ⟨?_, (h2 hA).2⟩, fun ad had j u hu => h3 ad had j u ?_⟩
  · have := (h2 hA).1
    rw [List.length_take]; omega
  · have hj := (List.getElem?_eq_some_iff.1 hu).1
    rw [bv_len, List.length_take] at hj
    unfold bv at hu ⊢
    rw [List.getElem?_map] at hu ⊢
    rw [List.getElem?_take_of_lt (by omega)] at hu
    exact hu

set_option maxRecDepth 100000 in
set_option maxHeartbeats 8000000 in
theorem base_any (w : World) (B b tb : Nat) (m : Option Nat) (v : Value) (bs : List UInt8) (T : Tb) (h : Wr w B b tb m v bs T) (hb : bs.length ≤ 65535) :
    Calls Tryd.prog 55 #[.pointer (some ⟨b, 0, none⟩)] w fun e w' => ∃ v', e = .returned v' ∧ w.grownBy w' none ∧ SlB w' v' (bs.take 16384) := by
  have HW := Lib.hid h
  obtain ⟨A, c, rfl, hc, _⟩ := h.own.shape
  have HC := Lib.hid h.cell
  have HS := Lib.hid h.own.sl
  clear h
  have c0 : w.cell? ⟨b, 0, none⟩ = some (.slice A bs.length c) := bcellAt HC.out 0
  go_enter Tryd.func55, Tryd.ntmps55
  go_wp2_with fail
  go_quiet (fail)
  go_wp2_with fail
  all_goals
    go_ret
    refine ⟨_, rfl, gdrewN (grefl w none) _, ?_⟩
    have e : ∀ k : Nat, k = (bs.take 16384).length → SlB (w.drewN nq) (.slice A k c) (bs.take 16384) := fun k hk => by rw [hk]; exact SlB.take (HS.out.kept0 (gdrewN (grefl w none) _)) 16384
    refine e _ ?_
    rw [List.length_take]
    omega
end Go.Proofs.YthgendgmlpaglaaDoor
