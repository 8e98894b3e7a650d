/-
  CompBack: what the statement holds.
-/
import Derived.Test.YtjjegmgjnfkblaaDoorCo04i
import Derived.Maps.AppendAt
namespace Go.Proofs.YtjjegmgjnfkblaaDoor
open Go.RowKit

theorem Tryd.infoInt : (Tryd.prog.info? 3).map (fun i => (i.zero, i.size, i.bytes)) = some (some (.int .i64 0), 1, 8) := by kernel_rfl
theorem Tryd.infoStr : (Tryd.prog.info? 9).map (fun i => (i.zero, i.size, i.bytes)) = some (some (.string ByteArray.empty), 1, 16) := by kernel_rfl
theorem row_ne {w : World} {b1 b2 k1 k2 n1 n2 : Nat} {e1 e2 : TypeId} {v1 v2 : Value} {x1 x2 : List Value} (h1 : w.ownsRow b1 e1 k1 v1 n1 x1) (h2 : w.ownsRow b2 e2 k2 v2 n2 x2) (hne : e1 ≠ e2) : v1.ownBlock = none ∨ v1.ownBlock ≠ v2.ownBlock := by
  rcases h1.2 with ⟨rfl, _⟩ | ⟨g, cap, cur, rfl, _, hg, _⟩
  · exact .inl rfl
  · refine .inr fun e => ?_
    rcases h2.2 with ⟨rfl, _⟩ | ⟨g', cap', cur', rfl, _, hg', _⟩
    · simp [Value.ownBlock] at e
    · simp [Value.ownBlock] at e
      subst e
      rw [hg] at hg'
      simp at hg'
      exact hne hg'.2
theorem row_ne_map {w : World} {base bm k n : Nat} {e : TypeId} {v : Value} {x : List Value} {T : Tb} (h : w.ownsRow base e k v n x) (q : MapT w bm T) : v.ownBlock ≠ some bm := by
  obtain ⟨D, ⟨es, clock, hb, _⟩, _⟩ := q
  rcases h.2 with ⟨rfl, _⟩ | ⟨g, cap, cur, rfl, _, hg, _⟩
  · simp [Value.ownBlock]
  · intro e
    simp [Value.ownBlock] at e
    subst e
    rw [hg] at hb
    cases hb
theorem row_keptT {w w' : World} {base k n tb : Nat} {e : TypeId} {v : Value} {x : List Value} {m : Option Nat} {T : Tb} (h : w.ownsRow base e k v n x) (g : TG w w' tb m) (hb : tb < base) (ht : Tab w tb m T) : w'.ownsRow base e k v n x := by
  obtain ⟨wm, g1, g2⟩ := g.split
  refine World.ownsRow.kept (World.ownsRow.kept h g1 (.inr fun e => ?_)) g2 ?_
  · have := (World.ownsRow.lt h tb e).1; omega
  · cases m with
    | none => cases v.ownBlock <;> simp
    | some bm => exact .inr (row_ne_map h (ht.some bm rfl).1)
theorem tab_keptR {w w' : World} {base k n tb : Nat} {e : TypeId} {v : Value} {x : List Value} {m : Option Nat} {T : Tb} (h : Tab w tb m T) (g : w.grownBy w' v.ownBlock) (r : w.ownsRow base e k v n x) (hb : tb < base) : Tab w' tb m T := by
  refine h.kept g ?_ ?_
  · intro e; have := (World.ownsRow.lt r tb e).1; omega
  · cases hv : v.ownBlock with
    | none => exact .inl rfl
    | some b => exact .inr fun e => row_ne_map r (h.some b e.symm).1 hv
/-- A name that was put, where, up to where. -/
abbrev Nm := ByteArray × Nat × Nat
def nAt (N : List Nm) : List Value := N.map fun x => .int .i64 (x.2.1 : Int)
def nEnd (N : List Nm) : List Value := N.map fun x => .int .i64 (x.2.2 : Int)
def nName (N : List Nm) : List Value := N.map fun x => .string x.1
structure Bk (w : World) (tb : Nat) (m : Option Nat) (T : Tb) (vb : Value) (bl : List UInt8) (va ve vn : Value) (N : List Nm) (wr : World) : Prop where
  gr : w.grownBy wr none
  tab : Tab wr tb m T
  ms : ∀ k, m = some k → w.heap.size ≤ k
  lb : w.heap.size ≤ tb
  own : Own wr (tb + 1) vb bl
  ok : TOk bl T
  oa : wr.ownsRow (tb + 1) 3 1 va N.length (nAt N)
  oe : wr.ownsRow (tb + 1) 3 1 ve N.length (nEnd N)
  on : wr.ownsRow (tb + 1) 9 1 vn N.length (nName N)
  ne : va.ownBlock = none ∨ va.ownBlock ≠ ve.ownBlock
  rd : ∀ x ∈ N, rdAt ⟨bl.toArray⟩ (x.2.1 : Int) = .ok x.1.data.toList x.2.2
theorem Bk.lo {w wr : World} {tb : Nat} {m : Option Nat} {T : Tb} {vb : Value} {bl : List UInt8} {va ve vn : Value} {N : List Nm} (h : Bk w tb m T vb bl va ve vn N wr) {v : Value} {base k n : Nat} {e : TypeId} {x : List Value} (r : wr.ownsRow base e k v n x) (hb : tb < base) : ∀ b, v.ownBlock = some b → w.heap.size ≤ b := fun b e => by
  have := (World.ownsRow.lt r b e).1
  have := h.lb
  omega
theorem ne_symm {a b : Option Nat} (h : a = none ∨ a ≠ b) : b = none ∨ b ≠ a := by
  cases b with
  | none => exact .inl rfl
  | some k =>
    right
    rcases h with h | h
    · rw [h]; simp
    · exact fun e => h e.symm
theorem Bk.quiet {w w1 w2 : World} {tb : Nat} {m : Option Nat} {T : Tb} {vb : Value} {bl : List UInt8} {va ve vn : Value} {N : List Nm} (h : Bk w tb m T vb bl va ve vn N w1) (g : w1.grownBy w2 none) : Bk w tb m T vb bl va ve vn N w2 :=
  ⟨gtrans h.gr g, h.tab.kept0 g, h.ms, h.lb, h.own.kept0 g, h.ok, own_kept0 h.oa g, own_kept0 h.oe g, own_kept0 h.on g, h.ne, h.rd⟩
theorem rdAt_more {b c : List UInt8} {p : Nat} {m : List UInt8} {next : Nat} (h : rdAt ⟨b.toArray⟩ (p : Int) = .ok m next) : rdAt ⟨(b ++ c).toArray⟩ (p : Int) = .ok m next := by
  obtain ⟨_, _, _, h3, h4, h5⟩ := rdAt_ok h
  rw [size_mk] at h4
  rw [rdAt_in h3 (by rw [size_mk]; simp; omega)]
  exact rd_more (aheadL b c) h5
theorem Bk.zeros {w w1 w2 : World} {tb : Nat} {m : Option Nat} {T : Tb} {vb v' : Value} {bl : List UInt8} {va ve vn : Value} {N : List Nm} {z : Nat} (h : Bk w tb m T vb bl va ve vn N w1) (g : w1.grownBy w2 vb.ownBlock) (o : Own w2 (tb + 1) v' (bl ++ List.replicate z 0)) : Bk w tb m T v' (bl ++ List.replicate z 0) va ve vn N w2 :=
  ⟨gstep h.gr g (h.lo h.own (by omega)), tab_keptR h.tab g h.own (by omega), h.ms, h.lb, o, h.ok.more _, World.ownsRow.kept h.oa g (row_ne h.oa h.own (by decide)), World.ownsRow.kept h.oe g (row_ne h.oe h.own (by decide)), World.ownsRow.kept h.on g (row_ne h.on h.own (by decide)), h.ne, fun x hx => rdAt_more (h.rd x hx)⟩
/-- Behind Put: the bytes that were there stay beside those that were put. -/
theorem Bk.put {w w1 w2 : World} {tb : Nat} {m : Option Nat} {T : Tb} {vb : Value} {bl : List UInt8} {va ve vn : Value} {N : List Nm} {n : ByteArray} {cmp known : Bool} (h : Bk w tb m T vb bl va ve vn N w1) (hn : may n = true) {v' : Value} {m' : Option Nat} (ho : Own w2 w1.heap.size v' (putF n cmp known 0 T bl).1) (ht : Tab w2 tb m' (putF n cmp known 0 T bl).2) (hg : TG w1 w2 tb m) (hms : ∀ i, m' = some i → m = some i ∨ w1.heap.size ≤ i) :
    Bk w tb m' (putF n cmp known 0 T bl).2 v' (putF n cmp known 0 T bl).1 va ve vn N w2 ∧ KB w.heap.size w1 w2 ∧ rdAt ⟨(putF n cmp known 0 T bl).1.toArray⟩ (bl.length : Int) = .ok n.data.toList (putF n cmp known 0 T bl).1.length := by
  have hb := blt h.tab.cell
  obtain ⟨⟨c, hc⟩, hr, hk⟩ := put_ok cmp known hn h.ok
  refine ⟨⟨TG.gr h.gr hg h.lb h.ms, ht, fun k e => ?_, h.lb, ho.base hb, hk, row_keptT h.oa hg (by omega) h.tab, row_keptT h.oe hg (by omega) h.tab, row_keptT h.on hg (by omega) h.tab, h.ne, fun x hx => ?_⟩, hg.kb h.gr.size h.lb h.ms, hr⟩
  · rcases hms k e with h1 | h1
    · exact h.ms k h1
    · exact Nat.le_trans h.gr.size h1
  · rw [hc]; exact rdAt_more (h.rd x hx)
/-- In the middle of the three appends. -/
structure Bm (w : World) (tb : Nat) (m : Option Nat) (T : Tb) (vb : Value) (bl : List UInt8) (va : Value) (na : Nat) (xa : List Value) (ve : Value) (nn : Nat) (xe : List Value) (vn : Value) (nm : Nat) (xn : List Value) (wr : World) : Prop where
  gr : w.grownBy wr none
  tab : Tab wr tb m T
  lb : w.heap.size ≤ tb
  own : Own wr (tb + 1) vb bl
  oa : wr.ownsRow (tb + 1) 3 1 va na xa
  oe : wr.ownsRow (tb + 1) 3 1 ve nn xe
  on : wr.ownsRow (tb + 1) 9 1 vn nm xn
  ne : va.ownBlock = none ∨ va.ownBlock ≠ ve.ownBlock
theorem Bk.mid {w w1 : World} {tb : Nat} {m : Option Nat} {T : Tb} {vb : Value} {bl : List UInt8} {va ve vn : Value} {N : List Nm} (h : Bk w tb m T vb bl va ve vn N w1) : Bm w tb m T vb bl va N.length (nAt N) ve N.length (nEnd N) vn N.length (nName N) w1 := ⟨h.gr, h.tab, h.lb, h.own, h.oa, h.oe, h.on, h.ne⟩
theorem Bm.quiet {w w1 w2 : World} {tb : Nat} {m : Option Nat} {T : Tb} {vb : Value} {bl : List UInt8} {va ve vn : Value} {na nn nm : Nat} {xa xe xn : List Value} (h : Bm w tb m T vb bl va na xa ve nn xe vn nm xn w1) (g : w1.grownBy w2 none) : Bm w tb m T vb bl va na xa ve nn xe vn nm xn w2 :=
  ⟨gtrans h.gr g, h.tab.kept0 g, h.lb, h.own.kept0 g, own_kept0 h.oa g, own_kept0 h.oe g, own_kept0 h.on g, h.ne⟩
theorem at_ne {a b c : Option Nat} {s : Nat} (h : a = b ∨ a = some s) (k : b = none ∨ b ≠ c) (hc : ∀ x, c = some x → x < s) : a = none ∨ a ≠ c := by
  rcases h with rfl | rfl
  · exact k
  · right
    intro e
    have := hc s e.symm
    omega
theorem Bm.a {w w1 w2 : World} {tb : Nat} {m : Option Nat} {T : Tb} {vb : Value} {bl : List UInt8} {va ve vn v' : Value} {na nn nm n' : Nat} {xa xe xn x' : List Value} (h : Bm w tb m T vb bl va na xa ve nn xe vn nm xn w1) (g : w1.grownBy w2 va.ownBlock) (o : w2.ownsRow (tb + 1) 3 1 v' n' x') (hv : v'.ownBlock = va.ownBlock ∨ v'.ownBlock = some w1.heap.size) : Bm w tb m T vb bl v' n' x' ve nn xe vn nm xn w2 :=
  ⟨gstep h.gr g (fun r e => by have := (World.ownsRow.lt h.oa r e).1; have := h.lb; omega), tab_keptR h.tab g h.oa (by omega), h.lb, World.ownsRow.kept h.own g (row_ne h.own h.oa (by decide)), o, World.ownsRow.kept h.oe g (ne_symm h.ne), World.ownsRow.kept h.on g (row_ne h.on h.oa (by decide)), at_ne hv h.ne (fun x e => (World.ownsRow.lt h.oe x e).2)⟩
theorem Bm.e {w w1 w2 : World} {tb : Nat} {m : Option Nat} {T : Tb} {vb : Value} {bl : List UInt8} {va ve vn v' : Value} {na nn nm n' : Nat} {xa xe xn x' : List Value} (h : Bm w tb m T vb bl va na xa ve nn xe vn nm xn w1) (g : w1.grownBy w2 ve.ownBlock) (o : w2.ownsRow (tb + 1) 3 1 v' n' x') (hv : v'.ownBlock = ve.ownBlock ∨ v'.ownBlock = some w1.heap.size) : Bm w tb m T vb bl va na xa v' n' x' vn nm xn w2 :=
  ⟨gstep h.gr g (fun r e => by have := (World.ownsRow.lt h.oe r e).1; have := h.lb; omega), tab_keptR h.tab g h.oe (by omega), h.lb, World.ownsRow.kept h.own g (row_ne h.own h.oe (by decide)), World.ownsRow.kept h.oa g h.ne, o, World.ownsRow.kept h.on g (row_ne h.on h.oe (by decide)), ne_symm (at_ne hv (ne_symm h.ne) (fun x e => (World.ownsRow.lt h.oa x e).2))⟩
theorem Bm.n {w w1 w2 : World} {tb : Nat} {m : Option Nat} {T : Tb} {vb : Value} {bl : List UInt8} {va ve vn v' : Value} {na nn nm n' : Nat} {xa xe xn x' : List Value} (h : Bm w tb m T vb bl va na xa ve nn xe vn nm xn w1) (g : w1.grownBy w2 vn.ownBlock) (o : w2.ownsRow (tb + 1) 9 1 v' n' x') : Bm w tb m T vb bl va na xa ve nn xe v' n' x' w2 :=
  ⟨gstep h.gr g (fun r e => by have := (World.ownsRow.lt h.on r e).1; have := h.lb; omega), tab_keptR h.tab g h.on (by omega), h.lb, World.ownsRow.kept h.own g (row_ne h.own h.on (by decide)), World.ownsRow.kept h.oa g (row_ne h.oa h.on (by decide)), World.ownsRow.kept h.oe g (row_ne h.oe h.on (by decide)), o, h.ne⟩
theorem Bk.next {w w1 w2 : World} {tb : Nat} {m : Option Nat} {T : Tb} {vb : Value} {bl : List UInt8} {va ve vn a' e' n' : Value} {N : List Nm} {x : Nm} (h : Bk w tb m T vb bl va ve vn N w1) (k : Bm w tb m T vb bl a' (N.length + 1) (nAt N ++ [.int .i64 (x.2.1 : Int)]) e' (N.length + 1) (nEnd N ++ [.int .i64 (x.2.2 : Int)]) n' (N.length + 1) (nName N ++ [.string x.1]) w2) (hr : rdAt ⟨bl.toArray⟩ (x.2.1 : Int) = .ok x.1.data.toList x.2.2) : Bk w tb m T vb bl a' e' n' (N ++ [x]) w2 := by
  refine ⟨k.gr, k.tab, h.ms, h.lb, k.own, h.ok, ?_, ?_, ?_, k.ne, ?_⟩
  · have := k.oa; unfold nAt at *; simpa using this
  · have := k.oe; unfold nEnd at *; simpa using this
  · have := k.on; unfold nName at *; simpa using this
  · intro y hy
    rcases List.mem_append.1 hy with hy | hy
    · exact h.rd y hy
    · simp at hy; subst hy; exact hr
theorem row_cell {w : World} {base n cap : Nat} {e : TypeId} {A : Option Addr} {xs : List Value} (h : w.ownsRow base e 1 (.slice A n cap) n xs) {j : Nat} {u : Value} (hj : xs[j]? = some u) : ∃ g, A = some ⟨g, 0, none⟩ ∧ w.cell? ⟨g, j, none⟩ = some u := by
  have hjl := (List.getElem?_eq_some_iff.1 hj).1
  rcases h.2 with ⟨_, h2⟩ | ⟨g, cap', cur, e, hb, hg, _, _, _, ht⟩
  · have := h.1; omega
  · simp only [Value.slice.injEq] at e
    obtain ⟨rfl, _, _⟩ := e
    refine ⟨g, rfl, ?_⟩
    rw [bcellAt hg, ← Array.getElem?_toList]
    have := h.1
    rw [← ht, List.getElem?_take_of_lt (by omega)] at hj
    exact hj
end Go.Proofs.YtjjegmgjnfkblaaDoor
