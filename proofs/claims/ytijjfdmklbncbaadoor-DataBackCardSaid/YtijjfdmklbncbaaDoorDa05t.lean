/-
  DataBack: what the statement holds.
-/
import Derived.Test.YtijjfdmklbncbaaDoorDa05r
import Derived.Test.YtijjfdmklbncbaaDoorDaBack
import Derived.Test.YtijjfdmklbncbaaDoorA5
namespace Go.Proofs.YtijjfdmklbncbaaDoor
open Go.RowKit

theorem Tryd.infoPt : (Tryd.prog.info? 40).map (fun i => (i.zero, i.size, i.bytes)) = some (some (.agg #[.int .u16 0, .string ByteArray.empty]), 2, 24) := by kernel_rfl
structure Rt where
  kind : Nat
  data : ByteArray
  at_ : Nat
  n : Int
def bAt (N : List Rt) : List Value := N.map fun x => .int .i64 (x.at_ : Int)
def bN (N : List Rt) : List Value := N.map fun x => .int .i64 x.n
def bP (N : List Rt) : List Value := N.flatMap fun x => [.int .u16 (x.kind : Int), .string x.data]
theorem BS.keptI {w w' : World} {v v2 : Value} {l : List UInt8} {base k n : Nat} {e : TypeId} {x : List Value} (h : BS w v l) (r : w.ownsRow base e k v2 n x) (he : e ≠ 5) (g : w.grownBy w' v2.ownBlock) : BS w' v l := by
  have key : ∀ b, v.ownBlock = some b → v2.ownBlock ≠ some b := by
    intro b e1 e2
    obtain ⟨c, z, hc⟩ := h.2 b e1
    rcases r.2 with ⟨rfl, _⟩ | ⟨g, cap, cur, rfl, _, hg, _⟩
    · cases e2
    · cases e2
      rw [hg] at hc
      simp at hc
      exact he hc.2.1
  refine ⟨h.1.kept g (fun b e1 => .inr fun e2 => key b e2 e1), fun b e1 => ?_⟩
  obtain ⟨c, z, hc⟩ := h.2 b e1
  exact ⟨c, z, gblock g hc (fun e2 => key b e1 e2.symm)⟩
structure Bd (w : World) (tb : Nat) (m : Option Nat) (T : Tb) (vb : Value) (bl : List UInt8) (va : Value) (na : Nat) (xa : List Value) (vn : Value) (nn : Nat) (xn : List Value) (vp : Value) (np : Nat) (xp : List Value) (wr : World) : Prop where
  gr : w.grownBy wr none
  tab : Tab wr tb m T
  ms : ∀ k, m = some k → w.heap.size ≤ k
  lb : w.heap.size ≤ tb
  bs : BS wr vb bl
  oa : wr.ownsRow (tb + 1) 3 1 va na xa
  on : wr.ownsRow (tb + 1) 3 1 vn nn xn
  op : wr.ownsRow (tb + 1) 40 2 vp np xp
  ne : va.ownBlock = none ∨ va.ownBlock ≠ vn.ownBlock
theorem Bd.quiet {w w1 w2 : World} {tb : Nat} {m : Option Nat} {T : Tb} {vb : Value} {bl : List UInt8} {va vn vp : Value} {na nn np : Nat} {xa xn xp : List Value} (h : Bd w tb m T vb bl va na xa vn nn xn vp np xp w1) (g : w1.grownBy w2 none) : Bd w tb m T vb bl va na xa vn nn xn vp np xp w2 :=
  ⟨gtrans h.gr g, h.tab.kept0 g, h.ms, h.lb, h.bs.kept0 g, own_kept0 h.oa g, own_kept0 h.on g, own_kept0 h.op g, h.ne⟩
theorem Bd.put {w w1 w2 : World} {tb : Nat} {m m' : Option Nat} {T T2 : Tb} {vb : Value} {bl : List UInt8} {va vn vp : Value} {na nn np : Nat} {xa xn xp : List Value} (h : Bd w tb m T vb bl va na xa vn nn xn vp np xp w1) (ht : Tab w2 tb m' T2) (hg : TG w1 w2 tb m) (hms : ∀ i, m' = some i → m = some i ∨ w1.heap.size ≤ i) : Bd w tb m' T2 vb bl va na xa vn nn xn vp np xp w2 ∧ KB w.heap.size w1 w2 := by
  refine ⟨⟨TG.gr h.gr hg h.lb h.ms, ht, fun k e => ?_, h.lb, h.bs.keptT h.tab hg, row_keptT h.oa hg (by omega) h.tab, row_keptT h.on hg (by omega) h.tab, row_keptT h.op hg (by omega) h.tab, h.ne⟩, hg.kb h.gr.size h.lb h.ms⟩
  rcases hms k e with h1 | h1
  · exact h.ms k h1
  · exact Nat.le_trans h.gr.size h1
theorem Bd.a {w w1 w2 : World} {tb : Nat} {m : Option Nat} {T : Tb} {vb : Value} {bl : List UInt8} {va vn vp v' : Value} {na nn np n' : Nat} {xa xn xp x' : List Value} (h : Bd w tb m T vb bl va na xa vn nn xn vp np xp w1) (g : w1.grownBy w2 va.ownBlock) (o : w2.ownsRow (tb + 1) 3 1 v' n' x') (hv : v'.ownBlock = va.ownBlock ∨ v'.ownBlock = some w1.heap.size) : Bd w tb m T vb bl v' n' x' vn nn xn vp np xp w2 :=
  ⟨gstep h.gr g (fun r e => by have := (World.ownsRow.lt h.oa r e).1; have := h.lb; omega), tab_keptR h.tab g h.oa (by omega), h.ms, h.lb, h.bs.keptI h.oa (by decide) g, o, World.ownsRow.kept h.on g (ne_symm h.ne), World.ownsRow.kept h.op g (row_ne h.op h.oa (by decide)), at_ne hv h.ne (fun x e => (World.ownsRow.lt h.on x e).2)⟩
theorem Bd.n {w w1 w2 : World} {tb : Nat} {m : Option Nat} {T : Tb} {vb : Value} {bl : List UInt8} {va vn vp v' : Value} {na nn np n' : Nat} {xa xn xp x' : List Value} (h : Bd w tb m T vb bl va na xa vn nn xn vp np xp w1) (g : w1.grownBy w2 vn.ownBlock) (o : w2.ownsRow (tb + 1) 3 1 v' n' x') (hv : v'.ownBlock = vn.ownBlock ∨ v'.ownBlock = some w1.heap.size) : Bd w tb m T vb bl va na xa v' n' x' vp np xp w2 :=
  ⟨gstep h.gr g (fun r e => by have := (World.ownsRow.lt h.on r e).1; have := h.lb; omega), tab_keptR h.tab g h.on (by omega), h.ms, h.lb, h.bs.keptI h.on (by decide) g, World.ownsRow.kept h.oa g h.ne, o, World.ownsRow.kept h.op g (row_ne h.op h.on (by decide)), ne_symm (at_ne hv (ne_symm h.ne) (fun x e => (World.ownsRow.lt h.oa x e).2))⟩
theorem Bd.p {w w1 w2 : World} {tb : Nat} {m : Option Nat} {T : Tb} {vb : Value} {bl : List UInt8} {va vn vp v' : Value} {na nn np n' : Nat} {xa xn xp x' : List Value} (h : Bd w tb m T vb bl va na xa vn nn xn vp np xp w1) (g : w1.grownBy w2 vp.ownBlock) (o : w2.ownsRow (tb + 1) 40 2 v' n' x') : Bd w tb m T vb bl va na xa vn nn xn v' n' x' w2 :=
  ⟨gstep h.gr g (fun r e => by have := (World.ownsRow.lt h.op r e).1; have := h.lb; omega), tab_keptR h.tab g h.op (by omega), h.ms, h.lb, h.bs.keptI h.op (by decide) g, World.ownsRow.kept h.oa g (row_ne h.oa h.op (by decide)), World.ownsRow.kept h.on g (row_ne h.on h.op (by decide)), o, h.ne⟩
theorem Bd.bytes {w w1 : World} {tb : Nat} {m : Option Nat} {T : Tb} {vb vc : Value} {bl cl : List UInt8} {va vn vp : Value} {na nn np : Nat} {xa xn xp : List Value} (h : Bd w tb m T vb bl va na xa vn nn xn vp np xp w1) (c : BS w1 vc cl) : Bd w tb m T vc cl va na xa vn nn xn vp np xp w1 :=
  ⟨h.gr, h.tab, h.ms, h.lb, c, h.oa, h.on, h.op, h.ne⟩
def RdAll (bl : List UInt8) (N : List Rt) : Prop := ∀ x ∈ N, ∀ B, rdD ⟨(bl ++ B).toArray⟩ (x.at_ : Int) x.n x.kind = (x.data, 0)
theorem RdAll.more {bl : List UInt8} {N : List Rt} (h : RdAll bl N) (c : List UInt8) : RdAll (bl ++ c) N := fun x hx B => by rw [List.append_assoc]; exact h x hx (c ++ B)
theorem RdAll.snoc {bl : List UInt8} {N : List Rt} (h : RdAll bl N) {x : Rt} (hx : ∀ B, rdD ⟨(bl ++ B).toArray⟩ (x.at_ : Int) x.n x.kind = (x.data, 0)) : RdAll bl (N ++ [x]) := fun y hy B => by
  rcases List.mem_append.1 hy with hy | hy
  · exact h y hy B
  · rw [List.mem_singleton.1 hy]; exact hx B
theorem sl_empty {w : World} {A : Option Addr} {n cap : Nat} {l : List UInt8} (h : SlB w (.slice A n cap) l) : SlB w (.slice A ([] : List UInt8).length cap) [] := by
  obtain ⟨A', cap', e, h1, h2, h3⟩ := h
  simp only [Value.slice.injEq] at e
  obtain ⟨rfl, _, rfl⟩ := e
  exact ⟨A, cap, rfl, by simp, fun e => ⟨rfl, (h2 e).2⟩, fun ad had j u hu => by simp [bv] at hu⟩
theorem rowp_cell {w : World} {base n cap : Nat} {A : Option Addr} {N : List Rt} (h : w.ownsRow base 40 2 (.slice A n cap) N.length (bP N)) {j : Nat} {x : Rt} (hj : N[j]? = some x) : ∃ g, A = some ⟨g, 0, none⟩ ∧ w.cell? ⟨g, j * 2, none⟩ = some (.int .u16 (x.kind : Int)) ∧ w.cell? ⟨g, j * 2 + 1, none⟩ = some (.string x.data) := by
  obtain ⟨hjl, e⟩ := List.getElem?_eq_some_iff.1 hj
  obtain ⟨g, h1, _, _, _, h4⟩ := FS.cellAt (k := 2) (f := fun x : Rt => [Value.int .u16 (x.kind : Int), .string x.data]) (fun _ => rfl) (FS.of h) hjl
  rw [e] at h4
  exact ⟨g, h1, h4 0 (by omega), h4 1 (by omega)⟩
end Go.Proofs.YtijjfdmklbncbaaDoor
