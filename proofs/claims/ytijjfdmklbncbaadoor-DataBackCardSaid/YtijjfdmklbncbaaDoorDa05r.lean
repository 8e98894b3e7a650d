/-
  DataWrites: what the statement holds.
-/
import Derived.Test.YtijjfdmklbncbaaDoorA9
import Derived.Test.YtijjfdmklbncbaaDoorDa05l
import Derived.Test.YtijjfdmklbncbaaDoorDaPt
import Derived.Test.YtijjfdmklbncbaaDoorDaLaw
namespace Go.Proofs.YtijjfdmklbncbaaDoor
open Go.RowKit

/-- Bytes that lie in a row of bytes. -/
def BS (w : World) (v : Value) (l : List UInt8) : Prop := SlB w v l ∧ ∀ b, v.ownBlock = some b → ∃ c z, w.heap[b]? = some (.cells c 5 z)
theorem BS.of {w : World} {base : Nat} {v : Value} {l : List UInt8} (h : Own w base v l) : BS w v l := by
  refine ⟨h.sl, fun b e => ?_⟩
  rcases h.2 with ⟨rfl, _⟩ | ⟨g, cap, cur, rfl, _, hg, _⟩
  · cases e
  · cases e
    exact ⟨_, _, hg⟩
theorem BS.kept0 {w w' : World} {v : Value} {l : List UInt8} (h : BS w v l) (g : w.grownBy w' none) : BS w' v l :=
  ⟨h.1.kept0 g, fun b e => by obtain ⟨c, z, hc⟩ := h.2 b e; exact ⟨c, z, gblock g hc (by simp)⟩⟩
theorem BS.keptT {w w' : World} {v : Value} {l : List UInt8} {tb : Nat} {m : Option Nat} {T : Tb} (h : BS w v l) (t : Tab w tb m T) (g : TG w w' tb m) : BS w' v l := by
  have h1 : v.ownBlock ≠ some tb := by
    intro e
    obtain ⟨c, z, hc⟩ := h.2 tb e
    have := t.cell
    rw [hc] at this
    cases this
  have h2 : ∀ k, m = some k → v.ownBlock ≠ some k := by
    intro k e e'
    subst e
    obtain ⟨c, z, hc⟩ := h.2 k e'
    obtain ⟨⟨D, ⟨es, clock, hm, _⟩, _⟩, _⟩ := t.some k rfl
    rw [hc] at hm
    cases hm
  refine ⟨h.1.keptT g h1 h2, fun b e => ?_⟩
  obtain ⟨c, z, hc⟩ := h.2 b e
  exact ⟨c, z, g.blk hc (fun e' => h1 (by rw [e, e'])) (fun e' => by subst e'; exact h2 b rfl e)⟩
theorem BS.keptR {w w' : World} {v vt : Value} {l : List UInt8} {rb : Nat} {T : Tb} (h : BS w v l) (t : RT w rb vt T) (g : w.grownBy w' (some rb)) : BS w' v l := by
  have h1 : v.ownBlock ≠ some rb := by
    intro e
    obtain ⟨c, z, hc⟩ := h.2 rb e
    have := t.cell
    rw [hc] at this
    cases this
  refine ⟨h.1.kept g (fun b e => .inr (by cases e; exact h1)), fun b e => ?_⟩
  obtain ⟨c, z, hc⟩ := h.2 b e
  exact ⟨c, z, gblock g hc (fun e' => h1 (e.trans e'))⟩
theorem tab_keptB {w w' : World} {tb rb : Nat} {m : Option Nat} {T T2 : Tb} {vt : Value} (h : Tab w tb m T) (t : RT w rb vt T2) (g : w.grownBy w' (some rb)) : Tab w' tb m T := by
  refine h.kept g ?_ ?_
  · intro e
    obtain rfl : rb = tb := Option.some.inj e
    have := h.cell
    rw [t.cell] at this
    cases this
  · right
    intro e
    obtain ⟨⟨D, ⟨es, clock, hm, _⟩, _⟩, _⟩ := h.some rb e.symm
    rw [t.cell] at hm
    cases hm
theorem RT.keptT {w w' : World} {tb rb : Nat} {m : Option Nat} {T T2 : Tb} {vt : Value} (t : RT w rb vt T2) (h : Tab w tb m T) (g : TG w w' tb m) : RT w' rb vt T2 := by
  have key : ∀ {k : Nat} {c : Array Value} {e : TypeId} {z : Nat × Nat}, w.heap[k]? = some (.cells c e z) → e ≠ 69 → w'.heap[k]? = some (.cells c e z) := by
    intro k c e z hk he
    refine g.blk hk ?_ ?_
    · intro e'
      subst e'
      have := h.cell
      rw [hk] at this
      simp at this
      exact he this.2.1
    · intro e'
      subst e'
      obtain ⟨⟨D, ⟨es, clock, hm, _⟩, _⟩, _⟩ := h.some k rfl
      rw [hk] at hm
      cases hm
  refine ⟨key t.cell (by decide), t.row.1, ?_⟩
  rcases t.row.2 with h2 | ⟨g2, cap, cur, h3, h4, h5, h6⟩
  · exact .inl h2
  · exact .inr ⟨g2, cap, cur, h3, h4, key h5 (by decide), h6⟩
theorem putF_len2 {n : ByteArray} (cmp : Bool) (T : Tb) (out : List UInt8) (hn : may n = true) : (putF n cmp cmp 0 T out).2.length ≤ T.length + 255 ∧ (putF n cmp cmp 0 T out).1.length ≤ out.length + n.size + 1 := by
  have h1 := putF_few n cmp cmp _ 0 T out rfl
  have h2 := putF_outlen n cmp cmp _ 0 T out rfl (may_size hn).2
  have := (may_size hn).1
  omega
theorem wrF_len (cmp : Bool) : ∀ (l : List Pc) (T : Tb) (out : List UInt8), (∀ x ∈ l, x.name = true → may x.text = true) → (wrF cmp l T out).1.length ≤ out.length + (tx l).length + l.length ∧ (wrF cmp l T out).2.length ≤ T.length + 255 * l.length := by
  intro l
  induction l with
  | nil => intro T out _; simp [wrF, tx]
  | cons x l ih =>
    intro T out h
    have h1 := h x (List.mem_cons_self ..)
    have ih' := fun T out => ih T out (fun y hy => h y (List.mem_cons_of_mem _ hy))
    rw [tx_cons, List.length_append, nlen, List.length_cons]
    cases hn : x.name with
    | true =>
      rw [wrF_nam hn]
      have := putF_len2 cmp T out (h1 hn)
      have := ih' (putF x.text cmp cmp 0 T out).2 (putF x.text cmp cmp 0 T out).1
      omega
    | false =>
      rw [wrF_txt hn]
      have := ih' T (out ++ x.text.data.toList)
      rw [List.length_append, nlen] at this
      omega
theorem wrF_low (cmp : Bool) : ∀ (l : List Pc) (T : Tb) (out : List UInt8), Low T → Low (wrF cmp l T out).2 := by
  intro l
  induction l with
  | nil => intro T out h; exact h
  | cons x l ih =>
    intro T out h
    cases hn : x.name with
    | true => rw [wrF_nam hn]; exact ih _ _ (putF_low x.text cmp cmp _ 0 T out rfl h)
    | false => rw [wrF_txt hn]; exact ih _ _ h
theorem twrite_no {b : Nat} {m : Option Nat} {T : Tb} {va : Value} {a : List UInt8} {kind : Nat} {d : ByteArray} {w : World} (he : Et w) (h : Tab w b m T) (ha : SlB w va a) (hd : d.size ≤ 1000000) (hT : T.length ≤ 900000) (hal : a.length ≤ 900000000) (hw : whF kind d = none) :
    Calls Tryd.prog 16 #[va, .pointer (some ⟨b, 0, none⟩), .int .u16 kind, .string d] w fun e w' => e = .returned (.tuple #[.slice none 0 0, .int .i64 3]) ∧ w.grownBy w' none := by
  refine (twrite_any b m T va a kind d w he h ha hd hT hal).mono ?_
  intro e w' hp
  unfold WrPost at hp
  rw [hw] at hp
  exact hp
theorem twrite_yes {b : Nat} {m : Option Nat} {T : Tb} {va : Value} {a : List UInt8} {kind : Nat} {d : ByteArray} {w : World} (he : Et w) (h : Tab w b m T) (ha : SlB w va a) (hd : d.size ≤ 1000000) (hT : T.length ≤ 900000) (hal : a.length ≤ 900000000) {l : List Pc} (hw : whF kind d = some l) {r : List UInt8 × Tb} (hr : wrF (cmpF kind) l T a = r) :
    Calls Tryd.prog 16 #[va, .pointer (some ⟨b, 0, none⟩), .int .u16 kind, .string d] w fun e w' => ∃ v' m', e = .returned (.tuple #[v', .int .i64 0]) ∧ Own w' w.heap.size v' r.1 ∧ Tab w' b m' r.2 ∧ TG w w' b m ∧ ∀ i, m' = some i → m = some i ∨ w.heap.size ≤ i := by
  refine (twrite_any b m T va a kind d w he h ha hd hT hal).mono ?_
  intro e w' hp
  unfold WrPost at hp
  rw [hw] at hp
  simp only at hp
  rw [hr] at hp
  exact hp
theorem rwrite_no {b : Nat} {vt : Value} {T : Tb} {a : List UInt8} {kind : Nat} {d : ByteArray} {w : World} (h : RT w b vt T) (hlow : Low T) (hd : d.size ≤ 5000) (hT : T.length ≤ 900000) (hal : a.length ≤ 900000) (hw : whF kind d = none) :
    Calls Tryd.prog 17 #[.string ⟨a.toArray⟩, .pointer (some ⟨b, 0, none⟩), .int .u16 kind, .string d] w fun e w' => e = .returned (.tuple #[.string ByteArray.empty, .int .i64 3]) ∧ w.grownBy w' none := by
  refine (rwrite_any b vt T a kind d w h hlow hd hT hal).mono ?_
  intro e w' hp
  unfold RwrPost at hp
  rw [hw] at hp
  exact hp
theorem rwrite_yes {b : Nat} {vt : Value} {T : Tb} {a : List UInt8} {kind : Nat} {d : ByteArray} {w : World} (h : RT w b vt T) (hlow : Low T) (hd : d.size ≤ 5000) (hT : T.length ≤ 900000) (hal : a.length ≤ 900000) {l : List Pc} (hw : whF kind d = some l) {r : List UInt8 × Tb} (hr : wrF (cmpF kind) l T a = r) :
    Calls Tryd.prog 17 #[.string ⟨a.toArray⟩, .pointer (some ⟨b, 0, none⟩), .int .u16 kind, .string d] w fun e w' => e = .returned (.tuple #[.string ⟨r.1.toArray⟩, .int .i64 0]) ∧ ∃ v', RT w' b v' r.2 ∧ w.grownBy w' (some b) := by
  refine (rwrite_any b vt T a kind d w h hlow hd hT hal).mono ?_
  intro e w' hp
  unfold RwrPost at hp
  rw [hw] at hp
  simp only at hp
  rw [hr] at hp
  exact hp
/-- What the statement holds at its loop's head. -/
structure Ww (w : World) (tb rb : Nat) (T Tr : Tb) (vb : Value) (bl : List UInt8) (i : Nat) (s : Nat) (wr : World) : Prop where
  gr : w.grownBy wr none
  tab : ∃ m, Tab wr tb m T ∧ ∀ k, m = some k → w.heap.size ≤ k
  ref : ∃ vt, RT wr rb vt Tr
  low : Low Tr
  lb : w.heap.size ≤ tb
  lr : w.heap.size ≤ rb
  bs : BS wr vb bl
  few : T.length ≤ 765 * i
  len : bl.length ≤ 3000 + s
theorem Ww.quiet {w w1 w2 : World} {tb rb i s : Nat} {T Tr : Tb} {vb : Value} {bl : List UInt8} (h : Ww w tb rb T Tr vb bl i s w1) (g : w1.grownBy w2 none) : Ww w tb rb T Tr vb bl i s w2 := by
  obtain ⟨m, ht, hm⟩ := h.tab
  obtain ⟨vt, hr⟩ := h.ref
  exact ⟨gtrans h.gr g, ⟨m, ht.kept0 g, hm⟩, ⟨vt, hr.kept0 g⟩, h.low, h.lb, h.lr, h.bs.kept0 g, h.few, h.len⟩
end Go.Proofs.YtijjfdmklbncbaaDoor
