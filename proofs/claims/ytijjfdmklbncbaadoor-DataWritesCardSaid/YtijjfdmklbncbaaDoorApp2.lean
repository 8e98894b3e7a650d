/-
  append of elements of k cells at a step of a region that draws its order.
-/
import Derived.Test.YtijjfdmklbncbaaDoorApp
import Derived.Deep.RegionHeld3
namespace Go.Proofs.YtijjfdmklbncbaaDoor
open Go.RowKit

theorem run_app_k {P : Program} (w : World) (base : Nat) (t ty e : TypeId) (i : TypeInfo) (z : Value) (k bytes : Nat) (h1 : P.underlying t = some (.slice e)) (h2 : P.info? e = some i) (h3 : i.zero = some z) (h4 : i.size = k) (h5 : i.bytes = bytes) (h6 : z.cells.size = k) (h7 : 0 < k)
    (v : Value) (n m : Nat) (xs news : List Value) (hown : w.ownsRow base e k v n xs) (vx : Value) (hsl : Sl w k vx m news) (hone : ∀ u ∈ news, u.oneCell' = true) (b0 : n + m ≤ maxLen) (b1 : (n + m) * bytes ≤ 140737488355328) (hb : base ≤ w.heap.size) :
    ∃ v' w', (Builtin.append_ #[t, t] ty #[v, vx]).run P w = .ok v' w' ∧ w'.ownsRow base e k v' (n + m) (xs ++ news) ∧ w.grownBy w' v.ownBlock := by
  obtain ⟨A, c, rfl, _, k1, k2, k3⟩ := hsl
  cases A with
  | none =>
    obtain ⟨rfl, rfl⟩ := k2 rfl
    have : news = [] := List.eq_nil_of_length_eq_zero (by simpa using k1)
    subst this
    exact ⟨v, w, run_append_owned_none (P := P) w base t ty e i k h1 h2 v n xs hown, by simpa using hown, grefl w _⟩
  | some ad =>
    obtain ⟨v', w', hr, ho, hg, _⟩ := run_append_own (P := P) w base t ty e i z k bytes h1 h2 h3 h4 h5 h6 h7 v n xs hown ad m c news k1 (by
      intro j u hu
      have hm : 0 < m := by
        rcases Nat.eq_zero_or_pos m with h0 | h0
        · subst h0
          have : news = [] := List.eq_nil_of_length_eq_zero (by simpa using k1)
          subst this
          simp at hu
        · exact h0
      obtain ⟨b, off, e1, hc⟩ := k3 hm
      cases e1
      rw [Addr.add_lit]
      exact hc j u hu) hone b0 b1 hb
    exact ⟨v', w', hr, ho, hg⟩
theorem step_app_k {P : Program} {w : World} {ops : Array Oper} {o : Oper} {a : Act} {K : Act → World → Prop} {Q : Exit → Act → World → Prop} {E : Prop} (hgd : o.guard = none) (s x : Operand) (t : TypeId) (hop : o.op = Op.call { callee := Callee.builtin Builtin.append, args := #[s, x], argTypes := #[t, t] })
    (base : Nat) (e : TypeId) (i : TypeInfo) (z : Value) (k bytes : Nat) (h1 : P.underlying t = some (.slice e)) (h2 : P.info? e = some i) (h3 : i.zero = some z) (h4 : i.size = k) (h5 : i.bytes = bytes) (h6 : z.cells.size = k) (h7 : 0 < k)
    (v : Value) (n m : Nat) (xs news : List Value) (hs : a.eval s = v) (hown : w.ownsRow base e k v n xs) (vx : Value) (hx : a.eval x = vx) (hsl : Sl w k vx m news) (hone : ∀ u ∈ news, u.oneCell' = true) (b0 : n + m ≤ maxLen) (b1 : (n + m) * bytes ≤ 140737488355328) (hb : base ≤ w.heap.size)
    (hK : ∀ v' w', w'.ownsRow base e k v' (n + m) (xs ++ news) → w.grownBy w' v.ownBlock → K (a.put o.dst v') w') : if Region.wanted o (yielded ops a.tmps) = true then Oper.wp P o a w K Q else E := by
  have hw : Region.wanted o (yielded ops a.tmps) = true := by simp [Region.wanted, hgd]
  rw [if_pos hw]
  obtain ⟨v', w', hr, h8, h9⟩ := run_app_k (P := P) w base t o.type e i z k bytes h1 h2 h3 h4 h5 h6 h7 v n m xs news hown vx hsl hone b0 b1 hb
  unfold Oper.wp execOp
  simp only [hop, resolve, invoke, builtin, Sem.run_bind, Sem.run_pure, Result.andThen_ok, List.map_toArray, List.map_cons, List.map_nil, hs, hx, hr]
  exact hK v' w' h8 h9
end Go.Proofs.YtijjfdmklbncbaaDoor
