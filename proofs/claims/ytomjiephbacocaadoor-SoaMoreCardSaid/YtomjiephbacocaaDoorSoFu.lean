/-
  Soa: closed examples, and what an example's set tells.
-/
import Derived.Test.YtomjiephbacocaaDoorSo10n
import Derived.Test.YtomjiephbacocaaDoorA4
namespace Go.Proofs.YtomjiephbacocaaDoor
open Go.RowKit

def wnK : Nat → ByteArray → Int → Nat → Option Nat
  | 0, _, _, _ => none
  | k + 1, n, cut, p => if (p : Int) < cut then wnK k n cut (p + 1 + bt n p) else some p
theorem wnK_eq {n : ByteArray} {cut : Int} : ∀ (k p q : Nat), wnK k n cut p = some q → wn n cut p = q := by
  intro k
  induction k with
  | zero => intro p q h; cases h
  | succ k ih =>
    intro p q h
    unfold wnK at h
    by_cases hp : (p : Int) < cut
    · rw [if_pos hp] at h
      rw [wn_step hp]
      exact ih _ _ h
    · rw [if_neg hp] at h
      rw [wn_end hp]
      exact Option.some.inj h
theorem wi_is {n z : ByteArray} {a b r : Bool} (k q : Nat) (hn : may n = a) (hz : may z = b) (h : wnK k n ((n.size : Int) - z.size) 0 = some q) (hr : (a && b && decide ((q : Int) = (n.size : Int) - z.size) && decide (lowB (suf n q) = lowB z)) = r) : wiN n z = r := by
  unfold wiN
  rw [hn, hz, wnK_eq k 0 q h]
  exact hr
def ncK : Nat → ByteArray → Nat → Option Nat
  | 0, _, _ => none
  | k + 1, s, p => if p < s.size ∧ ¬ bt s p = 0 then (ncK k s (p + 1 + bt s p)).map (· + 1) else some 0
theorem ncK_eq {s : ByteArray} : ∀ (k p q : Nat), ncK k s p = some q → (lbs s p).length = q := by
  intro k
  induction k with
  | zero => intro p q h; cases h
  | succ k ih =>
    intro p q h
    unfold ncK at h
    by_cases hp : p < s.size ∧ ¬ bt s p = 0
    · rw [if_pos hp] at h
      rw [lbs_step hp.1 hp.2, List.length_cons]
      cases hq : ncK k s (p + 1 + bt s p) with
      | none => rw [hq] at h; cases h
      | some r => rw [hq] at h; rw [ih _ _ hq]; exact Option.some.inj h
    · rw [if_neg hp] at h
      have : lbs s p = [] := by rw [lbs, dif_neg hp]
      rw [this]
      exact Option.some.inj h
theorem nlb_is {s : ByteArray} (k q : Nat) (hm : may s = true) (h : ncK k s 0 = some q) : nlb s = q := by
  unfold nlb
  rw [if_pos hm]
  exact ncK_eq k 0 q h
theorem bI2 (n : ByteArray) (c : Nat) (x y : St) : bI n c [x, y] 2 = if innB n c y (if innB n c x (-1) = true then ((0 : Nat) : Int) else -1, if innB n c x (-1) = true then (nlb x.name : Int) else -1).2 = true then (((1 : Nat) : Int), (nlb y.name : Int)) else (if innB n c x (-1) = true then ((0 : Nat) : Int) else -1, if innB n c x (-1) = true then (nlb x.name : Int) else -1) := by
  by_cases h : innB n c x (-1) = true
  · simp only [bI, List.getElem?_cons_zero, List.getElem?_cons_succ, h, if_true]
  · simp only [bI, List.getElem?_cons_zero, List.getElem?_cons_succ, h]
    rfl
theorem bI1 (n : ByteArray) (c : Nat) (x : St) : bI n c [x] 1 = if innB n c x (-1) = true then (((0 : Nat) : Int), (nlb x.name : Int)) else (-1, -1) := by
  simp only [bI, List.getElem?_cons_zero]
  rfl
theorem fnd_is {n : ByteArray} {c : Nat} {l : List St} {j : Nat} {d : Int} {x : St} (h : bI n c l l.length = ((j : Int), d)) (hx : l[j]? = some x) : fndF n c l = if x.data.length = 1 then .got x else .bad := by
  unfold fndF
  rw [h, if_neg (by show ¬ ((j : Int) < 0); omega)]
  show (match l[((j : Int)).toNat]? with | none => Fd.non | some x => if x.data.length = 1 then .got x else .bad) = _
  rw [Int.toNat_natCast, hx]
theorem fnd_non {n : ByteArray} {c : Nat} {l : List St} {d : Int} (h : bI n c l l.length = (-1, d)) : fndF n c l = .non := by
  unfold fndF
  rw [h]
  rfl
theorem ofD_eq (last : ByteArray) : ofD last = ⟨((⟨#[0]⟩ : ByteArray).data.toList ++ (⟨#[0]⟩ : ByteArray).data.toList ++ ((⟨#[0, 0, 0, 0, 0, 0, 0, 0, 0, 0, 0, 0, 0, 0, 0, 0]⟩ : ByteArray) ++ last).data.toList).toArray⟩ := by
  apply ba_ext
  unfold ofD
  simp
theorem mayR : may ⟨#[0]⟩ = true := may_of 9 (by decide) (by decide +kernel)
theorem ofD_may {last : ByteArray} (h : last.size = 4) : mayD 6 (ofD last) = true := by
  rw [ofD_eq]
  exact soa_may mayR mayR (by simp [h]; rfl)
theorem ofD_size (last : ByteArray) : (ofD last).size = 18 + last.size := by
  unfold ofD
  simp
  rfl
theorem num_last {d a : ByteArray} {l : List UInt8} (h : d.data.toList = l ++ a.data.toList) (ha : a.size = 4) : num d (d.size - 4) 4 = be a.data.toList := by
  have hs : d.size = l.length + 4 := by rw [← nlen, h, List.length_append, nlen, ha]
  unfold num
  rw [h, hs, Nat.add_sub_cancel, List.drop_left, List.take_of_length_le (by rw [nlen, ha]; exact Nat.le_refl _)]
theorem tm_of (n : ByteArray) (ttl : Nat) (last : ByteArray) (g : Nat) (h : last.size = 4) : tmF (ofS n ttl last g) = min (clp ttl) (clp (be last.data.toList)) := by
  refine Eq.trans (b := min (clp ttl) (clp (num (ofD last) ((ofD last).size - 4) 4))) (if_pos ⟨rfl, ofD_may h⟩) ?_
  rw [num_last (d := ofD last) (a := last) (l := (⟨#[0, 0]⟩ ++ ⟨#[0, 0, 0, 0, 0, 0, 0, 0, 0, 0, 0, 0, 0, 0, 0, 0]⟩ : ByteArray).data.toList) (by unfold ofD; simp) h]

def zA : ByteArray := ⟨#[1, 97, 2, 69, 120, 0]⟩
def zC : ByteArray := ⟨#[3, 99, 111, 109, 0]⟩
theorem mayzE : may zE = true := may_of 9 (by decide) (by decide +kernel)
theorem mayzR : may zR = true := mayR
theorem mayzA : may zA = true := may_of 9 (by decide) (by decide +kernel)
theorem mayzC : may zC = true := may_of 9 (by decide) (by decide +kernel)
theorem wAE : wiN zA zE = true := wi_is 9 2 mayzA mayzE (by decide +kernel) (by decide +kernel)
theorem wAR : wiN zA zR = true := wi_is 9 5 mayzA mayzR (by decide +kernel) (by decide +kernel)
theorem wEE : wiN zE zE = true := wi_is 9 0 mayzE mayzE (by decide +kernel) (by decide +kernel)
theorem wER : wiN zE zR = true := wi_is 9 3 mayzE mayzR (by decide +kernel) (by decide +kernel)
theorem wCE : wiN zC zE = false := wi_is 9 4 mayzC mayzE (by decide +kernel) (by decide +kernel)
theorem wCR : wiN zC zR = true := wi_is 9 4 mayzC mayzR (by decide +kernel) (by decide +kernel)
theorem lbE : nlb zE = 1 := nlb_is 9 1 mayzE (by decide +kernel)
theorem lbR : nlb zR = 0 := nlb_is 9 0 mayzR (by decide +kernel)
theorem inn_of (n : ByteArray) (c : Nat) (z : ByteArray) (ttl : Nat) (last : ByteArray) (g : Nat) (d : Int) : innB n c (ofS z ttl last g) d = (decide (1 = c) && wiN n z && decide (d < (nlb z : Int))) := by
  unfold innB fitB ofS
  simp
theorem lbE' (g : Nat) : nlb (ofS zE 9 d5 g).name = 1 := lbE
theorem lbR' (g : Nat) : nlb (ofS zR 9 d256 g).name = 0 := lbR
theorem fA (g0 g1 : Nat) : fndF zA 1 [ofS zE 9 d5 g0, ofS zR 9 d256 g1] = .got (ofS zE 9 d5 g0) := by
  rw [fnd_is (j := 0) (d := 1) (x := ofS zE 9 d5 g0) ?_ rfl]
  · rfl
  · show bI zA 1 _ 2 = _
    rw [bI2]
    simp only [inn_of, wAE, wAR, lbE, lbR, lbE', lbR']
    decide
theorem fE (g0 g1 : Nat) : fndF zE 1 [ofS zE 9 d5 g0, ofS zR 9 d256 g1] = .got (ofS zE 9 d5 g0) := by
  rw [fnd_is (j := 0) (d := 1) (x := ofS zE 9 d5 g0) ?_ rfl]
  · rfl
  · show bI zE 1 _ 2 = _
    rw [bI2]
    simp only [inn_of, wEE, wER, lbE, lbR, lbE', lbR']
    decide
theorem fC (g0 g1 : Nat) : fndF zC 1 [ofS zE 9 d5 g0, ofS zR 9 d256 g1] = .got (ofS zR 9 d256 g1) := by
  rw [fnd_is (j := 1) (d := 0) (x := ofS zR 9 d256 g1) ?_ rfl]
  · rfl
  · show bI zC 1 _ 2 = _
    rw [bI2]
    simp only [inn_of, wCE, wCR, lbE, lbR, lbE', lbR']
    decide
theorem fBad (v : Value) (l : List ByteArray) (hl : l.length ≠ 1) : fndF zE 1 [⟨zE, 6, 1, 9, v, l⟩] = .bad := by
  rw [fnd_is (j := 0) (d := 1) (x := ⟨zE, 6, 1, 9, v, l⟩) ?_ rfl]
  · exact if_neg hl
  · show bI zE 1 _ 1 = _
    rw [bI1]
    have : innB zE 1 ⟨zE, 6, 1, 9, v, l⟩ (-1) = true := by
      unfold innB fitB
      simp [wEE, lbE]
    rw [this, if_pos rfl]
    show (((0 : Nat) : Int), (nlb zE : Int)) = _
    rw [lbE]
    rfl
theorem tm5 (v : Value) : tmF ((ofS zE 9 d5 0).at v) = 5 := by
  show tmF (ofS zE 9 d5 0) = 5
  rw [tm_of _ _ _ _ rfl]
  decide +kernel
theorem tm9 (v : Value) : tmF ((ofS zR 9 d256 0).at v) = 9 := by
  show tmF (ofS zR 9 d256 0) = 9
  rw [tm_of _ _ _ _ rfl]
  decide +kernel
end Go.Proofs.YtomjiephbacocaaDoor
