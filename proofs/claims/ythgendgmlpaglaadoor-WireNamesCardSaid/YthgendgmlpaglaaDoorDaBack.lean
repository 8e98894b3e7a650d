/-
  What is written is read as it was (layer 5): plain laws.
-/
import Derived.Test.YthgendgmlpaglaaDoorDaLaw
import Derived.Test.YthgendgmlpaglaaDoorA4
namespace Go.Proofs.YthgendgmlpaglaaDoor

theorem rd_moreA {b c : List UInt8} {p : Nat} {m : List UInt8} {next : Nat} (h : rdAt ⟨b.toArray⟩ (p : Int) = .ok m next) : rdF ⟨(b ++ c).toArray⟩ p p none [] = .ok m next := by
  obtain ⟨_, _, _, h3, h4, h5⟩ := rdAt_ok h
  rw [Int.toNat_natCast] at h5
  exact rd_more (aheadL b c) h5
theorem put_short {n : ByteArray} (cmp : Bool) {T : Tb} {a : List UInt8} (hn : may n = true) (hT : TOk a T) : (putF n cmp cmp 0 T a).1.length ≤ a.length + n.size := by
  rcases put_shape n cmp cmp a.length _ 0 T a rfl (may_size hn).2 hT.1 (fun x hx => .inl (hT.2 x hx).1) with h | ⟨q, j, _, h1, _, _, h⟩
  · rw [h]; have := nlen n; simp <;> omega
  · rw [h]; have := nlen n; simp [ptrB] <;> omega
theorem run_back (cmp : Bool) : ∀ (cs : List Ck) (l : List Pc) (T : Tb) (a : List UInt8), (∀ c ∈ cs, Inner c) → Fit cs l → TOk a T →
    ∃ c l', (wrF cmp l T a).1 = a ++ c ∧ TOk (wrF cmp l T a).1 (wrF cmp l T a).2 ∧ c.length ≤ (tx l).length ∧ tx l' = tx l ∧
      ∀ (B : List UInt8) (out : List Pc), runF cs ⟨((wrF cmp l T a).1 ++ B).toArray⟩ a.length out = .ok (out ++ l') (wrF cmp l T a).1.length := by
  intro cs
  induction cs with
  | nil =>
    intro l T a _ hf hT
    cases l with
    | nil => exact ⟨[], [], by simp [wrF], hT, by simp, rfl, fun B out => by simp [runF, wrF]⟩
    | cons x l => cases hf
  | cons c cs ih =>
    intro l T a hc hf hT
    cases l with
    | nil => cases hf
    | cons x l =>
      obtain ⟨h1, h2⟩ := hf
      have hc' : ∀ c' ∈ cs, Inner c' := fun c' h' => hc c' (List.mem_cons_of_mem _ h')
      rcases hc c (List.mem_cons_self ..) with ⟨n, rfl⟩ | rfl
      · rw [wrF_txt h1.2]
        obtain ⟨d, l', e1, e2, e3, e4, e5⟩ := ih l T (a ++ x.text.data.toList) hc' h2 (hT.more _)
        refine ⟨x.text.data.toList ++ d, ⟨x.text, x.name, a.length + x.text.size⟩ :: l', by rw [e1, List.append_assoc], e2, by rw [tx_cons, List.length_append, List.length_append]; omega, by rw [tx_cons, tx_cons, e4], fun B out => ?_⟩
        unfold runF
        have e : (wrF cmp l T (a ++ x.text.data.toList)).1 ++ B = a ++ x.text.data.toList ++ (d ++ B) := by rw [e1]; simp
        have hcl := num_clear h1 a (d ++ B)
        rw [← e] at hcl
        rw [hcl]
        simp only
        have := e5 B (out ++ [⟨x.text, x.name, a.length + x.text.size⟩])
        rw [List.length_append, nlen] at this
        rw [this, List.append_assoc]
        rfl
      · rw [wrF_nam h1.2]
        obtain ⟨⟨d1, p1⟩, p2, p3⟩ := put_ok cmp cmp h1.1 hT
        have hsh := put_short cmp h1.1 hT
        obtain ⟨d, l', e1, e2, e3, e4, e5⟩ := ih l (putF x.text cmp cmp 0 T a).2 (putF x.text cmp cmp 0 T a).1 hc' h2 p3
        refine ⟨d1 ++ d, ⟨x.text, true, (putF x.text cmp cmp 0 T a).1.length⟩ :: l', by rw [e1, p1, List.append_assoc], e2, ?_, by rw [tx_cons, tx_cons, e4], fun B out => ?_⟩
        · rw [tx_cons, List.length_append, List.length_append, nlen]
          rw [p1, List.length_append] at hsh
          omega
        · unfold runF ckF
          simp only
          have e : (wrF cmp l (putF x.text cmp cmp 0 T a).2 (putF x.text cmp cmp 0 T a).1).1 ++ B = (putF x.text cmp cmp 0 T a).1 ++ (d ++ B) := by rw [e1]; simp
          have hr := rd_moreA (c := d ++ B) p2
          rw [← e] at hr
          rw [hr]
          simp only
          have := e5 B (out ++ [⟨x.text, true, (putF x.text cmp cmp 0 T a).1.length⟩])
          rw [mk_data, this, List.append_assoc]
          rfl
theorem ext_front (b c : List UInt8) : (⟨(b ++ c).toArray⟩ : ByteArray).extract 0 b.length = ⟨b.toArray⟩ := by
  rw [mk_ext, List.drop_zero, Nat.sub_zero, List.take_left]
/-- What is written is read as it was. -/
theorem wr_back {kind : Nat} {d : ByteArray} {l : List Pc} (hw : whF kind d = some l) {T : Tb} {a : List UInt8} (hT : TOk a T) (cmp : Bool) :
    (∃ c, (wrF cmp l T a).1 = a ++ c) ∧ TOk (wrF cmp l T a).1 (wrF cmp l T a).2 ∧ (wrF cmp l T a).1.length ≤ a.length + d.size ∧
    ∀ B, rdD ⟨((wrF cmp l T a).1 ++ B).toArray⟩ (a.length : Int) (((wrF cmp l T a).1.length : Int) - (a.length : Int)) kind = (d, 0) := by
  obtain ⟨h1, h2, _⟩ := wh_good hw
  obtain ⟨h41, hf⟩ := spl_fit (Nat.zero_le _) h1
  have htl : (tx l).length = d.size := by rw [← size_mk, h2]
  have key : (∃ c, (wrF cmp l T a).1 = a ++ c) ∧ TOk (wrF cmp l T a).1 (wrF cmp l T a).2 ∧ (wrF cmp l T a).1.length ≤ a.length + d.size ∧ ∃ l', tx l' = tx l ∧ splF ⟨(wrF cmp l T a).1.toArray⟩ a.length kind = .ok l' := by
    rcases cks_good kind with hk | hk | hk
    · rw [hk] at hf
      match l, hf with
      | [x], ⟨hx, _⟩ =>
        have e : tx [x] = x.text.data.toList := by simp [tx]
        have hxn : x.name = false := hx.2
        rw [wrF_txt hxn]
        have := spl_clear (l := [x]) h41 (by rw [hk]; exact ⟨hx, trivial⟩) a
        rw [e] at this
        exact ⟨⟨_, rfl⟩, hT.more _, by show (a ++ x.text.data.toList).length ≤ _; rw [List.length_append, ← e]; omega, _, re_tx _ _, this⟩
    · rw [hk] at hf
      match l, hf with
      | [x], ⟨hx, _⟩ =>
        have e : tx [x] = x.text.data.toList := by simp [tx]
        have hxn : x.name = false := hx
        rw [wrF_txt hxn]
        have := spl_clear (l := [x]) h41 (by rw [hk]; exact ⟨hx, trivial⟩) a
        rw [e] at this
        exact ⟨⟨_, rfl⟩, hT.more _, by show (a ++ x.text.data.toList).length ≤ _; rw [List.length_append, ← e]; omega, _, re_tx _ _, this⟩
    · obtain ⟨c, l', e1, e2, e3, e4, e5⟩ := run_back cmp (cks kind) l T a hk hf hT
      refine ⟨⟨c, e1⟩, e2, by rw [e1, List.length_append]; omega, l', e4, ?_⟩
      have := e5 [] []
      rw [List.append_nil] at this
      unfold splF
      rw [if_neg h41, this]
      simp only [List.nil_append]
      rw [if_neg (by rw [size_mk]; omega)]
  obtain ⟨⟨c, k1⟩, k2, k3, l', k4, k5⟩ := key
  refine ⟨⟨c, k1⟩, k2, k3, fun B => ?_⟩
  have hle : a.length ≤ (wrF cmp l T a).1.length := by rw [k1, List.length_append]; omega
  unfold rdD
  rw [if_neg (by rw [size_mk, List.length_append]; omega)]
  rw [show ((a.length : Int) + (((wrF cmp l T a).1.length : Int) - (a.length : Int))).toNat = (wrF cmp l T a).1.length by omega, show ((a.length : Int)).toNat = a.length by omega, ext_front, k5]
  simp only
  rw [k4, h2]
end Go.Proofs.YthgendgmlpaglaaDoor
