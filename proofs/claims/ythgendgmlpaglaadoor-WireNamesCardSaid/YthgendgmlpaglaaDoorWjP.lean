/-
  Wire: what is written is read as it was (plain).
-/
import Derived.Test.YthgendgmlpaglaaDoorA22
import Derived.Test.YthgendgmlpaglaaDoorEdNum3
import Derived.Test.YthgendgmlpaglaaDoorDaBack
namespace Go.Proofs.YthgendgmlpaglaaDoor
open Go.RowKit

def Ws.good (s : Ws) : Prop := TOk s.1 s.2
theorem nm_back {n : ByteArray} {s : Ws} (hn : may n = true) (hT : s.good) : (nmF n s).good ∧ (nmF n s).1.length ≤ s.1.length + n.size ∧ (∃ c, (nmF n s).1 = s.1 ++ c) ∧ ∀ B, rdF ⟨((nmF n s).1 ++ B).toArray⟩ s.1.length s.1.length none [] = .ok n.data.toList (nmF n s).1.length := by
  obtain ⟨h1, h2, h3⟩ := put_ok true true hn hT
  exact ⟨h3, put_short true hn hT, h1, fun B => rd_moreA h2⟩
theorem ad_good {s : Ws} (h : s.good) (x : List UInt8) : (adF x s).good := TOk.more h x
theorem be_four (x : Nat) (h : x < 4294967296) : be (enc 4 x) = x := by
  rw [enc_four]
  simp only [be, List.foldl_cons, List.foldl_nil, UInt8.toNat_ofNat']
  omega
theorem num_four_at (l r : List UInt8) (x : Nat) (h : x < 4294967296) : num ⟨(l ++ (enc 4 x ++ r)).toArray⟩ l.length 4 = x := by
  unfold num
  rw [show (⟨(l ++ (enc 4 x ++ r)).toArray⟩ : ByteArray).data.toList = l ++ (enc 4 x ++ r) from rfl, List.drop_left, List.take_left' (enc_len 4 x), be_four x h]
theorem q_back {q : Qn} {s : Ws} (hq : q.rng) (hn : may q.name = true) (hT : s.good) : (qF s q).good ∧ (qF s q).1.length ≤ s.1.length + q.name.size + 4 ∧ ∀ B, rdQ1 ⟨((qF s q).1 ++ B).toArray⟩ s.1.length = .ok (q, (qF s q).1.length) := by
  obtain ⟨h1, h2, _, h4⟩ := nm_back hn hT
  have hl : (qF s q).1.length = (nmF q.name s).1.length + 4 := by unfold qF adF; simp only [List.length_append, enc_len]
  refine ⟨ad_good h1 _, by rw [hl]; omega, fun B => ?_⟩
  have e : (qF s q).1 ++ B = (nmF q.name s).1 ++ (enc 2 q.kind ++ (enc 2 q.cls ++ B)) := by unfold qF adF; simp only [List.append_assoc]
  have hr := h4 (enc 2 q.kind ++ (enc 2 q.cls ++ B))
  rw [← e] at hr
  rw [rdQ1_ok hr (by rw [size_mk, List.length_append, hl]; omega), hl]
  have k1 := num_two_at (nmF q.name s).1 (enc 2 q.cls ++ B) q.kind hq.kind
  have k2 := num_two_at ((nmF q.name s).1 ++ enc 2 q.kind) B q.cls hq.cls
  rw [List.append_assoc, List.length_append, enc_len] at k2
  rw [← e] at k1 k2
  rw [k1, k2, mk_data]
theorem qs_back : ∀ (l : List Qn) (s : Ws), (∀ q ∈ l, q.rng ∧ may q.name = true) → s.good → (qsF s l).good ∧ (qsF s l).1.length ≤ s.1.length + (l.map fun q => q.name.size + 4).sum ∧ ∀ B, rdQs ⟨((qsF s l).1 ++ B).toArray⟩ l.length s.1.length = .ok l (qsF s l).1.length
  | [], s, _, h => ⟨h, Nat.le_refl _, fun B => rfl⟩
  | q :: l, s, hl, h => by
    obtain ⟨hq, hn⟩ := hl q (List.mem_cons_self ..)
    obtain ⟨a1, a2, a3⟩ := q_back hq hn h
    obtain ⟨b1, b2, b3⟩ := qs_back l (qF s q) (fun x hx => hl x (List.mem_cons_of_mem _ hx)) a1
    obtain ⟨⟨X, eX⟩, _⟩ := qsF_le l (qF s q)
    refine ⟨b1, ?_, fun B => ?_⟩
    · show (qsF (qF s q) l).1.length ≤ _
      rw [List.map_cons, List.sum_cons]
      omega
    · show rdQs ⟨((qsF (qF s q) l).1 ++ B).toArray⟩ (l.length + 1) s.1.length = .ok (q :: l) (qsF (qF s q) l).1.length
      have := a3 (X ++ B)
      rw [← List.append_assoc, ← eX] at this
      rw [rdQs, this]
      dsimp only
      rw [b3 B]
      rfl
/-- A record is written as if its length had been known ahead. -/
theorem rF_wr (s : Ws) (r : Rc) : rF s r = wrF (cmpF r.kind) ((whF r.kind r.data).getD []) (nmF r.name s).2 ((nmF r.name s).1 ++ fx r.kind r.cls r.ttl ++ enc 2 ((rF s r).1.length - (rH s r).1.length)) := by
  obtain ⟨X, T', e1, e2⟩ := wrF_base (cmpF r.kind) ((whF r.kind r.data).getD []) (nmF r.name s).2 (rH s r).1 ((nmF r.name s).1 ++ fx r.kind r.cls r.ttl ++ enc 2 ((rF s r).1.length - (rH s r).1.length)) (.inl (by
    unfold rH adF
    simp only [List.length_append, enc_len, List.length_cons, List.length_nil]))
  rw [e2, rF_len]
  have hD : rD s r = ((rH s r).1 ++ X, T') := e1
  unfold rF
  rw [hD]
  simp only [List.length_append, Nat.add_sub_cancel_left, List.drop_left]
  unfold adF
  simp only [List.append_assoc]
theorem rH_len (s : Ws) (r : Rc) : (rH s r).1.length = (nmF r.name s).1.length + 10 := by
  unfold rH adF fx
  simp only [List.length_append, enc_len, List.length_cons, List.length_nil]
theorem r_back {r : Rc} {s : Ws} (hr : r.ok) (h41 : ¬ r.kind = 41) (hT : s.good) : (rF s r).good ∧ (rF s r).1.length ≤ s.1.length + (r.name.size + 10 + r.data.size) ∧
    ((rF s r).1.length ≤ 65535 → ∀ B add d, rd1 ⟨((rF s r).1 ++ B).toArray⟩ add s.1.length d = .put r (rF s r).1.length) := by
  obtain ⟨l, hw⟩ := hr.pcs
  obtain ⟨h1, h2, _, h4⟩ := nm_back hr.name hT
  have hrH := rH_len s r
  have hle : (rH s r).1.length ≤ (rF s r).1.length := by rw [rF_len]; exact (rD_le s r).len
  have hwr := rF_wr s r
  rw [hw, Option.getD_some] at hwr
  generalize hN : (rF s r).1.length - (rH s r).1.length = N at hwr
  have ha : ((nmF r.name s).1 ++ fx r.kind r.cls r.ttl ++ enc 2 N).length = (nmF r.name s).1.length + 10 := by unfold fx; simp only [List.length_append, enc_len]
  obtain ⟨⟨c, k1⟩, k2, k3, k4⟩ := wr_back hw (T := (nmF r.name s).2) (a := (nmF r.name s).1 ++ fx r.kind r.cls r.ttl ++ enc 2 N) (by rw [List.append_assoc]; exact TOk.more h1 _) (cmpF r.kind)
  rw [← hwr] at k1 k2 k3 k4
  rw [ha] at k3
  refine ⟨k2, by omega, fun hl B add d => ?_⟩
  have e : (rF s r).1 ++ B = (nmF r.name s).1 ++ (enc 2 r.kind ++ (enc 2 r.cls ++ (enc 4 r.ttl ++ (enc 2 N ++ (c ++ B))))) := by rw [k1]; unfold fx; simp only [List.append_assoc]
  have hrd := h4 (enc 2 r.kind ++ (enc 2 r.cls ++ (enc 4 r.ttl ++ (enc 2 N ++ (c ++ B)))))
  have n1 := num_two_at (nmF r.name s).1 (enc 2 r.cls ++ (enc 4 r.ttl ++ (enc 2 N ++ (c ++ B)))) r.kind hr.kind
  have n2 := num_two_at ((nmF r.name s).1 ++ enc 2 r.kind) (enc 4 r.ttl ++ (enc 2 N ++ (c ++ B))) r.cls hr.cls
  have n3 := num_four_at ((nmF r.name s).1 ++ enc 2 r.kind ++ enc 2 r.cls) (enc 2 N ++ (c ++ B)) r.ttl hr.ttl
  have n4 := num_two_at ((nmF r.name s).1 ++ enc 2 r.kind ++ enc 2 r.cls ++ enc 4 r.ttl) (c ++ B) N (by omega)
  simp only [List.append_assoc, List.length_append, enc_len, Nat.reduceAdd] at n1 n2 n3 n4
  rw [← e] at hrd n1 n2 n3 n4
  have hz : (⟨((rF s r).1 ++ B).toArray⟩ : ByteArray).size = (rF s r).1.length + B.length := by rw [size_mk, List.length_append]
  have hd := k4 B
  rw [ha, show (((rF s r).1.length : Int) - (((nmF r.name s).1.length + 10 : Nat) : Int)) = (N : Nat) by omega] at hd
  rw [rd1_rec (dat := r.data) (x := 0) hrd (by rw [n4, hz]; omega) (by rw [n1]; exact h41) (by rw [n4, n1]; exact hd), if_pos rfl, n4]
  unfold rawR
  rw [n1, n2, n3, mk_data]
  congr 1
  omega
theorem rs_back : ∀ (l : List Rc) (s : Ws), (∀ r ∈ l, r.ok ∧ ¬ r.kind = 41) → s.good → (rsF s l).good ∧ (rsF s l).1.length ≤ s.1.length + (l.map fun r => r.name.size + 10 + r.data.size).sum ∧
    ((rsF s l).1.length ≤ 65535 → ∀ B add d k, rdRs ⟨((rsF s l).1 ++ B).toArray⟩ add (l.length + k) s.1.length d = (rdRs ⟨((rsF s l).1 ++ B).toArray⟩ add k (rsF s l).1.length d).pre l)
  | [], s, _, h => ⟨h, Nat.le_refl _, fun _ B add d k => by rw [Rq.pre_nil, List.length_nil, Nat.zero_add]; rfl⟩
  | r :: l, s, hl, h => by
    obtain ⟨hr, hn⟩ := hl r (List.mem_cons_self ..)
    obtain ⟨a1, a2, a3⟩ := r_back hr hn h
    obtain ⟨b1, b2, b3⟩ := rs_back l (rF s r) (fun x hx => hl x (List.mem_cons_of_mem _ hx)) a1
    have hle := (rsF_le l (rF s r)).len
    obtain ⟨⟨X, eX⟩, _⟩ := rsF_le l (rF s r)
    refine ⟨b1, ?_, fun hm B add d k => ?_⟩
    · show (rsF (rF s r) l).1.length ≤ _
      rw [List.map_cons, List.sum_cons]
      omega
    · replace hm : (rsF (rF s r) l).1.length ≤ 65535 := hm
      show rdRs ⟨((rsF (rF s r) l).1 ++ B).toArray⟩ add (l.length + 1 + k) s.1.length d = (rdRs ⟨((rsF (rF s r) l).1 ++ B).toArray⟩ add k (rsF (rF s r) l).1.length d).pre (r :: l)
      have := a3 (by omega) (X ++ B) add d
      rw [← List.append_assoc, ← eX] at this
      rw [show l.length + 1 + k = (l.length + k) + 1 by omega, rdRs_rec this, b3 hm B add d k, Rq.pre_pre]
      rfl
theorem ttl_back {e v f : Nat} (hv : v < 256) (hf : f < 65536) : ttlN e v f / 16777216 = e ∧ ttlN e v f / 65536 % 256 = v ∧ ttlN e v f % 65536 = f := by
  unfold ttlN
  omega
theorem may_root : may root0 = true := by decide +kernel
theorem op_back {sz e v f : Nat} {ops : List Opt} {s : Ws} (hsz : sz < 65536) (he : e < 256) (hv : v < 256) (hf : f < 65536) (ho : ∀ o ∈ ops, o.1 < 65536) (hok : okO ops) (hT : s.good) :
    (opF sz (ttlN e v f) (opsB ops) s).1.length ≤ s.1.length + 11 + (opsB ops).length ∧ ∀ B, rd1 ⟨((opF sz (ttlN e v f) (opsB ops) s).1 ++ B).toArray⟩ true s.1.length ed0 = .opt (opF sz (ttlN e v f) (opsB ops) s).1.length ⟨true, sz, e, v, f, ops⟩ := by
  unfold okO at hok
  obtain ⟨h1, h2, _, h4⟩ := nm_back (s := s) may_root hT
  have hr0 : root0.size = 1 := rfl
  have hl : (opF sz (ttlN e v f) (opsB ops) s).1.length = (nmF root0 s).1.length + 10 + (opsB ops).length := by unfold opF adF fx; simp only [List.length_append, enc_len]
  refine ⟨by omega, fun B => ?_⟩
  have hs : ∀ o ∈ ops, o.1 < 65536 ∧ o.2.size < 65536 := fun o h => ⟨ho o h, by
    have := sum_of (fun o : Opt => (opB o).length) h
    have e2 : (opsB ops).length = (ops.map fun o => (opB o).length).sum := by unfold opsB; rw [List.length_flatMap]
    have e3 := opB_len o
    omega⟩
  have ht : ttlN e v f < 4294967296 := by unfold ttlN; omega
  have e0 : (opF sz (ttlN e v f) (opsB ops) s).1 ++ B = (nmF root0 s).1 ++ (enc 2 41 ++ (enc 2 sz ++ (enc 4 (ttlN e v f) ++ (enc 2 (opsB ops).length ++ (opsB ops ++ B))))) := by unfold opF adF fx; simp only [List.append_assoc]
  have hrd := h4 (enc 2 41 ++ (enc 2 sz ++ (enc 4 (ttlN e v f) ++ (enc 2 (opsB ops).length ++ (opsB ops ++ B)))))
  have n1 := num_two_at (nmF root0 s).1 (enc 2 sz ++ (enc 4 (ttlN e v f) ++ (enc 2 (opsB ops).length ++ (opsB ops ++ B)))) 41 (by omega)
  have n2 := num_two_at ((nmF root0 s).1 ++ enc 2 41) (enc 4 (ttlN e v f) ++ (enc 2 (opsB ops).length ++ (opsB ops ++ B))) sz hsz
  have n3 := num_four_at ((nmF root0 s).1 ++ enc 2 41 ++ enc 2 sz) (enc 2 (opsB ops).length ++ (opsB ops ++ B)) (ttlN e v f) ht
  have n4 := num_two_at ((nmF root0 s).1 ++ enc 2 41 ++ enc 2 sz ++ enc 4 (ttlN e v f)) (opsB ops ++ B) (opsB ops).length (by omega)
  have n5 := ext_mid ((nmF root0 s).1 ++ enc 2 41 ++ enc 2 sz ++ enc 4 (ttlN e v f) ++ enc 2 (opsB ops).length) (opsB ops) B
  simp only [List.append_assoc, List.length_append, enc_len, Nat.reduceAdd] at n1 n2 n3 n4 n5
  rw [← e0] at hrd n1 n2 n3 n4 n5
  have hz : (⟨((opF sz (ttlN e v f) (opsB ops) s).1 ++ B).toArray⟩ : ByteArray).size = (opF sz (ttlN e v f) (opsB ops) s).1.length + B.length := by rw [size_mk, List.length_append]
  rw [rd1_opt hrd (by rw [n4, hz]; omega) n1]
  have hraw : rawR ⟨((opF sz (ttlN e v f) (opsB ops) s).1 ++ B).toArray⟩ root0.data.toList (nmF root0 s).1.length = ⟨root0, 41, sz, ttlN e v f, ⟨(opsB ops).toArray⟩⟩ := by
    unfold rawR
    rw [n1, n2, n3, n4, n5, mk_data]
  rw [hraw]
  unfold optF
  rw [if_pos ⟨rfl, rfl, rfl⟩, ops_back ops hs]
  obtain ⟨t1, t2, t3⟩ := ttl_back (e := e) hv hf
  simp only [t1, t2, t3, n4, hl]
end Go.Proofs.YthgendgmlpaglaaDoor
