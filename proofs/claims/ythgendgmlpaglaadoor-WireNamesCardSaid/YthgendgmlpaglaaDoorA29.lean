/-
  Wire: messages as great as can be (plain).
  Wire: messages that may not be (plain).
  Wire: closed examples of reading a message, reckoned by functions that go down a number (plain).
  Wire: the rows of WireNames (plain).
  Wire: a message whose own body would be too long (plain).
-/
import Derived.Test.YthgendgmlpaglaaDoorWjF
namespace Go.Proofs.YthgendgmlpaglaaDoor
open Go.RowKit

theorem ext_full (d : ByteArray) : d.extract 0 d.size = d := by
  cases d with
  | mk a => apply ByteArray.ext; simp [ByteArray.size]
theorem wh_99 (d : ByteArray) : whF 99 d = some [⟨d, false, d.size⟩] := by
  have h : splF d 0 99 = .ok [⟨d, false, d.size⟩] := by
    unfold splF
    rw [if_neg (by decide), show cks 99 = [.rst] from rfl]
    simp only [runF, ckF, ext_full, List.nil_append]
    rw [if_neg (Nat.lt_irrefl _)]
  unfold whF
  rw [h]
  simp only [tx, List.flatMap_cons, List.flatMap_nil, List.append_nil]
  rw [if_pos trivial]
theorem nm_root0 (s : Ws) : nmF root0 s = (s.1 ++ [0], s.2) := by
  unfold nmF
  rw [putF, dif_neg (by decide +kernel)]
def r99 (d : ByteArray) : Rc := ⟨root0, 99, 0, 0, d⟩
theorem rF_99 (s : Ws) (d : ByteArray) : (rF s (r99 d)).1.length = s.1.length + 11 + d.size ∧ (rF s (r99 d)).2 = s.2 := by
  have hn := nm_root0 s
  have hd : rD s (r99 d) = ((rH s (r99 d)).1 ++ d.data.toList, s.2) := by
    unfold rD
    rw [show whF (r99 d).kind (r99 d).data = some [⟨d, false, d.size⟩] from wh_99 d]
    rw [Option.getD_some, wrF_txt rfl]
    unfold wrF
    show (_, (nmF root0 s).2) = _
    rw [hn]
  refine ⟨?_, ?_⟩
  · rw [rF_len, hd, List.length_append, rH_len]
    show (nmF root0 s).1.length + 10 + d.data.toList.length = _
    rw [hn, List.length_append]
    have : d.data.toList.length = d.size := Array.length_toList
    simp only [List.length_cons, List.length_nil]
    omega
  · show (rD s (r99 d)).2 = _
    rw [hd]
/-- n bytes that are zero. -/
def zs (n : Nat) : ByteArray := ⟨(List.replicate n (0 : UInt8)).toArray⟩
theorem zs_size (n : Nat) : (zs n).size = n := by
  show (List.replicate n (0 : UInt8)).toArray.size = n
  rw [List.size_toArray, List.length_replicate]
/-- A message of one record. -/
def mAny (n : Nat) : Ms := ⟨hd0, [], [r99 (zs n)], [], [], false, 0, 0, 0, 0, []⟩
theorem mAny_rng (n : Nat) (hn : n ≤ 1000000) : (mAny n).rng :=
  ⟨by show 0 < 65536; omega, fun q hq => (by cases hq), fun r hr => (by rw [List.mem_singleton.1 hr]; exact ⟨by show 99 < 65536; omega, by show 0 < 65536; omega, by show 0 < 4294967296; omega, by show (zs n).size ≤ 1000000; rw [zs_size]; exact hn⟩), fun r hr => (by cases hr), fun r hr => (by cases hr), Nat.zero_le _, Nat.zero_le _, by show 0 < 65536; omega, by show 0 < 256; omega, by show 0 < 256; omega, by show 0 < 65536; omega, fun o ho => (by cases ho)⟩
theorem mAny_may (n : Nat) : (mAny n).may = true := by
  refine Ms.may_yes.2 ⟨by show ¬ (15 < 0 ∨ 15 < 0); omega, Nat.zero_le _, by show 1 ≤ 65535; omega, Nat.zero_le _, by show 0 + 0 ≤ 65535; omega, rfl, ?_, rfl, rfl, rfl⟩
  refine List.all_eq_true.2 fun r hr => ?_
  rw [List.mem_singleton.1 hr]
  unfold okR mayD
  rw [show whF (r99 (zs n)).kind (r99 (zs n)).data = some [⟨zs n, false, (zs n).size⟩] from wh_99 (zs n)]
  rw [show may (r99 (zs n)).name = true from (by decide +kernel : may root0 = true)]
  rfl
theorem mAny_len (n : Nat) : (mAny n).s5.1.length = 23 + n := by
  have h0 : (mAny n).s0.1.length = 12 := by
    show (wrL hd0 0 1 0 0).length = 12
    decide +kernel
  show (rF (mAny n).s0 (r99 (zs n))).1.length = _
  rw [(rF_99 _ _).1, h0, zs_size]
theorem mAny_ok (n : Nat) (h : n ≤ 65512) : (mAny n).wE = 0 := by
  unfold Ms.wE
  rw [if_neg (by rw [mAny_may]; simp), if_neg]
  rintro (⟨k1, _⟩ | k)
  · cases k1
  · rw [mAny_len] at k; omega
theorem mAny_long (n : Nat) (h : 65512 < n) : (mAny n).wE = 5 := by
  unfold Ms.wE
  rw [if_neg (by rw [mAny_may]; simp), if_pos (.inr (by rw [mAny_len]; omega))]
theorem mAny_out (n : Nat) (h : n ≤ 65512) : (mAny n).out.size = 23 + n := by
  obtain ⟨e1, e2, e3, _⟩ := out_ok (mAny_ok n h)
  rw [e3, e2, mAny_len]
/-- A message of one option. -/
def mOpt (n : Nat) : Ms := ⟨hd0, [], [], [], [], true, 0, 0, 0, 0, [(0, zs n)]⟩
theorem mOpt_rng (n : Nat) : (mOpt n).rng :=
  ⟨by show 0 < 65536; omega, fun q hq => (by cases hq), fun r hr => (by cases hr), fun r hr => (by cases hr), fun r hr => (by cases hr), Nat.zero_le _, by show 1 ≤ 1000000; omega, by show 0 < 65536; omega, by show 0 < 256; omega, by show 0 < 256; omega, by show 0 < 65536; omega, fun o ho => (by rw [List.mem_singleton.1 ho]; show 0 < 65536; omega)⟩
theorem mOpt_may (n : Nat) : (mOpt n).may = true :=
  Ms.may_yes.2 ⟨by show ¬ (15 < 0 ∨ 15 < 0); omega, Nat.zero_le _, Nat.zero_le _, Nat.zero_le _, by show 0 + 1 ≤ 65535; omega, rfl, rfl, rfl, rfl, rfl⟩
theorem mOpt_ops (n : Nat) : (opsB (mOpt n).ops).length = 4 + n := by
  show (opsB [(0, zs n)]).length = _
  rw [opsB_one, opB_len]
  show 4 + (zs n).size = _
  rw [zs_size]
theorem mOpt_len (n : Nat) : (mOpt n).s5.1.length = 27 + n := by
  have h0 : (mOpt n).s0.1.length = 12 := by
    show (wrL hd0 0 0 0 1).length = 12
    decide +kernel
  show (opF 0 (ttlN 0 0 0) (opsB (mOpt n).ops) (mOpt n).s0).1.length = _
  unfold opF
  rw [nm_root0]
  unfold adF fx
  simp only [List.length_append, enc_len, h0, mOpt_ops, List.length_cons, List.length_nil]
  omega
theorem mOpt_wE (n : Nat) : (mOpt n).wE = if n ≤ 65508 then 0 else 5 := by
  unfold Ms.wE
  rw [if_neg (by rw [mOpt_may]; simp)]
  by_cases h : n ≤ 65508
  · rw [if_pos h, if_neg]
    rintro (⟨_, k⟩ | k)
    · exact k (by unfold okO; rw [mOpt_ops]; omega)
    · rw [mOpt_len] at k; omega
  · rw [if_neg h, if_pos (.inr (by rw [mOpt_len]; omega))]
end Go.Proofs.YthgendgmlpaglaaDoor
namespace Go.Proofs.YthgendgmlpaglaaDoor
open Go.RowKit

def nB1 : Ms := ⟨⟨0, false, 16, false, false, false, false, false, false, false, 0⟩, [], [], [], [], false, 0, 0, 0, 0, []⟩
def nB2 : Ms := ⟨hd0, [], [], [], [], false, 1, 0, 0, 0, []⟩
def nB3 : Ms := ⟨hd0, [], [], [], [], false, 0, 0, 0, 0, [(0, ByteArray.empty)]⟩
def nB4 : Ms := ⟨hd0, [⟨ByteArray.empty, 0, 0⟩], [], [], [], false, 0, 0, 0, 0, []⟩
def nB5 : Ms := ⟨hd0, [], [⟨ByteArray.empty, 99, 0, 0, ByteArray.empty⟩], [], [], false, 0, 0, 0, 0, []⟩
def nB6 : Ms := ⟨hd0, [], [], [⟨root0, 1, 0, 0, ByteArray.empty⟩], [], false, 0, 0, 0, 0, []⟩
def nB7 : Ms := ⟨hd0, [], [], [], [⟨root0, 41, 0, 0, ByteArray.empty⟩], false, 0, 0, 0, 0, []⟩
theorem nB1_may : nB1.may = false := by decide +kernel
theorem nB2_may : nB2.may = false := by decide +kernel
theorem nB3_may : nB3.may = false := by decide +kernel
theorem nB4_may : nB4.may = false := by decide +kernel
theorem nB5_may : nB5.may = false := by decide +kernel
theorem nB6_may : nB6.may = false := by decide +kernel
theorem nB7_may : nB7.may = false := by decide +kernel
theorem bad_all {m : Ms} (h : m.may = false) : m.wE = 3 ∧ m.out = ByteArray.empty ∧ m.num = 0 := by
  have e : m.wE = 3 := if_pos h
  have h0 : ¬ m.wE = 0 := by omega
  exact ⟨e, (out_no h0).1, (out_no h0).2⟩
/-- A row is read as nothing else than an error. -/
theorem dcE_no {s : ByteArray} {x : Nat} (h : rdM s = .error x) : dcE s = x ∧ dcM s = ms0 := by
  unfold dcE dcM
  rw [h]
  exact ⟨rfl, rfl⟩
theorem dcE_yes {m : Ms} (hr : m.rng) (h0 : m.wE = 0) : dcE m.out = 0 := (dc_ok hr h0).2
/-- Bytes of zero alone: no counts, and something behind the header. -/
theorem rdM_zs (n : Nat) (h : 12 < n) : rdM (zs n) = .error 5 := by
  have hz : ∀ p k, p + k ≤ n → num (zs n) p k = 0 := by
    intro p k _
    unfold num
    have e : (((zs n).data.toList.drop p).take k) = List.replicate (min k (n - p)) 0 := by
      show (((List.replicate n (0 : UInt8)).toArray.toList.drop p).take k) = _
      rw [List.drop_replicate, List.take_replicate]
    rw [e]
    generalize min k (n - p) = j
    clear e
    induction j with
    | zero => rfl
    | succ j ih => rw [List.replicate_succ', be_snoc, ih]; rfl
  unfold rdM
  rw [zs_size]
  by_cases h1 : 65535 < n
  · rw [if_pos h1]
  · rw [if_neg h1, if_neg (by omega), hz 4 2 (by omega), hz 6 2 (by omega), hz 8 2 (by omega), hz 10 2 (by omega)]
    unfold rdQs rdG rdA rdRs
    dsimp only
    unfold rdU rdRs
    dsimp only
    unfold rdX rdRs
    dsimp only
    unfold rdEnd
    rw [zs_size, if_pos h]
end Go.Proofs.YthgendgmlpaglaaDoor
namespace Go.Proofs.YthgendgmlpaglaaDoor
open Go.RowKit

def rdQ1K (k : Nat) (s : ByteArray) (p : Nat) : Option (Except Nat (Qn × Nat)) :=
  match rdK k s p p none [] with
  | some (.no e) => some (.error e)
  | some (.ok n q) => some (if q + 4 ≤ s.size then .ok (⟨⟨n.toArray⟩, num s q 2, num s (q + 2) 2⟩, q + 4) else .error 4)
  | none => none
theorem rdQ1K_eq {k : Nat} {s : ByteArray} {p : Nat} {r : Except Nat (Qn × Nat)} (h : rdQ1K k s p = some r) : rdQ1 s p = r := by
  unfold rdQ1K at h
  unfold rdQ1
  cases hr : rdK k s p p none [] with
  | none => rw [hr] at h; cases h
  | some x =>
    rw [hr] at h
    rw [rdK_eq s k _ _ _ _ _ hr]
    cases x with
    | ok n q => exact Option.some.inj h
    | no e => exact Option.some.inj h
def rdQsK (k : Nat) (s : ByteArray) : Nat → Nat → Option Qq
  | 0, p => some (.ok [] p)
  | j + 1, p => match rdQ1K k s p with
    | some (.error e) => some (.no e)
    | some (.ok (x, q)) => (rdQsK k s j q).map (Qq.pre [x])
    | none => none
theorem rdQsK_eq {k : Nat} {s : ByteArray} : ∀ (j p : Nat) (r : Qq), rdQsK k s j p = some r → rdQs s j p = r := by
  intro j
  induction j with
  | zero => intro p r h; exact Option.some.inj h
  | succ j ih =>
    intro p r h
    unfold rdQsK at h
    unfold rdQs
    cases hr : rdQ1K k s p with
    | none => rw [hr] at h; cases h
    | some x =>
      rw [hr] at h
      rw [rdQ1K_eq hr]
      cases x with
      | error e => exact Option.some.inj h
      | ok y =>
        obtain ⟨x, q⟩ := y
        dsimp only at h ⊢
        obtain ⟨z, hz, rfl⟩ := Option.map_eq_some_iff.1 h
        rw [ih _ _ hz]
def rdDK (k : Nat) (s : ByteArray) (p n kind : Nat) : Option (ByteArray × Nat) :=
  if s.size < p + n then some (⟨#[]⟩, 1)
  else match splK k (exK s 0 (p + n)) p kind with
    | some (.ok l) => some (⟨(tx l).toArray⟩, 0)
    | some (.no e) => some (⟨#[]⟩, e)
    | none => none
theorem rdDK_eq {k : Nat} {s : ByteArray} {p n kind : Nat} {r : ByteArray × Nat} (h : rdDK k s p n kind = some r) : rdD s (p : Int) (n : Int) kind = r := by
  unfold rdDK at h
  unfold rdD
  by_cases hs : s.size < p + n
  · rw [if_pos hs] at h
    rw [if_pos (by omega)]
    exact Option.some.inj h
  · rw [if_neg hs] at h
    rw [if_neg (by omega), show ((p : Int) + (n : Int)).toNat = p + n from by omega, Int.toNat_natCast, exK_eq]
    cases hr : splK k (exK s 0 (p + n)) p kind with
    | none => rw [hr] at h; cases h
    | some x =>
      rw [hr] at h
      rw [splK_eq hr]
      cases x with
      | ok l => exact Option.some.inj h
      | no e => exact Option.some.inj h
def rawK (s : ByteArray) (n : List UInt8) (q : Nat) : Rc := ⟨⟨n.toArray⟩, num s q 2, num s (q + 2) 2, num s (q + 4) 4, exK s (q + 10) (q + 10 + num s (q + 8) 2)⟩
theorem rawK_eq (s : ByteArray) (n : List UInt8) (q : Nat) : rawR s n q = rawK s n q := by
  unfold rawR rawK
  rw [exK_eq]
def opsK (s : ByteArray) : Nat → Nat → Option (Option (List Opt))
  | 0, _ => none
  | k + 1, p => if s.size ≤ p then some (some [])
    else if p + 4 ≤ s.size ∧ p + 4 + num s (p + 2) 2 ≤ s.size then (opsK s k (p + 4 + num s (p + 2) 2)).map fun r => r.map fun l => (num s p 2, exK s (p + 4) (p + 4 + num s (p + 2) 2)) :: l
    else some none
theorem opsK_eq {s : ByteArray} : ∀ (k p : Nat) (r : Option (List Opt)), opsK s k p = some r → opsAt s p = r := by
  intro k
  induction k with
  | zero => intro p r h; cases h
  | succ k ih =>
    intro p r h
    unfold opsK at h
    by_cases h1 : s.size ≤ p
    · rw [if_pos h1] at h; rw [opsAt_end h1]; exact Option.some.inj h
    · rw [if_neg h1] at h
      by_cases h2 : p + 4 ≤ s.size ∧ p + 4 + num s (p + 2) 2 ≤ s.size
      · rw [if_pos h2] at h
        obtain ⟨z, hz, rfl⟩ := Option.map_eq_some_iff.1 h
        rw [opsAt_step h2.1 h2.2, ih _ _ hz, exK_eq]
      · rw [if_neg h2] at h
        rw [opsAt_no (by omega) (by omega)]
        exact Option.some.inj h
def optK (k : Nat) (add : Bool) (d : Ed) (r : Rc) : Option (Except Nat Ed) :=
  if add = true ∧ d.has = false ∧ r.name = root0 then
    match opsK r.data k 0 with
    | some (some l) => some (.ok ⟨true, r.cls, r.ttl / 16777216, r.ttl / 65536 % 256, r.ttl % 65536, l⟩)
    | some none => some (.error 4)
    | none => none
  else some (.error 3)
theorem optK_eq {k : Nat} {add : Bool} {d : Ed} {r : Rc} {x : Except Nat Ed} (h : optK k add d r = some x) : optF add d r = x := by
  unfold optK at h
  unfold optF
  by_cases h1 : add = true ∧ d.has = false ∧ r.name = root0
  · rw [if_pos h1] at h ⊢
    cases hr : opsK r.data k 0 with
    | none => rw [hr] at h; cases h
    | some y =>
      rw [hr] at h
      rw [opsK_eq _ _ _ hr]
      cases y with
      | none => exact Option.some.inj h
      | some l => exact Option.some.inj h
  · rw [if_neg h1] at h ⊢
    exact Option.some.inj h
def rd1K (k : Nat) (s : ByteArray) (add : Bool) (p : Nat) (d : Ed) : Option R1 :=
  match rdK k s p p none [] with
  | none => none
  | some (.no e) => some (.no e)
  | some (.ok n q) =>
    if q + 10 ≤ s.size ∧ q + 10 + num s (q + 8) 2 ≤ s.size then
      if num s q 2 = 41 then match optK k add d (rawK s n q) with
        | some (.ok d') => some (.opt (q + 10 + num s (q + 8) 2) d')
        | some (.error x) => some (.no x)
        | none => none
      else match rdDK k s (q + 10) (num s (q + 8) 2) (num s q 2) with
        | some (dat, x) => some (if x = 0 then .put { rawK s n q with data := dat } (q + 10 + num s (q + 8) 2) else .no x)
        | none => none
    else some (.no 4)
theorem rd1K_eq {k : Nat} {s : ByteArray} {add : Bool} {p : Nat} {d : Ed} {r : R1} (h : rd1K k s add p d = some r) : rd1 s add p d = r := by
  unfold rd1K at h
  cases hr : rdK k s p p none [] with
  | none => rw [hr] at h; cases h
  | some x =>
    rw [hr] at h
    have e := rdK_eq s k _ _ _ _ _ hr
    cases x with
    | no y => rw [rd1_name e]; exact Option.some.inj h
    | ok n q =>
      dsimp only at h
      by_cases hs : q + 10 ≤ s.size ∧ q + 10 + num s (q + 8) 2 ≤ s.size
      · rw [if_pos hs] at h
        by_cases hk : num s q 2 = 41
        · rw [if_pos hk] at h
          rw [rd1_opt e hs hk, rawK_eq]
          cases ho : optK k add d (rawK s n q) with
          | none => rw [ho] at h; cases h
          | some y =>
            rw [ho] at h
            rw [optK_eq ho]
            cases y with
            | ok d' => exact Option.some.inj h
            | error z => exact Option.some.inj h
        · rw [if_neg hk] at h
          cases hd : rdDK k s (q + 10) (num s (q + 8) 2) (num s q 2) with
          | none => rw [hd] at h; cases h
          | some y =>
            obtain ⟨dat, z⟩ := y
            rw [hd] at h
            dsimp only at h
            rw [rd1_rec e hs hk (rdDK_eq hd), rawK_eq]
            exact Option.some.inj h
      · rw [if_neg hs] at h
        rw [rd1_short e hs]
        exact Option.some.inj h
def rdRsK (k : Nat) (s : ByteArray) (add : Bool) : Nat → Nat → Ed → Option Rq
  | 0, p, d => some (.ok [] p d)
  | j + 1, p, d => match rd1K k s add p d with
    | none => none
    | some (.no e) => some (.no e)
    | some (.opt q d') => rdRsK k s add j q d'
    | some (.put r q) => (rdRsK k s add j q d).map (Rq.pre [r])
theorem rdRsK_eq {k : Nat} {s : ByteArray} {add : Bool} : ∀ (j p : Nat) (d : Ed) (r : Rq), rdRsK k s add j p d = some r → rdRs s add j p d = r := by
  intro j
  induction j with
  | zero => intro p d r h; exact Option.some.inj h
  | succ j ih =>
    intro p d r h
    unfold rdRsK at h
    cases hr : rd1K k s add p d with
    | none => rw [hr] at h; cases h
    | some x =>
      rw [hr] at h
      have e := rd1K_eq hr
      cases x with
      | no y => rw [rdRs_no e]; exact Option.some.inj h
      | opt q d' => rw [rdRs_opt e]; exact ih _ _ _ h
      | put y q =>
        rw [rdRs_rec e]
        dsimp only at h
        obtain ⟨z, hz, rfl⟩ := Option.map_eq_some_iff.1 h
        rw [ih _ _ _ hz]
/-- What is read, ahead of the end's questions. -/
def rdMK (k : Nat) (s : ByteArray) : Option (Except Nat (Nat × Ms)) :=
  if 65535 < s.size then some (.error 5)
  else if s.size < 12 then some (.error 4)
  else match rdQsK k s (num s 4 2) 12 with
    | none => none
    | some (.no e) => some (.error e)
    | some (.ok qs p) => match rdRsK k s false (num s 6 2) p ed0 with
      | none => none
      | some (.no e) => some (.error e)
      | some (.ok an q d) => match rdRsK k s false (num s 8 2) q d with
        | none => none
        | some (.no e) => some (.error e)
        | some (.ok au q d) => match rdRsK k s true (num s 10 2) q d with
          | none => none
          | some (.no e) => some (.error e)
          | some (.ok ex q d) => some (.ok (q, msOf (fromN (num s 0 2) (num s 2 2)) qs an au ex d))
theorem rdMK_eq {k : Nat} {s : ByteArray} {r : Except Nat (Nat × Ms)} (h : rdMK k s = some r) : rdM s = match r with | .error e => .error e | .ok (q, m) => rdEnd s q m := by
  unfold rdMK at h
  unfold rdM
  by_cases h1 : 65535 < s.size
  · rw [if_pos h1] at h ⊢; cases Option.some.inj h; rfl
  · rw [if_neg h1] at h ⊢
    by_cases h2 : s.size < 12
    · rw [if_pos h2] at h ⊢; cases Option.some.inj h; rfl
    · rw [if_neg h2] at h ⊢
      cases hq : rdQsK k s (num s 4 2) 12 with
      | none => rw [hq] at h; cases h
      | some x =>
        rw [hq] at h
        rw [rdQsK_eq _ _ _ hq]
        cases x with
        | no e => cases Option.some.inj h; rfl
        | ok qs p =>
          dsimp only at h
          unfold rdG rdA
          dsimp only
          cases ha : rdRsK k s false (num s 6 2) p ed0 with
          | none => rw [ha] at h; cases h
          | some x =>
            rw [ha] at h
            rw [rdRsK_eq _ _ _ _ ha]
            cases x with
            | no e => cases Option.some.inj h; rfl
            | ok an q d =>
              dsimp only at h
              unfold rdU
              dsimp only
              cases hu : rdRsK k s false (num s 8 2) q d with
              | none => rw [hu] at h; cases h
              | some x =>
                rw [hu] at h
                rw [rdRsK_eq _ _ _ _ hu]
                cases x with
                | no e => cases Option.some.inj h; rfl
                | ok au q d =>
                  dsimp only at h
                  unfold rdX
                  dsimp only
                  cases hx : rdRsK k s true (num s 10 2) q d with
                  | none => rw [hx] at h; cases h
                  | some x =>
                    rw [hx] at h
                    rw [rdRsK_eq _ _ _ _ hx]
                    cases x with
                    | no e => cases Option.some.inj h; rfl
                    | ok ex q d => cases Option.some.inj h; rfl
theorem dcK_no {k : Nat} {s : ByteArray} {e : Nat} (h : rdMK k s = some (.error e)) : dcE s = e ∧ dcM s = ms0 := dcE_no (rdMK_eq h)
theorem s5_small {m : Ms} (hr : m.rng) (hm : m.may = true) (ho : m.has = true → okO m.ops) : m.s5.1.length ≤ m.whole := by
  obtain ⟨g1, g2, g3, g4⟩ := Ms.reads hr hm
  have l1 := g1.2.1
  have l2 := g2.2.1
  have l3 := g3.2.1
  have l4 := g4.2.1
  unfold Ms.whole Ms.s5
  cases hh : m.has with
  | false => simp only [Bool.false_eq_true, if_false]; omega
  | true =>
    simp only [if_true]
    have := (op_back hr.sz hr.e hr.v hr.f hr.o (ho hh) g4.1).1
    have e := opsB_sum m.ops
    omega
theorem wE_small {m : Ms} (hr : m.rng) (hm : m.may = true) (ho : m.has = true → okO m.ops) (hw : m.whole ≤ 65535) : m.wE = 0 := by
  unfold Ms.wE
  rw [if_neg (by rw [hm]; simp), if_neg]
  rintro (⟨h1, h2⟩ | h)
  · exact h2 (ho h1)
  · have := s5_small hr hm ho; omega
theorem dcK_ok {k : Nat} {s : ByteArray} {m : Ms} (h : rdMK k s = some (.ok (s.size, m))) (h0 : m.wE = 0) : dcE s = 0 := by
  have e := rdMK_eq h
  dsimp only at e
  unfold rdEnd at e
  rw [if_neg (Nat.lt_irrefl _), if_pos h0] at e
  unfold dcE
  rw [e]
end Go.Proofs.YthgendgmlpaglaaDoor
namespace Go.Proofs.YthgendgmlpaglaaDoor
open Go.RowKit

/-- A header of ID 9 with these counts. -/
def hw (a b c d : UInt8) : ByteArray := ⟨#[0, 9, 0, 0, 0, a, 0, b, 0, c, 0, d]⟩
theorem hw_size (a b c d : UInt8) : (hw a b c d).size = 12 := rfl
theorem dcK_more {k : Nat} {s : ByteArray} {p : Nat} {m : Ms} (h : rdMK k s = some (.ok (p, m))) (hp : p < s.size) : dcE s = 5 ∧ dcM s = ms0 := by
  have e := rdMK_eq h
  dsimp only at e
  unfold rdEnd at e
  rw [if_pos hp] at e
  exact dcE_no e
theorem okQ_root : okQ ⟨root0, 1, 1⟩ = true := by decide +kernel
theorem okR_root : okR ⟨root0, 1, 1, 0, ⟨#[97, 98, 99, 100]⟩⟩ = true := by
  unfold okR mayD
  rw [show may (⟨root0, 1, 1, 0, ⟨#[97, 98, 99, 100]⟩⟩ : Rc).name = true from (by decide +kernel : may root0 = true), show whF 1 (⟨#[97, 98, 99, 100]⟩ : ByteArray) = some [⟨⟨#[97, 98, 99, 100]⟩, false, 4⟩] from whK (k := 9) (by kernel_rfl) (by decide +kernel)]
  rfl
def mq : Ms := ⟨fromN 9 0, [⟨root0, 1, 1⟩], [], [], [], false, 0, 0, 0, 0, []⟩
theorem mq_rng : mq.rng := ⟨by decide +kernel, fun q hq => (by rw [List.mem_singleton.1 hq]; exact ⟨by decide, by decide⟩), fun r hr => (by cases hr), fun r hr => (by cases hr), fun r hr => (by cases hr), by decide, by decide, by decide, by decide, by decide, by decide, fun o ho => (by cases ho)⟩
theorem mq_may : mq.may = true := Ms.may_yes.2 ⟨by decide +kernel, by decide, by decide, by decide, by decide, by rw [show mq.qs = [⟨root0, 1, 1⟩] from rfl, List.all_cons, okQ_root]; rfl, rfl, rfl, rfl, by decide +kernel⟩
theorem mq_wE : mq.wE = 0 := wE_small mq_rng mq_may (fun h => by cases h) (by decide +kernel)
def ma : Ms := ⟨fromN 9 0, [], [⟨root0, 1, 1, 0, ⟨#[97, 98, 99, 100]⟩⟩], [], [], false, 0, 0, 0, 0, []⟩
theorem ma_rng : ma.rng := ⟨by decide +kernel, fun q hq => (by cases hq), fun r hr => (by rw [List.mem_singleton.1 hr]; exact ⟨by decide, by decide, by decide, by decide +kernel⟩), fun r hr => (by cases hr), fun r hr => (by cases hr), by decide, by decide, by decide, by decide, by decide, by decide, fun o ho => (by cases ho)⟩
theorem ma_may : ma.may = true := Ms.may_yes.2 ⟨by decide +kernel, by decide, by decide, by decide, by decide, rfl, by rw [show ma.an = [⟨root0, 1, 1, 0, ⟨#[97, 98, 99, 100]⟩⟩] from rfl, List.all_cons, okR_root]; rfl, rfl, rfl, by decide +kernel⟩
theorem ma_wE : ma.wE = 0 := wE_small ma_rng ma_may (fun h => by cases h) (by decide +kernel)
def mo : Ms := ⟨fromN 9 0, [], [], [], [], true, 512, 0, 0, 0, []⟩
theorem mo_rng : mo.rng := ⟨by decide +kernel, fun q hq => (by cases hq), fun r hr => (by cases hr), fun r hr => (by cases hr), fun r hr => (by cases hr), by decide, by decide, by decide, by decide, by decide, by decide, fun o ho => (by cases ho)⟩
theorem mo_may : mo.may = true := Ms.may_yes.2 ⟨by decide +kernel, by decide, by decide, by decide, by decide, rfl, rfl, rfl, rfl, by decide +kernel⟩
theorem mo_wE : mo.wE = 0 := wE_small mo_rng mo_may (fun _ => by unfold okO; decide +kernel) (by decide +kernel)
def mx : Ms := ⟨fromN 9 0, [], [], [], [⟨root0, 1, 1, 0, ⟨#[97, 98, 99, 100]⟩⟩], true, 512, 0, 0, 0, []⟩
theorem mx_rng : mx.rng := ⟨by decide +kernel, fun q hq => (by cases hq), fun r hr => (by cases hr), fun r hr => (by cases hr), fun r hr => (by rw [List.mem_singleton.1 hr]; exact ⟨by decide, by decide, by decide, by decide +kernel⟩), by decide, by decide, by decide, by decide, by decide, by decide, fun o ho => (by cases ho)⟩
theorem mx_may : mx.may = true := Ms.may_yes.2 ⟨by decide +kernel, by decide, by decide, by decide, by decide, rfl, rfl, rfl, by rw [show mx.ex = [⟨root0, 1, 1, 0, ⟨#[97, 98, 99, 100]⟩⟩] from rfl, List.all_cons, okR_root]; rfl, by decide +kernel⟩
theorem mx_wE : mx.wE = 0 := wE_small mx_rng mx_may (fun _ => by unfold okO; decide +kernel) (by decide +kernel)
def mp : Ms := ⟨fromN 9 0, [], [], [], [], true, 512, 0, 0, 0, [(1, ⟨#[]⟩)]⟩
theorem mp_rng : mp.rng := ⟨by decide +kernel, fun q hq => (by cases hq), fun r hr => (by cases hr), fun r hr => (by cases hr), fun r hr => (by cases hr), by decide, by decide, by decide, by decide, by decide, by decide, fun o ho => (by rw [List.mem_singleton.1 ho]; decide)⟩
theorem mp_may : mp.may = true := Ms.may_yes.2 ⟨by decide +kernel, by decide, by decide, by decide, by decide, rfl, rfl, rfl, rfl, by decide +kernel⟩
theorem mp_wE : mp.wE = 0 := wE_small mp_rng mp_may (fun _ => by unfold okO; decide +kernel) (by decide +kernel)
theorem wr0 : dcE ⟨#[]⟩ = 4 ∧ dcM ⟨#[]⟩ = ms0 := dcK_no (k := 9) (by kernel_rfl)
theorem wr1 : dcE ⟨#[0, 9, 0, 0, 0, 1, 0, 0, 0, 0, 0, 0]⟩ = 4 ∧ dcM ⟨#[0, 9, 0, 0, 0, 1, 0, 0, 0, 0, 0, 0]⟩ = ms0 := dcK_no (k := 9) (by kernel_rfl)
theorem wr2 : dcE ⟨#[0, 9, 0, 0, 0, 1, 0, 0, 0, 0, 0, 0, 0, 0, 1, 0]⟩ = 4 ∧ dcM ⟨#[0, 9, 0, 0, 0, 1, 0, 0, 0, 0, 0, 0, 0, 0, 1, 0]⟩ = ms0 := dcK_no (k := 9) (by kernel_rfl)
theorem wr3 : dcE ⟨#[0, 9, 0, 0, 0, 1, 0, 0, 0, 0, 0, 0, 192, 12, 0, 1, 0, 1]⟩ = 8 ∧ dcM ⟨#[0, 9, 0, 0, 0, 1, 0, 0, 0, 0, 0, 0, 192, 12, 0, 1, 0, 1]⟩ = ms0 := dcK_no (k := 9) (by kernel_rfl)
theorem wr4 : dcE ⟨#[0, 9, 0, 0, 0, 1, 0, 0, 0, 0, 0, 0, 64]⟩ = 3 ∧ dcM ⟨#[0, 9, 0, 0, 0, 1, 0, 0, 0, 0, 0, 0, 64]⟩ = ms0 := dcK_no (k := 9) (by kernel_rfl)
theorem wr5 : dcE ⟨#[0, 9, 0, 0, 0, 1, 0, 0, 0, 0, 0, 0, 0, 0, 1, 0, 1]⟩ = 0 := dcK_ok (k := 9) (m := mq) (by kernel_rfl) mq_wE
theorem wr6 : dcE ⟨#[0, 9, 0, 0, 0, 1, 0, 0, 0, 0, 0, 0, 192, 2, 0, 1, 0, 1]⟩ = 0 := dcK_ok (k := 9) (m := mq) (by kernel_rfl) mq_wE
theorem wr7 : dcE ⟨#[0, 9, 0, 0, 0, 0, 0, 0, 0, 0, 0, 0, 120]⟩ = 5 ∧ dcM ⟨#[0, 9, 0, 0, 0, 0, 0, 0, 0, 0, 0, 0, 120]⟩ = ms0 := dcK_more (k := 9) (p := 12) (m := ⟨fromN 9 0, [], [], [], [], false, 0, 0, 0, 0, []⟩) (by kernel_rfl) (by decide +kernel)
theorem wr8 : dcE ⟨#[0, 9, 0, 0, 0, 0, 0, 1, 0, 0, 0, 0, 0, 0, 1, 0, 1, 0, 0, 0, 0, 0, 4, 97, 98, 99, 100]⟩ = 0 := dcK_ok (k := 9) (m := ma) (by kernel_rfl) ma_wE
theorem wr9 : dcE ⟨#[0, 9, 0, 0, 0, 0, 0, 1, 0, 0, 0, 0, 0, 0, 1, 0, 1, 0, 0, 0, 0, 0, 4, 97, 98, 99]⟩ = 4 ∧ dcM ⟨#[0, 9, 0, 0, 0, 0, 0, 1, 0, 0, 0, 0, 0, 0, 1, 0, 1, 0, 0, 0, 0, 0, 4, 97, 98, 99]⟩ = ms0 := dcK_no (k := 9) (by kernel_rfl)
theorem wr10 : dcE ⟨#[0, 9, 0, 0, 0, 0, 0, 1, 0, 0, 0, 0, 0, 0, 1, 0, 1, 0, 0, 0, 0, 0, 3, 97, 98, 99]⟩ = 4 ∧ dcM ⟨#[0, 9, 0, 0, 0, 0, 0, 1, 0, 0, 0, 0, 0, 0, 1, 0, 1, 0, 0, 0, 0, 0, 3, 97, 98, 99]⟩ = ms0 := dcK_no (k := 9) (by kernel_rfl)
theorem wr11 : dcE ⟨#[0, 9, 0, 0, 0, 0, 0, 1, 0, 0, 0, 0, 0, 0, 1, 0, 1, 0, 0, 0, 0, 0, 5, 97, 98, 99, 100, 101]⟩ = 3 ∧ dcM ⟨#[0, 9, 0, 0, 0, 0, 0, 1, 0, 0, 0, 0, 0, 0, 1, 0, 1, 0, 0, 0, 0, 0, 5, 97, 98, 99, 100, 101]⟩ = ms0 := dcK_no (k := 9) (by kernel_rfl)
theorem wr12 : dcE ⟨#[0, 9, 0, 0, 0, 0, 0, 0, 0, 0, 0, 1, 0, 0, 41, 2, 0, 0, 0, 0, 0, 0, 0]⟩ = 0 := dcK_ok (k := 9) (m := mo) (by kernel_rfl) mo_wE
theorem wr13 : dcE ⟨#[0, 9, 0, 0, 0, 0, 0, 1, 0, 0, 0, 0, 0, 0, 41, 2, 0, 0, 0, 0, 0, 0, 0]⟩ = 3 ∧ dcM ⟨#[0, 9, 0, 0, 0, 0, 0, 1, 0, 0, 0, 0, 0, 0, 41, 2, 0, 0, 0, 0, 0, 0, 0]⟩ = ms0 := dcK_no (k := 9) (by kernel_rfl)
theorem wr14 : dcE ⟨#[0, 9, 0, 0, 0, 0, 0, 0, 0, 1, 0, 0, 0, 0, 41, 2, 0, 0, 0, 0, 0, 0, 0]⟩ = 3 ∧ dcM ⟨#[0, 9, 0, 0, 0, 0, 0, 0, 0, 1, 0, 0, 0, 0, 41, 2, 0, 0, 0, 0, 0, 0, 0]⟩ = ms0 := dcK_no (k := 9) (by kernel_rfl)
theorem wr15 : dcE ⟨#[0, 9, 0, 0, 0, 0, 0, 0, 0, 0, 0, 2, 0, 0, 41, 2, 0, 0, 0, 0, 0, 0, 0, 0, 0, 41, 2, 0, 0, 0, 0, 0, 0, 0]⟩ = 3 ∧ dcM ⟨#[0, 9, 0, 0, 0, 0, 0, 0, 0, 0, 0, 2, 0, 0, 41, 2, 0, 0, 0, 0, 0, 0, 0, 0, 0, 41, 2, 0, 0, 0, 0, 0, 0, 0]⟩ = ms0 := dcK_no (k := 9) (by kernel_rfl)
theorem wr16 : dcE ⟨#[0, 9, 0, 0, 0, 0, 0, 0, 0, 0, 0, 2, 0, 0, 41, 2, 0, 0, 0, 0, 0, 0, 0, 0, 0, 1, 0, 1, 0, 0, 0, 0, 0, 4, 97, 98, 99, 100]⟩ = 0 := dcK_ok (k := 9) (m := mx) (by kernel_rfl) mx_wE
theorem wr17 : dcE ⟨#[0, 9, 0, 0, 0, 0, 0, 0, 0, 0, 0, 1, 1, 97, 0, 0, 41, 2, 0, 0, 0, 0, 0, 0, 0]⟩ = 3 ∧ dcM ⟨#[0, 9, 0, 0, 0, 0, 0, 0, 0, 0, 0, 1, 1, 97, 0, 0, 41, 2, 0, 0, 0, 0, 0, 0, 0]⟩ = ms0 := dcK_no (k := 9) (by kernel_rfl)
theorem wr18 : dcE ⟨#[0, 9, 0, 0, 0, 0, 0, 0, 0, 0, 0, 1, 0, 0, 41, 2, 0, 0, 0, 0, 0, 0, 1, 120]⟩ = 4 ∧ dcM ⟨#[0, 9, 0, 0, 0, 0, 0, 0, 0, 0, 0, 1, 0, 0, 41, 2, 0, 0, 0, 0, 0, 0, 1, 120]⟩ = ms0 := dcK_no (k := 9) (by kernel_rfl)
theorem wr19 : dcE ⟨#[0, 9, 0, 0, 0, 0, 0, 0, 0, 0, 0, 1, 0, 0, 41, 2, 0, 0, 0, 0, 0, 0, 4, 0, 1, 0, 0]⟩ = 0 := dcK_ok (k := 9) (m := mp) (by kernel_rfl) mp_wE
/-- A row: bytes, and the error that they are read as. -/
structure Wx where
  s : ByteArray
  e : Nat
def Wx.ok (r : Wx) : Prop := dcE r.s = r.e ∧ (r.e ≠ 0 → dcM r.s = ms0) ∧ r.s.size ≤ 65536
def wxV (r : Wx) : List Value := [.string r.s, .int .i64 r.e]
def wnRows : List Wx := [⟨⟨#[]⟩, 4⟩, ⟨(hw 1 0 0 0), 4⟩, ⟨((hw 1 0 0 0) ++ ⟨#[0, 0, 1, 0]⟩), 4⟩, ⟨((hw 1 0 0 0) ++ ⟨#[192, 12, 0, 1, 0, 1]⟩), 8⟩, ⟨((hw 1 0 0 0) ++ ⟨#[64]⟩), 3⟩, ⟨((hw 1 0 0 0) ++ ⟨#[0, 0, 1, 0, 1]⟩), 0⟩, ⟨((hw 1 0 0 0) ++ ⟨#[192, 2, 0, 1, 0, 1]⟩), 0⟩, ⟨((hw 0 0 0 0) ++ ⟨#[120]⟩), 5⟩, ⟨((hw 0 1 0 0) ++ ⟨#[0, 0, 1, 0, 1, 0, 0, 0, 0, 0, 4, 97, 98, 99, 100]⟩), 0⟩, ⟨((hw 0 1 0 0) ++ ⟨#[0, 0, 1, 0, 1, 0, 0, 0, 0, 0, 4, 97, 98, 99]⟩), 4⟩, ⟨((hw 0 1 0 0) ++ ⟨#[0, 0, 1, 0, 1, 0, 0, 0, 0, 0, 3, 97, 98, 99]⟩), 4⟩, ⟨((hw 0 1 0 0) ++ ⟨#[0, 0, 1, 0, 1, 0, 0, 0, 0, 0, 5, 97, 98, 99, 100, 101]⟩), 3⟩, ⟨((hw 0 0 0 1) ++ ⟨#[0, 0, 41, 2, 0, 0, 0, 0, 0, 0, 0]⟩), 0⟩, ⟨((hw 0 1 0 0) ++ ⟨#[0, 0, 41, 2, 0, 0, 0, 0, 0, 0, 0]⟩), 3⟩, ⟨((hw 0 0 1 0) ++ ⟨#[0, 0, 41, 2, 0, 0, 0, 0, 0, 0, 0]⟩), 3⟩, ⟨(((hw 0 0 0 2) ++ ⟨#[0, 0, 41, 2, 0, 0, 0, 0, 0, 0, 0]⟩) ++ ⟨#[0, 0, 41, 2, 0, 0, 0, 0, 0, 0, 0]⟩), 3⟩, ⟨(((hw 0 0 0 2) ++ ⟨#[0, 0, 41, 2, 0, 0, 0, 0, 0, 0, 0]⟩) ++ ⟨#[0, 0, 1, 0, 1, 0, 0, 0, 0, 0, 4, 97, 98, 99, 100]⟩), 0⟩, ⟨(((hw 0 0 0 1) ++ ⟨#[1, 97]⟩) ++ ⟨#[0, 0, 41, 2, 0, 0, 0, 0, 0, 0, 0]⟩), 3⟩, ⟨(((hw 0 0 0 1) ++ ⟨#[0, 0, 41, 2, 0, 0, 0, 0, 0, 0]⟩) ++ ⟨#[1, 120]⟩), 4⟩, ⟨(((hw 0 0 0 1) ++ ⟨#[0, 0, 41, 2, 0, 0, 0, 0, 0, 0]⟩) ++ ⟨#[4, 0, 1, 0, 0]⟩), 0⟩, ⟨zs 65536, 5⟩, ⟨zs 65535, 5⟩]
theorem rx_no {s s' : ByteArray} {e : Nat} (hs : s = s') (h : dcE s' = e ∧ dcM s' = ms0) (hl : s'.size ≤ 65536) : (⟨s, e⟩ : Wx).ok := by subst hs; exact ⟨h.1, fun _ => h.2, hl⟩
theorem rx_yes {s s' : ByteArray} (hs : s = s') (h : dcE s' = 0) (hl : s'.size ≤ 65536) : (⟨s, 0⟩ : Wx).ok := by subst hs; exact ⟨h, fun k => absurd rfl k, hl⟩
theorem wx0 : (⟨⟨#[]⟩, 4⟩ : Wx).ok := rx_no (by decide +kernel) wr0 (by decide +kernel)
theorem wx1 : (⟨(hw 1 0 0 0), 4⟩ : Wx).ok := rx_no (by decide +kernel) wr1 (by decide +kernel)
theorem wx2 : (⟨((hw 1 0 0 0) ++ ⟨#[0, 0, 1, 0]⟩), 4⟩ : Wx).ok := rx_no (by decide +kernel) wr2 (by decide +kernel)
theorem wx3 : (⟨((hw 1 0 0 0) ++ ⟨#[192, 12, 0, 1, 0, 1]⟩), 8⟩ : Wx).ok := rx_no (by decide +kernel) wr3 (by decide +kernel)
theorem wx4 : (⟨((hw 1 0 0 0) ++ ⟨#[64]⟩), 3⟩ : Wx).ok := rx_no (by decide +kernel) wr4 (by decide +kernel)
theorem wx5 : (⟨((hw 1 0 0 0) ++ ⟨#[0, 0, 1, 0, 1]⟩), 0⟩ : Wx).ok := rx_yes (by decide +kernel) wr5 (by decide +kernel)
theorem wx6 : (⟨((hw 1 0 0 0) ++ ⟨#[192, 2, 0, 1, 0, 1]⟩), 0⟩ : Wx).ok := rx_yes (by decide +kernel) wr6 (by decide +kernel)
theorem wx7 : (⟨((hw 0 0 0 0) ++ ⟨#[120]⟩), 5⟩ : Wx).ok := rx_no (by decide +kernel) wr7 (by decide +kernel)
theorem wx8 : (⟨((hw 0 1 0 0) ++ ⟨#[0, 0, 1, 0, 1, 0, 0, 0, 0, 0, 4, 97, 98, 99, 100]⟩), 0⟩ : Wx).ok := rx_yes (by decide +kernel) wr8 (by decide +kernel)
theorem wx9 : (⟨((hw 0 1 0 0) ++ ⟨#[0, 0, 1, 0, 1, 0, 0, 0, 0, 0, 4, 97, 98, 99]⟩), 4⟩ : Wx).ok := rx_no (by decide +kernel) wr9 (by decide +kernel)
theorem wx10 : (⟨((hw 0 1 0 0) ++ ⟨#[0, 0, 1, 0, 1, 0, 0, 0, 0, 0, 3, 97, 98, 99]⟩), 4⟩ : Wx).ok := rx_no (by decide +kernel) wr10 (by decide +kernel)
theorem wx11 : (⟨((hw 0 1 0 0) ++ ⟨#[0, 0, 1, 0, 1, 0, 0, 0, 0, 0, 5, 97, 98, 99, 100, 101]⟩), 3⟩ : Wx).ok := rx_no (by decide +kernel) wr11 (by decide +kernel)
theorem wx12 : (⟨((hw 0 0 0 1) ++ ⟨#[0, 0, 41, 2, 0, 0, 0, 0, 0, 0, 0]⟩), 0⟩ : Wx).ok := rx_yes (by decide +kernel) wr12 (by decide +kernel)
theorem wx13 : (⟨((hw 0 1 0 0) ++ ⟨#[0, 0, 41, 2, 0, 0, 0, 0, 0, 0, 0]⟩), 3⟩ : Wx).ok := rx_no (by decide +kernel) wr13 (by decide +kernel)
theorem wx14 : (⟨((hw 0 0 1 0) ++ ⟨#[0, 0, 41, 2, 0, 0, 0, 0, 0, 0, 0]⟩), 3⟩ : Wx).ok := rx_no (by decide +kernel) wr14 (by decide +kernel)
theorem wx15 : (⟨(((hw 0 0 0 2) ++ ⟨#[0, 0, 41, 2, 0, 0, 0, 0, 0, 0, 0]⟩) ++ ⟨#[0, 0, 41, 2, 0, 0, 0, 0, 0, 0, 0]⟩), 3⟩ : Wx).ok := rx_no (by decide +kernel) wr15 (by decide +kernel)
theorem wx16 : (⟨(((hw 0 0 0 2) ++ ⟨#[0, 0, 41, 2, 0, 0, 0, 0, 0, 0, 0]⟩) ++ ⟨#[0, 0, 1, 0, 1, 0, 0, 0, 0, 0, 4, 97, 98, 99, 100]⟩), 0⟩ : Wx).ok := rx_yes (by decide +kernel) wr16 (by decide +kernel)
theorem wx17 : (⟨(((hw 0 0 0 1) ++ ⟨#[1, 97]⟩) ++ ⟨#[0, 0, 41, 2, 0, 0, 0, 0, 0, 0, 0]⟩), 3⟩ : Wx).ok := rx_no (by decide +kernel) wr17 (by decide +kernel)
theorem wx18 : (⟨(((hw 0 0 0 1) ++ ⟨#[0, 0, 41, 2, 0, 0, 0, 0, 0, 0]⟩) ++ ⟨#[1, 120]⟩), 4⟩ : Wx).ok := rx_no (by decide +kernel) wr18 (by decide +kernel)
theorem wx19 : (⟨(((hw 0 0 0 1) ++ ⟨#[0, 0, 41, 2, 0, 0, 0, 0, 0, 0]⟩) ++ ⟨#[4, 0, 1, 0, 0]⟩), 0⟩ : Wx).ok := rx_yes (by decide +kernel) wr19 (by decide +kernel)
theorem wx_z (n : Nat) (h : 12 < n) (k : n ≤ 65536) : (⟨zs n, 5⟩ : Wx).ok := rx_no rfl (dcE_no (rdM_zs n h)) (by rw [zs_size]; exact k)
theorem wnRows_ok : ∀ r ∈ wnRows, r.ok := by
  unfold wnRows
  refine List.forall_mem_cons.2 ⟨wx0, ?_⟩
  refine List.forall_mem_cons.2 ⟨wx1, ?_⟩
  refine List.forall_mem_cons.2 ⟨wx2, ?_⟩
  refine List.forall_mem_cons.2 ⟨wx3, ?_⟩
  refine List.forall_mem_cons.2 ⟨wx4, ?_⟩
  refine List.forall_mem_cons.2 ⟨wx5, ?_⟩
  refine List.forall_mem_cons.2 ⟨wx6, ?_⟩
  refine List.forall_mem_cons.2 ⟨wx7, ?_⟩
  refine List.forall_mem_cons.2 ⟨wx8, ?_⟩
  refine List.forall_mem_cons.2 ⟨wx9, ?_⟩
  refine List.forall_mem_cons.2 ⟨wx10, ?_⟩
  refine List.forall_mem_cons.2 ⟨wx11, ?_⟩
  refine List.forall_mem_cons.2 ⟨wx12, ?_⟩
  refine List.forall_mem_cons.2 ⟨wx13, ?_⟩
  refine List.forall_mem_cons.2 ⟨wx14, ?_⟩
  refine List.forall_mem_cons.2 ⟨wx15, ?_⟩
  refine List.forall_mem_cons.2 ⟨wx16, ?_⟩
  refine List.forall_mem_cons.2 ⟨wx17, ?_⟩
  refine List.forall_mem_cons.2 ⟨wx18, ?_⟩
  refine List.forall_mem_cons.2 ⟨wx19, ?_⟩
  refine List.forall_mem_cons.2 ⟨wx_z 65536 (by omega) (by omega), ?_⟩
  refine List.forall_mem_cons.2 ⟨wx_z 65535 (by omega) (by omega), ?_⟩
  intro r hr
  cases hr
theorem wnRows_len : wnRows.length = 22 := rfl
end Go.Proofs.YthgendgmlpaglaaDoor
namespace Go.Proofs.YthgendgmlpaglaaDoor
open Go.RowKit

theorem len_app (x y : List UInt8) : (x ++ y).length = x.length + y.length := List.length_append
def zl (n : Nat) : List UInt8 := List.replicate n 0
def farL : List UInt8 := 63 :: (zl 63 ++ (63 :: (zl 63 ++ (63 :: (zl 63 ++ (61 :: (zl 61 ++ [0])))))))
def rL : List UInt8 := [0, 0, 99, 0, 1, 0, 0, 0, 0, 0, 255] ++ farL
def qL : List UInt8 := [0, 0, 33, 0, 1, 0, 0, 0, 0, 0, 8, 49, 50, 51, 52, 53, 54, 192, 23]
def hmL (a b : UInt8) : List UInt8 := [0, 9, 0, 0, 0, 0, a, b, 0, 0, 0, 0]
def preL (a b : UInt8) : List UInt8 := hmL a b ++ rL
def qsL (n : Nat) : List UInt8 := (List.replicate n qL).flatten
def manyL (a b : UInt8) (n : Nat) : List UInt8 := preL a b ++ qsL n
theorem farL_len : farL.length = 255 := by decide +kernel
theorem rL_len : rL.length = 266 := by decide +kernel
theorem qL_len : qL.length = 19 := rfl
theorem preL_len (a b : UInt8) : (preL a b).length = 278 := by
  unfold preL
  rw [List.length_append, rL_len]
  rfl
theorem qsL_succ (n : Nat) : qsL (n + 1) = qL ++ qsL n := by unfold qsL; rw [List.replicate_succ, List.flatten_cons]
theorem qsL_add (n k : Nat) : qsL (n + k) = qsL n ++ qsL k := by unfold qsL; rw [← List.replicate_append_replicate, List.flatten_append]
theorem qsL_len (n : Nat) : (qsL n).length = 19 * n := by
  induction n with
  | zero => rfl
  | succ n ih => rw [qsL_succ, List.length_append, ih, qL_len]; omega
theorem manyL_len (a b : UInt8) (n : Nat) : (manyL a b n).length = 278 + 19 * n := by
  unfold manyL
  rw [List.length_append, preL_len, qsL_len]
def far : ByteArray := ⟨farL.toArray⟩
def dSv : ByteArray := ⟨([49, 50, 51, 52, 53, 54] ++ farL).toArray⟩
def rOne : Rc := ⟨root0, 99, 1, 0, far⟩
def rSv : Rc := ⟨root0, 33, 1, 0, dSv⟩
theorem far_size : far.size = 255 := by unfold far; rw [size_mk, farL_len]
theorem dSv_size : dSv.size = 261 := by unfold dSv; rw [size_mk, List.length_append, farL_len]; rfl

theorem drop_in (X q Y : List UInt8) (j : Nat) (h : j ≤ q.length) : (X ++ (q ++ Y)).drop (X.length + j) = q.drop j ++ Y := by
  rw [List.drop_length_add_append, List.drop_append_of_le_length h]
theorem num_in (X q Y : List UInt8) (j k : Nat) (h : j + k ≤ q.length) : num ⟨(X ++ (q ++ Y)).toArray⟩ (X.length + j) k = be ((q.drop j).take k) := by
  unfold num
  show be (((X ++ (q ++ Y)).drop (X.length + j)).take k) = _
  rw [drop_in _ _ _ _ (by omega), List.take_append_of_le_length (by rw [List.length_drop]; omega)]
theorem bt_in (X q Y : List UInt8) (j : Nat) (h : j < q.length) : bt ⟨(X ++ (q ++ Y)).toArray⟩ (X.length + j) = (q[j]?.getD 0).toNat := by
  rw [bt_mk, List.getElem?_append_right (by omega), Nat.add_sub_cancel_left, List.getElem?_append_left h]
theorem ahead_list (X Y : List UInt8) : Ahead ⟨X.toArray⟩ ⟨(X ++ Y).toArray⟩ := by
  refine ⟨by rw [size_mk, size_mk, List.length_append]; omega, fun p hp => ?_⟩
  rw [size_mk] at hp
  show X[p]? = (X ++ Y)[p]?
  rw [List.getElem?_append_left hp]
theorem rd_far (a b : UInt8) (Y : List UInt8) (nx : Nat) : rdF ⟨(preL a b ++ Y).toArray⟩ 23 23 (some nx) [] = .ok farL nx :=
  rd_more (ahead_list _ _) (rdK_eq _ 9 _ _ _ _ _ (by kernel_rfl))
theorem rd1_one (a b : UInt8) (Y : List UInt8) (d : Ed) : rd1 ⟨(preL a b ++ Y).toArray⟩ false 12 d = .put rOne 278 := by
  have e : rd1 ⟨(preL a b).toArray⟩ false 12 d = .put rOne 278 := rd1K_eq (k := 9) (by kernel_rfl)
  rcases rd1_ahead (ahead_list (preL a b) Y) false 12 d with ⟨h, _⟩ | h
  · rw [← h, e]
  · rw [e] at h; cases h
theorem spl_sv (a b : UInt8) (Z : List UInt8) : ∃ l, splF ⟨(preL a b ++ Z ++ qL).toArray⟩ ((preL a b ++ Z).length + 11) 33 = .ok l ∧ tx l = [49, 50, 51, 52, 53, 54] ++ farL := by
  have hl : (preL a b ++ Z ++ qL).length = (preL a b ++ Z).length + 19 := by rw [len_app _ qL, qL_len]
  have hz : (⟨(preL a b ++ Z ++ qL).toArray⟩ : ByteArray).size = (preL a b ++ Z).length + 19 := by rw [size_mk, hl]
  have hX : 278 ≤ (preL a b ++ Z).length := by rw [List.length_append, preL_len]; omega
  have bi := fun j (h : j < 19) => bt_in (preL a b ++ Z) qL [] j (by rw [qL_len]; exact h)
  simp only [List.append_nil] at bi
  have n1 : ckF (.num 6) ⟨(preL a b ++ Z ++ qL).toArray⟩ ((preL a b ++ Z).length + 11) = .ok ⟨⟨#[49, 50, 51, 52, 53, 54]⟩, false, (preL a b ++ Z).length + 17⟩ := by
    unfold ckF
    dsimp only
    rw [if_neg (by rw [hz]; omega), mk_ext]
    have := drop_in (preL a b ++ Z) qL [] 11 (by rw [qL_len]; omega)
    simp only [List.append_nil] at this
    rw [this, show (preL a b ++ Z).length + 11 + 6 - ((preL a b ++ Z).length + 11) = 6 from by omega]
    rfl
  have n2 : ckF .nam ⟨(preL a b ++ Z ++ qL).toArray⟩ ((preL a b ++ Z).length + 17) = .ok ⟨⟨farL.toArray⟩, true, (preL a b ++ Z).length + 19⟩ := by
    have hp : ptr ⟨(preL a b ++ Z ++ qL).toArray⟩ ((preL a b ++ Z).length + 17) = 23 := by
      unfold ptr
      rw [bi 17 (by omega), bi 18 (by omega)]
      rfl
    have hr : rdF ⟨(preL a b ++ Z ++ qL).toArray⟩ ((preL a b ++ Z).length + 17) ((preL a b ++ Z).length + 17) none [] = .ok farL ((preL a b ++ Z).length + 19) := by
      rw [rd_ptr (by rw [bi 17 (by omega)]; decide +kernel) (by rw [hz]; omega) (by rw [hp]; omega), hp, List.append_assoc]
      exact rd_far a b _ _
    unfold ckF
    dsimp only
    rw [hr]
  refine ⟨[⟨⟨#[49, 50, 51, 52, 53, 54]⟩, false, (preL a b ++ Z).length + 17⟩, ⟨⟨farL.toArray⟩, true, (preL a b ++ Z).length + 19⟩], ?_, ?_⟩
  · unfold splF
    rw [if_neg (by omega), show cks 33 = [.num 6, .nam] from rfl]
    simp only [runF, n1, n2]
    rw [if_neg (by rw [hz]; omega)]
    rfl
  · show [49, 50, 51, 52, 53, 54] ++ (farL ++ []) = _
    rw [List.append_nil]
theorem rd1_sv (a b : UInt8) (Z Y : List UInt8) (d : Ed) : rd1 ⟨(preL a b ++ Z ++ (qL ++ Y)).toArray⟩ false (preL a b ++ Z).length d = .put rSv ((preL a b ++ Z).length + 19) := by
  have hz : (⟨(preL a b ++ Z ++ (qL ++ Y)).toArray⟩ : ByteArray).size = (preL a b ++ Z).length + 19 + Y.length := by rw [size_mk, len_app _ (qL ++ Y), len_app qL, qL_len]; omega
  have ni := fun j k (h : j + k ≤ 19) => num_in (preL a b ++ Z) qL Y j k (by rw [qL_len]; exact h)
  have e0 : rdF ⟨(preL a b ++ Z ++ (qL ++ Y)).toArray⟩ (preL a b ++ Z).length (preL a b ++ Z).length none [] = .ok [0] ((preL a b ++ Z).length + 1) :=
    rd_end (by rw [hz]; omega) (by have := bt_in (preL a b ++ Z) qL Y 0 (by rw [qL_len]; omega); rw [Nat.add_zero] at this; rw [this]; rfl)
  have e8 : num ⟨(preL a b ++ Z ++ (qL ++ Y)).toArray⟩ ((preL a b ++ Z).length + 1 + 8) 2 = 8 := by rw [Nat.add_assoc, ni 9 2 (by omega)]; rfl
  have e1 : num ⟨(preL a b ++ Z ++ (qL ++ Y)).toArray⟩ ((preL a b ++ Z).length + 1) 2 = 33 := by rw [ni 1 2 (by omega)]; rfl
  have e3 : num ⟨(preL a b ++ Z ++ (qL ++ Y)).toArray⟩ ((preL a b ++ Z).length + 1 + 2) 2 = 1 := by rw [Nat.add_assoc, ni 3 2 (by omega)]; rfl
  have e5 : num ⟨(preL a b ++ Z ++ (qL ++ Y)).toArray⟩ ((preL a b ++ Z).length + 1 + 4) 4 = 0 := by rw [Nat.add_assoc, ni 5 4 (by omega)]; rfl
  have hd : rdD ⟨(preL a b ++ Z ++ (qL ++ Y)).toArray⟩ (((preL a b ++ Z).length + 1 + 10 : Nat) : Int) (8 : Nat) 33 = (dSv, 0) := by
    unfold rdD
    rw [if_neg (by rw [hz]; omega), show (((((preL a b ++ Z).length + 1 + 10 : Nat) : Int)) + ((8 : Nat) : Int)).toNat = (preL a b ++ Z ++ qL).length from by rw [len_app _ qL, qL_len]; omega, Int.toNat_natCast, ← List.append_assoc (preL a b ++ Z) qL Y, ext_front]
    obtain ⟨l, h1, h2⟩ := spl_sv a b Z
    rw [show (preL a b ++ Z).length + 1 + 10 = (preL a b ++ Z).length + 11 from by omega, h1]
    dsimp only
    rw [h2]
    rfl
  rw [← e8, ← e1] at hd
  rw [rd1_rec e0 ⟨by rw [hz]; omega, by rw [hz, e8]; omega⟩ (by rw [e1]; decide) hd, if_pos rfl, e8]
  unfold rawR rSv
  rw [e1, e3, e5]
  rfl
theorem rdRs_sv (a b : UInt8) (d : Ed) : ∀ (k : Nat) (Z : List UInt8), rdRs ⟨(preL a b ++ Z ++ qsL k).toArray⟩ false k (preL a b ++ Z).length d = .ok (List.replicate k rSv) ((preL a b ++ Z).length + 19 * k) d
  | 0, Z => rfl
  | k + 1, Z => by
    have h := rdRs_sv a b d k (Z ++ qL)
    have hl : (preL a b ++ (Z ++ qL)).length = (preL a b ++ Z).length + 19 := by rw [← List.append_assoc, len_app _ qL, qL_len]
    rw [hl] at h
    rw [qsL_succ, rdRs_rec (rd1_sv a b Z (qsL k) d)]
    rw [show preL a b ++ Z ++ (qL ++ qsL k) = preL a b ++ (Z ++ qL) ++ qsL k from by simp only [List.append_assoc], h]
    show Rq.ok ([rSv] ++ List.replicate k rSv) _ d = _
    rw [List.replicate_succ, show (preL a b ++ Z).length + 19 + 19 * k = (preL a b ++ Z).length + 19 * (k + 1) from by omega]
    rfl
def mMany (n : Nat) : Ms := ⟨fromN 9 0, [], rOne :: List.replicate n rSv, [], [], false, 0, 0, 0, 0, []⟩
theorem rdM_many (a b : UInt8) (n : Nat) (hn : n ≤ 3000) (h : num ⟨(preL a b).toArray⟩ 6 2 = n + 1) : rdM ⟨(manyL a b n).toArray⟩ = rdEnd ⟨(manyL a b n).toArray⟩ (278 + 19 * n) (mMany n) := by
  have hz : (⟨(manyL a b n).toArray⟩ : ByteArray).size = 278 + 19 * n := by rw [size_mk, manyL_len]
  have ah : Ahead ⟨(preL a b).toArray⟩ ⟨(manyL a b n).toArray⟩ := ahead_list _ _
  have sz : (⟨(preL a b).toArray⟩ : ByteArray).size = 278 := by rw [size_mk, preL_len]
  have n0 : num ⟨(manyL a b n).toArray⟩ 0 2 = 9 := by rw [← num_ahead ah (by rw [sz]; omega)]; kernel_rfl
  have n2 : num ⟨(manyL a b n).toArray⟩ 2 2 = 0 := by rw [← num_ahead ah (by rw [sz]; omega)]; kernel_rfl
  have n4 : num ⟨(manyL a b n).toArray⟩ 4 2 = 0 := by rw [← num_ahead ah (by rw [sz]; omega)]; kernel_rfl
  have n6 : num ⟨(manyL a b n).toArray⟩ 6 2 = n + 1 := by rw [← num_ahead ah (by rw [sz]; omega)]; exact h
  have n8 : num ⟨(manyL a b n).toArray⟩ 8 2 = 0 := by rw [← num_ahead ah (by rw [sz]; omega)]; kernel_rfl
  have n10 : num ⟨(manyL a b n).toArray⟩ 10 2 = 0 := by rw [← num_ahead ah (by rw [sz]; omega)]; kernel_rfl
  have r1 := rd1_one a b (qsL n) ed0
  have r2 := rdRs_sv a b ed0 n []
  rw [List.append_nil, preL_len] at r2
  unfold rdM
  rw [hz, if_neg (by omega), if_neg (by omega), n0, n2, n4, n6, n8, n10]
  unfold rdQs rdG rdA
  dsimp only
  unfold manyL
  rw [rdRs_rec r1, r2]
  unfold rdU rdRs Rq.pre
  dsimp only
  unfold rdX rdRs
  rfl
theorem nm_rootL (s : Ws) : (nmF root0 s).1.length = s.1.length + 1 := by
  rw [nm_root0, List.length_append]
  rfl
theorem wh_sv : whF 33 dSv = some [⟨⟨#[49, 50, 51, 52, 53, 54]⟩, false, 6⟩, ⟨far, true, 261⟩] := whK (k := 9) (by kernel_rfl) (by kernel_rfl)
theorem scan_far : scan far 0 = true := mayK_eq far 9 0 true (by kernel_rfl)
theorem rF_sv (s : Ws) : (rF s rSv).1.length = s.1.length + 272 := by
  rw [rF_len]
  unfold rD
  rw [show whF rSv.kind rSv.data = some [⟨⟨#[49, 50, 51, 52, 53, 54]⟩, false, 6⟩, ⟨far, true, 261⟩] from wh_sv, Option.getD_some, show cmpF rSv.kind = false from rfl, wrF_txt rfl, wrF_nam rfl]
  unfold wrF
  show (putF far false false 0 _ _).1.length = _
  rw [put_whole far false false _ 0 _ _ rfl scan_far (.inl rfl), List.length_append, List.length_append, List.drop_zero, rH_len]
  rw [show rSv.name = root0 from rfl, nm_rootL]
  rw [show far.data.toList.length = 255 from farL_len]
  show s.1.length + 1 + 10 + 6 + 255 = _
  omega
theorem rF_one (s : Ws) : (rF s rOne).1.length = s.1.length + 266 := by
  rw [rF_len]
  unfold rD
  rw [show whF rOne.kind rOne.data = some [⟨far, false, far.size⟩] from wh_99 far, Option.getD_some, wrF_txt rfl]
  unfold wrF
  show ((rH s rOne).1 ++ far.data.toList).length = _
  rw [List.length_append, rH_len, show rOne.name = root0 from rfl, nm_rootL, show far.data.toList.length = 255 from farL_len]
theorem rsF_sv : ∀ (n : Nat) (s : Ws), (rsF s (List.replicate n rSv)).1.length = s.1.length + 272 * n
  | 0, s => rfl
  | n + 1, s => by
    rw [List.replicate_succ]
    show (rsF (rF s rSv) (List.replicate n rSv)).1.length = _
    rw [rsF_sv n, rF_sv]
    omega
theorem mMany_len (n : Nat) : (mMany n).s5.1.length = 278 + 272 * n := by
  have h0 : (mMany n).s0.1.length = 12 := wrL_len _ _ _ _ _
  show (rsF (rF (mMany n).s0 rOne) (List.replicate n rSv)).1.length = _
  rw [rsF_sv, rF_one, h0]
theorem okR_one : okR rOne = true := by
  unfold okR mayD
  rw [show whF rOne.kind rOne.data = some [⟨far, false, far.size⟩] from wh_99 far, show may rOne.name = true from may_root]
  rfl
theorem okR_sv : okR rSv = true := by
  unfold okR mayD
  rw [show whF rSv.kind rSv.data = some [⟨⟨#[49, 50, 51, 52, 53, 54]⟩, false, 6⟩, ⟨far, true, 261⟩] from wh_sv, show may rSv.name = true from may_root]
  rfl
theorem mMany_may (n : Nat) (hn : n ≤ 3000) : (mMany n).may = true := by
  refine Ms.may_yes.2 ⟨by show ¬ (15 < 0 ∨ 15 < 0); omega, Nat.zero_le _, ?_, Nat.zero_le _, by show 0 + 0 ≤ 65535; omega, rfl, ?_, rfl, rfl, rfl⟩
  · show (rOne :: List.replicate n rSv).length ≤ 65535
    rw [List.length_cons, List.length_replicate]
    omega
  · refine List.all_eq_true.2 fun r hr => ?_
    rcases List.mem_cons.1 hr with rfl | h
    · exact okR_one
    · rw [(List.mem_replicate.1 h).2]; exact okR_sv
theorem mMany_wE (n : Nat) (hn : n ≤ 3000) : (mMany n).wE = if n ≤ 239 then 0 else 5 := by
  unfold Ms.wE
  rw [if_neg (by rw [mMany_may n hn]; simp)]
  by_cases h : n ≤ 239
  · rw [if_pos h, if_neg]
    rintro (⟨k, _⟩ | k)
    · cases k
    · rw [mMany_len] at k; omega
  · rw [if_neg h, if_pos (.inr (by rw [mMany_len]; omega))]
theorem dc_many (a b : UInt8) (n : Nat) (hn : n ≤ 3000) (h : num ⟨(preL a b).toArray⟩ 6 2 = n + 1) : dcE ⟨(manyL a b n).toArray⟩ = if n ≤ 239 then 0 else 5 := by
  have e := rdM_many a b n hn h
  unfold rdEnd at e
  rw [size_mk, manyL_len, if_neg (Nat.lt_irrefl _), mMany_wE n hn] at e
  unfold dcE
  rw [e]
  by_cases k : n ≤ 239
  · rw [if_pos k, if_pos rfl]
  · rw [if_neg k, if_neg (by omega)]
theorem dc_many256 : dcE ⟨(manyL 1 1 256).toArray⟩ = 5 := dc_many 1 1 256 (by omega) (by kernel_rfl)
theorem dc_many240 : dcE ⟨(manyL 0 241 240).toArray⟩ = 5 := dc_many 0 241 240 (by omega) (by kernel_rfl)
theorem dc_many239 : dcE ⟨(manyL 0 240 239).toArray⟩ = 0 := dc_many 0 240 239 (by omega) (by kernel_rfl)
end Go.Proofs.YthgendgmlpaglaaDoor
