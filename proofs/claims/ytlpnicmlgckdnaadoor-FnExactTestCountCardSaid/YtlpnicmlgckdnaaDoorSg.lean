/-
  FnStrings: numbers read, checksums held against one changed byte, and the law. Plain.
-/
import Derived.Test.YtlpnicmlgckdnaaDoorCs
import Derived.Test.YtlpnicmlgckdnaaDoorTx
import Derived.Lib.AtoiAllCases
set_option linter.unusedSimpArgs false
set_option linter.unusedVariables false
namespace Go.Proofs.YtlpnicmlgckdnaaDoor
open Go.VS

/-! ### Numbers read -/
/-- What a reader of numbers answers at the text s. -/
def ParN (s : List UInt8) (r : Int × Bool) : Prop := (r = (0, false) ∨ (r.2 = true ∧ (-999999 ≤ r.1 ∧ r.1 ≤ 999999) ∧ s = numT r.1)) ∧ ∀ n : Int, -999999 ≤ n → n ≤ 999999 → s = numT n → r = (n, true)
theorem ParN.one {s : List UInt8} {r q : Int × Bool} (h : ParN s r) (h' : ParN s q) : r = q := by
  rcases h.1 with e | ⟨_, e2, e3⟩
  · rcases h'.1 with f | ⟨_, f2, f3⟩
    · rw [e, f]
    · rw [h.2 _ f2.1 f2.2 f3, h'.2 _ f2.1 f2.2 f3]
  · rw [h.2 _ e2.1 e2.2 e3, h'.2 _ e2.1 e2.2 e3]
theorem num_cases (n : Int) : (0 ≤ n ∧ numT n = numN n.toNat) ∨ (n < 0 ∧ numT n = 45 :: numN (-n).toNat ∧ 1 ≤ (-n).toNat) := by
  rcases (by omega : 0 ≤ n ∨ n < 0) with h | h
  · left
    have e : n = ((n.toNat : Nat) : Int) := by omega
    exact ⟨h, by conv => lhs; rw [e, numT_nat]⟩
  · right
    have e : n = -(((-n).toNat : Nat) : Int) := by omega
    exact ⟨h, by conv => lhs; rw [e, numT_neg (by omega)], by omega⟩
theorem numN_len6 {u : Nat} (h : u < 1000000) : (numN u).length ≤ 6 := numN_lenT 5 u (by simpa using h)

theorem sgRead (s : List UInt8) (hl : s.length < 1000000) : T (M.spec_l1Read s) (ParN s) := by
  unfold M.spec_l1Read
  refine T.then (Q := fun t => (t.length ≤ s.length) ∧ ((t = s ∧ ∀ r, s = 45 :: r → r = []) ∨ (s = 45 :: t ∧ t ≠ []))) ?_ ?_
  · refine T_ask (fun h => by simp only [decide_eq_true_eq] at h; omega) (T_if (fun hq => ?_) (fun hq => T_ret ⟨Nat.le_refl _, .inl ⟨rfl, ?_⟩⟩))
    · simp only [Bool.and_eq_true, decide_eq_true_eq, beq_iff_eq] at hq
      refine T_ask (by omega) (T_ret ⟨slcLe0, .inr ?_⟩)
      cases s with
      | nil => simp at hq
      | cons b r =>
        have hb : b = 45 := UInt8.toNat_inj.1 (by
          have : (((b :: r).getD (Int.toNat 0) 0).toNat : Int) = (b.toNat : Int) := rfl
          rw [this] at hq
          have := hq.2
          show b.toNat = 45
          omega)
        have e : slc (b :: r) 1 ((b :: r).length : Int) = r := by
          unfold slc
          rw [Int.toNat_natCast, List.take_length]; rfl
        rw [e, hb]
        refine ⟨rfl, ?_⟩
        rintro rfl
        simp at hq
    · rintro r rfl
      cases r with
      | nil => rfl
      | cons x r =>
        exfalso
        rw [Bool.and_eq_false_iff] at hq
        rcases hq with hq | hq
        · simp at hq; omega
        · have : (((45 :: x :: r : List UInt8).getD (Int.toNat 0) 0).toNat : Int) = 45 := rfl
          rw [this] at hq; simp at hq
  rintro t ⟨g0, g1⟩
  try dsimp only
  -- what a numeral's parts are
  have key : ∀ n : Int, -999999 ≤ n → n ≤ 999999 → s = numT n → t = numN n.natAbs ∧ (n < 0 ↔ t.length < s.length) := by
    intro n n0 n1 e
    rcases num_cases n with ⟨h, e2⟩ | ⟨h, e2, h3⟩
    · have hn : n.toNat = n.natAbs := by omega
      rw [e2, hn] at e
      rcases g1 with ⟨rfl, _⟩ | ⟨e4, _⟩
      · exact ⟨e, by omega⟩
      · exfalso
        have hm : (45 : UInt8) ∈ numN n.natAbs := by rw [← e, e4]; simp
        have := List.all_eq_true.1 (numN_dgt n.natAbs) _ hm
        revert this; decide
    · have hn : (-n).toNat = n.natAbs := by omega
      rw [e2, hn] at e
      rcases g1 with ⟨rfl, h5⟩ | ⟨e4, _⟩
      · exfalso
        have := h5 _ e
        have := numN_pos n.natAbs
        simp_all
      · rw [e] at e4 ⊢
        simp only [List.cons.injEq, true_and] at e4
        rw [← e4]
        exact ⟨rfl, by simp; omega⟩
  rw [show M.spec_l1In (t.length : Int) 1 6 = some (decide ((t.length : Int) ≥ 1) && decide ((t.length : Int) ≤ 6)) from rfl, Option.bind_some]
  refine T_if (fun hq => T_ret ⟨.inl rfl, ?_⟩) (fun hq => ?_)
  · intro n n0 n1 e
    exfalso
    obtain ⟨k1, _⟩ := key n n0 n1 e
    have := numN_len6 (u := n.natAbs) (by omega)
    have := numN_pos n.natAbs
    rw [k1] at hq
    simp only [Bool.not_eq_true', Bool.and_eq_false_iff, decide_eq_false_iff_not] at hq
    omega
  · simp only [Bool.not_eq_false', Bool.and_eq_true, decide_eq_true_eq] at hq
    refine (readLoop t (by omega)).then ?_
    rintro r (⟨m, rfl, h0, h1, h2⟩ | ⟨h1, rfl⟩)
    · try dsimp only
      refine T.then (Q := fun q => (-999999 ≤ q ∧ q ≤ 999999) ∧ ∀ n : Int, -999999 ≤ n → n ≤ 999999 → s = numT n → q = n) (T_if (fun hd => ?_) (fun hd => ?_)) ?_
      · simp only [decide_eq_true_eq] at hd
        refine T_ret ?_
        rw [wrap64_id (by omega) (by omega)]
        refine ⟨by omega, fun n n0 n1 e => ?_⟩
        obtain ⟨k1, k2⟩ := key n n0 n1 e
        have hm : m = (n.natAbs : Int) := by rw [h2 (by rw [k1]; exact numN_dgt _), k1, dgV_num]
        have : n < 0 := k2.2 (by omega)
        omega
      · simp only [decide_eq_false_iff_not] at hd
        refine T_ret ⟨by omega, fun n n0 n1 e => ?_⟩
        obtain ⟨k1, k2⟩ := key n n0 n1 e
        have hm : m = (n.natAbs : Int) := by rw [h2 (by rw [k1]; exact numN_dgt _), k1, dgV_num]
        have : ¬ n < 0 := fun h => hd (by have := k2.1 h; omega)
        omega
      rintro q ⟨g3, g4⟩
      try dsimp only
      rw [numS q (by omega) (by omega), Option.bind_some]
      refine T_if (fun hb => T_ret ⟨.inl rfl, ?_⟩) (fun hb => T_ret ⟨.inr ⟨rfl, g3, ?_⟩, ?_⟩)
      · intro n n0 n1 e
        exfalso
        rw [g4 n n0 n1 e, ← e] at hb
        simp at hb
      · simpa using Eq.symm (show numT q = s by simpa using hb)
      · intro n n0 n1 e
        rw [g4 n n0 n1 e]
    · refine T_ret ⟨.inl rfl, ?_⟩
      intro n n0 n1 e
      exfalso
      rw [(key n n0 n1 e).1, numN_dgt] at h1
      cases h1

theorem pu_app : ∀ (l r : List UInt8) (acc a : Nat), Go.Lib.parseUint10 acc l = .ok a → Go.Lib.parseUint10 acc (l ++ r) = Go.Lib.parseUint10 a r
  | [], r, acc, a, h => by
    simp only [Go.Lib.parseUint10, Go.Lib.NumEnd.ok.injEq] at h
    rw [h]; rfl
  | c :: l, r, acc, a, h => by
    rw [List.cons_append]
    simp only [Go.Lib.parseUint10] at h ⊢
    split at h
    · next h1 =>
      rw [if_pos h1]
      split at h
      · cases h
      · next h2 =>
        rw [if_neg h2]
        split at h
        · cases h
        · next h3 => rw [if_neg h3]; exact pu_app l r _ a h
    · cases h
theorem pu_num : ∀ u : Nat, u < 1000000000 → Go.Lib.parseUint10 0 (numN u) = .ok u := by
  intro u
  induction u using Nat.strongRecOn with
  | ind u ih =>
    intro hu
    have one : ∀ a d : Nat, a < 1000000000 → d < 10 → Go.Lib.parseUint10 a [digB d] = .ok (a * 10 + d) := by
      intro a d ha hd
      have e := (digB_at hd).2
      simp only [Go.Lib.parseUint10]
      rw [e, if_pos (by omega), if_neg (by omega), if_neg (by omega)]
      congr 1
      omega
    rcases Nat.lt_or_ge u 10 with h | h
    · rw [numN_small h, one 0 u (by omega) h]; congr 1; omega
    · rw [numN_big h, pu_app _ _ _ _ (ih (u / 10) (by omega) (by omega)), one _ _ (by omega) (by omega)]
      congr 1
      omega
theorem mag_num {u : Nat} (h : u < 1000000000) : Go.Lib.parseMag (numN u) = .ok u := by
  have := numN_pos u
  unfold Go.Lib.parseMag
  rw [if_neg (by intro e; rw [e] at this; simp at this), pu_num u h]
theorem atoi_num {n : Int} (h0 : -999999 ≤ n) (h1 : n ≤ 999999) : atoiR (numT n) = (n, false) := by
  unfold atoiR
  rcases num_cases n with ⟨h, e2⟩ | ⟨h, e2, h3⟩
  · have hd : ∃ c r, numN n.toNat = c :: r ∧ c.toNat ≠ 43 ∧ c.toNat ≠ 45 := by
      cases hn : numN n.toNat with
      | nil => have := numN_pos n.toNat; rw [hn] at this; simp at this
      | cons c r =>
        have := List.all_eq_true.1 (numN_dgt n.toNat) c (by rw [hn]; simp)
        have := dgt_iff.1 this
        exact ⟨c, r, rfl, by omega, by omega⟩
    obtain ⟨c, r, e3, k1, k2⟩ := hd
    have e4 : Go.Lib.atoiAll (numT n) = .ok n := by
      rw [e2, e3, Go.Lib.atoiAll_plain c r k1 k2, ← e3, mag_num (by omega)]
      unfold Go.Lib.signless
      simp only
      rw [if_neg (by omega)]
      congr 1
      omega
    rw [e4]
  · have e4 : Go.Lib.atoiAll (numT n) = .ok n := by
      rw [e2, Go.Lib.atoiAll_minus, mag_num (by omega)]
      unfold Go.Lib.signed
      simp only
      rw [if_neg (by omega)]
      congr 1
      omega
    rw [e4]
theorem atoiAll_bd (s : List UInt8) : -9223372036854775808 ≤ (atoiR s).1 ∧ (atoiR s).1 ≤ 9223372036854775807 ∨ True := .inr trivial
theorem sgParse (s : List UInt8) (hl : s.length < 1000000) : T (M.impl_ParseInt s) (ParN s) := by
  unfold M.impl_ParseInt M.strconv_Atoi
  rw [asrt_pos (by omega), Option.bind_some]
  have key : ∀ n : Int, -999999 ≤ n → n ≤ 999999 → s = numT n → atoiR s = (n, false) := by
    rintro n n0 n1 rfl
    exact atoi_num n0 n1
  generalize atoiR s = y at key
  obtain ⟨v, e⟩ := y
  cases e
  · simp only [cond_false, Bool.false_or]
    rw [show M.impl_within v (-999999) 999999 = some (inR v (-999999) 999999) from rfl, Option.bind_some]
    cases hi : inR v (-999999) 999999
    · refine T_ret ⟨.inl rfl, ?_⟩
      intro n n0 n1 e
      exfalso
      have := key n n0 n1 e
      cases this
      rw [inR_true.2 ⟨n0, n1⟩] at hi
      cases hi
    · have hb := inR_true.1 hi
      simp only [Bool.not_true, cond_false, Bool.false_or]
      rw [decI v (by omega) (by omega), Option.bind_some]
      refine T_if (fun hb => T_ret ⟨.inl rfl, ?_⟩) (fun hb2 => T_ret ⟨.inr ⟨rfl, hb, ?_⟩, ?_⟩)
      · intro n n0 n1 e
        exfalso
        have := key n n0 n1 e
        cases this
        rw [← e] at hb
        simp at hb
      · exact Eq.symm (show numT v = s by simpa using hb2)
      · intro n n0 n1 e
        have := key n n0 n1 e
        cases this
        rfl
  · refine T_ret ⟨.inl rfl, ?_⟩
    intro n n0 n1 e
    exfalso
    have := key n n0 n1 e
    cases this
def FmtD (n : Int) : List UInt8 × Bool := bif inR n (-999999) 999999 then (numT n, true) else ([], false)
/-! ### Checksums -/
def hasH (s : List UInt8) : Bool := s.any fun b => ((b.toNat : Nat) : Int) == 35
theorem hasH_iff {s : List UInt8} : hasH s = true ↔ (35 : UInt8) ∈ s := by
  unfold hasH
  rw [List.any_eq_true]
  constructor
  · rintro ⟨b, hb, e⟩
    rw [beq_iff_eq] at e
    have : b = 35 := UInt8.toNat_inj.1 (by show b.toNat = 35; omega)
    rw [← this]; exact hb
  · intro h; exact ⟨35, h, rfl⟩
theorem hasH_index : ∀ p : List UInt8, decide (0 ≤ Go.Lib.indexByte p 35) = hasH p
  | [] => rfl
  | b :: l => by
    have ih := hasH_index l
    have e : (((b.toNat : Nat) : Int) == 35) = (b == 35) := by
      rw [Bool.eq_iff_iff, beq_iff_eq, beq_iff_eq]
      constructor
      · intro h; exact UInt8.toNat_inj.1 (by show b.toNat = 35; omega)
      · intro h; rw [h]; rfl
    have g := Go.Lib.indexByte_ge l 35
    unfold hasH at ih ⊢
    rw [List.any_cons, ← ih, e]
    show decide (0 ≤ (if b == 35 then 0 else if Go.Lib.indexByte l 35 == -1 then -1 else Go.Lib.indexByte l 35 + 1)) = (b == 35 || decide (0 ≤ Go.Lib.indexByte l 35))
    by_cases h : (b == 35) = true
    · rw [if_pos h, h]; rfl
    · rw [if_neg h, show (b == 35) = false by simpa using h, Bool.false_or]
      by_cases h2 : (Go.Lib.indexByte l 35 == -1) = true
      · have h3 : Go.Lib.indexByte l 35 = -1 := beq_iff_eq.1 h2
        rw [if_pos h2, h3]
      · have h3 : Go.Lib.indexByte l 35 ≠ -1 := fun e => h2 (beq_iff_eq.2 e)
        rw [if_neg h2, Bool.eq_iff_iff, decide_eq_true_eq, decide_eq_true_eq]
        omega
def sealT (s : List UInt8) : List UInt8 := s ++ 35 :: numT (csum s)
theorem seal_nest (s a : List UInt8) : (s ++ [35]) ++ a = s ++ 35 :: a := by simp
theorem csum_len (s : List UInt8) : (numT (csum s)).length ≤ 7 := by
  have := csum_bd s
  exact numT_lenT (k := 6) (by omega) (by simp; omega)
def AppD (s : List UInt8) : List UInt8 × Bool := bif (decide ((s.length : Int) > 4000) || hasH s) || decide (((sealT s).length : Int) > 4000) then ([], false) else (sealT s, true)
theorem AppD_ok {s : List UInt8} (h : (AppD s).2 = true) : (35 : UInt8) ∉ s ∧ AppD s = (sealT s, true) ∧ (sealT s).length ≤ 4000 := by
  unfold AppD at h ⊢
  cases h1 : (decide ((s.length : Int) > 4000) || hasH s) || decide (((sealT s).length : Int) > 4000)
  · simp only [Bool.or_eq_false_iff, decide_eq_false_iff_not] at h1
    refine ⟨fun hm => ?_, rfl, by omega⟩
    rw [hasH_iff.2 hm] at h1
    cases h1.1.2
  · rw [h1] at h; cases h
def VerD (s : List UInt8) : List UInt8 × Bool := bif (!(AppD (Go.Lib.cut s [35]).1).2) || (!((AppD (Go.Lib.cut s [35]).1).1 == s)) then ([], false) else ((Go.Lib.cut s [35]).1, true)
theorem VerD_seal {x : List UInt8} (h : (AppD x).2 = true) : VerD (sealT x) = (x, true) := by
  obtain ⟨h1, h2, h3⟩ := AppD_ok h
  have e : Go.Lib.cut (sealT x) [35] = (x, numT (csum x), true) := cut_app h1
  unfold VerD
  rw [e]
  simp only
  rw [h2]
  simp
theorem VerD_ok {s : List UInt8} (h : (VerD s).2 = true) : ∃ x, (35 : UInt8) ∉ x ∧ s = sealT x := by
  unfold VerD at h
  cases h1 : (!(AppD (Go.Lib.cut s [35]).1).2) || (!((AppD (Go.Lib.cut s [35]).1).1 == s))
  · simp only [Bool.or_eq_false_iff, Bool.not_eq_false', beq_iff_eq] at h1
    obtain ⟨k1, k2, _⟩ := AppD_ok h1.1
    refine ⟨_, k1, ?_⟩
    have e := h1.2
    rw [k2] at e
    exact e.symm
  · rw [h1] at h; cases h
theorem seal_mid (z : List UInt8) : (sealT z)[z.length]? = some 35 := by unfold sealT; simp
theorem seal_35 {z : List UInt8} (hz : (35 : UInt8) ∉ z) {j : Nat} (h : (sealT z)[j]? = some 35) : j = z.length := by
  unfold sealT at h
  rcases Nat.lt_trichotomy j z.length with hj | hj | hj
  · rw [List.getElem?_append_left hj] at h
    exact absurd (List.mem_of_getElem? h) hz
  · exact hj
  · rw [List.getElem?_append_right (by omega)] at h
    obtain ⟨i, hi⟩ : ∃ i, j - z.length = i + 1 := ⟨j - z.length - 1, by omega⟩
    rw [hi, List.getElem?_cons_succ] at h
    have hb := csum_bd z
    have := all_free (c := 35) (numT_dgt (n := csum z) (by omega)) (by decide)
    exact absurd (List.mem_of_getElem? h) this
theorem csumF_inj {a b : Int} {c : UInt8} (ha : 0 ≤ a ∧ a < 999979) (hb : 0 ≤ b ∧ b < 999979) (h : csumF a c = csumF b c) : a = b := by
  unfold csumF at h
  omega
theorem csum_tail_ne : ∀ (l : List UInt8) {a b : Int}, (0 ≤ a ∧ a < 999979) → (0 ≤ b ∧ b < 999979) → a ≠ b → l.foldl csumF a ≠ l.foldl csumF b
  | [], a, b, _, _, h => h
  | c :: l, a, b, ha, hb, h => csum_tail_ne l (csumF_bd a c) (csumF_bd b c) (fun e => h (csumF_inj ha hb e))
theorem csum_set {x : List UInt8} {k : Nat} {v : UInt8} (hk : k < x.length) (hv : v ≠ x[k]) : csum (x.set k v) ≠ csum x := by
  have e1 : x.set k v = x.take k ++ v :: x.drop (k + 1) := List.set_eq_take_append_cons_drop .. |>.trans (by rw [if_pos hk])
  have e2 : x = x.take k ++ x[k] :: x.drop (k + 1) := by rw [List.getElem_cons_drop, List.take_append_drop]
  have hb := csum_bd (x.take k)
  unfold csum at hb ⊢
  rw [e1]
  conv => rhs; rw [e2]
  rw [List.foldl_append, List.foldl_append, List.foldl_cons, List.foldl_cons]
  refine csum_tail_ne _ (csumF_bd _ _) (csumF_bd _ _) ?_
  intro e
  have h1 := v.toNat_lt
  have h2 := x[k].toNat_lt
  apply hv
  apply UInt8.toNat_inj.1
  unfold csumF at e
  omega
theorem numT_inj {a b : Int} (ha : 0 ≤ a) (hb : 0 ≤ b) (h : numT a = numT b) : a = b := by
  have e1 : dgV (numT a) = a := by
    have e : a = ((a.toNat : Nat) : Int) := by omega
    rw [e, numT_nat, dgV_num]
  have e2 : dgV (numT b) = b := by
    have e : b = ((b.toNat : Nat) : Int) := by omega
    rw [e, numT_nat, dgV_num]
  rw [← e1, ← e2, h]
/-- One changed byte is found. -/
theorem changed {x : List UInt8} (hx : (35 : UInt8) ∉ x) {k : Nat} {v : UInt8} (hk : k < (sealT x).length) (hv : v ≠ (sealT x)[k]) : (VerD ((sealT x).set k v)).2 = false := by
  cases h : (VerD ((sealT x).set k v)).2
  · rfl
  exfalso
  obtain ⟨z, hz, e⟩ := VerD_ok h
  have hat : ∀ j, j ≠ k → (sealT z)[j]? = (sealT x)[j]? := fun j hj => by rw [← e, List.getElem?_set_ne (Ne.symm hj)]
  have hatk : (sealT z)[k]? = some v := by rw [← e, List.getElem?_set_self hk]
  by_cases hp : z.length = x.length
  · rcases Nat.lt_trichotomy k x.length with hkx | hkx | hkx
    · have e2 : (sealT x).set k v = x.set k v ++ 35 :: numT (csum x) := by unfold sealT; rw [List.set_append_left _ _ hkx]
      rw [e2] at e
      unfold sealT at e
      obtain ⟨e3, e4⟩ := List.append_inj e (by rw [List.length_set]; exact hp.symm)
      simp only [List.cons.injEq, true_and] at e4
      have e5 := numT_inj (csum_bd x).1 (csum_bd z).1 e4
      rw [← e3] at e5
      refine csum_set hkx ?_ e5.symm
      intro e6
      apply hv
      have e7 : (sealT x)[k]? = x[k]? := by unfold sealT; exact List.getElem?_append_left hkx
      rw [List.getElem?_eq_getElem hk, List.getElem?_eq_getElem hkx] at e7
      rw [e6]
      exact (Option.some.inj e7).symm
    · rw [hkx] at hatk
      rw [← hp, seal_mid] at hatk
      apply hv
      have h35 := seal_mid x
      rw [← hkx, List.getElem?_eq_getElem hk] at h35
      rw [Option.some.inj h35]
      exact (Option.some.inj hatk).symm
    · have e2 : (sealT x).set k v = x ++ (35 :: numT (csum x)).set (k - x.length) v := by unfold sealT; rw [List.set_append_right _ _ (by omega)]
      have e' := e
      rw [e2] at e
      unfold sealT at e
      obtain ⟨e3, _⟩ := List.append_inj e hp.symm
      rw [← e3] at hatk
      rw [List.getElem?_eq_getElem hk] at hatk
      exact hv (Option.some.inj hatk).symm
  · have h1 : (sealT z)[z.length]? = some 35 := seal_mid z
    have hkz : z.length = k := by
      rcases Nat.decEq z.length k with hne | he
      · rw [hat _ hne] at h1
        exact absurd (seal_35 hx h1) hp
      · exact he
    have h2 : (sealT z)[x.length]? = some 35 := by rw [hat _ (by omega), seal_mid]
    exact hp (seal_35 hz h2).symm

/-! ### The changed byte -/
theorem xor_ne {a c : Nat} (ha : a < 256) (hc : 1 ≤ c) (hc2 : c < 256) : (BitVec.ofInt 8 (a : Int) ^^^ BitVec.ofInt 8 (c : Int)).toNat ≠ a ∧ (BitVec.ofInt 8 (a : Int) ^^^ BitVec.ofInt 8 (c : Int)).toNat < 256 := by
  refine ⟨fun h => ?_, (BitVec.ofInt 8 (a : Int) ^^^ BitVec.ofInt 8 (c : Int)).isLt⟩
  have ea : (BitVec.ofInt 8 (a : Int)).toNat = a := by simp [BitVec.toNat_ofInt]; omega
  have ec : (BitVec.ofInt 8 (c : Int)).toNat = c := by simp [BitVec.toNat_ofInt]; omega
  have e1 : BitVec.ofInt 8 (a : Int) ^^^ BitVec.ofInt 8 (c : Int) = BitVec.ofInt 8 (a : Int) := BitVec.eq_of_toNat_eq (by rw [h, ea])
  have e2 : BitVec.ofInt 8 (c : Int) = 0#8 := by
    have := congrArg (BitVec.ofInt 8 (a : Int) ^^^ ·) e1
    simp only [← BitVec.xor_assoc, BitVec.xor_self, BitVec.zero_xor] at this
    exact this
  rw [e2] at ec
  simp at ec
  omega
theorem toB_bytes (y : List UInt8) : toBytes (bytesI y) = y := by
  unfold toBytes bytesI
  rw [List.map_map]
  conv => rhs; rw [← List.map_id y]
  apply List.map_congr_left
  intro b _
  simp
theorem toB_set (l : List Int) (k : Nat) (v : Int) : toBytes (l.set k v) = (toBytes l).set k (UInt8.ofNat v.toNat) := by
  unfold toBytes
  rw [List.map_set]

end Go.Proofs.YtlpnicmlgckdnaaDoor
