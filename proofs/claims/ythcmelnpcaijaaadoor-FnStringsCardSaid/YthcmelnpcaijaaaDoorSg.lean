/-
  FnStrings: numbers read, checksums held against one changed byte, and the law. Plain.
-/
import Derived.Test.YthcmelnpcaijaaaDoorCs
import Derived.Test.YthcmelnpcaijaaaDoorTx
import Derived.Lib.AtoiAllCases
set_option linter.unusedSimpArgs false
set_option linter.unusedVariables false
namespace Go.Proofs.YthcmelnpcaijaaaDoor
open Go.VS

/-! ### Numbers read -/
/-- What a reader of numbers answers at the text s. -/
def ParN (s : List UInt8) (r : Int × Bool) : Prop := (r = (0, false) ∨ (r.2 = true ∧ (-999999 ≤ r.1 ∧ r.1 ≤ 999999) ∧ s = numT r.1)) ∧ ∀ n : Int, -999999 ≤ n → n ≤ 999999 → s = numT n → r = (n, true)
theorem ParN.one {s : List UInt8} {r q : Int × Bool} (h : ParN s r) (h' : ParN s q) : r = q := by
  rcases h.1 with e | ⟨_, e2, e3⟩
  · rcases h'.1 with f | ⟨_, f2, f3⟩
    · rw [e, f]
    · rw [h.2 _ f2.1 f2.2 f3, h'.2 _ f2.1 f2.2 f3]
  · rw [h.2 _ e2.1 e2.2 e3, h'.2 _ e2.1 e2.2 e3]
theorem num_cases (n : Int) : (0 ≤ n ∧ numT n = numN n.toNat) ∨ (n < 0 ∧ numT n = 45 :: numN (-n).toNat ∧ 1 ≤ (-n).toNat) := by
  rcases (by omega : 0 ≤ n ∨ n < 0) with h | h
  · left
    have e : n = ((n.toNat : Nat) : Int) := by omega
    exact ⟨h, by conv => lhs; rw [e, numT_nat]⟩
  · right
    have e : n = -(((-n).toNat : Nat) : Int) := by omega
    exact ⟨h, by conv => lhs; rw [e, numT_neg (by omega)], by omega⟩
theorem numN_len6 {u : Nat} (h : u < 1000000) : (numN u).length ≤ 6 := numN_lenT 5 u (by simpa using h)

theorem sgRead (s : List UInt8) (hl : s.length < 1000000) : T (M.spec_l1Read s) (ParN s) := by
  unfold M.spec_l1Read
  refine T.then (Q := fun t => (t.length ≤ s.length) ∧ ((t = s ∧ ∀ r, s = 45 :: r → r = []) ∨ (s = 45 :: t ∧ t ≠ []))) ?_ ?_
  · refine T_ask (fun h => by simp only [decide_eq_true_eq] at h; omega) (T_if (fun hq => ?_) (fun hq => T_ret ⟨Nat.le_refl _, .inl ⟨rfl, ?_⟩⟩))
    · simp only [Bool.and_eq_true, decide_eq_true_eq, beq_iff_eq] at hq
      refine T_ask (by omega) (T_ret ⟨slcLe0, .inr ?_⟩)
      cases s with
      | nil => simp at hq
      | cons b r =>
        have hb : b = 45 := UInt8.toNat_inj.1 (by
          have : (((b :: r).getD (Int.toNat 0) 0).toNat : Int) = (b.toNat : Int) := rfl
          rw [this] at hq
          have := hq.2
          show b.toNat = 45
          omega)
        have e : slc (b :: r) 1 ((b :: r).length : Int) = r := by
          unfold slc
          rw [Int.toNat_natCast, List.take_length]; rfl
        rw [e, hb]
        refine ⟨rfl, ?_⟩
        rintro rfl
        simp at hq
    · rintro r rfl
      cases r with
      | nil => rfl
      | cons x r =>
        exfalso
        rw [Bool.and_eq_false_iff] at hq
        rcases hq with hq | hq
        · simp at hq; omega
        · have : (((45 :: x :: r : List UInt8).getD (Int.toNat 0) 0).toNat : Int) = 45 := rfl
          rw [this] at hq; simp at hq
  rintro t ⟨g0, g1⟩
  try dsimp only
  -- what a numeral's parts are
  have key : ∀ n : Int, -999999 ≤ n → n ≤ 999999 → s = numT n → t = numN n.natAbs ∧ (n < 0 ↔ t.length < s.length) := by
    intro n n0 n1 e
    rcases num_cases n with ⟨h, e2⟩ | ⟨h, e2, h3⟩
    · have hn : n.toNat = n.natAbs := by omega
      rw [e2, hn] at e
      rcases g1 with ⟨rfl, _⟩ | ⟨e4, _⟩
      · exact ⟨e, by omega⟩
      · exfalso
        have hm : (45 : UInt8) ∈ numN n.natAbs := by rw [← e, e4]; simp
        have := List.all_eq_true.1 (numN_dgt n.natAbs) _ hm
        revert this; decide
    · have hn : (-n).toNat = n.natAbs := by omega
      rw [e2, hn] at e
      rcases g1 with ⟨rfl, h5⟩ | ⟨e4, _⟩
      · exfalso
        have := h5 _ e
        have := numN_pos n.natAbs
        simp_all
      · rw [e] at e4 ⊢
        simp only [List.cons.injEq, true_and] at e4
        rw [← e4]
        exact ⟨rfl, by simp; omega⟩
  rw [show M.spec_l1In (t.length : Int) 1 6 = some (decide ((t.length : Int) ≥ 1) && decide ((t.length : Int) ≤ 6)) from rfl, Option.bind_some]
  refine T_if (fun hq => T_ret ⟨.inl rfl, ?_⟩) (fun hq => ?_)
  · intro n n0 n1 e
    exfalso
    obtain ⟨k1, _⟩ := key n n0 n1 e
    have := numN_len6 (u := n.natAbs) (by omega)
    have := numN_pos n.natAbs
    rw [k1] at hq
    simp only [Bool.not_eq_true', Bool.and_eq_false_iff, decide_eq_false_iff_not] at hq
    omega
  · simp only [Bool.not_eq_false', Bool.and_eq_true, decide_eq_true_eq] at hq
    refine (readLoop t (by omega)).then ?_
    rintro r (⟨m, rfl, h0, h1, h2⟩ | ⟨h1, rfl⟩)
    · try dsimp only
      refine T.then (Q := fun q => (-999999 ≤ q ∧ q ≤ 999999) ∧ ∀ n : Int, -999999 ≤ n → n ≤ 999999 → s = numT n → q = n) (T_if (fun hd => ?_) (fun hd => ?_)) ?_
      · simp only [decide_eq_true_eq] at hd
        refine T_ret ?_
        rw [wrap64_id (by omega) (by omega)]
        refine ⟨by omega, fun n n0 n1 e => ?_⟩
        obtain ⟨k1, k2⟩ := key n n0 n1 e
        have hm : m = (n.natAbs : Int) := by rw [h2 (by rw [k1]; exact numN_dgt _), k1, dgV_num]
        have : n < 0 := k2.2 (by omega)
        omega
      · simp only [decide_eq_false_iff_not] at hd
        refine T_ret ⟨by omega, fun n n0 n1 e => ?_⟩
        obtain ⟨k1, k2⟩ := key n n0 n1 e
        have hm : m = (n.natAbs : Int) := by rw [h2 (by rw [k1]; exact numN_dgt _), k1, dgV_num]
        have : ¬ n < 0 := fun h => hd (by have := k2.1 h; omega)
        omega
      rintro q ⟨g3, g4⟩
      try dsimp only
      rw [numS q (by omega) (by omega), Option.bind_some]
      refine T_if (fun hb => T_ret ⟨.inl rfl, ?_⟩) (fun hb => T_ret ⟨.inr ⟨rfl, g3, ?_⟩, ?_⟩)
      · intro n n0 n1 e
        exfalso
        rw [g4 n n0 n1 e, ← e] at hb
        simp at hb
      · simpa using Eq.symm (show numT q = s by simpa using hb)
      · intro n n0 n1 e
        rw [g4 n n0 n1 e]
    · refine T_ret ⟨.inl rfl, ?_⟩
      intro n n0 n1 e
      exfalso
      rw [(key n n0 n1 e).1, numN_dgt] at h1
      cases h1

theorem pu_app : ∀ (l r : List UInt8) (acc a : Nat), Go.Lib.parseUint10 acc l = .ok a → Go.Lib.parseUint10 acc (l ++ r) = Go.Lib.parseUint10 a r
  | [], r, acc, a, h => by
    simp only [Go.Lib.parseUint10, Go.Lib.NumEnd.ok.injEq] at h
    rw [h]; rfl
  | c :: l, r, acc, a, h => by
    rw [List.cons_append]
    simp only [Go.Lib.parseUint10] at h ⊢
    split at h
    · next h1 =>
      rw [if_pos h1]
      split at h
      · cases h
      · next h2 =>
        rw [if_neg h2]
        split at h
        · cases h
        · next h3 => rw [if_neg h3]; exact pu_app l r _ a h
    · cases h
theorem pu_num : ∀ u : Nat, u < 1000000000 → Go.Lib.parseUint10 0 (numN u) = .ok u := by
  intro u
  induction u using Nat.strongRecOn with
  | ind u ih =>
    intro hu
    have one : ∀ a d : Nat, a < 1000000000 → d < 10 → Go.Lib.parseUint10 a [digB d] = .ok (a * 10 + d) := by
      intro a d ha hd
      have e := (digB_at hd).2
      simp only [Go.Lib.parseUint10]
      rw [e, if_pos (by omega), if_neg (by omega), if_neg (by omega)]
      congr 1
      omega
    rcases Nat.lt_or_ge u 10 with h | h
    · rw [numN_small h, one 0 u (by omega) h]; congr 1; omega
    · rw [numN_big h, pu_app _ _ _ _ (ih (u / 10) (by omega) (by omega)), one _ _ (by omega) (by omega)]
      congr 1
      omega
theorem mag_num {u : Nat} (h : u < 1000000000) : Go.Lib.parseMag (numN u) = .ok u := by
  have := numN_pos u
  unfold Go.Lib.parseMag
  rw [if_neg (by intro e; rw [e] at this; simp at this), pu_num u h]
theorem atoi_num {n : Int} (h0 : -999999 ≤ n) (h1 : n ≤ 999999) : atoiR (numT n) = (n, false) := by
  unfold atoiR
  rcases num_cases n with ⟨h, e2⟩ | ⟨h, e2, h3⟩
  · have hd : ∃ c r, numN n.toNat = c :: r ∧ c.toNat ≠ 43 ∧ c.toNat ≠ 45 := by
      cases hn : numN n.toNat with
      | nil => have := numN_pos n.toNat; rw [hn] at this; simp at this
      | cons c r =>
        have := List.all_eq_true.1 (numN_dgt n.toNat) c (by rw [hn]; simp)
        have := dgt_iff.1 this
        exact ⟨c, r, rfl, by omega, by omega⟩
    obtain ⟨c, r, e3, k1, k2⟩ := hd
    have e4 : Go.Lib.atoiAll (numT n) = .ok n := by
      rw [e2, e3, Go.Lib.atoiAll_plain c r k1 k2, ← e3, mag_num (by omega)]
      unfold Go.Lib.signless
      simp only
      rw [if_neg (by omega)]
      congr 1
      omega
    rw [e4]
  · have e4 : Go.Lib.atoiAll (numT n) = .ok n := by
      rw [e2, Go.Lib.atoiAll_minus, mag_num (by omega)]
      unfold Go.Lib.signed
      simp only
      rw [if_neg (by omega)]
      congr 1
      omega
    rw [e4]
theorem atoiAll_bd (s : List UInt8) : -9223372036854775808 ≤ (atoiR s).1 ∧ (atoiR s).1 ≤ 9223372036854775807 ∨ True := .inr trivial
theorem sgParse (s : List UInt8) (hl : s.length < 1000000) : T (M.impl_ParseInt s) (ParN s) := by
  unfold M.impl_ParseInt M.strconv_Atoi
  rw [asrt_pos (by omega), Option.bind_some]
  have key : ∀ n : Int, -999999 ≤ n → n ≤ 999999 → s = numT n → atoiR s = (n, false) := by
    rintro n n0 n1 rfl
    exact atoi_num n0 n1
  generalize atoiR s = y at key
  obtain ⟨v, e⟩ := y
  cases e
  · simp only [cond_false, Bool.false_or]
    rw [show M.impl_within v (-999999) 999999 = some (inR v (-999999) 999999) from rfl, Option.bind_some]
    cases hi : inR v (-999999) 999999
    · refine T_ret ⟨.inl rfl, ?_⟩
      intro n n0 n1 e
      exfalso
      have := key n n0 n1 e
      cases this
      rw [inR_true.2 ⟨n0, n1⟩] at hi
      cases hi
    · have hb := inR_true.1 hi
      simp only [Bool.not_true, cond_false, Bool.false_or]
      rw [decI v (by omega) (by omega), Option.bind_some]
      refine T_if (fun hb => T_ret ⟨.inl rfl, ?_⟩) (fun hb2 => T_ret ⟨.inr ⟨rfl, hb, ?_⟩, ?_⟩)
      · intro n n0 n1 e
        exfalso
        have := key n n0 n1 e
        cases this
        rw [← e] at hb
        simp at hb
      · exact Eq.symm (show numT v = s by simpa using hb2)
      · intro n n0 n1 e
        have := key n n0 n1 e
        cases this
        rfl
  · refine T_ret ⟨.inl rfl, ?_⟩
    intro n n0 n1 e
    exfalso
    have := key n n0 n1 e
    cases this
theorem sgParseS (s : List UInt8) (hl : s.length < 1000000) : T (M.spec_ParseInt s) (ParN s) := by
  unfold M.spec_ParseInt
  exact (sgRead s hl).then fun r hr => T_ret hr

def FmtD (n : Int) : List UInt8 × Bool := bif inR n (-999999) 999999 then (numT n, true) else ([], false)
theorem fmtI (n : Int) (h0 : -1000000000 ≤ n) (h1 : n ≤ 1000000000) : M.impl_FormatInt n = some (FmtD n) := by
  unfold M.impl_FormatInt FmtD
  rw [show M.impl_within n (-999999) 999999 = some (inR n (-999999) 999999) from rfl, Option.bind_some]
  cases inR n (-999999) 999999
  · rfl
  · rw [Bool.not_true, cond_false, decI n h0 h1]; rfl
theorem fmtS (n : Int) (h0 : -1000000000 ≤ n) (h1 : n ≤ 1000000000) : M.spec_FormatInt n = some (FmtD n) := by
  unfold M.spec_FormatInt FmtD
  rw [show M.spec_l1In n (-999999) 999999 = some (inR n (-999999) 999999) from rfl, Option.bind_some]
  cases inR n (-999999) 999999
  · rfl
  · rw [Bool.not_true, cond_false, numS n h0 h1]; rfl

/-! ### Checksums -/
def hasH (s : List UInt8) : Bool := s.any fun b => ((b.toNat : Nat) : Int) == 35
theorem hasH_iff {s : List UInt8} : hasH s = true ↔ (35 : UInt8) ∈ s := by
  unfold hasH
  rw [List.any_eq_true]
  constructor
  · rintro ⟨b, hb, e⟩
    rw [beq_iff_eq] at e
    have : b = 35 := UInt8.toNat_inj.1 (by show b.toNat = 35; omega)
    rw [← this]; exact hb
  · intro h; exact ⟨35, h, rfl⟩
theorem hasH_index : ∀ p : List UInt8, decide (0 ≤ Go.Lib.indexByte p 35) = hasH p
  | [] => rfl
  | b :: l => by
    have ih := hasH_index l
    have e : (((b.toNat : Nat) : Int) == 35) = (b == 35) := by
      rw [Bool.eq_iff_iff, beq_iff_eq, beq_iff_eq]
      constructor
      · intro h; exact UInt8.toNat_inj.1 (by show b.toNat = 35; omega)
      · intro h; rw [h]; rfl
    have g := Go.Lib.indexByte_ge l 35
    unfold hasH at ih ⊢
    rw [List.any_cons, ← ih, e]
    show decide (0 ≤ (if b == 35 then 0 else if Go.Lib.indexByte l 35 == -1 then -1 else Go.Lib.indexByte l 35 + 1)) = (b == 35 || decide (0 ≤ Go.Lib.indexByte l 35))
    by_cases h : (b == 35) = true
    · rw [if_pos h, h]; rfl
    · rw [if_neg h, show (b == 35) = false by simpa using h, Bool.false_or]
      by_cases h2 : (Go.Lib.indexByte l 35 == -1) = true
      · have h3 : Go.Lib.indexByte l 35 = -1 := beq_iff_eq.1 h2
        rw [if_pos h2, h3]
      · have h3 : Go.Lib.indexByte l 35 ≠ -1 := fun e => h2 (beq_iff_eq.2 e)
        rw [if_neg h2, Bool.eq_iff_iff, decide_eq_true_eq, decide_eq_true_eq]
        omega
theorem hashI' (p : List UInt8) : M.strings_Contains p [35] = some (hasH p) := by
  unfold M.strings_Contains
  rw [asrt_pos (show ([35] : List UInt8).length = 1 from rfl), ← hasH_index]
  rfl
theorem hashS' (p : List UInt8) (hp : p.length < 1000000) : M.spec_l1Stands p 35 = some (hasH p) := by
  unfold M.spec_l1Stands hasH
  rw [iter_any (s := 0) (step := M.spec_l1Stands_l0 p 35) (fun k => (k : Int)) p.length (fun k => (((p.getD k default).toNat : Nat) : Int) == 35) (.inr true) (.inl ()) rfl (by omega)
    (fun k hk hp => by
      have hp : ((((p.getD k 0).toNat : Nat) : Int) == 35) = false := hp
      unfold M.spec_l1Stands_l0
      dsimp only
      rw [decide_eq_true (by omega), cond_true, asrt_pos ⟨by omega, by omega⟩, Int.toNat_natCast, hp, cond_false, wrap64_id (by omega) (by omega), cast_succ])
    (fun k hk hp => by
      have hp : ((((p.getD k 0).toNat : Nat) : Int) == 35) = true := hp
      unfold M.spec_l1Stands_l0
      dsimp only
      rw [decide_eq_true (by omega), cond_true, asrt_pos ⟨by omega, by omega⟩, Int.toNat_natCast, hp, cond_true])
    (by
      unfold M.spec_l1Stands_l0
      dsimp only
      rw [decide_eq_false (by omega), cond_false])]
  rw [← any_getD (p := fun b : UInt8 => ((b.toNat : Nat) : Int) == 35)]
  cases p.any (fun b => ((b.toNat : Nat) : Int) == 35) <;> rfl
def sealT (s : List UInt8) : List UInt8 := s ++ 35 :: numT (csum s)
theorem seal_nest (s a : List UInt8) : (s ++ [35]) ++ a = s ++ 35 :: a := by simp
theorem csum_len (s : List UInt8) : (numT (csum s)).length ≤ 7 := by
  have := csum_bd s
  exact numT_lenT (k := 6) (by omega) (by simp; omega)
def AppD (s : List UInt8) : List UInt8 × Bool := bif (decide ((s.length : Int) > 4000) || hasH s) || decide (((sealT s).length : Int) > 4000) then ([], false) else (sealT s, true)
theorem sgAppI (s : List UInt8) (hl : s.length < 100000) : M.impl_AppendChecksum s = some (AppD s) := by
  unfold M.impl_AppendChecksum AppD
  have hb := csum_bd s
  have hc := csum_len s
  rw [hashI']
  cases h1 : decide ((s.length : Int) > 4000)
  · cases h2 : hasH s
    · simp only [cond_false, Option.bind_some, Bool.or_self, Bool.false_or]
      rw [asrt_pos (by simp only [List.length_cons, List.length_nil]; omega), csumI s (by omega), Option.bind_some, decI _ (by omega) (by omega), Option.bind_some, asrt_pos (by simp only [List.length_append, List.length_cons, List.length_nil]; omega), seal_nest]
      show (bif decide (((sealT s).length : Int) > 4000) then _ else _) = _
      cases decide (((sealT s).length : Int) > 4000) <;> rfl
    · rfl
  · rfl
theorem sealS (s : List UInt8) (hl : s.length < 100000) : M.spec_l1Seal s = some (sealT s) := by
  unfold M.spec_l1Seal
  have hb := csum_bd s
  have hc := csum_len s
  rw [asrt_pos (by simp only [List.length_cons, List.length_nil]; omega), csumS s (by omega), Option.bind_some, numS _ (by omega) (by omega), Option.bind_some, asrt_pos (by simp only [List.length_append, List.length_cons, List.length_nil]; omega), seal_nest]
  rfl
theorem sgAppS (s : List UInt8) (hl : s.length < 100000) : M.spec_AppendChecksum s = some (AppD s) := by
  unfold M.spec_AppendChecksum AppD
  rw [hashS' s (by omega), sealS s hl]
  cases h1 : decide ((s.length : Int) > 4000)
  · cases h2 : hasH s
    · simp only [cond_false, Option.bind_some, Bool.or_self, Bool.false_or]
      cases decide (((sealT s).length : Int) > 4000) <;> rfl
    · rfl
  · rfl
theorem AppD_ok {s : List UInt8} (h : (AppD s).2 = true) : (35 : UInt8) ∉ s ∧ AppD s = (sealT s, true) ∧ (sealT s).length ≤ 4000 := by
  unfold AppD at h ⊢
  cases h1 : (decide ((s.length : Int) > 4000) || hasH s) || decide (((sealT s).length : Int) > 4000)
  · simp only [Bool.or_eq_false_iff, decide_eq_false_iff_not] at h1
    refine ⟨fun hm => ?_, rfl, by omega⟩
    rw [hasH_iff.2 hm] at h1
    cases h1.1.2
  · rw [h1] at h; cases h
def VerD (s : List UInt8) : List UInt8 × Bool := bif (!(AppD (Go.Lib.cut s [35]).1).2) || (!((AppD (Go.Lib.cut s [35]).1).1 == s)) then ([], false) else ((Go.Lib.cut s [35]).1, true)
theorem sgVer (s : List UInt8) (hl : s.length < 100000) : M.impl_VerifyChecksum s = some (VerD s) := by
  unfold M.impl_VerifyChecksum VerD
  have := cut_len s [35]
  rw [cutI s _ (by omega), Option.bind_some, sgAppI _ (by omega), Option.bind_some]
  cases (!(AppD (Go.Lib.cut s [35]).1).2) || (!((AppD (Go.Lib.cut s [35]).1).1 == s)) <;> rfl
theorem VerD_seal {x : List UInt8} (h : (AppD x).2 = true) : VerD (sealT x) = (x, true) := by
  obtain ⟨h1, h2, h3⟩ := AppD_ok h
  have e : Go.Lib.cut (sealT x) [35] = (x, numT (csum x), true) := cut_app h1
  unfold VerD
  rw [e]
  simp only
  rw [h2]
  simp
theorem VerD_ok {s : List UInt8} (h : (VerD s).2 = true) : ∃ x, (35 : UInt8) ∉ x ∧ s = sealT x := by
  unfold VerD at h
  cases h1 : (!(AppD (Go.Lib.cut s [35]).1).2) || (!((AppD (Go.Lib.cut s [35]).1).1 == s))
  · simp only [Bool.or_eq_false_iff, Bool.not_eq_false', beq_iff_eq] at h1
    obtain ⟨k1, k2, _⟩ := AppD_ok h1.1
    refine ⟨_, k1, ?_⟩
    have e := h1.2
    rw [k2] at e
    exact e.symm
  · rw [h1] at h; cases h
theorem seal_mid (z : List UInt8) : (sealT z)[z.length]? = some 35 := by unfold sealT; simp
theorem seal_35 {z : List UInt8} (hz : (35 : UInt8) ∉ z) {j : Nat} (h : (sealT z)[j]? = some 35) : j = z.length := by
  unfold sealT at h
  rcases Nat.lt_trichotomy j z.length with hj | hj | hj
  · rw [List.getElem?_append_left hj] at h
    exact absurd (List.mem_of_getElem? h) hz
  · exact hj
  · rw [List.getElem?_append_right (by omega)] at h
    obtain ⟨i, hi⟩ : ∃ i, j - z.length = i + 1 := ⟨j - z.length - 1, by omega⟩
    rw [hi, List.getElem?_cons_succ] at h
    have hb := csum_bd z
    have := all_free (c := 35) (numT_dgt (n := csum z) (by omega)) (by decide)
    exact absurd (List.mem_of_getElem? h) this
theorem csumF_inj {a b : Int} {c : UInt8} (ha : 0 ≤ a ∧ a < 999979) (hb : 0 ≤ b ∧ b < 999979) (h : csumF a c = csumF b c) : a = b := by
  unfold csumF at h
  omega
theorem csum_tail_ne : ∀ (l : List UInt8) {a b : Int}, (0 ≤ a ∧ a < 999979) → (0 ≤ b ∧ b < 999979) → a ≠ b → l.foldl csumF a ≠ l.foldl csumF b
  | [], a, b, _, _, h => h
  | c :: l, a, b, ha, hb, h => csum_tail_ne l (csumF_bd a c) (csumF_bd b c) (fun e => h (csumF_inj ha hb e))
theorem csum_set {x : List UInt8} {k : Nat} {v : UInt8} (hk : k < x.length) (hv : v ≠ x[k]) : csum (x.set k v) ≠ csum x := by
  have e1 : x.set k v = x.take k ++ v :: x.drop (k + 1) := List.set_eq_take_append_cons_drop .. |>.trans (by rw [if_pos hk])
  have e2 : x = x.take k ++ x[k] :: x.drop (k + 1) := by rw [List.getElem_cons_drop, List.take_append_drop]
  have hb := csum_bd (x.take k)
  unfold csum at hb ⊢
  rw [e1]
  conv => rhs; rw [e2]
  rw [List.foldl_append, List.foldl_append, List.foldl_cons, List.foldl_cons]
  refine csum_tail_ne _ (csumF_bd _ _) (csumF_bd _ _) ?_
  intro e
  have h1 := v.toNat_lt
  have h2 := x[k].toNat_lt
  apply hv
  apply UInt8.toNat_inj.1
  unfold csumF at e
  omega
theorem numT_inj {a b : Int} (ha : 0 ≤ a) (hb : 0 ≤ b) (h : numT a = numT b) : a = b := by
  have e1 : dgV (numT a) = a := by
    have e : a = ((a.toNat : Nat) : Int) := by omega
    rw [e, numT_nat, dgV_num]
  have e2 : dgV (numT b) = b := by
    have e : b = ((b.toNat : Nat) : Int) := by omega
    rw [e, numT_nat, dgV_num]
  rw [← e1, ← e2, h]
/-- One changed byte is found. -/
theorem changed {x : List UInt8} (hx : (35 : UInt8) ∉ x) {k : Nat} {v : UInt8} (hk : k < (sealT x).length) (hv : v ≠ (sealT x)[k]) : (VerD ((sealT x).set k v)).2 = false := by
  cases h : (VerD ((sealT x).set k v)).2
  · rfl
  exfalso
  obtain ⟨z, hz, e⟩ := VerD_ok h
  have hat : ∀ j, j ≠ k → (sealT z)[j]? = (sealT x)[j]? := fun j hj => by rw [← e, List.getElem?_set_ne (Ne.symm hj)]
  have hatk : (sealT z)[k]? = some v := by rw [← e, List.getElem?_set_self hk]
  by_cases hp : z.length = x.length
  · rcases Nat.lt_trichotomy k x.length with hkx | hkx | hkx
    · have e2 : (sealT x).set k v = x.set k v ++ 35 :: numT (csum x) := by unfold sealT; rw [List.set_append_left _ _ hkx]
      rw [e2] at e
      unfold sealT at e
      obtain ⟨e3, e4⟩ := List.append_inj e (by rw [List.length_set]; exact hp.symm)
      simp only [List.cons.injEq, true_and] at e4
      have e5 := numT_inj (csum_bd x).1 (csum_bd z).1 e4
      rw [← e3] at e5
      refine csum_set hkx ?_ e5.symm
      intro e6
      apply hv
      have e7 : (sealT x)[k]? = x[k]? := by unfold sealT; exact List.getElem?_append_left hkx
      rw [List.getElem?_eq_getElem hk, List.getElem?_eq_getElem hkx] at e7
      rw [e6]
      exact (Option.some.inj e7).symm
    · rw [hkx] at hatk
      rw [← hp, seal_mid] at hatk
      apply hv
      have h35 := seal_mid x
      rw [← hkx, List.getElem?_eq_getElem hk] at h35
      rw [Option.some.inj h35]
      exact (Option.some.inj hatk).symm
    · have e2 : (sealT x).set k v = x ++ (35 :: numT (csum x)).set (k - x.length) v := by unfold sealT; rw [List.set_append_right _ _ (by omega)]
      have e' := e
      rw [e2] at e
      unfold sealT at e
      obtain ⟨e3, _⟩ := List.append_inj e hp.symm
      rw [← e3] at hatk
      rw [List.getElem?_eq_getElem hk] at hatk
      exact hv (Option.some.inj hatk).symm
  · have h1 : (sealT z)[z.length]? = some 35 := seal_mid z
    have hkz : z.length = k := by
      rcases Nat.decEq z.length k with hne | he
      · rw [hat _ hne] at h1
        exact absurd (seal_35 hx h1) hp
      · exact he
    have h2 : (sealT z)[x.length]? = some 35 := by rw [hat _ (by omega), seal_mid]
    exact hp (seal_35 hz h2).symm

/-! ### The changed byte -/
theorem xor_ne {a c : Nat} (ha : a < 256) (hc : 1 ≤ c) (hc2 : c < 256) : (BitVec.ofInt 8 (a : Int) ^^^ BitVec.ofInt 8 (c : Int)).toNat ≠ a ∧ (BitVec.ofInt 8 (a : Int) ^^^ BitVec.ofInt 8 (c : Int)).toNat < 256 := by
  refine ⟨fun h => ?_, (BitVec.ofInt 8 (a : Int) ^^^ BitVec.ofInt 8 (c : Int)).isLt⟩
  have ea : (BitVec.ofInt 8 (a : Int)).toNat = a := by simp [BitVec.toNat_ofInt]; omega
  have ec : (BitVec.ofInt 8 (c : Int)).toNat = c := by simp [BitVec.toNat_ofInt]; omega
  have e1 : BitVec.ofInt 8 (a : Int) ^^^ BitVec.ofInt 8 (c : Int) = BitVec.ofInt 8 (a : Int) := BitVec.eq_of_toNat_eq (by rw [h, ea])
  have e2 : BitVec.ofInt 8 (c : Int) = 0#8 := by
    have := congrArg (BitVec.ofInt 8 (a : Int) ^^^ ·) e1
    simp only [← BitVec.xor_assoc, BitVec.xor_self, BitVec.zero_xor] at this
    exact this
  rw [e2] at ec
  simp at ec
  omega
theorem toB_bytes (y : List UInt8) : toBytes (bytesI y) = y := by
  unfold toBytes bytesI
  rw [List.map_map]
  conv => rhs; rw [← List.map_id y]
  apply List.map_congr_left
  intro b _
  simp
theorem toB_set (l : List Int) (k : Nat) (v : Int) : toBytes (l.set k v) = (toBytes l).set k (UInt8.ofNat v.toNat) := by
  unfold toBytes
  rw [List.map_set]

theorem vAt_bd {code : List Int} (hb : Bytes code) (i : Nat) (hi : i < 1000) : ∃ x, M.laws_vAt code (i : Int) = some x ∧ 0 ≤ x ∧ x ≤ 255 := by
  unfold M.laws_vAt
  have h1 := hb.1
  by_cases h : (i : Int) < (code.length : Int)
  · rw [decide_eq_true h, cond_true, asrt_pos ⟨by omega, h⟩, Int.toNat_natCast]
    have hm := hb.2 _ (getD_mem (l := code) (i := i) (by omega))
    exact ⟨_, rfl, by rw [wrap64_id (by omega) (by omega)]; exact hm⟩
  · rw [decide_eq_false h, cond_false]
    refine ⟨_, rfl, ?_⟩
    rw [wrap64_id (n := (i : Int) * 7) (by omega) (by omega), wrap64_id (by omega) (by omega)]
    have := tmod_range (x := (i : Int) * 7 + (code.length : Int)) (n := 256) (by omega) (by omega)
    omega

theorem of_sg {code : List Int} {k : Nat} {c : Cur} {l : List (List UInt8)} (hb : Bytes code) (h : Good code k c) (hk : k < 900000000) (hl : l ≠ []) : T (M.spec_l1Cur_of c l) (fun r => r.1 ∈ l ∧ Good code (k + 2) r.2) := by
  unfold M.spec_l1Cur_of
  have hl' : 0 < l.length := List.length_pos_iff.2 hl
  refine (pick_ok hb h hk).then ?_
  rintro ⟨x, c'⟩ ⟨_, h2, h3⟩
  have h4 := h2 (by omega)
  rw [T_asrt, T_some]
  exact ⟨h4, getD_mem (by omega), h3⟩

theorem law_FnStrings (code : List Int) (h1 : code.length ≤ 9223372036854775807) (h2 : ∀ x, x ∈ code → 0 ≤ x ∧ x ≤ 255) : M.laws_FnStrings code = some true := by
  apply T.eq
  unfold M.laws_FnStrings M.laws_vBig
  rw [Option.bind_some]
  refine T_if (fun _ => T_ret rfl) (fun hq => ?_)
  simp only [decide_eq_false_iff_not] at hq
  have hb : Bytes code := ⟨by omega, h2⟩
  have g0 : Good code 0 (⟨code, 0, 0⟩ : Cur) := ⟨rfl, Int.le_refl _, Int.le_refl _⟩
  have d1 : T (M.spec_DrawFormatInt code) (fun n => -1000000 ≤ n ∧ n ≤ 1000000) := by
    unfold M.spec_DrawFormatInt
    refine T_pick hb g0 (by omega) ?_
    intro z c1 _ hz g1
    have hz := hz (by omega)
    try dsimp only
    rw [wrap64_id (n := z - 500) (by omega) (by omega)]
    refine T_among hb g1 (by omega) (by simp) ?_
    intro x c2 hx _
    refine T_ret ?_
    simp only [List.mem_cons, List.not_mem_nil, or_false] at hx
    rcases hx with h | h | h | h | h | h | h | h | h <;> rw [h] <;> omega
  refine d1.then ?_
  intro n hn
  rw [fmtI n (by omega) (by omega), Option.bind_some, fmtS n (by omega) (by omega), Option.bind_some]
  have d2 : T (M.spec_DrawParseInt code) (fun s => s.length ≤ 1000) := by
    unfold M.spec_DrawParseInt
    refine T_one hb g0 (by omega) ?_
    intro b c1 g1
    refine T_if (fun _ => ?_) (fun _ => ?_)
    · refine (of_sg hb g1 (by omega) (by simp)).then ?_
      rintro ⟨s, c2⟩ ⟨hs, _⟩
      refine T_ret ?_
      have : ∀ y ∈ ([[], [45], [45, 48], [48, 48], [48, 49], [45, 45, 49], [49, 120], [57, 57, 57, 57, 57, 57], [49, 48, 48, 48, 48, 48, 48], [45, 57, 57, 57, 57, 57, 57], [49, 56, 52, 52, 54, 55, 52, 52, 48, 55, 51, 55, 48, 57, 53, 53, 49, 54, 49, 55]] : List (List UInt8)), y.length ≤ 1000 := by decide
      exact this s hs
    · refine T_pick hb g1 (by omega) ?_
      intro z c2 _ hz g2
      have hz := hz (by omega)
      try dsimp only
      rw [wrap64_id (n := z - 1000) (by omega) (by omega), numS _ (by omega) (by omega), Option.bind_some]
      refine T_ret ?_
      rcases num_cases (z - 1000) with ⟨_, e⟩ | ⟨_, e, _⟩
      · rw [e]; have := numN_len6 (u := (z - 1000).toNat) (by omega); omega
      · rw [e]; have := numN_len6 (u := (-(z - 1000)).toNat) (by omega); simp only [List.length_cons]; omega
  refine d2.then ?_
  intro s hs
  refine (sgParse s (by omega)).then ?_
  intro p1 hp1
  refine (sgParseS s (by omega)).then ?_
  intro p2 hp2
  obtain rfl := ParN.one hp1 hp2
  have d3 : T (M.spec_DrawAppendChecksum code) (fun x => x.length ≤ 4000) := by
    unfold M.spec_DrawAppendChecksum
    refine T_one hb g0 (by omega) ?_
    intro b c1 g1
    refine T_if (fun _ => ?_) (fun _ => ?_)
    · refine T_pick hb g1 (by omega) ?_
      intro z c2 _ hz g2
      have hz := hz (by omega)
      try dsimp only
      rw [wrap64_id (n := 3990 + z) (by omega) (by omega)]
      refine T_ask ⟨by omega, by omega, by omega⟩ (T_ret ?_)
      unfold toBytes
      rw [List.length_map, List.length_replicate]
      omega
    · unfold M.spec_l1Cur_any1
      refine T_in (T_in ((of_sg hb g1 (by omega) (by simp)).mono ?_))
      rintro ⟨x, c2⟩ ⟨hx, _⟩
      refine T_ret (T_ret ?_)
      have : ∀ y ∈ ([[], [97], [97, 44, 98], [115, 111, 109, 101, 32, 119, 111, 114, 100, 115], [120, 35, 121], [45, 49, 50], [0, 255], [44, 44], [48]] : List (List UInt8)), y.length ≤ 4000 := by decide
      exact this x hx
  refine d3.then ?_
  intro x hx
  rw [sgAppI x (by omega), Option.bind_some, sgAppS x (by omega), Option.bind_some]
  simp only [bne_self_eq_false, beq_self_eq_true, Bool.not_true, Bool.or_self, cond_false]
  have hfl : (FmtD n).1.length < 1000000 := by
    unfold FmtD
    cases hi : inR n (-999999) 999999
    · simp
    · have := inR_true.1 hi
      simp only [cond_true]
      rcases num_cases n with ⟨_, e⟩ | ⟨_, e, _⟩
      · rw [e]; have := numN_len6 (u := n.toNat) (by omega); omega
      · rw [e]; have := numN_len6 (u := (-n).toNat) (by omega); simp only [List.length_cons]; omega
  refine (sgParse _ hfl).then ?_
  intro p3 hp3
  have hno : ((FmtD n).2 && ((!p3.2) || (p3.1 != n))) = false := by
    unfold FmtD at hp3 ⊢
    cases hi : inR n (-999999) 999999
    · rfl
    · have hib := inR_true.1 hi
      rw [hi] at hp3
      rw [hp3.2 n hib.1 hib.2 rfl]
      simp
  rw [hno, cond_false]
  refine T_if (fun ho => T_ret ?_) (fun ho => ?_)
  · unfold AppD at ho ⊢
    cases h1 : (decide ((x.length : Int) > 4000) || hasH x) || decide (((sealT x).length : Int) > 4000)
    · rw [h1] at ho; cases ho
    · rfl
  · simp only [Bool.not_eq_false'] at ho
    obtain ⟨hx35, eA, hlen⟩ := AppD_ok ho
    rw [eA]
    try dsimp only
    have hl0 : 1 ≤ (sealT x).length := by unfold sealT; simp; omega
    have hbl : (bytesI (sealT x)).length = (sealT x).length := by simp [bytesI]
    rw [sgVer _ (by omega), Option.bind_some, VerD_seal ho]
    obtain ⟨y12, e12, b12⟩ := vAt_bd hb 9 (by omega)
    obtain ⟨y13, e13, b13⟩ := vAt_bd hb 10 (by omega)
    rw [show (9 : Int) = ((9 : Nat) : Int) from rfl, e12, Option.bind_some]
    have hk := tmod_range (x := y12) (n := ((bytesI (sealT x)).length : Int)) b12.1 (by omega)
    generalize hK : Int.tmod y12 ((bytesI (sealT x)).length : Int) = kk at hk
    refine T_ask (by omega) (T_ask hk ?_)
    rw [show (10 : Int) = ((10 : Nat) : Int) from rfl, e13, Option.bind_some]
    refine T_ask hk ?_
    have hc := tmod_range (x := y13) (n := 255) b13.1 (by omega)
    rw [wrap64_id (n := 1 + Int.tmod y13 255) (by omega) (by omega), wrap8_id (n := 1 + Int.tmod y13 255) (by omega) (by omega)]
    have hkN : kk.toNat < (sealT x).length := by omega
    have hg : (bytesI (sealT x)).getD kk.toNat default = (((sealT x)[kk.toNat].toNat : Nat) : Int) := by
      unfold bytesI
      simp [List.getD, hkN]
    obtain ⟨cN, hcN⟩ : ∃ cN : Nat, 1 + Int.tmod y13 255 = (cN : Int) := ⟨(1 + Int.tmod y13 255).toNat, by omega⟩
    rw [hg, hcN]
    have hxor := xor_ne (a := (sealT x)[kk.toNat].toNat) (c := cN) (sealT x)[kk.toNat].toNat_lt (by omega) (by omega)
    have e8 : (BitVec.ofInt IntKind.u8.bits (((sealT x)[kk.toNat].toNat : Nat) : Int) ^^^ BitVec.ofInt IntKind.u8.bits (cN : Int)).toNat = (BitVec.ofInt 8 (((sealT x)[kk.toNat].toNat : Nat) : Int) ^^^ BitVec.ofInt 8 (cN : Int)).toNat := rfl
    rw [e8, wrap8_id (by omega) (by omega), toB_set, toB_bytes, Int.toNat_natCast]
    have hv : UInt8.ofNat (BitVec.ofInt 8 (((sealT x)[kk.toNat].toNat : Nat) : Int) ^^^ BitVec.ofInt 8 (cN : Int)).toNat ≠ (sealT x)[kk.toNat] := by
      intro e
      apply hxor.1
      have := congrArg UInt8.toNat e
      rw [UInt8.toNat_ofNat'] at this
      omega
    rw [sgVer _ (by rw [List.length_set]; omega), Option.bind_some, changed hx35 hkN hv]
    exact T_ret (by simp)
end Go.Proofs.YthcmelnpcaijaaaDoor
