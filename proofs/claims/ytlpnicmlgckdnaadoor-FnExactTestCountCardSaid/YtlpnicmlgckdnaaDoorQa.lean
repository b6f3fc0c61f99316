/-
  Queries: the parser and the reference go through the text together; the laws of IsQuery, NegatedQuery, NestingOf. Plain.
-/
import Derived.Test.YtlpnicmlgckdnaaDoorSg
set_option linter.unusedSimpArgs false
set_option linter.unusedVariables false
namespace Go.Proofs.YtlpnicmlgckdnaaDoor
open Go.VS

/-! ### The scans -/
def qyB (s : List UInt8) (n : Nat) : UInt8 := s.getD n 0
def qyOm (a : Int × Int) (b : UInt8) : Int × Int :=
  let o := if b = 40 then a.1 + 1 else if b = 41 then a.1 - 1 else a.1
  (o, if o < a.2 then a.2 else o)
def qySc (s : List UInt8) (n : Nat) : Int × Int := (s.take n).foldl qyOm (0, 0)
def qyLt (b : UInt8) : Bool := decide (97 ≤ b.toNat) && decide (b.toNat ≤ 122)
def qyCt (s : List UInt8) (n : Nat) : Nat := (s.take n).countP qyLt
theorem qySc_next {s : List UInt8} {n : Nat} (h : n < s.length) : qySc s (n + 1) = qyOm (qySc s n) (qyB s n) := foldl_take h
theorem qyCt_next {s : List UInt8} {n : Nat} (h : n < s.length) : qyCt s (n + 1) = qyCt s n + (if qyLt (qyB s n) then 1 else 0) := by
  unfold qyCt qyB
  rw [List.take_add_one, List.countP_append, List.getElem?_eq_getElem h, List.getD_eq_getElem?_getD, List.getElem?_eq_getElem h]
  simp [List.countP_cons]
theorem qySc_bd (s : List UInt8) : ∀ n : Nat, n ≤ s.length → (-(n : Int) ≤ (qySc s n).1 ∧ (qySc s n).1 ≤ (n : Int)) ∧ (qySc s n).1 ≤ (qySc s n).2 ∧ (qySc s n).2 ≤ (n : Int)
  | 0, _ => by simp [qySc]
  | n + 1, h => by
    have ih := qySc_bd s n (by omega)
    rw [qySc_next (by omega)]
    unfold qyOm
    dsimp only
    obtain ⟨x, e, hx⟩ : ∃ x, (if qyB s n = 40 then (qySc s n).1 + 1 else if qyB s n = 41 then (qySc s n).1 - 1 else (qySc s n).1) = x ∧ (qySc s n).1 - 1 ≤ x ∧ x ≤ (qySc s n).1 + 1 := by
      refine ⟨_, rfl, ?_⟩
      split
      · omega
      · split <;> omega
    rw [e]
    refine ⟨by omega, ?_, ?_⟩ <;> split <;> omega
theorem qyOm_same {a : Int × Int} {b : UInt8} (h : a.1 ≤ a.2) (h1 : b ≠ 40) (h2 : b ≠ 41) : qyOm a b = a := by
  unfold qyOm
  simp only [h1, h2, if_false]
  obtain ⟨o, m⟩ := a
  dsimp only at h ⊢
  split
  · rfl
  · have : o = m := by omega
    rw [this]
theorem qySc_same {s : List UInt8} {a : Nat} : ∀ d : Nat, a + d ≤ s.length → (∀ j, j < d → qyB s (a + j) ≠ 40 ∧ qyB s (a + j) ≠ 41) → qySc s (a + d) = qySc s a
  | 0, _, _ => rfl
  | d + 1, h, hj => by
    rw [← Nat.add_assoc, qySc_next (by omega), qySc_same d (by omega) fun j hj' => hj j (by omega)]
    exact qyOm_same (qySc_bd s a (by omega)).2.1 (hj d (by omega)).1 (hj d (by omega)).2
theorem qyCt_same {s : List UInt8} {a : Nat} : ∀ d : Nat, a + d ≤ s.length → (∀ j, j < d → qyLt (qyB s (a + j)) = false) → qyCt s (a + d) = qyCt s a
  | 0, _, _ => rfl
  | d + 1, h, hj => by
    rw [← Nat.add_assoc, qyCt_next (by omega), qyCt_same d (by omega) fun j hj' => hj j (by omega), hj d (by omega)]
    simp

/-! ### The tests of a query -/
mutual
def qyN : QE → Nat
  | .mk _ _ ps => (if ps.isEmpty then 1 else 0) + qyNs ps
def qyNs : List QE → Nat
  | [] => 0
  | q :: qs => qyN q + qyNs qs
end
theorem qyNs_app : ∀ a b : List QE, qyNs (a ++ b) = qyNs a + qyNs b
  | [], b => by simp [qyNs]
  | q :: qs, b => by rw [List.cons_append, qyNs, qyNs, qyNs_app qs b]; omega
theorem qyNs_one (q : QE) : qyNs [q] = qyN q := by simp [qyNs]
theorem qyN_parts {a b : Int} {ps : List QE} (h : ps ≠ []) : qyN (.mk a b ps) = qyNs ps := by
  rw [qyN]
  cases ps with
  | nil => exact absurd rfl h
  | cons q qs => simp
theorem qyN_leaf (a b : Int) : qyN (.mk a b []) = 1 := by simp [qyN, qyNs]

/-! ### Both at once -/
def qySt (s : List UInt8) (n : Nat) : Parser := ⟨s, (n : Int), false, (qySc s n).1, (qySc s n).2⟩
abbrev qyR0 : Record := ⟨(0 : Int), (0 : Int), (0 : Int), ([] : List Event)⟩
def qyOk (s : List UInt8) (n : Nat) (x : Query × Parser) (y : Bool × Int) : Prop :=
  (x.2.Bad = true ∧ y.2 = -1) ∨ ∃ m : Nat, n < m ∧ m ≤ s.length ∧ x.2 = qySt s m ∧ y.2 = (m : Int) ∧ qyN (qe x.1) + qyCt s n = qyCt s m
def qyBo (s : List UInt8) (n : Nat) (mi : Option (Query × Parser)) (ms : Option (Bool × Int)) : Prop := ∃ x y, mi = some x ∧ ms = some y ∧ qyOk s n x y

theorem qyAt {s : List UInt8} {n : Nat} : s.getD (Int.toNat (n : Int)) 0 = qyB s n := by rw [Int.toNat_natCast]; rfl
theorem qyByte {b : UInt8} {c : Nat} (hc : c < 256) : ((b.toNat : Int) == (c : Int)) = (b == UInt8.ofNat c) := by
  rw [Bool.eq_iff_iff, beq_iff_eq, beq_iff_eq]
  constructor
  · intro h
    apply UInt8.toNat_inj.1
    rw [UInt8.toNat_ofNat_of_lt' (by simpa [UInt8.size] using hc)]
    omega
  · rintro rfl
    rw [UInt8.toNat_ofNat_of_lt' (by simpa [UInt8.size] using hc)]
/-- The byte c follows. -/
def qyHas (s : List UInt8) (n : Nat) (c : Nat) : Bool := decide (n < s.length) && (((qyB s n).toNat : Int) == (c : Int))
theorem qyHas_t {s : List UInt8} {n c : Nat} (h : qyHas s n c = true) : n < s.length ∧ (qyB s n).toNat = c := by
  simp only [qyHas, Bool.and_eq_true, decide_eq_true_eq, beq_iff_eq] at h
  omega
theorem qySees (s : List UInt8) (n : Nat) (o m : Int) (c : Nat) (hl : s.length ≤ 60) :
    M.impl_parser_sees (⟨s, (n : Int), false, o, m⟩ : Parser) (c : Int) = some (bif qyHas s n c then (true, ⟨s, ((n + 1 : Nat) : Int), false, o, m⟩) else (false, ⟨s, (n : Int), false, o, m⟩)) := by
  unfold M.impl_parser_sees qyHas
  dsimp only
  rw [qyAt]
  by_cases h : n < s.length
  · rw [asrt_pos (by omega), show decide ((n : Int) < (s.length : Int)) = true by simpa using h, show decide (n < s.length) = true by simpa using h, Bool.true_and]
    cases ((qyB s n).toNat : Int) == (c : Int) with
    | false => rfl
    | true =>
      rw [cond_true, cond_true, wrap64_id (by omega) (by omega), cast_succ]
  · rw [asrt_pos (by intro h2; simp at h2; omega), show decide ((n : Int) < (s.length : Int)) = false by simpa using h, show decide (n < s.length) = false by simpa using h]
    rfl
/-- The state behind a byte that is no bracket. -/
theorem qySt_next {s : List UInt8} {n : Nat} (h : n < s.length) (h1 : qyB s n ≠ 40) (h2 : qyB s n ≠ 41) : (⟨s, ((n + 1 : Nat) : Int), false, (qySc s n).1, (qySc s n).2⟩ : Parser) = qySt s (n + 1) := by
  unfold qySt
  rw [qySc_next h, qyOm_same (qySc_bd s n (by omega)).2.1 h1 h2]
theorem qyNe {b : UInt8} {c d : Nat} (h : b.toNat = c) (hd : d < 256) (hcd : c ≠ d) : b ≠ UInt8.ofNat d := by
  rintro rfl
  rw [UInt8.toNat_ofNat_of_lt' (by simpa [UInt8.size] using hd)] at h
  omega
theorem qySees' {s : List UInt8} {n : Nat} (c : Nat) (hl : s.length ≤ 60) (h1 : c ≠ 40) (h2 : c ≠ 41) :
    M.impl_parser_sees (qySt s n) (c : Int) = some (bif qyHas s n c then (true, qySt s (n + 1)) else (false, qySt s n)) := by
  rw [show qySt s n = ⟨s, (n : Int), false, (qySc s n).1, (qySc s n).2⟩ from rfl, qySees s n _ _ c hl]
  cases h : qyHas s n c with
  | false => rfl
  | true =>
    obtain ⟨h3, h4⟩ := qyHas_t h
    rw [cond_true, cond_true, qySt_next h3 (qyNe h4 (by decide) h1) (qyNe h4 (by decide) h2)]

/-! ### Queries: one test. Plain. -/
theorem qyNl_in {s : List UInt8} {j : Nat} (hl : s.length ≤ 60) (h : j < s.length) (hd : dgt (qyB s j) = true) : M.spec_l19Number_l0 s (j : Int) = some (.inl ((j + 1 : Nat) : Int)) := by
  unfold M.spec_l19Number_l0
  dsimp only
  rw [qyAt]
  obtain ⟨h1, h2⟩ := dgt_iff.1 hd
  rw [asrt_pos (by omega), asrt_pos (by omega), show decide ((j : Int) < (s.length : Int)) = true by simpa using h, show decide (((qyB s j).toNat : Int) ≥ 48) = true by simp; omega, show decide (((qyB s j).toNat : Int) ≤ 57) = true by simp; omega, wrap64_id (by omega) (by omega), cast_succ]
  rfl
theorem qyNl_out {s : List UInt8} {j : Nat} (hj : j ≤ s.length) (h : j = s.length ∨ dgt (qyB s j) = false) : M.spec_l19Number_l0 s (j : Int) = some (.inr (j : Int)) := by
  unfold M.spec_l19Number_l0
  dsimp only
  rw [qyAt]
  have hc : ((decide ((j : Int) < (s.length : Int)) && decide (((qyB s j).toNat : Int) ≥ 48)) && decide (((qyB s j).toNat : Int) ≤ 57)) = false := by
    rcases h with h | h
    · rw [show decide ((j : Int) < (s.length : Int)) = false by simp; omega]; rfl
    · unfold dgt at h
      rw [Bool.and_assoc, show (decide (((qyB s j).toNat : Int) ≥ 48) && decide (((qyB s j).toNat : Int) ≤ 57)) = false by
        rw [← h]; congr 1 <;> (rw [decide_eq_decide]; omega), Bool.and_false]
  rw [asrt_pos (by intro h2; simp at h2; omega), asrt_pos (by intro h2; simp at h2; omega), hc]
  rfl
theorem qyPl_in {s : List UInt8} {j : Nat} {o m : Int} (hl : s.length ≤ 60) (h : j < s.length) (hd : dgt (qyB s j) = true) : M.impl_parser_test_l0 (⟨s, (j : Int), false, o, m⟩ : Parser) = some (.inl (⟨s, ((j + 1 : Nat) : Int), false, o, m⟩ : Parser)) := by
  unfold M.impl_parser_test_l0
  dsimp only
  rw [qyAt]
  obtain ⟨h1, h2⟩ := dgt_iff.1 hd
  rw [asrt_pos (by omega), asrt_pos (by omega), show decide ((j : Int) < (s.length : Int)) = true by simpa using h, show decide (((qyB s j).toNat : Int) ≥ 48) = true by simp; omega, show decide (((qyB s j).toNat : Int) ≤ 57) = true by simp; omega, wrap64_id (by omega) (by omega), cast_succ]
  rfl
theorem qyPl_out {s : List UInt8} {j : Nat} {o m : Int} (hj : j ≤ s.length) (h : j = s.length ∨ dgt (qyB s j) = false) : M.impl_parser_test_l0 (⟨s, (j : Int), false, o, m⟩ : Parser) = some (.inr (⟨s, (j : Int), false, o, m⟩ : Parser)) := by
  unfold M.impl_parser_test_l0
  dsimp only
  rw [qyAt]
  have hc : ((decide ((j : Int) < (s.length : Int)) && decide (((qyB s j).toNat : Int) ≥ 48)) && decide (((qyB s j).toNat : Int) ≤ 57)) = false := by
    rcases h with h | h
    · rw [show decide ((j : Int) < (s.length : Int)) = false by simp; omega]; rfl
    · unfold dgt at h
      rw [Bool.and_assoc, show (decide (((qyB s j).toNat : Int) ≥ 48) && decide (((qyB s j).toNat : Int) ≤ 57)) = false by
        rw [← h]; congr 1 <;> (rw [decide_eq_decide]; omega), Bool.and_false]
  rw [asrt_pos (by intro h2; simp at h2; omega), asrt_pos (by intro h2; simp at h2; omega), hc]
  rfl
/-- Where the digits end. -/
theorem qyEnd (s : List UInt8) (a : Nat) (ha : a ≤ s.length) : ∃ d : Nat, a + d ≤ s.length ∧ (∀ j, j < d → dgt (qyB s (a + j)) = true) ∧ (a + d = s.length ∨ dgt (qyB s (a + d)) = false) := by
  rcases find_cases (n := s.length - a) (fun k => !dgt (qyB s (a + k))) with ⟨k, h1, h2, h3⟩ | h
  · exact ⟨k, by omega, fun j hj => by simpa using h3 j hj, .inr (by simpa using h2)⟩
  · exact ⟨s.length - a, by omega, fun j hj => by simpa using h j hj, .inl (by omega)⟩
theorem qyNloop {s : List UInt8} {a d : Nat} (hl : s.length ≤ 60) (hd : a + d ≤ s.length) (h1 : ∀ j, j < d → dgt (qyB s (a + j)) = true) (h2 : a + d = s.length ∨ dgt (qyB s (a + d)) = false) :
    iterO (M.spec_l19Number_l0 s) (a : Int) = some ((a + d : Nat) : Int) :=
  iter_up (fun k => ((a + k : Nat) : Int)) d rfl (by omega) (fun k hk => qyNl_in hl (by omega) (h1 k hk)) (qyNl_out hd h2)
theorem qyPloop {s : List UInt8} {a d : Nat} {o m : Int} (hl : s.length ≤ 60) (hd : a + d ≤ s.length) (h1 : ∀ j, j < d → dgt (qyB s (a + j)) = true) (h2 : a + d = s.length ∨ dgt (qyB s (a + d)) = false) :
    iterO M.impl_parser_test_l0 (⟨s, (a : Int), false, o, m⟩ : Parser) = some (⟨s, ((a + d : Nat) : Int), false, o, m⟩ : Parser) :=
  iter_up (fun k => (⟨s, ((a + k : Nat) : Int), false, o, m⟩ : Parser)) d rfl (by omega) (fun k hk => qyPl_in hl (by omega) (h1 k hk)) (qyPl_out hd h2)
theorem qyDay (v : Int) : ∃ z, M.spec_l2DayOf qyR0 v = some z := by
  unfold M.spec_l2DayOf
  cases v == (0 : Int) with
  | true => exact ⟨_, rfl⟩
  | false =>
    rw [cond_false, show iterO (M.spec_l2DayOf_l0 qyR0 v) (0 : Int) = some (.inl ()) from iter_up (fun _ => (0 : Int)) 0 rfl (by omega) (fun k hk => absurd hk (Nat.not_lt_zero _)) rfl]
    exact ⟨_, rfl⟩

/-- The number of a test is in its range. -/
def qyRg (b : UInt8) (v : Int) : Bool :=
  if b.toNat = 115 then inR v 1 99 else if b.toNat = 105 then inR v 1 999 else if b.toNat = 101 then inR v 1 9 else if b.toNat = 97 then inR v 0 20000 else false
theorem qyCast {b : UInt8} {c : Nat} : ((b.toNat : Int) == (c : Int)) = decide (b.toNat = c) := by
  rw [Bool.eq_iff_iff, beq_iff_eq, decide_eq_true_eq]; omega
theorem qyTestS {s : List UInt8} {n d : Nat} {r : Int × Bool} (hl : s.length ≤ 60) (hn : n < s.length) (hd : n + 1 + d ≤ s.length) (h1 : ∀ j, j < d → dgt (qyB s (n + 1 + j)) = true) (h2 : n + 1 + d = s.length ∨ dgt (qyB s (n + 1 + d)) = false)
    (hr : M.spec_l1Read (slc s ((n + 1 : Nat) : Int) ((n + 1 + d : Nat) : Int)) = some r) :
    ∃ yes, M.spec_l19Test s (n : Int) qyR0 = some (yes, if (r.2 && qyRg (qyB s n) r.1) = true then ((n + 1 + d : Nat) : Int) else -1) := by
  have hnum : M.spec_l19Number s ((n + 1 : Nat) : Int) = some (bif r.2 then (r.1, ((n + 1 + d : Nat) : Int)) else (0, -1)) := by
    unfold M.spec_l19Number
    rw [qyNloop hl hd h1 h2, Option.bind_some]
    try dsimp only
    rw [asrt_pos (by omega), hr, Option.bind_some]
    cases r.2 <;> rfl
  unfold M.spec_l19Test
  rw [show decide ((n : Int) ≥ (s.length : Int)) = false by simp; omega, cond_false, wrap64_id (by omega) (by omega), show (n : Int) + 1 = ((n + 1 : Nat) : Int) by omega, hnum, Option.bind_some]
  cases hr2 : r.2 with
  | false => exact ⟨false, rfl⟩
  | true =>
    rw [cond_true, Bool.true_and]
    dsimp only
    rw [show decide (((n + 1 + d : Nat) : Int) < 0) = false by simp; omega, cond_false, qyAt, asrt_pos (by omega)]
    rw [show (((qyB s n).toNat : Int) == (115 : Int)) = decide ((qyB s n).toNat = 115) from qyCast (c := 115), show (((qyB s n).toNat : Int) == (105 : Int)) = decide ((qyB s n).toNat = 105) from qyCast (c := 105), show (((qyB s n).toNat : Int) == (101 : Int)) = decide ((qyB s n).toNat = 101) from qyCast (c := 101), show (((qyB s n).toNat : Int) == (97 : Int)) = decide ((qyB s n).toNat = 97) from qyCast (c := 97)]
    unfold qyRg
    simp only [l1InS, l2DayS]
    by_cases c1 : (qyB s n).toNat = 115
    · simp only [c1]
      cases hg : inR r.1 1 99 with
      | true => exact ⟨_, rfl⟩
      | false =>
        rw [asrt_pos (by omega), asrt_pos (by omega), asrt_pos (by omega)]
        exact ⟨_, rfl⟩
    by_cases c2 : (qyB s n).toNat = 105
    · rw [asrt_pos (by omega)]
      simp only [c2]
      cases hg : inR r.1 1 999 with
      | true => exact ⟨_, rfl⟩
      | false =>
        rw [asrt_pos (by omega), asrt_pos (by omega)]
        exact ⟨_, rfl⟩
    by_cases c3 : (qyB s n).toNat = 101
    · rw [asrt_pos (by omega), asrt_pos (by omega)]
      simp only [c3]
      cases hg : inR r.1 1 9 with
      | true =>
        obtain ⟨z, hz⟩ := qyDay r.1
        simp only [hz]
        exact ⟨_, rfl⟩
      | false =>
        rw [asrt_pos (by omega)]
        exact ⟨_, rfl⟩
    by_cases c4 : (qyB s n).toNat = 97
    · rw [asrt_pos (by omega), asrt_pos (by omega), asrt_pos (by omega)]
      simp only [c4]
      cases hg : inR r.1 0 20000 with
      | true => exact ⟨_, rfl⟩
      | false => exact ⟨_, rfl⟩
    · rw [asrt_pos (by omega), asrt_pos (by omega), asrt_pos (by omega)]
      simp only [c1, c2, c3, c4, decide_false]
      exact ⟨_, rfl⟩
theorem qyTestI {s : List UInt8} {n d : Nat} {r : Int × Bool} {o m : Int} (hl : s.length ≤ 60) (hn : n < s.length) (hd : n + 1 + d ≤ s.length) (h1 : ∀ j, j < d → dgt (qyB s (n + 1 + j)) = true) (h2 : n + 1 + d = s.length ∨ dgt (qyB s (n + 1 + d)) = false)
    (hr : M.impl_ParseInt (slc s ((n + 1 : Nat) : Int) ((n + 1 + d : Nat) : Int)) = some r) :
    M.impl_parser_test (⟨s, (n : Int), false, o, m⟩ : Parser) = some (⟨((qyB s n).toNat : Int), r.1, []⟩, ⟨s, ((n + 1 + d : Nat) : Int), !(r.2 && qyRg (qyB s n) r.1), o, m⟩) := by
  unfold M.impl_parser_test
  dsimp only
  rw [show ((n : Int) == (s.length : Int)) = false by rw [Bool.eq_false_iff]; simp; omega, cond_false, asrt_pos (by omega), wrap64_id (by omega) (by omega), show (n : Int) + 1 = ((n + 1 : Nat) : Int) by omega, qyPloop hl hd h1 h2, Option.bind_some]
  try dsimp only
  rw [asrt_pos (by omega), hr, Option.bind_some, qyAt]
  rw [show (((qyB s n).toNat : Int) == (115 : Int)) = decide ((qyB s n).toNat = 115) from qyCast (c := 115), show (((qyB s n).toNat : Int) == (105 : Int)) = decide ((qyB s n).toNat = 105) from qyCast (c := 105), show (((qyB s n).toNat : Int) == (101 : Int)) = decide ((qyB s n).toNat = 101) from qyCast (c := 101), show (((qyB s n).toNat : Int) == (97 : Int)) = decide ((qyB s n).toNat = 97) from qyCast (c := 97)]
  simp only [isIdI, isDayI, withinI, show M.impl_isRecordId r.1 = some (inR r.1 1 999) from rfl]
  unfold qyRg
  by_cases c1 : (qyB s n).toNat = 115
  · simp only [c1]; cases r.2 <;> rfl
  by_cases c2 : (qyB s n).toNat = 105
  · simp only [c2]; cases r.2 <;> rfl
  by_cases c3 : (qyB s n).toNat = 101
  · simp only [c3]; cases r.2 <;> rfl
  by_cases c4 : (qyB s n).toNat = 97
  · simp only [c4]; cases r.2 <;> rfl
  · simp only [c1, c2, c3, c4, decide_false]
    cases r.2 <;> rfl
theorem qyRg_t {b : UInt8} {v : Int} (h : qyRg b v = true) : b.toNat = 115 ∨ b.toNat = 105 ∨ b.toNat = 101 ∨ b.toNat = 97 := by
  unfold qyRg at h
  by_cases c1 : b.toNat = 115
  · exact .inl c1
  by_cases c2 : b.toNat = 105
  · exact .inr (.inl c2)
  by_cases c3 : b.toNat = 101
  · exact .inr (.inr (.inl c3))
  by_cases c4 : b.toNat = 97
  · exact .inr (.inr (.inr c4))
  · simp [c1, c2, c3, c4] at h
theorem qyTest (s : List UInt8) (n : Nat) (hl : s.length ≤ 60) (hn : n ≤ s.length) : qyBo s n (M.impl_parser_test (qySt s n)) (M.spec_l19Test s (n : Int) qyR0) := by
  rcases Nat.eq_or_lt_of_le hn with h | h
  · refine ⟨(⟨0, 0, []⟩, ⟨s, (n : Int), true, (qySc s n).1, (qySc s n).2⟩), (false, -1), ?_, ?_, .inl ⟨rfl, rfl⟩⟩
    · unfold M.impl_parser_test qySt
      dsimp only
      rw [show ((n : Int) == (s.length : Int)) = true by rw [beq_iff_eq]; omega, cond_true]
    · unfold M.spec_l19Test
      rw [show decide ((n : Int) ≥ (s.length : Int)) = true by simp; omega, cond_true]
  · obtain ⟨d, hd, h1, h2⟩ := qyEnd s (n + 1) (by omega)
    have hsl : (slc s ((n + 1 : Nat) : Int) ((n + 1 + d : Nat) : Int)).length < 1000000 := by have := slcLe (l := s) (a := ((n + 1 : Nat) : Int)) (b := ((n + 1 + d : Nat) : Int)); omega
    obtain ⟨r, hr, hp⟩ := sgRead _ hsl
    obtain ⟨r', hr', hp'⟩ := sgParse _ hsl
    obtain rfl := hp.one hp'
    obtain ⟨yes, hs⟩ := qyTestS hl h hd h1 h2 hr
    refine ⟨_, _, qyTestI hl h hd h1 h2 hr', hs, ?_⟩
    cases hok : r.2 && qyRg (qyB s n) r.1 with
    | false => exact .inl ⟨rfl, rfl⟩
    | true =>
      rw [Bool.and_eq_true] at hok
      have hb := qyRg_t hok.2
      have e40 : ∀ b : UInt8, b.toNat ≠ 40 → b ≠ 40 := fun b hb e => hb (by rw [e]; rfl)
      have e41 : ∀ b : UInt8, b.toNat ≠ 41 → b ≠ 41 := fun b hb e => hb (by rw [e]; rfl)
      have hdg : ∀ j, j < d → 48 ≤ (qyB s (n + 1 + j)).toNat ∧ (qyB s (n + 1 + j)).toNat ≤ 57 := fun j hj => dgt_iff.1 (h1 j hj)
      have hsc : qySc s (n + 1 + d) = qySc s n := by
        rw [Nat.add_assoc]
        refine qySc_same (1 + d) (by omega) fun j hj => ?_
        rcases Nat.eq_zero_or_pos j with rfl | hj0
        · exact ⟨e40 _ (by rw [Nat.add_zero]; omega), e41 _ (by rw [Nat.add_zero]; omega)⟩
        · have := hdg (j - 1) (by omega)
          rw [show n + 1 + (j - 1) = n + j by omega] at this
          exact ⟨e40 _ (by omega), e41 _ (by omega)⟩
      have hct : qyCt s (n + 1 + d) = qyCt s n + 1 := by
        rw [qyCt_same d hd fun j hj => by have := hdg j hj; unfold qyLt; rw [Bool.and_eq_false_iff, decide_eq_false_iff_not]; omega, qyCt_next h]
        rw [if_pos (by unfold qyLt; rw [Bool.and_eq_true, decide_eq_true_eq, decide_eq_true_eq]; omega)]
      refine .inr ⟨n + 1 + d, by omega, hd, ?_, rfl, ?_⟩
      · unfold qySt; rw [hsc]; rfl
      · show qyN (.mk _ _ []) + _ = _
        rw [qyN_leaf, hct]; omega

/-! ### Queries: terms, factors, the whole; the laws of IsQuery, NegatedQuery, NestingOf. Plain. -/
/-- The reference's loop over what a sign joins. -/
def qyStep (c : Int) (op : Bool → Bool → Bool) (fs : List UInt8 → Int → Record → Option (Bool × Int)) (s : List UInt8) (r_ : Record) : (Bool × Int) → Option ((Bool × Int) ⊕ (Bool × Int)) := fun st_ => match st_ with
| (yes0, end_0) =>
  asrt (((decide (end_0 ≥ (0 : Int))) && (decide (end_0 < (s.length : Int)))) = true → ((0 : Int) ≤ end_0 ∧ end_0 < (s.length : Int))) <|
  bif (((decide (end_0 ≥ (0 : Int))) && (decide (end_0 < (s.length : Int)))) && (((s.getD (Int.toNat end_0) 0).toNat : Int) == c)) then (
    (fs s (IntKind.i64.wrap (end_0 + (1 : Int))) r_).bind fun y2 =>
    some (.inl ((op yes0 y2.1), y2.2)))
  else (
    some (.inr (yes0, end_0)))
def qyJoin (c : Int) (op : Bool → Bool → Bool) (fs : List UInt8 → Int → Record → Option (Bool × Int)) (s : List UInt8) (at_ : Int) (r_ : Record) : Option (Bool × Int) :=
  (fs s at_ r_).bind fun y0 =>
  (iterO (qyStep c op fs s r_) (y0.1, y0.2)).bind fun e => match e with
  | (yes, end_) =>
    (some (yes, end_))
theorem qyJoin_term (rec_ : List UInt8 → Int → Record → Option (Bool × Int)) (s : List UInt8) (a : Int) (r : Record) : M.spec_l19Term_p rec_ s a r = qyJoin 38 (· && ·) rec_ s a r := rfl
theorem qyJoin_query (rec_ : List UInt8 → Int → Record → Option (Bool × Int)) (s : List UInt8) (a : Int) (r : Record) : M.spec_l19Query_p rec_ s a r = qyJoin 124 (· || ·) (M.spec_l19Term_p rec_) s a r := rfl

def qyAll (s : List UInt8) (lo : Nat) (fi : Parser → Option (Query × Parser)) (fs : List UInt8 → Int → Record → Option (Bool × Int)) : Prop := ∀ n : Nat, lo ≤ n → n ≤ s.length → qyBo s n (fi (qySt s n)) (fs s (n : Int) qyR0)

theorem qyHas_byte {s : List UInt8} {n c : Nat} (h : n < s.length) : (((qyB s n).toNat : Int) == (c : Int)) = qyHas s n c := by
  unfold qyHas
  rw [show decide (n < s.length) = true by simpa using h, Bool.true_and]

/-- The two loops between signs. -/
def qyRel (s : List UInt8) (n : Nat) (x : List QE × Parser) (y : Bool × Int) : Prop :=
  (x.2.Bad = true ∧ y.2 = -1) ∨ ∃ m : Nat, n < m ∧ m ≤ s.length ∧ x.2 = qySt s m ∧ y.2 = (m : Int) ∧ qyNs x.1 + qyCt s n = qyCt s m ∧ x.1 ≠ [] ∧ x.1.length ≤ m
theorem qyJoined (s : List UInt8) (lo c : Nat) (op : Bool → Bool → Bool) (fi : Parser → Option (Query × Parser)) (fs : List UInt8 → Int → Record → Option (Bool × Int)) (hl : s.length ≤ 60) (hc : c = 38 ∨ c = 124) (h : qyAll s lo fi fs) :
    qyAll s lo (fun p => M.impl_parser_joined p (c : Int) fi) (qyJoin (c : Int) op fs) := by
  intro n hlo hn
  obtain ⟨x0, y0, hx0, hy0, hok⟩ := h n hlo hn
  have h0 : qyRel s n ([qe x0.1], x0.2) (y0.1, y0.2) := by
    rcases hok with ⟨h1, h2⟩ | ⟨m, h1, h2, h3, h4, h5⟩
    · exact .inl ⟨h1, h2⟩
    · exact .inr ⟨m, h1, h2, h3, h4, by rw [qyNs_one]; exact h5, by simp, by simp; omega⟩
  have key : ∀ (x : List QE × Parser) (y : Bool × Int), qyRel s n x y → (∃ t t', M.impl_parser_joined_l0 (c : Int) fi x = some (.inl t) ∧ qyStep (c : Int) op fs s qyR0 y = some (.inl t') ∧ qyRel s n t t' ∧ (bif t.2.Bad then 0 else (s.length - t.2.At.toNat) + 1) < (bif x.2.Bad then 0 else (s.length - x.2.At.toNat) + 1)) ∨ ∃ e e', M.impl_parser_joined_l0 (c : Int) fi x = some (.inr e) ∧ qyStep (c : Int) op fs s qyR0 y = some (.inr e') ∧ qyRel s n e e' := by
    rintro ⟨ps, p⟩ ⟨yes, en⟩ hr
    rcases hr with ⟨h1, h2⟩ | ⟨m, h1, h2, h3, h4, h5, h6, h7⟩
    · dsimp only at h1 h2
      subst h2
      refine .inr ⟨(ps, p), (yes, -1), ?_, ?_, .inl ⟨h1, rfl⟩⟩
      · unfold M.impl_parser_joined_l0
        dsimp only
        rw [h1]
        rfl
      · unfold qyStep
        dsimp only
        rw [asrt_pos (by intro h; simp at h)]
        rfl
    · dsimp only at h3 h4 h5 h6 h7
      subst h3 h4
      have hs : (decide ((m : Int) ≥ 0) && decide ((m : Int) < (s.length : Int))) = decide (m < s.length) := by
        rw [show decide ((m : Int) ≥ 0) = true by simp, Bool.true_and, decide_eq_decide]; omega
      cases hh : qyHas s m c with
      | false =>
        refine .inr ⟨(ps, qySt s m), (yes, (m : Int)), ?_, ?_, .inr ⟨m, h1, h2, rfl, rfl, h5, h6, h7⟩⟩
        · unfold M.impl_parser_joined_l0
          dsimp only
          rw [show (qySt s m).Bad = false from rfl, Bool.not_false, cond_true, qySees' c hl (by omega) (by omega), hh]
          rfl
        · unfold qyStep
          dsimp only
          rw [asrt_pos (by intro h; rw [hs] at h; simp at h; omega), hs, qyAt]
          rw [show (decide (m < s.length) && (((qyB s m).toNat : Int) == (c : Int))) = qyHas s m c from rfl, hh]
          rfl
      | true =>
        obtain ⟨g1, g2⟩ := qyHas_t hh
        obtain ⟨x, y, hx, hy, hok⟩ := h (m + 1) (by omega) (by omega)
        have hct : qyCt s (m + 1) = qyCt s m := by
          rw [qyCt_next g1, if_neg]; rfl
          unfold qyLt; rw [g2]; rcases hc with rfl | rfl <;> decide
        refine .inl ⟨(ps ++ [qe x.1], x.2), (op yes y.1, y.2), ?_, ?_, ?_, ?_⟩
        · unfold M.impl_parser_joined_l0
          dsimp only
          rw [show (qySt s m).Bad = false from rfl, Bool.not_false, cond_true, qySees' c hl (by omega) (by omega), hh]
          simp only [cond_true, Option.bind_some, Bool.true_and]
          rw [hx, Option.bind_some, asrt_pos (by simp; omega)]
        · unfold qyStep
          dsimp only
          rw [asrt_pos (by intro h; omega), hs, qyAt]
          rw [show (decide (m < s.length) && (((qyB s m).toNat : Int) == (c : Int))) = qyHas s m c from rfl, hh, cond_true, wrap64_id (by omega) (by omega), show (m : Int) + 1 = ((m + 1 : Nat) : Int) by omega, hy]
          rfl
        · rcases hok with ⟨k1, k2⟩ | ⟨m', k1, k2, k3, k4, k5⟩
          · exact .inl ⟨k1, k2⟩
          · refine .inr ⟨m', by omega, k2, k3, k4, ?_, by simp, by simp; omega⟩
            dsimp only
            rw [qyNs_app, qyNs_one]
            omega
        · show (bif x.2.Bad then 0 else (s.length - x.2.At.toNat) + 1) < (bif (qySt s m).Bad then 0 else (s.length - (qySt s m).At.toNat) + 1)
          rw [show (qySt s m).Bad = false from rfl, show (qySt s m).At = (m : Int) from rfl, Int.toNat_natCast, cond_false]
          rcases hok with ⟨k1, k2⟩ | ⟨m', k1, k2, k3, k4, k5⟩
          · rw [k1, cond_true]; omega
          · rw [k3, show (qySt s m').Bad = false from rfl, show (qySt s m').At = (m' : Int) from rfl, Int.toNat_natCast, cond_false]; omega
  obtain ⟨e, e', he, he', hq⟩ := iter_rel (step := M.impl_parser_joined_l0 (c : Int) fi) (step' := qyStep (c : Int) op fs s qyR0) (qyRel s n) (qyRel s n) (fun x => bif x.2.Bad then 0 else (s.length - x.2.At.toNat) + 1) key h0 (by
    dsimp only; cases x0.2.Bad <;> simp <;> omega)
  refine ⟨(⟨(c : Int), 0, e.1⟩, e.2), (e'.1, e'.2), ?_, ?_, ?_⟩
  · dsimp only
    unfold M.impl_parser_joined
    rw [hx0, Option.bind_some, he, Option.bind_some]
  · unfold qyJoin
    rw [hy0, Option.bind_some, he', Option.bind_some]
  · rcases hq with ⟨h1, h2⟩ | ⟨m, h1, h2, h3, h4, h5, h6, _⟩
    · exact .inl ⟨h1, h2⟩
    · exact .inr ⟨m, h1, h2, h3, h4, by rw [show qe (⟨(c : Int), 0, e.1⟩ : Query) = .mk (c : Int) 0 e.1 from rfl, qyN_parts h6]; exact h5⟩
theorem qyQuery (s : List UInt8) (lo : Nat) (fi : Parser → Option (Query × Parser)) (fs : List UInt8 → Int → Record → Option (Bool × Int)) (hl : s.length ≤ 60) (h : qyAll s lo fi fs) : qyAll s lo (M.impl_parser_query_p fi) (M.spec_l19Query_p fs) := by
  have ht : qyAll s lo (fun x0 => M.impl_parser_term_p fi x0) (M.spec_l19Term_p fs) := by
    intro n h1 h2
    obtain ⟨x, y, hx, hy, hok⟩ := qyJoined s lo 38 (· && ·) fi fs hl (.inl rfl) h n h1 h2
    refine ⟨x, y, ?_, hy, hok⟩
    unfold M.impl_parser_term_p
    dsimp only at hx ⊢
    rw [show (fun x0 => fi x0) = fi from rfl]
    rw [show ((38 : Nat) : Int) = 38 from rfl] at hx
    rw [hx]; rfl
  intro n h1 h2
  obtain ⟨x, y, hx, hy, hok⟩ := qyJoined s lo 124 (· || ·) (fun x0 => M.impl_parser_term_p fi x0) (M.spec_l19Term_p fs) hl (.inr rfl) ht n h1 h2
  refine ⟨x, y, ?_, hy, hok⟩
  unfold M.impl_parser_query_p
  dsimp only at hx
  rw [show ((124 : Nat) : Int) = 124 from rfl] at hx
  rw [hx]; rfl

theorem qyFactor (s : List UInt8) (hl : s.length ≤ 60) : ∀ (k n : Nat), n ≤ s.length → s.length - n < k → qyBo s n (M.impl_parser_factor_r k (qySt s n)) (M.spec_l19Factor_r k s (n : Int) qyR0)
  | 0, _, _, h => absurd h (Nat.not_lt_zero _)
  | k + 1, n, hn, hk => by
    show qyBo s n (M.impl_parser_factor_s (M.impl_parser_factor_r k) (qySt s n)) (M.spec_l19Factor_s (M.spec_l19Factor_r k) s (n : Int) qyR0)
    have ih : qyAll s (n + 1) (M.impl_parser_factor_r k) (M.spec_l19Factor_r k) := fun n' h1 h2 => qyFactor s hl k n' h2 (by omega)
    generalize M.impl_parser_factor_r k = fi at *
    generalize M.spec_l19Factor_r k = fs at *
    have hs : decide ((n : Int) < (s.length : Int)) = decide (n < s.length) := by rw [decide_eq_decide]; omega
    have hb : ∀ c : Nat, (decide ((n : Int) < (s.length : Int)) && (((s.getD (Int.toNat (n : Int)) 0).toNat : Int) == (c : Int))) = qyHas s n c := fun c => by rw [hs, qyAt]; rfl
    have hb1 := hb 33
    have hb2 := hb 40
    rw [show ((33 : Nat) : Int) = 33 from rfl] at hb1
    rw [show ((40 : Nat) : Int) = 40 from rfl] at hb2
    have hse1 := qySees' (s := s) (n := n) 33 hl (by decide) (by decide)
    have hse2 := qySees s n (qySc s n).1 (qySc s n).2 40 hl
    rw [show ((33 : Nat) : Int) = 33 from rfl] at hse1
    rw [show ((40 : Nat) : Int) = 40 from rfl, show (⟨s, (n : Int), false, (qySc s n).1, (qySc s n).2⟩ : Parser) = qySt s n from rfl] at hse2
    unfold M.impl_parser_factor_s M.spec_l19Factor_s
    rw [show (qySt s n).Bad = false from rfl, cond_false, hse1, Option.bind_some, asrt_pos (by intro h; simp at h; omega), hb1]
    cases h1 : qyHas s n 33 with
    | true =>
      obtain ⟨g1, g2⟩ := qyHas_t h1
      obtain ⟨x, y, hx, hy, hok⟩ := ih (n + 1) (by omega) (by omega)
      refine ⟨(⟨33, 0, [qe x.1]⟩, x.2), (!y.1, y.2), ?_, ?_, ?_⟩
      · simp only [cond_true]
        rw [hx]; rfl
      · rw [cond_true, wrap64_id (by omega) (by omega), show (n : Int) + 1 = ((n + 1 : Nat) : Int) by omega, hy]; rfl
      · have hct : qyCt s (n + 1) = qyCt s n := by
          rw [qyCt_next g1, if_neg]; rfl
          unfold qyLt; rw [g2]; decide
        rcases hok with ⟨k1, k2⟩ | ⟨m', k1, k2, k3, k4, k5⟩
        · exact .inl ⟨k1, k2⟩
        · exact .inr ⟨m', by omega, k2, k3, k4, by rw [show qe (⟨33, 0, [qe x.1]⟩ : Query) = .mk 33 0 [qe x.1] from rfl, qyN_parts (by simp), qyNs_one, ← hct]; exact k5⟩
    | false =>
      simp only [cond_false]
      cases h2 : qyHas s n 40 with
      | false =>
        rw [h2, cond_false] at hse2
        rw [hse2, Option.bind_some, asrt_pos (by intro h; simp at h; omega), hb2, h2]
        simp only [cond_false]
        obtain ⟨x, y, hx, hy, hok⟩ := qyTest s n hl hn
        rw [hx, hy]
        exact ⟨x, y, rfl, rfl, hok⟩
      | true =>
        rw [h2, cond_true] at hse2
        rw [hse2, Option.bind_some, asrt_pos (by intro h; simp at h; omega), hb2, h2]
        obtain ⟨g1, g2⟩ := qyHas_t h2
        have hbd := qySc_bd s n hn
        have hb40 : qyB s n = 40 := UInt8.toNat_inj.1 g2
        have hnx : qySc s (n + 1) = ((qySc s n).1 + 1, if (qySc s n).1 + 1 < (qySc s n).2 then (qySc s n).2 else (qySc s n).1 + 1) := by rw [qySc_next g1, hb40]; rfl
        have hct : qyCt s (n + 1) = qyCt s n := by
          rw [qyCt_next g1, if_neg]; rfl
          unfold qyLt; rw [g2]; decide
        have hw : IntKind.i64.wrap ((qySc s n).1 + 1) = (qySc s n).1 + 1 := wrap64_id (by omega) (by omega)
        have hst : (⟨s, ((n + 1 : Nat) : Int), false, IntKind.i64.wrap ((qySc s n).1 + 1), (bif decide ((qySc s n).2 < IntKind.i64.wrap ((qySc s n).1 + 1)) then IntKind.i64.wrap ((qySc s n).1 + 1) else (qySc s n).2)⟩ : Parser) = qySt s (n + 1) := by
          unfold qySt
          rw [hnx, hw]
          dsimp only
          congr 1
          by_cases hq : (qySc s n).2 < (qySc s n).1 + 1
          · rw [show decide ((qySc s n).2 < (qySc s n).1 + 1) = true by simpa using hq, cond_true, if_neg (by omega)]
          · rw [show decide ((qySc s n).2 < (qySc s n).1 + 1) = false by simpa using hq, cond_false]
            split
            · rfl
            · omega
        rw [cond_true, cond_true, wrap64_id (n := (n : Int) + 1) (by omega) (by omega)]
        dsimp only
        obtain ⟨x, y, hx, hy, hok⟩ := qyQuery s (n + 1) fi fs hl ih (n + 1) (by omega) (by omega)
        rw [hst, hx, Option.bind_some, show (n : Int) + 1 = ((n + 1 : Nat) : Int) by omega, hy, Option.bind_some]
        rcases hok with ⟨k1, k2⟩ | ⟨m, k1, k2, k3, k4, k5⟩
        · rw [k1, k2]
          refine ⟨_, (false, -1), rfl, ?_, .inl ⟨rfl, rfl⟩⟩
          rw [asrt_pos (by intro h; simp at h)]
          rfl
        · rw [k3, k4]
          have hbm := qySc_bd s m k2
          have hsm := qySees s m ((qySc s m).1 - 1) (qySc s m).2 41 hl
          rw [show ((41 : Nat) : Int) = 41 from rfl] at hsm
          simp only [show (qySt s m).Bad = false from rfl, show (qySt s m).S = s from rfl, show (qySt s m).At = (m : Int) from rfl, show (qySt s m).Open = (qySc s m).1 from rfl, show (qySt s m).Most = (qySc s m).2 from rfl, cond_false, Bool.false_or]
          rw [wrap64_id (n := (qySc s m).1 - 1) (by omega) (by omega), hsm, Option.bind_some]
          rw [show decide ((m : Int) < 0) = false by simp, Bool.false_or, asrt_pos (by intro h; simp at h; omega), qyAt]
          cases h3 : qyHas s m 41 with
          | false =>
            refine ⟨_, (false, -1), rfl, ?_, .inl ⟨rfl, rfl⟩⟩
            have : (decide ((m : Int) ≥ (s.length : Int)) || (((qyB s m).toNat : Int) != 41)) = true := by
              rw [Bool.or_eq_true, decide_eq_true_eq, bne_iff_ne]
              unfold qyHas at h3
              rw [Bool.and_eq_false_iff, decide_eq_false_iff_not, beq_eq_false_iff_ne] at h3
              rcases h3 with h3 | h3
              · exact .inl (by omega)
              · exact .inr h3
            rw [this]; rfl
          | true =>
            obtain ⟨q1, q2⟩ := qyHas_t h3
            have hb41 : qyB s m = 41 := UInt8.toNat_inj.1 q2
            have hcm : qyCt s (m + 1) = qyCt s m := by
              rw [qyCt_next q1, if_neg]; rfl
              unfold qyLt; rw [q2]; decide
            have hnm : qySc s (m + 1) = ((qySc s m).1 - 1, (qySc s m).2) := by
              rw [qySc_next q1, hb41]
              show ((qySc s m).1 - 1, if (qySc s m).1 - 1 < (qySc s m).2 then (qySc s m).2 else (qySc s m).1 - 1) = _
              rw [if_pos (by omega)]
            refine ⟨_, (y.1, ((m + 1 : Nat) : Int)), rfl, ?_, .inr ⟨m + 1, by omega, by omega, ?_, rfl, by dsimp only; omega⟩⟩
            · have : (decide ((m : Int) ≥ (s.length : Int)) || (((qyB s m).toNat : Int) != 41)) = false := by
                rw [Bool.or_eq_false_iff, decide_eq_false_iff_not, bne_eq_false_iff_eq]
                omega
              rw [this, cond_false, wrap64_id (by omega) (by omega)]; rfl
            · unfold qySt
              rw [hnm]; rfl
/-- The whole text. -/
theorem qyWhole (s : List UInt8) (hl : s.length ≤ 60) : qyBo s 0 (M.impl_parser_query (⟨s, (0 : Int), false, (0 : Int), (0 : Int)⟩ : Parser)) (M.spec_l19Query s (0 : Int) qyR0) := by
  have h : qyAll s 0 M.impl_parser_factor M.spec_l19Factor := fun n h1 h2 => qyFactor s hl rounds n h2 (by unfold rounds; omega)
  exact qyQuery s 0 _ _ hl h 0 (Nat.le_refl _) (Nat.zero_le _)
/-- What both find: no query, or one that is read to its end. -/
theorem qyRead (s : List UInt8) : (∃ q m, M.impl_readQuery s = some (q, m, false) ∧ M.spec_l19Good s = some false) ∨
    ∃ q : Query, M.impl_readQuery s = some (q, (qySc s s.length).2, true) ∧ M.spec_l19Good s = some true ∧ qyN (qe q) = qyCt s s.length ∧ s.length ≤ 60 := by
  unfold M.impl_readQuery M.spec_l19Good
  rw [withinI, l1InS, Option.bind_some, Option.bind_some]
  cases hr : inR (s.length : Int) 1 60 with
  | false => exact .inl ⟨_, _, rfl, rfl⟩
  | true =>
    have hl := inR_true.1 hr
    rw [Bool.not_true, cond_false, cond_false]
    obtain ⟨x, y, hx, hy, hok⟩ := qyWhole s (by omega)
    rw [hx, hy, Option.bind_some, Option.bind_some]
    rcases hok with ⟨h1, h2⟩ | ⟨m, h1, h2, h3, h4, h5⟩
    · left
      refine ⟨x.1, x.2.Most, by rw [h1]; rfl, ?_⟩
      rw [h2, show ((-1 : Int) == (s.length : Int)) = false by rw [beq_eq_false_iff_ne]; omega]
    · rw [h3, h4, show (qySt s m).Bad = false from rfl, show (qySt s m).At = (m : Int) from rfl, show (qySt s m).Most = (qySc s m).2 from rfl, Bool.not_false, Bool.true_and]
      by_cases hm : m = s.length
      · right
        subst hm
        refine ⟨x.1, by rw [beq_self_eq_true], by rw [beq_self_eq_true], ?_, by omega⟩
        rw [← h5]; simp [qyCt]
      · left
        have : ((m : Int) == (s.length : Int)) = false := by rw [beq_eq_false_iff_ne]; omega
        exact ⟨x.1, (qySc s m).2, by rw [this], by rw [this]⟩
/-! ### Queries: the laws of NegatedQuery and NestingOf. Plain. -/
end Go.Proofs.YtlpnicmlgckdnaaDoor
