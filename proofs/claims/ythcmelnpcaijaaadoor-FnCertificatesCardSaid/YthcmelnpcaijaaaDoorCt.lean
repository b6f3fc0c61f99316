/-
  Paths of ledgers: certificates. Plain.
-/
import Derived.Test.YthcmelnpcaijaaaDoorLg
set_option linter.unusedSimpArgs false
set_option linter.unusedVariables false
namespace Go.Proofs.YthcmelnpcaijaaaDoor
open Go.VS

/-! ### The reference's round, root -/
theorem rnd_at : ∀ (l : List Int) (k : Nat), 2 * k + 1 < l.length → (rnd l).getD k default = pairH (l.getD (2 * k) default) (l.getD (2 * k + 1) default)
  | a :: b :: t, 0, _ => rfl
  | a :: b :: t, k + 1, h => by
    have := rnd_at t k (by simp only [List.length_cons] at h; omega)
    rw [show 2 * (k + 1) + 1 = (2 * k + 1) + 2 by omega, show 2 * (k + 1) = 2 * k + 2 by omega, getD_cons2, getD_cons2]
    exact this
  | [a], k, h => by simp at h
  | [], k, h => by simp at h
theorem rnd_last : ∀ (l : List Int) (k : Nat), 2 * k + 1 = l.length → (rnd l).getD k default = l.getD (2 * k) default
  | a :: b :: t, 0, h => by simp at h
  | a :: b :: t, k + 1, h => by
    have := rnd_last t k (by simp only [List.length_cons] at h; omega)
    rw [show 2 * (k + 1) = 2 * k + 2 by omega, getD_cons2]
    exact this
  | [a], 0, _ => rfl
  | [a], k + 1, h => by simp at h
  | [], k, h => by simp at h
theorem take_getD {β : Type} [Inhabited β] {l : List β} {k : Nat} (h : k < l.length) : l.take (k + 1) = l.take k ++ [l.getD k default] := by
  rw [List.take_add_one, List.getElem?_eq_getElem h, List.getD_eq_getElem?_getD, List.getElem?_eq_getElem h]
  rfl
theorem getD_bd {l : List Int} (h : HashB l) {k : Nat} (hk : k < l.length) : 0 ≤ l.getD k default ∧ l.getD k default ≤ 9999999 := h _ (getD_mem hk)

theorem roundS (l : List Int) (h : HashB l) (hl : l.length < 1000000) : M.spec_l16Round l = some (rnd l) := by
  unfold M.spec_l16Round
  have hlen := rnd_len l
  rw [iter_up (s := (([] : List Int), (0 : Int))) (e := rnd l) (fun k => ((rnd l).take k, ((2 * k : Nat) : Int))) ((l.length + 1) / 2) rfl (by omega)]
  · rfl
  · intro k hk
    unfold M.spec_l16Round_l0
    try dsimp only
    have hlk : ((rnd l).take k).length ≤ k := by simp; omega
    rw [decide_eq_true (by omega), cond_true, wrap64_id (n := ((2 * k : Nat) : Int) + 1) (by omega) (by omega)]
    have e2 : IntKind.i64.wrap (((2 * k : Nat) : Int) + 2) = ((2 * (k + 1) : Nat) : Int) := by rw [wrap64_id (by omega) (by omega)]; omega
    have e3 : (((2 * k : Nat) : Int) + 1).toNat = 2 * k + 1 := by omega
    have e4 : (((2 * k : Nat) : Int)).toNat = 2 * k := by omega
    rw [e2, e3, e4]
    rcases Nat.lt_or_ge (2 * k + 1) l.length with hc | hc
    · rw [decide_eq_true (by omega), cond_true, asrt_pos ⟨by omega, by omega⟩, asrt_pos ⟨by omega, by omega⟩, pairS _ _ (getD_bd h (by omega)) (getD_bd h hc), Option.bind_some, asrt_pos (by simp only [List.length_cons, List.length_nil]; omega), Option.bind_some]
      try dsimp only
      rw [take_getD (by omega), rnd_at l k hc]
    · rw [decide_eq_false (by omega), cond_false, asrt_pos ⟨by omega, by omega⟩, asrt_pos (by simp only [List.length_cons, List.length_nil]; omega), Option.bind_some]
      try dsimp only
      rw [take_getD (by omega), rnd_last l k (by omega)]
  · unfold M.spec_l16Round_l0
    try dsimp only
    rw [decide_eq_false (by omega), cond_false, List.take_of_length_le (by omega)]

theorem leavesS (l : List (List UInt8)) (hl : TextsB l) : M.spec_l16Leaves l = some (leaves l) := by
  have h1 : l.length < 1000 := hl.1
  unfold M.spec_l16Leaves
  rw [iter_coll (step := M.spec_l16Leaves_l0 l) (s := (([] : List Int), (0 : Int))) (fun a k => (a, (k : Int))) (fun x => [leaf x]) id l rfl (by omega) (fun k hk => by simp) (fun a k hk ha => by
    unfold M.spec_l16Leaves_l0
    try dsimp only
    rw [decide_eq_true (by omega), cond_true, asrt_pos ⟨by omega, by omega⟩, Int.toNat_natCast, leafS _ (hl.at hk), Option.bind_some, asrt_pos (by simp; omega), wrap64_id (n := (k : Int) + 1) (by omega) (by omega)]
    rfl) (fun a ha => by
    unfold M.spec_l16Leaves_l0
    try dsimp only
    rw [decide_eq_false (by omega), cond_false]
    rfl), Option.bind_some]
  show some (l.flatMap fun x => [leaf x]) = some (l.map leaf)
  congr 1
  clear hl h1
  induction l with
  | nil => rfl
  | cons x t ih => rw [List.flatMap_cons, ih]; rfl

theorem rootLoopS (l : List Int) (h : HashB l) (h1 : 1 ≤ l.length) (h8 : l.length ≤ 8) : ∃ r, iterO M.spec_l16Root_l0 l = some r ∧ r.length = 1 ∧ r.headD 0 = root l := by
  refine T_iter (fun q => HashB q ∧ 1 ≤ q.length ∧ q.length ≤ 8 ∧ root q = root l) (fun q => q.length) (fun r : List Int => r.length = 1 ∧ r.headD 0 = root l) ⟨h, h1, h8, rfl⟩ (by omega) ?_
  rintro q ⟨g1, g2, g3, g4⟩
  unfold M.spec_l16Root_l0
  try dsimp only
  refine T_if (fun hq => ?_) (fun hq => ?_)
  · simp only [decide_eq_true_eq] at hq
    rw [roundS q g1 (by omega), Option.bind_some]
    refine T_ret ⟨⟨rnd_bd q g1, ?_, ?_, by rw [root_rnd g3, g4]⟩, ?_⟩ <;> (rw [rnd_len]; omega)
  · simp only [decide_eq_false_iff_not] at hq
    exact T_ret ⟨by omega, by rw [← root_one (by omega), g4]⟩
theorem RootS (l : List (List UInt8)) (hl : TextsB l) : M.spec_RootOf l = some (bif ledOk l then (root (leaves l), true) else (0, false)) := by
  unfold M.spec_RootOf
  rw [ledS l hl, Option.bind_some]
  cases h : ledOk l
  · rfl
  · have hn := ledOk_len h
    obtain ⟨r, e1, e2, e3⟩ := rootLoopS (leaves l) (leaves_bd l) (by simp [leaves]; omega) (by simp [leaves]; omega)
    unfold M.spec_l16Root
    rw [Bool.not_true, cond_false, leavesS l hl, Option.bind_some, e1, Option.bind_some]
    try dsimp only
    rw [asrt_pos ⟨by omega, by omega⟩, cond_true, ← e3]
    obtain ⟨x, rfl⟩ := List.length_eq_one_iff.1 e2
    rfl

/-! ### Paths -/
/-- The step of a path at place i of a round. -/
def stepP (i : Nat) (hs : List Int) : List (Int × Int) := if i % 2 = 1 then [(0, hs.getD (i - 1) default)] else if i + 1 < hs.length then [(1, hs.getD (i + 1) default)] else []
def pathR : Nat → Nat → List Int → List (Int × Int)
  | 0, _, _ => []
  | f + 1, i, hs => if 1 < hs.length then stepP i hs ++ pathR f (i / 2) (rnd hs) else []
theorem pathR_one {f i : Nat} {hs : List Int} (h : hs.length ≤ 1) : pathR f i hs = [] := by
  cases f with
  | zero => rfl
  | succ f => rw [pathR, if_neg (by omega)]
theorem stepP_len {i : Nat} {hs : List Int} : (stepP i hs).length ≤ 1 := by
  unfold stepP
  split
  · simp
  · split <;> simp
theorem pathR_len : ∀ (f i : Nat) (hs : List Int), (pathR f i hs).length ≤ f
  | 0, _, _ => Nat.le_refl _
  | f + 1, i, hs => by
    rw [pathR]
    split
    · rw [List.length_append]
      have := pathR_len f (i / 2) (rnd hs)
      have := stepP_len (i := i) (hs := hs)
      omega
    · simp

theorem pathStepI {n : Nat} {out : List (Int × Int)} {hs : List Int} (h : HashB hs) (hn : n < hs.length) (hl : hs.length ≤ 1000) (h1 : 1 < hs.length) (ho : out.length ≤ 1000) : M.impl_PathOf_l0 ((n : Int), out, hs) = some (.inl (((n / 2 : Nat) : Int), out ++ stepP n hs, rnd hs)) := by
  unfold M.impl_PathOf_l0
  try dsimp only
  have e1 : Int.tdiv (n : Int) 2 = ((n / 2 : Nat) : Int) := by rw [Int.tdiv_eq_ediv_of_nonneg (by omega)]; omega
  have e2 : Int.tmod (n : Int) 2 = ((n % 2 : Nat) : Int) := by rw [Int.tmod_eq_emod_of_nonneg (by omega)]; omega
  have key : (bif Int.tmod (n : Int) 2 == 1 then
      asrt (0 ≤ IntKind.i64.wrap ((n : Int) - 1) ∧ IntKind.i64.wrap ((n : Int) - 1) < (hs.length : Int)) <|
      asrt ((out.length : Int) + (([((0 : Int), (hs.getD (Int.toNat (IntKind.i64.wrap ((n : Int) - 1))) default))] : List (Int × Int)).length : Int) ≤ 2147483648) <|
      some (out ++ ([((0 : Int), (hs.getD (Int.toNat (IntKind.i64.wrap ((n : Int) - 1))) default))] : List (Int × Int)))
    else bif decide (IntKind.i64.wrap ((n : Int) + 1) < (hs.length : Int)) then
      asrt (0 ≤ IntKind.i64.wrap ((n : Int) + 1) ∧ IntKind.i64.wrap ((n : Int) + 1) < (hs.length : Int)) <|
      asrt ((out.length : Int) + (([((1 : Int), (hs.getD (Int.toNat (IntKind.i64.wrap ((n : Int) + 1))) default))] : List (Int × Int)).length : Int) ≤ 2147483648) <|
      some (out ++ ([((1 : Int), (hs.getD (Int.toNat (IntKind.i64.wrap ((n : Int) + 1))) default))] : List (Int × Int)))
    else some out : Option (List (Int × Int))) = some (out ++ stepP n hs) := by
    rw [e2, wrap64_id (n := (n : Int) + 1) (by omega) (by omega)]
    unfold stepP
    rcases (by omega : n % 2 = 1 ∨ n % 2 = 0) with hm | hm
    · rw [wrap64_id (n := (n : Int) - 1) (by omega) (by omega), hm, show (((1 : Nat) : Int) == 1) = true from rfl, cond_true, asrt_pos ⟨by omega, by omega⟩, asrt_pos (by simp only [List.length_cons, List.length_nil]; omega), if_pos rfl, toNat_pred]
    · rw [hm, show (((0 : Nat) : Int) == 1) = false from rfl, cond_false, if_neg (by omega)]
      rcases Nat.lt_or_ge (n + 1) hs.length with hc | hc
      · rw [decide_eq_true (by omega), cond_true, asrt_pos ⟨by omega, by omega⟩, asrt_pos (by simp only [List.length_cons, List.length_nil]; omega), if_pos hc, show ((n : Int) + 1).toNat = n + 1 by omega]
      · rw [decide_eq_false (by omega), cond_false, if_neg (by omega), List.append_nil]
  rw [decide_eq_true (by omega), cond_true]
  refine (congrArg (fun o : Option (List (Int × Int)) => ((o.bind fun path2 => some (IntKind.i64.wrap (Int.tdiv (n : Int) 2), path2)).bind fun e => match e with | (i1, path1) => (M.impl_round hs).bind fun y4 => some (Sum.inl (i1, path1, y4)) : Option ((Int × (List (Int × Int)) × List Int) ⊕ ((List (Int × Int)))))) key).trans ?_
  simp only [Option.bind_some]
  rw [roundI hs h (by omega), Option.bind_some, e1, wrap64_id (by omega) (by omega)]

theorem pathStepS {n : Nat} {out : List (Int × Int)} {hs : List Int} (h : HashB hs) (hn : n < hs.length) (hl : hs.length ≤ 1000) (h1 : 1 < hs.length) (ho : out.length ≤ 1000) : M.spec_PathOf_l0 ((n : Int), out, hs) = some (.inl (((n / 2 : Nat) : Int), out ++ stepP n hs, rnd hs)) := by
  unfold M.spec_PathOf_l0
  try dsimp only
  have e1 : Int.tdiv (n : Int) 2 = ((n / 2 : Nat) : Int) := by rw [Int.tdiv_eq_ediv_of_nonneg (by omega)]; omega
  have e2 : Int.tmod (n : Int) 2 = ((n % 2 : Nat) : Int) := by rw [Int.tmod_eq_emod_of_nonneg (by omega)]; omega
  rw [decide_eq_true (by omega), cond_true, e1, e2, roundS hs h (by omega), wrap64_id (n := (n : Int) + 1) (by omega) (by omega), wrap64_id (n := ((n / 2 : Nat) : Int)) (by omega) (by omega)]
  unfold stepP
  rcases (by omega : n % 2 = 1 ∨ n % 2 = 0) with hm | hm
  · rw [wrap64_id (n := (n : Int) - 1) (by omega) (by omega), hm, show (((1 : Nat) : Int) == 1) = true from rfl, cond_true, asrt_pos ⟨by omega, by omega⟩, asrt_pos (by simp only [List.length_cons, List.length_nil]; omega), if_pos rfl, toNat_pred]
    rfl
  · rw [hm, show (((0 : Nat) : Int) == 1) = false from rfl, cond_false, if_neg (by omega)]
    rcases Nat.lt_or_ge (n + 1) hs.length with hc | hc
    · rw [decide_eq_true (by omega), cond_true, asrt_pos ⟨by omega, by omega⟩, asrt_pos (by simp only [List.length_cons, List.length_nil]; omega), if_pos hc, show ((n : Int) + 1).toNat = n + 1 by omega]
      rfl
    · rw [decide_eq_false (by omega), cond_false, if_neg (by omega), List.append_nil]
      rfl

theorem pathLoop {step : (Int × (List (Int × Int)) × List Int) → Option ((Int × (List (Int × Int)) × List Int) ⊕ ((List (Int × Int))))}
    (hgo : ∀ (n : Nat) (out : List (Int × Int)) (hs : List Int), HashB hs → n < hs.length → hs.length ≤ 1000 → 1 < hs.length → out.length ≤ 1000 → step ((n : Int), out, hs) = some (.inl (((n / 2 : Nat) : Int), out ++ stepP n hs, rnd hs)))
    (hend : ∀ (n : Int) (out : List (Int × Int)) (hs : List Int), hs.length ≤ 1 → step (n, out, hs) = some (.inr out))
    {hs : List Int} (h : HashB hs) {n : Nat} (hn : n < hs.length) (h8 : hs.length ≤ 8) : iterO step ((n : Int), ([] : List (Int × Int)), hs) = some (pathR 3 n hs) := by
  apply T.eq
  refine T_iter (fun s => ∃ m f : Nat, s.1 = (m : Int) ∧ m < s.2.2.length ∧ HashB s.2.2 ∧ s.2.2.length ≤ 2 ^ f ∧ f ≤ 3 ∧ s.2.1.length + f ≤ 3 ∧ s.2.1 ++ pathR f m s.2.2 = pathR 3 n hs) (fun s => s.2.2.length) _ ⟨n, 3, rfl, hn, h, h8, by omega, by simp, rfl⟩ (by simp only; omega) ?_
  rintro ⟨_, out, q⟩ ⟨m, f, rfl, g1, g2, g3, g4, g5, g6⟩
  simp only at g1 g2 g3 g5 g6
  have hq8 : q.length ≤ 8 := by
    have : 2 ^ f ≤ 2 ^ 3 := Nat.pow_le_pow_right (by omega) g4
    omega
  rcases Nat.lt_or_ge 1 q.length with h1 | h1
  · rw [hgo m out q g2 g1 (by omega) h1 (by omega)]
    obtain ⟨f, rfl⟩ : ∃ e, f = e + 1 := by
      cases f with
      | zero => simp at g3; omega
      | succ e => exact ⟨e, rfl⟩
    have hp : 2 ^ (f + 1) = 2 * 2 ^ f := by rw [Nat.pow_succ]; omega
    have hr := rnd_len q
    rw [pathR, if_pos h1, ← List.append_assoc] at g6
    have := stepP_len (i := m) (hs := q)
    exact T_ret ⟨⟨m / 2, f, rfl, by simp only; omega, rnd_bd q g2, by simp only; omega, by omega, by simp only [List.length_append]; omega, g6⟩, by simp only; omega⟩
  · rw [hend _ out q h1]
    refine T_ret ?_
    rw [pathR_one h1, List.append_nil] at g6
    exact g6

def PathD (l : List (List UInt8)) (i : Int) : List (Int × Int) × Bool := bif ledOk l && inR i 0 ((l.length : Int) - 1) then (pathR 3 i.toNat (leaves l), true) else ([], false)
theorem PathI (l : List (List UInt8)) (i : Int) (hl : TextsB l) : M.impl_PathOf l i = some (PathD l i) := by
  unfold M.impl_PathOf PathD
  have h1 := hl.1
  rw [ledI l hl, Option.bind_some, wrap64_id (n := (l.length : Int) - 1) (by omega) (by omega), withinI]
  cases h : ledOk l
  · rfl
  cases hi : inR i 0 ((l.length : Int) - 1)
  · rfl
  have hi := inR_true.1 hi
  have hn := ledOk_len h
  obtain ⟨n, rfl⟩ : ∃ n : Nat, i = (n : Int) := ⟨i.toNat, by omega⟩
  simp only [Bool.not_true, cond_false, Option.bind_some, Bool.or_self, leavesI l hl, Bool.and_self, cond_true, Int.toNat_natCast]
  rw [pathLoop (fun n out hs a b c d e => pathStepI a b c d e) (fun n out hs hl => by
    unfold M.impl_PathOf_l0
    try dsimp only
    rw [decide_eq_false (by omega), cond_false]) (leaves_bd l) (by simp [leaves]; omega) (by simp [leaves]; omega), Option.bind_some]
theorem PathS (l : List (List UInt8)) (i : Int) (hl : TextsB l) : M.spec_PathOf l i = some (PathD l i) := by
  unfold M.spec_PathOf PathD
  have h1 := hl.1
  rw [ledS l hl, Option.bind_some, wrap64_id (n := (l.length : Int) - 1) (by omega) (by omega), l1InS]
  cases h : ledOk l
  · rfl
  cases hi : inR i 0 ((l.length : Int) - 1)
  · rfl
  have hi := inR_true.1 hi
  have hn := ledOk_len h
  obtain ⟨n, rfl⟩ : ∃ n : Nat, i = (n : Int) := ⟨i.toNat, by omega⟩
  simp only [Bool.not_true, cond_false, Option.bind_some, Bool.or_self, leavesS l hl, Bool.and_self, cond_true, Int.toNat_natCast]
  rw [pathLoop (fun n out hs a b c d e => pathStepS a b c d e) (fun n out hs hl => by
    unfold M.spec_PathOf_l0
    try dsimp only
    rw [decide_eq_false (by omega), cond_false]) (leaves_bd l) (by simp [leaves]; omega) (by simp [leaves]; omega), Option.bind_some]

/-! ### What a path says -/
def stepOk (q : Int × Int) : Bool := inR q.1 0 1 && hashOk q.2
def pathOk (p : List (Int × Int)) : Bool := decide (p.length ≤ 8) && p.all stepOk
theorem isPathI (p : List (Int × Int)) (hl : p.length < 1000000) : M.impl_isPath p = some (pathOk p) := by
  unfold M.impl_isPath pathOk M.slices_ContainsFunc_2_int_2_int M.slices_IndexFunc_2_int_2_int
  have e8 : decide ((p.length : Int) ≤ 8) = decide (p.length ≤ 8) := decide_eq_decide.2 (by omega)
  rw [e8]
  cases h : decide (p.length ≤ 8)
  · rfl
  · simp only [cond_true, Bool.true_and]
    have hfm : ∀ q : Int × Int, M.impl_isPath_1 q = some (!stepOk q) := fun q => by
      unfold M.impl_isPath_1 stepOk
      rw [withinI, Option.bind_some, hashI]
      cases inR q.1 0 1 <;> simp
    have key := iter_find (step := M.slices_IndexFunc_2_int_2_int_l0 p (fun x0 => M.impl_isPath_1 x0)) (s := 0) (fun k => (k : Int)) p.length (fun k => !stepOk (p.getD k default)) (fun k => .inr (k : Int)) (.inl ()) rfl (by omega)
      (fun k hk hp => by
        have := hfm (p.getD k default)
        unfold M.slices_IndexFunc_2_int_2_int_l0
        simp (disch := first | omega | (intros; simp only [decide_eq_true_eq, decide_eq_false_iff_not, Bool.not_eq_true, Bool.not_eq_false, Bool.not_true, Bool.not_false] at *; omega)) only [cast_succ, asrt_pos, wrap64_id, Option.bind_some, cond_true, cond_false, decide_eq_true, decide_eq_false, Int.toNat_natCast, Bool.not_true, Bool.not_false, Bool.and_true, Bool.true_and, Bool.and_false, Bool.false_and, Bool.or_true, Bool.true_or, Bool.or_false, Bool.false_or, this, hp])
      (fun k hk hp => by
        have := hfm (p.getD k default)
        unfold M.slices_IndexFunc_2_int_2_int_l0
        simp (disch := first | omega | (intros; simp only [decide_eq_true_eq, decide_eq_false_iff_not, Bool.not_eq_true, Bool.not_eq_false, Bool.not_true, Bool.not_false] at *; omega)) only [cast_succ, asrt_pos, wrap64_id, Option.bind_some, cond_true, cond_false, decide_eq_true, decide_eq_false, Int.toNat_natCast, Bool.not_true, Bool.not_false, Bool.and_true, Bool.true_and, Bool.and_false, Bool.false_and, Bool.or_true, Bool.true_or, Bool.or_false, Bool.false_or, this, hp])
      (by
        unfold M.slices_IndexFunc_2_int_2_int_l0
        simp (disch := first | omega | (intros; simp only [decide_eq_true_eq, decide_eq_false_iff_not, Bool.not_eq_true, Bool.not_eq_false, Bool.not_true, Bool.not_false] at *; omega)) only [cast_succ, asrt_pos, wrap64_id, Option.bind_some, cond_true, cond_false, decide_eq_true, decide_eq_false, Int.toNat_natCast, Bool.not_true, Bool.not_false, Bool.and_true, Bool.true_and, Bool.and_false, Bool.false_and, Bool.or_true, Bool.true_or, Bool.or_false, Bool.false_or])
    rcases key with ⟨k, h1, h2, h3, h4⟩ | ⟨h1, h2⟩
    · rw [h4, Option.bind_some]
      simp only [Option.bind_some]
      congr 1
      have : p.all stepOk = false := by
        rw [List.all_eq_false]
        exact ⟨_, getD_mem h1, by simpa using h2⟩
      rw [this, decide_eq_true (by omega)]; rfl
    · rw [h2, Option.bind_some]
      simp only [Option.bind_some]
      congr 1
      have : p.all stepOk = true := by
        rw [List.all_eq_true]
        intro x hx
        obtain ⟨j, hj, rfl⟩ := List.getElem_of_mem hx
        have := h1 j hj
        simp only [List.getD, List.getElem?_eq_getElem hj, Option.getD_some] at this
        simpa using this
      rw [this]; rfl
theorem isPathS (p : List (Int × Int)) (hl : p.length < 1000000) : M.spec_l16Path p = some (pathOk p) := by
  unfold M.spec_l16Path pathOk
  rw [iter_any (step := M.spec_l16Path_l0 p) (s := 0) (fun k => (k : Int)) p.length (fun k => !stepOk (p.getD k default)) (.inr false) (.inl ()) rfl (by omega)
    (fun k hk hp => by
      unfold M.spec_l16Path_l0
      unfold stepOk at hp
      simp only [Bool.not_eq_false', Bool.and_eq_true] at hp
      simp (disch := first | omega | (intros; simp only [decide_eq_true_eq, decide_eq_false_iff_not, Bool.not_eq_true, Bool.not_eq_false, Bool.not_true, Bool.not_false] at *; omega)) only [cast_succ, asrt_pos, wrap64_id, Option.bind_some, cond_true, cond_false, decide_eq_true, decide_eq_false, Int.toNat_natCast, Bool.not_true, Bool.not_false, Bool.and_true, Bool.true_and, Bool.and_false, Bool.false_and, Bool.or_true, Bool.true_or, Bool.or_false, Bool.false_or, l1InS, hashS, hp.1, hp.2])
    (fun k hk hp => by
      unfold M.spec_l16Path_l0
      unfold stepOk at hp
      cases h1 : inR (p.getD k default).1 0 1
      · simp (disch := first | omega | (intros; simp only [decide_eq_true_eq, decide_eq_false_iff_not, Bool.not_eq_true, Bool.not_eq_false, Bool.not_true, Bool.not_false] at *; omega)) only [cast_succ, asrt_pos, wrap64_id, Option.bind_some, cond_true, cond_false, decide_eq_true, decide_eq_false, Int.toNat_natCast, Bool.not_true, Bool.not_false, Bool.and_true, Bool.true_and, Bool.and_false, Bool.false_and, Bool.or_true, Bool.true_or, Bool.or_false, Bool.false_or, l1InS, hashS, h1]
      · have h2 : hashOk (p.getD k default).2 = false := by rw [h1, Bool.true_and] at hp; simpa using hp
        simp (disch := first | omega | (intros; simp only [decide_eq_true_eq, decide_eq_false_iff_not, Bool.not_eq_true, Bool.not_eq_false, Bool.not_true, Bool.not_false] at *; omega)) only [cast_succ, asrt_pos, wrap64_id, Option.bind_some, cond_true, cond_false, decide_eq_true, decide_eq_false, Int.toNat_natCast, Bool.not_true, Bool.not_false, Bool.and_true, Bool.true_and, Bool.and_false, Bool.false_and, Bool.or_true, Bool.true_or, Bool.or_false, Bool.false_or, l1InS, hashS, h1, h2])
    (by
      unfold M.spec_l16Path_l0
      simp (disch := first | omega | (intros; simp only [decide_eq_true_eq, decide_eq_false_iff_not, Bool.not_eq_true, Bool.not_eq_false, Bool.not_true, Bool.not_false] at *; omega)) only [cast_succ, asrt_pos, wrap64_id, Option.bind_some, cond_true, cond_false, decide_eq_true, decide_eq_false, Int.toNat_natCast, Bool.not_true, Bool.not_false, Bool.and_true, Bool.true_and, Bool.and_false, Bool.false_and, Bool.or_true, Bool.true_or, Bool.or_false, Bool.false_or])]
  rw [← any_getD (p := fun b => !stepOk b)]
  have : (p.any fun b => !stepOk b) = !p.all stepOk := by
    rw [List.all_eq_not_any_not, Bool.not_not]
  have e8 : decide ((p.length : Int) ≤ 8) = decide (p.length ≤ 8) := decide_eq_decide.2 (by omega)
  rw [this]
  cases p.all stepOk
  · simp
  · simp only [Bool.not_true, cond_false, Option.bind_some, e8, Bool.and_true]

def fromF (h : Int) (q : Int × Int) : Int := bif q.1 == 0 then pairH q.2 h else pairH h q.2
def fromP (h : Int) (p : List (Int × Int)) : Int := p.foldl fromF h
theorem fromF_bd (h : Int) (q : Int × Int) : 0 ≤ fromF h q ∧ fromF h q ≤ 9999999 := by
  unfold fromF
  cases q.1 == 0
  · have := pairH_bd h q.2; simp only [cond_false]; omega
  · have := pairH_bd q.2 h; simp only [cond_true]; omega
theorem pathOk_at {p : List (Int × Int)} (h : pathOk p = true) {k : Nat} (hk : k < p.length) : (0 ≤ (p.getD k default).1 ∧ (p.getD k default).1 ≤ 1) ∧ 0 ≤ (p.getD k default).2 ∧ (p.getD k default).2 ≤ 9999999 := by
  unfold pathOk at h
  rw [Bool.and_eq_true] at h
  have := List.all_eq_true.1 h.2 _ (getD_mem hk)
  unfold stepOk at this
  rw [Bool.and_eq_true] at this
  exact ⟨inR_true.1 this.1, hashOk_bd this.2⟩

def FromD (e : List UInt8) (p : List (Int × Int)) : Int × Bool := bif entOk e && pathOk p then (fromP (leaf e) p, true) else (0, false)
theorem leaf_bd' (s : List UInt8) : 0 ≤ leaf s ∧ leaf s ≤ 9999999 := by have := leaf_bd s; omega
theorem fromLoopI (e : List UInt8) (p : List (Int × Int)) (hp : pathOk p = true) (hl : p.length < 1000000) : iterO (M.impl_RootFrom_l0 p) (leaf e, (0 : Int)) = some (fromP (leaf e) p) := by
  rw [iter_fold (step := M.impl_RootFrom_l0 p) (s := (leaf e, (0 : Int))) (fun a k => (a, (k : Int))) fromF id p (leaf e) (fun a _ => 0 ≤ a ∧ a ≤ 9999999) rfl (by omega) (leaf_bd' e) (fun a k hk ha => by
    refine ⟨?_, fromF_bd _ _⟩
    have hq := pathOk_at hp hk
    unfold M.impl_RootFrom_l0
    try dsimp only
    rw [decide_eq_true (by omega), cond_true, asrt_pos ⟨by omega, by omega⟩, Int.toNat_natCast, wrap64_id (n := (k : Int) + 1) (by omega) (by omega)]
    unfold fromF
    cases (p.getD k default).1 == 0
    · rw [cond_false, cond_false, pairI _ _ ha hq.2]; rfl
    · rw [cond_true, cond_true, pairI _ _ hq.2 ha]; rfl) (fun a ha => by
    unfold M.impl_RootFrom_l0
    try dsimp only
    rw [decide_eq_false (by omega), cond_false]
    rfl)]
  rfl
theorem FromI (e : List UInt8) (p : List (Int × Int)) (he : e.length ≤ 1000) (hl : p.length < 1000000) : M.impl_RootFrom e p = some (FromD e p) := by
  unfold M.impl_RootFrom FromD
  rw [entI e (by omega), Option.bind_some, isPathI p hl]
  cases h1 : entOk e
  · rfl
  cases h2 : pathOk p
  · rfl
  simp only [Bool.not_true, cond_false, Option.bind_some, Bool.or_self, leafI e he, Bool.and_self, cond_true, fromLoopI e p h2 hl]
theorem fromS (e : List UInt8) (p : List (Int × Int)) (hp : pathOk p = true) (he : e.length ≤ 1000) (hl : p.length < 1000000) : M.spec_l16From e p = some (fromP (leaf e) p) := by
  unfold M.spec_l16From
  rw [leafS e he, Option.bind_some, iter_fold (step := M.spec_l16From_l0 p) (s := (leaf e, (0 : Int))) (fun a k => (a, (k : Int))) fromF id p (leaf e) (fun a _ => 0 ≤ a ∧ a ≤ 9999999) rfl (by omega) (leaf_bd' e) (fun a k hk ha => by
    refine ⟨?_, fromF_bd _ _⟩
    have hq := pathOk_at hp hk
    unfold M.spec_l16From_l0
    try dsimp only
    rw [decide_eq_true (by omega), cond_true, asrt_pos ⟨by omega, by omega⟩, Int.toNat_natCast, wrap64_id (n := (k : Int) + 1) (by omega) (by omega)]
    unfold fromF
    cases (p.getD k default).1 == 0
    · rw [cond_false, cond_false, asrt_pos ⟨by omega, by omega⟩, pairS _ _ ha hq.2]; rfl
    · rw [cond_true, cond_true, asrt_pos ⟨by omega, by omega⟩, pairS _ _ hq.2 ha]; rfl) (fun a ha => by
    unfold M.spec_l16From_l0
    try dsimp only
    rw [decide_eq_false (by omega), cond_false]
    rfl)]
  rfl
theorem FromS (e : List UInt8) (p : List (Int × Int)) (he : e.length ≤ 1000) (hl : p.length < 1000000) : M.spec_RootFrom e p = some (FromD e p) := by
  unfold M.spec_RootFrom FromD
  rw [entS e (by omega), Option.bind_some, isPathS p hl]
  cases h1 : entOk e
  · rfl
  cases h2 : pathOk p
  · rfl
  simp only [Bool.not_true, cond_false, Option.bind_some, Bool.or_self, Bool.and_self, cond_true, fromS e p h2 he hl]
def CertD (e : List UInt8) (p : List (Int × Int)) (r : Int) : Bool × Bool := ((FromD e p).2 && ((FromD e p).1 == r), (FromD e p).2)
theorem CertI (e : List UInt8) (p : List (Int × Int)) (r : Int) (he : e.length ≤ 1000) (hl : p.length < 1000000) : M.impl_IsCertified e p r = some (CertD e p r) := by
  unfold M.impl_IsCertified
  rw [FromI e p he hl]; rfl
theorem CertS (e : List UInt8) (p : List (Int × Int)) (r : Int) (he : e.length ≤ 1000) (hl : p.length < 1000000) : M.spec_IsCertified e p r = some (CertD e p r) := by
  unfold M.spec_IsCertified CertD FromD
  rw [entS e (by omega), Option.bind_some, isPathS p hl]
  cases h1 : entOk e
  · rfl
  cases h2 : pathOk p
  · rfl
  simp only [Bool.not_true, cond_false, Option.bind_some, Bool.or_self, Bool.and_self, cond_true, fromS e p h2 he hl, Bool.true_and]

def placeF (n : Int) (q : Int × Int) : Int := bif q.1 == 0 then n + 1 else n
def placeP (p : List (Int × Int)) : Int := p.foldl placeF 0
theorem place_le : ∀ (p : List (Int × Int)) (n : Int), p.foldl placeF n ≤ n + p.length
  | [], n => by simp
  | q :: p, n => by
    have := place_le p (placeF n q)
    have h2 : placeF n q ≤ n + 1 := by unfold placeF; cases q.1 == 0 <;> simp only [cond_true, cond_false] <;> omega
    simp only [List.foldl_cons, List.length_cons]
    omega
def PlaceD (p : List (Int × Int)) : Int × Bool := bif pathOk p then (placeP p, true) else (0, false)
theorem placeF_bd {n : Int} {q : Int × Int} {k : Nat} (h : 0 ≤ n ∧ n ≤ (k : Int)) : 0 ≤ placeF n q ∧ placeF n q ≤ ((k + 1 : Nat) : Int) := by
  unfold placeF; cases q.1 == 0 <;> simp only [cond_true, cond_false] <;> omega
theorem PlaceI (p : List (Int × Int)) (hl : p.length < 1000000) : M.impl_PlaceFrom p = some (PlaceD p) := by
  unfold M.impl_PlaceFrom PlaceD
  rw [isPathI p hl, Option.bind_some]
  cases h : pathOk p
  · rfl
  rw [Bool.not_true, cond_false, iter_fold (step := M.impl_PlaceFrom_l0 p) (s := ((0 : Int), (0 : Int))) (fun a k => (a, (k : Int))) placeF id p 0 (fun a k => 0 ≤ a ∧ a ≤ (k : Int)) rfl (by omega) (by omega) (fun a k hk ha => by
    refine ⟨?_, placeF_bd ha⟩
    have hq := pathOk_at h hk
    unfold M.impl_PlaceFrom_l0
    try dsimp only
    rw [decide_eq_true (by omega), cond_true, asrt_pos ⟨by omega, by omega⟩, Int.toNat_natCast, wrap64_id (n := (k : Int) + 1) (by omega) (by omega), wrap64_id (n := 1 - (p.getD k default).1) (by omega) (by omega), wrap64_id (n := a + (1 - (p.getD k default).1)) (by omega) (by omega)]
    unfold placeF
    rcases (by omega : (p.getD k default).1 = 0 ∨ (p.getD k default).1 = 1) with hz | hz
    · rw [hz]; rfl
    · rw [hz]
      simp only [show ((1 : Int) == 0) = false from rfl, cond_false]
      rw [show a + (1 - 1) = a by omega]
      rfl) (fun a ha => by
    unfold M.impl_PlaceFrom_l0
    try dsimp only
    rw [decide_eq_false (by omega), cond_false]
    rfl)]
  rfl
theorem PlaceS (p : List (Int × Int)) (hl : p.length < 1000000) : M.spec_PlaceFrom p = some (PlaceD p) := by
  unfold M.spec_PlaceFrom PlaceD
  rw [isPathS p hl, Option.bind_some]
  cases h : pathOk p
  · rfl
  rw [Bool.not_true, cond_false, iter_fold (step := M.spec_PlaceFrom_l0 p) (s := ((0 : Int), (0 : Int))) (fun a k => (a, (k : Int))) placeF id p 0 (fun a k => 0 ≤ a ∧ a ≤ (k : Int)) rfl (by omega) (by omega) (fun a k hk ha => by
    refine ⟨?_, placeF_bd ha⟩
    unfold M.spec_PlaceFrom_l0
    try dsimp only
    rw [decide_eq_true (by omega), cond_true, asrt_pos ⟨by omega, by omega⟩, Int.toNat_natCast, wrap64_id (n := (k : Int) + 1) (by omega) (by omega), wrap64_id (n := a + 1) (by omega) (by omega)]
    unfold placeF
    cases (p.getD k default).1 == 0 <;> rfl) (fun a ha => by
    unfold M.spec_PlaceFrom_l0
    try dsimp only
    rw [decide_eq_false (by omega), cond_false]
    rfl)]
  rfl

/-! ### Certificates hold -/
def HashN (l : List Int) : Prop := ∀ x ∈ l, hashOk x = true
theorem HashN.rnd : ∀ l : List Int, HashN l → HashN (rnd l)
  | a :: b :: t, h => by
    intro x hx
    rw [Go.Proofs.YthcmelnpcaijaaaDoor.rnd, List.mem_cons] at hx
    rcases hx with rfl | hx
    · have := pairH_bd a b; exact inR_true.2 (by omega)
    · exact HashN.rnd t (fun y hy => h y (by simp [hy])) x hx
  | [a], h => h
  | [], h => h
theorem HashN.leaves (l : List (List UInt8)) : HashN (leaves l) := by
  intro x hx
  obtain ⟨s, _, rfl⟩ := List.mem_map.1 hx
  have := leaf_bd s; exact inR_true.2 (by omega)
theorem stepP_ok {i : Nat} {hs : List Int} (h : HashN hs) (hi : i < hs.length) : (stepP i hs).all stepOk = true := by
  unfold stepP
  split
  · have := h _ (getD_mem (l := hs) (i := i - 1) (by omega))
    rw [List.all_cons, List.all_nil, Bool.and_true]
    unfold stepOk
    rw [this]
    rfl
  · split
    · have := h _ (getD_mem (l := hs) (i := i + 1) (by omega))
      rw [List.all_cons, List.all_nil, Bool.and_true]
      unfold stepOk
      rw [this]
      rfl
    · rfl
theorem pathR_all : ∀ (f i : Nat) (hs : List Int), HashN hs → i < hs.length → (pathR f i hs).all stepOk = true
  | 0, _, _, _, _ => rfl
  | f + 1, i, hs, h, hi => by
    rw [pathR]
    split
    · rw [List.all_append, stepP_ok h hi, pathR_all f (i / 2) (Go.Proofs.YthcmelnpcaijaaaDoor.rnd hs) h.rnd (by rw [rnd_len]; omega)]; rfl
    · rfl
theorem pathR_ok {i : Nat} {hs : List Int} (h : HashN hs) (hi : i < hs.length) : pathOk (pathR 3 i hs) = true := by
  unfold pathOk
  rw [pathR_all 3 i hs h hi, decide_eq_true (by have := pathR_len 3 i hs; omega)]; rfl

theorem from_step {i : Nat} {hs : List Int} (hi : i < hs.length) : fromP (hs.getD i default) (stepP i hs) = (rnd hs).getD (i / 2) default := by
  unfold stepP
  rcases (by omega : i % 2 = 1 ∨ i % 2 = 0) with hm | hm
  · rw [if_pos hm]
    obtain ⟨k, rfl⟩ : ∃ k, i = 2 * k + 1 := ⟨i / 2, by omega⟩
    rw [show (2 * k + 1) / 2 = k by omega, rnd_at hs k hi]
    rfl
  · rw [if_neg (by omega)]
    obtain ⟨k, rfl⟩ : ∃ k, i = 2 * k := ⟨i / 2, by omega⟩
    rw [show 2 * k / 2 = k by omega]
    split
    · next hc => rw [rnd_at hs k hc]; rfl
    · next hc => rw [rnd_last hs k (by omega)]; rfl
theorem cert_holds : ∀ (f i : Nat) (hs : List Int), i < hs.length → hs.length ≤ 2 ^ f → f ≤ 3 → fromP (hs.getD i default) (pathR f i hs) = root hs
  | 0, i, hs, hi, hl, _ => by
    simp at hl
    obtain rfl : i = 0 := by omega
    rw [root_one hl]
    cases hs with
    | nil => simp at hi
    | cons x t => rfl
  | f + 1, i, hs, hi, hl, hf => by
    rcases Nat.lt_or_ge 1 hs.length with h1 | h1
    · rw [pathR, if_pos h1]
      unfold fromP
      rw [List.foldl_append]
      have e := from_step hi
      unfold fromP at e
      have h8 : hs.length ≤ 8 := by
        have : 2 ^ (f + 1) ≤ 2 ^ 3 := Nat.pow_le_pow_right (by omega) hf
        omega
      have hp : 2 ^ (f + 1) = 2 * 2 ^ f := by rw [Nat.pow_succ]; omega
      have := cert_holds f (i / 2) (rnd hs) (by rw [rnd_len]; omega) (by rw [rnd_len]; omega) (by omega)
      unfold fromP at this
      rw [e, this, root_rnd h8]
    · obtain rfl : i = 0 := by omega
      rw [pathR_one h1, root_one h1]
      cases hs with
      | nil => simp at hi
      | cons x t => rfl

theorem PathD_ok {l : List (List UInt8)} {i : Nat} (h : ledOk l = true) (hi : i < l.length) : PathD l (i : Int) = (pathR 3 i (leaves l), true) := by
  unfold PathD
  rw [h, inR_true.2 (by omega), Int.toNat_natCast]; rfl
theorem ledOk_at {l : List (List UInt8)} (h : ledOk l = true) {i : Nat} (hi : i < l.length) : entOk (l.getD i default) = true := by
  unfold ledOk at h
  rw [Bool.and_eq_true] at h
  exact List.all_eq_true.1 h.2 _ (getD_mem hi)
theorem leaves_at {l : List (List UInt8)} {i : Nat} (hi : i < l.length) : (leaves l).getD i default = leaf (l.getD i default) := by
  unfold leaves
  simp [List.getD, hi]
theorem PathD_len {l : List (List UInt8)} {i : Int} : (PathD l i).1.length ≤ 3 := by
  unfold PathD
  cases ledOk l && inR i 0 ((l.length : Int) - 1)
  · simp
  · exact pathR_len 3 _ _

theorem certLoop (l : List (List UInt8)) (hl : TextsB l) : iterO (M.laws_FnCertificates_l0 l (bif ledOk l then (root (leaves l), true) else (0, false))) (0 : Int) = some (.inl ()) := by
  have h1 := hl.1
  cases h : ledOk l
  · have e : M.laws_FnCertificates_l0 l ((0 : Int), false) 0 = some (.inr (.inl ())) := by
      unfold M.laws_FnCertificates_l0
      simp only [Bool.and_false, cond_false]
    exact iter_up (s := (0 : Int)) (fun k => (k : Int)) 0 rfl (by omega) (fun k hk => absurd hk (by omega)) e
  · have hn := ledOk_len h
    rw [cond_true]
    refine iter_up (s := (0 : Int)) (fun k => (k : Int)) l.length rfl (by omega) (fun k hk => ?_) ?_
    · unfold M.laws_FnCertificates_l0
      have hp := pathR_ok (HashN.leaves l) (i := k) (by simp [leaves]; exact hk)
      have hle := pathR_len 3 k (leaves l)
      have hfr : FromD (l.getD k default) (pathR 3 k (leaves l)) = (root (leaves l), true) := by
        unfold FromD
        rw [ledOk_at h hk, hp, ← leaves_at hk, cert_holds 3 k (leaves l) (by simp [leaves]; exact hk) (by simp [leaves]; omega) (by omega)]; rfl
      have hpl := place_le (pathR 3 k (leaves l)) 0
      try dsimp only
      rw [decide_eq_true (by omega)]
      simp only [Bool.and_self, cond_true]
      rw [PathI l _ hl, PathD_ok h hk, Option.bind_some, asrt_pos ⟨by omega, by omega⟩, Int.toNat_natCast, CertI _ _ _ (hl.at hk) (by simp only; omega), Option.bind_some, PlaceI _ (by simp only; omega), Option.bind_some]
      unfold CertD PlaceD placeP
      rw [hfr, hp]
      simp only [cond_true, Bool.not_true, Bool.false_or, beq_self_eq_true, Bool.and_self]
      rw [decide_eq_false (by omega), decide_eq_false (by omega)]
      simp only [Bool.or_self, cond_false]
      rw [wrap64_id (by omega) (by omega)]
      rfl
    · unfold M.laws_FnCertificates_l0
      try dsimp only
      rw [decide_eq_false (by omega)]
      rfl
end Go.Proofs.YthcmelnpcaijaaaDoor
