/-
  Payments that are spread over bills; the plain law of 'payments'. Plain.
-/
import Derived.Test.YthffmnpbonkpaaaBa
set_option linter.unusedSimpArgs false
set_option linter.unusedVariables false
namespace Go.Proofs.Ythffmnpbonkpaaa
open Go.VS

/-! ### An order by insertion -/
/-- Where x goes into P: behind all whose key is not greater. -/
def insPos (key : Int → Int) (P : List Int) (x : Int) : Nat → Nat
  | 0 => 0
  | k + 1 => if key (P.getD k default) > key x then insPos key P x k else k + 1
def insK (key : Int → Int) (P : List Int) (x : Int) : List Int := P.take (insPos key P x P.length) ++ x :: P.drop (insPos key P x P.length)
def ordN (key : Int → Int) : Nat → List Int
  | 0 => []
  | n + 1 => insK key (ordN key n) (n : Int)

theorem insPos_le {key : Int → Int} {P : List Int} {x : Int} : ∀ k, insPos key P x k ≤ k
  | 0 => Nat.le_refl _
  | k + 1 => by
    unfold insPos
    split
    · exact Nat.le_trans (insPos_le k) (by omega)
    · exact Nat.le_refl _
theorem insK_perm {key : Int → Int} {P : List Int} {x : Int} : List.Perm (insK key P x) (x :: P) := by
  unfold insK
  refine List.perm_middle.trans ?_
  rw [List.take_append_drop]
theorem ordN_perm {key : Int → Int} : ∀ n, List.Perm (ordN key n) ((List.range n).map fun i : Nat => (i : Int))
  | 0 => List.Perm.refl _
  | n + 1 => by
    rw [List.range_succ, List.map_append]
    exact insK_perm.trans (((ordN_perm n).cons _).trans (List.perm_append_singleton _ _).symm)
theorem ordN_len {key : Int → Int} {n : Nat} : (ordN key n).length = n := by
  have := (ordN_perm (key := key) n).length_eq
  simpa using this
theorem ordN_mem {key : Int → Int} {n : Nat} {e : Int} : e ∈ ordN key n ↔ 0 ≤ e ∧ e < (n : Int) := by
  rw [(ordN_perm n).mem_iff, List.mem_map]
  constructor
  · rintro ⟨k, hk, rfl⟩
    have := List.mem_range.1 hk
    omega
  · intro h
    exact ⟨e.toNat, List.mem_range.2 (by omega), by omega⟩
theorem ordN_nodup {key : Int → Int} {n : Nat} : (ordN key n).Nodup := by
  rw [(ordN_perm n).nodup_iff]
  unfold List.Nodup
  rw [List.pairwise_map]
  exact (List.nodup_range (n := n)).imp (fun h e => h (by omega))

theorem slc0 {β : Type} (l : List β) (k : Nat) : slc l 0 (k : Int) = l.take k := by simp [slc]
theorem slcN {β : Type} (l : List β) (k : Nat) : slc l (k : Int) (l.length : Int) = l.drop k := by simp [slc]

theorem swap_at {p x : Int} {B : List Int} : ∀ A : List Int, (A ++ p :: x :: B).getD A.length default = p ∧ (A ++ p :: x :: B).getD (A.length + 1) default = x ∧ ((A ++ p :: x :: B).set (A.length + 1) p).set A.length x = A ++ x :: p :: B
  | [] => ⟨rfl, rfl, rfl⟩
  | a :: A => by
    obtain ⟨h1, h2, h3⟩ := swap_at (p := p) (x := x) (B := B) A
    refine ⟨?_, ?_, ?_⟩
    · simp
    · simp
    · simp

/-- The program's insertion of one element into those in front of it. -/
theorem insInner (key : Int → Int) (fm : Int → Int → Option Int) (P R : List Int) (x : Int) (hl : (P ++ x :: R).length < 1000000) (hfm : ∀ e ∈ P, ∃ c, fm x e = some c ∧ (c < 0 ↔ key x < key e)) :
    iterO (M.slices_insertionSortCmpFunc_int_l1 0 fm) (P ++ x :: R, (P.length : Int)) = some (insK key P x ++ R) := by
  apply T.eq
  have hl' : P.length < 1000000 := by simp at hl; omega
  refine T_iter (fun s => ∃ k : Nat, s = (P.take k ++ x :: (P.drop k ++ R), (k : Int)) ∧ k ≤ P.length ∧ insPos key P x k = insPos key P x P.length) (fun s => s.2.toNat) _ ⟨P.length, by simp, Nat.le_refl _, rfl⟩ (by simp only; omega) ?_
  rintro _ ⟨k, rfl, h1, h2⟩
  unfold M.slices_insertionSortCmpFunc_int_l1
  try dsimp only
  cases k with
  | zero =>
    refine T_ask (fun hq => by simp at hq) (T_ask (fun hq => by simp at hq) ?_)
    rw [decide_eq_false (show ¬ (((0 : Nat) : Int) > 0) by omega)]
    simp only [cond_false, Option.bind_some, Bool.false_and]
    refine T_ret ?_
    simp only
    unfold insK
    rw [← h2]
    simp [insPos]
  | succ k =>
    have hk : k < P.length := by omega
    have hA : (P.take k).length = k := by rw [List.length_take]; omega
    have ePd : P.drop k = P.getD k default :: P.drop (k + 1) := by
      rw [List.drop_eq_getElem_cons hk]; simp [List.getD, hk]
    have eD : P.take (k + 1) ++ x :: (P.drop (k + 1) ++ R) = P.take k ++ P.getD k default :: x :: (P.drop (k + 1) ++ R) := by
      rw [take_succ_getD hk]; simp
    have hlen : (P.take (k + 1) ++ x :: (P.drop (k + 1) ++ R)).length = (P ++ x :: R).length := by
      simp; omega
    obtain ⟨s1, s2, s3⟩ := swap_at (p := P.getD k default) (x := x) (B := P.drop (k + 1) ++ R) (P.take k)
    rw [hA, ← eD] at s1 s2 s3
    have hL : k + 1 < (P ++ x :: R).length := by simp; omega
    rw [wrap64_id (n := ((k + 1 : Nat) : Int) - 1) (by omega) (by omega), show ((k + 1 : Nat) : Int) - 1 = (k : Int) by omega, Int.toNat_natCast, Int.toNat_natCast, hlen, s1, s2]
    refine T_ask (fun _ => ⟨by omega, by omega⟩) (T_ask (fun _ => ⟨by omega, by omega⟩) ?_)
    rw [decide_eq_true (show ((k + 1 : Nat) : Int) > 0 by omega)]
    obtain ⟨c, hc1, hc2⟩ := hfm (P.getD k default) (getD_mem hk)
    simp only [cond_true, hc1, Option.bind_some, Bool.true_and]
    have eI : insPos key P x (k + 1) = if key (P.getD k default) > key x then insPos key P x k else k + 1 := rfl
    refine T_if (fun hq => ?_) (fun hq => ?_)
    · simp only [decide_eq_true_eq] at hq
      refine T_ask ⟨by omega, by omega⟩ (T_ask ⟨by omega, by omega⟩ (T_ask ⟨by omega, by omega⟩ (T_ask ⟨by omega, by rw [List.length_set, hlen]; omega⟩ ?_)))
      refine T_ret ?_
      rw [s3]
      refine ⟨⟨k, ?_, by omega, ?_⟩, by simp only; omega⟩
      · rw [ePd]; simp
      · rw [← h2, eI, if_pos (hc2.1 hq)]
    · simp only [decide_eq_false_iff_not] at hq
      refine T_ret ?_
      simp only
      unfold insK
      rw [← h2, eI, if_neg (fun h => hq (hc2.2 h))]
      simp

def idxs (n : Nat) : List Int := (List.range n).map fun i : Nat => (i : Int)
theorem idxs_len {n : Nat} : (idxs n).length = n := by simp [idxs]
theorem idxs_drop {n k : Nat} (h : k < n) : (idxs n).drop k = (k : Int) :: (idxs n).drop (k + 1) := by
  rw [List.drop_eq_getElem_cons (by rw [idxs_len]; exact h)]
  simp [idxs]

/-- The program's sort of the numbers 0 .. n - 1. -/
theorem insOuter (key : Int → Int) (fm : Int → Int → Option Int) (n : Nat) (hn : n < 100000) (hfm : ∀ a b : Int, 0 ≤ a → a < (n : Int) → 0 ≤ b → b < (n : Int) → ∃ c, fm a b = some c ∧ (c < 0 ↔ key a < key b)) :
    M.slices_insertionSortCmpFunc_int (idxs n) 0 (n : Int) fm = some (ordN key n) := by
  unfold M.slices_insertionSortCmpFunc_int
  rw [show IntKind.i64.wrap (0 + 1) = 1 from wrap64_id (by omega) (by omega)]
  cases n with
  | zero =>
    rw [iterO_now (e := idxs 0) (by unfold M.slices_insertionSortCmpFunc_int_l0; rfl)]
    rfl
  | succ m =>
    rw [iter_up (s := (idxs (m + 1), (1 : Int))) (step := M.slices_insertionSortCmpFunc_int_l0 0 ((m + 1 : Nat) : Int) fm) (e := ordN key (m + 1)) (fun k => (ordN key (k + 1) ++ (idxs (m + 1)).drop (k + 1), ((k + 1 : Nat) : Int))) m (by
        have := idxs_drop (n := m + 1) (k := 0) (by omega)
        rw [List.drop_zero] at this
        rw [this]; rfl) (by omega) (fun k hk => by
      unfold M.slices_insertionSortCmpFunc_int_l0
      try dsimp only
      rw [decide_eq_true (show ((k + 1 : Nat) : Int) < ((m + 1 : Nat) : Int) by omega), cond_true, idxs_drop (n := m + 1) (k := k + 1) (by omega)]
      have hP : (ordN key (k + 1)).length = k + 1 := ordN_len
      have := insInner key fm (ordN key (k + 1)) ((idxs (m + 1)).drop (k + 1 + 1)) ((k + 1 : Nat) : Int) (by simp [hP, idxs_len]; omega) (fun e he => by
        have := ordN_mem.1 he
        exact hfm _ _ (by omega) (by omega) (by omega) (by omega))
      rw [hP] at this
      rw [this, Option.bind_some]
      try dsimp only
      rw [wrap64_id (by omega) (by omega)]
      rfl) (by
      unfold M.slices_insertionSortCmpFunc_int_l0
      try dsimp only
      rw [decide_eq_false (by omega), cond_false, List.drop_eq_nil_of_le (by rw [idxs_len]; omega), List.append_nil])]
    rfl

theorem stableI (key : Int → Int) (fm : Int → Int → Option Int) (n : Nat) (hn : n ≤ 12) (hfm : ∀ a b : Int, 0 ≤ a → a < (n : Int) → 0 ≤ b → b < (n : Int) → ∃ c, fm a b = some c ∧ (c < 0 ↔ key a < key b)) :
    M.slices_SortStableFunc_int_int (idxs n) fm = some (ordN key n) := by
  unfold M.slices_SortStableFunc_int_int M.slices_stableCmpFunc_int
  rw [idxs_len, iterO_now (e := (0 : Int)) (by unfold M.slices_stableCmpFunc_int_l0; dsimp only; rw [asrt_pos (by rw [decide_eq_false_iff_not]; omega)]), Option.bind_some]
  try dsimp only
  rw [insOuter key fm n (by omega) hfm, Option.bind_some, asrt_pos (by rw [ordN_len]), iterO_now (e := ()) (by unfold M.slices_stableCmpFunc_int_l1; dsimp only; rw [asrt_pos (by rw [decide_eq_false_iff_not]; omega)]), Option.bind_some]
  try dsimp only
  rw [Option.bind_some, asrt_pos (by rw [ordN_len])]

/-! ### The order of the bills -/
def keyOf (t : Tariff) (l : List Bill) (e : Int) : Int := (l.map (openOf t)).getD e.toNat default
theorem keyOf_eq {t : Tariff} {l : List Bill} {e : Int} (h : 0 ≤ e ∧ e < (l.length : Int)) : keyOf t l e = openOf t (l.getD e.toNat default) := by
  have : e.toNat < l.length := by omega
  unfold keyOf
  simp [List.getD, this]

theorem cmpKey (t : Tariff) (l : List Bill) (ht : tarOk t = true) (hl : billsOk l = true) (a b : Int) (h1 : 0 ≤ a) (h2 : a < (l.length : Int)) (h3 : 0 ≤ b) (h4 : b < (l.length : Int)) : ∃ c, M.impl_SpreadPayment_1 a b t l = some c ∧ (c < 0 ↔ keyOf t l a < keyOf t l b) := by
  obtain ⟨g1, g2, g3⟩ := billsOk_spec hl
  refine ⟨cmpI (keyOf t l a) (keyOf t l b), ?_, ?_⟩
  · unfold M.impl_SpreadPayment_1
    rw [asrt_pos ⟨h1, h2⟩, openI t _ ht (g2 _ (getD_mem (by omega))), Option.bind_some, asrt_pos ⟨h3, h4⟩, openI t _ ht (g2 _ (getD_mem (by omega))), Option.bind_some, cmpIntI, Option.bind_some, keyOf_eq ⟨h1, h2⟩, keyOf_eq ⟨h3, h4⟩]
  · unfold cmpI
    by_cases h : keyOf t l a < keyOf t l b
    · rw [if_pos h]; omega
    · rw [if_neg h]
      split <;> omega

theorem initI (l : List Bill) (hl : l.length ≤ 10) : iterO (M.impl_SpreadPayment_l0 l) (List.replicate (Int.toNat (l.length : Int)) (0 : Int), 0) = some (idxs l.length) := by
  rw [Int.toNat_natCast]
  rw [iter_up (s := (List.replicate l.length (0 : Int), (0 : Int))) (step := M.impl_SpreadPayment_l0 l) (e := idxs l.length) (fun k => (idxs k ++ List.replicate (l.length - k) 0, (k : Int))) l.length (by simp [idxs]) (by omega) (fun k hk => by
    unfold M.impl_SpreadPayment_l0
    try dsimp only
    rw [Int.toNat_natCast, List.length_replicate, decide_eq_true (by omega), cond_true, asrt_pos ⟨by omega, by simp [idxs_len]; omega⟩, Int.toNat_natCast, wrap64_id (by omega) (by omega)]
    have e1 : l.length - k = (l.length - (k + 1)) + 1 := by omega
    have e2 : (idxs k ++ List.replicate (l.length - k) (0 : Int)).set k (k : Int) = idxs (k + 1) ++ List.replicate (l.length - (k + 1)) 0 := by
      rw [List.set_append_right _ _ (by rw [idxs_len]; omega), idxs_len, Nat.sub_self, e1, List.replicate_succ, List.set_cons_zero]
      unfold idxs
      rw [List.range_succ, List.map_append]
      simp
    rw [e2, cast_succ]) (by
    unfold M.impl_SpreadPayment_l0
    try dsimp only
    rw [Int.toNat_natCast, List.length_replicate, decide_eq_false (by omega), cond_false, Nat.sub_self, List.replicate_zero, List.append_nil])]

theorem specIns (t : Tariff) (l : List Bill) (b : Bool) (P : List Int) (i : Nat) (hi : i < l.length) (hl : l.length ≤ 10) (hPl : P.length ≤ 10) (hP : ∀ e ∈ P, 0 ≤ e ∧ e < (l.length : Int)) :
    iterO (M.spec_SpreadPayment_l1 (l.map (openOf t), b) P (i : Int)) (P.length : Int) = some ((insPos (keyOf t l) P (i : Int) P.length : Nat) : Int) := by
  apply T.eq
  refine T_iter (fun s => ∃ k : Nat, s = (k : Int) ∧ k ≤ P.length ∧ insPos (keyOf t l) P (i : Int) k = insPos (keyOf t l) P (i : Int) P.length) (fun s => s.toNat) _ ⟨P.length, rfl, Nat.le_refl _, rfl⟩ (by omega) ?_
  rintro _ ⟨k, rfl, h1, h2⟩
  unfold M.spec_SpreadPayment_l1
  try dsimp only
  cases k with
  | zero =>
    refine T_ask (fun hq => by simp at hq) (T_ask (fun hq => by simp at hq) (T_ask (fun hq => by simp at hq) ?_))
    rw [decide_eq_false (show ¬ (((0 : Nat) : Int) > 0) by omega)]
    simp only [cond_false, Bool.false_and]
    refine T_ret ?_
    simp only
    rw [← h2]; rfl
  | succ k =>
    have hk : k < P.length := by omega
    have hm := hP _ (getD_mem hk)
    rw [wrap64_id (n := ((k + 1 : Nat) : Int) - 1) (by omega) (by omega), show ((k + 1 : Nat) : Int) - 1 = (k : Int) by omega, Int.toNat_natCast, List.length_map]
    refine T_ask (fun _ => ⟨by omega, by omega⟩) (T_ask (fun _ => hm) (T_ask (fun _ => ⟨by omega, by omega⟩) ?_))
    rw [decide_eq_true (show ((k + 1 : Nat) : Int) > 0 by omega), Bool.true_and]
    have eI : insPos (keyOf t l) P (i : Int) (k + 1) = if keyOf t l (P.getD k default) > keyOf t l (i : Int) then insPos (keyOf t l) P (i : Int) k else k + 1 := rfl
    refine T_if (fun hq => ?_) (fun hq => ?_)
    · simp only [decide_eq_true_eq] at hq
      refine T_ret ⟨⟨k, rfl, by omega, ?_⟩, by omega⟩
      rw [← h2, eI, if_pos (show keyOf t l (P.getD k default) > keyOf t l (i : Int) from hq)]
    · simp only [decide_eq_false_iff_not] at hq
      refine T_ret ?_
      simp only
      rw [← h2, eI, if_neg (show ¬ keyOf t l (P.getD k default) > keyOf t l (i : Int) from hq)]

theorem specOrd (t : Tariff) (l : List Bill) (b : Bool) (hl : l.length ≤ 10) : iterO (M.spec_SpreadPayment_l0 l (l.map (openOf t), b)) ([], 0) = some (ordN (keyOf t l) l.length) := by
  rw [iter_up (s := (([] : List Int), (0 : Int))) (step := M.spec_SpreadPayment_l0 l (l.map (openOf t), b)) (e := ordN (keyOf t l) l.length) (fun k => (ordN (keyOf t l) k, (k : Int))) l.length rfl (by omega) (fun k hk => by
    unfold M.spec_SpreadPayment_l0
    try dsimp only
    have hP : (ordN (keyOf t l) k).length = k := ordN_len
    have h := specIns t l b (ordN (keyOf t l) k) k hk hl (by omega) (fun e he => by have := ordN_mem.1 he; omega)
    have hle := insPos_le (key := keyOf t l) (P := ordN (keyOf t l) k) (x := (k : Int)) (ordN (keyOf t l) k).length
    rw [decide_eq_true (by omega), cond_true, h, Option.bind_some]
    try dsimp only
    rw [slc0, slcN, asrt_pos ⟨by omega, by omega, by omega⟩, asrt_pos (by simp; omega), asrt_pos (by simp; omega), asrt_pos ⟨by omega, by omega, by omega⟩, asrt_pos (by simp; omega), Option.bind_some]
    try dsimp only
    rw [wrap64_id (by omega) (by omega), cast_succ]
    simp only [ordN, insK, List.nil_append, List.append_assoc, List.singleton_append]) (by
    unfold M.spec_SpreadPayment_l0
    try dsimp only
    rw [decide_eq_false (by omega), cond_false])]

/-! ### Spreading -/
def payN (b : Bill) (n : Int) : Bill := ⟨b.Id, b.Hours, b.Pages, b.Poor, b.Public, b.Paid + n⟩
def spreadB (key : Int → Int) (a : Int × List Bill) (e : Int) : Int × List Bill := (a.1 - min a.1 (key e), a.2.set e.toNat (payN (a.2.getD e.toNat default) (min a.1 (key e))))
/-- What is done behind k payments. -/
def stN (key : Int → Int) (order : List Int) (c : Int) (l : List Bill) (k : Nat) : Int × List Bill := (order.take k).foldl (spreadB key) (c, l)

def sumI : List Int → Int
  | [] => 0
  | x :: t => x + sumI t
theorem foldl_sumI : ∀ (l : List Int) (a : Int), l.foldl (· + ·) a = a + sumI l
  | [], a => by simp [sumI]
  | x :: t, a => by rw [List.foldl_cons, foldl_sumI t, sumI]; omega
theorem sumI_set : ∀ (l : List Int) (k : Nat) (v : Int), k < l.length → sumI (l.set k v) = sumI l - l.getD k default + v
  | [], k, v, h => absurd h (Nat.not_lt_zero _)
  | x :: t, 0, v, _ => by simp [sumI]; omega
  | x :: t, k + 1, v, h => by
    have := sumI_set t k v (by simpa using h)
    simp only [List.set_cons_succ, sumI, List.getD_cons_succ]
    omega
theorem sumI_bd : ∀ (l : List Int), (∀ x ∈ l, 0 ≤ x ∧ x ≤ 1000000) → 0 ≤ sumI l ∧ sumI l ≤ l.length * 1000000
  | [], _ => by simp [sumI]
  | x :: t, h => by
    have h1 := h x (by simp)
    have h2 := sumI_bd t (fun y hy => h y (by simp [hy]))
    simp only [sumI, List.length_cons]
    omega
theorem sumI_zero : ∀ (l : List Int), (∀ x ∈ l, x = 0) → sumI l = 0
  | [], _ => rfl
  | x :: t, h => by
    have h1 := h x (by simp)
    have h2 := sumI_zero t (fun y hy => h y (by simp [hy]))
    simp only [sumI]; omega

structure Inv (t : Tariff) (l : List Bill) (c0 : Int) (done : List Int) (a : Int × List Bill) : Prop where
  len : a.2.length = l.length
  c : 0 ≤ a.1 ∧ a.1 ≤ c0
  ok : ∀ j, j < l.length → billOk (a.2.getD j default) = true ∧ (a.2.getD j default).Id = (l.getD j default).Id
  same : ∀ j, j < l.length → (j : Int) ∉ done → a.2.getD j default = l.getD j default
  zero : a.1 > 0 → ∀ j, j < l.length → (j : Int) ∈ done → openOf t (a.2.getD j default) = 0
  sum : sumI (l.map (openOf t)) - sumI (a.2.map (openOf t)) = c0 - a.1

theorem getD_set {β : Type} [Inhabited β] {l : List β} {k j : Nat} {v : β} (hk : k < l.length) : (l.set k v).getD j default = if k = j then v else l.getD j default := by
  simp only [List.getD, List.getElem?_set]
  by_cases e : k = j
  · subst e; simp [hk]
  · simp [e]

theorem Inv.step {t : Tariff} {l : List Bill} {c0 : Int} {done : List Int} {a : Int × List Bill} (ht : tarOk t = true) (hc0 : c0 ≤ 1000000) (h : Inv t l c0 done a) (e : Int) (he : 0 ≤ e ∧ e < (l.length : Int)) (hd : e ∉ done) :
    openOf t (a.2.getD e.toNat default) = keyOf t l e ∧ billOk (a.2.getD e.toNat default) = true ∧ (0 ≤ min a.1 (keyOf t l e) ∧ min a.1 (keyOf t l e) ≤ 1000000) ∧ Inv t l c0 (done ++ [e]) (spreadB (keyOf t l) a e) := by
  have hk : e.toNat < l.length := by omega
  have hee : ((e.toNat : Nat) : Int) = e := by omega
  have hs := h.same e.toNat hk (by rw [hee]; exact hd)
  obtain ⟨hok, hid⟩ := h.ok e.toNat hk
  have hkey : openOf t (a.2.getD e.toNat default) = keyOf t l e := by rw [hs, keyOf_eq he]
  have hob := openOf_bd ht hok
  have hfb := feeOf_bd ht hok
  have hpb := billOk_spec hok
  have hc := h.c
  refine ⟨hkey, hok, by omega, ?_⟩
  obtain ⟨n, hn⟩ : ∃ n, min a.1 (keyOf t l e) = n := ⟨_, rfl⟩
  obtain ⟨b, hbd⟩ : ∃ b, a.2.getD e.toNat default = b := ⟨_, rfl⟩
  rw [hbd] at hkey hok hid hob hfb hpb hs
  have hfee : feeOf t (payN b n) = feeOf t b := rfl
  have hopen : openOf t (payN b n) = openOf t b - n := by
    have e1 : openOf t (payN b n) = max (feeOf t b - (b.Paid + n)) 0 := rfl
    have e2 : openOf t b = max (feeOf t b - b.Paid) 0 := rfl
    omega
  have hbok : billOk (payN b n) = true := by
    have e2 : openOf t b = max (feeOf t b - b.Paid) 0 := rfl
    unfold billOk
    simp only [Bool.and_eq_true, inR_true]
    exact ⟨⟨⟨hpb.1, hpb.2.1⟩, hpb.2.2.1⟩, by show 0 ≤ b.Paid + n; omega, by show b.Paid + n ≤ 1000000; omega⟩
  have hka : e.toNat < a.2.length := by rw [h.len]; exact hk
  unfold spreadB
  rw [hn, hbd]
  refine ⟨by simpa using h.len, by simp only; omega, fun j hj => ?_, fun j hj hm => ?_, fun hpos j hj hm => ?_, ?_⟩
  · simp only
    rw [getD_set hka]
    by_cases q : e.toNat = j
    · rw [if_pos q]; subst q
      exact ⟨hbok, hid⟩
    · rw [if_neg q]; exact h.ok j hj
  · simp only
    rw [getD_set hka]
    have q : e.toNat ≠ j := by
      intro q
      apply hm
      rw [List.mem_append]
      right
      rw [List.mem_singleton]; omega
    rw [if_neg q]
    exact h.same j hj (fun q => hm (List.mem_append_left _ q))
  · simp only at hpos ⊢
    rw [getD_set hka]
    by_cases q : e.toNat = j
    · rw [if_pos q, hopen]; omega
    · rw [if_neg q]
      refine h.zero (by omega) j hj ?_
      rcases List.mem_append.1 hm with q2 | q2
      · exact q2
      · rw [List.mem_singleton] at q2; omega
  · simp only
    rw [List.map_set, sumI_set _ _ _ (by simpa using hka)]
    have e3 : (a.2.map (openOf t)).getD e.toNat default = openOf t b := by
      rw [← hbd]
      simp [List.getD, hka]
    have := h.sum
    rw [e3, hopen]
    omega

theorem stN_inv (t : Tariff) (l : List Bill) (c : Int) (ht : tarOk t = true) (hl : billsOk l = true) (hc : 0 ≤ c ∧ c ≤ 1000000) : ∀ k, k ≤ l.length → Inv t l c ((ordN (keyOf t l) l.length).take k) (stN (keyOf t l) (ordN (keyOf t l) l.length) c l k)
  | 0, _ => ⟨rfl, by simp only [stN, List.take_zero, List.foldl_nil]; omega, fun j hj => ⟨(billsOk_spec hl).2.1 _ (getD_mem hj), rfl⟩, fun j _ _ => rfl, fun _ j _ hm => by simp at hm, by simp only [stN, List.take_zero, List.foldl_nil]; omega⟩
  | k + 1, hk => by
    have hk' : k < (ordN (keyOf t l) l.length).length := by rw [ordN_len]; omega
    have ih := stN_inv t l c ht hl hc k (by omega)
    have hm := ordN_mem.1 (getD_mem hk')
    have hnd : (ordN (keyOf t l) l.length).getD k default ∉ (ordN (keyOf t l) l.length).take k := by
      have h := ordN_nodup (key := keyOf t l) (n := l.length)
      rw [← List.take_append_drop (k + 1) (ordN (keyOf t l) l.length), take_succ_getD hk'] at h
      have h2 := (List.nodup_append.1 h).1
      intro hin
      exact (List.nodup_append.1 h2).2.2 _ hin _ (List.mem_singleton.2 rfl) rfl
    have := (ih.step ht hc.2 _ hm hnd).2.2.2
    rw [take_succ_getD hk']
    unfold stN at this ⊢
    rw [foldl_take hk']
    exact this

theorem stN_succ (key : Int → Int) (order : List Int) (c : Int) (l : List Bill) {k : Nat} (hk : k < order.length) : stN key order c l (k + 1) = spreadB key (stN key order c l k) (order.getD k default) := by
  unfold stN
  rw [foldl_take hk]

theorem spreadLoop (t : Tariff) (l : List Bill) (c : Int) (ht : tarOk t = true) (hl : billsOk l = true) (hc : 0 ≤ c ∧ c ≤ 1000000) {step : Int × List Bill × Int → Option ((Int × List Bill × Int) ⊕ (Int × List Bill))}
    (hs : ∀ (a : Int × List Bill) (k : Nat) (e : Int), k < l.length → (ordN (keyOf t l) l.length).getD k default = e → (0 ≤ e ∧ e < (l.length : Int)) → a.2.length = l.length → openOf t (a.2.getD e.toNat default) = keyOf t l e → billOk (a.2.getD e.toNat default) = true → (0 ≤ min a.1 (keyOf t l e) ∧ min a.1 (keyOf t l e) ≤ 1000000) → (0 ≤ a.1 ∧ a.1 ≤ 1000000) →
      step (a.1, a.2, (k : Int)) = some (.inl ((spreadB (keyOf t l) a e).1, (spreadB (keyOf t l) a e).2, ((k + 1 : Nat) : Int))))
    (he : ∀ a : Int × List Bill, step (a.1, a.2, (l.length : Int)) = some (.inr (a.1, a.2))) :
    iterO step (c, l, 0) = some ((stN (keyOf t l) (ordN (keyOf t l) l.length) c l l.length).1, (stN (keyOf t l) (ordN (keyOf t l) l.length) c l l.length).2) := by
  have h10 := (billsOk_spec hl).1
  refine iter_up (s := (c, l, (0 : Int))) (step := step) (fun k => ((stN (keyOf t l) (ordN (keyOf t l) l.length) c l k).1, (stN (keyOf t l) (ordN (keyOf t l) l.length) c l k).2, (k : Int))) l.length rfl (by omega) (fun k hk => ?_) (he _)
  have hk' : k < (ordN (keyOf t l) l.length).length := by rw [ordN_len]; omega
  have ih := stN_inv t l c ht hl hc k (by omega)
  have hm := ordN_mem.1 (getD_mem hk')
  have hnd : (ordN (keyOf t l) l.length).getD k default ∉ (ordN (keyOf t l) l.length).take k := by
    have h := ordN_nodup (key := keyOf t l) (n := l.length)
    rw [← List.take_append_drop (k + 1) (ordN (keyOf t l) l.length), take_succ_getD hk'] at h
    have h2 := (List.nodup_append.1 h).1
    intro hin
    exact (List.nodup_append.1 h2).2.2 _ hin _ (List.mem_singleton.2 rfl) rfl
  obtain ⟨q1, q2, q3, _⟩ := ih.step ht hc.2 _ hm hnd
  have hcc := ih.c
  rw [hs _ k _ hk rfl hm ih.len q1 q2 q3 (by omega), stN_succ _ _ _ _ hk']

def SpreadD (t : Tariff) (l : List Bill) (c : Int) : List Bill × Int × Bool :=
  bif (tarOk t && billsOk l) && inR c 0 1000000 then ((stN (keyOf t l) (ordN (keyOf t l) l.length) c l l.length).2, (stN (keyOf t l) (ordN (keyOf t l) l.length) c l l.length).1, true) else ([], 0, false)

theorem spreadI (t : Tariff) (l : List Bill) (c : Int) (hl : l.length < 1000000) : M.impl_SpreadPayment t l c = some (SpreadD t l c) := by
  unfold M.impl_SpreadPayment SpreadD
  simp only [tarI, billsI l hl, centsI, Option.bind_some, bif_some]
  cases h1 : tarOk t
  · rfl
  cases h2 : billsOk l
  · rfl
  cases h3 : inR c 0 1000000
  · rfl
  obtain ⟨g1, g2, g3⟩ := billsOk_spec h2
  have hc := inR_true.1 h3
  unfold M.slices_Clone_impl_Bill_impl_Bill
  simp only [Bool.not_true, cond_false, Bool.or_self, Bool.and_self, cond_true]
  rw [asrt_pos (by omega), Option.bind_some, asrt_pos ⟨by omega, by omega, by omega⟩, initI l g1, Option.bind_some]
  try dsimp only
  rw [stableI (keyOf t l) (fun x0 x1 => M.impl_SpreadPayment_1 x0 x1 t l) l.length (by omega) (fun a b q1 q2 q3 q4 => cmpKey t l h1 h2 a b q1 q2 q3 q4), Option.bind_some, asrt_pos (by rw [ordN_len, idxs_len])]
  rw [spreadLoop t l c h1 h2 hc (fun a k e hk hek hb hlen q1 q2 q3 q4 => by
    unfold M.impl_SpreadPayment_l1
    try dsimp only
    have q5 := (billOk_spec q2).2.2.2
    rw [ordN_len, Int.toNat_natCast, hek, decide_eq_true (by omega), cond_true, asrt_pos ⟨by omega, by omega⟩, asrt_pos (by rw [hlen]; exact hb), openI t _ h1 q2, Option.bind_some, asrt_pos (by rw [hlen]; exact hb), asrt_pos (by rw [hlen]; exact hb), q1, bif_min, Int.min_comm (keyOf t l e) a.1, wrap64_id (n := a.1 - min a.1 (keyOf t l e)) (by omega) (by omega), wrap64_id (n := (a.2.getD e.toNat default).Paid + min a.1 (keyOf t l e)) (by omega) (by omega), wrap64_id (n := (k : Int) + 1) (by omega) (by omega), cast_succ]
    rfl) (fun a => by
    unfold M.impl_SpreadPayment_l1
    try dsimp only
    rw [ordN_len, decide_eq_false (by omega), cond_false])]
  rfl

theorem spreadS (t : Tariff) (l : List Bill) (c : Int) (hl : l.length < 1000000) : M.spec_SpreadPayment t l c = some (SpreadD t l c) := by
  unfold M.spec_SpreadPayment SpreadD
  rw [openLS t l hl, Option.bind_some]
  unfold OpenD
  simp only [centsS, bif_some, Option.bind_some]
  cases h1 : tarOk t
  · rfl
  cases h2 : billsOk l
  · rfl
  cases h3 : inR c 0 1000000
  · rfl
  obtain ⟨g1, g2, g3⟩ := billsOk_spec h2
  have hc := inR_true.1 h3
  simp only [Bool.not_true, cond_false, Bool.or_self, Bool.and_self, cond_true]
  rw [specOrd t l true g1, Option.bind_some]
  try dsimp only
  rw [asrt_pos (by simp; omega), List.nil_append]
  rw [spreadLoop t l c h1 h2 hc (fun a k e hk hek hb hlen q1 q2 q3 q4 => by
    unfold M.spec_SpreadPayment_l2
    try dsimp only
    have q5 := (billOk_spec q2).2.2.2
    rw [ordN_len, Int.toNat_natCast, hek, decide_eq_true (by omega), cond_true, asrt_pos ⟨by omega, by omega⟩, asrt_pos (by rw [hlen]; exact hb), asrt_pos ⟨by omega, by omega⟩, asrt_pos (by rw [List.length_map]; exact hb), leastS, Option.bind_some, asrt_pos ⟨by omega, by omega⟩, asrt_pos (by rw [hlen]; exact hb)]
    rw [show (l.map (openOf t)).getD e.toNat default = keyOf t l e from rfl, wrap64_id (n := a.1 - min a.1 (keyOf t l e)) (by omega) (by omega), wrap64_id (n := (a.2.getD e.toNat default).Paid + min a.1 (keyOf t l e)) (by omega) (by omega), wrap64_id (n := (k : Int) + 1) (by omega) (by omega), cast_succ]
    rfl) (fun a => by
    unfold M.spec_SpreadPayment_l2
    try dsimp only
    rw [ordN_len, decide_eq_false (by omega), cond_false])]
  rfl

theorem SpreadD_len {t : Tariff} {l : List Bill} {c : Int} (hl : l.length < 1000000) : (SpreadD t l c).1.length < 1000000 := by
  unfold SpreadD
  cases h1 : tarOk t
  · simp
  cases h2 : billsOk l
  · simp
  cases h3 : inR c 0 1000000
  · simp
  have := (stN_inv t l c h1 h2 (inR_true.1 h3) l.length (Nat.le_refl _)).len
  simp only [Bool.and_self, cond_true]
  omega

/-! ### Draws -/
theorem drawTariff {code : List Int} {k : Nat} {c : Cur} (hb : Bytes code) (h : Good code k c) (hk : k < 700000000) : T (M.spec_l1Cur_tariff c) (fun r => Good code (k + 20) r.2) := by
  unfold M.spec_l1Cur_tariff
  repeat' (first
    | ((with_reducible (refine T_pick hb (by assumption) ?_ ?_)); omega; intro x_ c_ hx1_ hx2_ hc_; try dsimp only)
    | ((with_reducible (refine T_among hb (by assumption) ?_ ?_ ?_)); omega; simp; intro x_ c_ hx_ hc_; try dsimp only)
    | ((with_reducible (refine T_one hb (by assumption) ?_ ?_)); omega; intro x_ c_ hc_; try dsimp only)
    | ((with_reducible (refine T_next hb (by assumption) ?_ ?_)); omega; intro x_ c_ hx_ hc_; try dsimp only)
    | ((with_reducible (refine T_ask ?_ ?_)); (first | omega | (simp at *; omega) | (intros; simp at *; omega)))
    | (with_reducible (refine T_if (fun hq_ => ?_) (fun hq_ => ?_)))
    | ((with_reducible (refine T_ret ?_)); try dsimp only)
    | (with_reducible (refine T_in ?_)))
  all_goals exact Good.up (by assumption) (by omega)

theorem drawBill {code : List Int} {k : Nat} {c : Cur} (hb : Bytes code) (h : Good code k c) (hk : k < 700000000) (id_ : Int) : T (M.spec_l1Cur_bill c id_) (fun r => Good code (k + 20) r.2) := by
  unfold M.spec_l1Cur_bill
  repeat' (first
    | ((with_reducible (refine T_pick hb (by assumption) ?_ ?_)); omega; intro x_ c_ hx1_ hx2_ hc_; try dsimp only)
    | ((with_reducible (refine T_among hb (by assumption) ?_ ?_ ?_)); omega; simp; intro x_ c_ hx_ hc_; try dsimp only)
    | ((with_reducible (refine T_one hb (by assumption) ?_ ?_)); omega; intro x_ c_ hc_; try dsimp only)
    | ((with_reducible (refine T_next hb (by assumption) ?_ ?_)); omega; intro x_ c_ hx_ hc_; try dsimp only)
    | ((with_reducible (refine T_ask ?_ ?_)); (first | omega | (simp at *; omega) | (intros; simp at *; omega)))
    | (with_reducible (refine T_if (fun hq_ => ?_) (fun hq_ => ?_)))
    | ((with_reducible (refine T_ret ?_)); try dsimp only)
    | (with_reducible (refine T_in ?_)))
  all_goals exact Good.up (by assumption) (by omega)

theorem drawBills {code : List Int} {k : Nat} {c : Cur} (hb : Bytes code) (h : Good code k c) (hk : k < 600000000) : T (M.spec_l1Cur_bills c) (fun r => r.1.length ≤ 20 ∧ Good code (k + 400) r.2) := by
  unfold M.spec_l1Cur_bills
  refine T_pick hb h (by omega) ?_
  intro n c1 _ hn h1
  have hn := hn (by omega)
  try dsimp only
  refine T.then (Q := fun r => r.1.length ≤ 6 ∧ Good code (k + 250) r.2.2) (T_iter (fun s => 0 ≤ s.2.2.1 ∧ (s.1.length : Int) + s.2.2.1 ≤ 6 ∧ Good code (k + 250 - 30 * s.2.2.1.toNat) s.2.2.2) (fun s => s.2.2.1.toNat) _ ⟨hn.1, by simp only [List.length_nil]; omega, h1.up (by simp only; omega)⟩ (by (first | omega | (simp only; omega) | (dsimp only; omega) | (simp; omega))) ?_) ?_
  · rintro ⟨l, i, n, c2⟩ ⟨g1, g2, g3⟩
    simp only at g1 g2 g3
    unfold M.spec_l1Cur_bills_l0
    try dsimp only
    refine T_if (fun hq => ?_) (fun hq => T_ret ⟨by simp only; omega, g3.up (by omega)⟩)
    simp only [decide_eq_true_eq] at hq
    refine T_pick hb g3 (by omega) ?_
    intro x c3 _ _ h2
    refine T_pick hb h2 (by omega) ?_
    intro y c4 _ _ h3
    refine (drawBill hb h3 (by omega) _).then ?_
    rintro ⟨b, c5⟩ h4
    simp only at h4
    refine T_ask (by simp; omega) (T_ret ?_)
    simp only [List.length_append, List.length_cons, List.length_nil]
    rw [wrap64_id (n := n - 1) (by omega) (by omega)]
    exact ⟨⟨by omega, by omega, h4.up (by omega)⟩, by omega⟩
  · rintro ⟨l, i, c2⟩ ⟨h2, h3⟩
    simp only at h2 h3
    refine T_one hb h3 (by omega) ?_
    intro b c3 h4
    try dsimp only
    refine T_if (fun _ => ?_) (fun _ => T_ret ⟨by simp only; omega, h4.up (by omega)⟩)
    refine T.then (Q := fun r => r.1.length ≤ 12 ∧ Good code (k + 300) r.2) (T_iter (fun s => s.1.length ≤ 12 ∧ Good code (k + 260 + 2 * s.1.length) s.2.2) (fun s => 12 - s.1.length) _ ⟨by simp only; omega, h4.up (by omega)⟩ (by simp only; omega) ?_) (fun r hr => T_ret ⟨Nat.le_trans hr.1 (by omega), hr.2.up (by omega)⟩)
    rintro ⟨m, i2, c4⟩ ⟨g1, g2⟩
    simp only at g1 g2
    unfold M.spec_l1Cur_bills_l1
    try dsimp only
    refine T_pick hb g2 (by omega) ?_
    intro y c5 _ y2 y3
    have := y2 (by omega)
    try dsimp only
    rw [wrap64_id (n := 10 + y) (by omega) (by omega)]
    refine T_if (fun hq => ?_) (fun hq => T_ret ⟨g1, y3.up (by omega)⟩)
    simp only [decide_eq_true_eq] at hq
    refine T_ask (by simp; omega) (T_ret ?_)
    simp only [List.length_append, List.length_cons, List.length_nil]
    exact ⟨⟨by omega, y3.up (by omega)⟩, by omega⟩

theorem drawCents {code : List Int} {k : Nat} {c : Cur} (hb : Bytes code) (h : Good code k c) (hk : k < 700000000) : T (M.spec_l1Cur_cents14 c) (fun r => Good code (k + 4) r.2) := by
  unfold M.spec_l1Cur_cents14
  refine T_pick hb h (by omega) ?_
  intro x c1 _ hx h1
  have hx := hx (by omega)
  try dsimp only
  have e1 : Int.tdiv x 11 = x / 11 := Int.tdiv_eq_ediv_of_nonneg hx.1
  rw [e1, wrap64_id (n := x / 11) (by omega) (by omega), wrap64_id (by omega) (by omega)]
  refine T_ask ⟨by omega, by omega, by simp; omega⟩ ?_
  refine T_among hb h1 (by omega) ?_ ?_
  · intro e
    have := congrArg List.length e
    simp [slc] at this
    omega
  · intro y c2 _ h2
    exact T_ret h2

theorem good0b {code : List Int} : Good code 0 (⟨code, 0, 0⟩ : Cur) := ⟨rfl, Int.le_refl _, Int.le_refl _⟩

theorem dSpread {code : List Int} (hb : Bytes code) : T (M.spec_DrawSpreadPayment code) (fun r => r.2.1.length < 1000000) := by
  unfold M.spec_DrawSpreadPayment
  refine (drawTariff hb good0b (by omega)).then ?_
  rintro ⟨t, c1⟩ h1
  refine (drawBills hb h1 (by omega)).then ?_
  rintro ⟨l, c2⟩ ⟨h2, h3⟩
  refine (drawCents hb h3 (by omega)).then ?_
  rintro ⟨x, c3⟩ h4
  exact T_ret (by simp only at h2 ⊢; omega)
theorem dOpen {code : List Int} (hb : Bytes code) : T (M.spec_DrawOpenFees code) (fun r => r.2.length < 1000000) := by
  unfold M.spec_DrawOpenFees
  refine (drawTariff hb good0b (by omega)).then ?_
  rintro ⟨t, c1⟩ h1
  refine (drawBills hb h1 (by omega)).then ?_
  rintro ⟨l, c2⟩ ⟨h2, h3⟩
  exact T_ret (by simp only at h2 ⊢; omega)
theorem dPay {code : List Int} (hb : Bytes code) : T (M.spec_DrawPayBill code) (fun r => r.1.length < 1000000) := by
  unfold M.spec_DrawPayBill
  refine (drawBills hb good0b (by omega)).then ?_
  rintro ⟨l, c2⟩ ⟨h2, h3⟩
  simp only at h2 h3
  have hl : l.length < 1000000 := by omega
  cases hc : decide ((l.length : Int) > 0)
  · simp only [cond_false, Bool.false_and, Option.bind_some]
    refine T_among hb h3 (by omega) (by simp) ?_
    intro y c3 _ h4
    refine (drawCents hb h4 (by omega)).then ?_
    rintro ⟨x, c4⟩ h5
    exact T_ret hl
  · simp only [cond_true, Bool.true_and]
    refine T_one hb h3 (by omega) ?_
    intro b c3 h4
    refine T_if (fun _ => ?_) (fun _ => ?_)
    · refine T_pick hb h4 (by omega) ?_
      intro y c4 _ y2 h5
      simp only [decide_eq_true_eq] at hc
      refine T_ask (y2 (by omega)) ?_
      refine (drawCents hb h5 (by omega)).then ?_
      rintro ⟨x, c5⟩ h6
      exact T_ret hl
    · refine T_among hb h4 (by omega) (by simp) ?_
      intro y c4 _ h5
      refine (drawCents hb h5 (by omega)).then ?_
      rintro ⟨x, c5⟩ h6
      exact T_ret hl

/-! ### The law -/
theorem law_FnPayments (code : List Int) (h1 : code.length ≤ 9223372036854775807) (h2 : ∀ x, x ∈ code → 0 ≤ x ∧ x ≤ 255) : M.laws_FnPayments code = some true := by
  apply T.eq
  unfold M.laws_FnPayments M.laws_rBig
  rw [Option.bind_some]
  refine T_if (fun _ => T_ret rfl) (fun hq => ?_)
  simp only [decide_eq_false_iff_not] at hq
  have hb : Bytes code := ⟨by omega, h2⟩
  refine (dSpread hb).then ?_
  rintro ⟨t, l, c⟩ hl
  simp only at hl
  simp only [spreadI t l c hl, spreadS t l c hl, Option.bind_some, beq_self_eq_true, bne_self_eq_false, Bool.not_true, Bool.or_self, cond_false, rBills_self _ (SpreadD_len hl), openLI t l hl, openLI t _ (SpreadD_len (t := t) (c := c) hl)]
  refine T.then (Q := fun e => e = .inl ()) (T_if (fun hm => ?_) (fun _ => T_ret rfl)) ?_
  · unfold SpreadD at hm ⊢
    cases h : (tarOk t && billsOk l) && inR c 0 1000000
    · rw [h] at hm; cases hm
    simp only [Bool.and_eq_true] at h
    obtain ⟨⟨k1, k2⟩, k3⟩ := h
    have hc := inR_true.1 k3
    have hI := stN_inv t l c k1 k2 hc l.length (Nat.le_refl _)
    obtain ⟨g1, g2, g3⟩ := billsOk_spec k2
    simp only [cond_true]
    generalize stN (keyOf t l) (ordN (keyOf t l) l.length) c l l.length = a at hI
    obtain ⟨x, out⟩ := a
    obtain ⟨i1, i2, i3, i4, i5, i6⟩ := hI
    simp only at i1 i2 i3 i4 i5 i6
    have hout : billsOk out = true := billsOk_of k2 i1 i3
    have eA : OpenD t l = (l.map (openOf t), true) := by unfold OpenD; rw [k1, k2]; rfl
    have eB : OpenD t out = (out.map (openOf t), true) := by unfold OpenD; rw [k1, hout]; rfl
    have bA : ∀ y ∈ l.map (openOf t), 0 ≤ y ∧ y ≤ 1000000 := by
      intro y hy
      obtain ⟨b, hb', rfl⟩ := List.mem_map.1 hy
      exact openOf_bd k1 (g2 b hb')
    have bB : ∀ y ∈ out.map (openOf t), 0 ≤ y ∧ y ≤ 1000000 := by
      intro y hy
      obtain ⟨b, hb', rfl⟩ := List.mem_map.1 hy
      exact openOf_bd k1 ((billsOk_spec hout).2.1 b hb')
    have sA := sumI_bd _ bA
    have sB := sumI_bd _ bB
    simp only [List.length_map] at sA sB
    simp only [eA, eB, Bool.not_true, Bool.or_self, cond_false, rSum_def _ (show (l.map (openOf t)).length ≤ 10 by simpa using g1) bA, rSum_def _ (show (out.map (openOf t)).length ≤ 10 by rw [List.length_map]; omega) bB, foldl_sumI, Option.bind_some, billsI out (by omega), hout]
    rw [wrap64_id (by omega) (by omega), wrap64_id (by omega) (by omega)]
    rw [show ((0 + sumI (l.map (openOf t)) - (0 + sumI (out.map (openOf t))) != c - x)) = false by rw [bne_eq_false_iff_eq]; omega, decide_eq_false (show ¬ x < 0 by omega)]
    simp only [Bool.or_self, cond_false, bif_some, Option.bind_some, Bool.false_or, Bool.or_false]
    by_cases hx : x > 0
    · have hz : sumI (out.map (openOf t)) = 0 := sumI_zero _ (fun y hy => by
        obtain ⟨b, hb', rfl⟩ := List.mem_map.1 hy
        obtain ⟨j, hj, rfl⟩ := List.getElem_of_mem hb'
        have := i5 hx j (by omega) (by
          rw [List.take_of_length_le (by rw [ordN_len]; omega)]
          exact ordN_mem.2 ⟨by omega, by omega⟩)
        simpa [List.getD, hj] using this)
      rw [decide_eq_true hx, hz]
      exact T_ret rfl
    · rw [decide_eq_false hx]
      exact T_ret rfl
  rintro _ rfl
  try dsimp only
  refine (dOpen hb).then ?_
  rintro ⟨t, l⟩ hl
  simp only at hl
  simp only [openLI t l hl, openLS t l hl, overLI t l hl, overLS t l hl, Option.bind_some, beq_self_eq_true, bne_self_eq_false, Bool.not_true, Bool.or_self, cond_false, rInts_self _ (OpenD_len hl), rInts_self _ (OverD_len hl)]
  have hflag : (OverD t l).2.2 = (OpenD t l).2 := by
    unfold OverD OpenD; cases tarOk t && billsOk l <;> rfl
  have hsum : decide ((OverD t l).2.1 < 0) = false := by
    rw [decide_eq_false_iff_not]
    unfold OverD
    cases tarOk t && billsOk l
    · simp
    · have := (overB_spec t l ([], 0)).2 (Int.le_refl _)
      simp only [cond_true]; omega
  rw [hflag, hsum]
  simp only [beq_self_eq_true, Bool.not_true, Bool.or_self, Bool.false_or, Bool.or_false, cond_false, Option.bind_some, rInts_self _ (OverD_len hl)]
  have hloop : iterO (M.laws_FnPayments_l0 (t, l) (OpenD t l) (OverD t l)) (0 : Int) = some (.inl ()) := by
    cases h : tarOk t && billsOk l
    · exact iterO_now (by
        unfold M.laws_FnPayments_l0 OpenD
        rw [h]
        simp)
    · have h' := h
      simp only [Bool.and_eq_true] at h
      obtain ⟨k1, k2⟩ := h
      obtain ⟨g1, g2, g3⟩ := billsOk_spec k2
      refine iter_up (s := (0 : Int)) (step := M.laws_FnPayments_l0 (t, l) (OpenD t l) (OverD t l)) (fun k => (k : Int)) l.length rfl (by omega) (fun k hk => ?_) ?_
      · unfold M.laws_FnPayments_l0
        try dsimp only
        rw [decide_eq_true (by omega), rHas_def _ _ (OverD_len hl), Int.toNat_natCast]
        have eO : OpenD t l = (l.map (openOf t), true) := by unfold OpenD; rw [h']; rfl
        have eV : (OverD t l).1 = (l.filter fun b => decide (b.Paid - feeOf t b > 0)).map (·.Id) := by
          unfold OverD; rw [h']; simp only [cond_true, (overB_spec t l _).1, List.nil_append]
        rw [eO, eV, Bool.and_self, cond_true, asrt_pos ⟨by omega, by omega⟩, Option.bind_some, asrt_pos (fun _ => ⟨by omega, by rw [List.length_map]; omega⟩)]
        have e3 : (l.map (openOf t)).getD k default = openOf t (l.getD k default) := by simp [List.getD, hk]
        have hno : ((((l.filter fun b => decide (b.Paid - feeOf t b > 0)).map (·.Id)).any fun y => y == (l.getD k default).Id) && (openOf t (l.getD k default) != 0)) = false := by
          cases ha : (((l.filter fun b => decide (b.Paid - feeOf t b > 0)).map (·.Id)).any fun y => y == (l.getD k default).Id)
          · rfl
          · rw [List.any_eq_true] at ha
            obtain ⟨y, hy, he⟩ := ha
            obtain ⟨b, hb', rfl⟩ := List.mem_map.1 hy
            obtain ⟨hbm, hbp⟩ := List.mem_filter.1 hb'
            obtain ⟨j, hj, rfl⟩ := List.getElem_of_mem hbm
            rw [beq_iff_eq] at he
            have ej : l[j] = l.getD j default := by simp [List.getD, hj]
            rw [ej] at he hbp
            have := billsOk_id k2 hj hk he
            subst this
            simp only [decide_eq_true_eq] at hbp
            have : openOf t (l.getD j default) = 0 := by unfold openOf; omega
            rw [this]; rfl
        rw [e3, hno, cond_false, wrap64_id (by omega) (by omega), cast_succ]
      · unfold M.laws_FnPayments_l0
        try dsimp only
        rw [decide_eq_false (by omega)]
        rfl
  rw [hloop, Option.bind_some]
  try dsimp only
  refine (dPay hb).then ?_
  rintro ⟨l, id, n⟩ hl
  simp only at hl
  simp only [payI l id n hl, payS l id n hl, Option.bind_some, beq_self_eq_true, cond_true, rBills_self _ (PayD_len hl), Bool.true_and]
  exact T_ret rfl

end Go.Proofs.Ythffmnpbonkpaaa
