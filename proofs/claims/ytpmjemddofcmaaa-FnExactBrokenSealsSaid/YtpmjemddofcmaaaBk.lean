/-
  The exact law of 'broken seals': rows of marks. Plain.
-/
import Derived.Test.YtpmjemddofcmaaaCx
set_option linter.unusedSimpArgs false
set_option linter.unusedVariables false
namespace Go.Proofs.Ytpmjemddofcmaaa
open Go.VS

def upsK (k : Int) (n : Nat) : List Int := (List.range n).map fun i : Nat => k + (i : Int)
theorem upsK_len {k : Int} {n : Nat} : (upsK k n).length = n := by simp [upsK]
theorem upsK_getD {k : Int} {n j : Nat} (h : j < n) : (upsK k n).getD j default = k + (j : Int) := by simp [upsK, List.getD, h]
theorem upsK_succ {k : Int} {n : Nat} : upsK k (n + 1) = upsK k n ++ [k + (n : Int)] := by
  unfold upsK
  rw [List.range_succ, List.map_append]
  rfl
theorem set_mark {β : Type} {P R : List β} {x y : β} : (P ++ x :: R).set P.length y = P ++ y :: R := by
  rw [List.set_append_right _ _ (Nat.le_refl _), Nat.sub_self, List.set_cons_zero]
theorem drop_getD {β : Type} [Inhabited β] {l : List β} {k : Nat} (h : k < l.length) : l.drop k = l.getD k default :: l.drop (k + 1) := by
  rw [List.drop_eq_getElem_cons h, List.getD, List.getElem?_eq_getElem h]
  rfl

theorem markI (a : List Int) (k : Int) (hl : a.length ≤ 100000000) (h0 : 0 ≤ k) (h1 : k ≤ 1000000000000000) : M.laws_markIntS a k = some (k + (a.length : Int), upsK k a.length) := by
  unfold M.laws_markIntS
  rw [iter_up (s := (a, k, (0 : Int))) (step := M.laws_markIntS_l0) (e := (upsK k a.length, k + (a.length : Int))) (fun j => (upsK k j ++ a.drop j, k + (j : Int), (j : Int))) a.length (by simp [upsK]) (by omega) (fun j hj => by
    unfold M.laws_markIntS_l0
    try dsimp only
    have e0 : (upsK k j ++ a.drop j).length = a.length := by simp [upsK_len]; omega
    have e2 : (upsK k j ++ a.drop j).set j (k + (j : Int)) = upsK k (j + 1) ++ a.drop (j + 1) := by
      rw [drop_getD hj]
      have := set_mark (P := upsK k j) (x := a.getD j default) (R := a.drop (j + 1)) (y := k + (j : Int))
      rw [upsK_len] at this
      rw [this, upsK_succ, List.append_assoc]
      rfl
    rw [e0, decide_eq_true (by omega), cond_true, asrt_pos ⟨by omega, by omega⟩, Int.toNat_natCast, e2, wrap64_id (by omega) (by omega), wrap64_id (by omega) (by omega), cast_succ, Int.add_assoc]) (by
    unfold M.laws_markIntS_l0
    try dsimp only
    rw [List.drop_eq_nil_of_le (Nat.le_refl _), List.append_nil, upsK_len, decide_eq_false (by omega), cond_false])]
  rfl
theorem heldI (n : Nat) (k : Int) (hl : n ≤ 100000000) (h0 : 0 ≤ k) (h1 : k ≤ 1000000000000000) : M.laws_heldIntS (upsK k n) k = some (k + (n : Int)) := by
  unfold M.laws_heldIntS
  rw [iter_up (s := (k, (0 : Int))) (step := M.laws_heldIntS_l0 (upsK k n)) (e := .inl (k + (n : Int))) (fun j => (k + (j : Int), (j : Int))) n (by simp) (by omega) (fun j hj => by
    unfold M.laws_heldIntS_l0
    try dsimp only
    rw [upsK_len, decide_eq_true (by omega), cond_true, asrt_pos ⟨by omega, by omega⟩, Int.toNat_natCast, upsK_getD hj, bne_self_eq_false, cond_false, wrap64_id (by omega) (by omega), wrap64_id (by omega) (by omega), cast_succ, Int.add_assoc]) (by
    unfold M.laws_heldIntS_l0
    try dsimp only
    rw [upsK_len, decide_eq_false (by omega), cond_false])]
  rfl

theorem getD_mark {β : Type} [Inhabited β] {P R : List β} {x : β} : (P ++ x :: R).getD P.length default = x := by simp [List.getD]
def offI (l : List (List Int)) : Int := ((l.map fun r => r.length).sum : Nat)
def mkII : Int → List (List Int) → List (List Int)
  | _, [] => []
  | k, r :: t => upsK k r.length :: mkII (k + (r.length : Int)) t
theorem offI_cons {r : List Int} {t : List (List Int)} : offI (r :: t) = (r.length : Int) + offI t := by simp [offI]
theorem offI_snoc {l : List (List Int)} {r : List Int} : offI (l ++ [r]) = offI l + (r.length : Int) := by simp [offI]
theorem mkII_len : ∀ {l : List (List Int)} {k : Int}, (mkII k l).length = l.length
  | [], _ => rfl
  | r :: t, k => by rw [mkII, List.length_cons, List.length_cons, mkII_len]
theorem mkII_snoc : ∀ {l : List (List Int)} {k : Int} {r : List Int}, mkII k (l ++ [r]) = mkII k l ++ [upsK (k + offI l) r.length]
  | [], k, r => by
    rw [show offI [] = 0 from rfl, Int.add_zero]
    rfl
  | d :: t, k, r => by
    rw [List.cons_append, mkII, mkII, mkII_snoc, offI_cons, List.cons_append]
    congr 4
    omega
theorem offI_bd {l : List (List Int)} (hl : ∀ r ∈ l, r.length ≤ 1000) : ∀ v, v ≤ l.length → 0 ≤ offI (l.take v) ∧ offI (l.take v) ≤ 1000 * (v : Int)
  | 0, _ => by simp [offI]
  | v + 1, h => by
    have h1 := offI_bd hl v (by omega)
    have h2 := hl _ (getD_mem (show v < l.length by omega))
    rw [take_succ_getD (by omega), offI_snoc]
    omega
theorem mkII_getD {l : List (List Int)} {k : Int} {v : Nat} (h : v < l.length) : (mkII k l).getD v default = upsK (k + offI (l.take v)) (l.getD v default).length := by
  have e : l = l.take v ++ (l.getD v default :: l.drop (v + 1)) := by rw [← drop_getD h, List.take_append_drop]
  have key : ∀ (P : List (List Int)) (x : List Int) (R : List (List Int)) (k : Int), (mkII k (P ++ x :: R)).getD P.length default = upsK (k + offI P) x.length := by
    intro P
    induction P with
    | nil => intro x R k; rw [show offI [] = 0 from rfl, Int.add_zero]; rfl
    | cons d P ih =>
      intro x R k
      rw [List.cons_append, mkII, List.length_cons, List.getD_cons_succ, ih, offI_cons]
      congr 1
      omega
  have h2 := key (l.take v) (l.getD v default) (l.drop (v + 1)) k
  rw [← e, List.length_take, Nat.min_eq_left (by omega)] at h2
  exact h2
theorem markII (l : List (List Int)) (hl1 : l.length ≤ 1000000) (hl : ∀ r ∈ l, r.length ≤ 1000) : M.laws_markIntSS l 1 = some (1 + offI l, mkII 1 l) := by
  unfold M.laws_markIntSS
  rw [iter_up (s := (l, (1 : Int), (0 : Int))) (step := M.laws_markIntSS_l0) (e := (mkII 1 l, 1 + offI l)) (fun j => (mkII 1 (l.take j) ++ l.drop j, 1 + offI (l.take j), (j : Int))) l.length (by simp [mkII, offI]) (by omega) (fun j hj => by
    have hb := offI_bd hl j (by omega)
    have hr := hl _ (getD_mem hj)
    have hP : (mkII 1 (l.take j)).length = j := by rw [mkII_len, List.length_take]; omega
    have s1 := set_mark (P := mkII 1 (l.take j)) (R := l.drop (j + 1)) (x := l.getD j default) (y := upsK (1 + offI (l.take j)) (l.getD j default).length)
    have s2 := getD_mark (P := mkII 1 (l.take j)) (R := l.drop (j + 1)) (x := l.getD j default)
    rw [hP] at s1 s2
    unfold M.laws_markIntSS_l0
    try dsimp only
    rw [drop_getD hj, Int.toNat_natCast, s2, decide_eq_true (by rw [List.length_append, List.length_cons, hP, List.length_drop]; omega), cond_true, asrt_pos ⟨by omega, by rw [List.length_append, List.length_cons, hP, List.length_drop]; omega⟩, markI _ _ (by omega) (by omega) (by omega), Option.bind_some, asrt_pos upsK_len]
    try dsimp only
    rw [s1, wrap64_id (n := (j : Int) + 1) (by omega) (by omega), take_succ_getD hj, mkII_snoc, offI_snoc, cast_succ, List.append_assoc, Int.add_assoc]
    rfl) (by
    unfold M.laws_markIntSS_l0
    try dsimp only
    rw [List.drop_eq_nil_of_le (Nat.le_refl _), List.append_nil, List.take_of_length_le (Nat.le_refl _), mkII_len, decide_eq_false (by omega), cond_false])]
  rfl
theorem heldII (l : List (List Int)) (hl1 : l.length ≤ 1000000) (hl : ∀ r ∈ l, r.length ≤ 1000) : M.laws_heldIntSS (mkII 1 l) 1 = some (1 + offI l) := by
  unfold M.laws_heldIntSS
  rw [iter_up (s := ((1 : Int), (0 : Int))) (step := M.laws_heldIntSS_l0 (mkII 1 l)) (e := .inl (1 + offI l)) (fun j => (1 + offI (l.take j), (j : Int))) l.length (by simp [offI]) (by omega) (fun j hj => by
    have hb := offI_bd hl j (by omega)
    have hr := hl _ (getD_mem hj)
    unfold M.laws_heldIntSS_l0
    try dsimp only
    rw [mkII_len, decide_eq_true (by omega), cond_true, asrt_pos ⟨by omega, by omega⟩, Int.toNat_natCast, mkII_getD hj, heldI _ _ (by omega) (by omega) (by omega), Option.bind_some, decide_eq_false (by omega), cond_false, wrap64_id (n := (j : Int) + 1) (by omega) (by omega), take_succ_getD hj, offI_snoc, cast_succ, Int.add_assoc]) (by
    unfold M.laws_heldIntSS_l0
    try dsimp only
    rw [mkII_len, decide_eq_false (by omega), cond_false, List.take_of_length_le (Nat.le_refl _)])]
  rfl
theorem e_eqIntSS {l : List (List Int)} (hl1 : l.length ≤ 1000000) (hl : ∀ r ∈ l, r.length ≤ 1000) : M.laws_eqIntSS l l = some true := by
  unfold M.laws_eqIntSS
  rw [bne_self_eq_false, cond_false, iter_up (s := (0 : Int)) (e := .inl ()) (fun k => (k : Int)) l.length rfl (by omega)]
  · rfl
  · intro k hk
    have hr := hl _ (getD_mem hk)
    unfold M.laws_eqIntSS_l0
    simp (disch := first | omega | (intros; simp only [decide_eq_true_eq, decide_eq_false_iff_not, Bool.not_eq_true, Bool.not_eq_false, Bool.not_true, Bool.not_false] at *; omega)) only [cast_succ, asrt_pos, wrap64_id, Option.bind_some, cond_true, cond_false, decide_eq_true, decide_eq_false, Int.toNat_natCast, Bool.not_true, Bool.not_false, Bool.and_true, Bool.true_and, Bool.and_false, Bool.false_and, Bool.or_true, Bool.true_or, Bool.or_false, Bool.false_or, eqIS _ (show (l.getD k default).length ≤ 1048576 by omega)]
  · unfold M.laws_eqIntSS_l0
    simp (disch := first | omega | (intros; simp only [decide_eq_true_eq, decide_eq_false_iff_not, Bool.not_eq_true, Bool.not_eq_false, Bool.not_true, Bool.not_false] at *; omega)) only [cast_succ, asrt_pos, wrap64_id, Option.bind_some, cond_true, cond_false, decide_eq_true, decide_eq_false, Int.toNat_natCast, Bool.not_true, Bool.not_false, Bool.and_true, Bool.true_and, Bool.and_false, Bool.false_and, Bool.or_true, Bool.true_or, Bool.or_false, Bool.false_or]

theorem BrkD_len {l : List Hand} : (BrkD l).1.length ≤ 1000000 ∧ ∀ r ∈ (BrkD l).1, r.length ≤ 1000 := by
  unfold BrkD
  cases h : custOk l
  · exact ⟨by show 0 ≤ 1000000; omega, fun r hr => by cases hr⟩
  · have h12 := (custOk_spec h).2
    have hpl := prs_len (l := l)
    refine ⟨?_, fun r hr => ?_⟩
    · show (((prs l).filter (sealP l)).map encP).length ≤ 1000000
      rw [List.length_map]
      have := List.length_filter_le (sealP l) (prs l)
      omega
    · obtain ⟨p, _, rfl⟩ := List.mem_map.1 (show r ∈ ((prs l).filter (sealP l)).map encP from hr)
      show 2 ≤ 1000
      omega

theorem law_FnExactBrokenSeals (l : List Hand) (h1 : l.length ≤ 9223372036854775807) : M.laws_FnExactBrokenSeals l = some true := by
  unfold M.laws_FnExactBrokenSeals
  by_cases hl : l.length ≤ 1048576
  · have hb := BrkD_len (l := l)
    have ho : 0 ≤ offI (BrkD l).1 := by unfold offI; omega
    rw [szHS l hl, Option.bind_some, decide_eq_false (by omega), cond_false]
    simp only [toHS l hl, brkI l hl, brkS l hl, e_eqIntSS hb.1 hb.2, eqHS l hl, Option.bind_some, beq_self_eq_true, Bool.not_true, Bool.or_self, cond_false]
    obtain ⟨⟨k, a'⟩, e1, g1, g2⟩ := markHS l hl
    simp only at g1 g2
    rw [e1, Option.bind_some, asrt_pos g2, decide_eq_false (by omega), cond_false, Option.bind_some]
    simp only [Bool.not_true, Bool.or_self, cond_false, markII _ hb.1 hb.2, Option.bind_some, mkII_len, heldII _ hb.1 hb.2, bne_self_eq_false]
    rw [asrt_pos trivial, decide_eq_false (by omega)]
    rfl
  · rw [szHS' l hl h1]
    rfl
end Go.Proofs.Ytpmjemddofcmaaa
