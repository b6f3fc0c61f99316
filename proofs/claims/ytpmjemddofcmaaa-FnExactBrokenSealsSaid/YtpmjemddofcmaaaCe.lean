/-
  The exact laws of custody: what the program and the reference answer is the same, and their rows are their own. Plain.
-/
import Derived.Test.YtpmjemddofcmaaaCu
set_option linter.unusedSimpArgs false
set_option linter.unusedVariables false
namespace Go.Proofs.Ytpmjemddofcmaaa
open Go.VS

theorem szHS (a : List Hand) (h : a.length ≤ 1048576) : M.laws_szHandS a 1048576 = some (1048576 - (a.length : Int)) := by
  unfold M.laws_szHandS
  rw [wrap64_id (by omega) (by omega), decide_eq_false (by omega), cond_false]
theorem szHS' (a : List Hand) (h : ¬ a.length ≤ 1048576) (h2 : a.length ≤ 9223372036854775807) : M.laws_szHandS a 1048576 = some (-1) := by
  unfold M.laws_szHandS
  rw [wrap64_id (by omega) (by omega), decide_eq_true (by omega), cond_true]

theorem toHS (a : List Hand) (h : a.length ≤ 1048576) : M.laws_toHandS a = some a := by
  unfold M.laws_toHandS
  rw [asrt_pos ⟨by omega, by omega, by omega⟩, Int.toNat_natCast]
  rw [iter_up (s := (List.replicate a.length (⟨0, 0, 0, 0, 0, false⟩ : Hand), (0 : Int))) (step := M.laws_toHandS_l0 a) (e := a) (fun k => (a.take k ++ List.replicate (a.length - k) ⟨0, 0, 0, 0, 0, false⟩, (k : Int))) a.length (by simp) (by omega) (fun k hk => by
    unfold M.laws_toHandS_l0 M.laws_toHand
    try dsimp only
    have e1 : a.length - k = (a.length - (k + 1)) + 1 := by omega
    have e2 : (a.take k ++ List.replicate (a.length - k) (⟨0, 0, 0, 0, 0, false⟩ : Hand)).set k (a.getD k default) = a.take (k + 1) ++ List.replicate (a.length - (k + 1)) ⟨0, 0, 0, 0, 0, false⟩ := by
      have hk2 : (a.take k).length = k := by rw [List.length_take]; omega
      rw [List.set_append_right _ _ (by omega), hk2, Nat.sub_self, e1, List.replicate_succ, List.set_cons_zero, take_succ_getD hk, List.append_assoc]
      rfl
    rw [decide_eq_true (by omega), cond_true, asrt_pos ⟨by omega, by omega⟩, Option.bind_some, asrt_pos ⟨by omega, by simp; omega⟩, Int.toNat_natCast, wrap64_id (by omega) (by omega), cast_succ, ← e2]) (by
    unfold M.laws_toHandS_l0
    simp)]
  rfl

theorem eqIS (a : List Int) (hl : a.length ≤ 1048576) : M.laws_eqIntS a a = some true := by
  unfold M.laws_eqIntS
  simp only [bne_self_eq_false, cond_false]
  rw [iter_up (s := 0) (step := M.laws_eqIntS_l0 a a) (e := .inl ()) (fun k => (k : Int)) a.length rfl (by omega) (fun k hk => by
    unfold M.laws_eqIntS_l0
    simp (disch := first | omega | (intros; simp only [decide_eq_true_eq, decide_eq_false_iff_not, Bool.not_eq_true, Bool.not_eq_false, Bool.not_true, Bool.not_false] at *; omega)) only [cast_succ, asrt_pos, wrap64_id, Option.bind_some, cond_true, cond_false, decide_eq_true, decide_eq_false, Int.toNat_natCast, Bool.not_true, Bool.not_false, Bool.and_true, Bool.true_and, Bool.and_false, Bool.false_and, Bool.or_true, Bool.true_or, Bool.or_false, Bool.false_or, bne_self_eq_false]) (by
    unfold M.laws_eqIntS_l0
    simp (disch := first | omega | (intros; simp only [decide_eq_true_eq, decide_eq_false_iff_not, Bool.not_eq_true, Bool.not_eq_false, Bool.not_true, Bool.not_false] at *; omega)) only [cast_succ, asrt_pos, wrap64_id, Option.bind_some, cond_true, cond_false, decide_eq_true, decide_eq_false, Int.toNat_natCast, Bool.not_true, Bool.not_false, Bool.and_true, Bool.true_and, Bool.and_false, Bool.false_and, Bool.or_true, Bool.true_or, Bool.or_false, Bool.false_or])]
  rfl
theorem eqH (h : Hand) : M.laws_eqHand h h = some true := by
  unfold M.laws_eqHand
  simp
theorem eqHS (a : List Hand) (hl : a.length ≤ 1048576) : M.laws_eqHandS a a = some true := by
  unfold M.laws_eqHandS
  simp only [bne_self_eq_false, cond_false]
  rw [iter_up (s := 0) (step := M.laws_eqHandS_l0 a a) (e := .inl ()) (fun k => (k : Int)) a.length rfl (by omega) (fun k hk => by
    unfold M.laws_eqHandS_l0
    simp (disch := first | omega | (intros; simp only [decide_eq_true_eq, decide_eq_false_iff_not, Bool.not_eq_true, Bool.not_eq_false, Bool.not_true, Bool.not_false] at *; omega)) only [cast_succ, asrt_pos, wrap64_id, Option.bind_some, cond_true, cond_false, decide_eq_true, decide_eq_false, Int.toNat_natCast, Bool.not_true, Bool.not_false, Bool.and_true, Bool.true_and, Bool.and_false, Bool.false_and, Bool.or_true, Bool.true_or, Bool.or_false, Bool.false_or, eqH]) (by
    unfold M.laws_eqHandS_l0
    simp (disch := first | omega | (intros; simp only [decide_eq_true_eq, decide_eq_false_iff_not, Bool.not_eq_true, Bool.not_eq_false, Bool.not_true, Bool.not_false] at *; omega)) only [cast_succ, asrt_pos, wrap64_id, Option.bind_some, cond_true, cond_false, decide_eq_true, decide_eq_false, Int.toNat_natCast, Bool.not_true, Bool.not_false, Bool.and_true, Bool.true_and, Bool.and_false, Bool.false_and, Bool.or_true, Bool.true_or, Bool.or_false, Bool.false_or])]
  rfl

theorem markHS (a : List Hand) (hl : a.length ≤ 1048576) : T (M.laws_markHandS a 1) (fun r => 0 ≤ r.1 ∧ r.2.length = a.length) := by
  unfold M.laws_markHandS
  refine T.then (Q := fun r => 0 ≤ r.2 ∧ r.1.length = a.length) (T_iter (fun s => ∃ v : Nat, s.2.2 = (v : Int) ∧ v ≤ a.length ∧ s.2.1 = 1 + 6 * (v : Int) ∧ s.1.length = a.length) (fun s => a.length - s.2.2.toNat) _ ⟨0, rfl, by omega, rfl, rfl⟩ (by simp only; omega) ?_) (fun r hr => T_ret hr)
  rintro ⟨b, _, _⟩ ⟨v, rfl, h1, rfl, h2⟩
  simp only at h2
  unfold M.laws_markHandS_l0
  try dsimp only
  refine T_if (fun hq => ?_) (fun hq => T_ret ⟨by simp only; omega, h2⟩)
  simp only [decide_eq_true_eq] at hq
  refine T_ask ⟨by omega, hq⟩ (T_ask ⟨by omega, by rw [List.length_set]; exact hq⟩ (T_ask ⟨by omega, by rw [List.length_set]; exact hq⟩ (T_ask ⟨by omega, by rw [List.length_set]; exact hq⟩ (T_ask ⟨by omega, by rw [List.length_set]; exact hq⟩ (T_ask ⟨by omega, by rw [List.length_set]; exact hq⟩ (T_ret ?_))))))
  simp only
  have w : ∀ x : Int, 0 ≤ x → x ≤ 100000000 → IntKind.i64.wrap (x + 1) = x + 1 := fun x g1 g2 => wrap64_id (by omega) (by omega)
  have b0 : (0 : Int) ≤ 1 + 6 * (v : Int) ∧ 1 + 6 * (v : Int) ≤ 10000000 := by omega
  refine ⟨⟨v + 1, ?_, by omega, ?_, by rw [List.length_set]; exact h2⟩, ?_⟩
  · rw [w _ (by omega) (by omega)]; omega
  · rw [w (1 + 6 * (v : Int)) (by omega) (by omega), w (1 + 6 * (v : Int) + 1) (by omega) (by omega), w (1 + 6 * (v : Int) + 1 + 1) (by omega) (by omega), w (1 + 6 * (v : Int) + 1 + 1 + 1) (by omega) (by omega), w (1 + 6 * (v : Int) + 1 + 1 + 1 + 1) (by omega) (by omega), w (1 + 6 * (v : Int) + 1 + 1 + 1 + 1 + 1) (by omega) (by omega)]
    omega
  · rw [w _ (by omega) (by omega)]; omega

def ups (n : Nat) : List Int := (List.range n).map fun i : Nat => 1 + (i : Int)
theorem ups_len {n : Nat} : (ups n).length = n := by simp [ups]
theorem ups_getD {n k : Nat} (h : k < n) : (ups n).getD k default = 1 + (k : Int) := by simp [ups, List.getD, h]
theorem markIS (a : List Int) (hl : a.length ≤ 1048576) : M.laws_markIntS a 1 = some (1 + (a.length : Int), ups a.length) := by
  unfold M.laws_markIntS
  rw [iter_up (s := (a, (1 : Int), (0 : Int))) (step := M.laws_markIntS_l0) (e := (ups a.length, 1 + (a.length : Int))) (fun k => (ups k ++ a.drop k, 1 + (k : Int), (k : Int))) a.length (by simp [ups]) (by omega) (fun k hk => by
    unfold M.laws_markIntS_l0
    try dsimp only
    have e0 : (ups k ++ a.drop k).length = a.length := by simp [ups_len]; omega
    have e2 : (ups k ++ a.drop k).set k (1 + (k : Int)) = ups (k + 1) ++ a.drop (k + 1) := by
      rw [List.set_append_right _ _ (by rw [ups_len]; omega), ups_len, Nat.sub_self, List.drop_eq_getElem_cons hk, List.set_cons_zero]
      unfold ups
      rw [List.range_succ, List.map_append]
      simp
    rw [e0, decide_eq_true (by omega), cond_true, asrt_pos ⟨by omega, by omega⟩, Int.toNat_natCast, e2, wrap64_id (by omega) (by omega), wrap64_id (by omega) (by omega), cast_succ, Int.add_assoc]) (by
    unfold M.laws_markIntS_l0
    try dsimp only
    rw [List.drop_eq_nil_of_le (Nat.le_refl _), List.append_nil, ups_len, decide_eq_false (by omega), cond_false])]
  rfl
theorem heldIS (n : Nat) (hl : n ≤ 1048576) : M.laws_heldIntS (ups n) 1 = some (1 + (n : Int)) := by
  unfold M.laws_heldIntS
  rw [iter_up (s := ((1 : Int), (0 : Int))) (step := M.laws_heldIntS_l0 (ups n)) (e := .inl (1 + (n : Int))) (fun k => (1 + (k : Int), (k : Int))) n rfl (by omega) (fun k hk => by
    unfold M.laws_heldIntS_l0
    try dsimp only
    rw [ups_len, decide_eq_true (by omega), cond_true, asrt_pos ⟨by omega, by omega⟩, Int.toNat_natCast, ups_getD hk, bne_self_eq_false, cond_false, wrap64_id (by omega) (by omega), wrap64_id (by omega) (by omega), cast_succ, Int.add_assoc]) (by
    unfold M.laws_heldIntS_l0
    try dsimp only
    rw [ups_len, decide_eq_false (by omega), cond_false])]
  rfl

theorem HeldD_len {l : List Hand} {w d : Int} (hl : l.length ≤ 1048576) : (HeldD l w d).1.length ≤ 1048576 := by
  unfold HeldD
  cases (custOk l && inR w 1 20) && inR d 0 20000
  · simp
  · simp only [cond_true]
    refine Nat.le_trans once_len ?_
    rw [List.length_map]
    exact Nat.le_trans (List.length_filter_le _ _) hl

end Go.Proofs.Ytpmjemddofcmaaa
