/-
  Cartons whose lists are told by marks: what is written is held; the exact laws of empty cartons and of pull lists. Plain.
-/
import Derived.Test.YtfebeomnlkfgoaaDp
set_option linter.unusedSimpArgs false
set_option linter.unusedVariables false
namespace Go.Proofs.Ytfebeomnlkfgoaa
open Go.VS

theorem getD_mark {β : Type} [Inhabited β] {P R : List β} {x : β} : (P ++ x :: R).getD P.length default = x := by simp [List.getD]
theorem mk_step {P R : List Carton} {x : Carton} {k : Int} (h0 : 0 ≤ k) (h1 : k ≤ 900000000000000) (hx : x.Files.length ≤ 1048576) (hl : P.length + (R.length + 1) ≤ 1048576) : M.laws_markCartonS_l0 (P ++ x :: R, k, (P.length : Int)) = some (.inl (P ++ mkC k x :: R, k + 4 + (x.Files.length : Int), (P.length : Int) + 1)) := by
  unfold M.laws_markCartonS_l0
  try dsimp only
  simp only [Int.toNat_natCast, set_mark, getD_mark, List.length_append, List.length_cons]
  rw [decide_eq_true (by omega), cond_true, asrt_pos ⟨by omega, by omega⟩, asrt_pos ⟨by omega, by omega⟩, asrt_pos ⟨by omega, by omega⟩, asrt_pos ⟨by omega, by omega⟩]
  rw [wrap64_id (n := k + 1) (by omega) (by omega), wrap64_id (n := k + 1 + 1) (by omega) (by omega), wrap64_id (n := k + 1 + 1 + 1) (by omega) (by omega), show k + 1 + 1 + 1 = k + 3 by omega, show k + 1 + 1 = k + 2 by omega]
  rw [markI _ _ (by omega) (by omega) (by omega), Option.bind_some, asrt_pos upsK_len, asrt_pos ⟨by omega, by omega⟩]
  try dsimp only
  rw [wrap64_id (n := k + 3 + (x.Files.length : Int) + 1) (by omega) (by omega), wrap64_id (n := (P.length : Int) + 1) (by omega) (by omega), show k + 3 + (x.Files.length : Int) + 1 = k + 4 + (x.Files.length : Int) by omega]
  rfl
theorem markC (l : List Carton) (hl : Small l) : M.laws_markCartonS l 1 = some (1 + offC l, mkCS 1 l) := by
  have hl1 := hl.1
  unfold M.laws_markCartonS
  rw [iter_up (s := (l, (1 : Int), (0 : Int))) (step := M.laws_markCartonS_l0) (e := (mkCS 1 l, 1 + offC l)) (fun j => (mkCS 1 (l.take j) ++ l.drop j, 1 + offC (l.take j), (j : Int))) l.length (by simp [mkCS, offC_nil]) (by omega) (fun j hj => by
    have hb := offC_bd hl j (by omega)
    have hP : (mkCS 1 (l.take j)).length = j := by rw [mkCS_len, List.length_take]; omega
    have := mk_step (P := mkCS 1 (l.take j)) (R := l.drop (j + 1)) (x := l.getD j default) (k := 1 + offC (l.take j)) (by omega) (by omega) (hl.2 _ (getD_mem hj)) (by rw [hP, List.length_drop]; omega)
    rw [hP] at this
    rw [drop_getD hj, this, take_succ_getD hj, mkCS_snoc, offC_snoc, cast_succ, List.append_assoc]
    congr 4
    omega) (by
    unfold M.laws_markCartonS_l0
    try dsimp only
    rw [List.drop_eq_nil_of_le (Nat.le_refl _), List.append_nil, List.take_of_length_le (Nat.le_refl _), mkCS_len, decide_eq_false (by omega), cond_false])]
  rfl
theorem heldC (l : List Carton) (hl : Small l) : M.laws_heldCartonS (mkCS 1 l) 1 = some (1 + offC l) := by
  have hl1 := hl.1
  unfold M.laws_heldCartonS
  rw [iter_up (s := ((1 : Int), (0 : Int))) (step := M.laws_heldCartonS_l0 (mkCS 1 l)) (e := .inl (1 + offC l)) (fun j => (1 + offC (l.take j), (j : Int))) l.length (by simp [offC_nil]) (by omega) (fun j hj => by
    have hb := offC_bd hl j (by omega)
    have hf := hl.2 _ (getD_mem hj)
    unfold M.laws_heldCartonS_l0
    try dsimp only
    rw [mkCS_len, decide_eq_true (by omega), cond_true, asrt_pos ⟨by omega, by omega⟩, Int.toNat_natCast, mkCS_getD hj]
    unfold mkC
    try dsimp only
    rw [bne_self_eq_false, cond_false, asrt_pos ⟨by omega, by omega⟩, wrap64_id (n := 1 + offC (l.take j) + 1) (by omega) (by omega), bne_self_eq_false, cond_false, asrt_pos ⟨by omega, by omega⟩, wrap64_id (n := 1 + offC (l.take j) + 1 + 1) (by omega) (by omega), show 1 + offC (l.take j) + 1 + 1 = 1 + offC (l.take j) + 2 by omega, bne_self_eq_false, cond_false, asrt_pos ⟨by omega, by omega⟩, wrap64_id (n := 1 + offC (l.take j) + 2 + 1) (by omega) (by omega), show 1 + offC (l.take j) + 2 + 1 = 1 + offC (l.take j) + 3 by omega, heldI _ _ (by omega) (by omega) (by omega), Option.bind_some, decide_eq_false (by omega), cond_false, asrt_pos ⟨by omega, by omega⟩, bne_self_eq_false, cond_false, wrap64_id (n := 1 + offC (l.take j) + 3 + ((l.getD j default).Files.length : Int) + 1) (by omega) (by omega), wrap64_id (n := (j : Int) + 1) (by omega) (by omega), take_succ_getD hj, offC_snoc, cast_succ]
    congr 3
    omega) (by
    unfold M.laws_heldCartonS_l0
    try dsimp only
    rw [mkCS_len, decide_eq_false (by omega), cond_false, List.take_of_length_le (Nat.le_refl _)])]
  rfl

/-! ### Tables of numbers -/
def offI (l : List (List Int)) : Int := ((l.map fun r => r.length).sum : Nat)
def mkII : Int → List (List Int) → List (List Int)
  | _, [] => []
  | k, r :: t => upsK k r.length :: mkII (k + (r.length : Int)) t
theorem offI_cons {r : List Int} {t : List (List Int)} : offI (r :: t) = (r.length : Int) + offI t := by simp [offI]
theorem offI_snoc {l : List (List Int)} {r : List Int} : offI (l ++ [r]) = offI l + (r.length : Int) := by simp [offI]
theorem mkII_len : ∀ {l : List (List Int)} {k : Int}, (mkII k l).length = l.length
  | [], _ => rfl
  | r :: t, k => by rw [mkII, List.length_cons, List.length_cons, mkII_len]
theorem mkII_snoc : ∀ {l : List (List Int)} {k : Int} {r : List Int}, mkII k (l ++ [r]) = mkII k l ++ [upsK (k + offI l) r.length]
  | [], k, r => by
    rw [show offI [] = 0 from rfl, Int.add_zero]
    rfl
  | d :: t, k, r => by
    rw [List.cons_append, mkII, mkII, mkII_snoc, offI_cons, List.cons_append]
    congr 4
    omega
theorem offI_bd {l : List (List Int)} (hl : ∀ r ∈ l, r.length ≤ 1000) : ∀ v, v ≤ l.length → 0 ≤ offI (l.take v) ∧ offI (l.take v) ≤ 1000 * (v : Int)
  | 0, _ => by simp [offI]
  | v + 1, h => by
    have h1 := offI_bd hl v (by omega)
    have h2 := hl _ (getD_mem (show v < l.length by omega))
    rw [take_succ_getD (by omega), offI_snoc]
    omega
theorem mkII_getD {l : List (List Int)} {k : Int} {v : Nat} (h : v < l.length) : (mkII k l).getD v default = upsK (k + offI (l.take v)) (l.getD v default).length := by
  have e : l = l.take v ++ (l.getD v default :: l.drop (v + 1)) := by rw [← drop_getD h, List.take_append_drop]
  have key : ∀ (P : List (List Int)) (x : List Int) (R : List (List Int)) (k : Int), (mkII k (P ++ x :: R)).getD P.length default = upsK (k + offI P) x.length := by
    intro P
    induction P with
    | nil => intro x R k; rw [show offI [] = 0 from rfl, Int.add_zero]; rfl
    | cons d P ih =>
      intro x R k
      rw [List.cons_append, mkII, List.length_cons, List.getD_cons_succ, ih, offI_cons]
      congr 1
      omega
  have h2 := key (l.take v) (l.getD v default) (l.drop (v + 1)) k
  rw [← e, List.length_take, Nat.min_eq_left (by omega)] at h2
  exact h2
theorem offC_all {l : List Carton} (hl : Small l) : 0 ≤ offC l ∧ offC l ≤ 1099600000000 := by
  have h := offC_bd hl l.length (Nat.le_refl _)
  have := hl.1
  rw [List.take_of_length_le (Nat.le_refl _)] at h
  omega

end Go.Proofs.Ytfebeomnlkfgoaa
