/-
  Cartons whose lists are told by marks: what is written into a list of cartons and whether it is held. Plain.
-/
import Derived.Test.YtfebeomnlkfgoaaEb
set_option linter.unusedSimpArgs false
set_option linter.unusedVariables false
namespace Go.Proofs.Ytfebeomnlkfgoaa
open Go.VS

def upsK (k : Int) (n : Nat) : List Int := (List.range n).map fun i : Nat => k + (i : Int)
theorem upsK_len {k : Int} {n : Nat} : (upsK k n).length = n := by simp [upsK]
theorem upsK_getD {k : Int} {n j : Nat} (h : j < n) : (upsK k n).getD j default = k + (j : Int) := by simp [upsK, List.getD, h]
theorem upsK_succ {k : Int} {n : Nat} : upsK k (n + 1) = upsK k n ++ [k + (n : Int)] := by
  unfold upsK
  rw [List.range_succ, List.map_append]
  rfl
theorem set_mark {β : Type} {P R : List β} {x y : β} : (P ++ x :: R).set P.length y = P ++ y :: R := by
  rw [List.set_append_right _ _ (Nat.le_refl _), Nat.sub_self, List.set_cons_zero]
theorem drop_getD {β : Type} [Inhabited β] {l : List β} {k : Nat} (h : k < l.length) : l.drop k = l.getD k default :: l.drop (k + 1) := by
  rw [List.drop_eq_getElem_cons h, List.getD, List.getElem?_eq_getElem h]
  rfl

theorem markI (a : List Int) (k : Int) (hl : a.length ≤ 100000000) (h0 : 0 ≤ k) (h1 : k ≤ 1000000000000000) : M.laws_markIntS a k = some (k + (a.length : Int), upsK k a.length) := by
  unfold M.laws_markIntS
  rw [iter_up (s := (a, k, (0 : Int))) (step := M.laws_markIntS_l0) (e := (upsK k a.length, k + (a.length : Int))) (fun j => (upsK k j ++ a.drop j, k + (j : Int), (j : Int))) a.length (by simp [upsK]) (by omega) (fun j hj => by
    unfold M.laws_markIntS_l0
    try dsimp only
    have e0 : (upsK k j ++ a.drop j).length = a.length := by simp [upsK_len]; omega
    have e2 : (upsK k j ++ a.drop j).set j (k + (j : Int)) = upsK k (j + 1) ++ a.drop (j + 1) := by
      rw [drop_getD hj]
      have := set_mark (P := upsK k j) (x := a.getD j default) (R := a.drop (j + 1)) (y := k + (j : Int))
      rw [upsK_len] at this
      rw [this, upsK_succ, List.append_assoc]
      rfl
    rw [e0, decide_eq_true (by omega), cond_true, asrt_pos ⟨by omega, by omega⟩, Int.toNat_natCast, e2, wrap64_id (by omega) (by omega), wrap64_id (by omega) (by omega), cast_succ, Int.add_assoc]) (by
    unfold M.laws_markIntS_l0
    try dsimp only
    rw [List.drop_eq_nil_of_le (Nat.le_refl _), List.append_nil, upsK_len, decide_eq_false (by omega), cond_false])]
  rfl
theorem heldI (n : Nat) (k : Int) (hl : n ≤ 100000000) (h0 : 0 ≤ k) (h1 : k ≤ 1000000000000000) : M.laws_heldIntS (upsK k n) k = some (k + (n : Int)) := by
  unfold M.laws_heldIntS
  rw [iter_up (s := (k, (0 : Int))) (step := M.laws_heldIntS_l0 (upsK k n)) (e := .inl (k + (n : Int))) (fun j => (k + (j : Int), (j : Int))) n (by simp) (by omega) (fun j hj => by
    unfold M.laws_heldIntS_l0
    try dsimp only
    rw [upsK_len, decide_eq_true (by omega), cond_true, asrt_pos ⟨by omega, by omega⟩, Int.toNat_natCast, upsK_getD hj, bne_self_eq_false, cond_false, wrap64_id (by omega) (by omega), wrap64_id (by omega) (by omega), cast_succ, Int.add_assoc]) (by
    unfold M.laws_heldIntS_l0
    try dsimp only
    rw [upsK_len, decide_eq_false (by omega), cond_false])]
  rfl

/-! ### Cartons -/
def mkC (k : Int) (c : Carton) : Carton := ⟨k, k + 1, k + 2, upsK (k + 3) c.Files.length, k + 3 + (c.Files.length : Int)⟩
def offC (l : List Carton) : Int := 4 * (l.length : Int) + (bulk l : Int)
def mkCS : Int → List Carton → List Carton
  | _, [] => []
  | k, c :: t => mkC k c :: mkCS (k + 4 + (c.Files.length : Int)) t
theorem offC_nil : offC [] = 0 := rfl
theorem offC_cons {c : Carton} {t : List Carton} : offC (c :: t) = 4 + (c.Files.length : Int) + offC t := by
  unfold offC bulk
  simp only [List.length_cons, List.map_cons, List.sum_cons]
  omega
theorem mkCS_len : ∀ {l : List Carton} {k : Int}, (mkCS k l).length = l.length
  | [], _ => rfl
  | c :: t, k => by rw [mkCS, List.length_cons, List.length_cons, mkCS_len]
theorem mkCS_snoc : ∀ {l : List Carton} {k : Int} {c : Carton}, mkCS k (l ++ [c]) = mkCS k l ++ [mkC (k + offC l) c]
  | [], k, c => by
    rw [offC_nil, Int.add_zero]
    rfl
  | d :: t, k, c => by
    rw [List.cons_append, mkCS, mkCS, mkCS_snoc, offC_cons, List.cons_append]
    congr 4
    omega
theorem offC_snoc {l : List Carton} {c : Carton} : offC (l ++ [c]) = offC l + 4 + (c.Files.length : Int) := by
  unfold offC bulk
  simp only [List.length_append, List.map_append, List.sum_append, List.length_cons, List.length_nil, List.map_cons, List.map_nil, List.sum_cons, List.sum_nil]
  omega
theorem offC_bd {l : List Carton} (hl : Small l) : ∀ v, v ≤ l.length → 0 ≤ offC (l.take v) ∧ offC (l.take v) ≤ 1048580 * (v : Int)
  | 0, _ => by simp [offC, bulk]
  | v + 1, h => by
    have h1 := offC_bd hl v (by omega)
    have h2 := hl.2 _ (getD_mem (show v < l.length by omega))
    rw [take_succ_getD (by omega), offC_snoc]
    omega
theorem mkCS_getD {l : List Carton} {k : Int} {v : Nat} (h : v < l.length) : (mkCS k l).getD v default = mkC (k + offC (l.take v)) (l.getD v default) := by
  have e : l = l.take v ++ (l.getD v default :: l.drop (v + 1)) := by rw [← drop_getD h, List.take_append_drop]
  have key : ∀ (P : List Carton) (x : Carton) (R : List Carton) (k : Int), (mkCS k (P ++ x :: R)).getD P.length default = mkC (k + offC P) x := by
    intro P
    induction P with
    | nil => intro x R k; rw [offC_nil, Int.add_zero]; rfl
    | cons d P ih =>
      intro x R k
      rw [List.cons_append, mkCS, List.length_cons, List.getD_cons_succ, ih, offC_cons]
      congr 1
      omega
  have h2 := key (l.take v) (l.getD v default) (l.drop (v + 1)) k
  rw [← e, List.length_take, Nat.min_eq_left (by omega)] at h2
  exact h2
