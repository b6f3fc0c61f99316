/-
  FnPages: tables of series, files split, pages added, the law. Plain.
-/
import Derived.Test.YteocnbeefedbkaaDoorFb
import Derived.Test.YteocnbeefedbkaaDoorLi
set_option linter.unusedSimpArgs false
set_option linter.unusedVariables false
namespace Go.Proofs.YteocnbeefedbkaaDoor
open Go.VS

/-! ### Sums over files -/
def smI {β : Type} (g : β → Int) : List β → Int
  | [] => 0
  | x :: l => g x + smI g l
theorem smI_append {β : Type} (g : β → Int) : ∀ (a b : List β), smI g (a ++ b) = smI g a + smI g b
  | [], b => by simp [smI]
  | x :: a, b => by rw [List.cons_append, smI, smI, smI_append g a b]; omega
theorem smI_set {β : Type} [Inhabited β] (g : β → Int) : ∀ (l : List β) (k : Nat) (v : β), k < l.length → smI g (l.set k v) = smI g l - g (l.getD k default) + g v
  | [], k, v, h => by simp at h
  | x :: l, 0, v, h => by simp [smI]; omega
  | x :: l, k + 1, v, h => by
    have := smI_set g l k v (by simpa using h)
    simp only [List.set_cons_succ, smI, List.getD_cons_succ]
    omega
theorem smI_bd {β : Type} (g : β → Int) (m : Int) : ∀ (l : List β), (∀ x ∈ l, 0 ≤ g x ∧ g x ≤ m) → 0 ≤ smI g l ∧ smI g l ≤ (l.length : Int) * m
  | [], _ => by simp [smI]
  | x :: l, h => by
    have h1 := h x (List.mem_cons_self ..)
    have h2 := smI_bd g m l (fun y hy => h y (List.mem_cons_of_mem _ hy))
    simp only [smI, List.length_cons]
    rw [cast_succ, Int.add_mul, Int.one_mul]
    omega
theorem smI_pos {β : Type} (g : β → Int) : ∀ (l : List β), (∀ x ∈ l, 0 ≤ g x) → (0 < smI g l ↔ ∃ x ∈ l, 0 < g x)
  | [], _ => by simp [smI]
  | x :: l, h => by
    have h1 := h x (List.mem_cons_self ..)
    have h2 := smI_pos g l (fun y hy => h y (List.mem_cons_of_mem _ hy))
    have h3 : 0 ≤ smI g l := by
      have key : ∀ l' : List β, (∀ y ∈ l', 0 ≤ g y) → 0 ≤ smI g l' := by
        intro l'
        induction l' with
        | nil => intro _; exact Int.le_refl _
        | cons y l' ih =>
          intro hh
          have := ih (fun z hz => hh z (List.mem_cons_of_mem _ hz))
          have := hh y (List.mem_cons_self ..)
          simp only [smI]; omega
      exact key l (fun y hy => h y (List.mem_cons_of_mem _ hy))
    simp only [smI]
    constructor
    · intro hp
      by_cases hx : 0 < g x
      · exact ⟨x, List.mem_cons_self .., hx⟩
      · obtain ⟨y, hy, hg⟩ := h2.1 (by omega)
        exact ⟨y, List.mem_cons_of_mem _ hy, hg⟩
    · rintro ⟨y, hy, hg⟩
      rcases List.mem_cons.1 hy with e | e
      · subst e; omega
      · have := h2.2 ⟨y, e, hg⟩; omega
def cN (s : Int) (f : File) : Int := bif f.Series == s then 1 else 0
def cP (s : Int) (f : File) : Int := bif f.Series == s then f.Pages else 0
def serRow (l : List File) (s : Int) : List Int := [s, smI (cN s) l, smI (cP s) l]
theorem cN_ge (s : Int) (f : File) : 0 ≤ cN s f ∧ cN s f ≤ 1 := by unfold cN; cases f.Series == s <;> decide
theorem cN_pos {l : List File} {s : Int} : 0 < smI (cN s) l ↔ ∃ f ∈ l, f.Series = s := by
  rw [smI_pos _ _ (fun x _ => (cN_ge s x).1)]
  constructor
  · rintro ⟨f, hf, h⟩
    refine ⟨f, hf, ?_⟩
    unfold cN at h
    cases e : f.Series == s
    · rw [e] at h; simp at h
    · exact eq_of_beq e
  · rintro ⟨f, hf, h⟩
    refine ⟨f, hf, ?_⟩
    unfold cN
    rw [h, beq_self_eq_true]
    decide
/-- A table of series. -/
def TabOk (l : List File) (rows : List (List Int)) : Prop := ∃ ks : List Int, ks.Pairwise (· < ·) ∧ (∀ s, s ∈ ks ↔ 0 < smI (cN s) l) ∧ rows = ks.map (serRow l)
theorem TabOk.uniq {l : List File} {a b : List (List Int)} (ha : TabOk l a) (hb : TabOk l b) : a = b := by
  obtain ⟨ka, a1, a2, rfl⟩ := ha
  obtain ⟨kb, b1, b2, rfl⟩ := hb
  rw [strict_ext a1 b1 (fun y => (a2 y).trans (b2 y).symm)]
theorem serRow_same {l : List File} {f : File} {s : Int} (h : f.Series ≠ s) : serRow (l ++ [f]) s = serRow l s := by
  unfold serRow
  rw [smI_append, smI_append]
  have e : (f.Series == s) = false := by rw [beq_eq_false_iff_ne]; exact h
  simp [smI, cN, cP, e]
theorem serRow_own {l : List File} {f : File} : serRow (l ++ [f]) f.Series = [f.Series, smI (cN f.Series) l + 1, smI (cP f.Series) l + f.Pages] := by
  unfold serRow
  rw [smI_append, smI_append]
  simp [smI, cN, cP]
theorem serRow_zero {l : List File} {s : Int} (h : ¬ 0 < smI (cN s) l) : serRow l s = [s, 0, 0] := by
  have h0 := (smI_bd (cN s) 1 l (fun x _ => cN_ge s x)).1
  have hz : smI (cP s) l = 0 := by
    rw [cN_pos] at h
    have key : ∀ m : List File, (∀ f ∈ m, f.Series ≠ s) → smI (cP s) m = 0 := by
      intro m
      induction m with
      | nil => intro _; rfl
      | cons x m ih =>
        intro hm
        have hx := hm x (List.mem_cons_self ..)
        have e : (x.Series == s) = false := by rw [beq_eq_false_iff_ne]; exact hx
        simp only [smI, cP, e, cond_false]
        rw [show smI (cP s) m = 0 from ih (fun f hf => hm f (List.mem_cons_of_mem _ hf))]
        rfl
    exact key l (fun f hf e => h ⟨f, hf, e⟩)
  unfold serRow
  rw [hz, show smI (cN s) l = 0 by omega]

/-! ### The program's table -/
theorem gAl {β : Type} [Inhabited β] {a b : List β} {k : Nat} (h : k < a.length) : (a ++ b).getD k default = a.getD k default := by simp [List.getD, List.getElem?_append_left h]
theorem gAr {β : Type} [Inhabited β] {a b : List β} {k : Nat} (h : a.length ≤ k) : (a ++ b).getD k default = b.getD (k - a.length) default := by simp [List.getD, List.getElem?_append_right h]
theorem half_id {i j : Int} (h0 : 0 ≤ i) (h1 : i ≤ j) (h2 : j < 1000000) : IntKind.i64.wrap (Int.fdiv (IntKind.u64.wrap (IntKind.i64.wrap (i + j))) (2 ^ (min (Int.toNat (1 : Int)) IntKind.u64.bits))) = (i + j) / 2 := by
  have e1 : IntKind.i64.wrap (i + j) = i + j := wrap64_id (by omega) (by omega)
  have e2 : IntKind.u64.wrap (i + j) = i + j := by
    unfold IntKind.wrap
    simp [IntKind.signed, IntKind.bits]
    omega
  have e3 : (2 ^ (min (Int.toNat (1 : Int)) IntKind.u64.bits) : Int) = 2 := by decide
  rw [e1, e2, e3, Int.fdiv_eq_ediv_of_nonneg _ (by omega), wrap64_id (by omega) (by omega)]
theorem cmpRowI (r : List Int) (s : Int) (h : 0 < r.length) : M.impl_SeriesPages_1 r s = some (cmpZ (r.getD 0 default) s) := by
  unfold M.impl_SeriesPages_1
  rw [asrt_pos ⟨by omega, by omega⟩, cmpZI]
  rfl
theorem cmpZ_zero (x y : Int) : (cmpZ x y == 0) = (x == y) := by
  unfold cmpZ
  by_cases h1 : x < y
  · have : (x == y) = false := by rw [beq_eq_false_iff_ne]; omega
    simp [h1, this]
  · by_cases h2 : y < x
    · have : (x == y) = false := by rw [beq_eq_false_iff_ne]; omega
      simp [h1, h2, this]
    · have : x = y := by omega
      simp [this]
theorem binRow (s : Int) (a b : List (List Int)) (hr : ∀ x ∈ a ++ b, 0 < x.length) (ha : ∀ x ∈ a, x.getD 0 default < s) (hb : ∀ x ∈ b, ¬ x.getD 0 default < s) (hl : (a ++ b).length < 1000000) :
    M.slices_BinarySearchFunc_int_int_int (a ++ b) s (fun x0 x1 => M.impl_SeriesPages_1 x0 x1) = some ((a.length : Int), bif decide (0 < b.length) then (b.getD 0 default).getD 0 default == s else false) := by
  have hla : (a ++ b).length = a.length + b.length := List.length_append
  have loop : iterO (M.slices_BinarySearchFunc_int_int_int_l0 (a ++ b) s (fun x0 x1 => M.impl_SeriesPages_1 x0 x1)) ((0 : Int), ((a ++ b).length : Int)) = some (a.length : Int) := by
    apply T.eq
    refine T_iter (fun s => 0 ≤ s.1 ∧ s.1 ≤ (a.length : Int) ∧ (a.length : Int) ≤ s.2 ∧ s.2 ≤ ((a ++ b).length : Int)) (fun s => (s.2 - s.1).toNat) _ ⟨Int.le_refl _, by simp only; omega, by simp only; omega, Int.le_refl _⟩ (by simp only; omega) ?_
    rintro ⟨i, j⟩ ⟨h1, h2, h3, h4⟩
    simp only at h1 h2 h3 h4
    unfold M.slices_BinarySearchFunc_int_int_int_l0
    dsimp only
    rw [half_id (by omega) (by omega) (by omega)]
    refine T_if (fun hq => ?_) (fun hq => ?_)
    · simp only [decide_eq_true_eq] at hq
      obtain ⟨m, hm⟩ := Int.eq_ofNat_of_zero_le (show 0 ≤ (i + j) / 2 by omega)
      rw [hm]
      have hmr : i ≤ (m : Int) ∧ (m : Int) < j := by omega
      refine T_in (T_ask ⟨by omega, by omega⟩ ?_)
      simp only [Int.toNat_natCast]
      rw [cmpRowI _ _ (hr _ (getD_mem (by omega))), Option.bind_some]
      refine T_if (fun hp => ?_) (fun hp => ?_)
      · simp only [decide_eq_true_eq, cmpZ_neg] at hp
        have : (m : Int) < a.length := by
          by_cases q : m < a.length
          · omega
          · rw [gAr (by omega)] at hp
            exact absurd hp (hb _ (getD_mem (by omega)))
        rw [wrap64_id (by omega) (by omega)]
        exact T_ret (T_ret ⟨⟨by simp only; omega, by simp only; omega, by simp only; omega, by simp only; omega⟩, by simp only; omega⟩)
      · simp only [decide_eq_false_iff_not, cmpZ_neg] at hp
        have : (a.length : Int) ≤ m := by
          by_cases q : m < a.length
          · rw [gAl q] at hp
            exact absurd (ha _ (getD_mem q)) hp
          · omega
        exact T_ret (T_ret ⟨⟨by simp only; omega, by simp only; omega, by simp only; omega, by simp only; omega⟩, by simp only; omega⟩)
    · simp only [decide_eq_false_iff_not] at hq
      exact T_ret (by simp only; omega)
  unfold M.slices_BinarySearchFunc_int_int_int
  rw [loop, Option.bind_some]
  by_cases hn : 0 < b.length
  · have e1 : (a ++ b).getD a.length default = b.getD 0 default := by rw [gAr (Nat.le_refl _), Nat.sub_self]
    have e2 : 0 < (b.getD 0 default).length := hr _ (List.mem_append_right _ (getD_mem hn))
    simp (disch := first | omega | (intros; simp only [decide_eq_true_eq, decide_eq_false_iff_not, Bool.not_eq_true, Bool.not_eq_false, Bool.not_true, Bool.not_false] at *; omega)) only [cast_succ, asrt_pos, wrap64_id, Option.bind_some, cond_true, cond_false, decide_eq_true, decide_eq_false, Int.toNat_natCast, Bool.not_true, Bool.not_false, Bool.and_true, Bool.true_and, Bool.and_false, Bool.false_and, Bool.or_true, Bool.true_or, Bool.or_false, Bool.false_or, cmpRowI _ _ e2, e1, cmpZ_zero]
  · simp (disch := first | omega | (intros; simp only [decide_eq_true_eq, decide_eq_false_iff_not, Bool.not_eq_true, Bool.not_eq_false, Bool.not_true, Bool.not_false] at *; omega)) only [cast_succ, asrt_pos, wrap64_id, Option.bind_some, cond_true, cond_false, decide_eq_true, decide_eq_false, Int.toNat_natCast, Bool.not_true, Bool.not_false, Bool.and_true, Bool.true_and, Bool.and_false, Bool.false_and, Bool.or_true, Bool.true_or, Bool.or_false, Bool.false_or]
    exact asrt_pos (fun h => by cases h)
/-- Keys below a number, and the others. -/
theorem keys_split {ks : List Int} (h : ks.Pairwise (· < ·)) (s : Int) : ∃ a b, ks = a ++ b ∧ (∀ x ∈ a, x < s) ∧ (∀ x ∈ b, s ≤ x) := by
  induction ks with
  | nil => exact ⟨[], [], rfl, fun _ h => (by cases h), fun _ h => (by cases h)⟩
  | cons x ks ih =>
    rw [List.pairwise_cons] at h
    obtain ⟨a, b, rfl, h1, h2⟩ := ih h.2
    by_cases hx : x < s
    · refine ⟨x :: a, b, rfl, fun y hy => ?_, h2⟩
      rcases List.mem_cons.1 hy with e | e
      · rw [e]; exact hx
      · exact h1 y e
    · refine ⟨[], x :: (a ++ b), rfl, fun _ h => (by cases h), fun y hy => ?_⟩
      rcases List.mem_cons.1 hy with e | e
      · omega
      · have := h.1 y e; omega
theorem set_mid {β : Type} {a b : List β} {x y : β} : (a ++ x :: b).set a.length y = a ++ y :: b := by
  rw [List.set_append_right _ _ (Nat.le_refl _), Nat.sub_self, List.set_cons_zero]
theorem get_mid {β : Type} [Inhabited β] {a b : List β} {x : β} : (a ++ x :: b).getD a.length default = x := by
  rw [gAr (Nat.le_refl _), Nat.sub_self]; rfl
def tlS (rows2 : List (List Int)) (i_ q_ : Int) : Option (List (List Int)) :=
  (asrt ((0 : Int) ≤ i_ ∧ i_ < (rows2.length : Int)) <|
        asrt ((0 : Int) ≤ (1 : Int) ∧ (1 : Int) < ((rows2.getD (Int.toNat i_) default).length : Int)) <|
        asrt ((0 : Int) ≤ (1 : Int) ∧ (1 : Int) < ((rows2.getD (Int.toNat i_) default).length : Int)) <|
        asrt ((0 : Int) ≤ i_ ∧ i_ < ((rows2.set (Int.toNat i_) ((rows2.getD (Int.toNat i_) default).set (Int.toNat (1 : Int)) (IntKind.i64.wrap (((rows2.getD (Int.toNat i_) default).getD (Int.toNat (1 : Int)) default) + (1 : Int))))).length : Int)) <|
        asrt ((0 : Int) ≤ (2 : Int) ∧ (2 : Int) < (((rows2.set (Int.toNat i_) ((rows2.getD (Int.toNat i_) default).set (Int.toNat (1 : Int)) (IntKind.i64.wrap (((rows2.getD (Int.toNat i_) default).getD (Int.toNat (1 : Int)) default) + (1 : Int))))).getD (Int.toNat i_) default).length : Int)) <|
        asrt ((0 : Int) ≤ i_ ∧ i_ < ((rows2.set (Int.toNat i_) ((rows2.getD (Int.toNat i_) default).set (Int.toNat (1 : Int)) (IntKind.i64.wrap (((rows2.getD (Int.toNat i_) default).getD (Int.toNat (1 : Int)) default) + (1 : Int))))).length : Int)) <|
        asrt ((0 : Int) ≤ (2 : Int) ∧ (2 : Int) < (((rows2.set (Int.toNat i_) ((rows2.getD (Int.toNat i_) default).set (Int.toNat (1 : Int)) (IntKind.i64.wrap (((rows2.getD (Int.toNat i_) default).getD (Int.toNat (1 : Int)) default) + (1 : Int))))).getD (Int.toNat i_) default).length : Int)) <|
        asrt ((0 : Int) ≤ (2 : Int) ∧ (2 : Int) < (((rows2.set (Int.toNat i_) ((rows2.getD (Int.toNat i_) default).set (Int.toNat (1 : Int)) (IntKind.i64.wrap (((rows2.getD (Int.toNat i_) default).getD (Int.toNat (1 : Int)) default) + (1 : Int))))).getD (Int.toNat i_) default).length : Int)) <|
        some ((rows2.set (Int.toNat i_) ((rows2.getD (Int.toNat i_) default).set (Int.toNat (1 : Int)) (IntKind.i64.wrap (((rows2.getD (Int.toNat i_) default).getD (Int.toNat (1 : Int)) default) + (1 : Int))))).set (Int.toNat i_) (((rows2.set (Int.toNat i_) ((rows2.getD (Int.toNat i_) default).set (Int.toNat (1 : Int)) (IntKind.i64.wrap (((rows2.getD (Int.toNat i_) default).getD (Int.toNat (1 : Int)) default) + (1 : Int))))).getD (Int.toNat i_) default).set (Int.toNat (2 : Int)) (IntKind.i64.wrap ((((rows2.set (Int.toNat i_) ((rows2.getD (Int.toNat i_) default).set (Int.toNat (1 : Int)) (IntKind.i64.wrap (((rows2.getD (Int.toNat i_) default).getD (Int.toNat (1 : Int)) default) + (1 : Int))))).getD (Int.toNat i_) default).getD (Int.toNat (2 : Int)) default) + q_)))))
theorem tlS_ok {rows2 : List (List Int)} {A : Nat} {s n p q : Int} (hA : A < rows2.length) (hg : rows2.getD A default = [s, n, p]) (hn : 0 ≤ n ∧ n < 100000) (hp : 0 ≤ p ∧ p < 100000000) (hq : 0 ≤ q ∧ q < 1000000) : tlS rows2 (A : Int) q = some (rows2.set A [s, n + 1, p + q]) := by
  have e1 : ([s, n, p] : List Int).getD (Int.toNat 1) default = n := rfl
  have e2 : ∀ x, ([s, n, p] : List Int).set (Int.toNat 1) x = [s, x, p] := fun _ => rfl
  have e3 : ∀ X, (rows2.set A X).getD A default = X := fun X => by simp [List.getD, hA]
  have e4 : ([s, n + 1, p] : List Int).getD (Int.toNat 2) default = p := rfl
  have e5 : ∀ x, ([s, n + 1, p] : List Int).set (Int.toNat 2) x = [s, n + 1, x] := fun _ => rfl
  unfold tlS
  simp only [Int.toNat_natCast, hg, e1, e2, wrap64_id (n := n + 1) (by omega) (by omega), e3, e4, e5, List.length_set, wrap64_id (n := p + q) (by omega) (by omega), List.set_set]
  rw [asrt_pos ⟨by omega, by omega⟩, asrt_pos ⟨by decide, by simp⟩, asrt_pos ⟨by decide, by simp⟩, asrt_pos ⟨by omega, by omega⟩, asrt_pos ⟨by decide, by simp⟩, asrt_pos ⟨by omega, by omega⟩, asrt_pos ⟨by decide, by simp⟩, asrt_pos ⟨by decide, by simp⟩]
theorem l0_eq (list : List File) (rows0 : List (List Int)) (v : Int) : M.impl_SeriesPages_l0 list (rows0, v) =
    (bif (decide (v < (list.length : Int))) then (
      ((asrt ((0 : Int) ≤ v ∧ v < (list.length : Int)) <|
      (M.slices_BinarySearchFunc_int_int_int rows0 ((list.getD (Int.toNat v) default).Series) (fun x0 x1 => M.impl_SeriesPages_1 x0 x1)).bind fun y2 =>
      ((bif (!y2.2) then ((M.slices_Insert_int_int rows0 y2.1 ([([(list.getD (Int.toNat v) default).Series, (0 : Int), (0 : Int)] : List Int)] : List (List Int))).bind fun y3 => some y3) else some rows0) : Option (List (List Int))).bind fun rows2 =>
        tlS rows2 y2.1 ((list.getD (Int.toNat v) default).Pages)) : Option (List (List Int))).bind fun rows1 => some (.inl (rows1, (IntKind.i64.wrap (v + (1 : Int))))))
    else some (.inr rows0)) := rfl
theorem serStep (l : List File) (ks : List Int) (list : List File) (k : Nat) (hk : k < list.length) (hkl : list.length < 1000000) (h1 : ks.Pairwise (· < ·)) (h2 : ∀ s, s ∈ ks ↔ 0 < smI (cN s) l) (hlen : ks.length < 100000) (hN : ∀ s, 0 ≤ smI (cN s) l ∧ smI (cN s) l < 100000) (hP : ∀ s, 0 ≤ smI (cP s) l ∧ smI (cP s) l < 100000000) (hp : 0 ≤ (list.getD k default).Pages ∧ (list.getD k default).Pages < 1000000) :
    ∃ ks' : List Int, ks'.Pairwise (· < ·) ∧ (∀ s, s ∈ ks' ↔ 0 < smI (cN s) (l ++ [list.getD k default])) ∧ ks'.length ≤ ks.length + 1 ∧ M.impl_SeriesPages_l0 list (ks.map (serRow l), (k : Int)) = some (.inl (ks'.map (serRow (l ++ [list.getD k default])), ((k + 1 : Nat) : Int))) := by
  rw [l0_eq, decide_eq_true (by omega), cond_true, asrt_pos ⟨by omega, by omega⟩, Int.toNat_natCast]
  generalize list.getD k default = f at hp ⊢
  obtain ⟨a, b, rfl, ha, hb⟩ := keys_split h1 f.Series
  have hpos : ∀ s, 0 < smI (cN s) (l ++ [f]) ↔ (0 < smI (cN s) l ∨ s = f.Series) := by
    intro s
    rw [cN_pos, cN_pos]
    constructor
    · rintro ⟨g, hg, e⟩
      rcases List.mem_append.1 hg with q | q
      · exact .inl ⟨g, q, e⟩
      · rw [List.mem_singleton.1 q] at e; exact .inr e.symm
    · rintro (⟨g, hg, e⟩ | e)
      · exact ⟨g, List.mem_append_left _ hg, e⟩
      · exact ⟨f, List.mem_append_right _ (List.mem_singleton.2 rfl), e.symm⟩
  have hbin : M.slices_BinarySearchFunc_int_int_int ((a ++ b).map (serRow l)) f.Series (fun x0 x1 => M.impl_SeriesPages_1 x0 x1) = some ((a.length : Int), bif decide (0 < b.length) then b.getD 0 default == f.Series else false) := by
    have := binRow f.Series (a.map (serRow l)) (b.map (serRow l)) (fun x hx => by
      rw [← List.map_append] at hx
      obtain ⟨s, _, rfl⟩ := List.mem_map.1 hx
      simp [serRow]) (fun x hx => by
      obtain ⟨s, hs, rfl⟩ := List.mem_map.1 hx
      exact ha s hs) (fun x hx => by
      obtain ⟨s, hs, rfl⟩ := List.mem_map.1 hx
      have := hb s hs
      show ¬ s < f.Series
      omega) (by rw [← List.map_append, List.length_map]; omega)
    rw [← List.map_append, List.length_map, List.length_map] at this
    rw [this]
    cases b with
    | nil => rfl
    | cons x b => rfl
  -- behind the search: the row of f's series is there
  have fin : ∀ b' : List Int, (a ++ f.Series :: b').Pairwise (· < ·) → tlS ((a ++ f.Series :: b').map (serRow l)) (a.length : Int) f.Pages = some ((a ++ f.Series :: b').map (serRow (l ++ [f]))) := by
    intro b' hpw
    have hal : a.length = (a.map (serRow l)).length := by rw [List.length_map]
    have hg : ((a ++ f.Series :: b').map (serRow l)).getD a.length default = serRow l f.Series := by
      rw [List.map_append, List.map_cons, hal, get_mid]
    rw [tlS_ok (s := f.Series) (n := smI (cN f.Series) l) (p := smI (cP f.Series) l) (by rw [List.length_map, List.length_append, List.length_cons]; omega) hg (hN _) (hP _) hp]
    rw [List.pairwise_append, List.pairwise_cons] at hpw
    have e1 : a.map (serRow (l ++ [f])) = a.map (serRow l) := List.map_congr_left fun s hs => serRow_same (by have := hpw.2.2 s hs f.Series (List.mem_cons_self ..); omega)
    have e2 : b'.map (serRow (l ++ [f])) = b'.map (serRow l) := List.map_congr_left fun s hs => serRow_same (by have := hpw.2.1.1 s hs; omega)
    rw [List.map_append, List.map_cons, List.map_append, List.map_cons, e1, e2, serRow_own, hal, set_mid]
  rw [hbin, Option.bind_some]
  dsimp only
  by_cases hf : ∃ b', b = f.Series :: b'
  · obtain ⟨b', rfl⟩ := hf
    refine ⟨a ++ f.Series :: b', h1, fun s => ?_, by omega, ?_⟩
    · rw [hpos, h2]
      constructor
      · exact .inl
      · rintro (h | h)
        · exact h
        · rw [h]; exact (h2 _).1 (List.mem_append_right _ (List.mem_cons_self ..))
    · rw [show (bif decide (0 < (f.Series :: b').length) then (f.Series :: b').getD 0 default == f.Series else false) = true by simp, Bool.not_true, cond_false, Option.bind_some, fin b' h1, Option.bind_some, wrap64_id (by omega) (by omega), cast_succ]
  · have hnf : (bif decide (0 < b.length) then b.getD 0 default == f.Series else false) = false := by
      cases b with
      | nil => rfl
      | cons x b =>
        have : (x == f.Series) = false := by rw [beq_eq_false_iff_ne]; exact fun e => hf ⟨b, by rw [e]⟩
        simpa using this
    have hlt : ∀ x ∈ b, f.Series < x := by
      intro x hx
      have h3 := hb x hx
      have h4 : x ≠ f.Series := by
        intro e
        subst e
        cases b with
        | nil => cases hx
        | cons y b =>
          rw [List.pairwise_append, List.pairwise_cons] at h1
          rcases List.mem_cons.1 hx with q | q
          · exact hf ⟨b, by rw [q]⟩
          · have g1 := h1.2.1.1 _ q
            have g2 := hb y (List.mem_cons_self ..)
            omega
      omega
    have hnm : ¬ 0 < smI (cN f.Series) l := by
      rw [← h2]
      intro hm
      rcases List.mem_append.1 hm with q | q
      · have := ha _ q; omega
      · have := hlt _ q; omega
    have hpw : (a ++ f.Series :: b).Pairwise (· < ·) := by
      rw [List.pairwise_append] at h1 ⊢
      refine ⟨h1.1, List.pairwise_cons.2 ⟨hlt, h1.2.1⟩, fun x hx y hy => ?_⟩
      rcases List.mem_cons.1 hy with e | e
      · rw [e]; exact ha x hx
      · exact h1.2.2 x hx y e
    refine ⟨a ++ f.Series :: b, hpw, fun s => ?_, by simp only [List.length_append, List.length_cons]; omega, ?_⟩
    · rw [hpos, ← h2]
      simp only [List.mem_append, List.mem_cons]
      constructor
      · rintro (h | h | h)
        · exact .inl (.inl h)
        · exact .inr h
        · exact .inl (.inr h)
      · rintro ((h | h) | h)
        · exact .inl h
        · exact .inr (.inr h)
        · exact .inr (.inl h)
    · have hins : M.slices_Insert_int_int ((a ++ b).map (serRow l)) (a.length : Int) [[f.Series, 0, 0]] = some ((a ++ f.Series :: b).map (serRow l)) := by
        unfold M.slices_Insert_int_int insM
        rw [asrt_pos ⟨by omega, by rw [List.length_map, List.length_append]; omega, by rw [List.length_map]; omega, rfl⟩, Int.toNat_natCast, List.map_append, List.map_append, List.map_cons, serRow_zero hnm]
        have hal : a.length = (a.map (serRow l)).length := by rw [List.length_map]
        rw [hal, List.take_left, List.drop_left, List.append_assoc]
        rfl
      rw [hnf, Bool.not_false, cond_true, hins, Option.bind_some, Option.bind_some, fin b hpw, Option.bind_some, wrap64_id (by omega) (by omega), cast_succ]
theorem cP_bd {l : List File} (h : ∀ f ∈ l, 0 ≤ f.Pages ∧ f.Pages ≤ 5000) (s : Int) : 0 ≤ smI (cP s) l ∧ smI (cP s) l ≤ (l.length : Int) * 5000 := smI_bd _ _ _ fun f hf => by
  have := h f hf
  unfold cP
  cases f.Series == s
  · simp
  · simpa using this
def TabD (l : List File) (r : List (List Int) × Bool) : Prop := (filesOk l = true ∧ r.2 = true ∧ TabOk l r.1 ∧ r.1.length ≤ 1000) ∨ (filesOk l = false ∧ r = ([], false))
theorem pages_of {l : List File} (h : FilesP l) : ∀ f ∈ l, 0 ≤ f.Pages ∧ f.Pages ≤ 5000 := fun f hf => by
  obtain ⟨k, hk, rfl⟩ := List.getElem_of_mem hf
  have := (fileOk_spec (h.ok k hk)).2.2.2.2.1
  rwa [getD_el hk] at this
theorem series_of {l : List File} (h : FilesP l) : ∀ f ∈ l, 1 ≤ f.Series ∧ f.Series ≤ 99 := fun f hf => by
  obtain ⟨k, hk, rfl⟩ := List.getElem_of_mem hf
  have := (fileOk_spec (h.ok k hk)).2.1
  rwa [getD_el hk] at this
theorem tabI (l : List File) (hl : FiB l) : T (M.impl_SeriesPages l) (TabD l) := by
  have hlen := hl.1
  unfold M.impl_SeriesPages
  rw [filesI l hl, Option.bind_some]
  cases h : filesOk l
  · exact T_ret (.inr ⟨h, rfl⟩)
  have hP := filesOk_iff.1 h
  have h10 := hP.len
  have hpg := pages_of hP
  rw [Bool.not_true, cond_false]
  refine T.then (Q := fun e => TabOk l e ∧ e.length ≤ 10) (T_iter (fun s => ∃ (k : Nat) (ks : List Int), s = (ks.map (serRow (l.take k)), (k : Int)) ∧ k ≤ l.length ∧ ks.Pairwise (· < ·) ∧ (∀ x, x ∈ ks ↔ 0 < smI (cN x) (l.take k)) ∧ ks.length ≤ k) (fun s => l.length - s.2.toNat) _ ⟨0, [], rfl, Nat.zero_le _, .nil, fun x => by simp [smI], by simp⟩ (by simp only; omega) ?_) (fun e he => T_ret (.inl ⟨h, rfl, he.1, by have := he.2; dsimp only; omega⟩))
  rintro _ ⟨k, ks, rfl, g1, g2, g3, g4⟩
  by_cases hk : k < l.length
  · have hsub : ∀ f ∈ l.take k, 0 ≤ f.Pages ∧ f.Pages ≤ 5000 := fun f hf => hpg f (List.mem_of_mem_take hf)
    have hl2 : (l.take k).length ≤ 10 := by rw [List.length_take]; omega
    obtain ⟨ks', q1, q2, q3, q4⟩ := serStep (l.take k) ks l k hk hlen g2 g3 (by omega) (fun s => by
      have := smI_bd (cN s) 1 (l.take k) (fun x _ => cN_ge s x)
      omega) (fun s => by
      have := cP_bd hsub s
      omega) (by have := hpg _ (getD_mem hk); omega)
    rw [q4, ← take_succ_getD hk]
    refine T_ret ⟨⟨k + 1, ks', rfl, by omega, q1, ?_, by omega⟩, by simp only; omega⟩
    rw [take_succ_getD hk]
    exact q2
  · have hk : k = l.length := by omega
    subst hk
    rw [l0_eq, decide_eq_false (by omega), cond_false]
    rw [List.take_length] at g3 ⊢
    exact T_ret ⟨⟨ks, g2, g3, rfl⟩, by rw [List.length_map]; omega⟩

/-! ### The reference's table -/
def ksUp (l : List File) (k : Nat) : List Int := ((List.range k).map fun i : Nat => (i : Int) + 1).filter fun s => decide (0 < smI (cN s) l)
theorem ksUp_succ {l : List File} {k : Nat} : ksUp l (k + 1) = ksUp l k ++ (bif decide (0 < smI (cN ((k : Int) + 1)) l) then [(k : Int) + 1] else []) := by
  unfold ksUp
  rw [List.range_succ, List.map_append, List.filter_append]
  congr 1
theorem ksUp_len {l : List File} {k : Nat} : (ksUp l k).length ≤ k := by
  unfold ksUp
  refine Nat.le_trans (List.length_filter_le _ _) ?_
  simp
theorem serLoopS (l : List File) (s : Int) (hl : l.length ≤ 10) (hpg : ∀ f ∈ l, 0 ≤ f.Pages ∧ f.Pages ≤ 5000) : iterO (M.spec_SeriesPages_l1 l s) ((0 : Int), (0 : Int), (0 : Int)) = some (smI (cN s) l, smI (cP s) l) := by
  refine iter_up (s := ((0 : Int), (0 : Int), (0 : Int))) (step := M.spec_SeriesPages_l1 l s) (e := (smI (cN s) l, smI (cP s) l)) (fun k => (smI (cN s) (l.take k), smI (cP s) (l.take k), (k : Int))) l.length rfl (by omega) (fun k hk => ?_) ?_
  · have hN := smI_bd (cN s) 1 (l.take k) (fun x _ => cN_ge s x)
    have hP := cP_bd (l := l.take k) (fun f hf => hpg f (List.mem_of_mem_take hf)) s
    have hl2 : (l.take k).length ≤ 10 := by rw [List.length_take]; omega
    have hq := hpg _ (getD_mem hk)
    unfold M.spec_SeriesPages_l1
    dsimp only
    rw [decide_eq_true (by omega), cond_true, asrt_pos ⟨by omega, by omega⟩, Int.toNat_natCast, asrt_pos ⟨by omega, by omega⟩, take_succ_getD hk, smI_append, smI_append, wrap64_id (n := (k : Int) + 1) (by omega) (by omega), cast_succ]
    have e1 : smI (cN s) [l.getD k default] = bif (l.getD k default).Series == s then 1 else 0 := by simp [smI, cN]
    have e2 : smI (cP s) [l.getD k default] = bif (l.getD k default).Series == s then (l.getD k default).Pages else 0 := by simp [smI, cP]
    rw [e1, e2]
    cases (l.getD k default).Series == s
    · simp only [cond_false, Option.bind_some, Int.add_zero]
    · simp only [cond_true, Option.bind_some]
      rw [wrap64_id (by omega) (by omega), wrap64_id (by omega) (by omega)]
  · unfold M.spec_SeriesPages_l1
    dsimp only
    rw [decide_eq_false (by omega), cond_false, List.take_length]
theorem tabS (l : List File) (hl : FiB l) : T (M.spec_SeriesPages l) (TabD l) := by
  have hlen := hl.1
  unfold M.spec_SeriesPages
  rw [filesS l hl, Option.bind_some]
  cases h : filesOk l
  · exact T_ret (.inr ⟨h, rfl⟩)
  have hP := filesOk_iff.1 h
  have h10 := hP.len
  have hpg := pages_of hP
  rw [Bool.not_true, cond_false, iter_up (s := (([] : List (List Int)), (1 : Int))) (step := M.spec_SeriesPages_l0 l) (e := (ksUp l 99).map (serRow l)) (fun k => ((ksUp l k).map (serRow l), (k : Int) + 1)) 99 rfl (by omega) (fun k hk => by
    have hkl := ksUp_len (l := l) (k := k)
    unfold M.spec_SeriesPages_l0
    dsimp only
    rw [decide_eq_true (by omega), cond_true, serLoopS l _ h10 hpg, Option.bind_some, wrap64_id (n := (k : Int) + 1 + 1) (by omega) (by omega), ksUp_succ, cast_succ]
    dsimp only
    obtain ⟨b, hbb⟩ : ∃ b, decide (0 < smI (cN ((k : Int) + 1)) l) = b := ⟨_, rfl⟩
    rw [hbb]
    try rw [show decide (smI (cN ((k : Int) + 1)) l > 0) = b from hbb]
    cases b
    · rw [cond_false, cond_false, Option.bind_some, List.append_nil]
    · rw [cond_true, cond_true, asrt_pos (by rw [List.length_map, List.length_singleton]; omega), Option.bind_some, List.map_append]
      rfl) (by
    unfold M.spec_SeriesPages_l0
    dsimp only
    rw [decide_eq_false (by omega), cond_false]), Option.bind_some]
  refine T_ret (.inl ⟨h, rfl, ⟨ksUp l 99, ?_, fun s => ?_, rfl⟩, ?_⟩)
  · unfold ksUp
    refine List.Pairwise.filter _ ?_
    rw [List.pairwise_map]
    exact List.pairwise_lt_range.imp (fun h => by omega)
  · unfold ksUp
    rw [List.mem_filter, List.mem_map]
    constructor
    · rintro ⟨_, h⟩
      simpa using h
    · intro h
      obtain ⟨f, hf, e⟩ := cN_pos.1 h
      have := series_of hP f hf
      exact ⟨⟨(s - 1).toNat, List.mem_range.2 (by omega), by omega⟩, by simpa using h⟩
  · have := ksUp_len (l := l) (k := 99)
    dsimp only
    rw [List.length_map]
    omega
theorem rInts_self (a : List Int) (hl : a.length < 1000000) : M.laws_rInts a a = some true := by
  unfold M.laws_rInts
  rw [bne_self_eq_false, cond_false]
  rw [iter_up (s := 0) (step := M.laws_rInts_l0 a a) (e := .inl ()) (fun k => (k : Int)) a.length rfl (by omega) (fun k hk => by
    unfold M.laws_rInts_l0
    simp (disch := first | omega | (intros; simp only [decide_eq_true_eq, decide_eq_false_iff_not, Bool.not_eq_true, Bool.not_eq_false, Bool.not_true, Bool.not_false] at *; omega)) only [cast_succ, asrt_pos, wrap64_id, Option.bind_some, cond_true, cond_false, decide_eq_true, decide_eq_false, Int.toNat_natCast, Bool.not_true, Bool.not_false, Bool.and_true, Bool.true_and, Bool.and_false, Bool.false_and, Bool.or_true, Bool.true_or, Bool.or_false, Bool.false_or, bne_self_eq_false]) (by
    unfold M.laws_rInts_l0
    simp (disch := first | omega | (intros; simp only [decide_eq_true_eq, decide_eq_false_iff_not, Bool.not_eq_true, Bool.not_eq_false, Bool.not_true, Bool.not_false] at *; omega)) only [cast_succ, asrt_pos, wrap64_id, Option.bind_some, cond_true, cond_false, decide_eq_true, decide_eq_false, Int.toNat_natCast, Bool.not_true, Bool.not_false, Bool.and_true, Bool.true_and, Bool.and_false, Bool.false_and, Bool.or_true, Bool.true_or, Bool.or_false, Bool.false_or])]
  rfl
theorem TabOk.rows {l : List File} {a : List (List Int)} (h : TabOk l a) : ∀ r ∈ a, r.length = 3 := by
  obtain ⟨ks, _, _, rfl⟩ := h
  intro r hr
  obtain ⟨s, _, rfl⟩ := List.mem_map.1 hr
  rfl
theorem rTable_self (a : List (List Int)) (hl : a.length < 1000000) (hr : ∀ r ∈ a, r.length = 3) : M.laws_rTable a a = some true := by
  unfold M.laws_rTable
  rw [bne_self_eq_false, cond_false]
  rw [iter_up (s := 0) (step := M.laws_rTable_l0 a a) (e := .inl ()) (fun k => (k : Int)) a.length rfl (by omega) (fun k hk => by
    have := hr _ (getD_mem hk)
    have h2 := rInts_self (a.getD k default) (by omega)
    unfold M.laws_rTable_l0
    simp (disch := first | omega | (intros; simp only [decide_eq_true_eq, decide_eq_false_iff_not, Bool.not_eq_true, Bool.not_eq_false, Bool.not_true, Bool.not_false] at *; omega)) only [cast_succ, asrt_pos, wrap64_id, Option.bind_some, cond_true, cond_false, decide_eq_true, decide_eq_false, Int.toNat_natCast, Bool.not_true, Bool.not_false, Bool.and_true, Bool.true_and, Bool.and_false, Bool.false_and, Bool.or_true, Bool.true_or, Bool.or_false, Bool.false_or, h2]) (by
    unfold M.laws_rTable_l0
    simp (disch := first | omega | (intros; simp only [decide_eq_true_eq, decide_eq_false_iff_not, Bool.not_eq_true, Bool.not_eq_false, Bool.not_true, Bool.not_false] at *; omega)) only [cast_succ, asrt_pos, wrap64_id, Option.bind_some, cond_true, cond_false, decide_eq_true, decide_eq_false, Int.toNat_natCast, Bool.not_true, Bool.not_false, Bool.and_true, Bool.true_and, Bool.and_false, Bool.false_and, Bool.or_true, Bool.true_or, Bool.or_false, Bool.false_or])]
  rfl

/-! ### Splitting -/
def splF (f : File) (p : Int) : File := ⟨f.Id, f.Series, f.Title, f.Opened, f.Closed, f.State, f.Pages - p⟩
def lastI (l : List File) : Int := (l.getD (l.length - 1) default).Id + 1
def newFi (l : List File) (f : File) (p : Int) (t : List UInt8) : File := ⟨lastI l, f.Series, t, f.Opened, 0, 0, p⟩
def splO (l : List File) (i p : Int) (t : List UInt8) : List File := putFi l i (splF (fileAtF l i) p) ++ [newFi l (fileAtF l i) p t]
def SplD (l : List File) (i p : Int) (t : List UInt8) : List File × Int × Bool := bif inSt l i 0 && inR p 1 ((fileAtF l i).Pages - 1) then (bif filesOk (splO l i p t) then (splO l i p t, lastI l, true) else ([], 0, false)) else ([], 0, false)
theorem splO_b {l : List File} {i p : Int} {t : List UInt8} (hl : FiB l) (hi : hasFi l i = true) (ht : t.length < 1000000) (h10 : l.length ≤ 10) : FiB (splO l i p t) := by
  have hb := put_b (f := splF (fileAtF l i) p) hl hi rfl
  unfold splO
  refine ⟨by rw [List.length_append, List.length_singleton]; unfold putFi; rw [List.length_set]; omega, fun x hx => ?_⟩
  rcases List.mem_append.1 hx with h | h
  · exact hb.2 x h
  · rw [List.mem_singleton.1 h]; exact ht
theorem put_len {l : List File} {i : Int} {f : File} : (putFi l i f).length = l.length := by unfold putFi; rw [List.length_set]
theorem put_at {l : List File} {i : Int} {f : File} (hi : hasFi l i = true) : (putFi l i f).getD (atFi l i).toNat default = f := by
  obtain ⟨g0, g1, g2, g3⟩ := atFi_spec hi
  unfold putFi
  rw [getD_setF g1, if_pos rfl]
theorem put_last {l : List File} {i : Int} {f : File} (hi : hasFi l i = true) (hf : f.Id = (fileAtF l i).Id) : ((putFi l i f).getD (l.length - 1) default).Id = (l.getD (l.length - 1) default).Id := by
  obtain ⟨g0, g1, g2, g3⟩ := atFi_spec hi
  unfold putFi
  rw [getD_setF g1]
  split
  · rename_i e
    rw [hf, ← e]
    rfl
  · rfl
theorem withinJ (n a b : Int) : M.impl_within n a b = some (inR n a b) := rfl
theorem l1InJ (x a b : Int) : M.spec_l1In x a b = some (inR x a b) := by
  unfold M.spec_l1In inR
  rw [show decide (x ≥ a) = decide (a ≤ x) from rfl]
theorem last_bd2 {l : List File} (h : FilesP l) (hn : 0 < l.length) : 1 ≤ (l.getD (l.length - 1) default).Id ∧ (l.getD (l.length - 1) default).Id ≤ 999 := (fileOk_spec (h.ok _ (by omega))).1
theorem splitI (l : List File) (i p : Int) (t : List UInt8) (hl : FiB l) (ht : t.length < 1000000) : M.impl_SplitFile l i p t = some (SplD l i p t) := by
  have hlen := hl.1
  unfold M.impl_SplitFile SplD M.slices_Clone_impl_File_impl_File
  rw [inStI l i 0 hl, Option.bind_some]
  dsimp only
  cases h : inSt l i 0
  · rw [asrt_pos (fun h => by simp at h)]; rfl
  obtain ⟨s1, s2, s3, s4⟩ := inSt_spec h
  obtain ⟨g0, g1, g2, g3⟩ := atFi_spec s2
  have hP := filesOk_iff.1 s1
  have h10 := hP.len
  have hpg := (fileOk_spec s4).2.2.2.2.1
  have hL := last_bd2 hP (by omega)
  rw [asrt_pos (fun _ => ⟨g0, g2⟩), Bool.not_true, cond_false, withinJ, Option.bind_some, show l.getD (atFi l i).toNat default = fileAtF l i from rfl, wrap64_id (n := (fileAtF l i).Pages - 1) (by omega) (by omega), Bool.true_and]
  cases hr : inR p 1 ((fileAtF l i).Pages - 1)
  · rfl
  rw [inR_true] at hr
  rw [Bool.not_true, Bool.or_self, cond_false, cond_true, asrt_pos (by omega), Option.bind_some, asrt_pos ⟨g0, g2⟩, asrt_pos ⟨g0, g2⟩, show l.getD (atFi l i).toNat default = fileAtF l i from rfl, wrap64_id (n := (fileAtF l i).Pages - p) (by omega) (by omega)]
  rw [show l.set (atFi l i).toNat (⟨(fileAtF l i).Id, (fileAtF l i).Series, (fileAtF l i).Title, (fileAtF l i).Opened, (fileAtF l i).Closed, (fileAtF l i).State, (fileAtF l i).Pages - p⟩ : File) = putFi l i (splF (fileAtF l i) p) from rfl]
  rw [put_len, wrap64_id (n := (l.length : Int) - 1) (by omega) (by omega), show ((l.length : Int) - 1).toNat = l.length - 1 by omega, put_last (f := splF (fileAtF l i) p) s2 rfl, put_at s2, wrap64_id (n := (l.getD (l.length - 1) default).Id + 1) (by omega) (by omega)]
  rw [show putFi l i (splF (fileAtF l i) p) ++ [(⟨(l.getD (l.length - 1) default).Id + 1, (splF (fileAtF l i) p).Series, t, (splF (fileAtF l i) p).Opened, 0, 0, p⟩ : File)] = splO l i p t from rfl]
  rw [asrt_pos ⟨by omega, by omega⟩, asrt_pos ⟨g0, g2⟩, asrt_pos ⟨g0, g2⟩, asrt_pos (by rw [List.length_singleton]; omega), filesI _ (splO_b hl s2 ht h10), Option.bind_some]
  cases filesOk (splO l i p t) <;> rfl
theorem splitS (l : List File) (i p : Int) (t : List UInt8) (hl : FiB l) (ht : t.length < 1000000) : M.spec_SplitFile l i p t = some (SplD l i p t) := by
  have hlen := hl.1
  unfold M.spec_SplitFile SplD
  rw [findS l i 0 hl, Option.bind_some, findOk_st (Int.le_refl _)]
  cases h : inSt l i 0
  · rw [cond_false, asrt_pos (fun h => by simp at h)]; rfl
  obtain ⟨s1, s2, s3, s4⟩ := inSt_spec h
  obtain ⟨g0, g1, g2, g3⟩ := atFi_spec s2
  have hP := filesOk_iff.1 s1
  have h10 := hP.len
  have hpg := (fileOk_spec s4).2.2.2.2.1
  have hL := last_bd2 hP (by omega)
  rw [cond_true, decide_eq_false (by omega), asrt_pos (fun _ => ⟨g0, g2⟩), cond_false, l1InJ, Option.bind_some, show l.getD (atFi l i).toNat default = fileAtF l i from rfl, wrap64_id (n := (fileAtF l i).Pages - 1) (by omega) (by omega), Bool.true_and]
  cases hr : inR p 1 ((fileAtF l i).Pages - 1)
  · rfl
  rw [inR_true] at hr
  rw [Bool.not_true, Bool.or_self, cond_false, cond_true, asrt_pos ⟨g0, g2⟩, wrap64_id (n := (l.length : Int) - 1) (by omega) (by omega), asrt_pos ⟨by omega, by omega⟩, List.nil_append, asrt_pos (by simp only [List.length_nil]; omega), asrt_pos ⟨g0, g2⟩, wrap64_id (n := (fileAtF l i).Pages - p) (by omega) (by omega), show ((l.length : Int) - 1).toNat = l.length - 1 by omega, wrap64_id (n := (l.getD (l.length - 1) default).Id + 1) (by omega) (by omega)]
  rw [show l.set (atFi l i).toNat (⟨(fileAtF l i).Id, (fileAtF l i).Series, (fileAtF l i).Title, (fileAtF l i).Opened, (fileAtF l i).Closed, (fileAtF l i).State, (fileAtF l i).Pages - p⟩ : File) = putFi l i (splF (fileAtF l i) p) from rfl]
  rw [show putFi l i (splF (fileAtF l i) p) ++ [(⟨(l.getD (l.length - 1) default).Id + 1, (fileAtF l i).Series, t, (fileAtF l i).Opened, 0, 0, p⟩ : File)] = splO l i p t from rfl]
  rw [put_len, asrt_pos (by rw [List.length_singleton]; omega), filesS _ (splO_b hl s2 ht h10), Option.bind_some]
  cases filesOk (splO l i p t) <;> rfl
theorem spl_sums {l : List File} {i p s : Int} {t : List UInt8} (hi : hasFi l i = true) : (0 < smI (cN s) (splO l i p t) ↔ 0 < smI (cN s) l) ∧ smI (cP s) (splO l i p t) = smI (cP s) l := by
  obtain ⟨g0, g1, g2, g3⟩ := atFi_spec hi
  have h0 := (smI_bd (cN s) 1 l (fun x _ => cN_ge s x)).1
  have e1 : cN s (splF (fileAtF l i) p) = cN s (fileAtF l i) := rfl
  have e2 : cN s (newFi l (fileAtF l i) p t) = cN s (fileAtF l i) := rfl
  have hm : fileAtF l i ∈ l := getD_mem g1
  constructor
  · unfold splO putFi
    rw [smI_append, smI_set _ _ _ _ g1, show l.getD (atFi l i).toNat default = fileAtF l i from rfl, e1]
    simp only [smI, e2]
    have h1 := cN_ge s (fileAtF l i)
    constructor
    · intro h
      by_cases hz : 0 < cN s (fileAtF l i)
      · exact (smI_pos _ _ (fun x _ => (cN_ge s x).1)).2 ⟨_, hm, hz⟩
      · omega
    · intro h; omega
  · unfold splO putFi
    rw [smI_append, smI_set _ _ _ _ g1, show l.getD (atFi l i).toNat default = fileAtF l i from rfl]
    simp only [smI]
    unfold cP newFi splF
    simp only
    cases (fileAtF l i).Series == s
    · simp
    · simp only [cond_true]; omega

/-! ### Pages added -/
def addF (f : File) (p : Int) : File := ⟨f.Id, f.Series, f.Title, f.Opened, f.Closed, f.State, f.Pages + p⟩
def AddD (l : List File) (i p : Int) : List File × Bool := bif inSt l i 0 && inR p 1 500 then (bif filesOk (putFi l i (addF (fileAtF l i) p)) then (putFi l i (addF (fileAtF l i) p), true) else ([], false)) else ([], false)
theorem addI (l : List File) (i p : Int) (hl : FiB l) : M.impl_AddPages l i p = some (AddD l i p) := by
  have hlen := hl.1
  unfold M.impl_AddPages AddD M.slices_Clone_impl_File_impl_File
  rw [inStI l i 0 hl, Option.bind_some]
  dsimp only
  cases h : inSt l i 0
  · rfl
  obtain ⟨s1, s2, s3, s4⟩ := inSt_spec h
  obtain ⟨g0, g1, g2, g3⟩ := atFi_spec s2
  have hpg := (fileOk_spec s4).2.2.2.2.1
  rw [Bool.not_true, cond_false, withinJ, Option.bind_some, Bool.true_and]
  cases hr : inR p 1 500
  · rfl
  rw [inR_true] at hr
  have hB := put_b (f := addF (fileAtF l i) p) hl s2 rfl
  rw [Bool.not_true, Bool.or_self, cond_false, cond_true, asrt_pos (by omega), Option.bind_some, asrt_pos ⟨g0, g2⟩, asrt_pos ⟨g0, g2⟩, show l.getD (atFi l i).toNat default = fileAtF l i from rfl, wrap64_id (n := (fileAtF l i).Pages + p) (by omega) (by omega)]
  rw [show l.set (atFi l i).toNat (⟨(fileAtF l i).Id, (fileAtF l i).Series, (fileAtF l i).Title, (fileAtF l i).Opened, (fileAtF l i).Closed, (fileAtF l i).State, (fileAtF l i).Pages + p⟩ : File) = putFi l i (addF (fileAtF l i) p) from rfl, filesI _ hB, Option.bind_some]
  cases filesOk (putFi l i (addF (fileAtF l i) p)) <;> rfl
theorem addS (l : List File) (i p : Int) (hl : FiB l) : M.spec_AddPages l i p = some (AddD l i p) := by
  have hlen := hl.1
  unfold M.spec_AddPages AddD
  rw [findS l i 0 hl, Option.bind_some, findOk_st (Int.le_refl _)]
  cases h : inSt l i 0
  · rfl
  obtain ⟨s1, s2, s3, s4⟩ := inSt_spec h
  obtain ⟨g0, g1, g2, g3⟩ := atFi_spec s2
  have hpg := (fileOk_spec s4).2.2.2.2.1
  rw [cond_true, decide_eq_false (by omega), cond_false, l1InJ, Option.bind_some, Bool.true_and]
  cases hr : inR p 1 500
  · rfl
  rw [inR_true] at hr
  have hb : (addF (fileAtF l i) p).Title.length < 1000000 := (hl.2 _ (getD_mem g1) : (l.getD (atFi l i).toNat default).Title.length < 1000000)
  have hw := withS l i (addF (fileAtF l i) p) hl s2 hb
  rw [Bool.not_true, Bool.or_self, cond_false, cond_true, asrt_pos ⟨g0, g2⟩, show l.getD (atFi l i).toNat default = fileAtF l i from rfl, wrap64_id (n := (fileAtF l i).Pages + p) (by omega) (by omega)]
  rw [show (⟨(fileAtF l i).Id, (fileAtF l i).Series, (fileAtF l i).Title, (fileAtF l i).Opened, (fileAtF l i).Closed, (fileAtF l i).State, (fileAtF l i).Pages + p⟩ : File) = addF (fileAtF l i) p from rfl, hw, Option.bind_some]
theorem addD_b {l : List File} {i p : Int} (hl : FiB l) : FiB (AddD l i p).1 := by
  unfold AddD
  cases h : inSt l i 0
  · exact nilB
  cases inR p 1 500
  · exact nilB
  rw [Bool.and_self, cond_true]
  cases filesOk (putFi l i (addF (fileAtF l i) p))
  · exact nilB
  · exact put_b hl (inSt_spec h).2.1 rfl
theorem splD_b {l : List File} {i p : Int} {t : List UInt8} (hl : FiB l) (ht : t.length < 1000000) : FiB (SplD l i p t).1 := by
  unfold SplD
  cases h : inSt l i 0
  · exact nilB
  cases inR p 1 ((fileAtF l i).Pages - 1)
  · exact nilB
  rw [Bool.and_self, cond_true]
  cases filesOk (splO l i p t)
  · exact nilB
  · exact splO_b hl (inSt_spec h).2.1 ht (filesOk_iff.1 (inSt_spec h).1).len

/-! ### Closed on days: the reference -/
theorem insStepS (list P : List File) (i : Nat) (hi : i < list.length) (hl : list.length < 1000000) (hP : P.length < 1000000) : iterO (M.spec_ClosedSince_l1 list P (i : Int)) (P.length : Int) = some ((insPosF P (list.getD i default) P.length : Nat) : Int) := by
  apply T.eq
  refine T_iter (fun k0 => ∃ k : Nat, k0 = (k : Int) ∧ k ≤ P.length ∧ insPosF P (list.getD i default) k = insPosF P (list.getD i default) P.length) (fun k0 => k0.toNat) _ ⟨P.length, rfl, Nat.le_refl _, rfl⟩ (by (first | omega | (simp only; omega) | (dsimp only; omega) | (simp; omega))) ?_
  rintro _ ⟨k, rfl, h1, h2⟩
  unfold M.spec_ClosedSince_l1
  dsimp only
  cases k with
  | zero =>
    rw [asrt_pos (fun h => by simp at h), asrt_pos (fun h => by simp at h), decide_eq_false (by omega), Bool.false_and, cond_false]
    refine T_ret ?_
    rw [← h2]
    rfl
  | succ k =>
    rw [wrap64_id (n := ((k + 1 : Nat) : Int) - 1) (by omega) (by omega), show ((k + 1 : Nat) : Int) - 1 = (k : Int) by omega, Int.toNat_natCast, Int.toNat_natCast, decide_eq_true (show ((k + 1 : Nat) : Int) > 0 by omega), Bool.true_and]
    refine T_ask (fun _ => ⟨by omega, by omega⟩) (T_ask (fun _ => ⟨by omega, by omega⟩) (T_if (fun hq => T_ret ⟨⟨k, rfl, by omega, ?_⟩, by (first | omega | (simp only; omega) | (dsimp only; omega) | (simp; omega))⟩) (fun hq => T_ret ?_)))
    · rw [decide_eq_true_eq] at hq
      rw [← h2]
      conv => rhs; unfold insPosF
      rw [if_pos hq]
    · rw [decide_eq_false_iff_not] at hq
      rw [← h2]
      conv => rhs; unfold insPosF
      rw [if_neg hq]
theorem insPosF_le {P : List File} {x : File} : ∀ k, insPosF P x k ≤ k
  | 0 => Nat.le_refl _
  | k + 1 => by
    unfold insPosF
    split
    · have := insPosF_le (P := P) (x := x) k; omega
    · exact Nat.le_refl _
theorem closedS (l : List File) (a b : Int) (hl : FiB l) : M.spec_ClosedSince l a b = some (ClosedD l a b) := by
  have hlen := hl.1
  unfold M.spec_ClosedSince ClosedD M.spec_l2Day
  rw [filesS l hl, Option.bind_some]
  cases h : filesOk l
  · rfl
  have hP := filesOk_iff.1 h
  have h10 := hP.len
  simp only [Bool.not_true, cond_false, Bool.false_or, l1InJ, Option.bind_some, Bool.true_and]
  have hd : daysF a b = (inR b 0 20000 && inR a 0 b) := by
    rw [Bool.eq_iff_iff]
    unfold daysF
    simp only [Bool.and_eq_true, inR_true, decide_eq_true_eq]
    omega
  rw [hd]
  cases inR b 0 20000
  · rfl
  cases inR a 0 b
  · rfl
  simp only [Bool.not_true, cond_false, Option.bind_some, Bool.or_self, Bool.and_self, cond_true]
  rw [iter_up (s := (([] : List File), (0 : Int))) (step := M.spec_ClosedSince_l0 l a b) (e := srtF (l.filter (selF a b))) (fun k => (srtF ((l.take k).filter (selF a b)), (k : Int))) l.length (by simp [srtF]) (by omega) (fun k hk => by
    have hs : (srtF ((l.take k).filter (selF a b))).length ≤ 10 := by
      rw [srtF_len]
      have := List.length_filter_le (selF a b) (l.take k)
      rw [List.length_take] at this
      omega
    unfold M.spec_ClosedSince_l0
    dsimp only
    rw [decide_eq_true (by omega), cond_true, asrt_pos ⟨by omega, by omega⟩, Int.toNat_natCast, asrt_pos (fun _ => ⟨by omega, by omega⟩), l1InJ, take_succ_getD hk, List.filter_append, wrap64_id (n := (k : Int) + 1) (by omega) (by omega), cast_succ]
    have fl : ∀ x : File, [x].filter (selF a b) = bif selF a b x then [x] else [] := fun x => by cases h : selF a b x <;> simp [h]
    have esel : selF a b (l.getD k default) = (!((l.getD k default).State == 0) && inR (l.getD k default).Closed a b) := rfl
    cases hz : (l.getD k default).State == 0
    · cases hr : inR (l.getD k default).Closed a b
      · rw [fl, esel, hz, hr, Bool.and_false, cond_false, cond_false, List.append_nil]
        rfl
      · rw [fl, esel, hz, hr, Bool.not_false, Bool.and_self, cond_true, srtF_snoc]
        have hle := insPosF_le (P := srtF ((l.take k).filter (selF a b))) (x := l.getD k default) (srtF ((l.take k).filter (selF a b))).length
        rw [cond_false, Option.bind_some, Bool.not_true, Bool.or_self, cond_false, insStepS l _ k hk hlen (by omega), Option.bind_some]
        try dsimp only
        have e1 : ∀ m : Nat, slc (srtF ((l.take k).filter (selF a b))) 0 (m : Int) = (srtF ((l.take k).filter (selF a b))).take m := fun m => by simp [slc]
        have e2 : ∀ m : Nat, slc (srtF ((l.take k).filter (selF a b))) (m : Int) ((srtF ((l.take k).filter (selF a b))).length : Int) = (srtF ((l.take k).filter (selF a b))).drop m := fun m => by simp [slc]
        rw [e1, e2, asrt_pos ⟨by omega, by omega, by omega⟩, asrt_pos (by simp only [List.length_nil, List.length_take]; omega), asrt_pos ⟨by omega, by omega⟩, asrt_pos (by simp only [List.length_append, List.length_nil, List.length_cons, List.length_take]; omega), asrt_pos ⟨by omega, by omega, by omega⟩, asrt_pos (by simp only [List.length_append, List.length_nil, List.length_cons, List.length_take, List.length_drop]; omega), Option.bind_some]
        unfold insF
        simp
    · rw [fl, esel, hz, Bool.not_true, Bool.false_and, cond_false, List.append_nil]
      rfl) (by
    unfold M.spec_ClosedSince_l0
    dsimp only
    rw [decide_eq_false (by omega), cond_false, List.take_length]), Option.bind_some]
  try dsimp only
  have hs : (srtF (l.filter (selF a b))).length ≤ 10 := by
    rw [srtF_len]
    exact Nat.le_trans (List.length_filter_le _ _) h10
  generalize srtF (l.filter (selF a b)) = D at hs ⊢
  rw [iter_up (s := (([] : List Int), (0 : Int))) (step := M.spec_ClosedSince_l2 D) (e := D.map (·.Id)) (fun k => ((D.take k).map (·.Id), (k : Int))) D.length rfl (by omega) (fun k hk => by
    unfold M.spec_ClosedSince_l2
    dsimp only
    rw [decide_eq_true (by omega), cond_true, asrt_pos ⟨by omega, by omega⟩, asrt_pos (by simp only [List.length_map, List.length_take, List.length_cons, List.length_nil]; omega), Int.toNat_natCast, take_succ_getD hk, List.map_append, wrap64_id (by omega) (by omega), cast_succ]
    rfl) (by
    unfold M.spec_ClosedSince_l2
    dsimp only
    rw [decide_eq_false (by omega), cond_false, List.take_length]), Option.bind_some]
theorem closed_len {l : List File} {a b : Int} (hl : FiB l) : (ClosedD l a b).1.length < 1000000 := by
  unfold ClosedD
  have := hl.1
  have h2 := List.length_filter_le (selF a b) l
  cases filesOk l && daysF a b
  · simp
  · simp only [cond_true, List.length_map, srtF_len]; omega
theorem closed_more {l : List File} {a b : Int} (h : (ClosedD l a b).2 = true) : (ClosedD l 0 b).2 = true ∧ (ClosedD l a b).1.length ≤ (ClosedD l 0 b).1.length := by
  unfold ClosedD at h ⊢
  cases h1 : filesOk l
  · rw [h1] at h; cases h
  cases h2 : daysF a b
  · rw [h1, h2] at h; cases h
  have hd := h2
  unfold daysF at hd
  simp only [Bool.and_eq_true, inR_true, decide_eq_true_eq] at hd
  have h3 : daysF 0 b = true := by
    unfold daysF
    simp only [Bool.and_eq_true, inR_true, decide_eq_true_eq]
    omega
  rw [h3]
  simp only [Bool.and_self, cond_true, List.length_map, srtF_len, true_and]
  have key : ∀ m : List File, (m.filter (selF a b)).length ≤ (m.filter (selF 0 b)).length := by
    intro m
    induction m with
    | nil => exact Nat.le_refl _
    | cons x m ih =>
      have hi : selF a b x = true → selF 0 b x = true := by
        unfold selF
        simp only [Bool.and_eq_true, inR_true]
        rintro ⟨q1, q2⟩
        exact ⟨q1, by omega⟩
      rw [List.filter_cons, List.filter_cons]
      cases hx : selF a b x
      · cases selF 0 b x
        · simpa using ih
        · simp only [Bool.false_eq_true, if_false, if_true, List.length_cons]; omega
      · rw [hi hx]
        simpa using ih
  exact key l

/-! ### Draws and the law -/
theorem T_amongSlc {β : Type} {code : List Int} {k : Nat} {c : Cur} {Q : β → Prop} {l : List Int} {y : Int} {f : Int × Cur → Option β} (hb : Bytes code) (h : Good code k c) (hk : k < 100000) (hl : 0 < y ∧ y ≤ (l.length : Int)) (hf : ∀ x c', Good code (k + 2) c' → T (f (x, c')) Q) :
    T (asrt ((0 : Int) ≤ (0 : Int) ∧ (0 : Int) ≤ y ∧ y ≤ (l.length : Int)) ((M.spec_l1Cur_among c (slc l 0 y)).bind f)) Q := by
  refine T_ask ⟨by omega, by omega, by omega⟩ ?_
  refine T_among hb h (by omega) (slc_ne hl.1 hl.2) ?_
  intro x c' _ h'
  exact hf x c' h'
theorem law_FnPages (code : List Int) (h1 : code.length ≤ 9223372036854775807) (h2 : ∀ x, x ∈ code → 0 ≤ x ∧ x ≤ 255) : M.laws_FnPages code = some true := by
  apply T.eq
  unfold M.laws_FnPages M.laws_rBig
  rw [Option.bind_some]
  refine T_if (fun _ => T_ret rfl) (fun hq => ?_)
  simp only [decide_eq_false_iff_not] at hq
  have hb : Bytes code := ⟨by omega, h2⟩
  have d1 : T (M.spec_DrawSplitFile code) (fun r => FlD r.1 ∧ r.2.2.2.length ≤ 10) := by
    unfold M.spec_DrawSplitFile
    refine (drawFiles hb).then ?_
    rintro ⟨t, c1⟩ ⟨g1, g2⟩
    refine (drawFiId hb t 0 g1.1 g2 (by omega)).then ?_
    rintro ⟨i, c2⟩ g3
    refine T_among hb g3 (by omega) (by simp) ?_
    intro p c3 _ g4
    refine T_of hb g4 (by omega) (by simp) ?_
    intro w c4 hw _
    have hwl : w.length ≤ 10 := by
      simp only [List.mem_cons, List.not_mem_nil, or_false] at hw
      rcases hw with h | h | h | h | h <;> rw [h] <;> decide
    exact T_ret ⟨g1, hwl⟩
  refine d1.then ?_
  rintro ⟨l, i, p, t⟩ ⟨hl, ht⟩
  simp only at hl ht
  have hB := hl.b
  have hS := splD_b (i := i) (p := p) (t := t) hB (by omega)
  dsimp only
  rw [splitI l i p t hB (by omega), Option.bind_some, splitS l i p t hB (by omega), Option.bind_some]
  simp only [beq_self_eq_true, bne_self_eq_false, Bool.not_true, Bool.or_self, cond_false, Bool.false_or]
  rw [rFiles_self _ hS.1, Option.bind_some, Bool.not_true, cond_false]
  refine T.then (Q := fun e => e = .inl ()) ?_ ?_
  · refine T_if (fun ho => ?_) (fun _ => T_ret rfl)
    obtain ⟨e1, e2, e3⟩ : inSt l i 0 = true ∧ inR p 1 ((fileAtF l i).Pages - 1) = true ∧ filesOk (splO l i p t) = true := by
      unfold SplD at ho
      cases a1 : inSt l i 0 <;> cases a2 : inR p 1 ((fileAtF l i).Pages - 1) <;> rw [a1, a2] at ho <;> first | (cases ho; done) | skip
      cases a3 : filesOk (splO l i p t)
      · rw [a3] at ho; cases ho
      · exact ⟨rfl, rfl, rfl⟩
    obtain ⟨s1, s2, s3, s4⟩ := inSt_spec e1
    have eD : SplD l i p t = (splO l i p t, lastI l, true) := by unfold SplD; rw [e1, e2, e3]; rfl
    rw [eD] at hS ⊢
    dsimp only at hS ⊢
    refine (tabI l hB).then ?_
    rintro ⟨a, ab⟩ hta
    refine (tabI _ hS).then ?_
    rintro ⟨b, bb⟩ htb
    obtain ⟨_, rfl, ha, hal⟩ := hta.resolve_right (fun h => by rw [s1] at h; cases h.1)
    obtain ⟨_, rfl, hbt, hbl⟩ := htb.resolve_right (fun h => by rw [e3] at h; cases h.1)
    obtain ⟨ka, a1, a2, a3⟩ := ha
    obtain ⟨kb, b1, b2, b3⟩ := hbt
    have hk : ka = kb := strict_ext a1 b1 (fun y => (a2 y).trans ((spl_sums s2).1.symm.trans (b2 y).symm))
    subst hk
    simp only at a3 b3 hal hbl
    subst a3 b3
    rw [List.length_map] at hal
    dsimp only
    rw [List.length_map, List.length_map, bne_self_eq_false, Bool.not_true, Bool.or_self, Bool.or_self, cond_false, filesI _ hS, e3, Option.bind_some, Bool.not_true, Bool.or_self, cond_false]
    rw [iter_up (s := (0 : Int)) (step := M.laws_FnPages_l0 (ka.map (serRow l), true) (ka.map (serRow (splO l i p t)), true)) (e := .inl ()) (fun k => (k : Int)) ka.length rfl (by omega) (fun k hk => by
      have ga : (ka.map (serRow l)).getD k default = serRow l (ka.getD k default) := by simp [List.getD, hk]
      have gb : (ka.map (serRow (splO l i p t))).getD k default = serRow (splO l i p t) (ka.getD k default) := by simp [List.getD, hk]
      have q1 : (((serRow l (ka.getD k default)).length : Int) != 3) = false := rfl
      have q2 : (((serRow (splO l i p t) (ka.getD k default)).length : Int) != 3) = false := rfl
      have q3 : ((serRow l (ka.getD k default)).getD (Int.toNat 0) default != (serRow (splO l i p t) (ka.getD k default)).getD (Int.toNat 0) default) = false := bne_self_eq_false _
      have q4 : ((serRow l (ka.getD k default)).getD (Int.toNat 2) default != (serRow (splO l i p t) (ka.getD k default)).getD (Int.toNat 2) default) = false := by
        show (smI (cP (ka.getD k default)) l != smI (cP (ka.getD k default)) (splO l i p t)) = false
        rw [(spl_sums s2).2]
        exact bne_self_eq_false _
      have q5 : (serRow l (ka.getD k default)).length = 3 := rfl
      have q6 : (serRow (splO l i p t) (ka.getD k default)).length = 3 := rfl
      unfold M.laws_FnPages_l0
      dsimp only
      rw [List.length_map, List.length_map, Int.toNat_natCast, ga, gb, q1, q2, q3, q4, q5, q6, Bool.or_self, decide_eq_true (by omega), cond_true, asrt_pos ⟨by omega, by omega⟩, asrt_pos (fun _ => ⟨by omega, by omega⟩), asrt_pos (fun _ => ⟨by omega, by omega⟩), asrt_pos (fun _ => ⟨by omega, by omega⟩), asrt_pos (fun _ => ⟨by omega, by omega⟩), asrt_pos (fun _ => ⟨by omega, by omega⟩), Bool.or_self, asrt_pos (fun _ => ⟨by omega, by omega⟩), asrt_pos (fun _ => ⟨by omega, by omega⟩), asrt_pos (fun _ => ⟨by omega, by omega⟩), asrt_pos (fun _ => ⟨by omega, by omega⟩), Bool.or_self, cond_false, wrap64_id (by omega) (by omega), cast_succ]) (by
      unfold M.laws_FnPages_l0
      dsimp only
      rw [List.length_map, decide_eq_false (by omega), cond_false]), Option.bind_some]
    exact T_ret rfl
  rintro _ rfl
  dsimp only
  have d2 : T (M.spec_DrawClosedSince code) (fun r => FlD r.1) := by
    unfold M.spec_DrawClosedSince
    refine (drawFiles hb).then ?_
    rintro ⟨t, c1⟩ ⟨g1, g2⟩
    refine T_among hb g2 (by omega) (by simp) ?_
    intro a c2 _ g3
    refine T_pick hb g3 (by omega) ?_
    intro x c3 _ hx g4
    have hx := hx (by omega)
    have hd : 0 ≤ Int.tdiv x 23 ∧ Int.tdiv x 23 ≤ 1 := by
      rw [Int.tdiv_eq_ediv_of_nonneg hx.1]; omega
    dsimp only
    rw [wrap64_id (n := Int.tdiv x 23) (by omega) (by omega), wrap64_id (by omega) (by omega)]
    refine T_amongSlc hb g4 (by omega) ⟨by omega, by simp; omega⟩ ?_
    intro y c4 _
    exact T_ret g1
  refine d2.then ?_
  rintro ⟨u, a, b⟩ hu
  simp only at hu
  have hU := hu.b
  dsimp only
  rw [closedI u a b hU, Option.bind_some, closedS u a b hU, Option.bind_some]
  simp only [beq_self_eq_true, Bool.not_true, cond_false, Bool.false_or]
  rw [rInts_self _ (closed_len hU), Option.bind_some, Bool.not_true, cond_false, closedI u 0 b hU, Option.bind_some]
  have hz : ((ClosedD u a b).2 && ((!(ClosedD u 0 b).2) || decide (((ClosedD u 0 b).1.length : Int) < ((ClosedD u a b).1.length : Int)))) = false := by
    cases hc : (ClosedD u a b).2
    · rfl
    · obtain ⟨m1, m2⟩ := closed_more hc
      rw [m1, decide_eq_false (by omega)]
      rfl
  rw [hz, cond_false]
  have d3 : T (M.spec_DrawAddPages code) (fun r => FlD r.1) := by
    unfold M.spec_DrawAddPages
    refine (drawFiles hb).then ?_
    rintro ⟨t, c1⟩ ⟨g1, g2⟩
    refine (drawFiId hb t 0 g1.1 g2 (by omega)).then ?_
    rintro ⟨i, c2⟩ g3
    refine T_pick hb g3 (by omega) ?_
    intro x c3 _ hx g4
    have hx := hx (by omega)
    have hd : 0 ≤ Int.tdiv x 11 ∧ Int.tdiv x 11 ≤ 2 := by
      rw [Int.tdiv_eq_ediv_of_nonneg hx.1]; omega
    dsimp only
    rw [wrap64_id (n := Int.tdiv x 11) (by omega) (by omega), wrap64_id (by omega) (by omega)]
    refine T_amongSlc hb g4 (by omega) ⟨by omega, by simp; omega⟩ ?_
    intro y c4 _
    exact T_ret g1
  refine d3.then ?_
  rintro ⟨v, x, n⟩ hv
  simp only at hv
  have hV := hv.b
  dsimp only
  rw [addI v x n hV, Option.bind_some, addS v x n hV, Option.bind_some]
  simp only [beq_self_eq_true, Bool.not_true, cond_false, Bool.false_or]
  rw [rFiles_self _ (addD_b hV).1, Option.bind_some, Bool.not_true, cond_false]
  have d4 : T (M.spec_DrawSeriesPages code) FlD := by
    unfold M.spec_DrawSeriesPages M.spec_DrawAreFiles
    refine T.then (Q := FlD) ((drawFiles hb).then ?_) (fun r hr => T_ret hr)
    rintro ⟨t, c1⟩ ⟨g1, _⟩
    exact T_ret g1
  refine d4.then ?_
  intro w hw
  have hW := hw.b
  refine (tabI w hW).then ?_
  rintro ⟨a, ab⟩ hta
  refine (tabS w hW).then ?_
  rintro ⟨b, bb⟩ htb
  dsimp only
  rcases hta with ⟨f1, rfl, ha, hal⟩ | ⟨f1, he⟩
  · obtain ⟨_, rfl, hbt, hbl⟩ := htb.resolve_right (fun h => by rw [f1] at h; cases h.1)
    have eab : a = b := ha.uniq hbt
    subst eab
    have hal : a.length ≤ 1000 := hal
    have ha : TabOk w a := ha
    simp only [beq_self_eq_true, cond_true, Bool.true_and]
    rw [rTable_self _ (by omega) ha.rows, Option.bind_some, cond_true, filesI w hW, Option.bind_some, f1]
    exact T_ret rfl
  · obtain ⟨_, he2⟩ := htb.resolve_left (fun h => by rw [f1] at h; cases h.1)
    cases he
    cases he2
    simp only [beq_self_eq_true, cond_true, Bool.true_and]
    rw [rTable_self _ (by simp) (fun r h => by cases h), Option.bind_some, cond_true, filesI w hW, Option.bind_some, f1]
    exact T_ret rfl
end Go.Proofs.YteocnbeefedbkaaDoor
