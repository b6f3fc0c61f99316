/-
  Trees of functions: what is added, moved, taken away; the deepest; draws; the plain law of growth. Plain.
-/
import Derived.Test.YtjfpdbhjoofllaaDoorGa
set_option linter.unusedSimpArgs false
set_option linter.unusedVariables false
namespace Go.Proofs.YtjfpdbhjoofllaaDoor
open Go.VS

/-! ### Paths -/
def PathD (t : List Function) (i : Int) : List Int × Bool := bif treeOk t && hasF t i then (pathF t i, true) else ([], false)
theorem pathDI (t : List Function) (i : Int) (hl : FnB t) : M.impl_PathTo t i = some (PathD t i) := by
  unfold M.impl_PathTo PathD
  rw [treeI t hl, Option.bind_some]
  cases h : treeOk t
  · rfl
  · simp only [Bool.not_true, cond_false, Bool.false_or, Bool.true_and, atFI t i hl.1, Option.bind_some, atF_neg]
    cases h2 : hasF t i
    · rfl
    · simp only [Bool.not_true, cond_false, cond_true, pathI t i (treeOk_iff.1 h) h2, Option.bind_some]

/-! ### A function is added -/
theorem getD_l {β : Type} [Inhabited β] {a b : List β} {k : Nat} (h : k < a.length) : (a ++ b).getD k default = a.getD k default := by simp [List.getD, List.getElem?_append_left h]
theorem getD_last {β : Type} [Inhabited β] {a : List β} {x : β} : (a ++ [x]).getD a.length default = x := by simp [List.getD]

theorem tree_pre {t : List Function} {f : Function} (h : TreeP (t ++ [f])) : TreeP t := by
  have hl : (t ++ [f]).length = t.length + 1 := by simp
  obtain ⟨h1, h2, h3, h4, h5⟩ := h
  refine ⟨by omega, fun k hk => ?_, fun j k hj hk => ?_, fun k hk h0 => ?_, fun k hk => ?_⟩
  · have := h2 k (by omega); rwa [getD_l hk] at this
  · have := h3 j k hj (by omega); rwa [getD_l hk, getD_l (by omega)] at this
  · have a1 := h4 k (by omega)
    have a2 := h2 k (by omega)
    rw [getD_l hk] at a1 a2
    obtain ⟨j, g1, g2⟩ := hasF_iff.1 (a1 h0)
    have a3 := (fnOk_spec a2).2.2.1
    rcases Nat.lt_or_ge j t.length with q | q
    · rw [getD_l q] at g2; exact hasF_iff.2 ⟨j, q, g2⟩
    · have : j = t.length := by omega
      subst this
      have := h3 k t.length hk (by omega)
      rw [getD_l hk] at this
      omega
  · have := h5 k (by omega)
    rwa [getD_l hk, List.take_append_of_le_length (by omega)] at this

def nidF (t : List Function) : Int := bif decide ((t.length : Int) > 0) then IntKind.i64.wrap ((t.getD (t.length - 1) default).Id + 1) else 1
def AddD (t : List Function) (p : Int) (n : List UInt8) : List Function × Int × Bool :=
  bif treeOk (t ++ [⟨nidF t, p, n⟩]) then (t ++ [⟨nidF t, p, n⟩], nidF t, true) else ([], 0, false)
theorem nidM (t : List Function) (hl : t.length < 1000000) : (bif (decide ((t.length : Int) > (0 : Int))) then (
        asrt ((0 : Int) ≤ (IntKind.i64.wrap ((t.length : Int) - (1 : Int))) ∧ (IntKind.i64.wrap ((t.length : Int) - (1 : Int))) < (t.length : Int)) <|
        some (IntKind.i64.wrap (((t.getD (Int.toNat (IntKind.i64.wrap ((t.length : Int) - (1 : Int)))) default).Id) + (1 : Int))))
      else (
        some (1 : Int)) : Option Int) = some (nidF t) := by
  unfold nidF
  cases h : decide ((t.length : Int) > 0)
  · rfl
  · simp only [decide_eq_true_eq] at h
    rw [cond_true, cond_true, wrap64_id (n := (t.length : Int) - 1) (by omega) (by omega), asrt_pos ⟨by omega, by omega⟩, toNat_pred]
theorem fnB_app {t : List Function} {f : Function} (hl : FnB t) (h1 : t.length < 999999) (hf : f.Name.length < 1000000) : FnB (t ++ [f]) := by
  refine ⟨by simp; omega, fun x hx => ?_⟩
  rcases List.mem_append.1 hx with h | h
  · exact hl.2 x h
  · rw [List.mem_singleton.1 h]; exact hf
/-! ### A leaf is taken away -/
def LeafD (t : List Function) (i : Int) : List Function × Bool :=
  bif (treeOk t && hasF t i) && !(t.any fun f => f.Parent == i) then (t.filter fun f => f.Id != i, true) else ([], false)

theorem without_at {t : List Function} (h : ∀ j k, j < k → k < t.length → (t.getD j default).Id < (t.getD k default).Id) {k : Nat} (hk : k < t.length) : (t.filter fun f => f.Id != (t.getD k default).Id) = t.take k ++ t.drop (k + 1) := by
  have e : t = t.take k ++ t.getD k default :: t.drop (k + 1) := by
    rw [getD_el hk, List.getElem_cons_drop, List.take_append_drop]
  conv => lhs; arg 2; rw [e]
  rw [List.filter_append, List.filter_cons, bne_self_eq_false]
  simp only [Bool.false_eq_true, if_false]
  rw [List.filter_eq_self.2 (fun x hx => ?_), List.filter_eq_self.2 (fun x hx => ?_)]
  · obtain ⟨i, hi, rfl⟩ := List.getElem_of_mem hx
    rw [List.length_drop] at hi
    rw [List.getElem_drop]
    have := h k (k + 1 + i) (by omega) (by omega)
    rw [getD_el (show k + 1 + i < t.length by omega)] at this
    rw [bne_iff_ne]; omega
  · obtain ⟨i, hi, rfl⟩ := List.getElem_of_mem hx
    rw [List.length_take] at hi
    rw [List.getElem_take]
    have := h i k (by omega) hk
    rw [getD_el (show i < t.length by omega)] at this
    rw [bne_iff_ne]; omega

/-- What was added is a leaf, and without it the tree is as before. -/
theorem add_back {t : List Function} {p : Int} {n : List UInt8} (h : treeOk (t ++ [⟨nidF t, p, n⟩]) = true) : LeafD (t ++ [⟨nidF t, p, n⟩]) (nidF t) = (t, true) := by
  have hP := treeOk_iff.1 h
  have hl : (t ++ [(⟨nidF t, p, n⟩ : Function)]).length = t.length + 1 := by simp
  have e : ((t ++ [(⟨nidF t, p, n⟩ : Function)]).getD t.length default).Id = nidF t := by rw [getD_last]
  have h1 : hasF (t ++ [⟨nidF t, p, n⟩]) (nidF t) = true := hasF_iff.2 ⟨t.length, by omega, e⟩
  have h2 : ((t ++ [(⟨nidF t, p, n⟩ : Function)]).any fun f => f.Parent == nidF t) = false := by
    rw [any_getD, List.any_eq_false]
    intro k hk
    have hk := List.mem_range.1 hk
    have a1 := (fnOk_spec (hP.ok k hk)).2.2.1
    rw [beq_iff_eq]
    rcases Nat.lt_or_ge k t.length with q | q
    · have := hP.up k t.length q (by omega)
      rw [e] at this
      omega
    · obtain rfl : k = t.length := by omega
      rw [e] at a1
      omega
  unfold LeafD
  rw [h, h1, h2]
  have := without_at hP.up (k := t.length) (by omega)
  rw [e] at this
  simp only [Bool.and_self, Bool.not_false, cond_true, this]
  rw [List.take_left, List.drop_eq_nil_of_le (by omega), List.append_nil]

/-! ### A function is moved -/
def MvL (t : List Function) (i p : Int) : List Function := t.set (atF t i).toNat ⟨(t.getD (atF t i).toNat default).Id, p, (t.getD (atF t i).toNat default).Name⟩
def MoveD (t : List Function) (i p : Int) : List Function × Bool := bif treeOk t && hasF t i then (bif treeOk (MvL t i p) then (MvL t i p, true) else ([], false)) else ([], false)
theorem mvB {t : List Function} (i p : Int) (hl : FnB t) (hi : hasF t i = true) : FnB (MvL t i p) := by
  unfold MvL
  refine ⟨by rw [List.length_set]; exact hl.1, fun x hx => ?_⟩
  rcases List.mem_or_eq_of_mem_set hx with h | h
  · exact hl.2 x h
  · rw [h]; exact (hl.2 _ (getD_mem (atF_spec hi).2.1) : (t.getD (atF t i).toNat default).Name.length < 1000000)
theorem hasF_zero {t : List Function} (h : TreeP t) {i : Int} (hi : hasF t i = true) : 1 ≤ i := by
  obtain ⟨j, g1, g2⟩ := hasF_iff.1 hi
  have := (fnOk_spec (h.ok j g1)).1
  omega

theorem at_own {t : List Function} (h : TreeP t) {k : Nat} (hk : k < t.length) : atF t (t.getD k default).Id = (k : Int) := by
  obtain ⟨g0, g1, g2, g3⟩ := atF_spec (hasF_at hk)
  have : (atF t (t.getD k default).Id).toNat = k := by
    rcases Nat.lt_trichotomy (atF t (t.getD k default).Id).toNat k with q | q | q
    · have := h.up _ _ q hk; omega
    · exact q
    · have := h.up _ _ q g1; omega
  omega

/-- The path of a function that was moved is the path of its new parent, and it. -/
theorem mv_path {t : List Function} {i p : Int} (hi : hasF t i = true) (h : treeOk (MvL t i p) = true) : PathD (MvL t i p) i = (pathF (MvL t i p) p ++ [i], true) ∧ (PathD (MvL t i p) p).2 = decide (p > 0) ∧ (PathD (MvL t i p) p).1 = pathF (MvL t i p) p := by
  have hP := treeOk_iff.1 h
  obtain ⟨g0, g1, g2, g3⟩ := atF_spec hi
  have hk : (atF t i).toNat < (MvL t i p).length := by unfold MvL; rw [List.length_set]; exact g1
  have e : (MvL t i p).getD (atF t i).toNat default = ⟨i, p, (t.getD (atF t i).toNat default).Name⟩ := by
    unfold MvL
    simp only [List.getD, List.getElem?_set, if_pos, g1]
    simp only [List.getD] at g3
    rw [g3]; rfl
  have h1 := at_own hP hk
  have h2 := hasF_at hk
  rw [e] at h1 h2
  simp only at h1 h2
  have h3 : parF (MvL t i p) i = p := by unfold parF; rw [h1, Int.toNat_natCast, e]
  have h4 := hasF_zero hP h2
  have h5 := hP.par _ hk
  have h6 := fnOk_spec (hP.ok _ hk)
  rw [e] at h5 h6
  simp only at h5 h6
  refine ⟨?_, ?_, ?_⟩
  · unfold PathD
    rw [h, h2, path_pos hP h2 (by omega), h3]; rfl
  · unfold PathD
    rw [h]
    by_cases hp : p > 0
    · rw [h5 hp, decide_eq_true hp]; rfl
    · have : hasF (MvL t i p) p = false := by
        rw [← Bool.not_eq_true]
        intro q
        have := hasF_zero hP q
        omega
      rw [this, decide_eq_false hp]; rfl
  · unfold PathD
    rw [h]
    by_cases hp : p > 0
    · rw [h5 hp]; rfl
    · have : hasF (MvL t i p) p = false := by
        rw [← Bool.not_eq_true]
        intro q
        have := hasF_zero hP q
        omega
      rw [this]
      unfold pathF
      rw [up_neg hp]; rfl

/-! ### The deepest -/
def deepStep (t : List Function) (s : List Int × Int) (f : Function) : List Int × Int :=
  let n : Int := ((pathF t f.Id).length : Int)
  let s' : List Int × Int := bif decide (n > s.2) then ([], n) else s
  bif n == s'.2 then (s'.1 ++ [f.Id], s'.2) else s'
def deepF (t : List Function) : List Int × Int := t.foldl (deepStep t) ([], 0)
def DeepD (t : List Function) : List Int × Int × Bool := bif treeOk t then ((deepF t).1, (deepF t).2, true) else ([], 0, false)

theorem step_len {t : List Function} (s : List Int × Int) (f : Function) (k : Nat) (h : s.1.length ≤ k) : (deepStep t s f).1.length ≤ k + 1 := by
  unfold deepStep
  dsimp only
  cases decide (((pathF t f.Id).length : Int) > s.2)
  · simp only [cond_false]
    cases (((pathF t f.Id).length : Int) == s.2)
    · simp only [cond_false]; omega
    · simp only [cond_true, List.length_append, List.length_singleton]; omega
  · simp

/-- What the deepest are. -/
theorem deep_inv (t : List Function) : ∀ (l pre : List Function) (s : List Int × Int), ((∀ f ∈ pre, ((pathF t f.Id).length : Int) ≤ s.2) ∧ s.1 = (pre.filter fun f => ((pathF t f.Id).length : Int) == s.2).map fun f => f.Id) →
    ((∀ f ∈ pre ++ l, ((pathF t f.Id).length : Int) ≤ (l.foldl (deepStep t) s).2) ∧ (l.foldl (deepStep t) s).1 = ((pre ++ l).filter fun f => ((pathF t f.Id).length : Int) == (l.foldl (deepStep t) s).2).map fun f => f.Id)
  | [], pre, s, h => by simpa using h
  | x :: l, pre, s, h => by
    rw [List.foldl_cons, show pre ++ x :: l = (pre ++ [x]) ++ l by simp]
    refine deep_inv t l (pre ++ [x]) _ ?_
    obtain ⟨h1, h2⟩ := h
    unfold deepStep
    dsimp only
    by_cases hc : ((pathF t x.Id).length : Int) > s.2
    · rw [decide_eq_true hc]
      simp only [cond_true, beq_self_eq_true, List.nil_append]
      refine ⟨fun f hf => ?_, ?_⟩
      · rcases List.mem_append.1 hf with q | q
        · have := h1 f q; omega
        · rw [List.mem_singleton.1 q]; exact Int.le_refl _
      · rw [List.filter_append, List.filter_eq_nil_iff.2 (fun f hf q => by
          have := h1 f hf
          rw [beq_iff_eq] at q
          omega)]
        simp
    · rw [decide_eq_false hc]
      simp only [cond_false]
      cases hb : (((pathF t x.Id).length : Int) == s.2)
      · simp only [cond_false]
        refine ⟨fun f hf => ?_, ?_⟩
        · rcases List.mem_append.1 hf with q | q
          · exact h1 f q
          · rw [List.mem_singleton.1 q]; omega
        · rw [List.filter_append, List.filter_cons, hb]
          simpa using h2
      · simp only [cond_true]
        refine ⟨fun f hf => ?_, ?_⟩
        · rcases List.mem_append.1 hf with q | q
          · exact h1 f q
          · rw [List.mem_singleton.1 q]; omega
        · rw [List.filter_append, List.filter_cons, hb, h2]
          simp
theorem deep_spec (t : List Function) : (∀ f ∈ t, ((pathF t f.Id).length : Int) ≤ (deepF t).2) ∧ (deepF t).1 = (t.filter fun f => ((pathF t f.Id).length : Int) == (deepF t).2).map fun f => f.Id := by
  have := deep_inv t t [] ([], 0) ⟨by simp, by simp⟩
  simpa [deepF] using this
theorem deep_has {t : List Function} (h : TreeP t) {k : Nat} (hk : k < t.length) : ((deepF t).1.any fun y => y == (t.getD k default).Id) = (((pathF t (t.getD k default).Id).length : Int) == (deepF t).2) := by
  rw [(deep_spec t).2, Bool.eq_iff_iff, List.any_eq_true]
  constructor
  · rintro ⟨y, hy, e⟩
    obtain ⟨x, hx, rfl⟩ := List.mem_map.1 hy
    obtain ⟨hx, hm⟩ := List.mem_filter.1 hx
    rw [eq_of_beq e] at hm
    exact hm
  · intro hm
    exact ⟨_, List.mem_map.2 ⟨_, List.mem_filter.2 ⟨getD_mem hk, hm⟩, rfl⟩, beq_self_eq_true _⟩
theorem deep_len {t : List Function} : (deepF t).1.length ≤ t.length := by
  rw [(deep_spec t).2, List.length_map]
  exact List.length_filter_le _ _
end Go.Proofs.YtjfpdbhjoofllaaDoor
