/-
  What the library's functions on lists answer: Sort (of at most 12), Compact, Delete, DeleteFunc. Plain.
-/
import Derived.Test.YtpmjemddofcmaaaTc
import Derived.Test.YtpmjemddofcmaaaHa
set_option linter.unusedSimpArgs false
set_option linter.unusedVariables false
namespace Go.Proofs.Ytpmjemddofcmaaa
open Go.VS

/-! ### Insertion -/
/-- Where x goes into P: behind all that are not greater. -/
def inPos (P : List Int) (x : Int) : Nat → Nat
  | 0 => 0
  | k + 1 => if x < P.getD k default then inPos P x k else k + 1
def inK (P : List Int) (x : Int) : List Int := P.take (inPos P x P.length) ++ x :: P.drop (inPos P x P.length)
def srt (D : List Int) : List Int := D.foldl inK []

theorem inPos_spec {P : List Int} {x : Int} : ∀ k, inPos P x k ≤ k ∧ (∀ j, inPos P x k ≤ j → j < k → x < P.getD j default) ∧ (inPos P x k = 0 ∨ P.getD (inPos P x k - 1) default ≤ x)
  | 0 => ⟨Nat.le_refl _, fun j _ h => absurd h (Nat.not_lt_zero _), .inl rfl⟩
  | k + 1 => by
    obtain ⟨h1, h2, h3⟩ := inPos_spec (P := P) (x := x) k
    unfold inPos
    split
    · rename_i h
      refine ⟨by omega, fun j g1 g2 => ?_, h3⟩
      by_cases e : j < k
      · exact h2 j g1 e
      · obtain rfl : j = k := by omega
        exact h
    · rename_i h
      exact ⟨Nat.le_refl _, fun j g1 g2 => absurd g2 (by omega), .inr (by rw [Nat.add_sub_cancel]; omega)⟩
theorem inK_perm {P : List Int} {x : Int} : List.Perm (inK P x) (x :: P) := by
  unfold inK
  refine List.perm_middle.trans ?_
  rw [List.take_append_drop]
theorem inK_len {P : List Int} {x : Int} : (inK P x).length = P.length + 1 := by simpa using (inK_perm (P := P) (x := x)).length_eq

theorem pairwise_getD {R : Int → Int → Prop} {l : List Int} (h : l.Pairwise R) {i j : Nat} (hij : i < j) (hj : j < l.length) : R (l.getD i default) (l.getD j default) := by
  have := List.pairwise_iff_getElem.1 h i j (by omega) hj hij
  simpa [List.getD, hj, show i < l.length by omega] using this

theorem inK_sorted {P : List Int} {x : Int} (h : P.Pairwise (· ≤ ·)) : (inK P x).Pairwise (· ≤ ·) := by
  obtain ⟨h1, h2, h3⟩ := inPos_spec (P := P) (x := x) P.length
  unfold inK
  generalize inPos P x P.length = k at h1 h2 h3
  have hs := h
  rw [← List.take_append_drop k P, List.pairwise_append] at hs
  obtain ⟨s1, s2, s3⟩ := hs
  rw [List.pairwise_append]
  have hx : ∀ b ∈ P.drop k, x ≤ b := by
    intro b hb
    obtain ⟨j, hj, rfl⟩ := List.getElem_of_mem hb
    rw [List.length_drop] at hj
    rw [List.getElem_drop]
    have := h2 (k + j) (by omega) (by omega)
    have e : P.getD (k + j) default = P[k + j] := by simp [List.getD, show k + j < P.length by omega]
    omega
  refine ⟨s1, List.pairwise_cons.2 ⟨hx, s2⟩, fun a ha b hb => ?_⟩
  rcases List.mem_cons.1 hb with rfl | hb
  · obtain ⟨j, hj, rfl⟩ := List.getElem_of_mem ha
    rw [List.length_take] at hj
    rw [List.getElem_take]
    have e : P.getD j default = P[j] := by simp [List.getD, show j < P.length by omega]
    rcases h3 with h3 | h3
    · omega
    · by_cases q : j = k - 1
      · subst q; omega
      · have := pairwise_getD h (i := j) (j := k - 1) (by omega) (by omega); omega
  · exact s3 a ha b hb

theorem srt_snoc {D : List Int} {x : Int} : srt (D ++ [x]) = inK (srt D) x := by unfold srt; rw [List.foldl_append]; rfl
theorem srt_ok (D : List Int) : List.Perm (srt D) D ∧ (srt D).Pairwise (· ≤ ·) := by
  have key : ∀ (E P : List Int), P.Pairwise (· ≤ ·) → List.Perm (E.foldl inK P) (P ++ E) ∧ (E.foldl inK P).Pairwise (· ≤ ·) := by
    intro E
    induction E with
    | nil => intro P h; exact ⟨by simp, h⟩
    | cons x E ih =>
      intro P h
      obtain ⟨h1, h2⟩ := ih (inK P x) (inK_sorted h)
      refine ⟨h1.trans ?_, h2⟩
      exact (inK_perm.append_right E).trans List.perm_middle.symm
  exact key D [] List.Pairwise.nil
theorem srt_len {D : List Int} : (srt D).length = D.length := (srt_ok D).1.length_eq
theorem srt_mem {D : List Int} {x : Int} : x ∈ srt D ↔ x ∈ D := (srt_ok D).1.mem_iff

theorem swap_atL {p x : Int} {B : List Int} : ∀ A : List Int, (A ++ p :: x :: B).getD A.length default = p ∧ (A ++ p :: x :: B).getD (A.length + 1) default = x ∧ ((A ++ p :: x :: B).set (A.length + 1) p).set A.length x = A ++ x :: p :: B
  | [] => ⟨rfl, rfl, rfl⟩
  | a :: A => by
    obtain ⟨h1, h2, h3⟩ := swap_atL (p := p) (x := x) (B := B) A
    refine ⟨?_, ?_, ?_⟩
    · simp
    · simp
    · simp

/-! ### Compact -/
/-- Without those that are as the one before them. -/
def ddFrom (p : Int) : List Int → List Int
  | [] => []
  | y :: t => if y = p then ddFrom p t else y :: ddFrom y t
def dd : List Int → List Int
  | [] => []
  | x :: t => x :: ddFrom x t

theorem ddFrom_snoc : ∀ (l : List Int) (p y : Int), ddFrom p (l ++ [y]) = ddFrom p l ++ (if y = (p :: l).getLast (by simp) then [] else [y])
  | [], p, y => by
    simp only [List.nil_append, ddFrom, List.getLast_singleton]
    first | rfl | (split <;> rfl)
  | x :: t, p, y => by
    simp only [List.cons_append, ddFrom]
    by_cases h : x = p
    · subst h
      rw [if_pos rfl, if_pos rfl, ddFrom_snoc t x y]
      rfl
    · rw [if_neg h, if_neg h, ddFrom_snoc t x y]
      rfl
theorem dd_snoc {l : List Int} {y : Int} (h : l ≠ []) : dd (l ++ [y]) = dd l ++ (if y = l.getLast h then [] else [y]) := by
  cases l with
  | nil => exact absurd rfl h
  | cons x t =>
    simp only [List.cons_append, dd]
    rw [ddFrom_snoc]
theorem take_last {l : List Int} {k : Nat} (h : k < l.length) (hne : l.take (k + 1) ≠ []) : (l.take (k + 1)).getLast hne = l.getD k default := by
  rw [List.getLast_eq_getElem]
  have e : (l.take (k + 1)).length = k + 1 := by rw [List.length_take]; omega
  simp [List.getElem_take, List.getD, h, e]
theorem dd_take {l : List Int} {k : Nat} (h : k + 1 < l.length) : dd (l.take (k + 2)) = dd (l.take (k + 1)) ++ (if l.getD (k + 1) default = l.getD k default then [] else [l.getD (k + 1) default]) := by
  rw [take_succ_getD h]
  have hne : l.take (k + 1) ≠ [] := by
    intro e
    have := congrArg List.length e
    rw [List.length_take, List.length_nil] at this
    omega
  rw [dd_snoc hne, take_last (by omega) hne]

theorem ddFrom_spec : ∀ (l : List Int) (p : Int), (∀ y ∈ l, p ≤ y) → l.Pairwise (· ≤ ·) → (∀ y ∈ ddFrom p l, p < y) ∧ (ddFrom p l).Pairwise (· < ·) ∧ (∀ y, y ∈ ddFrom p l ∨ y = p ↔ y ∈ l ∨ y = p)
  | [], p, _, _ => ⟨by simp [ddFrom], by simp [ddFrom], by simp [ddFrom]⟩
  | x :: t, p, h1, h2 => by
    obtain ⟨q1, q2⟩ := List.pairwise_cons.1 h2
    have hp := h1 x (by simp)
    unfold ddFrom
    by_cases h : x = p
    · subst h
      rw [if_pos rfl]
      obtain ⟨g1, g2, g3⟩ := ddFrom_spec t x q1 q2
      refine ⟨g1, g2, fun y => ?_⟩
      rw [g3 y, List.mem_cons]
      constructor
      · rintro (h | h)
        · exact .inl (.inr h)
        · exact .inr h
      · rintro ((h | h) | h)
        · exact .inr h
        · exact .inl h
        · exact .inr h
    · rw [if_neg h]
      obtain ⟨g1, g2, g3⟩ := ddFrom_spec t x q1 q2
      refine ⟨fun y hy => ?_, List.pairwise_cons.2 ⟨g1, g2⟩, fun y => ?_⟩
      · rcases List.mem_cons.1 hy with rfl | hy
        · omega
        · have := g1 y hy; omega
      · have := g3 y
        rw [List.mem_cons, List.mem_cons]
        constructor
        · rintro ((h | h) | h)
          · exact .inl (.inl h)
          · rcases this.1 (.inl h) with h | h
            · exact .inl (.inr h)
            · exact .inl (.inl h)
          · exact .inr h
        · rintro ((h | h) | h)
          · exact .inl (.inl h)
          · rcases this.2 (.inl h) with h | h
            · exact .inl (.inr h)
            · exact .inl (.inl h)
          · exact .inr h
/-- Of an ascending list: strictly ascending, with the same members. -/
theorem dd_spec {l : List Int} (h : l.Pairwise (· ≤ ·)) : (dd l).Pairwise (· < ·) ∧ ∀ y, y ∈ dd l ↔ y ∈ l := by
  cases l with
  | nil => exact ⟨List.Pairwise.nil, fun y => Iff.rfl⟩
  | cons x t =>
    obtain ⟨q1, q2⟩ := List.pairwise_cons.1 h
    obtain ⟨g1, g2, g3⟩ := ddFrom_spec t x q1 q2
    refine ⟨List.pairwise_cons.2 ⟨g1, g2⟩, fun y => ?_⟩
    have := g3 y
    unfold dd
    rw [List.mem_cons, List.mem_cons]
    constructor
    · rintro (h | h)
      · exact .inl h
      · rcases this.1 (.inl h) with h | h
        · exact .inr h
        · exact .inl h
    · rintro (h | h)
      · exact .inl h
      · rcases this.2 (.inl h) with h | h
        · exact .inr h
        · exact .inl h
theorem dd_len {l : List Int} : (dd l).length ≤ l.length := by
  have key : ∀ (l : List Int) (p : Int), (ddFrom p l).length ≤ l.length := by
    intro l
    induction l with
    | nil => intro p; simp [ddFrom]
    | cons x t ih =>
      intro p
      unfold ddFrom
      split
      · exact Nat.le_trans (ih p) (by simp)
      · simpa using ih x
  cases l with
  | nil => simp [dd]
  | cons x t => simpa [dd] using key t x

theorem strict_ext : ∀ {a b : List Int}, a.Pairwise (· < ·) → b.Pairwise (· < ·) → (∀ y, y ∈ a ↔ y ∈ b) → a = b
  | [], [], _, _, _ => rfl
  | [], y :: t, _, _, h => absurd ((h y).2 (by simp)) (by simp)
  | x :: s, [], _, _, h => absurd ((h x).1 (by simp)) (by simp)
  | x :: s, y :: t, ha, hb, h => by
    obtain ⟨a1, a2⟩ := List.pairwise_cons.1 ha
    obtain ⟨b1, b2⟩ := List.pairwise_cons.1 hb
    have hxy : x = y := by
      have h1 := (h x).1 (by simp)
      have h2 := (h y).2 (by simp)
      rcases List.mem_cons.1 h1 with e | e
      · exact e
      · rcases List.mem_cons.1 h2 with f | f
        · exact f.symm
        · have := b1 x e; have := a1 y f; omega
    subst hxy
    congr 1
    refine strict_ext a2 b2 fun z => ?_
    have hz := h z
    rw [List.mem_cons, List.mem_cons] at hz
    constructor
    · intro g
      rcases hz.1 (.inr g) with e | e
      · have := a1 z g; omega
      · exact e
    · intro g
      rcases hz.2 (.inr g) with e | e
      · have := b1 z g; omega
      · exact e

theorem take_set_eq {l : List Int} {k : Nat} {v : Int} (h : k < l.length) : (l.set k v).take (k + 1) = l.take k ++ [v] := by
  rw [take_succ_getD (by simpa using h), List.take_set_of_le (Nat.le_refl k)]
  congr 1
  simp [List.getD, h]
theorem getD_setL {l : List Int} {k j : Nat} {v : Int} (hk : k < l.length) : (l.set k v).getD j default = if k = j then v else l.getD j default := by
  simp only [List.getD, List.getElem?_set]
  by_cases e : k = j
  · subst e; simp [hk]
  · simp [e]

/-- The program's 'each once, ascending'. -/
def once (l : List Int) : List Int := dd (srt l)
theorem once_spec (l : List Int) : (once l).Pairwise (· < ·) ∧ ∀ y, y ∈ once l ↔ y ∈ l := by
  obtain ⟨h1, h2⟩ := srt_ok l
  obtain ⟨g1, g2⟩ := dd_spec h2
  exact ⟨g1, fun y => (g2 y).trans h1.mem_iff⟩
theorem once_len {l : List Int} : (once l).length ≤ l.length := Nat.le_trans dd_len (Nat.le_of_eq srt_len)

end Go.Proofs.Ytpmjemddofcmaaa
