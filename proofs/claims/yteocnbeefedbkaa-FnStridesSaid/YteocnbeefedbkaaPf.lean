/-
  Plain facts on loops of models over lists: folds, with and without an early exit, collected lists, two loops side by side. No program, no condition.
-/
import Derived.Test.YteocnbeefedbkaaPb
set_option linter.unusedSimpArgs false
set_option linter.unusedVariables false
namespace Go.VS

/-- A round for each place from k on. -/
def forN {A E : Type} (b : A → Nat → A ⊕ E) (off : A → E) : Nat → Nat → A → E
  | 0, _, a => off a
  | d + 1, k, a => match b a k with | .inl a' => forN b off d (k + 1) a' | .inr e => e

/-- A round for each element. -/
def forE {A E β : Type} (b : A → β → A ⊕ E) (off : A → E) : List β → A → E
  | [], a => off a
  | x :: t, a => match b a x with | .inl a' => forE b off t a' | .inr e => e

theorem loop_forN {S E A : Type} {step : S → Option (S ⊕ E)} (mk : A → Nat → S) (b : A → Nat → A ⊕ E) (off : A → E) (n : Nat) (I : A → Nat → Prop)
    (hs : ∀ a k, k < n → I a k → match b a k with | .inl a' => step (mk a k) = some (.inl (mk a' (k + 1))) ∧ I a' (k + 1) | .inr e => step (mk a k) = some (.inr e))
    (he : ∀ a, I a n → step (mk a n) = some (.inr (off a))) : ∀ (d k m : Nat) (a : A), k + d = n → d < m → I a k → loopO step m (mk a k) = some (forN b off d k a)
  | _, _, 0, _, _, h, _ => absurd h (Nat.not_lt_zero _)
  | 0, k, m + 1, a, h, _, hI => by obtain rfl : k = n := by omega
                                   simp only [loopO, he a hI, forN]
  | d + 1, k, m + 1, a, h, h1, hI => by
    have := hs a k (by omega) hI
    simp only [loopO, forN]
    cases hb : b a k with
    | inl a' =>
      rw [hb] at this
      simp only [this.1]
      exact loop_forN mk b off n I hs he d (k + 1) m a' (by omega) (by omega) this.2
    | inr e => rw [hb] at this; simp only [this]

theorem iter_forN {S E A : Type} {step : S → Option (S ⊕ E)} {s : S} (mk : A → Nat → S) (b : A → Nat → A ⊕ E) (off : A → E) (n : Nat) (a0 : A) (I : A → Nat → Prop) (h0 : s = mk a0 0) (hn : n < 1000000000000) (hI : I a0 0)
    (hs : ∀ a k, k < n → I a k → match b a k with | .inl a' => step (mk a k) = some (.inl (mk a' (k + 1))) ∧ I a' (k + 1) | .inr e => step (mk a k) = some (.inr e))
    (he : ∀ a, I a n → step (mk a n) = some (.inr (off a))) : iterO step s = some (forN b off n 0 a0) := by
  subst h0
  exact loop_forN mk b off n I hs he n 0 rounds a0 (by omega) (by unfold rounds; omega) hI

theorem forN_eq_forE {A E β : Type} [Inhabited β] (b : A → β → A ⊕ E) (off : A → E) (l : List β) : ∀ (d k : Nat) (a : A), k + d = l.length → forN (fun a k => b a (l.getD k default)) off d k a = forE b off (l.drop k) a
  | 0, k, a, h => by rw [List.drop_eq_nil_of_le (by omega)]; rfl
  | d + 1, k, a, h => by
    have hk : k < l.length := by omega
    rw [List.drop_eq_getElem_cons hk]
    simp only [forN, forE]
    rw [show l.getD k default = l[k] by simp [List.getD, hk]]
    cases b a l[k] with
    | inl a' => exact forN_eq_forE b off l d (k + 1) a' (by omega)
    | inr e => rfl

theorem iter_forE {S E A β : Type} [Inhabited β] {step : S → Option (S ⊕ E)} {s : S} (mk : A → Nat → S) (b : A → β → A ⊕ E) (off : A → E) (l : List β) (a0 : A) (I : A → Nat → Prop) (h0 : s = mk a0 0) (hn : l.length < 1000000000000) (hI : I a0 0)
    (hs : ∀ a k, k < l.length → I a k → match b a (l.getD k default) with | .inl a' => step (mk a k) = some (.inl (mk a' (k + 1))) ∧ I a' (k + 1) | .inr e => step (mk a k) = some (.inr e))
    (he : ∀ a, I a l.length → step (mk a l.length) = some (.inr (off a))) : iterO step s = some (forE b off l a0) := by
  rw [iter_forN mk (fun a k => b a (l.getD k default)) off l.length a0 I h0 hn hI hs he, forN_eq_forE b off l l.length 0 a0 (by omega), List.drop_zero]

/-- A loop without an early exit. -/
theorem iter_fold {S E A β : Type} [Inhabited β] {step : S → Option (S ⊕ E)} {s : S} (mk : A → Nat → S) (g : A → β → A) (off : A → E) (l : List β) (a0 : A) (I : A → Nat → Prop) (h0 : s = mk a0 0) (hn : l.length < 1000000000000) (hI : I a0 0)
    (hs : ∀ a k, k < l.length → I a k → step (mk a k) = some (.inl (mk (g a (l.getD k default)) (k + 1))) ∧ I (g a (l.getD k default)) (k + 1))
    (he : ∀ a, I a l.length → step (mk a l.length) = some (.inr (off a))) : iterO step s = some (off (l.foldl g a0)) := by
  rw [iter_forE mk (fun a x => .inl (g a x)) off l a0 I h0 hn hI hs he]
  congr 1
  clear hI hs he hn h0
  induction l generalizing a0 with
  | nil => rfl
  | cons x t ih => simp only [forE, List.foldl_cons]; exact ih (a0 := g a0 x)

theorem foldl_collect {β γ : Type} (g : β → List γ) (l : List β) : ∀ a : List γ, l.foldl (fun a x => a ++ g x) a = a ++ l.flatMap g := by
  induction l with
  | nil => intro a; simp
  | cons x t ih => intro a; simp [ih]

/-- A loop that collects: each element gives at most one more. -/
theorem iter_coll {S E β γ : Type} [Inhabited β] {step : S → Option (S ⊕ E)} {s : S} (mk : List γ → Nat → S) (g : β → List γ) (off : List γ → E) (l : List β) (h0 : s = mk [] 0) (hn : l.length < 1000000000) (hg : ∀ k, k < l.length → (g (l.getD k default)).length ≤ 1)
    (hs : ∀ (a : List γ) (k : Nat), k < l.length → a.length ≤ k → step (mk a k) = some (.inl (mk (a ++ g (l.getD k default)) (k + 1))))
    (he : ∀ a : List γ, a.length ≤ l.length → step (mk a l.length) = some (.inr (off a))) : iterO step s = some (off (l.flatMap g)) := by
  rw [iter_fold mk (fun a x => a ++ g x) off l [] (fun a k => a.length ≤ k) h0 (by omega) (by simp) (fun a k hk hI => ⟨hs a k hk hI, by have := hg k hk; simp only [List.length_append]; omega⟩) he, foldl_collect]
  simp

/-- What a collecting loop with a test gives. -/
theorem flatMap_if {β γ : Type} (p : β → Bool) (f : β → γ) (l : List β) : l.flatMap (fun x => bif p x then [f x] else []) = (l.filter p).map f := by
  induction l with
  | nil => rfl
  | cons x t ih => simp only [List.flatMap_cons, ih, List.filter_cons]; cases p x <;> simp

theorem if_len {γ : Type} (c : Bool) (x : γ) : (bif c then [x] else []).length ≤ 1 := by cases c <;> simp
theorem app_if {γ : Type} (c : Bool) (a : List γ) (x : γ) : a ++ (bif c then [x] else []) = bif c then a ++ [x] else a := by cases c <;> simp

/-- Two loops side by side. -/
theorem iter_rel {S S' E E' : Type} {step : S → Option (S ⊕ E)} {step' : S' → Option (S' ⊕ E')} (R : S → S' → Prop) (Q : E → E' → Prop) (μ : S → Nat)
    (h : ∀ s s', R s s' → (∃ t t', step s = some (.inl t) ∧ step' s' = some (.inl t') ∧ R t t' ∧ μ t < μ s) ∨ ∃ e e', step s = some (.inr e) ∧ step' s' = some (.inr e') ∧ Q e e') {s : S} {s' : S'} (h0 : R s s') (hμ : μ s < 1000000000000) :
    ∃ e e', iterO step s = some e ∧ iterO step' s' = some e' ∧ Q e e' := by
  have key : ∀ (n : Nat) (s : S) (s' : S'), R s s' → μ s < n → ∃ e e', loopO step n s = some e ∧ loopO step' n s' = some e' ∧ Q e e' := by
    intro n
    induction n with
    | zero => intro s s' _ h; exact absurd h (Nat.not_lt_zero _)
    | succ n ih =>
      intro s s' hr hm
      rcases h s s' hr with ⟨t, t', h1, h2, h3, h4⟩ | ⟨e, e', h1, h2, h3⟩
      · obtain ⟨e, e', g1, g2, g3⟩ := ih t t' h3 (by omega)
        exact ⟨e, e', by simp only [loopO, h1, g1], by simp only [loopO, h2, g2], g3⟩
      · exact ⟨e, e', by simp only [loopO, h1], by simp only [loopO, h2], h3⟩
  exact key rounds s s' h0 (by unfold rounds; omega)

/-! ### Searches -/
/-- A loop that searches for the first place. -/
theorem iter_first {β : Type} [Inhabited β] {step : Int → Option (Int ⊕ (Unit ⊕ Int))} (p : β → Bool) (l : List β) (hl : l.length < 1000000000)
    (hs : ∀ k, k < l.length → step (k : Int) = some (bif p (l.getD k default) then .inr (.inr (k : Int)) else .inl ((k : Int) + 1))) (he : step (l.length : Int) = some (.inr (.inl ()))) :
    ((iterO step 0).bind fun e => match e with | .inl () => some (-1 : Int) | .inr r => some r) = some (firstAt p l) := by
  rcases iter_find (step := step) (s := 0) (fun k => (k : Int)) l.length (fun k => p (l.getD k default)) (fun k => .inr (k : Int)) (.inl ()) rfl (by omega)
      (fun k hk hp => by rw [hs k hk, hp]; simp) (fun k hk hp => by rw [hs k hk, hp]; rfl) he with ⟨k, h1, h2, h3, h4⟩ | ⟨h1, h2⟩
  · rw [h4, firstAt_some h1 h3 h2]; rfl
  · rw [h2, firstAt_none h1]; rfl

theorem firstAt_neg {β : Type} {p : β → Bool} {l : List β} : decide (firstAt p l < 0) = !l.any p := by
  rw [Bool.eq_iff_iff, decide_eq_true_eq, Bool.not_eq_true', ← firstAt_take_none]
  have := firstAt_bd (p := p) (l := l)
  omega
theorem firstAt_at {β : Type} [Inhabited β] {p : β → Bool} {l : List β} (h : l.any p = true) : 0 ≤ firstAt p l ∧ (firstAt p l).toNat < l.length ∧ firstAt p l < (l.length : Int) ∧ p (l.getD (firstAt p l).toNat default) = true := by
  rcases find_cases (n := l.length) (fun k => p (l.getD k default)) with ⟨k, h1, h2, h3⟩ | h1
  · rw [firstAt_some h1 h3 h2]
    exact ⟨by omega, by simpa using h1, by omega, by simpa using h2⟩
  · have := firstAt_none h1
    rw [firstAt_take_none, h] at this
    cases this
end Go.VS
