/-
  The plain law of 'custody': chains, holders, and one hand more. Plain.
-/
import Derived.Test.YtpmjemddofcmaaaCv
set_option linter.unusedSimpArgs false
set_option linter.unusedVariables false
namespace Go.Proofs.Ytpmjemddofcmaaa
open Go.VS

/-! ### Holders -/
noncomputable def HoldD (l : List Hand) (r d : Int) : Int × Bool := bif (custOk l && inR r 1 999) && inR d 0 20000 then (holder l r d, decide (holder l r d > 0)) else (0, false)
/-! ### Chains -/
def chB (r : Int) (a : List Int) (h : Hand) : List Int := bif h.Record != r then a else (bif (a.length : Int) == 0 then a ++ [h.From] else a) ++ [h.To]
noncomputable def ChainD (l : List Hand) (r : Int) : List Int × Bool := bif custOk l && inR r 1 999 then (l.foldl (chB r) [], true) else ([], false)
theorem chB_len {r : Int} {a : List Int} {h : Hand} {k : Nat} (ha : a.length ≤ k + 1) : (chB r a h).length ≤ k + 2 := by
  unfold chB
  cases h.Record != r
  · cases he : ((a.length : Int) == 0)
    · simp; omega
    · rw [beq_iff_eq] at he
      simp; omega
  · simp; omega
theorem chain_len {r : Int} (l : List Hand) : (l.foldl (chB r) []).length ≤ l.length + 1 := by
  have key : ∀ (l : List Hand) (a : List Int) (k : Nat), a.length ≤ k + 1 → (l.foldl (chB r) a).length ≤ l.length + k + 1 := by
    intro l
    induction l with
    | nil => intro a k h; simpa using h
    | cons x t ih =>
      intro a k h
      have := ih (chB r a x) (k + 1) (chB_len h)
      simp only [List.foldl_cons, List.length_cons]; omega
  have := key l [] 0 (by simp)
  omega

theorem ChainD_len {l : List Hand} {r : Int} (hl : l.length ≤ 1000000) : (ChainD l r).1.length < 1000001 + 1 := by
  unfold ChainD
  cases custOk l && inR r 1 999
  · simp
  · have := chain_len (r := r) l
    simp only [cond_true]; omega

/-- The last of a chain holds the record at the end. -/
theorem chain_last (r d : Int) : ∀ (l : List Hand) (a : List Int) (w : Int), (∀ h ∈ l, h.Day ≤ d) → ((a = [] ∧ w = 0) ∨ (∃ b, a = b ++ [w])) →
    (l.foldl (chB r) a = [] ∧ l.foldl (fun a h => bif (h.Record == r) && decide (h.Day ≤ d) then h.To else a) w = 0) ∨ ∃ b, l.foldl (chB r) a = b ++ [l.foldl (fun a h => bif (h.Record == r) && decide (h.Day ≤ d) then h.To else a) w]
  | [], a, w, _, h => h
  | x :: t, a, w, hd, h => by
    simp only [List.foldl_cons]
    refine chain_last r d t _ _ (fun y hy => hd y (by simp [hy])) ?_
    unfold chB
    rw [decide_eq_true (hd x (by simp)), Bool.and_true]
    cases hc : (x.Record == r)
    · have : (x.Record != r) = true := by rw [bne, hc]; rfl
      rw [this]
      exact h
    · have : (x.Record != r) = false := by rw [bne, hc]; rfl
      rw [this]
      exact .inr ⟨_, rfl⟩

theorem holder_pos {l : List Hand} {r d : Int} (hl : ∀ h ∈ l, 1 ≤ h.To) : ∀ w, 0 ≤ w → 0 ≤ l.foldl (fun a h => bif (h.Record == r) && decide (h.Day ≤ d) then h.To else a) w := by
  induction l with
  | nil => intro w h; exact h
  | cons x t ih =>
    intro w h
    simp only [List.foldl_cons]
    refine ih (fun y hy => hl y (by simp [hy])) _ ?_
    have := hl x (by simp)
    cases (x.Record == r) && decide (x.Day ≤ d)
    · exact h
    · show 0 ≤ x.To; omega

theorem custOk_hands {l : List Hand} (h : custOk l = true) : ∀ x ∈ l, handOk x = true := by
  intro x hx
  obtain ⟨k, hk, rfl⟩ := List.getElem_of_mem hx
  have := ((custOk_spec h).1.1 k hk).1
  simpa [List.getD, hk] using this

/-! ### One hand more -/
theorem getD_app {l : List Hand} {h : Hand} {k : Nat} (hk : k < l.length) : (l ++ [h]).getD k default = l.getD k default := by
  rw [List.getD_eq_getElem?_getD, List.getElem?_append_left hk, ← List.getD_eq_getElem?_getD]
theorem Fine.init {l : List Hand} {h : Hand} (hf : Fine (l ++ [h])) : Fine l := by
  obtain ⟨h1, h2⟩ := hf
  refine ⟨fun v hv => ?_, fun k m hm hC => ?_⟩
  · have := h1 v (by simp; omega)
    unfold Step at this ⊢
    rw [getD_app hv] at this
    refine ⟨this.1, fun h0 => ?_⟩
    have g := this.2 h0
    rwa [getD_app (by omega)] at g
  · have hk : k < m := hC.1
    have := h2 k m (by simp; omega) ⟨hk, by
      show ((l ++ [h]).getD k default).Record = ((l ++ [h]).getD m default).Record
      rw [getD_app (by omega), getD_app hm]; exact hC.2.1, fun j g1 g2 => by
      show ((l ++ [h]).getD j default).Record ≠ ((l ++ [h]).getD m default).Record
      rw [getD_app (by omega), getD_app hm]; exact hC.2.2 j g1 g2⟩
    rwa [getD_app hm, getD_app (by omega)] at this
theorem custOk_init {l : List Hand} {h : Hand} (hc : custOk (l ++ [h]) = true) : custOk l = true := by
  obtain ⟨h1, h2⟩ := custOk_spec hc
  rw [List.length_append, List.length_singleton] at h2
  exact custOk_iff.2 ⟨h1.init, by omega⟩
noncomputable def AppD (l : List Hand) (h : Hand) : List Hand × Bool := bif custOk (l ++ [h]) then (l ++ [h], true) else ([], false)
theorem holder_app {l : List Hand} {h : Hand} : holder (l ++ [h]) h.Record h.Day = h.To := by
  unfold holder
  rw [List.foldl_append]
  simp

/-! ### Lists compared -/
/-! ### Draws -/
theorem slc_ne {l : List Int} {m : Int} (h1 : 1 ≤ m) (h2 : m ≤ (l.length : Int)) : slc l 0 m ≠ [] := by
  intro e
  have h3 : (slc l 0 m).length = m.toNat := by
    unfold slc
    rw [List.length_drop, List.length_take]
    omega
  rw [e, List.length_nil] at h3
  omega
end Go.Proofs.Ytpmjemddofcmaaa
