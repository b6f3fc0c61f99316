/-
  A calculus for models: 'T m Q' says that the model m answers, and that Q holds of its answer; the cursor of the draws.
-/
import Derived.Test.YtlpnicmlgckdnaaDoorPb
import Derived.Test.YtlpnicmlgckdnaaDoorMrM
set_option linter.unusedSimpArgs false
set_option linter.unusedVariables false
namespace Go.Proofs.YtlpnicmlgckdnaaDoor
open Go.VS

def T {β : Type} (m : Option β) (Q : β → Prop) : Prop := ∃ x, m = some x ∧ Q x

theorem T_some {β : Type} {x : β} {Q : β → Prop} : T (some x) Q ↔ Q x := ⟨fun ⟨_, h, q⟩ => by cases h; exact q, fun h => ⟨x, rfl, h⟩⟩

theorem T_bind {β γ : Type} {m : Option β} {f : β → Option γ} {Q : γ → Prop} : T (m.bind f) Q ↔ T m (fun x => T (f x) Q) := by
  constructor
  · rintro ⟨y, h, q⟩
    cases m with
    | none => cases h
    | some x => exact ⟨x, rfl, y, h, q⟩
  · rintro ⟨x, rfl, y, h, q⟩
    exact ⟨y, h, q⟩

theorem T_asrt {β : Type} {p : Prop} [Decidable p] {m : Option β} {Q : β → Prop} : T (asrt p m) Q ↔ p ∧ T m Q := by
  by_cases h : p
  · rw [asrt_pos h]; simp [h]
  · unfold asrt; rw [if_neg h]; simp [h, T]

theorem T_bif {β : Type} {b : Bool} {m n : Option β} {Q : β → Prop} : T (bif b then m else n) Q ↔ (b = true → T m Q) ∧ (b = false → T n Q) := by cases b <;> simp

theorem T.mono {β : Type} {m : Option β} {Q R : β → Prop} (h : T m Q) (hq : ∀ x, Q x → R x) : T m R := let ⟨x, h1, h2⟩ := h; ⟨x, h1, hq x h2⟩

theorem T.then {β γ : Type} {m : Option β} {f : β → Option γ} {Q : β → Prop} {R : γ → Prop} (h : T m Q) (hf : ∀ x, Q x → T (f x) R) : T (m.bind f) R := T_bind.2 (h.mono hf)

theorem T.eq {β : Type} {m : Option β} {x : β} (h : T m (fun y => y = x)) : m = some x := by obtain ⟨y, h1, rfl⟩ := h; exact h1

theorem T.of_eq {β : Type} {m : Option β} {x : β} {Q : β → Prop} (h : m = some x) (q : Q x) : T m Q := ⟨x, h, q⟩

theorem T_iter {S E : Type} {step : S → Option (S ⊕ E)} {s : S} (I : S → Prop) (μ : S → Nat) (Q : E → Prop) (h0 : I s) (hμ : μ s < 1000000000000)
    (h : ∀ s, I s → T (step s) (fun r => match r with | .inl s' => I s' ∧ μ s' < μ s | .inr e => Q e)) : T (iterO step s) Q := by
  obtain ⟨e, h1, h2⟩ := loopO_inv I μ Q (step := step) (fun s hs => by
    obtain ⟨r, h1, h2⟩ := h s hs
    cases r with
    | inl s' => exact .inl ⟨s', h1, h2.1, h2.2⟩
    | inr e => exact .inr ⟨e, h1, h2⟩) rounds s h0 (by unfold rounds; omega)
  exact ⟨e, h1, h2⟩

/-! ### The cursor -/

def Bytes (code : List Int) : Prop := code.length ≤ 65536 ∧ ∀ b ∈ code, 0 ≤ b ∧ b ≤ 255

theorem bytes_getD {code : List Int} (h : Bytes code) {i : Nat} (hi : i < code.length) : 0 ≤ code.getD i default ∧ code.getD i default ≤ 255 := by
  have : code.getD i default = code[i] := by simp [List.getD, hi]
  rw [this]
  exact h.2 _ (List.getElem_mem hi)

theorem low_bits (x : BitVec 64) : (x &&& 255#64).toNat ≤ 255 := by
  have := Nat.and_le_right (n := x.toNat) (m := 255)
  simpa using this

theorem tmod_range {x n : Int} (hx : 0 ≤ x) (hn : 0 < n) : 0 ≤ Int.tmod x n ∧ Int.tmod x n < n := by
  rw [Int.tmod_eq_emod_of_nonneg hx]
  exact ⟨Int.emod_nonneg _ (by omega), Int.emod_lt_of_pos _ hn⟩

theorem getD_mem {β : Type} [Inhabited β] {l : List β} {i : Nat} (h : i < l.length) : l.getD i default ∈ l := by
  have : l.getD i default = l[i] := by simp [List.getD, h]
  rw [this]; exact List.getElem_mem h

end Go.Proofs.YtlpnicmlgckdnaaDoor
