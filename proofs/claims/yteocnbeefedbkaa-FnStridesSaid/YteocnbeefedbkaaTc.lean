/-
  The cursor of the draws in the form in which a walk over a draw uses it. Plain.
-/
import Derived.Test.YteocnbeefedbkaaPq
import Derived.Test.YteocnbeefedbkaaPf
set_option linter.unusedSimpArgs false
set_option linter.unusedVariables false
namespace Go.Proofs.Yteocnbeefedbkaa
open Go.VS

theorem T_next {β : Type} {code : List Int} {k : Nat} {c : Cur} {Q : β → Prop} {f : Int × Cur → Option β} (hb : Bytes code) (h : Good code k c) (hk : k < 800000000) (hf : ∀ x c', (0 ≤ x ∧ x ≤ 255) → Good code (k + 1) c' → T (f (x, c')) Q) : T ((M.spec_l1Cur_next c).bind f) Q :=
  (next_ok hb h (by omega)).then fun r hr => hf r.1 r.2 hr.1 hr.2

theorem T_pick {β : Type} {code : List Int} {k : Nat} {c : Cur} {Q : β → Prop} {n : Int} {f : Int × Cur → Option β} (hb : Bytes code) (h : Good code k c) (hk : k < 800000000) (hf : ∀ x c', (n ≤ 1 → x = 0) → (1 ≤ n → 0 ≤ x ∧ x < n) → Good code (k + 2) c' → T (f (x, c')) Q) : T ((M.spec_l1Cur_pick c n).bind f) Q :=
  (pick_ok hb h (by omega)).then fun r hr => hf r.1 r.2 hr.1 hr.2.1 hr.2.2

theorem T_among {β : Type} {code : List Int} {k : Nat} {c : Cur} {Q : β → Prop} {l : List Int} {f : Int × Cur → Option β} (hb : Bytes code) (h : Good code k c) (hk : k < 800000000) (hl : l ≠ []) (hf : ∀ x c', x ∈ l → Good code (k + 2) c' → T (f (x, c')) Q) : T ((M.spec_l1Cur_among c l).bind f) Q :=
  (among_ok hb h (by omega) hl).then fun r hr => hf r.1 r.2 hr.1 hr.2

theorem T_one {β : Type} {code : List Int} {k : Nat} {c : Cur} {Q : β → Prop} {n : Int} {f : Bool × Cur → Option β} (hb : Bytes code) (h : Good code k c) (hk : k < 800000000) (hf : ∀ x c', Good code (k + 2) c' → T (f (x, c')) Q) : T ((M.spec_l1Cur_one c n).bind f) Q :=
  (one_ok hb h (by omega)).then fun r hr => hf r.1 r.2 hr

section
variable {β : Type} {Q : β → Prop}
/-- A call that is made only if c holds. -/
theorem T_gcall {γ : Type} {b : Bool} {m : Option γ} {z : γ} {f : γ → Option β} (h1 : b = true → T (m.bind f) Q) (h2 : b = false → T (f z) Q) : T ((bif b then m else some z).bind f) Q := by
  cases b
  · exact h2 rfl
  · exact h1 rfl
theorem T_gcall' {γ : Type} {b : Bool} {m : Option γ} {z : γ} {f : γ → Option β} (h1 : b = true → T (f z) Q) (h2 : b = false → T (m.bind f) Q) : T ((bif b then some z else m).bind f) Q := by
  cases b
  · exact h2 rfl
  · exact h1 rfl
theorem T_ask {P : Prop} [Decidable P] {m : Option β} (h : P) (h' : T m Q) : T (asrt P m) Q := T_asrt.2 ⟨h, h'⟩
theorem T_if {b : Bool} {m n : Option β} (h1 : b = true → T m Q) (h2 : b = false → T n Q) : T (bif b then m else n) Q := T_bif.2 ⟨h1, h2⟩
theorem T_in {γ : Type} {m : Option γ} {f : γ → Option β} (h : T m (fun x => T (f x) Q)) : T (m.bind f) Q := T_bind.2 h
theorem T_ret {x : β} (h : Q x) : T (some x) Q := T_some.2 h
theorem T_eq {γ : Type} {m : Option γ} {x : γ} {f : γ → Option β} (h : m = some x) (h' : T (f x) Q) : T (m.bind f) Q := by rw [h]; exact h'
end
end Go.Proofs.Yteocnbeefedbkaa
