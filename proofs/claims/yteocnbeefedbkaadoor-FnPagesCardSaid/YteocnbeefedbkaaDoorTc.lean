/-
  The cursor of the draws in the form in which a walk over a draw uses it. Plain.
-/
import Derived.Test.YteocnbeefedbkaaDoorPq
import Derived.Test.YteocnbeefedbkaaDoorPf
set_option linter.unusedSimpArgs false
set_option linter.unusedVariables false
namespace Go.Proofs.YteocnbeefedbkaaDoor
open Go.VS

theorem T_pick {β : Type} {code : List Int} {k : Nat} {c : Cur} {Q : β → Prop} {n : Int} {f : Int × Cur → Option β} (hb : Bytes code) (h : Good code k c) (hk : k < 800000000) (hf : ∀ x c', (n ≤ 1 → x = 0) → (1 ≤ n → 0 ≤ x ∧ x < n) → Good code (k + 2) c' → T (f (x, c')) Q) : T ((M.spec_l1Cur_pick c n).bind f) Q :=
  (pick_ok hb h (by omega)).then fun r hr => hf r.1 r.2 hr.1 hr.2.1 hr.2.2

theorem T_among {β : Type} {code : List Int} {k : Nat} {c : Cur} {Q : β → Prop} {l : List Int} {f : Int × Cur → Option β} (hb : Bytes code) (h : Good code k c) (hk : k < 800000000) (hl : l ≠ []) (hf : ∀ x c', x ∈ l → Good code (k + 2) c' → T (f (x, c')) Q) : T ((M.spec_l1Cur_among c l).bind f) Q :=
  (among_ok hb h (by omega) hl).then fun r hr => hf r.1 r.2 hr.1 hr.2

theorem T_one {β : Type} {code : List Int} {k : Nat} {c : Cur} {Q : β → Prop} {n : Int} {f : Bool × Cur → Option β} (hb : Bytes code) (h : Good code k c) (hk : k < 800000000) (hf : ∀ x c', Good code (k + 2) c' → T (f (x, c')) Q) : T ((M.spec_l1Cur_one c n).bind f) Q :=
  (one_ok hb h (by omega)).then fun r hr => hf r.1 r.2 hr

section
variable {β : Type} {Q : β → Prop}
theorem T_ask {P : Prop} [Decidable P] {m : Option β} (h : P) (h' : T m Q) : T (asrt P m) Q := T_asrt.2 ⟨h, h'⟩
theorem T_if {b : Bool} {m n : Option β} (h1 : b = true → T m Q) (h2 : b = false → T n Q) : T (bif b then m else n) Q := T_bif.2 ⟨h1, h2⟩
theorem T_in {γ : Type} {m : Option γ} {f : γ → Option β} (h : T m (fun x => T (f x) Q)) : T (m.bind f) Q := T_bind.2 h
theorem T_ret {x : β} (h : Q x) : T (some x) Q := T_some.2 h
end
end Go.Proofs.YteocnbeefedbkaaDoor
