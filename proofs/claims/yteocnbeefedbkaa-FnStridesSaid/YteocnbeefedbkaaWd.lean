/-
  Slices held against nil; equality of structs; the library's functions on slices. Over any program. No condition.
-/
import Derived.Test.YteocnbeefedbkaaWc
set_option linter.unusedSimpArgs false
set_option linter.unusedVariables false
namespace Go.VS

theorem run_equal_nil {P : Program} {T E : TypeId} (hT : P.underlying T = some (.slice E)) (a : Option Addr) (l c : Nat) (w : World) : (Op.equal T (.slice a l c) (.slice none 0 0)).run P w = .ok a.isNone w := by
  have h : ∀ n, (Op.equalIn (n + 1) T (.slice a l c) (.slice none 0 0)).run P w = .ok a.isNone w := fun n => by
    cases a <;> simp only [Op.equalIn, Sem.run_bind, run_underlying hT, Result.andThen_ok, Sem.run_pure] <;> rfl
  exact h 9999

section
variable {Φ : Ctx} {α : AEnv} {K : AEnv → Prop} {o : Oper}

theorem V1.eqNil {d T T' E : Nat} {x y : Operand} {ρ n : Nat} {xs : List PV} (ho : o.op = .binOp .eql T x y T') (hd : o.dst = some d)
    (hT : Φ.P.underlying T = some (.slice E)) (hx : aeval α x = some (.vl ρ n xs)) (hy : aeval α y = some .nils) (hn : d < α.n) (hk : ∀ c, (c = true → xs = []) → K (α.put d (.bool c))) : V1 Φ o α K := by
  rintro a w ⟨S, he⟩
  have h1 := he.eval hx
  have h2 := he.eval hy
  unfold Rep at h1 h2
  obtain ⟨_, us, _, hr, h1⟩ := h1
  have key : ∀ (b : Option Addr) (l c : Nat), a.eval x = .slice b l c → (b.isNone = true → xs = []) → o.wp Φ.P a w (fun a' w' => ∃ α', K α' ∧ ER Φ α' a' w') (fun _ _ _ => False) := by
    intro b l c hv hb
    have hrun : (execOp a.eval o).run Φ.P w = .ok (.value (.bool b.isNone)) w := by
      have h3 := run_equal_nil hT b l c w
      simp only [execOp, ho, hv, h2, eqGuard, binOp, Sem.run_bind, Result.andThen_ok, Sem.run_pure, Sem.run_ite]
      simp
      rw [h3]
      rfl
    unfold Oper.wp
    rw [hrun, Oper.upon_value, hd]
    exact ⟨_, hk _ hb, S, he.put (d := d) hn (by unfold Rep; rfl)⟩
  rcases h1 with ⟨rfl, b, cap, hv⟩ | ⟨b, off, cap, hS, hv, _⟩
  · exact key b 0 cap hv fun _ => by
      cases xs with
      | nil => rfl
      | cons y ys => rw [Reps.cons_iff] at hr; obtain ⟨_, _, h, _⟩ := hr; cases h
  · exact key _ _ _ hv fun h => by cases h
end
end Go.VS
