/-
  FnStrides: the row's frame over the proof of the Go text and the plain law.
-/
import Derived.Test.YteocnbeefedbkaaRows
import Derived.Test.YteocnbeefedbkaaChecked
import Derived.Test.YteocnbeefedbkaaQs4
import Derived.Test.YteocnbeefedbkaaSi
import Derived.Test.YteocnbeefedbkaaVn
set_option linter.unusedSimpArgs false
set_option linter.unusedVariables false
set_option maxRecDepth 100000
namespace Go.Proofs.Yteocnbeefedbkaa
open Go.VS Go.ChangeShapes Go.WideShapes Go.ChangeAt Go.RowKit
namespace Strides

theorem own : ownKnob Try.prog.godebug = none := by kernel_rfl
theorem laidOut : laidOutB Try.prog = true := by kernel_rfl

theorem sh_0 : shOf Try.prog 8 22 = some (.sl 1 (.int .u8)) := by kernel_rfl

theorem open_5 (xs : List PV) (h : Sh.ok (.int .u8) xs) : ∃ c : Int, Sh.wrap (.int .u8) xs = encU8 c ∧ (0 ≤ c ∧ c ≤ 255) := by
  obtain ⟨n, rfl, hw⟩ := h
  exact ⟨n, rfl, by have e1 : IntKind.u8.min = 0 := rfl; have e2 : IntKind.u8.max = 255 := rfl; simp [Lit.wf] at hw; omega⟩

theorem lifted (os : Os) (started : os.Started) (H : Type) (enc : TypeId × Value → H) :
    ReturnsInHanded {} Try.checked os 3 .any (Rows.fnStridesSpec.pre6 enc Try.prog Try.f3 Rows.fnStridesRow.domain false) (Rows.fnStridesSpec.post enc Try.prog Try.f3 false true false false) := by
  refine returnsInHanded_of_change (C := Try.checked) own started (by kernel_rfl) Try.func3
    (ChangeSpec.witness6 (enc := enc) (C := Try.checked) false ⟨#[], #[.slice none 0 0], []⟩ 8 (by kernel_rfl) (by kernel_rfl) (by kernel_rfl) (by kernel_rfl)) ?_
  intro W base args ds gs before hval0 hW hcnd _
  have hval : ∀ (j : Nat) t v, Try.f3.params[j]? = some t → args[j]? = some v → Value.okWide Try.prog W .any base t v := hval0
  have hW' := hW
  obtain ⟨p, q, hA0, hV, rfl, hfz, hnd⟩ := hW
  have hA : DataW.TrodAll enc Try.prog W 0 (fun _ => true) true Try.f3.params.toList args.toList ds p := hA0
  rw [Try.params3] at hA hval
  obtain ⟨v0, vs0, d0, ds0, p0, q0, hargs, rfl, rfl, h0, r0⟩ := trodAll_cons hA
  obtain ⟨rfl, rfl, rfl⟩ := trodAll_nil r0
  obtain rfl : args = #[v0] := by cases args; simp_all
  obtain ⟨rfl, rfl⟩ := trodVars_none hV
  have k0 := h0
  have lt0 : ∀ x ∈ p0, x.block < W.heap.size := by obtain ⟨m, hm⟩ := k0; exact DataW.trod_lt m _ _ _ hm
  obtain ⟨ys0, o0, w0⟩ := Trod.slice Try.underlying22 (hval 0 22 v0 rfl rfl) h0 sh_0
  obtain ⟨l0, rfl, q0a, q0b⟩ := ok_map open_5 o0
  clear hA0 hval0
  have hlaw : M.laws_FnStrides l0 = some true := law_FnStrides l0 q0a q0b
  refine (Does.lawL trivial (ok_laws_FnStrides (rn := 0) hlaw) (vs := [v0]) w0).mono fun e W' ⟨he, bel⟩ => ?_
  subst he
  exact ⟨_, rfl, _, _, _, [], _, [], hW', trodAll_mk1 (shut_bool Try.underlying4 _), (trodAll_cons_mk (Below.trod laidOut (by kernel_rfl) (of_decide_eq_true (by kernel_rfl)) k0 bel lt0) trodAll_mk0), rfl, bel.frame _, fun h => by cases h⟩

theorem over : Rows.fnStridesRow.holds Try.pinned (OpenSpec.ofChange Rows.fnStridesSpec) :=
  OpenClaim.holds_of_wide 3 Try.f3 rfl rfl rfl rfl rfl rfl rfl ⟨rfl, rfl, rfl, rfl, rfl⟩ rfl rfl rfl rfl rfl (by kernel_rfl) Try.func3 (by kernel_rfl)
    (of_decide_eq_true (by kernel_rfl)) (by unfold Func.isWrapper; first | (rw [if_pos (by decide +kernel)]; kernel_rfl) | (rw [if_neg (by decide +kernel)]; exact ⟨rfl, rfl⟩))
    (fun os started H enc _ => lifted os started H enc)
end Strides

theorem fnStrides : Rows.FnStridesSaid := Strides.over
#print axioms fnStrides
end Go.Proofs.Yteocnbeefedbkaa
