/-
  The law FnExactIsCarton answers true for every carton, and leaves what it is called with as it was. No condition.
-/
import Derived.Test.YthaeehmkeiiidaaRows
import Derived.Test.YthaeehmkeiiidaaChecked
import Derived.Test.YthaeehmkeiiidaaCa
import Derived.Test.YthaeehmkeiiidaaVn
set_option linter.unusedSimpArgs false
set_option linter.unusedVariables false
set_option maxRecDepth 100000
namespace Go.Proofs.Ythaeehmkeiiidaa
open Go.VS Go.ChangeShapes Go.WideShapes Go.ChangeAt Go.RowKit

theorem own : ownKnob Try.prog.godebug = none := by kernel_rfl
theorem laidOut : laidOutB Try.prog = true := by kernel_rfl

theorem sh_lawCarton : shOf Try.prog 8 24 = some (.st [.int .i64, .int .i64, .int .i64, .sl 1 (.int .i64), .int .i64]) := by kernel_rfl

theorem open_carton {xs : List PV} (h : Sh.ok (.st [.int .i64, .int .i64, .int .i64, .sl 1 (.int .i64), .int .i64]) xs) : ∃ c : Carton, .agg xs = encCarton 0 c ∧ c.files.length ≤ maxLen := by
  simp only [Sh.ok] at h
  obtain ⟨a, _, rfl, _, h⟩ := okL_int h
  obtain ⟨b, _, rfl, _, h⟩ := okL_int h
  obtain ⟨c, _, rfl, _, h⟩ := okL_int h
  obtain ⟨l, _, rfl, hl, h⟩ := okL_ints h
  obtain ⟨d, _, rfl, _, h⟩ := okL_int h
  simp only [Sh.okL] at h
  subst h
  exact ⟨⟨a, b, c, l, d⟩, rfl, hl⟩

namespace IsCarton
theorem lifted (os : Os) (started : os.Started) (H : Type) (enc : TypeId × Value → H) :
    ReturnsInHanded {} Try.checked os 3 .any (Rows.fnExactIsCartonSpec.pre6 enc Try.prog Try.f3 Rows.fnExactIsCartonRow.domain false) (Rows.fnExactIsCartonSpec.post enc Try.prog Try.f3 false true false false) := by
  refine returnsInHanded_of_change (C := Try.checked) own started (by kernel_rfl) Try.func3
    (ChangeSpec.witness6 (enc := enc) (C := Try.checked) false ⟨#[], #[.agg #[.int .i64 0, .int .i64 0, .int .i64 0, .slice none 0 0, .int .i64 0]], []⟩ 8 (by kernel_rfl) (by kernel_rfl) (by kernel_rfl) (by kernel_rfl)) ?_
  intro W base args ds gs before hval0 hW hcnd _
  have hval : ∀ (j : Nat) t v, Try.f3.params[j]? = some t → args[j]? = some v → Value.okWide Try.prog W .any base t v := hval0
  have hW' := hW
  obtain ⟨p, q, hA0, hV, rfl, hfz, hnd⟩ := hW
  have hA : DataW.TrodAll enc Try.prog W 0 (fun _ => true) true Try.f3.params.toList args.toList ds p := hA0
  rw [Try.params3] at hA hval
  obtain ⟨v0, vs0, d0, ds0, p0, q0, hargs, rfl, rfl, h0, r0⟩ := trodAll_cons hA
  obtain ⟨rfl, rfl, rfl⟩ := trodAll_nil r0
  obtain rfl : args = #[v0] := by cases args; simp_all
  obtain ⟨rfl, rfl⟩ := trodVars_none hV
  have k0 := h0
  have lt0 : ∀ x ∈ p0, x.block < W.heap.size := by obtain ⟨m, hm⟩ := k0; exact DataW.trod_lt m _ _ _ hm
  obtain ⟨ys, o0, w0⟩ := Trod.agg Try.underlying24 (hval 0 24 v0 rfl rfl) h0 sh_lawCarton
  obtain ⟨c, e0, l0⟩ := open_carton o0
  rw [e0] at w0
  clear hA0 hval0
  refine ((FnExactIsCarton_ok 0 0 c (by simp only [maxLen] at l0; omega)).law (vs := [v0]) (Reps.cons_iff.2 ⟨v0, [], rfl, w0, Reps.nil_iff.2 rfl⟩)).mono fun e W' ⟨he, bel⟩ => ?_
  subst he
  exact ⟨_, rfl, _, _, _, [], _, [], hW', trodAll_mk1 (shut_bool Try.underlying4 _), (trodAll_cons_mk (Below.trod laidOut (by kernel_rfl) (of_decide_eq_true (by kernel_rfl)) k0 bel lt0) trodAll_mk0), rfl, bel.frame _, fun h => by cases h⟩

theorem over : Rows.fnExactIsCartonRow.holds Try.pinned (OpenSpec.ofChange Rows.fnExactIsCartonSpec) :=
  OpenClaim.holds_of_wide 3 Try.f3 rfl rfl rfl rfl rfl rfl rfl ⟨rfl, rfl, rfl, rfl, rfl⟩ rfl rfl rfl rfl rfl (by kernel_rfl) Try.func3 (by kernel_rfl)
    (of_decide_eq_true (by kernel_rfl)) (by unfold Func.isWrapper; first | (rw [if_pos (by decide +kernel)]; kernel_rfl) | (rw [if_neg (by decide +kernel)]; exact ⟨rfl, rfl⟩))
    (fun os started H enc _ => lifted os started H enc)
end IsCarton

theorem fnExactIsCarton : Rows.FnExactIsCartonSaid := IsCarton.over
#print axioms fnExactIsCarton
end Go.Proofs.Ythaeehmkeiiidaa
