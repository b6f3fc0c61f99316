/-
  The law FnExactAreCartons answers true for every list of cartons, and leaves what it is called with as it was. No condition.
-/
import Derived.Test.YthaeehmkeiiidaaRows
import Derived.Test.YthaeehmkeiiidaaChecked
import Derived.Test.YthaeehmkeiiidaaCc
import Derived.Test.YthaeehmkeiiidaaVn
set_option linter.unusedSimpArgs false
set_option linter.unusedVariables false
set_option maxRecDepth 100000
namespace Go.Proofs.Ythaeehmkeiiidaa
open Go.VS Go.ChangeShapes Go.WideShapes Go.ChangeAt Go.RowKit
namespace AreCartons

theorem own : ownKnob Try.prog.godebug = none := by kernel_rfl
theorem laidOut : laidOutB Try.prog = true := by kernel_rfl

theorem sh_list : shOf Try.prog 8 31 = some (.sl 5 (.st [.int .i64, .int .i64, .int .i64, .sl 1 (.int .i64), .int .i64])) := by kernel_rfl

theorem open_one (xs : List PV) (h : Sh.ok (.st [.int .i64, .int .i64, .int .i64, .sl 1 (.int .i64), .int .i64]) xs) : ∃ c : Carton, Sh.wrap (.st [.int .i64, .int .i64, .int .i64, .sl 1 (.int .i64), .int .i64]) xs = encCarton 0 c ∧ c.files.length ≤ maxLen := by
  simp only [Sh.ok] at h
  obtain ⟨a, _, rfl, _, h⟩ := okL_int h
  obtain ⟨b, _, rfl, _, h⟩ := okL_int h
  obtain ⟨c, _, rfl, _, h⟩ := okL_int h
  obtain ⟨l, _, rfl, hl, h⟩ := okL_ints h
  obtain ⟨d, _, rfl, _, h⟩ := okL_int h
  simp only [Sh.okL] at h
  subst h
  exact ⟨⟨a, b, c, l, d⟩, rfl, hl⟩

theorem lifted (os : Os) (started : os.Started) (H : Type) (enc : TypeId × Value → H) :
    ReturnsInHanded {} Try.checked os 4 .any (Rows.fnExactAreCartonsSpec.pre6 enc Try.prog Try.f4 Rows.fnExactAreCartonsRow.domain false) (Rows.fnExactAreCartonsSpec.post enc Try.prog Try.f4 false true false false) := by
  refine returnsInHanded_of_change (C := Try.checked) own started (by kernel_rfl) Try.func4
    (ChangeSpec.witness6 (enc := enc) (C := Try.checked) false ⟨#[], #[.slice none 0 0], []⟩ 8 (by kernel_rfl) (by kernel_rfl) (by kernel_rfl) (by kernel_rfl)) ?_
  intro W base args ds gs before hval0 hW hcnd _
  have hval : ∀ (j : Nat) t v, Try.f4.params[j]? = some t → args[j]? = some v → Value.okWide Try.prog W .any base t v := hval0
  have hW' := hW
  obtain ⟨p, q, hA0, hV, rfl, hfz, hnd⟩ := hW
  have hA : DataW.TrodAll enc Try.prog W 0 (fun _ => true) true Try.f4.params.toList args.toList ds p := hA0
  rw [Try.params4] at hA hval
  obtain ⟨v0, vs0, d0, ds0, p0, q0, hargs, rfl, rfl, h0, r0⟩ := trodAll_cons hA
  obtain ⟨rfl, rfl, rfl⟩ := trodAll_nil r0
  obtain rfl : args = #[v0] := by cases args; simp_all
  obtain ⟨rfl, rfl⟩ := trodVars_none hV
  have k0 := h0
  have lt0 : ∀ x ∈ p0, x.block < W.heap.size := by obtain ⟨m, hm⟩ := k0; exact DataW.trod_lt m _ _ _ hm
  obtain ⟨ys, o0, w0⟩ := Trod.slice Try.underlying31 (hval 0 31 v0 rfl rfl) h0 sh_list
  obtain ⟨l, rfl, l0, l1⟩ := ok_map open_one o0
  clear hA0 hval0
  refine ((FnExactAreCartons_ok 0 l (by simp only [maxLen] at l0; omega) (fun c hc => by have := l1 c hc; simp only [maxLen] at this; omega)).law (vs := [v0]) w0).mono fun e W' ⟨he, bel⟩ => ?_
  subst he
  exact ⟨_, rfl, _, _, _, [], _, [], hW', trodAll_mk1 (shut_bool Try.underlying4 _), (trodAll_cons_mk (Below.trod laidOut (by kernel_rfl) (of_decide_eq_true (by kernel_rfl)) k0 bel lt0) trodAll_mk0), rfl, bel.frame _, fun h => by cases h⟩

theorem over : Rows.fnExactAreCartonsRow.holds Try.pinned (OpenSpec.ofChange Rows.fnExactAreCartonsSpec) :=
  OpenClaim.holds_of_wide 4 Try.f4 rfl rfl rfl rfl rfl rfl rfl ⟨rfl, rfl, rfl, rfl, rfl⟩ rfl rfl rfl rfl rfl (by kernel_rfl) Try.func4 (by kernel_rfl)
    (of_decide_eq_true (by kernel_rfl)) (by unfold Func.isWrapper; first | (rw [if_pos (by decide +kernel)]; kernel_rfl) | (rw [if_neg (by decide +kernel)]; exact ⟨rfl, rfl⟩))
    (fun os started H enc _ => lifted os started H enc)
end AreCartons

theorem fnExactAreCartons : Rows.FnExactAreCartonsSaid := AreCartons.over
#print axioms fnExactAreCartons
end Go.Proofs.Ythaeehmkeiiidaa
