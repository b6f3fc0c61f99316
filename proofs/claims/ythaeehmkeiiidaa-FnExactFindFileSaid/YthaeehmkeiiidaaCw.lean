/-
  The law FnExactFindFile answers true for every list of cartons and every file, and leaves what it is called with as it was. No condition.
-/
import Derived.Test.YthaeehmkeiiidaaRows
import Derived.Test.YthaeehmkeiiidaaChecked
import Derived.Test.YthaeehmkeiiidaaCe
import Derived.Test.YthaeehmkeiiidaaVn
set_option linter.unusedSimpArgs false
set_option linter.unusedVariables false
set_option maxRecDepth 100000
namespace Go.Proofs.Ythaeehmkeiiidaa
open Go.VS Go.ChangeShapes Go.WideShapes Go.ChangeAt Go.RowKit
namespace FindFile

theorem own : ownKnob Try.prog.godebug = none := by kernel_rfl
theorem laidOut : laidOutB Try.prog = true := by kernel_rfl

theorem sh_list : shOf Try.prog 8 31 = some (.sl 5 (.st [.int .i64, .int .i64, .int .i64, .sl 1 (.int .i64), .int .i64])) := by kernel_rfl

theorem open_one (xs : List PV) (h : Sh.ok (.st [.int .i64, .int .i64, .int .i64, .sl 1 (.int .i64), .int .i64]) xs) : ∃ c : Carton, Sh.wrap (.st [.int .i64, .int .i64, .int .i64, .sl 1 (.int .i64), .int .i64]) xs = encCarton 0 c ∧ c.files.length ≤ maxLen := by
  simp only [Sh.ok] at h
  obtain ⟨a, _, rfl, _, h⟩ := okL_int h
  obtain ⟨b, _, rfl, _, h⟩ := okL_int h
  obtain ⟨c, _, rfl, _, h⟩ := okL_int h
  obtain ⟨l, _, rfl, hl, h⟩ := okL_ints h
  obtain ⟨d, _, rfl, _, h⟩ := okL_int h
  simp only [Sh.okL] at h
  subst h
  exact ⟨⟨a, b, c, l, d⟩, rfl, hl⟩

theorem lifted (os : Os) (started : os.Started) (H : Type) (enc : TypeId × Value → H) :
    ReturnsInHanded {} Try.checked os 6 .any (Rows.fnExactFindFileSpec.pre6 enc Try.prog Try.f6 Rows.fnExactFindFileRow.domain false) (Rows.fnExactFindFileSpec.post enc Try.prog Try.f6 false true false false) := by
  refine returnsInHanded_of_change (C := Try.checked) own started (by kernel_rfl) Try.func6
    (ChangeSpec.witness6 (enc := enc) (C := Try.checked) false ⟨#[], #[.slice none 0 0, .int .i64 0], []⟩ 8 (by kernel_rfl) (by kernel_rfl) (by kernel_rfl) (by kernel_rfl)) ?_
  intro W base args ds gs before hval0 hW hcnd _
  have hval : ∀ (j : Nat) t v, Try.f6.params[j]? = some t → args[j]? = some v → Value.okWide Try.prog W .any base t v := hval0
  have hW' := hW
  obtain ⟨p, q, hA0, hV, rfl, hfz, hnd⟩ := hW
  have hA : DataW.TrodAll enc Try.prog W 0 (fun _ => true) true Try.f6.params.toList args.toList ds p := hA0
  rw [Try.params6] at hA hval
  obtain ⟨v0, vs0, d0, ds0, p0, q0, hargs, rfl, rfl, h0, r0⟩ := trodAll_cons hA
  obtain ⟨v1, vs1, d1, ds1, p1, q1, rfl, rfl, rfl, h1, r1⟩ := trodAll_cons r0
  obtain ⟨rfl, rfl, rfl⟩ := trodAll_nil r1
  obtain rfl : args = #[v0, v1] := by cases args; simp_all
  obtain ⟨rfl, rfl⟩ := trodVars_none hV
  have k0 := h0
  have lt0 : ∀ x ∈ p0, x.block < W.heap.size := by obtain ⟨m, hm⟩ := k0; exact DataW.trod_lt m _ _ _ hm
  obtain ⟨ys, o0, w0⟩ := Trod.slice Try.underlying31 (hval 0 31 v0 rfl rfl) h0 sh_list
  obtain ⟨l, rfl, l0, l1⟩ := ok_map open_one o0
  obtain ⟨a1, rfl, rfl, rfl, w1⟩ := open_int Try.underlying3 (hval 1 3 v1 rfl rfl) h1
  clear hA0 hval0
  have wi : Reps W (All0 W) true [.int .i64 a1] [.int .i64 a1] := by simp [Reps, Rep]
  refine ((FnExactFindFile_ok 0 l a1 (by simp only [maxLen] at l0; omega) (fun c hc => by have := l1 c hc; simp only [maxLen] at this; omega)).law (vs := [v0, .int .i64 a1]) (w0.append wi)).mono fun e W' ⟨he, bel⟩ => ?_
  subst he
  exact ⟨_, rfl, _, _, _, [], _, [], hW', trodAll_mk1 (shut_bool Try.underlying4 _), (trodAll_cons_mk (Below.trod laidOut (by kernel_rfl) (of_decide_eq_true (by kernel_rfl)) k0 bel lt0) (trodAll_cons_mk (shut_int Try.underlying3 w1) trodAll_mk0)), rfl, bel.frame _, fun h => by cases h⟩

theorem over : Rows.fnExactFindFileRow.holds Try.pinned (OpenSpec.ofChange Rows.fnExactFindFileSpec) :=
  OpenClaim.holds_of_wide 6 Try.f6 rfl rfl rfl rfl rfl rfl rfl ⟨rfl, rfl, rfl, rfl, rfl⟩ rfl rfl rfl rfl rfl (by kernel_rfl) Try.func6 (by kernel_rfl)
    (of_decide_eq_true (by kernel_rfl)) (by unfold Func.isWrapper; first | (rw [if_pos (by decide +kernel)]; kernel_rfl) | (rw [if_neg (by decide +kernel)]; exact ⟨rfl, rfl⟩))
    (fun os started H enc _ => lifted os started H enc)
end FindFile

theorem fnExactFindFile : Rows.FnExactFindFileSaid := FindFile.over
#print axioms fnExactFindFile
end Go.Proofs.Ythaeehmkeiiidaa
