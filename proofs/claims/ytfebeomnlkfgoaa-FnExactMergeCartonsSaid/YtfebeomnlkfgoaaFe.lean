/-
  The program's MergeCartons returns what the reference's returns, for all arguments.
-/
import Derived.Test.YtfebeomnlkfgoaaRows
import Derived.Test.YtfebeomnlkfgoaaChecked
import Derived.Test.YtfebeomnlkfgoaaQe2
import Derived.Test.YtfebeomnlkfgoaaDt
import Derived.Test.YtfebeomnlkfgoaaVn
set_option linter.unusedSimpArgs false
set_option linter.unusedVariables false
set_option maxRecDepth 100000
namespace Go.Proofs.Ytfebeomnlkfgoaa
open Go.VS Go.ChangeShapes Go.WideShapes Go.ChangeAt Go.RowKit
namespace ExactMergeCartons

theorem own : ownKnob Try.prog.godebug = none := by kernel_rfl
theorem laidOut : laidOutB Try.prog = true := by kernel_rfl

theorem sh_0 : shOf Try.prog 8 34 = some (.sl 5 (.st [.int .i64, .int .i64, .int .i64, .sl 1 (.int .i64), .int .i64])) := by kernel_rfl

theorem open_3 (xs : List PV) (h : Sh.ok (.int .i64) xs) : ∃ c : Int, Sh.wrap (.int .i64) xs = encInt c ∧ (True) := by
  obtain ⟨n, rfl, hw⟩ := h
  exact ⟨n, rfl, trivial⟩

theorem open_36 (xs : List PV) (h : Sh.ok (.sl 1 (.int .i64)) xs) : ∃ c : List Int, Sh.wrap (.sl 1 (.int .i64)) xs = (encL 0 1 encInt) c ∧ (c.length ≤ maxLen) := by
  obtain ⟨l, e1, h1, h2⟩ := ok_map open_3 h
  subst e1
  exact ⟨l, rfl, h1⟩

theorem open_80 (xs : List PV) (h : Sh.ok (.st [.int .i64, .int .i64, .int .i64, .sl 1 (.int .i64), .int .i64]) xs) : ∃ c : Carton, Sh.wrap (.st [.int .i64, .int .i64, .int .i64, .sl 1 (.int .i64), .int .i64]) xs = (encCarton 0) c ∧ ((c.Files.length ≤ maxLen)) := by
  simp only [Sh.ok] at h
  obtain ⟨ys0, zs0, rfl, h0, h⟩ := h
  obtain ⟨c0, e0, q0⟩ := open_3 ys0 h0
  simp only [Sh.ok] at h0
  obtain ⟨m0, rfl, _⟩ := h0
  simp only [Sh.wrap] at e0
  cases e0
  obtain ⟨ys1, zs1, rfl, h1, h⟩ := h
  obtain ⟨c1, e1, q1⟩ := open_3 ys1 h1
  simp only [Sh.ok] at h1
  obtain ⟨m1, rfl, _⟩ := h1
  simp only [Sh.wrap] at e1
  cases e1
  obtain ⟨ys2, zs2, rfl, h2, h⟩ := h
  obtain ⟨c2, e2, q2⟩ := open_3 ys2 h2
  simp only [Sh.ok] at h2
  obtain ⟨m2, rfl, _⟩ := h2
  simp only [Sh.wrap] at e2
  cases e2
  obtain ⟨ys3, zs3, rfl, h3, h⟩ := h
  obtain ⟨c3, e3, q3⟩ := open_36 ys3 h3
  simp only [Sh.ok] at h3
  obtain ⟨m3, rfl, _⟩ := h3
  simp only [Sh.wrap] at e3
  simp only [PV.vl.injEq, true_and] at e3
  obtain ⟨ys4, zs4, rfl, h4, h⟩ := h
  obtain ⟨c4, e4, q4⟩ := open_3 ys4 h4
  simp only [Sh.ok] at h4
  obtain ⟨m4, rfl, _⟩ := h4
  simp only [Sh.wrap] at e4
  cases e4
  simp only [Sh.okL] at h
  subst h
  refine ⟨⟨c0, c1, c2, c3, c4⟩, ?_, q3⟩
  simp only [Sh.wrap, List.append_nil, List.cons_append, List.nil_append]
  simp only [e3]

theorem lifted (os : Os) (started : os.Started) (H : Type) (enc : TypeId × Value → H) :
    ReturnsInHanded {} Try.checked os 8 .any (Rows.fnExactMergeCartonsSpec.pre6 enc Try.prog Try.f8 Rows.fnExactMergeCartonsRow.domain false) (Rows.fnExactMergeCartonsSpec.post enc Try.prog Try.f8 false true false false) := by
  refine returnsInHanded_of_change (C := Try.checked) own started (by kernel_rfl) Try.func8
    (ChangeSpec.witness6 (enc := enc) (C := Try.checked) false ⟨#[], #[.slice none 0 0, .int .i64 0, .int .i64 0], []⟩ 8 (by kernel_rfl) (by kernel_rfl) (by kernel_rfl) (by kernel_rfl)) ?_
  intro W base args ds gs before hval0 hW hcnd _
  have hval : ∀ (j : Nat) t v, Try.f8.params[j]? = some t → args[j]? = some v → Value.okWide Try.prog W .any base t v := hval0
  have hW' := hW
  obtain ⟨p, q, hA0, hV, rfl, hfz, hnd⟩ := hW
  have hA : DataW.TrodAll enc Try.prog W 0 (fun _ => true) true Try.f8.params.toList args.toList ds p := hA0
  rw [Try.params8] at hA hval
  obtain ⟨v0, vs0, d0, ds0, p0, q0, hargs, rfl, rfl, h0, r0⟩ := trodAll_cons hA
  obtain ⟨v1, vs1, d1, ds1, p1, q1, rfl, rfl, rfl, h1, r1⟩ := trodAll_cons r0
  obtain ⟨v2, vs2, d2, ds2, p2, q2, rfl, rfl, rfl, h2, r2⟩ := trodAll_cons r1
  obtain ⟨rfl, rfl, rfl⟩ := trodAll_nil r2
  obtain rfl : args = #[v0, v1, v2] := by cases args; simp_all
  obtain ⟨rfl, rfl⟩ := trodVars_none hV
  have k0 := h0
  have lt0 : ∀ x ∈ p0, x.block < W.heap.size := by obtain ⟨m, hm⟩ := k0; exact DataW.trod_lt m _ _ _ hm
  obtain ⟨ys0, o0, w0⟩ := Trod.slice Try.underlying34 (hval 0 34 v0 rfl rfl) h0 sh_0
  obtain ⟨l0, rfl, q0a, q0b⟩ := ok_map open_80 o0
  obtain ⟨a1, rfl, rfl, rfl, w1⟩ := open_int Try.underlying3 (hval 1 3 v1 rfl rfl) h1
  obtain ⟨a2, rfl, rfl, rfl, w2⟩ := open_int Try.underlying3 (hval 2 3 v2 rfl rfl) h2
  clear hA0 hval0
  have r1' : Reps W (All0 W) true [.int .i64 a1] [.int .i64 a1] := by simp [Reps, Rep]
  have r2' : Reps W (All0 W) true [.int .i64 a2] [.int .i64 a2] := by simp [Reps, Rep]
  have hlaw : M.laws_FnExactMergeCartons l0 a1 a2 = some true := law_FnExactMergeCartons l0 a1 a2 q0a q0b
  refine ((ok_laws_FnExactMergeCartons (rn := 0) hlaw).law (vs := [v0, .int .i64 a1, .int .i64 a2]) (w0.append (r1'.append r2'))).mono fun e W' ⟨he, bel⟩ => ?_
  subst he
  exact ⟨_, rfl, _, _, _, [], _, [], hW', trodAll_mk1 (shut_bool Try.underlying4 _), (trodAll_cons_mk (Below.trod laidOut (by kernel_rfl) (of_decide_eq_true (by kernel_rfl)) k0 bel lt0) (trodAll_cons_mk (shut_int Try.underlying3 w1) (trodAll_cons_mk (shut_int Try.underlying3 w2) trodAll_mk0))), rfl, bel.frame _, fun h => by cases h⟩

theorem over : Rows.fnExactMergeCartonsRow.holds Try.pinned (OpenSpec.ofChange Rows.fnExactMergeCartonsSpec) :=
  OpenClaim.holds_of_wide 8 Try.f8 rfl rfl rfl rfl rfl rfl rfl ⟨rfl, rfl, rfl, rfl, rfl⟩ rfl rfl rfl rfl rfl (by kernel_rfl) Try.func8 (by kernel_rfl)
    (of_decide_eq_true (by kernel_rfl)) (by unfold Func.isWrapper; first | (rw [if_pos (by decide +kernel)]; kernel_rfl) | (rw [if_neg (by decide +kernel)]; exact ⟨rfl, rfl⟩))
    (fun os started H enc _ => lifted os started H enc)
end ExactMergeCartons

theorem fnExactMergeCartons : Rows.FnExactMergeCartonsSaid := ExactMergeCartons.over
#print axioms fnExactMergeCartons
end Go.Proofs.Ytfebeomnlkfgoaa
