/-
  The program's BrokenSeals returns what the reference's returns, for all arguments.
-/
import Derived.Test.YtpmjemddofcmaaaRows
import Derived.Test.YtpmjemddofcmaaaChecked
import Derived.Test.YtpmjemddofcmaaaQz2
import Derived.Test.YtpmjemddofcmaaaBk
import Derived.Test.YtpmjemddofcmaaaVn
set_option linter.unusedSimpArgs false
set_option linter.unusedVariables false
set_option maxRecDepth 100000
namespace Go.Proofs.Ytpmjemddofcmaaa
open Go.VS Go.ChangeShapes Go.WideShapes Go.ChangeAt Go.RowKit
namespace ExactBrokenSeals

theorem own : ownKnob Try.prog.godebug = none := by kernel_rfl
theorem laidOut : laidOutB Try.prog = true := by kernel_rfl

theorem sh_0 : shOf Try.prog 8 22 = some (.sl 6 (.st [.int .i64, .int .i64, .int .i64, .int .i64, .int .i64, .bool])) := by kernel_rfl

theorem open_3 (xs : List PV) (h : Sh.ok (.int .i64) xs) : ∃ c : Int, Sh.wrap (.int .i64) xs = encInt c ∧ (True) := by
  obtain ⟨n, rfl, hw⟩ := h
  exact ⟨n, rfl, trivial⟩

theorem open_4 (xs : List PV) (h : Sh.ok (.bool) xs) : ∃ c : Bool, Sh.wrap (.bool) xs = encBool c ∧ (True) := by
  obtain ⟨n, rfl⟩ := h
  exact ⟨n, rfl, trivial⟩

theorem open_40 (xs : List PV) (h : Sh.ok (.st [.int .i64, .int .i64, .int .i64, .int .i64, .int .i64, .bool]) xs) : ∃ c : Hand, Sh.wrap (.st [.int .i64, .int .i64, .int .i64, .int .i64, .int .i64, .bool]) xs = encHand c ∧ (True) := by
  simp only [Sh.ok] at h
  obtain ⟨ys0, zs0, rfl, h0, h⟩ := h
  obtain ⟨c0, e0, q0⟩ := open_3 ys0 h0
  simp only [Sh.ok] at h0
  obtain ⟨m0, rfl, _⟩ := h0
  simp only [Sh.wrap] at e0
  cases e0
  obtain ⟨ys1, zs1, rfl, h1, h⟩ := h
  obtain ⟨c1, e1, q1⟩ := open_3 ys1 h1
  simp only [Sh.ok] at h1
  obtain ⟨m1, rfl, _⟩ := h1
  simp only [Sh.wrap] at e1
  cases e1
  obtain ⟨ys2, zs2, rfl, h2, h⟩ := h
  obtain ⟨c2, e2, q2⟩ := open_3 ys2 h2
  simp only [Sh.ok] at h2
  obtain ⟨m2, rfl, _⟩ := h2
  simp only [Sh.wrap] at e2
  cases e2
  obtain ⟨ys3, zs3, rfl, h3, h⟩ := h
  obtain ⟨c3, e3, q3⟩ := open_3 ys3 h3
  simp only [Sh.ok] at h3
  obtain ⟨m3, rfl, _⟩ := h3
  simp only [Sh.wrap] at e3
  cases e3
  obtain ⟨ys4, zs4, rfl, h4, h⟩ := h
  obtain ⟨c4, e4, q4⟩ := open_3 ys4 h4
  simp only [Sh.ok] at h4
  obtain ⟨m4, rfl, _⟩ := h4
  simp only [Sh.wrap] at e4
  cases e4
  obtain ⟨ys5, zs5, rfl, h5, h⟩ := h
  obtain ⟨c5, e5, q5⟩ := open_4 ys5 h5
  simp only [Sh.ok] at h5
  obtain ⟨m5, rfl⟩ := h5
  simp only [Sh.wrap] at e5
  cases e5
  simp only [Sh.okL] at h
  subst h
  refine ⟨⟨c0, c1, c2, c3, c4, c5⟩, ?_, trivial⟩
  simp only [Sh.wrap, List.append_nil, List.cons_append, List.nil_append]
  all_goals rfl

theorem lifted (os : Os) (started : os.Started) (H : Type) (enc : TypeId × Value → H) :
    ReturnsInHanded {} Try.checked os 3 .any (Rows.fnExactBrokenSealsSpec.pre6 enc Try.prog Try.f3 Rows.fnExactBrokenSealsRow.domain false) (Rows.fnExactBrokenSealsSpec.post enc Try.prog Try.f3 false true false false) := by
  refine returnsInHanded_of_change (C := Try.checked) own started (by kernel_rfl) Try.func3
    (ChangeSpec.witness6 (enc := enc) (C := Try.checked) false ⟨#[], #[.slice none 0 0], []⟩ 8 (by kernel_rfl) (by kernel_rfl) (by kernel_rfl) (by kernel_rfl)) ?_
  intro W base args ds gs before hval0 hW hcnd _
  have hval : ∀ (j : Nat) t v, Try.f3.params[j]? = some t → args[j]? = some v → Value.okWide Try.prog W .any base t v := hval0
  have hW' := hW
  obtain ⟨p, q, hA0, hV, rfl, hfz, hnd⟩ := hW
  have hA : DataW.TrodAll enc Try.prog W 0 (fun _ => true) true Try.f3.params.toList args.toList ds p := hA0
  rw [Try.params3] at hA hval
  obtain ⟨v0, vs0, d0, ds0, p0, q0, hargs, rfl, rfl, h0, r0⟩ := trodAll_cons hA
  obtain ⟨rfl, rfl, rfl⟩ := trodAll_nil r0
  obtain rfl : args = #[v0] := by cases args; simp_all
  obtain ⟨rfl, rfl⟩ := trodVars_none hV
  have k0 := h0
  have lt0 : ∀ x ∈ p0, x.block < W.heap.size := by obtain ⟨m, hm⟩ := k0; exact DataW.trod_lt m _ _ _ hm
  obtain ⟨ys0, o0, w0⟩ := Trod.slice Try.underlying22 (hval 0 22 v0 rfl rfl) h0 sh_0
  obtain ⟨l0, rfl, q0a, q0b⟩ := ok_map open_40 o0
  clear hA0 hval0
  have hlaw : M.laws_FnExactBrokenSeals l0 = some true := law_FnExactBrokenSeals l0 q0a
  refine (Does.lawL trivial (ok_laws_FnExactBrokenSeals (rn := 0) hlaw) (vs := [v0]) w0).mono fun e W' ⟨he, bel⟩ => ?_
  subst he
  exact ⟨_, rfl, _, _, _, [], _, [], hW', trodAll_mk1 (shut_bool Try.underlying4 _), (trodAll_cons_mk (Below.trod laidOut (by kernel_rfl) (of_decide_eq_true (by kernel_rfl)) k0 bel lt0) trodAll_mk0), rfl, bel.frame _, fun h => by cases h⟩

theorem over : Rows.fnExactBrokenSealsRow.holds Try.pinned (OpenSpec.ofChange Rows.fnExactBrokenSealsSpec) :=
  OpenClaim.holds_of_wide 3 Try.f3 rfl rfl rfl rfl rfl rfl rfl ⟨rfl, rfl, rfl, rfl, rfl⟩ rfl rfl rfl rfl rfl (by kernel_rfl) Try.func3 (by kernel_rfl)
    (of_decide_eq_true (by kernel_rfl)) (by unfold Func.isWrapper; first | (rw [if_pos (by decide +kernel)]; kernel_rfl) | (rw [if_neg (by decide +kernel)]; exact ⟨rfl, rfl⟩))
    (fun os started H enc _ => lifted os started H enc)
end ExactBrokenSeals

theorem fnExactBrokenSeals : Rows.FnExactBrokenSealsSaid := ExactBrokenSeals.over
#print axioms fnExactBrokenSeals
end Go.Proofs.Ytpmjemddofcmaaa
