/-
  FnExactTestCount: the row's frame over the proof of the Go text and the plain law.
-/
import Derived.Test.YtlpnicmlgckdnaaDoorRows
import Derived.Test.YtlpnicmlgckdnaaDoorChecked
import Derived.Test.YtlpnicmlgckdnaaDoorQt1
import Derived.Test.YtlpnicmlgckdnaaDoorQe
import Derived.Stop.LaidErr
import Derived.Lib.LaidTab
import Derived.Test.YtlpnicmlgckdnaaDoorVn
import Derived.ChangeMaps5
import Derived.Test.YtlpnicmlgckdnaaDoorCards
import Derived.Test.YtlpnicmlgckdnaaDoorTie
import Derived.LaidMore
import Derived.Lay
import Derived.SevenTiedAt
import Derived.Stop.Joined
set_option linter.unusedSimpArgs false
set_option linter.unusedVariables false
set_option maxRecDepth 100000
namespace Go.Proofs.YtlpnicmlgckdnaaDoor
open Go.VS Go.ChangeShapes Go.WideShapes Go.ChangeAt Go.RowKit
namespace ExactTestCount

theorem own : ownKnob Tryd.prog.godebug = none := by kernel_rfl
theorem laidOut : laidOutB Tryd.prog = true := by kernel_rfl

theorem star_ : "*" ++ "errors.errorString" = "*errors.errorString" := by decide
theorem rowE (u : TypeId) (h : Tryd.prog.typeName? 3 u = some "*errors.errorString") : u = 77 :=
  typeName_ptr_named (nm := "errors.errorString") (by rw [star_]; kernel_rfl) (by kernel_rfl) (by decide) u (by rw [star_]; exact h)

theorem lifted (os : Os) (started : os.Started) (H : Type) (enc : TypeId × Value → H) :
    ReturnsInHanded {} Tryd.checked os 6 .any (fun w args => (Rows.fnExactTestCountSpec.pre enc Tryd.prog Tryd.f6 Rows.fnExactTestCountRow.domain false w args ∧ laidMetH Tryd.prog Rows.fnExactTestCountRow.laid w) ∧ sizedMet enc Tryd.prog Tryd.f6 (OpenSpec.ofChange Rows.fnExactTestCountSpec) false w args)
      (Rows.fnExactTestCountSpec.post enc Tryd.prog Tryd.f6 false true false false) := by
  refine returnsInHanded_of_change_and (C := Tryd.checked) (X := fun w _ => laidMetH Tryd.prog Rows.fnExactTestCountRow.laid w) (fun _ _ _ hh h => h.of_heap hh) own started (by kernel_rfl) Tryd.func6
    (ChangeSpec.witness_shaped (enc := enc) (C := Tryd.checked) (os := os) (X := fun w _ => laidMetH Tryd.prog Rows.fnExactTestCountRow.laid w) false (World.laidAll Tryd.prog os Rows.fnExactTestCountRow.laid) #[.string ⟨#[]⟩] 8 (World.laidAll_os _ _ _)
      (World.shaped_of_ZipB (by kernel_rfl) (by kernel_rfl)) (by kernel_rfl) (by kernel_rfl) (by kernel_rfl)
      (by rw [MakeChecks.laidMetH_plain _ _ _ (by kernel_rfl)]; exact laidMet_laidAll _ (by kernel_rfl) (by kernel_rfl))) ?_
  intro W base args ds gs before hval0 hW hcnd _ hLaid _
  have hval : ∀ (j : Nat) t v, Tryd.f6.params[j]? = some t → args[j]? = some v → Value.okWide Tryd.prog W .any base t v := hval0
  have hW' := hW
  obtain ⟨p, q, hA0, hV, rfl, hfz, hnd⟩ := hW
  have hA : DataW.TrodAll enc Tryd.prog W 0 (fun _ => true) true Tryd.f6.params.toList args.toList ds p := hA0
  rw [Tryd.params6] at hA hval
  obtain ⟨v0, vs0, d0, ds0, p0, q0, hargs, rfl, rfl, h0, r0⟩ := trodAll_cons hA
  obtain ⟨rfl, rfl, rfl⟩ := trodAll_nil r0
  obtain rfl : args = #[v0] := by cases args; simp_all
  obtain ⟨rfl, rfl⟩ := trodVars_none hV
  obtain ⟨a0, rfl, rfl, rfl, w0⟩ := Go.ChangeMaps.open_string Tryd.underlying9 (hval 0 9 v0 rfl rfl) h0
  clear hA0 hval0
  have r0' : Reps W (All0 W) true [.str a0.data.toList] [.string a0] := by simp [Reps, Rep]
  have hlaw : M.laws_FnExactTestCount a0.data.toList = some true := law_FnExactTestCount a0.data.toList (by rw [Array.length_toList]; exact w0)
  have hTab : Go.Lib.TabIs Tryd.prog W "internal/strconv.uint64pow10" .u64 Go.Lib.pow10Tab := by
    have h1 := hLaid
    rw [MakeChecks.laidMetH_plain _ _ _ (by kernel_rfl)] at h1
    exact Go.Lib.tabIs_of_head (g := 2) (t := 87) (e := 66) (n := 20) (by kernel_rfl) (by kernel_rfl) (by kernel_rfl) (by kernel_rfl) (by kernel_rfl) (by kernel_rfl) (h1.tail.tail)
  have h1e := hLaid
  rw [MakeChecks.laidMetH_plain _ _ _ (by kernel_rfl)] at h1e
  obtain ⟨_, _, hErrSyntax, _⟩ := laid_sentinel (g := 0) (ti := 54) (h1e.tail.tail.tail.tail) (by kernel_rfl) (by kernel_rfl) Tryd.underlying54 rowE Tryd.underlying77 Tryd.underlying79 rfl rfl Tryd.underlying9 (by kernel_rfl) (by kernel_rfl)
  obtain ⟨_, _, hErrRange, _⟩ := laid_sentinel (g := 1) (ti := 54) (h1e.tail.tail.tail) (by kernel_rfl) (by kernel_rfl) Tryd.underlying54 rowE Tryd.underlying77 Tryd.underlying79 rfl rfl Tryd.underlying9 (by kernel_rfl) (by kernel_rfl)
  refine (Does.lawL ⟨⟨hTab, fun _ _ h => h⟩, ⟨_, _, hErrSyntax, fun _ _ h => h⟩, ⟨_, _, hErrRange, fun _ _ h => h⟩⟩ (ok_laws_FnExactTestCount (rn := 0) hlaw) (vs := [.string a0]) r0').mono fun e W' ⟨he, bel⟩ => ?_
  subst he
  exact ⟨_, rfl, _, _, _, [], _, [], hW', trodAll_mk1 (shut_bool Tryd.underlying4 _), (trodAll_cons_mk (Go.ChangeMaps.shut_string Tryd.underlying9 w0) trodAll_mk0), rfl, bel.frame _, fun h => by cases h⟩

theorem andT {a b : Bool} (ha : a = true) (hb : b = true) : (a && b) = true := by rw [ha, hb]; rfl
theorem nm : Tryd.pinned.checked.prog.funcNamed Rows.fnExactTestCountRow.func = some 6 := by kernel_rfl
set_option maxHeartbeats 4000000 in
theorem joined : joinedFacts Tryd.pinned.checked.prog 6 Tryd.f6 Rows.fnExactTestCountSpec Rows.fnExactTestCountRow = true := by
  unfold joinedFacts
  iterate 9 rw [Bool.and_assoc]
  refine andT ?_ ?_
  · as_aux_lemma => kernel_rfl
  · as_aux_lemma => kernel_rfl
theorem inst : Tryd.f6.isInstance Tryd.pinned.checked.prog Rows.fnExactTestCountRow.origin Rows.fnExactTestCountRow.targs := of_decide_eq_true (by kernel_rfl)
theorem wrap : Tryd.f6.isWrapper Tryd.pinned.checked.prog Rows.fnExactTestCountRow.wrapper Rows.fnExactTestCountRow.mainSum := by
  unfold Func.isWrapper; first | (rw [if_pos (by decide +kernel)]; kernel_rfl) | (rw [if_neg (by decide +kernel)]; exact ⟨rfl, rfl⟩)
theorem over : Rows.fnExactTestCountRow.holds Tryd.pinned (OpenSpec.ofChange Rows.fnExactTestCountSpec) :=
  OpenClaim.holds_of_wide 6 Tryd.f6 rfl rfl rfl rfl rfl rfl rfl ⟨rfl, rfl, rfl, rfl, rfl⟩ rfl rfl rfl rfl rfl nm Tryd.func6 joined inst wrap
    (fun os started H enc _ => lifted os started H enc)
end ExactTestCount

set_option maxHeartbeats 4000000 in
theorem fnExactTestCount : Rows.FnExactTestCountCardSaid :=
  Claim7.holds_tied_plain_at .later [] _ _ _ _ ExactTestCount.over (fun _ h => by cases h) (by as_aux_lemma => kernel_rfl) (fun _ h => by cases h) fnExactTestCount_row_tie rfl ⟨rfl, rfl⟩ (by as_aux_lemma => kernel_rfl) rfl
    (fun f fn hf hfn => by
      obtain rfl : f = 6 := Option.some.inj ((show Tryd.prog.funcNamed Rows.fnExactTestCountRow.func = some 6 from ExactTestCount.nm).symm.trans hf) |>.symm
      obtain rfl : fn = Tryd.f6 := (Option.some.inj (Tryd.func6.symm.trans hfn)).symm
      exact ⟨by as_aux_lemma => kernel_rfl, fun j t ht => by
        rw [Tryd.params6] at ht
        have hm : t ∈ [9] := by simpa using Array.mem_of_getElem? ht
        have hall : ([9].all fun u => !Tryd.prog.wantsStandIn u) = true := by as_aux_lemma => kernel_rfl
        exact (show Tryd.prog.wantsStandIn t = false by simpa using List.all_eq_true.1 hall t hm)⟩)
    (by as_aux_lemma => kernel_rfl)
#print axioms fnExactTestCount
end Go.Proofs.YtlpnicmlgckdnaaDoor
