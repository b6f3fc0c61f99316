/-
  The law FnPages holds: splitting a file keeps all pages of its series, and files closed within days are within more days.
-/
import Derived.Test.YteocnbeefedbkaaDoorRows
import Derived.Test.YteocnbeefedbkaaDoorChecked
import Derived.Test.YteocnbeefedbkaaDoorQg3
import Derived.Test.YteocnbeefedbkaaDoorPg
import Derived.Test.YteocnbeefedbkaaDoorSh
import Derived.Test.YteocnbeefedbkaaDoorVn
import Derived.Test.YteocnbeefedbkaaDoorCards
import Derived.Test.YteocnbeefedbkaaDoorTie
import Derived.LaidMore
import Derived.Lay
import Derived.SevenTiedAt
import Derived.Stop.Joined
set_option linter.unusedSimpArgs false
set_option linter.unusedVariables false
set_option maxRecDepth 100000
namespace Go.Proofs.YteocnbeefedbkaaDoor
open Go.VS Go.ChangeShapes Go.WideShapes Go.ChangeAt Go.RowKit
namespace Pages

theorem own : ownKnob Tryd.prog.godebug = none := by kernel_rfl
theorem laidOut : laidOutB Tryd.prog = true := by kernel_rfl

/-- The row's wrap that keeps both the laid tables and the shape of the first world. -/
theorem keepsShape {H : Type} {enc : TypeId × Value → H} {b : Assume} {K : Checked} {os : Os} {g : FuncId} {fn : Func} {s : ChangeSpec} {cs : List PathCond} {ap fr ha ag : Bool} {Y : World → Array Value → Prop}
    (hY : ∀ (u u' : World) (vs : Array Value), u.heap = u'.heap → Y u vs → Y u' vs) (k0 : ownKnob K.prog.godebug = none) (k1 : os.Started) (k2 : K.prog.inits.idxOf? g = none) (k3 : K.prog.funcs[g]? = some fn)
    (k4 : ∃ (u : World) (tape : Tape) (i : Input), u.os = os ∧ (u.forCall tape i).Shaped K.prog ∧ i.vars = [] ∧ Input.okWide K.prog (u.forCall tape i) .any u.heap.size g i ∧
      ((s.pre enc K.prog fn cs ap (u.forCall tape i).memory i.args ∧ Y (u.forCall tape i).memory i.args) ∧ sizedMet enc K.prog fn (OpenSpec.ofChange s) ap (u.forCall tape i).memory i.args) ∧ b.holds K.prog (lone (Frame.enter K.prog g i.args .normal) [] (u.forCall tape i)))
    (k5 : ∀ (W : World) (base : Nat) (args : Array Value) (ds gs : List (DataW H)) (before : List MemPlace),
      (∀ (j : Nat) t v, fn.params[j]? = some t → args[j]? = some v → Value.okWide K.prog W .any base t v) → DataW.Whole enc K.prog fn.params.toList s.vars ap W args.toList ds gs before →
      cs.all (PathCond.test K.prog ⟨fn.params.toList, ds, s.plain.varTypes K.prog, gs⟩) = true → Y W args → W.ShapedOpen K.prog →
      Calls K.prog g args W fun e W' => ∃ v, e = .returned v ∧ s.post enc K.prog fn ap fr ha ag W args v W') :
    ReturnsInHanded b K os g .any (fun u args => (s.pre enc K.prog fn cs ap u args ∧ Y u args) ∧ sizedMet enc K.prog fn (OpenSpec.ofChange s) ap u args) (s.post enc K.prog fn ap fr ha ag) := by
  refine returnsInHanded_of_calls k0 k1 k2 k4 ?_
  intro u tape i _ hsh _ hok hpre _
  obtain ⟨_, _, _, fn', hfn', _, _, _, _, hval⟩ := hok
  obtain rfl : fn' = fn := Option.some.inj (hfn'.symm.trans k3)
  obtain ⟨⟨⟨ds, gs, before, hw, hc⟩, hx⟩, _⟩ := hpre
  refine (k5 (u.forCall tape i) u.heap.size i.args ds gs before hval (DataW.Whole.of_heap (w' := u.forCall tape i) (by rfl) hw) hc (hY _ _ _ (by rfl) hx) hsh).mono fun e W' ⟨v, he, hp⟩ => ?_
  subst he
  exact ChangeSpec.post_blind hp


theorem sh_0 : shOf Tryd.prog 8 22 = some (.sl 1 (.int .u8)) := by kernel_rfl

theorem open_5 (xs : List PV) (h : Sh.ok (.int .u8) xs) : ∃ c : Int, Sh.wrap (.int .u8) xs = encU8 c ∧ (0 ≤ c ∧ c ≤ 255) := by
  obtain ⟨n, rfl, hw⟩ := h
  exact ⟨n, rfl, by have e1 : IntKind.u8.min = 0 := rfl; have e2 : IntKind.u8.max = 255 := rfl; simp [Lit.wf] at hw; omega⟩

theorem lifted (os : Os) (started : os.Started) (H : Type) (enc : TypeId × Value → H) :
    ReturnsInHanded {} Tryd.checked os 4 .any (fun w args => (Rows.fnPagesSpec.pre enc Tryd.prog Tryd.f4 Rows.fnPagesRow.domain false w args ∧ laidMetH Tryd.prog Rows.fnPagesRow.laid w) ∧ sizedMet enc Tryd.prog Tryd.f4 (OpenSpec.ofChange Rows.fnPagesSpec) false w args)
      (Rows.fnPagesSpec.post enc Tryd.prog Tryd.f4 false true false false) := by
  refine keepsShape (K := Tryd.checked) (Y := fun w _ => laidMetH Tryd.prog Rows.fnPagesRow.laid w) (fun _ _ _ hh h => h.of_heap hh) own started (by kernel_rfl) Tryd.func4
    (ChangeSpec.witness_shaped (enc := enc) (C := Tryd.checked) (os := os) (X := fun w _ => laidMetH Tryd.prog Rows.fnPagesRow.laid w) false (World.laidAll Tryd.prog os Rows.fnPagesRow.laid) #[.slice none 0 0] 8 (World.laidAll_os _ _ _)
      (World.shaped_of_ZipB (by kernel_rfl) (by kernel_rfl)) (by kernel_rfl) (by kernel_rfl) (by kernel_rfl)
      (by rw [MakeChecks.laidMetH_plain _ _ _ (by kernel_rfl)]; exact laidMet_laidAll _ (by kernel_rfl) (by kernel_rfl))) ?_
  intro W base args ds gs before hval0 hW hcnd hLaid hsh
  have hval : ∀ (j : Nat) t v, Tryd.f4.params[j]? = some t → args[j]? = some v → Value.okWide Tryd.prog W .any base t v := hval0
  have hW' := hW
  obtain ⟨p, q, hA0, hV, rfl, hfz, hnd⟩ := hW
  have hA : DataW.TrodAll enc Tryd.prog W 0 (fun _ => true) true Tryd.f4.params.toList args.toList ds p := hA0
  rw [Tryd.params4] at hA hval
  obtain ⟨v0, vs0, d0, ds0, p0, q0, hargs, rfl, rfl, h0, r0⟩ := trodAll_cons hA
  obtain ⟨rfl, rfl, rfl⟩ := trodAll_nil r0
  obtain rfl : args = #[v0] := by cases args; simp_all
  obtain ⟨rfl, rfl⟩ := trodVars_none hV
  have k0 := h0
  have lt0 : ∀ x ∈ p0, x.block < W.heap.size := by obtain ⟨m, hm⟩ := k0; exact DataW.trod_lt m _ _ _ hm
  obtain ⟨ys0, o0, w0⟩ := Trod.slice Tryd.underlying22 (hval 0 22 v0 rfl rfl) h0 sh_0
  obtain ⟨l0, rfl, q0a, q0b⟩ := ok_map open_5 o0
  clear hA0 hval0
  have hlaw : M.laws_FnPages l0 = some true := law_FnPages l0 q0a q0b
  obtain ⟨mx, hmx⟩ := Tryd.laysM_143.s1_3 W hsh
  refine (Does.lawL ⟨_, mx, Tryd.laysM_143.m1, hmx, fun h => h⟩ (ok_laws_FnPages (rn := 0) hlaw) (vs := [v0]) w0).mono fun e W' ⟨he, bel⟩ => ?_
  subst he
  exact ⟨_, rfl, _, _, _, [], _, [], hW', trodAll_mk1 (shut_bool Tryd.underlying4 _), (trodAll_cons_mk (Below.trod laidOut (by kernel_rfl) (of_decide_eq_true (by kernel_rfl)) k0 bel lt0) trodAll_mk0), rfl, bel.frame _, fun h => by cases h⟩

theorem andT {a b : Bool} (ha : a = true) (hb : b = true) : (a && b) = true := by rw [ha, hb]; rfl
theorem nm : Tryd.pinned.checked.prog.funcNamed Rows.fnPagesRow.func = some 4 := by kernel_rfl
set_option maxHeartbeats 4000000 in
theorem joined : joinedFacts Tryd.pinned.checked.prog 4 Tryd.f4 Rows.fnPagesSpec Rows.fnPagesRow = true := by
  unfold joinedFacts
  iterate 9 rw [Bool.and_assoc]
  refine andT ?_ ?_
  · as_aux_lemma => kernel_rfl
  · as_aux_lemma => kernel_rfl
theorem inst : Tryd.f4.isInstance Tryd.pinned.checked.prog Rows.fnPagesRow.origin Rows.fnPagesRow.targs := of_decide_eq_true (by kernel_rfl)
theorem wrap : Tryd.f4.isWrapper Tryd.pinned.checked.prog Rows.fnPagesRow.wrapper Rows.fnPagesRow.mainSum := by
  unfold Func.isWrapper; first | (rw [if_pos (by decide +kernel)]; kernel_rfl) | (rw [if_neg (by decide +kernel)]; exact ⟨rfl, rfl⟩)
theorem over : Rows.fnPagesRow.holds Tryd.pinned (OpenSpec.ofChange Rows.fnPagesSpec) :=
  OpenClaim.holds_of_wide 4 Tryd.f4 rfl rfl rfl rfl rfl rfl rfl ⟨rfl, rfl, rfl, rfl, rfl⟩ rfl rfl rfl rfl rfl nm Tryd.func4 joined inst wrap
    (fun os started H enc _ => lifted os started H enc)
end Pages

set_option maxHeartbeats 4000000 in
theorem fnPages : Rows.FnPagesCardSaid :=
  Claim7.holds_tied_plain_at .later [] _ _ _ _ Pages.over (fun _ h => by cases h) (by as_aux_lemma => kernel_rfl) (fun _ h => by cases h) fnPages_row_tie rfl ⟨rfl, rfl⟩ (by as_aux_lemma => kernel_rfl) rfl
    (fun f fn hf hfn => by
      obtain rfl : f = 4 := Option.some.inj ((show Tryd.prog.funcNamed Rows.fnPagesRow.func = some 4 from Pages.nm).symm.trans hf) |>.symm
      obtain rfl : fn = Tryd.f4 := (Option.some.inj (Tryd.func4.symm.trans hfn)).symm
      exact ⟨by as_aux_lemma => kernel_rfl, fun j t ht => by
        rw [Tryd.params4] at ht
        have hm : t ∈ [22] := by simpa using Array.mem_of_getElem? ht
        have hall : ([22].all fun u => !Tryd.prog.wantsStandIn u) = true := by as_aux_lemma => kernel_rfl
        exact (show Tryd.prog.wantsStandIn t = false by simpa using List.all_eq_true.1 hall t hm)⟩)
    (by as_aux_lemma => kernel_rfl)
#print axioms fnPages
end Go.Proofs.YteocnbeefedbkaaDoor
