/-
  Strides: samples by series, and the law. Plain.
-/
import Derived.Test.YteocnbeefedbkaaSd
set_option linter.unusedSimpArgs false
set_option linter.unusedVariables false
namespace Go.Proofs.Yteocnbeefedbkaa
open Go.VS

/-! ### What is taken, with the seed that is left -/
theorem sfTakeI (l0 : List Int) (n : Nat) (s0 : Int) (hn : n ≤ l0.length) (hl : l0.length ≤ 1000) (hs : 0 ≤ s0 ∧ s0 ≤ 99999) : M.impl_taken l0 (n : Int) s0 = some (tk n l0 s0, nxtN n s0) := by
  apply T.eq
  unfold M.impl_taken M.slices_Clone_int_int
  rw [asrt_pos (by omega), Option.bind_some]
  refine T.then (Q := fun r => r = (nxtN n s0, tk n l0 s0)) (T_iter (fun s => ∃ k : Nat, s.2.2.2 = (k : Int) ∧ k ≤ n ∧ s.2.1.length + k = l0.length ∧ s.2.2.1.length = k ∧ s.2.2.1 ++ tk (n - k) s.2.1 s.1 = tk n l0 s0 ∧ nxtN (n - k) s.1 = nxtN n s0 ∧ 0 ≤ s.1 ∧ s.1 ≤ 99999) (fun s => n - s.2.2.2.toNat) _ ⟨0, rfl, by omega, by simp, rfl, rfl, rfl, hs.1, hs.2⟩ (by simp only; omega) ?_) (fun r hr => by subst hr; exact T_ret rfl)
  rintro ⟨seed, left, out, _⟩ ⟨k, rfl, h1, h2, h3, h4, h7, h5, h6⟩
  simp only at h2 h3 h4 h5 h6 h7
  unfold M.impl_taken_l0
  dsimp only
  refine T_if (fun hq => ?_) (fun hq => ?_)
  · simp only [decide_eq_true_eq] at hq
    obtain ⟨a, ha, hal⟩ := at_bd (l := left) (by omega) h5
    have hd := delAtI left a hal (by omega)
    have hnx : M.impl_nextSeed seed = some (nxt seed) := rfl
    rw [ha]
    refine T_ask (by omega) (T_ask ⟨by omega, by omega⟩ (T_ask (by rw [List.length_singleton]; omega) ?_))
    rw [wrap64_id (n := (a : Int) + 1) (by omega) (by omega), hd, Option.bind_some, hnx, Option.bind_some, Int.toNat_natCast, wrap64_id (n := (k : Int) + 1) (by omega) (by omega)]
    obtain ⟨m, hm⟩ : ∃ m, n - k = m + 1 := ⟨n - k - 1, by omega⟩
    rw [hm] at h4 h7
    rw [tk_s, ha, Int.toNat_natCast] at h4
    refine T_ret ⟨⟨k + 1, rfl, by omega, ?_, by rw [List.length_append, h3]; rfl, ?_, ?_, nxt_bd ⟨h5, h6⟩⟩, by simp only; omega⟩
    · simp only
      rw [List.length_append, List.length_take, List.length_drop]; omega
    · simp only
      rw [show n - (k + 1) = m by omega, List.append_assoc]
      exact h4
    · simp only
      rw [show n - (k + 1) = m by omega]
      exact h7
  · simp only [decide_eq_false_iff_not] at hq
    have : n - k = 0 := by omega
    rw [this] at h4 h7
    rw [tk_z, List.append_nil] at h4
    exact T_ret (Prod.ext h7 h4)
theorem sfTakeS (l0 : List Int) (n : Nat) (s0 : Int) (hn : n ≤ l0.length) (hl : l0.length ≤ 1000) (hs : 0 ≤ s0 ∧ s0 ≤ 99999) : M.spec_l12Take l0 (n : Int) s0 = some (tk n l0 s0, nxtN n s0) := by
  apply T.eq
  unfold M.spec_l12Take M.spec_l1Own
  rw [asrt_pos (by simp; omega), Option.bind_some, List.nil_append]
  refine T.then (Q := fun r => r = (nxtN n s0, tk n l0 s0)) (T_iter (fun s => ∃ k : Nat, s.2.2.2 = (k : Int) ∧ k ≤ n ∧ s.2.1.length + k = l0.length ∧ s.2.2.1.length = k ∧ s.2.2.1 ++ tk (n - k) s.2.1 s.1 = tk n l0 s0 ∧ nxtN (n - k) s.1 = nxtN n s0 ∧ 0 ≤ s.1 ∧ s.1 ≤ 99999) (fun s => n - s.2.2.2.toNat) _ ⟨0, rfl, by omega, by simp, rfl, rfl, rfl, hs.1, hs.2⟩ (by simp only; omega) ?_) (fun r hr => by subst hr; exact T_ret rfl)
  rintro ⟨seed, left, out, _⟩ ⟨k, rfl, h1, h2, h3, h4, h7, h5, h6⟩
  simp only at h2 h3 h4 h5 h6 h7
  unfold M.spec_l12Take_l0
  dsimp only
  refine T_if (fun hq => ?_) (fun hq => ?_)
  · simp only [decide_eq_true_eq] at hq
    obtain ⟨a, ha, hal⟩ := at_bd (l := left) (by omega) h5
    have hnx : M.spec_l12Next seed = some (nxt seed) := rfl
    have e1 := (slc_take (l := left) (k := a) (by omega)).1
    have e2 := (slc_take (l := left) (k := a + 1) (by omega)).2
    rw [cast_succ] at e2
    rw [ha]
    refine T_ask (by omega) (T_ask ⟨by omega, by omega⟩ (T_ask (by rw [List.length_singleton]; omega) (T_ask ⟨by omega, by omega, by omega⟩ ?_)))
    unfold M.spec_l1Own
    rw [e1, List.nil_append, T_bind]
    refine T_ask (by simp only [List.length_nil, List.length_take]; omega) (T_ret ?_)
    rw [wrap64_id (n := (a : Int) + 1) (by omega) (by omega), e2]
    refine T_ask ⟨by omega, by omega, by omega⟩ (T_ask (by simp only [List.length_take, List.length_drop]; omega) ?_)
    rw [hnx, Option.bind_some, Int.toNat_natCast, wrap64_id (n := (k : Int) + 1) (by omega) (by omega)]
    obtain ⟨m, hm⟩ : ∃ m, n - k = m + 1 := ⟨n - k - 1, by omega⟩
    rw [hm] at h4 h7
    rw [tk_s, ha, Int.toNat_natCast] at h4
    refine T_ret ⟨⟨k + 1, rfl, by omega, ?_, by rw [List.length_append, h3]; rfl, ?_, ?_, nxt_bd ⟨h5, h6⟩⟩, by simp only; omega⟩
    · simp only
      rw [List.length_append, List.length_take, List.length_drop]; omega
    · simp only
      rw [show n - (k + 1) = m by omega, List.append_assoc]
      exact h4
    · simp only
      rw [show n - (k + 1) = m by omega]
      exact h7
  · simp only [decide_eq_false_iff_not] at hq
    have : n - k = 0 := by omega
    rw [this] at h4 h7
    rw [tk_z, List.append_nil] at h4
    exact T_ret (Prod.ext h7 h4)

/-! ### Records in a series -/
def idsIn (l : List Record) (s : Int) : List Int := (l.filter fun r => r.Series == s).map (·.Id)
def InD (l : List Record) (s : Int) : List Int × Bool := bif recsOk l && inR s 1 99 then (idsIn l s, true) else ([], false)
theorem InI (l : List Record) (s : Int) (hl : RecsB l) : M.impl_InSeries l s = some (InD l s) := by
  have h1 := hl.1
  unfold M.impl_InSeries InD
  rw [recsI l hl, Option.bind_some, isIdI]
  cases recsOk l
  · rfl
  cases inR s 1 99
  · rfl
  simp only [Bool.not_true, cond_false, Option.bind_some, Bool.or_self, Bool.and_self, cond_true]
  rw [iter_coll (s := (([] : List Int), (0 : Int))) (step := M.impl_InSeries_l0 l s) (fun a k => (a, (k : Int))) (fun r : Record => bif r.Series == s then [r.Id] else []) id l rfl (by omega) (fun k _ => if_len _ _) (fun a k hk ha => by
    unfold M.impl_InSeries_l0
    simp (disch := first | omega | (intros; simp only [decide_eq_true_eq, decide_eq_false_iff_not, Bool.not_eq_true, Bool.not_eq_false, Bool.not_true, Bool.not_false] at *; omega)) only [cast_succ, asrt_pos, wrap64_id, Option.bind_some, cond_true, cond_false, decide_eq_true, decide_eq_false, Int.toNat_natCast, Bool.not_true, Bool.not_false, Bool.and_true, Bool.true_and, Bool.and_false, Bool.false_and, Bool.or_true, Bool.true_or, Bool.or_false, Bool.false_or, app_if, List.length_singleton]
    cases (l.getD k default).Series == s <;> simp <;> (try (rw [asrt_pos (by simp; omega)]; rfl))) (fun a ha => by
    unfold M.impl_InSeries_l0
    simp (disch := first | omega | (intros; simp only [decide_eq_true_eq, decide_eq_false_iff_not, Bool.not_eq_true, Bool.not_eq_false, Bool.not_true, Bool.not_false] at *; omega)) only [cast_succ, asrt_pos, wrap64_id, Option.bind_some, cond_true, cond_false, decide_eq_true, decide_eq_false, Int.toNat_natCast, Bool.not_true, Bool.not_false, Bool.and_true, Bool.true_and, Bool.and_false, Bool.false_and, Bool.or_true, Bool.true_or, Bool.or_false, Bool.false_or, id])]
  simp only [id, Option.bind_some, flatMap_if]
  rfl
theorem InS (l : List Record) (s : Int) (hl : RecsB l) : M.spec_InSeries l s = some (InD l s) := by
  have h1 := hl.1
  unfold M.spec_InSeries InD
  rw [recsS l hl, Option.bind_some, l1InS]
  cases recsOk l
  · rfl
  cases inR s 1 99
  · rfl
  simp only [Bool.not_true, cond_false, Option.bind_some, Bool.or_self, Bool.and_self, cond_true]
  rw [iter_coll (s := (([] : List Int), (0 : Int))) (step := M.spec_InSeries_l0 l s) (fun a k => (a, (k : Int))) (fun r : Record => bif r.Series == s then [r.Id] else []) id l rfl (by omega) (fun k _ => if_len _ _) (fun a k hk ha => by
    unfold M.spec_InSeries_l0
    simp (disch := first | omega | (intros; simp only [decide_eq_true_eq, decide_eq_false_iff_not, Bool.not_eq_true, Bool.not_eq_false, Bool.not_true, Bool.not_false] at *; omega)) only [cast_succ, asrt_pos, wrap64_id, Option.bind_some, cond_true, cond_false, decide_eq_true, decide_eq_false, Int.toNat_natCast, Bool.not_true, Bool.not_false, Bool.and_true, Bool.true_and, Bool.and_false, Bool.false_and, Bool.or_true, Bool.true_or, Bool.or_false, Bool.false_or, app_if, List.length_singleton]
    cases (l.getD k default).Series == s <;> simp <;> (try (rw [asrt_pos (by simp; omega)]; rfl))) (fun a ha => by
    unfold M.spec_InSeries_l0
    simp (disch := first | omega | (intros; simp only [decide_eq_true_eq, decide_eq_false_iff_not, Bool.not_eq_true, Bool.not_eq_false, Bool.not_true, Bool.not_false] at *; omega)) only [cast_succ, asrt_pos, wrap64_id, Option.bind_some, cond_true, cond_false, decide_eq_true, decide_eq_false, Int.toNat_natCast, Bool.not_true, Bool.not_false, Bool.and_true, Bool.true_and, Bool.and_false, Bool.false_and, Bool.or_true, Bool.true_or, Bool.or_false, Bool.false_or, id])]
  simp only [id, Option.bind_some, flatMap_if]
  rfl
theorem sfRecs {l : List Record} (h : recsOk l = true) : l.length ≤ 10 ∧ l.Pairwise (fun a b => a.Id < b.Id) ∧ ∀ r ∈ l, recOk r = true := by
  unfold recsOk at h
  simp only [Bool.and_eq_true, decide_eq_true_eq] at h
  obtain ⟨h1, h2⟩ := h
  rw [rise_pw (fun a b c g1 g2 => by simp only [decide_eq_false_iff_not] at *; omega)] at h1
  refine ⟨by omega, h1.2.imp (fun g => by simp only [decide_eq_false_iff_not] at g; omega), fun x hx => ?_⟩
  have := h1.1 x hx
  simpa using this
theorem sfIds_len {l : List Record} {s : Int} : (idsIn l s).length ≤ l.length := by unfold idsIn; rw [List.length_map]; exact List.length_filter_le _ _
theorem sfIds_nodup {l : List Record} (h : recsOk l = true) (s : Int) : (idsIn l s).Nodup := by
  have hp := ((sfRecs h).2.1.filter (p := fun r => r.Series == s))
  unfold idsIn
  exact (List.pairwise_map.2 (hp.imp (fun g => by omega)))
theorem sfIds_one {l : List Record} (h : recsOk l = true) {x s t : Int} (h1 : x ∈ idsIn l s) (h2 : x ∈ idsIn l t) : s = t := by
  unfold idsIn at h1 h2
  obtain ⟨a, ha, ea⟩ := List.mem_map.1 h1
  obtain ⟨b, hb, eb⟩ := List.mem_map.1 h2
  obtain ⟨ha1, ha2⟩ := List.mem_filter.1 ha
  obtain ⟨hb1, hb2⟩ := List.mem_filter.1 hb
  simp only [beq_iff_eq] at ha2 hb2
  have hab : a = b := by
    obtain ⟨i, hi, rfl⟩ := List.getElem_of_mem ha1
    obtain ⟨j, hj, rfl⟩ := List.getElem_of_mem hb1
    have hp := List.pairwise_iff_getElem.1 (sfRecs h).2.1
    rcases Nat.lt_trichotomy i j with hij | hij | hij
    · have := hp i j hi hj hij; omega
    · subst hij; rfl
    · have := hp j i hj hi hij; omega
  rw [← ha2, ← hb2, hab]

/-! ### Groups -/
theorem gAt_put (k j i : Int) : ∀ g : List (Int × List Int), gAt k (gPut j i g) = if j = k then gAt k g ++ [i] else gAt k g
  | [] => by
    by_cases h : j = k
    · simp [gPut, gAt, h]
    · simp [gPut, gAt, h]
  | (m, l) :: g => by
    have ih := gAt_put k j i g
    by_cases h1 : m = j
    · rw [show gPut j i ((m, l) :: g) = (m, l ++ [i]) :: g by simp only [gPut, h1, if_true]]
      by_cases h2 : j = k
      · simp only [gAt, h1, h2, if_true]
      · simp only [gAt, h1, h2, if_false]
    · rw [show gPut j i ((m, l) :: g) = (m, l) :: gPut j i g by simp only [gPut, h1, if_false]]
      by_cases h2 : m = k
      · have : ¬ j = k := fun e => h1 (by rw [h2, e])
        rw [if_neg this]
        simp only [gAt, h2, if_true]
      · simp only [gAt, h2, if_false]
        exact ih
theorem sfGroups (l : List Record) (hl : l.length < 1000000) : ∃ G, iterO (M.impl_SampleBySeries_g0 l) (([] : List (Int × List Int)), (0 : Int)) = some G ∧ ∀ s, gAt s G = idsIn l s := by
  have h : T (iterO (M.impl_SampleBySeries_g0 l) (([] : List (Int × List Int)), (0 : Int))) (fun G => ∀ s, gAt s G = idsIn l s) := by
    refine T_iter (fun st => ∃ k : Nat, st.2 = (k : Int) ∧ k ≤ l.length ∧ ∀ s, gAt s st.1 = idsIn (l.take k) s) (fun st => l.length - st.2.toNat) _ ⟨0, rfl, by omega, fun s => rfl⟩ (by simp only; omega) ?_
    rintro ⟨g, _⟩ ⟨k, rfl, h1, h2⟩
    simp only at h2
    unfold M.impl_SampleBySeries_g0
    dsimp only
    refine T_if (fun hq => ?_) (fun hq => ?_)
    · simp only [decide_eq_true_eq] at hq
      have hk : k < l.length := by omega
      have hlen := sfIds_len (l := l.take k) (s := (l.getD k default).Series)
      rw [List.length_take] at hlen
      rw [Int.toNat_natCast]
      refine T_ask ⟨by omega, hq⟩ (T_ask (by rw [h2, List.length_singleton]; omega) ?_)
      rw [wrap64_id (by omega) (by omega)]
      refine T_ret ⟨⟨k + 1, rfl, by omega, fun s => ?_⟩, by simp only; omega⟩
      simp only
      rw [gAt_put, h2, take_succ_getD hk]
      unfold idsIn
      rw [List.filter_append, List.map_append]
      generalize l.getD k default = x at *
      by_cases hs : x.Series = s
      · rw [if_pos hs]; simp [hs]
      · rw [if_neg hs]; simp [hs]
    · simp only [decide_eq_false_iff_not] at hq
      have : k = l.length := by omega
      rw [this, List.take_length] at h2
      exact T_ret h2
  exact h

/-! ### The sample -/
/-- What holds of the sample behind the series t. -/
def SfInv (l : List Record) (p : Int) (s : Int × List Int × Int) : Prop :=
  ∃ t : Nat, s.2.2 = (t : Int) + 1 ∧ t ≤ 99 ∧ (0 ≤ s.1 ∧ s.1 ≤ 99999) ∧ s.2.1.Nodup ∧ s.2.1.length ≤ 10 * t ∧ (∀ x ∈ s.2.1, ∃ u : Int, u ≤ (t : Int) ∧ x ∈ idsIn l u) ∧
    ∀ u : Int, 1 ≤ u → u ≤ (t : Int) → ∃ sq : Int, (0 ≤ sq ∧ sq ≤ 99999) ∧ ∀ x ∈ tk (sdZ ((idsIn l u).length : Int) p).toNat (idsIn l u) sq, x ∈ s.2.1
def SfFin (l : List Record) (p : Int) (out : List Int) : Prop :=
  out.Nodup ∧ out.length ≤ 990 ∧ ∀ u : Int, 1 ≤ u → u ≤ 99 → ∃ sq : Int, (0 ≤ sq ∧ sq ≤ 99999) ∧ ∀ x ∈ tk (sdZ ((idsIn l u).length : Int) p).toNat (idsIn l u) sq, x ∈ out
theorem sfLoops (l : List Record) (p sd : Int) (G : List (Int × List Int)) (hB : RecsB l) (h : recsOk l = true) (hp : p ∈ ([0, 10, 50, 60, 100] : List Int)) (hs : 0 ≤ sd ∧ sd ≤ 99999) (hG : ∀ s, gAt s G = idsIn l s) :
    ∃ out, iterO (M.impl_SampleBySeries_l0 p G) (sd, ([] : List Int), (1 : Int)) = some out ∧ iterO (M.spec_SampleBySeries_l0 l p) (sd, ([] : List Int), (1 : Int)) = some out ∧ SfFin l p out := by
  have key : ∀ (s s' : Int × List Int × Int), (s = s' ∧ SfInv l p s) → (∃ t t', M.impl_SampleBySeries_l0 p G s = some (.inl t) ∧ M.spec_SampleBySeries_l0 l p s' = some (.inl t') ∧ (t = t' ∧ SfInv l p t) ∧ 200 - t.2.2.toNat < 200 - s.2.2.toNat) ∨
      ∃ e e', M.impl_SampleBySeries_l0 p G s = some (.inr e) ∧ M.spec_SampleBySeries_l0 l p s' = some (.inr e') ∧ (e = e' ∧ SfFin l p e) := by
    rintro ⟨se, out, _⟩ _ ⟨rfl, t, rfl, h1, h2, h3, h4, h5, h6⟩
    simp only at h2 h3 h4 h5 h6
    rcases Nat.eq_or_lt_of_le h1 with ht | ht
    · subst ht
      refine .inr ⟨out, out, ?_, ?_, rfl, h3, by omega, fun u h7 h8 => h6 u h7 (by omega)⟩
      · unfold M.impl_SampleBySeries_l0; rfl
      · unfold M.spec_SampleBySeries_l0; rfl
    · left
      have hid : InD l ((t : Int) + 1) = (idsIn l ((t : Int) + 1), true) := by
        unfold InD
        rw [h, show inR ((t : Int) + 1) 1 99 = true from inR_true.2 (by omega)]; rfl
      generalize hids : idsIn l ((t : Int) + 1) = ids at hid
      have hle : ids.length ≤ 10 := by have := sfIds_len (l := l) (s := (t : Int) + 1); have := (sfRecs h).1; rw [hids] at *; omega
      obtain ⟨z1, z2, z3, z4, z5⟩ := sdZ_ok (n := (ids.length : Int)) (p := p) (by omega) hp
      have hzn : ((sdZ (ids.length : Int) p).toNat : Int) = sdZ (ids.length : Int) p := by omega
      have tI := sfTakeI ids (sdZ (ids.length : Int) p).toNat se (by omega) (by omega) h2
      have tS := sfTakeS ids (sdZ (ids.length : Int) p).toNat se (by omega) (by omega) h2
      rw [hzn] at tI tS
      have hlt := tk_len (sdZ (ids.length : Int) p).toNat ids se
      obtain ⟨rest, hperm⟩ := tk_perm (sdZ (ids.length : Int) p).toNat ids se (by omega) h2
      have hnd : ids.Nodup := hids ▸ sfIds_nodup h _
      have htk := (List.nodup_append.1 (hperm.symm.nodup_iff.1 hnd)).1
      have hin : ∀ x ∈ tk (sdZ (ids.length : Int) p).toNat ids se, x ∈ ids := fun x hx => hperm.mem_iff.1 (List.mem_append_left _ hx)
      have hw : IntKind.i64.wrap ((t : Int) + 1 + 1) = ((t + 1 : Nat) : Int) + 1 := by rw [wrap64_id (by omega) (by omega)]; omega
      refine ⟨(nxtN (sdZ (ids.length : Int) p).toNat se, out ++ tk (sdZ (ids.length : Int) p).toNat ids se, ((t + 1 : Nat) : Int) + 1), _, ?_, ?_, ⟨rfl, t + 1, rfl, by omega, nxtN_bd _ h2, ?_, ?_, ?_, ?_⟩, by simp only; omega⟩
      · unfold M.impl_SampleBySeries_l0
        dsimp only
        rw [show decide ((t : Int) + 1 ≤ 99) = true by simp; omega, cond_true, hG, hids, z1, Option.bind_some, tI, Option.bind_some, asrt_pos (by simp only [hlt]; omega), hw]
      · unfold M.spec_SampleBySeries_l0
        dsimp only
        rw [show decide ((t : Int) + 1 ≤ 99) = true by simp; omega, cond_true, InS l _ hB, hid, Option.bind_some, z2, Option.bind_some, tS, Option.bind_some, asrt_pos (by simp only [hlt]; omega), hw]
      · rw [List.nodup_append]
        refine ⟨h3, htk, fun a ha b hb e => ?_⟩
        subst e
        obtain ⟨u, hu, hx⟩ := h5 a ha
        have := sfIds_one h hx (hids.symm ▸ hin a hb)
        omega
      · simp only
        rw [List.length_append, hlt]; omega
      · intro x hx
        rcases List.mem_append.1 hx with hx | hx
        · obtain ⟨u, hu, hx⟩ := h5 x hx
          exact ⟨u, by omega, hx⟩
        · exact ⟨(t : Int) + 1, by omega, hids.symm ▸ hin x hx⟩
      · intro u hu1 hu2
        by_cases hu : u = (t : Int) + 1
        · subst hu
          refine ⟨se, h2, fun x hx => List.mem_append_right _ ?_⟩
          rw [hids] at hx
          exact hx
        · obtain ⟨sq, q1, q2⟩ := h6 u hu1 (by omega)
          exact ⟨sq, q1, fun x hx => List.mem_append_left _ (q2 x hx)⟩
  obtain ⟨e, e', h1, h2, rfl, h3⟩ := iter_rel (step := M.impl_SampleBySeries_l0 p G) (step' := M.spec_SampleBySeries_l0 l p) (fun s s' => s = s' ∧ SfInv l p s) (fun e e' => e = e' ∧ SfFin l p e) (fun s => 200 - s.2.2.toNat) key
    (s := (sd, ([] : List Int), (1 : Int))) (s' := (sd, ([] : List Int), (1 : Int))) ⟨rfl, 0, rfl, by omega, hs, List.nodup_nil, by simp, (fun x hx => by cases hx), (fun u h1 h2 => by omega)⟩ (by simp only; omega)
  exact ⟨e, h1, h2, h3⟩
/-- Both samples. -/
theorem sfSample (l : List Record) (p sd : Int) (hB : RecsB l) (hp : p ∈ sdP2) : ∃ r, M.impl_SampleBySeries l p sd = some r ∧ M.spec_SampleBySeries l p sd = some r ∧ r.1.length < 1000000 ∧
    (r.2 = true → recsOk l = true ∧ p ∈ ([0, 10, 50, 60, 100] : List Int) ∧ ∃ out, r.1 = sortL out ∧ SfFin l p out) := by
  unfold M.impl_SampleBySeries M.spec_SampleBySeries
  rw [recsI l hB, recsS l hB, Option.bind_some, Option.bind_some, withinI, l1InS, show M.impl_isSeed sd = some (inR sd 0 99999) from rfl, show M.spec_l12Seed sd = some (inR sd 0 99999) from rfl]
  cases h1 : recsOk l
  · exact ⟨([], false), rfl, rfl, by simp, fun h => by cases h⟩
  cases h2 : inR p 0 100
  · exact ⟨([], false), rfl, rfl, by simp, fun h => by cases h⟩
  cases h3 : inR sd 0 99999
  · exact ⟨([], false), rfl, rfl, by simp, fun h => by cases h⟩
  simp only [Bool.not_true, cond_false, Option.bind_some, Bool.or_self]
  rw [inR_true] at h2 h3
  have hp' : p ∈ ([0, 10, 50, 60, 100] : List Int) := by
    simp only [sdP2, List.mem_cons, List.not_mem_nil, or_false] at hp ⊢
    omega
  obtain ⟨G, g1, g2⟩ := sfGroups l hB.1
  obtain ⟨out, o1, o2, o3⟩ := sfLoops l p sd G hB h1 hp' h3 g2
  have hlen : (sortL out).length = out.length := sortL_len _
  have ho := o3.2.1
  rw [g1, Option.bind_some, o1, o2, Option.bind_some, Option.bind_some]
  try dsimp only
  unfold M.slices_Sort_int_int
  rw [asrt_pos (by omega), Option.bind_some, asrt_pos hlen, sortedS out o3.1 (by omega), Option.bind_some]
  exact ⟨(sortL out, true), rfl, rfl, by simp only; omega, fun _ => ⟨trivial, hp', out, rfl, o3⟩⟩
end Go.Proofs.Yteocnbeefedbkaa
