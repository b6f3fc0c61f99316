/-
  Holds that are released, the most holds of a day, days held, needed holds. Plain.
-/
import Derived.Test.YtjbgllhimnopaaaHd
set_option linter.unusedSimpArgs false
set_option linter.unusedVariables false
namespace Go.Proofs.Ytjbgllhimnopaaa
open Go.VS

/-! ### Copies -/
theorem set_self {β : Type} [Inhabited β] {l : List β} {k : Nat} (h : k < l.length) : l.set k (l.getD k default) = l := by
  apply List.ext_getElem?
  intro j
  rw [List.getElem?_set]
  split
  · rename_i e; subst e
    simp [h, List.getD]
  · rfl

theorem copyI (l : List Hold) (hl : HoldsB l) : M.impl_copyHolds l = some l := by
  unfold M.impl_copyHolds M.slices_Clone_impl_Hold_impl_Hold
  have h1 := hl.1
  rw [asrt_pos (by omega), Option.bind_some]
  rw [iter_up (s := (l, (0 : Int))) (step := M.impl_copyHolds_l0 l) (e := l) (fun k => (l, (k : Int))) l.length rfl (by omega) (fun k hk => by
    unfold M.impl_copyHolds_l0 M.slices_Clone_int_int
    have h2 := hl.at hk
    unfold HoldB at h2
    simp (disch := first | omega | (intros; simp only [decide_eq_true_eq, decide_eq_false_iff_not, Bool.not_eq_true, Bool.not_eq_false, Bool.not_true, Bool.not_false] at *; omega)) only [cast_succ, asrt_pos, wrap64_id, Option.bind_some, cond_true, cond_false, decide_eq_true, decide_eq_false, Int.toNat_natCast, Bool.not_true, Bool.not_false, Bool.and_true, Bool.true_and, Bool.and_false, Bool.false_and, Bool.or_true, Bool.true_or, Bool.or_false, Bool.false_or]
    rw [set_self hk]) (by
    unfold M.impl_copyHolds_l0
    simp (disch := first | omega | (intros; simp only [decide_eq_true_eq, decide_eq_false_iff_not, Bool.not_eq_true, Bool.not_eq_false, Bool.not_true, Bool.not_false] at *; omega)) only [cast_succ, asrt_pos, wrap64_id, Option.bind_some, cond_true, cond_false, decide_eq_true, decide_eq_false, Int.toNat_natCast, Bool.not_true, Bool.not_false, Bool.and_true, Bool.true_and, Bool.and_false, Bool.false_and, Bool.or_true, Bool.true_or, Bool.or_false, Bool.false_or])]
  rfl

theorem flatMap_one {β : Type} (l : List β) : l.flatMap (fun x => [x]) = l := by
  induction l with
  | nil => rfl
  | cons x t ih => simp [ih]

theorem ownS (l : List Hold) (hl : HoldsB l) : M.spec_l9Own l = some l := by
  unfold M.spec_l9Own
  have h1 := hl.1
  rw [iter_coll (s := (([] : List Hold), (0 : Int))) (step := M.spec_l9Own_l0 l) (fun a k => (a, (k : Int))) (fun h : Hold => [h]) id l rfl (by omega) (fun k _ => by simp) (fun a k hk ha => by
    unfold M.spec_l9Own_l0 M.spec_l1Own
    have h2 := hl.at hk
    unfold HoldB at h2
    simp (disch := first | omega | (intros; simp only [decide_eq_true_eq, decide_eq_false_iff_not, Bool.not_eq_true, Bool.not_eq_false, Bool.not_true, Bool.not_false] at *; omega)) only [cast_succ, asrt_pos, wrap64_id, Option.bind_some, cond_true, cond_false, decide_eq_true, decide_eq_false, Int.toNat_natCast, Bool.not_true, Bool.not_false, Bool.and_true, Bool.true_and, Bool.and_false, Bool.false_and, Bool.or_true, Bool.true_or, Bool.or_false, Bool.false_or, List.length_singleton, List.length_nil, List.nil_append]) (fun a ha => by
    unfold M.spec_l9Own_l0
    simp (disch := first | omega | (intros; simp only [decide_eq_true_eq, decide_eq_false_iff_not, Bool.not_eq_true, Bool.not_eq_false, Bool.not_true, Bool.not_false] at *; omega)) only [cast_succ, asrt_pos, wrap64_id, Option.bind_some, cond_true, cond_false, decide_eq_true, decide_eq_false, Int.toNat_natCast, Bool.not_true, Bool.not_false, Bool.and_true, Bool.true_and, Bool.and_false, Bool.false_and, Bool.or_true, Bool.true_or, Bool.or_false, Bool.false_or, id])]
  simp only [id, Option.bind_some, flatMap_one]

/-! ### Releasing -/
theorem idx_one {l : List Hold} (h : holdsOk l = true) {j k : Nat} (hj : j < l.length) (hk : k < l.length) (e : (l.getD j default).Id = (l.getD k default).Id) : j = k := by
  unfold holdsOk at h
  simp only [Bool.and_eq_true] at h
  have key := rise_key h.1 (·.Id) (fun a b hab => by simp only [decide_eq_false_iff_not] at hab; omega)
  rcases Nat.lt_trichotomy j k with g | g | g
  · have := key j k g hk; omega
  · exact g
  · have := key k j g hj; omega

def rel (h : Hold) (day : Int) : Hold := ⟨h.Id, h.From, day, h.Series, h.First, h.Last⟩

theorem getD_set {β : Type} [Inhabited β] {l : List β} {k j : Nat} {x : β} (hk : k < l.length) : (l.set k x).getD j default = if j = k then x else l.getD j default := by
  simp only [List.getD, List.getElem?_set]
  by_cases e : k = j
  · subst e; simp [hk]
  · rw [if_neg e, if_neg (fun h => e h.symm)]

theorem holdOk_rel {h : Hold} {day : Int} (hh : holdOk h = true) (h0 : 0 ≤ day) : holdOk (rel h day) = inR day (h.From + 1) 20000 := by
  unfold holdOk at hh ⊢
  simp only [Bool.and_eq_true] at hh
  unfold rel untilOk
  simp only [hh.1.1.1, hh.1.2, hh.2, Bool.and_self, Bool.and_true, Bool.true_and]
  rw [show (day == -1) = false by simp; omega, Bool.false_or]

theorem holdsOk_rel {l : List Hold} {k : Nat} {day : Int} (hl : holdsOk l = true) (hk : k < l.length) (h0 : 0 ≤ day) : holdsOk (l.set k (rel (l.getD k default) day)) = inR day ((l.getD k default).From + 1) 20000 := by
  have hh := (holdsOk_spec hl).2 _ (getD_mem hk)
  have h1 := holdOk_rel hh h0
  unfold holdsOk at hl ⊢
  simp only [Bool.and_eq_true, decide_eq_true_eq] at hl
  rw [List.length_set, decide_eq_true hl.2, Bool.and_true, Bool.eq_iff_iff, rise_iff, ← h1]
  rw [rise_iff] at hl
  simp only [List.length_set]
  constructor
  · intro h
    have := h.1 k hk
    rw [getD_set hk, if_pos rfl] at this
    simpa using this
  · intro h
    refine ⟨fun j hj => ?_, fun j j0 hj => ?_⟩
    · rw [getD_set hk]
      split
      · rw [h]; rfl
      · exact hl.1.1 j hj
    · have := hl.1.2 j j0 hj
      rw [getD_set hk, getD_set hk]
      split <;> split
      · omega
      · rename_i e1 e2; subst e1; exact this
      · rename_i e1 e2; subst e2; exact this
      · exact this

/-- What is known of a released list. -/
def Rel (l : List Hold) (id day : Int) (r : List Hold × Bool) : Prop := (r = ([], false)) ∨ ∃ k, k < l.length ∧ holdsOk l = true ∧ (l.getD k default).Id = id ∧ (l.getD k default).Until = -1 ∧ (l.getD k default).From + 1 ≤ day ∧ day ≤ 20000 ∧ r = (l.set k (rel (l.getD k default) day), true)

theorem releases (l : List Hold) (id day : Int) (hl : HoldsB l) : ∃ r, M.impl_ReleaseHold l id day = some r ∧ M.spec_ReleaseHold l id day = some r ∧ Rel l id day r := by
  have h1 := hl.1
  -- the reference
  have hS : (∃ k, k < l.length ∧ ((((l.getD k default).Id == id) && ((l.getD k default).Until == -1)) && holdsOk l && inR day (IntKind.i64.wrap ((l.getD k default).From + 1)) 20000) = true ∧ M.spec_ReleaseHold l id day = some (l.set k (rel (l.getD k default) day), true)) ∨ ((∀ k, k < l.length → ((((l.getD k default).Id == id) && ((l.getD k default).Until == -1)) && holdsOk l && inR day (IntKind.i64.wrap ((l.getD k default).From + 1)) 20000) = false) ∧ M.spec_ReleaseHold l id day = some ([], false)) := by
    unfold M.spec_ReleaseHold
    rw [ownS l hl, Option.bind_some]
    rcases iter_find (step := M.spec_ReleaseHold_l0 l id day l) (s := 0) (fun k => (k : Int)) l.length (fun k => (((l.getD k default).Id == id) && ((l.getD k default).Until == -1)) && holdsOk l && inR day (IntKind.i64.wrap ((l.getD k default).From + 1)) 20000) (fun k => .inr (l.set k (rel (l.getD k default) day), true)) (.inl ()) rfl (by omega)
      (fun k hk hp => by
        unfold M.spec_ReleaseHold_l0
        simp (disch := first | omega | (intros; simp only [decide_eq_true_eq, decide_eq_false_iff_not, Bool.not_eq_true, Bool.not_eq_false, Bool.not_true, Bool.not_false] at *; omega)) only [cast_succ, asrt_pos, wrap64_id, Option.bind_some, cond_true, cond_false, decide_eq_true, decide_eq_false, Int.toNat_natCast, Bool.not_true, Bool.not_false, Bool.and_true, Bool.true_and, Bool.and_false, Bool.false_and, Bool.or_true, Bool.true_or, Bool.or_false, Bool.false_or, holdsS l hl, l1InS, bif_some]
        generalize ((l.getD k default).Id == id) = a at hp
        generalize ((l.getD k default).Until == -1) = b at hp
        generalize holdsOk l = c at hp
        generalize inR day (IntKind.i64.wrap ((l.getD k default).From + 1)) 20000 = d at hp
        cases a <;> cases b <;> cases c <;> cases d <;> first | rfl | cases hp)
      (fun k hk hp => by
        unfold M.spec_ReleaseHold_l0
        simp (disch := first | omega | (intros; simp only [decide_eq_true_eq, decide_eq_false_iff_not, Bool.not_eq_true, Bool.not_eq_false, Bool.not_true, Bool.not_false] at *; omega)) only [cast_succ, asrt_pos, wrap64_id, Option.bind_some, cond_true, cond_false, decide_eq_true, decide_eq_false, Int.toNat_natCast, Bool.not_true, Bool.not_false, Bool.and_true, Bool.true_and, Bool.and_false, Bool.false_and, Bool.or_true, Bool.true_or, Bool.or_false, Bool.false_or, holdsS l hl, l1InS, bif_some]
        generalize ((l.getD k default).Id == id) = a at hp
        generalize ((l.getD k default).Until == -1) = b at hp
        generalize holdsOk l = c at hp
        generalize inR day (IntKind.i64.wrap ((l.getD k default).From + 1)) 20000 = d at hp
        cases a <;> cases b <;> cases c <;> cases d <;> first | rfl | cases hp)
      (by
        unfold M.spec_ReleaseHold_l0
        simp (disch := first | omega | (intros; simp only [decide_eq_true_eq, decide_eq_false_iff_not, Bool.not_eq_true, Bool.not_eq_false, Bool.not_true, Bool.not_false] at *; omega)) only [cast_succ, asrt_pos, wrap64_id, Option.bind_some, cond_true, cond_false, decide_eq_true, decide_eq_false, Int.toNat_natCast, Bool.not_true, Bool.not_false, Bool.and_true, Bool.true_and, Bool.and_false, Bool.false_and, Bool.or_true, Bool.true_or, Bool.or_false, Bool.false_or]) with ⟨k, g1, g2, g3, g4⟩ | ⟨g1, g2⟩
    · exact .inl ⟨k, g1, g2, by rw [g4]; rfl⟩
    · exact .inr ⟨g1, by rw [g2]; rfl⟩
  -- the program
  have hI : M.impl_ReleaseHold l id day = some (if h : ∃ k, k < l.length ∧ ((((l.getD k default).Id == id) && ((l.getD k default).Until == -1)) && holdsOk l && inR day (IntKind.i64.wrap ((l.getD k default).From + 1)) 20000) = true then (l.set h.choose (rel (l.getD h.choose default) day), true) else ([], false)) := by
    unfold M.impl_ReleaseHold M.slices_IndexFunc_impl_Hold_impl_Hold
    rw [holdsI l hl, copyI l hl]
    rcases iter_find (step := M.slices_IndexFunc_impl_Hold_impl_Hold_l0 l (fun x0 => M.impl_ReleaseHold_1 x0 id)) (s := 0) (fun k => (k : Int)) l.length (fun k => (l.getD k default).Id == id) (fun k => .inr (k : Int)) (.inl ()) rfl (by omega)
      (fun k hk hp => by
        unfold M.slices_IndexFunc_impl_Hold_impl_Hold_l0 M.impl_ReleaseHold_1
        simp (disch := first | omega | (intros; simp only [decide_eq_true_eq, decide_eq_false_iff_not, Bool.not_eq_true, Bool.not_eq_false, Bool.not_true, Bool.not_false] at *; omega)) only [cast_succ, asrt_pos, wrap64_id, Option.bind_some, cond_true, cond_false, decide_eq_true, decide_eq_false, Int.toNat_natCast, Bool.not_true, Bool.not_false, Bool.and_true, Bool.true_and, Bool.and_false, Bool.false_and, Bool.or_true, Bool.true_or, Bool.or_false, Bool.false_or, hp])
      (fun k hk hp => by
        unfold M.slices_IndexFunc_impl_Hold_impl_Hold_l0 M.impl_ReleaseHold_1
        simp (disch := first | omega | (intros; simp only [decide_eq_true_eq, decide_eq_false_iff_not, Bool.not_eq_true, Bool.not_eq_false, Bool.not_true, Bool.not_false] at *; omega)) only [cast_succ, asrt_pos, wrap64_id, Option.bind_some, cond_true, cond_false, decide_eq_true, decide_eq_false, Int.toNat_natCast, Bool.not_true, Bool.not_false, Bool.and_true, Bool.true_and, Bool.and_false, Bool.false_and, Bool.or_true, Bool.true_or, Bool.or_false, Bool.false_or, hp])
      (by
        unfold M.slices_IndexFunc_impl_Hold_impl_Hold_l0
        simp (disch := first | omega | (intros; simp only [decide_eq_true_eq, decide_eq_false_iff_not, Bool.not_eq_true, Bool.not_eq_false, Bool.not_true, Bool.not_false] at *; omega)) only [cast_succ, asrt_pos, wrap64_id, Option.bind_some, cond_true, cond_false, decide_eq_true, decide_eq_false, Int.toNat_natCast, Bool.not_true, Bool.not_false, Bool.and_true, Bool.true_and, Bool.and_false, Bool.false_and, Bool.or_true, Bool.true_or, Bool.or_false, Bool.false_or]) with ⟨k, g1, g2, g3, g4⟩ | ⟨g1, g2⟩
    · rw [g4]
      simp only [Option.bind_some, Int.toNat_natCast, isDayI, bif_some]
      rw [show decide ((k : Int) < 0) = false from decide_eq_false (by omega)]
      simp only [Bool.or_false]
      rw [asrt_pos (by intro _; omega)]
      cases hg : holdsOk l
      · simp
      have hko := (holdsOk_spec hg).2 _ (getD_mem g1)
      obtain ⟨_, f1, f2, _⟩ := holdOk_spec hko
      simp only [Bool.not_true, Bool.false_or, Bool.and_true]
      have hw : ∀ j, j < l.length → (((l.getD j default).Id == id) && ((l.getD j default).Until == -1) && inR day (IntKind.i64.wrap ((l.getD j default).From + 1)) 20000) = true → j = k := by
        intro j hj hp
        simp only [Bool.and_eq_true, beq_iff_eq] at hp g2
        exact idx_one hg hj g1 (by omega)
      by_cases hu : (l.getD k default).Until ≥ 0
      · rw [decide_eq_true hu, dif_neg]
        · simp
        · rintro ⟨j, hj, hp⟩
          obtain rfl := hw j hj hp
          simp only [Bool.and_eq_true, beq_iff_eq] at hp
          omega
      · rw [decide_eq_false hu]
        have hu1 : (l.getD k default).Until = -1 := by omega
        simp only [cond_false, Bool.false_or]
        by_cases hd : inR day 0 20000 = true
        · rw [hd]
          simp only [Bool.not_true, cond_false]
          rw [asrt_pos (by omega)]
          have e1 : (⟨(l.getD k default).Id, (l.getD k default).From, day, (l.getD k default).Series, (l.getD k default).First, (l.getD k default).Last⟩ : Hold) = rel (l.getD k default) day := rfl
          rw [e1]
          have hb : HoldsB (l.set k (rel (l.getD k default) day)) := ⟨by rw [List.length_set]; exact h1, fun x hx => by
            rcases List.mem_or_eq_of_mem_set hx with hx | rfl
            · exact hl.2 x hx
            · exact hl.at g1⟩
          rw [holdsI _ hb, Option.bind_some, holdsOk_rel hg g1 (inR_true.1 hd).1]
          cases hi : inR day ((l.getD k default).From + 1) 20000
          · rw [dif_neg]
            · rfl
            · rintro ⟨j, hj, hp⟩
              obtain rfl := hw j hj hp
              simp only [Bool.and_eq_true] at hp
              rw [wrap64_id (by omega) (by omega), hi] at hp
              cases hp.2
          · have hx : ∃ j, j < l.length ∧ (((l.getD j default).Id == id) && ((l.getD j default).Until == -1) && inR day (IntKind.i64.wrap ((l.getD j default).From + 1)) 20000) = true := ⟨k, g1, by
              rw [wrap64_id (by omega) (by omega), hi, g2, hu1]; rfl⟩
            rw [dif_pos hx]
            have := hw _ hx.choose_spec.1 hx.choose_spec.2
            rw [this]; rfl
        · simp only [Bool.not_eq_true] at hd
          rw [hd, dif_neg]
          · rfl
          · rintro ⟨j, hj, hp⟩
            obtain rfl := hw j hj hp
            simp only [Bool.and_eq_true] at hp
            rw [wrap64_id (by omega) (by omega), inR_true] at hp
            rw [inR_false] at hd
            omega
    · rw [g2]
      simp only [Option.bind_some]
      rw [asrt_pos (by intro h; simp at h), dif_neg]
      · simp
      · rintro ⟨j, hj, hp⟩
        have := g1 j hj
        simp only [Bool.and_eq_true] at hp
        rw [this] at hp
        cases hp.1.1.1
  rcases hS with ⟨k, g1, g2, g3⟩ | ⟨g1, g2⟩
  · have hx : ∃ j, j < l.length ∧ (((l.getD j default).Id == id) && ((l.getD j default).Until == -1) && holdsOk l && inR day (IntKind.i64.wrap ((l.getD j default).From + 1)) 20000) = true := ⟨k, g1, g2⟩
    have g2' := g2
    simp only [Bool.and_eq_true, beq_iff_eq] at g2'
    obtain ⟨j, hj⟩ : ∃ j, hx.choose = j := ⟨_, rfl⟩
    have hc := hx.choose_spec
    rw [hj] at hc
    have hc2 := hc.2
    simp only [Bool.and_eq_true, beq_iff_eq] at hc2
    have e := idx_one g2'.1.2 hc.1 g1 (by omega)
    rw [dif_pos hx, hj, e] at hI
    have hko := (holdsOk_spec g2'.1.2).2 _ (getD_mem g1)
    obtain ⟨_, f1, f2, _⟩ := holdOk_spec hko
    have g5 := g2'.2
    rw [wrap64_id (by omega) (by omega), inR_true] at g5
    exact ⟨_, hI, g3, .inr ⟨k, g1, g2'.1.2, g2'.1.1.1, g2'.1.1.2, g5.1, g5.2, rfl⟩⟩
  · rw [dif_neg (by rintro ⟨k, h, h'⟩; rw [g1 k h] at h'; cases h')] at hI
    exact ⟨_, hI, g2, .inl rfl⟩

theorem vHolds_self (a : List Hold) (hl : HoldsB a) : M.laws_vHolds a a = some true := by
  unfold M.laws_vHolds
  have h1 := hl.1
  simp only [bne_self_eq_false, cond_false]
  rw [iter_up (s := 0) (step := M.laws_vHolds_l0 a a) (e := .inl ()) (fun k => (k : Int)) a.length rfl (by omega) (fun k hk => by
    unfold M.laws_vHolds_l0
    have h2 := vInts_self _ (hl.at hk)
    simp (disch := first | omega | (intros; simp only [decide_eq_true_eq, decide_eq_false_iff_not, Bool.not_eq_true, Bool.not_eq_false, Bool.not_true, Bool.not_false] at *; omega)) only [cast_succ, asrt_pos, wrap64_id, Option.bind_some, cond_true, cond_false, decide_eq_true, decide_eq_false, Int.toNat_natCast, Bool.not_true, Bool.not_false, Bool.and_true, Bool.true_and, Bool.and_false, Bool.false_and, Bool.or_true, Bool.true_or, Bool.or_false, Bool.false_or, bne_self_eq_false, h2]) (by
    unfold M.laws_vHolds_l0
    simp (disch := first | omega | (intros; simp only [decide_eq_true_eq, decide_eq_false_iff_not, Bool.not_eq_true, Bool.not_eq_false, Bool.not_true, Bool.not_false] at *; omega)) only [cast_succ, asrt_pos, wrap64_id, Option.bind_some, cond_true, cond_false, decide_eq_true, decide_eq_false, Int.toNat_natCast, Bool.not_true, Bool.not_false, Bool.and_true, Bool.true_and, Bool.and_false, Bool.false_and, Bool.or_true, Bool.true_or, Bool.or_false, Bool.false_or])]
  rfl

theorem vHasL (m : List Int) (x : Int) (hl : m.length < 1000000) : M.laws_vHas m x = some (m.any fun y => y == x) := by
  unfold M.laws_vHas
  rw [iter_any (step := M.laws_vHas_l0 m x) (s := 0) (fun k => (k : Int)) m.length (fun k => m.getD k default == x) (.inr true) (.inl ()) rfl (by omega)
    (fun k hk hp => by
      unfold M.laws_vHas_l0
      simp (disch := first | omega | (intros; simp only [decide_eq_true_eq, decide_eq_false_iff_not, Bool.not_eq_true, Bool.not_eq_false, Bool.not_true, Bool.not_false] at *; omega)) only [cast_succ, asrt_pos, wrap64_id, Option.bind_some, cond_true, cond_false, decide_eq_true, decide_eq_false, Int.toNat_natCast, Bool.not_true, Bool.not_false, Bool.and_true, Bool.true_and, Bool.and_false, Bool.false_and, Bool.or_true, Bool.true_or, Bool.or_false, Bool.false_or, hp])
    (fun k hk hp => by
      unfold M.laws_vHas_l0
      simp (disch := first | omega | (intros; simp only [decide_eq_true_eq, decide_eq_false_iff_not, Bool.not_eq_true, Bool.not_eq_false, Bool.not_true, Bool.not_false] at *; omega)) only [cast_succ, asrt_pos, wrap64_id, Option.bind_some, cond_true, cond_false, decide_eq_true, decide_eq_false, Int.toNat_natCast, Bool.not_true, Bool.not_false, Bool.and_true, Bool.true_and, Bool.and_false, Bool.false_and, Bool.or_true, Bool.true_or, Bool.or_false, Bool.false_or, hp])
    (by
      unfold M.laws_vHas_l0
      simp (disch := first | omega | (intros; simp only [decide_eq_true_eq, decide_eq_false_iff_not, Bool.not_eq_true, Bool.not_eq_false, Bool.not_true, Bool.not_false] at *; omega)) only [cast_succ, asrt_pos, wrap64_id, Option.bind_some, cond_true, cond_false, decide_eq_true, decide_eq_false, Int.toNat_natCast, Bool.not_true, Bool.not_false, Bool.and_true, Bool.true_and, Bool.and_false, Bool.false_and, Bool.or_true, Bool.true_or, Bool.or_false, Bool.false_or]), any_range (fun y => y == x) m]
  cases m.any fun y => y == x <;> rfl

theorem vWithinL (a b : List Int) (ha : a.length < 1000000) (hb : b.length < 1000000) (h : ∀ x ∈ a, x ∈ b) : M.laws_vWithin a b = some true := by
  unfold M.laws_vWithin
  rw [iter_up (s := 0) (step := M.laws_vWithin_l0 a b) (e := .inl ()) (fun k => (k : Int)) a.length rfl (by omega) (fun k hk => by
    unfold M.laws_vWithin_l0
    have h2 : (b.any fun y => y == a.getD k default) = true := List.any_eq_true.2 ⟨_, h _ (getD_mem hk), by simp⟩
    simp (disch := first | omega | (intros; simp only [decide_eq_true_eq, decide_eq_false_iff_not, Bool.not_eq_true, Bool.not_eq_false, Bool.not_true, Bool.not_false] at *; omega)) only [cast_succ, asrt_pos, wrap64_id, Option.bind_some, cond_true, cond_false, decide_eq_true, decide_eq_false, Int.toNat_natCast, Bool.not_true, Bool.not_false, Bool.and_true, Bool.true_and, Bool.and_false, Bool.false_and, Bool.or_true, Bool.true_or, Bool.or_false, Bool.false_or, vHasL b _ hb, h2]) (by
    unfold M.laws_vWithin_l0
    simp (disch := first | omega | (intros; simp only [decide_eq_true_eq, decide_eq_false_iff_not, Bool.not_eq_true, Bool.not_eq_false, Bool.not_true, Bool.not_false] at *; omega)) only [cast_succ, asrt_pos, wrap64_id, Option.bind_some, cond_true, cond_false, decide_eq_true, decide_eq_false, Int.toNat_natCast, Bool.not_true, Bool.not_false, Bool.and_true, Bool.true_and, Bool.and_false, Bool.false_and, Bool.or_true, Bool.true_or, Bool.or_false, Bool.false_or])]
  rfl

theorem onD_mem {l : List Hold} {r : Record} {d x : Int} : x ∈ onD l r d ↔ ∃ k, k < l.length ∧ cov (l.getD k default) r d = true ∧ (l.getD k default).Id = x := by
  unfold onD
  simp only [List.mem_map, List.mem_filter]
  constructor
  · rintro ⟨h, ⟨h1, h2⟩, h3⟩
    obtain ⟨k, hk, rfl⟩ := List.getElem_of_mem h1
    have e : l.getD k default = l[k] := by simp [List.getD, hk]
    exact ⟨k, hk, by rw [e]; exact h2, by rw [e]; exact h3⟩
  · rintro ⟨k, hk, h1, h2⟩
    exact ⟨_, ⟨getD_mem hk, h1⟩, h2⟩

theorem cov_rel {h : Hold} {r : Record} {day : Int} (h0 : 0 ≤ day) : cov (rel h day) r day = false := by
  cases hc : cov (rel h day) r day
  · rfl
  · have := (cov_spec hc).2
    unfold rel at this
    simp only at this
    omega

/-- From the day on nothing is covered by the released hold, and no other hold comes to cover. -/
theorem on_rel {l : List Hold} {r : Record} {k : Nat} {day : Int} (hg : holdsOk l = true) (hk : k < l.length) (h0 : 0 ≤ day) : (∀ x ∈ onD (l.set k (rel (l.getD k default) day)) r day, x ∈ onD l r day) ∧ (l.getD k default).Id ∉ onD (l.set k (rel (l.getD k default) day)) r day := by
  have key : ∀ x, x ∈ onD (l.set k (rel (l.getD k default) day)) r day → ∃ j, j < l.length ∧ j ≠ k ∧ cov (l.getD j default) r day = true ∧ (l.getD j default).Id = x := by
    intro x hx
    obtain ⟨j, hj, h1, h2⟩ := onD_mem.1 hx
    rw [List.length_set] at hj
    rw [getD_set hk] at h1 h2
    by_cases e : j = k
    · rw [if_pos e, cov_rel h0] at h1; cases h1
    · rw [if_neg e] at h1 h2
      exact ⟨j, hj, e, h1, h2⟩
  constructor
  · intro x hx
    obtain ⟨j, hj, _, h1, h2⟩ := key x hx
    exact onD_mem.2 ⟨j, hj, h1, h2⟩
  · intro hx
    obtain ⟨j, hj, e, h1, h2⟩ := key _ hx
    exact e (idx_one hg hj hk h2)

/-! ### The most holds of a day -/
def nOn (l : List Hold) (r : Record) (d : Int) : Int := ((onD l r d).length : Int)
theorem nOn_nonneg {l : List Hold} {r : Record} {d : Int} : 0 ≤ nOn l r d := by unfold nOn; omega

theorem nOn_mono {l : List Hold} {r : Record} {d e : Int} (h : ∀ x ∈ l, cov x r d = true → cov x r e = true) : nOn l r d ≤ nOn l r e := by
  unfold nOn onD
  rw [List.length_map, List.length_map, ← List.countP_eq_length_filter, ← List.countP_eq_length_filter]
  have := List.countP_mono_left (l := l) (p := fun h => cov h r d) (q := fun h => cov h r e) h
  omega

/-- There is a last one that has begun. -/
theorem lastFrom {r : Record} {d : Int} : ∀ {l : List Hold}, (∃ x ∈ l, cov x r d = true) → ∃ x ∈ l, cov x r d = true ∧ ∀ y ∈ l, cov y r d = true → y.From ≤ x.From
  | [], h => by obtain ⟨x, hx, _⟩ := h; cases hx
  | a :: t, h => by
    by_cases ht : ∃ x ∈ t, cov x r d = true
    · obtain ⟨x, h1, h2, h3⟩ := lastFrom ht
      by_cases ha : cov a r d = true ∧ x.From < a.From
      · refine ⟨a, by simp, ha.1, fun y hy hc => ?_⟩
        rcases List.mem_cons.1 hy with rfl | hy
        · exact Int.le_refl _
        · have := h3 y hy hc; omega
      · refine ⟨x, by simp [h1], h2, fun y hy hc => ?_⟩
        rcases List.mem_cons.1 hy with rfl | hy
        · rw [not_and, Int.not_lt] at ha; exact ha hc
        · exact h3 y hy hc
    · obtain ⟨x, hx, hc⟩ := h
      rcases List.mem_cons.1 hx with rfl | hx
      · refine ⟨x, by simp, hc, fun y hy hc' => ?_⟩
        rcases List.mem_cons.1 hy with rfl | hy
        · exact Int.le_refl _
        · exact absurd ⟨y, hy, hc'⟩ ht
      · exact absurd ⟨x, hx, hc⟩ ht

theorem on_from {l : List Hold} {r : Record} {d : Int} (h : 0 < nOn l r d) : ∃ x ∈ l, x.From ≤ d ∧ nOn l r d ≤ nOn l r x.From := by
  have hne : onD l r d ≠ [] := by
    intro e; unfold nOn at h; rw [e] at h; simp at h
  obtain ⟨x, h1, h2, h3⟩ := lastFrom (onD_nil' hne)
  have hx := cov_spec h2
  refine ⟨x, h1, hx.1, nOn_mono fun y hy hc => ?_⟩
  have hy1 := h3 y hy hc
  have hy2 := cov_spec hc
  unfold cov at hc ⊢
  simp only [Bool.and_eq_true, Bool.or_eq_true, decide_eq_true_eq, beq_iff_eq] at hc ⊢
  exact ⟨⟨hy1, by omega⟩, hc.2⟩

def Best (l : List Hold) (r : Record) (m f : Int) : Prop := (∀ d, 0 ≤ d → d ≤ 20000 → nOn l r d ≤ m) ∧ (m = 0 ∧ f = 0 ∨ 0 < m ∧ 0 ≤ f ∧ f ≤ 20000 ∧ nOn l r f = m ∧ ∀ d, 0 ≤ d → d < f → nOn l r d < m)

theorem Best.one {l : List Hold} {r : Record} {m f m' f' : Int} (h : Best l r m f) (h' : Best l r m' f') : m = m' ∧ f = f' := by
  obtain ⟨h1, ⟨h2, h3⟩ | ⟨h2, h3, h4, h5, h6⟩⟩ := h <;> obtain ⟨g1, ⟨g2, g3⟩ | ⟨g2, g3, g4, g5, g6⟩⟩ := h'
  · omega
  · have := h1 f' g3 g4; omega
  · have := g1 f h3 h4; omega
  · have e1 := h1 f' g3 g4
    have e2 := g1 f h3 h4
    refine ⟨by omega, ?_⟩
    rcases Int.lt_trichotomy f f' with e | e | e
    · have := g6 f h3 e; omega
    · exact e
    · have := h6 f' g3 e; omega

theorem bestI (l : List Hold) (r : Record) (hl : holdsOk l = true) : T (iterO (M.impl_MostHolds_l0 l r) (0, 0, 0)) (fun e => Best l r e.1 e.2) := by
  refine T_iter (fun s => ∃ v : Nat, s.2.2 = (v : Int) ∧ v ≤ 20001 ∧ (∀ d, 0 ≤ d → d < (v : Int) → nOn l r d ≤ s.1) ∧ (s.1 = 0 ∧ s.2.1 = 0 ∨ 0 < s.1 ∧ 0 ≤ s.2.1 ∧ s.2.1 < (v : Int) ∧ nOn l r s.2.1 = s.1 ∧ ∀ d, 0 ≤ d → d < s.2.1 → nOn l r d < s.1)) (fun s => 20001 - s.2.2.toNat) _
    ⟨0, rfl, by omega, fun d h1 h2 => absurd h1 (by omega), .inl ⟨rfl, rfl⟩⟩ (by simp only; omega) ?_
  rintro ⟨m, f, _⟩ ⟨v, rfl, h1, h2, h3⟩
  simp only at h2 h3
  unfold M.impl_MostHolds_l0
  simp only [T_bif, T_bind, T_some, onI l r _ hl, decide_eq_true_eq, decide_eq_false_iff_not]
  refine ⟨fun hv => ⟨fun h4 => ⟨⟨v + 1, ?_, by omega, ?_, .inr ⟨?_, by omega, by omega, rfl, fun d h5 h6 => ?_⟩⟩, ?_⟩, fun h4 => ⟨⟨v + 1, ?_, by omega, ?_, ?_⟩, ?_⟩⟩, fun hv => ⟨fun d h5 h6 => h2 d h5 (by omega), ?_⟩⟩
  · rw [wrap64_id (by omega) (by omega)]; omega
  · intro d h5 h6
    by_cases hd : d < (v : Int)
    · have := h2 d h5 hd; omega
    · obtain rfl : d = (v : Int) := by omega
      exact Int.le_refl _
  · rcases h3 with h3 | h3 <;> omega
  · have := h2 d h5 h6; omega
  · rw [wrap64_id (by omega) (by omega)]; omega
  · rw [wrap64_id (by omega) (by omega)]; omega
  · intro d h5 h6
    by_cases hd : d < (v : Int)
    · exact h2 d h5 hd
    · obtain rfl : d = (v : Int) := by omega
      exact Int.not_lt.1 h4
  · rcases h3 with h3 | ⟨a1, a2, a3, a4, a5⟩
    · exact .inl h3
    · exact .inr ⟨a1, a2, by omega, a4, a5⟩
  · rw [wrap64_id (by omega) (by omega)]; omega
  · rcases h3 with h3 | ⟨a1, a2, a3, a4, a5⟩
    · exact .inl h3
    · exact .inr ⟨a1, a2, by omega, a4, a5⟩

theorem bestS (l : List Hold) (r : Record) (hl : holdsOk l = true) : T (iterO (M.spec_MostHolds_l0 l r) (0, 0, 0)) (fun e => Best l r e.1 e.2) := by
  obtain ⟨hn, hh⟩ := holdsOk_spec hl
  refine T.mono (Q := fun e => (∀ j, j < l.length → nOn l r (l.getD j default).From ≤ e.1) ∧ (e.1 = 0 ∧ e.2 = 0 ∨ 0 < e.1 ∧ ∃ j, j < l.length ∧ (l.getD j default).From = e.2 ∧ nOn l r e.2 = e.1) ∧ (∀ j, j < l.length → 0 < e.1 → nOn l r (l.getD j default).From = e.1 → e.2 ≤ (l.getD j default).From)) ?_ ?_
  · refine T_iter (fun s => ∃ v : Nat, s.2.2 = (v : Int) ∧ v ≤ l.length ∧ (∀ j, j < v → nOn l r (l.getD j default).From ≤ s.1) ∧ (s.1 = 0 ∧ s.2.1 = 0 ∨ 0 < s.1 ∧ ∃ j, j < l.length ∧ (l.getD j default).From = s.2.1 ∧ nOn l r s.2.1 = s.1) ∧ (∀ j, j < v → 0 < s.1 → nOn l r (l.getD j default).From = s.1 → s.2.1 ≤ (l.getD j default).From)) (fun s => l.length - s.2.2.toNat) _
      ⟨0, rfl, by omega, fun j h => absurd h (Nat.not_lt_zero _), .inl ⟨rfl, rfl⟩, fun j h => absurd h (Nat.not_lt_zero _)⟩ (by simp only; omega) ?_
    rintro ⟨m, f, _⟩ ⟨v, rfl, h1, h2, h3, h4⟩
    simp only at h2 h3 h4
    unfold M.spec_MostHolds_l0
    simp only [T_bif, T_asrt, T_bind, T_some, onS l r _ hl, decide_eq_true_eq, decide_eq_false_iff_not, Int.toNat_natCast, Bool.or_eq_true, Bool.and_eq_true, beq_iff_eq]
    refine ⟨fun hv => ⟨⟨by omega, hv⟩, fun h5 => ⟨⟨v + 1, ?_, by omega, ?_, ?_, ?_⟩, ?_⟩, fun h5 => ⟨⟨v + 1, ?_, by omega, ?_, h3, ?_⟩, ?_⟩⟩, fun hv => ⟨fun j hj => h2 j (by omega), h3, fun j hj => h4 j (by omega)⟩⟩
    · rw [wrap64_id (by omega) (by omega)]; omega
    · intro j hj
      change _ ≤ nOn l r (l.getD v default).From
      change nOn l r (l.getD v default).From > m ∨ _ at h5
      by_cases hjv : j < v
      · have := h2 j hjv
        rcases h5 with h5 | h5
        · omega
        · have := h5.1.1; unfold nOn at *; omega
      · obtain rfl : j = v := by omega
        exact Int.le_refl _
    · right
      refine ⟨?_, v, by omega, rfl, rfl⟩
      rcases h5 with h5 | h5
      · rcases h3 with h3 | h3 <;> omega
      · exact h5.1.2
    · intro j hj _ h6
      change nOn l r (l.getD j default).From = nOn l r (l.getD v default).From at h6
      change nOn l r (l.getD v default).From > m ∨ (nOn l r (l.getD v default).From = m ∧ nOn l r (l.getD v default).From > 0) ∧ _ at h5
      by_cases hjv : j < v
      · rcases h5 with h5 | h5
        · have := h2 j hjv; omega
        · have := h4 j hjv (by omega) (by omega); omega
      · obtain rfl : j = v := by omega
        exact Int.le_refl _
    · rw [wrap64_id (by omega) (by omega)]; omega
    · rw [wrap64_id (by omega) (by omega)]; omega
    · intro j hj
      by_cases hjv : j < v
      · exact h2 j hjv
      · obtain rfl : j = v := by omega
        change nOn l r (l.getD j default).From ≤ m
        have : ¬ nOn l r (l.getD j default).From > m := by
          intro h6
          change nOn l r (l.getD j default).From > m at h6
          simp only [Bool.or_eq_false_iff, decide_eq_false_iff_not] at h5
          exact h5.1 h6
        omega
    · intro j hj h0 h6
      by_cases hjv : j < v
      · exact h4 j hjv h0 h6
      · obtain rfl : j = v := by omega
        simp only [Bool.or_eq_false_iff, Bool.and_eq_false_iff, decide_eq_false_iff_not, beq_eq_false_iff_ne] at h5
        have e1 : ((onD l r (l.getD j default).From).length : Int) = m := h6
        rcases h5.2 with (h7 | h7) | h7
        · exact absurd e1 h7
        · omega
        · omega
    · rw [wrap64_id (by omega) (by omega)]; omega
  · rintro ⟨m, f⟩ ⟨h1, h2, h3⟩
    simp only at h1 h2 h3 ⊢
    have hm0 : 0 ≤ m := by rcases h2 with h2 | h2 <;> omega
    have h4 : ∀ d, 0 ≤ d → d ≤ 20000 → nOn l r d ≤ m := by
      intro d _ _
      by_cases h0 : 0 < nOn l r d
      · obtain ⟨x, hx, _, h5⟩ := on_from h0
        obtain ⟨j, hj, rfl⟩ := List.getElem_of_mem hx
        have := h1 j hj
        rw [show l.getD j default = l[j] by simp [List.getD, hj]] at this
        omega
      · omega
    refine ⟨h4, ?_⟩
    rcases h2 with h2 | ⟨h2, j, hj, h5, h6⟩
    · exact .inl h2
    · have hf := (holdOk_spec (hh _ (getD_mem hj))).2.1
      refine .inr ⟨h2, by omega, by omega, h6, fun d h7 h8 => ?_⟩
      have h9 := h4 d h7 (by omega)
      rcases Int.lt_or_eq_of_le h9 with h9 | h9
      · exact h9
      · exfalso
        obtain ⟨x, hx, h10, h11⟩ := on_from (show 0 < nOn l r d by omega)
        obtain ⟨i, hi, rfl⟩ := List.getElem_of_mem hx
        have e : l.getD i default = l[i] := by simp [List.getD, hi]
        have a1 := h1 i hi
        have a2 := h3 i hi h2
        rw [e] at a1 a2
        have := a2 (by omega)
        omega

theorem most (l : List Hold) (r : Record) (hl : HoldsB l) (hr : RecB r) : ∃ m f, M.impl_MostHolds l r = some (m, f, decide (m > 0)) ∧ M.spec_MostHolds l r = some (m, f, decide (m > 0)) ∧ (held l r 0 = false ∧ m = 0 ∨ held l r 0 = true ∧ Best l r m f) := by
  unfold M.impl_MostHolds M.spec_MostHolds
  rw [heldI l r 0 hl hr, heldS l r 0 hl hr]
  cases h : held l r 0
  · exact ⟨0, 0, rfl, rfl, .inl ⟨rfl, rfl⟩⟩
  · have h1 := (held_spec h).1
    obtain ⟨⟨m, f⟩, e1, g1⟩ := bestI l r h1
    obtain ⟨⟨m', f'⟩, e2, g2⟩ := bestS l r h1
    obtain ⟨rfl, rfl⟩ := g1.one g2
    exact ⟨m, f, by simp [e1], by simp [e2], .inr ⟨rfl, g1⟩⟩

/-! ### Days held -/
def cnt (l : List Hold) (r : Record) : Nat → Nat
  | 0 => 0
  | k + 1 => cnt l r k + if onD l r (k : Int) = [] then 0 else 1

theorem cnt_le {l : List Hold} {r : Record} : ∀ k, cnt l r k ≤ k
  | 0 => Nat.le_refl _
  | k + 1 => by have := cnt_le (l := l) (r := r) k; simp only [cnt]; split <;> omega

theorem cnt_held {l : List Hold} {r : Record} {a : Nat} : ∀ d, (∀ x, a ≤ x → x < a + d → onD l r (x : Int) ≠ []) → cnt l r (a + d) = cnt l r a + d
  | 0, _ => rfl
  | d + 1, h => by
    rw [← Nat.add_assoc, cnt, cnt_held d (fun x h1 h2 => h x h1 (by omega)), if_neg (h (a + d) (by omega) (by omega))]; omega

theorem cnt_free {l : List Hold} {r : Record} {a : Nat} : ∀ d, (∀ x, a ≤ x → x < a + d → onD l r (x : Int) = []) → cnt l r (a + d) = cnt l r a
  | 0, _ => rfl
  | d + 1, h => by
    rw [← Nat.add_assoc, cnt, cnt_free d (fun x h1 h2 => h x h1 (by omega)), if_pos (h (a + d) (by omega) (by omega))]; omega

theorem cnt_pos {l : List Hold} {r : Record} : ∀ n, 0 < cnt l r n ↔ ∃ x, x < n ∧ onD l r (x : Int) ≠ []
  | 0 => by simp [cnt]
  | n + 1 => by
    have := cnt_pos (l := l) (r := r) n
    simp only [cnt]
    constructor
    · intro h
      split at h
      · obtain ⟨x, h1, h2⟩ := this.1 (by omega); exact ⟨x, by omega, h2⟩
      · rename_i hn; exact ⟨n, by omega, hn⟩
    · rintro ⟨x, h1, h2⟩
      by_cases hx : x = n
      · subst hx; rw [if_neg h2]; omega
      · have := this.2 ⟨x, by omega, h2⟩; omega

theorem daysI (l : List Hold) (r : Record) (hl : holdsOk l = true) : iterO (M.impl_HeldDays_l0 l r) (0, 0) = some ((cnt l r 20001 : Nat) : Int) := by
  rw [iter_up (s := ((0 : Int), (0 : Int))) (step := M.impl_HeldDays_l0 l r) (e := ((cnt l r 20001 : Nat) : Int)) (fun k => ((cnt l r k : Nat), (k : Int))) 20001 rfl (by omega) (fun k hk => by
    have hc := cnt_le (l := l) (r := r) k
    unfold M.impl_HeldDays_l0
    dsimp only
    rw [show decide ((k : Int) < 20001) = true from decide_eq_true (by omega), cond_true, onI l r _ hl, Option.bind_some, wrap64_id (n := (k : Int) + 1) (by omega) (by omega)]
    by_cases h : onD l r (k : Int) = []
    · rw [h]
      simp only [cnt, if_pos h]
      rfl
    · have h1 : 0 < (onD l r (k : Int)).length := List.length_pos_iff.2 h
      rw [decide_eq_true (by omega), cond_true, wrap64_id (by omega) (by omega)]
      simp only [cnt, if_neg h]
      rfl) (by
    unfold M.impl_HeldDays_l0
    dsimp only
    rw [show decide (((20001 : Nat) : Int) < 20001) = false by decide]; rfl)]

/-- The next hold that begins behind a day. -/
theorem nextS (l : List Hold) (r : Record) (f : Int) (hl : holdsOk l = true) : T (iterO (M.spec_HeldDays_l1 l r f) (20001, 0)) (fun n => f < n ∧ n ≤ 20001 ∧ (∀ x ∈ l, f < x.From → cov x r x.From = true → n ≤ x.From) ∨ n = 20001 ∧ (∀ x ∈ l, f < x.From → cov x r x.From = true → n ≤ x.From)) := by
  obtain ⟨hn, hh⟩ := holdsOk_spec hl
  refine T_iter (fun s => ∃ v : Nat, s.2 = (v : Int) ∧ v ≤ l.length ∧ (f < s.1 ∧ s.1 ≤ 20001 ∨ s.1 = 20001) ∧ ∀ j, j < v → f < (l.getD j default).From → cov (l.getD j default) r (l.getD j default).From = true → s.1 ≤ (l.getD j default).From) (fun s => l.length - s.2.toNat) _
    ⟨0, rfl, by omega, .inr rfl, fun j h => absurd h (Nat.not_lt_zero _)⟩ (by simp only; omega) ?_
  rintro ⟨n, _⟩ ⟨v, rfl, h1, h2, h3⟩
  simp only at h2 h3
  unfold M.spec_HeldDays_l1
  dsimp only
  refine T_if (fun hv => ?_) (fun hv => ?_)
  · simp only [decide_eq_true_eq] at hv
    have hv' : v < l.length := by omega
    have hk := hh _ (getD_mem hv')
    have hF := (holdOk_spec hk).2.1
    refine T_in ?_
    refine T.mono (Q := fun m => (f < m ∧ m ≤ 20001 ∨ m = 20001) ∧ m ≤ n ∧ (f < (l.getD v default).From → cov (l.getD v default) r (l.getD v default).From = true → m ≤ (l.getD v default).From)) ?_ ?_
    · simp only [Int.toNat_natCast]
      refine T_ask ⟨by omega, hv⟩ (T_ask (fun _ => ⟨by omega, hv⟩) (T_ask (fun _ => ⟨by omega, hv⟩) ?_))
      rw [covS _ r _ hk, bif_some, Option.bind_some]
      refine T_if (fun hq => ?_) (fun hq => T_ret ⟨h2, Int.le_refl _, fun g1 g2 => ?_⟩)
      · refine T_ask ⟨by omega, hv⟩ ?_
        unfold M.spec_l1Least
        simp only [Bool.and_eq_true, decide_eq_true_eq] at hq
        refine T_in (T_if (fun hm => T_ret (T_ret ?_)) (fun hm => T_ret (T_ret ?_)))
        · simp only [decide_eq_true_eq] at hm
          exact ⟨h2, Int.le_refl _, fun _ _ => by omega⟩
        · simp only [decide_eq_false_iff_not] at hm
          exact ⟨.inl ⟨hq.1, by omega⟩, by omega, fun _ _ => Int.le_refl _⟩
      · rw [decide_eq_true g1, cond_true, g2] at hq
        cases hq
    · rintro m ⟨g1, g2, g3⟩
      refine T_ret ?_
      simp only
      rw [wrap64_id (by omega) (by omega)]
      refine ⟨⟨v + 1, by omega, by omega, g1, fun j hj q1 q2 => ?_⟩, by omega⟩
      by_cases hjv : j < v
      · have := h3 j hjv q1 q2; omega
      · obtain rfl : j = v := by omega
        exact g3 q1 q2
  · simp only [decide_eq_false_iff_not] at hv
    refine T_ret ?_
    have h4 : ∀ x ∈ l, f < x.From → cov x r x.From = true → n ≤ x.From := by
      intro x hx
      obtain ⟨j, hj, rfl⟩ := List.getElem_of_mem hx
      have := h3 j (by omega)
      rwa [show l.getD j default = l[j] by simp [List.getD, hj]] at this
    rcases h2 with h2 | h2
    · exact .inl ⟨h2.1, h2.2, h4⟩
    · exact .inr ⟨h2, h4⟩

theorem daysS (l : List Hold) (r : Record) (hl : holdsOk l = true) : iterO (M.spec_HeldDays_l0 l r) (0, 0) = some ((cnt l r 20001 : Nat) : Int) := by
  apply T.eq
  refine T_iter (fun s => ∃ v : Nat, s.2 = (v : Int) ∧ v ≤ 20001 ∧ s.1 = ((cnt l r v : Nat) : Int)) (fun s => 20001 - s.2.toNat) _ ⟨0, rfl, by omega, rfl⟩ (by simp only; omega) ?_
  rintro ⟨_, _⟩ ⟨v, rfl, h1, rfl⟩
  unfold M.spec_HeldDays_l0
  dsimp only
  refine T_if (fun hv => ?_) (fun hv => ?_)
  · simp only [decide_eq_true_eq] at hv
    have key : ∃ f : Nat, M.spec_l9Free l r (v : Int) = some (f : Int) ∧ v ≤ f ∧ f ≤ 20001 ∧ (∀ x : Nat, v ≤ x → x < f → onD l r (x : Int) ≠ []) ∧ (f = 20001 ∨ onD l r (f : Int) = []) := by
      rcases freeS l r (v : Int) hl (by omega) hv with ⟨e, ⟨g1, g2, g3, g4⟩, g5⟩ | ⟨g1, g2⟩
      · exact ⟨e.toNat, by rw [g5]; congr 1; omega, by omega, by omega, fun x q1 q2 => g4 x (by omega) (by omega), .inr (by rw [show ((e.toNat : Nat) : Int) = e by omega]; exact g3)⟩
      · exact ⟨20001, g2, by omega, by omega, fun x q1 q2 => g1 x (by omega) (by omega), .inl rfl⟩
    obtain ⟨f, g1, g2, g3, g4, g5⟩ := key
    rw [g1, Option.bind_some]
    refine (nextS l r (f : Int) hl).then ?_
    intro n hn
    refine T_ret ?_
    have hn1 : (v : Int) < n ∧ n ≤ 20001 ∧ (f : Int) ≤ n ∧ (∀ x ∈ l, (f : Int) < x.From → cov x r x.From = true → n ≤ x.From) := by
      rcases hn with ⟨a1, a2, a3⟩ | ⟨a1, a3⟩
      · exact ⟨by omega, a2, by omega, a3⟩
      · exact ⟨by omega, by omega, by omega, a3⟩
    obtain ⟨a1, a2, a3, a4⟩ := hn1
    have hfree : ∀ x : Nat, f ≤ x → x < n.toNat → onD l r (x : Int) = [] := by
      intro x q1 q2
      rcases g5 with g5 | g5
      · omega
      apply Classical.byContradiction
      intro hx
      obtain ⟨h, hh, hc⟩ := onD_nil' hx
      have c1 := cov_spec hc
      by_cases hF : h.From ≤ (f : Int)
      · refine cov_ne hh ?_ g5
        unfold cov at hc ⊢
        simp only [Bool.and_eq_true, Bool.or_eq_true, decide_eq_true_eq, beq_iff_eq] at hc ⊢
        exact ⟨⟨hF, by omega⟩, hc.2⟩
      · have := a4 h hh (by omega) (by
          unfold cov at hc ⊢
          simp only [Bool.and_eq_true, Bool.or_eq_true, decide_eq_true_eq, beq_iff_eq] at hc ⊢
          exact ⟨⟨Int.le_refl _, by omega⟩, hc.2⟩)
        omega
    have e1 : cnt l r f = cnt l r v + (f - v) := by
      have := cnt_held (l := l) (r := r) (a := v) (f - v) (fun x q1 q2 => g4 x q1 (by omega))
      rwa [show v + (f - v) = f by omega] at this
    have e2 : cnt l r n.toNat = cnt l r f := by
      have := cnt_free (l := l) (r := r) (a := f) (n.toNat - f) (fun x q1 q2 => hfree x q1 (by omega))
      rwa [show f + (n.toNat - f) = n.toNat by omega] at this
    have e3 := cnt_le (l := l) (r := r) v
    simp only
    rw [wrap64_id (n := ((cnt l r v : Nat) : Int) + (f : Int)) (by omega) (by omega), wrap64_id (by omega) (by omega)]
    exact ⟨⟨n.toNat, by omega, by omega, by omega⟩, by omega⟩
  · simp only [decide_eq_false_iff_not] at hv
    obtain rfl : v = 20001 := by omega
    exact T_ret rfl

theorem days (l : List Hold) (r : Record) (hl : HoldsB l) (hr : RecB r) : ∃ x : Int × Bool, M.impl_HeldDays l r = some x ∧ M.spec_HeldDays l r = some x ∧ (x.2 = true → held l r 0 = true ∧ x.1 = ((cnt l r 20001 : Nat) : Int)) := by
  unfold M.impl_HeldDays M.spec_HeldDays
  rw [heldI l r 0 hl hr, heldS l r 0 hl hr]
  cases h : held l r 0
  · exact ⟨_, rfl, rfl, by simp⟩
  · have h1 := (held_spec h).1
    exact ⟨(((cnt l r 20001 : Nat) : Int), true), by simp [daysI l r h1], by simp [daysS l r h1], fun _ => ⟨rfl, rfl⟩⟩

theorem cnt_best {l : List Hold} {r : Record} {m f : Int} (h : Best l r m f) : decide (((cnt l r 20001 : Nat) : Int) > 0) = decide (m > 0) := by
  have h1 := cnt_pos (l := l) (r := r) 20001
  rw [Bool.eq_iff_iff, decide_eq_true_iff, decide_eq_true_iff]
  constructor
  · intro h2
    obtain ⟨x, h3, h4⟩ := h1.1 (by omega)
    have h5 := h.1 (x : Int) (by omega) (by omega)
    have h6 : 0 < (onD l r (x : Int)).length := List.length_pos_iff.2 h4
    unfold nOn at h5
    omega
  · intro h2
    obtain ⟨_, h3 | ⟨h3, h4, h5, h6, _⟩⟩ := h
    · omega
    · have : 0 < cnt l r 20001 := h1.2 ⟨f.toNat, by omega, by
        rw [show ((f.toNat : Nat) : Int) = f by omega]
        intro e
        unfold nOn at h6
        rw [e] at h6
        simp at h6
        omega⟩
      omega

end Go.Proofs.Ytjbgllhimnopaaa
