/-
  The plain law of clerks. Plain.
-/
import Derived.Test.YthffmnpbonkpaaaDoorCk
set_option linter.unusedSimpArgs false
set_option linter.unusedVariables false
namespace Go.Proofs.YthffmnpbonkpaaaDoor
open Go.VS

def PairD (l : List Clerk) (d : Int) : Int × Int × Bool :=
  bif clerksOk l && inR d 0 20000 then (bif (((whoL l 2 d).length : Int) == 0) || (((whoL l 8 d).length : Int) == 0) then (0, 0, false) else ((whoL l 2 d).getD 0 default, (whoL l 8 d).getD 0 default, true)) else (0, 0, false)
theorem pairI (l : List Clerk) (d : Int) (hl : ClB l) : M.impl_PairFor l d = some (PairD l d) := by
  unfold M.impl_PairFor PairD
  simp only [clerksI l hl, isDayI, Option.bind_some, bif_some]
  cases h : clerksOk l
  · rfl
  simp only [whoI l _ d h, Option.bind_some]
  cases inR d 0 20000
  · rfl
  cases h1 : (((whoL l 2 d).length : Int) == 0)
  · cases h2 : (((whoL l 8 d).length : Int) == 0)
    · rw [beq_eq_false_iff_ne] at h1 h2
      simp only [Bool.not_true, Bool.or_self, cond_false, Bool.and_self, cond_true]
      rw [asrt_pos ⟨by omega, by omega⟩, asrt_pos ⟨by omega, by omega⟩]
      rfl
    · rfl
  · rfl
theorem pairS (l : List Clerk) (d : Int) (hl : ClB l) : M.spec_PairFor l d = some (PairD l d) := by
  unfold M.spec_PairFor PairD
  simp only [clerksS l hl, l2DayS, Option.bind_some, bif_some]
  cases h : clerksOk l
  · rfl
  simp only [whoS l _ d h, Option.bind_some]
  cases inR d 0 20000
  · rfl
  cases h1 : (((whoL l 2 d).length : Int) == 0)
  · cases h2 : (((whoL l 8 d).length : Int) == 0)
    · rw [beq_eq_false_iff_ne] at h1 h2
      simp only [Bool.not_true, Bool.or_self, cond_false, Bool.and_self, cond_true]
      rw [asrt_pos ⟨by omega, by omega⟩, asrt_pos ⟨by omega, by omega⟩]
      rfl
    · rfl
  · rfl

def MayD (l : List Clerk) (i r d : Int) : Bool × Bool := bif (OnD l i d).2 && inR r 1 15 then (andB (OnD l i d).1 r == r, true) else (false, false)
theorem mayDI (l : List Clerk) (i r d : Int) (hl : ClB l) : M.impl_MayDo l i r d = some (MayD l i r d) := by
  unfold M.impl_MayDo MayD M.impl_isNeed
  simp only [onDI l i d hl, withinI, Option.bind_some, bif_some]
  cases (OnD l i d).2 <;> cases inR r 1 15 <;> rfl
theorem mayDS (l : List Clerk) (i r d : Int) (hl : ClB l) : M.spec_MayDo l i r d = some (MayD l i r d) := by
  unfold M.spec_MayDo MayD M.spec_l11Sum
  simp only [onDS l i d hl, l1InS, Option.bind_some, bif_some]
  cases (OnD l i d).2 <;> cases inR r 1 15 <;> rfl

theorem whoL_len {l : List Clerk} {r d : Int} : (whoL l r d).length ≤ l.length := by
  unfold whoL
  rw [List.length_map]
  exact List.length_filter_le _ _
theorem WhoD_len {l : List Clerk} {r d : Int} (h : l.length < 1000000) : (WhoD l r d).1.length < 1000000 := by
  unfold WhoD
  have := whoL_len (l := l) (r := r) (d := d)
  cases (clerksOk l && inR r 1 15) && inR d 0 20000
  · simp
  · simp only [cond_true]; omega

/-- Who stands in the list of those who may: those who may. -/
theorem who_has {l : List Clerk} {r d : Int} (h : clerksOk l = true) {k : Nat} (hk : k < l.length) : ((whoL l r d).any fun y => y == (l.getD k default).Id) = mayP l r d (l.getD k default) := by
  rw [Bool.eq_iff_iff, List.any_eq_true]
  constructor
  · rintro ⟨y, hy, e⟩
    obtain ⟨x, hx, rfl⟩ := List.mem_map.1 hy
    obtain ⟨hx, hm⟩ := List.mem_filter.1 hx
    obtain ⟨j, hj, rfl⟩ := List.getElem_of_mem hx
    have e0 : l.getD j default = l[j] := by simp [List.getD, hj]
    rw [← e0] at e hm
    have e1 : (l.getD j default).Id = (l.getD k default).Id := eq_of_beq e
    have : j = k := by
      rcases Nat.lt_trichotomy j k with q | q | q
      · have := ids_up h j k q hk; omega
      · exact q
      · have := ids_up h k j q hj; omega
    subst this
    exact hm
  · intro hm
    exact ⟨_, List.mem_map.2 ⟨_, List.mem_filter.2 ⟨getD_mem hk, hm⟩, rfl⟩, beq_self_eq_true _⟩

theorem OnD_own {l : List Clerk} {d : Int} (h : clerksOk l = true) (hd : inR d 0 20000 = true) {k : Nat} (hk : k < l.length) : OnD l (l.getD k default).Id d = (sumOn l (l.getD k default) d, true) := by
  unfold OnD
  rw [at_own h hk, h, hd, decide_eq_false (show ¬ (k : Int) < 0 by omega), Int.toNat_natCast]
  rfl

theorem law_FnClerks (code : List Int) (h1 : code.length ≤ 9223372036854775807) (h2 : ∀ x, x ∈ code → 0 ≤ x ∧ x ≤ 255) : M.laws_FnClerks code = some true := by
  apply T.eq
  unfold M.laws_FnClerks M.laws_rBig
  rw [Option.bind_some]
  refine T_if (fun _ => T_ret rfl) (fun hq => ?_)
  simp only [decide_eq_false_iff_not] at hq
  have hb : Bytes code := ⟨by omega, h2⟩
  have d1 : T (M.spec_DrawWhoMay code) (fun r => ClD r.1) := by
    unfold M.spec_DrawWhoMay
    refine (drawClerks hb good0c (by omega)).then ?_
    rintro ⟨l, c1⟩ ⟨g1, g2⟩
    refine (drawRights hb g2 (by omega)).then ?_
    rintro ⟨r, c2⟩ g3
    refine (drawDay11 hb g3 (by omega)).then ?_
    rintro ⟨d, c3⟩ _
    exact T_ret g1
  refine d1.then ?_
  rintro ⟨l, r, d⟩ hl
  have hB : ClB l := hl.b
  simp only [whoDI l r d hB, whoDS l r d hB, Option.bind_some, beq_self_eq_true, Bool.not_true, cond_false, rInts_self _ (WhoD_len (r := r) (d := d) hB.1), Bool.or_self]
  have hloop : iterO (M.laws_FnClerks_l0 (l, r, d) (WhoD l r d)) (0 : Int) = some (.inl ()) := by
    cases hw : (clerksOk l && inR r 1 15) && inR d 0 20000
    · have e : WhoD l r d = ([], false) := by unfold WhoD; rw [hw]; rfl
      rw [e]
      refine iter_up (s := 0) (fun k => (k : Int)) 0 rfl (by omega) (fun k hk => absurd hk (Nat.not_lt_zero _)) ?_
      unfold M.laws_FnClerks_l0
      dsimp only
      rw [Bool.and_false]
      rfl
    · have e : WhoD l r d = (whoL l r d, true) := by unfold WhoD; rw [hw]; rfl
      simp only [Bool.and_eq_true] at hw
      obtain ⟨⟨w1, w2⟩, w3⟩ := hw
      rw [e]
      refine iter_up (s := 0) (fun k => (k : Int)) l.length rfl (by have := hB.1; omega) (fun k hk => ?_) ?_
      · have a1 := onDI l (l.getD k default).Id d hB
        have a2 := mayDI l (l.getD k default).Id r d hB
        have a3 := OnD_own w1 w3 hk
        have a4 : MayD l (l.getD k default).Id r d = (mayP l r d (l.getD k default), true) := by unfold MayD; rw [a3, w2]; rfl
        have a5 := rHasP (whoL l r d) (l.getD k default).Id (by have := whoL_len (l := l) (r := r) (d := d); have := hB.1; omega)
        rw [who_has w1 hk] at a5
        have a6 := (sum_bd (d := d) w1 hk).2
        have a7 : (IntKind.i64.wrap (BitVec.ofInt IntKind.i64.bits (sumOn l (l.getD k default) d) &&& BitVec.ofInt IntKind.i64.bits r).toNat == r) = mayP l r d (l.getD k default) := rfl
        have a8 : (IntKind.i64.wrap (BitVec.ofInt IntKind.i64.bits (sumOn l (l.getD k default) d) &&& BitVec.ofInt IntKind.i64.bits (10 : Int)).toNat == (10 : Int)) = false := by rw [beq_eq_false_iff_ne]; exact a6
        have hl9 := hB.1
        rw [a3] at a1
        rw [a4] at a2
        unfold M.laws_FnClerks_l0
        simp (disch := first | omega | (intros; simp only [decide_eq_true_eq, decide_eq_false_iff_not, Bool.not_eq_true, Bool.not_eq_false, Bool.not_true, Bool.not_false] at *; omega)) only [cast_succ, asrt_pos, wrap64_id, Option.bind_some, cond_true, cond_false, decide_eq_true, decide_eq_false, Int.toNat_natCast, Bool.not_true, Bool.not_false, Bool.and_true, Bool.true_and, Bool.and_false, Bool.false_and, Bool.or_true, Bool.true_or, Bool.or_false, Bool.false_or, a1, a2, a5, a7, a8, beq_self_eq_true]
      · unfold M.laws_FnClerks_l0
        simp (disch := first | omega | (intros; simp only [decide_eq_true_eq, decide_eq_false_iff_not, Bool.not_eq_true, Bool.not_eq_false, Bool.not_true, Bool.not_false] at *; omega)) only [cast_succ, asrt_pos, wrap64_id, Option.bind_some, cond_true, cond_false, decide_eq_true, decide_eq_false, Int.toNat_natCast, Bool.not_true, Bool.not_false, Bool.and_true, Bool.true_and, Bool.and_false, Bool.false_and, Bool.or_true, Bool.true_or, Bool.or_false, Bool.false_or]
  rw [hloop, Option.bind_some]
  dsimp only
  have d2 : T (M.spec_DrawPairFor code) (fun r => ClD r.1) := by
    unfold M.spec_DrawPairFor
    refine (drawClerks hb good0c (by omega)).then ?_
    rintro ⟨l, c1⟩ ⟨g1, g2⟩
    refine (drawDay11 hb g2 (by omega)).then ?_
    rintro ⟨d, c3⟩ _
    exact T_ret g1
  refine d2.then ?_
  rintro ⟨l, d⟩ hl
  have hB : ClB l := hl.b
  have hp : ((PairD l d).2.2 && ((PairD l d).1 == (PairD l d).2.1)) = false := by
    unfold PairD
    cases hw : clerksOk l && inR d 0 20000
    · rfl
    simp only [Bool.and_eq_true] at hw
    simp only [cond_true]
    cases hn : (((whoL l 2 d).length : Int) == 0) || (((whoL l 8 d).length : Int) == 0)
    · simp only [cond_false, Bool.true_and]
      simp only [Bool.or_eq_false_iff, beq_eq_false_iff_ne] at hn
      rw [beq_eq_false_iff_ne]
      intro e
      have m1 := getD_mem (l := whoL l 2 d) (i := 0) (by omega)
      have m2 := getD_mem (l := whoL l 8 d) (i := 0) (by omega)
      rw [e] at m1
      obtain ⟨x, hx, ex⟩ := List.mem_map.1 m1
      obtain ⟨y, hy, ey⟩ := List.mem_map.1 m2
      obtain ⟨hx, px⟩ := List.mem_filter.1 hx
      obtain ⟨hy, py⟩ := List.mem_filter.1 hy
      obtain ⟨j, hj, rfl⟩ := List.getElem_of_mem hx
      obtain ⟨k, hk, rfl⟩ := List.getElem_of_mem hy
      have e0 : l.getD j default = l[j] := by simp [List.getD, hj]
      have e1 : l.getD k default = l[k] := by simp [List.getD, hk]
      have ejk : (l.getD j default).Id = (l.getD k default).Id := by rw [e0, e1, ex, ey]
      have : j = k := by
        rcases Nat.lt_trichotomy j k with q | q | q
        · have := ids_up hw.1 j k q hk; omega
        · exact q
        · have := ids_up hw.1 k j q hj; omega
      subst this
      rw [← e0] at px py
      have b := sum_bd (d := d) hw.1 hj
      exact b.2 (and28 b.1 (eq_of_beq px) (eq_of_beq py))
    · rfl
  simp only [pairI l d hB, pairS l d hB, Option.bind_some, beq_self_eq_true, bne_self_eq_false, Bool.not_true, Bool.or_self, hp, cond_false]
  have d3 : T (M.spec_DrawMayDo code) (fun r => ClD r.1) := by
    unfold M.spec_DrawMayDo
    refine (drawClerks hb good0c (by omega)).then ?_
    rintro ⟨l, c1⟩ ⟨g1, g2⟩
    refine (drawClerkId hb g2 (by omega) l).then ?_
    rintro ⟨i, c2⟩ g3
    refine (drawRights hb g3 (by omega)).then ?_
    rintro ⟨r, c3⟩ g4
    refine (drawDay11 hb g4 (by omega)).then ?_
    rintro ⟨d, c4⟩ _
    exact T_ret g1
  refine d3.then ?_
  rintro ⟨l, i, r, d⟩ hl
  have hB : ClB l := hl.b
  simp only [mayDI l i r d hB, mayDS l i r d hB, Option.bind_some, beq_self_eq_true, Bool.not_true, Bool.or_self, cond_false]
  have d4 : T (M.spec_DrawRightsOn code) (fun r => ClD r.1) := by
    unfold M.spec_DrawRightsOn
    refine (drawClerks hb good0c (by omega)).then ?_
    rintro ⟨l, c1⟩ ⟨g1, g2⟩
    refine (drawClerkId hb g2 (by omega) l).then ?_
    rintro ⟨i, c2⟩ g3
    refine (drawDay11 hb g3 (by omega)).then ?_
    rintro ⟨d, c4⟩ _
    exact T_ret g1
  refine d4.then ?_
  rintro ⟨l, i, d⟩ hl
  have hB : ClB l := hl.b
  have hS : M.spec_AreClerks l = some (clerksOk l) := by unfold M.spec_AreClerks; rw [clerksS l hB]; rfl
  simp only [onDI l i d hB, onDS l i d hB, clerksI l hB, hS, Option.bind_some, beq_self_eq_true, Bool.and_self, cond_true]
  exact T_ret rfl
end Go.Proofs.YthffmnpbonkpaaaDoor
