/-
  Strides: the draws and the law. Plain.
-/
import Derived.Test.YteocnbeefedbkaaSf
import Derived.Test.YteocnbeefedbkaaHc
set_option linter.unusedSimpArgs false
set_option linter.unusedVariables false
namespace Go.Proofs.Yteocnbeefedbkaa
open Go.VS

/-! ### Draws -/
theorem siEvery {code : List Int} (hb : Bytes code) : T (M.spec_DrawEveryNth code) (fun r => r.1.length ≤ 30 ∧ (-1000 ≤ r.2.1 ∧ r.2.1 ≤ 1000)) := by
  unfold M.spec_DrawEveryNth
  refine T_among hb good0s (by omega) (by simp) ?_
  intro k c1 hk h1
  have hkb : -1000 ≤ k ∧ k ≤ 1000 := by simp at hk; omega
  refine (drawPop hb h1 (by omega)).then ?_
  rintro ⟨l, c2⟩ ⟨g1, g2⟩
  simp only at g1 g2
  have hm : ∃ z, M.spec_l1Most 1 k = some z := by unfold M.spec_l1Most; cases decide ((1 : Int) > k) <;> exact ⟨_, rfl⟩
  obtain ⟨z, hz⟩ := hm
  dsimp only
  rw [hz, Option.bind_some]
  refine T_pick hb g2 (by omega) ?_
  intro x c3 _ _ h3
  refine T_pick hb h3 (by omega) ?_
  intro y c4 _ _ h4
  exact T_ret ⟨g1, hkb⟩
theorem siSize {code : List Int} (hb : Bytes code) : T (M.spec_DrawSampleSize code) (fun r => r.1 ∈ sdC ∧ r.2.1 ∈ sdP ∧ r.2.2 ∈ sdL) := by
  unfold M.spec_DrawSampleSize
  refine T_among hb good0s (by omega) (by simp) ?_
  intro a c1 ha h1
  refine T_among hb h1 (by omega) (by simp) ?_
  intro b c2 hb' h2
  refine T_among hb h2 (by omega) (by simp) ?_
  intro c c3 hc h3
  exact T_ret ⟨ha, hb', hc⟩
theorem siRecs {code : List Int} (hb : Bytes code) : T (M.spec_DrawSampleBySeries code) (fun r => RecsB r.1 ∧ r.2.1 ∈ sdP2) := by
  unfold M.spec_DrawSampleBySeries
  refine (drawHeld hb good0s (by omega)).then ?_
  rintro ⟨l, c1⟩ ⟨g1, g2⟩
  simp only at g1 g2
  refine T_among hb g2 (by omega) (by simp) ?_
  intro p c2 hp h2
  refine (drawSeed hb h2 (by omega)).then ?_
  rintro ⟨z, c3⟩ _
  exact T_ret ⟨g1, hp⟩
theorem siSeed {code : List Int} (hb : Bytes code) : T (M.spec_DrawNextSeed code) (fun _ => True) := by
  unfold M.spec_DrawNextSeed
  refine (drawSeed hb good0s (by omega)).then ?_
  rintro ⟨z, c1⟩ h1
  refine T_among hb h1 (by omega) (by simp) ?_
  intro t c2 _ h2
  exact T_ret trivial

/-! ### A sample is not smaller than told -/
def siHas (m : List Int) (x : Int) : Bool := m.any fun y => y == x
theorem siCount (y12 : List Int × Bool) (ids : List Int) (b : Bool) (h1 : y12.1.length < 1000000) (h2 : ids.length ≤ 10) :
    iterO (M.laws_FnStrides_l2 y12 (ids, b)) ((0 : Int), (0 : Int)) = some ((ids.countP (siHas y12.1) : Nat) : Int) := by
  have h := iter_up (step := M.laws_FnStrides_l2 y12 (ids, b)) (s := ((0 : Int), (0 : Int))) (e := (((ids.take ids.length).countP (siHas y12.1) : Nat) : Int)) (fun j => ((((ids.take j).countP (siHas y12.1) : Nat) : Int), (j : Int))) ids.length rfl (by omega) (fun j hj => by
    unfold M.laws_FnStrides_l2
    dsimp only
    have hc : (ids.take j).countP (siHas y12.1) ≤ 10 := by
      have : (ids.take j).countP (siHas y12.1) ≤ (ids.take j).length := List.countP_le_length
      rw [List.length_take] at this
      omega
    rw [show decide ((j : Int) < (ids.length : Int)) = true by simpa using hj, cond_true, asrt_pos (by omega), Int.toNat_natCast, vHasA y12.1 _ h1, Option.bind_some, take_succ_getD hj, List.countP_append]
    rw [show (y12.1.any fun y => y == ids.getD j default) = siHas y12.1 (ids.getD j default) from rfl]
    rw [wrap64_id (n := (((ids.take j).countP (siHas y12.1) : Nat) : Int) + 1) (by omega) (by omega), wrap64_id (n := (j : Int) + 1) (by omega) (by omega), cast_succ]
    generalize ids.getD j default = x
    cases hx : siHas y12.1 x with
    | true => rw [cond_true, show List.countP (siHas y12.1) [x] = 1 by simp [List.countP_cons, hx], cast_succ]; rfl
    | false => rw [cond_false, show List.countP (siHas y12.1) [x] = 0 by simp [List.countP_cons, hx]]; rfl) (by
    unfold M.laws_FnStrides_l2
    dsimp only
    rw [show decide ((ids.length : Int) < (ids.length : Int)) = false by simp]
    rfl)
  rw [List.take_length] at h
  exact h
theorem siLast (l : List Record) (p sd : Int) (r : List Int × Bool) (hB : RecsB l) (h1 : r.1.length < 1000000) (h : r.2 = true → recsOk l = true ∧ p ∈ ([0, 10, 50, 60, 100] : List Int) ∧ ∃ out, r.1 = sortL out ∧ SfFin l p out) :
    iterO (M.laws_FnStrides_l1 (l, p, sd) r) (0 : Int) = some (.inl ()) := by
  cases hr : r.2 with
  | false =>
    refine iter_up (s := (0 : Int)) (fun _ => (0 : Int)) 0 rfl (by omega) (fun k hk => absurd hk (Nat.not_lt_zero _)) ?_
    unfold M.laws_FnStrides_l1
    dsimp only
    rw [hr, Bool.and_false]
    rfl
  | true =>
    obtain ⟨k1, k2, out, k3, k4, k5, k6⟩ := h hr
    have hlen := (sfRecs k1).1
    refine iter_up (s := (0 : Int)) (fun k => (k : Int)) l.length rfl (by omega) (fun k hk => ?_) ?_
    · unfold M.laws_FnStrides_l1
      dsimp only
      rw [hr, Bool.and_true, show decide ((k : Int) < (l.length : Int)) = true by simpa using hk, cond_true, asrt_pos (by omega), Int.toNat_natCast]
      have hm := getD_mem (l := l) hk
      generalize l.getD k default = q at hm
      have hq := (recOk_spec ((sfRecs k1).2.2 q hm)).2.1
      have hid : InD l q.Series = (idsIn l q.Series, true) := by
        unfold InD
        rw [k1, show inR q.Series 1 99 = true from inR_true.2 hq]; rfl
      have hle : (idsIn l q.Series).length ≤ 10 := by have := sfIds_len (l := l) (s := q.Series); omega
      have hmem : q.Id ∈ idsIn l q.Series := by
        unfold idsIn
        exact List.mem_map.2 ⟨q, List.mem_filter.2 ⟨hm, by simp⟩, rfl⟩
      rw [InI l _ hB, hid, Option.bind_some, siCount r _ true h1 hle, Option.bind_some]
      obtain ⟨sq, q1, q2⟩ := k6 q.Series hq.1 hq.2
      generalize idsIn l q.Series = ids at *
      obtain ⟨z1, z2, z3, z4, z5⟩ := sdZ_ok (n := (ids.length : Int)) (p := p) (by omega) k2
      obtain ⟨rest, hperm⟩ := tk_perm (sdZ (ids.length : Int) p).toNat ids sq (by omega) q1
      have hcnt : (sdZ (ids.length : Int) p).toNat ≤ ids.countP (siHas r.1) := by
        rw [← hperm.countP_eq, List.countP_append]
        have : (tk (sdZ (ids.length : Int) p).toNat ids sq).countP (siHas r.1) = (tk (sdZ (ids.length : Int) p).toNat ids sq).length := by
          rw [List.countP_eq_length]
          intro x hx
          unfold siHas
          exact List.any_eq_true.2 ⟨x, by rw [k3]; exact sortL_mem.2 (q2 x hx), by simp⟩
        rw [this, tk_len]
        omega
      have hcl : ids.countP (siHas r.1) ≤ ids.length := List.countP_le_length
      have hpos : 0 < ids.length := List.length_pos_of_mem hmem
      have hp2 : 0 ≤ p ∧ p ≤ 100 := by simp at k2; omega
      have hmul : 0 ≤ p * (ids.length : Int) ∧ p * (ids.length : Int) ≤ 1000 := by
        refine ⟨Int.mul_nonneg hp2.1 (by omega), ?_⟩
        have := Int.mul_le_mul hp2.2 (show (ids.length : Int) ≤ 10 by omega) (by omega) (by omega)
        omega
      have hz := z4 (by omega)
      try dsimp only
      rw [wrap64_id (n := 100 * ((ids.countP (siHas r.1) : Nat) : Int)) (by omega) (by omega), wrap64_id (n := p * (ids.length : Int)) (by omega) (by omega), wrap64_id (by omega) (by omega)]
      rw [show decide (((ids.countP (siHas r.1) : Nat) : Int) < 1) = false by simp; omega, show decide (100 * ((ids.countP (siHas r.1) : Nat) : Int) < p * (ids.length : Int)) = false by simp; omega]
      rfl
    · unfold M.laws_FnStrides_l1
      dsimp only
      rw [show decide ((l.length : Int) < (l.length : Int)) = false by simp]
      rfl
theorem law_FnStrides (code : List Int) (h1 : code.length ≤ 9223372036854775807) (h2 : ∀ x, x ∈ code → 0 ≤ x ∧ x ≤ 255) : M.laws_FnStrides code = some true := by
  apply T.eq
  unfold M.laws_FnStrides M.laws_vBig
  rw [Option.bind_some]
  refine T_if (fun _ => T_ret rfl) (fun hq => ?_)
  simp only [decide_eq_false_iff_not] at hq
  have hb : Bytes code := ⟨by omega, h2⟩
  refine (siEvery hb).then ?_
  rintro ⟨l, k, z⟩ ⟨hl, hk⟩
  simp only at hl hk
  have hev := sdEvD_len (l := l) (k := k) (s := z) hl
  simp only [sdEvI l k z hl hk, sdEvS l k z hl hk, Option.bind_some, beq_self_eq_true, Bool.not_true, cond_false, vIntsA _ (show (sdEvD l k z).1.length < 1000000 by omega), Bool.or_self]
  refine T.then (Q := fun e => e = .inl ()) (T_if (fun hm => ?_) (fun _ => T_ret rfl)) ?_
  · have hv : popOk l = true ∧ (1 ≤ k ∧ k ≤ 20) := by
      unfold sdEvD at hm
      cases hc : (popOk l && inR k 1 20) && inR z 0 (k - 1) with
      | false => rw [hc] at hm; cases hm
      | true =>
        simp only [Bool.and_eq_true, inR_true] at hc
        exact ⟨hc.1.1, hc.1.2⟩
    rw [sdParts (l, k, z) hl hv.1 hv.2, Option.bind_some]
    try dsimp only
    rw [show ((l.length : Int) != (l.length : Int)) = false by simp, cond_false]
    exact T_ret rfl
  · rintro _ rfl
    try dsimp only
    refine (siSize hb).then ?_
    rintro ⟨c, p, le⟩ ⟨g1, g2, g3⟩
    obtain ⟨a, b, e1, e2, e3⟩ := sdSize g1 g2 g3
    simp only at e1 e2 e3
    try dsimp only
    rw [e1, Option.bind_some, e2, Option.bind_some, e3, cond_false]
    refine (siRecs hb).then ?_
    rintro ⟨recs, p2, sd⟩ ⟨hB, hp⟩
    simp only at hB hp
    obtain ⟨r, r1, r2, r3, r4⟩ := sfSample recs p2 sd hB hp
    simp only [r1, r2, Option.bind_some, beq_self_eq_true, Bool.not_true, cond_false, vIntsA _ r3, Bool.or_self, siLast recs p2 sd r hB r3 r4]
    refine (siSeed hb).then ?_
    rintro ⟨s, t⟩ _
    simp only [nsI, nsS, Option.bind_some, beq_self_eq_true, bne_self_eq_false, Bool.not_true, Bool.or_self, cond_false]
    refine T_if (fun hc => ?_) (fun _ => T_ret rfl)
    simp only [Bool.and_eq_true, decide_eq_true_eq] at hc
    have hs : (0 ≤ s ∧ s ≤ 99999) ∧ (0 ≤ t ∧ t ≤ 1000) := by
      have hc1 := hc.1
      unfold NsD at hc1
      cases hd : inR s 0 99999 && inR t 0 1000 with
      | false => rw [hd] at hc1; cases hc1
      | true => simpa only [Bool.and_eq_true, inR_true] using hd
    obtain ⟨n, hn⟩ : ∃ n : Nat, t = (n : Int) + 1 := ⟨(t - 1).toNat, by omega⟩
    subst hn
    have d1 : NsD s ((n : Int) + 1) = (nxtN (n + 1) s, true) := by
      unfold NsD
      rw [show inR s 0 99999 = true from inR_true.2 hs.1, show inR ((n : Int) + 1) 0 1000 = true from inR_true.2 hs.2, show ((n : Int) + 1).toNat = n + 1 by omega]; rfl
    have d2 : NsD s (n : Int) = (nxtN n s, true) := by
      unfold NsD
      rw [show inR s 0 99999 = true from inR_true.2 hs.1, show inR (n : Int) 0 1000 = true from inR_true.2 (by omega), Int.toNat_natCast]; rfl
    have d3 : NsD (nxtN n s) 1 = (nxt (nxtN n s), true) := by
      unfold NsD
      rw [show inR (nxtN n s) 0 99999 = true from inR_true.2 (nxtN_bd n hs.1)]; rfl
    rw [wrap64_id (by omega) (by omega), show (n : Int) + 1 - 1 = (n : Int) by omega, d2, d1]
    simp only [d3, nxtN_last, beq_self_eq_true, Bool.and_self]
    exact T_ret rfl
end Go.Proofs.Yteocnbeefedbkaa
