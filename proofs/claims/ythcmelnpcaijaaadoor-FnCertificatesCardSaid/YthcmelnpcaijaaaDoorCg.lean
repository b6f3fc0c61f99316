/-
  FnCertificates: the draws and the law. Plain.
-/
import Derived.Test.YthcmelnpcaijaaaDoorCt
set_option linter.unusedSimpArgs false
set_option linter.unusedVariables false
namespace Go.Proofs.YthcmelnpcaijaaaDoor
open Go.VS

theorem vPairsS (l : List (Int × Int)) (hl : l.length < 1000000) : M.laws_vPairs l l = some true := by
  unfold M.laws_vPairs
  rw [bne_self_eq_false, cond_false, iter_up (s := (0 : Int)) (e := .inl ()) (fun k => (k : Int)) l.length rfl (by omega)]
  · rfl
  · intro k hk
    unfold M.laws_vPairs_l0
    try dsimp only
    rw [decide_eq_true (by omega), cond_true, asrt_pos ⟨by omega, by omega⟩, asrt_pos ⟨by omega, by omega⟩, beq_self_eq_true, beq_self_eq_true, Bool.and_self, Bool.not_true, cond_false, wrap64_id (by omega) (by omega)]
    rfl
  · unfold M.laws_vPairs_l0
    try dsimp only
    rw [decide_eq_false (by omega), cond_false]

theorem most (a b : Int) : M.spec_l1Most a b = some (if a > b then a else b) := by
  unfold M.spec_l1Most
  by_cases h : a > b
  · rw [decide_eq_true h, cond_true, if_pos h]
  · rw [decide_eq_false h, cond_false, if_neg h]

def PathB (r : List UInt8 × (List (Int × Int)) × Int × Cur) : Prop := r.1.length ≤ 40 ∧ r.2.1.length ≤ 20
theorem drawPath {code : List Int} (hb : Bytes code) : T (M.spec_l1Cur_path (⟨code, 0, 0⟩ : Cur)) PathB := by
  unfold M.spec_l1Cur_path
  refine (drawLedger hb good0l (by omega)).then ?_
  rintro ⟨l, c1⟩ ⟨g1, g2⟩
  simp only at g1 g2
  have hl : TextsB l := .ofD ⟨by omega, g1.2⟩
  try dsimp only
  rw [most, Option.bind_some]
  refine T_pick hb g2 (by omega) ?_
  intro x c2 _ _ g3
  rw [PathS l x hl, Option.bind_some, RootS l hl, Option.bind_some]
  generalize hP : PathD l x = P
  generalize hR : (bif ledOk l then (root (leaves l), true) else ((0 : Int), false)) = R
  try dsimp only
  have hP3 : P.1.length ≤ 3 := by rw [← hP]; exact PathD_len
  refine T.then (Q := fun r => Good code 300 (bif ((!P.2) || (!R.2)) then c2 else r.2)) ?_ ?_
  · cases hq : ((!P.2) || (!R.2))
    · refine T.mono (one_ok hb g3 (by omega)) ?_
      intro r hr
      exact hr.up (by omega)
    · exact T_ret (g3.up (by omega))
  intro y5 g4
  refine T_if (fun hq => ?_) (fun hq => ?_)
  · refine (drawEntry hb g4 (by omega)).then ?_
    rintro ⟨e, c3⟩ ⟨h1, h2⟩
    refine T_pick hb h2 (by omega) ?_
    intro x1 c4 _ _ h3
    refine T_among hb h3 (by omega) (by simp) ?_
    intro x2 c5 _ h4
    exact T_ret ⟨h1, by simp⟩
  · simp only [Bool.or_eq_false_iff, Bool.not_eq_false'] at hq
    have hx : ledOk l = true ∧ 0 ≤ x ∧ x ≤ (l.length : Int) - 1 := by
      have h2 : P.2 = true := hq.1.1
      rw [← hP] at h2
      unfold PathD at h2
      cases h3 : (ledOk l && inR x 0 ((l.length : Int) - 1))
      · rw [h3] at h2; cases h2
      · rw [Bool.and_eq_true] at h3
        exact ⟨h3.1, inR_true.1 h3.2⟩
    rw [hq.1.1, hq.1.2] at g4 ⊢
    simp only [Bool.not_true, Bool.or_self, cond_false] at g4 ⊢
    refine T_ask ⟨by omega, by omega⟩ ?_
    refine T.then (Q := fun r => r.1.length ≤ 40 ∧ Good code 400 r.2) ?_ ?_
    · refine T_one hb g4 (by omega) ?_
      intro b c3 h1
      refine T_if (fun _ => ?_) (fun _ => ?_)
      · refine (drawEntry hb h1 (by omega)).then ?_
        rintro ⟨e, c4⟩ ⟨h2, h3⟩
        exact T_ret ⟨h2, h3.up (by omega)⟩
      · exact T_ret ⟨g1.2 _ (getD_mem (by omega)), h1.up (by omega)⟩
    rintro ⟨e, c3⟩ ⟨h1, h2⟩
    simp only at h1 h2
    try dsimp only
    refine T.then (Q := fun r => r.1.length ≤ 3 ∧ Good code 500 r.2) ?_ ?_
    · refine T_one hb h2 (by omega) ?_
      intro b c4 h3
      refine T_if (fun hb2 => ?_) (fun _ => ?_)
      · simp only [Bool.and_eq_true, decide_eq_true_eq] at hb2
        refine T_pick hb h3 (by omega) ?_
        intro x1 c5 _ hx1 h4
        have hx1 := hx1 (by omega)
        refine T_pick hb h4 (by omega) ?_
        intro x2 c6 _ _ h5
        refine T_ask hx1 (T_ask hx1 ?_)
        rw [Option.bind_some]
        exact T_ret ⟨by simpa using hP3, h5.up (by omega)⟩
      · exact T_ret ⟨hP3, h3.up (by omega)⟩
    rintro ⟨out, c4⟩ ⟨h3, h4⟩
    simp only at h3 h4
    try dsimp only
    refine T.then (Q := fun r => r.1.length ≤ 20) ?_ ?_
    · refine T_one hb h4 (by omega) ?_
      intro b c5 h5
      refine T_if (fun _ => ?_) (fun _ => ?_)
      · refine T.then (Q := fun r => r.1.length ≤ 20) (T_iter (fun s => s.1.length ≤ 9 ∧ Good code (600 + 4 * s.1.length) s.2) (fun s => 10 - s.1.length) _ ⟨by simp only; omega, h5.up (by omega)⟩ (by simp only; omega) ?_) (fun r hr => T_ret hr)
        rintro ⟨out2, c6⟩ ⟨k1, k2⟩
        simp only at k1 k2
        unfold M.spec_l1Cur_path_l0
        dsimp only
        refine T_pick hb k2 (by omega) ?_
        intro z c7 _ hz hc7
        have hz := hz (by omega)
        rw [wrap64_id (by omega) (by omega)]
        refine T_if (fun hq => ?_) (fun hq => ?_)
        · simp only [decide_eq_true_eq] at hq
          exact T_ask (by simp; omega) (T_ret ⟨⟨by simp; omega, hc7.up (by simp; omega)⟩, by simp; omega⟩)
        · exact T_ret (by simp only; omega)
      · exact T_ret (by simp only; omega)
    rintro ⟨out3, c5⟩ h5
    exact T_ret ⟨h1, h5⟩

theorem law_FnCertificates (code : List Int) (h1 : code.length ≤ 9223372036854775807) (h2 : ∀ x, x ∈ code → 0 ≤ x ∧ x ≤ 255) : M.laws_FnCertificates code = some true := by
  apply T.eq
  unfold M.laws_FnCertificates M.laws_vBig
  rw [Option.bind_some]
  refine T_if (fun _ => T_ret rfl) (fun hq => ?_)
  simp only [decide_eq_false_iff_not] at hq
  have hb : Bytes code := ⟨by omega, h2⟩
  have d1 : T (M.spec_DrawRootOf code) TextsB := by
    unfold M.spec_DrawRootOf M.spec_DrawIsLedger
    refine T_in (T.then (drawLedger hb good0l (by omega)) ?_)
    rintro ⟨l, c1⟩ ⟨g1, _⟩
    exact T_ret (T_ret (.ofD ⟨by have := g1.1; simp only at this ⊢; omega, g1.2⟩))
  refine d1.then ?_
  intro l hl
  have hok : (bif ledOk l then (root (leaves l), true) else ((0 : Int), false)).2 = ledOk l := by cases ledOk l <;> rfl
  rw [RootI l hl, Option.bind_some, RootS l hl, Option.bind_some]
  simp only [bne_self_eq_false, beq_self_eq_true, Bool.not_true, Bool.or_self, cond_false]
  rw [ledI l hl, Option.bind_some, hok]
  simp only [bne_self_eq_false, beq_self_eq_true, Bool.not_true, Bool.or_self, cond_false]
  rw [certLoop l hl, Option.bind_some]
  try dsimp only
  have d2 : T (M.spec_DrawPathOf code) (fun r => TextsB r.1) := by
    unfold M.spec_DrawPathOf
    refine (drawLedger hb good0l (by omega)).then ?_
    rintro ⟨l, c1⟩ ⟨g1, g2⟩
    refine T_pick hb g2 (by omega) ?_
    intro x c2 _ _ g3
    refine T_pick hb g3 (by omega) ?_
    intro y c3 _ _ g4
    exact T_ret (.ofD ⟨by have := g1.1; simp only at this ⊢; omega, g1.2⟩)
  refine d2.then ?_
  rintro ⟨m, i⟩ hm
  simp only at hm
  try dsimp only
  rw [PathI m i hm, Option.bind_some, PathS m i hm, Option.bind_some]
  simp only [beq_self_eq_true, Bool.not_true, cond_false]
  rw [vPairsS _ (by have := PathD_len (l := m) (i := i); omega), Option.bind_some]
  simp only [Bool.not_true, Bool.or_self, cond_false]
  have d3 : T (M.spec_DrawIsCertified code) (fun r => r.1.length ≤ 40 ∧ r.2.1.length ≤ 20) := by
    unfold M.spec_DrawIsCertified
    refine (drawPath hb).then ?_
    rintro ⟨e, p, r, c⟩ g
    exact T_ret g
  refine d3.then ?_
  rintro ⟨e, p, r⟩ ⟨g1, g2⟩
  simp only at g1 g2
  try dsimp only
  rw [CertI e p r (by omega) (by omega), Option.bind_some, CertS e p r (by omega) (by omega), Option.bind_some]
  simp only [beq_self_eq_true, Bool.not_true, Bool.or_self, cond_false]
  rw [FromI e p (by omega) (by omega), Option.bind_some, FromS e p (by omega) (by omega), Option.bind_some]
  have hcert : (CertD e p r).2 = (FromD e p).2 := rfl
  have hcert1 : ((CertD e p r).2 && (!((CertD e p r).1 == ((FromD e p).1 == r)))) = false := by
    unfold CertD
    cases (FromD e p).2 <;> simp
  rw [hcert1, hcert]
  simp only [bne_self_eq_false, beq_self_eq_true, Bool.not_true, Bool.or_self, cond_false]
  have d4 : T (M.spec_DrawPlaceFrom code) (fun r => r.length ≤ 20) := by
    unfold M.spec_DrawPlaceFrom
    refine (drawPath hb).then ?_
    rintro ⟨e, p, r, c⟩ g
    exact T_ret g.2
  refine d4.then ?_
  intro q hq
  rw [PlaceI q (by omega), Option.bind_some, PlaceS q (by omega), Option.bind_some]
  exact T_ret (by simp)
end Go.Proofs.YthcmelnpcaijaaaDoor
