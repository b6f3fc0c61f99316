/-
  FnPaths: the reference's ways, the law. Plain.
-/
import Derived.Test.YteocnbeefedbkaaDoorPx
import Derived.Test.YteocnbeefedbkaaDoorLi
set_option linter.unusedSimpArgs false
set_option linter.unusedVariables false
namespace Go.Proofs.YteocnbeefedbkaaDoor
open Go.VS

theorem strict_nd {l : List Int} (h : l.Pairwise (· < ·)) : l.Nodup := h.imp (fun g => by omega)
/-- What holds of the ways found so far. -/
structure WI (l : List Format) (d u : Int) (out : List Int) : Prop where
  pw : out.Pairwise (· < ·)
  hu : u ∈ out
  hr : ∀ x ∈ out, ∃ k, Rch (nxt l d) u k x
theorem WI.len {l : List Format} {d u : Int} {out : List Int} (hu : hasFm l u = true) (h : WI l d u out) : out.length ≤ l.length := reach_len hu (strict_nd h.pw) h.hr
theorem waysS2 (l : List Format) (d u : Int) (hl : FmB l) (hl10 : l.length ≤ 10) (hu : hasFm l u = true) (i : Nat) (hi : i < l.length) (out : List Int) (ag : Bool) (h : WI l d u out) (hU : (l.getD i default).Until ≥ d) :
    T (iterO (M.spec_l7Ways_l2 l (i : Int)) (out, ag, (0 : Int))) (fun r => WI l d u r.1 ∧ (∀ x ∈ out, x ∈ r.1) ∧ ((r.1 = out ∧ r.2 = ag ∧ ∀ y ∈ (l.getD i default).Reads, y ∈ out → (l.getD i default).Id ∈ out) ∨ (out.length < r.1.length ∧ r.2 = true))) := by
  have hR := (hl.2 _ (getD_mem hi)).2
  refine T_iter (fun s => ∃ j : Nat, s.2.2 = (j : Int) ∧ j ≤ (l.getD i default).Reads.length ∧ WI l d u s.1 ∧ (∀ x ∈ out, x ∈ s.1) ∧ ((s.1 = out ∧ s.2.1 = ag ∧ ∀ y ∈ (l.getD i default).Reads.take j, y ∈ out → (l.getD i default).Id ∈ out) ∨ (out.length < s.1.length ∧ s.2.1 = true))) (fun s => (l.getD i default).Reads.length + 1 - s.2.2.toNat) _ ⟨0, rfl, by omega, h, fun x hx => hx, .inl ⟨rfl, rfl, by simp⟩⟩ (by simp only; omega) ?_
  rintro ⟨r, a, _⟩ ⟨j, rfl, h1, h2, h3, h4⟩
  simp only at h2 h3 h4
  have hrl := h2.len hu
  unfold M.spec_l7Ways_l2
  try dsimp only
  rw [Int.toNat_natCast]
  refine T_ask ⟨by omega, by omega⟩ (T_if (fun hq => ?_) (fun hq => ?_))
  · simp only [decide_eq_true_eq] at hq
    have hj : j < (l.getD i default).Reads.length := by omega
    have hy := getD_mem (l := (l.getD i default).Reads) hj
    rw [Int.toNat_natCast]
    have htk : (l.getD i default).Reads.take (j + 1) = (l.getD i default).Reads.take j ++ [(l.getD i default).Reads.getD j default] := by
      rw [List.take_add_one, List.getElem?_eq_getElem hj, List.getD_eq_getElem?_getD (l := (l.getD i default).Reads), List.getElem?_eq_getElem hj]; rfl
    refine T.then (Q := fun q => WI l d u q.1 ∧ (∀ x ∈ out, x ∈ q.1) ∧ ((q.1 = out ∧ q.2 = ag ∧ ∀ y ∈ (l.getD i default).Reads.take (j + 1), y ∈ out → (l.getD i default).Id ∈ out) ∨ (out.length < q.1.length ∧ q.2 = true))) ?_ ?_
    · refine T_ask ⟨by omega, by omega⟩ (T_ask ⟨by omega, by omega⟩ ?_)
      rw [hasQ _ _ (by omega), Option.bind_some]
      refine T_ask (fun _ => ⟨by omega, by omega⟩) ?_
      cases hb : r.any fun y => y == (l.getD i default).Reads.getD j default
      · simp only [cond_false, Option.bind_some, Bool.false_and]
        refine T_ret ⟨h2, h3, ?_⟩
        rcases h4 with ⟨rfl, e2, e3⟩ | h4
        · refine .inl ⟨rfl, e2, fun y hy2 hy3 => ?_⟩
          rw [htk] at hy2
          rcases List.mem_append.1 hy2 with hy2 | hy2
          · exact e3 y hy2 hy3
          · rw [List.mem_singleton] at hy2; rw [hy2] at hy3; rw [anyEq.2 hy3] at hb; cases hb
        · exact .inr h4
      · have hbm := anyEq.1 hb
        simp only [cond_true, Bool.true_and]
        rw [hasQ _ _ (by omega), Option.bind_some]
        refine T_if (fun hc => ?_) (fun hc => ?_)
        · rw [Bool.not_eq_true'] at hc
          have hm : (l.getD i default).Id ∉ r := fun hm => by rw [anyEq.2 hm] at hc; cases hc
          obtain ⟨m', p1, p2, p3, p4⟩ := putInt r (l.getD i default).Id h2.pw hm (by omega)
          refine T_ask ⟨by omega, by omega⟩ ?_
          rw [p1, Option.bind_some]
          obtain ⟨k, hk⟩ := h2.hr _ hbm
          have hw : (l.getD i default).Id ∈ nxt l d ((l.getD i default).Reads.getD j default) := nxt_mem.2 ⟨_, getD_mem hi, by
            unfold edge
            rw [anyEq.2 hy, decide_eq_true hU]; rfl, rfl⟩
          refine T_ret ⟨⟨p2, (p3 u).2 (.inr h2.hu), fun x hx => ?_⟩, fun x hx => (p3 x).2 (.inr (h3 x hx)), .inr ⟨?_, rfl⟩⟩
          · rcases (p3 x).1 hx with rfl | hx
            · exact ⟨k + 1, hk.next hw⟩
            · exact h2.hr x hx
          · have : out.length ≤ r.length := nodup_le (strict_nd h.pw) h3
            simp only; omega
        · rw [Bool.not_eq_false'] at hc
          refine T_ret ⟨h2, h3, ?_⟩
          rcases h4 with ⟨rfl, e2, e3⟩ | h4
          · refine .inl ⟨rfl, e2, fun y hy2 hy3 => ?_⟩
            exact anyEq.1 hc
          · exact .inr h4
    · rintro ⟨q, b⟩ ⟨q1, q2, q3⟩
      simp only at q1 q2 q3
      refine T_ret ?_
      simp only
      rw [wrap64_id (by omega) (by omega)]
      exact ⟨⟨j + 1, by omega, by omega, q1, q2, q3⟩, by omega⟩
  · simp only [decide_eq_false_iff_not] at hq
    obtain rfl : j = (l.getD i default).Reads.length := by omega
    rw [List.take_length] at h4
    exact T_ret ⟨h2, h3, h4⟩
theorem waysS1 (l : List Format) (d u : Int) (hl : FmB l) (hl10 : l.length ≤ 10) (hu : hasFm l u = true) (out : List Int) (h : WI l d u out) :
    T (iterO (M.spec_l7Ways_l1 l d) (out, false, (0 : Int))) (fun r => WI l d u r.1 ∧ (∀ x ∈ out, x ∈ r.1) ∧ ((r.1 = out ∧ r.2 = false ∧ ∀ x ∈ out, ∀ w ∈ nxt l d x, w ∈ out) ∨ (out.length < r.1.length ∧ r.2 = true))) := by
  have hb := hl.1
  refine T_iter (fun s => ∃ j : Nat, s.2.2 = (j : Int) ∧ j ≤ l.length ∧ WI l d u s.1 ∧ (∀ x ∈ out, x ∈ s.1) ∧ ((s.1 = out ∧ s.2.1 = false ∧ ∀ f ∈ l.take j, ∀ x ∈ out, edge d x f = true → f.Id ∈ out) ∨ (out.length < s.1.length ∧ s.2.1 = true))) (fun s => l.length + 1 - s.2.2.toNat) _ ⟨0, rfl, by omega, h, fun x hx => hx, .inl ⟨rfl, rfl, by simp⟩⟩ (by simp only; omega) ?_
  rintro ⟨r, a, _⟩ ⟨j, rfl, h1, h2, h3, h4⟩
  simp only at h2 h3 h4
  have hrl := h2.len hu
  unfold M.spec_l7Ways_l1
  try dsimp only
  refine T_if (fun hq => ?_) (fun hq => ?_)
  · simp only [decide_eq_true_eq] at hq
    have hj : j < l.length := by omega
    have htk : l.take (j + 1) = l.take j ++ [l.getD j default] := by
      rw [List.take_add_one, List.getElem?_eq_getElem hj, List.getD_eq_getElem?_getD, List.getElem?_eq_getElem hj]; rfl
    rw [Int.toNat_natCast]
    refine T.then (Q := fun q => WI l d u q.1 ∧ (∀ x ∈ out, x ∈ q.1) ∧ ((q.1 = out ∧ q.2 = false ∧ ∀ f ∈ l.take (j + 1), ∀ x ∈ out, edge d x f = true → f.Id ∈ out) ∨ (out.length < q.1.length ∧ q.2 = true))) ?_ ?_
    · refine T_ask ⟨by omega, by omega⟩ ?_
      rw [hasQ _ _ (by omega), Option.bind_some]
      refine T_ask (fun _ => ⟨by omega, by omega⟩) (T_if (fun hc => ?_) (fun hc => ?_))
      · refine T_ret ⟨h2, h3, ?_⟩
        rcases h4 with ⟨rfl, e2, e3⟩ | h4
        · refine .inl ⟨rfl, e2, fun f hf x hx hfe => ?_⟩
          rw [htk] at hf
          rcases List.mem_append.1 hf with hf | hf
          · exact e3 f hf x hx hfe
          · rw [List.mem_singleton] at hf
            subst hf
            rw [Bool.or_eq_true] at hc
            rcases hc with hc | hc
            · exact anyEq.1 hc
            · unfold edge at hfe
              simp only [Bool.and_eq_true, decide_eq_true_eq] at hfe hc
              omega
        · exact .inr h4
      · simp only [Bool.or_eq_false_iff, decide_eq_false_iff_not] at hc
        refine (waysS2 l d u hl hl10 hu j hj r a h2 (by omega)).then ?_
        rintro ⟨q, b⟩ ⟨q1, q2, q3⟩
        simp only at q1 q2 q3
        refine T_ret ⟨q1, fun x hx => q2 x (h3 x hx), ?_⟩
        have hol : out.length ≤ r.length := nodup_le (strict_nd h.pw) h3
        rcases q3 with ⟨rfl, rfl, q5⟩ | ⟨q4, q5⟩
        · rcases h4 with ⟨rfl, e2, e3⟩ | h4
          · refine .inl ⟨rfl, e2, fun f hf x hx hfe => ?_⟩
            rw [htk] at hf
            rcases List.mem_append.1 hf with hf | hf
            · exact e3 f hf x hx hfe
            · rw [List.mem_singleton] at hf
              subst hf
              unfold edge at hfe
              rw [Bool.and_eq_true] at hfe
              exact q5 x (anyEq.1 hfe.1) hx
          · exact .inr h4
        · exact .inr ⟨by simp only; omega, q5⟩
    · rintro ⟨q, b⟩ ⟨q1, q2, q3⟩
      simp only at q1 q2 q3
      refine T_ret ?_
      simp only
      rw [wrap64_id (by omega) (by omega)]
      exact ⟨⟨j + 1, by omega, by omega, q1, q2, q3⟩, by omega⟩
  · simp only [decide_eq_false_iff_not] at hq
    obtain rfl : j = l.length := by omega
    rw [List.take_length] at h4
    refine T_ret ⟨h2, h3, ?_⟩
    rcases h4 with ⟨rfl, e2, e3⟩ | h4
    · refine .inl ⟨rfl, e2, fun x hx w hw => ?_⟩
      obtain ⟨f, f1, f2, rfl⟩ := nxt_mem.1 hw
      exact e3 f f1 x hx f2
    · exact .inr h4
theorem waysS (l : List Format) (u d : Int) (hl : FmB l) (hl10 : l.length ≤ 10) (hu : hasFm l u = true) : T (M.spec_l7Ways l u d) (Ways (nxt l d) u) := by
  unfold M.spec_l7Ways
  refine T.then (Q := Ways (nxt l d) u) ?_ (fun r hr => T_ret hr)
  refine T_iter (fun s => WI l d u s.1 ∧ (s.2 = false → ∀ x ∈ s.1, ∀ w ∈ nxt l d x, w ∈ s.1)) (fun s => 2 * (20 - s.1.length) + (if s.2 = true then 1 else 0)) _ ⟨⟨by simp, by simp, fun x hx => by rw [List.mem_singleton] at hx; subst hx; exact ⟨0, .zero⟩⟩, fun h => by cases h⟩ (by simp) ?_
  rintro ⟨out, ag⟩ ⟨h, hc⟩
  simp only at h hc
  unfold M.spec_l7Ways_l0
  try dsimp only
  cases ag
  · exact T_ret ⟨h.pw, fun x => ⟨h.hr x, fun ⟨k, hk⟩ => Rch.closed h.hu (hc rfl) k x hk⟩⟩
  · rw [cond_true]
    refine (waysS1 l d u hl hl10 hu out h).then ?_
    rintro ⟨r, a⟩ ⟨r1, r2, r3⟩
    simp only at r1 r2 r3
    refine T_ret ?_
    have := r1.len hu
    simp only
    rcases r3 with ⟨rfl, rfl, r5⟩ | ⟨r4, rfl⟩
    · exact ⟨⟨r1, fun _ => r5⟩, by simp⟩
    · exact ⟨⟨r1, fun e => by cases e⟩, by simp; omega⟩

def WaysD (l : List Format) (u d : Int) (r : List Int × Bool) : Prop := bif onDay l u d then (Ways (nxt l d) u r.1 ∧ r.2 = true) else r = ([], false)
theorem WaysI (l : List Format) (u d : Int) (hl : FmB l) : T (M.impl_WaysTo l u d) (WaysD l u d) := by
  unfold M.impl_WaysTo WaysD
  rw [onDayI l u d hl, Option.bind_some]
  cases ho : onDay l u d
  · exact T_ret rfl
  · obtain ⟨h1, h2, h3⟩ := onDay_ok ho
    rw [Bool.not_true, cond_false]
    exact (waysI l u d hl (fms_ok h1).1 h2).then fun r hr => T_ret ⟨hr, rfl⟩
theorem onDayS (l : List Format) (u d : Int) (hl : FmB l) {β : Type} (f : Bool → Option β) : ((M.spec_l7Good l).bind fun y0 =>
  ((bif (!y0) then some default else M.spec_l7Find l u)).bind fun y1 =>
  ((bif ((!y0) || (decide (y1 < (0 : Int)))) then some default else M.spec_l2Day d)).bind fun y2 => f (((!y0) || (decide (y1 < (0 : Int)))) || (!y2))) = f (!onDay l u d) := by
  rw [fmsS l hl, Option.bind_some, atFmS l u hl.1]
  unfold onDay
  cases fmsOk l
  · rfl
  simp only [Bool.not_true, cond_false, Option.bind_some, atFm_neg, Bool.false_or, Bool.true_and]
  cases hasFm l u
  · rfl
  simp only [Bool.not_true, cond_false, Bool.false_or, Bool.true_and]
  rw [show M.spec_l2Day d = some (inR d 0 20000) from rfl, Option.bind_some]
theorem WaysSS (l : List Format) (u d : Int) (hl : FmB l) : T (M.spec_WaysTo l u d) (WaysD l u d) := by
  unfold M.spec_WaysTo WaysD
  rw [onDayS l u d hl (fun b => bif b then some (([] : List Int), false) else (M.spec_l7Ways l u d).bind fun y3 => some (y3, true))]
  cases ho : onDay l u d
  · exact T_ret rfl
  · obtain ⟨h1, h2, h3⟩ := onDay_ok ho
    rw [Bool.not_true, cond_false]
    exact (waysS l u d hl (fms_ok h1).1 h2).then fun r hr => T_ret ⟨hr, rfl⟩
theorem WaysD.one {l : List Format} {u d : Int} {r q : List Int × Bool} (h : WaysD l u d r) (h' : WaysD l u d q) : r = q := by
  unfold WaysD at h h'
  cases ho : onDay l u d
  · rw [ho] at h h'; exact h.trans h'.symm
  · rw [ho] at h h'
    obtain ⟨a1, a2⟩ := h
    obtain ⟨b1, b2⟩ := h'
    exact Prod.ext (a1.one b1) (a2.trans b2.symm)

theorem pathSS (l : List Format) (u to d : Int) (hl : FmB l) : T (M.spec_ShortestPath l u to d) (SpD l u to d) := by
  obtain ⟨q0, _, hq0⟩ := pathI l u to d hl
  unfold M.spec_ShortestPath
  refine (WaysSS l u d hl).then ?_
  intro w hw
  unfold WaysD at hw
  unfold SpD at hq0 ⊢
  cases ho : onDay l u d
  · rw [ho] at hw
    simp only [cond_false] at hw
    rw [hw]
    exact T_ret rfl
  · obtain ⟨h1, h2, h3⟩ := onDay_ok ho
    rw [ho] at hw hq0
    obtain ⟨⟨w1, w2⟩, w3⟩ := hw
    have hl10 := (fms_ok h1).1
    have hwl : w.1.length ≤ 10 := by
      have := reach_len h2 (strict_nd w1) (fun x hx => (w2 x).1 hx)
      omega
    rw [w3]
    simp only [Bool.not_true, cond_false, Bool.false_or, Bool.true_and] at hq0 ⊢
    rw [hasQ _ _ (by omega), Option.bind_some]
    cases hm : w.1.any fun y => y == to
    · rw [Bool.not_false, cond_true]
      refine T_ret ?_
      have hno : ∀ j, ¬ Rch (nxt l d) u j to := fun j hj => by
        rw [anyEq.2 ((w2 to).2 ⟨j, hj⟩)] at hm; cases hm
      cases ht : hasFm l to
      · rfl
      · exact .inr ⟨hno, rfl⟩
    · have hto := (w2 to).1 (anyEq.1 hm)
      obtain ⟨kt, hkt⟩ := hto
      have ht := rch_has h2 hkt
      simp only [ht, cond_true, Bool.not_true, cond_false] at hq0 ⊢
      obtain ⟨km, pm, m1, m2, _, Sm, m3, m4, m5⟩ : ∃ k p, (∀ j, j < k → ¬ Rch (nxt l d) u j to) ∧ fnd (walks (nxt l d) u k) (· == to) = some p ∧ q0 = (p, true) ∧ ∃ S : List Int, S.Nodup ∧ (∀ x ∈ S, ∃ j, Rch (nxt l d) u j x) ∧ k < S.length := by
        rcases hq0 with h | ⟨h, _⟩
        · exact h
        · exact absurd hkt (h kt)
      have hSw : Sm.length ≤ w.1.length := nodup_le m3 (fun x hx => (w2 x).2 (m4 x hx))
      refine T.then (Q := fun r => ∃ x, r = .inr x ∧ ResP (nxt l d) u to x) ?_ (fun r ⟨x, e, hx⟩ => by rw [e]; exact T_ret hx)
      refine T_iter (fun s => ∃ j : Nat, s = (j : Int) ∧ j ≤ km) (fun s => 20 - s.toNat) _ ⟨0, rfl, by omega⟩ (by omega) ?_
      rintro _ ⟨j, rfl, hj⟩
      unfold M.spec_ShortestPath_l0
      try dsimp only
      rw [decide_eq_true (show (j : Int) < (w.1.length : Int) by omega), cond_true]
      refine (pathS l to d hl hl10 j rounds u (by unfold rounds; omega) (by omega)).then ?_
      intro x hx
      rw [dfs_walks] at hx
      cases hf : fnd (walks (nxt l d) u j) (· == to) with
      | none =>
        rw [hf] at hx
        simp only at hx
        rw [hx, cond_false]
        refine T_ret ?_
        have : j ≠ km := by rintro rfl; rw [m2] at hf; cases hf
        simp only
        rw [wrap64_id (by omega) (by omega)]
        exact ⟨⟨j + 1, by omega, by omega⟩, by omega⟩
      | some p =>
        rw [hf] at hx
        simp only at hx
        subst hx
        have hr : Rch (nxt l d) u j to := by
          obtain ⟨f1, f2⟩ := fnd_spec hf
          exact ⟨p, f1, by simpa using f2⟩
        have : j = km := by
          rcases Nat.lt_or_ge j km with h | h
          · exact absurd hr (m1 j h)
          · omega
        subst this
        exact T_ret ⟨_, rfl, .inl ⟨j, p, m1, hf, rfl, Sm, m3, m4, m5⟩⟩
theorem SpD.one {l : List Format} {u to d : Int} {r q : List Int × Bool} (h : SpD l u to d r) (h' : SpD l u to d q) : r = q := by
  unfold SpD at h h'
  cases ho : onDay l u d && hasFm l to
  · rw [ho] at h h'; exact h.trans h'.symm
  · rw [ho] at h h'; exact ResP.one h h'
theorem SpD.ok {l : List Format} {u to d : Int} {r : List Int × Bool} (h : SpD l u to d r) (hr : r.2 = true) : ∃ k, r.1 ∈ walks (nxt l d) u k ∧ Rch (nxt l d) u k to ∧ onDay l u d = true := by
  unfold SpD at h
  cases ho : onDay l u d && hasFm l to
  · rw [ho] at h; simp only [cond_false] at h; rw [h] at hr; cases hr
  · rw [ho] at h
    rw [Bool.and_eq_true] at ho
    rcases h with ⟨k, p, _, h2, rfl, _⟩ | ⟨_, rfl⟩
    · obtain ⟨f1, f2⟩ := fnd_spec h2
      exact ⟨k, f1, ⟨p, f1, by simpa using f2⟩, ho.1⟩
    · cases hr
theorem SpD.reach {l : List Format} {u to d : Int} {r : List Int × Bool} {k : Nat} (h : SpD l u to d r) (ho : onDay l u d = true) (hk : Rch (nxt l d) u k to) : r.2 = true := by
  have ht := rch_has (onDay_ok ho).2.1 hk
  unfold SpD at h
  rw [ho, ht] at h
  rcases h with ⟨k, p, _, _, rfl, _⟩ | ⟨hno, _⟩
  · rfl
  · exact absurd hk (hno k)

/-! ### The longest lived, and the readable -/
def unt (l : List Format) (x : Int) : Int := (l.getD (atFm l x).toNat default).Until
def bestG (l : List Format) (b x : Int) : Int := bif decide (unt l x > unt l b) then x else b
theorem best_mem {l : List Format} : ∀ (W : List Int) (b : Int), W.foldl (bestG l) b = b ∨ W.foldl (bestG l) b ∈ W
  | [], b => .inl rfl
  | x :: W, b => by
    rw [List.foldl_cons]
    rcases best_mem W (bestG l b x) with h | h
    · rw [h]
      unfold bestG
      cases decide (unt l x > unt l b)
      · exact .inl rfl
      · exact .inr (by simp)
    · exact .inr (by simp [h])
def LlD (l : List Format) (u d : Int) (W : List Int) : Int := (W.drop 1).foldl (bestG l) (W.getD 0 default)
theorem longI (l : List Format) (d u : Int) (W : List Int) (hl : FmB l) (hf : fmsOk l = true) (hW : ∀ x ∈ W, hasFm l x = true) (hn : W ≠ []) (hl10 : W.length ≤ 10) : T (iterO (M.impl_LongestLived_l0 l W) ((0 : Int), (-1 : Int), (0 : Int))) (fun r => r = LlD l u d W) := by
  have hpos := List.length_pos_iff.2 hn
  have hU : ∀ x, hasFm l x = true → 0 ≤ unt l x := by
    intro x hx
    obtain ⟨g0, g1, g2, g3⟩ := atFm_spec hx
    have := (fms_ok hf).2.1 _ (getD_mem g1)
    unfold fmOk at this
    simp only [Bool.and_eq_true, inR_true] at this
    unfold unt; omega
  refine T_iter (fun s => ∃ j : Nat, s.2.2 = (j : Int) ∧ j ≤ W.length ∧ ((j = 0 ∧ s.1 = 0 ∧ s.2.1 = -1) ∨ (1 ≤ j ∧ s.1 = ((W.take j).drop 1).foldl (bestG l) (W.getD 0 default) ∧ s.2.1 = unt l s.1))) (fun s => W.length + 1 - s.2.2.toNat) _ ⟨0, rfl, by omega, .inl ⟨rfl, rfl, rfl⟩⟩ (by simp only; omega) ?_
  rintro ⟨b, un, _⟩ ⟨j, rfl, h1, h2⟩
  simp only at h2
  unfold M.impl_LongestLived_l0
  try dsimp only
  refine T_if (fun hq => ?_) (fun hq => ?_)
  · simp only [decide_eq_true_eq] at hq
    have hj : j < W.length := by omega
    have hx := hW _ (getD_mem hj)
    obtain ⟨g0, g1, g2, g3⟩ := atFm_spec hx
    rw [Int.toNat_natCast]
    refine T.then (Q := fun q => q.1 = ((W.take (j + 1)).drop 1).foldl (bestG l) (W.getD 0 default) ∧ q.2 = unt l q.1) ?_ ?_
    · refine T_ask ⟨by omega, by omega⟩ ?_
      rw [atFmI l _ hl.1, Option.bind_some]
      refine T_ask ⟨g0, g2⟩ ?_
      rcases h2 with ⟨rfl, rfl, rfl⟩ | ⟨h3, h4, h5⟩
      · have := hU _ hx
        unfold unt at this
        rw [decide_eq_true (by omega), cond_true]
        refine T_ret ⟨?_, rfl⟩
        cases W with
        | nil => simp at hj
        | cons x W => rfl
      · have e1 : (W.take (j + 1)).drop 1 = (W.take j).drop 1 ++ [W.getD j default] := by
          rw [List.take_add_one, List.getElem?_eq_getElem hj, List.drop_append_of_le_length (by rw [List.length_take]; omega), List.getD_eq_getElem?_getD, List.getElem?_eq_getElem hj]; rfl
        rw [e1, List.foldl_append, ← h4]
        show T (bif decide (unt l (W.getD j default) > un) then _ else _) _
        rw [h5]
        simp only [List.foldl_cons, List.foldl_nil]
        unfold bestG
        refine T_if (fun hc => T_ret ?_) (fun hc => T_ret ?_)
        · rw [hc]; exact ⟨rfl, rfl⟩
        · rw [hc]; exact ⟨rfl, rfl⟩
    · rintro ⟨q, qu⟩ ⟨q1, q2⟩
      simp only at q1 q2
      refine T_ret ?_
      simp only
      rw [wrap64_id (by omega) (by omega)]
      exact ⟨⟨j + 1, by omega, by omega, .inr ⟨by omega, q1, q2⟩⟩, by omega⟩
  · simp only [decide_eq_false_iff_not] at hq
    obtain rfl : j = W.length := by omega
    rw [List.take_length] at h2
    rcases h2 with ⟨h3, _⟩ | ⟨_, h4, _⟩
    · omega
    · exact T_ret h4
theorem longS (l : List Format) (d u : Int) (W : List Int) (hl : FmB l) (hW : ∀ x ∈ W, hasFm l x = true) (hn : W ≠ []) (hl10 : W.length ≤ 10) : T (iterO (M.spec_LongestLived_l0 l (W, true)) (W.getD 0 default, (1 : Int))) (fun r => r = LlD l u d W) := by
  have hpos := List.length_pos_iff.2 hn
  refine T_iter (fun s => ∃ j : Nat, s.2 = (j : Int) ∧ 1 ≤ j ∧ j ≤ W.length ∧ s.1 = ((W.take j).drop 1).foldl (bestG l) (W.getD 0 default)) (fun s => W.length + 1 - s.2.toNat) _ ⟨1, rfl, by omega, by omega, by
    cases W with
    | nil => simp at hpos
    | cons x W => rfl⟩ (by simp only; omega) ?_
  rintro ⟨b, _⟩ ⟨j, rfl, h0, h1, h2⟩
  simp only at h2
  unfold M.spec_LongestLived_l0
  try dsimp only
  refine T_if (fun hq => ?_) (fun hq => ?_)
  · simp only [decide_eq_true_eq] at hq
    have hj : j < W.length := by omega
    have hx := hW _ (getD_mem hj)
    obtain ⟨g0, g1, g2, g3⟩ := atFm_spec hx
    have hb : hasFm l b = true := by
      rw [h2]
      rcases best_mem (l := l) ((W.take j).drop 1) (W.getD 0 default) with h | h
      · rw [h]; exact hW _ (getD_mem hpos)
      · exact hW _ (List.mem_of_mem_take (List.mem_of_mem_drop h))
    obtain ⟨k0, k1, k2, k3⟩ := atFm_spec hb
    rw [Int.toNat_natCast]
    refine T.then (Q := fun q => q = ((W.take (j + 1)).drop 1).foldl (bestG l) (W.getD 0 default)) ?_ ?_
    · refine T_ask ⟨by omega, by omega⟩ ?_
      rw [atFmS l _ hl.1, Option.bind_some]
      refine T_ask ⟨g0, g2⟩ ?_
      rw [atFmS l _ hl.1, Option.bind_some]
      refine T_ask ⟨k0, k2⟩ ?_
      have e1 : (W.take (j + 1)).drop 1 = (W.take j).drop 1 ++ [W.getD j default] := by
        rw [List.take_add_one, List.getElem?_eq_getElem hj, List.drop_append_of_le_length (by rw [List.length_take]; omega), List.getD_eq_getElem?_getD, List.getElem?_eq_getElem hj]; rfl
      rw [e1, List.foldl_append, ← h2]
      show T (bif decide (unt l (W.getD j default) > unt l b) then _ else _) _
      simp only [List.foldl_cons, List.foldl_nil]
      unfold bestG
      refine T_if (fun hc => T_ask ⟨by omega, by omega⟩ (T_ret ?_)) (fun hc => T_ret ?_)
      · rw [hc]; rfl
      · rw [hc]; rfl
    · rintro q rfl
      refine T_ret ?_
      simp only
      rw [wrap64_id (by omega) (by omega)]
      exact ⟨⟨j + 1, by omega, by omega, by omega, rfl⟩, by omega⟩
  · simp only [decide_eq_false_iff_not] at hq
    obtain rfl : j = W.length := by omega
    rw [List.take_length] at h2
    exact T_ret h2
theorem ways_ne {l : List Format} {d u : Int} {W : List Int} (h : Ways (nxt l d) u W) : u ∈ W := (h.2 u).2 ⟨0, .zero⟩
def LongD (l : List Format) (u d : Int) (r : Int × Bool) : Prop := bif onDay l u d then (∃ W, Ways (nxt l d) u W ∧ r = (LlD l u d W, true)) else r = (0, false)
theorem LongD.one {l : List Format} {u d : Int} {r q : Int × Bool} (h : LongD l u d r) (h' : LongD l u d q) : r = q := by
  unfold LongD at h h'
  cases ho : onDay l u d
  · rw [ho] at h h'; exact h.trans h'.symm
  · rw [ho] at h h'
    obtain ⟨W, w1, rfl⟩ := h
    obtain ⟨V, v1, rfl⟩ := h'
    rw [w1.one v1]
theorem LongI (l : List Format) (u d : Int) (hl : FmB l) : T (M.impl_LongestLived l u d) (LongD l u d) := by
  unfold M.impl_LongestLived LongD
  rw [onDayI l u d hl, Option.bind_some]
  cases ho : onDay l u d
  · exact T_ret rfl
  · obtain ⟨h1, h2, h3⟩ := onDay_ok ho
    rw [Bool.not_true, cond_false]
    refine (waysI l u d hl (fms_ok h1).1 h2).then ?_
    intro W hW
    have hlen := reach_len h2 (strict_nd hW.1) (fun x hx => (hW.2 x).1 hx)
    have := (fms_ok h1).1
    refine (longI l d u W hl h1 (fun x hx => by obtain ⟨k, hk⟩ := (hW.2 x).1 hx; exact rch_has h2 hk) (List.ne_nil_of_mem (ways_ne hW)) (by omega)).then ?_
    rintro r rfl
    exact T_ret ⟨W, hW, rfl⟩
theorem LongS (l : List Format) (u d : Int) (hl : FmB l) : T (M.spec_LongestLived l u d) (LongD l u d) := by
  unfold M.spec_LongestLived
  refine (WaysSS l u d hl).then ?_
  rintro ⟨W, b⟩ hW
  unfold WaysD at hW
  unfold LongD
  cases ho : onDay l u d
  · rw [ho] at hW
    cases hW
    exact T_ret rfl
  · obtain ⟨h1, h2, h3⟩ := onDay_ok ho
    rw [ho] at hW
    obtain ⟨hW, hb⟩ := hW
    simp only at hW hb
    subst hb
    have hlen := reach_len h2 (strict_nd hW.1) (fun x hx => (hW.2 x).1 hx)
    have := (fms_ok h1).1
    have hne := List.ne_nil_of_mem (ways_ne hW)
    have := List.length_pos_iff.2 hne
    rw [Bool.not_true, cond_false]
    refine T_ask ⟨by omega, by simp only; omega⟩ ?_
    refine (longS l d u W hl (fun x hx => by obtain ⟨k, hk⟩ := (hW.2 x).1 hx; exact rch_has h2 hk) hne (by omega)).then ?_
    rintro r rfl
    exact T_ret ⟨W, hW, rfl⟩
theorem LlD_mem {l : List Format} {u d : Int} {W : List Int} (h : W ≠ []) : LlD l u d W ∈ W := by
  unfold LlD
  have hpos := List.length_pos_iff.2 h
  rcases best_mem (l := l) (W.drop 1) (W.getD 0 default) with e | e
  · rw [e]; exact getD_mem hpos
  · exact List.mem_of_mem_drop e
theorem readDS (l : List Format) (i d : Int) (hl : FmB l) : M.spec_IsReadable l i d = some (bif (fmsOk l && hasFm l i) && inR d 0 20000 then (decide (lastF l i ≥ d), true) else (false, false)) := by
  unfold M.spec_IsReadable
  rw [onDayS l i d hl (fun b => bif b then some (false, false) else (M.spec_l7Last l i).bind fun y3 => some (decide (y3 ≥ d), true))]
  unfold onDay
  cases fmsOk l
  · rfl
  cases h : hasFm l i
  · rfl
  cases inR d 0 20000
  · rfl
  simp only [Bool.and_self, Bool.not_true, cond_false, cond_true]
  rw [lastS l i hl h, Option.bind_some]

/-! ### The law -/
theorem edgeLoop (l : List Format) (u to d : Int) (p : List Int) (hl : FmB l) (hf : fmsOk l = true) (hp : p.length ≤ 1000) (k : Nat) (h1 : 1 ≤ k) (hk : k < p.length) (he : p.getD k default ∈ nxt l d (p.getD (k - 1) default)) :
    iterO (M.laws_FnPaths_l1 (l, u, to, d) (p, true) (k : Int)) (0 : Int) = some (.inl ()) := by
  have hb := hl.1
  refine iter_up (s := (0 : Int)) (fun j => (j : Int)) l.length rfl (by omega) (fun j hj => ?_) ?_
  · unfold M.laws_FnPaths_l1
    try dsimp only
    have hr := (hl.2 _ (getD_mem hj)).2
    rw [decide_eq_true (by omega), cond_true, asrt_pos ⟨by omega, by omega⟩, asrt_pos ⟨by omega, by omega⟩, asrt_pos (fun _ => ⟨by omega, by omega⟩), asrt_pos (fun _ => by rw [wrap64_id (by omega) (by omega)]; omega), Int.toNat_natCast, Int.toNat_natCast, wrap64_id (n := (k : Int) - 1) (by omega) (by omega), show ((k : Int) - 1).toNat = k - 1 by omega]
    cases hid : (l.getD j default).Id == p.getD k default
    · rw [cond_false, Option.bind_some, asrt_pos (fun h => by cases h), Bool.false_and, cond_false, wrap64_id (by omega) (by omega)]
      rfl
    · obtain ⟨f, f1, f2, f3⟩ := nxt_mem.1 he
      have hfj : f = l.getD j default := by
        obtain ⟨i, hi, rfl⟩ := List.getElem_of_mem f1
        have e : (l.getD i default).Id = (l.getD j default).Id := by
          rw [getD_el hi, f3, ← eq_of_beq hid]
        have hij : i = j := by
          rcases Nat.lt_trichotomy i j with h | h | h
          · have := (fms_ok hf).2.2 i j h hj; omega
          · exact h
          · have := (fms_ok hf).2.2 j i h hi; omega
        rw [getD_el hj]
        congr 1
      rw [hfj] at f2
      unfold edge at f2
      simp only [Bool.and_eq_true, decide_eq_true_eq] at f2
      rw [cond_true, rHasQ _ _ hr, Option.bind_some, f2.1, asrt_pos (fun _ _ => ⟨by omega, by omega⟩), decide_eq_false (by omega)]
      simp only [Bool.not_true, Bool.or_self, Bool.and_false, cond_false]
      rw [wrap64_id (by omega) (by omega)]
      rfl
  · unfold M.laws_FnPaths_l1
    try dsimp only
    rw [decide_eq_false (by omega)]
    rfl
theorem edgesLoop (l : List Format) (u to d : Int) (r : List Int × Bool) (hl : FmB l) (h : SpD l u to d r) : iterO (M.laws_FnPaths_l0 (l, u, to, d) r) (1 : Int) = some (.inl ()) := by
  obtain ⟨p, b⟩ := r
  cases b
  · have hp : p = [] := by
      unfold SpD at h
      cases ho : onDay l u d && hasFm l to
      · rw [ho] at h; cases h; rfl
      · rw [ho] at h
        rcases h with ⟨k, q, _, _, e, _⟩ | ⟨_, e⟩
        · cases e
        · cases e; rfl
    subst hp
    refine iter_up (s := (1 : Int)) (fun k => ((k + 1 : Nat) : Int)) 0 rfl (by omega) (fun k hk => absurd hk (by omega)) ?_
    unfold M.laws_FnPaths_l0
    try dsimp only
    rw [decide_eq_false (by simp)]
    rfl
  · obtain ⟨k, hk, hr, ho⟩ := h.ok rfl
    simp only at hk
    obtain ⟨h1, h2, h3⟩ := onDay_ok ho
    have hlen := walks_len (nxt l d) k p hk
    have hk10 : p.length ≤ 10 := by
      unfold SpD at h
      have ht := rch_has h2 hr
      rw [ho, ht] at h
      rcases h with ⟨k2, q, _, m2, e, S, m3, m4, m5⟩ | ⟨_, e⟩
      · cases e
        have hq := walks_len (nxt l d) k2 p (fnd_spec m2).1
        have := reach_len h2 m3 m4
        have := (fms_ok h1).1
        omega
      · cases e
    refine iter_up (s := (1 : Int)) (fun j => ((j + 1 : Nat) : Int)) (p.length - 1) rfl (by omega) (fun j hj => ?_) ?_
    · unfold M.laws_FnPaths_l0
      try dsimp only
      rw [decide_eq_true (by omega), cond_true, edgeLoop l u to d p hl h1 (by omega) (j + 1) (by omega) (by omega) (by
        rw [Nat.add_sub_cancel]
        exact walks_edge (nxt l d) k p hk j (by omega)), Option.bind_some]
      try dsimp only
      rw [wrap64_id (by omega) (by omega)]
      rfl
    · unfold M.laws_FnPaths_l0
      try dsimp only
      rw [decide_eq_false (by omega)]
      rfl
theorem waysLoop (l : List Format) (u to d : Int) (r : List Int × Bool) (hl : FmB l) (h : WaysD l u d r) : iterO (M.laws_FnPaths_l2 (l, u, to, d) r) (0 : Int) = some (.inl ()) := by
  obtain ⟨W, b⟩ := r
  unfold WaysD at h
  cases ho : onDay l u d
  · rw [ho] at h
    cases h
    refine iter_up (s := (0 : Int)) (fun k => (k : Int)) 0 rfl (by omega) (fun k hk => absurd hk (by omega)) ?_
    unfold M.laws_FnPaths_l2
    try dsimp only
    rw [decide_eq_false (by simp)]
    rfl
  · rw [ho] at h
    obtain ⟨hW, hb⟩ := h
    simp only at hW hb
    subst hb
    obtain ⟨h1, h2, h3⟩ := onDay_ok ho
    have hlen := reach_len h2 (strict_nd hW.1) (fun x hx => (hW.2 x).1 hx)
    have := (fms_ok h1).1
    refine iter_up (s := (0 : Int)) (fun k => (k : Int)) W.length rfl (by omega) (fun j hj => ?_) ?_
    · unfold M.laws_FnPaths_l2
      try dsimp only
      obtain ⟨x, hx, hsp⟩ := pathI l u (W.getD j default) d hl
      obtain ⟨k, hk⟩ := (hW.2 _).1 (getD_mem (l := W) hj)
      rw [decide_eq_true (by omega), cond_true, asrt_pos ⟨by omega, by omega⟩, Int.toNat_natCast, hx, Option.bind_some, hsp.reach ho hk, Bool.not_true, cond_false, wrap64_id (by omega) (by omega)]
      rfl
    · unfold M.laws_FnPaths_l2
      try dsimp only
      rw [decide_eq_false (by omega)]
      rfl
theorem law_FnPaths (code : List Int) (h1 : code.length ≤ 9223372036854775807) (h2 : ∀ x, x ∈ code → 0 ≤ x ∧ x ≤ 255) : M.laws_FnPaths code = some true := by
  apply T.eq
  unfold M.laws_FnPaths M.laws_rBig
  rw [Option.bind_some]
  refine T_if (fun _ => T_ret rfl) (fun hq => ?_)
  simp only [decide_eq_false_iff_not] at hq
  have hb : Bytes code := ⟨by omega, h2⟩
  have d1 : T (M.spec_DrawShortestPath code) (fun r => FmD r.1) := by
    unfold M.spec_DrawShortestPath
    refine (drawFms hb).then ?_
    rintro ⟨l, c⟩ ⟨g1, g2⟩
    simp only at g1 g2
    have hl1 := g1.1
    refine (drawFmId hb l (by omega) g2 (by omega)).then ?_
    rintro ⟨u, c2⟩ g3
    refine (drawFmId hb l (by omega) g3 (by omega)).then ?_
    rintro ⟨to, c3⟩ g4
    refine (drawDay7 hb g4 (by omega)).then ?_
    rintro ⟨d, c4⟩ _
    exact T_ret g1
  refine d1.then ?_
  rintro ⟨l, u, to, d⟩ hlD
  simp only at hlD
  have hl := hlD.b
  try dsimp only
  refine (pathI l u to d hl).then ?_
  intro r hr
  refine (pathSS l u to d hl).then ?_
  intro r2 hr2
  obtain rfl := SpD.one hr hr2
  have hrl : r.1.length < 1000000 := by
    obtain ⟨p, b⟩ := r
    cases b
    · unfold SpD at hr
      cases ho : onDay l u d && hasFm l to
      · rw [ho] at hr; cases hr; simp
      · rw [ho] at hr
        rcases hr with ⟨k, q, _, _, e, _⟩ | ⟨_, e⟩
        · cases e
        · cases e; simp
    · obtain ⟨k, hk, hrr, ho⟩ := hr.ok rfl
      obtain ⟨k1, k2, _⟩ := onDay_ok ho
      unfold SpD at hr
      rw [ho, rch_has k2 hrr] at hr
      rcases hr with ⟨k3, q, _, m2, e, S, m3, m4, m5⟩ | ⟨_, e⟩
      · cases e
        have hq := walks_len (nxt l d) k3 p (fnd_spec m2).1
        have := reach_len k2 m3 m4
        have := (fms_ok k1).1
        simp only; omega
      · cases e
  simp only [beq_self_eq_true, Bool.not_true, cond_false]
  rw [rIntsQ _ hrl, Option.bind_some]
  simp only [Bool.not_true, Bool.or_self, cond_false]
  refine (WaysI l u d hl).then ?_
  intro w hw
  refine (WaysSS l u d hl).then ?_
  intro w2 hw2
  obtain rfl := WaysD.one hw hw2
  have hwl : w.1.length < 1000000 := by
    unfold WaysD at hw
    cases ho : onDay l u d
    · rw [ho] at hw; simp only [cond_false] at hw; rw [hw]; simp
    · rw [ho] at hw
      obtain ⟨k1, k2, _⟩ := onDay_ok ho
      have := reach_len k2 (strict_nd hw.1.1) (fun x hx => (hw.1.2 x).1 hx)
      have := (fms_ok k1).1
      omega
  simp only [beq_self_eq_true, Bool.not_true, cond_false]
  rw [rIntsQ _ hwl, Option.bind_some]
  simp only [Bool.not_true, Bool.or_self, cond_false]
  rw [rHasQ _ _ hwl]
  have hsame : r.2 = (w.2 && (w.1.any fun y => y == to)) ∧ (bif w.2 then some (w.1.any fun y => y == to) else some default : Option Bool) = some (bif w.2 then (w.1.any fun y => y == to) else default) := by
    refine ⟨?_, by cases w.2 <;> rfl⟩
    have hw' := hw
    unfold WaysD at hw'
    cases ho : onDay l u d
    · rw [ho] at hw'
      simp only [cond_false] at hw'
      rw [hw']
      have hr' := hr
      unfold SpD at hr'
      rw [ho] at hr'
      simp only [Bool.false_and, cond_false] at hr'
      rw [hr']
      rfl
    · rw [ho] at hw'
      obtain ⟨a1, a2⟩ := hw'
      rw [a2, Bool.true_and]
      cases hm : w.1.any fun y => y == to
      · cases hr2b : r.2
        · rfl
        · obtain ⟨k, _, hk, _⟩ := hr.ok hr2b
          rw [anyEq.2 ((a1.2 to).2 ⟨k, hk⟩)] at hm; cases hm
      · obtain ⟨k, hk⟩ := (a1.2 to).1 (anyEq.1 hm)
        exact hr.reach ho hk
  rw [hsame.2, Option.bind_some]
  have hz : (!(r.2 == (w.2 && (bif w.2 then (w.1.any fun y => y == to) else default)))) = false := by
    rw [hsame.1]
    cases w.2 <;> simp
  rw [hz]
  simp only [Bool.or_self, cond_false]
  rw [edgesLoop l u to d r hl hr, Option.bind_some]
  try dsimp only
  rw [waysLoop l u to d w hl hw, Option.bind_some]
  try dsimp only
  have d2 : T (M.spec_DrawIsReadable code) (fun r => FmD r.1) := by
    unfold M.spec_DrawIsReadable
    refine (drawFms hb).then ?_
    rintro ⟨l, c⟩ ⟨g1, g2⟩
    simp only at g1 g2
    have hl1 := g1.1
    refine (drawFmId hb l (by omega) g2 (by omega)).then ?_
    rintro ⟨u, c2⟩ g3
    refine (drawDay7 hb g3 (by omega)).then ?_
    rintro ⟨d, c4⟩ _
    exact T_ret g1
  have d3 : T (M.spec_DrawLongestLived code) (fun r => FmD r.1) := by
    unfold M.spec_DrawLongestLived
    exact d2.then fun r hr => T_ret hr
  refine d3.then ?_
  rintro ⟨m, i, e⟩ hmD
  simp only at hmD
  have hm := hmD.b
  try dsimp only
  refine (LongI m i e hm).then ?_
  intro q hq
  refine (LongS m i e hm).then ?_
  intro q2 hq2
  obtain rfl := LongD.one hq hq2
  simp only [bne_self_eq_false, beq_self_eq_true, Bool.not_true, Bool.or_self, cond_false]
  refine (WaysI m i e hm).then ?_
  intro v hv
  have hv2 : v.2 = q.2 ∧ (q.2 = true → (v.1.any fun y => y == q.1) = true) ∧ v.1.length < 1000000 := by
    unfold LongD at hq
    unfold WaysD at hv
    cases ho : onDay m i e
    · rw [ho] at hq hv
      simp only [cond_false] at hq hv
      rw [hq, hv]
      exact ⟨rfl, ⟨fun h => (Bool.false_ne_true h).elim, by simp⟩⟩
    · rw [ho] at hq hv
      obtain ⟨W, hW, rfl⟩ := hq
      obtain ⟨a1, a2⟩ := hv
      obtain ⟨k1, k2, _⟩ := onDay_ok ho
      have := reach_len k2 (strict_nd a1.1) (fun x hx => (a1.2 x).1 hx)
      have := (fms_ok k1).1
      refine ⟨a2, fun _ => ?_, by omega⟩
      rw [a1.one hW]
      exact anyEq.2 (LlD_mem (u := i) (d := e) (List.ne_nil_of_mem (ways_ne hW)))
  rw [hv2.1]
  simp only [beq_self_eq_true, Bool.not_true, cond_false, Bool.false_or]
  rw [rHasQ _ _ hv2.2.2]
  have hz2 : ((bif q.2 then some (v.1.any fun y => y == q.1) else some default : Option Bool)) = some (bif q.2 then (v.1.any fun y => y == q.1) else default) := by cases q.2 <;> rfl
  rw [hz2, Option.bind_some]
  have hz3 : (q.2 && (!(bif q.2 then (v.1.any fun y => y == q.1) else default))) = false := by
    cases hq2 : q.2
    · rfl
    · rw [cond_true, hv2.2.1 hq2]; rfl
  rw [hz3, cond_false]
  refine d2.then ?_
  rintro ⟨m2, i2, e2⟩ hm2
  simp only at hm2
  try dsimp only
  rw [readD m2 i2 e2 hm2.b, Option.bind_some, readDS m2 i2 e2 hm2.b, Option.bind_some]
  exact T_ret (by simp)
end Go.Proofs.YteocnbeefedbkaaDoor
