/-
  Formats as a graph: shortest paths and ways, the program's and the reference's. Plain.
-/
import Derived.Test.YteocnbeefedbkaaDoorPw
import Derived.Test.YteocnbeefedbkaaDoorFq
set_option linter.unusedSimpArgs false
set_option linter.unusedVariables false
namespace Go.Proofs.YteocnbeefedbkaaDoor
open Go.VS

def edge (d u : Int) (f : Format) : Bool := (f.Reads.any fun y => y == u) && decide (f.Until ≥ d)
def nxt (l : List Format) (d u : Int) : List Int := (l.filter (edge d u)).map (·.Id)
theorem hasFm_iff {l : List Format} {i : Int} : hasFm l i = true ↔ i ∈ l.map (·.Id) := by
  unfold hasFm
  rw [List.any_eq_true, List.mem_map]
  constructor
  · rintro ⟨f, hf, e⟩; exact ⟨f, hf, beq_iff_eq.1 e⟩
  · rintro ⟨f, hf, e⟩; exact ⟨f, hf, beq_iff_eq.2 e⟩
theorem nxt_mem {l : List Format} {d u w : Int} : w ∈ nxt l d u ↔ ∃ f ∈ l, edge d u f = true ∧ f.Id = w := by
  unfold nxt
  simp only [List.mem_map, List.mem_filter]
  constructor
  · rintro ⟨f, ⟨h1, h2⟩, h3⟩; exact ⟨f, h1, h2, h3⟩
  · rintro ⟨f, h1, h2, h3⟩; exact ⟨f, ⟨h1, h2⟩, h3⟩
theorem nxt_has {l : List Format} {d u w : Int} (h : w ∈ nxt l d u) : hasFm l w = true := by
  obtain ⟨f, h1, _, h3⟩ := nxt_mem.1 h
  exact hasFm_iff.2 (List.mem_map.2 ⟨f, h1, h3⟩)
theorem rch_has {l : List Format} {d u x : Int} {k : Nat} (hu : hasFm l u = true) (h : Rch (nxt l d) u k x) : hasFm l x = true :=
  hasFm_iff.2 (Rch.closed (S := l.map (·.Id)) (hasFm_iff.1 hu) (fun y _ w hw => hasFm_iff.1 (nxt_has hw)) k x h)
theorem reach_len {l : List Format} {d u : Int} (hu : hasFm l u = true) {S : List Int} (hS : S.Nodup) (h : ∀ x ∈ S, ∃ j, Rch (nxt l d) u j x) : S.length ≤ l.length := by
  have := nodup_le (T := l.map (·.Id)) hS (fun x hx => by obtain ⟨j, hj⟩ := h x hx; exact hasFm_iff.1 (rch_has hu hj))
  rwa [List.length_map] at this
theorem leadsI (l : List Format) (d u : Int) (f : Format) (hf : f.Reads.length < 1000000) (hu : hasFm l u = true) : M.impl_leads (l.getD (atFm l u).toNat default) f d = some (edge d u f) := by
  unfold M.impl_leads edge
  rw [(atFm_spec hu).2.2.2, contQ _ _ hf, Option.bind_some]
def onDay (l : List Format) (u d : Int) : Bool := (fmsOk l && hasFm l u) && inR d 0 20000
theorem onDayI (l : List Format) (u d : Int) (hl : FmB l) : M.impl_isOnDay l u d = some (onDay l u d) := by
  unfold M.impl_isOnDay onDay
  rw [fmsI l hl, Option.bind_some]
  cases fmsOk l
  · rfl
  rw [cond_true, atFmI l u hl.1, Option.bind_some, show decide (atFm l u ≥ 0) = hasFm l u from firstAt_any, Bool.true_and]
  cases h : hasFm l u
  · rfl
  rw [cond_true, isDayI, Option.bind_some, Bool.true_and]

/-! ### The program's paths -/
theorem fold_edge (d u : Int) (p : List Int) : ∀ (l : List Format) (a : List Int × List (List Int)), l.foldl (fun a f => if edge d u f = true then addN a (p ++ [f.Id]) else a) a = ((nxt l d u).map fun w => p ++ [w]).foldl addN a
  | [], a => rfl
  | f :: l, a => by
    rw [List.foldl_cons, fold_edge d u p l]
    unfold nxt
    rw [List.filter_cons]
    by_cases h : edge d u f = true
    · rw [if_pos h, if_pos h]; rfl
    · rw [if_neg h, if_neg h]
theorem anyEq {l : List Int} {x : Int} : (l.any fun y => y == x) = true ↔ x ∈ l := by
  rw [List.any_eq_true]
  constructor
  · rintro ⟨y, hy, e⟩; rw [← beq_iff_eq.1 e]; exact hy
  · intro h; exact ⟨x, h, by simp⟩
theorem pathL2 (l : List Format) (d : Int) (P : List (List Int)) (v : Nat) (S0 : List Int) (n0 : List (List Int)) (hl : FmB l) (hl10 : l.length ≤ 10) (hp : 1 ≤ (P.getD v default).length) (hp2 : (P.getD v default).length ≤ 1000) (hh : hasFm l (lst (P.getD v default)) = true) (h1 : S0.length ≤ 1000) (h2 : n0.length ≤ 1000) :
    iterO (M.impl_ShortestPath_l2 l d P (v : Int)) (S0, n0, (0 : Int)) = some (((nxt l d (lst (P.getD v default))).map fun w => P.getD v default ++ [w]).foldl addN (S0, n0)) := by
  obtain ⟨g0, g1, g2, g3⟩ := atFm_spec hh
  rw [iter_fold (s := (S0, n0, (0 : Int))) (step := M.impl_ShortestPath_l2 l d P (v : Int)) (fun (a : List Int × List (List Int)) (k : Nat) => (a.1, a.2, (k : Int))) (fun a f => if edge d (lst (P.getD v default)) f = true then addN a (P.getD v default ++ [f.Id]) else a) id l (S0, n0) (fun a k => a.1.length ≤ 1000 + k ∧ a.2.length ≤ 1000 + k) rfl (by omega) ⟨h1, h2⟩ (fun a k hk ha => ?_) (fun a ha => ?_)]
  · rw [fold_edge]; rfl
  · have hr := (hl.2 _ (getD_mem hk)).2
    have ei : ((P.getD v default).getD (Int.toNat (IntKind.i64.wrap (((P.getD v default).length : Int) - 1))) default) = lst (P.getD v default) := by
      rw [wrap64_id (by omega) (by omega)]
      unfold lst
      congr 1
      omega
    refine ⟨?_, ?_⟩
    · unfold M.impl_ShortestPath_l2
      dsimp only
      rw [decide_eq_true (show (k : Int) < (l.length : Int) by omega), cond_true, asrt_pos ⟨by omega, by omega⟩, Int.toNat_natCast, Int.toNat_natCast, ei, atFmI l _ hl.1, Option.bind_some, asrt_pos ⟨g0, g2⟩, leadsI l d _ _ hr hh, Option.bind_some, wrap64_id (n := (k : Int) + 1) (by omega) (by omega)]
      cases he : edge d (lst (P.getD v default)) (l.getD k default)
      · rfl
      · rw [cond_true, contQ _ _ (by omega), Option.bind_some, Bool.true_and, if_pos rfl]
        unfold addN
        rw [lst_snoc]
        cases hc : a.1.any fun y => y == (l.getD k default).Id
        · have hm : (l.getD k default).Id ∉ a.1 := fun hm => by rw [anyEq.2 hm] at hc; cases hc
          rw [if_neg hm, Bool.not_false, cond_true, asrt_pos (by simp only [List.length_cons, List.length_nil]; omega)]
          unfold M.slices_Clone_int_int
          rw [asrt_pos (by omega), Option.bind_some, asrt_pos (by simp only [List.length_cons, List.length_nil]; omega), asrt_pos (by simp only [List.length_cons, List.length_nil]; omega)]
          rfl
        · rw [if_pos (anyEq.1 hc)]
          rfl
    · try dsimp only
      split
      · unfold addN
        split
        · omega
        · simp only [List.length_append, List.length_cons, List.length_nil]; omega
      · omega
  · unfold M.impl_ShortestPath_l2
    dsimp only
    rw [decide_eq_false (by omega)]
    rfl
theorem cand_take {N : Int → List Int} {P : List (List Int)} {j : Nat} (h : j < P.length) : cand N (P.take (j + 1)) = cand N (P.take j) ++ (N (lst (P.getD j default))).map fun w => P.getD j default ++ [w] := by
  unfold cand
  rw [List.take_add_one, List.flatMap_append]
  congr 1
  rw [List.getElem?_eq_getElem h, List.getD_eq_getElem?_getD, List.getElem?_eq_getElem h]
  simp
theorem pathL1 (l : List Format) (u to d : Int) (k : Nat) (P : List (List Int)) (S : List Int) (hl : FmB l) (hl10 : l.length ≤ 10) (hu : hasFm l u = true) (h : BI (nxt l d) u to k P S) :
    T (iterO (M.impl_ShortestPath_l1 l to d P) (S, ([] : List (List Int)), (0 : Int))) (fun r => (∃ p, r = .inr (p, true) ∧ fnd P (· == to) = some p) ∨ ((∀ p ∈ P, lst p ≠ to) ∧ r = .inl (((cand (nxt l d) P).foldl addN (S, [])).1, ((cand (nxt l d) P).foldl addN (S, [])).2))) := by
  have hSl := reach_len hu h.hN (fun x hx => let ⟨j, _, hr⟩ := h.hS x hx; ⟨j, hr⟩)
  have hPl : P.length ≤ 10 := by have := h.hL; omega
  have hk10 : ∀ p ∈ P, 1 ≤ p.length ∧ p.length ≤ 1000 ∧ hasFm l (lst p) = true := by
    intro p hp
    have h1 := walks_len (nxt l d) k p (h.hP p hp)
    have h2 := h.hk (by rintro rfl; simp at hp)
    exact ⟨by omega, by omega, rch_has hu ⟨p, h.hP p hp, rfl⟩⟩
  have hbd : ∀ j, (((cand (nxt l d) (P.take j)).foldl addN (S, [])).1.length ≤ 10) ∧ (((cand (nxt l d) (P.take j)).foldl addN (S, [])).2.length ≤ 10) := by
    intro j
    obtain ⟨n1, n2, _⟩ := fold_next (cand (nxt l d) (P.take j)) S [] h.hN
    have h3 := nodup_le (T := l.map (·.Id)) n1 (fun x hx => by
      rcases (fold_seen (cand (nxt l d) (P.take j)) S []).2.2 x hx with h4 | ⟨q, hq, rfl⟩
      · obtain ⟨i, _, hr⟩ := h.hS x h4
        exact hasFm_iff.1 (rch_has hu hr)
      · obtain ⟨p, _, w, hw, rfl⟩ := (cand_mem (nxt l d)).1 hq
        rw [lst_snoc]
        exact hasFm_iff.1 (nxt_has hw))
    rw [List.length_map] at h3
    simp only [List.length_nil] at n2
    omega
  refine T_iter (fun s => ∃ j : Nat, s.2.2 = (j : Int) ∧ j ≤ P.length ∧ (s.1, s.2.1) = (cand (nxt l d) (P.take j)).foldl addN (S, []) ∧ ∀ p ∈ P.take j, lst p ≠ to) (fun s => P.length + 1 - s.2.2.toNat) _ ⟨0, rfl, by omega, rfl, by simp⟩ (by simp only; omega) ?_
  rintro ⟨s1, n0, _⟩ ⟨j, rfl, h1, h2, h3⟩
  simp only at h2 h3
  unfold M.impl_ShortestPath_l1
  try dsimp only
  refine T_if (fun hq => ?_) (fun hq => ?_)
  · simp only [decide_eq_true_eq] at hq
    have hj : j < P.length := by omega
    obtain ⟨p1, p2, p3⟩ := hk10 _ (getD_mem hj)
    rw [Int.toNat_natCast, wrap64_id (n := (((P.getD j default).length : Int) - 1)) (by omega) (by omega)]
    have ei : ((P.getD j default).getD (Int.toNat (((P.getD j default).length : Int) - 1)) default) = lst (P.getD j default) := by
      unfold lst
      congr 1
      omega
    refine T_ask ⟨by omega, by omega⟩ (T_ask ⟨by omega, by omega⟩ ?_)
    rw [ei]
    refine T_if (fun he => T_ret (.inl ⟨_, rfl, ?_⟩)) (fun he => ?_)
    · have e1 : P = P.take j ++ P.getD j default :: P.drop (j + 1) := by
        rw [List.getD_eq_getElem?_getD, List.getElem?_eq_getElem hj, Option.getD_some, List.getElem_cons_drop, List.take_append_drop]
      rw [e1, fnd_app]
      have e2 : fnd (P.take j) (· == to) = none := fnd_none.2 fun p hp => by rw [beq_eq_false_iff_ne]; exact h3 p hp
      rw [← e1, e2, Option.none_or]
      unfold fnd
      rw [List.find?_cons]
      show (match (lst (P.getD j default) == to) with | true => some (P.getD j default) | false => _) = _
      rw [he]
    · have hb := hbd j
      rw [← h2] at hb
      rw [pathL2 l d P j s1 n0 hl hl10 p1 p2 p3 (by have := hb.1; simp only at this; omega) (by have := hb.2; simp only at this; omega), Option.bind_some]
      refine T_ret ?_
      simp only
      rw [wrap64_id (by omega) (by omega)]
      refine ⟨⟨j + 1, by omega, by omega, ?_, fun p hp => ?_⟩, by omega⟩
      · rw [cand_take hj, List.foldl_append, ← h2]
      · rw [List.take_add_one, List.getElem?_eq_getElem hj] at hp
        rcases List.mem_append.1 hp with hp | hp
        · exact h3 p hp
        · have : p = P.getD j default := by
            rw [List.getD_eq_getElem?_getD, List.getElem?_eq_getElem hj]
            simpa using hp
          rw [this]
          simpa using he
  · simp only [decide_eq_false_iff_not] at hq
    obtain rfl : j = P.length := by omega
    rw [List.take_length] at h2 h3
    refine T_ret (.inr ⟨h3, ?_⟩)
    rw [← h2]
theorem pathL0 (l : List Format) (u to d : Int) (hl : FmB l) (hl10 : l.length ≤ 10) (hu : hasFm l u = true) :
    T (iterO (M.impl_ShortestPath_l0 l to d) (([[u]] : List (List Int)), ([u] : List Int))) (fun r => match r with | .inl _ => ResP (nxt l d) u to ([], false) | .inr x => ResP (nxt l d) u to x) := by
  refine T_iter (fun s => ∃ k, BI (nxt l d) u to k s.1 s.2) (fun s => 2 * (20 - s.2.length) + (if s.1 = [] then 0 else 1)) _ ⟨0, BI.init (nxt l d) u to⟩ (by simp) ?_
  rintro ⟨P, S⟩ ⟨k, h⟩
  simp only at h
  unfold M.impl_ShortestPath_l0
  try dsimp only
  refine T_if (fun hq => ?_) (fun hq => ?_)
  · simp only [decide_eq_true_eq] at hq
    refine (pathL1 l u to d k P S hl hl10 hu h).then ?_
    rintro r (⟨p, rfl, hp⟩ | ⟨hno, rfl⟩)
    · exact T_ret (h.found hp)
    · have hs := h.step hno
      refine T_ret ⟨⟨k + 1, hs⟩, ?_⟩
      have hPne : P ≠ [] := by rintro rfl; simp at hq
      have hS2 := reach_len hu hs.hN (fun x hx => let ⟨j, _, hr⟩ := hs.hS x hx; ⟨j, hr⟩)
      obtain ⟨_, n2, _⟩ := fold_next (cand (nxt l d) P) S [] h.hN
      simp only [List.length_nil] at n2
      simp only
      rw [if_neg hPne]
      by_cases hn : ((cand (nxt l d) P).foldl addN (S, [])).2 = []
      · rw [if_pos hn]
        rw [hn] at n2
        simp only [List.length_nil] at n2
        omega
      · rw [if_neg hn]
        have := List.length_pos_iff.2 hn
        omega
  · simp only [decide_eq_false_iff_not] at hq
    have : P = [] := by
      cases P with
      | nil => rfl
      | cons p P => simp at hq
    subst this
    exact T_ret h.over
def SpD (l : List Format) (u to d : Int) (r : List Int × Bool) : Prop := bif onDay l u d && hasFm l to then ResP (nxt l d) u to r else r = ([], false)
theorem onDay_ok {l : List Format} {u d : Int} (h : onDay l u d = true) : fmsOk l = true ∧ hasFm l u = true ∧ 0 ≤ d ∧ d ≤ 20000 := by
  unfold onDay at h
  simp only [Bool.and_eq_true] at h
  exact ⟨h.1.1, h.1.2, inR_true.1 h.2⟩
theorem pathI (l : List Format) (u to d : Int) (hl : FmB l) : T (M.impl_ShortestPath l u to d) (SpD l u to d) := by
  unfold M.impl_ShortestPath SpD
  rw [onDayI l u d hl, Option.bind_some]
  cases ho : onDay l u d
  · exact T_ret rfl
  · obtain ⟨h1, h2, h3⟩ := onDay_ok ho
    simp only [Bool.not_true, cond_false, Bool.false_or, Bool.true_and]
    rw [atFmI l to hl.1, Option.bind_some, atFm_neg]
    cases ht : hasFm l to
    · exact T_ret rfl
    · simp only [Bool.not_true, cond_false, cond_true]
      refine (pathL0 l u to d hl (fms_ok h1).1 h2).then ?_
      rintro (_ | x) hx
      · exact T_ret hx
      · exact T_ret hx

/-! ### The reference's paths -/
theorem pathS (l : List Format) (to d : Int) (hl : FmB l) (hl10 : l.length ≤ 10) : ∀ (k f : Nat) (u : Int), k < f → k ≤ 1000 → T (M.spec_l7Path_r f l u to d (k : Int)) (fun x => match dfsQ (nxt l d) (· == to) k u with | some p => x = (p, true) | none => x.2 = false)
  | _, 0, _, h, _ => absurd h (Nat.not_lt_zero _)
  | 0, f + 1, u, _, _ => by
    show T (M.spec_l7Path_s (M.spec_l7Path_r f) l u to d ((0 : Nat) : Int)) _
    unfold M.spec_l7Path_s
    rw [show (((0 : Nat) : Int) == 0) = true from rfl, cond_true]
    refine T_ret ?_
    unfold dfsQ
    by_cases h : (u == to) = true
    · rw [if_pos h, h]
    · rw [if_neg h]
      simpa using h
  | k + 1, f + 1, u, h, hk => by
    show T (M.spec_l7Path_s (M.spec_l7Path_r f) l u to d ((k + 1 : Nat) : Int)) _
    unfold M.spec_l7Path_s
    rw [show (((k + 1 : Nat) : Int) == 0) = false from by rw [beq_eq_false_iff_ne]; omega, cond_false]
    have hh := hl.1
    refine T.then (Q := fun r => match dfsQ (nxt l d) (· == to) (k + 1) u with | some p => r = .inr (p, true) | none => r = .inl ()) ?_ ?_
    · refine T_iter (fun i => ∃ j : Nat, i = (j : Int) ∧ j ≤ l.length ∧ (((l.drop j).filter (edge d u)).map (·.Id)).findSome? (fun w => (dfsQ (nxt l d) (· == to) k w).map (u :: ·)) = dfsQ (nxt l d) (· == to) (k + 1) u) (fun i => l.length + 1 - i.toNat) _ ⟨0, rfl, by omega, rfl⟩ (by omega) ?_
      rintro _ ⟨j, rfl, h1, h2⟩
      unfold M.spec_l7Path_l0
      try dsimp only
      refine T_if (fun hq => ?_) (fun hq => ?_)
      · simp only [decide_eq_true_eq] at hq
        have hj : j < l.length := by omega
        have hr := (hl.2 _ (getD_mem hj)).2
        have hd : l.drop j = l.getD j default :: l.drop (j + 1) := by
          rw [List.getD_eq_getElem?_getD, List.getElem?_eq_getElem hj, Option.getD_some, List.getElem_cons_drop]
        rw [hd, List.filter_cons] at h2
        rw [Int.toNat_natCast]
        refine T.then (Q := fun r => (r = .inl () ∧ (((l.drop (j + 1)).filter (edge d u)).map (·.Id)).findSome? (fun w => (dfsQ (nxt l d) (· == to) k w).map (u :: ·)) = dfsQ (nxt l d) (· == to) (k + 1) u) ∨ ∃ p, r = .inr (p, true) ∧ dfsQ (nxt l d) (· == to) (k + 1) u = some p) ?_ ?_
        · refine T_ask ⟨by omega, by omega⟩ (T_ask (fun _ => ⟨by omega, by omega⟩) ?_)
          rw [hasQ _ _ hr]
          have hed : edge d u (l.getD j default) = ((((l.getD j default).Reads.any fun y => y == u)) && !decide ((l.getD j default).Until < d)) := by
            unfold edge
            congr 1
            rw [Bool.eq_iff_iff]
            simp only [decide_eq_true_eq, Bool.not_eq_true', decide_eq_false_iff_not]
            omega
          cases hU : decide ((l.getD j default).Until < d)
          · simp only [cond_false, Option.bind_some, Bool.false_or]
            rw [hU, Bool.not_false, Bool.and_true] at hed
            refine T_if (fun hb => T_ret ?_) (fun hb => ?_)
            · rw [Bool.not_eq_true'] at hb
              rw [hed, hb, if_neg (by simp)] at h2
              exact .inl ⟨rfl, h2⟩
            · rw [Bool.not_eq_false'] at hb
              rw [hed, hb, if_pos rfl, List.map_cons, List.findSome?_cons] at h2
              refine T_ask ⟨by omega, by omega⟩ ?_
              rw [wrap64_id (n := ((k + 1 : Nat) : Int) - 1) (by omega) (by omega), show ((k + 1 : Nat) : Int) - 1 = (k : Int) by omega]
              refine (pathS l to d hl hl10 k f _ (by omega) (by omega)).then ?_
              intro x hx
              cases hdq : dfsQ (nxt l d) (· == to) k (l.getD j default).Id with
              | none =>
                rw [hdq] at hx h2
                simp only at hx
                rw [hx, cond_false]
                exact T_ret (.inl ⟨rfl, h2⟩)
              | some p =>
                rw [hdq] at hx h2
                simp only at hx
                subst hx
                have := (dfsQ_some (nxt l d) k _ p hdq).2.2
                refine T_ask (by simp only [List.length_cons, List.length_nil]; omega) (T_ret (.inr ⟨_, rfl, ?_⟩))
                rw [← h2]; rfl
          · simp only [cond_true, Option.bind_some, Bool.true_or]
            rw [hU, Bool.not_true, Bool.and_false] at hed
            rw [hed, if_neg (by simp)] at h2
            exact T_ret (.inl ⟨rfl, h2⟩)
        · rintro r (⟨rfl, h3⟩ | ⟨p, rfl, h3⟩)
          · try dsimp only
            refine T_ret ?_
            simp only
            rw [wrap64_id (by omega) (by omega)]
            exact ⟨⟨j + 1, by omega, by omega, h3⟩, by omega⟩
          · try dsimp only
            refine T_ret ?_
            simp only
            rw [h3]
      · simp only [decide_eq_false_iff_not] at hq
        obtain rfl : j = l.length := by omega
        rw [List.drop_length] at h2
        have hz : dfsQ (nxt l d) (· == to) (k + 1) u = none := by rw [← h2]; rfl
        refine T_ret ?_
        rw [hz]
    · intro r hr
      cases hd : dfsQ (nxt l d) (· == to) (k + 1) u with
      | none => rw [hd] at hr; simp only at hr; subst hr; exact T_ret rfl
      | some p => rw [hd] at hr; simp only at hr; subst hr; exact T_ret rfl

/-! ### Ways -/
def Ways (N : Int → List Int) (u : Int) (W : List Int) : Prop := W.Pairwise (· < ·) ∧ ∀ x, x ∈ W ↔ ∃ k, Rch N u k x
theorem Ways.one {N : Int → List Int} {u : Int} {V W : List Int} (h : Ways N u V) (h' : Ways N u W) : V = W := strictQ h.1 h'.1 fun y => (h.2 y).trans (h'.2 y).symm
theorem srtM {l : List Int} {x : Int} : x ∈ sortL l ↔ x ∈ l := (List.mergeSort_perm l _).mem_iff
theorem srtS {l : List Int} (h : l.Nodup) : (sortL l).Pairwise (· < ·) := by
  have h1 : (sortL l).Pairwise (fun a b => decide (a ≤ b) = true) := List.pairwise_mergeSort (le := fun x y : Int => decide (x ≤ y)) (fun a b c g1 g2 => by simp only [decide_eq_true_eq] at *; omega) (fun a b => by simp only [Bool.or_eq_true, decide_eq_true_eq]; omega) l
  have h2 : (sortL l).Nodup := (List.mergeSort_perm l _).symm.nodup_iff.1 h
  have h3 := h1.and h2
  exact h3.imp (fun {a b} g => by
    have g1 := g.1
    have g2 : a ≠ b := g.2
    simp only [decide_eq_true_eq] at g1
    omega)
theorem srtL (l : List Int) : (sortL l).length = l.length := (List.mergeSort_perm l _).length_eq
theorem waysL1 (l : List Format) (d x : Int) (ids : List Int) (hl : FmB l) (hl10 : l.length ≤ 10) (hx : hasFm l x = true) (hn : ids.Nodup) (hi : ∀ y ∈ ids, hasFm l y = true) :
    T (iterO (M.impl_waysTo_l1 l d (atFm l x)) (ids, (0 : Int))) (fun r => r.Nodup ∧ (∃ e, r = ids ++ e ∧ ∀ y ∈ e, y ∈ nxt l d x) ∧ ∀ w ∈ nxt l d x, w ∈ r) := by
  obtain ⟨g0, g1, g2, g3⟩ := atFm_spec hx
  have hb := hl.1
  refine T_iter (fun s => ∃ j : Nat, s.2 = (j : Int) ∧ j ≤ l.length ∧ s.1.Nodup ∧ (∃ e, s.1 = ids ++ e ∧ ∀ y ∈ e, y ∈ nxt l d x) ∧ ∀ f ∈ l.take j, edge d x f = true → f.Id ∈ s.1) (fun s => l.length + 1 - s.2.toNat) _ ⟨0, rfl, by omega, hn, ⟨[], by simp, by simp⟩, by simp⟩ (by simp only; omega) ?_
  rintro ⟨r, _⟩ ⟨j, rfl, h1, h2, ⟨e, he, he2⟩, h4⟩
  simp only at h2 he h4
  have hrl : r.length ≤ 10 := by
    have := nodup_le (T := l.map (·.Id)) h2 (fun y hy => by
      rw [he] at hy
      rcases List.mem_append.1 hy with hy | hy
      · exact hasFm_iff.1 (hi y hy)
      · exact hasFm_iff.1 (nxt_has (he2 y hy)))
    rw [List.length_map] at this
    omega
  unfold M.impl_waysTo_l1
  try dsimp only
  refine T_if (fun hq => ?_) (fun hq => ?_)
  · simp only [decide_eq_true_eq] at hq
    have hj : j < l.length := by omega
    have hr := (hl.2 _ (getD_mem hj)).2
    have htk : l.take (j + 1) = l.take j ++ [l.getD j default] := by
      rw [List.take_add_one, List.getElem?_eq_getElem hj, List.getD_eq_getElem?_getD, List.getElem?_eq_getElem hj]; rfl
    rw [Int.toNat_natCast]
    refine T.then (Q := fun q => q.Nodup ∧ (∃ e, q = ids ++ e ∧ ∀ y ∈ e, y ∈ nxt l d x) ∧ ∀ f ∈ l.take (j + 1), edge d x f = true → f.Id ∈ q) ?_ ?_
    · refine T_ask ⟨by omega, by omega⟩ ?_
      rw [leadsI l d x _ hr hx, Option.bind_some]
      cases hed : edge d x (l.getD j default)
      · simp only [cond_false, Option.bind_some, Bool.false_and]
        refine T_ret ⟨h2, ⟨e, he, he2⟩, fun f hf hfe => ?_⟩
        rw [htk] at hf
        rcases List.mem_append.1 hf with hf | hf
        · exact h4 f hf hfe
        · rw [List.mem_singleton] at hf; rw [hf, hed] at hfe; cases hfe
      · simp only [cond_true, Bool.true_and]
        rw [contQ _ _ (by omega), Option.bind_some]
        have hw : (l.getD j default).Id ∈ nxt l d x := nxt_mem.2 ⟨_, getD_mem hj, hed, rfl⟩
        refine T_if (fun hc => ?_) (fun hc => ?_)
        · rw [Bool.not_eq_true'] at hc
          have hm : (l.getD j default).Id ∉ r := fun hm => by rw [anyEq.2 hm] at hc; cases hc
          refine T_ask (by simp only [List.length_cons, List.length_nil]; omega) (T_ret ⟨?_, ⟨e ++ [(l.getD j default).Id], by rw [he, List.append_assoc], fun y hy => ?_⟩, fun f hf hfe => ?_⟩)
          · rw [List.nodup_append]
            refine ⟨h2, by simp, fun a ha b hb => ?_⟩
            rw [List.mem_singleton] at hb
            rintro rfl
            exact hm (by rw [← hb]; exact ha)
          · rcases List.mem_append.1 hy with hy | hy
            · exact he2 y hy
            · rw [List.mem_singleton] at hy; rw [hy]; exact hw
          · rw [htk] at hf
            rcases List.mem_append.1 hf with hf | hf
            · exact List.mem_append_left _ (h4 f hf hfe)
            · rw [List.mem_singleton] at hf; rw [hf]; simp
        · rw [Bool.not_eq_false'] at hc
          refine T_ret ⟨h2, ⟨e, he, he2⟩, fun f hf hfe => ?_⟩
          rw [htk] at hf
          rcases List.mem_append.1 hf with hf | hf
          · exact h4 f hf hfe
          · rw [List.mem_singleton] at hf; rw [hf]; exact anyEq.1 hc
    · rintro q ⟨q1, q2, q3⟩
      refine T_ret ?_
      simp only
      rw [wrap64_id (by omega) (by omega)]
      exact ⟨⟨j + 1, by omega, by omega, q1, q2, q3⟩, by omega⟩
  · simp only [decide_eq_false_iff_not] at hq
    obtain rfl : j = l.length := by omega
    rw [List.take_length] at h4
    refine T_ret ⟨h2, ⟨e, he, he2⟩, fun w hw => ?_⟩
    obtain ⟨f, f1, f2, rfl⟩ := nxt_mem.1 hw
    exact h4 f f1 f2
theorem waysI (l : List Format) (u d : Int) (hl : FmB l) (hl10 : l.length ≤ 10) (hu : hasFm l u = true) : T (M.impl_waysTo l u d) (Ways (nxt l d) u) := by
  unfold M.impl_waysTo
  refine T.then (Q := fun r : List Int => r.Nodup ∧ r.length ≤ 10 ∧ ∀ x, x ∈ r ↔ ∃ k, Rch (nxt l d) u k x) ?_ ?_
  · refine T_iter (fun s => ∃ j : Nat, s.2 = (j : Int) ∧ j ≤ s.1.length ∧ s.1.Nodup ∧ u ∈ s.1 ∧ (∀ x ∈ s.1, ∃ k, Rch (nxt l d) u k x) ∧ ∀ i, i < j → ∀ w ∈ nxt l d (s.1.getD i default), w ∈ s.1) (fun s => 20 - s.2.toNat) _ ⟨0, rfl, by omega, by simp, by simp, fun x hx => by rw [List.mem_singleton] at hx; subst hx; exact ⟨0, .zero⟩, fun i hi => absurd hi (Nat.not_lt_zero _)⟩ (by simp only; omega) ?_
    rintro ⟨r, _⟩ ⟨j, rfl, h1, h2, h3, h4, h5⟩
    simp only at h1 h2 h3 h4 h5
    have hrl := reach_len hu h2 h4
    unfold M.impl_waysTo_l0
    try dsimp only
    refine T_if (fun hq => ?_) (fun hq => ?_)
    · simp only [decide_eq_true_eq] at hq
      have hj : j < r.length := by omega
      have hmem := getD_mem (l := r) hj
      obtain ⟨kx, hkx⟩ := h4 _ hmem
      have hx := rch_has hu hkx
      obtain ⟨g0, g1, g2, g3⟩ := atFm_spec hx
      refine T_ask ⟨by omega, by omega⟩ ?_
      rw [Int.toNat_natCast, atFmI l _ hl.1, Option.bind_some]
      refine T_ask ⟨g0, g2⟩ ?_
      refine (waysL1 l d _ r hl hl10 hx h2 (fun y hy => by obtain ⟨k, hk⟩ := h4 y hy; exact rch_has hu hk)).then ?_
      rintro q ⟨q1, ⟨e, rfl, q3⟩, q4⟩
      refine T_ret ?_
      simp only
      rw [wrap64_id (by omega) (by omega)]
      have hreach : ∀ x ∈ r ++ e, ∃ k, Rch (nxt l d) u k x := fun x hx => by
        rcases List.mem_append.1 hx with hx | hx
        · exact h4 x hx
        · exact ⟨kx + 1, hkx.next (q3 x hx)⟩
      have hql := reach_len hu q1 hreach
      refine ⟨⟨j + 1, by omega, by rw [List.length_append]; omega, q1, List.mem_append_left _ h3, hreach, fun i hi w hw => ?_⟩, by omega⟩
      have e1 : (r ++ e).getD i default = r.getD i default := by
        rw [List.getD_eq_getElem?_getD, List.getElem?_append_left (by omega), ← List.getD_eq_getElem?_getD]
      rw [e1] at hw
      by_cases hij : i = j
      · subst hij; exact q4 w hw
      · exact List.mem_append_left _ (h5 i (by omega) w hw)
    · simp only [decide_eq_false_iff_not] at hq
      obtain rfl : j = r.length := by omega
      refine T_ret ⟨h2, by omega, fun x => ⟨h4 x, fun ⟨k, hk⟩ => ?_⟩⟩
      refine Rch.closed h3 (fun y hy w hw => ?_) k x hk
      obtain ⟨i, hi, rfl⟩ := List.getElem_of_mem hy
      exact h5 i hi w (by rw [List.getD_eq_getElem?_getD, List.getElem?_eq_getElem hi]; exact hw)
  · rintro r ⟨r1, r2, r3⟩
    try dsimp only
    unfold M.slices_Sort_int_int
    rw [asrt_pos (by omega), Option.bind_some]
    refine T_ask (srtL r) (T_ret ⟨srtS r1, fun x => srtM.trans (r3 x)⟩)
end Go.Proofs.YteocnbeefedbkaaDoor
