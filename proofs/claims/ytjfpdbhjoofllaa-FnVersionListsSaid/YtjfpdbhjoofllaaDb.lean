/-
  Versions of schedules: the plain law of 'versions'. Plain.
-/
import Derived.Test.YtjfpdbhjoofllaaDa
set_option linter.unusedSimpArgs false
set_option linter.unusedVariables false
namespace Go.Proofs.Ytjfpdbhjoofllaa
open Go.VS
def verOk (v : Version) : Bool := inR v.From 0 20000 && schedOk v.Rules
def versOk (l : List Version) : Bool := rise (fun v => !verOk v) (fun a b => decide (a.From ≥ b.From)) l && decide (l.length ≤ 5)
def VersB (l : List Version) : Prop := l.length < 1000000 ∧ ∀ v ∈ l, v.Rules.length < 1000000
theorem VersB.elt {l : List Version} (h : VersB l) {k : Nat} (hk : k < l.length) : (l.getD k default).Rules.length < 1000000 := h.2 _ (getD_mem hk)
theorem versI (l : List Version) (hl : VersB l) : M.impl_AreVersions l = some (versOk l) := by
  unfold M.impl_AreVersions
  have := hl.1
  rw [iter_rise (n := l.length) (bad := riseB (fun v => !verOk v) (fun a b => decide (a.From ≥ b.From)) l) (by omega) (fun k hk => by
    unfold M.impl_AreVersions_l0 riseB verOk
    have hr := schedI _ (hl.elt hk)
    simp (disch := first | omega | (intros; simp only [decide_eq_true_eq, decide_eq_false_iff_not, Bool.not_eq_true, Bool.not_eq_false, Bool.not_true, Bool.not_false] at *; omega)) only [cast_succ, asrt_pos, wrap64_id, Option.bind_some, cond_true, cond_false, decide_eq_true, decide_eq_false, Int.toNat_natCast, Bool.not_true, Bool.not_false, Bool.and_true, Bool.true_and, Bool.and_false, Bool.false_and, Bool.or_true, Bool.true_or, Bool.or_false, Bool.false_or, hr, isDayI, toNat_pred, bif_some]
    cases inR (l.getD k default).From 0 20000 <;> cases schedOk (l.getD k default).Rules <;> cases decide ((k : Int) > 0) <;> simp) (by
    unfold M.impl_AreVersions_l0
    simp (disch := first | omega | (intros; simp only [decide_eq_true_eq, decide_eq_false_iff_not, Bool.not_eq_true, Bool.not_eq_false, Bool.not_true, Bool.not_false] at *; omega)) only [cast_succ, asrt_pos, wrap64_id, Option.bind_some, cond_true, cond_false, decide_eq_true, decide_eq_false, Int.toNat_natCast, Bool.not_true, Bool.not_false, Bool.and_true, Bool.true_and, Bool.and_false, Bool.false_and, Bool.or_true, Bool.true_or, Bool.or_false, Bool.false_or])]
  unfold versOk rise
  rw [show decide ((l.length : Int) ≤ 5) = decide (l.length ≤ 5) by simp; omega]
  cases (List.range l.length).any _ <;> rfl
theorem versS (l : List Version) (hl : VersB l) : M.spec_l8Good l = some (versOk l) := by
  unfold M.spec_l8Good
  have := hl.1
  rw [iter_rise (n := l.length) (bad := riseB (fun v => !verOk v) (fun a b => decide (a.From ≥ b.From)) l) (by omega) (fun k hk => by
    unfold M.spec_l8Good_l0 riseB verOk
    have hr := schedS _ (hl.elt hk)
    simp (disch := first | omega | (intros; simp only [decide_eq_true_eq, decide_eq_false_iff_not, Bool.not_eq_true, Bool.not_eq_false, Bool.not_true, Bool.not_false] at *; omega)) only [cast_succ, asrt_pos, wrap64_id, Option.bind_some, cond_true, cond_false, decide_eq_true, decide_eq_false, Int.toNat_natCast, Bool.not_true, Bool.not_false, Bool.and_true, Bool.true_and, Bool.and_false, Bool.false_and, Bool.or_true, Bool.true_or, Bool.or_false, Bool.false_or, hr, l2DayS, toNat_pred, bif_some]
    cases inR (l.getD k default).From 0 20000 <;> cases schedOk (l.getD k default).Rules <;> cases decide ((k : Int) > 0) <;> simp) (by
    unfold M.spec_l8Good_l0
    simp (disch := first | omega | (intros; simp only [decide_eq_true_eq, decide_eq_false_iff_not, Bool.not_eq_true, Bool.not_eq_false, Bool.not_true, Bool.not_false] at *; omega)) only [cast_succ, asrt_pos, wrap64_id, Option.bind_some, cond_true, cond_false, decide_eq_true, decide_eq_false, Int.toNat_natCast, Bool.not_true, Bool.not_false, Bool.and_true, Bool.true_and, Bool.and_false, Bool.false_and, Bool.or_true, Bool.true_or, Bool.or_false, Bool.false_or])]
  unfold versOk rise
  rw [show decide ((l.length : Int) ≤ 5) = decide (l.length ≤ 5) by simp; omega]
  cases (List.range l.length).any _ <;> rfl
theorem versOk_spec {l : List Version} (h : versOk l = true) : l.length ≤ 5 ∧ (∀ k, k < l.length → (0 ≤ (l.getD k default).From ∧ (l.getD k default).From ≤ 20000) ∧ schedOk (l.getD k default).Rules = true) ∧ ∀ j k, j < k → k < l.length → (l.getD j default).From < (l.getD k default).From := by
  unfold versOk at h
  simp only [Bool.and_eq_true, decide_eq_true_eq] at h
  refine ⟨h.2, fun k hk => ?_, rise_key h.1 (·.From) (fun a b hab => by simp only [decide_eq_false_iff_not] at hab; omega)⟩
  have := rise_all h.1 _ (getD_mem hk)
  simp only [verOk, Bool.not_eq_false', Bool.and_eq_true, inR_true] at this
  exact this
def OnP (l : List Version) (d : Int) (n : Nat) (a : Int) : Prop :=
  (a = -1 ∧ ∀ j, j < n → d < (l.getD j default).From) ∨ ∃ k : Nat, k < n ∧ a = (k : Int) ∧ (l.getD k default).From ≤ d ∧ ∀ j, k < j → j < n → d < (l.getD j default).From
theorem verOnT (l : List Version) (d : Int) (hl : l.length < 1000000) : T (M.impl_versionOn l d) (OnP l d l.length) := by
  unfold M.impl_versionOn
  refine T.then (Q := OnP l d l.length) (T_iter (fun s => ∃ n : Nat, s.2 = (n : Int) ∧ n ≤ l.length ∧ OnP l d n s.1) (fun s => l.length - s.2.toNat) _ ⟨0, rfl, by omega, .inl ⟨rfl, fun j h => absurd h (Nat.not_lt_zero _)⟩⟩ (by simp only; omega) ?_) (fun a ha => T_ret ha)
  rintro ⟨a, _⟩ ⟨n, rfl, h1, h2⟩
  simp only at h2
  unfold M.impl_versionOn_l0
  dsimp only
  refine T_if (fun hq => ?_) (fun hq => ?_)
  · simp only [decide_eq_true_eq] at hq
    simp only [Int.toNat_natCast]
    refine T_in (T_ask ⟨by omega, hq⟩ ?_)
    refine T_if (fun hd => T_ret (T_ret ?_)) (fun hd => T_ret (T_ret ?_))
    · simp only [decide_eq_true_eq] at hd
      simp only
      rw [wrap64_id (by omega) (by omega)]
      exact ⟨⟨n + 1, by omega, by omega, .inr ⟨n, by omega, rfl, hd, fun j g1 g2 => absurd g1 (by omega)⟩⟩, by omega⟩
    · simp only [decide_eq_false_iff_not] at hd
      simp only
      rw [wrap64_id (by omega) (by omega)]
      refine ⟨⟨n + 1, by omega, by omega, ?_⟩, by omega⟩
      have key : ∀ j, j < n + 1 → (j < n → d < (l.getD j default).From) → d < (l.getD j default).From := by
        intro j hj h
        by_cases e : j < n
        · exact h e
        · obtain rfl : j = n := by omega
          omega
      rcases h2 with ⟨rfl, h2⟩ | ⟨k, g1, g2, g3, g4⟩
      · exact .inl ⟨rfl, fun j hj => key j hj (h2 j)⟩
      · exact .inr ⟨k, by omega, g2, g3, fun j q1 q2 => key j q2 (g4 j q1)⟩
  · simp only [decide_eq_false_iff_not] at hq
    obtain rfl : n = l.length := by omega
    exact T_ret h2
def verAt (l : List Version) (d : Int) : Int := (M.impl_versionOn l d).getD (-1)
theorem verOnI (l : List Version) (d : Int) (hl : l.length < 1000000) : M.impl_versionOn l d = some (verAt l d) := by
  obtain ⟨a, h, _⟩ := verOnT l d hl
  unfold verAt; rw [h]; rfl
theorem verOnS (l : List Version) (d : Int) (hl : l.length < 1000000) : M.spec_l8On l d = some (verAt l d) :=
  (show M.spec_l8On l d = M.impl_versionOn l d from rfl).trans (verOnI l d hl)
theorem verAt_spec (l : List Version) (d : Int) (hl : l.length < 1000000) : OnP l d l.length (verAt l d) := by
  obtain ⟨a, h, h2⟩ := verOnT l d hl
  unfold verAt; rw [h]; exact h2
theorem verAt_eq {l : List Version} {d : Int} (hv : versOk l = true) {k : Nat} (hk : k < l.length) (h1 : (l.getD k default).From ≤ d) (h2 : k + 1 < l.length → d < (l.getD (k + 1) default).From) : verAt l d = (k : Int) := by
  obtain ⟨g1, g2, g3⟩ := versOk_spec hv
  rcases verAt_spec l d (by omega) with ⟨_, h⟩ | ⟨q, q1, q2, q3, q4⟩
  · have := h k hk; omega
  · rw [q2]
    rcases Nat.lt_trichotomy q k with e | e | e
    · have := q4 k e hk; omega
    · rw [e]
    · have h3 := h2 (by omega)
      by_cases e2 : q = k + 1
      · subst e2; omega
      · have := g3 (k + 1) q (by omega) q1; omega
def inForce (l : List Version) (r : Record) (d : Int) : Bool := (versOk l && recOk r) && inR d 0 20000
theorem askedS (l : List Version) (r : Record) (d : Int) (hl : VersB l) (hr : RecB r) : M.spec_l8Asked l r d = some (inForce l r d) := by
  unfold M.spec_l8Asked inForce
  simp only [versS l hl, recS r hr, l2DayS, Option.bind_some, bif_some]
  cases versOk l <;> cases recOk r <;> rfl
def dueIn (l : List Version) (r : Record) (k : Nat) : Int := (deciding r (l.getD k default).Rules).1
def lastOf (l : List Version) (k : Nat) : Int := if k + 1 < l.length then (l.getD (k + 1) default).From - 1 else 20000
def hits (l : List Version) (r : Record) (k : Nat) : Bool := decide (dueIn l r k ≥ 0) && decide (dueIn l r k ≤ lastOf l k)
def firstOf (l : List Version) (r : Record) (k : Nat) : Int := bif decide (dueIn l r k < (l.getD k default).From) then (l.getD k default).From else dueIn l r k
theorem firstOf_max {l : List Version} {r : Record} {k : Nat} : firstOf l r k = max (dueIn l r k) (l.getD k default).From := by
  unfold firstOf
  by_cases h : dueIn l r k < (l.getD k default).From
  · rw [decide_eq_true h, cond_true]; omega
  · rw [decide_eq_false h, cond_false]; omega
theorem firstStepS (l : List Version) (r : Record) (hv : versOk l = true) (hr : recOk r = true) (k : Nat) (hk : k < l.length) :
    M.spec_FirstDueDay_l0 l r (k : Int) = some (bif hits l r k then .inr (.inr (firstOf l r k, true)) else .inl ((k + 1 : Nat) : Int)) := by
  obtain ⟨g1, g2, g3⟩ := versOk_spec hv
  unfold M.spec_FirstDueDay_l0
  dsimp only
  simp only [Int.toNat_natCast]
  rw [decide_eq_true (show (k : Int) < (l.length : Int) by omega), cond_true, wrap64_id (by omega) (by omega), show ((k : Int) + 1).toNat = k + 1 by omega]
  have e1 : (bif decide ((k : Int) + 1 < (l.length : Int)) then asrt (0 ≤ (k : Int) + 1 ∧ (k : Int) + 1 < (l.length : Int)) (some (IntKind.i64.wrap ((l.getD (k + 1) default).From - 1))) else some 20000) = some (lastOf l k) := by
    unfold lastOf
    by_cases h : k + 1 < l.length
    · have := g2 (k + 1) h
      rw [decide_eq_true (show (k : Int) + 1 < (l.length : Int) by omega), cond_true, asrt_pos ⟨by omega, by omega⟩, if_pos h, wrap64_id (by omega) (by omega)]
    · rw [decide_eq_false (show ¬ (k : Int) + 1 < (l.length : Int) by omega), cond_false, if_neg h]
  rw [e1, Option.bind_some, asrt_pos ⟨by omega, by omega⟩, decidingS r _ hr (g2 k hk).2, Option.bind_some, asrt_pos ⟨by omega, by omega⟩]
  dsimp only
  have e2 : (decide ((deciding r (l.getD k default).Rules).1 ≥ 0) && decide ((deciding r (l.getD k default).Rules).1 ≤ lastOf l k)) = hits l r k := rfl
  rw [e2]
  have e3 : M.spec_l1Most (deciding r (l.getD k default).Rules).1 (l.getD k default).From = some (firstOf l r k) := by
    unfold M.spec_l1Most
    rw [firstOf_max, bif_some]
    unfold dueIn
    by_cases h : (deciding r (l.getD k default).Rules).1 > (l.getD k default).From
    · rw [decide_eq_true h, cond_true]; congr 1; omega
    · rw [decide_eq_false h, cond_false]; congr 1; omega
  rw [e3, Option.bind_some]
  cases hits l r k <;> rfl
def VersD (l : List Version) : Prop := l.length ≤ 20 ∧ ∀ v ∈ l, v.Rules.length ≤ 20
theorem VersD.bb {l : List Version} (h : VersD l) : VersB l := ⟨by have := h.1; omega, fun v hv => by have := h.2 v hv; omega⟩
theorem VersD.snc {l : List Version} {x : Version} (h : ∀ v ∈ l, v.Rules.length ≤ 20) (hx : x.Rules.length ≤ 20) : ∀ v ∈ l ++ [x], v.Rules.length ≤ 20 := by
  intro y hy
  rcases List.mem_append.1 hy with hy | hy
  · exact h y hy
  · rw [List.mem_singleton] at hy; subst hy; exact hx
theorem drawVersions {code : List Int} {k : Nat} {c : Cur} (hb : Bytes code) (h : Good code k c) (hk : k < 400000000) (r : Record) : T (M.spec_l1Cur_versions c r) (fun q => VersD q.1 ∧ Good code (k + 5000) q.2) := by
  unfold M.spec_l1Cur_versions
  refine T_among hb h (by omega) (by simp) ?_
  intro x c1 _ h1
  refine T_pick hb h1 (by omega) ?_
  intro n c2 _ hn h2
  have hn := hn (by omega)
  dsimp only
  refine T.then (Q := fun q => (q.1.length ≤ 3 ∧ ∀ v ∈ q.1, v.Rules.length ≤ 20) ∧ Good code (k + 4500) q.2) (T_iter (fun s => 0 ≤ s.2.2.1 ∧ (s.1.length : Int) + s.2.2.1 ≤ 3 ∧ (∀ v ∈ s.1, v.Rules.length ≤ 20) ∧ Good code (k + 4500 - 1300 * s.2.2.1.toNat) s.2.2.2) (fun s => s.2.2.1.toNat) _ ⟨hn.1, by simp only [List.length_nil]; omega, by simp, h2.up (by simp only; omega)⟩ (by (first | omega | (simp only; omega) | (dsimp only; omega) | (simp; omega))) ?_) ?_
  · rintro ⟨l, fr, n, c3⟩ ⟨g1, g2, g3, g4⟩
    simp only at g1 g2 g3 g4
    unfold M.spec_l1Cur_versions_l0
    dsimp only
    refine T_if (fun hq => ?_) (fun hq => T_ret ⟨⟨by simp only; omega, g3⟩, g4.up (by omega)⟩)
    simp only [decide_eq_true_eq] at hq
    refine T_in ?_
    refine T.mono (Q := fun q => (q.1.length : Int) + n ≤ 4 ∧ (∀ v ∈ q.1, v.Rules.length ≤ 20) ∧ Good code (k + 4500 - 1300 * n.toNat + 1210) q.2.2) ?_ ?_
    · refine (drawSuited hb g4 (by omega) r).then ?_
      rintro ⟨s, c4⟩ ⟨h5, h6⟩
      simp only at h5 h6
      refine T_in ?_
      refine T.mono (Q := fun q => q.1.length ≤ 20 ∧ Good code (k + 4500 - 1300 * n.toNat + 1202) q.2) ?_ ?_
      · cases hc : decide ((l.length : Int) > 0)
        · simp only [cond_false, Bool.false_and, Option.bind_some]
          exact T_ret ⟨h5, h6.up (by omega)⟩
        · simp only [cond_true, Bool.true_and]
          simp only [decide_eq_true_eq] at hc
          refine T_one hb h6 (by omega) ?_
          intro b c5 h7
          refine T_if (fun _ => ?_) (fun _ => T_ret ⟨h5, h7.up (by omega)⟩)
          rw [wrap64_id (by omega) (by omega)]
          have hm := g3 _ (getD_mem (l := l) (i := ((l.length : Int) - 1).toNat) (by omega))
          refine T_ask ⟨by omega, by omega⟩ (T_ask (by simp only [List.length_nil]; omega) (T_ret ⟨?_, h7.up (by omega)⟩))
          rw [List.nil_append]; exact hm
      · rintro ⟨s2, c5⟩ ⟨p1, p2⟩
        simp only at p1 p2
        refine T_ask (by simp; omega) ?_
        refine T_among hb p2 (by omega) (by simp) ?_
        intro y c6 _ h8
        refine T_ret ⟨by simp; omega, VersD.snc g3 p1, h8.up (by omega)⟩
    · rintro ⟨l2, fr2, c4⟩ ⟨p1, p2, p3⟩
      refine T_ret ?_
      simp only at p1 p2 p3 ⊢
      rw [wrap64_id (by omega) (by omega)]
      exact ⟨⟨by omega, by omega, p2, p3.up (by omega)⟩, by omega⟩
  · rintro ⟨l, c3⟩ ⟨⟨h3, h4⟩, h5⟩
    simp only at h3 h4 h5
    refine T_pick hb h5 (by omega) ?_
    intro y c4 _ _ h6
    refine T_in ?_
    dsimp only
    refine T.mono (Q := fun q => VersD q.1 ∧ Good code (k + 5000) q.2) ?_ (fun r hr => T_ret hr)
    refine T_if (fun hq => ?_) (fun hq => T_if (fun hq => ?_) (fun hq => T_ret ⟨⟨by simp only; omega, h4⟩, h6.up (by omega)⟩))
    · refine T_among hb h6 (by omega) (by simp) ?_
      intro z c5 _ h7
      exact T_ask (by simp; omega) (T_ret ⟨⟨by simp; omega, VersD.snc h4 (by simp)⟩, h7.up (by omega)⟩)
    · refine T.then (Q := fun q => q.1.length ≤ 10 ∧ (∀ v ∈ q.1, v.Rules.length ≤ 20) ∧ Good code (k + 4600) q.2) (T_iter (fun s => s.1.length ≤ 10 ∧ (∀ v ∈ s.1, v.Rules.length ≤ 20) ∧ Good code (k + 4510 + 2 * s.1.length) s.2) (fun s => 10 - s.1.length) _ ⟨by simp only; omega, h4, h6.up (by omega)⟩ (by simp only; omega) ?_) (fun r hr => T_ret ⟨⟨Nat.le_trans hr.1 (by omega), hr.2.1⟩, hr.2.2.up (by omega)⟩)
      rintro ⟨m, c5⟩ ⟨g1, g2, g3⟩
      simp only at g1 g2 g3
      unfold M.spec_l1Cur_versions_l1
      dsimp only
      refine T_pick hb g3 (by omega) ?_
      intro z c6 _ y2 y3
      have := y2 (by omega)
      dsimp only
      rw [wrap64_id (n := 5 + z) (by omega) (by omega)]
      refine T_if (fun hq => ?_) (fun hq => T_ret ⟨g1, g2, y3.up (by omega)⟩)
      simp only [decide_eq_true_eq] at hq
      refine T_ask (by simp; omega) (T_ret ?_)
      simp only [List.length_append, List.length_cons, List.length_nil]
      exact ⟨⟨by omega, VersD.snc g2 (by simp), y3.up (by omega)⟩, by omega⟩
end Go.Proofs.Ytjfpdbhjoofllaa
