/-
  Working days and requests: what the models of the program and of the reference answer. Plain.
-/
import Derived.Test.YtjfpdbhjoofllaaPq
set_option linter.unusedSimpArgs false
set_option linter.unusedVariables false
namespace Go.Proofs.Ytjfpdbhjoofllaa
open Go.VS

/-- e is the n-th day after d at which C holds. -/
inductive Due (C : Int → Bool) : Nat → Int → Int → Prop
  | zero (d : Int) : Due C 0 d d
  | hit {n : Nat} {d e : Int} : C (d + 1) = true → Due C n (d + 1) e → Due C (n + 1) d e
  | miss {n : Nat} {d e : Int} : C (d + 1) = false → Due C (n + 1) (d + 1) e → Due C (n + 1) d e

theorem Due.le {C : Int → Bool} {n : Nat} {d e : Int} (h : Due C n d e) : d ≤ e ∧ (n ≠ 0 → d + 1 ≤ e) := by
  induction h with
  | zero d => exact ⟨Int.le_refl _, fun h => absurd rfl h⟩
  | hit _ _ ih => have := ih.1; exact ⟨by omega, fun _ => this⟩
  | miss _ _ ih => have := ih.1; exact ⟨by omega, fun _ => this⟩

theorem Due.at0 {C : Int → Bool} {d e : Int} (h : Due C 0 d e) : e = d := by cases h; rfl

theorem Due.last {C : Int → Bool} {n : Nat} {d e : Int} (h : Due C n d e) : n ≠ 0 → C e = true := by
  induction h with
  | zero d => intro h; exact absurd rfl h
  | @hit n d e h1 h2 ih =>
    intro _
    cases n with
    | zero => rw [h2.at0]; exact h1
    | succ m => exact ih (by omega)
  | miss _ _ ih => exact ih

theorem Due.step {C : Int → Bool} {n : Nat} {B : Int} : ∀ (j : Nat) (d : Int), C (d + 1 + j) = true → (∀ d', d ≤ d' → d' ≤ d + 1 + j → ∃ e, Due C n d' e ∧ e ≤ B) → ∃ e, Due C (n + 1) d e ∧ e ≤ B
  | 0, d, h, hd => by
    obtain ⟨e, h1, h2⟩ := hd (d + 1) (by omega) (by omega)
    exact ⟨e, .hit (by simpa using h) h1, h2⟩
  | j + 1, d, h, hd => by
    cases hc : C (d + 1) with
    | true =>
      obtain ⟨e, h1, h2⟩ := hd (d + 1) (by omega) (by omega)
      exact ⟨e, .hit hc h1, h2⟩
    | false =>
      obtain ⟨e, h1, h2⟩ := Due.step j (d + 1) (by rw [← h]; congr 1; omega) (fun d' h1 h2 => hd d' (by omega) (by omega))
      exact ⟨e, .miss hc h1, h2⟩

theorem Due.total {C : Int → Bool} (H : ∀ D : Int, 20000 ≤ D → ∃ k : Nat, 1 ≤ k ∧ k ≤ 7 ∧ C (D + k) = true) : ∀ (n : Nat) (M d : Int), d ≤ M → 20000 ≤ M → ∃ e, Due C n d e ∧ e ≤ M + 7 * n
  | 0, M, d, h, _ => ⟨d, .zero d, by omega⟩
  | n + 1, M, d, h, hM => by
    obtain ⟨D, h1, h2, h3⟩ : ∃ D : Int, 20000 ≤ D ∧ D ≤ M ∧ d ≤ D := by
      by_cases hd : d ≤ 20000
      · exact ⟨20000, by omega, hM, hd⟩
      · exact ⟨d, by omega, h, Int.le_refl _⟩
    obtain ⟨k, h4, h5, h6⟩ := H D h1
    refine Due.step (D + k - d - 1).toNat d ?_ ?_
    · rw [← h6]; congr 1; omega
    · intro d' h7 h8
      obtain ⟨e, h9, h10⟩ := Due.total H n (M + 7) d' (by omega) (by omega)
      exact ⟨e, h9, by omega⟩

def Wd (d : Int) : Bool := decide (Int.tmod d 7 < 5)

theorem wd_some {D : Int} (h : 0 ≤ D) : ∃ k : Nat, 1 ≤ k ∧ k ≤ 7 ∧ Wd (D + k) = true := by
  refine ⟨(7 - D % 7).toNat, by omega, by omega, ?_⟩
  unfold Wd
  rw [Int.tmod_eq_emod_of_nonneg (by omega)]
  simp only [decide_eq_true_eq]
  omega

def inSt (l : List (Int × Int)) (d : Int) : Bool := l.any fun s => decide (s.1 ≤ d) && decide (d ≤ s.2)
def Cn (r : Request) (d : Int) : Bool := Wd d && !inSt r.Stops d

theorem Cn_none {d : Int} {a b c e : Int} : Cn ⟨a, b, c, e, []⟩ d = Wd d := by simp [Cn, inSt]

/-! ### Counting -/

theorem containsI (l : List (Int × Int)) (d : Int) (hl : l.length < 1000000) : M.slices_ContainsFunc_2_int_2_int l (fun x => M.impl_Request_counts_1 x d) = some (inSt l d) := by
  unfold M.slices_ContainsFunc_2_int_2_int M.slices_IndexFunc_2_int_2_int
  have h := iter_find (step := M.slices_IndexFunc_2_int_2_int_l0 l (fun x => M.impl_Request_counts_1 x d)) (s := 0) (fun k => (k : Int)) l.length (fun k => decide ((l.getD k default).1 ≤ d) && decide (d ≤ (l.getD k default).2)) (fun k => .inr (k : Int)) (.inl ()) rfl (by omega)
    (fun k hk hp => by
      unfold M.slices_IndexFunc_2_int_2_int_l0 M.impl_Request_counts_1 M.impl_within
      simp (disch := first | omega | (intros; simp only [decide_eq_true_eq, decide_eq_false_iff_not, Bool.not_eq_true, Bool.not_eq_false, Bool.not_true, Bool.not_false] at *; omega)) only [cast_succ, asrt_pos, wrap64_id, Option.bind_some, cond_true, cond_false, decide_eq_true, decide_eq_false, Int.toNat_natCast, Bool.not_true, Bool.not_false, Bool.and_true, Bool.true_and, Bool.and_false, Bool.false_and, Bool.or_true, Bool.true_or, Bool.or_false, Bool.false_or, hp])
    (fun k hk hp => by
      unfold M.slices_IndexFunc_2_int_2_int_l0 M.impl_Request_counts_1 M.impl_within
      simp (disch := first | omega | (intros; simp only [decide_eq_true_eq, decide_eq_false_iff_not, Bool.not_eq_true, Bool.not_eq_false, Bool.not_true, Bool.not_false] at *; omega)) only [cast_succ, asrt_pos, wrap64_id, Option.bind_some, cond_true, cond_false, decide_eq_true, decide_eq_false, Int.toNat_natCast, Bool.not_true, Bool.not_false, Bool.and_true, Bool.true_and, Bool.and_false, Bool.false_and, Bool.or_true, Bool.true_or, Bool.or_false, Bool.false_or, hp])
    (by
      unfold M.slices_IndexFunc_2_int_2_int_l0
      simp (disch := first | omega | (intros; simp only [decide_eq_true_eq, decide_eq_false_iff_not, Bool.not_eq_true, Bool.not_eq_false, Bool.not_true, Bool.not_false] at *; omega)) only [cast_succ, asrt_pos, wrap64_id, Option.bind_some, cond_true, cond_false, decide_eq_true, decide_eq_false, Int.toNat_natCast, Bool.not_true, Bool.not_false, Bool.and_true, Bool.true_and, Bool.and_false, Bool.false_and, Bool.or_true, Bool.true_or, Bool.or_false, Bool.false_or])
  unfold inSt
  rw [any_getD (l := l)]
  rcases h with ⟨k, h1, h2, _, h4⟩ | ⟨h1, h2⟩
  · rw [h4, List.any_eq_true.2 ⟨k, List.mem_range.2 h1, h2⟩]
    simp
  · rw [h2, show ((List.range l.length).any fun k => decide ((l.getD k default).1 ≤ d) && decide (d ≤ (l.getD k default).2)) = false from by
      rw [List.any_eq_false]; intro x hx; rw [h1 x (List.mem_range.1 hx)]; simp]
    simp

theorem countsI (r : Request) (d : Int) (hl : r.Stops.length < 1000000) : M.impl_Request_counts r d = some (Cn r d) := by
  unfold M.impl_Request_counts M.impl_isWorkingDay
  rw [containsI _ _ hl]
  unfold Cn Wd
  cases hw : decide (Int.tmod d 7 < 5) <;> simp [hw]

theorem countsS (r : Request) (d : Int) (hl : r.Stops.length < 1000000) : M.spec_l13Counts r d = some (Cn r d) := by
  unfold M.spec_l13Counts
  rw [iter_any (step := M.spec_l13Counts_l0 r d) (s := 0) (fun k => (k : Int)) r.Stops.length (fun k => decide ((r.Stops.getD k default).1 ≤ d) && decide (d ≤ (r.Stops.getD k default).2)) (.inr false) (.inl ()) rfl (by omega)
    (fun k hk hp => by
      unfold M.spec_l13Counts_l0 M.spec_l1In
      simp only [ge_iff_le] at hp ⊢
      simp (disch := first | omega | (intros; simp only [decide_eq_true_eq, decide_eq_false_iff_not, Bool.not_eq_true, Bool.not_eq_false, Bool.not_true, Bool.not_false] at *; omega)) only [cast_succ, asrt_pos, wrap64_id, Option.bind_some, cond_true, cond_false, decide_eq_true, decide_eq_false, Int.toNat_natCast, Bool.not_true, Bool.not_false, Bool.and_true, Bool.true_and, Bool.and_false, Bool.false_and, Bool.or_true, Bool.true_or, Bool.or_false, Bool.false_or, hp])
    (fun k hk hp => by
      unfold M.spec_l13Counts_l0 M.spec_l1In
      simp only [ge_iff_le] at hp ⊢
      simp (disch := first | omega | (intros; simp only [decide_eq_true_eq, decide_eq_false_iff_not, Bool.not_eq_true, Bool.not_eq_false, Bool.not_true, Bool.not_false] at *; omega)) only [cast_succ, asrt_pos, wrap64_id, Option.bind_some, cond_true, cond_false, decide_eq_true, decide_eq_false, Int.toNat_natCast, Bool.not_true, Bool.not_false, Bool.and_true, Bool.true_and, Bool.and_false, Bool.false_and, Bool.or_true, Bool.true_or, Bool.or_false, Bool.false_or, hp])
    (by
      unfold M.spec_l13Counts_l0
      simp (disch := first | omega | (intros; simp only [decide_eq_true_eq, decide_eq_false_iff_not, Bool.not_eq_true, Bool.not_eq_false, Bool.not_true, Bool.not_false] at *; omega)) only [cast_succ, asrt_pos, wrap64_id, Option.bind_some, cond_true, cond_false, decide_eq_true, decide_eq_false, Int.toNat_natCast, Bool.not_true, Bool.not_false, Bool.and_true, Bool.true_and, Bool.and_false, Bool.false_and, Bool.or_true, Bool.true_or, Bool.or_false, Bool.false_or])]
  unfold Cn inSt M.spec_l13Works Wd
  rw [any_getD (l := r.Stops)]
  cases ((List.range r.Stops.length).any fun k => decide ((r.Stops.getD k default).1 ≤ d) && decide (d ≤ (r.Stops.getD k default).2)) <;> simp

/-! ### Due days -/

theorem dueI {r : Request} {n : Nat} {e : Int} (hl : r.Stops.length < 1000000) (h0 : 0 ≤ r.Came) (hc : r.Came ≤ 20000) (hn : r.Working + r.Extended = (n : Int)) (hn1 : 1 ≤ n) (hn2 : n ≤ 1000) (hd : Due (Cn r) n r.Came e) :
    M.impl_Request_due r = some (if e ≤ 20000 then (e, true) else (0, false)) := by
  apply T.eq
  unfold M.impl_Request_due
  rw [hn, wrap64_id (by omega) (by omega), wrap64_id (by omega) (by omega)]
  refine T.then (Q := fun x => x = if e ≤ 20000 then .inr (e, true) else .inl ()) (T_iter (fun s => ∃ m : Nat, s.1 = (m : Int) ∧ 1 ≤ m ∧ m ≤ 1000 ∧ 0 ≤ s.2 ∧ s.2 ≤ 20001 ∧ Due (Cn r) m (s.2 - 1) e) (fun s => (20001 - s.2).toNat) _ ⟨n, rfl, hn1, hn2, by show (0 : Int) ≤ r.Came + 1; omega, by show r.Came + 1 ≤ 20001; omega, by show Due (Cn r) n (r.Came + 1 - 1) e; rw [show r.Came + 1 - 1 = r.Came by omega]; exact hd⟩ (by simp only; omega) ?_) ?_
  · rintro ⟨left, day⟩ ⟨m, rfl, h1, h2, h3, h4, h5⟩
    simp only at h3 h4 h5
    unfold M.impl_Request_due_l0
    simp only [T_bif, T_bind, T_some, countsI r _ hl, decide_eq_true_eq, decide_eq_false_iff_not, beq_iff_eq, beq_eq_false_iff_ne]
    refine ⟨fun hd' => ?_, fun hd' => ?_⟩
    · obtain ⟨p, rfl⟩ : ∃ p, m = p + 1 := ⟨m - 1, by omega⟩
      have e1 : day - 1 + 1 = day := by omega
      refine ⟨fun hcn => ?_, fun hcn => ?_⟩
      · rw [wrap64_id (by omega) (by omega)]
        cases h5 with
        | hit q1 q2 =>
          rw [e1] at q2
          refine ⟨fun h6 => ?_, fun h6 => ?_⟩
          · obtain rfl : p = 0 := by omega
            rw [q2.at0, if_pos hd']
          · refine ⟨⟨p, by omega, by omega, by omega, ?_, ?_, ?_⟩, ?_⟩
            · rw [wrap64_id (by omega) (by omega)]; omega
            · rw [wrap64_id (by omega) (by omega)]; omega
            · rw [wrap64_id (by omega) (by omega), show day + 1 - 1 = day by omega]; exact q2
            · rw [wrap64_id (by omega) (by omega)]; omega
        | miss q1 q2 => rw [e1, hcn] at q1; cases q1
      · cases h5 with
        | hit q1 q2 => rw [e1, hcn] at q1; cases q1
        | miss q1 q2 =>
          rw [e1] at q2
          refine ⟨fun h6 => by omega, fun h6 => ?_⟩
          refine ⟨⟨p + 1, rfl, by omega, by omega, ?_, ?_, ?_⟩, ?_⟩
          · rw [wrap64_id (by omega) (by omega)]; omega
          · rw [wrap64_id (by omega) (by omega)]; omega
          · rw [wrap64_id (by omega) (by omega), show day + 1 - 1 = day by omega]; exact q2
          · rw [wrap64_id (by omega) (by omega)]; omega
    · have := h5.le.2 (by omega)
      rw [if_neg (by omega)]
  · rintro x rfl
    split <;> rename_i h <;> split at h <;> cases h
    · rw [T_some, if_neg (by assumption)]
    · rw [T_some, if_pos (by assumption)]

theorem dueS {r : Request} {n : Nat} {e : Int} (hl : r.Stops.length < 1000000) (h0 : 0 ≤ r.Came) (hn : r.Working + r.Extended = (n : Int)) (hn2 : n ≤ 1000) (he : e ≤ 1000000) (hd : Due (Cn r) n r.Came e) : M.spec_l13Due r = some e := by
  apply T.eq
  unfold M.spec_l13Due
  rw [hn, wrap64_id (by omega) (by omega)]
  refine T.then (Q := fun x => x = e) (T_iter (fun s => ∃ m : Nat, s.2 = (m : Int) ∧ m ≤ 1000 ∧ 0 ≤ s.1 ∧ Due (Cn r) m s.1 e) (fun s => (e - s.1).toNat) _ ⟨n, rfl, hn2, h0, hd⟩ (by simp only; omega) ?_) (fun x hx => by rw [T_some]; exact hx)
  rintro ⟨day, left⟩ ⟨m, rfl, h1, h2, h3⟩
  simp only at h2 h3
  have hle := h3.le
  unfold M.spec_l13Due_l0
  simp only [T_bif, T_bind, T_some, countsS r _ hl, decide_eq_true_eq, decide_eq_false_iff_not]
  refine ⟨fun h4 => ?_, fun h4 => ?_⟩
  · obtain ⟨p, rfl⟩ : ∃ p, m = p + 1 := ⟨m - 1, by omega⟩
    have := hle.2 (by omega)
    rw [wrap64_id (n := day + 1) (by omega) (by omega), wrap64_id (by omega) (by omega)]
    refine ⟨fun h5 => ?_, fun h5 => ?_⟩
    · cases h3 with
      | hit q1 q2 => exact ⟨⟨p, by omega, by omega, by omega, q2⟩, by omega⟩
      | miss q1 q2 => rw [h5] at q1; cases q1
    · cases h3 with
      | hit q1 q2 => rw [h5] at q1; cases q1
      | miss q1 q2 => exact ⟨⟨p + 1, rfl, by omega, by omega, q2⟩, by omega⟩
  · obtain rfl : m = 0 := by omega
    exact h3.at0.symm

end Go.Proofs.Ytjfpdbhjoofllaa
