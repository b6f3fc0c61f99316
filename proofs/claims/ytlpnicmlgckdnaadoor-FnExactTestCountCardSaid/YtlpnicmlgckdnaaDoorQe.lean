/-
  Queries: the tests are counted; the law of TestCount. Plain.
-/
import Derived.Test.YtlpnicmlgckdnaaDoorQa
set_option linter.unusedSimpArgs false
set_option linter.unusedVariables false
namespace Go.Proofs.YtlpnicmlgckdnaaDoor
open Go.VS

theorem qyDep_mem : ∀ {ps : List QE} {x : QE}, x ∈ ps → qedep x ≤ qedeps ps
  | q :: qs, x, h => by
    rw [qedeps]
    rcases List.mem_cons.1 h with rfl | h
    · exact Nat.le_max_left _ _
    · exact Nat.le_trans (qyDep_mem h) (Nat.le_max_right _ _)
theorem qyInv (x : QE) : qe (qeI x) = x := by cases x; rfl
mutual
theorem qyN_pos : ∀ q : QE, 1 ≤ qyN q
  | .mk a b ps => by
    rw [qyN]
    cases ps with
    | nil => simp
    | cons q qs =>
      have := qyNs_len (q :: qs)
      simp at this ⊢
      omega
theorem qyNs_len : ∀ ps : List QE, ps.length ≤ qyNs ps
  | [] => Nat.zero_le _
  | q :: qs => by
    have h1 := qyN_pos q
    have h2 := qyNs_len qs
    rw [qyNs, List.length_cons]
    omega
end
theorem qyNs_take {ps : List QE} {j : Nat} (h : j < ps.length) : qyNs (ps.take (j + 1)) = qyNs (ps.take j) + qyN (ps.getD j default) ∧ qyNs (ps.take (j + 1)) ≤ qyNs ps := by
  constructor
  · rw [List.take_add_one, qyNs_app, List.getElem?_eq_getElem h, getD_el h]
    rw [show (some ps[j]).toList = [ps[j]] from rfl, qyNs_one]
  · have e : qyNs (ps.take (j + 1) ++ ps.drop (j + 1)) = qyNs ps := by rw [List.take_append_drop]
    rw [qyNs_app] at e
    omega
theorem qyEach : ∀ (k : Nat) (q : Query) (n : Nat), qedep (qe q) ≤ k → n + qyN (qe q) < 1000000 →
    M.impl_query_each_r k q (fun x0 x1 => M.impl_TestCount_1 x0 x1) (n : Int) = some ((n + qyN (qe q) : Nat) : Int)
  | 0, q, n, h, _ => by
    exfalso
    rw [show qe q = .mk q.Sign q.Number q.Parts from rfl, qedep] at h
    omega
  | k + 1, q, n, h, hb => by
    show M.impl_query_each_s (M.impl_query_each_r k) q (fun x0 x1 => M.impl_TestCount_1 x0 x1) (n : Int) = _
    rw [show qe q = .mk q.Sign q.Number q.Parts from rfl] at h hb ⊢
    rw [qedep] at h
    unfold M.impl_query_each_s
    cases hp : q.Parts with
    | nil =>
      rw [hp, qyN_leaf] at hb
      rw [qyN_leaf]
      rw [show ((([] : List QE).length : Int) == (0 : Int)) = true from rfl, cond_true]
      dsimp only
      rw [show M.impl_TestCount_1 q (n : Int) = some (IntKind.i64.wrap ((n : Int) + 1)) from rfl, Option.bind_some, Option.bind_some, wrap64_id (by omega) (by omega), cast_succ]
      try dsimp only
      rw [show iterO (M.impl_query_each_l0 q (fun x0 x1 => M.impl_TestCount_1 x0 x1) (M.impl_query_each_r k)) ((0 : Int), (n : Int) + 1) = some ((n : Int) + 1) from iter_up (fun _ => ((0 : Int), (n : Int) + 1)) 0 rfl (by omega) (fun k hk => absurd hk (Nat.not_lt_zero _)) (by
        unfold M.impl_query_each_l0
        dsimp only
        rw [hp]
        rfl)]
      rfl
    | cons p ps =>
      have hpn : q.Parts ≠ [] := by rw [hp]; simp
      rw [← hp]
      rw [qyN_parts hpn] at hb ⊢
      have hlen := qyNs_len q.Parts
      rw [show ((q.Parts.length : Int) == (0 : Int)) = false by rw [beq_eq_false_iff_ne, hp]; simp; omega, cond_false, Option.bind_some]
      try dsimp only
      rw [show iterO (M.impl_query_each_l0 q (fun x0 x1 => M.impl_TestCount_1 x0 x1) (M.impl_query_each_r k)) ((0 : Int), (n : Int)) = some ((n + qyNs q.Parts : Nat) : Int) from iter_up (fun j => ((j : Int), ((n + qyNs (q.Parts.take j) : Nat) : Int))) q.Parts.length (by simp [qyNs]) (by omega) (fun j hj => by
          unfold M.impl_query_each_l0
          dsimp only
          obtain ⟨t1, t2⟩ := qyNs_take hj
          have hm : q.Parts.getD j default ∈ q.Parts := by rw [getD_el hj]; exact List.getElem_mem hj
          have hd := qyDep_mem hm
          have ih := qyEach k (qeI (q.Parts.getD j default)) (n + qyNs (q.Parts.take j)) (by rw [qyInv]; omega) (by rw [qyInv]; omega)
          rw [qyInv] at ih
          rw [show decide ((j : Int) < (q.Parts.length : Int)) = true by simpa using hj, cond_true, asrt_pos (by omega), Int.toNat_natCast, ih, Option.bind_some, wrap64_id (by omega) (by omega), cast_succ, t1, Nat.add_assoc])
        (by
          unfold M.impl_query_each_l0
          dsimp only
          rw [show decide ((q.Parts.length : Int) < (q.Parts.length : Int)) = false by simp, cond_false, List.take_length])]
      rfl
theorem qyTests (s : List UInt8) (hl : s.length ≤ 60) : iterO (M.spec_TestCount_l0 s) ((0 : Int), (0 : Int)) = some ((qyCt s s.length : Nat) : Int) := by
  refine iter_up (fun k => (((qyCt s k : Nat) : Int), (k : Int))) s.length rfl (by omega) (fun k hk => ?_) ?_
  · unfold M.spec_TestCount_l0
    dsimp only
    have hc : qyCt s k ≤ 60 := by
      have : qyCt s k ≤ (s.take k).length := List.countP_le_length
      rw [List.length_take] at this
      omega
    rw [show decide ((k : Int) < (s.length : Int)) = true by simpa using hk, cond_true, asrt_pos (by omega), qyAt, qyCt_next hk]
    rw [show M.spec_l15Letter ((qyB s k).toNat : Int) = some (qyLt (qyB s k)) by
      unfold M.spec_l15Letter qyLt
      congr 1
      congr 1 <;> (rw [decide_eq_decide]; omega)]
    rw [Option.bind_some, wrap64_id (n := ((qyCt s k : Nat) : Int) + 1) (by omega) (by omega), wrap64_id (n := (k : Int) + 1) (by omega) (by omega), cast_succ]
    cases qyLt (qyB s k) with
    | true => rw [cond_true, if_pos rfl, cast_succ]; rfl
    | false => rw [cond_false, if_neg (by decide)]; rfl
  · unfold M.spec_TestCount_l0
    dsimp only
    rw [show decide ((s.length : Int) < (s.length : Int)) = false by simp]
    rfl
theorem law_FnExactTestCount (s : List UInt8) (h : s.length ≤ maxLen) : M.laws_FnExactTestCount s = some true := by
  unfold M.laws_FnExactTestCount
  cases decide ((s.length : Int) > 1048576) with
  | true => rfl
  | false =>
    rw [cond_false]
    unfold M.spec_TestCount M.impl_TestCount
    rcases qyRead s with ⟨q, m, h1, h2⟩ | ⟨q, h1, h2, h3, hl⟩
    · rw [h1, h2]; rfl
    · have hc : qyCt s s.length ≤ 60 := by
        have : qyCt s s.length ≤ (s.take s.length).length := List.countP_le_length
        rw [List.length_take] at this
        omega
      have he := qyEach (qedep (qe q)) q 0 (Nat.le_refl _) (by omega)
      rw [Nat.zero_add, h3] at he
      rw [h1, h2, Option.bind_some, Option.bind_some, Bool.not_true, cond_false, cond_false, qyTests s hl]
      rw [show M.impl_query_each q (fun x0 x1 => M.impl_TestCount_1 x0 x1) (0 : Int) = some ((qyCt s s.length : Nat) : Int) from he]
      simp
end Go.Proofs.YtlpnicmlgckdnaaDoor
