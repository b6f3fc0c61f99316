/- the cartons: lists of cartons -/
import Derived.Test.YthaeehmkeiiidaaCa
set_option linter.unusedSimpArgs false
set_option linter.unusedVariables false
set_option maxRecDepth 100000
namespace Go.Proofs.Ythaeehmkeiiidaa
open Go.VS


theorem l1Has_ok (ρ rn : Nat) (l : List Int) (n : Int) (hl : l.length ≤ 1048576) : Does Try.prog 90 [.vl ρ 1 (l.map encInt), .int .i64 n] [] rn (fun x H => x = .bool (l.any fun x => x == n) ∧ H = []) := by
  refine Does.intro (N := 18) Try.func90 rfl rfl rfl rfl ?_
  intro w0 S0
  refine V.seq ?_
  refine V.region ?_
  refine VO.cons rfl (V1.assign rfl rfl rfl (ltb rfl) ?_)
  refine VO.nil ?_
  refine V.seq ?_
  refine V.seq ?_
  refine V.region ?_
  refine VO.cons rfl (V1.assign rfl rfl rfl (ltb rfl) ?_)
  refine VO.nil ?_
  refine V.block ?_
  refine V.keep 18 [5, 0, 1] [] rfl (⟨_, _, rfl, rfl, ⟨_, _, rfl, rfl, ⟨_, _, rfl, rfl, rfl⟩⟩⟩) (rfl) rfl ?_
  refine V.loopE (D := Nat) (fun k => [(5, .int .i64 (k : Int))]) (fun k => []) (fun k => k ≤ l.length ∧ ∀ j, j < k → (l.getD j default == n) = false) (fun k => l.length - k) 0 rfl (⟨by omega, fun _ h => absurd h (by omega)⟩) ?_
  rintro k ⟨hk, hr⟩
  refine V.seq ?_
  refine V.seq ?_
  refine V.region ?_
  refine VO.cons rfl (V1.move rfl rfl rfl (ltb rfl) ?_)
  refine VO.cons rfl (V1.move rfl rfl rfl (ltb rfl) ?_)
  first | refine VO.cons rfl (V1.lenVl rfl rfl rfl rfl rfl rfl isl_22 (ltb rfl) ?_) | refine VO.cons rfl (V1.lenSref rfl rfl rfl rfl rfl rfl isl_22 (ltb rfl) ?_) | refine VO.cons rfl (V1.lenNils rfl rfl rfl rfl rfl rfl isl_22 (ltb rfl) ?_)
  refine VO.cons rfl (V1.int rfl rfl rfl rfl rfl (ltb rfl) ?_)
  refine VO.nil ?_
  refine V.keep 18 [0, 1, 5, 9] [] rfl (⟨_, _, rfl, rfl, ⟨_, _, rfl, rfl, ⟨_, _, rfl, rfl, ⟨_, _, rfl, rfl, rfl⟩⟩⟩⟩) (rfl) rfl ?_
  refine V.cond rfl (fun hc0 => ?_) (fun hc0 => ?_)
  · skip
    have hcr0 := hc0
    try simp only [decide_eq_true_eq, decide_eq_false_iff_not, List.length_map, Bool.and_eq_true, Bool.or_eq_true, Bool.not_eq_true', Bool.not_eq_false', Bool.and_eq_false_iff, Bool.or_eq_false_iff, beq_iff_eq, bne_iff_ne, beq_eq_false_iff_ne, bne_eq_false_iff_eq, Int.not_lt, Int.not_le, ne_eq] at hc0
    refine V.skip ?_
    refine V.seq ?_
    refine V.block ?_
    refine V.seq ?_
    refine V.region ?_
    refine VO.cons rfl (V1.move rfl rfl rfl (ltb rfl) ?_)
    refine VO.cons rfl (V1.move rfl rfl rfl (ltb rfl) ?_)
    first | refine VO.cons rfl (V1.indexMapN rfl rfl esz_22 rfl rfl (by omega) (ltb rfl) ?_) | refine VO.cons rfl (V1.indexMap rfl rfl esz_22 rfl rfl (by (first | omega | (simp only [List.length_map, List.length_append, List.length_take, List.length_drop, List.length_replicate, List.length_set, Int.toNat_natCast] at *; omega) | (simp at *; omega))) (by (first | omega | (simp only [List.length_map, List.length_append, List.length_take, List.length_drop, List.length_replicate, List.length_set, Int.toNat_natCast] at *; omega) | (simp at *; omega))) (ltb rfl) ?_) | refine VO.cons rfl (V1.indexSref rfl rfl esz_22 rfl rfl (by (first | omega | (simp only [List.length_map, List.length_append, List.length_take, List.length_drop, List.length_replicate, List.length_set, Int.toNat_natCast] at *; omega) | (simp at *; omega))) (by (first | omega | (simp only [List.length_map, List.length_append, List.length_take, List.length_drop, List.length_replicate, List.length_set, Int.toNat_natCast] at *; omega) | (simp at *; omega))) (ltb rfl) ?_)
    first | refine VO.cons rfl (V1.loadPin rfl rfl tyk_3 rfl rfl (ltb rfl) ?_) | refine VO.cons rfl (V1.loadRef (k := 0) rfl rfl tyk_3 rfl rfl rfl rfl rfl (ltb rfl) ?_) | refine VO.cons rfl (V1.loadRef (k := 1) rfl rfl tyk_3 rfl rfl rfl rfl rfl (ltb rfl) ?_) | refine VO.cons rfl (V1.loadRef (k := 2) rfl rfl tyk_3 rfl rfl rfl rfl rfl (ltb rfl) ?_)
    refine VO.cons rfl (V1.move rfl rfl rfl (ltb rfl) ?_)
    refine VO.cons rfl (V1.int rfl rfl rfl rfl rfl (ltb rfl) ?_)
    refine VO.nil ?_
    refine V.keep 18 [0, 1, 5, 17] [] rfl (⟨_, _, rfl, rfl, ⟨_, _, rfl, rfl, ⟨_, _, rfl, rfl, ⟨_, _, rfl, rfl, rfl⟩⟩⟩⟩) (rfl) rfl ?_
    refine V.cond rfl (fun hc1 => ?_) (fun hc1 => ?_)
    · skip
      have hcr1 := hc1
      try simp only [decide_eq_true_eq, decide_eq_false_iff_not, List.length_map, Bool.and_eq_true, Bool.or_eq_true, Bool.not_eq_true', Bool.not_eq_false', Bool.and_eq_false_iff, Bool.or_eq_false_iff, beq_iff_eq, bne_iff_ne, beq_eq_false_iff_ne, bne_eq_false_iff_eq, Int.not_lt, Int.not_le, ne_eq] at hc1
      refine V.seq ?_
      refine V.region ?_
      refine VO.cons rfl (V1.assign rfl rfl rfl (ltb rfl) ?_)
      refine VO.nil ?_
      refine V.ret ?_
      refine ⟨_, [], ⟨_, _, rfl, rfl, rfl⟩, List.nil_sublist _, ?_, rfl⟩
      exact congrArg PV.bool (any_true (by omega) hcr1).symm
    · skip
      have hcr1 := hc1
      try simp only [decide_eq_true_eq, decide_eq_false_iff_not, List.length_map, Bool.and_eq_true, Bool.or_eq_true, Bool.not_eq_true', Bool.not_eq_false', Bool.and_eq_false_iff, Bool.or_eq_false_iff, beq_iff_eq, bne_iff_ne, beq_eq_false_iff_ne, bne_eq_false_iff_eq, Int.not_lt, Int.not_le, ne_eq] at hc1
      refine V.skip ?_
      refine V.region ?_
      refine VO.cons rfl (V1.move rfl rfl rfl (ltb rfl) ?_)
      refine VO.cons rfl (V1.int rfl rfl rfl rfl rfl (ltb rfl) ?_)
      refine VO.cons rfl (V1.assign rfl rfl rfl (ltb rfl) ?_)
      refine VO.nil ?_
      refine ⟨k + 1, ⟨by omega, step_lt hr hcr1⟩, by omega, Keeps.mk (ks := []) rfl ⟨?_, rfl, rfl, trivial⟩ (rfl) rfl⟩
      · exact someInt (by simp (disch := omega) only [wrap64_id]; omega)
  · skip
    have hcr0 := hc0
    try simp only [decide_eq_true_eq, decide_eq_false_iff_not, List.length_map, Bool.and_eq_true, Bool.or_eq_true, Bool.not_eq_true', Bool.not_eq_false', Bool.and_eq_false_iff, Bool.or_eq_false_iff, beq_iff_eq, bne_iff_ne, beq_eq_false_iff_ne, bne_eq_false_iff_eq, Int.not_lt, Int.not_le, ne_eq] at hc0
    refine V.exit ?_
    refine V.seq ?_
    refine V.region ?_
    refine VO.cons rfl (V1.assign rfl rfl rfl (ltb rfl) ?_)
    refine VO.nil ?_
    refine V.ret ?_
    refine ⟨_, [], ⟨_, _, rfl, rfl, rfl⟩, List.nil_sublist _, ?_, rfl⟩
    exact congrArg PV.bool (any_false fun j hj => hr j (by omega)).symm

theorem Index_ok (ρ rn : Nat) (l : List Int) (n : Int) (hl : l.length ≤ 1048576) : Does Try.prog 110 [.vl ρ 1 (l.map encInt), .int .i64 n] [] rn (fun x H => x = .int .i64 (firstAt (fun x => n == x) l) ∧ H = []) := by
  refine Does.intro (N := 19) Try.func110 rfl rfl rfl rfl ?_
  intro w0 S0
  refine V.seq ?_
  refine V.region ?_
  refine VO.cons rfl (V1.assign rfl rfl rfl (ltb rfl) ?_)
  refine VO.nil ?_
  refine V.seq ?_
  refine V.seq ?_
  refine V.region ?_
  refine VO.cons rfl (V1.move rfl rfl rfl (ltb rfl) ?_)
  first | refine VO.cons rfl (V1.lenVl rfl rfl rfl rfl rfl rfl isl_22 (ltb rfl) ?_) | refine VO.cons rfl (V1.lenSref rfl rfl rfl rfl rfl rfl isl_22 (ltb rfl) ?_) | refine VO.cons rfl (V1.lenNils rfl rfl rfl rfl rfl rfl isl_22 (ltb rfl) ?_)
  refine VO.cons rfl (V1.move rfl rfl rfl (ltb rfl) ?_)
  refine VO.nil ?_
  refine V.keep 19 [0, 1, 7, 8] [] rfl (⟨_, _, rfl, rfl, ⟨_, _, rfl, rfl, ⟨_, _, rfl, rfl, ⟨_, _, rfl, rfl, rfl⟩⟩⟩⟩) (rfl) rfl ?_
  refine V.block ?_
  refine V.keep 19 [8, 0, 1, 7] [] rfl (⟨_, _, rfl, rfl, ⟨_, _, rfl, rfl, ⟨_, _, rfl, rfl, ⟨_, _, rfl, rfl, rfl⟩⟩⟩⟩) (rfl) rfl ?_
  refine V.loopE (D := Nat) (fun k => [(8, .int .i64 (k : Int))]) (fun k => []) (fun k => k ≤ l.length ∧ ∀ j, j < k → (n == l.getD j default) = false) (fun k => l.length - k) 0 rfl (⟨by omega, fun _ h => absurd h (by omega)⟩) ?_
  rintro k ⟨hk, hr⟩
  refine V.seq ?_
  refine V.region ?_
  refine VO.cons rfl (V1.int rfl rfl rfl rfl rfl (ltb rfl) ?_)
  refine VO.nil ?_
  refine V.seq ?_
  refine V.cond rfl (fun hc0 => ?_) (fun hc0 => ?_)
  · skip
    have hcr0 := hc0
    try simp only [decide_eq_true_eq, decide_eq_false_iff_not, List.length_map, Bool.and_eq_true, Bool.or_eq_true, Bool.not_eq_true', Bool.not_eq_false', Bool.and_eq_false_iff, Bool.or_eq_false_iff, beq_iff_eq, bne_iff_ne, beq_eq_false_iff_ne, bne_eq_false_iff_eq, Int.not_lt, Int.not_le, ne_eq] at hc0
    refine V.skip ?_
    refine V.seq ?_
    refine V.block ?_
    refine V.seq ?_
    refine V.region ?_
    refine VO.cons rfl (V1.move rfl rfl rfl (ltb rfl) ?_)
    refine VO.cons rfl (V1.assign rfl rfl rfl (ltb rfl) ?_)
    refine VO.nil ?_
    refine V.seq ?_
    refine V.region ?_
    refine VO.cons rfl (V1.move rfl rfl rfl (ltb rfl) ?_)
    refine VO.cons rfl (V1.move rfl rfl rfl (ltb rfl) ?_)
    refine VO.cons rfl (V1.move rfl rfl rfl (ltb rfl) ?_)
    first | refine VO.cons rfl (V1.indexMapN rfl rfl esz_22 rfl rfl (by omega) (ltb rfl) ?_) | refine VO.cons rfl (V1.indexMap rfl rfl esz_22 rfl rfl (by (first | omega | (simp only [List.length_map, List.length_append, List.length_take, List.length_drop, List.length_replicate, List.length_set, Int.toNat_natCast] at *; omega) | (simp at *; omega))) (by (first | omega | (simp only [List.length_map, List.length_append, List.length_take, List.length_drop, List.length_replicate, List.length_set, Int.toNat_natCast] at *; omega) | (simp at *; omega))) (ltb rfl) ?_) | refine VO.cons rfl (V1.indexSref rfl rfl esz_22 rfl rfl (by (first | omega | (simp only [List.length_map, List.length_append, List.length_take, List.length_drop, List.length_replicate, List.length_set, Int.toNat_natCast] at *; omega) | (simp at *; omega))) (by (first | omega | (simp only [List.length_map, List.length_append, List.length_take, List.length_drop, List.length_replicate, List.length_set, Int.toNat_natCast] at *; omega) | (simp at *; omega))) (ltb rfl) ?_)
    first | refine VO.cons rfl (V1.loadPin rfl rfl tyk_3 rfl rfl (ltb rfl) ?_) | refine VO.cons rfl (V1.loadRef (k := 0) rfl rfl tyk_3 rfl rfl rfl rfl rfl (ltb rfl) ?_) | refine VO.cons rfl (V1.loadRef (k := 1) rfl rfl tyk_3 rfl rfl rfl rfl rfl (ltb rfl) ?_) | refine VO.cons rfl (V1.loadRef (k := 2) rfl rfl tyk_3 rfl rfl rfl rfl rfl (ltb rfl) ?_)
    refine VO.cons rfl (V1.int rfl rfl rfl rfl rfl (ltb rfl) ?_)
    refine VO.nil ?_
    refine V.keep 19 [0, 1, 5, 7, 8, 16] [] rfl (⟨_, _, rfl, rfl, ⟨_, _, rfl, rfl, ⟨_, _, rfl, rfl, ⟨_, _, rfl, rfl, ⟨_, _, rfl, rfl, ⟨_, _, rfl, rfl, rfl⟩⟩⟩⟩⟩⟩) (rfl) rfl ?_
    refine V.cond rfl (fun hc1 => ?_) (fun hc1 => ?_)
    · skip
      have hcr1 := hc1
      try simp only [decide_eq_true_eq, decide_eq_false_iff_not, List.length_map, Bool.and_eq_true, Bool.or_eq_true, Bool.not_eq_true', Bool.not_eq_false', Bool.and_eq_false_iff, Bool.or_eq_false_iff, beq_iff_eq, bne_iff_ne, beq_eq_false_iff_ne, bne_eq_false_iff_eq, Int.not_lt, Int.not_le, ne_eq] at hc1
      refine V.seq ?_
      refine V.region ?_
      refine VO.cons rfl (V1.move rfl rfl rfl (ltb rfl) ?_)
      refine VO.cons rfl (V1.assign rfl rfl rfl (ltb rfl) ?_)
      refine VO.nil ?_
      refine V.ret ?_
      refine ⟨_, [], ⟨_, _, rfl, rfl, rfl⟩, List.nil_sublist _, ?_, rfl⟩
      exact congrArg (PV.int .i64) (firstAt_some (p := fun x => n == x) (by omega) hr hcr1).symm
    · skip
      have hcr1 := hc1
      try simp only [decide_eq_true_eq, decide_eq_false_iff_not, List.length_map, Bool.and_eq_true, Bool.or_eq_true, Bool.not_eq_true', Bool.not_eq_false', Bool.and_eq_false_iff, Bool.or_eq_false_iff, beq_iff_eq, bne_iff_ne, beq_eq_false_iff_ne, bne_eq_false_iff_eq, Int.not_lt, Int.not_le, ne_eq] at hc1
      refine V.skip ?_
      refine V.region ?_
      refine VO.cons rfl (V1.int rfl rfl rfl rfl rfl (ltb rfl) ?_)
      refine VO.cons rfl (V1.move rfl rfl rfl (ltb rfl) ?_)
      refine VO.nil ?_
      refine ⟨k + 1, ⟨by omega, step_lt hr hcr1⟩, by omega, Keeps.mk (ks := []) rfl ⟨?_, rfl, rfl, rfl, trivial⟩ (rfl) rfl⟩
      · exact someInt (by simp (disch := omega) only [wrap64_id]; omega)
  · skip
    have hcr0 := hc0
    try simp only [decide_eq_true_eq, decide_eq_false_iff_not, List.length_map, Bool.and_eq_true, Bool.or_eq_true, Bool.not_eq_true', Bool.not_eq_false', Bool.and_eq_false_iff, Bool.or_eq_false_iff, beq_iff_eq, bne_iff_ne, beq_eq_false_iff_ne, bne_eq_false_iff_eq, Int.not_lt, Int.not_le, ne_eq] at hc0
    refine V.exit ?_
    refine V.seq ?_
    refine V.region ?_
    refine VO.cons rfl (V1.assign rfl rfl rfl (ltb rfl) ?_)
    refine VO.nil ?_
    refine V.ret ?_
    refine ⟨_, [], ⟨_, _, rfl, rfl, rfl⟩, List.nil_sublist _, ?_, rfl⟩
    exact congrArg (PV.int .i64) (firstAt_none (p := fun x => n == x) fun j hj => hr j (by omega)).symm

theorem Contains_ok (ρ rn : Nat) (l : List Int) (n : Int) (hl : l.length ≤ 1048576) : Does Try.prog 78 [.vl ρ 1 (l.map encInt), .int .i64 n] [] rn (fun x H => x = .bool (l.any fun x => n == x) ∧ H = []) := by
  refine Does.intro (N := 9) Try.func78 rfl rfl rfl rfl ?_
  intro w0 S0
  refine V.seq ?_
  refine V.region ?_
  refine VO.cons rfl (V1.assign rfl rfl rfl (ltb rfl) ?_)
  refine VO.nil ?_
  refine V.seq ?_
  refine V.region ?_
  refine VO.cons rfl (V1.move rfl rfl rfl (ltb rfl) ?_)
  refine VO.cons rfl (V1.move rfl rfl rfl (ltb rfl) ?_)
  refine VO.cons rfl (V1.call rfl rfl rfl cok_110 rfl (Index_ok _ _ l n hl) rfl (ltb rfl) ?_)
  rintro _ _ ⟨rfl, rfl⟩
  refine VO.cons rfl (V1.int rfl rfl rfl rfl rfl (ltb rfl) ?_)
  refine VO.cons rfl (V1.assign rfl rfl rfl (ltb rfl) ?_)
  refine VO.nil ?_
  refine V.ret ?_
  refine ⟨_, [], ⟨_, _, rfl, rfl, rfl⟩, List.nil_sublist _, ?_, rfl⟩
  exact congrArg PV.bool firstAt_any

def Small (l : List Carton) : Prop := l.length ≤ 1048576 ∧ ∀ c, c ∈ l → c.files.length ≤ 1048576

theorem l18Holds_ok (ρ rn : Nat) (l : List Carton) (n : Int) (hl : Small l) : Does Try.prog 82 [.vl ρ 5 (l.map (encCarton ρ)), .int .i64 n] [] rn (fun x H => x = .int .i64 (firstAt (fun c => c.files.any fun x => x == n) l) ∧ H = []) := by
  have hl1 := hl.1
  refine Does.intro (N := 20) Try.func82 rfl rfl rfl rfl ?_
  intro w0 S0
  refine V.seq ?_
  refine V.region ?_
  refine VO.cons rfl (V1.assign rfl rfl rfl (ltb rfl) ?_)
  refine VO.nil ?_
  refine V.seq ?_
  refine V.seq ?_
  refine V.region ?_
  refine VO.cons rfl (V1.assign rfl rfl rfl (ltb rfl) ?_)
  refine VO.nil ?_
  refine V.block ?_
  refine V.keep 20 [5, 0, 1] [] rfl (⟨_, _, rfl, rfl, ⟨_, _, rfl, rfl, ⟨_, _, rfl, rfl, rfl⟩⟩⟩) (rfl) rfl ?_
  refine V.loopE (D := Nat) (fun k => [(5, .int .i64 (k : Int))]) (fun k => []) (fun k => k ≤ l.length ∧ ∀ j, j < k → ((l.getD j default).files.any fun x => x == n) = false) (fun k => l.length - k) 0 rfl (⟨by omega, fun _ h => absurd h (by omega)⟩) ?_
  rintro k ⟨hk, hr⟩
  refine V.seq ?_
  refine V.seq ?_
  refine V.region ?_
  refine VO.cons rfl (V1.move rfl rfl rfl (ltb rfl) ?_)
  refine VO.cons rfl (V1.move rfl rfl rfl (ltb rfl) ?_)
  first | refine VO.cons rfl (V1.lenVl rfl rfl rfl rfl rfl rfl isl_34 (ltb rfl) ?_) | refine VO.cons rfl (V1.lenSref rfl rfl rfl rfl rfl rfl isl_34 (ltb rfl) ?_) | refine VO.cons rfl (V1.lenNils rfl rfl rfl rfl rfl rfl isl_34 (ltb rfl) ?_)
  refine VO.cons rfl (V1.int rfl rfl rfl rfl rfl (ltb rfl) ?_)
  refine VO.nil ?_
  refine V.keep 20 [0, 1, 5, 9] [] rfl (⟨_, _, rfl, rfl, ⟨_, _, rfl, rfl, ⟨_, _, rfl, rfl, ⟨_, _, rfl, rfl, rfl⟩⟩⟩⟩) (rfl) rfl ?_
  refine V.cond rfl (fun hc0 => ?_) (fun hc0 => ?_)
  · skip
    have hcr0 := hc0
    try simp only [decide_eq_true_eq, decide_eq_false_iff_not, List.length_map, Bool.and_eq_true, Bool.or_eq_true, Bool.not_eq_true', Bool.not_eq_false', Bool.and_eq_false_iff, Bool.or_eq_false_iff, beq_iff_eq, bne_iff_ne, beq_eq_false_iff_ne, bne_eq_false_iff_eq, Int.not_lt, Int.not_le, ne_eq] at hc0
    refine V.skip ?_
    refine V.seq ?_
    refine V.block ?_
    refine V.seq ?_
    refine V.region ?_
    refine VO.cons rfl (V1.move rfl rfl rfl (ltb rfl) ?_)
    refine VO.cons rfl (V1.move rfl rfl rfl (ltb rfl) ?_)
    first | refine VO.cons rfl (V1.indexMapN rfl rfl esz_34 rfl rfl (by omega) (ltb rfl) ?_) | refine VO.cons rfl (V1.indexMap rfl rfl esz_34 rfl rfl (by (first | omega | (simp only [List.length_map, List.length_append, List.length_take, List.length_drop, List.length_replicate, List.length_set, Int.toNat_natCast] at *; omega) | (simp at *; omega))) (by (first | omega | (simp only [List.length_map, List.length_append, List.length_take, List.length_drop, List.length_replicate, List.length_set, Int.toNat_natCast] at *; omega) | (simp at *; omega))) (ltb rfl) ?_) | refine VO.cons rfl (V1.indexSref rfl rfl esz_34 rfl rfl (by (first | omega | (simp only [List.length_map, List.length_append, List.length_take, List.length_drop, List.length_replicate, List.length_set, Int.toNat_natCast] at *; omega) | (simp at *; omega))) (by (first | omega | (simp only [List.length_map, List.length_append, List.length_take, List.length_drop, List.length_replicate, List.length_set, Int.toNat_natCast] at *; omega) | (simp at *; omega))) (ltb rfl) ?_)
    first | refine VO.cons rfl (V1.fieldPin rfl rfl fo_27_3 rfl (ltb rfl) ?_) | refine VO.cons rfl (V1.fieldRef rfl rfl fo_27_3 rfl (ltb rfl) ?_)
    first | refine VO.cons rfl (V1.loadPin rfl rfl tyk_22 rfl rfl (ltb rfl) ?_) | refine VO.cons rfl (V1.loadRef (k := 0) rfl rfl tyk_22 rfl rfl rfl rfl rfl (ltb rfl) ?_) | refine VO.cons rfl (V1.loadRef (k := 1) rfl rfl tyk_22 rfl rfl rfl rfl rfl (ltb rfl) ?_) | refine VO.cons rfl (V1.loadRef (k := 2) rfl rfl tyk_22 rfl rfl rfl rfl rfl (ltb rfl) ?_)
    refine VO.cons rfl (V1.move rfl rfl rfl (ltb rfl) ?_)
    refine VO.cons rfl (V1.call rfl rfl rfl cok_90 rfl (l1Has_ok _ _ _ _ (hl.2 _ (getD_mem (by omega)))) rfl (ltb rfl) ?_)
    rintro _ _ ⟨rfl, rfl⟩
    refine VO.nil ?_
    refine V.keep 20 [0, 1, 5, 18] [] rfl (⟨_, _, rfl, rfl, ⟨_, _, rfl, rfl, ⟨_, _, rfl, rfl, ⟨_, _, rfl, rfl, rfl⟩⟩⟩⟩) (rfl) rfl ?_
    refine V.cond rfl (fun hc1 => ?_) (fun hc1 => ?_)
    · skip
      have hcr1 := hc1
      try simp only [decide_eq_true_eq, decide_eq_false_iff_not, List.length_map, Bool.and_eq_true, Bool.or_eq_true, Bool.not_eq_true', Bool.not_eq_false', Bool.and_eq_false_iff, Bool.or_eq_false_iff, beq_iff_eq, bne_iff_ne, beq_eq_false_iff_ne, bne_eq_false_iff_eq, Int.not_lt, Int.not_le, ne_eq] at hc1
      refine V.seq ?_
      refine V.region ?_
      refine VO.cons rfl (V1.move rfl rfl rfl (ltb rfl) ?_)
      refine VO.cons rfl (V1.assign rfl rfl rfl (ltb rfl) ?_)
      refine VO.nil ?_
      refine V.ret ?_
      refine ⟨_, [], ⟨_, _, rfl, rfl, rfl⟩, List.nil_sublist _, ?_, rfl⟩
      exact congrArg (PV.int .i64) (firstAt_some (p := fun c : Carton => c.files.any fun x => x == n) (by omega) hr hcr1).symm
    · skip
      have hcr1 := hc1
      try simp only [decide_eq_true_eq, decide_eq_false_iff_not, List.length_map, Bool.and_eq_true, Bool.or_eq_true, Bool.not_eq_true', Bool.not_eq_false', Bool.and_eq_false_iff, Bool.or_eq_false_iff, beq_iff_eq, bne_iff_ne, beq_eq_false_iff_ne, bne_eq_false_iff_eq, Int.not_lt, Int.not_le, ne_eq] at hc1
      refine V.skip ?_
      refine V.region ?_
      refine VO.cons rfl (V1.move rfl rfl rfl (ltb rfl) ?_)
      refine VO.cons rfl (V1.int rfl rfl rfl rfl rfl (ltb rfl) ?_)
      refine VO.cons rfl (V1.assign rfl rfl rfl (ltb rfl) ?_)
      refine VO.nil ?_
      refine ⟨k + 1, ⟨by omega, step_lt hr hcr1⟩, by omega, Keeps.mk (ks := []) rfl ⟨?_, rfl, rfl, trivial⟩ (rfl) rfl⟩
      · exact someInt (by simp (disch := omega) only [wrap64_id]; omega)
  · skip
    have hcr0 := hc0
    try simp only [decide_eq_true_eq, decide_eq_false_iff_not, List.length_map, Bool.and_eq_true, Bool.or_eq_true, Bool.not_eq_true', Bool.not_eq_false', Bool.and_eq_false_iff, Bool.or_eq_false_iff, beq_iff_eq, bne_iff_ne, beq_eq_false_iff_ne, bne_eq_false_iff_eq, Int.not_lt, Int.not_le, ne_eq] at hc0
    refine V.exit ?_
    refine V.seq ?_
    refine V.region ?_
    refine VO.cons rfl (V1.assign rfl rfl rfl (ltb rfl) ?_)
    refine VO.nil ?_
    refine V.ret ?_
    refine ⟨_, [], ⟨_, _, rfl, rfl, rfl⟩, List.nil_sublist _, ?_, rfl⟩
    exact congrArg (PV.int .i64) (firstAt_none (p := fun c : Carton => c.files.any fun x => x == n) fun j hj => hr j (by omega)).symm

def on (r s : Int) (c : Carton) : Int := if (c.room == r && c.shelf == s) = true then c.thick else 0
def taken (l : List Carton) (r s : Int) : Int := (l.map (on r s)).sum

theorem taken_succ {l : List Carton} {r s : Int} {k : Nat} (h : k < l.length) : taken (l.take (k + 1)) r s = taken (l.take k) r s + on r s (l.getD k default) := by
  unfold taken
  rw [take_succ_getD h]
  simp

def Thin (l : List Carton) : Prop := l.length ≤ 1048576 ∧ ∀ c, c ∈ l → 0 ≤ c.thick ∧ c.thick ≤ 40

theorem taken_bd {l : List Carton} {r s : Int} (hl : Thin l) : ∀ k, k ≤ l.length → 0 ≤ taken (l.take k) r s ∧ taken (l.take k) r s ≤ 40 * k
  | 0, _ => by simp [taken]
  | k + 1, h => by
    have ih := taken_bd (r := r) (s := s) hl k (by omega)
    have := hl.2 _ (getD_mem (l := l) (k := k) (by omega))
    rw [taken_succ (by omega), on]
    split <;> omega

theorem l18Taken_ok (ρ rn : Nat) (l : List Carton) (r s : Int) (hl : Thin l) : Does Try.prog 81 [.vl ρ 5 (l.map (encCarton ρ)), .int .i64 r, .int .i64 s] [] rn (fun x H => x = .int .i64 (taken l r s) ∧ H = []) := by
  have hl1 := hl.1
  refine Does.intro (N := 39) Try.func81 rfl rfl rfl rfl ?_
  intro w0 S0
  refine V.seq ?_
  refine V.region ?_
  refine VO.cons rfl (V1.assign rfl rfl rfl (ltb rfl) ?_)
  refine VO.nil ?_
  refine V.seq ?_
  refine V.region ?_
  refine VO.cons rfl (V1.assign rfl rfl rfl (ltb rfl) ?_)
  refine VO.nil ?_
  refine V.seq ?_
  refine V.seq ?_
  refine V.region ?_
  refine VO.cons rfl (V1.assign rfl rfl rfl (ltb rfl) ?_)
  refine VO.nil ?_
  refine V.block ?_
  refine V.keep 39 [7, 8, 0, 1, 2] [] rfl (⟨_, _, rfl, rfl, ⟨_, _, rfl, rfl, ⟨_, _, rfl, rfl, ⟨_, _, rfl, rfl, ⟨_, _, rfl, rfl, rfl⟩⟩⟩⟩⟩) (rfl) rfl ?_
  refine V.loopE (D := Nat) (fun k => [(7, .int .i64 (taken (l.take k) r s)), (8, .int .i64 (k : Int))]) (fun k => []) (fun k => k ≤ l.length) (fun k => l.length - k) 0 rfl (Nat.zero_le _) ?_
  rintro k hk
  have hb := taken_bd (r := r) (s := s) hl k hk
  refine V.seq ?_
  refine V.seq ?_
  refine V.region ?_
  refine VO.cons rfl (V1.move rfl rfl rfl (ltb rfl) ?_)
  refine VO.cons rfl (V1.move rfl rfl rfl (ltb rfl) ?_)
  first | refine VO.cons rfl (V1.lenVl rfl rfl rfl rfl rfl rfl isl_34 (ltb rfl) ?_) | refine VO.cons rfl (V1.lenSref rfl rfl rfl rfl rfl rfl isl_34 (ltb rfl) ?_) | refine VO.cons rfl (V1.lenNils rfl rfl rfl rfl rfl rfl isl_34 (ltb rfl) ?_)
  refine VO.cons rfl (V1.int rfl rfl rfl rfl rfl (ltb rfl) ?_)
  refine VO.nil ?_
  refine V.keep 39 [0, 1, 2, 7, 8, 12] [] rfl (⟨_, _, rfl, rfl, ⟨_, _, rfl, rfl, ⟨_, _, rfl, rfl, ⟨_, _, rfl, rfl, ⟨_, _, rfl, rfl, ⟨_, _, rfl, rfl, rfl⟩⟩⟩⟩⟩⟩) (rfl) rfl ?_
  refine V.cond rfl (fun hc0 => ?_) (fun hc0 => ?_)
  · skip
    have hcr0 := hc0
    try simp only [decide_eq_true_eq, decide_eq_false_iff_not, List.length_map, Bool.and_eq_true, Bool.or_eq_true, Bool.not_eq_true', Bool.not_eq_false', Bool.and_eq_false_iff, Bool.or_eq_false_iff, beq_iff_eq, bne_iff_ne, beq_eq_false_iff_ne, bne_eq_false_iff_eq, Int.not_lt, Int.not_le, ne_eq] at hc0
    refine V.skip ?_
    refine V.seq ?_
    refine V.block ?_
    refine V.seq ?_
    refine V.region ?_
    refine VO.cons rfl (V1.move rfl rfl rfl (ltb rfl) ?_)
    refine VO.cons rfl (V1.move rfl rfl rfl (ltb rfl) ?_)
    first | refine VO.cons rfl (V1.indexMapN rfl rfl esz_34 rfl rfl (by omega) (ltb rfl) ?_) | refine VO.cons rfl (V1.indexMap rfl rfl esz_34 rfl rfl (by (first | omega | (simp only [List.length_map, List.length_append, List.length_take, List.length_drop, List.length_replicate, List.length_set, Int.toNat_natCast] at *; omega) | (simp at *; omega))) (by (first | omega | (simp only [List.length_map, List.length_append, List.length_take, List.length_drop, List.length_replicate, List.length_set, Int.toNat_natCast] at *; omega) | (simp at *; omega))) (ltb rfl) ?_) | refine VO.cons rfl (V1.indexSref rfl rfl esz_34 rfl rfl (by (first | omega | (simp only [List.length_map, List.length_append, List.length_take, List.length_drop, List.length_replicate, List.length_set, Int.toNat_natCast] at *; omega) | (simp at *; omega))) (by (first | omega | (simp only [List.length_map, List.length_append, List.length_take, List.length_drop, List.length_replicate, List.length_set, Int.toNat_natCast] at *; omega) | (simp at *; omega))) (ltb rfl) ?_)
    first | refine VO.cons rfl (V1.fieldPin rfl rfl fo_27_2 rfl (ltb rfl) ?_) | refine VO.cons rfl (V1.fieldRef rfl rfl fo_27_2 rfl (ltb rfl) ?_)
    first | refine VO.cons rfl (V1.loadPin rfl rfl tyk_3 rfl rfl (ltb rfl) ?_) | refine VO.cons rfl (V1.loadRef (k := 0) rfl rfl tyk_3 rfl rfl rfl rfl rfl (ltb rfl) ?_) | refine VO.cons rfl (V1.loadRef (k := 1) rfl rfl tyk_3 rfl rfl rfl rfl rfl (ltb rfl) ?_) | refine VO.cons rfl (V1.loadRef (k := 2) rfl rfl tyk_3 rfl rfl rfl rfl rfl (ltb rfl) ?_)
    refine VO.cons rfl (V1.move rfl rfl rfl (ltb rfl) ?_)
    refine VO.cons rfl (V1.int rfl rfl rfl rfl rfl (ltb rfl) ?_)
    refine VO.cons rfl (V1.move rfl rfl rfl (ltb rfl) ?_)
    apply VO.and (n := 7) rfl rfl rfl rfl rfl rfl (ltb rfl) (.none rfl)
    · intro hg1
      refine VO.step (.some rfl rfl rfl) (V1.move rfl rfl rfl (ltb rfl) ?_)
      refine VO.step (.some rfl rfl rfl) (V1.move rfl rfl rfl (ltb rfl) ?_)
      first | refine VO.step (.some rfl rfl rfl) (V1.indexMapN rfl rfl esz_34 rfl rfl (by omega) (ltb rfl) ?_) | refine VO.step (.some rfl rfl rfl) (V1.indexMap rfl rfl esz_34 rfl rfl (by (first | omega | (simp only [List.length_map, List.length_append, List.length_take, List.length_drop, List.length_replicate, List.length_set, Int.toNat_natCast] at *; omega) | (simp at *; omega))) (by (first | omega | (simp only [List.length_map, List.length_append, List.length_take, List.length_drop, List.length_replicate, List.length_set, Int.toNat_natCast] at *; omega) | (simp at *; omega))) (ltb rfl) ?_) | refine VO.step (.some rfl rfl rfl) (V1.indexSref rfl rfl esz_34 rfl rfl (by (first | omega | (simp only [List.length_map, List.length_append, List.length_take, List.length_drop, List.length_replicate, List.length_set, Int.toNat_natCast] at *; omega) | (simp at *; omega))) (by (first | omega | (simp only [List.length_map, List.length_append, List.length_take, List.length_drop, List.length_replicate, List.length_set, Int.toNat_natCast] at *; omega) | (simp at *; omega))) (ltb rfl) ?_)
      first | refine VO.step (.some rfl rfl rfl) (V1.fieldPin rfl rfl fo_27_1 rfl (ltb rfl) ?_) | refine VO.step (.some rfl rfl rfl) (V1.fieldRef rfl rfl fo_27_1 rfl (ltb rfl) ?_)
      first | refine VO.step (.some rfl rfl rfl) (V1.loadPin rfl rfl tyk_3 rfl rfl (ltb rfl) ?_) | refine VO.step (.some rfl rfl rfl) (V1.loadRef (k := 0) rfl rfl tyk_3 rfl rfl rfl rfl rfl (ltb rfl) ?_) | refine VO.step (.some rfl rfl rfl) (V1.loadRef (k := 1) rfl rfl tyk_3 rfl rfl rfl rfl rfl (ltb rfl) ?_) | refine VO.step (.some rfl rfl rfl) (V1.loadRef (k := 2) rfl rfl tyk_3 rfl rfl rfl rfl rfl (ltb rfl) ?_)
      refine VO.step (.some rfl rfl rfl) (V1.move rfl rfl rfl (ltb rfl) ?_)
      refine VO.step (.some rfl rfl rfl) (V1.int rfl rfl rfl rfl rfl (ltb rfl) ?_)
      exact VO.nil ⟨rfl, rfl, rfl, rfl, .inr ⟨rfl, .inr ⟨rfl, .inr ⟨rfl, .inr ⟨rfl, .inr ⟨rfl, .inr ⟨rfl, .inr ⟨rfl, .inr ⟨rfl, .inl rfl⟩⟩⟩⟩⟩⟩⟩⟩⟩
    refine VO.nil ?_
    refine V.keep 39 [0, 1, 2, 7, 8, 30] [] rfl (⟨_, _, rfl, rfl, ⟨_, _, rfl, rfl, ⟨_, _, rfl, rfl, ⟨_, _, rfl, rfl, ⟨_, _, rfl, rfl, ⟨_, _, rfl, rfl, rfl⟩⟩⟩⟩⟩⟩) (rfl) rfl ?_
    refine V.cond rfl (fun hc2 => ?_) (fun hc2 => ?_)
    · skip
      have hcr2 := hc2
      try simp only [decide_eq_true_eq, decide_eq_false_iff_not, List.length_map, Bool.and_eq_true, Bool.or_eq_true, Bool.not_eq_true', Bool.not_eq_false', Bool.and_eq_false_iff, Bool.or_eq_false_iff, beq_iff_eq, bne_iff_ne, beq_eq_false_iff_ne, bne_eq_false_iff_eq, Int.not_lt, Int.not_le, ne_eq] at hc2
      refine V.region ?_
      refine VO.cons rfl (V1.move rfl rfl rfl (ltb rfl) ?_)
      refine VO.cons rfl (V1.move rfl rfl rfl (ltb rfl) ?_)
      refine VO.cons rfl (V1.move rfl rfl rfl (ltb rfl) ?_)
      first | refine VO.cons rfl (V1.indexMapN rfl rfl esz_34 rfl rfl (by omega) (ltb rfl) ?_) | refine VO.cons rfl (V1.indexMap rfl rfl esz_34 rfl rfl (by (first | omega | (simp only [List.length_map, List.length_append, List.length_take, List.length_drop, List.length_replicate, List.length_set, Int.toNat_natCast] at *; omega) | (simp at *; omega))) (by (first | omega | (simp only [List.length_map, List.length_append, List.length_take, List.length_drop, List.length_replicate, List.length_set, Int.toNat_natCast] at *; omega) | (simp at *; omega))) (ltb rfl) ?_) | refine VO.cons rfl (V1.indexSref rfl rfl esz_34 rfl rfl (by (first | omega | (simp only [List.length_map, List.length_append, List.length_take, List.length_drop, List.length_replicate, List.length_set, Int.toNat_natCast] at *; omega) | (simp at *; omega))) (by (first | omega | (simp only [List.length_map, List.length_append, List.length_take, List.length_drop, List.length_replicate, List.length_set, Int.toNat_natCast] at *; omega) | (simp at *; omega))) (ltb rfl) ?_)
      first | refine VO.cons rfl (V1.fieldPin rfl rfl fo_27_4 rfl (ltb rfl) ?_) | refine VO.cons rfl (V1.fieldRef rfl rfl fo_27_4 rfl (ltb rfl) ?_)
      first | refine VO.cons rfl (V1.loadPin rfl rfl tyk_3 rfl rfl (ltb rfl) ?_) | refine VO.cons rfl (V1.loadRef (k := 0) rfl rfl tyk_3 rfl rfl rfl rfl rfl (ltb rfl) ?_) | refine VO.cons rfl (V1.loadRef (k := 1) rfl rfl tyk_3 rfl rfl rfl rfl rfl (ltb rfl) ?_) | refine VO.cons rfl (V1.loadRef (k := 2) rfl rfl tyk_3 rfl rfl rfl rfl rfl (ltb rfl) ?_)
      refine VO.cons rfl (V1.int rfl rfl rfl rfl rfl (ltb rfl) ?_)
      refine VO.cons rfl (V1.assign rfl rfl rfl (ltb rfl) ?_)
      refine VO.nil ?_
      refine V.keep 39 [0, 1, 2, 7, 8] [] rfl (⟨_, _, rfl, rfl, ⟨_, _, rfl, rfl, ⟨_, _, rfl, rfl, ⟨_, _, rfl, rfl, ⟨_, _, rfl, rfl, rfl⟩⟩⟩⟩⟩) (rfl) rfl ?_
      refine V.region ?_
      refine VO.cons rfl (V1.move rfl rfl rfl (ltb rfl) ?_)
      refine VO.cons rfl (V1.int rfl rfl rfl rfl rfl (ltb rfl) ?_)
      refine VO.cons rfl (V1.assign rfl rfl rfl (ltb rfl) ?_)
      refine VO.nil ?_
      refine ⟨k + 1, by omega, by omega, Keeps.mk (ks := []) rfl ⟨?_, ?_, rfl, rfl, rfl, trivial⟩ (rfl) rfl⟩
      · exact someInt (by have := hl.2 _ (getD_mem (l := l) (k := k) (by omega)); rw [taken_succ (by omega), on, if_pos hcr2]; simp (disch := omega) only [wrap64_id])
      · exact someInt (by simp (disch := omega) only [wrap64_id]; omega)
    · skip
      have hcr2 := hc2
      try simp only [decide_eq_true_eq, decide_eq_false_iff_not, List.length_map, Bool.and_eq_true, Bool.or_eq_true, Bool.not_eq_true', Bool.not_eq_false', Bool.and_eq_false_iff, Bool.or_eq_false_iff, beq_iff_eq, bne_iff_ne, beq_eq_false_iff_ne, bne_eq_false_iff_eq, Int.not_lt, Int.not_le, ne_eq] at hc2
      refine V.skip ?_
      refine V.region ?_
      refine VO.cons rfl (V1.move rfl rfl rfl (ltb rfl) ?_)
      refine VO.cons rfl (V1.int rfl rfl rfl rfl rfl (ltb rfl) ?_)
      refine VO.cons rfl (V1.assign rfl rfl rfl (ltb rfl) ?_)
      refine VO.nil ?_
      refine ⟨k + 1, by omega, by omega, Keeps.mk (ks := []) rfl ⟨?_, ?_, rfl, rfl, rfl, trivial⟩ (rfl) rfl⟩
      · exact someInt (by rw [taken_succ (by omega), on, if_neg (by rw [hcr2]; simp)]; simp)
      · exact someInt (by simp (disch := omega) only [wrap64_id]; omega)
  · skip
    have hcr0 := hc0
    try simp only [decide_eq_true_eq, decide_eq_false_iff_not, List.length_map, Bool.and_eq_true, Bool.or_eq_true, Bool.not_eq_true', Bool.not_eq_false', Bool.and_eq_false_iff, Bool.or_eq_false_iff, beq_iff_eq, bne_iff_ne, beq_eq_false_iff_ne, bne_eq_false_iff_eq, Int.not_lt, Int.not_le, ne_eq] at hc0
    refine V.exit ?_
    refine V.seq ?_
    refine V.region ?_
    refine VO.cons rfl (V1.move rfl rfl rfl (ltb rfl) ?_)
    refine VO.cons rfl (V1.assign rfl rfl rfl (ltb rfl) ?_)
    refine VO.nil ?_
    refine V.ret ?_
    refine ⟨_, [], ⟨_, _, rfl, rfl, rfl⟩, List.nil_sublist _, ?_, rfl⟩
    obtain rfl : k = l.length := by omega
    rw [List.take_length]; rfl

theorem freeOn_ok (ρ rn : Nat) (l : List Carton) (r s : Int) (hl : Thin l) : Does Try.prog 79 [.vl ρ 5 (l.map (encCarton ρ)), .int .i64 r, .int .i64 s] [] rn (fun x H => x = .int .i64 (100 - taken l r s) ∧ H = []) := by
  have hl1 := hl.1
  refine Does.intro (N := 32) Try.func79 rfl rfl rfl rfl ?_
  intro w0 S0
  refine V.seq ?_
  refine V.region ?_
  refine VO.cons rfl (V1.assign rfl rfl rfl (ltb rfl) ?_)
  refine VO.nil ?_
  refine V.seq ?_
  refine V.region ?_
  refine VO.cons rfl (V1.assign rfl rfl rfl (ltb rfl) ?_)
  refine VO.nil ?_
  refine V.seq ?_
  refine V.seq ?_
  refine V.region ?_
  refine VO.cons rfl (V1.move rfl rfl rfl (ltb rfl) ?_)
  first | refine VO.cons rfl (V1.lenVl rfl rfl rfl rfl rfl rfl isl_34 (ltb rfl) ?_) | refine VO.cons rfl (V1.lenSref rfl rfl rfl rfl rfl rfl isl_34 (ltb rfl) ?_) | refine VO.cons rfl (V1.lenNils rfl rfl rfl rfl rfl rfl isl_34 (ltb rfl) ?_)
  refine VO.cons rfl (V1.move rfl rfl rfl (ltb rfl) ?_)
  refine VO.nil ?_
  refine V.keep 32 [1, 2, 7, 10, 11, 12] [] rfl (⟨_, _, rfl, rfl, ⟨_, _, rfl, rfl, ⟨_, _, rfl, rfl, ⟨_, _, rfl, rfl, ⟨_, _, rfl, rfl, ⟨_, _, rfl, rfl, rfl⟩⟩⟩⟩⟩⟩) (rfl) rfl ?_
  refine V.block ?_
  refine V.keep 32 [7, 12, 1, 2, 10, 11] [] rfl (⟨_, _, rfl, rfl, ⟨_, _, rfl, rfl, ⟨_, _, rfl, rfl, ⟨_, _, rfl, rfl, ⟨_, _, rfl, rfl, ⟨_, _, rfl, rfl, rfl⟩⟩⟩⟩⟩⟩) (rfl) rfl ?_
  refine V.loopE (D := Nat) (fun k => [(7, .int .i64 (100 - taken (l.take k) r s)), (12, .int .i64 (k : Int))]) (fun k => []) (fun k => k ≤ l.length) (fun k => l.length - k) 0 rfl (Nat.zero_le _) ?_
  rintro k hk
  have hb := taken_bd (r := r) (s := s) hl k hk
  refine V.seq ?_
  refine V.region ?_
  refine VO.cons rfl (V1.int rfl rfl rfl rfl rfl (ltb rfl) ?_)
  refine VO.nil ?_
  refine V.seq ?_
  refine V.cond rfl (fun hc0 => ?_) (fun hc0 => ?_)
  · skip
    have hcr0 := hc0
    try simp only [decide_eq_true_eq, decide_eq_false_iff_not, List.length_map, Bool.and_eq_true, Bool.or_eq_true, Bool.not_eq_true', Bool.not_eq_false', Bool.and_eq_false_iff, Bool.or_eq_false_iff, beq_iff_eq, bne_iff_ne, beq_eq_false_iff_ne, bne_eq_false_iff_eq, Int.not_lt, Int.not_le, ne_eq] at hc0
    refine V.skip ?_
    refine V.seq ?_
    refine V.block ?_
    refine V.seq ?_
    refine V.region ?_
    first | refine VO.cons rfl (V1.indexMapN rfl rfl esz_34 rfl rfl (by omega) (ltb rfl) ?_) | refine VO.cons rfl (V1.indexMap rfl rfl esz_34 rfl rfl (by (first | omega | (simp only [List.length_map, List.length_append, List.length_take, List.length_drop, List.length_replicate, List.length_set, Int.toNat_natCast] at *; omega) | (simp at *; omega))) (by (first | omega | (simp only [List.length_map, List.length_append, List.length_take, List.length_drop, List.length_replicate, List.length_set, Int.toNat_natCast] at *; omega) | (simp at *; omega))) (ltb rfl) ?_) | refine VO.cons rfl (V1.indexSref rfl rfl esz_34 rfl rfl (by (first | omega | (simp only [List.length_map, List.length_append, List.length_take, List.length_drop, List.length_replicate, List.length_set, Int.toNat_natCast] at *; omega) | (simp at *; omega))) (by (first | omega | (simp only [List.length_map, List.length_append, List.length_take, List.length_drop, List.length_replicate, List.length_set, Int.toNat_natCast] at *; omega) | (simp at *; omega))) (ltb rfl) ?_)
    first | refine VO.cons rfl (V1.loadPinAll rfl rfl tyk_27 rfl rfl (ltb rfl) ?_) | refine VO.cons rfl (V1.loadRefAll (k := 0) rfl rfl tyk_27 rfl rfl rfl rfl rfl (ltb rfl) ?_) | refine VO.cons rfl (V1.loadRefAll (k := 1) rfl rfl tyk_27 rfl rfl rfl rfl rfl (ltb rfl) ?_) | refine VO.cons rfl (V1.loadRefAll (k := 2) rfl rfl tyk_27 rfl rfl rfl rfl rfl (ltb rfl) ?_)
    refine VO.cons rfl (V1.alloc rfl rfl zk_27 (ltb rfl) ?_)
    intro b9
    first | refine VO.cons rfl (V1.storeRefAll (k := 0) rfl rfl tyk_27 rfl rfl rfl rfl rfl rfl ?_) | refine VO.cons rfl (V1.storeRefAll (k := 1) rfl rfl tyk_27 rfl rfl rfl rfl rfl rfl ?_) | refine VO.cons rfl (V1.storeRefAll (k := 2) rfl rfl tyk_27 rfl rfl rfl rfl rfl rfl ?_)
    refine VO.nil ?_
    refine V.keep 32 [1, 2, 7, 9, 10, 11, 12] [0] rfl (⟨_, _, rfl, rfl, ⟨_, _, rfl, rfl, ⟨_, _, rfl, rfl, ⟨_, _, rfl, rfl, ⟨_, _, rfl, rfl, ⟨_, _, rfl, rfl, ⟨_, _, rfl, rfl, rfl⟩⟩⟩⟩⟩⟩⟩) (⟨_, _, rfl, rfl, rfl⟩) rfl ?_
    refine V.seq ?_
    refine V.region ?_
    first | refine VO.cons rfl (V1.fieldPin rfl rfl fo_27_2 rfl (ltb rfl) ?_) | refine VO.cons rfl (V1.fieldRef rfl rfl fo_27_2 rfl (ltb rfl) ?_)
    first | refine VO.cons rfl (V1.loadPin rfl rfl tyk_3 rfl rfl (ltb rfl) ?_) | refine VO.cons rfl (V1.loadRef (k := 0) rfl rfl tyk_3 rfl rfl rfl rfl rfl (ltb rfl) ?_) | refine VO.cons rfl (V1.loadRef (k := 1) rfl rfl tyk_3 rfl rfl rfl rfl rfl (ltb rfl) ?_) | refine VO.cons rfl (V1.loadRef (k := 2) rfl rfl tyk_3 rfl rfl rfl rfl rfl (ltb rfl) ?_)
    refine VO.cons rfl (V1.move rfl rfl rfl (ltb rfl) ?_)
    refine VO.cons rfl (V1.int rfl rfl rfl rfl rfl (ltb rfl) ?_)
    refine VO.cons rfl (V1.move rfl rfl rfl (ltb rfl) ?_)
    apply VO.and (n := 4) rfl rfl rfl rfl rfl rfl (ltb rfl) (.none rfl)
    · intro hg1
      first | refine VO.step (.some rfl rfl rfl) (V1.fieldPin rfl rfl fo_27_1 rfl (ltb rfl) ?_) | refine VO.step (.some rfl rfl rfl) (V1.fieldRef rfl rfl fo_27_1 rfl (ltb rfl) ?_)
      first | refine VO.step (.some rfl rfl rfl) (V1.loadPin rfl rfl tyk_3 rfl rfl (ltb rfl) ?_) | refine VO.step (.some rfl rfl rfl) (V1.loadRef (k := 0) rfl rfl tyk_3 rfl rfl rfl rfl rfl (ltb rfl) ?_) | refine VO.step (.some rfl rfl rfl) (V1.loadRef (k := 1) rfl rfl tyk_3 rfl rfl rfl rfl rfl (ltb rfl) ?_) | refine VO.step (.some rfl rfl rfl) (V1.loadRef (k := 2) rfl rfl tyk_3 rfl rfl rfl rfl rfl (ltb rfl) ?_)
      refine VO.step (.some rfl rfl rfl) (V1.move rfl rfl rfl (ltb rfl) ?_)
      refine VO.step (.some rfl rfl rfl) (V1.int rfl rfl rfl rfl rfl (ltb rfl) ?_)
      exact VO.nil ⟨rfl, rfl, rfl, rfl, .inr ⟨rfl, .inr ⟨rfl, .inr ⟨rfl, .inr ⟨rfl, .inr ⟨rfl, .inl rfl⟩⟩⟩⟩⟩⟩
    refine VO.nil ?_
    refine V.keep 32 [1, 2, 7, 9, 10, 11, 12, 25] [0] rfl (⟨_, _, rfl, rfl, ⟨_, _, rfl, rfl, ⟨_, _, rfl, rfl, ⟨_, _, rfl, rfl, ⟨_, _, rfl, rfl, ⟨_, _, rfl, rfl, ⟨_, _, rfl, rfl, ⟨_, _, rfl, rfl, rfl⟩⟩⟩⟩⟩⟩⟩⟩) (⟨_, _, rfl, rfl, rfl⟩) rfl ?_
    refine V.cond rfl (fun hc2 => ?_) (fun hc2 => ?_)
    · skip
      have hcr2 := hc2
      try simp only [decide_eq_true_eq, decide_eq_false_iff_not, List.length_map, Bool.and_eq_true, Bool.or_eq_true, Bool.not_eq_true', Bool.not_eq_false', Bool.and_eq_false_iff, Bool.or_eq_false_iff, beq_iff_eq, bne_iff_ne, beq_eq_false_iff_ne, bne_eq_false_iff_eq, Int.not_lt, Int.not_le, ne_eq] at hc2
      refine V.region ?_
      refine VO.cons rfl (V1.move rfl rfl rfl (ltb rfl) ?_)
      first | refine VO.cons rfl (V1.fieldPin rfl rfl fo_27_4 rfl (ltb rfl) ?_) | refine VO.cons rfl (V1.fieldRef rfl rfl fo_27_4 rfl (ltb rfl) ?_)
      first | refine VO.cons rfl (V1.loadPin rfl rfl tyk_3 rfl rfl (ltb rfl) ?_) | refine VO.cons rfl (V1.loadRef (k := 0) rfl rfl tyk_3 rfl rfl rfl rfl rfl (ltb rfl) ?_) | refine VO.cons rfl (V1.loadRef (k := 1) rfl rfl tyk_3 rfl rfl rfl rfl rfl (ltb rfl) ?_) | refine VO.cons rfl (V1.loadRef (k := 2) rfl rfl tyk_3 rfl rfl rfl rfl rfl (ltb rfl) ?_)
      refine VO.cons rfl (V1.int rfl rfl rfl rfl rfl (ltb rfl) ?_)
      refine VO.cons rfl (V1.assign rfl rfl rfl (ltb rfl) ?_)
      refine VO.nil ?_
      refine V.keep 32 [1, 2, 7, 10, 11, 12] [] rfl (⟨_, _, rfl, rfl, ⟨_, _, rfl, rfl, ⟨_, _, rfl, rfl, ⟨_, _, rfl, rfl, ⟨_, _, rfl, rfl, ⟨_, _, rfl, rfl, rfl⟩⟩⟩⟩⟩⟩) (rfl) rfl ?_
      refine V.region ?_
      refine VO.cons rfl (V1.int rfl rfl rfl rfl rfl (ltb rfl) ?_)
      refine VO.cons rfl (V1.move rfl rfl rfl (ltb rfl) ?_)
      refine VO.nil ?_
      refine ⟨k + 1, by omega, by omega, Keeps.mk (ks := []) rfl ⟨?_, ?_, rfl, rfl, rfl, rfl, trivial⟩ (rfl) rfl⟩
      · exact someInt (by have := hl.2 _ (getD_mem (l := l) (k := k) (by omega)); rw [taken_succ (by omega), on, if_pos hcr2]; simp (disch := omega) only [wrap64_id]; omega)
      · exact someInt (by simp (disch := omega) only [wrap64_id]; omega)
    · skip
      have hcr2 := hc2
      try simp only [decide_eq_true_eq, decide_eq_false_iff_not, List.length_map, Bool.and_eq_true, Bool.or_eq_true, Bool.not_eq_true', Bool.not_eq_false', Bool.and_eq_false_iff, Bool.or_eq_false_iff, beq_iff_eq, bne_iff_ne, beq_eq_false_iff_ne, bne_eq_false_iff_eq, Int.not_lt, Int.not_le, ne_eq] at hc2
      refine V.skip ?_
      refine V.region ?_
      refine VO.cons rfl (V1.int rfl rfl rfl rfl rfl (ltb rfl) ?_)
      refine VO.cons rfl (V1.move rfl rfl rfl (ltb rfl) ?_)
      refine VO.nil ?_
      refine ⟨k + 1, by omega, by omega, Keeps.mk (ks := []) rfl ⟨?_, ?_, rfl, rfl, rfl, rfl, trivial⟩ (rfl) rfl⟩
      · exact someInt (by rw [taken_succ (by omega), on, if_neg (by rw [hcr2]; simp)]; simp)
      · exact someInt (by simp (disch := omega) only [wrap64_id]; omega)
  · skip
    have hcr0 := hc0
    try simp only [decide_eq_true_eq, decide_eq_false_iff_not, List.length_map, Bool.and_eq_true, Bool.or_eq_true, Bool.not_eq_true', Bool.not_eq_false', Bool.and_eq_false_iff, Bool.or_eq_false_iff, beq_iff_eq, bne_iff_ne, beq_eq_false_iff_ne, bne_eq_false_iff_eq, Int.not_lt, Int.not_le, ne_eq] at hc0
    refine V.exit ?_
    refine V.seq ?_
    refine V.region ?_
    refine VO.cons rfl (V1.move rfl rfl rfl (ltb rfl) ?_)
    refine VO.cons rfl (V1.assign rfl rfl rfl (ltb rfl) ?_)
    refine VO.nil ?_
    refine V.ret ?_
    refine ⟨_, [], ⟨_, _, rfl, rfl, rfl⟩, List.nil_sublist _, ?_, rfl⟩
    obtain rfl : k = l.length := by omega
    rw [List.take_length]; rfl

theorem AreCartons1_ok (ρ τ rn : Nat) (c : Carton) (n : Int) (hl : c.files.length ≤ 1048576) : Does Try.prog 77 [.int .i64 n, .pin τ (encCarton ρ c) 0] [] rn (fun x H => x = .bool (c.files.any fun x => n == x) ∧ H = []) := by
  refine Does.intro (N := 8) Try.func77 rfl rfl rfl rfl ?_
  intro w0 S0
  refine V.seq ?_
  refine V.region ?_
  refine VO.cons rfl (V1.assign rfl rfl rfl (ltb rfl) ?_)
  refine VO.nil ?_
  refine V.seq ?_
  refine V.region ?_
  first | refine VO.cons rfl (V1.fieldPin rfl rfl fo_27_3 rfl (ltb rfl) ?_) | refine VO.cons rfl (V1.fieldRef rfl rfl fo_27_3 rfl (ltb rfl) ?_)
  first | refine VO.cons rfl (V1.loadPin rfl rfl tyk_22 rfl rfl (ltb rfl) ?_) | refine VO.cons rfl (V1.loadRef (k := 0) rfl rfl tyk_22 rfl rfl rfl rfl rfl (ltb rfl) ?_) | refine VO.cons rfl (V1.loadRef (k := 1) rfl rfl tyk_22 rfl rfl rfl rfl rfl (ltb rfl) ?_) | refine VO.cons rfl (V1.loadRef (k := 2) rfl rfl tyk_22 rfl rfl rfl rfl rfl (ltb rfl) ?_)
  refine VO.cons rfl (V1.move rfl rfl rfl (ltb rfl) ?_)
  refine VO.cons rfl (V1.call rfl rfl rfl cok_78 rfl (Contains_ok _ _ c.files n hl) rfl (ltb rfl) ?_)
  rintro _ _ ⟨rfl, rfl⟩
  refine VO.cons rfl (V1.assign rfl rfl rfl (ltb rfl) ?_)
  refine VO.nil ?_
  refine V.ret ?_
  refine ⟨_, [], ⟨_, _, rfl, rfl, rfl⟩, List.nil_sublist _, rfl, rfl⟩

theorem toCartonS_ok (ρ rn : Nat) (l : List Carton) (hl : Small l) : Does Try.prog 23 [.vl ρ 5 (l.map (encCarton ρ))] [] rn (fun x H => x = .vl rn 5 (l.map (encCarton rn)) ∧ H = []) := by
  have hl1 := hl.1
  refine Does.intro (N := 23) Try.func23 rfl rfl rfl rfl ?_
  intro w0 S0
  refine V.seq ?_
  refine V.region ?_
  refine VO.cons rfl (V1.assign rfl rfl rfl (ltb rfl) ?_)
  refine VO.nil ?_
  refine V.seq ?_
  refine V.region ?_
  refine VO.cons rfl (V1.move rfl rfl rfl (ltb rfl) ?_)
  first | refine VO.cons rfl (V1.lenVl rfl rfl rfl rfl rfl rfl isl_31 (ltb rfl) ?_) | refine VO.cons rfl (V1.lenSref rfl rfl rfl rfl rfl rfl isl_31 (ltb rfl) ?_) | refine VO.cons rfl (V1.lenNils rfl rfl rfl rfl rfl rfl isl_31 (ltb rfl) ?_)
  refine VO.cons rfl (V1.makeSlice rfl rfl esz_34 eby_34 zk_27 rfl rfl (by (first | omega | (simp only [List.length_map, List.length_append, List.length_take, List.length_drop, List.length_replicate, List.length_set, Int.toNat_natCast] at *; omega) | (simp at *; omega))) (by (first | omega | (simp only [List.length_map, List.length_append, List.length_take, List.length_drop, List.length_replicate, List.length_set, Int.toNat_natCast] at *; omega) | (simp at *; omega))) (by (first | omega | (simp only [List.length_map, List.length_append, List.length_take, List.length_drop, List.length_replicate, List.length_set, Int.toNat_natCast] at *; omega) | (simp at *; omega))) rfl (ltb rfl) ?_)
  intro b7
  refine VO.weaken (Keeps.say 7 (y := .sref b7 5 0 l.length) rfl (by simp)) ?_
  refine VO.cons rfl (V1.assign rfl rfl rfl (ltb rfl) ?_)
  refine VO.nil ?_
  refine V.keep 23 [0, 3] [0] rfl (⟨_, _, rfl, rfl, ⟨_, _, rfl, rfl, rfl⟩⟩) (⟨_, _, rfl, rfl, rfl⟩) rfl ?_
  refine V.seq ?_
  refine V.seq ?_
  refine V.region ?_
  refine VO.cons rfl (V1.assign rfl rfl rfl (ltb rfl) ?_)
  refine VO.nil ?_
  refine V.block ?_
  refine V.weaken (Keeps.sayObj 0 (ys := (l.take 0).map (encCarton rn) ++ List.replicate (l.length - 0) (.agg [.int .i64 0, .int .i64 0, .int .i64 0, .nils, .int .i64 0])) rfl (by simp)) ?_
  refine V.keep 23 [4, 0, 3] [0] rfl (⟨_, _, rfl, rfl, ⟨_, _, rfl, rfl, ⟨_, _, rfl, rfl, rfl⟩⟩⟩) (⟨_, _, rfl, rfl, rfl⟩) rfl ?_
  refine V.loopE (D := Nat) (fun k => [(4, .int .i64 (k : Int))]) (fun k => [(b7, ⟨5, (l.take k).map (encCarton rn) ++ List.replicate (l.length - k) (.agg [.int .i64 0, .int .i64 0, .int .i64 0, .nils, .int .i64 0])⟩)]) (fun k => k ≤ l.length) (fun k => l.length - k) 0 rfl (by omega) ?_
  rintro k hk
  refine V.seq ?_
  refine V.seq ?_
  refine V.region ?_
  refine VO.cons rfl (V1.move rfl rfl rfl (ltb rfl) ?_)
  refine VO.cons rfl (V1.move rfl rfl rfl (ltb rfl) ?_)
  first | refine VO.cons rfl (V1.lenVl rfl rfl rfl rfl rfl rfl isl_31 (ltb rfl) ?_) | refine VO.cons rfl (V1.lenSref rfl rfl rfl rfl rfl rfl isl_31 (ltb rfl) ?_) | refine VO.cons rfl (V1.lenNils rfl rfl rfl rfl rfl rfl isl_31 (ltb rfl) ?_)
  refine VO.cons rfl (V1.int rfl rfl rfl rfl rfl (ltb rfl) ?_)
  refine VO.nil ?_
  refine V.keep 23 [0, 3, 4, 11] [0] rfl (⟨_, _, rfl, rfl, ⟨_, _, rfl, rfl, ⟨_, _, rfl, rfl, ⟨_, _, rfl, rfl, rfl⟩⟩⟩⟩) (⟨_, _, rfl, rfl, rfl⟩) rfl ?_
  refine V.cond rfl (fun hc0 => ?_) (fun hc0 => ?_)
  · skip
    have hcr0 := hc0
    try simp only [decide_eq_true_eq, decide_eq_false_iff_not, List.length_map, Bool.and_eq_true, Bool.or_eq_true, Bool.not_eq_true', Bool.not_eq_false', Bool.and_eq_false_iff, Bool.or_eq_false_iff, beq_iff_eq, bne_iff_ne, beq_eq_false_iff_ne, bne_eq_false_iff_eq, Int.not_lt, Int.not_le, ne_eq] at hc0
    refine V.skip ?_
    refine V.seq ?_
    refine V.block ?_
    refine V.region ?_
    refine VO.cons rfl (V1.move rfl rfl rfl (ltb rfl) ?_)
    refine VO.cons rfl (V1.move rfl rfl rfl (ltb rfl) ?_)
    refine VO.cons rfl (V1.move rfl rfl rfl (ltb rfl) ?_)
    refine VO.cons rfl (V1.move rfl rfl rfl (ltb rfl) ?_)
    refine VO.cons rfl (V1.indexMapN rfl rfl esz_31 rfl rfl (by omega) (ltb rfl) ?_)
    first | refine VO.cons rfl (V1.loadPinAll rfl rfl tyk_24 rfl rfl (ltb rfl) ?_) | refine VO.cons rfl (V1.loadRefAll (k := 0) rfl rfl tyk_24 rfl rfl rfl rfl rfl (ltb rfl) ?_) | refine VO.cons rfl (V1.loadRefAll (k := 1) rfl rfl tyk_24 rfl rfl rfl rfl rfl (ltb rfl) ?_) | refine VO.cons rfl (V1.loadRefAll (k := 2) rfl rfl tyk_24 rfl rfl rfl rfl rfl (ltb rfl) ?_)
    refine VO.cons rfl (V1.call rfl rfl rfl cok_18 rfl (toCarton_ok _ _ _ (hl.2 _ (getD_mem (by omega)))) rfl (ltb rfl) ?_)
    rintro _ _ ⟨rfl, rfl⟩
    refine VO.cons rfl (V1.indexSref rfl rfl esz_34 rfl rfl (by omega) (by omega) (ltb rfl) ?_)
    refine VO.weaken (Keeps.say 21 (y := .ref b7 5 k 0) rfl (by simp)) ?_
    refine VO.weaken (Keeps.say 21 (y := .ref b7 5 k 0) rfl (by simp)) ?_
    refine VO.cons rfl (V1.storeRefAll (k := 0) rfl rfl tyk_27 rfl rfl rfl rfl (fill_get (by omega)) rfl ?_)
    refine VO.nil ?_
    refine V.keep 23 [0, 3, 4] [0] rfl (⟨_, _, rfl, rfl, ⟨_, _, rfl, rfl, ⟨_, _, rfl, rfl, rfl⟩⟩⟩) (⟨_, _, rfl, rfl, rfl⟩) rfl ?_
    refine V.region ?_
    refine VO.cons rfl (V1.move rfl rfl rfl (ltb rfl) ?_)
    refine VO.cons rfl (V1.int rfl rfl rfl rfl rfl (ltb rfl) ?_)
    refine VO.cons rfl (V1.assign rfl rfl rfl (ltb rfl) ?_)
    refine VO.nil ?_
    refine ⟨k + 1, by omega, by omega, Keeps.mk (ks := [0]) rfl ⟨?_, rfl, rfl, trivial⟩ (⟨_, _, rfl, ?_, rfl⟩) rfl⟩
    · exact someInt (by simp (disch := omega) only [wrap64_id]; omega)
    · exact someObj (fill_set (f := encCarton rn) (by omega))
  · skip
    have hcr0 := hc0
    try simp only [decide_eq_true_eq, decide_eq_false_iff_not, List.length_map, Bool.and_eq_true, Bool.or_eq_true, Bool.not_eq_true', Bool.not_eq_false', Bool.and_eq_false_iff, Bool.or_eq_false_iff, beq_iff_eq, bne_iff_ne, beq_eq_false_iff_ne, bne_eq_false_iff_eq, Int.not_lt, Int.not_le, ne_eq] at hc0
    refine V.exit ?_
    refine V.seq ?_
    refine V.region ?_
    refine VO.cons rfl (V1.move rfl rfl rfl (ltb rfl) ?_)
    refine VO.cons rfl (V1.assign rfl rfl rfl (ltb rfl) ?_)
    obtain rfl : k = l.length := by omega
    refine VO.weaken (Keeps.freezeAll 2 0 rn rfl rfl rfl (by simp) (by simp [roL_iff, PV.ro, PV.roL]) (.inl rfl) (by simp)) ?_
    refine VO.nil ?_
    refine V.ret ?_
    exact ⟨_, [], ⟨_, _, rfl, rfl, rfl⟩, List.nil_sublist _, by simp [packPV], rfl⟩

theorem eqCartonS_ok (ρ ρ' rn : Nat) (l m : List Carton) (hl : Small l) (hm : Small m) : Does Try.prog 25 [.vl ρ 5 (l.map (encCarton ρ)), .vl ρ' 5 (m.map (encCarton ρ'))] [] rn (fun x H => x = .bool (decide (l = m)) ∧ H = []) := by
  have hl1 := hl.1
  have hm1 := hm.1
  refine Does.intro (N := 27) Try.func25 rfl rfl rfl rfl ?_
  intro w0 S0
  refine V.seq ?_
  refine V.region ?_
  refine VO.cons rfl (V1.assign rfl rfl rfl (ltb rfl) ?_)
  refine VO.nil ?_
  refine V.seq ?_
  refine V.seq ?_
  refine V.region ?_
  refine VO.cons rfl (V1.move rfl rfl rfl (ltb rfl) ?_)
  first | refine VO.cons rfl (V1.lenVl rfl rfl rfl rfl rfl rfl isl_34 (ltb rfl) ?_) | refine VO.cons rfl (V1.lenSref rfl rfl rfl rfl rfl rfl isl_34 (ltb rfl) ?_) | refine VO.cons rfl (V1.lenNils rfl rfl rfl rfl rfl rfl isl_34 (ltb rfl) ?_)
  refine VO.cons rfl (V1.move rfl rfl rfl (ltb rfl) ?_)
  first | refine VO.cons rfl (V1.lenVl rfl rfl rfl rfl rfl rfl isl_34 (ltb rfl) ?_) | refine VO.cons rfl (V1.lenSref rfl rfl rfl rfl rfl rfl isl_34 (ltb rfl) ?_) | refine VO.cons rfl (V1.lenNils rfl rfl rfl rfl rfl rfl isl_34 (ltb rfl) ?_)
  refine VO.cons rfl (V1.int rfl rfl rfl rfl rfl (ltb rfl) ?_)
  refine VO.nil ?_
  refine V.keep 27 [0, 1, 10] [] rfl (⟨_, _, rfl, rfl, ⟨_, _, rfl, rfl, ⟨_, _, rfl, rfl, rfl⟩⟩⟩) (rfl) rfl ?_
  refine V.cond rfl (fun hc0 => ?_) (fun hc0 => ?_)
  · skip
    have hcr0 := hc0
    try simp only [decide_eq_true_eq, decide_eq_false_iff_not, List.length_map, Bool.and_eq_true, Bool.or_eq_true, Bool.not_eq_true', Bool.not_eq_false', Bool.and_eq_false_iff, Bool.or_eq_false_iff, beq_iff_eq, bne_iff_ne, beq_eq_false_iff_ne, bne_eq_false_iff_eq, Int.not_lt, Int.not_le, ne_eq] at hc0
    refine V.seq ?_
    refine V.region ?_
    refine VO.cons rfl (V1.assign rfl rfl rfl (ltb rfl) ?_)
    refine VO.nil ?_
    refine V.ret ?_
    refine ⟨_, [], ⟨_, _, rfl, rfl, rfl⟩, List.nil_sublist _, ?_, rfl⟩
    exact congrArg PV.bool (decide_eq_false fun h => hc0 (by rw [h])).symm
  · skip
    have hcr0 := hc0
    try simp only [decide_eq_true_eq, decide_eq_false_iff_not, List.length_map, Bool.and_eq_true, Bool.or_eq_true, Bool.not_eq_true', Bool.not_eq_false', Bool.and_eq_false_iff, Bool.or_eq_false_iff, beq_iff_eq, bne_iff_ne, beq_eq_false_iff_ne, bne_eq_false_iff_eq, Int.not_lt, Int.not_le, ne_eq] at hc0
    refine V.skip ?_
    refine V.seq ?_
    refine V.seq ?_
    refine V.region ?_
    refine VO.cons rfl (V1.assign rfl rfl rfl (ltb rfl) ?_)
    refine VO.nil ?_
    refine V.block ?_
    refine V.keep 27 [5, 0, 1] [] rfl (⟨_, _, rfl, rfl, ⟨_, _, rfl, rfl, ⟨_, _, rfl, rfl, rfl⟩⟩⟩) (rfl) rfl ?_
    refine V.loopE (D := Nat) (fun k => [(5, .int .i64 (k : Int))]) (fun k => []) (fun k => k ≤ l.length ∧ l.take k = m.take k) (fun k => l.length - k) 0 rfl (⟨by omega, rfl⟩) ?_
    rintro k ⟨hk, hr⟩
    refine V.seq ?_
    refine V.seq ?_
    refine V.region ?_
    refine VO.cons rfl (V1.move rfl rfl rfl (ltb rfl) ?_)
    refine VO.cons rfl (V1.move rfl rfl rfl (ltb rfl) ?_)
    first | refine VO.cons rfl (V1.lenVl rfl rfl rfl rfl rfl rfl isl_34 (ltb rfl) ?_) | refine VO.cons rfl (V1.lenSref rfl rfl rfl rfl rfl rfl isl_34 (ltb rfl) ?_) | refine VO.cons rfl (V1.lenNils rfl rfl rfl rfl rfl rfl isl_34 (ltb rfl) ?_)
    refine VO.cons rfl (V1.int rfl rfl rfl rfl rfl (ltb rfl) ?_)
    refine VO.nil ?_
    refine V.keep 27 [0, 1, 5, 14] [] rfl (⟨_, _, rfl, rfl, ⟨_, _, rfl, rfl, ⟨_, _, rfl, rfl, ⟨_, _, rfl, rfl, rfl⟩⟩⟩⟩) (rfl) rfl ?_
    refine V.cond rfl (fun hc1 => ?_) (fun hc1 => ?_)
    · skip
      have hcr1 := hc1
      try simp only [decide_eq_true_eq, decide_eq_false_iff_not, List.length_map, Bool.and_eq_true, Bool.or_eq_true, Bool.not_eq_true', Bool.not_eq_false', Bool.and_eq_false_iff, Bool.or_eq_false_iff, beq_iff_eq, bne_iff_ne, beq_eq_false_iff_ne, bne_eq_false_iff_eq, Int.not_lt, Int.not_le, ne_eq] at hc1
      refine V.skip ?_
      refine V.seq ?_
      refine V.block ?_
      refine V.seq ?_
      refine V.regionM 27 8 [⟨[(0, none)], [], none⟩, ⟨[(5, none)], [], none⟩, ⟨[(17, some 1), (18, some 0)], [], none⟩, ⟨[(19, some 0)], [], none⟩, ⟨[(1, none)], [], none⟩, ⟨[(5, none)], [], none⟩, ⟨[(21, some 1), (22, some 0)], [], none⟩, ⟨[(23, some 0)], [], none⟩] [(0, none), (1, none), (5, none), (20, some 4), (24, some 0)] (⟨_, rfl, ⟨_, rfl, ⟨_, rfl, ⟨_, rfl, ⟨_, rfl, ⟨_, rfl, ⟨_, rfl, ⟨_, rfl, ⟨rfl, rfl⟩⟩⟩⟩⟩⟩⟩⟩⟩) mixed_orders rfl (by decide +kernel) (fun hck6 => ?_)
      refine VP.step (p := ?pv1) rfl rfl rfl (⟨_, _, rfl, rfl, rfl⟩) ?hv1 ?rest1 hck6
      case hv1 =>
        intro E1
        refine (V1.move rfl rfl rfl (ltb rfl) ?_)
        exact rfl
      refine VP.step (p := ?pv2) rfl rfl rfl (⟨_, _, rfl, rfl, rfl⟩) ?hv2 ?rest2 hck6
      case hv2 =>
        intro E1
        refine (V1.move rfl rfl rfl (ltb rfl) ?_)
        exact rfl
      refine VP.step (p := ?pv3) rfl rfl rfl (⟨_, _, rfl, rfl, ⟨_, _, rfl, rfl, rfl⟩⟩) ?hv3 ?rest3 hck6
      case hv3 =>
        intro E1
        first | refine (V1.indexMapN rfl rfl esz_34 rfl rfl (by omega) (ltb rfl) ?_) | refine (V1.indexMap rfl rfl esz_34 rfl rfl (by (first | omega | (simp only [List.length_map, List.length_append, List.length_take, List.length_drop, List.length_replicate, List.length_set, Int.toNat_natCast] at *; omega) | (simp at *; omega))) (by (first | omega | (simp only [List.length_map, List.length_append, List.length_take, List.length_drop, List.length_replicate, List.length_set, Int.toNat_natCast] at *; omega) | (simp at *; omega))) (ltb rfl) ?_) | refine (V1.indexSref rfl rfl esz_34 rfl rfl (by (first | omega | (simp only [List.length_map, List.length_append, List.length_take, List.length_drop, List.length_replicate, List.length_set, Int.toNat_natCast] at *; omega) | (simp at *; omega))) (by (first | omega | (simp only [List.length_map, List.length_append, List.length_take, List.length_drop, List.length_replicate, List.length_set, Int.toNat_natCast] at *; omega) | (simp at *; omega))) (ltb rfl) ?_)
        exact rfl
      refine VP.step (p := ?pv4) rfl rfl rfl (⟨_, _, rfl, rfl, rfl⟩) ?hv4 ?rest4 hck6
      case hv4 =>
        intro E1
        first | refine (V1.loadPinAll rfl rfl tyk_27 rfl rfl (ltb rfl) ?_) | refine (V1.loadRefAll (k := 0) rfl rfl tyk_27 rfl rfl rfl rfl rfl (ltb rfl) ?_) | refine (V1.loadRefAll (k := 1) rfl rfl tyk_27 rfl rfl rfl rfl rfl (ltb rfl) ?_) | refine (V1.loadRefAll (k := 2) rfl rfl tyk_27 rfl rfl rfl rfl rfl (ltb rfl) ?_)
        exact rfl
      refine VP.step (p := ?pv5) rfl rfl rfl (⟨_, _, rfl, rfl, rfl⟩) ?hv5 ?rest5 hck6
      case hv5 =>
        intro E1
        refine (V1.move rfl rfl rfl (ltb rfl) ?_)
        exact rfl
      refine VP.step (p := ?pv6) rfl rfl rfl (⟨_, _, rfl, rfl, rfl⟩) ?hv6 ?rest6 hck6
      case hv6 =>
        intro E1
        refine (V1.move rfl rfl rfl (ltb rfl) ?_)
        exact rfl
      refine VP.step (p := ?pv7) rfl rfl rfl (⟨_, _, rfl, rfl, ⟨_, _, rfl, rfl, rfl⟩⟩) ?hv7 ?rest7 hck6
      case hv7 =>
        intro E1
        first | refine (V1.indexMapN rfl rfl esz_34 rfl rfl (by omega) (ltb rfl) ?_) | refine (V1.indexMap rfl rfl esz_34 rfl rfl (by (first | omega | (simp only [List.length_map, List.length_append, List.length_take, List.length_drop, List.length_replicate, List.length_set, Int.toNat_natCast] at *; omega) | (simp at *; omega))) (by (first | omega | (simp only [List.length_map, List.length_append, List.length_take, List.length_drop, List.length_replicate, List.length_set, Int.toNat_natCast] at *; omega) | (simp at *; omega))) (ltb rfl) ?_) | refine (V1.indexSref rfl rfl esz_34 rfl rfl (by (first | omega | (simp only [List.length_map, List.length_append, List.length_take, List.length_drop, List.length_replicate, List.length_set, Int.toNat_natCast] at *; omega) | (simp at *; omega))) (by (first | omega | (simp only [List.length_map, List.length_append, List.length_take, List.length_drop, List.length_replicate, List.length_set, Int.toNat_natCast] at *; omega) | (simp at *; omega))) (ltb rfl) ?_)
        exact rfl
      refine VP.step (p := ?pv8) rfl rfl rfl (⟨_, _, rfl, rfl, rfl⟩) ?hv8 ?rest8 hck6
      case hv8 =>
        intro E1
        first | refine (V1.loadPinAll rfl rfl tyk_27 rfl rfl (ltb rfl) ?_) | refine (V1.loadRefAll (k := 0) rfl rfl tyk_27 rfl rfl rfl rfl rfl (ltb rfl) ?_) | refine (V1.loadRefAll (k := 1) rfl rfl tyk_27 rfl rfl rfl rfl rfl (ltb rfl) ?_) | refine (V1.loadRefAll (k := 2) rfl rfl tyk_27 rfl rfl rfl rfl rfl (ltb rfl) ?_)
        exact rfl
      refine VP.fin rfl (⟨_, _, rfl, rfl, ⟨_, _, rfl, rfl, ⟨_, _, rfl, rfl, ⟨_, _, rfl, rfl, ⟨_, _, rfl, rfl, rfl⟩⟩⟩⟩⟩) ?_
      refine VO.cons rfl (V1.call rfl rfl rfl cok_20 rfl (eqCarton_ok _ _ _ _ _ (hl.2 _ (getD_mem (by omega))) (hm.2 _ (getD_mem (by omega)))) rfl (ltb rfl) ?_)
      rintro _ _ ⟨rfl, rfl⟩
      refine VO.cons rfl (V1.not rfl rfl rfl (ltb rfl) ?_)
      refine VO.nil ?_
      refine V.keep 27 [0, 1, 5, 26] [] rfl (⟨_, _, rfl, rfl, ⟨_, _, rfl, rfl, ⟨_, _, rfl, rfl, ⟨_, _, rfl, rfl, rfl⟩⟩⟩⟩) (rfl) rfl ?_
      refine V.cond rfl (fun hc2 => ?_) (fun hc2 => ?_)
      · skip
        have hcr2 := hc2
        try simp only [decide_eq_true_eq, decide_eq_false_iff_not, List.length_map, Bool.and_eq_true, Bool.or_eq_true, Bool.not_eq_true', Bool.not_eq_false', Bool.and_eq_false_iff, Bool.or_eq_false_iff, beq_iff_eq, bne_iff_ne, beq_eq_false_iff_ne, bne_eq_false_iff_eq, Int.not_lt, Int.not_le, ne_eq] at hc2
        refine V.seq ?_
        refine V.region ?_
        refine VO.cons rfl (V1.assign rfl rfl rfl (ltb rfl) ?_)
        refine VO.nil ?_
        refine V.ret ?_
        refine ⟨_, [], ⟨_, _, rfl, rfl, rfl⟩, List.nil_sublist _, ?_, rfl⟩
        exact congrArg PV.bool (decide_eq_false fun h => hc2 (by rw [h])).symm
      · skip
        have hcr2 := hc2
        try simp only [decide_eq_true_eq, decide_eq_false_iff_not, List.length_map, Bool.and_eq_true, Bool.or_eq_true, Bool.not_eq_true', Bool.not_eq_false', Bool.and_eq_false_iff, Bool.or_eq_false_iff, beq_iff_eq, bne_iff_ne, beq_eq_false_iff_ne, bne_eq_false_iff_eq, Int.not_lt, Int.not_le, ne_eq] at hc2
        refine V.skip ?_
        refine V.region ?_
        refine VO.cons rfl (V1.move rfl rfl rfl (ltb rfl) ?_)
        refine VO.cons rfl (V1.int rfl rfl rfl rfl rfl (ltb rfl) ?_)
        refine VO.cons rfl (V1.assign rfl rfl rfl (ltb rfl) ?_)
        refine VO.nil ?_
        refine ⟨k + 1, ⟨by omega, by rw [take_succ_getD (by omega), take_succ_getD (by omega), hr, hc2]⟩, by omega, Keeps.mk (ks := []) rfl ⟨?_, rfl, rfl, trivial⟩ (rfl) rfl⟩
        · exact someInt (by simp (disch := omega) only [wrap64_id]; omega)
    · skip
      have hcr1 := hc1
      try simp only [decide_eq_true_eq, decide_eq_false_iff_not, List.length_map, Bool.and_eq_true, Bool.or_eq_true, Bool.not_eq_true', Bool.not_eq_false', Bool.and_eq_false_iff, Bool.or_eq_false_iff, beq_iff_eq, bne_iff_ne, beq_eq_false_iff_ne, bne_eq_false_iff_eq, Int.not_lt, Int.not_le, ne_eq] at hc1
      refine V.exit ?_
      refine V.seq ?_
      refine V.region ?_
      refine VO.cons rfl (V1.assign rfl rfl rfl (ltb rfl) ?_)
      refine VO.nil ?_
      refine V.ret ?_
      refine ⟨_, [], ⟨_, _, rfl, rfl, rfl⟩, List.nil_sublist _, ?_, rfl⟩
      exact congrArg PV.bool (decide_eq_true (by rw [List.take_of_length_le (by omega), List.take_of_length_le (by omega)] at hr; exact hr)).symm
end Go.Proofs.Ythaeehmkeiiidaa
