/- the cartons: one carton -/
import Derived.Test.YthaeehmkeiiidaaFacts
import Derived.Test.YthaeehmkeiiidaaPa
set_option linter.unusedSimpArgs false
set_option linter.unusedVariables false
set_option maxRecDepth 100000
namespace Go.Proofs.Ythaeehmkeiiidaa
open Go.VS

structure Carton where
  id : Int
  shelf : Int
  room : Int
  files : List Int
  thick : Int
  deriving Inhabited, DecidableEq

abbrev encCarton (ρ : Nat) (c : Carton) : PV := .agg [.int .i64 c.id, .int .i64 c.shelf, .int .i64 c.room, .vl ρ 1 (c.files.map encInt), .int .i64 c.thick]

def inB (n l h : Int) : Bool := decide (l ≤ n) && decide (n ≤ h)

theorem within_ok (rn : Nat) (n l h : Int) : Does Try.prog 75 [.int .i64 n, .int .i64 l, .int .i64 h] [] rn (fun x H => x = .bool (inB n l h) ∧ H = []) := by
  refine Does.intro (N := 15) Try.func75 rfl rfl rfl rfl ?_
  intro w0 S0
  refine V.seq ?_
  refine V.region ?_
  refine VO.cons rfl (V1.assign rfl rfl rfl (ltb rfl) ?_)
  refine VO.nil ?_
  refine V.seq ?_
  refine V.region ?_
  refine VO.cons rfl (V1.move rfl rfl rfl (ltb rfl) ?_)
  refine VO.cons rfl (V1.move rfl rfl rfl (ltb rfl) ?_)
  refine VO.cons rfl (V1.int rfl rfl rfl rfl rfl (ltb rfl) ?_)
  refine VO.cons rfl (V1.move rfl rfl rfl (ltb rfl) ?_)
  apply VO.and (n := 3) rfl rfl rfl rfl rfl rfl (ltb rfl) (.none rfl)
  · intro hg0
    refine VO.step (.some rfl rfl rfl) (V1.move rfl rfl rfl (ltb rfl) ?_)
    refine VO.step (.some rfl rfl rfl) (V1.move rfl rfl rfl (ltb rfl) ?_)
    refine VO.step (.some rfl rfl rfl) (V1.int rfl rfl rfl rfl rfl (ltb rfl) ?_)
    exact VO.nil ⟨rfl, rfl, rfl, rfl, .inr ⟨rfl, .inr ⟨rfl, .inr ⟨rfl, .inr ⟨rfl, .inl rfl⟩⟩⟩⟩⟩
  refine VO.cons rfl (V1.assign rfl rfl rfl (ltb rfl) ?_)
  refine VO.nil ?_
  refine V.ret ?_
  refine ⟨_, [], ⟨_, _, rfl, rfl, rfl⟩, List.nil_sublist _, rfl, rfl⟩

theorem l1In_ok (rn : Nat) (n l h : Int) : Does Try.prog 84 [.int .i64 n, .int .i64 l, .int .i64 h] [] rn (fun x H => x = .bool (inB n l h) ∧ H = []) := by
  refine Does.intro (N := 15) Try.func84 rfl rfl rfl rfl ?_
  intro w0 S0
  refine V.seq ?_
  refine V.region ?_
  refine VO.cons rfl (V1.assign rfl rfl rfl (ltb rfl) ?_)
  refine VO.nil ?_
  refine V.seq ?_
  refine V.region ?_
  refine VO.cons rfl (V1.move rfl rfl rfl (ltb rfl) ?_)
  refine VO.cons rfl (V1.move rfl rfl rfl (ltb rfl) ?_)
  refine VO.cons rfl (V1.int rfl rfl rfl rfl rfl (ltb rfl) ?_)
  refine VO.cons rfl (V1.move rfl rfl rfl (ltb rfl) ?_)
  apply VO.and (n := 3) rfl rfl rfl rfl rfl rfl (ltb rfl) (.none rfl)
  · intro hg0
    refine VO.step (.some rfl rfl rfl) (V1.move rfl rfl rfl (ltb rfl) ?_)
    refine VO.step (.some rfl rfl rfl) (V1.move rfl rfl rfl (ltb rfl) ?_)
    refine VO.step (.some rfl rfl rfl) (V1.int rfl rfl rfl rfl rfl (ltb rfl) ?_)
    exact VO.nil ⟨rfl, rfl, rfl, rfl, .inr ⟨rfl, .inr ⟨rfl, .inr ⟨rfl, .inr ⟨rfl, .inl rfl⟩⟩⟩⟩⟩
  refine VO.cons rfl (V1.assign rfl rfl rfl (ltb rfl) ?_)
  refine VO.nil ?_
  refine V.ret ?_
  refine ⟨_, [], ⟨_, _, rfl, rfl, rfl⟩, List.nil_sublist _, rfl, rfl⟩


theorem isId_ok (rn : Nat) (n : Int) : Does Try.prog 69 [.int .i64 n] [] rn (fun x H => x = .bool (inB n 1 99) ∧ H = []) := by
  refine Does.intro (N := 5) Try.func69 rfl rfl rfl rfl ?_
  intro w0 S0
  refine V.seq ?_
  refine V.region ?_
  refine VO.cons rfl (V1.assign rfl rfl rfl (ltb rfl) ?_)
  refine VO.nil ?_
  refine V.seq ?_
  refine V.region ?_
  refine VO.cons rfl (V1.move rfl rfl rfl (ltb rfl) ?_)
  refine VO.cons rfl (V1.call rfl rfl rfl cok_75 rfl (within_ok _ _ _ _) rfl (ltb rfl) ?_)
  rintro _ _ ⟨rfl, rfl⟩
  refine VO.cons rfl (V1.assign rfl rfl rfl (ltb rfl) ?_)
  refine VO.nil ?_
  refine V.ret ?_
  refine ⟨_, [], ⟨_, _, rfl, rfl, rfl⟩, List.nil_sublist _, rfl, rfl⟩

theorem isShelf_ok (rn : Nat) (n : Int) : Does Try.prog 70 [.int .i64 n] [] rn (fun x H => x = .bool (inB n 1 30) ∧ H = []) := by
  refine Does.intro (N := 5) Try.func70 rfl rfl rfl rfl ?_
  intro w0 S0
  refine V.seq ?_
  refine V.region ?_
  refine VO.cons rfl (V1.assign rfl rfl rfl (ltb rfl) ?_)
  refine VO.nil ?_
  refine V.seq ?_
  refine V.region ?_
  refine VO.cons rfl (V1.move rfl rfl rfl (ltb rfl) ?_)
  refine VO.cons rfl (V1.call rfl rfl rfl cok_75 rfl (within_ok _ _ _ _) rfl (ltb rfl) ?_)
  rintro _ _ ⟨rfl, rfl⟩
  refine VO.cons rfl (V1.assign rfl rfl rfl (ltb rfl) ?_)
  refine VO.nil ?_
  refine V.ret ?_
  refine ⟨_, [], ⟨_, _, rfl, rfl, rfl⟩, List.nil_sublist _, rfl, rfl⟩

theorem isRoom_ok (rn : Nat) (n : Int) : Does Try.prog 71 [.int .i64 n] [] rn (fun x H => x = .bool (inB n 1 9) ∧ H = []) := by
  refine Does.intro (N := 5) Try.func71 rfl rfl rfl rfl ?_
  intro w0 S0
  refine V.seq ?_
  refine V.region ?_
  refine VO.cons rfl (V1.assign rfl rfl rfl (ltb rfl) ?_)
  refine VO.nil ?_
  refine V.seq ?_
  refine V.region ?_
  refine VO.cons rfl (V1.move rfl rfl rfl (ltb rfl) ?_)
  refine VO.cons rfl (V1.call rfl rfl rfl cok_75 rfl (within_ok _ _ _ _) rfl (ltb rfl) ?_)
  rintro _ _ ⟨rfl, rfl⟩
  refine VO.cons rfl (V1.assign rfl rfl rfl (ltb rfl) ?_)
  refine VO.nil ?_
  refine V.ret ?_
  refine ⟨_, [], ⟨_, _, rfl, rfl, rfl⟩, List.nil_sublist _, rfl, rfl⟩

theorem l18Place_ok (rn : Nat) (r s : Int) : Does Try.prog 80 [.int .i64 r, .int .i64 s] [] rn (fun x H => x = .bool (inB r 1 9 && inB s 1 30) ∧ H = []) := by
  refine Does.intro (N := 11) Try.func80 rfl rfl rfl rfl ?_
  intro w0 S0
  refine V.seq ?_
  refine V.region ?_
  refine VO.cons rfl (V1.assign rfl rfl rfl (ltb rfl) ?_)
  refine VO.nil ?_
  refine V.seq ?_
  refine V.region ?_
  refine VO.cons rfl (V1.move rfl rfl rfl (ltb rfl) ?_)
  refine VO.cons rfl (V1.call rfl rfl rfl cok_84 rfl (l1In_ok _ _ _ _) rfl (ltb rfl) ?_)
  rintro _ _ ⟨rfl, rfl⟩
  refine VO.cons rfl (V1.move rfl rfl rfl (ltb rfl) ?_)
  apply VO.and (n := 2) rfl rfl rfl rfl rfl rfl (ltb rfl) (.none rfl)
  · intro hg0
    refine VO.step (.some rfl rfl rfl) (V1.move rfl rfl rfl (ltb rfl) ?_)
    refine VO.step (.some rfl rfl rfl) (V1.call rfl rfl rfl cok_84 rfl (l1In_ok _ _ _ _) rfl (ltb rfl) ?_)
    rintro _ _ ⟨rfl, rfl⟩
    exact VO.nil ⟨rfl, rfl, rfl, rfl, .inr ⟨rfl, .inr ⟨rfl, .inr ⟨rfl, .inl rfl⟩⟩⟩⟩
  refine VO.cons rfl (V1.assign rfl rfl rfl (ltb rfl) ?_)
  refine VO.nil ?_
  refine V.ret ?_
  refine ⟨_, [], ⟨_, _, rfl, rfl, rfl⟩, List.nil_sublist _, rfl, rfl⟩

def risAt (l : List Int) (k : Nat) : Bool := !(decide (k > 0) && decide (l.getD (k - 1) default ≥ l.getD k default))
def risB (l : List Int) : Bool := (List.range l.length).all (risAt l)

theorem risB_false {l : List Int} {k : Nat} (h0 : 1 ≤ k) (h : (k : Int) < l.length) (h1 : l.getD k default ≤ l.getD (k - 1) default) : risB l = false :=
  all_range_false (k := k) (by omega) (by simp only [risAt]; rw [decide_eq_true (by omega), decide_eq_true h1]; rfl)

theorem risAt_true {l : List Int} {k : Nat} (h1 : l.getD (k - 1) default < l.getD k default) : risAt l k = true := by
  simp only [risAt]; rw [decide_eq_false (p := l.getD (k - 1) default ≥ _) (by omega)]; simp

theorem areRising_ok (ρ rn : Nat) (l : List Int) (hl : l.length ≤ 1048576) : Does Try.prog 72 [.vl ρ 1 (l.map encInt)] [] rn (fun x H => x = .bool (risB l) ∧ H = []) := by
  refine Does.intro (N := 20) Try.func72 rfl rfl rfl rfl ?_
  intro w0 S0
  refine V.seq ?_
  refine V.region ?_
  refine VO.cons rfl (V1.assign rfl rfl rfl (ltb rfl) ?_)
  refine VO.nil ?_
  refine V.seq ?_
  refine V.seq ?_
  refine V.region ?_
  refine VO.cons rfl (V1.assign rfl rfl rfl (ltb rfl) ?_)
  refine VO.nil ?_
  refine V.block ?_
  refine V.keep 20 [3, 0] [] rfl (⟨_, _, rfl, rfl, ⟨_, _, rfl, rfl, rfl⟩⟩) (rfl) rfl ?_
  refine V.loopE (D := Nat) (fun k => [(3, .int .i64 (k : Int))]) (fun k => []) (fun k => 1 ≤ k ∧ (k ≤ l.length ∨ k = 1) ∧ (List.range k).all (risAt l) = true) (fun k => l.length - k) 1 rfl (⟨by omega, by omega, by simp [risAt]⟩) ?_
  rintro k ⟨hk1, hk, hr⟩
  refine V.seq ?_
  refine V.seq ?_
  refine V.region ?_
  refine VO.cons rfl (V1.move rfl rfl rfl (ltb rfl) ?_)
  refine VO.cons rfl (V1.move rfl rfl rfl (ltb rfl) ?_)
  first | refine VO.cons rfl (V1.lenVl rfl rfl rfl rfl rfl rfl isl_22 (ltb rfl) ?_) | refine VO.cons rfl (V1.lenSref rfl rfl rfl rfl rfl rfl isl_22 (ltb rfl) ?_) | refine VO.cons rfl (V1.lenNils rfl rfl rfl rfl rfl rfl isl_22 (ltb rfl) ?_)
  refine VO.cons rfl (V1.int rfl rfl rfl rfl rfl (ltb rfl) ?_)
  refine VO.nil ?_
  refine V.keep 20 [0, 3, 7] [] rfl (⟨_, _, rfl, rfl, ⟨_, _, rfl, rfl, ⟨_, _, rfl, rfl, rfl⟩⟩⟩) (rfl) rfl ?_
  refine V.cond rfl (fun hc0 => ?_) (fun hc0 => ?_)
  · skip
    have hcr0 := hc0
    try simp only [decide_eq_true_eq, decide_eq_false_iff_not, List.length_map, Bool.and_eq_true, Bool.or_eq_true, Bool.not_eq_true', Bool.not_eq_false', Bool.and_eq_false_iff, Bool.or_eq_false_iff, beq_iff_eq, bne_iff_ne, beq_eq_false_iff_ne, bne_eq_false_iff_eq, Int.not_lt, Int.not_le, ne_eq] at hc0
    refine V.skip ?_
    refine V.seq ?_
    refine V.block ?_
    refine V.seq ?_
    refine V.regionM 20 9 [⟨[(0, none)], [], none⟩, ⟨[(3, none)], [], none⟩, ⟨[(11, some 0)], [], none⟩, ⟨[(10, some 2), (12, some 0)], [], none⟩, ⟨[(13, some 0)], [], none⟩, ⟨[(0, none)], [], none⟩, ⟨[(3, none)], [], none⟩, ⟨[(15, some 1), (16, some 0)], [], none⟩, ⟨[(17, some 0)], [], none⟩] [(0, none), (3, none), (14, some 4), (18, some 0)] (⟨_, rfl, ⟨_, rfl, ⟨_, rfl, ⟨_, rfl, ⟨_, rfl, ⟨_, rfl, ⟨_, rfl, ⟨_, rfl, ⟨_, rfl, ⟨rfl, rfl⟩⟩⟩⟩⟩⟩⟩⟩⟩⟩) mixed_orders rfl (by decide +kernel) (fun hck4 => ?_)
    refine VP.step (p := ?pv1) rfl rfl rfl (⟨_, _, rfl, rfl, rfl⟩) ?hv1 ?rest1 hck4
    case hv1 =>
      intro E1
      refine (V1.move rfl rfl rfl (ltb rfl) ?_)
      exact rfl
    refine VP.step (p := ?pv2) rfl rfl rfl (⟨_, _, rfl, rfl, rfl⟩) ?hv2 ?rest2 hck4
    case hv2 =>
      intro E1
      refine (V1.move rfl rfl rfl (ltb rfl) ?_)
      exact rfl
    refine VP.step (p := ?pv3) rfl rfl rfl (⟨_, _, rfl, rfl, rfl⟩) ?hv3 ?rest3 hck4
    case hv3 =>
      intro E1
      refine (V1.int rfl rfl rfl rfl rfl (ltb rfl) ?_)
      refine putEq (y := .int .i64 ((k - 1 : Nat) : Int)) ?_
      exact (by rw [wrap64_id (by omega) (by omega)]; congr 1; omega)
    refine VP.step (p := ?pv4) rfl rfl rfl (⟨_, _, rfl, rfl, ⟨_, _, rfl, rfl, rfl⟩⟩) ?hv4 ?rest4 hck4
    case hv4 =>
      intro E1
      first | refine (V1.indexMapN rfl rfl esz_22 rfl rfl (by omega) (ltb rfl) ?_) | refine (V1.indexMap rfl rfl esz_22 rfl rfl (by (first | omega | (simp only [List.length_map, List.length_append, List.length_take, List.length_drop, List.length_replicate, List.length_set, Int.toNat_natCast] at *; omega) | (simp at *; omega))) (by (first | omega | (simp only [List.length_map, List.length_append, List.length_take, List.length_drop, List.length_replicate, List.length_set, Int.toNat_natCast] at *; omega) | (simp at *; omega))) (ltb rfl) ?_) | refine (V1.indexSref rfl rfl esz_22 rfl rfl (by (first | omega | (simp only [List.length_map, List.length_append, List.length_take, List.length_drop, List.length_replicate, List.length_set, Int.toNat_natCast] at *; omega) | (simp at *; omega))) (by (first | omega | (simp only [List.length_map, List.length_append, List.length_take, List.length_drop, List.length_replicate, List.length_set, Int.toNat_natCast] at *; omega) | (simp at *; omega))) (ltb rfl) ?_)
      exact rfl
    refine VP.step (p := ?pv5) rfl rfl rfl (⟨_, _, rfl, rfl, rfl⟩) ?hv5 ?rest5 hck4
    case hv5 =>
      intro E1
      first | refine (V1.loadPin rfl rfl tyk_3 rfl rfl (ltb rfl) ?_) | refine (V1.loadRef (k := 0) rfl rfl tyk_3 rfl rfl rfl rfl rfl (ltb rfl) ?_) | refine (V1.loadRef (k := 1) rfl rfl tyk_3 rfl rfl rfl rfl rfl (ltb rfl) ?_) | refine (V1.loadRef (k := 2) rfl rfl tyk_3 rfl rfl rfl rfl rfl (ltb rfl) ?_)
      exact rfl
    refine VP.step (p := ?pv6) rfl rfl rfl (⟨_, _, rfl, rfl, rfl⟩) ?hv6 ?rest6 hck4
    case hv6 =>
      intro E1
      refine (V1.move rfl rfl rfl (ltb rfl) ?_)
      exact rfl
    refine VP.step (p := ?pv7) rfl rfl rfl (⟨_, _, rfl, rfl, rfl⟩) ?hv7 ?rest7 hck4
    case hv7 =>
      intro E1
      refine (V1.move rfl rfl rfl (ltb rfl) ?_)
      exact rfl
    refine VP.step (p := ?pv8) rfl rfl rfl (⟨_, _, rfl, rfl, ⟨_, _, rfl, rfl, rfl⟩⟩) ?hv8 ?rest8 hck4
    case hv8 =>
      intro E1
      first | refine (V1.indexMapN rfl rfl esz_22 rfl rfl (by omega) (ltb rfl) ?_) | refine (V1.indexMap rfl rfl esz_22 rfl rfl (by (first | omega | (simp only [List.length_map, List.length_append, List.length_take, List.length_drop, List.length_replicate, List.length_set, Int.toNat_natCast] at *; omega) | (simp at *; omega))) (by (first | omega | (simp only [List.length_map, List.length_append, List.length_take, List.length_drop, List.length_replicate, List.length_set, Int.toNat_natCast] at *; omega) | (simp at *; omega))) (ltb rfl) ?_) | refine (V1.indexSref rfl rfl esz_22 rfl rfl (by (first | omega | (simp only [List.length_map, List.length_append, List.length_take, List.length_drop, List.length_replicate, List.length_set, Int.toNat_natCast] at *; omega) | (simp at *; omega))) (by (first | omega | (simp only [List.length_map, List.length_append, List.length_take, List.length_drop, List.length_replicate, List.length_set, Int.toNat_natCast] at *; omega) | (simp at *; omega))) (ltb rfl) ?_)
      exact rfl
    refine VP.step (p := ?pv9) rfl rfl rfl (⟨_, _, rfl, rfl, rfl⟩) ?hv9 ?rest9 hck4
    case hv9 =>
      intro E1
      first | refine (V1.loadPin rfl rfl tyk_3 rfl rfl (ltb rfl) ?_) | refine (V1.loadRef (k := 0) rfl rfl tyk_3 rfl rfl rfl rfl rfl (ltb rfl) ?_) | refine (V1.loadRef (k := 1) rfl rfl tyk_3 rfl rfl rfl rfl rfl (ltb rfl) ?_) | refine (V1.loadRef (k := 2) rfl rfl tyk_3 rfl rfl rfl rfl rfl (ltb rfl) ?_)
      exact rfl
    refine VP.fin rfl (⟨_, _, rfl, rfl, ⟨_, _, rfl, rfl, ⟨_, _, rfl, rfl, ⟨_, _, rfl, rfl, rfl⟩⟩⟩⟩) ?_
    refine VO.cons rfl (V1.int rfl rfl rfl rfl rfl (ltb rfl) ?_)
    refine VO.nil ?_
    refine V.keep 20 [0, 3, 19] [] rfl (⟨_, _, rfl, rfl, ⟨_, _, rfl, rfl, ⟨_, _, rfl, rfl, rfl⟩⟩⟩) (rfl) rfl ?_
    refine V.cond rfl (fun hc1 => ?_) (fun hc1 => ?_)
    · skip
      have hcr1 := hc1
      try simp only [decide_eq_true_eq, decide_eq_false_iff_not, List.length_map, Bool.and_eq_true, Bool.or_eq_true, Bool.not_eq_true', Bool.not_eq_false', Bool.and_eq_false_iff, Bool.or_eq_false_iff, beq_iff_eq, bne_iff_ne, beq_eq_false_iff_ne, bne_eq_false_iff_eq, Int.not_lt, Int.not_le, ne_eq] at hc1
      refine V.seq ?_
      refine V.region ?_
      refine VO.cons rfl (V1.assign rfl rfl rfl (ltb rfl) ?_)
      refine VO.nil ?_
      refine V.ret ?_
      refine ⟨_, [], ⟨_, _, rfl, rfl, rfl⟩, List.nil_sublist _, ?_, rfl⟩
      exact congrArg PV.bool (risB_false hk1 hc0 hc1).symm
    · skip
      have hcr1 := hc1
      try simp only [decide_eq_true_eq, decide_eq_false_iff_not, List.length_map, Bool.and_eq_true, Bool.or_eq_true, Bool.not_eq_true', Bool.not_eq_false', Bool.and_eq_false_iff, Bool.or_eq_false_iff, beq_iff_eq, bne_iff_ne, beq_eq_false_iff_ne, bne_eq_false_iff_eq, Int.not_lt, Int.not_le, ne_eq] at hc1
      refine V.skip ?_
      refine V.region ?_
      refine VO.cons rfl (V1.move rfl rfl rfl (ltb rfl) ?_)
      refine VO.cons rfl (V1.int rfl rfl rfl rfl rfl (ltb rfl) ?_)
      refine VO.cons rfl (V1.assign rfl rfl rfl (ltb rfl) ?_)
      refine VO.nil ?_
      refine ⟨k + 1, ⟨by omega, by omega, by rw [all_range_succ, hr, risAt_true hc1]; rfl⟩, by omega, Keeps.mk (ks := []) rfl ⟨?_, rfl, trivial⟩ (rfl) rfl⟩
      · exact someInt (by simp (disch := omega) only [wrap64_id]; omega)
  · skip
    have hcr0 := hc0
    try simp only [decide_eq_true_eq, decide_eq_false_iff_not, List.length_map, Bool.and_eq_true, Bool.or_eq_true, Bool.not_eq_true', Bool.not_eq_false', Bool.and_eq_false_iff, Bool.or_eq_false_iff, beq_iff_eq, bne_iff_ne, beq_eq_false_iff_ne, bne_eq_false_iff_eq, Int.not_lt, Int.not_le, ne_eq] at hc0
    refine V.exit ?_
    refine V.seq ?_
    refine V.region ?_
    refine VO.cons rfl (V1.assign rfl rfl rfl (ltb rfl) ?_)
    refine VO.nil ?_
    refine V.ret ?_
    refine ⟨_, [], ⟨_, _, rfl, rfl, rfl⟩, List.nil_sublist _, ?_, rfl⟩
    obtain ⟨rfl, rfl⟩ | h : (l = [] ∧ k = 1) ∨ k = l.length := by (rcases hk with h | h; (right; omega); (rcases Nat.eq_zero_or_pos l.length with h1 | h1; (left; exact ⟨List.eq_nil_of_length_eq_zero h1, h⟩); (right; omega)))
    · rfl
    · subst h; exact congrArg PV.bool hr.symm

def l1RisAt (l : List Int) (a b : Int) (k : Nat) : Bool := !(!(inB (l.getD k default) a b) || decide ((k : Int) > 0) && decide (l.getD (k - 1) default ≥ l.getD k default))
def l1RisB (l : List Int) (a b : Int) : Bool := (List.range l.length).all (l1RisAt l a b)

theorem l1Rising_ok (ρ rn : Nat) (l : List Int) (a b : Int) (hl : l.length ≤ 1048576) : Does Try.prog 89 [.vl ρ 1 (l.map encInt), .int .i64 a, .int .i64 b] [] rn (fun x H => x = .bool (l1RisB l a b) ∧ H = []) := by
  refine Does.intro (N := 38) Try.func89 rfl rfl rfl rfl ?_
  intro w0 S0
  refine V.seq ?_
  refine V.region ?_
  refine VO.cons rfl (V1.assign rfl rfl rfl (ltb rfl) ?_)
  refine VO.nil ?_
  refine V.seq ?_
  refine V.seq ?_
  refine V.region ?_
  refine VO.cons rfl (V1.assign rfl rfl rfl (ltb rfl) ?_)
  refine VO.nil ?_
  refine V.block ?_
  refine V.keep 38 [7, 0, 1, 2] [] rfl (⟨_, _, rfl, rfl, ⟨_, _, rfl, rfl, ⟨_, _, rfl, rfl, ⟨_, _, rfl, rfl, rfl⟩⟩⟩⟩) (rfl) rfl ?_
  refine V.loopE (D := Nat) (fun k => [(7, .int .i64 (k : Int))]) (fun k => []) (fun k => k ≤ l.length ∧ (List.range k).all (l1RisAt l a b) = true) (fun k => l.length - k) 0 rfl (⟨by omega, rfl⟩) ?_
  rintro k ⟨hk, hr⟩
  refine V.seq ?_
  refine V.seq ?_
  refine V.region ?_
  refine VO.cons rfl (V1.move rfl rfl rfl (ltb rfl) ?_)
  refine VO.cons rfl (V1.move rfl rfl rfl (ltb rfl) ?_)
  first | refine VO.cons rfl (V1.lenVl rfl rfl rfl rfl rfl rfl isl_22 (ltb rfl) ?_) | refine VO.cons rfl (V1.lenSref rfl rfl rfl rfl rfl rfl isl_22 (ltb rfl) ?_) | refine VO.cons rfl (V1.lenNils rfl rfl rfl rfl rfl rfl isl_22 (ltb rfl) ?_)
  refine VO.cons rfl (V1.int rfl rfl rfl rfl rfl (ltb rfl) ?_)
  refine VO.nil ?_
  refine V.keep 38 [0, 1, 2, 7, 11] [] rfl (⟨_, _, rfl, rfl, ⟨_, _, rfl, rfl, ⟨_, _, rfl, rfl, ⟨_, _, rfl, rfl, ⟨_, _, rfl, rfl, rfl⟩⟩⟩⟩⟩) (rfl) rfl ?_
  refine V.cond rfl (fun hc0 => ?_) (fun hc0 => ?_)
  · skip
    have hcr0 := hc0
    try simp only [decide_eq_true_eq, decide_eq_false_iff_not, List.length_map, Bool.and_eq_true, Bool.or_eq_true, Bool.not_eq_true', Bool.not_eq_false', Bool.and_eq_false_iff, Bool.or_eq_false_iff, beq_iff_eq, bne_iff_ne, beq_eq_false_iff_ne, bne_eq_false_iff_eq, Int.not_lt, Int.not_le, ne_eq] at hc0
    refine V.skip ?_
    refine V.seq ?_
    refine V.block ?_
    refine V.seq ?_
    refine V.regionM 38 24 [⟨[(0, none)], [], none⟩, ⟨[(7, none)], [], none⟩, ⟨[(14, some 1), (15, some 0)], [], none⟩, ⟨[(16, some 0)], [], none⟩, ⟨[(1, none)], [], none⟩, ⟨[(2, none)], [], none⟩, ⟨[(17, some 2), (18, some 1), (19, some 0)], [], none⟩, ⟨[(20, some 0)], [], none⟩, ⟨[(21, some 0)], [], none⟩, ⟨[(7, none)], [(0, false)], none⟩, ⟨[(23, some 0)], [(1, false)], none⟩, ⟨[(24, some 0)], [(2, false)], none⟩, ⟨[(0, none)], [(0, true), (3, false)], none⟩, ⟨[(7, none)], [(1, true), (4, false)], none⟩, ⟨[(27, some 0)], [(2, true), (5, false)], none⟩, ⟨[(26, some 2), (28, some 0)], [(3, true), (6, false)], none⟩, ⟨[(29, some 0)], [(4, true), (7, false)], none⟩, ⟨[(0, none)], [(5, true), (8, false)], none⟩, ⟨[(7, none)], [(6, true), (9, false)], none⟩, ⟨[(31, some 1), (32, some 0)], [(7, true), (10, false)], none⟩, ⟨[(33, some 0)], [(8, true), (11, false)], none⟩, ⟨[(30, some 4), (34, some 0)], [(9, true), (12, false)], none⟩, ⟨[], [(13, false)], some (true, 25, 35, 10, 0)⟩, ⟨[], [], some (false, 22, 36, 14, 0)⟩] [(0, none), (1, none), (2, none), (7, none), (37, some 0)] (⟨_, rfl, ⟨_, rfl, ⟨_, rfl, ⟨_, rfl, ⟨_, rfl, ⟨_, rfl, ⟨_, rfl, ⟨_, rfl, ⟨_, rfl, ⟨_, rfl, ⟨_, rfl, ⟨_, rfl, ⟨_, rfl, ⟨_, rfl, ⟨_, rfl, ⟨_, rfl, ⟨_, rfl, ⟨_, rfl, ⟨_, rfl, ⟨_, rfl, ⟨_, rfl, ⟨_, rfl, ⟨_, rfl, ⟨_, rfl, ⟨rfl, rfl⟩⟩⟩⟩⟩⟩⟩⟩⟩⟩⟩⟩⟩⟩⟩⟩⟩⟩⟩⟩⟩⟩⟩⟩⟩) mixed_orders rfl (by decide +kernel) (fun hck4 => ?_)
    refine VP.step (p := ?pv1) rfl rfl rfl (⟨_, _, rfl, rfl, rfl⟩) ?hv1 ?rest1 hck4
    case hv1 =>
      intro E1
      refine (V1.move rfl rfl rfl (ltb rfl) ?_)
      exact rfl
    refine VP.step (p := ?pv2) rfl rfl rfl (⟨_, _, rfl, rfl, rfl⟩) ?hv2 ?rest2 hck4
    case hv2 =>
      intro E1
      refine (V1.move rfl rfl rfl (ltb rfl) ?_)
      exact rfl
    refine VP.step (p := ?pv3) rfl rfl rfl (⟨_, _, rfl, rfl, ⟨_, _, rfl, rfl, rfl⟩⟩) ?hv3 ?rest3 hck4
    case hv3 =>
      intro E1
      first | refine (V1.indexMapN rfl rfl esz_22 rfl rfl (by omega) (ltb rfl) ?_) | refine (V1.indexMap rfl rfl esz_22 rfl rfl (by (first | omega | (simp only [List.length_map, List.length_append, List.length_take, List.length_drop, List.length_replicate, List.length_set, Int.toNat_natCast] at *; omega) | (simp at *; omega))) (by (first | omega | (simp only [List.length_map, List.length_append, List.length_take, List.length_drop, List.length_replicate, List.length_set, Int.toNat_natCast] at *; omega) | (simp at *; omega))) (ltb rfl) ?_) | refine (V1.indexSref rfl rfl esz_22 rfl rfl (by (first | omega | (simp only [List.length_map, List.length_append, List.length_take, List.length_drop, List.length_replicate, List.length_set, Int.toNat_natCast] at *; omega) | (simp at *; omega))) (by (first | omega | (simp only [List.length_map, List.length_append, List.length_take, List.length_drop, List.length_replicate, List.length_set, Int.toNat_natCast] at *; omega) | (simp at *; omega))) (ltb rfl) ?_)
      exact rfl
    refine VP.step (p := ?pv4) rfl rfl rfl (⟨_, _, rfl, rfl, rfl⟩) ?hv4 ?rest4 hck4
    case hv4 =>
      intro E1
      first | refine (V1.loadPin rfl rfl tyk_3 rfl rfl (ltb rfl) ?_) | refine (V1.loadRef (k := 0) rfl rfl tyk_3 rfl rfl rfl rfl rfl (ltb rfl) ?_) | refine (V1.loadRef (k := 1) rfl rfl tyk_3 rfl rfl rfl rfl rfl (ltb rfl) ?_) | refine (V1.loadRef (k := 2) rfl rfl tyk_3 rfl rfl rfl rfl rfl (ltb rfl) ?_)
      exact rfl
    refine VP.step (p := ?pv5) rfl rfl rfl (⟨_, _, rfl, rfl, rfl⟩) ?hv5 ?rest5 hck4
    case hv5 =>
      intro E1
      refine (V1.move rfl rfl rfl (ltb rfl) ?_)
      exact rfl
    refine VP.step (p := ?pv6) rfl rfl rfl (⟨_, _, rfl, rfl, rfl⟩) ?hv6 ?rest6 hck4
    case hv6 =>
      intro E1
      refine (V1.move rfl rfl rfl (ltb rfl) ?_)
      exact rfl
    refine VP.step (p := ?pv7) rfl rfl rfl (⟨_, _, rfl, rfl, ⟨_, _, rfl, rfl, ⟨_, _, rfl, rfl, rfl⟩⟩⟩) ?hv7 ?rest7 hck4
    case hv7 =>
      intro E1
      refine (V1.call rfl rfl rfl cok_84 rfl (l1In_ok _ _ _ _) rfl (ltb rfl) ?_)
      rintro _ _ ⟨rfl, rfl⟩
      exact rfl
    refine VP.step (p := ?pv8) rfl rfl rfl (⟨_, _, rfl, rfl, rfl⟩) ?hv8 ?rest8 hck4
    case hv8 =>
      intro E1
      refine (V1.not rfl rfl rfl (ltb rfl) ?_)
      exact rfl
    refine VP.step (p := ?pv9) rfl rfl rfl (⟨_, _, rfl, rfl, rfl⟩) ?hv9 ?rest9 hck4
    case hv9 =>
      intro E1
      refine (V1.move rfl rfl rfl (ltb rfl) ?_)
      exact rfl
    refine VP.step (p := ?pv10) rfl rfl rfl (⟨_, _, rfl, rfl, rfl⟩) ?hv10 ?rest10 hck4
    case hv10 =>
      refine ⟨_, rfl, fun hg1 => ?_⟩
      intro E1
      refine (V1.move rfl rfl rfl (ltb rfl) ?_)
      exact rfl
    refine VP.step (p := ?pv11) rfl rfl rfl (⟨_, _, rfl, rfl, rfl⟩) ?hv11 ?rest11 hck4
    case hv11 =>
      refine ⟨_, rfl, fun hg1 => ?_⟩
      intro E1
      refine (V1.int rfl rfl rfl rfl rfl (ltb rfl) ?_)
      exact rfl
    refine VP.step (p := ?pv12) rfl rfl rfl (⟨_, _, rfl, rfl, rfl⟩) ?hv12 ?rest12 hck4
    case hv12 =>
      refine ⟨_, rfl, fun hg1 => ?_⟩
      intro E1
      refine (V1.move rfl rfl rfl (ltb rfl) ?_)
      exact rfl
    refine VP.step (p := ?pv13) rfl rfl rfl (⟨_, _, rfl, rfl, rfl⟩) ?hv13 ?rest13 hck4
    case hv13 =>
      refine ⟨_, rfl, fun hg2 => ?_⟩
      refine ⟨_, rfl, fun hg1 => ?_⟩
      intro E1
      refine (V1.move rfl rfl rfl (ltb rfl) ?_)
      exact rfl
    refine VP.step (p := ?pv14) rfl rfl rfl (⟨_, _, rfl, rfl, rfl⟩) ?hv14 ?rest14 hck4
    case hv14 =>
      refine ⟨_, rfl, fun hg2 => ?_⟩
      refine ⟨_, rfl, fun hg1 => ?_⟩
      intro E1
      refine (V1.move rfl rfl rfl (ltb rfl) ?_)
      exact rfl
    refine VP.step (p := ?pv15) rfl rfl rfl (⟨_, _, rfl, rfl, rfl⟩) ?hv15 ?rest15 hck4
    case hv15 =>
      refine ⟨_, rfl, fun hg2 => ?_⟩
      refine ⟨_, rfl, fun hg1 => ?_⟩
      intro E1
      refine (V1.int rfl rfl rfl rfl rfl (ltb rfl) ?_)
      refine putEq (y := .int .i64 ((k - 1 : Nat) : Int)) ?_
      exact (by simp at hg2; rw [wrap64_id (by omega) (by omega)]; congr 1; omega)
    refine VP.step (p := ?pv16) rfl rfl rfl (⟨_, _, rfl, rfl, ⟨_, _, rfl, rfl, rfl⟩⟩) ?hv16 ?rest16 hck4
    case hv16 =>
      refine ⟨_, rfl, fun hg2 => ?_⟩
      refine ⟨_, rfl, fun hg1 => ?_⟩
      intro E1
      first | refine (V1.indexMapN rfl rfl esz_22 rfl rfl (by omega) (ltb rfl) ?_) | refine (V1.indexMap rfl rfl esz_22 rfl rfl (by (first | omega | (simp only [List.length_map, List.length_append, List.length_take, List.length_drop, List.length_replicate, List.length_set, Int.toNat_natCast] at *; omega) | (simp at *; omega))) (by (first | omega | (simp only [List.length_map, List.length_append, List.length_take, List.length_drop, List.length_replicate, List.length_set, Int.toNat_natCast] at *; omega) | (simp at *; omega))) (ltb rfl) ?_) | refine (V1.indexSref rfl rfl esz_22 rfl rfl (by (first | omega | (simp only [List.length_map, List.length_append, List.length_take, List.length_drop, List.length_replicate, List.length_set, Int.toNat_natCast] at *; omega) | (simp at *; omega))) (by (first | omega | (simp only [List.length_map, List.length_append, List.length_take, List.length_drop, List.length_replicate, List.length_set, Int.toNat_natCast] at *; omega) | (simp at *; omega))) (ltb rfl) ?_)
      exact rfl
    refine VP.step (p := ?pv17) rfl rfl rfl (⟨_, _, rfl, rfl, rfl⟩) ?hv17 ?rest17 hck4
    case hv17 =>
      refine ⟨_, rfl, fun hg2 => ?_⟩
      refine ⟨_, rfl, fun hg1 => ?_⟩
      intro E1
      first | refine (V1.loadPin rfl rfl tyk_3 rfl rfl (ltb rfl) ?_) | refine (V1.loadRef (k := 0) rfl rfl tyk_3 rfl rfl rfl rfl rfl (ltb rfl) ?_) | refine (V1.loadRef (k := 1) rfl rfl tyk_3 rfl rfl rfl rfl rfl (ltb rfl) ?_) | refine (V1.loadRef (k := 2) rfl rfl tyk_3 rfl rfl rfl rfl rfl (ltb rfl) ?_)
      exact rfl
    refine VP.step (p := ?pv18) rfl rfl rfl (⟨_, _, rfl, rfl, rfl⟩) ?hv18 ?rest18 hck4
    case hv18 =>
      refine ⟨_, rfl, fun hg2 => ?_⟩
      refine ⟨_, rfl, fun hg1 => ?_⟩
      intro E1
      refine (V1.move rfl rfl rfl (ltb rfl) ?_)
      exact rfl
    refine VP.step (p := ?pv19) rfl rfl rfl (⟨_, _, rfl, rfl, rfl⟩) ?hv19 ?rest19 hck4
    case hv19 =>
      refine ⟨_, rfl, fun hg2 => ?_⟩
      refine ⟨_, rfl, fun hg1 => ?_⟩
      intro E1
      refine (V1.move rfl rfl rfl (ltb rfl) ?_)
      exact rfl
    refine VP.step (p := ?pv20) rfl rfl rfl (⟨_, _, rfl, rfl, ⟨_, _, rfl, rfl, rfl⟩⟩) ?hv20 ?rest20 hck4
    case hv20 =>
      refine ⟨_, rfl, fun hg2 => ?_⟩
      refine ⟨_, rfl, fun hg1 => ?_⟩
      intro E1
      first | refine (V1.indexMapN rfl rfl esz_22 rfl rfl (by omega) (ltb rfl) ?_) | refine (V1.indexMap rfl rfl esz_22 rfl rfl (by (first | omega | (simp only [List.length_map, List.length_append, List.length_take, List.length_drop, List.length_replicate, List.length_set, Int.toNat_natCast] at *; omega) | (simp at *; omega))) (by (first | omega | (simp only [List.length_map, List.length_append, List.length_take, List.length_drop, List.length_replicate, List.length_set, Int.toNat_natCast] at *; omega) | (simp at *; omega))) (ltb rfl) ?_) | refine (V1.indexSref rfl rfl esz_22 rfl rfl (by (first | omega | (simp only [List.length_map, List.length_append, List.length_take, List.length_drop, List.length_replicate, List.length_set, Int.toNat_natCast] at *; omega) | (simp at *; omega))) (by (first | omega | (simp only [List.length_map, List.length_append, List.length_take, List.length_drop, List.length_replicate, List.length_set, Int.toNat_natCast] at *; omega) | (simp at *; omega))) (ltb rfl) ?_)
      exact rfl
    refine VP.step (p := ?pv21) rfl rfl rfl (⟨_, _, rfl, rfl, rfl⟩) ?hv21 ?rest21 hck4
    case hv21 =>
      refine ⟨_, rfl, fun hg2 => ?_⟩
      refine ⟨_, rfl, fun hg1 => ?_⟩
      intro E1
      first | refine (V1.loadPin rfl rfl tyk_3 rfl rfl (ltb rfl) ?_) | refine (V1.loadRef (k := 0) rfl rfl tyk_3 rfl rfl rfl rfl rfl (ltb rfl) ?_) | refine (V1.loadRef (k := 1) rfl rfl tyk_3 rfl rfl rfl rfl rfl (ltb rfl) ?_) | refine (V1.loadRef (k := 2) rfl rfl tyk_3 rfl rfl rfl rfl rfl (ltb rfl) ?_)
      exact rfl
    refine VP.step (p := ?pv22) rfl rfl rfl (⟨_, _, rfl, rfl, ⟨_, _, rfl, rfl, rfl⟩⟩) ?hv22 ?rest22 hck4
    case hv22 =>
      refine ⟨_, rfl, fun hg2 => ?_⟩
      refine ⟨_, rfl, fun hg1 => ?_⟩
      intro E1
      refine (V1.int rfl rfl rfl rfl rfl (ltb rfl) ?_)
      exact rfl
    refine VP.pickAnd rfl rfl rfl rfl rfl rfl (⟨_, rfl, fun _ => trivial⟩) ?_ hck4
    refine VP.pickOr rfl rfl rfl rfl rfl rfl (trivial) ?_ hck4
    refine VP.fin rfl (⟨_, _, rfl, rfl, ⟨_, _, rfl, rfl, ⟨_, _, rfl, rfl, ⟨_, _, rfl, rfl, ⟨_, _, rfl, rfl, rfl⟩⟩⟩⟩⟩) ?_
    refine VO.nil ?_
    refine V.keep 38 [0, 1, 2, 7, 37] [] rfl (⟨_, _, rfl, rfl, ⟨_, _, rfl, rfl, ⟨_, _, rfl, rfl, ⟨_, _, rfl, rfl, ⟨_, _, rfl, rfl, rfl⟩⟩⟩⟩⟩) (rfl) rfl ?_
    refine V.cond rfl (fun hc3 => ?_) (fun hc3 => ?_)
    · skip
      have hcr3 := hc3
      try simp only [decide_eq_true_eq, decide_eq_false_iff_not, List.length_map, Bool.and_eq_true, Bool.or_eq_true, Bool.not_eq_true', Bool.not_eq_false', Bool.and_eq_false_iff, Bool.or_eq_false_iff, beq_iff_eq, bne_iff_ne, beq_eq_false_iff_ne, bne_eq_false_iff_eq, Int.not_lt, Int.not_le, ne_eq] at hc3
      refine V.seq ?_
      refine V.region ?_
      refine VO.cons rfl (V1.assign rfl rfl rfl (ltb rfl) ?_)
      refine VO.nil ?_
      refine V.ret ?_
      refine ⟨_, [], ⟨_, _, rfl, rfl, rfl⟩, List.nil_sublist _, ?_, rfl⟩
      exact congrArg PV.bool (all_range_false (p := l1RisAt l a b) (k := k) (by omega) (by simp only [l1RisAt]; rw [hcr3]; rfl)).symm
    · skip
      have hcr3 := hc3
      try simp only [decide_eq_true_eq, decide_eq_false_iff_not, List.length_map, Bool.and_eq_true, Bool.or_eq_true, Bool.not_eq_true', Bool.not_eq_false', Bool.and_eq_false_iff, Bool.or_eq_false_iff, beq_iff_eq, bne_iff_ne, beq_eq_false_iff_ne, bne_eq_false_iff_eq, Int.not_lt, Int.not_le, ne_eq] at hc3
      refine V.skip ?_
      refine V.region ?_
      refine VO.cons rfl (V1.move rfl rfl rfl (ltb rfl) ?_)
      refine VO.cons rfl (V1.int rfl rfl rfl rfl rfl (ltb rfl) ?_)
      refine VO.cons rfl (V1.assign rfl rfl rfl (ltb rfl) ?_)
      refine VO.nil ?_
      refine ⟨k + 1, ⟨by omega, by rw [all_range_succ, hr, Bool.true_and]; simp only [l1RisAt]; rw [hcr3]; rfl⟩, by omega, Keeps.mk (ks := []) rfl ⟨?_, rfl, rfl, rfl, trivial⟩ (rfl) rfl⟩
      · exact someInt (by simp (disch := omega) only [wrap64_id]; omega)
  · skip
    have hcr0 := hc0
    try simp only [decide_eq_true_eq, decide_eq_false_iff_not, List.length_map, Bool.and_eq_true, Bool.or_eq_true, Bool.not_eq_true', Bool.not_eq_false', Bool.and_eq_false_iff, Bool.or_eq_false_iff, beq_iff_eq, bne_iff_ne, beq_eq_false_iff_ne, bne_eq_false_iff_eq, Int.not_lt, Int.not_le, ne_eq] at hc0
    refine V.exit ?_
    refine V.seq ?_
    refine V.region ?_
    refine VO.cons rfl (V1.assign rfl rfl rfl (ltb rfl) ?_)
    refine VO.nil ?_
    refine V.ret ?_
    refine ⟨_, [], ⟨_, _, rfl, rfl, rfl⟩, List.nil_sublist _, ?_, rfl⟩
    obtain rfl : k = l.length := by omega
    exact congrArg PV.bool hr.symm


def goodOne (c : Carton) : Bool := inB c.id 1 99 && (inB c.room 1 9 && inB c.shelf 1 30) && decide ((c.files.length : Int) ≤ 12) && l1RisB c.files 1 999 && inB c.thick 1 40

theorem l18One_ok (ρ rn : Nat) (c : Carton) (hl : c.files.length ≤ 1048576) : Does Try.prog 68 [encCarton ρ c] [] rn (fun x H => x = .bool (goodOne c) ∧ H = []) := by
  refine Does.intro (N := 29) Try.func68 rfl rfl rfl rfl ?_
  intro w0 S0
  refine V.seq ?_
  refine V.region ?_
  refine VO.cons rfl (V1.boxN (n := 5) rfl rfl rfl rfl rfl (ltb rfl) ?_)
  intro b1
  refine VO.cons rfl (V1.assign rfl rfl rfl (ltb rfl) ?_)
  refine VO.nil ?_
  refine V.seq ?_
  refine V.region ?_
  first | refine VO.cons rfl (V1.fieldPin rfl rfl fo_27_0 rfl (ltb rfl) ?_) | refine VO.cons rfl (V1.fieldRef rfl rfl fo_27_0 rfl (ltb rfl) ?_)
  first | refine VO.cons rfl (V1.loadPin rfl rfl tyk_3 rfl rfl (ltb rfl) ?_) | refine VO.cons rfl (V1.loadRef (k := 0) rfl rfl tyk_3 rfl rfl rfl rfl rfl (ltb rfl) ?_) | refine VO.cons rfl (V1.loadRef (k := 1) rfl rfl tyk_3 rfl rfl rfl rfl rfl (ltb rfl) ?_) | refine VO.cons rfl (V1.loadRef (k := 2) rfl rfl tyk_3 rfl rfl rfl rfl rfl (ltb rfl) ?_)
  refine VO.cons rfl (V1.call rfl rfl rfl cok_84 rfl (l1In_ok _ _ _ _) rfl (ltb rfl) ?_)
  rintro _ _ ⟨rfl, rfl⟩
  refine VO.cons rfl (V1.move rfl rfl rfl (ltb rfl) ?_)
  apply VO.and (n := 5) rfl rfl rfl rfl rfl rfl (ltb rfl) (.none rfl)
  · intro hg0
    first | refine VO.step (.some rfl rfl rfl) (V1.fieldPin rfl rfl fo_27_2 rfl (ltb rfl) ?_) | refine VO.step (.some rfl rfl rfl) (V1.fieldRef rfl rfl fo_27_2 rfl (ltb rfl) ?_)
    first | refine VO.step (.some rfl rfl rfl) (V1.loadPin rfl rfl tyk_3 rfl rfl (ltb rfl) ?_) | refine VO.step (.some rfl rfl rfl) (V1.loadRef (k := 0) rfl rfl tyk_3 rfl rfl rfl rfl rfl (ltb rfl) ?_) | refine VO.step (.some rfl rfl rfl) (V1.loadRef (k := 1) rfl rfl tyk_3 rfl rfl rfl rfl rfl (ltb rfl) ?_) | refine VO.step (.some rfl rfl rfl) (V1.loadRef (k := 2) rfl rfl tyk_3 rfl rfl rfl rfl rfl (ltb rfl) ?_)
    first | refine VO.step (.some rfl rfl rfl) (V1.fieldPin rfl rfl fo_27_1 rfl (ltb rfl) ?_) | refine VO.step (.some rfl rfl rfl) (V1.fieldRef rfl rfl fo_27_1 rfl (ltb rfl) ?_)
    first | refine VO.step (.some rfl rfl rfl) (V1.loadPin rfl rfl tyk_3 rfl rfl (ltb rfl) ?_) | refine VO.step (.some rfl rfl rfl) (V1.loadRef (k := 0) rfl rfl tyk_3 rfl rfl rfl rfl rfl (ltb rfl) ?_) | refine VO.step (.some rfl rfl rfl) (V1.loadRef (k := 1) rfl rfl tyk_3 rfl rfl rfl rfl rfl (ltb rfl) ?_) | refine VO.step (.some rfl rfl rfl) (V1.loadRef (k := 2) rfl rfl tyk_3 rfl rfl rfl rfl rfl (ltb rfl) ?_)
    refine VO.step (.some rfl rfl rfl) (V1.call rfl rfl rfl cok_80 rfl (l18Place_ok _ _ _) rfl (ltb rfl) ?_)
    rintro _ _ ⟨rfl, rfl⟩
    exact VO.nil ⟨rfl, rfl, rfl, rfl, .inr ⟨rfl, .inr ⟨rfl, .inr ⟨rfl, .inr ⟨rfl, .inr ⟨rfl, .inr ⟨rfl, .inl rfl⟩⟩⟩⟩⟩⟩⟩
  refine VO.cons rfl (V1.move rfl rfl rfl (ltb rfl) ?_)
  apply VO.and (n := 4) rfl rfl rfl rfl rfl rfl (ltb rfl) (.none rfl)
  · intro hg1
    first | refine VO.step (.some rfl rfl rfl) (V1.fieldPin rfl rfl fo_27_3 rfl (ltb rfl) ?_) | refine VO.step (.some rfl rfl rfl) (V1.fieldRef rfl rfl fo_27_3 rfl (ltb rfl) ?_)
    first | refine VO.step (.some rfl rfl rfl) (V1.loadPin rfl rfl tyk_22 rfl rfl (ltb rfl) ?_) | refine VO.step (.some rfl rfl rfl) (V1.loadRef (k := 0) rfl rfl tyk_22 rfl rfl rfl rfl rfl (ltb rfl) ?_) | refine VO.step (.some rfl rfl rfl) (V1.loadRef (k := 1) rfl rfl tyk_22 rfl rfl rfl rfl rfl (ltb rfl) ?_) | refine VO.step (.some rfl rfl rfl) (V1.loadRef (k := 2) rfl rfl tyk_22 rfl rfl rfl rfl rfl (ltb rfl) ?_)
    first | refine VO.step (.some rfl rfl rfl) (V1.lenVl rfl rfl rfl rfl rfl rfl isl_22 (ltb rfl) ?_) | refine VO.step (.some rfl rfl rfl) (V1.lenSref rfl rfl rfl rfl rfl rfl isl_22 (ltb rfl) ?_) | refine VO.step (.some rfl rfl rfl) (V1.lenNils rfl rfl rfl rfl rfl rfl isl_22 (ltb rfl) ?_)
    refine VO.step (.some rfl rfl rfl) (V1.int rfl rfl rfl rfl rfl (ltb rfl) ?_)
    exact VO.nil ⟨rfl, rfl, rfl, rfl, .inr ⟨rfl, .inr ⟨rfl, .inr ⟨rfl, .inr ⟨rfl, .inr ⟨rfl, .inl rfl⟩⟩⟩⟩⟩⟩
  refine VO.cons rfl (V1.move rfl rfl rfl (ltb rfl) ?_)
  apply VO.and (n := 3) rfl rfl rfl rfl rfl rfl (ltb rfl) (.none rfl)
  · intro hg2
    first | refine VO.step (.some rfl rfl rfl) (V1.fieldPin rfl rfl fo_27_3 rfl (ltb rfl) ?_) | refine VO.step (.some rfl rfl rfl) (V1.fieldRef rfl rfl fo_27_3 rfl (ltb rfl) ?_)
    first | refine VO.step (.some rfl rfl rfl) (V1.loadPin rfl rfl tyk_22 rfl rfl (ltb rfl) ?_) | refine VO.step (.some rfl rfl rfl) (V1.loadRef (k := 0) rfl rfl tyk_22 rfl rfl rfl rfl rfl (ltb rfl) ?_) | refine VO.step (.some rfl rfl rfl) (V1.loadRef (k := 1) rfl rfl tyk_22 rfl rfl rfl rfl rfl (ltb rfl) ?_) | refine VO.step (.some rfl rfl rfl) (V1.loadRef (k := 2) rfl rfl tyk_22 rfl rfl rfl rfl rfl (ltb rfl) ?_)
    refine VO.step (.some rfl rfl rfl) (V1.call rfl rfl rfl cok_89 rfl (l1Rising_ok _ _ _ _ _ hl) rfl (ltb rfl) ?_)
    rintro _ _ ⟨rfl, rfl⟩
    exact VO.nil ⟨rfl, rfl, rfl, rfl, .inr ⟨rfl, .inr ⟨rfl, .inr ⟨rfl, .inr ⟨rfl, .inl rfl⟩⟩⟩⟩⟩
  refine VO.cons rfl (V1.move rfl rfl rfl (ltb rfl) ?_)
  apply VO.and (n := 3) rfl rfl rfl rfl rfl rfl (ltb rfl) (.none rfl)
  · intro hg3
    first | refine VO.step (.some rfl rfl rfl) (V1.fieldPin rfl rfl fo_27_4 rfl (ltb rfl) ?_) | refine VO.step (.some rfl rfl rfl) (V1.fieldRef rfl rfl fo_27_4 rfl (ltb rfl) ?_)
    first | refine VO.step (.some rfl rfl rfl) (V1.loadPin rfl rfl tyk_3 rfl rfl (ltb rfl) ?_) | refine VO.step (.some rfl rfl rfl) (V1.loadRef (k := 0) rfl rfl tyk_3 rfl rfl rfl rfl rfl (ltb rfl) ?_) | refine VO.step (.some rfl rfl rfl) (V1.loadRef (k := 1) rfl rfl tyk_3 rfl rfl rfl rfl rfl (ltb rfl) ?_) | refine VO.step (.some rfl rfl rfl) (V1.loadRef (k := 2) rfl rfl tyk_3 rfl rfl rfl rfl rfl (ltb rfl) ?_)
    refine VO.step (.some rfl rfl rfl) (V1.call rfl rfl rfl cok_84 rfl (l1In_ok _ _ _ _) rfl (ltb rfl) ?_)
    rintro _ _ ⟨rfl, rfl⟩
    exact VO.nil ⟨rfl, rfl, rfl, rfl, .inr ⟨rfl, .inr ⟨rfl, .inr ⟨rfl, .inr ⟨rfl, .inl rfl⟩⟩⟩⟩⟩
  refine VO.cons rfl (V1.assign rfl rfl rfl (ltb rfl) ?_)
  refine VO.nil ?_
  refine V.ret ?_
  refine ⟨_, [], ⟨_, _, rfl, rfl, rfl⟩, List.nil_sublist _, ?_, rfl⟩
  exact congrArg PV.bool (by simp only [List.length_map]; rfl)

theorem sIsCarton_ok (ρ rn : Nat) (c : Carton) (hl : c.files.length ≤ 1048576) : Does Try.prog 17 [encCarton ρ c] [] rn (fun x H => x = .bool (goodOne c) ∧ H = []) := by
  refine Does.intro (N := 5) Try.func17 rfl rfl rfl rfl ?_
  intro w0 S0
  refine V.seq ?_
  refine V.region ?_
  refine VO.cons rfl (V1.boxN (n := 5) rfl rfl rfl rfl rfl (ltb rfl) ?_)
  intro b1
  refine VO.cons rfl (V1.assign rfl rfl rfl (ltb rfl) ?_)
  refine VO.nil ?_
  refine V.seq ?_
  refine V.region ?_
  first | refine VO.cons rfl (V1.loadPinAll rfl rfl tyk_27 rfl rfl (ltb rfl) ?_) | refine VO.cons rfl (V1.loadRefAll (k := 0) rfl rfl tyk_27 rfl rfl rfl rfl rfl (ltb rfl) ?_) | refine VO.cons rfl (V1.loadRefAll (k := 1) rfl rfl tyk_27 rfl rfl rfl rfl rfl (ltb rfl) ?_) | refine VO.cons rfl (V1.loadRefAll (k := 2) rfl rfl tyk_27 rfl rfl rfl rfl rfl (ltb rfl) ?_)
  refine VO.cons rfl (V1.call rfl rfl rfl cok_68 rfl (l18One_ok _ _ c hl) rfl (ltb rfl) ?_)
  rintro _ _ ⟨rfl, rfl⟩
  refine VO.cons rfl (V1.assign rfl rfl rfl (ltb rfl) ?_)
  refine VO.nil ?_
  refine V.ret ?_
  refine ⟨_, [], ⟨_, _, rfl, rfl, rfl⟩, List.nil_sublist _, rfl, rfl⟩

theorem IndexFunc_ok (ρ rn f : Nat) (cs : List PV) (p : Int → Bool) (l : List Int) (hl : l.length ≤ 1048576) (hok : callOK Try.prog f = true) (hf : ∀ n, Does Try.prog f (.int .i64 n :: cs) [] rn (fun x H => x = .bool (p n) ∧ H = [])) :
    Does Try.prog 109 [.vl ρ 1 (l.map encInt), .fn f cs] [] rn (fun x H => x = .int .i64 (firstAt p l) ∧ H = []) := by
  refine Does.intro (N := 19) Try.func109 rfl rfl rfl rfl ?_
  intro w0 S0
  refine V.seq ?_
  refine V.region ?_
  refine VO.cons rfl (V1.assign rfl rfl rfl (ltb rfl) ?_)
  refine VO.nil ?_
  refine V.seq ?_
  refine V.seq ?_
  refine V.region ?_
  refine VO.cons rfl (V1.move rfl rfl rfl (ltb rfl) ?_)
  first | refine VO.cons rfl (V1.lenVl rfl rfl rfl rfl rfl rfl isl_22 (ltb rfl) ?_) | refine VO.cons rfl (V1.lenSref rfl rfl rfl rfl rfl rfl isl_22 (ltb rfl) ?_) | refine VO.cons rfl (V1.lenNils rfl rfl rfl rfl rfl rfl isl_22 (ltb rfl) ?_)
  refine VO.cons rfl (V1.move rfl rfl rfl (ltb rfl) ?_)
  refine VO.nil ?_
  refine V.keep 19 [0, 1, 7, 8] [] rfl (⟨_, _, rfl, rfl, ⟨_, _, rfl, rfl, ⟨_, _, rfl, rfl, ⟨_, _, rfl, rfl, rfl⟩⟩⟩⟩) (rfl) rfl ?_
  refine V.block ?_
  refine V.keep 19 [8, 0, 1, 7] [] rfl (⟨_, _, rfl, rfl, ⟨_, _, rfl, rfl, ⟨_, _, rfl, rfl, ⟨_, _, rfl, rfl, rfl⟩⟩⟩⟩) (rfl) rfl ?_
  refine V.loopE (D := Nat) (fun k => [(8, .int .i64 (k : Int))]) (fun k => []) (fun k => k ≤ l.length ∧ ∀ j, j < k → p (l.getD j default) = false) (fun k => l.length - k) 0 rfl (⟨by omega, fun _ h => absurd h (by omega)⟩) ?_
  rintro k ⟨hk, hr⟩
  refine V.seq ?_
  refine V.region ?_
  refine VO.cons rfl (V1.int rfl rfl rfl rfl rfl (ltb rfl) ?_)
  refine VO.nil ?_
  refine V.seq ?_
  refine V.cond rfl (fun hc0 => ?_) (fun hc0 => ?_)
  · skip
    have hcr0 := hc0
    try simp only [decide_eq_true_eq, decide_eq_false_iff_not, List.length_map, Bool.and_eq_true, Bool.or_eq_true, Bool.not_eq_true', Bool.not_eq_false', Bool.and_eq_false_iff, Bool.or_eq_false_iff, beq_iff_eq, bne_iff_ne, beq_eq_false_iff_ne, bne_eq_false_iff_eq, Int.not_lt, Int.not_le, ne_eq] at hc0
    refine V.skip ?_
    refine V.seq ?_
    refine V.block ?_
    refine V.seq ?_
    refine V.region ?_
    refine VO.cons rfl (V1.move rfl rfl rfl (ltb rfl) ?_)
    refine VO.cons rfl (V1.assign rfl rfl rfl (ltb rfl) ?_)
    refine VO.nil ?_
    refine V.seq ?_
    refine V.region ?_
    refine VO.cons rfl (V1.move rfl rfl rfl (ltb rfl) ?_)
    refine VO.cons rfl (V1.move rfl rfl rfl (ltb rfl) ?_)
    refine VO.cons rfl (V1.move rfl rfl rfl (ltb rfl) ?_)
    first | refine VO.cons rfl (V1.indexMapN rfl rfl esz_22 rfl rfl (by omega) (ltb rfl) ?_) | refine VO.cons rfl (V1.indexMap rfl rfl esz_22 rfl rfl (by (first | omega | (simp only [List.length_map, List.length_append, List.length_take, List.length_drop, List.length_replicate, List.length_set, Int.toNat_natCast] at *; omega) | (simp at *; omega))) (by (first | omega | (simp only [List.length_map, List.length_append, List.length_take, List.length_drop, List.length_replicate, List.length_set, Int.toNat_natCast] at *; omega) | (simp at *; omega))) (ltb rfl) ?_) | refine VO.cons rfl (V1.indexSref rfl rfl esz_22 rfl rfl (by (first | omega | (simp only [List.length_map, List.length_append, List.length_take, List.length_drop, List.length_replicate, List.length_set, Int.toNat_natCast] at *; omega) | (simp at *; omega))) (by (first | omega | (simp only [List.length_map, List.length_append, List.length_take, List.length_drop, List.length_replicate, List.length_set, Int.toNat_natCast] at *; omega) | (simp at *; omega))) (ltb rfl) ?_)
    first | refine VO.cons rfl (V1.loadPin rfl rfl tyk_3 rfl rfl (ltb rfl) ?_) | refine VO.cons rfl (V1.loadRef (k := 0) rfl rfl tyk_3 rfl rfl rfl rfl rfl (ltb rfl) ?_) | refine VO.cons rfl (V1.loadRef (k := 1) rfl rfl tyk_3 rfl rfl rfl rfl rfl (ltb rfl) ?_) | refine VO.cons rfl (V1.loadRef (k := 2) rfl rfl tyk_3 rfl rfl rfl rfl rfl (ltb rfl) ?_)
    refine VO.cons rfl (V1.callG (τ := 0) (Bw := []) rfl (ltb rfl) (run_callFn rfl rfl rfl hok rfl) (.refl _) (Lends.same _) (fun _ h => by cases h) (hf _) (.inl rfl) (.inl rfl) ?_)
    rintro _ _ ⟨rfl, rfl⟩
    refine VO.nil ?_
    refine V.keep 19 [0, 1, 5, 7, 8, 16] [] rfl (⟨_, _, rfl, rfl, ⟨_, _, rfl, rfl, ⟨_, _, rfl, rfl, ⟨_, _, rfl, rfl, ⟨_, _, rfl, rfl, ⟨_, _, rfl, rfl, rfl⟩⟩⟩⟩⟩⟩) (rfl) rfl ?_
    refine V.cond rfl (fun hc1 => ?_) (fun hc1 => ?_)
    · skip
      have hcr1 := hc1
      try simp only [decide_eq_true_eq, decide_eq_false_iff_not, List.length_map, Bool.and_eq_true, Bool.or_eq_true, Bool.not_eq_true', Bool.not_eq_false', Bool.and_eq_false_iff, Bool.or_eq_false_iff, beq_iff_eq, bne_iff_ne, beq_eq_false_iff_ne, bne_eq_false_iff_eq, Int.not_lt, Int.not_le, ne_eq] at hc1
      refine V.seq ?_
      refine V.region ?_
      refine VO.cons rfl (V1.move rfl rfl rfl (ltb rfl) ?_)
      refine VO.cons rfl (V1.assign rfl rfl rfl (ltb rfl) ?_)
      refine VO.nil ?_
      refine V.ret ?_
      refine ⟨_, [], ⟨_, _, rfl, rfl, rfl⟩, List.nil_sublist _, ?_, rfl⟩
      exact congrArg (PV.int .i64) (firstAt_some (by omega) hr hcr1).symm
    · skip
      have hcr1 := hc1
      try simp only [decide_eq_true_eq, decide_eq_false_iff_not, List.length_map, Bool.and_eq_true, Bool.or_eq_true, Bool.not_eq_true', Bool.not_eq_false', Bool.and_eq_false_iff, Bool.or_eq_false_iff, beq_iff_eq, bne_iff_ne, beq_eq_false_iff_ne, bne_eq_false_iff_eq, Int.not_lt, Int.not_le, ne_eq] at hc1
      refine V.skip ?_
      refine V.region ?_
      refine VO.cons rfl (V1.int rfl rfl rfl rfl rfl (ltb rfl) ?_)
      refine VO.cons rfl (V1.move rfl rfl rfl (ltb rfl) ?_)
      refine VO.nil ?_
      refine ⟨k + 1, ⟨by omega, fun j hj => by (rcases Nat.lt_or_ge j k with h | h; (exact hr j h); (obtain rfl : j = k := by omega); exact hcr1)⟩, by omega, Keeps.mk (ks := []) rfl ⟨?_, rfl, rfl, rfl, trivial⟩ (rfl) rfl⟩
      · exact someInt (by simp (disch := omega) only [wrap64_id]; omega)
  · skip
    have hcr0 := hc0
    try simp only [decide_eq_true_eq, decide_eq_false_iff_not, List.length_map, Bool.and_eq_true, Bool.or_eq_true, Bool.not_eq_true', Bool.not_eq_false', Bool.and_eq_false_iff, Bool.or_eq_false_iff, beq_iff_eq, bne_iff_ne, beq_eq_false_iff_ne, bne_eq_false_iff_eq, Int.not_lt, Int.not_le, ne_eq] at hc0
    refine V.exit ?_
    refine V.seq ?_
    refine V.region ?_
    refine VO.cons rfl (V1.assign rfl rfl rfl (ltb rfl) ?_)
    refine VO.nil ?_
    refine V.ret ?_
    refine ⟨_, [], ⟨_, _, rfl, rfl, rfl⟩, List.nil_sublist _, ?_, rfl⟩
    exact congrArg (PV.int .i64) (firstAt_none fun j hj => hr j (by omega)).symm

theorem ContainsFunc_ok (ρ rn f : Nat) (cs : List PV) (p : Int → Bool) (l : List Int) (hl : l.length ≤ 1048576) (hok : callOK Try.prog f = true) (hf : ∀ n, Does Try.prog f (.int .i64 n :: cs) [] rn (fun x H => x = .bool (p n) ∧ H = [])) :
    Does Try.prog 73 [.vl ρ 1 (l.map encInt), .fn f cs] [] rn (fun x H => x = .bool (l.any p) ∧ H = []) := by
  refine Does.intro (N := 9) Try.func73 rfl rfl rfl rfl ?_
  intro w0 S0
  refine V.seq ?_
  refine V.region ?_
  refine VO.cons rfl (V1.assign rfl rfl rfl (ltb rfl) ?_)
  refine VO.nil ?_
  refine V.seq ?_
  refine V.region ?_
  refine VO.cons rfl (V1.move rfl rfl rfl (ltb rfl) ?_)
  refine VO.cons rfl (V1.move rfl rfl rfl (ltb rfl) ?_)
  refine VO.cons rfl (V1.call rfl rfl rfl cok_109 rfl (IndexFunc_ok _ _ f cs p l hl hok hf) rfl (ltb rfl) ?_)
  rintro _ _ ⟨rfl, rfl⟩
  refine VO.cons rfl (V1.int rfl rfl rfl rfl rfl (ltb rfl) ?_)
  refine VO.cons rfl (V1.assign rfl rfl rfl (ltb rfl) ?_)
  refine VO.nil ?_
  refine V.ret ?_
  refine ⟨_, [], ⟨_, _, rfl, rfl, rfl⟩, List.nil_sublist _, ?_, rfl⟩
  exact congrArg PV.bool firstAt_any

theorem IsCarton1_ok (rn : Nat) (n : Int) : Does Try.prog 74 [.int .i64 n] [] rn (fun x H => x = .bool (!(inB n 1 999)) ∧ H = []) := by
  refine Does.intro (N := 6) Try.func74 rfl rfl rfl rfl ?_
  intro w0 S0
  refine V.seq ?_
  refine V.region ?_
  refine VO.cons rfl (V1.assign rfl rfl rfl (ltb rfl) ?_)
  refine VO.nil ?_
  refine V.seq ?_
  refine V.region ?_
  refine VO.cons rfl (V1.move rfl rfl rfl (ltb rfl) ?_)
  refine VO.cons rfl (V1.call rfl rfl rfl cok_75 rfl (within_ok _ _ _ _) rfl (ltb rfl) ?_)
  rintro _ _ ⟨rfl, rfl⟩
  refine VO.cons rfl (V1.not rfl rfl rfl (ltb rfl) ?_)
  refine VO.cons rfl (V1.assign rfl rfl rfl (ltb rfl) ?_)
  refine VO.nil ?_
  refine V.ret ?_
  refine ⟨_, [], ⟨_, _, rfl, rfl, rfl⟩, List.nil_sublist _, rfl, rfl⟩

theorem rising_eq (l : List Int) : (risB l && !(l.any fun n => !(inB n 1 999))) = l1RisB l 1 999 := by
  have h1 : (!(l.any fun n => !(inB n 1 999))) = l.all fun n => inB n 1 999 := by
    rw [List.any_eq_not_all_not, Bool.not_not]; simp
  rw [h1, all_getD, risB, l1RisB, all_range_and]
  congr 1
  funext k
  simp only [risAt, l1RisAt]
  have : decide ((k : Int) > 0) = decide (k > 0) := by
    by_cases h : k > 0
    · rw [decide_eq_true h, decide_eq_true (by omega)]
    · rw [decide_eq_false h, decide_eq_false (by omega)]
  rw [this]
  cases inB (l.getD k default) 1 999 <;> simp

theorem good_eq (c : Carton) : (inB c.id 1 99 && inB c.shelf 1 30 && inB c.room 1 9 && decide ((c.files.length : Int) ≤ 12) && risB c.files && !(c.files.any fun n => !(inB n 1 999)) && inB c.thick 1 40) = goodOne c := by
  rw [Bool.and_assoc (_ && _ && _ && _) (risB c.files) _, rising_eq, goodOne]
  cases inB c.id 1 99 <;> cases inB c.shelf 1 30 <;> cases inB c.room 1 9 <;> simp

theorem iIsCarton_ok (ρ rn : Nat) (c : Carton) (hl : c.files.length ≤ 1048576) : Does Try.prog 19 [encCarton ρ c] [] rn (fun x H => x = .bool (goodOne c) ∧ H = []) := by
  refine Does.intro (N := 38) Try.func19 rfl rfl rfl rfl ?_
  intro w0 S0
  refine V.seq ?_
  refine V.region ?_
  refine VO.cons rfl (V1.boxN (n := 5) rfl rfl rfl rfl rfl (ltb rfl) ?_)
  intro b1
  refine VO.cons rfl (V1.assign rfl rfl rfl (ltb rfl) ?_)
  refine VO.nil ?_
  refine V.seq ?_
  refine V.region ?_
  first | refine VO.cons rfl (V1.fieldPin rfl rfl fo_27_0 rfl (ltb rfl) ?_) | refine VO.cons rfl (V1.fieldRef rfl rfl fo_27_0 rfl (ltb rfl) ?_)
  first | refine VO.cons rfl (V1.loadPin rfl rfl tyk_3 rfl rfl (ltb rfl) ?_) | refine VO.cons rfl (V1.loadRef (k := 0) rfl rfl tyk_3 rfl rfl rfl rfl rfl (ltb rfl) ?_) | refine VO.cons rfl (V1.loadRef (k := 1) rfl rfl tyk_3 rfl rfl rfl rfl rfl (ltb rfl) ?_) | refine VO.cons rfl (V1.loadRef (k := 2) rfl rfl tyk_3 rfl rfl rfl rfl rfl (ltb rfl) ?_)
  refine VO.cons rfl (V1.call rfl rfl rfl cok_69 rfl (isId_ok _ _) rfl (ltb rfl) ?_)
  rintro _ _ ⟨rfl, rfl⟩
  refine VO.cons rfl (V1.move rfl rfl rfl (ltb rfl) ?_)
  apply VO.and (n := 3) rfl rfl rfl rfl rfl rfl (ltb rfl) (.none rfl)
  · intro hg0
    first | refine VO.step (.some rfl rfl rfl) (V1.fieldPin rfl rfl fo_27_1 rfl (ltb rfl) ?_) | refine VO.step (.some rfl rfl rfl) (V1.fieldRef rfl rfl fo_27_1 rfl (ltb rfl) ?_)
    first | refine VO.step (.some rfl rfl rfl) (V1.loadPin rfl rfl tyk_3 rfl rfl (ltb rfl) ?_) | refine VO.step (.some rfl rfl rfl) (V1.loadRef (k := 0) rfl rfl tyk_3 rfl rfl rfl rfl rfl (ltb rfl) ?_) | refine VO.step (.some rfl rfl rfl) (V1.loadRef (k := 1) rfl rfl tyk_3 rfl rfl rfl rfl rfl (ltb rfl) ?_) | refine VO.step (.some rfl rfl rfl) (V1.loadRef (k := 2) rfl rfl tyk_3 rfl rfl rfl rfl rfl (ltb rfl) ?_)
    refine VO.step (.some rfl rfl rfl) (V1.call rfl rfl rfl cok_70 rfl (isShelf_ok _ _) rfl (ltb rfl) ?_)
    rintro _ _ ⟨rfl, rfl⟩
    exact VO.nil ⟨rfl, rfl, rfl, rfl, .inr ⟨rfl, .inr ⟨rfl, .inr ⟨rfl, .inr ⟨rfl, .inl rfl⟩⟩⟩⟩⟩
  refine VO.cons rfl (V1.move rfl rfl rfl (ltb rfl) ?_)
  apply VO.and (n := 3) rfl rfl rfl rfl rfl rfl (ltb rfl) (.none rfl)
  · intro hg1
    first | refine VO.step (.some rfl rfl rfl) (V1.fieldPin rfl rfl fo_27_2 rfl (ltb rfl) ?_) | refine VO.step (.some rfl rfl rfl) (V1.fieldRef rfl rfl fo_27_2 rfl (ltb rfl) ?_)
    first | refine VO.step (.some rfl rfl rfl) (V1.loadPin rfl rfl tyk_3 rfl rfl (ltb rfl) ?_) | refine VO.step (.some rfl rfl rfl) (V1.loadRef (k := 0) rfl rfl tyk_3 rfl rfl rfl rfl rfl (ltb rfl) ?_) | refine VO.step (.some rfl rfl rfl) (V1.loadRef (k := 1) rfl rfl tyk_3 rfl rfl rfl rfl rfl (ltb rfl) ?_) | refine VO.step (.some rfl rfl rfl) (V1.loadRef (k := 2) rfl rfl tyk_3 rfl rfl rfl rfl rfl (ltb rfl) ?_)
    refine VO.step (.some rfl rfl rfl) (V1.call rfl rfl rfl cok_71 rfl (isRoom_ok _ _) rfl (ltb rfl) ?_)
    rintro _ _ ⟨rfl, rfl⟩
    exact VO.nil ⟨rfl, rfl, rfl, rfl, .inr ⟨rfl, .inr ⟨rfl, .inr ⟨rfl, .inr ⟨rfl, .inl rfl⟩⟩⟩⟩⟩
  refine VO.cons rfl (V1.move rfl rfl rfl (ltb rfl) ?_)
  apply VO.and (n := 4) rfl rfl rfl rfl rfl rfl (ltb rfl) (.none rfl)
  · intro hg2
    first | refine VO.step (.some rfl rfl rfl) (V1.fieldPin rfl rfl fo_27_3 rfl (ltb rfl) ?_) | refine VO.step (.some rfl rfl rfl) (V1.fieldRef rfl rfl fo_27_3 rfl (ltb rfl) ?_)
    first | refine VO.step (.some rfl rfl rfl) (V1.loadPin rfl rfl tyk_22 rfl rfl (ltb rfl) ?_) | refine VO.step (.some rfl rfl rfl) (V1.loadRef (k := 0) rfl rfl tyk_22 rfl rfl rfl rfl rfl (ltb rfl) ?_) | refine VO.step (.some rfl rfl rfl) (V1.loadRef (k := 1) rfl rfl tyk_22 rfl rfl rfl rfl rfl (ltb rfl) ?_) | refine VO.step (.some rfl rfl rfl) (V1.loadRef (k := 2) rfl rfl tyk_22 rfl rfl rfl rfl rfl (ltb rfl) ?_)
    first | refine VO.step (.some rfl rfl rfl) (V1.lenVl rfl rfl rfl rfl rfl rfl isl_22 (ltb rfl) ?_) | refine VO.step (.some rfl rfl rfl) (V1.lenSref rfl rfl rfl rfl rfl rfl isl_22 (ltb rfl) ?_) | refine VO.step (.some rfl rfl rfl) (V1.lenNils rfl rfl rfl rfl rfl rfl isl_22 (ltb rfl) ?_)
    refine VO.step (.some rfl rfl rfl) (V1.int rfl rfl rfl rfl rfl (ltb rfl) ?_)
    exact VO.nil ⟨rfl, rfl, rfl, rfl, .inr ⟨rfl, .inr ⟨rfl, .inr ⟨rfl, .inr ⟨rfl, .inr ⟨rfl, .inl rfl⟩⟩⟩⟩⟩⟩
  refine VO.cons rfl (V1.move rfl rfl rfl (ltb rfl) ?_)
  apply VO.and (n := 3) rfl rfl rfl rfl rfl rfl (ltb rfl) (.none rfl)
  · intro hg3
    first | refine VO.step (.some rfl rfl rfl) (V1.fieldPin rfl rfl fo_27_3 rfl (ltb rfl) ?_) | refine VO.step (.some rfl rfl rfl) (V1.fieldRef rfl rfl fo_27_3 rfl (ltb rfl) ?_)
    first | refine VO.step (.some rfl rfl rfl) (V1.loadPin rfl rfl tyk_22 rfl rfl (ltb rfl) ?_) | refine VO.step (.some rfl rfl rfl) (V1.loadRef (k := 0) rfl rfl tyk_22 rfl rfl rfl rfl rfl (ltb rfl) ?_) | refine VO.step (.some rfl rfl rfl) (V1.loadRef (k := 1) rfl rfl tyk_22 rfl rfl rfl rfl rfl (ltb rfl) ?_) | refine VO.step (.some rfl rfl rfl) (V1.loadRef (k := 2) rfl rfl tyk_22 rfl rfl rfl rfl rfl (ltb rfl) ?_)
    refine VO.step (.some rfl rfl rfl) (V1.call rfl rfl rfl cok_72 rfl (areRising_ok _ _ _ hl) rfl (ltb rfl) ?_)
    rintro _ _ ⟨rfl, rfl⟩
    exact VO.nil ⟨rfl, rfl, rfl, rfl, .inr ⟨rfl, .inr ⟨rfl, .inr ⟨rfl, .inr ⟨rfl, .inl rfl⟩⟩⟩⟩⟩
  refine VO.cons rfl (V1.move rfl rfl rfl (ltb rfl) ?_)
  apply VO.and (n := 4) rfl rfl rfl rfl rfl rfl (ltb rfl) (.none rfl)
  · intro hg4
    first | refine VO.step (.some rfl rfl rfl) (V1.fieldPin rfl rfl fo_27_3 rfl (ltb rfl) ?_) | refine VO.step (.some rfl rfl rfl) (V1.fieldRef rfl rfl fo_27_3 rfl (ltb rfl) ?_)
    first | refine VO.step (.some rfl rfl rfl) (V1.loadPin rfl rfl tyk_22 rfl rfl (ltb rfl) ?_) | refine VO.step (.some rfl rfl rfl) (V1.loadRef (k := 0) rfl rfl tyk_22 rfl rfl rfl rfl rfl (ltb rfl) ?_) | refine VO.step (.some rfl rfl rfl) (V1.loadRef (k := 1) rfl rfl tyk_22 rfl rfl rfl rfl rfl (ltb rfl) ?_) | refine VO.step (.some rfl rfl rfl) (V1.loadRef (k := 2) rfl rfl tyk_22 rfl rfl rfl rfl rfl (ltb rfl) ?_)
    refine VO.step (.some rfl rfl rfl) (V1.call rfl rfl rfl cok_73 rfl (ContainsFunc_ok _ _ _ [] (fun n => !(inB n 1 999)) _ hl cok_74 (IsCarton1_ok _)) rfl (ltb rfl) ?_)
    rintro _ _ ⟨rfl, rfl⟩
    refine VO.step (.some rfl rfl rfl) (V1.not rfl rfl rfl (ltb rfl) ?_)
    exact VO.nil ⟨rfl, rfl, rfl, rfl, .inr ⟨rfl, .inr ⟨rfl, .inr ⟨rfl, .inr ⟨rfl, .inr ⟨rfl, .inl rfl⟩⟩⟩⟩⟩⟩
  refine VO.cons rfl (V1.move rfl rfl rfl (ltb rfl) ?_)
  apply VO.and (n := 3) rfl rfl rfl rfl rfl rfl (ltb rfl) (.none rfl)
  · intro hg5
    first | refine VO.step (.some rfl rfl rfl) (V1.fieldPin rfl rfl fo_27_4 rfl (ltb rfl) ?_) | refine VO.step (.some rfl rfl rfl) (V1.fieldRef rfl rfl fo_27_4 rfl (ltb rfl) ?_)
    first | refine VO.step (.some rfl rfl rfl) (V1.loadPin rfl rfl tyk_3 rfl rfl (ltb rfl) ?_) | refine VO.step (.some rfl rfl rfl) (V1.loadRef (k := 0) rfl rfl tyk_3 rfl rfl rfl rfl rfl (ltb rfl) ?_) | refine VO.step (.some rfl rfl rfl) (V1.loadRef (k := 1) rfl rfl tyk_3 rfl rfl rfl rfl rfl (ltb rfl) ?_) | refine VO.step (.some rfl rfl rfl) (V1.loadRef (k := 2) rfl rfl tyk_3 rfl rfl rfl rfl rfl (ltb rfl) ?_)
    refine VO.step (.some rfl rfl rfl) (V1.call rfl rfl rfl cok_75 rfl (within_ok _ _ _ _) rfl (ltb rfl) ?_)
    rintro _ _ ⟨rfl, rfl⟩
    exact VO.nil ⟨rfl, rfl, rfl, rfl, .inr ⟨rfl, .inr ⟨rfl, .inr ⟨rfl, .inr ⟨rfl, .inl rfl⟩⟩⟩⟩⟩
  refine VO.cons rfl (V1.assign rfl rfl rfl (ltb rfl) ?_)
  refine VO.nil ?_
  refine V.ret ?_
  refine ⟨_, [], ⟨_, _, rfl, rfl, rfl⟩, List.nil_sublist _, ?_, rfl⟩
  exact congrArg PV.bool (by rw [List.length_map]; exact good_eq c)

theorem eqIntS_ok (ρ ρ' rn : Nat) (l m : List Int) (hl : l.length ≤ 1048576) (hm : m.length ≤ 1048576) : Does Try.prog 34 [.vl ρ 1 (l.map encInt), .vl ρ' 1 (m.map encInt)] [] rn (fun x H => x = .bool (decide (l = m)) ∧ H = []) := by
  refine Does.intro (N := 26) Try.func34 rfl rfl rfl rfl ?_
  intro w0 S0
  refine V.seq ?_
  refine V.region ?_
  refine VO.cons rfl (V1.assign rfl rfl rfl (ltb rfl) ?_)
  refine VO.nil ?_
  refine V.seq ?_
  refine V.seq ?_
  refine V.region ?_
  refine VO.cons rfl (V1.move rfl rfl rfl (ltb rfl) ?_)
  first | refine VO.cons rfl (V1.lenVl rfl rfl rfl rfl rfl rfl isl_22 (ltb rfl) ?_) | refine VO.cons rfl (V1.lenSref rfl rfl rfl rfl rfl rfl isl_22 (ltb rfl) ?_) | refine VO.cons rfl (V1.lenNils rfl rfl rfl rfl rfl rfl isl_22 (ltb rfl) ?_)
  refine VO.cons rfl (V1.move rfl rfl rfl (ltb rfl) ?_)
  first | refine VO.cons rfl (V1.lenVl rfl rfl rfl rfl rfl rfl isl_22 (ltb rfl) ?_) | refine VO.cons rfl (V1.lenSref rfl rfl rfl rfl rfl rfl isl_22 (ltb rfl) ?_) | refine VO.cons rfl (V1.lenNils rfl rfl rfl rfl rfl rfl isl_22 (ltb rfl) ?_)
  refine VO.cons rfl (V1.int rfl rfl rfl rfl rfl (ltb rfl) ?_)
  refine VO.nil ?_
  refine V.keep 26 [0, 1, 10] [] rfl (⟨_, _, rfl, rfl, ⟨_, _, rfl, rfl, ⟨_, _, rfl, rfl, rfl⟩⟩⟩) (rfl) rfl ?_
  refine V.cond rfl (fun hc0 => ?_) (fun hc0 => ?_)
  · skip
    have hcr0 := hc0
    try simp only [decide_eq_true_eq, decide_eq_false_iff_not, List.length_map, Bool.and_eq_true, Bool.or_eq_true, Bool.not_eq_true', Bool.not_eq_false', Bool.and_eq_false_iff, Bool.or_eq_false_iff, beq_iff_eq, bne_iff_ne, beq_eq_false_iff_ne, bne_eq_false_iff_eq, Int.not_lt, Int.not_le, ne_eq] at hc0
    refine V.seq ?_
    refine V.region ?_
    refine VO.cons rfl (V1.assign rfl rfl rfl (ltb rfl) ?_)
    refine VO.nil ?_
    refine V.ret ?_
    refine ⟨_, [], ⟨_, _, rfl, rfl, rfl⟩, List.nil_sublist _, ?_, rfl⟩
    exact congrArg PV.bool (decide_eq_false fun h => hc0 (by rw [h])).symm
  · skip
    have hcr0 := hc0
    try simp only [decide_eq_true_eq, decide_eq_false_iff_not, List.length_map, Bool.and_eq_true, Bool.or_eq_true, Bool.not_eq_true', Bool.not_eq_false', Bool.and_eq_false_iff, Bool.or_eq_false_iff, beq_iff_eq, bne_iff_ne, beq_eq_false_iff_ne, bne_eq_false_iff_eq, Int.not_lt, Int.not_le, ne_eq] at hc0
    refine V.skip ?_
    refine V.seq ?_
    refine V.seq ?_
    refine V.region ?_
    refine VO.cons rfl (V1.assign rfl rfl rfl (ltb rfl) ?_)
    refine VO.nil ?_
    refine V.block ?_
    refine V.keep 26 [5, 0, 1] [] rfl (⟨_, _, rfl, rfl, ⟨_, _, rfl, rfl, ⟨_, _, rfl, rfl, rfl⟩⟩⟩) (rfl) rfl ?_
    refine V.loopE (D := Nat) (fun k => [(5, .int .i64 (k : Int))]) (fun k => []) (fun k => k ≤ l.length ∧ l.take k = m.take k) (fun k => l.length - k) 0 rfl (⟨by omega, rfl⟩) ?_
    rintro k ⟨hk, hr⟩
    refine V.seq ?_
    refine V.seq ?_
    refine V.region ?_
    refine VO.cons rfl (V1.move rfl rfl rfl (ltb rfl) ?_)
    refine VO.cons rfl (V1.move rfl rfl rfl (ltb rfl) ?_)
    first | refine VO.cons rfl (V1.lenVl rfl rfl rfl rfl rfl rfl isl_22 (ltb rfl) ?_) | refine VO.cons rfl (V1.lenSref rfl rfl rfl rfl rfl rfl isl_22 (ltb rfl) ?_) | refine VO.cons rfl (V1.lenNils rfl rfl rfl rfl rfl rfl isl_22 (ltb rfl) ?_)
    refine VO.cons rfl (V1.int rfl rfl rfl rfl rfl (ltb rfl) ?_)
    refine VO.nil ?_
    refine V.keep 26 [0, 1, 5, 14] [] rfl (⟨_, _, rfl, rfl, ⟨_, _, rfl, rfl, ⟨_, _, rfl, rfl, ⟨_, _, rfl, rfl, rfl⟩⟩⟩⟩) (rfl) rfl ?_
    refine V.cond rfl (fun hc1 => ?_) (fun hc1 => ?_)
    · skip
      have hcr1 := hc1
      try simp only [decide_eq_true_eq, decide_eq_false_iff_not, List.length_map, Bool.and_eq_true, Bool.or_eq_true, Bool.not_eq_true', Bool.not_eq_false', Bool.and_eq_false_iff, Bool.or_eq_false_iff, beq_iff_eq, bne_iff_ne, beq_eq_false_iff_ne, bne_eq_false_iff_eq, Int.not_lt, Int.not_le, ne_eq] at hc1
      refine V.skip ?_
      refine V.seq ?_
      refine V.block ?_
      refine V.seq ?_
      refine V.regionM 26 8 [⟨[(0, none)], [], none⟩, ⟨[(5, none)], [], none⟩, ⟨[(17, some 1), (18, some 0)], [], none⟩, ⟨[(19, some 0)], [], none⟩, ⟨[(1, none)], [], none⟩, ⟨[(5, none)], [], none⟩, ⟨[(21, some 1), (22, some 0)], [], none⟩, ⟨[(23, some 0)], [], none⟩] [(0, none), (1, none), (5, none), (20, some 4), (24, some 0)] (⟨_, rfl, ⟨_, rfl, ⟨_, rfl, ⟨_, rfl, ⟨_, rfl, ⟨_, rfl, ⟨_, rfl, ⟨_, rfl, ⟨rfl, rfl⟩⟩⟩⟩⟩⟩⟩⟩⟩) mixed_orders rfl (by decide +kernel) (fun hck6 => ?_)
      refine VP.step (p := ?pv1) rfl rfl rfl (⟨_, _, rfl, rfl, rfl⟩) ?hv1 ?rest1 hck6
      case hv1 =>
        intro E1
        refine (V1.move rfl rfl rfl (ltb rfl) ?_)
        exact rfl
      refine VP.step (p := ?pv2) rfl rfl rfl (⟨_, _, rfl, rfl, rfl⟩) ?hv2 ?rest2 hck6
      case hv2 =>
        intro E1
        refine (V1.move rfl rfl rfl (ltb rfl) ?_)
        exact rfl
      refine VP.step (p := ?pv3) rfl rfl rfl (⟨_, _, rfl, rfl, ⟨_, _, rfl, rfl, rfl⟩⟩) ?hv3 ?rest3 hck6
      case hv3 =>
        intro E1
        first | refine (V1.indexMapN rfl rfl esz_22 rfl rfl (by omega) (ltb rfl) ?_) | refine (V1.indexMap rfl rfl esz_22 rfl rfl (by (first | omega | (simp only [List.length_map, List.length_append, List.length_take, List.length_drop, List.length_replicate, List.length_set, Int.toNat_natCast] at *; omega) | (simp at *; omega))) (by (first | omega | (simp only [List.length_map, List.length_append, List.length_take, List.length_drop, List.length_replicate, List.length_set, Int.toNat_natCast] at *; omega) | (simp at *; omega))) (ltb rfl) ?_) | refine (V1.indexSref rfl rfl esz_22 rfl rfl (by (first | omega | (simp only [List.length_map, List.length_append, List.length_take, List.length_drop, List.length_replicate, List.length_set, Int.toNat_natCast] at *; omega) | (simp at *; omega))) (by (first | omega | (simp only [List.length_map, List.length_append, List.length_take, List.length_drop, List.length_replicate, List.length_set, Int.toNat_natCast] at *; omega) | (simp at *; omega))) (ltb rfl) ?_)
        exact rfl
      refine VP.step (p := ?pv4) rfl rfl rfl (⟨_, _, rfl, rfl, rfl⟩) ?hv4 ?rest4 hck6
      case hv4 =>
        intro E1
        first | refine (V1.loadPin rfl rfl tyk_3 rfl rfl (ltb rfl) ?_) | refine (V1.loadRef (k := 0) rfl rfl tyk_3 rfl rfl rfl rfl rfl (ltb rfl) ?_) | refine (V1.loadRef (k := 1) rfl rfl tyk_3 rfl rfl rfl rfl rfl (ltb rfl) ?_) | refine (V1.loadRef (k := 2) rfl rfl tyk_3 rfl rfl rfl rfl rfl (ltb rfl) ?_)
        exact rfl
      refine VP.step (p := ?pv5) rfl rfl rfl (⟨_, _, rfl, rfl, rfl⟩) ?hv5 ?rest5 hck6
      case hv5 =>
        intro E1
        refine (V1.move rfl rfl rfl (ltb rfl) ?_)
        exact rfl
      refine VP.step (p := ?pv6) rfl rfl rfl (⟨_, _, rfl, rfl, rfl⟩) ?hv6 ?rest6 hck6
      case hv6 =>
        intro E1
        refine (V1.move rfl rfl rfl (ltb rfl) ?_)
        exact rfl
      refine VP.step (p := ?pv7) rfl rfl rfl (⟨_, _, rfl, rfl, ⟨_, _, rfl, rfl, rfl⟩⟩) ?hv7 ?rest7 hck6
      case hv7 =>
        intro E1
        first | refine (V1.indexMapN rfl rfl esz_22 rfl rfl (by omega) (ltb rfl) ?_) | refine (V1.indexMap rfl rfl esz_22 rfl rfl (by (first | omega | (simp only [List.length_map, List.length_append, List.length_take, List.length_drop, List.length_replicate, List.length_set, Int.toNat_natCast] at *; omega) | (simp at *; omega))) (by (first | omega | (simp only [List.length_map, List.length_append, List.length_take, List.length_drop, List.length_replicate, List.length_set, Int.toNat_natCast] at *; omega) | (simp at *; omega))) (ltb rfl) ?_) | refine (V1.indexSref rfl rfl esz_22 rfl rfl (by (first | omega | (simp only [List.length_map, List.length_append, List.length_take, List.length_drop, List.length_replicate, List.length_set, Int.toNat_natCast] at *; omega) | (simp at *; omega))) (by (first | omega | (simp only [List.length_map, List.length_append, List.length_take, List.length_drop, List.length_replicate, List.length_set, Int.toNat_natCast] at *; omega) | (simp at *; omega))) (ltb rfl) ?_)
        exact rfl
      refine VP.step (p := ?pv8) rfl rfl rfl (⟨_, _, rfl, rfl, rfl⟩) ?hv8 ?rest8 hck6
      case hv8 =>
        intro E1
        first | refine (V1.loadPin rfl rfl tyk_3 rfl rfl (ltb rfl) ?_) | refine (V1.loadRef (k := 0) rfl rfl tyk_3 rfl rfl rfl rfl rfl (ltb rfl) ?_) | refine (V1.loadRef (k := 1) rfl rfl tyk_3 rfl rfl rfl rfl rfl (ltb rfl) ?_) | refine (V1.loadRef (k := 2) rfl rfl tyk_3 rfl rfl rfl rfl rfl (ltb rfl) ?_)
        exact rfl
      refine VP.fin rfl (⟨_, _, rfl, rfl, ⟨_, _, rfl, rfl, ⟨_, _, rfl, rfl, ⟨_, _, rfl, rfl, ⟨_, _, rfl, rfl, rfl⟩⟩⟩⟩⟩) ?_
      refine VO.cons rfl (V1.int rfl rfl rfl rfl rfl (ltb rfl) ?_)
      refine VO.nil ?_
      refine V.keep 26 [0, 1, 5, 25] [] rfl (⟨_, _, rfl, rfl, ⟨_, _, rfl, rfl, ⟨_, _, rfl, rfl, ⟨_, _, rfl, rfl, rfl⟩⟩⟩⟩) (rfl) rfl ?_
      refine V.cond rfl (fun hc2 => ?_) (fun hc2 => ?_)
      · skip
        have hcr2 := hc2
        try simp only [decide_eq_true_eq, decide_eq_false_iff_not, List.length_map, Bool.and_eq_true, Bool.or_eq_true, Bool.not_eq_true', Bool.not_eq_false', Bool.and_eq_false_iff, Bool.or_eq_false_iff, beq_iff_eq, bne_iff_ne, beq_eq_false_iff_ne, bne_eq_false_iff_eq, Int.not_lt, Int.not_le, ne_eq] at hc2
        refine V.seq ?_
        refine V.region ?_
        refine VO.cons rfl (V1.assign rfl rfl rfl (ltb rfl) ?_)
        refine VO.nil ?_
        refine V.ret ?_
        refine ⟨_, [], ⟨_, _, rfl, rfl, rfl⟩, List.nil_sublist _, ?_, rfl⟩
        exact congrArg PV.bool (decide_eq_false fun h => hc2 (by rw [h])).symm
      · skip
        have hcr2 := hc2
        try simp only [decide_eq_true_eq, decide_eq_false_iff_not, List.length_map, Bool.and_eq_true, Bool.or_eq_true, Bool.not_eq_true', Bool.not_eq_false', Bool.and_eq_false_iff, Bool.or_eq_false_iff, beq_iff_eq, bne_iff_ne, beq_eq_false_iff_ne, bne_eq_false_iff_eq, Int.not_lt, Int.not_le, ne_eq] at hc2
        refine V.skip ?_
        refine V.region ?_
        refine VO.cons rfl (V1.move rfl rfl rfl (ltb rfl) ?_)
        refine VO.cons rfl (V1.int rfl rfl rfl rfl rfl (ltb rfl) ?_)
        refine VO.cons rfl (V1.assign rfl rfl rfl (ltb rfl) ?_)
        refine VO.nil ?_
        refine ⟨k + 1, ⟨by omega, by rw [take_succ_getD (by omega), take_succ_getD (by omega), hr, hc2]⟩, by omega, Keeps.mk (ks := []) rfl ⟨?_, rfl, rfl, trivial⟩ (rfl) rfl⟩
        · exact someInt (by simp (disch := omega) only [wrap64_id]; omega)
    · skip
      have hcr1 := hc1
      try simp only [decide_eq_true_eq, decide_eq_false_iff_not, List.length_map, Bool.and_eq_true, Bool.or_eq_true, Bool.not_eq_true', Bool.not_eq_false', Bool.and_eq_false_iff, Bool.or_eq_false_iff, beq_iff_eq, bne_iff_ne, beq_eq_false_iff_ne, bne_eq_false_iff_eq, Int.not_lt, Int.not_le, ne_eq] at hc1
      refine V.exit ?_
      refine V.seq ?_
      refine V.region ?_
      refine VO.cons rfl (V1.assign rfl rfl rfl (ltb rfl) ?_)
      refine VO.nil ?_
      refine V.ret ?_
      refine ⟨_, [], ⟨_, _, rfl, rfl, rfl⟩, List.nil_sublist _, ?_, rfl⟩
      exact congrArg PV.bool (decide_eq_true (by rw [List.take_of_length_le (by omega), List.take_of_length_le (by omega)] at hr; exact hr)).symm

theorem szIntS_ok (ρ rn : Nat) (l : List Int) (n : Int) (hl : l.length < 9223372036854775808) (h0 : -1 ≤ n) (h1 : n ≤ 1048576) : Does Try.prog 67 [.vl ρ 1 (l.map encInt), .int .i64 n] [] rn (fun x H => x = .int .i64 (if n - l.length < 0 then -1 else n - l.length) ∧ H = []) := by
  refine Does.intro (N := 12) Try.func67 rfl rfl rfl rfl ?_
  intro w0 S0
  refine V.seq ?_
  refine V.region ?_
  refine VO.cons rfl (V1.assign rfl rfl rfl (ltb rfl) ?_)
  refine VO.nil ?_
  refine V.seq ?_
  refine V.region ?_
  refine VO.cons rfl (V1.move rfl rfl rfl (ltb rfl) ?_)
  refine VO.cons rfl (V1.move rfl rfl rfl (ltb rfl) ?_)
  first | refine VO.cons rfl (V1.lenVl rfl rfl rfl rfl rfl rfl isl_22 (ltb rfl) ?_) | refine VO.cons rfl (V1.lenSref rfl rfl rfl rfl rfl rfl isl_22 (ltb rfl) ?_) | refine VO.cons rfl (V1.lenNils rfl rfl rfl rfl rfl rfl isl_22 (ltb rfl) ?_)
  refine VO.cons rfl (V1.int rfl rfl rfl rfl rfl (ltb rfl) ?_)
  refine VO.weaken (Keeps.say 8 (y := .int .i64 (n - l.length)) rfl (by simp only [List.length_map]; rw [wrap64_id (by omega) (by omega)])) ?_
  refine VO.cons rfl (V1.assign rfl rfl rfl (ltb rfl) ?_)
  refine VO.nil ?_
  refine V.keep 12 [1] [] rfl (⟨_, _, rfl, rfl, rfl⟩) (rfl) rfl ?_
  refine V.seq ?_
  refine V.seq ?_
  refine V.region ?_
  refine VO.cons rfl (V1.move rfl rfl rfl (ltb rfl) ?_)
  refine VO.cons rfl (V1.int rfl rfl rfl rfl rfl (ltb rfl) ?_)
  refine VO.nil ?_
  refine V.cond rfl (fun hc0 => ?_) (fun hc0 => ?_)
  · skip
    have hcr0 := hc0
    try simp only [decide_eq_true_eq, decide_eq_false_iff_not, List.length_map, Bool.and_eq_true, Bool.or_eq_true, Bool.not_eq_true', Bool.not_eq_false', Bool.and_eq_false_iff, Bool.or_eq_false_iff, beq_iff_eq, bne_iff_ne, beq_eq_false_iff_ne, bne_eq_false_iff_eq, Int.not_lt, Int.not_le, ne_eq] at hc0
    refine V.seq ?_
    refine V.region ?_
    refine VO.cons rfl (V1.assign rfl rfl rfl (ltb rfl) ?_)
    refine VO.nil ?_
    refine V.ret ?_
    refine ⟨_, [], ⟨_, _, rfl, rfl, rfl⟩, List.nil_sublist _, ?_, rfl⟩
    exact congrArg (PV.int .i64) (if_pos hc0).symm
  · skip
    have hcr0 := hc0
    try simp only [decide_eq_true_eq, decide_eq_false_iff_not, List.length_map, Bool.and_eq_true, Bool.or_eq_true, Bool.not_eq_true', Bool.not_eq_false', Bool.and_eq_false_iff, Bool.or_eq_false_iff, beq_iff_eq, bne_iff_ne, beq_eq_false_iff_ne, bne_eq_false_iff_eq, Int.not_lt, Int.not_le, ne_eq] at hc0
    refine V.skip ?_
    refine V.seq ?_
    refine V.region ?_
    refine VO.cons rfl (V1.move rfl rfl rfl (ltb rfl) ?_)
    refine VO.cons rfl (V1.assign rfl rfl rfl (ltb rfl) ?_)
    refine VO.nil ?_
    refine V.ret ?_
    refine ⟨_, [], ⟨_, _, rfl, rfl, rfl⟩, List.nil_sublist _, ?_, rfl⟩
    exact congrArg (PV.int .i64) (if_neg (by omega)).symm

theorem szCarton_ok (ρ rn : Nat) (c : Carton) (n : Int) (hl : c.files.length < 9223372036854775808) (h0 : -1 ≤ n) (h1 : n ≤ 1048576) : Does Try.prog 16 [encCarton ρ c, .int .i64 n] [] rn (fun x H => x = .int .i64 (if n - c.files.length < 0 then -1 else n - c.files.length) ∧ H = []) := by
  refine Does.intro (N := 12) Try.func16 rfl rfl rfl rfl ?_
  intro w0 S0
  refine V.seq ?_
  refine V.region ?_
  refine VO.cons rfl (V1.boxN (n := 5) rfl rfl rfl rfl rfl (ltb rfl) ?_)
  intro b2
  refine VO.cons rfl (V1.assign rfl rfl rfl (ltb rfl) ?_)
  refine VO.nil ?_
  refine V.seq ?_
  refine V.region ?_
  first | refine VO.cons rfl (V1.fieldPin rfl rfl fo_24_3 rfl (ltb rfl) ?_) | refine VO.cons rfl (V1.fieldRef rfl rfl fo_24_3 rfl (ltb rfl) ?_)
  first | refine VO.cons rfl (V1.loadPin rfl rfl tyk_22 rfl rfl (ltb rfl) ?_) | refine VO.cons rfl (V1.loadRef (k := 0) rfl rfl tyk_22 rfl rfl rfl rfl rfl (ltb rfl) ?_) | refine VO.cons rfl (V1.loadRef (k := 1) rfl rfl tyk_22 rfl rfl rfl rfl rfl (ltb rfl) ?_) | refine VO.cons rfl (V1.loadRef (k := 2) rfl rfl tyk_22 rfl rfl rfl rfl rfl (ltb rfl) ?_)
  refine VO.cons rfl (V1.move rfl rfl rfl (ltb rfl) ?_)
  refine VO.cons rfl (V1.call rfl rfl rfl cok_67 rfl (szIntS_ok _ _ _ _ hl h0 h1) rfl (ltb rfl) ?_)
  rintro _ _ ⟨rfl, rfl⟩
  refine VO.cons rfl (V1.assign rfl rfl rfl (ltb rfl) ?_)
  refine VO.nil ?_
  refine V.keep 12 [1] [] rfl (⟨_, _, rfl, rfl, rfl⟩) (rfl) rfl ?_
  refine V.seq ?_
  refine V.seq ?_
  refine V.region ?_
  refine VO.cons rfl (V1.move rfl rfl rfl (ltb rfl) ?_)
  refine VO.cons rfl (V1.int rfl rfl rfl rfl rfl (ltb rfl) ?_)
  refine VO.nil ?_
  refine V.cond rfl (fun hc0 => ?_) (fun hc0 => ?_)
  · skip
    have hcr0 := hc0
    try simp only [decide_eq_true_eq, decide_eq_false_iff_not, List.length_map, Bool.and_eq_true, Bool.or_eq_true, Bool.not_eq_true', Bool.not_eq_false', Bool.and_eq_false_iff, Bool.or_eq_false_iff, beq_iff_eq, bne_iff_ne, beq_eq_false_iff_ne, bne_eq_false_iff_eq, Int.not_lt, Int.not_le, ne_eq] at hc0
    refine V.seq ?_
    refine V.region ?_
    refine VO.cons rfl (V1.assign rfl rfl rfl (ltb rfl) ?_)
    refine VO.nil ?_
    refine V.ret ?_
    refine ⟨_, [], ⟨_, _, rfl, rfl, rfl⟩, List.nil_sublist _, ?_, rfl⟩
    exact congrArg (PV.int .i64) (if_pos (by split at hc0 <;> omega)).symm
  · skip
    have hcr0 := hc0
    try simp only [decide_eq_true_eq, decide_eq_false_iff_not, List.length_map, Bool.and_eq_true, Bool.or_eq_true, Bool.not_eq_true', Bool.not_eq_false', Bool.and_eq_false_iff, Bool.or_eq_false_iff, beq_iff_eq, bne_iff_ne, beq_eq_false_iff_ne, bne_eq_false_iff_eq, Int.not_lt, Int.not_le, ne_eq] at hc0
    refine V.skip ?_
    refine V.seq ?_
    refine V.region ?_
    refine VO.cons rfl (V1.move rfl rfl rfl (ltb rfl) ?_)
    refine VO.cons rfl (V1.assign rfl rfl rfl (ltb rfl) ?_)
    refine VO.nil ?_
    refine V.ret ?_
    refine ⟨_, [], ⟨_, _, rfl, rfl, rfl⟩, List.nil_sublist _, rfl, rfl⟩

theorem toIntS_ok (ρ rn : Nat) (l : List Int) (hl : l.length ≤ 1048576) : Does Try.prog 47 [.vl ρ 1 (l.map encInt)] [] rn (fun x H => x = .vl rn 1 (l.map encInt) ∧ H = []) := by
  refine Does.intro (N := 22) Try.func47 rfl rfl rfl rfl ?_
  intro w0 S0
  refine V.seq ?_
  refine V.region ?_
  refine VO.cons rfl (V1.assign rfl rfl rfl (ltb rfl) ?_)
  refine VO.nil ?_
  refine V.seq ?_
  refine V.region ?_
  refine VO.cons rfl (V1.move rfl rfl rfl (ltb rfl) ?_)
  first | refine VO.cons rfl (V1.lenVl rfl rfl rfl rfl rfl rfl isl_22 (ltb rfl) ?_) | refine VO.cons rfl (V1.lenSref rfl rfl rfl rfl rfl rfl isl_22 (ltb rfl) ?_) | refine VO.cons rfl (V1.lenNils rfl rfl rfl rfl rfl rfl isl_22 (ltb rfl) ?_)
  refine VO.cons rfl (V1.makeSlice rfl rfl esz_22 eby_22 zk_3 rfl rfl (by (first | omega | (simp only [List.length_map, List.length_append, List.length_take, List.length_drop, List.length_replicate, List.length_set, Int.toNat_natCast] at *; omega) | (simp at *; omega))) (by (first | omega | (simp only [List.length_map, List.length_append, List.length_take, List.length_drop, List.length_replicate, List.length_set, Int.toNat_natCast] at *; omega) | (simp at *; omega))) (by (first | omega | (simp only [List.length_map, List.length_append, List.length_take, List.length_drop, List.length_replicate, List.length_set, Int.toNat_natCast] at *; omega) | (simp at *; omega))) rfl (ltb rfl) ?_)
  intro b7
  refine VO.weaken (Keeps.say 7 (y := .sref b7 1 0 l.length) rfl (by simp)) ?_
  refine VO.cons rfl (V1.assign rfl rfl rfl (ltb rfl) ?_)
  refine VO.nil ?_
  refine V.keep 22 [0, 3] [0] rfl (⟨_, _, rfl, rfl, ⟨_, _, rfl, rfl, rfl⟩⟩) (⟨_, _, rfl, rfl, rfl⟩) rfl ?_
  refine V.seq ?_
  refine V.seq ?_
  refine V.region ?_
  refine VO.cons rfl (V1.assign rfl rfl rfl (ltb rfl) ?_)
  refine VO.nil ?_
  refine V.block ?_
  refine V.weaken (Keeps.sayObj 0 (ys := (l.take 0).map encInt ++ List.replicate (l.length - 0) (.int .i64 0)) rfl (by simp)) ?_
  refine V.keep 22 [4, 0, 3] [0] rfl (⟨_, _, rfl, rfl, ⟨_, _, rfl, rfl, ⟨_, _, rfl, rfl, rfl⟩⟩⟩) (⟨_, _, rfl, rfl, rfl⟩) rfl ?_
  refine V.loopE (D := Nat) (fun k => [(4, .int .i64 (k : Int))]) (fun k => [(b7, ⟨1, (l.take k).map encInt ++ List.replicate (l.length - k) (.int .i64 0)⟩)]) (fun k => k ≤ l.length) (fun k => l.length - k) 0 rfl (by omega) ?_
  rintro k hk
  refine V.seq ?_
  refine V.seq ?_
  refine V.region ?_
  refine VO.cons rfl (V1.move rfl rfl rfl (ltb rfl) ?_)
  refine VO.cons rfl (V1.move rfl rfl rfl (ltb rfl) ?_)
  first | refine VO.cons rfl (V1.lenVl rfl rfl rfl rfl rfl rfl isl_22 (ltb rfl) ?_) | refine VO.cons rfl (V1.lenSref rfl rfl rfl rfl rfl rfl isl_22 (ltb rfl) ?_) | refine VO.cons rfl (V1.lenNils rfl rfl rfl rfl rfl rfl isl_22 (ltb rfl) ?_)
  refine VO.cons rfl (V1.int rfl rfl rfl rfl rfl (ltb rfl) ?_)
  refine VO.nil ?_
  refine V.keep 22 [0, 3, 4, 11] [0] rfl (⟨_, _, rfl, rfl, ⟨_, _, rfl, rfl, ⟨_, _, rfl, rfl, ⟨_, _, rfl, rfl, rfl⟩⟩⟩⟩) (⟨_, _, rfl, rfl, rfl⟩) rfl ?_
  refine V.cond rfl (fun hc0 => ?_) (fun hc0 => ?_)
  · skip
    have hcr0 := hc0
    try simp only [decide_eq_true_eq, decide_eq_false_iff_not, List.length_map, Bool.and_eq_true, Bool.or_eq_true, Bool.not_eq_true', Bool.not_eq_false', Bool.and_eq_false_iff, Bool.or_eq_false_iff, beq_iff_eq, bne_iff_ne, beq_eq_false_iff_ne, bne_eq_false_iff_eq, Int.not_lt, Int.not_le, ne_eq] at hc0
    refine V.skip ?_
    refine V.seq ?_
    refine V.block ?_
    refine V.region ?_
    refine VO.cons rfl (V1.move rfl rfl rfl (ltb rfl) ?_)
    refine VO.cons rfl (V1.move rfl rfl rfl (ltb rfl) ?_)
    refine VO.cons rfl (V1.move rfl rfl rfl (ltb rfl) ?_)
    refine VO.cons rfl (V1.move rfl rfl rfl (ltb rfl) ?_)
    refine VO.cons rfl (V1.indexMapN rfl rfl esz_22 rfl rfl (by omega) (ltb rfl) ?_)
    first | refine VO.cons rfl (V1.loadPin rfl rfl tyk_3 rfl rfl (ltb rfl) ?_) | refine VO.cons rfl (V1.loadRef (k := 0) rfl rfl tyk_3 rfl rfl rfl rfl rfl (ltb rfl) ?_) | refine VO.cons rfl (V1.loadRef (k := 1) rfl rfl tyk_3 rfl rfl rfl rfl rfl (ltb rfl) ?_) | refine VO.cons rfl (V1.loadRef (k := 2) rfl rfl tyk_3 rfl rfl rfl rfl rfl (ltb rfl) ?_)
    refine VO.cons rfl (V1.indexSref rfl rfl esz_22 rfl rfl (by omega) (by omega) (ltb rfl) ?_)
    refine VO.weaken (Keeps.say 20 (y := .ref b7 1 k 0) rfl (by simp)) ?_
    refine VO.weaken (Keeps.say 20 (y := .ref b7 1 k 0) rfl (by simp)) ?_
    refine VO.cons rfl (V1.storeRef (k := 0) rfl rfl tyk_3 rfl rfl rfl rfl (y := .int .i64 0) (fill_get (by omega)) rfl rfl rfl rfl ?_)
    refine VO.nil ?_
    refine V.keep 22 [0, 3, 4] [0] rfl (⟨_, _, rfl, rfl, ⟨_, _, rfl, rfl, ⟨_, _, rfl, rfl, rfl⟩⟩⟩) (⟨_, _, rfl, rfl, rfl⟩) rfl ?_
    refine V.region ?_
    refine VO.cons rfl (V1.move rfl rfl rfl (ltb rfl) ?_)
    refine VO.cons rfl (V1.int rfl rfl rfl rfl rfl (ltb rfl) ?_)
    refine VO.cons rfl (V1.assign rfl rfl rfl (ltb rfl) ?_)
    refine VO.nil ?_
    refine ⟨k + 1, by omega, by omega, Keeps.mk (ks := [0]) rfl ⟨?_, rfl, rfl, trivial⟩ (⟨_, _, rfl, ?_, rfl⟩) rfl⟩
    · exact someInt (by simp (disch := omega) only [wrap64_id]; omega)
    · exact someObj (fill_set (f := encInt) (z := .int .i64 0) (by omega))
  · skip
    have hcr0 := hc0
    try simp only [decide_eq_true_eq, decide_eq_false_iff_not, List.length_map, Bool.and_eq_true, Bool.or_eq_true, Bool.not_eq_true', Bool.not_eq_false', Bool.and_eq_false_iff, Bool.or_eq_false_iff, beq_iff_eq, bne_iff_ne, beq_eq_false_iff_ne, bne_eq_false_iff_eq, Int.not_lt, Int.not_le, ne_eq] at hc0
    refine V.exit ?_
    refine V.seq ?_
    refine V.region ?_
    refine VO.cons rfl (V1.move rfl rfl rfl (ltb rfl) ?_)
    refine VO.cons rfl (V1.assign rfl rfl rfl (ltb rfl) ?_)
    obtain rfl : k = l.length := by omega
    refine VO.weaken (Keeps.freezeAll 2 0 rn rfl rfl rfl (by simp) (by simp [roL_iff, PV.ro]) (.inl rfl) (by simp)) ?_
    refine VO.nil ?_
    refine V.ret ?_
    exact ⟨_, [], ⟨_, _, rfl, rfl, rfl⟩, List.nil_sublist _, by simp [packPV], rfl⟩
theorem eqCarton_ok (ρ ρ' rn : Nat) (c d : Carton) (hl : c.files.length ≤ 1048576) (hm : d.files.length ≤ 1048576) : Does Try.prog 20 [encCarton ρ c, encCarton ρ' d] [] rn (fun x H => x = .bool (decide (c = d)) ∧ H = []) := by
  refine Does.intro (N := 31) Try.func20 rfl rfl rfl rfl ?_
  intro w0 S0
  refine V.seq ?_
  refine V.region ?_
  refine VO.cons rfl (V1.boxN (n := 5) rfl rfl rfl rfl rfl (ltb rfl) ?_)
  intro b2
  refine VO.cons rfl (V1.boxN (n := 5) rfl rfl rfl rfl rfl (ltb rfl) ?_)
  intro b3
  refine VO.cons rfl (V1.assign rfl rfl rfl (ltb rfl) ?_)
  refine VO.nil ?_
  refine V.seq ?_
  refine V.seq ?_
  refine V.region ?_
  first | refine VO.cons rfl (V1.fieldPin rfl rfl fo_27_0 rfl (ltb rfl) ?_) | refine VO.cons rfl (V1.fieldRef rfl rfl fo_27_0 rfl (ltb rfl) ?_)
  first | refine VO.cons rfl (V1.loadPin rfl rfl tyk_3 rfl rfl (ltb rfl) ?_) | refine VO.cons rfl (V1.loadRef (k := 0) rfl rfl tyk_3 rfl rfl rfl rfl rfl (ltb rfl) ?_) | refine VO.cons rfl (V1.loadRef (k := 1) rfl rfl tyk_3 rfl rfl rfl rfl rfl (ltb rfl) ?_) | refine VO.cons rfl (V1.loadRef (k := 2) rfl rfl tyk_3 rfl rfl rfl rfl rfl (ltb rfl) ?_)
  first | refine VO.cons rfl (V1.fieldPin rfl rfl fo_27_0 rfl (ltb rfl) ?_) | refine VO.cons rfl (V1.fieldRef rfl rfl fo_27_0 rfl (ltb rfl) ?_)
  first | refine VO.cons rfl (V1.loadPin rfl rfl tyk_3 rfl rfl (ltb rfl) ?_) | refine VO.cons rfl (V1.loadRef (k := 0) rfl rfl tyk_3 rfl rfl rfl rfl rfl (ltb rfl) ?_) | refine VO.cons rfl (V1.loadRef (k := 1) rfl rfl tyk_3 rfl rfl rfl rfl rfl (ltb rfl) ?_) | refine VO.cons rfl (V1.loadRef (k := 2) rfl rfl tyk_3 rfl rfl rfl rfl rfl (ltb rfl) ?_)
  refine VO.cons rfl (V1.int rfl rfl rfl rfl rfl (ltb rfl) ?_)
  refine VO.nil ?_
  refine V.keep 31 [2, 3, 9] [0, 1] rfl (⟨_, _, rfl, rfl, ⟨_, _, rfl, rfl, ⟨_, _, rfl, rfl, rfl⟩⟩⟩) (⟨_, _, rfl, rfl, ⟨_, _, rfl, rfl, rfl⟩⟩) rfl ?_
  refine V.cond rfl (fun hc0 => ?_) (fun hc0 => ?_)
  · skip
    have hcr0 := hc0
    try simp only [decide_eq_true_eq, decide_eq_false_iff_not, List.length_map, Bool.and_eq_true, Bool.or_eq_true, Bool.not_eq_true', Bool.not_eq_false', Bool.and_eq_false_iff, Bool.or_eq_false_iff, beq_iff_eq, bne_iff_ne, beq_eq_false_iff_ne, bne_eq_false_iff_eq, Int.not_lt, Int.not_le, ne_eq] at hc0
    refine V.seq ?_
    refine V.region ?_
    refine VO.cons rfl (V1.assign rfl rfl rfl (ltb rfl) ?_)
    refine VO.nil ?_
    refine V.ret ?_
    refine ⟨_, [], ⟨_, _, rfl, rfl, rfl⟩, List.nil_sublist _, ?_, rfl⟩
    exact congrArg PV.bool (decide_eq_false fun h => hc0 (by rw [h])).symm
  · skip
    have hcr0 := hc0
    try simp only [decide_eq_true_eq, decide_eq_false_iff_not, List.length_map, Bool.and_eq_true, Bool.or_eq_true, Bool.not_eq_true', Bool.not_eq_false', Bool.and_eq_false_iff, Bool.or_eq_false_iff, beq_iff_eq, bne_iff_ne, beq_eq_false_iff_ne, bne_eq_false_iff_eq, Int.not_lt, Int.not_le, ne_eq] at hc0
    refine V.skip ?_
    refine V.seq ?_
    refine V.seq ?_
    refine V.region ?_
    first | refine VO.cons rfl (V1.fieldPin rfl rfl fo_27_1 rfl (ltb rfl) ?_) | refine VO.cons rfl (V1.fieldRef rfl rfl fo_27_1 rfl (ltb rfl) ?_)
    first | refine VO.cons rfl (V1.loadPin rfl rfl tyk_3 rfl rfl (ltb rfl) ?_) | refine VO.cons rfl (V1.loadRef (k := 0) rfl rfl tyk_3 rfl rfl rfl rfl rfl (ltb rfl) ?_) | refine VO.cons rfl (V1.loadRef (k := 1) rfl rfl tyk_3 rfl rfl rfl rfl rfl (ltb rfl) ?_) | refine VO.cons rfl (V1.loadRef (k := 2) rfl rfl tyk_3 rfl rfl rfl rfl rfl (ltb rfl) ?_)
    first | refine VO.cons rfl (V1.fieldPin rfl rfl fo_27_1 rfl (ltb rfl) ?_) | refine VO.cons rfl (V1.fieldRef rfl rfl fo_27_1 rfl (ltb rfl) ?_)
    first | refine VO.cons rfl (V1.loadPin rfl rfl tyk_3 rfl rfl (ltb rfl) ?_) | refine VO.cons rfl (V1.loadRef (k := 0) rfl rfl tyk_3 rfl rfl rfl rfl rfl (ltb rfl) ?_) | refine VO.cons rfl (V1.loadRef (k := 1) rfl rfl tyk_3 rfl rfl rfl rfl rfl (ltb rfl) ?_) | refine VO.cons rfl (V1.loadRef (k := 2) rfl rfl tyk_3 rfl rfl rfl rfl rfl (ltb rfl) ?_)
    refine VO.cons rfl (V1.int rfl rfl rfl rfl rfl (ltb rfl) ?_)
    refine VO.nil ?_
    refine V.keep 31 [2, 3, 14] [0, 1] rfl (⟨_, _, rfl, rfl, ⟨_, _, rfl, rfl, ⟨_, _, rfl, rfl, rfl⟩⟩⟩) (⟨_, _, rfl, rfl, ⟨_, _, rfl, rfl, rfl⟩⟩) rfl ?_
    refine V.cond rfl (fun hc1 => ?_) (fun hc1 => ?_)
    · skip
      have hcr1 := hc1
      try simp only [decide_eq_true_eq, decide_eq_false_iff_not, List.length_map, Bool.and_eq_true, Bool.or_eq_true, Bool.not_eq_true', Bool.not_eq_false', Bool.and_eq_false_iff, Bool.or_eq_false_iff, beq_iff_eq, bne_iff_ne, beq_eq_false_iff_ne, bne_eq_false_iff_eq, Int.not_lt, Int.not_le, ne_eq] at hc1
      refine V.seq ?_
      refine V.region ?_
      refine VO.cons rfl (V1.assign rfl rfl rfl (ltb rfl) ?_)
      refine VO.nil ?_
      refine V.ret ?_
      refine ⟨_, [], ⟨_, _, rfl, rfl, rfl⟩, List.nil_sublist _, ?_, rfl⟩
      exact congrArg PV.bool (decide_eq_false fun h => hc1 (by rw [h])).symm
    · skip
      have hcr1 := hc1
      try simp only [decide_eq_true_eq, decide_eq_false_iff_not, List.length_map, Bool.and_eq_true, Bool.or_eq_true, Bool.not_eq_true', Bool.not_eq_false', Bool.and_eq_false_iff, Bool.or_eq_false_iff, beq_iff_eq, bne_iff_ne, beq_eq_false_iff_ne, bne_eq_false_iff_eq, Int.not_lt, Int.not_le, ne_eq] at hc1
      refine V.skip ?_
      refine V.seq ?_
      refine V.seq ?_
      refine V.region ?_
      first | refine VO.cons rfl (V1.fieldPin rfl rfl fo_27_2 rfl (ltb rfl) ?_) | refine VO.cons rfl (V1.fieldRef rfl rfl fo_27_2 rfl (ltb rfl) ?_)
      first | refine VO.cons rfl (V1.loadPin rfl rfl tyk_3 rfl rfl (ltb rfl) ?_) | refine VO.cons rfl (V1.loadRef (k := 0) rfl rfl tyk_3 rfl rfl rfl rfl rfl (ltb rfl) ?_) | refine VO.cons rfl (V1.loadRef (k := 1) rfl rfl tyk_3 rfl rfl rfl rfl rfl (ltb rfl) ?_) | refine VO.cons rfl (V1.loadRef (k := 2) rfl rfl tyk_3 rfl rfl rfl rfl rfl (ltb rfl) ?_)
      first | refine VO.cons rfl (V1.fieldPin rfl rfl fo_27_2 rfl (ltb rfl) ?_) | refine VO.cons rfl (V1.fieldRef rfl rfl fo_27_2 rfl (ltb rfl) ?_)
      first | refine VO.cons rfl (V1.loadPin rfl rfl tyk_3 rfl rfl (ltb rfl) ?_) | refine VO.cons rfl (V1.loadRef (k := 0) rfl rfl tyk_3 rfl rfl rfl rfl rfl (ltb rfl) ?_) | refine VO.cons rfl (V1.loadRef (k := 1) rfl rfl tyk_3 rfl rfl rfl rfl rfl (ltb rfl) ?_) | refine VO.cons rfl (V1.loadRef (k := 2) rfl rfl tyk_3 rfl rfl rfl rfl rfl (ltb rfl) ?_)
      refine VO.cons rfl (V1.int rfl rfl rfl rfl rfl (ltb rfl) ?_)
      refine VO.nil ?_
      refine V.keep 31 [2, 3, 19] [0, 1] rfl (⟨_, _, rfl, rfl, ⟨_, _, rfl, rfl, ⟨_, _, rfl, rfl, rfl⟩⟩⟩) (⟨_, _, rfl, rfl, ⟨_, _, rfl, rfl, rfl⟩⟩) rfl ?_
      refine V.cond rfl (fun hc2 => ?_) (fun hc2 => ?_)
      · skip
        have hcr2 := hc2
        try simp only [decide_eq_true_eq, decide_eq_false_iff_not, List.length_map, Bool.and_eq_true, Bool.or_eq_true, Bool.not_eq_true', Bool.not_eq_false', Bool.and_eq_false_iff, Bool.or_eq_false_iff, beq_iff_eq, bne_iff_ne, beq_eq_false_iff_ne, bne_eq_false_iff_eq, Int.not_lt, Int.not_le, ne_eq] at hc2
        refine V.seq ?_
        refine V.region ?_
        refine VO.cons rfl (V1.assign rfl rfl rfl (ltb rfl) ?_)
        refine VO.nil ?_
        refine V.ret ?_
        refine ⟨_, [], ⟨_, _, rfl, rfl, rfl⟩, List.nil_sublist _, ?_, rfl⟩
        exact congrArg PV.bool (decide_eq_false fun h => hc2 (by rw [h])).symm
      · skip
        have hcr2 := hc2
        try simp only [decide_eq_true_eq, decide_eq_false_iff_not, List.length_map, Bool.and_eq_true, Bool.or_eq_true, Bool.not_eq_true', Bool.not_eq_false', Bool.and_eq_false_iff, Bool.or_eq_false_iff, beq_iff_eq, bne_iff_ne, beq_eq_false_iff_ne, bne_eq_false_iff_eq, Int.not_lt, Int.not_le, ne_eq] at hc2
        refine V.skip ?_
        refine V.seq ?_
        refine V.seq ?_
        refine V.region ?_
        first | refine VO.cons rfl (V1.fieldPin rfl rfl fo_27_3 rfl (ltb rfl) ?_) | refine VO.cons rfl (V1.fieldRef rfl rfl fo_27_3 rfl (ltb rfl) ?_)
        first | refine VO.cons rfl (V1.loadPin rfl rfl tyk_22 rfl rfl (ltb rfl) ?_) | refine VO.cons rfl (V1.loadRef (k := 0) rfl rfl tyk_22 rfl rfl rfl rfl rfl (ltb rfl) ?_) | refine VO.cons rfl (V1.loadRef (k := 1) rfl rfl tyk_22 rfl rfl rfl rfl rfl (ltb rfl) ?_) | refine VO.cons rfl (V1.loadRef (k := 2) rfl rfl tyk_22 rfl rfl rfl rfl rfl (ltb rfl) ?_)
        first | refine VO.cons rfl (V1.fieldPin rfl rfl fo_27_3 rfl (ltb rfl) ?_) | refine VO.cons rfl (V1.fieldRef rfl rfl fo_27_3 rfl (ltb rfl) ?_)
        first | refine VO.cons rfl (V1.loadPin rfl rfl tyk_22 rfl rfl (ltb rfl) ?_) | refine VO.cons rfl (V1.loadRef (k := 0) rfl rfl tyk_22 rfl rfl rfl rfl rfl (ltb rfl) ?_) | refine VO.cons rfl (V1.loadRef (k := 1) rfl rfl tyk_22 rfl rfl rfl rfl rfl (ltb rfl) ?_) | refine VO.cons rfl (V1.loadRef (k := 2) rfl rfl tyk_22 rfl rfl rfl rfl rfl (ltb rfl) ?_)
        refine VO.cons rfl (V1.call rfl rfl rfl cok_34 rfl (eqIntS_ok _ _ _ _ _ hl hm) rfl (ltb rfl) ?_)
        rintro _ _ ⟨rfl, rfl⟩
        refine VO.cons rfl (V1.not rfl rfl rfl (ltb rfl) ?_)
        refine VO.nil ?_
        refine V.keep 31 [2, 3, 25] [0, 1] rfl (⟨_, _, rfl, rfl, ⟨_, _, rfl, rfl, ⟨_, _, rfl, rfl, rfl⟩⟩⟩) (⟨_, _, rfl, rfl, ⟨_, _, rfl, rfl, rfl⟩⟩) rfl ?_
        refine V.cond rfl (fun hc3 => ?_) (fun hc3 => ?_)
        · skip
          have hcr3 := hc3
          try simp only [decide_eq_true_eq, decide_eq_false_iff_not, List.length_map, Bool.and_eq_true, Bool.or_eq_true, Bool.not_eq_true', Bool.not_eq_false', Bool.and_eq_false_iff, Bool.or_eq_false_iff, beq_iff_eq, bne_iff_ne, beq_eq_false_iff_ne, bne_eq_false_iff_eq, Int.not_lt, Int.not_le, ne_eq] at hc3
          refine V.seq ?_
          refine V.region ?_
          refine VO.cons rfl (V1.assign rfl rfl rfl (ltb rfl) ?_)
          refine VO.nil ?_
          refine V.ret ?_
          refine ⟨_, [], ⟨_, _, rfl, rfl, rfl⟩, List.nil_sublist _, ?_, rfl⟩
          exact congrArg PV.bool (decide_eq_false fun h => hc3 (by rw [h])).symm
        · skip
          have hcr3 := hc3
          try simp only [decide_eq_true_eq, decide_eq_false_iff_not, List.length_map, Bool.and_eq_true, Bool.or_eq_true, Bool.not_eq_true', Bool.not_eq_false', Bool.and_eq_false_iff, Bool.or_eq_false_iff, beq_iff_eq, bne_iff_ne, beq_eq_false_iff_ne, bne_eq_false_iff_eq, Int.not_lt, Int.not_le, ne_eq] at hc3
          refine V.skip ?_
          refine V.seq ?_
          refine V.seq ?_
          refine V.region ?_
          first | refine VO.cons rfl (V1.fieldPin rfl rfl fo_27_4 rfl (ltb rfl) ?_) | refine VO.cons rfl (V1.fieldRef rfl rfl fo_27_4 rfl (ltb rfl) ?_)
          first | refine VO.cons rfl (V1.loadPin rfl rfl tyk_3 rfl rfl (ltb rfl) ?_) | refine VO.cons rfl (V1.loadRef (k := 0) rfl rfl tyk_3 rfl rfl rfl rfl rfl (ltb rfl) ?_) | refine VO.cons rfl (V1.loadRef (k := 1) rfl rfl tyk_3 rfl rfl rfl rfl rfl (ltb rfl) ?_) | refine VO.cons rfl (V1.loadRef (k := 2) rfl rfl tyk_3 rfl rfl rfl rfl rfl (ltb rfl) ?_)
          first | refine VO.cons rfl (V1.fieldPin rfl rfl fo_27_4 rfl (ltb rfl) ?_) | refine VO.cons rfl (V1.fieldRef rfl rfl fo_27_4 rfl (ltb rfl) ?_)
          first | refine VO.cons rfl (V1.loadPin rfl rfl tyk_3 rfl rfl (ltb rfl) ?_) | refine VO.cons rfl (V1.loadRef (k := 0) rfl rfl tyk_3 rfl rfl rfl rfl rfl (ltb rfl) ?_) | refine VO.cons rfl (V1.loadRef (k := 1) rfl rfl tyk_3 rfl rfl rfl rfl rfl (ltb rfl) ?_) | refine VO.cons rfl (V1.loadRef (k := 2) rfl rfl tyk_3 rfl rfl rfl rfl rfl (ltb rfl) ?_)
          refine VO.cons rfl (V1.int rfl rfl rfl rfl rfl (ltb rfl) ?_)
          refine VO.nil ?_
          refine V.keep 31 [30] [] rfl (⟨_, _, rfl, rfl, rfl⟩) (rfl) rfl ?_
          refine V.cond rfl (fun hc4 => ?_) (fun hc4 => ?_)
          · skip
            have hcr4 := hc4
            try simp only [decide_eq_true_eq, decide_eq_false_iff_not, List.length_map, Bool.and_eq_true, Bool.or_eq_true, Bool.not_eq_true', Bool.not_eq_false', Bool.and_eq_false_iff, Bool.or_eq_false_iff, beq_iff_eq, bne_iff_ne, beq_eq_false_iff_ne, bne_eq_false_iff_eq, Int.not_lt, Int.not_le, ne_eq] at hc4
            refine V.seq ?_
            refine V.region ?_
            refine VO.cons rfl (V1.assign rfl rfl rfl (ltb rfl) ?_)
            refine VO.nil ?_
            refine V.ret ?_
            refine ⟨_, [], ⟨_, _, rfl, rfl, rfl⟩, List.nil_sublist _, ?_, rfl⟩
            exact congrArg PV.bool (decide_eq_false fun h => hc4 (by rw [h])).symm
          · skip
            have hcr4 := hc4
            try simp only [decide_eq_true_eq, decide_eq_false_iff_not, List.length_map, Bool.and_eq_true, Bool.or_eq_true, Bool.not_eq_true', Bool.not_eq_false', Bool.and_eq_false_iff, Bool.or_eq_false_iff, beq_iff_eq, bne_iff_ne, beq_eq_false_iff_ne, bne_eq_false_iff_eq, Int.not_lt, Int.not_le, ne_eq] at hc4
            refine V.skip ?_
            refine V.seq ?_
            refine V.region ?_
            refine VO.cons rfl (V1.assign rfl rfl rfl (ltb rfl) ?_)
            refine VO.nil ?_
            refine V.ret ?_
            refine ⟨_, [], ⟨_, _, rfl, rfl, rfl⟩, List.nil_sublist _, ?_, rfl⟩
            exact congrArg PV.bool (decide_eq_true (by cases c; cases d; simp_all)).symm

theorem toCarton_ok (ρ rn : Nat) (c : Carton) (hl : c.files.length ≤ 1048576) : Does Try.prog 18 [encCarton ρ c] [] rn (fun x H => x = encCarton rn c ∧ H = []) := by
  refine Does.intro (N := 21) Try.func18 rfl rfl rfl rfl ?_
  intro w0 S0
  refine V.seq ?_
  refine V.region ?_
  refine VO.cons rfl (V1.boxN (n := 5) rfl rfl rfl rfl rfl (ltb rfl) ?_)
  intro b1
  refine VO.cons rfl (V1.alloc rfl rfl zk_27 (ltb rfl) ?_)
  intro b2
  refine VO.nil ?_
  refine V.seq ?_
  refine V.region ?_
  refine VO.cons rfl (V1.alloc rfl rfl zk_27 (ltb rfl) ?_)
  intro b3
  refine VO.nil ?_
  refine V.seq ?_
  refine V.region ?_
  first | refine VO.cons rfl (V1.fieldPin rfl rfl fo_24_0 rfl (ltb rfl) ?_) | refine VO.cons rfl (V1.fieldRef rfl rfl fo_24_0 rfl (ltb rfl) ?_)
  first | refine VO.cons rfl (V1.loadPin rfl rfl tyk_3 rfl rfl (ltb rfl) ?_) | refine VO.cons rfl (V1.loadRef (k := 0) rfl rfl tyk_3 rfl rfl rfl rfl rfl (ltb rfl) ?_) | refine VO.cons rfl (V1.loadRef (k := 1) rfl rfl tyk_3 rfl rfl rfl rfl rfl (ltb rfl) ?_) | refine VO.cons rfl (V1.loadRef (k := 2) rfl rfl tyk_3 rfl rfl rfl rfl rfl (ltb rfl) ?_)
  first | refine VO.cons rfl (V1.fieldPin rfl rfl fo_27_0 rfl (ltb rfl) ?_) | refine VO.cons rfl (V1.fieldRef rfl rfl fo_27_0 rfl (ltb rfl) ?_)
  first | refine VO.cons rfl (V1.storeRef (k := 0) rfl rfl tyk_3 rfl rfl rfl rfl rfl rfl rfl rfl rfl ?_) | refine VO.cons rfl (V1.storeRef (k := 1) rfl rfl tyk_3 rfl rfl rfl rfl rfl rfl rfl rfl rfl ?_) | refine VO.cons rfl (V1.storeRef (k := 2) rfl rfl tyk_3 rfl rfl rfl rfl rfl rfl rfl rfl rfl ?_)
  refine VO.nil ?_
  refine V.keep 21 [1, 2, 3] [0, 1, 2] rfl (⟨_, _, rfl, rfl, ⟨_, _, rfl, rfl, ⟨_, _, rfl, rfl, rfl⟩⟩⟩) (⟨_, _, rfl, rfl, ⟨_, _, rfl, rfl, ⟨_, _, rfl, rfl, rfl⟩⟩⟩) rfl ?_
  refine V.seq ?_
  refine V.region ?_
  first | refine VO.cons rfl (V1.fieldPin rfl rfl fo_24_1 rfl (ltb rfl) ?_) | refine VO.cons rfl (V1.fieldRef rfl rfl fo_24_1 rfl (ltb rfl) ?_)
  first | refine VO.cons rfl (V1.loadPin rfl rfl tyk_3 rfl rfl (ltb rfl) ?_) | refine VO.cons rfl (V1.loadRef (k := 0) rfl rfl tyk_3 rfl rfl rfl rfl rfl (ltb rfl) ?_) | refine VO.cons rfl (V1.loadRef (k := 1) rfl rfl tyk_3 rfl rfl rfl rfl rfl (ltb rfl) ?_) | refine VO.cons rfl (V1.loadRef (k := 2) rfl rfl tyk_3 rfl rfl rfl rfl rfl (ltb rfl) ?_)
  first | refine VO.cons rfl (V1.fieldPin rfl rfl fo_27_1 rfl (ltb rfl) ?_) | refine VO.cons rfl (V1.fieldRef rfl rfl fo_27_1 rfl (ltb rfl) ?_)
  first | refine VO.cons rfl (V1.storeRef (k := 0) rfl rfl tyk_3 rfl rfl rfl rfl rfl rfl rfl rfl rfl ?_) | refine VO.cons rfl (V1.storeRef (k := 1) rfl rfl tyk_3 rfl rfl rfl rfl rfl rfl rfl rfl rfl ?_) | refine VO.cons rfl (V1.storeRef (k := 2) rfl rfl tyk_3 rfl rfl rfl rfl rfl rfl rfl rfl rfl ?_)
  refine VO.nil ?_
  refine V.keep 21 [1, 2, 3] [0, 1, 2] rfl (⟨_, _, rfl, rfl, ⟨_, _, rfl, rfl, ⟨_, _, rfl, rfl, rfl⟩⟩⟩) (⟨_, _, rfl, rfl, ⟨_, _, rfl, rfl, ⟨_, _, rfl, rfl, rfl⟩⟩⟩) rfl ?_
  refine V.seq ?_
  refine V.region ?_
  first | refine VO.cons rfl (V1.fieldPin rfl rfl fo_24_2 rfl (ltb rfl) ?_) | refine VO.cons rfl (V1.fieldRef rfl rfl fo_24_2 rfl (ltb rfl) ?_)
  first | refine VO.cons rfl (V1.loadPin rfl rfl tyk_3 rfl rfl (ltb rfl) ?_) | refine VO.cons rfl (V1.loadRef (k := 0) rfl rfl tyk_3 rfl rfl rfl rfl rfl (ltb rfl) ?_) | refine VO.cons rfl (V1.loadRef (k := 1) rfl rfl tyk_3 rfl rfl rfl rfl rfl (ltb rfl) ?_) | refine VO.cons rfl (V1.loadRef (k := 2) rfl rfl tyk_3 rfl rfl rfl rfl rfl (ltb rfl) ?_)
  first | refine VO.cons rfl (V1.fieldPin rfl rfl fo_27_2 rfl (ltb rfl) ?_) | refine VO.cons rfl (V1.fieldRef rfl rfl fo_27_2 rfl (ltb rfl) ?_)
  first | refine VO.cons rfl (V1.storeRef (k := 0) rfl rfl tyk_3 rfl rfl rfl rfl rfl rfl rfl rfl rfl ?_) | refine VO.cons rfl (V1.storeRef (k := 1) rfl rfl tyk_3 rfl rfl rfl rfl rfl rfl rfl rfl rfl ?_) | refine VO.cons rfl (V1.storeRef (k := 2) rfl rfl tyk_3 rfl rfl rfl rfl rfl rfl rfl rfl rfl ?_)
  refine VO.nil ?_
  refine V.keep 21 [1, 2, 3] [0, 1, 2] rfl (⟨_, _, rfl, rfl, ⟨_, _, rfl, rfl, ⟨_, _, rfl, rfl, rfl⟩⟩⟩) (⟨_, _, rfl, rfl, ⟨_, _, rfl, rfl, ⟨_, _, rfl, rfl, rfl⟩⟩⟩) rfl ?_
  refine V.seq ?_
  refine V.region ?_
  first | refine VO.cons rfl (V1.fieldPin rfl rfl fo_24_3 rfl (ltb rfl) ?_) | refine VO.cons rfl (V1.fieldRef rfl rfl fo_24_3 rfl (ltb rfl) ?_)
  first | refine VO.cons rfl (V1.loadPin rfl rfl tyk_22 rfl rfl (ltb rfl) ?_) | refine VO.cons rfl (V1.loadRef (k := 0) rfl rfl tyk_22 rfl rfl rfl rfl rfl (ltb rfl) ?_) | refine VO.cons rfl (V1.loadRef (k := 1) rfl rfl tyk_22 rfl rfl rfl rfl rfl (ltb rfl) ?_) | refine VO.cons rfl (V1.loadRef (k := 2) rfl rfl tyk_22 rfl rfl rfl rfl rfl (ltb rfl) ?_)
  refine VO.cons rfl (V1.call rfl rfl rfl cok_47 rfl (toIntS_ok _ _ _ hl) rfl (ltb rfl) ?_)
  rintro _ _ ⟨rfl, rfl⟩
  first | refine VO.cons rfl (V1.fieldPin rfl rfl fo_27_3 rfl (ltb rfl) ?_) | refine VO.cons rfl (V1.fieldRef rfl rfl fo_27_3 rfl (ltb rfl) ?_)
  first | refine VO.cons rfl (V1.storeRef (k := 0) rfl rfl tyk_22 rfl rfl rfl rfl rfl rfl rfl rfl rfl ?_) | refine VO.cons rfl (V1.storeRef (k := 1) rfl rfl tyk_22 rfl rfl rfl rfl rfl rfl rfl rfl rfl ?_) | refine VO.cons rfl (V1.storeRef (k := 2) rfl rfl tyk_22 rfl rfl rfl rfl rfl rfl rfl rfl rfl ?_)
  refine VO.nil ?_
  refine V.keep 21 [1, 2, 3] [0, 1, 2] rfl (⟨_, _, rfl, rfl, ⟨_, _, rfl, rfl, ⟨_, _, rfl, rfl, rfl⟩⟩⟩) (⟨_, _, rfl, rfl, ⟨_, _, rfl, rfl, ⟨_, _, rfl, rfl, rfl⟩⟩⟩) rfl ?_
  refine V.seq ?_
  refine V.region ?_
  first | refine VO.cons rfl (V1.fieldPin rfl rfl fo_24_4 rfl (ltb rfl) ?_) | refine VO.cons rfl (V1.fieldRef rfl rfl fo_24_4 rfl (ltb rfl) ?_)
  first | refine VO.cons rfl (V1.loadPin rfl rfl tyk_3 rfl rfl (ltb rfl) ?_) | refine VO.cons rfl (V1.loadRef (k := 0) rfl rfl tyk_3 rfl rfl rfl rfl rfl (ltb rfl) ?_) | refine VO.cons rfl (V1.loadRef (k := 1) rfl rfl tyk_3 rfl rfl rfl rfl rfl (ltb rfl) ?_) | refine VO.cons rfl (V1.loadRef (k := 2) rfl rfl tyk_3 rfl rfl rfl rfl rfl (ltb rfl) ?_)
  first | refine VO.cons rfl (V1.fieldPin rfl rfl fo_27_4 rfl (ltb rfl) ?_) | refine VO.cons rfl (V1.fieldRef rfl rfl fo_27_4 rfl (ltb rfl) ?_)
  first | refine VO.cons rfl (V1.storeRef (k := 0) rfl rfl tyk_3 rfl rfl rfl rfl rfl rfl rfl rfl rfl ?_) | refine VO.cons rfl (V1.storeRef (k := 1) rfl rfl tyk_3 rfl rfl rfl rfl rfl rfl rfl rfl rfl ?_) | refine VO.cons rfl (V1.storeRef (k := 2) rfl rfl tyk_3 rfl rfl rfl rfl rfl rfl rfl rfl rfl ?_)
  refine VO.nil ?_
  refine V.keep 21 [2, 3] [0, 1] rfl (⟨_, _, rfl, rfl, ⟨_, _, rfl, rfl, rfl⟩⟩) (⟨_, _, rfl, rfl, ⟨_, _, rfl, rfl, rfl⟩⟩) rfl ?_
  refine V.seq ?_
  refine V.region ?_
  first | refine VO.cons rfl (V1.loadPinAll rfl rfl tyk_27 rfl rfl (ltb rfl) ?_) | refine VO.cons rfl (V1.loadRefAll (k := 0) rfl rfl tyk_27 rfl rfl rfl rfl rfl (ltb rfl) ?_) | refine VO.cons rfl (V1.loadRefAll (k := 1) rfl rfl tyk_27 rfl rfl rfl rfl rfl (ltb rfl) ?_) | refine VO.cons rfl (V1.loadRefAll (k := 2) rfl rfl tyk_27 rfl rfl rfl rfl rfl (ltb rfl) ?_)
  first | refine VO.cons rfl (V1.storeRefAll (k := 0) rfl rfl tyk_27 rfl rfl rfl rfl rfl rfl ?_) | refine VO.cons rfl (V1.storeRefAll (k := 1) rfl rfl tyk_27 rfl rfl rfl rfl rfl rfl ?_) | refine VO.cons rfl (V1.storeRefAll (k := 2) rfl rfl tyk_27 rfl rfl rfl rfl rfl rfl ?_)
  refine VO.nil ?_
  refine V.ret ?_
  refine ⟨_, [], ⟨_, _, rfl, ⟨_, _, 1, _, rfl, rfl, rfl, rfl, tyk_27, rfl⟩, rfl⟩, List.nil_sublist _, rfl, rfl⟩

theorem FnExactIsCarton_ok (ρ rn : Nat) (c : Carton) (hl : c.files.length < 9223372036854775808) : Does Try.prog 3 [encCarton ρ c] [] rn (fun x H => x = .bool true ∧ H = []) := by
  refine Does.intro (N := 27) Try.func3 rfl rfl rfl rfl ?_
  intro w0 S0
  refine V.seq ?_
  refine V.region ?_
  refine VO.cons rfl (V1.boxN (n := 5) rfl rfl rfl rfl rfl (ltb rfl) ?_)
  intro b1
  refine VO.cons rfl (V1.assign rfl rfl rfl (ltb rfl) ?_)
  refine VO.nil ?_
  refine V.seq ?_
  refine V.region ?_
  refine VO.cons rfl (V1.assign rfl rfl rfl (ltb rfl) ?_)
  refine VO.nil ?_
  refine V.seq ?_
  refine V.region ?_
  first | refine VO.cons rfl (V1.loadPinAll rfl rfl tyk_24 rfl rfl (ltb rfl) ?_) | refine VO.cons rfl (V1.loadRefAll (k := 0) rfl rfl tyk_24 rfl rfl rfl rfl rfl (ltb rfl) ?_) | refine VO.cons rfl (V1.loadRefAll (k := 1) rfl rfl tyk_24 rfl rfl rfl rfl rfl (ltb rfl) ?_) | refine VO.cons rfl (V1.loadRefAll (k := 2) rfl rfl tyk_24 rfl rfl rfl rfl rfl (ltb rfl) ?_)
  refine VO.cons rfl (V1.move rfl rfl rfl (ltb rfl) ?_)
  refine VO.cons rfl (V1.call rfl rfl rfl cok_16 rfl (szCarton_ok _ _ c _ hl (by omega) (by omega)) rfl (ltb rfl) ?_)
  rintro _ _ ⟨rfl, rfl⟩
  refine VO.cons rfl (V1.assign rfl rfl rfl (ltb rfl) ?_)
  refine VO.nil ?_
  refine V.keep 27 [1, 3] [0] rfl (⟨_, _, rfl, rfl, ⟨_, _, rfl, rfl, rfl⟩⟩) (⟨_, _, rfl, rfl, rfl⟩) rfl ?_
  refine V.seq ?_
  refine V.seq ?_
  refine V.region ?_
  refine VO.cons rfl (V1.move rfl rfl rfl (ltb rfl) ?_)
  refine VO.cons rfl (V1.int rfl rfl rfl rfl rfl (ltb rfl) ?_)
  refine VO.nil ?_
  refine V.cond rfl (fun hc0 => ?_) (fun hc0 => ?_)
  · skip
    have hcr0 := hc0
    try simp only [decide_eq_true_eq, decide_eq_false_iff_not, List.length_map, Bool.and_eq_true, Bool.or_eq_true, Bool.not_eq_true', Bool.not_eq_false', Bool.and_eq_false_iff, Bool.or_eq_false_iff, beq_iff_eq, bne_iff_ne, beq_eq_false_iff_ne, bne_eq_false_iff_eq, Int.not_lt, Int.not_le, ne_eq] at hc0
    refine V.seq ?_
    refine V.region ?_
    refine VO.cons rfl (V1.assign rfl rfl rfl (ltb rfl) ?_)
    refine VO.nil ?_
    refine V.ret ?_
    refine ⟨_, [], ⟨_, _, rfl, rfl, rfl⟩, List.nil_sublist _, rfl, rfl⟩
  · skip
    have hcr0 := hc0
    try simp only [decide_eq_true_eq, decide_eq_false_iff_not, List.length_map, Bool.and_eq_true, Bool.or_eq_true, Bool.not_eq_true', Bool.not_eq_false', Bool.and_eq_false_iff, Bool.or_eq_false_iff, beq_iff_eq, bne_iff_ne, beq_eq_false_iff_ne, bne_eq_false_iff_eq, Int.not_lt, Int.not_le, ne_eq] at hc0
    have hl2 : c.files.length ≤ 1048576 := by split at hc0 <;> omega
    refine V.skip ?_
    refine V.seq ?_
    refine V.region ?_
    first | refine VO.cons rfl (V1.loadPinAll rfl rfl tyk_24 rfl rfl (ltb rfl) ?_) | refine VO.cons rfl (V1.loadRefAll (k := 0) rfl rfl tyk_24 rfl rfl rfl rfl rfl (ltb rfl) ?_) | refine VO.cons rfl (V1.loadRefAll (k := 1) rfl rfl tyk_24 rfl rfl rfl rfl rfl (ltb rfl) ?_) | refine VO.cons rfl (V1.loadRefAll (k := 2) rfl rfl tyk_24 rfl rfl rfl rfl rfl (ltb rfl) ?_)
    refine VO.cons rfl (V1.call rfl rfl rfl cok_18 rfl (toCarton_ok _ _ c hl2) rfl (ltb rfl) ?_)
    rintro _ _ ⟨rfl, rfl⟩
    refine VO.cons rfl (V1.call rfl rfl rfl cok_17 rfl (sIsCarton_ok _ _ c hl2) rfl (ltb rfl) ?_)
    rintro _ _ ⟨rfl, rfl⟩
    refine VO.cons rfl (V1.assign rfl rfl rfl (ltb rfl) ?_)
    refine VO.nil ?_
    refine V.keep 27 [1, 4] [0] rfl (⟨_, _, rfl, rfl, ⟨_, _, rfl, rfl, rfl⟩⟩) (⟨_, _, rfl, rfl, rfl⟩) rfl ?_
    refine V.seq ?_
    refine V.region ?_
    first | refine VO.cons rfl (V1.loadPinAll rfl rfl tyk_24 rfl rfl (ltb rfl) ?_) | refine VO.cons rfl (V1.loadRefAll (k := 0) rfl rfl tyk_24 rfl rfl rfl rfl rfl (ltb rfl) ?_) | refine VO.cons rfl (V1.loadRefAll (k := 1) rfl rfl tyk_24 rfl rfl rfl rfl rfl (ltb rfl) ?_) | refine VO.cons rfl (V1.loadRefAll (k := 2) rfl rfl tyk_24 rfl rfl rfl rfl rfl (ltb rfl) ?_)
    refine VO.cons rfl (V1.call rfl rfl rfl cok_18 rfl (toCarton_ok _ _ c hl2) rfl (ltb rfl) ?_)
    rintro _ _ ⟨rfl, rfl⟩
    refine VO.cons rfl (V1.alloc rfl rfl zk_27 (ltb rfl) ?_)
    intro b5
    first | refine VO.cons rfl (V1.storeRefAll (k := 0) rfl rfl tyk_27 rfl rfl rfl rfl rfl rfl ?_) | refine VO.cons rfl (V1.storeRefAll (k := 1) rfl rfl tyk_27 rfl rfl rfl rfl rfl rfl ?_) | refine VO.cons rfl (V1.storeRefAll (k := 2) rfl rfl tyk_27 rfl rfl rfl rfl rfl rfl ?_)
    refine VO.nil ?_
    refine V.keep 27 [1, 4, 5] [0, 1] rfl (⟨_, _, rfl, rfl, ⟨_, _, rfl, rfl, ⟨_, _, rfl, rfl, rfl⟩⟩⟩) (⟨_, _, rfl, rfl, ⟨_, _, rfl, rfl, rfl⟩⟩) rfl ?_
    refine V.seq ?_
    refine V.region ?_
    first | refine VO.cons rfl (V1.loadPinAll rfl rfl tyk_27 rfl rfl (ltb rfl) ?_) | refine VO.cons rfl (V1.loadRefAll (k := 0) rfl rfl tyk_27 rfl rfl rfl rfl rfl (ltb rfl) ?_) | refine VO.cons rfl (V1.loadRefAll (k := 1) rfl rfl tyk_27 rfl rfl rfl rfl rfl (ltb rfl) ?_) | refine VO.cons rfl (V1.loadRefAll (k := 2) rfl rfl tyk_27 rfl rfl rfl rfl rfl (ltb rfl) ?_)
    refine VO.cons rfl (V1.call rfl rfl rfl cok_19 rfl (iIsCarton_ok _ _ c hl2) rfl (ltb rfl) ?_)
    rintro _ _ ⟨rfl, rfl⟩
    refine VO.cons rfl (V1.assign rfl rfl rfl (ltb rfl) ?_)
    refine VO.nil ?_
    refine V.seq ?_
    refine V.seq ?_
    refine V.region ?_
    refine VO.cons rfl (V1.move rfl rfl rfl (ltb rfl) ?_)
    refine VO.cons rfl (V1.move rfl rfl rfl (ltb rfl) ?_)
    refine VO.cons rfl (V1.boolNeq rfl rfl und_4 rfl rfl (ltb rfl) ?_)
    refine VO.nil ?_
    refine V.keep 27 [1, 5, 21] [0, 1] rfl (⟨_, _, rfl, rfl, ⟨_, _, rfl, rfl, ⟨_, _, rfl, rfl, rfl⟩⟩⟩) (⟨_, _, rfl, rfl, ⟨_, _, rfl, rfl, rfl⟩⟩) rfl ?_
    refine V.cond rfl (fun hc1 => ?_) (fun hc1 => ?_)
    · skip
      have hcr1 := hc1
      try simp only [decide_eq_true_eq, decide_eq_false_iff_not, List.length_map, Bool.and_eq_true, Bool.or_eq_true, Bool.not_eq_true', Bool.not_eq_false', Bool.and_eq_false_iff, Bool.or_eq_false_iff, beq_iff_eq, bne_iff_ne, beq_eq_false_iff_ne, bne_eq_false_iff_eq, Int.not_lt, Int.not_le, ne_eq] at hc1
      simp at hcr1
    · skip
      have hcr1 := hc1
      try simp only [decide_eq_true_eq, decide_eq_false_iff_not, List.length_map, Bool.and_eq_true, Bool.or_eq_true, Bool.not_eq_true', Bool.not_eq_false', Bool.and_eq_false_iff, Bool.or_eq_false_iff, beq_iff_eq, bne_iff_ne, beq_eq_false_iff_ne, bne_eq_false_iff_eq, Int.not_lt, Int.not_le, ne_eq] at hc1
      refine V.skip ?_
      refine V.seq ?_
      refine V.seq ?_
      refine V.regionM 27 3 [⟨[(5, none)], [], none⟩, ⟨[(1, none)], [], none⟩, ⟨[(23, some 0)], [], none⟩] [(22, some 2), (24, some 0)] (⟨_, rfl, ⟨_, rfl, ⟨_, rfl, ⟨rfl, rfl⟩⟩⟩⟩) mixed_orders rfl (by decide +kernel) (fun hck10 => ?_)
      refine VP.step (p := ?pv1) rfl rfl rfl (⟨_, _, rfl, rfl, rfl⟩) ?hv1 ?rest1 hck10
      case hv1 =>
        intro E1
        first | refine (V1.loadPinAll rfl rfl tyk_27 rfl rfl (ltb rfl) ?_) | refine (V1.loadRefAll (k := 0) rfl rfl tyk_27 rfl rfl rfl rfl rfl (ltb rfl) ?_) | refine (V1.loadRefAll (k := 1) rfl rfl tyk_27 rfl rfl rfl rfl rfl (ltb rfl) ?_) | refine (V1.loadRefAll (k := 2) rfl rfl tyk_27 rfl rfl rfl rfl rfl (ltb rfl) ?_)
        exact rfl
      refine VP.step (p := ?pv2) rfl rfl rfl (⟨_, _, rfl, rfl, rfl⟩) ?hv2 ?rest2 hck10
      case hv2 =>
        intro E1
        first | refine (V1.loadPinAll rfl rfl tyk_24 rfl rfl (ltb rfl) ?_) | refine (V1.loadRefAll (k := 0) rfl rfl tyk_24 rfl rfl rfl rfl rfl (ltb rfl) ?_) | refine (V1.loadRefAll (k := 1) rfl rfl tyk_24 rfl rfl rfl rfl rfl (ltb rfl) ?_) | refine (V1.loadRefAll (k := 2) rfl rfl tyk_24 rfl rfl rfl rfl rfl (ltb rfl) ?_)
        exact rfl
      refine VP.step (p := ?pv3) rfl rfl rfl (⟨_, _, rfl, rfl, rfl⟩) ?hv3 ?rest3 hck10
      case hv3 =>
        intro E1
        refine (V1.call rfl rfl rfl cok_18 rfl (toCarton_ok _ _ c hl2) rfl (ltb rfl) ?_)
        rintro _ _ ⟨rfl, rfl⟩
        exact rfl
      refine VP.fin rfl (⟨_, _, rfl, rfl, ⟨_, _, rfl, rfl, rfl⟩⟩) ?_
      refine VO.cons rfl (V1.call rfl rfl rfl cok_20 rfl (eqCarton_ok _ _ _ c c hl2 hl2) rfl (ltb rfl) ?_)
      rintro _ _ ⟨rfl, rfl⟩
      refine VO.cons rfl (V1.not rfl rfl rfl (ltb rfl) ?_)
      refine VO.nil ?_
      refine V.keep 27 [26] [] rfl (⟨_, _, rfl, rfl, rfl⟩) (rfl) rfl ?_
      refine V.cond rfl (fun hc2 => ?_) (fun hc2 => ?_)
      · skip
        have hcr2 := hc2
        try simp only [decide_eq_true_eq, decide_eq_false_iff_not, List.length_map, Bool.and_eq_true, Bool.or_eq_true, Bool.not_eq_true', Bool.not_eq_false', Bool.and_eq_false_iff, Bool.or_eq_false_iff, beq_iff_eq, bne_iff_ne, beq_eq_false_iff_ne, bne_eq_false_iff_eq, Int.not_lt, Int.not_le, ne_eq] at hc2
        simp at hcr2
      · skip
        have hcr2 := hc2
        try simp only [decide_eq_true_eq, decide_eq_false_iff_not, List.length_map, Bool.and_eq_true, Bool.or_eq_true, Bool.not_eq_true', Bool.not_eq_false', Bool.and_eq_false_iff, Bool.or_eq_false_iff, beq_iff_eq, bne_iff_ne, beq_eq_false_iff_ne, bne_eq_false_iff_eq, Int.not_lt, Int.not_le, ne_eq] at hc2
        refine V.skip ?_
        refine V.seq ?_
        refine V.region ?_
        refine VO.cons rfl (V1.assign rfl rfl rfl (ltb rfl) ?_)
        refine VO.nil ?_
        refine V.ret ?_
        refine ⟨_, [], ⟨_, _, rfl, rfl, rfl⟩, List.nil_sublist _, rfl, rfl⟩
end Go.Proofs.Ythaeehmkeiiidaa
