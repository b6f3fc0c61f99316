/- the cartons: where a file is -/
import Derived.Test.YthaeehmkeiiidaaCd
set_option linter.unusedSimpArgs false
set_option linter.unusedVariables false
set_option maxRecDepth 100000
namespace Go.Proofs.Ythaeehmkeiiidaa
open Go.VS

theorem IndexFuncC_ok (ρ rn f : Nat) (cs : List PV) (p : Carton → Bool) (l : List Carton) (hl : Small l) (hok : callOK Try.prog f = true) (hf : ∀ c, c ∈ l → Does Try.prog f (encCarton ρ c :: cs) [] rn (fun x H => x = .bool (p c) ∧ H = [])) :
    Does Try.prog 111 [.vl ρ 5 (l.map (encCarton ρ)), .fn f cs] [] rn (fun x H => x = .int .i64 (firstAt p l) ∧ H = []) := by
  have hl1 := hl.1
  refine Does.intro (N := 19) Try.func111 rfl rfl rfl rfl ?_
  intro w0 S0
  refine V.seq ?_
  refine V.region ?_
  refine VO.cons rfl (V1.assign rfl rfl rfl (ltb rfl) ?_)
  refine VO.nil ?_
  refine V.seq ?_
  refine V.seq ?_
  refine V.region ?_
  refine VO.cons rfl (V1.move rfl rfl rfl (ltb rfl) ?_)
  first | refine VO.cons rfl (V1.lenVl rfl rfl rfl rfl rfl rfl isl_34 (ltb rfl) ?_) | refine VO.cons rfl (V1.lenSref rfl rfl rfl rfl rfl rfl isl_34 (ltb rfl) ?_) | refine VO.cons rfl (V1.lenNils rfl rfl rfl rfl rfl rfl isl_34 (ltb rfl) ?_)
  refine VO.cons rfl (V1.move rfl rfl rfl (ltb rfl) ?_)
  refine VO.nil ?_
  refine V.keep 19 [0, 1, 7, 8] [] rfl (⟨_, _, rfl, rfl, ⟨_, _, rfl, rfl, ⟨_, _, rfl, rfl, ⟨_, _, rfl, rfl, rfl⟩⟩⟩⟩) (rfl) rfl ?_
  refine V.block ?_
  refine V.keep 19 [8, 0, 1, 7] [] rfl (⟨_, _, rfl, rfl, ⟨_, _, rfl, rfl, ⟨_, _, rfl, rfl, ⟨_, _, rfl, rfl, rfl⟩⟩⟩⟩) (rfl) rfl ?_
  refine V.loopE (D := Nat) (fun k => [(8, .int .i64 (k : Int))]) (fun k => []) (fun k => k ≤ l.length ∧ ∀ j, j < k → p (l.getD j default) = false) (fun k => l.length - k) 0 rfl (⟨by omega, fun _ h => absurd h (by omega)⟩) ?_
  rintro k ⟨hk, hr⟩
  refine V.seq ?_
  refine V.region ?_
  refine VO.cons rfl (V1.int rfl rfl rfl rfl rfl (ltb rfl) ?_)
  refine VO.nil ?_
  refine V.seq ?_
  refine V.cond rfl (fun hc0 => ?_) (fun hc0 => ?_)
  · skip
    have hcr0 := hc0
    try simp only [decide_eq_true_eq, decide_eq_false_iff_not, List.length_map, Bool.and_eq_true, Bool.or_eq_true, Bool.not_eq_true', Bool.not_eq_false', Bool.and_eq_false_iff, Bool.or_eq_false_iff, beq_iff_eq, bne_iff_ne, beq_eq_false_iff_ne, bne_eq_false_iff_eq, Int.not_lt, Int.not_le, ne_eq] at hc0
    refine V.skip ?_
    refine V.seq ?_
    refine V.block ?_
    refine V.seq ?_
    refine V.region ?_
    refine VO.cons rfl (V1.move rfl rfl rfl (ltb rfl) ?_)
    refine VO.cons rfl (V1.assign rfl rfl rfl (ltb rfl) ?_)
    refine VO.nil ?_
    refine V.seq ?_
    refine V.region ?_
    refine VO.cons rfl (V1.move rfl rfl rfl (ltb rfl) ?_)
    refine VO.cons rfl (V1.move rfl rfl rfl (ltb rfl) ?_)
    refine VO.cons rfl (V1.move rfl rfl rfl (ltb rfl) ?_)
    first | refine VO.cons rfl (V1.indexMapN rfl rfl esz_34 rfl rfl (by omega) (ltb rfl) ?_) | refine VO.cons rfl (V1.indexMap rfl rfl esz_34 rfl rfl (by (first | omega | (simp only [List.length_map, List.length_append, List.length_take, List.length_drop, List.length_replicate, List.length_set, Int.toNat_natCast] at *; omega) | (simp at *; omega))) (by (first | omega | (simp only [List.length_map, List.length_append, List.length_take, List.length_drop, List.length_replicate, List.length_set, Int.toNat_natCast] at *; omega) | (simp at *; omega))) (ltb rfl) ?_) | refine VO.cons rfl (V1.indexSref rfl rfl esz_34 rfl rfl (by (first | omega | (simp only [List.length_map, List.length_append, List.length_take, List.length_drop, List.length_replicate, List.length_set, Int.toNat_natCast] at *; omega) | (simp at *; omega))) (by (first | omega | (simp only [List.length_map, List.length_append, List.length_take, List.length_drop, List.length_replicate, List.length_set, Int.toNat_natCast] at *; omega) | (simp at *; omega))) (ltb rfl) ?_)
    first | refine VO.cons rfl (V1.loadPinAll rfl rfl tyk_27 rfl rfl (ltb rfl) ?_) | refine VO.cons rfl (V1.loadRefAll (k := 0) rfl rfl tyk_27 rfl rfl rfl rfl rfl (ltb rfl) ?_) | refine VO.cons rfl (V1.loadRefAll (k := 1) rfl rfl tyk_27 rfl rfl rfl rfl rfl (ltb rfl) ?_) | refine VO.cons rfl (V1.loadRefAll (k := 2) rfl rfl tyk_27 rfl rfl rfl rfl rfl (ltb rfl) ?_)
    refine VO.cons rfl (V1.callG (τ := 0) (Bw := []) rfl (ltb rfl) (run_callFn rfl rfl rfl hok rfl) (.refl _) (Lends.same _) (fun _ h => by cases h) (hf _ (getD_mem (by omega))) (.inl rfl) (.inl rfl) ?_)
    rintro _ _ ⟨rfl, rfl⟩
    refine VO.nil ?_
    refine V.keep 19 [0, 1, 5, 7, 8, 16] [] rfl (⟨_, _, rfl, rfl, ⟨_, _, rfl, rfl, ⟨_, _, rfl, rfl, ⟨_, _, rfl, rfl, ⟨_, _, rfl, rfl, ⟨_, _, rfl, rfl, rfl⟩⟩⟩⟩⟩⟩) (rfl) rfl ?_
    refine V.cond rfl (fun hc1 => ?_) (fun hc1 => ?_)
    · skip
      have hcr1 := hc1
      try simp only [decide_eq_true_eq, decide_eq_false_iff_not, List.length_map, Bool.and_eq_true, Bool.or_eq_true, Bool.not_eq_true', Bool.not_eq_false', Bool.and_eq_false_iff, Bool.or_eq_false_iff, beq_iff_eq, bne_iff_ne, beq_eq_false_iff_ne, bne_eq_false_iff_eq, Int.not_lt, Int.not_le, ne_eq] at hc1
      refine V.seq ?_
      refine V.region ?_
      refine VO.cons rfl (V1.move rfl rfl rfl (ltb rfl) ?_)
      refine VO.cons rfl (V1.assign rfl rfl rfl (ltb rfl) ?_)
      refine VO.nil ?_
      refine V.ret ?_
      refine ⟨_, [], ⟨_, _, rfl, rfl, rfl⟩, List.nil_sublist _, ?_, rfl⟩
      exact congrArg (PV.int .i64) (firstAt_some (by omega) hr hcr1).symm
    · skip
      have hcr1 := hc1
      try simp only [decide_eq_true_eq, decide_eq_false_iff_not, List.length_map, Bool.and_eq_true, Bool.or_eq_true, Bool.not_eq_true', Bool.not_eq_false', Bool.and_eq_false_iff, Bool.or_eq_false_iff, beq_iff_eq, bne_iff_ne, beq_eq_false_iff_ne, bne_eq_false_iff_eq, Int.not_lt, Int.not_le, ne_eq] at hc1
      refine V.skip ?_
      refine V.region ?_
      refine VO.cons rfl (V1.int rfl rfl rfl rfl rfl (ltb rfl) ?_)
      refine VO.cons rfl (V1.move rfl rfl rfl (ltb rfl) ?_)
      refine VO.nil ?_
      refine ⟨k + 1, ⟨by omega, step_lt hr hcr1⟩, by omega, Keeps.mk (ks := []) rfl ⟨?_, rfl, rfl, rfl, trivial⟩ (rfl) rfl⟩
      · exact someInt (by simp (disch := omega) only [wrap64_id]; omega)
  · skip
    have hcr0 := hc0
    try simp only [decide_eq_true_eq, decide_eq_false_iff_not, List.length_map, Bool.and_eq_true, Bool.or_eq_true, Bool.not_eq_true', Bool.not_eq_false', Bool.and_eq_false_iff, Bool.or_eq_false_iff, beq_iff_eq, bne_iff_ne, beq_eq_false_iff_ne, bne_eq_false_iff_eq, Int.not_lt, Int.not_le, ne_eq] at hc0
    refine V.exit ?_
    refine V.seq ?_
    refine V.region ?_
    refine VO.cons rfl (V1.assign rfl rfl rfl (ltb rfl) ?_)
    refine VO.nil ?_
    refine V.ret ?_
    refine ⟨_, [], ⟨_, _, rfl, rfl, rfl⟩, List.nil_sublist _, ?_, rfl⟩
    exact congrArg (PV.int .i64) (firstAt_none fun j hj => hr j (by omega)).symm

theorem cartonWith1_ok (ρ τ rn : Nat) (c : Carton) (n : Int) (hl : c.files.length ≤ 1048576) : Does Try.prog 112 [encCarton ρ c, .pin τ (.int .i64 n) 0] [] rn (fun x H => x = .bool (c.files.any fun x => n == x) ∧ H = []) := by
  refine Does.intro (N := 8) Try.func112 rfl rfl rfl rfl ?_
  intro w0 S0
  refine V.seq ?_
  refine V.region ?_
  refine VO.cons rfl (V1.boxN (n := 5) rfl rfl rfl rfl rfl (ltb rfl) ?_)
  intro b2
  refine VO.cons rfl (V1.assign rfl rfl rfl (ltb rfl) ?_)
  refine VO.nil ?_
  refine V.seq ?_
  refine V.region ?_
  first | refine VO.cons rfl (V1.fieldPin rfl rfl fo_27_3 rfl (ltb rfl) ?_) | refine VO.cons rfl (V1.fieldRef rfl rfl fo_27_3 rfl (ltb rfl) ?_)
  first | refine VO.cons rfl (V1.loadPin rfl rfl tyk_22 rfl rfl (ltb rfl) ?_) | refine VO.cons rfl (V1.loadRef (k := 0) rfl rfl tyk_22 rfl rfl rfl rfl rfl (ltb rfl) ?_) | refine VO.cons rfl (V1.loadRef (k := 1) rfl rfl tyk_22 rfl rfl rfl rfl rfl (ltb rfl) ?_) | refine VO.cons rfl (V1.loadRef (k := 2) rfl rfl tyk_22 rfl rfl rfl rfl rfl (ltb rfl) ?_)
  first | refine VO.cons rfl (V1.loadPin rfl rfl tyk_3 rfl rfl (ltb rfl) ?_) | refine VO.cons rfl (V1.loadRef (k := 0) rfl rfl tyk_3 rfl rfl rfl rfl rfl (ltb rfl) ?_) | refine VO.cons rfl (V1.loadRef (k := 1) rfl rfl tyk_3 rfl rfl rfl rfl rfl (ltb rfl) ?_) | refine VO.cons rfl (V1.loadRef (k := 2) rfl rfl tyk_3 rfl rfl rfl rfl rfl (ltb rfl) ?_)
  refine VO.cons rfl (V1.call rfl rfl rfl cok_78 rfl (Contains_ok _ _ c.files n hl) rfl (ltb rfl) ?_)
  rintro _ _ ⟨rfl, rfl⟩
  refine VO.cons rfl (V1.assign rfl rfl rfl (ltb rfl) ?_)
  refine VO.nil ?_
  refine V.ret ?_
  refine ⟨_, [], ⟨_, _, rfl, rfl, rfl⟩, List.nil_sublist _, rfl, rfl⟩

theorem cartonWith_ok (ρ rn : Nat) (l : List Carton) (n : Int) (hl : Small l) : Does Try.prog 83 [.vl ρ 5 (l.map (encCarton ρ)), .int .i64 n] [] rn (fun x H => x = .int .i64 (firstAt (fun c => c.files.any fun x => n == x) l) ∧ H = []) := by
  refine Does.intro (N := 8) Try.func83 rfl rfl rfl rfl ?_
  intro w0 S0
  refine V.seq ?_
  refine V.region ?_
  refine VO.cons rfl (V1.boxN (n := 1) rfl rfl rfl rfl rfl (ltb rfl) ?_)
  intro b3
  refine VO.cons rfl (V1.assign rfl rfl rfl (ltb rfl) ?_)
  refine VO.nil ?_
  refine V.seq ?_
  refine V.region ?_
  refine VO.cons rfl (V1.move rfl rfl rfl (ltb rfl) ?_)
  refine VO.cons rfl (V1.makeFunc rfl rfl rfl (ltb rfl) ?_)
  refine VO.cons rfl (V1.callL (rn + 1) [b3] [.vl ρ 5 (l.map (encCarton ρ)), .fn 112 [.pin (rn + 1) (.int .i64 n) 0]] rfl rfl rfl cok_111 rfl (⟨_, _, rfl, .same _, ⟨_, _, rfl, Lend.fn ⟨_, _, rfl, Lend.ref 0 rfl rfl rfl rfl (by simp), rfl⟩, rfl⟩⟩) (by intro b hb; rw [List.mem_singleton] at hb; subst hb; exact List.mem_cons_self) (IndexFuncC_ok _ _ 112 _ (fun c => c.files.any fun x => n == x) l hl cok_112 (fun c hc => cartonWith1_ok _ _ _ c n (hl.2 c hc))) rfl (⟨Nat.succ_ne_self rn, by rintro _ _ ⟨rfl, rfl⟩; simp [PV.no]⟩) (ltb rfl) ?_)
  rintro _ _ ⟨rfl, rfl⟩
  refine VO.cons rfl (V1.assign rfl rfl rfl (ltb rfl) ?_)
  refine VO.nil ?_
  refine V.ret ?_
  refine ⟨_, [], ⟨_, _, rfl, rfl, rfl⟩, List.nil_sublist _, rfl, rfl⟩

def hasF (n : Int) (c : Carton) : Bool := c.files.any fun x => x == n
theorem hasF_swap (n : Int) : (fun c : Carton => c.files.any fun x => n == x) = hasF n := by
  funext c; unfold hasF; congr 1; funext x; rw [Bool.eq_iff_iff, beq_iff_eq, beq_iff_eq]; exact eq_comm

def noFile (l : List Carton) (n : Int) : Bool := !(good l) || decide (firstAt (hasF n) l < 0)
def findRes (l : List Carton) (n : Int) : PV :=
  .tup [.int .i64 (bif noFile l n then 0 else (l.getD (firstAt (hasF n) l).toNat default).id), .int .i64 (bif noFile l n then 0 else (l.getD (firstAt (hasF n) l).toNat default).room),
    .int .i64 (bif noFile l n then 0 else (l.getD (firstAt (hasF n) l).toNat default).shelf), .bool (!(noFile l n))]

theorem sFindFile_ok (ρ rn : Nat) (l : List Carton) (n : Int) (hl : Small l) : Does Try.prog 28 [.vl ρ 5 (l.map (encCarton ρ)), .int .i64 n] [] rn (fun x H => x = findRes l n ∧ H = []) := by
  have hb := firstAt_bd (p := hasF n) (l := l)
  refine Does.intro (N := 34) Try.func28 rfl rfl rfl rfl ?_
  intro w0 S0
  refine V.seq ?_
  refine V.region ?_
  refine VO.cons rfl (V1.assign rfl rfl rfl (ltb rfl) ?_)
  refine VO.cons rfl (V1.assign rfl rfl rfl (ltb rfl) ?_)
  refine VO.cons rfl (V1.assign rfl rfl rfl (ltb rfl) ?_)
  refine VO.cons rfl (V1.assign rfl rfl rfl (ltb rfl) ?_)
  refine VO.nil ?_
  refine V.keep 34 [0, 1] [] rfl (⟨_, _, rfl, rfl, ⟨_, _, rfl, rfl, rfl⟩⟩) (rfl) rfl ?_
  refine V.seq ?_
  refine V.region ?_
  refine VO.cons rfl (V1.move rfl rfl rfl (ltb rfl) ?_)
  refine VO.cons rfl (V1.move rfl rfl rfl (ltb rfl) ?_)
  refine VO.cons rfl (V1.call rfl rfl rfl cok_82 rfl (l18Holds_ok _ _ l n hl) rfl (ltb rfl) ?_)
  rintro _ _ ⟨rfl, rfl⟩
  refine VO.cons rfl (V1.assign rfl rfl rfl (ltb rfl) ?_)
  refine VO.weaken (Keeps.say 8 (y := .int .i64 (firstAt (hasF n) l)) rfl rfl) ?_
  refine VO.nil ?_
  refine V.keep 34 [0, 8] [] rfl (⟨_, _, rfl, rfl, ⟨_, _, rfl, rfl, rfl⟩⟩) (rfl) rfl ?_
  refine V.seq ?_
  refine V.seq ?_
  refine V.region ?_
  refine VO.cons rfl (V1.move rfl rfl rfl (ltb rfl) ?_)
  refine VO.cons rfl (V1.call rfl rfl rfl cok_76 rfl (l18Good_ok _ _ l hl) rfl (ltb rfl) ?_)
  rintro _ _ ⟨rfl, rfl⟩
  refine VO.cons rfl (V1.not rfl rfl rfl (ltb rfl) ?_)
  refine VO.cons rfl (V1.move rfl rfl rfl (ltb rfl) ?_)
  apply VO.or (n := 2) rfl rfl rfl rfl rfl rfl (ltb rfl) (.none rfl)
  · intro hg0
    refine VO.step (.some rfl rfl rfl) (V1.move rfl rfl rfl (ltb rfl) ?_)
    refine VO.step (.some rfl rfl rfl) (V1.int rfl rfl rfl rfl rfl (ltb rfl) ?_)
    exact VO.nil ⟨rfl, rfl, rfl, rfl, .inr ⟨rfl, .inr ⟨rfl, .inr ⟨rfl, .inl rfl⟩⟩⟩⟩
  refine VO.nil ?_
  refine V.keep 34 [0, 8, 18] [] rfl (⟨_, _, rfl, rfl, ⟨_, _, rfl, rfl, ⟨_, _, rfl, rfl, rfl⟩⟩⟩) (rfl) rfl ?_
  refine V.cond rfl (fun hc1 => ?_) (fun hc1 => ?_)
  · skip
    have hcr1 := hc1
    try simp only [decide_eq_true_eq, decide_eq_false_iff_not, List.length_map, Bool.and_eq_true, Bool.or_eq_true, Bool.not_eq_true', Bool.not_eq_false', Bool.and_eq_false_iff, Bool.or_eq_false_iff, beq_iff_eq, bne_iff_ne, beq_eq_false_iff_ne, bne_eq_false_iff_eq, Int.not_lt, Int.not_le, ne_eq] at hc1
    refine V.seq ?_
    refine V.region ?_
    refine VO.cons rfl (V1.assign rfl rfl rfl (ltb rfl) ?_)
    refine VO.cons rfl (V1.assign rfl rfl rfl (ltb rfl) ?_)
    refine VO.cons rfl (V1.assign rfl rfl rfl (ltb rfl) ?_)
    refine VO.cons rfl (V1.assign rfl rfl rfl (ltb rfl) ?_)
    refine VO.nil ?_
    refine V.ret ?_
    refine ⟨_, [], ⟨_, _, rfl, rfl, ⟨_, _, rfl, rfl, ⟨_, _, rfl, rfl, ⟨_, _, rfl, rfl, rfl⟩⟩⟩⟩, List.nil_sublist _, ?_, rfl⟩
    rw [findRes, show noFile l n = _ from hcr1]; rfl
  · skip
    have hcr1 := hc1
    try simp only [decide_eq_true_eq, decide_eq_false_iff_not, List.length_map, Bool.and_eq_true, Bool.or_eq_true, Bool.not_eq_true', Bool.not_eq_false', Bool.and_eq_false_iff, Bool.or_eq_false_iff, beq_iff_eq, bne_iff_ne, beq_eq_false_iff_ne, bne_eq_false_iff_eq, Int.not_lt, Int.not_le, ne_eq] at hc1
    have h0 : 0 ≤ firstAt (hasF n) l := by rw [Bool.or_eq_false_iff] at hcr1; have := of_decide_eq_false hcr1.2; omega
    refine V.skip ?_
    refine V.seq ?_
    refine V.regionM 34 17 [⟨[(0, none)], [], none⟩, ⟨[(8, none)], [], none⟩, ⟨[(19, some 1), (20, some 0)], [], none⟩, ⟨[(21, some 0)], [], none⟩, ⟨[(22, some 0)], [], none⟩, ⟨[(0, none)], [], none⟩, ⟨[(8, none)], [], none⟩, ⟨[(24, some 1), (25, some 0)], [], none⟩, ⟨[(26, some 0)], [], none⟩, ⟨[(27, some 0)], [], none⟩, ⟨[(0, none)], [], none⟩, ⟨[(8, none)], [], none⟩, ⟨[(29, some 1), (30, some 0)], [], none⟩, ⟨[(31, some 0)], [], none⟩, ⟨[(32, some 0)], [], none⟩, ⟨[(23, some 10)], [], none⟩, ⟨[(28, some 6)], [], none⟩] [(4, some 1), (5, some 0), (33, some 2)] (⟨_, rfl, ⟨_, rfl, ⟨_, rfl, ⟨_, rfl, ⟨_, rfl, ⟨_, rfl, ⟨_, rfl, ⟨_, rfl, ⟨_, rfl, ⟨_, rfl, ⟨_, rfl, ⟨_, rfl, ⟨_, rfl, ⟨_, rfl, ⟨_, rfl, ⟨_, rfl, ⟨_, rfl, ⟨rfl, rfl⟩⟩⟩⟩⟩⟩⟩⟩⟩⟩⟩⟩⟩⟩⟩⟩⟩⟩) mixed_orders rfl (by decide +kernel) (fun hck4 => ?_)
    refine VP.step (p := ?pv1) rfl rfl rfl (⟨_, _, rfl, rfl, rfl⟩) ?hv1 ?rest1 hck4
    case hv1 =>
      intro E1
      refine (V1.move rfl rfl rfl (ltb rfl) ?_)
      exact rfl
    refine VP.step (p := ?pv2) rfl rfl rfl (⟨_, _, rfl, rfl, rfl⟩) ?hv2 ?rest2 hck4
    case hv2 =>
      intro E1
      refine (V1.move rfl rfl rfl (ltb rfl) ?_)
      exact rfl
    refine VP.step (p := ?pv3) rfl rfl rfl (⟨_, _, rfl, rfl, ⟨_, _, rfl, rfl, rfl⟩⟩) ?hv3 ?rest3 hck4
    case hv3 =>
      intro E1
      first | refine (V1.indexMapN rfl rfl esz_34 rfl rfl (by omega) (ltb rfl) ?_) | refine (V1.indexMap rfl rfl esz_34 rfl rfl (by (first | omega | (simp only [List.length_map, List.length_append, List.length_take, List.length_drop, List.length_replicate, List.length_set, Int.toNat_natCast] at *; omega) | (simp at *; omega))) (by (first | omega | (simp only [List.length_map, List.length_append, List.length_take, List.length_drop, List.length_replicate, List.length_set, Int.toNat_natCast] at *; omega) | (simp at *; omega))) (ltb rfl) ?_) | refine (V1.indexSref rfl rfl esz_34 rfl rfl (by (first | omega | (simp only [List.length_map, List.length_append, List.length_take, List.length_drop, List.length_replicate, List.length_set, Int.toNat_natCast] at *; omega) | (simp at *; omega))) (by (first | omega | (simp only [List.length_map, List.length_append, List.length_take, List.length_drop, List.length_replicate, List.length_set, Int.toNat_natCast] at *; omega) | (simp at *; omega))) (ltb rfl) ?_)
      exact rfl
    refine VP.step (p := ?pv4) rfl rfl rfl (⟨_, _, rfl, rfl, rfl⟩) ?hv4 ?rest4 hck4
    case hv4 =>
      intro E1
      first | refine (V1.fieldPin rfl rfl fo_27_0 rfl (ltb rfl) ?_) | refine (V1.fieldRef rfl rfl fo_27_0 rfl (ltb rfl) ?_)
      exact rfl
    refine VP.step (p := ?pv5) rfl rfl rfl (⟨_, _, rfl, rfl, rfl⟩) ?hv5 ?rest5 hck4
    case hv5 =>
      intro E1
      first | refine (V1.loadPin rfl rfl tyk_3 rfl rfl (ltb rfl) ?_) | refine (V1.loadRef (k := 0) rfl rfl tyk_3 rfl rfl rfl rfl rfl (ltb rfl) ?_) | refine (V1.loadRef (k := 1) rfl rfl tyk_3 rfl rfl rfl rfl rfl (ltb rfl) ?_) | refine (V1.loadRef (k := 2) rfl rfl tyk_3 rfl rfl rfl rfl rfl (ltb rfl) ?_)
      exact rfl
    refine VP.step (p := ?pv6) rfl rfl rfl (⟨_, _, rfl, rfl, rfl⟩) ?hv6 ?rest6 hck4
    case hv6 =>
      intro E1
      refine (V1.move rfl rfl rfl (ltb rfl) ?_)
      exact rfl
    refine VP.step (p := ?pv7) rfl rfl rfl (⟨_, _, rfl, rfl, rfl⟩) ?hv7 ?rest7 hck4
    case hv7 =>
      intro E1
      refine (V1.move rfl rfl rfl (ltb rfl) ?_)
      exact rfl
    refine VP.step (p := ?pv8) rfl rfl rfl (⟨_, _, rfl, rfl, ⟨_, _, rfl, rfl, rfl⟩⟩) ?hv8 ?rest8 hck4
    case hv8 =>
      intro E1
      first | refine (V1.indexMapN rfl rfl esz_34 rfl rfl (by omega) (ltb rfl) ?_) | refine (V1.indexMap rfl rfl esz_34 rfl rfl (by (first | omega | (simp only [List.length_map, List.length_append, List.length_take, List.length_drop, List.length_replicate, List.length_set, Int.toNat_natCast] at *; omega) | (simp at *; omega))) (by (first | omega | (simp only [List.length_map, List.length_append, List.length_take, List.length_drop, List.length_replicate, List.length_set, Int.toNat_natCast] at *; omega) | (simp at *; omega))) (ltb rfl) ?_) | refine (V1.indexSref rfl rfl esz_34 rfl rfl (by (first | omega | (simp only [List.length_map, List.length_append, List.length_take, List.length_drop, List.length_replicate, List.length_set, Int.toNat_natCast] at *; omega) | (simp at *; omega))) (by (first | omega | (simp only [List.length_map, List.length_append, List.length_take, List.length_drop, List.length_replicate, List.length_set, Int.toNat_natCast] at *; omega) | (simp at *; omega))) (ltb rfl) ?_)
      exact rfl
    refine VP.step (p := ?pv9) rfl rfl rfl (⟨_, _, rfl, rfl, rfl⟩) ?hv9 ?rest9 hck4
    case hv9 =>
      intro E1
      first | refine (V1.fieldPin rfl rfl fo_27_2 rfl (ltb rfl) ?_) | refine (V1.fieldRef rfl rfl fo_27_2 rfl (ltb rfl) ?_)
      exact rfl
    refine VP.step (p := ?pv10) rfl rfl rfl (⟨_, _, rfl, rfl, rfl⟩) ?hv10 ?rest10 hck4
    case hv10 =>
      intro E1
      first | refine (V1.loadPin rfl rfl tyk_3 rfl rfl (ltb rfl) ?_) | refine (V1.loadRef (k := 0) rfl rfl tyk_3 rfl rfl rfl rfl rfl (ltb rfl) ?_) | refine (V1.loadRef (k := 1) rfl rfl tyk_3 rfl rfl rfl rfl rfl (ltb rfl) ?_) | refine (V1.loadRef (k := 2) rfl rfl tyk_3 rfl rfl rfl rfl rfl (ltb rfl) ?_)
      exact rfl
    refine VP.step (p := ?pv11) rfl rfl rfl (⟨_, _, rfl, rfl, rfl⟩) ?hv11 ?rest11 hck4
    case hv11 =>
      intro E1
      refine (V1.move rfl rfl rfl (ltb rfl) ?_)
      exact rfl
    refine VP.step (p := ?pv12) rfl rfl rfl (⟨_, _, rfl, rfl, rfl⟩) ?hv12 ?rest12 hck4
    case hv12 =>
      intro E1
      refine (V1.move rfl rfl rfl (ltb rfl) ?_)
      exact rfl
    refine VP.step (p := ?pv13) rfl rfl rfl (⟨_, _, rfl, rfl, ⟨_, _, rfl, rfl, rfl⟩⟩) ?hv13 ?rest13 hck4
    case hv13 =>
      intro E1
      first | refine (V1.indexMapN rfl rfl esz_34 rfl rfl (by omega) (ltb rfl) ?_) | refine (V1.indexMap rfl rfl esz_34 rfl rfl (by (first | omega | (simp only [List.length_map, List.length_append, List.length_take, List.length_drop, List.length_replicate, List.length_set, Int.toNat_natCast] at *; omega) | (simp at *; omega))) (by (first | omega | (simp only [List.length_map, List.length_append, List.length_take, List.length_drop, List.length_replicate, List.length_set, Int.toNat_natCast] at *; omega) | (simp at *; omega))) (ltb rfl) ?_) | refine (V1.indexSref rfl rfl esz_34 rfl rfl (by (first | omega | (simp only [List.length_map, List.length_append, List.length_take, List.length_drop, List.length_replicate, List.length_set, Int.toNat_natCast] at *; omega) | (simp at *; omega))) (by (first | omega | (simp only [List.length_map, List.length_append, List.length_take, List.length_drop, List.length_replicate, List.length_set, Int.toNat_natCast] at *; omega) | (simp at *; omega))) (ltb rfl) ?_)
      exact rfl
    refine VP.step (p := ?pv14) rfl rfl rfl (⟨_, _, rfl, rfl, rfl⟩) ?hv14 ?rest14 hck4
    case hv14 =>
      intro E1
      first | refine (V1.fieldPin rfl rfl fo_27_1 rfl (ltb rfl) ?_) | refine (V1.fieldRef rfl rfl fo_27_1 rfl (ltb rfl) ?_)
      exact rfl
    refine VP.step (p := ?pv15) rfl rfl rfl (⟨_, _, rfl, rfl, rfl⟩) ?hv15 ?rest15 hck4
    case hv15 =>
      intro E1
      first | refine (V1.loadPin rfl rfl tyk_3 rfl rfl (ltb rfl) ?_) | refine (V1.loadRef (k := 0) rfl rfl tyk_3 rfl rfl rfl rfl rfl (ltb rfl) ?_) | refine (V1.loadRef (k := 1) rfl rfl tyk_3 rfl rfl rfl rfl rfl (ltb rfl) ?_) | refine (V1.loadRef (k := 2) rfl rfl tyk_3 rfl rfl rfl rfl rfl (ltb rfl) ?_)
      exact rfl
    refine VP.step (p := ?pv16) rfl rfl rfl (⟨_, _, rfl, rfl, rfl⟩) ?hv16 ?rest16 hck4
    case hv16 =>
      intro E1
      refine (V1.assign rfl rfl rfl (ltb rfl) ?_)
      exact rfl
    refine VP.step (p := ?pv17) rfl rfl rfl (⟨_, _, rfl, rfl, rfl⟩) ?hv17 ?rest17 hck4
    case hv17 =>
      intro E1
      refine (V1.assign rfl rfl rfl (ltb rfl) ?_)
      exact rfl
    refine VP.fin rfl (⟨_, _, rfl, rfl, ⟨_, _, rfl, rfl, ⟨_, _, rfl, rfl, rfl⟩⟩⟩) ?_
    refine VO.cons rfl (V1.assign rfl rfl rfl (ltb rfl) ?_)
    refine VO.cons rfl (V1.assign rfl rfl rfl (ltb rfl) ?_)
    refine VO.nil ?_
    refine V.ret ?_
    refine ⟨_, [], ⟨_, _, rfl, rfl, ⟨_, _, rfl, rfl, ⟨_, _, rfl, rfl, ⟨_, _, rfl, rfl, rfl⟩⟩⟩⟩, List.nil_sublist _, ?_, rfl⟩
    rw [findRes, show noFile l n = _ from hcr1]; rfl

theorem iFindFile_ok (ρ rn : Nat) (l : List Carton) (n : Int) (hl : Small l) : Does Try.prog 29 [.vl ρ 5 (l.map (encCarton ρ)), .int .i64 n] [] rn (fun x H => x = findRes l n ∧ H = []) := by
  have hb := firstAt_bd (p := hasF n) (l := l)
  refine Does.intro (N := 34) Try.func29 rfl rfl rfl rfl ?_
  intro w0 S0
  refine V.seq ?_
  refine V.region ?_
  refine VO.cons rfl (V1.assign rfl rfl rfl (ltb rfl) ?_)
  refine VO.cons rfl (V1.assign rfl rfl rfl (ltb rfl) ?_)
  refine VO.cons rfl (V1.assign rfl rfl rfl (ltb rfl) ?_)
  refine VO.cons rfl (V1.assign rfl rfl rfl (ltb rfl) ?_)
  refine VO.nil ?_
  refine V.keep 34 [0, 1] [] rfl (⟨_, _, rfl, rfl, ⟨_, _, rfl, rfl, rfl⟩⟩) (rfl) rfl ?_
  refine V.seq ?_
  refine V.region ?_
  refine VO.cons rfl (V1.move rfl rfl rfl (ltb rfl) ?_)
  refine VO.cons rfl (V1.move rfl rfl rfl (ltb rfl) ?_)
  refine VO.cons rfl (V1.call rfl rfl rfl cok_83 rfl (cartonWith_ok _ _ l n hl) rfl (ltb rfl) ?_)
  rintro _ _ ⟨rfl, rfl⟩
  refine VO.cons rfl (V1.assign rfl rfl rfl (ltb rfl) ?_)
  refine VO.weaken (Keeps.say 8 (y := .int .i64 (firstAt (hasF n) l)) rfl (by rw [hasF_swap])) ?_
  refine VO.nil ?_
  refine V.keep 34 [0, 8] [] rfl (⟨_, _, rfl, rfl, ⟨_, _, rfl, rfl, rfl⟩⟩) (rfl) rfl ?_
  refine V.seq ?_
  refine V.seq ?_
  refine V.region ?_
  refine VO.cons rfl (V1.move rfl rfl rfl (ltb rfl) ?_)
  refine VO.cons rfl (V1.call rfl rfl rfl cok_24 rfl (iAreCartons_ok _ _ l hl) rfl (ltb rfl) ?_)
  rintro _ _ ⟨rfl, rfl⟩
  refine VO.cons rfl (V1.not rfl rfl rfl (ltb rfl) ?_)
  refine VO.cons rfl (V1.move rfl rfl rfl (ltb rfl) ?_)
  apply VO.or (n := 2) rfl rfl rfl rfl rfl rfl (ltb rfl) (.none rfl)
  · intro hg0
    refine VO.step (.some rfl rfl rfl) (V1.move rfl rfl rfl (ltb rfl) ?_)
    refine VO.step (.some rfl rfl rfl) (V1.int rfl rfl rfl rfl rfl (ltb rfl) ?_)
    exact VO.nil ⟨rfl, rfl, rfl, rfl, .inr ⟨rfl, .inr ⟨rfl, .inr ⟨rfl, .inl rfl⟩⟩⟩⟩
  refine VO.nil ?_
  refine V.keep 34 [0, 8, 18] [] rfl (⟨_, _, rfl, rfl, ⟨_, _, rfl, rfl, ⟨_, _, rfl, rfl, rfl⟩⟩⟩) (rfl) rfl ?_
  refine V.cond rfl (fun hc1 => ?_) (fun hc1 => ?_)
  · skip
    have hcr1 := hc1
    try simp only [decide_eq_true_eq, decide_eq_false_iff_not, List.length_map, Bool.and_eq_true, Bool.or_eq_true, Bool.not_eq_true', Bool.not_eq_false', Bool.and_eq_false_iff, Bool.or_eq_false_iff, beq_iff_eq, bne_iff_ne, beq_eq_false_iff_ne, bne_eq_false_iff_eq, Int.not_lt, Int.not_le, ne_eq] at hc1
    refine V.seq ?_
    refine V.region ?_
    refine VO.cons rfl (V1.assign rfl rfl rfl (ltb rfl) ?_)
    refine VO.cons rfl (V1.assign rfl rfl rfl (ltb rfl) ?_)
    refine VO.cons rfl (V1.assign rfl rfl rfl (ltb rfl) ?_)
    refine VO.cons rfl (V1.assign rfl rfl rfl (ltb rfl) ?_)
    refine VO.nil ?_
    refine V.ret ?_
    refine ⟨_, [], ⟨_, _, rfl, rfl, ⟨_, _, rfl, rfl, ⟨_, _, rfl, rfl, ⟨_, _, rfl, rfl, rfl⟩⟩⟩⟩, List.nil_sublist _, ?_, rfl⟩
    rw [findRes, show noFile l n = _ from hcr1]; rfl
  · skip
    have hcr1 := hc1
    try simp only [decide_eq_true_eq, decide_eq_false_iff_not, List.length_map, Bool.and_eq_true, Bool.or_eq_true, Bool.not_eq_true', Bool.not_eq_false', Bool.and_eq_false_iff, Bool.or_eq_false_iff, beq_iff_eq, bne_iff_ne, beq_eq_false_iff_ne, bne_eq_false_iff_eq, Int.not_lt, Int.not_le, ne_eq] at hc1
    have h0 : 0 ≤ firstAt (hasF n) l := by rw [Bool.or_eq_false_iff] at hcr1; have := of_decide_eq_false hcr1.2; omega
    refine V.skip ?_
    refine V.seq ?_
    refine V.regionM 34 17 [⟨[(0, none)], [], none⟩, ⟨[(8, none)], [], none⟩, ⟨[(19, some 1), (20, some 0)], [], none⟩, ⟨[(21, some 0)], [], none⟩, ⟨[(22, some 0)], [], none⟩, ⟨[(0, none)], [], none⟩, ⟨[(8, none)], [], none⟩, ⟨[(24, some 1), (25, some 0)], [], none⟩, ⟨[(26, some 0)], [], none⟩, ⟨[(27, some 0)], [], none⟩, ⟨[(0, none)], [], none⟩, ⟨[(8, none)], [], none⟩, ⟨[(29, some 1), (30, some 0)], [], none⟩, ⟨[(31, some 0)], [], none⟩, ⟨[(32, some 0)], [], none⟩, ⟨[(23, some 10)], [], none⟩, ⟨[(28, some 6)], [], none⟩] [(4, some 1), (5, some 0), (33, some 2)] (⟨_, rfl, ⟨_, rfl, ⟨_, rfl, ⟨_, rfl, ⟨_, rfl, ⟨_, rfl, ⟨_, rfl, ⟨_, rfl, ⟨_, rfl, ⟨_, rfl, ⟨_, rfl, ⟨_, rfl, ⟨_, rfl, ⟨_, rfl, ⟨_, rfl, ⟨_, rfl, ⟨_, rfl, ⟨rfl, rfl⟩⟩⟩⟩⟩⟩⟩⟩⟩⟩⟩⟩⟩⟩⟩⟩⟩⟩) mixed_orders rfl (by decide +kernel) (fun hck4 => ?_)
    refine VP.step (p := ?pv1) rfl rfl rfl (⟨_, _, rfl, rfl, rfl⟩) ?hv1 ?rest1 hck4
    case hv1 =>
      intro E1
      refine (V1.move rfl rfl rfl (ltb rfl) ?_)
      exact rfl
    refine VP.step (p := ?pv2) rfl rfl rfl (⟨_, _, rfl, rfl, rfl⟩) ?hv2 ?rest2 hck4
    case hv2 =>
      intro E1
      refine (V1.move rfl rfl rfl (ltb rfl) ?_)
      exact rfl
    refine VP.step (p := ?pv3) rfl rfl rfl (⟨_, _, rfl, rfl, ⟨_, _, rfl, rfl, rfl⟩⟩) ?hv3 ?rest3 hck4
    case hv3 =>
      intro E1
      first | refine (V1.indexMapN rfl rfl esz_34 rfl rfl (by omega) (ltb rfl) ?_) | refine (V1.indexMap rfl rfl esz_34 rfl rfl (by (first | omega | (simp only [List.length_map, List.length_append, List.length_take, List.length_drop, List.length_replicate, List.length_set, Int.toNat_natCast] at *; omega) | (simp at *; omega))) (by (first | omega | (simp only [List.length_map, List.length_append, List.length_take, List.length_drop, List.length_replicate, List.length_set, Int.toNat_natCast] at *; omega) | (simp at *; omega))) (ltb rfl) ?_) | refine (V1.indexSref rfl rfl esz_34 rfl rfl (by (first | omega | (simp only [List.length_map, List.length_append, List.length_take, List.length_drop, List.length_replicate, List.length_set, Int.toNat_natCast] at *; omega) | (simp at *; omega))) (by (first | omega | (simp only [List.length_map, List.length_append, List.length_take, List.length_drop, List.length_replicate, List.length_set, Int.toNat_natCast] at *; omega) | (simp at *; omega))) (ltb rfl) ?_)
      exact rfl
    refine VP.step (p := ?pv4) rfl rfl rfl (⟨_, _, rfl, rfl, rfl⟩) ?hv4 ?rest4 hck4
    case hv4 =>
      intro E1
      first | refine (V1.fieldPin rfl rfl fo_27_0 rfl (ltb rfl) ?_) | refine (V1.fieldRef rfl rfl fo_27_0 rfl (ltb rfl) ?_)
      exact rfl
    refine VP.step (p := ?pv5) rfl rfl rfl (⟨_, _, rfl, rfl, rfl⟩) ?hv5 ?rest5 hck4
    case hv5 =>
      intro E1
      first | refine (V1.loadPin rfl rfl tyk_3 rfl rfl (ltb rfl) ?_) | refine (V1.loadRef (k := 0) rfl rfl tyk_3 rfl rfl rfl rfl rfl (ltb rfl) ?_) | refine (V1.loadRef (k := 1) rfl rfl tyk_3 rfl rfl rfl rfl rfl (ltb rfl) ?_) | refine (V1.loadRef (k := 2) rfl rfl tyk_3 rfl rfl rfl rfl rfl (ltb rfl) ?_)
      exact rfl
    refine VP.step (p := ?pv6) rfl rfl rfl (⟨_, _, rfl, rfl, rfl⟩) ?hv6 ?rest6 hck4
    case hv6 =>
      intro E1
      refine (V1.move rfl rfl rfl (ltb rfl) ?_)
      exact rfl
    refine VP.step (p := ?pv7) rfl rfl rfl (⟨_, _, rfl, rfl, rfl⟩) ?hv7 ?rest7 hck4
    case hv7 =>
      intro E1
      refine (V1.move rfl rfl rfl (ltb rfl) ?_)
      exact rfl
    refine VP.step (p := ?pv8) rfl rfl rfl (⟨_, _, rfl, rfl, ⟨_, _, rfl, rfl, rfl⟩⟩) ?hv8 ?rest8 hck4
    case hv8 =>
      intro E1
      first | refine (V1.indexMapN rfl rfl esz_34 rfl rfl (by omega) (ltb rfl) ?_) | refine (V1.indexMap rfl rfl esz_34 rfl rfl (by (first | omega | (simp only [List.length_map, List.length_append, List.length_take, List.length_drop, List.length_replicate, List.length_set, Int.toNat_natCast] at *; omega) | (simp at *; omega))) (by (first | omega | (simp only [List.length_map, List.length_append, List.length_take, List.length_drop, List.length_replicate, List.length_set, Int.toNat_natCast] at *; omega) | (simp at *; omega))) (ltb rfl) ?_) | refine (V1.indexSref rfl rfl esz_34 rfl rfl (by (first | omega | (simp only [List.length_map, List.length_append, List.length_take, List.length_drop, List.length_replicate, List.length_set, Int.toNat_natCast] at *; omega) | (simp at *; omega))) (by (first | omega | (simp only [List.length_map, List.length_append, List.length_take, List.length_drop, List.length_replicate, List.length_set, Int.toNat_natCast] at *; omega) | (simp at *; omega))) (ltb rfl) ?_)
      exact rfl
    refine VP.step (p := ?pv9) rfl rfl rfl (⟨_, _, rfl, rfl, rfl⟩) ?hv9 ?rest9 hck4
    case hv9 =>
      intro E1
      first | refine (V1.fieldPin rfl rfl fo_27_2 rfl (ltb rfl) ?_) | refine (V1.fieldRef rfl rfl fo_27_2 rfl (ltb rfl) ?_)
      exact rfl
    refine VP.step (p := ?pv10) rfl rfl rfl (⟨_, _, rfl, rfl, rfl⟩) ?hv10 ?rest10 hck4
    case hv10 =>
      intro E1
      first | refine (V1.loadPin rfl rfl tyk_3 rfl rfl (ltb rfl) ?_) | refine (V1.loadRef (k := 0) rfl rfl tyk_3 rfl rfl rfl rfl rfl (ltb rfl) ?_) | refine (V1.loadRef (k := 1) rfl rfl tyk_3 rfl rfl rfl rfl rfl (ltb rfl) ?_) | refine (V1.loadRef (k := 2) rfl rfl tyk_3 rfl rfl rfl rfl rfl (ltb rfl) ?_)
      exact rfl
    refine VP.step (p := ?pv11) rfl rfl rfl (⟨_, _, rfl, rfl, rfl⟩) ?hv11 ?rest11 hck4
    case hv11 =>
      intro E1
      refine (V1.move rfl rfl rfl (ltb rfl) ?_)
      exact rfl
    refine VP.step (p := ?pv12) rfl rfl rfl (⟨_, _, rfl, rfl, rfl⟩) ?hv12 ?rest12 hck4
    case hv12 =>
      intro E1
      refine (V1.move rfl rfl rfl (ltb rfl) ?_)
      exact rfl
    refine VP.step (p := ?pv13) rfl rfl rfl (⟨_, _, rfl, rfl, ⟨_, _, rfl, rfl, rfl⟩⟩) ?hv13 ?rest13 hck4
    case hv13 =>
      intro E1
      first | refine (V1.indexMapN rfl rfl esz_34 rfl rfl (by omega) (ltb rfl) ?_) | refine (V1.indexMap rfl rfl esz_34 rfl rfl (by (first | omega | (simp only [List.length_map, List.length_append, List.length_take, List.length_drop, List.length_replicate, List.length_set, Int.toNat_natCast] at *; omega) | (simp at *; omega))) (by (first | omega | (simp only [List.length_map, List.length_append, List.length_take, List.length_drop, List.length_replicate, List.length_set, Int.toNat_natCast] at *; omega) | (simp at *; omega))) (ltb rfl) ?_) | refine (V1.indexSref rfl rfl esz_34 rfl rfl (by (first | omega | (simp only [List.length_map, List.length_append, List.length_take, List.length_drop, List.length_replicate, List.length_set, Int.toNat_natCast] at *; omega) | (simp at *; omega))) (by (first | omega | (simp only [List.length_map, List.length_append, List.length_take, List.length_drop, List.length_replicate, List.length_set, Int.toNat_natCast] at *; omega) | (simp at *; omega))) (ltb rfl) ?_)
      exact rfl
    refine VP.step (p := ?pv14) rfl rfl rfl (⟨_, _, rfl, rfl, rfl⟩) ?hv14 ?rest14 hck4
    case hv14 =>
      intro E1
      first | refine (V1.fieldPin rfl rfl fo_27_1 rfl (ltb rfl) ?_) | refine (V1.fieldRef rfl rfl fo_27_1 rfl (ltb rfl) ?_)
      exact rfl
    refine VP.step (p := ?pv15) rfl rfl rfl (⟨_, _, rfl, rfl, rfl⟩) ?hv15 ?rest15 hck4
    case hv15 =>
      intro E1
      first | refine (V1.loadPin rfl rfl tyk_3 rfl rfl (ltb rfl) ?_) | refine (V1.loadRef (k := 0) rfl rfl tyk_3 rfl rfl rfl rfl rfl (ltb rfl) ?_) | refine (V1.loadRef (k := 1) rfl rfl tyk_3 rfl rfl rfl rfl rfl (ltb rfl) ?_) | refine (V1.loadRef (k := 2) rfl rfl tyk_3 rfl rfl rfl rfl rfl (ltb rfl) ?_)
      exact rfl
    refine VP.step (p := ?pv16) rfl rfl rfl (⟨_, _, rfl, rfl, rfl⟩) ?hv16 ?rest16 hck4
    case hv16 =>
      intro E1
      refine (V1.assign rfl rfl rfl (ltb rfl) ?_)
      exact rfl
    refine VP.step (p := ?pv17) rfl rfl rfl (⟨_, _, rfl, rfl, rfl⟩) ?hv17 ?rest17 hck4
    case hv17 =>
      intro E1
      refine (V1.assign rfl rfl rfl (ltb rfl) ?_)
      exact rfl
    refine VP.fin rfl (⟨_, _, rfl, rfl, ⟨_, _, rfl, rfl, ⟨_, _, rfl, rfl, rfl⟩⟩⟩) ?_
    refine VO.cons rfl (V1.assign rfl rfl rfl (ltb rfl) ?_)
    refine VO.cons rfl (V1.assign rfl rfl rfl (ltb rfl) ?_)
    refine VO.nil ?_
    refine V.ret ?_
    refine ⟨_, [], ⟨_, _, rfl, rfl, ⟨_, _, rfl, rfl, ⟨_, _, rfl, rfl, ⟨_, _, rfl, rfl, rfl⟩⟩⟩⟩, List.nil_sublist _, ?_, rfl⟩
    rw [findRes, show noFile l n = _ from hcr1]; rfl

theorem FnExactFindFile_ok (ρ : Nat) (l : List Carton) (n : Int) (hl : l.length < 9223372036854775808) (hf : ∀ c, c ∈ l → c.files.length < 9223372036854775808) : Does Try.prog 6 [.vl ρ 5 (l.map (encCarton ρ)), .int .i64 n] [] 0 (fun x H => x = .bool true ∧ H = []) := by
  refine Does.intro (N := 62) Try.func6 rfl rfl rfl rfl ?_
  intro w0 S0
  refine V.seq ?_
  refine V.region ?_
  refine VO.cons rfl (V1.assign rfl rfl rfl (ltb rfl) ?_)
  refine VO.nil ?_
  refine V.seq ?_
  refine V.region ?_
  refine VO.cons rfl (V1.assign rfl rfl rfl (ltb rfl) ?_)
  refine VO.nil ?_
  refine V.seq ?_
  refine V.region ?_
  refine VO.cons rfl (V1.move rfl rfl rfl (ltb rfl) ?_)
  refine VO.cons rfl (V1.move rfl rfl rfl (ltb rfl) ?_)
  refine VO.cons rfl (V1.call rfl rfl rfl cok_21 rfl (szCartonS_ok _ _ l _ hl hf (by omega) (by omega)) rfl (ltb rfl) ?_)
  rintro _ _ ⟨rfl, rfl⟩
  refine VO.cons rfl (V1.assign rfl rfl rfl (ltb rfl) ?_)
  refine VO.nil ?_
  refine V.keep 62 [0, 1, 5] [] rfl (⟨_, _, rfl, rfl, ⟨_, _, rfl, rfl, ⟨_, _, rfl, rfl, rfl⟩⟩⟩) (rfl) rfl ?_
  refine V.seq ?_
  refine V.seq ?_
  refine V.region ?_
  refine VO.cons rfl (V1.move rfl rfl rfl (ltb rfl) ?_)
  refine VO.cons rfl (V1.int rfl rfl rfl rfl rfl (ltb rfl) ?_)
  refine VO.nil ?_
  refine V.cond rfl (fun hc0 => ?_) (fun hc0 => ?_)
  · skip
    have hcr0 := hc0
    try simp only [decide_eq_true_eq, decide_eq_false_iff_not, List.length_map, Bool.and_eq_true, Bool.or_eq_true, Bool.not_eq_true', Bool.not_eq_false', Bool.and_eq_false_iff, Bool.or_eq_false_iff, beq_iff_eq, bne_iff_ne, beq_eq_false_iff_ne, bne_eq_false_iff_eq, Int.not_lt, Int.not_le, ne_eq] at hc0
    refine V.seq ?_
    refine V.region ?_
    refine VO.cons rfl (V1.assign rfl rfl rfl (ltb rfl) ?_)
    refine VO.nil ?_
    refine V.ret ?_
    refine ⟨_, [], ⟨_, _, rfl, rfl, rfl⟩, List.nil_sublist _, rfl, rfl⟩
  · skip
    have hcr0 := hc0
    try simp only [decide_eq_true_eq, decide_eq_false_iff_not, List.length_map, Bool.and_eq_true, Bool.or_eq_true, Bool.not_eq_true', Bool.not_eq_false', Bool.and_eq_false_iff, Bool.or_eq_false_iff, beq_iff_eq, bne_iff_ne, beq_eq_false_iff_ne, bne_eq_false_iff_eq, Int.not_lt, Int.not_le, ne_eq] at hc0
    have hs : Small l := by
      have hb : ((l.length : Int) + bulk l ≤ 1048576) := by unfold szLeft at hc0; split at hc0 <;> omega
      exact ⟨by omega, fun c hc => by have := bulk_mem hc; omega⟩
    refine V.skip ?_
    refine V.seq ?_
    refine V.region ?_
    refine VO.cons rfl (V1.move rfl rfl rfl (ltb rfl) ?_)
    refine VO.cons rfl (V1.call rfl rfl rfl cok_23 rfl (toCartonS_ok _ _ l hs) rfl (ltb rfl) ?_)
    rintro _ _ ⟨rfl, rfl⟩
    refine VO.cons rfl (V1.move rfl rfl rfl (ltb rfl) ?_)
    refine VO.cons rfl (V1.call rfl rfl rfl cok_28 rfl (sFindFile_ok _ _ l _ hs) rfl (ltb rfl) ?_)
    rintro _ _ ⟨rfl, rfl⟩
    refine VO.cons rfl (V1.move rfl rfl rfl (ltb rfl) ?_)
    refine VO.cons rfl (V1.extract rfl rfl rfl rfl (ltb rfl) ?_)
    refine VO.cons rfl (V1.extract rfl rfl rfl rfl (ltb rfl) ?_)
    refine VO.cons rfl (V1.extract rfl rfl rfl rfl (ltb rfl) ?_)
    refine VO.cons rfl (V1.extract rfl rfl rfl rfl (ltb rfl) ?_)
    refine VO.cons rfl (V1.assign rfl rfl rfl (ltb rfl) ?_)
    refine VO.cons rfl (V1.assign rfl rfl rfl (ltb rfl) ?_)
    refine VO.cons rfl (V1.assign rfl rfl rfl (ltb rfl) ?_)
    refine VO.cons rfl (V1.assign rfl rfl rfl (ltb rfl) ?_)
    refine VO.nil ?_
    refine V.keep 62 [0, 1, 6, 7, 8, 9] [] rfl (⟨_, _, rfl, rfl, ⟨_, _, rfl, rfl, ⟨_, _, rfl, rfl, ⟨_, _, rfl, rfl, ⟨_, _, rfl, rfl, ⟨_, _, rfl, rfl, rfl⟩⟩⟩⟩⟩⟩) (rfl) rfl ?_
    refine V.seq ?_
    refine V.region ?_
    refine VO.cons rfl (V1.move rfl rfl rfl (ltb rfl) ?_)
    refine VO.cons rfl (V1.call rfl rfl rfl cok_23 rfl (toCartonS_ok _ _ l hs) rfl (ltb rfl) ?_)
    rintro _ _ ⟨rfl, rfl⟩
    refine VO.cons rfl (V1.assign rfl rfl rfl (ltb rfl) ?_)
    refine VO.nil ?_
    refine V.seq ?_
    refine V.region ?_
    refine VO.cons rfl (V1.move rfl rfl rfl (ltb rfl) ?_)
    refine VO.cons rfl (V1.move rfl rfl rfl (ltb rfl) ?_)
    refine VO.cons rfl (V1.call rfl rfl rfl cok_29 rfl (iFindFile_ok _ _ l _ hs) rfl (ltb rfl) ?_)
    rintro _ _ ⟨rfl, rfl⟩
    refine VO.cons rfl (V1.move rfl rfl rfl (ltb rfl) ?_)
    refine VO.cons rfl (V1.extract rfl rfl rfl rfl (ltb rfl) ?_)
    refine VO.cons rfl (V1.extract rfl rfl rfl rfl (ltb rfl) ?_)
    refine VO.cons rfl (V1.extract rfl rfl rfl rfl (ltb rfl) ?_)
    refine VO.cons rfl (V1.extract rfl rfl rfl rfl (ltb rfl) ?_)
    refine VO.cons rfl (V1.assign rfl rfl rfl (ltb rfl) ?_)
    refine VO.cons rfl (V1.assign rfl rfl rfl (ltb rfl) ?_)
    refine VO.cons rfl (V1.assign rfl rfl rfl (ltb rfl) ?_)
    refine VO.cons rfl (V1.assign rfl rfl rfl (ltb rfl) ?_)
    refine VO.nil ?_
    refine V.keep 62 [0, 6, 7, 8, 9, 10, 11, 12, 13, 14] [] rfl (⟨_, _, rfl, rfl, ⟨_, _, rfl, rfl, ⟨_, _, rfl, rfl, ⟨_, _, rfl, rfl, ⟨_, _, rfl, rfl, ⟨_, _, rfl, rfl, ⟨_, _, rfl, rfl, ⟨_, _, rfl, rfl, ⟨_, _, rfl, rfl, ⟨_, _, rfl, rfl, rfl⟩⟩⟩⟩⟩⟩⟩⟩⟩⟩) (rfl) rfl ?_
    refine V.seq ?_
    refine V.seq ?_
    refine V.region ?_
    refine VO.cons rfl (V1.move rfl rfl rfl (ltb rfl) ?_)
    refine VO.cons rfl (V1.move rfl rfl rfl (ltb rfl) ?_)
    refine VO.cons rfl (V1.int rfl rfl rfl rfl rfl (ltb rfl) ?_)
    refine VO.cons rfl (V1.move rfl rfl rfl (ltb rfl) ?_)
    apply VO.or (n := 3) rfl rfl rfl rfl rfl rfl (ltb rfl) (.none rfl)
    · intro hg1
      refine VO.step (.some rfl rfl rfl) (V1.move rfl rfl rfl (ltb rfl) ?_)
      refine VO.step (.some rfl rfl rfl) (V1.move rfl rfl rfl (ltb rfl) ?_)
      refine VO.step (.some rfl rfl rfl) (V1.int rfl rfl rfl rfl rfl (ltb rfl) ?_)
      exact VO.nil ⟨rfl, rfl, rfl, rfl, .inr ⟨rfl, .inr ⟨rfl, .inr ⟨rfl, .inr ⟨rfl, .inl rfl⟩⟩⟩⟩⟩
    refine VO.cons rfl (V1.move rfl rfl rfl (ltb rfl) ?_)
    apply VO.or (n := 3) rfl rfl rfl rfl rfl rfl (ltb rfl) (.none rfl)
    · intro hg2
      refine VO.step (.some rfl rfl rfl) (V1.move rfl rfl rfl (ltb rfl) ?_)
      refine VO.step (.some rfl rfl rfl) (V1.move rfl rfl rfl (ltb rfl) ?_)
      refine VO.step (.some rfl rfl rfl) (V1.int rfl rfl rfl rfl rfl (ltb rfl) ?_)
      exact VO.nil ⟨rfl, rfl, rfl, rfl, .inr ⟨rfl, .inr ⟨rfl, .inr ⟨rfl, .inr ⟨rfl, .inl rfl⟩⟩⟩⟩⟩
    refine VO.cons rfl (V1.move rfl rfl rfl (ltb rfl) ?_)
    apply VO.or (n := 3) rfl rfl rfl rfl rfl rfl (ltb rfl) (.none rfl)
    · intro hg3
      refine VO.step (.some rfl rfl rfl) (V1.move rfl rfl rfl (ltb rfl) ?_)
      refine VO.step (.some rfl rfl rfl) (V1.move rfl rfl rfl (ltb rfl) ?_)
      refine VO.step (.some rfl rfl rfl) (V1.boolNeq rfl rfl und_4 rfl rfl (ltb rfl) ?_)
      exact VO.nil ⟨rfl, rfl, rfl, rfl, .inr ⟨rfl, .inr ⟨rfl, .inr ⟨rfl, .inr ⟨rfl, .inl rfl⟩⟩⟩⟩⟩
    refine VO.nil ?_
    refine V.keep 62 [0, 10, 56] [] rfl (⟨_, _, rfl, rfl, ⟨_, _, rfl, rfl, ⟨_, _, rfl, rfl, rfl⟩⟩⟩) (rfl) rfl ?_
    refine V.cond rfl (fun hc4 => ?_) (fun hc4 => ?_)
    · skip
      have hcr4 := hc4
      try simp only [decide_eq_true_eq, decide_eq_false_iff_not, List.length_map, Bool.and_eq_true, Bool.or_eq_true, Bool.not_eq_true', Bool.not_eq_false', Bool.and_eq_false_iff, Bool.or_eq_false_iff, beq_iff_eq, bne_iff_ne, beq_eq_false_iff_ne, bne_eq_false_iff_eq, Int.not_lt, Int.not_le, ne_eq] at hc4
      simp at hcr4
    · skip
      have hcr4 := hc4
      try simp only [decide_eq_true_eq, decide_eq_false_iff_not, List.length_map, Bool.and_eq_true, Bool.or_eq_true, Bool.not_eq_true', Bool.not_eq_false', Bool.and_eq_false_iff, Bool.or_eq_false_iff, beq_iff_eq, bne_iff_ne, beq_eq_false_iff_ne, bne_eq_false_iff_eq, Int.not_lt, Int.not_le, ne_eq] at hc4
      refine V.skip ?_
      refine V.seq ?_
      refine V.seq ?_
      refine V.region ?_
      refine VO.cons rfl (V1.move rfl rfl rfl (ltb rfl) ?_)
      refine VO.cons rfl (V1.move rfl rfl rfl (ltb rfl) ?_)
      refine VO.cons rfl (V1.call rfl rfl rfl cok_23 rfl (toCartonS_ok _ _ l hs) rfl (ltb rfl) ?_)
      rintro _ _ ⟨rfl, rfl⟩
      refine VO.cons rfl (V1.call rfl rfl rfl cok_25 rfl (eqCartonS_ok _ _ _ l l hs hs) rfl (ltb rfl) ?_)
      rintro _ _ ⟨rfl, rfl⟩
      refine VO.cons rfl (V1.not rfl rfl rfl (ltb rfl) ?_)
      refine VO.nil ?_
      refine V.keep 62 [61] [] rfl (⟨_, _, rfl, rfl, rfl⟩) (rfl) rfl ?_
      refine V.cond rfl (fun hc5 => ?_) (fun hc5 => ?_)
      · skip
        have hcr5 := hc5
        try simp only [decide_eq_true_eq, decide_eq_false_iff_not, List.length_map, Bool.and_eq_true, Bool.or_eq_true, Bool.not_eq_true', Bool.not_eq_false', Bool.and_eq_false_iff, Bool.or_eq_false_iff, beq_iff_eq, bne_iff_ne, beq_eq_false_iff_ne, bne_eq_false_iff_eq, Int.not_lt, Int.not_le, ne_eq] at hc5
        simp at hcr5
      · skip
        have hcr5 := hc5
        try simp only [decide_eq_true_eq, decide_eq_false_iff_not, List.length_map, Bool.and_eq_true, Bool.or_eq_true, Bool.not_eq_true', Bool.not_eq_false', Bool.and_eq_false_iff, Bool.or_eq_false_iff, beq_iff_eq, bne_iff_ne, beq_eq_false_iff_ne, bne_eq_false_iff_eq, Int.not_lt, Int.not_le, ne_eq] at hc5
        refine V.skip ?_
        refine V.seq ?_
        refine V.region ?_
        refine VO.cons rfl (V1.assign rfl rfl rfl (ltb rfl) ?_)
        refine VO.nil ?_
        refine V.ret ?_
        refine ⟨_, [], ⟨_, _, rfl, rfl, rfl⟩, List.nil_sublist _, rfl, rfl⟩
end Go.Proofs.Ythaeehmkeiiidaa
