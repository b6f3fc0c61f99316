/- the cartons: whole lists -/
import Derived.Test.YthaeehmkeiiidaaCb
set_option linter.unusedSimpArgs false
set_option linter.unusedVariables false
set_option maxRecDepth 100000
namespace Go.Proofs.Ythaeehmkeiiidaa
open Go.VS


def clash (l : List Carton) (c : Carton) : Bool := l.any fun y => c.files.any fun x => y.files.any fun z => x == z
def okAt (l : List Carton) (k : Nat) : Bool :=
  (!(!(goodOne (l.getD k default)) || decide ((k : Int) > 0) && decide ((l.getD (k - 1) default).id ≥ (l.getD k default).id)) && decide (taken (l.take (k + 1)) (l.getD k default).room (l.getD k default).shelf ≤ 100)) && !(clash (l.take k) (l.getD k default))
def good (l : List Carton) : Bool := decide ((l.length : Int) ≤ 10) && (List.range l.length).all (okAt l)

theorem good_false {l : List Carton} {k : Nat} (hk : k < l.length) (h : okAt l k = false) : good l = false := by
  rw [good, all_range_false hk h, Bool.and_false]

theorem okAt_parts {l : List Carton} {k : Nat} (h1 : (!(goodOne (l.getD k default)) || decide ((k : Int) > 0) && decide ((l.getD (k - 1) default).id ≥ (l.getD k default).id)) = false) (h2 : taken (l.take (k + 1)) (l.getD k default).room (l.getD k default).shelf ≤ 100) (h3 : clash (l.take k) (l.getD k default) = false) : okAt l k = true := by
  rw [okAt, h1, h3, decide_eq_true h2]; rfl

theorem okAt_no1 {l : List Carton} {k : Nat} (h1 : (!(goodOne (l.getD k default)) || decide ((k : Int) > 0) && decide ((l.getD (k - 1) default).id ≥ (l.getD k default).id)) = true) : okAt l k = false := by
  rw [okAt, h1]; rfl

theorem okAt_no2 {l : List Carton} {k : Nat} (h2 : ¬ taken (l.take (k + 1)) (l.getD k default).room (l.getD k default).shelf ≤ 100) : okAt l k = false := by
  rw [okAt, decide_eq_false h2, Bool.and_false, Bool.false_and]

theorem okAt_no3 {l : List Carton} {k : Nat} (h3 : clash (l.take k) (l.getD k default) = true) : okAt l k = false := by
  rw [okAt, h3]; simp

theorem goodOne_thick {c : Carton} (h : goodOne c = true) : 0 ≤ c.thick ∧ c.thick ≤ 40 := by
  simp only [goodOne, inB, Bool.and_eq_true, decide_eq_true_eq] at h
  omega

theorem okAt_good {l : List Carton} {k : Nat} (h : okAt l k = true) : goodOne (l.getD k default) = true := by
  cases hg : goodOne (l.getD k default) with
  | true => rfl
  | false => rw [okAt, hg] at h; simp at h

theorem thin_take {l : List Carton} {k : Nat} (hl : l.length ≤ 1048576) (hk : k < l.length) (h : (List.range k).all (okAt l) = true) (hg : goodOne (l.getD k default) = true) : Thin (l.take (k + 1)) := by
  refine ⟨by rw [List.length_take]; omega, fun c hc => ?_⟩
  obtain ⟨i, hi, rfl⟩ := List.getElem_of_mem hc
  rw [List.length_take] at hi
  rw [List.getElem_take]
  have e : l[i]'(by omega) = l.getD i default := by rw [List.getD_eq_getElem?_getD, List.getElem?_eq_getElem (by omega)]; rfl
  rw [e]
  rcases Nat.lt_or_ge i k with h1 | h1
  · rw [List.all_eq_true] at h
    exact goodOne_thick (okAt_good (h i (List.mem_range.2 h1)))
  · obtain rfl : i = k := by omega
    exact goodOne_thick hg

theorem clash_swap {l : List Carton} {c : Carton} : clash l c = c.files.any fun f => l.any fun y => y.files.any fun z => z == f := by
  rw [clash, Bool.eq_iff_iff]
  simp only [List.any_eq_true, beq_iff_eq]
  constructor
  · rintro ⟨y, hy, x, hx, z, hz, e⟩; exact ⟨x, hx, y, hy, z, hz, e.symm⟩
  · rintro ⟨x, hx, y, hy, z, hz, e⟩; exact ⟨y, hy, x, hx, z, hz, e.symm⟩

theorem Small.take {l : List Carton} (h : Small l) (k : Nat) : Small (l.take k) :=
  ⟨by rw [List.length_take]; have := h.1; omega, fun c hc => h.2 c (List.mem_of_mem_take hc)⟩

theorem iAreCartons_ok (ρ rn : Nat) (l : List Carton) (hl : Small l) : Does Try.prog 24 [.vl ρ 5 (l.map (encCarton ρ))] [] rn (fun x H => x = .bool (good l) ∧ H = []) := by
  have hl1 := hl.1
  refine Does.intro (N := 59) Try.func24 rfl rfl rfl rfl ?_
  intro w0 S0
  refine V.seq ?_
  refine V.region ?_
  refine VO.cons rfl (V1.assign rfl rfl rfl (ltb rfl) ?_)
  refine VO.nil ?_
  refine V.seq ?_
  refine V.seq ?_
  refine V.region ?_
  refine VO.cons rfl (V1.move rfl rfl rfl (ltb rfl) ?_)
  first | refine VO.cons rfl (V1.lenVl rfl rfl rfl rfl rfl rfl isl_34 (ltb rfl) ?_) | refine VO.cons rfl (V1.lenSref rfl rfl rfl rfl rfl rfl isl_34 (ltb rfl) ?_) | refine VO.cons rfl (V1.lenNils rfl rfl rfl rfl rfl rfl isl_34 (ltb rfl) ?_)
  refine VO.cons rfl (V1.int rfl rfl rfl rfl rfl (ltb rfl) ?_)
  refine VO.nil ?_
  refine V.keep 59 [0, 9] [] rfl (⟨_, _, rfl, rfl, ⟨_, _, rfl, rfl, rfl⟩⟩) (rfl) rfl ?_
  refine V.cond rfl (fun hc0 => ?_) (fun hc0 => ?_)
  · skip
    have hcr0 := hc0
    try simp only [decide_eq_true_eq, decide_eq_false_iff_not, List.length_map, Bool.and_eq_true, Bool.or_eq_true, Bool.not_eq_true', Bool.not_eq_false', Bool.and_eq_false_iff, Bool.or_eq_false_iff, beq_iff_eq, bne_iff_ne, beq_eq_false_iff_ne, bne_eq_false_iff_eq, Int.not_lt, Int.not_le, ne_eq] at hc0
    refine V.seq ?_
    refine V.region ?_
    refine VO.cons rfl (V1.assign rfl rfl rfl (ltb rfl) ?_)
    refine VO.nil ?_
    refine V.ret ?_
    refine ⟨_, [], ⟨_, _, rfl, rfl, rfl⟩, List.nil_sublist _, ?_, rfl⟩
    exact congrArg PV.bool (by rw [good, decide_eq_false (by omega)]; rfl)
  · skip
    have hcr0 := hc0
    try simp only [decide_eq_true_eq, decide_eq_false_iff_not, List.length_map, Bool.and_eq_true, Bool.or_eq_true, Bool.not_eq_true', Bool.not_eq_false', Bool.and_eq_false_iff, Bool.or_eq_false_iff, beq_iff_eq, bne_iff_ne, beq_eq_false_iff_ne, bne_eq_false_iff_eq, Int.not_lt, Int.not_le, ne_eq] at hc0
    refine V.skip ?_
    refine V.seq ?_
    refine V.seq ?_
    refine V.region ?_
    refine VO.cons rfl (V1.move rfl rfl rfl (ltb rfl) ?_)
    first | refine VO.cons rfl (V1.lenVl rfl rfl rfl rfl rfl rfl isl_34 (ltb rfl) ?_) | refine VO.cons rfl (V1.lenSref rfl rfl rfl rfl rfl rfl isl_34 (ltb rfl) ?_) | refine VO.cons rfl (V1.lenNils rfl rfl rfl rfl rfl rfl isl_34 (ltb rfl) ?_)
    refine VO.cons rfl (V1.move rfl rfl rfl (ltb rfl) ?_)
    refine VO.nil ?_
    refine V.block ?_
    refine V.keep 59 [12, 0, 10, 11] [] rfl (⟨_, _, rfl, rfl, ⟨_, _, rfl, rfl, ⟨_, _, rfl, rfl, ⟨_, _, rfl, rfl, rfl⟩⟩⟩⟩) (rfl) rfl ?_
    refine V.loopE (D := Nat) (fun k => [(12, .int .i64 (k : Int))]) (fun k => []) (fun k => k ≤ l.length ∧ (List.range k).all (okAt l) = true) (fun k => l.length - k) 0 rfl (⟨by omega, rfl⟩) ?_
    rintro k ⟨hk, hr⟩
    refine V.seq ?_
    refine V.region ?_
    refine VO.cons rfl (V1.int rfl rfl rfl rfl rfl (ltb rfl) ?_)
    refine VO.nil ?_
    refine V.seq ?_
    refine V.cond rfl (fun hc1 => ?_) (fun hc1 => ?_)
    · skip
      have hcr1 := hc1
      try simp only [decide_eq_true_eq, decide_eq_false_iff_not, List.length_map, Bool.and_eq_true, Bool.or_eq_true, Bool.not_eq_true', Bool.not_eq_false', Bool.and_eq_false_iff, Bool.or_eq_false_iff, beq_iff_eq, bne_iff_ne, beq_eq_false_iff_ne, bne_eq_false_iff_eq, Int.not_lt, Int.not_le, ne_eq] at hc1
      refine V.skip ?_
      refine V.seq ?_
      refine V.block ?_
      refine V.seq ?_
      refine V.region ?_
      refine VO.cons rfl (V1.move rfl rfl rfl (ltb rfl) ?_)
      first | refine VO.cons rfl (V1.indexMapN rfl rfl esz_34 rfl rfl (by omega) (ltb rfl) ?_) | refine VO.cons rfl (V1.indexMap rfl rfl esz_34 rfl rfl (by (first | omega | (simp only [List.length_map, List.length_append, List.length_take, List.length_drop, List.length_replicate, List.length_set, Int.toNat_natCast] at *; omega) | (simp at *; omega))) (by (first | omega | (simp only [List.length_map, List.length_append, List.length_take, List.length_drop, List.length_replicate, List.length_set, Int.toNat_natCast] at *; omega) | (simp at *; omega))) (ltb rfl) ?_) | refine VO.cons rfl (V1.indexSref rfl rfl esz_34 rfl rfl (by (first | omega | (simp only [List.length_map, List.length_append, List.length_take, List.length_drop, List.length_replicate, List.length_set, Int.toNat_natCast] at *; omega) | (simp at *; omega))) (by (first | omega | (simp only [List.length_map, List.length_append, List.length_take, List.length_drop, List.length_replicate, List.length_set, Int.toNat_natCast] at *; omega) | (simp at *; omega))) (ltb rfl) ?_)
      first | refine VO.cons rfl (V1.loadPinAll rfl rfl tyk_27 rfl rfl (ltb rfl) ?_) | refine VO.cons rfl (V1.loadRefAll (k := 0) rfl rfl tyk_27 rfl rfl rfl rfl rfl (ltb rfl) ?_) | refine VO.cons rfl (V1.loadRefAll (k := 1) rfl rfl tyk_27 rfl rfl rfl rfl rfl (ltb rfl) ?_) | refine VO.cons rfl (V1.loadRefAll (k := 2) rfl rfl tyk_27 rfl rfl rfl rfl rfl (ltb rfl) ?_)
      refine VO.cons rfl (V1.alloc rfl rfl zk_27 (ltb rfl) ?_)
      intro b4
      refine VO.cons rfl (V1.assign rfl rfl rfl (ltb rfl) ?_)
      first | refine VO.cons rfl (V1.storeRefAll (k := 0) rfl rfl tyk_27 rfl rfl rfl rfl rfl rfl ?_) | refine VO.cons rfl (V1.storeRefAll (k := 1) rfl rfl tyk_27 rfl rfl rfl rfl rfl rfl ?_) | refine VO.cons rfl (V1.storeRefAll (k := 2) rfl rfl tyk_27 rfl rfl rfl rfl rfl rfl ?_)
      refine VO.nil ?_
      refine V.keep 59 [0, 3, 4, 10, 11, 12] [0] rfl (⟨_, _, rfl, rfl, ⟨_, _, rfl, rfl, ⟨_, _, rfl, rfl, ⟨_, _, rfl, rfl, ⟨_, _, rfl, rfl, ⟨_, _, rfl, rfl, rfl⟩⟩⟩⟩⟩⟩) (⟨_, _, rfl, rfl, rfl⟩) rfl ?_
      refine V.seq ?_
      refine V.seq ?_
      refine V.regionM 59 18 [⟨[(4, none)], [], none⟩, ⟨[(17, some 0)], [], none⟩, ⟨[(18, some 0)], [], none⟩, ⟨[(19, some 0)], [], none⟩, ⟨[(3, none)], [(0, false)], none⟩, ⟨[(21, some 0)], [(1, false)], none⟩, ⟨[(22, some 0)], [(2, false)], none⟩, ⟨[(0, none)], [(0, true), (3, false)], none⟩, ⟨[(3, none)], [(1, true), (4, false)], none⟩, ⟨[(25, some 0)], [(2, true), (5, false)], none⟩, ⟨[(24, some 2), (26, some 0)], [(3, true), (6, false)], none⟩, ⟨[(27, some 0)], [(4, true), (7, false)], none⟩, ⟨[(28, some 0)], [(5, true), (8, false)], none⟩, ⟨[(4, none)], [(6, true), (9, false)], none⟩, ⟨[(30, some 0)], [(7, true), (10, false)], none⟩, ⟨[(29, some 2), (31, some 0)], [(8, true), (11, false)], none⟩, ⟨[], [(12, false)], some (true, 23, 32, 9, 0)⟩, ⟨[], [], some (false, 20, 33, 13, 0)⟩] [(0, none), (3, none), (4, none), (10, none), (11, none), (12, none), (34, some 0)] (⟨_, rfl, ⟨_, rfl, ⟨_, rfl, ⟨_, rfl, ⟨_, rfl, ⟨_, rfl, ⟨_, rfl, ⟨_, rfl, ⟨_, rfl, ⟨_, rfl, ⟨_, rfl, ⟨_, rfl, ⟨_, rfl, ⟨_, rfl, ⟨_, rfl, ⟨_, rfl, ⟨_, rfl, ⟨_, rfl, ⟨rfl, rfl⟩⟩⟩⟩⟩⟩⟩⟩⟩⟩⟩⟩⟩⟩⟩⟩⟩⟩⟩) mixed_orders rfl (by decide +kernel) (fun hck6 => ?_)
      refine VP.step (p := ?pv1) rfl rfl rfl (⟨_, _, rfl, rfl, rfl⟩) ?hv1 ?rest1 hck6
      case hv1 =>
        intro E1
        first | refine (V1.loadPinAll rfl rfl tyk_27 rfl rfl (ltb rfl) ?_) | refine (V1.loadRefAll (k := 0) rfl rfl tyk_27 rfl rfl rfl rfl rfl (ltb rfl) ?_) | refine (V1.loadRefAll (k := 1) rfl rfl tyk_27 rfl rfl rfl rfl rfl (ltb rfl) ?_) | refine (V1.loadRefAll (k := 2) rfl rfl tyk_27 rfl rfl rfl rfl rfl (ltb rfl) ?_)
        exact rfl
      refine VP.step (p := ?pv2) rfl rfl rfl (⟨_, _, rfl, rfl, rfl⟩) ?hv2 ?rest2 hck6
      case hv2 =>
        intro E1
        refine (V1.call rfl rfl rfl cok_19 rfl (iIsCarton_ok _ _ _ (hl.2 _ (getD_mem (by omega)))) rfl (ltb rfl) ?_)
        rintro _ _ ⟨rfl, rfl⟩
        exact rfl
      refine VP.step (p := ?pv3) rfl rfl rfl (⟨_, _, rfl, rfl, rfl⟩) ?hv3 ?rest3 hck6
      case hv3 =>
        intro E1
        refine (V1.not rfl rfl rfl (ltb rfl) ?_)
        exact rfl
      refine VP.step (p := ?pv4) rfl rfl rfl (⟨_, _, rfl, rfl, rfl⟩) ?hv4 ?rest4 hck6
      case hv4 =>
        intro E1
        refine (V1.move rfl rfl rfl (ltb rfl) ?_)
        exact rfl
      refine VP.step (p := ?pv5) rfl rfl rfl (⟨_, _, rfl, rfl, rfl⟩) ?hv5 ?rest5 hck6
      case hv5 =>
        refine ⟨_, rfl, fun hg2 => ?_⟩
        intro E1
        refine (V1.move rfl rfl rfl (ltb rfl) ?_)
        exact rfl
      refine VP.step (p := ?pv6) rfl rfl rfl (⟨_, _, rfl, rfl, rfl⟩) ?hv6 ?rest6 hck6
      case hv6 =>
        refine ⟨_, rfl, fun hg2 => ?_⟩
        intro E1
        refine (V1.int rfl rfl rfl rfl rfl (ltb rfl) ?_)
        exact rfl
      refine VP.step (p := ?pv7) rfl rfl rfl (⟨_, _, rfl, rfl, rfl⟩) ?hv7 ?rest7 hck6
      case hv7 =>
        refine ⟨_, rfl, fun hg2 => ?_⟩
        intro E1
        refine (V1.move rfl rfl rfl (ltb rfl) ?_)
        exact rfl
      refine VP.step (p := ?pv8) rfl rfl rfl (⟨_, _, rfl, rfl, rfl⟩) ?hv8 ?rest8 hck6
      case hv8 =>
        refine ⟨_, rfl, fun hg3 => ?_⟩
        refine ⟨_, rfl, fun hg2 => ?_⟩
        intro E1
        refine (V1.move rfl rfl rfl (ltb rfl) ?_)
        exact rfl
      refine VP.step (p := ?pv9) rfl rfl rfl (⟨_, _, rfl, rfl, rfl⟩) ?hv9 ?rest9 hck6
      case hv9 =>
        refine ⟨_, rfl, fun hg3 => ?_⟩
        refine ⟨_, rfl, fun hg2 => ?_⟩
        intro E1
        refine (V1.move rfl rfl rfl (ltb rfl) ?_)
        exact rfl
      refine VP.step (p := ?pv10) rfl rfl rfl (⟨_, _, rfl, rfl, rfl⟩) ?hv10 ?rest10 hck6
      case hv10 =>
        refine ⟨_, rfl, fun hg3 => ?_⟩
        refine ⟨_, rfl, fun hg2 => ?_⟩
        intro E1
        refine (V1.int rfl rfl rfl rfl rfl (ltb rfl) ?_)
        refine putEq (y := .int .i64 ((k - 1 : Nat) : Int)) ?_
        exact (by simp at hg3; rw [wrap64_id (by omega) (by omega)]; congr 1; omega)
      refine VP.step (p := ?pv11) rfl rfl rfl (⟨_, _, rfl, rfl, ⟨_, _, rfl, rfl, rfl⟩⟩) ?hv11 ?rest11 hck6
      case hv11 =>
        refine ⟨_, rfl, fun hg3 => ?_⟩
        refine ⟨_, rfl, fun hg2 => ?_⟩
        intro E1
        first | refine (V1.indexMapN rfl rfl esz_34 rfl rfl (by omega) (ltb rfl) ?_) | refine (V1.indexMap rfl rfl esz_34 rfl rfl (by (first | omega | (simp only [List.length_map, List.length_append, List.length_take, List.length_drop, List.length_replicate, List.length_set, Int.toNat_natCast] at *; omega) | (simp at *; omega))) (by (first | omega | (simp only [List.length_map, List.length_append, List.length_take, List.length_drop, List.length_replicate, List.length_set, Int.toNat_natCast] at *; omega) | (simp at *; omega))) (ltb rfl) ?_) | refine (V1.indexSref rfl rfl esz_34 rfl rfl (by (first | omega | (simp only [List.length_map, List.length_append, List.length_take, List.length_drop, List.length_replicate, List.length_set, Int.toNat_natCast] at *; omega) | (simp at *; omega))) (by (first | omega | (simp only [List.length_map, List.length_append, List.length_take, List.length_drop, List.length_replicate, List.length_set, Int.toNat_natCast] at *; omega) | (simp at *; omega))) (ltb rfl) ?_)
        exact rfl
      refine VP.step (p := ?pv12) rfl rfl rfl (⟨_, _, rfl, rfl, rfl⟩) ?hv12 ?rest12 hck6
      case hv12 =>
        refine ⟨_, rfl, fun hg3 => ?_⟩
        refine ⟨_, rfl, fun hg2 => ?_⟩
        intro E1
        first | refine (V1.fieldPin rfl rfl fo_27_0 rfl (ltb rfl) ?_) | refine (V1.fieldRef rfl rfl fo_27_0 rfl (ltb rfl) ?_)
        exact rfl
      refine VP.step (p := ?pv13) rfl rfl rfl (⟨_, _, rfl, rfl, rfl⟩) ?hv13 ?rest13 hck6
      case hv13 =>
        refine ⟨_, rfl, fun hg3 => ?_⟩
        refine ⟨_, rfl, fun hg2 => ?_⟩
        intro E1
        first | refine (V1.loadPin rfl rfl tyk_3 rfl rfl (ltb rfl) ?_) | refine (V1.loadRef (k := 0) rfl rfl tyk_3 rfl rfl rfl rfl rfl (ltb rfl) ?_) | refine (V1.loadRef (k := 1) rfl rfl tyk_3 rfl rfl rfl rfl rfl (ltb rfl) ?_) | refine (V1.loadRef (k := 2) rfl rfl tyk_3 rfl rfl rfl rfl rfl (ltb rfl) ?_)
        exact rfl
      refine VP.step (p := ?pv14) rfl rfl rfl (⟨_, _, rfl, rfl, rfl⟩) ?hv14 ?rest14 hck6
      case hv14 =>
        refine ⟨_, rfl, fun hg3 => ?_⟩
        refine ⟨_, rfl, fun hg2 => ?_⟩
        intro E1
        first | refine (V1.fieldPin rfl rfl fo_27_0 rfl (ltb rfl) ?_) | refine (V1.fieldRef rfl rfl fo_27_0 rfl (ltb rfl) ?_)
        exact rfl
      refine VP.step (p := ?pv15) rfl rfl rfl (⟨_, _, rfl, rfl, rfl⟩) ?hv15 ?rest15 hck6
      case hv15 =>
        refine ⟨_, rfl, fun hg3 => ?_⟩
        refine ⟨_, rfl, fun hg2 => ?_⟩
        intro E1
        first | refine (V1.loadPin rfl rfl tyk_3 rfl rfl (ltb rfl) ?_) | refine (V1.loadRef (k := 0) rfl rfl tyk_3 rfl rfl rfl rfl rfl (ltb rfl) ?_) | refine (V1.loadRef (k := 1) rfl rfl tyk_3 rfl rfl rfl rfl rfl (ltb rfl) ?_) | refine (V1.loadRef (k := 2) rfl rfl tyk_3 rfl rfl rfl rfl rfl (ltb rfl) ?_)
        exact rfl
      refine VP.step (p := ?pv16) rfl rfl rfl (⟨_, _, rfl, rfl, ⟨_, _, rfl, rfl, rfl⟩⟩) ?hv16 ?rest16 hck6
      case hv16 =>
        refine ⟨_, rfl, fun hg3 => ?_⟩
        refine ⟨_, rfl, fun hg2 => ?_⟩
        intro E1
        refine (V1.int rfl rfl rfl rfl rfl (ltb rfl) ?_)
        exact rfl
      refine VP.pickAnd rfl rfl rfl rfl rfl rfl (⟨_, rfl, fun _ => trivial⟩) ?_ hck6
      refine VP.pickOr rfl rfl rfl rfl rfl rfl (trivial) ?_ hck6
      refine VP.fin rfl (⟨_, _, rfl, rfl, ⟨_, _, rfl, rfl, ⟨_, _, rfl, rfl, ⟨_, _, rfl, rfl, ⟨_, _, rfl, rfl, ⟨_, _, rfl, rfl, ⟨_, _, rfl, rfl, rfl⟩⟩⟩⟩⟩⟩⟩) ?_
      refine VO.nil ?_
      refine V.keep 59 [0, 3, 4, 10, 11, 12, 34] [0] rfl (⟨_, _, rfl, rfl, ⟨_, _, rfl, rfl, ⟨_, _, rfl, rfl, ⟨_, _, rfl, rfl, ⟨_, _, rfl, rfl, ⟨_, _, rfl, rfl, ⟨_, _, rfl, rfl, rfl⟩⟩⟩⟩⟩⟩⟩) (⟨_, _, rfl, rfl, rfl⟩) rfl ?_
      refine V.cond rfl (fun hc4 => ?_) (fun hc4 => ?_)
      · skip
        have hcr4 := hc4
        try simp only [decide_eq_true_eq, decide_eq_false_iff_not, List.length_map, Bool.and_eq_true, Bool.or_eq_true, Bool.not_eq_true', Bool.not_eq_false', Bool.and_eq_false_iff, Bool.or_eq_false_iff, beq_iff_eq, bne_iff_ne, beq_eq_false_iff_ne, bne_eq_false_iff_eq, Int.not_lt, Int.not_le, ne_eq] at hc4
        refine V.seq ?_
        refine V.region ?_
        refine VO.cons rfl (V1.assign rfl rfl rfl (ltb rfl) ?_)
        refine VO.nil ?_
        refine V.ret ?_
        refine ⟨_, [], ⟨_, _, rfl, rfl, rfl⟩, List.nil_sublist _, ?_, rfl⟩
        exact congrArg PV.bool (good_false (k := k) (by omega) (okAt_no1 hcr4)).symm
      · skip
        have hcr4 := hc4
        try simp only [decide_eq_true_eq, decide_eq_false_iff_not, List.length_map, Bool.and_eq_true, Bool.or_eq_true, Bool.not_eq_true', Bool.not_eq_false', Bool.and_eq_false_iff, Bool.or_eq_false_iff, beq_iff_eq, bne_iff_ne, beq_eq_false_iff_ne, bne_eq_false_iff_eq, Int.not_lt, Int.not_le, ne_eq] at hc4
        have hg : goodOne (l.getD k default) = true := by simp at hcr4; exact hcr4.1
        refine V.skip ?_
        refine V.seq ?_
        refine V.seq ?_
        refine V.region ?_
        refine VO.cons rfl (V1.move rfl rfl rfl (ltb rfl) ?_)
        refine VO.cons rfl (V1.move rfl rfl rfl (ltb rfl) ?_)
        first | refine VO.cons rfl (V1.sliceVl rfl rfl esz_34 rfl (Bnd.none _ _) (Bnd.some rfl (by omega) _) (by simp; try omega) (by simp; try omega) (ltb rfl) ?_) | refine VO.cons rfl (V1.sliceSref rfl rfl esz_34 rfl (Bnd.none _ _) (Bnd.some rfl (by omega) _) (by simp; try omega) (by simp; try omega) (ltb rfl) ?_)
        refine VO.weaken (Keeps.say 37 (y := .vl ρ 5 ((l.take k).map (encCarton ρ))) rfl (by simp [List.map_take])) ?_
        first | refine VO.cons rfl (V1.lenVl rfl rfl rfl rfl rfl rfl isl_34 (ltb rfl) ?_) | refine VO.cons rfl (V1.lenSref rfl rfl rfl rfl rfl rfl isl_34 (ltb rfl) ?_) | refine VO.cons rfl (V1.lenNils rfl rfl rfl rfl rfl rfl isl_34 (ltb rfl) ?_)
        refine VO.cons rfl (V1.move rfl rfl rfl (ltb rfl) ?_)
        refine VO.nil ?_
        refine V.keep 59 [0, 3, 4, 10, 11, 12, 37, 38, 39] [0] rfl (⟨_, _, rfl, rfl, ⟨_, _, rfl, rfl, ⟨_, _, rfl, rfl, ⟨_, _, rfl, rfl, ⟨_, _, rfl, rfl, ⟨_, _, rfl, rfl, ⟨_, _, rfl, rfl, ⟨_, _, rfl, rfl, ⟨_, _, rfl, rfl, rfl⟩⟩⟩⟩⟩⟩⟩⟩⟩) (⟨_, _, rfl, rfl, rfl⟩) rfl ?_
        refine V.block ?_
        refine V.keep 59 [39, 0, 3, 4, 10, 11, 12, 37, 38] [0] rfl (⟨_, _, rfl, rfl, ⟨_, _, rfl, rfl, ⟨_, _, rfl, rfl, ⟨_, _, rfl, rfl, ⟨_, _, rfl, rfl, ⟨_, _, rfl, rfl, ⟨_, _, rfl, rfl, ⟨_, _, rfl, rfl, ⟨_, _, rfl, rfl, rfl⟩⟩⟩⟩⟩⟩⟩⟩⟩) (⟨_, _, rfl, rfl, rfl⟩) rfl ?_
        refine V.loopE (D := Nat) (fun j => [(39, .int .i64 (j : Int))]) (fun j => []) (fun j => j ≤ (l.take k).length ∧ ∀ i, i < j → ((l.getD k default).files.any fun x => ((l.take k).getD i default).files.any fun z => x == z) = false) (fun j => (l.take k).length - j) 0 rfl (⟨by omega, fun _ h => absurd h (by omega)⟩) ?_
        rintro j ⟨hjl, hj⟩
        have hjb : (l.take k).length ≤ 10 := by rw [List.length_take]; omega
        refine V.seq ?_
        refine V.region ?_
        refine VO.cons rfl (V1.int rfl rfl rfl rfl rfl (ltb rfl) ?_)
        refine VO.nil ?_
        refine V.seq ?_
        refine V.cond rfl (fun hc5 => ?_) (fun hc5 => ?_)
        · skip
          have hcr5 := hc5
          try simp only [decide_eq_true_eq, decide_eq_false_iff_not, List.length_map, Bool.and_eq_true, Bool.or_eq_true, Bool.not_eq_true', Bool.not_eq_false', Bool.and_eq_false_iff, Bool.or_eq_false_iff, beq_iff_eq, bne_iff_ne, beq_eq_false_iff_ne, bne_eq_false_iff_eq, Int.not_lt, Int.not_le, ne_eq] at hc5
          refine V.skip ?_
          refine V.seq ?_
          refine V.block ?_
          refine V.seq ?_
          refine V.region ?_
          first | refine VO.cons rfl (V1.indexMapN rfl rfl esz_34 rfl rfl (by omega) (ltb rfl) ?_) | refine VO.cons rfl (V1.indexMap rfl rfl esz_34 rfl rfl (by (first | omega | (simp only [List.length_map, List.length_append, List.length_take, List.length_drop, List.length_replicate, List.length_set, Int.toNat_natCast] at *; omega) | (simp at *; omega))) (by (first | omega | (simp only [List.length_map, List.length_append, List.length_take, List.length_drop, List.length_replicate, List.length_set, Int.toNat_natCast] at *; omega) | (simp at *; omega))) (ltb rfl) ?_) | refine VO.cons rfl (V1.indexSref rfl rfl esz_34 rfl rfl (by (first | omega | (simp only [List.length_map, List.length_append, List.length_take, List.length_drop, List.length_replicate, List.length_set, Int.toNat_natCast] at *; omega) | (simp at *; omega))) (by (first | omega | (simp only [List.length_map, List.length_append, List.length_take, List.length_drop, List.length_replicate, List.length_set, Int.toNat_natCast] at *; omega) | (simp at *; omega))) (ltb rfl) ?_)
          first | refine VO.cons rfl (V1.loadPinAll rfl rfl tyk_27 rfl rfl (ltb rfl) ?_) | refine VO.cons rfl (V1.loadRefAll (k := 0) rfl rfl tyk_27 rfl rfl rfl rfl rfl (ltb rfl) ?_) | refine VO.cons rfl (V1.loadRefAll (k := 1) rfl rfl tyk_27 rfl rfl rfl rfl rfl (ltb rfl) ?_) | refine VO.cons rfl (V1.loadRefAll (k := 2) rfl rfl tyk_27 rfl rfl rfl rfl rfl (ltb rfl) ?_)
          refine VO.cons rfl (V1.alloc rfl rfl zk_27 (ltb rfl) ?_)
          intro b6
          first | refine VO.cons rfl (V1.storeRefAll (k := 0) rfl rfl tyk_27 rfl rfl rfl rfl rfl rfl ?_) | refine VO.cons rfl (V1.storeRefAll (k := 1) rfl rfl tyk_27 rfl rfl rfl rfl rfl rfl ?_) | refine VO.cons rfl (V1.storeRefAll (k := 2) rfl rfl tyk_27 rfl rfl rfl rfl rfl rfl ?_)
          refine VO.nil ?_
          refine V.keep 59 [0, 3, 4, 6, 10, 11, 12, 37, 38, 39] [0, 1] rfl (⟨_, _, rfl, rfl, ⟨_, _, rfl, rfl, ⟨_, _, rfl, rfl, ⟨_, _, rfl, rfl, ⟨_, _, rfl, rfl, ⟨_, _, rfl, rfl, ⟨_, _, rfl, rfl, ⟨_, _, rfl, rfl, ⟨_, _, rfl, rfl, ⟨_, _, rfl, rfl, rfl⟩⟩⟩⟩⟩⟩⟩⟩⟩⟩) (⟨_, _, rfl, rfl, ⟨_, _, rfl, rfl, rfl⟩⟩) rfl ?_
          refine V.seq ?_
          refine V.region ?_
          first | refine VO.cons rfl (V1.fieldPin rfl rfl fo_27_3 rfl (ltb rfl) ?_) | refine VO.cons rfl (V1.fieldRef rfl rfl fo_27_3 rfl (ltb rfl) ?_)
          first | refine VO.cons rfl (V1.loadPin rfl rfl tyk_22 rfl rfl (ltb rfl) ?_) | refine VO.cons rfl (V1.loadRef (k := 0) rfl rfl tyk_22 rfl rfl rfl rfl rfl (ltb rfl) ?_) | refine VO.cons rfl (V1.loadRef (k := 1) rfl rfl tyk_22 rfl rfl rfl rfl rfl (ltb rfl) ?_) | refine VO.cons rfl (V1.loadRef (k := 2) rfl rfl tyk_22 rfl rfl rfl rfl rfl (ltb rfl) ?_)
          refine VO.cons rfl (V1.makeFunc rfl rfl rfl (ltb rfl) ?_)
          refine VO.cons rfl (V1.callL (rn + 1) [b6] [.vl ρ 1 ((l.getD k default).files.map encInt), .fn 77 [.pin (rn + 1) (encCarton ρ ((l.take k).getD j default)) 0]] rfl rfl rfl cok_73 rfl (⟨_, _, rfl, .same _, ⟨_, _, rfl, Lend.fn ⟨_, _, rfl, Lend.ref 0 rfl rfl rfl rfl (by simp), rfl⟩, rfl⟩⟩) (by intro b hb; rw [List.mem_singleton] at hb; subst hb; exact List.mem_cons_self) (ContainsFunc_ok _ _ 77 _ (fun n => ((l.take k).getD j default).files.any fun x => n == x) _ (hl.2 _ (getD_mem (by omega))) cok_77 (fun n => AreCartons1_ok _ _ _ _ n ((hl.take k).2 _ (getD_mem (by omega))))) rfl (⟨Nat.succ_ne_self rn, by rintro _ _ ⟨rfl, rfl⟩; simp [PV.no]⟩) (ltb rfl) ?_)
          rintro _ _ ⟨rfl, rfl⟩
          refine VO.nil ?_
          refine V.keep 59 [0, 3, 4, 10, 11, 12, 37, 38, 39, 46] [1] rfl (⟨_, _, rfl, rfl, ⟨_, _, rfl, rfl, ⟨_, _, rfl, rfl, ⟨_, _, rfl, rfl, ⟨_, _, rfl, rfl, ⟨_, _, rfl, rfl, ⟨_, _, rfl, rfl, ⟨_, _, rfl, rfl, ⟨_, _, rfl, rfl, ⟨_, _, rfl, rfl, rfl⟩⟩⟩⟩⟩⟩⟩⟩⟩⟩) (⟨_, _, rfl, rfl, rfl⟩) rfl ?_
          refine V.cond rfl (fun hc6 => ?_) (fun hc6 => ?_)
          · skip
            have hcr6 := hc6
            try simp only [decide_eq_true_eq, decide_eq_false_iff_not, List.length_map, Bool.and_eq_true, Bool.or_eq_true, Bool.not_eq_true', Bool.not_eq_false', Bool.and_eq_false_iff, Bool.or_eq_false_iff, beq_iff_eq, bne_iff_ne, beq_eq_false_iff_ne, bne_eq_false_iff_eq, Int.not_lt, Int.not_le, ne_eq] at hc6
            refine V.seq ?_
            refine V.region ?_
            refine VO.cons rfl (V1.assign rfl rfl rfl (ltb rfl) ?_)
            refine VO.nil ?_
            refine V.ret ?_
            refine ⟨_, [], ⟨_, _, rfl, rfl, rfl⟩, List.nil_sublist _, ?_, rfl⟩
            exact congrArg PV.bool (good_false (k := k) (by omega) (okAt_no3 (any_true (k := j) (by omega) hcr6))).symm
          · skip
            have hcr6 := hc6
            try simp only [decide_eq_true_eq, decide_eq_false_iff_not, List.length_map, Bool.and_eq_true, Bool.or_eq_true, Bool.not_eq_true', Bool.not_eq_false', Bool.and_eq_false_iff, Bool.or_eq_false_iff, beq_iff_eq, bne_iff_ne, beq_eq_false_iff_ne, bne_eq_false_iff_eq, Int.not_lt, Int.not_le, ne_eq] at hc6
            refine V.skip ?_
            refine V.region ?_
            refine VO.cons rfl (V1.int rfl rfl rfl rfl rfl (ltb rfl) ?_)
            refine VO.cons rfl (V1.move rfl rfl rfl (ltb rfl) ?_)
            refine VO.nil ?_
            refine ⟨j + 1, ⟨by omega, step_lt hj hcr6⟩, by omega, Keeps.mk (ks := [0]) rfl ⟨?_, rfl, rfl, rfl, rfl, rfl, rfl, rfl, rfl, trivial⟩ (⟨_, _, rfl, rfl, rfl⟩) rfl⟩
            · exact someInt (by simp (disch := omega) only [wrap64_id]; omega)
        · skip
          have hcr5 := hc5
          try simp only [decide_eq_true_eq, decide_eq_false_iff_not, List.length_map, Bool.and_eq_true, Bool.or_eq_true, Bool.not_eq_true', Bool.not_eq_false', Bool.and_eq_false_iff, Bool.or_eq_false_iff, beq_iff_eq, bne_iff_ne, beq_eq_false_iff_ne, bne_eq_false_iff_eq, Int.not_lt, Int.not_le, ne_eq] at hc5
          refine V.exit ?_
          refine V.seq ?_
          refine V.regionM 59 8 [⟨[(0, none)], [], none⟩, ⟨[(3, none)], [], none⟩, ⟨[(49, some 0)], [], none⟩, ⟨[(48, some 2), (50, some 0)], [], none⟩, ⟨[(4, none)], [], none⟩, ⟨[(52, some 0)], [], none⟩, ⟨[(4, none)], [], none⟩, ⟨[(54, some 0)], [], none⟩] [(0, none), (10, none), (11, none), (12, none), (51, some 4), (53, some 2), (55, some 0)] (⟨_, rfl, ⟨_, rfl, ⟨_, rfl, ⟨_, rfl, ⟨_, rfl, ⟨_, rfl, ⟨_, rfl, ⟨_, rfl, ⟨rfl, rfl⟩⟩⟩⟩⟩⟩⟩⟩⟩) mixed_orders rfl (by decide +kernel) (fun hck14 => ?_)
          refine VP.step (p := ?pv17) rfl rfl rfl (⟨_, _, rfl, rfl, rfl⟩) ?hv17 ?rest17 hck14
          case hv17 =>
            intro E1
            refine (V1.move rfl rfl rfl (ltb rfl) ?_)
            exact rfl
          refine VP.step (p := ?pv18) rfl rfl rfl (⟨_, _, rfl, rfl, rfl⟩) ?hv18 ?rest18 hck14
          case hv18 =>
            intro E1
            refine (V1.move rfl rfl rfl (ltb rfl) ?_)
            exact rfl
          refine VP.step (p := ?pv19) rfl rfl rfl (⟨_, _, rfl, rfl, rfl⟩) ?hv19 ?rest19 hck14
          case hv19 =>
            intro E1
            refine (V1.int rfl rfl rfl rfl rfl (ltb rfl) ?_)
            refine putEq (y := .int .i64 ((k + 1 : Nat) : Int)) ?_
            exact (by rw [wrap64_id (by omega) (by omega)]; rfl)
          refine VP.step (p := ?pv20) rfl rfl rfl (⟨_, _, rfl, rfl, ⟨_, _, rfl, rfl, rfl⟩⟩) ?hv20 ?rest20 hck14
          case hv20 =>
            intro E1
            first | refine (V1.sliceVl rfl rfl esz_34 rfl (Bnd.none _ _) (Bnd.some rfl (by omega) _) (by simp; try omega) (by simp; try omega) (ltb rfl) ?_) | refine (V1.sliceSref rfl rfl esz_34 rfl (Bnd.none _ _) (Bnd.some rfl (by omega) _) (by simp; try omega) (by simp; try omega) (ltb rfl) ?_)
            refine putEq (y := .vl ρ 5 ((l.take (k + 1)).map (encCarton ρ))) ?_
            exact (by simp [List.map_take])
          refine VP.step (p := ?pv21) rfl rfl rfl (⟨_, _, rfl, rfl, rfl⟩) ?hv21 ?rest21 hck14
          case hv21 =>
            intro E1
            first | refine (V1.fieldPin rfl rfl fo_27_2 rfl (ltb rfl) ?_) | refine (V1.fieldRef rfl rfl fo_27_2 rfl (ltb rfl) ?_)
            exact rfl
          refine VP.step (p := ?pv22) rfl rfl rfl (⟨_, _, rfl, rfl, rfl⟩) ?hv22 ?rest22 hck14
          case hv22 =>
            intro E1
            first | refine (V1.loadPin rfl rfl tyk_3 rfl rfl (ltb rfl) ?_) | refine (V1.loadRef (k := 0) rfl rfl tyk_3 rfl rfl rfl rfl rfl (ltb rfl) ?_) | refine (V1.loadRef (k := 1) rfl rfl tyk_3 rfl rfl rfl rfl rfl (ltb rfl) ?_) | refine (V1.loadRef (k := 2) rfl rfl tyk_3 rfl rfl rfl rfl rfl (ltb rfl) ?_)
            exact rfl
          refine VP.step (p := ?pv23) rfl rfl rfl (⟨_, _, rfl, rfl, rfl⟩) ?hv23 ?rest23 hck14
          case hv23 =>
            intro E1
            first | refine (V1.fieldPin rfl rfl fo_27_1 rfl (ltb rfl) ?_) | refine (V1.fieldRef rfl rfl fo_27_1 rfl (ltb rfl) ?_)
            exact rfl
          refine VP.step (p := ?pv24) rfl rfl rfl (⟨_, _, rfl, rfl, rfl⟩) ?hv24 ?rest24 hck14
          case hv24 =>
            intro E1
            first | refine (V1.loadPin rfl rfl tyk_3 rfl rfl (ltb rfl) ?_) | refine (V1.loadRef (k := 0) rfl rfl tyk_3 rfl rfl rfl rfl rfl (ltb rfl) ?_) | refine (V1.loadRef (k := 1) rfl rfl tyk_3 rfl rfl rfl rfl rfl (ltb rfl) ?_) | refine (V1.loadRef (k := 2) rfl rfl tyk_3 rfl rfl rfl rfl rfl (ltb rfl) ?_)
            exact rfl
          refine VP.fin rfl (⟨_, _, rfl, rfl, ⟨_, _, rfl, rfl, ⟨_, _, rfl, rfl, ⟨_, _, rfl, rfl, ⟨_, _, rfl, rfl, ⟨_, _, rfl, rfl, ⟨_, _, rfl, rfl, rfl⟩⟩⟩⟩⟩⟩⟩) ?_
          refine VO.cons rfl (V1.call rfl rfl rfl cok_79 rfl (freeOn_ok _ _ _ _ _ (thin_take hl1 (by omega) hr hg)) rfl (ltb rfl) ?_)
          rintro _ _ ⟨rfl, rfl⟩
          refine VO.cons rfl (V1.int rfl rfl rfl rfl rfl (ltb rfl) ?_)
          refine VO.nil ?_
          refine V.keep 59 [0, 10, 11, 12, 57] [] rfl (⟨_, _, rfl, rfl, ⟨_, _, rfl, rfl, ⟨_, _, rfl, rfl, ⟨_, _, rfl, rfl, ⟨_, _, rfl, rfl, rfl⟩⟩⟩⟩⟩) (rfl) rfl ?_
          refine V.cond rfl (fun hc7 => ?_) (fun hc7 => ?_)
          · skip
            have hcr7 := hc7
            try simp only [decide_eq_true_eq, decide_eq_false_iff_not, List.length_map, Bool.and_eq_true, Bool.or_eq_true, Bool.not_eq_true', Bool.not_eq_false', Bool.and_eq_false_iff, Bool.or_eq_false_iff, beq_iff_eq, bne_iff_ne, beq_eq_false_iff_ne, bne_eq_false_iff_eq, Int.not_lt, Int.not_le, ne_eq] at hc7
            refine V.seq ?_
            refine V.region ?_
            refine VO.cons rfl (V1.assign rfl rfl rfl (ltb rfl) ?_)
            refine VO.nil ?_
            refine V.ret ?_
            refine ⟨_, [], ⟨_, _, rfl, rfl, rfl⟩, List.nil_sublist _, ?_, rfl⟩
            exact congrArg PV.bool (good_false (k := k) (by omega) (okAt_no2 (by omega))).symm
          · skip
            have hcr7 := hc7
            try simp only [decide_eq_true_eq, decide_eq_false_iff_not, List.length_map, Bool.and_eq_true, Bool.or_eq_true, Bool.not_eq_true', Bool.not_eq_false', Bool.and_eq_false_iff, Bool.or_eq_false_iff, beq_iff_eq, bne_iff_ne, beq_eq_false_iff_ne, bne_eq_false_iff_eq, Int.not_lt, Int.not_le, ne_eq] at hc7
            refine V.skip ?_
            refine V.region ?_
            refine VO.cons rfl (V1.int rfl rfl rfl rfl rfl (ltb rfl) ?_)
            refine VO.cons rfl (V1.move rfl rfl rfl (ltb rfl) ?_)
            refine VO.nil ?_
            refine ⟨k + 1, ⟨by omega, by rw [all_range_succ, hr, okAt_parts hcr4 (by omega) (any_false fun i hi => hj (i) (by omega))]; rfl⟩, by omega, Keeps.mk (ks := []) rfl ⟨?_, rfl, rfl, rfl, trivial⟩ (rfl) rfl⟩
            · exact someInt (by simp (disch := omega) only [wrap64_id]; omega)
    · skip
      have hcr1 := hc1
      try simp only [decide_eq_true_eq, decide_eq_false_iff_not, List.length_map, Bool.and_eq_true, Bool.or_eq_true, Bool.not_eq_true', Bool.not_eq_false', Bool.and_eq_false_iff, Bool.or_eq_false_iff, beq_iff_eq, bne_iff_ne, beq_eq_false_iff_ne, bne_eq_false_iff_eq, Int.not_lt, Int.not_le, ne_eq] at hc1
      refine V.exit ?_
      refine V.seq ?_
      refine V.region ?_
      refine VO.cons rfl (V1.assign rfl rfl rfl (ltb rfl) ?_)
      refine VO.nil ?_
      refine V.ret ?_
      refine ⟨_, [], ⟨_, _, rfl, rfl, rfl⟩, List.nil_sublist _, ?_, rfl⟩
      obtain rfl : k = l.length := by omega
      exact congrArg PV.bool (by rw [good, hr, decide_eq_true (by omega)]; rfl)

theorem first_good {a b : Bool} (h : (!a || b) = false) : a = true := by cases a <;> simp_all

theorem okAt_no12 {l : List Carton} {k : Nat} (h : ((!(goodOne (l.getD k default)) || decide ((k : Int) > 0) && decide ((l.getD (k - 1) default).id ≥ (l.getD k default).id)) || decide (taken (l.take (k + 1)) (l.getD k default).room (l.getD k default).shelf > 100)) = true) : okAt l k = false := by
  rw [Bool.or_eq_true] at h
  rcases h with h | h
  · exact okAt_no1 h
  · exact okAt_no2 (by have := of_decide_eq_true h; omega)

theorem l18Good_ok (ρ rn : Nat) (l : List Carton) (hl : Small l) : Does Try.prog 76 [.vl ρ 5 (l.map (encCarton ρ))] [] rn (fun x H => x = .bool (good l) ∧ H = []) := by
  have hl1 := hl.1
  refine Does.intro (N := 70) Try.func76 rfl rfl rfl rfl ?_
  intro w0 S0
  refine V.seq ?_
  refine V.region ?_
  refine VO.cons rfl (V1.assign rfl rfl rfl (ltb rfl) ?_)
  refine VO.nil ?_
  refine V.seq ?_
  refine V.seq ?_
  refine V.region ?_
  refine VO.cons rfl (V1.assign rfl rfl rfl (ltb rfl) ?_)
  refine VO.nil ?_
  refine V.block ?_
  refine V.keep 70 [3, 0] [] rfl (⟨_, _, rfl, rfl, ⟨_, _, rfl, rfl, rfl⟩⟩) (rfl) rfl ?_
  refine V.loopE (D := Nat) (fun k => [(3, .int .i64 (k : Int))]) (fun k => []) (fun k => k ≤ l.length ∧ (List.range k).all (okAt l) = true) (fun k => l.length - k) 0 rfl (⟨by omega, rfl⟩) ?_
  rintro k ⟨hk, hr⟩
  refine V.seq ?_
  refine V.seq ?_
  refine V.region ?_
  refine VO.cons rfl (V1.move rfl rfl rfl (ltb rfl) ?_)
  refine VO.cons rfl (V1.move rfl rfl rfl (ltb rfl) ?_)
  first | refine VO.cons rfl (V1.lenVl rfl rfl rfl rfl rfl rfl isl_34 (ltb rfl) ?_) | refine VO.cons rfl (V1.lenSref rfl rfl rfl rfl rfl rfl isl_34 (ltb rfl) ?_) | refine VO.cons rfl (V1.lenNils rfl rfl rfl rfl rfl rfl isl_34 (ltb rfl) ?_)
  refine VO.cons rfl (V1.int rfl rfl rfl rfl rfl (ltb rfl) ?_)
  refine VO.cons rfl (V1.move rfl rfl rfl (ltb rfl) ?_)
  apply VO.and (n := 2) rfl rfl rfl rfl rfl rfl (ltb rfl) (.none rfl)
  · intro hg0
    refine VO.step (.some rfl rfl rfl) (V1.move rfl rfl rfl (ltb rfl) ?_)
    refine VO.step (.some rfl rfl rfl) (V1.int rfl rfl rfl rfl rfl (ltb rfl) ?_)
    exact VO.nil ⟨rfl, rfl, rfl, rfl, .inr ⟨rfl, .inr ⟨rfl, .inr ⟨rfl, .inl rfl⟩⟩⟩⟩
  refine VO.nil ?_
  refine V.keep 70 [0, 3, 13] [] rfl (⟨_, _, rfl, rfl, ⟨_, _, rfl, rfl, ⟨_, _, rfl, rfl, rfl⟩⟩⟩) (rfl) rfl ?_
  refine V.cond rfl (fun hc1 => ?_) (fun hc1 => ?_)
  · skip
    have hcr1 := hc1
    try simp only [decide_eq_true_eq, decide_eq_false_iff_not, List.length_map, Bool.and_eq_true, Bool.or_eq_true, Bool.not_eq_true', Bool.not_eq_false', Bool.and_eq_false_iff, Bool.or_eq_false_iff, beq_iff_eq, bne_iff_ne, beq_eq_false_iff_ne, bne_eq_false_iff_eq, Int.not_lt, Int.not_le, ne_eq] at hc1
    have hf := hl.2 _ (getD_mem (l := l) (k := k) (by omega))
    refine V.skip ?_
    refine V.seq ?_
    refine V.block ?_
    refine V.seq ?_
    refine V.region ?_
    refine VO.cons rfl (V1.move rfl rfl rfl (ltb rfl) ?_)
    refine VO.cons rfl (V1.move rfl rfl rfl (ltb rfl) ?_)
    first | refine VO.cons rfl (V1.indexMapN rfl rfl esz_34 rfl rfl (by omega) (ltb rfl) ?_) | refine VO.cons rfl (V1.indexMap rfl rfl esz_34 rfl rfl (by (first | omega | (simp only [List.length_map, List.length_append, List.length_take, List.length_drop, List.length_replicate, List.length_set, Int.toNat_natCast] at *; omega) | (simp at *; omega))) (by (first | omega | (simp only [List.length_map, List.length_append, List.length_take, List.length_drop, List.length_replicate, List.length_set, Int.toNat_natCast] at *; omega) | (simp at *; omega))) (ltb rfl) ?_) | refine VO.cons rfl (V1.indexSref rfl rfl esz_34 rfl rfl (by (first | omega | (simp only [List.length_map, List.length_append, List.length_take, List.length_drop, List.length_replicate, List.length_set, Int.toNat_natCast] at *; omega) | (simp at *; omega))) (by (first | omega | (simp only [List.length_map, List.length_append, List.length_take, List.length_drop, List.length_replicate, List.length_set, Int.toNat_natCast] at *; omega) | (simp at *; omega))) (ltb rfl) ?_)
    first | refine VO.cons rfl (V1.loadPinAll rfl rfl tyk_27 rfl rfl (ltb rfl) ?_) | refine VO.cons rfl (V1.loadRefAll (k := 0) rfl rfl tyk_27 rfl rfl rfl rfl rfl (ltb rfl) ?_) | refine VO.cons rfl (V1.loadRefAll (k := 1) rfl rfl tyk_27 rfl rfl rfl rfl rfl (ltb rfl) ?_) | refine VO.cons rfl (V1.loadRefAll (k := 2) rfl rfl tyk_27 rfl rfl rfl rfl rfl (ltb rfl) ?_)
    refine VO.cons rfl (V1.alloc rfl rfl zk_27 (ltb rfl) ?_)
    intro b4
    first | refine VO.cons rfl (V1.storeRefAll (k := 0) rfl rfl tyk_27 rfl rfl rfl rfl rfl rfl ?_) | refine VO.cons rfl (V1.storeRefAll (k := 1) rfl rfl tyk_27 rfl rfl rfl rfl rfl rfl ?_) | refine VO.cons rfl (V1.storeRefAll (k := 2) rfl rfl tyk_27 rfl rfl rfl rfl rfl rfl ?_)
    refine VO.nil ?_
    refine V.keep 70 [0, 3, 4] [0] rfl (⟨_, _, rfl, rfl, ⟨_, _, rfl, rfl, ⟨_, _, rfl, rfl, rfl⟩⟩⟩) (⟨_, _, rfl, rfl, rfl⟩) rfl ?_
    refine V.seq ?_
    refine V.seq ?_
    refine V.regionM 70 30 [⟨[(4, none)], [], none⟩, ⟨[(20, some 0)], [], none⟩, ⟨[(21, some 0)], [], none⟩, ⟨[(22, some 0)], [], none⟩, ⟨[(3, none)], [(0, false)], none⟩, ⟨[(24, some 0)], [(1, false)], none⟩, ⟨[(25, some 0)], [(2, false)], none⟩, ⟨[(0, none)], [(0, true), (3, false)], none⟩, ⟨[(3, none)], [(1, true), (4, false)], none⟩, ⟨[(28, some 0)], [(2, true), (5, false)], none⟩, ⟨[(27, some 2), (29, some 0)], [(3, true), (6, false)], none⟩, ⟨[(30, some 0)], [(4, true), (7, false)], none⟩, ⟨[(31, some 0)], [(5, true), (8, false)], none⟩, ⟨[(4, none)], [(6, true), (9, false)], none⟩, ⟨[(33, some 0)], [(7, true), (10, false)], none⟩, ⟨[(32, some 2), (34, some 0)], [(8, true), (11, false)], none⟩, ⟨[], [(12, false)], some (true, 26, 35, 9, 0)⟩, ⟨[], [], some (false, 23, 36, 13, 0)⟩, ⟨[(37, some 0)], [], none⟩, ⟨[(0, none)], [(0, false)], none⟩, ⟨[(3, none)], [(1, false)], none⟩, ⟨[(40, some 0)], [(2, false)], none⟩, ⟨[(39, some 2), (41, some 0)], [(3, false)], none⟩, ⟨[(4, none)], [(4, false)], none⟩, ⟨[(43, some 0)], [(5, false)], none⟩, ⟨[(4, none)], [(6, false)], none⟩, ⟨[(45, some 0)], [(7, false)], none⟩, ⟨[(42, some 4), (44, some 2), (46, some 0)], [(8, false)], none⟩, ⟨[(47, some 0)], [(9, false)], none⟩, ⟨[], [], some (false, 38, 48, 10, 0)⟩] [(0, none), (3, none), (4, none), (49, some 0)] (⟨_, rfl, ⟨_, rfl, ⟨_, rfl, ⟨_, rfl, ⟨_, rfl, ⟨_, rfl, ⟨_, rfl, ⟨_, rfl, ⟨_, rfl, ⟨_, rfl, ⟨_, rfl, ⟨_, rfl, ⟨_, rfl, ⟨_, rfl, ⟨_, rfl, ⟨_, rfl, ⟨_, rfl, ⟨_, rfl, ⟨_, rfl, ⟨_, rfl, ⟨_, rfl, ⟨_, rfl, ⟨_, rfl, ⟨_, rfl, ⟨_, rfl, ⟨_, rfl, ⟨_, rfl, ⟨_, rfl, ⟨_, rfl, ⟨_, rfl, ⟨rfl, rfl⟩⟩⟩⟩⟩⟩⟩⟩⟩⟩⟩⟩⟩⟩⟩⟩⟩⟩⟩⟩⟩⟩⟩⟩⟩⟩⟩⟩⟩⟩⟩) mixed_orders rfl (by decide +kernel) (fun hck5 => ?_)
    refine VP.step (p := ?pv1) rfl rfl rfl (⟨_, _, rfl, rfl, rfl⟩) ?hv1 ?rest1 hck5
    case hv1 =>
      intro E1
      first | refine (V1.loadPinAll rfl rfl tyk_27 rfl rfl (ltb rfl) ?_) | refine (V1.loadRefAll (k := 0) rfl rfl tyk_27 rfl rfl rfl rfl rfl (ltb rfl) ?_) | refine (V1.loadRefAll (k := 1) rfl rfl tyk_27 rfl rfl rfl rfl rfl (ltb rfl) ?_) | refine (V1.loadRefAll (k := 2) rfl rfl tyk_27 rfl rfl rfl rfl rfl (ltb rfl) ?_)
      exact rfl
    refine VP.step (p := ?pv2) rfl rfl rfl (⟨_, _, rfl, rfl, rfl⟩) ?hv2 ?rest2 hck5
    case hv2 =>
      intro E1
      refine (V1.call rfl rfl rfl cok_68 rfl (l18One_ok _ _ _ (hl.2 _ (getD_mem (by omega)))) rfl (ltb rfl) ?_)
      rintro _ _ ⟨rfl, rfl⟩
      exact rfl
    refine VP.step (p := ?pv3) rfl rfl rfl (⟨_, _, rfl, rfl, rfl⟩) ?hv3 ?rest3 hck5
    case hv3 =>
      intro E1
      refine (V1.not rfl rfl rfl (ltb rfl) ?_)
      exact rfl
    refine VP.step (p := ?pv4) rfl rfl rfl (⟨_, _, rfl, rfl, rfl⟩) ?hv4 ?rest4 hck5
    case hv4 =>
      intro E1
      refine (V1.move rfl rfl rfl (ltb rfl) ?_)
      exact rfl
    refine VP.step (p := ?pv5) rfl rfl rfl (⟨_, _, rfl, rfl, rfl⟩) ?hv5 ?rest5 hck5
    case hv5 =>
      refine ⟨_, rfl, fun hg2 => ?_⟩
      intro E1
      refine (V1.move rfl rfl rfl (ltb rfl) ?_)
      exact rfl
    refine VP.step (p := ?pv6) rfl rfl rfl (⟨_, _, rfl, rfl, rfl⟩) ?hv6 ?rest6 hck5
    case hv6 =>
      refine ⟨_, rfl, fun hg2 => ?_⟩
      intro E1
      refine (V1.int rfl rfl rfl rfl rfl (ltb rfl) ?_)
      exact rfl
    refine VP.step (p := ?pv7) rfl rfl rfl (⟨_, _, rfl, rfl, rfl⟩) ?hv7 ?rest7 hck5
    case hv7 =>
      refine ⟨_, rfl, fun hg2 => ?_⟩
      intro E1
      refine (V1.move rfl rfl rfl (ltb rfl) ?_)
      exact rfl
    refine VP.step (p := ?pv8) rfl rfl rfl (⟨_, _, rfl, rfl, rfl⟩) ?hv8 ?rest8 hck5
    case hv8 =>
      refine ⟨_, rfl, fun hg3 => ?_⟩
      refine ⟨_, rfl, fun hg2 => ?_⟩
      intro E1
      refine (V1.move rfl rfl rfl (ltb rfl) ?_)
      exact rfl
    refine VP.step (p := ?pv9) rfl rfl rfl (⟨_, _, rfl, rfl, rfl⟩) ?hv9 ?rest9 hck5
    case hv9 =>
      refine ⟨_, rfl, fun hg3 => ?_⟩
      refine ⟨_, rfl, fun hg2 => ?_⟩
      intro E1
      refine (V1.move rfl rfl rfl (ltb rfl) ?_)
      exact rfl
    refine VP.step (p := ?pv10) rfl rfl rfl (⟨_, _, rfl, rfl, rfl⟩) ?hv10 ?rest10 hck5
    case hv10 =>
      refine ⟨_, rfl, fun hg3 => ?_⟩
      refine ⟨_, rfl, fun hg2 => ?_⟩
      intro E1
      refine (V1.int rfl rfl rfl rfl rfl (ltb rfl) ?_)
      refine putEq (y := .int .i64 ((k - 1 : Nat) : Int)) ?_
      exact (by simp at hg3; rw [wrap64_id (by omega) (by omega)]; congr 1; omega)
    refine VP.step (p := ?pv11) rfl rfl rfl (⟨_, _, rfl, rfl, ⟨_, _, rfl, rfl, rfl⟩⟩) ?hv11 ?rest11 hck5
    case hv11 =>
      refine ⟨_, rfl, fun hg3 => ?_⟩
      refine ⟨_, rfl, fun hg2 => ?_⟩
      intro E1
      first | refine (V1.indexMapN rfl rfl esz_34 rfl rfl (by omega) (ltb rfl) ?_) | refine (V1.indexMap rfl rfl esz_34 rfl rfl (by (first | omega | (simp only [List.length_map, List.length_append, List.length_take, List.length_drop, List.length_replicate, List.length_set, Int.toNat_natCast] at *; omega) | (simp at *; omega))) (by (first | omega | (simp only [List.length_map, List.length_append, List.length_take, List.length_drop, List.length_replicate, List.length_set, Int.toNat_natCast] at *; omega) | (simp at *; omega))) (ltb rfl) ?_) | refine (V1.indexSref rfl rfl esz_34 rfl rfl (by (first | omega | (simp only [List.length_map, List.length_append, List.length_take, List.length_drop, List.length_replicate, List.length_set, Int.toNat_natCast] at *; omega) | (simp at *; omega))) (by (first | omega | (simp only [List.length_map, List.length_append, List.length_take, List.length_drop, List.length_replicate, List.length_set, Int.toNat_natCast] at *; omega) | (simp at *; omega))) (ltb rfl) ?_)
      exact rfl
    refine VP.step (p := ?pv12) rfl rfl rfl (⟨_, _, rfl, rfl, rfl⟩) ?hv12 ?rest12 hck5
    case hv12 =>
      refine ⟨_, rfl, fun hg3 => ?_⟩
      refine ⟨_, rfl, fun hg2 => ?_⟩
      intro E1
      first | refine (V1.fieldPin rfl rfl fo_27_0 rfl (ltb rfl) ?_) | refine (V1.fieldRef rfl rfl fo_27_0 rfl (ltb rfl) ?_)
      exact rfl
    refine VP.step (p := ?pv13) rfl rfl rfl (⟨_, _, rfl, rfl, rfl⟩) ?hv13 ?rest13 hck5
    case hv13 =>
      refine ⟨_, rfl, fun hg3 => ?_⟩
      refine ⟨_, rfl, fun hg2 => ?_⟩
      intro E1
      first | refine (V1.loadPin rfl rfl tyk_3 rfl rfl (ltb rfl) ?_) | refine (V1.loadRef (k := 0) rfl rfl tyk_3 rfl rfl rfl rfl rfl (ltb rfl) ?_) | refine (V1.loadRef (k := 1) rfl rfl tyk_3 rfl rfl rfl rfl rfl (ltb rfl) ?_) | refine (V1.loadRef (k := 2) rfl rfl tyk_3 rfl rfl rfl rfl rfl (ltb rfl) ?_)
      exact rfl
    refine VP.step (p := ?pv14) rfl rfl rfl (⟨_, _, rfl, rfl, rfl⟩) ?hv14 ?rest14 hck5
    case hv14 =>
      refine ⟨_, rfl, fun hg3 => ?_⟩
      refine ⟨_, rfl, fun hg2 => ?_⟩
      intro E1
      first | refine (V1.fieldPin rfl rfl fo_27_0 rfl (ltb rfl) ?_) | refine (V1.fieldRef rfl rfl fo_27_0 rfl (ltb rfl) ?_)
      exact rfl
    refine VP.step (p := ?pv15) rfl rfl rfl (⟨_, _, rfl, rfl, rfl⟩) ?hv15 ?rest15 hck5
    case hv15 =>
      refine ⟨_, rfl, fun hg3 => ?_⟩
      refine ⟨_, rfl, fun hg2 => ?_⟩
      intro E1
      first | refine (V1.loadPin rfl rfl tyk_3 rfl rfl (ltb rfl) ?_) | refine (V1.loadRef (k := 0) rfl rfl tyk_3 rfl rfl rfl rfl rfl (ltb rfl) ?_) | refine (V1.loadRef (k := 1) rfl rfl tyk_3 rfl rfl rfl rfl rfl (ltb rfl) ?_) | refine (V1.loadRef (k := 2) rfl rfl tyk_3 rfl rfl rfl rfl rfl (ltb rfl) ?_)
      exact rfl
    refine VP.step (p := ?pv16) rfl rfl rfl (⟨_, _, rfl, rfl, ⟨_, _, rfl, rfl, rfl⟩⟩) ?hv16 ?rest16 hck5
    case hv16 =>
      refine ⟨_, rfl, fun hg3 => ?_⟩
      refine ⟨_, rfl, fun hg2 => ?_⟩
      intro E1
      refine (V1.int rfl rfl rfl rfl rfl (ltb rfl) ?_)
      exact rfl
    refine VP.pickAnd rfl rfl rfl rfl rfl rfl (⟨_, rfl, fun _ => trivial⟩) ?_ hck5
    refine VP.pickOr rfl rfl rfl rfl rfl rfl (trivial) ?_ hck5
    refine VP.step (p := ?pv17) rfl rfl rfl (⟨_, _, rfl, rfl, rfl⟩) ?hv17 ?rest17 hck5
    case hv17 =>
      intro E1
      refine (V1.move rfl rfl rfl (ltb rfl) ?_)
      exact rfl
    refine VP.step (p := ?pv18) rfl rfl rfl (⟨_, _, rfl, rfl, rfl⟩) ?hv18 ?rest18 hck5
    case hv18 =>
      refine ⟨_, rfl, fun hg4 => ?_⟩
      intro E1
      refine (V1.move rfl rfl rfl (ltb rfl) ?_)
      exact rfl
    refine VP.step (p := ?pv19) rfl rfl rfl (⟨_, _, rfl, rfl, rfl⟩) ?hv19 ?rest19 hck5
    case hv19 =>
      refine ⟨_, rfl, fun hg4 => ?_⟩
      intro E1
      refine (V1.move rfl rfl rfl (ltb rfl) ?_)
      exact rfl
    refine VP.step (p := ?pv20) rfl rfl rfl (⟨_, _, rfl, rfl, rfl⟩) ?hv20 ?rest20 hck5
    case hv20 =>
      refine ⟨_, rfl, fun hg4 => ?_⟩
      intro E1
      refine (V1.int rfl rfl rfl rfl rfl (ltb rfl) ?_)
      refine putEq (y := .int .i64 ((k + 1 : Nat) : Int)) ?_
      exact (by rw [wrap64_id (by omega) (by omega)]; rfl)
    refine VP.step (p := ?pv21) rfl rfl rfl (⟨_, _, rfl, rfl, ⟨_, _, rfl, rfl, rfl⟩⟩) ?hv21 ?rest21 hck5
    case hv21 =>
      refine ⟨_, rfl, fun hg4 => ?_⟩
      intro E1
      first | refine (V1.sliceVl rfl rfl esz_34 rfl (Bnd.none _ _) (Bnd.some rfl (by omega) _) (by simp; try omega) (by simp; try omega) (ltb rfl) ?_) | refine (V1.sliceSref rfl rfl esz_34 rfl (Bnd.none _ _) (Bnd.some rfl (by omega) _) (by simp; try omega) (by simp; try omega) (ltb rfl) ?_)
      refine putEq (y := .vl ρ 5 ((l.take (k + 1)).map (encCarton ρ))) ?_
      exact (by simp [List.map_take])
    refine VP.step (p := ?pv22) rfl rfl rfl (⟨_, _, rfl, rfl, rfl⟩) ?hv22 ?rest22 hck5
    case hv22 =>
      refine ⟨_, rfl, fun hg4 => ?_⟩
      intro E1
      first | refine (V1.fieldPin rfl rfl fo_27_2 rfl (ltb rfl) ?_) | refine (V1.fieldRef rfl rfl fo_27_2 rfl (ltb rfl) ?_)
      exact rfl
    refine VP.step (p := ?pv23) rfl rfl rfl (⟨_, _, rfl, rfl, rfl⟩) ?hv23 ?rest23 hck5
    case hv23 =>
      refine ⟨_, rfl, fun hg4 => ?_⟩
      intro E1
      first | refine (V1.loadPin rfl rfl tyk_3 rfl rfl (ltb rfl) ?_) | refine (V1.loadRef (k := 0) rfl rfl tyk_3 rfl rfl rfl rfl rfl (ltb rfl) ?_) | refine (V1.loadRef (k := 1) rfl rfl tyk_3 rfl rfl rfl rfl rfl (ltb rfl) ?_) | refine (V1.loadRef (k := 2) rfl rfl tyk_3 rfl rfl rfl rfl rfl (ltb rfl) ?_)
      exact rfl
    refine VP.step (p := ?pv24) rfl rfl rfl (⟨_, _, rfl, rfl, rfl⟩) ?hv24 ?rest24 hck5
    case hv24 =>
      refine ⟨_, rfl, fun hg4 => ?_⟩
      intro E1
      first | refine (V1.fieldPin rfl rfl fo_27_1 rfl (ltb rfl) ?_) | refine (V1.fieldRef rfl rfl fo_27_1 rfl (ltb rfl) ?_)
      exact rfl
    refine VP.step (p := ?pv25) rfl rfl rfl (⟨_, _, rfl, rfl, rfl⟩) ?hv25 ?rest25 hck5
    case hv25 =>
      refine ⟨_, rfl, fun hg4 => ?_⟩
      intro E1
      first | refine (V1.loadPin rfl rfl tyk_3 rfl rfl (ltb rfl) ?_) | refine (V1.loadRef (k := 0) rfl rfl tyk_3 rfl rfl rfl rfl rfl (ltb rfl) ?_) | refine (V1.loadRef (k := 1) rfl rfl tyk_3 rfl rfl rfl rfl rfl (ltb rfl) ?_) | refine (V1.loadRef (k := 2) rfl rfl tyk_3 rfl rfl rfl rfl rfl (ltb rfl) ?_)
      exact rfl
    refine VP.step (p := ?pv26) rfl rfl rfl (⟨_, _, rfl, rfl, ⟨_, _, rfl, rfl, ⟨_, _, rfl, rfl, rfl⟩⟩⟩) ?hv26 ?rest26 hck5
    case hv26 =>
      refine ⟨_, rfl, fun hg4 => ?_⟩
      intro E1
      refine (V1.call rfl rfl rfl cok_81 rfl (l18Taken_ok _ _ _ _ _ (thin_take hl1 (by omega) hr (first_good hg4))) rfl (ltb rfl) ?_)
      rintro _ _ ⟨rfl, rfl⟩
      exact rfl
    refine VP.step (p := ?pv27) rfl rfl rfl (⟨_, _, rfl, rfl, rfl⟩) ?hv27 ?rest27 hck5
    case hv27 =>
      refine ⟨_, rfl, fun hg4 => ?_⟩
      intro E1
      refine (V1.int rfl rfl rfl rfl rfl (ltb rfl) ?_)
      exact rfl
    refine VP.pickOr rfl rfl rfl rfl rfl rfl (trivial) ?_ hck5
    refine VP.fin rfl (⟨_, _, rfl, rfl, ⟨_, _, rfl, rfl, ⟨_, _, rfl, rfl, ⟨_, _, rfl, rfl, rfl⟩⟩⟩⟩) ?_
    refine VO.nil ?_
    refine V.keep 70 [0, 3, 4, 49] [0] rfl (⟨_, _, rfl, rfl, ⟨_, _, rfl, rfl, ⟨_, _, rfl, rfl, ⟨_, _, rfl, rfl, rfl⟩⟩⟩⟩) (⟨_, _, rfl, rfl, rfl⟩) rfl ?_
    refine V.cond rfl (fun hc5 => ?_) (fun hc5 => ?_)
    · skip
      have hcr5 := hc5
      try simp only [decide_eq_true_eq, decide_eq_false_iff_not, List.length_map, Bool.and_eq_true, Bool.or_eq_true, Bool.not_eq_true', Bool.not_eq_false', Bool.and_eq_false_iff, Bool.or_eq_false_iff, beq_iff_eq, bne_iff_ne, beq_eq_false_iff_ne, bne_eq_false_iff_eq, Int.not_lt, Int.not_le, ne_eq] at hc5
      refine V.seq ?_
      refine V.region ?_
      refine VO.cons rfl (V1.assign rfl rfl rfl (ltb rfl) ?_)
      refine VO.nil ?_
      refine V.ret ?_
      refine ⟨_, [], ⟨_, _, rfl, rfl, rfl⟩, List.nil_sublist _, ?_, rfl⟩
      exact congrArg PV.bool (good_false (k := k) (by omega) (okAt_no12 hcr5)).symm
    · skip
      have hcr5 := hc5
      try simp only [decide_eq_true_eq, decide_eq_false_iff_not, List.length_map, Bool.and_eq_true, Bool.or_eq_true, Bool.not_eq_true', Bool.not_eq_false', Bool.and_eq_false_iff, Bool.or_eq_false_iff, beq_iff_eq, bne_iff_ne, beq_eq_false_iff_ne, bne_eq_false_iff_eq, Int.not_lt, Int.not_le, ne_eq] at hc5
      rw [Bool.or_eq_false_iff] at hcr5
      have hA := hcr5.1
      have hT : taken (l.take (k + 1)) (l.getD k default).room (l.getD k default).shelf ≤ 100 := by have := of_decide_eq_false hcr5.2; omega
      refine V.skip ?_
      refine V.seq ?_
      refine V.region ?_
      refine VO.cons rfl (V1.assign rfl rfl rfl (ltb rfl) ?_)
      refine VO.nil ?_
      refine V.block ?_
      refine V.keep 70 [5, 0, 3, 4] [0] rfl (⟨_, _, rfl, rfl, ⟨_, _, rfl, rfl, ⟨_, _, rfl, rfl, ⟨_, _, rfl, rfl, rfl⟩⟩⟩⟩) (⟨_, _, rfl, rfl, rfl⟩) rfl ?_
      refine V.loopE (D := Nat) (fun j => [(5, .int .i64 (j : Int))]) (fun j => []) (fun j => j ≤ (l.getD k default).files.length ∧ ∀ i, i < j → ((l.take k).any fun y => y.files.any fun z => z == (l.getD k default).files.getD i default) = false) (fun j => (l.getD k default).files.length - j) 0 rfl (⟨by omega, fun _ h => absurd h (by omega)⟩) ?_
      rintro j ⟨hjl, hj⟩
      refine V.seq ?_
      refine V.seq ?_
      refine V.region ?_
      refine VO.cons rfl (V1.move rfl rfl rfl (ltb rfl) ?_)
      first | refine VO.cons rfl (V1.fieldPin rfl rfl fo_27_3 rfl (ltb rfl) ?_) | refine VO.cons rfl (V1.fieldRef rfl rfl fo_27_3 rfl (ltb rfl) ?_)
      first | refine VO.cons rfl (V1.loadPin rfl rfl tyk_22 rfl rfl (ltb rfl) ?_) | refine VO.cons rfl (V1.loadRef (k := 0) rfl rfl tyk_22 rfl rfl rfl rfl rfl (ltb rfl) ?_) | refine VO.cons rfl (V1.loadRef (k := 1) rfl rfl tyk_22 rfl rfl rfl rfl rfl (ltb rfl) ?_) | refine VO.cons rfl (V1.loadRef (k := 2) rfl rfl tyk_22 rfl rfl rfl rfl rfl (ltb rfl) ?_)
      first | refine VO.cons rfl (V1.lenVl rfl rfl rfl rfl rfl rfl isl_22 (ltb rfl) ?_) | refine VO.cons rfl (V1.lenSref rfl rfl rfl rfl rfl rfl isl_22 (ltb rfl) ?_) | refine VO.cons rfl (V1.lenNils rfl rfl rfl rfl rfl rfl isl_22 (ltb rfl) ?_)
      refine VO.cons rfl (V1.int rfl rfl rfl rfl rfl (ltb rfl) ?_)
      refine VO.nil ?_
      refine V.keep 70 [0, 3, 4, 5, 54] [0] rfl (⟨_, _, rfl, rfl, ⟨_, _, rfl, rfl, ⟨_, _, rfl, rfl, ⟨_, _, rfl, rfl, ⟨_, _, rfl, rfl, rfl⟩⟩⟩⟩⟩) (⟨_, _, rfl, rfl, rfl⟩) rfl ?_
      refine V.cond rfl (fun hc6 => ?_) (fun hc6 => ?_)
      · skip
        have hcr6 := hc6
        try simp only [decide_eq_true_eq, decide_eq_false_iff_not, List.length_map, Bool.and_eq_true, Bool.or_eq_true, Bool.not_eq_true', Bool.not_eq_false', Bool.and_eq_false_iff, Bool.or_eq_false_iff, beq_iff_eq, bne_iff_ne, beq_eq_false_iff_ne, bne_eq_false_iff_eq, Int.not_lt, Int.not_le, ne_eq] at hc6
        refine V.skip ?_
        refine V.seq ?_
        refine V.block ?_
        refine V.seq ?_
        refine V.regionM 70 8 [⟨[(0, none)], [], none⟩, ⟨[(3, none)], [], none⟩, ⟨[(57, some 1), (58, some 0)], [], none⟩, ⟨[(4, none)], [], none⟩, ⟨[(60, some 0)], [], none⟩, ⟨[(5, none)], [], none⟩, ⟨[(61, some 1), (62, some 0)], [], none⟩, ⟨[(63, some 0)], [], none⟩] [(0, none), (3, none), (4, none), (5, none), (59, some 5), (64, some 0)] (⟨_, rfl, ⟨_, rfl, ⟨_, rfl, ⟨_, rfl, ⟨_, rfl, ⟨_, rfl, ⟨_, rfl, ⟨_, rfl, ⟨rfl, rfl⟩⟩⟩⟩⟩⟩⟩⟩⟩) mixed_orders rfl (by decide +kernel) (fun hck10 => ?_)
        refine VP.step (p := ?pv28) rfl rfl rfl (⟨_, _, rfl, rfl, rfl⟩) ?hv28 ?rest28 hck10
        case hv28 =>
          intro E1
          refine (V1.move rfl rfl rfl (ltb rfl) ?_)
          exact rfl
        refine VP.step (p := ?pv29) rfl rfl rfl (⟨_, _, rfl, rfl, rfl⟩) ?hv29 ?rest29 hck10
        case hv29 =>
          intro E1
          refine (V1.move rfl rfl rfl (ltb rfl) ?_)
          exact rfl
        refine VP.step (p := ?pv30) rfl rfl rfl (⟨_, _, rfl, rfl, ⟨_, _, rfl, rfl, rfl⟩⟩) ?hv30 ?rest30 hck10
        case hv30 =>
          intro E1
          first | refine (V1.sliceVl rfl rfl esz_34 rfl (Bnd.none _ _) (Bnd.some rfl (by omega) _) (by simp; try omega) (by simp; try omega) (ltb rfl) ?_) | refine (V1.sliceSref rfl rfl esz_34 rfl (Bnd.none _ _) (Bnd.some rfl (by omega) _) (by simp; try omega) (by simp; try omega) (ltb rfl) ?_)
          refine putEq (y := .vl ρ 5 ((l.take k).map (encCarton ρ))) ?_
          exact (by simp [List.map_take])
        refine VP.step (p := ?pv31) rfl rfl rfl (⟨_, _, rfl, rfl, rfl⟩) ?hv31 ?rest31 hck10
        case hv31 =>
          intro E1
          first | refine (V1.fieldPin rfl rfl fo_27_3 rfl (ltb rfl) ?_) | refine (V1.fieldRef rfl rfl fo_27_3 rfl (ltb rfl) ?_)
          exact rfl
        refine VP.step (p := ?pv32) rfl rfl rfl (⟨_, _, rfl, rfl, rfl⟩) ?hv32 ?rest32 hck10
        case hv32 =>
          intro E1
          first | refine (V1.loadPin rfl rfl tyk_22 rfl rfl (ltb rfl) ?_) | refine (V1.loadRef (k := 0) rfl rfl tyk_22 rfl rfl rfl rfl rfl (ltb rfl) ?_) | refine (V1.loadRef (k := 1) rfl rfl tyk_22 rfl rfl rfl rfl rfl (ltb rfl) ?_) | refine (V1.loadRef (k := 2) rfl rfl tyk_22 rfl rfl rfl rfl rfl (ltb rfl) ?_)
          exact rfl
        refine VP.step (p := ?pv33) rfl rfl rfl (⟨_, _, rfl, rfl, rfl⟩) ?hv33 ?rest33 hck10
        case hv33 =>
          intro E1
          refine (V1.move rfl rfl rfl (ltb rfl) ?_)
          exact rfl
        refine VP.step (p := ?pv34) rfl rfl rfl (⟨_, _, rfl, rfl, ⟨_, _, rfl, rfl, rfl⟩⟩) ?hv34 ?rest34 hck10
        case hv34 =>
          intro E1
          first | refine (V1.indexMapN rfl rfl esz_22 rfl rfl (by omega) (ltb rfl) ?_) | refine (V1.indexMap rfl rfl esz_22 rfl rfl (by (first | omega | (simp only [List.length_map, List.length_append, List.length_take, List.length_drop, List.length_replicate, List.length_set, Int.toNat_natCast] at *; omega) | (simp at *; omega))) (by (first | omega | (simp only [List.length_map, List.length_append, List.length_take, List.length_drop, List.length_replicate, List.length_set, Int.toNat_natCast] at *; omega) | (simp at *; omega))) (ltb rfl) ?_) | refine (V1.indexSref rfl rfl esz_22 rfl rfl (by (first | omega | (simp only [List.length_map, List.length_append, List.length_take, List.length_drop, List.length_replicate, List.length_set, Int.toNat_natCast] at *; omega) | (simp at *; omega))) (by (first | omega | (simp only [List.length_map, List.length_append, List.length_take, List.length_drop, List.length_replicate, List.length_set, Int.toNat_natCast] at *; omega) | (simp at *; omega))) (ltb rfl) ?_)
          exact rfl
        refine VP.step (p := ?pv35) rfl rfl rfl (⟨_, _, rfl, rfl, rfl⟩) ?hv35 ?rest35 hck10
        case hv35 =>
          intro E1
          first | refine (V1.loadPin rfl rfl tyk_3 rfl rfl (ltb rfl) ?_) | refine (V1.loadRef (k := 0) rfl rfl tyk_3 rfl rfl rfl rfl rfl (ltb rfl) ?_) | refine (V1.loadRef (k := 1) rfl rfl tyk_3 rfl rfl rfl rfl rfl (ltb rfl) ?_) | refine (V1.loadRef (k := 2) rfl rfl tyk_3 rfl rfl rfl rfl rfl (ltb rfl) ?_)
          exact rfl
        refine VP.fin rfl (⟨_, _, rfl, rfl, ⟨_, _, rfl, rfl, ⟨_, _, rfl, rfl, ⟨_, _, rfl, rfl, ⟨_, _, rfl, rfl, ⟨_, _, rfl, rfl, rfl⟩⟩⟩⟩⟩⟩) ?_
        refine VO.cons rfl (V1.call rfl rfl rfl cok_82 rfl (l18Holds_ok _ _ _ _ (hl.take k)) rfl (ltb rfl) ?_)
        rintro _ _ ⟨rfl, rfl⟩
        refine VO.cons rfl (V1.int rfl rfl rfl rfl rfl (ltb rfl) ?_)
        refine VO.nil ?_
        refine V.keep 70 [0, 3, 4, 5, 66] [0] rfl (⟨_, _, rfl, rfl, ⟨_, _, rfl, rfl, ⟨_, _, rfl, rfl, ⟨_, _, rfl, rfl, ⟨_, _, rfl, rfl, rfl⟩⟩⟩⟩⟩) (⟨_, _, rfl, rfl, rfl⟩) rfl ?_
        refine V.cond rfl (fun hc7 => ?_) (fun hc7 => ?_)
        · skip
          have hcr7 := hc7
          try simp only [decide_eq_true_eq, decide_eq_false_iff_not, List.length_map, Bool.and_eq_true, Bool.or_eq_true, Bool.not_eq_true', Bool.not_eq_false', Bool.and_eq_false_iff, Bool.or_eq_false_iff, beq_iff_eq, bne_iff_ne, beq_eq_false_iff_ne, bne_eq_false_iff_eq, Int.not_lt, Int.not_le, ne_eq] at hc7
          refine V.seq ?_
          refine V.region ?_
          refine VO.cons rfl (V1.assign rfl rfl rfl (ltb rfl) ?_)
          refine VO.nil ?_
          refine V.ret ?_
          refine ⟨_, [], ⟨_, _, rfl, rfl, rfl⟩, List.nil_sublist _, ?_, rfl⟩
          exact congrArg PV.bool (good_false (k := k) (by omega) (okAt_no3 (clash_swap.trans (any_true (k := j) (by omega) (firstAt_any.symm.trans hcr7))))).symm
        · skip
          have hcr7 := hc7
          try simp only [decide_eq_true_eq, decide_eq_false_iff_not, List.length_map, Bool.and_eq_true, Bool.or_eq_true, Bool.not_eq_true', Bool.not_eq_false', Bool.and_eq_false_iff, Bool.or_eq_false_iff, beq_iff_eq, bne_iff_ne, beq_eq_false_iff_ne, bne_eq_false_iff_eq, Int.not_lt, Int.not_le, ne_eq] at hc7
          refine V.skip ?_
          refine V.region ?_
          refine VO.cons rfl (V1.move rfl rfl rfl (ltb rfl) ?_)
          refine VO.cons rfl (V1.int rfl rfl rfl rfl rfl (ltb rfl) ?_)
          refine VO.cons rfl (V1.assign rfl rfl rfl (ltb rfl) ?_)
          refine VO.nil ?_
          refine ⟨j + 1, ⟨by omega, step_lt hj (firstAt_any.symm.trans hcr7)⟩, by omega, Keeps.mk (ks := [0]) rfl ⟨?_, rfl, rfl, rfl, trivial⟩ (⟨_, _, rfl, rfl, rfl⟩) rfl⟩
          · exact someInt (by simp (disch := omega) only [wrap64_id]; omega)
      · skip
        have hcr6 := hc6
        try simp only [decide_eq_true_eq, decide_eq_false_iff_not, List.length_map, Bool.and_eq_true, Bool.or_eq_true, Bool.not_eq_true', Bool.not_eq_false', Bool.and_eq_false_iff, Bool.or_eq_false_iff, beq_iff_eq, bne_iff_ne, beq_eq_false_iff_ne, bne_eq_false_iff_eq, Int.not_lt, Int.not_le, ne_eq] at hc6
        refine V.exit ?_
        refine V.region ?_
        refine VO.cons rfl (V1.move rfl rfl rfl (ltb rfl) ?_)
        refine VO.cons rfl (V1.int rfl rfl rfl rfl rfl (ltb rfl) ?_)
        refine VO.cons rfl (V1.assign rfl rfl rfl (ltb rfl) ?_)
        refine VO.nil ?_
        refine ⟨k + 1, ⟨by omega, by rw [all_range_succ, hr, okAt_parts hA hT (clash_swap.trans (any_false fun i hi => hj i (by omega)))]; rfl⟩, by omega, Keeps.mk (ks := []) rfl ⟨?_, rfl, trivial⟩ (rfl) rfl⟩
        · exact someInt (by simp (disch := omega) only [wrap64_id]; omega)
  · skip
    have hcr1 := hc1
    try simp only [decide_eq_true_eq, decide_eq_false_iff_not, List.length_map, Bool.and_eq_true, Bool.or_eq_true, Bool.not_eq_true', Bool.not_eq_false', Bool.and_eq_false_iff, Bool.or_eq_false_iff, beq_iff_eq, bne_iff_ne, beq_eq_false_iff_ne, bne_eq_false_iff_eq, Int.not_lt, Int.not_le, ne_eq] at hc1
    refine V.exit ?_
    refine V.seq ?_
    refine V.region ?_
    refine VO.cons rfl (V1.move rfl rfl rfl (ltb rfl) ?_)
    first | refine VO.cons rfl (V1.lenVl rfl rfl rfl rfl rfl rfl isl_34 (ltb rfl) ?_) | refine VO.cons rfl (V1.lenSref rfl rfl rfl rfl rfl rfl isl_34 (ltb rfl) ?_) | refine VO.cons rfl (V1.lenNils rfl rfl rfl rfl rfl rfl isl_34 (ltb rfl) ?_)
    refine VO.cons rfl (V1.int rfl rfl rfl rfl rfl (ltb rfl) ?_)
    refine VO.cons rfl (V1.assign rfl rfl rfl (ltb rfl) ?_)
    refine VO.nil ?_
    refine V.ret ?_
    refine ⟨_, [], ⟨_, _, rfl, rfl, rfl⟩, List.nil_sublist _, ?_, rfl⟩
    refine congrArg PV.bool ?_
    rw [List.length_map, good]
    rcases hc1 with h | h
    · obtain rfl : k = l.length := by omega
      rw [hr, Bool.and_true]
    · rw [decide_eq_false (by omega), Bool.false_and]

theorem sAreCartons_ok (ρ rn : Nat) (l : List Carton) (hl : Small l) : Does Try.prog 22 [.vl ρ 5 (l.map (encCarton ρ))] [] rn (fun x H => x = .bool (good l) ∧ H = []) := by
  refine Does.intro (N := 5) Try.func22 rfl rfl rfl rfl ?_
  intro w0 S0
  refine V.seq ?_
  refine V.region ?_
  refine VO.cons rfl (V1.assign rfl rfl rfl (ltb rfl) ?_)
  refine VO.nil ?_
  refine V.seq ?_
  refine V.region ?_
  refine VO.cons rfl (V1.move rfl rfl rfl (ltb rfl) ?_)
  refine VO.cons rfl (V1.call rfl rfl rfl cok_76 rfl (l18Good_ok _ _ _ hl) rfl (ltb rfl) ?_)
  rintro _ _ ⟨rfl, rfl⟩
  refine VO.cons rfl (V1.assign rfl rfl rfl (ltb rfl) ?_)
  refine VO.nil ?_
  refine V.ret ?_
  refine ⟨_, [], ⟨_, _, rfl, rfl, rfl⟩, List.nil_sublist _, rfl, rfl⟩

def bulk (l : List Carton) : Nat := (l.map fun c => c.files.length).sum

theorem bulk_succ {l : List Carton} {k : Nat} (h : k < l.length) : bulk (l.take (k + 1)) = bulk (l.take k) + (l.getD k default).files.length := by
  unfold bulk
  rw [take_succ_getD h]
  simp

theorem bulk_mem {l : List Carton} {c : Carton} (h : c ∈ l) : c.files.length ≤ bulk l := by
  unfold bulk
  induction l with
  | nil => cases h
  | cons d l ih =>
    simp only [List.map_cons, List.sum_cons]
    rcases List.mem_cons.1 h with rfl | h
    · omega
    · have := ih h; omega

theorem bulk_take {l : List Carton} {k : Nat} : bulk (l.take k) ≤ bulk l := by
  have h : bulk l = bulk (l.take k) + bulk (l.drop k) := by
    conv => lhs; rw [← List.take_append_drop k l]
    unfold bulk
    rw [List.map_append, List.sum_append]
  omega

/-- How much a list may yet be read, by the laws' own count. -/
def szLeft (l : List Carton) (n : Int) : Int := if n - l.length - bulk l < 0 then -1 else n - l.length - bulk l

theorem szCartonS_ok (ρ rn : Nat) (l : List Carton) (n : Int) (hl : l.length < 9223372036854775808) (hf : ∀ c, c ∈ l → c.files.length < 9223372036854775808) (h0 : 0 ≤ n) (h1 : n ≤ 1048576) :
    Does Try.prog 21 [.vl ρ 5 (l.map (encCarton ρ)), .int .i64 n] [] rn (fun x H => x = .int .i64 (szLeft l n) ∧ H = []) := by
  refine Does.intro (N := 27) Try.func21 rfl rfl rfl rfl ?_
  intro w0 S0
  refine V.seq ?_
  refine V.region ?_
  refine VO.cons rfl (V1.assign rfl rfl rfl (ltb rfl) ?_)
  refine VO.nil ?_
  refine V.seq ?_
  refine V.region ?_
  refine VO.cons rfl (V1.move rfl rfl rfl (ltb rfl) ?_)
  refine VO.cons rfl (V1.move rfl rfl rfl (ltb rfl) ?_)
  first | refine VO.cons rfl (V1.lenVl rfl rfl rfl rfl rfl rfl isl_31 (ltb rfl) ?_) | refine VO.cons rfl (V1.lenSref rfl rfl rfl rfl rfl rfl isl_31 (ltb rfl) ?_) | refine VO.cons rfl (V1.lenNils rfl rfl rfl rfl rfl rfl isl_31 (ltb rfl) ?_)
  refine VO.cons rfl (V1.int rfl rfl rfl rfl rfl (ltb rfl) ?_)
  refine VO.weaken (Keeps.say 9 (y := .int .i64 (n - l.length)) rfl (by simp only [List.length_map]; rw [wrap64_id (by omega) (by omega)])) ?_
  refine VO.cons rfl (V1.assign rfl rfl rfl (ltb rfl) ?_)
  refine VO.nil ?_
  refine V.keep 27 [0, 1] [] rfl (⟨_, _, rfl, rfl, ⟨_, _, rfl, rfl, rfl⟩⟩) (rfl) rfl ?_
  refine V.seq ?_
  refine V.seq ?_
  refine V.region ?_
  refine VO.cons rfl (V1.move rfl rfl rfl (ltb rfl) ?_)
  refine VO.cons rfl (V1.int rfl rfl rfl rfl rfl (ltb rfl) ?_)
  refine VO.nil ?_
  refine V.cond rfl (fun hc0 => ?_) (fun hc0 => ?_)
  · skip
    have hcr0 := hc0
    try simp only [decide_eq_true_eq, decide_eq_false_iff_not, List.length_map, Bool.and_eq_true, Bool.or_eq_true, Bool.not_eq_true', Bool.not_eq_false', Bool.and_eq_false_iff, Bool.or_eq_false_iff, beq_iff_eq, bne_iff_ne, beq_eq_false_iff_ne, bne_eq_false_iff_eq, Int.not_lt, Int.not_le, ne_eq] at hc0
    refine V.seq ?_
    refine V.region ?_
    refine VO.cons rfl (V1.assign rfl rfl rfl (ltb rfl) ?_)
    refine VO.nil ?_
    refine V.ret ?_
    refine ⟨_, [], ⟨_, _, rfl, rfl, rfl⟩, List.nil_sublist _, ?_, rfl⟩
    exact congrArg (PV.int .i64) (by rw [szLeft, if_pos (by omega)])
  · skip
    have hcr0 := hc0
    try simp only [decide_eq_true_eq, decide_eq_false_iff_not, List.length_map, Bool.and_eq_true, Bool.or_eq_true, Bool.not_eq_true', Bool.not_eq_false', Bool.and_eq_false_iff, Bool.or_eq_false_iff, beq_iff_eq, bne_iff_ne, beq_eq_false_iff_ne, bne_eq_false_iff_eq, Int.not_lt, Int.not_le, ne_eq] at hc0
    refine V.skip ?_
    refine V.seq ?_
    refine V.seq ?_
    refine V.region ?_
    refine VO.cons rfl (V1.assign rfl rfl rfl (ltb rfl) ?_)
    refine VO.nil ?_
    refine V.block ?_
    refine V.weaken (Keeps.say 1 (y := .int .i64 (n - l.length - bulk (l.take 0))) rfl (by simp [bulk])) ?_
    refine V.keep 27 [1, 5, 0] [] rfl (⟨_, _, rfl, rfl, ⟨_, _, rfl, rfl, ⟨_, _, rfl, rfl, rfl⟩⟩⟩) (rfl) rfl ?_
    refine V.loopE (D := Nat) (fun k => [(1, .int .i64 (n - l.length - bulk (l.take k))), (5, .int .i64 (k : Int))]) (fun k => []) (fun k => k ≤ l.length ∧ 0 ≤ n - l.length - bulk (l.take k)) (fun k => l.length - k) 0 rfl (⟨by omega, by simp [bulk]; omega⟩) ?_
    rintro k ⟨hk, hb⟩
    refine V.seq ?_
    refine V.seq ?_
    refine V.region ?_
    refine VO.cons rfl (V1.move rfl rfl rfl (ltb rfl) ?_)
    refine VO.cons rfl (V1.move rfl rfl rfl (ltb rfl) ?_)
    first | refine VO.cons rfl (V1.lenVl rfl rfl rfl rfl rfl rfl isl_31 (ltb rfl) ?_) | refine VO.cons rfl (V1.lenSref rfl rfl rfl rfl rfl rfl isl_31 (ltb rfl) ?_) | refine VO.cons rfl (V1.lenNils rfl rfl rfl rfl rfl rfl isl_31 (ltb rfl) ?_)
    refine VO.cons rfl (V1.int rfl rfl rfl rfl rfl (ltb rfl) ?_)
    refine VO.nil ?_
    refine V.keep 27 [0, 1, 5, 15] [] rfl (⟨_, _, rfl, rfl, ⟨_, _, rfl, rfl, ⟨_, _, rfl, rfl, ⟨_, _, rfl, rfl, rfl⟩⟩⟩⟩) (rfl) rfl ?_
    refine V.cond rfl (fun hc1 => ?_) (fun hc1 => ?_)
    · skip
      have hcr1 := hc1
      try simp only [decide_eq_true_eq, decide_eq_false_iff_not, List.length_map, Bool.and_eq_true, Bool.or_eq_true, Bool.not_eq_true', Bool.not_eq_false', Bool.and_eq_false_iff, Bool.or_eq_false_iff, beq_iff_eq, bne_iff_ne, beq_eq_false_iff_ne, bne_eq_false_iff_eq, Int.not_lt, Int.not_le, ne_eq] at hc1
      refine V.skip ?_
      refine V.seq ?_
      refine V.block ?_
      refine V.seq ?_
      refine V.region ?_
      refine VO.cons rfl (V1.move rfl rfl rfl (ltb rfl) ?_)
      refine VO.cons rfl (V1.move rfl rfl rfl (ltb rfl) ?_)
      first | refine VO.cons rfl (V1.indexMapN rfl rfl esz_31 rfl rfl (by omega) (ltb rfl) ?_) | refine VO.cons rfl (V1.indexMap rfl rfl esz_31 rfl rfl (by (first | omega | (simp only [List.length_map, List.length_append, List.length_take, List.length_drop, List.length_replicate, List.length_set, Int.toNat_natCast] at *; omega) | (simp at *; omega))) (by (first | omega | (simp only [List.length_map, List.length_append, List.length_take, List.length_drop, List.length_replicate, List.length_set, Int.toNat_natCast] at *; omega) | (simp at *; omega))) (ltb rfl) ?_) | refine VO.cons rfl (V1.indexSref rfl rfl esz_31 rfl rfl (by (first | omega | (simp only [List.length_map, List.length_append, List.length_take, List.length_drop, List.length_replicate, List.length_set, Int.toNat_natCast] at *; omega) | (simp at *; omega))) (by (first | omega | (simp only [List.length_map, List.length_append, List.length_take, List.length_drop, List.length_replicate, List.length_set, Int.toNat_natCast] at *; omega) | (simp at *; omega))) (ltb rfl) ?_)
      first | refine VO.cons rfl (V1.loadPinAll rfl rfl tyk_24 rfl rfl (ltb rfl) ?_) | refine VO.cons rfl (V1.loadRefAll (k := 0) rfl rfl tyk_24 rfl rfl rfl rfl rfl (ltb rfl) ?_) | refine VO.cons rfl (V1.loadRefAll (k := 1) rfl rfl tyk_24 rfl rfl rfl rfl rfl (ltb rfl) ?_) | refine VO.cons rfl (V1.loadRefAll (k := 2) rfl rfl tyk_24 rfl rfl rfl rfl rfl (ltb rfl) ?_)
      refine VO.cons rfl (V1.move rfl rfl rfl (ltb rfl) ?_)
      refine VO.cons rfl (V1.call rfl rfl rfl cok_16 rfl (szCarton_ok _ _ _ _ (hf _ (getD_mem (by omega))) (by omega) (by omega)) rfl (ltb rfl) ?_)
      rintro _ _ ⟨rfl, rfl⟩
      refine VO.cons rfl (V1.assign rfl rfl rfl (ltb rfl) ?_)
      refine VO.nil ?_
      refine V.keep 27 [0, 1, 5] [] rfl (⟨_, _, rfl, rfl, ⟨_, _, rfl, rfl, ⟨_, _, rfl, rfl, rfl⟩⟩⟩) (rfl) rfl ?_
      refine V.seq ?_
      refine V.region ?_
      refine VO.cons rfl (V1.move rfl rfl rfl (ltb rfl) ?_)
      refine VO.cons rfl (V1.int rfl rfl rfl rfl rfl (ltb rfl) ?_)
      refine VO.nil ?_
      refine V.cond rfl (fun hc2 => ?_) (fun hc2 => ?_)
      · skip
        have hcr2 := hc2
        try simp only [decide_eq_true_eq, decide_eq_false_iff_not, List.length_map, Bool.and_eq_true, Bool.or_eq_true, Bool.not_eq_true', Bool.not_eq_false', Bool.and_eq_false_iff, Bool.or_eq_false_iff, beq_iff_eq, bne_iff_ne, beq_eq_false_iff_ne, bne_eq_false_iff_eq, Int.not_lt, Int.not_le, ne_eq] at hc2
        refine V.seq ?_
        refine V.region ?_
        refine VO.cons rfl (V1.assign rfl rfl rfl (ltb rfl) ?_)
        refine VO.nil ?_
        refine V.ret ?_
        refine ⟨_, [], ⟨_, _, rfl, rfl, rfl⟩, List.nil_sublist _, ?_, rfl⟩
        exact congrArg (PV.int .i64) (by have := bulk_succ (l := l) (k := k) (by omega); have := bulk_take (l := l) (k := k + 1); rw [szLeft, if_pos (by split at hc2 <;> omega)])
      · skip
        have hcr2 := hc2
        try simp only [decide_eq_true_eq, decide_eq_false_iff_not, List.length_map, Bool.and_eq_true, Bool.or_eq_true, Bool.not_eq_true', Bool.not_eq_false', Bool.and_eq_false_iff, Bool.or_eq_false_iff, beq_iff_eq, bne_iff_ne, beq_eq_false_iff_ne, bne_eq_false_iff_eq, Int.not_lt, Int.not_le, ne_eq] at hc2
        refine V.skip ?_
        refine V.region ?_
        refine VO.cons rfl (V1.move rfl rfl rfl (ltb rfl) ?_)
        refine VO.cons rfl (V1.int rfl rfl rfl rfl rfl (ltb rfl) ?_)
        refine VO.cons rfl (V1.assign rfl rfl rfl (ltb rfl) ?_)
        refine VO.nil ?_
        refine ⟨k + 1, ⟨by omega, by rw [bulk_succ (by omega)]; split at hc2 <;> omega⟩, by omega, Keeps.mk (ks := []) rfl ⟨?_, ?_, rfl, trivial⟩ (rfl) rfl⟩
        · exact someInt (by rw [bulk_succ (by omega)]; split at hc2 <;> omega)
        · exact someInt (by simp (disch := omega) only [wrap64_id]; omega)
    · skip
      have hcr1 := hc1
      try simp only [decide_eq_true_eq, decide_eq_false_iff_not, List.length_map, Bool.and_eq_true, Bool.or_eq_true, Bool.not_eq_true', Bool.not_eq_false', Bool.and_eq_false_iff, Bool.or_eq_false_iff, beq_iff_eq, bne_iff_ne, beq_eq_false_iff_ne, bne_eq_false_iff_eq, Int.not_lt, Int.not_le, ne_eq] at hc1
      refine V.exit ?_
      refine V.seq ?_
      refine V.region ?_
      refine VO.cons rfl (V1.move rfl rfl rfl (ltb rfl) ?_)
      refine VO.cons rfl (V1.assign rfl rfl rfl (ltb rfl) ?_)
      refine VO.nil ?_
      refine V.ret ?_
      refine ⟨_, [], ⟨_, _, rfl, rfl, rfl⟩, List.nil_sublist _, ?_, rfl⟩
      obtain rfl : k = l.length := by omega
      rw [List.take_length] at *
      exact congrArg (PV.int .i64) (by rw [szLeft, if_neg (by omega)])

theorem FnExactAreCartons_ok (ρ : Nat) (l : List Carton) (hl : l.length < 9223372036854775808) (hf : ∀ c, c ∈ l → c.files.length < 9223372036854775808) : Does Try.prog 4 [.vl ρ 5 (l.map (encCarton ρ))] [] 0 (fun x H => x = .bool true ∧ H = []) := by
  refine Does.intro (N := 27) Try.func4 rfl rfl rfl rfl ?_
  intro w0 S0
  refine V.seq ?_
  refine V.region ?_
  refine VO.cons rfl (V1.assign rfl rfl rfl (ltb rfl) ?_)
  refine VO.nil ?_
  refine V.seq ?_
  refine V.region ?_
  refine VO.cons rfl (V1.assign rfl rfl rfl (ltb rfl) ?_)
  refine VO.nil ?_
  refine V.seq ?_
  refine V.region ?_
  refine VO.cons rfl (V1.move rfl rfl rfl (ltb rfl) ?_)
  refine VO.cons rfl (V1.move rfl rfl rfl (ltb rfl) ?_)
  refine VO.cons rfl (V1.call rfl rfl rfl cok_21 rfl (szCartonS_ok _ _ l _ hl hf (by omega) (by omega)) rfl (ltb rfl) ?_)
  rintro _ _ ⟨rfl, rfl⟩
  refine VO.cons rfl (V1.assign rfl rfl rfl (ltb rfl) ?_)
  refine VO.nil ?_
  refine V.keep 27 [0, 3] [] rfl (⟨_, _, rfl, rfl, ⟨_, _, rfl, rfl, rfl⟩⟩) (rfl) rfl ?_
  refine V.seq ?_
  refine V.seq ?_
  refine V.region ?_
  refine VO.cons rfl (V1.move rfl rfl rfl (ltb rfl) ?_)
  refine VO.cons rfl (V1.int rfl rfl rfl rfl rfl (ltb rfl) ?_)
  refine VO.nil ?_
  refine V.cond rfl (fun hc0 => ?_) (fun hc0 => ?_)
  · skip
    have hcr0 := hc0
    try simp only [decide_eq_true_eq, decide_eq_false_iff_not, List.length_map, Bool.and_eq_true, Bool.or_eq_true, Bool.not_eq_true', Bool.not_eq_false', Bool.and_eq_false_iff, Bool.or_eq_false_iff, beq_iff_eq, bne_iff_ne, beq_eq_false_iff_ne, bne_eq_false_iff_eq, Int.not_lt, Int.not_le, ne_eq] at hc0
    refine V.seq ?_
    refine V.region ?_
    refine VO.cons rfl (V1.assign rfl rfl rfl (ltb rfl) ?_)
    refine VO.nil ?_
    refine V.ret ?_
    refine ⟨_, [], ⟨_, _, rfl, rfl, rfl⟩, List.nil_sublist _, rfl, rfl⟩
  · skip
    have hcr0 := hc0
    try simp only [decide_eq_true_eq, decide_eq_false_iff_not, List.length_map, Bool.and_eq_true, Bool.or_eq_true, Bool.not_eq_true', Bool.not_eq_false', Bool.and_eq_false_iff, Bool.or_eq_false_iff, beq_iff_eq, bne_iff_ne, beq_eq_false_iff_ne, bne_eq_false_iff_eq, Int.not_lt, Int.not_le, ne_eq] at hc0
    have hs : Small l := by
      have hb : ((l.length : Int) + bulk l ≤ 1048576) := by unfold szLeft at hc0; split at hc0 <;> omega
      exact ⟨by omega, fun c hc => by have := bulk_mem hc; omega⟩
    refine V.skip ?_
    refine V.seq ?_
    refine V.region ?_
    refine VO.cons rfl (V1.move rfl rfl rfl (ltb rfl) ?_)
    refine VO.cons rfl (V1.call rfl rfl rfl cok_23 rfl (toCartonS_ok _ _ l hs) rfl (ltb rfl) ?_)
    rintro _ _ ⟨rfl, rfl⟩
    refine VO.cons rfl (V1.call rfl rfl rfl cok_22 rfl (sAreCartons_ok _ _ l hs) rfl (ltb rfl) ?_)
    rintro _ _ ⟨rfl, rfl⟩
    refine VO.cons rfl (V1.assign rfl rfl rfl (ltb rfl) ?_)
    refine VO.nil ?_
    refine V.keep 27 [0, 4] [] rfl (⟨_, _, rfl, rfl, ⟨_, _, rfl, rfl, rfl⟩⟩) (rfl) rfl ?_
    refine V.seq ?_
    refine V.region ?_
    refine VO.cons rfl (V1.move rfl rfl rfl (ltb rfl) ?_)
    refine VO.cons rfl (V1.call rfl rfl rfl cok_23 rfl (toCartonS_ok _ _ l hs) rfl (ltb rfl) ?_)
    rintro _ _ ⟨rfl, rfl⟩
    refine VO.cons rfl (V1.assign rfl rfl rfl (ltb rfl) ?_)
    refine VO.nil ?_
    refine V.seq ?_
    refine V.region ?_
    refine VO.cons rfl (V1.move rfl rfl rfl (ltb rfl) ?_)
    refine VO.cons rfl (V1.call rfl rfl rfl cok_24 rfl (iAreCartons_ok _ _ l hs) rfl (ltb rfl) ?_)
    rintro _ _ ⟨rfl, rfl⟩
    refine VO.cons rfl (V1.assign rfl rfl rfl (ltb rfl) ?_)
    refine VO.nil ?_
    refine V.keep 27 [0, 4, 5, 6] [] rfl (⟨_, _, rfl, rfl, ⟨_, _, rfl, rfl, ⟨_, _, rfl, rfl, ⟨_, _, rfl, rfl, rfl⟩⟩⟩⟩) (rfl) rfl ?_
    refine V.seq ?_
    refine V.seq ?_
    refine V.region ?_
    refine VO.cons rfl (V1.move rfl rfl rfl (ltb rfl) ?_)
    refine VO.cons rfl (V1.move rfl rfl rfl (ltb rfl) ?_)
    refine VO.cons rfl (V1.boolNeq rfl rfl und_4 rfl rfl (ltb rfl) ?_)
    refine VO.nil ?_
    refine V.cond rfl (fun hc1 => ?_) (fun hc1 => ?_)
    · skip
      have hcr1 := hc1
      try simp only [decide_eq_true_eq, decide_eq_false_iff_not, List.length_map, Bool.and_eq_true, Bool.or_eq_true, Bool.not_eq_true', Bool.not_eq_false', Bool.and_eq_false_iff, Bool.or_eq_false_iff, beq_iff_eq, bne_iff_ne, beq_eq_false_iff_ne, bne_eq_false_iff_eq, Int.not_lt, Int.not_le, ne_eq] at hc1
      simp at hcr1
    · skip
      have hcr1 := hc1
      try simp only [decide_eq_true_eq, decide_eq_false_iff_not, List.length_map, Bool.and_eq_true, Bool.or_eq_true, Bool.not_eq_true', Bool.not_eq_false', Bool.and_eq_false_iff, Bool.or_eq_false_iff, beq_iff_eq, bne_iff_ne, beq_eq_false_iff_ne, bne_eq_false_iff_eq, Int.not_lt, Int.not_le, ne_eq] at hc1
      refine V.skip ?_
      refine V.seq ?_
      refine V.seq ?_
      refine V.region ?_
      refine VO.cons rfl (V1.move rfl rfl rfl (ltb rfl) ?_)
      refine VO.cons rfl (V1.move rfl rfl rfl (ltb rfl) ?_)
      refine VO.cons rfl (V1.call rfl rfl rfl cok_23 rfl (toCartonS_ok _ _ l hs) rfl (ltb rfl) ?_)
      rintro _ _ ⟨rfl, rfl⟩
      refine VO.cons rfl (V1.call rfl rfl rfl cok_25 rfl (eqCartonS_ok _ _ _ l l hs hs) rfl (ltb rfl) ?_)
      rintro _ _ ⟨rfl, rfl⟩
      refine VO.cons rfl (V1.not rfl rfl rfl (ltb rfl) ?_)
      refine VO.nil ?_
      refine V.keep 27 [26] [] rfl (⟨_, _, rfl, rfl, rfl⟩) (rfl) rfl ?_
      refine V.cond rfl (fun hc2 => ?_) (fun hc2 => ?_)
      · skip
        have hcr2 := hc2
        try simp only [decide_eq_true_eq, decide_eq_false_iff_not, List.length_map, Bool.and_eq_true, Bool.or_eq_true, Bool.not_eq_true', Bool.not_eq_false', Bool.and_eq_false_iff, Bool.or_eq_false_iff, beq_iff_eq, bne_iff_ne, beq_eq_false_iff_ne, bne_eq_false_iff_eq, Int.not_lt, Int.not_le, ne_eq] at hc2
        simp at hcr2
      · skip
        have hcr2 := hc2
        try simp only [decide_eq_true_eq, decide_eq_false_iff_not, List.length_map, Bool.and_eq_true, Bool.or_eq_true, Bool.not_eq_true', Bool.not_eq_false', Bool.and_eq_false_iff, Bool.or_eq_false_iff, beq_iff_eq, bne_iff_ne, beq_eq_false_iff_ne, bne_eq_false_iff_eq, Int.not_lt, Int.not_le, ne_eq] at hc2
        refine V.skip ?_
        refine V.seq ?_
        refine V.region ?_
        refine VO.cons rfl (V1.assign rfl rfl rfl (ltb rfl) ?_)
        refine VO.nil ?_
        refine V.ret ?_
        refine ⟨_, [], ⟨_, _, rfl, rfl, rfl⟩, List.nil_sublist _, rfl, rfl⟩
end Go.Proofs.Ythaeehmkeiiidaa
