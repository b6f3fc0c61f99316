/- the functions do what their models say -/
import Derived.Test.YthffmnpbonkpaaaQk2
set_option linter.unusedSimpArgs false
set_option linter.unusedVariables false
set_option maxRecDepth 100000
set_option maxHeartbeats 4000000
namespace Go.Proofs.Ythffmnpbonkpaaa
open Go.VS

theorem ok_spec_EndsOf {ρ0 ρ1 rn : Nat} {r_ : Record} {schedule : List Rule} {r : List Int × Bool} (h : M.spec_EndsOf r_ schedule = some r) : Does Try.prog 15 [encRecord ρ0 r_, .vl ρ1 4 (List.map encRule schedule)] [] rn (fun x H => ∃ (ob0_ : Nat), x = .tup [PV.sref ob0_ 1 0 (List.length r.1), .bool r.2] ∧ H = [(ob0_, ⟨1, List.map encInt r.1⟩)]) := by
 have hm0 := h; clear h; unfold M.spec_EndsOf at hm0
 try dsimp only at hm0
 refine Does.intro (N := 35) Try.func15 rfl rfl rfl rfl ?_
 intro w0 S0
 refine V.seq ?_
 refine V.region ?_
 refine VO.cons rfl (V1.boxN (n := 4) rfl rfl rfl rfl rfl (ltb rfl) ?_)
 intro b0
 refine VO.cons rfl (V1.assign rfl rfl rfl (ltb rfl) ?_)
 refine VO.cons rfl (V1.assign rfl rfl rfl (ltb rfl) ?_)
 refine VO.nil ?_
 refine V.seq ?_
 refine V.region ?_
 refine VO.cons rfl (V1.buildSliceT (f := encInt) ([] : List Int) rfl rfl esz_30 zk_3 rfl rfl rfl rfl rfl rfl rfl (ltb rfl) ?_)
 intro b1
 refine VO.cons rfl (V1.assign rfl rfl rfl (ltb rfl) ?_)
 refine VO.nil ?_
 refine V.keep 35 [1, 2, 6] [0, 1] (E0 := [(1, .vl ρ1 4 (List.map encRule schedule)), (2, .ref b0 4 0 0), (6, .sref b1 1 0 (List.length ([] : List Int)))]) (H0 := [(b1, ⟨1, List.map encInt ([] : List Int)⟩), (b0, ⟨4, [encRecord ρ0 r_]⟩)]) rfl (⟨_, _, rfl, rfl, ⟨_, _, rfl, rfl, ⟨_, _, rfl, rfl, rfl⟩⟩⟩) (⟨_, _, rfl, rfl, ⟨_, _, rfl, rfl, rfl⟩⟩) rfl ?_
 refine V.seq ?_
 refine V.seq ?_
 replace hm0 := bindO hm0; rcases hm0 with ⟨y0, hh0, hm0⟩
 refine V.region ?_
 refine VO.cons rfl (V1.loadRefAll (k := 1) rfl rfl tyk_26 rfl rfl rfl rfl rfl (ltb rfl) ?_)
 refine VO.cons rfl (V1.move rfl rfl rfl (ltb rfl) ?_)
 refine VO.cons rfl (V1.call rfl rfl rfl cok_150 rfl (ok_spec_l6Asked hh0) rfl (ltb rfl) ?_)
 rintro _ _ ⟨rfl, rfl⟩
 refine VO.cons rfl (V1.not rfl rfl rfl (ltb rfl) ?_)
 refine VO.nil ?_
 refine V.cond rfl (fun hc0 => ?_) (fun hc0 => ?_)
 ·
  replace hm0 := cond_t hc0 hm0
  refine V.seq ?_
  refine V.region ?_
  refine VO.cons rfl (V1.move rfl rfl rfl (ltb rfl) ?_)
  refine VO.cons rfl (V1.assign rfl rfl rfl (ltb rfl) ?_)
  refine VO.cons rfl (V1.assign rfl rfl rfl (ltb rfl) ?_)
  refine VO.nil ?_
  refine V.keep 35 [4, 5] [0] (E0 := [(4, .sref b1 1 0 (List.length ([] : List Int))), (5, .bool false)]) (H0 := [(b1, ⟨1, List.map encInt ([] : List Int)⟩)]) rfl (⟨_, _, rfl, rfl, ⟨_, _, rfl, rfl, rfl⟩⟩) (⟨_, _, rfl, rfl, rfl⟩) rfl ?_
  refine V.ret ?_
  obtain rfl := Option.some.inj hm0
  exact ⟨_, _, ⟨_, _, rfl, rfl, ⟨_, _, rfl, rfl, rfl⟩⟩, List.Sublist.refl _, b1, rfl, rfl⟩
 ·
  replace hm0 := cond_f hc0 hm0
  refine V.skip ?_
  refine V.keep 35 [1, 2, 6] [0, 1] (E0 := [(1, .vl ρ1 4 (List.map encRule schedule)), (2, .ref b0 4 0 0), (6, .sref b1 1 0 (List.length ([] : List Int)))]) (H0 := [(b1, ⟨1, List.map encInt ([] : List Int)⟩), (b0, ⟨4, [encRecord ρ0 r_]⟩)]) rfl (⟨_, _, rfl, rfl, ⟨_, _, rfl, rfl, ⟨_, _, rfl, rfl, rfl⟩⟩⟩) (⟨_, _, rfl, rfl, ⟨_, _, rfl, rfl, rfl⟩⟩) rfl ?_
  refine V.seq ?_
  replace hm0 := bindO hm0; rcases hm0 with ⟨y1, hh1, hm0⟩
  refine V.region ?_
  refine VO.cons rfl (V1.move rfl rfl rfl (ltb rfl) ?_)
  refine VO.cons rfl (V1.fieldRef rfl rfl fo_26_1 rfl (ltb rfl) ?_)
  refine VO.cons rfl (V1.loadRef (k := 1) rfl rfl tyk_3 rfl rfl rfl rfl rfl (ltb rfl) ?_)
  refine VO.cons rfl (V1.call rfl rfl rfl cok_151 rfl (ok_spec_l4For hh1) rfl (ltb rfl) ?_)
  rintro _ _ ⟨b2, rfl, rfl⟩
  refine VO.weakenK (Keeps.freezeG 0 rn [(18, .vl rn 4 (List.map encRule y1))] [(b1, ⟨1, List.map encInt ([] : List Int)⟩), (b0, ⟨4, [encRecord ρ0 r_]⟩)] (f := encRule) (l := y1) rfl (fun _ => rfl) ⟨⟨_, rfl, .here⟩, trivial⟩ ⟨_, _, rfl, rfl, .inl rfl, ⟨_, _, rfl, rfl, .inl rfl, rfl⟩⟩ rfl iNil) ?_
  refine VO.cons rfl (V1.assign rfl rfl rfl (ltb rfl) ?_)
  refine VO.nil ?_
  refine V.keep 35 [2, 6, 7] [0, 1] (E0 := [(2, .ref b0 4 0 0), (6, .sref b1 1 0 (List.length ([] : List Int))), (7, .vl rn 4 (List.map encRule y1))]) (H0 := [(b1, ⟨1, List.map encInt ([] : List Int)⟩), (b0, ⟨4, [encRecord ρ0 r_]⟩)]) rfl (⟨_, _, rfl, rfl, ⟨_, _, rfl, rfl, ⟨_, _, rfl, rfl, rfl⟩⟩⟩) (⟨_, _, rfl, rfl, ⟨_, _, rfl, rfl, rfl⟩⟩) rfl ?_
  refine V.seq ?_
  refine V.seq ?_
  refine V.region ?_
  refine VO.cons rfl (V1.assign rfl rfl rfl (ltb rfl) ?_)
  refine VO.nil ?_
  replace hm0 := bindO hm0; rcases hm0 with ⟨e0, he1, hm0⟩
  refine V.cutT (D := (List Int) × (Nat)) (fun ⟨out_, b3⟩ => ⟨35, [(6, .sref b3 1 0 (List.length out_))], [(b3, ⟨1, List.map encInt out_⟩)]⟩) (fun ⟨out_, b3⟩ => (out_ = e0)) ?_ ?_
  ·
   refine V.block ?_
   refine V.keep 35 [6, 8, 2, 7] [0, 1] (E0 := [(6, .sref b1 1 0 (List.length ([] : List Int))), (8, .int .i64 (0 : Int)), (2, .ref b0 4 0 0), (7, .vl rn 4 (List.map encRule y1))]) (H0 := [(b1, ⟨1, List.map encInt ([] : List Int)⟩), (b0, ⟨4, [encRecord ρ0 r_]⟩)]) rfl (⟨_, _, rfl, rfl, ⟨_, _, rfl, rfl, ⟨_, _, rfl, rfl, ⟨_, _, rfl, rfl, rfl⟩⟩⟩⟩) (⟨_, _, rfl, rfl, ⟨_, _, rfl, rfl, rfl⟩⟩) rfl ?_
   refine V.loopE (D := Nat × (List Int × Int) × (Nat)) (fun ⟨n0, ⟨out_0, i⟩, b4⟩ => [(6, .sref b4 1 0 (List.length out_0)), (8, .int .i64 i)]) (fun ⟨n0, ⟨out_0, i⟩, b4⟩ => [(b4, ⟨1, List.map encInt out_0⟩)]) (fun ⟨n0, ⟨out_0, i⟩, b4⟩ => loopO (M.spec_EndsOf_l0 r_ y1) n0 (out_0, i) = some e0) (fun ⟨n0, _, _⟩ => n0) (rounds, (([] : List Int), (0 : Int)), b1) rfl he1 ?_
   rintro ⟨n0, ⟨out_0, i⟩, b4⟩ hP0
   obtain ⟨m0, y2, rfl, hm1, hl1, hr1⟩ := loop_head hP0
   unfold M.spec_EndsOf_l0 at hm1; dsimp only at hm1
   show V _ _ _ ⟨35, [(6, .sref b4 1 0 (List.length out_0)), (8, .int .i64 i), (2, .ref b0 4 0 0), (7, .vl rn 4 (List.map encRule y1))], [(b4, ⟨1, List.map encInt out_0⟩), (b0, ⟨4, [encRecord ρ0 r_]⟩)]⟩
   refine V.seq ?_
   refine V.seq ?_
   refine V.region ?_
   refine VO.cons rfl (V1.move rfl rfl rfl (ltb rfl) ?_)
   refine VO.cons rfl (V1.move rfl rfl rfl (ltb rfl) ?_)
   refine VO.cons rfl (V1.lenMap rfl rfl rfl rfl rfl rfl isl_27 (ltb rfl) ?_)
   refine VO.cons rfl (V1.int rfl rfl rfl rfl rfl (ltb rfl) ?_)
   refine VO.nil ?_
   refine V.cond rfl (fun hc1 => ?_) (fun hc1 => ?_)
   ·
    replace hm1 := cond_t hc1 hm1
    refine V.skip ?_
    refine V.keep 35 [2, 6, 7, 8] [0, 1] (E0 := [(2, .ref b0 4 0 0), (6, .sref b4 1 0 (List.length out_0)), (7, .vl rn 4 (List.map encRule y1)), (8, .int .i64 i)]) (H0 := [(b4, ⟨1, List.map encInt out_0⟩), (b0, ⟨4, [encRecord ρ0 r_]⟩)]) rfl (⟨_, _, rfl, rfl, ⟨_, _, rfl, rfl, ⟨_, _, rfl, rfl, ⟨_, _, rfl, rfl, rfl⟩⟩⟩⟩) (⟨_, _, rfl, rfl, ⟨_, _, rfl, rfl, rfl⟩⟩) rfl ?_
    refine V.seq ?_
    refine V.block ?_
    replace hm1 := asrt_some hm1; rcases hm1 with ⟨hh2, hm1⟩
    replace hm1 := bindO hm1; rcases hm1 with ⟨y3, hh3, hm1⟩
    replace hm1 := asrt_some hm1; rcases hm1 with ⟨hh4, hm1⟩
    refine V.regionS [(b0, ⟨4, [encRecord ρ0 r_]⟩)] 35 8 [⟨[(6, none)], false⟩, ⟨[(2, none)], false⟩, ⟨[(7, none)], false⟩, ⟨[(8, none)], false⟩, ⟨[(27, some 2), (28, some 3)], false⟩, ⟨[(29, some 4)], false⟩, ⟨[(26, some 1), (30, some 5)], false⟩, ⟨[(31, some 6)], true⟩] [(2, none), (7, none), (8, none), (25, some 0), (32, some 7)] 1 (⟨_, rfl, ⟨_, rfl, ⟨_, rfl, ⟨_, rfl, ⟨_, rfl, ⟨_, rfl, ⟨_, rfl, ⟨_, rfl, ⟨rfl, rfl⟩⟩⟩⟩⟩⟩⟩⟩⟩) mixed_orders rfl (by decide +kernel) ?_
    refine WalkP.step (p := ?pv65) 0 rfl rfl rfl rfl rfl (⟨_, _, rfl, rfl, rfl⟩) ?hv65 ?rest65
    case hv65 =>
     intro E1 H1 hI1
     refine (V1.move rfl rfl rfl (ltb rfl) ?_)
     exact rfl
    refine WalkP.step (p := ?pv66) 1 rfl rfl rfl rfl rfl (⟨_, _, rfl, rfl, rfl⟩) ?hv66 ?rest66
    case hv66 =>
     intro E1 H1 hI1
     obtain ⟨k67_, hk67_⟩ := inGet 0 rfl hI1
     refine (V1.loadRefAll (k := k67_) rfl rfl tyk_26 rfl hk67_ rfl rfl rfl (ltb rfl) ?_)
     exact rfl
    refine WalkP.step (p := ?pv68) 2 rfl rfl rfl rfl rfl (⟨_, _, rfl, rfl, rfl⟩) ?hv68 ?rest68
    case hv68 =>
     intro E1 H1 hI1
     refine (V1.move rfl rfl rfl (ltb rfl) ?_)
     exact rfl
    refine WalkP.step (p := ?pv69) 3 rfl rfl rfl rfl rfl (⟨_, _, rfl, rfl, rfl⟩) ?hv69 ?rest69
    case hv69 =>
     intro E1 H1 hI1
     refine (V1.move rfl rfl rfl (ltb rfl) ?_)
     exact rfl
    refine WalkP.step (p := ?pv70) 4 rfl rfl rfl rfl rfl (⟨_, _, rfl, rfl, ⟨_, _, rfl, rfl, rfl⟩⟩) ?hv70 ?rest70
    case hv70 =>
     intro E1 H1 hI1
     refine (V1.indexI rfl rfl esz_27 rfl rfl hh2 (ltb rfl) ?_)
     exact rfl
    refine WalkP.step (p := ?pv71) 5 rfl rfl rfl rfl rfl (⟨_, _, rfl, rfl, rfl⟩) ?hv71 ?rest71
    case hv71 =>
     intro E1 H1 hI1
     refine (V1.loadPinAll rfl rfl tyk_37 rfl rfl (ltb rfl) ?_)
     exact rfl
    refine WalkP.step (p := ?pv72) 6 rfl rfl rfl rfl rfl (⟨_, _, rfl, rfl, ⟨_, _, rfl, rfl, rfl⟩⟩) ?hv72 ?rest72
    case hv72 =>
     intro E1 H1 hI1
     refine (V1.call rfl rfl rfl cok_152 rfl (ok_spec_l6End hh3) rfl (ltb rfl) ?_)
     rintro _ _ ⟨rfl, rfl⟩
     exact rfl
    refine WalkP.nil ?_
    refine NodeS.branch [7] (inCons 1 rfl inNil) rfl rfl rfl ⟨?_, trivial⟩
    ·
     refine ⟨_, _, _, _, rfl, rfl, rfl, (⟨_, _, rfl, rfl, rfl⟩), fun E1 => ?_⟩
     refine (V1.buildSliceT (f := encInt) ([y3] : List Int) rfl rfl esz_30 zk_3 rfl rfl rfl rfl rfl rfl rfl (ltb rfl) ?_)
     intro b7
     refine ⟨_, _, rfl, ?_⟩
     refine WalkP.nil ?_
     refine NodeS.fin (inCons 2 rfl inNil) rfl rfl rfl (⟨_, _, rfl, rfl, ⟨_, _, rfl, rfl, ⟨_, _, rfl, rfl, ⟨_, _, rfl, rfl, ⟨_, _, rfl, rfl, rfl⟩⟩⟩⟩⟩) ?_
     refine VO.cons rfl (V1.appendMap (k := 1) (f := encInt) (l := out_0) (m := ([y3] : List Int)) rfl rfl rfl rfl rfl esz_30 eby_30 zk_3 rfl rfl rfl (SrcOf.srMap (k := 0) rfl isl_30) hh4 (ltb rfl) ?_)
     intro b8
     refine VO.cons rfl (V1.assign rfl rfl rfl (ltb rfl) ?_)
     refine VO.nil ?_
     refine V.region ?_
     refine VO.cons rfl (V1.move rfl rfl rfl (ltb rfl) ?_)
     refine VO.cons rfl (V1.int rfl rfl rfl rfl rfl (ltb rfl) ?_)
     refine VO.cons rfl (V1.assign rfl rfl rfl (ltb rfl) ?_)
     refine VO.nil ?_
     exact ⟨(m0, ((out_0 ++ ([y3] : List Int)), (IntKind.i64.wrap (i + (1 : Int)))), b8), hl1 _ (Option.some.inj hm1).symm, Nat.lt_succ_self _, Keeps.mk (ks := [0, 2]) rfl ⟨rfl, rfl, rfl, rfl, trivial⟩ (⟨_, _, rfl, rfl, ⟨_, _, rfl, rfl, rfl⟩⟩) rfl⟩
   ·
    replace hm1 := cond_f hc1 hm1
    refine V.exit ?_
    obtain rfl := hr1 _ (Option.some.inj hm1).symm
    exact ⟨(out_0, b4), rfl, Keeps.mk (ks := [0]) rfl ⟨rfl, trivial⟩ (⟨_, _, rfl, rfl, rfl⟩) rfl⟩
  ·
   rintro ⟨out_, b3⟩ rfl
   try dsimp only at hm0
   refine V.seq ?_
   refine V.region ?_
   refine VO.cons rfl (V1.move rfl rfl rfl (ltb rfl) ?_)
   refine VO.cons rfl (V1.assign rfl rfl rfl (ltb rfl) ?_)
   refine VO.cons rfl (V1.assign rfl rfl rfl (ltb rfl) ?_)
   refine VO.nil ?_
   refine V.keep 35 [4, 5] [0] (E0 := [(4, .sref b3 1 0 (List.length out_)), (5, .bool true)]) (H0 := [(b3, ⟨1, List.map encInt out_⟩)]) rfl (⟨_, _, rfl, rfl, ⟨_, _, rfl, rfl, rfl⟩⟩) (⟨_, _, rfl, rfl, rfl⟩) rfl ?_
   refine V.ret ?_
   obtain rfl := Option.some.inj hm0
   exact ⟨_, _, ⟨_, _, rfl, rfl, ⟨_, _, rfl, rfl, rfl⟩⟩, List.Sublist.refl _, b3, rfl, rfl⟩

theorem ok_laws_vInts {ρ0 ρ1 rn : Nat} {a : List Int} {b_ : List Int} {r : Bool} (h : M.laws_vInts a b_ = some r) : Does Try.prog 16 [.vl ρ0 1 (List.map encInt a), .vl ρ1 1 (List.map encInt b_)] [] rn (fun x H => x = .bool r ∧ H = []) := by
 have hm0 := h; clear h; unfold M.laws_vInts at hm0
 try dsimp only at hm0
 refine Does.intro (N := 26) Try.func16 rfl rfl rfl rfl ?_
 intro w0 S0
 refine V.seq ?_
 refine V.region ?_
 refine VO.cons rfl (V1.assign rfl rfl rfl (ltb rfl) ?_)
 refine VO.nil ?_
 refine V.seq ?_
 refine V.seq ?_
 refine V.region ?_
 refine VO.cons rfl (V1.move rfl rfl rfl (ltb rfl) ?_)
 refine VO.cons rfl (V1.lenMap rfl rfl rfl rfl rfl rfl isl_30 (ltb rfl) ?_)
 refine VO.cons rfl (V1.move rfl rfl rfl (ltb rfl) ?_)
 refine VO.cons rfl (V1.lenMap rfl rfl rfl rfl rfl rfl isl_30 (ltb rfl) ?_)
 refine VO.cons rfl (V1.int rfl rfl rfl rfl rfl (ltb rfl) ?_)
 refine VO.nil ?_
 refine V.keep 26 [0, 1, 10] [] (E0 := [(0, .vl ρ0 1 (List.map encInt a)), (1, .vl ρ1 1 (List.map encInt b_)), (10, .bool ((a.length : Int) != (b_.length : Int)))]) (H0 := []) rfl (⟨_, _, rfl, rfl, ⟨_, _, rfl, rfl, ⟨_, _, rfl, rfl, rfl⟩⟩⟩) (rfl) rfl ?_
 refine V.cond rfl (fun hc0 => ?_) (fun hc0 => ?_)
 ·
  replace hm0 := cond_t hc0 hm0
  refine V.seq ?_
  refine V.region ?_
  refine VO.cons rfl (V1.assign rfl rfl rfl (ltb rfl) ?_)
  refine VO.nil ?_
  refine V.ret ?_
  obtain rfl := Option.some.inj hm0
  exact ⟨_, [], ⟨_, _, rfl, rfl, rfl⟩, List.nil_sublist _, rfl, rfl⟩
 ·
  replace hm0 := cond_f hc0 hm0
  refine V.skip ?_
  refine V.seq ?_
  refine V.seq ?_
  refine V.region ?_
  refine VO.cons rfl (V1.assign rfl rfl rfl (ltb rfl) ?_)
  refine VO.nil ?_
  replace hm0 := bindO hm0; rcases hm0 with ⟨e0, he1, hm0⟩
  refine V.cutT (D := (Unit) × (Unit)) (fun ⟨_, _⟩ => ⟨26, [], []⟩) (fun ⟨_, _⟩ => (.inl () = e0)) ?_ ?_
  ·
   refine V.block ?_
   refine V.keep 26 [5, 0, 1] [] (E0 := [(5, .int .i64 (0 : Int)), (0, .vl ρ0 1 (List.map encInt a)), (1, .vl ρ1 1 (List.map encInt b_))]) (H0 := []) rfl (⟨_, _, rfl, rfl, ⟨_, _, rfl, rfl, ⟨_, _, rfl, rfl, rfl⟩⟩⟩) (rfl) rfl ?_
   refine V.loopE (D := Nat × (Int) × (Unit)) (fun ⟨n0, i, _⟩ => [(5, .int .i64 i)]) (fun ⟨n0, i, _⟩ => []) (fun ⟨n0, i, _⟩ => loopO (M.laws_vInts_l0 a b_) n0 i = some e0) (fun ⟨n0, _, _⟩ => n0) (rounds, (0 : Int), ()) rfl he1 ?_
   rintro ⟨n0, i, _⟩ hP0
   obtain ⟨m0, y0, rfl, hm1, hl1, hr1⟩ := loop_head hP0
   unfold M.laws_vInts_l0 at hm1; dsimp only at hm1
   show V _ _ _ ⟨26, [(5, .int .i64 i), (0, .vl ρ0 1 (List.map encInt a)), (1, .vl ρ1 1 (List.map encInt b_))], []⟩
   refine V.seq ?_
   refine V.seq ?_
   refine V.region ?_
   refine VO.cons rfl (V1.move rfl rfl rfl (ltb rfl) ?_)
   refine VO.cons rfl (V1.move rfl rfl rfl (ltb rfl) ?_)
   refine VO.cons rfl (V1.lenMap rfl rfl rfl rfl rfl rfl isl_30 (ltb rfl) ?_)
   refine VO.cons rfl (V1.int rfl rfl rfl rfl rfl (ltb rfl) ?_)
   refine VO.nil ?_
   refine V.cond rfl (fun hc1 => ?_) (fun hc1 => ?_)
   ·
    replace hm1 := cond_t hc1 hm1
    refine V.skip ?_
    refine V.keep 26 [0, 1, 5] [] (E0 := [(0, .vl ρ0 1 (List.map encInt a)), (1, .vl ρ1 1 (List.map encInt b_)), (5, .int .i64 i)]) (H0 := []) rfl (⟨_, _, rfl, rfl, ⟨_, _, rfl, rfl, ⟨_, _, rfl, rfl, rfl⟩⟩⟩) (rfl) rfl ?_
    refine V.seq ?_
    refine V.block ?_
    refine V.seq ?_
    replace hm1 := asrt_some hm1; rcases hm1 with ⟨hh0, hm1⟩
    replace hm1 := asrt_some hm1; rcases hm1 with ⟨hh1, hm1⟩
    refine V.regionM 26 8 [⟨[(0, none)], [], none⟩, ⟨[(5, none)], [], none⟩, ⟨[(17, some 1), (18, some 0)], [], none⟩, ⟨[(19, some 0)], [], none⟩, ⟨[(1, none)], [], none⟩, ⟨[(5, none)], [], none⟩, ⟨[(21, some 1), (22, some 0)], [], none⟩, ⟨[(23, some 0)], [], none⟩] [(0, none), (1, none), (5, none), (20, some 4), (24, some 0)] (⟨_, rfl, ⟨_, rfl, ⟨_, rfl, ⟨_, rfl, ⟨_, rfl, ⟨_, rfl, ⟨_, rfl, ⟨_, rfl, ⟨rfl, rfl⟩⟩⟩⟩⟩⟩⟩⟩⟩) mixed_orders rfl (by decide +kernel) (fun hck6 => ?_)
    refine VP.step (p := ?pv65) rfl rfl rfl (⟨_, _, rfl, rfl, rfl⟩) ?hv65 ?rest65 hck6
    case hv65 =>
     intro E1
     refine (V1.move rfl rfl rfl (ltb rfl) ?_)
     exact rfl
    refine VP.step (p := ?pv66) rfl rfl rfl (⟨_, _, rfl, rfl, rfl⟩) ?hv66 ?rest66 hck6
    case hv66 =>
     intro E1
     refine (V1.move rfl rfl rfl (ltb rfl) ?_)
     exact rfl
    refine VP.step (p := ?pv67) rfl rfl rfl (⟨_, _, rfl, rfl, ⟨_, _, rfl, rfl, rfl⟩⟩) ?hv67 ?rest67 hck6
    case hv67 =>
     intro E1
     refine (V1.indexI rfl rfl esz_30 rfl rfl hh0 (ltb rfl) ?_)
     exact rfl
    refine VP.step (p := ?pv68) rfl rfl rfl (⟨_, _, rfl, rfl, rfl⟩) ?hv68 ?rest68 hck6
    case hv68 =>
     intro E1
     refine (V1.loadPin rfl rfl tyk_3 rfl rfl (ltb rfl) ?_)
     exact rfl
    refine VP.step (p := ?pv69) rfl rfl rfl (⟨_, _, rfl, rfl, rfl⟩) ?hv69 ?rest69 hck6
    case hv69 =>
     intro E1
     refine (V1.move rfl rfl rfl (ltb rfl) ?_)
     exact rfl
    refine VP.step (p := ?pv70) rfl rfl rfl (⟨_, _, rfl, rfl, rfl⟩) ?hv70 ?rest70 hck6
    case hv70 =>
     intro E1
     refine (V1.move rfl rfl rfl (ltb rfl) ?_)
     exact rfl
    refine VP.step (p := ?pv71) rfl rfl rfl (⟨_, _, rfl, rfl, ⟨_, _, rfl, rfl, rfl⟩⟩) ?hv71 ?rest71 hck6
    case hv71 =>
     intro E1
     refine (V1.indexI rfl rfl esz_30 rfl rfl hh1 (ltb rfl) ?_)
     exact rfl
    refine VP.step (p := ?pv72) rfl rfl rfl (⟨_, _, rfl, rfl, rfl⟩) ?hv72 ?rest72 hck6
    case hv72 =>
     intro E1
     refine (V1.loadPin rfl rfl tyk_3 rfl rfl (ltb rfl) ?_)
     exact rfl
    refine VP.fin rfl (⟨_, _, rfl, rfl, ⟨_, _, rfl, rfl, ⟨_, _, rfl, rfl, ⟨_, _, rfl, rfl, ⟨_, _, rfl, rfl, rfl⟩⟩⟩⟩⟩) ?_
    refine VO.cons rfl (V1.int rfl rfl rfl rfl rfl (ltb rfl) ?_)
    refine VO.nil ?_
    refine V.cond rfl (fun hc2 => ?_) (fun hc2 => ?_)
    ·
     replace hm1 := cond_t hc2 hm1
     refine V.seq ?_
     refine V.region ?_
     refine VO.cons rfl (V1.assign rfl rfl rfl (ltb rfl) ?_)
     refine VO.nil ?_
     refine V.ret ?_
     obtain rfl := hr1 _ (Option.some.inj hm1).symm
     change some _ = some _ at hm0
     obtain rfl := Option.some.inj hm0
     exact ⟨_, [], ⟨_, _, rfl, rfl, rfl⟩, List.nil_sublist _, rfl, rfl⟩
    ·
     replace hm1 := cond_f hc2 hm1
     refine V.skip ?_
     refine V.region ?_
     refine VO.cons rfl (V1.move rfl rfl rfl (ltb rfl) ?_)
     refine VO.cons rfl (V1.int rfl rfl rfl rfl rfl (ltb rfl) ?_)
     refine VO.cons rfl (V1.assign rfl rfl rfl (ltb rfl) ?_)
     refine VO.nil ?_
     exact ⟨(m0, (IntKind.i64.wrap (i + (1 : Int))), ()), hl1 _ (Option.some.inj hm1).symm, Nat.lt_succ_self _, Keeps.mk (ks := []) rfl ⟨rfl, rfl, rfl, trivial⟩ (rfl) rfl⟩
   ·
    replace hm1 := cond_f hc1 hm1
    refine V.exit ?_
    obtain rfl := hr1 _ (Option.some.inj hm1).symm
    exact ⟨((), ()), rfl, Keeps.mk (ks := []) rfl trivial (rfl) rfl⟩
  ·
   rintro ⟨_, _⟩ rfl
   try dsimp only at hm0
   refine V.seq ?_
   refine V.region ?_
   refine VO.cons rfl (V1.assign rfl rfl rfl (ltb rfl) ?_)
   refine VO.nil ?_
   refine V.ret ?_
   obtain rfl := Option.some.inj hm0
   exact ⟨_, [], ⟨_, _, rfl, rfl, rfl⟩, List.nil_sublist _, rfl, rfl⟩

theorem ok_impl_deciding {ρ0 ρ1 rn : Nat} {r_ : Record} {schedule : List Rule} {r : Rule × Int × Bool} (h : M.impl_deciding r_ schedule = some r) : Does Try.prog 153 [encRecord ρ0 r_, .vl ρ1 4 (List.map encRule schedule)] [] rn (fun x H => x = .tup [encRule r.1, .int .i64 r.2.1, .bool r.2.2] ∧ H = []) := by
 have hm0 := h; clear h; unfold M.impl_deciding at hm0
 try dsimp only at hm0
 refine Does.intro (N := 50) Try.func153 rfl rfl rfl rfl ?_
 intro w0 S0
 refine V.seq ?_
 refine V.region ?_
 refine VO.cons rfl (V1.boxN (n := 4) rfl rfl rfl rfl rfl (ltb rfl) ?_)
 intro b0
 refine VO.cons rfl (V1.alloc rfl rfl zk_37 (ltb rfl) ?_)
 intro b1
 refine VO.cons rfl (V1.assign rfl rfl rfl (ltb rfl) ?_)
 refine VO.cons rfl (V1.assign rfl rfl rfl (ltb rfl) ?_)
 refine VO.nil ?_
 refine V.seq ?_
 refine V.region ?_
 refine VO.cons rfl (V1.alloc rfl rfl zk_37 (ltb rfl) ?_)
 intro b2
 refine VO.nil ?_
 refine V.seq ?_
 refine V.region ?_
 refine VO.cons rfl (V1.assign rfl rfl rfl (ltb rfl) ?_)
 refine VO.nil ?_
 refine V.seq ?_
 refine V.seq ?_
 replace hm0 := bindO hm0; rcases hm0 with ⟨y0, hh0, hm0⟩
 refine V.region ?_
 refine VO.cons rfl (V1.move rfl rfl rfl (ltb rfl) ?_)
 refine VO.cons rfl (V1.fieldRef rfl rfl fo_26_1 rfl (ltb rfl) ?_)
 refine VO.cons rfl (V1.loadRef (k := 2) rfl rfl tyk_3 rfl rfl rfl rfl rfl (ltb rfl) ?_)
 refine VO.cons rfl (V1.permK (V1.call rfl rfl rfl cok_148 rfl (ok_impl_rulesFor hh0) rfl (ltb rfl) ?_))
 rintro _ _ ⟨ob0, hob0, rfl, rfl⟩
 refine ⟨_, ?_, Keeps.optBack (n := 4) (ob := ob0) (xs := List.map encRule y0) (H1 := []) (H2 := [(b2, ⟨4, [.agg [.int .i64 (0 : Int), .int .i64 (0 : Int), .int .i64 (0 : Int), .int .i64 (0 : Int)]]⟩), (b1, ⟨4, [.agg [.int .i64 (0 : Int), .int .i64 (0 : Int), .int .i64 (0 : Int), .int .i64 (0 : Int)]]⟩), (b0, ⟨4, [encRecord ρ0 r_]⟩)]) rfl⟩
 refine VO.weakenK (Keeps.optFront (n := 4) (ob := ob0) (xs := List.map encRule y0) (H1 := [(b2, ⟨4, [.agg [.int .i64 (0 : Int), .int .i64 (0 : Int), .int .i64 (0 : Int), .int .i64 (0 : Int)]]⟩), (b1, ⟨4, [.agg [.int .i64 (0 : Int), .int .i64 (0 : Int), .int .i64 (0 : Int), .int .i64 (0 : Int)]]⟩), (b0, ⟨4, [encRecord ρ0 r_]⟩)]) rfl) ?_
 refine VO.weakenK (Keeps.optVl 15 [] rn (f := encRule) (l := y0) (ob := ob0) (H1 := []) hob0 rfl rfl ⟨rfl, trivial⟩ (fun _ => rfl) rfl iNil) ?_
 refine VO.cons rfl (V1.lenMap rfl rfl rfl rfl rfl rfl isl_27 (ltb rfl) ?_)
 refine VO.cons rfl (V1.move rfl rfl rfl (ltb rfl) ?_)
 refine VO.nil ?_
 refine V.keep 50 [2, 4, 7, 8, 15, 16, 17] [0, 1, 2] (E0 := [(2, .ref b0 4 0 0), (4, .ref b1 4 0 0), (7, .ref b2 4 0 0), (8, .int .i64 (-1 : Int)), (15, .vl rn 4 (List.map encRule y0)), (16, .int .i64 (y0.length : Int)), (17, .int .i64 (0 : Int))]) (H0 := [(b2, ⟨4, [.agg [.int .i64 (0 : Int), .int .i64 (0 : Int), .int .i64 (0 : Int), .int .i64 (0 : Int)]]⟩), (b1, ⟨4, [.agg [.int .i64 (0 : Int), .int .i64 (0 : Int), .int .i64 (0 : Int), .int .i64 (0 : Int)]]⟩), (b0, ⟨4, [encRecord ρ0 r_]⟩)]) rfl (⟨_, _, rfl, rfl, ⟨_, _, rfl, rfl, ⟨_, _, rfl, rfl, ⟨_, _, rfl, rfl, ⟨_, _, rfl, rfl, ⟨_, _, rfl, rfl, ⟨_, _, rfl, rfl, rfl⟩⟩⟩⟩⟩⟩⟩) (⟨_, _, rfl, rfl, ⟨_, _, rfl, rfl, ⟨_, _, rfl, rfl, rfl⟩⟩⟩) rfl ?_
 replace hm0 := bindO hm0; rcases hm0 with ⟨e0, he1, hm0⟩
 refine V.cutT (D := (Int × Rule) × (Unit)) (fun ⟨⟨due, best⟩, _⟩ => ⟨50, [(8, .int .i64 due), (4, .ref b1 4 0 0), (7, .ref b2 4 0 0)], [(b2, ⟨4, [encRule best]⟩), (b1, ⟨4, [.agg [.int .i64 (0 : Int), .int .i64 (0 : Int), .int .i64 (0 : Int), .int .i64 (0 : Int)]]⟩)]⟩) (fun ⟨⟨due, best⟩, _⟩ => (.inl (due, best) = e0)) ?_ ?_
 ·
  refine V.block ?_
  refine V.keep 50 [8, 17, 2, 4, 7, 15, 16] [0, 1, 2] (E0 := [(8, .int .i64 (-1 : Int)), (17, .int .i64 (0 : Int)), (2, .ref b0 4 0 0), (4, .ref b1 4 0 0), (7, .ref b2 4 0 0), (15, .vl rn 4 (List.map encRule y0)), (16, .int .i64 (y0.length : Int))]) (H0 := [(b2, ⟨4, [.agg [.int .i64 (0 : Int), .int .i64 (0 : Int), .int .i64 (0 : Int), .int .i64 (0 : Int)]]⟩), (b1, ⟨4, [.agg [.int .i64 (0 : Int), .int .i64 (0 : Int), .int .i64 (0 : Int), .int .i64 (0 : Int)]]⟩), (b0, ⟨4, [encRecord ρ0 r_]⟩)]) rfl (⟨_, _, rfl, rfl, ⟨_, _, rfl, rfl, ⟨_, _, rfl, rfl, ⟨_, _, rfl, rfl, ⟨_, _, rfl, rfl, ⟨_, _, rfl, rfl, ⟨_, _, rfl, rfl, rfl⟩⟩⟩⟩⟩⟩⟩) (⟨_, _, rfl, rfl, ⟨_, _, rfl, rfl, ⟨_, _, rfl, rfl, rfl⟩⟩⟩) rfl ?_
  refine V.loopE (D := Nat × (Int × Int × Rule) × (Unit)) (fun ⟨n0, ⟨due0, v, best0⟩, _⟩ => [(8, .int .i64 due0), (17, .int .i64 v)]) (fun ⟨n0, ⟨due0, v, best0⟩, _⟩ => [(b2, ⟨4, [encRule best0]⟩)]) (fun ⟨n0, ⟨due0, v, best0⟩, _⟩ => loopO (M.impl_deciding_l0 r_ y0) n0 (due0, v, best0) = some e0) (fun ⟨n0, _, _⟩ => n0) (rounds, ((-1 : Int), (0 : Int), (⟨(0 : Int), (0 : Int), (0 : Int), (0 : Int)⟩ : Rule)), ()) rfl he1 ?_
  rintro ⟨n0, ⟨due0, v, best0⟩, _⟩ hP0
  obtain ⟨m0, y1, rfl, hm1, hl1, hr1⟩ := loop_head hP0
  unfold M.impl_deciding_l0 at hm1; dsimp only at hm1
  show V _ _ _ ⟨50, [(8, .int .i64 due0), (17, .int .i64 v), (2, .ref b0 4 0 0), (4, .ref b1 4 0 0), (7, .ref b2 4 0 0), (15, .vl rn 4 (List.map encRule y0)), (16, .int .i64 (y0.length : Int))], [(b2, ⟨4, [encRule best0]⟩), (b1, ⟨4, [.agg [.int .i64 (0 : Int), .int .i64 (0 : Int), .int .i64 (0 : Int), .int .i64 (0 : Int)]]⟩), (b0, ⟨4, [encRecord ρ0 r_]⟩)]⟩
  refine V.seq ?_
  refine V.region ?_
  refine VO.cons rfl (V1.int rfl rfl rfl rfl rfl (ltb rfl) ?_)
  refine VO.nil ?_
  refine V.seq ?_
  refine V.cond rfl (fun hc0 => ?_) (fun hc0 => ?_)
  ·
   replace hm1 := cond_t hc0 hm1
   refine V.skip ?_
   refine V.seq ?_
   replace hm1 := bindO hm1; rcases hm1 with ⟨j0, hm2, hm1⟩
   refine V.cutT (D := (Int × Rule) × (Unit)) (fun ⟨⟨due1, best1⟩, _⟩ => ⟨50, [(8, .int .i64 due1), (2, .ref b0 4 0 0), (4, .ref b1 4 0 0), (7, .ref b2 4 0 0), (15, .vl rn 4 (List.map encRule y0)), (16, .int .i64 (y0.length : Int)), (17, .int .i64 v)], [(b2, ⟨4, [encRule best1]⟩), (b1, ⟨4, [.agg [.int .i64 (0 : Int), .int .i64 (0 : Int), .int .i64 (0 : Int), .int .i64 (0 : Int)]]⟩), (b0, ⟨4, [encRecord ρ0 r_]⟩)]⟩) (fun ⟨⟨due1, best1⟩, _⟩ => (.inl (due1, best1) = j0)) ?_ ?_
   ·
    refine V.block ?_
    refine V.seq ?_
    replace hm2 := asrt_some hm2; rcases hm2 with ⟨hh1, hm2⟩
    refine V.region ?_
    refine VO.cons rfl (V1.indexI rfl rfl esz_27 rfl rfl hh1 (ltb rfl) ?_)
    refine VO.cons rfl (V1.loadPinAll rfl rfl tyk_37 rfl rfl (ltb rfl) ?_)
    refine VO.cons rfl (V1.alloc rfl rfl zk_37 (ltb rfl) ?_)
    intro b3
    refine VO.cons rfl (V1.storeRefAll (k := 0) rfl rfl tyk_37 rfl rfl rfl rfl rfl rfl ?_)
    refine VO.nil ?_
    refine V.seq ?_
    replace hm2 := bindO hm2; rcases hm2 with ⟨y2, hh2, hm2⟩
    refine V.region ?_
    refine VO.cons rfl (V1.loadRefAll (k := 3) rfl rfl tyk_26 rfl rfl rfl rfl rfl (ltb rfl) ?_)
    refine VO.cons rfl (V1.loadRefAll (k := 0) rfl rfl tyk_37 rfl rfl rfl rfl rfl (ltb rfl) ?_)
    refine VO.cons rfl (V1.call rfl rfl rfl cok_149 rfl (ok_impl_endOf hh2) rfl (ltb rfl) ?_)
    rintro _ _ ⟨rfl, rfl⟩
    refine VO.cons rfl (V1.assign rfl rfl rfl (ltb rfl) ?_)
    refine VO.nil ?_
    refine V.keep 50 [2, 4, 7, 8, 10, 11, 15, 16, 17] [0, 1, 2, 3] (E0 := [(2, .ref b0 4 0 0), (4, .ref b1 4 0 0), (7, .ref b2 4 0 0), (8, .int .i64 due0), (10, .ref b3 4 0 0), (11, .int .i64 y2), (15, .vl rn 4 (List.map encRule y0)), (16, .int .i64 (y0.length : Int)), (17, .int .i64 v)]) (H0 := [(b3, ⟨4, [encRule (y0.getD (Int.toNat v) default)]⟩), (b2, ⟨4, [encRule best0]⟩), (b1, ⟨4, [.agg [.int .i64 (0 : Int), .int .i64 (0 : Int), .int .i64 (0 : Int), .int .i64 (0 : Int)]]⟩), (b0, ⟨4, [encRecord ρ0 r_]⟩)]) rfl (⟨_, _, rfl, rfl, ⟨_, _, rfl, rfl, ⟨_, _, rfl, rfl, ⟨_, _, rfl, rfl, ⟨_, _, rfl, rfl, ⟨_, _, rfl, rfl, ⟨_, _, rfl, rfl, ⟨_, _, rfl, rfl, ⟨_, _, rfl, rfl, rfl⟩⟩⟩⟩⟩⟩⟩⟩⟩) (⟨_, _, rfl, rfl, ⟨_, _, rfl, rfl, ⟨_, _, rfl, rfl, ⟨_, _, rfl, rfl, rfl⟩⟩⟩⟩) rfl ?_
    refine V.seq ?_
    refine V.seq ?_
    refine V.region ?_
    refine VO.cons rfl (V1.move rfl rfl rfl (ltb rfl) ?_)
    refine VO.cons rfl (V1.int rfl rfl rfl rfl rfl (ltb rfl) ?_)
    refine VO.nil ?_
    refine V.cond rfl (fun hc1 => ?_) (fun hc1 => ?_)
    ·
     replace hm2 := cond_t hc1 hm2
     refine V.seq ?_
     refine V.region ?_
     refine VO.cons rfl (V1.build rfl rfl zk_37 pl_37 rfl rfl (ltb rfl) ?_)
     refine VO.cons rfl (V1.storeRefAll (k := 2) rfl rfl tyk_37 rfl rfl rfl rfl rfl rfl ?_)
     refine VO.cons rfl (V1.assign rfl rfl rfl (ltb rfl) ?_)
     refine VO.cons rfl (V1.assign rfl rfl rfl (ltb rfl) ?_)
     refine VO.nil ?_
     refine V.ret ?_
     obtain rfl := Option.some.inj hm2
     change some _ = some _ at hm1
     obtain rfl := hr1 _ (Option.some.inj hm1).symm
     change some _ = some _ at hm0
     obtain rfl := Option.some.inj hm0
     exact ⟨_, [], ⟨_, _, rfl, ⟨_, _, 2, _, rfl, rfl, rfl, rfl, tyk_37, rfl⟩, ⟨_, _, rfl, rfl, ⟨_, _, rfl, rfl, rfl⟩⟩⟩, List.nil_sublist _, rfl, rfl⟩
    ·
     replace hm2 := cond_f hc1 hm2
     refine V.skip ?_
     refine V.seq ?_
     refine V.region ?_
     refine VO.cons rfl (V1.move rfl rfl rfl (ltb rfl) ?_)
     refine VO.cons rfl (V1.move rfl rfl rfl (ltb rfl) ?_)
     refine VO.cons rfl (V1.int rfl rfl rfl rfl rfl (ltb rfl) ?_)
     refine VO.cons rfl (V1.move rfl rfl rfl (ltb rfl) ?_)
     apply VO.or (n := 10) rfl rfl rfl rfl rfl rfl (ltb rfl) (.none rfl)
     ·
      intro hg0
      refine VO.step (.some rfl rfl rfl) (V1.move rfl rfl rfl (ltb rfl) ?_)
      refine VO.step (.some rfl rfl rfl) (V1.move rfl rfl rfl (ltb rfl) ?_)
      refine VO.step (.some rfl rfl rfl) (V1.int rfl rfl rfl rfl rfl (ltb rfl) ?_)
      refine VO.step (.some rfl rfl rfl) (V1.move rfl rfl rfl (ltb rfl) ?_)
      apply VO.and (n := 5) rfl rfl rfl rfl rfl rfl (ltb rfl) (.some rfl rfl rfl)
      ·
       intro hg1
       refine VO.step (.some rfl rfl rfl) (V1.fieldRef rfl rfl fo_37_3 rfl (ltb rfl) ?_)
       refine VO.step (.some rfl rfl rfl) (V1.loadRef (k := 0) rfl rfl tyk_3 rfl rfl rfl rfl rfl (ltb rfl) ?_)
       refine VO.step (.some rfl rfl rfl) (V1.fieldRef rfl rfl fo_37_3 rfl (ltb rfl) ?_)
       refine VO.step (.some rfl rfl rfl) (V1.loadRef (k := 1) rfl rfl tyk_3 rfl rfl rfl rfl rfl (ltb rfl) ?_)
       refine VO.step (.some rfl rfl rfl) (V1.int rfl rfl rfl rfl rfl (ltb rfl) ?_)
       exact VO.nil ⟨rfl, rfl, rfl, rfl, .inr ⟨rfl, .inr ⟨rfl, .inr ⟨rfl, .inr ⟨rfl, .inr ⟨rfl, .inr ⟨rfl, .inl rfl⟩⟩⟩⟩⟩⟩⟩
      exact VO.nil ⟨rfl, rfl, rfl, rfl, .inr ⟨rfl, .inr ⟨rfl, .inr ⟨rfl, .inr ⟨rfl, .inr ⟨rfl, .inr ⟨rfl, .inl rfl⟩⟩⟩⟩⟩⟩⟩
     refine VO.nil ?_
     refine V.keep 50 [2, 4, 7, 8, 10, 11, 15, 16, 17, 41] [0, 1, 2, 3] (E0 := [(2, .ref b0 4 0 0), (4, .ref b1 4 0 0), (7, .ref b2 4 0 0), (8, .int .i64 due0), (10, .ref b3 4 0 0), (11, .int .i64 y2), (15, .vl rn 4 (List.map encRule y0)), (16, .int .i64 (y0.length : Int)), (17, .int .i64 v), (41, .bool ((decide (y2 > due0)) || ((y2 == due0) && (decide (((y0.getD (Int.toNat v) default).Act) < best0.Act)))))]) (H0 := [(b3, ⟨4, [encRule (y0.getD (Int.toNat v) default)]⟩), (b2, ⟨4, [encRule best0]⟩), (b1, ⟨4, [.agg [.int .i64 (0 : Int), .int .i64 (0 : Int), .int .i64 (0 : Int), .int .i64 (0 : Int)]]⟩), (b0, ⟨4, [encRecord ρ0 r_]⟩)]) rfl (⟨_, _, rfl, rfl, ⟨_, _, rfl, rfl, ⟨_, _, rfl, rfl, ⟨_, _, rfl, rfl, ⟨_, _, rfl, rfl, ⟨_, _, rfl, rfl, ⟨_, _, rfl, rfl, ⟨_, _, rfl, rfl, ⟨_, _, rfl, rfl, ⟨_, _, rfl, rfl, rfl⟩⟩⟩⟩⟩⟩⟩⟩⟩⟩) (⟨_, _, rfl, rfl, ⟨_, _, rfl, rfl, ⟨_, _, rfl, rfl, ⟨_, _, rfl, rfl, rfl⟩⟩⟩⟩) rfl ?_
     refine V.cond rfl (fun hc2 => ?_) (fun hc2 => ?_)
     ·
      replace hm2 := cond_t hc2 hm2
      refine V.region ?_
      refine VO.cons rfl (V1.loadRefAll (k := 0) rfl rfl tyk_37 rfl rfl rfl rfl rfl (ltb rfl) ?_)
      refine VO.cons rfl (V1.move rfl rfl rfl (ltb rfl) ?_)
      refine VO.cons rfl (V1.storeRefAll (k := 1) rfl rfl tyk_37 rfl rfl rfl rfl rfl rfl ?_)
      refine VO.cons rfl (V1.assign rfl rfl rfl (ltb rfl) ?_)
      refine VO.nil ?_
      exact ⟨((y2, (y0.getD (Int.toNat v) default)), ()), Option.some.inj hm2, Keeps.mk (ks := [1, 2, 3]) rfl ⟨rfl, rfl, rfl, rfl, rfl, rfl, rfl, trivial⟩ (⟨_, _, rfl, rfl, ⟨_, _, rfl, rfl, ⟨_, _, rfl, rfl, rfl⟩⟩⟩) rfl⟩
     ·
      replace hm2 := cond_f hc2 hm2
      refine V.skip ?_
      exact ⟨((due0, best0), ()), Option.some.inj hm2, Keeps.mk (ks := [1, 2, 3]) rfl ⟨rfl, rfl, rfl, rfl, rfl, rfl, rfl, trivial⟩ (⟨_, _, rfl, rfl, ⟨_, _, rfl, rfl, ⟨_, _, rfl, rfl, rfl⟩⟩⟩) rfl⟩
   ·
    rintro ⟨⟨due1, best1⟩, _⟩ rfl
    try dsimp only at hm1
    refine V.region ?_
    refine VO.cons rfl (V1.int rfl rfl rfl rfl rfl (ltb rfl) ?_)
    refine VO.cons rfl (V1.move rfl rfl rfl (ltb rfl) ?_)
    refine VO.nil ?_
    exact ⟨(m0, (due1, (IntKind.i64.wrap (v + (1 : Int))), best1), ()), hl1 _ (Option.some.inj hm1).symm, Nat.lt_succ_self _, Keeps.mk (ks := [0, 1, 2]) rfl ⟨rfl, rfl, rfl, rfl, rfl, rfl, rfl, trivial⟩ (⟨_, _, rfl, rfl, ⟨_, _, rfl, rfl, ⟨_, _, rfl, rfl, rfl⟩⟩⟩) rfl⟩
  ·
   replace hm1 := cond_f hc0 hm1
   refine V.exit ?_
   obtain rfl := hr1 _ (Option.some.inj hm1).symm
   exact ⟨((due0, best0), ()), rfl, Keeps.mk (ks := [0, 1]) rfl ⟨rfl, rfl, rfl, trivial⟩ (⟨_, _, rfl, rfl, ⟨_, _, rfl, rfl, rfl⟩⟩) rfl⟩
 ·
  rintro ⟨⟨due, best⟩, _⟩ rfl
  try dsimp only at hm0
  refine V.seq ?_
  refine V.region ?_
  refine VO.cons rfl (V1.loadRefAll (k := 0) rfl rfl tyk_37 rfl rfl rfl rfl rfl (ltb rfl) ?_)
  refine VO.cons rfl (V1.move rfl rfl rfl (ltb rfl) ?_)
  refine VO.cons rfl (V1.maxI rfl rfl rfl rfl rfl rfl (ltb rfl) ?_)
  refine VO.cons rfl (V1.move rfl rfl rfl (ltb rfl) ?_)
  refine VO.cons rfl (V1.int rfl rfl rfl rfl rfl (ltb rfl) ?_)
  refine VO.cons rfl (V1.storeRefAll (k := 1) rfl rfl tyk_37 rfl rfl rfl rfl rfl rfl ?_)
  refine VO.cons rfl (V1.assign rfl rfl rfl (ltb rfl) ?_)
  refine VO.cons rfl (V1.assign rfl rfl rfl (ltb rfl) ?_)
  refine VO.nil ?_
  refine V.ret ?_
  obtain rfl := Option.some.inj hm0
  exact ⟨_, [], ⟨_, _, rfl, ⟨_, _, 1, _, rfl, rfl, rfl, rfl, tyk_37, rfl⟩, ⟨_, _, rfl, rfl, ⟨_, _, rfl, rfl, rfl⟩⟩⟩, List.nil_sublist _, rfl, rfl⟩

theorem ok_impl_DueDay {ρ0 ρ1 rn : Nat} {r_ : Record} {schedule : List Rule} {r : Int × Bool} (h : M.impl_DueDay r_ schedule = some r) : Does Try.prog 17 [encRecord ρ0 r_, .vl ρ1 4 (List.map encRule schedule)] [] rn (fun x H => x = .tup [.int .i64 r.1, .bool r.2] ∧ H = []) := by
 have hm0 := h; clear h; unfold M.impl_DueDay at hm0
 try dsimp only at hm0
 refine Does.intro (N := 22) Try.func17 rfl rfl rfl rfl ?_
 intro w0 S0
 refine V.seq ?_
 refine V.region ?_
 refine VO.cons rfl (V1.boxN (n := 4) rfl rfl rfl rfl rfl (ltb rfl) ?_)
 intro b0
 refine VO.cons rfl (V1.assign rfl rfl rfl (ltb rfl) ?_)
 refine VO.cons rfl (V1.assign rfl rfl rfl (ltb rfl) ?_)
 refine VO.nil ?_
 refine V.seq ?_
 refine V.seq ?_
 replace hm0 := bindO hm0; rcases hm0 with ⟨y0, hh0, hm0⟩
 refine V.region ?_
 refine VO.cons rfl (V1.loadRefAll (k := 0) rfl rfl tyk_26 rfl rfl rfl rfl rfl (ltb rfl) ?_)
 refine VO.cons rfl (V1.move rfl rfl rfl (ltb rfl) ?_)
 refine VO.cons rfl (V1.call rfl rfl rfl cok_147 rfl (ok_impl_areBoth hh0) rfl (ltb rfl) ?_)
 rintro _ _ ⟨rfl, rfl⟩
 refine VO.cons rfl (V1.not rfl rfl rfl (ltb rfl) ?_)
 refine VO.nil ?_
 refine V.keep 22 [1, 2, 12] [0] (E0 := [(1, .vl ρ1 4 (List.map encRule schedule)), (2, .ref b0 4 0 0), (12, .bool (!y0))]) (H0 := [(b0, ⟨4, [encRecord ρ0 r_]⟩)]) rfl (⟨_, _, rfl, rfl, ⟨_, _, rfl, rfl, ⟨_, _, rfl, rfl, rfl⟩⟩⟩) (⟨_, _, rfl, rfl, rfl⟩) rfl ?_
 refine V.cond rfl (fun hc0 => ?_) (fun hc0 => ?_)
 ·
  replace hm0 := cond_t hc0 hm0
  refine V.seq ?_
  refine V.region ?_
  refine VO.cons rfl (V1.assign rfl rfl rfl (ltb rfl) ?_)
  refine VO.cons rfl (V1.assign rfl rfl rfl (ltb rfl) ?_)
  refine VO.nil ?_
  refine V.ret ?_
  obtain rfl := Option.some.inj hm0
  exact ⟨_, [], ⟨_, _, rfl, rfl, ⟨_, _, rfl, rfl, rfl⟩⟩, List.nil_sublist _, rfl, rfl⟩
 ·
  replace hm0 := cond_f hc0 hm0
  refine V.skip ?_
  refine V.seq ?_
  replace hm0 := bindO hm0; rcases hm0 with ⟨y1, hh1, hm0⟩
  refine V.region ?_
  refine VO.cons rfl (V1.loadRefAll (k := 0) rfl rfl tyk_26 rfl rfl rfl rfl rfl (ltb rfl) ?_)
  refine VO.cons rfl (V1.move rfl rfl rfl (ltb rfl) ?_)
  refine VO.cons rfl (V1.call rfl rfl rfl cok_153 rfl (ok_impl_deciding hh1) rfl (ltb rfl) ?_)
  rintro _ _ ⟨rfl, rfl⟩
  refine VO.cons rfl (V1.move rfl rfl rfl (ltb rfl) ?_)
  refine VO.cons rfl (V1.extract rfl rfl rfl rfl (ltb rfl) ?_)
  refine VO.cons rfl (V1.extract rfl rfl rfl rfl (ltb rfl) ?_)
  refine VO.cons rfl (V1.extract rfl rfl rfl rfl (ltb rfl) ?_)
  refine VO.cons rfl (V1.alloc rfl rfl zk_37 (ltb rfl) ?_)
  intro b1
  refine VO.cons rfl (V1.storeRefAll (k := 0) rfl rfl tyk_37 rfl rfl rfl rfl rfl rfl ?_)
  refine VO.cons rfl (V1.assign rfl rfl rfl (ltb rfl) ?_)
  refine VO.cons rfl (V1.assign rfl rfl rfl (ltb rfl) ?_)
  refine VO.nil ?_
  refine V.keep 22 [7, 8] [] (E0 := [(7, .int .i64 y1.2.1), (8, .bool y1.2.2)]) (H0 := []) rfl (⟨_, _, rfl, rfl, ⟨_, _, rfl, rfl, rfl⟩⟩) (rfl) rfl ?_
  refine V.seq ?_
  refine V.region ?_
  refine VO.cons rfl (V1.move rfl rfl rfl (ltb rfl) ?_)
  refine VO.cons rfl (V1.move rfl rfl rfl (ltb rfl) ?_)
  refine VO.cons rfl (V1.assign rfl rfl rfl (ltb rfl) ?_)
  refine VO.cons rfl (V1.assign rfl rfl rfl (ltb rfl) ?_)
  refine VO.nil ?_
  refine V.ret ?_
  obtain rfl := Option.some.inj hm0
  exact ⟨_, [], ⟨_, _, rfl, rfl, ⟨_, _, rfl, rfl, rfl⟩⟩, List.nil_sublist _, rfl, rfl⟩

theorem ok_spec_l6Deciding {ρ0 ρ1 rn : Nat} {r_ : Record} {schedule : List Rule} {r : Rule × Int} (h : M.spec_l6Deciding r_ schedule = some r) : Does Try.prog 154 [encRecord ρ0 r_, .vl ρ1 4 (List.map encRule schedule)] [] rn (fun x H => x = .tup [encRule r.1, .int .i64 r.2] ∧ H = []) := by
 have hm0 := h; clear h; unfold M.spec_l6Deciding at hm0
 try dsimp only at hm0
 refine Does.intro (N := 56) Try.func154 rfl rfl rfl rfl ?_
 intro w0 S0
 refine V.seq ?_
 refine V.region ?_
 refine VO.cons rfl (V1.boxN (n := 4) rfl rfl rfl rfl rfl (ltb rfl) ?_)
 intro b0
 refine VO.cons rfl (V1.alloc rfl rfl zk_37 (ltb rfl) ?_)
 intro b1
 refine VO.cons rfl (V1.assign rfl rfl rfl (ltb rfl) ?_)
 refine VO.nil ?_
 refine V.seq ?_
 replace hm0 := bindO hm0; rcases hm0 with ⟨y0, hh0, hm0⟩
 refine V.region ?_
 refine VO.cons rfl (V1.move rfl rfl rfl (ltb rfl) ?_)
 refine VO.cons rfl (V1.fieldRef rfl rfl fo_26_1 rfl (ltb rfl) ?_)
 refine VO.cons rfl (V1.loadRef (k := 1) rfl rfl tyk_3 rfl rfl rfl rfl rfl (ltb rfl) ?_)
 refine VO.cons rfl (V1.call rfl rfl rfl cok_151 rfl (ok_spec_l4For hh0) rfl (ltb rfl) ?_)
 rintro _ _ ⟨b2, rfl, rfl⟩
 refine VO.weakenK (Keeps.freezeG 0 rn [(14, .vl rn 4 (List.map encRule y0))] [(b1, ⟨4, [.agg [.int .i64 (0 : Int), .int .i64 (0 : Int), .int .i64 (0 : Int), .int .i64 (0 : Int)]]⟩), (b0, ⟨4, [encRecord ρ0 r_]⟩)] (f := encRule) (l := y0) rfl (fun _ => rfl) ⟨⟨_, rfl, .here⟩, trivial⟩ ⟨_, _, rfl, rfl, .inl rfl, ⟨_, _, rfl, rfl, .inl rfl, rfl⟩⟩ rfl iNil) ?_
 refine VO.cons rfl (V1.assign rfl rfl rfl (ltb rfl) ?_)
 refine VO.nil ?_
 refine V.keep 56 [2, 4, 6] [0, 1] (E0 := [(2, .ref b0 4 0 0), (4, .ref b1 4 0 0), (6, .vl rn 4 (List.map encRule y0))]) (H0 := [(b1, ⟨4, [.agg [.int .i64 (0 : Int), .int .i64 (0 : Int), .int .i64 (0 : Int), .int .i64 (0 : Int)]]⟩), (b0, ⟨4, [encRecord ρ0 r_]⟩)]) rfl (⟨_, _, rfl, rfl, ⟨_, _, rfl, rfl, ⟨_, _, rfl, rfl, rfl⟩⟩⟩) (⟨_, _, rfl, rfl, ⟨_, _, rfl, rfl, rfl⟩⟩) rfl ?_
 refine V.seq ?_
 refine V.region ?_
 refine VO.cons rfl (V1.build rfl rfl zk_37 pl_37 rfl rfl (ltb rfl) ?_)
 refine VO.cons rfl (V1.alloc rfl rfl zk_37 (ltb rfl) ?_)
 intro b3
 refine VO.cons rfl (V1.storeRefAll (k := 0) rfl rfl tyk_37 rfl rfl rfl rfl rfl rfl ?_)
 refine VO.cons rfl (V1.assign rfl rfl rfl (ltb rfl) ?_)
 refine VO.nil ?_
 refine V.seq ?_
 refine V.seq ?_
 refine V.region ?_
 refine VO.cons rfl (V1.assign rfl rfl rfl (ltb rfl) ?_)
 refine VO.nil ?_
 replace hm0 := bindO hm0; rcases hm0 with ⟨e0, he1, hm0⟩
 refine V.cutT (D := (Int × Rule) × (Unit)) (fun ⟨⟨due, best⟩, _⟩ => ⟨56, [(8, .int .i64 due), (4, .ref b1 4 0 0), (7, .ref b3 4 0 0)], [(b3, ⟨4, [encRule best]⟩), (b1, ⟨4, [.agg [.int .i64 (0 : Int), .int .i64 (0 : Int), .int .i64 (0 : Int), .int .i64 (0 : Int)]]⟩)]⟩) (fun ⟨⟨due, best⟩, _⟩ => (.inl (due, best) = e0)) ?_ ?_
 ·
  refine V.block ?_
  refine V.keep 56 [8, 9, 2, 4, 6, 7] [0, 1, 2] (E0 := [(8, .int .i64 (-1 : Int)), (9, .int .i64 (0 : Int)), (2, .ref b0 4 0 0), (4, .ref b1 4 0 0), (6, .vl rn 4 (List.map encRule y0)), (7, .ref b3 4 0 0)]) (H0 := [(b3, ⟨4, [.agg [.int .i64 (0 : Int), .int .i64 (0 : Int), .int .i64 (0 : Int), .int .i64 (0 : Int)]]⟩), (b1, ⟨4, [.agg [.int .i64 (0 : Int), .int .i64 (0 : Int), .int .i64 (0 : Int), .int .i64 (0 : Int)]]⟩), (b0, ⟨4, [encRecord ρ0 r_]⟩)]) rfl (⟨_, _, rfl, rfl, ⟨_, _, rfl, rfl, ⟨_, _, rfl, rfl, ⟨_, _, rfl, rfl, ⟨_, _, rfl, rfl, ⟨_, _, rfl, rfl, rfl⟩⟩⟩⟩⟩⟩) (⟨_, _, rfl, rfl, ⟨_, _, rfl, rfl, ⟨_, _, rfl, rfl, rfl⟩⟩⟩) rfl ?_
  refine V.loopE (D := Nat × (Int × Int × Rule) × (Unit)) (fun ⟨n0, ⟨due0, i, best0⟩, _⟩ => [(8, .int .i64 due0), (9, .int .i64 i)]) (fun ⟨n0, ⟨due0, i, best0⟩, _⟩ => [(b3, ⟨4, [encRule best0]⟩)]) (fun ⟨n0, ⟨due0, i, best0⟩, _⟩ => loopO (M.spec_l6Deciding_l0 r_ y0) n0 (due0, i, best0) = some e0) (fun ⟨n0, _, _⟩ => n0) (rounds, ((-1 : Int), (0 : Int), (⟨(0 : Int), (0 : Int), (0 : Int), (0 : Int)⟩ : Rule)), ()) rfl he1 ?_
  rintro ⟨n0, ⟨due0, i, best0⟩, _⟩ hP0
  obtain ⟨m0, y1, rfl, hm1, hl1, hr1⟩ := loop_head hP0
  unfold M.spec_l6Deciding_l0 at hm1; dsimp only at hm1
  show V _ _ _ ⟨56, [(8, .int .i64 due0), (9, .int .i64 i), (2, .ref b0 4 0 0), (4, .ref b1 4 0 0), (6, .vl rn 4 (List.map encRule y0)), (7, .ref b3 4 0 0)], [(b3, ⟨4, [encRule best0]⟩), (b1, ⟨4, [.agg [.int .i64 (0 : Int), .int .i64 (0 : Int), .int .i64 (0 : Int), .int .i64 (0 : Int)]]⟩), (b0, ⟨4, [encRecord ρ0 r_]⟩)]⟩
  refine V.seq ?_
  refine V.seq ?_
  refine V.region ?_
  refine VO.cons rfl (V1.move rfl rfl rfl (ltb rfl) ?_)
  refine VO.cons rfl (V1.move rfl rfl rfl (ltb rfl) ?_)
  refine VO.cons rfl (V1.lenMap rfl rfl rfl rfl rfl rfl isl_27 (ltb rfl) ?_)
  refine VO.cons rfl (V1.int rfl rfl rfl rfl rfl (ltb rfl) ?_)
  refine VO.nil ?_
  refine V.cond rfl (fun hc0 => ?_) (fun hc0 => ?_)
  ·
   replace hm1 := cond_t hc0 hm1
   refine V.skip ?_
   refine V.keep 56 [2, 4, 6, 7, 8, 9] [0, 1, 2] (E0 := [(2, .ref b0 4 0 0), (4, .ref b1 4 0 0), (6, .vl rn 4 (List.map encRule y0)), (7, .ref b3 4 0 0), (8, .int .i64 due0), (9, .int .i64 i)]) (H0 := [(b3, ⟨4, [encRule best0]⟩), (b1, ⟨4, [.agg [.int .i64 (0 : Int), .int .i64 (0 : Int), .int .i64 (0 : Int), .int .i64 (0 : Int)]]⟩), (b0, ⟨4, [encRecord ρ0 r_]⟩)]) rfl (⟨_, _, rfl, rfl, ⟨_, _, rfl, rfl, ⟨_, _, rfl, rfl, ⟨_, _, rfl, rfl, ⟨_, _, rfl, rfl, ⟨_, _, rfl, rfl, rfl⟩⟩⟩⟩⟩⟩) (⟨_, _, rfl, rfl, ⟨_, _, rfl, rfl, ⟨_, _, rfl, rfl, rfl⟩⟩⟩) rfl ?_
   refine V.seq ?_
   replace hm1 := bindO hm1; rcases hm1 with ⟨j0, hm2, hm1⟩
   refine V.cutT (D := (Int × Rule) × (Unit)) (fun ⟨⟨due1, best1⟩, _⟩ => ⟨56, [(8, .int .i64 due1), (2, .ref b0 4 0 0), (4, .ref b1 4 0 0), (6, .vl rn 4 (List.map encRule y0)), (7, .ref b3 4 0 0), (9, .int .i64 i)], [(b3, ⟨4, [encRule best1]⟩), (b1, ⟨4, [.agg [.int .i64 (0 : Int), .int .i64 (0 : Int), .int .i64 (0 : Int), .int .i64 (0 : Int)]]⟩), (b0, ⟨4, [encRecord ρ0 r_]⟩)]⟩) (fun ⟨⟨due1, best1⟩, _⟩ => (.inl (due1, best1) = j0)) ?_ ?_
   ·
    refine V.block ?_
    refine V.seq ?_
    replace hm2 := asrt_some hm2; rcases hm2 with ⟨hh1, hm2⟩
    replace hm2 := bindO hm2; rcases hm2 with ⟨y2, hh2, hm2⟩
    refine V.regionM 56 5 [⟨[(2, none)], [], none⟩, ⟨[(6, none)], [], none⟩, ⟨[(9, none)], [], none⟩, ⟨[(23, some 1), (24, some 0)], [], none⟩, ⟨[(25, some 0)], [], none⟩] [(2, none), (4, none), (6, none), (7, none), (8, none), (9, none), (22, some 4), (26, some 0)] (⟨_, rfl, ⟨_, rfl, ⟨_, rfl, ⟨_, rfl, ⟨_, rfl, ⟨rfl, rfl⟩⟩⟩⟩⟩⟩) mixed_orders rfl (by decide +kernel) (fun hck6 => ?_)
    refine VP.step (p := ?pv484) rfl rfl rfl (⟨_, _, rfl, rfl, rfl⟩) ?hv484 ?rest484 hck6
    case hv484 =>
     intro E1
     refine (V1.loadRefAll (k := 2) rfl rfl tyk_26 rfl rfl rfl rfl rfl (ltb rfl) ?_)
     exact rfl
    refine VP.step (p := ?pv485) rfl rfl rfl (⟨_, _, rfl, rfl, rfl⟩) ?hv485 ?rest485 hck6
    case hv485 =>
     intro E1
     refine (V1.move rfl rfl rfl (ltb rfl) ?_)
     exact rfl
    refine VP.step (p := ?pv486) rfl rfl rfl (⟨_, _, rfl, rfl, rfl⟩) ?hv486 ?rest486 hck6
    case hv486 =>
     intro E1
     refine (V1.move rfl rfl rfl (ltb rfl) ?_)
     exact rfl
    refine VP.step (p := ?pv487) rfl rfl rfl (⟨_, _, rfl, rfl, ⟨_, _, rfl, rfl, rfl⟩⟩) ?hv487 ?rest487 hck6
    case hv487 =>
     intro E1
     refine (V1.indexI rfl rfl esz_27 rfl rfl hh1 (ltb rfl) ?_)
     exact rfl
    refine VP.step (p := ?pv488) rfl rfl rfl (⟨_, _, rfl, rfl, rfl⟩) ?hv488 ?rest488 hck6
    case hv488 =>
     intro E1
     refine (V1.loadPinAll rfl rfl tyk_37 rfl rfl (ltb rfl) ?_)
     exact rfl
    refine VP.fin rfl (⟨_, _, rfl, rfl, ⟨_, _, rfl, rfl, ⟨_, _, rfl, rfl, ⟨_, _, rfl, rfl, ⟨_, _, rfl, rfl, ⟨_, _, rfl, rfl, ⟨_, _, rfl, rfl, ⟨_, _, rfl, rfl, rfl⟩⟩⟩⟩⟩⟩⟩⟩) ?_
    refine VO.cons rfl (V1.call rfl rfl rfl cok_152 rfl (ok_spec_l6End hh2) rfl (ltb rfl) ?_)
    rintro _ _ ⟨rfl, rfl⟩
    refine VO.cons rfl (V1.assign rfl rfl rfl (ltb rfl) ?_)
    refine VO.nil ?_
    refine V.seq ?_
    refine V.seq ?_
    refine V.region ?_
    refine VO.cons rfl (V1.move rfl rfl rfl (ltb rfl) ?_)
    refine VO.cons rfl (V1.int rfl rfl rfl rfl rfl (ltb rfl) ?_)
    refine VO.nil ?_
    refine V.keep 56 [2, 4, 6, 7, 8, 9, 10, 29] [0, 1, 2] (E0 := [(2, .ref b0 4 0 0), (4, .ref b1 4 0 0), (6, .vl rn 4 (List.map encRule y0)), (7, .ref b3 4 0 0), (8, .int .i64 due0), (9, .int .i64 i), (10, .int .i64 y2), (29, .bool (decide (y2 < (0 : Int))))]) (H0 := [(b3, ⟨4, [encRule best0]⟩), (b1, ⟨4, [.agg [.int .i64 (0 : Int), .int .i64 (0 : Int), .int .i64 (0 : Int), .int .i64 (0 : Int)]]⟩), (b0, ⟨4, [encRecord ρ0 r_]⟩)]) rfl (⟨_, _, rfl, rfl, ⟨_, _, rfl, rfl, ⟨_, _, rfl, rfl, ⟨_, _, rfl, rfl, ⟨_, _, rfl, rfl, ⟨_, _, rfl, rfl, ⟨_, _, rfl, rfl, ⟨_, _, rfl, rfl, rfl⟩⟩⟩⟩⟩⟩⟩⟩) (⟨_, _, rfl, rfl, ⟨_, _, rfl, rfl, ⟨_, _, rfl, rfl, rfl⟩⟩⟩) rfl ?_
    refine V.cond rfl (fun hc1 => ?_) (fun hc1 => ?_)
    ·
     replace hm2 := cond_t hc1 hm2
     refine V.seq ?_
     refine V.region ?_
     refine VO.cons rfl (V1.build rfl rfl zk_37 pl_37 rfl rfl (ltb rfl) ?_)
     refine VO.cons rfl (V1.storeRefAll (k := 1) rfl rfl tyk_37 rfl rfl rfl rfl rfl rfl ?_)
     refine VO.cons rfl (V1.assign rfl rfl rfl (ltb rfl) ?_)
     refine VO.nil ?_
     refine V.ret ?_
     obtain rfl := Option.some.inj hm2
     change some _ = some _ at hm1
     obtain rfl := hr1 _ (Option.some.inj hm1).symm
     change some _ = some _ at hm0
     obtain rfl := Option.some.inj hm0
     exact ⟨_, [], ⟨_, _, rfl, ⟨_, _, 1, _, rfl, rfl, rfl, rfl, tyk_37, rfl⟩, ⟨_, _, rfl, rfl, rfl⟩⟩, List.nil_sublist _, rfl, rfl⟩
    ·
     replace hm2 := cond_f hc1 hm2
     refine V.skip ?_
     refine V.seq ?_
     replace hm2 := asrt_some hm2; rcases hm2 with ⟨hh3, hm2⟩
     refine V.regionM 56 18 [⟨[(10, none)], [], none⟩, ⟨[(8, none)], [], none⟩, ⟨[(31, some 1), (32, some 0)], [], none⟩, ⟨[(33, some 0)], [], none⟩, ⟨[(10, none)], [(0, false)], none⟩, ⟨[(8, none)], [(1, false)], none⟩, ⟨[(35, some 1), (36, some 0)], [(2, false)], none⟩, ⟨[(37, some 0)], [(3, false)], none⟩, ⟨[(6, none)], [(0, true), (4, false)], none⟩, ⟨[(9, none)], [(1, true), (5, false)], none⟩, ⟨[(39, some 1), (40, some 0)], [(2, true), (6, false)], none⟩, ⟨[(41, some 0)], [(3, true), (7, false)], none⟩, ⟨[(42, some 0)], [(4, true), (8, false)], none⟩, ⟨[(7, none)], [(5, true), (9, false)], none⟩, ⟨[(44, some 0)], [(6, true), (10, false)], none⟩, ⟨[(43, some 2), (45, some 0)], [(7, true), (11, false)], none⟩, ⟨[], [(12, false)], some (true, 38, 46, 8, 0)⟩, ⟨[], [], some (false, 34, 47, 13, 0)⟩] [(2, none), (4, none), (6, none), (7, none), (8, none), (9, none), (10, none), (48, some 0)] (⟨_, rfl, ⟨_, rfl, ⟨_, rfl, ⟨_, rfl, ⟨_, rfl, ⟨_, rfl, ⟨_, rfl, ⟨_, rfl, ⟨_, rfl, ⟨_, rfl, ⟨_, rfl, ⟨_, rfl, ⟨_, rfl, ⟨_, rfl, ⟨_, rfl, ⟨_, rfl, ⟨_, rfl, ⟨_, rfl, ⟨rfl, rfl⟩⟩⟩⟩⟩⟩⟩⟩⟩⟩⟩⟩⟩⟩⟩⟩⟩⟩⟩) mixed_orders rfl (by decide +kernel) (fun hck9 => ?_)
     refine VP.step (p := ?pv489) rfl rfl rfl (⟨_, _, rfl, rfl, rfl⟩) ?hv489 ?rest489 hck9
     case hv489 =>
      intro E1
      refine (V1.move rfl rfl rfl (ltb rfl) ?_)
      exact rfl
     refine VP.step (p := ?pv490) rfl rfl rfl (⟨_, _, rfl, rfl, rfl⟩) ?hv490 ?rest490 hck9
     case hv490 =>
      intro E1
      refine (V1.move rfl rfl rfl (ltb rfl) ?_)
      exact rfl
     refine VP.step (p := ?pv491) rfl rfl rfl (⟨_, _, rfl, rfl, ⟨_, _, rfl, rfl, rfl⟩⟩) ?hv491 ?rest491 hck9
     case hv491 =>
      intro E1
      refine (V1.int rfl rfl rfl rfl rfl (ltb rfl) ?_)
      exact rfl
     refine VP.step (p := ?pv492) rfl rfl rfl (⟨_, _, rfl, rfl, rfl⟩) ?hv492 ?rest492 hck9
     case hv492 =>
      intro E1
      refine (V1.move rfl rfl rfl (ltb rfl) ?_)
      exact rfl
     refine VP.step (p := ?pv493) rfl rfl rfl (⟨_, _, rfl, rfl, rfl⟩) ?hv493 ?rest493 hck9
     case hv493 =>
      refine ⟨_, rfl, fun hg0 => ?_⟩
      intro E1
      refine (V1.move rfl rfl rfl (ltb rfl) ?_)
      exact rfl
     refine VP.step (p := ?pv494) rfl rfl rfl (⟨_, _, rfl, rfl, rfl⟩) ?hv494 ?rest494 hck9
     case hv494 =>
      refine ⟨_, rfl, fun hg0 => ?_⟩
      intro E1
      refine (V1.move rfl rfl rfl (ltb rfl) ?_)
      exact rfl
     refine VP.step (p := ?pv495) rfl rfl rfl (⟨_, _, rfl, rfl, ⟨_, _, rfl, rfl, rfl⟩⟩) ?hv495 ?rest495 hck9
     case hv495 =>
      refine ⟨_, rfl, fun hg0 => ?_⟩
      intro E1
      refine (V1.int rfl rfl rfl rfl rfl (ltb rfl) ?_)
      exact rfl
     refine VP.step (p := ?pv496) rfl rfl rfl (⟨_, _, rfl, rfl, rfl⟩) ?hv496 ?rest496 hck9
     case hv496 =>
      refine ⟨_, rfl, fun hg0 => ?_⟩
      intro E1
      refine (V1.move rfl rfl rfl (ltb rfl) ?_)
      exact rfl
     refine VP.step (p := ?pv497) rfl rfl rfl (⟨_, _, rfl, rfl, rfl⟩) ?hv497 ?rest497 hck9
     case hv497 =>
      refine ⟨_, rfl, fun hg1 => ?_⟩
      refine ⟨_, rfl, fun hg0 => ?_⟩
      intro E1
      refine (V1.move rfl rfl rfl (ltb rfl) ?_)
      exact rfl
     refine VP.step (p := ?pv498) rfl rfl rfl (⟨_, _, rfl, rfl, rfl⟩) ?hv498 ?rest498 hck9
     case hv498 =>
      refine ⟨_, rfl, fun hg1 => ?_⟩
      refine ⟨_, rfl, fun hg0 => ?_⟩
      intro E1
      refine (V1.move rfl rfl rfl (ltb rfl) ?_)
      exact rfl
     refine VP.step (p := ?pv499) rfl rfl rfl (⟨_, _, rfl, rfl, ⟨_, _, rfl, rfl, rfl⟩⟩) ?hv499 ?rest499 hck9
     case hv499 =>
      refine ⟨_, rfl, fun hg1 => ?_⟩
      refine ⟨_, rfl, fun hg0 => ?_⟩
      intro E1
      refine (V1.indexI rfl rfl esz_27 rfl rfl (hh3 hg0 hg1) (ltb rfl) ?_)
      exact rfl
     refine VP.step (p := ?pv500) rfl rfl rfl (⟨_, _, rfl, rfl, rfl⟩) ?hv500 ?rest500 hck9
     case hv500 =>
      refine ⟨_, rfl, fun hg1 => ?_⟩
      refine ⟨_, rfl, fun hg0 => ?_⟩
      intro E1
      refine (V1.fieldPin rfl rfl fo_37_3 rfl (ltb rfl) ?_)
      exact rfl
     refine VP.step (p := ?pv501) rfl rfl rfl (⟨_, _, rfl, rfl, rfl⟩) ?hv501 ?rest501 hck9
     case hv501 =>
      refine ⟨_, rfl, fun hg1 => ?_⟩
      refine ⟨_, rfl, fun hg0 => ?_⟩
      intro E1
      refine (V1.loadPin rfl rfl tyk_3 rfl rfl (ltb rfl) ?_)
      exact rfl
     refine VP.step (p := ?pv502) rfl rfl rfl (⟨_, _, rfl, rfl, rfl⟩) ?hv502 ?rest502 hck9
     case hv502 =>
      refine ⟨_, rfl, fun hg1 => ?_⟩
      refine ⟨_, rfl, fun hg0 => ?_⟩
      intro E1
      refine (V1.fieldRef rfl rfl fo_37_3 rfl (ltb rfl) ?_)
      exact rfl
     refine VP.step (p := ?pv503) rfl rfl rfl (⟨_, _, rfl, rfl, rfl⟩) ?hv503 ?rest503 hck9
     case hv503 =>
      refine ⟨_, rfl, fun hg1 => ?_⟩
      refine ⟨_, rfl, fun hg0 => ?_⟩
      intro E1
      refine (V1.loadRef (k := 0) rfl rfl tyk_3 rfl rfl rfl rfl rfl (ltb rfl) ?_)
      exact rfl
     refine VP.step (p := ?pv504) rfl rfl rfl (⟨_, _, rfl, rfl, ⟨_, _, rfl, rfl, rfl⟩⟩) ?hv504 ?rest504 hck9
     case hv504 =>
      refine ⟨_, rfl, fun hg1 => ?_⟩
      refine ⟨_, rfl, fun hg0 => ?_⟩
      intro E1
      refine (V1.int rfl rfl rfl rfl rfl (ltb rfl) ?_)
      exact rfl
     refine VP.pickAnd rfl rfl rfl rfl rfl rfl (⟨_, rfl, fun _ => trivial⟩) ?_ hck9
     refine VP.pickOr rfl rfl rfl rfl rfl rfl (trivial) ?_ hck9
     refine VP.fin rfl (⟨_, _, rfl, rfl, ⟨_, _, rfl, rfl, ⟨_, _, rfl, rfl, ⟨_, _, rfl, rfl, ⟨_, _, rfl, rfl, ⟨_, _, rfl, rfl, ⟨_, _, rfl, rfl, ⟨_, _, rfl, rfl, rfl⟩⟩⟩⟩⟩⟩⟩⟩) ?_
     refine VO.nil ?_
     refine V.cond rfl (fun hc2 => ?_) (fun hc2 => ?_)
     ·
      replace hm2 := cond_t hc2 hm2
      refine V.seq ?_
      replace hm2 := asrt_some hm2; rcases hm2 with ⟨hh4, hm2⟩
      refine V.region ?_
      refine VO.cons rfl (V1.move rfl rfl rfl (ltb rfl) ?_)
      refine VO.cons rfl (V1.move rfl rfl rfl (ltb rfl) ?_)
      refine VO.cons rfl (V1.indexI rfl rfl esz_27 rfl rfl hh4 (ltb rfl) ?_)
      refine VO.cons rfl (V1.loadPinAll rfl rfl tyk_37 rfl rfl (ltb rfl) ?_)
      refine VO.cons rfl (V1.storeRefAll (k := 0) rfl rfl tyk_37 rfl rfl rfl rfl rfl rfl ?_)
      refine VO.nil ?_
      refine V.keep 56 [2, 4, 6, 7, 9, 10] [0, 1, 2] (E0 := [(2, .ref b0 4 0 0), (4, .ref b1 4 0 0), (6, .vl rn 4 (List.map encRule y0)), (7, .ref b3 4 0 0), (9, .int .i64 i), (10, .int .i64 y2)]) (H0 := [(b3, ⟨4, [encRule (y0.getD (Int.toNat i) default)]⟩), (b1, ⟨4, [.agg [.int .i64 (0 : Int), .int .i64 (0 : Int), .int .i64 (0 : Int), .int .i64 (0 : Int)]]⟩), (b0, ⟨4, [encRecord ρ0 r_]⟩)]) rfl (⟨_, _, rfl, rfl, ⟨_, _, rfl, rfl, ⟨_, _, rfl, rfl, ⟨_, _, rfl, rfl, ⟨_, _, rfl, rfl, ⟨_, _, rfl, rfl, rfl⟩⟩⟩⟩⟩⟩) (⟨_, _, rfl, rfl, ⟨_, _, rfl, rfl, ⟨_, _, rfl, rfl, rfl⟩⟩⟩) rfl ?_
      refine V.region ?_
      refine VO.cons rfl (V1.move rfl rfl rfl (ltb rfl) ?_)
      refine VO.cons rfl (V1.assign rfl rfl rfl (ltb rfl) ?_)
      refine VO.nil ?_
      exact ⟨((y2, (y0.getD (Int.toNat i) default)), ()), Option.some.inj hm2, Keeps.mk (ks := [0, 1, 2]) rfl ⟨rfl, rfl, rfl, rfl, rfl, rfl, trivial⟩ (⟨_, _, rfl, rfl, ⟨_, _, rfl, rfl, ⟨_, _, rfl, rfl, rfl⟩⟩⟩) rfl⟩
     ·
      replace hm2 := cond_f hc2 hm2
      refine V.skip ?_
      exact ⟨((due0, best0), ()), Option.some.inj hm2, Keeps.mk (ks := [0, 1, 2]) rfl ⟨rfl, rfl, rfl, rfl, rfl, rfl, trivial⟩ (⟨_, _, rfl, rfl, ⟨_, _, rfl, rfl, ⟨_, _, rfl, rfl, rfl⟩⟩⟩) rfl⟩
   ·
    rintro ⟨⟨due1, best1⟩, _⟩ rfl
    try dsimp only at hm1
    refine V.region ?_
    refine VO.cons rfl (V1.move rfl rfl rfl (ltb rfl) ?_)
    refine VO.cons rfl (V1.int rfl rfl rfl rfl rfl (ltb rfl) ?_)
    refine VO.cons rfl (V1.assign rfl rfl rfl (ltb rfl) ?_)
    refine VO.nil ?_
    exact ⟨(m0, (due1, (IntKind.i64.wrap (i + (1 : Int))), best1), ()), hl1 _ (Option.some.inj hm1).symm, Nat.lt_succ_self _, Keeps.mk (ks := [0, 1, 2]) rfl ⟨rfl, rfl, rfl, rfl, rfl, rfl, trivial⟩ (⟨_, _, rfl, rfl, ⟨_, _, rfl, rfl, ⟨_, _, rfl, rfl, rfl⟩⟩⟩) rfl⟩
  ·
   replace hm1 := cond_f hc0 hm1
   refine V.exit ?_
   obtain rfl := hr1 _ (Option.some.inj hm1).symm
   exact ⟨((due0, best0), ()), rfl, Keeps.mk (ks := [0, 1]) rfl ⟨rfl, rfl, rfl, trivial⟩ (⟨_, _, rfl, rfl, ⟨_, _, rfl, rfl, rfl⟩⟩) rfl⟩
 ·
  rintro ⟨⟨due, best⟩, _⟩ rfl
  try dsimp only at hm0
  refine V.seq ?_
  refine V.region ?_
  refine VO.cons rfl (V1.loadRefAll (k := 0) rfl rfl tyk_37 rfl rfl rfl rfl rfl (ltb rfl) ?_)
  refine VO.cons rfl (V1.move rfl rfl rfl (ltb rfl) ?_)
  refine VO.cons rfl (V1.storeRefAll (k := 1) rfl rfl tyk_37 rfl rfl rfl rfl rfl rfl ?_)
  refine VO.cons rfl (V1.assign rfl rfl rfl (ltb rfl) ?_)
  refine VO.nil ?_
  refine V.ret ?_
  obtain rfl := Option.some.inj hm0
  exact ⟨_, [], ⟨_, _, rfl, ⟨_, _, 1, _, rfl, rfl, rfl, rfl, tyk_37, rfl⟩, ⟨_, _, rfl, rfl, rfl⟩⟩, List.nil_sublist _, rfl, rfl⟩

theorem ok_spec_DueDay {ρ0 ρ1 rn : Nat} {r_ : Record} {schedule : List Rule} {r : Int × Bool} (h : M.spec_DueDay r_ schedule = some r) : Does Try.prog 18 [encRecord ρ0 r_, .vl ρ1 4 (List.map encRule schedule)] [] rn (fun x H => x = .tup [.int .i64 r.1, .bool r.2] ∧ H = []) := by
 have hm0 := h; clear h; unfold M.spec_DueDay at hm0
 try dsimp only at hm0
 refine Does.intro (N := 21) Try.func18 rfl rfl rfl rfl ?_
 intro w0 S0
 refine V.seq ?_
 refine V.region ?_
 refine VO.cons rfl (V1.boxN (n := 4) rfl rfl rfl rfl rfl (ltb rfl) ?_)
 intro b0
 refine VO.cons rfl (V1.assign rfl rfl rfl (ltb rfl) ?_)
 refine VO.cons rfl (V1.assign rfl rfl rfl (ltb rfl) ?_)
 refine VO.nil ?_
 refine V.seq ?_
 refine V.seq ?_
 replace hm0 := bindO hm0; rcases hm0 with ⟨y0, hh0, hm0⟩
 refine V.region ?_
 refine VO.cons rfl (V1.loadRefAll (k := 0) rfl rfl tyk_26 rfl rfl rfl rfl rfl (ltb rfl) ?_)
 refine VO.cons rfl (V1.move rfl rfl rfl (ltb rfl) ?_)
 refine VO.cons rfl (V1.call rfl rfl rfl cok_150 rfl (ok_spec_l6Asked hh0) rfl (ltb rfl) ?_)
 rintro _ _ ⟨rfl, rfl⟩
 refine VO.cons rfl (V1.not rfl rfl rfl (ltb rfl) ?_)
 refine VO.nil ?_
 refine V.keep 21 [1, 2, 11] [0] (E0 := [(1, .vl ρ1 4 (List.map encRule schedule)), (2, .ref b0 4 0 0), (11, .bool (!y0))]) (H0 := [(b0, ⟨4, [encRecord ρ0 r_]⟩)]) rfl (⟨_, _, rfl, rfl, ⟨_, _, rfl, rfl, ⟨_, _, rfl, rfl, rfl⟩⟩⟩) (⟨_, _, rfl, rfl, rfl⟩) rfl ?_
 refine V.cond rfl (fun hc0 => ?_) (fun hc0 => ?_)
 ·
  replace hm0 := cond_t hc0 hm0
  refine V.seq ?_
  refine V.region ?_
  refine VO.cons rfl (V1.assign rfl rfl rfl (ltb rfl) ?_)
  refine VO.cons rfl (V1.assign rfl rfl rfl (ltb rfl) ?_)
  refine VO.nil ?_
  refine V.ret ?_
  obtain rfl := Option.some.inj hm0
  exact ⟨_, [], ⟨_, _, rfl, rfl, ⟨_, _, rfl, rfl, rfl⟩⟩, List.nil_sublist _, rfl, rfl⟩
 ·
  replace hm0 := cond_f hc0 hm0
  refine V.skip ?_
  refine V.seq ?_
  replace hm0 := bindO hm0; rcases hm0 with ⟨y1, hh1, hm0⟩
  refine V.region ?_
  refine VO.cons rfl (V1.loadRefAll (k := 0) rfl rfl tyk_26 rfl rfl rfl rfl rfl (ltb rfl) ?_)
  refine VO.cons rfl (V1.move rfl rfl rfl (ltb rfl) ?_)
  refine VO.cons rfl (V1.call rfl rfl rfl cok_154 rfl (ok_spec_l6Deciding hh1) rfl (ltb rfl) ?_)
  rintro _ _ ⟨rfl, rfl⟩
  refine VO.cons rfl (V1.move rfl rfl rfl (ltb rfl) ?_)
  refine VO.cons rfl (V1.extract rfl rfl rfl rfl (ltb rfl) ?_)
  refine VO.cons rfl (V1.extract rfl rfl rfl rfl (ltb rfl) ?_)
  refine VO.cons rfl (V1.alloc rfl rfl zk_37 (ltb rfl) ?_)
  intro b1
  refine VO.cons rfl (V1.storeRefAll (k := 0) rfl rfl tyk_37 rfl rfl rfl rfl rfl rfl ?_)
  refine VO.cons rfl (V1.assign rfl rfl rfl (ltb rfl) ?_)
  refine VO.nil ?_
  refine V.keep 21 [7] [] (E0 := [(7, .int .i64 y1.2)]) (H0 := []) rfl (⟨_, _, rfl, rfl, rfl⟩) (rfl) rfl ?_
  refine V.seq ?_
  refine V.seq ?_
  refine V.region ?_
  refine VO.cons rfl (V1.move rfl rfl rfl (ltb rfl) ?_)
  refine VO.cons rfl (V1.int rfl rfl rfl rfl rfl (ltb rfl) ?_)
  refine VO.nil ?_
  refine V.cond rfl (fun hc1 => ?_) (fun hc1 => ?_)
  ·
   replace hm0 := cond_t hc1 hm0
   refine V.seq ?_
   refine V.region ?_
   refine VO.cons rfl (V1.assign rfl rfl rfl (ltb rfl) ?_)
   refine VO.cons rfl (V1.assign rfl rfl rfl (ltb rfl) ?_)
   refine VO.nil ?_
   refine V.ret ?_
   obtain rfl := Option.some.inj hm0
   exact ⟨_, [], ⟨_, _, rfl, rfl, ⟨_, _, rfl, rfl, rfl⟩⟩, List.nil_sublist _, rfl, rfl⟩
  ·
   replace hm0 := cond_f hc1 hm0
   refine V.skip ?_
   refine V.seq ?_
   refine V.region ?_
   refine VO.cons rfl (V1.move rfl rfl rfl (ltb rfl) ?_)
   refine VO.cons rfl (V1.assign rfl rfl rfl (ltb rfl) ?_)
   refine VO.cons rfl (V1.assign rfl rfl rfl (ltb rfl) ?_)
   refine VO.nil ?_
   refine V.ret ?_
   obtain rfl := Option.some.inj hm0
   exact ⟨_, [], ⟨_, _, rfl, rfl, ⟨_, _, rfl, rfl, rfl⟩⟩, List.nil_sublist _, rfl, rfl⟩

theorem ok_impl_WaitsFor {ρ0 ρ1 rn : Nat} {r_ : Record} {schedule : List Rule} {r : List Int × Bool} (h : M.impl_WaitsFor r_ schedule = some r) : Does Try.prog 19 [encRecord ρ0 r_, .vl ρ1 4 (List.map encRule schedule)] [] rn (fun x H => ∃ (ob0_ : Option Nat), (ob0_ = none → r.1 = []) ∧ x = .tup [optS 1 ob0_ (List.length r.1), .bool r.2] ∧ H = optH 1 ob0_ (List.map encInt r.1)) := by
 have hm0 := h; clear h; unfold M.impl_WaitsFor at hm0
 try dsimp only at hm0
 refine Does.intro (N := 33) Try.func19 rfl rfl rfl rfl ?_
 intro w0 S0
 refine V.seq ?_
 refine V.region ?_
 refine VO.cons rfl (V1.boxN (n := 4) rfl rfl rfl rfl rfl (ltb rfl) ?_)
 intro b0
 refine VO.cons rfl (V1.assign rfl rfl rfl (ltb rfl) ?_)
 refine VO.cons rfl (V1.assign rfl rfl rfl (ltb rfl) ?_)
 refine VO.nil ?_
 refine V.seq ?_
 refine V.seq ?_
 replace hm0 := bindO hm0; rcases hm0 with ⟨y0, hh0, hm0⟩
 refine V.region ?_
 refine VO.cons rfl (V1.loadRefAll (k := 0) rfl rfl tyk_26 rfl rfl rfl rfl rfl (ltb rfl) ?_)
 refine VO.cons rfl (V1.move rfl rfl rfl (ltb rfl) ?_)
 refine VO.cons rfl (V1.call rfl rfl rfl cok_147 rfl (ok_impl_areBoth hh0) rfl (ltb rfl) ?_)
 rintro _ _ ⟨rfl, rfl⟩
 refine VO.cons rfl (V1.not rfl rfl rfl (ltb rfl) ?_)
 refine VO.nil ?_
 refine V.keep 33 [1, 2, 12] [0] (E0 := [(1, .vl ρ1 4 (List.map encRule schedule)), (2, .ref b0 4 0 0), (12, .bool (!y0))]) (H0 := [(b0, ⟨4, [encRecord ρ0 r_]⟩)]) rfl (⟨_, _, rfl, rfl, ⟨_, _, rfl, rfl, ⟨_, _, rfl, rfl, rfl⟩⟩⟩) (⟨_, _, rfl, rfl, rfl⟩) rfl ?_
 refine V.cond rfl (fun hc0 => ?_) (fun hc0 => ?_)
 ·
  replace hm0 := cond_t hc0 hm0
  refine V.seq ?_
  refine V.region ?_
  refine VO.cons rfl (V1.assign rfl rfl rfl (ltb rfl) ?_)
  refine VO.cons rfl (V1.assign rfl rfl rfl (ltb rfl) ?_)
  refine VO.nil ?_
  refine V.keep 33 [4, 5] [] (E0 := [(4, .nils), (5, .bool false)]) (H0 := []) rfl (⟨_, _, rfl, rfl, ⟨_, _, rfl, rfl, rfl⟩⟩) (rfl) rfl ?_
  refine V.ret ?_
  obtain rfl := Option.some.inj hm0
  exact ⟨_, _, ⟨_, _, rfl, rfl, ⟨_, _, rfl, rfl, rfl⟩⟩, List.Sublist.refl _, none, (fun _ => rfl), rfl, rfl⟩
 ·
  replace hm0 := cond_f hc0 hm0
  refine V.skip ?_
  refine V.seq ?_
  refine V.region ?_
  refine VO.cons rfl (V1.assign rfl rfl rfl (ltb rfl) ?_)
  refine VO.nil ?_
  refine V.seq ?_
  refine V.seq ?_
  replace hm0 := bindO hm0; rcases hm0 with ⟨y1, hh1, hm0⟩
  refine V.region ?_
  refine VO.cons rfl (V1.move rfl rfl rfl (ltb rfl) ?_)
  refine VO.cons rfl (V1.fieldRef rfl rfl fo_26_1 rfl (ltb rfl) ?_)
  refine VO.cons rfl (V1.loadRef (k := 0) rfl rfl tyk_3 rfl rfl rfl rfl rfl (ltb rfl) ?_)
  refine VO.cons rfl (V1.permK (V1.call rfl rfl rfl cok_148 rfl (ok_impl_rulesFor hh1) rfl (ltb rfl) ?_))
  rintro _ _ ⟨ob0, hob0, rfl, rfl⟩
  refine ⟨_, ?_, Keeps.optBack (n := 4) (ob := ob0) (xs := List.map encRule y1) (H1 := []) (H2 := [(b0, ⟨4, [encRecord ρ0 r_]⟩)]) rfl⟩
  refine VO.weakenK (Keeps.optFront (n := 4) (ob := ob0) (xs := List.map encRule y1) (H1 := [(b0, ⟨4, [encRecord ρ0 r_]⟩)]) rfl) ?_
  refine VO.weakenK (Keeps.optVl 16 [] rn (f := encRule) (l := y1) (ob := ob0) (H1 := []) hob0 rfl rfl ⟨rfl, trivial⟩ (fun _ => rfl) rfl iNil) ?_
  refine VO.cons rfl (V1.lenMap rfl rfl rfl rfl rfl rfl isl_27 (ltb rfl) ?_)
  refine VO.cons rfl (V1.move rfl rfl rfl (ltb rfl) ?_)
  refine VO.nil ?_
  refine V.keep 33 [2, 6, 16, 17, 18] [0] (E0 := [(2, .ref b0 4 0 0), (6, .nils), (16, .vl rn 4 (List.map encRule y1)), (17, .int .i64 (y1.length : Int)), (18, .int .i64 (0 : Int))]) (H0 := [(b0, ⟨4, [encRecord ρ0 r_]⟩)]) rfl (⟨_, _, rfl, rfl, ⟨_, _, rfl, rfl, ⟨_, _, rfl, rfl, ⟨_, _, rfl, rfl, ⟨_, _, rfl, rfl, rfl⟩⟩⟩⟩⟩) (⟨_, _, rfl, rfl, rfl⟩) rfl ?_
  replace hm0 := bindO hm0; rcases hm0 with ⟨e0, he1, hm0⟩
  refine V.cutT (D := (List Int) × (Option Nat)) (fun ⟨events, ob1⟩ => ⟨33, [(6, optS 1 ob1 (List.length events))], optH 1 ob1 (List.map encInt events)⟩) (fun ⟨events, ob1⟩ => (events = e0) ∧ (ob1 = none → events = [])) ?_ ?_
  ·
   refine V.block ?_
   refine V.keep 33 [6, 18, 2, 16, 17] [0] (E0 := [(6, .nils), (18, .int .i64 (0 : Int)), (2, .ref b0 4 0 0), (16, .vl rn 4 (List.map encRule y1)), (17, .int .i64 (y1.length : Int))]) (H0 := [(b0, ⟨4, [encRecord ρ0 r_]⟩)]) rfl (⟨_, _, rfl, rfl, ⟨_, _, rfl, rfl, ⟨_, _, rfl, rfl, ⟨_, _, rfl, rfl, ⟨_, _, rfl, rfl, rfl⟩⟩⟩⟩⟩) (⟨_, _, rfl, rfl, rfl⟩) rfl ?_
   refine V.loopE (D := Nat × (List Int × Int) × (Option Nat)) (fun ⟨n0, ⟨events0, v⟩, ob2⟩ => [(6, optS 1 ob2 (List.length events0)), (18, .int .i64 v)]) (fun ⟨n0, ⟨events0, v⟩, ob2⟩ => optH 1 ob2 (List.map encInt events0)) (fun ⟨n0, ⟨events0, v⟩, ob2⟩ => loopO (M.impl_WaitsFor_l0 r_ y1) n0 (events0, v) = some e0 ∧ (ob2 = none → events0 = [])) (fun ⟨n0, _, _⟩ => n0) (rounds, (([] : List Int), (0 : Int)), none) rfl ⟨he1, (fun _ => rfl)⟩ ?_
   rintro ⟨n0, ⟨events0, v⟩, ob2⟩ ⟨hP0, hob2⟩
   obtain ⟨m0, y2, rfl, hm1, hl1, hr1⟩ := loop_head hP0
   unfold M.impl_WaitsFor_l0 at hm1; dsimp only at hm1
   rcases ob2 with _ | ob2
   ·
    replace hob2 := hob2 rfl
    show V _ _ _ ⟨33, [(6, .nils), (18, .int .i64 v), (2, .ref b0 4 0 0), (16, .vl rn 4 (List.map encRule y1)), (17, .int .i64 (y1.length : Int))], [(b0, ⟨4, [encRecord ρ0 r_]⟩)]⟩
    refine V.seq ?_
    refine V.region ?_
    refine VO.cons rfl (V1.int rfl rfl rfl rfl rfl (ltb rfl) ?_)
    refine VO.nil ?_
    refine V.seq ?_
    refine V.cond rfl (fun hc1 => ?_) (fun hc1 => ?_)
    ·
     replace hm1 := cond_t hc1 hm1
     refine V.skip ?_
     refine V.seq ?_
     replace hm1 := bindO hm1; rcases hm1 with ⟨j0, hm2, hm1⟩
     refine V.cutT (D := (List Int) × (Option Nat)) (fun ⟨events1, ob3⟩ => ⟨33, [(6, optS 1 ob3 (List.length events1)), (2, .ref b0 4 0 0), (16, .vl rn 4 (List.map encRule y1)), (17, .int .i64 (y1.length : Int)), (18, .int .i64 v)], optH 1 ob3 (List.map encInt events1) ++ [(b0, ⟨4, [encRecord ρ0 r_]⟩)]⟩) (fun ⟨events1, ob3⟩ => (events1 = j0) ∧ (ob3 = none → events1 = [])) ?_ ?_
     ·
      refine V.block ?_
      refine V.seq ?_
      replace hm2 := asrt_some hm2; rcases hm2 with ⟨hh2, hm2⟩
      refine V.region ?_
      refine VO.cons rfl (V1.indexI rfl rfl esz_27 rfl rfl hh2 (ltb rfl) ?_)
      refine VO.cons rfl (V1.loadPinAll rfl rfl tyk_37 rfl rfl (ltb rfl) ?_)
      refine VO.cons rfl (V1.alloc rfl rfl zk_37 (ltb rfl) ?_)
      intro b1
      refine VO.cons rfl (V1.storeRefAll (k := 0) rfl rfl tyk_37 rfl rfl rfl rfl rfl rfl ?_)
      refine VO.nil ?_
      refine V.seq ?_
      replace hm2 := bindO hm2; rcases hm2 with ⟨y3, hh3, hm2⟩
      refine V.region ?_
      refine VO.cons rfl (V1.loadRefAll (k := 1) rfl rfl tyk_26 rfl rfl rfl rfl rfl (ltb rfl) ?_)
      refine VO.cons rfl (V1.loadRefAll (k := 0) rfl rfl tyk_37 rfl rfl rfl rfl rfl (ltb rfl) ?_)
      refine VO.cons rfl (V1.call rfl rfl rfl cok_149 rfl (ok_impl_endOf hh3) rfl (ltb rfl) ?_)
      rintro _ _ ⟨rfl, rfl⟩
      refine VO.cons rfl (V1.int rfl rfl rfl rfl rfl (ltb rfl) ?_)
      refine VO.nil ?_
      refine V.keep 33 [2, 6, 8, 16, 17, 18, 25] [0, 1] (E0 := [(2, .ref b0 4 0 0), (6, .nils), (8, .ref b1 4 0 0), (16, .vl rn 4 (List.map encRule y1)), (17, .int .i64 (y1.length : Int)), (18, .int .i64 v), (25, .bool (decide (y3 < (0 : Int))))]) (H0 := [(b1, ⟨4, [encRule (y1.getD (Int.toNat v) default)]⟩), (b0, ⟨4, [encRecord ρ0 r_]⟩)]) rfl (⟨_, _, rfl, rfl, ⟨_, _, rfl, rfl, ⟨_, _, rfl, rfl, ⟨_, _, rfl, rfl, ⟨_, _, rfl, rfl, ⟨_, _, rfl, rfl, ⟨_, _, rfl, rfl, rfl⟩⟩⟩⟩⟩⟩⟩) (⟨_, _, rfl, rfl, ⟨_, _, rfl, rfl, rfl⟩⟩) rfl ?_
      refine V.cond rfl (fun hc2 => ?_) (fun hc2 => ?_)
      ·
       replace hm2 := cond_t hc2 hm2
       replace hm2 := asrt_some hm2; rcases hm2 with ⟨hh4, hm2⟩
       refine V.region ?_
       refine VO.cons rfl (V1.move rfl rfl rfl (ltb rfl) ?_)
       refine VO.cons rfl (V1.fieldRef rfl rfl fo_37_1 rfl (ltb rfl) ?_)
       refine VO.cons rfl (V1.loadRef (k := 0) rfl rfl tyk_3 rfl rfl rfl rfl rfl (ltb rfl) ?_)
       refine VO.cons rfl (V1.buildSliceT (f := encInt) ([(y1.getD (Int.toNat v) default).Event] : List Int) rfl rfl esz_30 zk_3 rfl rfl rfl rfl rfl rfl rfl (ltb rfl) ?_)
       intro b2
       refine VO.cons rfl (V1.appendNilE (f := encInt) (l := events0) (m := ([(y1.getD (Int.toNat v) default).Event] : List Int)) hob2 rfl rfl rfl rfl rfl esz_30 eby_30 zk_3 rfl rfl rfl (SrcOf.srMap (k := 0) rfl isl_30) rfl hh4 (ltb rfl) ?_)
       intro b3
       refine VO.cons rfl (V1.assign rfl rfl rfl (ltb rfl) ?_)
       refine VO.nil ?_
       exact ⟨((events0 ++ ([(y1.getD (Int.toNat v) default).Event] : List Int)), (some b3)), ⟨Option.some.inj hm2, (fun e => by cases e)⟩, Keeps.mk (ks := [0, 3]) rfl ⟨rfl, rfl, rfl, rfl, rfl, trivial⟩ (⟨_, _, rfl, rfl, ⟨_, _, rfl, rfl, rfl⟩⟩) rfl⟩
      ·
       replace hm2 := cond_f hc2 hm2
       refine V.skip ?_
       exact ⟨(events0, none), ⟨Option.some.inj hm2, (fun _ => hob2)⟩, Keeps.mk (ks := [1]) rfl ⟨rfl, rfl, rfl, rfl, rfl, trivial⟩ (⟨_, _, rfl, rfl, rfl⟩) rfl⟩
     ·
      rintro ⟨events1, ob3⟩ ⟨rfl, hob3⟩
      try dsimp only at hm1
      rcases ob3 with _ | ob3
      ·
       replace hob3 := hob3 rfl
       refine V.region ?_
       refine VO.cons rfl (V1.int rfl rfl rfl rfl rfl (ltb rfl) ?_)
       refine VO.cons rfl (V1.move rfl rfl rfl (ltb rfl) ?_)
       refine VO.nil ?_
       exact ⟨(m0, (events1, (IntKind.i64.wrap (v + (1 : Int)))), none), ⟨hl1 _ (Option.some.inj hm1).symm, (fun _ => hob3)⟩, Nat.lt_succ_self _, Keeps.mk (ks := [0]) rfl ⟨rfl, rfl, rfl, rfl, rfl, trivial⟩ (⟨_, _, rfl, rfl, rfl⟩) rfl⟩
      ·
       refine V.region ?_
       refine VO.cons rfl (V1.int rfl rfl rfl rfl rfl (ltb rfl) ?_)
       refine VO.cons rfl (V1.move rfl rfl rfl (ltb rfl) ?_)
       refine VO.nil ?_
       exact ⟨(m0, (events1, (IntKind.i64.wrap (v + (1 : Int)))), (some ob3)), ⟨hl1 _ (Option.some.inj hm1).symm, (fun e => by cases e)⟩, Nat.lt_succ_self _, Keeps.mk (ks := [0, 1]) rfl ⟨rfl, rfl, rfl, rfl, rfl, trivial⟩ (⟨_, _, rfl, rfl, ⟨_, _, rfl, rfl, rfl⟩⟩) rfl⟩
    ·
     replace hm1 := cond_f hc1 hm1
     refine V.exit ?_
     obtain rfl := hr1 _ (Option.some.inj hm1).symm
     exact ⟨(events0, none), ⟨rfl, (fun _ => hob2)⟩, Keeps.mk (ks := []) rfl ⟨rfl, trivial⟩ (rfl) rfl⟩
   ·
    show V _ _ _ ⟨33, [(6, .sref ob2 1 0 (List.length events0)), (18, .int .i64 v), (2, .ref b0 4 0 0), (16, .vl rn 4 (List.map encRule y1)), (17, .int .i64 (y1.length : Int))], [(ob2, ⟨1, List.map encInt events0⟩), (b0, ⟨4, [encRecord ρ0 r_]⟩)]⟩
    refine V.seq ?_
    refine V.region ?_
    refine VO.cons rfl (V1.int rfl rfl rfl rfl rfl (ltb rfl) ?_)
    refine VO.nil ?_
    refine V.seq ?_
    refine V.cond rfl (fun hc1 => ?_) (fun hc1 => ?_)
    ·
     replace hm1 := cond_t hc1 hm1
     refine V.skip ?_
     refine V.seq ?_
     replace hm1 := bindO hm1; rcases hm1 with ⟨j0, hm2, hm1⟩
     refine V.cutT (D := (List Int) × (Nat)) (fun ⟨events1, b1⟩ => ⟨33, [(6, .sref b1 1 0 (List.length events1)), (2, .ref b0 4 0 0), (16, .vl rn 4 (List.map encRule y1)), (17, .int .i64 (y1.length : Int)), (18, .int .i64 v)], [(b1, ⟨1, List.map encInt events1⟩), (b0, ⟨4, [encRecord ρ0 r_]⟩)]⟩) (fun ⟨events1, b1⟩ => (events1 = j0)) ?_ ?_
     ·
      refine V.block ?_
      refine V.seq ?_
      replace hm2 := asrt_some hm2; rcases hm2 with ⟨hh2, hm2⟩
      refine V.region ?_
      refine VO.cons rfl (V1.indexI rfl rfl esz_27 rfl rfl hh2 (ltb rfl) ?_)
      refine VO.cons rfl (V1.loadPinAll rfl rfl tyk_37 rfl rfl (ltb rfl) ?_)
      refine VO.cons rfl (V1.alloc rfl rfl zk_37 (ltb rfl) ?_)
      intro b2
      refine VO.cons rfl (V1.storeRefAll (k := 0) rfl rfl tyk_37 rfl rfl rfl rfl rfl rfl ?_)
      refine VO.nil ?_
      refine V.seq ?_
      replace hm2 := bindO hm2; rcases hm2 with ⟨y3, hh3, hm2⟩
      refine V.region ?_
      refine VO.cons rfl (V1.loadRefAll (k := 2) rfl rfl tyk_26 rfl rfl rfl rfl rfl (ltb rfl) ?_)
      refine VO.cons rfl (V1.loadRefAll (k := 0) rfl rfl tyk_37 rfl rfl rfl rfl rfl (ltb rfl) ?_)
      refine VO.cons rfl (V1.call rfl rfl rfl cok_149 rfl (ok_impl_endOf hh3) rfl (ltb rfl) ?_)
      rintro _ _ ⟨rfl, rfl⟩
      refine VO.cons rfl (V1.int rfl rfl rfl rfl rfl (ltb rfl) ?_)
      refine VO.nil ?_
      refine V.keep 33 [2, 6, 8, 16, 17, 18, 25] [0, 1, 2] (E0 := [(2, .ref b0 4 0 0), (6, .sref ob2 1 0 (List.length events0)), (8, .ref b2 4 0 0), (16, .vl rn 4 (List.map encRule y1)), (17, .int .i64 (y1.length : Int)), (18, .int .i64 v), (25, .bool (decide (y3 < (0 : Int))))]) (H0 := [(b2, ⟨4, [encRule (y1.getD (Int.toNat v) default)]⟩), (ob2, ⟨1, List.map encInt events0⟩), (b0, ⟨4, [encRecord ρ0 r_]⟩)]) rfl (⟨_, _, rfl, rfl, ⟨_, _, rfl, rfl, ⟨_, _, rfl, rfl, ⟨_, _, rfl, rfl, ⟨_, _, rfl, rfl, ⟨_, _, rfl, rfl, ⟨_, _, rfl, rfl, rfl⟩⟩⟩⟩⟩⟩⟩) (⟨_, _, rfl, rfl, ⟨_, _, rfl, rfl, ⟨_, _, rfl, rfl, rfl⟩⟩⟩) rfl ?_
      refine V.cond rfl (fun hc2 => ?_) (fun hc2 => ?_)
      ·
       replace hm2 := cond_t hc2 hm2
       replace hm2 := asrt_some hm2; rcases hm2 with ⟨hh4, hm2⟩
       refine V.region ?_
       refine VO.cons rfl (V1.move rfl rfl rfl (ltb rfl) ?_)
       refine VO.cons rfl (V1.fieldRef rfl rfl fo_37_1 rfl (ltb rfl) ?_)
       refine VO.cons rfl (V1.loadRef (k := 0) rfl rfl tyk_3 rfl rfl rfl rfl rfl (ltb rfl) ?_)
       refine VO.cons rfl (V1.buildSliceT (f := encInt) ([(y1.getD (Int.toNat v) default).Event] : List Int) rfl rfl esz_30 zk_3 rfl rfl rfl rfl rfl rfl rfl (ltb rfl) ?_)
       intro b3
       refine VO.cons rfl (V1.appendMap (k := 2) (f := encInt) (l := events0) (m := ([(y1.getD (Int.toNat v) default).Event] : List Int)) rfl rfl rfl rfl rfl esz_30 eby_30 zk_3 rfl rfl rfl (SrcOf.srMap (k := 0) rfl isl_30) hh4 (ltb rfl) ?_)
       intro b4
       refine VO.cons rfl (V1.assign rfl rfl rfl (ltb rfl) ?_)
       refine VO.nil ?_
       exact ⟨((events0 ++ ([(y1.getD (Int.toNat v) default).Event] : List Int)), b4), Option.some.inj hm2, Keeps.mk (ks := [0, 3]) rfl ⟨rfl, rfl, rfl, rfl, rfl, trivial⟩ (⟨_, _, rfl, rfl, ⟨_, _, rfl, rfl, rfl⟩⟩) rfl⟩
      ·
       replace hm2 := cond_f hc2 hm2
       refine V.skip ?_
       exact ⟨(events0, ob2), Option.some.inj hm2, Keeps.mk (ks := [1, 2]) rfl ⟨rfl, rfl, rfl, rfl, rfl, trivial⟩ (⟨_, _, rfl, rfl, ⟨_, _, rfl, rfl, rfl⟩⟩) rfl⟩
     ·
      rintro ⟨events1, b1⟩ rfl
      try dsimp only at hm1
      refine V.region ?_
      refine VO.cons rfl (V1.int rfl rfl rfl rfl rfl (ltb rfl) ?_)
      refine VO.cons rfl (V1.move rfl rfl rfl (ltb rfl) ?_)
      refine VO.nil ?_
      exact ⟨(m0, (events1, (IntKind.i64.wrap (v + (1 : Int)))), (some b1)), ⟨hl1 _ (Option.some.inj hm1).symm, (fun e => by cases e)⟩, Nat.lt_succ_self _, Keeps.mk (ks := [0, 1]) rfl ⟨rfl, rfl, rfl, rfl, rfl, trivial⟩ (⟨_, _, rfl, rfl, ⟨_, _, rfl, rfl, rfl⟩⟩) rfl⟩
    ·
     replace hm1 := cond_f hc1 hm1
     refine V.exit ?_
     obtain rfl := hr1 _ (Option.some.inj hm1).symm
     exact ⟨(events0, (some ob2)), ⟨rfl, (fun e => by cases e)⟩, Keeps.mk (ks := [0]) rfl ⟨rfl, trivial⟩ (⟨_, _, rfl, rfl, rfl⟩) rfl⟩
  ·
   rintro ⟨events, ob1⟩ ⟨rfl, hob1⟩
   try dsimp only at hm0
   rcases ob1 with _ | ob1
   ·
    replace hob1 := hob1 rfl
    refine V.seq ?_
    refine V.region ?_
    refine VO.cons rfl (V1.move rfl rfl rfl (ltb rfl) ?_)
    refine VO.cons rfl (V1.assign rfl rfl rfl (ltb rfl) ?_)
    refine VO.cons rfl (V1.assign rfl rfl rfl (ltb rfl) ?_)
    refine VO.nil ?_
    refine V.keep 33 [4, 5] [] (E0 := [(4, .nils), (5, .bool true)]) (H0 := []) rfl (⟨_, _, rfl, rfl, ⟨_, _, rfl, rfl, rfl⟩⟩) (rfl) rfl ?_
    refine V.ret ?_
    obtain rfl := Option.some.inj hm0
    exact ⟨_, _, ⟨_, _, rfl, rfl, ⟨_, _, rfl, rfl, rfl⟩⟩, List.Sublist.refl _, none, (fun _ => hob1), rfl, rfl⟩
   ·
    refine V.seq ?_
    refine V.region ?_
    refine VO.cons rfl (V1.move rfl rfl rfl (ltb rfl) ?_)
    refine VO.cons rfl (V1.assign rfl rfl rfl (ltb rfl) ?_)
    refine VO.cons rfl (V1.assign rfl rfl rfl (ltb rfl) ?_)
    refine VO.nil ?_
    refine V.keep 33 [4, 5] [0] (E0 := [(4, .sref ob1 1 0 (List.length events)), (5, .bool true)]) (H0 := [(ob1, ⟨1, List.map encInt events⟩)]) rfl (⟨_, _, rfl, rfl, ⟨_, _, rfl, rfl, rfl⟩⟩) (⟨_, _, rfl, rfl, rfl⟩) rfl ?_
    refine V.ret ?_
    obtain rfl := Option.some.inj hm0
    exact ⟨_, _, ⟨_, _, rfl, rfl, ⟨_, _, rfl, rfl, rfl⟩⟩, List.Sublist.refl _, some ob1, (fun e => by cases e), rfl, rfl⟩

theorem ok_spec_WaitsFor {ρ0 ρ1 rn : Nat} {r_ : Record} {schedule : List Rule} {r : List Int × Bool} (h : M.spec_WaitsFor r_ schedule = some r) : Does Try.prog 20 [encRecord ρ0 r_, .vl ρ1 4 (List.map encRule schedule)] [] rn (fun x H => ∃ (ob0_ : Nat), x = .tup [PV.sref ob0_ 1 0 (List.length r.1), .bool r.2] ∧ H = [(ob0_, ⟨1, List.map encInt r.1⟩)]) := by
 have hm0 := h; clear h; unfold M.spec_WaitsFor at hm0
 try dsimp only at hm0
 refine Does.intro (N := 41) Try.func20 rfl rfl rfl rfl ?_
 intro w0 S0
 refine V.seq ?_
 refine V.region ?_
 refine VO.cons rfl (V1.boxN (n := 4) rfl rfl rfl rfl rfl (ltb rfl) ?_)
 intro b0
 refine VO.cons rfl (V1.assign rfl rfl rfl (ltb rfl) ?_)
 refine VO.cons rfl (V1.assign rfl rfl rfl (ltb rfl) ?_)
 refine VO.nil ?_
 refine V.seq ?_
 refine V.region ?_
 refine VO.cons rfl (V1.buildSliceT (f := encInt) ([] : List Int) rfl rfl esz_30 zk_3 rfl rfl rfl rfl rfl rfl rfl (ltb rfl) ?_)
 intro b1
 refine VO.cons rfl (V1.assign rfl rfl rfl (ltb rfl) ?_)
 refine VO.nil ?_
 refine V.keep 41 [1, 2, 6] [0, 1] (E0 := [(1, .vl ρ1 4 (List.map encRule schedule)), (2, .ref b0 4 0 0), (6, .sref b1 1 0 (List.length ([] : List Int)))]) (H0 := [(b1, ⟨1, List.map encInt ([] : List Int)⟩), (b0, ⟨4, [encRecord ρ0 r_]⟩)]) rfl (⟨_, _, rfl, rfl, ⟨_, _, rfl, rfl, ⟨_, _, rfl, rfl, rfl⟩⟩⟩) (⟨_, _, rfl, rfl, ⟨_, _, rfl, rfl, rfl⟩⟩) rfl ?_
 refine V.seq ?_
 refine V.seq ?_
 replace hm0 := bindO hm0; rcases hm0 with ⟨y0, hh0, hm0⟩
 refine V.region ?_
 refine VO.cons rfl (V1.loadRefAll (k := 1) rfl rfl tyk_26 rfl rfl rfl rfl rfl (ltb rfl) ?_)
 refine VO.cons rfl (V1.move rfl rfl rfl (ltb rfl) ?_)
 refine VO.cons rfl (V1.call rfl rfl rfl cok_150 rfl (ok_spec_l6Asked hh0) rfl (ltb rfl) ?_)
 rintro _ _ ⟨rfl, rfl⟩
 refine VO.cons rfl (V1.not rfl rfl rfl (ltb rfl) ?_)
 refine VO.nil ?_
 refine V.cond rfl (fun hc0 => ?_) (fun hc0 => ?_)
 ·
  replace hm0 := cond_t hc0 hm0
  refine V.seq ?_
  refine V.region ?_
  refine VO.cons rfl (V1.move rfl rfl rfl (ltb rfl) ?_)
  refine VO.cons rfl (V1.assign rfl rfl rfl (ltb rfl) ?_)
  refine VO.cons rfl (V1.assign rfl rfl rfl (ltb rfl) ?_)
  refine VO.nil ?_
  refine V.keep 41 [4, 5] [0] (E0 := [(4, .sref b1 1 0 (List.length ([] : List Int))), (5, .bool false)]) (H0 := [(b1, ⟨1, List.map encInt ([] : List Int)⟩)]) rfl (⟨_, _, rfl, rfl, ⟨_, _, rfl, rfl, rfl⟩⟩) (⟨_, _, rfl, rfl, rfl⟩) rfl ?_
  refine V.ret ?_
  obtain rfl := Option.some.inj hm0
  exact ⟨_, _, ⟨_, _, rfl, rfl, ⟨_, _, rfl, rfl, rfl⟩⟩, List.Sublist.refl _, b1, rfl, rfl⟩
 ·
  replace hm0 := cond_f hc0 hm0
  refine V.skip ?_
  refine V.keep 41 [1, 2, 6] [0, 1] (E0 := [(1, .vl ρ1 4 (List.map encRule schedule)), (2, .ref b0 4 0 0), (6, .sref b1 1 0 (List.length ([] : List Int)))]) (H0 := [(b1, ⟨1, List.map encInt ([] : List Int)⟩), (b0, ⟨4, [encRecord ρ0 r_]⟩)]) rfl (⟨_, _, rfl, rfl, ⟨_, _, rfl, rfl, ⟨_, _, rfl, rfl, rfl⟩⟩⟩) (⟨_, _, rfl, rfl, ⟨_, _, rfl, rfl, rfl⟩⟩) rfl ?_
  refine V.seq ?_
  replace hm0 := bindO hm0; rcases hm0 with ⟨y1, hh1, hm0⟩
  refine V.region ?_
  refine VO.cons rfl (V1.move rfl rfl rfl (ltb rfl) ?_)
  refine VO.cons rfl (V1.fieldRef rfl rfl fo_26_1 rfl (ltb rfl) ?_)
  refine VO.cons rfl (V1.loadRef (k := 1) rfl rfl tyk_3 rfl rfl rfl rfl rfl (ltb rfl) ?_)
  refine VO.cons rfl (V1.call rfl rfl rfl cok_151 rfl (ok_spec_l4For hh1) rfl (ltb rfl) ?_)
  rintro _ _ ⟨b2, rfl, rfl⟩
  refine VO.weakenK (Keeps.freezeG 0 rn [(18, .vl rn 4 (List.map encRule y1))] [(b1, ⟨1, List.map encInt ([] : List Int)⟩), (b0, ⟨4, [encRecord ρ0 r_]⟩)] (f := encRule) (l := y1) rfl (fun _ => rfl) ⟨⟨_, rfl, .here⟩, trivial⟩ ⟨_, _, rfl, rfl, .inl rfl, ⟨_, _, rfl, rfl, .inl rfl, rfl⟩⟩ rfl iNil) ?_
  refine VO.cons rfl (V1.assign rfl rfl rfl (ltb rfl) ?_)
  refine VO.nil ?_
  refine V.keep 41 [2, 6, 7] [0, 1] (E0 := [(2, .ref b0 4 0 0), (6, .sref b1 1 0 (List.length ([] : List Int))), (7, .vl rn 4 (List.map encRule y1))]) (H0 := [(b1, ⟨1, List.map encInt ([] : List Int)⟩), (b0, ⟨4, [encRecord ρ0 r_]⟩)]) rfl (⟨_, _, rfl, rfl, ⟨_, _, rfl, rfl, ⟨_, _, rfl, rfl, rfl⟩⟩⟩) (⟨_, _, rfl, rfl, ⟨_, _, rfl, rfl, rfl⟩⟩) rfl ?_
  refine V.seq ?_
  refine V.seq ?_
  refine V.region ?_
  refine VO.cons rfl (V1.assign rfl rfl rfl (ltb rfl) ?_)
  refine VO.nil ?_
  replace hm0 := bindO hm0; rcases hm0 with ⟨e0, he1, hm0⟩
  refine V.cutT (D := (List Int) × (Nat)) (fun ⟨out_, b3⟩ => ⟨41, [(6, .sref b3 1 0 (List.length out_))], [(b3, ⟨1, List.map encInt out_⟩)]⟩) (fun ⟨out_, b3⟩ => (out_ = e0)) ?_ ?_
  ·
   refine V.block ?_
   refine V.keep 41 [6, 8, 2, 7] [0, 1] (E0 := [(6, .sref b1 1 0 (List.length ([] : List Int))), (8, .int .i64 (0 : Int)), (2, .ref b0 4 0 0), (7, .vl rn 4 (List.map encRule y1))]) (H0 := [(b1, ⟨1, List.map encInt ([] : List Int)⟩), (b0, ⟨4, [encRecord ρ0 r_]⟩)]) rfl (⟨_, _, rfl, rfl, ⟨_, _, rfl, rfl, ⟨_, _, rfl, rfl, ⟨_, _, rfl, rfl, rfl⟩⟩⟩⟩) (⟨_, _, rfl, rfl, ⟨_, _, rfl, rfl, rfl⟩⟩) rfl ?_
   refine V.loopE (D := Nat × (List Int × Int) × (Nat)) (fun ⟨n0, ⟨out_0, i⟩, b4⟩ => [(6, .sref b4 1 0 (List.length out_0)), (8, .int .i64 i)]) (fun ⟨n0, ⟨out_0, i⟩, b4⟩ => [(b4, ⟨1, List.map encInt out_0⟩)]) (fun ⟨n0, ⟨out_0, i⟩, b4⟩ => loopO (M.spec_WaitsFor_l0 r_ y1) n0 (out_0, i) = some e0) (fun ⟨n0, _, _⟩ => n0) (rounds, (([] : List Int), (0 : Int)), b1) rfl he1 ?_
   rintro ⟨n0, ⟨out_0, i⟩, b4⟩ hP0
   obtain ⟨m0, y2, rfl, hm1, hl1, hr1⟩ := loop_head hP0
   unfold M.spec_WaitsFor_l0 at hm1; dsimp only at hm1
   show V _ _ _ ⟨41, [(6, .sref b4 1 0 (List.length out_0)), (8, .int .i64 i), (2, .ref b0 4 0 0), (7, .vl rn 4 (List.map encRule y1))], [(b4, ⟨1, List.map encInt out_0⟩), (b0, ⟨4, [encRecord ρ0 r_]⟩)]⟩
   refine V.seq ?_
   refine V.seq ?_
   refine V.region ?_
   refine VO.cons rfl (V1.move rfl rfl rfl (ltb rfl) ?_)
   refine VO.cons rfl (V1.move rfl rfl rfl (ltb rfl) ?_)
   refine VO.cons rfl (V1.lenMap rfl rfl rfl rfl rfl rfl isl_27 (ltb rfl) ?_)
   refine VO.cons rfl (V1.int rfl rfl rfl rfl rfl (ltb rfl) ?_)
   refine VO.nil ?_
   refine V.cond rfl (fun hc1 => ?_) (fun hc1 => ?_)
   ·
    replace hm1 := cond_t hc1 hm1
    refine V.skip ?_
    refine V.keep 41 [2, 6, 7, 8] [0, 1] (E0 := [(2, .ref b0 4 0 0), (6, .sref b4 1 0 (List.length out_0)), (7, .vl rn 4 (List.map encRule y1)), (8, .int .i64 i)]) (H0 := [(b4, ⟨1, List.map encInt out_0⟩), (b0, ⟨4, [encRecord ρ0 r_]⟩)]) rfl (⟨_, _, rfl, rfl, ⟨_, _, rfl, rfl, ⟨_, _, rfl, rfl, ⟨_, _, rfl, rfl, rfl⟩⟩⟩⟩) (⟨_, _, rfl, rfl, ⟨_, _, rfl, rfl, rfl⟩⟩) rfl ?_
    refine V.seq ?_
    replace hm1 := bindO hm1; rcases hm1 with ⟨j0, hm2, hm1⟩
    refine V.cutT (D := (List Int) × (Nat)) (fun ⟨out_1, b5⟩ => ⟨41, [(6, .sref b5 1 0 (List.length out_1)), (2, .ref b0 4 0 0), (7, .vl rn 4 (List.map encRule y1)), (8, .int .i64 i)], [(b5, ⟨1, List.map encInt out_1⟩), (b0, ⟨4, [encRecord ρ0 r_]⟩)]⟩) (fun ⟨out_1, b5⟩ => (out_1 = j0)) ?_ ?_
    ·
     refine V.block ?_
     refine V.seq ?_
     replace hm2 := asrt_some hm2; rcases hm2 with ⟨hh2, hm2⟩
     replace hm2 := bindO hm2; rcases hm2 with ⟨y3, hh3, hm2⟩
     refine V.regionM 41 5 [⟨[(2, none)], [], none⟩, ⟨[(7, none)], [], none⟩, ⟨[(8, none)], [], none⟩, ⟨[(26, some 1), (27, some 0)], [], none⟩, ⟨[(28, some 0)], [], none⟩] [(2, none), (6, none), (7, none), (8, none), (25, some 4), (29, some 0)] (⟨_, rfl, ⟨_, rfl, ⟨_, rfl, ⟨_, rfl, ⟨_, rfl, ⟨rfl, rfl⟩⟩⟩⟩⟩⟩) mixed_orders rfl (by decide +kernel) (fun hck8 => ?_)
     refine VP.step (p := ?pv86) rfl rfl rfl (⟨_, _, rfl, rfl, rfl⟩) ?hv86 ?rest86 hck8
     case hv86 =>
      intro E1
      refine (V1.loadRefAll (k := 1) rfl rfl tyk_26 rfl rfl rfl rfl rfl (ltb rfl) ?_)
      exact rfl
     refine VP.step (p := ?pv87) rfl rfl rfl (⟨_, _, rfl, rfl, rfl⟩) ?hv87 ?rest87 hck8
     case hv87 =>
      intro E1
      refine (V1.move rfl rfl rfl (ltb rfl) ?_)
      exact rfl
     refine VP.step (p := ?pv88) rfl rfl rfl (⟨_, _, rfl, rfl, rfl⟩) ?hv88 ?rest88 hck8
     case hv88 =>
      intro E1
      refine (V1.move rfl rfl rfl (ltb rfl) ?_)
      exact rfl
     refine VP.step (p := ?pv89) rfl rfl rfl (⟨_, _, rfl, rfl, ⟨_, _, rfl, rfl, rfl⟩⟩) ?hv89 ?rest89 hck8
     case hv89 =>
      intro E1
      refine (V1.indexI rfl rfl esz_27 rfl rfl hh2 (ltb rfl) ?_)
      exact rfl
     refine VP.step (p := ?pv90) rfl rfl rfl (⟨_, _, rfl, rfl, rfl⟩) ?hv90 ?rest90 hck8
     case hv90 =>
      intro E1
      refine (V1.loadPinAll rfl rfl tyk_37 rfl rfl (ltb rfl) ?_)
      exact rfl
     refine VP.fin rfl (⟨_, _, rfl, rfl, ⟨_, _, rfl, rfl, ⟨_, _, rfl, rfl, ⟨_, _, rfl, rfl, ⟨_, _, rfl, rfl, ⟨_, _, rfl, rfl, rfl⟩⟩⟩⟩⟩⟩) ?_
     refine VO.cons rfl (V1.call rfl rfl rfl cok_152 rfl (ok_spec_l6End hh3) rfl (ltb rfl) ?_)
     rintro _ _ ⟨rfl, rfl⟩
     refine VO.cons rfl (V1.int rfl rfl rfl rfl rfl (ltb rfl) ?_)
     refine VO.nil ?_
     refine V.cond rfl (fun hc2 => ?_) (fun hc2 => ?_)
     ·
      replace hm2 := cond_t hc2 hm2
      replace hm2 := asrt_some hm2; rcases hm2 with ⟨hh4, hm2⟩
      replace hm2 := asrt_some hm2; rcases hm2 with ⟨hh5, hm2⟩
      refine V.region ?_
      refine VO.cons rfl (V1.move rfl rfl rfl (ltb rfl) ?_)
      refine VO.cons rfl (V1.move rfl rfl rfl (ltb rfl) ?_)
      refine VO.cons rfl (V1.move rfl rfl rfl (ltb rfl) ?_)
      refine VO.cons rfl (V1.indexI rfl rfl esz_27 rfl rfl hh4 (ltb rfl) ?_)
      refine VO.cons rfl (V1.fieldPin rfl rfl fo_37_1 rfl (ltb rfl) ?_)
      refine VO.cons rfl (V1.loadPin rfl rfl tyk_3 rfl rfl (ltb rfl) ?_)
      refine VO.cons rfl (V1.buildSliceT (f := encInt) ([(y1.getD (Int.toNat i) default).Event] : List Int) rfl rfl esz_30 zk_3 rfl rfl rfl rfl rfl rfl rfl (ltb rfl) ?_)
      intro b6
      refine VO.cons rfl (V1.appendMap (k := 1) (f := encInt) (l := out_0) (m := ([(y1.getD (Int.toNat i) default).Event] : List Int)) rfl rfl rfl rfl rfl esz_30 eby_30 zk_3 rfl rfl rfl (SrcOf.srMap (k := 0) rfl isl_30) hh5 (ltb rfl) ?_)
      intro b7
      refine VO.cons rfl (V1.assign rfl rfl rfl (ltb rfl) ?_)
      refine VO.nil ?_
      exact ⟨((out_0 ++ ([(y1.getD (Int.toNat i) default).Event] : List Int)), b7), Option.some.inj hm2, Keeps.mk (ks := [0, 2]) rfl ⟨rfl, rfl, rfl, rfl, trivial⟩ (⟨_, _, rfl, rfl, ⟨_, _, rfl, rfl, rfl⟩⟩) rfl⟩
     ·
      replace hm2 := cond_f hc2 hm2
      refine V.skip ?_
      exact ⟨(out_0, b4), Option.some.inj hm2, Keeps.mk (ks := [0, 1]) rfl ⟨rfl, rfl, rfl, rfl, trivial⟩ (⟨_, _, rfl, rfl, ⟨_, _, rfl, rfl, rfl⟩⟩) rfl⟩
    ·
     rintro ⟨out_1, b5⟩ rfl
     try dsimp only at hm1
     refine V.region ?_
     refine VO.cons rfl (V1.move rfl rfl rfl (ltb rfl) ?_)
     refine VO.cons rfl (V1.int rfl rfl rfl rfl rfl (ltb rfl) ?_)
     refine VO.cons rfl (V1.assign rfl rfl rfl (ltb rfl) ?_)
     refine VO.nil ?_
     exact ⟨(m0, (out_1, (IntKind.i64.wrap (i + (1 : Int)))), b5), hl1 _ (Option.some.inj hm1).symm, Nat.lt_succ_self _, Keeps.mk (ks := [0, 1]) rfl ⟨rfl, rfl, rfl, rfl, trivial⟩ (⟨_, _, rfl, rfl, ⟨_, _, rfl, rfl, rfl⟩⟩) rfl⟩
   ·
    replace hm1 := cond_f hc1 hm1
    refine V.exit ?_
    obtain rfl := hr1 _ (Option.some.inj hm1).symm
    exact ⟨(out_0, b4), rfl, Keeps.mk (ks := [0]) rfl ⟨rfl, trivial⟩ (⟨_, _, rfl, rfl, rfl⟩) rfl⟩
  ·
   rintro ⟨out_, b3⟩ rfl
   try dsimp only at hm0
   refine V.seq ?_
   refine V.region ?_
   refine VO.cons rfl (V1.move rfl rfl rfl (ltb rfl) ?_)
   refine VO.cons rfl (V1.assign rfl rfl rfl (ltb rfl) ?_)
   refine VO.cons rfl (V1.assign rfl rfl rfl (ltb rfl) ?_)
   refine VO.nil ?_
   refine V.keep 41 [4, 5] [0] (E0 := [(4, .sref b3 1 0 (List.length out_)), (5, .bool true)]) (H0 := [(b3, ⟨1, List.map encInt out_⟩)]) rfl (⟨_, _, rfl, rfl, ⟨_, _, rfl, rfl, rfl⟩⟩) (⟨_, _, rfl, rfl, rfl⟩) rfl ?_
   refine V.ret ?_
   obtain rfl := Option.some.inj hm0
   exact ⟨_, _, ⟨_, _, rfl, rfl, ⟨_, _, rfl, rfl, rfl⟩⟩, List.Sublist.refl _, b3, rfl, rfl⟩

theorem ok_impl_DecidingRule {ρ0 ρ1 rn : Nat} {r_ : Record} {schedule : List Rule} {r : Rule × Bool} (h : M.impl_DecidingRule r_ schedule = some r) : Does Try.prog 21 [encRecord ρ0 r_, .vl ρ1 4 (List.map encRule schedule)] [] rn (fun x H => x = .tup [encRule r.1, .bool r.2] ∧ H = []) := by
 have hm0 := h; clear h; unfold M.impl_DecidingRule at hm0
 try dsimp only at hm0
 refine Does.intro (N := 23) Try.func21 rfl rfl rfl rfl ?_
 intro w0 S0
 refine V.seq ?_
 refine V.region ?_
 refine VO.cons rfl (V1.boxN (n := 4) rfl rfl rfl rfl rfl (ltb rfl) ?_)
 intro b0
 refine VO.cons rfl (V1.alloc rfl rfl zk_37 (ltb rfl) ?_)
 intro b1
 refine VO.cons rfl (V1.assign rfl rfl rfl (ltb rfl) ?_)
 refine VO.nil ?_
 refine V.seq ?_
 refine V.seq ?_
 replace hm0 := bindO hm0; rcases hm0 with ⟨y0, hh0, hm0⟩
 refine V.region ?_
 refine VO.cons rfl (V1.loadRefAll (k := 1) rfl rfl tyk_26 rfl rfl rfl rfl rfl (ltb rfl) ?_)
 refine VO.cons rfl (V1.move rfl rfl rfl (ltb rfl) ?_)
 refine VO.cons rfl (V1.call rfl rfl rfl cok_147 rfl (ok_impl_areBoth hh0) rfl (ltb rfl) ?_)
 rintro _ _ ⟨rfl, rfl⟩
 refine VO.cons rfl (V1.not rfl rfl rfl (ltb rfl) ?_)
 refine VO.nil ?_
 refine V.keep 23 [1, 2, 4, 12] [0, 1] (E0 := [(1, .vl ρ1 4 (List.map encRule schedule)), (2, .ref b0 4 0 0), (4, .ref b1 4 0 0), (12, .bool (!y0))]) (H0 := [(b1, ⟨4, [.agg [.int .i64 (0 : Int), .int .i64 (0 : Int), .int .i64 (0 : Int), .int .i64 (0 : Int)]]⟩), (b0, ⟨4, [encRecord ρ0 r_]⟩)]) rfl (⟨_, _, rfl, rfl, ⟨_, _, rfl, rfl, ⟨_, _, rfl, rfl, ⟨_, _, rfl, rfl, rfl⟩⟩⟩⟩) (⟨_, _, rfl, rfl, ⟨_, _, rfl, rfl, rfl⟩⟩) rfl ?_
 refine V.cond rfl (fun hc0 => ?_) (fun hc0 => ?_)
 ·
  replace hm0 := cond_t hc0 hm0
  refine V.seq ?_
  refine V.region ?_
  refine VO.cons rfl (V1.build rfl rfl zk_37 pl_37 rfl rfl (ltb rfl) ?_)
  refine VO.cons rfl (V1.storeRefAll (k := 0) rfl rfl tyk_37 rfl rfl rfl rfl rfl rfl ?_)
  refine VO.cons rfl (V1.assign rfl rfl rfl (ltb rfl) ?_)
  refine VO.nil ?_
  refine V.ret ?_
  obtain rfl := Option.some.inj hm0
  exact ⟨_, [], ⟨_, _, rfl, ⟨_, _, 0, _, rfl, rfl, rfl, rfl, tyk_37, rfl⟩, ⟨_, _, rfl, rfl, rfl⟩⟩, List.nil_sublist _, rfl, rfl⟩
 ·
  replace hm0 := cond_f hc0 hm0
  refine V.skip ?_
  refine V.seq ?_
  replace hm0 := bindO hm0; rcases hm0 with ⟨y1, hh1, hm0⟩
  refine V.region ?_
  refine VO.cons rfl (V1.loadRefAll (k := 1) rfl rfl tyk_26 rfl rfl rfl rfl rfl (ltb rfl) ?_)
  refine VO.cons rfl (V1.move rfl rfl rfl (ltb rfl) ?_)
  refine VO.cons rfl (V1.call rfl rfl rfl cok_153 rfl (ok_impl_deciding hh1) rfl (ltb rfl) ?_)
  rintro _ _ ⟨rfl, rfl⟩
  refine VO.cons rfl (V1.move rfl rfl rfl (ltb rfl) ?_)
  refine VO.cons rfl (V1.extract rfl rfl rfl rfl (ltb rfl) ?_)
  refine VO.cons rfl (V1.extract rfl rfl rfl rfl (ltb rfl) ?_)
  refine VO.cons rfl (V1.extract rfl rfl rfl rfl (ltb rfl) ?_)
  refine VO.cons rfl (V1.alloc rfl rfl zk_37 (ltb rfl) ?_)
  intro b2
  refine VO.cons rfl (V1.storeRefAll (k := 0) rfl rfl tyk_37 rfl rfl rfl rfl rfl rfl ?_)
  refine VO.cons rfl (V1.assign rfl rfl rfl (ltb rfl) ?_)
  refine VO.cons rfl (V1.assign rfl rfl rfl (ltb rfl) ?_)
  refine VO.nil ?_
  refine V.keep 23 [4, 6, 8] [0, 1] (E0 := [(4, .ref b1 4 0 0), (6, .ref b2 4 0 0), (8, .bool y1.2.2)]) (H0 := [(b2, ⟨4, [encRule y1.1]⟩), (b1, ⟨4, [.agg [.int .i64 (0 : Int), .int .i64 (0 : Int), .int .i64 (0 : Int), .int .i64 (0 : Int)]]⟩)]) rfl (⟨_, _, rfl, rfl, ⟨_, _, rfl, rfl, ⟨_, _, rfl, rfl, rfl⟩⟩⟩) (⟨_, _, rfl, rfl, ⟨_, _, rfl, rfl, rfl⟩⟩) rfl ?_
  refine V.seq ?_
  refine V.region ?_
  refine VO.cons rfl (V1.loadRefAll (k := 0) rfl rfl tyk_37 rfl rfl rfl rfl rfl (ltb rfl) ?_)
  refine VO.cons rfl (V1.move rfl rfl rfl (ltb rfl) ?_)
  refine VO.cons rfl (V1.storeRefAll (k := 1) rfl rfl tyk_37 rfl rfl rfl rfl rfl rfl ?_)
  refine VO.cons rfl (V1.assign rfl rfl rfl (ltb rfl) ?_)
  refine VO.nil ?_
  refine V.ret ?_
  obtain rfl := Option.some.inj hm0
  exact ⟨_, [], ⟨_, _, rfl, ⟨_, _, 1, _, rfl, rfl, rfl, rfl, tyk_37, rfl⟩, ⟨_, _, rfl, rfl, rfl⟩⟩, List.nil_sublist _, rfl, rfl⟩

theorem ok_spec_DecidingRule {ρ0 ρ1 rn : Nat} {r_ : Record} {schedule : List Rule} {r : Rule × Bool} (h : M.spec_DecidingRule r_ schedule = some r) : Does Try.prog 22 [encRecord ρ0 r_, .vl ρ1 4 (List.map encRule schedule)] [] rn (fun x H => x = .tup [encRule r.1, .bool r.2] ∧ H = []) := by
 have hm0 := h; clear h; unfold M.spec_DecidingRule at hm0
 try dsimp only at hm0
 refine Does.intro (N := 22) Try.func22 rfl rfl rfl rfl ?_
 intro w0 S0
 refine V.seq ?_
 refine V.region ?_
 refine VO.cons rfl (V1.boxN (n := 4) rfl rfl rfl rfl rfl (ltb rfl) ?_)
 intro b0
 refine VO.cons rfl (V1.alloc rfl rfl zk_37 (ltb rfl) ?_)
 intro b1
 refine VO.cons rfl (V1.assign rfl rfl rfl (ltb rfl) ?_)
 refine VO.nil ?_
 refine V.seq ?_
 refine V.seq ?_
 replace hm0 := bindO hm0; rcases hm0 with ⟨y0, hh0, hm0⟩
 refine V.region ?_
 refine VO.cons rfl (V1.loadRefAll (k := 1) rfl rfl tyk_26 rfl rfl rfl rfl rfl (ltb rfl) ?_)
 refine VO.cons rfl (V1.move rfl rfl rfl (ltb rfl) ?_)
 refine VO.cons rfl (V1.call rfl rfl rfl cok_150 rfl (ok_spec_l6Asked hh0) rfl (ltb rfl) ?_)
 rintro _ _ ⟨rfl, rfl⟩
 refine VO.cons rfl (V1.not rfl rfl rfl (ltb rfl) ?_)
 refine VO.nil ?_
 refine V.keep 22 [1, 2, 4, 11] [0, 1] (E0 := [(1, .vl ρ1 4 (List.map encRule schedule)), (2, .ref b0 4 0 0), (4, .ref b1 4 0 0), (11, .bool (!y0))]) (H0 := [(b1, ⟨4, [.agg [.int .i64 (0 : Int), .int .i64 (0 : Int), .int .i64 (0 : Int), .int .i64 (0 : Int)]]⟩), (b0, ⟨4, [encRecord ρ0 r_]⟩)]) rfl (⟨_, _, rfl, rfl, ⟨_, _, rfl, rfl, ⟨_, _, rfl, rfl, ⟨_, _, rfl, rfl, rfl⟩⟩⟩⟩) (⟨_, _, rfl, rfl, ⟨_, _, rfl, rfl, rfl⟩⟩) rfl ?_
 refine V.cond rfl (fun hc0 => ?_) (fun hc0 => ?_)
 ·
  replace hm0 := cond_t hc0 hm0
  refine V.seq ?_
  refine V.region ?_
  refine VO.cons rfl (V1.build rfl rfl zk_37 pl_37 rfl rfl (ltb rfl) ?_)
  refine VO.cons rfl (V1.storeRefAll (k := 0) rfl rfl tyk_37 rfl rfl rfl rfl rfl rfl ?_)
  refine VO.cons rfl (V1.assign rfl rfl rfl (ltb rfl) ?_)
  refine VO.nil ?_
  refine V.ret ?_
  obtain rfl := Option.some.inj hm0
  exact ⟨_, [], ⟨_, _, rfl, ⟨_, _, 0, _, rfl, rfl, rfl, rfl, tyk_37, rfl⟩, ⟨_, _, rfl, rfl, rfl⟩⟩, List.nil_sublist _, rfl, rfl⟩
 ·
  replace hm0 := cond_f hc0 hm0
  refine V.skip ?_
  refine V.seq ?_
  replace hm0 := bindO hm0; rcases hm0 with ⟨y1, hh1, hm0⟩
  refine V.region ?_
  refine VO.cons rfl (V1.loadRefAll (k := 1) rfl rfl tyk_26 rfl rfl rfl rfl rfl (ltb rfl) ?_)
  refine VO.cons rfl (V1.move rfl rfl rfl (ltb rfl) ?_)
  refine VO.cons rfl (V1.call rfl rfl rfl cok_154 rfl (ok_spec_l6Deciding hh1) rfl (ltb rfl) ?_)
  rintro _ _ ⟨rfl, rfl⟩
  refine VO.cons rfl (V1.move rfl rfl rfl (ltb rfl) ?_)
  refine VO.cons rfl (V1.extract rfl rfl rfl rfl (ltb rfl) ?_)
  refine VO.cons rfl (V1.extract rfl rfl rfl rfl (ltb rfl) ?_)
  refine VO.cons rfl (V1.alloc rfl rfl zk_37 (ltb rfl) ?_)
  intro b2
  refine VO.cons rfl (V1.storeRefAll (k := 0) rfl rfl tyk_37 rfl rfl rfl rfl rfl rfl ?_)
  refine VO.cons rfl (V1.assign rfl rfl rfl (ltb rfl) ?_)
  refine VO.nil ?_
  refine V.keep 22 [4, 6, 7] [0, 1] (E0 := [(4, .ref b1 4 0 0), (6, .ref b2 4 0 0), (7, .int .i64 y1.2)]) (H0 := [(b2, ⟨4, [encRule y1.1]⟩), (b1, ⟨4, [.agg [.int .i64 (0 : Int), .int .i64 (0 : Int), .int .i64 (0 : Int), .int .i64 (0 : Int)]]⟩)]) rfl (⟨_, _, rfl, rfl, ⟨_, _, rfl, rfl, ⟨_, _, rfl, rfl, rfl⟩⟩⟩) (⟨_, _, rfl, rfl, ⟨_, _, rfl, rfl, rfl⟩⟩) rfl ?_
  refine V.seq ?_
  refine V.region ?_
  refine VO.cons rfl (V1.loadRefAll (k := 0) rfl rfl tyk_37 rfl rfl rfl rfl rfl (ltb rfl) ?_)
  refine VO.cons rfl (V1.move rfl rfl rfl (ltb rfl) ?_)
  refine VO.cons rfl (V1.int rfl rfl rfl rfl rfl (ltb rfl) ?_)
  refine VO.cons rfl (V1.storeRefAll (k := 1) rfl rfl tyk_37 rfl rfl rfl rfl rfl rfl ?_)
  refine VO.cons rfl (V1.assign rfl rfl rfl (ltb rfl) ?_)
  refine VO.nil ?_
  refine V.ret ?_
  obtain rfl := Option.some.inj hm0
  exact ⟨_, [], ⟨_, _, rfl, ⟨_, _, 1, _, rfl, rfl, rfl, rfl, tyk_37, rfl⟩, ⟨_, _, rfl, rfl, rfl⟩⟩, List.nil_sublist _, rfl, rfl⟩

theorem ok_impl_DayOf {ρ0 rn : Nat} {r_ : Record} {kind : Int} {r : Int × Bool} (h : M.impl_DayOf r_ kind = some r) : Does Try.prog 23 [encRecord ρ0 r_, .int .i64 kind] [] rn (fun x H => x = .tup [.int .i64 r.1, .bool r.2] ∧ H = []) := by
 have hm0 := h; clear h; unfold M.impl_DayOf at hm0
 try dsimp only at hm0
 refine Does.intro (N := 14) Try.func23 rfl rfl rfl rfl ?_
 intro w0 S0
 refine V.seq ?_
 refine V.region ?_
 refine VO.cons rfl (V1.boxN (n := 4) rfl rfl rfl rfl rfl (ltb rfl) ?_)
 intro b0
 refine VO.cons rfl (V1.assign rfl rfl rfl (ltb rfl) ?_)
 refine VO.cons rfl (V1.assign rfl rfl rfl (ltb rfl) ?_)
 refine VO.nil ?_
 refine V.seq ?_
 refine V.seq ?_
 replace hm0 := bindO hm0; rcases hm0 with ⟨y0, hh0, hm0⟩
 refine V.region ?_
 refine VO.cons rfl (V1.loadRefAll (k := 0) rfl rfl tyk_26 rfl rfl rfl rfl rfl (ltb rfl) ?_)
 refine VO.cons rfl (V1.call rfl rfl rfl cok_155 rfl (ok_impl_IsRecord hh0) rfl (ltb rfl) ?_)
 rintro _ _ ⟨rfl, rfl⟩
 refine VO.cons rfl (V1.not rfl rfl rfl (ltb rfl) ?_)
 refine VO.nil ?_
 refine V.keep 14 [1, 2, 8] [0] (E0 := [(1, .int .i64 kind), (2, .ref b0 4 0 0), (8, .bool (!y0))]) (H0 := [(b0, ⟨4, [encRecord ρ0 r_]⟩)]) rfl (⟨_, _, rfl, rfl, ⟨_, _, rfl, rfl, ⟨_, _, rfl, rfl, rfl⟩⟩⟩) (⟨_, _, rfl, rfl, rfl⟩) rfl ?_
 refine V.cond rfl (fun hc0 => ?_) (fun hc0 => ?_)
 ·
  replace hm0 := cond_t hc0 hm0
  refine V.seq ?_
  refine V.region ?_
  refine VO.cons rfl (V1.assign rfl rfl rfl (ltb rfl) ?_)
  refine VO.cons rfl (V1.assign rfl rfl rfl (ltb rfl) ?_)
  refine VO.nil ?_
  refine V.ret ?_
  obtain rfl := Option.some.inj hm0
  exact ⟨_, [], ⟨_, _, rfl, rfl, ⟨_, _, rfl, rfl, rfl⟩⟩, List.nil_sublist _, rfl, rfl⟩
 ·
  replace hm0 := cond_f hc0 hm0
  refine V.skip ?_
  refine V.seq ?_
  replace hm0 := bindO hm0; rcases hm0 with ⟨y1, hh1, hm0⟩
  refine V.region ?_
  refine VO.cons rfl (V1.loadRefAll (k := 0) rfl rfl tyk_26 rfl rfl rfl rfl rfl (ltb rfl) ?_)
  refine VO.cons rfl (V1.move rfl rfl rfl (ltb rfl) ?_)
  refine VO.cons rfl (V1.call rfl rfl rfl cok_156 rfl (ok_impl_dayOf hh1) rfl (ltb rfl) ?_)
  rintro _ _ ⟨rfl, rfl⟩
  refine VO.cons rfl (V1.extract rfl rfl rfl rfl (ltb rfl) ?_)
  refine VO.cons rfl (V1.extract rfl rfl rfl rfl (ltb rfl) ?_)
  refine VO.cons rfl (V1.assign rfl rfl rfl (ltb rfl) ?_)
  refine VO.cons rfl (V1.assign rfl rfl rfl (ltb rfl) ?_)
  refine VO.nil ?_
  refine V.ret ?_
  obtain rfl := Option.some.inj hm0
  exact ⟨_, [], ⟨_, _, rfl, rfl, ⟨_, _, rfl, rfl, rfl⟩⟩, List.nil_sublist _, rfl, rfl⟩

theorem ok_laws_vHas {ρ0 rn : Nat} {l : List Int} {x : Int} {r : Bool} (h : M.laws_vHas l x = some r) : Does Try.prog 24 [.vl ρ0 1 (List.map encInt l), .int .i64 x] [] rn (fun x H => x = .bool r ∧ H = []) := by
 have hm0 := h; clear h; unfold M.laws_vHas at hm0
 try dsimp only at hm0
 refine Does.intro (N := 18) Try.func24 rfl rfl rfl rfl ?_
 intro w0 S0
 refine V.seq ?_
 refine V.region ?_
 refine VO.cons rfl (V1.assign rfl rfl rfl (ltb rfl) ?_)
 refine VO.nil ?_
 refine V.seq ?_
 refine V.seq ?_
 refine V.region ?_
 refine VO.cons rfl (V1.assign rfl rfl rfl (ltb rfl) ?_)
 refine VO.nil ?_
 replace hm0 := bindO hm0; rcases hm0 with ⟨e0, he1, hm0⟩
 refine V.cutT (D := (Unit) × (Unit)) (fun ⟨_, _⟩ => ⟨18, [], []⟩) (fun ⟨_, _⟩ => (.inl () = e0)) ?_ ?_
 ·
  refine V.block ?_
  refine V.keep 18 [5, 0, 1] [] (E0 := [(5, .int .i64 (0 : Int)), (0, .vl ρ0 1 (List.map encInt l)), (1, .int .i64 x)]) (H0 := []) rfl (⟨_, _, rfl, rfl, ⟨_, _, rfl, rfl, ⟨_, _, rfl, rfl, rfl⟩⟩⟩) (rfl) rfl ?_
  refine V.loopE (D := Nat × (Int) × (Unit)) (fun ⟨n0, i, _⟩ => [(5, .int .i64 i)]) (fun ⟨n0, i, _⟩ => []) (fun ⟨n0, i, _⟩ => loopO (M.laws_vHas_l0 l x) n0 i = some e0) (fun ⟨n0, _, _⟩ => n0) (rounds, (0 : Int), ()) rfl he1 ?_
  rintro ⟨n0, i, _⟩ hP0
  obtain ⟨m0, y0, rfl, hm1, hl1, hr1⟩ := loop_head hP0
  unfold M.laws_vHas_l0 at hm1; dsimp only at hm1
  show V _ _ _ ⟨18, [(5, .int .i64 i), (0, .vl ρ0 1 (List.map encInt l)), (1, .int .i64 x)], []⟩
  refine V.seq ?_
  refine V.seq ?_
  refine V.region ?_
  refine VO.cons rfl (V1.move rfl rfl rfl (ltb rfl) ?_)
  refine VO.cons rfl (V1.move rfl rfl rfl (ltb rfl) ?_)
  refine VO.cons rfl (V1.lenMap rfl rfl rfl rfl rfl rfl isl_30 (ltb rfl) ?_)
  refine VO.cons rfl (V1.int rfl rfl rfl rfl rfl (ltb rfl) ?_)
  refine VO.nil ?_
  refine V.cond rfl (fun hc0 => ?_) (fun hc0 => ?_)
  ·
   replace hm1 := cond_t hc0 hm1
   refine V.skip ?_
   refine V.keep 18 [0, 1, 5] [] (E0 := [(0, .vl ρ0 1 (List.map encInt l)), (1, .int .i64 x), (5, .int .i64 i)]) (H0 := []) rfl (⟨_, _, rfl, rfl, ⟨_, _, rfl, rfl, ⟨_, _, rfl, rfl, rfl⟩⟩⟩) (rfl) rfl ?_
   refine V.seq ?_
   refine V.block ?_
   refine V.seq ?_
   replace hm1 := asrt_some hm1; rcases hm1 with ⟨hh0, hm1⟩
   refine V.region ?_
   refine VO.cons rfl (V1.move rfl rfl rfl (ltb rfl) ?_)
   refine VO.cons rfl (V1.move rfl rfl rfl (ltb rfl) ?_)
   refine VO.cons rfl (V1.indexI rfl rfl esz_30 rfl rfl hh0 (ltb rfl) ?_)
   refine VO.cons rfl (V1.loadPin rfl rfl tyk_3 rfl rfl (ltb rfl) ?_)
   refine VO.cons rfl (V1.move rfl rfl rfl (ltb rfl) ?_)
   refine VO.cons rfl (V1.int rfl rfl rfl rfl rfl (ltb rfl) ?_)
   refine VO.nil ?_
   refine V.keep 18 [0, 1, 5, 17] [] (E0 := [(0, .vl ρ0 1 (List.map encInt l)), (1, .int .i64 x), (5, .int .i64 i), (17, .bool ((l.getD (Int.toNat i) default) == x))]) (H0 := []) rfl (⟨_, _, rfl, rfl, ⟨_, _, rfl, rfl, ⟨_, _, rfl, rfl, ⟨_, _, rfl, rfl, rfl⟩⟩⟩⟩) (rfl) rfl ?_
   refine V.cond rfl (fun hc1 => ?_) (fun hc1 => ?_)
   ·
    replace hm1 := cond_t hc1 hm1
    refine V.seq ?_
    refine V.region ?_
    refine VO.cons rfl (V1.assign rfl rfl rfl (ltb rfl) ?_)
    refine VO.nil ?_
    refine V.ret ?_
    obtain rfl := hr1 _ (Option.some.inj hm1).symm
    change some _ = some _ at hm0
    obtain rfl := Option.some.inj hm0
    exact ⟨_, [], ⟨_, _, rfl, rfl, rfl⟩, List.nil_sublist _, rfl, rfl⟩
   ·
    replace hm1 := cond_f hc1 hm1
    refine V.skip ?_
    refine V.region ?_
    refine VO.cons rfl (V1.move rfl rfl rfl (ltb rfl) ?_)
    refine VO.cons rfl (V1.int rfl rfl rfl rfl rfl (ltb rfl) ?_)
    refine VO.cons rfl (V1.assign rfl rfl rfl (ltb rfl) ?_)
    refine VO.nil ?_
    exact ⟨(m0, (IntKind.i64.wrap (i + (1 : Int))), ()), hl1 _ (Option.some.inj hm1).symm, Nat.lt_succ_self _, Keeps.mk (ks := []) rfl ⟨rfl, rfl, rfl, trivial⟩ (rfl) rfl⟩
  ·
   replace hm1 := cond_f hc0 hm1
   refine V.exit ?_
   obtain rfl := hr1 _ (Option.some.inj hm1).symm
   exact ⟨((), ()), rfl, Keeps.mk (ks := []) rfl trivial (rfl) rfl⟩
 ·
  rintro ⟨_, _⟩ rfl
  try dsimp only at hm0
  refine V.seq ?_
  refine V.region ?_
  refine VO.cons rfl (V1.assign rfl rfl rfl (ltb rfl) ?_)
  refine VO.nil ?_
  refine V.ret ?_
  obtain rfl := Option.some.inj hm0
  exact ⟨_, [], ⟨_, _, rfl, rfl, rfl⟩, List.nil_sublist _, rfl, rfl⟩

theorem ok_spec_l1Cur_event {ρ0 rn bp : Nat} {c : Cur} {from_ : Int} {r : Event × Cur} (h : M.spec_l1Cur_event c from_ = some r) : Does Try.prog 157 [.ref bp 3 0 0, .int .i64 from_] [(bp, ⟨3, [encCur ρ0 c]⟩)] rn (fun x H => x = encEvent r.1 ∧ H = [(bp, ⟨3, [encCur ρ0 r.2]⟩)]) := by
 have hm0 := h; clear h; unfold M.spec_l1Cur_event at hm0
 try dsimp only at hm0
 refine Does.intro (N := 30) Try.func157 rfl rfl rfl rfl ?_
 intro w0 S0
 refine V.seq ?_
 refine V.region ?_
 refine VO.cons rfl (V1.alloc rfl rfl zk_43 (ltb rfl) ?_)
 intro b0
 refine VO.nil ?_
 refine V.seq ?_
 replace hm0 := bindO hm0; rcases hm0 with ⟨y0, hh0, hm0⟩
 replace hm0 := bindO hm0; rcases hm0 with ⟨y1, hh1, hm0⟩
 refine V.region ?_
 refine VO.cons rfl (V1.move rfl rfl rfl (ltb rfl) ?_)
 refine VO.cons rfl (V1.callM 1 (rn + ρ0 + 1) [] [.ref bp 3 0 0, .int .i64 (5 : Int)] (p := (bp, ⟨3, [encCur ρ0 c]⟩)) rfl rfl rfl cok_177 rfl rfl ⟨_, _, rfl, .same _, ⟨_, _, rfl, .same _, rfl⟩⟩ bwNil (ok_spec_l1Cur_pick hh0) rfl (.inl rfl) (ltb rfl) ?_)
 rintro _ _ ⟨rfl, rfl⟩
 refine VO.cons rfl (V1.int rfl rfl rfl rfl rfl (ltb rfl) ?_)
 refine VO.cons rfl (V1.move rfl rfl rfl (ltb rfl) ?_)
 refine VO.cons rfl (V1.move rfl rfl rfl (ltb rfl) ?_)
 refine VO.cons rfl (V1.buildSliceT (f := encInt) ([(0 : Int), (1 : Int), (30 : Int), (365 : Int), (400 : Int), (1000 : Int)] : List Int) rfl rfl esz_30 zk_3 rfl rfl rfl rfl rfl rfl rfl (ltb rfl) ?_)
 intro b1
 refine VO.cons rfl (V1.callM 1 (rn + ρ0 + 1) [b1] [.ref bp 3 0 0, .vl (rn + ρ0 + 1) 1 (List.map encInt ([(0 : Int), (1 : Int), (30 : Int), (365 : Int), (400 : Int), (1000 : Int)] : List Int))] (p := (bp, ⟨3, [encCur ρ0 y0.2]⟩)) rfl rfl rfl cok_178 rfl rfl ⟨_, _, rfl, .same _, ⟨_, _, rfl, Lend.srMap 0 rfl (fun _ => rfl) (.head _), rfl⟩⟩ (bwCons (k := 0) rfl bwNil) (ok_spec_l1Cur_among hh1) rfl (.inr ⟨(by first | omega | (dsimp only; omega)), by rintro _ _ ⟨rfl, rfl⟩; exact ⟨by simp [PV.no, PV.noL, optS_no, noL_iff, nbeq] <;> omega, by intro b ob h; first | exact optH_no (noL_map (fun _ => by simp [PV.no, PV.noL, noL_iff, nbeq]) _) b ob h | (simp at h; obtain ⟨rfl, rfl⟩ := h; exact noL_map (fun _ => by simp [PV.no, PV.noL, noL_iff, nbeq]) _) | (simp at h; obtain ⟨rfl, rfl⟩ := h; simp [PV.no, PV.noL, optS_no, noL_iff, nbeq] <;> omega)⟩⟩) (ltb rfl) ?_)
 rintro _ _ ⟨rfl, rfl⟩
 refine VO.cons rfl (V1.int rfl rfl rfl rfl rfl (ltb rfl) ?_)
 refine VO.cons rfl (V1.build rfl rfl zk_43 pl_43 rfl rfl (ltb rfl) ?_)
 refine VO.cons rfl (V1.alloc rfl rfl zk_43 (ltb rfl) ?_)
 intro b2
 refine VO.cons rfl (V1.storeRefAll (k := 0) rfl rfl tyk_43 rfl rfl rfl rfl rfl rfl ?_)
 refine VO.nil ?_
 refine V.keep 30 [0, 4, 5] [0, 1, 3] (E0 := [(0, .ref bp 3 0 0), (4, .ref b0 2 0 0), (5, .ref b2 2 0 0)]) (H0 := [(b2, ⟨2, [.agg [.int .i64 (IntKind.i64.wrap ((1 : Int) + y0.1)), .int .i64 (IntKind.i64.wrap (from_ + y1.1))]]⟩), (bp, ⟨3, [encCur ρ0 y1.2]⟩), (b0, ⟨2, [.agg [.int .i64 (0 : Int), .int .i64 (0 : Int)]]⟩)]) rfl (⟨_, _, rfl, rfl, ⟨_, _, rfl, rfl, ⟨_, _, rfl, rfl, rfl⟩⟩⟩) (⟨_, _, rfl, rfl, ⟨_, _, rfl, rfl, ⟨_, _, rfl, rfl, rfl⟩⟩⟩) rfl ?_
 refine V.seq ?_
 refine V.seq ?_
 replace hm0 := bindO hm0; rcases hm0 with ⟨y2, hh2, hm0⟩
 refine V.region ?_
 refine VO.cons rfl (V1.move rfl rfl rfl (ltb rfl) ?_)
 refine VO.cons rfl (V1.callM 1 (rn + ρ0 + 1) [] [.ref bp 3 0 0, .int .i64 (48 : Int)] (p := (bp, ⟨3, [encCur ρ0 y1.2]⟩)) rfl rfl rfl cok_177 rfl rfl ⟨_, _, rfl, .same _, ⟨_, _, rfl, .same _, rfl⟩⟩ bwNil (ok_spec_l1Cur_pick hh2) rfl (.inl rfl) (ltb rfl) ?_)
 rintro _ _ ⟨rfl, rfl⟩
 refine VO.nil ?_
 replace hm0 := bindO hm0; rcases hm0 with ⟨j0, hm1, hm0⟩
 refine V.cutT (D := (Cur × Event) × (Unit)) (fun ⟨⟨c_, e_⟩, _⟩ => ⟨30, [(4, .ref b0 2 0 0), (5, .ref b2 2 0 0)], [(bp, ⟨3, [encCur ρ0 c_]⟩), (b2, ⟨2, [encEvent e_]⟩), (b0, ⟨2, [.agg [.int .i64 (0 : Int), .int .i64 (0 : Int)]]⟩)]⟩) (fun ⟨⟨c_, e_⟩, _⟩ => ((c_, e_) = j0)) ?_ ?_
 ·
  refine V.block ?_
  refine V.seq ?_
  refine V.region ?_
  refine VO.cons rfl (V1.int rfl rfl rfl rfl rfl (ltb rfl) ?_)
  refine VO.cons rfl (V1.assign rfl rfl rfl (ltb rfl) ?_)
  refine VO.nil ?_
  refine V.cond rfl (fun hc0 => ?_) (fun hc0 => ?_)
  ·
   replace hm1 := cond_t hc0 hm1
   replace hm1 := bindO hm1; rcases hm1 with ⟨y3, hh3, hm1⟩
   refine V.region ?_
   refine VO.cons rfl (V1.move rfl rfl rfl (ltb rfl) ?_)
   refine VO.cons rfl (V1.buildSliceT (f := encInt) ([(0 : Int), (9 : Int), (10 : Int)] : List Int) rfl rfl esz_30 zk_3 rfl rfl rfl rfl rfl rfl rfl (ltb rfl) ?_)
   intro b3
   refine VO.cons rfl (V1.callM 1 (rn + ρ0 + 1) [b3] [.ref bp 3 0 0, .vl (rn + ρ0 + 1) 1 (List.map encInt ([(0 : Int), (9 : Int), (10 : Int)] : List Int))] (p := (bp, ⟨3, [encCur ρ0 y2.2]⟩)) rfl rfl rfl cok_178 rfl rfl ⟨_, _, rfl, .same _, ⟨_, _, rfl, Lend.srMap 0 rfl (fun _ => rfl) (.head _), rfl⟩⟩ (bwCons (k := 0) rfl bwNil) (ok_spec_l1Cur_among hh3) rfl (.inr ⟨(by first | omega | (dsimp only; omega)), by rintro _ _ ⟨rfl, rfl⟩; exact ⟨by simp [PV.no, PV.noL, optS_no, noL_iff, nbeq] <;> omega, by intro b ob h; first | exact optH_no (noL_map (fun _ => by simp [PV.no, PV.noL, noL_iff, nbeq]) _) b ob h | (simp at h; obtain ⟨rfl, rfl⟩ := h; exact noL_map (fun _ => by simp [PV.no, PV.noL, noL_iff, nbeq]) _) | (simp at h; obtain ⟨rfl, rfl⟩ := h; simp [PV.no, PV.noL, optS_no, noL_iff, nbeq] <;> omega)⟩⟩) (ltb rfl) ?_)
   rintro _ _ ⟨rfl, rfl⟩
   refine VO.cons rfl (V1.fieldRef rfl rfl fo_43_0 rfl (ltb rfl) ?_)
   refine VO.cons rfl (V1.storeRef (k := 2) rfl rfl tyk_3 rfl rfl rfl rfl rfl rfl rfl rfl rfl ?_)
   refine VO.nil ?_
   exact ⟨((y3.2, (⟨y3.1, (IntKind.i64.wrap (from_ + y1.1))⟩ : Event)), ()), Option.some.inj hm1, Keeps.mk (ks := [0, 2, 3]) rfl ⟨rfl, rfl, trivial⟩ (⟨_, _, rfl, rfl, ⟨_, _, rfl, rfl, ⟨_, _, rfl, rfl, rfl⟩⟩⟩) rfl⟩
  ·
   replace hm1 := cond_f hc0 hm1
   refine V.seq ?_
   refine V.region ?_
   refine VO.cons rfl (V1.int rfl rfl rfl rfl rfl (ltb rfl) ?_)
   refine VO.cons rfl (V1.assign rfl rfl rfl (ltb rfl) ?_)
   refine VO.nil ?_
   refine V.keep 30 [0, 4, 5, 23] [0, 1, 2] (E0 := [(0, .ref bp 3 0 0), (4, .ref b0 2 0 0), (5, .ref b2 2 0 0), (23, .bool (y2.1 == (1 : Int)))]) (H0 := [(bp, ⟨3, [encCur ρ0 y2.2]⟩), (b2, ⟨2, [.agg [.int .i64 (IntKind.i64.wrap ((1 : Int) + y0.1)), .int .i64 (IntKind.i64.wrap (from_ + y1.1))]]⟩), (b0, ⟨2, [.agg [.int .i64 (0 : Int), .int .i64 (0 : Int)]]⟩)]) rfl (⟨_, _, rfl, rfl, ⟨_, _, rfl, rfl, ⟨_, _, rfl, rfl, ⟨_, _, rfl, rfl, rfl⟩⟩⟩⟩) (⟨_, _, rfl, rfl, ⟨_, _, rfl, rfl, ⟨_, _, rfl, rfl, rfl⟩⟩⟩) rfl ?_
   refine V.cond rfl (fun hc1 => ?_) (fun hc1 => ?_)
   ·
    replace hm1 := cond_t hc1 hm1
    replace hm1 := bindO hm1; rcases hm1 with ⟨y4, hh4, hm1⟩
    refine V.region ?_
    refine VO.cons rfl (V1.move rfl rfl rfl (ltb rfl) ?_)
    refine VO.cons rfl (V1.buildSliceT (f := encInt) ([(-1 : Int), (0 : Int), (20001 : Int)] : List Int) rfl rfl esz_30 zk_3 rfl rfl rfl rfl rfl rfl rfl (ltb rfl) ?_)
    intro b4
    refine VO.cons rfl (V1.callM 1 (rn + ρ0 + 1) [b4] [.ref bp 3 0 0, .vl (rn + ρ0 + 1) 1 (List.map encInt ([(-1 : Int), (0 : Int), (20001 : Int)] : List Int))] (p := (bp, ⟨3, [encCur ρ0 y2.2]⟩)) rfl rfl rfl cok_178 rfl rfl ⟨_, _, rfl, .same _, ⟨_, _, rfl, Lend.srMap 0 rfl (fun _ => rfl) (.head _), rfl⟩⟩ (bwCons (k := 0) rfl bwNil) (ok_spec_l1Cur_among hh4) rfl (.inr ⟨(by first | omega | (dsimp only; omega)), by rintro _ _ ⟨rfl, rfl⟩; exact ⟨by simp [PV.no, PV.noL, optS_no, noL_iff, nbeq] <;> omega, by intro b ob h; first | exact optH_no (noL_map (fun _ => by simp [PV.no, PV.noL, noL_iff, nbeq]) _) b ob h | (simp at h; obtain ⟨rfl, rfl⟩ := h; exact noL_map (fun _ => by simp [PV.no, PV.noL, noL_iff, nbeq]) _) | (simp at h; obtain ⟨rfl, rfl⟩ := h; simp [PV.no, PV.noL, optS_no, noL_iff, nbeq] <;> omega)⟩⟩) (ltb rfl) ?_)
    rintro _ _ ⟨rfl, rfl⟩
    refine VO.cons rfl (V1.fieldRef rfl rfl fo_43_1 rfl (ltb rfl) ?_)
    refine VO.cons rfl (V1.storeRef (k := 2) rfl rfl tyk_3 rfl rfl rfl rfl rfl rfl rfl rfl rfl ?_)
    refine VO.nil ?_
    exact ⟨((y4.2, (⟨(IntKind.i64.wrap ((1 : Int) + y0.1)), y4.1⟩ : Event)), ()), Option.some.inj hm1, Keeps.mk (ks := [0, 2, 3]) rfl ⟨rfl, rfl, trivial⟩ (⟨_, _, rfl, rfl, ⟨_, _, rfl, rfl, ⟨_, _, rfl, rfl, rfl⟩⟩⟩) rfl⟩
   ·
    replace hm1 := cond_f hc1 hm1
    refine V.skip ?_
    exact ⟨((y2.2, (⟨(IntKind.i64.wrap ((1 : Int) + y0.1)), (IntKind.i64.wrap (from_ + y1.1))⟩ : Event)), ()), Option.some.inj hm1, Keeps.mk (ks := [0, 1, 2]) rfl ⟨rfl, rfl, trivial⟩ (⟨_, _, rfl, rfl, ⟨_, _, rfl, rfl, ⟨_, _, rfl, rfl, rfl⟩⟩⟩) rfl⟩
 ·
  rintro ⟨⟨c_, e_⟩, _⟩ rfl
  try dsimp only at hm0
  refine V.seq ?_
  refine V.region ?_
  refine VO.cons rfl (V1.loadRefAll (k := 1) rfl rfl tyk_43 rfl rfl rfl rfl rfl (ltb rfl) ?_)
  refine VO.cons rfl (V1.storeRefAll (k := 2) rfl rfl tyk_43 rfl rfl rfl rfl rfl rfl ?_)
  refine VO.nil ?_
  refine V.ret ?_
  obtain rfl := Option.some.inj hm0
  exact ⟨_, _, ⟨_, _, rfl, ⟨_, _, 2, _, rfl, rfl, rfl, rfl, tyk_43, rfl⟩, rfl⟩, (sub1 (k := 0) rfl), rfl, rfl⟩

theorem ok_spec_DrawDueAfter {ρ0 rn : Nat} {code : List Int} {r : Record × List Rule × Event} (h : M.spec_DrawDueAfter code = some r) : Does Try.prog 25 [.vl ρ0 1 (List.map encU8 code)] [] rn (fun x H => x = .tup [encRecord rn r.1, .vl rn 4 (List.map encRule r.2.1), encEvent r.2.2] ∧ H = []) := by
 have hm0 := h; clear h; unfold M.spec_DrawDueAfter at hm0
 try dsimp only at hm0
 refine Does.intro (N := 22) Try.func25 rfl rfl rfl rfl ?_
 intro w0 S0
 refine V.seq ?_
 refine V.region ?_
 refine VO.cons rfl (V1.alloc rfl rfl zk_26 (ltb rfl) ?_)
 intro b0
 refine VO.cons rfl (V1.assign rfl rfl rfl (ltb rfl) ?_)
 refine VO.cons rfl (V1.alloc rfl rfl zk_43 (ltb rfl) ?_)
 intro b1
 refine VO.nil ?_
 refine V.seq ?_
 refine V.region ?_
 refine VO.cons rfl (V1.move rfl rfl rfl (ltb rfl) ?_)
 refine VO.cons rfl (V1.build rfl rfl zk_163 pl_163 rfl rfl (ltb rfl) ?_)
 refine VO.cons rfl (V1.boxN (n := 3) rfl rfl rfl rfl rfl (ltb rfl) ?_)
 intro b2
 refine VO.cons rfl (V1.assign rfl rfl rfl (ltb rfl) ?_)
 refine VO.nil ?_
 refine V.keep 22 [2, 4, 5] [0, 1, 2] (E0 := [(2, .ref b0 4 0 0), (4, .ref b1 2 0 0), (5, .ref b2 3 0 0)]) (H0 := [(b2, ⟨3, [.agg [.vl ρ0 1 (List.map encU8 code), .int .i64 (0 : Int), .int .u64 (0 : Int)]]⟩), (b1, ⟨2, [.agg [.int .i64 (0 : Int), .int .i64 (0 : Int)]]⟩), (b0, ⟨4, [.agg [.int .i64 (0 : Int), .int .i64 (0 : Int), .int .i64 (0 : Int), .nils]]⟩)]) rfl (⟨_, _, rfl, rfl, ⟨_, _, rfl, rfl, ⟨_, _, rfl, rfl, rfl⟩⟩⟩) (⟨_, _, rfl, rfl, ⟨_, _, rfl, rfl, ⟨_, _, rfl, rfl, rfl⟩⟩⟩) rfl ?_
 refine V.seq ?_
 replace hm0 := bindO hm0; rcases hm0 with ⟨y0, hh0, hm0⟩
 refine V.region ?_
 refine VO.cons rfl (V1.move rfl rfl rfl (ltb rfl) ?_)
 refine VO.cons rfl (V1.callM 0 (rn + ρ0 + 1) [] [.ref b2 3 0 0, .int .i64 (12 : Int)] (p := (b2, ⟨3, [.agg [.vl ρ0 1 (List.map encU8 code), .int .i64 (0 : Int), .int .u64 (0 : Int)]]⟩)) rfl rfl rfl cok_145 rfl rfl ⟨_, _, rfl, .same _, ⟨_, _, rfl, .same _, rfl⟩⟩ bwNil (ok_spec_l1Cur_record hh0) rfl (.inl rfl) (ltb rfl) ?_)
 rintro _ _ ⟨rfl, rfl⟩
 refine VO.cons rfl (V1.alloc rfl rfl zk_26 (ltb rfl) ?_)
 intro b3
 refine VO.cons rfl (V1.storeRefAll (k := 0) rfl rfl tyk_26 rfl rfl rfl rfl rfl rfl ?_)
 refine VO.nil ?_
 refine V.seq ?_
 replace hm0 := bindO hm0; rcases hm0 with ⟨y1, hh1, hm0⟩
 refine V.region ?_
 refine VO.cons rfl (V1.move rfl rfl rfl (ltb rfl) ?_)
 refine VO.cons rfl (V1.loadRefAll (k := 0) rfl rfl tyk_26 rfl rfl rfl rfl rfl (ltb rfl) ?_)
 refine VO.cons rfl (V1.callM 1 (rn + ρ0 + 1) [] [.ref b2 3 0 0, encRecord rn y0.1] (p := (b2, ⟨3, [encCur ρ0 y0.2]⟩)) rfl rfl rfl cok_146 rfl rfl ⟨_, _, rfl, .same _, ⟨_, _, rfl, .same _, rfl⟩⟩ bwNil (ok_spec_l1Cur_suited hh1) rfl (.inl rfl) (ltb rfl) ?_)
 rintro _ _ ⟨b4, rfl, rfl⟩
 refine VO.cons rfl (V1.assign rfl rfl rfl (ltb rfl) ?_)
 refine VO.nil ?_
 refine V.keep 22 [2, 4, 5, 6, 7] [0, 1, 2, 3, 4] (E0 := [(2, .ref b0 4 0 0), (4, .ref b1 2 0 0), (5, .ref b2 3 0 0), (6, .ref b3 4 0 0), (7, .sref b4 4 0 (List.length y1.1))]) (H0 := [(b4, ⟨4, List.map encRule y1.1⟩), (b2, ⟨3, [encCur ρ0 y1.2]⟩), (b3, ⟨4, [encRecord rn y0.1]⟩), (b1, ⟨2, [.agg [.int .i64 (0 : Int), .int .i64 (0 : Int)]]⟩), (b0, ⟨4, [.agg [.int .i64 (0 : Int), .int .i64 (0 : Int), .int .i64 (0 : Int), .nils]]⟩)]) rfl (⟨_, _, rfl, rfl, ⟨_, _, rfl, rfl, ⟨_, _, rfl, rfl, ⟨_, _, rfl, rfl, ⟨_, _, rfl, rfl, rfl⟩⟩⟩⟩⟩) (⟨_, _, rfl, rfl, ⟨_, _, rfl, rfl, ⟨_, _, rfl, rfl, ⟨_, _, rfl, rfl, ⟨_, _, rfl, rfl, rfl⟩⟩⟩⟩⟩) rfl ?_
 refine V.seq ?_
 replace hm0 := bindO hm0; rcases hm0 with ⟨y2, hh2, hm0⟩
 refine V.regionS [(b3, ⟨4, [encRecord rn y0.1]⟩)] 22 7 [⟨[(6, none)], false⟩, ⟨[(7, none)], false⟩, ⟨[(5, none)], false⟩, ⟨[(6, none)], false⟩, ⟨[(19, some 3)], false⟩, ⟨[(18, some 2), (20, some 4)], true⟩, ⟨[(2, none), (16, some 0)], true⟩] [(2, none), (4, none), (17, some 1), (21, some 5)] 2 (⟨_, rfl, ⟨_, rfl, ⟨_, rfl, ⟨_, rfl, ⟨_, rfl, ⟨_, rfl, ⟨_, rfl, ⟨rfl, rfl⟩⟩⟩⟩⟩⟩⟩⟩) mixed_orders rfl (by decide +kernel) ?_
 refine WalkP.step (p := ?pv15) 0 rfl rfl rfl rfl rfl (⟨_, _, rfl, rfl, rfl⟩) ?hv15 ?rest15
 case hv15 =>
  intro E1 H1 hI1
  obtain ⟨k16_, hk16_⟩ := inGet 0 rfl hI1
  refine (V1.loadRefAll (k := k16_) rfl rfl tyk_26 rfl hk16_ rfl rfl rfl (ltb rfl) ?_)
  exact rfl
 refine WalkP.step (p := ?pv17) 1 rfl rfl rfl rfl rfl (⟨_, _, rfl, rfl, rfl⟩) ?hv17 ?rest17
 case hv17 =>
  intro E1 H1 hI1
  refine (V1.move rfl rfl rfl (ltb rfl) ?_)
  exact rfl
 refine WalkP.step (p := ?pv18) 2 rfl rfl rfl rfl rfl (⟨_, _, rfl, rfl, rfl⟩) ?hv18 ?rest18
 case hv18 =>
  intro E1 H1 hI1
  refine (V1.move rfl rfl rfl (ltb rfl) ?_)
  exact rfl
 refine WalkP.step (p := ?pv19) 3 rfl rfl rfl rfl rfl (⟨_, _, rfl, rfl, rfl⟩) ?hv19 ?rest19
 case hv19 =>
  intro E1 H1 hI1
  refine (V1.fieldRef rfl rfl fo_26_2 rfl (ltb rfl) ?_)
  exact rfl
 refine WalkP.step (p := ?pv20) 4 rfl rfl rfl rfl rfl (⟨_, _, rfl, rfl, rfl⟩) ?hv20 ?rest20
 case hv20 =>
  intro E1 H1 hI1
  obtain ⟨k21_, hk21_⟩ := inGet 0 rfl hI1
  refine (V1.loadRef (k := k21_) rfl rfl tyk_3 rfl hk21_ rfl rfl rfl (ltb rfl) ?_)
  exact rfl
 refine WalkP.nil ?_
 refine NodeS.branch [5] (inCons 2 rfl inNil) rfl rfl rfl ⟨?_, trivial⟩
 ·
  refine ⟨_, _, _, _, rfl, rfl, rfl, (⟨_, _, rfl, rfl, ⟨_, _, rfl, rfl, rfl⟩⟩), fun E1 => ?_⟩
  refine (V1.callM 1 (rn + ρ0 + 1) [] [.ref b2 3 0 0, .int .i64 y0.1.Made] (p := (b2, ⟨3, [encCur ρ0 y1.2]⟩)) rfl rfl rfl cok_157 rfl rfl ⟨_, _, rfl, .same _, ⟨_, _, rfl, .same _, rfl⟩⟩ bwNil (ok_spec_l1Cur_event hh2) rfl (.inl rfl) (ltb rfl) ?_)
  rintro _ _ ⟨rfl, rfl⟩
  refine ⟨_, _, rfl, ?_⟩
  refine WalkP.nil ?_
  refine NodeS.branch [6] (inCons 2 rfl inNil) rfl rfl rfl ⟨?_, trivial⟩
  ·
   refine ⟨_, _, _, _, rfl, rfl, rfl, (⟨_, _, rfl, rfl, ⟨_, _, rfl, rfl, rfl⟩⟩), fun E1 => ?_⟩
   refine (V1.storeRefAll (k := 4) rfl rfl tyk_26 rfl rfl rfl rfl rfl rfl ?_)
   refine ⟨.undef, _, rfl, ?_⟩
   refine WalkP.nil ?_
   refine NodeS.fin (inCons 2 rfl inNil) rfl rfl rfl (⟨_, _, rfl, rfl, ⟨_, _, rfl, rfl, ⟨_, _, rfl, rfl, ⟨_, _, rfl, rfl, rfl⟩⟩⟩⟩) ?_
   refine VO.cons rfl (V1.assign rfl rfl rfl (ltb rfl) ?_)
   refine VO.cons rfl (V1.storeRefAll (k := 3) rfl rfl tyk_43 rfl rfl rfl rfl rfl rfl ?_)
   refine VO.nil ?_
   refine V.weakenK (Keeps.freezeG 1 rn [(17, .vl rn 4 (List.map encRule y1.1)), (3, .vl rn 4 (List.map encRule y1.1))] [(b2, ⟨3, [encCur ρ0 y2.2]⟩), (b3, ⟨4, [encRecord rn y0.1]⟩), (b1, ⟨2, [encEvent y2.1]⟩), (b0, ⟨4, [encRecord rn y0.1]⟩)] (f := encRule) (l := y1.1) rfl (fun _ => rfl) ⟨⟨_, rfl, .here⟩, ⟨_, rfl, .here⟩, trivial⟩ ⟨_, _, rfl, rfl, .inl rfl, ⟨_, _, rfl, rfl, .inl rfl, ⟨_, _, rfl, rfl, .inl rfl, ⟨_, _, rfl, rfl, .inl rfl, rfl⟩⟩⟩⟩ rfl iNil) ?_
   refine V.ret ?_
   obtain rfl := Option.some.inj hm0
   exact ⟨_, [], ⟨_, _, rfl, ⟨_, _, 3, _, rfl, rfl, rfl, rfl, tyk_26, rfl⟩, ⟨_, _, rfl, rfl, ⟨_, _, rfl, ⟨_, _, 2, _, rfl, rfl, rfl, rfl, tyk_43, rfl⟩, rfl⟩⟩⟩, List.nil_sublist _, rfl, rfl⟩

theorem ok_slices_Clone_impl_Event_impl_Event {ρ0 rn : Nat} {s : List Event} {r : List Event} (h : M.slices_Clone_impl_Event_impl_Event s = some r) : Does Try.prog 273 [.vl ρ0 2 (List.map encEvent s)] [] rn (fun x H => ∃ ob0_ : Option Nat, (ob0_ = none → r = []) ∧ x = optS 2 ob0_ (List.length r) ∧ H = optH 2 ob0_ (List.map encEvent r)) := by
 have hm0 := h; clear h; unfold M.slices_Clone_impl_Event_impl_Event at hm0
 replace hm0 := asrt_some hm0; rcases hm0 with ⟨hh0, hm0⟩
 obtain rfl := Option.some.inj hm0
 refine Does.intro (N := 8) Try.func273 rfl rfl rfl rfl ?_
 intro w0 S0
 refine V.seq ?_
 refine V.region ?_
 refine VO.cons rfl (V1.assign rfl rfl rfl (ltb rfl) ?_)
 refine VO.nil ?_
 refine V.seq ?_
 first | refine V.region ?_ | (refine V.seq ?_; refine V.region ?_)
 refine VO.cons rfl (V1.move rfl rfl rfl (ltb rfl) ?_)
 refine VO.cons rfl (V1.eqNil rfl rfl usl_24 rfl rfl (ltb rfl) ?_)
 intro c hc
 refine VO.nil ?_
 first | refine V.cond rfl (fun hc0 => ?_) (fun hc0 => ?_) | (refine V.seq ?_; refine V.cond rfl (fun hc0 => ?_) (fun hc0 => ?_))
 ·
  have hs : s = [] := List.map_eq_nil_iff.1 (hc hc0)
  refine V.seq ?_
  refine V.region ?_
  refine VO.cons rfl (V1.assign rfl rfl rfl (ltb rfl) ?_)
  refine VO.nil ?_
  refine V.ret ?_
  exact ⟨_, [], ⟨_, _, rfl, rfl, rfl⟩, List.nil_sublist _, none, fun _ => hs, rfl, rfl⟩
 ·
  refine V.skip ?_
  refine V.seq ?_
  refine V.region ?_
  refine VO.cons rfl (V1.buildSliceT (f := encEvent) ([] : List Event) rfl rfl esz_24 zk_43 rfl rfl rfl rfl rfl rfl rfl (ltb rfl) ?_)
  intro b0
  refine VO.cons rfl (V1.move rfl rfl rfl (ltb rfl) ?_)
  refine VO.cons rfl (V1.appendMap (k := 0) (f := encEvent) (l := []) (m := s) rfl rfl rfl rfl rfl esz_24 eby_24 zk_43 rfl rfl rfl (.vl isl_24) (by simpa using hh0) (ltb rfl) ?_)
  intro b1
  refine VO.cons rfl (V1.assign rfl rfl rfl (ltb rfl) ?_)
  refine VO.nil ?_
  refine V.keep 8 [2] [0] (E0 := [(2, .sref b1 2 0 (List.length s))]) (H0 := [(b1, ⟨2, List.map encEvent s⟩)]) rfl (⟨_, _, rfl, rfl, rfl⟩) (⟨_, _, rfl, rfl, rfl⟩) rfl ?_
  refine V.ret ?_
  exact ⟨_, _, ⟨_, _, rfl, rfl, rfl⟩, List.Sublist.refl _, some b1, (fun e => by cases e), rfl, rfl⟩

theorem ok_slices_Insert_impl_Event_impl_Event {rn : Nat} {oq : Option Nat} {bv : Nat} {s : List Event} {i : Int} {v r : List Event} (h : M.slices_Insert_impl_Event_impl_Event s i v = some r) (hoq : oq = none → s = []) : Does Try.prog 272 [optS 2 oq (List.length s), .int .i64 i, .sref bv 2 0 (List.length v)] ((bv, ⟨2, List.map encEvent v⟩) :: optH 2 oq (List.map encEvent s)) rn (fun x H => ∃ b0_ : Nat, x = .sref b0_ 2 0 (List.length r) ∧ H = [(b0_, ⟨2, List.map encEvent r⟩)]) := by
 have hm0 := h; clear h; unfold M.slices_Insert_impl_Event_impl_Event at hm0
 replace hm0 := asrt_some hm0; rcases hm0 with ⟨⟨hi0, hi1, hl, hv1⟩, hm0⟩
 obtain rfl := Option.some.inj hm0; clear hm0
 obtain ⟨y, rfl⟩ : ∃ y, v = [y] := List.length_eq_one_iff.1 hv1
 rcases oq with _ | b
 ·
  obtain rfl := hoq rfl
  obtain rfl : i = 0 := by simp only [List.length_nil] at hi1; omega
  refine Does.intro (N := 95) Try.func272 rfl rfl rfl rfl ?_
  intro w0 S0
  refine V.seq ?_
  refine V.region ?_
  refine VO.cons rfl (V1.assign rfl rfl rfl (ltb rfl) ?_)
  refine VO.nil ?_
  refine V.seq ?_
  refine V.region ?_
  refine VO.cons rfl (V1.move rfl rfl rfl (ltb rfl) ?_)
  refine VO.cons rfl (V1.move rfl rfl rfl (ltb rfl) ?_)
  refine VO.weakenK (Keeps.nilsE (l := ([] : List Event)) 10 rn 2 encEvent rfl rfl rfl) ?_
  refine VO.cons rfl (V1.sliceMap (a := (0 : Int)) (b := (0 : Int)) rfl rfl esz_24 rfl (Bnd.some rfl (Int.le_refl 0) _) (Bnd.none _ _) ⟨Int.le_refl 0, Int.le_refl 0, Int.le_refl 0⟩ (ltb rfl) ?_)
  refine VO.nil ?_
  refine V.seq ?_
  refine V.region ?_
  refine VO.cons rfl (V1.move rfl rfl rfl (ltb rfl) ?_)
  refine VO.cons rfl (V1.lenSref rfl rfl rfl rfl rfl rfl isl_24 (ltb rfl) ?_)
  refine VO.cons rfl (V1.assign rfl rfl rfl (ltb rfl) ?_)
  refine VO.nil ?_
  refine V.seq ?_
  first | refine V.region ?_ | (refine V.seq ?_; refine V.region ?_)
  refine VO.cons rfl (V1.move rfl rfl rfl (ltb rfl) ?_)
  refine VO.cons rfl (V1.int rfl rfl rfl rfl rfl (ltb rfl) ?_)
  refine VO.nil ?_
  refine V.cond rfl (fun hc0 => absurd hc0 (by simp)) (fun _ => ?_)
  refine V.skip ?_
  refine V.seq ?_
  refine V.region ?_
  refine VO.cons rfl (V1.move rfl rfl rfl (ltb rfl) ?_)
  refine VO.weakenK (Keeps.nilsE (l := ([] : List Event)) 18 rn 2 encEvent rfl rfl rfl) ?_
  refine VO.cons rfl (V1.lenMap rfl rfl rfl rfl rfl rfl isl_24 (ltb rfl) ?_)
  refine VO.cons rfl (V1.assign rfl rfl rfl (ltb rfl) ?_)
  refine VO.nil ?_
  refine V.seq ?_
  first | refine V.region ?_ | (refine V.seq ?_; refine V.region ?_)
  refine VO.cons rfl (V1.move rfl rfl rfl (ltb rfl) ?_)
  refine VO.cons rfl (V1.move rfl rfl rfl (ltb rfl) ?_)
  refine VO.cons rfl (V1.int rfl rfl rfl rfl rfl (ltb rfl) ?_)
  refine VO.nil ?_
  refine V.cond rfl (fun hc1 => ?_) (fun hc1 => ?_)
  ·
   refine V.seq ?_
   refine V.region ?_
   refine VO.cons rfl (V1.move rfl rfl rfl (ltb rfl) ?_)
   refine VO.cons rfl (V1.move rfl rfl rfl (ltb rfl) ?_)
   refine VO.cons rfl (V1.appendOpt (f := encEvent) (l := ([] : List Event)) (m := [y]) (ob := none) [(bv, ⟨2, List.map encEvent [y]⟩)] (fun _ => rfl) rfl rfl rfl rfl rfl esz_24 eby_24 zk_43 rfl rfl rfl rfl (SrcOf.srMap (k := 0) rfl isl_24) rfl (by simp) (ltb rfl) ?_)
   intro b1
   refine VO.cons rfl (V1.assign rfl rfl rfl (ltb rfl) ?_)
   refine VO.nil ?_
   refine V.ret ?_
   exact ⟨_, [(b1, ⟨2, List.map encEvent [y]⟩)], ⟨_, _, rfl, rfl, rfl⟩, (List.nil_sublist _).cons_cons _, b1, rfl, rfl⟩
  ·
   exact absurd hc1 (by decide)
 ·
  by_cases hin : i = (s.length : Int)
  ·
   have er : s.take i.toNat ++ [y] ++ s.drop i.toNat = s ++ [y] := by rw [hin]; simp
   rw [er]
   refine Does.intro (N := 95) Try.func272 rfl rfl rfl rfl ?_
   intro w0 S0
   refine V.seq ?_
   refine V.region ?_
   refine VO.cons rfl (V1.assign rfl rfl rfl (ltb rfl) ?_)
   refine VO.nil ?_
   refine V.seq ?_
   refine V.region ?_
   refine VO.cons rfl (V1.move rfl rfl rfl (ltb rfl) ?_)
   refine VO.cons rfl (V1.move rfl rfl rfl (ltb rfl) ?_)
   refine VO.cons rfl (V1.sliceSw (c := ((s.length : Nat) : Int)) rfl rfl esz_24 rfl (Bnd.some rfl hi0 _) (Bnd.none _ _) ⟨hi0, hi1, Int.le_refl _⟩ (ltb rfl) ?_)
   refine VO.nil ?_
   refine V.seq ?_
   refine V.region ?_
   refine VO.cons rfl (V1.move rfl rfl rfl (ltb rfl) ?_)
   refine VO.cons rfl (V1.lenSref rfl rfl rfl rfl rfl rfl isl_24 (ltb rfl) ?_)
   refine VO.cons rfl (V1.assign rfl rfl rfl (ltb rfl) ?_)
   refine VO.nil ?_
   refine V.seq ?_
   first | refine V.region ?_ | (refine V.seq ?_; refine V.region ?_)
   refine VO.cons rfl (V1.move rfl rfl rfl (ltb rfl) ?_)
   refine VO.cons rfl (V1.int rfl rfl rfl rfl rfl (ltb rfl) ?_)
   refine VO.nil ?_
   refine V.cond rfl (fun hc0 => absurd hc0 (by simp)) (fun _ => ?_)
   refine V.skip ?_
   refine V.seq ?_
   refine V.region ?_
   refine VO.cons rfl (V1.move rfl rfl rfl (ltb rfl) ?_)
   refine VO.cons rfl (V1.lenSref rfl rfl rfl rfl rfl rfl isl_24 (ltb rfl) ?_)
   refine VO.cons rfl (V1.assign rfl rfl rfl (ltb rfl) ?_)
   refine VO.nil ?_
   refine V.seq ?_
   first | refine V.region ?_ | (refine V.seq ?_; refine V.region ?_)
   refine VO.cons rfl (V1.move rfl rfl rfl (ltb rfl) ?_)
   refine VO.cons rfl (V1.move rfl rfl rfl (ltb rfl) ?_)
   refine VO.cons rfl (V1.int rfl rfl rfl rfl rfl (ltb rfl) ?_)
   refine VO.nil ?_
   refine V.cond rfl (fun hc1 => ?_) (fun hc1 => ?_)
   ·
    refine V.seq ?_
    refine V.region ?_
    refine VO.cons rfl (V1.move rfl rfl rfl (ltb rfl) ?_)
    refine VO.cons rfl (V1.move rfl rfl rfl (ltb rfl) ?_)
    refine VO.cons rfl (V1.appendMap (k := 1) (f := encEvent) (l := s) (m := [y]) rfl rfl rfl rfl rfl esz_24 eby_24 zk_43 rfl rfl rfl (SrcOf.srMap (k := 0) rfl isl_24) (by simp; omega) (ltb rfl) ?_)
    intro b1
    refine VO.cons rfl (V1.assign rfl rfl rfl (ltb rfl) ?_)
    refine VO.nil ?_
    refine V.ret ?_
    exact ⟨_, [(b1, ⟨2, List.map encEvent (s ++ [y])⟩)], ⟨_, _, rfl, rfl, rfl⟩, (List.nil_sublist _).cons_cons _, b1, rfl, rfl⟩
   ·
    exact absurd hc1 (by rw [hin]; simp)
  ·
   obtain ⟨k, rfl⟩ := Int.eq_ofNat_of_zero_le hi0
   have hk : k < s.length := by omega
   have e0 : Int.toNat (k : Int) = k := Int.toNat_natCast k
   have ewn : IntKind.i64.wrap ((s.length : Int) + (([y].length : Nat) : Int)) = ((s.length + 1 : Nat) : Int) := by
    have e : ([y].length : Nat) = 1 := rfl
    rw [e, wrap64_id (by omega) (by omega)]; omega
   have ewk : IntKind.i64.wrap ((k : Int) + (([y].length : Nat) : Int)) = ((k + 1 : Nat) : Int) := by
    have e : ([y].length : Nat) = 1 := rfl
    rw [e, wrap64_id (by omega) (by omega)]; omega
   have ewm : IntKind.i64.wrap (IntKind.i64.wrap ((s.length : Int) + (([y].length : Nat) : Int)) - (k : Int)) = ((s.length + 1 - k : Nat) : Int) := by
    rw [ewn, wrap64_id (by omega) (by omega)]; omega
   refine Does.introR (N := 95) Try.func272 rfl rfl rfl rfl ?_
   intro w0 S0 vs0 hR0 _
   obtain ⟨u0, us0, _, hu0, _⟩ := Reps.cons_iff.1 hR0
   obtain ⟨cp, hB, hcp⟩ := Rep.hasCap (w := w0) (S := S0) (b := b) (n := 2) (off := 0) (len := s.length) (v := u0) hu0 (by omega)
   clear hR0 hu0
   refine V.seq ?_
   refine V.region ?_
   refine VO.cons rfl (V1.assign rfl rfl rfl (ltb rfl) ?_)
   refine VO.nil ?_
   refine V.seq ?_
   refine V.region ?_
   refine VO.cons rfl (V1.move rfl rfl rfl (ltb rfl) ?_)
   refine VO.cons rfl (V1.move rfl rfl rfl (ltb rfl) ?_)
   refine VO.cons rfl (V1.sliceSw (c := ((s.length : Nat) : Int)) rfl rfl esz_24 rfl (Bnd.some rfl hi0 _) (Bnd.none _ _) ⟨hi0, hi1, Int.le_refl _⟩ (ltb rfl) ?_)
   refine VO.nil ?_
   refine V.seq ?_
   refine V.region ?_
   refine VO.cons rfl (V1.move rfl rfl rfl (ltb rfl) ?_)
   refine VO.cons rfl (V1.lenSref rfl rfl rfl rfl rfl rfl isl_24 (ltb rfl) ?_)
   refine VO.cons rfl (V1.assign rfl rfl rfl (ltb rfl) ?_)
   refine VO.nil ?_
   refine V.seq ?_
   first | refine V.region ?_ | (refine V.seq ?_; refine V.region ?_)
   refine VO.cons rfl (V1.move rfl rfl rfl (ltb rfl) ?_)
   refine VO.cons rfl (V1.int rfl rfl rfl rfl rfl (ltb rfl) ?_)
   refine VO.nil ?_
   refine V.cond rfl (fun hc0 => absurd hc0 (by simp)) (fun _ => ?_)
   refine V.skip ?_
   refine V.seq ?_
   refine V.region ?_
   refine VO.cons rfl (V1.move rfl rfl rfl (ltb rfl) ?_)
   refine VO.cons rfl (V1.lenSref rfl rfl rfl rfl rfl rfl isl_24 (ltb rfl) ?_)
   refine VO.cons rfl (V1.assign rfl rfl rfl (ltb rfl) ?_)
   refine VO.nil ?_
   refine V.seq ?_
   first | refine V.region ?_ | (refine V.seq ?_; refine V.region ?_)
   refine VO.cons rfl (V1.move rfl rfl rfl (ltb rfl) ?_)
   refine VO.cons rfl (V1.move rfl rfl rfl (ltb rfl) ?_)
   refine VO.cons rfl (V1.int rfl rfl rfl rfl rfl (ltb rfl) ?_)
   refine VO.nil ?_
   refine V.cond rfl (fun hc1 => ?_) (fun hc1 => ?_)
   ·
    exact absurd (by simpa using hc1) hin
   ·
    refine V.skip ?_
    refine V.seq ?_
    first | refine V.region ?_ | (refine V.seq ?_; refine V.region ?_)
    refine VO.cons rfl (V1.move rfl rfl rfl (ltb rfl) ?_)
    refine VO.cons rfl (V1.move rfl rfl rfl (ltb rfl) ?_)
    refine VO.cons rfl (V1.int rfl rfl rfl rfl rfl (ltb rfl) ?_)
    refine VO.cons rfl (V1.move rfl rfl rfl (ltb rfl) ?_)
    refine VO.cons rfl (V1.capOwn rfl rfl rfl rfl rfl rfl isl_24 hB (by decide) (by omega) (ltb rfl) ?_)
    refine VO.cons rfl (V1.int rfl rfl rfl rfl rfl (ltb rfl) ?_)
    refine VO.nil ?_
    first | refine V.cond rfl (fun hc2 => ?_) (fun hc2 => ?_) | (refine V.seq ?_; refine V.cond rfl (fun hc2 => ?_) (fun hc2 => ?_))
    ·
     have hgrow : cp < s.length + 1 := by
      rw [decide_eq_true_eq, ewn] at hc2
      omega
     refine V.seq ?_
     refine V.region ?_
     refine VO.cons rfl (V1.move rfl rfl rfl (ltb rfl) ?_)
     refine VO.cons rfl (V1.move rfl rfl rfl (ltb rfl) ?_)
     refine VO.cons rfl (V1.sliceSw (a := (0 : Int)) (c := (k : Int)) rfl rfl esz_24 rfl (Bnd.none _ _) (Bnd.some rfl (by omega) _) ⟨by omega, by omega, by omega⟩ (ltb rfl) ?_)
     refine VO.cons rfl (V1.move rfl rfl rfl (ltb rfl) ?_)
     refine VO.cons rfl (V1.move rfl rfl rfl (ltb rfl) ?_)
     refine VO.cons rfl (V1.int rfl rfl rfl rfl rfl (ltb rfl) ?_)
     refine VO.cons rfl (V1.move rfl rfl rfl (ltb rfl) ?_)
     refine VO.cons rfl (V1.int rfl rfl rfl rfl rfl (ltb rfl) ?_)
     refine VO.cons rfl (V1.appendZ (i := k) (k := 1) (m := s.length + 1 - k) (cp := cp) rfl rfl rfl rfl rfl esz_24 eby_24 zk_43 und_3 rfl rfl rfl (by simp; omega) (congrArg (fun q => some (PV.int .i64 q)) ewm) hB (by omega) (by omega) (by omega) (ltb rfl) ?_)
     intro b1
     refine VO.cons rfl (V1.assign rfl rfl rfl (ltb rfl) ?_)
     refine VO.nil ?_
     refine V.seq ?_
     refine V.region ?_
     refine VO.cons rfl (V1.move rfl rfl rfl (ltb rfl) ?_)
     refine VO.cons rfl (V1.move rfl rfl rfl (ltb rfl) ?_)
     refine VO.cons rfl (V1.sliceSw (a := (k : Int)) (c := ((k + (s.length + 1 - k) : Nat) : Int)) rfl rfl esz_24 rfl (Bnd.some rfl (by omega) _) (Bnd.none _ _) ⟨by omega, by omega, by omega⟩ (ltb rfl) ?_)
     refine VO.cons rfl (V1.move rfl rfl rfl (ltb rfl) ?_)
     refine VO.cons rfl (V1.copyOwn (k := 0) (ys := List.map encEvent [y]) rfl rfl rfl rfl rfl esz_24 rfl rfl rfl (by simp; omega) (by omega) rfl (SrcK.of (SrcOf.srMap (k := 1) rfl isl_24) (by simp only [List.length_map, List.length_cons, List.length_nil]; omega)) (ltb rfl) ?_)
     refine VO.nil ?_
     refine V.seq ?_
     refine V.regionM 95 8 [⟨[(9, none)], [], none⟩, ⟨[(1, none)], [], none⟩, ⟨[(7, none)], [], none⟩, ⟨[(47, some 1), (48, some 0)], [], none⟩, ⟨[(46, some 3), (49, some 0)], [], none⟩, ⟨[(0, none)], [], none⟩, ⟨[(1, none)], [], none⟩, ⟨[(51, some 1), (52, some 0)], [], none⟩] [(9, none), (50, some 3), (53, some 0)] (⟨_, rfl, ⟨_, rfl, ⟨_, rfl, ⟨_, rfl, ⟨_, rfl, ⟨_, rfl, ⟨_, rfl, ⟨_, rfl, ⟨rfl, rfl⟩⟩⟩⟩⟩⟩⟩⟩⟩) mixed_orders rfl (by decide +kernel) (fun hck1 => ?_)
     refine VP.step (p := ?pvA0) rfl rfl rfl (⟨_, _, rfl, rfl, rfl⟩) ?hvA0 ?restA0 hck1
     case hvA0 =>
      intro E1
      refine (V1.move rfl rfl rfl (ltb rfl) ?_)
      exact rfl
     refine VP.step (p := ?pvA1) rfl rfl rfl (⟨_, _, rfl, rfl, rfl⟩) ?hvA1 ?restA1 hck1
     case hvA1 =>
      intro E1
      refine (V1.move rfl rfl rfl (ltb rfl) ?_)
      exact rfl
     refine VP.step (p := ?pvA2) rfl rfl rfl (⟨_, _, rfl, rfl, rfl⟩) ?hvA2 ?restA2 hck1
     case hvA2 =>
      intro E1
      refine (V1.move rfl rfl rfl (ltb rfl) ?_)
      exact rfl
     refine VP.step (p := ?pvA3) rfl rfl rfl (⟨_, _, rfl, rfl, ⟨_, _, rfl, rfl, rfl⟩⟩) ?hvA3 ?restA3 hck1
     case hvA3 =>
      intro E1
      refine (V1.int rfl rfl rfl rfl rfl (ltb rfl) ?_)
      exact rfl
     refine VP.step (p := ?pvA4) rfl rfl rfl (⟨_, _, rfl, rfl, ⟨_, _, rfl, rfl, rfl⟩⟩) ?hvA4 ?restA4 hck1
     case hvA4 =>
      intro E1
      refine (V1.sliceSw (c := ((k + (s.length + 1 - k) : Nat) : Int)) rfl rfl esz_24 rfl (Bnd.some rfl (by rw [ewk]; omega) _) (Bnd.none _ _) (by rw [ewk]; exact ⟨by omega, by omega, by omega⟩) (ltb rfl) ?_)
      exact rfl
     refine VP.step (p := ?pvA5) rfl rfl rfl (⟨_, _, rfl, rfl, rfl⟩) ?hvA5 ?restA5 hck1
     case hvA5 =>
      intro E1
      refine (V1.move rfl rfl rfl (ltb rfl) ?_)
      exact rfl
     refine VP.step (p := ?pvA6) rfl rfl rfl (⟨_, _, rfl, rfl, rfl⟩) ?hvA6 ?restA6 hck1
     case hvA6 =>
      intro E1
      refine (V1.move rfl rfl rfl (ltb rfl) ?_)
      exact rfl
     refine VP.step (p := ?pvA7) rfl rfl rfl (⟨_, _, rfl, rfl, ⟨_, _, rfl, rfl, rfl⟩⟩) ?hvA7 ?restA7 hck1
     case hvA7 =>
      intro E1
      refine (V1.sliceSw (c := ((s.length : Nat) : Int)) rfl rfl esz_24 rfl (Bnd.some rfl (by omega) _) (Bnd.none _ _) ⟨by omega, by omega, by omega⟩ (ltb rfl) ?_)
      exact rfl
     refine VP.fin rfl (⟨_, _, rfl, rfl, ⟨_, _, rfl, rfl, ⟨_, _, rfl, rfl, rfl⟩⟩⟩) ?_
     refine VO.cons rfl (V1.copyOwn (k := 0) (ys := ((List.map encEvent s).drop k).take (s.length - k)) rfl rfl rfl rfl rfl esz_24 rfl rfl rfl (by rw [ewk]; simp; omega) (by rw [ewk]; omega) rfl (fun Φ S a w v he hr => ?src1) (ltb rfl) ?rest1)
     case src1 =>
      have e1 : (0 + Int.toNat (k : Int)) = k := by omega
      rw [e1, e0] at hr
      exact SrcK.of (SrcOf.sref (k := 2) (ob := ⟨2, List.map encEvent s⟩) rfl rfl (by simp; omega) isl_24) (by rw [ewk]; simp; omega) Φ S a w v he hr
     case rest1 =>
      refine VO.nil ?_
      refine V.seq ?_
      refine V.region ?_
      refine VO.cons rfl (V1.move rfl rfl rfl (ltb rfl) ?_)
      refine VO.cons rfl (V1.assign rfl rfl rfl (ltb rfl) ?_)
      refine VO.nil ?_
      refine V.ret ?_
      refine ⟨_, _, ⟨_, _, rfl, rfl, rfl⟩, (List.nil_sublist _).cons_cons _, b1, ?_, ?_⟩
      · refine congrArg (fun q => PV.sref b1 2 0 q) ?_
        simp
        omega
      · refine congrArg (fun q => [(b1, (⟨2, q⟩ : Obj'))]) ?_
        rw [ewk]
        simp only [e0, Int.toNat_natCast, Nat.zero_add, List.length_map]
        have hq : (((List.map encEvent s).drop k).take (s.length - k)).length = s.length - k := by simp
        rw [hq]
        have h := fun z => ins_grow (xs := List.map encEvent s) (ey := encEvent y) (k := k) (by simpa using hk) z rfl
        simp only [List.length_map] at h
        simp only [List.map_append, List.map_take, List.map_drop]
        exact h _
    ·
     have hroom : s.length + 1 ≤ cp := by
      rw [decide_eq_false_iff_not, ewn] at hc2
      omega
     refine V.skip ?_
     refine V.seq ?_
     refine V.region ?_
     refine VO.cons rfl (V1.move rfl rfl rfl (ltb rfl) ?_)
     refine VO.cons rfl (V1.move rfl rfl rfl (ltb rfl) ?_)
     refine VO.cons rfl (V1.move rfl rfl rfl (ltb rfl) ?_)
     refine VO.cons rfl (V1.int rfl rfl rfl rfl rfl (ltb rfl) ?_)
     refine VO.cons rfl (V1.sliceUp (cp := cp) rfl rfl esz_24 rfl rfl hB (by decide) (by omega) (by rw [ewn]; omega) (ltb rfl) ?_)
     refine VO.cons rfl (V1.assign rfl rfl rfl (ltb rfl) ?_)
     refine VO.nil ?_
     refine V.seq ?_
     first | refine V.region ?_ | (refine V.seq ?_; refine V.region ?_)
     refine VO.cons rfl (V1.move rfl rfl rfl (ltb rfl) ?_)
     refine VO.cons rfl (V1.move rfl rfl rfl (ltb rfl) ?_)
     refine VO.cons rfl (V1.move rfl rfl rfl (ltb rfl) ?_)
     refine VO.cons rfl (V1.move rfl rfl rfl (ltb rfl) ?_)
     refine VO.cons rfl (V1.int rfl rfl rfl rfl rfl (ltb rfl) ?_)
     refine VO.cons rfl (V1.sliceSw (c := (IntKind.i64.wrap ((s.length : Int) + (([y].length : Nat) : Int)))) rfl rfl esz_24 rfl (Bnd.some rfl (by rw [ewk]; omega) _) (Bnd.none _ _) (by rw [ewk, ewn]; exact ⟨by omega, by omega, by omega⟩) (ltb rfl) ?_)
     refine VO.cons rfl (V1.overlapsNo (k1 := 0) (k2 := 1) (fn := Try.f297) (tb := 4) rfl rfl rfl rfl Try.func297 rfl rfl (by kernel_rfl) (by kernel_rfl) esz_24 rfl rfl rfl rfl (by decide) (by simp) (by rw [ewk, ewn]; omega) (by decide) (ltb rfl) ?_)
     refine VO.cons rfl (V1.not rfl rfl rfl (ltb rfl) ?_)
     refine VO.nil ?_
     first | refine V.cond rfl (fun _ => ?_) (fun hc3 => absurd hc3 (by decide)) | (refine V.seq ?_; refine V.cond rfl (fun _ => ?_) (fun hc3 => absurd hc3 (by decide)))
     ·
      refine V.seq ?_
      refine V.regionM 95 8 [⟨[(0, none)], [], none⟩, ⟨[(1, none)], [], none⟩, ⟨[(7, none)], [], none⟩, ⟨[(70, some 1), (71, some 0)], [], none⟩, ⟨[(69, some 3), (72, some 0)], [], none⟩, ⟨[(0, none)], [], none⟩, ⟨[(1, none)], [], none⟩, ⟨[(74, some 1), (75, some 0)], [], none⟩] [(0, none), (1, none), (2, none), (73, some 3), (76, some 0)] (⟨_, rfl, ⟨_, rfl, ⟨_, rfl, ⟨_, rfl, ⟨_, rfl, ⟨_, rfl, ⟨_, rfl, ⟨_, rfl, ⟨rfl, rfl⟩⟩⟩⟩⟩⟩⟩⟩⟩) mixed_orders rfl (by decide +kernel) (fun hck2 => ?_)
      refine VP.step (p := ?pvB0) rfl rfl rfl (⟨_, _, rfl, rfl, rfl⟩) ?hvB0 ?restB0 hck2
      case hvB0 =>
       intro E1
       refine (V1.move rfl rfl rfl (ltb rfl) ?_)
       exact rfl
      refine VP.step (p := ?pvB1) rfl rfl rfl (⟨_, _, rfl, rfl, rfl⟩) ?hvB1 ?restB1 hck2
      case hvB1 =>
       intro E1
       refine (V1.move rfl rfl rfl (ltb rfl) ?_)
       exact rfl
      refine VP.step (p := ?pvB2) rfl rfl rfl (⟨_, _, rfl, rfl, rfl⟩) ?hvB2 ?restB2 hck2
      case hvB2 =>
       intro E1
       refine (V1.move rfl rfl rfl (ltb rfl) ?_)
       exact rfl
      refine VP.step (p := ?pvB3) rfl rfl rfl (⟨_, _, rfl, rfl, ⟨_, _, rfl, rfl, rfl⟩⟩) ?hvB3 ?restB3 hck2
      case hvB3 =>
       intro E1
       refine (V1.int rfl rfl rfl rfl rfl (ltb rfl) ?_)
       exact rfl
      refine VP.step (p := ?pvB4) rfl rfl rfl (⟨_, _, rfl, rfl, ⟨_, _, rfl, rfl, rfl⟩⟩) ?hvB4 ?restB4 hck2
      case hvB4 =>
       intro E1
       refine (V1.sliceSw (c := (IntKind.i64.wrap ((s.length : Int) + (([y].length : Nat) : Int)))) rfl rfl esz_24 rfl (Bnd.some rfl (by rw [ewk]; omega) _) (Bnd.none _ _) (by rw [ewk, ewn]; exact ⟨by omega, by omega, by omega⟩) (ltb rfl) ?_)
       exact rfl
      refine VP.step (p := ?pvB5) rfl rfl rfl (⟨_, _, rfl, rfl, rfl⟩) ?hvB5 ?restB5 hck2
      case hvB5 =>
       intro E1
       refine (V1.move rfl rfl rfl (ltb rfl) ?_)
       exact rfl
      refine VP.step (p := ?pvB6) rfl rfl rfl (⟨_, _, rfl, rfl, rfl⟩) ?hvB6 ?restB6 hck2
      case hvB6 =>
       intro E1
       refine (V1.move rfl rfl rfl (ltb rfl) ?_)
       exact rfl
      refine VP.step (p := ?pvB7) rfl rfl rfl (⟨_, _, rfl, rfl, ⟨_, _, rfl, rfl, rfl⟩⟩) ?hvB7 ?restB7 hck2
      case hvB7 =>
       intro E1
       refine (V1.sliceSw (c := (IntKind.i64.wrap ((s.length : Int) + (([y].length : Nat) : Int)))) rfl rfl esz_24 rfl (Bnd.some rfl (by omega) _) (Bnd.none _ _) (by rw [ewn]; exact ⟨by omega, by omega, by omega⟩) (ltb rfl) ?_)
       exact rfl
      refine VP.fin rfl (⟨_, _, rfl, rfl, ⟨_, _, rfl, rfl, ⟨_, _, rfl, rfl, ⟨_, _, rfl, rfl, ⟨_, _, rfl, rfl, rfl⟩⟩⟩⟩⟩) ?_
      refine VO.cons rfl (V1.copyOwn (k := 1) (ys := ((List.map encEvent s).drop k).take (s.length - k)) rfl rfl rfl rfl rfl esz_24 rfl rfl rfl (by rw [ewk]; simp; omega) (by rw [ewk, ewn]; omega) rfl (fun Φ S a w v he hr => ?src2) (ltb rfl) ?rest2)
      case src2 =>
       have e1 : (0 + Int.toNat (k : Int)) = k := by omega
       rw [e1] at hr
       exact SrcK.sref (k := 1) (ob := ⟨2, List.map encEvent s⟩) rfl rfl (by simp; omega) isl_24 (by rw [ewk, ewn]; simp only [Nat.min_def]; split <;> omega) (by rw [ewn]; omega) Φ S a w v he hr
      case rest2 =>
       refine VO.nil ?_
       refine V.seq ?_
       refine V.region ?_
       refine VO.cons rfl (V1.move rfl rfl rfl (ltb rfl) ?_)
       refine VO.cons rfl (V1.move rfl rfl rfl (ltb rfl) ?_)
       refine VO.cons rfl (V1.sliceSw (a := (k : Int)) (c := (IntKind.i64.wrap ((s.length : Int) + (([y].length : Nat) : Int)))) rfl rfl esz_24 rfl (Bnd.some rfl (by omega) _) (Bnd.none _ _) (by rw [ewn]; exact ⟨by omega, by omega, by omega⟩) (ltb rfl) ?_)
       refine VO.cons rfl (V1.move rfl rfl rfl (ltb rfl) ?_)
       refine VO.cons rfl (V1.copyOwn (k := 1) (ys := List.map encEvent [y]) rfl rfl rfl rfl rfl esz_24 rfl rfl rfl (by rw [ewk]; simp; omega) (by rw [ewn]; omega) rfl (SrcK.of (SrcOf.srMap (k := 0) rfl isl_24) (by rw [ewn]; simp only [List.length_map, List.length_cons, List.length_nil]; omega)) (ltb rfl) ?_)
       refine VO.nil ?_
       refine V.seq ?_
       refine V.region ?_
       refine VO.cons rfl (V1.move rfl rfl rfl (ltb rfl) ?_)
       refine VO.cons rfl (V1.assign rfl rfl rfl (ltb rfl) ?_)
       refine VO.nil ?_
       refine V.ret ?_
       refine ⟨_, _, ⟨_, _, rfl, rfl, rfl⟩, (List.Sublist.refl _).cons _, b, ?_, ?_⟩
       · refine congrArg (fun q => PV.sref b 2 0 q) ?_
         rw [ewn]
         simp
         omega
       · refine congrArg (fun q => [(b, (⟨2, q⟩ : Obj'))]) ?_
         rw [ewk]
         simp only [e0, Int.toNat_natCast, Nat.zero_add, List.length_map]
         have hq : (((List.map encEvent s).drop k).take (s.length - k)).length = s.length - k := by simp
         rw [hq]
         have h := ins_room (xs := List.map encEvent s) (ey := encEvent y) (k := k) (by simpa using hk) rfl
         simp only [List.length_map] at h
         simp only [List.map_append, List.map_take, List.map_drop]
         exact h


theorem ok_impl_AddEvent {rn : Nat} {r_ : Record} {e_ : Event} {r : Record × Bool} (h : M.impl_AddEvent r_ e_ = some r) : Does Try.prog 158 [encRecord rn r_, encEvent e_] [] rn (fun x H => x = .tup [encRecord rn r.1, .bool r.2] ∧ H = []) := by
 have hm0 := h; clear h; unfold M.impl_AddEvent at hm0
 try dsimp only at hm0
 refine Does.intro (N := 49) Try.func158 rfl rfl rfl rfl ?_
 intro w0 S0
 refine V.seq ?_
 refine V.region ?_
 refine VO.cons rfl (V1.boxN (n := 4) rfl rfl rfl rfl rfl (ltb rfl) ?_)
 intro b0
 refine VO.cons rfl (V1.boxN (n := 2) rfl rfl rfl rfl rfl (ltb rfl) ?_)
 intro b1
 refine VO.cons rfl (V1.alloc rfl rfl zk_26 (ltb rfl) ?_)
 intro b2
 refine VO.cons rfl (V1.assign rfl rfl rfl (ltb rfl) ?_)
 refine VO.nil ?_
 refine V.seq ?_
 refine V.seq ?_
 replace hm0 := bindO hm0; rcases hm0 with ⟨y0, hh0, hm0⟩
 replace hm0 := bindO hm0; rcases hm0 with ⟨y1, hh1, hm0⟩
 refine V.region ?_
 refine VO.cons rfl (V1.loadRefAll (k := 2) rfl rfl tyk_26 rfl rfl rfl rfl rfl (ltb rfl) ?_)
 refine VO.cons rfl (V1.call rfl rfl rfl cok_155 rfl (ok_impl_IsRecord hh0) rfl (ltb rfl) ?_)
 rintro _ _ ⟨rfl, rfl⟩
 refine VO.cons rfl (V1.not rfl rfl rfl (ltb rfl) ?_)
 refine VO.cons rfl (V1.move rfl rfl rfl (ltb rfl) ?_)
 apply VO.or (n := 3) rfl rfl rfl rfl rfl rfl (ltb rfl) (.none rfl)
 ·
  intro hg0
  refine VO.step (.some rfl rfl rfl) (V1.loadRefAll (k := 1) rfl rfl tyk_43 rfl rfl rfl rfl rfl (ltb rfl) ?_)
  refine VO.step (.some rfl rfl rfl) (V1.call rfl rfl rfl cok_270 rfl (ok_impl_IsEvent (cond_f hg0 hh1)) rfl (ltb rfl) ?_)
  rintro _ _ ⟨rfl, rfl⟩
  refine VO.step (.some rfl rfl rfl) (V1.not rfl rfl rfl (ltb rfl) ?_)
  exact VO.nil ⟨rfl, rfl, rfl, rfl, .inr ⟨rfl, .inr ⟨rfl, .inr ⟨rfl, .inr ⟨rfl, .inl rfl⟩⟩⟩⟩⟩
 refine VO.nil ?_
 refine V.keep 49 [2, 3, 4, 15] [0, 1, 2] (E0 := [(2, .ref b0 4 0 0), (3, .ref b1 2 0 0), (4, .ref b2 4 0 0), (15, .bool ((!y0) || (!y1)))]) (H0 := [(b2, ⟨4, [.agg [.int .i64 (0 : Int), .int .i64 (0 : Int), .int .i64 (0 : Int), .nils]]⟩), (b1, ⟨2, [encEvent e_]⟩), (b0, ⟨4, [encRecord rn r_]⟩)]) rfl (⟨_, _, rfl, rfl, ⟨_, _, rfl, rfl, ⟨_, _, rfl, rfl, ⟨_, _, rfl, rfl, rfl⟩⟩⟩⟩) (⟨_, _, rfl, rfl, ⟨_, _, rfl, rfl, ⟨_, _, rfl, rfl, rfl⟩⟩⟩) rfl ?_
 refine V.cond rfl (fun hc0 => ?_) (fun hc0 => ?_)
 ·
  replace hm0 := cond_t hc0 hm0
  refine V.seq ?_
  refine V.region ?_
  refine VO.cons rfl (V1.build rfl rfl zk_26 pl_26 rfl rfl (ltb rfl) ?_)
  refine VO.cons rfl (V1.storeRefAll (k := 0) rfl rfl tyk_26 rfl rfl rfl rfl rfl rfl ?_)
  refine VO.cons rfl (V1.assign rfl rfl rfl (ltb rfl) ?_)
  refine VO.nil ?_
  refine V.weakenK (Keeps.leObj 0 [.agg [.int .i64 (0 : Int), .int .i64 (0 : Int), .int .i64 (0 : Int), .vl rn 2 (List.map encEvent ([] : List Event))]] rfl (.cons (.agg (.cons .same (.cons .same (.cons .same (.cons (.nils (l := ([] : List Event)) (f := encEvent) rn 2 rfl rfl) .nil))))) .nil)) ?_
  refine V.ret ?_
  obtain rfl := Option.some.inj hm0
  exact ⟨_, [], ⟨_, _, rfl, ⟨_, _, 0, _, rfl, rfl, rfl, rfl, tyk_26, rfl⟩, ⟨_, _, rfl, rfl, rfl⟩⟩, List.nil_sublist _, rfl, rfl⟩
 ·
  replace hm0 := cond_f hc0 hm0
  refine V.skip ?_
  refine V.seq ?_
  refine V.region ?_
  refine VO.cons rfl (V1.assign rfl rfl rfl (ltb rfl) ?_)
  refine VO.nil ?_
  refine V.seq ?_
  replace hm0 := bindO hm0; rcases hm0 with ⟨e0, he1, hm0⟩
  refine V.cutT (D := (Int) × (Unit)) (fun ⟨at_, _⟩ => ⟨49, [(6, .int .i64 at_), (2, .ref b0 4 0 0), (3, .ref b1 2 0 0), (4, .ref b2 4 0 0)], [(b2, ⟨4, [.agg [.int .i64 (0 : Int), .int .i64 (0 : Int), .int .i64 (0 : Int), .nils]]⟩), (b1, ⟨2, [encEvent e_]⟩), (b0, ⟨4, [encRecord rn r_]⟩)]⟩) (fun ⟨at_, _⟩ => (at_ = e0)) ?_ ?_
  ·
   refine V.block ?_
   refine V.keep 49 [6, 2, 3, 4] [0, 1, 2] (E0 := [(6, .int .i64 (0 : Int)), (2, .ref b0 4 0 0), (3, .ref b1 2 0 0), (4, .ref b2 4 0 0)]) (H0 := [(b2, ⟨4, [.agg [.int .i64 (0 : Int), .int .i64 (0 : Int), .int .i64 (0 : Int), .nils]]⟩), (b1, ⟨2, [encEvent e_]⟩), (b0, ⟨4, [encRecord rn r_]⟩)]) rfl (⟨_, _, rfl, rfl, ⟨_, _, rfl, rfl, ⟨_, _, rfl, rfl, ⟨_, _, rfl, rfl, rfl⟩⟩⟩⟩) (⟨_, _, rfl, rfl, ⟨_, _, rfl, rfl, ⟨_, _, rfl, rfl, rfl⟩⟩⟩) rfl ?_
   refine V.loopE (D := Nat × (Int) × (Unit)) (fun ⟨n0, at_0, _⟩ => [(6, .int .i64 at_0)]) (fun ⟨n0, at_0, _⟩ => []) (fun ⟨n0, at_0, _⟩ => loopO (M.impl_AddEvent_l0 r_ e_) n0 at_0 = some e0) (fun ⟨n0, _, _⟩ => n0) (rounds, (0 : Int), ()) rfl he1 ?_
   rintro ⟨n0, at_0, _⟩ hP0
   obtain ⟨m0, y2, rfl, hm1, hl1, hr1⟩ := loop_head hP0
   unfold M.impl_AddEvent_l0 at hm1; dsimp only at hm1
   show V _ _ _ ⟨49, [(6, .int .i64 at_0), (2, .ref b0 4 0 0), (3, .ref b1 2 0 0), (4, .ref b2 4 0 0)], [(b2, ⟨4, [.agg [.int .i64 (0 : Int), .int .i64 (0 : Int), .int .i64 (0 : Int), .nils]]⟩), (b1, ⟨2, [encEvent e_]⟩), (b0, ⟨4, [encRecord rn r_]⟩)]⟩
   refine V.seq ?_
   refine V.seq ?_
   replace hm1 := asrt_some hm1; rcases hm1 with ⟨hh2, hm1⟩
   refine V.regionM 49 16 [⟨[(6, none)], [], none⟩, ⟨[(2, none)], [], none⟩, ⟨[(18, some 0)], [], none⟩, ⟨[(19, some 0)], [], none⟩, ⟨[(17, some 3), (20, some 0)], [], none⟩, ⟨[(21, some 0)], [], none⟩, ⟨[(2, none)], [(0, true)], none⟩, ⟨[(23, some 0)], [(1, true)], none⟩, ⟨[(6, none)], [(2, true)], none⟩, ⟨[(24, some 1), (25, some 0)], [(3, true)], none⟩, ⟨[(26, some 0)], [(4, true)], none⟩, ⟨[(27, some 0)], [(5, true)], none⟩, ⟨[(3, none)], [(6, true)], none⟩, ⟨[(29, some 0)], [(7, true)], none⟩, ⟨[(28, some 2), (30, some 0)], [(8, true)], none⟩, ⟨[], [], some (true, 22, 31, 9, 0)⟩] [(2, none), (3, none), (4, none), (6, none), (32, some 0)] (⟨_, rfl, ⟨_, rfl, ⟨_, rfl, ⟨_, rfl, ⟨_, rfl, ⟨_, rfl, ⟨_, rfl, ⟨_, rfl, ⟨_, rfl, ⟨_, rfl, ⟨_, rfl, ⟨_, rfl, ⟨_, rfl, ⟨_, rfl, ⟨_, rfl, ⟨_, rfl, ⟨rfl, rfl⟩⟩⟩⟩⟩⟩⟩⟩⟩⟩⟩⟩⟩⟩⟩⟩⟩) mixed_orders rfl (by decide +kernel) (fun hck4 => ?_)
   refine VP.step (p := ?pv145) rfl rfl rfl (⟨_, _, rfl, rfl, rfl⟩) ?hv145 ?rest145 hck4
   case hv145 =>
    intro E1
    refine (V1.move rfl rfl rfl (ltb rfl) ?_)
    exact rfl
   refine VP.step (p := ?pv146) rfl rfl rfl (⟨_, _, rfl, rfl, rfl⟩) ?hv146 ?rest146 hck4
   case hv146 =>
    intro E1
    refine (V1.fieldRef rfl rfl fo_26_3 rfl (ltb rfl) ?_)
    exact rfl
   refine VP.step (p := ?pv147) rfl rfl rfl (⟨_, _, rfl, rfl, rfl⟩) ?hv147 ?rest147 hck4
   case hv147 =>
    intro E1
    refine (V1.loadRef (k := 2) rfl rfl tyk_24 rfl rfl rfl rfl rfl (ltb rfl) ?_)
    exact rfl
   refine VP.step (p := ?pv148) rfl rfl rfl (⟨_, _, rfl, rfl, rfl⟩) ?hv148 ?rest148 hck4
   case hv148 =>
    intro E1
    refine (V1.lenMap rfl rfl rfl rfl rfl rfl isl_24 (ltb rfl) ?_)
    exact rfl
   refine VP.step (p := ?pv149) rfl rfl rfl (⟨_, _, rfl, rfl, ⟨_, _, rfl, rfl, rfl⟩⟩) ?hv149 ?rest149 hck4
   case hv149 =>
    intro E1
    refine (V1.int rfl rfl rfl rfl rfl (ltb rfl) ?_)
    exact rfl
   refine VP.step (p := ?pv150) rfl rfl rfl (⟨_, _, rfl, rfl, rfl⟩) ?hv150 ?rest150 hck4
   case hv150 =>
    intro E1
    refine (V1.move rfl rfl rfl (ltb rfl) ?_)
    exact rfl
   refine VP.step (p := ?pv151) rfl rfl rfl (⟨_, _, rfl, rfl, rfl⟩) ?hv151 ?rest151 hck4
   case hv151 =>
    refine ⟨_, rfl, fun hg1 => ?_⟩
    intro E1
    refine (V1.fieldRef rfl rfl fo_26_3 rfl (ltb rfl) ?_)
    exact rfl
   refine VP.step (p := ?pv152) rfl rfl rfl (⟨_, _, rfl, rfl, rfl⟩) ?hv152 ?rest152 hck4
   case hv152 =>
    refine ⟨_, rfl, fun hg1 => ?_⟩
    intro E1
    refine (V1.loadRef (k := 2) rfl rfl tyk_24 rfl rfl rfl rfl rfl (ltb rfl) ?_)
    exact rfl
   refine VP.step (p := ?pv153) rfl rfl rfl (⟨_, _, rfl, rfl, rfl⟩) ?hv153 ?rest153 hck4
   case hv153 =>
    refine ⟨_, rfl, fun hg1 => ?_⟩
    intro E1
    refine (V1.move rfl rfl rfl (ltb rfl) ?_)
    exact rfl
   refine VP.step (p := ?pv154) rfl rfl rfl (⟨_, _, rfl, rfl, ⟨_, _, rfl, rfl, rfl⟩⟩) ?hv154 ?rest154 hck4
   case hv154 =>
    refine ⟨_, rfl, fun hg1 => ?_⟩
    intro E1
    refine (V1.indexI rfl rfl esz_24 rfl rfl (hh2 hg1) (ltb rfl) ?_)
    exact rfl
   refine VP.step (p := ?pv155) rfl rfl rfl (⟨_, _, rfl, rfl, rfl⟩) ?hv155 ?rest155 hck4
   case hv155 =>
    refine ⟨_, rfl, fun hg1 => ?_⟩
    intro E1
    refine (V1.fieldPin rfl rfl fo_43_0 rfl (ltb rfl) ?_)
    exact rfl
   refine VP.step (p := ?pv156) rfl rfl rfl (⟨_, _, rfl, rfl, rfl⟩) ?hv156 ?rest156 hck4
   case hv156 =>
    refine ⟨_, rfl, fun hg1 => ?_⟩
    intro E1
    refine (V1.loadPin rfl rfl tyk_3 rfl rfl (ltb rfl) ?_)
    exact rfl
   refine VP.step (p := ?pv157) rfl rfl rfl (⟨_, _, rfl, rfl, rfl⟩) ?hv157 ?rest157 hck4
   case hv157 =>
    refine ⟨_, rfl, fun hg1 => ?_⟩
    intro E1
    refine (V1.fieldRef rfl rfl fo_43_0 rfl (ltb rfl) ?_)
    exact rfl
   refine VP.step (p := ?pv158) rfl rfl rfl (⟨_, _, rfl, rfl, rfl⟩) ?hv158 ?rest158 hck4
   case hv158 =>
    refine ⟨_, rfl, fun hg1 => ?_⟩
    intro E1
    refine (V1.loadRef (k := 1) rfl rfl tyk_3 rfl rfl rfl rfl rfl (ltb rfl) ?_)
    exact rfl
   refine VP.step (p := ?pv159) rfl rfl rfl (⟨_, _, rfl, rfl, ⟨_, _, rfl, rfl, rfl⟩⟩) ?hv159 ?rest159 hck4
   case hv159 =>
    refine ⟨_, rfl, fun hg1 => ?_⟩
    intro E1
    refine (V1.int rfl rfl rfl rfl rfl (ltb rfl) ?_)
    exact rfl
   refine VP.pickAnd rfl rfl rfl rfl rfl rfl (trivial) ?_ hck4
   refine VP.fin rfl (⟨_, _, rfl, rfl, ⟨_, _, rfl, rfl, ⟨_, _, rfl, rfl, ⟨_, _, rfl, rfl, ⟨_, _, rfl, rfl, rfl⟩⟩⟩⟩⟩) ?_
   refine VO.nil ?_
   refine V.cond rfl (fun hc1 => ?_) (fun hc1 => ?_)
   ·
    replace hm1 := cond_t hc1 hm1
    refine V.skip ?_
    refine V.block ?_
    refine V.region ?_
    refine VO.cons rfl (V1.move rfl rfl rfl (ltb rfl) ?_)
    refine VO.cons rfl (V1.int rfl rfl rfl rfl rfl (ltb rfl) ?_)
    refine VO.cons rfl (V1.assign rfl rfl rfl (ltb rfl) ?_)
    refine VO.nil ?_
    exact ⟨(m0, (IntKind.i64.wrap (at_0 + (1 : Int))), ()), hl1 _ (Option.some.inj hm1).symm, Nat.lt_succ_self _, Keeps.mk (ks := [0, 1, 2]) rfl ⟨rfl, rfl, rfl, rfl, trivial⟩ (⟨_, _, rfl, rfl, ⟨_, _, rfl, rfl, ⟨_, _, rfl, rfl, rfl⟩⟩⟩) rfl⟩
   ·
    replace hm1 := cond_f hc1 hm1
    refine V.exit ?_
    obtain rfl := hr1 _ (Option.some.inj hm1).symm
    exact ⟨(at_0, ()), rfl, Keeps.mk (ks := [0, 1, 2]) rfl ⟨rfl, rfl, rfl, rfl, trivial⟩ (⟨_, _, rfl, rfl, ⟨_, _, rfl, rfl, ⟨_, _, rfl, rfl, rfl⟩⟩⟩) rfl⟩
  ·
   rintro ⟨at_, _⟩ rfl
   try dsimp only at hm0
   refine V.seq ?_
   refine V.region ?_
   refine VO.cons rfl (V1.loadRefAll (k := 2) rfl rfl tyk_26 rfl rfl rfl rfl rfl (ltb rfl) ?_)
   refine VO.cons rfl (V1.alloc rfl rfl zk_26 (ltb rfl) ?_)
   intro b3
   refine VO.cons rfl (V1.storeRefAll (k := 0) rfl rfl tyk_26 rfl rfl rfl rfl rfl rfl ?_)
   refine VO.nil ?_
   refine V.seq ?_
   replace hm0 := bindO hm0; rcases hm0 with ⟨y3, hh3, hm0⟩
   replace hm0 := bindO hm0; rcases hm0 with ⟨y4, hh4, hm0⟩
   replace hm0 := bindO hm0; rcases hm0 with ⟨j0, hm1, hm0⟩
   refine V.cutT (D := (Record) × (Unit)) (fun ⟨out_, _⟩ => ⟨49, [(4, .ref b2 4 0 0), (7, .ref b3 4 0 0)], [(b3, ⟨4, [encRecord rn out_]⟩), (b2, ⟨4, [.agg [.int .i64 (0 : Int), .int .i64 (0 : Int), .int .i64 (0 : Int), .nils]]⟩)]⟩) (fun ⟨out_, _⟩ => (out_ = j0)) ?_ ?_
   ·
    refine V.regionS [(b1, ⟨2, [encEvent e_]⟩), (b0, ⟨4, [encRecord rn r_]⟩)] 49 6 [⟨[(2, none)], false⟩, ⟨[(36, some 0)], false⟩, ⟨[(37, some 1)], true⟩, ⟨[(6, none)], false⟩, ⟨[(3, none)], false⟩, ⟨[(40, some 4)], true⟩] [(4, none), (7, none), (38, some 2), (39, some 3), (41, some 5)] 2 (⟨_, rfl, ⟨_, rfl, ⟨_, rfl, ⟨_, rfl, ⟨_, rfl, ⟨_, rfl, ⟨rfl, rfl⟩⟩⟩⟩⟩⟩⟩) mixed_orders rfl (by decide +kernel) ?_
    refine WalkP.step (p := ?pv166) 0 rfl rfl rfl rfl rfl (⟨_, _, rfl, rfl, rfl⟩) ?hv166 ?rest166
    case hv166 =>
     intro E1 H1 hI1
     refine (V1.fieldRef rfl rfl fo_26_3 rfl (ltb rfl) ?_)
     exact rfl
    refine WalkP.step (p := ?pv167) 1 rfl rfl rfl rfl rfl (⟨_, _, rfl, rfl, rfl⟩) ?hv167 ?rest167
    case hv167 =>
     intro E1 H1 hI1
     obtain ⟨k168_, hk168_⟩ := inGet 1 rfl hI1
     refine (V1.loadRef (k := k168_) rfl rfl tyk_24 rfl hk168_ rfl rfl rfl (ltb rfl) ?_)
     exact rfl
    refine WalkP.step (p := ?pv169) 3 rfl rfl rfl rfl rfl (⟨_, _, rfl, rfl, rfl⟩) ?hv169 ?rest169
    case hv169 =>
     intro E1 H1 hI1
     refine (V1.move rfl rfl rfl (ltb rfl) ?_)
     exact rfl
    refine WalkP.step (p := ?pv170) 4 rfl rfl rfl rfl rfl (⟨_, _, rfl, rfl, rfl⟩) ?hv170 ?rest170
    case hv170 =>
     intro E1 H1 hI1
     obtain ⟨k171_, hk171_⟩ := inGet 0 rfl hI1
     refine (V1.loadRefAll (k := k171_) rfl rfl tyk_43 rfl hk171_ rfl rfl rfl (ltb rfl) ?_)
     exact rfl
    refine WalkP.nil ?_
    refine NodeS.branch [2, 5] (inCons 2 rfl (inCons 3 rfl inNil)) rfl rfl rfl ⟨?_, ?_, trivial⟩
    ·
     refine ⟨_, _, _, _, rfl, rfl, rfl, (⟨_, _, rfl, rfl, rfl⟩), fun E1 => ?_⟩
     refine (V1.permK (V1.call rfl rfl rfl cok_273 rfl (ok_slices_Clone_impl_Event_impl_Event hh3) rfl (ltb rfl) ?_))
     rintro _ _ ⟨ob1, hob1, rfl, rfl⟩
     refine ⟨_, ?_, Keeps.optBack (n := 2) (ob := ob1) (xs := List.map encEvent y3) (H1 := []) (H2 := [(b3, ⟨4, [encRecord rn r_]⟩), (b2, ⟨4, [.agg [.int .i64 (0 : Int), .int .i64 (0 : Int), .int .i64 (0 : Int), .nils]]⟩), (b1, ⟨2, [encEvent e_]⟩), (b0, ⟨4, [encRecord rn r_]⟩)]) rfl⟩
     refine ⟨_, _, rfl, ?_⟩
     refine WalkP.nil ?_
     refine NodeS.branch [5] (inCons 2 rfl (inCons 3 rfl inNil)) rfl rfl rfl ⟨?_, trivial⟩
     ·
      refine ⟨_, _, _, _, rfl, rfl, rfl, (⟨_, _, rfl, rfl, rfl⟩), fun E1 => ?_⟩
      refine (V1.buildSliceT (f := encEvent) ([e_] : List Event) rfl rfl esz_24 zk_43 rfl rfl rfl rfl rfl rfl rfl (ltb rfl) ?_)
      intro b6
      refine ⟨_, _, rfl, ?_⟩
      refine WalkP.nil ?_
      refine NodeS.fin (inCons 3 rfl (inCons 4 rfl inNil)) rfl rfl rfl (⟨_, _, rfl, rfl, ⟨_, _, rfl, rfl, ⟨_, _, rfl, rfl, ⟨_, _, rfl, rfl, ⟨_, _, rfl, rfl, rfl⟩⟩⟩⟩⟩) ?_
      refine VO.cons rfl (V1.callI (n := 2) (ob := ob1) (xs := List.map encEvent y3) 0 [(b3, ⟨4, [encRecord rn r_]⟩), (b2, ⟨4, [.agg [.int .i64 (0 : Int), .int .i64 (0 : Int), .int .i64 (0 : Int), .nils]]⟩), (b1, ⟨2, [encEvent e_]⟩), (b0, ⟨4, [encRecord rn r_]⟩)] rfl rfl rfl cok_272 rfl rfl (.of_eq rfl) (ok_slices_Insert_impl_Event_impl_Event hh4 (bv := b6) (oq := ob1) hob1) rfl (ltb rfl) ?_)
      rintro _ _ ⟨b7, rfl, rfl⟩
      refine VO.weakenK (Keeps.freezeG 0 rn [(42, .vl rn 2 (List.map encEvent y4))] [(b3, ⟨4, [encRecord rn r_]⟩), (b2, ⟨4, [.agg [.int .i64 (0 : Int), .int .i64 (0 : Int), .int .i64 (0 : Int), .nils]]⟩), (b1, ⟨2, [encEvent e_]⟩), (b0, ⟨4, [encRecord rn r_]⟩)] (f := encEvent) (l := y4) rfl (fun _ => rfl) ⟨⟨_, rfl, .here⟩, trivial⟩ ⟨_, _, rfl, rfl, .inl rfl, ⟨_, _, rfl, rfl, .inl rfl, ⟨_, _, rfl, rfl, .inl rfl, ⟨_, _, rfl, rfl, .inl rfl, rfl⟩⟩⟩⟩ rfl iNil) ?_
      refine VO.cons rfl (V1.fieldRef rfl rfl fo_26_3 rfl (ltb rfl) ?_)
      refine VO.cons rfl (V1.storeRef (k := 0) rfl rfl tyk_24 rfl rfl rfl rfl rfl rfl rfl rfl rfl ?_)
      refine VO.nil ?_
      exact ⟨((⟨r_.Id, r_.Series, r_.Made, y4⟩ : Record), ()), Option.some.inj hm1, Keeps.mk (ks := [0, 1]) rfl ⟨rfl, rfl, trivial⟩ (⟨_, _, rfl, rfl, ⟨_, _, rfl, rfl, rfl⟩⟩) rfl⟩
    ·
     refine ⟨_, _, _, _, rfl, rfl, rfl, (⟨_, _, rfl, rfl, rfl⟩), fun E1 => ?_⟩
     refine (V1.buildSliceT (f := encEvent) ([e_] : List Event) rfl rfl esz_24 zk_43 rfl rfl rfl rfl rfl rfl rfl (ltb rfl) ?_)
     intro b8
     refine ⟨_, _, rfl, ?_⟩
     refine WalkP.nil ?_
     refine NodeS.branch [2] (inCons 3 rfl (inCons 4 rfl inNil)) rfl rfl rfl ⟨?_, trivial⟩
     ·
      refine ⟨_, _, _, _, rfl, rfl, rfl, (⟨_, _, rfl, rfl, rfl⟩), fun E1 => ?_⟩
      refine (V1.permK (V1.call rfl rfl rfl cok_273 rfl (ok_slices_Clone_impl_Event_impl_Event hh3) rfl (ltb rfl) ?_))
      rintro _ _ ⟨ob2, hob2, rfl, rfl⟩
      refine ⟨_, ?_, Keeps.optBack (n := 2) (ob := ob2) (xs := List.map encEvent y3) (H1 := []) (H2 := [(b8, ⟨2, List.map encEvent ([e_] : List Event)⟩), (b3, ⟨4, [encRecord rn r_]⟩), (b2, ⟨4, [.agg [.int .i64 (0 : Int), .int .i64 (0 : Int), .int .i64 (0 : Int), .nils]]⟩), (b1, ⟨2, [encEvent e_]⟩), (b0, ⟨4, [encRecord rn r_]⟩)]) rfl⟩
      refine ⟨_, _, rfl, ?_⟩
      refine WalkP.nil ?_
      refine NodeS.fin (inCons 3 rfl (inCons 4 rfl inNil)) rfl rfl rfl (⟨_, _, rfl, rfl, ⟨_, _, rfl, rfl, ⟨_, _, rfl, rfl, ⟨_, _, rfl, rfl, ⟨_, _, rfl, rfl, rfl⟩⟩⟩⟩⟩) ?_
      refine VO.cons rfl (V1.callI (n := 2) (ob := ob2) (xs := List.map encEvent y3) 0 [(b3, ⟨4, [encRecord rn r_]⟩), (b2, ⟨4, [.agg [.int .i64 (0 : Int), .int .i64 (0 : Int), .int .i64 (0 : Int), .nils]]⟩), (b1, ⟨2, [encEvent e_]⟩), (b0, ⟨4, [encRecord rn r_]⟩)] rfl rfl rfl cok_272 rfl rfl (.of_eq rfl) (ok_slices_Insert_impl_Event_impl_Event hh4 (bv := b8) (oq := ob2) hob2) rfl (ltb rfl) ?_)
      rintro _ _ ⟨b9, rfl, rfl⟩
      refine VO.weakenK (Keeps.freezeG 0 rn [(42, .vl rn 2 (List.map encEvent y4))] [(b3, ⟨4, [encRecord rn r_]⟩), (b2, ⟨4, [.agg [.int .i64 (0 : Int), .int .i64 (0 : Int), .int .i64 (0 : Int), .nils]]⟩), (b1, ⟨2, [encEvent e_]⟩), (b0, ⟨4, [encRecord rn r_]⟩)] (f := encEvent) (l := y4) rfl (fun _ => rfl) ⟨⟨_, rfl, .here⟩, trivial⟩ ⟨_, _, rfl, rfl, .inl rfl, ⟨_, _, rfl, rfl, .inl rfl, ⟨_, _, rfl, rfl, .inl rfl, ⟨_, _, rfl, rfl, .inl rfl, rfl⟩⟩⟩⟩ rfl iNil) ?_
      refine VO.cons rfl (V1.fieldRef rfl rfl fo_26_3 rfl (ltb rfl) ?_)
      refine VO.cons rfl (V1.storeRef (k := 0) rfl rfl tyk_24 rfl rfl rfl rfl rfl rfl rfl rfl rfl ?_)
      refine VO.nil ?_
      exact ⟨((⟨r_.Id, r_.Series, r_.Made, y4⟩ : Record), ()), Option.some.inj hm1, Keeps.mk (ks := [0, 1]) rfl ⟨rfl, rfl, trivial⟩ (⟨_, _, rfl, rfl, ⟨_, _, rfl, rfl, rfl⟩⟩) rfl⟩
   ·
    rintro ⟨out_, _⟩ rfl
    try dsimp only at hm0
    refine V.seq ?_
    refine V.seq ?_
    replace hm0 := bindO hm0; rcases hm0 with ⟨y5, hh5, hm0⟩
    refine V.region ?_
    refine VO.cons rfl (V1.loadRefAll (k := 0) rfl rfl tyk_26 rfl rfl rfl rfl rfl (ltb rfl) ?_)
    refine VO.cons rfl (V1.call rfl rfl rfl cok_155 rfl (ok_impl_IsRecord hh5) rfl (ltb rfl) ?_)
    rintro _ _ ⟨rfl, rfl⟩
    refine VO.cons rfl (V1.not rfl rfl rfl (ltb rfl) ?_)
    refine VO.nil ?_
    refine V.cond rfl (fun hc2 => ?_) (fun hc2 => ?_)
    ·
     replace hm0 := cond_t hc2 hm0
     refine V.seq ?_
     refine V.region ?_
     refine VO.cons rfl (V1.build rfl rfl zk_26 pl_26 rfl rfl (ltb rfl) ?_)
     refine VO.cons rfl (V1.storeRefAll (k := 1) rfl rfl tyk_26 rfl rfl rfl rfl rfl rfl ?_)
     refine VO.cons rfl (V1.assign rfl rfl rfl (ltb rfl) ?_)
     refine VO.nil ?_
     refine V.weakenK (Keeps.leObj 1 [.agg [.int .i64 (0 : Int), .int .i64 (0 : Int), .int .i64 (0 : Int), .vl rn 2 (List.map encEvent ([] : List Event))]] rfl (.cons (.agg (.cons .same (.cons .same (.cons .same (.cons (.nils (l := ([] : List Event)) (f := encEvent) rn 2 rfl rfl) .nil))))) .nil)) ?_
     refine V.ret ?_
     obtain rfl := Option.some.inj hm0
     exact ⟨_, [], ⟨_, _, rfl, ⟨_, _, 1, _, rfl, rfl, rfl, rfl, tyk_26, rfl⟩, ⟨_, _, rfl, rfl, rfl⟩⟩, List.nil_sublist _, rfl, rfl⟩
    ·
     replace hm0 := cond_f hc2 hm0
     refine V.skip ?_
     refine V.seq ?_
     refine V.region ?_
     refine VO.cons rfl (V1.loadRefAll (k := 0) rfl rfl tyk_26 rfl rfl rfl rfl rfl (ltb rfl) ?_)
     refine VO.cons rfl (V1.storeRefAll (k := 1) rfl rfl tyk_26 rfl rfl rfl rfl rfl rfl ?_)
     refine VO.cons rfl (V1.assign rfl rfl rfl (ltb rfl) ?_)
     refine VO.nil ?_
     refine V.ret ?_
     obtain rfl := Option.some.inj hm0
     exact ⟨_, [], ⟨_, _, rfl, ⟨_, _, 1, _, rfl, rfl, rfl, rfl, tyk_26, rfl⟩, ⟨_, _, rfl, rfl, rfl⟩⟩, List.nil_sublist _, rfl, rfl⟩

theorem ok_impl_DueAfter {ρ1 rn : Nat} {r_ : Record} {schedule : List Rule} {e_ : Event} {r : Int × Bool} (h : M.impl_DueAfter r_ schedule e_ = some r) : Does Try.prog 26 [encRecord rn r_, .vl ρ1 4 (List.map encRule schedule), encEvent e_] [] rn (fun x H => x = .tup [.int .i64 r.1, .bool r.2] ∧ H = []) := by
 have hm0 := h; clear h; unfold M.impl_DueAfter at hm0
 try dsimp only at hm0
 refine Does.intro (N := 23) Try.func26 rfl rfl rfl rfl ?_
 intro w0 S0
 refine V.seq ?_
 refine V.region ?_
 refine VO.cons rfl (V1.boxN (n := 4) rfl rfl rfl rfl rfl (ltb rfl) ?_)
 intro b0
 refine VO.cons rfl (V1.boxN (n := 2) rfl rfl rfl rfl rfl (ltb rfl) ?_)
 intro b1
 refine VO.cons rfl (V1.assign rfl rfl rfl (ltb rfl) ?_)
 refine VO.cons rfl (V1.assign rfl rfl rfl (ltb rfl) ?_)
 refine VO.nil ?_
 refine V.keep 23 [1, 3, 5] [0, 1] (E0 := [(1, .vl ρ1 4 (List.map encRule schedule)), (3, .ref b0 4 0 0), (5, .ref b1 2 0 0)]) (H0 := [(b1, ⟨2, [encEvent e_]⟩), (b0, ⟨4, [encRecord rn r_]⟩)]) rfl (⟨_, _, rfl, rfl, ⟨_, _, rfl, rfl, ⟨_, _, rfl, rfl, rfl⟩⟩⟩) (⟨_, _, rfl, rfl, ⟨_, _, rfl, rfl, rfl⟩⟩) rfl ?_
 refine V.seq ?_
 replace hm0 := bindO hm0; rcases hm0 with ⟨y0, hh0, hm0⟩
 refine V.region ?_
 refine VO.cons rfl (V1.loadRefAll (k := 1) rfl rfl tyk_26 rfl rfl rfl rfl rfl (ltb rfl) ?_)
 refine VO.cons rfl (V1.loadRefAll (k := 0) rfl rfl tyk_43 rfl rfl rfl rfl rfl (ltb rfl) ?_)
 refine VO.cons rfl (V1.call rfl rfl rfl cok_158 rfl (ok_impl_AddEvent hh0) rfl (ltb rfl) ?_)
 rintro _ _ ⟨rfl, rfl⟩
 refine VO.cons rfl (V1.move rfl rfl rfl (ltb rfl) ?_)
 refine VO.cons rfl (V1.extract rfl rfl rfl rfl (ltb rfl) ?_)
 refine VO.cons rfl (V1.extract rfl rfl rfl rfl (ltb rfl) ?_)
 refine VO.cons rfl (V1.alloc rfl rfl zk_26 (ltb rfl) ?_)
 intro b2
 refine VO.cons rfl (V1.storeRefAll (k := 0) rfl rfl tyk_26 rfl rfl rfl rfl rfl rfl ?_)
 refine VO.cons rfl (V1.assign rfl rfl rfl (ltb rfl) ?_)
 refine VO.nil ?_
 refine V.keep 23 [1, 8, 9] [0] (E0 := [(1, .vl ρ1 4 (List.map encRule schedule)), (8, .ref b2 4 0 0), (9, .bool y0.2)]) (H0 := [(b2, ⟨4, [encRecord rn y0.1]⟩)]) rfl (⟨_, _, rfl, rfl, ⟨_, _, rfl, rfl, ⟨_, _, rfl, rfl, rfl⟩⟩⟩) (⟨_, _, rfl, rfl, rfl⟩) rfl ?_
 refine V.seq ?_
 refine V.seq ?_
 refine V.region ?_
 refine VO.cons rfl (V1.move rfl rfl rfl (ltb rfl) ?_)
 refine VO.cons rfl (V1.not rfl rfl rfl (ltb rfl) ?_)
 refine VO.nil ?_
 refine V.cond rfl (fun hc0 => ?_) (fun hc0 => ?_)
 ·
  replace hm0 := cond_t hc0 hm0
  refine V.seq ?_
  refine V.region ?_
  refine VO.cons rfl (V1.assign rfl rfl rfl (ltb rfl) ?_)
  refine VO.cons rfl (V1.assign rfl rfl rfl (ltb rfl) ?_)
  refine VO.nil ?_
  refine V.ret ?_
  obtain rfl := Option.some.inj hm0
  exact ⟨_, [], ⟨_, _, rfl, rfl, ⟨_, _, rfl, rfl, rfl⟩⟩, List.nil_sublist _, rfl, rfl⟩
 ·
  replace hm0 := cond_f hc0 hm0
  refine V.skip ?_
  refine V.seq ?_
  replace hm0 := bindO hm0; rcases hm0 with ⟨y1, hh1, hm0⟩
  refine V.region ?_
  refine VO.cons rfl (V1.loadRefAll (k := 0) rfl rfl tyk_26 rfl rfl rfl rfl rfl (ltb rfl) ?_)
  refine VO.cons rfl (V1.move rfl rfl rfl (ltb rfl) ?_)
  refine VO.cons rfl (V1.call rfl rfl rfl cok_17 rfl (ok_impl_DueDay hh1) rfl (ltb rfl) ?_)
  rintro _ _ ⟨rfl, rfl⟩
  refine VO.cons rfl (V1.extract rfl rfl rfl rfl (ltb rfl) ?_)
  refine VO.cons rfl (V1.extract rfl rfl rfl rfl (ltb rfl) ?_)
  refine VO.cons rfl (V1.assign rfl rfl rfl (ltb rfl) ?_)
  refine VO.cons rfl (V1.assign rfl rfl rfl (ltb rfl) ?_)
  refine VO.nil ?_
  refine V.ret ?_
  obtain rfl := Option.some.inj hm0
  exact ⟨_, [], ⟨_, _, rfl, rfl, ⟨_, _, rfl, rfl, rfl⟩⟩, List.nil_sublist _, rfl, rfl⟩
end Go.Proofs.Ythffmnpbonkpaaa
