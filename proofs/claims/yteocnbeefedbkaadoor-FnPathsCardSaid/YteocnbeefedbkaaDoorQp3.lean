/- the functions do what their models say -/
import Derived.Test.YteocnbeefedbkaaDoorQp2
set_option linter.unusedSimpArgs false
set_option linter.unusedVariables false
set_option maxRecDepth 100000
set_option maxHeartbeats 4000000
namespace Go.Proofs.YteocnbeefedbkaaDoor
open Go.VS

theorem ok_spec_l7Ways {ρ0 σ0 rn : Nat} {list : List Format} {id_ : Int} {day : Int} {r : List Int} (h : M.spec_l7Ways list id_ day = some r) : Does Tryd.prog 64 [.vl ρ0 4 (List.map (encFormat σ0) list), .int .i64 id_, .int .i64 day] [] rn (fun x H => x = .vl rn 1 (List.map encInt r) ∧ H = []) := by
 have hm0 := h; clear h; unfold M.spec_l7Ways at hm0
 try dsimp only at hm0
 refine Does.intro (N := 74) Tryd.func64 rfl rfl rfl rfl ?_
 intro w0 S0 L0
 refine V.seq ?_
 refine V.region ?_
 refine VO.cons rfl (V1.assign rfl rfl rfl lt0 ?_)
 refine VO.nil ?_
 refine V.seq ?_
 refine V.region ?_
 refine VO.cons rfl (V1.move rfl rfl rfl lt0 ?_)
 refine VO.cons rfl (V1.buildSliceT (f := encInt) ([id_] : List Int) rfl rfl esz_27 zk_3 rfl rfl rfl rfl rfl rfl rfl lt0 ?_)
 intro b0
 refine VO.cons rfl (V1.assign rfl rfl rfl lt0 ?_)
 refine VO.nil ?_
 refine V.keep 74 [0, 2, 7] [0] (E0 := [(0, .vl ρ0 4 (List.map (encFormat σ0) list)), (2, .int .i64 day), (7, .sref b0 1 0 (List.length ([id_] : List Int)))]) (H0 := [(b0, ⟨1, List.map encInt ([id_] : List Int)⟩)]) rfl (⟨_, _, rfl, rfl, _, _, rfl, rfl, _, _, rfl, rfl, rfl⟩) (⟨_, _, rfl, rfl, rfl⟩) rfl ?_
 refine V.seq ?_
 refine V.seq ?_
 refine V.region ?_
 refine VO.cons rfl (V1.assign rfl rfl rfl lt0 ?_)
 refine VO.nil ?_
 replace hm0 := bindO hm0; rcases hm0 with ⟨e0, he1, hm0⟩
 refine V.cutT (D := (List Int) × (Unit)) (fun ⟨out_, _⟩ => ⟨74, [(7, .vl rn 1 (List.map encInt out_))], []⟩) (fun ⟨out_, _⟩ => (out_ = e0)) ?_ ?_
 ·
  refine V.block ?_
  refine V.weakenK (Keeps.freezeG 0 rn [(7, .vl rn 1 (List.map encInt ([id_] : List Int)))] ([]) (f := encInt) (l := ([id_] : List Int)) rfl (fun _ => rfl) ⟨⟨_, rfl, .here⟩, trivial⟩ rfl rfl iNil) ?_
  refine V.keep 74 [7, 8, 0, 2] [] (E0 := [(7, .vl rn 1 (List.map encInt ([id_] : List Int))), (8, .bool true), (0, .vl ρ0 4 (List.map (encFormat σ0) list)), (2, .int .i64 day)]) (H0 := []) rfl (⟨_, _, rfl, rfl, _, _, rfl, rfl, _, _, rfl, rfl, _, _, rfl, rfl, rfl⟩) (rfl) rfl ?_
  refine V.loopE (D := Nat × (List Int × Bool) × (Unit)) (fun ⟨n0, ⟨out_0, again⟩, _⟩ => [(7, .vl rn 1 (List.map encInt out_0)), (8, .bool again)]) (fun ⟨n0, ⟨out_0, again⟩, _⟩ => []) (fun ⟨n0, ⟨out_0, again⟩, _⟩ => loopO (M.spec_l7Ways_l0 list day) n0 (out_0, again) = some e0) (fun ⟨n0, _, _⟩ => n0) (rounds, (([id_] : List Int), true), ()) rfl he1 ?_
  rintro ⟨n0, ⟨out_0, again⟩, _⟩ hP0
  obtain ⟨m0, y0, rfl, hm1, hl1, hr1⟩ := loop_head hP0
  unfold M.spec_l7Ways_l0 at hm1; dsimp only at hm1
  show V _ _ _ ⟨74, [(7, .vl rn 1 (List.map encInt out_0)), (8, .bool again), (0, .vl ρ0 4 (List.map (encFormat σ0) list)), (2, .int .i64 day)], []⟩
  refine V.seq ?_
  refine V.seq ?_
  refine V.region ?_
  refine VO.cons rfl (V1.move rfl rfl rfl lt0 ?_)
  refine VO.nil ?_
  refine V.cond rfl (fun hc0 => ?_) (fun hc0 => ?_)
  ·
   replace hm1 := cond_t hc0 hm1
   refine V.skip ?_
   refine V.block ?_
   refine V.seq ?_
   refine V.region ?_
   refine VO.cons rfl (V1.assign rfl rfl rfl lt0 ?_)
   refine VO.nil ?_
   refine V.seq ?_
   refine V.region ?_
   refine VO.cons rfl (V1.assign rfl rfl rfl lt0 ?_)
   refine VO.nil ?_
   replace hm1 := bindO hm1; rcases hm1 with ⟨e1, he2, hm1⟩
   refine V.cutT (D := (List Int × Bool) × (Unit)) (fun ⟨⟨out_1, again0⟩, _⟩ => ⟨74, [(7, .vl rn 1 (List.map encInt out_1)), (8, .bool again0), (0, .vl ρ0 4 (List.map (encFormat σ0) list)), (2, .int .i64 day)], []⟩) (fun ⟨⟨out_1, again0⟩, _⟩ => ((out_1, again0) = e1)) ?_ ?_
   ·
    refine V.block ?_
    refine V.keep 74 [7, 8, 9, 0, 2] [] (E0 := [(7, .vl rn 1 (List.map encInt out_0)), (8, .bool false), (9, .int .i64 (0 : Int)), (0, .vl ρ0 4 (List.map (encFormat σ0) list)), (2, .int .i64 day)]) (H0 := []) rfl (⟨_, _, rfl, rfl, _, _, rfl, rfl, _, _, rfl, rfl, _, _, rfl, rfl, _, _, rfl, rfl, rfl⟩) (rfl) rfl ?_
    refine V.loopE (D := Nat × (List Int × Bool × Int) × (Unit)) (fun ⟨n1, ⟨out_2, again1, i⟩, _⟩ => [(7, .vl rn 1 (List.map encInt out_2)), (8, .bool again1), (9, .int .i64 i)]) (fun ⟨n1, ⟨out_2, again1, i⟩, _⟩ => []) (fun ⟨n1, ⟨out_2, again1, i⟩, _⟩ => loopO (M.spec_l7Ways_l1 list day) n1 (out_2, again1, i) = some e1) (fun ⟨n1, _, _⟩ => n1) (rounds, (out_0, false, (0 : Int)), ()) rfl he2 ?_
    rintro ⟨n1, ⟨out_2, again1, i⟩, _⟩ hP1
    obtain ⟨m1, y1, rfl, hm2, hl2, hr2⟩ := loop_head hP1
    unfold M.spec_l7Ways_l1 at hm2; dsimp only at hm2
    show V _ _ _ ⟨74, [(7, .vl rn 1 (List.map encInt out_2)), (8, .bool again1), (9, .int .i64 i), (0, .vl ρ0 4 (List.map (encFormat σ0) list)), (2, .int .i64 day)], []⟩
    refine V.seq ?_
    refine V.seq ?_
    refine V.region ?_
    refine VO.cons rfl (V1.move rfl rfl rfl lt0 ?_)
    refine VO.cons rfl (V1.move rfl rfl rfl lt0 ?_)
    refine VO.cons rfl (V1.lenMap rfl rfl rfl rfl rfl rfl isl_24 lt0 ?_)
    refine VO.cons rfl (V1.int rfl rfl rfl rfl rfl lt0 ?_)
    refine VO.nil ?_
    refine V.cond rfl (fun hc1 => ?_) (fun hc1 => ?_)
    ·
     replace hm2 := cond_t hc1 hm2
     refine V.skip ?_
     refine V.keep 74 [0, 2, 7, 8, 9] [] (E0 := [(0, .vl ρ0 4 (List.map (encFormat σ0) list)), (2, .int .i64 day), (7, .vl rn 1 (List.map encInt out_2)), (8, .bool again1), (9, .int .i64 i)]) (H0 := []) rfl (⟨_, _, rfl, rfl, _, _, rfl, rfl, _, _, rfl, rfl, _, _, rfl, rfl, _, _, rfl, rfl, rfl⟩) (rfl) rfl ?_
     refine V.seq ?_
     replace hm2 := bindO hm2; rcases hm2 with ⟨j0, hm3, hm2⟩
     refine V.cutT (D := (List Int × Bool) × (Unit)) (fun ⟨⟨out_3, again2⟩, _⟩ => ⟨74, [(7, .vl rn 1 (List.map encInt out_3)), (8, .bool again2), (0, .vl ρ0 4 (List.map (encFormat σ0) list)), (2, .int .i64 day), (9, .int .i64 i)], []⟩) (fun ⟨⟨out_3, again2⟩, _⟩ => ((out_3, again2) = j0)) ?_ ?_
     ·
      refine V.block ?_
      refine V.seq ?_
      refine V.seq ?_
      replace hm3 := asrt_some hm3; rcases hm3 with ⟨hh0, hm3⟩
      replace hm3 := bindO hm3; rcases hm3 with ⟨y2, hh1, hm3⟩
      replace hm3 := asrt_some hm3; rcases hm3 with ⟨hh2, hm3⟩
      refine V.region ?_
      refine VO.cons rfl (V1.move rfl rfl rfl lt0 ?_)
      refine VO.cons rfl (V1.move rfl rfl rfl lt0 ?_)
      refine VO.cons rfl (V1.move rfl rfl rfl lt0 ?_)
      refine VO.cons rfl (V1.indexI rfl rfl esz_24 rfl rfl hh0 lt0 ?_)
      refine VO.cons rfl (V1.fieldPin rfl rfl fo_34_0 rfl lt0 ?_)
      refine VO.cons rfl (V1.loadPin rfl rfl tyk_3 rfl rfl lt0 ?_)
      refine VO.cons rfl (V1.call rfl rfl rfl cok_58 rfl (ok_spec_l1Has hh1) rfl lt0 ?_)
      rintro _ _ ⟨rfl, rfl⟩
      refine VO.cons rfl (V1.move rfl rfl rfl lt0 ?_)
      apply VO.or (n := 7) rfl rfl rfl rfl rfl rfl lt0 (.none rfl)
      ·
       intro hg0
       refine VO.step (.some rfl rfl rfl) (V1.move rfl rfl rfl lt0 ?_)
       refine VO.step (.some rfl rfl rfl) (V1.move rfl rfl rfl lt0 ?_)
       refine VO.step (.some rfl rfl rfl) (V1.indexI rfl rfl esz_24 rfl rfl (hh2 hg0) lt0 ?_)
       refine VO.step (.some rfl rfl rfl) (V1.fieldPin rfl rfl fo_34_2 rfl lt0 ?_)
       refine VO.step (.some rfl rfl rfl) (V1.loadPin rfl rfl tyk_3 rfl rfl lt0 ?_)
       refine VO.step (.some rfl rfl rfl) (V1.move rfl rfl rfl lt0 ?_)
       refine VO.step (.some rfl rfl rfl) (V1.int rfl rfl rfl rfl rfl lt0 ?_)
       exact VO.nil ⟨rfl, rfl, rfl, rfl, .inr ⟨rfl, .inr ⟨rfl, .inr ⟨rfl, .inr ⟨rfl, .inr ⟨rfl, .inr ⟨rfl, .inr ⟨rfl, .inr ⟨rfl, .inl rfl⟩⟩⟩⟩⟩⟩⟩⟩⟩
      refine VO.nil ?_
      refine V.keep 74 [0, 2, 7, 8, 9, 35] [] (E0 := [(0, .vl ρ0 4 (List.map (encFormat σ0) list)), (2, .int .i64 day), (7, .vl rn 1 (List.map encInt out_2)), (8, .bool again1), (9, .int .i64 i), (35, .bool (y2 || (decide (((list.getD (Int.toNat i) default).Until) < day))))]) (H0 := []) rfl (⟨_, _, rfl, rfl, _, _, rfl, rfl, _, _, rfl, rfl, _, _, rfl, rfl, _, _, rfl, rfl, _, _, rfl, rfl, rfl⟩) (rfl) rfl ?_
      refine V.cond rfl (fun hc2 => ?_) (fun hc2 => ?_)
      ·
       replace hm3 := cond_t hc2 hm3
       refine V.exit ?_
       exact ⟨((out_2, again1), ()), Option.some.inj hm3, Keeps.mk (ks := []) rfl ⟨rfl, rfl, rfl, rfl, rfl, trivial⟩ (rfl) rfl⟩
      ·
       replace hm3 := cond_f hc2 hm3
       refine V.skip ?_
       refine V.seq ?_
       refine V.region ?_
       refine VO.cons rfl (V1.assign rfl rfl rfl lt0 ?_)
       refine VO.nil ?_
       replace hm3 := bindO hm3; rcases hm3 with ⟨e2, he4, hm3⟩
       refine V.cutT (D := (List Int × Bool) × (Unit)) (fun ⟨⟨out_4, again3⟩, _⟩ => ⟨74, [(7, .vl rn 1 (List.map encInt out_4)), (8, .bool again3), (0, .vl ρ0 4 (List.map (encFormat σ0) list)), (2, .int .i64 day), (9, .int .i64 i)], []⟩) (fun ⟨⟨out_4, again3⟩, _⟩ => ((out_4, again3) = e2)) ?_ ?_
       ·
        refine V.block ?_
        refine V.keep 74 [7, 8, 10, 0, 2, 9] [] (E0 := [(7, .vl rn 1 (List.map encInt out_2)), (8, .bool again1), (10, .int .i64 (0 : Int)), (0, .vl ρ0 4 (List.map (encFormat σ0) list)), (2, .int .i64 day), (9, .int .i64 i)]) (H0 := []) rfl (⟨_, _, rfl, rfl, _, _, rfl, rfl, _, _, rfl, rfl, _, _, rfl, rfl, _, _, rfl, rfl, _, _, rfl, rfl, rfl⟩) (rfl) rfl ?_
        refine V.loopE (D := Nat × (List Int × Bool × Int) × (Unit)) (fun ⟨n2, ⟨out_5, again4, k⟩, _⟩ => [(7, .vl rn 1 (List.map encInt out_5)), (8, .bool again4), (10, .int .i64 k)]) (fun ⟨n2, ⟨out_5, again4, k⟩, _⟩ => []) (fun ⟨n2, ⟨out_5, again4, k⟩, _⟩ => loopO (M.spec_l7Ways_l2 list i) n2 (out_5, again4, k) = some e2) (fun ⟨n2, _, _⟩ => n2) (rounds, (out_2, again1, (0 : Int)), ()) rfl he4 ?_
        rintro ⟨n2, ⟨out_5, again4, k⟩, _⟩ hP2
        obtain ⟨m2, y3, rfl, hm4, hl4, hr4⟩ := loop_head hP2
        unfold M.spec_l7Ways_l2 at hm4; dsimp only at hm4
        show V _ _ _ ⟨74, [(7, .vl rn 1 (List.map encInt out_5)), (8, .bool again4), (10, .int .i64 k), (0, .vl ρ0 4 (List.map (encFormat σ0) list)), (2, .int .i64 day), (9, .int .i64 i)], []⟩
        refine V.seq ?_
        refine V.seq ?_
        replace hm4 := asrt_some hm4; rcases hm4 with ⟨hh3, hm4⟩
        refine V.region ?_
        refine VO.cons rfl (V1.move rfl rfl rfl lt0 ?_)
        refine VO.cons rfl (V1.move rfl rfl rfl lt0 ?_)
        refine VO.cons rfl (V1.move rfl rfl rfl lt0 ?_)
        refine VO.cons rfl (V1.indexI rfl rfl esz_24 rfl rfl hh3 lt0 ?_)
        refine VO.cons rfl (V1.fieldPin rfl rfl fo_34_3 rfl lt0 ?_)
        refine VO.cons rfl (V1.loadPin rfl rfl tyk_27 rfl rfl lt0 ?_)
        refine VO.cons rfl (V1.lenMap rfl rfl rfl rfl rfl rfl isl_27 lt0 ?_)
        refine VO.cons rfl (V1.int rfl rfl rfl rfl rfl lt0 ?_)
        refine VO.nil ?_
        refine V.keep 74 [0, 2, 7, 8, 9, 10, 43] [] (E0 := [(0, .vl ρ0 4 (List.map (encFormat σ0) list)), (2, .int .i64 day), (7, .vl rn 1 (List.map encInt out_5)), (8, .bool again4), (9, .int .i64 i), (10, .int .i64 k), (43, .bool (decide (k < (((list.getD (Int.toNat i) default).Reads).length : Int))))]) (H0 := []) rfl (⟨_, _, rfl, rfl, _, _, rfl, rfl, _, _, rfl, rfl, _, _, rfl, rfl, _, _, rfl, rfl, _, _, rfl, rfl, _, _, rfl, rfl, rfl⟩) (rfl) rfl ?_
        refine V.cond rfl (fun hc3 => ?_) (fun hc3 => ?_)
        ·
         replace hm4 := cond_t hc3 hm4
         refine V.skip ?_
         refine V.seq ?_
         replace hm4 := bindO hm4; rcases hm4 with ⟨j1, hm5, hm4⟩
         refine V.cutT (D := (List Int × Bool) × (Unit)) (fun ⟨⟨out_6, again5⟩, _⟩ => ⟨74, [(7, .vl rn 1 (List.map encInt out_6)), (8, .bool again5), (0, .vl ρ0 4 (List.map (encFormat σ0) list)), (2, .int .i64 day), (9, .int .i64 i), (10, .int .i64 k)], []⟩) (fun ⟨⟨out_6, again5⟩, _⟩ => ((out_6, again5) = j1)) ?_ ?_
         ·
          refine V.block ?_
          refine V.seq ?_
          replace hm5 := asrt_some hm5; rcases hm5 with ⟨hh4, hm5⟩
          replace hm5 := asrt_some hm5; rcases hm5 with ⟨hh5, hm5⟩
          replace hm5 := bindO hm5; rcases hm5 with ⟨y4, hh6, hm5⟩
          replace hm5 := asrt_some hm5; rcases hm5 with ⟨hh7, hm5⟩
          replace hm5 := bindO hm5; rcases hm5 with ⟨y5, hh8, hm5⟩
          refine V.region ?_
          refine VO.cons rfl (V1.move rfl rfl rfl lt0 ?_)
          refine VO.cons rfl (V1.move rfl rfl rfl lt0 ?_)
          refine VO.cons rfl (V1.move rfl rfl rfl lt0 ?_)
          refine VO.cons rfl (V1.indexI rfl rfl esz_24 rfl rfl hh4 lt0 ?_)
          refine VO.cons rfl (V1.fieldPin rfl rfl fo_34_3 rfl lt0 ?_)
          refine VO.cons rfl (V1.loadPin rfl rfl tyk_27 rfl rfl lt0 ?_)
          refine VO.cons rfl (V1.move rfl rfl rfl lt0 ?_)
          refine VO.cons rfl (V1.indexI rfl rfl esz_27 rfl rfl hh5 lt0 ?_)
          refine VO.cons rfl (V1.loadPin rfl rfl tyk_3 rfl rfl lt0 ?_)
          refine VO.cons rfl (V1.call rfl rfl rfl cok_58 rfl (ok_spec_l1Has hh6) rfl lt0 ?_)
          rintro _ _ ⟨rfl, rfl⟩
          refine VO.cons rfl (V1.move rfl rfl rfl lt0 ?_)
          apply VO.and (n := 8) rfl rfl rfl rfl rfl rfl lt0 (.none rfl)
          ·
           intro hg1
           refine VO.step (.some rfl rfl rfl) (V1.move rfl rfl rfl lt0 ?_)
           refine VO.step (.some rfl rfl rfl) (V1.move rfl rfl rfl lt0 ?_)
           refine VO.step (.some rfl rfl rfl) (V1.move rfl rfl rfl lt0 ?_)
           refine VO.step (.some rfl rfl rfl) (V1.indexI rfl rfl esz_24 rfl rfl (hh7 hg1) lt0 ?_)
           refine VO.step (.some rfl rfl rfl) (V1.fieldPin rfl rfl fo_34_0 rfl lt0 ?_)
           refine VO.step (.some rfl rfl rfl) (V1.loadPin rfl rfl tyk_3 rfl rfl lt0 ?_)
           refine VO.step (.some rfl rfl rfl) (V1.call rfl rfl rfl cok_58 rfl (ok_spec_l1Has (cond_t hg1 hh8)) rfl lt0 ?_)
           rintro _ _ ⟨rfl, rfl⟩
           refine VO.step (.some rfl rfl rfl) (V1.not rfl rfl rfl lt0 ?_)
           exact VO.nil ⟨rfl, rfl, rfl, rfl, .inr ⟨rfl, .inr ⟨rfl, .inr ⟨rfl, .inr ⟨rfl, .inr ⟨rfl, .inr ⟨rfl, .inr ⟨rfl, .inr ⟨rfl, .inr ⟨rfl, .inl rfl⟩⟩⟩⟩⟩⟩⟩⟩⟩⟩
          refine VO.nil ?_
          refine V.keep 74 [0, 2, 7, 8, 9, 10, 65] [] (E0 := [(0, .vl ρ0 4 (List.map (encFormat σ0) list)), (2, .int .i64 day), (7, .vl rn 1 (List.map encInt out_5)), (8, .bool again4), (9, .int .i64 i), (10, .int .i64 k), (65, .bool (y4 && (!y5)))]) (H0 := []) rfl (⟨_, _, rfl, rfl, _, _, rfl, rfl, _, _, rfl, rfl, _, _, rfl, rfl, _, _, rfl, rfl, _, _, rfl, rfl, _, _, rfl, rfl, rfl⟩) (rfl) rfl ?_
          refine V.cond rfl (fun hc4 => ?_) (fun hc4 => ?_)
          ·
           replace hm5 := cond_t hc4 hm5
           refine V.seq ?_
           replace hm5 := asrt_some hm5; rcases hm5 with ⟨hh9, hm5⟩
           replace hm5 := bindO hm5; rcases hm5 with ⟨y6, hh10, hm5⟩
           refine V.region ?_
           refine VO.cons rfl (V1.move rfl rfl rfl lt0 ?_)
           refine VO.cons rfl (V1.move rfl rfl rfl lt0 ?_)
           refine VO.cons rfl (V1.move rfl rfl rfl lt0 ?_)
           refine VO.cons rfl (V1.indexI rfl rfl esz_24 rfl rfl hh9 lt0 ?_)
           refine VO.cons rfl (V1.fieldPin rfl rfl fo_34_0 rfl lt0 ?_)
           refine VO.cons rfl (V1.loadPin rfl rfl tyk_3 rfl rfl lt0 ?_)
           refine VO.cons rfl (V1.call rfl rfl rfl cok_118 rfl (ok_spec_l1Put hh10) rfl lt0 ?_)
           rintro _ _ ⟨rfl, rfl⟩
           refine VO.cons rfl (V1.assign rfl rfl rfl lt0 ?_)
           refine VO.nil ?_
           refine V.keep 74 [0, 2, 7, 9, 10] [] (E0 := [(0, .vl ρ0 4 (List.map (encFormat σ0) list)), (2, .int .i64 day), (7, .vl rn 1 (List.map encInt y6)), (9, .int .i64 i), (10, .int .i64 k)]) (H0 := []) rfl (⟨_, _, rfl, rfl, _, _, rfl, rfl, _, _, rfl, rfl, _, _, rfl, rfl, _, _, rfl, rfl, rfl⟩) (rfl) rfl ?_
           refine V.region ?_
           refine VO.cons rfl (V1.assign rfl rfl rfl lt0 ?_)
           refine VO.nil ?_
           exact ⟨((y6, true), ()), Option.some.inj hm5, Keeps.mk (ks := []) rfl ⟨rfl, rfl, rfl, rfl, rfl, rfl, trivial⟩ (rfl) rfl⟩
          ·
           replace hm5 := cond_f hc4 hm5
           refine V.skip ?_
           exact ⟨((out_5, again4), ()), Option.some.inj hm5, Keeps.mk (ks := []) rfl ⟨rfl, rfl, rfl, rfl, rfl, rfl, trivial⟩ (rfl) rfl⟩
         ·
          rintro ⟨⟨out_6, again5⟩, _⟩ rfl
          try dsimp only at hm4
          refine V.region ?_
          refine VO.cons rfl (V1.move rfl rfl rfl lt0 ?_)
          refine VO.cons rfl (V1.int rfl rfl rfl rfl rfl lt0 ?_)
          refine VO.cons rfl (V1.assign rfl rfl rfl lt0 ?_)
          refine VO.nil ?_
          exact ⟨(m2, (out_6, again5, (IntKind.i64.wrap (k + (1 : Int)))), ()), hl4 _ (Option.some.inj hm4).symm, Nat.lt_succ_self _, Keeps.mk (ks := []) rfl ⟨rfl, rfl, rfl, rfl, rfl, rfl, trivial⟩ (rfl) rfl⟩
        ·
         replace hm4 := cond_f hc3 hm4
         refine V.exit ?_
         obtain rfl := hr4 _ (Option.some.inj hm4).symm
         exact ⟨((out_5, again4), ()), rfl, Keeps.mk (ks := []) rfl ⟨rfl, rfl, rfl, rfl, rfl, trivial⟩ (rfl) rfl⟩
       ·
        rintro ⟨⟨out_4, again3⟩, _⟩ rfl
        try dsimp only at hm3
        exact ⟨((out_4, again3), ()), Option.some.inj hm3, Keeps.mk (ks := []) rfl ⟨rfl, rfl, rfl, rfl, rfl, trivial⟩ (rfl) rfl⟩
     ·
      rintro ⟨⟨out_3, again2⟩, _⟩ rfl
      try dsimp only at hm2
      refine V.region ?_
      refine VO.cons rfl (V1.move rfl rfl rfl lt0 ?_)
      refine VO.cons rfl (V1.int rfl rfl rfl rfl rfl lt0 ?_)
      refine VO.cons rfl (V1.assign rfl rfl rfl lt0 ?_)
      refine VO.nil ?_
      exact ⟨(m1, (out_3, again2, (IntKind.i64.wrap (i + (1 : Int)))), ()), hl2 _ (Option.some.inj hm2).symm, Nat.lt_succ_self _, Keeps.mk (ks := []) rfl ⟨rfl, rfl, rfl, rfl, rfl, trivial⟩ (rfl) rfl⟩
    ·
     replace hm2 := cond_f hc1 hm2
     refine V.exit ?_
     obtain rfl := hr2 _ (Option.some.inj hm2).symm
     exact ⟨((out_2, again1), ()), rfl, Keeps.mk (ks := []) rfl ⟨rfl, rfl, rfl, rfl, trivial⟩ (rfl) rfl⟩
   ·
    rintro ⟨⟨out_1, again0⟩, _⟩ rfl
    try dsimp only at hm1
    exact ⟨(m0, (out_1, again0), ()), hl1 _ (Option.some.inj hm1).symm, Nat.lt_succ_self _, Keeps.mk (ks := []) rfl ⟨rfl, rfl, rfl, rfl, trivial⟩ (rfl) rfl⟩
  ·
   replace hm1 := cond_f hc0 hm1
   refine V.exit ?_
   obtain rfl := hr1 _ (Option.some.inj hm1).symm
   exact ⟨(out_0, ()), rfl, Keeps.mk (ks := []) rfl ⟨rfl, trivial⟩ (rfl) rfl⟩
 ·
  rintro ⟨out_, _⟩ rfl
  try dsimp only at hm0
  refine V.seq ?_
  refine V.region ?_
  refine VO.cons rfl (V1.move rfl rfl rfl lt0 ?_)
  refine VO.cons rfl (V1.assign rfl rfl rfl lt0 ?_)
  refine VO.nil ?_
  refine V.ret ?_
  obtain rfl := Option.some.inj hm0
  exact ⟨_, [], ⟨_, _, rfl, rfl, rfl⟩, List.nil_sublist _, rfl, rfl⟩

theorem ok_spec_WaysTo {ρ0 σ0 rn : Nat} {list : List Format} {id_ : Int} {day : Int} {r : List Int × Bool} (h : M.spec_WaysTo list id_ day = some r) : Does Tryd.prog 12 [.vl ρ0 4 (List.map (encFormat σ0) list), .int .i64 id_, .int .i64 day] [] rn (fun x H => x = .tup [.vl rn 1 (List.map encInt r.1), .bool r.2] ∧ H = []) := by
 have hm0 := h; clear h; unfold M.spec_WaysTo at hm0
 try dsimp only at hm0
 refine Does.intro (N := 27) Tryd.func12 rfl rfl rfl rfl ?_
 intro w0 S0 L0
 refine V.seq ?_
 refine V.region ?_
 refine VO.cons rfl (V1.assign rfl rfl rfl lt0 ?_)
 refine VO.cons rfl (V1.assign rfl rfl rfl lt0 ?_)
 refine VO.nil ?_
 refine V.seq ?_
 refine V.seq ?_
 replace hm0 := bindO hm0; rcases hm0 with ⟨y0, hh0, hm0⟩
 replace hm0 := bindO hm0; rcases hm0 with ⟨y1, hh1, hm0⟩
 replace hm0 := bindO hm0; rcases hm0 with ⟨y2, hh2, hm0⟩
 refine V.region ?_
 refine VO.cons rfl (V1.move rfl rfl rfl lt0 ?_)
 refine VO.cons rfl (V1.call rfl rfl rfl cok_61 rfl (ok_spec_l7Good hh0) rfl lt0 ?_)
 rintro _ _ ⟨rfl, rfl⟩
 refine VO.cons rfl (V1.not rfl rfl rfl lt0 ?_)
 refine VO.cons rfl (V1.move rfl rfl rfl lt0 ?_)
 apply VO.or (n := 4) rfl rfl rfl rfl rfl rfl lt0 (.none rfl)
 ·
  intro hg0
  refine VO.step (.some rfl rfl rfl) (V1.move rfl rfl rfl lt0 ?_)
  refine VO.step (.some rfl rfl rfl) (V1.move rfl rfl rfl lt0 ?_)
  refine VO.step (.some rfl rfl rfl) (V1.call rfl rfl rfl cok_62 rfl (ok_spec_l7Find (cond_f hg0 hh1)) rfl lt0 ?_)
  rintro _ _ ⟨rfl, rfl⟩
  refine VO.step (.some rfl rfl rfl) (V1.int rfl rfl rfl rfl rfl lt0 ?_)
  exact VO.nil ⟨rfl, rfl, rfl, rfl, .inr ⟨rfl, .inr ⟨rfl, .inr ⟨rfl, .inr ⟨rfl, .inr ⟨rfl, .inl rfl⟩⟩⟩⟩⟩⟩
 refine VO.cons rfl (V1.move rfl rfl rfl lt0 ?_)
 apply VO.or (n := 3) rfl rfl rfl rfl rfl rfl lt0 (.none rfl)
 ·
  intro hg1
  refine VO.step (.some rfl rfl rfl) (V1.move rfl rfl rfl lt0 ?_)
  refine VO.step (.some rfl rfl rfl) (V1.call rfl rfl rfl cok_63 rfl (ok_spec_l2Day (cond_f hg1 hh2)) rfl lt0 ?_)
  rintro _ _ ⟨rfl, rfl⟩
  refine VO.step (.some rfl rfl rfl) (V1.not rfl rfl rfl lt0 ?_)
  exact VO.nil ⟨rfl, rfl, rfl, rfl, .inr ⟨rfl, .inr ⟨rfl, .inr ⟨rfl, .inr ⟨rfl, .inl rfl⟩⟩⟩⟩⟩
 refine VO.nil ?_
 refine V.keep 27 [0, 1, 2, 21] [] (E0 := [(0, .vl ρ0 4 (List.map (encFormat σ0) list)), (1, .int .i64 id_), (2, .int .i64 day), (21, .bool (((!y0) || (decide (y1 < (0 : Int)))) || (!y2)))]) (H0 := []) rfl (⟨_, _, rfl, rfl, _, _, rfl, rfl, _, _, rfl, rfl, _, _, rfl, rfl, rfl⟩) (rfl) rfl ?_
 refine V.cond rfl (fun hc0 => ?_) (fun hc0 => ?_)
 ·
  replace hm0 := cond_t hc0 hm0
  refine V.seq ?_
  refine V.region ?_
  refine VO.cons rfl (V1.buildSliceT (f := encInt) ([] : List Int) rfl rfl esz_27 zk_3 rfl rfl rfl rfl rfl rfl rfl lt0 ?_)
  intro b0
  refine VO.cons rfl (V1.assign rfl rfl rfl lt0 ?_)
  refine VO.cons rfl (V1.assign rfl rfl rfl lt0 ?_)
  refine VO.nil ?_
  refine V.weakenK (Keeps.freezeG 0 rn [(22, .vl rn 1 (List.map encInt ([] : List Int))), (6, .vl rn 1 (List.map encInt ([] : List Int)))] ([]) (f := encInt) (l := ([] : List Int)) rfl (fun _ => rfl) ⟨⟨_, rfl, .here⟩, ⟨_, rfl, .here⟩, trivial⟩ rfl rfl iNil) ?_
  refine V.ret ?_
  obtain rfl := Option.some.inj hm0
  exact ⟨_, [], ⟨_, _, rfl, rfl, _, _, rfl, rfl, rfl⟩, List.nil_sublist _, rfl, rfl⟩
 ·
  replace hm0 := cond_f hc0 hm0
  refine V.skip ?_
  refine V.seq ?_
  replace hm0 := bindO hm0; rcases hm0 with ⟨y3, hh3, hm0⟩
  refine V.region ?_
  refine VO.cons rfl (V1.move rfl rfl rfl lt0 ?_)
  refine VO.cons rfl (V1.move rfl rfl rfl lt0 ?_)
  refine VO.cons rfl (V1.move rfl rfl rfl lt0 ?_)
  refine VO.cons rfl (V1.call rfl rfl rfl cok_64 rfl (ok_spec_l7Ways hh3) rfl lt0 ?_)
  rintro _ _ ⟨rfl, rfl⟩
  refine VO.cons rfl (V1.assign rfl rfl rfl lt0 ?_)
  refine VO.cons rfl (V1.assign rfl rfl rfl lt0 ?_)
  refine VO.nil ?_
  refine V.ret ?_
  obtain rfl := Option.some.inj hm0
  exact ⟨_, [], ⟨_, _, rfl, rfl, _, _, rfl, rfl, rfl⟩, List.nil_sublist _, rfl, rfl⟩

theorem ok_spec_l7Path_s {ρ0 σ0 rn : Nat} {list : List Format} {from_ : Int} {to_ : Int} {day : Int} {more : Int} {r : List Int × Bool} {rec_ : (List Format) → Int → Int → Int → Int → Option (List Int × Bool)} (hrec_ : ∀ {ρ0 σ0 rn : Nat} {list : List Format} {from_ : Int} {to_ : Int} {day : Int} {more : Int} {r : List Int × Bool} , rec_ list from_ to_ day more = some r → Does Tryd.prog 59 [.vl ρ0 4 (List.map (encFormat σ0) list), .int .i64 from_, .int .i64 to_, .int .i64 day, .int .i64 more] [] rn (fun x H => ∃ (ob0_ : Nat), x = .tup [PV.sref ob0_ 1 0 (List.length r.1), .bool r.2] ∧ H = [(ob0_, ⟨1, List.map encInt r.1⟩)])) (h : M.spec_l7Path_s rec_ list from_ to_ day more = some r) : Does Tryd.prog 59 [.vl ρ0 4 (List.map (encFormat σ0) list), .int .i64 from_, .int .i64 to_, .int .i64 day, .int .i64 more] [] rn (fun x H => ∃ (ob0_ : Nat), x = .tup [PV.sref ob0_ 1 0 (List.length r.1), .bool r.2] ∧ H = [(ob0_, ⟨1, List.map encInt r.1⟩)]) := by
 have hm0 := h; clear h; unfold M.spec_l7Path_s at hm0
 try dsimp only at hm0
 refine Does.intro (N := 65) Tryd.func59 rfl rfl rfl rfl ?_
 intro w0 S0 L0
 refine V.seq ?_
 refine V.region ?_
 refine VO.cons rfl (V1.assign rfl rfl rfl lt0 ?_)
 refine VO.cons rfl (V1.assign rfl rfl rfl lt0 ?_)
 refine VO.nil ?_
 refine V.seq ?_
 refine V.seq ?_
 refine V.region ?_
 refine VO.cons rfl (V1.move rfl rfl rfl lt0 ?_)
 refine VO.cons rfl (V1.int rfl rfl rfl rfl rfl lt0 ?_)
 refine VO.nil ?_
 refine V.cond rfl (fun hc0 => ?_) (fun hc0 => ?_)
 ·
  replace hm0 := cond_t hc0 hm0
  refine V.seq ?_
  refine V.region ?_
  refine VO.cons rfl (V1.move rfl rfl rfl lt0 ?_)
  refine VO.cons rfl (V1.buildSliceT (f := encInt) ([from_] : List Int) rfl rfl esz_27 zk_3 rfl rfl rfl rfl rfl rfl rfl lt0 ?_)
  intro b0
  refine VO.cons rfl (V1.move rfl rfl rfl lt0 ?_)
  refine VO.cons rfl (V1.move rfl rfl rfl lt0 ?_)
  refine VO.cons rfl (V1.int rfl rfl rfl rfl rfl lt0 ?_)
  refine VO.cons rfl (V1.assign rfl rfl rfl lt0 ?_)
  refine VO.cons rfl (V1.assign rfl rfl rfl lt0 ?_)
  refine VO.nil ?_
  refine V.keep 65 [10, 11] [0] (E0 := [(10, .sref b0 1 0 (List.length ([from_] : List Int))), (11, .bool (from_ == to_))]) (H0 := [(b0, ⟨1, List.map encInt ([from_] : List Int)⟩)]) rfl (⟨_, _, rfl, rfl, _, _, rfl, rfl, rfl⟩) (⟨_, _, rfl, rfl, rfl⟩) rfl ?_
  refine V.ret ?_
  obtain rfl := Option.some.inj hm0
  exact ⟨_, _, ⟨_, _, rfl, rfl, _, _, rfl, rfl, rfl⟩, List.Sublist.refl _, b0, rfl, rfl⟩
 ·
  replace hm0 := cond_f hc0 hm0
  refine V.skip ?_
  refine V.keep 65 [0, 1, 2, 3, 4] [] (E0 := [(0, .vl ρ0 4 (List.map (encFormat σ0) list)), (1, .int .i64 from_), (2, .int .i64 to_), (3, .int .i64 day), (4, .int .i64 more)]) (H0 := []) rfl (⟨_, _, rfl, rfl, _, _, rfl, rfl, _, _, rfl, rfl, _, _, rfl, rfl, _, _, rfl, rfl, rfl⟩) (rfl) rfl ?_
  refine V.seq ?_
  refine V.seq ?_
  refine V.region ?_
  refine VO.cons rfl (V1.assign rfl rfl rfl lt0 ?_)
  refine VO.nil ?_
  replace hm0 := bindO hm0; rcases hm0 with ⟨e0, he1, hm0⟩
  refine V.cutT (D := (Unit) × (Unit)) (fun ⟨_, _⟩ => ⟨65, [], []⟩) (fun ⟨_, _⟩ => (.inl () = e0)) ?_ ?_
  ·
   refine V.block ?_
   refine V.keep 65 [12, 0, 1, 2, 3, 4] [] (E0 := [(12, .int .i64 (0 : Int)), (0, .vl ρ0 4 (List.map (encFormat σ0) list)), (1, .int .i64 from_), (2, .int .i64 to_), (3, .int .i64 day), (4, .int .i64 more)]) (H0 := []) rfl (⟨_, _, rfl, rfl, _, _, rfl, rfl, _, _, rfl, rfl, _, _, rfl, rfl, _, _, rfl, rfl, _, _, rfl, rfl, rfl⟩) (rfl) rfl ?_
   refine V.loopE (D := Nat × (Int) × (Unit)) (fun ⟨n0, i, _⟩ => [(12, .int .i64 i)]) (fun ⟨n0, i, _⟩ => []) (fun ⟨n0, i, _⟩ => loopO (M.spec_l7Path_l0 list from_ to_ day more rec_) n0 i = some e0) (fun ⟨n0, _, _⟩ => n0) (rounds, (0 : Int), ()) rfl he1 ?_
   rintro ⟨n0, i, _⟩ hP0
   obtain ⟨m0, y0, rfl, hm1, hl1, hr1⟩ := loop_head hP0
   unfold M.spec_l7Path_l0 at hm1; dsimp only at hm1
   show V _ _ _ ⟨65, [(12, .int .i64 i), (0, .vl ρ0 4 (List.map (encFormat σ0) list)), (1, .int .i64 from_), (2, .int .i64 to_), (3, .int .i64 day), (4, .int .i64 more)], []⟩
   refine V.seq ?_
   refine V.seq ?_
   refine V.region ?_
   refine VO.cons rfl (V1.move rfl rfl rfl lt0 ?_)
   refine VO.cons rfl (V1.move rfl rfl rfl lt0 ?_)
   refine VO.cons rfl (V1.lenMap rfl rfl rfl rfl rfl rfl isl_24 lt0 ?_)
   refine VO.cons rfl (V1.int rfl rfl rfl rfl rfl lt0 ?_)
   refine VO.nil ?_
   refine V.cond rfl (fun hc1 => ?_) (fun hc1 => ?_)
   ·
    replace hm1 := cond_t hc1 hm1
    refine V.skip ?_
    refine V.keep 65 [0, 1, 2, 3, 4, 12] [] (E0 := [(0, .vl ρ0 4 (List.map (encFormat σ0) list)), (1, .int .i64 from_), (2, .int .i64 to_), (3, .int .i64 day), (4, .int .i64 more), (12, .int .i64 i)]) (H0 := []) rfl (⟨_, _, rfl, rfl, _, _, rfl, rfl, _, _, rfl, rfl, _, _, rfl, rfl, _, _, rfl, rfl, _, _, rfl, rfl, rfl⟩) (rfl) rfl ?_
    refine V.seq ?_
    replace hm1 := bindO hm1; rcases hm1 with ⟨j0, hm2, hm1⟩
    refine V.cutT (D := (Unit) × (Unit)) (fun ⟨_, _⟩ => ⟨65, [(0, .vl ρ0 4 (List.map (encFormat σ0) list)), (1, .int .i64 from_), (2, .int .i64 to_), (3, .int .i64 day), (4, .int .i64 more), (12, .int .i64 i)], []⟩) (fun ⟨_, _⟩ => (.inl () = j0)) ?_ ?_
    ·
     refine V.block ?_
     refine V.seq ?_
     refine V.seq ?_
     replace hm2 := asrt_some hm2; rcases hm2 with ⟨hh0, hm2⟩
     replace hm2 := asrt_some hm2; rcases hm2 with ⟨hh1, hm2⟩
     replace hm2 := bindO hm2; rcases hm2 with ⟨y1, hh2, hm2⟩
     refine V.region ?_
     refine VO.cons rfl (V1.move rfl rfl rfl lt0 ?_)
     refine VO.cons rfl (V1.move rfl rfl rfl lt0 ?_)
     refine VO.cons rfl (V1.indexI rfl rfl esz_24 rfl rfl hh0 lt0 ?_)
     refine VO.cons rfl (V1.fieldPin rfl rfl fo_34_2 rfl lt0 ?_)
     refine VO.cons rfl (V1.loadPin rfl rfl tyk_3 rfl rfl lt0 ?_)
     refine VO.cons rfl (V1.move rfl rfl rfl lt0 ?_)
     refine VO.cons rfl (V1.int rfl rfl rfl rfl rfl lt0 ?_)
     refine VO.cons rfl (V1.move rfl rfl rfl lt0 ?_)
     apply VO.or (n := 8) rfl rfl rfl rfl rfl rfl lt0 (.none rfl)
     ·
      intro hg0
      refine VO.step (.some rfl rfl rfl) (V1.move rfl rfl rfl lt0 ?_)
      refine VO.step (.some rfl rfl rfl) (V1.move rfl rfl rfl lt0 ?_)
      refine VO.step (.some rfl rfl rfl) (V1.indexI rfl rfl esz_24 rfl rfl (hh1 hg0) lt0 ?_)
      refine VO.step (.some rfl rfl rfl) (V1.fieldPin rfl rfl fo_34_3 rfl lt0 ?_)
      refine VO.step (.some rfl rfl rfl) (V1.loadPin rfl rfl tyk_27 rfl rfl lt0 ?_)
      refine VO.step (.some rfl rfl rfl) (V1.move rfl rfl rfl lt0 ?_)
      refine VO.step (.some rfl rfl rfl) (V1.call rfl rfl rfl cok_58 rfl (ok_spec_l1Has (cond_f hg0 hh2)) rfl lt0 ?_)
      rintro _ _ ⟨rfl, rfl⟩
      refine VO.step (.some rfl rfl rfl) (V1.not rfl rfl rfl lt0 ?_)
      exact VO.nil ⟨rfl, rfl, rfl, rfl, .inr ⟨rfl, .inr ⟨rfl, .inr ⟨rfl, .inr ⟨rfl, .inr ⟨rfl, .inr ⟨rfl, .inr ⟨rfl, .inr ⟨rfl, .inr ⟨rfl, .inl rfl⟩⟩⟩⟩⟩⟩⟩⟩⟩⟩
     refine VO.nil ?_
     refine V.keep 65 [0, 1, 2, 3, 4, 12, 44] [] (E0 := [(0, .vl ρ0 4 (List.map (encFormat σ0) list)), (1, .int .i64 from_), (2, .int .i64 to_), (3, .int .i64 day), (4, .int .i64 more), (12, .int .i64 i), (44, .bool ((decide (((list.getD (Int.toNat i) default).Until) < day)) || (!y1)))]) (H0 := []) rfl (⟨_, _, rfl, rfl, _, _, rfl, rfl, _, _, rfl, rfl, _, _, rfl, rfl, _, _, rfl, rfl, _, _, rfl, rfl, _, _, rfl, rfl, rfl⟩) (rfl) rfl ?_
     refine V.cond rfl (fun hc2 => ?_) (fun hc2 => ?_)
     ·
      replace hm2 := cond_t hc2 hm2
      refine V.exit ?_
      exact ⟨((), ()), Option.some.inj hm2, Keeps.mk (ks := []) rfl ⟨rfl, rfl, rfl, rfl, rfl, rfl, trivial⟩ (rfl) rfl⟩
     ·
      replace hm2 := cond_f hc2 hm2
      refine V.skip ?_
      refine V.seq ?_
      replace hm2 := asrt_some hm2; rcases hm2 with ⟨hh3, hm2⟩
      replace hm2 := bindO hm2; rcases hm2 with ⟨y2, hh4, hm2⟩
      refine V.region ?_
      refine VO.cons rfl (V1.move rfl rfl rfl lt0 ?_)
      refine VO.cons rfl (V1.move rfl rfl rfl lt0 ?_)
      refine VO.cons rfl (V1.move rfl rfl rfl lt0 ?_)
      refine VO.cons rfl (V1.indexI rfl rfl esz_24 rfl rfl hh3 lt0 ?_)
      refine VO.cons rfl (V1.fieldPin rfl rfl fo_34_0 rfl lt0 ?_)
      refine VO.cons rfl (V1.loadPin rfl rfl tyk_3 rfl rfl lt0 ?_)
      refine VO.cons rfl (V1.move rfl rfl rfl lt0 ?_)
      refine VO.cons rfl (V1.move rfl rfl rfl lt0 ?_)
      refine VO.cons rfl (V1.move rfl rfl rfl lt0 ?_)
      refine VO.cons rfl (V1.int rfl rfl rfl rfl rfl lt0 ?_)
      refine VO.cons rfl (V1.call rfl rfl rfl cok_59 rfl (hrec_ hh4) rfl lt0 ?_)
      rintro _ _ ⟨b1, rfl, rfl⟩
      refine VO.cons rfl (V1.move rfl rfl rfl lt0 ?_)
      refine VO.cons rfl (V1.extract rfl rfl rfl rfl lt0 ?_)
      refine VO.weakenK (Keeps.freezeG 0 rn [(57, .vl rn 1 (List.map encInt y2.1))] ([]) (f := encInt) (l := y2.1) rfl (fun _ => rfl) ⟨⟨_, rfl, .here⟩, trivial⟩ rfl rfl iNil) ?_
      refine VO.cons rfl (V1.extract rfl rfl rfl rfl lt0 ?_)
      refine VO.cons rfl (V1.assign rfl rfl rfl lt0 ?_)
      refine VO.cons rfl (V1.assign rfl rfl rfl lt0 ?_)
      refine VO.nil ?_
      refine V.keep 65 [0, 1, 2, 3, 4, 12, 13, 14] [] (E0 := [(0, .vl ρ0 4 (List.map (encFormat σ0) list)), (1, .int .i64 from_), (2, .int .i64 to_), (3, .int .i64 day), (4, .int .i64 more), (12, .int .i64 i), (13, .vl rn 1 (List.map encInt y2.1)), (14, .bool y2.2)]) (H0 := []) rfl (⟨_, _, rfl, rfl, _, _, rfl, rfl, _, _, rfl, rfl, _, _, rfl, rfl, _, _, rfl, rfl, _, _, rfl, rfl, _, _, rfl, rfl, _, _, rfl, rfl, rfl⟩) (rfl) rfl ?_
      refine V.seq ?_
      refine V.region ?_
      refine VO.cons rfl (V1.move rfl rfl rfl lt0 ?_)
      refine VO.nil ?_
      refine V.cond rfl (fun hc3 => ?_) (fun hc3 => ?_)
      ·
       replace hm2 := cond_t hc3 hm2
       refine V.seq ?_
       replace hm2 := asrt_some hm2; rcases hm2 with ⟨hh5, hm2⟩
       refine V.region ?_
       refine VO.cons rfl (V1.move rfl rfl rfl lt0 ?_)
       refine VO.cons rfl (V1.buildSliceT (f := encInt) ([from_] : List Int) rfl rfl esz_27 zk_3 rfl rfl rfl rfl rfl rfl rfl lt0 ?_)
       intro b2
       refine VO.cons rfl (V1.move rfl rfl rfl lt0 ?_)
       refine VO.cons rfl (V1.appendMap (k := 0) (f := encInt) (l := ([from_] : List Int)) (m := y2.1) rfl rfl rfl rfl rfl esz_27 eby_27 zk_3 rfl rfl rfl (.vl isl_27) hh5 lt0 ?_)
       intro b3
       refine VO.cons rfl (V1.assign rfl rfl rfl lt0 ?_)
       refine VO.cons rfl (V1.assign rfl rfl rfl lt0 ?_)
       refine VO.nil ?_
       refine V.keep 65 [10, 11] [0] (E0 := [(10, .sref b3 1 0 (List.length (([from_] : List Int) ++ y2.1))), (11, .bool true)]) (H0 := [(b3, ⟨1, List.map encInt (([from_] : List Int) ++ y2.1)⟩)]) rfl (⟨_, _, rfl, rfl, _, _, rfl, rfl, rfl⟩) (⟨_, _, rfl, rfl, rfl⟩) rfl ?_
       refine V.ret ?_
       obtain rfl := Option.some.inj hm2
       change some _ = some _ at hm1
       obtain rfl := hr1 _ (Option.some.inj hm1).symm
       change some _ = some _ at hm0
       obtain rfl := Option.some.inj hm0
       exact ⟨_, _, ⟨_, _, rfl, rfl, _, _, rfl, rfl, rfl⟩, List.Sublist.refl _, b3, rfl, rfl⟩
      ·
       replace hm2 := cond_f hc3 hm2
       refine V.skip ?_
       exact ⟨((), ()), Option.some.inj hm2, Keeps.mk (ks := []) rfl ⟨rfl, rfl, rfl, rfl, rfl, rfl, trivial⟩ (rfl) rfl⟩
    ·
     rintro ⟨_, _⟩ rfl
     try dsimp only at hm1
     refine V.region ?_
     refine VO.cons rfl (V1.move rfl rfl rfl lt0 ?_)
     refine VO.cons rfl (V1.int rfl rfl rfl rfl rfl lt0 ?_)
     refine VO.cons rfl (V1.assign rfl rfl rfl lt0 ?_)
     refine VO.nil ?_
     exact ⟨(m0, (IntKind.i64.wrap (i + (1 : Int))), ()), hl1 _ (Option.some.inj hm1).symm, Nat.lt_succ_self _, Keeps.mk (ks := []) rfl ⟨rfl, rfl, rfl, rfl, rfl, rfl, trivial⟩ (rfl) rfl⟩
   ·
    replace hm1 := cond_f hc1 hm1
    refine V.exit ?_
    obtain rfl := hr1 _ (Option.some.inj hm1).symm
    exact ⟨((), ()), rfl, Keeps.mk (ks := []) rfl trivial (rfl) rfl⟩
  ·
   rintro ⟨_, _⟩ rfl
   try dsimp only at hm0
   refine V.seq ?_
   refine V.region ?_
   refine VO.cons rfl (V1.buildSliceT (f := encInt) ([] : List Int) rfl rfl esz_27 zk_3 rfl rfl rfl rfl rfl rfl rfl lt0 ?_)
   intro b4
   refine VO.cons rfl (V1.assign rfl rfl rfl lt0 ?_)
   refine VO.cons rfl (V1.assign rfl rfl rfl lt0 ?_)
   refine VO.nil ?_
   refine V.keep 65 [10, 11] [0] (E0 := [(10, .sref b4 1 0 (List.length ([] : List Int))), (11, .bool false)]) (H0 := [(b4, ⟨1, List.map encInt ([] : List Int)⟩)]) rfl (⟨_, _, rfl, rfl, _, _, rfl, rfl, rfl⟩) (⟨_, _, rfl, rfl, rfl⟩) rfl ?_
   refine V.ret ?_
   obtain rfl := Option.some.inj hm0
   exact ⟨_, _, ⟨_, _, rfl, rfl, _, _, rfl, rfl, rfl⟩, List.Sublist.refl _, b4, rfl, rfl⟩

theorem ok_spec_l7Path_r (k_ : Nat) : ∀ {ρ0 σ0 rn : Nat} {list : List Format} {from_ : Int} {to_ : Int} {day : Int} {more : Int} {r : List Int × Bool} , M.spec_l7Path_r k_ list from_ to_ day more = some r → Does Tryd.prog 59 [.vl ρ0 4 (List.map (encFormat σ0) list), .int .i64 from_, .int .i64 to_, .int .i64 day, .int .i64 more] [] rn (fun x H => ∃ (ob0_ : Nat), x = .tup [PV.sref ob0_ 1 0 (List.length r.1), .bool r.2] ∧ H = [(ob0_, ⟨1, List.map encInt r.1⟩)]) := by
 induction k_ with
 | zero =>
  intro ρ0 σ0 rn list from_ to_ day more r h
  have h0 : (none : Option (List Int × Bool)) = some r := h
  cases h0
 | succ k_ ih =>
  intro ρ0 σ0 rn list from_ to_ day more r h
  exact ok_spec_l7Path_s (rec_ := M.spec_l7Path_r k_) @ih h

theorem ok_spec_l7Path {ρ0 σ0 rn : Nat} {list : List Format} {from_ : Int} {to_ : Int} {day : Int} {more : Int} {r : List Int × Bool} (h : M.spec_l7Path list from_ to_ day more = some r) : Does Tryd.prog 59 [.vl ρ0 4 (List.map (encFormat σ0) list), .int .i64 from_, .int .i64 to_, .int .i64 day, .int .i64 more] [] rn (fun x H => ∃ (ob0_ : Nat), x = .tup [PV.sref ob0_ 1 0 (List.length r.1), .bool r.2] ∧ H = [(ob0_, ⟨1, List.map encInt r.1⟩)]) := ok_spec_l7Path_r rounds h

theorem ok_spec_ShortestPath {ρ0 σ0 rn : Nat} {list : List Format} {from_ : Int} {to_ : Int} {day : Int} {r : List Int × Bool} (h : M.spec_ShortestPath list from_ to_ day = some r) : Does Tryd.prog 9 [.vl ρ0 4 (List.map (encFormat σ0) list), .int .i64 from_, .int .i64 to_, .int .i64 day] [] rn (fun x H => ∃ (ob0_ : Nat), x = .tup [PV.sref ob0_ 1 0 (List.length r.1), .bool r.2] ∧ H = [(ob0_, ⟨1, List.map encInt r.1⟩)]) := by
 have hm0 := h; clear h; unfold M.spec_ShortestPath at hm0
 try dsimp only at hm0
 refine Does.intro (N := 49) Tryd.func9 rfl rfl rfl rfl ?_
 intro w0 S0 L0
 refine V.seq ?_
 refine V.region ?_
 refine VO.cons rfl (V1.assign rfl rfl rfl lt0 ?_)
 refine VO.cons rfl (V1.assign rfl rfl rfl lt0 ?_)
 refine VO.nil ?_
 refine V.seq ?_
 replace hm0 := bindO hm0; rcases hm0 with ⟨y0, hh0, hm0⟩
 refine V.region ?_
 refine VO.cons rfl (V1.move rfl rfl rfl lt0 ?_)
 refine VO.cons rfl (V1.move rfl rfl rfl lt0 ?_)
 refine VO.cons rfl (V1.move rfl rfl rfl lt0 ?_)
 refine VO.cons rfl (V1.call rfl rfl rfl cok_12 rfl (ok_spec_WaysTo hh0) rfl lt0 ?_)
 rintro _ _ ⟨rfl, rfl⟩
 refine VO.cons rfl (V1.move rfl rfl rfl lt0 ?_)
 refine VO.cons rfl (V1.extract rfl rfl rfl rfl lt0 ?_)
 refine VO.cons rfl (V1.extract rfl rfl rfl rfl lt0 ?_)
 refine VO.cons rfl (V1.assign rfl rfl rfl lt0 ?_)
 refine VO.cons rfl (V1.assign rfl rfl rfl lt0 ?_)
 refine VO.nil ?_
 refine V.keep 49 [0, 1, 2, 3, 10, 11] [] (E0 := [(0, .vl ρ0 4 (List.map (encFormat σ0) list)), (1, .int .i64 from_), (2, .int .i64 to_), (3, .int .i64 day), (10, .vl rn 1 (List.map encInt y0.1)), (11, .bool y0.2)]) (H0 := []) rfl (⟨_, _, rfl, rfl, _, _, rfl, rfl, _, _, rfl, rfl, _, _, rfl, rfl, _, _, rfl, rfl, _, _, rfl, rfl, rfl⟩) (rfl) rfl ?_
 refine V.seq ?_
 refine V.seq ?_
 replace hm0 := bindO hm0; rcases hm0 with ⟨y1, hh1, hm0⟩
 refine V.region ?_
 refine VO.cons rfl (V1.move rfl rfl rfl lt0 ?_)
 refine VO.cons rfl (V1.not rfl rfl rfl lt0 ?_)
 refine VO.cons rfl (V1.move rfl rfl rfl lt0 ?_)
 apply VO.or (n := 4) rfl rfl rfl rfl rfl rfl lt0 (.none rfl)
 ·
  intro hg0
  refine VO.step (.some rfl rfl rfl) (V1.move rfl rfl rfl lt0 ?_)
  refine VO.step (.some rfl rfl rfl) (V1.move rfl rfl rfl lt0 ?_)
  refine VO.step (.some rfl rfl rfl) (V1.call rfl rfl rfl cok_58 rfl (ok_spec_l1Has (cond_f hg0 hh1)) rfl lt0 ?_)
  rintro _ _ ⟨rfl, rfl⟩
  refine VO.step (.some rfl rfl rfl) (V1.not rfl rfl rfl lt0 ?_)
  exact VO.nil ⟨rfl, rfl, rfl, rfl, .inr ⟨rfl, .inr ⟨rfl, .inr ⟨rfl, .inr ⟨rfl, .inr ⟨rfl, .inl rfl⟩⟩⟩⟩⟩⟩
 refine VO.nil ?_
 refine V.keep 49 [0, 1, 2, 3, 10, 29] [] (E0 := [(0, .vl ρ0 4 (List.map (encFormat σ0) list)), (1, .int .i64 from_), (2, .int .i64 to_), (3, .int .i64 day), (10, .vl rn 1 (List.map encInt y0.1)), (29, .bool ((!y0.2) || (!y1)))]) (H0 := []) rfl (⟨_, _, rfl, rfl, _, _, rfl, rfl, _, _, rfl, rfl, _, _, rfl, rfl, _, _, rfl, rfl, _, _, rfl, rfl, rfl⟩) (rfl) rfl ?_
 refine V.cond rfl (fun hc0 => ?_) (fun hc0 => ?_)
 ·
  replace hm0 := cond_t hc0 hm0
  refine V.seq ?_
  refine V.region ?_
  refine VO.cons rfl (V1.buildSliceT (f := encInt) ([] : List Int) rfl rfl esz_27 zk_3 rfl rfl rfl rfl rfl rfl rfl lt0 ?_)
  intro b0
  refine VO.cons rfl (V1.assign rfl rfl rfl lt0 ?_)
  refine VO.cons rfl (V1.assign rfl rfl rfl lt0 ?_)
  refine VO.nil ?_
  refine V.keep 49 [8, 9] [0] (E0 := [(8, .sref b0 1 0 (List.length ([] : List Int))), (9, .bool false)]) (H0 := [(b0, ⟨1, List.map encInt ([] : List Int)⟩)]) rfl (⟨_, _, rfl, rfl, _, _, rfl, rfl, rfl⟩) (⟨_, _, rfl, rfl, rfl⟩) rfl ?_
  refine V.ret ?_
  obtain rfl := Option.some.inj hm0
  exact ⟨_, _, ⟨_, _, rfl, rfl, _, _, rfl, rfl, rfl⟩, List.Sublist.refl _, b0, rfl, rfl⟩
 ·
  replace hm0 := cond_f hc0 hm0
  refine V.skip ?_
  refine V.seq ?_
  refine V.seq ?_
  refine V.region ?_
  refine VO.cons rfl (V1.assign rfl rfl rfl lt0 ?_)
  refine VO.nil ?_
  replace hm0 := bindO hm0; rcases hm0 with ⟨e0, he1, hm0⟩
  refine V.cutT (D := (Unit) × (Unit)) (fun ⟨_, _⟩ => ⟨49, [], []⟩) (fun ⟨_, _⟩ => (.inl () = e0)) ?_ ?_
  ·
   refine V.block ?_
   refine V.keep 49 [12, 0, 1, 2, 3, 10] [] (E0 := [(12, .int .i64 (0 : Int)), (0, .vl ρ0 4 (List.map (encFormat σ0) list)), (1, .int .i64 from_), (2, .int .i64 to_), (3, .int .i64 day), (10, .vl rn 1 (List.map encInt y0.1))]) (H0 := []) rfl (⟨_, _, rfl, rfl, _, _, rfl, rfl, _, _, rfl, rfl, _, _, rfl, rfl, _, _, rfl, rfl, _, _, rfl, rfl, rfl⟩) (rfl) rfl ?_
   refine V.loopE (D := Nat × (Int) × (Unit)) (fun ⟨n0, more, _⟩ => [(12, .int .i64 more)]) (fun ⟨n0, more, _⟩ => []) (fun ⟨n0, more, _⟩ => loopO (M.spec_ShortestPath_l0 list from_ to_ day y0) n0 more = some e0) (fun ⟨n0, _, _⟩ => n0) (rounds, (0 : Int), ()) rfl he1 ?_
   rintro ⟨n0, more, _⟩ hP0
   obtain ⟨m0, y2, rfl, hm1, hl1, hr1⟩ := loop_head hP0
   unfold M.spec_ShortestPath_l0 at hm1; dsimp only at hm1
   show V _ _ _ ⟨49, [(12, .int .i64 more), (0, .vl ρ0 4 (List.map (encFormat σ0) list)), (1, .int .i64 from_), (2, .int .i64 to_), (3, .int .i64 day), (10, .vl rn 1 (List.map encInt y0.1))], []⟩
   refine V.seq ?_
   refine V.seq ?_
   refine V.region ?_
   refine VO.cons rfl (V1.move rfl rfl rfl lt0 ?_)
   refine VO.cons rfl (V1.move rfl rfl rfl lt0 ?_)
   refine VO.cons rfl (V1.lenMap rfl rfl rfl rfl rfl rfl isl_27 lt0 ?_)
   refine VO.cons rfl (V1.int rfl rfl rfl rfl rfl lt0 ?_)
   refine VO.nil ?_
   refine V.cond rfl (fun hc1 => ?_) (fun hc1 => ?_)
   ·
    replace hm1 := cond_t hc1 hm1
    refine V.skip ?_
    refine V.keep 49 [0, 1, 2, 3, 10, 12] [] (E0 := [(0, .vl ρ0 4 (List.map (encFormat σ0) list)), (1, .int .i64 from_), (2, .int .i64 to_), (3, .int .i64 day), (10, .vl rn 1 (List.map encInt y0.1)), (12, .int .i64 more)]) (H0 := []) rfl (⟨_, _, rfl, rfl, _, _, rfl, rfl, _, _, rfl, rfl, _, _, rfl, rfl, _, _, rfl, rfl, _, _, rfl, rfl, rfl⟩) (rfl) rfl ?_
    refine V.seq ?_
    refine V.block ?_
    refine V.seq ?_
    replace hm1 := bindO hm1; rcases hm1 with ⟨y3, hh2, hm1⟩
    refine V.region ?_
    refine VO.cons rfl (V1.move rfl rfl rfl lt0 ?_)
    refine VO.cons rfl (V1.move rfl rfl rfl lt0 ?_)
    refine VO.cons rfl (V1.move rfl rfl rfl lt0 ?_)
    refine VO.cons rfl (V1.move rfl rfl rfl lt0 ?_)
    refine VO.cons rfl (V1.move rfl rfl rfl lt0 ?_)
    refine VO.cons rfl (V1.call rfl rfl rfl cok_59 rfl (ok_spec_l7Path hh2) rfl lt0 ?_)
    rintro _ _ ⟨b1, rfl, rfl⟩
    refine VO.cons rfl (V1.move rfl rfl rfl lt0 ?_)
    refine VO.cons rfl (V1.extract rfl rfl rfl rfl lt0 ?_)
    refine VO.cons rfl (V1.extract rfl rfl rfl rfl lt0 ?_)
    refine VO.cons rfl (V1.assign rfl rfl rfl lt0 ?_)
    refine VO.cons rfl (V1.assign rfl rfl rfl lt0 ?_)
    refine VO.nil ?_
    refine V.keep 49 [0, 1, 2, 3, 10, 12, 13, 14] [0] (E0 := [(0, .vl ρ0 4 (List.map (encFormat σ0) list)), (1, .int .i64 from_), (2, .int .i64 to_), (3, .int .i64 day), (10, .vl rn 1 (List.map encInt y0.1)), (12, .int .i64 more), (13, .sref b1 1 0 (List.length y3.1)), (14, .bool y3.2)]) (H0 := [(b1, ⟨1, List.map encInt y3.1⟩)]) rfl (⟨_, _, rfl, rfl, _, _, rfl, rfl, _, _, rfl, rfl, _, _, rfl, rfl, _, _, rfl, rfl, _, _, rfl, rfl, _, _, rfl, rfl, _, _, rfl, rfl, rfl⟩) (⟨_, _, rfl, rfl, rfl⟩) rfl ?_
    refine V.seq ?_
    refine V.region ?_
    refine VO.cons rfl (V1.move rfl rfl rfl lt0 ?_)
    refine VO.nil ?_
    refine V.cond rfl (fun hc2 => ?_) (fun hc2 => ?_)
    ·
     replace hm1 := cond_t hc2 hm1
     refine V.seq ?_
     refine V.region ?_
     refine VO.cons rfl (V1.move rfl rfl rfl lt0 ?_)
     refine VO.cons rfl (V1.assign rfl rfl rfl lt0 ?_)
     refine VO.cons rfl (V1.assign rfl rfl rfl lt0 ?_)
     refine VO.nil ?_
     refine V.keep 49 [8, 9] [0] (E0 := [(8, .sref b1 1 0 (List.length y3.1)), (9, .bool true)]) (H0 := [(b1, ⟨1, List.map encInt y3.1⟩)]) rfl (⟨_, _, rfl, rfl, _, _, rfl, rfl, rfl⟩) (⟨_, _, rfl, rfl, rfl⟩) rfl ?_
     refine V.ret ?_
     obtain rfl := hr1 _ (Option.some.inj hm1).symm
     change some _ = some _ at hm0
     obtain rfl := Option.some.inj hm0
     exact ⟨_, _, ⟨_, _, rfl, rfl, _, _, rfl, rfl, rfl⟩, List.Sublist.refl _, b1, rfl, rfl⟩
    ·
     replace hm1 := cond_f hc2 hm1
     refine V.skip ?_
     refine V.region ?_
     refine VO.cons rfl (V1.move rfl rfl rfl lt0 ?_)
     refine VO.cons rfl (V1.int rfl rfl rfl rfl rfl lt0 ?_)
     refine VO.cons rfl (V1.assign rfl rfl rfl lt0 ?_)
     refine VO.nil ?_
     exact ⟨(m0, (IntKind.i64.wrap (more + (1 : Int))), ()), hl1 _ (Option.some.inj hm1).symm, Nat.lt_succ_self _, Keeps.mk (ks := []) rfl ⟨rfl, rfl, rfl, rfl, rfl, rfl, trivial⟩ (rfl) rfl⟩
   ·
    replace hm1 := cond_f hc1 hm1
    refine V.exit ?_
    obtain rfl := hr1 _ (Option.some.inj hm1).symm
    exact ⟨((), ()), rfl, Keeps.mk (ks := []) rfl trivial (rfl) rfl⟩
  ·
   rintro ⟨_, _⟩ rfl
   try dsimp only at hm0
   refine V.seq ?_
   refine V.region ?_
   refine VO.cons rfl (V1.buildSliceT (f := encInt) ([] : List Int) rfl rfl esz_27 zk_3 rfl rfl rfl rfl rfl rfl rfl lt0 ?_)
   intro b2
   refine VO.cons rfl (V1.assign rfl rfl rfl lt0 ?_)
   refine VO.cons rfl (V1.assign rfl rfl rfl lt0 ?_)
   refine VO.nil ?_
   refine V.keep 49 [8, 9] [0] (E0 := [(8, .sref b2 1 0 (List.length ([] : List Int))), (9, .bool false)]) (H0 := [(b2, ⟨1, List.map encInt ([] : List Int)⟩)]) rfl (⟨_, _, rfl, rfl, _, _, rfl, rfl, rfl⟩) (⟨_, _, rfl, rfl, rfl⟩) rfl ?_
   refine V.ret ?_
   obtain rfl := Option.some.inj hm0
   exact ⟨_, _, ⟨_, _, rfl, rfl, _, _, rfl, rfl, rfl⟩, List.Sublist.refl _, b2, rfl, rfl⟩

theorem ok_laws_rInts {ρ0 ρ1 rn : Nat} {a : List Int} {b_ : List Int} {r : Bool} (h : M.laws_rInts a b_ = some r) : Does Tryd.prog 10 [.vl ρ0 1 (List.map encInt a), .vl ρ1 1 (List.map encInt b_)] [] rn (fun x H => x = .bool r ∧ H = []) := by
 have hm0 := h; clear h; unfold M.laws_rInts at hm0
 try dsimp only at hm0
 refine Does.intro (N := 26) Tryd.func10 rfl rfl rfl rfl ?_
 intro w0 S0 L0
 refine V.seq ?_
 refine V.region ?_
 refine VO.cons rfl (V1.assign rfl rfl rfl lt0 ?_)
 refine VO.nil ?_
 refine V.seq ?_
 refine V.seq ?_
 refine V.region ?_
 refine VO.cons rfl (V1.move rfl rfl rfl lt0 ?_)
 refine VO.cons rfl (V1.lenMap rfl rfl rfl rfl rfl rfl isl_27 lt0 ?_)
 refine VO.cons rfl (V1.move rfl rfl rfl lt0 ?_)
 refine VO.cons rfl (V1.lenMap rfl rfl rfl rfl rfl rfl isl_27 lt0 ?_)
 refine VO.cons rfl (V1.int rfl rfl rfl rfl rfl lt0 ?_)
 refine VO.nil ?_
 refine V.keep 26 [0, 1, 10] [] (E0 := [(0, .vl ρ0 1 (List.map encInt a)), (1, .vl ρ1 1 (List.map encInt b_)), (10, .bool ((a.length : Int) != (b_.length : Int)))]) (H0 := []) rfl (⟨_, _, rfl, rfl, _, _, rfl, rfl, _, _, rfl, rfl, rfl⟩) (rfl) rfl ?_
 refine V.cond rfl (fun hc0 => ?_) (fun hc0 => ?_)
 ·
  replace hm0 := cond_t hc0 hm0
  refine V.seq ?_
  refine V.region ?_
  refine VO.cons rfl (V1.assign rfl rfl rfl lt0 ?_)
  refine VO.nil ?_
  refine V.ret ?_
  obtain rfl := Option.some.inj hm0
  exact ⟨_, [], ⟨_, _, rfl, rfl, rfl⟩, List.nil_sublist _, rfl, rfl⟩
 ·
  replace hm0 := cond_f hc0 hm0
  refine V.skip ?_
  refine V.seq ?_
  refine V.seq ?_
  refine V.region ?_
  refine VO.cons rfl (V1.assign rfl rfl rfl lt0 ?_)
  refine VO.nil ?_
  replace hm0 := bindO hm0; rcases hm0 with ⟨e0, he1, hm0⟩
  refine V.cutT (D := (Unit) × (Unit)) (fun ⟨_, _⟩ => ⟨26, [], []⟩) (fun ⟨_, _⟩ => (.inl () = e0)) ?_ ?_
  ·
   refine V.block ?_
   refine V.keep 26 [5, 0, 1] [] (E0 := [(5, .int .i64 (0 : Int)), (0, .vl ρ0 1 (List.map encInt a)), (1, .vl ρ1 1 (List.map encInt b_))]) (H0 := []) rfl (⟨_, _, rfl, rfl, _, _, rfl, rfl, _, _, rfl, rfl, rfl⟩) (rfl) rfl ?_
   refine V.loopE (D := Nat × (Int) × (Unit)) (fun ⟨n0, i, _⟩ => [(5, .int .i64 i)]) (fun ⟨n0, i, _⟩ => []) (fun ⟨n0, i, _⟩ => loopO (M.laws_rInts_l0 a b_) n0 i = some e0) (fun ⟨n0, _, _⟩ => n0) (rounds, (0 : Int), ()) rfl he1 ?_
   rintro ⟨n0, i, _⟩ hP0
   obtain ⟨m0, y0, rfl, hm1, hl1, hr1⟩ := loop_head hP0
   unfold M.laws_rInts_l0 at hm1; dsimp only at hm1
   show V _ _ _ ⟨26, [(5, .int .i64 i), (0, .vl ρ0 1 (List.map encInt a)), (1, .vl ρ1 1 (List.map encInt b_))], []⟩
   refine V.seq ?_
   refine V.seq ?_
   refine V.region ?_
   refine VO.cons rfl (V1.move rfl rfl rfl lt0 ?_)
   refine VO.cons rfl (V1.move rfl rfl rfl lt0 ?_)
   refine VO.cons rfl (V1.lenMap rfl rfl rfl rfl rfl rfl isl_27 lt0 ?_)
   refine VO.cons rfl (V1.int rfl rfl rfl rfl rfl lt0 ?_)
   refine VO.nil ?_
   refine V.cond rfl (fun hc1 => ?_) (fun hc1 => ?_)
   ·
    replace hm1 := cond_t hc1 hm1
    refine V.skip ?_
    refine V.keep 26 [0, 1, 5] [] (E0 := [(0, .vl ρ0 1 (List.map encInt a)), (1, .vl ρ1 1 (List.map encInt b_)), (5, .int .i64 i)]) (H0 := []) rfl (⟨_, _, rfl, rfl, _, _, rfl, rfl, _, _, rfl, rfl, rfl⟩) (rfl) rfl ?_
    refine V.seq ?_
    refine V.block ?_
    refine V.seq ?_
    replace hm1 := asrt_some hm1; rcases hm1 with ⟨hh0, hm1⟩
    replace hm1 := asrt_some hm1; rcases hm1 with ⟨hh1, hm1⟩
    refine V.regionM 26 8 [⟨[(0, none)], [], none⟩, ⟨[(5, none)], [], none⟩, ⟨[(17, some 1), (18, some 0)], [], none⟩, ⟨[(19, some 0)], [], none⟩, ⟨[(1, none)], [], none⟩, ⟨[(5, none)], [], none⟩, ⟨[(21, some 1), (22, some 0)], [], none⟩, ⟨[(23, some 0)], [], none⟩] [(0, none), (1, none), (5, none), (20, some 4), (24, some 0)] (⟨_, rfl, ⟨_, rfl, ⟨_, rfl, ⟨_, rfl, ⟨_, rfl, ⟨_, rfl, ⟨_, rfl, ⟨_, rfl, ⟨rfl, rfl⟩⟩⟩⟩⟩⟩⟩⟩⟩) mixed_orders rfl (by decide +kernel) (fun hck6 => ?_)
    refine VP.step (p := ?pv65) rfl rfl rfl (⟨_, _, rfl, rfl, rfl⟩) ?hv65 ?rest65 hck6
    case hv65 =>
     intro E1
     refine (V1.move rfl rfl rfl lt0 ?_)
     exact rfl
    refine VP.step (p := ?pv66) rfl rfl rfl (⟨_, _, rfl, rfl, rfl⟩) ?hv66 ?rest66 hck6
    case hv66 =>
     intro E1
     refine (V1.move rfl rfl rfl lt0 ?_)
     exact rfl
    refine VP.step (p := ?pv67) rfl rfl rfl (⟨_, _, rfl, rfl, _, _, rfl, rfl, rfl⟩) ?hv67 ?rest67 hck6
    case hv67 =>
     intro E1
     refine (V1.indexI rfl rfl esz_27 rfl rfl hh0 lt0 ?_)
     exact rfl
    refine VP.step (p := ?pv68) rfl rfl rfl (⟨_, _, rfl, rfl, rfl⟩) ?hv68 ?rest68 hck6
    case hv68 =>
     intro E1
     refine (V1.loadPin rfl rfl tyk_3 rfl rfl lt0 ?_)
     exact rfl
    refine VP.step (p := ?pv69) rfl rfl rfl (⟨_, _, rfl, rfl, rfl⟩) ?hv69 ?rest69 hck6
    case hv69 =>
     intro E1
     refine (V1.move rfl rfl rfl lt0 ?_)
     exact rfl
    refine VP.step (p := ?pv70) rfl rfl rfl (⟨_, _, rfl, rfl, rfl⟩) ?hv70 ?rest70 hck6
    case hv70 =>
     intro E1
     refine (V1.move rfl rfl rfl lt0 ?_)
     exact rfl
    refine VP.step (p := ?pv71) rfl rfl rfl (⟨_, _, rfl, rfl, _, _, rfl, rfl, rfl⟩) ?hv71 ?rest71 hck6
    case hv71 =>
     intro E1
     refine (V1.indexI rfl rfl esz_27 rfl rfl hh1 lt0 ?_)
     exact rfl
    refine VP.step (p := ?pv72) rfl rfl rfl (⟨_, _, rfl, rfl, rfl⟩) ?hv72 ?rest72 hck6
    case hv72 =>
     intro E1
     refine (V1.loadPin rfl rfl tyk_3 rfl rfl lt0 ?_)
     exact rfl
    refine VP.fin rfl (⟨_, _, rfl, rfl, _, _, rfl, rfl, _, _, rfl, rfl, _, _, rfl, rfl, _, _, rfl, rfl, rfl⟩) ?_
    refine VO.cons rfl (V1.int rfl rfl rfl rfl rfl lt0 ?_)
    refine VO.nil ?_
    refine V.cond rfl (fun hc2 => ?_) (fun hc2 => ?_)
    ·
     replace hm1 := cond_t hc2 hm1
     refine V.seq ?_
     refine V.region ?_
     refine VO.cons rfl (V1.assign rfl rfl rfl lt0 ?_)
     refine VO.nil ?_
     refine V.ret ?_
     obtain rfl := hr1 _ (Option.some.inj hm1).symm
     change some _ = some _ at hm0
     obtain rfl := Option.some.inj hm0
     exact ⟨_, [], ⟨_, _, rfl, rfl, rfl⟩, List.nil_sublist _, rfl, rfl⟩
    ·
     replace hm1 := cond_f hc2 hm1
     refine V.skip ?_
     refine V.region ?_
     refine VO.cons rfl (V1.move rfl rfl rfl lt0 ?_)
     refine VO.cons rfl (V1.int rfl rfl rfl rfl rfl lt0 ?_)
     refine VO.cons rfl (V1.assign rfl rfl rfl lt0 ?_)
     refine VO.nil ?_
     exact ⟨(m0, (IntKind.i64.wrap (i + (1 : Int))), ()), hl1 _ (Option.some.inj hm1).symm, Nat.lt_succ_self _, Keeps.mk (ks := []) rfl ⟨rfl, rfl, rfl, trivial⟩ (rfl) rfl⟩
   ·
    replace hm1 := cond_f hc1 hm1
    refine V.exit ?_
    obtain rfl := hr1 _ (Option.some.inj hm1).symm
    exact ⟨((), ()), rfl, Keeps.mk (ks := []) rfl trivial (rfl) rfl⟩
  ·
   rintro ⟨_, _⟩ rfl
   try dsimp only at hm0
   refine V.seq ?_
   refine V.region ?_
   refine VO.cons rfl (V1.assign rfl rfl rfl lt0 ?_)
   refine VO.nil ?_
   refine V.ret ?_
   obtain rfl := Option.some.inj hm0
   exact ⟨_, [], ⟨_, _, rfl, rfl, rfl⟩, List.nil_sublist _, rfl, rfl⟩

theorem ok_slices_Sort_int_int {rn : Nat} {oq : Option Nat} {s r : List Int} (h : M.slices_Sort_int_int s = some r) (hoq : oq = none → s = []) : Does Tryd.prog 116 [optS 1 oq (List.length s)] (optH 1 oq (List.map encInt s)) rn (fun x H => x = .tup [] ∧ H = optH 1 oq (List.map encInt r)) := by
 unfold M.slices_Sort_int_int at h
 obtain ⟨h1, h⟩ := asrt_some h
 obtain rfl := Option.some.inj h; clear h
 exact Does.sortI hoq (fun blk off cap zs w h1 h2 h3 => Go.Proofs.Any.slices_Sort_int Go.Proofs.Tryd.lays189 blk off cap zs w h1 h2 h3) (fun p cap w => Go.Proofs.Any.slices_Sort_int_none Go.Proofs.Tryd.lays189 p cap w) h1

theorem ok_impl_waysTo {ρ0 σ0 rn : Nat} {list : List Format} {id_ : Int} {day : Int} {r : List Int} (h : M.impl_waysTo list id_ day = some r) : Does Tryd.prog 60 [.vl ρ0 4 (List.map (encFormat σ0) list), .int .i64 id_, .int .i64 day] [] rn (fun x H => ∃ (ob0_ : Nat), x = PV.sref ob0_ 1 0 (List.length r) ∧ H = [(ob0_, ⟨1, List.map encInt r⟩)]) := by
 have hm0 := h; clear h; unfold M.impl_waysTo at hm0
 try dsimp only at hm0
 refine Does.intro (N := 55) Tryd.func60 rfl rfl rfl rfl ?_
 intro w0 S0 L0
 refine V.seq ?_
 refine V.region ?_
 refine VO.cons rfl (V1.assign rfl rfl rfl lt0 ?_)
 refine VO.nil ?_
 refine V.seq ?_
 refine V.region ?_
 refine VO.cons rfl (V1.move rfl rfl rfl lt0 ?_)
 refine VO.cons rfl (V1.buildSliceT (f := encInt) ([id_] : List Int) rfl rfl esz_27 zk_3 rfl rfl rfl rfl rfl rfl rfl lt0 ?_)
 intro b0
 refine VO.cons rfl (V1.assign rfl rfl rfl lt0 ?_)
 refine VO.nil ?_
 refine V.keep 55 [0, 2, 7] [0] (E0 := [(0, .vl ρ0 4 (List.map (encFormat σ0) list)), (2, .int .i64 day), (7, .sref b0 1 0 (List.length ([id_] : List Int)))]) (H0 := [(b0, ⟨1, List.map encInt ([id_] : List Int)⟩)]) rfl (⟨_, _, rfl, rfl, _, _, rfl, rfl, _, _, rfl, rfl, rfl⟩) (⟨_, _, rfl, rfl, rfl⟩) rfl ?_
 refine V.seq ?_
 refine V.seq ?_
 refine V.region ?_
 refine VO.cons rfl (V1.assign rfl rfl rfl lt0 ?_)
 refine VO.nil ?_
 replace hm0 := bindO hm0; rcases hm0 with ⟨e0, he1, hm0⟩
 refine V.cutT (D := (List Int) × (Nat)) (fun ⟨ids, b1⟩ => ⟨55, [(7, .sref b1 1 0 (List.length ids))], [(b1, ⟨1, List.map encInt ids⟩)]⟩) (fun ⟨ids, b1⟩ => (ids = e0)) ?_ ?_
 ·
  refine V.block ?_
  refine V.keep 55 [7, 8, 0, 2] [0] (E0 := [(7, .sref b0 1 0 (List.length ([id_] : List Int))), (8, .int .i64 (0 : Int)), (0, .vl ρ0 4 (List.map (encFormat σ0) list)), (2, .int .i64 day)]) (H0 := [(b0, ⟨1, List.map encInt ([id_] : List Int)⟩)]) rfl (⟨_, _, rfl, rfl, _, _, rfl, rfl, _, _, rfl, rfl, _, _, rfl, rfl, rfl⟩) (⟨_, _, rfl, rfl, rfl⟩) rfl ?_
  refine V.loopE (D := Nat × (List Int × Int) × (Nat)) (fun ⟨n0, ⟨ids0, at_⟩, b2⟩ => [(7, .sref b2 1 0 (List.length ids0)), (8, .int .i64 at_)]) (fun ⟨n0, ⟨ids0, at_⟩, b2⟩ => [(b2, ⟨1, List.map encInt ids0⟩)]) (fun ⟨n0, ⟨ids0, at_⟩, b2⟩ => loopO (M.impl_waysTo_l0 list day) n0 (ids0, at_) = some e0) (fun ⟨n0, _, _⟩ => n0) (rounds, (([id_] : List Int), (0 : Int)), b0) rfl he1 ?_
  rintro ⟨n0, ⟨ids0, at_⟩, b2⟩ hP0
  obtain ⟨m0, y0, rfl, hm1, hl1, hr1⟩ := loop_head hP0
  unfold M.impl_waysTo_l0 at hm1; dsimp only at hm1
  show V _ _ _ ⟨55, [(7, .sref b2 1 0 (List.length ids0)), (8, .int .i64 at_), (0, .vl ρ0 4 (List.map (encFormat σ0) list)), (2, .int .i64 day)], [(b2, ⟨1, List.map encInt ids0⟩)]⟩
  refine V.seq ?_
  refine V.seq ?_
  refine V.region ?_
  refine VO.cons rfl (V1.move rfl rfl rfl lt0 ?_)
  refine VO.cons rfl (V1.move rfl rfl rfl lt0 ?_)
  refine VO.cons rfl (V1.lenSref rfl rfl rfl rfl rfl rfl isl_27 lt0 ?_)
  refine VO.cons rfl (V1.int rfl rfl rfl rfl rfl lt0 ?_)
  refine VO.nil ?_
  refine V.cond rfl (fun hc0 => ?_) (fun hc0 => ?_)
  ·
   replace hm1 := cond_t hc0 hm1
   refine V.skip ?_
   refine V.keep 55 [0, 2, 7, 8] [0] (E0 := [(0, .vl ρ0 4 (List.map (encFormat σ0) list)), (2, .int .i64 day), (7, .sref b2 1 0 (List.length ids0)), (8, .int .i64 at_)]) (H0 := [(b2, ⟨1, List.map encInt ids0⟩)]) rfl (⟨_, _, rfl, rfl, _, _, rfl, rfl, _, _, rfl, rfl, _, _, rfl, rfl, rfl⟩) (⟨_, _, rfl, rfl, rfl⟩) rfl ?_
   refine V.seq ?_
   refine V.block ?_
   refine V.seq ?_
   replace hm1 := asrt_some hm1; rcases hm1 with ⟨hh0, hm1⟩
   replace hm1 := bindO hm1; rcases hm1 with ⟨y1, hh1, hm1⟩
   replace hm1 := asrt_some hm1; rcases hm1 with ⟨hh2, hm1⟩
   refine V.region ?_
   refine VO.cons rfl (V1.move rfl rfl rfl lt0 ?_)
   refine VO.cons rfl (V1.move rfl rfl rfl lt0 ?_)
   refine VO.cons rfl (V1.move rfl rfl rfl lt0 ?_)
   refine VO.cons rfl (V1.move rfl rfl rfl lt0 ?_)
   refine VO.cons rfl (V1.indexSr rfl rfl esz_27 rfl rfl hh0 lt0 ?_)
   refine VO.cons rfl (V1.loadMap (k := 0) (f := encInt) rfl rfl tyk_3 rfl rfl (by simpa using natLt hh0.1 hh0.2) rfl lt0 ?_)
   refine VO.cons rfl (V1.call rfl rfl rfl cok_54 rfl (ok_impl_formatAt hh1) rfl lt0 ?_)
   rintro _ _ ⟨rfl, rfl⟩
   refine VO.cons rfl (V1.indexI rfl rfl esz_24 rfl rfl hh2 lt0 ?_)
   refine VO.cons rfl (V1.loadPinAll rfl rfl tyk_34 rfl rfl lt0 ?_)
   refine VO.cons rfl (V1.alloc rfl rfl zk_34 lt0 ?_)
   intro b3
   refine VO.cons rfl (V1.storeRefAll (k := 0) rfl rfl tyk_34 rfl rfl rfl rfl rfl rfl ?_)
   refine VO.nil ?_
   refine V.keep 55 [0, 2, 7, 8, 9] [0, 1] (E0 := [(0, .vl ρ0 4 (List.map (encFormat σ0) list)), (2, .int .i64 day), (7, .sref b2 1 0 (List.length ids0)), (8, .int .i64 at_), (9, .ref b3 4 0 0)]) (H0 := [(b3, ⟨4, [encFormat σ0 (list.getD (Int.toNat y1) default)]⟩), (b2, ⟨1, List.map encInt ids0⟩)]) rfl (⟨_, _, rfl, rfl, _, _, rfl, rfl, _, _, rfl, rfl, _, _, rfl, rfl, _, _, rfl, rfl, rfl⟩) (⟨_, _, rfl, rfl, _, _, rfl, rfl, rfl⟩) rfl ?_
   refine V.seq ?_
   refine V.region ?_
   refine VO.cons rfl (V1.move rfl rfl rfl lt0 ?_)
   refine VO.cons rfl (V1.lenMap rfl rfl rfl rfl rfl rfl isl_24 lt0 ?_)
   refine VO.cons rfl (V1.move rfl rfl rfl lt0 ?_)
   refine VO.nil ?_
   replace hm1 := bindO hm1; rcases hm1 with ⟨e1, he2, hm1⟩
   refine V.cutT (D := (List Int) × (Nat)) (fun ⟨ids1, b4⟩ => ⟨55, [(7, .sref b4 1 0 (List.length ids1)), (0, .vl ρ0 4 (List.map (encFormat σ0) list)), (2, .int .i64 day), (8, .int .i64 at_)], [(b4, ⟨1, List.map encInt ids1⟩)]⟩) (fun ⟨ids1, b4⟩ => (ids1 = e1)) ?_ ?_
   ·
    refine V.block ?_
    refine V.keep 55 [7, 31, 0, 2, 8, 9, 29, 30] [1, 0] (E0 := [(7, .sref b2 1 0 (List.length ids0)), (31, .int .i64 (0 : Int)), (0, .vl ρ0 4 (List.map (encFormat σ0) list)), (2, .int .i64 day), (8, .int .i64 at_), (9, .ref b3 4 0 0), (29, .vl ρ0 4 (List.map (encFormat σ0) list)), (30, .int .i64 (list.length : Int))]) (H0 := [(b2, ⟨1, List.map encInt ids0⟩), (b3, ⟨4, [encFormat σ0 (list.getD (Int.toNat y1) default)]⟩)]) rfl (⟨_, _, rfl, rfl, _, _, rfl, rfl, _, _, rfl, rfl, _, _, rfl, rfl, _, _, rfl, rfl, _, _, rfl, rfl, _, _, rfl, rfl, _, _, rfl, rfl, rfl⟩) (⟨_, _, rfl, rfl, _, _, rfl, rfl, rfl⟩) rfl ?_
    refine V.loopE (D := Nat × (List Int × Int) × (Nat)) (fun ⟨n1, ⟨ids2, v⟩, b5⟩ => [(7, .sref b5 1 0 (List.length ids2)), (31, .int .i64 v)]) (fun ⟨n1, ⟨ids2, v⟩, b5⟩ => [(b5, ⟨1, List.map encInt ids2⟩)]) (fun ⟨n1, ⟨ids2, v⟩, b5⟩ => loopO (M.impl_waysTo_l1 list day y1) n1 (ids2, v) = some e1) (fun ⟨n1, _, _⟩ => n1) (rounds, (ids0, (0 : Int)), b2) rfl he2 ?_
    rintro ⟨n1, ⟨ids2, v⟩, b5⟩ hP1
    obtain ⟨m1, y2, rfl, hm2, hl2, hr2⟩ := loop_head hP1
    unfold M.impl_waysTo_l1 at hm2; dsimp only at hm2
    show V _ _ _ ⟨55, [(7, .sref b5 1 0 (List.length ids2)), (31, .int .i64 v), (0, .vl ρ0 4 (List.map (encFormat σ0) list)), (2, .int .i64 day), (8, .int .i64 at_), (9, .ref b3 4 0 0), (29, .vl ρ0 4 (List.map (encFormat σ0) list)), (30, .int .i64 (list.length : Int))], [(b5, ⟨1, List.map encInt ids2⟩), (b3, ⟨4, [encFormat σ0 (list.getD (Int.toNat y1) default)]⟩)]⟩
    refine V.seq ?_
    refine V.region ?_
    refine VO.cons rfl (V1.int rfl rfl rfl rfl rfl lt0 ?_)
    refine VO.nil ?_
    refine V.seq ?_
    refine V.cond rfl (fun hc1 => ?_) (fun hc1 => ?_)
    ·
     replace hm2 := cond_t hc1 hm2
     refine V.skip ?_
     refine V.seq ?_
     replace hm2 := bindO hm2; rcases hm2 with ⟨j0, hm3, hm2⟩
     refine V.cutT (D := (List Int) × (Nat)) (fun ⟨ids3, b6⟩ => ⟨55, [(7, .sref b6 1 0 (List.length ids3)), (0, .vl ρ0 4 (List.map (encFormat σ0) list)), (2, .int .i64 day), (8, .int .i64 at_), (9, .ref b3 4 0 0), (29, .vl ρ0 4 (List.map (encFormat σ0) list)), (30, .int .i64 (list.length : Int)), (31, .int .i64 v)], [(b6, ⟨1, List.map encInt ids3⟩), (b3, ⟨4, [encFormat σ0 (list.getD (Int.toNat y1) default)]⟩)]⟩) (fun ⟨ids3, b6⟩ => (ids3 = j0)) ?_ ?_
     ·
      refine V.block ?_
      refine V.seq ?_
      replace hm3 := asrt_some hm3; rcases hm3 with ⟨hh3, hm3⟩
      refine V.region ?_
      refine VO.cons rfl (V1.indexI rfl rfl esz_24 rfl rfl hh3 lt0 ?_)
      refine VO.cons rfl (V1.loadPinAll rfl rfl tyk_34 rfl rfl lt0 ?_)
      refine VO.cons rfl (V1.alloc rfl rfl zk_34 lt0 ?_)
      intro b7
      refine VO.cons rfl (V1.storeRefAll (k := 0) rfl rfl tyk_34 rfl rfl rfl rfl rfl rfl ?_)
      refine VO.nil ?_
      refine V.seq ?_
      replace hm3 := bindO hm3; rcases hm3 with ⟨y3, hh4, hm3⟩
      replace hm3 := bindO hm3; rcases hm3 with ⟨y4, hh5, hm3⟩
      refine V.region ?_
      refine VO.cons rfl (V1.loadRefAll (k := 2) rfl rfl tyk_34 rfl rfl rfl rfl rfl lt0 ?_)
      refine VO.cons rfl (V1.loadRefAll (k := 0) rfl rfl tyk_34 rfl rfl rfl rfl rfl lt0 ?_)
      refine VO.cons rfl (V1.move rfl rfl rfl lt0 ?_)
      refine VO.cons rfl (V1.call rfl rfl rfl cok_55 rfl (ok_impl_leads hh4) rfl lt0 ?_)
      rintro _ _ ⟨rfl, rfl⟩
      refine VO.cons rfl (V1.move rfl rfl rfl lt0 ?_)
      apply VO.and (n := 5) rfl rfl rfl rfl rfl rfl lt0 (.none rfl)
      ·
       intro hg0
       refine VO.step (.some rfl rfl rfl) (V1.move rfl rfl rfl lt0 ?_)
       refine VO.step (.some rfl rfl rfl) (V1.fieldRef rfl rfl fo_34_0 rfl lt0 ?_)
       refine VO.step (.some rfl rfl rfl) (V1.loadRef (k := 0) rfl rfl tyk_3 rfl rfl rfl rfl rfl lt0 ?_)
       refine VO.step (.some rfl rfl rfl) (V1.callL (rn + 1) [b5] [.vl (rn + 1) 1 (List.map encInt ids2), .int .i64 ((list.getD (Int.toNat v) default).Id)] rfl rfl rfl cok_56 rfl ⟨_, _, rfl, Lend.srMap 1 rfl (fun _ => rfl) (.head _), ⟨_, _, rfl, .same _, rfl⟩⟩ (bwCons (k := 1) rfl bwNil) (ok_slices_Contains_int_int (cond_t hg0 hh5)) rfl (⟨(by first | omega | (dsimp only; omega)), by rintro _ _ ⟨rfl, rfl⟩; exact ⟨rfl, by simp⟩⟩) lt0 ?_)
       rintro _ _ ⟨rfl, rfl⟩
       refine VO.step (.some rfl rfl rfl) (V1.not rfl rfl rfl lt0 ?_)
       exact VO.nil ⟨rfl, rfl, rfl, rfl, .inr ⟨rfl, .inr ⟨rfl, .inr ⟨rfl, .inr ⟨rfl, .inr ⟨rfl, .inr ⟨rfl, .inl rfl⟩⟩⟩⟩⟩⟩⟩
      refine VO.nil ?_
      refine V.keep 55 [0, 2, 7, 8, 9, 11, 29, 30, 31, 45] [0, 1, 2] (E0 := [(0, .vl ρ0 4 (List.map (encFormat σ0) list)), (2, .int .i64 day), (7, .sref b5 1 0 (List.length ids2)), (8, .int .i64 at_), (9, .ref b3 4 0 0), (11, .ref b7 4 0 0), (29, .vl ρ0 4 (List.map (encFormat σ0) list)), (30, .int .i64 (list.length : Int)), (31, .int .i64 v), (45, .bool (y3 && (!y4)))]) (H0 := [(b7, ⟨4, [encFormat σ0 (list.getD (Int.toNat v) default)]⟩), (b5, ⟨1, List.map encInt ids2⟩), (b3, ⟨4, [encFormat σ0 (list.getD (Int.toNat y1) default)]⟩)]) rfl (⟨_, _, rfl, rfl, _, _, rfl, rfl, _, _, rfl, rfl, _, _, rfl, rfl, _, _, rfl, rfl, _, _, rfl, rfl, _, _, rfl, rfl, _, _, rfl, rfl, _, _, rfl, rfl, _, _, rfl, rfl, rfl⟩) (⟨_, _, rfl, rfl, _, _, rfl, rfl, _, _, rfl, rfl, rfl⟩) rfl ?_
      refine V.cond rfl (fun hc2 => ?_) (fun hc2 => ?_)
      ·
       replace hm3 := cond_t hc2 hm3
       replace hm3 := asrt_some hm3; rcases hm3 with ⟨hh6, hm3⟩
       refine V.region ?_
       refine VO.cons rfl (V1.move rfl rfl rfl lt0 ?_)
       refine VO.cons rfl (V1.fieldRef rfl rfl fo_34_0 rfl lt0 ?_)
       refine VO.cons rfl (V1.loadRef (k := 0) rfl rfl tyk_3 rfl rfl rfl rfl rfl lt0 ?_)
       refine VO.cons rfl (V1.buildSliceT (f := encInt) ([(list.getD (Int.toNat v) default).Id] : List Int) rfl rfl esz_27 zk_3 rfl rfl rfl rfl rfl rfl rfl lt0 ?_)
       intro b8
       refine VO.cons rfl (V1.appendMap (k := 2) (f := encInt) (l := ids2) (m := ([(list.getD (Int.toNat v) default).Id] : List Int)) rfl rfl rfl rfl rfl esz_27 eby_27 zk_3 rfl rfl rfl (SrcOf.srMap (k := 0) rfl isl_27) hh6 lt0 ?_)
       intro b9
       refine VO.cons rfl (V1.assign rfl rfl rfl lt0 ?_)
       refine VO.nil ?_
       exact ⟨((ids2 ++ ([(list.getD (Int.toNat v) default).Id] : List Int)), b9), Option.some.inj hm3, Keeps.mk (ks := [0, 3]) rfl ⟨rfl, rfl, rfl, rfl, rfl, rfl, rfl, rfl, trivial⟩ (⟨_, _, rfl, rfl, _, _, rfl, rfl, rfl⟩) rfl⟩
      ·
       replace hm3 := cond_f hc2 hm3
       refine V.skip ?_
       exact ⟨(ids2, b5), Option.some.inj hm3, Keeps.mk (ks := [1, 2]) rfl ⟨rfl, rfl, rfl, rfl, rfl, rfl, rfl, rfl, trivial⟩ (⟨_, _, rfl, rfl, _, _, rfl, rfl, rfl⟩) rfl⟩
     ·
      rintro ⟨ids3, b6⟩ rfl
      try dsimp only at hm2
      refine V.region ?_
      refine VO.cons rfl (V1.int rfl rfl rfl rfl rfl lt0 ?_)
      refine VO.cons rfl (V1.move rfl rfl rfl lt0 ?_)
      refine VO.nil ?_
      exact ⟨(m1, (ids3, (IntKind.i64.wrap (v + (1 : Int)))), b6), hl2 _ (Option.some.inj hm2).symm, Nat.lt_succ_self _, Keeps.mk (ks := [0, 1]) rfl ⟨rfl, rfl, rfl, rfl, rfl, rfl, rfl, rfl, trivial⟩ (⟨_, _, rfl, rfl, _, _, rfl, rfl, rfl⟩) rfl⟩
    ·
     replace hm2 := cond_f hc1 hm2
     refine V.exit ?_
     obtain rfl := hr2 _ (Option.some.inj hm2).symm
     exact ⟨(ids2, b5), rfl, Keeps.mk (ks := [0]) rfl ⟨rfl, rfl, rfl, rfl, trivial⟩ (⟨_, _, rfl, rfl, rfl⟩) rfl⟩
   ·
    rintro ⟨ids1, b4⟩ rfl
    try dsimp only at hm1
    refine V.region ?_
    refine VO.cons rfl (V1.move rfl rfl rfl lt0 ?_)
    refine VO.cons rfl (V1.int rfl rfl rfl rfl rfl lt0 ?_)
    refine VO.cons rfl (V1.assign rfl rfl rfl lt0 ?_)
    refine VO.nil ?_
    exact ⟨(m0, (ids1, (IntKind.i64.wrap (at_ + (1 : Int)))), b4), hl1 _ (Option.some.inj hm1).symm, Nat.lt_succ_self _, Keeps.mk (ks := [0]) rfl ⟨rfl, rfl, rfl, rfl, trivial⟩ (⟨_, _, rfl, rfl, rfl⟩) rfl⟩
  ·
   replace hm1 := cond_f hc0 hm1
   refine V.exit ?_
   obtain rfl := hr1 _ (Option.some.inj hm1).symm
   exact ⟨(ids0, b2), rfl, Keeps.mk (ks := [0]) rfl ⟨rfl, trivial⟩ (⟨_, _, rfl, rfl, rfl⟩) rfl⟩
 ·
  rintro ⟨ids, b1⟩ rfl
  try dsimp only at hm0
  refine V.seq ?_
  replace hm0 := bindO hm0; rcases hm0 with ⟨y5, hh7, hm0⟩
  replace hm0 := asrt_some hm0; rcases hm0 with ⟨hh8, hm0⟩
  refine V.region ?_
  refine VO.cons rfl (V1.move rfl rfl rfl lt0 ?_)
  refine VO.cons rfl (V1.callM 0 (rn + 1) [] [.sref b1 1 0 (List.length ids)] (p := (b1, ⟨1, List.map encInt ids⟩)) rfl rfl rfl cok_116 rfl rfl ⟨_, _, rfl, .same _, rfl⟩ bwNil (ok_slices_Sort_int_int hh7 (oq := some b1) (fun e => by cases e)) rfl (.inl rfl) lt0 ?_)
  rintro _ _ ⟨rfl, rfl⟩
  refine VO.weakenK (Keeps.say 7 (y := .sref b1 1 0 (List.length y5)) rfl (congrArg (PV.sref b1 1 0) hh8.symm)) ?_
  refine VO.nil ?_
  refine V.seq ?_
  refine V.region ?_
  refine VO.cons rfl (V1.move rfl rfl rfl lt0 ?_)
  refine VO.cons rfl (V1.assign rfl rfl rfl lt0 ?_)
  refine VO.nil ?_
  refine V.keep 55 [6] [0] (E0 := [(6, .sref b1 1 0 (List.length y5))]) (H0 := [(b1, ⟨1, List.map encInt y5⟩)]) rfl (⟨_, _, rfl, rfl, rfl⟩) (⟨_, _, rfl, rfl, rfl⟩) rfl ?_
  refine V.ret ?_
  obtain rfl := Option.some.inj hm0
  exact ⟨_, _, ⟨_, _, rfl, rfl, rfl⟩, List.Sublist.refl _, b1, rfl, rfl⟩

theorem ok_impl_WaysTo {ρ0 rn : Nat} {list : List Format} {id_ : Int} {day : Int} {r : List Int × Bool} (h : M.impl_WaysTo list id_ day = some r) : Does Tryd.prog 11 [.vl ρ0 4 (List.map (encFormat ρ0) list), .int .i64 id_, .int .i64 day] [] rn (fun x H => ∃ (ob0_ : Option Nat), (ob0_ = none → r.1 = []) ∧ x = .tup [optS 1 ob0_ (List.length r.1), .bool r.2] ∧ H = optH 1 ob0_ (List.map encInt r.1)) := by
 have hm0 := h; clear h; unfold M.impl_WaysTo at hm0
 try dsimp only at hm0
 refine Does.intro (N := 17) Tryd.func11 rfl rfl rfl rfl ?_
 intro w0 S0 L0
 refine V.seq ?_
 refine V.region ?_
 refine VO.cons rfl (V1.assign rfl rfl rfl lt0 ?_)
 refine VO.cons rfl (V1.assign rfl rfl rfl lt0 ?_)
 refine VO.nil ?_
 refine V.seq ?_
 refine V.seq ?_
 replace hm0 := bindO hm0; rcases hm0 with ⟨y0, hh0, hm0⟩
 refine V.region ?_
 refine VO.cons rfl (V1.move rfl rfl rfl lt0 ?_)
 refine VO.cons rfl (V1.move rfl rfl rfl lt0 ?_)
 refine VO.cons rfl (V1.move rfl rfl rfl lt0 ?_)
 refine VO.cons rfl (V1.call rfl rfl rfl cok_53 rfl (ok_impl_isOnDay hh0) rfl lt0 ?_)
 rintro _ _ ⟨rfl, rfl⟩
 refine VO.cons rfl (V1.not rfl rfl rfl lt0 ?_)
 refine VO.nil ?_
 refine V.keep 17 [0, 1, 2, 12] [] (E0 := [(0, .vl ρ0 4 (List.map (encFormat ρ0) list)), (1, .int .i64 id_), (2, .int .i64 day), (12, .bool (!y0))]) (H0 := []) rfl (⟨_, _, rfl, rfl, _, _, rfl, rfl, _, _, rfl, rfl, _, _, rfl, rfl, rfl⟩) (rfl) rfl ?_
 refine V.cond rfl (fun hc0 => ?_) (fun hc0 => ?_)
 ·
  replace hm0 := cond_t hc0 hm0
  refine V.seq ?_
  refine V.region ?_
  refine VO.cons rfl (V1.assign rfl rfl rfl lt0 ?_)
  refine VO.cons rfl (V1.assign rfl rfl rfl lt0 ?_)
  refine VO.nil ?_
  refine V.keep 17 [6, 7] [] (E0 := [(6, .nils), (7, .bool false)]) (H0 := []) rfl (⟨_, _, rfl, rfl, _, _, rfl, rfl, rfl⟩) (rfl) rfl ?_
  refine V.ret ?_
  obtain rfl := Option.some.inj hm0
  exact ⟨_, _, ⟨_, _, rfl, rfl, _, _, rfl, rfl, rfl⟩, List.Sublist.refl _, none, (fun _ => rfl), rfl, rfl⟩
 ·
  replace hm0 := cond_f hc0 hm0
  refine V.skip ?_
  refine V.seq ?_
  replace hm0 := bindO hm0; rcases hm0 with ⟨y1, hh1, hm0⟩
  refine V.region ?_
  refine VO.cons rfl (V1.move rfl rfl rfl lt0 ?_)
  refine VO.cons rfl (V1.move rfl rfl rfl lt0 ?_)
  refine VO.cons rfl (V1.move rfl rfl rfl lt0 ?_)
  refine VO.cons rfl (V1.call rfl rfl rfl cok_60 rfl (ok_impl_waysTo hh1) rfl lt0 ?_)
  rintro _ _ ⟨b0, rfl, rfl⟩
  refine VO.cons rfl (V1.assign rfl rfl rfl lt0 ?_)
  refine VO.cons rfl (V1.assign rfl rfl rfl lt0 ?_)
  refine VO.nil ?_
  refine V.keep 17 [6, 7] [0] (E0 := [(6, .sref b0 1 0 (List.length y1)), (7, .bool true)]) (H0 := [(b0, ⟨1, List.map encInt y1⟩)]) rfl (⟨_, _, rfl, rfl, _, _, rfl, rfl, rfl⟩) (⟨_, _, rfl, rfl, rfl⟩) rfl ?_
  refine V.ret ?_
  obtain rfl := Option.some.inj hm0
  exact ⟨_, _, ⟨_, _, rfl, rfl, _, _, rfl, rfl, rfl⟩, List.Sublist.refl _, some b0, (fun e => by cases e), rfl, rfl⟩

theorem ok_laws_rHas {ρ0 rn : Nat} {list : List Int} {x : Int} {r : Bool} (h : M.laws_rHas list x = some r) : Does Tryd.prog 13 [.vl ρ0 1 (List.map encInt list), .int .i64 x] [] rn (fun x H => x = .bool r ∧ H = []) := by
 have hm0 := h; clear h; unfold M.laws_rHas at hm0
 try dsimp only at hm0
 refine Does.intro (N := 18) Tryd.func13 rfl rfl rfl rfl ?_
 intro w0 S0 L0
 refine V.seq ?_
 refine V.region ?_
 refine VO.cons rfl (V1.assign rfl rfl rfl lt0 ?_)
 refine VO.nil ?_
 refine V.seq ?_
 refine V.seq ?_
 refine V.region ?_
 refine VO.cons rfl (V1.assign rfl rfl rfl lt0 ?_)
 refine VO.nil ?_
 replace hm0 := bindO hm0; rcases hm0 with ⟨e0, he1, hm0⟩
 refine V.cutT (D := (Unit) × (Unit)) (fun ⟨_, _⟩ => ⟨18, [], []⟩) (fun ⟨_, _⟩ => (.inl () = e0)) ?_ ?_
 ·
  refine V.block ?_
  refine V.keep 18 [5, 0, 1] [] (E0 := [(5, .int .i64 (0 : Int)), (0, .vl ρ0 1 (List.map encInt list)), (1, .int .i64 x)]) (H0 := []) rfl (⟨_, _, rfl, rfl, _, _, rfl, rfl, _, _, rfl, rfl, rfl⟩) (rfl) rfl ?_
  refine V.loopE (D := Nat × (Int) × (Unit)) (fun ⟨n0, i, _⟩ => [(5, .int .i64 i)]) (fun ⟨n0, i, _⟩ => []) (fun ⟨n0, i, _⟩ => loopO (M.laws_rHas_l0 list x) n0 i = some e0) (fun ⟨n0, _, _⟩ => n0) (rounds, (0 : Int), ()) rfl he1 ?_
  rintro ⟨n0, i, _⟩ hP0
  obtain ⟨m0, y0, rfl, hm1, hl1, hr1⟩ := loop_head hP0
  unfold M.laws_rHas_l0 at hm1; dsimp only at hm1
  show V _ _ _ ⟨18, [(5, .int .i64 i), (0, .vl ρ0 1 (List.map encInt list)), (1, .int .i64 x)], []⟩
  refine V.seq ?_
  refine V.seq ?_
  refine V.region ?_
  refine VO.cons rfl (V1.move rfl rfl rfl lt0 ?_)
  refine VO.cons rfl (V1.move rfl rfl rfl lt0 ?_)
  refine VO.cons rfl (V1.lenMap rfl rfl rfl rfl rfl rfl isl_27 lt0 ?_)
  refine VO.cons rfl (V1.int rfl rfl rfl rfl rfl lt0 ?_)
  refine VO.nil ?_
  refine V.cond rfl (fun hc0 => ?_) (fun hc0 => ?_)
  ·
   replace hm1 := cond_t hc0 hm1
   refine V.skip ?_
   refine V.keep 18 [0, 1, 5] [] (E0 := [(0, .vl ρ0 1 (List.map encInt list)), (1, .int .i64 x), (5, .int .i64 i)]) (H0 := []) rfl (⟨_, _, rfl, rfl, _, _, rfl, rfl, _, _, rfl, rfl, rfl⟩) (rfl) rfl ?_
   refine V.seq ?_
   refine V.block ?_
   refine V.seq ?_
   replace hm1 := asrt_some hm1; rcases hm1 with ⟨hh0, hm1⟩
   refine V.region ?_
   refine VO.cons rfl (V1.move rfl rfl rfl lt0 ?_)
   refine VO.cons rfl (V1.move rfl rfl rfl lt0 ?_)
   refine VO.cons rfl (V1.indexI rfl rfl esz_27 rfl rfl hh0 lt0 ?_)
   refine VO.cons rfl (V1.loadPin rfl rfl tyk_3 rfl rfl lt0 ?_)
   refine VO.cons rfl (V1.move rfl rfl rfl lt0 ?_)
   refine VO.cons rfl (V1.int rfl rfl rfl rfl rfl lt0 ?_)
   refine VO.nil ?_
   refine V.keep 18 [0, 1, 5, 17] [] (E0 := [(0, .vl ρ0 1 (List.map encInt list)), (1, .int .i64 x), (5, .int .i64 i), (17, .bool ((list.getD (Int.toNat i) default) == x))]) (H0 := []) rfl (⟨_, _, rfl, rfl, _, _, rfl, rfl, _, _, rfl, rfl, _, _, rfl, rfl, rfl⟩) (rfl) rfl ?_
   refine V.cond rfl (fun hc1 => ?_) (fun hc1 => ?_)
   ·
    replace hm1 := cond_t hc1 hm1
    refine V.seq ?_
    refine V.region ?_
    refine VO.cons rfl (V1.assign rfl rfl rfl lt0 ?_)
    refine VO.nil ?_
    refine V.ret ?_
    obtain rfl := hr1 _ (Option.some.inj hm1).symm
    change some _ = some _ at hm0
    obtain rfl := Option.some.inj hm0
    exact ⟨_, [], ⟨_, _, rfl, rfl, rfl⟩, List.nil_sublist _, rfl, rfl⟩
   ·
    replace hm1 := cond_f hc1 hm1
    refine V.skip ?_
    refine V.region ?_
    refine VO.cons rfl (V1.move rfl rfl rfl lt0 ?_)
    refine VO.cons rfl (V1.int rfl rfl rfl rfl rfl lt0 ?_)
    refine VO.cons rfl (V1.assign rfl rfl rfl lt0 ?_)
    refine VO.nil ?_
    exact ⟨(m0, (IntKind.i64.wrap (i + (1 : Int))), ()), hl1 _ (Option.some.inj hm1).symm, Nat.lt_succ_self _, Keeps.mk (ks := []) rfl ⟨rfl, rfl, rfl, trivial⟩ (rfl) rfl⟩
  ·
   replace hm1 := cond_f hc0 hm1
   refine V.exit ?_
   obtain rfl := hr1 _ (Option.some.inj hm1).symm
   exact ⟨((), ()), rfl, Keeps.mk (ks := []) rfl trivial (rfl) rfl⟩
 ·
  rintro ⟨_, _⟩ rfl
  try dsimp only at hm0
  refine V.seq ?_
  refine V.region ?_
  refine VO.cons rfl (V1.assign rfl rfl rfl lt0 ?_)
  refine VO.nil ?_
  refine V.ret ?_
  obtain rfl := Option.some.inj hm0
  exact ⟨_, [], ⟨_, _, rfl, rfl, rfl⟩, List.nil_sublist _, rfl, rfl⟩

theorem ok_spec_DrawIsReadable {ρ0 rn : Nat} {code : List Int} {r : List Format × Int × Int} (h : M.spec_DrawIsReadable code = some r) : Does Tryd.prog 17 [.vl ρ0 1 (List.map encU8 code)] [] rn (fun x H => ∃ (ob0_ : Nat), x = .tup [PV.sref ob0_ 4 0 (List.length r.1), .int .i64 r.2.1, .int .i64 r.2.2] ∧ H = [(ob0_, ⟨4, List.map (encFormat rn) r.1⟩)]) := by
 have hm0 := h; clear h; unfold M.spec_DrawIsReadable at hm0
 try dsimp only at hm0
 refine Does.intro (N := 18) Tryd.func17 rfl rfl rfl rfl ?_
 intro w0 S0 L0
 refine V.seq ?_
 refine V.region ?_
 refine VO.cons rfl (V1.assign rfl rfl rfl lt0 ?_)
 refine VO.cons rfl (V1.assign rfl rfl rfl lt0 ?_)
 refine VO.cons rfl (V1.assign rfl rfl rfl lt0 ?_)
 refine VO.nil ?_
 refine V.seq ?_
 refine V.region ?_
 refine VO.cons rfl (V1.move rfl rfl rfl lt0 ?_)
 refine VO.cons rfl (V1.build rfl rfl zk_77 pl_77 rfl rfl lt0 ?_)
 refine VO.cons rfl (V1.boxN (n := 3) rfl rfl rfl rfl rfl lt0 ?_)
 intro b0
 refine VO.cons rfl (V1.assign rfl rfl rfl lt0 ?_)
 refine VO.nil ?_
 refine V.keep 18 [5] [0] (E0 := [(5, .ref b0 3 0 0)]) (H0 := [(b0, ⟨3, [.agg [.vl ρ0 1 (List.map encU8 code), .int .i64 (0 : Int), .int .u64 (0 : Int)]]⟩)]) rfl (⟨_, _, rfl, rfl, rfl⟩) (⟨_, _, rfl, rfl, rfl⟩) rfl ?_
 refine V.seq ?_
 replace hm0 := bindO hm0; rcases hm0 with ⟨y0, hh0, hm0⟩
 refine V.region ?_
 refine VO.cons rfl (V1.move rfl rfl rfl lt0 ?_)
 refine VO.cons rfl (V1.callM 0 (rn + ρ0 + 1) [] [.ref b0 3 0 0] (p := (b0, ⟨3, [.agg [.vl ρ0 1 (List.map encU8 code), .int .i64 (0 : Int), .int .u64 (0 : Int)]]⟩)) rfl rfl rfl cok_50 rfl rfl ⟨_, _, rfl, .same _, rfl⟩ bwNil (ok_spec_l1Cur_formats hh0) rfl (.inl rfl) lt0 ?_)
 rintro _ _ ⟨b1, rfl, rfl⟩
 refine VO.cons rfl (V1.assign rfl rfl rfl lt0 ?_)
 refine VO.nil ?_
 refine V.seq ?_
 replace hm0 := bindO hm0; rcases hm0 with ⟨y1, hh1, hm0⟩
 replace hm0 := bindO hm0; rcases hm0 with ⟨y2, hh2, hm0⟩
 refine V.region ?_
 refine VO.cons rfl (V1.move rfl rfl rfl lt0 ?_)
 refine VO.cons rfl (V1.move rfl rfl rfl lt0 ?_)
 refine VO.cons rfl (V1.move rfl rfl rfl lt0 ?_)
 refine VO.cons rfl (V1.callM 1 (rn + ρ0 + 1) [b1] [.ref b0 3 0 0, .vl (rn + ρ0 + 1) 4 (List.map (encFormat rn) y0.1)] (p := (b0, ⟨3, [encCur ρ0 y0.2]⟩)) rfl rfl rfl cok_51 rfl rfl ⟨_, _, rfl, .same _, ⟨_, _, rfl, Lend.srMap 0 rfl (fun _ => rfl) (.head _), rfl⟩⟩ (bwCons (k := 0) rfl bwNil) (ok_spec_l1Cur_formatId hh1) rfl (.inr ⟨(by first | omega | (dsimp only; omega)), by rintro _ _ ⟨rfl, rfl⟩; exact ⟨by simp [PV.no, PV.noL, optS_no, noL_iff, nbeq] <;> omega, by intro b ob h; first | exact optH_no (noL_map (fun _ => by simp [PV.no, PV.noL, noL_iff, nbeq]) _) b ob h | (simp only [List.append_assoc, List.mem_append, List.mem_cons, List.mem_singleton, List.not_mem_nil, or_false, Prod.mk.injEq] at h; rcases h with ⟨rfl, rfl⟩ | ⟨rfl, rfl⟩ <;> first | exact noL_map (fun _ => by simp [PV.no, PV.noL, noL_iff, nbeq]) _ | (simp [PV.no, PV.noL, optS_no, noL_iff, nbeq] <;> omega)) | (simp at h; obtain ⟨rfl, rfl⟩ := h; exact noL_map (fun _ => by simp [PV.no, PV.noL, noL_iff, nbeq]) _) | (simp at h; obtain ⟨rfl, rfl⟩ := h; simp [PV.no, PV.noL, optS_no, noL_iff, nbeq] <;> omega)⟩⟩) lt0 ?_)
 rintro _ _ ⟨rfl, rfl⟩
 refine VO.cons rfl (V1.move rfl rfl rfl lt0 ?_)
 refine VO.cons rfl (V1.callM 0 (rn + ρ0 + 1) [] [.ref b0 3 0 0] (p := (b0, ⟨3, [encCur ρ0 y1.2]⟩)) rfl rfl rfl cok_52 rfl rfl ⟨_, _, rfl, .same _, rfl⟩ bwNil (ok_spec_l1Cur_day7 hh2) rfl (.inl rfl) lt0 ?_)
 rintro _ _ ⟨rfl, rfl⟩
 refine VO.cons rfl (V1.assign rfl rfl rfl lt0 ?_)
 refine VO.cons rfl (V1.assign rfl rfl rfl lt0 ?_)
 refine VO.cons rfl (V1.assign rfl rfl rfl lt0 ?_)
 refine VO.nil ?_
 refine V.keep 18 [2, 3, 4] [1] (E0 := [(2, .sref b1 4 0 (List.length y0.1)), (3, .int .i64 y1.1), (4, .int .i64 y2.1)]) (H0 := [(b1, ⟨4, List.map (encFormat rn) y0.1⟩)]) rfl (⟨_, _, rfl, rfl, _, _, rfl, rfl, _, _, rfl, rfl, rfl⟩) (⟨_, _, rfl, rfl, rfl⟩) rfl ?_
 refine V.ret ?_
 obtain rfl := Option.some.inj hm0
 exact ⟨_, _, ⟨_, _, rfl, rfl, _, _, rfl, rfl, _, _, rfl, rfl, rfl⟩, List.Sublist.refl _, b1, rfl, rfl⟩

theorem ok_spec_DrawLongestLived {ρ0 rn : Nat} {code : List Int} {r : List Format × Int × Int} (h : M.spec_DrawLongestLived code = some r) : Does Tryd.prog 14 [.vl ρ0 1 (List.map encU8 code)] [] rn (fun x H => ∃ (ob0_ : Nat), x = .tup [PV.sref ob0_ 4 0 (List.length r.1), .int .i64 r.2.1, .int .i64 r.2.2] ∧ H = [(ob0_, ⟨4, List.map (encFormat rn) r.1⟩)]) := by
 have hm0 := h; clear h; unfold M.spec_DrawLongestLived at hm0
 try dsimp only at hm0
 refine Does.intro (N := 10) Tryd.func14 rfl rfl rfl rfl ?_
 intro w0 S0 L0
 refine V.seq ?_
 refine V.region ?_
 refine VO.cons rfl (V1.assign rfl rfl rfl lt0 ?_)
 refine VO.cons rfl (V1.assign rfl rfl rfl lt0 ?_)
 refine VO.cons rfl (V1.assign rfl rfl rfl lt0 ?_)
 refine VO.nil ?_
 refine V.seq ?_
 replace hm0 := bindO hm0; rcases hm0 with ⟨y0, hh0, hm0⟩
 refine V.region ?_
 refine VO.cons rfl (V1.move rfl rfl rfl lt0 ?_)
 refine VO.cons rfl (V1.call rfl rfl rfl cok_17 rfl (ok_spec_DrawIsReadable hh0) rfl lt0 ?_)
 rintro _ _ ⟨b0, rfl, rfl⟩
 refine VO.cons rfl (V1.extract rfl rfl rfl rfl lt0 ?_)
 refine VO.cons rfl (V1.extract rfl rfl rfl rfl lt0 ?_)
 refine VO.cons rfl (V1.extract rfl rfl rfl rfl lt0 ?_)
 refine VO.cons rfl (V1.assign rfl rfl rfl lt0 ?_)
 refine VO.cons rfl (V1.assign rfl rfl rfl lt0 ?_)
 refine VO.cons rfl (V1.assign rfl rfl rfl lt0 ?_)
 refine VO.nil ?_
 refine V.keep 10 [2, 3, 4] [0] (E0 := [(2, .sref b0 4 0 (List.length y0.1)), (3, .int .i64 y0.2.1), (4, .int .i64 y0.2.2)]) (H0 := [(b0, ⟨4, List.map (encFormat rn) y0.1⟩)]) rfl (⟨_, _, rfl, rfl, _, _, rfl, rfl, _, _, rfl, rfl, rfl⟩) (⟨_, _, rfl, rfl, rfl⟩) rfl ?_
 refine V.ret ?_
 obtain rfl := Option.some.inj hm0
 exact ⟨_, _, ⟨_, _, rfl, rfl, _, _, rfl, rfl, _, _, rfl, rfl, rfl⟩, List.Sublist.refl _, b0, rfl, rfl⟩

theorem ok_impl_LongestLived {ρ0 rn : Nat} {list : List Format} {id_ : Int} {day : Int} {r : Int × Bool} (h : M.impl_LongestLived list id_ day = some r) : Does Tryd.prog 15 [.vl ρ0 4 (List.map (encFormat ρ0) list), .int .i64 id_, .int .i64 day] [] rn (fun x H => x = .tup [.int .i64 r.1, .bool r.2] ∧ H = []) := by
 have hm0 := h; clear h; unfold M.impl_LongestLived at hm0
 try dsimp only at hm0
 refine Does.intro (N := 42) Tryd.func15 rfl rfl rfl rfl ?_
 intro w0 S0 L0
 refine V.seq ?_
 refine V.region ?_
 refine VO.cons rfl (V1.assign rfl rfl rfl lt0 ?_)
 refine VO.cons rfl (V1.assign rfl rfl rfl lt0 ?_)
 refine VO.nil ?_
 refine V.seq ?_
 refine V.seq ?_
 replace hm0 := bindO hm0; rcases hm0 with ⟨y0, hh0, hm0⟩
 refine V.region ?_
 refine VO.cons rfl (V1.move rfl rfl rfl lt0 ?_)
 refine VO.cons rfl (V1.move rfl rfl rfl lt0 ?_)
 refine VO.cons rfl (V1.move rfl rfl rfl lt0 ?_)
 refine VO.cons rfl (V1.call rfl rfl rfl cok_53 rfl (ok_impl_isOnDay hh0) rfl lt0 ?_)
 rintro _ _ ⟨rfl, rfl⟩
 refine VO.cons rfl (V1.not rfl rfl rfl lt0 ?_)
 refine VO.nil ?_
 refine V.keep 42 [0, 1, 2, 17] [] (E0 := [(0, .vl ρ0 4 (List.map (encFormat ρ0) list)), (1, .int .i64 id_), (2, .int .i64 day), (17, .bool (!y0))]) (H0 := []) rfl (⟨_, _, rfl, rfl, _, _, rfl, rfl, _, _, rfl, rfl, _, _, rfl, rfl, rfl⟩) (rfl) rfl ?_
 refine V.cond rfl (fun hc0 => ?_) (fun hc0 => ?_)
 ·
  replace hm0 := cond_t hc0 hm0
  refine V.seq ?_
  refine V.region ?_
  refine VO.cons rfl (V1.assign rfl rfl rfl lt0 ?_)
  refine VO.cons rfl (V1.assign rfl rfl rfl lt0 ?_)
  refine VO.nil ?_
  refine V.ret ?_
  obtain rfl := Option.some.inj hm0
  exact ⟨_, [], ⟨_, _, rfl, rfl, _, _, rfl, rfl, rfl⟩, List.nil_sublist _, rfl, rfl⟩
 ·
  replace hm0 := cond_f hc0 hm0
  refine V.skip ?_
  refine V.seq ?_
  refine V.region ?_
  refine VO.cons rfl (V1.assign rfl rfl rfl lt0 ?_)
  refine VO.cons rfl (V1.assign rfl rfl rfl lt0 ?_)
  refine VO.nil ?_
  refine V.seq ?_
  refine V.seq ?_
  replace hm0 := bindO hm0; rcases hm0 with ⟨y1, hh1, hm0⟩
  refine V.region ?_
  refine VO.cons rfl (V1.move rfl rfl rfl lt0 ?_)
  refine VO.cons rfl (V1.move rfl rfl rfl lt0 ?_)
  refine VO.cons rfl (V1.move rfl rfl rfl lt0 ?_)
  refine VO.cons rfl (V1.call rfl rfl rfl cok_60 rfl (ok_impl_waysTo hh1) rfl lt0 ?_)
  rintro _ _ ⟨b0, rfl, rfl⟩
  refine VO.weakenK (Keeps.freezeG 0 rn [(21, .vl rn 1 (List.map encInt y1))] ([]) (f := encInt) (l := y1) rfl (fun _ => rfl) ⟨⟨_, rfl, .here⟩, trivial⟩ rfl rfl iNil) ?_
  refine VO.cons rfl (V1.lenMap rfl rfl rfl rfl rfl rfl isl_27 lt0 ?_)
  refine VO.cons rfl (V1.move rfl rfl rfl lt0 ?_)
  refine VO.nil ?_
  refine V.keep 42 [0, 8, 9, 21, 22, 23] [] (E0 := [(0, .vl ρ0 4 (List.map (encFormat ρ0) list)), (8, .int .i64 (0 : Int)), (9, .int .i64 (-1 : Int)), (21, .vl rn 1 (List.map encInt y1)), (22, .int .i64 (y1.length : Int)), (23, .int .i64 (0 : Int))]) (H0 := []) rfl (⟨_, _, rfl, rfl, _, _, rfl, rfl, _, _, rfl, rfl, _, _, rfl, rfl, _, _, rfl, rfl, _, _, rfl, rfl, rfl⟩) (rfl) rfl ?_
  replace hm0 := bindO hm0; rcases hm0 with ⟨e0, he1, hm0⟩
  refine V.cutT (D := (Int) × (Unit)) (fun ⟨best, _⟩ => ⟨42, [(8, .int .i64 best)], []⟩) (fun ⟨best, _⟩ => (best = e0)) ?_ ?_
  ·
   refine V.block ?_
   refine V.keep 42 [8, 9, 23, 0, 21, 22] [] (E0 := [(8, .int .i64 (0 : Int)), (9, .int .i64 (-1 : Int)), (23, .int .i64 (0 : Int)), (0, .vl ρ0 4 (List.map (encFormat ρ0) list)), (21, .vl rn 1 (List.map encInt y1)), (22, .int .i64 (y1.length : Int))]) (H0 := []) rfl (⟨_, _, rfl, rfl, _, _, rfl, rfl, _, _, rfl, rfl, _, _, rfl, rfl, _, _, rfl, rfl, _, _, rfl, rfl, rfl⟩) (rfl) rfl ?_
   refine V.loopE (D := Nat × (Int × Int × Int) × (Unit)) (fun ⟨n0, ⟨best0, until_, v⟩, _⟩ => [(8, .int .i64 best0), (9, .int .i64 until_), (23, .int .i64 v)]) (fun ⟨n0, ⟨best0, until_, v⟩, _⟩ => []) (fun ⟨n0, ⟨best0, until_, v⟩, _⟩ => loopO (M.impl_LongestLived_l0 list y1) n0 (best0, until_, v) = some e0) (fun ⟨n0, _, _⟩ => n0) (rounds, ((0 : Int), (-1 : Int), (0 : Int)), ()) rfl he1 ?_
   rintro ⟨n0, ⟨best0, until_, v⟩, _⟩ hP0
   obtain ⟨m0, y2, rfl, hm1, hl1, hr1⟩ := loop_head hP0
   unfold M.impl_LongestLived_l0 at hm1; dsimp only at hm1
   show V _ _ _ ⟨42, [(8, .int .i64 best0), (9, .int .i64 until_), (23, .int .i64 v), (0, .vl ρ0 4 (List.map (encFormat ρ0) list)), (21, .vl rn 1 (List.map encInt y1)), (22, .int .i64 (y1.length : Int))], []⟩
   refine V.seq ?_
   refine V.region ?_
   refine VO.cons rfl (V1.int rfl rfl rfl rfl rfl lt0 ?_)
   refine VO.nil ?_
   refine V.seq ?_
   refine V.cond rfl (fun hc1 => ?_) (fun hc1 => ?_)
   ·
    replace hm1 := cond_t hc1 hm1
    refine V.skip ?_
    refine V.seq ?_
    replace hm1 := bindO hm1; rcases hm1 with ⟨j0, hm2, hm1⟩
    refine V.cutT (D := (Int × Int) × (Unit)) (fun ⟨⟨best1, until_0⟩, _⟩ => ⟨42, [(8, .int .i64 best1), (9, .int .i64 until_0), (0, .vl ρ0 4 (List.map (encFormat ρ0) list)), (21, .vl rn 1 (List.map encInt y1)), (22, .int .i64 (y1.length : Int)), (23, .int .i64 v)], []⟩) (fun ⟨⟨best1, until_0⟩, _⟩ => ((best1, until_0) = j0)) ?_ ?_
    ·
     refine V.block ?_
     refine V.seq ?_
     replace hm2 := asrt_some hm2; rcases hm2 with ⟨hh2, hm2⟩
     refine V.region ?_
     refine VO.cons rfl (V1.indexI rfl rfl esz_27 rfl rfl hh2 lt0 ?_)
     refine VO.cons rfl (V1.loadPin rfl rfl tyk_3 rfl rfl lt0 ?_)
     refine VO.cons rfl (V1.assign rfl rfl rfl lt0 ?_)
     refine VO.nil ?_
     refine V.seq ?_
     replace hm2 := bindO hm2; rcases hm2 with ⟨y3, hh3, hm2⟩
     replace hm2 := asrt_some hm2; rcases hm2 with ⟨hh4, hm2⟩
     refine V.region ?_
     refine VO.cons rfl (V1.move rfl rfl rfl lt0 ?_)
     refine VO.cons rfl (V1.move rfl rfl rfl lt0 ?_)
     refine VO.cons rfl (V1.move rfl rfl rfl lt0 ?_)
     refine VO.cons rfl (V1.call rfl rfl rfl cok_54 rfl (ok_impl_formatAt hh3) rfl lt0 ?_)
     rintro _ _ ⟨rfl, rfl⟩
     refine VO.cons rfl (V1.indexI rfl rfl esz_24 rfl rfl hh4 lt0 ?_)
     refine VO.cons rfl (V1.loadPinAll rfl rfl tyk_34 rfl rfl lt0 ?_)
     refine VO.cons rfl (V1.alloc rfl rfl zk_34 lt0 ?_)
     intro b1
     refine VO.cons rfl (V1.storeRefAll (k := 0) rfl rfl tyk_34 rfl rfl rfl rfl rfl rfl ?_)
     refine VO.nil ?_
     refine V.keep 42 [0, 8, 9, 11, 12, 21, 22, 23] [0] (E0 := [(0, .vl ρ0 4 (List.map (encFormat ρ0) list)), (8, .int .i64 best0), (9, .int .i64 until_), (11, .int .i64 (y1.getD (Int.toNat v) default)), (12, .ref b1 4 0 0), (21, .vl rn 1 (List.map encInt y1)), (22, .int .i64 (y1.length : Int)), (23, .int .i64 v)]) (H0 := [(b1, ⟨4, [encFormat ρ0 (list.getD (Int.toNat y3) default)]⟩)]) rfl (⟨_, _, rfl, rfl, _, _, rfl, rfl, _, _, rfl, rfl, _, _, rfl, rfl, _, _, rfl, rfl, _, _, rfl, rfl, _, _, rfl, rfl, _, _, rfl, rfl, rfl⟩) (⟨_, _, rfl, rfl, rfl⟩) rfl ?_
     refine V.seq ?_
     refine V.region ?_
     refine VO.cons rfl (V1.fieldRef rfl rfl fo_34_2 rfl lt0 ?_)
     refine VO.cons rfl (V1.loadRef (k := 0) rfl rfl tyk_3 rfl rfl rfl rfl rfl lt0 ?_)
     refine VO.cons rfl (V1.move rfl rfl rfl lt0 ?_)
     refine VO.cons rfl (V1.int rfl rfl rfl rfl rfl lt0 ?_)
     refine VO.nil ?_
     refine V.cond rfl (fun hc2 => ?_) (fun hc2 => ?_)
     ·
      replace hm2 := cond_t hc2 hm2
      refine V.regionM 42 4 [⟨[(11, none)], [], none⟩, ⟨[(12, none)], [], none⟩, ⟨[(38, some 0)], [], none⟩, ⟨[(37, some 2)], [], none⟩] [(0, none), (8, some 0), (21, none), (22, none), (23, none), (39, some 1)] (⟨_, rfl, ⟨_, rfl, ⟨_, rfl, ⟨_, rfl, ⟨rfl, rfl⟩⟩⟩⟩⟩) mixed_orders rfl (by decide +kernel) (fun hck9 => ?_)
      refine VP.step (p := ?pv93) rfl rfl rfl (⟨_, _, rfl, rfl, rfl⟩) ?hv93 ?rest93 hck9
      case hv93 =>
       intro E1
       refine (V1.move rfl rfl rfl lt0 ?_)
       exact rfl
      refine VP.step (p := ?pv94) rfl rfl rfl (⟨_, _, rfl, rfl, rfl⟩) ?hv94 ?rest94 hck9
      case hv94 =>
       intro E1
       refine (V1.fieldRef rfl rfl fo_34_2 rfl lt0 ?_)
       exact rfl
      refine VP.step (p := ?pv95) rfl rfl rfl (⟨_, _, rfl, rfl, rfl⟩) ?hv95 ?rest95 hck9
      case hv95 =>
       intro E1
       refine (V1.loadRef (k := 0) rfl rfl tyk_3 rfl rfl rfl rfl rfl lt0 ?_)
       exact rfl
      refine VP.step (p := ?pv96) rfl rfl rfl (⟨_, _, rfl, rfl, rfl⟩) ?hv96 ?rest96 hck9
      case hv96 =>
       intro E1
       refine (V1.assign rfl rfl rfl lt0 ?_)
       exact rfl
      refine VP.fin rfl (⟨_, _, rfl, rfl, _, _, rfl, rfl, _, _, rfl, rfl, _, _, rfl, rfl, _, _, rfl, rfl, _, _, rfl, rfl, rfl⟩) ?_
      refine VO.cons rfl (V1.assign rfl rfl rfl lt0 ?_)
      refine VO.nil ?_
      exact ⟨(((y1.getD (Int.toNat v) default), (list.getD (Int.toNat y3) default).Until), ()), Option.some.inj hm2, Keeps.mk (ks := []) rfl ⟨rfl, rfl, rfl, rfl, rfl, rfl, trivial⟩ (rfl) rfl⟩
     ·
      replace hm2 := cond_f hc2 hm2
      refine V.skip ?_
      exact ⟨((best0, until_), ()), Option.some.inj hm2, Keeps.mk (ks := []) rfl ⟨rfl, rfl, rfl, rfl, rfl, rfl, trivial⟩ (rfl) rfl⟩
    ·
     rintro ⟨⟨best1, until_0⟩, _⟩ rfl
     try dsimp only at hm1
     refine V.region ?_
     refine VO.cons rfl (V1.int rfl rfl rfl rfl rfl lt0 ?_)
     refine VO.cons rfl (V1.move rfl rfl rfl lt0 ?_)
     refine VO.nil ?_
     exact ⟨(m0, (best1, until_0, (IntKind.i64.wrap (v + (1 : Int)))), ()), hl1 _ (Option.some.inj hm1).symm, Nat.lt_succ_self _, Keeps.mk (ks := []) rfl ⟨rfl, rfl, rfl, rfl, rfl, rfl, trivial⟩ (rfl) rfl⟩
   ·
    replace hm1 := cond_f hc1 hm1
    refine V.exit ?_
    obtain rfl := hr1 _ (Option.some.inj hm1).symm
    exact ⟨(best0, ()), rfl, Keeps.mk (ks := []) rfl ⟨rfl, trivial⟩ (rfl) rfl⟩
  ·
   rintro ⟨best, _⟩ rfl
   try dsimp only at hm0
   refine V.seq ?_
   refine V.region ?_
   refine VO.cons rfl (V1.move rfl rfl rfl lt0 ?_)
   refine VO.cons rfl (V1.assign rfl rfl rfl lt0 ?_)
   refine VO.cons rfl (V1.assign rfl rfl rfl lt0 ?_)
   refine VO.nil ?_
   refine V.ret ?_
   obtain rfl := Option.some.inj hm0
   exact ⟨_, [], ⟨_, _, rfl, rfl, _, _, rfl, rfl, rfl⟩, List.nil_sublist _, rfl, rfl⟩

theorem ok_spec_LongestLived {ρ0 σ0 rn : Nat} {list : List Format} {id_ : Int} {day : Int} {r : Int × Bool} (h : M.spec_LongestLived list id_ day = some r) : Does Tryd.prog 16 [.vl ρ0 4 (List.map (encFormat σ0) list), .int .i64 id_, .int .i64 day] [] rn (fun x H => x = .tup [.int .i64 r.1, .bool r.2] ∧ H = []) := by
 have hm0 := h; clear h; unfold M.spec_LongestLived at hm0
 try dsimp only at hm0
 refine Does.intro (N := 53) Tryd.func16 rfl rfl rfl rfl ?_
 intro w0 S0 L0
 refine V.seq ?_
 refine V.region ?_
 refine VO.cons rfl (V1.assign rfl rfl rfl lt0 ?_)
 refine VO.cons rfl (V1.assign rfl rfl rfl lt0 ?_)
 refine VO.nil ?_
 refine V.seq ?_
 replace hm0 := bindO hm0; rcases hm0 with ⟨y0, hh0, hm0⟩
 refine V.region ?_
 refine VO.cons rfl (V1.move rfl rfl rfl lt0 ?_)
 refine VO.cons rfl (V1.move rfl rfl rfl lt0 ?_)
 refine VO.cons rfl (V1.move rfl rfl rfl lt0 ?_)
 refine VO.cons rfl (V1.call rfl rfl rfl cok_12 rfl (ok_spec_WaysTo hh0) rfl lt0 ?_)
 rintro _ _ ⟨rfl, rfl⟩
 refine VO.cons rfl (V1.move rfl rfl rfl lt0 ?_)
 refine VO.cons rfl (V1.extract rfl rfl rfl rfl lt0 ?_)
 refine VO.cons rfl (V1.extract rfl rfl rfl rfl lt0 ?_)
 refine VO.cons rfl (V1.assign rfl rfl rfl lt0 ?_)
 refine VO.cons rfl (V1.assign rfl rfl rfl lt0 ?_)
 refine VO.nil ?_
 refine V.keep 53 [0, 8, 9] [] (E0 := [(0, .vl ρ0 4 (List.map (encFormat σ0) list)), (8, .vl rn 1 (List.map encInt y0.1)), (9, .bool y0.2)]) (H0 := []) rfl (⟨_, _, rfl, rfl, _, _, rfl, rfl, _, _, rfl, rfl, rfl⟩) (rfl) rfl ?_
 refine V.seq ?_
 refine V.seq ?_
 refine V.region ?_
 refine VO.cons rfl (V1.move rfl rfl rfl lt0 ?_)
 refine VO.cons rfl (V1.not rfl rfl rfl lt0 ?_)
 refine VO.nil ?_
 refine V.cond rfl (fun hc0 => ?_) (fun hc0 => ?_)
 ·
  replace hm0 := cond_t hc0 hm0
  refine V.seq ?_
  refine V.region ?_
  refine VO.cons rfl (V1.assign rfl rfl rfl lt0 ?_)
  refine VO.cons rfl (V1.assign rfl rfl rfl lt0 ?_)
  refine VO.nil ?_
  refine V.ret ?_
  obtain rfl := Option.some.inj hm0
  exact ⟨_, [], ⟨_, _, rfl, rfl, _, _, rfl, rfl, rfl⟩, List.nil_sublist _, rfl, rfl⟩
 ·
  replace hm0 := cond_f hc0 hm0
  refine V.skip ?_
  refine V.seq ?_
  replace hm0 := asrt_some hm0; rcases hm0 with ⟨hh1, hm0⟩
  refine V.region ?_
  refine VO.cons rfl (V1.move rfl rfl rfl lt0 ?_)
  refine VO.cons rfl (V1.indexI rfl rfl esz_27 rfl rfl hh1 lt0 ?_)
  refine VO.cons rfl (V1.loadPin rfl rfl tyk_3 rfl rfl lt0 ?_)
  refine VO.cons rfl (V1.assign rfl rfl rfl lt0 ?_)
  refine VO.nil ?_
  refine V.keep 53 [0, 8, 10] [] (E0 := [(0, .vl ρ0 4 (List.map (encFormat σ0) list)), (8, .vl rn 1 (List.map encInt y0.1)), (10, .int .i64 (y0.1.getD (Int.toNat (0 : Int)) default))]) (H0 := []) rfl (⟨_, _, rfl, rfl, _, _, rfl, rfl, _, _, rfl, rfl, rfl⟩) (rfl) rfl ?_
  refine V.seq ?_
  refine V.seq ?_
  refine V.region ?_
  refine VO.cons rfl (V1.assign rfl rfl rfl lt0 ?_)
  refine VO.nil ?_
  replace hm0 := bindO hm0; rcases hm0 with ⟨e0, he1, hm0⟩
  refine V.cutT (D := (Int) × (Unit)) (fun ⟨best, _⟩ => ⟨53, [(10, .int .i64 best)], []⟩) (fun ⟨best, _⟩ => (best = e0)) ?_ ?_
  ·
   refine V.block ?_
   refine V.keep 53 [10, 11, 0, 8] [] (E0 := [(10, .int .i64 (y0.1.getD (Int.toNat (0 : Int)) default)), (11, .int .i64 (1 : Int)), (0, .vl ρ0 4 (List.map (encFormat σ0) list)), (8, .vl rn 1 (List.map encInt y0.1))]) (H0 := []) rfl (⟨_, _, rfl, rfl, _, _, rfl, rfl, _, _, rfl, rfl, _, _, rfl, rfl, rfl⟩) (rfl) rfl ?_
   refine V.loopE (D := Nat × (Int × Int) × (Unit)) (fun ⟨n0, ⟨best0, i⟩, _⟩ => [(10, .int .i64 best0), (11, .int .i64 i)]) (fun ⟨n0, ⟨best0, i⟩, _⟩ => []) (fun ⟨n0, ⟨best0, i⟩, _⟩ => loopO (M.spec_LongestLived_l0 list y0) n0 (best0, i) = some e0) (fun ⟨n0, _, _⟩ => n0) (rounds, ((y0.1.getD (Int.toNat (0 : Int)) default), (1 : Int)), ()) rfl he1 ?_
   rintro ⟨n0, ⟨best0, i⟩, _⟩ hP0
   obtain ⟨m0, y1, rfl, hm1, hl1, hr1⟩ := loop_head hP0
   unfold M.spec_LongestLived_l0 at hm1; dsimp only at hm1
   show V _ _ _ ⟨53, [(10, .int .i64 best0), (11, .int .i64 i), (0, .vl ρ0 4 (List.map (encFormat σ0) list)), (8, .vl rn 1 (List.map encInt y0.1))], []⟩
   refine V.seq ?_
   refine V.seq ?_
   refine V.region ?_
   refine VO.cons rfl (V1.move rfl rfl rfl lt0 ?_)
   refine VO.cons rfl (V1.move rfl rfl rfl lt0 ?_)
   refine VO.cons rfl (V1.lenMap rfl rfl rfl rfl rfl rfl isl_27 lt0 ?_)
   refine VO.cons rfl (V1.int rfl rfl rfl rfl rfl lt0 ?_)
   refine VO.nil ?_
   refine V.cond rfl (fun hc1 => ?_) (fun hc1 => ?_)
   ·
    replace hm1 := cond_t hc1 hm1
    refine V.skip ?_
    refine V.keep 53 [0, 8, 10, 11] [] (E0 := [(0, .vl ρ0 4 (List.map (encFormat σ0) list)), (8, .vl rn 1 (List.map encInt y0.1)), (10, .int .i64 best0), (11, .int .i64 i)]) (H0 := []) rfl (⟨_, _, rfl, rfl, _, _, rfl, rfl, _, _, rfl, rfl, _, _, rfl, rfl, rfl⟩) (rfl) rfl ?_
    refine V.seq ?_
    replace hm1 := bindO hm1; rcases hm1 with ⟨j0, hm2, hm1⟩
    refine V.cutT (D := (Int) × (Unit)) (fun ⟨best1, _⟩ => ⟨53, [(10, .int .i64 best1), (0, .vl ρ0 4 (List.map (encFormat σ0) list)), (8, .vl rn 1 (List.map encInt y0.1)), (11, .int .i64 i)], []⟩) (fun ⟨best1, _⟩ => (best1 = j0)) ?_ ?_
    ·
     refine V.block ?_
     refine V.seq ?_
     replace hm2 := asrt_some hm2; rcases hm2 with ⟨hh2, hm2⟩
     replace hm2 := bindO hm2; rcases hm2 with ⟨y2, hh3, hm2⟩
     replace hm2 := asrt_some hm2; rcases hm2 with ⟨hh4, hm2⟩
     replace hm2 := bindO hm2; rcases hm2 with ⟨y3, hh5, hm2⟩
     replace hm2 := asrt_some hm2; rcases hm2 with ⟨hh6, hm2⟩
     refine V.regionM 53 17 [⟨[(0, none)], [], none⟩, ⟨[(0, none)], [], none⟩, ⟨[(8, none)], [], none⟩, ⟨[(11, none)], [], none⟩, ⟨[(32, some 1), (33, some 0)], [], none⟩, ⟨[(34, some 0)], [], none⟩, ⟨[(31, some 4), (35, some 0)], [], none⟩, ⟨[(30, some 6), (36, some 0)], [], none⟩, ⟨[(37, some 0)], [], none⟩, ⟨[(38, some 0)], [], none⟩, ⟨[(0, none)], [], none⟩, ⟨[(0, none)], [], none⟩, ⟨[(10, none)], [], none⟩, ⟨[(41, some 1), (42, some 0)], [], none⟩, ⟨[(40, some 3), (43, some 0)], [], none⟩, ⟨[(44, some 0)], [], none⟩, ⟨[(45, some 0)], [], none⟩] [(0, none), (8, none), (10, none), (11, none), (39, some 7), (46, some 0)] (⟨_, rfl, ⟨_, rfl, ⟨_, rfl, ⟨_, rfl, ⟨_, rfl, ⟨_, rfl, ⟨_, rfl, ⟨_, rfl, ⟨_, rfl, ⟨_, rfl, ⟨_, rfl, ⟨_, rfl, ⟨_, rfl, ⟨_, rfl, ⟨_, rfl, ⟨_, rfl, ⟨_, rfl, ⟨rfl, rfl⟩⟩⟩⟩⟩⟩⟩⟩⟩⟩⟩⟩⟩⟩⟩⟩⟩⟩) mixed_orders rfl (by decide +kernel) (fun hck8 => ?_)
     refine VP.step (p := ?pv363) rfl rfl rfl (⟨_, _, rfl, rfl, rfl⟩) ?hv363 ?rest363 hck8
     case hv363 =>
      intro E1
      refine (V1.move rfl rfl rfl lt0 ?_)
      exact rfl
     refine VP.step (p := ?pv364) rfl rfl rfl (⟨_, _, rfl, rfl, rfl⟩) ?hv364 ?rest364 hck8
     case hv364 =>
      intro E1
      refine (V1.move rfl rfl rfl lt0 ?_)
      exact rfl
     refine VP.step (p := ?pv365) rfl rfl rfl (⟨_, _, rfl, rfl, rfl⟩) ?hv365 ?rest365 hck8
     case hv365 =>
      intro E1
      refine (V1.move rfl rfl rfl lt0 ?_)
      exact rfl
     refine VP.step (p := ?pv366) rfl rfl rfl (⟨_, _, rfl, rfl, rfl⟩) ?hv366 ?rest366 hck8
     case hv366 =>
      intro E1
      refine (V1.move rfl rfl rfl lt0 ?_)
      exact rfl
     refine VP.step (p := ?pv367) rfl rfl rfl (⟨_, _, rfl, rfl, _, _, rfl, rfl, rfl⟩) ?hv367 ?rest367 hck8
     case hv367 =>
      intro E1
      refine (V1.indexI rfl rfl esz_27 rfl rfl hh2 lt0 ?_)
      exact rfl
     refine VP.step (p := ?pv368) rfl rfl rfl (⟨_, _, rfl, rfl, rfl⟩) ?hv368 ?rest368 hck8
     case hv368 =>
      intro E1
      refine (V1.loadPin rfl rfl tyk_3 rfl rfl lt0 ?_)
      exact rfl
     refine VP.step (p := ?pv369) rfl rfl rfl (⟨_, _, rfl, rfl, _, _, rfl, rfl, rfl⟩) ?hv369 ?rest369 hck8
     case hv369 =>
      intro E1
      refine (V1.call rfl rfl rfl cok_62 rfl (ok_spec_l7Find hh3) rfl lt0 ?_)
      rintro _ _ ⟨rfl, rfl⟩
      exact rfl
     refine VP.step (p := ?pv371) rfl rfl rfl (⟨_, _, rfl, rfl, _, _, rfl, rfl, rfl⟩) ?hv371 ?rest371 hck8
     case hv371 =>
      intro E1
      refine (V1.indexI rfl rfl esz_24 rfl rfl hh4 lt0 ?_)
      exact rfl
     refine VP.step (p := ?pv372) rfl rfl rfl (⟨_, _, rfl, rfl, rfl⟩) ?hv372 ?rest372 hck8
     case hv372 =>
      intro E1
      refine (V1.fieldPin rfl rfl fo_34_2 rfl lt0 ?_)
      exact rfl
     refine VP.step (p := ?pv373) rfl rfl rfl (⟨_, _, rfl, rfl, rfl⟩) ?hv373 ?rest373 hck8
     case hv373 =>
      intro E1
      refine (V1.loadPin rfl rfl tyk_3 rfl rfl lt0 ?_)
      exact rfl
     refine VP.step (p := ?pv374) rfl rfl rfl (⟨_, _, rfl, rfl, rfl⟩) ?hv374 ?rest374 hck8
     case hv374 =>
      intro E1
      refine (V1.move rfl rfl rfl lt0 ?_)
      exact rfl
     refine VP.step (p := ?pv375) rfl rfl rfl (⟨_, _, rfl, rfl, rfl⟩) ?hv375 ?rest375 hck8
     case hv375 =>
      intro E1
      refine (V1.move rfl rfl rfl lt0 ?_)
      exact rfl
     refine VP.step (p := ?pv376) rfl rfl rfl (⟨_, _, rfl, rfl, rfl⟩) ?hv376 ?rest376 hck8
     case hv376 =>
      intro E1
      refine (V1.move rfl rfl rfl lt0 ?_)
      exact rfl
     refine VP.step (p := ?pv377) rfl rfl rfl (⟨_, _, rfl, rfl, _, _, rfl, rfl, rfl⟩) ?hv377 ?rest377 hck8
     case hv377 =>
      intro E1
      refine (V1.call rfl rfl rfl cok_62 rfl (ok_spec_l7Find hh5) rfl lt0 ?_)
      rintro _ _ ⟨rfl, rfl⟩
      exact rfl
     refine VP.step (p := ?pv379) rfl rfl rfl (⟨_, _, rfl, rfl, _, _, rfl, rfl, rfl⟩) ?hv379 ?rest379 hck8
     case hv379 =>
      intro E1
      refine (V1.indexI rfl rfl esz_24 rfl rfl hh6 lt0 ?_)
      exact rfl
     refine VP.step (p := ?pv380) rfl rfl rfl (⟨_, _, rfl, rfl, rfl⟩) ?hv380 ?rest380 hck8
     case hv380 =>
      intro E1
      refine (V1.fieldPin rfl rfl fo_34_2 rfl lt0 ?_)
      exact rfl
     refine VP.step (p := ?pv381) rfl rfl rfl (⟨_, _, rfl, rfl, rfl⟩) ?hv381 ?rest381 hck8
     case hv381 =>
      intro E1
      refine (V1.loadPin rfl rfl tyk_3 rfl rfl lt0 ?_)
      exact rfl
     refine VP.fin rfl (⟨_, _, rfl, rfl, _, _, rfl, rfl, _, _, rfl, rfl, _, _, rfl, rfl, _, _, rfl, rfl, _, _, rfl, rfl, rfl⟩) ?_
     refine VO.cons rfl (V1.int rfl rfl rfl rfl rfl lt0 ?_)
     refine VO.nil ?_
     refine V.cond rfl (fun hc2 => ?_) (fun hc2 => ?_)
     ·
      replace hm2 := cond_t hc2 hm2
      replace hm2 := asrt_some hm2; rcases hm2 with ⟨hh7, hm2⟩
      refine V.region ?_
      refine VO.cons rfl (V1.move rfl rfl rfl lt0 ?_)
      refine VO.cons rfl (V1.move rfl rfl rfl lt0 ?_)
      refine VO.cons rfl (V1.indexI rfl rfl esz_27 rfl rfl hh7 lt0 ?_)
      refine VO.cons rfl (V1.loadPin rfl rfl tyk_3 rfl rfl lt0 ?_)
      refine VO.cons rfl (V1.assign rfl rfl rfl lt0 ?_)
      refine VO.nil ?_
      exact ⟨((y0.1.getD (Int.toNat i) default), ()), Option.some.inj hm2, Keeps.mk (ks := []) rfl ⟨rfl, rfl, rfl, rfl, trivial⟩ (rfl) rfl⟩
     ·
      replace hm2 := cond_f hc2 hm2
      refine V.skip ?_
      exact ⟨(best0, ()), Option.some.inj hm2, Keeps.mk (ks := []) rfl ⟨rfl, rfl, rfl, rfl, trivial⟩ (rfl) rfl⟩
    ·
     rintro ⟨best1, _⟩ rfl
     try dsimp only at hm1
     refine V.region ?_
     refine VO.cons rfl (V1.move rfl rfl rfl lt0 ?_)
     refine VO.cons rfl (V1.int rfl rfl rfl rfl rfl lt0 ?_)
     refine VO.cons rfl (V1.assign rfl rfl rfl lt0 ?_)
     refine VO.nil ?_
     exact ⟨(m0, (best1, (IntKind.i64.wrap (i + (1 : Int)))), ()), hl1 _ (Option.some.inj hm1).symm, Nat.lt_succ_self _, Keeps.mk (ks := []) rfl ⟨rfl, rfl, rfl, rfl, trivial⟩ (rfl) rfl⟩
   ·
    replace hm1 := cond_f hc1 hm1
    refine V.exit ?_
    obtain rfl := hr1 _ (Option.some.inj hm1).symm
    exact ⟨(best0, ()), rfl, Keeps.mk (ks := []) rfl ⟨rfl, trivial⟩ (rfl) rfl⟩
  ·
   rintro ⟨best, _⟩ rfl
   try dsimp only at hm0
   refine V.seq ?_
   refine V.region ?_
   refine VO.cons rfl (V1.move rfl rfl rfl lt0 ?_)
   refine VO.cons rfl (V1.assign rfl rfl rfl lt0 ?_)
   refine VO.cons rfl (V1.assign rfl rfl rfl lt0 ?_)
   refine VO.nil ?_
   refine V.ret ?_
   obtain rfl := Option.some.inj hm0
   exact ⟨_, [], ⟨_, _, rfl, rfl, _, _, rfl, rfl, rfl⟩, List.nil_sublist _, rfl, rfl⟩

theorem ok_impl_lastReadable {ρ0 σ0 rn : Nat} {list : List Format} {id_ : Int} {r : Int} (h : M.impl_lastReadable list id_ = some r) : Does Tryd.prog 65 [.vl ρ0 4 (List.map (encFormat σ0) list), .int .i64 id_] [] rn (fun x H => x = .int .i64 r ∧ H = []) := by
 have hm0 := h; clear h; unfold M.impl_lastReadable at hm0
 try dsimp only at hm0
 refine Does.intro (N := 31) Tryd.func65 rfl rfl rfl rfl ?_
 intro w0 S0 L0
 refine V.seq ?_
 refine V.region ?_
 refine VO.cons rfl (V1.assign rfl rfl rfl lt0 ?_)
 refine VO.nil ?_
 refine V.seq ?_
 replace hm0 := bindO hm0; rcases hm0 with ⟨y0, hh0, hm0⟩
 replace hm0 := asrt_some hm0; rcases hm0 with ⟨hh1, hm0⟩
 refine V.region ?_
 refine VO.cons rfl (V1.move rfl rfl rfl lt0 ?_)
 refine VO.cons rfl (V1.move rfl rfl rfl lt0 ?_)
 refine VO.cons rfl (V1.move rfl rfl rfl lt0 ?_)
 refine VO.cons rfl (V1.call rfl rfl rfl cok_54 rfl (ok_impl_formatAt hh0) rfl lt0 ?_)
 rintro _ _ ⟨rfl, rfl⟩
 refine VO.cons rfl (V1.indexI rfl rfl esz_24 rfl rfl hh1 lt0 ?_)
 refine VO.cons rfl (V1.fieldPin rfl rfl fo_34_2 rfl lt0 ?_)
 refine VO.cons rfl (V1.loadPin rfl rfl tyk_3 rfl rfl lt0 ?_)
 refine VO.cons rfl (V1.assign rfl rfl rfl lt0 ?_)
 refine VO.nil ?_
 refine V.keep 31 [0, 1, 5] [] (E0 := [(0, .vl ρ0 4 (List.map (encFormat σ0) list)), (1, .int .i64 id_), (5, .int .i64 ((list.getD (Int.toNat y0) default).Until))]) (H0 := []) rfl (⟨_, _, rfl, rfl, _, _, rfl, rfl, _, _, rfl, rfl, rfl⟩) (rfl) rfl ?_
 refine V.seq ?_
 refine V.seq ?_
 refine V.region ?_
 refine VO.cons rfl (V1.move rfl rfl rfl lt0 ?_)
 refine VO.cons rfl (V1.lenMap rfl rfl rfl rfl rfl rfl isl_24 lt0 ?_)
 refine VO.cons rfl (V1.move rfl rfl rfl lt0 ?_)
 refine VO.nil ?_
 replace hm0 := bindO hm0; rcases hm0 with ⟨e0, he1, hm0⟩
 refine V.cutT (D := (Int) × (Unit)) (fun ⟨last, _⟩ => ⟨31, [(5, .int .i64 last)], []⟩) (fun ⟨last, _⟩ => (last = e0)) ?_ ?_
 ·
  refine V.block ?_
  refine V.keep 31 [5, 17, 1, 15, 16] [] (E0 := [(5, .int .i64 ((list.getD (Int.toNat y0) default).Until)), (17, .int .i64 (0 : Int)), (1, .int .i64 id_), (15, .vl ρ0 4 (List.map (encFormat σ0) list)), (16, .int .i64 (list.length : Int))]) (H0 := []) rfl (⟨_, _, rfl, rfl, _, _, rfl, rfl, _, _, rfl, rfl, _, _, rfl, rfl, _, _, rfl, rfl, rfl⟩) (rfl) rfl ?_
  refine V.loopE (D := Nat × (Int × Int) × (Unit)) (fun ⟨n0, ⟨last0, v⟩, _⟩ => [(5, .int .i64 last0), (17, .int .i64 v)]) (fun ⟨n0, ⟨last0, v⟩, _⟩ => []) (fun ⟨n0, ⟨last0, v⟩, _⟩ => loopO (M.impl_lastReadable_l0 list id_) n0 (last0, v) = some e0) (fun ⟨n0, _, _⟩ => n0) (rounds, ((list.getD (Int.toNat y0) default).Until, (0 : Int)), ()) rfl he1 ?_
  rintro ⟨n0, ⟨last0, v⟩, _⟩ hP0
  obtain ⟨m0, y1, rfl, hm1, hl1, hr1⟩ := loop_head hP0
  unfold M.impl_lastReadable_l0 at hm1; dsimp only at hm1
  show V _ _ _ ⟨31, [(5, .int .i64 last0), (17, .int .i64 v), (1, .int .i64 id_), (15, .vl ρ0 4 (List.map (encFormat σ0) list)), (16, .int .i64 (list.length : Int))], []⟩
  refine V.seq ?_
  refine V.region ?_
  refine VO.cons rfl (V1.int rfl rfl rfl rfl rfl lt0 ?_)
  refine VO.nil ?_
  refine V.seq ?_
  refine V.cond rfl (fun hc0 => ?_) (fun hc0 => ?_)
  ·
   replace hm1 := cond_t hc0 hm1
   refine V.skip ?_
   refine V.seq ?_
   replace hm1 := bindO hm1; rcases hm1 with ⟨j0, hm2, hm1⟩
   refine V.cutT (D := (Int) × (Unit)) (fun ⟨last1, _⟩ => ⟨31, [(5, .int .i64 last1), (1, .int .i64 id_), (15, .vl ρ0 4 (List.map (encFormat σ0) list)), (16, .int .i64 (list.length : Int)), (17, .int .i64 v)], []⟩) (fun ⟨last1, _⟩ => (last1 = j0)) ?_ ?_
   ·
    refine V.block ?_
    refine V.seq ?_
    replace hm2 := asrt_some hm2; rcases hm2 with ⟨hh2, hm2⟩
    refine V.region ?_
    refine VO.cons rfl (V1.indexI rfl rfl esz_24 rfl rfl hh2 lt0 ?_)
    refine VO.cons rfl (V1.loadPinAll rfl rfl tyk_34 rfl rfl lt0 ?_)
    refine VO.cons rfl (V1.alloc rfl rfl zk_34 lt0 ?_)
    intro b0
    refine VO.cons rfl (V1.storeRefAll (k := 0) rfl rfl tyk_34 rfl rfl rfl rfl rfl rfl ?_)
    refine VO.nil ?_
    refine V.seq ?_
    replace hm2 := bindO hm2; rcases hm2 with ⟨y2, hh3, hm2⟩
    refine V.region ?_
    refine VO.cons rfl (V1.fieldRef rfl rfl fo_34_3 rfl lt0 ?_)
    refine VO.cons rfl (V1.loadRef (k := 0) rfl rfl tyk_27 rfl rfl rfl rfl rfl lt0 ?_)
    refine VO.cons rfl (V1.move rfl rfl rfl lt0 ?_)
    refine VO.cons rfl (V1.call rfl rfl rfl cok_56 rfl (ok_slices_Contains_int_int hh3) rfl lt0 ?_)
    rintro _ _ ⟨rfl, rfl⟩
    refine VO.nil ?_
    refine V.keep 31 [1, 5, 7, 15, 16, 17, 24] [0] (E0 := [(1, .int .i64 id_), (5, .int .i64 last0), (7, .ref b0 4 0 0), (15, .vl ρ0 4 (List.map (encFormat σ0) list)), (16, .int .i64 (list.length : Int)), (17, .int .i64 v), (24, .bool y2)]) (H0 := [(b0, ⟨4, [encFormat σ0 (list.getD (Int.toNat v) default)]⟩)]) rfl (⟨_, _, rfl, rfl, _, _, rfl, rfl, _, _, rfl, rfl, _, _, rfl, rfl, _, _, rfl, rfl, _, _, rfl, rfl, _, _, rfl, rfl, rfl⟩) (⟨_, _, rfl, rfl, rfl⟩) rfl ?_
    refine V.cond rfl (fun hc1 => ?_) (fun hc1 => ?_)
    ·
     replace hm2 := cond_t hc1 hm2
     refine V.region ?_
     refine VO.cons rfl (V1.move rfl rfl rfl lt0 ?_)
     refine VO.cons rfl (V1.fieldRef rfl rfl fo_34_2 rfl lt0 ?_)
     refine VO.cons rfl (V1.loadRef (k := 0) rfl rfl tyk_3 rfl rfl rfl rfl rfl lt0 ?_)
     refine VO.cons rfl (V1.maxI rfl rfl rfl rfl rfl rfl lt0 ?_)
     refine VO.cons rfl (V1.assign rfl rfl rfl lt0 ?_)
     refine VO.nil ?_
     exact ⟨((bif decide (last0 < ((list.getD (Int.toNat v) default).Until)) then ((list.getD (Int.toNat v) default).Until) else last0), ()), Option.some.inj hm2, Keeps.mk (ks := []) rfl ⟨rfl, rfl, rfl, rfl, rfl, trivial⟩ (rfl) rfl⟩
    ·
     replace hm2 := cond_f hc1 hm2
     refine V.skip ?_
     exact ⟨(last0, ()), Option.some.inj hm2, Keeps.mk (ks := []) rfl ⟨rfl, rfl, rfl, rfl, rfl, trivial⟩ (rfl) rfl⟩
   ·
    rintro ⟨last1, _⟩ rfl
    try dsimp only at hm1
    refine V.region ?_
    refine VO.cons rfl (V1.int rfl rfl rfl rfl rfl lt0 ?_)
    refine VO.cons rfl (V1.move rfl rfl rfl lt0 ?_)
    refine VO.nil ?_
    exact ⟨(m0, (last1, (IntKind.i64.wrap (v + (1 : Int)))), ()), hl1 _ (Option.some.inj hm1).symm, Nat.lt_succ_self _, Keeps.mk (ks := []) rfl ⟨rfl, rfl, rfl, rfl, rfl, trivial⟩ (rfl) rfl⟩
  ·
   replace hm1 := cond_f hc0 hm1
   refine V.exit ?_
   obtain rfl := hr1 _ (Option.some.inj hm1).symm
   exact ⟨(last0, ()), rfl, Keeps.mk (ks := []) rfl ⟨rfl, trivial⟩ (rfl) rfl⟩
 ·
  rintro ⟨last, _⟩ rfl
  try dsimp only at hm0
  refine V.seq ?_
  refine V.region ?_
  refine VO.cons rfl (V1.move rfl rfl rfl lt0 ?_)
  refine VO.cons rfl (V1.assign rfl rfl rfl lt0 ?_)
  refine VO.nil ?_
  refine V.ret ?_
  obtain rfl := Option.some.inj hm0
  exact ⟨_, [], ⟨_, _, rfl, rfl, rfl⟩, List.nil_sublist _, rfl, rfl⟩

theorem ok_impl_IsReadable {ρ0 rn : Nat} {list : List Format} {id_ : Int} {day : Int} {r : Bool × Bool} (h : M.impl_IsReadable list id_ day = some r) : Does Tryd.prog 18 [.vl ρ0 4 (List.map (encFormat ρ0) list), .int .i64 id_, .int .i64 day] [] rn (fun x H => x = .tup [.bool r.1, .bool r.2] ∧ H = []) := by
 have hm0 := h; clear h; unfold M.impl_IsReadable at hm0
 try dsimp only at hm0
 refine Does.intro (N := 18) Tryd.func18 rfl rfl rfl rfl ?_
 intro w0 S0 L0
 refine V.seq ?_
 refine V.region ?_
 refine VO.cons rfl (V1.assign rfl rfl rfl lt0 ?_)
 refine VO.cons rfl (V1.assign rfl rfl rfl lt0 ?_)
 refine VO.nil ?_
 refine V.seq ?_
 refine V.seq ?_
 replace hm0 := bindO hm0; rcases hm0 with ⟨y0, hh0, hm0⟩
 refine V.region ?_
 refine VO.cons rfl (V1.move rfl rfl rfl lt0 ?_)
 refine VO.cons rfl (V1.move rfl rfl rfl lt0 ?_)
 refine VO.cons rfl (V1.move rfl rfl rfl lt0 ?_)
 refine VO.cons rfl (V1.call rfl rfl rfl cok_53 rfl (ok_impl_isOnDay hh0) rfl lt0 ?_)
 rintro _ _ ⟨rfl, rfl⟩
 refine VO.cons rfl (V1.not rfl rfl rfl lt0 ?_)
 refine VO.nil ?_
 refine V.keep 18 [0, 1, 2, 12] [] (E0 := [(0, .vl ρ0 4 (List.map (encFormat ρ0) list)), (1, .int .i64 id_), (2, .int .i64 day), (12, .bool (!y0))]) (H0 := []) rfl (⟨_, _, rfl, rfl, _, _, rfl, rfl, _, _, rfl, rfl, _, _, rfl, rfl, rfl⟩) (rfl) rfl ?_
 refine V.cond rfl (fun hc0 => ?_) (fun hc0 => ?_)
 ·
  replace hm0 := cond_t hc0 hm0
  refine V.seq ?_
  refine V.region ?_
  refine VO.cons rfl (V1.assign rfl rfl rfl lt0 ?_)
  refine VO.cons rfl (V1.assign rfl rfl rfl lt0 ?_)
  refine VO.nil ?_
  refine V.ret ?_
  obtain rfl := Option.some.inj hm0
  exact ⟨_, [], ⟨_, _, rfl, rfl, _, _, rfl, rfl, rfl⟩, List.nil_sublist _, rfl, rfl⟩
 ·
  replace hm0 := cond_f hc0 hm0
  refine V.skip ?_
  refine V.seq ?_
  replace hm0 := bindO hm0; rcases hm0 with ⟨y1, hh1, hm0⟩
  refine V.region ?_
  refine VO.cons rfl (V1.move rfl rfl rfl lt0 ?_)
  refine VO.cons rfl (V1.move rfl rfl rfl lt0 ?_)
  refine VO.cons rfl (V1.call rfl rfl rfl cok_65 rfl (ok_impl_lastReadable hh1) rfl lt0 ?_)
  rintro _ _ ⟨rfl, rfl⟩
  refine VO.cons rfl (V1.move rfl rfl rfl lt0 ?_)
  refine VO.cons rfl (V1.int rfl rfl rfl rfl rfl lt0 ?_)
  refine VO.cons rfl (V1.assign rfl rfl rfl lt0 ?_)
  refine VO.cons rfl (V1.assign rfl rfl rfl lt0 ?_)
  refine VO.nil ?_
  refine V.ret ?_
  obtain rfl := Option.some.inj hm0
  exact ⟨_, [], ⟨_, _, rfl, rfl, _, _, rfl, rfl, rfl⟩, List.nil_sublist _, rfl, rfl⟩

theorem ok_spec_l1Most {rn : Nat} {a : Int} {b_ : Int} {r : Int} (h : M.spec_l1Most a b_ = some r) : Does Tryd.prog 119 [.int .i64 a, .int .i64 b_] [] rn (fun x H => x = .int .i64 r ∧ H = []) := by
 have hm0 := h; clear h; unfold M.spec_l1Most at hm0
 try dsimp only at hm0
 refine Does.intro (N := 10) Tryd.func119 rfl rfl rfl rfl ?_
 intro w0 S0 L0
 refine V.seq ?_
 refine V.region ?_
 refine VO.cons rfl (V1.assign rfl rfl rfl lt0 ?_)
 refine VO.nil ?_
 refine V.seq ?_
 refine V.seq ?_
 refine V.region ?_
 refine VO.cons rfl (V1.move rfl rfl rfl lt0 ?_)
 refine VO.cons rfl (V1.move rfl rfl rfl lt0 ?_)
 refine VO.cons rfl (V1.int rfl rfl rfl rfl rfl lt0 ?_)
 refine VO.nil ?_
 refine V.cond rfl (fun hc0 => ?_) (fun hc0 => ?_)
 ·
  replace hm0 := cond_t hc0 hm0
  refine V.seq ?_
  refine V.region ?_
  refine VO.cons rfl (V1.move rfl rfl rfl lt0 ?_)
  refine VO.cons rfl (V1.assign rfl rfl rfl lt0 ?_)
  refine VO.nil ?_
  refine V.ret ?_
  obtain rfl := Option.some.inj hm0
  exact ⟨_, [], ⟨_, _, rfl, rfl, rfl⟩, List.nil_sublist _, rfl, rfl⟩
 ·
  replace hm0 := cond_f hc0 hm0
  refine V.skip ?_
  refine V.keep 10 [1] [] (E0 := [(1, .int .i64 b_)]) (H0 := []) rfl (⟨_, _, rfl, rfl, rfl⟩) (rfl) rfl ?_
  refine V.seq ?_
  refine V.region ?_
  refine VO.cons rfl (V1.move rfl rfl rfl lt0 ?_)
  refine VO.cons rfl (V1.assign rfl rfl rfl lt0 ?_)
  refine VO.nil ?_
  refine V.ret ?_
  obtain rfl := Option.some.inj hm0
  exact ⟨_, [], ⟨_, _, rfl, rfl, rfl⟩, List.nil_sublist _, rfl, rfl⟩

theorem ok_spec_l7Last {ρ0 σ0 rn : Nat} {list : List Format} {id_ : Int} {r : Int} (h : M.spec_l7Last list id_ = some r) : Does Tryd.prog 66 [.vl ρ0 4 (List.map (encFormat σ0) list), .int .i64 id_] [] rn (fun x H => x = .int .i64 r ∧ H = []) := by
 have hm0 := h; clear h; unfold M.spec_l7Last at hm0
 try dsimp only at hm0
 refine Does.intro (N := 35) Tryd.func66 rfl rfl rfl rfl ?_
 intro w0 S0 L0
 refine V.seq ?_
 refine V.region ?_
 refine VO.cons rfl (V1.assign rfl rfl rfl lt0 ?_)
 refine VO.nil ?_
 refine V.seq ?_
 replace hm0 := bindO hm0; rcases hm0 with ⟨y0, hh0, hm0⟩
 replace hm0 := asrt_some hm0; rcases hm0 with ⟨hh1, hm0⟩
 refine V.region ?_
 refine VO.cons rfl (V1.move rfl rfl rfl lt0 ?_)
 refine VO.cons rfl (V1.move rfl rfl rfl lt0 ?_)
 refine VO.cons rfl (V1.move rfl rfl rfl lt0 ?_)
 refine VO.cons rfl (V1.call rfl rfl rfl cok_62 rfl (ok_spec_l7Find hh0) rfl lt0 ?_)
 rintro _ _ ⟨rfl, rfl⟩
 refine VO.cons rfl (V1.indexI rfl rfl esz_24 rfl rfl hh1 lt0 ?_)
 refine VO.cons rfl (V1.fieldPin rfl rfl fo_34_2 rfl lt0 ?_)
 refine VO.cons rfl (V1.loadPin rfl rfl tyk_3 rfl rfl lt0 ?_)
 refine VO.cons rfl (V1.assign rfl rfl rfl lt0 ?_)
 refine VO.nil ?_
 refine V.keep 35 [0, 1, 5] [] (E0 := [(0, .vl ρ0 4 (List.map (encFormat σ0) list)), (1, .int .i64 id_), (5, .int .i64 ((list.getD (Int.toNat y0) default).Until))]) (H0 := []) rfl (⟨_, _, rfl, rfl, _, _, rfl, rfl, _, _, rfl, rfl, rfl⟩) (rfl) rfl ?_
 refine V.seq ?_
 refine V.seq ?_
 refine V.region ?_
 refine VO.cons rfl (V1.assign rfl rfl rfl lt0 ?_)
 refine VO.nil ?_
 replace hm0 := bindO hm0; rcases hm0 with ⟨e0, he1, hm0⟩
 refine V.cutT (D := (Int) × (Unit)) (fun ⟨last, _⟩ => ⟨35, [(5, .int .i64 last)], []⟩) (fun ⟨last, _⟩ => (last = e0)) ?_ ?_
 ·
  refine V.block ?_
  refine V.keep 35 [5, 6, 0, 1] [] (E0 := [(5, .int .i64 ((list.getD (Int.toNat y0) default).Until)), (6, .int .i64 (0 : Int)), (0, .vl ρ0 4 (List.map (encFormat σ0) list)), (1, .int .i64 id_)]) (H0 := []) rfl (⟨_, _, rfl, rfl, _, _, rfl, rfl, _, _, rfl, rfl, _, _, rfl, rfl, rfl⟩) (rfl) rfl ?_
  refine V.loopE (D := Nat × (Int × Int) × (Unit)) (fun ⟨n0, ⟨last0, i⟩, _⟩ => [(5, .int .i64 last0), (6, .int .i64 i)]) (fun ⟨n0, ⟨last0, i⟩, _⟩ => []) (fun ⟨n0, ⟨last0, i⟩, _⟩ => loopO (M.spec_l7Last_l0 list id_) n0 (last0, i) = some e0) (fun ⟨n0, _, _⟩ => n0) (rounds, ((list.getD (Int.toNat y0) default).Until, (0 : Int)), ()) rfl he1 ?_
  rintro ⟨n0, ⟨last0, i⟩, _⟩ hP0
  obtain ⟨m0, y1, rfl, hm1, hl1, hr1⟩ := loop_head hP0
  unfold M.spec_l7Last_l0 at hm1; dsimp only at hm1
  show V _ _ _ ⟨35, [(5, .int .i64 last0), (6, .int .i64 i), (0, .vl ρ0 4 (List.map (encFormat σ0) list)), (1, .int .i64 id_)], []⟩
  refine V.seq ?_
  refine V.seq ?_
  refine V.region ?_
  refine VO.cons rfl (V1.move rfl rfl rfl lt0 ?_)
  refine VO.cons rfl (V1.move rfl rfl rfl lt0 ?_)
  refine VO.cons rfl (V1.lenMap rfl rfl rfl rfl rfl rfl isl_24 lt0 ?_)
  refine VO.cons rfl (V1.int rfl rfl rfl rfl rfl lt0 ?_)
  refine VO.nil ?_
  refine V.cond rfl (fun hc0 => ?_) (fun hc0 => ?_)
  ·
   replace hm1 := cond_t hc0 hm1
   refine V.skip ?_
   refine V.keep 35 [0, 1, 5, 6] [] (E0 := [(0, .vl ρ0 4 (List.map (encFormat σ0) list)), (1, .int .i64 id_), (5, .int .i64 last0), (6, .int .i64 i)]) (H0 := []) rfl (⟨_, _, rfl, rfl, _, _, rfl, rfl, _, _, rfl, rfl, _, _, rfl, rfl, rfl⟩) (rfl) rfl ?_
   refine V.seq ?_
   replace hm1 := bindO hm1; rcases hm1 with ⟨j0, hm2, hm1⟩
   refine V.cutT (D := (Int) × (Unit)) (fun ⟨last1, _⟩ => ⟨35, [(5, .int .i64 last1), (0, .vl ρ0 4 (List.map (encFormat σ0) list)), (1, .int .i64 id_), (6, .int .i64 i)], []⟩) (fun ⟨last1, _⟩ => (last1 = j0)) ?_ ?_
   ·
    refine V.block ?_
    refine V.seq ?_
    replace hm2 := asrt_some hm2; rcases hm2 with ⟨hh2, hm2⟩
    replace hm2 := bindO hm2; rcases hm2 with ⟨y2, hh3, hm2⟩
    refine V.region ?_
    refine VO.cons rfl (V1.move rfl rfl rfl lt0 ?_)
    refine VO.cons rfl (V1.move rfl rfl rfl lt0 ?_)
    refine VO.cons rfl (V1.indexI rfl rfl esz_24 rfl rfl hh2 lt0 ?_)
    refine VO.cons rfl (V1.fieldPin rfl rfl fo_34_3 rfl lt0 ?_)
    refine VO.cons rfl (V1.loadPin rfl rfl tyk_27 rfl rfl lt0 ?_)
    refine VO.cons rfl (V1.move rfl rfl rfl lt0 ?_)
    refine VO.cons rfl (V1.call rfl rfl rfl cok_58 rfl (ok_spec_l1Has hh3) rfl lt0 ?_)
    rintro _ _ ⟨rfl, rfl⟩
    refine VO.nil ?_
    refine V.keep 35 [0, 1, 5, 6, 26] [] (E0 := [(0, .vl ρ0 4 (List.map (encFormat σ0) list)), (1, .int .i64 id_), (5, .int .i64 last0), (6, .int .i64 i), (26, .bool y2)]) (H0 := []) rfl (⟨_, _, rfl, rfl, _, _, rfl, rfl, _, _, rfl, rfl, _, _, rfl, rfl, _, _, rfl, rfl, rfl⟩) (rfl) rfl ?_
    refine V.cond rfl (fun hc1 => ?_) (fun hc1 => ?_)
    ·
     replace hm2 := cond_t hc1 hm2
     replace hm2 := asrt_some hm2; rcases hm2 with ⟨hh4, hm2⟩
     replace hm2 := bindO hm2; rcases hm2 with ⟨y3, hh5, hm2⟩
     refine V.region ?_
     refine VO.cons rfl (V1.move rfl rfl rfl lt0 ?_)
     refine VO.cons rfl (V1.move rfl rfl rfl lt0 ?_)
     refine VO.cons rfl (V1.move rfl rfl rfl lt0 ?_)
     refine VO.cons rfl (V1.indexI rfl rfl esz_24 rfl rfl hh4 lt0 ?_)
     refine VO.cons rfl (V1.fieldPin rfl rfl fo_34_2 rfl lt0 ?_)
     refine VO.cons rfl (V1.loadPin rfl rfl tyk_3 rfl rfl lt0 ?_)
     refine VO.cons rfl (V1.call rfl rfl rfl cok_119 rfl (ok_spec_l1Most hh5) rfl lt0 ?_)
     rintro _ _ ⟨rfl, rfl⟩
     refine VO.cons rfl (V1.assign rfl rfl rfl lt0 ?_)
     refine VO.nil ?_
     exact ⟨(y3, ()), Option.some.inj hm2, Keeps.mk (ks := []) rfl ⟨rfl, rfl, rfl, rfl, trivial⟩ (rfl) rfl⟩
    ·
     replace hm2 := cond_f hc1 hm2
     refine V.skip ?_
     exact ⟨(last0, ()), Option.some.inj hm2, Keeps.mk (ks := []) rfl ⟨rfl, rfl, rfl, rfl, trivial⟩ (rfl) rfl⟩
   ·
    rintro ⟨last1, _⟩ rfl
    try dsimp only at hm1
    refine V.region ?_
    refine VO.cons rfl (V1.move rfl rfl rfl lt0 ?_)
    refine VO.cons rfl (V1.int rfl rfl rfl rfl rfl lt0 ?_)
    refine VO.cons rfl (V1.assign rfl rfl rfl lt0 ?_)
    refine VO.nil ?_
    exact ⟨(m0, (last1, (IntKind.i64.wrap (i + (1 : Int)))), ()), hl1 _ (Option.some.inj hm1).symm, Nat.lt_succ_self _, Keeps.mk (ks := []) rfl ⟨rfl, rfl, rfl, rfl, trivial⟩ (rfl) rfl⟩
  ·
   replace hm1 := cond_f hc0 hm1
   refine V.exit ?_
   obtain rfl := hr1 _ (Option.some.inj hm1).symm
   exact ⟨(last0, ()), rfl, Keeps.mk (ks := []) rfl ⟨rfl, trivial⟩ (rfl) rfl⟩
 ·
  rintro ⟨last, _⟩ rfl
  try dsimp only at hm0
  refine V.seq ?_
  refine V.region ?_
  refine VO.cons rfl (V1.move rfl rfl rfl lt0 ?_)
  refine VO.cons rfl (V1.assign rfl rfl rfl lt0 ?_)
  refine VO.nil ?_
  refine V.ret ?_
  obtain rfl := Option.some.inj hm0
  exact ⟨_, [], ⟨_, _, rfl, rfl, rfl⟩, List.nil_sublist _, rfl, rfl⟩

theorem ok_spec_IsReadable {ρ0 σ0 rn : Nat} {list : List Format} {id_ : Int} {day : Int} {r : Bool × Bool} (h : M.spec_IsReadable list id_ day = some r) : Does Tryd.prog 19 [.vl ρ0 4 (List.map (encFormat σ0) list), .int .i64 id_, .int .i64 day] [] rn (fun x H => x = .tup [.bool r.1, .bool r.2] ∧ H = []) := by
 have hm0 := h; clear h; unfold M.spec_IsReadable at hm0
 try dsimp only at hm0
 refine Does.intro (N := 27) Tryd.func19 rfl rfl rfl rfl ?_
 intro w0 S0 L0
 refine V.seq ?_
 refine V.region ?_
 refine VO.cons rfl (V1.assign rfl rfl rfl lt0 ?_)
 refine VO.cons rfl (V1.assign rfl rfl rfl lt0 ?_)
 refine VO.nil ?_
 refine V.seq ?_
 refine V.seq ?_
 replace hm0 := bindO hm0; rcases hm0 with ⟨y0, hh0, hm0⟩
 replace hm0 := bindO hm0; rcases hm0 with ⟨y1, hh1, hm0⟩
 replace hm0 := bindO hm0; rcases hm0 with ⟨y2, hh2, hm0⟩
 refine V.region ?_
 refine VO.cons rfl (V1.move rfl rfl rfl lt0 ?_)
 refine VO.cons rfl (V1.call rfl rfl rfl cok_61 rfl (ok_spec_l7Good hh0) rfl lt0 ?_)
 rintro _ _ ⟨rfl, rfl⟩
 refine VO.cons rfl (V1.not rfl rfl rfl lt0 ?_)
 refine VO.cons rfl (V1.move rfl rfl rfl lt0 ?_)
 apply VO.or (n := 4) rfl rfl rfl rfl rfl rfl lt0 (.none rfl)
 ·
  intro hg0
  refine VO.step (.some rfl rfl rfl) (V1.move rfl rfl rfl lt0 ?_)
  refine VO.step (.some rfl rfl rfl) (V1.move rfl rfl rfl lt0 ?_)
  refine VO.step (.some rfl rfl rfl) (V1.call rfl rfl rfl cok_62 rfl (ok_spec_l7Find (cond_f hg0 hh1)) rfl lt0 ?_)
  rintro _ _ ⟨rfl, rfl⟩
  refine VO.step (.some rfl rfl rfl) (V1.int rfl rfl rfl rfl rfl lt0 ?_)
  exact VO.nil ⟨rfl, rfl, rfl, rfl, .inr ⟨rfl, .inr ⟨rfl, .inr ⟨rfl, .inr ⟨rfl, .inr ⟨rfl, .inl rfl⟩⟩⟩⟩⟩⟩
 refine VO.cons rfl (V1.move rfl rfl rfl lt0 ?_)
 apply VO.or (n := 3) rfl rfl rfl rfl rfl rfl lt0 (.none rfl)
 ·
  intro hg1
  refine VO.step (.some rfl rfl rfl) (V1.move rfl rfl rfl lt0 ?_)
  refine VO.step (.some rfl rfl rfl) (V1.call rfl rfl rfl cok_63 rfl (ok_spec_l2Day (cond_f hg1 hh2)) rfl lt0 ?_)
  rintro _ _ ⟨rfl, rfl⟩
  refine VO.step (.some rfl rfl rfl) (V1.not rfl rfl rfl lt0 ?_)
  exact VO.nil ⟨rfl, rfl, rfl, rfl, .inr ⟨rfl, .inr ⟨rfl, .inr ⟨rfl, .inr ⟨rfl, .inl rfl⟩⟩⟩⟩⟩
 refine VO.nil ?_
 refine V.keep 27 [0, 1, 2, 21] [] (E0 := [(0, .vl ρ0 4 (List.map (encFormat σ0) list)), (1, .int .i64 id_), (2, .int .i64 day), (21, .bool (((!y0) || (decide (y1 < (0 : Int)))) || (!y2)))]) (H0 := []) rfl (⟨_, _, rfl, rfl, _, _, rfl, rfl, _, _, rfl, rfl, _, _, rfl, rfl, rfl⟩) (rfl) rfl ?_
 refine V.cond rfl (fun hc0 => ?_) (fun hc0 => ?_)
 ·
  replace hm0 := cond_t hc0 hm0
  refine V.seq ?_
  refine V.region ?_
  refine VO.cons rfl (V1.assign rfl rfl rfl lt0 ?_)
  refine VO.cons rfl (V1.assign rfl rfl rfl lt0 ?_)
  refine VO.nil ?_
  refine V.ret ?_
  obtain rfl := Option.some.inj hm0
  exact ⟨_, [], ⟨_, _, rfl, rfl, _, _, rfl, rfl, rfl⟩, List.nil_sublist _, rfl, rfl⟩
 ·
  replace hm0 := cond_f hc0 hm0
  refine V.skip ?_
  refine V.seq ?_
  replace hm0 := bindO hm0; rcases hm0 with ⟨y3, hh3, hm0⟩
  refine V.region ?_
  refine VO.cons rfl (V1.move rfl rfl rfl lt0 ?_)
  refine VO.cons rfl (V1.move rfl rfl rfl lt0 ?_)
  refine VO.cons rfl (V1.call rfl rfl rfl cok_66 rfl (ok_spec_l7Last hh3) rfl lt0 ?_)
  rintro _ _ ⟨rfl, rfl⟩
  refine VO.cons rfl (V1.move rfl rfl rfl lt0 ?_)
  refine VO.cons rfl (V1.int rfl rfl rfl rfl rfl lt0 ?_)
  refine VO.cons rfl (V1.assign rfl rfl rfl lt0 ?_)
  refine VO.cons rfl (V1.assign rfl rfl rfl lt0 ?_)
  refine VO.nil ?_
  refine V.ret ?_
  obtain rfl := Option.some.inj hm0
  exact ⟨_, [], ⟨_, _, rfl, rfl, _, _, rfl, rfl, rfl⟩, List.nil_sublist _, rfl, rfl⟩

theorem ok_laws_FnPaths {ρ0 rn : Nat} {code : List Int} {r : Bool} (h : M.laws_FnPaths code = some r) : Does Tryd.prog 3 [.vl ρ0 1 (List.map encU8 code)] [] rn (fun x H => x = .bool r ∧ H = []) := by
 have hm0 := h; clear h; unfold M.laws_FnPaths at hm0
 try dsimp only at hm0
 refine Does.intro (N := 242) Tryd.func3 rfl rfl rfl rfl ?_
 intro w0 S0 L0
 refine V.seq ?_
 refine V.region ?_
 refine VO.cons rfl (V1.assign rfl rfl rfl lt0 ?_)
 refine VO.nil ?_
 refine V.seq ?_
 refine V.seq ?_
 replace hm0 := bindO hm0; rcases hm0 with ⟨y0, hh0, hm0⟩
 refine V.region ?_
 refine VO.cons rfl (V1.move rfl rfl rfl lt0 ?_)
 refine VO.cons rfl (V1.call rfl rfl rfl cok_6 rfl (ok_laws_rBig hh0) rfl lt0 ?_)
 rintro _ _ ⟨rfl, rfl⟩
 refine VO.nil ?_
 refine V.cond rfl (fun hc0 => ?_) (fun hc0 => ?_)
 ·
  replace hm0 := cond_t hc0 hm0
  refine V.seq ?_
  refine V.region ?_
  refine VO.cons rfl (V1.assign rfl rfl rfl lt0 ?_)
  refine VO.nil ?_
  refine V.ret ?_
  obtain rfl := Option.some.inj hm0
  exact ⟨_, [], ⟨_, _, rfl, rfl, rfl⟩, List.nil_sublist _, rfl, rfl⟩
 ·
  replace hm0 := cond_f hc0 hm0
  refine V.skip ?_
  refine V.seq ?_
  replace hm0 := bindO hm0; rcases hm0 with ⟨y1, hh1, hm0⟩
  refine V.region ?_
  refine VO.cons rfl (V1.move rfl rfl rfl lt0 ?_)
  refine VO.cons rfl (V1.call rfl rfl rfl cok_7 rfl (ok_spec_DrawShortestPath hh1) rfl lt0 ?_)
  rintro _ _ ⟨b0, rfl, rfl⟩
  refine VO.cons rfl (V1.move rfl rfl rfl lt0 ?_)
  refine VO.cons rfl (V1.extract rfl rfl rfl rfl lt0 ?_)
  refine VO.weakenK (Keeps.freezeG 0 rn [(41, .vl rn 4 (List.map (encFormat rn) y1.1))] ([]) (f := (encFormat rn)) (l := y1.1) rfl (fun _ => rfl) ⟨⟨_, rfl, .here⟩, trivial⟩ rfl rfl iNil) ?_
  refine VO.cons rfl (V1.extract rfl rfl rfl rfl lt0 ?_)
  refine VO.cons rfl (V1.extract rfl rfl rfl rfl lt0 ?_)
  refine VO.cons rfl (V1.extract rfl rfl rfl rfl lt0 ?_)
  refine VO.cons rfl (V1.assign rfl rfl rfl lt0 ?_)
  refine VO.cons rfl (V1.assign rfl rfl rfl lt0 ?_)
  refine VO.cons rfl (V1.assign rfl rfl rfl lt0 ?_)
  refine VO.cons rfl (V1.assign rfl rfl rfl lt0 ?_)
  refine VO.nil ?_
  refine V.keep 242 [0, 3, 4, 5, 6] [] (E0 := [(0, .vl ρ0 1 (List.map encU8 code)), (3, .vl rn 4 (List.map (encFormat rn) y1.1)), (4, .int .i64 y1.2.1), (5, .int .i64 y1.2.2.1), (6, .int .i64 y1.2.2.2)]) (H0 := []) rfl (⟨_, _, rfl, rfl, _, _, rfl, rfl, _, _, rfl, rfl, _, _, rfl, rfl, _, _, rfl, rfl, rfl⟩) (rfl) rfl ?_
  refine V.seq ?_
  replace hm0 := bindO hm0; rcases hm0 with ⟨y2, hh2, hm0⟩
  refine V.region ?_
  refine VO.cons rfl (V1.move rfl rfl rfl lt0 ?_)
  refine VO.cons rfl (V1.move rfl rfl rfl lt0 ?_)
  refine VO.cons rfl (V1.move rfl rfl rfl lt0 ?_)
  refine VO.cons rfl (V1.move rfl rfl rfl lt0 ?_)
  refine VO.cons rfl (V1.call rfl rfl rfl cok_8 rfl (ok_impl_ShortestPath hh2) rfl lt0 ?_)
  rintro _ _ ⟨rfl, rfl⟩
  refine VO.cons rfl (V1.move rfl rfl rfl lt0 ?_)
  refine VO.cons rfl (V1.extract rfl rfl rfl rfl lt0 ?_)
  refine VO.cons rfl (V1.extract rfl rfl rfl rfl lt0 ?_)
  refine VO.cons rfl (V1.assign rfl rfl rfl lt0 ?_)
  refine VO.cons rfl (V1.assign rfl rfl rfl lt0 ?_)
  refine VO.nil ?_
  refine V.keep 242 [0, 3, 4, 5, 6, 7, 8] [] (E0 := [(0, .vl ρ0 1 (List.map encU8 code)), (3, .vl rn 4 (List.map (encFormat rn) y1.1)), (4, .int .i64 y1.2.1), (5, .int .i64 y1.2.2.1), (6, .int .i64 y1.2.2.2), (7, .vl rn 1 (List.map encInt y2.1)), (8, .bool y2.2)]) (H0 := []) rfl (⟨_, _, rfl, rfl, _, _, rfl, rfl, _, _, rfl, rfl, _, _, rfl, rfl, _, _, rfl, rfl, _, _, rfl, rfl, _, _, rfl, rfl, rfl⟩) (rfl) rfl ?_
  refine V.seq ?_
  refine V.seq ?_
  replace hm0 := bindO hm0; rcases hm0 with ⟨y3, hh3, hm0⟩
  refine V.region ?_
  refine VO.cons rfl (V1.move rfl rfl rfl lt0 ?_)
  refine VO.cons rfl (V1.move rfl rfl rfl lt0 ?_)
  refine VO.cons rfl (V1.move rfl rfl rfl lt0 ?_)
  refine VO.cons rfl (V1.move rfl rfl rfl lt0 ?_)
  refine VO.cons rfl (V1.call rfl rfl rfl cok_9 rfl (ok_spec_ShortestPath hh3) rfl lt0 ?_)
  rintro _ _ ⟨b1, rfl, rfl⟩
  refine VO.cons rfl (V1.move rfl rfl rfl lt0 ?_)
  refine VO.cons rfl (V1.extract rfl rfl rfl rfl lt0 ?_)
  refine VO.weakenK (Keeps.freezeG 0 rn [(59, .vl rn 1 (List.map encInt y3.1))] ([]) (f := encInt) (l := y3.1) rfl (fun _ => rfl) ⟨⟨_, rfl, .here⟩, trivial⟩ rfl rfl iNil) ?_
  refine VO.cons rfl (V1.extract rfl rfl rfl rfl lt0 ?_)
  refine VO.cons rfl (V1.assign rfl rfl rfl lt0 ?_)
  refine VO.cons rfl (V1.assign rfl rfl rfl lt0 ?_)
  refine VO.nil ?_
  refine V.keep 242 [0, 3, 4, 5, 6, 7, 8, 9, 10] [] (E0 := [(0, .vl ρ0 1 (List.map encU8 code)), (3, .vl rn 4 (List.map (encFormat rn) y1.1)), (4, .int .i64 y1.2.1), (5, .int .i64 y1.2.2.1), (6, .int .i64 y1.2.2.2), (7, .vl rn 1 (List.map encInt y2.1)), (8, .bool y2.2), (9, .vl rn 1 (List.map encInt y3.1)), (10, .bool y3.2)]) (H0 := []) rfl (⟨_, _, rfl, rfl, _, _, rfl, rfl, _, _, rfl, rfl, _, _, rfl, rfl, _, _, rfl, rfl, _, _, rfl, rfl, _, _, rfl, rfl, _, _, rfl, rfl, _, _, rfl, rfl, rfl⟩) (rfl) rfl ?_
  refine V.seq ?_
  replace hm0 := bindO hm0; rcases hm0 with ⟨y4, hh4, hm0⟩
  refine V.region ?_
  refine VO.cons rfl (V1.move rfl rfl rfl lt0 ?_)
  refine VO.cons rfl (V1.move rfl rfl rfl lt0 ?_)
  refine VO.cons rfl (V1.boolNeq rfl rfl und_4 rfl rfl lt0 ?_)
  refine VO.cons rfl (V1.move rfl rfl rfl lt0 ?_)
  apply VO.or (n := 4) rfl rfl rfl rfl rfl rfl lt0 (.none rfl)
  ·
   intro hg0
   refine VO.step (.some rfl rfl rfl) (V1.move rfl rfl rfl lt0 ?_)
   refine VO.step (.some rfl rfl rfl) (V1.move rfl rfl rfl lt0 ?_)
   refine VO.step (.some rfl rfl rfl) (V1.call rfl rfl rfl cok_10 rfl (ok_laws_rInts (cond_f hg0 hh4)) rfl lt0 ?_)
   rintro _ _ ⟨rfl, rfl⟩
   refine VO.step (.some rfl rfl rfl) (V1.not rfl rfl rfl lt0 ?_)
   exact VO.nil ⟨rfl, rfl, rfl, rfl, .inr ⟨rfl, .inr ⟨rfl, .inr ⟨rfl, .inr ⟨rfl, .inr ⟨rfl, .inl rfl⟩⟩⟩⟩⟩⟩
  refine VO.nil ?_
  refine V.keep 242 [0, 3, 4, 5, 6, 7, 8, 69] [] (E0 := [(0, .vl ρ0 1 (List.map encU8 code)), (3, .vl rn 4 (List.map (encFormat rn) y1.1)), (4, .int .i64 y1.2.1), (5, .int .i64 y1.2.2.1), (6, .int .i64 y1.2.2.2), (7, .vl rn 1 (List.map encInt y2.1)), (8, .bool y2.2), (69, .bool ((!(y2.2 == y3.2)) || (!y4)))]) (H0 := []) rfl (⟨_, _, rfl, rfl, _, _, rfl, rfl, _, _, rfl, rfl, _, _, rfl, rfl, _, _, rfl, rfl, _, _, rfl, rfl, _, _, rfl, rfl, _, _, rfl, rfl, rfl⟩) (rfl) rfl ?_
  refine V.cond rfl (fun hc1 => ?_) (fun hc1 => ?_)
  ·
   replace hm0 := cond_t hc1 hm0
   refine V.seq ?_
   refine V.region ?_
   refine VO.cons rfl (V1.assign rfl rfl rfl lt0 ?_)
   refine VO.nil ?_
   refine V.ret ?_
   obtain rfl := Option.some.inj hm0
   exact ⟨_, [], ⟨_, _, rfl, rfl, rfl⟩, List.nil_sublist _, rfl, rfl⟩
  ·
   replace hm0 := cond_f hc1 hm0
   refine V.skip ?_
   refine V.seq ?_
   replace hm0 := bindO hm0; rcases hm0 with ⟨y5, hh5, hm0⟩
   refine V.region ?_
   refine VO.cons rfl (V1.move rfl rfl rfl lt0 ?_)
   refine VO.cons rfl (V1.move rfl rfl rfl lt0 ?_)
   refine VO.cons rfl (V1.move rfl rfl rfl lt0 ?_)
   refine VO.cons rfl (V1.permK (V1.call rfl rfl rfl cok_11 rfl (ok_impl_WaysTo hh5) rfl lt0 ?_))
   rintro _ _ ⟨ob0, hob0, rfl, rfl⟩
   refine ⟨_, ?_, Keeps.optBack (n := 1) (ob := ob0) (xs := List.map encInt y5.1) (H1 := []) (H2 := []) rfl⟩
   refine VO.cons rfl (V1.move rfl rfl rfl lt0 ?_)
   refine VO.cons rfl (V1.extract rfl rfl rfl rfl lt0 ?_)
   refine VO.weakenK (Keeps.optFront (n := 1) (ob := ob0) (xs := (List.map encInt y5.1)) (H1 := []) rfl) ?_
   refine VO.weakenK (Keeps.optVl 75 [] rn (f := encInt) (l := y5.1) (ob := ob0) (H1 := []) hob0 rfl rfl ⟨rfl, trivial⟩ (fun _ => rfl) rfl iNil) ?_
   refine VO.cons rfl (V1.extract rfl rfl rfl rfl lt0 ?_)
   refine VO.cons rfl (V1.assign rfl rfl rfl lt0 ?_)
   refine VO.cons rfl (V1.assign rfl rfl rfl lt0 ?_)
   refine VO.nil ?_
   refine V.keep 242 [0, 3, 4, 5, 6, 7, 8, 11, 12] [] (E0 := [(0, .vl ρ0 1 (List.map encU8 code)), (3, .vl rn 4 (List.map (encFormat rn) y1.1)), (4, .int .i64 y1.2.1), (5, .int .i64 y1.2.2.1), (6, .int .i64 y1.2.2.2), (7, .vl rn 1 (List.map encInt y2.1)), (8, .bool y2.2), (11, .vl rn 1 (List.map encInt y5.1)), (12, .bool y5.2)]) (H0 := []) rfl (⟨_, _, rfl, rfl, _, _, rfl, rfl, _, _, rfl, rfl, _, _, rfl, rfl, _, _, rfl, rfl, _, _, rfl, rfl, _, _, rfl, rfl, _, _, rfl, rfl, _, _, rfl, rfl, rfl⟩) (rfl) rfl ?_
   refine V.seq ?_
   refine V.seq ?_
   replace hm0 := bindO hm0; rcases hm0 with ⟨y6, hh6, hm0⟩
   refine V.region ?_
   refine VO.cons rfl (V1.move rfl rfl rfl lt0 ?_)
   refine VO.cons rfl (V1.move rfl rfl rfl lt0 ?_)
   refine VO.cons rfl (V1.move rfl rfl rfl lt0 ?_)
   refine VO.cons rfl (V1.call rfl rfl rfl cok_12 rfl (ok_spec_WaysTo hh6) rfl lt0 ?_)
   rintro _ _ ⟨rfl, rfl⟩
   refine VO.cons rfl (V1.move rfl rfl rfl lt0 ?_)
   refine VO.cons rfl (V1.extract rfl rfl rfl rfl lt0 ?_)
   refine VO.cons rfl (V1.extract rfl rfl rfl rfl lt0 ?_)
   refine VO.cons rfl (V1.assign rfl rfl rfl lt0 ?_)
   refine VO.cons rfl (V1.assign rfl rfl rfl lt0 ?_)
   refine VO.nil ?_
   refine V.keep 242 [0, 3, 4, 5, 6, 7, 8, 11, 12, 13, 14] [] (E0 := [(0, .vl ρ0 1 (List.map encU8 code)), (3, .vl rn 4 (List.map (encFormat rn) y1.1)), (4, .int .i64 y1.2.1), (5, .int .i64 y1.2.2.1), (6, .int .i64 y1.2.2.2), (7, .vl rn 1 (List.map encInt y2.1)), (8, .bool y2.2), (11, .vl rn 1 (List.map encInt y5.1)), (12, .bool y5.2), (13, .vl rn 1 (List.map encInt y6.1)), (14, .bool y6.2)]) (H0 := []) rfl (⟨_, _, rfl, rfl, _, _, rfl, rfl, _, _, rfl, rfl, _, _, rfl, rfl, _, _, rfl, rfl, _, _, rfl, rfl, _, _, rfl, rfl, _, _, rfl, rfl, _, _, rfl, rfl, _, _, rfl, rfl, _, _, rfl, rfl, rfl⟩) (rfl) rfl ?_
   refine V.seq ?_
   replace hm0 := bindO hm0; rcases hm0 with ⟨y7, hh7, hm0⟩
   replace hm0 := bindO hm0; rcases hm0 with ⟨y8, hh8, hm0⟩
   refine V.region ?_
   refine VO.cons rfl (V1.move rfl rfl rfl lt0 ?_)
   refine VO.cons rfl (V1.move rfl rfl rfl lt0 ?_)
   refine VO.cons rfl (V1.boolNeq rfl rfl und_4 rfl rfl lt0 ?_)
   refine VO.cons rfl (V1.move rfl rfl rfl lt0 ?_)
   apply VO.or (n := 4) rfl rfl rfl rfl rfl rfl lt0 (.none rfl)
   ·
    intro hg1
    refine VO.step (.some rfl rfl rfl) (V1.move rfl rfl rfl lt0 ?_)
    refine VO.step (.some rfl rfl rfl) (V1.move rfl rfl rfl lt0 ?_)
    refine VO.step (.some rfl rfl rfl) (V1.call rfl rfl rfl cok_10 rfl (ok_laws_rInts (cond_f hg1 hh7)) rfl lt0 ?_)
    rintro _ _ ⟨rfl, rfl⟩
    refine VO.step (.some rfl rfl rfl) (V1.not rfl rfl rfl lt0 ?_)
    exact VO.nil ⟨rfl, rfl, rfl, rfl, .inr ⟨rfl, .inr ⟨rfl, .inr ⟨rfl, .inr ⟨rfl, .inr ⟨rfl, .inl rfl⟩⟩⟩⟩⟩⟩
   refine VO.cons rfl (V1.move rfl rfl rfl lt0 ?_)
   apply VO.or (n := 8) rfl rfl rfl rfl rfl rfl lt0 (.none rfl)
   ·
    intro hg2
    refine VO.step (.some rfl rfl rfl) (V1.move rfl rfl rfl lt0 ?_)
    refine VO.step (.some rfl rfl rfl) (V1.move rfl rfl rfl lt0 ?_)
    refine VO.step (.some rfl rfl rfl) (V1.move rfl rfl rfl lt0 ?_)
    apply VO.and (n := 3) rfl rfl rfl rfl rfl rfl lt0 (.some rfl rfl rfl)
    ·
     intro hg3
     refine VO.step (.some rfl rfl rfl) (V1.move rfl rfl rfl lt0 ?_)
     refine VO.step (.some rfl rfl rfl) (V1.move rfl rfl rfl lt0 ?_)
     refine VO.step (.some rfl rfl rfl) (V1.call rfl rfl rfl cok_13 rfl (ok_laws_rHas (cond_t hg3 (cond_f hg2 hh8))) rfl lt0 ?_)
     rintro _ _ ⟨rfl, rfl⟩
     exact VO.nil ⟨rfl, rfl, rfl, rfl, .inr ⟨rfl, .inr ⟨rfl, .inr ⟨rfl, .inr ⟨rfl, .inl rfl⟩⟩⟩⟩⟩
    refine VO.step (.some rfl rfl rfl) (V1.boolNeq rfl rfl und_4 rfl rfl lt0 ?_)
    exact VO.nil ⟨rfl, rfl, rfl, rfl, .inr ⟨rfl, .inr ⟨rfl, .inr ⟨rfl, .inr ⟨rfl, .inr ⟨rfl, .inr ⟨rfl, .inl rfl⟩⟩⟩⟩⟩⟩⟩
   refine VO.nil ?_
   refine V.keep 242 [0, 3, 4, 6, 7, 11, 102] [] (E0 := [(0, .vl ρ0 1 (List.map encU8 code)), (3, .vl rn 4 (List.map (encFormat rn) y1.1)), (4, .int .i64 y1.2.1), (6, .int .i64 y1.2.2.2), (7, .vl rn 1 (List.map encInt y2.1)), (11, .vl rn 1 (List.map encInt y5.1)), (102, .bool (((!(y5.2 == y6.2)) || (!y7)) || (!(y2.2 == (y5.2 && y8)))))]) (H0 := []) rfl (⟨_, _, rfl, rfl, _, _, rfl, rfl, _, _, rfl, rfl, _, _, rfl, rfl, _, _, rfl, rfl, _, _, rfl, rfl, _, _, rfl, rfl, rfl⟩) (rfl) rfl ?_
   refine V.cond rfl (fun hc2 => ?_) (fun hc2 => ?_)
   ·
    replace hm0 := cond_t hc2 hm0
    refine V.seq ?_
    refine V.region ?_
    refine VO.cons rfl (V1.assign rfl rfl rfl lt0 ?_)
    refine VO.nil ?_
    refine V.ret ?_
    obtain rfl := Option.some.inj hm0
    exact ⟨_, [], ⟨_, _, rfl, rfl, rfl⟩, List.nil_sublist _, rfl, rfl⟩
   ·
    replace hm0 := cond_f hc2 hm0
    refine V.skip ?_
    refine V.seq ?_
    refine V.seq ?_
    refine V.region ?_
    refine VO.cons rfl (V1.assign rfl rfl rfl lt0 ?_)
    refine VO.nil ?_
    replace hm0 := bindO hm0; rcases hm0 with ⟨e0, he1, hm0⟩
    refine V.cutT (D := (Unit) × (Unit)) (fun ⟨_, _⟩ => ⟨242, [(0, .vl ρ0 1 (List.map encU8 code)), (3, .vl rn 4 (List.map (encFormat rn) y1.1)), (4, .int .i64 y1.2.1), (6, .int .i64 y1.2.2.2), (11, .vl rn 1 (List.map encInt y5.1))], []⟩) (fun ⟨_, _⟩ => (.inl () = e0)) ?_ ?_
    ·
     refine V.block ?_
     refine V.keep 242 [15, 0, 3, 4, 6, 7, 11] [] (E0 := [(15, .int .i64 (1 : Int)), (0, .vl ρ0 1 (List.map encU8 code)), (3, .vl rn 4 (List.map (encFormat rn) y1.1)), (4, .int .i64 y1.2.1), (6, .int .i64 y1.2.2.2), (7, .vl rn 1 (List.map encInt y2.1)), (11, .vl rn 1 (List.map encInt y5.1))]) (H0 := []) rfl (⟨_, _, rfl, rfl, _, _, rfl, rfl, _, _, rfl, rfl, _, _, rfl, rfl, _, _, rfl, rfl, _, _, rfl, rfl, _, _, rfl, rfl, rfl⟩) (rfl) rfl ?_
     refine V.loopE (D := Nat × (Int) × (Unit)) (fun ⟨n0, k, _⟩ => [(15, .int .i64 k)]) (fun ⟨n0, k, _⟩ => []) (fun ⟨n0, k, _⟩ => loopO (M.laws_FnPaths_l0 y1 y2) n0 k = some e0) (fun ⟨n0, _, _⟩ => n0) (rounds, (1 : Int), ()) rfl he1 ?_
     rintro ⟨n0, k, _⟩ hP0
     obtain ⟨m0, y9, rfl, hm1, hl1, hr1⟩ := loop_head hP0
     unfold M.laws_FnPaths_l0 at hm1; dsimp only at hm1
     show V _ _ _ ⟨242, [(15, .int .i64 k), (0, .vl ρ0 1 (List.map encU8 code)), (3, .vl rn 4 (List.map (encFormat rn) y1.1)), (4, .int .i64 y1.2.1), (6, .int .i64 y1.2.2.2), (7, .vl rn 1 (List.map encInt y2.1)), (11, .vl rn 1 (List.map encInt y5.1))], []⟩
     refine V.seq ?_
     refine V.seq ?_
     refine V.region ?_
     refine VO.cons rfl (V1.move rfl rfl rfl lt0 ?_)
     refine VO.cons rfl (V1.move rfl rfl rfl lt0 ?_)
     refine VO.cons rfl (V1.lenMap rfl rfl rfl rfl rfl rfl isl_27 lt0 ?_)
     refine VO.cons rfl (V1.int rfl rfl rfl rfl rfl lt0 ?_)
     refine VO.nil ?_
     refine V.cond rfl (fun hc3 => ?_) (fun hc3 => ?_)
     ·
      replace hm1 := cond_t hc3 hm1
      refine V.skip ?_
      refine V.keep 242 [0, 3, 4, 6, 7, 11, 15] [] (E0 := [(0, .vl ρ0 1 (List.map encU8 code)), (3, .vl rn 4 (List.map (encFormat rn) y1.1)), (4, .int .i64 y1.2.1), (6, .int .i64 y1.2.2.2), (7, .vl rn 1 (List.map encInt y2.1)), (11, .vl rn 1 (List.map encInt y5.1)), (15, .int .i64 k)]) (H0 := []) rfl (⟨_, _, rfl, rfl, _, _, rfl, rfl, _, _, rfl, rfl, _, _, rfl, rfl, _, _, rfl, rfl, _, _, rfl, rfl, _, _, rfl, rfl, rfl⟩) (rfl) rfl ?_
      refine V.seq ?_
      refine V.block ?_
      refine V.seq ?_
      refine V.region ?_
      refine VO.cons rfl (V1.assign rfl rfl rfl lt0 ?_)
      refine VO.nil ?_
      replace hm1 := bindO hm1; rcases hm1 with ⟨e1, he2, hm1⟩
      refine V.cutT (D := (Unit) × (Unit)) (fun ⟨_, _⟩ => ⟨242, [(0, .vl ρ0 1 (List.map encU8 code)), (3, .vl rn 4 (List.map (encFormat rn) y1.1)), (4, .int .i64 y1.2.1), (6, .int .i64 y1.2.2.2), (7, .vl rn 1 (List.map encInt y2.1)), (11, .vl rn 1 (List.map encInt y5.1)), (15, .int .i64 k)], []⟩) (fun ⟨_, _⟩ => (.inl () = e1)) ?_ ?_
      ·
       refine V.block ?_
       refine V.keep 242 [16, 0, 3, 4, 6, 7, 11, 15] [] (E0 := [(16, .int .i64 (0 : Int)), (0, .vl ρ0 1 (List.map encU8 code)), (3, .vl rn 4 (List.map (encFormat rn) y1.1)), (4, .int .i64 y1.2.1), (6, .int .i64 y1.2.2.2), (7, .vl rn 1 (List.map encInt y2.1)), (11, .vl rn 1 (List.map encInt y5.1)), (15, .int .i64 k)]) (H0 := []) rfl (⟨_, _, rfl, rfl, _, _, rfl, rfl, _, _, rfl, rfl, _, _, rfl, rfl, _, _, rfl, rfl, _, _, rfl, rfl, _, _, rfl, rfl, _, _, rfl, rfl, rfl⟩) (rfl) rfl ?_
       refine V.loopE (D := Nat × (Int) × (Unit)) (fun ⟨n1, i, _⟩ => [(16, .int .i64 i)]) (fun ⟨n1, i, _⟩ => []) (fun ⟨n1, i, _⟩ => loopO (M.laws_FnPaths_l1 y1 y2 k) n1 i = some e1) (fun ⟨n1, _, _⟩ => n1) (rounds, (0 : Int), ()) rfl he2 ?_
       rintro ⟨n1, i, _⟩ hP1
       obtain ⟨m1, y10, rfl, hm2, hl2, hr2⟩ := loop_head hP1
       unfold M.laws_FnPaths_l1 at hm2; dsimp only at hm2
       show V _ _ _ ⟨242, [(16, .int .i64 i), (0, .vl ρ0 1 (List.map encU8 code)), (3, .vl rn 4 (List.map (encFormat rn) y1.1)), (4, .int .i64 y1.2.1), (6, .int .i64 y1.2.2.2), (7, .vl rn 1 (List.map encInt y2.1)), (11, .vl rn 1 (List.map encInt y5.1)), (15, .int .i64 k)], []⟩
       refine V.seq ?_
       refine V.seq ?_
       refine V.region ?_
       refine VO.cons rfl (V1.move rfl rfl rfl lt0 ?_)
       refine VO.cons rfl (V1.move rfl rfl rfl lt0 ?_)
       refine VO.cons rfl (V1.lenMap rfl rfl rfl rfl rfl rfl isl_24 lt0 ?_)
       refine VO.cons rfl (V1.int rfl rfl rfl rfl rfl lt0 ?_)
       refine VO.nil ?_
       refine V.cond rfl (fun hc4 => ?_) (fun hc4 => ?_)
       ·
        replace hm2 := cond_t hc4 hm2
        refine V.skip ?_
        refine V.keep 242 [0, 3, 4, 6, 7, 11, 15, 16] [] (E0 := [(0, .vl ρ0 1 (List.map encU8 code)), (3, .vl rn 4 (List.map (encFormat rn) y1.1)), (4, .int .i64 y1.2.1), (6, .int .i64 y1.2.2.2), (7, .vl rn 1 (List.map encInt y2.1)), (11, .vl rn 1 (List.map encInt y5.1)), (15, .int .i64 k), (16, .int .i64 i)]) (H0 := []) rfl (⟨_, _, rfl, rfl, _, _, rfl, rfl, _, _, rfl, rfl, _, _, rfl, rfl, _, _, rfl, rfl, _, _, rfl, rfl, _, _, rfl, rfl, _, _, rfl, rfl, rfl⟩) (rfl) rfl ?_
        refine V.seq ?_
        refine V.block ?_
        refine V.seq ?_
        replace hm2 := asrt_some hm2; rcases hm2 with ⟨hh9, hm2⟩
        replace hm2 := asrt_some hm2; rcases hm2 with ⟨hh10, hm2⟩
        replace hm2 := asrt_some hm2; rcases hm2 with ⟨hh11, hm2⟩
        replace hm2 := asrt_some hm2; rcases hm2 with ⟨hh12, hm2⟩
        replace hm2 := bindO hm2; rcases hm2 with ⟨y11, hh13, hm2⟩
        replace hm2 := asrt_some hm2; rcases hm2 with ⟨hh14, hm2⟩
        refine V.regionM 242 33 [⟨[(3, none)], [], none⟩, ⟨[(16, none)], [], none⟩, ⟨[(115, some 1), (116, some 0)], [], none⟩, ⟨[(117, some 0)], [], none⟩, ⟨[(118, some 0)], [], none⟩, ⟨[(7, none)], [], none⟩, ⟨[(15, none)], [], none⟩, ⟨[(120, some 1), (121, some 0)], [], none⟩, ⟨[(122, some 0)], [], none⟩, ⟨[(119, some 4), (123, some 0)], [], none⟩, ⟨[(124, some 0)], [], none⟩, ⟨[(3, none)], [(0, true)], none⟩, ⟨[(16, none)], [(1, true)], none⟩, ⟨[(126, some 1), (127, some 0)], [(2, true)], none⟩, ⟨[(128, some 0)], [(3, true)], none⟩, ⟨[(129, some 0)], [(4, true)], none⟩, ⟨[(7, none)], [(5, true)], none⟩, ⟨[(15, none)], [(6, true)], none⟩, ⟨[(132, some 0)], [(7, true)], none⟩, ⟨[(131, some 2), (133, some 0)], [(8, true)], none⟩, ⟨[(134, some 0)], [(9, true)], none⟩, ⟨[(130, some 5), (135, some 0)], [(10, true)], none⟩, ⟨[(136, some 0)], [(11, true)], none⟩, ⟨[(137, some 0)], [(12, true)], none⟩, ⟨[(3, none)], [(0, false), (13, true)], none⟩, ⟨[(16, none)], [(1, false), (14, true)], none⟩, ⟨[(139, some 1), (140, some 0)], [(2, false), (15, true)], none⟩, ⟨[(141, some 0)], [(3, false), (16, true)], none⟩, ⟨[(142, some 0)], [(4, false), (17, true)], none⟩, ⟨[(6, none)], [(5, false), (18, true)], none⟩, ⟨[(143, some 1), (144, some 0)], [(6, false), (19, true)], none⟩, ⟨[], [(20, true)], some (false, 138, 145, 7, 0)⟩, ⟨[], [], some (true, 125, 146, 21, 0)⟩] [(0, none), (3, none), (4, none), (6, none), (7, none), (11, none), (15, none), (16, none), (147, some 0)] (⟨_, rfl, ⟨_, rfl, ⟨_, rfl, ⟨_, rfl, ⟨_, rfl, ⟨_, rfl, ⟨_, rfl, ⟨_, rfl, ⟨_, rfl, ⟨_, rfl, ⟨_, rfl, ⟨_, rfl, ⟨_, rfl, ⟨_, rfl, ⟨_, rfl, ⟨_, rfl, ⟨_, rfl, ⟨_, rfl, ⟨_, rfl, ⟨_, rfl, ⟨_, rfl, ⟨_, rfl, ⟨_, rfl, ⟨_, rfl, ⟨_, rfl, ⟨_, rfl, ⟨_, rfl, ⟨_, rfl, ⟨_, rfl, ⟨_, rfl, ⟨_, rfl, ⟨_, rfl, ⟨_, rfl, ⟨rfl, rfl⟩⟩⟩⟩⟩⟩⟩⟩⟩⟩⟩⟩⟩⟩⟩⟩⟩⟩⟩⟩⟩⟩⟩⟩⟩⟩⟩⟩⟩⟩⟩⟩⟩⟩) mixed_orders rfl (by decide +kernel) (fun hck18 => ?_)
        refine VP.step (p := ?pv882) rfl rfl rfl (⟨_, _, rfl, rfl, rfl⟩) ?hv882 ?rest882 hck18
        case hv882 =>
         intro E1
         refine (V1.move rfl rfl rfl lt0 ?_)
         exact rfl
        refine VP.step (p := ?pv883) rfl rfl rfl (⟨_, _, rfl, rfl, rfl⟩) ?hv883 ?rest883 hck18
        case hv883 =>
         intro E1
         refine (V1.move rfl rfl rfl lt0 ?_)
         exact rfl
        refine VP.step (p := ?pv884) rfl rfl rfl (⟨_, _, rfl, rfl, _, _, rfl, rfl, rfl⟩) ?hv884 ?rest884 hck18
        case hv884 =>
         intro E1
         refine (V1.indexI rfl rfl esz_24 rfl rfl hh9 lt0 ?_)
         exact rfl
        refine VP.step (p := ?pv885) rfl rfl rfl (⟨_, _, rfl, rfl, rfl⟩) ?hv885 ?rest885 hck18
        case hv885 =>
         intro E1
         refine (V1.fieldPin rfl rfl fo_34_0 rfl lt0 ?_)
         exact rfl
        refine VP.step (p := ?pv886) rfl rfl rfl (⟨_, _, rfl, rfl, rfl⟩) ?hv886 ?rest886 hck18
        case hv886 =>
         intro E1
         refine (V1.loadPin rfl rfl tyk_3 rfl rfl lt0 ?_)
         exact rfl
        refine VP.step (p := ?pv887) rfl rfl rfl (⟨_, _, rfl, rfl, rfl⟩) ?hv887 ?rest887 hck18
        case hv887 =>
         intro E1
         refine (V1.move rfl rfl rfl lt0 ?_)
         exact rfl
        refine VP.step (p := ?pv888) rfl rfl rfl (⟨_, _, rfl, rfl, rfl⟩) ?hv888 ?rest888 hck18
        case hv888 =>
         intro E1
         refine (V1.move rfl rfl rfl lt0 ?_)
         exact rfl
        refine VP.step (p := ?pv889) rfl rfl rfl (⟨_, _, rfl, rfl, _, _, rfl, rfl, rfl⟩) ?hv889 ?rest889 hck18
        case hv889 =>
         intro E1
         refine (V1.indexI rfl rfl esz_27 rfl rfl hh10 lt0 ?_)
         exact rfl
        refine VP.step (p := ?pv890) rfl rfl rfl (⟨_, _, rfl, rfl, rfl⟩) ?hv890 ?rest890 hck18
        case hv890 =>
         intro E1
         refine (V1.loadPin rfl rfl tyk_3 rfl rfl lt0 ?_)
         exact rfl
        refine VP.step (p := ?pv891) rfl rfl rfl (⟨_, _, rfl, rfl, _, _, rfl, rfl, rfl⟩) ?hv891 ?rest891 hck18
        case hv891 =>
         intro E1
         refine (V1.int rfl rfl rfl rfl rfl lt0 ?_)
         exact rfl
        refine VP.step (p := ?pv892) rfl rfl rfl (⟨_, _, rfl, rfl, rfl⟩) ?hv892 ?rest892 hck18
        case hv892 =>
         intro E1
         refine (V1.move rfl rfl rfl lt0 ?_)
         exact rfl
        refine VP.step (p := ?pv893) rfl rfl rfl (⟨_, _, rfl, rfl, rfl⟩) ?hv893 ?rest893 hck18
        case hv893 =>
         refine ⟨_, rfl, fun hg4 => ?_⟩
         intro E1
         refine (V1.move rfl rfl rfl lt0 ?_)
         exact rfl
        refine VP.step (p := ?pv894) rfl rfl rfl (⟨_, _, rfl, rfl, rfl⟩) ?hv894 ?rest894 hck18
        case hv894 =>
         refine ⟨_, rfl, fun hg4 => ?_⟩
         intro E1
         refine (V1.move rfl rfl rfl lt0 ?_)
         exact rfl
        refine VP.step (p := ?pv895) rfl rfl rfl (⟨_, _, rfl, rfl, _, _, rfl, rfl, rfl⟩) ?hv895 ?rest895 hck18
        case hv895 =>
         refine ⟨_, rfl, fun hg4 => ?_⟩
         intro E1
         refine (V1.indexI rfl rfl esz_24 rfl rfl (hh11 hg4) lt0 ?_)
         exact rfl
        refine VP.step (p := ?pv896) rfl rfl rfl (⟨_, _, rfl, rfl, rfl⟩) ?hv896 ?rest896 hck18
        case hv896 =>
         refine ⟨_, rfl, fun hg4 => ?_⟩
         intro E1
         refine (V1.fieldPin rfl rfl fo_34_3 rfl lt0 ?_)
         exact rfl
        refine VP.step (p := ?pv897) rfl rfl rfl (⟨_, _, rfl, rfl, rfl⟩) ?hv897 ?rest897 hck18
        case hv897 =>
         refine ⟨_, rfl, fun hg4 => ?_⟩
         intro E1
         refine (V1.loadPin rfl rfl tyk_27 rfl rfl lt0 ?_)
         exact rfl
        refine VP.step (p := ?pv898) rfl rfl rfl (⟨_, _, rfl, rfl, rfl⟩) ?hv898 ?rest898 hck18
        case hv898 =>
         refine ⟨_, rfl, fun hg4 => ?_⟩
         intro E1
         refine (V1.move rfl rfl rfl lt0 ?_)
         exact rfl
        refine VP.step (p := ?pv899) rfl rfl rfl (⟨_, _, rfl, rfl, rfl⟩) ?hv899 ?rest899 hck18
        case hv899 =>
         refine ⟨_, rfl, fun hg4 => ?_⟩
         intro E1
         refine (V1.move rfl rfl rfl lt0 ?_)
         exact rfl
        refine VP.step (p := ?pv900) rfl rfl rfl (⟨_, _, rfl, rfl, rfl⟩) ?hv900 ?rest900 hck18
        case hv900 =>
         refine ⟨_, rfl, fun hg4 => ?_⟩
         intro E1
         refine (V1.int rfl rfl rfl rfl rfl lt0 ?_)
         exact rfl
        refine VP.step (p := ?pv901) rfl rfl rfl (⟨_, _, rfl, rfl, _, _, rfl, rfl, rfl⟩) ?hv901 ?rest901 hck18
        case hv901 =>
         refine ⟨_, rfl, fun hg4 => ?_⟩
         intro E1
         refine (V1.indexI rfl rfl esz_27 rfl rfl (hh12 hg4) lt0 ?_)
         exact rfl
        refine VP.step (p := ?pv902) rfl rfl rfl (⟨_, _, rfl, rfl, rfl⟩) ?hv902 ?rest902 hck18
        case hv902 =>
         refine ⟨_, rfl, fun hg4 => ?_⟩
         intro E1
         refine (V1.loadPin rfl rfl tyk_3 rfl rfl lt0 ?_)
         exact rfl
        refine VP.step (p := ?pv903) rfl rfl rfl (⟨_, _, rfl, rfl, _, _, rfl, rfl, rfl⟩) ?hv903 ?rest903 hck18
        case hv903 =>
         refine ⟨_, rfl, fun hg4 => ?_⟩
         intro E1
         refine (V1.call rfl rfl rfl cok_13 rfl (ok_laws_rHas (cond_t hg4 hh13)) rfl lt0 ?_)
         rintro _ _ ⟨rfl, rfl⟩
         exact rfl
        refine VP.step (p := ?pv905) rfl rfl rfl (⟨_, _, rfl, rfl, rfl⟩) ?hv905 ?rest905 hck18
        case hv905 =>
         refine ⟨_, rfl, fun hg4 => ?_⟩
         intro E1
         refine (V1.not rfl rfl rfl lt0 ?_)
         exact rfl
        refine VP.step (p := ?pv906) rfl rfl rfl (⟨_, _, rfl, rfl, rfl⟩) ?hv906 ?rest906 hck18
        case hv906 =>
         refine ⟨_, rfl, fun hg4 => ?_⟩
         intro E1
         refine (V1.move rfl rfl rfl lt0 ?_)
         exact rfl
        refine VP.step (p := ?pv907) rfl rfl rfl (⟨_, _, rfl, rfl, rfl⟩) ?hv907 ?rest907 hck18
        case hv907 =>
         refine ⟨_, rfl, fun hg5 => ?_⟩
         refine ⟨_, rfl, fun hg4 => ?_⟩
         intro E1
         refine (V1.move rfl rfl rfl lt0 ?_)
         exact rfl
        refine VP.step (p := ?pv908) rfl rfl rfl (⟨_, _, rfl, rfl, rfl⟩) ?hv908 ?rest908 hck18
        case hv908 =>
         refine ⟨_, rfl, fun hg5 => ?_⟩
         refine ⟨_, rfl, fun hg4 => ?_⟩
         intro E1
         refine (V1.move rfl rfl rfl lt0 ?_)
         exact rfl
        refine VP.step (p := ?pv909) rfl rfl rfl (⟨_, _, rfl, rfl, _, _, rfl, rfl, rfl⟩) ?hv909 ?rest909 hck18
        case hv909 =>
         refine ⟨_, rfl, fun hg5 => ?_⟩
         refine ⟨_, rfl, fun hg4 => ?_⟩
         intro E1
         refine (V1.indexI rfl rfl esz_24 rfl rfl (hh14 hg4 hg5) lt0 ?_)
         exact rfl
        refine VP.step (p := ?pv910) rfl rfl rfl (⟨_, _, rfl, rfl, rfl⟩) ?hv910 ?rest910 hck18
        case hv910 =>
         refine ⟨_, rfl, fun hg5 => ?_⟩
         refine ⟨_, rfl, fun hg4 => ?_⟩
         intro E1
         refine (V1.fieldPin rfl rfl fo_34_2 rfl lt0 ?_)
         exact rfl
        refine VP.step (p := ?pv911) rfl rfl rfl (⟨_, _, rfl, rfl, rfl⟩) ?hv911 ?rest911 hck18
        case hv911 =>
         refine ⟨_, rfl, fun hg5 => ?_⟩
         refine ⟨_, rfl, fun hg4 => ?_⟩
         intro E1
         refine (V1.loadPin rfl rfl tyk_3 rfl rfl lt0 ?_)
         exact rfl
        refine VP.step (p := ?pv912) rfl rfl rfl (⟨_, _, rfl, rfl, rfl⟩) ?hv912 ?rest912 hck18
        case hv912 =>
         refine ⟨_, rfl, fun hg5 => ?_⟩
         refine ⟨_, rfl, fun hg4 => ?_⟩
         intro E1
         refine (V1.move rfl rfl rfl lt0 ?_)
         exact rfl
        refine VP.step (p := ?pv913) rfl rfl rfl (⟨_, _, rfl, rfl, _, _, rfl, rfl, rfl⟩) ?hv913 ?rest913 hck18
        case hv913 =>
         refine ⟨_, rfl, fun hg5 => ?_⟩
         refine ⟨_, rfl, fun hg4 => ?_⟩
         intro E1
         refine (V1.int rfl rfl rfl rfl rfl lt0 ?_)
         exact rfl
        refine VP.pickOr rfl rfl rfl rfl rfl rfl (⟨_, rfl, fun _ => trivial⟩) ?_ hck18
        refine VP.pickAnd rfl rfl rfl rfl rfl rfl (trivial) ?_ hck18
        refine VP.fin rfl (⟨_, _, rfl, rfl, _, _, rfl, rfl, _, _, rfl, rfl, _, _, rfl, rfl, _, _, rfl, rfl, _, _, rfl, rfl, _, _, rfl, rfl, _, _, rfl, rfl, _, _, rfl, rfl, rfl⟩) ?_
        refine VO.nil ?_
        refine V.cond rfl (fun hc5 => ?_) (fun hc5 => ?_)
        ·
         replace hm2 := cond_t hc5 hm2
         refine V.seq ?_
         refine V.region ?_
         refine VO.cons rfl (V1.assign rfl rfl rfl lt0 ?_)
         refine VO.nil ?_
         refine V.ret ?_
         obtain rfl := hr2 _ (Option.some.inj hm2).symm
         change some _ = some _ at hm1
         obtain rfl := hr1 _ (Option.some.inj hm1).symm
         change some _ = some _ at hm0
         obtain rfl := Option.some.inj hm0
         exact ⟨_, [], ⟨_, _, rfl, rfl, rfl⟩, List.nil_sublist _, rfl, rfl⟩
        ·
         replace hm2 := cond_f hc5 hm2
         refine V.skip ?_
         refine V.region ?_
         refine VO.cons rfl (V1.move rfl rfl rfl lt0 ?_)
         refine VO.cons rfl (V1.int rfl rfl rfl rfl rfl lt0 ?_)
         refine VO.cons rfl (V1.assign rfl rfl rfl lt0 ?_)
         refine VO.nil ?_
         exact ⟨(m1, (IntKind.i64.wrap (i + (1 : Int))), ()), hl2 _ (Option.some.inj hm2).symm, Nat.lt_succ_self _, Keeps.mk (ks := []) rfl ⟨rfl, rfl, rfl, rfl, rfl, rfl, rfl, rfl, trivial⟩ (rfl) rfl⟩
       ·
        replace hm2 := cond_f hc4 hm2
        refine V.exit ?_
        obtain rfl := hr2 _ (Option.some.inj hm2).symm
        exact ⟨((), ()), rfl, Keeps.mk (ks := []) rfl ⟨rfl, rfl, rfl, rfl, rfl, rfl, rfl, trivial⟩ (rfl) rfl⟩
      ·
       rintro ⟨_, _⟩ rfl
       try dsimp only at hm1
       refine V.region ?_
       refine VO.cons rfl (V1.move rfl rfl rfl lt0 ?_)
       refine VO.cons rfl (V1.int rfl rfl rfl rfl rfl lt0 ?_)
       refine VO.cons rfl (V1.assign rfl rfl rfl lt0 ?_)
       refine VO.nil ?_
       exact ⟨(m0, (IntKind.i64.wrap (k + (1 : Int))), ()), hl1 _ (Option.some.inj hm1).symm, Nat.lt_succ_self _, Keeps.mk (ks := []) rfl ⟨rfl, rfl, rfl, rfl, rfl, rfl, rfl, trivial⟩ (rfl) rfl⟩
     ·
      replace hm1 := cond_f hc3 hm1
      refine V.exit ?_
      obtain rfl := hr1 _ (Option.some.inj hm1).symm
      exact ⟨((), ()), rfl, Keeps.mk (ks := []) rfl ⟨rfl, rfl, rfl, rfl, rfl, trivial⟩ (rfl) rfl⟩
    ·
     rintro ⟨_, _⟩ rfl
     try dsimp only at hm0
     refine V.seq ?_
     refine V.seq ?_
     refine V.region ?_
     refine VO.cons rfl (V1.assign rfl rfl rfl lt0 ?_)
     refine VO.nil ?_
     replace hm0 := bindO hm0; rcases hm0 with ⟨e2, he1, hm0⟩
     refine V.cutT (D := (Unit) × (Unit)) (fun ⟨_, _⟩ => ⟨242, [(0, .vl ρ0 1 (List.map encU8 code))], []⟩) (fun ⟨_, _⟩ => (.inl () = e2)) ?_ ?_
     ·
      refine V.block ?_
      refine V.keep 242 [17, 0, 3, 4, 6, 11] [] (E0 := [(17, .int .i64 (0 : Int)), (0, .vl ρ0 1 (List.map encU8 code)), (3, .vl rn 4 (List.map (encFormat rn) y1.1)), (4, .int .i64 y1.2.1), (6, .int .i64 y1.2.2.2), (11, .vl rn 1 (List.map encInt y5.1))]) (H0 := []) rfl (⟨_, _, rfl, rfl, _, _, rfl, rfl, _, _, rfl, rfl, _, _, rfl, rfl, _, _, rfl, rfl, _, _, rfl, rfl, rfl⟩) (rfl) rfl ?_
      refine V.loopE (D := Nat × (Int) × (Unit)) (fun ⟨n2, i0, _⟩ => [(17, .int .i64 i0)]) (fun ⟨n2, i0, _⟩ => []) (fun ⟨n2, i0, _⟩ => loopO (M.laws_FnPaths_l2 y1 y5) n2 i0 = some e2) (fun ⟨n2, _, _⟩ => n2) (rounds, (0 : Int), ()) rfl he1 ?_
      rintro ⟨n2, i0, _⟩ hP2
      obtain ⟨m2, y12, rfl, hm1, hl1, hr1⟩ := loop_head hP2
      unfold M.laws_FnPaths_l2 at hm1; dsimp only at hm1
      show V _ _ _ ⟨242, [(17, .int .i64 i0), (0, .vl ρ0 1 (List.map encU8 code)), (3, .vl rn 4 (List.map (encFormat rn) y1.1)), (4, .int .i64 y1.2.1), (6, .int .i64 y1.2.2.2), (11, .vl rn 1 (List.map encInt y5.1))], []⟩
      refine V.seq ?_
      refine V.seq ?_
      refine V.region ?_
      refine VO.cons rfl (V1.move rfl rfl rfl lt0 ?_)
      refine VO.cons rfl (V1.move rfl rfl rfl lt0 ?_)
      refine VO.cons rfl (V1.lenMap rfl rfl rfl rfl rfl rfl isl_27 lt0 ?_)
      refine VO.cons rfl (V1.int rfl rfl rfl rfl rfl lt0 ?_)
      refine VO.nil ?_
      refine V.cond rfl (fun hc6 => ?_) (fun hc6 => ?_)
      ·
       replace hm1 := cond_t hc6 hm1
       refine V.skip ?_
       refine V.keep 242 [0, 3, 4, 6, 11, 17] [] (E0 := [(0, .vl ρ0 1 (List.map encU8 code)), (3, .vl rn 4 (List.map (encFormat rn) y1.1)), (4, .int .i64 y1.2.1), (6, .int .i64 y1.2.2.2), (11, .vl rn 1 (List.map encInt y5.1)), (17, .int .i64 i0)]) (H0 := []) rfl (⟨_, _, rfl, rfl, _, _, rfl, rfl, _, _, rfl, rfl, _, _, rfl, rfl, _, _, rfl, rfl, _, _, rfl, rfl, rfl⟩) (rfl) rfl ?_
       refine V.seq ?_
       refine V.block ?_
       refine V.seq ?_
       replace hm1 := asrt_some hm1; rcases hm1 with ⟨hh15, hm1⟩
       replace hm1 := bindO hm1; rcases hm1 with ⟨y13, hh16, hm1⟩
       refine V.region ?_
       refine VO.cons rfl (V1.move rfl rfl rfl lt0 ?_)
       refine VO.cons rfl (V1.move rfl rfl rfl lt0 ?_)
       refine VO.cons rfl (V1.move rfl rfl rfl lt0 ?_)
       refine VO.cons rfl (V1.move rfl rfl rfl lt0 ?_)
       refine VO.cons rfl (V1.indexI rfl rfl esz_27 rfl rfl hh15 lt0 ?_)
       refine VO.cons rfl (V1.loadPin rfl rfl tyk_3 rfl rfl lt0 ?_)
       refine VO.cons rfl (V1.move rfl rfl rfl lt0 ?_)
       refine VO.cons rfl (V1.call rfl rfl rfl cok_8 rfl (ok_impl_ShortestPath hh16) rfl lt0 ?_)
       rintro _ _ ⟨rfl, rfl⟩
       refine VO.cons rfl (V1.move rfl rfl rfl lt0 ?_)
       refine VO.cons rfl (V1.extract rfl rfl rfl rfl lt0 ?_)
       refine VO.cons rfl (V1.extract rfl rfl rfl rfl lt0 ?_)
       refine VO.cons rfl (V1.assign rfl rfl rfl lt0 ?_)
       refine VO.cons rfl (V1.assign rfl rfl rfl lt0 ?_)
       refine VO.nil ?_
       refine V.keep 242 [0, 3, 4, 6, 11, 17, 19] [] (E0 := [(0, .vl ρ0 1 (List.map encU8 code)), (3, .vl rn 4 (List.map (encFormat rn) y1.1)), (4, .int .i64 y1.2.1), (6, .int .i64 y1.2.2.2), (11, .vl rn 1 (List.map encInt y5.1)), (17, .int .i64 i0), (19, .bool y13.2)]) (H0 := []) rfl (⟨_, _, rfl, rfl, _, _, rfl, rfl, _, _, rfl, rfl, _, _, rfl, rfl, _, _, rfl, rfl, _, _, rfl, rfl, _, _, rfl, rfl, rfl⟩) (rfl) rfl ?_
       refine V.seq ?_
       refine V.region ?_
       refine VO.cons rfl (V1.move rfl rfl rfl lt0 ?_)
       refine VO.cons rfl (V1.not rfl rfl rfl lt0 ?_)
       refine VO.nil ?_
       refine V.cond rfl (fun hc7 => ?_) (fun hc7 => ?_)
       ·
        replace hm1 := cond_t hc7 hm1
        refine V.seq ?_
        refine V.region ?_
        refine VO.cons rfl (V1.assign rfl rfl rfl lt0 ?_)
        refine VO.nil ?_
        refine V.ret ?_
        obtain rfl := hr1 _ (Option.some.inj hm1).symm
        change some _ = some _ at hm0
        obtain rfl := Option.some.inj hm0
        exact ⟨_, [], ⟨_, _, rfl, rfl, rfl⟩, List.nil_sublist _, rfl, rfl⟩
       ·
        replace hm1 := cond_f hc7 hm1
        refine V.skip ?_
        refine V.region ?_
        refine VO.cons rfl (V1.move rfl rfl rfl lt0 ?_)
        refine VO.cons rfl (V1.int rfl rfl rfl rfl rfl lt0 ?_)
        refine VO.cons rfl (V1.assign rfl rfl rfl lt0 ?_)
        refine VO.nil ?_
        exact ⟨(m2, (IntKind.i64.wrap (i0 + (1 : Int))), ()), hl1 _ (Option.some.inj hm1).symm, Nat.lt_succ_self _, Keeps.mk (ks := []) rfl ⟨rfl, rfl, rfl, rfl, rfl, rfl, trivial⟩ (rfl) rfl⟩
      ·
       replace hm1 := cond_f hc6 hm1
       refine V.exit ?_
       obtain rfl := hr1 _ (Option.some.inj hm1).symm
       exact ⟨((), ()), rfl, Keeps.mk (ks := []) rfl ⟨rfl, trivial⟩ (rfl) rfl⟩
     ·
      rintro ⟨_, _⟩ rfl
      try dsimp only at hm0
      refine V.seq ?_
      replace hm0 := bindO hm0; rcases hm0 with ⟨y14, hh17, hm0⟩
      refine V.region ?_
      refine VO.cons rfl (V1.move rfl rfl rfl lt0 ?_)
      refine VO.cons rfl (V1.call rfl rfl rfl cok_14 rfl (ok_spec_DrawLongestLived hh17) rfl lt0 ?_)
      rintro _ _ ⟨b2, rfl, rfl⟩
      refine VO.cons rfl (V1.move rfl rfl rfl lt0 ?_)
      refine VO.cons rfl (V1.extract rfl rfl rfl rfl lt0 ?_)
      refine VO.weakenK (Keeps.freezeG 0 rn [(170, .vl rn 4 (List.map (encFormat rn) y14.1))] ([]) (f := (encFormat rn)) (l := y14.1) rfl (fun _ => rfl) ⟨⟨_, rfl, .here⟩, trivial⟩ rfl rfl iNil) ?_
      refine VO.cons rfl (V1.extract rfl rfl rfl rfl lt0 ?_)
      refine VO.cons rfl (V1.extract rfl rfl rfl rfl lt0 ?_)
      refine VO.cons rfl (V1.assign rfl rfl rfl lt0 ?_)
      refine VO.cons rfl (V1.assign rfl rfl rfl lt0 ?_)
      refine VO.cons rfl (V1.assign rfl rfl rfl lt0 ?_)
      refine VO.nil ?_
      refine V.keep 242 [0, 20, 21, 22] [] (E0 := [(0, .vl ρ0 1 (List.map encU8 code)), (20, .vl rn 4 (List.map (encFormat rn) y14.1)), (21, .int .i64 y14.2.1), (22, .int .i64 y14.2.2)]) (H0 := []) rfl (⟨_, _, rfl, rfl, _, _, rfl, rfl, _, _, rfl, rfl, _, _, rfl, rfl, rfl⟩) (rfl) rfl ?_
      refine V.seq ?_
      replace hm0 := bindO hm0; rcases hm0 with ⟨y15, hh18, hm0⟩
      refine V.region ?_
      refine VO.cons rfl (V1.move rfl rfl rfl lt0 ?_)
      refine VO.cons rfl (V1.move rfl rfl rfl lt0 ?_)
      refine VO.cons rfl (V1.move rfl rfl rfl lt0 ?_)
      refine VO.cons rfl (V1.call rfl rfl rfl cok_15 rfl (ok_impl_LongestLived hh18) rfl lt0 ?_)
      rintro _ _ ⟨rfl, rfl⟩
      refine VO.cons rfl (V1.move rfl rfl rfl lt0 ?_)
      refine VO.cons rfl (V1.extract rfl rfl rfl rfl lt0 ?_)
      refine VO.cons rfl (V1.extract rfl rfl rfl rfl lt0 ?_)
      refine VO.cons rfl (V1.assign rfl rfl rfl lt0 ?_)
      refine VO.cons rfl (V1.assign rfl rfl rfl lt0 ?_)
      refine VO.nil ?_
      refine V.keep 242 [0, 20, 21, 22, 23, 24] [] (E0 := [(0, .vl ρ0 1 (List.map encU8 code)), (20, .vl rn 4 (List.map (encFormat rn) y14.1)), (21, .int .i64 y14.2.1), (22, .int .i64 y14.2.2), (23, .int .i64 y15.1), (24, .bool y15.2)]) (H0 := []) rfl (⟨_, _, rfl, rfl, _, _, rfl, rfl, _, _, rfl, rfl, _, _, rfl, rfl, _, _, rfl, rfl, _, _, rfl, rfl, rfl⟩) (rfl) rfl ?_
      refine V.seq ?_
      refine V.seq ?_
      replace hm0 := bindO hm0; rcases hm0 with ⟨y16, hh19, hm0⟩
      refine V.region ?_
      refine VO.cons rfl (V1.move rfl rfl rfl lt0 ?_)
      refine VO.cons rfl (V1.move rfl rfl rfl lt0 ?_)
      refine VO.cons rfl (V1.move rfl rfl rfl lt0 ?_)
      refine VO.cons rfl (V1.call rfl rfl rfl cok_16 rfl (ok_spec_LongestLived hh19) rfl lt0 ?_)
      rintro _ _ ⟨rfl, rfl⟩
      refine VO.cons rfl (V1.move rfl rfl rfl lt0 ?_)
      refine VO.cons rfl (V1.extract rfl rfl rfl rfl lt0 ?_)
      refine VO.cons rfl (V1.extract rfl rfl rfl rfl lt0 ?_)
      refine VO.cons rfl (V1.assign rfl rfl rfl lt0 ?_)
      refine VO.cons rfl (V1.assign rfl rfl rfl lt0 ?_)
      refine VO.nil ?_
      refine V.keep 242 [0, 20, 21, 22, 23, 24, 25, 26] [] (E0 := [(0, .vl ρ0 1 (List.map encU8 code)), (20, .vl rn 4 (List.map (encFormat rn) y14.1)), (21, .int .i64 y14.2.1), (22, .int .i64 y14.2.2), (23, .int .i64 y15.1), (24, .bool y15.2), (25, .int .i64 y16.1), (26, .bool y16.2)]) (H0 := []) rfl (⟨_, _, rfl, rfl, _, _, rfl, rfl, _, _, rfl, rfl, _, _, rfl, rfl, _, _, rfl, rfl, _, _, rfl, rfl, _, _, rfl, rfl, _, _, rfl, rfl, rfl⟩) (rfl) rfl ?_
      refine V.seq ?_
      refine V.region ?_
      refine VO.cons rfl (V1.move rfl rfl rfl lt0 ?_)
      refine VO.cons rfl (V1.move rfl rfl rfl lt0 ?_)
      refine VO.cons rfl (V1.int rfl rfl rfl rfl rfl lt0 ?_)
      refine VO.cons rfl (V1.move rfl rfl rfl lt0 ?_)
      apply VO.or (n := 3) rfl rfl rfl rfl rfl rfl lt0 (.none rfl)
      ·
       intro hg6
       refine VO.step (.some rfl rfl rfl) (V1.move rfl rfl rfl lt0 ?_)
       refine VO.step (.some rfl rfl rfl) (V1.move rfl rfl rfl lt0 ?_)
       refine VO.step (.some rfl rfl rfl) (V1.boolNeq rfl rfl und_4 rfl rfl lt0 ?_)
       exact VO.nil ⟨rfl, rfl, rfl, rfl, .inr ⟨rfl, .inr ⟨rfl, .inr ⟨rfl, .inr ⟨rfl, .inl rfl⟩⟩⟩⟩⟩
      refine VO.nil ?_
      refine V.keep 242 [0, 20, 21, 22, 23, 24, 194] [] (E0 := [(0, .vl ρ0 1 (List.map encU8 code)), (20, .vl rn 4 (List.map (encFormat rn) y14.1)), (21, .int .i64 y14.2.1), (22, .int .i64 y14.2.2), (23, .int .i64 y15.1), (24, .bool y15.2), (194, .bool ((y15.1 != y16.1) || (!(y15.2 == y16.2))))]) (H0 := []) rfl (⟨_, _, rfl, rfl, _, _, rfl, rfl, _, _, rfl, rfl, _, _, rfl, rfl, _, _, rfl, rfl, _, _, rfl, rfl, _, _, rfl, rfl, rfl⟩) (rfl) rfl ?_
      refine V.cond rfl (fun hc8 => ?_) (fun hc8 => ?_)
      ·
       replace hm0 := cond_t hc8 hm0
       refine V.seq ?_
       refine V.region ?_
       refine VO.cons rfl (V1.assign rfl rfl rfl lt0 ?_)
       refine VO.nil ?_
       refine V.ret ?_
       obtain rfl := Option.some.inj hm0
       exact ⟨_, [], ⟨_, _, rfl, rfl, rfl⟩, List.nil_sublist _, rfl, rfl⟩
      ·
       replace hm0 := cond_f hc8 hm0
       refine V.skip ?_
       refine V.seq ?_
       replace hm0 := bindO hm0; rcases hm0 with ⟨y17, hh20, hm0⟩
       refine V.region ?_
       refine VO.cons rfl (V1.move rfl rfl rfl lt0 ?_)
       refine VO.cons rfl (V1.move rfl rfl rfl lt0 ?_)
       refine VO.cons rfl (V1.move rfl rfl rfl lt0 ?_)
       refine VO.cons rfl (V1.permK (V1.call rfl rfl rfl cok_11 rfl (ok_impl_WaysTo hh20) rfl lt0 ?_))
       rintro _ _ ⟨ob1, hob1, rfl, rfl⟩
       refine ⟨_, ?_, Keeps.optBack (n := 1) (ob := ob1) (xs := List.map encInt y17.1) (H1 := []) (H2 := []) rfl⟩
       refine VO.cons rfl (V1.move rfl rfl rfl lt0 ?_)
       refine VO.cons rfl (V1.extract rfl rfl rfl rfl lt0 ?_)
       refine VO.weakenK (Keeps.optFront (n := 1) (ob := ob1) (xs := (List.map encInt y17.1)) (H1 := []) rfl) ?_
       refine VO.weakenK (Keeps.optVl 200 [] rn (f := encInt) (l := y17.1) (ob := ob1) (H1 := []) hob1 rfl rfl ⟨rfl, trivial⟩ (fun _ => rfl) rfl iNil) ?_
       refine VO.cons rfl (V1.extract rfl rfl rfl rfl lt0 ?_)
       refine VO.cons rfl (V1.assign rfl rfl rfl lt0 ?_)
       refine VO.cons rfl (V1.assign rfl rfl rfl lt0 ?_)
       refine VO.nil ?_
       refine V.keep 242 [0, 23, 24, 27, 28] [] (E0 := [(0, .vl ρ0 1 (List.map encU8 code)), (23, .int .i64 y15.1), (24, .bool y15.2), (27, .vl rn 1 (List.map encInt y17.1)), (28, .bool y17.2)]) (H0 := []) rfl (⟨_, _, rfl, rfl, _, _, rfl, rfl, _, _, rfl, rfl, _, _, rfl, rfl, _, _, rfl, rfl, rfl⟩) (rfl) rfl ?_
       refine V.seq ?_
       refine V.seq ?_
       replace hm0 := bindO hm0; rcases hm0 with ⟨y18, hh21, hm0⟩
       refine V.region ?_
       refine VO.cons rfl (V1.move rfl rfl rfl lt0 ?_)
       refine VO.cons rfl (V1.move rfl rfl rfl lt0 ?_)
       refine VO.cons rfl (V1.boolNeq rfl rfl und_4 rfl rfl lt0 ?_)
       refine VO.cons rfl (V1.move rfl rfl rfl lt0 ?_)
       apply VO.or (n := 7) rfl rfl rfl rfl rfl rfl lt0 (.none rfl)
       ·
        intro hg7
        refine VO.step (.some rfl rfl rfl) (V1.move rfl rfl rfl lt0 ?_)
        refine VO.step (.some rfl rfl rfl) (V1.move rfl rfl rfl lt0 ?_)
        apply VO.and (n := 4) rfl rfl rfl rfl rfl rfl lt0 (.some rfl rfl rfl)
        ·
         intro hg8
         refine VO.step (.some rfl rfl rfl) (V1.move rfl rfl rfl lt0 ?_)
         refine VO.step (.some rfl rfl rfl) (V1.move rfl rfl rfl lt0 ?_)
         refine VO.step (.some rfl rfl rfl) (V1.call rfl rfl rfl cok_13 rfl (ok_laws_rHas (cond_t hg8 (cond_f hg7 hh21))) rfl lt0 ?_)
         rintro _ _ ⟨rfl, rfl⟩
         refine VO.step (.some rfl rfl rfl) (V1.not rfl rfl rfl lt0 ?_)
         exact VO.nil ⟨rfl, rfl, rfl, rfl, .inr ⟨rfl, .inr ⟨rfl, .inr ⟨rfl, .inr ⟨rfl, .inr ⟨rfl, .inl rfl⟩⟩⟩⟩⟩⟩
        exact VO.nil ⟨rfl, rfl, rfl, rfl, .inr ⟨rfl, .inr ⟨rfl, .inr ⟨rfl, .inr ⟨rfl, .inl rfl⟩⟩⟩⟩⟩
       refine VO.nil ?_
       refine V.keep 242 [0, 213] [] (E0 := [(0, .vl ρ0 1 (List.map encU8 code)), (213, .bool ((!(y17.2 == y15.2)) || (y15.2 && (!y18))))]) (H0 := []) rfl (⟨_, _, rfl, rfl, _, _, rfl, rfl, rfl⟩) (rfl) rfl ?_
       refine V.cond rfl (fun hc9 => ?_) (fun hc9 => ?_)
       ·
        replace hm0 := cond_t hc9 hm0
        refine V.seq ?_
        refine V.region ?_
        refine VO.cons rfl (V1.assign rfl rfl rfl lt0 ?_)
        refine VO.nil ?_
        refine V.ret ?_
        obtain rfl := Option.some.inj hm0
        exact ⟨_, [], ⟨_, _, rfl, rfl, rfl⟩, List.nil_sublist _, rfl, rfl⟩
       ·
        replace hm0 := cond_f hc9 hm0
        refine V.skip ?_
        refine V.seq ?_
        replace hm0 := bindO hm0; rcases hm0 with ⟨y19, hh22, hm0⟩
        refine V.region ?_
        refine VO.cons rfl (V1.move rfl rfl rfl lt0 ?_)
        refine VO.cons rfl (V1.call rfl rfl rfl cok_17 rfl (ok_spec_DrawIsReadable hh22) rfl lt0 ?_)
        rintro _ _ ⟨b3, rfl, rfl⟩
        refine VO.cons rfl (V1.move rfl rfl rfl lt0 ?_)
        refine VO.cons rfl (V1.extract rfl rfl rfl rfl lt0 ?_)
        refine VO.weakenK (Keeps.freezeG 0 rn [(217, .vl rn 4 (List.map (encFormat rn) y19.1))] ([]) (f := (encFormat rn)) (l := y19.1) rfl (fun _ => rfl) ⟨⟨_, rfl, .here⟩, trivial⟩ rfl rfl iNil) ?_
        refine VO.cons rfl (V1.extract rfl rfl rfl rfl lt0 ?_)
        refine VO.cons rfl (V1.extract rfl rfl rfl rfl lt0 ?_)
        refine VO.cons rfl (V1.assign rfl rfl rfl lt0 ?_)
        refine VO.cons rfl (V1.assign rfl rfl rfl lt0 ?_)
        refine VO.cons rfl (V1.assign rfl rfl rfl lt0 ?_)
        refine VO.nil ?_
        refine V.keep 242 [29, 30, 31] [] (E0 := [(29, .vl rn 4 (List.map (encFormat rn) y19.1)), (30, .int .i64 y19.2.1), (31, .int .i64 y19.2.2)]) (H0 := []) rfl (⟨_, _, rfl, rfl, _, _, rfl, rfl, _, _, rfl, rfl, rfl⟩) (rfl) rfl ?_
        refine V.seq ?_
        replace hm0 := bindO hm0; rcases hm0 with ⟨y20, hh23, hm0⟩
        refine V.region ?_
        refine VO.cons rfl (V1.move rfl rfl rfl lt0 ?_)
        refine VO.cons rfl (V1.move rfl rfl rfl lt0 ?_)
        refine VO.cons rfl (V1.move rfl rfl rfl lt0 ?_)
        refine VO.cons rfl (V1.call rfl rfl rfl cok_18 rfl (ok_impl_IsReadable hh23) rfl lt0 ?_)
        rintro _ _ ⟨rfl, rfl⟩
        refine VO.cons rfl (V1.move rfl rfl rfl lt0 ?_)
        refine VO.cons rfl (V1.extract rfl rfl rfl rfl lt0 ?_)
        refine VO.cons rfl (V1.extract rfl rfl rfl rfl lt0 ?_)
        refine VO.cons rfl (V1.assign rfl rfl rfl lt0 ?_)
        refine VO.cons rfl (V1.assign rfl rfl rfl lt0 ?_)
        refine VO.nil ?_
        refine V.keep 242 [29, 30, 31, 32, 33] [] (E0 := [(29, .vl rn 4 (List.map (encFormat rn) y19.1)), (30, .int .i64 y19.2.1), (31, .int .i64 y19.2.2), (32, .bool y20.1), (33, .bool y20.2)]) (H0 := []) rfl (⟨_, _, rfl, rfl, _, _, rfl, rfl, _, _, rfl, rfl, _, _, rfl, rfl, _, _, rfl, rfl, rfl⟩) (rfl) rfl ?_
        refine V.seq ?_
        replace hm0 := bindO hm0; rcases hm0 with ⟨y21, hh24, hm0⟩
        refine V.region ?_
        refine VO.cons rfl (V1.move rfl rfl rfl lt0 ?_)
        refine VO.cons rfl (V1.move rfl rfl rfl lt0 ?_)
        refine VO.cons rfl (V1.move rfl rfl rfl lt0 ?_)
        refine VO.cons rfl (V1.call rfl rfl rfl cok_19 rfl (ok_spec_IsReadable hh24) rfl lt0 ?_)
        rintro _ _ ⟨rfl, rfl⟩
        refine VO.cons rfl (V1.move rfl rfl rfl lt0 ?_)
        refine VO.cons rfl (V1.extract rfl rfl rfl rfl lt0 ?_)
        refine VO.cons rfl (V1.extract rfl rfl rfl rfl lt0 ?_)
        refine VO.cons rfl (V1.assign rfl rfl rfl lt0 ?_)
        refine VO.cons rfl (V1.assign rfl rfl rfl lt0 ?_)
        refine VO.nil ?_
        refine V.keep 242 [32, 33, 34, 35] [] (E0 := [(32, .bool y20.1), (33, .bool y20.2), (34, .bool y21.1), (35, .bool y21.2)]) (H0 := []) rfl (⟨_, _, rfl, rfl, _, _, rfl, rfl, _, _, rfl, rfl, _, _, rfl, rfl, rfl⟩) (rfl) rfl ?_
        refine V.seq ?_
        refine V.region ?_
        refine VO.cons rfl (V1.move rfl rfl rfl lt0 ?_)
        refine VO.cons rfl (V1.move rfl rfl rfl lt0 ?_)
        refine VO.cons rfl (V1.boolEql rfl rfl und_4 rfl rfl lt0 ?_)
        refine VO.cons rfl (V1.move rfl rfl rfl lt0 ?_)
        apply VO.and (n := 3) rfl rfl rfl rfl rfl rfl lt0 (.none rfl)
        ·
         intro hg9
         refine VO.step (.some rfl rfl rfl) (V1.move rfl rfl rfl lt0 ?_)
         refine VO.step (.some rfl rfl rfl) (V1.move rfl rfl rfl lt0 ?_)
         refine VO.step (.some rfl rfl rfl) (V1.boolEql rfl rfl und_4 rfl rfl lt0 ?_)
         exact VO.nil ⟨rfl, rfl, rfl, rfl, .inr ⟨rfl, .inr ⟨rfl, .inr ⟨rfl, .inr ⟨rfl, .inl rfl⟩⟩⟩⟩⟩
        refine VO.cons rfl (V1.assign rfl rfl rfl lt0 ?_)
        refine VO.nil ?_
        refine V.ret ?_
        obtain rfl := Option.some.inj hm0
        exact ⟨_, [], ⟨_, _, rfl, rfl, rfl⟩, List.nil_sublist _, rfl, rfl⟩
end Go.Proofs.YteocnbeefedbkaaDoor
