/- the functions do what their models say -/
import Derived.Test.YthfndefhmmfjaaaQh2
set_option linter.unusedSimpArgs false
set_option linter.unusedVariables false
set_option maxRecDepth 100000
set_option maxHeartbeats 4000000
namespace Go.Proofs.Ythfndefhmmfjaaa
open Go.VS

theorem ok_spec_PullList {ρ0 σ0 ρ1 rn : Nat} {list : List Carton} {files : List Int} {r : List Int × Bool} (h : M.spec_PullList list files = some r) : Does Try.prog 27 [.vl ρ0 5 (List.map (encCarton σ0) list), .vl ρ1 1 (List.map encInt files)] [] rn (fun x H => ∃ (ob0_ : Nat), x = .tup [PV.sref ob0_ 1 0 (List.length r.1), .bool r.2] ∧ H = [(ob0_, ⟨1, List.map encInt r.1⟩)]) := by
 have hm0 := h; clear h; unfold M.spec_PullList at hm0
 try dsimp only at hm0
 refine Does.intro (N := 90) Try.func27 rfl rfl rfl rfl ?_
 intro w0 S0
 refine V.seq ?_
 refine V.region ?_
 refine VO.cons rfl (V1.assign rfl rfl rfl (ltb rfl) ?_)
 refine VO.cons rfl (V1.assign rfl rfl rfl (ltb rfl) ?_)
 refine VO.nil ?_
 refine V.seq ?_
 refine V.region ?_
 refine VO.cons rfl (V1.buildSliceT (f := encInt) ([] : List Int) rfl rfl esz_38 zk_3 rfl rfl rfl rfl rfl rfl rfl (ltb rfl) ?_)
 intro b0
 refine VO.cons rfl (V1.assign rfl rfl rfl (ltb rfl) ?_)
 refine VO.nil ?_
 refine V.seq ?_
 refine V.seq ?_
 replace hm0 := bindO hm0; rcases hm0 with ⟨y0, hh0, hm0⟩
 replace hm0 := bindO hm0; rcases hm0 with ⟨y1, hh1, hm0⟩
 replace hm0 := bindO hm0; rcases hm0 with ⟨y2, hh2, hm0⟩
 refine V.region ?_
 refine VO.cons rfl (V1.move rfl rfl rfl (ltb rfl) ?_)
 refine VO.cons rfl (V1.call rfl rfl rfl cok_69 rfl (ok_spec_l18Good hh0) rfl (ltb rfl) ?_)
 rintro _ _ ⟨rfl, rfl⟩
 refine VO.cons rfl (V1.not rfl rfl rfl (ltb rfl) ?_)
 refine VO.cons rfl (V1.move rfl rfl rfl (ltb rfl) ?_)
 apply VO.or (n := 4) rfl rfl rfl rfl rfl rfl (ltb rfl) (.none rfl)
 ·
  intro hg0
  refine VO.step (.some rfl rfl rfl) (V1.move rfl rfl rfl (ltb rfl) ?_)
  refine VO.step (.some rfl rfl rfl) (V1.lenMap rfl rfl rfl rfl rfl rfl isl_38 (ltb rfl) ?_)
  refine VO.step (.some rfl rfl rfl) (V1.call rfl rfl rfl cok_84 rfl (ok_spec_l1In (cond_f hg0 hh1)) rfl (ltb rfl) ?_)
  rintro _ _ ⟨rfl, rfl⟩
  refine VO.step (.some rfl rfl rfl) (V1.not rfl rfl rfl (ltb rfl) ?_)
  exact VO.nil ⟨rfl, rfl, rfl, rfl, .inr ⟨rfl, .inr ⟨rfl, .inr ⟨rfl, .inr ⟨rfl, .inr ⟨rfl, .inl rfl⟩⟩⟩⟩⟩⟩
 refine VO.cons rfl (V1.move rfl rfl rfl (ltb rfl) ?_)
 apply VO.or (n := 3) rfl rfl rfl rfl rfl rfl (ltb rfl) (.none rfl)
 ·
  intro hg1
  refine VO.step (.some rfl rfl rfl) (V1.move rfl rfl rfl (ltb rfl) ?_)
  refine VO.step (.some rfl rfl rfl) (V1.call rfl rfl rfl cok_92 rfl (ok_spec_l1Rising (cond_f hg1 hh2)) rfl (ltb rfl) ?_)
  rintro _ _ ⟨rfl, rfl⟩
  refine VO.step (.some rfl rfl rfl) (V1.not rfl rfl rfl (ltb rfl) ?_)
  exact VO.nil ⟨rfl, rfl, rfl, rfl, .inr ⟨rfl, .inr ⟨rfl, .inr ⟨rfl, .inr ⟨rfl, .inl rfl⟩⟩⟩⟩⟩
 refine VO.nil ?_
 refine V.keep 90 [0, 1, 6, 28] [0] (E0 := [(0, .vl ρ0 5 (List.map (encCarton σ0) list)), (1, .vl ρ1 1 (List.map encInt files)), (6, .sref b0 1 0 (List.length ([] : List Int))), (28, .bool (((!y0) || (!y1)) || (!y2)))]) (H0 := [(b0, ⟨1, List.map encInt ([] : List Int)⟩)]) rfl (⟨_, _, rfl, rfl, ⟨_, _, rfl, rfl, ⟨_, _, rfl, rfl, ⟨_, _, rfl, rfl, rfl⟩⟩⟩⟩) (⟨_, _, rfl, rfl, rfl⟩) rfl ?_
 refine V.cond rfl (fun hc0 => ?_) (fun hc0 => ?_)
 ·
  replace hm0 := cond_t hc0 hm0
  refine V.seq ?_
  refine V.region ?_
  refine VO.cons rfl (V1.move rfl rfl rfl (ltb rfl) ?_)
  refine VO.cons rfl (V1.assign rfl rfl rfl (ltb rfl) ?_)
  refine VO.cons rfl (V1.assign rfl rfl rfl (ltb rfl) ?_)
  refine VO.nil ?_
  refine V.keep 90 [4, 5] [0] (E0 := [(4, .sref b0 1 0 (List.length ([] : List Int))), (5, .bool false)]) (H0 := [(b0, ⟨1, List.map encInt ([] : List Int)⟩)]) rfl (⟨_, _, rfl, rfl, ⟨_, _, rfl, rfl, rfl⟩⟩) (⟨_, _, rfl, rfl, rfl⟩) rfl ?_
  refine V.ret ?_
  obtain rfl := Option.some.inj hm0
  exact ⟨_, _, ⟨_, _, rfl, rfl, ⟨_, _, rfl, rfl, rfl⟩⟩, List.Sublist.refl _, b0, rfl, rfl⟩
 ·
  replace hm0 := cond_f hc0 hm0
  refine V.skip ?_
  refine V.seq ?_
  refine V.region ?_
  refine VO.cons rfl (V1.buildSliceT (f := encInt) ([] : List Int) rfl rfl esz_38 zk_3 rfl rfl rfl rfl rfl rfl rfl (ltb rfl) ?_)
  intro b1
  refine VO.cons rfl (V1.assign rfl rfl rfl (ltb rfl) ?_)
  refine VO.nil ?_
  refine V.seq ?_
  refine V.seq ?_
  refine V.region ?_
  refine VO.cons rfl (V1.assign rfl rfl rfl (ltb rfl) ?_)
  refine VO.nil ?_
  replace hm0 := bindO hm0; rcases hm0 with ⟨e0, he1, hm0⟩
  refine V.cutT (D := (List Int) × (Unit)) (fun ⟨some_, _⟩ => ⟨90, [(7, .vl rn 1 (List.map encInt some_)), (0, .vl ρ0 5 (List.map (encCarton σ0) list)), (6, .sref b0 1 0 (List.length ([] : List Int)))], [(b0, ⟨1, List.map encInt ([] : List Int)⟩)]⟩) (fun ⟨some_, _⟩ => (.inl some_ = e0)) ?_ ?_
  ·
   refine V.block ?_
   refine V.weakenK (Keeps.freezeG 0 rn [(30, .vl rn 1 (List.map encInt ([] : List Int))), (7, .vl rn 1 (List.map encInt ([] : List Int)))] [(b0, ⟨1, List.map encInt ([] : List Int)⟩)] (f := encInt) (l := ([] : List Int)) rfl (fun _ => rfl) ⟨⟨_, rfl, .here⟩, ⟨_, rfl, .here⟩, trivial⟩ ⟨_, _, rfl, rfl, .inl rfl, rfl⟩ rfl iNil) ?_
   refine V.keep 90 [7, 8, 0, 1, 6] [0] (E0 := [(7, .vl rn 1 (List.map encInt ([] : List Int))), (8, .int .i64 (0 : Int)), (0, .vl ρ0 5 (List.map (encCarton σ0) list)), (1, .vl ρ1 1 (List.map encInt files)), (6, .sref b0 1 0 (List.length ([] : List Int)))]) (H0 := [(b0, ⟨1, List.map encInt ([] : List Int)⟩)]) rfl (⟨_, _, rfl, rfl, ⟨_, _, rfl, rfl, ⟨_, _, rfl, rfl, ⟨_, _, rfl, rfl, ⟨_, _, rfl, rfl, rfl⟩⟩⟩⟩⟩) (⟨_, _, rfl, rfl, rfl⟩) rfl ?_
   refine V.loopE (D := Nat × (List Int × Int) × (Unit)) (fun ⟨n0, ⟨some_0, i⟩, _⟩ => [(7, .vl rn 1 (List.map encInt some_0)), (8, .int .i64 i)]) (fun ⟨n0, ⟨some_0, i⟩, _⟩ => []) (fun ⟨n0, ⟨some_0, i⟩, _⟩ => loopO (M.spec_PullList_l0 list files) n0 (some_0, i) = some e0) (fun ⟨n0, _, _⟩ => n0) (rounds, (([] : List Int), (0 : Int)), ()) rfl he1 ?_
   rintro ⟨n0, ⟨some_0, i⟩, _⟩ hP0
   obtain ⟨m0, y3, rfl, hm1, hl1, hr1⟩ := loop_head hP0
   unfold M.spec_PullList_l0 at hm1; dsimp only at hm1
   show V _ _ _ ⟨90, [(7, .vl rn 1 (List.map encInt some_0)), (8, .int .i64 i), (0, .vl ρ0 5 (List.map (encCarton σ0) list)), (1, .vl ρ1 1 (List.map encInt files)), (6, .sref b0 1 0 (List.length ([] : List Int)))], [(b0, ⟨1, List.map encInt ([] : List Int)⟩)]⟩
   refine V.seq ?_
   refine V.seq ?_
   refine V.region ?_
   refine VO.cons rfl (V1.move rfl rfl rfl (ltb rfl) ?_)
   refine VO.cons rfl (V1.move rfl rfl rfl (ltb rfl) ?_)
   refine VO.cons rfl (V1.lenMap rfl rfl rfl rfl rfl rfl isl_38 (ltb rfl) ?_)
   refine VO.cons rfl (V1.int rfl rfl rfl rfl rfl (ltb rfl) ?_)
   refine VO.nil ?_
   refine V.cond rfl (fun hc1 => ?_) (fun hc1 => ?_)
   ·
    replace hm1 := cond_t hc1 hm1
    refine V.skip ?_
    refine V.keep 90 [0, 1, 6, 7, 8] [0] (E0 := [(0, .vl ρ0 5 (List.map (encCarton σ0) list)), (1, .vl ρ1 1 (List.map encInt files)), (6, .sref b0 1 0 (List.length ([] : List Int))), (7, .vl rn 1 (List.map encInt some_0)), (8, .int .i64 i)]) (H0 := [(b0, ⟨1, List.map encInt ([] : List Int)⟩)]) rfl (⟨_, _, rfl, rfl, ⟨_, _, rfl, rfl, ⟨_, _, rfl, rfl, ⟨_, _, rfl, rfl, ⟨_, _, rfl, rfl, rfl⟩⟩⟩⟩⟩) (⟨_, _, rfl, rfl, rfl⟩) rfl ?_
    refine V.seq ?_
    replace hm1 := bindO hm1; rcases hm1 with ⟨j0, hm2, hm1⟩
    refine V.cutT (D := (List Int) × (Unit)) (fun ⟨some_1, _⟩ => ⟨90, [(7, .vl rn 1 (List.map encInt some_1)), (0, .vl ρ0 5 (List.map (encCarton σ0) list)), (1, .vl ρ1 1 (List.map encInt files)), (6, .sref b0 1 0 (List.length ([] : List Int))), (8, .int .i64 i)], [(b0, ⟨1, List.map encInt ([] : List Int)⟩)]⟩) (fun ⟨some_1, _⟩ => (.inl some_1 = j0)) ?_ ?_
    ·
     refine V.block ?_
     refine V.seq ?_
     replace hm2 := asrt_some hm2; rcases hm2 with ⟨hh3, hm2⟩
     replace hm2 := bindO hm2; rcases hm2 with ⟨y4, hh4, hm2⟩
     refine V.region ?_
     refine VO.cons rfl (V1.move rfl rfl rfl (ltb rfl) ?_)
     refine VO.cons rfl (V1.move rfl rfl rfl (ltb rfl) ?_)
     refine VO.cons rfl (V1.move rfl rfl rfl (ltb rfl) ?_)
     refine VO.cons rfl (V1.indexI rfl rfl esz_38 rfl rfl hh3 (ltb rfl) ?_)
     refine VO.cons rfl (V1.loadPin rfl rfl tyk_3 rfl rfl (ltb rfl) ?_)
     refine VO.cons rfl (V1.call rfl rfl rfl cok_67 rfl (ok_spec_l18Holds hh4) rfl (ltb rfl) ?_)
     rintro _ _ ⟨rfl, rfl⟩
     refine VO.cons rfl (V1.assign rfl rfl rfl (ltb rfl) ?_)
     refine VO.nil ?_
     refine V.keep 90 [0, 1, 6, 7, 8, 9] [0] (E0 := [(0, .vl ρ0 5 (List.map (encCarton σ0) list)), (1, .vl ρ1 1 (List.map encInt files)), (6, .sref b0 1 0 (List.length ([] : List Int))), (7, .vl rn 1 (List.map encInt some_0)), (8, .int .i64 i), (9, .int .i64 y4)]) (H0 := [(b0, ⟨1, List.map encInt ([] : List Int)⟩)]) rfl (⟨_, _, rfl, rfl, ⟨_, _, rfl, rfl, ⟨_, _, rfl, rfl, ⟨_, _, rfl, rfl, ⟨_, _, rfl, rfl, ⟨_, _, rfl, rfl, rfl⟩⟩⟩⟩⟩⟩) (⟨_, _, rfl, rfl, rfl⟩) rfl ?_
     refine V.seq ?_
     refine V.seq ?_
     refine V.region ?_
     refine VO.cons rfl (V1.move rfl rfl rfl (ltb rfl) ?_)
     refine VO.cons rfl (V1.int rfl rfl rfl rfl rfl (ltb rfl) ?_)
     refine VO.nil ?_
     refine V.cond rfl (fun hc2 => ?_) (fun hc2 => ?_)
     ·
      replace hm2 := cond_t hc2 hm2
      refine V.seq ?_
      refine V.region ?_
      refine VO.cons rfl (V1.move rfl rfl rfl (ltb rfl) ?_)
      refine VO.cons rfl (V1.assign rfl rfl rfl (ltb rfl) ?_)
      refine VO.cons rfl (V1.assign rfl rfl rfl (ltb rfl) ?_)
      refine VO.nil ?_
      refine V.keep 90 [4, 5] [0] (E0 := [(4, .sref b0 1 0 (List.length ([] : List Int))), (5, .bool false)]) (H0 := [(b0, ⟨1, List.map encInt ([] : List Int)⟩)]) rfl (⟨_, _, rfl, rfl, ⟨_, _, rfl, rfl, rfl⟩⟩) (⟨_, _, rfl, rfl, rfl⟩) rfl ?_
      refine V.ret ?_
      obtain rfl := Option.some.inj hm2
      change some _ = some _ at hm1
      obtain rfl := hr1 _ (Option.some.inj hm1).symm
      change some _ = some _ at hm0
      obtain rfl := Option.some.inj hm0
      exact ⟨_, _, ⟨_, _, rfl, rfl, ⟨_, _, rfl, rfl, rfl⟩⟩, List.Sublist.refl _, b0, rfl, rfl⟩
     ·
      replace hm2 := cond_f hc2 hm2
      refine V.skip ?_
      refine V.seq ?_
      replace hm2 := bindO hm2; rcases hm2 with ⟨y5, hh5, hm2⟩
      refine V.region ?_
      refine VO.cons rfl (V1.move rfl rfl rfl (ltb rfl) ?_)
      refine VO.cons rfl (V1.move rfl rfl rfl (ltb rfl) ?_)
      refine VO.cons rfl (V1.call rfl rfl rfl cok_93 rfl (ok_spec_l1Has hh5) rfl (ltb rfl) ?_)
      rintro _ _ ⟨rfl, rfl⟩
      refine VO.cons rfl (V1.not rfl rfl rfl (ltb rfl) ?_)
      refine VO.nil ?_
      refine V.keep 90 [0, 1, 6, 7, 8, 9, 49] [0] (E0 := [(0, .vl ρ0 5 (List.map (encCarton σ0) list)), (1, .vl ρ1 1 (List.map encInt files)), (6, .sref b0 1 0 (List.length ([] : List Int))), (7, .vl rn 1 (List.map encInt some_0)), (8, .int .i64 i), (9, .int .i64 y4), (49, .bool (!y5))]) (H0 := [(b0, ⟨1, List.map encInt ([] : List Int)⟩)]) rfl (⟨_, _, rfl, rfl, ⟨_, _, rfl, rfl, ⟨_, _, rfl, rfl, ⟨_, _, rfl, rfl, ⟨_, _, rfl, rfl, ⟨_, _, rfl, rfl, ⟨_, _, rfl, rfl, rfl⟩⟩⟩⟩⟩⟩⟩) (⟨_, _, rfl, rfl, rfl⟩) rfl ?_
      refine V.cond rfl (fun hc3 => ?_) (fun hc3 => ?_)
      ·
       replace hm2 := cond_t hc3 hm2
       replace hm2 := bindO hm2; rcases hm2 with ⟨y6, hh6, hm2⟩
       refine V.region ?_
       refine VO.cons rfl (V1.move rfl rfl rfl (ltb rfl) ?_)
       refine VO.cons rfl (V1.move rfl rfl rfl (ltb rfl) ?_)
       refine VO.cons rfl (V1.call rfl rfl rfl cok_72 rfl (ok_spec_l1Put hh6) rfl (ltb rfl) ?_)
       rintro _ _ ⟨rfl, rfl⟩
       refine VO.cons rfl (V1.assign rfl rfl rfl (ltb rfl) ?_)
       refine VO.nil ?_
       exact ⟨(y6, ()), Option.some.inj hm2, Keeps.mk (ks := [0]) rfl ⟨rfl, rfl, rfl, rfl, rfl, trivial⟩ (⟨_, _, rfl, rfl, rfl⟩) rfl⟩
      ·
       replace hm2 := cond_f hc3 hm2
       refine V.skip ?_
       exact ⟨(some_0, ()), Option.some.inj hm2, Keeps.mk (ks := [0]) rfl ⟨rfl, rfl, rfl, rfl, rfl, trivial⟩ (⟨_, _, rfl, rfl, rfl⟩) rfl⟩
    ·
     rintro ⟨some_1, _⟩ rfl
     try dsimp only at hm1
     refine V.region ?_
     refine VO.cons rfl (V1.move rfl rfl rfl (ltb rfl) ?_)
     refine VO.cons rfl (V1.int rfl rfl rfl rfl rfl (ltb rfl) ?_)
     refine VO.cons rfl (V1.assign rfl rfl rfl (ltb rfl) ?_)
     refine VO.nil ?_
     exact ⟨(m0, (some_1, (IntKind.i64.wrap (i + (1 : Int)))), ()), hl1 _ (Option.some.inj hm1).symm, Nat.lt_succ_self _, Keeps.mk (ks := [0]) rfl ⟨rfl, rfl, rfl, rfl, rfl, trivial⟩ (⟨_, _, rfl, rfl, rfl⟩) rfl⟩
   ·
    replace hm1 := cond_f hc1 hm1
    refine V.exit ?_
    obtain rfl := hr1 _ (Option.some.inj hm1).symm
    exact ⟨(some_0, ()), rfl, Keeps.mk (ks := [0]) rfl ⟨rfl, rfl, rfl, trivial⟩ (⟨_, _, rfl, rfl, rfl⟩) rfl⟩
  ·
   rintro ⟨some_, _⟩ rfl
   try dsimp only at hm0
   refine V.seq ?_
   refine V.seq ?_
   refine V.region ?_
   refine VO.cons rfl (V1.assign rfl rfl rfl (ltb rfl) ?_)
   refine VO.nil ?_
   replace hm0 := bindO hm0; rcases hm0 with ⟨e1, he1, hm0⟩
   refine V.cutT (D := (List Int) × (Nat)) (fun ⟨out_, b2⟩ => ⟨90, [(6, .sref b2 1 0 (List.length out_))], [(b2, ⟨1, List.map encInt out_⟩)]⟩) (fun ⟨out_, b2⟩ => (out_ = e1)) ?_ ?_
   ·
    refine V.block ?_
    refine V.keep 90 [6, 10, 0, 7] [0] (E0 := [(6, .sref b0 1 0 (List.length ([] : List Int))), (10, .int .i64 (1 : Int)), (0, .vl ρ0 5 (List.map (encCarton σ0) list)), (7, .vl rn 1 (List.map encInt some_))]) (H0 := [(b0, ⟨1, List.map encInt ([] : List Int)⟩)]) rfl (⟨_, _, rfl, rfl, ⟨_, _, rfl, rfl, ⟨_, _, rfl, rfl, ⟨_, _, rfl, rfl, rfl⟩⟩⟩⟩) (⟨_, _, rfl, rfl, rfl⟩) rfl ?_
    refine V.loopE (D := Nat × (List Int × Int) × (Nat)) (fun ⟨n1, ⟨out_0, room⟩, b3⟩ => [(6, .sref b3 1 0 (List.length out_0)), (10, .int .i64 room)]) (fun ⟨n1, ⟨out_0, room⟩, b3⟩ => [(b3, ⟨1, List.map encInt out_0⟩)]) (fun ⟨n1, ⟨out_0, room⟩, b3⟩ => loopO (M.spec_PullList_l1 list some_) n1 (out_0, room) = some e1) (fun ⟨n1, _, _⟩ => n1) (rounds, (([] : List Int), (1 : Int)), b0) rfl he1 ?_
    rintro ⟨n1, ⟨out_0, room⟩, b3⟩ hP1
    obtain ⟨m1, y7, rfl, hm1, hl1, hr1⟩ := loop_head hP1
    unfold M.spec_PullList_l1 at hm1; dsimp only at hm1
    show V _ _ _ ⟨90, [(6, .sref b3 1 0 (List.length out_0)), (10, .int .i64 room), (0, .vl ρ0 5 (List.map (encCarton σ0) list)), (7, .vl rn 1 (List.map encInt some_))], [(b3, ⟨1, List.map encInt out_0⟩)]⟩
    refine V.seq ?_
    refine V.seq ?_
    refine V.region ?_
    refine VO.cons rfl (V1.move rfl rfl rfl (ltb rfl) ?_)
    refine VO.cons rfl (V1.int rfl rfl rfl rfl rfl (ltb rfl) ?_)
    refine VO.nil ?_
    refine V.cond rfl (fun hc4 => ?_) (fun hc4 => ?_)
    ·
     replace hm1 := cond_t hc4 hm1
     refine V.skip ?_
     refine V.seq ?_
     refine V.block ?_
     refine V.seq ?_
     refine V.region ?_
     refine VO.cons rfl (V1.assign rfl rfl rfl (ltb rfl) ?_)
     refine VO.nil ?_
     replace hm1 := bindO hm1; rcases hm1 with ⟨e2, he2, hm1⟩
     refine V.cutT (D := (List Int) × (Nat)) (fun ⟨out_1, b4⟩ => ⟨90, [(6, .sref b4 1 0 (List.length out_1)), (0, .vl ρ0 5 (List.map (encCarton σ0) list)), (7, .vl rn 1 (List.map encInt some_)), (10, .int .i64 room)], [(b4, ⟨1, List.map encInt out_1⟩)]⟩) (fun ⟨out_1, b4⟩ => (out_1 = e2)) ?_ ?_
     ·
      refine V.block ?_
      refine V.keep 90 [6, 11, 0, 7, 10] [0] (E0 := [(6, .sref b3 1 0 (List.length out_0)), (11, .int .i64 (1 : Int)), (0, .vl ρ0 5 (List.map (encCarton σ0) list)), (7, .vl rn 1 (List.map encInt some_)), (10, .int .i64 room)]) (H0 := [(b3, ⟨1, List.map encInt out_0⟩)]) rfl (⟨_, _, rfl, rfl, ⟨_, _, rfl, rfl, ⟨_, _, rfl, rfl, ⟨_, _, rfl, rfl, ⟨_, _, rfl, rfl, rfl⟩⟩⟩⟩⟩) (⟨_, _, rfl, rfl, rfl⟩) rfl ?_
      refine V.loopE (D := Nat × (List Int × Int) × (Nat)) (fun ⟨n2, ⟨out_2, shelf⟩, b5⟩ => [(6, .sref b5 1 0 (List.length out_2)), (11, .int .i64 shelf)]) (fun ⟨n2, ⟨out_2, shelf⟩, b5⟩ => [(b5, ⟨1, List.map encInt out_2⟩)]) (fun ⟨n2, ⟨out_2, shelf⟩, b5⟩ => loopO (M.spec_PullList_l2 list some_ room) n2 (out_2, shelf) = some e2) (fun ⟨n2, _, _⟩ => n2) (rounds, (out_0, (1 : Int)), b3) rfl he2 ?_
      rintro ⟨n2, ⟨out_2, shelf⟩, b5⟩ hP2
      obtain ⟨m2, y8, rfl, hm2, hl2, hr2⟩ := loop_head hP2
      unfold M.spec_PullList_l2 at hm2; dsimp only at hm2
      show V _ _ _ ⟨90, [(6, .sref b5 1 0 (List.length out_2)), (11, .int .i64 shelf), (0, .vl ρ0 5 (List.map (encCarton σ0) list)), (7, .vl rn 1 (List.map encInt some_)), (10, .int .i64 room)], [(b5, ⟨1, List.map encInt out_2⟩)]⟩
      refine V.seq ?_
      refine V.seq ?_
      refine V.region ?_
      refine VO.cons rfl (V1.move rfl rfl rfl (ltb rfl) ?_)
      refine VO.cons rfl (V1.int rfl rfl rfl rfl rfl (ltb rfl) ?_)
      refine VO.nil ?_
      refine V.cond rfl (fun hc5 => ?_) (fun hc5 => ?_)
      ·
       replace hm2 := cond_t hc5 hm2
       refine V.skip ?_
       refine V.seq ?_
       refine V.block ?_
       refine V.seq ?_
       refine V.region ?_
       refine VO.cons rfl (V1.assign rfl rfl rfl (ltb rfl) ?_)
       refine VO.nil ?_
       replace hm2 := bindO hm2; rcases hm2 with ⟨e3, he3, hm2⟩
       refine V.cutT (D := (List Int) × (Nat)) (fun ⟨out_3, b6⟩ => ⟨90, [(6, .sref b6 1 0 (List.length out_3)), (0, .vl ρ0 5 (List.map (encCarton σ0) list)), (7, .vl rn 1 (List.map encInt some_)), (10, .int .i64 room), (11, .int .i64 shelf)], [(b6, ⟨1, List.map encInt out_3⟩)]⟩) (fun ⟨out_3, b6⟩ => (out_3 = e3)) ?_ ?_
       ·
        refine V.block ?_
        refine V.keep 90 [6, 12, 0, 7, 10, 11] [0] (E0 := [(6, .sref b5 1 0 (List.length out_2)), (12, .int .i64 (0 : Int)), (0, .vl ρ0 5 (List.map (encCarton σ0) list)), (7, .vl rn 1 (List.map encInt some_)), (10, .int .i64 room), (11, .int .i64 shelf)]) (H0 := [(b5, ⟨1, List.map encInt out_2⟩)]) rfl (⟨_, _, rfl, rfl, ⟨_, _, rfl, rfl, ⟨_, _, rfl, rfl, ⟨_, _, rfl, rfl, ⟨_, _, rfl, rfl, ⟨_, _, rfl, rfl, rfl⟩⟩⟩⟩⟩⟩) (⟨_, _, rfl, rfl, rfl⟩) rfl ?_
        refine V.loopE (D := Nat × (List Int × Int) × (Nat)) (fun ⟨n3, ⟨out_4, i0⟩, b7⟩ => [(6, .sref b7 1 0 (List.length out_4)), (12, .int .i64 i0)]) (fun ⟨n3, ⟨out_4, i0⟩, b7⟩ => [(b7, ⟨1, List.map encInt out_4⟩)]) (fun ⟨n3, ⟨out_4, i0⟩, b7⟩ => loopO (M.spec_PullList_l3 list some_ room shelf) n3 (out_4, i0) = some e3) (fun ⟨n3, _, _⟩ => n3) (rounds, (out_2, (0 : Int)), b5) rfl he3 ?_
        rintro ⟨n3, ⟨out_4, i0⟩, b7⟩ hP3
        obtain ⟨m3, y9, rfl, hm3, hl3, hr3⟩ := loop_head hP3
        unfold M.spec_PullList_l3 at hm3; dsimp only at hm3
        show V _ _ _ ⟨90, [(6, .sref b7 1 0 (List.length out_4)), (12, .int .i64 i0), (0, .vl ρ0 5 (List.map (encCarton σ0) list)), (7, .vl rn 1 (List.map encInt some_)), (10, .int .i64 room), (11, .int .i64 shelf)], [(b7, ⟨1, List.map encInt out_4⟩)]⟩
        refine V.seq ?_
        refine V.seq ?_
        refine V.region ?_
        refine VO.cons rfl (V1.move rfl rfl rfl (ltb rfl) ?_)
        refine VO.cons rfl (V1.move rfl rfl rfl (ltb rfl) ?_)
        refine VO.cons rfl (V1.lenMap rfl rfl rfl rfl rfl rfl isl_38 (ltb rfl) ?_)
        refine VO.cons rfl (V1.int rfl rfl rfl rfl rfl (ltb rfl) ?_)
        refine VO.nil ?_
        refine V.cond rfl (fun hc6 => ?_) (fun hc6 => ?_)
        ·
         replace hm3 := cond_t hc6 hm3
         refine V.skip ?_
         refine V.keep 90 [0, 6, 7, 10, 11, 12] [0] (E0 := [(0, .vl ρ0 5 (List.map (encCarton σ0) list)), (6, .sref b7 1 0 (List.length out_4)), (7, .vl rn 1 (List.map encInt some_)), (10, .int .i64 room), (11, .int .i64 shelf), (12, .int .i64 i0)]) (H0 := [(b7, ⟨1, List.map encInt out_4⟩)]) rfl (⟨_, _, rfl, rfl, ⟨_, _, rfl, rfl, ⟨_, _, rfl, rfl, ⟨_, _, rfl, rfl, ⟨_, _, rfl, rfl, ⟨_, _, rfl, rfl, rfl⟩⟩⟩⟩⟩⟩) (⟨_, _, rfl, rfl, rfl⟩) rfl ?_
         refine V.seq ?_
         replace hm3 := bindO hm3; rcases hm3 with ⟨j1, hm4, hm3⟩
         refine V.cutT (D := (List Int) × (Nat)) (fun ⟨out_5, b8⟩ => ⟨90, [(6, .sref b8 1 0 (List.length out_5)), (0, .vl ρ0 5 (List.map (encCarton σ0) list)), (7, .vl rn 1 (List.map encInt some_)), (10, .int .i64 room), (11, .int .i64 shelf), (12, .int .i64 i0)], [(b8, ⟨1, List.map encInt out_5⟩)]⟩) (fun ⟨out_5, b8⟩ => (out_5 = j1)) ?_ ?_
         ·
          refine V.block ?_
          refine V.seq ?_
          replace hm4 := asrt_some hm4; rcases hm4 with ⟨hh7, hm4⟩
          replace hm4 := asrt_some hm4; rcases hm4 with ⟨hh8, hm4⟩
          refine V.region ?_
          refine VO.cons rfl (V1.move rfl rfl rfl (ltb rfl) ?_)
          refine VO.cons rfl (V1.move rfl rfl rfl (ltb rfl) ?_)
          refine VO.cons rfl (V1.move rfl rfl rfl (ltb rfl) ?_)
          refine VO.cons rfl (V1.indexI rfl rfl esz_38 rfl rfl hh7 (ltb rfl) ?_)
          refine VO.cons rfl (V1.loadPin rfl rfl tyk_3 rfl rfl (ltb rfl) ?_)
          refine VO.cons rfl (V1.indexI rfl rfl esz_24 rfl rfl hh8 (ltb rfl) ?_)
          refine VO.cons rfl (V1.loadPinAll rfl rfl tyk_40 rfl rfl (ltb rfl) ?_)
          refine VO.cons rfl (V1.alloc rfl rfl zk_40 (ltb rfl) ?_)
          intro b9
          refine VO.cons rfl (V1.storeRefAll (k := 0) rfl rfl tyk_40 rfl rfl rfl rfl rfl rfl ?_)
          refine VO.nil ?_
          refine V.keep 90 [0, 6, 7, 10, 11, 12, 13] [0, 1] (E0 := [(0, .vl ρ0 5 (List.map (encCarton σ0) list)), (6, .sref b7 1 0 (List.length out_4)), (7, .vl rn 1 (List.map encInt some_)), (10, .int .i64 room), (11, .int .i64 shelf), (12, .int .i64 i0), (13, .ref b9 5 0 0)]) (H0 := [(b9, ⟨5, [encCarton σ0 (list.getD (Int.toNat (some_.getD (Int.toNat i0) default)) default)]⟩), (b7, ⟨1, List.map encInt out_4⟩)]) rfl (⟨_, _, rfl, rfl, ⟨_, _, rfl, rfl, ⟨_, _, rfl, rfl, ⟨_, _, rfl, rfl, ⟨_, _, rfl, rfl, ⟨_, _, rfl, rfl, ⟨_, _, rfl, rfl, rfl⟩⟩⟩⟩⟩⟩⟩) (⟨_, _, rfl, rfl, ⟨_, _, rfl, rfl, rfl⟩⟩) rfl ?_
          refine V.seq ?_
          refine V.region ?_
          refine VO.cons rfl (V1.fieldRef rfl rfl fo_40_2 rfl (ltb rfl) ?_)
          refine VO.cons rfl (V1.loadRef (k := 0) rfl rfl tyk_3 rfl rfl rfl rfl rfl (ltb rfl) ?_)
          refine VO.cons rfl (V1.move rfl rfl rfl (ltb rfl) ?_)
          refine VO.cons rfl (V1.int rfl rfl rfl rfl rfl (ltb rfl) ?_)
          refine VO.cons rfl (V1.move rfl rfl rfl (ltb rfl) ?_)
          apply VO.and (n := 4) rfl rfl rfl rfl rfl rfl (ltb rfl) (.none rfl)
          ·
           intro hg2
           refine VO.step (.some rfl rfl rfl) (V1.fieldRef rfl rfl fo_40_1 rfl (ltb rfl) ?_)
           refine VO.step (.some rfl rfl rfl) (V1.loadRef (k := 0) rfl rfl tyk_3 rfl rfl rfl rfl rfl (ltb rfl) ?_)
           refine VO.step (.some rfl rfl rfl) (V1.move rfl rfl rfl (ltb rfl) ?_)
           refine VO.step (.some rfl rfl rfl) (V1.int rfl rfl rfl rfl rfl (ltb rfl) ?_)
           exact VO.nil ⟨rfl, rfl, rfl, rfl, .inr ⟨rfl, .inr ⟨rfl, .inr ⟨rfl, .inr ⟨rfl, .inr ⟨rfl, .inl rfl⟩⟩⟩⟩⟩⟩
          refine VO.nil ?_
          refine V.keep 90 [0, 6, 7, 10, 11, 12, 13, 83] [0, 1] (E0 := [(0, .vl ρ0 5 (List.map (encCarton σ0) list)), (6, .sref b7 1 0 (List.length out_4)), (7, .vl rn 1 (List.map encInt some_)), (10, .int .i64 room), (11, .int .i64 shelf), (12, .int .i64 i0), (13, .ref b9 5 0 0), (83, .bool ((((list.getD (Int.toNat (some_.getD (Int.toNat i0) default)) default).Room) == room) && (((list.getD (Int.toNat (some_.getD (Int.toNat i0) default)) default).Shelf) == shelf)))]) (H0 := [(b9, ⟨5, [encCarton σ0 (list.getD (Int.toNat (some_.getD (Int.toNat i0) default)) default)]⟩), (b7, ⟨1, List.map encInt out_4⟩)]) rfl (⟨_, _, rfl, rfl, ⟨_, _, rfl, rfl, ⟨_, _, rfl, rfl, ⟨_, _, rfl, rfl, ⟨_, _, rfl, rfl, ⟨_, _, rfl, rfl, ⟨_, _, rfl, rfl, ⟨_, _, rfl, rfl, rfl⟩⟩⟩⟩⟩⟩⟩⟩) (⟨_, _, rfl, rfl, ⟨_, _, rfl, rfl, rfl⟩⟩) rfl ?_
          refine V.cond rfl (fun hc7 => ?_) (fun hc7 => ?_)
          ·
           replace hm4 := cond_t hc7 hm4
           replace hm4 := asrt_some hm4; rcases hm4 with ⟨hh9, hm4⟩
           refine V.region ?_
           refine VO.cons rfl (V1.move rfl rfl rfl (ltb rfl) ?_)
           refine VO.cons rfl (V1.fieldRef rfl rfl fo_40_0 rfl (ltb rfl) ?_)
           refine VO.cons rfl (V1.loadRef (k := 0) rfl rfl tyk_3 rfl rfl rfl rfl rfl (ltb rfl) ?_)
           refine VO.cons rfl (V1.buildSliceT (f := encInt) ([(list.getD (Int.toNat (some_.getD (Int.toNat i0) default)) default).Id] : List Int) rfl rfl esz_38 zk_3 rfl rfl rfl rfl rfl rfl rfl (ltb rfl) ?_)
           intro b10
           refine VO.cons rfl (V1.appendMap (k := 2) (f := encInt) (l := out_4) (m := ([(list.getD (Int.toNat (some_.getD (Int.toNat i0) default)) default).Id] : List Int)) rfl rfl rfl rfl rfl esz_38 eby_38 zk_3 rfl rfl rfl (SrcOf.srMap (k := 0) rfl isl_38) hh9 (ltb rfl) ?_)
           intro b11
           refine VO.cons rfl (V1.assign rfl rfl rfl (ltb rfl) ?_)
           refine VO.nil ?_
           exact ⟨((out_4 ++ ([(list.getD (Int.toNat (some_.getD (Int.toNat i0) default)) default).Id] : List Int)), b11), Option.some.inj hm4, Keeps.mk (ks := [0]) rfl ⟨rfl, rfl, rfl, rfl, rfl, rfl, trivial⟩ (⟨_, _, rfl, rfl, rfl⟩) rfl⟩
          ·
           replace hm4 := cond_f hc7 hm4
           refine V.skip ?_
           exact ⟨(out_4, b7), Option.some.inj hm4, Keeps.mk (ks := [1]) rfl ⟨rfl, rfl, rfl, rfl, rfl, rfl, trivial⟩ (⟨_, _, rfl, rfl, rfl⟩) rfl⟩
         ·
          rintro ⟨out_5, b8⟩ rfl
          try dsimp only at hm3
          refine V.region ?_
          refine VO.cons rfl (V1.move rfl rfl rfl (ltb rfl) ?_)
          refine VO.cons rfl (V1.int rfl rfl rfl rfl rfl (ltb rfl) ?_)
          refine VO.cons rfl (V1.assign rfl rfl rfl (ltb rfl) ?_)
          refine VO.nil ?_
          exact ⟨(m3, (out_5, (IntKind.i64.wrap (i0 + (1 : Int)))), b8), hl3 _ (Option.some.inj hm3).symm, Nat.lt_succ_self _, Keeps.mk (ks := [0]) rfl ⟨rfl, rfl, rfl, rfl, rfl, rfl, trivial⟩ (⟨_, _, rfl, rfl, rfl⟩) rfl⟩
        ·
         replace hm3 := cond_f hc6 hm3
         refine V.exit ?_
         obtain rfl := hr3 _ (Option.some.inj hm3).symm
         exact ⟨(out_4, b7), rfl, Keeps.mk (ks := [0]) rfl ⟨rfl, rfl, rfl, rfl, rfl, trivial⟩ (⟨_, _, rfl, rfl, rfl⟩) rfl⟩
       ·
        rintro ⟨out_3, b6⟩ rfl
        try dsimp only at hm2
        refine V.region ?_
        refine VO.cons rfl (V1.move rfl rfl rfl (ltb rfl) ?_)
        refine VO.cons rfl (V1.int rfl rfl rfl rfl rfl (ltb rfl) ?_)
        refine VO.cons rfl (V1.assign rfl rfl rfl (ltb rfl) ?_)
        refine VO.nil ?_
        exact ⟨(m2, (out_3, (IntKind.i64.wrap (shelf + (1 : Int)))), b6), hl2 _ (Option.some.inj hm2).symm, Nat.lt_succ_self _, Keeps.mk (ks := [0]) rfl ⟨rfl, rfl, rfl, rfl, rfl, trivial⟩ (⟨_, _, rfl, rfl, rfl⟩) rfl⟩
      ·
       replace hm2 := cond_f hc5 hm2
       refine V.exit ?_
       obtain rfl := hr2 _ (Option.some.inj hm2).symm
       exact ⟨(out_2, b5), rfl, Keeps.mk (ks := [0]) rfl ⟨rfl, rfl, rfl, rfl, trivial⟩ (⟨_, _, rfl, rfl, rfl⟩) rfl⟩
     ·
      rintro ⟨out_1, b4⟩ rfl
      try dsimp only at hm1
      refine V.region ?_
      refine VO.cons rfl (V1.move rfl rfl rfl (ltb rfl) ?_)
      refine VO.cons rfl (V1.int rfl rfl rfl rfl rfl (ltb rfl) ?_)
      refine VO.cons rfl (V1.assign rfl rfl rfl (ltb rfl) ?_)
      refine VO.nil ?_
      exact ⟨(m1, (out_1, (IntKind.i64.wrap (room + (1 : Int)))), b4), hl1 _ (Option.some.inj hm1).symm, Nat.lt_succ_self _, Keeps.mk (ks := [0]) rfl ⟨rfl, rfl, rfl, rfl, trivial⟩ (⟨_, _, rfl, rfl, rfl⟩) rfl⟩
    ·
     replace hm1 := cond_f hc4 hm1
     refine V.exit ?_
     obtain rfl := hr1 _ (Option.some.inj hm1).symm
     exact ⟨(out_0, b3), rfl, Keeps.mk (ks := [0]) rfl ⟨rfl, trivial⟩ (⟨_, _, rfl, rfl, rfl⟩) rfl⟩
   ·
    rintro ⟨out_, b2⟩ rfl
    try dsimp only at hm0
    refine V.seq ?_
    refine V.region ?_
    refine VO.cons rfl (V1.move rfl rfl rfl (ltb rfl) ?_)
    refine VO.cons rfl (V1.assign rfl rfl rfl (ltb rfl) ?_)
    refine VO.cons rfl (V1.assign rfl rfl rfl (ltb rfl) ?_)
    refine VO.nil ?_
    refine V.keep 90 [4, 5] [0] (E0 := [(4, .sref b2 1 0 (List.length out_)), (5, .bool true)]) (H0 := [(b2, ⟨1, List.map encInt out_⟩)]) rfl (⟨_, _, rfl, rfl, ⟨_, _, rfl, rfl, rfl⟩⟩) (⟨_, _, rfl, rfl, rfl⟩) rfl ?_
    refine V.ret ?_
    obtain rfl := Option.some.inj hm0
    exact ⟨_, _, ⟨_, _, rfl, rfl, ⟨_, _, rfl, rfl, rfl⟩⟩, List.Sublist.refl _, b2, rfl, rfl⟩

theorem ok_laws_rInts {ρ0 ρ1 rn : Nat} {a : List Int} {b_ : List Int} {r : Bool} (h : M.laws_rInts a b_ = some r) : Does Try.prog 28 [.vl ρ0 1 (List.map encInt a), .vl ρ1 1 (List.map encInt b_)] [] rn (fun x H => x = .bool r ∧ H = []) := by
 have hm0 := h; clear h; unfold M.laws_rInts at hm0
 try dsimp only at hm0
 refine Does.intro (N := 26) Try.func28 rfl rfl rfl rfl ?_
 intro w0 S0
 refine V.seq ?_
 refine V.region ?_
 refine VO.cons rfl (V1.assign rfl rfl rfl (ltb rfl) ?_)
 refine VO.nil ?_
 refine V.seq ?_
 refine V.seq ?_
 refine V.region ?_
 refine VO.cons rfl (V1.move rfl rfl rfl (ltb rfl) ?_)
 refine VO.cons rfl (V1.lenMap rfl rfl rfl rfl rfl rfl isl_38 (ltb rfl) ?_)
 refine VO.cons rfl (V1.move rfl rfl rfl (ltb rfl) ?_)
 refine VO.cons rfl (V1.lenMap rfl rfl rfl rfl rfl rfl isl_38 (ltb rfl) ?_)
 refine VO.cons rfl (V1.int rfl rfl rfl rfl rfl (ltb rfl) ?_)
 refine VO.nil ?_
 refine V.keep 26 [0, 1, 10] [] (E0 := [(0, .vl ρ0 1 (List.map encInt a)), (1, .vl ρ1 1 (List.map encInt b_)), (10, .bool ((a.length : Int) != (b_.length : Int)))]) (H0 := []) rfl (⟨_, _, rfl, rfl, ⟨_, _, rfl, rfl, ⟨_, _, rfl, rfl, rfl⟩⟩⟩) (rfl) rfl ?_
 refine V.cond rfl (fun hc0 => ?_) (fun hc0 => ?_)
 ·
  replace hm0 := cond_t hc0 hm0
  refine V.seq ?_
  refine V.region ?_
  refine VO.cons rfl (V1.assign rfl rfl rfl (ltb rfl) ?_)
  refine VO.nil ?_
  refine V.ret ?_
  obtain rfl := Option.some.inj hm0
  exact ⟨_, [], ⟨_, _, rfl, rfl, rfl⟩, List.nil_sublist _, rfl, rfl⟩
 ·
  replace hm0 := cond_f hc0 hm0
  refine V.skip ?_
  refine V.seq ?_
  refine V.seq ?_
  refine V.region ?_
  refine VO.cons rfl (V1.assign rfl rfl rfl (ltb rfl) ?_)
  refine VO.nil ?_
  replace hm0 := bindO hm0; rcases hm0 with ⟨e0, he1, hm0⟩
  refine V.cutT (D := (Unit) × (Unit)) (fun ⟨_, _⟩ => ⟨26, [], []⟩) (fun ⟨_, _⟩ => (.inl () = e0)) ?_ ?_
  ·
   refine V.block ?_
   refine V.keep 26 [5, 0, 1] [] (E0 := [(5, .int .i64 (0 : Int)), (0, .vl ρ0 1 (List.map encInt a)), (1, .vl ρ1 1 (List.map encInt b_))]) (H0 := []) rfl (⟨_, _, rfl, rfl, ⟨_, _, rfl, rfl, ⟨_, _, rfl, rfl, rfl⟩⟩⟩) (rfl) rfl ?_
   refine V.loopE (D := Nat × (Int) × (Unit)) (fun ⟨n0, i, _⟩ => [(5, .int .i64 i)]) (fun ⟨n0, i, _⟩ => []) (fun ⟨n0, i, _⟩ => loopO (M.laws_rInts_l0 a b_) n0 i = some e0) (fun ⟨n0, _, _⟩ => n0) (rounds, (0 : Int), ()) rfl he1 ?_
   rintro ⟨n0, i, _⟩ hP0
   obtain ⟨m0, y0, rfl, hm1, hl1, hr1⟩ := loop_head hP0
   unfold M.laws_rInts_l0 at hm1; dsimp only at hm1
   show V _ _ _ ⟨26, [(5, .int .i64 i), (0, .vl ρ0 1 (List.map encInt a)), (1, .vl ρ1 1 (List.map encInt b_))], []⟩
   refine V.seq ?_
   refine V.seq ?_
   refine V.region ?_
   refine VO.cons rfl (V1.move rfl rfl rfl (ltb rfl) ?_)
   refine VO.cons rfl (V1.move rfl rfl rfl (ltb rfl) ?_)
   refine VO.cons rfl (V1.lenMap rfl rfl rfl rfl rfl rfl isl_38 (ltb rfl) ?_)
   refine VO.cons rfl (V1.int rfl rfl rfl rfl rfl (ltb rfl) ?_)
   refine VO.nil ?_
   refine V.cond rfl (fun hc1 => ?_) (fun hc1 => ?_)
   ·
    replace hm1 := cond_t hc1 hm1
    refine V.skip ?_
    refine V.keep 26 [0, 1, 5] [] (E0 := [(0, .vl ρ0 1 (List.map encInt a)), (1, .vl ρ1 1 (List.map encInt b_)), (5, .int .i64 i)]) (H0 := []) rfl (⟨_, _, rfl, rfl, ⟨_, _, rfl, rfl, ⟨_, _, rfl, rfl, rfl⟩⟩⟩) (rfl) rfl ?_
    refine V.seq ?_
    refine V.block ?_
    refine V.seq ?_
    replace hm1 := asrt_some hm1; rcases hm1 with ⟨hh0, hm1⟩
    replace hm1 := asrt_some hm1; rcases hm1 with ⟨hh1, hm1⟩
    refine V.regionM 26 8 [⟨[(0, none)], [], none⟩, ⟨[(5, none)], [], none⟩, ⟨[(17, some 1), (18, some 0)], [], none⟩, ⟨[(19, some 0)], [], none⟩, ⟨[(1, none)], [], none⟩, ⟨[(5, none)], [], none⟩, ⟨[(21, some 1), (22, some 0)], [], none⟩, ⟨[(23, some 0)], [], none⟩] [(0, none), (1, none), (5, none), (20, some 4), (24, some 0)] (⟨_, rfl, ⟨_, rfl, ⟨_, rfl, ⟨_, rfl, ⟨_, rfl, ⟨_, rfl, ⟨_, rfl, ⟨_, rfl, ⟨rfl, rfl⟩⟩⟩⟩⟩⟩⟩⟩⟩) mixed_orders rfl (by decide +kernel) (fun hck6 => ?_)
    refine VP.step (p := ?pv65) rfl rfl rfl (⟨_, _, rfl, rfl, rfl⟩) ?hv65 ?rest65 hck6
    case hv65 =>
     intro E1
     refine (V1.move rfl rfl rfl (ltb rfl) ?_)
     exact rfl
    refine VP.step (p := ?pv66) rfl rfl rfl (⟨_, _, rfl, rfl, rfl⟩) ?hv66 ?rest66 hck6
    case hv66 =>
     intro E1
     refine (V1.move rfl rfl rfl (ltb rfl) ?_)
     exact rfl
    refine VP.step (p := ?pv67) rfl rfl rfl (⟨_, _, rfl, rfl, ⟨_, _, rfl, rfl, rfl⟩⟩) ?hv67 ?rest67 hck6
    case hv67 =>
     intro E1
     refine (V1.indexI rfl rfl esz_38 rfl rfl hh0 (ltb rfl) ?_)
     exact rfl
    refine VP.step (p := ?pv68) rfl rfl rfl (⟨_, _, rfl, rfl, rfl⟩) ?hv68 ?rest68 hck6
    case hv68 =>
     intro E1
     refine (V1.loadPin rfl rfl tyk_3 rfl rfl (ltb rfl) ?_)
     exact rfl
    refine VP.step (p := ?pv69) rfl rfl rfl (⟨_, _, rfl, rfl, rfl⟩) ?hv69 ?rest69 hck6
    case hv69 =>
     intro E1
     refine (V1.move rfl rfl rfl (ltb rfl) ?_)
     exact rfl
    refine VP.step (p := ?pv70) rfl rfl rfl (⟨_, _, rfl, rfl, rfl⟩) ?hv70 ?rest70 hck6
    case hv70 =>
     intro E1
     refine (V1.move rfl rfl rfl (ltb rfl) ?_)
     exact rfl
    refine VP.step (p := ?pv71) rfl rfl rfl (⟨_, _, rfl, rfl, ⟨_, _, rfl, rfl, rfl⟩⟩) ?hv71 ?rest71 hck6
    case hv71 =>
     intro E1
     refine (V1.indexI rfl rfl esz_38 rfl rfl hh1 (ltb rfl) ?_)
     exact rfl
    refine VP.step (p := ?pv72) rfl rfl rfl (⟨_, _, rfl, rfl, rfl⟩) ?hv72 ?rest72 hck6
    case hv72 =>
     intro E1
     refine (V1.loadPin rfl rfl tyk_3 rfl rfl (ltb rfl) ?_)
     exact rfl
    refine VP.fin rfl (⟨_, _, rfl, rfl, ⟨_, _, rfl, rfl, ⟨_, _, rfl, rfl, ⟨_, _, rfl, rfl, ⟨_, _, rfl, rfl, rfl⟩⟩⟩⟩⟩) ?_
    refine VO.cons rfl (V1.int rfl rfl rfl rfl rfl (ltb rfl) ?_)
    refine VO.nil ?_
    refine V.cond rfl (fun hc2 => ?_) (fun hc2 => ?_)
    ·
     replace hm1 := cond_t hc2 hm1
     refine V.seq ?_
     refine V.region ?_
     refine VO.cons rfl (V1.assign rfl rfl rfl (ltb rfl) ?_)
     refine VO.nil ?_
     refine V.ret ?_
     obtain rfl := hr1 _ (Option.some.inj hm1).symm
     change some _ = some _ at hm0
     obtain rfl := Option.some.inj hm0
     exact ⟨_, [], ⟨_, _, rfl, rfl, rfl⟩, List.nil_sublist _, rfl, rfl⟩
    ·
     replace hm1 := cond_f hc2 hm1
     refine V.skip ?_
     refine V.region ?_
     refine VO.cons rfl (V1.move rfl rfl rfl (ltb rfl) ?_)
     refine VO.cons rfl (V1.int rfl rfl rfl rfl rfl (ltb rfl) ?_)
     refine VO.cons rfl (V1.assign rfl rfl rfl (ltb rfl) ?_)
     refine VO.nil ?_
     exact ⟨(m0, (IntKind.i64.wrap (i + (1 : Int))), ()), hl1 _ (Option.some.inj hm1).symm, Nat.lt_succ_self _, Keeps.mk (ks := []) rfl ⟨rfl, rfl, rfl, trivial⟩ (rfl) rfl⟩
   ·
    replace hm1 := cond_f hc1 hm1
    refine V.exit ?_
    obtain rfl := hr1 _ (Option.some.inj hm1).symm
    exact ⟨((), ()), rfl, Keeps.mk (ks := []) rfl trivial (rfl) rfl⟩
  ·
   rintro ⟨_, _⟩ rfl
   try dsimp only at hm0
   refine V.seq ?_
   refine V.region ?_
   refine VO.cons rfl (V1.assign rfl rfl rfl (ltb rfl) ?_)
   refine VO.nil ?_
   refine V.ret ?_
   obtain rfl := Option.some.inj hm0
   exact ⟨_, [], ⟨_, _, rfl, rfl, rfl⟩, List.nil_sublist _, rfl, rfl⟩

theorem ok_impl_FindFile {ρ0 rn : Nat} {list : List Carton} {file : Int} {r : Int × Int × Int × Bool} (h : M.impl_FindFile list file = some r) : Does Try.prog 11 [.vl ρ0 5 (List.map (encCarton ρ0) list), .int .i64 file] [] rn (fun x H => x = .tup [.int .i64 r.1, .int .i64 r.2.1, .int .i64 r.2.2.1, .bool r.2.2.2] ∧ H = []) := by
 have hm0 := h; clear h; unfold M.impl_FindFile at hm0
 try dsimp only at hm0
 refine Does.intro (N := 34) Try.func11 rfl rfl rfl rfl ?_
 intro w0 S0
 refine V.seq ?_
 refine V.region ?_
 refine VO.cons rfl (V1.assign rfl rfl rfl (ltb rfl) ?_)
 refine VO.cons rfl (V1.assign rfl rfl rfl (ltb rfl) ?_)
 refine VO.cons rfl (V1.assign rfl rfl rfl (ltb rfl) ?_)
 refine VO.cons rfl (V1.assign rfl rfl rfl (ltb rfl) ?_)
 refine VO.nil ?_
 refine V.keep 34 [0, 1] [] (E0 := [(0, .vl ρ0 5 (List.map (encCarton ρ0) list)), (1, .int .i64 file)]) (H0 := []) rfl (⟨_, _, rfl, rfl, ⟨_, _, rfl, rfl, rfl⟩⟩) (rfl) rfl ?_
 refine V.seq ?_
 replace hm0 := bindO hm0; rcases hm0 with ⟨y0, hh0, hm0⟩
 refine V.region ?_
 refine VO.cons rfl (V1.move rfl rfl rfl (ltb rfl) ?_)
 refine VO.cons rfl (V1.move rfl rfl rfl (ltb rfl) ?_)
 refine VO.cons rfl (V1.call rfl rfl rfl cok_61 rfl (ok_impl_cartonWith hh0) rfl (ltb rfl) ?_)
 rintro _ _ ⟨rfl, rfl⟩
 refine VO.cons rfl (V1.assign rfl rfl rfl (ltb rfl) ?_)
 refine VO.nil ?_
 refine V.keep 34 [0, 8] [] (E0 := [(0, .vl ρ0 5 (List.map (encCarton ρ0) list)), (8, .int .i64 y0)]) (H0 := []) rfl (⟨_, _, rfl, rfl, ⟨_, _, rfl, rfl, rfl⟩⟩) (rfl) rfl ?_
 refine V.seq ?_
 refine V.seq ?_
 replace hm0 := bindO hm0; rcases hm0 with ⟨y1, hh1, hm0⟩
 refine V.region ?_
 refine VO.cons rfl (V1.move rfl rfl rfl (ltb rfl) ?_)
 refine VO.cons rfl (V1.call rfl rfl rfl cok_12 rfl (ok_impl_AreCartons hh1) rfl (ltb rfl) ?_)
 rintro _ _ ⟨rfl, rfl⟩
 refine VO.cons rfl (V1.not rfl rfl rfl (ltb rfl) ?_)
 refine VO.cons rfl (V1.move rfl rfl rfl (ltb rfl) ?_)
 apply VO.or (n := 2) rfl rfl rfl rfl rfl rfl (ltb rfl) (.none rfl)
 ·
  intro hg0
  refine VO.step (.some rfl rfl rfl) (V1.move rfl rfl rfl (ltb rfl) ?_)
  refine VO.step (.some rfl rfl rfl) (V1.int rfl rfl rfl rfl rfl (ltb rfl) ?_)
  exact VO.nil ⟨rfl, rfl, rfl, rfl, .inr ⟨rfl, .inr ⟨rfl, .inr ⟨rfl, .inl rfl⟩⟩⟩⟩
 refine VO.nil ?_
 refine V.keep 34 [0, 8, 18] [] (E0 := [(0, .vl ρ0 5 (List.map (encCarton ρ0) list)), (8, .int .i64 y0), (18, .bool ((!y1) || (decide (y0 < (0 : Int)))))]) (H0 := []) rfl (⟨_, _, rfl, rfl, ⟨_, _, rfl, rfl, ⟨_, _, rfl, rfl, rfl⟩⟩⟩) (rfl) rfl ?_
 refine V.cond rfl (fun hc0 => ?_) (fun hc0 => ?_)
 ·
  replace hm0 := cond_t hc0 hm0
  refine V.seq ?_
  refine V.region ?_
  refine VO.cons rfl (V1.assign rfl rfl rfl (ltb rfl) ?_)
  refine VO.cons rfl (V1.assign rfl rfl rfl (ltb rfl) ?_)
  refine VO.cons rfl (V1.assign rfl rfl rfl (ltb rfl) ?_)
  refine VO.cons rfl (V1.assign rfl rfl rfl (ltb rfl) ?_)
  refine VO.nil ?_
  refine V.ret ?_
  obtain rfl := Option.some.inj hm0
  exact ⟨_, [], ⟨_, _, rfl, rfl, ⟨_, _, rfl, rfl, ⟨_, _, rfl, rfl, ⟨_, _, rfl, rfl, rfl⟩⟩⟩⟩, List.nil_sublist _, rfl, rfl⟩
 ·
  replace hm0 := cond_f hc0 hm0
  refine V.skip ?_
  refine V.seq ?_
  replace hm0 := asrt_some hm0; rcases hm0 with ⟨hh2, hm0⟩
  replace hm0 := asrt_some hm0; rcases hm0 with ⟨hh3, hm0⟩
  replace hm0 := asrt_some hm0; rcases hm0 with ⟨hh4, hm0⟩
  refine V.regionM 34 17 [⟨[(0, none)], [], none⟩, ⟨[(8, none)], [], none⟩, ⟨[(19, some 1), (20, some 0)], [], none⟩, ⟨[(21, some 0)], [], none⟩, ⟨[(22, some 0)], [], none⟩, ⟨[(0, none)], [], none⟩, ⟨[(8, none)], [], none⟩, ⟨[(24, some 1), (25, some 0)], [], none⟩, ⟨[(26, some 0)], [], none⟩, ⟨[(27, some 0)], [], none⟩, ⟨[(0, none)], [], none⟩, ⟨[(8, none)], [], none⟩, ⟨[(29, some 1), (30, some 0)], [], none⟩, ⟨[(31, some 0)], [], none⟩, ⟨[(32, some 0)], [], none⟩, ⟨[(23, some 10)], [], none⟩, ⟨[(28, some 6)], [], none⟩] [(4, some 1), (5, some 0), (33, some 2)] (⟨_, rfl, ⟨_, rfl, ⟨_, rfl, ⟨_, rfl, ⟨_, rfl, ⟨_, rfl, ⟨_, rfl, ⟨_, rfl, ⟨_, rfl, ⟨_, rfl, ⟨_, rfl, ⟨_, rfl, ⟨_, rfl, ⟨_, rfl, ⟨_, rfl, ⟨_, rfl, ⟨_, rfl, ⟨rfl, rfl⟩⟩⟩⟩⟩⟩⟩⟩⟩⟩⟩⟩⟩⟩⟩⟩⟩⟩) mixed_orders rfl (by decide +kernel) (fun hck4 => ?_)
  refine VP.step (p := ?pv35) rfl rfl rfl (⟨_, _, rfl, rfl, rfl⟩) ?hv35 ?rest35 hck4
  case hv35 =>
   intro E1
   refine (V1.move rfl rfl rfl (ltb rfl) ?_)
   exact rfl
  refine VP.step (p := ?pv36) rfl rfl rfl (⟨_, _, rfl, rfl, rfl⟩) ?hv36 ?rest36 hck4
  case hv36 =>
   intro E1
   refine (V1.move rfl rfl rfl (ltb rfl) ?_)
   exact rfl
  refine VP.step (p := ?pv37) rfl rfl rfl (⟨_, _, rfl, rfl, ⟨_, _, rfl, rfl, rfl⟩⟩) ?hv37 ?rest37 hck4
  case hv37 =>
   intro E1
   refine (V1.indexI rfl rfl esz_24 rfl rfl hh2 (ltb rfl) ?_)
   exact rfl
  refine VP.step (p := ?pv38) rfl rfl rfl (⟨_, _, rfl, rfl, rfl⟩) ?hv38 ?rest38 hck4
  case hv38 =>
   intro E1
   refine (V1.fieldPin rfl rfl fo_40_0 rfl (ltb rfl) ?_)
   exact rfl
  refine VP.step (p := ?pv39) rfl rfl rfl (⟨_, _, rfl, rfl, rfl⟩) ?hv39 ?rest39 hck4
  case hv39 =>
   intro E1
   refine (V1.loadPin rfl rfl tyk_3 rfl rfl (ltb rfl) ?_)
   exact rfl
  refine VP.step (p := ?pv40) rfl rfl rfl (⟨_, _, rfl, rfl, rfl⟩) ?hv40 ?rest40 hck4
  case hv40 =>
   intro E1
   refine (V1.move rfl rfl rfl (ltb rfl) ?_)
   exact rfl
  refine VP.step (p := ?pv41) rfl rfl rfl (⟨_, _, rfl, rfl, rfl⟩) ?hv41 ?rest41 hck4
  case hv41 =>
   intro E1
   refine (V1.move rfl rfl rfl (ltb rfl) ?_)
   exact rfl
  refine VP.step (p := ?pv42) rfl rfl rfl (⟨_, _, rfl, rfl, ⟨_, _, rfl, rfl, rfl⟩⟩) ?hv42 ?rest42 hck4
  case hv42 =>
   intro E1
   refine (V1.indexI rfl rfl esz_24 rfl rfl hh3 (ltb rfl) ?_)
   exact rfl
  refine VP.step (p := ?pv43) rfl rfl rfl (⟨_, _, rfl, rfl, rfl⟩) ?hv43 ?rest43 hck4
  case hv43 =>
   intro E1
   refine (V1.fieldPin rfl rfl fo_40_2 rfl (ltb rfl) ?_)
   exact rfl
  refine VP.step (p := ?pv44) rfl rfl rfl (⟨_, _, rfl, rfl, rfl⟩) ?hv44 ?rest44 hck4
  case hv44 =>
   intro E1
   refine (V1.loadPin rfl rfl tyk_3 rfl rfl (ltb rfl) ?_)
   exact rfl
  refine VP.step (p := ?pv45) rfl rfl rfl (⟨_, _, rfl, rfl, rfl⟩) ?hv45 ?rest45 hck4
  case hv45 =>
   intro E1
   refine (V1.move rfl rfl rfl (ltb rfl) ?_)
   exact rfl
  refine VP.step (p := ?pv46) rfl rfl rfl (⟨_, _, rfl, rfl, rfl⟩) ?hv46 ?rest46 hck4
  case hv46 =>
   intro E1
   refine (V1.move rfl rfl rfl (ltb rfl) ?_)
   exact rfl
  refine VP.step (p := ?pv47) rfl rfl rfl (⟨_, _, rfl, rfl, ⟨_, _, rfl, rfl, rfl⟩⟩) ?hv47 ?rest47 hck4
  case hv47 =>
   intro E1
   refine (V1.indexI rfl rfl esz_24 rfl rfl hh4 (ltb rfl) ?_)
   exact rfl
  refine VP.step (p := ?pv48) rfl rfl rfl (⟨_, _, rfl, rfl, rfl⟩) ?hv48 ?rest48 hck4
  case hv48 =>
   intro E1
   refine (V1.fieldPin rfl rfl fo_40_1 rfl (ltb rfl) ?_)
   exact rfl
  refine VP.step (p := ?pv49) rfl rfl rfl (⟨_, _, rfl, rfl, rfl⟩) ?hv49 ?rest49 hck4
  case hv49 =>
   intro E1
   refine (V1.loadPin rfl rfl tyk_3 rfl rfl (ltb rfl) ?_)
   exact rfl
  refine VP.step (p := ?pv50) rfl rfl rfl (⟨_, _, rfl, rfl, rfl⟩) ?hv50 ?rest50 hck4
  case hv50 =>
   intro E1
   refine (V1.assign rfl rfl rfl (ltb rfl) ?_)
   exact rfl
  refine VP.step (p := ?pv51) rfl rfl rfl (⟨_, _, rfl, rfl, rfl⟩) ?hv51 ?rest51 hck4
  case hv51 =>
   intro E1
   refine (V1.assign rfl rfl rfl (ltb rfl) ?_)
   exact rfl
  refine VP.fin rfl (⟨_, _, rfl, rfl, ⟨_, _, rfl, rfl, ⟨_, _, rfl, rfl, rfl⟩⟩⟩) ?_
  refine VO.cons rfl (V1.assign rfl rfl rfl (ltb rfl) ?_)
  refine VO.cons rfl (V1.assign rfl rfl rfl (ltb rfl) ?_)
  refine VO.nil ?_
  refine V.ret ?_
  obtain rfl := Option.some.inj hm0
  exact ⟨_, [], ⟨_, _, rfl, rfl, ⟨_, _, rfl, rfl, ⟨_, _, rfl, rfl, ⟨_, _, rfl, rfl, rfl⟩⟩⟩⟩, List.nil_sublist _, rfl, rfl⟩

theorem ok_laws_rHas {ρ0 rn : Nat} {list : List Int} {x : Int} {r : Bool} (h : M.laws_rHas list x = some r) : Does Try.prog 29 [.vl ρ0 1 (List.map encInt list), .int .i64 x] [] rn (fun x H => x = .bool r ∧ H = []) := by
 have hm0 := h; clear h; unfold M.laws_rHas at hm0
 try dsimp only at hm0
 refine Does.intro (N := 18) Try.func29 rfl rfl rfl rfl ?_
 intro w0 S0
 refine V.seq ?_
 refine V.region ?_
 refine VO.cons rfl (V1.assign rfl rfl rfl (ltb rfl) ?_)
 refine VO.nil ?_
 refine V.seq ?_
 refine V.seq ?_
 refine V.region ?_
 refine VO.cons rfl (V1.assign rfl rfl rfl (ltb rfl) ?_)
 refine VO.nil ?_
 replace hm0 := bindO hm0; rcases hm0 with ⟨e0, he1, hm0⟩
 refine V.cutT (D := (Unit) × (Unit)) (fun ⟨_, _⟩ => ⟨18, [], []⟩) (fun ⟨_, _⟩ => (.inl () = e0)) ?_ ?_
 ·
  refine V.block ?_
  refine V.keep 18 [5, 0, 1] [] (E0 := [(5, .int .i64 (0 : Int)), (0, .vl ρ0 1 (List.map encInt list)), (1, .int .i64 x)]) (H0 := []) rfl (⟨_, _, rfl, rfl, ⟨_, _, rfl, rfl, ⟨_, _, rfl, rfl, rfl⟩⟩⟩) (rfl) rfl ?_
  refine V.loopE (D := Nat × (Int) × (Unit)) (fun ⟨n0, i, _⟩ => [(5, .int .i64 i)]) (fun ⟨n0, i, _⟩ => []) (fun ⟨n0, i, _⟩ => loopO (M.laws_rHas_l0 list x) n0 i = some e0) (fun ⟨n0, _, _⟩ => n0) (rounds, (0 : Int), ()) rfl he1 ?_
  rintro ⟨n0, i, _⟩ hP0
  obtain ⟨m0, y0, rfl, hm1, hl1, hr1⟩ := loop_head hP0
  unfold M.laws_rHas_l0 at hm1; dsimp only at hm1
  show V _ _ _ ⟨18, [(5, .int .i64 i), (0, .vl ρ0 1 (List.map encInt list)), (1, .int .i64 x)], []⟩
  refine V.seq ?_
  refine V.seq ?_
  refine V.region ?_
  refine VO.cons rfl (V1.move rfl rfl rfl (ltb rfl) ?_)
  refine VO.cons rfl (V1.move rfl rfl rfl (ltb rfl) ?_)
  refine VO.cons rfl (V1.lenMap rfl rfl rfl rfl rfl rfl isl_38 (ltb rfl) ?_)
  refine VO.cons rfl (V1.int rfl rfl rfl rfl rfl (ltb rfl) ?_)
  refine VO.nil ?_
  refine V.cond rfl (fun hc0 => ?_) (fun hc0 => ?_)
  ·
   replace hm1 := cond_t hc0 hm1
   refine V.skip ?_
   refine V.keep 18 [0, 1, 5] [] (E0 := [(0, .vl ρ0 1 (List.map encInt list)), (1, .int .i64 x), (5, .int .i64 i)]) (H0 := []) rfl (⟨_, _, rfl, rfl, ⟨_, _, rfl, rfl, ⟨_, _, rfl, rfl, rfl⟩⟩⟩) (rfl) rfl ?_
   refine V.seq ?_
   refine V.block ?_
   refine V.seq ?_
   replace hm1 := asrt_some hm1; rcases hm1 with ⟨hh0, hm1⟩
   refine V.region ?_
   refine VO.cons rfl (V1.move rfl rfl rfl (ltb rfl) ?_)
   refine VO.cons rfl (V1.move rfl rfl rfl (ltb rfl) ?_)
   refine VO.cons rfl (V1.indexI rfl rfl esz_38 rfl rfl hh0 (ltb rfl) ?_)
   refine VO.cons rfl (V1.loadPin rfl rfl tyk_3 rfl rfl (ltb rfl) ?_)
   refine VO.cons rfl (V1.move rfl rfl rfl (ltb rfl) ?_)
   refine VO.cons rfl (V1.int rfl rfl rfl rfl rfl (ltb rfl) ?_)
   refine VO.nil ?_
   refine V.keep 18 [0, 1, 5, 17] [] (E0 := [(0, .vl ρ0 1 (List.map encInt list)), (1, .int .i64 x), (5, .int .i64 i), (17, .bool ((list.getD (Int.toNat i) default) == x))]) (H0 := []) rfl (⟨_, _, rfl, rfl, ⟨_, _, rfl, rfl, ⟨_, _, rfl, rfl, ⟨_, _, rfl, rfl, rfl⟩⟩⟩⟩) (rfl) rfl ?_
   refine V.cond rfl (fun hc1 => ?_) (fun hc1 => ?_)
   ·
    replace hm1 := cond_t hc1 hm1
    refine V.seq ?_
    refine V.region ?_
    refine VO.cons rfl (V1.assign rfl rfl rfl (ltb rfl) ?_)
    refine VO.nil ?_
    refine V.ret ?_
    obtain rfl := hr1 _ (Option.some.inj hm1).symm
    change some _ = some _ at hm0
    obtain rfl := Option.some.inj hm0
    exact ⟨_, [], ⟨_, _, rfl, rfl, rfl⟩, List.nil_sublist _, rfl, rfl⟩
   ·
    replace hm1 := cond_f hc1 hm1
    refine V.skip ?_
    refine V.region ?_
    refine VO.cons rfl (V1.move rfl rfl rfl (ltb rfl) ?_)
    refine VO.cons rfl (V1.int rfl rfl rfl rfl rfl (ltb rfl) ?_)
    refine VO.cons rfl (V1.assign rfl rfl rfl (ltb rfl) ?_)
    refine VO.nil ?_
    exact ⟨(m0, (IntKind.i64.wrap (i + (1 : Int))), ()), hl1 _ (Option.some.inj hm1).symm, Nat.lt_succ_self _, Keeps.mk (ks := []) rfl ⟨rfl, rfl, rfl, trivial⟩ (rfl) rfl⟩
  ·
   replace hm1 := cond_f hc0 hm1
   refine V.exit ?_
   obtain rfl := hr1 _ (Option.some.inj hm1).symm
   exact ⟨((), ()), rfl, Keeps.mk (ks := []) rfl trivial (rfl) rfl⟩
 ·
  rintro ⟨_, _⟩ rfl
  try dsimp only at hm0
  refine V.seq ?_
  refine V.region ?_
  refine VO.cons rfl (V1.assign rfl rfl rfl (ltb rfl) ?_)
  refine VO.nil ?_
  refine V.ret ?_
  obtain rfl := Option.some.inj hm0
  exact ⟨_, [], ⟨_, _, rfl, rfl, rfl⟩, List.nil_sublist _, rfl, rfl⟩

theorem ok_spec_DrawAreCartons {ρ0 rn : Nat} {code : List Int} {r : List Carton} (h : M.spec_DrawAreCartons code = some r) : Does Try.prog 94 [.vl ρ0 1 (List.map encU8 code)] [] rn (fun x H => ∃ (ob0_ : Nat), x = PV.sref ob0_ 5 0 (List.length r) ∧ H = [(ob0_, ⟨5, List.map (encCarton rn) r⟩)]) := by
 have hm0 := h; clear h; unfold M.spec_DrawAreCartons at hm0
 try dsimp only at hm0
 refine Does.intro (N := 9) Try.func94 rfl rfl rfl rfl ?_
 intro w0 S0
 refine V.seq ?_
 refine V.region ?_
 refine VO.cons rfl (V1.assign rfl rfl rfl (ltb rfl) ?_)
 refine VO.nil ?_
 refine V.seq ?_
 refine V.region ?_
 refine VO.cons rfl (V1.move rfl rfl rfl (ltb rfl) ?_)
 refine VO.cons rfl (V1.build rfl rfl zk_77 pl_77 rfl rfl (ltb rfl) ?_)
 refine VO.cons rfl (V1.boxN (n := 3) rfl rfl rfl rfl rfl (ltb rfl) ?_)
 intro b0
 refine VO.cons rfl (V1.assign rfl rfl rfl (ltb rfl) ?_)
 refine VO.nil ?_
 refine V.keep 9 [3] [0] (E0 := [(3, .ref b0 3 0 0)]) (H0 := [(b0, ⟨3, [.agg [.vl ρ0 1 (List.map encU8 code), .int .i64 (0 : Int), .int .u64 (0 : Int)]]⟩)]) rfl (⟨_, _, rfl, rfl, rfl⟩) (⟨_, _, rfl, rfl, rfl⟩) rfl ?_
 refine V.seq ?_
 replace hm0 := bindO hm0; rcases hm0 with ⟨y0, hh0, hm0⟩
 refine V.region ?_
 refine VO.cons rfl (V1.move rfl rfl rfl (ltb rfl) ?_)
 refine VO.cons rfl (V1.callM 0 (rn + ρ0 + 1) [] [.ref b0 3 0 0] (p := (b0, ⟨3, [.agg [.vl ρ0 1 (List.map encU8 code), .int .i64 (0 : Int), .int .u64 (0 : Int)]]⟩)) rfl rfl rfl cok_58 rfl rfl ⟨_, _, rfl, .same _, rfl⟩ bwNil (ok_spec_l1Cur_cartons hh0) rfl (.inl rfl) (ltb rfl) ?_)
 rintro _ _ ⟨b1, rfl, rfl⟩
 refine VO.cons rfl (V1.assign rfl rfl rfl (ltb rfl) ?_)
 refine VO.nil ?_
 refine V.keep 9 [2] [0] (E0 := [(2, .sref b1 5 0 (List.length y0.1))]) (H0 := [(b1, ⟨5, List.map (encCarton rn) y0.1⟩)]) rfl (⟨_, _, rfl, rfl, rfl⟩) (⟨_, _, rfl, rfl, rfl⟩) rfl ?_
 refine V.ret ?_
 obtain rfl := Option.some.inj hm0
 exact ⟨_, _, ⟨_, _, rfl, rfl, rfl⟩, List.Sublist.refl _, b1, rfl, rfl⟩

theorem ok_spec_DrawRoomLoad {ρ0 rn : Nat} {code : List Int} {r : List Carton} (h : M.spec_DrawRoomLoad code = some r) : Does Try.prog 30 [.vl ρ0 1 (List.map encU8 code)] [] rn (fun x H => ∃ (ob0_ : Nat), x = PV.sref ob0_ 5 0 (List.length r) ∧ H = [(ob0_, ⟨5, List.map (encCarton rn) r⟩)]) := by
 have hm0 := h; clear h; unfold M.spec_DrawRoomLoad at hm0
 try dsimp only at hm0
 refine Does.intro (N := 5) Try.func30 rfl rfl rfl rfl ?_
 intro w0 S0
 refine V.seq ?_
 refine V.region ?_
 refine VO.cons rfl (V1.assign rfl rfl rfl (ltb rfl) ?_)
 refine VO.nil ?_
 refine V.seq ?_
 replace hm0 := bindO hm0; rcases hm0 with ⟨y0, hh0, hm0⟩
 refine V.region ?_
 refine VO.cons rfl (V1.move rfl rfl rfl (ltb rfl) ?_)
 refine VO.cons rfl (V1.call rfl rfl rfl cok_94 rfl (ok_spec_DrawAreCartons hh0) rfl (ltb rfl) ?_)
 rintro _ _ ⟨b0, rfl, rfl⟩
 refine VO.cons rfl (V1.assign rfl rfl rfl (ltb rfl) ?_)
 refine VO.nil ?_
 refine V.keep 5 [2] [0] (E0 := [(2, .sref b0 5 0 (List.length y0))]) (H0 := [(b0, ⟨5, List.map (encCarton rn) y0⟩)]) rfl (⟨_, _, rfl, rfl, rfl⟩) (⟨_, _, rfl, rfl, rfl⟩) rfl ?_
 refine V.ret ?_
 obtain rfl := Option.some.inj hm0
 exact ⟨_, _, ⟨_, _, rfl, rfl, rfl⟩, List.Sublist.refl _, b0, rfl, rfl⟩

theorem ok_impl_RoomLoad {ρ0 rn : Nat} {list : List Carton} {r : List (List Int) × Bool} (h : M.impl_RoomLoad list = some r) : Does Try.prog 31 [.vl ρ0 5 (List.map (encCarton ρ0) list)] [] rn (fun x H => ∃ (ob0_ : Option Nat), (ob0_ = none → r.1 = []) ∧ x = .tup [optS 1 ob0_ (List.length r.1), .bool r.2] ∧ H = optH 1 ob0_ (List.map (encL rn 1 encInt) r.1)) := by
 have hm0 := h; clear h; unfold M.impl_RoomLoad at hm0
 try dsimp only at hm0
 refine Does.intro (N := 50) Try.func31 rfl rfl rfl rfl ?_
 intro w0 S0
 refine V.seq ?_
 refine V.region ?_
 refine VO.cons rfl (V1.assign rfl rfl rfl (ltb rfl) ?_)
 refine VO.cons rfl (V1.assign rfl rfl rfl (ltb rfl) ?_)
 refine VO.nil ?_
 refine V.seq ?_
 refine V.seq ?_
 replace hm0 := bindO hm0; rcases hm0 with ⟨y0, hh0, hm0⟩
 refine V.region ?_
 refine VO.cons rfl (V1.move rfl rfl rfl (ltb rfl) ?_)
 refine VO.cons rfl (V1.call rfl rfl rfl cok_12 rfl (ok_impl_AreCartons hh0) rfl (ltb rfl) ?_)
 rintro _ _ ⟨rfl, rfl⟩
 refine VO.cons rfl (V1.not rfl rfl rfl (ltb rfl) ?_)
 refine VO.nil ?_
 refine V.keep 50 [0, 11] [] (E0 := [(0, .vl ρ0 5 (List.map (encCarton ρ0) list)), (11, .bool (!y0))]) (H0 := []) rfl (⟨_, _, rfl, rfl, ⟨_, _, rfl, rfl, rfl⟩⟩) (rfl) rfl ?_
 refine V.cond rfl (fun hc0 => ?_) (fun hc0 => ?_)
 ·
  replace hm0 := cond_t hc0 hm0
  refine V.seq ?_
  refine V.region ?_
  refine VO.cons rfl (V1.assign rfl rfl rfl (ltb rfl) ?_)
  refine VO.cons rfl (V1.assign rfl rfl rfl (ltb rfl) ?_)
  refine VO.nil ?_
  refine V.keep 50 [2, 3] [] (E0 := [(2, .nils), (3, .bool false)]) (H0 := []) rfl (⟨_, _, rfl, rfl, ⟨_, _, rfl, rfl, rfl⟩⟩) (rfl) rfl ?_
  refine V.ret ?_
  obtain rfl := Option.some.inj hm0
  exact ⟨_, _, ⟨_, _, rfl, rfl, ⟨_, _, rfl, rfl, rfl⟩⟩, List.Sublist.refl _, none, (fun _ => rfl), rfl, rfl⟩
 ·
  replace hm0 := cond_f hc0 hm0
  refine V.skip ?_
  refine V.seq ?_
  refine V.region ?_
  refine VO.cons rfl (V1.assign rfl rfl rfl (ltb rfl) ?_)
  refine VO.nil ?_
  refine V.seq ?_
  refine V.seq ?_
  refine V.region ?_
  refine VO.cons rfl (V1.assign rfl rfl rfl (ltb rfl) ?_)
  refine VO.nil ?_
  replace hm0 := bindO hm0; rcases hm0 with ⟨e0, he1, hm0⟩
  refine V.cutT (D := (List (List Int)) × (Option Nat)) (fun ⟨rows, ob0⟩ => ⟨50, [(4, optS 1 ob0 (List.length rows))], optH 1 ob0 (List.map (encL rn 1 encInt) rows)⟩) (fun ⟨rows, ob0⟩ => (rows = e0) ∧ (ob0 = none → rows = [])) ?_ ?_
  ·
   refine V.block ?_
   refine V.keep 50 [4, 5, 0] [] (E0 := [(4, .nils), (5, .int .i64 (1 : Int)), (0, .vl ρ0 5 (List.map (encCarton ρ0) list))]) (H0 := []) rfl (⟨_, _, rfl, rfl, ⟨_, _, rfl, rfl, ⟨_, _, rfl, rfl, rfl⟩⟩⟩) (rfl) rfl ?_
   refine V.loopE (D := Nat × (List (List Int) × Int) × (Option Nat)) (fun ⟨n0, ⟨rows0, room⟩, ob1⟩ => [(4, optS 1 ob1 (List.length rows0)), (5, .int .i64 room)]) (fun ⟨n0, ⟨rows0, room⟩, ob1⟩ => optH 1 ob1 (List.map (encL rn 1 encInt) rows0)) (fun ⟨n0, ⟨rows0, room⟩, ob1⟩ => loopO (M.impl_RoomLoad_l0 list) n0 (rows0, room) = some e0 ∧ (ob1 = none → rows0 = [])) (fun ⟨n0, _, _⟩ => n0) (rounds, (([] : List (List Int)), (1 : Int)), none) rfl ⟨he1, (fun _ => rfl)⟩ ?_
   rintro ⟨n0, ⟨rows0, room⟩, ob1⟩ ⟨hP0, hob1⟩
   obtain ⟨m0, y1, rfl, hm1, hl1, hr1⟩ := loop_head hP0
   unfold M.impl_RoomLoad_l0 at hm1; dsimp only at hm1
   rcases ob1 with _ | ob1
   ·
    replace hob1 := hob1 rfl
    show V _ _ _ ⟨50, [(4, .nils), (5, .int .i64 room), (0, .vl ρ0 5 (List.map (encCarton ρ0) list))], []⟩
    refine V.seq ?_
    refine V.seq ?_
    refine V.region ?_
    refine VO.cons rfl (V1.move rfl rfl rfl (ltb rfl) ?_)
    refine VO.cons rfl (V1.int rfl rfl rfl rfl rfl (ltb rfl) ?_)
    refine VO.nil ?_
    refine V.cond rfl (fun hc1 => ?_) (fun hc1 => ?_)
    ·
     replace hm1 := cond_t hc1 hm1
     refine V.skip ?_
     refine V.seq ?_
     replace hm1 := bindO hm1; rcases hm1 with ⟨j0, hm2, hm1⟩
     refine V.cutT (D := (List (List Int)) × (Option Nat)) (fun ⟨rows1, ob2⟩ => ⟨50, [(4, optS 1 ob2 (List.length rows1)), (0, .vl ρ0 5 (List.map (encCarton ρ0) list)), (5, .int .i64 room)], optH 1 ob2 (List.map (encL rn 1 encInt) rows1)⟩) (fun ⟨rows1, ob2⟩ => (rows1 = j0) ∧ (ob2 = none → rows1 = [])) ?_ ?_
     ·
      refine V.block ?_
      refine V.seq ?_
      refine V.region ?_
      refine VO.cons rfl (V1.move rfl rfl rfl (ltb rfl) ?_)
      refine VO.cons rfl (V1.buildSliceT (f := encInt) ([room, (0 : Int), (0 : Int)] : List Int) rfl rfl esz_38 zk_3 rfl rfl rfl rfl rfl rfl rfl (ltb rfl) ?_)
      intro b0
      refine VO.cons rfl (V1.assign rfl rfl rfl (ltb rfl) ?_)
      refine VO.nil ?_
      refine V.keep 50 [0, 4, 5, 6] [0] (E0 := [(0, .vl ρ0 5 (List.map (encCarton ρ0) list)), (4, .nils), (5, .int .i64 room), (6, .sref b0 1 0 (List.length ([room, (0 : Int), (0 : Int)] : List Int)))]) (H0 := [(b0, ⟨1, List.map encInt ([room, (0 : Int), (0 : Int)] : List Int)⟩)]) rfl (⟨_, _, rfl, rfl, ⟨_, _, rfl, rfl, ⟨_, _, rfl, rfl, ⟨_, _, rfl, rfl, rfl⟩⟩⟩⟩) (⟨_, _, rfl, rfl, rfl⟩) rfl ?_
      refine V.seq ?_
      refine V.seq ?_
      refine V.region ?_
      refine VO.cons rfl (V1.move rfl rfl rfl (ltb rfl) ?_)
      refine VO.cons rfl (V1.lenMap rfl rfl rfl rfl rfl rfl isl_24 (ltb rfl) ?_)
      refine VO.cons rfl (V1.move rfl rfl rfl (ltb rfl) ?_)
      refine VO.nil ?_
      replace hm2 := bindO hm2; rcases hm2 with ⟨e1, he3, hm2⟩
      refine V.cutT (D := (List Int) × (Unit)) (fun ⟨row, _⟩ => ⟨50, [(6, .sref b0 1 0 (List.length row)), (0, .vl ρ0 5 (List.map (encCarton ρ0) list)), (4, .nils), (5, .int .i64 room)], [(b0, ⟨1, List.map encInt row⟩)]⟩) (fun ⟨row, _⟩ => (row = e1)) ?_ ?_
      ·
       refine V.block ?_
       refine V.keep 50 [6, 20, 0, 4, 5, 18, 19] [0] (E0 := [(6, .sref b0 1 0 (List.length ([room, (0 : Int), (0 : Int)] : List Int))), (20, .int .i64 (0 : Int)), (0, .vl ρ0 5 (List.map (encCarton ρ0) list)), (4, .nils), (5, .int .i64 room), (18, .vl ρ0 5 (List.map (encCarton ρ0) list)), (19, .int .i64 (list.length : Int))]) (H0 := [(b0, ⟨1, List.map encInt ([room, (0 : Int), (0 : Int)] : List Int)⟩)]) rfl (⟨_, _, rfl, rfl, ⟨_, _, rfl, rfl, ⟨_, _, rfl, rfl, ⟨_, _, rfl, rfl, ⟨_, _, rfl, rfl, ⟨_, _, rfl, rfl, ⟨_, _, rfl, rfl, rfl⟩⟩⟩⟩⟩⟩⟩) (⟨_, _, rfl, rfl, rfl⟩) rfl ?_
       refine V.loopE (D := Nat × (List Int × Int) × (Unit)) (fun ⟨n1, ⟨row0, v⟩, _⟩ => [(6, .sref b0 1 0 (List.length row0)), (20, .int .i64 v)]) (fun ⟨n1, ⟨row0, v⟩, _⟩ => [(b0, ⟨1, List.map encInt row0⟩)]) (fun ⟨n1, ⟨row0, v⟩, _⟩ => loopO (M.impl_RoomLoad_l1 list room) n1 (row0, v) = some e1) (fun ⟨n1, _, _⟩ => n1) (rounds, (([room, (0 : Int), (0 : Int)] : List Int), (0 : Int)), ()) rfl he3 ?_
       rintro ⟨n1, ⟨row0, v⟩, _⟩ hP1
       obtain ⟨m1, y2, rfl, hm3, hl3, hr3⟩ := loop_head hP1
       unfold M.impl_RoomLoad_l1 at hm3; dsimp only at hm3
       show V _ _ _ ⟨50, [(6, .sref b0 1 0 (List.length row0)), (20, .int .i64 v), (0, .vl ρ0 5 (List.map (encCarton ρ0) list)), (4, .nils), (5, .int .i64 room), (18, .vl ρ0 5 (List.map (encCarton ρ0) list)), (19, .int .i64 (list.length : Int))], [(b0, ⟨1, List.map encInt row0⟩)]⟩
       refine V.seq ?_
       refine V.region ?_
       refine VO.cons rfl (V1.int rfl rfl rfl rfl rfl (ltb rfl) ?_)
       refine VO.nil ?_
       refine V.seq ?_
       refine V.cond rfl (fun hc2 => ?_) (fun hc2 => ?_)
       ·
        replace hm3 := cond_t hc2 hm3
        refine V.skip ?_
        refine V.seq ?_
        replace hm3 := bindO hm3; rcases hm3 with ⟨j1, hm4, hm3⟩
        refine V.cutT (D := (List Int) × (Unit)) (fun ⟨row1, _⟩ => ⟨50, [(6, .sref b0 1 0 (List.length row1)), (0, .vl ρ0 5 (List.map (encCarton ρ0) list)), (4, .nils), (5, .int .i64 room), (18, .vl ρ0 5 (List.map (encCarton ρ0) list)), (19, .int .i64 (list.length : Int)), (20, .int .i64 v)], [(b0, ⟨1, List.map encInt row1⟩)]⟩) (fun ⟨row1, _⟩ => (row1 = j1)) ?_ ?_
        ·
         refine V.block ?_
         refine V.seq ?_
         replace hm4 := asrt_some hm4; rcases hm4 with ⟨hh1, hm4⟩
         refine V.region ?_
         refine VO.cons rfl (V1.indexI rfl rfl esz_24 rfl rfl hh1 (ltb rfl) ?_)
         refine VO.cons rfl (V1.loadPinAll rfl rfl tyk_40 rfl rfl (ltb rfl) ?_)
         refine VO.cons rfl (V1.alloc rfl rfl zk_40 (ltb rfl) ?_)
         intro b1
         refine VO.cons rfl (V1.storeRefAll (k := 0) rfl rfl tyk_40 rfl rfl rfl rfl rfl rfl ?_)
         refine VO.nil ?_
         refine V.seq ?_
         refine V.region ?_
         refine VO.cons rfl (V1.fieldRef rfl rfl fo_40_2 rfl (ltb rfl) ?_)
         refine VO.cons rfl (V1.loadRef (k := 0) rfl rfl tyk_3 rfl rfl rfl rfl rfl (ltb rfl) ?_)
         refine VO.cons rfl (V1.move rfl rfl rfl (ltb rfl) ?_)
         refine VO.cons rfl (V1.int rfl rfl rfl rfl rfl (ltb rfl) ?_)
         refine VO.nil ?_
         refine V.keep 50 [0, 4, 5, 6, 8, 18, 19, 20, 27] [0, 1] (E0 := [(0, .vl ρ0 5 (List.map (encCarton ρ0) list)), (4, .nils), (5, .int .i64 room), (6, .sref b0 1 0 (List.length row0)), (8, .ref b1 5 0 0), (18, .vl ρ0 5 (List.map (encCarton ρ0) list)), (19, .int .i64 (list.length : Int)), (20, .int .i64 v), (27, .bool (((list.getD (Int.toNat v) default).Room) == room))]) (H0 := [(b1, ⟨5, [encCarton ρ0 (list.getD (Int.toNat v) default)]⟩), (b0, ⟨1, List.map encInt row0⟩)]) rfl (⟨_, _, rfl, rfl, ⟨_, _, rfl, rfl, ⟨_, _, rfl, rfl, ⟨_, _, rfl, rfl, ⟨_, _, rfl, rfl, ⟨_, _, rfl, rfl, ⟨_, _, rfl, rfl, ⟨_, _, rfl, rfl, ⟨_, _, rfl, rfl, rfl⟩⟩⟩⟩⟩⟩⟩⟩⟩) (⟨_, _, rfl, rfl, ⟨_, _, rfl, rfl, rfl⟩⟩) rfl ?_
         refine V.cond rfl (fun hc3 => ?_) (fun hc3 => ?_)
         ·
          replace hm4 := cond_t hc3 hm4
          refine V.seq ?_
          replace hm4 := asrt_some hm4; rcases hm4 with ⟨hh2, hm4⟩
          replace hm4 := asrt_some hm4; rcases hm4 with ⟨hh3, hm4⟩
          refine V.region ?_
          refine VO.cons rfl (V1.move rfl rfl rfl (ltb rfl) ?_)
          refine VO.cons rfl (V1.indexSr rfl rfl esz_38 rfl rfl hh2 (ltb rfl) ?_)
          refine VO.cons rfl (V1.loadMap (k := 1) (f := encInt) rfl rfl tyk_3 rfl rfl (by simpa using natLt hh2.1 hh2.2) rfl (ltb rfl) ?_)
          refine VO.cons rfl (V1.int rfl rfl rfl rfl rfl (ltb rfl) ?_)
          refine VO.cons rfl (V1.indexSr rfl rfl esz_38 rfl rfl hh3 (ltb rfl) ?_)
          refine VO.cons rfl (V1.storeMap (k := 1) (f := encInt) (x := (IntKind.i64.wrap ((row0.getD (Int.toNat (1 : Int)) default) + (1 : Int)))) rfl rfl tyk_3 rfl rfl (by simpa using natLt hh3.1 hh3.2) rfl rfl ?_)
          refine VO.weakenK (Keeps.say 6 (y := .sref b0 1 0 (List.length (row0.set (Int.toNat (1 : Int)) (IntKind.i64.wrap ((row0.getD (Int.toNat (1 : Int)) default) + (1 : Int)))))) rfl (by simp [optS])) ?_
          refine VO.nil ?_
          refine V.keep 50 [0, 4, 5, 6, 8, 18, 19, 20] [0, 1] (E0 := [(0, .vl ρ0 5 (List.map (encCarton ρ0) list)), (4, .nils), (5, .int .i64 room), (6, .sref b0 1 0 (List.length (row0.set (Int.toNat (1 : Int)) (IntKind.i64.wrap ((row0.getD (Int.toNat (1 : Int)) default) + (1 : Int)))))), (8, .ref b1 5 0 0), (18, .vl ρ0 5 (List.map (encCarton ρ0) list)), (19, .int .i64 (list.length : Int)), (20, .int .i64 v)]) (H0 := [(b1, ⟨5, [encCarton ρ0 (list.getD (Int.toNat v) default)]⟩), (b0, ⟨1, List.map encInt (row0.set (Int.toNat (1 : Int)) (IntKind.i64.wrap ((row0.getD (Int.toNat (1 : Int)) default) + (1 : Int))))⟩)]) rfl (⟨_, _, rfl, rfl, ⟨_, _, rfl, rfl, ⟨_, _, rfl, rfl, ⟨_, _, rfl, rfl, ⟨_, _, rfl, rfl, ⟨_, _, rfl, rfl, ⟨_, _, rfl, rfl, ⟨_, _, rfl, rfl, rfl⟩⟩⟩⟩⟩⟩⟩⟩) (⟨_, _, rfl, rfl, ⟨_, _, rfl, rfl, rfl⟩⟩) rfl ?_
          replace hm4 := asrt_some hm4; rcases hm4 with ⟨hh4, hm4⟩
          replace hm4 := asrt_some hm4; rcases hm4 with ⟨hh5, hm4⟩
          refine V.regionM 50 5 [⟨[(6, none)], [], none⟩, ⟨[(33, some 0)], [], none⟩, ⟨[(34, some 0)], [], none⟩, ⟨[(8, none)], [], none⟩, ⟨[(36, some 0)], [], none⟩] [(0, none), (4, none), (5, none), (6, none), (18, none), (19, none), (20, none), (33, some 4), (35, some 2), (37, some 0)] (⟨_, rfl, ⟨_, rfl, ⟨_, rfl, ⟨_, rfl, ⟨_, rfl, ⟨rfl, rfl⟩⟩⟩⟩⟩⟩) mixed_orders rfl (by decide +kernel) (fun hck13 => ?_)
          refine VP.step (p := ?pv1356) rfl rfl rfl (⟨_, _, rfl, rfl, rfl⟩) ?hv1356 ?rest1356 hck13
          case hv1356 =>
           intro E1
           refine (V1.move rfl rfl rfl (ltb rfl) ?_)
           exact rfl
          refine VP.step (p := ?pv1357) rfl rfl rfl (⟨_, _, rfl, rfl, rfl⟩) ?hv1357 ?rest1357 hck13
          case hv1357 =>
           intro E1
           refine (V1.indexSr rfl rfl esz_38 rfl rfl hh4 (ltb rfl) ?_)
           exact rfl
          refine VP.step (p := ?pv1358) rfl rfl rfl (⟨_, _, rfl, rfl, rfl⟩) ?hv1358 ?rest1358 hck13
          case hv1358 =>
           intro E1
           refine (V1.loadMap (k := 1) (f := encInt) rfl rfl tyk_3 rfl rfl (by simpa using natLt hh4.1 hh4.2) rfl (ltb rfl) ?_)
           exact rfl
          refine VP.step (p := ?pv1359) rfl rfl rfl (⟨_, _, rfl, rfl, rfl⟩) ?hv1359 ?rest1359 hck13
          case hv1359 =>
           intro E1
           refine (V1.fieldRef rfl rfl fo_40_4 rfl (ltb rfl) ?_)
           exact rfl
          refine VP.step (p := ?pv1360) rfl rfl rfl (⟨_, _, rfl, rfl, rfl⟩) ?hv1360 ?rest1360 hck13
          case hv1360 =>
           intro E1
           refine (V1.loadRef (k := 0) rfl rfl tyk_3 rfl rfl rfl rfl rfl (ltb rfl) ?_)
           exact rfl
          refine VP.fin rfl (⟨_, _, rfl, rfl, ⟨_, _, rfl, rfl, ⟨_, _, rfl, rfl, ⟨_, _, rfl, rfl, ⟨_, _, rfl, rfl, ⟨_, _, rfl, rfl, ⟨_, _, rfl, rfl, ⟨_, _, rfl, rfl, ⟨_, _, rfl, rfl, ⟨_, _, rfl, rfl, rfl⟩⟩⟩⟩⟩⟩⟩⟩⟩⟩) ?_
          refine VO.cons rfl (V1.int rfl rfl rfl rfl rfl (ltb rfl) ?_)
          refine VO.cons rfl (V1.indexSr rfl rfl esz_38 rfl rfl hh5 (ltb rfl) ?_)
          refine VO.cons rfl (V1.storeMap (k := 1) (f := encInt) (x := (IntKind.i64.wrap (((row0.set (Int.toNat (1 : Int)) (IntKind.i64.wrap ((row0.getD (Int.toNat (1 : Int)) default) + (1 : Int)))).getD (Int.toNat (2 : Int)) default) + ((list.getD (Int.toNat v) default).Thick)))) rfl rfl tyk_3 rfl rfl (by simpa using natLt hh5.1 hh5.2) rfl rfl ?_)
          refine VO.weakenK (Keeps.say 6 (y := .sref b0 1 0 (List.length ((row0.set (Int.toNat (1 : Int)) (IntKind.i64.wrap ((row0.getD (Int.toNat (1 : Int)) default) + (1 : Int)))).set (Int.toNat (2 : Int)) (IntKind.i64.wrap (((row0.set (Int.toNat (1 : Int)) (IntKind.i64.wrap ((row0.getD (Int.toNat (1 : Int)) default) + (1 : Int)))).getD (Int.toNat (2 : Int)) default) + ((list.getD (Int.toNat v) default).Thick)))))) rfl (by simp [optS])) ?_
          refine VO.nil ?_
          exact ⟨(((row0.set (Int.toNat (1 : Int)) (IntKind.i64.wrap ((row0.getD (Int.toNat (1 : Int)) default) + (1 : Int)))).set (Int.toNat (2 : Int)) (IntKind.i64.wrap (((row0.set (Int.toNat (1 : Int)) (IntKind.i64.wrap ((row0.getD (Int.toNat (1 : Int)) default) + (1 : Int)))).getD (Int.toNat (2 : Int)) default) + ((list.getD (Int.toNat v) default).Thick)))), ()), Option.some.inj hm4, Keeps.mk (ks := [1]) rfl ⟨(someSref (by simp)), rfl, rfl, rfl, rfl, rfl, rfl, trivial⟩ (⟨_, _, rfl, rfl, rfl⟩) rfl⟩
         ·
          replace hm4 := cond_f hc3 hm4
          refine V.skip ?_
          exact ⟨(row0, ()), Option.some.inj hm4, Keeps.mk (ks := [1]) rfl ⟨(someSref (by simp)), rfl, rfl, rfl, rfl, rfl, rfl, trivial⟩ (⟨_, _, rfl, rfl, rfl⟩) rfl⟩
        ·
         rintro ⟨row1, _⟩ rfl
         try dsimp only at hm3
         refine V.region ?_
         refine VO.cons rfl (V1.int rfl rfl rfl rfl rfl (ltb rfl) ?_)
         refine VO.cons rfl (V1.move rfl rfl rfl (ltb rfl) ?_)
         refine VO.nil ?_
         exact ⟨(m1, (row1, (IntKind.i64.wrap (v + (1 : Int)))), ()), hl3 _ (Option.some.inj hm3).symm, Nat.lt_succ_self _, Keeps.mk (ks := [0]) rfl ⟨(someSref (by simp)), rfl, rfl, rfl, rfl, rfl, rfl, trivial⟩ (⟨_, _, rfl, rfl, rfl⟩) rfl⟩
       ·
        replace hm3 := cond_f hc2 hm3
        refine V.exit ?_
        obtain rfl := hr3 _ (Option.some.inj hm3).symm
        exact ⟨(row0, ()), rfl, Keeps.mk (ks := [0]) rfl ⟨(someSref (by simp)), rfl, rfl, rfl, trivial⟩ (⟨_, _, rfl, rfl, rfl⟩) rfl⟩
      ·
       rintro ⟨row, _⟩ rfl
       try dsimp only at hm2
       refine V.seq ?_
       replace hm2 := asrt_some hm2; rcases hm2 with ⟨hh6, hm2⟩
       refine V.region ?_
       refine VO.cons rfl (V1.move rfl rfl rfl (ltb rfl) ?_)
       refine VO.cons rfl (V1.indexSr rfl rfl esz_38 rfl rfl hh6 (ltb rfl) ?_)
       refine VO.cons rfl (V1.loadMap (k := 0) (f := encInt) rfl rfl tyk_3 rfl rfl (by simpa using natLt hh6.1 hh6.2) rfl (ltb rfl) ?_)
       refine VO.cons rfl (V1.int rfl rfl rfl rfl rfl (ltb rfl) ?_)
       refine VO.nil ?_
       refine V.cond rfl (fun hc4 => ?_) (fun hc4 => ?_)
       ·
        replace hm2 := cond_t hc4 hm2
        replace hm2 := asrt_some hm2; rcases hm2 with ⟨hh7, hm2⟩
        refine V.region ?_
        refine VO.cons rfl (V1.move rfl rfl rfl (ltb rfl) ?_)
        refine VO.cons rfl (V1.move rfl rfl rfl (ltb rfl) ?_)
        refine VO.weakenK (Keeps.freezeG 0 rn [(6, .vl rn 1 (List.map encInt row)), (41, .vl rn 1 (List.map encInt row)), (46, .vl rn 1 (List.map encInt row))] [] (f := encInt) (l := row) rfl (fun _ => rfl) ⟨⟨_, rfl, .here⟩, ⟨_, rfl, .here⟩, ⟨_, rfl, .here⟩, trivial⟩ rfl rfl iNil) ?_
        refine VO.cons rfl (V1.buildSliceT (f := (encL rn 1 encInt)) ([row] : List (List Int)) rfl rfl esz_50 zk_38 rfl rfl rfl rfl rfl rfl rfl (ltb rfl) ?_)
        intro b2
        refine VO.cons rfl (V1.appendNilE (f := (encL rn 1 encInt)) (l := rows0) (m := ([row] : List (List Int))) hob1 rfl rfl rfl rfl rfl esz_50 eby_50 zk_38 rfl rfl rfl (SrcOf.srMap (k := 0) rfl isl_50) rfl hh7 (ltb rfl) ?_)
        intro b3
        refine VO.cons rfl (V1.assign rfl rfl rfl (ltb rfl) ?_)
        refine VO.nil ?_
        exact ⟨((rows0 ++ ([row] : List (List Int))), (some b3)), ⟨Option.some.inj hm2, (fun e => by cases e)⟩, Keeps.mk (ks := [0]) rfl ⟨rfl, rfl, rfl, trivial⟩ (⟨_, _, rfl, rfl, rfl⟩) rfl⟩
       ·
        replace hm2 := cond_f hc4 hm2
        refine V.skip ?_
        exact ⟨(rows0, none), ⟨Option.some.inj hm2, (fun _ => hob1)⟩, Keeps.mk (ks := []) rfl ⟨rfl, rfl, rfl, trivial⟩ (rfl) rfl⟩
     ·
      rintro ⟨rows1, ob2⟩ ⟨rfl, hob2⟩
      try dsimp only at hm1
      rcases ob2 with _ | ob2
      ·
       replace hob2 := hob2 rfl
       refine V.region ?_
       refine VO.cons rfl (V1.move rfl rfl rfl (ltb rfl) ?_)
       refine VO.cons rfl (V1.int rfl rfl rfl rfl rfl (ltb rfl) ?_)
       refine VO.cons rfl (V1.assign rfl rfl rfl (ltb rfl) ?_)
       refine VO.nil ?_
       exact ⟨(m0, (rows1, (IntKind.i64.wrap (room + (1 : Int)))), none), ⟨hl1 _ (Option.some.inj hm1).symm, (fun _ => hob2)⟩, Nat.lt_succ_self _, Keeps.mk (ks := []) rfl ⟨rfl, rfl, rfl, trivial⟩ (rfl) rfl⟩
      ·
       refine V.region ?_
       refine VO.cons rfl (V1.move rfl rfl rfl (ltb rfl) ?_)
       refine VO.cons rfl (V1.int rfl rfl rfl rfl rfl (ltb rfl) ?_)
       refine VO.cons rfl (V1.assign rfl rfl rfl (ltb rfl) ?_)
       refine VO.nil ?_
       exact ⟨(m0, (rows1, (IntKind.i64.wrap (room + (1 : Int)))), (some ob2)), ⟨hl1 _ (Option.some.inj hm1).symm, (fun e => by cases e)⟩, Nat.lt_succ_self _, Keeps.mk (ks := [0]) rfl ⟨rfl, rfl, rfl, trivial⟩ (⟨_, _, rfl, rfl, rfl⟩) rfl⟩
    ·
     replace hm1 := cond_f hc1 hm1
     refine V.exit ?_
     obtain rfl := hr1 _ (Option.some.inj hm1).symm
     exact ⟨(rows0, none), ⟨rfl, (fun _ => hob1)⟩, Keeps.mk (ks := []) rfl ⟨rfl, trivial⟩ (rfl) rfl⟩
   ·
    show V _ _ _ ⟨50, [(4, .sref ob1 1 0 (List.length rows0)), (5, .int .i64 room), (0, .vl ρ0 5 (List.map (encCarton ρ0) list))], [(ob1, ⟨1, List.map (encL rn 1 encInt) rows0⟩)]⟩
    refine V.seq ?_
    refine V.seq ?_
    refine V.region ?_
    refine VO.cons rfl (V1.move rfl rfl rfl (ltb rfl) ?_)
    refine VO.cons rfl (V1.int rfl rfl rfl rfl rfl (ltb rfl) ?_)
    refine VO.nil ?_
    refine V.cond rfl (fun hc1 => ?_) (fun hc1 => ?_)
    ·
     replace hm1 := cond_t hc1 hm1
     refine V.skip ?_
     refine V.seq ?_
     replace hm1 := bindO hm1; rcases hm1 with ⟨j0, hm2, hm1⟩
     refine V.cutT (D := (List (List Int)) × (Nat)) (fun ⟨rows1, b0⟩ => ⟨50, [(4, .sref b0 1 0 (List.length rows1)), (0, .vl ρ0 5 (List.map (encCarton ρ0) list)), (5, .int .i64 room)], [(b0, ⟨1, List.map (encL rn 1 encInt) rows1⟩)]⟩) (fun ⟨rows1, b0⟩ => (rows1 = j0)) ?_ ?_
     ·
      refine V.block ?_
      refine V.seq ?_
      refine V.region ?_
      refine VO.cons rfl (V1.move rfl rfl rfl (ltb rfl) ?_)
      refine VO.cons rfl (V1.buildSliceT (f := encInt) ([room, (0 : Int), (0 : Int)] : List Int) rfl rfl esz_38 zk_3 rfl rfl rfl rfl rfl rfl rfl (ltb rfl) ?_)
      intro b1
      refine VO.cons rfl (V1.assign rfl rfl rfl (ltb rfl) ?_)
      refine VO.nil ?_
      refine V.keep 50 [0, 4, 5, 6] [0, 1] (E0 := [(0, .vl ρ0 5 (List.map (encCarton ρ0) list)), (4, .sref ob1 1 0 (List.length rows0)), (5, .int .i64 room), (6, .sref b1 1 0 (List.length ([room, (0 : Int), (0 : Int)] : List Int)))]) (H0 := [(b1, ⟨1, List.map encInt ([room, (0 : Int), (0 : Int)] : List Int)⟩), (ob1, ⟨1, List.map (encL rn 1 encInt) rows0⟩)]) rfl (⟨_, _, rfl, rfl, ⟨_, _, rfl, rfl, ⟨_, _, rfl, rfl, ⟨_, _, rfl, rfl, rfl⟩⟩⟩⟩) (⟨_, _, rfl, rfl, ⟨_, _, rfl, rfl, rfl⟩⟩) rfl ?_
      refine V.seq ?_
      refine V.seq ?_
      refine V.region ?_
      refine VO.cons rfl (V1.move rfl rfl rfl (ltb rfl) ?_)
      refine VO.cons rfl (V1.lenMap rfl rfl rfl rfl rfl rfl isl_24 (ltb rfl) ?_)
      refine VO.cons rfl (V1.move rfl rfl rfl (ltb rfl) ?_)
      refine VO.nil ?_
      replace hm2 := bindO hm2; rcases hm2 with ⟨e1, he3, hm2⟩
      refine V.cutT (D := (List Int) × (Unit)) (fun ⟨row, _⟩ => ⟨50, [(6, .sref b1 1 0 (List.length row)), (0, .vl ρ0 5 (List.map (encCarton ρ0) list)), (4, .sref ob1 1 0 (List.length rows0)), (5, .int .i64 room)], [(b1, ⟨1, List.map encInt row⟩), (ob1, ⟨1, List.map (encL rn 1 encInt) rows0⟩)]⟩) (fun ⟨row, _⟩ => (row = e1)) ?_ ?_
      ·
       refine V.block ?_
       refine V.keep 50 [6, 20, 0, 4, 5, 18, 19] [0, 1] (E0 := [(6, .sref b1 1 0 (List.length ([room, (0 : Int), (0 : Int)] : List Int))), (20, .int .i64 (0 : Int)), (0, .vl ρ0 5 (List.map (encCarton ρ0) list)), (4, .sref ob1 1 0 (List.length rows0)), (5, .int .i64 room), (18, .vl ρ0 5 (List.map (encCarton ρ0) list)), (19, .int .i64 (list.length : Int))]) (H0 := [(b1, ⟨1, List.map encInt ([room, (0 : Int), (0 : Int)] : List Int)⟩), (ob1, ⟨1, List.map (encL rn 1 encInt) rows0⟩)]) rfl (⟨_, _, rfl, rfl, ⟨_, _, rfl, rfl, ⟨_, _, rfl, rfl, ⟨_, _, rfl, rfl, ⟨_, _, rfl, rfl, ⟨_, _, rfl, rfl, ⟨_, _, rfl, rfl, rfl⟩⟩⟩⟩⟩⟩⟩) (⟨_, _, rfl, rfl, ⟨_, _, rfl, rfl, rfl⟩⟩) rfl ?_
       refine V.loopE (D := Nat × (List Int × Int) × (Unit)) (fun ⟨n1, ⟨row0, v⟩, _⟩ => [(6, .sref b1 1 0 (List.length row0)), (20, .int .i64 v)]) (fun ⟨n1, ⟨row0, v⟩, _⟩ => [(b1, ⟨1, List.map encInt row0⟩)]) (fun ⟨n1, ⟨row0, v⟩, _⟩ => loopO (M.impl_RoomLoad_l1 list room) n1 (row0, v) = some e1) (fun ⟨n1, _, _⟩ => n1) (rounds, (([room, (0 : Int), (0 : Int)] : List Int), (0 : Int)), ()) rfl he3 ?_
       rintro ⟨n1, ⟨row0, v⟩, _⟩ hP1
       obtain ⟨m1, y2, rfl, hm3, hl3, hr3⟩ := loop_head hP1
       unfold M.impl_RoomLoad_l1 at hm3; dsimp only at hm3
       show V _ _ _ ⟨50, [(6, .sref b1 1 0 (List.length row0)), (20, .int .i64 v), (0, .vl ρ0 5 (List.map (encCarton ρ0) list)), (4, .sref ob1 1 0 (List.length rows0)), (5, .int .i64 room), (18, .vl ρ0 5 (List.map (encCarton ρ0) list)), (19, .int .i64 (list.length : Int))], [(b1, ⟨1, List.map encInt row0⟩), (ob1, ⟨1, List.map (encL rn 1 encInt) rows0⟩)]⟩
       refine V.seq ?_
       refine V.region ?_
       refine VO.cons rfl (V1.int rfl rfl rfl rfl rfl (ltb rfl) ?_)
       refine VO.nil ?_
       refine V.seq ?_
       refine V.cond rfl (fun hc2 => ?_) (fun hc2 => ?_)
       ·
        replace hm3 := cond_t hc2 hm3
        refine V.skip ?_
        refine V.seq ?_
        replace hm3 := bindO hm3; rcases hm3 with ⟨j1, hm4, hm3⟩
        refine V.cutT (D := (List Int) × (Unit)) (fun ⟨row1, _⟩ => ⟨50, [(6, .sref b1 1 0 (List.length row1)), (0, .vl ρ0 5 (List.map (encCarton ρ0) list)), (4, .sref ob1 1 0 (List.length rows0)), (5, .int .i64 room), (18, .vl ρ0 5 (List.map (encCarton ρ0) list)), (19, .int .i64 (list.length : Int)), (20, .int .i64 v)], [(b1, ⟨1, List.map encInt row1⟩), (ob1, ⟨1, List.map (encL rn 1 encInt) rows0⟩)]⟩) (fun ⟨row1, _⟩ => (row1 = j1)) ?_ ?_
        ·
         refine V.block ?_
         refine V.seq ?_
         replace hm4 := asrt_some hm4; rcases hm4 with ⟨hh1, hm4⟩
         refine V.region ?_
         refine VO.cons rfl (V1.indexI rfl rfl esz_24 rfl rfl hh1 (ltb rfl) ?_)
         refine VO.cons rfl (V1.loadPinAll rfl rfl tyk_40 rfl rfl (ltb rfl) ?_)
         refine VO.cons rfl (V1.alloc rfl rfl zk_40 (ltb rfl) ?_)
         intro b2
         refine VO.cons rfl (V1.storeRefAll (k := 0) rfl rfl tyk_40 rfl rfl rfl rfl rfl rfl ?_)
         refine VO.nil ?_
         refine V.seq ?_
         refine V.region ?_
         refine VO.cons rfl (V1.fieldRef rfl rfl fo_40_2 rfl (ltb rfl) ?_)
         refine VO.cons rfl (V1.loadRef (k := 0) rfl rfl tyk_3 rfl rfl rfl rfl rfl (ltb rfl) ?_)
         refine VO.cons rfl (V1.move rfl rfl rfl (ltb rfl) ?_)
         refine VO.cons rfl (V1.int rfl rfl rfl rfl rfl (ltb rfl) ?_)
         refine VO.nil ?_
         refine V.keep 50 [0, 4, 5, 6, 8, 18, 19, 20, 27] [0, 1, 2] (E0 := [(0, .vl ρ0 5 (List.map (encCarton ρ0) list)), (4, .sref ob1 1 0 (List.length rows0)), (5, .int .i64 room), (6, .sref b1 1 0 (List.length row0)), (8, .ref b2 5 0 0), (18, .vl ρ0 5 (List.map (encCarton ρ0) list)), (19, .int .i64 (list.length : Int)), (20, .int .i64 v), (27, .bool (((list.getD (Int.toNat v) default).Room) == room))]) (H0 := [(b2, ⟨5, [encCarton ρ0 (list.getD (Int.toNat v) default)]⟩), (b1, ⟨1, List.map encInt row0⟩), (ob1, ⟨1, List.map (encL rn 1 encInt) rows0⟩)]) rfl (⟨_, _, rfl, rfl, ⟨_, _, rfl, rfl, ⟨_, _, rfl, rfl, ⟨_, _, rfl, rfl, ⟨_, _, rfl, rfl, ⟨_, _, rfl, rfl, ⟨_, _, rfl, rfl, ⟨_, _, rfl, rfl, ⟨_, _, rfl, rfl, rfl⟩⟩⟩⟩⟩⟩⟩⟩⟩) (⟨_, _, rfl, rfl, ⟨_, _, rfl, rfl, ⟨_, _, rfl, rfl, rfl⟩⟩⟩) rfl ?_
         refine V.cond rfl (fun hc3 => ?_) (fun hc3 => ?_)
         ·
          replace hm4 := cond_t hc3 hm4
          refine V.seq ?_
          replace hm4 := asrt_some hm4; rcases hm4 with ⟨hh2, hm4⟩
          replace hm4 := asrt_some hm4; rcases hm4 with ⟨hh3, hm4⟩
          refine V.region ?_
          refine VO.cons rfl (V1.move rfl rfl rfl (ltb rfl) ?_)
          refine VO.cons rfl (V1.indexSr rfl rfl esz_38 rfl rfl hh2 (ltb rfl) ?_)
          refine VO.cons rfl (V1.loadMap (k := 1) (f := encInt) rfl rfl tyk_3 rfl rfl (by simpa using natLt hh2.1 hh2.2) rfl (ltb rfl) ?_)
          refine VO.cons rfl (V1.int rfl rfl rfl rfl rfl (ltb rfl) ?_)
          refine VO.cons rfl (V1.indexSr rfl rfl esz_38 rfl rfl hh3 (ltb rfl) ?_)
          refine VO.cons rfl (V1.storeMap (k := 1) (f := encInt) (x := (IntKind.i64.wrap ((row0.getD (Int.toNat (1 : Int)) default) + (1 : Int)))) rfl rfl tyk_3 rfl rfl (by simpa using natLt hh3.1 hh3.2) rfl rfl ?_)
          refine VO.weakenK (Keeps.say 6 (y := .sref b1 1 0 (List.length (row0.set (Int.toNat (1 : Int)) (IntKind.i64.wrap ((row0.getD (Int.toNat (1 : Int)) default) + (1 : Int)))))) rfl (by simp [optS])) ?_
          refine VO.nil ?_
          refine V.keep 50 [0, 4, 5, 6, 8, 18, 19, 20] [0, 1, 2] (E0 := [(0, .vl ρ0 5 (List.map (encCarton ρ0) list)), (4, .sref ob1 1 0 (List.length rows0)), (5, .int .i64 room), (6, .sref b1 1 0 (List.length (row0.set (Int.toNat (1 : Int)) (IntKind.i64.wrap ((row0.getD (Int.toNat (1 : Int)) default) + (1 : Int)))))), (8, .ref b2 5 0 0), (18, .vl ρ0 5 (List.map (encCarton ρ0) list)), (19, .int .i64 (list.length : Int)), (20, .int .i64 v)]) (H0 := [(b2, ⟨5, [encCarton ρ0 (list.getD (Int.toNat v) default)]⟩), (b1, ⟨1, List.map encInt (row0.set (Int.toNat (1 : Int)) (IntKind.i64.wrap ((row0.getD (Int.toNat (1 : Int)) default) + (1 : Int))))⟩), (ob1, ⟨1, List.map (encL rn 1 encInt) rows0⟩)]) rfl (⟨_, _, rfl, rfl, ⟨_, _, rfl, rfl, ⟨_, _, rfl, rfl, ⟨_, _, rfl, rfl, ⟨_, _, rfl, rfl, ⟨_, _, rfl, rfl, ⟨_, _, rfl, rfl, ⟨_, _, rfl, rfl, rfl⟩⟩⟩⟩⟩⟩⟩⟩) (⟨_, _, rfl, rfl, ⟨_, _, rfl, rfl, ⟨_, _, rfl, rfl, rfl⟩⟩⟩) rfl ?_
          replace hm4 := asrt_some hm4; rcases hm4 with ⟨hh4, hm4⟩
          replace hm4 := asrt_some hm4; rcases hm4 with ⟨hh5, hm4⟩
          refine V.regionM 50 5 [⟨[(6, none)], [], none⟩, ⟨[(33, some 0)], [], none⟩, ⟨[(34, some 0)], [], none⟩, ⟨[(8, none)], [], none⟩, ⟨[(36, some 0)], [], none⟩] [(0, none), (4, none), (5, none), (6, none), (18, none), (19, none), (20, none), (33, some 4), (35, some 2), (37, some 0)] (⟨_, rfl, ⟨_, rfl, ⟨_, rfl, ⟨_, rfl, ⟨_, rfl, ⟨rfl, rfl⟩⟩⟩⟩⟩⟩) mixed_orders rfl (by decide +kernel) (fun hck13 => ?_)
          refine VP.step (p := ?pv1436) rfl rfl rfl (⟨_, _, rfl, rfl, rfl⟩) ?hv1436 ?rest1436 hck13
          case hv1436 =>
           intro E1
           refine (V1.move rfl rfl rfl (ltb rfl) ?_)
           exact rfl
          refine VP.step (p := ?pv1437) rfl rfl rfl (⟨_, _, rfl, rfl, rfl⟩) ?hv1437 ?rest1437 hck13
          case hv1437 =>
           intro E1
           refine (V1.indexSr rfl rfl esz_38 rfl rfl hh4 (ltb rfl) ?_)
           exact rfl
          refine VP.step (p := ?pv1438) rfl rfl rfl (⟨_, _, rfl, rfl, rfl⟩) ?hv1438 ?rest1438 hck13
          case hv1438 =>
           intro E1
           refine (V1.loadMap (k := 1) (f := encInt) rfl rfl tyk_3 rfl rfl (by simpa using natLt hh4.1 hh4.2) rfl (ltb rfl) ?_)
           exact rfl
          refine VP.step (p := ?pv1439) rfl rfl rfl (⟨_, _, rfl, rfl, rfl⟩) ?hv1439 ?rest1439 hck13
          case hv1439 =>
           intro E1
           refine (V1.fieldRef rfl rfl fo_40_4 rfl (ltb rfl) ?_)
           exact rfl
          refine VP.step (p := ?pv1440) rfl rfl rfl (⟨_, _, rfl, rfl, rfl⟩) ?hv1440 ?rest1440 hck13
          case hv1440 =>
           intro E1
           refine (V1.loadRef (k := 0) rfl rfl tyk_3 rfl rfl rfl rfl rfl (ltb rfl) ?_)
           exact rfl
          refine VP.fin rfl (⟨_, _, rfl, rfl, ⟨_, _, rfl, rfl, ⟨_, _, rfl, rfl, ⟨_, _, rfl, rfl, ⟨_, _, rfl, rfl, ⟨_, _, rfl, rfl, ⟨_, _, rfl, rfl, ⟨_, _, rfl, rfl, ⟨_, _, rfl, rfl, ⟨_, _, rfl, rfl, rfl⟩⟩⟩⟩⟩⟩⟩⟩⟩⟩) ?_
          refine VO.cons rfl (V1.int rfl rfl rfl rfl rfl (ltb rfl) ?_)
          refine VO.cons rfl (V1.indexSr rfl rfl esz_38 rfl rfl hh5 (ltb rfl) ?_)
          refine VO.cons rfl (V1.storeMap (k := 1) (f := encInt) (x := (IntKind.i64.wrap (((row0.set (Int.toNat (1 : Int)) (IntKind.i64.wrap ((row0.getD (Int.toNat (1 : Int)) default) + (1 : Int)))).getD (Int.toNat (2 : Int)) default) + ((list.getD (Int.toNat v) default).Thick)))) rfl rfl tyk_3 rfl rfl (by simpa using natLt hh5.1 hh5.2) rfl rfl ?_)
          refine VO.weakenK (Keeps.say 6 (y := .sref b1 1 0 (List.length ((row0.set (Int.toNat (1 : Int)) (IntKind.i64.wrap ((row0.getD (Int.toNat (1 : Int)) default) + (1 : Int)))).set (Int.toNat (2 : Int)) (IntKind.i64.wrap (((row0.set (Int.toNat (1 : Int)) (IntKind.i64.wrap ((row0.getD (Int.toNat (1 : Int)) default) + (1 : Int)))).getD (Int.toNat (2 : Int)) default) + ((list.getD (Int.toNat v) default).Thick)))))) rfl (by simp [optS])) ?_
          refine VO.nil ?_
          exact ⟨(((row0.set (Int.toNat (1 : Int)) (IntKind.i64.wrap ((row0.getD (Int.toNat (1 : Int)) default) + (1 : Int)))).set (Int.toNat (2 : Int)) (IntKind.i64.wrap (((row0.set (Int.toNat (1 : Int)) (IntKind.i64.wrap ((row0.getD (Int.toNat (1 : Int)) default) + (1 : Int)))).getD (Int.toNat (2 : Int)) default) + ((list.getD (Int.toNat v) default).Thick)))), ()), Option.some.inj hm4, Keeps.mk (ks := [1, 2]) rfl ⟨(someSref (by simp)), rfl, rfl, rfl, rfl, rfl, rfl, trivial⟩ (⟨_, _, rfl, rfl, ⟨_, _, rfl, rfl, rfl⟩⟩) rfl⟩
         ·
          replace hm4 := cond_f hc3 hm4
          refine V.skip ?_
          exact ⟨(row0, ()), Option.some.inj hm4, Keeps.mk (ks := [1, 2]) rfl ⟨(someSref (by simp)), rfl, rfl, rfl, rfl, rfl, rfl, trivial⟩ (⟨_, _, rfl, rfl, ⟨_, _, rfl, rfl, rfl⟩⟩) rfl⟩
        ·
         rintro ⟨row1, _⟩ rfl
         try dsimp only at hm3
         refine V.region ?_
         refine VO.cons rfl (V1.int rfl rfl rfl rfl rfl (ltb rfl) ?_)
         refine VO.cons rfl (V1.move rfl rfl rfl (ltb rfl) ?_)
         refine VO.nil ?_
         exact ⟨(m1, (row1, (IntKind.i64.wrap (v + (1 : Int)))), ()), hl3 _ (Option.some.inj hm3).symm, Nat.lt_succ_self _, Keeps.mk (ks := [0, 1]) rfl ⟨(someSref (by simp)), rfl, rfl, rfl, rfl, rfl, rfl, trivial⟩ (⟨_, _, rfl, rfl, ⟨_, _, rfl, rfl, rfl⟩⟩) rfl⟩
       ·
        replace hm3 := cond_f hc2 hm3
        refine V.exit ?_
        obtain rfl := hr3 _ (Option.some.inj hm3).symm
        exact ⟨(row0, ()), rfl, Keeps.mk (ks := [0, 1]) rfl ⟨(someSref (by simp)), rfl, rfl, rfl, trivial⟩ (⟨_, _, rfl, rfl, ⟨_, _, rfl, rfl, rfl⟩⟩) rfl⟩
      ·
       rintro ⟨row, _⟩ rfl
       try dsimp only at hm2
       refine V.seq ?_
       replace hm2 := asrt_some hm2; rcases hm2 with ⟨hh6, hm2⟩
       refine V.region ?_
       refine VO.cons rfl (V1.move rfl rfl rfl (ltb rfl) ?_)
       refine VO.cons rfl (V1.indexSr rfl rfl esz_38 rfl rfl hh6 (ltb rfl) ?_)
       refine VO.cons rfl (V1.loadMap (k := 0) (f := encInt) rfl rfl tyk_3 rfl rfl (by simpa using natLt hh6.1 hh6.2) rfl (ltb rfl) ?_)
       refine VO.cons rfl (V1.int rfl rfl rfl rfl rfl (ltb rfl) ?_)
       refine VO.nil ?_
       refine V.cond rfl (fun hc4 => ?_) (fun hc4 => ?_)
       ·
        replace hm2 := cond_t hc4 hm2
        replace hm2 := asrt_some hm2; rcases hm2 with ⟨hh7, hm2⟩
        refine V.region ?_
        refine VO.cons rfl (V1.move rfl rfl rfl (ltb rfl) ?_)
        refine VO.cons rfl (V1.move rfl rfl rfl (ltb rfl) ?_)
        refine VO.weakenK (Keeps.freezeG 0 rn [(6, .vl rn 1 (List.map encInt row)), (41, .vl rn 1 (List.map encInt row)), (46, .vl rn 1 (List.map encInt row))] [(ob1, ⟨1, List.map (encL rn 1 encInt) rows0⟩)] (f := encInt) (l := row) rfl (fun _ => rfl) ⟨⟨_, rfl, .here⟩, ⟨_, rfl, .here⟩, ⟨_, rfl, .here⟩, trivial⟩ ⟨_, _, rfl, rfl, .inl rfl, rfl⟩ rfl iNil) ?_
        refine VO.cons rfl (V1.buildSliceT (f := (encL rn 1 encInt)) ([row] : List (List Int)) rfl rfl esz_50 zk_38 rfl rfl rfl rfl rfl rfl rfl (ltb rfl) ?_)
        intro b3
        refine VO.cons rfl (V1.appendMap (k := 1) (f := (encL rn 1 encInt)) (l := rows0) (m := ([row] : List (List Int))) rfl rfl rfl rfl rfl esz_50 eby_50 zk_38 rfl rfl rfl (SrcOf.srMap (k := 0) rfl isl_50) hh7 (ltb rfl) ?_)
        intro b4
        refine VO.cons rfl (V1.assign rfl rfl rfl (ltb rfl) ?_)
        refine VO.nil ?_
        exact ⟨((rows0 ++ ([row] : List (List Int))), b4), Option.some.inj hm2, Keeps.mk (ks := [0]) rfl ⟨rfl, rfl, rfl, trivial⟩ (⟨_, _, rfl, rfl, rfl⟩) rfl⟩
       ·
        replace hm2 := cond_f hc4 hm2
        refine V.skip ?_
        exact ⟨(rows0, ob1), Option.some.inj hm2, Keeps.mk (ks := [1]) rfl ⟨rfl, rfl, rfl, trivial⟩ (⟨_, _, rfl, rfl, rfl⟩) rfl⟩
     ·
      rintro ⟨rows1, b0⟩ rfl
      try dsimp only at hm1
      refine V.region ?_
      refine VO.cons rfl (V1.move rfl rfl rfl (ltb rfl) ?_)
      refine VO.cons rfl (V1.int rfl rfl rfl rfl rfl (ltb rfl) ?_)
      refine VO.cons rfl (V1.assign rfl rfl rfl (ltb rfl) ?_)
      refine VO.nil ?_
      exact ⟨(m0, (rows1, (IntKind.i64.wrap (room + (1 : Int)))), (some b0)), ⟨hl1 _ (Option.some.inj hm1).symm, (fun e => by cases e)⟩, Nat.lt_succ_self _, Keeps.mk (ks := [0]) rfl ⟨rfl, rfl, rfl, trivial⟩ (⟨_, _, rfl, rfl, rfl⟩) rfl⟩
    ·
     replace hm1 := cond_f hc1 hm1
     refine V.exit ?_
     obtain rfl := hr1 _ (Option.some.inj hm1).symm
     exact ⟨(rows0, (some ob1)), ⟨rfl, (fun e => by cases e)⟩, Keeps.mk (ks := [0]) rfl ⟨rfl, trivial⟩ (⟨_, _, rfl, rfl, rfl⟩) rfl⟩
  ·
   rintro ⟨rows, ob0⟩ ⟨rfl, hob0⟩
   try dsimp only at hm0
   rcases ob0 with _ | ob0
   ·
    replace hob0 := hob0 rfl
    refine V.seq ?_
    refine V.region ?_
    refine VO.cons rfl (V1.move rfl rfl rfl (ltb rfl) ?_)
    refine VO.cons rfl (V1.assign rfl rfl rfl (ltb rfl) ?_)
    refine VO.cons rfl (V1.assign rfl rfl rfl (ltb rfl) ?_)
    refine VO.nil ?_
    refine V.keep 50 [2, 3] [] (E0 := [(2, .nils), (3, .bool true)]) (H0 := []) rfl (⟨_, _, rfl, rfl, ⟨_, _, rfl, rfl, rfl⟩⟩) (rfl) rfl ?_
    refine V.ret ?_
    obtain rfl := Option.some.inj hm0
    exact ⟨_, _, ⟨_, _, rfl, rfl, ⟨_, _, rfl, rfl, rfl⟩⟩, List.Sublist.refl _, none, (fun _ => hob0), rfl, rfl⟩
   ·
    refine V.seq ?_
    refine V.region ?_
    refine VO.cons rfl (V1.move rfl rfl rfl (ltb rfl) ?_)
    refine VO.cons rfl (V1.assign rfl rfl rfl (ltb rfl) ?_)
    refine VO.cons rfl (V1.assign rfl rfl rfl (ltb rfl) ?_)
    refine VO.nil ?_
    refine V.keep 50 [2, 3] [0] (E0 := [(2, .sref ob0 1 0 (List.length rows)), (3, .bool true)]) (H0 := [(ob0, ⟨1, List.map (encL rn 1 encInt) rows⟩)]) rfl (⟨_, _, rfl, rfl, ⟨_, _, rfl, rfl, rfl⟩⟩) (⟨_, _, rfl, rfl, rfl⟩) rfl ?_
    refine V.ret ?_
    obtain rfl := Option.some.inj hm0
    exact ⟨_, _, ⟨_, _, rfl, rfl, ⟨_, _, rfl, rfl, rfl⟩⟩, List.Sublist.refl _, some ob0, (fun e => by cases e), rfl, rfl⟩

theorem ok_spec_RoomLoad {ρ0 σ0 rn : Nat} {list : List Carton} {r : List (List Int) × Bool} (h : M.spec_RoomLoad list = some r) : Does Try.prog 32 [.vl ρ0 5 (List.map (encCarton σ0) list)] [] rn (fun x H => ∃ (ob0_ : Nat), x = .tup [PV.sref ob0_ 1 0 (List.length r.1), .bool r.2] ∧ H = [(ob0_, ⟨1, List.map (encL rn 1 encInt) r.1⟩)]) := by
 have hm0 := h; clear h; unfold M.spec_RoomLoad at hm0
 try dsimp only at hm0
 refine Does.intro (N := 50) Try.func32 rfl rfl rfl rfl ?_
 intro w0 S0
 refine V.seq ?_
 refine V.region ?_
 refine VO.cons rfl (V1.assign rfl rfl rfl (ltb rfl) ?_)
 refine VO.cons rfl (V1.assign rfl rfl rfl (ltb rfl) ?_)
 refine VO.nil ?_
 refine V.seq ?_
 refine V.region ?_
 refine VO.cons rfl (V1.buildSliceT (f := (encL rn 1 encInt)) ([] : List (List Int)) rfl rfl esz_50 zk_38 rfl rfl rfl rfl rfl rfl rfl (ltb rfl) ?_)
 intro b0
 refine VO.cons rfl (V1.assign rfl rfl rfl (ltb rfl) ?_)
 refine VO.nil ?_
 refine V.seq ?_
 refine V.seq ?_
 replace hm0 := bindO hm0; rcases hm0 with ⟨y0, hh0, hm0⟩
 refine V.region ?_
 refine VO.cons rfl (V1.move rfl rfl rfl (ltb rfl) ?_)
 refine VO.cons rfl (V1.call rfl rfl rfl cok_69 rfl (ok_spec_l18Good hh0) rfl (ltb rfl) ?_)
 rintro _ _ ⟨rfl, rfl⟩
 refine VO.cons rfl (V1.not rfl rfl rfl (ltb rfl) ?_)
 refine VO.nil ?_
 refine V.keep 50 [0, 4, 12] [0] (E0 := [(0, .vl ρ0 5 (List.map (encCarton σ0) list)), (4, .sref b0 1 0 (List.length ([] : List (List Int)))), (12, .bool (!y0))]) (H0 := [(b0, ⟨1, List.map (encL rn 1 encInt) ([] : List (List Int))⟩)]) rfl (⟨_, _, rfl, rfl, ⟨_, _, rfl, rfl, ⟨_, _, rfl, rfl, rfl⟩⟩⟩) (⟨_, _, rfl, rfl, rfl⟩) rfl ?_
 refine V.cond rfl (fun hc0 => ?_) (fun hc0 => ?_)
 ·
  replace hm0 := cond_t hc0 hm0
  refine V.seq ?_
  refine V.region ?_
  refine VO.cons rfl (V1.move rfl rfl rfl (ltb rfl) ?_)
  refine VO.cons rfl (V1.assign rfl rfl rfl (ltb rfl) ?_)
  refine VO.cons rfl (V1.assign rfl rfl rfl (ltb rfl) ?_)
  refine VO.nil ?_
  refine V.keep 50 [2, 3] [0] (E0 := [(2, .sref b0 1 0 (List.length ([] : List (List Int)))), (3, .bool false)]) (H0 := [(b0, ⟨1, List.map (encL rn 1 encInt) ([] : List (List Int))⟩)]) rfl (⟨_, _, rfl, rfl, ⟨_, _, rfl, rfl, rfl⟩⟩) (⟨_, _, rfl, rfl, rfl⟩) rfl ?_
  refine V.ret ?_
  obtain rfl := Option.some.inj hm0
  exact ⟨_, _, ⟨_, _, rfl, rfl, ⟨_, _, rfl, rfl, rfl⟩⟩, List.Sublist.refl _, b0, rfl, rfl⟩
 ·
  replace hm0 := cond_f hc0 hm0
  refine V.skip ?_
  refine V.seq ?_
  refine V.seq ?_
  refine V.region ?_
  refine VO.cons rfl (V1.assign rfl rfl rfl (ltb rfl) ?_)
  refine VO.nil ?_
  replace hm0 := bindO hm0; rcases hm0 with ⟨e0, he1, hm0⟩
  refine V.cutT (D := (List (List Int)) × (Nat)) (fun ⟨out_, b1⟩ => ⟨50, [(4, .sref b1 1 0 (List.length out_))], [(b1, ⟨1, List.map (encL rn 1 encInt) out_⟩)]⟩) (fun ⟨out_, b1⟩ => (out_ = e0)) ?_ ?_
  ·
   refine V.block ?_
   refine V.keep 50 [4, 5, 0] [0] (E0 := [(4, .sref b0 1 0 (List.length ([] : List (List Int)))), (5, .int .i64 (1 : Int)), (0, .vl ρ0 5 (List.map (encCarton σ0) list))]) (H0 := [(b0, ⟨1, List.map (encL rn 1 encInt) ([] : List (List Int))⟩)]) rfl (⟨_, _, rfl, rfl, ⟨_, _, rfl, rfl, ⟨_, _, rfl, rfl, rfl⟩⟩⟩) (⟨_, _, rfl, rfl, rfl⟩) rfl ?_
   refine V.loopE (D := Nat × (List (List Int) × Int) × (Nat)) (fun ⟨n0, ⟨out_0, room⟩, b2⟩ => [(4, .sref b2 1 0 (List.length out_0)), (5, .int .i64 room)]) (fun ⟨n0, ⟨out_0, room⟩, b2⟩ => [(b2, ⟨1, List.map (encL rn 1 encInt) out_0⟩)]) (fun ⟨n0, ⟨out_0, room⟩, b2⟩ => loopO (M.spec_RoomLoad_l0 list) n0 (out_0, room) = some e0) (fun ⟨n0, _, _⟩ => n0) (rounds, (([] : List (List Int)), (1 : Int)), b0) rfl he1 ?_
   rintro ⟨n0, ⟨out_0, room⟩, b2⟩ hP0
   obtain ⟨m0, y1, rfl, hm1, hl1, hr1⟩ := loop_head hP0
   unfold M.spec_RoomLoad_l0 at hm1; dsimp only at hm1
   show V _ _ _ ⟨50, [(4, .sref b2 1 0 (List.length out_0)), (5, .int .i64 room), (0, .vl ρ0 5 (List.map (encCarton σ0) list))], [(b2, ⟨1, List.map (encL rn 1 encInt) out_0⟩)]⟩
   refine V.seq ?_
   refine V.seq ?_
   refine V.region ?_
   refine VO.cons rfl (V1.move rfl rfl rfl (ltb rfl) ?_)
   refine VO.cons rfl (V1.int rfl rfl rfl rfl rfl (ltb rfl) ?_)
   refine VO.nil ?_
   refine V.cond rfl (fun hc1 => ?_) (fun hc1 => ?_)
   ·
    replace hm1 := cond_t hc1 hm1
    refine V.skip ?_
    refine V.seq ?_
    replace hm1 := bindO hm1; rcases hm1 with ⟨j0, hm2, hm1⟩
    refine V.cutT (D := (List (List Int)) × (Nat)) (fun ⟨out_1, b3⟩ => ⟨50, [(4, .sref b3 1 0 (List.length out_1)), (0, .vl ρ0 5 (List.map (encCarton σ0) list)), (5, .int .i64 room)], [(b3, ⟨1, List.map (encL rn 1 encInt) out_1⟩)]⟩) (fun ⟨out_1, b3⟩ => (out_1 = j0)) ?_ ?_
    ·
     refine V.block ?_
     refine V.seq ?_
     refine V.region ?_
     refine VO.cons rfl (V1.assign rfl rfl rfl (ltb rfl) ?_)
     refine VO.cons rfl (V1.assign rfl rfl rfl (ltb rfl) ?_)
     refine VO.nil ?_
     refine V.seq ?_
     refine V.seq ?_
     refine V.region ?_
     refine VO.cons rfl (V1.assign rfl rfl rfl (ltb rfl) ?_)
     refine VO.nil ?_
     replace hm2 := bindO hm2; rcases hm2 with ⟨e1, he3, hm2⟩
     refine V.cutT (D := (Int × Int) × (Unit)) (fun ⟨⟨n_, thick⟩, _⟩ => ⟨50, [(6, .int .i64 n_), (7, .int .i64 thick), (0, .vl ρ0 5 (List.map (encCarton σ0) list)), (4, .sref b2 1 0 (List.length out_0)), (5, .int .i64 room)], [(b2, ⟨1, List.map (encL rn 1 encInt) out_0⟩)]⟩) (fun ⟨⟨n_, thick⟩, _⟩ => ((n_, thick) = e1)) ?_ ?_
     ·
      refine V.block ?_
      refine V.keep 50 [6, 7, 8, 0, 4, 5] [0] (E0 := [(6, .int .i64 (0 : Int)), (7, .int .i64 (0 : Int)), (8, .int .i64 (0 : Int)), (0, .vl ρ0 5 (List.map (encCarton σ0) list)), (4, .sref b2 1 0 (List.length out_0)), (5, .int .i64 room)]) (H0 := [(b2, ⟨1, List.map (encL rn 1 encInt) out_0⟩)]) rfl (⟨_, _, rfl, rfl, ⟨_, _, rfl, rfl, ⟨_, _, rfl, rfl, ⟨_, _, rfl, rfl, ⟨_, _, rfl, rfl, ⟨_, _, rfl, rfl, rfl⟩⟩⟩⟩⟩⟩) (⟨_, _, rfl, rfl, rfl⟩) rfl ?_
      refine V.loopE (D := Nat × (Int × Int × Int) × (Unit)) (fun ⟨n1, ⟨n_0, thick0, i⟩, _⟩ => [(6, .int .i64 n_0), (7, .int .i64 thick0), (8, .int .i64 i)]) (fun ⟨n1, ⟨n_0, thick0, i⟩, _⟩ => []) (fun ⟨n1, ⟨n_0, thick0, i⟩, _⟩ => loopO (M.spec_RoomLoad_l1 list room) n1 (n_0, thick0, i) = some e1) (fun ⟨n1, _, _⟩ => n1) (rounds, ((0 : Int), (0 : Int), (0 : Int)), ()) rfl he3 ?_
      rintro ⟨n1, ⟨n_0, thick0, i⟩, _⟩ hP1
      obtain ⟨m1, y2, rfl, hm3, hl3, hr3⟩ := loop_head hP1
      unfold M.spec_RoomLoad_l1 at hm3; dsimp only at hm3
      show V _ _ _ ⟨50, [(6, .int .i64 n_0), (7, .int .i64 thick0), (8, .int .i64 i), (0, .vl ρ0 5 (List.map (encCarton σ0) list)), (4, .sref b2 1 0 (List.length out_0)), (5, .int .i64 room)], [(b2, ⟨1, List.map (encL rn 1 encInt) out_0⟩)]⟩
      refine V.seq ?_
      refine V.seq ?_
      refine V.region ?_
      refine VO.cons rfl (V1.move rfl rfl rfl (ltb rfl) ?_)
      refine VO.cons rfl (V1.move rfl rfl rfl (ltb rfl) ?_)
      refine VO.cons rfl (V1.lenMap rfl rfl rfl rfl rfl rfl isl_24 (ltb rfl) ?_)
      refine VO.cons rfl (V1.int rfl rfl rfl rfl rfl (ltb rfl) ?_)
      refine VO.nil ?_
      refine V.cond rfl (fun hc2 => ?_) (fun hc2 => ?_)
      ·
       replace hm3 := cond_t hc2 hm3
       refine V.skip ?_
       refine V.keep 50 [0, 4, 5, 6, 7, 8] [0] (E0 := [(0, .vl ρ0 5 (List.map (encCarton σ0) list)), (4, .sref b2 1 0 (List.length out_0)), (5, .int .i64 room), (6, .int .i64 n_0), (7, .int .i64 thick0), (8, .int .i64 i)]) (H0 := [(b2, ⟨1, List.map (encL rn 1 encInt) out_0⟩)]) rfl (⟨_, _, rfl, rfl, ⟨_, _, rfl, rfl, ⟨_, _, rfl, rfl, ⟨_, _, rfl, rfl, ⟨_, _, rfl, rfl, ⟨_, _, rfl, rfl, rfl⟩⟩⟩⟩⟩⟩) (⟨_, _, rfl, rfl, rfl⟩) rfl ?_
       refine V.seq ?_
       replace hm3 := bindO hm3; rcases hm3 with ⟨j1, hm4, hm3⟩
       refine V.cutT (D := (Int × Int) × (Unit)) (fun ⟨⟨n_1, thick1⟩, _⟩ => ⟨50, [(6, .int .i64 n_1), (7, .int .i64 thick1), (0, .vl ρ0 5 (List.map (encCarton σ0) list)), (4, .sref b2 1 0 (List.length out_0)), (5, .int .i64 room), (8, .int .i64 i)], [(b2, ⟨1, List.map (encL rn 1 encInt) out_0⟩)]⟩) (fun ⟨⟨n_1, thick1⟩, _⟩ => ((n_1, thick1) = j1)) ?_ ?_
       ·
        refine V.block ?_
        refine V.seq ?_
        replace hm4 := asrt_some hm4; rcases hm4 with ⟨hh1, hm4⟩
        refine V.region ?_
        refine VO.cons rfl (V1.move rfl rfl rfl (ltb rfl) ?_)
        refine VO.cons rfl (V1.move rfl rfl rfl (ltb rfl) ?_)
        refine VO.cons rfl (V1.indexI rfl rfl esz_24 rfl rfl hh1 (ltb rfl) ?_)
        refine VO.cons rfl (V1.fieldPin rfl rfl fo_40_2 rfl (ltb rfl) ?_)
        refine VO.cons rfl (V1.loadPin rfl rfl tyk_3 rfl rfl (ltb rfl) ?_)
        refine VO.cons rfl (V1.move rfl rfl rfl (ltb rfl) ?_)
        refine VO.cons rfl (V1.int rfl rfl rfl rfl rfl (ltb rfl) ?_)
        refine VO.nil ?_
        refine V.keep 50 [0, 4, 5, 6, 7, 8, 30] [0] (E0 := [(0, .vl ρ0 5 (List.map (encCarton σ0) list)), (4, .sref b2 1 0 (List.length out_0)), (5, .int .i64 room), (6, .int .i64 n_0), (7, .int .i64 thick0), (8, .int .i64 i), (30, .bool (((list.getD (Int.toNat i) default).Room) == room))]) (H0 := [(b2, ⟨1, List.map (encL rn 1 encInt) out_0⟩)]) rfl (⟨_, _, rfl, rfl, ⟨_, _, rfl, rfl, ⟨_, _, rfl, rfl, ⟨_, _, rfl, rfl, ⟨_, _, rfl, rfl, ⟨_, _, rfl, rfl, ⟨_, _, rfl, rfl, rfl⟩⟩⟩⟩⟩⟩⟩) (⟨_, _, rfl, rfl, rfl⟩) rfl ?_
        refine V.cond rfl (fun hc3 => ?_) (fun hc3 => ?_)
        ·
         replace hm4 := cond_t hc3 hm4
         refine V.seq ?_
         refine V.region ?_
         refine VO.cons rfl (V1.move rfl rfl rfl (ltb rfl) ?_)
         refine VO.cons rfl (V1.int rfl rfl rfl rfl rfl (ltb rfl) ?_)
         refine VO.cons rfl (V1.assign rfl rfl rfl (ltb rfl) ?_)
         refine VO.nil ?_
         replace hm4 := asrt_some hm4; rcases hm4 with ⟨hh2, hm4⟩
         refine V.region ?_
         refine VO.cons rfl (V1.move rfl rfl rfl (ltb rfl) ?_)
         refine VO.cons rfl (V1.move rfl rfl rfl (ltb rfl) ?_)
         refine VO.cons rfl (V1.move rfl rfl rfl (ltb rfl) ?_)
         refine VO.cons rfl (V1.indexI rfl rfl esz_24 rfl rfl hh2 (ltb rfl) ?_)
         refine VO.cons rfl (V1.fieldPin rfl rfl fo_40_4 rfl (ltb rfl) ?_)
         refine VO.cons rfl (V1.loadPin rfl rfl tyk_3 rfl rfl (ltb rfl) ?_)
         refine VO.cons rfl (V1.int rfl rfl rfl rfl rfl (ltb rfl) ?_)
         refine VO.cons rfl (V1.assign rfl rfl rfl (ltb rfl) ?_)
         refine VO.nil ?_
         exact ⟨(((IntKind.i64.wrap (n_0 + (1 : Int))), (IntKind.i64.wrap (thick0 + ((list.getD (Int.toNat i) default).Thick)))), ()), Option.some.inj hm4, Keeps.mk (ks := [0]) rfl ⟨rfl, rfl, rfl, rfl, rfl, rfl, trivial⟩ (⟨_, _, rfl, rfl, rfl⟩) rfl⟩
        ·
         replace hm4 := cond_f hc3 hm4
         refine V.skip ?_
         exact ⟨((n_0, thick0), ()), Option.some.inj hm4, Keeps.mk (ks := [0]) rfl ⟨rfl, rfl, rfl, rfl, rfl, rfl, trivial⟩ (⟨_, _, rfl, rfl, rfl⟩) rfl⟩
       ·
        rintro ⟨⟨n_1, thick1⟩, _⟩ rfl
        try dsimp only at hm3
        refine V.region ?_
        refine VO.cons rfl (V1.move rfl rfl rfl (ltb rfl) ?_)
        refine VO.cons rfl (V1.int rfl rfl rfl rfl rfl (ltb rfl) ?_)
        refine VO.cons rfl (V1.assign rfl rfl rfl (ltb rfl) ?_)
        refine VO.nil ?_
        exact ⟨(m1, (n_1, thick1, (IntKind.i64.wrap (i + (1 : Int)))), ()), hl3 _ (Option.some.inj hm3).symm, Nat.lt_succ_self _, Keeps.mk (ks := [0]) rfl ⟨rfl, rfl, rfl, rfl, rfl, rfl, trivial⟩ (⟨_, _, rfl, rfl, rfl⟩) rfl⟩
      ·
       replace hm3 := cond_f hc2 hm3
       refine V.exit ?_
       obtain rfl := hr3 _ (Option.some.inj hm3).symm
       exact ⟨((n_0, thick0), ()), rfl, Keeps.mk (ks := [0]) rfl ⟨rfl, rfl, rfl, rfl, rfl, trivial⟩ (⟨_, _, rfl, rfl, rfl⟩) rfl⟩
     ·
      rintro ⟨⟨n_, thick⟩, _⟩ rfl
      try dsimp only at hm2
      refine V.seq ?_
      refine V.region ?_
      refine VO.cons rfl (V1.move rfl rfl rfl (ltb rfl) ?_)
      refine VO.cons rfl (V1.int rfl rfl rfl rfl rfl (ltb rfl) ?_)
      refine VO.nil ?_
      refine V.cond rfl (fun hc4 => ?_) (fun hc4 => ?_)
      ·
       replace hm2 := cond_t hc4 hm2
       replace hm2 := asrt_some hm2; rcases hm2 with ⟨hh3, hm2⟩
       refine V.region ?_
       refine VO.cons rfl (V1.move rfl rfl rfl (ltb rfl) ?_)
       refine VO.cons rfl (V1.move rfl rfl rfl (ltb rfl) ?_)
       refine VO.cons rfl (V1.move rfl rfl rfl (ltb rfl) ?_)
       refine VO.cons rfl (V1.move rfl rfl rfl (ltb rfl) ?_)
       refine VO.cons rfl (V1.buildSliceT (f := encInt) ([room, n_, thick] : List Int) rfl rfl esz_38 zk_3 rfl rfl rfl rfl rfl rfl rfl (ltb rfl) ?_)
       intro b4
       refine VO.weakenK (Keeps.freezeG 0 rn [(46, .vl rn 1 (List.map encInt ([room, n_, thick] : List Int)))] [(b2, ⟨1, List.map (encL rn 1 encInt) out_0⟩)] (f := encInt) (l := ([room, n_, thick] : List Int)) rfl (fun _ => rfl) ⟨⟨_, rfl, .here⟩, trivial⟩ ⟨_, _, rfl, rfl, .inl rfl, rfl⟩ rfl iNil) ?_
       refine VO.cons rfl (V1.buildSliceT (f := (encL rn 1 encInt)) ([([room, n_, thick] : List Int)] : List (List Int)) rfl rfl esz_50 zk_38 rfl rfl rfl rfl rfl rfl rfl (ltb rfl) ?_)
       intro b5
       refine VO.cons rfl (V1.appendMap (k := 1) (f := (encL rn 1 encInt)) (l := out_0) (m := ([([room, n_, thick] : List Int)] : List (List Int))) rfl rfl rfl rfl rfl esz_50 eby_50 zk_38 rfl rfl rfl (SrcOf.srMap (k := 0) rfl isl_50) hh3 (ltb rfl) ?_)
       intro b6
       refine VO.cons rfl (V1.assign rfl rfl rfl (ltb rfl) ?_)
       refine VO.nil ?_
       exact ⟨((out_0 ++ ([([room, n_, thick] : List Int)] : List (List Int))), b6), Option.some.inj hm2, Keeps.mk (ks := [0]) rfl ⟨rfl, rfl, rfl, trivial⟩ (⟨_, _, rfl, rfl, rfl⟩) rfl⟩
      ·
       replace hm2 := cond_f hc4 hm2
       refine V.skip ?_
       exact ⟨(out_0, b2), Option.some.inj hm2, Keeps.mk (ks := [0]) rfl ⟨rfl, rfl, rfl, trivial⟩ (⟨_, _, rfl, rfl, rfl⟩) rfl⟩
    ·
     rintro ⟨out_1, b3⟩ rfl
     try dsimp only at hm1
     refine V.region ?_
     refine VO.cons rfl (V1.move rfl rfl rfl (ltb rfl) ?_)
     refine VO.cons rfl (V1.int rfl rfl rfl rfl rfl (ltb rfl) ?_)
     refine VO.cons rfl (V1.assign rfl rfl rfl (ltb rfl) ?_)
     refine VO.nil ?_
     exact ⟨(m0, (out_1, (IntKind.i64.wrap (room + (1 : Int)))), b3), hl1 _ (Option.some.inj hm1).symm, Nat.lt_succ_self _, Keeps.mk (ks := [0]) rfl ⟨rfl, rfl, rfl, trivial⟩ (⟨_, _, rfl, rfl, rfl⟩) rfl⟩
   ·
    replace hm1 := cond_f hc1 hm1
    refine V.exit ?_
    obtain rfl := hr1 _ (Option.some.inj hm1).symm
    exact ⟨(out_0, b2), rfl, Keeps.mk (ks := [0]) rfl ⟨rfl, trivial⟩ (⟨_, _, rfl, rfl, rfl⟩) rfl⟩
  ·
   rintro ⟨out_, b1⟩ rfl
   try dsimp only at hm0
   refine V.seq ?_
   refine V.region ?_
   refine VO.cons rfl (V1.move rfl rfl rfl (ltb rfl) ?_)
   refine VO.cons rfl (V1.assign rfl rfl rfl (ltb rfl) ?_)
   refine VO.cons rfl (V1.assign rfl rfl rfl (ltb rfl) ?_)
   refine VO.nil ?_
   refine V.keep 50 [2, 3] [0] (E0 := [(2, .sref b1 1 0 (List.length out_)), (3, .bool true)]) (H0 := [(b1, ⟨1, List.map (encL rn 1 encInt) out_⟩)]) rfl (⟨_, _, rfl, rfl, ⟨_, _, rfl, rfl, rfl⟩⟩) (⟨_, _, rfl, rfl, rfl⟩) rfl ?_
   refine V.ret ?_
   obtain rfl := Option.some.inj hm0
   exact ⟨_, _, ⟨_, _, rfl, rfl, ⟨_, _, rfl, rfl, rfl⟩⟩, List.Sublist.refl _, b1, rfl, rfl⟩

theorem ok_laws_rTable {ρ0 σ0 ρ1 σ1 rn : Nat} {a : List (List Int)} {b_ : List (List Int)} {r : Bool} (h : M.laws_rTable a b_ = some r) : Does Try.prog 33 [.vl ρ0 1 (List.map (encL σ0 1 encInt) a), .vl ρ1 1 (List.map (encL σ1 1 encInt) b_)] [] rn (fun x H => x = .bool r ∧ H = []) := by
 have hm0 := h; clear h; unfold M.laws_rTable at hm0
 try dsimp only at hm0
 refine Does.intro (N := 27) Try.func33 rfl rfl rfl rfl ?_
 intro w0 S0
 refine V.seq ?_
 refine V.region ?_
 refine VO.cons rfl (V1.assign rfl rfl rfl (ltb rfl) ?_)
 refine VO.nil ?_
 refine V.seq ?_
 refine V.seq ?_
 refine V.region ?_
 refine VO.cons rfl (V1.move rfl rfl rfl (ltb rfl) ?_)
 refine VO.cons rfl (V1.lenMap rfl rfl rfl rfl rfl rfl isl_50 (ltb rfl) ?_)
 refine VO.cons rfl (V1.move rfl rfl rfl (ltb rfl) ?_)
 refine VO.cons rfl (V1.lenMap rfl rfl rfl rfl rfl rfl isl_50 (ltb rfl) ?_)
 refine VO.cons rfl (V1.int rfl rfl rfl rfl rfl (ltb rfl) ?_)
 refine VO.nil ?_
 refine V.keep 27 [0, 1, 10] [] (E0 := [(0, .vl ρ0 1 (List.map (encL σ0 1 encInt) a)), (1, .vl ρ1 1 (List.map (encL σ1 1 encInt) b_)), (10, .bool ((a.length : Int) != (b_.length : Int)))]) (H0 := []) rfl (⟨_, _, rfl, rfl, ⟨_, _, rfl, rfl, ⟨_, _, rfl, rfl, rfl⟩⟩⟩) (rfl) rfl ?_
 refine V.cond rfl (fun hc0 => ?_) (fun hc0 => ?_)
 ·
  replace hm0 := cond_t hc0 hm0
  refine V.seq ?_
  refine V.region ?_
  refine VO.cons rfl (V1.assign rfl rfl rfl (ltb rfl) ?_)
  refine VO.nil ?_
  refine V.ret ?_
  obtain rfl := Option.some.inj hm0
  exact ⟨_, [], ⟨_, _, rfl, rfl, rfl⟩, List.nil_sublist _, rfl, rfl⟩
 ·
  replace hm0 := cond_f hc0 hm0
  refine V.skip ?_
  refine V.seq ?_
  refine V.seq ?_
  refine V.region ?_
  refine VO.cons rfl (V1.assign rfl rfl rfl (ltb rfl) ?_)
  refine VO.nil ?_
  replace hm0 := bindO hm0; rcases hm0 with ⟨e0, he1, hm0⟩
  refine V.cutT (D := (Unit) × (Unit)) (fun ⟨_, _⟩ => ⟨27, [], []⟩) (fun ⟨_, _⟩ => (.inl () = e0)) ?_ ?_
  ·
   refine V.block ?_
   refine V.keep 27 [5, 0, 1] [] (E0 := [(5, .int .i64 (0 : Int)), (0, .vl ρ0 1 (List.map (encL σ0 1 encInt) a)), (1, .vl ρ1 1 (List.map (encL σ1 1 encInt) b_))]) (H0 := []) rfl (⟨_, _, rfl, rfl, ⟨_, _, rfl, rfl, ⟨_, _, rfl, rfl, rfl⟩⟩⟩) (rfl) rfl ?_
   refine V.loopE (D := Nat × (Int) × (Unit)) (fun ⟨n0, i, _⟩ => [(5, .int .i64 i)]) (fun ⟨n0, i, _⟩ => []) (fun ⟨n0, i, _⟩ => loopO (M.laws_rTable_l0 a b_) n0 i = some e0) (fun ⟨n0, _, _⟩ => n0) (rounds, (0 : Int), ()) rfl he1 ?_
   rintro ⟨n0, i, _⟩ hP0
   obtain ⟨m0, y0, rfl, hm1, hl1, hr1⟩ := loop_head hP0
   unfold M.laws_rTable_l0 at hm1; dsimp only at hm1
   show V _ _ _ ⟨27, [(5, .int .i64 i), (0, .vl ρ0 1 (List.map (encL σ0 1 encInt) a)), (1, .vl ρ1 1 (List.map (encL σ1 1 encInt) b_))], []⟩
   refine V.seq ?_
   refine V.seq ?_
   refine V.region ?_
   refine VO.cons rfl (V1.move rfl rfl rfl (ltb rfl) ?_)
   refine VO.cons rfl (V1.move rfl rfl rfl (ltb rfl) ?_)
   refine VO.cons rfl (V1.lenMap rfl rfl rfl rfl rfl rfl isl_50 (ltb rfl) ?_)
   refine VO.cons rfl (V1.int rfl rfl rfl rfl rfl (ltb rfl) ?_)
   refine VO.nil ?_
   refine V.cond rfl (fun hc1 => ?_) (fun hc1 => ?_)
   ·
    replace hm1 := cond_t hc1 hm1
    refine V.skip ?_
    refine V.keep 27 [0, 1, 5] [] (E0 := [(0, .vl ρ0 1 (List.map (encL σ0 1 encInt) a)), (1, .vl ρ1 1 (List.map (encL σ1 1 encInt) b_)), (5, .int .i64 i)]) (H0 := []) rfl (⟨_, _, rfl, rfl, ⟨_, _, rfl, rfl, ⟨_, _, rfl, rfl, rfl⟩⟩⟩) (rfl) rfl ?_
    refine V.seq ?_
    refine V.block ?_
    refine V.seq ?_
    replace hm1 := asrt_some hm1; rcases hm1 with ⟨hh0, hm1⟩
    replace hm1 := asrt_some hm1; rcases hm1 with ⟨hh1, hm1⟩
    replace hm1 := bindO hm1; rcases hm1 with ⟨y1, hh2, hm1⟩
    refine V.regionM 27 8 [⟨[(0, none)], [], none⟩, ⟨[(5, none)], [], none⟩, ⟨[(17, some 1), (18, some 0)], [], none⟩, ⟨[(19, some 0)], [], none⟩, ⟨[(1, none)], [], none⟩, ⟨[(5, none)], [], none⟩, ⟨[(21, some 1), (22, some 0)], [], none⟩, ⟨[(23, some 0)], [], none⟩] [(0, none), (1, none), (5, none), (20, some 4), (24, some 0)] (⟨_, rfl, ⟨_, rfl, ⟨_, rfl, ⟨_, rfl, ⟨_, rfl, ⟨_, rfl, ⟨_, rfl, ⟨_, rfl, ⟨rfl, rfl⟩⟩⟩⟩⟩⟩⟩⟩⟩) mixed_orders rfl (by decide +kernel) (fun hck6 => ?_)
    refine VP.step (p := ?pv65) rfl rfl rfl (⟨_, _, rfl, rfl, rfl⟩) ?hv65 ?rest65 hck6
    case hv65 =>
     intro E1
     refine (V1.move rfl rfl rfl (ltb rfl) ?_)
     exact rfl
    refine VP.step (p := ?pv66) rfl rfl rfl (⟨_, _, rfl, rfl, rfl⟩) ?hv66 ?rest66 hck6
    case hv66 =>
     intro E1
     refine (V1.move rfl rfl rfl (ltb rfl) ?_)
     exact rfl
    refine VP.step (p := ?pv67) rfl rfl rfl (⟨_, _, rfl, rfl, ⟨_, _, rfl, rfl, rfl⟩⟩) ?hv67 ?rest67 hck6
    case hv67 =>
     intro E1
     refine (V1.indexI rfl rfl esz_50 rfl rfl hh0 (ltb rfl) ?_)
     exact rfl
    refine VP.step (p := ?pv68) rfl rfl rfl (⟨_, _, rfl, rfl, rfl⟩) ?hv68 ?rest68 hck6
    case hv68 =>
     intro E1
     refine (V1.loadPin rfl rfl tyk_38 rfl rfl (ltb rfl) ?_)
     exact rfl
    refine VP.step (p := ?pv69) rfl rfl rfl (⟨_, _, rfl, rfl, rfl⟩) ?hv69 ?rest69 hck6
    case hv69 =>
     intro E1
     refine (V1.move rfl rfl rfl (ltb rfl) ?_)
     exact rfl
    refine VP.step (p := ?pv70) rfl rfl rfl (⟨_, _, rfl, rfl, rfl⟩) ?hv70 ?rest70 hck6
    case hv70 =>
     intro E1
     refine (V1.move rfl rfl rfl (ltb rfl) ?_)
     exact rfl
    refine VP.step (p := ?pv71) rfl rfl rfl (⟨_, _, rfl, rfl, ⟨_, _, rfl, rfl, rfl⟩⟩) ?hv71 ?rest71 hck6
    case hv71 =>
     intro E1
     refine (V1.indexI rfl rfl esz_50 rfl rfl hh1 (ltb rfl) ?_)
     exact rfl
    refine VP.step (p := ?pv72) rfl rfl rfl (⟨_, _, rfl, rfl, rfl⟩) ?hv72 ?rest72 hck6
    case hv72 =>
     intro E1
     refine (V1.loadPin rfl rfl tyk_38 rfl rfl (ltb rfl) ?_)
     exact rfl
    refine VP.fin rfl (⟨_, _, rfl, rfl, ⟨_, _, rfl, rfl, ⟨_, _, rfl, rfl, ⟨_, _, rfl, rfl, ⟨_, _, rfl, rfl, rfl⟩⟩⟩⟩⟩) ?_
    refine VO.cons rfl (V1.call rfl rfl rfl cok_28 rfl (ok_laws_rInts hh2) rfl (ltb rfl) ?_)
    rintro _ _ ⟨rfl, rfl⟩
    refine VO.cons rfl (V1.not rfl rfl rfl (ltb rfl) ?_)
    refine VO.nil ?_
    refine V.cond rfl (fun hc2 => ?_) (fun hc2 => ?_)
    ·
     replace hm1 := cond_t hc2 hm1
     refine V.seq ?_
     refine V.region ?_
     refine VO.cons rfl (V1.assign rfl rfl rfl (ltb rfl) ?_)
     refine VO.nil ?_
     refine V.ret ?_
     obtain rfl := hr1 _ (Option.some.inj hm1).symm
     change some _ = some _ at hm0
     obtain rfl := Option.some.inj hm0
     exact ⟨_, [], ⟨_, _, rfl, rfl, rfl⟩, List.nil_sublist _, rfl, rfl⟩
    ·
     replace hm1 := cond_f hc2 hm1
     refine V.skip ?_
     refine V.keep 27 [0, 1, 5] [] (E0 := [(0, .vl ρ0 1 (List.map (encL σ0 1 encInt) a)), (1, .vl ρ1 1 (List.map (encL σ1 1 encInt) b_)), (5, .int .i64 i)]) (H0 := []) rfl (⟨_, _, rfl, rfl, ⟨_, _, rfl, rfl, ⟨_, _, rfl, rfl, rfl⟩⟩⟩) (rfl) rfl ?_
     refine V.region ?_
     refine VO.cons rfl (V1.move rfl rfl rfl (ltb rfl) ?_)
     refine VO.cons rfl (V1.int rfl rfl rfl rfl rfl (ltb rfl) ?_)
     refine VO.cons rfl (V1.assign rfl rfl rfl (ltb rfl) ?_)
     refine VO.nil ?_
     exact ⟨(m0, (IntKind.i64.wrap (i + (1 : Int))), ()), hl1 _ (Option.some.inj hm1).symm, Nat.lt_succ_self _, Keeps.mk (ks := []) rfl ⟨rfl, rfl, rfl, trivial⟩ (rfl) rfl⟩
   ·
    replace hm1 := cond_f hc1 hm1
    refine V.exit ?_
    obtain rfl := hr1 _ (Option.some.inj hm1).symm
    exact ⟨((), ()), rfl, Keeps.mk (ks := []) rfl trivial (rfl) rfl⟩
  ·
   rintro ⟨_, _⟩ rfl
   try dsimp only at hm0
   refine V.seq ?_
   refine V.region ?_
   refine VO.cons rfl (V1.assign rfl rfl rfl (ltb rfl) ?_)
   refine VO.nil ?_
   refine V.ret ?_
   obtain rfl := Option.some.inj hm0
   exact ⟨_, [], ⟨_, _, rfl, rfl, rfl⟩, List.nil_sublist _, rfl, rfl⟩

theorem ok_impl_EmptyCartons {ρ0 rn : Nat} {list : List Carton} {r : List Int × Bool} (h : M.impl_EmptyCartons list = some r) : Does Try.prog 34 [.vl ρ0 5 (List.map (encCarton ρ0) list)] [] rn (fun x H => ∃ (ob0_ : Option Nat), (ob0_ = none → r.1 = []) ∧ x = .tup [optS 1 ob0_ (List.length r.1), .bool r.2] ∧ H = optH 1 ob0_ (List.map encInt r.1)) := by
 have hm0 := h; clear h; unfold M.impl_EmptyCartons at hm0
 try dsimp only at hm0
 refine Does.intro (N := 27) Try.func34 rfl rfl rfl rfl ?_
 intro w0 S0
 refine V.seq ?_
 refine V.region ?_
 refine VO.cons rfl (V1.assign rfl rfl rfl (ltb rfl) ?_)
 refine VO.cons rfl (V1.assign rfl rfl rfl (ltb rfl) ?_)
 refine VO.nil ?_
 refine V.seq ?_
 refine V.seq ?_
 replace hm0 := bindO hm0; rcases hm0 with ⟨y0, hh0, hm0⟩
 refine V.region ?_
 refine VO.cons rfl (V1.move rfl rfl rfl (ltb rfl) ?_)
 refine VO.cons rfl (V1.call rfl rfl rfl cok_12 rfl (ok_impl_AreCartons hh0) rfl (ltb rfl) ?_)
 rintro _ _ ⟨rfl, rfl⟩
 refine VO.cons rfl (V1.not rfl rfl rfl (ltb rfl) ?_)
 refine VO.nil ?_
 refine V.keep 27 [0, 9] [] (E0 := [(0, .vl ρ0 5 (List.map (encCarton ρ0) list)), (9, .bool (!y0))]) (H0 := []) rfl (⟨_, _, rfl, rfl, ⟨_, _, rfl, rfl, rfl⟩⟩) (rfl) rfl ?_
 refine V.cond rfl (fun hc0 => ?_) (fun hc0 => ?_)
 ·
  replace hm0 := cond_t hc0 hm0
  refine V.seq ?_
  refine V.region ?_
  refine VO.cons rfl (V1.assign rfl rfl rfl (ltb rfl) ?_)
  refine VO.cons rfl (V1.assign rfl rfl rfl (ltb rfl) ?_)
  refine VO.nil ?_
  refine V.keep 27 [2, 3] [] (E0 := [(2, .nils), (3, .bool false)]) (H0 := []) rfl (⟨_, _, rfl, rfl, ⟨_, _, rfl, rfl, rfl⟩⟩) (rfl) rfl ?_
  refine V.ret ?_
  obtain rfl := Option.some.inj hm0
  exact ⟨_, _, ⟨_, _, rfl, rfl, ⟨_, _, rfl, rfl, rfl⟩⟩, List.Sublist.refl _, none, (fun _ => rfl), rfl, rfl⟩
 ·
  replace hm0 := cond_f hc0 hm0
  refine V.skip ?_
  refine V.seq ?_
  refine V.region ?_
  refine VO.cons rfl (V1.assign rfl rfl rfl (ltb rfl) ?_)
  refine VO.nil ?_
  refine V.seq ?_
  refine V.seq ?_
  refine V.region ?_
  refine VO.cons rfl (V1.move rfl rfl rfl (ltb rfl) ?_)
  refine VO.cons rfl (V1.lenMap rfl rfl rfl rfl rfl rfl isl_24 (ltb rfl) ?_)
  refine VO.cons rfl (V1.move rfl rfl rfl (ltb rfl) ?_)
  refine VO.nil ?_
  replace hm0 := bindO hm0; rcases hm0 with ⟨e0, he1, hm0⟩
  refine V.cutT (D := (List Int) × (Option Nat)) (fun ⟨ids, ob0⟩ => ⟨27, [(4, optS 1 ob0 (List.length ids))], optH 1 ob0 (List.map encInt ids)⟩) (fun ⟨ids, ob0⟩ => (ids = e0) ∧ (ob0 = none → ids = [])) ?_ ?_
  ·
   refine V.block ?_
   refine V.keep 27 [4, 12, 10, 11] [] (E0 := [(4, .nils), (12, .int .i64 (0 : Int)), (10, .vl ρ0 5 (List.map (encCarton ρ0) list)), (11, .int .i64 (list.length : Int))]) (H0 := []) rfl (⟨_, _, rfl, rfl, ⟨_, _, rfl, rfl, ⟨_, _, rfl, rfl, ⟨_, _, rfl, rfl, rfl⟩⟩⟩⟩) (rfl) rfl ?_
   refine V.loopE (D := Nat × (List Int × Int) × (Option Nat)) (fun ⟨n0, ⟨ids0, v⟩, ob1⟩ => [(4, optS 1 ob1 (List.length ids0)), (12, .int .i64 v)]) (fun ⟨n0, ⟨ids0, v⟩, ob1⟩ => optH 1 ob1 (List.map encInt ids0)) (fun ⟨n0, ⟨ids0, v⟩, ob1⟩ => loopO (M.impl_EmptyCartons_l0 list) n0 (ids0, v) = some e0 ∧ (ob1 = none → ids0 = [])) (fun ⟨n0, _, _⟩ => n0) (rounds, (([] : List Int), (0 : Int)), none) rfl ⟨he1, (fun _ => rfl)⟩ ?_
   rintro ⟨n0, ⟨ids0, v⟩, ob1⟩ ⟨hP0, hob1⟩
   obtain ⟨m0, y1, rfl, hm1, hl1, hr1⟩ := loop_head hP0
   unfold M.impl_EmptyCartons_l0 at hm1; dsimp only at hm1
   rcases ob1 with _ | ob1
   ·
    replace hob1 := hob1 rfl
    show V _ _ _ ⟨27, [(4, .nils), (12, .int .i64 v), (10, .vl ρ0 5 (List.map (encCarton ρ0) list)), (11, .int .i64 (list.length : Int))], []⟩
    refine V.seq ?_
    refine V.region ?_
    refine VO.cons rfl (V1.int rfl rfl rfl rfl rfl (ltb rfl) ?_)
    refine VO.nil ?_
    refine V.seq ?_
    refine V.cond rfl (fun hc1 => ?_) (fun hc1 => ?_)
    ·
     replace hm1 := cond_t hc1 hm1
     refine V.skip ?_
     refine V.seq ?_
     replace hm1 := bindO hm1; rcases hm1 with ⟨j0, hm2, hm1⟩
     refine V.cutT (D := (List Int) × (Option Nat)) (fun ⟨ids1, ob2⟩ => ⟨27, [(4, optS 1 ob2 (List.length ids1)), (10, .vl ρ0 5 (List.map (encCarton ρ0) list)), (11, .int .i64 (list.length : Int)), (12, .int .i64 v)], optH 1 ob2 (List.map encInt ids1)⟩) (fun ⟨ids1, ob2⟩ => (ids1 = j0) ∧ (ob2 = none → ids1 = [])) ?_ ?_
     ·
      refine V.block ?_
      refine V.seq ?_
      replace hm2 := asrt_some hm2; rcases hm2 with ⟨hh1, hm2⟩
      refine V.region ?_
      refine VO.cons rfl (V1.indexI rfl rfl esz_24 rfl rfl hh1 (ltb rfl) ?_)
      refine VO.cons rfl (V1.loadPinAll rfl rfl tyk_40 rfl rfl (ltb rfl) ?_)
      refine VO.cons rfl (V1.alloc rfl rfl zk_40 (ltb rfl) ?_)
      intro b0
      refine VO.cons rfl (V1.storeRefAll (k := 0) rfl rfl tyk_40 rfl rfl rfl rfl rfl rfl ?_)
      refine VO.nil ?_
      refine V.seq ?_
      refine V.region ?_
      refine VO.cons rfl (V1.fieldRef rfl rfl fo_40_3 rfl (ltb rfl) ?_)
      refine VO.cons rfl (V1.loadRef (k := 0) rfl rfl tyk_38 rfl rfl rfl rfl rfl (ltb rfl) ?_)
      refine VO.cons rfl (V1.lenMap rfl rfl rfl rfl rfl rfl isl_38 (ltb rfl) ?_)
      refine VO.cons rfl (V1.int rfl rfl rfl rfl rfl (ltb rfl) ?_)
      refine VO.nil ?_
      refine V.keep 27 [4, 6, 10, 11, 12, 19] [0] (E0 := [(4, .nils), (6, .ref b0 5 0 0), (10, .vl ρ0 5 (List.map (encCarton ρ0) list)), (11, .int .i64 (list.length : Int)), (12, .int .i64 v), (19, .bool ((((list.getD (Int.toNat v) default).Files).length : Int) == (0 : Int)))]) (H0 := [(b0, ⟨5, [encCarton ρ0 (list.getD (Int.toNat v) default)]⟩)]) rfl (⟨_, _, rfl, rfl, ⟨_, _, rfl, rfl, ⟨_, _, rfl, rfl, ⟨_, _, rfl, rfl, ⟨_, _, rfl, rfl, ⟨_, _, rfl, rfl, rfl⟩⟩⟩⟩⟩⟩) (⟨_, _, rfl, rfl, rfl⟩) rfl ?_
      refine V.cond rfl (fun hc2 => ?_) (fun hc2 => ?_)
      ·
       replace hm2 := cond_t hc2 hm2
       replace hm2 := asrt_some hm2; rcases hm2 with ⟨hh2, hm2⟩
       refine V.region ?_
       refine VO.cons rfl (V1.move rfl rfl rfl (ltb rfl) ?_)
       refine VO.cons rfl (V1.fieldRef rfl rfl fo_40_0 rfl (ltb rfl) ?_)
       refine VO.cons rfl (V1.loadRef (k := 0) rfl rfl tyk_3 rfl rfl rfl rfl rfl (ltb rfl) ?_)
       refine VO.cons rfl (V1.buildSliceT (f := encInt) ([(list.getD (Int.toNat v) default).Id] : List Int) rfl rfl esz_38 zk_3 rfl rfl rfl rfl rfl rfl rfl (ltb rfl) ?_)
       intro b1
       refine VO.cons rfl (V1.appendNilE (f := encInt) (l := ids0) (m := ([(list.getD (Int.toNat v) default).Id] : List Int)) hob1 rfl rfl rfl rfl rfl esz_38 eby_38 zk_3 rfl rfl rfl (SrcOf.srMap (k := 0) rfl isl_38) rfl hh2 (ltb rfl) ?_)
       intro b2
       refine VO.cons rfl (V1.assign rfl rfl rfl (ltb rfl) ?_)
       refine VO.nil ?_
       exact ⟨((ids0 ++ ([(list.getD (Int.toNat v) default).Id] : List Int)), (some b2)), ⟨Option.some.inj hm2, (fun e => by cases e)⟩, Keeps.mk (ks := [0]) rfl ⟨rfl, rfl, rfl, rfl, trivial⟩ (⟨_, _, rfl, rfl, rfl⟩) rfl⟩
      ·
       replace hm2 := cond_f hc2 hm2
       refine V.skip ?_
       exact ⟨(ids0, none), ⟨Option.some.inj hm2, (fun _ => hob1)⟩, Keeps.mk (ks := []) rfl ⟨rfl, rfl, rfl, rfl, trivial⟩ (rfl) rfl⟩
     ·
      rintro ⟨ids1, ob2⟩ ⟨rfl, hob2⟩
      try dsimp only at hm1
      rcases ob2 with _ | ob2
      ·
       replace hob2 := hob2 rfl
       refine V.region ?_
       refine VO.cons rfl (V1.int rfl rfl rfl rfl rfl (ltb rfl) ?_)
       refine VO.cons rfl (V1.move rfl rfl rfl (ltb rfl) ?_)
       refine VO.nil ?_
       exact ⟨(m0, (ids1, (IntKind.i64.wrap (v + (1 : Int)))), none), ⟨hl1 _ (Option.some.inj hm1).symm, (fun _ => hob2)⟩, Nat.lt_succ_self _, Keeps.mk (ks := []) rfl ⟨rfl, rfl, rfl, rfl, trivial⟩ (rfl) rfl⟩
      ·
       refine V.region ?_
       refine VO.cons rfl (V1.int rfl rfl rfl rfl rfl (ltb rfl) ?_)
       refine VO.cons rfl (V1.move rfl rfl rfl (ltb rfl) ?_)
       refine VO.nil ?_
       exact ⟨(m0, (ids1, (IntKind.i64.wrap (v + (1 : Int)))), (some ob2)), ⟨hl1 _ (Option.some.inj hm1).symm, (fun e => by cases e)⟩, Nat.lt_succ_self _, Keeps.mk (ks := [0]) rfl ⟨rfl, rfl, rfl, rfl, trivial⟩ (⟨_, _, rfl, rfl, rfl⟩) rfl⟩
    ·
     replace hm1 := cond_f hc1 hm1
     refine V.exit ?_
     obtain rfl := hr1 _ (Option.some.inj hm1).symm
     exact ⟨(ids0, none), ⟨rfl, (fun _ => hob1)⟩, Keeps.mk (ks := []) rfl ⟨rfl, trivial⟩ (rfl) rfl⟩
   ·
    show V _ _ _ ⟨27, [(4, .sref ob1 1 0 (List.length ids0)), (12, .int .i64 v), (10, .vl ρ0 5 (List.map (encCarton ρ0) list)), (11, .int .i64 (list.length : Int))], [(ob1, ⟨1, List.map encInt ids0⟩)]⟩
    refine V.seq ?_
    refine V.region ?_
    refine VO.cons rfl (V1.int rfl rfl rfl rfl rfl (ltb rfl) ?_)
    refine VO.nil ?_
    refine V.seq ?_
    refine V.cond rfl (fun hc1 => ?_) (fun hc1 => ?_)
    ·
     replace hm1 := cond_t hc1 hm1
     refine V.skip ?_
     refine V.seq ?_
     replace hm1 := bindO hm1; rcases hm1 with ⟨j0, hm2, hm1⟩
     refine V.cutT (D := (List Int) × (Nat)) (fun ⟨ids1, b0⟩ => ⟨27, [(4, .sref b0 1 0 (List.length ids1)), (10, .vl ρ0 5 (List.map (encCarton ρ0) list)), (11, .int .i64 (list.length : Int)), (12, .int .i64 v)], [(b0, ⟨1, List.map encInt ids1⟩)]⟩) (fun ⟨ids1, b0⟩ => (ids1 = j0)) ?_ ?_
     ·
      refine V.block ?_
      refine V.seq ?_
      replace hm2 := asrt_some hm2; rcases hm2 with ⟨hh1, hm2⟩
      refine V.region ?_
      refine VO.cons rfl (V1.indexI rfl rfl esz_24 rfl rfl hh1 (ltb rfl) ?_)
      refine VO.cons rfl (V1.loadPinAll rfl rfl tyk_40 rfl rfl (ltb rfl) ?_)
      refine VO.cons rfl (V1.alloc rfl rfl zk_40 (ltb rfl) ?_)
      intro b1
      refine VO.cons rfl (V1.storeRefAll (k := 0) rfl rfl tyk_40 rfl rfl rfl rfl rfl rfl ?_)
      refine VO.nil ?_
      refine V.seq ?_
      refine V.region ?_
      refine VO.cons rfl (V1.fieldRef rfl rfl fo_40_3 rfl (ltb rfl) ?_)
      refine VO.cons rfl (V1.loadRef (k := 0) rfl rfl tyk_38 rfl rfl rfl rfl rfl (ltb rfl) ?_)
      refine VO.cons rfl (V1.lenMap rfl rfl rfl rfl rfl rfl isl_38 (ltb rfl) ?_)
      refine VO.cons rfl (V1.int rfl rfl rfl rfl rfl (ltb rfl) ?_)
      refine VO.nil ?_
      refine V.keep 27 [4, 6, 10, 11, 12, 19] [0, 1] (E0 := [(4, .sref ob1 1 0 (List.length ids0)), (6, .ref b1 5 0 0), (10, .vl ρ0 5 (List.map (encCarton ρ0) list)), (11, .int .i64 (list.length : Int)), (12, .int .i64 v), (19, .bool ((((list.getD (Int.toNat v) default).Files).length : Int) == (0 : Int)))]) (H0 := [(b1, ⟨5, [encCarton ρ0 (list.getD (Int.toNat v) default)]⟩), (ob1, ⟨1, List.map encInt ids0⟩)]) rfl (⟨_, _, rfl, rfl, ⟨_, _, rfl, rfl, ⟨_, _, rfl, rfl, ⟨_, _, rfl, rfl, ⟨_, _, rfl, rfl, ⟨_, _, rfl, rfl, rfl⟩⟩⟩⟩⟩⟩) (⟨_, _, rfl, rfl, ⟨_, _, rfl, rfl, rfl⟩⟩) rfl ?_
      refine V.cond rfl (fun hc2 => ?_) (fun hc2 => ?_)
      ·
       replace hm2 := cond_t hc2 hm2
       replace hm2 := asrt_some hm2; rcases hm2 with ⟨hh2, hm2⟩
       refine V.region ?_
       refine VO.cons rfl (V1.move rfl rfl rfl (ltb rfl) ?_)
       refine VO.cons rfl (V1.fieldRef rfl rfl fo_40_0 rfl (ltb rfl) ?_)
       refine VO.cons rfl (V1.loadRef (k := 0) rfl rfl tyk_3 rfl rfl rfl rfl rfl (ltb rfl) ?_)
       refine VO.cons rfl (V1.buildSliceT (f := encInt) ([(list.getD (Int.toNat v) default).Id] : List Int) rfl rfl esz_38 zk_3 rfl rfl rfl rfl rfl rfl rfl (ltb rfl) ?_)
       intro b2
       refine VO.cons rfl (V1.appendMap (k := 2) (f := encInt) (l := ids0) (m := ([(list.getD (Int.toNat v) default).Id] : List Int)) rfl rfl rfl rfl rfl esz_38 eby_38 zk_3 rfl rfl rfl (SrcOf.srMap (k := 0) rfl isl_38) hh2 (ltb rfl) ?_)
       intro b3
       refine VO.cons rfl (V1.assign rfl rfl rfl (ltb rfl) ?_)
       refine VO.nil ?_
       exact ⟨((ids0 ++ ([(list.getD (Int.toNat v) default).Id] : List Int)), b3), Option.some.inj hm2, Keeps.mk (ks := [0]) rfl ⟨rfl, rfl, rfl, rfl, trivial⟩ (⟨_, _, rfl, rfl, rfl⟩) rfl⟩
      ·
       replace hm2 := cond_f hc2 hm2
       refine V.skip ?_
       exact ⟨(ids0, ob1), Option.some.inj hm2, Keeps.mk (ks := [1]) rfl ⟨rfl, rfl, rfl, rfl, trivial⟩ (⟨_, _, rfl, rfl, rfl⟩) rfl⟩
     ·
      rintro ⟨ids1, b0⟩ rfl
      try dsimp only at hm1
      refine V.region ?_
      refine VO.cons rfl (V1.int rfl rfl rfl rfl rfl (ltb rfl) ?_)
      refine VO.cons rfl (V1.move rfl rfl rfl (ltb rfl) ?_)
      refine VO.nil ?_
      exact ⟨(m0, (ids1, (IntKind.i64.wrap (v + (1 : Int)))), (some b0)), ⟨hl1 _ (Option.some.inj hm1).symm, (fun e => by cases e)⟩, Nat.lt_succ_self _, Keeps.mk (ks := [0]) rfl ⟨rfl, rfl, rfl, rfl, trivial⟩ (⟨_, _, rfl, rfl, rfl⟩) rfl⟩
    ·
     replace hm1 := cond_f hc1 hm1
     refine V.exit ?_
     obtain rfl := hr1 _ (Option.some.inj hm1).symm
     exact ⟨(ids0, (some ob1)), ⟨rfl, (fun e => by cases e)⟩, Keeps.mk (ks := [0]) rfl ⟨rfl, trivial⟩ (⟨_, _, rfl, rfl, rfl⟩) rfl⟩
  ·
   rintro ⟨ids, ob0⟩ ⟨rfl, hob0⟩
   try dsimp only at hm0
   rcases ob0 with _ | ob0
   ·
    replace hob0 := hob0 rfl
    refine V.seq ?_
    refine V.region ?_
    refine VO.cons rfl (V1.move rfl rfl rfl (ltb rfl) ?_)
    refine VO.cons rfl (V1.assign rfl rfl rfl (ltb rfl) ?_)
    refine VO.cons rfl (V1.assign rfl rfl rfl (ltb rfl) ?_)
    refine VO.nil ?_
    refine V.keep 27 [2, 3] [] (E0 := [(2, .nils), (3, .bool true)]) (H0 := []) rfl (⟨_, _, rfl, rfl, ⟨_, _, rfl, rfl, rfl⟩⟩) (rfl) rfl ?_
    refine V.ret ?_
    obtain rfl := Option.some.inj hm0
    exact ⟨_, _, ⟨_, _, rfl, rfl, ⟨_, _, rfl, rfl, rfl⟩⟩, List.Sublist.refl _, none, (fun _ => hob0), rfl, rfl⟩
   ·
    refine V.seq ?_
    refine V.region ?_
    refine VO.cons rfl (V1.move rfl rfl rfl (ltb rfl) ?_)
    refine VO.cons rfl (V1.assign rfl rfl rfl (ltb rfl) ?_)
    refine VO.cons rfl (V1.assign rfl rfl rfl (ltb rfl) ?_)
    refine VO.nil ?_
    refine V.keep 27 [2, 3] [0] (E0 := [(2, .sref ob0 1 0 (List.length ids)), (3, .bool true)]) (H0 := [(ob0, ⟨1, List.map encInt ids⟩)]) rfl (⟨_, _, rfl, rfl, ⟨_, _, rfl, rfl, rfl⟩⟩) (⟨_, _, rfl, rfl, rfl⟩) rfl ?_
    refine V.ret ?_
    obtain rfl := Option.some.inj hm0
    exact ⟨_, _, ⟨_, _, rfl, rfl, ⟨_, _, rfl, rfl, rfl⟩⟩, List.Sublist.refl _, some ob0, (fun e => by cases e), rfl, rfl⟩

theorem ok_spec_EmptyCartons {ρ0 σ0 rn : Nat} {list : List Carton} {r : List Int × Bool} (h : M.spec_EmptyCartons list = some r) : Does Try.prog 35 [.vl ρ0 5 (List.map (encCarton σ0) list)] [] rn (fun x H => ∃ (ob0_ : Nat), x = .tup [PV.sref ob0_ 1 0 (List.length r.1), .bool r.2] ∧ H = [(ob0_, ⟨1, List.map encInt r.1⟩)]) := by
 have hm0 := h; clear h; unfold M.spec_EmptyCartons at hm0
 try dsimp only at hm0
 refine Does.intro (N := 33) Try.func35 rfl rfl rfl rfl ?_
 intro w0 S0
 refine V.seq ?_
 refine V.region ?_
 refine VO.cons rfl (V1.assign rfl rfl rfl (ltb rfl) ?_)
 refine VO.cons rfl (V1.assign rfl rfl rfl (ltb rfl) ?_)
 refine VO.nil ?_
 refine V.seq ?_
 refine V.region ?_
 refine VO.cons rfl (V1.buildSliceT (f := encInt) ([] : List Int) rfl rfl esz_38 zk_3 rfl rfl rfl rfl rfl rfl rfl (ltb rfl) ?_)
 intro b0
 refine VO.cons rfl (V1.assign rfl rfl rfl (ltb rfl) ?_)
 refine VO.nil ?_
 refine V.seq ?_
 refine V.seq ?_
 replace hm0 := bindO hm0; rcases hm0 with ⟨y0, hh0, hm0⟩
 refine V.region ?_
 refine VO.cons rfl (V1.move rfl rfl rfl (ltb rfl) ?_)
 refine VO.cons rfl (V1.call rfl rfl rfl cok_69 rfl (ok_spec_l18Good hh0) rfl (ltb rfl) ?_)
 rintro _ _ ⟨rfl, rfl⟩
 refine VO.cons rfl (V1.not rfl rfl rfl (ltb rfl) ?_)
 refine VO.nil ?_
 refine V.keep 33 [0, 4, 9] [0] (E0 := [(0, .vl ρ0 5 (List.map (encCarton σ0) list)), (4, .sref b0 1 0 (List.length ([] : List Int))), (9, .bool (!y0))]) (H0 := [(b0, ⟨1, List.map encInt ([] : List Int)⟩)]) rfl (⟨_, _, rfl, rfl, ⟨_, _, rfl, rfl, ⟨_, _, rfl, rfl, rfl⟩⟩⟩) (⟨_, _, rfl, rfl, rfl⟩) rfl ?_
 refine V.cond rfl (fun hc0 => ?_) (fun hc0 => ?_)
 ·
  replace hm0 := cond_t hc0 hm0
  refine V.seq ?_
  refine V.region ?_
  refine VO.cons rfl (V1.move rfl rfl rfl (ltb rfl) ?_)
  refine VO.cons rfl (V1.assign rfl rfl rfl (ltb rfl) ?_)
  refine VO.cons rfl (V1.assign rfl rfl rfl (ltb rfl) ?_)
  refine VO.nil ?_
  refine V.keep 33 [2, 3] [0] (E0 := [(2, .sref b0 1 0 (List.length ([] : List Int))), (3, .bool false)]) (H0 := [(b0, ⟨1, List.map encInt ([] : List Int)⟩)]) rfl (⟨_, _, rfl, rfl, ⟨_, _, rfl, rfl, rfl⟩⟩) (⟨_, _, rfl, rfl, rfl⟩) rfl ?_
  refine V.ret ?_
  obtain rfl := Option.some.inj hm0
  exact ⟨_, _, ⟨_, _, rfl, rfl, ⟨_, _, rfl, rfl, rfl⟩⟩, List.Sublist.refl _, b0, rfl, rfl⟩
 ·
  replace hm0 := cond_f hc0 hm0
  refine V.skip ?_
  refine V.seq ?_
  refine V.seq ?_
  refine V.region ?_
  refine VO.cons rfl (V1.assign rfl rfl rfl (ltb rfl) ?_)
  refine VO.nil ?_
  replace hm0 := bindO hm0; rcases hm0 with ⟨e0, he1, hm0⟩
  refine V.cutT (D := (List Int) × (Nat)) (fun ⟨out_, b1⟩ => ⟨33, [(4, .sref b1 1 0 (List.length out_))], [(b1, ⟨1, List.map encInt out_⟩)]⟩) (fun ⟨out_, b1⟩ => (out_ = e0)) ?_ ?_
  ·
   refine V.block ?_
   refine V.keep 33 [4, 5, 0] [0] (E0 := [(4, .sref b0 1 0 (List.length ([] : List Int))), (5, .int .i64 (0 : Int)), (0, .vl ρ0 5 (List.map (encCarton σ0) list))]) (H0 := [(b0, ⟨1, List.map encInt ([] : List Int)⟩)]) rfl (⟨_, _, rfl, rfl, ⟨_, _, rfl, rfl, ⟨_, _, rfl, rfl, rfl⟩⟩⟩) (⟨_, _, rfl, rfl, rfl⟩) rfl ?_
   refine V.loopE (D := Nat × (List Int × Int) × (Nat)) (fun ⟨n0, ⟨out_0, i⟩, b2⟩ => [(4, .sref b2 1 0 (List.length out_0)), (5, .int .i64 i)]) (fun ⟨n0, ⟨out_0, i⟩, b2⟩ => [(b2, ⟨1, List.map encInt out_0⟩)]) (fun ⟨n0, ⟨out_0, i⟩, b2⟩ => loopO (M.spec_EmptyCartons_l0 list) n0 (out_0, i) = some e0) (fun ⟨n0, _, _⟩ => n0) (rounds, (([] : List Int), (0 : Int)), b0) rfl he1 ?_
   rintro ⟨n0, ⟨out_0, i⟩, b2⟩ hP0
   obtain ⟨m0, y1, rfl, hm1, hl1, hr1⟩ := loop_head hP0
   unfold M.spec_EmptyCartons_l0 at hm1; dsimp only at hm1
   show V _ _ _ ⟨33, [(4, .sref b2 1 0 (List.length out_0)), (5, .int .i64 i), (0, .vl ρ0 5 (List.map (encCarton σ0) list))], [(b2, ⟨1, List.map encInt out_0⟩)]⟩
   refine V.seq ?_
   refine V.seq ?_
   refine V.region ?_
   refine VO.cons rfl (V1.move rfl rfl rfl (ltb rfl) ?_)
   refine VO.cons rfl (V1.move rfl rfl rfl (ltb rfl) ?_)
   refine VO.cons rfl (V1.lenMap rfl rfl rfl rfl rfl rfl isl_24 (ltb rfl) ?_)
   refine VO.cons rfl (V1.int rfl rfl rfl rfl rfl (ltb rfl) ?_)
   refine VO.nil ?_
   refine V.cond rfl (fun hc1 => ?_) (fun hc1 => ?_)
   ·
    replace hm1 := cond_t hc1 hm1
    refine V.skip ?_
    refine V.keep 33 [0, 4, 5] [0] (E0 := [(0, .vl ρ0 5 (List.map (encCarton σ0) list)), (4, .sref b2 1 0 (List.length out_0)), (5, .int .i64 i)]) (H0 := [(b2, ⟨1, List.map encInt out_0⟩)]) rfl (⟨_, _, rfl, rfl, ⟨_, _, rfl, rfl, ⟨_, _, rfl, rfl, rfl⟩⟩⟩) (⟨_, _, rfl, rfl, rfl⟩) rfl ?_
    refine V.seq ?_
    replace hm1 := bindO hm1; rcases hm1 with ⟨j0, hm2, hm1⟩
    refine V.cutT (D := (List Int) × (Nat)) (fun ⟨out_1, b3⟩ => ⟨33, [(4, .sref b3 1 0 (List.length out_1)), (0, .vl ρ0 5 (List.map (encCarton σ0) list)), (5, .int .i64 i)], [(b3, ⟨1, List.map encInt out_1⟩)]⟩) (fun ⟨out_1, b3⟩ => (out_1 = j0)) ?_ ?_
    ·
     refine V.block ?_
     refine V.seq ?_
     replace hm2 := asrt_some hm2; rcases hm2 with ⟨hh1, hm2⟩
     refine V.region ?_
     refine VO.cons rfl (V1.move rfl rfl rfl (ltb rfl) ?_)
     refine VO.cons rfl (V1.move rfl rfl rfl (ltb rfl) ?_)
     refine VO.cons rfl (V1.indexI rfl rfl esz_24 rfl rfl hh1 (ltb rfl) ?_)
     refine VO.cons rfl (V1.fieldPin rfl rfl fo_40_3 rfl (ltb rfl) ?_)
     refine VO.cons rfl (V1.loadPin rfl rfl tyk_38 rfl rfl (ltb rfl) ?_)
     refine VO.cons rfl (V1.lenMap rfl rfl rfl rfl rfl rfl isl_38 (ltb rfl) ?_)
     refine VO.cons rfl (V1.int rfl rfl rfl rfl rfl (ltb rfl) ?_)
     refine VO.nil ?_
     refine V.keep 33 [0, 4, 5, 23] [0] (E0 := [(0, .vl ρ0 5 (List.map (encCarton σ0) list)), (4, .sref b2 1 0 (List.length out_0)), (5, .int .i64 i), (23, .bool ((((list.getD (Int.toNat i) default).Files).length : Int) == (0 : Int)))]) (H0 := [(b2, ⟨1, List.map encInt out_0⟩)]) rfl (⟨_, _, rfl, rfl, ⟨_, _, rfl, rfl, ⟨_, _, rfl, rfl, ⟨_, _, rfl, rfl, rfl⟩⟩⟩⟩) (⟨_, _, rfl, rfl, rfl⟩) rfl ?_
     refine V.cond rfl (fun hc2 => ?_) (fun hc2 => ?_)
     ·
      replace hm2 := cond_t hc2 hm2
      replace hm2 := asrt_some hm2; rcases hm2 with ⟨hh2, hm2⟩
      replace hm2 := asrt_some hm2; rcases hm2 with ⟨hh3, hm2⟩
      refine V.region ?_
      refine VO.cons rfl (V1.move rfl rfl rfl (ltb rfl) ?_)
      refine VO.cons rfl (V1.move rfl rfl rfl (ltb rfl) ?_)
      refine VO.cons rfl (V1.move rfl rfl rfl (ltb rfl) ?_)
      refine VO.cons rfl (V1.indexI rfl rfl esz_24 rfl rfl hh2 (ltb rfl) ?_)
      refine VO.cons rfl (V1.fieldPin rfl rfl fo_40_0 rfl (ltb rfl) ?_)
      refine VO.cons rfl (V1.loadPin rfl rfl tyk_3 rfl rfl (ltb rfl) ?_)
      refine VO.cons rfl (V1.buildSliceT (f := encInt) ([(list.getD (Int.toNat i) default).Id] : List Int) rfl rfl esz_38 zk_3 rfl rfl rfl rfl rfl rfl rfl (ltb rfl) ?_)
      intro b4
      refine VO.cons rfl (V1.appendMap (k := 1) (f := encInt) (l := out_0) (m := ([(list.getD (Int.toNat i) default).Id] : List Int)) rfl rfl rfl rfl rfl esz_38 eby_38 zk_3 rfl rfl rfl (SrcOf.srMap (k := 0) rfl isl_38) hh3 (ltb rfl) ?_)
      intro b5
      refine VO.cons rfl (V1.assign rfl rfl rfl (ltb rfl) ?_)
      refine VO.nil ?_
      exact ⟨((out_0 ++ ([(list.getD (Int.toNat i) default).Id] : List Int)), b5), Option.some.inj hm2, Keeps.mk (ks := [0]) rfl ⟨rfl, rfl, rfl, trivial⟩ (⟨_, _, rfl, rfl, rfl⟩) rfl⟩
     ·
      replace hm2 := cond_f hc2 hm2
      refine V.skip ?_
      exact ⟨(out_0, b2), Option.some.inj hm2, Keeps.mk (ks := [0]) rfl ⟨rfl, rfl, rfl, trivial⟩ (⟨_, _, rfl, rfl, rfl⟩) rfl⟩
    ·
     rintro ⟨out_1, b3⟩ rfl
     try dsimp only at hm1
     refine V.region ?_
     refine VO.cons rfl (V1.move rfl rfl rfl (ltb rfl) ?_)
     refine VO.cons rfl (V1.int rfl rfl rfl rfl rfl (ltb rfl) ?_)
     refine VO.cons rfl (V1.assign rfl rfl rfl (ltb rfl) ?_)
     refine VO.nil ?_
     exact ⟨(m0, (out_1, (IntKind.i64.wrap (i + (1 : Int)))), b3), hl1 _ (Option.some.inj hm1).symm, Nat.lt_succ_self _, Keeps.mk (ks := [0]) rfl ⟨rfl, rfl, rfl, trivial⟩ (⟨_, _, rfl, rfl, rfl⟩) rfl⟩
   ·
    replace hm1 := cond_f hc1 hm1
    refine V.exit ?_
    obtain rfl := hr1 _ (Option.some.inj hm1).symm
    exact ⟨(out_0, b2), rfl, Keeps.mk (ks := [0]) rfl ⟨rfl, trivial⟩ (⟨_, _, rfl, rfl, rfl⟩) rfl⟩
  ·
   rintro ⟨out_, b1⟩ rfl
   try dsimp only at hm0
   refine V.seq ?_
   refine V.region ?_
   refine VO.cons rfl (V1.move rfl rfl rfl (ltb rfl) ?_)
   refine VO.cons rfl (V1.assign rfl rfl rfl (ltb rfl) ?_)
   refine VO.cons rfl (V1.assign rfl rfl rfl (ltb rfl) ?_)
   refine VO.nil ?_
   refine V.keep 33 [2, 3] [0] (E0 := [(2, .sref b1 1 0 (List.length out_)), (3, .bool true)]) (H0 := [(b1, ⟨1, List.map encInt out_⟩)]) rfl (⟨_, _, rfl, rfl, ⟨_, _, rfl, rfl, rfl⟩⟩) (⟨_, _, rfl, rfl, rfl⟩) rfl ?_
   refine V.ret ?_
   obtain rfl := Option.some.inj hm0
   exact ⟨_, _, ⟨_, _, rfl, rfl, ⟨_, _, rfl, rfl, rfl⟩⟩, List.Sublist.refl _, b1, rfl, rfl⟩

theorem ok_spec_DrawFreeOn {ρ0 rn : Nat} {code : List Int} {r : List Carton × Int × Int} (h : M.spec_DrawFreeOn code = some r) : Does Try.prog 36 [.vl ρ0 1 (List.map encU8 code)] [] rn (fun x H => ∃ (ob0_ : Nat), x = .tup [PV.sref ob0_ 5 0 (List.length r.1), .int .i64 r.2.1, .int .i64 r.2.2] ∧ H = [(ob0_, ⟨5, List.map (encCarton rn) r.1⟩)]) := by
 have hm0 := h; clear h; unfold M.spec_DrawFreeOn at hm0
 try dsimp only at hm0
 refine Does.intro (N := 29) Try.func36 rfl rfl rfl rfl ?_
 intro w0 S0
 refine V.seq ?_
 refine V.region ?_
 refine VO.cons rfl (V1.assign rfl rfl rfl (ltb rfl) ?_)
 refine VO.cons rfl (V1.assign rfl rfl rfl (ltb rfl) ?_)
 refine VO.cons rfl (V1.assign rfl rfl rfl (ltb rfl) ?_)
 refine VO.nil ?_
 refine V.seq ?_
 refine V.region ?_
 refine VO.cons rfl (V1.move rfl rfl rfl (ltb rfl) ?_)
 refine VO.cons rfl (V1.build rfl rfl zk_77 pl_77 rfl rfl (ltb rfl) ?_)
 refine VO.cons rfl (V1.boxN (n := 3) rfl rfl rfl rfl rfl (ltb rfl) ?_)
 intro b0
 refine VO.cons rfl (V1.assign rfl rfl rfl (ltb rfl) ?_)
 refine VO.nil ?_
 refine V.keep 29 [5] [0] (E0 := [(5, .ref b0 3 0 0)]) (H0 := [(b0, ⟨3, [.agg [.vl ρ0 1 (List.map encU8 code), .int .i64 (0 : Int), .int .u64 (0 : Int)]]⟩)]) rfl (⟨_, _, rfl, rfl, rfl⟩) (⟨_, _, rfl, rfl, rfl⟩) rfl ?_
 refine V.seq ?_
 replace hm0 := bindO hm0; rcases hm0 with ⟨y0, hh0, hm0⟩
 refine V.region ?_
 refine VO.cons rfl (V1.move rfl rfl rfl (ltb rfl) ?_)
 refine VO.cons rfl (V1.callM 0 (rn + ρ0 + 1) [] [.ref b0 3 0 0] (p := (b0, ⟨3, [.agg [.vl ρ0 1 (List.map encU8 code), .int .i64 (0 : Int), .int .u64 (0 : Int)]]⟩)) rfl rfl rfl cok_58 rfl rfl ⟨_, _, rfl, .same _, rfl⟩ bwNil (ok_spec_l1Cur_cartons hh0) rfl (.inl rfl) (ltb rfl) ?_)
 rintro _ _ ⟨b1, rfl, rfl⟩
 refine VO.cons rfl (V1.assign rfl rfl rfl (ltb rfl) ?_)
 refine VO.nil ?_
 refine V.seq ?_
 replace hm0 := bindO hm0; rcases hm0 with ⟨y1, hh1, hm0⟩
 replace hm0 := asrt_some hm0; rcases hm0 with ⟨hh2, hm0⟩
 replace hm0 := bindO hm0; rcases hm0 with ⟨y2, hh3, hm0⟩
 replace hm0 := bindO hm0; rcases hm0 with ⟨y3, hh4, hm0⟩
 replace hm0 := asrt_some hm0; rcases hm0 with ⟨hh5, hm0⟩
 replace hm0 := bindO hm0; rcases hm0 with ⟨y4, hh6, hm0⟩
 refine V.region ?_
 refine VO.cons rfl (V1.move rfl rfl rfl (ltb rfl) ?_)
 refine VO.cons rfl (V1.move rfl rfl rfl (ltb rfl) ?_)
 refine VO.cons rfl (V1.buildSliceT (f := encInt) ([(1 : Int), (1 : Int), (2 : Int), (9 : Int), (0 : Int), (10 : Int)] : List Int) rfl rfl esz_38 zk_3 rfl rfl rfl rfl rfl rfl rfl (ltb rfl) ?_)
 intro b2
 refine VO.cons rfl (V1.move rfl rfl rfl (ltb rfl) ?_)
 refine VO.cons rfl (V1.callM 2 (rn + ρ0 + 1) [] [.ref b0 3 0 0, .int .i64 (24 : Int)] (p := (b0, ⟨3, [encCur ρ0 y0.2]⟩)) rfl rfl rfl cok_78 rfl rfl ⟨_, _, rfl, .same _, ⟨_, _, rfl, .same _, rfl⟩⟩ bwNil (ok_spec_l1Cur_pick hh1) rfl (.inl rfl) (ltb rfl) ?_)
 rintro _ _ ⟨rfl, rfl⟩
 refine VO.cons rfl (V1.quo rfl rfl rfl rfl (by decide) (ltb rfl) ?_)
 refine VO.cons rfl (V1.int rfl rfl rfl rfl rfl (ltb rfl) ?_)
 refine VO.weakenK (Keeps.freezeG 1 rn [(14, .vl rn 1 (List.map encInt ([(1 : Int), (1 : Int), (2 : Int), (9 : Int), (0 : Int), (10 : Int)] : List Int)))] [(b0, ⟨3, [encCur ρ0 y1.2]⟩), (b1, ⟨5, List.map (encCarton rn) y0.1⟩)] (f := encInt) (l := ([(1 : Int), (1 : Int), (2 : Int), (9 : Int), (0 : Int), (10 : Int)] : List Int)) rfl (fun _ => rfl) ⟨⟨_, rfl, .here⟩, trivial⟩ ⟨_, _, rfl, rfl, .inl rfl, ⟨_, _, rfl, rfl, .inl rfl, rfl⟩⟩ rfl iNil) ?_
 refine VO.cons rfl (V1.sliceMap (a := (0 : Int)) (b := (IntKind.i64.wrap ((4 : Int) + (IntKind.i64.wrap (Int.tdiv y1.1 (11 : Int)))))) rfl rfl esz_38 rfl (Bnd.none _ _) (Bnd.some rfl (Int.le_trans hh2.1 hh2.2.1) _) hh2 (ltb rfl) ?_)
 refine VO.cons rfl (V1.callM 0 (rn + ρ0 + 1) [] [.ref b0 3 0 0, .vl rn 1 (List.map encInt (slc ([(1 : Int), (1 : Int), (2 : Int), (9 : Int), (0 : Int), (10 : Int)] : List Int) (0 : Int) (IntKind.i64.wrap ((4 : Int) + (IntKind.i64.wrap (Int.tdiv y1.1 (11 : Int)))))))] (p := (b0, ⟨3, [encCur ρ0 y1.2]⟩)) rfl rfl rfl cok_77 rfl rfl ⟨_, _, rfl, .same _, ⟨_, _, rfl, .same _, rfl⟩⟩ bwNil (ok_spec_l1Cur_among hh3) rfl (.inl rfl) (ltb rfl) ?_)
 rintro _ _ ⟨rfl, rfl⟩
 refine VO.cons rfl (V1.move rfl rfl rfl (ltb rfl) ?_)
 refine VO.cons rfl (V1.buildSliceT (f := encInt) ([(1 : Int), (1 : Int), (2 : Int), (30 : Int), (0 : Int), (31 : Int)] : List Int) rfl rfl esz_38 zk_3 rfl rfl rfl rfl rfl rfl rfl (ltb rfl) ?_)
 intro b3
 refine VO.cons rfl (V1.move rfl rfl rfl (ltb rfl) ?_)
 refine VO.cons rfl (V1.callM 1 (rn + ρ0 + 1) [] [.ref b0 3 0 0, .int .i64 (24 : Int)] (p := (b0, ⟨3, [encCur ρ0 y2.2]⟩)) rfl rfl rfl cok_78 rfl rfl ⟨_, _, rfl, .same _, ⟨_, _, rfl, .same _, rfl⟩⟩ bwNil (ok_spec_l1Cur_pick hh4) rfl (.inl rfl) (ltb rfl) ?_)
 rintro _ _ ⟨rfl, rfl⟩
 refine VO.cons rfl (V1.quo rfl rfl rfl rfl (by decide) (ltb rfl) ?_)
 refine VO.cons rfl (V1.int rfl rfl rfl rfl rfl (ltb rfl) ?_)
 refine VO.weakenK (Keeps.freezeG 1 rn [(22, .vl rn 1 (List.map encInt ([(1 : Int), (1 : Int), (2 : Int), (30 : Int), (0 : Int), (31 : Int)] : List Int)))] [(b0, ⟨3, [encCur ρ0 y3.2]⟩), (b1, ⟨5, List.map (encCarton rn) y0.1⟩)] (f := encInt) (l := ([(1 : Int), (1 : Int), (2 : Int), (30 : Int), (0 : Int), (31 : Int)] : List Int)) rfl (fun _ => rfl) ⟨⟨_, rfl, .here⟩, trivial⟩ ⟨_, _, rfl, rfl, .inl rfl, ⟨_, _, rfl, rfl, .inl rfl, rfl⟩⟩ rfl iNil) ?_
 refine VO.cons rfl (V1.sliceMap (a := (0 : Int)) (b := (IntKind.i64.wrap ((4 : Int) + (IntKind.i64.wrap (Int.tdiv y3.1 (11 : Int)))))) rfl rfl esz_38 rfl (Bnd.none _ _) (Bnd.some rfl (Int.le_trans hh5.1 hh5.2.1) _) hh5 (ltb rfl) ?_)
 refine VO.cons rfl (V1.callM 0 (rn + ρ0 + 1) [] [.ref b0 3 0 0, .vl rn 1 (List.map encInt (slc ([(1 : Int), (1 : Int), (2 : Int), (30 : Int), (0 : Int), (31 : Int)] : List Int) (0 : Int) (IntKind.i64.wrap ((4 : Int) + (IntKind.i64.wrap (Int.tdiv y3.1 (11 : Int)))))))] (p := (b0, ⟨3, [encCur ρ0 y3.2]⟩)) rfl rfl rfl cok_77 rfl rfl ⟨_, _, rfl, .same _, ⟨_, _, rfl, .same _, rfl⟩⟩ bwNil (ok_spec_l1Cur_among hh6) rfl (.inl rfl) (ltb rfl) ?_)
 rintro _ _ ⟨rfl, rfl⟩
 refine VO.cons rfl (V1.assign rfl rfl rfl (ltb rfl) ?_)
 refine VO.cons rfl (V1.assign rfl rfl rfl (ltb rfl) ?_)
 refine VO.cons rfl (V1.assign rfl rfl rfl (ltb rfl) ?_)
 refine VO.nil ?_
 refine V.keep 29 [2, 3, 4] [1] (E0 := [(2, .sref b1 5 0 (List.length y0.1)), (3, .int .i64 y2.1), (4, .int .i64 y4.1)]) (H0 := [(b1, ⟨5, List.map (encCarton rn) y0.1⟩)]) rfl (⟨_, _, rfl, rfl, ⟨_, _, rfl, rfl, ⟨_, _, rfl, rfl, rfl⟩⟩⟩) (⟨_, _, rfl, rfl, rfl⟩) rfl ?_
 refine V.ret ?_
 obtain rfl := Option.some.inj hm0
 exact ⟨_, _, ⟨_, _, rfl, rfl, ⟨_, _, rfl, rfl, ⟨_, _, rfl, rfl, rfl⟩⟩⟩, List.Sublist.refl _, b1, rfl, rfl⟩

theorem ok_spec_FreeOn {ρ0 σ0 rn : Nat} {list : List Carton} {room : Int} {shelf : Int} {r : Int × Bool} (h : M.spec_FreeOn list room shelf = some r) : Does Try.prog 37 [.vl ρ0 5 (List.map (encCarton σ0) list), .int .i64 room, .int .i64 shelf] [] rn (fun x H => x = .tup [.int .i64 r.1, .bool r.2] ∧ H = []) := by
 have hm0 := h; clear h; unfold M.spec_FreeOn at hm0
 try dsimp only at hm0
 refine Does.intro (N := 22) Try.func37 rfl rfl rfl rfl ?_
 intro w0 S0
 refine V.seq ?_
 refine V.region ?_
 refine VO.cons rfl (V1.assign rfl rfl rfl (ltb rfl) ?_)
 refine VO.cons rfl (V1.assign rfl rfl rfl (ltb rfl) ?_)
 refine VO.nil ?_
 refine V.seq ?_
 refine V.seq ?_
 replace hm0 := bindO hm0; rcases hm0 with ⟨y0, hh0, hm0⟩
 replace hm0 := bindO hm0; rcases hm0 with ⟨y1, hh1, hm0⟩
 refine V.region ?_
 refine VO.cons rfl (V1.move rfl rfl rfl (ltb rfl) ?_)
 refine VO.cons rfl (V1.call rfl rfl rfl cok_69 rfl (ok_spec_l18Good hh0) rfl (ltb rfl) ?_)
 rintro _ _ ⟨rfl, rfl⟩
 refine VO.cons rfl (V1.not rfl rfl rfl (ltb rfl) ?_)
 refine VO.cons rfl (V1.move rfl rfl rfl (ltb rfl) ?_)
 apply VO.or (n := 4) rfl rfl rfl rfl rfl rfl (ltb rfl) (.none rfl)
 ·
  intro hg0
  refine VO.step (.some rfl rfl rfl) (V1.move rfl rfl rfl (ltb rfl) ?_)
  refine VO.step (.some rfl rfl rfl) (V1.move rfl rfl rfl (ltb rfl) ?_)
  refine VO.step (.some rfl rfl rfl) (V1.call rfl rfl rfl cok_83 rfl (ok_spec_l18Place (cond_f hg0 hh1)) rfl (ltb rfl) ?_)
  rintro _ _ ⟨rfl, rfl⟩
  refine VO.step (.some rfl rfl rfl) (V1.not rfl rfl rfl (ltb rfl) ?_)
  exact VO.nil ⟨rfl, rfl, rfl, rfl, .inr ⟨rfl, .inr ⟨rfl, .inr ⟨rfl, .inr ⟨rfl, .inr ⟨rfl, .inl rfl⟩⟩⟩⟩⟩⟩
 refine VO.nil ?_
 refine V.keep 22 [0, 1, 2, 16] [] (E0 := [(0, .vl ρ0 5 (List.map (encCarton σ0) list)), (1, .int .i64 room), (2, .int .i64 shelf), (16, .bool ((!y0) || (!y1)))]) (H0 := []) rfl (⟨_, _, rfl, rfl, ⟨_, _, rfl, rfl, ⟨_, _, rfl, rfl, ⟨_, _, rfl, rfl, rfl⟩⟩⟩⟩) (rfl) rfl ?_
 refine V.cond rfl (fun hc0 => ?_) (fun hc0 => ?_)
 ·
  replace hm0 := cond_t hc0 hm0
  refine V.seq ?_
  refine V.region ?_
  refine VO.cons rfl (V1.assign rfl rfl rfl (ltb rfl) ?_)
  refine VO.cons rfl (V1.assign rfl rfl rfl (ltb rfl) ?_)
  refine VO.nil ?_
  refine V.ret ?_
  obtain rfl := Option.some.inj hm0
  exact ⟨_, [], ⟨_, _, rfl, rfl, ⟨_, _, rfl, rfl, rfl⟩⟩, List.nil_sublist _, rfl, rfl⟩
 ·
  replace hm0 := cond_f hc0 hm0
  refine V.skip ?_
  refine V.seq ?_
  replace hm0 := bindO hm0; rcases hm0 with ⟨y2, hh2, hm0⟩
  refine V.region ?_
  refine VO.cons rfl (V1.move rfl rfl rfl (ltb rfl) ?_)
  refine VO.cons rfl (V1.move rfl rfl rfl (ltb rfl) ?_)
  refine VO.cons rfl (V1.move rfl rfl rfl (ltb rfl) ?_)
  refine VO.cons rfl (V1.call rfl rfl rfl cok_85 rfl (ok_spec_l18Taken hh2) rfl (ltb rfl) ?_)
  rintro _ _ ⟨rfl, rfl⟩
  refine VO.cons rfl (V1.int rfl rfl rfl rfl rfl (ltb rfl) ?_)
  refine VO.cons rfl (V1.assign rfl rfl rfl (ltb rfl) ?_)
  refine VO.cons rfl (V1.assign rfl rfl rfl (ltb rfl) ?_)
  refine VO.nil ?_
  refine V.ret ?_
  obtain rfl := Option.some.inj hm0
  exact ⟨_, [], ⟨_, _, rfl, rfl, ⟨_, _, rfl, rfl, rfl⟩⟩, List.nil_sublist _, rfl, rfl⟩

theorem ok_spec_DrawIsCarton {ρ0 rn : Nat} {code : List Int} {r : Carton} (h : M.spec_DrawIsCarton code = some r) : Does Try.prog 38 [.vl ρ0 1 (List.map encU8 code)] [] rn (fun x H => x = encCarton rn r ∧ H = []) := by
 have hm0 := h; clear h; unfold M.spec_DrawIsCarton at hm0
 try dsimp only at hm0
 refine Does.intro (N := 12) Try.func38 rfl rfl rfl rfl ?_
 intro w0 S0
 refine V.seq ?_
 refine V.region ?_
 refine VO.cons rfl (V1.alloc rfl rfl zk_40 (ltb rfl) ?_)
 intro b0
 refine VO.nil ?_
 refine V.seq ?_
 refine V.region ?_
 refine VO.cons rfl (V1.move rfl rfl rfl (ltb rfl) ?_)
 refine VO.cons rfl (V1.build rfl rfl zk_77 pl_77 rfl rfl (ltb rfl) ?_)
 refine VO.cons rfl (V1.boxN (n := 3) rfl rfl rfl rfl rfl (ltb rfl) ?_)
 intro b1
 refine VO.cons rfl (V1.assign rfl rfl rfl (ltb rfl) ?_)
 refine VO.nil ?_
 refine V.keep 12 [2, 3] [0, 1] (E0 := [(2, .ref b0 5 0 0), (3, .ref b1 3 0 0)]) (H0 := [(b1, ⟨3, [.agg [.vl ρ0 1 (List.map encU8 code), .int .i64 (0 : Int), .int .u64 (0 : Int)]]⟩), (b0, ⟨5, [.agg [.int .i64 (0 : Int), .int .i64 (0 : Int), .int .i64 (0 : Int), .nils, .int .i64 (0 : Int)]]⟩)]) rfl (⟨_, _, rfl, rfl, ⟨_, _, rfl, rfl, rfl⟩⟩) (⟨_, _, rfl, rfl, ⟨_, _, rfl, rfl, rfl⟩⟩) rfl ?_
 refine V.seq ?_
 replace hm0 := bindO hm0; rcases hm0 with ⟨y0, hh0, hm0⟩
 replace hm0 := bindO hm0; rcases hm0 with ⟨y1, hh1, hm0⟩
 refine V.region ?_
 refine VO.cons rfl (V1.move rfl rfl rfl (ltb rfl) ?_)
 refine VO.cons rfl (V1.move rfl rfl rfl (ltb rfl) ?_)
 refine VO.cons rfl (V1.buildSliceT (f := encInt) ([(1 : Int), (42 : Int), (99 : Int)] : List Int) rfl rfl esz_38 zk_3 rfl rfl rfl rfl rfl rfl rfl (ltb rfl) ?_)
 intro b2
 refine VO.cons rfl (V1.callM 1 (rn + ρ0 + 1) [b2] [.ref b1 3 0 0, .vl (rn + ρ0 + 1) 1 (List.map encInt ([(1 : Int), (42 : Int), (99 : Int)] : List Int))] (p := (b1, ⟨3, [.agg [.vl ρ0 1 (List.map encU8 code), .int .i64 (0 : Int), .int .u64 (0 : Int)]]⟩)) rfl rfl rfl cok_77 rfl rfl ⟨_, _, rfl, .same _, ⟨_, _, rfl, Lend.srMap 0 rfl (fun _ => rfl) (.head _), rfl⟩⟩ (bwCons (k := 0) rfl bwNil) (ok_spec_l1Cur_among hh0) rfl (.inr ⟨(by first | omega | (dsimp only; omega)), by rintro _ _ ⟨rfl, rfl⟩; exact ⟨by simp [PV.no, PV.noL, optS_no, noL_iff, nbeq] <;> omega, by intro b ob h; first | exact optH_no (noL_map (fun _ => by simp [PV.no, PV.noL, noL_iff, nbeq]) _) b ob h | (simp at h; obtain ⟨rfl, rfl⟩ := h; exact noL_map (fun _ => by simp [PV.no, PV.noL, noL_iff, nbeq]) _) | (simp at h; obtain ⟨rfl, rfl⟩ := h; simp [PV.no, PV.noL, optS_no, noL_iff, nbeq] <;> omega)⟩⟩) (ltb rfl) ?_)
 rintro _ _ ⟨rfl, rfl⟩
 refine VO.cons rfl (V1.callM 0 (rn + ρ0 + 1) [] [.ref b1 3 0 0, .int .i64 y0.1, .int .i64 (7 : Int)] (p := (b1, ⟨3, [encCur ρ0 y0.2]⟩)) rfl rfl rfl cok_95 rfl rfl ⟨_, _, rfl, .same _, ⟨_, _, rfl, .same _, ⟨_, _, rfl, .same _, rfl⟩⟩⟩ bwNil (ok_spec_l1Cur_carton hh1) rfl (.inl rfl) (ltb rfl) ?_)
 rintro _ _ ⟨rfl, rfl⟩
 refine VO.cons rfl (V1.storeRefAll (k := 2) rfl rfl tyk_40 rfl rfl rfl rfl rfl rfl ?_)
 refine VO.nil ?_
 refine V.ret ?_
 obtain rfl := Option.some.inj hm0
 exact ⟨_, [], ⟨_, _, rfl, ⟨_, _, 2, _, rfl, rfl, rfl, rfl, tyk_40, rfl⟩, rfl⟩, List.nil_sublist _, rfl, rfl⟩

theorem ok_spec_IsCarton {ρ0 rn : Nat} {x : Carton} {r : Bool} (h : M.spec_IsCarton x = some r) : Does Try.prog 40 [encCarton ρ0 x] [] rn (fun x H => x = .bool r ∧ H = []) := by
 have hm0 := h; clear h; unfold M.spec_IsCarton at hm0
 try dsimp only at hm0
 refine Does.intro (N := 5) Try.func40 rfl rfl rfl rfl ?_
 intro w0 S0
 refine V.seq ?_
 refine V.region ?_
 refine VO.cons rfl (V1.boxN (n := 5) rfl rfl rfl rfl rfl (ltb rfl) ?_)
 intro b0
 refine VO.cons rfl (V1.assign rfl rfl rfl (ltb rfl) ?_)
 refine VO.nil ?_
 refine V.seq ?_
 replace hm0 := bindO hm0; rcases hm0 with ⟨y0, hh0, hm0⟩
 refine V.region ?_
 refine VO.cons rfl (V1.loadRefAll (k := 0) rfl rfl tyk_40 rfl rfl rfl rfl rfl (ltb rfl) ?_)
 refine VO.cons rfl (V1.call rfl rfl rfl cok_98 rfl (ok_spec_l18One hh0) rfl (ltb rfl) ?_)
 rintro _ _ ⟨rfl, rfl⟩
 refine VO.cons rfl (V1.assign rfl rfl rfl (ltb rfl) ?_)
 refine VO.nil ?_
 refine V.ret ?_
 obtain rfl := Option.some.inj hm0
 exact ⟨_, [], ⟨_, _, rfl, rfl, rfl⟩, List.nil_sublist _, rfl, rfl⟩

theorem ok_laws_FnShelves {ρ0 rn : Nat} {code : List Int} {r : Bool} (h : M.laws_FnShelves code = some r) : Does Try.prog 4 [.vl ρ0 1 (List.map encU8 code)] [] rn (fun x H => x = .bool r ∧ H = []) := by
 have hm0 := h; clear h; unfold M.laws_FnShelves at hm0
 try dsimp only at hm0
 refine Does.intro (N := 271) Try.func4 rfl rfl rfl rfl ?_
 intro w0 S0
 refine V.seq ?_
 refine V.region ?_
 refine VO.cons rfl (V1.assign rfl rfl rfl (ltb rfl) ?_)
 refine VO.nil ?_
 refine V.seq ?_
 refine V.seq ?_
 replace hm0 := bindO hm0; rcases hm0 with ⟨y0, hh0, hm0⟩
 refine V.region ?_
 refine VO.cons rfl (V1.move rfl rfl rfl (ltb rfl) ?_)
 refine VO.cons rfl (V1.call rfl rfl rfl cok_6 rfl (ok_laws_rBig hh0) rfl (ltb rfl) ?_)
 rintro _ _ ⟨rfl, rfl⟩
 refine VO.nil ?_
 refine V.cond rfl (fun hc0 => ?_) (fun hc0 => ?_)
 ·
  replace hm0 := cond_t hc0 hm0
  refine V.seq ?_
  refine V.region ?_
  refine VO.cons rfl (V1.assign rfl rfl rfl (ltb rfl) ?_)
  refine VO.nil ?_
  refine V.ret ?_
  obtain rfl := Option.some.inj hm0
  exact ⟨_, [], ⟨_, _, rfl, rfl, rfl⟩, List.nil_sublist _, rfl, rfl⟩
 ·
  replace hm0 := cond_f hc0 hm0
  refine V.skip ?_
  refine V.seq ?_
  replace hm0 := bindO hm0; rcases hm0 with ⟨y1, hh1, hm0⟩
  refine V.region ?_
  refine VO.cons rfl (V1.move rfl rfl rfl (ltb rfl) ?_)
  refine VO.cons rfl (V1.call rfl rfl rfl cok_22 rfl (ok_spec_DrawBestShelf hh1) rfl (ltb rfl) ?_)
  rintro _ _ ⟨b0, rfl, rfl⟩
  refine VO.cons rfl (V1.move rfl rfl rfl (ltb rfl) ?_)
  refine VO.cons rfl (V1.extract rfl rfl rfl rfl (ltb rfl) ?_)
  refine VO.weakenK (Keeps.freezeG 0 rn [(50, .vl rn 5 (List.map (encCarton rn) y1.1))] [] (f := (encCarton rn)) (l := y1.1) rfl (fun _ => rfl) ⟨⟨_, rfl, .here⟩, trivial⟩ rfl rfl iNil) ?_
  refine VO.cons rfl (V1.extract rfl rfl rfl rfl (ltb rfl) ?_)
  refine VO.cons rfl (V1.extract rfl rfl rfl rfl (ltb rfl) ?_)
  refine VO.cons rfl (V1.assign rfl rfl rfl (ltb rfl) ?_)
  refine VO.cons rfl (V1.assign rfl rfl rfl (ltb rfl) ?_)
  refine VO.cons rfl (V1.assign rfl rfl rfl (ltb rfl) ?_)
  refine VO.nil ?_
  refine V.keep 271 [0, 3, 4, 5] [] (E0 := [(0, .vl ρ0 1 (List.map encU8 code)), (3, .vl rn 5 (List.map (encCarton rn) y1.1)), (4, .int .i64 y1.2.1), (5, .int .i64 y1.2.2)]) (H0 := []) rfl (⟨_, _, rfl, rfl, ⟨_, _, rfl, rfl, ⟨_, _, rfl, rfl, ⟨_, _, rfl, rfl, rfl⟩⟩⟩⟩) (rfl) rfl ?_
  refine V.seq ?_
  replace hm0 := bindO hm0; rcases hm0 with ⟨y2, hh2, hm0⟩
  refine V.region ?_
  refine VO.cons rfl (V1.move rfl rfl rfl (ltb rfl) ?_)
  refine VO.cons rfl (V1.move rfl rfl rfl (ltb rfl) ?_)
  refine VO.cons rfl (V1.move rfl rfl rfl (ltb rfl) ?_)
  refine VO.cons rfl (V1.call rfl rfl rfl cok_23 rfl (ok_impl_BestShelf hh2) rfl (ltb rfl) ?_)
  rintro _ _ ⟨rfl, rfl⟩
  refine VO.cons rfl (V1.move rfl rfl rfl (ltb rfl) ?_)
  refine VO.cons rfl (V1.extract rfl rfl rfl rfl (ltb rfl) ?_)
  refine VO.cons rfl (V1.extract rfl rfl rfl rfl (ltb rfl) ?_)
  refine VO.cons rfl (V1.assign rfl rfl rfl (ltb rfl) ?_)
  refine VO.cons rfl (V1.assign rfl rfl rfl (ltb rfl) ?_)
  refine VO.nil ?_
  refine V.keep 271 [0, 3, 4, 5, 6, 7] [] (E0 := [(0, .vl ρ0 1 (List.map encU8 code)), (3, .vl rn 5 (List.map (encCarton rn) y1.1)), (4, .int .i64 y1.2.1), (5, .int .i64 y1.2.2), (6, .int .i64 y2.1), (7, .bool y2.2)]) (H0 := []) rfl (⟨_, _, rfl, rfl, ⟨_, _, rfl, rfl, ⟨_, _, rfl, rfl, ⟨_, _, rfl, rfl, ⟨_, _, rfl, rfl, ⟨_, _, rfl, rfl, rfl⟩⟩⟩⟩⟩⟩) (rfl) rfl ?_
  refine V.seq ?_
  refine V.seq ?_
  replace hm0 := bindO hm0; rcases hm0 with ⟨y3, hh3, hm0⟩
  refine V.region ?_
  refine VO.cons rfl (V1.move rfl rfl rfl (ltb rfl) ?_)
  refine VO.cons rfl (V1.move rfl rfl rfl (ltb rfl) ?_)
  refine VO.cons rfl (V1.move rfl rfl rfl (ltb rfl) ?_)
  refine VO.cons rfl (V1.call rfl rfl rfl cok_24 rfl (ok_spec_BestShelf hh3) rfl (ltb rfl) ?_)
  rintro _ _ ⟨rfl, rfl⟩
  refine VO.cons rfl (V1.move rfl rfl rfl (ltb rfl) ?_)
  refine VO.cons rfl (V1.extract rfl rfl rfl rfl (ltb rfl) ?_)
  refine VO.cons rfl (V1.extract rfl rfl rfl rfl (ltb rfl) ?_)
  refine VO.cons rfl (V1.assign rfl rfl rfl (ltb rfl) ?_)
  refine VO.cons rfl (V1.assign rfl rfl rfl (ltb rfl) ?_)
  refine VO.nil ?_
  refine V.keep 271 [0, 3, 4, 5, 6, 7, 8, 9] [] (E0 := [(0, .vl ρ0 1 (List.map encU8 code)), (3, .vl rn 5 (List.map (encCarton rn) y1.1)), (4, .int .i64 y1.2.1), (5, .int .i64 y1.2.2), (6, .int .i64 y2.1), (7, .bool y2.2), (8, .int .i64 y3.1), (9, .bool y3.2)]) (H0 := []) rfl (⟨_, _, rfl, rfl, ⟨_, _, rfl, rfl, ⟨_, _, rfl, rfl, ⟨_, _, rfl, rfl, ⟨_, _, rfl, rfl, ⟨_, _, rfl, rfl, ⟨_, _, rfl, rfl, ⟨_, _, rfl, rfl, rfl⟩⟩⟩⟩⟩⟩⟩⟩) (rfl) rfl ?_
  refine V.seq ?_
  refine V.region ?_
  refine VO.cons rfl (V1.move rfl rfl rfl (ltb rfl) ?_)
  refine VO.cons rfl (V1.move rfl rfl rfl (ltb rfl) ?_)
  refine VO.cons rfl (V1.int rfl rfl rfl rfl rfl (ltb rfl) ?_)
  refine VO.cons rfl (V1.move rfl rfl rfl (ltb rfl) ?_)
  apply VO.or (n := 3) rfl rfl rfl rfl rfl rfl (ltb rfl) (.none rfl)
  ·
   intro hg0
   refine VO.step (.some rfl rfl rfl) (V1.move rfl rfl rfl (ltb rfl) ?_)
   refine VO.step (.some rfl rfl rfl) (V1.move rfl rfl rfl (ltb rfl) ?_)
   refine VO.step (.some rfl rfl rfl) (V1.boolNeq rfl rfl und_4 rfl rfl (ltb rfl) ?_)
   exact VO.nil ⟨rfl, rfl, rfl, rfl, .inr ⟨rfl, .inr ⟨rfl, .inr ⟨rfl, .inr ⟨rfl, .inl rfl⟩⟩⟩⟩⟩
  refine VO.nil ?_
  refine V.keep 271 [0, 3, 4, 5, 6, 7, 74] [] (E0 := [(0, .vl ρ0 1 (List.map encU8 code)), (3, .vl rn 5 (List.map (encCarton rn) y1.1)), (4, .int .i64 y1.2.1), (5, .int .i64 y1.2.2), (6, .int .i64 y2.1), (7, .bool y2.2), (74, .bool ((y2.1 != y3.1) || (!(y2.2 == y3.2))))]) (H0 := []) rfl (⟨_, _, rfl, rfl, ⟨_, _, rfl, rfl, ⟨_, _, rfl, rfl, ⟨_, _, rfl, rfl, ⟨_, _, rfl, rfl, ⟨_, _, rfl, rfl, ⟨_, _, rfl, rfl, rfl⟩⟩⟩⟩⟩⟩⟩) (rfl) rfl ?_
  refine V.cond rfl (fun hc1 => ?_) (fun hc1 => ?_)
  ·
   replace hm0 := cond_t hc1 hm0
   refine V.seq ?_
   refine V.region ?_
   refine VO.cons rfl (V1.assign rfl rfl rfl (ltb rfl) ?_)
   refine VO.nil ?_
   refine V.ret ?_
   obtain rfl := Option.some.inj hm0
   exact ⟨_, [], ⟨_, _, rfl, rfl, rfl⟩, List.nil_sublist _, rfl, rfl⟩
  ·
   replace hm0 := cond_f hc1 hm0
   refine V.skip ?_
   refine V.seq ?_
   replace hm0 := bindO hm0; rcases hm0 with ⟨j0, hm1, hm0⟩
   refine V.cutT (D := (Unit) × (Unit)) (fun ⟨_, _⟩ => ⟨271, [(0, .vl ρ0 1 (List.map encU8 code))], []⟩) (fun ⟨_, _⟩ => (.inl () = j0)) ?_ ?_
   ·
    refine V.seq ?_
    refine V.region ?_
    refine VO.cons rfl (V1.move rfl rfl rfl (ltb rfl) ?_)
    refine VO.nil ?_
    refine V.cond rfl (fun hc2 => ?_) (fun hc2 => ?_)
    ·
     replace hm1 := cond_t hc2 hm1
     refine V.seq ?_
     replace hm1 := bindO hm1; rcases hm1 with ⟨y4, hh4, hm1⟩
     refine V.region ?_
     refine VO.cons rfl (V1.move rfl rfl rfl (ltb rfl) ?_)
     refine VO.cons rfl (V1.move rfl rfl rfl (ltb rfl) ?_)
     refine VO.cons rfl (V1.move rfl rfl rfl (ltb rfl) ?_)
     refine VO.cons rfl (V1.call rfl rfl rfl cok_16 rfl (ok_impl_FreeOn hh4) rfl (ltb rfl) ?_)
     rintro _ _ ⟨rfl, rfl⟩
     refine VO.cons rfl (V1.move rfl rfl rfl (ltb rfl) ?_)
     refine VO.cons rfl (V1.extract rfl rfl rfl rfl (ltb rfl) ?_)
     refine VO.cons rfl (V1.extract rfl rfl rfl rfl (ltb rfl) ?_)
     refine VO.cons rfl (V1.assign rfl rfl rfl (ltb rfl) ?_)
     refine VO.cons rfl (V1.assign rfl rfl rfl (ltb rfl) ?_)
     refine VO.nil ?_
     refine V.keep 271 [0, 3, 4, 5, 10, 11] [] (E0 := [(0, .vl ρ0 1 (List.map encU8 code)), (3, .vl rn 5 (List.map (encCarton rn) y1.1)), (4, .int .i64 y1.2.1), (5, .int .i64 y1.2.2), (10, .int .i64 y4.1), (11, .bool y4.2)]) (H0 := []) rfl (⟨_, _, rfl, rfl, ⟨_, _, rfl, rfl, ⟨_, _, rfl, rfl, ⟨_, _, rfl, rfl, ⟨_, _, rfl, rfl, ⟨_, _, rfl, rfl, rfl⟩⟩⟩⟩⟩⟩) (rfl) rfl ?_
     refine V.seq ?_
     refine V.seq ?_
     refine V.region ?_
     refine VO.cons rfl (V1.move rfl rfl rfl (ltb rfl) ?_)
     refine VO.cons rfl (V1.not rfl rfl rfl (ltb rfl) ?_)
     refine VO.cons rfl (V1.move rfl rfl rfl (ltb rfl) ?_)
     apply VO.or (n := 3) rfl rfl rfl rfl rfl rfl (ltb rfl) (.none rfl)
     ·
      intro hg1
      refine VO.step (.some rfl rfl rfl) (V1.move rfl rfl rfl (ltb rfl) ?_)
      refine VO.step (.some rfl rfl rfl) (V1.move rfl rfl rfl (ltb rfl) ?_)
      refine VO.step (.some rfl rfl rfl) (V1.int rfl rfl rfl rfl rfl (ltb rfl) ?_)
      exact VO.nil ⟨rfl, rfl, rfl, rfl, .inr ⟨rfl, .inr ⟨rfl, .inr ⟨rfl, .inr ⟨rfl, .inl rfl⟩⟩⟩⟩⟩
     refine VO.nil ?_
     refine V.keep 271 [0, 3, 4, 5, 10, 89] [] (E0 := [(0, .vl ρ0 1 (List.map encU8 code)), (3, .vl rn 5 (List.map (encCarton rn) y1.1)), (4, .int .i64 y1.2.1), (5, .int .i64 y1.2.2), (10, .int .i64 y4.1), (89, .bool ((!y4.2) || (decide (y4.1 < y1.2.2))))]) (H0 := []) rfl (⟨_, _, rfl, rfl, ⟨_, _, rfl, rfl, ⟨_, _, rfl, rfl, ⟨_, _, rfl, rfl, ⟨_, _, rfl, rfl, ⟨_, _, rfl, rfl, rfl⟩⟩⟩⟩⟩⟩) (rfl) rfl ?_
     refine V.cond rfl (fun hc3 => ?_) (fun hc3 => ?_)
     ·
      replace hm1 := cond_t hc3 hm1
      refine V.seq ?_
      refine V.region ?_
      refine VO.cons rfl (V1.assign rfl rfl rfl (ltb rfl) ?_)
      refine VO.nil ?_
      refine V.ret ?_
      obtain rfl := Option.some.inj hm1
      change some _ = some _ at hm0
      obtain rfl := Option.some.inj hm0
      exact ⟨_, [], ⟨_, _, rfl, rfl, rfl⟩, List.nil_sublist _, rfl, rfl⟩
     ·
      replace hm1 := cond_f hc3 hm1
      refine V.skip ?_
      refine V.seq ?_
      refine V.region ?_
      refine VO.cons rfl (V1.assign rfl rfl rfl (ltb rfl) ?_)
      refine VO.nil ?_
      replace hm1 := bindO hm1; rcases hm1 with ⟨e0, he2, hm1⟩
      refine V.cutT (D := (Unit) × (Unit)) (fun ⟨_, _⟩ => ⟨271, [(0, .vl ρ0 1 (List.map encU8 code))], []⟩) (fun ⟨_, _⟩ => (.inl () = e0)) ?_ ?_
      ·
       refine V.block ?_
       refine V.keep 271 [12, 0, 3, 4, 5, 10] [] (E0 := [(12, .int .i64 (1 : Int)), (0, .vl ρ0 1 (List.map encU8 code)), (3, .vl rn 5 (List.map (encCarton rn) y1.1)), (4, .int .i64 y1.2.1), (5, .int .i64 y1.2.2), (10, .int .i64 y4.1)]) (H0 := []) rfl (⟨_, _, rfl, rfl, ⟨_, _, rfl, rfl, ⟨_, _, rfl, rfl, ⟨_, _, rfl, rfl, ⟨_, _, rfl, rfl, ⟨_, _, rfl, rfl, rfl⟩⟩⟩⟩⟩⟩) (rfl) rfl ?_
       refine V.loopE (D := Nat × (Int) × (Unit)) (fun ⟨n0, shelf, _⟩ => [(12, .int .i64 shelf)]) (fun ⟨n0, shelf, _⟩ => []) (fun ⟨n0, shelf, _⟩ => loopO (M.laws_FnShelves_l0 y1 y4) n0 shelf = some e0) (fun ⟨n0, _, _⟩ => n0) (rounds, (1 : Int), ()) rfl he2 ?_
       rintro ⟨n0, shelf, _⟩ hP0
       obtain ⟨m0, y5, rfl, hm2, hl2, hr2⟩ := loop_head hP0
       unfold M.laws_FnShelves_l0 at hm2; dsimp only at hm2
       show V _ _ _ ⟨271, [(12, .int .i64 shelf), (0, .vl ρ0 1 (List.map encU8 code)), (3, .vl rn 5 (List.map (encCarton rn) y1.1)), (4, .int .i64 y1.2.1), (5, .int .i64 y1.2.2), (10, .int .i64 y4.1)], []⟩
       refine V.seq ?_
       refine V.seq ?_
       refine V.region ?_
       refine VO.cons rfl (V1.move rfl rfl rfl (ltb rfl) ?_)
       refine VO.cons rfl (V1.int rfl rfl rfl rfl rfl (ltb rfl) ?_)
       refine VO.nil ?_
       refine V.cond rfl (fun hc4 => ?_) (fun hc4 => ?_)
       ·
        replace hm2 := cond_t hc4 hm2
        refine V.skip ?_
        refine V.seq ?_
        refine V.block ?_
        refine V.seq ?_
        replace hm2 := bindO hm2; rcases hm2 with ⟨y6, hh5, hm2⟩
        refine V.region ?_
        refine VO.cons rfl (V1.move rfl rfl rfl (ltb rfl) ?_)
        refine VO.cons rfl (V1.move rfl rfl rfl (ltb rfl) ?_)
        refine VO.cons rfl (V1.move rfl rfl rfl (ltb rfl) ?_)
        refine VO.cons rfl (V1.call rfl rfl rfl cok_16 rfl (ok_impl_FreeOn hh5) rfl (ltb rfl) ?_)
        rintro _ _ ⟨rfl, rfl⟩
        refine VO.cons rfl (V1.move rfl rfl rfl (ltb rfl) ?_)
        refine VO.cons rfl (V1.extract rfl rfl rfl rfl (ltb rfl) ?_)
        refine VO.cons rfl (V1.extract rfl rfl rfl rfl (ltb rfl) ?_)
        refine VO.cons rfl (V1.assign rfl rfl rfl (ltb rfl) ?_)
        refine VO.cons rfl (V1.assign rfl rfl rfl (ltb rfl) ?_)
        refine VO.nil ?_
        refine V.keep 271 [0, 3, 4, 5, 10, 12, 13, 14] [] (E0 := [(0, .vl ρ0 1 (List.map encU8 code)), (3, .vl rn 5 (List.map (encCarton rn) y1.1)), (4, .int .i64 y1.2.1), (5, .int .i64 y1.2.2), (10, .int .i64 y4.1), (12, .int .i64 shelf), (13, .int .i64 y6.1), (14, .bool y6.2)]) (H0 := []) rfl (⟨_, _, rfl, rfl, ⟨_, _, rfl, rfl, ⟨_, _, rfl, rfl, ⟨_, _, rfl, rfl, ⟨_, _, rfl, rfl, ⟨_, _, rfl, rfl, ⟨_, _, rfl, rfl, ⟨_, _, rfl, rfl, rfl⟩⟩⟩⟩⟩⟩⟩⟩) (rfl) rfl ?_
        refine V.seq ?_
        refine V.region ?_
        refine VO.cons rfl (V1.move rfl rfl rfl (ltb rfl) ?_)
        refine VO.cons rfl (V1.not rfl rfl rfl (ltb rfl) ?_)
        refine VO.cons rfl (V1.move rfl rfl rfl (ltb rfl) ?_)
        apply VO.or (n := 8) rfl rfl rfl rfl rfl rfl (ltb rfl) (.none rfl)
        ·
         intro hg2
         refine VO.step (.some rfl rfl rfl) (V1.move rfl rfl rfl (ltb rfl) ?_)
         refine VO.step (.some rfl rfl rfl) (V1.move rfl rfl rfl (ltb rfl) ?_)
         refine VO.step (.some rfl rfl rfl) (V1.int rfl rfl rfl rfl rfl (ltb rfl) ?_)
         refine VO.step (.some rfl rfl rfl) (V1.move rfl rfl rfl (ltb rfl) ?_)
         apply VO.and (n := 3) rfl rfl rfl rfl rfl rfl (ltb rfl) (.some rfl rfl rfl)
         ·
          intro hg3
          refine VO.step (.some rfl rfl rfl) (V1.move rfl rfl rfl (ltb rfl) ?_)
          refine VO.step (.some rfl rfl rfl) (V1.move rfl rfl rfl (ltb rfl) ?_)
          refine VO.step (.some rfl rfl rfl) (V1.int rfl rfl rfl rfl rfl (ltb rfl) ?_)
          exact VO.nil ⟨rfl, rfl, rfl, rfl, .inr ⟨rfl, .inr ⟨rfl, .inr ⟨rfl, .inr ⟨rfl, .inl rfl⟩⟩⟩⟩⟩
         exact VO.nil ⟨rfl, rfl, rfl, rfl, .inr ⟨rfl, .inr ⟨rfl, .inr ⟨rfl, .inr ⟨rfl, .inr ⟨rfl, .inr ⟨rfl, .inl rfl⟩⟩⟩⟩⟩⟩⟩
        refine VO.nil ?_
        refine V.keep 271 [0, 3, 4, 5, 10, 12, 112] [] (E0 := [(0, .vl ρ0 1 (List.map encU8 code)), (3, .vl rn 5 (List.map (encCarton rn) y1.1)), (4, .int .i64 y1.2.1), (5, .int .i64 y1.2.2), (10, .int .i64 y4.1), (12, .int .i64 shelf), (112, .bool ((!y6.2) || ((decide (y6.1 ≥ y1.2.2)) && (decide (y6.1 < y4.1)))))]) (H0 := []) rfl (⟨_, _, rfl, rfl, ⟨_, _, rfl, rfl, ⟨_, _, rfl, rfl, ⟨_, _, rfl, rfl, ⟨_, _, rfl, rfl, ⟨_, _, rfl, rfl, ⟨_, _, rfl, rfl, rfl⟩⟩⟩⟩⟩⟩⟩) (rfl) rfl ?_
        refine V.cond rfl (fun hc5 => ?_) (fun hc5 => ?_)
        ·
         replace hm2 := cond_t hc5 hm2
         refine V.seq ?_
         refine V.region ?_
         refine VO.cons rfl (V1.assign rfl rfl rfl (ltb rfl) ?_)
         refine VO.nil ?_
         refine V.ret ?_
         obtain rfl := hr2 _ (Option.some.inj hm2).symm
         change some _ = some _ at hm1
         obtain rfl := Option.some.inj hm1
         change some _ = some _ at hm0
         obtain rfl := Option.some.inj hm0
         exact ⟨_, [], ⟨_, _, rfl, rfl, rfl⟩, List.nil_sublist _, rfl, rfl⟩
        ·
         replace hm2 := cond_f hc5 hm2
         refine V.skip ?_
         refine V.region ?_
         refine VO.cons rfl (V1.move rfl rfl rfl (ltb rfl) ?_)
         refine VO.cons rfl (V1.int rfl rfl rfl rfl rfl (ltb rfl) ?_)
         refine VO.cons rfl (V1.assign rfl rfl rfl (ltb rfl) ?_)
         refine VO.nil ?_
         exact ⟨(m0, (IntKind.i64.wrap (shelf + (1 : Int))), ()), hl2 _ (Option.some.inj hm2).symm, Nat.lt_succ_self _, Keeps.mk (ks := []) rfl ⟨rfl, rfl, rfl, rfl, rfl, rfl, trivial⟩ (rfl) rfl⟩
       ·
        replace hm2 := cond_f hc4 hm2
        refine V.exit ?_
        obtain rfl := hr2 _ (Option.some.inj hm2).symm
        exact ⟨((), ()), rfl, Keeps.mk (ks := []) rfl ⟨rfl, trivial⟩ (rfl) rfl⟩
      ·
       rintro ⟨_, _⟩ rfl
       try dsimp only at hm1
       exact ⟨((), ()), Option.some.inj hm1, Keeps.mk (ks := []) rfl ⟨rfl, trivial⟩ (rfl) rfl⟩
    ·
     replace hm1 := cond_f hc2 hm1
     refine V.skip ?_
     exact ⟨((), ()), Option.some.inj hm1, Keeps.mk (ks := []) rfl ⟨rfl, trivial⟩ (rfl) rfl⟩
   ·
    rintro ⟨_, _⟩ rfl
    try dsimp only at hm0
    refine V.seq ?_
    replace hm0 := bindO hm0; rcases hm0 with ⟨y7, hh6, hm0⟩
    refine V.region ?_
    refine VO.cons rfl (V1.move rfl rfl rfl (ltb rfl) ?_)
    refine VO.cons rfl (V1.call rfl rfl rfl cok_25 rfl (ok_spec_DrawPullList hh6) rfl (ltb rfl) ?_)
    rintro _ _ ⟨b1, b2, rfl, rfl⟩
    refine VO.cons rfl (V1.move rfl rfl rfl (ltb rfl) ?_)
    refine VO.cons rfl (V1.extract rfl rfl rfl rfl (ltb rfl) ?_)
    refine VO.weakenK (Keeps.freezeG 0 rn [(116, .vl rn 5 (List.map (encCarton rn) y7.1))] [(b2, ⟨1, List.map encInt y7.2⟩)] (f := (encCarton rn)) (l := y7.1) rfl (fun _ => rfl) ⟨⟨_, rfl, .here⟩, trivial⟩ ⟨_, _, rfl, rfl, .inl rfl, rfl⟩ rfl iNil) ?_
    refine VO.cons rfl (V1.extract rfl rfl rfl rfl (ltb rfl) ?_)
    refine VO.weakenK (Keeps.freezeG 0 rn [(117, .vl rn 1 (List.map encInt y7.2))] [] (f := encInt) (l := y7.2) rfl (fun _ => rfl) ⟨⟨_, rfl, .here⟩, trivial⟩ rfl rfl iNil) ?_
    refine VO.cons rfl (V1.assign rfl rfl rfl (ltb rfl) ?_)
    refine VO.cons rfl (V1.assign rfl rfl rfl (ltb rfl) ?_)
    refine VO.nil ?_
    refine V.keep 271 [0, 15, 16] [] (E0 := [(0, .vl ρ0 1 (List.map encU8 code)), (15, .vl rn 5 (List.map (encCarton rn) y7.1)), (16, .vl rn 1 (List.map encInt y7.2))]) (H0 := []) rfl (⟨_, _, rfl, rfl, ⟨_, _, rfl, rfl, ⟨_, _, rfl, rfl, rfl⟩⟩⟩) (rfl) rfl ?_
    refine V.seq ?_
    replace hm0 := bindO hm0; rcases hm0 with ⟨y8, hh7, hm0⟩
    refine V.region ?_
    refine VO.cons rfl (V1.move rfl rfl rfl (ltb rfl) ?_)
    refine VO.cons rfl (V1.move rfl rfl rfl (ltb rfl) ?_)
    refine VO.cons rfl (V1.permK (V1.call rfl rfl rfl cok_26 rfl (ok_impl_PullList hh7) rfl (ltb rfl) ?_))
    rintro _ _ ⟨ob0, hob0, rfl, rfl⟩
    refine ⟨_, ?_, Keeps.optBack (n := 1) (ob := ob0) (xs := List.map encInt y8.1) (H1 := []) (H2 := []) rfl⟩
    refine VO.cons rfl (V1.move rfl rfl rfl (ltb rfl) ?_)
    refine VO.cons rfl (V1.extract rfl rfl rfl rfl (ltb rfl) ?_)
    refine VO.weakenK (Keeps.optFront (n := 1) (ob := ob0) (xs := List.map encInt y8.1) (H1 := []) rfl) ?_
    refine VO.weakenK (Keeps.optVl 122 [] rn (f := encInt) (l := y8.1) (ob := ob0) (H1 := []) hob0 rfl rfl ⟨rfl, trivial⟩ (fun _ => rfl) rfl iNil) ?_
    refine VO.cons rfl (V1.extract rfl rfl rfl rfl (ltb rfl) ?_)
    refine VO.cons rfl (V1.assign rfl rfl rfl (ltb rfl) ?_)
    refine VO.cons rfl (V1.assign rfl rfl rfl (ltb rfl) ?_)
    refine VO.nil ?_
    refine V.keep 271 [0, 15, 16, 17, 18] [] (E0 := [(0, .vl ρ0 1 (List.map encU8 code)), (15, .vl rn 5 (List.map (encCarton rn) y7.1)), (16, .vl rn 1 (List.map encInt y7.2)), (17, .vl rn 1 (List.map encInt y8.1)), (18, .bool y8.2)]) (H0 := []) rfl (⟨_, _, rfl, rfl, ⟨_, _, rfl, rfl, ⟨_, _, rfl, rfl, ⟨_, _, rfl, rfl, ⟨_, _, rfl, rfl, rfl⟩⟩⟩⟩⟩) (rfl) rfl ?_
    refine V.seq ?_
    refine V.seq ?_
    replace hm0 := bindO hm0; rcases hm0 with ⟨y9, hh8, hm0⟩
    refine V.region ?_
    refine VO.cons rfl (V1.move rfl rfl rfl (ltb rfl) ?_)
    refine VO.cons rfl (V1.move rfl rfl rfl (ltb rfl) ?_)
    refine VO.cons rfl (V1.call rfl rfl rfl cok_27 rfl (ok_spec_PullList hh8) rfl (ltb rfl) ?_)
    rintro _ _ ⟨b3, rfl, rfl⟩
    refine VO.cons rfl (V1.move rfl rfl rfl (ltb rfl) ?_)
    refine VO.cons rfl (V1.extract rfl rfl rfl rfl (ltb rfl) ?_)
    refine VO.weakenK (Keeps.freezeG 0 rn [(128, .vl rn 1 (List.map encInt y9.1))] [] (f := encInt) (l := y9.1) rfl (fun _ => rfl) ⟨⟨_, rfl, .here⟩, trivial⟩ rfl rfl iNil) ?_
    refine VO.cons rfl (V1.extract rfl rfl rfl rfl (ltb rfl) ?_)
    refine VO.cons rfl (V1.assign rfl rfl rfl (ltb rfl) ?_)
    refine VO.cons rfl (V1.assign rfl rfl rfl (ltb rfl) ?_)
    refine VO.nil ?_
    refine V.keep 271 [0, 15, 16, 17, 18, 19, 20] [] (E0 := [(0, .vl ρ0 1 (List.map encU8 code)), (15, .vl rn 5 (List.map (encCarton rn) y7.1)), (16, .vl rn 1 (List.map encInt y7.2)), (17, .vl rn 1 (List.map encInt y8.1)), (18, .bool y8.2), (19, .vl rn 1 (List.map encInt y9.1)), (20, .bool y9.2)]) (H0 := []) rfl (⟨_, _, rfl, rfl, ⟨_, _, rfl, rfl, ⟨_, _, rfl, rfl, ⟨_, _, rfl, rfl, ⟨_, _, rfl, rfl, ⟨_, _, rfl, rfl, ⟨_, _, rfl, rfl, rfl⟩⟩⟩⟩⟩⟩⟩) (rfl) rfl ?_
    refine V.seq ?_
    replace hm0 := bindO hm0; rcases hm0 with ⟨y10, hh9, hm0⟩
    refine V.region ?_
    refine VO.cons rfl (V1.move rfl rfl rfl (ltb rfl) ?_)
    refine VO.cons rfl (V1.move rfl rfl rfl (ltb rfl) ?_)
    refine VO.cons rfl (V1.boolNeq rfl rfl und_4 rfl rfl (ltb rfl) ?_)
    refine VO.cons rfl (V1.move rfl rfl rfl (ltb rfl) ?_)
    apply VO.or (n := 4) rfl rfl rfl rfl rfl rfl (ltb rfl) (.none rfl)
    ·
     intro hg4
     refine VO.step (.some rfl rfl rfl) (V1.move rfl rfl rfl (ltb rfl) ?_)
     refine VO.step (.some rfl rfl rfl) (V1.move rfl rfl rfl (ltb rfl) ?_)
     refine VO.step (.some rfl rfl rfl) (V1.call rfl rfl rfl cok_28 rfl (ok_laws_rInts (cond_f hg4 hh9)) rfl (ltb rfl) ?_)
     rintro _ _ ⟨rfl, rfl⟩
     refine VO.step (.some rfl rfl rfl) (V1.not rfl rfl rfl (ltb rfl) ?_)
     exact VO.nil ⟨rfl, rfl, rfl, rfl, .inr ⟨rfl, .inr ⟨rfl, .inr ⟨rfl, .inr ⟨rfl, .inr ⟨rfl, .inl rfl⟩⟩⟩⟩⟩⟩
    refine VO.nil ?_
    refine V.keep 271 [0, 15, 16, 17, 18, 138] [] (E0 := [(0, .vl ρ0 1 (List.map encU8 code)), (15, .vl rn 5 (List.map (encCarton rn) y7.1)), (16, .vl rn 1 (List.map encInt y7.2)), (17, .vl rn 1 (List.map encInt y8.1)), (18, .bool y8.2), (138, .bool ((!(y8.2 == y9.2)) || (!y10)))]) (H0 := []) rfl (⟨_, _, rfl, rfl, ⟨_, _, rfl, rfl, ⟨_, _, rfl, rfl, ⟨_, _, rfl, rfl, ⟨_, _, rfl, rfl, ⟨_, _, rfl, rfl, rfl⟩⟩⟩⟩⟩⟩) (rfl) rfl ?_
    refine V.cond rfl (fun hc6 => ?_) (fun hc6 => ?_)
    ·
     replace hm0 := cond_t hc6 hm0
     refine V.seq ?_
     refine V.region ?_
     refine VO.cons rfl (V1.assign rfl rfl rfl (ltb rfl) ?_)
     refine VO.nil ?_
     refine V.ret ?_
     obtain rfl := Option.some.inj hm0
     exact ⟨_, [], ⟨_, _, rfl, rfl, rfl⟩, List.nil_sublist _, rfl, rfl⟩
    ·
     replace hm0 := cond_f hc6 hm0
     refine V.skip ?_
     refine V.seq ?_
     refine V.seq ?_
     refine V.region ?_
     refine VO.cons rfl (V1.assign rfl rfl rfl (ltb rfl) ?_)
     refine VO.nil ?_
     replace hm0 := bindO hm0; rcases hm0 with ⟨e1, he1, hm0⟩
     refine V.cutT (D := (Unit) × (Unit)) (fun ⟨_, _⟩ => ⟨271, [(0, .vl ρ0 1 (List.map encU8 code))], []⟩) (fun ⟨_, _⟩ => (.inl () = e1)) ?_ ?_
     ·
      refine V.block ?_
      refine V.keep 271 [21, 0, 15, 16, 17, 18] [] (E0 := [(21, .int .i64 (0 : Int)), (0, .vl ρ0 1 (List.map encU8 code)), (15, .vl rn 5 (List.map (encCarton rn) y7.1)), (16, .vl rn 1 (List.map encInt y7.2)), (17, .vl rn 1 (List.map encInt y8.1)), (18, .bool y8.2)]) (H0 := []) rfl (⟨_, _, rfl, rfl, ⟨_, _, rfl, rfl, ⟨_, _, rfl, rfl, ⟨_, _, rfl, rfl, ⟨_, _, rfl, rfl, ⟨_, _, rfl, rfl, rfl⟩⟩⟩⟩⟩⟩) (rfl) rfl ?_
      refine V.loopE (D := Nat × (Int) × (Unit)) (fun ⟨n1, i, _⟩ => [(21, .int .i64 i)]) (fun ⟨n1, i, _⟩ => []) (fun ⟨n1, i, _⟩ => loopO (M.laws_FnShelves_l1 y7 y8) n1 i = some e1) (fun ⟨n1, _, _⟩ => n1) (rounds, (0 : Int), ()) rfl he1 ?_
      rintro ⟨n1, i, _⟩ hP1
      obtain ⟨m1, y11, rfl, hm1, hl1, hr1⟩ := loop_head hP1
      unfold M.laws_FnShelves_l1 at hm1; dsimp only at hm1
      show V _ _ _ ⟨271, [(21, .int .i64 i), (0, .vl ρ0 1 (List.map encU8 code)), (15, .vl rn 5 (List.map (encCarton rn) y7.1)), (16, .vl rn 1 (List.map encInt y7.2)), (17, .vl rn 1 (List.map encInt y8.1)), (18, .bool y8.2)], []⟩
      refine V.seq ?_
      refine V.seq ?_
      refine V.region ?_
      refine VO.cons rfl (V1.move rfl rfl rfl (ltb rfl) ?_)
      refine VO.cons rfl (V1.move rfl rfl rfl (ltb rfl) ?_)
      refine VO.cons rfl (V1.lenMap rfl rfl rfl rfl rfl rfl isl_38 (ltb rfl) ?_)
      refine VO.cons rfl (V1.int rfl rfl rfl rfl rfl (ltb rfl) ?_)
      refine VO.cons rfl (V1.move rfl rfl rfl (ltb rfl) ?_)
      apply VO.and (n := 1) rfl rfl rfl rfl rfl rfl (ltb rfl) (.none rfl)
      ·
       intro hg5
       refine VO.step (.some rfl rfl rfl) (V1.move rfl rfl rfl (ltb rfl) ?_)
       exact VO.nil ⟨rfl, rfl, rfl, rfl, .inr ⟨rfl, .inr ⟨rfl, .inl rfl⟩⟩⟩
      refine VO.nil ?_
      refine V.keep 271 [0, 15, 16, 17, 18, 21, 145] [] (E0 := [(0, .vl ρ0 1 (List.map encU8 code)), (15, .vl rn 5 (List.map (encCarton rn) y7.1)), (16, .vl rn 1 (List.map encInt y7.2)), (17, .vl rn 1 (List.map encInt y8.1)), (18, .bool y8.2), (21, .int .i64 i), (145, .bool ((decide (i < (y7.2.length : Int))) && y8.2))]) (H0 := []) rfl (⟨_, _, rfl, rfl, ⟨_, _, rfl, rfl, ⟨_, _, rfl, rfl, ⟨_, _, rfl, rfl, ⟨_, _, rfl, rfl, ⟨_, _, rfl, rfl, ⟨_, _, rfl, rfl, rfl⟩⟩⟩⟩⟩⟩⟩) (rfl) rfl ?_
      refine V.cond rfl (fun hc7 => ?_) (fun hc7 => ?_)
      ·
       replace hm1 := cond_t hc7 hm1
       refine V.skip ?_
       refine V.seq ?_
       refine V.block ?_
       refine V.seq ?_
       replace hm1 := asrt_some hm1; rcases hm1 with ⟨hh10, hm1⟩
       replace hm1 := bindO hm1; rcases hm1 with ⟨y12, hh11, hm1⟩
       refine V.region ?_
       refine VO.cons rfl (V1.move rfl rfl rfl (ltb rfl) ?_)
       refine VO.cons rfl (V1.move rfl rfl rfl (ltb rfl) ?_)
       refine VO.cons rfl (V1.move rfl rfl rfl (ltb rfl) ?_)
       refine VO.cons rfl (V1.indexI rfl rfl esz_38 rfl rfl hh10 (ltb rfl) ?_)
       refine VO.cons rfl (V1.loadPin rfl rfl tyk_3 rfl rfl (ltb rfl) ?_)
       refine VO.cons rfl (V1.call rfl rfl rfl cok_11 rfl (ok_impl_FindFile hh11) rfl (ltb rfl) ?_)
       rintro _ _ ⟨rfl, rfl⟩
       refine VO.cons rfl (V1.move rfl rfl rfl (ltb rfl) ?_)
       refine VO.cons rfl (V1.extract rfl rfl rfl rfl (ltb rfl) ?_)
       refine VO.cons rfl (V1.extract rfl rfl rfl rfl (ltb rfl) ?_)
       refine VO.cons rfl (V1.extract rfl rfl rfl rfl (ltb rfl) ?_)
       refine VO.cons rfl (V1.extract rfl rfl rfl rfl (ltb rfl) ?_)
       refine VO.cons rfl (V1.assign rfl rfl rfl (ltb rfl) ?_)
       refine VO.cons rfl (V1.assign rfl rfl rfl (ltb rfl) ?_)
       refine VO.cons rfl (V1.assign rfl rfl rfl (ltb rfl) ?_)
       refine VO.cons rfl (V1.assign rfl rfl rfl (ltb rfl) ?_)
       refine VO.nil ?_
       refine V.keep 271 [0, 15, 16, 17, 18, 21, 22, 25] [] (E0 := [(0, .vl ρ0 1 (List.map encU8 code)), (15, .vl rn 5 (List.map (encCarton rn) y7.1)), (16, .vl rn 1 (List.map encInt y7.2)), (17, .vl rn 1 (List.map encInt y8.1)), (18, .bool y8.2), (21, .int .i64 i), (22, .int .i64 y12.1), (25, .bool y12.2.2.2)]) (H0 := []) rfl (⟨_, _, rfl, rfl, ⟨_, _, rfl, rfl, ⟨_, _, rfl, rfl, ⟨_, _, rfl, rfl, ⟨_, _, rfl, rfl, ⟨_, _, rfl, rfl, ⟨_, _, rfl, rfl, ⟨_, _, rfl, rfl, rfl⟩⟩⟩⟩⟩⟩⟩⟩) (rfl) rfl ?_
       refine V.seq ?_
       replace hm1 := bindO hm1; rcases hm1 with ⟨y13, hh12, hm1⟩
       refine V.region ?_
       refine VO.cons rfl (V1.move rfl rfl rfl (ltb rfl) ?_)
       refine VO.cons rfl (V1.not rfl rfl rfl (ltb rfl) ?_)
       refine VO.cons rfl (V1.move rfl rfl rfl (ltb rfl) ?_)
       apply VO.or (n := 4) rfl rfl rfl rfl rfl rfl (ltb rfl) (.none rfl)
       ·
        intro hg6
        refine VO.step (.some rfl rfl rfl) (V1.move rfl rfl rfl (ltb rfl) ?_)
        refine VO.step (.some rfl rfl rfl) (V1.move rfl rfl rfl (ltb rfl) ?_)
        refine VO.step (.some rfl rfl rfl) (V1.call rfl rfl rfl cok_29 rfl (ok_laws_rHas (cond_f hg6 hh12)) rfl (ltb rfl) ?_)
        rintro _ _ ⟨rfl, rfl⟩
        refine VO.step (.some rfl rfl rfl) (V1.not rfl rfl rfl (ltb rfl) ?_)
        exact VO.nil ⟨rfl, rfl, rfl, rfl, .inr ⟨rfl, .inr ⟨rfl, .inr ⟨rfl, .inr ⟨rfl, .inr ⟨rfl, .inl rfl⟩⟩⟩⟩⟩⟩
       refine VO.nil ?_
       refine V.keep 271 [0, 15, 16, 17, 18, 21, 166] [] (E0 := [(0, .vl ρ0 1 (List.map encU8 code)), (15, .vl rn 5 (List.map (encCarton rn) y7.1)), (16, .vl rn 1 (List.map encInt y7.2)), (17, .vl rn 1 (List.map encInt y8.1)), (18, .bool y8.2), (21, .int .i64 i), (166, .bool ((!y12.2.2.2) || (!y13)))]) (H0 := []) rfl (⟨_, _, rfl, rfl, ⟨_, _, rfl, rfl, ⟨_, _, rfl, rfl, ⟨_, _, rfl, rfl, ⟨_, _, rfl, rfl, ⟨_, _, rfl, rfl, ⟨_, _, rfl, rfl, rfl⟩⟩⟩⟩⟩⟩⟩) (rfl) rfl ?_
       refine V.cond rfl (fun hc8 => ?_) (fun hc8 => ?_)
       ·
        replace hm1 := cond_t hc8 hm1
        refine V.seq ?_
        refine V.region ?_
        refine VO.cons rfl (V1.assign rfl rfl rfl (ltb rfl) ?_)
        refine VO.nil ?_
        refine V.ret ?_
        obtain rfl := hr1 _ (Option.some.inj hm1).symm
        change some _ = some _ at hm0
        obtain rfl := Option.some.inj hm0
        exact ⟨_, [], ⟨_, _, rfl, rfl, rfl⟩, List.nil_sublist _, rfl, rfl⟩
       ·
        replace hm1 := cond_f hc8 hm1
        refine V.skip ?_
        refine V.region ?_
        refine VO.cons rfl (V1.move rfl rfl rfl (ltb rfl) ?_)
        refine VO.cons rfl (V1.int rfl rfl rfl rfl rfl (ltb rfl) ?_)
        refine VO.cons rfl (V1.assign rfl rfl rfl (ltb rfl) ?_)
        refine VO.nil ?_
        exact ⟨(m1, (IntKind.i64.wrap (i + (1 : Int))), ()), hl1 _ (Option.some.inj hm1).symm, Nat.lt_succ_self _, Keeps.mk (ks := []) rfl ⟨rfl, rfl, rfl, rfl, rfl, rfl, trivial⟩ (rfl) rfl⟩
      ·
       replace hm1 := cond_f hc7 hm1
       refine V.exit ?_
       obtain rfl := hr1 _ (Option.some.inj hm1).symm
       exact ⟨((), ()), rfl, Keeps.mk (ks := []) rfl ⟨rfl, trivial⟩ (rfl) rfl⟩
     ·
      rintro ⟨_, _⟩ rfl
      try dsimp only at hm0
      refine V.seq ?_
      replace hm0 := bindO hm0; rcases hm0 with ⟨y14, hh13, hm0⟩
      refine V.region ?_
      refine VO.cons rfl (V1.move rfl rfl rfl (ltb rfl) ?_)
      refine VO.cons rfl (V1.call rfl rfl rfl cok_30 rfl (ok_spec_DrawRoomLoad hh13) rfl (ltb rfl) ?_)
      rintro _ _ ⟨b4, rfl, rfl⟩
      refine VO.weakenK (Keeps.freezeG 0 rn [(168, .vl rn 5 (List.map (encCarton rn) y14))] [] (f := (encCarton rn)) (l := y14) rfl (fun _ => rfl) ⟨⟨_, rfl, .here⟩, trivial⟩ rfl rfl iNil) ?_
      refine VO.cons rfl (V1.assign rfl rfl rfl (ltb rfl) ?_)
      refine VO.nil ?_
      refine V.seq ?_
      replace hm0 := bindO hm0; rcases hm0 with ⟨y15, hh14, hm0⟩
      refine V.region ?_
      refine VO.cons rfl (V1.move rfl rfl rfl (ltb rfl) ?_)
      refine VO.cons rfl (V1.permK (V1.call rfl rfl rfl cok_31 rfl (ok_impl_RoomLoad hh14) rfl (ltb rfl) ?_))
      rintro _ _ ⟨ob1, hob1, rfl, rfl⟩
      refine ⟨_, ?_, Keeps.optBack (n := 1) (ob := ob1) (xs := List.map (encL rn 1 encInt) y15.1) (H1 := []) (H2 := []) rfl⟩
      refine VO.cons rfl (V1.move rfl rfl rfl (ltb rfl) ?_)
      refine VO.cons rfl (V1.extract rfl rfl rfl rfl (ltb rfl) ?_)
      refine VO.weakenK (Keeps.optFront (n := 1) (ob := ob1) (xs := List.map (encL rn 1 encInt) y15.1) (H1 := []) rfl) ?_
      refine VO.weakenK (Keeps.optVl 172 [] rn (f := (encL rn 1 encInt)) (l := y15.1) (ob := ob1) (H1 := []) hob1 rfl rfl ⟨rfl, trivial⟩ (fun _ => rfl) rfl iNil) ?_
      refine VO.cons rfl (V1.extract rfl rfl rfl rfl (ltb rfl) ?_)
      refine VO.cons rfl (V1.assign rfl rfl rfl (ltb rfl) ?_)
      refine VO.cons rfl (V1.assign rfl rfl rfl (ltb rfl) ?_)
      refine VO.nil ?_
      refine V.keep 271 [0, 26, 27, 28] [] (E0 := [(0, .vl ρ0 1 (List.map encU8 code)), (26, .vl rn 5 (List.map (encCarton rn) y14)), (27, .vl rn 1 (List.map (encL rn 1 encInt) y15.1)), (28, .bool y15.2)]) (H0 := []) rfl (⟨_, _, rfl, rfl, ⟨_, _, rfl, rfl, ⟨_, _, rfl, rfl, ⟨_, _, rfl, rfl, rfl⟩⟩⟩⟩) (rfl) rfl ?_
      refine V.seq ?_
      refine V.seq ?_
      replace hm0 := bindO hm0; rcases hm0 with ⟨y16, hh15, hm0⟩
      refine V.region ?_
      refine VO.cons rfl (V1.move rfl rfl rfl (ltb rfl) ?_)
      refine VO.cons rfl (V1.call rfl rfl rfl cok_32 rfl (ok_spec_RoomLoad hh15) rfl (ltb rfl) ?_)
      rintro _ _ ⟨b5, rfl, rfl⟩
      refine VO.cons rfl (V1.move rfl rfl rfl (ltb rfl) ?_)
      refine VO.cons rfl (V1.extract rfl rfl rfl rfl (ltb rfl) ?_)
      refine VO.weakenK (Keeps.freezeG 0 rn [(177, .vl rn 1 (List.map (encL rn 1 encInt) y16.1))] [] (f := (encL rn 1 encInt)) (l := y16.1) rfl (fun _ => rfl) ⟨⟨_, rfl, .here⟩, trivial⟩ rfl rfl iNil) ?_
      refine VO.cons rfl (V1.extract rfl rfl rfl rfl (ltb rfl) ?_)
      refine VO.cons rfl (V1.assign rfl rfl rfl (ltb rfl) ?_)
      refine VO.cons rfl (V1.assign rfl rfl rfl (ltb rfl) ?_)
      refine VO.nil ?_
      refine V.keep 271 [0, 26, 27, 28, 29, 30] [] (E0 := [(0, .vl ρ0 1 (List.map encU8 code)), (26, .vl rn 5 (List.map (encCarton rn) y14)), (27, .vl rn 1 (List.map (encL rn 1 encInt) y15.1)), (28, .bool y15.2), (29, .vl rn 1 (List.map (encL rn 1 encInt) y16.1)), (30, .bool y16.2)]) (H0 := []) rfl (⟨_, _, rfl, rfl, ⟨_, _, rfl, rfl, ⟨_, _, rfl, rfl, ⟨_, _, rfl, rfl, ⟨_, _, rfl, rfl, ⟨_, _, rfl, rfl, rfl⟩⟩⟩⟩⟩⟩) (rfl) rfl ?_
      refine V.seq ?_
      replace hm0 := bindO hm0; rcases hm0 with ⟨y17, hh16, hm0⟩
      replace hm0 := bindO hm0; rcases hm0 with ⟨y18, hh17, hm0⟩
      refine V.region ?_
      refine VO.cons rfl (V1.move rfl rfl rfl (ltb rfl) ?_)
      refine VO.cons rfl (V1.move rfl rfl rfl (ltb rfl) ?_)
      refine VO.cons rfl (V1.boolNeq rfl rfl und_4 rfl rfl (ltb rfl) ?_)
      refine VO.cons rfl (V1.move rfl rfl rfl (ltb rfl) ?_)
      apply VO.or (n := 4) rfl rfl rfl rfl rfl rfl (ltb rfl) (.none rfl)
      ·
       intro hg7
       refine VO.step (.some rfl rfl rfl) (V1.move rfl rfl rfl (ltb rfl) ?_)
       refine VO.step (.some rfl rfl rfl) (V1.move rfl rfl rfl (ltb rfl) ?_)
       refine VO.step (.some rfl rfl rfl) (V1.call rfl rfl rfl cok_33 rfl (ok_laws_rTable (cond_f hg7 hh16)) rfl (ltb rfl) ?_)
       rintro _ _ ⟨rfl, rfl⟩
       refine VO.step (.some rfl rfl rfl) (V1.not rfl rfl rfl (ltb rfl) ?_)
       exact VO.nil ⟨rfl, rfl, rfl, rfl, .inr ⟨rfl, .inr ⟨rfl, .inr ⟨rfl, .inr ⟨rfl, .inr ⟨rfl, .inl rfl⟩⟩⟩⟩⟩⟩
      refine VO.cons rfl (V1.move rfl rfl rfl (ltb rfl) ?_)
      apply VO.or (n := 4) rfl rfl rfl rfl rfl rfl (ltb rfl) (.none rfl)
      ·
       intro hg8
       refine VO.step (.some rfl rfl rfl) (V1.move rfl rfl rfl (ltb rfl) ?_)
       refine VO.step (.some rfl rfl rfl) (V1.move rfl rfl rfl (ltb rfl) ?_)
       refine VO.step (.some rfl rfl rfl) (V1.call rfl rfl rfl cok_12 rfl (ok_impl_AreCartons (cond_f hg8 hh17)) rfl (ltb rfl) ?_)
       rintro _ _ ⟨rfl, rfl⟩
       refine VO.step (.some rfl rfl rfl) (V1.boolNeq rfl rfl und_4 rfl rfl (ltb rfl) ?_)
       exact VO.nil ⟨rfl, rfl, rfl, rfl, .inr ⟨rfl, .inr ⟨rfl, .inr ⟨rfl, .inr ⟨rfl, .inr ⟨rfl, .inl rfl⟩⟩⟩⟩⟩⟩
      refine VO.nil ?_
      refine V.keep 271 [0, 26, 27, 28, 193] [] (E0 := [(0, .vl ρ0 1 (List.map encU8 code)), (26, .vl rn 5 (List.map (encCarton rn) y14)), (27, .vl rn 1 (List.map (encL rn 1 encInt) y15.1)), (28, .bool y15.2), (193, .bool (((!(y15.2 == y16.2)) || (!y17)) || (!(y15.2 == y18))))]) (H0 := []) rfl (⟨_, _, rfl, rfl, ⟨_, _, rfl, rfl, ⟨_, _, rfl, rfl, ⟨_, _, rfl, rfl, ⟨_, _, rfl, rfl, rfl⟩⟩⟩⟩⟩) (rfl) rfl ?_
      refine V.cond rfl (fun hc9 => ?_) (fun hc9 => ?_)
      ·
       replace hm0 := cond_t hc9 hm0
       refine V.seq ?_
       refine V.region ?_
       refine VO.cons rfl (V1.assign rfl rfl rfl (ltb rfl) ?_)
       refine VO.nil ?_
       refine V.ret ?_
       obtain rfl := Option.some.inj hm0
       exact ⟨_, [], ⟨_, _, rfl, rfl, rfl⟩, List.nil_sublist _, rfl, rfl⟩
      ·
       replace hm0 := cond_f hc9 hm0
       refine V.skip ?_
       refine V.seq ?_
       refine V.region ?_
       refine VO.cons rfl (V1.assign rfl rfl rfl (ltb rfl) ?_)
       refine VO.nil ?_
       refine V.seq ?_
       refine V.seq ?_
       refine V.region ?_
       refine VO.cons rfl (V1.assign rfl rfl rfl (ltb rfl) ?_)
       refine VO.nil ?_
       replace hm0 := bindO hm0; rcases hm0 with ⟨e2, he1, hm0⟩
       refine V.cutT (D := (Int) × (Unit)) (fun ⟨n_, _⟩ => ⟨271, [(31, .int .i64 n_), (0, .vl ρ0 1 (List.map encU8 code)), (26, .vl rn 5 (List.map (encCarton rn) y14)), (28, .bool y15.2)], []⟩) (fun ⟨n_, _⟩ => (n_ = e2)) ?_ ?_
       ·
        refine V.block ?_
        refine V.keep 271 [31, 32, 0, 26, 27, 28] [] (E0 := [(31, .int .i64 (0 : Int)), (32, .int .i64 (0 : Int)), (0, .vl ρ0 1 (List.map encU8 code)), (26, .vl rn 5 (List.map (encCarton rn) y14)), (27, .vl rn 1 (List.map (encL rn 1 encInt) y15.1)), (28, .bool y15.2)]) (H0 := []) rfl (⟨_, _, rfl, rfl, ⟨_, _, rfl, rfl, ⟨_, _, rfl, rfl, ⟨_, _, rfl, rfl, ⟨_, _, rfl, rfl, ⟨_, _, rfl, rfl, rfl⟩⟩⟩⟩⟩⟩) (rfl) rfl ?_
        refine V.loopE (D := Nat × (Int × Int) × (Unit)) (fun ⟨n2, ⟨n_0, i0⟩, _⟩ => [(31, .int .i64 n_0), (32, .int .i64 i0)]) (fun ⟨n2, ⟨n_0, i0⟩, _⟩ => []) (fun ⟨n2, ⟨n_0, i0⟩, _⟩ => loopO (M.laws_FnShelves_l2 y15) n2 (n_0, i0) = some e2) (fun ⟨n2, _, _⟩ => n2) (rounds, ((0 : Int), (0 : Int)), ()) rfl he1 ?_
        rintro ⟨n2, ⟨n_0, i0⟩, _⟩ hP2
        obtain ⟨m2, y19, rfl, hm1, hl1, hr1⟩ := loop_head hP2
        unfold M.laws_FnShelves_l2 at hm1; dsimp only at hm1
        show V _ _ _ ⟨271, [(31, .int .i64 n_0), (32, .int .i64 i0), (0, .vl ρ0 1 (List.map encU8 code)), (26, .vl rn 5 (List.map (encCarton rn) y14)), (27, .vl rn 1 (List.map (encL rn 1 encInt) y15.1)), (28, .bool y15.2)], []⟩
        refine V.seq ?_
        refine V.seq ?_
        refine V.region ?_
        refine VO.cons rfl (V1.move rfl rfl rfl (ltb rfl) ?_)
        refine VO.cons rfl (V1.move rfl rfl rfl (ltb rfl) ?_)
        refine VO.cons rfl (V1.lenMap rfl rfl rfl rfl rfl rfl isl_50 (ltb rfl) ?_)
        refine VO.cons rfl (V1.int rfl rfl rfl rfl rfl (ltb rfl) ?_)
        refine VO.nil ?_
        refine V.cond rfl (fun hc10 => ?_) (fun hc10 => ?_)
        ·
         replace hm1 := cond_t hc10 hm1
         refine V.skip ?_
         refine V.keep 271 [0, 26, 27, 28, 31, 32] [] (E0 := [(0, .vl ρ0 1 (List.map encU8 code)), (26, .vl rn 5 (List.map (encCarton rn) y14)), (27, .vl rn 1 (List.map (encL rn 1 encInt) y15.1)), (28, .bool y15.2), (31, .int .i64 n_0), (32, .int .i64 i0)]) (H0 := []) rfl (⟨_, _, rfl, rfl, ⟨_, _, rfl, rfl, ⟨_, _, rfl, rfl, ⟨_, _, rfl, rfl, ⟨_, _, rfl, rfl, ⟨_, _, rfl, rfl, rfl⟩⟩⟩⟩⟩⟩) (rfl) rfl ?_
         refine V.seq ?_
         refine V.block ?_
         replace hm1 := asrt_some hm1; rcases hm1 with ⟨hh18, hm1⟩
         replace hm1 := asrt_some hm1; rcases hm1 with ⟨hh19, hm1⟩
         refine V.region ?_
         refine VO.cons rfl (V1.move rfl rfl rfl (ltb rfl) ?_)
         refine VO.cons rfl (V1.move rfl rfl rfl (ltb rfl) ?_)
         refine VO.cons rfl (V1.move rfl rfl rfl (ltb rfl) ?_)
         refine VO.cons rfl (V1.indexI rfl rfl esz_50 rfl rfl hh18 (ltb rfl) ?_)
         refine VO.cons rfl (V1.loadPin rfl rfl tyk_38 rfl rfl (ltb rfl) ?_)
         refine VO.cons rfl (V1.indexI rfl rfl esz_38 rfl rfl hh19 (ltb rfl) ?_)
         refine VO.cons rfl (V1.loadPin rfl rfl tyk_3 rfl rfl (ltb rfl) ?_)
         refine VO.cons rfl (V1.int rfl rfl rfl rfl rfl (ltb rfl) ?_)
         refine VO.cons rfl (V1.assign rfl rfl rfl (ltb rfl) ?_)
         refine VO.nil ?_
         refine V.keep 271 [0, 26, 27, 28, 31, 32] [] (E0 := [(0, .vl ρ0 1 (List.map encU8 code)), (26, .vl rn 5 (List.map (encCarton rn) y14)), (27, .vl rn 1 (List.map (encL rn 1 encInt) y15.1)), (28, .bool y15.2), (31, .int .i64 (IntKind.i64.wrap (n_0 + ((y15.1.getD (Int.toNat i0) default).getD (Int.toNat (1 : Int)) default)))), (32, .int .i64 i0)]) (H0 := []) rfl (⟨_, _, rfl, rfl, ⟨_, _, rfl, rfl, ⟨_, _, rfl, rfl, ⟨_, _, rfl, rfl, ⟨_, _, rfl, rfl, ⟨_, _, rfl, rfl, rfl⟩⟩⟩⟩⟩⟩) (rfl) rfl ?_
         refine V.region ?_
         refine VO.cons rfl (V1.move rfl rfl rfl (ltb rfl) ?_)
         refine VO.cons rfl (V1.int rfl rfl rfl rfl rfl (ltb rfl) ?_)
         refine VO.cons rfl (V1.assign rfl rfl rfl (ltb rfl) ?_)
         refine VO.nil ?_
         exact ⟨(m2, ((IntKind.i64.wrap (n_0 + ((y15.1.getD (Int.toNat i0) default).getD (Int.toNat (1 : Int)) default))), (IntKind.i64.wrap (i0 + (1 : Int)))), ()), hl1 _ (Option.some.inj hm1).symm, Nat.lt_succ_self _, Keeps.mk (ks := []) rfl ⟨rfl, rfl, rfl, rfl, rfl, rfl, trivial⟩ (rfl) rfl⟩
        ·
         replace hm1 := cond_f hc10 hm1
         refine V.exit ?_
         obtain rfl := hr1 _ (Option.some.inj hm1).symm
         exact ⟨(n_0, ()), rfl, Keeps.mk (ks := []) rfl ⟨rfl, rfl, rfl, rfl, trivial⟩ (rfl) rfl⟩
       ·
        rintro ⟨n_, _⟩ rfl
        try dsimp only at hm0
        refine V.seq ?_
        refine V.seq ?_
        refine V.region ?_
        refine VO.cons rfl (V1.move rfl rfl rfl (ltb rfl) ?_)
        refine VO.cons rfl (V1.move rfl rfl rfl (ltb rfl) ?_)
        apply VO.and (n := 4) rfl rfl rfl rfl rfl rfl (ltb rfl) (.none rfl)
        ·
         intro hg9
         refine VO.step (.some rfl rfl rfl) (V1.move rfl rfl rfl (ltb rfl) ?_)
         refine VO.step (.some rfl rfl rfl) (V1.move rfl rfl rfl (ltb rfl) ?_)
         refine VO.step (.some rfl rfl rfl) (V1.lenMap rfl rfl rfl rfl rfl rfl isl_24 (ltb rfl) ?_)
         refine VO.step (.some rfl rfl rfl) (V1.int rfl rfl rfl rfl rfl (ltb rfl) ?_)
         exact VO.nil ⟨rfl, rfl, rfl, rfl, .inr ⟨rfl, .inr ⟨rfl, .inr ⟨rfl, .inr ⟨rfl, .inr ⟨rfl, .inl rfl⟩⟩⟩⟩⟩⟩
        refine VO.nil ?_
        refine V.keep 271 [0, 26, 214] [] (E0 := [(0, .vl ρ0 1 (List.map encU8 code)), (26, .vl rn 5 (List.map (encCarton rn) y14)), (214, .bool (y15.2 && (n_ != (y14.length : Int))))]) (H0 := []) rfl (⟨_, _, rfl, rfl, ⟨_, _, rfl, rfl, ⟨_, _, rfl, rfl, rfl⟩⟩⟩) (rfl) rfl ?_
        refine V.cond rfl (fun hc11 => ?_) (fun hc11 => ?_)
        ·
         replace hm0 := cond_t hc11 hm0
         refine V.seq ?_
         refine V.region ?_
         refine VO.cons rfl (V1.assign rfl rfl rfl (ltb rfl) ?_)
         refine VO.nil ?_
         refine V.ret ?_
         obtain rfl := Option.some.inj hm0
         exact ⟨_, [], ⟨_, _, rfl, rfl, rfl⟩, List.nil_sublist _, rfl, rfl⟩
        ·
         replace hm0 := cond_f hc11 hm0
         refine V.skip ?_
         refine V.seq ?_
         replace hm0 := bindO hm0; rcases hm0 with ⟨y20, hh20, hm0⟩
         refine V.region ?_
         refine VO.cons rfl (V1.move rfl rfl rfl (ltb rfl) ?_)
         refine VO.cons rfl (V1.permK (V1.call rfl rfl rfl cok_34 rfl (ok_impl_EmptyCartons hh20) rfl (ltb rfl) ?_))
         rintro _ _ ⟨ob2, hob2, rfl, rfl⟩
         refine ⟨_, ?_, Keeps.optBack (n := 1) (ob := ob2) (xs := List.map encInt y20.1) (H1 := []) (H2 := []) rfl⟩
         refine VO.cons rfl (V1.move rfl rfl rfl (ltb rfl) ?_)
         refine VO.cons rfl (V1.extract rfl rfl rfl rfl (ltb rfl) ?_)
         refine VO.weakenK (Keeps.optFront (n := 1) (ob := ob2) (xs := List.map encInt y20.1) (H1 := []) rfl) ?_
         refine VO.weakenK (Keeps.optVl 218 [] rn (f := encInt) (l := y20.1) (ob := ob2) (H1 := []) hob2 rfl rfl ⟨rfl, trivial⟩ (fun _ => rfl) rfl iNil) ?_
         refine VO.cons rfl (V1.extract rfl rfl rfl rfl (ltb rfl) ?_)
         refine VO.cons rfl (V1.assign rfl rfl rfl (ltb rfl) ?_)
         refine VO.cons rfl (V1.assign rfl rfl rfl (ltb rfl) ?_)
         refine VO.nil ?_
         refine V.keep 271 [0, 26, 33, 34] [] (E0 := [(0, .vl ρ0 1 (List.map encU8 code)), (26, .vl rn 5 (List.map (encCarton rn) y14)), (33, .vl rn 1 (List.map encInt y20.1)), (34, .bool y20.2)]) (H0 := []) rfl (⟨_, _, rfl, rfl, ⟨_, _, rfl, rfl, ⟨_, _, rfl, rfl, ⟨_, _, rfl, rfl, rfl⟩⟩⟩⟩) (rfl) rfl ?_
         refine V.seq ?_
         refine V.seq ?_
         replace hm0 := bindO hm0; rcases hm0 with ⟨y21, hh21, hm0⟩
         refine V.region ?_
         refine VO.cons rfl (V1.move rfl rfl rfl (ltb rfl) ?_)
         refine VO.cons rfl (V1.call rfl rfl rfl cok_35 rfl (ok_spec_EmptyCartons hh21) rfl (ltb rfl) ?_)
         rintro _ _ ⟨b6, rfl, rfl⟩
         refine VO.cons rfl (V1.move rfl rfl rfl (ltb rfl) ?_)
         refine VO.cons rfl (V1.extract rfl rfl rfl rfl (ltb rfl) ?_)
         refine VO.weakenK (Keeps.freezeG 0 rn [(223, .vl rn 1 (List.map encInt y21.1))] [] (f := encInt) (l := y21.1) rfl (fun _ => rfl) ⟨⟨_, rfl, .here⟩, trivial⟩ rfl rfl iNil) ?_
         refine VO.cons rfl (V1.extract rfl rfl rfl rfl (ltb rfl) ?_)
         refine VO.cons rfl (V1.assign rfl rfl rfl (ltb rfl) ?_)
         refine VO.cons rfl (V1.assign rfl rfl rfl (ltb rfl) ?_)
         refine VO.nil ?_
         refine V.keep 271 [0, 33, 34, 35, 36] [] (E0 := [(0, .vl ρ0 1 (List.map encU8 code)), (33, .vl rn 1 (List.map encInt y20.1)), (34, .bool y20.2), (35, .vl rn 1 (List.map encInt y21.1)), (36, .bool y21.2)]) (H0 := []) rfl (⟨_, _, rfl, rfl, ⟨_, _, rfl, rfl, ⟨_, _, rfl, rfl, ⟨_, _, rfl, rfl, ⟨_, _, rfl, rfl, rfl⟩⟩⟩⟩⟩) (rfl) rfl ?_
         refine V.seq ?_
         replace hm0 := bindO hm0; rcases hm0 with ⟨y22, hh22, hm0⟩
         refine V.region ?_
         refine VO.cons rfl (V1.move rfl rfl rfl (ltb rfl) ?_)
         refine VO.cons rfl (V1.move rfl rfl rfl (ltb rfl) ?_)
         refine VO.cons rfl (V1.boolNeq rfl rfl und_4 rfl rfl (ltb rfl) ?_)
         refine VO.cons rfl (V1.move rfl rfl rfl (ltb rfl) ?_)
         apply VO.or (n := 4) rfl rfl rfl rfl rfl rfl (ltb rfl) (.none rfl)
         ·
          intro hg10
          refine VO.step (.some rfl rfl rfl) (V1.move rfl rfl rfl (ltb rfl) ?_)
          refine VO.step (.some rfl rfl rfl) (V1.move rfl rfl rfl (ltb rfl) ?_)
          refine VO.step (.some rfl rfl rfl) (V1.call rfl rfl rfl cok_28 rfl (ok_laws_rInts (cond_f hg10 hh22)) rfl (ltb rfl) ?_)
          rintro _ _ ⟨rfl, rfl⟩
          refine VO.step (.some rfl rfl rfl) (V1.not rfl rfl rfl (ltb rfl) ?_)
          exact VO.nil ⟨rfl, rfl, rfl, rfl, .inr ⟨rfl, .inr ⟨rfl, .inr ⟨rfl, .inr ⟨rfl, .inr ⟨rfl, .inl rfl⟩⟩⟩⟩⟩⟩
         refine VO.nil ?_
         refine V.keep 271 [0, 233] [] (E0 := [(0, .vl ρ0 1 (List.map encU8 code)), (233, .bool ((!(y20.2 == y21.2)) || (!y22)))]) (H0 := []) rfl (⟨_, _, rfl, rfl, ⟨_, _, rfl, rfl, rfl⟩⟩) (rfl) rfl ?_
         refine V.cond rfl (fun hc12 => ?_) (fun hc12 => ?_)
         ·
          replace hm0 := cond_t hc12 hm0
          refine V.seq ?_
          refine V.region ?_
          refine VO.cons rfl (V1.assign rfl rfl rfl (ltb rfl) ?_)
          refine VO.nil ?_
          refine V.ret ?_
          obtain rfl := Option.some.inj hm0
          exact ⟨_, [], ⟨_, _, rfl, rfl, rfl⟩, List.nil_sublist _, rfl, rfl⟩
         ·
          replace hm0 := cond_f hc12 hm0
          refine V.skip ?_
          refine V.seq ?_
          replace hm0 := bindO hm0; rcases hm0 with ⟨y23, hh23, hm0⟩
          refine V.region ?_
          refine VO.cons rfl (V1.move rfl rfl rfl (ltb rfl) ?_)
          refine VO.cons rfl (V1.call rfl rfl rfl cok_36 rfl (ok_spec_DrawFreeOn hh23) rfl (ltb rfl) ?_)
          rintro _ _ ⟨b7, rfl, rfl⟩
          refine VO.cons rfl (V1.move rfl rfl rfl (ltb rfl) ?_)
          refine VO.cons rfl (V1.extract rfl rfl rfl rfl (ltb rfl) ?_)
          refine VO.weakenK (Keeps.freezeG 0 rn [(237, .vl rn 5 (List.map (encCarton rn) y23.1))] [] (f := (encCarton rn)) (l := y23.1) rfl (fun _ => rfl) ⟨⟨_, rfl, .here⟩, trivial⟩ rfl rfl iNil) ?_
          refine VO.cons rfl (V1.extract rfl rfl rfl rfl (ltb rfl) ?_)
          refine VO.cons rfl (V1.extract rfl rfl rfl rfl (ltb rfl) ?_)
          refine VO.cons rfl (V1.assign rfl rfl rfl (ltb rfl) ?_)
          refine VO.cons rfl (V1.assign rfl rfl rfl (ltb rfl) ?_)
          refine VO.cons rfl (V1.assign rfl rfl rfl (ltb rfl) ?_)
          refine VO.nil ?_
          refine V.keep 271 [0, 37, 38, 39] [] (E0 := [(0, .vl ρ0 1 (List.map encU8 code)), (37, .vl rn 5 (List.map (encCarton rn) y23.1)), (38, .int .i64 y23.2.1), (39, .int .i64 y23.2.2)]) (H0 := []) rfl (⟨_, _, rfl, rfl, ⟨_, _, rfl, rfl, ⟨_, _, rfl, rfl, ⟨_, _, rfl, rfl, rfl⟩⟩⟩⟩) (rfl) rfl ?_
          refine V.seq ?_
          replace hm0 := bindO hm0; rcases hm0 with ⟨y24, hh24, hm0⟩
          refine V.region ?_
          refine VO.cons rfl (V1.move rfl rfl rfl (ltb rfl) ?_)
          refine VO.cons rfl (V1.move rfl rfl rfl (ltb rfl) ?_)
          refine VO.cons rfl (V1.move rfl rfl rfl (ltb rfl) ?_)
          refine VO.cons rfl (V1.call rfl rfl rfl cok_16 rfl (ok_impl_FreeOn hh24) rfl (ltb rfl) ?_)
          rintro _ _ ⟨rfl, rfl⟩
          refine VO.cons rfl (V1.move rfl rfl rfl (ltb rfl) ?_)
          refine VO.cons rfl (V1.extract rfl rfl rfl rfl (ltb rfl) ?_)
          refine VO.cons rfl (V1.extract rfl rfl rfl rfl (ltb rfl) ?_)
          refine VO.cons rfl (V1.assign rfl rfl rfl (ltb rfl) ?_)
          refine VO.cons rfl (V1.assign rfl rfl rfl (ltb rfl) ?_)
          refine VO.nil ?_
          refine V.keep 271 [0, 37, 38, 39, 40, 41] [] (E0 := [(0, .vl ρ0 1 (List.map encU8 code)), (37, .vl rn 5 (List.map (encCarton rn) y23.1)), (38, .int .i64 y23.2.1), (39, .int .i64 y23.2.2), (40, .int .i64 y24.1), (41, .bool y24.2)]) (H0 := []) rfl (⟨_, _, rfl, rfl, ⟨_, _, rfl, rfl, ⟨_, _, rfl, rfl, ⟨_, _, rfl, rfl, ⟨_, _, rfl, rfl, ⟨_, _, rfl, rfl, rfl⟩⟩⟩⟩⟩⟩) (rfl) rfl ?_
          refine V.seq ?_
          replace hm0 := bindO hm0; rcases hm0 with ⟨y25, hh25, hm0⟩
          refine V.region ?_
          refine VO.cons rfl (V1.move rfl rfl rfl (ltb rfl) ?_)
          refine VO.cons rfl (V1.move rfl rfl rfl (ltb rfl) ?_)
          refine VO.cons rfl (V1.move rfl rfl rfl (ltb rfl) ?_)
          refine VO.cons rfl (V1.call rfl rfl rfl cok_37 rfl (ok_spec_FreeOn hh25) rfl (ltb rfl) ?_)
          rintro _ _ ⟨rfl, rfl⟩
          refine VO.cons rfl (V1.move rfl rfl rfl (ltb rfl) ?_)
          refine VO.cons rfl (V1.extract rfl rfl rfl rfl (ltb rfl) ?_)
          refine VO.cons rfl (V1.extract rfl rfl rfl rfl (ltb rfl) ?_)
          refine VO.cons rfl (V1.assign rfl rfl rfl (ltb rfl) ?_)
          refine VO.cons rfl (V1.assign rfl rfl rfl (ltb rfl) ?_)
          refine VO.nil ?_
          refine V.keep 271 [0, 40, 41, 42, 43] [] (E0 := [(0, .vl ρ0 1 (List.map encU8 code)), (40, .int .i64 y24.1), (41, .bool y24.2), (42, .int .i64 y25.1), (43, .bool y25.2)]) (H0 := []) rfl (⟨_, _, rfl, rfl, ⟨_, _, rfl, rfl, ⟨_, _, rfl, rfl, ⟨_, _, rfl, rfl, ⟨_, _, rfl, rfl, rfl⟩⟩⟩⟩⟩) (rfl) rfl ?_
          refine V.seq ?_
          replace hm0 := bindO hm0; rcases hm0 with ⟨y26, hh26, hm0⟩
          refine V.region ?_
          refine VO.cons rfl (V1.move rfl rfl rfl (ltb rfl) ?_)
          refine VO.cons rfl (V1.call rfl rfl rfl cok_38 rfl (ok_spec_DrawIsCarton hh26) rfl (ltb rfl) ?_)
          rintro _ _ ⟨rfl, rfl⟩
          refine VO.cons rfl (V1.alloc rfl rfl zk_40 (ltb rfl) ?_)
          intro b8
          refine VO.cons rfl (V1.storeRefAll (k := 0) rfl rfl tyk_40 rfl rfl rfl rfl rfl rfl ?_)
          refine VO.nil ?_
          refine V.seq ?_
          replace hm0 := bindO hm0; rcases hm0 with ⟨y27, hh27, hm0⟩
          replace hm0 := bindO hm0; rcases hm0 with ⟨y28, hh28, hm0⟩
          refine V.regionM 271 15 [⟨[(40, none)], [], none⟩, ⟨[(42, none)], [], none⟩, ⟨[(256, some 1), (257, some 0)], [], none⟩, ⟨[(258, some 0)], [], none⟩, ⟨[(41, none)], [(0, true)], none⟩, ⟨[(43, none)], [(1, true)], none⟩, ⟨[(260, some 1), (261, some 0)], [(2, true)], none⟩, ⟨[], [], some (true, 259, 262, 3, 0)⟩, ⟨[(263, some 0)], [], none⟩, ⟨[(44, none)], [(0, true)], none⟩, ⟨[(265, some 0)], [(1, true)], none⟩, ⟨[(44, none)], [(2, true)], none⟩, ⟨[(267, some 0)], [(3, true)], none⟩, ⟨[(266, some 2), (268, some 0)], [(4, true)], none⟩, ⟨[], [], some (true, 264, 269, 5, 0)⟩] [(270, some 0)] (⟨_, rfl, ⟨_, rfl, ⟨_, rfl, ⟨_, rfl, ⟨_, rfl, ⟨_, rfl, ⟨_, rfl, ⟨_, rfl, ⟨_, rfl, ⟨_, rfl, ⟨_, rfl, ⟨_, rfl, ⟨_, rfl, ⟨_, rfl, ⟨_, rfl, ⟨rfl, rfl⟩⟩⟩⟩⟩⟩⟩⟩⟩⟩⟩⟩⟩⟩⟩⟩) mixed_orders rfl (by decide +kernel) (fun hck49 => ?_)
          refine VP.step (p := ?pv27) rfl rfl rfl (⟨_, _, rfl, rfl, rfl⟩) ?hv27 ?rest27 hck49
          case hv27 =>
           intro E1
           refine (V1.move rfl rfl rfl (ltb rfl) ?_)
           exact rfl
          refine VP.step (p := ?pv28) rfl rfl rfl (⟨_, _, rfl, rfl, rfl⟩) ?hv28 ?rest28 hck49
          case hv28 =>
           intro E1
           refine (V1.move rfl rfl rfl (ltb rfl) ?_)
           exact rfl
          refine VP.step (p := ?pv29) rfl rfl rfl (⟨_, _, rfl, rfl, ⟨_, _, rfl, rfl, rfl⟩⟩) ?hv29 ?rest29 hck49
          case hv29 =>
           intro E1
           refine (V1.int rfl rfl rfl rfl rfl (ltb rfl) ?_)
           exact rfl
          refine VP.step (p := ?pv30) rfl rfl rfl (⟨_, _, rfl, rfl, rfl⟩) ?hv30 ?rest30 hck49
          case hv30 =>
           intro E1
           refine (V1.move rfl rfl rfl (ltb rfl) ?_)
           exact rfl
          refine VP.step (p := ?pv31) rfl rfl rfl (⟨_, _, rfl, rfl, rfl⟩) ?hv31 ?rest31 hck49
          case hv31 =>
           refine ⟨_, rfl, fun hg11 => ?_⟩
           intro E1
           refine (V1.move rfl rfl rfl (ltb rfl) ?_)
           exact rfl
          refine VP.step (p := ?pv32) rfl rfl rfl (⟨_, _, rfl, rfl, rfl⟩) ?hv32 ?rest32 hck49
          case hv32 =>
           refine ⟨_, rfl, fun hg11 => ?_⟩
           intro E1
           refine (V1.move rfl rfl rfl (ltb rfl) ?_)
           exact rfl
          refine VP.step (p := ?pv33) rfl rfl rfl (⟨_, _, rfl, rfl, ⟨_, _, rfl, rfl, rfl⟩⟩) ?hv33 ?rest33 hck49
          case hv33 =>
           refine ⟨_, rfl, fun hg11 => ?_⟩
           intro E1
           refine (V1.boolEql rfl rfl und_4 rfl rfl (ltb rfl) ?_)
           exact rfl
          refine VP.pickAnd rfl rfl rfl rfl rfl rfl (trivial) ?_ hck49
          refine VP.step (p := ?pv34) rfl rfl rfl (⟨_, _, rfl, rfl, rfl⟩) ?hv34 ?rest34 hck49
          case hv34 =>
           intro E1
           refine (V1.move rfl rfl rfl (ltb rfl) ?_)
           exact rfl
          refine VP.step (p := ?pv35) rfl rfl rfl (⟨_, _, rfl, rfl, rfl⟩) ?hv35 ?rest35 hck49
          case hv35 =>
           refine ⟨_, rfl, fun hg12 => ?_⟩
           intro E1
           refine (V1.loadRefAll (k := 0) rfl rfl tyk_40 rfl rfl rfl rfl rfl (ltb rfl) ?_)
           exact rfl
          refine VP.step (p := ?pv36) rfl rfl rfl (⟨_, _, rfl, rfl, rfl⟩) ?hv36 ?rest36 hck49
          case hv36 =>
           refine ⟨_, rfl, fun hg12 => ?_⟩
           intro E1
           refine (V1.call rfl rfl rfl cok_39 rfl (ok_impl_IsCarton (cond_t hg12 hh27)) rfl (ltb rfl) ?_)
           rintro _ _ ⟨rfl, rfl⟩
           exact rfl
          refine VP.step (p := ?pv37) rfl rfl rfl (⟨_, _, rfl, rfl, rfl⟩) ?hv37 ?rest37 hck49
          case hv37 =>
           refine ⟨_, rfl, fun hg12 => ?_⟩
           intro E1
           refine (V1.loadRefAll (k := 0) rfl rfl tyk_40 rfl rfl rfl rfl rfl (ltb rfl) ?_)
           exact rfl
          refine VP.step (p := ?pv38) rfl rfl rfl (⟨_, _, rfl, rfl, rfl⟩) ?hv38 ?rest38 hck49
          case hv38 =>
           refine ⟨_, rfl, fun hg12 => ?_⟩
           intro E1
           refine (V1.call rfl rfl rfl cok_40 rfl (ok_spec_IsCarton (cond_t hg12 hh28)) rfl (ltb rfl) ?_)
           rintro _ _ ⟨rfl, rfl⟩
           exact rfl
          refine VP.step (p := ?pv39) rfl rfl rfl (⟨_, _, rfl, rfl, ⟨_, _, rfl, rfl, rfl⟩⟩) ?hv39 ?rest39 hck49
          case hv39 =>
           refine ⟨_, rfl, fun hg12 => ?_⟩
           intro E1
           refine (V1.boolEql rfl rfl und_4 rfl rfl (ltb rfl) ?_)
           exact rfl
          refine VP.pickAnd rfl rfl rfl rfl rfl rfl (trivial) ?_ hck49
          refine VP.fin rfl (⟨_, _, rfl, rfl, rfl⟩) ?_
          refine VO.cons rfl (V1.assign rfl rfl rfl (ltb rfl) ?_)
          refine VO.nil ?_
          refine V.ret ?_
          obtain rfl := Option.some.inj hm0
          exact ⟨_, [], ⟨_, _, rfl, rfl, rfl⟩, List.nil_sublist _, rfl, rfl⟩
end Go.Proofs.Ythfndefhmmfjaaa
