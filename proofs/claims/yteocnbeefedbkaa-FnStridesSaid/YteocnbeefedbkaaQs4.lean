/- the functions do what their models say -/
import Derived.Test.YteocnbeefedbkaaQs3
set_option linter.unusedSimpArgs false
set_option linter.unusedVariables false
set_option maxRecDepth 100000
set_option maxHeartbeats 4000000
namespace Go.Proofs.Yteocnbeefedbkaa
open Go.VS

theorem ok_laws_FnStrides {ρ0 rn : Nat} {code : List Int} {r : Bool} (h : M.laws_FnStrides code = some r) : Does Try.prog 3 [.vl ρ0 1 (List.map encU8 code)] [] rn (fun x H => x = .bool r ∧ H = []) := by
 have hm0 := h; clear h; unfold M.laws_FnStrides at hm0
 try dsimp only at hm0
 refine Does.intro (N := 285) Try.func3 rfl rfl rfl rfl ?_
 intro w0 S0 L0
 refine V.seq ?_
 refine V.region ?_
 refine VO.cons rfl (V1.assign rfl rfl rfl lt0 ?_)
 refine VO.nil ?_
 refine V.seq ?_
 refine V.seq ?_
 replace hm0 := bindO hm0; rcases hm0 with ⟨y0, hh0, hm0⟩
 refine V.region ?_
 refine VO.cons rfl (V1.move rfl rfl rfl lt0 ?_)
 refine VO.cons rfl (V1.call rfl rfl rfl cok_4 rfl (ok_laws_vBig hh0) rfl lt0 ?_)
 rintro _ _ ⟨rfl, rfl⟩
 refine VO.nil ?_
 refine V.cond rfl (fun hc0 => ?_) (fun hc0 => ?_)
 ·
  replace hm0 := cond_t hc0 hm0
  refine V.seq ?_
  refine V.region ?_
  refine VO.cons rfl (V1.assign rfl rfl rfl lt0 ?_)
  refine VO.nil ?_
  refine V.ret ?_
  obtain rfl := Option.some.inj hm0
  exact ⟨_, [], ⟨_, _, rfl, rfl, rfl⟩, List.nil_sublist _, rfl, rfl⟩
 ·
  replace hm0 := cond_f hc0 hm0
  refine V.skip ?_
  refine V.seq ?_
  replace hm0 := bindO hm0; rcases hm0 with ⟨y1, hh1, hm0⟩
  refine V.region ?_
  refine VO.cons rfl (V1.move rfl rfl rfl lt0 ?_)
  refine VO.cons rfl (V1.call rfl rfl rfl cok_5 rfl (ok_spec_DrawEveryNth hh1) rfl lt0 ?_)
  rintro _ _ ⟨b0, rfl, rfl⟩
  refine VO.cons rfl (V1.move rfl rfl rfl lt0 ?_)
  refine VO.cons rfl (V1.extract rfl rfl rfl rfl lt0 ?_)
  refine VO.weakenK (Keeps.freezeG 0 rn [(48, .vl rn 1 (List.map encInt y1.1))] ([]) (f := encInt) (l := y1.1) rfl (fun _ => rfl) ⟨⟨_, rfl, .here⟩, trivial⟩ rfl rfl iNil) ?_
  refine VO.cons rfl (V1.extract rfl rfl rfl rfl lt0 ?_)
  refine VO.cons rfl (V1.extract rfl rfl rfl rfl lt0 ?_)
  refine VO.cons rfl (V1.assign rfl rfl rfl lt0 ?_)
  refine VO.cons rfl (V1.assign rfl rfl rfl lt0 ?_)
  refine VO.cons rfl (V1.assign rfl rfl rfl lt0 ?_)
  refine VO.nil ?_
  refine V.keep 285 [0, 3, 4, 5] [] (E0 := [(0, .vl ρ0 1 (List.map encU8 code)), (3, .vl rn 1 (List.map encInt y1.1)), (4, .int .i64 y1.2.1), (5, .int .i64 y1.2.2)]) (H0 := []) rfl (⟨_, _, rfl, rfl, _, _, rfl, rfl, _, _, rfl, rfl, _, _, rfl, rfl, rfl⟩) (rfl) rfl ?_
  refine V.seq ?_
  replace hm0 := bindO hm0; rcases hm0 with ⟨y2, hh2, hm0⟩
  refine V.region ?_
  refine VO.cons rfl (V1.move rfl rfl rfl lt0 ?_)
  refine VO.cons rfl (V1.move rfl rfl rfl lt0 ?_)
  refine VO.cons rfl (V1.move rfl rfl rfl lt0 ?_)
  refine VO.cons rfl (V1.permK (V1.call rfl rfl rfl cok_6 rfl (ok_impl_EveryNth hh2) rfl lt0 ?_))
  rintro _ _ ⟨ob0, hob0, rfl, rfl⟩
  refine ⟨_, ?_, Keeps.optBack (n := 1) (ob := ob0) (xs := List.map encInt y2.1) (H1 := []) (H2 := []) rfl⟩
  refine VO.cons rfl (V1.move rfl rfl rfl lt0 ?_)
  refine VO.cons rfl (V1.extract rfl rfl rfl rfl lt0 ?_)
  refine VO.weakenK (Keeps.optFront (n := 1) (ob := ob0) (xs := (List.map encInt y2.1)) (H1 := []) rfl) ?_
  refine VO.weakenK (Keeps.optVl 56 [] rn (f := encInt) (l := y2.1) (ob := ob0) (H1 := []) hob0 rfl rfl ⟨rfl, trivial⟩ (fun _ => rfl) rfl iNil) ?_
  refine VO.cons rfl (V1.extract rfl rfl rfl rfl lt0 ?_)
  refine VO.cons rfl (V1.assign rfl rfl rfl lt0 ?_)
  refine VO.cons rfl (V1.assign rfl rfl rfl lt0 ?_)
  refine VO.nil ?_
  refine V.keep 285 [0, 3, 4, 5, 6, 7] [] (E0 := [(0, .vl ρ0 1 (List.map encU8 code)), (3, .vl rn 1 (List.map encInt y1.1)), (4, .int .i64 y1.2.1), (5, .int .i64 y1.2.2), (6, .vl rn 1 (List.map encInt y2.1)), (7, .bool y2.2)]) (H0 := []) rfl (⟨_, _, rfl, rfl, _, _, rfl, rfl, _, _, rfl, rfl, _, _, rfl, rfl, _, _, rfl, rfl, _, _, rfl, rfl, rfl⟩) (rfl) rfl ?_
  refine V.seq ?_
  refine V.seq ?_
  replace hm0 := bindO hm0; rcases hm0 with ⟨y3, hh3, hm0⟩
  refine V.region ?_
  refine VO.cons rfl (V1.move rfl rfl rfl lt0 ?_)
  refine VO.cons rfl (V1.move rfl rfl rfl lt0 ?_)
  refine VO.cons rfl (V1.move rfl rfl rfl lt0 ?_)
  refine VO.cons rfl (V1.call rfl rfl rfl cok_7 rfl (ok_spec_EveryNth hh3) rfl lt0 ?_)
  rintro _ _ ⟨b1, rfl, rfl⟩
  refine VO.cons rfl (V1.move rfl rfl rfl lt0 ?_)
  refine VO.cons rfl (V1.extract rfl rfl rfl rfl lt0 ?_)
  refine VO.weakenK (Keeps.freezeG 0 rn [(63, .vl rn 1 (List.map encInt y3.1))] ([]) (f := encInt) (l := y3.1) rfl (fun _ => rfl) ⟨⟨_, rfl, .here⟩, trivial⟩ rfl rfl iNil) ?_
  refine VO.cons rfl (V1.extract rfl rfl rfl rfl lt0 ?_)
  refine VO.cons rfl (V1.assign rfl rfl rfl lt0 ?_)
  refine VO.cons rfl (V1.assign rfl rfl rfl lt0 ?_)
  refine VO.nil ?_
  refine V.keep 285 [0, 3, 4, 6, 7, 8, 9] [] (E0 := [(0, .vl ρ0 1 (List.map encU8 code)), (3, .vl rn 1 (List.map encInt y1.1)), (4, .int .i64 y1.2.1), (6, .vl rn 1 (List.map encInt y2.1)), (7, .bool y2.2), (8, .vl rn 1 (List.map encInt y3.1)), (9, .bool y3.2)]) (H0 := []) rfl (⟨_, _, rfl, rfl, _, _, rfl, rfl, _, _, rfl, rfl, _, _, rfl, rfl, _, _, rfl, rfl, _, _, rfl, rfl, _, _, rfl, rfl, rfl⟩) (rfl) rfl ?_
  refine V.seq ?_
  replace hm0 := bindO hm0; rcases hm0 with ⟨y4, hh4, hm0⟩
  refine V.region ?_
  refine VO.cons rfl (V1.move rfl rfl rfl lt0 ?_)
  refine VO.cons rfl (V1.move rfl rfl rfl lt0 ?_)
  refine VO.cons rfl (V1.boolNeq rfl rfl und_4 rfl rfl lt0 ?_)
  refine VO.cons rfl (V1.move rfl rfl rfl lt0 ?_)
  apply VO.or (n := 4) rfl rfl rfl rfl rfl rfl lt0 (.none rfl)
  ·
   intro hg0
   refine VO.step (.some rfl rfl rfl) (V1.move rfl rfl rfl lt0 ?_)
   refine VO.step (.some rfl rfl rfl) (V1.move rfl rfl rfl lt0 ?_)
   refine VO.step (.some rfl rfl rfl) (V1.call rfl rfl rfl cok_8 rfl (ok_laws_vInts (cond_f hg0 hh4)) rfl lt0 ?_)
   rintro _ _ ⟨rfl, rfl⟩
   refine VO.step (.some rfl rfl rfl) (V1.not rfl rfl rfl lt0 ?_)
   exact VO.nil ⟨rfl, rfl, rfl, rfl, .inr ⟨rfl, .inr ⟨rfl, .inr ⟨rfl, .inr ⟨rfl, .inr ⟨rfl, .inl rfl⟩⟩⟩⟩⟩⟩
  refine VO.nil ?_
  refine V.keep 285 [0, 3, 4, 7, 73] [] (E0 := [(0, .vl ρ0 1 (List.map encU8 code)), (3, .vl rn 1 (List.map encInt y1.1)), (4, .int .i64 y1.2.1), (7, .bool y2.2), (73, .bool ((!(y2.2 == y3.2)) || (!y4)))]) (H0 := []) rfl (⟨_, _, rfl, rfl, _, _, rfl, rfl, _, _, rfl, rfl, _, _, rfl, rfl, _, _, rfl, rfl, rfl⟩) (rfl) rfl ?_
  refine V.cond rfl (fun hc1 => ?_) (fun hc1 => ?_)
  ·
   replace hm0 := cond_t hc1 hm0
   refine V.seq ?_
   refine V.region ?_
   refine VO.cons rfl (V1.assign rfl rfl rfl lt0 ?_)
   refine VO.nil ?_
   refine V.ret ?_
   obtain rfl := Option.some.inj hm0
   exact ⟨_, [], ⟨_, _, rfl, rfl, rfl⟩, List.nil_sublist _, rfl, rfl⟩
  ·
   replace hm0 := cond_f hc1 hm0
   refine V.skip ?_
   refine V.seq ?_
   replace hm0 := bindO hm0; rcases hm0 with ⟨j0, hm1, hm0⟩
   refine V.cutT (D := (Unit) × (Unit)) (fun ⟨_, _⟩ => ⟨285, [(0, .vl ρ0 1 (List.map encU8 code))], []⟩) (fun ⟨_, _⟩ => (.inl () = j0)) ?_ ?_
   ·
    refine V.seq ?_
    refine V.region ?_
    refine VO.cons rfl (V1.move rfl rfl rfl lt0 ?_)
    refine VO.nil ?_
    refine V.cond rfl (fun hc2 => ?_) (fun hc2 => ?_)
    ·
     replace hm1 := cond_t hc2 hm1
     refine V.seq ?_
     refine V.region ?_
     refine VO.cons rfl (V1.assign rfl rfl rfl lt0 ?_)
     refine VO.nil ?_
     refine V.seq ?_
     refine V.seq ?_
     refine V.region ?_
     refine VO.cons rfl (V1.assign rfl rfl rfl lt0 ?_)
     refine VO.nil ?_
     replace hm1 := bindO hm1; rcases hm1 with ⟨e0, he2, hm1⟩
     refine V.cutT (D := (Int) × (Unit)) (fun ⟨n_, _⟩ => ⟨285, [(10, .int .i64 n_), (0, .vl ρ0 1 (List.map encU8 code)), (3, .vl rn 1 (List.map encInt y1.1))], []⟩) (fun ⟨n_, _⟩ => (.inl n_ = e0)) ?_ ?_
     ·
      refine V.block ?_
      refine V.keep 285 [10, 11, 0, 3, 4] [] (E0 := [(10, .int .i64 (0 : Int)), (11, .int .i64 (0 : Int)), (0, .vl ρ0 1 (List.map encU8 code)), (3, .vl rn 1 (List.map encInt y1.1)), (4, .int .i64 y1.2.1)]) (H0 := []) rfl (⟨_, _, rfl, rfl, _, _, rfl, rfl, _, _, rfl, rfl, _, _, rfl, rfl, _, _, rfl, rfl, rfl⟩) (rfl) rfl ?_
      refine V.loopE (D := Nat × (Int × Int) × (Unit)) (fun ⟨n0, ⟨n_0, i⟩, _⟩ => [(10, .int .i64 n_0), (11, .int .i64 i)]) (fun ⟨n0, ⟨n_0, i⟩, _⟩ => []) (fun ⟨n0, ⟨n_0, i⟩, _⟩ => loopO (M.laws_FnStrides_l0 y1) n0 (n_0, i) = some e0) (fun ⟨n0, _, _⟩ => n0) (rounds, ((0 : Int), (0 : Int)), ()) rfl he2 ?_
      rintro ⟨n0, ⟨n_0, i⟩, _⟩ hP0
      obtain ⟨m0, y5, rfl, hm2, hl2, hr2⟩ := loop_head hP0
      unfold M.laws_FnStrides_l0 at hm2; dsimp only at hm2
      show V _ _ _ ⟨285, [(10, .int .i64 n_0), (11, .int .i64 i), (0, .vl ρ0 1 (List.map encU8 code)), (3, .vl rn 1 (List.map encInt y1.1)), (4, .int .i64 y1.2.1)], []⟩
      refine V.seq ?_
      refine V.seq ?_
      refine V.region ?_
      refine VO.cons rfl (V1.move rfl rfl rfl lt0 ?_)
      refine VO.cons rfl (V1.move rfl rfl rfl lt0 ?_)
      refine VO.cons rfl (V1.int rfl rfl rfl rfl rfl lt0 ?_)
      refine VO.nil ?_
      refine V.cond rfl (fun hc3 => ?_) (fun hc3 => ?_)
      ·
       replace hm2 := cond_t hc3 hm2
       refine V.skip ?_
       refine V.seq ?_
       refine V.block ?_
       refine V.seq ?_
       replace hm2 := bindO hm2; rcases hm2 with ⟨y6, hh5, hm2⟩
       refine V.region ?_
       refine VO.cons rfl (V1.move rfl rfl rfl lt0 ?_)
       refine VO.cons rfl (V1.move rfl rfl rfl lt0 ?_)
       refine VO.cons rfl (V1.move rfl rfl rfl lt0 ?_)
       refine VO.cons rfl (V1.permK (V1.call rfl rfl rfl cok_6 rfl (ok_impl_EveryNth hh5) rfl lt0 ?_))
       rintro _ _ ⟨ob1, hob1, rfl, rfl⟩
       refine ⟨_, ?_, Keeps.optBack (n := 1) (ob := ob1) (xs := List.map encInt y6.1) (H1 := []) (H2 := []) rfl⟩
       refine VO.cons rfl (V1.move rfl rfl rfl lt0 ?_)
       refine VO.cons rfl (V1.extract rfl rfl rfl rfl lt0 ?_)
       refine VO.weakenK (Keeps.optFront (n := 1) (ob := ob1) (xs := (List.map encInt y6.1)) (H1 := []) rfl) ?_
       refine VO.weakenK (Keeps.optVl 85 [] rn (f := encInt) (l := y6.1) (ob := ob1) (H1 := []) hob1 rfl rfl ⟨rfl, trivial⟩ (fun _ => rfl) rfl iNil) ?_
       refine VO.cons rfl (V1.extract rfl rfl rfl rfl lt0 ?_)
       refine VO.cons rfl (V1.assign rfl rfl rfl lt0 ?_)
       refine VO.cons rfl (V1.assign rfl rfl rfl lt0 ?_)
       refine VO.nil ?_
       refine V.keep 285 [0, 3, 4, 10, 11, 12, 13] [] (E0 := [(0, .vl ρ0 1 (List.map encU8 code)), (3, .vl rn 1 (List.map encInt y1.1)), (4, .int .i64 y1.2.1), (10, .int .i64 n_0), (11, .int .i64 i), (12, .vl rn 1 (List.map encInt y6.1)), (13, .bool y6.2)]) (H0 := []) rfl (⟨_, _, rfl, rfl, _, _, rfl, rfl, _, _, rfl, rfl, _, _, rfl, rfl, _, _, rfl, rfl, _, _, rfl, rfl, _, _, rfl, rfl, rfl⟩) (rfl) rfl ?_
       refine V.seq ?_
       refine V.seq ?_
       replace hm2 := bindO hm2; rcases hm2 with ⟨y7, hh6, hm2⟩
       refine V.region ?_
       refine VO.cons rfl (V1.move rfl rfl rfl lt0 ?_)
       refine VO.cons rfl (V1.not rfl rfl rfl lt0 ?_)
       refine VO.cons rfl (V1.move rfl rfl rfl lt0 ?_)
       apply VO.or (n := 4) rfl rfl rfl rfl rfl rfl lt0 (.none rfl)
       ·
        intro hg1
        refine VO.step (.some rfl rfl rfl) (V1.move rfl rfl rfl lt0 ?_)
        refine VO.step (.some rfl rfl rfl) (V1.move rfl rfl rfl lt0 ?_)
        refine VO.step (.some rfl rfl rfl) (V1.call rfl rfl rfl cok_9 rfl (ok_laws_vWithin (cond_f hg1 hh6)) rfl lt0 ?_)
        rintro _ _ ⟨rfl, rfl⟩
        refine VO.step (.some rfl rfl rfl) (V1.not rfl rfl rfl lt0 ?_)
        exact VO.nil ⟨rfl, rfl, rfl, rfl, .inr ⟨rfl, .inr ⟨rfl, .inr ⟨rfl, .inr ⟨rfl, .inr ⟨rfl, .inl rfl⟩⟩⟩⟩⟩⟩
       refine VO.nil ?_
       refine V.keep 285 [0, 3, 4, 10, 11, 12, 94] [] (E0 := [(0, .vl ρ0 1 (List.map encU8 code)), (3, .vl rn 1 (List.map encInt y1.1)), (4, .int .i64 y1.2.1), (10, .int .i64 n_0), (11, .int .i64 i), (12, .vl rn 1 (List.map encInt y6.1)), (94, .bool ((!y6.2) || (!y7)))]) (H0 := []) rfl (⟨_, _, rfl, rfl, _, _, rfl, rfl, _, _, rfl, rfl, _, _, rfl, rfl, _, _, rfl, rfl, _, _, rfl, rfl, _, _, rfl, rfl, rfl⟩) (rfl) rfl ?_
       refine V.cond rfl (fun hc4 => ?_) (fun hc4 => ?_)
       ·
        replace hm2 := cond_t hc4 hm2
        refine V.seq ?_
        refine V.region ?_
        refine VO.cons rfl (V1.assign rfl rfl rfl lt0 ?_)
        refine VO.nil ?_
        refine V.ret ?_
        obtain rfl := hr2 _ (Option.some.inj hm2).symm
        change some _ = some _ at hm1
        obtain rfl := Option.some.inj hm1
        change some _ = some _ at hm0
        obtain rfl := Option.some.inj hm0
        exact ⟨_, [], ⟨_, _, rfl, rfl, rfl⟩, List.nil_sublist _, rfl, rfl⟩
       ·
        replace hm2 := cond_f hc4 hm2
        refine V.skip ?_
        refine V.region ?_
        refine VO.cons rfl (V1.move rfl rfl rfl lt0 ?_)
        refine VO.cons rfl (V1.move rfl rfl rfl lt0 ?_)
        refine VO.cons rfl (V1.lenMap rfl rfl rfl rfl rfl rfl isl_24 lt0 ?_)
        refine VO.cons rfl (V1.int rfl rfl rfl rfl rfl lt0 ?_)
        refine VO.cons rfl (V1.assign rfl rfl rfl lt0 ?_)
        refine VO.nil ?_
        refine V.keep 285 [0, 3, 4, 10, 11] [] (E0 := [(0, .vl ρ0 1 (List.map encU8 code)), (3, .vl rn 1 (List.map encInt y1.1)), (4, .int .i64 y1.2.1), (10, .int .i64 (IntKind.i64.wrap (n_0 + (y6.1.length : Int)))), (11, .int .i64 i)]) (H0 := []) rfl (⟨_, _, rfl, rfl, _, _, rfl, rfl, _, _, rfl, rfl, _, _, rfl, rfl, _, _, rfl, rfl, rfl⟩) (rfl) rfl ?_
        refine V.region ?_
        refine VO.cons rfl (V1.move rfl rfl rfl lt0 ?_)
        refine VO.cons rfl (V1.int rfl rfl rfl rfl rfl lt0 ?_)
        refine VO.cons rfl (V1.assign rfl rfl rfl lt0 ?_)
        refine VO.nil ?_
        exact ⟨(m0, ((IntKind.i64.wrap (n_0 + (y6.1.length : Int))), (IntKind.i64.wrap (i + (1 : Int)))), ()), hl2 _ (Option.some.inj hm2).symm, Nat.lt_succ_self _, Keeps.mk (ks := []) rfl ⟨rfl, rfl, rfl, rfl, rfl, trivial⟩ (rfl) rfl⟩
      ·
       replace hm2 := cond_f hc3 hm2
       refine V.exit ?_
       obtain rfl := hr2 _ (Option.some.inj hm2).symm
       exact ⟨(n_0, ()), rfl, Keeps.mk (ks := []) rfl ⟨rfl, rfl, rfl, trivial⟩ (rfl) rfl⟩
     ·
      rintro ⟨n_, _⟩ rfl
      try dsimp only at hm1
      refine V.seq ?_
      refine V.region ?_
      refine VO.cons rfl (V1.move rfl rfl rfl lt0 ?_)
      refine VO.cons rfl (V1.move rfl rfl rfl lt0 ?_)
      refine VO.cons rfl (V1.lenMap rfl rfl rfl rfl rfl rfl isl_24 lt0 ?_)
      refine VO.cons rfl (V1.int rfl rfl rfl rfl rfl lt0 ?_)
      refine VO.nil ?_
      refine V.keep 285 [0, 102] [] (E0 := [(0, .vl ρ0 1 (List.map encU8 code)), (102, .bool (n_ != (y1.1.length : Int)))]) (H0 := []) rfl (⟨_, _, rfl, rfl, _, _, rfl, rfl, rfl⟩) (rfl) rfl ?_
      refine V.cond rfl (fun hc5 => ?_) (fun hc5 => ?_)
      ·
       replace hm1 := cond_t hc5 hm1
       refine V.seq ?_
       refine V.region ?_
       refine VO.cons rfl (V1.assign rfl rfl rfl lt0 ?_)
       refine VO.nil ?_
       refine V.ret ?_
       obtain rfl := Option.some.inj hm1
       change some _ = some _ at hm0
       obtain rfl := Option.some.inj hm0
       exact ⟨_, [], ⟨_, _, rfl, rfl, rfl⟩, List.nil_sublist _, rfl, rfl⟩
      ·
       replace hm1 := cond_f hc5 hm1
       refine V.skip ?_
       exact ⟨((), ()), Option.some.inj hm1, Keeps.mk (ks := []) rfl ⟨rfl, trivial⟩ (rfl) rfl⟩
    ·
     replace hm1 := cond_f hc2 hm1
     refine V.skip ?_
     exact ⟨((), ()), Option.some.inj hm1, Keeps.mk (ks := []) rfl ⟨rfl, trivial⟩ (rfl) rfl⟩
   ·
    rintro ⟨_, _⟩ rfl
    try dsimp only at hm0
    refine V.seq ?_
    replace hm0 := bindO hm0; rcases hm0 with ⟨y8, hh7, hm0⟩
    refine V.region ?_
    refine VO.cons rfl (V1.move rfl rfl rfl lt0 ?_)
    refine VO.cons rfl (V1.call rfl rfl rfl cok_10 rfl (ok_spec_DrawSampleSize hh7) rfl lt0 ?_)
    rintro _ _ ⟨rfl, rfl⟩
    refine VO.cons rfl (V1.move rfl rfl rfl lt0 ?_)
    refine VO.cons rfl (V1.extract rfl rfl rfl rfl lt0 ?_)
    refine VO.cons rfl (V1.extract rfl rfl rfl rfl lt0 ?_)
    refine VO.cons rfl (V1.extract rfl rfl rfl rfl lt0 ?_)
    refine VO.cons rfl (V1.assign rfl rfl rfl lt0 ?_)
    refine VO.cons rfl (V1.assign rfl rfl rfl lt0 ?_)
    refine VO.cons rfl (V1.assign rfl rfl rfl lt0 ?_)
    refine VO.nil ?_
    refine V.keep 285 [0, 14, 15, 16] [] (E0 := [(0, .vl ρ0 1 (List.map encU8 code)), (14, .int .i64 y8.1), (15, .int .i64 y8.2.1), (16, .int .i64 y8.2.2)]) (H0 := []) rfl (⟨_, _, rfl, rfl, _, _, rfl, rfl, _, _, rfl, rfl, _, _, rfl, rfl, rfl⟩) (rfl) rfl ?_
    refine V.seq ?_
    replace hm0 := bindO hm0; rcases hm0 with ⟨y9, hh8, hm0⟩
    refine V.region ?_
    refine VO.cons rfl (V1.move rfl rfl rfl lt0 ?_)
    refine VO.cons rfl (V1.move rfl rfl rfl lt0 ?_)
    refine VO.cons rfl (V1.move rfl rfl rfl lt0 ?_)
    refine VO.cons rfl (V1.call rfl rfl rfl cok_11 rfl (ok_impl_SampleSize hh8) rfl lt0 ?_)
    rintro _ _ ⟨rfl, rfl⟩
    refine VO.cons rfl (V1.move rfl rfl rfl lt0 ?_)
    refine VO.cons rfl (V1.extract rfl rfl rfl rfl lt0 ?_)
    refine VO.cons rfl (V1.extract rfl rfl rfl rfl lt0 ?_)
    refine VO.cons rfl (V1.assign rfl rfl rfl lt0 ?_)
    refine VO.cons rfl (V1.assign rfl rfl rfl lt0 ?_)
    refine VO.nil ?_
    refine V.keep 285 [0, 14, 15, 16, 17, 18] [] (E0 := [(0, .vl ρ0 1 (List.map encU8 code)), (14, .int .i64 y8.1), (15, .int .i64 y8.2.1), (16, .int .i64 y8.2.2), (17, .int .i64 y9.1), (18, .bool y9.2)]) (H0 := []) rfl (⟨_, _, rfl, rfl, _, _, rfl, rfl, _, _, rfl, rfl, _, _, rfl, rfl, _, _, rfl, rfl, _, _, rfl, rfl, rfl⟩) (rfl) rfl ?_
    refine V.seq ?_
    refine V.seq ?_
    replace hm0 := bindO hm0; rcases hm0 with ⟨y10, hh9, hm0⟩
    refine V.region ?_
    refine VO.cons rfl (V1.move rfl rfl rfl lt0 ?_)
    refine VO.cons rfl (V1.move rfl rfl rfl lt0 ?_)
    refine VO.cons rfl (V1.move rfl rfl rfl lt0 ?_)
    refine VO.cons rfl (V1.call rfl rfl rfl cok_12 rfl (ok_spec_SampleSize hh9) rfl lt0 ?_)
    rintro _ _ ⟨rfl, rfl⟩
    refine VO.cons rfl (V1.move rfl rfl rfl lt0 ?_)
    refine VO.cons rfl (V1.extract rfl rfl rfl rfl lt0 ?_)
    refine VO.cons rfl (V1.extract rfl rfl rfl rfl lt0 ?_)
    refine VO.cons rfl (V1.assign rfl rfl rfl lt0 ?_)
    refine VO.cons rfl (V1.assign rfl rfl rfl lt0 ?_)
    refine VO.nil ?_
    refine V.keep 285 [0, 14, 15, 16, 17, 18, 19, 20] [] (E0 := [(0, .vl ρ0 1 (List.map encU8 code)), (14, .int .i64 y8.1), (15, .int .i64 y8.2.1), (16, .int .i64 y8.2.2), (17, .int .i64 y9.1), (18, .bool y9.2), (19, .int .i64 y10.1), (20, .bool y10.2)]) (H0 := []) rfl (⟨_, _, rfl, rfl, _, _, rfl, rfl, _, _, rfl, rfl, _, _, rfl, rfl, _, _, rfl, rfl, _, _, rfl, rfl, _, _, rfl, rfl, _, _, rfl, rfl, rfl⟩) (rfl) rfl ?_
    refine V.seq ?_
    refine V.region ?_
    refine VO.cons rfl (V1.move rfl rfl rfl lt0 ?_)
    refine VO.cons rfl (V1.move rfl rfl rfl lt0 ?_)
    refine VO.cons rfl (V1.int rfl rfl rfl rfl rfl lt0 ?_)
    refine VO.cons rfl (V1.move rfl rfl rfl lt0 ?_)
    apply VO.or (n := 3) rfl rfl rfl rfl rfl rfl lt0 (.none rfl)
    ·
     intro hg2
     refine VO.step (.some rfl rfl rfl) (V1.move rfl rfl rfl lt0 ?_)
     refine VO.step (.some rfl rfl rfl) (V1.move rfl rfl rfl lt0 ?_)
     refine VO.step (.some rfl rfl rfl) (V1.boolNeq rfl rfl und_4 rfl rfl lt0 ?_)
     exact VO.nil ⟨rfl, rfl, rfl, rfl, .inr ⟨rfl, .inr ⟨rfl, .inr ⟨rfl, .inr ⟨rfl, .inl rfl⟩⟩⟩⟩⟩
    refine VO.cons rfl (V1.move rfl rfl rfl lt0 ?_)
    apply VO.or (n := 24) rfl rfl rfl rfl rfl rfl lt0 (.none rfl)
    ·
     intro hg3
     refine VO.step (.some rfl rfl rfl) (V1.move rfl rfl rfl lt0 ?_)
     refine VO.step (.some rfl rfl rfl) (V1.move rfl rfl rfl lt0 ?_)
     apply VO.and (n := 21) rfl rfl rfl rfl rfl rfl lt0 (.some rfl rfl rfl)
     ·
      intro hg4
      refine VO.step (.some rfl rfl rfl) (V1.move rfl rfl rfl lt0 ?_)
      refine VO.step (.some rfl rfl rfl) (V1.move rfl rfl rfl lt0 ?_)
      refine VO.step (.some rfl rfl rfl) (V1.int rfl rfl rfl rfl rfl lt0 ?_)
      refine VO.step (.some rfl rfl rfl) (V1.move rfl rfl rfl lt0 ?_)
      apply VO.or (n := 16) rfl rfl rfl rfl rfl rfl lt0 (.some rfl rfl rfl)
      ·
       intro hg5
       refine VO.step (.some rfl rfl rfl) (V1.move rfl rfl rfl lt0 ?_)
       refine VO.step (.some rfl rfl rfl) (V1.move rfl rfl rfl lt0 ?_)
       refine VO.step (.some rfl rfl rfl) (V1.int rfl rfl rfl rfl rfl lt0 ?_)
       refine VO.step (.some rfl rfl rfl) (V1.move rfl rfl rfl lt0 ?_)
       apply VO.and (n := 11) rfl rfl rfl rfl rfl rfl lt0 (.some rfl rfl rfl)
       ·
        intro hg6
        refine VO.step (.some rfl rfl rfl) (V1.move rfl rfl rfl lt0 ?_)
        refine VO.step (.some rfl rfl rfl) (V1.move rfl rfl rfl lt0 ?_)
        refine VO.step (.some rfl rfl rfl) (V1.int rfl rfl rfl rfl rfl lt0 ?_)
        refine VO.step (.some rfl rfl rfl) (V1.move rfl rfl rfl lt0 ?_)
        apply VO.or (n := 6) rfl rfl rfl rfl rfl rfl lt0 (.some rfl rfl rfl)
        ·
         intro hg7
         refine VO.step (.some rfl rfl rfl) (V1.move rfl rfl rfl lt0 ?_)
         refine VO.step (.some rfl rfl rfl) (V1.int rfl rfl rfl rfl rfl lt0 ?_)
         refine VO.step (.some rfl rfl rfl) (V1.move rfl rfl rfl lt0 ?_)
         refine VO.step (.some rfl rfl rfl) (V1.move rfl rfl rfl lt0 ?_)
         refine VO.step (.some rfl rfl rfl) (V1.int rfl rfl rfl rfl rfl lt0 ?_)
         refine VO.step (.some rfl rfl rfl) (V1.int rfl rfl rfl rfl rfl lt0 ?_)
         exact VO.nil ⟨rfl, rfl, rfl, rfl, .inr ⟨rfl, .inr ⟨rfl, .inr ⟨rfl, .inr ⟨rfl, .inr ⟨rfl, .inr ⟨rfl, .inr ⟨rfl, .inl rfl⟩⟩⟩⟩⟩⟩⟩⟩
        exact VO.nil ⟨rfl, rfl, rfl, rfl, .inr ⟨rfl, .inr ⟨rfl, .inr ⟨rfl, .inr ⟨rfl, .inr ⟨rfl, .inr ⟨rfl, .inl rfl⟩⟩⟩⟩⟩⟩⟩
       exact VO.nil ⟨rfl, rfl, rfl, rfl, .inr ⟨rfl, .inr ⟨rfl, .inr ⟨rfl, .inr ⟨rfl, .inr ⟨rfl, .inr ⟨rfl, .inl rfl⟩⟩⟩⟩⟩⟩⟩
      exact VO.nil ⟨rfl, rfl, rfl, rfl, .inr ⟨rfl, .inr ⟨rfl, .inr ⟨rfl, .inr ⟨rfl, .inr ⟨rfl, .inr ⟨rfl, .inl rfl⟩⟩⟩⟩⟩⟩⟩
     exact VO.nil ⟨rfl, rfl, rfl, rfl, .inr ⟨rfl, .inr ⟨rfl, .inr ⟨rfl, .inr ⟨rfl, .inl rfl⟩⟩⟩⟩⟩
    refine VO.nil ?_
    refine V.keep 285 [0, 156] [] (E0 := [(0, .vl ρ0 1 (List.map encU8 code)), (156, .bool (((y9.1 != y10.1) || (!(y9.2 == y10.2))) || (y9.2 && ((decide (y9.1 > y8.1)) || ((decide (y9.1 < y8.1)) && ((decide (y9.1 < y8.2.2)) || (decide ((IntKind.i64.wrap ((100 : Int) * y9.1)) < (IntKind.i64.wrap (y8.2.1 * y8.1))))))))))]) (H0 := []) rfl (⟨_, _, rfl, rfl, _, _, rfl, rfl, rfl⟩) (rfl) rfl ?_
    refine V.cond rfl (fun hc6 => ?_) (fun hc6 => ?_)
    ·
     replace hm0 := cond_t hc6 hm0
     refine V.seq ?_
     refine V.region ?_
     refine VO.cons rfl (V1.assign rfl rfl rfl lt0 ?_)
     refine VO.nil ?_
     refine V.ret ?_
     obtain rfl := Option.some.inj hm0
     exact ⟨_, [], ⟨_, _, rfl, rfl, rfl⟩, List.nil_sublist _, rfl, rfl⟩
    ·
     replace hm0 := cond_f hc6 hm0
     refine V.skip ?_
     refine V.seq ?_
     replace hm0 := bindO hm0; rcases hm0 with ⟨y11, hh10, hm0⟩
     refine V.region ?_
     refine VO.cons rfl (V1.move rfl rfl rfl lt0 ?_)
     refine VO.cons rfl (V1.call rfl rfl rfl cok_13 rfl (ok_spec_DrawSampleBySeries hh10) rfl lt0 ?_)
     rintro _ _ ⟨b2, rfl, rfl⟩
     refine VO.cons rfl (V1.move rfl rfl rfl lt0 ?_)
     refine VO.cons rfl (V1.extract rfl rfl rfl rfl lt0 ?_)
     refine VO.weakenK (Keeps.freezeG 0 rn [(160, .vl rn 4 (List.map (encRecord rn) y11.1))] ([]) (f := (encRecord rn)) (l := y11.1) rfl (fun _ => rfl) ⟨⟨_, rfl, .here⟩, trivial⟩ rfl rfl iNil) ?_
     refine VO.cons rfl (V1.extract rfl rfl rfl rfl lt0 ?_)
     refine VO.cons rfl (V1.extract rfl rfl rfl rfl lt0 ?_)
     refine VO.cons rfl (V1.assign rfl rfl rfl lt0 ?_)
     refine VO.cons rfl (V1.assign rfl rfl rfl lt0 ?_)
     refine VO.cons rfl (V1.assign rfl rfl rfl lt0 ?_)
     refine VO.nil ?_
     refine V.keep 285 [0, 21, 22, 23] [] (E0 := [(0, .vl ρ0 1 (List.map encU8 code)), (21, .vl rn 4 (List.map (encRecord rn) y11.1)), (22, .int .i64 y11.2.1), (23, .int .i64 y11.2.2)]) (H0 := []) rfl (⟨_, _, rfl, rfl, _, _, rfl, rfl, _, _, rfl, rfl, _, _, rfl, rfl, rfl⟩) (rfl) rfl ?_
     refine V.seq ?_
     replace hm0 := bindO hm0; rcases hm0 with ⟨y12, hh11, hm0⟩
     refine V.region ?_
     refine VO.cons rfl (V1.move rfl rfl rfl lt0 ?_)
     refine VO.cons rfl (V1.move rfl rfl rfl lt0 ?_)
     refine VO.cons rfl (V1.move rfl rfl rfl lt0 ?_)
     refine VO.cons rfl (V1.permK (V1.call rfl rfl rfl cok_14 rfl (ok_impl_SampleBySeries hh11) rfl lt0 ?_))
     rintro _ _ ⟨ob2, hob2, rfl, rfl⟩
     refine ⟨_, ?_, Keeps.optBack (n := 1) (ob := ob2) (xs := List.map encInt y12.1) (H1 := []) (H2 := []) rfl⟩
     refine VO.cons rfl (V1.move rfl rfl rfl lt0 ?_)
     refine VO.cons rfl (V1.extract rfl rfl rfl rfl lt0 ?_)
     refine VO.weakenK (Keeps.optFront (n := 1) (ob := ob2) (xs := (List.map encInt y12.1)) (H1 := []) rfl) ?_
     refine VO.weakenK (Keeps.optVl 168 [] rn (f := encInt) (l := y12.1) (ob := ob2) (H1 := []) hob2 rfl rfl ⟨rfl, trivial⟩ (fun _ => rfl) rfl iNil) ?_
     refine VO.cons rfl (V1.extract rfl rfl rfl rfl lt0 ?_)
     refine VO.cons rfl (V1.assign rfl rfl rfl lt0 ?_)
     refine VO.cons rfl (V1.assign rfl rfl rfl lt0 ?_)
     refine VO.nil ?_
     refine V.keep 285 [0, 21, 22, 23, 24, 25] [] (E0 := [(0, .vl ρ0 1 (List.map encU8 code)), (21, .vl rn 4 (List.map (encRecord rn) y11.1)), (22, .int .i64 y11.2.1), (23, .int .i64 y11.2.2), (24, .vl rn 1 (List.map encInt y12.1)), (25, .bool y12.2)]) (H0 := []) rfl (⟨_, _, rfl, rfl, _, _, rfl, rfl, _, _, rfl, rfl, _, _, rfl, rfl, _, _, rfl, rfl, _, _, rfl, rfl, rfl⟩) (rfl) rfl ?_
     refine V.seq ?_
     refine V.seq ?_
     replace hm0 := bindO hm0; rcases hm0 with ⟨y13, hh12, hm0⟩
     refine V.region ?_
     refine VO.cons rfl (V1.move rfl rfl rfl lt0 ?_)
     refine VO.cons rfl (V1.move rfl rfl rfl lt0 ?_)
     refine VO.cons rfl (V1.move rfl rfl rfl lt0 ?_)
     refine VO.cons rfl (V1.call rfl rfl rfl cok_15 rfl (ok_spec_SampleBySeries hh12) rfl lt0 ?_)
     rintro _ _ ⟨rfl, rfl⟩
     refine VO.cons rfl (V1.move rfl rfl rfl lt0 ?_)
     refine VO.cons rfl (V1.extract rfl rfl rfl rfl lt0 ?_)
     refine VO.cons rfl (V1.extract rfl rfl rfl rfl lt0 ?_)
     refine VO.cons rfl (V1.assign rfl rfl rfl lt0 ?_)
     refine VO.cons rfl (V1.assign rfl rfl rfl lt0 ?_)
     refine VO.nil ?_
     refine V.keep 285 [0, 21, 22, 24, 25, 26, 27] [] (E0 := [(0, .vl ρ0 1 (List.map encU8 code)), (21, .vl rn 4 (List.map (encRecord rn) y11.1)), (22, .int .i64 y11.2.1), (24, .vl rn 1 (List.map encInt y12.1)), (25, .bool y12.2), (26, .vl rn 1 (List.map encInt y13.1)), (27, .bool y13.2)]) (H0 := []) rfl (⟨_, _, rfl, rfl, _, _, rfl, rfl, _, _, rfl, rfl, _, _, rfl, rfl, _, _, rfl, rfl, _, _, rfl, rfl, _, _, rfl, rfl, rfl⟩) (rfl) rfl ?_
     refine V.seq ?_
     replace hm0 := bindO hm0; rcases hm0 with ⟨y14, hh13, hm0⟩
     refine V.region ?_
     refine VO.cons rfl (V1.move rfl rfl rfl lt0 ?_)
     refine VO.cons rfl (V1.move rfl rfl rfl lt0 ?_)
     refine VO.cons rfl (V1.boolNeq rfl rfl und_4 rfl rfl lt0 ?_)
     refine VO.cons rfl (V1.move rfl rfl rfl lt0 ?_)
     apply VO.or (n := 4) rfl rfl rfl rfl rfl rfl lt0 (.none rfl)
     ·
      intro hg8
      refine VO.step (.some rfl rfl rfl) (V1.move rfl rfl rfl lt0 ?_)
      refine VO.step (.some rfl rfl rfl) (V1.move rfl rfl rfl lt0 ?_)
      refine VO.step (.some rfl rfl rfl) (V1.call rfl rfl rfl cok_8 rfl (ok_laws_vInts (cond_f hg8 hh13)) rfl lt0 ?_)
      rintro _ _ ⟨rfl, rfl⟩
      refine VO.step (.some rfl rfl rfl) (V1.not rfl rfl rfl lt0 ?_)
      exact VO.nil ⟨rfl, rfl, rfl, rfl, .inr ⟨rfl, .inr ⟨rfl, .inr ⟨rfl, .inr ⟨rfl, .inr ⟨rfl, .inl rfl⟩⟩⟩⟩⟩⟩
     refine VO.nil ?_
     refine V.keep 285 [0, 21, 22, 24, 25, 185] [] (E0 := [(0, .vl ρ0 1 (List.map encU8 code)), (21, .vl rn 4 (List.map (encRecord rn) y11.1)), (22, .int .i64 y11.2.1), (24, .vl rn 1 (List.map encInt y12.1)), (25, .bool y12.2), (185, .bool ((!(y12.2 == y13.2)) || (!y14)))]) (H0 := []) rfl (⟨_, _, rfl, rfl, _, _, rfl, rfl, _, _, rfl, rfl, _, _, rfl, rfl, _, _, rfl, rfl, _, _, rfl, rfl, rfl⟩) (rfl) rfl ?_
     refine V.cond rfl (fun hc7 => ?_) (fun hc7 => ?_)
     ·
      replace hm0 := cond_t hc7 hm0
      refine V.seq ?_
      refine V.region ?_
      refine VO.cons rfl (V1.assign rfl rfl rfl lt0 ?_)
      refine VO.nil ?_
      refine V.ret ?_
      obtain rfl := Option.some.inj hm0
      exact ⟨_, [], ⟨_, _, rfl, rfl, rfl⟩, List.nil_sublist _, rfl, rfl⟩
     ·
      replace hm0 := cond_f hc7 hm0
      refine V.skip ?_
      refine V.seq ?_
      refine V.seq ?_
      refine V.region ?_
      refine VO.cons rfl (V1.assign rfl rfl rfl lt0 ?_)
      refine VO.nil ?_
      replace hm0 := bindO hm0; rcases hm0 with ⟨e1, he1, hm0⟩
      refine V.cutT (D := (Unit) × (Unit)) (fun ⟨_, _⟩ => ⟨285, [(0, .vl ρ0 1 (List.map encU8 code))], []⟩) (fun ⟨_, _⟩ => (.inl () = e1)) ?_ ?_
      ·
       refine V.block ?_
       refine V.keep 285 [28, 0, 21, 22, 24, 25] [] (E0 := [(28, .int .i64 (0 : Int)), (0, .vl ρ0 1 (List.map encU8 code)), (21, .vl rn 4 (List.map (encRecord rn) y11.1)), (22, .int .i64 y11.2.1), (24, .vl rn 1 (List.map encInt y12.1)), (25, .bool y12.2)]) (H0 := []) rfl (⟨_, _, rfl, rfl, _, _, rfl, rfl, _, _, rfl, rfl, _, _, rfl, rfl, _, _, rfl, rfl, _, _, rfl, rfl, rfl⟩) (rfl) rfl ?_
       refine V.loopE (D := Nat × (Int) × (Unit)) (fun ⟨n1, i0, _⟩ => [(28, .int .i64 i0)]) (fun ⟨n1, i0, _⟩ => []) (fun ⟨n1, i0, _⟩ => loopO (M.laws_FnStrides_l1 y11 y12) n1 i0 = some e1) (fun ⟨n1, _, _⟩ => n1) (rounds, (0 : Int), ()) rfl he1 ?_
       rintro ⟨n1, i0, _⟩ hP1
       obtain ⟨m1, y15, rfl, hm1, hl1, hr1⟩ := loop_head hP1
       unfold M.laws_FnStrides_l1 at hm1; dsimp only at hm1
       show V _ _ _ ⟨285, [(28, .int .i64 i0), (0, .vl ρ0 1 (List.map encU8 code)), (21, .vl rn 4 (List.map (encRecord rn) y11.1)), (22, .int .i64 y11.2.1), (24, .vl rn 1 (List.map encInt y12.1)), (25, .bool y12.2)], []⟩
       refine V.seq ?_
       refine V.seq ?_
       refine V.region ?_
       refine VO.cons rfl (V1.move rfl rfl rfl lt0 ?_)
       refine VO.cons rfl (V1.move rfl rfl rfl lt0 ?_)
       refine VO.cons rfl (V1.lenMap rfl rfl rfl rfl rfl rfl isl_34 lt0 ?_)
       refine VO.cons rfl (V1.int rfl rfl rfl rfl rfl lt0 ?_)
       refine VO.cons rfl (V1.move rfl rfl rfl lt0 ?_)
       apply VO.and (n := 1) rfl rfl rfl rfl rfl rfl lt0 (.none rfl)
       ·
        intro hg9
        refine VO.step (.some rfl rfl rfl) (V1.move rfl rfl rfl lt0 ?_)
        exact VO.nil ⟨rfl, rfl, rfl, rfl, .inr ⟨rfl, .inr ⟨rfl, .inl rfl⟩⟩⟩
       refine VO.nil ?_
       refine V.keep 285 [0, 21, 22, 24, 25, 28, 192] [] (E0 := [(0, .vl ρ0 1 (List.map encU8 code)), (21, .vl rn 4 (List.map (encRecord rn) y11.1)), (22, .int .i64 y11.2.1), (24, .vl rn 1 (List.map encInt y12.1)), (25, .bool y12.2), (28, .int .i64 i0), (192, .bool ((decide (i0 < (y11.1.length : Int))) && y12.2))]) (H0 := []) rfl (⟨_, _, rfl, rfl, _, _, rfl, rfl, _, _, rfl, rfl, _, _, rfl, rfl, _, _, rfl, rfl, _, _, rfl, rfl, _, _, rfl, rfl, rfl⟩) (rfl) rfl ?_
       refine V.cond rfl (fun hc8 => ?_) (fun hc8 => ?_)
       ·
        replace hm1 := cond_t hc8 hm1
        refine V.skip ?_
        refine V.seq ?_
        refine V.block ?_
        refine V.seq ?_
        replace hm1 := asrt_some hm1; rcases hm1 with ⟨hh14, hm1⟩
        replace hm1 := bindO hm1; rcases hm1 with ⟨y16, hh15, hm1⟩
        refine V.region ?_
        refine VO.cons rfl (V1.move rfl rfl rfl lt0 ?_)
        refine VO.cons rfl (V1.move rfl rfl rfl lt0 ?_)
        refine VO.cons rfl (V1.move rfl rfl rfl lt0 ?_)
        refine VO.cons rfl (V1.indexI rfl rfl esz_34 rfl rfl hh14 lt0 ?_)
        refine VO.cons rfl (V1.fieldPin rfl rfl fo_41_1 rfl lt0 ?_)
        refine VO.cons rfl (V1.loadPin rfl rfl tyk_3 rfl rfl lt0 ?_)
        refine VO.cons rfl (V1.permK (V1.call rfl rfl rfl cok_16 rfl (ok_impl_InSeries hh15) rfl lt0 ?_))
        rintro _ _ ⟨ob3, hob3, rfl, rfl⟩
        refine ⟨_, ?_, Keeps.optBack (n := 1) (ob := ob3) (xs := List.map encInt y16.1) (H1 := []) (H2 := []) rfl⟩
        refine VO.cons rfl (V1.move rfl rfl rfl lt0 ?_)
        refine VO.cons rfl (V1.extract rfl rfl rfl rfl lt0 ?_)
        refine VO.weakenK (Keeps.optFront (n := 1) (ob := ob3) (xs := (List.map encInt y16.1)) (H1 := []) rfl) ?_
        refine VO.weakenK (Keeps.optVl 203 [] rn (f := encInt) (l := y16.1) (ob := ob3) (H1 := []) hob3 rfl rfl ⟨rfl, trivial⟩ (fun _ => rfl) rfl iNil) ?_
        refine VO.cons rfl (V1.extract rfl rfl rfl rfl lt0 ?_)
        refine VO.cons rfl (V1.assign rfl rfl rfl lt0 ?_)
        refine VO.cons rfl (V1.assign rfl rfl rfl lt0 ?_)
        refine VO.nil ?_
        refine V.keep 285 [0, 21, 22, 24, 25, 28, 29, 30] [] (E0 := [(0, .vl ρ0 1 (List.map encU8 code)), (21, .vl rn 4 (List.map (encRecord rn) y11.1)), (22, .int .i64 y11.2.1), (24, .vl rn 1 (List.map encInt y12.1)), (25, .bool y12.2), (28, .int .i64 i0), (29, .vl rn 1 (List.map encInt y16.1)), (30, .bool y16.2)]) (H0 := []) rfl (⟨_, _, rfl, rfl, _, _, rfl, rfl, _, _, rfl, rfl, _, _, rfl, rfl, _, _, rfl, rfl, _, _, rfl, rfl, _, _, rfl, rfl, _, _, rfl, rfl, rfl⟩) (rfl) rfl ?_
        refine V.seq ?_
        refine V.region ?_
        refine VO.cons rfl (V1.assign rfl rfl rfl lt0 ?_)
        refine VO.nil ?_
        refine V.seq ?_
        refine V.seq ?_
        refine V.region ?_
        refine VO.cons rfl (V1.assign rfl rfl rfl lt0 ?_)
        refine VO.nil ?_
        replace hm1 := bindO hm1; rcases hm1 with ⟨e2, he2, hm1⟩
        refine V.cutT (D := (Int) × (Unit)) (fun ⟨n_1, _⟩ => ⟨285, [(31, .int .i64 n_1), (0, .vl ρ0 1 (List.map encU8 code)), (21, .vl rn 4 (List.map (encRecord rn) y11.1)), (22, .int .i64 y11.2.1), (24, .vl rn 1 (List.map encInt y12.1)), (25, .bool y12.2), (28, .int .i64 i0), (29, .vl rn 1 (List.map encInt y16.1)), (30, .bool y16.2)], []⟩) (fun ⟨n_1, _⟩ => (n_1 = e2)) ?_ ?_
        ·
         refine V.block ?_
         refine V.keep 285 [31, 32, 0, 21, 22, 24, 25, 28, 29, 30] [] (E0 := [(31, .int .i64 (0 : Int)), (32, .int .i64 (0 : Int)), (0, .vl ρ0 1 (List.map encU8 code)), (21, .vl rn 4 (List.map (encRecord rn) y11.1)), (22, .int .i64 y11.2.1), (24, .vl rn 1 (List.map encInt y12.1)), (25, .bool y12.2), (28, .int .i64 i0), (29, .vl rn 1 (List.map encInt y16.1)), (30, .bool y16.2)]) (H0 := []) rfl (⟨_, _, rfl, rfl, _, _, rfl, rfl, _, _, rfl, rfl, _, _, rfl, rfl, _, _, rfl, rfl, _, _, rfl, rfl, _, _, rfl, rfl, _, _, rfl, rfl, _, _, rfl, rfl, _, _, rfl, rfl, rfl⟩) (rfl) rfl ?_
         refine V.loopE (D := Nat × (Int × Int) × (Unit)) (fun ⟨n2, ⟨n_2, j_⟩, _⟩ => [(31, .int .i64 n_2), (32, .int .i64 j_)]) (fun ⟨n2, ⟨n_2, j_⟩, _⟩ => []) (fun ⟨n2, ⟨n_2, j_⟩, _⟩ => loopO (M.laws_FnStrides_l2 y12 y16) n2 (n_2, j_) = some e2) (fun ⟨n2, _, _⟩ => n2) (rounds, ((0 : Int), (0 : Int)), ()) rfl he2 ?_
         rintro ⟨n2, ⟨n_2, j_⟩, _⟩ hP2
         obtain ⟨m2, y17, rfl, hm2, hl2, hr2⟩ := loop_head hP2
         unfold M.laws_FnStrides_l2 at hm2; dsimp only at hm2
         show V _ _ _ ⟨285, [(31, .int .i64 n_2), (32, .int .i64 j_), (0, .vl ρ0 1 (List.map encU8 code)), (21, .vl rn 4 (List.map (encRecord rn) y11.1)), (22, .int .i64 y11.2.1), (24, .vl rn 1 (List.map encInt y12.1)), (25, .bool y12.2), (28, .int .i64 i0), (29, .vl rn 1 (List.map encInt y16.1)), (30, .bool y16.2)], []⟩
         refine V.seq ?_
         refine V.seq ?_
         refine V.region ?_
         refine VO.cons rfl (V1.move rfl rfl rfl lt0 ?_)
         refine VO.cons rfl (V1.move rfl rfl rfl lt0 ?_)
         refine VO.cons rfl (V1.lenMap rfl rfl rfl rfl rfl rfl isl_24 lt0 ?_)
         refine VO.cons rfl (V1.int rfl rfl rfl rfl rfl lt0 ?_)
         refine VO.nil ?_
         refine V.cond rfl (fun hc9 => ?_) (fun hc9 => ?_)
         ·
          replace hm2 := cond_t hc9 hm2
          refine V.skip ?_
          refine V.keep 285 [0, 21, 22, 24, 25, 28, 29, 30, 31, 32] [] (E0 := [(0, .vl ρ0 1 (List.map encU8 code)), (21, .vl rn 4 (List.map (encRecord rn) y11.1)), (22, .int .i64 y11.2.1), (24, .vl rn 1 (List.map encInt y12.1)), (25, .bool y12.2), (28, .int .i64 i0), (29, .vl rn 1 (List.map encInt y16.1)), (30, .bool y16.2), (31, .int .i64 n_2), (32, .int .i64 j_)]) (H0 := []) rfl (⟨_, _, rfl, rfl, _, _, rfl, rfl, _, _, rfl, rfl, _, _, rfl, rfl, _, _, rfl, rfl, _, _, rfl, rfl, _, _, rfl, rfl, _, _, rfl, rfl, _, _, rfl, rfl, _, _, rfl, rfl, rfl⟩) (rfl) rfl ?_
          refine V.seq ?_
          replace hm2 := bindO hm2; rcases hm2 with ⟨j1, hm3, hm2⟩
          refine V.cutT (D := (Int) × (Unit)) (fun ⟨n_3, _⟩ => ⟨285, [(31, .int .i64 n_3), (0, .vl ρ0 1 (List.map encU8 code)), (21, .vl rn 4 (List.map (encRecord rn) y11.1)), (22, .int .i64 y11.2.1), (24, .vl rn 1 (List.map encInt y12.1)), (25, .bool y12.2), (28, .int .i64 i0), (29, .vl rn 1 (List.map encInt y16.1)), (30, .bool y16.2), (32, .int .i64 j_)], []⟩) (fun ⟨n_3, _⟩ => (n_3 = j1)) ?_ ?_
          ·
           refine V.block ?_
           refine V.seq ?_
           replace hm3 := asrt_some hm3; rcases hm3 with ⟨hh16, hm3⟩
           replace hm3 := bindO hm3; rcases hm3 with ⟨y18, hh17, hm3⟩
           refine V.region ?_
           refine VO.cons rfl (V1.move rfl rfl rfl lt0 ?_)
           refine VO.cons rfl (V1.move rfl rfl rfl lt0 ?_)
           refine VO.cons rfl (V1.move rfl rfl rfl lt0 ?_)
           refine VO.cons rfl (V1.indexI rfl rfl esz_24 rfl rfl hh16 lt0 ?_)
           refine VO.cons rfl (V1.loadPin rfl rfl tyk_3 rfl rfl lt0 ?_)
           refine VO.cons rfl (V1.call rfl rfl rfl cok_17 rfl (ok_laws_vHas hh17) rfl lt0 ?_)
           rintro _ _ ⟨rfl, rfl⟩
           refine VO.nil ?_
           refine V.keep 285 [0, 21, 22, 24, 25, 28, 29, 30, 31, 32, 216] [] (E0 := [(0, .vl ρ0 1 (List.map encU8 code)), (21, .vl rn 4 (List.map (encRecord rn) y11.1)), (22, .int .i64 y11.2.1), (24, .vl rn 1 (List.map encInt y12.1)), (25, .bool y12.2), (28, .int .i64 i0), (29, .vl rn 1 (List.map encInt y16.1)), (30, .bool y16.2), (31, .int .i64 n_2), (32, .int .i64 j_), (216, .bool y18)]) (H0 := []) rfl (⟨_, _, rfl, rfl, _, _, rfl, rfl, _, _, rfl, rfl, _, _, rfl, rfl, _, _, rfl, rfl, _, _, rfl, rfl, _, _, rfl, rfl, _, _, rfl, rfl, _, _, rfl, rfl, _, _, rfl, rfl, _, _, rfl, rfl, rfl⟩) (rfl) rfl ?_
           refine V.cond rfl (fun hc10 => ?_) (fun hc10 => ?_)
           ·
            replace hm3 := cond_t hc10 hm3
            refine V.region ?_
            refine VO.cons rfl (V1.move rfl rfl rfl lt0 ?_)
            refine VO.cons rfl (V1.int rfl rfl rfl rfl rfl lt0 ?_)
            refine VO.cons rfl (V1.assign rfl rfl rfl lt0 ?_)
            refine VO.nil ?_
            exact ⟨((IntKind.i64.wrap (n_2 + (1 : Int))), ()), Option.some.inj hm3, Keeps.mk (ks := []) rfl ⟨rfl, rfl, rfl, rfl, rfl, rfl, rfl, rfl, rfl, rfl, trivial⟩ (rfl) rfl⟩
           ·
            replace hm3 := cond_f hc10 hm3
            refine V.skip ?_
            exact ⟨(n_2, ()), Option.some.inj hm3, Keeps.mk (ks := []) rfl ⟨rfl, rfl, rfl, rfl, rfl, rfl, rfl, rfl, rfl, rfl, trivial⟩ (rfl) rfl⟩
          ·
           rintro ⟨n_3, _⟩ rfl
           try dsimp only at hm2
           refine V.region ?_
           refine VO.cons rfl (V1.move rfl rfl rfl lt0 ?_)
           refine VO.cons rfl (V1.int rfl rfl rfl rfl rfl lt0 ?_)
           refine VO.cons rfl (V1.assign rfl rfl rfl lt0 ?_)
           refine VO.nil ?_
           exact ⟨(m2, (n_3, (IntKind.i64.wrap (j_ + (1 : Int)))), ()), hl2 _ (Option.some.inj hm2).symm, Nat.lt_succ_self _, Keeps.mk (ks := []) rfl ⟨rfl, rfl, rfl, rfl, rfl, rfl, rfl, rfl, rfl, rfl, trivial⟩ (rfl) rfl⟩
         ·
          replace hm2 := cond_f hc9 hm2
          refine V.exit ?_
          obtain rfl := hr2 _ (Option.some.inj hm2).symm
          exact ⟨(n_2, ()), rfl, Keeps.mk (ks := []) rfl ⟨rfl, rfl, rfl, rfl, rfl, rfl, rfl, rfl, rfl, trivial⟩ (rfl) rfl⟩
        ·
         rintro ⟨n_1, _⟩ rfl
         try dsimp only at hm1
         refine V.seq ?_
         refine V.region ?_
         refine VO.cons rfl (V1.move rfl rfl rfl lt0 ?_)
         refine VO.cons rfl (V1.not rfl rfl rfl lt0 ?_)
         refine VO.cons rfl (V1.move rfl rfl rfl lt0 ?_)
         apply VO.or (n := 2) rfl rfl rfl rfl rfl rfl lt0 (.none rfl)
         ·
          intro hg10
          refine VO.step (.some rfl rfl rfl) (V1.move rfl rfl rfl lt0 ?_)
          refine VO.step (.some rfl rfl rfl) (V1.int rfl rfl rfl rfl rfl lt0 ?_)
          exact VO.nil ⟨rfl, rfl, rfl, rfl, .inr ⟨rfl, .inr ⟨rfl, .inr ⟨rfl, .inl rfl⟩⟩⟩⟩
         refine VO.cons rfl (V1.move rfl rfl rfl lt0 ?_)
         apply VO.or (n := 7) rfl rfl rfl rfl rfl rfl lt0 (.none rfl)
         ·
          intro hg11
          refine VO.step (.some rfl rfl rfl) (V1.move rfl rfl rfl lt0 ?_)
          refine VO.step (.some rfl rfl rfl) (V1.int rfl rfl rfl rfl rfl lt0 ?_)
          refine VO.step (.some rfl rfl rfl) (V1.move rfl rfl rfl lt0 ?_)
          refine VO.step (.some rfl rfl rfl) (V1.move rfl rfl rfl lt0 ?_)
          refine VO.step (.some rfl rfl rfl) (V1.lenMap rfl rfl rfl rfl rfl rfl isl_24 lt0 ?_)
          refine VO.step (.some rfl rfl rfl) (V1.int rfl rfl rfl rfl rfl lt0 ?_)
          refine VO.step (.some rfl rfl rfl) (V1.int rfl rfl rfl rfl rfl lt0 ?_)
          exact VO.nil ⟨rfl, rfl, rfl, rfl, .inr ⟨rfl, .inr ⟨rfl, .inr ⟨rfl, .inr ⟨rfl, .inr ⟨rfl, .inr ⟨rfl, .inr ⟨rfl, .inr ⟨rfl, .inl rfl⟩⟩⟩⟩⟩⟩⟩⟩⟩
         refine VO.nil ?_
         refine V.keep 285 [0, 21, 22, 24, 25, 28, 233] [] (E0 := [(0, .vl ρ0 1 (List.map encU8 code)), (21, .vl rn 4 (List.map (encRecord rn) y11.1)), (22, .int .i64 y11.2.1), (24, .vl rn 1 (List.map encInt y12.1)), (25, .bool y12.2), (28, .int .i64 i0), (233, .bool (((!y16.2) || (decide (n_1 < (1 : Int)))) || (decide ((IntKind.i64.wrap ((100 : Int) * n_1)) < (IntKind.i64.wrap (y11.2.1 * (y16.1.length : Int)))))))]) (H0 := []) rfl (⟨_, _, rfl, rfl, _, _, rfl, rfl, _, _, rfl, rfl, _, _, rfl, rfl, _, _, rfl, rfl, _, _, rfl, rfl, _, _, rfl, rfl, rfl⟩) (rfl) rfl ?_
         refine V.cond rfl (fun hc11 => ?_) (fun hc11 => ?_)
         ·
          replace hm1 := cond_t hc11 hm1
          refine V.seq ?_
          refine V.region ?_
          refine VO.cons rfl (V1.assign rfl rfl rfl lt0 ?_)
          refine VO.nil ?_
          refine V.ret ?_
          obtain rfl := hr1 _ (Option.some.inj hm1).symm
          change some _ = some _ at hm0
          obtain rfl := Option.some.inj hm0
          exact ⟨_, [], ⟨_, _, rfl, rfl, rfl⟩, List.nil_sublist _, rfl, rfl⟩
         ·
          replace hm1 := cond_f hc11 hm1
          refine V.skip ?_
          refine V.region ?_
          refine VO.cons rfl (V1.move rfl rfl rfl lt0 ?_)
          refine VO.cons rfl (V1.int rfl rfl rfl rfl rfl lt0 ?_)
          refine VO.cons rfl (V1.assign rfl rfl rfl lt0 ?_)
          refine VO.nil ?_
          exact ⟨(m1, (IntKind.i64.wrap (i0 + (1 : Int))), ()), hl1 _ (Option.some.inj hm1).symm, Nat.lt_succ_self _, Keeps.mk (ks := []) rfl ⟨rfl, rfl, rfl, rfl, rfl, rfl, trivial⟩ (rfl) rfl⟩
       ·
        replace hm1 := cond_f hc8 hm1
        refine V.exit ?_
        obtain rfl := hr1 _ (Option.some.inj hm1).symm
        exact ⟨((), ()), rfl, Keeps.mk (ks := []) rfl ⟨rfl, trivial⟩ (rfl) rfl⟩
      ·
       rintro ⟨_, _⟩ rfl
       try dsimp only at hm0
       refine V.seq ?_
       replace hm0 := bindO hm0; rcases hm0 with ⟨y19, hh18, hm0⟩
       refine V.region ?_
       refine VO.cons rfl (V1.move rfl rfl rfl lt0 ?_)
       refine VO.cons rfl (V1.call rfl rfl rfl cok_18 rfl (ok_spec_DrawNextSeed hh18) rfl lt0 ?_)
       rintro _ _ ⟨rfl, rfl⟩
       refine VO.cons rfl (V1.move rfl rfl rfl lt0 ?_)
       refine VO.cons rfl (V1.extract rfl rfl rfl rfl lt0 ?_)
       refine VO.cons rfl (V1.extract rfl rfl rfl rfl lt0 ?_)
       refine VO.cons rfl (V1.assign rfl rfl rfl lt0 ?_)
       refine VO.cons rfl (V1.assign rfl rfl rfl lt0 ?_)
       refine VO.nil ?_
       refine V.keep 285 [33, 34] [] (E0 := [(33, .int .i64 y19.1), (34, .int .i64 y19.2)]) (H0 := []) rfl (⟨_, _, rfl, rfl, _, _, rfl, rfl, rfl⟩) (rfl) rfl ?_
       refine V.seq ?_
       replace hm0 := bindO hm0; rcases hm0 with ⟨y20, hh19, hm0⟩
       refine V.region ?_
       refine VO.cons rfl (V1.move rfl rfl rfl lt0 ?_)
       refine VO.cons rfl (V1.move rfl rfl rfl lt0 ?_)
       refine VO.cons rfl (V1.call rfl rfl rfl cok_19 rfl (ok_impl_NextSeed hh19) rfl lt0 ?_)
       rintro _ _ ⟨rfl, rfl⟩
       refine VO.cons rfl (V1.move rfl rfl rfl lt0 ?_)
       refine VO.cons rfl (V1.extract rfl rfl rfl rfl lt0 ?_)
       refine VO.cons rfl (V1.extract rfl rfl rfl rfl lt0 ?_)
       refine VO.cons rfl (V1.assign rfl rfl rfl lt0 ?_)
       refine VO.cons rfl (V1.assign rfl rfl rfl lt0 ?_)
       refine VO.nil ?_
       refine V.keep 285 [33, 34, 35, 36] [] (E0 := [(33, .int .i64 y19.1), (34, .int .i64 y19.2), (35, .int .i64 y20.1), (36, .bool y20.2)]) (H0 := []) rfl (⟨_, _, rfl, rfl, _, _, rfl, rfl, _, _, rfl, rfl, _, _, rfl, rfl, rfl⟩) (rfl) rfl ?_
       refine V.seq ?_
       refine V.seq ?_
       replace hm0 := bindO hm0; rcases hm0 with ⟨y21, hh20, hm0⟩
       refine V.region ?_
       refine VO.cons rfl (V1.move rfl rfl rfl lt0 ?_)
       refine VO.cons rfl (V1.move rfl rfl rfl lt0 ?_)
       refine VO.cons rfl (V1.call rfl rfl rfl cok_20 rfl (ok_spec_NextSeed hh20) rfl lt0 ?_)
       rintro _ _ ⟨rfl, rfl⟩
       refine VO.cons rfl (V1.move rfl rfl rfl lt0 ?_)
       refine VO.cons rfl (V1.extract rfl rfl rfl rfl lt0 ?_)
       refine VO.cons rfl (V1.extract rfl rfl rfl rfl lt0 ?_)
       refine VO.cons rfl (V1.assign rfl rfl rfl lt0 ?_)
       refine VO.cons rfl (V1.assign rfl rfl rfl lt0 ?_)
       refine VO.nil ?_
       refine V.keep 285 [33, 34, 35, 36, 37, 38] [] (E0 := [(33, .int .i64 y19.1), (34, .int .i64 y19.2), (35, .int .i64 y20.1), (36, .bool y20.2), (37, .int .i64 y21.1), (38, .bool y21.2)]) (H0 := []) rfl (⟨_, _, rfl, rfl, _, _, rfl, rfl, _, _, rfl, rfl, _, _, rfl, rfl, _, _, rfl, rfl, _, _, rfl, rfl, rfl⟩) (rfl) rfl ?_
       refine V.seq ?_
       refine V.region ?_
       refine VO.cons rfl (V1.move rfl rfl rfl lt0 ?_)
       refine VO.cons rfl (V1.move rfl rfl rfl lt0 ?_)
       refine VO.cons rfl (V1.int rfl rfl rfl rfl rfl lt0 ?_)
       refine VO.cons rfl (V1.move rfl rfl rfl lt0 ?_)
       apply VO.or (n := 3) rfl rfl rfl rfl rfl rfl lt0 (.none rfl)
       ·
        intro hg12
        refine VO.step (.some rfl rfl rfl) (V1.move rfl rfl rfl lt0 ?_)
        refine VO.step (.some rfl rfl rfl) (V1.move rfl rfl rfl lt0 ?_)
        refine VO.step (.some rfl rfl rfl) (V1.boolNeq rfl rfl und_4 rfl rfl lt0 ?_)
        exact VO.nil ⟨rfl, rfl, rfl, rfl, .inr ⟨rfl, .inr ⟨rfl, .inr ⟨rfl, .inr ⟨rfl, .inl rfl⟩⟩⟩⟩⟩
       refine VO.nil ?_
       refine V.keep 285 [33, 34, 35, 36, 258] [] (E0 := [(33, .int .i64 y19.1), (34, .int .i64 y19.2), (35, .int .i64 y20.1), (36, .bool y20.2), (258, .bool ((y20.1 != y21.1) || (!(y20.2 == y21.2))))]) (H0 := []) rfl (⟨_, _, rfl, rfl, _, _, rfl, rfl, _, _, rfl, rfl, _, _, rfl, rfl, _, _, rfl, rfl, rfl⟩) (rfl) rfl ?_
       refine V.cond rfl (fun hc12 => ?_) (fun hc12 => ?_)
       ·
        replace hm0 := cond_t hc12 hm0
        refine V.seq ?_
        refine V.region ?_
        refine VO.cons rfl (V1.assign rfl rfl rfl lt0 ?_)
        refine VO.nil ?_
        refine V.ret ?_
        obtain rfl := Option.some.inj hm0
        exact ⟨_, [], ⟨_, _, rfl, rfl, rfl⟩, List.nil_sublist _, rfl, rfl⟩
       ·
        replace hm0 := cond_f hc12 hm0
        refine V.skip ?_
        refine V.seq ?_
        refine V.seq ?_
        refine V.region ?_
        refine VO.cons rfl (V1.move rfl rfl rfl lt0 ?_)
        refine VO.cons rfl (V1.move rfl rfl rfl lt0 ?_)
        apply VO.and (n := 2) rfl rfl rfl rfl rfl rfl lt0 (.none rfl)
        ·
         intro hg13
         refine VO.step (.some rfl rfl rfl) (V1.move rfl rfl rfl lt0 ?_)
         refine VO.step (.some rfl rfl rfl) (V1.int rfl rfl rfl rfl rfl lt0 ?_)
         exact VO.nil ⟨rfl, rfl, rfl, rfl, .inr ⟨rfl, .inr ⟨rfl, .inr ⟨rfl, .inl rfl⟩⟩⟩⟩
        refine VO.nil ?_
        refine V.keep 285 [33, 34, 35, 263] [] (E0 := [(33, .int .i64 y19.1), (34, .int .i64 y19.2), (35, .int .i64 y20.1), (263, .bool (y20.2 && (decide (y19.2 > (0 : Int)))))]) (H0 := []) rfl (⟨_, _, rfl, rfl, _, _, rfl, rfl, _, _, rfl, rfl, _, _, rfl, rfl, rfl⟩) (rfl) rfl ?_
        refine V.cond rfl (fun hc13 => ?_) (fun hc13 => ?_)
        ·
         replace hm0 := cond_t hc13 hm0
         refine V.seq ?_
         replace hm0 := bindO hm0; rcases hm0 with ⟨y22, hh21, hm0⟩
         refine V.region ?_
         refine VO.cons rfl (V1.move rfl rfl rfl lt0 ?_)
         refine VO.cons rfl (V1.move rfl rfl rfl lt0 ?_)
         refine VO.cons rfl (V1.int rfl rfl rfl rfl rfl lt0 ?_)
         refine VO.cons rfl (V1.call rfl rfl rfl cok_19 rfl (ok_impl_NextSeed hh21) rfl lt0 ?_)
         rintro _ _ ⟨rfl, rfl⟩
         refine VO.cons rfl (V1.move rfl rfl rfl lt0 ?_)
         refine VO.cons rfl (V1.extract rfl rfl rfl rfl lt0 ?_)
         refine VO.cons rfl (V1.extract rfl rfl rfl rfl lt0 ?_)
         refine VO.cons rfl (V1.assign rfl rfl rfl lt0 ?_)
         refine VO.cons rfl (V1.assign rfl rfl rfl lt0 ?_)
         refine VO.nil ?_
         refine V.keep 285 [35, 39, 40] [] (E0 := [(35, .int .i64 y20.1), (39, .int .i64 y22.1), (40, .bool y22.2)]) (H0 := []) rfl (⟨_, _, rfl, rfl, _, _, rfl, rfl, _, _, rfl, rfl, rfl⟩) (rfl) rfl ?_
         refine V.seq ?_
         replace hm0 := bindO hm0; rcases hm0 with ⟨y23, hh22, hm0⟩
         refine V.region ?_
         refine VO.cons rfl (V1.move rfl rfl rfl lt0 ?_)
         refine VO.cons rfl (V1.call rfl rfl rfl cok_19 rfl (ok_impl_NextSeed hh22) rfl lt0 ?_)
         rintro _ _ ⟨rfl, rfl⟩
         refine VO.cons rfl (V1.move rfl rfl rfl lt0 ?_)
         refine VO.cons rfl (V1.extract rfl rfl rfl rfl lt0 ?_)
         refine VO.cons rfl (V1.extract rfl rfl rfl rfl lt0 ?_)
         refine VO.cons rfl (V1.assign rfl rfl rfl lt0 ?_)
         refine VO.cons rfl (V1.assign rfl rfl rfl lt0 ?_)
         refine VO.nil ?_
         refine V.keep 285 [35, 40, 41, 42] [] (E0 := [(35, .int .i64 y20.1), (40, .bool y22.2), (41, .int .i64 y23.1), (42, .bool y23.2)]) (H0 := []) rfl (⟨_, _, rfl, rfl, _, _, rfl, rfl, _, _, rfl, rfl, _, _, rfl, rfl, rfl⟩) (rfl) rfl ?_
         refine V.seq ?_
         refine V.region ?_
         refine VO.cons rfl (V1.move rfl rfl rfl lt0 ?_)
         refine VO.cons rfl (V1.move rfl rfl rfl lt0 ?_)
         apply VO.and (n := 1) rfl rfl rfl rfl rfl rfl lt0 (.none rfl)
         ·
          intro hg14
          refine VO.step (.some rfl rfl rfl) (V1.move rfl rfl rfl lt0 ?_)
          exact VO.nil ⟨rfl, rfl, rfl, rfl, .inr ⟨rfl, .inr ⟨rfl, .inl rfl⟩⟩⟩
         refine VO.cons rfl (V1.move rfl rfl rfl lt0 ?_)
         apply VO.and (n := 3) rfl rfl rfl rfl rfl rfl lt0 (.none rfl)
         ·
          intro hg15
          refine VO.step (.some rfl rfl rfl) (V1.move rfl rfl rfl lt0 ?_)
          refine VO.step (.some rfl rfl rfl) (V1.move rfl rfl rfl lt0 ?_)
          refine VO.step (.some rfl rfl rfl) (V1.int rfl rfl rfl rfl rfl lt0 ?_)
          exact VO.nil ⟨rfl, rfl, rfl, rfl, .inr ⟨rfl, .inr ⟨rfl, .inr ⟨rfl, .inr ⟨rfl, .inl rfl⟩⟩⟩⟩⟩
         refine VO.cons rfl (V1.assign rfl rfl rfl lt0 ?_)
         refine VO.nil ?_
         refine V.ret ?_
         obtain rfl := Option.some.inj hm0
         exact ⟨_, [], ⟨_, _, rfl, rfl, rfl⟩, List.nil_sublist _, rfl, rfl⟩
        ·
         replace hm0 := cond_f hc13 hm0
         refine V.skip ?_
         refine V.keep 285 [] [] (E0 := []) (H0 := []) rfl (rfl) (rfl) rfl ?_
         refine V.seq ?_
         refine V.region ?_
         refine VO.cons rfl (V1.assign rfl rfl rfl lt0 ?_)
         refine VO.nil ?_
         refine V.ret ?_
         obtain rfl := Option.some.inj hm0
         exact ⟨_, [], ⟨_, _, rfl, rfl, rfl⟩, List.nil_sublist _, rfl, rfl⟩
end Go.Proofs.Yteocnbeefedbkaa
