/- the functions do what their models say -/
import Derived.Test.YteocnbeefedbkaaQs2
set_option linter.unusedSimpArgs false
set_option linter.unusedVariables false
set_option maxRecDepth 100000
set_option maxHeartbeats 4000000
namespace Go.Proofs.Yteocnbeefedbkaa
open Go.VS

theorem ok_impl_taken {ρ0 rn : Nat} {list : List Int} {n : Int} {seed : Int} {r : List Int × Int} (h : M.impl_taken list n seed = some r) : Does Try.prog 35 [.vl ρ0 1 (List.map encInt list), .int .i64 n, .int .i64 seed] [] rn (fun x H => ∃ (ob0_ : Option Nat), (ob0_ = none → r.1 = []) ∧ x = .tup [optS 1 ob0_ (List.length r.1), .int .i64 r.2] ∧ H = optH 1 ob0_ (List.map encInt r.1)) := by
 have hm0 := h; clear h; unfold M.impl_taken at hm0
 try dsimp only at hm0
 refine Does.intro (N := 37) Try.func35 rfl rfl rfl rfl ?_
 intro w0 S0 L0
 refine V.seq ?_
 refine V.region ?_
 refine VO.cons rfl (V1.assign rfl rfl rfl lt0 ?_)
 refine VO.cons rfl (V1.assign rfl rfl rfl lt0 ?_)
 refine VO.nil ?_
 refine V.seq ?_
 replace hm0 := bindO hm0; rcases hm0 with ⟨y0, hh0, hm0⟩
 refine V.region ?_
 refine VO.cons rfl (V1.move rfl rfl rfl lt0 ?_)
 refine VO.cons rfl (V1.permK (V1.call rfl rfl rfl cok_52 rfl (ok_slices_Clone_int_int hh0) rfl lt0 ?_))
 rintro _ _ ⟨ob0, hob0, rfl, rfl⟩
 refine ⟨_, ?_, Keeps.optBack (n := 1) (ob := ob0) (xs := List.map encInt y0) (H1 := []) (H2 := []) rfl⟩
 refine VO.cons rfl (V1.assign rfl rfl rfl lt0 ?_)
 refine VO.nil ?_
 rcases ob0 with _ | ob0
 ·
  refine V.keep 37 [1, 2, 8] [] (E0 := [(1, .int .i64 n), (2, .int .i64 seed), (8, .nils)]) (H0 := []) rfl (⟨_, _, rfl, rfl, _, _, rfl, rfl, _, _, rfl, rfl, rfl⟩) (rfl) rfl ?_
  refine V.seq ?_
  refine V.region ?_
  refine VO.cons rfl (V1.assign rfl rfl rfl lt0 ?_)
  refine VO.nil ?_
  refine V.seq ?_
  refine V.seq ?_
  refine V.region ?_
  refine VO.cons rfl (V1.move rfl rfl rfl lt0 ?_)
  refine VO.cons rfl (V1.move rfl rfl rfl lt0 ?_)
  refine VO.nil ?_
  replace hm0 := bindO hm0; rcases hm0 with ⟨e0, he1, hm0⟩
  refine V.cutT (D := (Int × List Int) × (Option Nat)) (fun ⟨⟨seed0, out_⟩, ob1⟩ => ⟨37, [(2, .int .i64 seed0), (9, optS 1 ob1 (List.length out_))], optH 1 ob1 (List.map encInt out_)⟩) (fun ⟨⟨seed0, out_⟩, ob1⟩ => ((seed0, out_) = e0) ∧ (ob1 = none → out_ = [])) ?_ ?_
  ·
   refine V.block ?_
   refine V.keep 37 [2, 8, 9, 14, 13] [] (E0 := [(2, .int .i64 seed), (8, .nils), (9, .nils), (14, .int .i64 (0 : Int)), (13, .int .i64 n)]) (H0 := []) rfl (⟨_, _, rfl, rfl, _, _, rfl, rfl, _, _, rfl, rfl, _, _, rfl, rfl, _, _, rfl, rfl, rfl⟩) (rfl) rfl ?_
   refine V.loopE (D := Nat × (Int × List Int × List Int × Int) × (Option Nat × Option Nat)) (fun ⟨n0, ⟨seed1, left, out_0, v⟩, ⟨ob2, ob3⟩⟩ => [(2, .int .i64 seed1), (8, optS 1 ob2 (List.length left)), (9, optS 1 ob3 (List.length out_0)), (14, .int .i64 v)]) (fun ⟨n0, ⟨seed1, left, out_0, v⟩, ⟨ob2, ob3⟩⟩ => optH 1 ob2 (List.map encInt left) ++ optH 1 ob3 (List.map encInt out_0)) (fun ⟨n0, ⟨seed1, left, out_0, v⟩, ⟨ob2, ob3⟩⟩ => loopO (M.impl_taken_l0 n) n0 (seed1, left, out_0, v) = some e0 ∧ (ob2 = none → left = []) ∧ (ob3 = none → out_0 = [])) (fun ⟨n0, _, _⟩ => n0) (rounds, (seed, y0, ([] : List Int), (0 : Int)), (none, none)) rfl ⟨he1, (fun _ => (hob0 rfl)), (fun _ => rfl)⟩ ?_
   rintro ⟨n0, ⟨seed1, left, out_0, v⟩, ⟨ob2, ob3⟩⟩ ⟨hP0, hob2, hob3⟩
   obtain ⟨m0, y1, rfl, hm1, hl1, hr1⟩ := loop_head hP0
   unfold M.impl_taken_l0 at hm1; dsimp only at hm1
   rcases ob2 with _ | ob2
   ·
    replace hob2 := hob2 rfl
    rcases ob3 with _ | ob3
    ·
     replace hob3 := hob3 rfl
     show V _ _ _ ⟨37, [(2, .int .i64 seed1), (8, .nils), (9, .nils), (14, .int .i64 v), (13, .int .i64 n)], []⟩
     refine V.seq ?_
     refine V.region ?_
     refine VO.cons rfl (V1.int rfl rfl rfl rfl rfl lt0 ?_)
     refine VO.nil ?_
     refine V.seq ?_
     refine V.cond rfl (fun hc0 => ?_) (fun hc0 => ?_)
     ·
      replace hm1 := cond_t hc0 hm1
      refine V.skip ?_
      refine V.seq ?_
      refine V.block ?_
      refine V.seq ?_
      replace hm1 := asrt_some hm1; rcases hm1 with ⟨hh1, hm1⟩
      refine V.region ?_
      refine VO.cons rfl (V1.move rfl rfl rfl lt0 ?_)
      refine VO.cons rfl (V1.move rfl rfl rfl lt0 ?_)
      refine VO.cons rfl (V1.lenNilsE (l := left) hob2 rfl rfl rfl rfl rfl rfl isl_24 lt0 ?_)
      refine VO.cons rfl (V1.rem rfl rfl rfl rfl (hh1) lt0 ?_)
      refine VO.cons rfl (V1.assign rfl rfl rfl lt0 ?_)
      refine VO.nil ?_
      refine V.keep 37 [2, 8, 9, 10, 13, 14] [] (E0 := [(2, .int .i64 seed1), (8, .nils), (9, .nils), (10, .int .i64 (Int.tmod seed1 (left.length : Int))), (13, .int .i64 n), (14, .int .i64 v)]) (H0 := []) rfl (⟨_, _, rfl, rfl, _, _, rfl, rfl, _, _, rfl, rfl, _, _, rfl, rfl, _, _, rfl, rfl, _, _, rfl, rfl, rfl⟩) (rfl) rfl ?_
      refine V.seq ?_
      replace hm1 := asrt_some hm1; rcases hm1 with ⟨hh2, hm1⟩
      replace hm1 := asrt_some hm1; rcases hm1 with ⟨hh3, hm1⟩
      refine V.region ?_
      refine VO.cons rfl (V1.move rfl rfl rfl lt0 ?_)
      refine VO.cons rfl (V1.move rfl rfl rfl lt0 ?_)
      refine VO.cons rfl (V1.move rfl rfl rfl lt0 ?_)
      refine VO.weakenK (Keeps.nilsE (l := left) 21 rn 1 encInt hob2 rfl rfl) ?_
      refine VO.cons rfl (V1.indexI rfl rfl esz_24 rfl rfl hh2 lt0 ?_)
      refine VO.cons rfl (V1.loadPin rfl rfl tyk_3 rfl rfl lt0 ?_)
      refine VO.cons rfl (V1.buildSliceT (f := encInt) ([(left.getD (Int.toNat (Int.tmod seed1 (left.length : Int))) default)] : List Int) rfl rfl esz_24 zk_3 rfl rfl rfl rfl rfl rfl rfl lt0 ?_)
      intro b0
      refine VO.cons rfl (V1.appendNilE (f := encInt) (l := out_0) (m := ([(left.getD (Int.toNat (Int.tmod seed1 (left.length : Int))) default)] : List Int)) hob3 rfl rfl rfl rfl rfl esz_24 eby_24 zk_3 rfl rfl rfl (SrcOf.srMap (k := 0) rfl isl_24) rfl hh3 lt0 ?_)
      intro b1
      refine VO.cons rfl (V1.assign rfl rfl rfl lt0 ?_)
      refine VO.nil ?_
      refine V.keep 37 [2, 8, 9, 10, 13, 14] [0] (E0 := [(2, .int .i64 seed1), (8, .nils), (9, .sref b1 1 0 (List.length (out_0 ++ ([(left.getD (Int.toNat (Int.tmod seed1 (left.length : Int))) default)] : List Int)))), (10, .int .i64 (Int.tmod seed1 (left.length : Int))), (13, .int .i64 n), (14, .int .i64 v)]) (H0 := [(b1, ⟨1, List.map encInt (out_0 ++ ([(left.getD (Int.toNat (Int.tmod seed1 (left.length : Int))) default)] : List Int))⟩)]) rfl (⟨_, _, rfl, rfl, _, _, rfl, rfl, _, _, rfl, rfl, _, _, rfl, rfl, _, _, rfl, rfl, _, _, rfl, rfl, rfl⟩) (⟨_, _, rfl, rfl, rfl⟩) rfl ?_
      refine V.seq ?_
      replace hm1 := bindO hm1; rcases hm1 with ⟨y2, hh4, hm1⟩
      refine V.region ?_
      refine VO.cons rfl (V1.move rfl rfl rfl lt0 ?_)
      refine VO.cons rfl (V1.move rfl rfl rfl lt0 ?_)
      refine VO.cons rfl (V1.move rfl rfl rfl lt0 ?_)
      refine VO.cons rfl (V1.int rfl rfl rfl rfl rfl lt0 ?_)
      refine VO.cons rfl (V1.permK (V1.call rfl rfl rfl cok_53 rfl (ok_slices_Delete_int_int hh4 (oq := none) (s := left) (fun _ => hob2)) rfl lt0 ?_))
      rintro _ _ ⟨ob4, hob4, rfl, rfl⟩
      refine ⟨_, ?_, Keeps.optBack (n := 1) (ob := ob4) (xs := List.map encInt y2) (H1 := []) (H2 := [(b1, ⟨1, List.map encInt (out_0 ++ ([(left.getD (Int.toNat (Int.tmod seed1 (left.length : Int))) default)] : List Int))⟩)]) rfl⟩
      refine VO.cons rfl (V1.assign rfl rfl rfl lt0 ?_)
      refine VO.nil ?_
      rcases ob4 with _ | ob4
      ·
       refine V.keep 37 [2, 8, 9, 13, 14] [0] (E0 := [(2, .int .i64 seed1), (8, .nils), (9, .sref b1 1 0 (List.length (out_0 ++ ([(left.getD (Int.toNat (Int.tmod seed1 (left.length : Int))) default)] : List Int)))), (13, .int .i64 n), (14, .int .i64 v)]) (H0 := [(b1, ⟨1, List.map encInt (out_0 ++ ([(left.getD (Int.toNat (Int.tmod seed1 (left.length : Int))) default)] : List Int))⟩)]) rfl (⟨_, _, rfl, rfl, _, _, rfl, rfl, _, _, rfl, rfl, _, _, rfl, rfl, _, _, rfl, rfl, rfl⟩) (⟨_, _, rfl, rfl, rfl⟩) rfl ?_
       replace hm1 := bindO hm1; rcases hm1 with ⟨y3, hh5, hm1⟩
       refine V.region ?_
       refine VO.cons rfl (V1.move rfl rfl rfl lt0 ?_)
       refine VO.cons rfl (V1.call rfl rfl rfl cok_43 rfl (ok_impl_nextSeed hh5) rfl lt0 ?_)
       rintro _ _ ⟨rfl, rfl⟩
       refine VO.cons rfl (V1.assign rfl rfl rfl lt0 ?_)
       refine VO.nil ?_
       refine V.region ?_
       refine VO.cons rfl (V1.int rfl rfl rfl rfl rfl lt0 ?_)
       refine VO.cons rfl (V1.move rfl rfl rfl lt0 ?_)
       refine VO.nil ?_
       exact ⟨(m0, (y3, y2, (out_0 ++ ([(left.getD (Int.toNat (Int.tmod seed1 (left.length : Int))) default)] : List Int)), (IntKind.i64.wrap (v + (1 : Int)))), (none, (some b1))), ⟨hl1 _ (Option.some.inj hm1).symm, (fun _ => (hob4 rfl)), (fun e => by cases e)⟩, Nat.lt_succ_self _, Keeps.mk (ks := [0]) rfl ⟨rfl, rfl, rfl, rfl, rfl, trivial⟩ (⟨_, _, rfl, rfl, rfl⟩) rfl⟩
      ·
       refine V.keep 37 [2, 8, 9, 13, 14] [0, 1] (E0 := [(2, .int .i64 seed1), (8, .sref ob4 1 0 (List.length y2)), (9, .sref b1 1 0 (List.length (out_0 ++ ([(left.getD (Int.toNat (Int.tmod seed1 (left.length : Int))) default)] : List Int)))), (13, .int .i64 n), (14, .int .i64 v)]) (H0 := [(b1, ⟨1, List.map encInt (out_0 ++ ([(left.getD (Int.toNat (Int.tmod seed1 (left.length : Int))) default)] : List Int))⟩), (ob4, ⟨1, List.map encInt y2⟩)]) rfl (⟨_, _, rfl, rfl, _, _, rfl, rfl, _, _, rfl, rfl, _, _, rfl, rfl, _, _, rfl, rfl, rfl⟩) (⟨_, _, rfl, rfl, _, _, rfl, rfl, rfl⟩) rfl ?_
       replace hm1 := bindO hm1; rcases hm1 with ⟨y3, hh5, hm1⟩
       refine V.region ?_
       refine VO.cons rfl (V1.move rfl rfl rfl lt0 ?_)
       refine VO.cons rfl (V1.call rfl rfl rfl cok_43 rfl (ok_impl_nextSeed hh5) rfl lt0 ?_)
       rintro _ _ ⟨rfl, rfl⟩
       refine VO.cons rfl (V1.assign rfl rfl rfl lt0 ?_)
       refine VO.nil ?_
       refine V.region ?_
       refine VO.cons rfl (V1.int rfl rfl rfl rfl rfl lt0 ?_)
       refine VO.cons rfl (V1.move rfl rfl rfl lt0 ?_)
       refine VO.nil ?_
       exact ⟨(m0, (y3, y2, (out_0 ++ ([(left.getD (Int.toNat (Int.tmod seed1 (left.length : Int))) default)] : List Int)), (IntKind.i64.wrap (v + (1 : Int)))), ((some ob4), (some b1))), ⟨hl1 _ (Option.some.inj hm1).symm, (fun e => by cases e), (fun e => by cases e)⟩, Nat.lt_succ_self _, Keeps.mk (ks := [1, 0]) rfl ⟨rfl, rfl, rfl, rfl, rfl, trivial⟩ (⟨_, _, rfl, rfl, _, _, rfl, rfl, rfl⟩) rfl⟩
     ·
      replace hm1 := cond_f hc0 hm1
      refine V.exit ?_
      obtain rfl := hr1 _ (Option.some.inj hm1).symm
      exact ⟨((seed1, out_0), none), ⟨rfl, (fun _ => hob3)⟩, Keeps.mk (ks := []) rfl ⟨rfl, rfl, trivial⟩ (rfl) rfl⟩
    ·
     show V _ _ _ ⟨37, [(2, .int .i64 seed1), (8, .nils), (9, .sref ob3 1 0 (List.length out_0)), (14, .int .i64 v), (13, .int .i64 n)], [(ob3, ⟨1, List.map encInt out_0⟩)]⟩
     refine V.seq ?_
     refine V.region ?_
     refine VO.cons rfl (V1.int rfl rfl rfl rfl rfl lt0 ?_)
     refine VO.nil ?_
     refine V.seq ?_
     refine V.cond rfl (fun hc0 => ?_) (fun hc0 => ?_)
     ·
      replace hm1 := cond_t hc0 hm1
      refine V.skip ?_
      refine V.seq ?_
      refine V.block ?_
      refine V.seq ?_
      replace hm1 := asrt_some hm1; rcases hm1 with ⟨hh1, hm1⟩
      refine V.region ?_
      refine VO.cons rfl (V1.move rfl rfl rfl lt0 ?_)
      refine VO.cons rfl (V1.move rfl rfl rfl lt0 ?_)
      refine VO.cons rfl (V1.lenNilsE (l := left) hob2 rfl rfl rfl rfl rfl rfl isl_24 lt0 ?_)
      refine VO.cons rfl (V1.rem rfl rfl rfl rfl (hh1) lt0 ?_)
      refine VO.cons rfl (V1.assign rfl rfl rfl lt0 ?_)
      refine VO.nil ?_
      refine V.keep 37 [2, 8, 9, 10, 13, 14] [0] (E0 := [(2, .int .i64 seed1), (8, .nils), (9, .sref ob3 1 0 (List.length out_0)), (10, .int .i64 (Int.tmod seed1 (left.length : Int))), (13, .int .i64 n), (14, .int .i64 v)]) (H0 := [(ob3, ⟨1, List.map encInt out_0⟩)]) rfl (⟨_, _, rfl, rfl, _, _, rfl, rfl, _, _, rfl, rfl, _, _, rfl, rfl, _, _, rfl, rfl, _, _, rfl, rfl, rfl⟩) (⟨_, _, rfl, rfl, rfl⟩) rfl ?_
      refine V.seq ?_
      replace hm1 := asrt_some hm1; rcases hm1 with ⟨hh2, hm1⟩
      replace hm1 := asrt_some hm1; rcases hm1 with ⟨hh3, hm1⟩
      refine V.region ?_
      refine VO.cons rfl (V1.move rfl rfl rfl lt0 ?_)
      refine VO.cons rfl (V1.move rfl rfl rfl lt0 ?_)
      refine VO.cons rfl (V1.move rfl rfl rfl lt0 ?_)
      refine VO.weakenK (Keeps.nilsE (l := left) 21 rn 1 encInt hob2 rfl rfl) ?_
      refine VO.cons rfl (V1.indexI rfl rfl esz_24 rfl rfl hh2 lt0 ?_)
      refine VO.cons rfl (V1.loadPin rfl rfl tyk_3 rfl rfl lt0 ?_)
      refine VO.cons rfl (V1.buildSliceT (f := encInt) ([(left.getD (Int.toNat (Int.tmod seed1 (left.length : Int))) default)] : List Int) rfl rfl esz_24 zk_3 rfl rfl rfl rfl rfl rfl rfl lt0 ?_)
      intro b0
      refine VO.cons rfl (V1.appendMap (k := 1) (f := encInt) (l := out_0) (m := ([(left.getD (Int.toNat (Int.tmod seed1 (left.length : Int))) default)] : List Int)) rfl rfl rfl rfl rfl esz_24 eby_24 zk_3 rfl rfl rfl (SrcOf.srMap (k := 0) rfl isl_24) hh3 lt0 ?_)
      intro b1
      refine VO.cons rfl (V1.assign rfl rfl rfl lt0 ?_)
      refine VO.nil ?_
      refine V.keep 37 [2, 8, 9, 10, 13, 14] [0] (E0 := [(2, .int .i64 seed1), (8, .nils), (9, .sref b1 1 0 (List.length (out_0 ++ ([(left.getD (Int.toNat (Int.tmod seed1 (left.length : Int))) default)] : List Int)))), (10, .int .i64 (Int.tmod seed1 (left.length : Int))), (13, .int .i64 n), (14, .int .i64 v)]) (H0 := [(b1, ⟨1, List.map encInt (out_0 ++ ([(left.getD (Int.toNat (Int.tmod seed1 (left.length : Int))) default)] : List Int))⟩)]) rfl (⟨_, _, rfl, rfl, _, _, rfl, rfl, _, _, rfl, rfl, _, _, rfl, rfl, _, _, rfl, rfl, _, _, rfl, rfl, rfl⟩) (⟨_, _, rfl, rfl, rfl⟩) rfl ?_
      refine V.seq ?_
      replace hm1 := bindO hm1; rcases hm1 with ⟨y2, hh4, hm1⟩
      refine V.region ?_
      refine VO.cons rfl (V1.move rfl rfl rfl lt0 ?_)
      refine VO.cons rfl (V1.move rfl rfl rfl lt0 ?_)
      refine VO.cons rfl (V1.move rfl rfl rfl lt0 ?_)
      refine VO.cons rfl (V1.int rfl rfl rfl rfl rfl lt0 ?_)
      refine VO.cons rfl (V1.permK (V1.call rfl rfl rfl cok_53 rfl (ok_slices_Delete_int_int hh4 (oq := none) (s := left) (fun _ => hob2)) rfl lt0 ?_))
      rintro _ _ ⟨ob4, hob4, rfl, rfl⟩
      refine ⟨_, ?_, Keeps.optBack (n := 1) (ob := ob4) (xs := List.map encInt y2) (H1 := []) (H2 := [(b1, ⟨1, List.map encInt (out_0 ++ ([(left.getD (Int.toNat (Int.tmod seed1 (left.length : Int))) default)] : List Int))⟩)]) rfl⟩
      refine VO.cons rfl (V1.assign rfl rfl rfl lt0 ?_)
      refine VO.nil ?_
      rcases ob4 with _ | ob4
      ·
       refine V.keep 37 [2, 8, 9, 13, 14] [0] (E0 := [(2, .int .i64 seed1), (8, .nils), (9, .sref b1 1 0 (List.length (out_0 ++ ([(left.getD (Int.toNat (Int.tmod seed1 (left.length : Int))) default)] : List Int)))), (13, .int .i64 n), (14, .int .i64 v)]) (H0 := [(b1, ⟨1, List.map encInt (out_0 ++ ([(left.getD (Int.toNat (Int.tmod seed1 (left.length : Int))) default)] : List Int))⟩)]) rfl (⟨_, _, rfl, rfl, _, _, rfl, rfl, _, _, rfl, rfl, _, _, rfl, rfl, _, _, rfl, rfl, rfl⟩) (⟨_, _, rfl, rfl, rfl⟩) rfl ?_
       replace hm1 := bindO hm1; rcases hm1 with ⟨y3, hh5, hm1⟩
       refine V.region ?_
       refine VO.cons rfl (V1.move rfl rfl rfl lt0 ?_)
       refine VO.cons rfl (V1.call rfl rfl rfl cok_43 rfl (ok_impl_nextSeed hh5) rfl lt0 ?_)
       rintro _ _ ⟨rfl, rfl⟩
       refine VO.cons rfl (V1.assign rfl rfl rfl lt0 ?_)
       refine VO.nil ?_
       refine V.region ?_
       refine VO.cons rfl (V1.int rfl rfl rfl rfl rfl lt0 ?_)
       refine VO.cons rfl (V1.move rfl rfl rfl lt0 ?_)
       refine VO.nil ?_
       exact ⟨(m0, (y3, y2, (out_0 ++ ([(left.getD (Int.toNat (Int.tmod seed1 (left.length : Int))) default)] : List Int)), (IntKind.i64.wrap (v + (1 : Int)))), (none, (some b1))), ⟨hl1 _ (Option.some.inj hm1).symm, (fun _ => (hob4 rfl)), (fun e => by cases e)⟩, Nat.lt_succ_self _, Keeps.mk (ks := [0]) rfl ⟨rfl, rfl, rfl, rfl, rfl, trivial⟩ (⟨_, _, rfl, rfl, rfl⟩) rfl⟩
      ·
       refine V.keep 37 [2, 8, 9, 13, 14] [0, 1] (E0 := [(2, .int .i64 seed1), (8, .sref ob4 1 0 (List.length y2)), (9, .sref b1 1 0 (List.length (out_0 ++ ([(left.getD (Int.toNat (Int.tmod seed1 (left.length : Int))) default)] : List Int)))), (13, .int .i64 n), (14, .int .i64 v)]) (H0 := [(b1, ⟨1, List.map encInt (out_0 ++ ([(left.getD (Int.toNat (Int.tmod seed1 (left.length : Int))) default)] : List Int))⟩), (ob4, ⟨1, List.map encInt y2⟩)]) rfl (⟨_, _, rfl, rfl, _, _, rfl, rfl, _, _, rfl, rfl, _, _, rfl, rfl, _, _, rfl, rfl, rfl⟩) (⟨_, _, rfl, rfl, _, _, rfl, rfl, rfl⟩) rfl ?_
       replace hm1 := bindO hm1; rcases hm1 with ⟨y3, hh5, hm1⟩
       refine V.region ?_
       refine VO.cons rfl (V1.move rfl rfl rfl lt0 ?_)
       refine VO.cons rfl (V1.call rfl rfl rfl cok_43 rfl (ok_impl_nextSeed hh5) rfl lt0 ?_)
       rintro _ _ ⟨rfl, rfl⟩
       refine VO.cons rfl (V1.assign rfl rfl rfl lt0 ?_)
       refine VO.nil ?_
       refine V.region ?_
       refine VO.cons rfl (V1.int rfl rfl rfl rfl rfl lt0 ?_)
       refine VO.cons rfl (V1.move rfl rfl rfl lt0 ?_)
       refine VO.nil ?_
       exact ⟨(m0, (y3, y2, (out_0 ++ ([(left.getD (Int.toNat (Int.tmod seed1 (left.length : Int))) default)] : List Int)), (IntKind.i64.wrap (v + (1 : Int)))), ((some ob4), (some b1))), ⟨hl1 _ (Option.some.inj hm1).symm, (fun e => by cases e), (fun e => by cases e)⟩, Nat.lt_succ_self _, Keeps.mk (ks := [1, 0]) rfl ⟨rfl, rfl, rfl, rfl, rfl, trivial⟩ (⟨_, _, rfl, rfl, _, _, rfl, rfl, rfl⟩) rfl⟩
     ·
      replace hm1 := cond_f hc0 hm1
      refine V.exit ?_
      obtain rfl := hr1 _ (Option.some.inj hm1).symm
      exact ⟨((seed1, out_0), (some ob3)), ⟨rfl, (fun e => by cases e)⟩, Keeps.mk (ks := [0]) rfl ⟨rfl, rfl, trivial⟩ (⟨_, _, rfl, rfl, rfl⟩) rfl⟩
   ·
    rcases ob3 with _ | ob3
    ·
     replace hob3 := hob3 rfl
     show V _ _ _ ⟨37, [(2, .int .i64 seed1), (8, .sref ob2 1 0 (List.length left)), (9, .nils), (14, .int .i64 v), (13, .int .i64 n)], [(ob2, ⟨1, List.map encInt left⟩)]⟩
     refine V.seq ?_
     refine V.region ?_
     refine VO.cons rfl (V1.int rfl rfl rfl rfl rfl lt0 ?_)
     refine VO.nil ?_
     refine V.seq ?_
     refine V.cond rfl (fun hc0 => ?_) (fun hc0 => ?_)
     ·
      replace hm1 := cond_t hc0 hm1
      refine V.skip ?_
      refine V.seq ?_
      refine V.block ?_
      refine V.seq ?_
      replace hm1 := asrt_some hm1; rcases hm1 with ⟨hh1, hm1⟩
      refine V.region ?_
      refine VO.cons rfl (V1.move rfl rfl rfl lt0 ?_)
      refine VO.cons rfl (V1.move rfl rfl rfl lt0 ?_)
      refine VO.cons rfl (V1.lenSref rfl rfl rfl rfl rfl rfl isl_24 lt0 ?_)
      refine VO.cons rfl (V1.rem rfl rfl rfl rfl (hh1) lt0 ?_)
      refine VO.cons rfl (V1.assign rfl rfl rfl lt0 ?_)
      refine VO.nil ?_
      refine V.keep 37 [2, 8, 9, 10, 13, 14] [0] (E0 := [(2, .int .i64 seed1), (8, .sref ob2 1 0 (List.length left)), (9, .nils), (10, .int .i64 (Int.tmod seed1 (left.length : Int))), (13, .int .i64 n), (14, .int .i64 v)]) (H0 := [(ob2, ⟨1, List.map encInt left⟩)]) rfl (⟨_, _, rfl, rfl, _, _, rfl, rfl, _, _, rfl, rfl, _, _, rfl, rfl, _, _, rfl, rfl, _, _, rfl, rfl, rfl⟩) (⟨_, _, rfl, rfl, rfl⟩) rfl ?_
      refine V.seq ?_
      replace hm1 := asrt_some hm1; rcases hm1 with ⟨hh2, hm1⟩
      replace hm1 := asrt_some hm1; rcases hm1 with ⟨hh3, hm1⟩
      refine V.region ?_
      refine VO.cons rfl (V1.move rfl rfl rfl lt0 ?_)
      refine VO.cons rfl (V1.move rfl rfl rfl lt0 ?_)
      refine VO.cons rfl (V1.move rfl rfl rfl lt0 ?_)
      refine VO.cons rfl (V1.indexSr rfl rfl esz_24 rfl rfl hh2 lt0 ?_)
      refine VO.cons rfl (V1.loadMap (k := 0) (f := encInt) rfl rfl tyk_3 rfl rfl (by simpa using natLt hh2.1 hh2.2) rfl lt0 ?_)
      refine VO.cons rfl (V1.buildSliceT (f := encInt) ([(left.getD (Int.toNat (Int.tmod seed1 (left.length : Int))) default)] : List Int) rfl rfl esz_24 zk_3 rfl rfl rfl rfl rfl rfl rfl lt0 ?_)
      intro b0
      refine VO.cons rfl (V1.appendNilE (f := encInt) (l := out_0) (m := ([(left.getD (Int.toNat (Int.tmod seed1 (left.length : Int))) default)] : List Int)) hob3 rfl rfl rfl rfl rfl esz_24 eby_24 zk_3 rfl rfl rfl (SrcOf.srMap (k := 0) rfl isl_24) rfl hh3 lt0 ?_)
      intro b1
      refine VO.cons rfl (V1.assign rfl rfl rfl lt0 ?_)
      refine VO.nil ?_
      refine V.keep 37 [2, 8, 9, 10, 13, 14] [0, 2] (E0 := [(2, .int .i64 seed1), (8, .sref ob2 1 0 (List.length left)), (9, .sref b1 1 0 (List.length (out_0 ++ ([(left.getD (Int.toNat (Int.tmod seed1 (left.length : Int))) default)] : List Int)))), (10, .int .i64 (Int.tmod seed1 (left.length : Int))), (13, .int .i64 n), (14, .int .i64 v)]) (H0 := [(b1, ⟨1, List.map encInt (out_0 ++ ([(left.getD (Int.toNat (Int.tmod seed1 (left.length : Int))) default)] : List Int))⟩), (ob2, ⟨1, List.map encInt left⟩)]) rfl (⟨_, _, rfl, rfl, _, _, rfl, rfl, _, _, rfl, rfl, _, _, rfl, rfl, _, _, rfl, rfl, _, _, rfl, rfl, rfl⟩) (⟨_, _, rfl, rfl, _, _, rfl, rfl, rfl⟩) rfl ?_
      refine V.seq ?_
      replace hm1 := bindO hm1; rcases hm1 with ⟨y2, hh4, hm1⟩
      refine V.region ?_
      refine VO.cons rfl (V1.move rfl rfl rfl lt0 ?_)
      refine VO.cons rfl (V1.move rfl rfl rfl lt0 ?_)
      refine VO.cons rfl (V1.move rfl rfl rfl lt0 ?_)
      refine VO.cons rfl (V1.int rfl rfl rfl rfl rfl lt0 ?_)
      refine VO.cons rfl (V1.permK (V1.callM 1 (rn + 1) [] [.sref ob2 1 0 (List.length left), .int .i64 (Int.tmod seed1 (left.length : Int)), .int .i64 (IntKind.i64.wrap ((Int.tmod seed1 (left.length : Int)) + (1 : Int)))] (p := (ob2, ⟨1, List.map encInt left⟩)) rfl rfl rfl cok_53 rfl rfl ⟨_, _, rfl, .same _, ⟨_, _, rfl, .same _, ⟨_, _, rfl, .same _, rfl⟩⟩⟩ bwNil (ok_slices_Delete_int_int hh4 (oq := some ob2) (fun e => by cases e)) rfl (.inl rfl) lt0 ?_))
      rintro _ _ ⟨ob4, hob4, rfl, rfl⟩
      refine ⟨_, ?_, Keeps.optBack (n := 1) (ob := ob4) (xs := List.map encInt y2) (H1 := []) (H2 := [(b1, ⟨1, List.map encInt (out_0 ++ ([(left.getD (Int.toNat (Int.tmod seed1 (left.length : Int))) default)] : List Int))⟩)]) rfl⟩
      refine VO.cons rfl (V1.assign rfl rfl rfl lt0 ?_)
      refine VO.nil ?_
      rcases ob4 with _ | ob4
      ·
       refine V.keep 37 [2, 8, 9, 13, 14] [0] (E0 := [(2, .int .i64 seed1), (8, .nils), (9, .sref b1 1 0 (List.length (out_0 ++ ([(left.getD (Int.toNat (Int.tmod seed1 (left.length : Int))) default)] : List Int)))), (13, .int .i64 n), (14, .int .i64 v)]) (H0 := [(b1, ⟨1, List.map encInt (out_0 ++ ([(left.getD (Int.toNat (Int.tmod seed1 (left.length : Int))) default)] : List Int))⟩)]) rfl (⟨_, _, rfl, rfl, _, _, rfl, rfl, _, _, rfl, rfl, _, _, rfl, rfl, _, _, rfl, rfl, rfl⟩) (⟨_, _, rfl, rfl, rfl⟩) rfl ?_
       replace hm1 := bindO hm1; rcases hm1 with ⟨y3, hh5, hm1⟩
       refine V.region ?_
       refine VO.cons rfl (V1.move rfl rfl rfl lt0 ?_)
       refine VO.cons rfl (V1.call rfl rfl rfl cok_43 rfl (ok_impl_nextSeed hh5) rfl lt0 ?_)
       rintro _ _ ⟨rfl, rfl⟩
       refine VO.cons rfl (V1.assign rfl rfl rfl lt0 ?_)
       refine VO.nil ?_
       refine V.region ?_
       refine VO.cons rfl (V1.int rfl rfl rfl rfl rfl lt0 ?_)
       refine VO.cons rfl (V1.move rfl rfl rfl lt0 ?_)
       refine VO.nil ?_
       exact ⟨(m0, (y3, y2, (out_0 ++ ([(left.getD (Int.toNat (Int.tmod seed1 (left.length : Int))) default)] : List Int)), (IntKind.i64.wrap (v + (1 : Int)))), (none, (some b1))), ⟨hl1 _ (Option.some.inj hm1).symm, (fun _ => (hob4 rfl)), (fun e => by cases e)⟩, Nat.lt_succ_self _, Keeps.mk (ks := [0]) rfl ⟨rfl, rfl, rfl, rfl, rfl, trivial⟩ (⟨_, _, rfl, rfl, rfl⟩) rfl⟩
      ·
       refine V.keep 37 [2, 8, 9, 13, 14] [0, 1] (E0 := [(2, .int .i64 seed1), (8, .sref ob4 1 0 (List.length y2)), (9, .sref b1 1 0 (List.length (out_0 ++ ([(left.getD (Int.toNat (Int.tmod seed1 (left.length : Int))) default)] : List Int)))), (13, .int .i64 n), (14, .int .i64 v)]) (H0 := [(b1, ⟨1, List.map encInt (out_0 ++ ([(left.getD (Int.toNat (Int.tmod seed1 (left.length : Int))) default)] : List Int))⟩), (ob4, ⟨1, List.map encInt y2⟩)]) rfl (⟨_, _, rfl, rfl, _, _, rfl, rfl, _, _, rfl, rfl, _, _, rfl, rfl, _, _, rfl, rfl, rfl⟩) (⟨_, _, rfl, rfl, _, _, rfl, rfl, rfl⟩) rfl ?_
       replace hm1 := bindO hm1; rcases hm1 with ⟨y3, hh5, hm1⟩
       refine V.region ?_
       refine VO.cons rfl (V1.move rfl rfl rfl lt0 ?_)
       refine VO.cons rfl (V1.call rfl rfl rfl cok_43 rfl (ok_impl_nextSeed hh5) rfl lt0 ?_)
       rintro _ _ ⟨rfl, rfl⟩
       refine VO.cons rfl (V1.assign rfl rfl rfl lt0 ?_)
       refine VO.nil ?_
       refine V.region ?_
       refine VO.cons rfl (V1.int rfl rfl rfl rfl rfl lt0 ?_)
       refine VO.cons rfl (V1.move rfl rfl rfl lt0 ?_)
       refine VO.nil ?_
       exact ⟨(m0, (y3, y2, (out_0 ++ ([(left.getD (Int.toNat (Int.tmod seed1 (left.length : Int))) default)] : List Int)), (IntKind.i64.wrap (v + (1 : Int)))), ((some ob4), (some b1))), ⟨hl1 _ (Option.some.inj hm1).symm, (fun e => by cases e), (fun e => by cases e)⟩, Nat.lt_succ_self _, Keeps.mk (ks := [1, 0]) rfl ⟨rfl, rfl, rfl, rfl, rfl, trivial⟩ (⟨_, _, rfl, rfl, _, _, rfl, rfl, rfl⟩) rfl⟩
     ·
      replace hm1 := cond_f hc0 hm1
      refine V.exit ?_
      obtain rfl := hr1 _ (Option.some.inj hm1).symm
      exact ⟨((seed1, out_0), none), ⟨rfl, (fun _ => hob3)⟩, Keeps.mk (ks := []) rfl ⟨rfl, rfl, trivial⟩ (rfl) rfl⟩
    ·
     show V _ _ _ ⟨37, [(2, .int .i64 seed1), (8, .sref ob2 1 0 (List.length left)), (9, .sref ob3 1 0 (List.length out_0)), (14, .int .i64 v), (13, .int .i64 n)], [(ob2, ⟨1, List.map encInt left⟩), (ob3, ⟨1, List.map encInt out_0⟩)]⟩
     refine V.seq ?_
     refine V.region ?_
     refine VO.cons rfl (V1.int rfl rfl rfl rfl rfl lt0 ?_)
     refine VO.nil ?_
     refine V.seq ?_
     refine V.cond rfl (fun hc0 => ?_) (fun hc0 => ?_)
     ·
      replace hm1 := cond_t hc0 hm1
      refine V.skip ?_
      refine V.seq ?_
      refine V.block ?_
      refine V.seq ?_
      replace hm1 := asrt_some hm1; rcases hm1 with ⟨hh1, hm1⟩
      refine V.region ?_
      refine VO.cons rfl (V1.move rfl rfl rfl lt0 ?_)
      refine VO.cons rfl (V1.move rfl rfl rfl lt0 ?_)
      refine VO.cons rfl (V1.lenSref rfl rfl rfl rfl rfl rfl isl_24 lt0 ?_)
      refine VO.cons rfl (V1.rem rfl rfl rfl rfl (hh1) lt0 ?_)
      refine VO.cons rfl (V1.assign rfl rfl rfl lt0 ?_)
      refine VO.nil ?_
      refine V.keep 37 [2, 8, 9, 10, 13, 14] [0, 1] (E0 := [(2, .int .i64 seed1), (8, .sref ob2 1 0 (List.length left)), (9, .sref ob3 1 0 (List.length out_0)), (10, .int .i64 (Int.tmod seed1 (left.length : Int))), (13, .int .i64 n), (14, .int .i64 v)]) (H0 := [(ob2, ⟨1, List.map encInt left⟩), (ob3, ⟨1, List.map encInt out_0⟩)]) rfl (⟨_, _, rfl, rfl, _, _, rfl, rfl, _, _, rfl, rfl, _, _, rfl, rfl, _, _, rfl, rfl, _, _, rfl, rfl, rfl⟩) (⟨_, _, rfl, rfl, _, _, rfl, rfl, rfl⟩) rfl ?_
      refine V.seq ?_
      replace hm1 := asrt_some hm1; rcases hm1 with ⟨hh2, hm1⟩
      replace hm1 := asrt_some hm1; rcases hm1 with ⟨hh3, hm1⟩
      refine V.region ?_
      refine VO.cons rfl (V1.move rfl rfl rfl lt0 ?_)
      refine VO.cons rfl (V1.move rfl rfl rfl lt0 ?_)
      refine VO.cons rfl (V1.move rfl rfl rfl lt0 ?_)
      refine VO.cons rfl (V1.indexSr rfl rfl esz_24 rfl rfl hh2 lt0 ?_)
      refine VO.cons rfl (V1.loadMap (k := 0) (f := encInt) rfl rfl tyk_3 rfl rfl (by simpa using natLt hh2.1 hh2.2) rfl lt0 ?_)
      refine VO.cons rfl (V1.buildSliceT (f := encInt) ([(left.getD (Int.toNat (Int.tmod seed1 (left.length : Int))) default)] : List Int) rfl rfl esz_24 zk_3 rfl rfl rfl rfl rfl rfl rfl lt0 ?_)
      intro b0
      refine VO.cons rfl (V1.appendMap (k := 2) (f := encInt) (l := out_0) (m := ([(left.getD (Int.toNat (Int.tmod seed1 (left.length : Int))) default)] : List Int)) rfl rfl rfl rfl rfl esz_24 eby_24 zk_3 rfl rfl rfl (SrcOf.srMap (k := 0) rfl isl_24) hh3 lt0 ?_)
      intro b1
      refine VO.cons rfl (V1.assign rfl rfl rfl lt0 ?_)
      refine VO.nil ?_
      refine V.keep 37 [2, 8, 9, 10, 13, 14] [0, 2] (E0 := [(2, .int .i64 seed1), (8, .sref ob2 1 0 (List.length left)), (9, .sref b1 1 0 (List.length (out_0 ++ ([(left.getD (Int.toNat (Int.tmod seed1 (left.length : Int))) default)] : List Int)))), (10, .int .i64 (Int.tmod seed1 (left.length : Int))), (13, .int .i64 n), (14, .int .i64 v)]) (H0 := [(b1, ⟨1, List.map encInt (out_0 ++ ([(left.getD (Int.toNat (Int.tmod seed1 (left.length : Int))) default)] : List Int))⟩), (ob2, ⟨1, List.map encInt left⟩)]) rfl (⟨_, _, rfl, rfl, _, _, rfl, rfl, _, _, rfl, rfl, _, _, rfl, rfl, _, _, rfl, rfl, _, _, rfl, rfl, rfl⟩) (⟨_, _, rfl, rfl, _, _, rfl, rfl, rfl⟩) rfl ?_
      refine V.seq ?_
      replace hm1 := bindO hm1; rcases hm1 with ⟨y2, hh4, hm1⟩
      refine V.region ?_
      refine VO.cons rfl (V1.move rfl rfl rfl lt0 ?_)
      refine VO.cons rfl (V1.move rfl rfl rfl lt0 ?_)
      refine VO.cons rfl (V1.move rfl rfl rfl lt0 ?_)
      refine VO.cons rfl (V1.int rfl rfl rfl rfl rfl lt0 ?_)
      refine VO.cons rfl (V1.permK (V1.callM 1 (rn + 1) [] [.sref ob2 1 0 (List.length left), .int .i64 (Int.tmod seed1 (left.length : Int)), .int .i64 (IntKind.i64.wrap ((Int.tmod seed1 (left.length : Int)) + (1 : Int)))] (p := (ob2, ⟨1, List.map encInt left⟩)) rfl rfl rfl cok_53 rfl rfl ⟨_, _, rfl, .same _, ⟨_, _, rfl, .same _, ⟨_, _, rfl, .same _, rfl⟩⟩⟩ bwNil (ok_slices_Delete_int_int hh4 (oq := some ob2) (fun e => by cases e)) rfl (.inl rfl) lt0 ?_))
      rintro _ _ ⟨ob4, hob4, rfl, rfl⟩
      refine ⟨_, ?_, Keeps.optBack (n := 1) (ob := ob4) (xs := List.map encInt y2) (H1 := []) (H2 := [(b1, ⟨1, List.map encInt (out_0 ++ ([(left.getD (Int.toNat (Int.tmod seed1 (left.length : Int))) default)] : List Int))⟩)]) rfl⟩
      refine VO.cons rfl (V1.assign rfl rfl rfl lt0 ?_)
      refine VO.nil ?_
      rcases ob4 with _ | ob4
      ·
       refine V.keep 37 [2, 8, 9, 13, 14] [0] (E0 := [(2, .int .i64 seed1), (8, .nils), (9, .sref b1 1 0 (List.length (out_0 ++ ([(left.getD (Int.toNat (Int.tmod seed1 (left.length : Int))) default)] : List Int)))), (13, .int .i64 n), (14, .int .i64 v)]) (H0 := [(b1, ⟨1, List.map encInt (out_0 ++ ([(left.getD (Int.toNat (Int.tmod seed1 (left.length : Int))) default)] : List Int))⟩)]) rfl (⟨_, _, rfl, rfl, _, _, rfl, rfl, _, _, rfl, rfl, _, _, rfl, rfl, _, _, rfl, rfl, rfl⟩) (⟨_, _, rfl, rfl, rfl⟩) rfl ?_
       replace hm1 := bindO hm1; rcases hm1 with ⟨y3, hh5, hm1⟩
       refine V.region ?_
       refine VO.cons rfl (V1.move rfl rfl rfl lt0 ?_)
       refine VO.cons rfl (V1.call rfl rfl rfl cok_43 rfl (ok_impl_nextSeed hh5) rfl lt0 ?_)
       rintro _ _ ⟨rfl, rfl⟩
       refine VO.cons rfl (V1.assign rfl rfl rfl lt0 ?_)
       refine VO.nil ?_
       refine V.region ?_
       refine VO.cons rfl (V1.int rfl rfl rfl rfl rfl lt0 ?_)
       refine VO.cons rfl (V1.move rfl rfl rfl lt0 ?_)
       refine VO.nil ?_
       exact ⟨(m0, (y3, y2, (out_0 ++ ([(left.getD (Int.toNat (Int.tmod seed1 (left.length : Int))) default)] : List Int)), (IntKind.i64.wrap (v + (1 : Int)))), (none, (some b1))), ⟨hl1 _ (Option.some.inj hm1).symm, (fun _ => (hob4 rfl)), (fun e => by cases e)⟩, Nat.lt_succ_self _, Keeps.mk (ks := [0]) rfl ⟨rfl, rfl, rfl, rfl, rfl, trivial⟩ (⟨_, _, rfl, rfl, rfl⟩) rfl⟩
      ·
       refine V.keep 37 [2, 8, 9, 13, 14] [0, 1] (E0 := [(2, .int .i64 seed1), (8, .sref ob4 1 0 (List.length y2)), (9, .sref b1 1 0 (List.length (out_0 ++ ([(left.getD (Int.toNat (Int.tmod seed1 (left.length : Int))) default)] : List Int)))), (13, .int .i64 n), (14, .int .i64 v)]) (H0 := [(b1, ⟨1, List.map encInt (out_0 ++ ([(left.getD (Int.toNat (Int.tmod seed1 (left.length : Int))) default)] : List Int))⟩), (ob4, ⟨1, List.map encInt y2⟩)]) rfl (⟨_, _, rfl, rfl, _, _, rfl, rfl, _, _, rfl, rfl, _, _, rfl, rfl, _, _, rfl, rfl, rfl⟩) (⟨_, _, rfl, rfl, _, _, rfl, rfl, rfl⟩) rfl ?_
       replace hm1 := bindO hm1; rcases hm1 with ⟨y3, hh5, hm1⟩
       refine V.region ?_
       refine VO.cons rfl (V1.move rfl rfl rfl lt0 ?_)
       refine VO.cons rfl (V1.call rfl rfl rfl cok_43 rfl (ok_impl_nextSeed hh5) rfl lt0 ?_)
       rintro _ _ ⟨rfl, rfl⟩
       refine VO.cons rfl (V1.assign rfl rfl rfl lt0 ?_)
       refine VO.nil ?_
       refine V.region ?_
       refine VO.cons rfl (V1.int rfl rfl rfl rfl rfl lt0 ?_)
       refine VO.cons rfl (V1.move rfl rfl rfl lt0 ?_)
       refine VO.nil ?_
       exact ⟨(m0, (y3, y2, (out_0 ++ ([(left.getD (Int.toNat (Int.tmod seed1 (left.length : Int))) default)] : List Int)), (IntKind.i64.wrap (v + (1 : Int)))), ((some ob4), (some b1))), ⟨hl1 _ (Option.some.inj hm1).symm, (fun e => by cases e), (fun e => by cases e)⟩, Nat.lt_succ_self _, Keeps.mk (ks := [1, 0]) rfl ⟨rfl, rfl, rfl, rfl, rfl, trivial⟩ (⟨_, _, rfl, rfl, _, _, rfl, rfl, rfl⟩) rfl⟩
     ·
      replace hm1 := cond_f hc0 hm1
      refine V.exit ?_
      obtain rfl := hr1 _ (Option.some.inj hm1).symm
      exact ⟨((seed1, out_0), (some ob3)), ⟨rfl, (fun e => by cases e)⟩, Keeps.mk (ks := [1]) rfl ⟨rfl, rfl, trivial⟩ (⟨_, _, rfl, rfl, rfl⟩) rfl⟩
  ·
   rintro ⟨⟨seed0, out_⟩, ob1⟩ ⟨rfl, hob1⟩
   try dsimp only at hm0
   rcases ob1 with _ | ob1
   ·
    replace hob1 := hob1 rfl
    refine V.seq ?_
    refine V.region ?_
    refine VO.cons rfl (V1.move rfl rfl rfl lt0 ?_)
    refine VO.cons rfl (V1.move rfl rfl rfl lt0 ?_)
    refine VO.cons rfl (V1.assign rfl rfl rfl lt0 ?_)
    refine VO.cons rfl (V1.assign rfl rfl rfl lt0 ?_)
    refine VO.nil ?_
    refine V.keep 37 [6, 7] [] (E0 := [(6, .nils), (7, .int .i64 seed0)]) (H0 := []) rfl (⟨_, _, rfl, rfl, _, _, rfl, rfl, rfl⟩) (rfl) rfl ?_
    refine V.ret ?_
    obtain rfl := Option.some.inj hm0
    exact ⟨_, _, ⟨_, _, rfl, rfl, _, _, rfl, rfl, rfl⟩, List.Sublist.refl _, none, (fun _ => hob1), rfl, rfl⟩
   ·
    refine V.seq ?_
    refine V.region ?_
    refine VO.cons rfl (V1.move rfl rfl rfl lt0 ?_)
    refine VO.cons rfl (V1.move rfl rfl rfl lt0 ?_)
    refine VO.cons rfl (V1.assign rfl rfl rfl lt0 ?_)
    refine VO.cons rfl (V1.assign rfl rfl rfl lt0 ?_)
    refine VO.nil ?_
    refine V.keep 37 [6, 7] [0] (E0 := [(6, .sref ob1 1 0 (List.length out_)), (7, .int .i64 seed0)]) (H0 := [(ob1, ⟨1, List.map encInt out_⟩)]) rfl (⟨_, _, rfl, rfl, _, _, rfl, rfl, rfl⟩) (⟨_, _, rfl, rfl, rfl⟩) rfl ?_
    refine V.ret ?_
    obtain rfl := Option.some.inj hm0
    exact ⟨_, _, ⟨_, _, rfl, rfl, _, _, rfl, rfl, rfl⟩, List.Sublist.refl _, some ob1, (fun e => by cases e), rfl, rfl⟩
 ·
  refine V.keep 37 [1, 2, 8] [0] (E0 := [(1, .int .i64 n), (2, .int .i64 seed), (8, .sref ob0 1 0 (List.length y0))]) (H0 := [(ob0, ⟨1, List.map encInt y0⟩)]) rfl (⟨_, _, rfl, rfl, _, _, rfl, rfl, _, _, rfl, rfl, rfl⟩) (⟨_, _, rfl, rfl, rfl⟩) rfl ?_
  refine V.seq ?_
  refine V.region ?_
  refine VO.cons rfl (V1.assign rfl rfl rfl lt0 ?_)
  refine VO.nil ?_
  refine V.seq ?_
  refine V.seq ?_
  refine V.region ?_
  refine VO.cons rfl (V1.move rfl rfl rfl lt0 ?_)
  refine VO.cons rfl (V1.move rfl rfl rfl lt0 ?_)
  refine VO.nil ?_
  replace hm0 := bindO hm0; rcases hm0 with ⟨e0, he1, hm0⟩
  refine V.cutT (D := (Int × List Int) × (Option Nat)) (fun ⟨⟨seed0, out_⟩, ob1⟩ => ⟨37, [(2, .int .i64 seed0), (9, optS 1 ob1 (List.length out_))], optH 1 ob1 (List.map encInt out_)⟩) (fun ⟨⟨seed0, out_⟩, ob1⟩ => ((seed0, out_) = e0) ∧ (ob1 = none → out_ = [])) ?_ ?_
  ·
   refine V.block ?_
   refine V.keep 37 [2, 8, 9, 14, 13] [0] (E0 := [(2, .int .i64 seed), (8, .sref ob0 1 0 (List.length y0)), (9, .nils), (14, .int .i64 (0 : Int)), (13, .int .i64 n)]) (H0 := [(ob0, ⟨1, List.map encInt y0⟩)]) rfl (⟨_, _, rfl, rfl, _, _, rfl, rfl, _, _, rfl, rfl, _, _, rfl, rfl, _, _, rfl, rfl, rfl⟩) (⟨_, _, rfl, rfl, rfl⟩) rfl ?_
   refine V.loopE (D := Nat × (Int × List Int × List Int × Int) × (Option Nat × Option Nat)) (fun ⟨n0, ⟨seed1, left, out_0, v⟩, ⟨ob2, ob3⟩⟩ => [(2, .int .i64 seed1), (8, optS 1 ob2 (List.length left)), (9, optS 1 ob3 (List.length out_0)), (14, .int .i64 v)]) (fun ⟨n0, ⟨seed1, left, out_0, v⟩, ⟨ob2, ob3⟩⟩ => optH 1 ob2 (List.map encInt left) ++ optH 1 ob3 (List.map encInt out_0)) (fun ⟨n0, ⟨seed1, left, out_0, v⟩, ⟨ob2, ob3⟩⟩ => loopO (M.impl_taken_l0 n) n0 (seed1, left, out_0, v) = some e0 ∧ (ob2 = none → left = []) ∧ (ob3 = none → out_0 = [])) (fun ⟨n0, _, _⟩ => n0) (rounds, (seed, y0, ([] : List Int), (0 : Int)), ((some ob0), none)) rfl ⟨he1, (fun e => by cases e), (fun _ => rfl)⟩ ?_
   rintro ⟨n0, ⟨seed1, left, out_0, v⟩, ⟨ob2, ob3⟩⟩ ⟨hP0, hob2, hob3⟩
   obtain ⟨m0, y1, rfl, hm1, hl1, hr1⟩ := loop_head hP0
   unfold M.impl_taken_l0 at hm1; dsimp only at hm1
   rcases ob2 with _ | ob2
   ·
    replace hob2 := hob2 rfl
    rcases ob3 with _ | ob3
    ·
     replace hob3 := hob3 rfl
     show V _ _ _ ⟨37, [(2, .int .i64 seed1), (8, .nils), (9, .nils), (14, .int .i64 v), (13, .int .i64 n)], []⟩
     refine V.seq ?_
     refine V.region ?_
     refine VO.cons rfl (V1.int rfl rfl rfl rfl rfl lt0 ?_)
     refine VO.nil ?_
     refine V.seq ?_
     refine V.cond rfl (fun hc0 => ?_) (fun hc0 => ?_)
     ·
      replace hm1 := cond_t hc0 hm1
      refine V.skip ?_
      refine V.seq ?_
      refine V.block ?_
      refine V.seq ?_
      replace hm1 := asrt_some hm1; rcases hm1 with ⟨hh1, hm1⟩
      refine V.region ?_
      refine VO.cons rfl (V1.move rfl rfl rfl lt0 ?_)
      refine VO.cons rfl (V1.move rfl rfl rfl lt0 ?_)
      refine VO.cons rfl (V1.lenNilsE (l := left) hob2 rfl rfl rfl rfl rfl rfl isl_24 lt0 ?_)
      refine VO.cons rfl (V1.rem rfl rfl rfl rfl (hh1) lt0 ?_)
      refine VO.cons rfl (V1.assign rfl rfl rfl lt0 ?_)
      refine VO.nil ?_
      refine V.keep 37 [2, 8, 9, 10, 13, 14] [] (E0 := [(2, .int .i64 seed1), (8, .nils), (9, .nils), (10, .int .i64 (Int.tmod seed1 (left.length : Int))), (13, .int .i64 n), (14, .int .i64 v)]) (H0 := []) rfl (⟨_, _, rfl, rfl, _, _, rfl, rfl, _, _, rfl, rfl, _, _, rfl, rfl, _, _, rfl, rfl, _, _, rfl, rfl, rfl⟩) (rfl) rfl ?_
      refine V.seq ?_
      replace hm1 := asrt_some hm1; rcases hm1 with ⟨hh2, hm1⟩
      replace hm1 := asrt_some hm1; rcases hm1 with ⟨hh3, hm1⟩
      refine V.region ?_
      refine VO.cons rfl (V1.move rfl rfl rfl lt0 ?_)
      refine VO.cons rfl (V1.move rfl rfl rfl lt0 ?_)
      refine VO.cons rfl (V1.move rfl rfl rfl lt0 ?_)
      refine VO.weakenK (Keeps.nilsE (l := left) 21 rn 1 encInt hob2 rfl rfl) ?_
      refine VO.cons rfl (V1.indexI rfl rfl esz_24 rfl rfl hh2 lt0 ?_)
      refine VO.cons rfl (V1.loadPin rfl rfl tyk_3 rfl rfl lt0 ?_)
      refine VO.cons rfl (V1.buildSliceT (f := encInt) ([(left.getD (Int.toNat (Int.tmod seed1 (left.length : Int))) default)] : List Int) rfl rfl esz_24 zk_3 rfl rfl rfl rfl rfl rfl rfl lt0 ?_)
      intro b0
      refine VO.cons rfl (V1.appendNilE (f := encInt) (l := out_0) (m := ([(left.getD (Int.toNat (Int.tmod seed1 (left.length : Int))) default)] : List Int)) hob3 rfl rfl rfl rfl rfl esz_24 eby_24 zk_3 rfl rfl rfl (SrcOf.srMap (k := 0) rfl isl_24) rfl hh3 lt0 ?_)
      intro b1
      refine VO.cons rfl (V1.assign rfl rfl rfl lt0 ?_)
      refine VO.nil ?_
      refine V.keep 37 [2, 8, 9, 10, 13, 14] [0] (E0 := [(2, .int .i64 seed1), (8, .nils), (9, .sref b1 1 0 (List.length (out_0 ++ ([(left.getD (Int.toNat (Int.tmod seed1 (left.length : Int))) default)] : List Int)))), (10, .int .i64 (Int.tmod seed1 (left.length : Int))), (13, .int .i64 n), (14, .int .i64 v)]) (H0 := [(b1, ⟨1, List.map encInt (out_0 ++ ([(left.getD (Int.toNat (Int.tmod seed1 (left.length : Int))) default)] : List Int))⟩)]) rfl (⟨_, _, rfl, rfl, _, _, rfl, rfl, _, _, rfl, rfl, _, _, rfl, rfl, _, _, rfl, rfl, _, _, rfl, rfl, rfl⟩) (⟨_, _, rfl, rfl, rfl⟩) rfl ?_
      refine V.seq ?_
      replace hm1 := bindO hm1; rcases hm1 with ⟨y2, hh4, hm1⟩
      refine V.region ?_
      refine VO.cons rfl (V1.move rfl rfl rfl lt0 ?_)
      refine VO.cons rfl (V1.move rfl rfl rfl lt0 ?_)
      refine VO.cons rfl (V1.move rfl rfl rfl lt0 ?_)
      refine VO.cons rfl (V1.int rfl rfl rfl rfl rfl lt0 ?_)
      refine VO.cons rfl (V1.permK (V1.call rfl rfl rfl cok_53 rfl (ok_slices_Delete_int_int hh4 (oq := none) (s := left) (fun _ => hob2)) rfl lt0 ?_))
      rintro _ _ ⟨ob4, hob4, rfl, rfl⟩
      refine ⟨_, ?_, Keeps.optBack (n := 1) (ob := ob4) (xs := List.map encInt y2) (H1 := []) (H2 := [(b1, ⟨1, List.map encInt (out_0 ++ ([(left.getD (Int.toNat (Int.tmod seed1 (left.length : Int))) default)] : List Int))⟩)]) rfl⟩
      refine VO.cons rfl (V1.assign rfl rfl rfl lt0 ?_)
      refine VO.nil ?_
      rcases ob4 with _ | ob4
      ·
       refine V.keep 37 [2, 8, 9, 13, 14] [0] (E0 := [(2, .int .i64 seed1), (8, .nils), (9, .sref b1 1 0 (List.length (out_0 ++ ([(left.getD (Int.toNat (Int.tmod seed1 (left.length : Int))) default)] : List Int)))), (13, .int .i64 n), (14, .int .i64 v)]) (H0 := [(b1, ⟨1, List.map encInt (out_0 ++ ([(left.getD (Int.toNat (Int.tmod seed1 (left.length : Int))) default)] : List Int))⟩)]) rfl (⟨_, _, rfl, rfl, _, _, rfl, rfl, _, _, rfl, rfl, _, _, rfl, rfl, _, _, rfl, rfl, rfl⟩) (⟨_, _, rfl, rfl, rfl⟩) rfl ?_
       replace hm1 := bindO hm1; rcases hm1 with ⟨y3, hh5, hm1⟩
       refine V.region ?_
       refine VO.cons rfl (V1.move rfl rfl rfl lt0 ?_)
       refine VO.cons rfl (V1.call rfl rfl rfl cok_43 rfl (ok_impl_nextSeed hh5) rfl lt0 ?_)
       rintro _ _ ⟨rfl, rfl⟩
       refine VO.cons rfl (V1.assign rfl rfl rfl lt0 ?_)
       refine VO.nil ?_
       refine V.region ?_
       refine VO.cons rfl (V1.int rfl rfl rfl rfl rfl lt0 ?_)
       refine VO.cons rfl (V1.move rfl rfl rfl lt0 ?_)
       refine VO.nil ?_
       exact ⟨(m0, (y3, y2, (out_0 ++ ([(left.getD (Int.toNat (Int.tmod seed1 (left.length : Int))) default)] : List Int)), (IntKind.i64.wrap (v + (1 : Int)))), (none, (some b1))), ⟨hl1 _ (Option.some.inj hm1).symm, (fun _ => (hob4 rfl)), (fun e => by cases e)⟩, Nat.lt_succ_self _, Keeps.mk (ks := [0]) rfl ⟨rfl, rfl, rfl, rfl, rfl, trivial⟩ (⟨_, _, rfl, rfl, rfl⟩) rfl⟩
      ·
       refine V.keep 37 [2, 8, 9, 13, 14] [0, 1] (E0 := [(2, .int .i64 seed1), (8, .sref ob4 1 0 (List.length y2)), (9, .sref b1 1 0 (List.length (out_0 ++ ([(left.getD (Int.toNat (Int.tmod seed1 (left.length : Int))) default)] : List Int)))), (13, .int .i64 n), (14, .int .i64 v)]) (H0 := [(b1, ⟨1, List.map encInt (out_0 ++ ([(left.getD (Int.toNat (Int.tmod seed1 (left.length : Int))) default)] : List Int))⟩), (ob4, ⟨1, List.map encInt y2⟩)]) rfl (⟨_, _, rfl, rfl, _, _, rfl, rfl, _, _, rfl, rfl, _, _, rfl, rfl, _, _, rfl, rfl, rfl⟩) (⟨_, _, rfl, rfl, _, _, rfl, rfl, rfl⟩) rfl ?_
       replace hm1 := bindO hm1; rcases hm1 with ⟨y3, hh5, hm1⟩
       refine V.region ?_
       refine VO.cons rfl (V1.move rfl rfl rfl lt0 ?_)
       refine VO.cons rfl (V1.call rfl rfl rfl cok_43 rfl (ok_impl_nextSeed hh5) rfl lt0 ?_)
       rintro _ _ ⟨rfl, rfl⟩
       refine VO.cons rfl (V1.assign rfl rfl rfl lt0 ?_)
       refine VO.nil ?_
       refine V.region ?_
       refine VO.cons rfl (V1.int rfl rfl rfl rfl rfl lt0 ?_)
       refine VO.cons rfl (V1.move rfl rfl rfl lt0 ?_)
       refine VO.nil ?_
       exact ⟨(m0, (y3, y2, (out_0 ++ ([(left.getD (Int.toNat (Int.tmod seed1 (left.length : Int))) default)] : List Int)), (IntKind.i64.wrap (v + (1 : Int)))), ((some ob4), (some b1))), ⟨hl1 _ (Option.some.inj hm1).symm, (fun e => by cases e), (fun e => by cases e)⟩, Nat.lt_succ_self _, Keeps.mk (ks := [1, 0]) rfl ⟨rfl, rfl, rfl, rfl, rfl, trivial⟩ (⟨_, _, rfl, rfl, _, _, rfl, rfl, rfl⟩) rfl⟩
     ·
      replace hm1 := cond_f hc0 hm1
      refine V.exit ?_
      obtain rfl := hr1 _ (Option.some.inj hm1).symm
      exact ⟨((seed1, out_0), none), ⟨rfl, (fun _ => hob3)⟩, Keeps.mk (ks := []) rfl ⟨rfl, rfl, trivial⟩ (rfl) rfl⟩
    ·
     show V _ _ _ ⟨37, [(2, .int .i64 seed1), (8, .nils), (9, .sref ob3 1 0 (List.length out_0)), (14, .int .i64 v), (13, .int .i64 n)], [(ob3, ⟨1, List.map encInt out_0⟩)]⟩
     refine V.seq ?_
     refine V.region ?_
     refine VO.cons rfl (V1.int rfl rfl rfl rfl rfl lt0 ?_)
     refine VO.nil ?_
     refine V.seq ?_
     refine V.cond rfl (fun hc0 => ?_) (fun hc0 => ?_)
     ·
      replace hm1 := cond_t hc0 hm1
      refine V.skip ?_
      refine V.seq ?_
      refine V.block ?_
      refine V.seq ?_
      replace hm1 := asrt_some hm1; rcases hm1 with ⟨hh1, hm1⟩
      refine V.region ?_
      refine VO.cons rfl (V1.move rfl rfl rfl lt0 ?_)
      refine VO.cons rfl (V1.move rfl rfl rfl lt0 ?_)
      refine VO.cons rfl (V1.lenNilsE (l := left) hob2 rfl rfl rfl rfl rfl rfl isl_24 lt0 ?_)
      refine VO.cons rfl (V1.rem rfl rfl rfl rfl (hh1) lt0 ?_)
      refine VO.cons rfl (V1.assign rfl rfl rfl lt0 ?_)
      refine VO.nil ?_
      refine V.keep 37 [2, 8, 9, 10, 13, 14] [0] (E0 := [(2, .int .i64 seed1), (8, .nils), (9, .sref ob3 1 0 (List.length out_0)), (10, .int .i64 (Int.tmod seed1 (left.length : Int))), (13, .int .i64 n), (14, .int .i64 v)]) (H0 := [(ob3, ⟨1, List.map encInt out_0⟩)]) rfl (⟨_, _, rfl, rfl, _, _, rfl, rfl, _, _, rfl, rfl, _, _, rfl, rfl, _, _, rfl, rfl, _, _, rfl, rfl, rfl⟩) (⟨_, _, rfl, rfl, rfl⟩) rfl ?_
      refine V.seq ?_
      replace hm1 := asrt_some hm1; rcases hm1 with ⟨hh2, hm1⟩
      replace hm1 := asrt_some hm1; rcases hm1 with ⟨hh3, hm1⟩
      refine V.region ?_
      refine VO.cons rfl (V1.move rfl rfl rfl lt0 ?_)
      refine VO.cons rfl (V1.move rfl rfl rfl lt0 ?_)
      refine VO.cons rfl (V1.move rfl rfl rfl lt0 ?_)
      refine VO.weakenK (Keeps.nilsE (l := left) 21 rn 1 encInt hob2 rfl rfl) ?_
      refine VO.cons rfl (V1.indexI rfl rfl esz_24 rfl rfl hh2 lt0 ?_)
      refine VO.cons rfl (V1.loadPin rfl rfl tyk_3 rfl rfl lt0 ?_)
      refine VO.cons rfl (V1.buildSliceT (f := encInt) ([(left.getD (Int.toNat (Int.tmod seed1 (left.length : Int))) default)] : List Int) rfl rfl esz_24 zk_3 rfl rfl rfl rfl rfl rfl rfl lt0 ?_)
      intro b0
      refine VO.cons rfl (V1.appendMap (k := 1) (f := encInt) (l := out_0) (m := ([(left.getD (Int.toNat (Int.tmod seed1 (left.length : Int))) default)] : List Int)) rfl rfl rfl rfl rfl esz_24 eby_24 zk_3 rfl rfl rfl (SrcOf.srMap (k := 0) rfl isl_24) hh3 lt0 ?_)
      intro b1
      refine VO.cons rfl (V1.assign rfl rfl rfl lt0 ?_)
      refine VO.nil ?_
      refine V.keep 37 [2, 8, 9, 10, 13, 14] [0] (E0 := [(2, .int .i64 seed1), (8, .nils), (9, .sref b1 1 0 (List.length (out_0 ++ ([(left.getD (Int.toNat (Int.tmod seed1 (left.length : Int))) default)] : List Int)))), (10, .int .i64 (Int.tmod seed1 (left.length : Int))), (13, .int .i64 n), (14, .int .i64 v)]) (H0 := [(b1, ⟨1, List.map encInt (out_0 ++ ([(left.getD (Int.toNat (Int.tmod seed1 (left.length : Int))) default)] : List Int))⟩)]) rfl (⟨_, _, rfl, rfl, _, _, rfl, rfl, _, _, rfl, rfl, _, _, rfl, rfl, _, _, rfl, rfl, _, _, rfl, rfl, rfl⟩) (⟨_, _, rfl, rfl, rfl⟩) rfl ?_
      refine V.seq ?_
      replace hm1 := bindO hm1; rcases hm1 with ⟨y2, hh4, hm1⟩
      refine V.region ?_
      refine VO.cons rfl (V1.move rfl rfl rfl lt0 ?_)
      refine VO.cons rfl (V1.move rfl rfl rfl lt0 ?_)
      refine VO.cons rfl (V1.move rfl rfl rfl lt0 ?_)
      refine VO.cons rfl (V1.int rfl rfl rfl rfl rfl lt0 ?_)
      refine VO.cons rfl (V1.permK (V1.call rfl rfl rfl cok_53 rfl (ok_slices_Delete_int_int hh4 (oq := none) (s := left) (fun _ => hob2)) rfl lt0 ?_))
      rintro _ _ ⟨ob4, hob4, rfl, rfl⟩
      refine ⟨_, ?_, Keeps.optBack (n := 1) (ob := ob4) (xs := List.map encInt y2) (H1 := []) (H2 := [(b1, ⟨1, List.map encInt (out_0 ++ ([(left.getD (Int.toNat (Int.tmod seed1 (left.length : Int))) default)] : List Int))⟩)]) rfl⟩
      refine VO.cons rfl (V1.assign rfl rfl rfl lt0 ?_)
      refine VO.nil ?_
      rcases ob4 with _ | ob4
      ·
       refine V.keep 37 [2, 8, 9, 13, 14] [0] (E0 := [(2, .int .i64 seed1), (8, .nils), (9, .sref b1 1 0 (List.length (out_0 ++ ([(left.getD (Int.toNat (Int.tmod seed1 (left.length : Int))) default)] : List Int)))), (13, .int .i64 n), (14, .int .i64 v)]) (H0 := [(b1, ⟨1, List.map encInt (out_0 ++ ([(left.getD (Int.toNat (Int.tmod seed1 (left.length : Int))) default)] : List Int))⟩)]) rfl (⟨_, _, rfl, rfl, _, _, rfl, rfl, _, _, rfl, rfl, _, _, rfl, rfl, _, _, rfl, rfl, rfl⟩) (⟨_, _, rfl, rfl, rfl⟩) rfl ?_
       replace hm1 := bindO hm1; rcases hm1 with ⟨y3, hh5, hm1⟩
       refine V.region ?_
       refine VO.cons rfl (V1.move rfl rfl rfl lt0 ?_)
       refine VO.cons rfl (V1.call rfl rfl rfl cok_43 rfl (ok_impl_nextSeed hh5) rfl lt0 ?_)
       rintro _ _ ⟨rfl, rfl⟩
       refine VO.cons rfl (V1.assign rfl rfl rfl lt0 ?_)
       refine VO.nil ?_
       refine V.region ?_
       refine VO.cons rfl (V1.int rfl rfl rfl rfl rfl lt0 ?_)
       refine VO.cons rfl (V1.move rfl rfl rfl lt0 ?_)
       refine VO.nil ?_
       exact ⟨(m0, (y3, y2, (out_0 ++ ([(left.getD (Int.toNat (Int.tmod seed1 (left.length : Int))) default)] : List Int)), (IntKind.i64.wrap (v + (1 : Int)))), (none, (some b1))), ⟨hl1 _ (Option.some.inj hm1).symm, (fun _ => (hob4 rfl)), (fun e => by cases e)⟩, Nat.lt_succ_self _, Keeps.mk (ks := [0]) rfl ⟨rfl, rfl, rfl, rfl, rfl, trivial⟩ (⟨_, _, rfl, rfl, rfl⟩) rfl⟩
      ·
       refine V.keep 37 [2, 8, 9, 13, 14] [0, 1] (E0 := [(2, .int .i64 seed1), (8, .sref ob4 1 0 (List.length y2)), (9, .sref b1 1 0 (List.length (out_0 ++ ([(left.getD (Int.toNat (Int.tmod seed1 (left.length : Int))) default)] : List Int)))), (13, .int .i64 n), (14, .int .i64 v)]) (H0 := [(b1, ⟨1, List.map encInt (out_0 ++ ([(left.getD (Int.toNat (Int.tmod seed1 (left.length : Int))) default)] : List Int))⟩), (ob4, ⟨1, List.map encInt y2⟩)]) rfl (⟨_, _, rfl, rfl, _, _, rfl, rfl, _, _, rfl, rfl, _, _, rfl, rfl, _, _, rfl, rfl, rfl⟩) (⟨_, _, rfl, rfl, _, _, rfl, rfl, rfl⟩) rfl ?_
       replace hm1 := bindO hm1; rcases hm1 with ⟨y3, hh5, hm1⟩
       refine V.region ?_
       refine VO.cons rfl (V1.move rfl rfl rfl lt0 ?_)
       refine VO.cons rfl (V1.call rfl rfl rfl cok_43 rfl (ok_impl_nextSeed hh5) rfl lt0 ?_)
       rintro _ _ ⟨rfl, rfl⟩
       refine VO.cons rfl (V1.assign rfl rfl rfl lt0 ?_)
       refine VO.nil ?_
       refine V.region ?_
       refine VO.cons rfl (V1.int rfl rfl rfl rfl rfl lt0 ?_)
       refine VO.cons rfl (V1.move rfl rfl rfl lt0 ?_)
       refine VO.nil ?_
       exact ⟨(m0, (y3, y2, (out_0 ++ ([(left.getD (Int.toNat (Int.tmod seed1 (left.length : Int))) default)] : List Int)), (IntKind.i64.wrap (v + (1 : Int)))), ((some ob4), (some b1))), ⟨hl1 _ (Option.some.inj hm1).symm, (fun e => by cases e), (fun e => by cases e)⟩, Nat.lt_succ_self _, Keeps.mk (ks := [1, 0]) rfl ⟨rfl, rfl, rfl, rfl, rfl, trivial⟩ (⟨_, _, rfl, rfl, _, _, rfl, rfl, rfl⟩) rfl⟩
     ·
      replace hm1 := cond_f hc0 hm1
      refine V.exit ?_
      obtain rfl := hr1 _ (Option.some.inj hm1).symm
      exact ⟨((seed1, out_0), (some ob3)), ⟨rfl, (fun e => by cases e)⟩, Keeps.mk (ks := [0]) rfl ⟨rfl, rfl, trivial⟩ (⟨_, _, rfl, rfl, rfl⟩) rfl⟩
   ·
    rcases ob3 with _ | ob3
    ·
     replace hob3 := hob3 rfl
     show V _ _ _ ⟨37, [(2, .int .i64 seed1), (8, .sref ob2 1 0 (List.length left)), (9, .nils), (14, .int .i64 v), (13, .int .i64 n)], [(ob2, ⟨1, List.map encInt left⟩)]⟩
     refine V.seq ?_
     refine V.region ?_
     refine VO.cons rfl (V1.int rfl rfl rfl rfl rfl lt0 ?_)
     refine VO.nil ?_
     refine V.seq ?_
     refine V.cond rfl (fun hc0 => ?_) (fun hc0 => ?_)
     ·
      replace hm1 := cond_t hc0 hm1
      refine V.skip ?_
      refine V.seq ?_
      refine V.block ?_
      refine V.seq ?_
      replace hm1 := asrt_some hm1; rcases hm1 with ⟨hh1, hm1⟩
      refine V.region ?_
      refine VO.cons rfl (V1.move rfl rfl rfl lt0 ?_)
      refine VO.cons rfl (V1.move rfl rfl rfl lt0 ?_)
      refine VO.cons rfl (V1.lenSref rfl rfl rfl rfl rfl rfl isl_24 lt0 ?_)
      refine VO.cons rfl (V1.rem rfl rfl rfl rfl (hh1) lt0 ?_)
      refine VO.cons rfl (V1.assign rfl rfl rfl lt0 ?_)
      refine VO.nil ?_
      refine V.keep 37 [2, 8, 9, 10, 13, 14] [0] (E0 := [(2, .int .i64 seed1), (8, .sref ob2 1 0 (List.length left)), (9, .nils), (10, .int .i64 (Int.tmod seed1 (left.length : Int))), (13, .int .i64 n), (14, .int .i64 v)]) (H0 := [(ob2, ⟨1, List.map encInt left⟩)]) rfl (⟨_, _, rfl, rfl, _, _, rfl, rfl, _, _, rfl, rfl, _, _, rfl, rfl, _, _, rfl, rfl, _, _, rfl, rfl, rfl⟩) (⟨_, _, rfl, rfl, rfl⟩) rfl ?_
      refine V.seq ?_
      replace hm1 := asrt_some hm1; rcases hm1 with ⟨hh2, hm1⟩
      replace hm1 := asrt_some hm1; rcases hm1 with ⟨hh3, hm1⟩
      refine V.region ?_
      refine VO.cons rfl (V1.move rfl rfl rfl lt0 ?_)
      refine VO.cons rfl (V1.move rfl rfl rfl lt0 ?_)
      refine VO.cons rfl (V1.move rfl rfl rfl lt0 ?_)
      refine VO.cons rfl (V1.indexSr rfl rfl esz_24 rfl rfl hh2 lt0 ?_)
      refine VO.cons rfl (V1.loadMap (k := 0) (f := encInt) rfl rfl tyk_3 rfl rfl (by simpa using natLt hh2.1 hh2.2) rfl lt0 ?_)
      refine VO.cons rfl (V1.buildSliceT (f := encInt) ([(left.getD (Int.toNat (Int.tmod seed1 (left.length : Int))) default)] : List Int) rfl rfl esz_24 zk_3 rfl rfl rfl rfl rfl rfl rfl lt0 ?_)
      intro b0
      refine VO.cons rfl (V1.appendNilE (f := encInt) (l := out_0) (m := ([(left.getD (Int.toNat (Int.tmod seed1 (left.length : Int))) default)] : List Int)) hob3 rfl rfl rfl rfl rfl esz_24 eby_24 zk_3 rfl rfl rfl (SrcOf.srMap (k := 0) rfl isl_24) rfl hh3 lt0 ?_)
      intro b1
      refine VO.cons rfl (V1.assign rfl rfl rfl lt0 ?_)
      refine VO.nil ?_
      refine V.keep 37 [2, 8, 9, 10, 13, 14] [0, 2] (E0 := [(2, .int .i64 seed1), (8, .sref ob2 1 0 (List.length left)), (9, .sref b1 1 0 (List.length (out_0 ++ ([(left.getD (Int.toNat (Int.tmod seed1 (left.length : Int))) default)] : List Int)))), (10, .int .i64 (Int.tmod seed1 (left.length : Int))), (13, .int .i64 n), (14, .int .i64 v)]) (H0 := [(b1, ⟨1, List.map encInt (out_0 ++ ([(left.getD (Int.toNat (Int.tmod seed1 (left.length : Int))) default)] : List Int))⟩), (ob2, ⟨1, List.map encInt left⟩)]) rfl (⟨_, _, rfl, rfl, _, _, rfl, rfl, _, _, rfl, rfl, _, _, rfl, rfl, _, _, rfl, rfl, _, _, rfl, rfl, rfl⟩) (⟨_, _, rfl, rfl, _, _, rfl, rfl, rfl⟩) rfl ?_
      refine V.seq ?_
      replace hm1 := bindO hm1; rcases hm1 with ⟨y2, hh4, hm1⟩
      refine V.region ?_
      refine VO.cons rfl (V1.move rfl rfl rfl lt0 ?_)
      refine VO.cons rfl (V1.move rfl rfl rfl lt0 ?_)
      refine VO.cons rfl (V1.move rfl rfl rfl lt0 ?_)
      refine VO.cons rfl (V1.int rfl rfl rfl rfl rfl lt0 ?_)
      refine VO.cons rfl (V1.permK (V1.callM 1 (rn + 1) [] [.sref ob2 1 0 (List.length left), .int .i64 (Int.tmod seed1 (left.length : Int)), .int .i64 (IntKind.i64.wrap ((Int.tmod seed1 (left.length : Int)) + (1 : Int)))] (p := (ob2, ⟨1, List.map encInt left⟩)) rfl rfl rfl cok_53 rfl rfl ⟨_, _, rfl, .same _, ⟨_, _, rfl, .same _, ⟨_, _, rfl, .same _, rfl⟩⟩⟩ bwNil (ok_slices_Delete_int_int hh4 (oq := some ob2) (fun e => by cases e)) rfl (.inl rfl) lt0 ?_))
      rintro _ _ ⟨ob4, hob4, rfl, rfl⟩
      refine ⟨_, ?_, Keeps.optBack (n := 1) (ob := ob4) (xs := List.map encInt y2) (H1 := []) (H2 := [(b1, ⟨1, List.map encInt (out_0 ++ ([(left.getD (Int.toNat (Int.tmod seed1 (left.length : Int))) default)] : List Int))⟩)]) rfl⟩
      refine VO.cons rfl (V1.assign rfl rfl rfl lt0 ?_)
      refine VO.nil ?_
      rcases ob4 with _ | ob4
      ·
       refine V.keep 37 [2, 8, 9, 13, 14] [0] (E0 := [(2, .int .i64 seed1), (8, .nils), (9, .sref b1 1 0 (List.length (out_0 ++ ([(left.getD (Int.toNat (Int.tmod seed1 (left.length : Int))) default)] : List Int)))), (13, .int .i64 n), (14, .int .i64 v)]) (H0 := [(b1, ⟨1, List.map encInt (out_0 ++ ([(left.getD (Int.toNat (Int.tmod seed1 (left.length : Int))) default)] : List Int))⟩)]) rfl (⟨_, _, rfl, rfl, _, _, rfl, rfl, _, _, rfl, rfl, _, _, rfl, rfl, _, _, rfl, rfl, rfl⟩) (⟨_, _, rfl, rfl, rfl⟩) rfl ?_
       replace hm1 := bindO hm1; rcases hm1 with ⟨y3, hh5, hm1⟩
       refine V.region ?_
       refine VO.cons rfl (V1.move rfl rfl rfl lt0 ?_)
       refine VO.cons rfl (V1.call rfl rfl rfl cok_43 rfl (ok_impl_nextSeed hh5) rfl lt0 ?_)
       rintro _ _ ⟨rfl, rfl⟩
       refine VO.cons rfl (V1.assign rfl rfl rfl lt0 ?_)
       refine VO.nil ?_
       refine V.region ?_
       refine VO.cons rfl (V1.int rfl rfl rfl rfl rfl lt0 ?_)
       refine VO.cons rfl (V1.move rfl rfl rfl lt0 ?_)
       refine VO.nil ?_
       exact ⟨(m0, (y3, y2, (out_0 ++ ([(left.getD (Int.toNat (Int.tmod seed1 (left.length : Int))) default)] : List Int)), (IntKind.i64.wrap (v + (1 : Int)))), (none, (some b1))), ⟨hl1 _ (Option.some.inj hm1).symm, (fun _ => (hob4 rfl)), (fun e => by cases e)⟩, Nat.lt_succ_self _, Keeps.mk (ks := [0]) rfl ⟨rfl, rfl, rfl, rfl, rfl, trivial⟩ (⟨_, _, rfl, rfl, rfl⟩) rfl⟩
      ·
       refine V.keep 37 [2, 8, 9, 13, 14] [0, 1] (E0 := [(2, .int .i64 seed1), (8, .sref ob4 1 0 (List.length y2)), (9, .sref b1 1 0 (List.length (out_0 ++ ([(left.getD (Int.toNat (Int.tmod seed1 (left.length : Int))) default)] : List Int)))), (13, .int .i64 n), (14, .int .i64 v)]) (H0 := [(b1, ⟨1, List.map encInt (out_0 ++ ([(left.getD (Int.toNat (Int.tmod seed1 (left.length : Int))) default)] : List Int))⟩), (ob4, ⟨1, List.map encInt y2⟩)]) rfl (⟨_, _, rfl, rfl, _, _, rfl, rfl, _, _, rfl, rfl, _, _, rfl, rfl, _, _, rfl, rfl, rfl⟩) (⟨_, _, rfl, rfl, _, _, rfl, rfl, rfl⟩) rfl ?_
       replace hm1 := bindO hm1; rcases hm1 with ⟨y3, hh5, hm1⟩
       refine V.region ?_
       refine VO.cons rfl (V1.move rfl rfl rfl lt0 ?_)
       refine VO.cons rfl (V1.call rfl rfl rfl cok_43 rfl (ok_impl_nextSeed hh5) rfl lt0 ?_)
       rintro _ _ ⟨rfl, rfl⟩
       refine VO.cons rfl (V1.assign rfl rfl rfl lt0 ?_)
       refine VO.nil ?_
       refine V.region ?_
       refine VO.cons rfl (V1.int rfl rfl rfl rfl rfl lt0 ?_)
       refine VO.cons rfl (V1.move rfl rfl rfl lt0 ?_)
       refine VO.nil ?_
       exact ⟨(m0, (y3, y2, (out_0 ++ ([(left.getD (Int.toNat (Int.tmod seed1 (left.length : Int))) default)] : List Int)), (IntKind.i64.wrap (v + (1 : Int)))), ((some ob4), (some b1))), ⟨hl1 _ (Option.some.inj hm1).symm, (fun e => by cases e), (fun e => by cases e)⟩, Nat.lt_succ_self _, Keeps.mk (ks := [1, 0]) rfl ⟨rfl, rfl, rfl, rfl, rfl, trivial⟩ (⟨_, _, rfl, rfl, _, _, rfl, rfl, rfl⟩) rfl⟩
     ·
      replace hm1 := cond_f hc0 hm1
      refine V.exit ?_
      obtain rfl := hr1 _ (Option.some.inj hm1).symm
      exact ⟨((seed1, out_0), none), ⟨rfl, (fun _ => hob3)⟩, Keeps.mk (ks := []) rfl ⟨rfl, rfl, trivial⟩ (rfl) rfl⟩
    ·
     show V _ _ _ ⟨37, [(2, .int .i64 seed1), (8, .sref ob2 1 0 (List.length left)), (9, .sref ob3 1 0 (List.length out_0)), (14, .int .i64 v), (13, .int .i64 n)], [(ob2, ⟨1, List.map encInt left⟩), (ob3, ⟨1, List.map encInt out_0⟩)]⟩
     refine V.seq ?_
     refine V.region ?_
     refine VO.cons rfl (V1.int rfl rfl rfl rfl rfl lt0 ?_)
     refine VO.nil ?_
     refine V.seq ?_
     refine V.cond rfl (fun hc0 => ?_) (fun hc0 => ?_)
     ·
      replace hm1 := cond_t hc0 hm1
      refine V.skip ?_
      refine V.seq ?_
      refine V.block ?_
      refine V.seq ?_
      replace hm1 := asrt_some hm1; rcases hm1 with ⟨hh1, hm1⟩
      refine V.region ?_
      refine VO.cons rfl (V1.move rfl rfl rfl lt0 ?_)
      refine VO.cons rfl (V1.move rfl rfl rfl lt0 ?_)
      refine VO.cons rfl (V1.lenSref rfl rfl rfl rfl rfl rfl isl_24 lt0 ?_)
      refine VO.cons rfl (V1.rem rfl rfl rfl rfl (hh1) lt0 ?_)
      refine VO.cons rfl (V1.assign rfl rfl rfl lt0 ?_)
      refine VO.nil ?_
      refine V.keep 37 [2, 8, 9, 10, 13, 14] [0, 1] (E0 := [(2, .int .i64 seed1), (8, .sref ob2 1 0 (List.length left)), (9, .sref ob3 1 0 (List.length out_0)), (10, .int .i64 (Int.tmod seed1 (left.length : Int))), (13, .int .i64 n), (14, .int .i64 v)]) (H0 := [(ob2, ⟨1, List.map encInt left⟩), (ob3, ⟨1, List.map encInt out_0⟩)]) rfl (⟨_, _, rfl, rfl, _, _, rfl, rfl, _, _, rfl, rfl, _, _, rfl, rfl, _, _, rfl, rfl, _, _, rfl, rfl, rfl⟩) (⟨_, _, rfl, rfl, _, _, rfl, rfl, rfl⟩) rfl ?_
      refine V.seq ?_
      replace hm1 := asrt_some hm1; rcases hm1 with ⟨hh2, hm1⟩
      replace hm1 := asrt_some hm1; rcases hm1 with ⟨hh3, hm1⟩
      refine V.region ?_
      refine VO.cons rfl (V1.move rfl rfl rfl lt0 ?_)
      refine VO.cons rfl (V1.move rfl rfl rfl lt0 ?_)
      refine VO.cons rfl (V1.move rfl rfl rfl lt0 ?_)
      refine VO.cons rfl (V1.indexSr rfl rfl esz_24 rfl rfl hh2 lt0 ?_)
      refine VO.cons rfl (V1.loadMap (k := 0) (f := encInt) rfl rfl tyk_3 rfl rfl (by simpa using natLt hh2.1 hh2.2) rfl lt0 ?_)
      refine VO.cons rfl (V1.buildSliceT (f := encInt) ([(left.getD (Int.toNat (Int.tmod seed1 (left.length : Int))) default)] : List Int) rfl rfl esz_24 zk_3 rfl rfl rfl rfl rfl rfl rfl lt0 ?_)
      intro b0
      refine VO.cons rfl (V1.appendMap (k := 2) (f := encInt) (l := out_0) (m := ([(left.getD (Int.toNat (Int.tmod seed1 (left.length : Int))) default)] : List Int)) rfl rfl rfl rfl rfl esz_24 eby_24 zk_3 rfl rfl rfl (SrcOf.srMap (k := 0) rfl isl_24) hh3 lt0 ?_)
      intro b1
      refine VO.cons rfl (V1.assign rfl rfl rfl lt0 ?_)
      refine VO.nil ?_
      refine V.keep 37 [2, 8, 9, 10, 13, 14] [0, 2] (E0 := [(2, .int .i64 seed1), (8, .sref ob2 1 0 (List.length left)), (9, .sref b1 1 0 (List.length (out_0 ++ ([(left.getD (Int.toNat (Int.tmod seed1 (left.length : Int))) default)] : List Int)))), (10, .int .i64 (Int.tmod seed1 (left.length : Int))), (13, .int .i64 n), (14, .int .i64 v)]) (H0 := [(b1, ⟨1, List.map encInt (out_0 ++ ([(left.getD (Int.toNat (Int.tmod seed1 (left.length : Int))) default)] : List Int))⟩), (ob2, ⟨1, List.map encInt left⟩)]) rfl (⟨_, _, rfl, rfl, _, _, rfl, rfl, _, _, rfl, rfl, _, _, rfl, rfl, _, _, rfl, rfl, _, _, rfl, rfl, rfl⟩) (⟨_, _, rfl, rfl, _, _, rfl, rfl, rfl⟩) rfl ?_
      refine V.seq ?_
      replace hm1 := bindO hm1; rcases hm1 with ⟨y2, hh4, hm1⟩
      refine V.region ?_
      refine VO.cons rfl (V1.move rfl rfl rfl lt0 ?_)
      refine VO.cons rfl (V1.move rfl rfl rfl lt0 ?_)
      refine VO.cons rfl (V1.move rfl rfl rfl lt0 ?_)
      refine VO.cons rfl (V1.int rfl rfl rfl rfl rfl lt0 ?_)
      refine VO.cons rfl (V1.permK (V1.callM 1 (rn + 1) [] [.sref ob2 1 0 (List.length left), .int .i64 (Int.tmod seed1 (left.length : Int)), .int .i64 (IntKind.i64.wrap ((Int.tmod seed1 (left.length : Int)) + (1 : Int)))] (p := (ob2, ⟨1, List.map encInt left⟩)) rfl rfl rfl cok_53 rfl rfl ⟨_, _, rfl, .same _, ⟨_, _, rfl, .same _, ⟨_, _, rfl, .same _, rfl⟩⟩⟩ bwNil (ok_slices_Delete_int_int hh4 (oq := some ob2) (fun e => by cases e)) rfl (.inl rfl) lt0 ?_))
      rintro _ _ ⟨ob4, hob4, rfl, rfl⟩
      refine ⟨_, ?_, Keeps.optBack (n := 1) (ob := ob4) (xs := List.map encInt y2) (H1 := []) (H2 := [(b1, ⟨1, List.map encInt (out_0 ++ ([(left.getD (Int.toNat (Int.tmod seed1 (left.length : Int))) default)] : List Int))⟩)]) rfl⟩
      refine VO.cons rfl (V1.assign rfl rfl rfl lt0 ?_)
      refine VO.nil ?_
      rcases ob4 with _ | ob4
      ·
       refine V.keep 37 [2, 8, 9, 13, 14] [0] (E0 := [(2, .int .i64 seed1), (8, .nils), (9, .sref b1 1 0 (List.length (out_0 ++ ([(left.getD (Int.toNat (Int.tmod seed1 (left.length : Int))) default)] : List Int)))), (13, .int .i64 n), (14, .int .i64 v)]) (H0 := [(b1, ⟨1, List.map encInt (out_0 ++ ([(left.getD (Int.toNat (Int.tmod seed1 (left.length : Int))) default)] : List Int))⟩)]) rfl (⟨_, _, rfl, rfl, _, _, rfl, rfl, _, _, rfl, rfl, _, _, rfl, rfl, _, _, rfl, rfl, rfl⟩) (⟨_, _, rfl, rfl, rfl⟩) rfl ?_
       replace hm1 := bindO hm1; rcases hm1 with ⟨y3, hh5, hm1⟩
       refine V.region ?_
       refine VO.cons rfl (V1.move rfl rfl rfl lt0 ?_)
       refine VO.cons rfl (V1.call rfl rfl rfl cok_43 rfl (ok_impl_nextSeed hh5) rfl lt0 ?_)
       rintro _ _ ⟨rfl, rfl⟩
       refine VO.cons rfl (V1.assign rfl rfl rfl lt0 ?_)
       refine VO.nil ?_
       refine V.region ?_
       refine VO.cons rfl (V1.int rfl rfl rfl rfl rfl lt0 ?_)
       refine VO.cons rfl (V1.move rfl rfl rfl lt0 ?_)
       refine VO.nil ?_
       exact ⟨(m0, (y3, y2, (out_0 ++ ([(left.getD (Int.toNat (Int.tmod seed1 (left.length : Int))) default)] : List Int)), (IntKind.i64.wrap (v + (1 : Int)))), (none, (some b1))), ⟨hl1 _ (Option.some.inj hm1).symm, (fun _ => (hob4 rfl)), (fun e => by cases e)⟩, Nat.lt_succ_self _, Keeps.mk (ks := [0]) rfl ⟨rfl, rfl, rfl, rfl, rfl, trivial⟩ (⟨_, _, rfl, rfl, rfl⟩) rfl⟩
      ·
       refine V.keep 37 [2, 8, 9, 13, 14] [0, 1] (E0 := [(2, .int .i64 seed1), (8, .sref ob4 1 0 (List.length y2)), (9, .sref b1 1 0 (List.length (out_0 ++ ([(left.getD (Int.toNat (Int.tmod seed1 (left.length : Int))) default)] : List Int)))), (13, .int .i64 n), (14, .int .i64 v)]) (H0 := [(b1, ⟨1, List.map encInt (out_0 ++ ([(left.getD (Int.toNat (Int.tmod seed1 (left.length : Int))) default)] : List Int))⟩), (ob4, ⟨1, List.map encInt y2⟩)]) rfl (⟨_, _, rfl, rfl, _, _, rfl, rfl, _, _, rfl, rfl, _, _, rfl, rfl, _, _, rfl, rfl, rfl⟩) (⟨_, _, rfl, rfl, _, _, rfl, rfl, rfl⟩) rfl ?_
       replace hm1 := bindO hm1; rcases hm1 with ⟨y3, hh5, hm1⟩
       refine V.region ?_
       refine VO.cons rfl (V1.move rfl rfl rfl lt0 ?_)
       refine VO.cons rfl (V1.call rfl rfl rfl cok_43 rfl (ok_impl_nextSeed hh5) rfl lt0 ?_)
       rintro _ _ ⟨rfl, rfl⟩
       refine VO.cons rfl (V1.assign rfl rfl rfl lt0 ?_)
       refine VO.nil ?_
       refine V.region ?_
       refine VO.cons rfl (V1.int rfl rfl rfl rfl rfl lt0 ?_)
       refine VO.cons rfl (V1.move rfl rfl rfl lt0 ?_)
       refine VO.nil ?_
       exact ⟨(m0, (y3, y2, (out_0 ++ ([(left.getD (Int.toNat (Int.tmod seed1 (left.length : Int))) default)] : List Int)), (IntKind.i64.wrap (v + (1 : Int)))), ((some ob4), (some b1))), ⟨hl1 _ (Option.some.inj hm1).symm, (fun e => by cases e), (fun e => by cases e)⟩, Nat.lt_succ_self _, Keeps.mk (ks := [1, 0]) rfl ⟨rfl, rfl, rfl, rfl, rfl, trivial⟩ (⟨_, _, rfl, rfl, _, _, rfl, rfl, rfl⟩) rfl⟩
     ·
      replace hm1 := cond_f hc0 hm1
      refine V.exit ?_
      obtain rfl := hr1 _ (Option.some.inj hm1).symm
      exact ⟨((seed1, out_0), (some ob3)), ⟨rfl, (fun e => by cases e)⟩, Keeps.mk (ks := [1]) rfl ⟨rfl, rfl, trivial⟩ (⟨_, _, rfl, rfl, rfl⟩) rfl⟩
  ·
   rintro ⟨⟨seed0, out_⟩, ob1⟩ ⟨rfl, hob1⟩
   try dsimp only at hm0
   rcases ob1 with _ | ob1
   ·
    replace hob1 := hob1 rfl
    refine V.seq ?_
    refine V.region ?_
    refine VO.cons rfl (V1.move rfl rfl rfl lt0 ?_)
    refine VO.cons rfl (V1.move rfl rfl rfl lt0 ?_)
    refine VO.cons rfl (V1.assign rfl rfl rfl lt0 ?_)
    refine VO.cons rfl (V1.assign rfl rfl rfl lt0 ?_)
    refine VO.nil ?_
    refine V.keep 37 [6, 7] [] (E0 := [(6, .nils), (7, .int .i64 seed0)]) (H0 := []) rfl (⟨_, _, rfl, rfl, _, _, rfl, rfl, rfl⟩) (rfl) rfl ?_
    refine V.ret ?_
    obtain rfl := Option.some.inj hm0
    exact ⟨_, _, ⟨_, _, rfl, rfl, _, _, rfl, rfl, rfl⟩, List.Sublist.refl _, none, (fun _ => hob1), rfl, rfl⟩
   ·
    refine V.seq ?_
    refine V.region ?_
    refine VO.cons rfl (V1.move rfl rfl rfl lt0 ?_)
    refine VO.cons rfl (V1.move rfl rfl rfl lt0 ?_)
    refine VO.cons rfl (V1.assign rfl rfl rfl lt0 ?_)
    refine VO.cons rfl (V1.assign rfl rfl rfl lt0 ?_)
    refine VO.nil ?_
    refine V.keep 37 [6, 7] [0] (E0 := [(6, .sref ob1 1 0 (List.length out_)), (7, .int .i64 seed0)]) (H0 := [(ob1, ⟨1, List.map encInt out_⟩)]) rfl (⟨_, _, rfl, rfl, _, _, rfl, rfl, rfl⟩) (⟨_, _, rfl, rfl, rfl⟩) rfl ?_
    refine V.ret ?_
    obtain rfl := Option.some.inj hm0
    exact ⟨_, _, ⟨_, _, rfl, rfl, _, _, rfl, rfl, rfl⟩, List.Sublist.refl _, some ob1, (fun e => by cases e), rfl, rfl⟩

theorem ok_slices_Sort_int_int {rn : Nat} {oq : Option Nat} {s r : List Int} (h : M.slices_Sort_int_int s = some r) (hoq : oq = none → s = []) : Does Try.prog 36 [optS 1 oq (List.length s)] (optH 1 oq (List.map encInt s)) rn (fun x H => x = .tup [] ∧ H = optH 1 oq (List.map encInt r)) := by
 unfold M.slices_Sort_int_int at h
 obtain ⟨h1, h⟩ := asrt_some h
 obtain rfl := Option.some.inj h; clear h
 exact Does.sortI hoq (fun blk off cap zs w h1 h2 h3 => Go.Proofs.Any.slices_Sort_int Go.Proofs.Try.lays189 blk off cap zs w h1 h2 h3) (fun p cap w => Go.Proofs.Any.slices_Sort_int_none Go.Proofs.Try.lays189 p cap w) h1

theorem umap_61 : Try.prog.underlying 61 = some (.map 3 24) := by kernel_rfl

theorem ok_impl_SampleBySeries {ρ0 σ0 rn : Nat} {list : List Record} {percent : Int} {seed : Int} {r : List Int × Bool} (h : M.impl_SampleBySeries list percent seed = some r) : Does Try.prog 14 [.vl ρ0 4 (List.map (encRecord σ0) list), .int .i64 percent, .int .i64 seed] [] rn (fun x H => ∃ (ob0_ : Option Nat), (ob0_ = none → r.1 = []) ∧ x = .tup [optS 1 ob0_ (List.length r.1), .bool r.2] ∧ H = optH 1 ob0_ (List.map encInt r.1)) := by
 have hm0 := h; clear h; unfold M.impl_SampleBySeries at hm0
 try dsimp only at hm0
 refine Does.intro (N := 72) Try.func14 rfl rfl rfl rfl ?_
 intro w0 S0 L0
 refine V.seq ?_
 refine V.region ?_
 refine VO.cons rfl (V1.assign rfl rfl rfl lt0 ?_)
 refine VO.cons rfl (V1.assign rfl rfl rfl lt0 ?_)
 refine VO.nil ?_
 refine V.seq ?_
 refine V.seq ?_
 replace hm0 := bindO hm0; rcases hm0 with ⟨y0, hh0, hm0⟩
 replace hm0 := bindO hm0; rcases hm0 with ⟨y1, hh1, hm0⟩
 replace hm0 := bindO hm0; rcases hm0 with ⟨y2, hh2, hm0⟩
 refine V.region ?_
 refine VO.cons rfl (V1.move rfl rfl rfl lt0 ?_)
 refine VO.cons rfl (V1.call rfl rfl rfl cok_33 rfl (ok_impl_AreRecords hh0) rfl lt0 ?_)
 rintro _ _ ⟨rfl, rfl⟩
 refine VO.cons rfl (V1.not rfl rfl rfl lt0 ?_)
 refine VO.cons rfl (V1.move rfl rfl rfl lt0 ?_)
 apply VO.or (n := 3) rfl rfl rfl rfl rfl rfl lt0 (.none rfl)
 ·
  intro hg0
  refine VO.step (.some rfl rfl rfl) (V1.move rfl rfl rfl lt0 ?_)
  refine VO.step (.some rfl rfl rfl) (V1.call rfl rfl rfl cok_26 rfl (ok_impl_within (cond_f hg0 hh1)) rfl lt0 ?_)
  rintro _ _ ⟨rfl, rfl⟩
  refine VO.step (.some rfl rfl rfl) (V1.not rfl rfl rfl lt0 ?_)
  exact VO.nil ⟨rfl, rfl, rfl, rfl, .inr ⟨rfl, .inr ⟨rfl, .inr ⟨rfl, .inr ⟨rfl, .inl rfl⟩⟩⟩⟩⟩
 refine VO.cons rfl (V1.move rfl rfl rfl lt0 ?_)
 apply VO.or (n := 3) rfl rfl rfl rfl rfl rfl lt0 (.none rfl)
 ·
  intro hg1
  refine VO.step (.some rfl rfl rfl) (V1.move rfl rfl rfl lt0 ?_)
  refine VO.step (.some rfl rfl rfl) (V1.call rfl rfl rfl cok_34 rfl (ok_impl_isSeed (cond_f hg1 hh2)) rfl lt0 ?_)
  rintro _ _ ⟨rfl, rfl⟩
  refine VO.step (.some rfl rfl rfl) (V1.not rfl rfl rfl lt0 ?_)
  exact VO.nil ⟨rfl, rfl, rfl, rfl, .inr ⟨rfl, .inr ⟨rfl, .inr ⟨rfl, .inr ⟨rfl, .inl rfl⟩⟩⟩⟩⟩
 refine VO.nil ?_
 refine V.keep 72 [0, 1, 2, 28] [] (E0 := [(0, .vl ρ0 4 (List.map (encRecord σ0) list)), (1, .int .i64 percent), (2, .int .i64 seed), (28, .bool (((!y0) || (!y1)) || (!y2)))]) (H0 := []) rfl (⟨_, _, rfl, rfl, _, _, rfl, rfl, _, _, rfl, rfl, _, _, rfl, rfl, rfl⟩) (rfl) rfl ?_
 refine V.cond rfl (fun hc0 => ?_) (fun hc0 => ?_)
 ·
  replace hm0 := cond_t hc0 hm0
  refine V.seq ?_
  refine V.region ?_
  refine VO.cons rfl (V1.assign rfl rfl rfl lt0 ?_)
  refine VO.cons rfl (V1.assign rfl rfl rfl lt0 ?_)
  refine VO.nil ?_
  refine V.keep 72 [6, 7] [] (E0 := [(6, .nils), (7, .bool false)]) (H0 := []) rfl (⟨_, _, rfl, rfl, _, _, rfl, rfl, rfl⟩) (rfl) rfl ?_
  refine V.ret ?_
  obtain rfl := Option.some.inj hm0
  exact ⟨_, _, ⟨_, _, rfl, rfl, _, _, rfl, rfl, rfl⟩, List.Sublist.refl _, none, (fun _ => rfl), rfl, rfl⟩
 ·
  replace hm0 := cond_f hc0 hm0
  refine V.skip ?_
  refine V.seq ?_
  refine V.region ?_
  refine VO.cons rfl (V1.mapMade rfl rfl lt0 ?_)
  intro bm hbm
  refine VO.cons rfl (V1.assign rfl rfl rfl lt0 ?_)
  refine VO.nil ?_
  refine V.seq ?_
  refine V.seq ?_
  refine V.region ?_
  refine VO.cons rfl (V1.move rfl rfl rfl lt0 ?_)
  refine VO.cons rfl (V1.lenMap rfl rfl rfl rfl rfl rfl isl_34 lt0 ?_)
  refine VO.cons rfl (V1.move rfl rfl rfl lt0 ?_)
  refine VO.nil ?_
  replace hm0 := bindO hm0; rcases hm0 with ⟨y3, hh3, hm0⟩
  refine V.cutT (D := Grp) (fun gs_ => ⟨72, [(1, .int .i64 percent), (2, .int .i64 seed), (8, .mp rn bm (gKeys gs_) (gVls rn gs_))], []⟩) (fun gs_ => gMod gs_ = y3) ?_ ?_
  ·
   have recNo : ∀ x : Record, PV.noMp ((encRecord σ0) x) = true := fun x => by simp [PV.noMp, PV.noMpL, noMpL_map (f := encEvent) (fun _ => rfl)]
   refine V.block ?_
   refine V.keep 72 [8, 32, 1, 2, 30, 31] [] (E0 := [(8, .mp rn bm [] []), (32, .int .i64 (0 : Int)), (1, .int .i64 percent), (2, .int .i64 seed), (30, .vl ρ0 4 (List.map (encRecord σ0) list)), (31, .int .i64 (list.length : Int))]) (H0 := []) rfl (⟨_, _, rfl, rfl, _, _, rfl, rfl, _, _, rfl, rfl, _, _, rfl, rfl, _, _, rfl, rfl, _, _, rfl, rfl, rfl⟩) rfl rfl ?_
   refine V.loopT (D := Nat × Grp × Int) (fun ⟨nq, gs, v⟩ => [(8, .mp rn bm (gKeys gs) (gTrees gs)), (32, .int .i64 v)]) (fun ⟨nq, gs, v⟩ => gRows gs) (fun ⟨nq, gs, v⟩ => loopO (M.impl_SampleBySeries_g0 list) nq (gMod gs, v) = some y3) (fun ⟨nq, _, _⟩ => nq) (rounds, ([] : Grp), (0 : Int)) rfl hh3 ?_
   rintro ⟨nq, gs, v⟩ hPq
   obtain ⟨mq, yq, rfl, hmq, hlq, hrq⟩ := loop_head hPq
   unfold M.impl_SampleBySeries_g0 at hmq; dsimp only at hmq
   show V _ _ _ ⟨72, [(8, .mp rn bm (gKeys gs) (gTrees gs)), (32, .int .i64 v), (1, .int .i64 percent), (2, .int .i64 seed), (30, .vl ρ0 4 (List.map (encRecord σ0) list)), (31, .int .i64 (list.length : Int))], gRows gs⟩
   refine V.seq ?_
   refine V.region ?_
   refine VO.cons rfl (V1.int rfl rfl rfl rfl rfl lt0 ?_)
   refine VO.nil ?_
   refine V.seq ?_
   refine V.cond rfl (fun hcq => ?_) (fun hcq => ?_)
   ·
    replace hmq := cond_t hcq hmq
    replace hmq := asrt_some hmq; rcases hmq with ⟨hh2q, hmq⟩
    replace hmq := asrt_some hmq; rcases hmq with ⟨hh3q, hmq⟩
    refine V.skip ?_
    refine V.seq ?_
    refine V.cutT (D := Grp) (fun gs2 => ⟨72, [(8, .mp rn bm (gKeys gs2) (gTrees gs2)), (32, .int .i64 v), (1, .int .i64 percent), (2, .int .i64 seed), (30, .vl ρ0 4 (List.map (encRecord σ0) list)), (31, .int .i64 (list.length : Int))], gRows gs2⟩) (fun gs2 => gMod gs2 = gPut ((List.getD list (Int.toNat v) default).Series) ((List.getD list (Int.toNat v) default).Id) (gMod gs)) ?_ ?_
    ·
     refine V.block ?_
     refine V.seq ?_
     refine V.region ?_
     refine VO.cons rfl (V1.indexI rfl rfl esz_34 rfl rfl hh2q lt0 ?_)
     refine VO.cons rfl (V1.loadPinAll rfl rfl tyk_41 rfl rfl lt0 ?_)
     refine VO.cons rfl (V1.alloc rfl rfl zk_41 lt0 ?_)
     intro b0q
     refine VO.cons rfl (V1.storeRefAll (k := 0) rfl rfl tyk_41 rfl rfl rfl rfl rfl rfl ?_)
     refine VO.nil ?_
     rcases gSplit ((List.getD list (Int.toNat v) default).Series) gs with ⟨g1, g2, g3⟩ | ⟨bkq, rest, g1, g3, g4, g5⟩
     ·
      refine V.keepT 72 [8, 10, 32, 1, 2, 30, 31] [0] (E0 := [(8, .mp rn bm (gKeys gs) (gTrees gs)), (10, .ref b0q 4 0 0), (32, .int .i64 v), (1, .int .i64 percent), (2, .int .i64 seed), (30, .vl ρ0 4 (List.map (encRecord σ0) list)), (31, .int .i64 (list.length : Int))]) (A := [(b0q, ⟨4, [encRecord σ0 (List.getD list (Int.toNat v) default)]⟩)]) (T := gRows gs) (H0 := [(b0q, ⟨4, [encRecord σ0 (List.getD list (Int.toNat v) default)]⟩)]) (T' := gRows gs) rfl (⟨_, _, rfl, rfl, _, _, rfl, rfl, _, _, rfl, rfl, _, _, rfl, rfl, _, _, rfl, rfl, _, _, rfl, rfl, _, _, rfl, rfl, rfl⟩) rfl (⟨_, _, rfl, rfl, rfl⟩) rfl (List.Sublist.refl _) ?_
      refine V.regionS [(b0q, ⟨4, [encRecord σ0 (List.getD list (Int.toNat v) default)]⟩)] 72 11 [⟨[(8, none)], false⟩, ⟨[(10, none)], false⟩, ⟨[(37, some 1)], false⟩, ⟨[(8, none)], false⟩, ⟨[(10, none)], false⟩, ⟨[(40, some 4)], false⟩, ⟨[(39, some 3), (41, some 5)], false⟩, ⟨[(10, none)], false⟩, ⟨[(43, some 7)], false⟩, ⟨[(44, some 8)], true⟩, ⟨[(42, some 6), (45, some 9)], true⟩] [(1, none), (2, none), (8, none), (30, none), (31, none), (32, none), (36, some 0), (38, some 2), (46, some 10)] 2 (⟨_, rfl, ⟨_, rfl, ⟨_, rfl, ⟨_, rfl, ⟨_, rfl, ⟨_, rfl, ⟨_, rfl, ⟨_, rfl, ⟨_, rfl, ⟨_, rfl, ⟨_, rfl, ⟨rfl, rfl⟩⟩⟩⟩⟩⟩⟩⟩⟩⟩⟩⟩) mixed_orders rfl (by decide +kernel) ?_
      refine WalkP.step (p := ?pv74) 0 rfl rfl rfl rfl rfl (⟨_, _, rfl, rfl, rfl⟩) ?hv74 ?rest74
      case hv74 =>
       intro E1 H1 hI1
       refine (V1.move rfl rfl rfl lt0 ?_)
       exact rfl
      refine WalkP.step (p := ?pv75) 1 rfl rfl rfl rfl rfl (⟨_, _, rfl, rfl, rfl⟩) ?hv75 ?rest75
      case hv75 =>
       intro E1 H1 hI1
       refine (V1.fieldRef rfl rfl fo_41_1 rfl lt0 ?_)
       exact rfl
      refine WalkP.step (p := ?pv76) 2 rfl rfl rfl rfl rfl (⟨_, _, rfl, rfl, rfl⟩) ?hv76 ?rest76
      case hv76 =>
       intro E1 H1 hI1
       obtain ⟨kq, hkq⟩ := inGet 0 rfl hI1
       refine (V1.loadRef (k := kq) rfl rfl tyk_3 rfl hkq rfl rfl rfl lt0 ?_)
       exact rfl
      refine WalkP.step (p := ?pv77) 3 rfl rfl rfl rfl rfl (⟨_, _, rfl, rfl, rfl⟩) ?hv77 ?rest77
      case hv77 =>
       intro E1 H1 hI1
       refine (V1.move rfl rfl rfl lt0 ?_)
       exact rfl
      refine WalkP.step (p := ?pv78) 4 rfl rfl rfl rfl rfl (⟨_, _, rfl, rfl, rfl⟩) ?hv78 ?rest78
      case hv78 =>
       intro E1 H1 hI1
       refine (V1.fieldRef rfl rfl fo_41_1 rfl lt0 ?_)
       exact rfl
      refine WalkP.step (p := ?pv79) 5 rfl rfl rfl rfl rfl (⟨_, _, rfl, rfl, rfl⟩) ?hv79 ?rest79
      case hv79 =>
       intro E1 H1 hI1
       obtain ⟨kq, hkq⟩ := inGet 0 rfl hI1
       refine (V1.loadRef (k := kq) rfl rfl tyk_3 rfl hkq rfl rfl rfl lt0 ?_)
       exact rfl
      refine WalkP.step (p := ?pv80) 6 rfl rfl rfl rfl rfl (⟨_, _, rfl, rfl, _, _, rfl, rfl, rfl⟩) ?hv80 ?rest80
      case hv80 =>
       intro E1 H1 hI1
       refine (V1.lookupIs g1 rfl rfl umap_61 und_3 zk_24 rfl rfl lt0 ?_)
       exact rfl
      refine WalkP.step (p := ?pv81) 7 rfl rfl rfl rfl rfl (⟨_, _, rfl, rfl, rfl⟩) ?hv81 ?rest81
      case hv81 =>
       intro E1 H1 hI1
       refine (V1.fieldRef rfl rfl fo_41_0 rfl lt0 ?_)
       exact rfl
      refine WalkP.step (p := ?pv82) 8 rfl rfl rfl rfl rfl (⟨_, _, rfl, rfl, rfl⟩) ?hv82 ?rest82
      case hv82 =>
       intro E1 H1 hI1
       obtain ⟨kq, hkq⟩ := inGet 0 rfl hI1
       refine (V1.loadRef (k := kq) rfl rfl tyk_3 rfl hkq rfl rfl rfl lt0 ?_)
       exact rfl
      refine WalkP.nil ?_
      refine NodeS.branch [9] (inCons 0 rfl inNil) rfl rfl rfl ⟨?_, trivial⟩
      ·
       refine ⟨_, _, _, _, rfl, rfl, rfl, (⟨_, _, rfl, rfl, rfl⟩), fun E1 => ?_⟩
       refine (V1.buildSliceT (f := encInt) ([((List.getD list (Int.toNat v) default).Id)] : List Int) rfl rfl esz_24 zk_3 rfl rfl rfl rfl rfl rfl rfl lt0 ?_)
       intro b8q
       refine ⟨_, _, rfl, ?_⟩
       refine WalkP.nil ?_
       refine NodeS.branch [10] (inCons 1 rfl inNil) rfl rfl rfl ⟨?_, trivial⟩
       ·
        refine ⟨_, _, _, _, rfl, rfl, rfl, (⟨_, _, rfl, rfl, _, _, rfl, rfl, rfl⟩), fun E1 => ?_⟩
        refine (V1.appendNilE (f := encInt) (l := gAt ((List.getD list (Int.toNat v) default).Series) (gMod gs)) (m := ([((List.getD list (Int.toNat v) default).Id)] : List Int)) g2 rfl rfl rfl rfl rfl esz_24 eby_24 zk_3 rfl rfl rfl (SrcOf.srMap (k := 0) rfl isl_24) rfl hh3q lt0 ?_)
        intro b9q
        refine ⟨_, _, rfl, ?_⟩
        refine WalkP.nil ?_
        refine NodeS.fin (inCons 2 rfl inNil) rfl rfl rfl (⟨_, _, rfl, rfl, _, _, rfl, rfl, _, _, rfl, rfl, _, _, rfl, rfl, _, _, rfl, rfl, _, _, rfl, rfl, _, _, rfl, rfl, _, _, rfl, rfl, _, _, rfl, rfl, rfl⟩) ?_
        refine VO.cons rfl (V1.mapUpdate [(8, .mp rn bm (mpPutK ((List.getD list (Int.toNat v) default).Series) (gKeys gs)) (mpPutX ((List.getD list (Int.toNat v) default).Series) (.sref b9q 1 0 (List.length (gAt ((List.getD list (Int.toNat v) default).Series) (gMod gs) ++ [((List.getD list (Int.toNat v) default).Id)]))) (gKeys gs) (gTrees gs))), (32, .int .i64 v), (1, .int .i64 percent), (2, .int .i64 seed), (30, .vl ρ0 4 (List.map (encRecord σ0) list)), (31, .int .i64 (list.length : Int))] rfl rfl umap_61 und_3 rfl rfl rfl rfl (gTrees_noMp gs) hbm (noMpH (noMpL_map (fun _ => rfl) _) (noMpH (noMpL_map (fun _ => rfl) _) (noMpH (by simp only [PV.noMpL, recNo, Bool.and_self]) gRows_noMp))) ⟨.inr ⟨rfl, rfl⟩, ⟨.inl ⟨rfl, rfl⟩, ⟨.inl ⟨rfl, rfl⟩, ⟨.inl ⟨rfl, rfl⟩, ⟨.inl ⟨noMpL_map recNo _, rfl⟩, ⟨.inl ⟨rfl, rfl⟩, trivial⟩⟩⟩⟩⟩⟩ ?_)
        refine VO.nil ?_
        refine ⟨gsPut ((List.getD list (Int.toNat v) default).Series) b9q ((List.getD list (Int.toNat v) default).Id) gs, gMod_put gs, ?_⟩
        rw [gKeys_put, gTrees_put]
        exact (Keeps.sub ((b9q, ⟨1, List.map encInt (gAt ((List.getD list (Int.toNat v) default).Series) (gMod gs) ++ [((List.getD list (Int.toNat v) default).Id)])⟩) :: gRows gs) (List.Sublist.cons_cons _ (List.Sublist.cons _ (List.Sublist.cons _ (List.Sublist.refl _))))).trans (Keeps.perm _ (g3 b9q _).symm)
     ·
      refine V.weakenK (Keeps.perm ((b0q, ⟨4, [encRecord σ0 (List.getD list (Int.toNat v) default)]⟩) :: (bkq, ⟨1, List.map encInt (gAt ((List.getD list (Int.toNat v) default).Series) (gMod gs))⟩) :: rest) (g3.cons _)) ?_
      refine V.keepT 72 [8, 10, 32, 1, 2, 30, 31] [0, 1] (E0 := [(8, .mp rn bm (gKeys gs) (gTrees gs)), (10, .ref b0q 4 0 0), (32, .int .i64 v), (1, .int .i64 percent), (2, .int .i64 seed), (30, .vl ρ0 4 (List.map (encRecord σ0) list)), (31, .int .i64 (list.length : Int))]) (A := [(b0q, ⟨4, [encRecord σ0 (List.getD list (Int.toNat v) default)]⟩), (bkq, ⟨1, List.map encInt (gAt ((List.getD list (Int.toNat v) default).Series) (gMod gs))⟩)]) (T := rest) (H0 := [(b0q, ⟨4, [encRecord σ0 (List.getD list (Int.toNat v) default)]⟩), (bkq, ⟨1, List.map encInt (gAt ((List.getD list (Int.toNat v) default).Series) (gMod gs))⟩)]) (T' := rest) rfl (⟨_, _, rfl, rfl, _, _, rfl, rfl, _, _, rfl, rfl, _, _, rfl, rfl, _, _, rfl, rfl, _, _, rfl, rfl, _, _, rfl, rfl, rfl⟩) rfl (⟨_, _, rfl, rfl, _, _, rfl, rfl, rfl⟩) rfl (List.Sublist.refl _) ?_
      refine V.regionS [(b0q, ⟨4, [encRecord σ0 (List.getD list (Int.toNat v) default)]⟩)] 72 11 [⟨[(8, none)], false⟩, ⟨[(10, none)], false⟩, ⟨[(37, some 1)], false⟩, ⟨[(8, none)], false⟩, ⟨[(10, none)], false⟩, ⟨[(40, some 4)], false⟩, ⟨[(39, some 3), (41, some 5)], false⟩, ⟨[(10, none)], false⟩, ⟨[(43, some 7)], false⟩, ⟨[(44, some 8)], true⟩, ⟨[(42, some 6), (45, some 9)], true⟩] [(1, none), (2, none), (8, none), (30, none), (31, none), (32, none), (36, some 0), (38, some 2), (46, some 10)] 2 (⟨_, rfl, ⟨_, rfl, ⟨_, rfl, ⟨_, rfl, ⟨_, rfl, ⟨_, rfl, ⟨_, rfl, ⟨_, rfl, ⟨_, rfl, ⟨_, rfl, ⟨_, rfl, ⟨rfl, rfl⟩⟩⟩⟩⟩⟩⟩⟩⟩⟩⟩⟩) mixed_orders rfl (by decide +kernel) ?_
      refine WalkP.step (p := ?pv83) 0 rfl rfl rfl rfl rfl (⟨_, _, rfl, rfl, rfl⟩) ?hv83 ?rest83
      case hv83 =>
       intro E1 H1 hI1
       refine (V1.move rfl rfl rfl lt0 ?_)
       exact rfl
      refine WalkP.step (p := ?pv84) 1 rfl rfl rfl rfl rfl (⟨_, _, rfl, rfl, rfl⟩) ?hv84 ?rest84
      case hv84 =>
       intro E1 H1 hI1
       refine (V1.fieldRef rfl rfl fo_41_1 rfl lt0 ?_)
       exact rfl
      refine WalkP.step (p := ?pv85) 2 rfl rfl rfl rfl rfl (⟨_, _, rfl, rfl, rfl⟩) ?hv85 ?rest85
      case hv85 =>
       intro E1 H1 hI1
       obtain ⟨kq, hkq⟩ := inGet 0 rfl hI1
       refine (V1.loadRef (k := kq) rfl rfl tyk_3 rfl hkq rfl rfl rfl lt0 ?_)
       exact rfl
      refine WalkP.step (p := ?pv86) 3 rfl rfl rfl rfl rfl (⟨_, _, rfl, rfl, rfl⟩) ?hv86 ?rest86
      case hv86 =>
       intro E1 H1 hI1
       refine (V1.move rfl rfl rfl lt0 ?_)
       exact rfl
      refine WalkP.step (p := ?pv87) 4 rfl rfl rfl rfl rfl (⟨_, _, rfl, rfl, rfl⟩) ?hv87 ?rest87
      case hv87 =>
       intro E1 H1 hI1
       refine (V1.fieldRef rfl rfl fo_41_1 rfl lt0 ?_)
       exact rfl
      refine WalkP.step (p := ?pv88) 5 rfl rfl rfl rfl rfl (⟨_, _, rfl, rfl, rfl⟩) ?hv88 ?rest88
      case hv88 =>
       intro E1 H1 hI1
       obtain ⟨kq, hkq⟩ := inGet 0 rfl hI1
       refine (V1.loadRef (k := kq) rfl rfl tyk_3 rfl hkq rfl rfl rfl lt0 ?_)
       exact rfl
      refine WalkP.step (p := ?pv89) 6 rfl rfl rfl rfl rfl (⟨_, _, rfl, rfl, _, _, rfl, rfl, rfl⟩) ?hv89 ?rest89
      case hv89 =>
       intro E1 H1 hI1
       refine (V1.lookupIs g1 rfl rfl umap_61 und_3 zk_24 rfl rfl lt0 ?_)
       exact rfl
      refine WalkP.step (p := ?pv90) 7 rfl rfl rfl rfl rfl (⟨_, _, rfl, rfl, rfl⟩) ?hv90 ?rest90
      case hv90 =>
       intro E1 H1 hI1
       refine (V1.fieldRef rfl rfl fo_41_0 rfl lt0 ?_)
       exact rfl
      refine WalkP.step (p := ?pv91) 8 rfl rfl rfl rfl rfl (⟨_, _, rfl, rfl, rfl⟩) ?hv91 ?rest91
      case hv91 =>
       intro E1 H1 hI1
       obtain ⟨kq, hkq⟩ := inGet 0 rfl hI1
       refine (V1.loadRef (k := kq) rfl rfl tyk_3 rfl hkq rfl rfl rfl lt0 ?_)
       exact rfl
      refine WalkP.nil ?_
      refine NodeS.branch [9] (inCons 0 rfl inNil) rfl rfl rfl ⟨?_, trivial⟩
      ·
       refine ⟨_, _, _, _, rfl, rfl, rfl, (⟨_, _, rfl, rfl, rfl⟩), fun E1 => ?_⟩
       refine (V1.buildSliceT (f := encInt) ([((List.getD list (Int.toNat v) default).Id)] : List Int) rfl rfl esz_24 zk_3 rfl rfl rfl rfl rfl rfl rfl lt0 ?_)
       intro b8q
       refine ⟨_, _, rfl, ?_⟩
       refine WalkP.nil ?_
       refine NodeS.branch [10] (inCons 1 rfl inNil) rfl rfl rfl ⟨?_, trivial⟩
       ·
        refine ⟨_, _, _, _, rfl, rfl, rfl, (⟨_, _, rfl, rfl, _, _, rfl, rfl, rfl⟩), fun E1 => ?_⟩
        refine (V1.appendMap (k := 2) (f := encInt) (l := gAt ((List.getD list (Int.toNat v) default).Series) (gMod gs)) (m := ([((List.getD list (Int.toNat v) default).Id)] : List Int)) rfl rfl rfl rfl rfl esz_24 eby_24 zk_3 rfl rfl rfl (SrcOf.srMap (k := 0) rfl isl_24) hh3q lt0 ?_)
        intro b9q
        refine ⟨_, _, rfl, ?_⟩
        refine WalkP.nil ?_
        refine NodeS.fin (inCons 2 rfl inNil) rfl rfl rfl (⟨_, _, rfl, rfl, _, _, rfl, rfl, _, _, rfl, rfl, _, _, rfl, rfl, _, _, rfl, rfl, _, _, rfl, rfl, _, _, rfl, rfl, _, _, rfl, rfl, _, _, rfl, rfl, rfl⟩) ?_
        refine VO.cons rfl (V1.mapUpdate [(8, .mp rn bm (mpPutK ((List.getD list (Int.toNat v) default).Series) (gKeys gs)) (mpPutX ((List.getD list (Int.toNat v) default).Series) (.sref b9q 1 0 (List.length (gAt ((List.getD list (Int.toNat v) default).Series) (gMod gs) ++ [((List.getD list (Int.toNat v) default).Id)]))) (gKeys gs) (gTrees gs))), (32, .int .i64 v), (1, .int .i64 percent), (2, .int .i64 seed), (30, .vl ρ0 4 (List.map (encRecord σ0) list)), (31, .int .i64 (list.length : Int))] rfl rfl umap_61 und_3 rfl rfl rfl rfl (gTrees_noMp gs) hbm (noMpH (noMpL_map (fun _ => rfl) _) (noMpH (noMpL_map (fun _ => rfl) _) (noMpH (by simp only [PV.noMpL, recNo, Bool.and_self]) (fun q hq => gRows_noMp q (g4 q hq))))) ⟨.inr ⟨rfl, rfl⟩, ⟨.inl ⟨rfl, rfl⟩, ⟨.inl ⟨rfl, rfl⟩, ⟨.inl ⟨rfl, rfl⟩, ⟨.inl ⟨noMpL_map recNo _, rfl⟩, ⟨.inl ⟨rfl, rfl⟩, trivial⟩⟩⟩⟩⟩⟩ ?_)
        refine VO.nil ?_
        refine ⟨gsPut ((List.getD list (Int.toNat v) default).Series) b9q ((List.getD list (Int.toNat v) default).Id) gs, gMod_put gs, ?_⟩
        rw [gKeys_put, gTrees_put]
        exact (Keeps.sub ((b9q, ⟨1, List.map encInt (gAt ((List.getD list (Int.toNat v) default).Series) (gMod gs) ++ [((List.getD list (Int.toNat v) default).Id)])⟩) :: rest) (List.Sublist.cons_cons _ (List.Sublist.cons _ (List.Sublist.cons _ (List.Sublist.refl _))))).trans (Keeps.perm _ (g5 b9q _).symm)
    ·
     rintro gs2 hg2
     refine V.region ?_
     refine VO.cons rfl (V1.int rfl rfl rfl rfl rfl lt0 ?_)
     refine VO.cons rfl (V1.move rfl rfl rfl lt0 ?_)
     refine VO.nil ?_
     exact ⟨(mq, gs2, (IntKind.i64.wrap (v + (1 : Int)))), (by dsimp only; rw [hg2]; exact hlq _ (Option.some.inj hmq).symm), Nat.lt_succ_self _, Keeps.mkT (A := []) (T := gRows gs2) (ks := []) (H := []) rfl ⟨rfl, rfl, rfl, rfl, rfl, rfl, trivial⟩ rfl rfl rfl (List.Sublist.refl _)⟩
   ·
    replace hmq := cond_f hcq hmq
    refine V.exit ?_
    have heq := hrq _ (Option.some.inj hmq).symm
    exact ⟨gs, heq, (Keeps.mkT (E := [(8, .mp rn bm (gKeys gs) (gTrees gs)), (1, .int .i64 percent), (2, .int .i64 seed)]) (A := []) (T := gRows gs) (ks := []) (H := []) rfl ⟨rfl, rfl, rfl, trivial⟩ rfl rfl rfl (List.Sublist.refl _)).trans ((Keeps.freezeRows (fun c (hc : c ∈ List.map Prod.fst ([] : List (Nat × Obj'))) => by cases hc) gs []).trans (Keeps.mk (ks := []) rfl ⟨rfl, rfl, rfl, trivial⟩ rfl rfl))⟩
  ·
   rintro gs_ hgs_
   try dsimp only at hm0
   refine V.seq ?_
   refine V.region ?_
   refine VO.cons rfl (V1.assign rfl rfl rfl lt0 ?_)
   refine VO.nil ?_
   refine V.seq ?_
   refine V.seq ?_
   refine V.region ?_
   refine VO.cons rfl (V1.assign rfl rfl rfl lt0 ?_)
   refine VO.nil ?_
   replace hm0 := bindO hm0; rcases hm0 with ⟨e0, he1, hm0⟩
   refine V.cutT (D := (List Int) × (Option Nat)) (fun ⟨out_, ob0⟩ => ⟨72, [(11, optS 1 ob0 (List.length out_))], optH 1 ob0 (List.map encInt out_)⟩) (fun ⟨out_, ob0⟩ => (out_ = e0) ∧ (ob0 = none → out_ = [])) ?_ ?_
   ·
    refine V.block ?_
    refine V.keep 72 [2, 11, 12, 1, 8] [] (E0 := [(2, .int .i64 seed), (11, .nils), (12, .int .i64 (1 : Int)), (1, .int .i64 percent), (8, .mp rn bm (gKeys gs_) (gVls rn gs_))]) (H0 := []) rfl (⟨_, _, rfl, rfl, _, _, rfl, rfl, _, _, rfl, rfl, _, _, rfl, rfl, _, _, rfl, rfl, rfl⟩) (rfl) rfl ?_
    refine V.loopE (D := Nat × (Int × List Int × Int) × (Option Nat)) (fun ⟨n0, ⟨seed0, out_0, series⟩, ob1⟩ => [(2, .int .i64 seed0), (11, optS 1 ob1 (List.length out_0)), (12, .int .i64 series)]) (fun ⟨n0, ⟨seed0, out_0, series⟩, ob1⟩ => optH 1 ob1 (List.map encInt out_0)) (fun ⟨n0, ⟨seed0, out_0, series⟩, ob1⟩ => loopO (M.impl_SampleBySeries_l0 percent y3) n0 (seed0, out_0, series) = some e0 ∧ (ob1 = none → out_0 = [])) (fun ⟨n0, _, _⟩ => n0) (rounds, (seed, ([] : List Int), (1 : Int)), none) rfl ⟨he1, (fun _ => rfl)⟩ ?_
    rintro ⟨n0, ⟨seed0, out_0, series⟩, ob1⟩ ⟨hP0, hob1⟩
    obtain ⟨m0, y4, rfl, hm1, hl1, hr1⟩ := loop_head hP0
    unfold M.impl_SampleBySeries_l0 at hm1; dsimp only at hm1
    rcases ob1 with _ | ob1
    ·
     replace hob1 := hob1 rfl
     show V _ _ _ ⟨72, [(2, .int .i64 seed0), (11, .nils), (12, .int .i64 series), (1, .int .i64 percent), (8, .mp rn bm (gKeys gs_) (gVls rn gs_))], []⟩
     refine V.seq ?_
     refine V.seq ?_
     refine V.region ?_
     refine VO.cons rfl (V1.move rfl rfl rfl lt0 ?_)
     refine VO.cons rfl (V1.int rfl rfl rfl rfl rfl lt0 ?_)
     refine VO.nil ?_
     refine V.cond rfl (fun hc1 => ?_) (fun hc1 => ?_)
     ·
      replace hm1 := cond_t hc1 hm1
      refine V.skip ?_
      refine V.seq ?_
      refine V.block ?_
      refine V.seq ?_
      refine V.region ?_
      refine VO.cons rfl (V1.move rfl rfl rfl lt0 ?_)
      refine VO.cons rfl (V1.move rfl rfl rfl lt0 ?_)
      refine VO.cons rfl (V1.lookupG hgs_ rfl rfl umap_61 und_3 zk_24 rfl rfl lt0 ?_)
      refine VO.cons rfl (V1.assign rfl rfl rfl lt0 ?_)
      refine VO.nil ?_
      refine V.keep 72 [1, 2, 8, 11, 12, 13] [] (E0 := [(1, .int .i64 percent), (2, .int .i64 seed0), (8, .mp rn bm (gKeys gs_) (gVls rn gs_)), (11, .nils), (12, .int .i64 series), (13, .vl rn 1 (List.map encInt (gAt series y3)))]) (H0 := []) rfl (⟨_, _, rfl, rfl, _, _, rfl, rfl, _, _, rfl, rfl, _, _, rfl, rfl, _, _, rfl, rfl, _, _, rfl, rfl, rfl⟩) (rfl) rfl ?_
      refine V.seq ?_
      replace hm1 := bindO hm1; rcases hm1 with ⟨y5, hh4, hm1⟩
      replace hm1 := bindO hm1; rcases hm1 with ⟨y6, hh5, hm1⟩
      refine V.region ?_
      refine VO.cons rfl (V1.move rfl rfl rfl lt0 ?_)
      refine VO.cons rfl (V1.move rfl rfl rfl lt0 ?_)
      refine VO.cons rfl (V1.lenMap rfl rfl rfl rfl rfl rfl isl_24 lt0 ?_)
      refine VO.cons rfl (V1.move rfl rfl rfl lt0 ?_)
      refine VO.cons rfl (V1.call rfl rfl rfl cok_29 rfl (ok_impl_sampleSize hh4) rfl lt0 ?_)
      rintro _ _ ⟨rfl, rfl⟩
      refine VO.cons rfl (V1.move rfl rfl rfl lt0 ?_)
      refine VO.cons rfl (V1.permK (V1.call rfl rfl rfl cok_35 rfl (ok_impl_taken hh5) rfl lt0 ?_))
      rintro _ _ ⟨ob2, hob2, rfl, rfl⟩
      refine ⟨_, ?_, Keeps.optBack (n := 1) (ob := ob2) (xs := List.map encInt y6.1) (H1 := []) (H2 := []) rfl⟩
      refine VO.cons rfl (V1.move rfl rfl rfl lt0 ?_)
      refine VO.cons rfl (V1.extract rfl rfl rfl rfl lt0 ?_)
      refine VO.weakenK (Keeps.optFront (n := 1) (ob := ob2) (xs := (List.map encInt y6.1)) (H1 := []) rfl) ?_
      refine VO.weakenK (Keeps.optVl 63 [] rn (f := encInt) (l := y6.1) (ob := ob2) (H1 := []) hob2 rfl rfl ⟨rfl, trivial⟩ (fun _ => rfl) rfl iNil) ?_
      refine VO.cons rfl (V1.extract rfl rfl rfl rfl lt0 ?_)
      refine VO.cons rfl (V1.assign rfl rfl rfl lt0 ?_)
      refine VO.cons rfl (V1.assign rfl rfl rfl lt0 ?_)
      refine VO.nil ?_
      refine V.keep 72 [1, 8, 11, 12, 14, 15] [] (E0 := [(1, .int .i64 percent), (8, .mp rn bm (gKeys gs_) (gVls rn gs_)), (11, .nils), (12, .int .i64 series), (14, .vl rn 1 (List.map encInt y6.1)), (15, .int .i64 y6.2)]) (H0 := []) rfl (⟨_, _, rfl, rfl, _, _, rfl, rfl, _, _, rfl, rfl, _, _, rfl, rfl, _, _, rfl, rfl, _, _, rfl, rfl, rfl⟩) (rfl) rfl ?_
      replace hm1 := asrt_some hm1; rcases hm1 with ⟨hh6, hm1⟩
      refine V.region ?_
      refine VO.cons rfl (V1.move rfl rfl rfl lt0 ?_)
      refine VO.cons rfl (V1.move rfl rfl rfl lt0 ?_)
      refine VO.cons rfl (V1.permK (V1.appendOO (ob := none) (f := encInt) (l := out_0) (m := y6.1) [] (fun _ => hob1) rfl rfl rfl rfl rfl esz_24 eby_24 zk_3 rfl rfl rfl rfl (.vl isl_24) hh6 lt0 ?_))
      intro ob3 hob3
      refine ⟨_, ?_, Keeps.optBack (n := 1) (ob := ob3) (xs := List.map encInt (out_0 ++ y6.1)) (H1 := []) (H2 := []) rfl⟩
      refine VO.cons rfl (V1.move rfl rfl rfl lt0 ?_)
      refine VO.cons rfl (V1.assign rfl rfl rfl lt0 ?_)
      refine VO.cons rfl (V1.assign rfl rfl rfl lt0 ?_)
      refine VO.nil ?_
      rcases ob3 with _ | ob3
      ·
       refine V.keep 72 [1, 2, 8, 11, 12] [] (E0 := [(1, .int .i64 percent), (2, .int .i64 y6.2), (8, .mp rn bm (gKeys gs_) (gVls rn gs_)), (11, .nils), (12, .int .i64 series)]) (H0 := []) rfl (⟨_, _, rfl, rfl, _, _, rfl, rfl, _, _, rfl, rfl, _, _, rfl, rfl, _, _, rfl, rfl, rfl⟩) (rfl) rfl ?_
       refine V.region ?_
       refine VO.cons rfl (V1.move rfl rfl rfl lt0 ?_)
       refine VO.cons rfl (V1.int rfl rfl rfl rfl rfl lt0 ?_)
       refine VO.cons rfl (V1.assign rfl rfl rfl lt0 ?_)
       refine VO.nil ?_
       exact ⟨(m0, (y6.2, (out_0 ++ y6.1), (IntKind.i64.wrap (series + (1 : Int)))), none), ⟨hl1 _ (Option.some.inj hm1).symm, (fun _ => (hob3 rfl))⟩, Nat.lt_succ_self _, Keeps.mk (ks := []) rfl ⟨rfl, rfl, rfl, rfl, rfl, trivial⟩ (rfl) rfl⟩
      ·
       refine V.keep 72 [1, 2, 8, 11, 12] [0] (E0 := [(1, .int .i64 percent), (2, .int .i64 y6.2), (8, .mp rn bm (gKeys gs_) (gVls rn gs_)), (11, .sref ob3 1 0 (List.length (out_0 ++ y6.1))), (12, .int .i64 series)]) (H0 := [(ob3, ⟨1, List.map encInt (out_0 ++ y6.1)⟩)]) rfl (⟨_, _, rfl, rfl, _, _, rfl, rfl, _, _, rfl, rfl, _, _, rfl, rfl, _, _, rfl, rfl, rfl⟩) (⟨_, _, rfl, rfl, rfl⟩) rfl ?_
       refine V.region ?_
       refine VO.cons rfl (V1.move rfl rfl rfl lt0 ?_)
       refine VO.cons rfl (V1.int rfl rfl rfl rfl rfl lt0 ?_)
       refine VO.cons rfl (V1.assign rfl rfl rfl lt0 ?_)
       refine VO.nil ?_
       exact ⟨(m0, (y6.2, (out_0 ++ y6.1), (IntKind.i64.wrap (series + (1 : Int)))), (some ob3)), ⟨hl1 _ (Option.some.inj hm1).symm, (fun e => by cases e)⟩, Nat.lt_succ_self _, Keeps.mk (ks := [0]) rfl ⟨rfl, rfl, rfl, rfl, rfl, trivial⟩ (⟨_, _, rfl, rfl, rfl⟩) rfl⟩
     ·
      replace hm1 := cond_f hc1 hm1
      refine V.exit ?_
      obtain rfl := hr1 _ (Option.some.inj hm1).symm
      exact ⟨(out_0, none), ⟨rfl, (fun _ => hob1)⟩, Keeps.mk (ks := []) rfl ⟨rfl, trivial⟩ (rfl) rfl⟩
    ·
     show V _ _ _ ⟨72, [(2, .int .i64 seed0), (11, .sref ob1 1 0 (List.length out_0)), (12, .int .i64 series), (1, .int .i64 percent), (8, .mp rn bm (gKeys gs_) (gVls rn gs_))], [(ob1, ⟨1, List.map encInt out_0⟩)]⟩
     refine V.seq ?_
     refine V.seq ?_
     refine V.region ?_
     refine VO.cons rfl (V1.move rfl rfl rfl lt0 ?_)
     refine VO.cons rfl (V1.int rfl rfl rfl rfl rfl lt0 ?_)
     refine VO.nil ?_
     refine V.cond rfl (fun hc1 => ?_) (fun hc1 => ?_)
     ·
      replace hm1 := cond_t hc1 hm1
      refine V.skip ?_
      refine V.seq ?_
      refine V.block ?_
      refine V.seq ?_
      refine V.region ?_
      refine VO.cons rfl (V1.move rfl rfl rfl lt0 ?_)
      refine VO.cons rfl (V1.move rfl rfl rfl lt0 ?_)
      refine VO.cons rfl (V1.lookupG hgs_ rfl rfl umap_61 und_3 zk_24 rfl rfl lt0 ?_)
      refine VO.cons rfl (V1.assign rfl rfl rfl lt0 ?_)
      refine VO.nil ?_
      refine V.keep 72 [1, 2, 8, 11, 12, 13] [0] (E0 := [(1, .int .i64 percent), (2, .int .i64 seed0), (8, .mp rn bm (gKeys gs_) (gVls rn gs_)), (11, .sref ob1 1 0 (List.length out_0)), (12, .int .i64 series), (13, .vl rn 1 (List.map encInt (gAt series y3)))]) (H0 := [(ob1, ⟨1, List.map encInt out_0⟩)]) rfl (⟨_, _, rfl, rfl, _, _, rfl, rfl, _, _, rfl, rfl, _, _, rfl, rfl, _, _, rfl, rfl, _, _, rfl, rfl, rfl⟩) (⟨_, _, rfl, rfl, rfl⟩) rfl ?_
      refine V.seq ?_
      replace hm1 := bindO hm1; rcases hm1 with ⟨y5, hh4, hm1⟩
      replace hm1 := bindO hm1; rcases hm1 with ⟨y6, hh5, hm1⟩
      refine V.region ?_
      refine VO.cons rfl (V1.move rfl rfl rfl lt0 ?_)
      refine VO.cons rfl (V1.move rfl rfl rfl lt0 ?_)
      refine VO.cons rfl (V1.lenMap rfl rfl rfl rfl rfl rfl isl_24 lt0 ?_)
      refine VO.cons rfl (V1.move rfl rfl rfl lt0 ?_)
      refine VO.cons rfl (V1.call rfl rfl rfl cok_29 rfl (ok_impl_sampleSize hh4) rfl lt0 ?_)
      rintro _ _ ⟨rfl, rfl⟩
      refine VO.cons rfl (V1.move rfl rfl rfl lt0 ?_)
      refine VO.cons rfl (V1.permK (V1.call rfl rfl rfl cok_35 rfl (ok_impl_taken hh5) rfl lt0 ?_))
      rintro _ _ ⟨ob2, hob2, rfl, rfl⟩
      refine ⟨_, ?_, Keeps.optBack (n := 1) (ob := ob2) (xs := List.map encInt y6.1) (H1 := []) (H2 := [(ob1, ⟨1, List.map encInt out_0⟩)]) rfl⟩
      refine VO.cons rfl (V1.move rfl rfl rfl lt0 ?_)
      refine VO.cons rfl (V1.extract rfl rfl rfl rfl lt0 ?_)
      refine VO.weakenK (Keeps.optFront (n := 1) (ob := ob2) (xs := (List.map encInt y6.1)) (H1 := [(ob1, ⟨1, List.map encInt out_0⟩)]) rfl) ?_
      refine VO.weakenK (Keeps.optVl 63 [] rn (f := encInt) (l := y6.1) (ob := ob2) (H1 := []) hob2 rfl rfl ⟨rfl, trivial⟩ (fun _ => rfl) rfl iNil) ?_
      refine VO.cons rfl (V1.extract rfl rfl rfl rfl lt0 ?_)
      refine VO.cons rfl (V1.assign rfl rfl rfl lt0 ?_)
      refine VO.cons rfl (V1.assign rfl rfl rfl lt0 ?_)
      refine VO.nil ?_
      refine V.keep 72 [1, 8, 11, 12, 14, 15] [0] (E0 := [(1, .int .i64 percent), (8, .mp rn bm (gKeys gs_) (gVls rn gs_)), (11, .sref ob1 1 0 (List.length out_0)), (12, .int .i64 series), (14, .vl rn 1 (List.map encInt y6.1)), (15, .int .i64 y6.2)]) (H0 := [(ob1, ⟨1, List.map encInt out_0⟩)]) rfl (⟨_, _, rfl, rfl, _, _, rfl, rfl, _, _, rfl, rfl, _, _, rfl, rfl, _, _, rfl, rfl, _, _, rfl, rfl, rfl⟩) (⟨_, _, rfl, rfl, rfl⟩) rfl ?_
      replace hm1 := asrt_some hm1; rcases hm1 with ⟨hh6, hm1⟩
      refine V.region ?_
      refine VO.cons rfl (V1.move rfl rfl rfl lt0 ?_)
      refine VO.cons rfl (V1.move rfl rfl rfl lt0 ?_)
      refine VO.cons rfl (V1.appendMap (k := 0) (f := encInt) (l := out_0) (m := y6.1) rfl rfl rfl rfl rfl esz_24 eby_24 zk_3 rfl rfl rfl (.vl isl_24) hh6 lt0 ?_)
      intro b0
      refine VO.cons rfl (V1.move rfl rfl rfl lt0 ?_)
      refine VO.cons rfl (V1.assign rfl rfl rfl lt0 ?_)
      refine VO.cons rfl (V1.assign rfl rfl rfl lt0 ?_)
      refine VO.nil ?_
      refine V.keep 72 [1, 2, 8, 11, 12] [0] (E0 := [(1, .int .i64 percent), (2, .int .i64 y6.2), (8, .mp rn bm (gKeys gs_) (gVls rn gs_)), (11, .sref b0 1 0 (List.length (out_0 ++ y6.1))), (12, .int .i64 series)]) (H0 := [(b0, ⟨1, List.map encInt (out_0 ++ y6.1)⟩)]) rfl (⟨_, _, rfl, rfl, _, _, rfl, rfl, _, _, rfl, rfl, _, _, rfl, rfl, _, _, rfl, rfl, rfl⟩) (⟨_, _, rfl, rfl, rfl⟩) rfl ?_
      refine V.region ?_
      refine VO.cons rfl (V1.move rfl rfl rfl lt0 ?_)
      refine VO.cons rfl (V1.int rfl rfl rfl rfl rfl lt0 ?_)
      refine VO.cons rfl (V1.assign rfl rfl rfl lt0 ?_)
      refine VO.nil ?_
      exact ⟨(m0, (y6.2, (out_0 ++ y6.1), (IntKind.i64.wrap (series + (1 : Int)))), (some b0)), ⟨hl1 _ (Option.some.inj hm1).symm, (fun e => by cases e)⟩, Nat.lt_succ_self _, Keeps.mk (ks := [0]) rfl ⟨rfl, rfl, rfl, rfl, rfl, trivial⟩ (⟨_, _, rfl, rfl, rfl⟩) rfl⟩
     ·
      replace hm1 := cond_f hc1 hm1
      refine V.exit ?_
      obtain rfl := hr1 _ (Option.some.inj hm1).symm
      exact ⟨(out_0, (some ob1)), ⟨rfl, (fun e => by cases e)⟩, Keeps.mk (ks := [0]) rfl ⟨rfl, trivial⟩ (⟨_, _, rfl, rfl, rfl⟩) rfl⟩
   ·
    rintro ⟨out_, ob0⟩ ⟨rfl, hob0⟩
    try dsimp only at hm0
    rcases ob0 with _ | ob0
    ·
     replace hob0 := hob0 rfl
     refine V.seq ?_
     replace hm0 := bindO hm0; rcases hm0 with ⟨y7, hh7, hm0⟩
     replace hm0 := asrt_some hm0; rcases hm0 with ⟨hh8, hm0⟩
     refine V.region ?_
     refine VO.cons rfl (V1.move rfl rfl rfl lt0 ?_)
     refine VO.cons rfl (V1.call rfl rfl rfl cok_36 rfl (ok_slices_Sort_int_int hh7 (oq := none) (s := out_) (fun _ => hob0)) rfl lt0 ?_)
     rintro _ _ ⟨rfl, rfl⟩
     refine VO.nil ?_
     refine V.seq ?_
     refine V.region ?_
     refine VO.cons rfl (V1.move rfl rfl rfl lt0 ?_)
     refine VO.cons rfl (V1.assign rfl rfl rfl lt0 ?_)
     refine VO.cons rfl (V1.assign rfl rfl rfl lt0 ?_)
     refine VO.nil ?_
     refine V.keep 72 [6, 7] [] (E0 := [(6, .nils), (7, .bool true)]) (H0 := []) rfl (⟨_, _, rfl, rfl, _, _, rfl, rfl, rfl⟩) (rfl) rfl ?_
     refine V.ret ?_
     obtain rfl := Option.some.inj hm0
     exact ⟨_, _, ⟨_, _, rfl, rfl, _, _, rfl, rfl, rfl⟩, List.Sublist.refl _, none, (fun _ => (List.length_eq_zero_iff.1 (hh8.trans (congrArg List.length hob0)))), rfl, rfl⟩
    ·
     refine V.seq ?_
     replace hm0 := bindO hm0; rcases hm0 with ⟨y7, hh7, hm0⟩
     replace hm0 := asrt_some hm0; rcases hm0 with ⟨hh8, hm0⟩
     refine V.region ?_
     refine VO.cons rfl (V1.move rfl rfl rfl lt0 ?_)
     refine VO.cons rfl (V1.callM 0 (rn + 1) [] [.sref ob0 1 0 (List.length out_)] (p := (ob0, ⟨1, List.map encInt out_⟩)) rfl rfl rfl cok_36 rfl rfl ⟨_, _, rfl, .same _, rfl⟩ bwNil (ok_slices_Sort_int_int hh7 (oq := some ob0) (fun e => by cases e)) rfl (.inl rfl) lt0 ?_)
     rintro _ _ ⟨rfl, rfl⟩
     refine VO.weakenK (Keeps.say 11 (y := .sref ob0 1 0 (List.length y7)) rfl (congrArg (PV.sref ob0 1 0) hh8.symm)) ?_
     refine VO.nil ?_
     refine V.seq ?_
     refine V.region ?_
     refine VO.cons rfl (V1.move rfl rfl rfl lt0 ?_)
     refine VO.cons rfl (V1.assign rfl rfl rfl lt0 ?_)
     refine VO.cons rfl (V1.assign rfl rfl rfl lt0 ?_)
     refine VO.nil ?_
     refine V.keep 72 [6, 7] [0] (E0 := [(6, .sref ob0 1 0 (List.length y7)), (7, .bool true)]) (H0 := [(ob0, ⟨1, List.map encInt y7⟩)]) rfl (⟨_, _, rfl, rfl, _, _, rfl, rfl, rfl⟩) (⟨_, _, rfl, rfl, rfl⟩) rfl ?_
     refine V.ret ?_
     obtain rfl := Option.some.inj hm0
     exact ⟨_, _, ⟨_, _, rfl, rfl, _, _, rfl, rfl, rfl⟩, List.Sublist.refl _, some ob0, (fun e => by cases e), rfl, rfl⟩

theorem ok_spec_l2Day {rn : Nat} {d : Int} {r : Bool} (h : M.spec_l2Day d = some r) : Does Try.prog 73 [.int .i64 d] [] rn (fun x H => x = .bool r ∧ H = []) := by
 have hm0 := h; clear h; unfold M.spec_l2Day at hm0
 try dsimp only at hm0
 refine Does.intro (N := 5) Try.func73 rfl rfl rfl rfl ?_
 intro w0 S0 L0
 refine V.seq ?_
 refine V.region ?_
 refine VO.cons rfl (V1.assign rfl rfl rfl lt0 ?_)
 refine VO.nil ?_
 refine V.seq ?_
 replace hm0 := bindO hm0; rcases hm0 with ⟨y0, hh0, hm0⟩
 refine V.region ?_
 refine VO.cons rfl (V1.move rfl rfl rfl lt0 ?_)
 refine VO.cons rfl (V1.call rfl rfl rfl cok_28 rfl (ok_spec_l1In hh0) rfl lt0 ?_)
 rintro _ _ ⟨rfl, rfl⟩
 refine VO.cons rfl (V1.assign rfl rfl rfl lt0 ?_)
 refine VO.nil ?_
 refine V.ret ?_
 obtain rfl := Option.some.inj hm0
 exact ⟨_, [], ⟨_, _, rfl, rfl, rfl⟩, List.nil_sublist _, rfl, rfl⟩

theorem ok_spec_l2Event {rn : Nat} {e_ : Event} {r : Bool} (h : M.spec_l2Event e_ = some r) : Does Try.prog 72 [encEvent e_] [] rn (fun x H => x = .bool r ∧ H = []) := by
 have hm0 := h; clear h; unfold M.spec_l2Event at hm0
 try dsimp only at hm0
 refine Does.intro (N := 11) Try.func72 rfl rfl rfl rfl ?_
 intro w0 S0 L0
 refine V.seq ?_
 refine V.region ?_
 refine VO.cons rfl (V1.boxN (n := 2) rfl rfl rfl rfl rfl lt0 ?_)
 intro b0
 refine VO.cons rfl (V1.assign rfl rfl rfl lt0 ?_)
 refine VO.nil ?_
 refine V.seq ?_
 replace hm0 := bindO hm0; rcases hm0 with ⟨y0, hh0, hm0⟩
 replace hm0 := bindO hm0; rcases hm0 with ⟨y1, hh1, hm0⟩
 refine V.region ?_
 refine VO.cons rfl (V1.fieldRef rfl rfl fo_75_0 rfl lt0 ?_)
 refine VO.cons rfl (V1.loadRef (k := 0) rfl rfl tyk_3 rfl rfl rfl rfl rfl lt0 ?_)
 refine VO.cons rfl (V1.call rfl rfl rfl cok_28 rfl (ok_spec_l1In hh0) rfl lt0 ?_)
 rintro _ _ ⟨rfl, rfl⟩
 refine VO.cons rfl (V1.move rfl rfl rfl lt0 ?_)
 apply VO.and (n := 3) rfl rfl rfl rfl rfl rfl lt0 (.none rfl)
 ·
  intro hg0
  refine VO.step (.some rfl rfl rfl) (V1.fieldRef rfl rfl fo_75_1 rfl lt0 ?_)
  refine VO.step (.some rfl rfl rfl) (V1.loadRef (k := 0) rfl rfl tyk_3 rfl rfl rfl rfl rfl lt0 ?_)
  refine VO.step (.some rfl rfl rfl) (V1.call rfl rfl rfl cok_73 rfl (ok_spec_l2Day (cond_t hg0 hh1)) rfl lt0 ?_)
  rintro _ _ ⟨rfl, rfl⟩
  exact VO.nil ⟨rfl, rfl, rfl, rfl, .inr ⟨rfl, .inr ⟨rfl, .inr ⟨rfl, .inr ⟨rfl, .inl rfl⟩⟩⟩⟩⟩
 refine VO.cons rfl (V1.assign rfl rfl rfl lt0 ?_)
 refine VO.nil ?_
 refine V.ret ?_
 obtain rfl := Option.some.inj hm0
 exact ⟨_, [], ⟨_, _, rfl, rfl, rfl⟩, List.nil_sublist _, rfl, rfl⟩

theorem ok_spec_l2Record {ρ0 rn : Nat} {r_ : Record} {r : Bool} (h : M.spec_l2Record r_ = some r) : Does Try.prog 56 [encRecord ρ0 r_] [] rn (fun x H => x = .bool r ∧ H = []) := by
 have hm0 := h; clear h; unfold M.spec_l2Record at hm0
 try dsimp only at hm0
 refine Does.intro (N := 62) Try.func56 rfl rfl rfl rfl ?_
 intro w0 S0 L0
 refine V.seq ?_
 refine V.region ?_
 refine VO.cons rfl (V1.boxN (n := 4) rfl rfl rfl rfl rfl lt0 ?_)
 intro b0
 refine VO.cons rfl (V1.assign rfl rfl rfl lt0 ?_)
 refine VO.nil ?_
 refine V.seq ?_
 refine V.seq ?_
 refine V.region ?_
 refine VO.cons rfl (V1.assign rfl rfl rfl lt0 ?_)
 refine VO.nil ?_
 replace hm0 := bindO hm0; rcases hm0 with ⟨e0, he1, hm0⟩
 refine V.cutT (D := (Unit) × (Unit)) (fun ⟨_, _⟩ => ⟨62, [(1, .ref b0 4 0 0)], [(b0, ⟨4, [encRecord ρ0 r_]⟩)]⟩) (fun ⟨_, _⟩ => (.inl () = e0)) ?_ ?_
 ·
  refine V.block ?_
  refine V.keep 62 [3, 1] [0] (E0 := [(3, .int .i64 (0 : Int)), (1, .ref b0 4 0 0)]) (H0 := [(b0, ⟨4, [encRecord ρ0 r_]⟩)]) rfl (⟨_, _, rfl, rfl, _, _, rfl, rfl, rfl⟩) (⟨_, _, rfl, rfl, rfl⟩) rfl ?_
  refine V.loopE (D := Nat × (Int) × (Unit)) (fun ⟨n0, i, _⟩ => [(3, .int .i64 i)]) (fun ⟨n0, i, _⟩ => []) (fun ⟨n0, i, _⟩ => loopO (M.spec_l2Record_l0 r_) n0 i = some e0) (fun ⟨n0, _, _⟩ => n0) (rounds, (0 : Int), ()) rfl he1 ?_
  rintro ⟨n0, i, _⟩ hP0
  obtain ⟨m0, y0, rfl, hm1, hl1, hr1⟩ := loop_head hP0
  unfold M.spec_l2Record_l0 at hm1; dsimp only at hm1
  show V _ _ _ ⟨62, [(3, .int .i64 i), (1, .ref b0 4 0 0)], [(b0, ⟨4, [encRecord ρ0 r_]⟩)]⟩
  refine V.seq ?_
  refine V.seq ?_
  refine V.region ?_
  refine VO.cons rfl (V1.move rfl rfl rfl lt0 ?_)
  refine VO.cons rfl (V1.fieldRef rfl rfl fo_41_3 rfl lt0 ?_)
  refine VO.cons rfl (V1.loadRef (k := 0) rfl rfl tyk_39 rfl rfl rfl rfl rfl lt0 ?_)
  refine VO.cons rfl (V1.lenMap rfl rfl rfl rfl rfl rfl isl_39 lt0 ?_)
  refine VO.cons rfl (V1.int rfl rfl rfl rfl rfl lt0 ?_)
  refine VO.nil ?_
  refine V.keep 62 [1, 3, 9] [0] (E0 := [(1, .ref b0 4 0 0), (3, .int .i64 i), (9, .bool (decide (i < (r_.Events.length : Int))))]) (H0 := [(b0, ⟨4, [encRecord ρ0 r_]⟩)]) rfl (⟨_, _, rfl, rfl, _, _, rfl, rfl, _, _, rfl, rfl, rfl⟩) (⟨_, _, rfl, rfl, rfl⟩) rfl ?_
  refine V.cond rfl (fun hc0 => ?_) (fun hc0 => ?_)
  ·
   replace hm1 := cond_t hc0 hm1
   refine V.skip ?_
   refine V.seq ?_
   refine V.block ?_
   refine V.seq ?_
   replace hm1 := asrt_some hm1; rcases hm1 with ⟨hh0, hm1⟩
   refine V.region ?_
   refine VO.cons rfl (V1.fieldRef rfl rfl fo_41_3 rfl lt0 ?_)
   refine VO.cons rfl (V1.loadRef (k := 0) rfl rfl tyk_39 rfl rfl rfl rfl rfl lt0 ?_)
   refine VO.cons rfl (V1.move rfl rfl rfl lt0 ?_)
   refine VO.cons rfl (V1.indexI rfl rfl esz_39 rfl rfl hh0 lt0 ?_)
   refine VO.cons rfl (V1.loadPinAll rfl rfl tyk_75 rfl rfl lt0 ?_)
   refine VO.cons rfl (V1.alloc rfl rfl zk_75 lt0 ?_)
   intro b1
   refine VO.cons rfl (V1.storeRefAll (k := 0) rfl rfl tyk_75 rfl rfl rfl rfl rfl rfl ?_)
   refine VO.nil ?_
   refine V.keep 62 [1, 3, 4] [0, 1] (E0 := [(1, .ref b0 4 0 0), (3, .int .i64 i), (4, .ref b1 2 0 0)]) (H0 := [(b1, ⟨2, [encEvent (r_.Events.getD (Int.toNat i) default)]⟩), (b0, ⟨4, [encRecord ρ0 r_]⟩)]) rfl (⟨_, _, rfl, rfl, _, _, rfl, rfl, _, _, rfl, rfl, rfl⟩) (⟨_, _, rfl, rfl, _, _, rfl, rfl, rfl⟩) rfl ?_
   refine V.seq ?_
   replace hm1 := bindO hm1; rcases hm1 with ⟨y1, hh1, hm1⟩
   replace hm1 := asrt_some hm1; rcases hm1 with ⟨hh2, hm1⟩
   refine V.regionM 62 26 [⟨[(4, none)], [], none⟩, ⟨[(17, some 0)], [], none⟩, ⟨[(18, some 0)], [], none⟩, ⟨[(19, some 0)], [], none⟩, ⟨[(4, none)], [(0, false)], none⟩, ⟨[(21, some 0)], [(1, false)], none⟩, ⟨[(1, none)], [(2, false)], none⟩, ⟨[(23, some 0)], [(3, false)], none⟩, ⟨[(22, some 2), (24, some 0)], [(4, false)], none⟩, ⟨[], [], some (false, 20, 25, 5, 0)⟩, ⟨[(26, some 0)], [], none⟩, ⟨[(3, none)], [(0, false)], none⟩, ⟨[(28, some 0)], [(1, false)], none⟩, ⟨[(29, some 0)], [(2, false)], none⟩, ⟨[(1, none)], [(0, true), (3, false)], none⟩, ⟨[(31, some 0)], [(1, true), (4, false)], none⟩, ⟨[(3, none)], [(2, true), (5, false)], none⟩, ⟨[(33, some 0)], [(3, true), (6, false)], none⟩, ⟨[(32, some 2), (34, some 0)], [(4, true), (7, false)], none⟩, ⟨[(35, some 0)], [(5, true), (8, false)], none⟩, ⟨[(36, some 0)], [(6, true), (9, false)], none⟩, ⟨[(4, none)], [(7, true), (10, false)], none⟩, ⟨[(38, some 0)], [(8, true), (11, false)], none⟩, ⟨[(37, some 2), (39, some 0)], [(9, true), (12, false)], none⟩, ⟨[], [(13, false)], some (true, 30, 40, 10, 0)⟩, ⟨[], [], some (false, 27, 41, 14, 0)⟩] [(1, none), (3, none), (42, some 0)] (⟨_, rfl, ⟨_, rfl, ⟨_, rfl, ⟨_, rfl, ⟨_, rfl, ⟨_, rfl, ⟨_, rfl, ⟨_, rfl, ⟨_, rfl, ⟨_, rfl, ⟨_, rfl, ⟨_, rfl, ⟨_, rfl, ⟨_, rfl, ⟨_, rfl, ⟨_, rfl, ⟨_, rfl, ⟨_, rfl, ⟨_, rfl, ⟨_, rfl, ⟨_, rfl, ⟨_, rfl, ⟨_, rfl, ⟨_, rfl, ⟨_, rfl, ⟨_, rfl, ⟨rfl, rfl⟩⟩⟩⟩⟩⟩⟩⟩⟩⟩⟩⟩⟩⟩⟩⟩⟩⟩⟩⟩⟩⟩⟩⟩⟩⟩⟩) mixed_orders rfl (by decide +kernel) (fun hck5 => ?_)
   refine VP.step (p := ?pv208) rfl rfl rfl (⟨_, _, rfl, rfl, rfl⟩) ?hv208 ?rest208 hck5
   case hv208 =>
    intro E1
    refine (V1.loadRefAll (k := 0) rfl rfl tyk_75 rfl rfl rfl rfl rfl lt0 ?_)
    exact rfl
   refine VP.step (p := ?pv209) rfl rfl rfl (⟨_, _, rfl, rfl, rfl⟩) ?hv209 ?rest209 hck5
   case hv209 =>
    intro E1
    refine (V1.call rfl rfl rfl cok_72 rfl (ok_spec_l2Event hh1) rfl lt0 ?_)
    rintro _ _ ⟨rfl, rfl⟩
    exact rfl
   refine VP.step (p := ?pv211) rfl rfl rfl (⟨_, _, rfl, rfl, rfl⟩) ?hv211 ?rest211 hck5
   case hv211 =>
    intro E1
    refine (V1.not rfl rfl rfl lt0 ?_)
    exact rfl
   refine VP.step (p := ?pv212) rfl rfl rfl (⟨_, _, rfl, rfl, rfl⟩) ?hv212 ?rest212 hck5
   case hv212 =>
    intro E1
    refine (V1.move rfl rfl rfl lt0 ?_)
    exact rfl
   refine VP.step (p := ?pv213) rfl rfl rfl (⟨_, _, rfl, rfl, rfl⟩) ?hv213 ?rest213 hck5
   case hv213 =>
    refine ⟨_, rfl, fun hg0 => ?_⟩
    intro E1
    refine (V1.fieldRef rfl rfl fo_75_1 rfl lt0 ?_)
    exact rfl
   refine VP.step (p := ?pv214) rfl rfl rfl (⟨_, _, rfl, rfl, rfl⟩) ?hv214 ?rest214 hck5
   case hv214 =>
    refine ⟨_, rfl, fun hg0 => ?_⟩
    intro E1
    refine (V1.loadRef (k := 0) rfl rfl tyk_3 rfl rfl rfl rfl rfl lt0 ?_)
    exact rfl
   refine VP.step (p := ?pv215) rfl rfl rfl (⟨_, _, rfl, rfl, rfl⟩) ?hv215 ?rest215 hck5
   case hv215 =>
    refine ⟨_, rfl, fun hg0 => ?_⟩
    intro E1
    refine (V1.fieldRef rfl rfl fo_41_2 rfl lt0 ?_)
    exact rfl
   refine VP.step (p := ?pv216) rfl rfl rfl (⟨_, _, rfl, rfl, rfl⟩) ?hv216 ?rest216 hck5
   case hv216 =>
    refine ⟨_, rfl, fun hg0 => ?_⟩
    intro E1
    refine (V1.loadRef (k := 1) rfl rfl tyk_3 rfl rfl rfl rfl rfl lt0 ?_)
    exact rfl
   refine VP.step (p := ?pv217) rfl rfl rfl (⟨_, _, rfl, rfl, _, _, rfl, rfl, rfl⟩) ?hv217 ?rest217 hck5
   case hv217 =>
    refine ⟨_, rfl, fun hg0 => ?_⟩
    intro E1
    refine (V1.int rfl rfl rfl rfl rfl lt0 ?_)
    exact rfl
   refine VP.pickOr rfl rfl rfl rfl rfl rfl (trivial) ?_ hck5
   refine VP.step (p := ?pv218) rfl rfl rfl (⟨_, _, rfl, rfl, rfl⟩) ?hv218 ?rest218 hck5
   case hv218 =>
    intro E1
    refine (V1.move rfl rfl rfl lt0 ?_)
    exact rfl
   refine VP.step (p := ?pv219) rfl rfl rfl (⟨_, _, rfl, rfl, rfl⟩) ?hv219 ?rest219 hck5
   case hv219 =>
    refine ⟨_, rfl, fun hg1 => ?_⟩
    intro E1
    refine (V1.move rfl rfl rfl lt0 ?_)
    exact rfl
   refine VP.step (p := ?pv220) rfl rfl rfl (⟨_, _, rfl, rfl, rfl⟩) ?hv220 ?rest220 hck5
   case hv220 =>
    refine ⟨_, rfl, fun hg1 => ?_⟩
    intro E1
    refine (V1.int rfl rfl rfl rfl rfl lt0 ?_)
    exact rfl
   refine VP.step (p := ?pv221) rfl rfl rfl (⟨_, _, rfl, rfl, rfl⟩) ?hv221 ?rest221 hck5
   case hv221 =>
    refine ⟨_, rfl, fun hg1 => ?_⟩
    intro E1
    refine (V1.move rfl rfl rfl lt0 ?_)
    exact rfl
   refine VP.step (p := ?pv222) rfl rfl rfl (⟨_, _, rfl, rfl, rfl⟩) ?hv222 ?rest222 hck5
   case hv222 =>
    refine ⟨_, rfl, fun hg2 => ?_⟩
    refine ⟨_, rfl, fun hg1 => ?_⟩
    intro E1
    refine (V1.fieldRef rfl rfl fo_41_3 rfl lt0 ?_)
    exact rfl
   refine VP.step (p := ?pv223) rfl rfl rfl (⟨_, _, rfl, rfl, rfl⟩) ?hv223 ?rest223 hck5
   case hv223 =>
    refine ⟨_, rfl, fun hg2 => ?_⟩
    refine ⟨_, rfl, fun hg1 => ?_⟩
    intro E1
    refine (V1.loadRef (k := 1) rfl rfl tyk_39 rfl rfl rfl rfl rfl lt0 ?_)
    exact rfl
   refine VP.step (p := ?pv224) rfl rfl rfl (⟨_, _, rfl, rfl, rfl⟩) ?hv224 ?rest224 hck5
   case hv224 =>
    refine ⟨_, rfl, fun hg2 => ?_⟩
    refine ⟨_, rfl, fun hg1 => ?_⟩
    intro E1
    refine (V1.move rfl rfl rfl lt0 ?_)
    exact rfl
   refine VP.step (p := ?pv225) rfl rfl rfl (⟨_, _, rfl, rfl, rfl⟩) ?hv225 ?rest225 hck5
   case hv225 =>
    refine ⟨_, rfl, fun hg2 => ?_⟩
    refine ⟨_, rfl, fun hg1 => ?_⟩
    intro E1
    refine (V1.int rfl rfl rfl rfl rfl lt0 ?_)
    exact rfl
   refine VP.step (p := ?pv226) rfl rfl rfl (⟨_, _, rfl, rfl, _, _, rfl, rfl, rfl⟩) ?hv226 ?rest226 hck5
   case hv226 =>
    refine ⟨_, rfl, fun hg2 => ?_⟩
    refine ⟨_, rfl, fun hg1 => ?_⟩
    intro E1
    refine (V1.indexI rfl rfl esz_39 rfl rfl (hh2 hg1 hg2) lt0 ?_)
    exact rfl
   refine VP.step (p := ?pv227) rfl rfl rfl (⟨_, _, rfl, rfl, rfl⟩) ?hv227 ?rest227 hck5
   case hv227 =>
    refine ⟨_, rfl, fun hg2 => ?_⟩
    refine ⟨_, rfl, fun hg1 => ?_⟩
    intro E1
    refine (V1.fieldPin rfl rfl fo_75_0 rfl lt0 ?_)
    exact rfl
   refine VP.step (p := ?pv228) rfl rfl rfl (⟨_, _, rfl, rfl, rfl⟩) ?hv228 ?rest228 hck5
   case hv228 =>
    refine ⟨_, rfl, fun hg2 => ?_⟩
    refine ⟨_, rfl, fun hg1 => ?_⟩
    intro E1
    refine (V1.loadPin rfl rfl tyk_3 rfl rfl lt0 ?_)
    exact rfl
   refine VP.step (p := ?pv229) rfl rfl rfl (⟨_, _, rfl, rfl, rfl⟩) ?hv229 ?rest229 hck5
   case hv229 =>
    refine ⟨_, rfl, fun hg2 => ?_⟩
    refine ⟨_, rfl, fun hg1 => ?_⟩
    intro E1
    refine (V1.fieldRef rfl rfl fo_75_0 rfl lt0 ?_)
    exact rfl
   refine VP.step (p := ?pv230) rfl rfl rfl (⟨_, _, rfl, rfl, rfl⟩) ?hv230 ?rest230 hck5
   case hv230 =>
    refine ⟨_, rfl, fun hg2 => ?_⟩
    refine ⟨_, rfl, fun hg1 => ?_⟩
    intro E1
    refine (V1.loadRef (k := 0) rfl rfl tyk_3 rfl rfl rfl rfl rfl lt0 ?_)
    exact rfl
   refine VP.step (p := ?pv231) rfl rfl rfl (⟨_, _, rfl, rfl, _, _, rfl, rfl, rfl⟩) ?hv231 ?rest231 hck5
   case hv231 =>
    refine ⟨_, rfl, fun hg2 => ?_⟩
    refine ⟨_, rfl, fun hg1 => ?_⟩
    intro E1
    refine (V1.int rfl rfl rfl rfl rfl lt0 ?_)
    exact rfl
   refine VP.pickAnd rfl rfl rfl rfl rfl rfl (⟨_, rfl, fun _ => trivial⟩) ?_ hck5
   refine VP.pickOr rfl rfl rfl rfl rfl rfl (trivial) ?_ hck5
   refine VP.fin rfl (⟨_, _, rfl, rfl, _, _, rfl, rfl, _, _, rfl, rfl, rfl⟩) ?_
   refine VO.nil ?_
   refine V.cond rfl (fun hc1 => ?_) (fun hc1 => ?_)
   ·
    replace hm1 := cond_t hc1 hm1
    refine V.seq ?_
    refine V.region ?_
    refine VO.cons rfl (V1.assign rfl rfl rfl lt0 ?_)
    refine VO.nil ?_
    refine V.ret ?_
    obtain rfl := hr1 _ (Option.some.inj hm1).symm
    change some _ = some _ at hm0
    obtain rfl := Option.some.inj hm0
    exact ⟨_, [], ⟨_, _, rfl, rfl, rfl⟩, List.nil_sublist _, rfl, rfl⟩
   ·
    replace hm1 := cond_f hc1 hm1
    refine V.skip ?_
    refine V.region ?_
    refine VO.cons rfl (V1.move rfl rfl rfl lt0 ?_)
    refine VO.cons rfl (V1.int rfl rfl rfl rfl rfl lt0 ?_)
    refine VO.cons rfl (V1.assign rfl rfl rfl lt0 ?_)
    refine VO.nil ?_
    exact ⟨(m0, (IntKind.i64.wrap (i + (1 : Int))), ()), hl1 _ (Option.some.inj hm1).symm, Nat.lt_succ_self _, Keeps.mk (ks := [1]) rfl ⟨rfl, rfl, trivial⟩ (⟨_, _, rfl, rfl, rfl⟩) rfl⟩
  ·
   replace hm1 := cond_f hc0 hm1
   refine V.exit ?_
   obtain rfl := hr1 _ (Option.some.inj hm1).symm
   exact ⟨((), ()), rfl, Keeps.mk (ks := [0]) rfl ⟨rfl, trivial⟩ (⟨_, _, rfl, rfl, rfl⟩) rfl⟩
 ·
  rintro ⟨_, _⟩ rfl
  try dsimp only at hm0
  refine V.seq ?_
  replace hm0 := bindO hm0; rcases hm0 with ⟨y2, hh3, hm0⟩
  replace hm0 := bindO hm0; rcases hm0 with ⟨y3, hh4, hm0⟩
  replace hm0 := bindO hm0; rcases hm0 with ⟨y4, hh5, hm0⟩
  refine V.region ?_
  refine VO.cons rfl (V1.fieldRef rfl rfl fo_41_0 rfl lt0 ?_)
  refine VO.cons rfl (V1.loadRef (k := 0) rfl rfl tyk_3 rfl rfl rfl rfl rfl lt0 ?_)
  refine VO.cons rfl (V1.call rfl rfl rfl cok_28 rfl (ok_spec_l1In hh3) rfl lt0 ?_)
  rintro _ _ ⟨rfl, rfl⟩
  refine VO.cons rfl (V1.move rfl rfl rfl lt0 ?_)
  apply VO.and (n := 3) rfl rfl rfl rfl rfl rfl lt0 (.none rfl)
  ·
   intro hg3
   refine VO.step (.some rfl rfl rfl) (V1.fieldRef rfl rfl fo_41_1 rfl lt0 ?_)
   refine VO.step (.some rfl rfl rfl) (V1.loadRef (k := 0) rfl rfl tyk_3 rfl rfl rfl rfl rfl lt0 ?_)
   refine VO.step (.some rfl rfl rfl) (V1.call rfl rfl rfl cok_28 rfl (ok_spec_l1In (cond_t hg3 hh4)) rfl lt0 ?_)
   rintro _ _ ⟨rfl, rfl⟩
   exact VO.nil ⟨rfl, rfl, rfl, rfl, .inr ⟨rfl, .inr ⟨rfl, .inr ⟨rfl, .inr ⟨rfl, .inl rfl⟩⟩⟩⟩⟩
  refine VO.cons rfl (V1.move rfl rfl rfl lt0 ?_)
  apply VO.and (n := 3) rfl rfl rfl rfl rfl rfl lt0 (.none rfl)
  ·
   intro hg4
   refine VO.step (.some rfl rfl rfl) (V1.fieldRef rfl rfl fo_41_2 rfl lt0 ?_)
   refine VO.step (.some rfl rfl rfl) (V1.loadRef (k := 0) rfl rfl tyk_3 rfl rfl rfl rfl rfl lt0 ?_)
   refine VO.step (.some rfl rfl rfl) (V1.call rfl rfl rfl cok_73 rfl (ok_spec_l2Day (cond_t hg4 hh5)) rfl lt0 ?_)
   rintro _ _ ⟨rfl, rfl⟩
   exact VO.nil ⟨rfl, rfl, rfl, rfl, .inr ⟨rfl, .inr ⟨rfl, .inr ⟨rfl, .inr ⟨rfl, .inl rfl⟩⟩⟩⟩⟩
  refine VO.cons rfl (V1.move rfl rfl rfl lt0 ?_)
  apply VO.and (n := 4) rfl rfl rfl rfl rfl rfl lt0 (.none rfl)
  ·
   intro hg5
   refine VO.step (.some rfl rfl rfl) (V1.fieldRef rfl rfl fo_41_3 rfl lt0 ?_)
   refine VO.step (.some rfl rfl rfl) (V1.loadRef (k := 0) rfl rfl tyk_39 rfl rfl rfl rfl rfl lt0 ?_)
   refine VO.step (.some rfl rfl rfl) (V1.lenMap rfl rfl rfl rfl rfl rfl isl_39 lt0 ?_)
   refine VO.step (.some rfl rfl rfl) (V1.int rfl rfl rfl rfl rfl lt0 ?_)
   exact VO.nil ⟨rfl, rfl, rfl, rfl, .inr ⟨rfl, .inr ⟨rfl, .inr ⟨rfl, .inr ⟨rfl, .inr ⟨rfl, .inl rfl⟩⟩⟩⟩⟩⟩
  refine VO.cons rfl (V1.assign rfl rfl rfl lt0 ?_)
  refine VO.nil ?_
  refine V.ret ?_
  obtain rfl := Option.some.inj hm0
  exact ⟨_, [], ⟨_, _, rfl, rfl, rfl⟩, List.nil_sublist _, rfl, rfl⟩

theorem ok_spec_l2Records {ρ0 σ0 rn : Nat} {list : List Record} {r : Bool} (h : M.spec_l2Records list = some r) : Does Try.prog 37 [.vl ρ0 4 (List.map (encRecord σ0) list)] [] rn (fun x H => x = .bool r ∧ H = []) := by
 have hm0 := h; clear h; unfold M.spec_l2Records at hm0
 try dsimp only at hm0
 refine Does.intro (N := 37) Try.func37 rfl rfl rfl rfl ?_
 intro w0 S0 L0
 refine V.seq ?_
 refine V.region ?_
 refine VO.cons rfl (V1.assign rfl rfl rfl lt0 ?_)
 refine VO.nil ?_
 refine V.seq ?_
 refine V.seq ?_
 refine V.region ?_
 refine VO.cons rfl (V1.assign rfl rfl rfl lt0 ?_)
 refine VO.nil ?_
 replace hm0 := bindO hm0; rcases hm0 with ⟨e0, he1, hm0⟩
 refine V.cutT (D := (Unit) × (Unit)) (fun ⟨_, _⟩ => ⟨37, [(0, .vl ρ0 4 (List.map (encRecord σ0) list))], []⟩) (fun ⟨_, _⟩ => (.inl () = e0)) ?_ ?_
 ·
  refine V.block ?_
  refine V.keep 37 [3, 0] [] (E0 := [(3, .int .i64 (0 : Int)), (0, .vl ρ0 4 (List.map (encRecord σ0) list))]) (H0 := []) rfl (⟨_, _, rfl, rfl, _, _, rfl, rfl, rfl⟩) (rfl) rfl ?_
  refine V.loopE (D := Nat × (Int) × (Unit)) (fun ⟨n0, i, _⟩ => [(3, .int .i64 i)]) (fun ⟨n0, i, _⟩ => []) (fun ⟨n0, i, _⟩ => loopO (M.spec_l2Records_l0 list) n0 i = some e0) (fun ⟨n0, _, _⟩ => n0) (rounds, (0 : Int), ()) rfl he1 ?_
  rintro ⟨n0, i, _⟩ hP0
  obtain ⟨m0, y0, rfl, hm1, hl1, hr1⟩ := loop_head hP0
  unfold M.spec_l2Records_l0 at hm1; dsimp only at hm1
  show V _ _ _ ⟨37, [(3, .int .i64 i), (0, .vl ρ0 4 (List.map (encRecord σ0) list))], []⟩
  refine V.seq ?_
  refine V.seq ?_
  refine V.region ?_
  refine VO.cons rfl (V1.move rfl rfl rfl lt0 ?_)
  refine VO.cons rfl (V1.move rfl rfl rfl lt0 ?_)
  refine VO.cons rfl (V1.lenMap rfl rfl rfl rfl rfl rfl isl_34 lt0 ?_)
  refine VO.cons rfl (V1.int rfl rfl rfl rfl rfl lt0 ?_)
  refine VO.nil ?_
  refine V.cond rfl (fun hc0 => ?_) (fun hc0 => ?_)
  ·
   replace hm1 := cond_t hc0 hm1
   refine V.skip ?_
   refine V.keep 37 [0, 3] [] (E0 := [(0, .vl ρ0 4 (List.map (encRecord σ0) list)), (3, .int .i64 i)]) (H0 := []) rfl (⟨_, _, rfl, rfl, _, _, rfl, rfl, rfl⟩) (rfl) rfl ?_
   refine V.seq ?_
   refine V.block ?_
   refine V.seq ?_
   replace hm1 := asrt_some hm1; rcases hm1 with ⟨hh0, hm1⟩
   replace hm1 := bindO hm1; rcases hm1 with ⟨y1, hh1, hm1⟩
   replace hm1 := asrt_some hm1; rcases hm1 with ⟨hh2, hm1⟩
   replace hm1 := asrt_some hm1; rcases hm1 with ⟨hh3, hm1⟩
   refine V.regionM 37 24 [⟨[(0, none)], [], none⟩, ⟨[(3, none)], [], none⟩, ⟨[(10, some 1), (11, some 0)], [], none⟩, ⟨[(12, some 0)], [], none⟩, ⟨[(13, some 0)], [], none⟩, ⟨[(14, some 0)], [], none⟩, ⟨[(15, some 0)], [], none⟩, ⟨[(3, none)], [(0, false)], none⟩, ⟨[(17, some 0)], [(1, false)], none⟩, ⟨[(18, some 0)], [(2, false)], none⟩, ⟨[(0, none)], [(0, true), (3, false)], none⟩, ⟨[(3, none)], [(1, true), (4, false)], none⟩, ⟨[(21, some 0)], [(2, true), (5, false)], none⟩, ⟨[(20, some 2), (22, some 0)], [(3, true), (6, false)], none⟩, ⟨[(23, some 0)], [(4, true), (7, false)], none⟩, ⟨[(24, some 0)], [(5, true), (8, false)], none⟩, ⟨[(0, none)], [(6, true), (9, false)], none⟩, ⟨[(3, none)], [(7, true), (10, false)], none⟩, ⟨[(26, some 1), (27, some 0)], [(8, true), (11, false)], none⟩, ⟨[(28, some 0)], [(9, true), (12, false)], none⟩, ⟨[(29, some 0)], [(10, true), (13, false)], none⟩, ⟨[(25, some 5), (30, some 0)], [(11, true), (14, false)], none⟩, ⟨[], [(15, false)], some (true, 19, 31, 12, 0)⟩, ⟨[], [], some (false, 16, 32, 16, 0)⟩] [(0, none), (3, none), (33, some 0)] (⟨_, rfl, ⟨_, rfl, ⟨_, rfl, ⟨_, rfl, ⟨_, rfl, ⟨_, rfl, ⟨_, rfl, ⟨_, rfl, ⟨_, rfl, ⟨_, rfl, ⟨_, rfl, ⟨_, rfl, ⟨_, rfl, ⟨_, rfl, ⟨_, rfl, ⟨_, rfl, ⟨_, rfl, ⟨_, rfl, ⟨_, rfl, ⟨_, rfl, ⟨_, rfl, ⟨_, rfl, ⟨_, rfl, ⟨_, rfl, ⟨rfl, rfl⟩⟩⟩⟩⟩⟩⟩⟩⟩⟩⟩⟩⟩⟩⟩⟩⟩⟩⟩⟩⟩⟩⟩⟩⟩) mixed_orders rfl (by decide +kernel) (fun hck4 => ?_)
   refine VP.step (p := ?pv194) rfl rfl rfl (⟨_, _, rfl, rfl, rfl⟩) ?hv194 ?rest194 hck4
   case hv194 =>
    intro E1
    refine (V1.move rfl rfl rfl lt0 ?_)
    exact rfl
   refine VP.step (p := ?pv195) rfl rfl rfl (⟨_, _, rfl, rfl, rfl⟩) ?hv195 ?rest195 hck4
   case hv195 =>
    intro E1
    refine (V1.move rfl rfl rfl lt0 ?_)
    exact rfl
   refine VP.step (p := ?pv196) rfl rfl rfl (⟨_, _, rfl, rfl, _, _, rfl, rfl, rfl⟩) ?hv196 ?rest196 hck4
   case hv196 =>
    intro E1
    refine (V1.indexI rfl rfl esz_34 rfl rfl hh0 lt0 ?_)
    exact rfl
   refine VP.step (p := ?pv197) rfl rfl rfl (⟨_, _, rfl, rfl, rfl⟩) ?hv197 ?rest197 hck4
   case hv197 =>
    intro E1
    refine (V1.loadPinAll rfl rfl tyk_41 rfl rfl lt0 ?_)
    exact rfl
   refine VP.step (p := ?pv198) rfl rfl rfl (⟨_, _, rfl, rfl, rfl⟩) ?hv198 ?rest198 hck4
   case hv198 =>
    intro E1
    refine (V1.call rfl rfl rfl cok_56 rfl (ok_spec_l2Record hh1) rfl lt0 ?_)
    rintro _ _ ⟨rfl, rfl⟩
    exact rfl
   refine VP.step (p := ?pv200) rfl rfl rfl (⟨_, _, rfl, rfl, rfl⟩) ?hv200 ?rest200 hck4
   case hv200 =>
    intro E1
    refine (V1.not rfl rfl rfl lt0 ?_)
    exact rfl
   refine VP.step (p := ?pv201) rfl rfl rfl (⟨_, _, rfl, rfl, rfl⟩) ?hv201 ?rest201 hck4
   case hv201 =>
    intro E1
    refine (V1.move rfl rfl rfl lt0 ?_)
    exact rfl
   refine VP.step (p := ?pv202) rfl rfl rfl (⟨_, _, rfl, rfl, rfl⟩) ?hv202 ?rest202 hck4
   case hv202 =>
    refine ⟨_, rfl, fun hg0 => ?_⟩
    intro E1
    refine (V1.move rfl rfl rfl lt0 ?_)
    exact rfl
   refine VP.step (p := ?pv203) rfl rfl rfl (⟨_, _, rfl, rfl, rfl⟩) ?hv203 ?rest203 hck4
   case hv203 =>
    refine ⟨_, rfl, fun hg0 => ?_⟩
    intro E1
    refine (V1.int rfl rfl rfl rfl rfl lt0 ?_)
    exact rfl
   refine VP.step (p := ?pv204) rfl rfl rfl (⟨_, _, rfl, rfl, rfl⟩) ?hv204 ?rest204 hck4
   case hv204 =>
    refine ⟨_, rfl, fun hg0 => ?_⟩
    intro E1
    refine (V1.move rfl rfl rfl lt0 ?_)
    exact rfl
   refine VP.step (p := ?pv205) rfl rfl rfl (⟨_, _, rfl, rfl, rfl⟩) ?hv205 ?rest205 hck4
   case hv205 =>
    refine ⟨_, rfl, fun hg1 => ?_⟩
    refine ⟨_, rfl, fun hg0 => ?_⟩
    intro E1
    refine (V1.move rfl rfl rfl lt0 ?_)
    exact rfl
   refine VP.step (p := ?pv206) rfl rfl rfl (⟨_, _, rfl, rfl, rfl⟩) ?hv206 ?rest206 hck4
   case hv206 =>
    refine ⟨_, rfl, fun hg1 => ?_⟩
    refine ⟨_, rfl, fun hg0 => ?_⟩
    intro E1
    refine (V1.move rfl rfl rfl lt0 ?_)
    exact rfl
   refine VP.step (p := ?pv207) rfl rfl rfl (⟨_, _, rfl, rfl, rfl⟩) ?hv207 ?rest207 hck4
   case hv207 =>
    refine ⟨_, rfl, fun hg1 => ?_⟩
    refine ⟨_, rfl, fun hg0 => ?_⟩
    intro E1
    refine (V1.int rfl rfl rfl rfl rfl lt0 ?_)
    exact rfl
   refine VP.step (p := ?pv208) rfl rfl rfl (⟨_, _, rfl, rfl, _, _, rfl, rfl, rfl⟩) ?hv208 ?rest208 hck4
   case hv208 =>
    refine ⟨_, rfl, fun hg1 => ?_⟩
    refine ⟨_, rfl, fun hg0 => ?_⟩
    intro E1
    refine (V1.indexI rfl rfl esz_34 rfl rfl (hh2 hg0 hg1) lt0 ?_)
    exact rfl
   refine VP.step (p := ?pv209) rfl rfl rfl (⟨_, _, rfl, rfl, rfl⟩) ?hv209 ?rest209 hck4
   case hv209 =>
    refine ⟨_, rfl, fun hg1 => ?_⟩
    refine ⟨_, rfl, fun hg0 => ?_⟩
    intro E1
    refine (V1.fieldPin rfl rfl fo_41_0 rfl lt0 ?_)
    exact rfl
   refine VP.step (p := ?pv210) rfl rfl rfl (⟨_, _, rfl, rfl, rfl⟩) ?hv210 ?rest210 hck4
   case hv210 =>
    refine ⟨_, rfl, fun hg1 => ?_⟩
    refine ⟨_, rfl, fun hg0 => ?_⟩
    intro E1
    refine (V1.loadPin rfl rfl tyk_3 rfl rfl lt0 ?_)
    exact rfl
   refine VP.step (p := ?pv211) rfl rfl rfl (⟨_, _, rfl, rfl, rfl⟩) ?hv211 ?rest211 hck4
   case hv211 =>
    refine ⟨_, rfl, fun hg1 => ?_⟩
    refine ⟨_, rfl, fun hg0 => ?_⟩
    intro E1
    refine (V1.move rfl rfl rfl lt0 ?_)
    exact rfl
   refine VP.step (p := ?pv212) rfl rfl rfl (⟨_, _, rfl, rfl, rfl⟩) ?hv212 ?rest212 hck4
   case hv212 =>
    refine ⟨_, rfl, fun hg1 => ?_⟩
    refine ⟨_, rfl, fun hg0 => ?_⟩
    intro E1
    refine (V1.move rfl rfl rfl lt0 ?_)
    exact rfl
   refine VP.step (p := ?pv213) rfl rfl rfl (⟨_, _, rfl, rfl, _, _, rfl, rfl, rfl⟩) ?hv213 ?rest213 hck4
   case hv213 =>
    refine ⟨_, rfl, fun hg1 => ?_⟩
    refine ⟨_, rfl, fun hg0 => ?_⟩
    intro E1
    refine (V1.indexI rfl rfl esz_34 rfl rfl (hh3 hg0 hg1) lt0 ?_)
    exact rfl
   refine VP.step (p := ?pv214) rfl rfl rfl (⟨_, _, rfl, rfl, rfl⟩) ?hv214 ?rest214 hck4
   case hv214 =>
    refine ⟨_, rfl, fun hg1 => ?_⟩
    refine ⟨_, rfl, fun hg0 => ?_⟩
    intro E1
    refine (V1.fieldPin rfl rfl fo_41_0 rfl lt0 ?_)
    exact rfl
   refine VP.step (p := ?pv215) rfl rfl rfl (⟨_, _, rfl, rfl, rfl⟩) ?hv215 ?rest215 hck4
   case hv215 =>
    refine ⟨_, rfl, fun hg1 => ?_⟩
    refine ⟨_, rfl, fun hg0 => ?_⟩
    intro E1
    refine (V1.loadPin rfl rfl tyk_3 rfl rfl lt0 ?_)
    exact rfl
   refine VP.step (p := ?pv216) rfl rfl rfl (⟨_, _, rfl, rfl, _, _, rfl, rfl, rfl⟩) ?hv216 ?rest216 hck4
   case hv216 =>
    refine ⟨_, rfl, fun hg1 => ?_⟩
    refine ⟨_, rfl, fun hg0 => ?_⟩
    intro E1
    refine (V1.int rfl rfl rfl rfl rfl lt0 ?_)
    exact rfl
   refine VP.pickAnd rfl rfl rfl rfl rfl rfl (⟨_, rfl, fun _ => trivial⟩) ?_ hck4
   refine VP.pickOr rfl rfl rfl rfl rfl rfl (trivial) ?_ hck4
   refine VP.fin rfl (⟨_, _, rfl, rfl, _, _, rfl, rfl, _, _, rfl, rfl, rfl⟩) ?_
   refine VO.nil ?_
   refine V.cond rfl (fun hc1 => ?_) (fun hc1 => ?_)
   ·
    replace hm1 := cond_t hc1 hm1
    refine V.seq ?_
    refine V.region ?_
    refine VO.cons rfl (V1.assign rfl rfl rfl lt0 ?_)
    refine VO.nil ?_
    refine V.ret ?_
    obtain rfl := hr1 _ (Option.some.inj hm1).symm
    change some _ = some _ at hm0
    obtain rfl := Option.some.inj hm0
    exact ⟨_, [], ⟨_, _, rfl, rfl, rfl⟩, List.nil_sublist _, rfl, rfl⟩
   ·
    replace hm1 := cond_f hc1 hm1
    refine V.skip ?_
    refine V.region ?_
    refine VO.cons rfl (V1.move rfl rfl rfl lt0 ?_)
    refine VO.cons rfl (V1.int rfl rfl rfl rfl rfl lt0 ?_)
    refine VO.cons rfl (V1.assign rfl rfl rfl lt0 ?_)
    refine VO.nil ?_
    exact ⟨(m0, (IntKind.i64.wrap (i + (1 : Int))), ()), hl1 _ (Option.some.inj hm1).symm, Nat.lt_succ_self _, Keeps.mk (ks := []) rfl ⟨rfl, rfl, trivial⟩ (rfl) rfl⟩
  ·
   replace hm1 := cond_f hc0 hm1
   refine V.exit ?_
   obtain rfl := hr1 _ (Option.some.inj hm1).symm
   exact ⟨((), ()), rfl, Keeps.mk (ks := []) rfl ⟨rfl, trivial⟩ (rfl) rfl⟩
 ·
  rintro ⟨_, _⟩ rfl
  try dsimp only at hm0
  refine V.seq ?_
  refine V.region ?_
  refine VO.cons rfl (V1.move rfl rfl rfl lt0 ?_)
  refine VO.cons rfl (V1.lenMap rfl rfl rfl rfl rfl rfl isl_34 lt0 ?_)
  refine VO.cons rfl (V1.int rfl rfl rfl rfl rfl lt0 ?_)
  refine VO.cons rfl (V1.assign rfl rfl rfl lt0 ?_)
  refine VO.nil ?_
  refine V.ret ?_
  obtain rfl := Option.some.inj hm0
  exact ⟨_, [], ⟨_, _, rfl, rfl, rfl⟩, List.nil_sublist _, rfl, rfl⟩

theorem ok_spec_l12Seed {rn : Nat} {seed : Int} {r : Bool} (h : M.spec_l12Seed seed = some r) : Does Try.prog 38 [.int .i64 seed] [] rn (fun x H => x = .bool r ∧ H = []) := by
 have hm0 := h; clear h; unfold M.spec_l12Seed at hm0
 try dsimp only at hm0
 refine Does.intro (N := 5) Try.func38 rfl rfl rfl rfl ?_
 intro w0 S0 L0
 refine V.seq ?_
 refine V.region ?_
 refine VO.cons rfl (V1.assign rfl rfl rfl lt0 ?_)
 refine VO.nil ?_
 refine V.seq ?_
 replace hm0 := bindO hm0; rcases hm0 with ⟨y0, hh0, hm0⟩
 refine V.region ?_
 refine VO.cons rfl (V1.move rfl rfl rfl lt0 ?_)
 refine VO.cons rfl (V1.call rfl rfl rfl cok_28 rfl (ok_spec_l1In hh0) rfl lt0 ?_)
 rintro _ _ ⟨rfl, rfl⟩
 refine VO.cons rfl (V1.assign rfl rfl rfl lt0 ?_)
 refine VO.nil ?_
 refine V.ret ?_
 obtain rfl := Option.some.inj hm0
 exact ⟨_, [], ⟨_, _, rfl, rfl, rfl⟩, List.nil_sublist _, rfl, rfl⟩

theorem ok_spec_InSeries {ρ0 σ0 rn : Nat} {list : List Record} {series : Int} {r : List Int × Bool} (h : M.spec_InSeries list series = some r) : Does Try.prog 39 [.vl ρ0 4 (List.map (encRecord σ0) list), .int .i64 series] [] rn (fun x H => ∃ (ob0_ : Nat), x = .tup [PV.sref ob0_ 1 0 (List.length r.1), .bool r.2] ∧ H = [(ob0_, ⟨1, List.map encInt r.1⟩)]) := by
 have hm0 := h; clear h; unfold M.spec_InSeries at hm0
 try dsimp only at hm0
 refine Does.intro (N := 40) Try.func39 rfl rfl rfl rfl ?_
 intro w0 S0 L0
 refine V.seq ?_
 refine V.region ?_
 refine VO.cons rfl (V1.assign rfl rfl rfl lt0 ?_)
 refine VO.cons rfl (V1.assign rfl rfl rfl lt0 ?_)
 refine VO.nil ?_
 refine V.seq ?_
 refine V.region ?_
 refine VO.cons rfl (V1.buildSliceT (f := encInt) ([] : List Int) rfl rfl esz_24 zk_3 rfl rfl rfl rfl rfl rfl rfl lt0 ?_)
 intro b0
 refine VO.cons rfl (V1.assign rfl rfl rfl lt0 ?_)
 refine VO.nil ?_
 refine V.seq ?_
 refine V.seq ?_
 replace hm0 := bindO hm0; rcases hm0 with ⟨y0, hh0, hm0⟩
 replace hm0 := bindO hm0; rcases hm0 with ⟨y1, hh1, hm0⟩
 refine V.region ?_
 refine VO.cons rfl (V1.move rfl rfl rfl lt0 ?_)
 refine VO.cons rfl (V1.call rfl rfl rfl cok_37 rfl (ok_spec_l2Records hh0) rfl lt0 ?_)
 rintro _ _ ⟨rfl, rfl⟩
 refine VO.cons rfl (V1.not rfl rfl rfl lt0 ?_)
 refine VO.cons rfl (V1.move rfl rfl rfl lt0 ?_)
 apply VO.or (n := 3) rfl rfl rfl rfl rfl rfl lt0 (.none rfl)
 ·
  intro hg0
  refine VO.step (.some rfl rfl rfl) (V1.move rfl rfl rfl lt0 ?_)
  refine VO.step (.some rfl rfl rfl) (V1.call rfl rfl rfl cok_28 rfl (ok_spec_l1In (cond_f hg0 hh1)) rfl lt0 ?_)
  rintro _ _ ⟨rfl, rfl⟩
  refine VO.step (.some rfl rfl rfl) (V1.not rfl rfl rfl lt0 ?_)
  exact VO.nil ⟨rfl, rfl, rfl, rfl, .inr ⟨rfl, .inr ⟨rfl, .inr ⟨rfl, .inr ⟨rfl, .inl rfl⟩⟩⟩⟩⟩
 refine VO.nil ?_
 refine V.keep 40 [0, 1, 6, 16] [0] (E0 := [(0, .vl ρ0 4 (List.map (encRecord σ0) list)), (1, .int .i64 series), (6, .sref b0 1 0 (List.length ([] : List Int))), (16, .bool ((!y0) || (!y1)))]) (H0 := [(b0, ⟨1, List.map encInt ([] : List Int)⟩)]) rfl (⟨_, _, rfl, rfl, _, _, rfl, rfl, _, _, rfl, rfl, _, _, rfl, rfl, rfl⟩) (⟨_, _, rfl, rfl, rfl⟩) rfl ?_
 refine V.cond rfl (fun hc0 => ?_) (fun hc0 => ?_)
 ·
  replace hm0 := cond_t hc0 hm0
  refine V.seq ?_
  refine V.region ?_
  refine VO.cons rfl (V1.move rfl rfl rfl lt0 ?_)
  refine VO.cons rfl (V1.assign rfl rfl rfl lt0 ?_)
  refine VO.cons rfl (V1.assign rfl rfl rfl lt0 ?_)
  refine VO.nil ?_
  refine V.keep 40 [4, 5] [0] (E0 := [(4, .sref b0 1 0 (List.length ([] : List Int))), (5, .bool false)]) (H0 := [(b0, ⟨1, List.map encInt ([] : List Int)⟩)]) rfl (⟨_, _, rfl, rfl, _, _, rfl, rfl, rfl⟩) (⟨_, _, rfl, rfl, rfl⟩) rfl ?_
  refine V.ret ?_
  obtain rfl := Option.some.inj hm0
  exact ⟨_, _, ⟨_, _, rfl, rfl, _, _, rfl, rfl, rfl⟩, List.Sublist.refl _, b0, rfl, rfl⟩
 ·
  replace hm0 := cond_f hc0 hm0
  refine V.skip ?_
  refine V.seq ?_
  refine V.seq ?_
  refine V.region ?_
  refine VO.cons rfl (V1.assign rfl rfl rfl lt0 ?_)
  refine VO.nil ?_
  replace hm0 := bindO hm0; rcases hm0 with ⟨e0, he1, hm0⟩
  refine V.cutT (D := (List Int) × (Nat)) (fun ⟨out_, b1⟩ => ⟨40, [(6, .sref b1 1 0 (List.length out_))], [(b1, ⟨1, List.map encInt out_⟩)]⟩) (fun ⟨out_, b1⟩ => (out_ = e0)) ?_ ?_
  ·
   refine V.block ?_
   refine V.keep 40 [6, 7, 0, 1] [0] (E0 := [(6, .sref b0 1 0 (List.length ([] : List Int))), (7, .int .i64 (0 : Int)), (0, .vl ρ0 4 (List.map (encRecord σ0) list)), (1, .int .i64 series)]) (H0 := [(b0, ⟨1, List.map encInt ([] : List Int)⟩)]) rfl (⟨_, _, rfl, rfl, _, _, rfl, rfl, _, _, rfl, rfl, _, _, rfl, rfl, rfl⟩) (⟨_, _, rfl, rfl, rfl⟩) rfl ?_
   refine V.loopE (D := Nat × (List Int × Int) × (Nat)) (fun ⟨n0, ⟨out_0, i⟩, b2⟩ => [(6, .sref b2 1 0 (List.length out_0)), (7, .int .i64 i)]) (fun ⟨n0, ⟨out_0, i⟩, b2⟩ => [(b2, ⟨1, List.map encInt out_0⟩)]) (fun ⟨n0, ⟨out_0, i⟩, b2⟩ => loopO (M.spec_InSeries_l0 list series) n0 (out_0, i) = some e0) (fun ⟨n0, _, _⟩ => n0) (rounds, (([] : List Int), (0 : Int)), b0) rfl he1 ?_
   rintro ⟨n0, ⟨out_0, i⟩, b2⟩ hP0
   obtain ⟨m0, y2, rfl, hm1, hl1, hr1⟩ := loop_head hP0
   unfold M.spec_InSeries_l0 at hm1; dsimp only at hm1
   show V _ _ _ ⟨40, [(6, .sref b2 1 0 (List.length out_0)), (7, .int .i64 i), (0, .vl ρ0 4 (List.map (encRecord σ0) list)), (1, .int .i64 series)], [(b2, ⟨1, List.map encInt out_0⟩)]⟩
   refine V.seq ?_
   refine V.seq ?_
   refine V.region ?_
   refine VO.cons rfl (V1.move rfl rfl rfl lt0 ?_)
   refine VO.cons rfl (V1.move rfl rfl rfl lt0 ?_)
   refine VO.cons rfl (V1.lenMap rfl rfl rfl rfl rfl rfl isl_34 lt0 ?_)
   refine VO.cons rfl (V1.int rfl rfl rfl rfl rfl lt0 ?_)
   refine VO.nil ?_
   refine V.cond rfl (fun hc1 => ?_) (fun hc1 => ?_)
   ·
    replace hm1 := cond_t hc1 hm1
    refine V.skip ?_
    refine V.keep 40 [0, 1, 6, 7] [0] (E0 := [(0, .vl ρ0 4 (List.map (encRecord σ0) list)), (1, .int .i64 series), (6, .sref b2 1 0 (List.length out_0)), (7, .int .i64 i)]) (H0 := [(b2, ⟨1, List.map encInt out_0⟩)]) rfl (⟨_, _, rfl, rfl, _, _, rfl, rfl, _, _, rfl, rfl, _, _, rfl, rfl, rfl⟩) (⟨_, _, rfl, rfl, rfl⟩) rfl ?_
    refine V.seq ?_
    replace hm1 := bindO hm1; rcases hm1 with ⟨j0, hm2, hm1⟩
    refine V.cutT (D := (List Int) × (Nat)) (fun ⟨out_1, b3⟩ => ⟨40, [(6, .sref b3 1 0 (List.length out_1)), (0, .vl ρ0 4 (List.map (encRecord σ0) list)), (1, .int .i64 series), (7, .int .i64 i)], [(b3, ⟨1, List.map encInt out_1⟩)]⟩) (fun ⟨out_1, b3⟩ => (out_1 = j0)) ?_ ?_
    ·
     refine V.block ?_
     refine V.seq ?_
     replace hm2 := asrt_some hm2; rcases hm2 with ⟨hh2, hm2⟩
     refine V.region ?_
     refine VO.cons rfl (V1.move rfl rfl rfl lt0 ?_)
     refine VO.cons rfl (V1.move rfl rfl rfl lt0 ?_)
     refine VO.cons rfl (V1.indexI rfl rfl esz_34 rfl rfl hh2 lt0 ?_)
     refine VO.cons rfl (V1.fieldPin rfl rfl fo_41_1 rfl lt0 ?_)
     refine VO.cons rfl (V1.loadPin rfl rfl tyk_3 rfl rfl lt0 ?_)
     refine VO.cons rfl (V1.move rfl rfl rfl lt0 ?_)
     refine VO.cons rfl (V1.int rfl rfl rfl rfl rfl lt0 ?_)
     refine VO.nil ?_
     refine V.keep 40 [0, 1, 6, 7, 30] [0] (E0 := [(0, .vl ρ0 4 (List.map (encRecord σ0) list)), (1, .int .i64 series), (6, .sref b2 1 0 (List.length out_0)), (7, .int .i64 i), (30, .bool (((list.getD (Int.toNat i) default).Series) == series))]) (H0 := [(b2, ⟨1, List.map encInt out_0⟩)]) rfl (⟨_, _, rfl, rfl, _, _, rfl, rfl, _, _, rfl, rfl, _, _, rfl, rfl, _, _, rfl, rfl, rfl⟩) (⟨_, _, rfl, rfl, rfl⟩) rfl ?_
     refine V.cond rfl (fun hc2 => ?_) (fun hc2 => ?_)
     ·
      replace hm2 := cond_t hc2 hm2
      replace hm2 := asrt_some hm2; rcases hm2 with ⟨hh3, hm2⟩
      replace hm2 := asrt_some hm2; rcases hm2 with ⟨hh4, hm2⟩
      refine V.region ?_
      refine VO.cons rfl (V1.move rfl rfl rfl lt0 ?_)
      refine VO.cons rfl (V1.move rfl rfl rfl lt0 ?_)
      refine VO.cons rfl (V1.move rfl rfl rfl lt0 ?_)
      refine VO.cons rfl (V1.indexI rfl rfl esz_34 rfl rfl hh3 lt0 ?_)
      refine VO.cons rfl (V1.fieldPin rfl rfl fo_41_0 rfl lt0 ?_)
      refine VO.cons rfl (V1.loadPin rfl rfl tyk_3 rfl rfl lt0 ?_)
      refine VO.cons rfl (V1.buildSliceT (f := encInt) ([(list.getD (Int.toNat i) default).Id] : List Int) rfl rfl esz_24 zk_3 rfl rfl rfl rfl rfl rfl rfl lt0 ?_)
      intro b4
      refine VO.cons rfl (V1.appendMap (k := 1) (f := encInt) (l := out_0) (m := ([(list.getD (Int.toNat i) default).Id] : List Int)) rfl rfl rfl rfl rfl esz_24 eby_24 zk_3 rfl rfl rfl (SrcOf.srMap (k := 0) rfl isl_24) hh4 lt0 ?_)
      intro b5
      refine VO.cons rfl (V1.assign rfl rfl rfl lt0 ?_)
      refine VO.nil ?_
      exact ⟨((out_0 ++ ([(list.getD (Int.toNat i) default).Id] : List Int)), b5), Option.some.inj hm2, Keeps.mk (ks := [0]) rfl ⟨rfl, rfl, rfl, rfl, trivial⟩ (⟨_, _, rfl, rfl, rfl⟩) rfl⟩
     ·
      replace hm2 := cond_f hc2 hm2
      refine V.skip ?_
      exact ⟨(out_0, b2), Option.some.inj hm2, Keeps.mk (ks := [0]) rfl ⟨rfl, rfl, rfl, rfl, trivial⟩ (⟨_, _, rfl, rfl, rfl⟩) rfl⟩
    ·
     rintro ⟨out_1, b3⟩ rfl
     try dsimp only at hm1
     refine V.region ?_
     refine VO.cons rfl (V1.move rfl rfl rfl lt0 ?_)
     refine VO.cons rfl (V1.int rfl rfl rfl rfl rfl lt0 ?_)
     refine VO.cons rfl (V1.assign rfl rfl rfl lt0 ?_)
     refine VO.nil ?_
     exact ⟨(m0, (out_1, (IntKind.i64.wrap (i + (1 : Int)))), b3), hl1 _ (Option.some.inj hm1).symm, Nat.lt_succ_self _, Keeps.mk (ks := [0]) rfl ⟨rfl, rfl, rfl, rfl, trivial⟩ (⟨_, _, rfl, rfl, rfl⟩) rfl⟩
   ·
    replace hm1 := cond_f hc1 hm1
    refine V.exit ?_
    obtain rfl := hr1 _ (Option.some.inj hm1).symm
    exact ⟨(out_0, b2), rfl, Keeps.mk (ks := [0]) rfl ⟨rfl, trivial⟩ (⟨_, _, rfl, rfl, rfl⟩) rfl⟩
  ·
   rintro ⟨out_, b1⟩ rfl
   try dsimp only at hm0
   refine V.seq ?_
   refine V.region ?_
   refine VO.cons rfl (V1.move rfl rfl rfl lt0 ?_)
   refine VO.cons rfl (V1.assign rfl rfl rfl lt0 ?_)
   refine VO.cons rfl (V1.assign rfl rfl rfl lt0 ?_)
   refine VO.nil ?_
   refine V.keep 40 [4, 5] [0] (E0 := [(4, .sref b1 1 0 (List.length out_)), (5, .bool true)]) (H0 := [(b1, ⟨1, List.map encInt out_⟩)]) rfl (⟨_, _, rfl, rfl, _, _, rfl, rfl, rfl⟩) (⟨_, _, rfl, rfl, rfl⟩) rfl ?_
   refine V.ret ?_
   obtain rfl := Option.some.inj hm0
   exact ⟨_, _, ⟨_, _, rfl, rfl, _, _, rfl, rfl, rfl⟩, List.Sublist.refl _, b1, rfl, rfl⟩

theorem ok_spec_l1Own {ρ0 rn : Nat} {l : List Int} {r : List Int} (h : M.spec_l1Own l = some r) : Does Try.prog 57 [.vl ρ0 1 (List.map encInt l)] [] rn (fun x H => ∃ (ob0_ : Nat), x = PV.sref ob0_ 1 0 (List.length r) ∧ H = [(ob0_, ⟨1, List.map encInt r⟩)]) := by
 have hm0 := h; clear h; unfold M.spec_l1Own at hm0
 try dsimp only at hm0
 refine Does.intro (N := 6) Try.func57 rfl rfl rfl rfl ?_
 intro w0 S0 L0
 refine V.seq ?_
 refine V.region ?_
 refine VO.cons rfl (V1.assign rfl rfl rfl lt0 ?_)
 refine VO.nil ?_
 refine V.seq ?_
 replace hm0 := asrt_some hm0; rcases hm0 with ⟨hh0, hm0⟩
 refine V.region ?_
 refine VO.cons rfl (V1.buildSliceT (f := encInt) ([] : List Int) rfl rfl esz_24 zk_3 rfl rfl rfl rfl rfl rfl rfl lt0 ?_)
 intro b0
 refine VO.cons rfl (V1.move rfl rfl rfl lt0 ?_)
 refine VO.cons rfl (V1.appendMap (k := 0) (f := encInt) (l := ([] : List Int)) (m := l) rfl rfl rfl rfl rfl esz_24 eby_24 zk_3 rfl rfl rfl (.vl isl_24) hh0 lt0 ?_)
 intro b1
 refine VO.cons rfl (V1.assign rfl rfl rfl lt0 ?_)
 refine VO.nil ?_
 refine V.keep 6 [2] [0] (E0 := [(2, .sref b1 1 0 (List.length (([] : List Int) ++ l)))]) (H0 := [(b1, ⟨1, List.map encInt (([] : List Int) ++ l)⟩)]) rfl (⟨_, _, rfl, rfl, rfl⟩) (⟨_, _, rfl, rfl, rfl⟩) rfl ?_
 refine V.ret ?_
 obtain rfl := Option.some.inj hm0
 exact ⟨_, _, ⟨_, _, rfl, rfl, rfl⟩, List.Sublist.refl _, b1, rfl, rfl⟩

theorem ok_spec_l12Next {rn : Nat} {seed : Int} {r : Int} (h : M.spec_l12Next seed = some r) : Does Try.prog 44 [.int .i64 seed] [] rn (fun x H => x = .int .i64 r ∧ H = []) := by
 have hm0 := h; clear h; unfold M.spec_l12Next at hm0
 try dsimp only at hm0
 refine Does.intro (N := 7) Try.func44 rfl rfl rfl rfl ?_
 intro w0 S0 L0
 refine V.seq ?_
 refine V.region ?_
 refine VO.cons rfl (V1.assign rfl rfl rfl lt0 ?_)
 refine VO.nil ?_
 refine V.seq ?_
 refine V.region ?_
 refine VO.cons rfl (V1.move rfl rfl rfl lt0 ?_)
 refine VO.cons rfl (V1.int rfl rfl rfl rfl rfl lt0 ?_)
 refine VO.cons rfl (V1.int rfl rfl rfl rfl rfl lt0 ?_)
 refine VO.cons rfl (V1.rem rfl rfl rfl rfl (by decide) lt0 ?_)
 refine VO.cons rfl (V1.assign rfl rfl rfl lt0 ?_)
 refine VO.nil ?_
 refine V.ret ?_
 obtain rfl := Option.some.inj hm0
 exact ⟨_, [], ⟨_, _, rfl, rfl, rfl⟩, List.nil_sublist _, rfl, rfl⟩

theorem ok_spec_l12Take {ρ0 rn : Nat} {list : List Int} {n : Int} {seed : Int} {r : List Int × Int} (h : M.spec_l12Take list n seed = some r) : Does Try.prog 40 [.vl ρ0 1 (List.map encInt list), .int .i64 n, .int .i64 seed] [] rn (fun x H => ∃ (ob0_ : Nat), x = .tup [PV.sref ob0_ 1 0 (List.length r.1), .int .i64 r.2] ∧ H = [(ob0_, ⟨1, List.map encInt r.1⟩)]) := by
 have hm0 := h; clear h; unfold M.spec_l12Take at hm0
 try dsimp only at hm0
 refine Does.intro (N := 44) Try.func40 rfl rfl rfl rfl ?_
 intro w0 S0 L0
 refine V.seq ?_
 refine V.region ?_
 refine VO.cons rfl (V1.assign rfl rfl rfl lt0 ?_)
 refine VO.cons rfl (V1.assign rfl rfl rfl lt0 ?_)
 refine VO.nil ?_
 refine V.seq ?_
 replace hm0 := bindO hm0; rcases hm0 with ⟨y0, hh0, hm0⟩
 refine V.region ?_
 refine VO.cons rfl (V1.move rfl rfl rfl lt0 ?_)
 refine VO.cons rfl (V1.call rfl rfl rfl cok_57 rfl (ok_spec_l1Own hh0) rfl lt0 ?_)
 rintro _ _ ⟨b0, rfl, rfl⟩
 refine VO.cons rfl (V1.buildSliceT (f := encInt) ([] : List Int) rfl rfl esz_24 zk_3 rfl rfl rfl rfl rfl rfl rfl lt0 ?_)
 intro b1
 refine VO.cons rfl (V1.assign rfl rfl rfl lt0 ?_)
 refine VO.cons rfl (V1.assign rfl rfl rfl lt0 ?_)
 refine VO.nil ?_
 refine V.keep 44 [1, 2, 8, 9] [0, 1] (E0 := [(1, .int .i64 n), (2, .int .i64 seed), (8, .sref b0 1 0 (List.length y0)), (9, .sref b1 1 0 (List.length ([] : List Int)))]) (H0 := [(b1, ⟨1, List.map encInt ([] : List Int)⟩), (b0, ⟨1, List.map encInt y0⟩)]) rfl (⟨_, _, rfl, rfl, _, _, rfl, rfl, _, _, rfl, rfl, _, _, rfl, rfl, rfl⟩) (⟨_, _, rfl, rfl, _, _, rfl, rfl, rfl⟩) rfl ?_
 refine V.seq ?_
 refine V.seq ?_
 refine V.region ?_
 refine VO.cons rfl (V1.assign rfl rfl rfl lt0 ?_)
 refine VO.nil ?_
 replace hm0 := bindO hm0; rcases hm0 with ⟨e0, he1, hm0⟩
 refine V.cutT (D := (Int × List Int) × (Nat)) (fun ⟨⟨seed0, out_⟩, b2⟩ => ⟨44, [(2, .int .i64 seed0), (9, .sref b2 1 0 (List.length out_))], [(b2, ⟨1, List.map encInt out_⟩)]⟩) (fun ⟨⟨seed0, out_⟩, b2⟩ => ((seed0, out_) = e0)) ?_ ?_
 ·
  refine V.block ?_
  refine V.keep 44 [2, 8, 9, 10, 1] [1, 0] (E0 := [(2, .int .i64 seed), (8, .sref b0 1 0 (List.length y0)), (9, .sref b1 1 0 (List.length ([] : List Int))), (10, .int .i64 (0 : Int)), (1, .int .i64 n)]) (H0 := [(b0, ⟨1, List.map encInt y0⟩), (b1, ⟨1, List.map encInt ([] : List Int)⟩)]) rfl (⟨_, _, rfl, rfl, _, _, rfl, rfl, _, _, rfl, rfl, _, _, rfl, rfl, _, _, rfl, rfl, rfl⟩) (⟨_, _, rfl, rfl, _, _, rfl, rfl, rfl⟩) rfl ?_
  refine V.loopE (D := Nat × (Int × List Int × List Int × Int) × (Nat × Nat)) (fun ⟨n0, ⟨seed1, left, out_0, k⟩, ⟨b3, b4⟩⟩ => [(2, .int .i64 seed1), (8, .sref b3 1 0 (List.length left)), (9, .sref b4 1 0 (List.length out_0)), (10, .int .i64 k)]) (fun ⟨n0, ⟨seed1, left, out_0, k⟩, ⟨b3, b4⟩⟩ => [(b3, ⟨1, List.map encInt left⟩), (b4, ⟨1, List.map encInt out_0⟩)]) (fun ⟨n0, ⟨seed1, left, out_0, k⟩, ⟨b3, b4⟩⟩ => loopO (M.spec_l12Take_l0 n) n0 (seed1, left, out_0, k) = some e0) (fun ⟨n0, _, _⟩ => n0) (rounds, (seed, y0, ([] : List Int), (0 : Int)), (b0, b1)) rfl he1 ?_
  rintro ⟨n0, ⟨seed1, left, out_0, k⟩, ⟨b3, b4⟩⟩ hP0
  obtain ⟨m0, y1, rfl, hm1, hl1, hr1⟩ := loop_head hP0
  unfold M.spec_l12Take_l0 at hm1; dsimp only at hm1
  show V _ _ _ ⟨44, [(2, .int .i64 seed1), (8, .sref b3 1 0 (List.length left)), (9, .sref b4 1 0 (List.length out_0)), (10, .int .i64 k), (1, .int .i64 n)], [(b3, ⟨1, List.map encInt left⟩), (b4, ⟨1, List.map encInt out_0⟩)]⟩
  refine V.seq ?_
  refine V.seq ?_
  refine V.region ?_
  refine VO.cons rfl (V1.move rfl rfl rfl lt0 ?_)
  refine VO.cons rfl (V1.move rfl rfl rfl lt0 ?_)
  refine VO.cons rfl (V1.int rfl rfl rfl rfl rfl lt0 ?_)
  refine VO.nil ?_
  refine V.cond rfl (fun hc0 => ?_) (fun hc0 => ?_)
  ·
   replace hm1 := cond_t hc0 hm1
   refine V.skip ?_
   refine V.seq ?_
   refine V.block ?_
   refine V.seq ?_
   replace hm1 := asrt_some hm1; rcases hm1 with ⟨hh1, hm1⟩
   refine V.region ?_
   refine VO.cons rfl (V1.move rfl rfl rfl lt0 ?_)
   refine VO.cons rfl (V1.move rfl rfl rfl lt0 ?_)
   refine VO.cons rfl (V1.lenSref rfl rfl rfl rfl rfl rfl isl_24 lt0 ?_)
   refine VO.cons rfl (V1.rem rfl rfl rfl rfl (hh1) lt0 ?_)
   refine VO.cons rfl (V1.assign rfl rfl rfl lt0 ?_)
   refine VO.nil ?_
   refine V.keep 44 [1, 2, 8, 9, 10, 11] [0, 1] (E0 := [(1, .int .i64 n), (2, .int .i64 seed1), (8, .sref b3 1 0 (List.length left)), (9, .sref b4 1 0 (List.length out_0)), (10, .int .i64 k), (11, .int .i64 (Int.tmod seed1 (left.length : Int)))]) (H0 := [(b3, ⟨1, List.map encInt left⟩), (b4, ⟨1, List.map encInt out_0⟩)]) rfl (⟨_, _, rfl, rfl, _, _, rfl, rfl, _, _, rfl, rfl, _, _, rfl, rfl, _, _, rfl, rfl, _, _, rfl, rfl, rfl⟩) (⟨_, _, rfl, rfl, _, _, rfl, rfl, rfl⟩) rfl ?_
   refine V.seq ?_
   replace hm1 := asrt_some hm1; rcases hm1 with ⟨hh2, hm1⟩
   replace hm1 := asrt_some hm1; rcases hm1 with ⟨hh3, hm1⟩
   refine V.region ?_
   refine VO.cons rfl (V1.move rfl rfl rfl lt0 ?_)
   refine VO.cons rfl (V1.move rfl rfl rfl lt0 ?_)
   refine VO.cons rfl (V1.move rfl rfl rfl lt0 ?_)
   refine VO.cons rfl (V1.indexSr rfl rfl esz_24 rfl rfl hh2 lt0 ?_)
   refine VO.cons rfl (V1.loadMap (k := 0) (f := encInt) rfl rfl tyk_3 rfl rfl (by simpa using natLt hh2.1 hh2.2) rfl lt0 ?_)
   refine VO.cons rfl (V1.buildSliceT (f := encInt) ([(left.getD (Int.toNat (Int.tmod seed1 (left.length : Int))) default)] : List Int) rfl rfl esz_24 zk_3 rfl rfl rfl rfl rfl rfl rfl lt0 ?_)
   intro b5
   refine VO.cons rfl (V1.appendMap (k := 2) (f := encInt) (l := out_0) (m := ([(left.getD (Int.toNat (Int.tmod seed1 (left.length : Int))) default)] : List Int)) rfl rfl rfl rfl rfl esz_24 eby_24 zk_3 rfl rfl rfl (SrcOf.srMap (k := 0) rfl isl_24) hh3 lt0 ?_)
   intro b6
   refine VO.cons rfl (V1.assign rfl rfl rfl lt0 ?_)
   refine VO.nil ?_
   refine V.keep 44 [1, 2, 8, 9, 10, 11] [0, 2] (E0 := [(1, .int .i64 n), (2, .int .i64 seed1), (8, .sref b3 1 0 (List.length left)), (9, .sref b6 1 0 (List.length (out_0 ++ ([(left.getD (Int.toNat (Int.tmod seed1 (left.length : Int))) default)] : List Int)))), (10, .int .i64 k), (11, .int .i64 (Int.tmod seed1 (left.length : Int)))]) (H0 := [(b6, ⟨1, List.map encInt (out_0 ++ ([(left.getD (Int.toNat (Int.tmod seed1 (left.length : Int))) default)] : List Int))⟩), (b3, ⟨1, List.map encInt left⟩)]) rfl (⟨_, _, rfl, rfl, _, _, rfl, rfl, _, _, rfl, rfl, _, _, rfl, rfl, _, _, rfl, rfl, _, _, rfl, rfl, rfl⟩) (⟨_, _, rfl, rfl, _, _, rfl, rfl, rfl⟩) rfl ?_
   refine V.seq ?_
   refine V.weakenK (Keeps.freezeG 1 rn [(8, .vl rn 1 (List.map encInt left))] ([(b6, ⟨1, List.map encInt (out_0 ++ ([(left.getD (Int.toNat (Int.tmod seed1 (left.length : Int))) default)] : List Int))⟩)]) (f := encInt) (l := left) rfl (fun _ => rfl) ⟨⟨_, rfl, .here⟩, trivial⟩ ⟨_, _, rfl, rfl, .inl rfl, rfl⟩ rfl iNil) ?_
   replace hm1 := asrt_some hm1; rcases hm1 with ⟨hh4, hm1⟩
   replace hm1 := bindO hm1; rcases hm1 with ⟨y2, hh5, hm1⟩
   replace hm1 := asrt_some hm1; rcases hm1 with ⟨hh6, hm1⟩
   replace hm1 := asrt_some hm1; rcases hm1 with ⟨hh7, hm1⟩
   refine V.regionS [] 44 8 [⟨[(8, none)], false⟩, ⟨[(11, none)], false⟩, ⟨[(31, some 0), (32, some 1)], false⟩, ⟨[(33, some 2)], true⟩, ⟨[(8, none)], false⟩, ⟨[(11, none)], false⟩, ⟨[(36, some 5)], false⟩, ⟨[(35, some 4), (37, some 6)], false⟩] [(1, none), (2, none), (9, none), (10, none), (34, some 3), (38, some 7)] 1 (⟨_, rfl, ⟨_, rfl, ⟨_, rfl, ⟨_, rfl, ⟨_, rfl, ⟨_, rfl, ⟨_, rfl, ⟨_, rfl, ⟨rfl, rfl⟩⟩⟩⟩⟩⟩⟩⟩⟩) mixed_orders rfl (by decide +kernel) ?_
   refine WalkP.step (p := ?pv112) 0 rfl rfl rfl rfl rfl (⟨_, _, rfl, rfl, rfl⟩) ?hv112 ?rest112
   case hv112 =>
    intro E1 H1 hI1
    refine (V1.move rfl rfl rfl lt0 ?_)
    exact rfl
   refine WalkP.step (p := ?pv113) 1 rfl rfl rfl rfl rfl (⟨_, _, rfl, rfl, rfl⟩) ?hv113 ?rest113
   case hv113 =>
    intro E1 H1 hI1
    refine (V1.move rfl rfl rfl lt0 ?_)
    exact rfl
   refine WalkP.step (p := ?pv114) 2 rfl rfl rfl rfl rfl (⟨_, _, rfl, rfl, _, _, rfl, rfl, rfl⟩) ?hv114 ?rest114
   case hv114 =>
    intro E1 H1 hI1
    refine (V1.sliceMap (a := (0 : Int)) (b := (Int.tmod seed1 (left.length : Int))) rfl rfl esz_24 rfl (Bnd.none _ _) (Bnd.some rfl (Int.le_trans hh4.1 hh4.2.1) _) hh4 lt0 ?_)
    exact rfl
   refine WalkP.step (p := ?pv115) 4 rfl rfl rfl rfl rfl (⟨_, _, rfl, rfl, rfl⟩) ?hv115 ?rest115
   case hv115 =>
    intro E1 H1 hI1
    refine (V1.move rfl rfl rfl lt0 ?_)
    exact rfl
   refine WalkP.step (p := ?pv116) 5 rfl rfl rfl rfl rfl (⟨_, _, rfl, rfl, rfl⟩) ?hv116 ?rest116
   case hv116 =>
    intro E1 H1 hI1
    refine (V1.move rfl rfl rfl lt0 ?_)
    exact rfl
   refine WalkP.step (p := ?pv117) 6 rfl rfl rfl rfl rfl (⟨_, _, rfl, rfl, rfl⟩) ?hv117 ?rest117
   case hv117 =>
    intro E1 H1 hI1
    refine (V1.int rfl rfl rfl rfl rfl lt0 ?_)
    exact rfl
   refine WalkP.step (p := ?pv118) 7 rfl rfl rfl rfl rfl (⟨_, _, rfl, rfl, _, _, rfl, rfl, rfl⟩) ?hv118 ?rest118
   case hv118 =>
    intro E1 H1 hI1
    refine (V1.sliceMap (a := (IntKind.i64.wrap ((Int.tmod seed1 (left.length : Int)) + (1 : Int)))) (b := (left.length : Int)) rfl rfl esz_24 rfl (Bnd.some rfl hh6.1 _) (Bnd.none _ _) hh6 lt0 ?_)
    exact rfl
   refine WalkP.nil ?_
   refine NodeS.branch [3] inNil rfl rfl rfl ⟨?_, trivial⟩
   ·
    refine ⟨_, _, _, _, rfl, rfl, rfl, (⟨_, _, rfl, rfl, rfl⟩), fun E1 => ?_⟩
    refine (V1.call rfl rfl rfl cok_57 rfl (ok_spec_l1Own hh5) rfl lt0 ?_)
    rintro _ _ ⟨b9, rfl, rfl⟩
    refine ⟨_, _, rfl, ?_⟩
    refine WalkP.nil ?_
    refine NodeS.fin inNil rfl rfl rfl (⟨_, _, rfl, rfl, _, _, rfl, rfl, _, _, rfl, rfl, _, _, rfl, rfl, _, _, rfl, rfl, _, _, rfl, rfl, rfl⟩) ?_
    refine VO.cons rfl (V1.appendMap (k := 0) (f := encInt) (l := y2) (m := (slc left (IntKind.i64.wrap ((Int.tmod seed1 (left.length : Int)) + (1 : Int))) (left.length : Int))) rfl rfl rfl rfl rfl esz_24 eby_24 zk_3 rfl rfl rfl (.vl isl_24) hh7 lt0 ?_)
    intro b10
    refine VO.cons rfl (V1.assign rfl rfl rfl lt0 ?_)
    refine VO.nil ?_
    replace hm1 := bindO hm1; rcases hm1 with ⟨y3, hh8, hm1⟩
    refine V.region ?_
    refine VO.cons rfl (V1.move rfl rfl rfl lt0 ?_)
    refine VO.cons rfl (V1.call rfl rfl rfl cok_44 rfl (ok_spec_l12Next hh8) rfl lt0 ?_)
    rintro _ _ ⟨rfl, rfl⟩
    refine VO.cons rfl (V1.assign rfl rfl rfl lt0 ?_)
    refine VO.nil ?_
    refine V.keep 44 [1, 2, 8, 9, 10] [0, 1] (E0 := [(1, .int .i64 n), (2, .int .i64 y3), (8, .sref b10 1 0 (List.length (y2 ++ (slc left (IntKind.i64.wrap ((Int.tmod seed1 (left.length : Int)) + (1 : Int))) (left.length : Int))))), (9, .sref b6 1 0 (List.length (out_0 ++ ([(left.getD (Int.toNat (Int.tmod seed1 (left.length : Int))) default)] : List Int)))), (10, .int .i64 k)]) (H0 := [(b10, ⟨1, List.map encInt (y2 ++ (slc left (IntKind.i64.wrap ((Int.tmod seed1 (left.length : Int)) + (1 : Int))) (left.length : Int)))⟩), (b6, ⟨1, List.map encInt (out_0 ++ ([(left.getD (Int.toNat (Int.tmod seed1 (left.length : Int))) default)] : List Int))⟩)]) rfl (⟨_, _, rfl, rfl, _, _, rfl, rfl, _, _, rfl, rfl, _, _, rfl, rfl, _, _, rfl, rfl, rfl⟩) (⟨_, _, rfl, rfl, _, _, rfl, rfl, rfl⟩) rfl ?_
    refine V.region ?_
    refine VO.cons rfl (V1.move rfl rfl rfl lt0 ?_)
    refine VO.cons rfl (V1.int rfl rfl rfl rfl rfl lt0 ?_)
    refine VO.cons rfl (V1.assign rfl rfl rfl lt0 ?_)
    refine VO.nil ?_
    exact ⟨(m0, (y3, (y2 ++ (slc left (IntKind.i64.wrap ((Int.tmod seed1 (left.length : Int)) + (1 : Int))) (left.length : Int))), (out_0 ++ ([(left.getD (Int.toNat (Int.tmod seed1 (left.length : Int))) default)] : List Int)), (IntKind.i64.wrap (k + (1 : Int)))), (b10, b6)), hl1 _ (Option.some.inj hm1).symm, Nat.lt_succ_self _, Keeps.mk (ks := [0, 1]) rfl ⟨rfl, rfl, rfl, rfl, rfl, trivial⟩ (⟨_, _, rfl, rfl, _, _, rfl, rfl, rfl⟩) rfl⟩
  ·
   replace hm1 := cond_f hc0 hm1
   refine V.exit ?_
   obtain rfl := hr1 _ (Option.some.inj hm1).symm
   exact ⟨((seed1, out_0), b4), rfl, Keeps.mk (ks := [1]) rfl ⟨rfl, rfl, trivial⟩ (⟨_, _, rfl, rfl, rfl⟩) rfl⟩
 ·
  rintro ⟨⟨seed0, out_⟩, b2⟩ rfl
  try dsimp only at hm0
  refine V.seq ?_
  refine V.region ?_
  refine VO.cons rfl (V1.move rfl rfl rfl lt0 ?_)
  refine VO.cons rfl (V1.move rfl rfl rfl lt0 ?_)
  refine VO.cons rfl (V1.assign rfl rfl rfl lt0 ?_)
  refine VO.cons rfl (V1.assign rfl rfl rfl lt0 ?_)
  refine VO.nil ?_
  refine V.keep 44 [6, 7] [0] (E0 := [(6, .sref b2 1 0 (List.length out_)), (7, .int .i64 seed0)]) (H0 := [(b2, ⟨1, List.map encInt out_⟩)]) rfl (⟨_, _, rfl, rfl, _, _, rfl, rfl, rfl⟩) (⟨_, _, rfl, rfl, rfl⟩) rfl ?_
  refine V.ret ?_
  obtain rfl := Option.some.inj hm0
  exact ⟨_, _, ⟨_, _, rfl, rfl, _, _, rfl, rfl, rfl⟩, List.Sublist.refl _, b2, rfl, rfl⟩

theorem ok_spec_l1Put {rn : Nat} {l : List Int} {n : Int} {r : List Int} (h : M.spec_l1Put l n = some r) : Does Try.prog 58 [.vl rn 1 (List.map encInt l), .int .i64 n] [] rn (fun x H => x = .vl rn 1 (List.map encInt r) ∧ H = []) := by
 have hm0 := h; clear h; unfold M.spec_l1Put at hm0
 try dsimp only at hm0
 refine Does.intro (N := 45) Try.func58 rfl rfl rfl rfl ?_
 intro w0 S0 L0
 refine V.seq ?_
 refine V.region ?_
 refine VO.cons rfl (V1.assign rfl rfl rfl lt0 ?_)
 refine VO.nil ?_
 refine V.seq ?_
 refine V.region ?_
 refine VO.cons rfl (V1.assign rfl rfl rfl lt0 ?_)
 refine VO.nil ?_
 refine V.seq ?_
 replace hm0 := bindO hm0; rcases hm0 with ⟨e0, he1, hm0⟩
 refine V.cutT (D := (Int) × (Unit)) (fun ⟨k, _⟩ => ⟨45, [(5, .int .i64 k), (0, .vl rn 1 (List.map encInt l)), (1, .int .i64 n)], []⟩) (fun ⟨k, _⟩ => (k = e0)) ?_ ?_
 ·
  refine V.block ?_
  refine V.keep 45 [5, 0, 1] [] (E0 := [(5, .int .i64 (0 : Int)), (0, .vl rn 1 (List.map encInt l)), (1, .int .i64 n)]) (H0 := []) rfl (⟨_, _, rfl, rfl, _, _, rfl, rfl, _, _, rfl, rfl, rfl⟩) (rfl) rfl ?_
  refine V.loopE (D := Nat × (Int) × (Unit)) (fun ⟨n0, k0, _⟩ => [(5, .int .i64 k0)]) (fun ⟨n0, k0, _⟩ => []) (fun ⟨n0, k0, _⟩ => loopO (M.spec_l1Put_l0 l n) n0 k0 = some e0) (fun ⟨n0, _, _⟩ => n0) (rounds, (0 : Int), ()) rfl he1 ?_
  rintro ⟨n0, k0, _⟩ hP0
  obtain ⟨m0, y0, rfl, hm1, hl1, hr1⟩ := loop_head hP0
  unfold M.spec_l1Put_l0 at hm1; dsimp only at hm1
  show V _ _ _ ⟨45, [(5, .int .i64 k0), (0, .vl rn 1 (List.map encInt l)), (1, .int .i64 n)], []⟩
  refine V.seq ?_
  refine V.seq ?_
  replace hm1 := asrt_some hm1; rcases hm1 with ⟨hh0, hm1⟩
  refine V.region ?_
  refine VO.cons rfl (V1.move rfl rfl rfl lt0 ?_)
  refine VO.cons rfl (V1.move rfl rfl rfl lt0 ?_)
  refine VO.cons rfl (V1.lenMap rfl rfl rfl rfl rfl rfl isl_24 lt0 ?_)
  refine VO.cons rfl (V1.int rfl rfl rfl rfl rfl lt0 ?_)
  refine VO.cons rfl (V1.move rfl rfl rfl lt0 ?_)
  apply VO.and (n := 6) rfl rfl rfl rfl rfl rfl lt0 (.none rfl)
  ·
   intro hg0
   refine VO.step (.some rfl rfl rfl) (V1.move rfl rfl rfl lt0 ?_)
   refine VO.step (.some rfl rfl rfl) (V1.move rfl rfl rfl lt0 ?_)
   refine VO.step (.some rfl rfl rfl) (V1.indexI rfl rfl esz_24 rfl rfl (hh0 hg0) lt0 ?_)
   refine VO.step (.some rfl rfl rfl) (V1.loadPin rfl rfl tyk_3 rfl rfl lt0 ?_)
   refine VO.step (.some rfl rfl rfl) (V1.move rfl rfl rfl lt0 ?_)
   refine VO.step (.some rfl rfl rfl) (V1.int rfl rfl rfl rfl rfl lt0 ?_)
   exact VO.nil ⟨rfl, rfl, rfl, rfl, .inr ⟨rfl, .inr ⟨rfl, .inr ⟨rfl, .inr ⟨rfl, .inr ⟨rfl, .inr ⟨rfl, .inr ⟨rfl, .inl rfl⟩⟩⟩⟩⟩⟩⟩⟩
  refine VO.nil ?_
  refine V.keep 45 [0, 1, 5, 17] [] (E0 := [(0, .vl rn 1 (List.map encInt l)), (1, .int .i64 n), (5, .int .i64 k0), (17, .bool ((decide (k0 < (l.length : Int))) && (decide ((l.getD (Int.toNat k0) default) < n))))]) (H0 := []) rfl (⟨_, _, rfl, rfl, _, _, rfl, rfl, _, _, rfl, rfl, _, _, rfl, rfl, rfl⟩) (rfl) rfl ?_
  refine V.cond rfl (fun hc0 => ?_) (fun hc0 => ?_)
  ·
   replace hm1 := cond_t hc0 hm1
   refine V.skip ?_
   refine V.block ?_
   refine V.region ?_
   refine VO.cons rfl (V1.move rfl rfl rfl lt0 ?_)
   refine VO.cons rfl (V1.int rfl rfl rfl rfl rfl lt0 ?_)
   refine VO.cons rfl (V1.assign rfl rfl rfl lt0 ?_)
   refine VO.nil ?_
   exact ⟨(m0, (IntKind.i64.wrap (k0 + (1 : Int))), ()), hl1 _ (Option.some.inj hm1).symm, Nat.lt_succ_self _, Keeps.mk (ks := []) rfl ⟨rfl, rfl, rfl, trivial⟩ (rfl) rfl⟩
  ·
   replace hm1 := cond_f hc0 hm1
   refine V.exit ?_
   obtain rfl := hr1 _ (Option.some.inj hm1).symm
   exact ⟨(k0, ()), rfl, Keeps.mk (ks := []) rfl ⟨rfl, rfl, rfl, trivial⟩ (rfl) rfl⟩
 ·
  rintro ⟨k, _⟩ rfl
  try dsimp only at hm0
  refine V.seq ?_
  refine V.seq ?_
  replace hm0 := asrt_some hm0; rcases hm0 with ⟨hh1, hm0⟩
  refine V.region ?_
  refine VO.cons rfl (V1.move rfl rfl rfl lt0 ?_)
  refine VO.cons rfl (V1.move rfl rfl rfl lt0 ?_)
  refine VO.cons rfl (V1.lenMap rfl rfl rfl rfl rfl rfl isl_24 lt0 ?_)
  refine VO.cons rfl (V1.int rfl rfl rfl rfl rfl lt0 ?_)
  refine VO.cons rfl (V1.move rfl rfl rfl lt0 ?_)
  apply VO.and (n := 6) rfl rfl rfl rfl rfl rfl lt0 (.none rfl)
  ·
   intro hg1
   refine VO.step (.some rfl rfl rfl) (V1.move rfl rfl rfl lt0 ?_)
   refine VO.step (.some rfl rfl rfl) (V1.move rfl rfl rfl lt0 ?_)
   refine VO.step (.some rfl rfl rfl) (V1.indexI rfl rfl esz_24 rfl rfl (hh1 hg1) lt0 ?_)
   refine VO.step (.some rfl rfl rfl) (V1.loadPin rfl rfl tyk_3 rfl rfl lt0 ?_)
   refine VO.step (.some rfl rfl rfl) (V1.move rfl rfl rfl lt0 ?_)
   refine VO.step (.some rfl rfl rfl) (V1.int rfl rfl rfl rfl rfl lt0 ?_)
   exact VO.nil ⟨rfl, rfl, rfl, rfl, .inr ⟨rfl, .inr ⟨rfl, .inr ⟨rfl, .inr ⟨rfl, .inr ⟨rfl, .inr ⟨rfl, .inr ⟨rfl, .inl rfl⟩⟩⟩⟩⟩⟩⟩⟩
  refine VO.nil ?_
  refine V.keep 45 [0, 1, 5, 31] [] (E0 := [(0, .vl rn 1 (List.map encInt l)), (1, .int .i64 n), (5, .int .i64 k), (31, .bool ((decide (k < (l.length : Int))) && ((l.getD (Int.toNat k) default) == n)))]) (H0 := []) rfl (⟨_, _, rfl, rfl, _, _, rfl, rfl, _, _, rfl, rfl, _, _, rfl, rfl, rfl⟩) (rfl) rfl ?_
  refine V.cond rfl (fun hc1 => ?_) (fun hc1 => ?_)
  ·
   replace hm0 := cond_t hc1 hm0
   refine V.seq ?_
   refine V.region ?_
   refine VO.cons rfl (V1.move rfl rfl rfl lt0 ?_)
   refine VO.cons rfl (V1.assign rfl rfl rfl lt0 ?_)
   refine VO.nil ?_
   refine V.ret ?_
   obtain rfl := Option.some.inj hm0
   exact ⟨_, [], ⟨_, _, rfl, rfl, rfl⟩, List.nil_sublist _, rfl, rfl⟩
  ·
   replace hm0 := cond_f hc1 hm0
   refine V.skip ?_
   refine V.seq ?_
   replace hm0 := asrt_some hm0; rcases hm0 with ⟨hh2, hm0⟩
   replace hm0 := asrt_some hm0; rcases hm0 with ⟨hh3, hm0⟩
   replace hm0 := asrt_some hm0; rcases hm0 with ⟨hh4, hm0⟩
   replace hm0 := asrt_some hm0; rcases hm0 with ⟨hh5, hm0⟩
   replace hm0 := asrt_some hm0; rcases hm0 with ⟨hh6, hm0⟩
   refine V.regionS [] 45 11 [⟨[], true⟩, ⟨[(0, none)], false⟩, ⟨[(5, none)], false⟩, ⟨[(34, some 1), (35, some 2)], false⟩, ⟨[(33, some 0), (36, some 3)], true⟩, ⟨[(1, none)], false⟩, ⟨[(38, some 5)], false⟩, ⟨[(37, some 4), (39, some 6)], true⟩, ⟨[(0, none)], false⟩, ⟨[(5, none)], false⟩, ⟨[(41, some 8), (42, some 9)], false⟩] [(40, some 7), (43, some 10)] 3 (⟨_, rfl, ⟨_, rfl, ⟨_, rfl, ⟨_, rfl, ⟨_, rfl, ⟨_, rfl, ⟨_, rfl, ⟨_, rfl, ⟨_, rfl, ⟨_, rfl, ⟨_, rfl, ⟨rfl, rfl⟩⟩⟩⟩⟩⟩⟩⟩⟩⟩⟩⟩) mixed_orders rfl (by decide +kernel) ?_
   refine WalkP.step (p := ?pv17) 1 rfl rfl rfl rfl rfl (⟨_, _, rfl, rfl, rfl⟩) ?hv17 ?rest17
   case hv17 =>
    intro E1 H1 hI1
    refine (V1.move rfl rfl rfl lt0 ?_)
    exact rfl
   refine WalkP.step (p := ?pv18) 2 rfl rfl rfl rfl rfl (⟨_, _, rfl, rfl, rfl⟩) ?hv18 ?rest18
   case hv18 =>
    intro E1 H1 hI1
    refine (V1.move rfl rfl rfl lt0 ?_)
    exact rfl
   refine WalkP.step (p := ?pv19) 3 rfl rfl rfl rfl rfl (⟨_, _, rfl, rfl, _, _, rfl, rfl, rfl⟩) ?hv19 ?rest19
   case hv19 =>
    intro E1 H1 hI1
    refine (V1.sliceMap (a := (0 : Int)) (b := k) rfl rfl esz_24 rfl (Bnd.none _ _) (Bnd.some rfl (Int.le_trans hh2.1 hh2.2.1) _) hh2 lt0 ?_)
    exact rfl
   refine WalkP.step (p := ?pv20) 5 rfl rfl rfl rfl rfl (⟨_, _, rfl, rfl, rfl⟩) ?hv20 ?rest20
   case hv20 =>
    intro E1 H1 hI1
    refine (V1.move rfl rfl rfl lt0 ?_)
    exact rfl
   refine WalkP.step (p := ?pv21) 6 rfl rfl rfl rfl rfl (⟨_, _, rfl, rfl, rfl⟩) ?hv21 ?rest21
   case hv21 =>
    intro E1 H1 hI1
    refine (V1.buildFrz (f := encInt) ([n] : List Int) (fun _ => rfl) iNil rfl rfl esz_24 zk_3 rfl rfl rfl rfl rfl rfl rfl lt0 ?_)
    exact rfl
   refine WalkP.step (p := ?pv22) 8 rfl rfl rfl rfl rfl (⟨_, _, rfl, rfl, rfl⟩) ?hv22 ?rest22
   case hv22 =>
    intro E1 H1 hI1
    refine (V1.move rfl rfl rfl lt0 ?_)
    exact rfl
   refine WalkP.step (p := ?pv23) 9 rfl rfl rfl rfl rfl (⟨_, _, rfl, rfl, rfl⟩) ?hv23 ?rest23
   case hv23 =>
    intro E1 H1 hI1
    refine (V1.move rfl rfl rfl lt0 ?_)
    exact rfl
   refine WalkP.step (p := ?pv24) 10 rfl rfl rfl rfl rfl (⟨_, _, rfl, rfl, _, _, rfl, rfl, rfl⟩) ?hv24 ?rest24
   case hv24 =>
    intro E1 H1 hI1
    refine (V1.sliceMap (a := k) (b := (l.length : Int)) rfl rfl esz_24 rfl (Bnd.some rfl hh5.1 _) (Bnd.none _ _) hh5 lt0 ?_)
    exact rfl
   refine WalkP.nil ?_
   refine NodeS.branch [0] inNil rfl rfl rfl ⟨?_, trivial⟩
   ·
    refine ⟨_, _, _, _, rfl, rfl, rfl, (rfl), fun E1 => ?_⟩
    refine (V1.buildSliceT (f := encInt) ([] : List Int) rfl rfl esz_24 zk_3 rfl rfl rfl rfl rfl rfl rfl lt0 ?_)
    intro b6
    refine ⟨_, _, rfl, ?_⟩
    refine WalkP.nil ?_
    refine NodeS.branch [4] inNil rfl rfl rfl ⟨?_, trivial⟩
    ·
     refine ⟨_, _, _, _, rfl, rfl, rfl, (⟨_, _, rfl, rfl, _, _, rfl, rfl, rfl⟩), fun E1 => ?_⟩
     refine (V1.appendMap (k := 0) (f := encInt) (l := ([] : List Int)) (m := (slc l (0 : Int) k)) rfl rfl rfl rfl rfl esz_24 eby_24 zk_3 rfl rfl rfl (.vl isl_24) hh3 lt0 ?_)
     intro b7
     refine ⟨_, _, rfl, ?_⟩
     refine WalkP.nil ?_
     refine NodeS.branch [7] inNil rfl rfl rfl ⟨?_, trivial⟩
     ·
      refine ⟨_, _, _, _, rfl, rfl, rfl, (⟨_, _, rfl, rfl, _, _, rfl, rfl, rfl⟩), fun E1 => ?_⟩
      refine (V1.appendMap (k := 0) (f := encInt) (l := (([] : List Int) ++ (slc l (0 : Int) k))) (m := ([n] : List Int)) rfl rfl rfl rfl rfl esz_24 eby_24 zk_3 rfl rfl rfl (.vl isl_24) hh4 lt0 ?_)
      intro b8
      refine ⟨_, _, rfl, ?_⟩
      refine WalkP.nil ?_
      refine NodeS.fin inNil rfl rfl rfl (⟨_, _, rfl, rfl, _, _, rfl, rfl, rfl⟩) ?_
      refine VO.cons rfl (V1.appendMap (k := 0) (f := encInt) (l := ((([] : List Int) ++ (slc l (0 : Int) k)) ++ ([n] : List Int))) (m := (slc l k (l.length : Int))) rfl rfl rfl rfl rfl esz_24 eby_24 zk_3 rfl rfl rfl (.vl isl_24) hh6 lt0 ?_)
      intro b9
      refine VO.cons rfl (V1.assign rfl rfl rfl lt0 ?_)
      refine VO.nil ?_
      refine V.weakenK (Keeps.freezeG 0 rn [(44, .vl rn 1 (List.map encInt (((([] : List Int) ++ (slc l (0 : Int) k)) ++ ([n] : List Int)) ++ (slc l k (l.length : Int))))), (4, .vl rn 1 (List.map encInt (((([] : List Int) ++ (slc l (0 : Int) k)) ++ ([n] : List Int)) ++ (slc l k (l.length : Int)))))] ([]) (f := encInt) (l := (((([] : List Int) ++ (slc l (0 : Int) k)) ++ ([n] : List Int)) ++ (slc l k (l.length : Int)))) rfl (fun _ => rfl) ⟨⟨_, rfl, .here⟩, ⟨_, rfl, .here⟩, trivial⟩ rfl rfl iNil) ?_
      refine V.ret ?_
      obtain rfl := Option.some.inj hm0
      exact ⟨_, [], ⟨_, _, rfl, rfl, rfl⟩, List.nil_sublist _, rfl, rfl⟩

theorem ok_spec_l12Sorted {ρ0 rn : Nat} {list : List Int} {r : List Int} (h : M.spec_l12Sorted list = some r) : Does Try.prog 41 [.vl ρ0 1 (List.map encInt list)] [] rn (fun x H => x = .vl rn 1 (List.map encInt r) ∧ H = []) := by
 have hm0 := h; clear h; unfold M.spec_l12Sorted at hm0
 try dsimp only at hm0
 refine Does.intro (N := 19) Try.func41 rfl rfl rfl rfl ?_
 intro w0 S0 L0
 refine V.seq ?_
 refine V.region ?_
 refine VO.cons rfl (V1.assign rfl rfl rfl lt0 ?_)
 refine VO.nil ?_
 refine V.seq ?_
 refine V.region ?_
 refine VO.cons rfl (V1.buildSliceT (f := encInt) ([] : List Int) rfl rfl esz_24 zk_3 rfl rfl rfl rfl rfl rfl rfl lt0 ?_)
 intro b0
 refine VO.cons rfl (V1.assign rfl rfl rfl lt0 ?_)
 refine VO.nil ?_
 refine V.seq ?_
 refine V.seq ?_
 refine V.region ?_
 refine VO.cons rfl (V1.assign rfl rfl rfl lt0 ?_)
 refine VO.nil ?_
 replace hm0 := bindO hm0; rcases hm0 with ⟨e0, he1, hm0⟩
 refine V.cutT (D := (List Int) × (Unit)) (fun ⟨out_, _⟩ => ⟨19, [(3, .vl rn 1 (List.map encInt out_))], []⟩) (fun ⟨out_, _⟩ => (out_ = e0)) ?_ ?_
 ·
  refine V.block ?_
  refine V.weakenK (Keeps.freezeG 0 rn [(5, .vl rn 1 (List.map encInt ([] : List Int))), (3, .vl rn 1 (List.map encInt ([] : List Int)))] ([]) (f := encInt) (l := ([] : List Int)) rfl (fun _ => rfl) ⟨⟨_, rfl, .here⟩, ⟨_, rfl, .here⟩, trivial⟩ rfl rfl iNil) ?_
  refine V.keep 19 [3, 4, 0] [] (E0 := [(3, .vl rn 1 (List.map encInt ([] : List Int))), (4, .int .i64 (0 : Int)), (0, .vl ρ0 1 (List.map encInt list))]) (H0 := []) rfl (⟨_, _, rfl, rfl, _, _, rfl, rfl, _, _, rfl, rfl, rfl⟩) (rfl) rfl ?_
  refine V.loopE (D := Nat × (List Int × Int) × (Unit)) (fun ⟨n0, ⟨out_0, i⟩, _⟩ => [(3, .vl rn 1 (List.map encInt out_0)), (4, .int .i64 i)]) (fun ⟨n0, ⟨out_0, i⟩, _⟩ => []) (fun ⟨n0, ⟨out_0, i⟩, _⟩ => loopO (M.spec_l12Sorted_l0 list) n0 (out_0, i) = some e0) (fun ⟨n0, _, _⟩ => n0) (rounds, (([] : List Int), (0 : Int)), ()) rfl he1 ?_
  rintro ⟨n0, ⟨out_0, i⟩, _⟩ hP0
  obtain ⟨m0, y0, rfl, hm1, hl1, hr1⟩ := loop_head hP0
  unfold M.spec_l12Sorted_l0 at hm1; dsimp only at hm1
  show V _ _ _ ⟨19, [(3, .vl rn 1 (List.map encInt out_0)), (4, .int .i64 i), (0, .vl ρ0 1 (List.map encInt list))], []⟩
  refine V.seq ?_
  refine V.seq ?_
  refine V.region ?_
  refine VO.cons rfl (V1.move rfl rfl rfl lt0 ?_)
  refine VO.cons rfl (V1.move rfl rfl rfl lt0 ?_)
  refine VO.cons rfl (V1.lenMap rfl rfl rfl rfl rfl rfl isl_24 lt0 ?_)
  refine VO.cons rfl (V1.int rfl rfl rfl rfl rfl lt0 ?_)
  refine VO.nil ?_
  refine V.cond rfl (fun hc0 => ?_) (fun hc0 => ?_)
  ·
   replace hm1 := cond_t hc0 hm1
   refine V.skip ?_
   refine V.keep 19 [0, 3, 4] [] (E0 := [(0, .vl ρ0 1 (List.map encInt list)), (3, .vl rn 1 (List.map encInt out_0)), (4, .int .i64 i)]) (H0 := []) rfl (⟨_, _, rfl, rfl, _, _, rfl, rfl, _, _, rfl, rfl, rfl⟩) (rfl) rfl ?_
   refine V.seq ?_
   refine V.block ?_
   replace hm1 := asrt_some hm1; rcases hm1 with ⟨hh0, hm1⟩
   replace hm1 := bindO hm1; rcases hm1 with ⟨y1, hh1, hm1⟩
   refine V.region ?_
   refine VO.cons rfl (V1.move rfl rfl rfl lt0 ?_)
   refine VO.cons rfl (V1.move rfl rfl rfl lt0 ?_)
   refine VO.cons rfl (V1.move rfl rfl rfl lt0 ?_)
   refine VO.cons rfl (V1.indexI rfl rfl esz_24 rfl rfl hh0 lt0 ?_)
   refine VO.cons rfl (V1.loadPin rfl rfl tyk_3 rfl rfl lt0 ?_)
   refine VO.cons rfl (V1.call rfl rfl rfl cok_58 rfl (ok_spec_l1Put hh1) rfl lt0 ?_)
   rintro _ _ ⟨rfl, rfl⟩
   refine VO.cons rfl (V1.assign rfl rfl rfl lt0 ?_)
   refine VO.nil ?_
   refine V.keep 19 [0, 3, 4] [] (E0 := [(0, .vl ρ0 1 (List.map encInt list)), (3, .vl rn 1 (List.map encInt y1)), (4, .int .i64 i)]) (H0 := []) rfl (⟨_, _, rfl, rfl, _, _, rfl, rfl, _, _, rfl, rfl, rfl⟩) (rfl) rfl ?_
   refine V.region ?_
   refine VO.cons rfl (V1.move rfl rfl rfl lt0 ?_)
   refine VO.cons rfl (V1.int rfl rfl rfl rfl rfl lt0 ?_)
   refine VO.cons rfl (V1.assign rfl rfl rfl lt0 ?_)
   refine VO.nil ?_
   exact ⟨(m0, (y1, (IntKind.i64.wrap (i + (1 : Int)))), ()), hl1 _ (Option.some.inj hm1).symm, Nat.lt_succ_self _, Keeps.mk (ks := []) rfl ⟨rfl, rfl, rfl, trivial⟩ (rfl) rfl⟩
  ·
   replace hm1 := cond_f hc0 hm1
   refine V.exit ?_
   obtain rfl := hr1 _ (Option.some.inj hm1).symm
   exact ⟨(out_0, ()), rfl, Keeps.mk (ks := []) rfl ⟨rfl, trivial⟩ (rfl) rfl⟩
 ·
  rintro ⟨out_, _⟩ rfl
  try dsimp only at hm0
  refine V.seq ?_
  refine V.region ?_
  refine VO.cons rfl (V1.move rfl rfl rfl lt0 ?_)
  refine VO.cons rfl (V1.assign rfl rfl rfl lt0 ?_)
  refine VO.nil ?_
  refine V.ret ?_
  obtain rfl := Option.some.inj hm0
  exact ⟨_, [], ⟨_, _, rfl, rfl, rfl⟩, List.nil_sublist _, rfl, rfl⟩

theorem ok_spec_SampleBySeries {ρ0 σ0 rn : Nat} {list : List Record} {percent : Int} {seed : Int} {r : List Int × Bool} (h : M.spec_SampleBySeries list percent seed = some r) : Does Try.prog 15 [.vl ρ0 4 (List.map (encRecord σ0) list), .int .i64 percent, .int .i64 seed] [] rn (fun x H => x = .tup [.vl rn 1 (List.map encInt r.1), .bool r.2] ∧ H = []) := by
 have hm0 := h; clear h; unfold M.spec_SampleBySeries at hm0
 try dsimp only at hm0
 refine Does.intro (N := 55) Try.func15 rfl rfl rfl rfl ?_
 intro w0 S0 L0
 refine V.seq ?_
 refine V.region ?_
 refine VO.cons rfl (V1.assign rfl rfl rfl lt0 ?_)
 refine VO.cons rfl (V1.assign rfl rfl rfl lt0 ?_)
 refine VO.nil ?_
 refine V.seq ?_
 refine V.region ?_
 refine VO.cons rfl (V1.buildSliceT (f := encInt) ([] : List Int) rfl rfl esz_24 zk_3 rfl rfl rfl rfl rfl rfl rfl lt0 ?_)
 intro b0
 refine VO.cons rfl (V1.assign rfl rfl rfl lt0 ?_)
 refine VO.nil ?_
 refine V.seq ?_
 refine V.seq ?_
 replace hm0 := bindO hm0; rcases hm0 with ⟨y0, hh0, hm0⟩
 replace hm0 := bindO hm0; rcases hm0 with ⟨y1, hh1, hm0⟩
 replace hm0 := bindO hm0; rcases hm0 with ⟨y2, hh2, hm0⟩
 refine V.region ?_
 refine VO.cons rfl (V1.move rfl rfl rfl lt0 ?_)
 refine VO.cons rfl (V1.call rfl rfl rfl cok_37 rfl (ok_spec_l2Records hh0) rfl lt0 ?_)
 rintro _ _ ⟨rfl, rfl⟩
 refine VO.cons rfl (V1.not rfl rfl rfl lt0 ?_)
 refine VO.cons rfl (V1.move rfl rfl rfl lt0 ?_)
 apply VO.or (n := 3) rfl rfl rfl rfl rfl rfl lt0 (.none rfl)
 ·
  intro hg0
  refine VO.step (.some rfl rfl rfl) (V1.move rfl rfl rfl lt0 ?_)
  refine VO.step (.some rfl rfl rfl) (V1.call rfl rfl rfl cok_28 rfl (ok_spec_l1In (cond_f hg0 hh1)) rfl lt0 ?_)
  rintro _ _ ⟨rfl, rfl⟩
  refine VO.step (.some rfl rfl rfl) (V1.not rfl rfl rfl lt0 ?_)
  exact VO.nil ⟨rfl, rfl, rfl, rfl, .inr ⟨rfl, .inr ⟨rfl, .inr ⟨rfl, .inr ⟨rfl, .inl rfl⟩⟩⟩⟩⟩
 refine VO.cons rfl (V1.move rfl rfl rfl lt0 ?_)
 apply VO.or (n := 3) rfl rfl rfl rfl rfl rfl lt0 (.none rfl)
 ·
  intro hg1
  refine VO.step (.some rfl rfl rfl) (V1.move rfl rfl rfl lt0 ?_)
  refine VO.step (.some rfl rfl rfl) (V1.call rfl rfl rfl cok_38 rfl (ok_spec_l12Seed (cond_f hg1 hh2)) rfl lt0 ?_)
  rintro _ _ ⟨rfl, rfl⟩
  refine VO.step (.some rfl rfl rfl) (V1.not rfl rfl rfl lt0 ?_)
  exact VO.nil ⟨rfl, rfl, rfl, rfl, .inr ⟨rfl, .inr ⟨rfl, .inr ⟨rfl, .inr ⟨rfl, .inl rfl⟩⟩⟩⟩⟩
 refine VO.nil ?_
 refine V.keep 55 [0, 1, 2, 8, 27] [0] (E0 := [(0, .vl ρ0 4 (List.map (encRecord σ0) list)), (1, .int .i64 percent), (2, .int .i64 seed), (8, .sref b0 1 0 (List.length ([] : List Int))), (27, .bool (((!y0) || (!y1)) || (!y2)))]) (H0 := [(b0, ⟨1, List.map encInt ([] : List Int)⟩)]) rfl (⟨_, _, rfl, rfl, _, _, rfl, rfl, _, _, rfl, rfl, _, _, rfl, rfl, _, _, rfl, rfl, rfl⟩) (⟨_, _, rfl, rfl, rfl⟩) rfl ?_
 refine V.cond rfl (fun hc0 => ?_) (fun hc0 => ?_)
 ·
  replace hm0 := cond_t hc0 hm0
  refine V.seq ?_
  refine V.region ?_
  refine VO.cons rfl (V1.move rfl rfl rfl lt0 ?_)
  refine VO.cons rfl (V1.assign rfl rfl rfl lt0 ?_)
  refine VO.cons rfl (V1.assign rfl rfl rfl lt0 ?_)
  refine VO.nil ?_
  refine V.weakenK (Keeps.freezeG 0 rn [(8, .vl rn 1 (List.map encInt ([] : List Int))), (28, .vl rn 1 (List.map encInt ([] : List Int))), (6, .vl rn 1 (List.map encInt ([] : List Int)))] ([]) (f := encInt) (l := ([] : List Int)) rfl (fun _ => rfl) ⟨⟨_, rfl, .here⟩, ⟨_, rfl, .here⟩, ⟨_, rfl, .here⟩, trivial⟩ rfl rfl iNil) ?_
  refine V.ret ?_
  obtain rfl := Option.some.inj hm0
  exact ⟨_, [], ⟨_, _, rfl, rfl, _, _, rfl, rfl, rfl⟩, List.nil_sublist _, rfl, rfl⟩
 ·
  replace hm0 := cond_f hc0 hm0
  refine V.skip ?_
  refine V.seq ?_
  refine V.seq ?_
  refine V.region ?_
  refine VO.cons rfl (V1.assign rfl rfl rfl lt0 ?_)
  refine VO.nil ?_
  replace hm0 := bindO hm0; rcases hm0 with ⟨e0, he1, hm0⟩
  refine V.cutT (D := (List Int) × (Nat)) (fun ⟨out_, b1⟩ => ⟨55, [(8, .sref b1 1 0 (List.length out_))], [(b1, ⟨1, List.map encInt out_⟩)]⟩) (fun ⟨out_, b1⟩ => (out_ = e0)) ?_ ?_
  ·
   refine V.block ?_
   refine V.keep 55 [2, 8, 9, 0, 1] [0] (E0 := [(2, .int .i64 seed), (8, .sref b0 1 0 (List.length ([] : List Int))), (9, .int .i64 (1 : Int)), (0, .vl ρ0 4 (List.map (encRecord σ0) list)), (1, .int .i64 percent)]) (H0 := [(b0, ⟨1, List.map encInt ([] : List Int)⟩)]) rfl (⟨_, _, rfl, rfl, _, _, rfl, rfl, _, _, rfl, rfl, _, _, rfl, rfl, _, _, rfl, rfl, rfl⟩) (⟨_, _, rfl, rfl, rfl⟩) rfl ?_
   refine V.loopE (D := Nat × (Int × List Int × Int) × (Nat)) (fun ⟨n0, ⟨seed0, out_0, series⟩, b2⟩ => [(2, .int .i64 seed0), (8, .sref b2 1 0 (List.length out_0)), (9, .int .i64 series)]) (fun ⟨n0, ⟨seed0, out_0, series⟩, b2⟩ => [(b2, ⟨1, List.map encInt out_0⟩)]) (fun ⟨n0, ⟨seed0, out_0, series⟩, b2⟩ => loopO (M.spec_SampleBySeries_l0 list percent) n0 (seed0, out_0, series) = some e0) (fun ⟨n0, _, _⟩ => n0) (rounds, (seed, ([] : List Int), (1 : Int)), b0) rfl he1 ?_
   rintro ⟨n0, ⟨seed0, out_0, series⟩, b2⟩ hP0
   obtain ⟨m0, y3, rfl, hm1, hl1, hr1⟩ := loop_head hP0
   unfold M.spec_SampleBySeries_l0 at hm1; dsimp only at hm1
   show V _ _ _ ⟨55, [(2, .int .i64 seed0), (8, .sref b2 1 0 (List.length out_0)), (9, .int .i64 series), (0, .vl ρ0 4 (List.map (encRecord σ0) list)), (1, .int .i64 percent)], [(b2, ⟨1, List.map encInt out_0⟩)]⟩
   refine V.seq ?_
   refine V.seq ?_
   refine V.region ?_
   refine VO.cons rfl (V1.move rfl rfl rfl lt0 ?_)
   refine VO.cons rfl (V1.int rfl rfl rfl rfl rfl lt0 ?_)
   refine VO.nil ?_
   refine V.cond rfl (fun hc1 => ?_) (fun hc1 => ?_)
   ·
    replace hm1 := cond_t hc1 hm1
    refine V.skip ?_
    refine V.seq ?_
    refine V.block ?_
    refine V.seq ?_
    replace hm1 := bindO hm1; rcases hm1 with ⟨y4, hh3, hm1⟩
    refine V.region ?_
    refine VO.cons rfl (V1.move rfl rfl rfl lt0 ?_)
    refine VO.cons rfl (V1.move rfl rfl rfl lt0 ?_)
    refine VO.cons rfl (V1.call rfl rfl rfl cok_39 rfl (ok_spec_InSeries hh3) rfl lt0 ?_)
    rintro _ _ ⟨b3, rfl, rfl⟩
    refine VO.cons rfl (V1.move rfl rfl rfl lt0 ?_)
    refine VO.cons rfl (V1.extract rfl rfl rfl rfl lt0 ?_)
    refine VO.weakenK (Keeps.freezeG 0 rn [(37, .vl rn 1 (List.map encInt y4.1))] ([(b2, ⟨1, List.map encInt out_0⟩)]) (f := encInt) (l := y4.1) rfl (fun _ => rfl) ⟨⟨_, rfl, .here⟩, trivial⟩ ⟨_, _, rfl, rfl, .inl rfl, rfl⟩ rfl iNil) ?_
    refine VO.cons rfl (V1.extract rfl rfl rfl rfl lt0 ?_)
    refine VO.cons rfl (V1.assign rfl rfl rfl lt0 ?_)
    refine VO.cons rfl (V1.assign rfl rfl rfl lt0 ?_)
    refine VO.nil ?_
    refine V.keep 55 [0, 1, 2, 8, 9, 10] [0] (E0 := [(0, .vl ρ0 4 (List.map (encRecord σ0) list)), (1, .int .i64 percent), (2, .int .i64 seed0), (8, .sref b2 1 0 (List.length out_0)), (9, .int .i64 series), (10, .vl rn 1 (List.map encInt y4.1))]) (H0 := [(b2, ⟨1, List.map encInt out_0⟩)]) rfl (⟨_, _, rfl, rfl, _, _, rfl, rfl, _, _, rfl, rfl, _, _, rfl, rfl, _, _, rfl, rfl, _, _, rfl, rfl, rfl⟩) (⟨_, _, rfl, rfl, rfl⟩) rfl ?_
    refine V.seq ?_
    replace hm1 := bindO hm1; rcases hm1 with ⟨y5, hh4, hm1⟩
    replace hm1 := bindO hm1; rcases hm1 with ⟨y6, hh5, hm1⟩
    refine V.region ?_
    refine VO.cons rfl (V1.move rfl rfl rfl lt0 ?_)
    refine VO.cons rfl (V1.move rfl rfl rfl lt0 ?_)
    refine VO.cons rfl (V1.lenMap rfl rfl rfl rfl rfl rfl isl_24 lt0 ?_)
    refine VO.cons rfl (V1.move rfl rfl rfl lt0 ?_)
    refine VO.cons rfl (V1.call rfl rfl rfl cok_30 rfl (ok_spec_l12Size hh4) rfl lt0 ?_)
    rintro _ _ ⟨rfl, rfl⟩
    refine VO.cons rfl (V1.move rfl rfl rfl lt0 ?_)
    refine VO.cons rfl (V1.call rfl rfl rfl cok_40 rfl (ok_spec_l12Take hh5) rfl lt0 ?_)
    rintro _ _ ⟨b4, rfl, rfl⟩
    refine VO.cons rfl (V1.move rfl rfl rfl lt0 ?_)
    refine VO.cons rfl (V1.extract rfl rfl rfl rfl lt0 ?_)
    refine VO.weakenK (Keeps.freezeG 0 rn [(47, .vl rn 1 (List.map encInt y6.1))] ([(b2, ⟨1, List.map encInt out_0⟩)]) (f := encInt) (l := y6.1) rfl (fun _ => rfl) ⟨⟨_, rfl, .here⟩, trivial⟩ ⟨_, _, rfl, rfl, .inl rfl, rfl⟩ rfl iNil) ?_
    refine VO.cons rfl (V1.extract rfl rfl rfl rfl lt0 ?_)
    refine VO.cons rfl (V1.assign rfl rfl rfl lt0 ?_)
    refine VO.cons rfl (V1.assign rfl rfl rfl lt0 ?_)
    refine VO.nil ?_
    refine V.keep 55 [0, 1, 8, 9, 12, 13] [0] (E0 := [(0, .vl ρ0 4 (List.map (encRecord σ0) list)), (1, .int .i64 percent), (8, .sref b2 1 0 (List.length out_0)), (9, .int .i64 series), (12, .vl rn 1 (List.map encInt y6.1)), (13, .int .i64 y6.2)]) (H0 := [(b2, ⟨1, List.map encInt out_0⟩)]) rfl (⟨_, _, rfl, rfl, _, _, rfl, rfl, _, _, rfl, rfl, _, _, rfl, rfl, _, _, rfl, rfl, _, _, rfl, rfl, rfl⟩) (⟨_, _, rfl, rfl, rfl⟩) rfl ?_
    refine V.seq ?_
    replace hm1 := asrt_some hm1; rcases hm1 with ⟨hh6, hm1⟩
    refine V.region ?_
    refine VO.cons rfl (V1.move rfl rfl rfl lt0 ?_)
    refine VO.cons rfl (V1.move rfl rfl rfl lt0 ?_)
    refine VO.cons rfl (V1.appendMap (k := 0) (f := encInt) (l := out_0) (m := y6.1) rfl rfl rfl rfl rfl esz_24 eby_24 zk_3 rfl rfl rfl (.vl isl_24) hh6 lt0 ?_)
    intro b5
    refine VO.cons rfl (V1.assign rfl rfl rfl lt0 ?_)
    refine VO.nil ?_
    refine V.keep 55 [0, 1, 8, 9, 13] [0] (E0 := [(0, .vl ρ0 4 (List.map (encRecord σ0) list)), (1, .int .i64 percent), (8, .sref b5 1 0 (List.length (out_0 ++ y6.1))), (9, .int .i64 series), (13, .int .i64 y6.2)]) (H0 := [(b5, ⟨1, List.map encInt (out_0 ++ y6.1)⟩)]) rfl (⟨_, _, rfl, rfl, _, _, rfl, rfl, _, _, rfl, rfl, _, _, rfl, rfl, _, _, rfl, rfl, rfl⟩) (⟨_, _, rfl, rfl, rfl⟩) rfl ?_
    refine V.region ?_
    refine VO.cons rfl (V1.move rfl rfl rfl lt0 ?_)
    refine VO.cons rfl (V1.assign rfl rfl rfl lt0 ?_)
    refine VO.nil ?_
    refine V.region ?_
    refine VO.cons rfl (V1.move rfl rfl rfl lt0 ?_)
    refine VO.cons rfl (V1.int rfl rfl rfl rfl rfl lt0 ?_)
    refine VO.cons rfl (V1.assign rfl rfl rfl lt0 ?_)
    refine VO.nil ?_
    exact ⟨(m0, (y6.2, (out_0 ++ y6.1), (IntKind.i64.wrap (series + (1 : Int)))), b5), hl1 _ (Option.some.inj hm1).symm, Nat.lt_succ_self _, Keeps.mk (ks := [0]) rfl ⟨rfl, rfl, rfl, rfl, rfl, trivial⟩ (⟨_, _, rfl, rfl, rfl⟩) rfl⟩
   ·
    replace hm1 := cond_f hc1 hm1
    refine V.exit ?_
    obtain rfl := hr1 _ (Option.some.inj hm1).symm
    exact ⟨(out_0, b2), rfl, Keeps.mk (ks := [0]) rfl ⟨rfl, trivial⟩ (⟨_, _, rfl, rfl, rfl⟩) rfl⟩
  ·
   rintro ⟨out_, b1⟩ rfl
   try dsimp only at hm0
   refine V.seq ?_
   replace hm0 := bindO hm0; rcases hm0 with ⟨y7, hh7, hm0⟩
   refine V.region ?_
   refine VO.cons rfl (V1.move rfl rfl rfl lt0 ?_)
   refine VO.cons rfl (V1.callL (rn + 1) [b1] [.vl (rn + 1) 1 (List.map encInt out_)] rfl rfl rfl cok_41 rfl ⟨_, _, rfl, Lend.srMap 0 rfl (fun _ => rfl) (.head _), rfl⟩ (bwCons (k := 0) rfl bwNil) (ok_spec_l12Sorted hh7) rfl (⟨(by first | omega | (dsimp only; omega)), by rintro _ _ ⟨rfl, rfl⟩; exact ⟨vl_no (by simp [nbeq]) (noL_map (fun _ => rfl) _), by simp⟩⟩) lt0 ?_)
   rintro _ _ ⟨rfl, rfl⟩
   refine VO.cons rfl (V1.assign rfl rfl rfl lt0 ?_)
   refine VO.cons rfl (V1.assign rfl rfl rfl lt0 ?_)
   refine VO.nil ?_
   refine V.ret ?_
   obtain rfl := Option.some.inj hm0
   exact ⟨_, [], ⟨_, _, rfl, rfl, _, _, rfl, rfl, rfl⟩, List.nil_sublist _, rfl, rfl⟩

theorem ok_impl_InSeries {ρ0 σ0 rn : Nat} {list : List Record} {series : Int} {r : List Int × Bool} (h : M.impl_InSeries list series = some r) : Does Try.prog 16 [.vl ρ0 4 (List.map (encRecord σ0) list), .int .i64 series] [] rn (fun x H => ∃ (ob0_ : Option Nat), (ob0_ = none → r.1 = []) ∧ x = .tup [optS 1 ob0_ (List.length r.1), .bool r.2] ∧ H = optH 1 ob0_ (List.map encInt r.1)) := by
 have hm0 := h; clear h; unfold M.impl_InSeries at hm0
 try dsimp only at hm0
 refine Does.intro (N := 34) Try.func16 rfl rfl rfl rfl ?_
 intro w0 S0 L0
 refine V.seq ?_
 refine V.region ?_
 refine VO.cons rfl (V1.assign rfl rfl rfl lt0 ?_)
 refine VO.cons rfl (V1.assign rfl rfl rfl lt0 ?_)
 refine VO.nil ?_
 refine V.seq ?_
 refine V.seq ?_
 replace hm0 := bindO hm0; rcases hm0 with ⟨y0, hh0, hm0⟩
 replace hm0 := bindO hm0; rcases hm0 with ⟨y1, hh1, hm0⟩
 refine V.region ?_
 refine VO.cons rfl (V1.move rfl rfl rfl lt0 ?_)
 refine VO.cons rfl (V1.call rfl rfl rfl cok_33 rfl (ok_impl_AreRecords hh0) rfl lt0 ?_)
 rintro _ _ ⟨rfl, rfl⟩
 refine VO.cons rfl (V1.not rfl rfl rfl lt0 ?_)
 refine VO.cons rfl (V1.move rfl rfl rfl lt0 ?_)
 apply VO.or (n := 3) rfl rfl rfl rfl rfl rfl lt0 (.none rfl)
 ·
  intro hg0
  refine VO.step (.some rfl rfl rfl) (V1.move rfl rfl rfl lt0 ?_)
  refine VO.step (.some rfl rfl rfl) (V1.call rfl rfl rfl cok_42 rfl (ok_impl_isId (cond_f hg0 hh1)) rfl lt0 ?_)
  rintro _ _ ⟨rfl, rfl⟩
  refine VO.step (.some rfl rfl rfl) (V1.not rfl rfl rfl lt0 ?_)
  exact VO.nil ⟨rfl, rfl, rfl, rfl, .inr ⟨rfl, .inr ⟨rfl, .inr ⟨rfl, .inr ⟨rfl, .inl rfl⟩⟩⟩⟩⟩
 refine VO.nil ?_
 refine V.keep 34 [0, 1, 16] [] (E0 := [(0, .vl ρ0 4 (List.map (encRecord σ0) list)), (1, .int .i64 series), (16, .bool ((!y0) || (!y1)))]) (H0 := []) rfl (⟨_, _, rfl, rfl, _, _, rfl, rfl, _, _, rfl, rfl, rfl⟩) (rfl) rfl ?_
 refine V.cond rfl (fun hc0 => ?_) (fun hc0 => ?_)
 ·
  replace hm0 := cond_t hc0 hm0
  refine V.seq ?_
  refine V.region ?_
  refine VO.cons rfl (V1.assign rfl rfl rfl lt0 ?_)
  refine VO.cons rfl (V1.assign rfl rfl rfl lt0 ?_)
  refine VO.nil ?_
  refine V.keep 34 [4, 5] [] (E0 := [(4, .nils), (5, .bool false)]) (H0 := []) rfl (⟨_, _, rfl, rfl, _, _, rfl, rfl, rfl⟩) (rfl) rfl ?_
  refine V.ret ?_
  obtain rfl := Option.some.inj hm0
  exact ⟨_, _, ⟨_, _, rfl, rfl, _, _, rfl, rfl, rfl⟩, List.Sublist.refl _, none, (fun _ => rfl), rfl, rfl⟩
 ·
  replace hm0 := cond_f hc0 hm0
  refine V.skip ?_
  refine V.seq ?_
  refine V.region ?_
  refine VO.cons rfl (V1.assign rfl rfl rfl lt0 ?_)
  refine VO.nil ?_
  refine V.seq ?_
  refine V.seq ?_
  refine V.region ?_
  refine VO.cons rfl (V1.move rfl rfl rfl lt0 ?_)
  refine VO.cons rfl (V1.lenMap rfl rfl rfl rfl rfl rfl isl_34 lt0 ?_)
  refine VO.cons rfl (V1.move rfl rfl rfl lt0 ?_)
  refine VO.nil ?_
  replace hm0 := bindO hm0; rcases hm0 with ⟨e0, he1, hm0⟩
  refine V.cutT (D := (List Int) × (Option Nat)) (fun ⟨ids, ob0⟩ => ⟨34, [(6, optS 1 ob0 (List.length ids))], optH 1 ob0 (List.map encInt ids)⟩) (fun ⟨ids, ob0⟩ => (ids = e0) ∧ (ob0 = none → ids = [])) ?_ ?_
  ·
   refine V.block ?_
   refine V.keep 34 [6, 19, 1, 17, 18] [] (E0 := [(6, .nils), (19, .int .i64 (0 : Int)), (1, .int .i64 series), (17, .vl ρ0 4 (List.map (encRecord σ0) list)), (18, .int .i64 (list.length : Int))]) (H0 := []) rfl (⟨_, _, rfl, rfl, _, _, rfl, rfl, _, _, rfl, rfl, _, _, rfl, rfl, _, _, rfl, rfl, rfl⟩) (rfl) rfl ?_
   refine V.loopE (D := Nat × (List Int × Int) × (Option Nat)) (fun ⟨n0, ⟨ids0, v⟩, ob1⟩ => [(6, optS 1 ob1 (List.length ids0)), (19, .int .i64 v)]) (fun ⟨n0, ⟨ids0, v⟩, ob1⟩ => optH 1 ob1 (List.map encInt ids0)) (fun ⟨n0, ⟨ids0, v⟩, ob1⟩ => loopO (M.impl_InSeries_l0 list series) n0 (ids0, v) = some e0 ∧ (ob1 = none → ids0 = [])) (fun ⟨n0, _, _⟩ => n0) (rounds, (([] : List Int), (0 : Int)), none) rfl ⟨he1, (fun _ => rfl)⟩ ?_
   rintro ⟨n0, ⟨ids0, v⟩, ob1⟩ ⟨hP0, hob1⟩
   obtain ⟨m0, y2, rfl, hm1, hl1, hr1⟩ := loop_head hP0
   unfold M.impl_InSeries_l0 at hm1; dsimp only at hm1
   rcases ob1 with _ | ob1
   ·
    replace hob1 := hob1 rfl
    show V _ _ _ ⟨34, [(6, .nils), (19, .int .i64 v), (1, .int .i64 series), (17, .vl ρ0 4 (List.map (encRecord σ0) list)), (18, .int .i64 (list.length : Int))], []⟩
    refine V.seq ?_
    refine V.region ?_
    refine VO.cons rfl (V1.int rfl rfl rfl rfl rfl lt0 ?_)
    refine VO.nil ?_
    refine V.seq ?_
    refine V.cond rfl (fun hc1 => ?_) (fun hc1 => ?_)
    ·
     replace hm1 := cond_t hc1 hm1
     refine V.skip ?_
     refine V.seq ?_
     replace hm1 := bindO hm1; rcases hm1 with ⟨j0, hm2, hm1⟩
     refine V.cutT (D := (List Int) × (Option Nat)) (fun ⟨ids1, ob2⟩ => ⟨34, [(6, optS 1 ob2 (List.length ids1)), (1, .int .i64 series), (17, .vl ρ0 4 (List.map (encRecord σ0) list)), (18, .int .i64 (list.length : Int)), (19, .int .i64 v)], optH 1 ob2 (List.map encInt ids1)⟩) (fun ⟨ids1, ob2⟩ => (ids1 = j0) ∧ (ob2 = none → ids1 = [])) ?_ ?_
     ·
      refine V.block ?_
      refine V.seq ?_
      replace hm2 := asrt_some hm2; rcases hm2 with ⟨hh2, hm2⟩
      refine V.region ?_
      refine VO.cons rfl (V1.indexI rfl rfl esz_34 rfl rfl hh2 lt0 ?_)
      refine VO.cons rfl (V1.loadPinAll rfl rfl tyk_41 rfl rfl lt0 ?_)
      refine VO.cons rfl (V1.alloc rfl rfl zk_41 lt0 ?_)
      intro b0
      refine VO.cons rfl (V1.storeRefAll (k := 0) rfl rfl tyk_41 rfl rfl rfl rfl rfl rfl ?_)
      refine VO.nil ?_
      refine V.seq ?_
      refine V.region ?_
      refine VO.cons rfl (V1.fieldRef rfl rfl fo_41_1 rfl lt0 ?_)
      refine VO.cons rfl (V1.loadRef (k := 0) rfl rfl tyk_3 rfl rfl rfl rfl rfl lt0 ?_)
      refine VO.cons rfl (V1.move rfl rfl rfl lt0 ?_)
      refine VO.cons rfl (V1.int rfl rfl rfl rfl rfl lt0 ?_)
      refine VO.nil ?_
      refine V.keep 34 [1, 6, 8, 17, 18, 19, 26] [0] (E0 := [(1, .int .i64 series), (6, .nils), (8, .ref b0 4 0 0), (17, .vl ρ0 4 (List.map (encRecord σ0) list)), (18, .int .i64 (list.length : Int)), (19, .int .i64 v), (26, .bool (((list.getD (Int.toNat v) default).Series) == series))]) (H0 := [(b0, ⟨4, [encRecord σ0 (list.getD (Int.toNat v) default)]⟩)]) rfl (⟨_, _, rfl, rfl, _, _, rfl, rfl, _, _, rfl, rfl, _, _, rfl, rfl, _, _, rfl, rfl, _, _, rfl, rfl, _, _, rfl, rfl, rfl⟩) (⟨_, _, rfl, rfl, rfl⟩) rfl ?_
      refine V.cond rfl (fun hc2 => ?_) (fun hc2 => ?_)
      ·
       replace hm2 := cond_t hc2 hm2
       replace hm2 := asrt_some hm2; rcases hm2 with ⟨hh3, hm2⟩
       refine V.region ?_
       refine VO.cons rfl (V1.move rfl rfl rfl lt0 ?_)
       refine VO.cons rfl (V1.fieldRef rfl rfl fo_41_0 rfl lt0 ?_)
       refine VO.cons rfl (V1.loadRef (k := 0) rfl rfl tyk_3 rfl rfl rfl rfl rfl lt0 ?_)
       refine VO.cons rfl (V1.buildSliceT (f := encInt) ([(list.getD (Int.toNat v) default).Id] : List Int) rfl rfl esz_24 zk_3 rfl rfl rfl rfl rfl rfl rfl lt0 ?_)
       intro b1
       refine VO.cons rfl (V1.appendNilE (f := encInt) (l := ids0) (m := ([(list.getD (Int.toNat v) default).Id] : List Int)) hob1 rfl rfl rfl rfl rfl esz_24 eby_24 zk_3 rfl rfl rfl (SrcOf.srMap (k := 0) rfl isl_24) rfl hh3 lt0 ?_)
       intro b2
       refine VO.cons rfl (V1.assign rfl rfl rfl lt0 ?_)
       refine VO.nil ?_
       exact ⟨((ids0 ++ ([(list.getD (Int.toNat v) default).Id] : List Int)), (some b2)), ⟨Option.some.inj hm2, (fun e => by cases e)⟩, Keeps.mk (ks := [0]) rfl ⟨rfl, rfl, rfl, rfl, rfl, trivial⟩ (⟨_, _, rfl, rfl, rfl⟩) rfl⟩
      ·
       replace hm2 := cond_f hc2 hm2
       refine V.skip ?_
       exact ⟨(ids0, none), ⟨Option.some.inj hm2, (fun _ => hob1)⟩, Keeps.mk (ks := []) rfl ⟨rfl, rfl, rfl, rfl, rfl, trivial⟩ (rfl) rfl⟩
     ·
      rintro ⟨ids1, ob2⟩ ⟨rfl, hob2⟩
      try dsimp only at hm1
      rcases ob2 with _ | ob2
      ·
       replace hob2 := hob2 rfl
       refine V.region ?_
       refine VO.cons rfl (V1.int rfl rfl rfl rfl rfl lt0 ?_)
       refine VO.cons rfl (V1.move rfl rfl rfl lt0 ?_)
       refine VO.nil ?_
       exact ⟨(m0, (ids1, (IntKind.i64.wrap (v + (1 : Int)))), none), ⟨hl1 _ (Option.some.inj hm1).symm, (fun _ => hob2)⟩, Nat.lt_succ_self _, Keeps.mk (ks := []) rfl ⟨rfl, rfl, rfl, rfl, rfl, trivial⟩ (rfl) rfl⟩
      ·
       refine V.region ?_
       refine VO.cons rfl (V1.int rfl rfl rfl rfl rfl lt0 ?_)
       refine VO.cons rfl (V1.move rfl rfl rfl lt0 ?_)
       refine VO.nil ?_
       exact ⟨(m0, (ids1, (IntKind.i64.wrap (v + (1 : Int)))), (some ob2)), ⟨hl1 _ (Option.some.inj hm1).symm, (fun e => by cases e)⟩, Nat.lt_succ_self _, Keeps.mk (ks := [0]) rfl ⟨rfl, rfl, rfl, rfl, rfl, trivial⟩ (⟨_, _, rfl, rfl, rfl⟩) rfl⟩
    ·
     replace hm1 := cond_f hc1 hm1
     refine V.exit ?_
     obtain rfl := hr1 _ (Option.some.inj hm1).symm
     exact ⟨(ids0, none), ⟨rfl, (fun _ => hob1)⟩, Keeps.mk (ks := []) rfl ⟨rfl, trivial⟩ (rfl) rfl⟩
   ·
    show V _ _ _ ⟨34, [(6, .sref ob1 1 0 (List.length ids0)), (19, .int .i64 v), (1, .int .i64 series), (17, .vl ρ0 4 (List.map (encRecord σ0) list)), (18, .int .i64 (list.length : Int))], [(ob1, ⟨1, List.map encInt ids0⟩)]⟩
    refine V.seq ?_
    refine V.region ?_
    refine VO.cons rfl (V1.int rfl rfl rfl rfl rfl lt0 ?_)
    refine VO.nil ?_
    refine V.seq ?_
    refine V.cond rfl (fun hc1 => ?_) (fun hc1 => ?_)
    ·
     replace hm1 := cond_t hc1 hm1
     refine V.skip ?_
     refine V.seq ?_
     replace hm1 := bindO hm1; rcases hm1 with ⟨j0, hm2, hm1⟩
     refine V.cutT (D := (List Int) × (Nat)) (fun ⟨ids1, b0⟩ => ⟨34, [(6, .sref b0 1 0 (List.length ids1)), (1, .int .i64 series), (17, .vl ρ0 4 (List.map (encRecord σ0) list)), (18, .int .i64 (list.length : Int)), (19, .int .i64 v)], [(b0, ⟨1, List.map encInt ids1⟩)]⟩) (fun ⟨ids1, b0⟩ => (ids1 = j0)) ?_ ?_
     ·
      refine V.block ?_
      refine V.seq ?_
      replace hm2 := asrt_some hm2; rcases hm2 with ⟨hh2, hm2⟩
      refine V.region ?_
      refine VO.cons rfl (V1.indexI rfl rfl esz_34 rfl rfl hh2 lt0 ?_)
      refine VO.cons rfl (V1.loadPinAll rfl rfl tyk_41 rfl rfl lt0 ?_)
      refine VO.cons rfl (V1.alloc rfl rfl zk_41 lt0 ?_)
      intro b1
      refine VO.cons rfl (V1.storeRefAll (k := 0) rfl rfl tyk_41 rfl rfl rfl rfl rfl rfl ?_)
      refine VO.nil ?_
      refine V.seq ?_
      refine V.region ?_
      refine VO.cons rfl (V1.fieldRef rfl rfl fo_41_1 rfl lt0 ?_)
      refine VO.cons rfl (V1.loadRef (k := 0) rfl rfl tyk_3 rfl rfl rfl rfl rfl lt0 ?_)
      refine VO.cons rfl (V1.move rfl rfl rfl lt0 ?_)
      refine VO.cons rfl (V1.int rfl rfl rfl rfl rfl lt0 ?_)
      refine VO.nil ?_
      refine V.keep 34 [1, 6, 8, 17, 18, 19, 26] [0, 1] (E0 := [(1, .int .i64 series), (6, .sref ob1 1 0 (List.length ids0)), (8, .ref b1 4 0 0), (17, .vl ρ0 4 (List.map (encRecord σ0) list)), (18, .int .i64 (list.length : Int)), (19, .int .i64 v), (26, .bool (((list.getD (Int.toNat v) default).Series) == series))]) (H0 := [(b1, ⟨4, [encRecord σ0 (list.getD (Int.toNat v) default)]⟩), (ob1, ⟨1, List.map encInt ids0⟩)]) rfl (⟨_, _, rfl, rfl, _, _, rfl, rfl, _, _, rfl, rfl, _, _, rfl, rfl, _, _, rfl, rfl, _, _, rfl, rfl, _, _, rfl, rfl, rfl⟩) (⟨_, _, rfl, rfl, _, _, rfl, rfl, rfl⟩) rfl ?_
      refine V.cond rfl (fun hc2 => ?_) (fun hc2 => ?_)
      ·
       replace hm2 := cond_t hc2 hm2
       replace hm2 := asrt_some hm2; rcases hm2 with ⟨hh3, hm2⟩
       refine V.region ?_
       refine VO.cons rfl (V1.move rfl rfl rfl lt0 ?_)
       refine VO.cons rfl (V1.fieldRef rfl rfl fo_41_0 rfl lt0 ?_)
       refine VO.cons rfl (V1.loadRef (k := 0) rfl rfl tyk_3 rfl rfl rfl rfl rfl lt0 ?_)
       refine VO.cons rfl (V1.buildSliceT (f := encInt) ([(list.getD (Int.toNat v) default).Id] : List Int) rfl rfl esz_24 zk_3 rfl rfl rfl rfl rfl rfl rfl lt0 ?_)
       intro b2
       refine VO.cons rfl (V1.appendMap (k := 2) (f := encInt) (l := ids0) (m := ([(list.getD (Int.toNat v) default).Id] : List Int)) rfl rfl rfl rfl rfl esz_24 eby_24 zk_3 rfl rfl rfl (SrcOf.srMap (k := 0) rfl isl_24) hh3 lt0 ?_)
       intro b3
       refine VO.cons rfl (V1.assign rfl rfl rfl lt0 ?_)
       refine VO.nil ?_
       exact ⟨((ids0 ++ ([(list.getD (Int.toNat v) default).Id] : List Int)), b3), Option.some.inj hm2, Keeps.mk (ks := [0]) rfl ⟨rfl, rfl, rfl, rfl, rfl, trivial⟩ (⟨_, _, rfl, rfl, rfl⟩) rfl⟩
      ·
       replace hm2 := cond_f hc2 hm2
       refine V.skip ?_
       exact ⟨(ids0, ob1), Option.some.inj hm2, Keeps.mk (ks := [1]) rfl ⟨rfl, rfl, rfl, rfl, rfl, trivial⟩ (⟨_, _, rfl, rfl, rfl⟩) rfl⟩
     ·
      rintro ⟨ids1, b0⟩ rfl
      try dsimp only at hm1
      refine V.region ?_
      refine VO.cons rfl (V1.int rfl rfl rfl rfl rfl lt0 ?_)
      refine VO.cons rfl (V1.move rfl rfl rfl lt0 ?_)
      refine VO.nil ?_
      exact ⟨(m0, (ids1, (IntKind.i64.wrap (v + (1 : Int)))), (some b0)), ⟨hl1 _ (Option.some.inj hm1).symm, (fun e => by cases e)⟩, Nat.lt_succ_self _, Keeps.mk (ks := [0]) rfl ⟨rfl, rfl, rfl, rfl, rfl, trivial⟩ (⟨_, _, rfl, rfl, rfl⟩) rfl⟩
    ·
     replace hm1 := cond_f hc1 hm1
     refine V.exit ?_
     obtain rfl := hr1 _ (Option.some.inj hm1).symm
     exact ⟨(ids0, (some ob1)), ⟨rfl, (fun e => by cases e)⟩, Keeps.mk (ks := [0]) rfl ⟨rfl, trivial⟩ (⟨_, _, rfl, rfl, rfl⟩) rfl⟩
  ·
   rintro ⟨ids, ob0⟩ ⟨rfl, hob0⟩
   try dsimp only at hm0
   rcases ob0 with _ | ob0
   ·
    replace hob0 := hob0 rfl
    refine V.seq ?_
    refine V.region ?_
    refine VO.cons rfl (V1.move rfl rfl rfl lt0 ?_)
    refine VO.cons rfl (V1.assign rfl rfl rfl lt0 ?_)
    refine VO.cons rfl (V1.assign rfl rfl rfl lt0 ?_)
    refine VO.nil ?_
    refine V.keep 34 [4, 5] [] (E0 := [(4, .nils), (5, .bool true)]) (H0 := []) rfl (⟨_, _, rfl, rfl, _, _, rfl, rfl, rfl⟩) (rfl) rfl ?_
    refine V.ret ?_
    obtain rfl := Option.some.inj hm0
    exact ⟨_, _, ⟨_, _, rfl, rfl, _, _, rfl, rfl, rfl⟩, List.Sublist.refl _, none, (fun _ => hob0), rfl, rfl⟩
   ·
    refine V.seq ?_
    refine V.region ?_
    refine VO.cons rfl (V1.move rfl rfl rfl lt0 ?_)
    refine VO.cons rfl (V1.assign rfl rfl rfl lt0 ?_)
    refine VO.cons rfl (V1.assign rfl rfl rfl lt0 ?_)
    refine VO.nil ?_
    refine V.keep 34 [4, 5] [0] (E0 := [(4, .sref ob0 1 0 (List.length ids)), (5, .bool true)]) (H0 := [(ob0, ⟨1, List.map encInt ids⟩)]) rfl (⟨_, _, rfl, rfl, _, _, rfl, rfl, rfl⟩) (⟨_, _, rfl, rfl, rfl⟩) rfl ?_
    refine V.ret ?_
    obtain rfl := Option.some.inj hm0
    exact ⟨_, _, ⟨_, _, rfl, rfl, _, _, rfl, rfl, rfl⟩, List.Sublist.refl _, some ob0, (fun e => by cases e), rfl, rfl⟩

theorem ok_spec_DrawNextSeed {ρ0 rn : Nat} {code : List Int} {r : Int × Int} (h : M.spec_DrawNextSeed code = some r) : Does Try.prog 18 [.vl ρ0 1 (List.map encU8 code)] [] rn (fun x H => x = .tup [.int .i64 r.1, .int .i64 r.2] ∧ H = []) := by
 have hm0 := h; clear h; unfold M.spec_DrawNextSeed at hm0
 try dsimp only at hm0
 refine Does.intro (N := 13) Try.func18 rfl rfl rfl rfl ?_
 intro w0 S0 L0
 refine V.seq ?_
 refine V.region ?_
 refine VO.cons rfl (V1.assign rfl rfl rfl lt0 ?_)
 refine VO.cons rfl (V1.assign rfl rfl rfl lt0 ?_)
 refine VO.nil ?_
 refine V.seq ?_
 refine V.region ?_
 refine VO.cons rfl (V1.move rfl rfl rfl lt0 ?_)
 refine VO.cons rfl (V1.build rfl rfl zk_49 pl_49 rfl rfl lt0 ?_)
 refine VO.cons rfl (V1.boxN (n := 3) rfl rfl rfl rfl rfl lt0 ?_)
 intro b0
 refine VO.cons rfl (V1.assign rfl rfl rfl lt0 ?_)
 refine VO.nil ?_
 refine V.keep 13 [4] [0] (E0 := [(4, .ref b0 3 0 0)]) (H0 := [(b0, ⟨3, [.agg [.vl ρ0 1 (List.map encU8 code), .int .i64 (0 : Int), .int .u64 (0 : Int)]]⟩)]) rfl (⟨_, _, rfl, rfl, rfl⟩) (⟨_, _, rfl, rfl, rfl⟩) rfl ?_
 refine V.seq ?_
 replace hm0 := bindO hm0; rcases hm0 with ⟨y0, hh0, hm0⟩
 replace hm0 := bindO hm0; rcases hm0 with ⟨y1, hh1, hm0⟩
 refine V.region ?_
 refine VO.cons rfl (V1.move rfl rfl rfl lt0 ?_)
 refine VO.cons rfl (V1.callM 0 (rn + ρ0 + 1) [] [.ref b0 3 0 0] (p := (b0, ⟨3, [.agg [.vl ρ0 1 (List.map encU8 code), .int .i64 (0 : Int), .int .u64 (0 : Int)]]⟩)) rfl rfl rfl cok_32 rfl rfl ⟨_, _, rfl, .same _, rfl⟩ bwNil (ok_spec_l1Cur_anySeed hh0) rfl (.inl rfl) lt0 ?_)
 rintro _ _ ⟨rfl, rfl⟩
 refine VO.cons rfl (V1.move rfl rfl rfl lt0 ?_)
 refine VO.cons rfl (V1.buildSliceT (f := encInt) ([(0 : Int), (1 : Int), (2 : Int), (10 : Int), (1000 : Int), (1001 : Int), (-1 : Int)] : List Int) rfl rfl esz_24 zk_3 rfl rfl rfl rfl rfl rfl rfl lt0 ?_)
 intro b1
 refine VO.cons rfl (V1.callM 1 (rn + ρ0 + 1) [b1] [.ref b0 3 0 0, .vl (rn + ρ0 + 1) 1 (List.map encInt ([(0 : Int), (1 : Int), (2 : Int), (10 : Int), (1000 : Int), (1001 : Int), (-1 : Int)] : List Int))] (p := (b0, ⟨3, [encCur ρ0 y0.2]⟩)) rfl rfl rfl cok_21 rfl rfl ⟨_, _, rfl, .same _, ⟨_, _, rfl, Lend.srMap 0 rfl (fun _ => rfl) (.head _), rfl⟩⟩ (bwCons (k := 0) rfl bwNil) (ok_spec_l1Cur_among hh1) rfl (.inr ⟨(by first | omega | (dsimp only; omega)), by rintro _ _ ⟨rfl, rfl⟩; exact ⟨by simp [PV.no, PV.noL, optS_no, noL_iff, nbeq] <;> omega, by intro b ob h; first | exact optH_no (noL_map (fun _ => by simp [PV.no, PV.noL, noL_iff, nbeq]) _) b ob h | (simp only [List.append_assoc, List.mem_append, List.mem_cons, List.mem_singleton, List.not_mem_nil, or_false, Prod.mk.injEq] at h; rcases h with ⟨rfl, rfl⟩ | ⟨rfl, rfl⟩ <;> first | exact noL_map (fun _ => by simp [PV.no, PV.noL, noL_iff, nbeq]) _ | (simp [PV.no, PV.noL, optS_no, noL_iff, nbeq] <;> omega)) | (simp at h; obtain ⟨rfl, rfl⟩ := h; exact noL_map (fun _ => by simp [PV.no, PV.noL, noL_iff, nbeq]) _) | (simp at h; obtain ⟨rfl, rfl⟩ := h; simp [PV.no, PV.noL, optS_no, noL_iff, nbeq] <;> omega)⟩⟩) lt0 ?_)
 rintro _ _ ⟨rfl, rfl⟩
 refine VO.cons rfl (V1.assign rfl rfl rfl lt0 ?_)
 refine VO.cons rfl (V1.assign rfl rfl rfl lt0 ?_)
 refine VO.nil ?_
 refine V.ret ?_
 obtain rfl := Option.some.inj hm0
 exact ⟨_, [], ⟨_, _, rfl, rfl, _, _, rfl, rfl, rfl⟩, List.nil_sublist _, rfl, rfl⟩

theorem ok_impl_NextSeed {rn : Nat} {seed : Int} {times : Int} {r : Int × Bool} (h : M.impl_NextSeed seed times = some r) : Does Try.prog 19 [.int .i64 seed, .int .i64 times] [] rn (fun x H => x = .tup [.int .i64 r.1, .bool r.2] ∧ H = []) := by
 have hm0 := h; clear h; unfold M.impl_NextSeed at hm0
 try dsimp only at hm0
 refine Does.intro (N := 21) Try.func19 rfl rfl rfl rfl ?_
 intro w0 S0 L0
 refine V.seq ?_
 refine V.region ?_
 refine VO.cons rfl (V1.assign rfl rfl rfl lt0 ?_)
 refine VO.cons rfl (V1.assign rfl rfl rfl lt0 ?_)
 refine VO.nil ?_
 refine V.seq ?_
 refine V.seq ?_
 replace hm0 := bindO hm0; rcases hm0 with ⟨y0, hh0, hm0⟩
 replace hm0 := bindO hm0; rcases hm0 with ⟨y1, hh1, hm0⟩
 refine V.region ?_
 refine VO.cons rfl (V1.move rfl rfl rfl lt0 ?_)
 refine VO.cons rfl (V1.call rfl rfl rfl cok_34 rfl (ok_impl_isSeed hh0) rfl lt0 ?_)
 rintro _ _ ⟨rfl, rfl⟩
 refine VO.cons rfl (V1.not rfl rfl rfl lt0 ?_)
 refine VO.cons rfl (V1.move rfl rfl rfl lt0 ?_)
 apply VO.or (n := 3) rfl rfl rfl rfl rfl rfl lt0 (.none rfl)
 ·
  intro hg0
  refine VO.step (.some rfl rfl rfl) (V1.move rfl rfl rfl lt0 ?_)
  refine VO.step (.some rfl rfl rfl) (V1.call rfl rfl rfl cok_26 rfl (ok_impl_within (cond_f hg0 hh1)) rfl lt0 ?_)
  rintro _ _ ⟨rfl, rfl⟩
  refine VO.step (.some rfl rfl rfl) (V1.not rfl rfl rfl lt0 ?_)
  exact VO.nil ⟨rfl, rfl, rfl, rfl, .inr ⟨rfl, .inr ⟨rfl, .inr ⟨rfl, .inr ⟨rfl, .inl rfl⟩⟩⟩⟩⟩
 refine VO.nil ?_
 refine V.keep 21 [0, 1, 13] [] (E0 := [(0, .int .i64 seed), (1, .int .i64 times), (13, .bool ((!y0) || (!y1)))]) (H0 := []) rfl (⟨_, _, rfl, rfl, _, _, rfl, rfl, _, _, rfl, rfl, rfl⟩) (rfl) rfl ?_
 refine V.cond rfl (fun hc0 => ?_) (fun hc0 => ?_)
 ·
  replace hm0 := cond_t hc0 hm0
  refine V.seq ?_
  refine V.region ?_
  refine VO.cons rfl (V1.assign rfl rfl rfl lt0 ?_)
  refine VO.cons rfl (V1.assign rfl rfl rfl lt0 ?_)
  refine VO.nil ?_
  refine V.ret ?_
  obtain rfl := Option.some.inj hm0
  exact ⟨_, [], ⟨_, _, rfl, rfl, _, _, rfl, rfl, rfl⟩, List.nil_sublist _, rfl, rfl⟩
 ·
  replace hm0 := cond_f hc0 hm0
  refine V.skip ?_
  refine V.seq ?_
  refine V.seq ?_
  refine V.region ?_
  refine VO.cons rfl (V1.move rfl rfl rfl lt0 ?_)
  refine VO.cons rfl (V1.move rfl rfl rfl lt0 ?_)
  refine VO.nil ?_
  replace hm0 := bindO hm0; rcases hm0 with ⟨e0, he1, hm0⟩
  refine V.cutT (D := (Int) × (Unit)) (fun ⟨seed0, _⟩ => ⟨21, [(0, .int .i64 seed0)], []⟩) (fun ⟨seed0, _⟩ => (seed0 = e0)) ?_ ?_
  ·
   refine V.block ?_
   refine V.keep 21 [0, 15, 14] [] (E0 := [(0, .int .i64 seed), (15, .int .i64 (0 : Int)), (14, .int .i64 times)]) (H0 := []) rfl (⟨_, _, rfl, rfl, _, _, rfl, rfl, _, _, rfl, rfl, rfl⟩) (rfl) rfl ?_
   refine V.loopE (D := Nat × (Int × Int) × (Unit)) (fun ⟨n0, ⟨seed1, v⟩, _⟩ => [(0, .int .i64 seed1), (15, .int .i64 v)]) (fun ⟨n0, ⟨seed1, v⟩, _⟩ => []) (fun ⟨n0, ⟨seed1, v⟩, _⟩ => loopO (M.impl_NextSeed_l0 times) n0 (seed1, v) = some e0) (fun ⟨n0, _, _⟩ => n0) (rounds, (seed, (0 : Int)), ()) rfl he1 ?_
   rintro ⟨n0, ⟨seed1, v⟩, _⟩ hP0
   obtain ⟨m0, y2, rfl, hm1, hl1, hr1⟩ := loop_head hP0
   unfold M.impl_NextSeed_l0 at hm1; dsimp only at hm1
   show V _ _ _ ⟨21, [(0, .int .i64 seed1), (15, .int .i64 v), (14, .int .i64 times)], []⟩
   refine V.seq ?_
   refine V.region ?_
   refine VO.cons rfl (V1.int rfl rfl rfl rfl rfl lt0 ?_)
   refine VO.nil ?_
   refine V.seq ?_
   refine V.cond rfl (fun hc1 => ?_) (fun hc1 => ?_)
   ·
    replace hm1 := cond_t hc1 hm1
    refine V.skip ?_
    refine V.seq ?_
    refine V.block ?_
    replace hm1 := bindO hm1; rcases hm1 with ⟨y3, hh2, hm1⟩
    refine V.region ?_
    refine VO.cons rfl (V1.move rfl rfl rfl lt0 ?_)
    refine VO.cons rfl (V1.call rfl rfl rfl cok_43 rfl (ok_impl_nextSeed hh2) rfl lt0 ?_)
    rintro _ _ ⟨rfl, rfl⟩
    refine VO.cons rfl (V1.assign rfl rfl rfl lt0 ?_)
    refine VO.nil ?_
    refine V.region ?_
    refine VO.cons rfl (V1.int rfl rfl rfl rfl rfl lt0 ?_)
    refine VO.cons rfl (V1.move rfl rfl rfl lt0 ?_)
    refine VO.nil ?_
    exact ⟨(m0, (y3, (IntKind.i64.wrap (v + (1 : Int)))), ()), hl1 _ (Option.some.inj hm1).symm, Nat.lt_succ_self _, Keeps.mk (ks := []) rfl ⟨rfl, rfl, rfl, trivial⟩ (rfl) rfl⟩
   ·
    replace hm1 := cond_f hc1 hm1
    refine V.exit ?_
    obtain rfl := hr1 _ (Option.some.inj hm1).symm
    exact ⟨(seed1, ()), rfl, Keeps.mk (ks := []) rfl ⟨rfl, trivial⟩ (rfl) rfl⟩
  ·
   rintro ⟨seed0, _⟩ rfl
   try dsimp only at hm0
   refine V.seq ?_
   refine V.region ?_
   refine VO.cons rfl (V1.move rfl rfl rfl lt0 ?_)
   refine VO.cons rfl (V1.assign rfl rfl rfl lt0 ?_)
   refine VO.cons rfl (V1.assign rfl rfl rfl lt0 ?_)
   refine VO.nil ?_
   refine V.ret ?_
   obtain rfl := Option.some.inj hm0
   exact ⟨_, [], ⟨_, _, rfl, rfl, _, _, rfl, rfl, rfl⟩, List.nil_sublist _, rfl, rfl⟩

theorem ok_spec_NextSeed {rn : Nat} {seed : Int} {times : Int} {r : Int × Bool} (h : M.spec_NextSeed seed times = some r) : Does Try.prog 20 [.int .i64 seed, .int .i64 times] [] rn (fun x H => x = .tup [.int .i64 r.1, .bool r.2] ∧ H = []) := by
 have hm0 := h; clear h; unfold M.spec_NextSeed at hm0
 try dsimp only at hm0
 refine Does.intro (N := 23) Try.func20 rfl rfl rfl rfl ?_
 intro w0 S0 L0
 refine V.seq ?_
 refine V.region ?_
 refine VO.cons rfl (V1.assign rfl rfl rfl lt0 ?_)
 refine VO.cons rfl (V1.assign rfl rfl rfl lt0 ?_)
 refine VO.nil ?_
 refine V.seq ?_
 refine V.seq ?_
 replace hm0 := bindO hm0; rcases hm0 with ⟨y0, hh0, hm0⟩
 replace hm0 := bindO hm0; rcases hm0 with ⟨y1, hh1, hm0⟩
 refine V.region ?_
 refine VO.cons rfl (V1.move rfl rfl rfl lt0 ?_)
 refine VO.cons rfl (V1.call rfl rfl rfl cok_38 rfl (ok_spec_l12Seed hh0) rfl lt0 ?_)
 rintro _ _ ⟨rfl, rfl⟩
 refine VO.cons rfl (V1.not rfl rfl rfl lt0 ?_)
 refine VO.cons rfl (V1.move rfl rfl rfl lt0 ?_)
 apply VO.or (n := 3) rfl rfl rfl rfl rfl rfl lt0 (.none rfl)
 ·
  intro hg0
  refine VO.step (.some rfl rfl rfl) (V1.move rfl rfl rfl lt0 ?_)
  refine VO.step (.some rfl rfl rfl) (V1.call rfl rfl rfl cok_28 rfl (ok_spec_l1In (cond_f hg0 hh1)) rfl lt0 ?_)
  rintro _ _ ⟨rfl, rfl⟩
  refine VO.step (.some rfl rfl rfl) (V1.not rfl rfl rfl lt0 ?_)
  exact VO.nil ⟨rfl, rfl, rfl, rfl, .inr ⟨rfl, .inr ⟨rfl, .inr ⟨rfl, .inr ⟨rfl, .inl rfl⟩⟩⟩⟩⟩
 refine VO.nil ?_
 refine V.keep 23 [0, 1, 14] [] (E0 := [(0, .int .i64 seed), (1, .int .i64 times), (14, .bool ((!y0) || (!y1)))]) (H0 := []) rfl (⟨_, _, rfl, rfl, _, _, rfl, rfl, _, _, rfl, rfl, rfl⟩) (rfl) rfl ?_
 refine V.cond rfl (fun hc0 => ?_) (fun hc0 => ?_)
 ·
  replace hm0 := cond_t hc0 hm0
  refine V.seq ?_
  refine V.region ?_
  refine VO.cons rfl (V1.assign rfl rfl rfl lt0 ?_)
  refine VO.cons rfl (V1.assign rfl rfl rfl lt0 ?_)
  refine VO.nil ?_
  refine V.ret ?_
  obtain rfl := Option.some.inj hm0
  exact ⟨_, [], ⟨_, _, rfl, rfl, _, _, rfl, rfl, rfl⟩, List.nil_sublist _, rfl, rfl⟩
 ·
  replace hm0 := cond_f hc0 hm0
  refine V.skip ?_
  refine V.seq ?_
  refine V.seq ?_
  refine V.region ?_
  refine VO.cons rfl (V1.assign rfl rfl rfl lt0 ?_)
  refine VO.nil ?_
  replace hm0 := bindO hm0; rcases hm0 with ⟨e0, he1, hm0⟩
  refine V.cutT (D := (Int) × (Unit)) (fun ⟨seed0, _⟩ => ⟨23, [(0, .int .i64 seed0)], []⟩) (fun ⟨seed0, _⟩ => (seed0 = e0)) ?_ ?_
  ·
   refine V.block ?_
   refine V.keep 23 [0, 6, 1] [] (E0 := [(0, .int .i64 seed), (6, .int .i64 (0 : Int)), (1, .int .i64 times)]) (H0 := []) rfl (⟨_, _, rfl, rfl, _, _, rfl, rfl, _, _, rfl, rfl, rfl⟩) (rfl) rfl ?_
   refine V.loopE (D := Nat × (Int × Int) × (Unit)) (fun ⟨n0, ⟨seed1, k⟩, _⟩ => [(0, .int .i64 seed1), (6, .int .i64 k)]) (fun ⟨n0, ⟨seed1, k⟩, _⟩ => []) (fun ⟨n0, ⟨seed1, k⟩, _⟩ => loopO (M.spec_NextSeed_l0 times) n0 (seed1, k) = some e0) (fun ⟨n0, _, _⟩ => n0) (rounds, (seed, (0 : Int)), ()) rfl he1 ?_
   rintro ⟨n0, ⟨seed1, k⟩, _⟩ hP0
   obtain ⟨m0, y2, rfl, hm1, hl1, hr1⟩ := loop_head hP0
   unfold M.spec_NextSeed_l0 at hm1; dsimp only at hm1
   show V _ _ _ ⟨23, [(0, .int .i64 seed1), (6, .int .i64 k), (1, .int .i64 times)], []⟩
   refine V.seq ?_
   refine V.seq ?_
   refine V.region ?_
   refine VO.cons rfl (V1.move rfl rfl rfl lt0 ?_)
   refine VO.cons rfl (V1.move rfl rfl rfl lt0 ?_)
   refine VO.cons rfl (V1.int rfl rfl rfl rfl rfl lt0 ?_)
   refine VO.nil ?_
   refine V.cond rfl (fun hc1 => ?_) (fun hc1 => ?_)
   ·
    replace hm1 := cond_t hc1 hm1
    refine V.skip ?_
    refine V.seq ?_
    refine V.block ?_
    replace hm1 := bindO hm1; rcases hm1 with ⟨y3, hh2, hm1⟩
    refine V.region ?_
    refine VO.cons rfl (V1.move rfl rfl rfl lt0 ?_)
    refine VO.cons rfl (V1.call rfl rfl rfl cok_44 rfl (ok_spec_l12Next hh2) rfl lt0 ?_)
    rintro _ _ ⟨rfl, rfl⟩
    refine VO.cons rfl (V1.assign rfl rfl rfl lt0 ?_)
    refine VO.nil ?_
    refine V.keep 23 [0, 1, 6] [] (E0 := [(0, .int .i64 y3), (1, .int .i64 times), (6, .int .i64 k)]) (H0 := []) rfl (⟨_, _, rfl, rfl, _, _, rfl, rfl, _, _, rfl, rfl, rfl⟩) (rfl) rfl ?_
    refine V.region ?_
    refine VO.cons rfl (V1.move rfl rfl rfl lt0 ?_)
    refine VO.cons rfl (V1.int rfl rfl rfl rfl rfl lt0 ?_)
    refine VO.cons rfl (V1.assign rfl rfl rfl lt0 ?_)
    refine VO.nil ?_
    exact ⟨(m0, (y3, (IntKind.i64.wrap (k + (1 : Int)))), ()), hl1 _ (Option.some.inj hm1).symm, Nat.lt_succ_self _, Keeps.mk (ks := []) rfl ⟨rfl, rfl, rfl, trivial⟩ (rfl) rfl⟩
   ·
    replace hm1 := cond_f hc1 hm1
    refine V.exit ?_
    obtain rfl := hr1 _ (Option.some.inj hm1).symm
    exact ⟨(seed1, ()), rfl, Keeps.mk (ks := []) rfl ⟨rfl, trivial⟩ (rfl) rfl⟩
  ·
   rintro ⟨seed0, _⟩ rfl
   try dsimp only at hm0
   refine V.seq ?_
   refine V.region ?_
   refine VO.cons rfl (V1.move rfl rfl rfl lt0 ?_)
   refine VO.cons rfl (V1.assign rfl rfl rfl lt0 ?_)
   refine VO.cons rfl (V1.assign rfl rfl rfl lt0 ?_)
   refine VO.nil ?_
   refine V.ret ?_
   obtain rfl := Option.some.inj hm0
   exact ⟨_, [], ⟨_, _, rfl, rfl, _, _, rfl, rfl, rfl⟩, List.nil_sublist _, rfl, rfl⟩
end Go.Proofs.Yteocnbeefedbkaa
