/- the functions do what their models say -/
import Derived.Test.YtjfpdbhjoofllaaDoorQf2
set_option linter.unusedSimpArgs false
set_option linter.unusedVariables false
set_option maxRecDepth 100000
set_option maxHeartbeats 4000000
namespace Go.Proofs.YtjfpdbhjoofllaaDoor
open Go.VS

theorem ok_spec_LostRecords {ρ0 σ0 ρ1 rn : Nat} {list : List Format} {copies : List Copy} {day : Int} {r : List Int × Bool} (h : M.spec_LostRecords list copies day = some r) : Does Tryd.prog 28 [.vl ρ0 4 (List.map (encFormat σ0) list), .vl ρ1 4 (List.map encCopy copies), .int .i64 day] [] rn (fun x H => ∃ (ob0_ : Nat), x = .tup [PV.sref ob0_ 1 0 (List.length r.1), .bool r.2] ∧ H = [(ob0_, ⟨1, List.map encInt r.1⟩)]) := by
 have hm0 := h; clear h; unfold M.spec_LostRecords at hm0
 try dsimp only at hm0
 refine Does.intro (N := 77) Tryd.func28 rfl rfl rfl rfl ?_
 intro w0 S0
 refine V.seq ?_
 refine V.region ?_
 refine VO.cons rfl (V1.assign rfl rfl rfl lt0 ?_)
 refine VO.cons rfl (V1.assign rfl rfl rfl lt0 ?_)
 refine VO.nil ?_
 refine V.seq ?_
 refine V.region ?_
 refine VO.cons rfl (V1.buildSliceT (f := encInt) ([] : List Int) rfl rfl esz_31 zk_3 rfl rfl rfl rfl rfl rfl rfl lt0 ?_)
 intro b0
 refine VO.cons rfl (V1.assign rfl rfl rfl lt0 ?_)
 refine VO.nil ?_
 refine V.seq ?_
 refine V.seq ?_
 replace hm0 := bindO hm0; rcases hm0 with ⟨y0, hh0, hm0⟩
 replace hm0 := bindO hm0; rcases hm0 with ⟨y1, hh1, hm0⟩
 refine V.region ?_
 refine VO.cons rfl (V1.move rfl rfl rfl lt0 ?_)
 refine VO.cons rfl (V1.move rfl rfl rfl lt0 ?_)
 refine VO.cons rfl (V1.call rfl rfl rfl cok_69 rfl (ok_spec_l7Copies hh0) rfl lt0 ?_)
 rintro _ _ ⟨rfl, rfl⟩
 refine VO.cons rfl (V1.not rfl rfl rfl lt0 ?_)
 refine VO.cons rfl (V1.move rfl rfl rfl lt0 ?_)
 apply VO.or (n := 3) rfl rfl rfl rfl rfl rfl lt0 (.none rfl)
 ·
  intro hg0
  refine VO.step (.some rfl rfl rfl) (V1.move rfl rfl rfl lt0 ?_)
  refine VO.step (.some rfl rfl rfl) (V1.call rfl rfl rfl cok_70 rfl (ok_spec_l2Day (cond_f hg0 hh1)) rfl lt0 ?_)
  rintro _ _ ⟨rfl, rfl⟩
  refine VO.step (.some rfl rfl rfl) (V1.not rfl rfl rfl lt0 ?_)
  exact VO.nil ⟨rfl, rfl, rfl, rfl, .inr ⟨rfl, .inr ⟨rfl, .inr ⟨rfl, .inr ⟨rfl, .inl rfl⟩⟩⟩⟩⟩
 refine VO.nil ?_
 refine V.keep 77 [0, 1, 2, 8, 21] [0] (E0 := [(0, .vl ρ0 4 (List.map (encFormat σ0) list)), (1, .vl ρ1 4 (List.map encCopy copies)), (2, .int .i64 day), (8, .sref b0 1 0 (List.length ([] : List Int))), (21, .bool ((!y0) || (!y1)))]) (H0 := [(b0, ⟨1, List.map encInt ([] : List Int)⟩)]) rfl (⟨_, _, rfl, rfl, ⟨_, _, rfl, rfl, ⟨_, _, rfl, rfl, ⟨_, _, rfl, rfl, ⟨_, _, rfl, rfl, rfl⟩⟩⟩⟩⟩) (⟨_, _, rfl, rfl, rfl⟩) rfl ?_
 refine V.cond rfl (fun hc0 => ?_) (fun hc0 => ?_)
 ·
  replace hm0 := cond_t hc0 hm0
  refine V.seq ?_
  refine V.region ?_
  refine VO.cons rfl (V1.move rfl rfl rfl lt0 ?_)
  refine VO.cons rfl (V1.assign rfl rfl rfl lt0 ?_)
  refine VO.cons rfl (V1.assign rfl rfl rfl lt0 ?_)
  refine VO.nil ?_
  refine V.keep 77 [6, 7] [0] (E0 := [(6, .sref b0 1 0 (List.length ([] : List Int))), (7, .bool false)]) (H0 := [(b0, ⟨1, List.map encInt ([] : List Int)⟩)]) rfl (⟨_, _, rfl, rfl, ⟨_, _, rfl, rfl, rfl⟩⟩) (⟨_, _, rfl, rfl, rfl⟩) rfl ?_
  refine V.ret ?_
  obtain rfl := Option.some.inj hm0
  exact ⟨_, _, ⟨_, _, rfl, rfl, ⟨_, _, rfl, rfl, rfl⟩⟩, List.Sublist.refl _, b0, rfl, rfl⟩
 ·
  replace hm0 := cond_f hc0 hm0
  refine V.skip ?_
  refine V.seq ?_
  refine V.seq ?_
  refine V.region ?_
  refine VO.cons rfl (V1.assign rfl rfl rfl lt0 ?_)
  refine VO.nil ?_
  replace hm0 := bindO hm0; rcases hm0 with ⟨e0, he1, hm0⟩
  refine V.cutT (D := (List Int) × (Nat)) (fun ⟨out_, b1⟩ => ⟨77, [(8, .sref b1 1 0 (List.length out_))], [(b1, ⟨1, List.map encInt out_⟩)]⟩) (fun ⟨out_, b1⟩ => (out_ = e0)) ?_ ?_
  ·
   refine V.block ?_
   refine V.keep 77 [8, 9, 0, 1, 2] [0] (E0 := [(8, .sref b0 1 0 (List.length ([] : List Int))), (9, .int .i64 (0 : Int)), (0, .vl ρ0 4 (List.map (encFormat σ0) list)), (1, .vl ρ1 4 (List.map encCopy copies)), (2, .int .i64 day)]) (H0 := [(b0, ⟨1, List.map encInt ([] : List Int)⟩)]) rfl (⟨_, _, rfl, rfl, ⟨_, _, rfl, rfl, ⟨_, _, rfl, rfl, ⟨_, _, rfl, rfl, ⟨_, _, rfl, rfl, rfl⟩⟩⟩⟩⟩) (⟨_, _, rfl, rfl, rfl⟩) rfl ?_
   refine V.loopE (D := Nat × (List Int × Int) × (Nat)) (fun ⟨n0, ⟨out_0, i⟩, b2⟩ => [(8, .sref b2 1 0 (List.length out_0)), (9, .int .i64 i)]) (fun ⟨n0, ⟨out_0, i⟩, b2⟩ => [(b2, ⟨1, List.map encInt out_0⟩)]) (fun ⟨n0, ⟨out_0, i⟩, b2⟩ => loopO (M.spec_LostRecords_l0 list copies day) n0 (out_0, i) = some e0) (fun ⟨n0, _, _⟩ => n0) (rounds, (([] : List Int), (0 : Int)), b0) rfl he1 ?_
   rintro ⟨n0, ⟨out_0, i⟩, b2⟩ hP0
   obtain ⟨m0, y2, rfl, hm1, hl1, hr1⟩ := loop_head hP0
   unfold M.spec_LostRecords_l0 at hm1; dsimp only at hm1
   show V _ _ _ ⟨77, [(8, .sref b2 1 0 (List.length out_0)), (9, .int .i64 i), (0, .vl ρ0 4 (List.map (encFormat σ0) list)), (1, .vl ρ1 4 (List.map encCopy copies)), (2, .int .i64 day)], [(b2, ⟨1, List.map encInt out_0⟩)]⟩
   refine V.seq ?_
   refine V.seq ?_
   refine V.region ?_
   refine VO.cons rfl (V1.move rfl rfl rfl lt0 ?_)
   refine VO.cons rfl (V1.move rfl rfl rfl lt0 ?_)
   refine VO.cons rfl (V1.lenMap rfl rfl rfl rfl rfl rfl isl_50 lt0 ?_)
   refine VO.cons rfl (V1.int rfl rfl rfl rfl rfl lt0 ?_)
   refine VO.nil ?_
   refine V.cond rfl (fun hc1 => ?_) (fun hc1 => ?_)
   ·
    replace hm1 := cond_t hc1 hm1
    refine V.skip ?_
    refine V.keep 77 [0, 1, 2, 8, 9] [0] (E0 := [(0, .vl ρ0 4 (List.map (encFormat σ0) list)), (1, .vl ρ1 4 (List.map encCopy copies)), (2, .int .i64 day), (8, .sref b2 1 0 (List.length out_0)), (9, .int .i64 i)]) (H0 := [(b2, ⟨1, List.map encInt out_0⟩)]) rfl (⟨_, _, rfl, rfl, ⟨_, _, rfl, rfl, ⟨_, _, rfl, rfl, ⟨_, _, rfl, rfl, ⟨_, _, rfl, rfl, rfl⟩⟩⟩⟩⟩) (⟨_, _, rfl, rfl, rfl⟩) rfl ?_
    refine V.seq ?_
    replace hm1 := bindO hm1; rcases hm1 with ⟨j0, hm2, hm1⟩
    refine V.cutT (D := (List Int) × (Nat)) (fun ⟨out_1, b3⟩ => ⟨77, [(8, .sref b3 1 0 (List.length out_1)), (0, .vl ρ0 4 (List.map (encFormat σ0) list)), (1, .vl ρ1 4 (List.map encCopy copies)), (2, .int .i64 day), (9, .int .i64 i)], [(b3, ⟨1, List.map encInt out_1⟩)]⟩) (fun ⟨out_1, b3⟩ => (out_1 = j0)) ?_ ?_
    ·
     refine V.block ?_
     refine V.seq ?_
     refine V.region ?_
     refine VO.cons rfl (V1.assign rfl rfl rfl lt0 ?_)
     refine VO.nil ?_
     refine V.seq ?_
     refine V.seq ?_
     refine V.region ?_
     refine VO.cons rfl (V1.assign rfl rfl rfl lt0 ?_)
     refine VO.nil ?_
     replace hm2 := bindO hm2; rcases hm2 with ⟨e1, he3, hm2⟩
     refine V.cutT (D := (Bool) × (Unit)) (fun ⟨lost, _⟩ => ⟨77, [(10, .bool lost), (0, .vl ρ0 4 (List.map (encFormat σ0) list)), (1, .vl ρ1 4 (List.map encCopy copies)), (2, .int .i64 day), (8, .sref b2 1 0 (List.length out_0)), (9, .int .i64 i)], [(b2, ⟨1, List.map encInt out_0⟩)]⟩) (fun ⟨lost, _⟩ => (lost = e1)) ?_ ?_
     ·
      refine V.block ?_
      refine V.keep 77 [10, 11, 0, 1, 2, 8, 9] [0] (E0 := [(10, .bool true), (11, .int .i64 (0 : Int)), (0, .vl ρ0 4 (List.map (encFormat σ0) list)), (1, .vl ρ1 4 (List.map encCopy copies)), (2, .int .i64 day), (8, .sref b2 1 0 (List.length out_0)), (9, .int .i64 i)]) (H0 := [(b2, ⟨1, List.map encInt out_0⟩)]) rfl (⟨_, _, rfl, rfl, ⟨_, _, rfl, rfl, ⟨_, _, rfl, rfl, ⟨_, _, rfl, rfl, ⟨_, _, rfl, rfl, ⟨_, _, rfl, rfl, ⟨_, _, rfl, rfl, rfl⟩⟩⟩⟩⟩⟩⟩) (⟨_, _, rfl, rfl, rfl⟩) rfl ?_
      refine V.loopE (D := Nat × (Bool × Int) × (Unit)) (fun ⟨n1, ⟨lost0, k⟩, _⟩ => [(10, .bool lost0), (11, .int .i64 k)]) (fun ⟨n1, ⟨lost0, k⟩, _⟩ => []) (fun ⟨n1, ⟨lost0, k⟩, _⟩ => loopO (M.spec_LostRecords_l1 list copies day i) n1 (lost0, k) = some e1) (fun ⟨n1, _, _⟩ => n1) (rounds, (true, (0 : Int)), ()) rfl he3 ?_
      rintro ⟨n1, ⟨lost0, k⟩, _⟩ hP1
      obtain ⟨m1, y3, rfl, hm3, hl3, hr3⟩ := loop_head hP1
      unfold M.spec_LostRecords_l1 at hm3; dsimp only at hm3
      show V _ _ _ ⟨77, [(10, .bool lost0), (11, .int .i64 k), (0, .vl ρ0 4 (List.map (encFormat σ0) list)), (1, .vl ρ1 4 (List.map encCopy copies)), (2, .int .i64 day), (8, .sref b2 1 0 (List.length out_0)), (9, .int .i64 i)], [(b2, ⟨1, List.map encInt out_0⟩)]⟩
      refine V.seq ?_
      refine V.seq ?_
      refine V.region ?_
      refine VO.cons rfl (V1.move rfl rfl rfl lt0 ?_)
      refine VO.cons rfl (V1.move rfl rfl rfl lt0 ?_)
      refine VO.cons rfl (V1.lenMap rfl rfl rfl rfl rfl rfl isl_50 lt0 ?_)
      refine VO.cons rfl (V1.int rfl rfl rfl rfl rfl lt0 ?_)
      refine VO.nil ?_
      refine V.cond rfl (fun hc2 => ?_) (fun hc2 => ?_)
      ·
       replace hm3 := cond_t hc2 hm3
       refine V.skip ?_
       refine V.keep 77 [0, 1, 2, 8, 9, 10, 11] [0] (E0 := [(0, .vl ρ0 4 (List.map (encFormat σ0) list)), (1, .vl ρ1 4 (List.map encCopy copies)), (2, .int .i64 day), (8, .sref b2 1 0 (List.length out_0)), (9, .int .i64 i), (10, .bool lost0), (11, .int .i64 k)]) (H0 := [(b2, ⟨1, List.map encInt out_0⟩)]) rfl (⟨_, _, rfl, rfl, ⟨_, _, rfl, rfl, ⟨_, _, rfl, rfl, ⟨_, _, rfl, rfl, ⟨_, _, rfl, rfl, ⟨_, _, rfl, rfl, ⟨_, _, rfl, rfl, rfl⟩⟩⟩⟩⟩⟩⟩) (⟨_, _, rfl, rfl, rfl⟩) rfl ?_
       refine V.seq ?_
       replace hm3 := bindO hm3; rcases hm3 with ⟨j1, hm4, hm3⟩
       refine V.cutT (D := (Bool) × (Unit)) (fun ⟨lost1, _⟩ => ⟨77, [(10, .bool lost1), (0, .vl ρ0 4 (List.map (encFormat σ0) list)), (1, .vl ρ1 4 (List.map encCopy copies)), (2, .int .i64 day), (8, .sref b2 1 0 (List.length out_0)), (9, .int .i64 i), (11, .int .i64 k)], [(b2, ⟨1, List.map encInt out_0⟩)]⟩) (fun ⟨lost1, _⟩ => (lost1 = j1)) ?_ ?_
       ·
        refine V.block ?_
        refine V.seq ?_
        replace hm4 := asrt_some hm4; rcases hm4 with ⟨hh2, hm4⟩
        replace hm4 := asrt_some hm4; rcases hm4 with ⟨hh3, hm4⟩
        replace hm4 := asrt_some hm4; rcases hm4 with ⟨hh4, hm4⟩
        replace hm4 := bindO hm4; rcases hm4 with ⟨y4, hh5, hm4⟩
        refine V.regionM 77 22 [⟨[(1, none)], [], none⟩, ⟨[(11, none)], [], none⟩, ⟨[(35, some 1), (36, some 0)], [], none⟩, ⟨[(37, some 0)], [], none⟩, ⟨[(38, some 0)], [], none⟩, ⟨[(1, none)], [], none⟩, ⟨[(9, none)], [], none⟩, ⟨[(40, some 1), (41, some 0)], [], none⟩, ⟨[(42, some 0)], [], none⟩, ⟨[(43, some 0)], [], none⟩, ⟨[(39, some 5), (44, some 0)], [], none⟩, ⟨[(45, some 0)], [], none⟩, ⟨[(0, none)], [(0, true)], none⟩, ⟨[(1, none)], [(1, true)], none⟩, ⟨[(11, none)], [(2, true)], none⟩, ⟨[(48, some 1), (49, some 0)], [(3, true)], none⟩, ⟨[(50, some 0)], [(4, true)], none⟩, ⟨[(51, some 0)], [(5, true)], none⟩, ⟨[(47, some 5), (52, some 0)], [(6, true)], none⟩, ⟨[(2, none)], [(7, true)], none⟩, ⟨[(53, some 1), (54, some 0)], [(8, true)], none⟩, ⟨[], [], some (true, 46, 55, 9, 0)⟩] [(0, none), (1, none), (2, none), (8, none), (9, none), (10, none), (11, none), (56, some 0)] (⟨_, rfl, ⟨_, rfl, ⟨_, rfl, ⟨_, rfl, ⟨_, rfl, ⟨_, rfl, ⟨_, rfl, ⟨_, rfl, ⟨_, rfl, ⟨_, rfl, ⟨_, rfl, ⟨_, rfl, ⟨_, rfl, ⟨_, rfl, ⟨_, rfl, ⟨_, rfl, ⟨_, rfl, ⟨_, rfl, ⟨_, rfl, ⟨_, rfl, ⟨_, rfl, ⟨_, rfl, ⟨rfl, rfl⟩⟩⟩⟩⟩⟩⟩⟩⟩⟩⟩⟩⟩⟩⟩⟩⟩⟩⟩⟩⟩⟩⟩) mixed_orders rfl (by decide +kernel) (fun hck11 => ?_)
        refine VP.step (p := ?pv2248) rfl rfl rfl (⟨_, _, rfl, rfl, rfl⟩) ?hv2248 ?rest2248 hck11
        case hv2248 =>
         intro E1
         refine (V1.move rfl rfl rfl lt0 ?_)
         exact rfl
        refine VP.step (p := ?pv2249) rfl rfl rfl (⟨_, _, rfl, rfl, rfl⟩) ?hv2249 ?rest2249 hck11
        case hv2249 =>
         intro E1
         refine (V1.move rfl rfl rfl lt0 ?_)
         exact rfl
        refine VP.step (p := ?pv2250) rfl rfl rfl (⟨_, _, rfl, rfl, ⟨_, _, rfl, rfl, rfl⟩⟩) ?hv2250 ?rest2250 hck11
        case hv2250 =>
         intro E1
         refine (V1.indexI rfl rfl esz_50 rfl rfl hh2 lt0 ?_)
         exact rfl
        refine VP.step (p := ?pv2251) rfl rfl rfl (⟨_, _, rfl, rfl, rfl⟩) ?hv2251 ?rest2251 hck11
        case hv2251 =>
         intro E1
         refine (V1.fieldPin rfl rfl fo_59_0 rfl lt0 ?_)
         exact rfl
        refine VP.step (p := ?pv2252) rfl rfl rfl (⟨_, _, rfl, rfl, rfl⟩) ?hv2252 ?rest2252 hck11
        case hv2252 =>
         intro E1
         refine (V1.loadPin rfl rfl tyk_3 rfl rfl lt0 ?_)
         exact rfl
        refine VP.step (p := ?pv2253) rfl rfl rfl (⟨_, _, rfl, rfl, rfl⟩) ?hv2253 ?rest2253 hck11
        case hv2253 =>
         intro E1
         refine (V1.move rfl rfl rfl lt0 ?_)
         exact rfl
        refine VP.step (p := ?pv2254) rfl rfl rfl (⟨_, _, rfl, rfl, rfl⟩) ?hv2254 ?rest2254 hck11
        case hv2254 =>
         intro E1
         refine (V1.move rfl rfl rfl lt0 ?_)
         exact rfl
        refine VP.step (p := ?pv2255) rfl rfl rfl (⟨_, _, rfl, rfl, ⟨_, _, rfl, rfl, rfl⟩⟩) ?hv2255 ?rest2255 hck11
        case hv2255 =>
         intro E1
         refine (V1.indexI rfl rfl esz_50 rfl rfl hh3 lt0 ?_)
         exact rfl
        refine VP.step (p := ?pv2256) rfl rfl rfl (⟨_, _, rfl, rfl, rfl⟩) ?hv2256 ?rest2256 hck11
        case hv2256 =>
         intro E1
         refine (V1.fieldPin rfl rfl fo_59_0 rfl lt0 ?_)
         exact rfl
        refine VP.step (p := ?pv2257) rfl rfl rfl (⟨_, _, rfl, rfl, rfl⟩) ?hv2257 ?rest2257 hck11
        case hv2257 =>
         intro E1
         refine (V1.loadPin rfl rfl tyk_3 rfl rfl lt0 ?_)
         exact rfl
        refine VP.step (p := ?pv2258) rfl rfl rfl (⟨_, _, rfl, rfl, ⟨_, _, rfl, rfl, rfl⟩⟩) ?hv2258 ?rest2258 hck11
        case hv2258 =>
         intro E1
         refine (V1.int rfl rfl rfl rfl rfl lt0 ?_)
         exact rfl
        refine VP.step (p := ?pv2259) rfl rfl rfl (⟨_, _, rfl, rfl, rfl⟩) ?hv2259 ?rest2259 hck11
        case hv2259 =>
         intro E1
         refine (V1.move rfl rfl rfl lt0 ?_)
         exact rfl
        refine VP.step (p := ?pv2260) rfl rfl rfl (⟨_, _, rfl, rfl, rfl⟩) ?hv2260 ?rest2260 hck11
        case hv2260 =>
         refine ⟨_, rfl, fun hg1 => ?_⟩
         intro E1
         refine (V1.move rfl rfl rfl lt0 ?_)
         exact rfl
        refine VP.step (p := ?pv2261) rfl rfl rfl (⟨_, _, rfl, rfl, rfl⟩) ?hv2261 ?rest2261 hck11
        case hv2261 =>
         refine ⟨_, rfl, fun hg1 => ?_⟩
         intro E1
         refine (V1.move rfl rfl rfl lt0 ?_)
         exact rfl
        refine VP.step (p := ?pv2262) rfl rfl rfl (⟨_, _, rfl, rfl, rfl⟩) ?hv2262 ?rest2262 hck11
        case hv2262 =>
         refine ⟨_, rfl, fun hg1 => ?_⟩
         intro E1
         refine (V1.move rfl rfl rfl lt0 ?_)
         exact rfl
        refine VP.step (p := ?pv2263) rfl rfl rfl (⟨_, _, rfl, rfl, ⟨_, _, rfl, rfl, rfl⟩⟩) ?hv2263 ?rest2263 hck11
        case hv2263 =>
         refine ⟨_, rfl, fun hg1 => ?_⟩
         intro E1
         refine (V1.indexI rfl rfl esz_50 rfl rfl (hh4 hg1) lt0 ?_)
         exact rfl
        refine VP.step (p := ?pv2264) rfl rfl rfl (⟨_, _, rfl, rfl, rfl⟩) ?hv2264 ?rest2264 hck11
        case hv2264 =>
         refine ⟨_, rfl, fun hg1 => ?_⟩
         intro E1
         refine (V1.fieldPin rfl rfl fo_59_1 rfl lt0 ?_)
         exact rfl
        refine VP.step (p := ?pv2265) rfl rfl rfl (⟨_, _, rfl, rfl, rfl⟩) ?hv2265 ?rest2265 hck11
        case hv2265 =>
         refine ⟨_, rfl, fun hg1 => ?_⟩
         intro E1
         refine (V1.loadPin rfl rfl tyk_3 rfl rfl lt0 ?_)
         exact rfl
        refine VP.step (p := ?pv2266) rfl rfl rfl (⟨_, _, rfl, rfl, ⟨_, _, rfl, rfl, rfl⟩⟩) ?hv2266 ?rest2266 hck11
        case hv2266 =>
         refine ⟨_, rfl, fun hg1 => ?_⟩
         intro E1
         refine (V1.call rfl rfl rfl cok_62 rfl (ok_spec_l7Last (cond_t hg1 hh5)) rfl lt0 ?_)
         rintro _ _ ⟨rfl, rfl⟩
         exact rfl
        refine VP.step (p := ?pv2267) rfl rfl rfl (⟨_, _, rfl, rfl, rfl⟩) ?hv2267 ?rest2267 hck11
        case hv2267 =>
         refine ⟨_, rfl, fun hg1 => ?_⟩
         intro E1
         refine (V1.move rfl rfl rfl lt0 ?_)
         exact rfl
        refine VP.step (p := ?pv2268) rfl rfl rfl (⟨_, _, rfl, rfl, ⟨_, _, rfl, rfl, rfl⟩⟩) ?hv2268 ?rest2268 hck11
        case hv2268 =>
         refine ⟨_, rfl, fun hg1 => ?_⟩
         intro E1
         refine (V1.int rfl rfl rfl rfl rfl lt0 ?_)
         exact rfl
        refine VP.pickAnd rfl rfl rfl rfl rfl rfl (trivial) ?_ hck11
        refine VP.fin rfl (⟨_, _, rfl, rfl, ⟨_, _, rfl, rfl, ⟨_, _, rfl, rfl, ⟨_, _, rfl, rfl, ⟨_, _, rfl, rfl, ⟨_, _, rfl, rfl, ⟨_, _, rfl, rfl, ⟨_, _, rfl, rfl, rfl⟩⟩⟩⟩⟩⟩⟩⟩) ?_
        refine VO.nil ?_
        refine V.cond rfl (fun hc3 => ?_) (fun hc3 => ?_)
        ·
         replace hm4 := cond_t hc3 hm4
         refine V.region ?_
         refine VO.cons rfl (V1.assign rfl rfl rfl lt0 ?_)
         refine VO.nil ?_
         exact ⟨(false, ()), Option.some.inj hm4, Keeps.mk (ks := [0]) rfl ⟨rfl, rfl, rfl, rfl, rfl, rfl, rfl, trivial⟩ (⟨_, _, rfl, rfl, rfl⟩) rfl⟩
        ·
         replace hm4 := cond_f hc3 hm4
         refine V.skip ?_
         exact ⟨(lost0, ()), Option.some.inj hm4, Keeps.mk (ks := [0]) rfl ⟨rfl, rfl, rfl, rfl, rfl, rfl, rfl, trivial⟩ (⟨_, _, rfl, rfl, rfl⟩) rfl⟩
       ·
        rintro ⟨lost1, _⟩ rfl
        try dsimp only at hm3
        refine V.region ?_
        refine VO.cons rfl (V1.move rfl rfl rfl lt0 ?_)
        refine VO.cons rfl (V1.int rfl rfl rfl rfl rfl lt0 ?_)
        refine VO.cons rfl (V1.assign rfl rfl rfl lt0 ?_)
        refine VO.nil ?_
        exact ⟨(m1, (lost1, (IntKind.i64.wrap (k + (1 : Int)))), ()), hl3 _ (Option.some.inj hm3).symm, Nat.lt_succ_self _, Keeps.mk (ks := [0]) rfl ⟨rfl, rfl, rfl, rfl, rfl, rfl, rfl, trivial⟩ (⟨_, _, rfl, rfl, rfl⟩) rfl⟩
      ·
       replace hm3 := cond_f hc2 hm3
       refine V.exit ?_
       obtain rfl := hr3 _ (Option.some.inj hm3).symm
       exact ⟨(lost0, ()), rfl, Keeps.mk (ks := [0]) rfl ⟨rfl, rfl, rfl, rfl, rfl, rfl, trivial⟩ (⟨_, _, rfl, rfl, rfl⟩) rfl⟩
     ·
      rintro ⟨lost, _⟩ rfl
      try dsimp only at hm2
      refine V.seq ?_
      replace hm2 := asrt_some hm2; rcases hm2 with ⟨hh6, hm2⟩
      replace hm2 := bindO hm2; rcases hm2 with ⟨y5, hh7, hm2⟩
      refine V.region ?_
      refine VO.cons rfl (V1.move rfl rfl rfl lt0 ?_)
      refine VO.cons rfl (V1.move rfl rfl rfl lt0 ?_)
      apply VO.and (n := 8) rfl rfl rfl rfl rfl rfl lt0 (.none rfl)
      ·
       intro hg2
       refine VO.step (.some rfl rfl rfl) (V1.move rfl rfl rfl lt0 ?_)
       refine VO.step (.some rfl rfl rfl) (V1.move rfl rfl rfl lt0 ?_)
       refine VO.step (.some rfl rfl rfl) (V1.move rfl rfl rfl lt0 ?_)
       refine VO.step (.some rfl rfl rfl) (V1.indexI rfl rfl esz_50 rfl rfl (hh6 hg2) lt0 ?_)
       refine VO.step (.some rfl rfl rfl) (V1.fieldPin rfl rfl fo_59_0 rfl lt0 ?_)
       refine VO.step (.some rfl rfl rfl) (V1.loadPin rfl rfl tyk_3 rfl rfl lt0 ?_)
       refine VO.step (.some rfl rfl rfl) (V1.callL (rn + 1) [b2] [.vl (rn + 1) 1 (List.map encInt out_0), .int .i64 ((copies.getD (Int.toNat i) default).Record)] rfl rfl rfl cok_47 rfl ⟨_, _, rfl, Lend.srMap 0 rfl (fun _ => rfl) (.head _), ⟨_, _, rfl, .same _, rfl⟩⟩ (bwCons (k := 0) rfl bwNil) (ok_spec_l1Has (cond_t hg2 hh7)) rfl (⟨(by first | omega | (dsimp only; omega)), by rintro _ _ ⟨rfl, rfl⟩; exact ⟨rfl, by simp⟩⟩) lt0 ?_)
       rintro _ _ ⟨rfl, rfl⟩
       refine VO.step (.some rfl rfl rfl) (V1.not rfl rfl rfl lt0 ?_)
       exact VO.nil ⟨rfl, rfl, rfl, rfl, .inr ⟨rfl, .inr ⟨rfl, .inr ⟨rfl, .inr ⟨rfl, .inr ⟨rfl, .inr ⟨rfl, .inr ⟨rfl, .inr ⟨rfl, .inr ⟨rfl, .inl rfl⟩⟩⟩⟩⟩⟩⟩⟩⟩⟩
      refine VO.nil ?_
      refine V.cond rfl (fun hc4 => ?_) (fun hc4 => ?_)
      ·
       replace hm2 := cond_t hc4 hm2
       replace hm2 := asrt_some hm2; rcases hm2 with ⟨hh8, hm2⟩
       replace hm2 := asrt_some hm2; rcases hm2 with ⟨hh9, hm2⟩
       refine V.region ?_
       refine VO.cons rfl (V1.move rfl rfl rfl lt0 ?_)
       refine VO.cons rfl (V1.move rfl rfl rfl lt0 ?_)
       refine VO.cons rfl (V1.move rfl rfl rfl lt0 ?_)
       refine VO.cons rfl (V1.indexI rfl rfl esz_50 rfl rfl hh8 lt0 ?_)
       refine VO.cons rfl (V1.fieldPin rfl rfl fo_59_0 rfl lt0 ?_)
       refine VO.cons rfl (V1.loadPin rfl rfl tyk_3 rfl rfl lt0 ?_)
       refine VO.cons rfl (V1.buildSliceT (f := encInt) ([(copies.getD (Int.toNat i) default).Record] : List Int) rfl rfl esz_31 zk_3 rfl rfl rfl rfl rfl rfl rfl lt0 ?_)
       intro b4
       refine VO.cons rfl (V1.appendMap (k := 1) (f := encInt) (l := out_0) (m := ([(copies.getD (Int.toNat i) default).Record] : List Int)) rfl rfl rfl rfl rfl esz_31 eby_31 zk_3 rfl rfl rfl (SrcOf.srMap (k := 0) rfl isl_31) hh9 lt0 ?_)
       intro b5
       refine VO.cons rfl (V1.assign rfl rfl rfl lt0 ?_)
       refine VO.nil ?_
       exact ⟨((out_0 ++ ([(copies.getD (Int.toNat i) default).Record] : List Int)), b5), Option.some.inj hm2, Keeps.mk (ks := [0]) rfl ⟨rfl, rfl, rfl, rfl, rfl, trivial⟩ (⟨_, _, rfl, rfl, rfl⟩) rfl⟩
      ·
       replace hm2 := cond_f hc4 hm2
       refine V.skip ?_
       exact ⟨(out_0, b2), Option.some.inj hm2, Keeps.mk (ks := [0]) rfl ⟨rfl, rfl, rfl, rfl, rfl, trivial⟩ (⟨_, _, rfl, rfl, rfl⟩) rfl⟩
    ·
     rintro ⟨out_1, b3⟩ rfl
     try dsimp only at hm1
     refine V.region ?_
     refine VO.cons rfl (V1.move rfl rfl rfl lt0 ?_)
     refine VO.cons rfl (V1.int rfl rfl rfl rfl rfl lt0 ?_)
     refine VO.cons rfl (V1.assign rfl rfl rfl lt0 ?_)
     refine VO.nil ?_
     exact ⟨(m0, (out_1, (IntKind.i64.wrap (i + (1 : Int)))), b3), hl1 _ (Option.some.inj hm1).symm, Nat.lt_succ_self _, Keeps.mk (ks := [0]) rfl ⟨rfl, rfl, rfl, rfl, rfl, trivial⟩ (⟨_, _, rfl, rfl, rfl⟩) rfl⟩
   ·
    replace hm1 := cond_f hc1 hm1
    refine V.exit ?_
    obtain rfl := hr1 _ (Option.some.inj hm1).symm
    exact ⟨(out_0, b2), rfl, Keeps.mk (ks := [0]) rfl ⟨rfl, trivial⟩ (⟨_, _, rfl, rfl, rfl⟩) rfl⟩
  ·
   rintro ⟨out_, b1⟩ rfl
   try dsimp only at hm0
   refine V.seq ?_
   refine V.region ?_
   refine VO.cons rfl (V1.move rfl rfl rfl lt0 ?_)
   refine VO.cons rfl (V1.assign rfl rfl rfl lt0 ?_)
   refine VO.cons rfl (V1.assign rfl rfl rfl lt0 ?_)
   refine VO.nil ?_
   refine V.keep 77 [6, 7] [0] (E0 := [(6, .sref b1 1 0 (List.length out_)), (7, .bool true)]) (H0 := [(b1, ⟨1, List.map encInt out_⟩)]) rfl (⟨_, _, rfl, rfl, ⟨_, _, rfl, rfl, rfl⟩⟩) (⟨_, _, rfl, rfl, rfl⟩) rfl ?_
   refine V.ret ?_
   obtain rfl := Option.some.inj hm0
   exact ⟨_, _, ⟨_, _, rfl, rfl, ⟨_, _, rfl, rfl, rfl⟩⟩, List.Sublist.refl _, b1, rfl, rfl⟩

theorem ok_laws_rInts {ρ0 ρ1 rn : Nat} {a : List Int} {b_ : List Int} {r : Bool} (h : M.laws_rInts a b_ = some r) : Does Tryd.prog 12 [.vl ρ0 1 (List.map encInt a), .vl ρ1 1 (List.map encInt b_)] [] rn (fun x H => x = .bool r ∧ H = []) := by
 have hm0 := h; clear h; unfold M.laws_rInts at hm0
 try dsimp only at hm0
 refine Does.intro (N := 26) Tryd.func12 rfl rfl rfl rfl ?_
 intro w0 S0
 refine V.seq ?_
 refine V.region ?_
 refine VO.cons rfl (V1.assign rfl rfl rfl lt0 ?_)
 refine VO.nil ?_
 refine V.seq ?_
 refine V.seq ?_
 refine V.region ?_
 refine VO.cons rfl (V1.move rfl rfl rfl lt0 ?_)
 refine VO.cons rfl (V1.lenMap rfl rfl rfl rfl rfl rfl isl_31 lt0 ?_)
 refine VO.cons rfl (V1.move rfl rfl rfl lt0 ?_)
 refine VO.cons rfl (V1.lenMap rfl rfl rfl rfl rfl rfl isl_31 lt0 ?_)
 refine VO.cons rfl (V1.int rfl rfl rfl rfl rfl lt0 ?_)
 refine VO.nil ?_
 refine V.keep 26 [0, 1, 10] [] (E0 := [(0, .vl ρ0 1 (List.map encInt a)), (1, .vl ρ1 1 (List.map encInt b_)), (10, .bool ((a.length : Int) != (b_.length : Int)))]) (H0 := []) rfl (⟨_, _, rfl, rfl, ⟨_, _, rfl, rfl, ⟨_, _, rfl, rfl, rfl⟩⟩⟩) (rfl) rfl ?_
 refine V.cond rfl (fun hc0 => ?_) (fun hc0 => ?_)
 ·
  replace hm0 := cond_t hc0 hm0
  refine V.seq ?_
  refine V.region ?_
  refine VO.cons rfl (V1.assign rfl rfl rfl lt0 ?_)
  refine VO.nil ?_
  refine V.ret ?_
  obtain rfl := Option.some.inj hm0
  exact ⟨_, [], ⟨_, _, rfl, rfl, rfl⟩, List.nil_sublist _, rfl, rfl⟩
 ·
  replace hm0 := cond_f hc0 hm0
  refine V.skip ?_
  refine V.seq ?_
  refine V.seq ?_
  refine V.region ?_
  refine VO.cons rfl (V1.assign rfl rfl rfl lt0 ?_)
  refine VO.nil ?_
  replace hm0 := bindO hm0; rcases hm0 with ⟨e0, he1, hm0⟩
  refine V.cutT (D := (Unit) × (Unit)) (fun ⟨_, _⟩ => ⟨26, [], []⟩) (fun ⟨_, _⟩ => (.inl () = e0)) ?_ ?_
  ·
   refine V.block ?_
   refine V.keep 26 [5, 0, 1] [] (E0 := [(5, .int .i64 (0 : Int)), (0, .vl ρ0 1 (List.map encInt a)), (1, .vl ρ1 1 (List.map encInt b_))]) (H0 := []) rfl (⟨_, _, rfl, rfl, ⟨_, _, rfl, rfl, ⟨_, _, rfl, rfl, rfl⟩⟩⟩) (rfl) rfl ?_
   refine V.loopE (D := Nat × (Int) × (Unit)) (fun ⟨n0, i, _⟩ => [(5, .int .i64 i)]) (fun ⟨n0, i, _⟩ => []) (fun ⟨n0, i, _⟩ => loopO (M.laws_rInts_l0 a b_) n0 i = some e0) (fun ⟨n0, _, _⟩ => n0) (rounds, (0 : Int), ()) rfl he1 ?_
   rintro ⟨n0, i, _⟩ hP0
   obtain ⟨m0, y0, rfl, hm1, hl1, hr1⟩ := loop_head hP0
   unfold M.laws_rInts_l0 at hm1; dsimp only at hm1
   show V _ _ _ ⟨26, [(5, .int .i64 i), (0, .vl ρ0 1 (List.map encInt a)), (1, .vl ρ1 1 (List.map encInt b_))], []⟩
   refine V.seq ?_
   refine V.seq ?_
   refine V.region ?_
   refine VO.cons rfl (V1.move rfl rfl rfl lt0 ?_)
   refine VO.cons rfl (V1.move rfl rfl rfl lt0 ?_)
   refine VO.cons rfl (V1.lenMap rfl rfl rfl rfl rfl rfl isl_31 lt0 ?_)
   refine VO.cons rfl (V1.int rfl rfl rfl rfl rfl lt0 ?_)
   refine VO.nil ?_
   refine V.cond rfl (fun hc1 => ?_) (fun hc1 => ?_)
   ·
    replace hm1 := cond_t hc1 hm1
    refine V.skip ?_
    refine V.keep 26 [0, 1, 5] [] (E0 := [(0, .vl ρ0 1 (List.map encInt a)), (1, .vl ρ1 1 (List.map encInt b_)), (5, .int .i64 i)]) (H0 := []) rfl (⟨_, _, rfl, rfl, ⟨_, _, rfl, rfl, ⟨_, _, rfl, rfl, rfl⟩⟩⟩) (rfl) rfl ?_
    refine V.seq ?_
    refine V.block ?_
    refine V.seq ?_
    replace hm1 := asrt_some hm1; rcases hm1 with ⟨hh0, hm1⟩
    replace hm1 := asrt_some hm1; rcases hm1 with ⟨hh1, hm1⟩
    refine V.regionM 26 8 [⟨[(0, none)], [], none⟩, ⟨[(5, none)], [], none⟩, ⟨[(17, some 1), (18, some 0)], [], none⟩, ⟨[(19, some 0)], [], none⟩, ⟨[(1, none)], [], none⟩, ⟨[(5, none)], [], none⟩, ⟨[(21, some 1), (22, some 0)], [], none⟩, ⟨[(23, some 0)], [], none⟩] [(0, none), (1, none), (5, none), (20, some 4), (24, some 0)] (⟨_, rfl, ⟨_, rfl, ⟨_, rfl, ⟨_, rfl, ⟨_, rfl, ⟨_, rfl, ⟨_, rfl, ⟨_, rfl, ⟨rfl, rfl⟩⟩⟩⟩⟩⟩⟩⟩⟩) mixed_orders rfl (by decide +kernel) (fun hck6 => ?_)
    refine VP.step (p := ?pv65) rfl rfl rfl (⟨_, _, rfl, rfl, rfl⟩) ?hv65 ?rest65 hck6
    case hv65 =>
     intro E1
     refine (V1.move rfl rfl rfl lt0 ?_)
     exact rfl
    refine VP.step (p := ?pv66) rfl rfl rfl (⟨_, _, rfl, rfl, rfl⟩) ?hv66 ?rest66 hck6
    case hv66 =>
     intro E1
     refine (V1.move rfl rfl rfl lt0 ?_)
     exact rfl
    refine VP.step (p := ?pv67) rfl rfl rfl (⟨_, _, rfl, rfl, ⟨_, _, rfl, rfl, rfl⟩⟩) ?hv67 ?rest67 hck6
    case hv67 =>
     intro E1
     refine (V1.indexI rfl rfl esz_31 rfl rfl hh0 lt0 ?_)
     exact rfl
    refine VP.step (p := ?pv68) rfl rfl rfl (⟨_, _, rfl, rfl, rfl⟩) ?hv68 ?rest68 hck6
    case hv68 =>
     intro E1
     refine (V1.loadPin rfl rfl tyk_3 rfl rfl lt0 ?_)
     exact rfl
    refine VP.step (p := ?pv69) rfl rfl rfl (⟨_, _, rfl, rfl, rfl⟩) ?hv69 ?rest69 hck6
    case hv69 =>
     intro E1
     refine (V1.move rfl rfl rfl lt0 ?_)
     exact rfl
    refine VP.step (p := ?pv70) rfl rfl rfl (⟨_, _, rfl, rfl, rfl⟩) ?hv70 ?rest70 hck6
    case hv70 =>
     intro E1
     refine (V1.move rfl rfl rfl lt0 ?_)
     exact rfl
    refine VP.step (p := ?pv71) rfl rfl rfl (⟨_, _, rfl, rfl, ⟨_, _, rfl, rfl, rfl⟩⟩) ?hv71 ?rest71 hck6
    case hv71 =>
     intro E1
     refine (V1.indexI rfl rfl esz_31 rfl rfl hh1 lt0 ?_)
     exact rfl
    refine VP.step (p := ?pv72) rfl rfl rfl (⟨_, _, rfl, rfl, rfl⟩) ?hv72 ?rest72 hck6
    case hv72 =>
     intro E1
     refine (V1.loadPin rfl rfl tyk_3 rfl rfl lt0 ?_)
     exact rfl
    refine VP.fin rfl (⟨_, _, rfl, rfl, ⟨_, _, rfl, rfl, ⟨_, _, rfl, rfl, ⟨_, _, rfl, rfl, ⟨_, _, rfl, rfl, rfl⟩⟩⟩⟩⟩) ?_
    refine VO.cons rfl (V1.int rfl rfl rfl rfl rfl lt0 ?_)
    refine VO.nil ?_
    refine V.cond rfl (fun hc2 => ?_) (fun hc2 => ?_)
    ·
     replace hm1 := cond_t hc2 hm1
     refine V.seq ?_
     refine V.region ?_
     refine VO.cons rfl (V1.assign rfl rfl rfl lt0 ?_)
     refine VO.nil ?_
     refine V.ret ?_
     obtain rfl := hr1 _ (Option.some.inj hm1).symm
     change some _ = some _ at hm0
     obtain rfl := Option.some.inj hm0
     exact ⟨_, [], ⟨_, _, rfl, rfl, rfl⟩, List.nil_sublist _, rfl, rfl⟩
    ·
     replace hm1 := cond_f hc2 hm1
     refine V.skip ?_
     refine V.region ?_
     refine VO.cons rfl (V1.move rfl rfl rfl lt0 ?_)
     refine VO.cons rfl (V1.int rfl rfl rfl rfl rfl lt0 ?_)
     refine VO.cons rfl (V1.assign rfl rfl rfl lt0 ?_)
     refine VO.nil ?_
     exact ⟨(m0, (IntKind.i64.wrap (i + (1 : Int))), ()), hl1 _ (Option.some.inj hm1).symm, Nat.lt_succ_self _, Keeps.mk (ks := []) rfl ⟨rfl, rfl, rfl, trivial⟩ (rfl) rfl⟩
   ·
    replace hm1 := cond_f hc1 hm1
    refine V.exit ?_
    obtain rfl := hr1 _ (Option.some.inj hm1).symm
    exact ⟨((), ()), rfl, Keeps.mk (ks := []) rfl trivial (rfl) rfl⟩
  ·
   rintro ⟨_, _⟩ rfl
   try dsimp only at hm0
   refine V.seq ?_
   refine V.region ?_
   refine VO.cons rfl (V1.assign rfl rfl rfl lt0 ?_)
   refine VO.nil ?_
   refine V.ret ?_
   obtain rfl := Option.some.inj hm0
   exact ⟨_, [], ⟨_, _, rfl, rfl, rfl⟩, List.nil_sublist _, rfl, rfl⟩

theorem ok_laws_rHas {ρ0 rn : Nat} {list : List Int} {x : Int} {r : Bool} (h : M.laws_rHas list x = some r) : Does Tryd.prog 14 [.vl ρ0 1 (List.map encInt list), .int .i64 x] [] rn (fun x H => x = .bool r ∧ H = []) := by
 have hm0 := h; clear h; unfold M.laws_rHas at hm0
 try dsimp only at hm0
 refine Does.intro (N := 18) Tryd.func14 rfl rfl rfl rfl ?_
 intro w0 S0
 refine V.seq ?_
 refine V.region ?_
 refine VO.cons rfl (V1.assign rfl rfl rfl lt0 ?_)
 refine VO.nil ?_
 refine V.seq ?_
 refine V.seq ?_
 refine V.region ?_
 refine VO.cons rfl (V1.assign rfl rfl rfl lt0 ?_)
 refine VO.nil ?_
 replace hm0 := bindO hm0; rcases hm0 with ⟨e0, he1, hm0⟩
 refine V.cutT (D := (Unit) × (Unit)) (fun ⟨_, _⟩ => ⟨18, [], []⟩) (fun ⟨_, _⟩ => (.inl () = e0)) ?_ ?_
 ·
  refine V.block ?_
  refine V.keep 18 [5, 0, 1] [] (E0 := [(5, .int .i64 (0 : Int)), (0, .vl ρ0 1 (List.map encInt list)), (1, .int .i64 x)]) (H0 := []) rfl (⟨_, _, rfl, rfl, ⟨_, _, rfl, rfl, ⟨_, _, rfl, rfl, rfl⟩⟩⟩) (rfl) rfl ?_
  refine V.loopE (D := Nat × (Int) × (Unit)) (fun ⟨n0, i, _⟩ => [(5, .int .i64 i)]) (fun ⟨n0, i, _⟩ => []) (fun ⟨n0, i, _⟩ => loopO (M.laws_rHas_l0 list x) n0 i = some e0) (fun ⟨n0, _, _⟩ => n0) (rounds, (0 : Int), ()) rfl he1 ?_
  rintro ⟨n0, i, _⟩ hP0
  obtain ⟨m0, y0, rfl, hm1, hl1, hr1⟩ := loop_head hP0
  unfold M.laws_rHas_l0 at hm1; dsimp only at hm1
  show V _ _ _ ⟨18, [(5, .int .i64 i), (0, .vl ρ0 1 (List.map encInt list)), (1, .int .i64 x)], []⟩
  refine V.seq ?_
  refine V.seq ?_
  refine V.region ?_
  refine VO.cons rfl (V1.move rfl rfl rfl lt0 ?_)
  refine VO.cons rfl (V1.move rfl rfl rfl lt0 ?_)
  refine VO.cons rfl (V1.lenMap rfl rfl rfl rfl rfl rfl isl_31 lt0 ?_)
  refine VO.cons rfl (V1.int rfl rfl rfl rfl rfl lt0 ?_)
  refine VO.nil ?_
  refine V.cond rfl (fun hc0 => ?_) (fun hc0 => ?_)
  ·
   replace hm1 := cond_t hc0 hm1
   refine V.skip ?_
   refine V.keep 18 [0, 1, 5] [] (E0 := [(0, .vl ρ0 1 (List.map encInt list)), (1, .int .i64 x), (5, .int .i64 i)]) (H0 := []) rfl (⟨_, _, rfl, rfl, ⟨_, _, rfl, rfl, ⟨_, _, rfl, rfl, rfl⟩⟩⟩) (rfl) rfl ?_
   refine V.seq ?_
   refine V.block ?_
   refine V.seq ?_
   replace hm1 := asrt_some hm1; rcases hm1 with ⟨hh0, hm1⟩
   refine V.region ?_
   refine VO.cons rfl (V1.move rfl rfl rfl lt0 ?_)
   refine VO.cons rfl (V1.move rfl rfl rfl lt0 ?_)
   refine VO.cons rfl (V1.indexI rfl rfl esz_31 rfl rfl hh0 lt0 ?_)
   refine VO.cons rfl (V1.loadPin rfl rfl tyk_3 rfl rfl lt0 ?_)
   refine VO.cons rfl (V1.move rfl rfl rfl lt0 ?_)
   refine VO.cons rfl (V1.int rfl rfl rfl rfl rfl lt0 ?_)
   refine VO.nil ?_
   refine V.keep 18 [0, 1, 5, 17] [] (E0 := [(0, .vl ρ0 1 (List.map encInt list)), (1, .int .i64 x), (5, .int .i64 i), (17, .bool ((list.getD (Int.toNat i) default) == x))]) (H0 := []) rfl (⟨_, _, rfl, rfl, ⟨_, _, rfl, rfl, ⟨_, _, rfl, rfl, ⟨_, _, rfl, rfl, rfl⟩⟩⟩⟩) (rfl) rfl ?_
   refine V.cond rfl (fun hc1 => ?_) (fun hc1 => ?_)
   ·
    replace hm1 := cond_t hc1 hm1
    refine V.seq ?_
    refine V.region ?_
    refine VO.cons rfl (V1.assign rfl rfl rfl lt0 ?_)
    refine VO.nil ?_
    refine V.ret ?_
    obtain rfl := hr1 _ (Option.some.inj hm1).symm
    change some _ = some _ at hm0
    obtain rfl := Option.some.inj hm0
    exact ⟨_, [], ⟨_, _, rfl, rfl, rfl⟩, List.nil_sublist _, rfl, rfl⟩
   ·
    replace hm1 := cond_f hc1 hm1
    refine V.skip ?_
    refine V.region ?_
    refine VO.cons rfl (V1.move rfl rfl rfl lt0 ?_)
    refine VO.cons rfl (V1.int rfl rfl rfl rfl rfl lt0 ?_)
    refine VO.cons rfl (V1.assign rfl rfl rfl lt0 ?_)
    refine VO.nil ?_
    exact ⟨(m0, (IntKind.i64.wrap (i + (1 : Int))), ()), hl1 _ (Option.some.inj hm1).symm, Nat.lt_succ_self _, Keeps.mk (ks := []) rfl ⟨rfl, rfl, rfl, trivial⟩ (rfl) rfl⟩
  ·
   replace hm1 := cond_f hc0 hm1
   refine V.exit ?_
   obtain rfl := hr1 _ (Option.some.inj hm1).symm
   exact ⟨((), ()), rfl, Keeps.mk (ks := []) rfl trivial (rfl) rfl⟩
 ·
  rintro ⟨_, _⟩ rfl
  try dsimp only at hm0
  refine V.seq ?_
  refine V.region ?_
  refine VO.cons rfl (V1.assign rfl rfl rfl lt0 ?_)
  refine VO.nil ?_
  refine V.ret ?_
  obtain rfl := Option.some.inj hm0
  exact ⟨_, [], ⟨_, _, rfl, rfl, rfl⟩, List.nil_sublist _, rfl, rfl⟩

theorem ok_spec_DrawAreCopies {ρ0 rn : Nat} {code : List Int} {r : List Format × List Copy} (h : M.spec_DrawAreCopies code = some r) : Does Tryd.prog 71 [.vl ρ0 1 (List.map encU8 code)] [] rn (fun x H => ∃ (ob0_ : Nat) (ob1_ : Nat), x = .tup [PV.sref ob0_ 4 0 (List.length r.1), PV.sref ob1_ 4 0 (List.length r.2)] ∧ H = [(ob0_, ⟨4, List.map (encFormat rn) r.1⟩)] ++ [(ob1_, ⟨4, List.map encCopy r.2⟩)]) := by
 have hm0 := h; clear h; unfold M.spec_DrawAreCopies at hm0
 try dsimp only at hm0
 refine Does.intro (N := 15) Tryd.func71 rfl rfl rfl rfl ?_
 intro w0 S0
 refine V.seq ?_
 refine V.region ?_
 refine VO.cons rfl (V1.assign rfl rfl rfl lt0 ?_)
 refine VO.cons rfl (V1.assign rfl rfl rfl lt0 ?_)
 refine VO.nil ?_
 refine V.seq ?_
 refine V.region ?_
 refine VO.cons rfl (V1.move rfl rfl rfl lt0 ?_)
 refine VO.cons rfl (V1.build rfl rfl zk_71 pl_71 rfl rfl lt0 ?_)
 refine VO.cons rfl (V1.boxN (n := 3) rfl rfl rfl rfl rfl lt0 ?_)
 intro b0
 refine VO.cons rfl (V1.assign rfl rfl rfl lt0 ?_)
 refine VO.nil ?_
 refine V.keep 15 [4] [0] (E0 := [(4, .ref b0 3 0 0)]) (H0 := [(b0, ⟨3, [.agg [.vl ρ0 1 (List.map encU8 code), .int .i64 (0 : Int), .int .u64 (0 : Int)]]⟩)]) rfl (⟨_, _, rfl, rfl, rfl⟩) (⟨_, _, rfl, rfl, rfl⟩) rfl ?_
 refine V.seq ?_
 replace hm0 := bindO hm0; rcases hm0 with ⟨y0, hh0, hm0⟩
 refine V.region ?_
 refine VO.cons rfl (V1.move rfl rfl rfl lt0 ?_)
 refine VO.cons rfl (V1.callM 0 (rn + ρ0 + 1) [] [.ref b0 3 0 0] (p := (b0, ⟨3, [.agg [.vl ρ0 1 (List.map encU8 code), .int .i64 (0 : Int), .int .u64 (0 : Int)]]⟩)) rfl rfl rfl cok_56 rfl rfl ⟨_, _, rfl, .same _, rfl⟩ bwNil (ok_spec_l1Cur_formats hh0) rfl (.inl rfl) lt0 ?_)
 rintro _ _ ⟨b1, rfl, rfl⟩
 refine VO.cons rfl (V1.assign rfl rfl rfl lt0 ?_)
 refine VO.nil ?_
 refine V.seq ?_
 replace hm0 := bindO hm0; rcases hm0 with ⟨y1, hh1, hm0⟩
 refine V.region ?_
 refine VO.cons rfl (V1.move rfl rfl rfl lt0 ?_)
 refine VO.cons rfl (V1.move rfl rfl rfl lt0 ?_)
 refine VO.cons rfl (V1.move rfl rfl rfl lt0 ?_)
 refine VO.cons rfl (V1.callM 1 (rn + ρ0 + 1) [b1] [.ref b0 3 0 0, .vl (rn + ρ0 + 1) 4 (List.map (encFormat rn) y0.1)] (p := (b0, ⟨3, [encCur ρ0 y0.2]⟩)) rfl rfl rfl cok_64 rfl rfl ⟨_, _, rfl, .same _, ⟨_, _, rfl, Lend.srMap 0 rfl (fun _ => rfl) (.head _), rfl⟩⟩ (bwCons (k := 0) rfl bwNil) (ok_spec_l1Cur_copies7 hh1) rfl (.inr ⟨(by first | omega | (dsimp only; omega)), by rintro _ _ ⟨b2, rfl, rfl⟩; exact ⟨by simp [PV.no, PV.noL, optS_no, noL_iff, nbeq] <;> omega, by intro b ob h; first | exact optH_no (noL_map (fun _ => by simp [PV.no, PV.noL, noL_iff, nbeq]) _) b ob h | (simp only [List.append_assoc, List.mem_append, List.mem_cons, List.mem_singleton, List.not_mem_nil, or_false, Prod.mk.injEq] at h; rcases h with ⟨rfl, rfl⟩ | ⟨rfl, rfl⟩ <;> first | exact noL_map (fun _ => by simp [PV.no, PV.noL, noL_iff, nbeq]) _ | (simp [PV.no, PV.noL, optS_no, noL_iff, nbeq] <;> omega)) | (simp at h; obtain ⟨rfl, rfl⟩ := h; exact noL_map (fun _ => by simp [PV.no, PV.noL, noL_iff, nbeq]) _) | (simp at h; obtain ⟨rfl, rfl⟩ := h; simp [PV.no, PV.noL, optS_no, noL_iff, nbeq] <;> omega)⟩⟩) lt0 ?_)
 rintro _ _ ⟨b2, rfl, rfl⟩
 refine VO.cons rfl (V1.assign rfl rfl rfl lt0 ?_)
 refine VO.cons rfl (V1.assign rfl rfl rfl lt0 ?_)
 refine VO.nil ?_
 refine V.keep 15 [2, 3] [2, 0] (E0 := [(2, .sref b1 4 0 (List.length y0.1)), (3, .sref b2 4 0 (List.length y1.1))]) (H0 := [(b1, ⟨4, List.map (encFormat rn) y0.1⟩), (b2, ⟨4, List.map encCopy y1.1⟩)]) rfl (⟨_, _, rfl, rfl, ⟨_, _, rfl, rfl, rfl⟩⟩) (⟨_, _, rfl, rfl, ⟨_, _, rfl, rfl, rfl⟩⟩) rfl ?_
 refine V.ret ?_
 obtain rfl := Option.some.inj hm0
 exact ⟨_, _, ⟨_, _, rfl, rfl, ⟨_, _, rfl, rfl, rfl⟩⟩, List.Sublist.refl _, b1, b2, rfl, rfl⟩

theorem ok_spec_DrawSizeByFormat {ρ0 rn : Nat} {code : List Int} {r : List Format × List Copy} (h : M.spec_DrawSizeByFormat code = some r) : Does Tryd.prog 29 [.vl ρ0 1 (List.map encU8 code)] [] rn (fun x H => ∃ (ob0_ : Nat) (ob1_ : Nat), x = .tup [PV.sref ob0_ 4 0 (List.length r.1), PV.sref ob1_ 4 0 (List.length r.2)] ∧ H = [(ob0_, ⟨4, List.map (encFormat rn) r.1⟩)] ++ [(ob1_, ⟨4, List.map encCopy r.2⟩)]) := by
 have hm0 := h; clear h; unfold M.spec_DrawSizeByFormat at hm0
 try dsimp only at hm0
 refine Does.intro (N := 8) Tryd.func29 rfl rfl rfl rfl ?_
 intro w0 S0
 refine V.seq ?_
 refine V.region ?_
 refine VO.cons rfl (V1.assign rfl rfl rfl lt0 ?_)
 refine VO.cons rfl (V1.assign rfl rfl rfl lt0 ?_)
 refine VO.nil ?_
 refine V.seq ?_
 replace hm0 := bindO hm0; rcases hm0 with ⟨y0, hh0, hm0⟩
 refine V.region ?_
 refine VO.cons rfl (V1.move rfl rfl rfl lt0 ?_)
 refine VO.cons rfl (V1.call rfl rfl rfl cok_71 rfl (ok_spec_DrawAreCopies hh0) rfl lt0 ?_)
 rintro _ _ ⟨b0, b1, rfl, rfl⟩
 refine VO.cons rfl (V1.extract rfl rfl rfl rfl lt0 ?_)
 refine VO.cons rfl (V1.extract rfl rfl rfl rfl lt0 ?_)
 refine VO.cons rfl (V1.assign rfl rfl rfl lt0 ?_)
 refine VO.cons rfl (V1.assign rfl rfl rfl lt0 ?_)
 refine VO.nil ?_
 refine V.keep 8 [2, 3] [0, 1] (E0 := [(2, .sref b0 4 0 (List.length y0.1)), (3, .sref b1 4 0 (List.length y0.2))]) (H0 := [(b0, ⟨4, List.map (encFormat rn) y0.1⟩), (b1, ⟨4, List.map encCopy y0.2⟩)]) rfl (⟨_, _, rfl, rfl, ⟨_, _, rfl, rfl, rfl⟩⟩) (⟨_, _, rfl, rfl, ⟨_, _, rfl, rfl, rfl⟩⟩) rfl ?_
 refine V.ret ?_
 obtain rfl := Option.some.inj hm0
 exact ⟨_, _, ⟨_, _, rfl, rfl, ⟨_, _, rfl, rfl, rfl⟩⟩, List.Sublist.refl _, b0, b1, rfl, rfl⟩

theorem ok_impl_SizeByFormat {ρ0 ρ1 rn : Nat} {list : List Format} {copies : List Copy} {r : List Int × Bool} (h : M.impl_SizeByFormat list copies = some r) : Does Tryd.prog 30 [.vl ρ0 4 (List.map (encFormat ρ0) list), .vl ρ1 4 (List.map encCopy copies)] [] rn (fun x H => ∃ (ob0_ : Option Nat), (ob0_ = none → r.1 = []) ∧ x = .tup [optS 1 ob0_ (List.length r.1), .bool r.2] ∧ H = optH 1 ob0_ (List.map encInt r.1)) := by
 have hm0 := h; clear h; unfold M.impl_SizeByFormat at hm0
 try dsimp only at hm0
 refine Does.intro (N := 35) Tryd.func30 rfl rfl rfl rfl ?_
 intro w0 S0
 refine V.seq ?_
 refine V.region ?_
 refine VO.cons rfl (V1.assign rfl rfl rfl lt0 ?_)
 refine VO.cons rfl (V1.assign rfl rfl rfl lt0 ?_)
 refine VO.nil ?_
 refine V.seq ?_
 refine V.seq ?_
 replace hm0 := bindO hm0; rcases hm0 with ⟨y0, hh0, hm0⟩
 refine V.region ?_
 refine VO.cons rfl (V1.move rfl rfl rfl lt0 ?_)
 refine VO.cons rfl (V1.move rfl rfl rfl lt0 ?_)
 refine VO.cons rfl (V1.call rfl rfl rfl cok_32 rfl (ok_impl_AreCopies hh0) rfl lt0 ?_)
 rintro _ _ ⟨rfl, rfl⟩
 refine VO.cons rfl (V1.not rfl rfl rfl lt0 ?_)
 refine VO.nil ?_
 refine V.keep 35 [0, 1, 12] [] (E0 := [(0, .vl ρ0 4 (List.map (encFormat ρ0) list)), (1, .vl ρ1 4 (List.map encCopy copies)), (12, .bool (!y0))]) (H0 := []) rfl (⟨_, _, rfl, rfl, ⟨_, _, rfl, rfl, ⟨_, _, rfl, rfl, rfl⟩⟩⟩) (rfl) rfl ?_
 refine V.cond rfl (fun hc0 => ?_) (fun hc0 => ?_)
 ·
  replace hm0 := cond_t hc0 hm0
  refine V.seq ?_
  refine V.region ?_
  refine VO.cons rfl (V1.assign rfl rfl rfl lt0 ?_)
  refine VO.cons rfl (V1.assign rfl rfl rfl lt0 ?_)
  refine VO.nil ?_
  refine V.keep 35 [4, 5] [] (E0 := [(4, .nils), (5, .bool false)]) (H0 := []) rfl (⟨_, _, rfl, rfl, ⟨_, _, rfl, rfl, rfl⟩⟩) (rfl) rfl ?_
  refine V.ret ?_
  obtain rfl := Option.some.inj hm0
  exact ⟨_, _, ⟨_, _, rfl, rfl, ⟨_, _, rfl, rfl, rfl⟩⟩, List.Sublist.refl _, none, (fun _ => rfl), rfl, rfl⟩
 ·
  replace hm0 := cond_f hc0 hm0
  refine V.skip ?_
  refine V.seq ?_
  replace hm0 := asrt_some hm0; rcases hm0 with ⟨hh1, hm0⟩
  refine V.region ?_
  refine VO.cons rfl (V1.move rfl rfl rfl lt0 ?_)
  refine VO.cons rfl (V1.lenMap rfl rfl rfl rfl rfl rfl isl_44 lt0 ?_)
  refine VO.cons rfl (V1.makeMap (f := encInt) (z := (0 : Int)) rfl rfl esz_31 eby_31 zk_3 rfl rfl hh1 rfl lt0 ?_)
  intro b0
  refine VO.cons rfl (V1.assign rfl rfl rfl lt0 ?_)
  refine VO.nil ?_
  refine V.keep 35 [0, 1, 6] [0] (E0 := [(0, .vl ρ0 4 (List.map (encFormat ρ0) list)), (1, .vl ρ1 4 (List.map encCopy copies)), (6, .sref b0 1 0 (List.length (List.replicate (Int.toNat (list.length : Int)) (0 : Int))))]) (H0 := [(b0, ⟨1, List.map encInt (List.replicate (Int.toNat (list.length : Int)) (0 : Int))⟩)]) rfl (⟨_, _, rfl, rfl, ⟨_, _, rfl, rfl, ⟨_, _, rfl, rfl, rfl⟩⟩⟩) (⟨_, _, rfl, rfl, rfl⟩) rfl ?_
  refine V.seq ?_
  refine V.seq ?_
  refine V.region ?_
  refine VO.cons rfl (V1.move rfl rfl rfl lt0 ?_)
  refine VO.cons rfl (V1.lenMap rfl rfl rfl rfl rfl rfl isl_50 lt0 ?_)
  refine VO.cons rfl (V1.move rfl rfl rfl lt0 ?_)
  refine VO.nil ?_
  replace hm0 := bindO hm0; rcases hm0 with ⟨e0, he1, hm0⟩
  refine V.cutT (D := (List Int) × (Unit)) (fun ⟨sums, _⟩ => ⟨35, [(6, .sref b0 1 0 (List.length sums))], [(b0, ⟨1, List.map encInt sums⟩)]⟩) (fun ⟨sums, _⟩ => (sums = e0)) ?_ ?_
  ·
   refine V.block ?_
   refine V.keep 35 [6, 18, 0, 16, 17] [0] (E0 := [(6, .sref b0 1 0 (List.length (List.replicate (Int.toNat (list.length : Int)) (0 : Int)))), (18, .int .i64 (0 : Int)), (0, .vl ρ0 4 (List.map (encFormat ρ0) list)), (16, .vl ρ1 4 (List.map encCopy copies)), (17, .int .i64 (copies.length : Int))]) (H0 := [(b0, ⟨1, List.map encInt (List.replicate (Int.toNat (list.length : Int)) (0 : Int))⟩)]) rfl (⟨_, _, rfl, rfl, ⟨_, _, rfl, rfl, ⟨_, _, rfl, rfl, ⟨_, _, rfl, rfl, ⟨_, _, rfl, rfl, rfl⟩⟩⟩⟩⟩) (⟨_, _, rfl, rfl, rfl⟩) rfl ?_
   refine V.loopE (D := Nat × (List Int × Int) × (Unit)) (fun ⟨n0, ⟨sums0, v⟩, _⟩ => [(6, .sref b0 1 0 (List.length sums0)), (18, .int .i64 v)]) (fun ⟨n0, ⟨sums0, v⟩, _⟩ => [(b0, ⟨1, List.map encInt sums0⟩)]) (fun ⟨n0, ⟨sums0, v⟩, _⟩ => loopO (M.impl_SizeByFormat_l0 list copies) n0 (sums0, v) = some e0) (fun ⟨n0, _, _⟩ => n0) (rounds, ((List.replicate (Int.toNat (list.length : Int)) (0 : Int)), (0 : Int)), ()) rfl he1 ?_
   rintro ⟨n0, ⟨sums0, v⟩, _⟩ hP0
   obtain ⟨m0, y1, rfl, hm1, hl1, hr1⟩ := loop_head hP0
   unfold M.impl_SizeByFormat_l0 at hm1; dsimp only at hm1
   show V _ _ _ ⟨35, [(6, .sref b0 1 0 (List.length sums0)), (18, .int .i64 v), (0, .vl ρ0 4 (List.map (encFormat ρ0) list)), (16, .vl ρ1 4 (List.map encCopy copies)), (17, .int .i64 (copies.length : Int))], [(b0, ⟨1, List.map encInt sums0⟩)]⟩
   refine V.seq ?_
   refine V.region ?_
   refine VO.cons rfl (V1.int rfl rfl rfl rfl rfl lt0 ?_)
   refine VO.nil ?_
   refine V.seq ?_
   refine V.cond rfl (fun hc1 => ?_) (fun hc1 => ?_)
   ·
    replace hm1 := cond_t hc1 hm1
    refine V.skip ?_
    refine V.seq ?_
    refine V.block ?_
    refine V.seq ?_
    replace hm1 := asrt_some hm1; rcases hm1 with ⟨hh2, hm1⟩
    refine V.region ?_
    refine VO.cons rfl (V1.indexI rfl rfl esz_50 rfl rfl hh2 lt0 ?_)
    refine VO.cons rfl (V1.loadPinAll rfl rfl tyk_59 rfl rfl lt0 ?_)
    refine VO.cons rfl (V1.alloc rfl rfl zk_59 lt0 ?_)
    intro b1
    refine VO.cons rfl (V1.storeRefAll (k := 0) rfl rfl tyk_59 rfl rfl rfl rfl rfl rfl ?_)
    refine VO.nil ?_
    replace hm1 := bindO hm1; rcases hm1 with ⟨y2, hh3, hm1⟩
    replace hm1 := asrt_some hm1; rcases hm1 with ⟨hh4, hm1⟩
    replace hm1 := asrt_some hm1; rcases hm1 with ⟨hh5, hm1⟩
    refine V.regionM 35 9 [⟨[(6, none)], [], none⟩, ⟨[(0, none)], [], none⟩, ⟨[(8, none)], [], none⟩, ⟨[(24, some 0)], [], none⟩, ⟨[(23, some 2), (25, some 0)], [], none⟩, ⟨[(22, some 4), (26, some 0)], [], none⟩, ⟨[(27, some 0)], [], none⟩, ⟨[(8, none)], [], none⟩, ⟨[(29, some 0)], [], none⟩] [(0, none), (6, none), (16, none), (17, none), (18, none), (22, some 8), (26, some 4), (28, some 2), (30, some 0)] (⟨_, rfl, ⟨_, rfl, ⟨_, rfl, ⟨_, rfl, ⟨_, rfl, ⟨_, rfl, ⟨_, rfl, ⟨_, rfl, ⟨_, rfl, ⟨rfl, rfl⟩⟩⟩⟩⟩⟩⟩⟩⟩⟩) mixed_orders rfl (by decide +kernel) (fun hck7 => ?_)
    refine VP.step (p := ?pv100) rfl rfl rfl (⟨_, _, rfl, rfl, rfl⟩) ?hv100 ?rest100 hck7
    case hv100 =>
     intro E1
     refine (V1.move rfl rfl rfl lt0 ?_)
     exact rfl
    refine VP.step (p := ?pv101) rfl rfl rfl (⟨_, _, rfl, rfl, rfl⟩) ?hv101 ?rest101 hck7
    case hv101 =>
     intro E1
     refine (V1.move rfl rfl rfl lt0 ?_)
     exact rfl
    refine VP.step (p := ?pv102) rfl rfl rfl (⟨_, _, rfl, rfl, rfl⟩) ?hv102 ?rest102 hck7
    case hv102 =>
     intro E1
     refine (V1.fieldRef rfl rfl fo_59_1 rfl lt0 ?_)
     exact rfl
    refine VP.step (p := ?pv103) rfl rfl rfl (⟨_, _, rfl, rfl, rfl⟩) ?hv103 ?rest103 hck7
    case hv103 =>
     intro E1
     refine (V1.loadRef (k := 0) rfl rfl tyk_3 rfl rfl rfl rfl rfl lt0 ?_)
     exact rfl
    refine VP.step (p := ?pv104) rfl rfl rfl (⟨_, _, rfl, rfl, ⟨_, _, rfl, rfl, rfl⟩⟩) ?hv104 ?rest104 hck7
    case hv104 =>
     intro E1
     refine (V1.call rfl rfl rfl cok_58 rfl (ok_impl_formatAt hh3) rfl lt0 ?_)
     rintro _ _ ⟨rfl, rfl⟩
     exact rfl
    refine VP.step (p := ?pv105) rfl rfl rfl (⟨_, _, rfl, rfl, ⟨_, _, rfl, rfl, rfl⟩⟩) ?hv105 ?rest105 hck7
    case hv105 =>
     intro E1
     refine (V1.indexSr rfl rfl esz_31 rfl rfl hh4 lt0 ?_)
     exact rfl
    refine VP.step (p := ?pv106) rfl rfl rfl (⟨_, _, rfl, rfl, rfl⟩) ?hv106 ?rest106 hck7
    case hv106 =>
     intro E1
     refine (V1.loadMap (k := 1) (f := encInt) rfl rfl tyk_3 rfl rfl (by simpa using natLt hh4.1 hh4.2) rfl lt0 ?_)
     exact rfl
    refine VP.step (p := ?pv107) rfl rfl rfl (⟨_, _, rfl, rfl, rfl⟩) ?hv107 ?rest107 hck7
    case hv107 =>
     intro E1
     refine (V1.fieldRef rfl rfl fo_59_2 rfl lt0 ?_)
     exact rfl
    refine VP.step (p := ?pv108) rfl rfl rfl (⟨_, _, rfl, rfl, rfl⟩) ?hv108 ?rest108 hck7
    case hv108 =>
     intro E1
     refine (V1.loadRef (k := 0) rfl rfl tyk_3 rfl rfl rfl rfl rfl lt0 ?_)
     exact rfl
    refine VP.fin rfl (⟨_, _, rfl, rfl, ⟨_, _, rfl, rfl, ⟨_, _, rfl, rfl, ⟨_, _, rfl, rfl, ⟨_, _, rfl, rfl, ⟨_, _, rfl, rfl, ⟨_, _, rfl, rfl, ⟨_, _, rfl, rfl, ⟨_, _, rfl, rfl, rfl⟩⟩⟩⟩⟩⟩⟩⟩⟩) ?_
    refine VO.cons rfl (V1.int rfl rfl rfl rfl rfl lt0 ?_)
    refine VO.cons rfl (V1.indexSr rfl rfl esz_31 rfl rfl hh5 lt0 ?_)
    refine VO.cons rfl (V1.storeMap (k := 1) (f := encInt) (x := (IntKind.i64.wrap ((sums0.getD (Int.toNat y2) default) + ((copies.getD (Int.toNat v) default).Size)))) rfl rfl tyk_3 rfl rfl (by simpa using natLt hh5.1 hh5.2) rfl rfl ?_)
    refine VO.weakenK (Keeps.say 6 (y := .sref b0 1 0 (List.length (sums0.set (Int.toNat y2) (IntKind.i64.wrap ((sums0.getD (Int.toNat y2) default) + ((copies.getD (Int.toNat v) default).Size)))))) rfl (by simp [optS])) ?_
    refine VO.nil ?_
    refine V.keep 35 [0, 6, 16, 17, 18] [1] (E0 := [(0, .vl ρ0 4 (List.map (encFormat ρ0) list)), (6, .sref b0 1 0 (List.length (sums0.set (Int.toNat y2) (IntKind.i64.wrap ((sums0.getD (Int.toNat y2) default) + ((copies.getD (Int.toNat v) default).Size)))))), (16, .vl ρ1 4 (List.map encCopy copies)), (17, .int .i64 (copies.length : Int)), (18, .int .i64 v)]) (H0 := [(b0, ⟨1, List.map encInt (sums0.set (Int.toNat y2) (IntKind.i64.wrap ((sums0.getD (Int.toNat y2) default) + ((copies.getD (Int.toNat v) default).Size))))⟩)]) rfl (⟨_, _, rfl, rfl, ⟨_, _, rfl, rfl, ⟨_, _, rfl, rfl, ⟨_, _, rfl, rfl, ⟨_, _, rfl, rfl, rfl⟩⟩⟩⟩⟩) (⟨_, _, rfl, rfl, rfl⟩) rfl ?_
    refine V.region ?_
    refine VO.cons rfl (V1.int rfl rfl rfl rfl rfl lt0 ?_)
    refine VO.cons rfl (V1.move rfl rfl rfl lt0 ?_)
    refine VO.nil ?_
    exact ⟨(m0, ((sums0.set (Int.toNat y2) (IntKind.i64.wrap ((sums0.getD (Int.toNat y2) default) + ((copies.getD (Int.toNat v) default).Size)))), (IntKind.i64.wrap (v + (1 : Int)))), ()), hl1 _ (Option.some.inj hm1).symm, Nat.lt_succ_self _, Keeps.mk (ks := [0]) rfl ⟨(someSref (by simp)), rfl, rfl, rfl, rfl, trivial⟩ (⟨_, _, rfl, rfl, rfl⟩) rfl⟩
   ·
    replace hm1 := cond_f hc1 hm1
    refine V.exit ?_
    obtain rfl := hr1 _ (Option.some.inj hm1).symm
    exact ⟨(sums0, ()), rfl, Keeps.mk (ks := [0]) rfl ⟨(someSref (by simp)), trivial⟩ (⟨_, _, rfl, rfl, rfl⟩) rfl⟩
  ·
   rintro ⟨sums, _⟩ rfl
   try dsimp only at hm0
   refine V.seq ?_
   refine V.region ?_
   refine VO.cons rfl (V1.move rfl rfl rfl lt0 ?_)
   refine VO.cons rfl (V1.assign rfl rfl rfl lt0 ?_)
   refine VO.cons rfl (V1.assign rfl rfl rfl lt0 ?_)
   refine VO.nil ?_
   refine V.keep 35 [4, 5] [0] (E0 := [(4, .sref b0 1 0 (List.length sums)), (5, .bool true)]) (H0 := [(b0, ⟨1, List.map encInt sums⟩)]) rfl (⟨_, _, rfl, rfl, ⟨_, _, rfl, rfl, rfl⟩⟩) (⟨_, _, rfl, rfl, rfl⟩) rfl ?_
   refine V.ret ?_
   obtain rfl := Option.some.inj hm0
   exact ⟨_, _, ⟨_, _, rfl, rfl, ⟨_, _, rfl, rfl, rfl⟩⟩, List.Sublist.refl _, some b0, (fun e => by cases e), rfl, rfl⟩

theorem ok_spec_SizeByFormat {ρ0 σ0 ρ1 rn : Nat} {list : List Format} {copies : List Copy} {r : List Int × Bool} (h : M.spec_SizeByFormat list copies = some r) : Does Tryd.prog 31 [.vl ρ0 4 (List.map (encFormat σ0) list), .vl ρ1 4 (List.map encCopy copies)] [] rn (fun x H => ∃ (ob0_ : Nat), x = .tup [PV.sref ob0_ 1 0 (List.length r.1), .bool r.2] ∧ H = [(ob0_, ⟨1, List.map encInt r.1⟩)]) := by
 have hm0 := h; clear h; unfold M.spec_SizeByFormat at hm0
 try dsimp only at hm0
 refine Does.intro (N := 51) Tryd.func31 rfl rfl rfl rfl ?_
 intro w0 S0
 refine V.seq ?_
 refine V.region ?_
 refine VO.cons rfl (V1.assign rfl rfl rfl lt0 ?_)
 refine VO.cons rfl (V1.assign rfl rfl rfl lt0 ?_)
 refine VO.nil ?_
 refine V.seq ?_
 refine V.region ?_
 refine VO.cons rfl (V1.buildSliceT (f := encInt) ([] : List Int) rfl rfl esz_31 zk_3 rfl rfl rfl rfl rfl rfl rfl lt0 ?_)
 intro b0
 refine VO.cons rfl (V1.assign rfl rfl rfl lt0 ?_)
 refine VO.nil ?_
 refine V.seq ?_
 refine V.seq ?_
 replace hm0 := bindO hm0; rcases hm0 with ⟨y0, hh0, hm0⟩
 refine V.region ?_
 refine VO.cons rfl (V1.move rfl rfl rfl lt0 ?_)
 refine VO.cons rfl (V1.move rfl rfl rfl lt0 ?_)
 refine VO.cons rfl (V1.call rfl rfl rfl cok_69 rfl (ok_spec_l7Copies hh0) rfl lt0 ?_)
 rintro _ _ ⟨rfl, rfl⟩
 refine VO.cons rfl (V1.not rfl rfl rfl lt0 ?_)
 refine VO.nil ?_
 refine V.keep 51 [0, 1, 6, 14] [0] (E0 := [(0, .vl ρ0 4 (List.map (encFormat σ0) list)), (1, .vl ρ1 4 (List.map encCopy copies)), (6, .sref b0 1 0 (List.length ([] : List Int))), (14, .bool (!y0))]) (H0 := [(b0, ⟨1, List.map encInt ([] : List Int)⟩)]) rfl (⟨_, _, rfl, rfl, ⟨_, _, rfl, rfl, ⟨_, _, rfl, rfl, ⟨_, _, rfl, rfl, rfl⟩⟩⟩⟩) (⟨_, _, rfl, rfl, rfl⟩) rfl ?_
 refine V.cond rfl (fun hc0 => ?_) (fun hc0 => ?_)
 ·
  replace hm0 := cond_t hc0 hm0
  refine V.seq ?_
  refine V.region ?_
  refine VO.cons rfl (V1.move rfl rfl rfl lt0 ?_)
  refine VO.cons rfl (V1.assign rfl rfl rfl lt0 ?_)
  refine VO.cons rfl (V1.assign rfl rfl rfl lt0 ?_)
  refine VO.nil ?_
  refine V.keep 51 [4, 5] [0] (E0 := [(4, .sref b0 1 0 (List.length ([] : List Int))), (5, .bool false)]) (H0 := [(b0, ⟨1, List.map encInt ([] : List Int)⟩)]) rfl (⟨_, _, rfl, rfl, ⟨_, _, rfl, rfl, rfl⟩⟩) (⟨_, _, rfl, rfl, rfl⟩) rfl ?_
  refine V.ret ?_
  obtain rfl := Option.some.inj hm0
  exact ⟨_, _, ⟨_, _, rfl, rfl, ⟨_, _, rfl, rfl, rfl⟩⟩, List.Sublist.refl _, b0, rfl, rfl⟩
 ·
  replace hm0 := cond_f hc0 hm0
  refine V.skip ?_
  refine V.seq ?_
  refine V.seq ?_
  refine V.region ?_
  refine VO.cons rfl (V1.assign rfl rfl rfl lt0 ?_)
  refine VO.nil ?_
  replace hm0 := bindO hm0; rcases hm0 with ⟨e0, he1, hm0⟩
  refine V.cutT (D := (List Int) × (Nat)) (fun ⟨out_, b1⟩ => ⟨51, [(6, .sref b1 1 0 (List.length out_))], [(b1, ⟨1, List.map encInt out_⟩)]⟩) (fun ⟨out_, b1⟩ => (out_ = e0)) ?_ ?_
  ·
   refine V.block ?_
   refine V.keep 51 [6, 7, 0, 1] [0] (E0 := [(6, .sref b0 1 0 (List.length ([] : List Int))), (7, .int .i64 (0 : Int)), (0, .vl ρ0 4 (List.map (encFormat σ0) list)), (1, .vl ρ1 4 (List.map encCopy copies))]) (H0 := [(b0, ⟨1, List.map encInt ([] : List Int)⟩)]) rfl (⟨_, _, rfl, rfl, ⟨_, _, rfl, rfl, ⟨_, _, rfl, rfl, ⟨_, _, rfl, rfl, rfl⟩⟩⟩⟩) (⟨_, _, rfl, rfl, rfl⟩) rfl ?_
   refine V.loopE (D := Nat × (List Int × Int) × (Nat)) (fun ⟨n0, ⟨out_0, i⟩, b2⟩ => [(6, .sref b2 1 0 (List.length out_0)), (7, .int .i64 i)]) (fun ⟨n0, ⟨out_0, i⟩, b2⟩ => [(b2, ⟨1, List.map encInt out_0⟩)]) (fun ⟨n0, ⟨out_0, i⟩, b2⟩ => loopO (M.spec_SizeByFormat_l0 list copies) n0 (out_0, i) = some e0) (fun ⟨n0, _, _⟩ => n0) (rounds, (([] : List Int), (0 : Int)), b0) rfl he1 ?_
   rintro ⟨n0, ⟨out_0, i⟩, b2⟩ hP0
   obtain ⟨m0, y1, rfl, hm1, hl1, hr1⟩ := loop_head hP0
   unfold M.spec_SizeByFormat_l0 at hm1; dsimp only at hm1
   show V _ _ _ ⟨51, [(6, .sref b2 1 0 (List.length out_0)), (7, .int .i64 i), (0, .vl ρ0 4 (List.map (encFormat σ0) list)), (1, .vl ρ1 4 (List.map encCopy copies))], [(b2, ⟨1, List.map encInt out_0⟩)]⟩
   refine V.seq ?_
   refine V.seq ?_
   refine V.region ?_
   refine VO.cons rfl (V1.move rfl rfl rfl lt0 ?_)
   refine VO.cons rfl (V1.move rfl rfl rfl lt0 ?_)
   refine VO.cons rfl (V1.lenMap rfl rfl rfl rfl rfl rfl isl_44 lt0 ?_)
   refine VO.cons rfl (V1.int rfl rfl rfl rfl rfl lt0 ?_)
   refine VO.nil ?_
   refine V.cond rfl (fun hc1 => ?_) (fun hc1 => ?_)
   ·
    replace hm1 := cond_t hc1 hm1
    refine V.skip ?_
    refine V.keep 51 [0, 1, 6, 7] [0] (E0 := [(0, .vl ρ0 4 (List.map (encFormat σ0) list)), (1, .vl ρ1 4 (List.map encCopy copies)), (6, .sref b2 1 0 (List.length out_0)), (7, .int .i64 i)]) (H0 := [(b2, ⟨1, List.map encInt out_0⟩)]) rfl (⟨_, _, rfl, rfl, ⟨_, _, rfl, rfl, ⟨_, _, rfl, rfl, ⟨_, _, rfl, rfl, rfl⟩⟩⟩⟩) (⟨_, _, rfl, rfl, rfl⟩) rfl ?_
    refine V.seq ?_
    refine V.block ?_
    refine V.seq ?_
    refine V.region ?_
    refine VO.cons rfl (V1.assign rfl rfl rfl lt0 ?_)
    refine VO.nil ?_
    refine V.seq ?_
    refine V.seq ?_
    refine V.region ?_
    refine VO.cons rfl (V1.assign rfl rfl rfl lt0 ?_)
    refine VO.nil ?_
    replace hm1 := bindO hm1; rcases hm1 with ⟨e1, he2, hm1⟩
    refine V.cutT (D := (Int) × (Unit)) (fun ⟨sum_, _⟩ => ⟨51, [(8, .int .i64 sum_), (0, .vl ρ0 4 (List.map (encFormat σ0) list)), (1, .vl ρ1 4 (List.map encCopy copies)), (6, .sref b2 1 0 (List.length out_0)), (7, .int .i64 i)], [(b2, ⟨1, List.map encInt out_0⟩)]⟩) (fun ⟨sum_, _⟩ => (sum_ = e1)) ?_ ?_
    ·
     refine V.block ?_
     refine V.keep 51 [8, 9, 0, 1, 6, 7] [0] (E0 := [(8, .int .i64 (0 : Int)), (9, .int .i64 (0 : Int)), (0, .vl ρ0 4 (List.map (encFormat σ0) list)), (1, .vl ρ1 4 (List.map encCopy copies)), (6, .sref b2 1 0 (List.length out_0)), (7, .int .i64 i)]) (H0 := [(b2, ⟨1, List.map encInt out_0⟩)]) rfl (⟨_, _, rfl, rfl, ⟨_, _, rfl, rfl, ⟨_, _, rfl, rfl, ⟨_, _, rfl, rfl, ⟨_, _, rfl, rfl, ⟨_, _, rfl, rfl, rfl⟩⟩⟩⟩⟩⟩) (⟨_, _, rfl, rfl, rfl⟩) rfl ?_
     refine V.loopE (D := Nat × (Int × Int) × (Unit)) (fun ⟨n1, ⟨sum_0, k⟩, _⟩ => [(8, .int .i64 sum_0), (9, .int .i64 k)]) (fun ⟨n1, ⟨sum_0, k⟩, _⟩ => []) (fun ⟨n1, ⟨sum_0, k⟩, _⟩ => loopO (M.spec_SizeByFormat_l1 list copies i) n1 (sum_0, k) = some e1) (fun ⟨n1, _, _⟩ => n1) (rounds, ((0 : Int), (0 : Int)), ()) rfl he2 ?_
     rintro ⟨n1, ⟨sum_0, k⟩, _⟩ hP1
     obtain ⟨m1, y2, rfl, hm2, hl2, hr2⟩ := loop_head hP1
     unfold M.spec_SizeByFormat_l1 at hm2; dsimp only at hm2
     show V _ _ _ ⟨51, [(8, .int .i64 sum_0), (9, .int .i64 k), (0, .vl ρ0 4 (List.map (encFormat σ0) list)), (1, .vl ρ1 4 (List.map encCopy copies)), (6, .sref b2 1 0 (List.length out_0)), (7, .int .i64 i)], [(b2, ⟨1, List.map encInt out_0⟩)]⟩
     refine V.seq ?_
     refine V.seq ?_
     refine V.region ?_
     refine VO.cons rfl (V1.move rfl rfl rfl lt0 ?_)
     refine VO.cons rfl (V1.move rfl rfl rfl lt0 ?_)
     refine VO.cons rfl (V1.lenMap rfl rfl rfl rfl rfl rfl isl_50 lt0 ?_)
     refine VO.cons rfl (V1.int rfl rfl rfl rfl rfl lt0 ?_)
     refine VO.nil ?_
     refine V.cond rfl (fun hc2 => ?_) (fun hc2 => ?_)
     ·
      replace hm2 := cond_t hc2 hm2
      refine V.skip ?_
      refine V.keep 51 [0, 1, 6, 7, 8, 9] [0] (E0 := [(0, .vl ρ0 4 (List.map (encFormat σ0) list)), (1, .vl ρ1 4 (List.map encCopy copies)), (6, .sref b2 1 0 (List.length out_0)), (7, .int .i64 i), (8, .int .i64 sum_0), (9, .int .i64 k)]) (H0 := [(b2, ⟨1, List.map encInt out_0⟩)]) rfl (⟨_, _, rfl, rfl, ⟨_, _, rfl, rfl, ⟨_, _, rfl, rfl, ⟨_, _, rfl, rfl, ⟨_, _, rfl, rfl, ⟨_, _, rfl, rfl, rfl⟩⟩⟩⟩⟩⟩) (⟨_, _, rfl, rfl, rfl⟩) rfl ?_
      refine V.seq ?_
      replace hm2 := bindO hm2; rcases hm2 with ⟨j0, hm3, hm2⟩
      refine V.cutT (D := (Int) × (Unit)) (fun ⟨sum_1, _⟩ => ⟨51, [(8, .int .i64 sum_1), (0, .vl ρ0 4 (List.map (encFormat σ0) list)), (1, .vl ρ1 4 (List.map encCopy copies)), (6, .sref b2 1 0 (List.length out_0)), (7, .int .i64 i), (9, .int .i64 k)], [(b2, ⟨1, List.map encInt out_0⟩)]⟩) (fun ⟨sum_1, _⟩ => (sum_1 = j0)) ?_ ?_
      ·
       refine V.block ?_
       refine V.seq ?_
       replace hm3 := asrt_some hm3; rcases hm3 with ⟨hh1, hm3⟩
       replace hm3 := asrt_some hm3; rcases hm3 with ⟨hh2, hm3⟩
       refine V.regionM 51 10 [⟨[(1, none)], [], none⟩, ⟨[(9, none)], [], none⟩, ⟨[(28, some 1), (29, some 0)], [], none⟩, ⟨[(30, some 0)], [], none⟩, ⟨[(31, some 0)], [], none⟩, ⟨[(0, none)], [], none⟩, ⟨[(7, none)], [], none⟩, ⟨[(33, some 1), (34, some 0)], [], none⟩, ⟨[(35, some 0)], [], none⟩, ⟨[(36, some 0)], [], none⟩] [(0, none), (1, none), (6, none), (7, none), (8, none), (9, none), (32, some 5), (37, some 0)] (⟨_, rfl, ⟨_, rfl, ⟨_, rfl, ⟨_, rfl, ⟨_, rfl, ⟨_, rfl, ⟨_, rfl, ⟨_, rfl, ⟨_, rfl, ⟨_, rfl, ⟨rfl, rfl⟩⟩⟩⟩⟩⟩⟩⟩⟩⟩⟩) mixed_orders rfl (by decide +kernel) (fun hck11 => ?_)
       refine VP.step (p := ?pv531) rfl rfl rfl (⟨_, _, rfl, rfl, rfl⟩) ?hv531 ?rest531 hck11
       case hv531 =>
        intro E1
        refine (V1.move rfl rfl rfl lt0 ?_)
        exact rfl
       refine VP.step (p := ?pv532) rfl rfl rfl (⟨_, _, rfl, rfl, rfl⟩) ?hv532 ?rest532 hck11
       case hv532 =>
        intro E1
        refine (V1.move rfl rfl rfl lt0 ?_)
        exact rfl
       refine VP.step (p := ?pv533) rfl rfl rfl (⟨_, _, rfl, rfl, ⟨_, _, rfl, rfl, rfl⟩⟩) ?hv533 ?rest533 hck11
       case hv533 =>
        intro E1
        refine (V1.indexI rfl rfl esz_50 rfl rfl hh1 lt0 ?_)
        exact rfl
       refine VP.step (p := ?pv534) rfl rfl rfl (⟨_, _, rfl, rfl, rfl⟩) ?hv534 ?rest534 hck11
       case hv534 =>
        intro E1
        refine (V1.fieldPin rfl rfl fo_59_1 rfl lt0 ?_)
        exact rfl
       refine VP.step (p := ?pv535) rfl rfl rfl (⟨_, _, rfl, rfl, rfl⟩) ?hv535 ?rest535 hck11
       case hv535 =>
        intro E1
        refine (V1.loadPin rfl rfl tyk_3 rfl rfl lt0 ?_)
        exact rfl
       refine VP.step (p := ?pv536) rfl rfl rfl (⟨_, _, rfl, rfl, rfl⟩) ?hv536 ?rest536 hck11
       case hv536 =>
        intro E1
        refine (V1.move rfl rfl rfl lt0 ?_)
        exact rfl
       refine VP.step (p := ?pv537) rfl rfl rfl (⟨_, _, rfl, rfl, rfl⟩) ?hv537 ?rest537 hck11
       case hv537 =>
        intro E1
        refine (V1.move rfl rfl rfl lt0 ?_)
        exact rfl
       refine VP.step (p := ?pv538) rfl rfl rfl (⟨_, _, rfl, rfl, ⟨_, _, rfl, rfl, rfl⟩⟩) ?hv538 ?rest538 hck11
       case hv538 =>
        intro E1
        refine (V1.indexI rfl rfl esz_44 rfl rfl hh2 lt0 ?_)
        exact rfl
       refine VP.step (p := ?pv539) rfl rfl rfl (⟨_, _, rfl, rfl, rfl⟩) ?hv539 ?rest539 hck11
       case hv539 =>
        intro E1
        refine (V1.fieldPin rfl rfl fo_87_0 rfl lt0 ?_)
        exact rfl
       refine VP.step (p := ?pv540) rfl rfl rfl (⟨_, _, rfl, rfl, rfl⟩) ?hv540 ?rest540 hck11
       case hv540 =>
        intro E1
        refine (V1.loadPin rfl rfl tyk_3 rfl rfl lt0 ?_)
        exact rfl
       refine VP.fin rfl (⟨_, _, rfl, rfl, ⟨_, _, rfl, rfl, ⟨_, _, rfl, rfl, ⟨_, _, rfl, rfl, ⟨_, _, rfl, rfl, ⟨_, _, rfl, rfl, ⟨_, _, rfl, rfl, ⟨_, _, rfl, rfl, rfl⟩⟩⟩⟩⟩⟩⟩⟩) ?_
       refine VO.cons rfl (V1.int rfl rfl rfl rfl rfl lt0 ?_)
       refine VO.nil ?_
       refine V.cond rfl (fun hc3 => ?_) (fun hc3 => ?_)
       ·
        replace hm3 := cond_t hc3 hm3
        replace hm3 := asrt_some hm3; rcases hm3 with ⟨hh3, hm3⟩
        refine V.region ?_
        refine VO.cons rfl (V1.move rfl rfl rfl lt0 ?_)
        refine VO.cons rfl (V1.move rfl rfl rfl lt0 ?_)
        refine VO.cons rfl (V1.move rfl rfl rfl lt0 ?_)
        refine VO.cons rfl (V1.indexI rfl rfl esz_50 rfl rfl hh3 lt0 ?_)
        refine VO.cons rfl (V1.fieldPin rfl rfl fo_59_2 rfl lt0 ?_)
        refine VO.cons rfl (V1.loadPin rfl rfl tyk_3 rfl rfl lt0 ?_)
        refine VO.cons rfl (V1.int rfl rfl rfl rfl rfl lt0 ?_)
        refine VO.cons rfl (V1.assign rfl rfl rfl lt0 ?_)
        refine VO.nil ?_
        exact ⟨((IntKind.i64.wrap (sum_0 + ((copies.getD (Int.toNat k) default).Size))), ()), Option.some.inj hm3, Keeps.mk (ks := [0]) rfl ⟨rfl, rfl, rfl, rfl, rfl, rfl, trivial⟩ (⟨_, _, rfl, rfl, rfl⟩) rfl⟩
       ·
        replace hm3 := cond_f hc3 hm3
        refine V.skip ?_
        exact ⟨(sum_0, ()), Option.some.inj hm3, Keeps.mk (ks := [0]) rfl ⟨rfl, rfl, rfl, rfl, rfl, rfl, trivial⟩ (⟨_, _, rfl, rfl, rfl⟩) rfl⟩
      ·
       rintro ⟨sum_1, _⟩ rfl
       try dsimp only at hm2
       refine V.region ?_
       refine VO.cons rfl (V1.move rfl rfl rfl lt0 ?_)
       refine VO.cons rfl (V1.int rfl rfl rfl rfl rfl lt0 ?_)
       refine VO.cons rfl (V1.assign rfl rfl rfl lt0 ?_)
       refine VO.nil ?_
       exact ⟨(m1, (sum_1, (IntKind.i64.wrap (k + (1 : Int)))), ()), hl2 _ (Option.some.inj hm2).symm, Nat.lt_succ_self _, Keeps.mk (ks := [0]) rfl ⟨rfl, rfl, rfl, rfl, rfl, rfl, trivial⟩ (⟨_, _, rfl, rfl, rfl⟩) rfl⟩
     ·
      replace hm2 := cond_f hc2 hm2
      refine V.exit ?_
      obtain rfl := hr2 _ (Option.some.inj hm2).symm
      exact ⟨(sum_0, ()), rfl, Keeps.mk (ks := [0]) rfl ⟨rfl, rfl, rfl, rfl, rfl, trivial⟩ (⟨_, _, rfl, rfl, rfl⟩) rfl⟩
    ·
     rintro ⟨sum_, _⟩ rfl
     try dsimp only at hm1
     replace hm1 := asrt_some hm1; rcases hm1 with ⟨hh4, hm1⟩
     refine V.region ?_
     refine VO.cons rfl (V1.move rfl rfl rfl lt0 ?_)
     refine VO.cons rfl (V1.move rfl rfl rfl lt0 ?_)
     refine VO.cons rfl (V1.buildSliceT (f := encInt) ([sum_] : List Int) rfl rfl esz_31 zk_3 rfl rfl rfl rfl rfl rfl rfl lt0 ?_)
     intro b3
     refine VO.cons rfl (V1.appendMap (k := 1) (f := encInt) (l := out_0) (m := ([sum_] : List Int)) rfl rfl rfl rfl rfl esz_31 eby_31 zk_3 rfl rfl rfl (SrcOf.srMap (k := 0) rfl isl_31) hh4 lt0 ?_)
     intro b4
     refine VO.cons rfl (V1.assign rfl rfl rfl lt0 ?_)
     refine VO.nil ?_
     refine V.keep 51 [0, 1, 6, 7] [0] (E0 := [(0, .vl ρ0 4 (List.map (encFormat σ0) list)), (1, .vl ρ1 4 (List.map encCopy copies)), (6, .sref b4 1 0 (List.length (out_0 ++ ([sum_] : List Int)))), (7, .int .i64 i)]) (H0 := [(b4, ⟨1, List.map encInt (out_0 ++ ([sum_] : List Int))⟩)]) rfl (⟨_, _, rfl, rfl, ⟨_, _, rfl, rfl, ⟨_, _, rfl, rfl, ⟨_, _, rfl, rfl, rfl⟩⟩⟩⟩) (⟨_, _, rfl, rfl, rfl⟩) rfl ?_
     refine V.region ?_
     refine VO.cons rfl (V1.move rfl rfl rfl lt0 ?_)
     refine VO.cons rfl (V1.int rfl rfl rfl rfl rfl lt0 ?_)
     refine VO.cons rfl (V1.assign rfl rfl rfl lt0 ?_)
     refine VO.nil ?_
     exact ⟨(m0, ((out_0 ++ ([sum_] : List Int)), (IntKind.i64.wrap (i + (1 : Int)))), b4), hl1 _ (Option.some.inj hm1).symm, Nat.lt_succ_self _, Keeps.mk (ks := [0]) rfl ⟨rfl, rfl, rfl, rfl, trivial⟩ (⟨_, _, rfl, rfl, rfl⟩) rfl⟩
   ·
    replace hm1 := cond_f hc1 hm1
    refine V.exit ?_
    obtain rfl := hr1 _ (Option.some.inj hm1).symm
    exact ⟨(out_0, b2), rfl, Keeps.mk (ks := [0]) rfl ⟨rfl, trivial⟩ (⟨_, _, rfl, rfl, rfl⟩) rfl⟩
  ·
   rintro ⟨out_, b1⟩ rfl
   try dsimp only at hm0
   refine V.seq ?_
   refine V.region ?_
   refine VO.cons rfl (V1.move rfl rfl rfl lt0 ?_)
   refine VO.cons rfl (V1.assign rfl rfl rfl lt0 ?_)
   refine VO.cons rfl (V1.assign rfl rfl rfl lt0 ?_)
   refine VO.nil ?_
   refine V.keep 51 [4, 5] [0] (E0 := [(4, .sref b1 1 0 (List.length out_)), (5, .bool true)]) (H0 := [(b1, ⟨1, List.map encInt out_⟩)]) rfl (⟨_, _, rfl, rfl, ⟨_, _, rfl, rfl, rfl⟩⟩) (⟨_, _, rfl, rfl, rfl⟩) rfl ?_
   refine V.ret ?_
   obtain rfl := Option.some.inj hm0
   exact ⟨_, _, ⟨_, _, rfl, rfl, ⟨_, _, rfl, rfl, rfl⟩⟩, List.Sublist.refl _, b1, rfl, rfl⟩

theorem ok_laws_rSum {ρ0 rn : Nat} {list : List Int} {r : Int} (h : M.laws_rSum list = some r) : Does Tryd.prog 33 [.vl ρ0 1 (List.map encInt list)] [] rn (fun x H => x = .int .i64 r ∧ H = []) := by
 have hm0 := h; clear h; unfold M.laws_rSum at hm0
 try dsimp only at hm0
 refine Does.intro (N := 18) Tryd.func33 rfl rfl rfl rfl ?_
 intro w0 S0
 refine V.seq ?_
 refine V.region ?_
 refine VO.cons rfl (V1.assign rfl rfl rfl lt0 ?_)
 refine VO.nil ?_
 refine V.seq ?_
 refine V.region ?_
 refine VO.cons rfl (V1.assign rfl rfl rfl lt0 ?_)
 refine VO.nil ?_
 refine V.seq ?_
 refine V.seq ?_
 refine V.region ?_
 refine VO.cons rfl (V1.assign rfl rfl rfl lt0 ?_)
 refine VO.nil ?_
 replace hm0 := bindO hm0; rcases hm0 with ⟨e0, he1, hm0⟩
 refine V.cutT (D := (Int) × (Unit)) (fun ⟨n_, _⟩ => ⟨18, [(3, .int .i64 n_)], []⟩) (fun ⟨n_, _⟩ => (n_ = e0)) ?_ ?_
 ·
  refine V.block ?_
  refine V.keep 18 [3, 4, 0] [] (E0 := [(3, .int .i64 (0 : Int)), (4, .int .i64 (0 : Int)), (0, .vl ρ0 1 (List.map encInt list))]) (H0 := []) rfl (⟨_, _, rfl, rfl, ⟨_, _, rfl, rfl, ⟨_, _, rfl, rfl, rfl⟩⟩⟩) (rfl) rfl ?_
  refine V.loopE (D := Nat × (Int × Int) × (Unit)) (fun ⟨n0, ⟨n_0, i⟩, _⟩ => [(3, .int .i64 n_0), (4, .int .i64 i)]) (fun ⟨n0, ⟨n_0, i⟩, _⟩ => []) (fun ⟨n0, ⟨n_0, i⟩, _⟩ => loopO (M.laws_rSum_l0 list) n0 (n_0, i) = some e0) (fun ⟨n0, _, _⟩ => n0) (rounds, ((0 : Int), (0 : Int)), ()) rfl he1 ?_
  rintro ⟨n0, ⟨n_0, i⟩, _⟩ hP0
  obtain ⟨m0, y0, rfl, hm1, hl1, hr1⟩ := loop_head hP0
  unfold M.laws_rSum_l0 at hm1; dsimp only at hm1
  show V _ _ _ ⟨18, [(3, .int .i64 n_0), (4, .int .i64 i), (0, .vl ρ0 1 (List.map encInt list))], []⟩
  refine V.seq ?_
  refine V.seq ?_
  refine V.region ?_
  refine VO.cons rfl (V1.move rfl rfl rfl lt0 ?_)
  refine VO.cons rfl (V1.move rfl rfl rfl lt0 ?_)
  refine VO.cons rfl (V1.lenMap rfl rfl rfl rfl rfl rfl isl_31 lt0 ?_)
  refine VO.cons rfl (V1.int rfl rfl rfl rfl rfl lt0 ?_)
  refine VO.nil ?_
  refine V.cond rfl (fun hc0 => ?_) (fun hc0 => ?_)
  ·
   replace hm1 := cond_t hc0 hm1
   refine V.skip ?_
   refine V.keep 18 [0, 3, 4] [] (E0 := [(0, .vl ρ0 1 (List.map encInt list)), (3, .int .i64 n_0), (4, .int .i64 i)]) (H0 := []) rfl (⟨_, _, rfl, rfl, ⟨_, _, rfl, rfl, ⟨_, _, rfl, rfl, rfl⟩⟩⟩) (rfl) rfl ?_
   refine V.seq ?_
   refine V.block ?_
   replace hm1 := asrt_some hm1; rcases hm1 with ⟨hh0, hm1⟩
   refine V.region ?_
   refine VO.cons rfl (V1.move rfl rfl rfl lt0 ?_)
   refine VO.cons rfl (V1.move rfl rfl rfl lt0 ?_)
   refine VO.cons rfl (V1.move rfl rfl rfl lt0 ?_)
   refine VO.cons rfl (V1.indexI rfl rfl esz_31 rfl rfl hh0 lt0 ?_)
   refine VO.cons rfl (V1.loadPin rfl rfl tyk_3 rfl rfl lt0 ?_)
   refine VO.cons rfl (V1.int rfl rfl rfl rfl rfl lt0 ?_)
   refine VO.cons rfl (V1.assign rfl rfl rfl lt0 ?_)
   refine VO.nil ?_
   refine V.keep 18 [0, 3, 4] [] (E0 := [(0, .vl ρ0 1 (List.map encInt list)), (3, .int .i64 (IntKind.i64.wrap (n_0 + (list.getD (Int.toNat i) default)))), (4, .int .i64 i)]) (H0 := []) rfl (⟨_, _, rfl, rfl, ⟨_, _, rfl, rfl, ⟨_, _, rfl, rfl, rfl⟩⟩⟩) (rfl) rfl ?_
   refine V.region ?_
   refine VO.cons rfl (V1.move rfl rfl rfl lt0 ?_)
   refine VO.cons rfl (V1.int rfl rfl rfl rfl rfl lt0 ?_)
   refine VO.cons rfl (V1.assign rfl rfl rfl lt0 ?_)
   refine VO.nil ?_
   exact ⟨(m0, ((IntKind.i64.wrap (n_0 + (list.getD (Int.toNat i) default))), (IntKind.i64.wrap (i + (1 : Int)))), ()), hl1 _ (Option.some.inj hm1).symm, Nat.lt_succ_self _, Keeps.mk (ks := []) rfl ⟨rfl, rfl, rfl, trivial⟩ (rfl) rfl⟩
  ·
   replace hm1 := cond_f hc0 hm1
   refine V.exit ?_
   obtain rfl := hr1 _ (Option.some.inj hm1).symm
   exact ⟨(n_0, ()), rfl, Keeps.mk (ks := []) rfl ⟨rfl, trivial⟩ (rfl) rfl⟩
 ·
  rintro ⟨n_, _⟩ rfl
  try dsimp only at hm0
  refine V.seq ?_
  refine V.region ?_
  refine VO.cons rfl (V1.move rfl rfl rfl lt0 ?_)
  refine VO.cons rfl (V1.assign rfl rfl rfl lt0 ?_)
  refine VO.nil ?_
  refine V.ret ?_
  obtain rfl := Option.some.inj hm0
  exact ⟨_, [], ⟨_, _, rfl, rfl, rfl⟩, List.nil_sublist _, rfl, rfl⟩

theorem ok_spec_DrawUnseen {ρ0 rn : Nat} {code : List Int} {r : List Format × List Copy × Int × Int} (h : M.spec_DrawUnseen code = some r) : Does Tryd.prog 34 [.vl ρ0 1 (List.map encU8 code)] [] rn (fun x H => ∃ (ob0_ : Nat) (ob1_ : Nat), x = .tup [PV.sref ob0_ 4 0 (List.length r.1), PV.sref ob1_ 4 0 (List.length r.2.1), .int .i64 r.2.2.1, .int .i64 r.2.2.2] ∧ H = [(ob0_, ⟨4, List.map (encFormat rn) r.1⟩)] ++ [(ob1_, ⟨4, List.map encCopy r.2.1⟩)]) := by
 have hm0 := h; clear h; unfold M.spec_DrawUnseen at hm0
 try dsimp only at hm0
 refine Does.intro (N := 35) Tryd.func34 rfl rfl rfl rfl ?_
 intro w0 S0
 refine V.seq ?_
 refine V.region ?_
 refine VO.cons rfl (V1.assign rfl rfl rfl lt0 ?_)
 refine VO.cons rfl (V1.assign rfl rfl rfl lt0 ?_)
 refine VO.cons rfl (V1.assign rfl rfl rfl lt0 ?_)
 refine VO.cons rfl (V1.assign rfl rfl rfl lt0 ?_)
 refine VO.nil ?_
 refine V.keep 35 [0] [] (E0 := [(0, .vl ρ0 1 (List.map encU8 code))]) (H0 := []) rfl (⟨_, _, rfl, rfl, rfl⟩) (rfl) rfl ?_
 refine V.seq ?_
 refine V.region ?_
 refine VO.cons rfl (V1.move rfl rfl rfl lt0 ?_)
 refine VO.cons rfl (V1.build rfl rfl zk_71 pl_71 rfl rfl lt0 ?_)
 refine VO.cons rfl (V1.boxN (n := 3) rfl rfl rfl rfl rfl lt0 ?_)
 intro b0
 refine VO.cons rfl (V1.assign rfl rfl rfl lt0 ?_)
 refine VO.nil ?_
 refine V.keep 35 [6] [0] (E0 := [(6, .ref b0 3 0 0)]) (H0 := [(b0, ⟨3, [.agg [.vl ρ0 1 (List.map encU8 code), .int .i64 (0 : Int), .int .u64 (0 : Int)]]⟩)]) rfl (⟨_, _, rfl, rfl, rfl⟩) (⟨_, _, rfl, rfl, rfl⟩) rfl ?_
 refine V.seq ?_
 replace hm0 := bindO hm0; rcases hm0 with ⟨y0, hh0, hm0⟩
 refine V.region ?_
 refine VO.cons rfl (V1.move rfl rfl rfl lt0 ?_)
 refine VO.cons rfl (V1.callM 0 (rn + ρ0 + 1) [] [.ref b0 3 0 0] (p := (b0, ⟨3, [.agg [.vl ρ0 1 (List.map encU8 code), .int .i64 (0 : Int), .int .u64 (0 : Int)]]⟩)) rfl rfl rfl cok_56 rfl rfl ⟨_, _, rfl, .same _, rfl⟩ bwNil (ok_spec_l1Cur_formats hh0) rfl (.inl rfl) lt0 ?_)
 rintro _ _ ⟨b1, rfl, rfl⟩
 refine VO.cons rfl (V1.assign rfl rfl rfl lt0 ?_)
 refine VO.nil ?_
 refine V.seq ?_
 replace hm0 := bindO hm0; rcases hm0 with ⟨y1, hh1, hm0⟩
 refine V.region ?_
 refine VO.cons rfl (V1.move rfl rfl rfl lt0 ?_)
 refine VO.cons rfl (V1.move rfl rfl rfl lt0 ?_)
 refine VO.cons rfl (V1.callM 1 (rn + ρ0 + 1) [b1] [.ref b0 3 0 0, .vl (rn + ρ0 + 1) 4 (List.map (encFormat rn) y0.1)] (p := (b0, ⟨3, [encCur ρ0 y0.2]⟩)) rfl rfl rfl cok_64 rfl rfl ⟨_, _, rfl, .same _, ⟨_, _, rfl, Lend.srMap 0 rfl (fun _ => rfl) (.head _), rfl⟩⟩ (bwCons (k := 0) rfl bwNil) (ok_spec_l1Cur_copies7 hh1) rfl (.inr ⟨(by first | omega | (dsimp only; omega)), by rintro _ _ ⟨b2, rfl, rfl⟩; exact ⟨by simp [PV.no, PV.noL, optS_no, noL_iff, nbeq] <;> omega, by intro b ob h; first | exact optH_no (noL_map (fun _ => by simp [PV.no, PV.noL, noL_iff, nbeq]) _) b ob h | (simp only [List.append_assoc, List.mem_append, List.mem_cons, List.mem_singleton, List.not_mem_nil, or_false, Prod.mk.injEq] at h; rcases h with ⟨rfl, rfl⟩ | ⟨rfl, rfl⟩ <;> first | exact noL_map (fun _ => by simp [PV.no, PV.noL, noL_iff, nbeq]) _ | (simp [PV.no, PV.noL, optS_no, noL_iff, nbeq] <;> omega)) | (simp at h; obtain ⟨rfl, rfl⟩ := h; exact noL_map (fun _ => by simp [PV.no, PV.noL, noL_iff, nbeq]) _) | (simp at h; obtain ⟨rfl, rfl⟩ := h; simp [PV.no, PV.noL, optS_no, noL_iff, nbeq] <;> omega)⟩⟩) lt0 ?_)
 rintro _ _ ⟨b2, rfl, rfl⟩
 refine VO.cons rfl (V1.assign rfl rfl rfl lt0 ?_)
 refine VO.nil ?_
 refine V.keep 35 [6, 7, 8] [0, 1, 2] (E0 := [(6, .ref b0 3 0 0), (7, .sref b1 4 0 (List.length y0.1)), (8, .sref b2 4 0 (List.length y1.1))]) (H0 := [(b2, ⟨4, List.map encCopy y1.1⟩), (b0, ⟨3, [encCur ρ0 y1.2]⟩), (b1, ⟨4, List.map (encFormat rn) y0.1⟩)]) rfl (⟨_, _, rfl, rfl, ⟨_, _, rfl, rfl, ⟨_, _, rfl, rfl, rfl⟩⟩⟩) (⟨_, _, rfl, rfl, ⟨_, _, rfl, rfl, ⟨_, _, rfl, rfl, rfl⟩⟩⟩) rfl ?_
 refine V.seq ?_
 replace hm0 := bindO hm0; rcases hm0 with ⟨y2, hh2, hm0⟩
 replace hm0 := asrt_some hm0; rcases hm0 with ⟨hh3, hm0⟩
 replace hm0 := bindO hm0; rcases hm0 with ⟨y3, hh4, hm0⟩
 replace hm0 := bindO hm0; rcases hm0 with ⟨y4, hh5, hm0⟩
 replace hm0 := asrt_some hm0; rcases hm0 with ⟨hh6, hm0⟩
 replace hm0 := bindO hm0; rcases hm0 with ⟨y5, hh7, hm0⟩
 refine V.region ?_
 refine VO.cons rfl (V1.move rfl rfl rfl lt0 ?_)
 refine VO.cons rfl (V1.move rfl rfl rfl lt0 ?_)
 refine VO.cons rfl (V1.move rfl rfl rfl lt0 ?_)
 refine VO.cons rfl (V1.buildSliceT (f := encInt) ([(101 : Int), (20000 : Int), (20000 : Int), (20000 : Int), (0 : Int), (20001 : Int)] : List Int) rfl rfl esz_31 zk_3 rfl rfl rfl rfl rfl rfl rfl lt0 ?_)
 intro b3
 refine VO.cons rfl (V1.move rfl rfl rfl lt0 ?_)
 refine VO.cons rfl (V1.callM 2 (rn + ρ0 + 1) [] [.ref b0 3 0 0, .int .i64 (24 : Int)] (p := (b0, ⟨3, [encCur ρ0 y1.2]⟩)) rfl rfl rfl cok_76 rfl rfl ⟨_, _, rfl, .same _, ⟨_, _, rfl, .same _, rfl⟩⟩ bwNil (ok_spec_l1Cur_pick hh2) rfl (.inl rfl) lt0 ?_)
 rintro _ _ ⟨rfl, rfl⟩
 refine VO.cons rfl (V1.quo rfl rfl rfl rfl (by decide) lt0 ?_)
 refine VO.cons rfl (V1.int rfl rfl rfl rfl rfl lt0 ?_)
 refine VO.weakenK (Keeps.freezeG 1 rn [(20, .vl rn 1 (List.map encInt ([(101 : Int), (20000 : Int), (20000 : Int), (20000 : Int), (0 : Int), (20001 : Int)] : List Int)))] [(b0, ⟨3, [encCur ρ0 y2.2]⟩), (b2, ⟨4, List.map encCopy y1.1⟩), (b1, ⟨4, List.map (encFormat rn) y0.1⟩)] (f := encInt) (l := ([(101 : Int), (20000 : Int), (20000 : Int), (20000 : Int), (0 : Int), (20001 : Int)] : List Int)) rfl (fun _ => rfl) ⟨⟨_, rfl, .here⟩, trivial⟩ ⟨_, _, rfl, rfl, .inl rfl, ⟨_, _, rfl, rfl, .inl rfl, ⟨_, _, rfl, rfl, .inl rfl, rfl⟩⟩⟩ rfl iNil) ?_
 refine VO.cons rfl (V1.sliceMap (a := (0 : Int)) (b := (IntKind.i64.wrap ((5 : Int) + (IntKind.i64.wrap (Int.tdiv y2.1 (23 : Int)))))) rfl rfl esz_31 rfl (Bnd.none _ _) (Bnd.some rfl (Int.le_trans hh3.1 hh3.2.1) _) hh3 lt0 ?_)
 refine VO.cons rfl (V1.callM 0 (rn + ρ0 + 1) [] [.ref b0 3 0 0, .vl rn 1 (List.map encInt (slc ([(101 : Int), (20000 : Int), (20000 : Int), (20000 : Int), (0 : Int), (20001 : Int)] : List Int) (0 : Int) (IntKind.i64.wrap ((5 : Int) + (IntKind.i64.wrap (Int.tdiv y2.1 (23 : Int)))))))] (p := (b0, ⟨3, [encCur ρ0 y2.2]⟩)) rfl rfl rfl cok_75 rfl rfl ⟨_, _, rfl, .same _, ⟨_, _, rfl, .same _, rfl⟩⟩ bwNil (ok_spec_l1Cur_among hh4) rfl (.inl rfl) lt0 ?_)
 rintro _ _ ⟨rfl, rfl⟩
 refine VO.cons rfl (V1.move rfl rfl rfl lt0 ?_)
 refine VO.cons rfl (V1.buildSliceT (f := encInt) ([(0 : Int), (10 : Int), (19900 : Int), (20000 : Int), (-1 : Int), (20001 : Int)] : List Int) rfl rfl esz_31 zk_3 rfl rfl rfl rfl rfl rfl rfl lt0 ?_)
 intro b4
 refine VO.cons rfl (V1.move rfl rfl rfl lt0 ?_)
 refine VO.cons rfl (V1.callM 1 (rn + ρ0 + 1) [] [.ref b0 3 0 0, .int .i64 (24 : Int)] (p := (b0, ⟨3, [encCur ρ0 y3.2]⟩)) rfl rfl rfl cok_76 rfl rfl ⟨_, _, rfl, .same _, ⟨_, _, rfl, .same _, rfl⟩⟩ bwNil (ok_spec_l1Cur_pick hh5) rfl (.inl rfl) lt0 ?_)
 rintro _ _ ⟨rfl, rfl⟩
 refine VO.cons rfl (V1.quo rfl rfl rfl rfl (by decide) lt0 ?_)
 refine VO.cons rfl (V1.int rfl rfl rfl rfl rfl lt0 ?_)
 refine VO.weakenK (Keeps.freezeG 1 rn [(28, .vl rn 1 (List.map encInt ([(0 : Int), (10 : Int), (19900 : Int), (20000 : Int), (-1 : Int), (20001 : Int)] : List Int)))] [(b0, ⟨3, [encCur ρ0 y4.2]⟩), (b2, ⟨4, List.map encCopy y1.1⟩), (b1, ⟨4, List.map (encFormat rn) y0.1⟩)] (f := encInt) (l := ([(0 : Int), (10 : Int), (19900 : Int), (20000 : Int), (-1 : Int), (20001 : Int)] : List Int)) rfl (fun _ => rfl) ⟨⟨_, rfl, .here⟩, trivial⟩ ⟨_, _, rfl, rfl, .inl rfl, ⟨_, _, rfl, rfl, .inl rfl, ⟨_, _, rfl, rfl, .inl rfl, rfl⟩⟩⟩ rfl iNil) ?_
 refine VO.cons rfl (V1.sliceMap (a := (0 : Int)) (b := (IntKind.i64.wrap ((4 : Int) + (IntKind.i64.wrap (Int.tdiv y4.1 (11 : Int)))))) rfl rfl esz_31 rfl (Bnd.none _ _) (Bnd.some rfl (Int.le_trans hh6.1 hh6.2.1) _) hh6 lt0 ?_)
 refine VO.cons rfl (V1.callM 0 (rn + ρ0 + 1) [] [.ref b0 3 0 0, .vl rn 1 (List.map encInt (slc ([(0 : Int), (10 : Int), (19900 : Int), (20000 : Int), (-1 : Int), (20001 : Int)] : List Int) (0 : Int) (IntKind.i64.wrap ((4 : Int) + (IntKind.i64.wrap (Int.tdiv y4.1 (11 : Int)))))))] (p := (b0, ⟨3, [encCur ρ0 y4.2]⟩)) rfl rfl rfl cok_75 rfl rfl ⟨_, _, rfl, .same _, ⟨_, _, rfl, .same _, rfl⟩⟩ bwNil (ok_spec_l1Cur_among hh7) rfl (.inl rfl) lt0 ?_)
 rintro _ _ ⟨rfl, rfl⟩
 refine VO.cons rfl (V1.assign rfl rfl rfl lt0 ?_)
 refine VO.cons rfl (V1.assign rfl rfl rfl lt0 ?_)
 refine VO.cons rfl (V1.assign rfl rfl rfl lt0 ?_)
 refine VO.cons rfl (V1.assign rfl rfl rfl lt0 ?_)
 refine VO.nil ?_
 refine V.keep 35 [2, 3, 4, 5] [2, 1] (E0 := [(2, .sref b1 4 0 (List.length y0.1)), (3, .sref b2 4 0 (List.length y1.1)), (4, .int .i64 y3.1), (5, .int .i64 y5.1)]) (H0 := [(b1, ⟨4, List.map (encFormat rn) y0.1⟩), (b2, ⟨4, List.map encCopy y1.1⟩)]) rfl (⟨_, _, rfl, rfl, ⟨_, _, rfl, rfl, ⟨_, _, rfl, rfl, ⟨_, _, rfl, rfl, rfl⟩⟩⟩⟩) (⟨_, _, rfl, rfl, ⟨_, _, rfl, rfl, rfl⟩⟩) rfl ?_
 refine V.ret ?_
 obtain rfl := Option.some.inj hm0
 exact ⟨_, _, ⟨_, _, rfl, rfl, ⟨_, _, rfl, rfl, ⟨_, _, rfl, rfl, ⟨_, _, rfl, rfl, rfl⟩⟩⟩⟩, List.Sublist.refl _, b1, b2, rfl, rfl⟩

theorem ok_impl_Unseen {ρ0 ρ1 rn : Nat} {list : List Format} {copies : List Copy} {day : Int} {days : Int} {r : List Int × Bool} (h : M.impl_Unseen list copies day days = some r) : Does Tryd.prog 35 [.vl ρ0 4 (List.map (encFormat ρ0) list), .vl ρ1 4 (List.map encCopy copies), .int .i64 day, .int .i64 days] [] rn (fun x H => ∃ (ob0_ : Option Nat), (ob0_ = none → r.1 = []) ∧ x = .tup [optS 1 ob0_ (List.length r.1), .bool r.2] ∧ H = optH 1 ob0_ (List.map encInt r.1)) := by
 have hm0 := h; clear h; unfold M.impl_Unseen at hm0
 try dsimp only at hm0
 refine Does.intro (N := 50) Tryd.func35 rfl rfl rfl rfl ?_
 intro w0 S0
 refine V.seq ?_
 refine V.region ?_
 refine VO.cons rfl (V1.assign rfl rfl rfl lt0 ?_)
 refine VO.cons rfl (V1.assign rfl rfl rfl lt0 ?_)
 refine VO.nil ?_
 refine V.seq ?_
 refine V.seq ?_
 replace hm0 := bindO hm0; rcases hm0 with ⟨y0, hh0, hm0⟩
 replace hm0 := bindO hm0; rcases hm0 with ⟨y1, hh1, hm0⟩
 replace hm0 := bindO hm0; rcases hm0 with ⟨y2, hh2, hm0⟩
 refine V.region ?_
 refine VO.cons rfl (V1.move rfl rfl rfl lt0 ?_)
 refine VO.cons rfl (V1.move rfl rfl rfl lt0 ?_)
 refine VO.cons rfl (V1.call rfl rfl rfl cok_32 rfl (ok_impl_AreCopies hh0) rfl lt0 ?_)
 rintro _ _ ⟨rfl, rfl⟩
 refine VO.cons rfl (V1.not rfl rfl rfl lt0 ?_)
 refine VO.cons rfl (V1.move rfl rfl rfl lt0 ?_)
 apply VO.or (n := 3) rfl rfl rfl rfl rfl rfl lt0 (.none rfl)
 ·
  intro hg0
  refine VO.step (.some rfl rfl rfl) (V1.move rfl rfl rfl lt0 ?_)
  refine VO.step (.some rfl rfl rfl) (V1.call rfl rfl rfl cok_66 rfl (ok_impl_isDay (cond_f hg0 hh1)) rfl lt0 ?_)
  rintro _ _ ⟨rfl, rfl⟩
  refine VO.step (.some rfl rfl rfl) (V1.not rfl rfl rfl lt0 ?_)
  exact VO.nil ⟨rfl, rfl, rfl, rfl, .inr ⟨rfl, .inr ⟨rfl, .inr ⟨rfl, .inr ⟨rfl, .inl rfl⟩⟩⟩⟩⟩
 refine VO.cons rfl (V1.move rfl rfl rfl lt0 ?_)
 apply VO.or (n := 3) rfl rfl rfl rfl rfl rfl lt0 (.none rfl)
 ·
  intro hg1
  refine VO.step (.some rfl rfl rfl) (V1.move rfl rfl rfl lt0 ?_)
  refine VO.step (.some rfl rfl rfl) (V1.call rfl rfl rfl cok_66 rfl (ok_impl_isDay (cond_f hg1 hh2)) rfl lt0 ?_)
  rintro _ _ ⟨rfl, rfl⟩
  refine VO.step (.some rfl rfl rfl) (V1.not rfl rfl rfl lt0 ?_)
  exact VO.nil ⟨rfl, rfl, rfl, rfl, .inr ⟨rfl, .inr ⟨rfl, .inr ⟨rfl, .inr ⟨rfl, .inl rfl⟩⟩⟩⟩⟩
 refine VO.nil ?_
 refine V.keep 50 [1, 2, 3, 26] [] (E0 := [(1, .vl ρ1 4 (List.map encCopy copies)), (2, .int .i64 day), (3, .int .i64 days), (26, .bool (((!y0) || (!y1)) || (!y2)))]) (H0 := []) rfl (⟨_, _, rfl, rfl, ⟨_, _, rfl, rfl, ⟨_, _, rfl, rfl, ⟨_, _, rfl, rfl, rfl⟩⟩⟩⟩) (rfl) rfl ?_
 refine V.cond rfl (fun hc0 => ?_) (fun hc0 => ?_)
 ·
  replace hm0 := cond_t hc0 hm0
  refine V.seq ?_
  refine V.region ?_
  refine VO.cons rfl (V1.assign rfl rfl rfl lt0 ?_)
  refine VO.cons rfl (V1.assign rfl rfl rfl lt0 ?_)
  refine VO.nil ?_
  refine V.keep 50 [8, 9] [] (E0 := [(8, .nils), (9, .bool false)]) (H0 := []) rfl (⟨_, _, rfl, rfl, ⟨_, _, rfl, rfl, rfl⟩⟩) (rfl) rfl ?_
  refine V.ret ?_
  obtain rfl := Option.some.inj hm0
  exact ⟨_, _, ⟨_, _, rfl, rfl, ⟨_, _, rfl, rfl, rfl⟩⟩, List.Sublist.refl _, none, (fun _ => rfl), rfl, rfl⟩
 ·
  replace hm0 := cond_f hc0 hm0
  refine V.skip ?_
  refine V.seq ?_
  refine V.region ?_
  refine VO.cons rfl (V1.assign rfl rfl rfl lt0 ?_)
  refine VO.nil ?_
  refine V.seq ?_
  refine V.seq ?_
  refine V.region ?_
  refine VO.cons rfl (V1.move rfl rfl rfl lt0 ?_)
  refine VO.cons rfl (V1.lenMap rfl rfl rfl rfl rfl rfl isl_50 lt0 ?_)
  refine VO.cons rfl (V1.move rfl rfl rfl lt0 ?_)
  refine VO.nil ?_
  replace hm0 := bindO hm0; rcases hm0 with ⟨e0, he1, hm0⟩
  refine V.cutT (D := (List Int) × (Option Nat)) (fun ⟨out_, ob0⟩ => ⟨50, [(10, optS 1 ob0 (List.length out_))], optH 1 ob0 (List.map encInt out_)⟩) (fun ⟨out_, ob0⟩ => (.inl out_ = e0) ∧ (ob0 = none → out_ = [])) ?_ ?_
  ·
   refine V.block ?_
   refine V.keep 50 [10, 29, 2, 3, 27, 28] [] (E0 := [(10, .nils), (29, .int .i64 (0 : Int)), (2, .int .i64 day), (3, .int .i64 days), (27, .vl ρ1 4 (List.map encCopy copies)), (28, .int .i64 (copies.length : Int))]) (H0 := []) rfl (⟨_, _, rfl, rfl, ⟨_, _, rfl, rfl, ⟨_, _, rfl, rfl, ⟨_, _, rfl, rfl, ⟨_, _, rfl, rfl, ⟨_, _, rfl, rfl, rfl⟩⟩⟩⟩⟩⟩) (rfl) rfl ?_
   refine V.loopE (D := Nat × (List Int × Int) × (Option Nat)) (fun ⟨n0, ⟨out_0, v⟩, ob1⟩ => [(10, optS 1 ob1 (List.length out_0)), (29, .int .i64 v)]) (fun ⟨n0, ⟨out_0, v⟩, ob1⟩ => optH 1 ob1 (List.map encInt out_0)) (fun ⟨n0, ⟨out_0, v⟩, ob1⟩ => loopO (M.impl_Unseen_l0 copies day days) n0 (out_0, v) = some e0 ∧ (ob1 = none → out_0 = [])) (fun ⟨n0, _, _⟩ => n0) (rounds, (([] : List Int), (0 : Int)), none) rfl ⟨he1, (fun _ => rfl)⟩ ?_
   rintro ⟨n0, ⟨out_0, v⟩, ob1⟩ ⟨hP0, hob1⟩
   obtain ⟨m0, y3, rfl, hm1, hl1, hr1⟩ := loop_head hP0
   unfold M.impl_Unseen_l0 at hm1; dsimp only at hm1
   rcases ob1 with _ | ob1
   ·
    replace hob1 := hob1 rfl
    show V _ _ _ ⟨50, [(10, .nils), (29, .int .i64 v), (2, .int .i64 day), (3, .int .i64 days), (27, .vl ρ1 4 (List.map encCopy copies)), (28, .int .i64 (copies.length : Int))], []⟩
    refine V.seq ?_
    refine V.region ?_
    refine VO.cons rfl (V1.int rfl rfl rfl rfl rfl lt0 ?_)
    refine VO.nil ?_
    refine V.seq ?_
    refine V.cond rfl (fun hc1 => ?_) (fun hc1 => ?_)
    ·
     replace hm1 := cond_t hc1 hm1
     refine V.skip ?_
     refine V.seq ?_
     replace hm1 := bindO hm1; rcases hm1 with ⟨j0, hm2, hm1⟩
     refine V.cutT (D := (List Int) × (Option Nat)) (fun ⟨out_1, ob2⟩ => ⟨50, [(10, optS 1 ob2 (List.length out_1)), (2, .int .i64 day), (3, .int .i64 days), (27, .vl ρ1 4 (List.map encCopy copies)), (28, .int .i64 (copies.length : Int)), (29, .int .i64 v)], optH 1 ob2 (List.map encInt out_1)⟩) (fun ⟨out_1, ob2⟩ => (.inl out_1 = j0) ∧ (ob2 = none → out_1 = [])) ?_ ?_
     ·
      refine V.block ?_
      refine V.seq ?_
      replace hm2 := asrt_some hm2; rcases hm2 with ⟨hh3, hm2⟩
      refine V.region ?_
      refine VO.cons rfl (V1.move rfl rfl rfl lt0 ?_)
      refine VO.cons rfl (V1.indexI rfl rfl esz_50 rfl rfl hh3 lt0 ?_)
      refine VO.cons rfl (V1.loadPinAll rfl rfl tyk_59 rfl rfl lt0 ?_)
      refine VO.cons rfl (V1.alloc rfl rfl zk_59 lt0 ?_)
      intro b0
      refine VO.cons rfl (V1.assign rfl rfl rfl lt0 ?_)
      refine VO.cons rfl (V1.storeRefAll (k := 0) rfl rfl tyk_59 rfl rfl rfl rfl rfl rfl ?_)
      refine VO.nil ?_
      refine V.keep 50 [2, 3, 10, 11, 12, 27, 28, 29] [0] (E0 := [(2, .int .i64 day), (3, .int .i64 days), (10, .nils), (11, .int .i64 v), (12, .ref b0 4 0 0), (27, .vl ρ1 4 (List.map encCopy copies)), (28, .int .i64 (copies.length : Int)), (29, .int .i64 v)]) (H0 := [(b0, ⟨4, [encCopy (copies.getD (Int.toNat v) default)]⟩)]) rfl (⟨_, _, rfl, rfl, ⟨_, _, rfl, rfl, ⟨_, _, rfl, rfl, ⟨_, _, rfl, rfl, ⟨_, _, rfl, rfl, ⟨_, _, rfl, rfl, ⟨_, _, rfl, rfl, ⟨_, _, rfl, rfl, rfl⟩⟩⟩⟩⟩⟩⟩⟩) (⟨_, _, rfl, rfl, rfl⟩) rfl ?_
      refine V.seq ?_
      refine V.seq ?_
      refine V.region ?_
      refine VO.cons rfl (V1.fieldRef rfl rfl fo_59_3 rfl lt0 ?_)
      refine VO.cons rfl (V1.loadRef (k := 0) rfl rfl tyk_3 rfl rfl rfl rfl rfl lt0 ?_)
      refine VO.cons rfl (V1.move rfl rfl rfl lt0 ?_)
      refine VO.cons rfl (V1.int rfl rfl rfl rfl rfl lt0 ?_)
      refine VO.nil ?_
      refine V.cond rfl (fun hc2 => ?_) (fun hc2 => ?_)
      ·
       replace hm2 := cond_t hc2 hm2
       refine V.seq ?_
       refine V.region ?_
       refine VO.cons rfl (V1.assign rfl rfl rfl lt0 ?_)
       refine VO.cons rfl (V1.assign rfl rfl rfl lt0 ?_)
       refine VO.nil ?_
       refine V.keep 50 [8, 9] [] (E0 := [(8, .nils), (9, .bool false)]) (H0 := []) rfl (⟨_, _, rfl, rfl, ⟨_, _, rfl, rfl, rfl⟩⟩) (rfl) rfl ?_
       refine V.ret ?_
       obtain rfl := Option.some.inj hm2
       change some _ = some _ at hm1
       obtain rfl := hr1 _ (Option.some.inj hm1).symm
       change some _ = some _ at hm0
       obtain rfl := Option.some.inj hm0
       exact ⟨_, _, ⟨_, _, rfl, rfl, ⟨_, _, rfl, rfl, rfl⟩⟩, List.Sublist.refl _, none, (fun _ => rfl), rfl, rfl⟩
      ·
       replace hm2 := cond_f hc2 hm2
       refine V.skip ?_
       refine V.keep 50 [2, 3, 10, 11, 12, 27, 28, 29] [0] (E0 := [(2, .int .i64 day), (3, .int .i64 days), (10, .nils), (11, .int .i64 v), (12, .ref b0 4 0 0), (27, .vl ρ1 4 (List.map encCopy copies)), (28, .int .i64 (copies.length : Int)), (29, .int .i64 v)]) (H0 := [(b0, ⟨4, [encCopy (copies.getD (Int.toNat v) default)]⟩)]) rfl (⟨_, _, rfl, rfl, ⟨_, _, rfl, rfl, ⟨_, _, rfl, rfl, ⟨_, _, rfl, rfl, ⟨_, _, rfl, rfl, ⟨_, _, rfl, rfl, ⟨_, _, rfl, rfl, ⟨_, _, rfl, rfl, rfl⟩⟩⟩⟩⟩⟩⟩⟩) (⟨_, _, rfl, rfl, rfl⟩) rfl ?_
       refine V.seq ?_
       refine V.region ?_
       refine VO.cons rfl (V1.move rfl rfl rfl lt0 ?_)
       refine VO.cons rfl (V1.fieldRef rfl rfl fo_59_3 rfl lt0 ?_)
       refine VO.cons rfl (V1.loadRef (k := 0) rfl rfl tyk_3 rfl rfl rfl rfl rfl lt0 ?_)
       refine VO.cons rfl (V1.int rfl rfl rfl rfl rfl lt0 ?_)
       refine VO.cons rfl (V1.move rfl rfl rfl lt0 ?_)
       refine VO.cons rfl (V1.int rfl rfl rfl rfl rfl lt0 ?_)
       refine VO.nil ?_
       refine V.keep 50 [2, 3, 10, 11, 27, 28, 29, 43] [] (E0 := [(2, .int .i64 day), (3, .int .i64 days), (10, .nils), (11, .int .i64 v), (27, .vl ρ1 4 (List.map encCopy copies)), (28, .int .i64 (copies.length : Int)), (29, .int .i64 v), (43, .bool (decide ((IntKind.i64.wrap (day - ((copies.getD (Int.toNat v) default).Seen))) > days)))]) (H0 := []) rfl (⟨_, _, rfl, rfl, ⟨_, _, rfl, rfl, ⟨_, _, rfl, rfl, ⟨_, _, rfl, rfl, ⟨_, _, rfl, rfl, ⟨_, _, rfl, rfl, ⟨_, _, rfl, rfl, ⟨_, _, rfl, rfl, rfl⟩⟩⟩⟩⟩⟩⟩⟩) (rfl) rfl ?_
       refine V.cond rfl (fun hc3 => ?_) (fun hc3 => ?_)
       ·
        replace hm2 := cond_t hc3 hm2
        replace hm2 := asrt_some hm2; rcases hm2 with ⟨hh4, hm2⟩
        refine V.region ?_
        refine VO.cons rfl (V1.move rfl rfl rfl lt0 ?_)
        refine VO.cons rfl (V1.move rfl rfl rfl lt0 ?_)
        refine VO.cons rfl (V1.buildSliceT (f := encInt) ([v] : List Int) rfl rfl esz_31 zk_3 rfl rfl rfl rfl rfl rfl rfl lt0 ?_)
        intro b1
        refine VO.cons rfl (V1.appendNilE (f := encInt) (l := out_0) (m := ([v] : List Int)) hob1 rfl rfl rfl rfl rfl esz_31 eby_31 zk_3 rfl rfl rfl (SrcOf.srMap (k := 0) rfl isl_31) rfl hh4 lt0 ?_)
        intro b2
        refine VO.cons rfl (V1.assign rfl rfl rfl lt0 ?_)
        refine VO.nil ?_
        exact ⟨((out_0 ++ ([v] : List Int)), (some b2)), ⟨Option.some.inj hm2, (fun e => by cases e)⟩, Keeps.mk (ks := [0]) rfl ⟨rfl, rfl, rfl, rfl, rfl, rfl, trivial⟩ (⟨_, _, rfl, rfl, rfl⟩) rfl⟩
       ·
        replace hm2 := cond_f hc3 hm2
        refine V.skip ?_
        exact ⟨(out_0, none), ⟨Option.some.inj hm2, (fun _ => hob1)⟩, Keeps.mk (ks := []) rfl ⟨rfl, rfl, rfl, rfl, rfl, rfl, trivial⟩ (rfl) rfl⟩
     ·
      rintro ⟨out_1, ob2⟩ ⟨rfl, hob2⟩
      try dsimp only at hm1
      rcases ob2 with _ | ob2
      ·
       replace hob2 := hob2 rfl
       refine V.region ?_
       refine VO.cons rfl (V1.int rfl rfl rfl rfl rfl lt0 ?_)
       refine VO.cons rfl (V1.move rfl rfl rfl lt0 ?_)
       refine VO.nil ?_
       exact ⟨(m0, (out_1, (IntKind.i64.wrap (v + (1 : Int)))), none), ⟨hl1 _ (Option.some.inj hm1).symm, (fun _ => hob2)⟩, Nat.lt_succ_self _, Keeps.mk (ks := []) rfl ⟨rfl, rfl, rfl, rfl, rfl, rfl, trivial⟩ (rfl) rfl⟩
      ·
       refine V.region ?_
       refine VO.cons rfl (V1.int rfl rfl rfl rfl rfl lt0 ?_)
       refine VO.cons rfl (V1.move rfl rfl rfl lt0 ?_)
       refine VO.nil ?_
       exact ⟨(m0, (out_1, (IntKind.i64.wrap (v + (1 : Int)))), (some ob2)), ⟨hl1 _ (Option.some.inj hm1).symm, (fun e => by cases e)⟩, Nat.lt_succ_self _, Keeps.mk (ks := [0]) rfl ⟨rfl, rfl, rfl, rfl, rfl, rfl, trivial⟩ (⟨_, _, rfl, rfl, rfl⟩) rfl⟩
    ·
     replace hm1 := cond_f hc1 hm1
     refine V.exit ?_
     obtain rfl := hr1 _ (Option.some.inj hm1).symm
     exact ⟨(out_0, none), ⟨rfl, (fun _ => hob1)⟩, Keeps.mk (ks := []) rfl ⟨rfl, trivial⟩ (rfl) rfl⟩
   ·
    show V _ _ _ ⟨50, [(10, .sref ob1 1 0 (List.length out_0)), (29, .int .i64 v), (2, .int .i64 day), (3, .int .i64 days), (27, .vl ρ1 4 (List.map encCopy copies)), (28, .int .i64 (copies.length : Int))], [(ob1, ⟨1, List.map encInt out_0⟩)]⟩
    refine V.seq ?_
    refine V.region ?_
    refine VO.cons rfl (V1.int rfl rfl rfl rfl rfl lt0 ?_)
    refine VO.nil ?_
    refine V.seq ?_
    refine V.cond rfl (fun hc1 => ?_) (fun hc1 => ?_)
    ·
     replace hm1 := cond_t hc1 hm1
     refine V.skip ?_
     refine V.seq ?_
     replace hm1 := bindO hm1; rcases hm1 with ⟨j0, hm2, hm1⟩
     refine V.cutT (D := (List Int) × (Nat)) (fun ⟨out_1, b0⟩ => ⟨50, [(10, .sref b0 1 0 (List.length out_1)), (2, .int .i64 day), (3, .int .i64 days), (27, .vl ρ1 4 (List.map encCopy copies)), (28, .int .i64 (copies.length : Int)), (29, .int .i64 v)], [(b0, ⟨1, List.map encInt out_1⟩)]⟩) (fun ⟨out_1, b0⟩ => (.inl out_1 = j0)) ?_ ?_
     ·
      refine V.block ?_
      refine V.seq ?_
      replace hm2 := asrt_some hm2; rcases hm2 with ⟨hh3, hm2⟩
      refine V.region ?_
      refine VO.cons rfl (V1.move rfl rfl rfl lt0 ?_)
      refine VO.cons rfl (V1.indexI rfl rfl esz_50 rfl rfl hh3 lt0 ?_)
      refine VO.cons rfl (V1.loadPinAll rfl rfl tyk_59 rfl rfl lt0 ?_)
      refine VO.cons rfl (V1.alloc rfl rfl zk_59 lt0 ?_)
      intro b1
      refine VO.cons rfl (V1.assign rfl rfl rfl lt0 ?_)
      refine VO.cons rfl (V1.storeRefAll (k := 0) rfl rfl tyk_59 rfl rfl rfl rfl rfl rfl ?_)
      refine VO.nil ?_
      refine V.keep 50 [2, 3, 10, 11, 12, 27, 28, 29] [0, 1] (E0 := [(2, .int .i64 day), (3, .int .i64 days), (10, .sref ob1 1 0 (List.length out_0)), (11, .int .i64 v), (12, .ref b1 4 0 0), (27, .vl ρ1 4 (List.map encCopy copies)), (28, .int .i64 (copies.length : Int)), (29, .int .i64 v)]) (H0 := [(b1, ⟨4, [encCopy (copies.getD (Int.toNat v) default)]⟩), (ob1, ⟨1, List.map encInt out_0⟩)]) rfl (⟨_, _, rfl, rfl, ⟨_, _, rfl, rfl, ⟨_, _, rfl, rfl, ⟨_, _, rfl, rfl, ⟨_, _, rfl, rfl, ⟨_, _, rfl, rfl, ⟨_, _, rfl, rfl, ⟨_, _, rfl, rfl, rfl⟩⟩⟩⟩⟩⟩⟩⟩) (⟨_, _, rfl, rfl, ⟨_, _, rfl, rfl, rfl⟩⟩) rfl ?_
      refine V.seq ?_
      refine V.seq ?_
      refine V.region ?_
      refine VO.cons rfl (V1.fieldRef rfl rfl fo_59_3 rfl lt0 ?_)
      refine VO.cons rfl (V1.loadRef (k := 0) rfl rfl tyk_3 rfl rfl rfl rfl rfl lt0 ?_)
      refine VO.cons rfl (V1.move rfl rfl rfl lt0 ?_)
      refine VO.cons rfl (V1.int rfl rfl rfl rfl rfl lt0 ?_)
      refine VO.nil ?_
      refine V.cond rfl (fun hc2 => ?_) (fun hc2 => ?_)
      ·
       replace hm2 := cond_t hc2 hm2
       refine V.seq ?_
       refine V.region ?_
       refine VO.cons rfl (V1.assign rfl rfl rfl lt0 ?_)
       refine VO.cons rfl (V1.assign rfl rfl rfl lt0 ?_)
       refine VO.nil ?_
       refine V.keep 50 [8, 9] [] (E0 := [(8, .nils), (9, .bool false)]) (H0 := []) rfl (⟨_, _, rfl, rfl, ⟨_, _, rfl, rfl, rfl⟩⟩) (rfl) rfl ?_
       refine V.ret ?_
       obtain rfl := Option.some.inj hm2
       change some _ = some _ at hm1
       obtain rfl := hr1 _ (Option.some.inj hm1).symm
       change some _ = some _ at hm0
       obtain rfl := Option.some.inj hm0
       exact ⟨_, _, ⟨_, _, rfl, rfl, ⟨_, _, rfl, rfl, rfl⟩⟩, List.Sublist.refl _, none, (fun _ => rfl), rfl, rfl⟩
      ·
       replace hm2 := cond_f hc2 hm2
       refine V.skip ?_
       refine V.keep 50 [2, 3, 10, 11, 12, 27, 28, 29] [0, 1] (E0 := [(2, .int .i64 day), (3, .int .i64 days), (10, .sref ob1 1 0 (List.length out_0)), (11, .int .i64 v), (12, .ref b1 4 0 0), (27, .vl ρ1 4 (List.map encCopy copies)), (28, .int .i64 (copies.length : Int)), (29, .int .i64 v)]) (H0 := [(b1, ⟨4, [encCopy (copies.getD (Int.toNat v) default)]⟩), (ob1, ⟨1, List.map encInt out_0⟩)]) rfl (⟨_, _, rfl, rfl, ⟨_, _, rfl, rfl, ⟨_, _, rfl, rfl, ⟨_, _, rfl, rfl, ⟨_, _, rfl, rfl, ⟨_, _, rfl, rfl, ⟨_, _, rfl, rfl, ⟨_, _, rfl, rfl, rfl⟩⟩⟩⟩⟩⟩⟩⟩) (⟨_, _, rfl, rfl, ⟨_, _, rfl, rfl, rfl⟩⟩) rfl ?_
       refine V.seq ?_
       refine V.region ?_
       refine VO.cons rfl (V1.move rfl rfl rfl lt0 ?_)
       refine VO.cons rfl (V1.fieldRef rfl rfl fo_59_3 rfl lt0 ?_)
       refine VO.cons rfl (V1.loadRef (k := 0) rfl rfl tyk_3 rfl rfl rfl rfl rfl lt0 ?_)
       refine VO.cons rfl (V1.int rfl rfl rfl rfl rfl lt0 ?_)
       refine VO.cons rfl (V1.move rfl rfl rfl lt0 ?_)
       refine VO.cons rfl (V1.int rfl rfl rfl rfl rfl lt0 ?_)
       refine VO.nil ?_
       refine V.keep 50 [2, 3, 10, 11, 27, 28, 29, 43] [1] (E0 := [(2, .int .i64 day), (3, .int .i64 days), (10, .sref ob1 1 0 (List.length out_0)), (11, .int .i64 v), (27, .vl ρ1 4 (List.map encCopy copies)), (28, .int .i64 (copies.length : Int)), (29, .int .i64 v), (43, .bool (decide ((IntKind.i64.wrap (day - ((copies.getD (Int.toNat v) default).Seen))) > days)))]) (H0 := [(ob1, ⟨1, List.map encInt out_0⟩)]) rfl (⟨_, _, rfl, rfl, ⟨_, _, rfl, rfl, ⟨_, _, rfl, rfl, ⟨_, _, rfl, rfl, ⟨_, _, rfl, rfl, ⟨_, _, rfl, rfl, ⟨_, _, rfl, rfl, ⟨_, _, rfl, rfl, rfl⟩⟩⟩⟩⟩⟩⟩⟩) (⟨_, _, rfl, rfl, rfl⟩) rfl ?_
       refine V.cond rfl (fun hc3 => ?_) (fun hc3 => ?_)
       ·
        replace hm2 := cond_t hc3 hm2
        replace hm2 := asrt_some hm2; rcases hm2 with ⟨hh4, hm2⟩
        refine V.region ?_
        refine VO.cons rfl (V1.move rfl rfl rfl lt0 ?_)
        refine VO.cons rfl (V1.move rfl rfl rfl lt0 ?_)
        refine VO.cons rfl (V1.buildSliceT (f := encInt) ([v] : List Int) rfl rfl esz_31 zk_3 rfl rfl rfl rfl rfl rfl rfl lt0 ?_)
        intro b2
        refine VO.cons rfl (V1.appendMap (k := 1) (f := encInt) (l := out_0) (m := ([v] : List Int)) rfl rfl rfl rfl rfl esz_31 eby_31 zk_3 rfl rfl rfl (SrcOf.srMap (k := 0) rfl isl_31) hh4 lt0 ?_)
        intro b3
        refine VO.cons rfl (V1.assign rfl rfl rfl lt0 ?_)
        refine VO.nil ?_
        exact ⟨((out_0 ++ ([v] : List Int)), b3), Option.some.inj hm2, Keeps.mk (ks := [0]) rfl ⟨rfl, rfl, rfl, rfl, rfl, rfl, trivial⟩ (⟨_, _, rfl, rfl, rfl⟩) rfl⟩
       ·
        replace hm2 := cond_f hc3 hm2
        refine V.skip ?_
        exact ⟨(out_0, ob1), Option.some.inj hm2, Keeps.mk (ks := [0]) rfl ⟨rfl, rfl, rfl, rfl, rfl, rfl, trivial⟩ (⟨_, _, rfl, rfl, rfl⟩) rfl⟩
     ·
      rintro ⟨out_1, b0⟩ rfl
      try dsimp only at hm1
      refine V.region ?_
      refine VO.cons rfl (V1.int rfl rfl rfl rfl rfl lt0 ?_)
      refine VO.cons rfl (V1.move rfl rfl rfl lt0 ?_)
      refine VO.nil ?_
      exact ⟨(m0, (out_1, (IntKind.i64.wrap (v + (1 : Int)))), (some b0)), ⟨hl1 _ (Option.some.inj hm1).symm, (fun e => by cases e)⟩, Nat.lt_succ_self _, Keeps.mk (ks := [0]) rfl ⟨rfl, rfl, rfl, rfl, rfl, rfl, trivial⟩ (⟨_, _, rfl, rfl, rfl⟩) rfl⟩
    ·
     replace hm1 := cond_f hc1 hm1
     refine V.exit ?_
     obtain rfl := hr1 _ (Option.some.inj hm1).symm
     exact ⟨(out_0, (some ob1)), ⟨rfl, (fun e => by cases e)⟩, Keeps.mk (ks := [0]) rfl ⟨rfl, trivial⟩ (⟨_, _, rfl, rfl, rfl⟩) rfl⟩
  ·
   rintro ⟨out_, ob0⟩ ⟨rfl, hob0⟩
   try dsimp only at hm0
   rcases ob0 with _ | ob0
   ·
    replace hob0 := hob0 rfl
    refine V.seq ?_
    refine V.region ?_
    refine VO.cons rfl (V1.move rfl rfl rfl lt0 ?_)
    refine VO.cons rfl (V1.assign rfl rfl rfl lt0 ?_)
    refine VO.cons rfl (V1.assign rfl rfl rfl lt0 ?_)
    refine VO.nil ?_
    refine V.keep 50 [8, 9] [] (E0 := [(8, .nils), (9, .bool true)]) (H0 := []) rfl (⟨_, _, rfl, rfl, ⟨_, _, rfl, rfl, rfl⟩⟩) (rfl) rfl ?_
    refine V.ret ?_
    obtain rfl := Option.some.inj hm0
    exact ⟨_, _, ⟨_, _, rfl, rfl, ⟨_, _, rfl, rfl, rfl⟩⟩, List.Sublist.refl _, none, (fun _ => hob0), rfl, rfl⟩
   ·
    refine V.seq ?_
    refine V.region ?_
    refine VO.cons rfl (V1.move rfl rfl rfl lt0 ?_)
    refine VO.cons rfl (V1.assign rfl rfl rfl lt0 ?_)
    refine VO.cons rfl (V1.assign rfl rfl rfl lt0 ?_)
    refine VO.nil ?_
    refine V.keep 50 [8, 9] [0] (E0 := [(8, .sref ob0 1 0 (List.length out_)), (9, .bool true)]) (H0 := [(ob0, ⟨1, List.map encInt out_⟩)]) rfl (⟨_, _, rfl, rfl, ⟨_, _, rfl, rfl, rfl⟩⟩) (⟨_, _, rfl, rfl, rfl⟩) rfl ?_
    refine V.ret ?_
    obtain rfl := Option.some.inj hm0
    exact ⟨_, _, ⟨_, _, rfl, rfl, ⟨_, _, rfl, rfl, rfl⟩⟩, List.Sublist.refl _, some ob0, (fun e => by cases e), rfl, rfl⟩

theorem ok_spec_Unseen {ρ0 σ0 ρ1 rn : Nat} {list : List Format} {copies : List Copy} {day : Int} {days : Int} {r : List Int × Bool} (h : M.spec_Unseen list copies day days = some r) : Does Tryd.prog 36 [.vl ρ0 4 (List.map (encFormat σ0) list), .vl ρ1 4 (List.map encCopy copies), .int .i64 day, .int .i64 days] [] rn (fun x H => ∃ (ob0_ : Nat), x = .tup [PV.sref ob0_ 1 0 (List.length r.1), .bool r.2] ∧ H = [(ob0_, ⟨1, List.map encInt r.1⟩)]) := by
 have hm0 := h; clear h; unfold M.spec_Unseen at hm0
 try dsimp only at hm0
 refine Does.intro (N := 56) Tryd.func36 rfl rfl rfl rfl ?_
 intro w0 S0
 refine V.seq ?_
 refine V.region ?_
 refine VO.cons rfl (V1.assign rfl rfl rfl lt0 ?_)
 refine VO.cons rfl (V1.assign rfl rfl rfl lt0 ?_)
 refine VO.nil ?_
 refine V.seq ?_
 refine V.region ?_
 refine VO.cons rfl (V1.buildSliceT (f := encInt) ([] : List Int) rfl rfl esz_31 zk_3 rfl rfl rfl rfl rfl rfl rfl lt0 ?_)
 intro b0
 refine VO.cons rfl (V1.assign rfl rfl rfl lt0 ?_)
 refine VO.nil ?_
 refine V.seq ?_
 refine V.seq ?_
 replace hm0 := bindO hm0; rcases hm0 with ⟨y0, hh0, hm0⟩
 replace hm0 := bindO hm0; rcases hm0 with ⟨y1, hh1, hm0⟩
 replace hm0 := bindO hm0; rcases hm0 with ⟨y2, hh2, hm0⟩
 refine V.region ?_
 refine VO.cons rfl (V1.move rfl rfl rfl lt0 ?_)
 refine VO.cons rfl (V1.move rfl rfl rfl lt0 ?_)
 refine VO.cons rfl (V1.call rfl rfl rfl cok_69 rfl (ok_spec_l7Copies hh0) rfl lt0 ?_)
 rintro _ _ ⟨rfl, rfl⟩
 refine VO.cons rfl (V1.not rfl rfl rfl lt0 ?_)
 refine VO.cons rfl (V1.move rfl rfl rfl lt0 ?_)
 apply VO.or (n := 3) rfl rfl rfl rfl rfl rfl lt0 (.none rfl)
 ·
  intro hg0
  refine VO.step (.some rfl rfl rfl) (V1.move rfl rfl rfl lt0 ?_)
  refine VO.step (.some rfl rfl rfl) (V1.call rfl rfl rfl cok_70 rfl (ok_spec_l2Day (cond_f hg0 hh1)) rfl lt0 ?_)
  rintro _ _ ⟨rfl, rfl⟩
  refine VO.step (.some rfl rfl rfl) (V1.not rfl rfl rfl lt0 ?_)
  exact VO.nil ⟨rfl, rfl, rfl, rfl, .inr ⟨rfl, .inr ⟨rfl, .inr ⟨rfl, .inr ⟨rfl, .inl rfl⟩⟩⟩⟩⟩
 refine VO.cons rfl (V1.move rfl rfl rfl lt0 ?_)
 apply VO.or (n := 3) rfl rfl rfl rfl rfl rfl lt0 (.none rfl)
 ·
  intro hg1
  refine VO.step (.some rfl rfl rfl) (V1.move rfl rfl rfl lt0 ?_)
  refine VO.step (.some rfl rfl rfl) (V1.call rfl rfl rfl cok_70 rfl (ok_spec_l2Day (cond_f hg1 hh2)) rfl lt0 ?_)
  rintro _ _ ⟨rfl, rfl⟩
  refine VO.step (.some rfl rfl rfl) (V1.not rfl rfl rfl lt0 ?_)
  exact VO.nil ⟨rfl, rfl, rfl, rfl, .inr ⟨rfl, .inr ⟨rfl, .inr ⟨rfl, .inr ⟨rfl, .inl rfl⟩⟩⟩⟩⟩
 refine VO.nil ?_
 refine V.keep 56 [1, 2, 3, 10, 26] [0] (E0 := [(1, .vl ρ1 4 (List.map encCopy copies)), (2, .int .i64 day), (3, .int .i64 days), (10, .sref b0 1 0 (List.length ([] : List Int))), (26, .bool (((!y0) || (!y1)) || (!y2)))]) (H0 := [(b0, ⟨1, List.map encInt ([] : List Int)⟩)]) rfl (⟨_, _, rfl, rfl, ⟨_, _, rfl, rfl, ⟨_, _, rfl, rfl, ⟨_, _, rfl, rfl, ⟨_, _, rfl, rfl, rfl⟩⟩⟩⟩⟩) (⟨_, _, rfl, rfl, rfl⟩) rfl ?_
 refine V.cond rfl (fun hc0 => ?_) (fun hc0 => ?_)
 ·
  replace hm0 := cond_t hc0 hm0
  refine V.seq ?_
  refine V.region ?_
  refine VO.cons rfl (V1.move rfl rfl rfl lt0 ?_)
  refine VO.cons rfl (V1.assign rfl rfl rfl lt0 ?_)
  refine VO.cons rfl (V1.assign rfl rfl rfl lt0 ?_)
  refine VO.nil ?_
  refine V.keep 56 [8, 9] [0] (E0 := [(8, .sref b0 1 0 (List.length ([] : List Int))), (9, .bool false)]) (H0 := [(b0, ⟨1, List.map encInt ([] : List Int)⟩)]) rfl (⟨_, _, rfl, rfl, ⟨_, _, rfl, rfl, rfl⟩⟩) (⟨_, _, rfl, rfl, rfl⟩) rfl ?_
  refine V.ret ?_
  obtain rfl := Option.some.inj hm0
  exact ⟨_, _, ⟨_, _, rfl, rfl, ⟨_, _, rfl, rfl, rfl⟩⟩, List.Sublist.refl _, b0, rfl, rfl⟩
 ·
  replace hm0 := cond_f hc0 hm0
  refine V.skip ?_
  refine V.seq ?_
  refine V.seq ?_
  refine V.region ?_
  refine VO.cons rfl (V1.assign rfl rfl rfl lt0 ?_)
  refine VO.nil ?_
  replace hm0 := bindO hm0; rcases hm0 with ⟨e0, he1, hm0⟩
  refine V.cutT (D := (List Int) × (Nat)) (fun ⟨out_, b1⟩ => ⟨56, [(10, .sref b1 1 0 (List.length out_))], [(b1, ⟨1, List.map encInt out_⟩)]⟩) (fun ⟨out_, b1⟩ => (.inl out_ = e0)) ?_ ?_
  ·
   refine V.block ?_
   refine V.keep 56 [10, 11, 1, 2, 3] [0] (E0 := [(10, .sref b0 1 0 (List.length ([] : List Int))), (11, .int .i64 (0 : Int)), (1, .vl ρ1 4 (List.map encCopy copies)), (2, .int .i64 day), (3, .int .i64 days)]) (H0 := [(b0, ⟨1, List.map encInt ([] : List Int)⟩)]) rfl (⟨_, _, rfl, rfl, ⟨_, _, rfl, rfl, ⟨_, _, rfl, rfl, ⟨_, _, rfl, rfl, ⟨_, _, rfl, rfl, rfl⟩⟩⟩⟩⟩) (⟨_, _, rfl, rfl, rfl⟩) rfl ?_
   refine V.loopE (D := Nat × (List Int × Int) × (Nat)) (fun ⟨n0, ⟨out_0, i⟩, b2⟩ => [(10, .sref b2 1 0 (List.length out_0)), (11, .int .i64 i)]) (fun ⟨n0, ⟨out_0, i⟩, b2⟩ => [(b2, ⟨1, List.map encInt out_0⟩)]) (fun ⟨n0, ⟨out_0, i⟩, b2⟩ => loopO (M.spec_Unseen_l0 copies day days) n0 (out_0, i) = some e0) (fun ⟨n0, _, _⟩ => n0) (rounds, (([] : List Int), (0 : Int)), b0) rfl he1 ?_
   rintro ⟨n0, ⟨out_0, i⟩, b2⟩ hP0
   obtain ⟨m0, y3, rfl, hm1, hl1, hr1⟩ := loop_head hP0
   unfold M.spec_Unseen_l0 at hm1; dsimp only at hm1
   show V _ _ _ ⟨56, [(10, .sref b2 1 0 (List.length out_0)), (11, .int .i64 i), (1, .vl ρ1 4 (List.map encCopy copies)), (2, .int .i64 day), (3, .int .i64 days)], [(b2, ⟨1, List.map encInt out_0⟩)]⟩
   refine V.seq ?_
   refine V.seq ?_
   refine V.region ?_
   refine VO.cons rfl (V1.move rfl rfl rfl lt0 ?_)
   refine VO.cons rfl (V1.move rfl rfl rfl lt0 ?_)
   refine VO.cons rfl (V1.lenMap rfl rfl rfl rfl rfl rfl isl_50 lt0 ?_)
   refine VO.cons rfl (V1.int rfl rfl rfl rfl rfl lt0 ?_)
   refine VO.nil ?_
   refine V.cond rfl (fun hc1 => ?_) (fun hc1 => ?_)
   ·
    replace hm1 := cond_t hc1 hm1
    refine V.skip ?_
    refine V.keep 56 [1, 2, 3, 10, 11] [0] (E0 := [(1, .vl ρ1 4 (List.map encCopy copies)), (2, .int .i64 day), (3, .int .i64 days), (10, .sref b2 1 0 (List.length out_0)), (11, .int .i64 i)]) (H0 := [(b2, ⟨1, List.map encInt out_0⟩)]) rfl (⟨_, _, rfl, rfl, ⟨_, _, rfl, rfl, ⟨_, _, rfl, rfl, ⟨_, _, rfl, rfl, ⟨_, _, rfl, rfl, rfl⟩⟩⟩⟩⟩) (⟨_, _, rfl, rfl, rfl⟩) rfl ?_
    refine V.seq ?_
    replace hm1 := bindO hm1; rcases hm1 with ⟨j0, hm2, hm1⟩
    refine V.cutT (D := (List Int) × (Nat)) (fun ⟨out_1, b3⟩ => ⟨56, [(10, .sref b3 1 0 (List.length out_1)), (1, .vl ρ1 4 (List.map encCopy copies)), (2, .int .i64 day), (3, .int .i64 days), (11, .int .i64 i)], [(b3, ⟨1, List.map encInt out_1⟩)]⟩) (fun ⟨out_1, b3⟩ => (.inl out_1 = j0)) ?_ ?_
    ·
     refine V.block ?_
     refine V.seq ?_
     refine V.seq ?_
     replace hm2 := asrt_some hm2; rcases hm2 with ⟨hh3, hm2⟩
     refine V.region ?_
     refine VO.cons rfl (V1.move rfl rfl rfl lt0 ?_)
     refine VO.cons rfl (V1.move rfl rfl rfl lt0 ?_)
     refine VO.cons rfl (V1.indexI rfl rfl esz_50 rfl rfl hh3 lt0 ?_)
     refine VO.cons rfl (V1.fieldPin rfl rfl fo_59_3 rfl lt0 ?_)
     refine VO.cons rfl (V1.loadPin rfl rfl tyk_3 rfl rfl lt0 ?_)
     refine VO.cons rfl (V1.move rfl rfl rfl lt0 ?_)
     refine VO.cons rfl (V1.int rfl rfl rfl rfl rfl lt0 ?_)
     refine VO.nil ?_
     refine V.keep 56 [1, 2, 3, 10, 11, 40] [0] (E0 := [(1, .vl ρ1 4 (List.map encCopy copies)), (2, .int .i64 day), (3, .int .i64 days), (10, .sref b2 1 0 (List.length out_0)), (11, .int .i64 i), (40, .bool (decide (((copies.getD (Int.toNat i) default).Seen) > day)))]) (H0 := [(b2, ⟨1, List.map encInt out_0⟩)]) rfl (⟨_, _, rfl, rfl, ⟨_, _, rfl, rfl, ⟨_, _, rfl, rfl, ⟨_, _, rfl, rfl, ⟨_, _, rfl, rfl, ⟨_, _, rfl, rfl, rfl⟩⟩⟩⟩⟩⟩) (⟨_, _, rfl, rfl, rfl⟩) rfl ?_
     refine V.cond rfl (fun hc2 => ?_) (fun hc2 => ?_)
     ·
      replace hm2 := cond_t hc2 hm2
      refine V.seq ?_
      refine V.region ?_
      refine VO.cons rfl (V1.buildSliceT (f := encInt) ([] : List Int) rfl rfl esz_31 zk_3 rfl rfl rfl rfl rfl rfl rfl lt0 ?_)
      intro b4
      refine VO.cons rfl (V1.assign rfl rfl rfl lt0 ?_)
      refine VO.cons rfl (V1.assign rfl rfl rfl lt0 ?_)
      refine VO.nil ?_
      refine V.keep 56 [8, 9] [0] (E0 := [(8, .sref b4 1 0 (List.length ([] : List Int))), (9, .bool false)]) (H0 := [(b4, ⟨1, List.map encInt ([] : List Int)⟩)]) rfl (⟨_, _, rfl, rfl, ⟨_, _, rfl, rfl, rfl⟩⟩) (⟨_, _, rfl, rfl, rfl⟩) rfl ?_
      refine V.ret ?_
      obtain rfl := Option.some.inj hm2
      change some _ = some _ at hm1
      obtain rfl := hr1 _ (Option.some.inj hm1).symm
      change some _ = some _ at hm0
      obtain rfl := Option.some.inj hm0
      exact ⟨_, _, ⟨_, _, rfl, rfl, ⟨_, _, rfl, rfl, rfl⟩⟩, List.Sublist.refl _, b4, rfl, rfl⟩
     ·
      replace hm2 := cond_f hc2 hm2
      refine V.skip ?_
      refine V.seq ?_
      replace hm2 := asrt_some hm2; rcases hm2 with ⟨hh4, hm2⟩
      refine V.region ?_
      refine VO.cons rfl (V1.move rfl rfl rfl lt0 ?_)
      refine VO.cons rfl (V1.move rfl rfl rfl lt0 ?_)
      refine VO.cons rfl (V1.move rfl rfl rfl lt0 ?_)
      refine VO.cons rfl (V1.indexI rfl rfl esz_50 rfl rfl hh4 lt0 ?_)
      refine VO.cons rfl (V1.fieldPin rfl rfl fo_59_3 rfl lt0 ?_)
      refine VO.cons rfl (V1.loadPin rfl rfl tyk_3 rfl rfl lt0 ?_)
      refine VO.cons rfl (V1.int rfl rfl rfl rfl rfl lt0 ?_)
      refine VO.cons rfl (V1.move rfl rfl rfl lt0 ?_)
      refine VO.cons rfl (V1.int rfl rfl rfl rfl rfl lt0 ?_)
      refine VO.nil ?_
      refine V.keep 56 [1, 2, 3, 10, 11, 50] [0] (E0 := [(1, .vl ρ1 4 (List.map encCopy copies)), (2, .int .i64 day), (3, .int .i64 days), (10, .sref b2 1 0 (List.length out_0)), (11, .int .i64 i), (50, .bool (decide ((IntKind.i64.wrap (day - ((copies.getD (Int.toNat i) default).Seen))) > days)))]) (H0 := [(b2, ⟨1, List.map encInt out_0⟩)]) rfl (⟨_, _, rfl, rfl, ⟨_, _, rfl, rfl, ⟨_, _, rfl, rfl, ⟨_, _, rfl, rfl, ⟨_, _, rfl, rfl, ⟨_, _, rfl, rfl, rfl⟩⟩⟩⟩⟩⟩) (⟨_, _, rfl, rfl, rfl⟩) rfl ?_
      refine V.cond rfl (fun hc3 => ?_) (fun hc3 => ?_)
      ·
       replace hm2 := cond_t hc3 hm2
       replace hm2 := asrt_some hm2; rcases hm2 with ⟨hh5, hm2⟩
       refine V.region ?_
       refine VO.cons rfl (V1.move rfl rfl rfl lt0 ?_)
       refine VO.cons rfl (V1.move rfl rfl rfl lt0 ?_)
       refine VO.cons rfl (V1.buildSliceT (f := encInt) ([i] : List Int) rfl rfl esz_31 zk_3 rfl rfl rfl rfl rfl rfl rfl lt0 ?_)
       intro b5
       refine VO.cons rfl (V1.appendMap (k := 1) (f := encInt) (l := out_0) (m := ([i] : List Int)) rfl rfl rfl rfl rfl esz_31 eby_31 zk_3 rfl rfl rfl (SrcOf.srMap (k := 0) rfl isl_31) hh5 lt0 ?_)
       intro b6
       refine VO.cons rfl (V1.assign rfl rfl rfl lt0 ?_)
       refine VO.nil ?_
       exact ⟨((out_0 ++ ([i] : List Int)), b6), Option.some.inj hm2, Keeps.mk (ks := [0]) rfl ⟨rfl, rfl, rfl, rfl, rfl, trivial⟩ (⟨_, _, rfl, rfl, rfl⟩) rfl⟩
      ·
       replace hm2 := cond_f hc3 hm2
       refine V.skip ?_
       exact ⟨(out_0, b2), Option.some.inj hm2, Keeps.mk (ks := [0]) rfl ⟨rfl, rfl, rfl, rfl, rfl, trivial⟩ (⟨_, _, rfl, rfl, rfl⟩) rfl⟩
    ·
     rintro ⟨out_1, b3⟩ rfl
     try dsimp only at hm1
     refine V.region ?_
     refine VO.cons rfl (V1.move rfl rfl rfl lt0 ?_)
     refine VO.cons rfl (V1.int rfl rfl rfl rfl rfl lt0 ?_)
     refine VO.cons rfl (V1.assign rfl rfl rfl lt0 ?_)
     refine VO.nil ?_
     exact ⟨(m0, (out_1, (IntKind.i64.wrap (i + (1 : Int)))), b3), hl1 _ (Option.some.inj hm1).symm, Nat.lt_succ_self _, Keeps.mk (ks := [0]) rfl ⟨rfl, rfl, rfl, rfl, rfl, trivial⟩ (⟨_, _, rfl, rfl, rfl⟩) rfl⟩
   ·
    replace hm1 := cond_f hc1 hm1
    refine V.exit ?_
    obtain rfl := hr1 _ (Option.some.inj hm1).symm
    exact ⟨(out_0, b2), rfl, Keeps.mk (ks := [0]) rfl ⟨rfl, trivial⟩ (⟨_, _, rfl, rfl, rfl⟩) rfl⟩
  ·
   rintro ⟨out_, b1⟩ rfl
   try dsimp only at hm0
   refine V.seq ?_
   refine V.region ?_
   refine VO.cons rfl (V1.move rfl rfl rfl lt0 ?_)
   refine VO.cons rfl (V1.assign rfl rfl rfl lt0 ?_)
   refine VO.cons rfl (V1.assign rfl rfl rfl lt0 ?_)
   refine VO.nil ?_
   refine V.keep 56 [8, 9] [0] (E0 := [(8, .sref b1 1 0 (List.length out_)), (9, .bool true)]) (H0 := [(b1, ⟨1, List.map encInt out_⟩)]) rfl (⟨_, _, rfl, rfl, ⟨_, _, rfl, rfl, rfl⟩⟩) (⟨_, _, rfl, rfl, rfl⟩) rfl ?_
   refine V.ret ?_
   obtain rfl := Option.some.inj hm0
   exact ⟨_, _, ⟨_, _, rfl, rfl, ⟨_, _, rfl, rfl, rfl⟩⟩, List.Sublist.refl _, b1, rfl, rfl⟩

theorem ok_spec_AreFormats {ρ0 σ0 rn : Nat} {list : List Format} {r : Bool} (h : M.spec_AreFormats list = some r) : Does Tryd.prog 38 [.vl ρ0 4 (List.map (encFormat σ0) list)] [] rn (fun x H => x = .bool r ∧ H = []) := by
 have hm0 := h; clear h; unfold M.spec_AreFormats at hm0
 try dsimp only at hm0
 refine Does.intro (N := 5) Tryd.func38 rfl rfl rfl rfl ?_
 intro w0 S0
 refine V.seq ?_
 refine V.region ?_
 refine VO.cons rfl (V1.assign rfl rfl rfl lt0 ?_)
 refine VO.nil ?_
 refine V.seq ?_
 replace hm0 := bindO hm0; rcases hm0 with ⟨y0, hh0, hm0⟩
 refine V.region ?_
 refine VO.cons rfl (V1.move rfl rfl rfl lt0 ?_)
 refine VO.cons rfl (V1.call rfl rfl rfl cok_60 rfl (ok_spec_l7Good hh0) rfl lt0 ?_)
 rintro _ _ ⟨rfl, rfl⟩
 refine VO.cons rfl (V1.assign rfl rfl rfl lt0 ?_)
 refine VO.nil ?_
 refine V.ret ?_
 obtain rfl := Option.some.inj hm0
 exact ⟨_, [], ⟨_, _, rfl, rfl, rfl⟩, List.nil_sublist _, rfl, rfl⟩

theorem ok_laws_FnFormats {ρ0 rn : Nat} {code : List Int} {r : Bool} (h : M.laws_FnFormats code = some r) : Does Tryd.prog 4 [.vl ρ0 1 (List.map encU8 code)] [] rn (fun x H => x = .bool r ∧ H = []) := by
 have hm0 := h; clear h; unfold M.laws_FnFormats at hm0
 try dsimp only at hm0
 refine Does.intro (N := 239) Tryd.func4 rfl rfl rfl rfl ?_
 intro w0 S0
 refine V.seq ?_
 refine V.region ?_
 refine VO.cons rfl (V1.assign rfl rfl rfl lt0 ?_)
 refine VO.nil ?_
 refine V.seq ?_
 refine V.seq ?_
 replace hm0 := bindO hm0; rcases hm0 with ⟨y0, hh0, hm0⟩
 refine V.region ?_
 refine VO.cons rfl (V1.move rfl rfl rfl lt0 ?_)
 refine VO.cons rfl (V1.call rfl rfl rfl cok_5 rfl (ok_laws_rBig hh0) rfl lt0 ?_)
 rintro _ _ ⟨rfl, rfl⟩
 refine VO.nil ?_
 refine V.cond rfl (fun hc0 => ?_) (fun hc0 => ?_)
 ·
  replace hm0 := cond_t hc0 hm0
  refine V.seq ?_
  refine V.region ?_
  refine VO.cons rfl (V1.assign rfl rfl rfl lt0 ?_)
  refine VO.nil ?_
  refine V.ret ?_
  obtain rfl := Option.some.inj hm0
  exact ⟨_, [], ⟨_, _, rfl, rfl, rfl⟩, List.nil_sublist _, rfl, rfl⟩
 ·
  replace hm0 := cond_f hc0 hm0
  refine V.skip ?_
  refine V.seq ?_
  replace hm0 := bindO hm0; rcases hm0 with ⟨y1, hh1, hm0⟩
  refine V.region ?_
  refine VO.cons rfl (V1.move rfl rfl rfl lt0 ?_)
  refine VO.cons rfl (V1.call rfl rfl rfl cok_22 rfl (ok_spec_DrawLastReadable hh1) rfl lt0 ?_)
  rintro _ _ ⟨b0, rfl, rfl⟩
  refine VO.cons rfl (V1.move rfl rfl rfl lt0 ?_)
  refine VO.cons rfl (V1.extract rfl rfl rfl rfl lt0 ?_)
  refine VO.weakenK (Keeps.freezeG 0 rn [(44, .vl rn 4 (List.map (encFormat rn) y1.1))] [] (f := (encFormat rn)) (l := y1.1) rfl (fun _ => rfl) ⟨⟨_, rfl, .here⟩, trivial⟩ rfl rfl iNil) ?_
  refine VO.cons rfl (V1.extract rfl rfl rfl rfl lt0 ?_)
  refine VO.cons rfl (V1.assign rfl rfl rfl lt0 ?_)
  refine VO.cons rfl (V1.assign rfl rfl rfl lt0 ?_)
  refine VO.nil ?_
  refine V.keep 239 [0, 3, 4] [] (E0 := [(0, .vl ρ0 1 (List.map encU8 code)), (3, .vl rn 4 (List.map (encFormat rn) y1.1)), (4, .int .i64 y1.2)]) (H0 := []) rfl (⟨_, _, rfl, rfl, ⟨_, _, rfl, rfl, ⟨_, _, rfl, rfl, rfl⟩⟩⟩) (rfl) rfl ?_
  refine V.seq ?_
  replace hm0 := bindO hm0; rcases hm0 with ⟨y2, hh2, hm0⟩
  refine V.region ?_
  refine VO.cons rfl (V1.move rfl rfl rfl lt0 ?_)
  refine VO.cons rfl (V1.move rfl rfl rfl lt0 ?_)
  refine VO.cons rfl (V1.call rfl rfl rfl cok_23 rfl (ok_impl_LastReadable hh2) rfl lt0 ?_)
  rintro _ _ ⟨rfl, rfl⟩
  refine VO.cons rfl (V1.move rfl rfl rfl lt0 ?_)
  refine VO.cons rfl (V1.extract rfl rfl rfl rfl lt0 ?_)
  refine VO.cons rfl (V1.extract rfl rfl rfl rfl lt0 ?_)
  refine VO.cons rfl (V1.assign rfl rfl rfl lt0 ?_)
  refine VO.cons rfl (V1.assign rfl rfl rfl lt0 ?_)
  refine VO.nil ?_
  refine V.keep 239 [0, 3, 4, 5, 6] [] (E0 := [(0, .vl ρ0 1 (List.map encU8 code)), (3, .vl rn 4 (List.map (encFormat rn) y1.1)), (4, .int .i64 y1.2), (5, .int .i64 y2.1), (6, .bool y2.2)]) (H0 := []) rfl (⟨_, _, rfl, rfl, ⟨_, _, rfl, rfl, ⟨_, _, rfl, rfl, ⟨_, _, rfl, rfl, ⟨_, _, rfl, rfl, rfl⟩⟩⟩⟩⟩) (rfl) rfl ?_
  refine V.seq ?_
  refine V.seq ?_
  replace hm0 := bindO hm0; rcases hm0 with ⟨y3, hh3, hm0⟩
  refine V.region ?_
  refine VO.cons rfl (V1.move rfl rfl rfl lt0 ?_)
  refine VO.cons rfl (V1.move rfl rfl rfl lt0 ?_)
  refine VO.cons rfl (V1.call rfl rfl rfl cok_24 rfl (ok_spec_LastReadable hh3) rfl lt0 ?_)
  rintro _ _ ⟨rfl, rfl⟩
  refine VO.cons rfl (V1.move rfl rfl rfl lt0 ?_)
  refine VO.cons rfl (V1.extract rfl rfl rfl rfl lt0 ?_)
  refine VO.cons rfl (V1.extract rfl rfl rfl rfl lt0 ?_)
  refine VO.cons rfl (V1.assign rfl rfl rfl lt0 ?_)
  refine VO.cons rfl (V1.assign rfl rfl rfl lt0 ?_)
  refine VO.nil ?_
  refine V.keep 239 [0, 3, 4, 5, 6, 7, 8] [] (E0 := [(0, .vl ρ0 1 (List.map encU8 code)), (3, .vl rn 4 (List.map (encFormat rn) y1.1)), (4, .int .i64 y1.2), (5, .int .i64 y2.1), (6, .bool y2.2), (7, .int .i64 y3.1), (8, .bool y3.2)]) (H0 := []) rfl (⟨_, _, rfl, rfl, ⟨_, _, rfl, rfl, ⟨_, _, rfl, rfl, ⟨_, _, rfl, rfl, ⟨_, _, rfl, rfl, ⟨_, _, rfl, rfl, ⟨_, _, rfl, rfl, rfl⟩⟩⟩⟩⟩⟩⟩) (rfl) rfl ?_
  refine V.seq ?_
  refine V.region ?_
  refine VO.cons rfl (V1.move rfl rfl rfl lt0 ?_)
  refine VO.cons rfl (V1.move rfl rfl rfl lt0 ?_)
  refine VO.cons rfl (V1.int rfl rfl rfl rfl rfl lt0 ?_)
  refine VO.cons rfl (V1.move rfl rfl rfl lt0 ?_)
  apply VO.or (n := 3) rfl rfl rfl rfl rfl rfl lt0 (.none rfl)
  ·
   intro hg0
   refine VO.step (.some rfl rfl rfl) (V1.move rfl rfl rfl lt0 ?_)
   refine VO.step (.some rfl rfl rfl) (V1.move rfl rfl rfl lt0 ?_)
   refine VO.step (.some rfl rfl rfl) (V1.boolNeq rfl rfl und_4 rfl rfl lt0 ?_)
   exact VO.nil ⟨rfl, rfl, rfl, rfl, .inr ⟨rfl, .inr ⟨rfl, .inr ⟨rfl, .inr ⟨rfl, .inl rfl⟩⟩⟩⟩⟩
  refine VO.nil ?_
  refine V.keep 239 [0, 3, 4, 5, 6, 65] [] (E0 := [(0, .vl ρ0 1 (List.map encU8 code)), (3, .vl rn 4 (List.map (encFormat rn) y1.1)), (4, .int .i64 y1.2), (5, .int .i64 y2.1), (6, .bool y2.2), (65, .bool ((y2.1 != y3.1) || (!(y2.2 == y3.2))))]) (H0 := []) rfl (⟨_, _, rfl, rfl, ⟨_, _, rfl, rfl, ⟨_, _, rfl, rfl, ⟨_, _, rfl, rfl, ⟨_, _, rfl, rfl, ⟨_, _, rfl, rfl, rfl⟩⟩⟩⟩⟩⟩) (rfl) rfl ?_
  refine V.cond rfl (fun hc1 => ?_) (fun hc1 => ?_)
  ·
   replace hm0 := cond_t hc1 hm0
   refine V.seq ?_
   refine V.region ?_
   refine VO.cons rfl (V1.assign rfl rfl rfl lt0 ?_)
   refine VO.nil ?_
   refine V.ret ?_
   obtain rfl := Option.some.inj hm0
   exact ⟨_, [], ⟨_, _, rfl, rfl, rfl⟩, List.nil_sublist _, rfl, rfl⟩
  ·
   replace hm0 := cond_f hc1 hm0
   refine V.skip ?_
   refine V.seq ?_
   replace hm0 := bindO hm0; rcases hm0 with ⟨j0, hm1, hm0⟩
   refine V.cutT (D := (Unit) × (Unit)) (fun ⟨_, _⟩ => ⟨239, [(0, .vl ρ0 1 (List.map encU8 code))], []⟩) (fun ⟨_, _⟩ => (.inl () = j0)) ?_ ?_
   ·
    refine V.seq ?_
    refine V.region ?_
    refine VO.cons rfl (V1.move rfl rfl rfl lt0 ?_)
    refine VO.nil ?_
    refine V.cond rfl (fun hc2 => ?_) (fun hc2 => ?_)
    ·
     replace hm1 := cond_t hc2 hm1
     refine V.seq ?_
     replace hm1 := bindO hm1; rcases hm1 with ⟨y4, hh4, hm1⟩
     refine V.region ?_
     refine VO.cons rfl (V1.move rfl rfl rfl lt0 ?_)
     refine VO.cons rfl (V1.move rfl rfl rfl lt0 ?_)
     refine VO.cons rfl (V1.move rfl rfl rfl lt0 ?_)
     refine VO.cons rfl (V1.call rfl rfl rfl cok_25 rfl (ok_impl_IsReadable hh4) rfl lt0 ?_)
     rintro _ _ ⟨rfl, rfl⟩
     refine VO.cons rfl (V1.move rfl rfl rfl lt0 ?_)
     refine VO.cons rfl (V1.extract rfl rfl rfl rfl lt0 ?_)
     refine VO.cons rfl (V1.extract rfl rfl rfl rfl lt0 ?_)
     refine VO.cons rfl (V1.assign rfl rfl rfl lt0 ?_)
     refine VO.cons rfl (V1.assign rfl rfl rfl lt0 ?_)
     refine VO.nil ?_
     refine V.keep 239 [0, 3, 4, 5, 9, 10] [] (E0 := [(0, .vl ρ0 1 (List.map encU8 code)), (3, .vl rn 4 (List.map (encFormat rn) y1.1)), (4, .int .i64 y1.2), (5, .int .i64 y2.1), (9, .bool y4.1), (10, .bool y4.2)]) (H0 := []) rfl (⟨_, _, rfl, rfl, ⟨_, _, rfl, rfl, ⟨_, _, rfl, rfl, ⟨_, _, rfl, rfl, ⟨_, _, rfl, rfl, ⟨_, _, rfl, rfl, rfl⟩⟩⟩⟩⟩⟩) (rfl) rfl ?_
     refine V.seq ?_
     replace hm1 := bindO hm1; rcases hm1 with ⟨y5, hh5, hm1⟩
     refine V.region ?_
     refine VO.cons rfl (V1.move rfl rfl rfl lt0 ?_)
     refine VO.cons rfl (V1.move rfl rfl rfl lt0 ?_)
     refine VO.cons rfl (V1.move rfl rfl rfl lt0 ?_)
     refine VO.cons rfl (V1.int rfl rfl rfl rfl rfl lt0 ?_)
     refine VO.cons rfl (V1.call rfl rfl rfl cok_25 rfl (ok_impl_IsReadable hh5) rfl lt0 ?_)
     rintro _ _ ⟨rfl, rfl⟩
     refine VO.cons rfl (V1.move rfl rfl rfl lt0 ?_)
     refine VO.cons rfl (V1.extract rfl rfl rfl rfl lt0 ?_)
     refine VO.cons rfl (V1.extract rfl rfl rfl rfl lt0 ?_)
     refine VO.cons rfl (V1.assign rfl rfl rfl lt0 ?_)
     refine VO.cons rfl (V1.assign rfl rfl rfl lt0 ?_)
     refine VO.nil ?_
     refine V.keep 239 [0, 9, 10, 11, 12] [] (E0 := [(0, .vl ρ0 1 (List.map encU8 code)), (9, .bool y4.1), (10, .bool y4.2), (11, .bool y5.1), (12, .bool y5.2)]) (H0 := []) rfl (⟨_, _, rfl, rfl, ⟨_, _, rfl, rfl, ⟨_, _, rfl, rfl, ⟨_, _, rfl, rfl, ⟨_, _, rfl, rfl, rfl⟩⟩⟩⟩⟩) (rfl) rfl ?_
     refine V.seq ?_
     refine V.region ?_
     refine VO.cons rfl (V1.move rfl rfl rfl lt0 ?_)
     refine VO.cons rfl (V1.not rfl rfl rfl lt0 ?_)
     refine VO.cons rfl (V1.move rfl rfl rfl lt0 ?_)
     apply VO.or (n := 2) rfl rfl rfl rfl rfl rfl lt0 (.none rfl)
     ·
      intro hg1
      refine VO.step (.some rfl rfl rfl) (V1.move rfl rfl rfl lt0 ?_)
      refine VO.step (.some rfl rfl rfl) (V1.not rfl rfl rfl lt0 ?_)
      exact VO.nil ⟨rfl, rfl, rfl, rfl, .inr ⟨rfl, .inr ⟨rfl, .inr ⟨rfl, .inl rfl⟩⟩⟩⟩
     refine VO.cons rfl (V1.move rfl rfl rfl lt0 ?_)
     apply VO.or (n := 4) rfl rfl rfl rfl rfl rfl lt0 (.none rfl)
     ·
      intro hg2
      refine VO.step (.some rfl rfl rfl) (V1.move rfl rfl rfl lt0 ?_)
      refine VO.step (.some rfl rfl rfl) (V1.move rfl rfl rfl lt0 ?_)
      apply VO.and (n := 1) rfl rfl rfl rfl rfl rfl lt0 (.some rfl rfl rfl)
      ·
       intro hg3
       refine VO.step (.some rfl rfl rfl) (V1.move rfl rfl rfl lt0 ?_)
       exact VO.nil ⟨rfl, rfl, rfl, rfl, .inr ⟨rfl, .inr ⟨rfl, .inl rfl⟩⟩⟩
      exact VO.nil ⟨rfl, rfl, rfl, rfl, .inr ⟨rfl, .inr ⟨rfl, .inr ⟨rfl, .inr ⟨rfl, .inl rfl⟩⟩⟩⟩⟩
     refine VO.nil ?_
     refine V.keep 239 [0, 93] [] (E0 := [(0, .vl ρ0 1 (List.map encU8 code)), (93, .bool (((!y4.2) || (!y4.1)) || (y5.2 && y5.1)))]) (H0 := []) rfl (⟨_, _, rfl, rfl, ⟨_, _, rfl, rfl, rfl⟩⟩) (rfl) rfl ?_
     refine V.cond rfl (fun hc3 => ?_) (fun hc3 => ?_)
     ·
      replace hm1 := cond_t hc3 hm1
      refine V.seq ?_
      refine V.region ?_
      refine VO.cons rfl (V1.assign rfl rfl rfl lt0 ?_)
      refine VO.nil ?_
      refine V.ret ?_
      obtain rfl := Option.some.inj hm1
      change some _ = some _ at hm0
      obtain rfl := Option.some.inj hm0
      exact ⟨_, [], ⟨_, _, rfl, rfl, rfl⟩, List.nil_sublist _, rfl, rfl⟩
     ·
      replace hm1 := cond_f hc3 hm1
      refine V.skip ?_
      exact ⟨((), ()), Option.some.inj hm1, Keeps.mk (ks := []) rfl ⟨rfl, trivial⟩ (rfl) rfl⟩
    ·
     replace hm1 := cond_f hc2 hm1
     refine V.skip ?_
     exact ⟨((), ()), Option.some.inj hm1, Keeps.mk (ks := []) rfl ⟨rfl, trivial⟩ (rfl) rfl⟩
   ·
    rintro ⟨_, _⟩ rfl
    try dsimp only at hm0
    refine V.seq ?_
    replace hm0 := bindO hm0; rcases hm0 with ⟨y6, hh6, hm0⟩
    refine V.region ?_
    refine VO.cons rfl (V1.move rfl rfl rfl lt0 ?_)
    refine VO.cons rfl (V1.call rfl rfl rfl cok_26 rfl (ok_spec_DrawLostRecords hh6) rfl lt0 ?_)
    rintro _ _ ⟨b1, b2, rfl, rfl⟩
    refine VO.cons rfl (V1.move rfl rfl rfl lt0 ?_)
    refine VO.cons rfl (V1.extract rfl rfl rfl rfl lt0 ?_)
    refine VO.weakenK (Keeps.freezeG 0 rn [(97, .vl rn 4 (List.map (encFormat rn) y6.1))] [(b2, ⟨4, List.map encCopy y6.2.1⟩)] (f := (encFormat rn)) (l := y6.1) rfl (fun _ => rfl) ⟨⟨_, rfl, .here⟩, trivial⟩ ⟨_, _, rfl, rfl, .inl rfl, rfl⟩ rfl iNil) ?_
    refine VO.cons rfl (V1.extract rfl rfl rfl rfl lt0 ?_)
    refine VO.weakenK (Keeps.freezeG 0 rn [(98, .vl rn 4 (List.map encCopy y6.2.1))] [] (f := encCopy) (l := y6.2.1) rfl (fun _ => rfl) ⟨⟨_, rfl, .here⟩, trivial⟩ rfl rfl iNil) ?_
    refine VO.cons rfl (V1.extract rfl rfl rfl rfl lt0 ?_)
    refine VO.cons rfl (V1.assign rfl rfl rfl lt0 ?_)
    refine VO.cons rfl (V1.assign rfl rfl rfl lt0 ?_)
    refine VO.cons rfl (V1.assign rfl rfl rfl lt0 ?_)
    refine VO.nil ?_
    refine V.keep 239 [0, 13, 14, 15] [] (E0 := [(0, .vl ρ0 1 (List.map encU8 code)), (13, .vl rn 4 (List.map (encFormat rn) y6.1)), (14, .vl rn 4 (List.map encCopy y6.2.1)), (15, .int .i64 y6.2.2)]) (H0 := []) rfl (⟨_, _, rfl, rfl, ⟨_, _, rfl, rfl, ⟨_, _, rfl, rfl, ⟨_, _, rfl, rfl, rfl⟩⟩⟩⟩) (rfl) rfl ?_
    refine V.seq ?_
    replace hm0 := bindO hm0; rcases hm0 with ⟨y7, hh7, hm0⟩
    refine V.region ?_
    refine VO.cons rfl (V1.move rfl rfl rfl lt0 ?_)
    refine VO.cons rfl (V1.move rfl rfl rfl lt0 ?_)
    refine VO.cons rfl (V1.move rfl rfl rfl lt0 ?_)
    refine VO.cons rfl (V1.permK (V1.call rfl rfl rfl cok_27 rfl (ok_impl_LostRecords hh7) rfl lt0 ?_))
    rintro _ _ ⟨ob0, hob0, rfl, rfl⟩
    refine ⟨_, ?_, Keeps.optBack (n := 1) (ob := ob0) (xs := List.map encInt y7.1) (H1 := []) (H2 := []) rfl⟩
    refine VO.cons rfl (V1.move rfl rfl rfl lt0 ?_)
    refine VO.cons rfl (V1.extract rfl rfl rfl rfl lt0 ?_)
    refine VO.weakenK (Keeps.optFront (n := 1) (ob := ob0) (xs := List.map encInt y7.1) (H1 := []) rfl) ?_
    refine VO.weakenK (Keeps.optVl 105 [] rn (f := encInt) (l := y7.1) (ob := ob0) (H1 := []) hob0 rfl rfl ⟨rfl, trivial⟩ (fun _ => rfl) rfl iNil) ?_
    refine VO.cons rfl (V1.extract rfl rfl rfl rfl lt0 ?_)
    refine VO.cons rfl (V1.assign rfl rfl rfl lt0 ?_)
    refine VO.cons rfl (V1.assign rfl rfl rfl lt0 ?_)
    refine VO.nil ?_
    refine V.keep 239 [0, 13, 14, 15, 16, 17] [] (E0 := [(0, .vl ρ0 1 (List.map encU8 code)), (13, .vl rn 4 (List.map (encFormat rn) y6.1)), (14, .vl rn 4 (List.map encCopy y6.2.1)), (15, .int .i64 y6.2.2), (16, .vl rn 1 (List.map encInt y7.1)), (17, .bool y7.2)]) (H0 := []) rfl (⟨_, _, rfl, rfl, ⟨_, _, rfl, rfl, ⟨_, _, rfl, rfl, ⟨_, _, rfl, rfl, ⟨_, _, rfl, rfl, ⟨_, _, rfl, rfl, rfl⟩⟩⟩⟩⟩⟩) (rfl) rfl ?_
    refine V.seq ?_
    refine V.seq ?_
    replace hm0 := bindO hm0; rcases hm0 with ⟨y8, hh8, hm0⟩
    refine V.region ?_
    refine VO.cons rfl (V1.move rfl rfl rfl lt0 ?_)
    refine VO.cons rfl (V1.move rfl rfl rfl lt0 ?_)
    refine VO.cons rfl (V1.move rfl rfl rfl lt0 ?_)
    refine VO.cons rfl (V1.call rfl rfl rfl cok_28 rfl (ok_spec_LostRecords hh8) rfl lt0 ?_)
    rintro _ _ ⟨b3, rfl, rfl⟩
    refine VO.cons rfl (V1.move rfl rfl rfl lt0 ?_)
    refine VO.cons rfl (V1.extract rfl rfl rfl rfl lt0 ?_)
    refine VO.weakenK (Keeps.freezeG 0 rn [(112, .vl rn 1 (List.map encInt y8.1))] [] (f := encInt) (l := y8.1) rfl (fun _ => rfl) ⟨⟨_, rfl, .here⟩, trivial⟩ rfl rfl iNil) ?_
    refine VO.cons rfl (V1.extract rfl rfl rfl rfl lt0 ?_)
    refine VO.cons rfl (V1.assign rfl rfl rfl lt0 ?_)
    refine VO.cons rfl (V1.assign rfl rfl rfl lt0 ?_)
    refine VO.nil ?_
    refine V.keep 239 [0, 13, 14, 15, 16, 17, 18, 19] [] (E0 := [(0, .vl ρ0 1 (List.map encU8 code)), (13, .vl rn 4 (List.map (encFormat rn) y6.1)), (14, .vl rn 4 (List.map encCopy y6.2.1)), (15, .int .i64 y6.2.2), (16, .vl rn 1 (List.map encInt y7.1)), (17, .bool y7.2), (18, .vl rn 1 (List.map encInt y8.1)), (19, .bool y8.2)]) (H0 := []) rfl (⟨_, _, rfl, rfl, ⟨_, _, rfl, rfl, ⟨_, _, rfl, rfl, ⟨_, _, rfl, rfl, ⟨_, _, rfl, rfl, ⟨_, _, rfl, rfl, ⟨_, _, rfl, rfl, ⟨_, _, rfl, rfl, rfl⟩⟩⟩⟩⟩⟩⟩⟩) (rfl) rfl ?_
    refine V.seq ?_
    replace hm0 := bindO hm0; rcases hm0 with ⟨y9, hh9, hm0⟩
    refine V.region ?_
    refine VO.cons rfl (V1.move rfl rfl rfl lt0 ?_)
    refine VO.cons rfl (V1.move rfl rfl rfl lt0 ?_)
    refine VO.cons rfl (V1.boolNeq rfl rfl und_4 rfl rfl lt0 ?_)
    refine VO.cons rfl (V1.move rfl rfl rfl lt0 ?_)
    apply VO.or (n := 4) rfl rfl rfl rfl rfl rfl lt0 (.none rfl)
    ·
     intro hg4
     refine VO.step (.some rfl rfl rfl) (V1.move rfl rfl rfl lt0 ?_)
     refine VO.step (.some rfl rfl rfl) (V1.move rfl rfl rfl lt0 ?_)
     refine VO.step (.some rfl rfl rfl) (V1.call rfl rfl rfl cok_12 rfl (ok_laws_rInts (cond_f hg4 hh9)) rfl lt0 ?_)
     rintro _ _ ⟨rfl, rfl⟩
     refine VO.step (.some rfl rfl rfl) (V1.not rfl rfl rfl lt0 ?_)
     exact VO.nil ⟨rfl, rfl, rfl, rfl, .inr ⟨rfl, .inr ⟨rfl, .inr ⟨rfl, .inr ⟨rfl, .inr ⟨rfl, .inl rfl⟩⟩⟩⟩⟩⟩
    refine VO.nil ?_
    refine V.keep 239 [0, 13, 14, 15, 16, 17, 122] [] (E0 := [(0, .vl ρ0 1 (List.map encU8 code)), (13, .vl rn 4 (List.map (encFormat rn) y6.1)), (14, .vl rn 4 (List.map encCopy y6.2.1)), (15, .int .i64 y6.2.2), (16, .vl rn 1 (List.map encInt y7.1)), (17, .bool y7.2), (122, .bool ((!(y7.2 == y8.2)) || (!y9)))]) (H0 := []) rfl (⟨_, _, rfl, rfl, ⟨_, _, rfl, rfl, ⟨_, _, rfl, rfl, ⟨_, _, rfl, rfl, ⟨_, _, rfl, rfl, ⟨_, _, rfl, rfl, ⟨_, _, rfl, rfl, rfl⟩⟩⟩⟩⟩⟩⟩) (rfl) rfl ?_
    refine V.cond rfl (fun hc4 => ?_) (fun hc4 => ?_)
    ·
     replace hm0 := cond_t hc4 hm0
     refine V.seq ?_
     refine V.region ?_
     refine VO.cons rfl (V1.assign rfl rfl rfl lt0 ?_)
     refine VO.nil ?_
     refine V.ret ?_
     obtain rfl := Option.some.inj hm0
     exact ⟨_, [], ⟨_, _, rfl, rfl, rfl⟩, List.nil_sublist _, rfl, rfl⟩
    ·
     replace hm0 := cond_f hc4 hm0
     refine V.skip ?_
     refine V.seq ?_
     replace hm0 := bindO hm0; rcases hm0 with ⟨j1, hm1, hm0⟩
     refine V.cutT (D := (Unit) × (Unit)) (fun ⟨_, _⟩ => ⟨239, [(0, .vl ρ0 1 (List.map encU8 code))], []⟩) (fun ⟨_, _⟩ => (.inl () = j1)) ?_ ?_
     ·
      refine V.seq ?_
      replace hm1 := bindO hm1; rcases hm1 with ⟨y10, hh10, hm1⟩
      refine V.region ?_
      refine VO.cons rfl (V1.move rfl rfl rfl lt0 ?_)
      refine VO.cons rfl (V1.move rfl rfl rfl lt0 ?_)
      refine VO.cons rfl (V1.move rfl rfl rfl lt0 ?_)
      refine VO.cons rfl (V1.int rfl rfl rfl rfl rfl lt0 ?_)
      refine VO.cons rfl (V1.permK (V1.call rfl rfl rfl cok_27 rfl (ok_impl_LostRecords hh10) rfl lt0 ?_))
      rintro _ _ ⟨ob1, hob1, rfl, rfl⟩
      refine ⟨_, ?_, Keeps.optBack (n := 1) (ob := ob1) (xs := List.map encInt y10.1) (H1 := []) (H2 := []) rfl⟩
      refine VO.cons rfl (V1.move rfl rfl rfl lt0 ?_)
      refine VO.cons rfl (V1.extract rfl rfl rfl rfl lt0 ?_)
      refine VO.weakenK (Keeps.optFront (n := 1) (ob := ob1) (xs := List.map encInt y10.1) (H1 := []) rfl) ?_
      refine VO.weakenK (Keeps.optVl 129 [] rn (f := encInt) (l := y10.1) (ob := ob1) (H1 := []) hob1 rfl rfl ⟨rfl, trivial⟩ (fun _ => rfl) rfl iNil) ?_
      refine VO.cons rfl (V1.extract rfl rfl rfl rfl lt0 ?_)
      refine VO.cons rfl (V1.assign rfl rfl rfl lt0 ?_)
      refine VO.cons rfl (V1.assign rfl rfl rfl lt0 ?_)
      refine VO.nil ?_
      refine V.keep 239 [0, 16, 17, 20, 21] [] (E0 := [(0, .vl ρ0 1 (List.map encU8 code)), (16, .vl rn 1 (List.map encInt y7.1)), (17, .bool y7.2), (20, .vl rn 1 (List.map encInt y10.1)), (21, .bool y10.2)]) (H0 := []) rfl (⟨_, _, rfl, rfl, ⟨_, _, rfl, rfl, ⟨_, _, rfl, rfl, ⟨_, _, rfl, rfl, ⟨_, _, rfl, rfl, rfl⟩⟩⟩⟩⟩) (rfl) rfl ?_
      refine V.seq ?_
      refine V.region ?_
      refine VO.cons rfl (V1.move rfl rfl rfl lt0 ?_)
      refine VO.cons rfl (V1.move rfl rfl rfl lt0 ?_)
      apply VO.and (n := 1) rfl rfl rfl rfl rfl rfl lt0 (.none rfl)
      ·
       intro hg5
       refine VO.step (.some rfl rfl rfl) (V1.move rfl rfl rfl lt0 ?_)
       exact VO.nil ⟨rfl, rfl, rfl, rfl, .inr ⟨rfl, .inr ⟨rfl, .inl rfl⟩⟩⟩
      refine VO.nil ?_
      refine V.keep 239 [0, 16, 20, 134] [] (E0 := [(0, .vl ρ0 1 (List.map encU8 code)), (16, .vl rn 1 (List.map encInt y7.1)), (20, .vl rn 1 (List.map encInt y10.1)), (134, .bool (y7.2 && y10.2))]) (H0 := []) rfl (⟨_, _, rfl, rfl, ⟨_, _, rfl, rfl, ⟨_, _, rfl, rfl, ⟨_, _, rfl, rfl, rfl⟩⟩⟩⟩) (rfl) rfl ?_
      refine V.cond rfl (fun hc5 => ?_) (fun hc5 => ?_)
      ·
       replace hm1 := cond_t hc5 hm1
       refine V.seq ?_
       refine V.region ?_
       refine VO.cons rfl (V1.assign rfl rfl rfl lt0 ?_)
       refine VO.nil ?_
       replace hm1 := bindO hm1; rcases hm1 with ⟨e0, he2, hm1⟩
       refine V.cutT (D := (Unit) × (Unit)) (fun ⟨_, _⟩ => ⟨239, [(0, .vl ρ0 1 (List.map encU8 code))], []⟩) (fun ⟨_, _⟩ => (.inl () = e0)) ?_ ?_
       ·
        refine V.block ?_
        refine V.keep 239 [22, 0, 16, 20] [] (E0 := [(22, .int .i64 (0 : Int)), (0, .vl ρ0 1 (List.map encU8 code)), (16, .vl rn 1 (List.map encInt y7.1)), (20, .vl rn 1 (List.map encInt y10.1))]) (H0 := []) rfl (⟨_, _, rfl, rfl, ⟨_, _, rfl, rfl, ⟨_, _, rfl, rfl, ⟨_, _, rfl, rfl, rfl⟩⟩⟩⟩) (rfl) rfl ?_
        refine V.loopE (D := Nat × (Int) × (Unit)) (fun ⟨n0, i, _⟩ => [(22, .int .i64 i)]) (fun ⟨n0, i, _⟩ => []) (fun ⟨n0, i, _⟩ => loopO (M.laws_FnFormats_l0 y7 y10) n0 i = some e0) (fun ⟨n0, _, _⟩ => n0) (rounds, (0 : Int), ()) rfl he2 ?_
        rintro ⟨n0, i, _⟩ hP0
        obtain ⟨m0, y11, rfl, hm2, hl2, hr2⟩ := loop_head hP0
        unfold M.laws_FnFormats_l0 at hm2; dsimp only at hm2
        show V _ _ _ ⟨239, [(22, .int .i64 i), (0, .vl ρ0 1 (List.map encU8 code)), (16, .vl rn 1 (List.map encInt y7.1)), (20, .vl rn 1 (List.map encInt y10.1))], []⟩
        refine V.seq ?_
        refine V.seq ?_
        refine V.region ?_
        refine VO.cons rfl (V1.move rfl rfl rfl lt0 ?_)
        refine VO.cons rfl (V1.move rfl rfl rfl lt0 ?_)
        refine VO.cons rfl (V1.lenMap rfl rfl rfl rfl rfl rfl isl_31 lt0 ?_)
        refine VO.cons rfl (V1.int rfl rfl rfl rfl rfl lt0 ?_)
        refine VO.nil ?_
        refine V.cond rfl (fun hc6 => ?_) (fun hc6 => ?_)
        ·
         replace hm2 := cond_t hc6 hm2
         refine V.skip ?_
         refine V.keep 239 [0, 16, 20, 22] [] (E0 := [(0, .vl ρ0 1 (List.map encU8 code)), (16, .vl rn 1 (List.map encInt y7.1)), (20, .vl rn 1 (List.map encInt y10.1)), (22, .int .i64 i)]) (H0 := []) rfl (⟨_, _, rfl, rfl, ⟨_, _, rfl, rfl, ⟨_, _, rfl, rfl, ⟨_, _, rfl, rfl, rfl⟩⟩⟩⟩) (rfl) rfl ?_
         refine V.seq ?_
         refine V.block ?_
         refine V.seq ?_
         replace hm2 := asrt_some hm2; rcases hm2 with ⟨hh11, hm2⟩
         replace hm2 := bindO hm2; rcases hm2 with ⟨y12, hh12, hm2⟩
         refine V.region ?_
         refine VO.cons rfl (V1.move rfl rfl rfl lt0 ?_)
         refine VO.cons rfl (V1.move rfl rfl rfl lt0 ?_)
         refine VO.cons rfl (V1.move rfl rfl rfl lt0 ?_)
         refine VO.cons rfl (V1.indexI rfl rfl esz_31 rfl rfl hh11 lt0 ?_)
         refine VO.cons rfl (V1.loadPin rfl rfl tyk_3 rfl rfl lt0 ?_)
         refine VO.cons rfl (V1.call rfl rfl rfl cok_14 rfl (ok_laws_rHas hh12) rfl lt0 ?_)
         rintro _ _ ⟨rfl, rfl⟩
         refine VO.cons rfl (V1.not rfl rfl rfl lt0 ?_)
         refine VO.nil ?_
         refine V.keep 239 [0, 16, 20, 22, 147] [] (E0 := [(0, .vl ρ0 1 (List.map encU8 code)), (16, .vl rn 1 (List.map encInt y7.1)), (20, .vl rn 1 (List.map encInt y10.1)), (22, .int .i64 i), (147, .bool (!y12))]) (H0 := []) rfl (⟨_, _, rfl, rfl, ⟨_, _, rfl, rfl, ⟨_, _, rfl, rfl, ⟨_, _, rfl, rfl, ⟨_, _, rfl, rfl, rfl⟩⟩⟩⟩⟩) (rfl) rfl ?_
         refine V.cond rfl (fun hc7 => ?_) (fun hc7 => ?_)
         ·
          replace hm2 := cond_t hc7 hm2
          refine V.seq ?_
          refine V.region ?_
          refine VO.cons rfl (V1.assign rfl rfl rfl lt0 ?_)
          refine VO.nil ?_
          refine V.ret ?_
          obtain rfl := hr2 _ (Option.some.inj hm2).symm
          change some _ = some _ at hm1
          obtain rfl := Option.some.inj hm1
          change some _ = some _ at hm0
          obtain rfl := Option.some.inj hm0
          exact ⟨_, [], ⟨_, _, rfl, rfl, rfl⟩, List.nil_sublist _, rfl, rfl⟩
         ·
          replace hm2 := cond_f hc7 hm2
          refine V.skip ?_
          refine V.region ?_
          refine VO.cons rfl (V1.move rfl rfl rfl lt0 ?_)
          refine VO.cons rfl (V1.int rfl rfl rfl rfl rfl lt0 ?_)
          refine VO.cons rfl (V1.assign rfl rfl rfl lt0 ?_)
          refine VO.nil ?_
          exact ⟨(m0, (IntKind.i64.wrap (i + (1 : Int))), ()), hl2 _ (Option.some.inj hm2).symm, Nat.lt_succ_self _, Keeps.mk (ks := []) rfl ⟨rfl, rfl, rfl, rfl, trivial⟩ (rfl) rfl⟩
        ·
         replace hm2 := cond_f hc6 hm2
         refine V.exit ?_
         obtain rfl := hr2 _ (Option.some.inj hm2).symm
         exact ⟨((), ()), rfl, Keeps.mk (ks := []) rfl ⟨rfl, trivial⟩ (rfl) rfl⟩
       ·
        rintro ⟨_, _⟩ rfl
        try dsimp only at hm1
        exact ⟨((), ()), Option.some.inj hm1, Keeps.mk (ks := []) rfl ⟨rfl, trivial⟩ (rfl) rfl⟩
      ·
       replace hm1 := cond_f hc5 hm1
       refine V.skip ?_
       exact ⟨((), ()), Option.some.inj hm1, Keeps.mk (ks := []) rfl ⟨rfl, trivial⟩ (rfl) rfl⟩
     ·
      rintro ⟨_, _⟩ rfl
      try dsimp only at hm0
      refine V.seq ?_
      replace hm0 := bindO hm0; rcases hm0 with ⟨y13, hh13, hm0⟩
      refine V.region ?_
      refine VO.cons rfl (V1.move rfl rfl rfl lt0 ?_)
      refine VO.cons rfl (V1.call rfl rfl rfl cok_29 rfl (ok_spec_DrawSizeByFormat hh13) rfl lt0 ?_)
      rintro _ _ ⟨b4, b5, rfl, rfl⟩
      refine VO.cons rfl (V1.move rfl rfl rfl lt0 ?_)
      refine VO.cons rfl (V1.extract rfl rfl rfl rfl lt0 ?_)
      refine VO.weakenK (Keeps.freezeG 0 rn [(151, .vl rn 4 (List.map (encFormat rn) y13.1))] [(b5, ⟨4, List.map encCopy y13.2⟩)] (f := (encFormat rn)) (l := y13.1) rfl (fun _ => rfl) ⟨⟨_, rfl, .here⟩, trivial⟩ ⟨_, _, rfl, rfl, .inl rfl, rfl⟩ rfl iNil) ?_
      refine VO.cons rfl (V1.extract rfl rfl rfl rfl lt0 ?_)
      refine VO.weakenK (Keeps.freezeG 0 rn [(152, .vl rn 4 (List.map encCopy y13.2))] [] (f := encCopy) (l := y13.2) rfl (fun _ => rfl) ⟨⟨_, rfl, .here⟩, trivial⟩ rfl rfl iNil) ?_
      refine VO.cons rfl (V1.assign rfl rfl rfl lt0 ?_)
      refine VO.cons rfl (V1.assign rfl rfl rfl lt0 ?_)
      refine VO.nil ?_
      refine V.keep 239 [0, 23, 24] [] (E0 := [(0, .vl ρ0 1 (List.map encU8 code)), (23, .vl rn 4 (List.map (encFormat rn) y13.1)), (24, .vl rn 4 (List.map encCopy y13.2))]) (H0 := []) rfl (⟨_, _, rfl, rfl, ⟨_, _, rfl, rfl, ⟨_, _, rfl, rfl, rfl⟩⟩⟩) (rfl) rfl ?_
      refine V.seq ?_
      replace hm0 := bindO hm0; rcases hm0 with ⟨y14, hh14, hm0⟩
      refine V.region ?_
      refine VO.cons rfl (V1.move rfl rfl rfl lt0 ?_)
      refine VO.cons rfl (V1.move rfl rfl rfl lt0 ?_)
      refine VO.cons rfl (V1.permK (V1.call rfl rfl rfl cok_30 rfl (ok_impl_SizeByFormat hh14) rfl lt0 ?_))
      rintro _ _ ⟨ob2, hob2, rfl, rfl⟩
      refine ⟨_, ?_, Keeps.optBack (n := 1) (ob := ob2) (xs := List.map encInt y14.1) (H1 := []) (H2 := []) rfl⟩
      refine VO.cons rfl (V1.move rfl rfl rfl lt0 ?_)
      refine VO.cons rfl (V1.extract rfl rfl rfl rfl lt0 ?_)
      refine VO.weakenK (Keeps.optFront (n := 1) (ob := ob2) (xs := List.map encInt y14.1) (H1 := []) rfl) ?_
      refine VO.weakenK (Keeps.optVl 157 [] rn (f := encInt) (l := y14.1) (ob := ob2) (H1 := []) hob2 rfl rfl ⟨rfl, trivial⟩ (fun _ => rfl) rfl iNil) ?_
      refine VO.cons rfl (V1.extract rfl rfl rfl rfl lt0 ?_)
      refine VO.cons rfl (V1.assign rfl rfl rfl lt0 ?_)
      refine VO.cons rfl (V1.assign rfl rfl rfl lt0 ?_)
      refine VO.nil ?_
      refine V.keep 239 [0, 23, 24, 25, 26] [] (E0 := [(0, .vl ρ0 1 (List.map encU8 code)), (23, .vl rn 4 (List.map (encFormat rn) y13.1)), (24, .vl rn 4 (List.map encCopy y13.2)), (25, .vl rn 1 (List.map encInt y14.1)), (26, .bool y14.2)]) (H0 := []) rfl (⟨_, _, rfl, rfl, ⟨_, _, rfl, rfl, ⟨_, _, rfl, rfl, ⟨_, _, rfl, rfl, ⟨_, _, rfl, rfl, rfl⟩⟩⟩⟩⟩) (rfl) rfl ?_
      refine V.seq ?_
      refine V.seq ?_
      replace hm0 := bindO hm0; rcases hm0 with ⟨y15, hh15, hm0⟩
      refine V.region ?_
      refine VO.cons rfl (V1.move rfl rfl rfl lt0 ?_)
      refine VO.cons rfl (V1.move rfl rfl rfl lt0 ?_)
      refine VO.cons rfl (V1.call rfl rfl rfl cok_31 rfl (ok_spec_SizeByFormat hh15) rfl lt0 ?_)
      rintro _ _ ⟨b6, rfl, rfl⟩
      refine VO.cons rfl (V1.move rfl rfl rfl lt0 ?_)
      refine VO.cons rfl (V1.extract rfl rfl rfl rfl lt0 ?_)
      refine VO.weakenK (Keeps.freezeG 0 rn [(163, .vl rn 1 (List.map encInt y15.1))] [] (f := encInt) (l := y15.1) rfl (fun _ => rfl) ⟨⟨_, rfl, .here⟩, trivial⟩ rfl rfl iNil) ?_
      refine VO.cons rfl (V1.extract rfl rfl rfl rfl lt0 ?_)
      refine VO.cons rfl (V1.assign rfl rfl rfl lt0 ?_)
      refine VO.cons rfl (V1.assign rfl rfl rfl lt0 ?_)
      refine VO.nil ?_
      refine V.keep 239 [0, 23, 24, 25, 26, 27, 28] [] (E0 := [(0, .vl ρ0 1 (List.map encU8 code)), (23, .vl rn 4 (List.map (encFormat rn) y13.1)), (24, .vl rn 4 (List.map encCopy y13.2)), (25, .vl rn 1 (List.map encInt y14.1)), (26, .bool y14.2), (27, .vl rn 1 (List.map encInt y15.1)), (28, .bool y15.2)]) (H0 := []) rfl (⟨_, _, rfl, rfl, ⟨_, _, rfl, rfl, ⟨_, _, rfl, rfl, ⟨_, _, rfl, rfl, ⟨_, _, rfl, rfl, ⟨_, _, rfl, rfl, ⟨_, _, rfl, rfl, rfl⟩⟩⟩⟩⟩⟩⟩) (rfl) rfl ?_
      refine V.seq ?_
      replace hm0 := bindO hm0; rcases hm0 with ⟨y16, hh16, hm0⟩
      replace hm0 := bindO hm0; rcases hm0 with ⟨y17, hh17, hm0⟩
      refine V.region ?_
      refine VO.cons rfl (V1.move rfl rfl rfl lt0 ?_)
      refine VO.cons rfl (V1.move rfl rfl rfl lt0 ?_)
      refine VO.cons rfl (V1.boolNeq rfl rfl und_4 rfl rfl lt0 ?_)
      refine VO.cons rfl (V1.move rfl rfl rfl lt0 ?_)
      apply VO.or (n := 4) rfl rfl rfl rfl rfl rfl lt0 (.none rfl)
      ·
       intro hg6
       refine VO.step (.some rfl rfl rfl) (V1.move rfl rfl rfl lt0 ?_)
       refine VO.step (.some rfl rfl rfl) (V1.move rfl rfl rfl lt0 ?_)
       refine VO.step (.some rfl rfl rfl) (V1.call rfl rfl rfl cok_12 rfl (ok_laws_rInts (cond_f hg6 hh16)) rfl lt0 ?_)
       rintro _ _ ⟨rfl, rfl⟩
       refine VO.step (.some rfl rfl rfl) (V1.not rfl rfl rfl lt0 ?_)
       exact VO.nil ⟨rfl, rfl, rfl, rfl, .inr ⟨rfl, .inr ⟨rfl, .inr ⟨rfl, .inr ⟨rfl, .inr ⟨rfl, .inl rfl⟩⟩⟩⟩⟩⟩
      refine VO.cons rfl (V1.move rfl rfl rfl lt0 ?_)
      apply VO.or (n := 5) rfl rfl rfl rfl rfl rfl lt0 (.none rfl)
      ·
       intro hg7
       refine VO.step (.some rfl rfl rfl) (V1.move rfl rfl rfl lt0 ?_)
       refine VO.step (.some rfl rfl rfl) (V1.move rfl rfl rfl lt0 ?_)
       refine VO.step (.some rfl rfl rfl) (V1.move rfl rfl rfl lt0 ?_)
       refine VO.step (.some rfl rfl rfl) (V1.call rfl rfl rfl cok_32 rfl (ok_impl_AreCopies (cond_f hg7 hh17)) rfl lt0 ?_)
       rintro _ _ ⟨rfl, rfl⟩
       refine VO.step (.some rfl rfl rfl) (V1.boolNeq rfl rfl und_4 rfl rfl lt0 ?_)
       exact VO.nil ⟨rfl, rfl, rfl, rfl, .inr ⟨rfl, .inr ⟨rfl, .inr ⟨rfl, .inr ⟨rfl, .inr ⟨rfl, .inr ⟨rfl, .inl rfl⟩⟩⟩⟩⟩⟩⟩
      refine VO.nil ?_
      refine V.keep 239 [0, 24, 25, 26, 180] [] (E0 := [(0, .vl ρ0 1 (List.map encU8 code)), (24, .vl rn 4 (List.map encCopy y13.2)), (25, .vl rn 1 (List.map encInt y14.1)), (26, .bool y14.2), (180, .bool (((!(y14.2 == y15.2)) || (!y16)) || (!(y14.2 == y17))))]) (H0 := []) rfl (⟨_, _, rfl, rfl, ⟨_, _, rfl, rfl, ⟨_, _, rfl, rfl, ⟨_, _, rfl, rfl, ⟨_, _, rfl, rfl, rfl⟩⟩⟩⟩⟩) (rfl) rfl ?_
      refine V.cond rfl (fun hc8 => ?_) (fun hc8 => ?_)
      ·
       replace hm0 := cond_t hc8 hm0
       refine V.seq ?_
       refine V.region ?_
       refine VO.cons rfl (V1.assign rfl rfl rfl lt0 ?_)
       refine VO.nil ?_
       refine V.ret ?_
       obtain rfl := Option.some.inj hm0
       exact ⟨_, [], ⟨_, _, rfl, rfl, rfl⟩, List.nil_sublist _, rfl, rfl⟩
      ·
       replace hm0 := cond_f hc8 hm0
       refine V.skip ?_
       refine V.seq ?_
       refine V.region ?_
       refine VO.cons rfl (V1.assign rfl rfl rfl lt0 ?_)
       refine VO.nil ?_
       refine V.seq ?_
       refine V.seq ?_
       refine V.region ?_
       refine VO.cons rfl (V1.assign rfl rfl rfl lt0 ?_)
       refine VO.nil ?_
       replace hm0 := bindO hm0; rcases hm0 with ⟨e1, he1, hm0⟩
       refine V.cutT (D := (Int) × (Unit)) (fun ⟨sum_, _⟩ => ⟨239, [(29, .int .i64 sum_), (0, .vl ρ0 1 (List.map encU8 code)), (25, .vl rn 1 (List.map encInt y14.1))], []⟩) (fun ⟨sum_, _⟩ => (sum_ = e1)) ?_ ?_
       ·
        refine V.block ?_
        refine V.keep 239 [29, 30, 0, 24, 25, 26] [] (E0 := [(29, .int .i64 (0 : Int)), (30, .int .i64 (0 : Int)), (0, .vl ρ0 1 (List.map encU8 code)), (24, .vl rn 4 (List.map encCopy y13.2)), (25, .vl rn 1 (List.map encInt y14.1)), (26, .bool y14.2)]) (H0 := []) rfl (⟨_, _, rfl, rfl, ⟨_, _, rfl, rfl, ⟨_, _, rfl, rfl, ⟨_, _, rfl, rfl, ⟨_, _, rfl, rfl, ⟨_, _, rfl, rfl, rfl⟩⟩⟩⟩⟩⟩) (rfl) rfl ?_
        refine V.loopE (D := Nat × (Int × Int) × (Unit)) (fun ⟨n1, ⟨sum_0, i0⟩, _⟩ => [(29, .int .i64 sum_0), (30, .int .i64 i0)]) (fun ⟨n1, ⟨sum_0, i0⟩, _⟩ => []) (fun ⟨n1, ⟨sum_0, i0⟩, _⟩ => loopO (M.laws_FnFormats_l1 y13 y14) n1 (sum_0, i0) = some e1) (fun ⟨n1, _, _⟩ => n1) (rounds, ((0 : Int), (0 : Int)), ()) rfl he1 ?_
        rintro ⟨n1, ⟨sum_0, i0⟩, _⟩ hP1
        obtain ⟨m1, y18, rfl, hm1, hl1, hr1⟩ := loop_head hP1
        unfold M.laws_FnFormats_l1 at hm1; dsimp only at hm1
        show V _ _ _ ⟨239, [(29, .int .i64 sum_0), (30, .int .i64 i0), (0, .vl ρ0 1 (List.map encU8 code)), (24, .vl rn 4 (List.map encCopy y13.2)), (25, .vl rn 1 (List.map encInt y14.1)), (26, .bool y14.2)], []⟩
        refine V.seq ?_
        refine V.seq ?_
        refine V.region ?_
        refine VO.cons rfl (V1.move rfl rfl rfl lt0 ?_)
        refine VO.cons rfl (V1.move rfl rfl rfl lt0 ?_)
        refine VO.cons rfl (V1.lenMap rfl rfl rfl rfl rfl rfl isl_50 lt0 ?_)
        refine VO.cons rfl (V1.int rfl rfl rfl rfl rfl lt0 ?_)
        refine VO.cons rfl (V1.move rfl rfl rfl lt0 ?_)
        apply VO.and (n := 1) rfl rfl rfl rfl rfl rfl lt0 (.none rfl)
        ·
         intro hg8
         refine VO.step (.some rfl rfl rfl) (V1.move rfl rfl rfl lt0 ?_)
         exact VO.nil ⟨rfl, rfl, rfl, rfl, .inr ⟨rfl, .inr ⟨rfl, .inl rfl⟩⟩⟩
        refine VO.nil ?_
        refine V.keep 239 [0, 24, 25, 26, 29, 30, 187] [] (E0 := [(0, .vl ρ0 1 (List.map encU8 code)), (24, .vl rn 4 (List.map encCopy y13.2)), (25, .vl rn 1 (List.map encInt y14.1)), (26, .bool y14.2), (29, .int .i64 sum_0), (30, .int .i64 i0), (187, .bool ((decide (i0 < (y13.2.length : Int))) && y14.2))]) (H0 := []) rfl (⟨_, _, rfl, rfl, ⟨_, _, rfl, rfl, ⟨_, _, rfl, rfl, ⟨_, _, rfl, rfl, ⟨_, _, rfl, rfl, ⟨_, _, rfl, rfl, ⟨_, _, rfl, rfl, rfl⟩⟩⟩⟩⟩⟩⟩) (rfl) rfl ?_
        refine V.cond rfl (fun hc9 => ?_) (fun hc9 => ?_)
        ·
         replace hm1 := cond_t hc9 hm1
         refine V.skip ?_
         refine V.seq ?_
         refine V.block ?_
         replace hm1 := asrt_some hm1; rcases hm1 with ⟨hh18, hm1⟩
         refine V.region ?_
         refine VO.cons rfl (V1.move rfl rfl rfl lt0 ?_)
         refine VO.cons rfl (V1.move rfl rfl rfl lt0 ?_)
         refine VO.cons rfl (V1.move rfl rfl rfl lt0 ?_)
         refine VO.cons rfl (V1.indexI rfl rfl esz_50 rfl rfl hh18 lt0 ?_)
         refine VO.cons rfl (V1.fieldPin rfl rfl fo_59_2 rfl lt0 ?_)
         refine VO.cons rfl (V1.loadPin rfl rfl tyk_3 rfl rfl lt0 ?_)
         refine VO.cons rfl (V1.int rfl rfl rfl rfl rfl lt0 ?_)
         refine VO.cons rfl (V1.assign rfl rfl rfl lt0 ?_)
         refine VO.nil ?_
         refine V.keep 239 [0, 24, 25, 26, 29, 30] [] (E0 := [(0, .vl ρ0 1 (List.map encU8 code)), (24, .vl rn 4 (List.map encCopy y13.2)), (25, .vl rn 1 (List.map encInt y14.1)), (26, .bool y14.2), (29, .int .i64 (IntKind.i64.wrap (sum_0 + ((y13.2.getD (Int.toNat i0) default).Size)))), (30, .int .i64 i0)]) (H0 := []) rfl (⟨_, _, rfl, rfl, ⟨_, _, rfl, rfl, ⟨_, _, rfl, rfl, ⟨_, _, rfl, rfl, ⟨_, _, rfl, rfl, ⟨_, _, rfl, rfl, rfl⟩⟩⟩⟩⟩⟩) (rfl) rfl ?_
         refine V.region ?_
         refine VO.cons rfl (V1.move rfl rfl rfl lt0 ?_)
         refine VO.cons rfl (V1.int rfl rfl rfl rfl rfl lt0 ?_)
         refine VO.cons rfl (V1.assign rfl rfl rfl lt0 ?_)
         refine VO.nil ?_
         exact ⟨(m1, ((IntKind.i64.wrap (sum_0 + ((y13.2.getD (Int.toNat i0) default).Size))), (IntKind.i64.wrap (i0 + (1 : Int)))), ()), hl1 _ (Option.some.inj hm1).symm, Nat.lt_succ_self _, Keeps.mk (ks := []) rfl ⟨rfl, rfl, rfl, rfl, rfl, rfl, trivial⟩ (rfl) rfl⟩
        ·
         replace hm1 := cond_f hc9 hm1
         refine V.exit ?_
         obtain rfl := hr1 _ (Option.some.inj hm1).symm
         exact ⟨(sum_0, ()), rfl, Keeps.mk (ks := []) rfl ⟨rfl, rfl, rfl, trivial⟩ (rfl) rfl⟩
       ·
        rintro ⟨sum_, _⟩ rfl
        try dsimp only at hm0
        refine V.seq ?_
        refine V.seq ?_
        replace hm0 := bindO hm0; rcases hm0 with ⟨y19, hh19, hm0⟩
        refine V.region ?_
        refine VO.cons rfl (V1.move rfl rfl rfl lt0 ?_)
        refine VO.cons rfl (V1.call rfl rfl rfl cok_33 rfl (ok_laws_rSum hh19) rfl lt0 ?_)
        rintro _ _ ⟨rfl, rfl⟩
        refine VO.cons rfl (V1.move rfl rfl rfl lt0 ?_)
        refine VO.cons rfl (V1.int rfl rfl rfl rfl rfl lt0 ?_)
        refine VO.nil ?_
        refine V.keep 239 [0, 200] [] (E0 := [(0, .vl ρ0 1 (List.map encU8 code)), (200, .bool (y19 != sum_))]) (H0 := []) rfl (⟨_, _, rfl, rfl, ⟨_, _, rfl, rfl, rfl⟩⟩) (rfl) rfl ?_
        refine V.cond rfl (fun hc10 => ?_) (fun hc10 => ?_)
        ·
         replace hm0 := cond_t hc10 hm0
         refine V.seq ?_
         refine V.region ?_
         refine VO.cons rfl (V1.assign rfl rfl rfl lt0 ?_)
         refine VO.nil ?_
         refine V.ret ?_
         obtain rfl := Option.some.inj hm0
         exact ⟨_, [], ⟨_, _, rfl, rfl, rfl⟩, List.nil_sublist _, rfl, rfl⟩
        ·
         replace hm0 := cond_f hc10 hm0
         refine V.skip ?_
         refine V.seq ?_
         replace hm0 := bindO hm0; rcases hm0 with ⟨y20, hh20, hm0⟩
         refine V.region ?_
         refine VO.cons rfl (V1.move rfl rfl rfl lt0 ?_)
         refine VO.cons rfl (V1.call rfl rfl rfl cok_34 rfl (ok_spec_DrawUnseen hh20) rfl lt0 ?_)
         rintro _ _ ⟨b7, b8, rfl, rfl⟩
         refine VO.cons rfl (V1.move rfl rfl rfl lt0 ?_)
         refine VO.cons rfl (V1.extract rfl rfl rfl rfl lt0 ?_)
         refine VO.weakenK (Keeps.freezeG 0 rn [(204, .vl rn 4 (List.map (encFormat rn) y20.1))] [(b8, ⟨4, List.map encCopy y20.2.1⟩)] (f := (encFormat rn)) (l := y20.1) rfl (fun _ => rfl) ⟨⟨_, rfl, .here⟩, trivial⟩ ⟨_, _, rfl, rfl, .inl rfl, rfl⟩ rfl iNil) ?_
         refine VO.cons rfl (V1.extract rfl rfl rfl rfl lt0 ?_)
         refine VO.weakenK (Keeps.freezeG 0 rn [(205, .vl rn 4 (List.map encCopy y20.2.1))] [] (f := encCopy) (l := y20.2.1) rfl (fun _ => rfl) ⟨⟨_, rfl, .here⟩, trivial⟩ rfl rfl iNil) ?_
         refine VO.cons rfl (V1.extract rfl rfl rfl rfl lt0 ?_)
         refine VO.cons rfl (V1.extract rfl rfl rfl rfl lt0 ?_)
         refine VO.cons rfl (V1.assign rfl rfl rfl lt0 ?_)
         refine VO.cons rfl (V1.assign rfl rfl rfl lt0 ?_)
         refine VO.cons rfl (V1.assign rfl rfl rfl lt0 ?_)
         refine VO.cons rfl (V1.assign rfl rfl rfl lt0 ?_)
         refine VO.nil ?_
         refine V.keep 239 [31, 32, 33, 34] [] (E0 := [(31, .vl rn 4 (List.map (encFormat rn) y20.1)), (32, .vl rn 4 (List.map encCopy y20.2.1)), (33, .int .i64 y20.2.2.1), (34, .int .i64 y20.2.2.2)]) (H0 := []) rfl (⟨_, _, rfl, rfl, ⟨_, _, rfl, rfl, ⟨_, _, rfl, rfl, ⟨_, _, rfl, rfl, rfl⟩⟩⟩⟩) (rfl) rfl ?_
         refine V.seq ?_
         replace hm0 := bindO hm0; rcases hm0 with ⟨y21, hh21, hm0⟩
         refine V.region ?_
         refine VO.cons rfl (V1.move rfl rfl rfl lt0 ?_)
         refine VO.cons rfl (V1.move rfl rfl rfl lt0 ?_)
         refine VO.cons rfl (V1.move rfl rfl rfl lt0 ?_)
         refine VO.cons rfl (V1.move rfl rfl rfl lt0 ?_)
         refine VO.cons rfl (V1.permK (V1.call rfl rfl rfl cok_35 rfl (ok_impl_Unseen hh21) rfl lt0 ?_))
         rintro _ _ ⟨ob3, hob3, rfl, rfl⟩
         refine ⟨_, ?_, Keeps.optBack (n := 1) (ob := ob3) (xs := List.map encInt y21.1) (H1 := []) (H2 := []) rfl⟩
         refine VO.cons rfl (V1.move rfl rfl rfl lt0 ?_)
         refine VO.cons rfl (V1.extract rfl rfl rfl rfl lt0 ?_)
         refine VO.weakenK (Keeps.optFront (n := 1) (ob := ob3) (xs := List.map encInt y21.1) (H1 := []) rfl) ?_
         refine VO.weakenK (Keeps.optVl 214 [] rn (f := encInt) (l := y21.1) (ob := ob3) (H1 := []) hob3 rfl rfl ⟨rfl, trivial⟩ (fun _ => rfl) rfl iNil) ?_
         refine VO.cons rfl (V1.extract rfl rfl rfl rfl lt0 ?_)
         refine VO.cons rfl (V1.assign rfl rfl rfl lt0 ?_)
         refine VO.cons rfl (V1.assign rfl rfl rfl lt0 ?_)
         refine VO.nil ?_
         refine V.keep 239 [31, 32, 33, 34, 35, 36] [] (E0 := [(31, .vl rn 4 (List.map (encFormat rn) y20.1)), (32, .vl rn 4 (List.map encCopy y20.2.1)), (33, .int .i64 y20.2.2.1), (34, .int .i64 y20.2.2.2), (35, .vl rn 1 (List.map encInt y21.1)), (36, .bool y21.2)]) (H0 := []) rfl (⟨_, _, rfl, rfl, ⟨_, _, rfl, rfl, ⟨_, _, rfl, rfl, ⟨_, _, rfl, rfl, ⟨_, _, rfl, rfl, ⟨_, _, rfl, rfl, rfl⟩⟩⟩⟩⟩⟩) (rfl) rfl ?_
         refine V.seq ?_
         replace hm0 := bindO hm0; rcases hm0 with ⟨y22, hh22, hm0⟩
         refine V.region ?_
         refine VO.cons rfl (V1.move rfl rfl rfl lt0 ?_)
         refine VO.cons rfl (V1.move rfl rfl rfl lt0 ?_)
         refine VO.cons rfl (V1.move rfl rfl rfl lt0 ?_)
         refine VO.cons rfl (V1.move rfl rfl rfl lt0 ?_)
         refine VO.cons rfl (V1.call rfl rfl rfl cok_36 rfl (ok_spec_Unseen hh22) rfl lt0 ?_)
         rintro _ _ ⟨b9, rfl, rfl⟩
         refine VO.cons rfl (V1.move rfl rfl rfl lt0 ?_)
         refine VO.cons rfl (V1.extract rfl rfl rfl rfl lt0 ?_)
         refine VO.weakenK (Keeps.freezeG 0 rn [(222, .vl rn 1 (List.map encInt y22.1))] [] (f := encInt) (l := y22.1) rfl (fun _ => rfl) ⟨⟨_, rfl, .here⟩, trivial⟩ rfl rfl iNil) ?_
         refine VO.cons rfl (V1.extract rfl rfl rfl rfl lt0 ?_)
         refine VO.cons rfl (V1.assign rfl rfl rfl lt0 ?_)
         refine VO.cons rfl (V1.assign rfl rfl rfl lt0 ?_)
         refine VO.nil ?_
         refine V.keep 239 [31, 35, 36, 37, 38] [] (E0 := [(31, .vl rn 4 (List.map (encFormat rn) y20.1)), (35, .vl rn 1 (List.map encInt y21.1)), (36, .bool y21.2), (37, .vl rn 1 (List.map encInt y22.1)), (38, .bool y22.2)]) (H0 := []) rfl (⟨_, _, rfl, rfl, ⟨_, _, rfl, rfl, ⟨_, _, rfl, rfl, ⟨_, _, rfl, rfl, ⟨_, _, rfl, rfl, rfl⟩⟩⟩⟩⟩) (rfl) rfl ?_
         refine V.seq ?_
         replace hm0 := bindO hm0; rcases hm0 with ⟨y23, hh23, hm0⟩
         replace hm0 := bindO hm0; rcases hm0 with ⟨y24, hh24, hm0⟩
         replace hm0 := bindO hm0; rcases hm0 with ⟨y25, hh25, hm0⟩
         refine V.region ?_
         refine VO.cons rfl (V1.move rfl rfl rfl lt0 ?_)
         refine VO.cons rfl (V1.move rfl rfl rfl lt0 ?_)
         refine VO.cons rfl (V1.boolEql rfl rfl und_4 rfl rfl lt0 ?_)
         refine VO.cons rfl (V1.move rfl rfl rfl lt0 ?_)
         apply VO.and (n := 3) rfl rfl rfl rfl rfl rfl lt0 (.none rfl)
         ·
          intro hg9
          refine VO.step (.some rfl rfl rfl) (V1.move rfl rfl rfl lt0 ?_)
          refine VO.step (.some rfl rfl rfl) (V1.move rfl rfl rfl lt0 ?_)
          refine VO.step (.some rfl rfl rfl) (V1.call rfl rfl rfl cok_12 rfl (ok_laws_rInts (cond_t hg9 hh23)) rfl lt0 ?_)
          rintro _ _ ⟨rfl, rfl⟩
          exact VO.nil ⟨rfl, rfl, rfl, rfl, .inr ⟨rfl, .inr ⟨rfl, .inr ⟨rfl, .inr ⟨rfl, .inl rfl⟩⟩⟩⟩⟩
         refine VO.cons rfl (V1.move rfl rfl rfl lt0 ?_)
         apply VO.and (n := 5) rfl rfl rfl rfl rfl rfl lt0 (.none rfl)
         ·
          intro hg10
          refine VO.step (.some rfl rfl rfl) (V1.move rfl rfl rfl lt0 ?_)
          refine VO.step (.some rfl rfl rfl) (V1.call rfl rfl rfl cok_37 rfl (ok_impl_AreFormats (cond_t hg10 hh24)) rfl lt0 ?_)
          rintro _ _ ⟨rfl, rfl⟩
          refine VO.step (.some rfl rfl rfl) (V1.move rfl rfl rfl lt0 ?_)
          refine VO.step (.some rfl rfl rfl) (V1.call rfl rfl rfl cok_38 rfl (ok_spec_AreFormats (cond_t hg10 hh25)) rfl lt0 ?_)
          rintro _ _ ⟨rfl, rfl⟩
          refine VO.step (.some rfl rfl rfl) (V1.boolEql rfl rfl und_4 rfl rfl lt0 ?_)
          exact VO.nil ⟨rfl, rfl, rfl, rfl, .inr ⟨rfl, .inr ⟨rfl, .inr ⟨rfl, .inr ⟨rfl, .inr ⟨rfl, .inr ⟨rfl, .inl rfl⟩⟩⟩⟩⟩⟩⟩
         refine VO.cons rfl (V1.assign rfl rfl rfl lt0 ?_)
         refine VO.nil ?_
         refine V.ret ?_
         obtain rfl := Option.some.inj hm0
         exact ⟨_, [], ⟨_, _, rfl, rfl, rfl⟩, List.nil_sublist _, rfl, rfl⟩
end Go.Proofs.YtjfpdbhjoofllaaDoor
