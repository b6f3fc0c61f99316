/- the functions do what their models say -/
import Derived.Test.YthcmelnpcaijaaaDoorQr1
set_option linter.unusedSimpArgs false
set_option linter.unusedVariables false
set_option maxRecDepth 100000
set_option maxHeartbeats 4000000
namespace Go.Proofs.YthcmelnpcaijaaaDoor
open Go.VS

theorem ok_impl_ParseRecord {rn : Nat} {s : List UInt8} {r : Record × Bool} (h : M.impl_ParseRecord s = some r) : Does Tryd.prog 53 [.str s] [] rn (fun x H => x = .tup [encRecord rn r.1, .bool r.2] ∧ H = []) := by
 have hm0 := h; clear h; unfold M.impl_ParseRecord at hm0
 try dsimp only at hm0
 refine Does.intro (N := 73) Tryd.func53 rfl rfl rfl rfl ?_
 intro w0 S0 L0
 refine V.seq ?_
 refine V.region ?_
 refine VO.cons rfl (V1.alloc rfl rfl zk_39 lt0 ?_)
 intro b0
 refine VO.cons rfl (V1.assign rfl rfl rfl lt0 ?_)
 refine VO.nil ?_
 refine V.seq ?_
 replace hm0 := bindO hm0; rcases hm0 with ⟨y0, hh0, hm0⟩
 refine V.region ?_
 refine VO.cons rfl (V1.move rfl rfl rfl lt0 ?_)
 refine VO.cons rfl (V1.call rfl rfl rfl cok_156 rfl (ok_strings_Cut hh0) rfl lt0 ?_)
 rintro _ _ ⟨rfl, rfl⟩
 refine VO.cons rfl (V1.move rfl rfl rfl lt0 ?_)
 refine VO.cons rfl (V1.extract rfl rfl rfl rfl lt0 ?_)
 refine VO.cons rfl (V1.extract rfl rfl rfl rfl lt0 ?_)
 refine VO.cons rfl (V1.extract rfl rfl rfl rfl lt0 ?_)
 refine VO.cons rfl (V1.assign rfl rfl rfl lt0 ?_)
 refine VO.cons rfl (V1.assign rfl rfl rfl lt0 ?_)
 refine VO.cons rfl (V1.assign rfl rfl rfl lt0 ?_)
 refine VO.nil ?_
 refine V.keep 73 [0, 2, 4, 5, 6] [0] (E0 := [(0, .str s), (2, .ref b0 4 0 0), (4, .str y0.1), (5, .str y0.2.1), (6, .bool y0.2.2)]) (H0 := [(b0, ⟨4, [.agg [.int .i64 (0 : Int), .int .i64 (0 : Int), .int .i64 (0 : Int), .nils]]⟩)]) rfl (⟨_, _, rfl, rfl, _, _, rfl, rfl, _, _, rfl, rfl, _, _, rfl, rfl, _, _, rfl, rfl, rfl⟩) (⟨_, _, rfl, rfl, rfl⟩) rfl ?_
 refine V.seq ?_
 replace hm0 := bindO hm0; rcases hm0 with ⟨y1, hh1, hm0⟩
 refine V.region ?_
 refine VO.cons rfl (V1.move rfl rfl rfl lt0 ?_)
 refine VO.cons rfl (V1.call rfl rfl rfl cok_156 rfl (ok_strings_Cut hh1) rfl lt0 ?_)
 rintro _ _ ⟨rfl, rfl⟩
 refine VO.cons rfl (V1.move rfl rfl rfl lt0 ?_)
 refine VO.cons rfl (V1.extract rfl rfl rfl rfl lt0 ?_)
 refine VO.cons rfl (V1.extract rfl rfl rfl rfl lt0 ?_)
 refine VO.cons rfl (V1.extract rfl rfl rfl rfl lt0 ?_)
 refine VO.cons rfl (V1.assign rfl rfl rfl lt0 ?_)
 refine VO.cons rfl (V1.assign rfl rfl rfl lt0 ?_)
 refine VO.cons rfl (V1.assign rfl rfl rfl lt0 ?_)
 refine VO.nil ?_
 refine V.keep 73 [0, 2, 5, 6, 7, 8] [0] (E0 := [(0, .str s), (2, .ref b0 4 0 0), (5, .str y0.2.1), (6, .bool y0.2.2), (7, .str y1.1), (8, .str y1.2.1)]) (H0 := [(b0, ⟨4, [.agg [.int .i64 (0 : Int), .int .i64 (0 : Int), .int .i64 (0 : Int), .nils]]⟩)]) rfl (⟨_, _, rfl, rfl, _, _, rfl, rfl, _, _, rfl, rfl, _, _, rfl, rfl, _, _, rfl, rfl, _, _, rfl, rfl, rfl⟩) (⟨_, _, rfl, rfl, rfl⟩) rfl ?_
 refine V.seq ?_
 replace hm0 := bindO hm0; rcases hm0 with ⟨y2, hh2, hm0⟩
 refine V.region ?_
 refine VO.cons rfl (V1.move rfl rfl rfl lt0 ?_)
 refine VO.cons rfl (V1.call rfl rfl rfl cok_156 rfl (ok_strings_Cut hh2) rfl lt0 ?_)
 rintro _ _ ⟨rfl, rfl⟩
 refine VO.cons rfl (V1.move rfl rfl rfl lt0 ?_)
 refine VO.cons rfl (V1.extract rfl rfl rfl rfl lt0 ?_)
 refine VO.cons rfl (V1.extract rfl rfl rfl rfl lt0 ?_)
 refine VO.cons rfl (V1.extract rfl rfl rfl rfl lt0 ?_)
 refine VO.cons rfl (V1.assign rfl rfl rfl lt0 ?_)
 refine VO.cons rfl (V1.assign rfl rfl rfl lt0 ?_)
 refine VO.cons rfl (V1.assign rfl rfl rfl lt0 ?_)
 refine VO.nil ?_
 refine V.keep 73 [0, 2, 5, 6, 7, 8, 10] [0] (E0 := [(0, .str s), (2, .ref b0 4 0 0), (5, .str y0.2.1), (6, .bool y0.2.2), (7, .str y1.1), (8, .str y2.1), (10, .str y2.2.1)]) (H0 := [(b0, ⟨4, [.agg [.int .i64 (0 : Int), .int .i64 (0 : Int), .int .i64 (0 : Int), .nils]]⟩)]) rfl (⟨_, _, rfl, rfl, _, _, rfl, rfl, _, _, rfl, rfl, _, _, rfl, rfl, _, _, rfl, rfl, _, _, rfl, rfl, _, _, rfl, rfl, rfl⟩) (⟨_, _, rfl, rfl, rfl⟩) rfl ?_
 refine V.seq ?_
 replace hm0 := bindO hm0; rcases hm0 with ⟨y3, hh3, hm0⟩
 replace hm0 := bindO hm0; rcases hm0 with ⟨y4, hh4, hm0⟩
 replace hm0 := bindO hm0; rcases hm0 with ⟨y5, hh5, hm0⟩
 refine V.region ?_
 refine VO.cons rfl (V1.move rfl rfl rfl lt0 ?_)
 refine VO.cons rfl (V1.call rfl rfl rfl cok_159 rfl (ok_impl_digitsOf hh3) rfl lt0 ?_)
 rintro _ _ ⟨rfl, rfl⟩
 refine VO.cons rfl (V1.move rfl rfl rfl lt0 ?_)
 refine VO.cons rfl (V1.call rfl rfl rfl cok_159 rfl (ok_impl_digitsOf hh4) rfl lt0 ?_)
 rintro _ _ ⟨rfl, rfl⟩
 refine VO.cons rfl (V1.move rfl rfl rfl lt0 ?_)
 refine VO.cons rfl (V1.call rfl rfl rfl cok_159 rfl (ok_impl_digitsOf hh5) rfl lt0 ?_)
 rintro _ _ ⟨rfl, rfl⟩
 refine VO.cons rfl (V1.build rfl rfl zk_39 pl_39 rfl rfl lt0 ?_)
 refine VO.cons rfl (V1.alloc rfl rfl zk_39 lt0 ?_)
 intro b1
 refine VO.cons rfl (V1.storeRefAll (k := 0) rfl rfl tyk_39 rfl rfl rfl rfl rfl rfl ?_)
 refine VO.nil ?_
 refine V.keep 73 [0, 2, 5, 6, 12] [0, 1] (E0 := [(0, .str s), (2, .ref b0 4 0 0), (5, .str y0.2.1), (6, .bool y0.2.2), (12, .ref b1 4 0 0)]) (H0 := [(b1, ⟨4, [.agg [.int .i64 y3, .int .i64 y4, .int .i64 y5, .nils]]⟩), (b0, ⟨4, [.agg [.int .i64 (0 : Int), .int .i64 (0 : Int), .int .i64 (0 : Int), .nils]]⟩)]) rfl (⟨_, _, rfl, rfl, _, _, rfl, rfl, _, _, rfl, rfl, _, _, rfl, rfl, _, _, rfl, rfl, rfl⟩) (⟨_, _, rfl, rfl, _, _, rfl, rfl, rfl⟩) rfl ?_
 refine V.seq ?_
 replace hm0 := bindO hm0; rcases hm0 with ⟨j0, hm1, hm0⟩
 refine V.cutT (D := (List Event) × (Option Nat)) (fun ⟨r_Events, ob0⟩ => ⟨73, [(0, .str s), (2, .ref b0 4 0 0), (12, .ref b1 4 0 0)], optH 2 ob0 (List.map encEvent r_Events) ++ [(b1, ⟨4, [.agg [.int .i64 y3, .int .i64 y4, .int .i64 y5, optS 2 ob0 (List.length r_Events)]]⟩)] ++ [(b0, ⟨4, [.agg [.int .i64 (0 : Int), .int .i64 (0 : Int), .int .i64 (0 : Int), .nils]]⟩)]⟩) (fun ⟨r_Events, ob0⟩ => (r_Events = j0) ∧ (ob0 = none → r_Events = [])) ?_ ?_
 ·
  refine V.seq ?_
  refine V.region ?_
  refine VO.cons rfl (V1.move rfl rfl rfl lt0 ?_)
  refine VO.nil ?_
  refine V.cond rfl (fun hc0 => ?_) (fun hc0 => ?_)
  ·
   replace hm1 := cond_t hc0 hm1
   refine V.seq ?_
   replace hm1 := bindO hm1; rcases hm1 with ⟨y6, hh6, hm1⟩
   refine V.region ?_
   refine VO.cons rfl (V1.move rfl rfl rfl lt0 ?_)
   refine VO.cons rfl (V1.call rfl rfl rfl cok_160 rfl (ok_strings_SplitSeq hh6) rfl lt0 ?_)
   rintro _ _ ⟨b2, b3, b4, rfl, rfl⟩
   refine VO.nil ?_
   refine V.keep 73 [0, 2, 12, 44] [0, 1, 2, 3, 4] (E0 := [(0, .str s), (2, .ref b0 4 0 0), (12, .ref b1 4 0 0), (44, .fn 278 [.ref b3 1 0 0, .ref b2 1 0 0, .ref b4 1 0 0])]) (H0 := [(b4, ⟨1, [.int .i64 (0 : Int)]⟩), (b3, ⟨1, [.str ([32])]⟩), (b2, ⟨1, [.str y0.2.1]⟩), (b1, ⟨4, [.agg [.int .i64 y3, .int .i64 y4, .int .i64 y5, .nils]]⟩), (b0, ⟨4, [.agg [.int .i64 (0 : Int), .int .i64 (0 : Int), .int .i64 (0 : Int), .nils]]⟩)]) rfl (⟨_, _, rfl, rfl, _, _, rfl, rfl, _, _, rfl, rfl, _, _, rfl, rfl, rfl⟩) (⟨_, _, rfl, rfl, _, _, rfl, rfl, _, _, rfl, rfl, _, _, rfl, rfl, _, _, rfl, rfl, rfl⟩) rfl ?_
   refine V.block ?_
   replace hm1 := bindO hm1; rcases hm1 with ⟨e0, he2, hm1⟩
   refine V.keep 73 [0, 2, 12, 44] [0, 1, 2, 3, 4] (E0 := [(0, .str s), (2, .ref b0 4 0 0), (12, .ref b1 4 0 0), (44, .fn 278 [.ref b3 1 0 0, .ref b2 1 0 0, .ref b4 1 0 0])]) (H0 := [(b4, ⟨1, [.int .i64 (0 : Int)]⟩), (b3, ⟨1, [.str ([32])]⟩), (b2, ⟨1, [.str y0.2.1]⟩), (b1, ⟨4, [.agg [.int .i64 y3, .int .i64 y4, .int .i64 y5, .nils]]⟩), (b0, ⟨4, [.agg [.int .i64 (0 : Int), .int .i64 (0 : Int), .int .i64 (0 : Int), .nils]]⟩)]) rfl (⟨_, _, rfl, rfl, _, _, rfl, rfl, _, _, rfl, rfl, _, _, rfl, rfl, rfl⟩) (⟨_, _, rfl, rfl, _, _, rfl, rfl, _, _, rfl, rfl, _, _, rfl, rfl, _, _, rfl, rfl, rfl⟩) rfl ?_
   refine V.rangeFunc0 (D := (List Event) × (Option Nat)) (fun ⟨r_Events0, ob1⟩ => optH 2 ob1 (List.map encEvent r_Events0) ++ [(b1, ⟨4, [.agg [.int .i64 y3, .int .i64 y4, .int .i64 y5, optS 2 ob1 (List.length r_Events0)]]⟩)] ++ [(b0, ⟨4, [.agg [.int .i64 (0 : Int), .int .i64 (0 : Int), .int .i64 (0 : Int), .nils]]⟩)]) (fun k_ ⟨r_Events0, ob1⟩ => foldO (M.impl_ParseRecord_l0) (List.drop k_ y6) r_Events0 = some e0 ∧ (ob1 = none → r_Events0 = [])) (([] : List Event), none) [(b4, ⟨1, [.int .i64 (0 : Int)]⟩), (b3, ⟨1, [.str ([32])]⟩), (b2, ⟨1, [.str y0.2.1]⟩)] rfl cok_278 rfl rfl rfl lt0 lt0 rfl rfl (.of_eq rfl) (it_strings_SplitSeq hh6) ⟨he2, (fun _ => rfl)⟩ ?_ ?_
   ·
    rintro l_ k_ ⟨r_Events0, ob1⟩ x_ ⟨hP0, hob1⟩ hx_
    obtain ⟨y_, s_, rfl, hm2, hl2⟩ := fold_head hP0 hx_
    unfold M.impl_ParseRecord_l0 at hm2; dsimp only at hm2
    intro w1 S1 L1
    rcases ob1 with _ | ob1
    ·
     replace hob1 := hob1 rfl
     show V _ _ _ ⟨73, [(13, .str y_), (45, .str y_), (0, .str s), (2, .ref b0 4 0 0), (12, .ref b1 4 0 0), (44, .fn 278 [.ref b3 1 0 0, .ref b2 1 0 0, .ref b4 1 0 0])], [(b1, ⟨4, [.agg [.int .i64 y3, .int .i64 y4, .int .i64 y5, .nils]]⟩), (b0, ⟨4, [.agg [.int .i64 (0 : Int), .int .i64 (0 : Int), .int .i64 (0 : Int), .nils]]⟩)]⟩
     refine V.block ?_
     refine V.seq ?_
     replace hm2 := bindO hm2; rcases hm2 with ⟨y7, hh7, hm2⟩
     refine V.region ?_
     refine VO.cons rfl (V1.move rfl rfl rfl lt0 ?_)
     refine VO.cons rfl (V1.call rfl rfl rfl cok_156 rfl (ok_strings_Cut hh7) rfl lt0 ?_)
     rintro _ _ ⟨rfl, rfl⟩
     refine VO.cons rfl (V1.move rfl rfl rfl lt0 ?_)
     refine VO.cons rfl (V1.extract rfl rfl rfl rfl lt0 ?_)
     refine VO.cons rfl (V1.extract rfl rfl rfl rfl lt0 ?_)
     refine VO.cons rfl (V1.extract rfl rfl rfl rfl lt0 ?_)
     refine VO.cons rfl (V1.assign rfl rfl rfl lt0 ?_)
     refine VO.cons rfl (V1.assign rfl rfl rfl lt0 ?_)
     refine VO.cons rfl (V1.assign rfl rfl rfl lt0 ?_)
     refine VO.nil ?_
     refine V.keep 73 [0, 2, 12, 14, 15] [0, 1] (E0 := [(0, .str s), (2, .ref b0 4 0 0), (12, .ref b1 4 0 0), (14, .str y7.1), (15, .str y7.2.1)]) (H0 := [(b1, ⟨4, [.agg [.int .i64 y3, .int .i64 y4, .int .i64 y5, .nils]]⟩), (b0, ⟨4, [.agg [.int .i64 (0 : Int), .int .i64 (0 : Int), .int .i64 (0 : Int), .nils]]⟩)]) rfl (⟨_, _, rfl, rfl, _, _, rfl, rfl, _, _, rfl, rfl, _, _, rfl, rfl, _, _, rfl, rfl, rfl⟩) (⟨_, _, rfl, rfl, _, _, rfl, rfl, rfl⟩) rfl ?_
     replace hm2 := bindO hm2; rcases hm2 with ⟨y8, hh8, hm2⟩
     replace hm2 := bindO hm2; rcases hm2 with ⟨y9, hh9, hm2⟩
     replace hm2 := asrt_some hm2; rcases hm2 with ⟨hh10, hm2⟩
     refine V.regionS [(b1, ⟨4, [.agg [.int .i64 y3, .int .i64 y4, .int .i64 y5, .nils]]⟩), (b0, ⟨4, [.agg [.int .i64 (0 : Int), .int .i64 (0 : Int), .int .i64 (0 : Int), .nils]]⟩)] 73 8 [⟨[(12, none)], false⟩, ⟨[(52, some 0)], true⟩, ⟨[(14, none)], false⟩, ⟨[(54, some 2)], false⟩, ⟨[(15, none)], false⟩, ⟨[(56, some 4)], false⟩, ⟨[(55, some 3), (57, some 5)], false⟩, ⟨[(58, some 6)], false⟩] [(0, none), (2, none), (12, none), (53, some 1), (59, some 7)] 1 (⟨_, rfl, ⟨_, rfl, ⟨_, rfl, ⟨_, rfl, ⟨_, rfl, ⟨_, rfl, ⟨_, rfl, ⟨_, rfl, ⟨rfl, rfl⟩⟩⟩⟩⟩⟩⟩⟩⟩) mixed_orders rfl (by decide +kernel) ?_
     refine WalkP.step (p := ?pv482) 0 rfl rfl rfl rfl rfl (⟨_, _, rfl, rfl, rfl⟩) ?hv482 ?rest482
     case hv482 =>
      intro E1 H1 hI1
      refine (V1.fieldRef rfl rfl fo_39_3 rfl lt0 ?_)
      exact rfl
     refine WalkP.step (p := ?pv483) 2 rfl rfl rfl rfl rfl (⟨_, _, rfl, rfl, rfl⟩) ?hv483 ?rest483
     case hv483 =>
      intro E1 H1 hI1
      refine (V1.move rfl rfl rfl lt0 ?_)
      exact rfl
     refine WalkP.step (p := ?pv484) 3 rfl rfl rfl rfl rfl (⟨_, _, rfl, rfl, rfl⟩) ?hv484 ?rest484
     case hv484 =>
      intro E1 H1 hI1
      refine (V1.call rfl rfl rfl cok_159 rfl (ok_impl_digitsOf hh8) rfl lt0 ?_)
      rintro _ _ ⟨rfl, rfl⟩
      exact rfl
     refine WalkP.step (p := ?pv486) 4 rfl rfl rfl rfl rfl (⟨_, _, rfl, rfl, rfl⟩) ?hv486 ?rest486
     case hv486 =>
      intro E1 H1 hI1
      refine (V1.move rfl rfl rfl lt0 ?_)
      exact rfl
     refine WalkP.step (p := ?pv487) 5 rfl rfl rfl rfl rfl (⟨_, _, rfl, rfl, rfl⟩) ?hv487 ?rest487
     case hv487 =>
      intro E1 H1 hI1
      refine (V1.call rfl rfl rfl cok_159 rfl (ok_impl_digitsOf hh9) rfl lt0 ?_)
      rintro _ _ ⟨rfl, rfl⟩
      exact rfl
     refine WalkP.step (p := ?pv489) 6 rfl rfl rfl rfl rfl (⟨_, _, rfl, rfl, _, _, rfl, rfl, rfl⟩) ?hv489 ?rest489
     case hv489 =>
      intro E1 H1 hI1
      refine (V1.build rfl rfl zk_72 pl_72 rfl rfl lt0 ?_)
      exact rfl
     refine WalkP.step (p := ?pv490) 7 rfl rfl rfl rfl rfl (⟨_, _, rfl, rfl, rfl⟩) ?hv490 ?rest490
     case hv490 =>
      intro E1 H1 hI1
      refine (V1.buildFrz (f := encEvent) ([(⟨y8, y9⟩ : Event)] : List Event) (fun _ => rfl) (fun c hc => iIn hI1 c ((iKCons (b := b1) 0 rfl (iKCons (b := b0) 1 rfl iNil)) c hc)) rfl rfl esz_37 zk_72 rfl rfl rfl rfl rfl rfl rfl lt0 ?_)
      exact rfl
     refine WalkP.nil ?_
     refine NodeS.branch [1] (inCons 0 rfl (inCons 1 rfl inNil)) rfl rfl rfl ⟨?_, trivial⟩
     ·
      refine ⟨_, _, _, _, rfl, rfl, rfl, (⟨_, _, rfl, rfl, rfl⟩), fun E1 => ?_⟩
      refine (V1.loadRef (k := 0) rfl rfl tyk_37 rfl rfl rfl rfl rfl lt0 ?_)
      refine ⟨_, _, rfl, ?_⟩
      refine WalkP.nil ?_
      refine NodeS.fin (inCons 0 rfl (inCons 1 rfl inNil)) rfl rfl rfl (⟨_, _, rfl, rfl, _, _, rfl, rfl, _, _, rfl, rfl, _, _, rfl, rfl, _, _, rfl, rfl, rfl⟩) ?_
      refine VO.cons rfl (V1.appendNilE (f := encEvent) (l := r_Events0) (m := ([(⟨y8, y9⟩ : Event)] : List Event)) hob1 rfl rfl rfl rfl rfl esz_37 eby_37 zk_72 rfl rfl rfl (.vl isl_37) rfl hh10 lt0 ?_)
      intro b8
      refine VO.cons rfl (V1.fieldRef rfl rfl fo_39_3 rfl lt0 ?_)
      refine VO.cons rfl (V1.storeRef (k := 1) rfl rfl tyk_37 rfl rfl rfl rfl rfl rfl rfl rfl rfl ?_)
      refine VO.nil ?_
      obtain rfl := Option.some.inj hm2
      exact ⟨rfl, _, ⟨((r_Events0 ++ ([(⟨y8, y9⟩ : Event)] : List Event)), (some b8)), ⟨hl2, (fun e => by cases e)⟩, rfl⟩, Keeps.mk (ks := [0, 1, 2]) rfl trivial (⟨_, _, rfl, rfl, _, _, rfl, rfl, _, _, rfl, rfl, rfl⟩) rfl⟩
    ·
     show V _ _ _ ⟨73, [(13, .str y_), (45, .str y_), (0, .str s), (2, .ref b0 4 0 0), (12, .ref b1 4 0 0), (44, .fn 278 [.ref b3 1 0 0, .ref b2 1 0 0, .ref b4 1 0 0])], [(ob1, ⟨2, List.map encEvent r_Events0⟩), (b1, ⟨4, [.agg [.int .i64 y3, .int .i64 y4, .int .i64 y5, .sref ob1 2 0 (List.length r_Events0)]]⟩), (b0, ⟨4, [.agg [.int .i64 (0 : Int), .int .i64 (0 : Int), .int .i64 (0 : Int), .nils]]⟩)]⟩
     refine V.block ?_
     refine V.seq ?_
     replace hm2 := bindO hm2; rcases hm2 with ⟨y7, hh7, hm2⟩
     refine V.region ?_
     refine VO.cons rfl (V1.move rfl rfl rfl lt0 ?_)
     refine VO.cons rfl (V1.call rfl rfl rfl cok_156 rfl (ok_strings_Cut hh7) rfl lt0 ?_)
     rintro _ _ ⟨rfl, rfl⟩
     refine VO.cons rfl (V1.move rfl rfl rfl lt0 ?_)
     refine VO.cons rfl (V1.extract rfl rfl rfl rfl lt0 ?_)
     refine VO.cons rfl (V1.extract rfl rfl rfl rfl lt0 ?_)
     refine VO.cons rfl (V1.extract rfl rfl rfl rfl lt0 ?_)
     refine VO.cons rfl (V1.assign rfl rfl rfl lt0 ?_)
     refine VO.cons rfl (V1.assign rfl rfl rfl lt0 ?_)
     refine VO.cons rfl (V1.assign rfl rfl rfl lt0 ?_)
     refine VO.nil ?_
     refine V.keep 73 [0, 2, 12, 14, 15] [0, 1, 2] (E0 := [(0, .str s), (2, .ref b0 4 0 0), (12, .ref b1 4 0 0), (14, .str y7.1), (15, .str y7.2.1)]) (H0 := [(ob1, ⟨2, List.map encEvent r_Events0⟩), (b1, ⟨4, [.agg [.int .i64 y3, .int .i64 y4, .int .i64 y5, .sref ob1 2 0 (List.length r_Events0)]]⟩), (b0, ⟨4, [.agg [.int .i64 (0 : Int), .int .i64 (0 : Int), .int .i64 (0 : Int), .nils]]⟩)]) rfl (⟨_, _, rfl, rfl, _, _, rfl, rfl, _, _, rfl, rfl, _, _, rfl, rfl, _, _, rfl, rfl, rfl⟩) (⟨_, _, rfl, rfl, _, _, rfl, rfl, _, _, rfl, rfl, rfl⟩) rfl ?_
     replace hm2 := bindO hm2; rcases hm2 with ⟨y8, hh8, hm2⟩
     replace hm2 := bindO hm2; rcases hm2 with ⟨y9, hh9, hm2⟩
     replace hm2 := asrt_some hm2; rcases hm2 with ⟨hh10, hm2⟩
     refine V.regionS [(ob1, ⟨2, List.map encEvent r_Events0⟩), (b1, ⟨4, [.agg [.int .i64 y3, .int .i64 y4, .int .i64 y5, .sref ob1 2 0 (List.length r_Events0)]]⟩), (b0, ⟨4, [.agg [.int .i64 (0 : Int), .int .i64 (0 : Int), .int .i64 (0 : Int), .nils]]⟩)] 73 8 [⟨[(12, none)], false⟩, ⟨[(52, some 0)], true⟩, ⟨[(14, none)], false⟩, ⟨[(54, some 2)], false⟩, ⟨[(15, none)], false⟩, ⟨[(56, some 4)], false⟩, ⟨[(55, some 3), (57, some 5)], false⟩, ⟨[(58, some 6)], false⟩] [(0, none), (2, none), (12, none), (53, some 1), (59, some 7)] 1 (⟨_, rfl, ⟨_, rfl, ⟨_, rfl, ⟨_, rfl, ⟨_, rfl, ⟨_, rfl, ⟨_, rfl, ⟨_, rfl, ⟨rfl, rfl⟩⟩⟩⟩⟩⟩⟩⟩⟩) mixed_orders rfl (by decide +kernel) ?_
     refine WalkP.step (p := ?pv498) 0 rfl rfl rfl rfl rfl (⟨_, _, rfl, rfl, rfl⟩) ?hv498 ?rest498
     case hv498 =>
      intro E1 H1 hI1
      refine (V1.fieldRef rfl rfl fo_39_3 rfl lt0 ?_)
      exact rfl
     refine WalkP.step (p := ?pv499) 2 rfl rfl rfl rfl rfl (⟨_, _, rfl, rfl, rfl⟩) ?hv499 ?rest499
     case hv499 =>
      intro E1 H1 hI1
      refine (V1.move rfl rfl rfl lt0 ?_)
      exact rfl
     refine WalkP.step (p := ?pv500) 3 rfl rfl rfl rfl rfl (⟨_, _, rfl, rfl, rfl⟩) ?hv500 ?rest500
     case hv500 =>
      intro E1 H1 hI1
      refine (V1.call rfl rfl rfl cok_159 rfl (ok_impl_digitsOf hh8) rfl lt0 ?_)
      rintro _ _ ⟨rfl, rfl⟩
      exact rfl
     refine WalkP.step (p := ?pv502) 4 rfl rfl rfl rfl rfl (⟨_, _, rfl, rfl, rfl⟩) ?hv502 ?rest502
     case hv502 =>
      intro E1 H1 hI1
      refine (V1.move rfl rfl rfl lt0 ?_)
      exact rfl
     refine WalkP.step (p := ?pv503) 5 rfl rfl rfl rfl rfl (⟨_, _, rfl, rfl, rfl⟩) ?hv503 ?rest503
     case hv503 =>
      intro E1 H1 hI1
      refine (V1.call rfl rfl rfl cok_159 rfl (ok_impl_digitsOf hh9) rfl lt0 ?_)
      rintro _ _ ⟨rfl, rfl⟩
      exact rfl
     refine WalkP.step (p := ?pv505) 6 rfl rfl rfl rfl rfl (⟨_, _, rfl, rfl, _, _, rfl, rfl, rfl⟩) ?hv505 ?rest505
     case hv505 =>
      intro E1 H1 hI1
      refine (V1.build rfl rfl zk_72 pl_72 rfl rfl lt0 ?_)
      exact rfl
     refine WalkP.step (p := ?pv506) 7 rfl rfl rfl rfl rfl (⟨_, _, rfl, rfl, rfl⟩) ?hv506 ?rest506
     case hv506 =>
      intro E1 H1 hI1
      refine (V1.buildFrz (f := encEvent) ([(⟨y8, y9⟩ : Event)] : List Event) (fun _ => rfl) (fun c hc => iIn hI1 c ((iKCons (b := ob1) 0 rfl (iKCons (b := b1) 1 rfl (iKCons (b := b0) 2 rfl iNil))) c hc)) rfl rfl esz_37 zk_72 rfl rfl rfl rfl rfl rfl rfl lt0 ?_)
      exact rfl
     refine WalkP.nil ?_
     refine NodeS.branch [1] (inCons 0 rfl (inCons 1 rfl (inCons 2 rfl inNil))) rfl rfl rfl ⟨?_, trivial⟩
     ·
      refine ⟨_, _, _, _, rfl, rfl, rfl, (⟨_, _, rfl, rfl, rfl⟩), fun E1 => ?_⟩
      refine (V1.loadRef (k := 1) rfl rfl tyk_37 rfl rfl rfl rfl rfl lt0 ?_)
      refine ⟨_, _, rfl, ?_⟩
      refine WalkP.nil ?_
      refine NodeS.fin (inCons 0 rfl (inCons 1 rfl (inCons 2 rfl inNil))) rfl rfl rfl (⟨_, _, rfl, rfl, _, _, rfl, rfl, _, _, rfl, rfl, _, _, rfl, rfl, _, _, rfl, rfl, rfl⟩) ?_
      refine VO.cons rfl (V1.appendMap (k := 0) (f := encEvent) (l := r_Events0) (m := ([(⟨y8, y9⟩ : Event)] : List Event)) rfl rfl rfl rfl rfl esz_37 eby_37 zk_72 rfl rfl rfl (.vl isl_37) hh10 lt0 ?_)
      intro b8
      refine VO.cons rfl (V1.fieldRef rfl rfl fo_39_3 rfl lt0 ?_)
      refine VO.cons rfl (V1.storeRef (k := 1) rfl rfl tyk_37 rfl rfl rfl rfl rfl rfl rfl rfl rfl ?_)
      refine VO.nil ?_
      obtain rfl := Option.some.inj hm2
      exact ⟨rfl, _, ⟨((r_Events0 ++ ([(⟨y8, y9⟩ : Event)] : List Event)), (some b8)), ⟨hl2, (fun e => by cases e)⟩, rfl⟩, Keeps.mk (ks := [0, 1, 2]) rfl trivial (⟨_, _, rfl, rfl, _, _, rfl, rfl, _, _, rfl, rfl, rfl⟩) rfl⟩
   ·
    rintro ⟨r_Events0, ob1⟩ ⟨hP0, hob1⟩
    obtain rfl := fold_end hP0
    try dsimp only at hm1
    rcases ob1 with _ | ob1
    ·
     replace hob1 := hob1 rfl
     exact ⟨(r_Events0, none), ⟨Option.some.inj hm1, (fun _ => hob1)⟩, Keeps.mk (ks := [0, 1]) rfl ⟨rfl, rfl, rfl, trivial⟩ (⟨_, _, rfl, rfl, _, _, rfl, rfl, rfl⟩) rfl⟩
    ·
     exact ⟨(r_Events0, (some ob1)), ⟨Option.some.inj hm1, (fun e => by cases e)⟩, Keeps.mk (ks := [0, 1, 2]) rfl ⟨rfl, rfl, rfl, trivial⟩ (⟨_, _, rfl, rfl, _, _, rfl, rfl, _, _, rfl, rfl, rfl⟩) rfl⟩
  ·
   replace hm1 := cond_f hc0 hm1
   refine V.skip ?_
   exact ⟨(([] : List Event), none), ⟨Option.some.inj hm1, (fun _ => rfl)⟩, Keeps.mk (ks := [0, 1]) rfl ⟨rfl, rfl, rfl, trivial⟩ (⟨_, _, rfl, rfl, _, _, rfl, rfl, rfl⟩) rfl⟩
 ·
  rintro ⟨r_Events, ob0⟩ ⟨rfl, hob0⟩
  try dsimp only at hm0
  rcases ob0 with _ | ob0
  ·
   replace hob0 := hob0 rfl
   refine V.seq ?_
   refine V.seq ?_
   replace hm0 := bindO hm0; rcases hm0 with ⟨y10, hh11, hm0⟩
   replace hm0 := bindO hm0; rcases hm0 with ⟨y11, hh12, hm0⟩
   refine V.region ?_
   refine VO.cons rfl (V1.loadRefAll (k := 0) rfl rfl tyk_39 rfl rfl rfl rfl rfl lt0 ?_)
   refine VO.weakenK (Keeps.le 62 (.agg [.int .i64 y3, .int .i64 y4, .int .i64 y5, .vl rn 2 (List.map encEvent r_Events)]) rfl (.agg (.cons .same (.cons .same (.cons .same (.cons (.nils (l := r_Events) (f := encEvent) rn 2 hob0 rfl) .nil)))))) ?_
   refine VO.cons rfl (V1.call rfl rfl rfl cok_55 rfl (ok_impl_IsRecord hh11) rfl lt0 ?_)
   rintro _ _ ⟨rfl, rfl⟩
   refine VO.cons rfl (V1.not rfl rfl rfl lt0 ?_)
   refine VO.cons rfl (V1.move rfl rfl rfl lt0 ?_)
   apply VO.or (n := 4) rfl rfl rfl rfl rfl rfl lt0 (.none rfl)
   ·
    intro hg0
    refine VO.step (.some rfl rfl rfl) (V1.loadRefAll (k := 0) rfl rfl tyk_39 rfl rfl rfl rfl rfl lt0 ?_)
    refine VO.weakenK (Keeps.le 66 (.agg [.int .i64 y3, .int .i64 y4, .int .i64 y5, .vl rn 2 (List.map encEvent r_Events)]) rfl (.agg (.cons .same (.cons .same (.cons .same (.cons (.nils (l := r_Events) (f := encEvent) rn 2 hob0 rfl) .nil)))))) ?_
    refine VO.step (.some rfl rfl rfl) (V1.call rfl rfl rfl cok_158 rfl (ok_impl_recordText (cond_f hg0 hh12)) rfl lt0 ?_)
    rintro _ _ ⟨rfl, rfl⟩
    refine VO.step (.some rfl rfl rfl) (V1.move rfl rfl rfl lt0 ?_)
    refine VO.step (.some rfl rfl rfl) (V1.str rfl rfl rfl rfl rfl lt0 ?_)
    exact VO.nil ⟨rfl, rfl, rfl, rfl, .inr ⟨rfl, .inr ⟨rfl, .inr ⟨rfl, .inr ⟨rfl, .inr ⟨rfl, .inr ⟨rfl, .inl rfl⟩⟩⟩⟩⟩⟩⟩
   refine VO.nil ?_
   refine V.keep 73 [2, 12, 70] [0, 1] (E0 := [(2, .ref b0 4 0 0), (12, .ref b1 4 0 0), (70, .bool ((!y10) || (!(y11 == s))))]) (H0 := [(b1, ⟨4, [.agg [.int .i64 y3, .int .i64 y4, .int .i64 y5, .nils]]⟩), (b0, ⟨4, [.agg [.int .i64 (0 : Int), .int .i64 (0 : Int), .int .i64 (0 : Int), .nils]]⟩)]) rfl (⟨_, _, rfl, rfl, _, _, rfl, rfl, _, _, rfl, rfl, rfl⟩) (⟨_, _, rfl, rfl, _, _, rfl, rfl, rfl⟩) rfl ?_
   refine V.cond rfl (fun hc1 => ?_) (fun hc1 => ?_)
   ·
    replace hm0 := cond_t hc1 hm0
    refine V.seq ?_
    refine V.region ?_
    refine VO.cons rfl (V1.build rfl rfl zk_39 pl_39 rfl rfl lt0 ?_)
    refine VO.cons rfl (V1.storeRefAll (k := 1) rfl rfl tyk_39 rfl rfl rfl rfl rfl rfl ?_)
    refine VO.cons rfl (V1.assign rfl rfl rfl lt0 ?_)
    refine VO.nil ?_
    refine V.weakenK (Keeps.leObj 1 [.agg [.int .i64 (0 : Int), .int .i64 (0 : Int), .int .i64 (0 : Int), .vl rn 2 (List.map encEvent ([] : List Event))]] rfl (.cons (.agg (.cons .same (.cons .same (.cons .same (.cons (.nils (l := ([] : List Event)) (f := encEvent) rn 2 rfl rfl) .nil))))) .nil)) ?_
    refine V.ret ?_
    obtain rfl := Option.some.inj hm0
    exact ⟨_, [], ⟨_, _, rfl, ⟨_, _, 1, _, rfl, rfl, rfl, rfl, tyk_39, rfl⟩, ⟨_, _, rfl, rfl, rfl⟩⟩, List.nil_sublist _, rfl, rfl⟩
   ·
    replace hm0 := cond_f hc1 hm0
    refine V.skip ?_
    refine V.seq ?_
    refine V.region ?_
    refine VO.cons rfl (V1.loadRefAll (k := 0) rfl rfl tyk_39 rfl rfl rfl rfl rfl lt0 ?_)
    refine VO.cons rfl (V1.storeRefAll (k := 1) rfl rfl tyk_39 rfl rfl rfl rfl rfl rfl ?_)
    refine VO.cons rfl (V1.assign rfl rfl rfl lt0 ?_)
    refine VO.nil ?_
    refine V.weakenK (Keeps.leObj 1 [.agg [.int .i64 y3, .int .i64 y4, .int .i64 y5, .vl rn 2 (List.map encEvent r_Events)]] rfl (.cons (.agg (.cons .same (.cons .same (.cons .same (.cons (.nils (l := r_Events) (f := encEvent) rn 2 hob0 rfl) .nil))))) .nil)) ?_
    refine V.ret ?_
    obtain rfl := Option.some.inj hm0
    exact ⟨_, [], ⟨_, _, rfl, ⟨_, _, 1, _, rfl, rfl, rfl, rfl, tyk_39, rfl⟩, ⟨_, _, rfl, rfl, rfl⟩⟩, List.nil_sublist _, rfl, rfl⟩
  ·
   refine V.seq ?_
   refine V.seq ?_
   replace hm0 := bindO hm0; rcases hm0 with ⟨y10, hh11, hm0⟩
   replace hm0 := bindO hm0; rcases hm0 with ⟨y11, hh12, hm0⟩
   refine V.region ?_
   refine VO.cons rfl (V1.loadRefAll (k := 1) rfl rfl tyk_39 rfl rfl rfl rfl rfl lt0 ?_)
   refine VO.weakenK (Keeps.freezeG 0 rn [(62, .agg [.int .i64 y3, .int .i64 y4, .int .i64 y5, .vl rn 2 (List.map encEvent r_Events)])] ([(b1, ⟨4, [.agg [.int .i64 y3, .int .i64 y4, .int .i64 y5, .vl rn 2 (List.map encEvent r_Events)]]⟩), (b0, ⟨4, [.agg [.int .i64 (0 : Int), .int .i64 (0 : Int), .int .i64 (0 : Int), .nils]]⟩)]) (f := encEvent) (l := r_Events) rfl (fun _ => rfl) ⟨⟨_, rfl, (.agg (.cons .same (.cons .same (.cons .same (.cons .here .nil)))))⟩, trivial⟩ ⟨_, _, rfl, rfl, .inr (.cons (.agg (.cons .same (.cons .same (.cons .same (.cons .here .nil))))) .nil), ⟨_, _, rfl, rfl, .inl rfl, rfl⟩⟩ rfl iNil) ?_
   refine VO.cons rfl (V1.call rfl rfl rfl cok_55 rfl (ok_impl_IsRecord hh11) rfl lt0 ?_)
   rintro _ _ ⟨rfl, rfl⟩
   refine VO.cons rfl (V1.not rfl rfl rfl lt0 ?_)
   refine VO.cons rfl (V1.move rfl rfl rfl lt0 ?_)
   apply VO.or (n := 4) rfl rfl rfl rfl rfl rfl lt0 (.none rfl)
   ·
    intro hg0
    refine VO.step (.some rfl rfl rfl) (V1.loadRefAll (k := 0) rfl rfl tyk_39 rfl rfl rfl rfl rfl lt0 ?_)
    refine VO.step (.some rfl rfl rfl) (V1.call rfl rfl rfl cok_158 rfl (ok_impl_recordText (cond_f hg0 hh12)) rfl lt0 ?_)
    rintro _ _ ⟨rfl, rfl⟩
    refine VO.step (.some rfl rfl rfl) (V1.move rfl rfl rfl lt0 ?_)
    refine VO.step (.some rfl rfl rfl) (V1.str rfl rfl rfl rfl rfl lt0 ?_)
    exact VO.nil ⟨rfl, rfl, rfl, rfl, .inr ⟨rfl, .inr ⟨rfl, .inr ⟨rfl, .inr ⟨rfl, .inr ⟨rfl, .inl rfl⟩⟩⟩⟩⟩⟩
   refine VO.nil ?_
   refine V.keep 73 [2, 12, 70] [0, 1] (E0 := [(2, .ref b0 4 0 0), (12, .ref b1 4 0 0), (70, .bool ((!y10) || (!(y11 == s))))]) (H0 := [(b1, ⟨4, [.agg [.int .i64 y3, .int .i64 y4, .int .i64 y5, .vl rn 2 (List.map encEvent r_Events)]]⟩), (b0, ⟨4, [.agg [.int .i64 (0 : Int), .int .i64 (0 : Int), .int .i64 (0 : Int), .nils]]⟩)]) rfl (⟨_, _, rfl, rfl, _, _, rfl, rfl, _, _, rfl, rfl, rfl⟩) (⟨_, _, rfl, rfl, _, _, rfl, rfl, rfl⟩) rfl ?_
   refine V.cond rfl (fun hc1 => ?_) (fun hc1 => ?_)
   ·
    replace hm0 := cond_t hc1 hm0
    refine V.seq ?_
    refine V.region ?_
    refine VO.cons rfl (V1.build rfl rfl zk_39 pl_39 rfl rfl lt0 ?_)
    refine VO.cons rfl (V1.storeRefAll (k := 1) rfl rfl tyk_39 rfl rfl rfl rfl rfl rfl ?_)
    refine VO.cons rfl (V1.assign rfl rfl rfl lt0 ?_)
    refine VO.nil ?_
    refine V.weakenK (Keeps.leObj 1 [.agg [.int .i64 (0 : Int), .int .i64 (0 : Int), .int .i64 (0 : Int), .vl rn 2 (List.map encEvent ([] : List Event))]] rfl (.cons (.agg (.cons .same (.cons .same (.cons .same (.cons (.nils (l := ([] : List Event)) (f := encEvent) rn 2 rfl rfl) .nil))))) .nil)) ?_
    refine V.ret ?_
    obtain rfl := Option.some.inj hm0
    exact ⟨_, [], ⟨_, _, rfl, ⟨_, _, 1, _, rfl, rfl, rfl, rfl, tyk_39, rfl⟩, ⟨_, _, rfl, rfl, rfl⟩⟩, List.nil_sublist _, rfl, rfl⟩
   ·
    replace hm0 := cond_f hc1 hm0
    refine V.skip ?_
    refine V.seq ?_
    refine V.region ?_
    refine VO.cons rfl (V1.loadRefAll (k := 0) rfl rfl tyk_39 rfl rfl rfl rfl rfl lt0 ?_)
    refine VO.cons rfl (V1.storeRefAll (k := 1) rfl rfl tyk_39 rfl rfl rfl rfl rfl rfl ?_)
    refine VO.cons rfl (V1.assign rfl rfl rfl lt0 ?_)
    refine VO.nil ?_
    refine V.ret ?_
    obtain rfl := Option.some.inj hm0
    exact ⟨_, [], ⟨_, _, rfl, ⟨_, _, 1, _, rfl, rfl, rfl, rfl, tyk_39, rfl⟩, ⟨_, _, rfl, rfl, rfl⟩⟩, List.nil_sublist _, rfl, rfl⟩

theorem ok_spec_l1In {rn : Nat} {x : Int} {a : Int} {b_ : Int} {r : Bool} (h : M.spec_l1In x a b_ = some r) : Does Tryd.prog 140 [.int .i64 x, .int .i64 a, .int .i64 b_] [] rn (fun x H => x = .bool r ∧ H = []) := by
 have hm0 := h; clear h; unfold M.spec_l1In at hm0
 try dsimp only at hm0
 refine Does.intro (N := 15) Tryd.func140 rfl rfl rfl rfl ?_
 intro w0 S0 L0
 refine V.seq ?_
 refine V.region ?_
 refine VO.cons rfl (V1.assign rfl rfl rfl lt0 ?_)
 refine VO.nil ?_
 refine V.seq ?_
 refine V.region ?_
 refine VO.cons rfl (V1.move rfl rfl rfl lt0 ?_)
 refine VO.cons rfl (V1.move rfl rfl rfl lt0 ?_)
 refine VO.cons rfl (V1.int rfl rfl rfl rfl rfl lt0 ?_)
 refine VO.cons rfl (V1.move rfl rfl rfl lt0 ?_)
 apply VO.and (n := 3) rfl rfl rfl rfl rfl rfl lt0 (.none rfl)
 ·
  intro hg0
  refine VO.step (.some rfl rfl rfl) (V1.move rfl rfl rfl lt0 ?_)
  refine VO.step (.some rfl rfl rfl) (V1.move rfl rfl rfl lt0 ?_)
  refine VO.step (.some rfl rfl rfl) (V1.int rfl rfl rfl rfl rfl lt0 ?_)
  exact VO.nil ⟨rfl, rfl, rfl, rfl, .inr ⟨rfl, .inr ⟨rfl, .inr ⟨rfl, .inr ⟨rfl, .inl rfl⟩⟩⟩⟩⟩
 refine VO.cons rfl (V1.assign rfl rfl rfl lt0 ?_)
 refine VO.nil ?_
 refine V.ret ?_
 obtain rfl := Option.some.inj hm0
 exact ⟨_, [], ⟨_, _, rfl, rfl, rfl⟩, List.nil_sublist _, rfl, rfl⟩

theorem ok_spec_l2Day {rn : Nat} {d : Int} {r : Bool} (h : M.spec_l2Day d = some r) : Does Tryd.prog 131 [.int .i64 d] [] rn (fun x H => x = .bool r ∧ H = []) := by
 have hm0 := h; clear h; unfold M.spec_l2Day at hm0
 try dsimp only at hm0
 refine Does.intro (N := 5) Tryd.func131 rfl rfl rfl rfl ?_
 intro w0 S0 L0
 refine V.seq ?_
 refine V.region ?_
 refine VO.cons rfl (V1.assign rfl rfl rfl lt0 ?_)
 refine VO.nil ?_
 refine V.seq ?_
 replace hm0 := bindO hm0; rcases hm0 with ⟨y0, hh0, hm0⟩
 refine V.region ?_
 refine VO.cons rfl (V1.move rfl rfl rfl lt0 ?_)
 refine VO.cons rfl (V1.call rfl rfl rfl cok_140 rfl (ok_spec_l1In hh0) rfl lt0 ?_)
 rintro _ _ ⟨rfl, rfl⟩
 refine VO.cons rfl (V1.assign rfl rfl rfl lt0 ?_)
 refine VO.nil ?_
 refine V.ret ?_
 obtain rfl := Option.some.inj hm0
 exact ⟨_, [], ⟨_, _, rfl, rfl, rfl⟩, List.nil_sublist _, rfl, rfl⟩

theorem ok_spec_l2Event {rn : Nat} {e_ : Event} {r : Bool} (h : M.spec_l2Event e_ = some r) : Does Tryd.prog 229 [encEvent e_] [] rn (fun x H => x = .bool r ∧ H = []) := by
 have hm0 := h; clear h; unfold M.spec_l2Event at hm0
 try dsimp only at hm0
 refine Does.intro (N := 11) Tryd.func229 rfl rfl rfl rfl ?_
 intro w0 S0 L0
 refine V.seq ?_
 refine V.region ?_
 refine VO.cons rfl (V1.boxN (n := 2) rfl rfl rfl rfl rfl lt0 ?_)
 intro b0
 refine VO.cons rfl (V1.assign rfl rfl rfl lt0 ?_)
 refine VO.nil ?_
 refine V.seq ?_
 replace hm0 := bindO hm0; rcases hm0 with ⟨y0, hh0, hm0⟩
 replace hm0 := bindO hm0; rcases hm0 with ⟨y1, hh1, hm0⟩
 refine V.region ?_
 refine VO.cons rfl (V1.fieldRef rfl rfl fo_72_0 rfl lt0 ?_)
 refine VO.cons rfl (V1.loadRef (k := 0) rfl rfl tyk_3 rfl rfl rfl rfl rfl lt0 ?_)
 refine VO.cons rfl (V1.call rfl rfl rfl cok_140 rfl (ok_spec_l1In hh0) rfl lt0 ?_)
 rintro _ _ ⟨rfl, rfl⟩
 refine VO.cons rfl (V1.move rfl rfl rfl lt0 ?_)
 apply VO.and (n := 3) rfl rfl rfl rfl rfl rfl lt0 (.none rfl)
 ·
  intro hg0
  refine VO.step (.some rfl rfl rfl) (V1.fieldRef rfl rfl fo_72_1 rfl lt0 ?_)
  refine VO.step (.some rfl rfl rfl) (V1.loadRef (k := 0) rfl rfl tyk_3 rfl rfl rfl rfl rfl lt0 ?_)
  refine VO.step (.some rfl rfl rfl) (V1.call rfl rfl rfl cok_131 rfl (ok_spec_l2Day (cond_t hg0 hh1)) rfl lt0 ?_)
  rintro _ _ ⟨rfl, rfl⟩
  exact VO.nil ⟨rfl, rfl, rfl, rfl, .inr ⟨rfl, .inr ⟨rfl, .inr ⟨rfl, .inr ⟨rfl, .inl rfl⟩⟩⟩⟩⟩
 refine VO.cons rfl (V1.assign rfl rfl rfl lt0 ?_)
 refine VO.nil ?_
 refine V.ret ?_
 obtain rfl := Option.some.inj hm0
 exact ⟨_, [], ⟨_, _, rfl, rfl, rfl⟩, List.nil_sublist _, rfl, rfl⟩

theorem ok_spec_l2Record {ρ0 rn : Nat} {r_ : Record} {r : Bool} (h : M.spec_l2Record r_ = some r) : Does Tryd.prog 130 [encRecord ρ0 r_] [] rn (fun x H => x = .bool r ∧ H = []) := by
 have hm0 := h; clear h; unfold M.spec_l2Record at hm0
 try dsimp only at hm0
 refine Does.intro (N := 62) Tryd.func130 rfl rfl rfl rfl ?_
 intro w0 S0 L0
 refine V.seq ?_
 refine V.region ?_
 refine VO.cons rfl (V1.boxN (n := 4) rfl rfl rfl rfl rfl lt0 ?_)
 intro b0
 refine VO.cons rfl (V1.assign rfl rfl rfl lt0 ?_)
 refine VO.nil ?_
 refine V.seq ?_
 refine V.seq ?_
 refine V.region ?_
 refine VO.cons rfl (V1.assign rfl rfl rfl lt0 ?_)
 refine VO.nil ?_
 replace hm0 := bindO hm0; rcases hm0 with ⟨e0, he1, hm0⟩
 refine V.cutT (D := (Unit) × (Unit)) (fun ⟨_, _⟩ => ⟨62, [(1, .ref b0 4 0 0)], [(b0, ⟨4, [encRecord ρ0 r_]⟩)]⟩) (fun ⟨_, _⟩ => (.inl () = e0)) ?_ ?_
 ·
  refine V.block ?_
  refine V.keep 62 [3, 1] [0] (E0 := [(3, .int .i64 (0 : Int)), (1, .ref b0 4 0 0)]) (H0 := [(b0, ⟨4, [encRecord ρ0 r_]⟩)]) rfl (⟨_, _, rfl, rfl, _, _, rfl, rfl, rfl⟩) (⟨_, _, rfl, rfl, rfl⟩) rfl ?_
  refine V.loopE (D := Nat × (Int) × (Unit)) (fun ⟨n0, i, _⟩ => [(3, .int .i64 i)]) (fun ⟨n0, i, _⟩ => []) (fun ⟨n0, i, _⟩ => loopO (M.spec_l2Record_l0 r_) n0 i = some e0) (fun ⟨n0, _, _⟩ => n0) (rounds, (0 : Int), ()) rfl he1 ?_
  rintro ⟨n0, i, _⟩ hP0
  obtain ⟨m0, y0, rfl, hm1, hl1, hr1⟩ := loop_head hP0
  unfold M.spec_l2Record_l0 at hm1; dsimp only at hm1
  show V _ _ _ ⟨62, [(3, .int .i64 i), (1, .ref b0 4 0 0)], [(b0, ⟨4, [encRecord ρ0 r_]⟩)]⟩
  refine V.seq ?_
  refine V.seq ?_
  refine V.region ?_
  refine VO.cons rfl (V1.move rfl rfl rfl lt0 ?_)
  refine VO.cons rfl (V1.fieldRef rfl rfl fo_39_3 rfl lt0 ?_)
  refine VO.cons rfl (V1.loadRef (k := 0) rfl rfl tyk_37 rfl rfl rfl rfl rfl lt0 ?_)
  refine VO.cons rfl (V1.lenMap rfl rfl rfl rfl rfl rfl isl_37 lt0 ?_)
  refine VO.cons rfl (V1.int rfl rfl rfl rfl rfl lt0 ?_)
  refine VO.nil ?_
  refine V.keep 62 [1, 3, 9] [0] (E0 := [(1, .ref b0 4 0 0), (3, .int .i64 i), (9, .bool (decide (i < (r_.Events.length : Int))))]) (H0 := [(b0, ⟨4, [encRecord ρ0 r_]⟩)]) rfl (⟨_, _, rfl, rfl, _, _, rfl, rfl, _, _, rfl, rfl, rfl⟩) (⟨_, _, rfl, rfl, rfl⟩) rfl ?_
  refine V.cond rfl (fun hc0 => ?_) (fun hc0 => ?_)
  ·
   replace hm1 := cond_t hc0 hm1
   refine V.skip ?_
   refine V.seq ?_
   refine V.block ?_
   refine V.seq ?_
   replace hm1 := asrt_some hm1; rcases hm1 with ⟨hh0, hm1⟩
   refine V.region ?_
   refine VO.cons rfl (V1.fieldRef rfl rfl fo_39_3 rfl lt0 ?_)
   refine VO.cons rfl (V1.loadRef (k := 0) rfl rfl tyk_37 rfl rfl rfl rfl rfl lt0 ?_)
   refine VO.cons rfl (V1.move rfl rfl rfl lt0 ?_)
   refine VO.cons rfl (V1.indexI rfl rfl esz_37 rfl rfl hh0 lt0 ?_)
   refine VO.cons rfl (V1.loadPinAll rfl rfl tyk_72 rfl rfl lt0 ?_)
   refine VO.cons rfl (V1.alloc rfl rfl zk_72 lt0 ?_)
   intro b1
   refine VO.cons rfl (V1.storeRefAll (k := 0) rfl rfl tyk_72 rfl rfl rfl rfl rfl rfl ?_)
   refine VO.nil ?_
   refine V.keep 62 [1, 3, 4] [0, 1] (E0 := [(1, .ref b0 4 0 0), (3, .int .i64 i), (4, .ref b1 2 0 0)]) (H0 := [(b1, ⟨2, [encEvent (r_.Events.getD (Int.toNat i) default)]⟩), (b0, ⟨4, [encRecord ρ0 r_]⟩)]) rfl (⟨_, _, rfl, rfl, _, _, rfl, rfl, _, _, rfl, rfl, rfl⟩) (⟨_, _, rfl, rfl, _, _, rfl, rfl, rfl⟩) rfl ?_
   refine V.seq ?_
   replace hm1 := bindO hm1; rcases hm1 with ⟨y1, hh1, hm1⟩
   replace hm1 := asrt_some hm1; rcases hm1 with ⟨hh2, hm1⟩
   refine V.regionM 62 26 [⟨[(4, none)], [], none⟩, ⟨[(17, some 0)], [], none⟩, ⟨[(18, some 0)], [], none⟩, ⟨[(19, some 0)], [], none⟩, ⟨[(4, none)], [(0, false)], none⟩, ⟨[(21, some 0)], [(1, false)], none⟩, ⟨[(1, none)], [(2, false)], none⟩, ⟨[(23, some 0)], [(3, false)], none⟩, ⟨[(22, some 2), (24, some 0)], [(4, false)], none⟩, ⟨[], [], some (false, 20, 25, 5, 0)⟩, ⟨[(26, some 0)], [], none⟩, ⟨[(3, none)], [(0, false)], none⟩, ⟨[(28, some 0)], [(1, false)], none⟩, ⟨[(29, some 0)], [(2, false)], none⟩, ⟨[(1, none)], [(0, true), (3, false)], none⟩, ⟨[(31, some 0)], [(1, true), (4, false)], none⟩, ⟨[(3, none)], [(2, true), (5, false)], none⟩, ⟨[(33, some 0)], [(3, true), (6, false)], none⟩, ⟨[(32, some 2), (34, some 0)], [(4, true), (7, false)], none⟩, ⟨[(35, some 0)], [(5, true), (8, false)], none⟩, ⟨[(36, some 0)], [(6, true), (9, false)], none⟩, ⟨[(4, none)], [(7, true), (10, false)], none⟩, ⟨[(38, some 0)], [(8, true), (11, false)], none⟩, ⟨[(37, some 2), (39, some 0)], [(9, true), (12, false)], none⟩, ⟨[], [(13, false)], some (true, 30, 40, 10, 0)⟩, ⟨[], [], some (false, 27, 41, 14, 0)⟩] [(1, none), (3, none), (42, some 0)] (⟨_, rfl, ⟨_, rfl, ⟨_, rfl, ⟨_, rfl, ⟨_, rfl, ⟨_, rfl, ⟨_, rfl, ⟨_, rfl, ⟨_, rfl, ⟨_, rfl, ⟨_, rfl, ⟨_, rfl, ⟨_, rfl, ⟨_, rfl, ⟨_, rfl, ⟨_, rfl, ⟨_, rfl, ⟨_, rfl, ⟨_, rfl, ⟨_, rfl, ⟨_, rfl, ⟨_, rfl, ⟨_, rfl, ⟨_, rfl, ⟨_, rfl, ⟨_, rfl, ⟨rfl, rfl⟩⟩⟩⟩⟩⟩⟩⟩⟩⟩⟩⟩⟩⟩⟩⟩⟩⟩⟩⟩⟩⟩⟩⟩⟩⟩⟩) mixed_orders rfl (by decide +kernel) (fun hck5 => ?_)
   refine VP.step (p := ?pv208) rfl rfl rfl (⟨_, _, rfl, rfl, rfl⟩) ?hv208 ?rest208 hck5
   case hv208 =>
    intro E1
    refine (V1.loadRefAll (k := 0) rfl rfl tyk_72 rfl rfl rfl rfl rfl lt0 ?_)
    exact rfl
   refine VP.step (p := ?pv209) rfl rfl rfl (⟨_, _, rfl, rfl, rfl⟩) ?hv209 ?rest209 hck5
   case hv209 =>
    intro E1
    refine (V1.call rfl rfl rfl cok_229 rfl (ok_spec_l2Event hh1) rfl lt0 ?_)
    rintro _ _ ⟨rfl, rfl⟩
    exact rfl
   refine VP.step (p := ?pv211) rfl rfl rfl (⟨_, _, rfl, rfl, rfl⟩) ?hv211 ?rest211 hck5
   case hv211 =>
    intro E1
    refine (V1.not rfl rfl rfl lt0 ?_)
    exact rfl
   refine VP.step (p := ?pv212) rfl rfl rfl (⟨_, _, rfl, rfl, rfl⟩) ?hv212 ?rest212 hck5
   case hv212 =>
    intro E1
    refine (V1.move rfl rfl rfl lt0 ?_)
    exact rfl
   refine VP.step (p := ?pv213) rfl rfl rfl (⟨_, _, rfl, rfl, rfl⟩) ?hv213 ?rest213 hck5
   case hv213 =>
    refine ⟨_, rfl, fun hg0 => ?_⟩
    intro E1
    refine (V1.fieldRef rfl rfl fo_72_1 rfl lt0 ?_)
    exact rfl
   refine VP.step (p := ?pv214) rfl rfl rfl (⟨_, _, rfl, rfl, rfl⟩) ?hv214 ?rest214 hck5
   case hv214 =>
    refine ⟨_, rfl, fun hg0 => ?_⟩
    intro E1
    refine (V1.loadRef (k := 0) rfl rfl tyk_3 rfl rfl rfl rfl rfl lt0 ?_)
    exact rfl
   refine VP.step (p := ?pv215) rfl rfl rfl (⟨_, _, rfl, rfl, rfl⟩) ?hv215 ?rest215 hck5
   case hv215 =>
    refine ⟨_, rfl, fun hg0 => ?_⟩
    intro E1
    refine (V1.fieldRef rfl rfl fo_39_2 rfl lt0 ?_)
    exact rfl
   refine VP.step (p := ?pv216) rfl rfl rfl (⟨_, _, rfl, rfl, rfl⟩) ?hv216 ?rest216 hck5
   case hv216 =>
    refine ⟨_, rfl, fun hg0 => ?_⟩
    intro E1
    refine (V1.loadRef (k := 1) rfl rfl tyk_3 rfl rfl rfl rfl rfl lt0 ?_)
    exact rfl
   refine VP.step (p := ?pv217) rfl rfl rfl (⟨_, _, rfl, rfl, _, _, rfl, rfl, rfl⟩) ?hv217 ?rest217 hck5
   case hv217 =>
    refine ⟨_, rfl, fun hg0 => ?_⟩
    intro E1
    refine (V1.int rfl rfl rfl rfl rfl lt0 ?_)
    exact rfl
   refine VP.pickOr rfl rfl rfl rfl rfl rfl (trivial) ?_ hck5
   refine VP.step (p := ?pv218) rfl rfl rfl (⟨_, _, rfl, rfl, rfl⟩) ?hv218 ?rest218 hck5
   case hv218 =>
    intro E1
    refine (V1.move rfl rfl rfl lt0 ?_)
    exact rfl
   refine VP.step (p := ?pv219) rfl rfl rfl (⟨_, _, rfl, rfl, rfl⟩) ?hv219 ?rest219 hck5
   case hv219 =>
    refine ⟨_, rfl, fun hg1 => ?_⟩
    intro E1
    refine (V1.move rfl rfl rfl lt0 ?_)
    exact rfl
   refine VP.step (p := ?pv220) rfl rfl rfl (⟨_, _, rfl, rfl, rfl⟩) ?hv220 ?rest220 hck5
   case hv220 =>
    refine ⟨_, rfl, fun hg1 => ?_⟩
    intro E1
    refine (V1.int rfl rfl rfl rfl rfl lt0 ?_)
    exact rfl
   refine VP.step (p := ?pv221) rfl rfl rfl (⟨_, _, rfl, rfl, rfl⟩) ?hv221 ?rest221 hck5
   case hv221 =>
    refine ⟨_, rfl, fun hg1 => ?_⟩
    intro E1
    refine (V1.move rfl rfl rfl lt0 ?_)
    exact rfl
   refine VP.step (p := ?pv222) rfl rfl rfl (⟨_, _, rfl, rfl, rfl⟩) ?hv222 ?rest222 hck5
   case hv222 =>
    refine ⟨_, rfl, fun hg2 => ?_⟩
    refine ⟨_, rfl, fun hg1 => ?_⟩
    intro E1
    refine (V1.fieldRef rfl rfl fo_39_3 rfl lt0 ?_)
    exact rfl
   refine VP.step (p := ?pv223) rfl rfl rfl (⟨_, _, rfl, rfl, rfl⟩) ?hv223 ?rest223 hck5
   case hv223 =>
    refine ⟨_, rfl, fun hg2 => ?_⟩
    refine ⟨_, rfl, fun hg1 => ?_⟩
    intro E1
    refine (V1.loadRef (k := 1) rfl rfl tyk_37 rfl rfl rfl rfl rfl lt0 ?_)
    exact rfl
   refine VP.step (p := ?pv224) rfl rfl rfl (⟨_, _, rfl, rfl, rfl⟩) ?hv224 ?rest224 hck5
   case hv224 =>
    refine ⟨_, rfl, fun hg2 => ?_⟩
    refine ⟨_, rfl, fun hg1 => ?_⟩
    intro E1
    refine (V1.move rfl rfl rfl lt0 ?_)
    exact rfl
   refine VP.step (p := ?pv225) rfl rfl rfl (⟨_, _, rfl, rfl, rfl⟩) ?hv225 ?rest225 hck5
   case hv225 =>
    refine ⟨_, rfl, fun hg2 => ?_⟩
    refine ⟨_, rfl, fun hg1 => ?_⟩
    intro E1
    refine (V1.int rfl rfl rfl rfl rfl lt0 ?_)
    exact rfl
   refine VP.step (p := ?pv226) rfl rfl rfl (⟨_, _, rfl, rfl, _, _, rfl, rfl, rfl⟩) ?hv226 ?rest226 hck5
   case hv226 =>
    refine ⟨_, rfl, fun hg2 => ?_⟩
    refine ⟨_, rfl, fun hg1 => ?_⟩
    intro E1
    refine (V1.indexI rfl rfl esz_37 rfl rfl (hh2 hg1 hg2) lt0 ?_)
    exact rfl
   refine VP.step (p := ?pv227) rfl rfl rfl (⟨_, _, rfl, rfl, rfl⟩) ?hv227 ?rest227 hck5
   case hv227 =>
    refine ⟨_, rfl, fun hg2 => ?_⟩
    refine ⟨_, rfl, fun hg1 => ?_⟩
    intro E1
    refine (V1.fieldPin rfl rfl fo_72_0 rfl lt0 ?_)
    exact rfl
   refine VP.step (p := ?pv228) rfl rfl rfl (⟨_, _, rfl, rfl, rfl⟩) ?hv228 ?rest228 hck5
   case hv228 =>
    refine ⟨_, rfl, fun hg2 => ?_⟩
    refine ⟨_, rfl, fun hg1 => ?_⟩
    intro E1
    refine (V1.loadPin rfl rfl tyk_3 rfl rfl lt0 ?_)
    exact rfl
   refine VP.step (p := ?pv229) rfl rfl rfl (⟨_, _, rfl, rfl, rfl⟩) ?hv229 ?rest229 hck5
   case hv229 =>
    refine ⟨_, rfl, fun hg2 => ?_⟩
    refine ⟨_, rfl, fun hg1 => ?_⟩
    intro E1
    refine (V1.fieldRef rfl rfl fo_72_0 rfl lt0 ?_)
    exact rfl
   refine VP.step (p := ?pv230) rfl rfl rfl (⟨_, _, rfl, rfl, rfl⟩) ?hv230 ?rest230 hck5
   case hv230 =>
    refine ⟨_, rfl, fun hg2 => ?_⟩
    refine ⟨_, rfl, fun hg1 => ?_⟩
    intro E1
    refine (V1.loadRef (k := 0) rfl rfl tyk_3 rfl rfl rfl rfl rfl lt0 ?_)
    exact rfl
   refine VP.step (p := ?pv231) rfl rfl rfl (⟨_, _, rfl, rfl, _, _, rfl, rfl, rfl⟩) ?hv231 ?rest231 hck5
   case hv231 =>
    refine ⟨_, rfl, fun hg2 => ?_⟩
    refine ⟨_, rfl, fun hg1 => ?_⟩
    intro E1
    refine (V1.int rfl rfl rfl rfl rfl lt0 ?_)
    exact rfl
   refine VP.pickAnd rfl rfl rfl rfl rfl rfl (⟨_, rfl, fun _ => trivial⟩) ?_ hck5
   refine VP.pickOr rfl rfl rfl rfl rfl rfl (trivial) ?_ hck5
   refine VP.fin rfl (⟨_, _, rfl, rfl, _, _, rfl, rfl, _, _, rfl, rfl, rfl⟩) ?_
   refine VO.nil ?_
   refine V.cond rfl (fun hc1 => ?_) (fun hc1 => ?_)
   ·
    replace hm1 := cond_t hc1 hm1
    refine V.seq ?_
    refine V.region ?_
    refine VO.cons rfl (V1.assign rfl rfl rfl lt0 ?_)
    refine VO.nil ?_
    refine V.ret ?_
    obtain rfl := hr1 _ (Option.some.inj hm1).symm
    change some _ = some _ at hm0
    obtain rfl := Option.some.inj hm0
    exact ⟨_, [], ⟨_, _, rfl, rfl, rfl⟩, List.nil_sublist _, rfl, rfl⟩
   ·
    replace hm1 := cond_f hc1 hm1
    refine V.skip ?_
    refine V.region ?_
    refine VO.cons rfl (V1.move rfl rfl rfl lt0 ?_)
    refine VO.cons rfl (V1.int rfl rfl rfl rfl rfl lt0 ?_)
    refine VO.cons rfl (V1.assign rfl rfl rfl lt0 ?_)
    refine VO.nil ?_
    exact ⟨(m0, (IntKind.i64.wrap (i + (1 : Int))), ()), hl1 _ (Option.some.inj hm1).symm, Nat.lt_succ_self _, Keeps.mk (ks := [1]) rfl ⟨rfl, rfl, trivial⟩ (⟨_, _, rfl, rfl, rfl⟩) rfl⟩
  ·
   replace hm1 := cond_f hc0 hm1
   refine V.exit ?_
   obtain rfl := hr1 _ (Option.some.inj hm1).symm
   exact ⟨((), ()), rfl, Keeps.mk (ks := [0]) rfl ⟨rfl, trivial⟩ (⟨_, _, rfl, rfl, rfl⟩) rfl⟩
 ·
  rintro ⟨_, _⟩ rfl
  try dsimp only at hm0
  refine V.seq ?_
  replace hm0 := bindO hm0; rcases hm0 with ⟨y2, hh3, hm0⟩
  replace hm0 := bindO hm0; rcases hm0 with ⟨y3, hh4, hm0⟩
  replace hm0 := bindO hm0; rcases hm0 with ⟨y4, hh5, hm0⟩
  refine V.region ?_
  refine VO.cons rfl (V1.fieldRef rfl rfl fo_39_0 rfl lt0 ?_)
  refine VO.cons rfl (V1.loadRef (k := 0) rfl rfl tyk_3 rfl rfl rfl rfl rfl lt0 ?_)
  refine VO.cons rfl (V1.call rfl rfl rfl cok_140 rfl (ok_spec_l1In hh3) rfl lt0 ?_)
  rintro _ _ ⟨rfl, rfl⟩
  refine VO.cons rfl (V1.move rfl rfl rfl lt0 ?_)
  apply VO.and (n := 3) rfl rfl rfl rfl rfl rfl lt0 (.none rfl)
  ·
   intro hg3
   refine VO.step (.some rfl rfl rfl) (V1.fieldRef rfl rfl fo_39_1 rfl lt0 ?_)
   refine VO.step (.some rfl rfl rfl) (V1.loadRef (k := 0) rfl rfl tyk_3 rfl rfl rfl rfl rfl lt0 ?_)
   refine VO.step (.some rfl rfl rfl) (V1.call rfl rfl rfl cok_140 rfl (ok_spec_l1In (cond_t hg3 hh4)) rfl lt0 ?_)
   rintro _ _ ⟨rfl, rfl⟩
   exact VO.nil ⟨rfl, rfl, rfl, rfl, .inr ⟨rfl, .inr ⟨rfl, .inr ⟨rfl, .inr ⟨rfl, .inl rfl⟩⟩⟩⟩⟩
  refine VO.cons rfl (V1.move rfl rfl rfl lt0 ?_)
  apply VO.and (n := 3) rfl rfl rfl rfl rfl rfl lt0 (.none rfl)
  ·
   intro hg4
   refine VO.step (.some rfl rfl rfl) (V1.fieldRef rfl rfl fo_39_2 rfl lt0 ?_)
   refine VO.step (.some rfl rfl rfl) (V1.loadRef (k := 0) rfl rfl tyk_3 rfl rfl rfl rfl rfl lt0 ?_)
   refine VO.step (.some rfl rfl rfl) (V1.call rfl rfl rfl cok_131 rfl (ok_spec_l2Day (cond_t hg4 hh5)) rfl lt0 ?_)
   rintro _ _ ⟨rfl, rfl⟩
   exact VO.nil ⟨rfl, rfl, rfl, rfl, .inr ⟨rfl, .inr ⟨rfl, .inr ⟨rfl, .inr ⟨rfl, .inl rfl⟩⟩⟩⟩⟩
  refine VO.cons rfl (V1.move rfl rfl rfl lt0 ?_)
  apply VO.and (n := 4) rfl rfl rfl rfl rfl rfl lt0 (.none rfl)
  ·
   intro hg5
   refine VO.step (.some rfl rfl rfl) (V1.fieldRef rfl rfl fo_39_3 rfl lt0 ?_)
   refine VO.step (.some rfl rfl rfl) (V1.loadRef (k := 0) rfl rfl tyk_37 rfl rfl rfl rfl rfl lt0 ?_)
   refine VO.step (.some rfl rfl rfl) (V1.lenMap rfl rfl rfl rfl rfl rfl isl_37 lt0 ?_)
   refine VO.step (.some rfl rfl rfl) (V1.int rfl rfl rfl rfl rfl lt0 ?_)
   exact VO.nil ⟨rfl, rfl, rfl, rfl, .inr ⟨rfl, .inr ⟨rfl, .inr ⟨rfl, .inr ⟨rfl, .inr ⟨rfl, .inl rfl⟩⟩⟩⟩⟩⟩
  refine VO.cons rfl (V1.assign rfl rfl rfl lt0 ?_)
  refine VO.nil ?_
  refine V.ret ?_
  obtain rfl := Option.some.inj hm0
  exact ⟨_, [], ⟨_, _, rfl, rfl, rfl⟩, List.nil_sublist _, rfl, rfl⟩

theorem ok_spec_l1Num_s {rn : Nat} {n : Int} {r : List UInt8} {rec_ : Int → Option (List UInt8)} (hrec_ : ∀ {rn : Nat} {n : Int} {r : List UInt8} , rec_ n = some r → Does Tryd.prog 132 [.int .i64 n] [] rn (fun x H => x = .str r ∧ H = [])) (h : M.spec_l1Num_s rec_ n = some r) : Does Tryd.prog 132 [.int .i64 n] [] rn (fun x H => x = .str r ∧ H = []) := by
 have hm0 := h; clear h; unfold M.spec_l1Num_s at hm0
 try dsimp only at hm0
 refine Does.intro (N := 25) Tryd.func132 rfl rfl rfl rfl ?_
 intro w0 S0 L0
 refine V.seq ?_
 refine V.region ?_
 refine VO.cons rfl (V1.assign rfl rfl rfl lt0 ?_)
 refine VO.nil ?_
 refine V.seq ?_
 refine V.seq ?_
 refine V.region ?_
 refine VO.cons rfl (V1.move rfl rfl rfl lt0 ?_)
 refine VO.cons rfl (V1.int rfl rfl rfl rfl rfl lt0 ?_)
 refine VO.nil ?_
 refine V.cond rfl (fun hc0 => ?_) (fun hc0 => ?_)
 ·
  replace hm0 := cond_t hc0 hm0
  refine V.seq ?_
  replace hm0 := bindO hm0; rcases hm0 with ⟨y0, hh0, hm0⟩
  replace hm0 := asrt_some hm0; rcases hm0 with ⟨hh1, hm0⟩
  refine V.region ?_
  refine VO.cons rfl (V1.move rfl rfl rfl lt0 ?_)
  refine VO.cons rfl (V1.neg rfl rfl rfl lt0 ?_)
  refine VO.cons rfl (V1.call rfl rfl rfl cok_132 rfl (hrec_ hh0) rfl lt0 ?_)
  rintro _ _ ⟨rfl, rfl⟩
  refine VO.cons rfl (V1.strAdd rfl rfl rfl rfl hh1 lt0 ?_)
  refine VO.cons rfl (V1.assign rfl rfl rfl lt0 ?_)
  refine VO.nil ?_
  refine V.ret ?_
  obtain rfl := Option.some.inj hm0
  exact ⟨_, [], ⟨_, _, rfl, rfl, rfl⟩, List.nil_sublist _, rfl, rfl⟩
 ·
  replace hm0 := cond_f hc0 hm0
  refine V.skip ?_
  refine V.seq ?_
  refine V.seq ?_
  refine V.region ?_
  refine VO.cons rfl (V1.move rfl rfl rfl lt0 ?_)
  refine VO.cons rfl (V1.int rfl rfl rfl rfl rfl lt0 ?_)
  refine VO.nil ?_
  refine V.keep 25 [0, 10] [] (E0 := [(0, .int .i64 n), (10, .bool (decide (n < (10 : Int))))]) (H0 := []) rfl (⟨_, _, rfl, rfl, _, _, rfl, rfl, rfl⟩) (rfl) rfl ?_
  refine V.cond rfl (fun hc1 => ?_) (fun hc1 => ?_)
  ·
   replace hm0 := cond_t hc1 hm0
   refine V.seq ?_
   replace hm0 := asrt_some hm0; rcases hm0 with ⟨hh2, hm0⟩
   refine V.region ?_
   refine VO.cons rfl (V1.move rfl rfl rfl lt0 ?_)
   refine VO.cons rfl (V1.move rfl rfl rfl lt0 ?_)
   refine VO.cons rfl (V1.int rfl rfl rfl rfl rfl lt0 ?_)
   refine VO.cons rfl (V1.sliceStrI (s := ([48, 49, 50, 51, 52, 53, 54, 55, 56, 57] : List UInt8)) (a := n) (b := (IntKind.i64.wrap (n + (1 : Int)))) rfl rfl istr_9 rfl (Bnd.some rfl hh2.1 _) (Bnd.some rfl (Int.le_trans hh2.1 hh2.2.1) _) hh2 lt0 ?_)
   refine VO.cons rfl (V1.assign rfl rfl rfl lt0 ?_)
   refine VO.nil ?_
   refine V.ret ?_
   obtain rfl := Option.some.inj hm0
   exact ⟨_, [], ⟨_, _, rfl, rfl, rfl⟩, List.nil_sublist _, rfl, rfl⟩
  ·
   replace hm0 := cond_f hc1 hm0
   refine V.skip ?_
   refine V.seq ?_
   replace hm0 := bindO hm0; rcases hm0 with ⟨y1, hh3, hm0⟩
   replace hm0 := asrt_some hm0; rcases hm0 with ⟨hh4, hm0⟩
   replace hm0 := asrt_some hm0; rcases hm0 with ⟨hh5, hm0⟩
   refine V.regionM 25 9 [⟨[(0, none)], [], none⟩, ⟨[(15, some 0)], [], none⟩, ⟨[(16, some 0)], [], none⟩, ⟨[(0, none)], [], none⟩, ⟨[(18, some 0)], [], none⟩, ⟨[(0, none)], [], none⟩, ⟨[(20, some 0)], [], none⟩, ⟨[(21, some 0)], [], none⟩, ⟨[(19, some 3), (22, some 0)], [], none⟩] [(17, some 6), (23, some 0)] (⟨_, rfl, ⟨_, rfl, ⟨_, rfl, ⟨_, rfl, ⟨_, rfl, ⟨_, rfl, ⟨_, rfl, ⟨_, rfl, ⟨_, rfl, ⟨rfl, rfl⟩⟩⟩⟩⟩⟩⟩⟩⟩⟩) mixed_orders rfl (by decide +kernel) (fun hck5 => ?_)
   refine VP.step (p := ?pv27) rfl rfl rfl (⟨_, _, rfl, rfl, rfl⟩) ?hv27 ?rest27 hck5
   case hv27 =>
    intro E1
    refine (V1.move rfl rfl rfl lt0 ?_)
    exact rfl
   refine VP.step (p := ?pv28) rfl rfl rfl (⟨_, _, rfl, rfl, rfl⟩) ?hv28 ?rest28 hck5
   case hv28 =>
    intro E1
    refine (V1.quo rfl rfl rfl rfl (by decide) lt0 ?_)
    exact rfl
   refine VP.step (p := ?pv29) rfl rfl rfl (⟨_, _, rfl, rfl, rfl⟩) ?hv29 ?rest29 hck5
   case hv29 =>
    intro E1
    refine (V1.call rfl rfl rfl cok_132 rfl (hrec_ hh3) rfl lt0 ?_)
    rintro _ _ ⟨rfl, rfl⟩
    exact rfl
   refine VP.step (p := ?pv31) rfl rfl rfl (⟨_, _, rfl, rfl, rfl⟩) ?hv31 ?rest31 hck5
   case hv31 =>
    intro E1
    refine (V1.move rfl rfl rfl lt0 ?_)
    exact rfl
   refine VP.step (p := ?pv32) rfl rfl rfl (⟨_, _, rfl, rfl, rfl⟩) ?hv32 ?rest32 hck5
   case hv32 =>
    intro E1
    refine (V1.rem rfl rfl rfl rfl (by decide) lt0 ?_)
    exact rfl
   refine VP.step (p := ?pv33) rfl rfl rfl (⟨_, _, rfl, rfl, rfl⟩) ?hv33 ?rest33 hck5
   case hv33 =>
    intro E1
    refine (V1.move rfl rfl rfl lt0 ?_)
    exact rfl
   refine VP.step (p := ?pv34) rfl rfl rfl (⟨_, _, rfl, rfl, rfl⟩) ?hv34 ?rest34 hck5
   case hv34 =>
    intro E1
    refine (V1.rem rfl rfl rfl rfl (by decide) lt0 ?_)
    exact rfl
   refine VP.step (p := ?pv35) rfl rfl rfl (⟨_, _, rfl, rfl, rfl⟩) ?hv35 ?rest35 hck5
   case hv35 =>
    intro E1
    refine (V1.int rfl rfl rfl rfl rfl lt0 ?_)
    exact rfl
   refine VP.step (p := ?pv36) rfl rfl rfl (⟨_, _, rfl, rfl, _, _, rfl, rfl, rfl⟩) ?hv36 ?rest36 hck5
   case hv36 =>
    intro E1
    refine (V1.sliceStrI (s := ([48, 49, 50, 51, 52, 53, 54, 55, 56, 57] : List UInt8)) (a := (Int.tmod n (10 : Int))) (b := (IntKind.i64.wrap ((Int.tmod n (10 : Int)) + (1 : Int)))) rfl rfl istr_9 rfl (Bnd.some rfl hh4.1 _) (Bnd.some rfl (Int.le_trans hh4.1 hh4.2.1) _) hh4 lt0 ?_)
    exact rfl
   refine VP.fin rfl (⟨_, _, rfl, rfl, _, _, rfl, rfl, rfl⟩) ?_
   refine VO.cons rfl (V1.strAdd rfl rfl rfl rfl hh5 lt0 ?_)
   refine VO.cons rfl (V1.assign rfl rfl rfl lt0 ?_)
   refine VO.nil ?_
   refine V.ret ?_
   obtain rfl := Option.some.inj hm0
   exact ⟨_, [], ⟨_, _, rfl, rfl, rfl⟩, List.nil_sublist _, rfl, rfl⟩

theorem ok_spec_l1Num_r (k_ : Nat) : ∀ {rn : Nat} {n : Int} {r : List UInt8} , M.spec_l1Num_r k_ n = some r → Does Tryd.prog 132 [.int .i64 n] [] rn (fun x H => x = .str r ∧ H = []) := by
 induction k_ with
 | zero =>
  intro rn n r h
  have h0 : (none : Option (List UInt8)) = some r := h
  cases h0
 | succ k_ ih =>
  intro rn n r h
  exact ok_spec_l1Num_s (rec_ := M.spec_l1Num_r k_) @ih h

theorem ok_spec_l1Num {rn : Nat} {n : Int} {r : List UInt8} (h : M.spec_l1Num n = some r) : Does Tryd.prog 132 [.int .i64 n] [] rn (fun x H => x = .str r ∧ H = []) := ok_spec_l1Num_r rounds h

theorem ok_spec_l2Text {ρ0 rn : Nat} {r_ : Record} {r : List UInt8} (h : M.spec_l2Text r_ = some r) : Does Tryd.prog 161 [encRecord ρ0 r_] [] rn (fun x H => x = .str r ∧ H = []) := by
 have hm0 := h; clear h; unfold M.spec_l2Text at hm0
 try dsimp only at hm0
 refine Does.intro (N := 45) Tryd.func161 rfl rfl rfl rfl ?_
 intro w0 S0 L0
 refine V.seq ?_
 refine V.region ?_
 refine VO.cons rfl (V1.boxN (n := 4) rfl rfl rfl rfl rfl lt0 ?_)
 intro b0
 refine VO.cons rfl (V1.assign rfl rfl rfl lt0 ?_)
 refine VO.nil ?_
 refine V.seq ?_
 replace hm0 := bindO hm0; rcases hm0 with ⟨y0, hh0, hm0⟩
 replace hm0 := asrt_some hm0; rcases hm0 with ⟨hh1, hm0⟩
 replace hm0 := bindO hm0; rcases hm0 with ⟨y1, hh2, hm0⟩
 replace hm0 := asrt_some hm0; rcases hm0 with ⟨hh3, hm0⟩
 replace hm0 := asrt_some hm0; rcases hm0 with ⟨hh4, hm0⟩
 replace hm0 := bindO hm0; rcases hm0 with ⟨y2, hh5, hm0⟩
 replace hm0 := asrt_some hm0; rcases hm0 with ⟨hh6, hm0⟩
 refine V.regionM 45 12 [⟨[(1, none)], [], none⟩, ⟨[(5, some 0)], [], none⟩, ⟨[(6, some 0)], [], none⟩, ⟨[(7, some 0)], [], none⟩, ⟨[(1, none)], [], none⟩, ⟨[(9, some 0)], [], none⟩, ⟨[(10, some 0)], [], none⟩, ⟨[(8, some 3), (11, some 0)], [], none⟩, ⟨[(12, some 0)], [], none⟩, ⟨[(1, none)], [], none⟩, ⟨[(14, some 0)], [], none⟩, ⟨[(15, some 0)], [], none⟩] [(1, none), (13, some 3), (16, some 0)] (⟨_, rfl, ⟨_, rfl, ⟨_, rfl, ⟨_, rfl, ⟨_, rfl, ⟨_, rfl, ⟨_, rfl, ⟨_, rfl, ⟨_, rfl, ⟨_, rfl, ⟨_, rfl, ⟨_, rfl, ⟨rfl, rfl⟩⟩⟩⟩⟩⟩⟩⟩⟩⟩⟩⟩⟩) mixed_orders rfl (by decide +kernel) (fun hck1 => ?_)
 refine VP.step (p := ?pv172) rfl rfl rfl (⟨_, _, rfl, rfl, rfl⟩) ?hv172 ?rest172 hck1
 case hv172 =>
  intro E1
  refine (V1.fieldRef rfl rfl fo_39_0 rfl lt0 ?_)
  exact rfl
 refine VP.step (p := ?pv173) rfl rfl rfl (⟨_, _, rfl, rfl, rfl⟩) ?hv173 ?rest173 hck1
 case hv173 =>
  intro E1
  refine (V1.loadRef (k := 0) rfl rfl tyk_3 rfl rfl rfl rfl rfl lt0 ?_)
  exact rfl
 refine VP.step (p := ?pv174) rfl rfl rfl (⟨_, _, rfl, rfl, rfl⟩) ?hv174 ?rest174 hck1
 case hv174 =>
  intro E1
  refine (V1.call rfl rfl rfl cok_132 rfl (ok_spec_l1Num hh0) rfl lt0 ?_)
  rintro _ _ ⟨rfl, rfl⟩
  exact rfl
 refine VP.step (p := ?pv176) rfl rfl rfl (⟨_, _, rfl, rfl, rfl⟩) ?hv176 ?rest176 hck1
 case hv176 =>
  intro E1
  refine (V1.strAdd rfl rfl rfl rfl hh1 lt0 ?_)
  exact rfl
 refine VP.step (p := ?pv177) rfl rfl rfl (⟨_, _, rfl, rfl, rfl⟩) ?hv177 ?rest177 hck1
 case hv177 =>
  intro E1
  refine (V1.fieldRef rfl rfl fo_39_1 rfl lt0 ?_)
  exact rfl
 refine VP.step (p := ?pv178) rfl rfl rfl (⟨_, _, rfl, rfl, rfl⟩) ?hv178 ?rest178 hck1
 case hv178 =>
  intro E1
  refine (V1.loadRef (k := 0) rfl rfl tyk_3 rfl rfl rfl rfl rfl lt0 ?_)
  exact rfl
 refine VP.step (p := ?pv179) rfl rfl rfl (⟨_, _, rfl, rfl, rfl⟩) ?hv179 ?rest179 hck1
 case hv179 =>
  intro E1
  refine (V1.call rfl rfl rfl cok_132 rfl (ok_spec_l1Num hh2) rfl lt0 ?_)
  rintro _ _ ⟨rfl, rfl⟩
  exact rfl
 refine VP.step (p := ?pv181) rfl rfl rfl (⟨_, _, rfl, rfl, _, _, rfl, rfl, rfl⟩) ?hv181 ?rest181 hck1
 case hv181 =>
  intro E1
  refine (V1.strAdd rfl rfl rfl rfl hh3 lt0 ?_)
  exact rfl
 refine VP.step (p := ?pv182) rfl rfl rfl (⟨_, _, rfl, rfl, rfl⟩) ?hv182 ?rest182 hck1
 case hv182 =>
  intro E1
  refine (V1.strAdd rfl rfl rfl rfl hh4 lt0 ?_)
  exact rfl
 refine VP.step (p := ?pv183) rfl rfl rfl (⟨_, _, rfl, rfl, rfl⟩) ?hv183 ?rest183 hck1
 case hv183 =>
  intro E1
  refine (V1.fieldRef rfl rfl fo_39_2 rfl lt0 ?_)
  exact rfl
 refine VP.step (p := ?pv184) rfl rfl rfl (⟨_, _, rfl, rfl, rfl⟩) ?hv184 ?rest184 hck1
 case hv184 =>
  intro E1
  refine (V1.loadRef (k := 0) rfl rfl tyk_3 rfl rfl rfl rfl rfl lt0 ?_)
  exact rfl
 refine VP.step (p := ?pv185) rfl rfl rfl (⟨_, _, rfl, rfl, rfl⟩) ?hv185 ?rest185 hck1
 case hv185 =>
  intro E1
  refine (V1.call rfl rfl rfl cok_132 rfl (ok_spec_l1Num hh5) rfl lt0 ?_)
  rintro _ _ ⟨rfl, rfl⟩
  exact rfl
 refine VP.fin rfl (⟨_, _, rfl, rfl, _, _, rfl, rfl, _, _, rfl, rfl, rfl⟩) ?_
 refine VO.cons rfl (V1.strAdd rfl rfl rfl rfl hh6 lt0 ?_)
 refine VO.cons rfl (V1.assign rfl rfl rfl lt0 ?_)
 refine VO.nil ?_
 refine V.seq ?_
 refine V.seq ?_
 refine V.region ?_
 refine VO.cons rfl (V1.assign rfl rfl rfl lt0 ?_)
 refine VO.nil ?_
 replace hm0 := bindO hm0; rcases hm0 with ⟨e0, he1, hm0⟩
 refine V.cutT (D := (List UInt8) × (Unit)) (fun ⟨s, _⟩ => ⟨45, [(3, .str s)], []⟩) (fun ⟨s, _⟩ => (s = e0)) ?_ ?_
 ·
  refine V.block ?_
  refine V.keep 45 [3, 4, 1] [0] (E0 := [(3, .str ((((y0 ++ ([115])) ++ y1) ++ ([64])) ++ y2)), (4, .int .i64 (0 : Int)), (1, .ref b0 4 0 0)]) (H0 := [(b0, ⟨4, [encRecord ρ0 r_]⟩)]) rfl (⟨_, _, rfl, rfl, _, _, rfl, rfl, _, _, rfl, rfl, rfl⟩) (⟨_, _, rfl, rfl, rfl⟩) rfl ?_
  refine V.loopE (D := Nat × (List UInt8 × Int) × (Unit)) (fun ⟨n0, ⟨s0, i⟩, _⟩ => [(3, .str s0), (4, .int .i64 i)]) (fun ⟨n0, ⟨s0, i⟩, _⟩ => []) (fun ⟨n0, ⟨s0, i⟩, _⟩ => loopO (M.spec_l2Text_l0 r_) n0 (s0, i) = some e0) (fun ⟨n0, _, _⟩ => n0) (rounds, (((((y0 ++ ([115])) ++ y1) ++ ([64])) ++ y2), (0 : Int)), ()) rfl he1 ?_
  rintro ⟨n0, ⟨s0, i⟩, _⟩ hP0
  obtain ⟨m0, y3, rfl, hm1, hl1, hr1⟩ := loop_head hP0
  unfold M.spec_l2Text_l0 at hm1; dsimp only at hm1
  show V _ _ _ ⟨45, [(3, .str s0), (4, .int .i64 i), (1, .ref b0 4 0 0)], [(b0, ⟨4, [encRecord ρ0 r_]⟩)]⟩
  refine V.seq ?_
  refine V.seq ?_
  refine V.region ?_
  refine VO.cons rfl (V1.move rfl rfl rfl lt0 ?_)
  refine VO.cons rfl (V1.fieldRef rfl rfl fo_39_3 rfl lt0 ?_)
  refine VO.cons rfl (V1.loadRef (k := 0) rfl rfl tyk_37 rfl rfl rfl rfl rfl lt0 ?_)
  refine VO.cons rfl (V1.lenMap rfl rfl rfl rfl rfl rfl isl_37 lt0 ?_)
  refine VO.cons rfl (V1.int rfl rfl rfl rfl rfl lt0 ?_)
  refine VO.nil ?_
  refine V.keep 45 [1, 3, 4, 22] [0] (E0 := [(1, .ref b0 4 0 0), (3, .str s0), (4, .int .i64 i), (22, .bool (decide (i < (r_.Events.length : Int))))]) (H0 := [(b0, ⟨4, [encRecord ρ0 r_]⟩)]) rfl (⟨_, _, rfl, rfl, _, _, rfl, rfl, _, _, rfl, rfl, _, _, rfl, rfl, rfl⟩) (⟨_, _, rfl, rfl, rfl⟩) rfl ?_
  refine V.cond rfl (fun hc0 => ?_) (fun hc0 => ?_)
  ·
   replace hm1 := cond_t hc0 hm1
   refine V.skip ?_
   refine V.seq ?_
   refine V.block ?_
   replace hm1 := asrt_some hm1; rcases hm1 with ⟨hh7, hm1⟩
   replace hm1 := asrt_some hm1; rcases hm1 with ⟨hh8, hm1⟩
   replace hm1 := bindO hm1; rcases hm1 with ⟨y4, hh9, hm1⟩
   replace hm1 := asrt_some hm1; rcases hm1 with ⟨hh10, hm1⟩
   replace hm1 := asrt_some hm1; rcases hm1 with ⟨hh11, hm1⟩
   replace hm1 := asrt_some hm1; rcases hm1 with ⟨hh12, hm1⟩
   replace hm1 := bindO hm1; rcases hm1 with ⟨y5, hh13, hm1⟩
   replace hm1 := asrt_some hm1; rcases hm1 with ⟨hh14, hm1⟩
   refine V.regionM 45 18 [⟨[(3, none)], [], none⟩, ⟨[(25, some 0)], [], none⟩, ⟨[(1, none)], [], none⟩, ⟨[(27, some 0)], [], none⟩, ⟨[(4, none)], [], none⟩, ⟨[(28, some 1), (29, some 0)], [], none⟩, ⟨[(30, some 0)], [], none⟩, ⟨[(31, some 0)], [], none⟩, ⟨[(32, some 0)], [], none⟩, ⟨[(26, some 7), (33, some 0)], [], none⟩, ⟨[(34, some 0)], [], none⟩, ⟨[(1, none)], [], none⟩, ⟨[(36, some 0)], [], none⟩, ⟨[(4, none)], [], none⟩, ⟨[(37, some 1), (38, some 0)], [], none⟩, ⟨[(39, some 0)], [], none⟩, ⟨[(40, some 0)], [], none⟩, ⟨[(41, some 0)], [], none⟩] [(1, none), (4, none), (35, some 7), (42, some 0)] (⟨_, rfl, ⟨_, rfl, ⟨_, rfl, ⟨_, rfl, ⟨_, rfl, ⟨_, rfl, ⟨_, rfl, ⟨_, rfl, ⟨_, rfl, ⟨_, rfl, ⟨_, rfl, ⟨_, rfl, ⟨_, rfl, ⟨_, rfl, ⟨_, rfl, ⟨_, rfl, ⟨_, rfl, ⟨_, rfl, ⟨rfl, rfl⟩⟩⟩⟩⟩⟩⟩⟩⟩⟩⟩⟩⟩⟩⟩⟩⟩⟩⟩) mixed_orders rfl (by decide +kernel) (fun hck5 => ?_)
   refine VP.step (p := ?pv233) rfl rfl rfl (⟨_, _, rfl, rfl, rfl⟩) ?hv233 ?rest233 hck5
   case hv233 =>
    intro E1
    refine (V1.move rfl rfl rfl lt0 ?_)
    exact rfl
   refine VP.step (p := ?pv234) rfl rfl rfl (⟨_, _, rfl, rfl, rfl⟩) ?hv234 ?rest234 hck5
   case hv234 =>
    intro E1
    refine (V1.strAdd rfl rfl rfl rfl hh7 lt0 ?_)
    exact rfl
   refine VP.step (p := ?pv235) rfl rfl rfl (⟨_, _, rfl, rfl, rfl⟩) ?hv235 ?rest235 hck5
   case hv235 =>
    intro E1
    refine (V1.fieldRef rfl rfl fo_39_3 rfl lt0 ?_)
    exact rfl
   refine VP.step (p := ?pv236) rfl rfl rfl (⟨_, _, rfl, rfl, rfl⟩) ?hv236 ?rest236 hck5
   case hv236 =>
    intro E1
    refine (V1.loadRef (k := 0) rfl rfl tyk_37 rfl rfl rfl rfl rfl lt0 ?_)
    exact rfl
   refine VP.step (p := ?pv237) rfl rfl rfl (⟨_, _, rfl, rfl, rfl⟩) ?hv237 ?rest237 hck5
   case hv237 =>
    intro E1
    refine (V1.move rfl rfl rfl lt0 ?_)
    exact rfl
   refine VP.step (p := ?pv238) rfl rfl rfl (⟨_, _, rfl, rfl, _, _, rfl, rfl, rfl⟩) ?hv238 ?rest238 hck5
   case hv238 =>
    intro E1
    refine (V1.indexI rfl rfl esz_37 rfl rfl hh8 lt0 ?_)
    exact rfl
   refine VP.step (p := ?pv239) rfl rfl rfl (⟨_, _, rfl, rfl, rfl⟩) ?hv239 ?rest239 hck5
   case hv239 =>
    intro E1
    refine (V1.fieldPin rfl rfl fo_72_0 rfl lt0 ?_)
    exact rfl
   refine VP.step (p := ?pv240) rfl rfl rfl (⟨_, _, rfl, rfl, rfl⟩) ?hv240 ?rest240 hck5
   case hv240 =>
    intro E1
    refine (V1.loadPin rfl rfl tyk_3 rfl rfl lt0 ?_)
    exact rfl
   refine VP.step (p := ?pv241) rfl rfl rfl (⟨_, _, rfl, rfl, rfl⟩) ?hv241 ?rest241 hck5
   case hv241 =>
    intro E1
    refine (V1.call rfl rfl rfl cok_132 rfl (ok_spec_l1Num hh9) rfl lt0 ?_)
    rintro _ _ ⟨rfl, rfl⟩
    exact rfl
   refine VP.step (p := ?pv243) rfl rfl rfl (⟨_, _, rfl, rfl, _, _, rfl, rfl, rfl⟩) ?hv243 ?rest243 hck5
   case hv243 =>
    intro E1
    refine (V1.strAdd rfl rfl rfl rfl hh10 lt0 ?_)
    exact rfl
   refine VP.step (p := ?pv244) rfl rfl rfl (⟨_, _, rfl, rfl, rfl⟩) ?hv244 ?rest244 hck5
   case hv244 =>
    intro E1
    refine (V1.strAdd rfl rfl rfl rfl hh11 lt0 ?_)
    exact rfl
   refine VP.step (p := ?pv245) rfl rfl rfl (⟨_, _, rfl, rfl, rfl⟩) ?hv245 ?rest245 hck5
   case hv245 =>
    intro E1
    refine (V1.fieldRef rfl rfl fo_39_3 rfl lt0 ?_)
    exact rfl
   refine VP.step (p := ?pv246) rfl rfl rfl (⟨_, _, rfl, rfl, rfl⟩) ?hv246 ?rest246 hck5
   case hv246 =>
    intro E1
    refine (V1.loadRef (k := 0) rfl rfl tyk_37 rfl rfl rfl rfl rfl lt0 ?_)
    exact rfl
   refine VP.step (p := ?pv247) rfl rfl rfl (⟨_, _, rfl, rfl, rfl⟩) ?hv247 ?rest247 hck5
   case hv247 =>
    intro E1
    refine (V1.move rfl rfl rfl lt0 ?_)
    exact rfl
   refine VP.step (p := ?pv248) rfl rfl rfl (⟨_, _, rfl, rfl, _, _, rfl, rfl, rfl⟩) ?hv248 ?rest248 hck5
   case hv248 =>
    intro E1
    refine (V1.indexI rfl rfl esz_37 rfl rfl hh12 lt0 ?_)
    exact rfl
   refine VP.step (p := ?pv249) rfl rfl rfl (⟨_, _, rfl, rfl, rfl⟩) ?hv249 ?rest249 hck5
   case hv249 =>
    intro E1
    refine (V1.fieldPin rfl rfl fo_72_1 rfl lt0 ?_)
    exact rfl
   refine VP.step (p := ?pv250) rfl rfl rfl (⟨_, _, rfl, rfl, rfl⟩) ?hv250 ?rest250 hck5
   case hv250 =>
    intro E1
    refine (V1.loadPin rfl rfl tyk_3 rfl rfl lt0 ?_)
    exact rfl
   refine VP.step (p := ?pv251) rfl rfl rfl (⟨_, _, rfl, rfl, rfl⟩) ?hv251 ?rest251 hck5
   case hv251 =>
    intro E1
    refine (V1.call rfl rfl rfl cok_132 rfl (ok_spec_l1Num hh13) rfl lt0 ?_)
    rintro _ _ ⟨rfl, rfl⟩
    exact rfl
   refine VP.fin rfl (⟨_, _, rfl, rfl, _, _, rfl, rfl, _, _, rfl, rfl, _, _, rfl, rfl, rfl⟩) ?_
   refine VO.cons rfl (V1.strAdd rfl rfl rfl rfl hh14 lt0 ?_)
   refine VO.cons rfl (V1.assign rfl rfl rfl lt0 ?_)
   refine VO.nil ?_
   refine V.region ?_
   refine VO.cons rfl (V1.move rfl rfl rfl lt0 ?_)
   refine VO.cons rfl (V1.int rfl rfl rfl rfl rfl lt0 ?_)
   refine VO.cons rfl (V1.assign rfl rfl rfl lt0 ?_)
   refine VO.nil ?_
   exact ⟨(m0, (((((s0 ++ ([32])) ++ y4) ++ ([64])) ++ y5), (IntKind.i64.wrap (i + (1 : Int)))), ()), hl1 _ (Option.some.inj hm1).symm, Nat.lt_succ_self _, Keeps.mk (ks := [0]) rfl ⟨rfl, rfl, rfl, trivial⟩ (⟨_, _, rfl, rfl, rfl⟩) rfl⟩
  ·
   replace hm1 := cond_f hc0 hm1
   refine V.exit ?_
   obtain rfl := hr1 _ (Option.some.inj hm1).symm
   exact ⟨(s0, ()), rfl, Keeps.mk (ks := []) rfl ⟨rfl, trivial⟩ (rfl) rfl⟩
 ·
  rintro ⟨s, _⟩ rfl
  try dsimp only at hm0
  refine V.seq ?_
  refine V.region ?_
  refine VO.cons rfl (V1.move rfl rfl rfl lt0 ?_)
  refine VO.cons rfl (V1.assign rfl rfl rfl lt0 ?_)
  refine VO.nil ?_
  refine V.ret ?_
  obtain rfl := Option.some.inj hm0
  exact ⟨_, [], ⟨_, _, rfl, rfl, rfl⟩, List.nil_sublist _, rfl, rfl⟩

theorem ok_spec_RecordText {ρ0 rn : Nat} {r_ : Record} {r : List UInt8 × Bool} (h : M.spec_RecordText r_ = some r) : Does Tryd.prog 54 [encRecord ρ0 r_] [] rn (fun x H => x = .tup [.str r.1, .bool r.2] ∧ H = []) := by
 have hm0 := h; clear h; unfold M.spec_RecordText at hm0
 try dsimp only at hm0
 refine Does.intro (N := 9) Tryd.func54 rfl rfl rfl rfl ?_
 intro w0 S0 L0
 refine V.seq ?_
 refine V.region ?_
 refine VO.cons rfl (V1.boxN (n := 4) rfl rfl rfl rfl rfl lt0 ?_)
 intro b0
 refine VO.cons rfl (V1.assign rfl rfl rfl lt0 ?_)
 refine VO.cons rfl (V1.assign rfl rfl rfl lt0 ?_)
 refine VO.nil ?_
 refine V.seq ?_
 refine V.seq ?_
 replace hm0 := bindO hm0; rcases hm0 with ⟨y0, hh0, hm0⟩
 refine V.region ?_
 refine VO.cons rfl (V1.loadRefAll (k := 0) rfl rfl tyk_39 rfl rfl rfl rfl rfl lt0 ?_)
 refine VO.cons rfl (V1.call rfl rfl rfl cok_130 rfl (ok_spec_l2Record hh0) rfl lt0 ?_)
 rintro _ _ ⟨rfl, rfl⟩
 refine VO.cons rfl (V1.not rfl rfl rfl lt0 ?_)
 refine VO.nil ?_
 refine V.keep 9 [1, 6] [0] (E0 := [(1, .ref b0 4 0 0), (6, .bool (!y0))]) (H0 := [(b0, ⟨4, [encRecord ρ0 r_]⟩)]) rfl (⟨_, _, rfl, rfl, _, _, rfl, rfl, rfl⟩) (⟨_, _, rfl, rfl, rfl⟩) rfl ?_
 refine V.cond rfl (fun hc0 => ?_) (fun hc0 => ?_)
 ·
  replace hm0 := cond_t hc0 hm0
  refine V.seq ?_
  refine V.region ?_
  refine VO.cons rfl (V1.assign rfl rfl rfl lt0 ?_)
  refine VO.cons rfl (V1.assign rfl rfl rfl lt0 ?_)
  refine VO.nil ?_
  refine V.ret ?_
  obtain rfl := Option.some.inj hm0
  exact ⟨_, [], ⟨_, _, rfl, rfl, _, _, rfl, rfl, rfl⟩, List.nil_sublist _, rfl, rfl⟩
 ·
  replace hm0 := cond_f hc0 hm0
  refine V.skip ?_
  refine V.seq ?_
  replace hm0 := bindO hm0; rcases hm0 with ⟨y1, hh1, hm0⟩
  refine V.region ?_
  refine VO.cons rfl (V1.loadRefAll (k := 0) rfl rfl tyk_39 rfl rfl rfl rfl rfl lt0 ?_)
  refine VO.cons rfl (V1.call rfl rfl rfl cok_161 rfl (ok_spec_l2Text hh1) rfl lt0 ?_)
  rintro _ _ ⟨rfl, rfl⟩
  refine VO.cons rfl (V1.assign rfl rfl rfl lt0 ?_)
  refine VO.cons rfl (V1.assign rfl rfl rfl lt0 ?_)
  refine VO.nil ?_
  refine V.ret ?_
  obtain rfl := Option.some.inj hm0
  exact ⟨_, [], ⟨_, _, rfl, rfl, _, _, rfl, rfl, rfl⟩, List.nil_sublist _, rfl, rfl⟩

theorem ok_laws_vEvents {ρ0 ρ1 rn : Nat} {a : List Event} {b_ : List Event} {r : Bool} (h : M.laws_vEvents a b_ = some r) : Does Tryd.prog 164 [.vl ρ0 2 (List.map encEvent a), .vl ρ1 2 (List.map encEvent b_)] [] rn (fun x H => x = .bool r ∧ H = []) := by
 have hm0 := h; clear h; unfold M.laws_vEvents at hm0
 try dsimp only at hm0
 refine Does.intro (N := 26) Tryd.func164 rfl rfl rfl rfl ?_
 intro w0 S0 L0
 refine V.seq ?_
 refine V.region ?_
 refine VO.cons rfl (V1.assign rfl rfl rfl lt0 ?_)
 refine VO.nil ?_
 refine V.seq ?_
 refine V.seq ?_
 refine V.region ?_
 refine VO.cons rfl (V1.move rfl rfl rfl lt0 ?_)
 refine VO.cons rfl (V1.lenMap rfl rfl rfl rfl rfl rfl isl_37 lt0 ?_)
 refine VO.cons rfl (V1.move rfl rfl rfl lt0 ?_)
 refine VO.cons rfl (V1.lenMap rfl rfl rfl rfl rfl rfl isl_37 lt0 ?_)
 refine VO.cons rfl (V1.int rfl rfl rfl rfl rfl lt0 ?_)
 refine VO.nil ?_
 refine V.keep 26 [0, 1, 10] [] (E0 := [(0, .vl ρ0 2 (List.map encEvent a)), (1, .vl ρ1 2 (List.map encEvent b_)), (10, .bool ((a.length : Int) != (b_.length : Int)))]) (H0 := []) rfl (⟨_, _, rfl, rfl, _, _, rfl, rfl, _, _, rfl, rfl, rfl⟩) (rfl) rfl ?_
 refine V.cond rfl (fun hc0 => ?_) (fun hc0 => ?_)
 ·
  replace hm0 := cond_t hc0 hm0
  refine V.seq ?_
  refine V.region ?_
  refine VO.cons rfl (V1.assign rfl rfl rfl lt0 ?_)
  refine VO.nil ?_
  refine V.ret ?_
  obtain rfl := Option.some.inj hm0
  exact ⟨_, [], ⟨_, _, rfl, rfl, rfl⟩, List.nil_sublist _, rfl, rfl⟩
 ·
  replace hm0 := cond_f hc0 hm0
  refine V.skip ?_
  refine V.seq ?_
  refine V.seq ?_
  refine V.region ?_
  refine VO.cons rfl (V1.assign rfl rfl rfl lt0 ?_)
  refine VO.nil ?_
  replace hm0 := bindO hm0; rcases hm0 with ⟨e0, he1, hm0⟩
  refine V.cutT (D := (Unit) × (Unit)) (fun ⟨_, _⟩ => ⟨26, [], []⟩) (fun ⟨_, _⟩ => (.inl () = e0)) ?_ ?_
  ·
   refine V.block ?_
   refine V.keep 26 [5, 0, 1] [] (E0 := [(5, .int .i64 (0 : Int)), (0, .vl ρ0 2 (List.map encEvent a)), (1, .vl ρ1 2 (List.map encEvent b_))]) (H0 := []) rfl (⟨_, _, rfl, rfl, _, _, rfl, rfl, _, _, rfl, rfl, rfl⟩) (rfl) rfl ?_
   refine V.loopE (D := Nat × (Int) × (Unit)) (fun ⟨n0, i, _⟩ => [(5, .int .i64 i)]) (fun ⟨n0, i, _⟩ => []) (fun ⟨n0, i, _⟩ => loopO (M.laws_vEvents_l0 a b_) n0 i = some e0) (fun ⟨n0, _, _⟩ => n0) (rounds, (0 : Int), ()) rfl he1 ?_
   rintro ⟨n0, i, _⟩ hP0
   obtain ⟨m0, y0, rfl, hm1, hl1, hr1⟩ := loop_head hP0
   unfold M.laws_vEvents_l0 at hm1; dsimp only at hm1
   show V _ _ _ ⟨26, [(5, .int .i64 i), (0, .vl ρ0 2 (List.map encEvent a)), (1, .vl ρ1 2 (List.map encEvent b_))], []⟩
   refine V.seq ?_
   refine V.seq ?_
   refine V.region ?_
   refine VO.cons rfl (V1.move rfl rfl rfl lt0 ?_)
   refine VO.cons rfl (V1.move rfl rfl rfl lt0 ?_)
   refine VO.cons rfl (V1.lenMap rfl rfl rfl rfl rfl rfl isl_37 lt0 ?_)
   refine VO.cons rfl (V1.int rfl rfl rfl rfl rfl lt0 ?_)
   refine VO.nil ?_
   refine V.cond rfl (fun hc1 => ?_) (fun hc1 => ?_)
   ·
    replace hm1 := cond_t hc1 hm1
    refine V.skip ?_
    refine V.keep 26 [0, 1, 5] [] (E0 := [(0, .vl ρ0 2 (List.map encEvent a)), (1, .vl ρ1 2 (List.map encEvent b_)), (5, .int .i64 i)]) (H0 := []) rfl (⟨_, _, rfl, rfl, _, _, rfl, rfl, _, _, rfl, rfl, rfl⟩) (rfl) rfl ?_
    refine V.seq ?_
    refine V.block ?_
    refine V.seq ?_
    replace hm1 := asrt_some hm1; rcases hm1 with ⟨hh0, hm1⟩
    replace hm1 := asrt_some hm1; rcases hm1 with ⟨hh1, hm1⟩
    refine V.regionM 26 8 [⟨[(0, none)], [], none⟩, ⟨[(5, none)], [], none⟩, ⟨[(17, some 1), (18, some 0)], [], none⟩, ⟨[(19, some 0)], [], none⟩, ⟨[(1, none)], [], none⟩, ⟨[(5, none)], [], none⟩, ⟨[(21, some 1), (22, some 0)], [], none⟩, ⟨[(23, some 0)], [], none⟩] [(0, none), (1, none), (5, none), (20, some 4), (24, some 0)] (⟨_, rfl, ⟨_, rfl, ⟨_, rfl, ⟨_, rfl, ⟨_, rfl, ⟨_, rfl, ⟨_, rfl, ⟨_, rfl, ⟨rfl, rfl⟩⟩⟩⟩⟩⟩⟩⟩⟩) mixed_orders rfl (by decide +kernel) (fun hck6 => ?_)
    refine VP.step (p := ?pv65) rfl rfl rfl (⟨_, _, rfl, rfl, rfl⟩) ?hv65 ?rest65 hck6
    case hv65 =>
     intro E1
     refine (V1.move rfl rfl rfl lt0 ?_)
     exact rfl
    refine VP.step (p := ?pv66) rfl rfl rfl (⟨_, _, rfl, rfl, rfl⟩) ?hv66 ?rest66 hck6
    case hv66 =>
     intro E1
     refine (V1.move rfl rfl rfl lt0 ?_)
     exact rfl
    refine VP.step (p := ?pv67) rfl rfl rfl (⟨_, _, rfl, rfl, _, _, rfl, rfl, rfl⟩) ?hv67 ?rest67 hck6
    case hv67 =>
     intro E1
     refine (V1.indexI rfl rfl esz_37 rfl rfl hh0 lt0 ?_)
     exact rfl
    refine VP.step (p := ?pv68) rfl rfl rfl (⟨_, _, rfl, rfl, rfl⟩) ?hv68 ?rest68 hck6
    case hv68 =>
     intro E1
     refine (V1.loadPinAll rfl rfl tyk_72 rfl rfl lt0 ?_)
     exact rfl
    refine VP.step (p := ?pv69) rfl rfl rfl (⟨_, _, rfl, rfl, rfl⟩) ?hv69 ?rest69 hck6
    case hv69 =>
     intro E1
     refine (V1.move rfl rfl rfl lt0 ?_)
     exact rfl
    refine VP.step (p := ?pv70) rfl rfl rfl (⟨_, _, rfl, rfl, rfl⟩) ?hv70 ?rest70 hck6
    case hv70 =>
     intro E1
     refine (V1.move rfl rfl rfl lt0 ?_)
     exact rfl
    refine VP.step (p := ?pv71) rfl rfl rfl (⟨_, _, rfl, rfl, _, _, rfl, rfl, rfl⟩) ?hv71 ?rest71 hck6
    case hv71 =>
     intro E1
     refine (V1.indexI rfl rfl esz_37 rfl rfl hh1 lt0 ?_)
     exact rfl
    refine VP.step (p := ?pv72) rfl rfl rfl (⟨_, _, rfl, rfl, rfl⟩) ?hv72 ?rest72 hck6
    case hv72 =>
     intro E1
     refine (V1.loadPinAll rfl rfl tyk_72 rfl rfl lt0 ?_)
     exact rfl
    refine VP.fin rfl (⟨_, _, rfl, rfl, _, _, rfl, rfl, _, _, rfl, rfl, _, _, rfl, rfl, _, _, rfl, rfl, rfl⟩) ?_
    refine VO.cons rfl (V1.aggEqG true rfl rfl fe_72 rfl rfl rfl rfl rfl lt0 ?_)
    refine VO.nil ?_
    refine V.cond rfl (fun hc2 => ?_) (fun hc2 => ?_)
    ·
     replace hm1 := cond_t hc2 hm1
     refine V.seq ?_
     refine V.region ?_
     refine VO.cons rfl (V1.assign rfl rfl rfl lt0 ?_)
     refine VO.nil ?_
     refine V.ret ?_
     obtain rfl := hr1 _ (Option.some.inj hm1).symm
     change some _ = some _ at hm0
     obtain rfl := Option.some.inj hm0
     exact ⟨_, [], ⟨_, _, rfl, rfl, rfl⟩, List.nil_sublist _, rfl, rfl⟩
    ·
     replace hm1 := cond_f hc2 hm1
     refine V.skip ?_
     refine V.region ?_
     refine VO.cons rfl (V1.move rfl rfl rfl lt0 ?_)
     refine VO.cons rfl (V1.int rfl rfl rfl rfl rfl lt0 ?_)
     refine VO.cons rfl (V1.assign rfl rfl rfl lt0 ?_)
     refine VO.nil ?_
     exact ⟨(m0, (IntKind.i64.wrap (i + (1 : Int))), ()), hl1 _ (Option.some.inj hm1).symm, Nat.lt_succ_self _, Keeps.mk (ks := []) rfl ⟨rfl, rfl, rfl, trivial⟩ (rfl) rfl⟩
   ·
    replace hm1 := cond_f hc1 hm1
    refine V.exit ?_
    obtain rfl := hr1 _ (Option.some.inj hm1).symm
    exact ⟨((), ()), rfl, Keeps.mk (ks := []) rfl trivial (rfl) rfl⟩
  ·
   rintro ⟨_, _⟩ rfl
   try dsimp only at hm0
   refine V.seq ?_
   refine V.region ?_
   refine VO.cons rfl (V1.assign rfl rfl rfl lt0 ?_)
   refine VO.nil ?_
   refine V.ret ?_
   obtain rfl := Option.some.inj hm0
   exact ⟨_, [], ⟨_, _, rfl, rfl, rfl⟩, List.nil_sublist _, rfl, rfl⟩

theorem ok_laws_vRecord {ρ0 ρ1 rn : Nat} {a : Record} {b_ : Record} {r : Bool} (h : M.laws_vRecord a b_ = some r) : Does Tryd.prog 56 [encRecord ρ0 a, encRecord ρ1 b_] [] rn (fun x H => x = .bool r ∧ H = []) := by
 have hm0 := h; clear h; unfold M.laws_vRecord at hm0
 try dsimp only at hm0
 refine Does.intro (N := 31) Tryd.func56 rfl rfl rfl rfl ?_
 intro w0 S0 L0
 refine V.seq ?_
 refine V.region ?_
 refine VO.cons rfl (V1.boxN (n := 4) rfl rfl rfl rfl rfl lt0 ?_)
 intro b0
 refine VO.cons rfl (V1.boxN (n := 4) rfl rfl rfl rfl rfl lt0 ?_)
 intro b1
 refine VO.cons rfl (V1.assign rfl rfl rfl lt0 ?_)
 refine VO.nil ?_
 refine V.seq ?_
 replace hm0 := bindO hm0; rcases hm0 with ⟨y0, hh0, hm0⟩
 refine V.region ?_
 refine VO.cons rfl (V1.fieldRef rfl rfl fo_39_0 rfl lt0 ?_)
 refine VO.cons rfl (V1.loadRef (k := 1) rfl rfl tyk_3 rfl rfl rfl rfl rfl lt0 ?_)
 refine VO.cons rfl (V1.fieldRef rfl rfl fo_39_0 rfl lt0 ?_)
 refine VO.cons rfl (V1.loadRef (k := 0) rfl rfl tyk_3 rfl rfl rfl rfl rfl lt0 ?_)
 refine VO.cons rfl (V1.int rfl rfl rfl rfl rfl lt0 ?_)
 refine VO.cons rfl (V1.move rfl rfl rfl lt0 ?_)
 apply VO.and (n := 5) rfl rfl rfl rfl rfl rfl lt0 (.none rfl)
 ·
  intro hg0
  refine VO.step (.some rfl rfl rfl) (V1.fieldRef rfl rfl fo_39_1 rfl lt0 ?_)
  refine VO.step (.some rfl rfl rfl) (V1.loadRef (k := 1) rfl rfl tyk_3 rfl rfl rfl rfl rfl lt0 ?_)
  refine VO.step (.some rfl rfl rfl) (V1.fieldRef rfl rfl fo_39_1 rfl lt0 ?_)
  refine VO.step (.some rfl rfl rfl) (V1.loadRef (k := 0) rfl rfl tyk_3 rfl rfl rfl rfl rfl lt0 ?_)
  refine VO.step (.some rfl rfl rfl) (V1.int rfl rfl rfl rfl rfl lt0 ?_)
  exact VO.nil ⟨rfl, rfl, rfl, rfl, .inr ⟨rfl, .inr ⟨rfl, .inr ⟨rfl, .inr ⟨rfl, .inr ⟨rfl, .inr ⟨rfl, .inl rfl⟩⟩⟩⟩⟩⟩⟩
 refine VO.cons rfl (V1.move rfl rfl rfl lt0 ?_)
 apply VO.and (n := 5) rfl rfl rfl rfl rfl rfl lt0 (.none rfl)
 ·
  intro hg1
  refine VO.step (.some rfl rfl rfl) (V1.fieldRef rfl rfl fo_39_2 rfl lt0 ?_)
  refine VO.step (.some rfl rfl rfl) (V1.loadRef (k := 1) rfl rfl tyk_3 rfl rfl rfl rfl rfl lt0 ?_)
  refine VO.step (.some rfl rfl rfl) (V1.fieldRef rfl rfl fo_39_2 rfl lt0 ?_)
  refine VO.step (.some rfl rfl rfl) (V1.loadRef (k := 0) rfl rfl tyk_3 rfl rfl rfl rfl rfl lt0 ?_)
  refine VO.step (.some rfl rfl rfl) (V1.int rfl rfl rfl rfl rfl lt0 ?_)
  exact VO.nil ⟨rfl, rfl, rfl, rfl, .inr ⟨rfl, .inr ⟨rfl, .inr ⟨rfl, .inr ⟨rfl, .inr ⟨rfl, .inr ⟨rfl, .inl rfl⟩⟩⟩⟩⟩⟩⟩
 refine VO.cons rfl (V1.move rfl rfl rfl lt0 ?_)
 apply VO.and (n := 5) rfl rfl rfl rfl rfl rfl lt0 (.none rfl)
 ·
  intro hg2
  refine VO.step (.some rfl rfl rfl) (V1.fieldRef rfl rfl fo_39_3 rfl lt0 ?_)
  refine VO.step (.some rfl rfl rfl) (V1.loadRef (k := 1) rfl rfl tyk_37 rfl rfl rfl rfl rfl lt0 ?_)
  refine VO.step (.some rfl rfl rfl) (V1.fieldRef rfl rfl fo_39_3 rfl lt0 ?_)
  refine VO.step (.some rfl rfl rfl) (V1.loadRef (k := 0) rfl rfl tyk_37 rfl rfl rfl rfl rfl lt0 ?_)
  refine VO.step (.some rfl rfl rfl) (V1.call rfl rfl rfl cok_164 rfl (ok_laws_vEvents (cond_t hg2 hh0)) rfl lt0 ?_)
  rintro _ _ ⟨rfl, rfl⟩
  exact VO.nil ⟨rfl, rfl, rfl, rfl, .inr ⟨rfl, .inr ⟨rfl, .inr ⟨rfl, .inr ⟨rfl, .inr ⟨rfl, .inr ⟨rfl, .inl rfl⟩⟩⟩⟩⟩⟩⟩
 refine VO.cons rfl (V1.assign rfl rfl rfl lt0 ?_)
 refine VO.nil ?_
 refine V.ret ?_
 obtain rfl := Option.some.inj hm0
 exact ⟨_, [], ⟨_, _, rfl, rfl, rfl⟩, List.nil_sublist _, rfl, rfl⟩

theorem ok_spec_l1Cur_spoilt {ρ0 rn bp : Nat} {c : Cur} {t : List UInt8} {with_ : List UInt8} {r : List UInt8 × Cur} (h : M.spec_l1Cur_spoilt c t with_ = some r) : Does Tryd.prog 165 [.ref bp 3 0 0, .str t, .str with_] [(bp, ⟨3, [encCur ρ0 c]⟩)] rn (fun x H => x = .str r.1 ∧ H = [(bp, ⟨3, [encCur ρ0 r.2]⟩)]) := by
 have hm0 := h; clear h; unfold M.spec_l1Cur_spoilt at hm0
 try dsimp only at hm0
 refine Does.intro (N := 57) Tryd.func165 rfl rfl rfl rfl ?_
 intro w0 S0 L0
 refine V.seq ?_
 refine V.region ?_
 refine VO.cons rfl (V1.assign rfl rfl rfl lt0 ?_)
 refine VO.nil ?_
 refine V.seq ?_
 refine V.seq ?_
 refine V.region ?_
 refine VO.cons rfl (V1.move rfl rfl rfl lt0 ?_)
 refine VO.cons rfl (V1.str rfl rfl rfl rfl rfl lt0 ?_)
 refine VO.nil ?_
 refine V.cond rfl (fun hc0 => ?_) (fun hc0 => ?_)
 ·
  replace hm0 := cond_t hc0 hm0
  refine V.seq ?_
  replace hm0 := asrt_some hm0; rcases hm0 with ⟨hh0, hm0⟩
  refine V.region ?_
  refine VO.cons rfl (V1.move rfl rfl rfl lt0 ?_)
  refine VO.cons rfl (V1.sliceStrI (a := (0 : Int)) (b := (1 : Int)) rfl rfl istr_9 rfl (Bnd.none _ _) (Bnd.some rfl (Int.le_trans hh0.1 hh0.2.1) _) hh0 lt0 ?_)
  refine VO.cons rfl (V1.assign rfl rfl rfl lt0 ?_)
  refine VO.nil ?_
  refine V.ret ?_
  obtain rfl := Option.some.inj hm0
  exact ⟨_, _, ⟨_, _, rfl, rfl, rfl⟩, (sub1 (k := 0) rfl), rfl, rfl⟩
 ·
  replace hm0 := cond_f hc0 hm0
  refine V.skip ?_
  refine V.seq ?_
  replace hm0 := bindO hm0; rcases hm0 with ⟨y0, hh1, hm0⟩
  refine V.region ?_
  refine VO.cons rfl (V1.move rfl rfl rfl lt0 ?_)
  refine VO.cons rfl (V1.move rfl rfl rfl lt0 ?_)
  refine VO.cons rfl (V1.lenStr rfl rfl rfl rfl rfl rfl istr_9 lt0 ?_)
  refine VO.cons rfl (V1.callM 0 (rn + ρ0 + 1) [] [.ref bp 3 0 0, .int .i64 (t.length : Int)] (p := (bp, ⟨3, [encCur ρ0 c]⟩)) rfl rfl rfl cok_139 rfl rfl ⟨_, _, rfl, .same _, ⟨_, _, rfl, .same _, rfl⟩⟩ bwNil (ok_spec_l1Cur_pick hh1) rfl (.inl rfl) lt0 ?_)
  rintro _ _ ⟨rfl, rfl⟩
  refine VO.cons rfl (V1.assign rfl rfl rfl lt0 ?_)
  refine VO.nil ?_
  refine V.keep 57 [0, 1, 2, 7] [0] (E0 := [(0, .ref bp 3 0 0), (1, .str t), (2, .str with_), (7, .int .i64 y0.1)]) (H0 := [(bp, ⟨3, [encCur ρ0 y0.2]⟩)]) rfl (⟨_, _, rfl, rfl, _, _, rfl, rfl, _, _, rfl, rfl, _, _, rfl, rfl, rfl⟩) (⟨_, _, rfl, rfl, rfl⟩) rfl ?_
  refine V.seq ?_
  replace hm0 := bindO hm0; rcases hm0 with ⟨y1, hh2, hm0⟩
  replace hm0 := asrt_some hm0; rcases hm0 with ⟨hh3, hm0⟩
  replace hm0 := asrt_some hm0; rcases hm0 with ⟨hh4, hm0⟩
  refine V.region ?_
  refine VO.cons rfl (V1.move rfl rfl rfl lt0 ?_)
  refine VO.cons rfl (V1.move rfl rfl rfl lt0 ?_)
  refine VO.cons rfl (V1.move rfl rfl rfl lt0 ?_)
  refine VO.cons rfl (V1.lenStr rfl rfl rfl rfl rfl rfl istr_9 lt0 ?_)
  refine VO.cons rfl (V1.callM 0 (rn + ρ0 + 1) [] [.ref bp 3 0 0, .int .i64 (with_.length : Int)] (p := (bp, ⟨3, [encCur ρ0 y0.2]⟩)) rfl rfl rfl cok_139 rfl rfl ⟨_, _, rfl, .same _, ⟨_, _, rfl, .same _, rfl⟩⟩ bwNil (ok_spec_l1Cur_pick hh2) rfl (.inl rfl) lt0 ?_)
  rintro _ _ ⟨rfl, rfl⟩
  refine VO.cons rfl (V1.sliceStrI (a := y1.1) (b := (with_.length : Int)) rfl rfl istr_9 rfl (Bnd.some rfl hh3.1 _) (Bnd.none _ _) hh3 lt0 ?_)
  refine VO.cons rfl (V1.sliceStrI (a := (0 : Int)) (b := (1 : Int)) rfl rfl istr_9 rfl (Bnd.none _ _) (Bnd.some rfl (Int.le_trans hh4.1 hh4.2.1) _) hh4 lt0 ?_)
  refine VO.cons rfl (V1.assign rfl rfl rfl lt0 ?_)
  refine VO.nil ?_
  refine V.keep 57 [0, 1, 7, 8] [0] (E0 := [(0, .ref bp 3 0 0), (1, .str t), (7, .int .i64 y0.1), (8, .str (slc (slc with_ y1.1 (with_.length : Int)) (0 : Int) (1 : Int)))]) (H0 := [(bp, ⟨3, [encCur ρ0 y1.2]⟩)]) rfl (⟨_, _, rfl, rfl, _, _, rfl, rfl, _, _, rfl, rfl, _, _, rfl, rfl, rfl⟩) (⟨_, _, rfl, rfl, rfl⟩) rfl ?_
  refine V.seq ?_
  refine V.seq ?_
  replace hm0 := bindO hm0; rcases hm0 with ⟨y2, hh5, hm0⟩
  refine V.region ?_
  refine VO.cons rfl (V1.move rfl rfl rfl lt0 ?_)
  refine VO.cons rfl (V1.callM 0 (rn + ρ0 + 1) [] [.ref bp 3 0 0, .int .i64 (3 : Int)] (p := (bp, ⟨3, [encCur ρ0 y1.2]⟩)) rfl rfl rfl cok_139 rfl rfl ⟨_, _, rfl, .same _, ⟨_, _, rfl, .same _, rfl⟩⟩ bwNil (ok_spec_l1Cur_pick hh5) rfl (.inl rfl) lt0 ?_)
  rintro _ _ ⟨rfl, rfl⟩
  refine VO.nil ?_
  refine V.block ?_
  refine V.seq ?_
  refine V.region ?_
  refine VO.cons rfl (V1.int rfl rfl rfl rfl rfl lt0 ?_)
  refine VO.cons rfl (V1.assign rfl rfl rfl lt0 ?_)
  refine VO.nil ?_
  refine V.cond rfl (fun hc1 => ?_) (fun hc1 => ?_)
  ·
   replace hm0 := cond_t hc1 hm0
   refine V.seq ?_
   replace hm0 := asrt_some hm0; rcases hm0 with ⟨hh6, hm0⟩
   replace hm0 := asrt_some hm0; rcases hm0 with ⟨hh7, hm0⟩
   replace hm0 := asrt_some hm0; rcases hm0 with ⟨hh8, hm0⟩
   replace hm0 := asrt_some hm0; rcases hm0 with ⟨hh9, hm0⟩
   refine V.regionM 57 8 [⟨[(1, none)], [], none⟩, ⟨[(7, none)], [], none⟩, ⟨[(28, some 1), (29, some 0)], [], none⟩, ⟨[(8, none)], [], none⟩, ⟨[(30, some 1), (31, some 0)], [], none⟩, ⟨[(1, none)], [], none⟩, ⟨[(7, none)], [], none⟩, ⟨[(33, some 1), (34, some 0)], [], none⟩] [(32, some 3), (35, some 0)] (⟨_, rfl, ⟨_, rfl, ⟨_, rfl, ⟨_, rfl, ⟨_, rfl, ⟨_, rfl, ⟨_, rfl, ⟨_, rfl, ⟨rfl, rfl⟩⟩⟩⟩⟩⟩⟩⟩⟩) mixed_orders rfl (by decide +kernel) (fun hck7 => ?_)
   refine VP.step (p := ?pv58) rfl rfl rfl (⟨_, _, rfl, rfl, rfl⟩) ?hv58 ?rest58 hck7
   case hv58 =>
    intro E1
    refine (V1.move rfl rfl rfl lt0 ?_)
    exact rfl
   refine VP.step (p := ?pv59) rfl rfl rfl (⟨_, _, rfl, rfl, rfl⟩) ?hv59 ?rest59 hck7
   case hv59 =>
    intro E1
    refine (V1.move rfl rfl rfl lt0 ?_)
    exact rfl
   refine VP.step (p := ?pv60) rfl rfl rfl (⟨_, _, rfl, rfl, _, _, rfl, rfl, rfl⟩) ?hv60 ?rest60 hck7
   case hv60 =>
    intro E1
    refine (V1.sliceStrI (a := (0 : Int)) (b := y0.1) rfl rfl istr_9 rfl (Bnd.none _ _) (Bnd.some rfl (Int.le_trans hh6.1 hh6.2.1) _) hh6 lt0 ?_)
    exact rfl
   refine VP.step (p := ?pv61) rfl rfl rfl (⟨_, _, rfl, rfl, rfl⟩) ?hv61 ?rest61 hck7
   case hv61 =>
    intro E1
    refine (V1.move rfl rfl rfl lt0 ?_)
    exact rfl
   refine VP.step (p := ?pv62) rfl rfl rfl (⟨_, _, rfl, rfl, _, _, rfl, rfl, rfl⟩) ?hv62 ?rest62 hck7
   case hv62 =>
    intro E1
    refine (V1.strAdd rfl rfl rfl rfl hh7 lt0 ?_)
    exact rfl
   refine VP.step (p := ?pv63) rfl rfl rfl (⟨_, _, rfl, rfl, rfl⟩) ?hv63 ?rest63 hck7
   case hv63 =>
    intro E1
    refine (V1.move rfl rfl rfl lt0 ?_)
    exact rfl
   refine VP.step (p := ?pv64) rfl rfl rfl (⟨_, _, rfl, rfl, rfl⟩) ?hv64 ?rest64 hck7
   case hv64 =>
    intro E1
    refine (V1.move rfl rfl rfl lt0 ?_)
    exact rfl
   refine VP.step (p := ?pv65) rfl rfl rfl (⟨_, _, rfl, rfl, _, _, rfl, rfl, rfl⟩) ?hv65 ?rest65 hck7
   case hv65 =>
    intro E1
    refine (V1.sliceStrI (a := y0.1) (b := (t.length : Int)) rfl rfl istr_9 rfl (Bnd.some rfl hh8.1 _) (Bnd.none _ _) hh8 lt0 ?_)
    exact rfl
   refine VP.fin rfl (⟨_, _, rfl, rfl, _, _, rfl, rfl, rfl⟩) ?_
   refine VO.cons rfl (V1.strAdd rfl rfl rfl rfl hh9 lt0 ?_)
   refine VO.cons rfl (V1.assign rfl rfl rfl lt0 ?_)
   refine VO.nil ?_
   refine V.ret ?_
   obtain rfl := Option.some.inj hm0
   exact ⟨_, _, ⟨_, _, rfl, rfl, rfl⟩, (sub1 (k := 0) rfl), rfl, rfl⟩
  ·
   replace hm0 := cond_f hc1 hm0
   refine V.seq ?_
   refine V.region ?_
   refine VO.cons rfl (V1.int rfl rfl rfl rfl rfl lt0 ?_)
   refine VO.cons rfl (V1.assign rfl rfl rfl lt0 ?_)
   refine VO.nil ?_
   refine V.keep 57 [1, 7, 8, 37] [0] (E0 := [(1, .str t), (7, .int .i64 y0.1), (8, .str (slc (slc with_ y1.1 (with_.length : Int)) (0 : Int) (1 : Int))), (37, .bool (y2.1 == (1 : Int)))]) (H0 := [(bp, ⟨3, [encCur ρ0 y2.2]⟩)]) rfl (⟨_, _, rfl, rfl, _, _, rfl, rfl, _, _, rfl, rfl, _, _, rfl, rfl, rfl⟩) (⟨_, _, rfl, rfl, rfl⟩) rfl ?_
   refine V.cond rfl (fun hc2 => ?_) (fun hc2 => ?_)
   ·
    replace hm0 := cond_t hc2 hm0
    refine V.seq ?_
    replace hm0 := asrt_some hm0; rcases hm0 with ⟨hh10, hm0⟩
    replace hm0 := asrt_some hm0; rcases hm0 with ⟨hh11, hm0⟩
    replace hm0 := asrt_some hm0; rcases hm0 with ⟨hh12, hm0⟩
    replace hm0 := asrt_some hm0; rcases hm0 with ⟨hh13, hm0⟩
    refine V.regionM 57 9 [⟨[(1, none)], [], none⟩, ⟨[(7, none)], [], none⟩, ⟨[(39, some 1), (40, some 0)], [], none⟩, ⟨[(8, none)], [], none⟩, ⟨[(41, some 1), (42, some 0)], [], none⟩, ⟨[(1, none)], [], none⟩, ⟨[(7, none)], [], none⟩, ⟨[(45, some 0)], [], none⟩, ⟨[(44, some 2), (46, some 0)], [], none⟩] [(43, some 4), (47, some 0)] (⟨_, rfl, ⟨_, rfl, ⟨_, rfl, ⟨_, rfl, ⟨_, rfl, ⟨_, rfl, ⟨_, rfl, ⟨_, rfl, ⟨_, rfl, ⟨rfl, rfl⟩⟩⟩⟩⟩⟩⟩⟩⟩⟩) mixed_orders rfl (by decide +kernel) (fun hck9 => ?_)
    refine VP.step (p := ?pv66) rfl rfl rfl (⟨_, _, rfl, rfl, rfl⟩) ?hv66 ?rest66 hck9
    case hv66 =>
     intro E1
     refine (V1.move rfl rfl rfl lt0 ?_)
     exact rfl
    refine VP.step (p := ?pv67) rfl rfl rfl (⟨_, _, rfl, rfl, rfl⟩) ?hv67 ?rest67 hck9
    case hv67 =>
     intro E1
     refine (V1.move rfl rfl rfl lt0 ?_)
     exact rfl
    refine VP.step (p := ?pv68) rfl rfl rfl (⟨_, _, rfl, rfl, _, _, rfl, rfl, rfl⟩) ?hv68 ?rest68 hck9
    case hv68 =>
     intro E1
     refine (V1.sliceStrI (a := (0 : Int)) (b := y0.1) rfl rfl istr_9 rfl (Bnd.none _ _) (Bnd.some rfl (Int.le_trans hh10.1 hh10.2.1) _) hh10 lt0 ?_)
     exact rfl
    refine VP.step (p := ?pv69) rfl rfl rfl (⟨_, _, rfl, rfl, rfl⟩) ?hv69 ?rest69 hck9
    case hv69 =>
     intro E1
     refine (V1.move rfl rfl rfl lt0 ?_)
     exact rfl
    refine VP.step (p := ?pv70) rfl rfl rfl (⟨_, _, rfl, rfl, _, _, rfl, rfl, rfl⟩) ?hv70 ?rest70 hck9
    case hv70 =>
     intro E1
     refine (V1.strAdd rfl rfl rfl rfl hh11 lt0 ?_)
     exact rfl
    refine VP.step (p := ?pv71) rfl rfl rfl (⟨_, _, rfl, rfl, rfl⟩) ?hv71 ?rest71 hck9
    case hv71 =>
     intro E1
     refine (V1.move rfl rfl rfl lt0 ?_)
     exact rfl
    refine VP.step (p := ?pv72) rfl rfl rfl (⟨_, _, rfl, rfl, rfl⟩) ?hv72 ?rest72 hck9
    case hv72 =>
     intro E1
     refine (V1.move rfl rfl rfl lt0 ?_)
     exact rfl
    refine VP.step (p := ?pv73) rfl rfl rfl (⟨_, _, rfl, rfl, rfl⟩) ?hv73 ?rest73 hck9
    case hv73 =>
     intro E1
     refine (V1.int rfl rfl rfl rfl rfl lt0 ?_)
     exact rfl
    refine VP.step (p := ?pv74) rfl rfl rfl (⟨_, _, rfl, rfl, _, _, rfl, rfl, rfl⟩) ?hv74 ?rest74 hck9
    case hv74 =>
     intro E1
     refine (V1.sliceStrI (a := (IntKind.i64.wrap (y0.1 + (1 : Int)))) (b := (t.length : Int)) rfl rfl istr_9 rfl (Bnd.some rfl hh12.1 _) (Bnd.none _ _) hh12 lt0 ?_)
     exact rfl
    refine VP.fin rfl (⟨_, _, rfl, rfl, _, _, rfl, rfl, rfl⟩) ?_
    refine VO.cons rfl (V1.strAdd rfl rfl rfl rfl hh13 lt0 ?_)
    refine VO.cons rfl (V1.assign rfl rfl rfl lt0 ?_)
    refine VO.nil ?_
    refine V.ret ?_
    obtain rfl := Option.some.inj hm0
    exact ⟨_, _, ⟨_, _, rfl, rfl, rfl⟩, (sub1 (k := 0) rfl), rfl, rfl⟩
   ·
    replace hm0 := cond_f hc2 hm0
    refine V.skip ?_
    refine V.seq ?_
    replace hm0 := asrt_some hm0; rcases hm0 with ⟨hh14, hm0⟩
    replace hm0 := asrt_some hm0; rcases hm0 with ⟨hh15, hm0⟩
    replace hm0 := asrt_some hm0; rcases hm0 with ⟨hh16, hm0⟩
    refine V.regionM 57 7 [⟨[(1, none)], [], none⟩, ⟨[(7, none)], [], none⟩, ⟨[(49, some 1), (50, some 0)], [], none⟩, ⟨[(1, none)], [], none⟩, ⟨[(7, none)], [], none⟩, ⟨[(53, some 0)], [], none⟩, ⟨[(52, some 2), (54, some 0)], [], none⟩] [(51, some 4), (55, some 0)] (⟨_, rfl, ⟨_, rfl, ⟨_, rfl, ⟨_, rfl, ⟨_, rfl, ⟨_, rfl, ⟨_, rfl, ⟨rfl, rfl⟩⟩⟩⟩⟩⟩⟩⟩) mixed_orders rfl (by decide +kernel) (fun hck10 => ?_)
    refine VP.step (p := ?pv75) rfl rfl rfl (⟨_, _, rfl, rfl, rfl⟩) ?hv75 ?rest75 hck10
    case hv75 =>
     intro E1
     refine (V1.move rfl rfl rfl lt0 ?_)
     exact rfl
    refine VP.step (p := ?pv76) rfl rfl rfl (⟨_, _, rfl, rfl, rfl⟩) ?hv76 ?rest76 hck10
    case hv76 =>
     intro E1
     refine (V1.move rfl rfl rfl lt0 ?_)
     exact rfl
    refine VP.step (p := ?pv77) rfl rfl rfl (⟨_, _, rfl, rfl, _, _, rfl, rfl, rfl⟩) ?hv77 ?rest77 hck10
    case hv77 =>
     intro E1
     refine (V1.sliceStrI (a := (0 : Int)) (b := y0.1) rfl rfl istr_9 rfl (Bnd.none _ _) (Bnd.some rfl (Int.le_trans hh14.1 hh14.2.1) _) hh14 lt0 ?_)
     exact rfl
    refine VP.step (p := ?pv78) rfl rfl rfl (⟨_, _, rfl, rfl, rfl⟩) ?hv78 ?rest78 hck10
    case hv78 =>
     intro E1
     refine (V1.move rfl rfl rfl lt0 ?_)
     exact rfl
    refine VP.step (p := ?pv79) rfl rfl rfl (⟨_, _, rfl, rfl, rfl⟩) ?hv79 ?rest79 hck10
    case hv79 =>
     intro E1
     refine (V1.move rfl rfl rfl lt0 ?_)
     exact rfl
    refine VP.step (p := ?pv80) rfl rfl rfl (⟨_, _, rfl, rfl, rfl⟩) ?hv80 ?rest80 hck10
    case hv80 =>
     intro E1
     refine (V1.int rfl rfl rfl rfl rfl lt0 ?_)
     exact rfl
    refine VP.step (p := ?pv81) rfl rfl rfl (⟨_, _, rfl, rfl, _, _, rfl, rfl, rfl⟩) ?hv81 ?rest81 hck10
    case hv81 =>
     intro E1
     refine (V1.sliceStrI (a := (IntKind.i64.wrap (y0.1 + (1 : Int)))) (b := (t.length : Int)) rfl rfl istr_9 rfl (Bnd.some rfl hh15.1 _) (Bnd.none _ _) hh15 lt0 ?_)
     exact rfl
    refine VP.fin rfl (⟨_, _, rfl, rfl, _, _, rfl, rfl, rfl⟩) ?_
    refine VO.cons rfl (V1.strAdd rfl rfl rfl rfl hh16 lt0 ?_)
    refine VO.cons rfl (V1.assign rfl rfl rfl lt0 ?_)
    refine VO.nil ?_
    refine V.ret ?_
    obtain rfl := Option.some.inj hm0
    exact ⟨_, _, ⟨_, _, rfl, rfl, rfl⟩, (sub1 (k := 0) rfl), rfl, rfl⟩

theorem ok_spec_DrawParseRecord {ρ0 rn : Nat} {code : List Int} {r : List UInt8} (h : M.spec_DrawParseRecord code = some r) : Does Tryd.prog 57 [.vl ρ0 1 (List.map encU8 code)] [] rn (fun x H => x = .str r ∧ H = []) := by
 have hm0 := h; clear h; unfold M.spec_DrawParseRecord at hm0
 try dsimp only at hm0
 refine Does.intro (N := 24) Tryd.func57 rfl rfl rfl rfl ?_
 intro w0 S0 L0
 refine V.seq ?_
 refine V.region ?_
 refine VO.cons rfl (V1.assign rfl rfl rfl lt0 ?_)
 refine VO.nil ?_
 refine V.seq ?_
 refine V.region ?_
 refine VO.cons rfl (V1.move rfl rfl rfl lt0 ?_)
 refine VO.cons rfl (V1.build rfl rfl zk_128 pl_128 rfl rfl lt0 ?_)
 refine VO.cons rfl (V1.boxN (n := 3) rfl rfl rfl rfl rfl lt0 ?_)
 intro b0
 refine VO.cons rfl (V1.assign rfl rfl rfl lt0 ?_)
 refine VO.nil ?_
 refine V.keep 24 [3] [0] (E0 := [(3, .ref b0 3 0 0)]) (H0 := [(b0, ⟨3, [.agg [.vl ρ0 1 (List.map encU8 code), .int .i64 (0 : Int), .int .u64 (0 : Int)]]⟩)]) rfl (⟨_, _, rfl, rfl, rfl⟩) (⟨_, _, rfl, rfl, rfl⟩) rfl ?_
 refine V.seq ?_
 refine V.region ?_
 refine VO.cons rfl (V1.assign rfl rfl rfl lt0 ?_)
 refine VO.nil ?_
 refine V.seq ?_
 replace hm0 := bindO hm0; rcases hm0 with ⟨j0, hm1, hm0⟩
 refine V.cutT (D := (List UInt8 × Cur) × (Unit)) (fun ⟨⟨s, c_⟩, _⟩ => ⟨24, [(4, .str s), (3, .ref b0 3 0 0)], [(b0, ⟨3, [encCur ρ0 c_]⟩)]⟩) (fun ⟨⟨s, c_⟩, _⟩ => ((s, c_) = j0)) ?_ ?_
 ·
  refine V.seq ?_
  replace hm1 := bindO hm1; rcases hm1 with ⟨y0, hh0, hm1⟩
  replace hm1 := bindO hm1; rcases hm1 with ⟨y1, hh1, hm1⟩
  refine V.region ?_
  refine VO.cons rfl (V1.move rfl rfl rfl lt0 ?_)
  refine VO.cons rfl (V1.move rfl rfl rfl lt0 ?_)
  refine VO.cons rfl (V1.buildSliceT (f := encInt) ([(1 : Int), (12 : Int), (999 : Int)] : List Int) rfl rfl esz_76 zk_3 rfl rfl rfl rfl rfl rfl rfl lt0 ?_)
  intro b1
  refine VO.cons rfl (V1.callM 1 (rn + ρ0 + 1) [b1] [.ref b0 3 0 0, .vl (rn + ρ0 + 1) 1 (List.map encInt ([(1 : Int), (12 : Int), (999 : Int)] : List Int))] (p := (b0, ⟨3, [.agg [.vl ρ0 1 (List.map encU8 code), .int .i64 (0 : Int), .int .u64 (0 : Int)]]⟩)) rfl rfl rfl cok_120 rfl rfl ⟨_, _, rfl, .same _, ⟨_, _, rfl, Lend.srMap 0 rfl (fun _ => rfl) (.head _), rfl⟩⟩ (bwCons (k := 0) rfl bwNil) (ok_spec_l1Cur_among hh0) rfl (.inr ⟨(by first | omega | (dsimp only; omega)), by rintro _ _ ⟨rfl, rfl⟩; exact ⟨by simp [PV.no, PV.noL, optS_no, noL_iff, nbeq] <;> omega, by intro b ob h; first | exact optH_no (noL_map (fun _ => by simp [PV.no, PV.noL, noL_iff, nbeq]) _) b ob h | (simp only [List.append_assoc, List.mem_append, List.mem_cons, List.mem_singleton, List.not_mem_nil, or_false, Prod.mk.injEq] at h; rcases h with ⟨rfl, rfl⟩ | ⟨rfl, rfl⟩ <;> first | exact noL_map (fun _ => by simp [PV.no, PV.noL, noL_iff, nbeq]) _ | (simp [PV.no, PV.noL, optS_no, noL_iff, nbeq] <;> omega)) | (simp at h; obtain ⟨rfl, rfl⟩ := h; exact noL_map (fun _ => by simp [PV.no, PV.noL, noL_iff, nbeq]) _) | (simp at h; obtain ⟨rfl, rfl⟩ := h; simp [PV.no, PV.noL, optS_no, noL_iff, nbeq] <;> omega)⟩⟩) lt0 ?_)
  rintro _ _ ⟨rfl, rfl⟩
  refine VO.cons rfl (V1.callM 0 (rn + ρ0 + 1) [] [.ref b0 3 0 0, .int .i64 y0.1] (p := (b0, ⟨3, [encCur ρ0 y0.2]⟩)) rfl rfl rfl cok_126 rfl rfl ⟨_, _, rfl, .same _, ⟨_, _, rfl, .same _, rfl⟩⟩ bwNil (ok_spec_l1Cur_record hh1) rfl (.inl rfl) lt0 ?_)
  rintro _ _ ⟨rfl, rfl⟩
  refine VO.cons rfl (V1.alloc rfl rfl zk_39 lt0 ?_)
  intro b2
  refine VO.cons rfl (V1.storeRefAll (k := 0) rfl rfl tyk_39 rfl rfl rfl rfl rfl rfl ?_)
  refine VO.nil ?_
  refine V.keep 24 [3, 4, 5] [0, 1] (E0 := [(3, .ref b0 3 0 0), (4, .str ([49, 50, 115, 51, 64, 49, 48, 48, 32, 49, 64, 49, 52, 48, 32, 52, 64, 50, 48, 48])), (5, .ref b2 4 0 0)]) (H0 := [(b2, ⟨4, [encRecord rn y1.1]⟩), (b0, ⟨3, [encCur ρ0 y1.2]⟩)]) rfl (⟨_, _, rfl, rfl, _, _, rfl, rfl, _, _, rfl, rfl, rfl⟩) (⟨_, _, rfl, rfl, _, _, rfl, rfl, rfl⟩) rfl ?_
  refine V.seq ?_
  replace hm1 := bindO hm1; rcases hm1 with ⟨y2, hh2, hm1⟩
  refine V.region ?_
  refine VO.cons rfl (V1.loadRefAll (k := 0) rfl rfl tyk_39 rfl rfl rfl rfl rfl lt0 ?_)
  refine VO.cons rfl (V1.call rfl rfl rfl cok_130 rfl (ok_spec_l2Record hh2) rfl lt0 ?_)
  rintro _ _ ⟨rfl, rfl⟩
  refine VO.nil ?_
  refine V.cond rfl (fun hc0 => ?_) (fun hc0 => ?_)
  ·
   replace hm1 := cond_t hc0 hm1
   replace hm1 := bindO hm1; rcases hm1 with ⟨y3, hh3, hm1⟩
   refine V.region ?_
   refine VO.cons rfl (V1.loadRefAll (k := 0) rfl rfl tyk_39 rfl rfl rfl rfl rfl lt0 ?_)
   refine VO.cons rfl (V1.call rfl rfl rfl cok_161 rfl (ok_spec_l2Text hh3) rfl lt0 ?_)
   rintro _ _ ⟨rfl, rfl⟩
   refine VO.cons rfl (V1.assign rfl rfl rfl lt0 ?_)
   refine VO.nil ?_
   exact ⟨((y3, y1.2), ()), Option.some.inj hm1, Keeps.mk (ks := [1]) rfl ⟨rfl, rfl, trivial⟩ (⟨_, _, rfl, rfl, rfl⟩) rfl⟩
  ·
   replace hm1 := cond_f hc0 hm1
   refine V.skip ?_
   exact ⟨(([49, 50, 115, 51, 64, 49, 48, 48, 32, 49, 64, 49, 52, 48, 32, 52, 64, 50, 48, 48], y1.2), ()), Option.some.inj hm1, Keeps.mk (ks := [1]) rfl ⟨rfl, rfl, trivial⟩ (⟨_, _, rfl, rfl, rfl⟩) rfl⟩
 ·
  rintro ⟨⟨s, c_⟩, _⟩ rfl
  try dsimp only at hm0
  refine V.seq ?_
  refine V.seq ?_
  replace hm0 := bindO hm0; rcases hm0 with ⟨y4, hh4, hm0⟩
  refine V.region ?_
  refine VO.cons rfl (V1.move rfl rfl rfl lt0 ?_)
  refine VO.cons rfl (V1.callM 0 (rn + ρ0 + 1) [] [.ref b0 3 0 0, .int .i64 (4 : Int)] (p := (b0, ⟨3, [encCur ρ0 c_]⟩)) rfl rfl rfl cok_147 rfl rfl ⟨_, _, rfl, .same _, ⟨_, _, rfl, .same _, rfl⟩⟩ bwNil (ok_spec_l1Cur_one hh4) rfl (.inl rfl) lt0 ?_)
  rintro _ _ ⟨rfl, rfl⟩
  refine VO.nil ?_
  refine V.cond rfl (fun hc1 => ?_) (fun hc1 => ?_)
  ·
   replace hm0 := cond_t hc1 hm0
   replace hm0 := bindO hm0; rcases hm0 with ⟨y5, hh5, hm0⟩
   refine V.region ?_
   refine VO.cons rfl (V1.move rfl rfl rfl lt0 ?_)
   refine VO.cons rfl (V1.move rfl rfl rfl lt0 ?_)
   refine VO.cons rfl (V1.callM 0 (rn + ρ0 + 1) [] [.ref b0 3 0 0, .str s, .str ([115, 64, 32, 48, 49, 57])] (p := (b0, ⟨3, [encCur ρ0 y4.2]⟩)) rfl rfl rfl cok_165 rfl rfl ⟨_, _, rfl, .same _, ⟨_, _, rfl, .same _, ⟨_, _, rfl, .same _, rfl⟩⟩⟩ bwNil (ok_spec_l1Cur_spoilt hh5) rfl (.inl rfl) lt0 ?_)
   rintro _ _ ⟨rfl, rfl⟩
   refine VO.cons rfl (V1.assign rfl rfl rfl lt0 ?_)
   refine VO.nil ?_
   refine V.keep 24 [4] [] (E0 := [(4, .str y5.1)]) (H0 := []) rfl (⟨_, _, rfl, rfl, rfl⟩) (rfl) rfl ?_
   refine V.seq ?_
   refine V.region ?_
   refine VO.cons rfl (V1.move rfl rfl rfl lt0 ?_)
   refine VO.cons rfl (V1.assign rfl rfl rfl lt0 ?_)
   refine VO.nil ?_
   refine V.ret ?_
   obtain rfl := Option.some.inj hm0
   exact ⟨_, [], ⟨_, _, rfl, rfl, rfl⟩, List.nil_sublist _, rfl, rfl⟩
  ·
   replace hm0 := cond_f hc1 hm0
   refine V.skip ?_
   refine V.seq ?_
   refine V.region ?_
   refine VO.cons rfl (V1.move rfl rfl rfl lt0 ?_)
   refine VO.cons rfl (V1.assign rfl rfl rfl lt0 ?_)
   refine VO.nil ?_
   refine V.ret ?_
   obtain rfl := Option.some.inj hm0
   exact ⟨_, [], ⟨_, _, rfl, rfl, rfl⟩, List.nil_sublist _, rfl, rfl⟩

theorem ok_spec_l1Split {rn : Nat} {s : List UInt8} {b_ : Int} {r : List (List UInt8)} (h : M.spec_l1Split s b_ = some r) : Does Tryd.prog 166 [.str s, .int .u8 b_] [] rn (fun x H => ∃ (ob0_ : Nat), x = PV.sref ob0_ 1 0 (List.length r) ∧ H = [(ob0_, ⟨1, List.map encStr r⟩)]) := by
 have hm0 := h; clear h; unfold M.spec_l1Split at hm0
 try dsimp only at hm0
 refine Does.intro (N := 35) Tryd.func166 rfl rfl rfl rfl ?_
 intro w0 S0 L0
 refine V.seq ?_
 refine V.region ?_
 refine VO.cons rfl (V1.assign rfl rfl rfl lt0 ?_)
 refine VO.nil ?_
 refine V.seq ?_
 refine V.region ?_
 refine VO.cons rfl (V1.buildSliceT (f := encStr) ([] : List (List UInt8)) rfl rfl esz_28 zk_9 rfl rfl rfl rfl rfl rfl rfl lt0 ?_)
 intro b0
 refine VO.cons rfl (V1.assign rfl rfl rfl lt0 ?_)
 refine VO.nil ?_
 refine V.seq ?_
 refine V.region ?_
 refine VO.cons rfl (V1.assign rfl rfl rfl lt0 ?_)
 refine VO.nil ?_
 refine V.seq ?_
 refine V.seq ?_
 refine V.region ?_
 refine VO.cons rfl (V1.assign rfl rfl rfl lt0 ?_)
 refine VO.nil ?_
 replace hm0 := bindO hm0; rcases hm0 with ⟨e0, he1, hm0⟩
 refine V.cutT (D := (List (List UInt8) × Int) × (Nat)) (fun ⟨⟨out_, from_⟩, b1⟩ => ⟨35, [(5, .sref b1 1 0 (List.length out_)), (6, .int .i64 from_), (0, .str s)], [(b1, ⟨1, List.map encStr out_⟩)]⟩) (fun ⟨⟨out_, from_⟩, b1⟩ => ((out_, from_) = e0)) ?_ ?_
 ·
  refine V.block ?_
  refine V.keep 35 [5, 6, 7, 0, 1] [0] (E0 := [(5, .sref b0 1 0 (List.length ([] : List (List UInt8)))), (6, .int .i64 (0 : Int)), (7, .int .i64 (0 : Int)), (0, .str s), (1, .int .u8 b_)]) (H0 := [(b0, ⟨1, List.map encStr ([] : List (List UInt8))⟩)]) rfl (⟨_, _, rfl, rfl, _, _, rfl, rfl, _, _, rfl, rfl, _, _, rfl, rfl, _, _, rfl, rfl, rfl⟩) (⟨_, _, rfl, rfl, rfl⟩) rfl ?_
  refine V.loopE (D := Nat × (List (List UInt8) × Int × Int) × (Nat)) (fun ⟨n0, ⟨out_0, from_0, i⟩, b2⟩ => [(5, .sref b2 1 0 (List.length out_0)), (6, .int .i64 from_0), (7, .int .i64 i)]) (fun ⟨n0, ⟨out_0, from_0, i⟩, b2⟩ => [(b2, ⟨1, List.map encStr out_0⟩)]) (fun ⟨n0, ⟨out_0, from_0, i⟩, b2⟩ => loopO (M.spec_l1Split_l0 s b_) n0 (out_0, from_0, i) = some e0) (fun ⟨n0, _, _⟩ => n0) (rounds, (([] : List (List UInt8)), (0 : Int), (0 : Int)), b0) rfl he1 ?_
  rintro ⟨n0, ⟨out_0, from_0, i⟩, b2⟩ hP0
  obtain ⟨m0, y0, rfl, hm1, hl1, hr1⟩ := loop_head hP0
  unfold M.spec_l1Split_l0 at hm1; dsimp only at hm1
  show V _ _ _ ⟨35, [(5, .sref b2 1 0 (List.length out_0)), (6, .int .i64 from_0), (7, .int .i64 i), (0, .str s), (1, .int .u8 b_)], [(b2, ⟨1, List.map encStr out_0⟩)]⟩
  refine V.seq ?_
  refine V.seq ?_
  refine V.region ?_
  refine VO.cons rfl (V1.move rfl rfl rfl lt0 ?_)
  refine VO.cons rfl (V1.move rfl rfl rfl lt0 ?_)
  refine VO.cons rfl (V1.lenStr rfl rfl rfl rfl rfl rfl istr_9 lt0 ?_)
  refine VO.cons rfl (V1.int rfl rfl rfl rfl rfl lt0 ?_)
  refine VO.nil ?_
  refine V.cond rfl (fun hc0 => ?_) (fun hc0 => ?_)
  ·
   replace hm1 := cond_t hc0 hm1
   refine V.skip ?_
   refine V.keep 35 [0, 1, 5, 6, 7] [0] (E0 := [(0, .str s), (1, .int .u8 b_), (5, .sref b2 1 0 (List.length out_0)), (6, .int .i64 from_0), (7, .int .i64 i)]) (H0 := [(b2, ⟨1, List.map encStr out_0⟩)]) rfl (⟨_, _, rfl, rfl, _, _, rfl, rfl, _, _, rfl, rfl, _, _, rfl, rfl, _, _, rfl, rfl, rfl⟩) (⟨_, _, rfl, rfl, rfl⟩) rfl ?_
   refine V.seq ?_
   replace hm1 := bindO hm1; rcases hm1 with ⟨j0, hm2, hm1⟩
   refine V.cutT (D := (List (List UInt8) × Int) × (Nat)) (fun ⟨⟨out_1, from_1⟩, b3⟩ => ⟨35, [(5, .sref b3 1 0 (List.length out_1)), (6, .int .i64 from_1), (0, .str s), (1, .int .u8 b_), (7, .int .i64 i)], [(b3, ⟨1, List.map encStr out_1⟩)]⟩) (fun ⟨⟨out_1, from_1⟩, b3⟩ => ((out_1, from_1) = j0)) ?_ ?_
   ·
    refine V.block ?_
    refine V.seq ?_
    replace hm2 := asrt_some hm2; rcases hm2 with ⟨hh0, hm2⟩
    refine V.region ?_
    refine VO.cons rfl (V1.move rfl rfl rfl lt0 ?_)
    refine VO.cons rfl (V1.move rfl rfl rfl lt0 ?_)
    refine VO.cons rfl (V1.indexStrI rfl rfl istr_9 rfl rfl hh0 lt0 ?_)
    refine VO.cons rfl (V1.move rfl rfl rfl lt0 ?_)
    refine VO.cons rfl (V1.int rfl rfl rfl rfl rfl lt0 ?_)
    refine VO.nil ?_
    refine V.keep 35 [0, 1, 5, 6, 7, 19] [0] (E0 := [(0, .str s), (1, .int .u8 b_), (5, .sref b2 1 0 (List.length out_0)), (6, .int .i64 from_0), (7, .int .i64 i), (19, .bool (((s.getD (Int.toNat i) 0).toNat : Int) == b_))]) (H0 := [(b2, ⟨1, List.map encStr out_0⟩)]) rfl (⟨_, _, rfl, rfl, _, _, rfl, rfl, _, _, rfl, rfl, _, _, rfl, rfl, _, _, rfl, rfl, _, _, rfl, rfl, rfl⟩) (⟨_, _, rfl, rfl, rfl⟩) rfl ?_
    refine V.cond rfl (fun hc1 => ?_) (fun hc1 => ?_)
    ·
     replace hm2 := cond_t hc1 hm2
     refine V.seq ?_
     replace hm2 := asrt_some hm2; rcases hm2 with ⟨hh1, hm2⟩
     replace hm2 := asrt_some hm2; rcases hm2 with ⟨hh2, hm2⟩
     refine V.region ?_
     refine VO.cons rfl (V1.move rfl rfl rfl lt0 ?_)
     refine VO.cons rfl (V1.move rfl rfl rfl lt0 ?_)
     refine VO.cons rfl (V1.move rfl rfl rfl lt0 ?_)
     refine VO.cons rfl (V1.move rfl rfl rfl lt0 ?_)
     refine VO.cons rfl (V1.sliceStrI (a := from_0) (b := i) rfl rfl istr_9 rfl (Bnd.some rfl hh1.1 _) (Bnd.some rfl (Int.le_trans hh1.1 hh1.2.1) _) hh1 lt0 ?_)
     refine VO.cons rfl (V1.buildSliceT (f := encStr) ([(slc s from_0 i)] : List (List UInt8)) rfl rfl esz_28 zk_9 rfl rfl rfl rfl rfl rfl rfl lt0 ?_)
     intro b4
     refine VO.cons rfl (V1.appendMap (k := 1) (f := encStr) (l := out_0) (m := ([(slc s from_0 i)] : List (List UInt8))) rfl rfl rfl rfl rfl esz_28 eby_28 zk_9 rfl rfl rfl (SrcOf.srMap (k := 0) rfl isl_28) hh2 lt0 ?_)
     intro b5
     refine VO.cons rfl (V1.assign rfl rfl rfl lt0 ?_)
     refine VO.nil ?_
     refine V.keep 35 [0, 1, 5, 7] [0] (E0 := [(0, .str s), (1, .int .u8 b_), (5, .sref b5 1 0 (List.length (out_0 ++ ([(slc s from_0 i)] : List (List UInt8))))), (7, .int .i64 i)]) (H0 := [(b5, ⟨1, List.map encStr (out_0 ++ ([(slc s from_0 i)] : List (List UInt8)))⟩)]) rfl (⟨_, _, rfl, rfl, _, _, rfl, rfl, _, _, rfl, rfl, _, _, rfl, rfl, rfl⟩) (⟨_, _, rfl, rfl, rfl⟩) rfl ?_
     refine V.region ?_
     refine VO.cons rfl (V1.move rfl rfl rfl lt0 ?_)
     refine VO.cons rfl (V1.int rfl rfl rfl rfl rfl lt0 ?_)
     refine VO.cons rfl (V1.assign rfl rfl rfl lt0 ?_)
     refine VO.nil ?_
     exact ⟨(((out_0 ++ ([(slc s from_0 i)] : List (List UInt8))), (IntKind.i64.wrap (i + (1 : Int)))), b5), Option.some.inj hm2, Keeps.mk (ks := [0]) rfl ⟨rfl, rfl, rfl, rfl, rfl, trivial⟩ (⟨_, _, rfl, rfl, rfl⟩) rfl⟩
    ·
     replace hm2 := cond_f hc1 hm2
     refine V.skip ?_
     exact ⟨((out_0, from_0), b2), Option.some.inj hm2, Keeps.mk (ks := [0]) rfl ⟨rfl, rfl, rfl, rfl, rfl, trivial⟩ (⟨_, _, rfl, rfl, rfl⟩) rfl⟩
   ·
    rintro ⟨⟨out_1, from_1⟩, b3⟩ rfl
    try dsimp only at hm1
    refine V.region ?_
    refine VO.cons rfl (V1.move rfl rfl rfl lt0 ?_)
    refine VO.cons rfl (V1.int rfl rfl rfl rfl rfl lt0 ?_)
    refine VO.cons rfl (V1.assign rfl rfl rfl lt0 ?_)
    refine VO.nil ?_
    exact ⟨(m0, (out_1, from_1, (IntKind.i64.wrap (i + (1 : Int)))), b3), hl1 _ (Option.some.inj hm1).symm, Nat.lt_succ_self _, Keeps.mk (ks := [0]) rfl ⟨rfl, rfl, rfl, rfl, rfl, trivial⟩ (⟨_, _, rfl, rfl, rfl⟩) rfl⟩
  ·
   replace hm1 := cond_f hc0 hm1
   refine V.exit ?_
   obtain rfl := hr1 _ (Option.some.inj hm1).symm
   exact ⟨((out_0, from_0), b2), rfl, Keeps.mk (ks := [0]) rfl ⟨rfl, rfl, rfl, trivial⟩ (⟨_, _, rfl, rfl, rfl⟩) rfl⟩
 ·
  rintro ⟨⟨out_, from_⟩, b1⟩ rfl
  try dsimp only at hm0
  refine V.seq ?_
  replace hm0 := asrt_some hm0; rcases hm0 with ⟨hh3, hm0⟩
  replace hm0 := asrt_some hm0; rcases hm0 with ⟨hh4, hm0⟩
  refine V.region ?_
  refine VO.cons rfl (V1.move rfl rfl rfl lt0 ?_)
  refine VO.cons rfl (V1.move rfl rfl rfl lt0 ?_)
  refine VO.cons rfl (V1.move rfl rfl rfl lt0 ?_)
  refine VO.cons rfl (V1.sliceStrI (a := from_) (b := (s.length : Int)) rfl rfl istr_9 rfl (Bnd.some rfl hh3.1 _) (Bnd.none _ _) hh3 lt0 ?_)
  refine VO.cons rfl (V1.buildSliceT (f := encStr) ([(slc s from_ (s.length : Int))] : List (List UInt8)) rfl rfl esz_28 zk_9 rfl rfl rfl rfl rfl rfl rfl lt0 ?_)
  intro b6
  refine VO.cons rfl (V1.appendMap (k := 1) (f := encStr) (l := out_) (m := ([(slc s from_ (s.length : Int))] : List (List UInt8))) rfl rfl rfl rfl rfl esz_28 eby_28 zk_9 rfl rfl rfl (SrcOf.srMap (k := 0) rfl isl_28) hh4 lt0 ?_)
  intro b7
  refine VO.cons rfl (V1.assign rfl rfl rfl lt0 ?_)
  refine VO.nil ?_
  refine V.keep 35 [4] [0] (E0 := [(4, .sref b7 1 0 (List.length (out_ ++ ([(slc s from_ (s.length : Int))] : List (List UInt8)))))]) (H0 := [(b7, ⟨1, List.map encStr (out_ ++ ([(slc s from_ (s.length : Int))] : List (List UInt8)))⟩)]) rfl (⟨_, _, rfl, rfl, rfl⟩) (⟨_, _, rfl, rfl, rfl⟩) rfl ?_
  refine V.ret ?_
  obtain rfl := Option.some.inj hm0
  exact ⟨_, _, ⟨_, _, rfl, rfl, rfl⟩, List.Sublist.refl _, b7, rfl, rfl⟩

theorem ok_spec_l1Read {rn : Nat} {s : List UInt8} {r : Int × Bool} (h : M.spec_l1Read s = some r) : Does Tryd.prog 150 [.str s] [] rn (fun x H => x = .tup [.int .i64 r.1, .bool r.2] ∧ H = []) := by
 have hm0 := h; clear h; unfold M.spec_l1Read at hm0
 try dsimp only at hm0
 refine Does.intro (N := 58) Tryd.func150 rfl rfl rfl rfl ?_
 intro w0 S0 L0
 refine V.seq ?_
 refine V.region ?_
 refine VO.cons rfl (V1.assign rfl rfl rfl lt0 ?_)
 refine VO.cons rfl (V1.assign rfl rfl rfl lt0 ?_)
 refine VO.nil ?_
 refine V.seq ?_
 refine V.region ?_
 refine VO.cons rfl (V1.move rfl rfl rfl lt0 ?_)
 refine VO.cons rfl (V1.assign rfl rfl rfl lt0 ?_)
 refine VO.nil ?_
 refine V.seq ?_
 replace hm0 := bindO hm0; rcases hm0 with ⟨j0, hm1, hm0⟩
 refine V.cutT (D := (List UInt8) × (Unit)) (fun ⟨t_, _⟩ => ⟨58, [(4, .str t_), (0, .str s)], []⟩) (fun ⟨t_, _⟩ => (t_ = j0)) ?_ ?_
 ·
  refine V.seq ?_
  replace hm1 := asrt_some hm1; rcases hm1 with ⟨hh0, hm1⟩
  refine V.region ?_
  refine VO.cons rfl (V1.move rfl rfl rfl lt0 ?_)
  refine VO.cons rfl (V1.lenStr rfl rfl rfl rfl rfl rfl istr_9 lt0 ?_)
  refine VO.cons rfl (V1.int rfl rfl rfl rfl rfl lt0 ?_)
  refine VO.cons rfl (V1.move rfl rfl rfl lt0 ?_)
  apply VO.and (n := 3) rfl rfl rfl rfl rfl rfl lt0 (.none rfl)
  ·
   intro hg0
   refine VO.step (.some rfl rfl rfl) (V1.move rfl rfl rfl lt0 ?_)
   refine VO.step (.some rfl rfl rfl) (V1.indexStrI rfl rfl istr_9 rfl rfl (hh0 hg0) lt0 ?_)
   refine VO.step (.some rfl rfl rfl) (V1.int rfl rfl rfl rfl rfl lt0 ?_)
   exact VO.nil ⟨rfl, rfl, rfl, rfl, .inr ⟨rfl, .inr ⟨rfl, .inr ⟨rfl, .inr ⟨rfl, .inl rfl⟩⟩⟩⟩⟩
  refine VO.nil ?_
  refine V.keep 58 [0, 4, 15] [] (E0 := [(0, .str s), (4, .str s), (15, .bool ((decide ((s.length : Int) > (1 : Int))) && (((s.getD (Int.toNat (0 : Int)) 0).toNat : Int) == (45 : Int))))]) (H0 := []) rfl (⟨_, _, rfl, rfl, _, _, rfl, rfl, _, _, rfl, rfl, rfl⟩) (rfl) rfl ?_
  refine V.cond rfl (fun hc0 => ?_) (fun hc0 => ?_)
  ·
   replace hm1 := cond_t hc0 hm1
   replace hm1 := asrt_some hm1; rcases hm1 with ⟨hh1, hm1⟩
   refine V.region ?_
   refine VO.cons rfl (V1.move rfl rfl rfl lt0 ?_)
   refine VO.cons rfl (V1.sliceStrI (a := (1 : Int)) (b := (s.length : Int)) rfl rfl istr_9 rfl (Bnd.some rfl hh1.1 _) (Bnd.none _ _) hh1 lt0 ?_)
   refine VO.cons rfl (V1.assign rfl rfl rfl lt0 ?_)
   refine VO.nil ?_
   exact ⟨((slc s (1 : Int) (s.length : Int)), ()), Option.some.inj hm1, Keeps.mk (ks := []) rfl ⟨rfl, rfl, trivial⟩ (rfl) rfl⟩
  ·
   replace hm1 := cond_f hc0 hm1
   refine V.skip ?_
   exact ⟨(s, ()), Option.some.inj hm1, Keeps.mk (ks := []) rfl ⟨rfl, rfl, trivial⟩ (rfl) rfl⟩
 ·
  rintro ⟨t_, _⟩ rfl
  try dsimp only at hm0
  refine V.seq ?_
  refine V.seq ?_
  replace hm0 := bindO hm0; rcases hm0 with ⟨y0, hh2, hm0⟩
  refine V.region ?_
  refine VO.cons rfl (V1.move rfl rfl rfl lt0 ?_)
  refine VO.cons rfl (V1.lenStr rfl rfl rfl rfl rfl rfl istr_9 lt0 ?_)
  refine VO.cons rfl (V1.call rfl rfl rfl cok_140 rfl (ok_spec_l1In hh2) rfl lt0 ?_)
  rintro _ _ ⟨rfl, rfl⟩
  refine VO.cons rfl (V1.not rfl rfl rfl lt0 ?_)
  refine VO.nil ?_
  refine V.cond rfl (fun hc1 => ?_) (fun hc1 => ?_)
  ·
   replace hm0 := cond_t hc1 hm0
   refine V.seq ?_
   refine V.region ?_
   refine VO.cons rfl (V1.assign rfl rfl rfl lt0 ?_)
   refine VO.cons rfl (V1.assign rfl rfl rfl lt0 ?_)
   refine VO.nil ?_
   refine V.ret ?_
   obtain rfl := Option.some.inj hm0
   exact ⟨_, [], ⟨_, _, rfl, rfl, _, _, rfl, rfl, rfl⟩, List.nil_sublist _, rfl, rfl⟩
  ·
   replace hm0 := cond_f hc1 hm0
   refine V.skip ?_
   refine V.keep 58 [0, 4] [] (E0 := [(0, .str s), (4, .str t_)]) (H0 := []) rfl (⟨_, _, rfl, rfl, _, _, rfl, rfl, rfl⟩) (rfl) rfl ?_
   refine V.seq ?_
   refine V.region ?_
   refine VO.cons rfl (V1.assign rfl rfl rfl lt0 ?_)
   refine VO.nil ?_
   refine V.seq ?_
   refine V.seq ?_
   refine V.region ?_
   refine VO.cons rfl (V1.assign rfl rfl rfl lt0 ?_)
   refine VO.nil ?_
   replace hm0 := bindO hm0; rcases hm0 with ⟨e0, he1, hm0⟩
   refine V.cutT (D := (Int) × (Unit)) (fun ⟨n_, _⟩ => ⟨58, [(5, .int .i64 n_), (0, .str s), (4, .str t_)], []⟩) (fun ⟨n_, _⟩ => (.inl n_ = e0)) ?_ ?_
   ·
    refine V.block ?_
    refine V.keep 58 [5, 6, 0, 4] [] (E0 := [(5, .int .i64 (0 : Int)), (6, .int .i64 (0 : Int)), (0, .str s), (4, .str t_)]) (H0 := []) rfl (⟨_, _, rfl, rfl, _, _, rfl, rfl, _, _, rfl, rfl, _, _, rfl, rfl, rfl⟩) (rfl) rfl ?_
    refine V.loopE (D := Nat × (Int × Int) × (Unit)) (fun ⟨n0, ⟨n_0, i⟩, _⟩ => [(5, .int .i64 n_0), (6, .int .i64 i)]) (fun ⟨n0, ⟨n_0, i⟩, _⟩ => []) (fun ⟨n0, ⟨n_0, i⟩, _⟩ => loopO (M.spec_l1Read_l0 t_) n0 (n_0, i) = some e0) (fun ⟨n0, _, _⟩ => n0) (rounds, ((0 : Int), (0 : Int)), ()) rfl he1 ?_
    rintro ⟨n0, ⟨n_0, i⟩, _⟩ hP0
    obtain ⟨m0, y1, rfl, hm1, hl1, hr1⟩ := loop_head hP0
    unfold M.spec_l1Read_l0 at hm1; dsimp only at hm1
    show V _ _ _ ⟨58, [(5, .int .i64 n_0), (6, .int .i64 i), (0, .str s), (4, .str t_)], []⟩
    refine V.seq ?_
    refine V.seq ?_
    refine V.region ?_
    refine VO.cons rfl (V1.move rfl rfl rfl lt0 ?_)
    refine VO.cons rfl (V1.move rfl rfl rfl lt0 ?_)
    refine VO.cons rfl (V1.lenStr rfl rfl rfl rfl rfl rfl istr_9 lt0 ?_)
    refine VO.cons rfl (V1.int rfl rfl rfl rfl rfl lt0 ?_)
    refine VO.nil ?_
    refine V.cond rfl (fun hc2 => ?_) (fun hc2 => ?_)
    ·
     replace hm1 := cond_t hc2 hm1
     refine V.skip ?_
     refine V.keep 58 [0, 4, 5, 6] [] (E0 := [(0, .str s), (4, .str t_), (5, .int .i64 n_0), (6, .int .i64 i)]) (H0 := []) rfl (⟨_, _, rfl, rfl, _, _, rfl, rfl, _, _, rfl, rfl, _, _, rfl, rfl, rfl⟩) (rfl) rfl ?_
     refine V.seq ?_
     refine V.block ?_
     refine V.seq ?_
     refine V.seq ?_
     replace hm1 := asrt_some hm1; rcases hm1 with ⟨hh3, hm1⟩
     replace hm1 := asrt_some hm1; rcases hm1 with ⟨hh4, hm1⟩
     refine V.region ?_
     refine VO.cons rfl (V1.move rfl rfl rfl lt0 ?_)
     refine VO.cons rfl (V1.move rfl rfl rfl lt0 ?_)
     refine VO.cons rfl (V1.indexStrI rfl rfl istr_9 rfl rfl hh3 lt0 ?_)
     refine VO.cons rfl (V1.int rfl rfl rfl rfl rfl lt0 ?_)
     refine VO.cons rfl (V1.move rfl rfl rfl lt0 ?_)
     apply VO.or (n := 4) rfl rfl rfl rfl rfl rfl lt0 (.none rfl)
     ·
      intro hg1
      refine VO.step (.some rfl rfl rfl) (V1.move rfl rfl rfl lt0 ?_)
      refine VO.step (.some rfl rfl rfl) (V1.move rfl rfl rfl lt0 ?_)
      refine VO.step (.some rfl rfl rfl) (V1.indexStrI rfl rfl istr_9 rfl rfl (hh4 hg1) lt0 ?_)
      refine VO.step (.some rfl rfl rfl) (V1.int rfl rfl rfl rfl rfl lt0 ?_)
      exact VO.nil ⟨rfl, rfl, rfl, rfl, .inr ⟨rfl, .inr ⟨rfl, .inr ⟨rfl, .inr ⟨rfl, .inr ⟨rfl, .inl rfl⟩⟩⟩⟩⟩⟩
     refine VO.nil ?_
     refine V.keep 58 [0, 4, 5, 6, 37] [] (E0 := [(0, .str s), (4, .str t_), (5, .int .i64 n_0), (6, .int .i64 i), (37, .bool ((decide (((t_.getD (Int.toNat i) 0).toNat : Int) < (48 : Int))) || (decide (((t_.getD (Int.toNat i) 0).toNat : Int) > (57 : Int)))))]) (H0 := []) rfl (⟨_, _, rfl, rfl, _, _, rfl, rfl, _, _, rfl, rfl, _, _, rfl, rfl, _, _, rfl, rfl, rfl⟩) (rfl) rfl ?_
     refine V.cond rfl (fun hc3 => ?_) (fun hc3 => ?_)
     ·
      replace hm1 := cond_t hc3 hm1
      refine V.seq ?_
      refine V.region ?_
      refine VO.cons rfl (V1.assign rfl rfl rfl lt0 ?_)
      refine VO.cons rfl (V1.assign rfl rfl rfl lt0 ?_)
      refine VO.nil ?_
      refine V.ret ?_
      obtain rfl := hr1 _ (Option.some.inj hm1).symm
      change some _ = some _ at hm0
      obtain rfl := Option.some.inj hm0
      exact ⟨_, [], ⟨_, _, rfl, rfl, _, _, rfl, rfl, rfl⟩, List.nil_sublist _, rfl, rfl⟩
     ·
      replace hm1 := cond_f hc3 hm1
      refine V.skip ?_
      replace hm1 := asrt_some hm1; rcases hm1 with ⟨hh5, hm1⟩
      refine V.region ?_
      refine VO.cons rfl (V1.move rfl rfl rfl lt0 ?_)
      refine VO.cons rfl (V1.int rfl rfl rfl rfl rfl lt0 ?_)
      refine VO.cons rfl (V1.move rfl rfl rfl lt0 ?_)
      refine VO.cons rfl (V1.move rfl rfl rfl lt0 ?_)
      refine VO.cons rfl (V1.indexStrI rfl rfl istr_9 rfl rfl hh5 lt0 ?_)
      refine VO.cons rfl (V1.int rfl rfl rfl rfl rfl lt0 ?_)
      refine VO.cons rfl (V1.conv rfl rfl und_5 und_3 rfl lt0 ?_)
      refine VO.cons rfl (V1.int rfl rfl rfl rfl rfl lt0 ?_)
      refine VO.cons rfl (V1.assign rfl rfl rfl lt0 ?_)
      refine VO.nil ?_
      refine V.keep 58 [0, 4, 5, 6] [] (E0 := [(0, .str s), (4, .str t_), (5, .int .i64 (IntKind.i64.wrap ((IntKind.i64.wrap ((10 : Int) * n_0)) + (IntKind.i64.wrap (IntKind.u8.wrap (((t_.getD (Int.toNat i) 0).toNat : Int) - (48 : Int))))))), (6, .int .i64 i)]) (H0 := []) rfl (⟨_, _, rfl, rfl, _, _, rfl, rfl, _, _, rfl, rfl, _, _, rfl, rfl, rfl⟩) (rfl) rfl ?_
      refine V.region ?_
      refine VO.cons rfl (V1.move rfl rfl rfl lt0 ?_)
      refine VO.cons rfl (V1.int rfl rfl rfl rfl rfl lt0 ?_)
      refine VO.cons rfl (V1.assign rfl rfl rfl lt0 ?_)
      refine VO.nil ?_
      exact ⟨(m0, ((IntKind.i64.wrap ((IntKind.i64.wrap ((10 : Int) * n_0)) + (IntKind.i64.wrap (IntKind.u8.wrap (((t_.getD (Int.toNat i) 0).toNat : Int) - (48 : Int)))))), (IntKind.i64.wrap (i + (1 : Int)))), ()), hl1 _ (Option.some.inj hm1).symm, Nat.lt_succ_self _, Keeps.mk (ks := []) rfl ⟨rfl, rfl, rfl, rfl, trivial⟩ (rfl) rfl⟩
    ·
     replace hm1 := cond_f hc2 hm1
     refine V.exit ?_
     obtain rfl := hr1 _ (Option.some.inj hm1).symm
     exact ⟨(n_0, ()), rfl, Keeps.mk (ks := []) rfl ⟨rfl, rfl, rfl, trivial⟩ (rfl) rfl⟩
   ·
    rintro ⟨n_, _⟩ rfl
    try dsimp only at hm0
    refine V.seq ?_
    replace hm0 := bindO hm0; rcases hm0 with ⟨j1, hm1, hm0⟩
    refine V.cutT (D := (Int) × (Unit)) (fun ⟨n_1, _⟩ => ⟨58, [(5, .int .i64 n_1), (0, .str s)], []⟩) (fun ⟨n_1, _⟩ => (n_1 = j1)) ?_ ?_
    ·
     refine V.seq ?_
     refine V.region ?_
     refine VO.cons rfl (V1.move rfl rfl rfl lt0 ?_)
     refine VO.cons rfl (V1.lenStr rfl rfl rfl rfl rfl rfl istr_9 lt0 ?_)
     refine VO.cons rfl (V1.move rfl rfl rfl lt0 ?_)
     refine VO.cons rfl (V1.lenStr rfl rfl rfl rfl rfl rfl istr_9 lt0 ?_)
     refine VO.cons rfl (V1.int rfl rfl rfl rfl rfl lt0 ?_)
     refine VO.nil ?_
     refine V.keep 58 [0, 5, 50] [] (E0 := [(0, .str s), (5, .int .i64 n_), (50, .bool (decide ((t_.length : Int) < (s.length : Int))))]) (H0 := []) rfl (⟨_, _, rfl, rfl, _, _, rfl, rfl, _, _, rfl, rfl, rfl⟩) (rfl) rfl ?_
     refine V.cond rfl (fun hc4 => ?_) (fun hc4 => ?_)
     ·
      replace hm1 := cond_t hc4 hm1
      refine V.region ?_
      refine VO.cons rfl (V1.move rfl rfl rfl lt0 ?_)
      refine VO.cons rfl (V1.neg rfl rfl rfl lt0 ?_)
      refine VO.cons rfl (V1.assign rfl rfl rfl lt0 ?_)
      refine VO.nil ?_
      exact ⟨((IntKind.i64.wrap (0 - n_)), ()), Option.some.inj hm1, Keeps.mk (ks := []) rfl ⟨rfl, rfl, trivial⟩ (rfl) rfl⟩
     ·
      replace hm1 := cond_f hc4 hm1
      refine V.skip ?_
      exact ⟨(n_, ()), Option.some.inj hm1, Keeps.mk (ks := []) rfl ⟨rfl, rfl, trivial⟩ (rfl) rfl⟩
    ·
     rintro ⟨n_1, _⟩ rfl
     try dsimp only at hm0
     refine V.seq ?_
     refine V.seq ?_
     replace hm0 := bindO hm0; rcases hm0 with ⟨y2, hh6, hm0⟩
     refine V.region ?_
     refine VO.cons rfl (V1.move rfl rfl rfl lt0 ?_)
     refine VO.cons rfl (V1.call rfl rfl rfl cok_132 rfl (ok_spec_l1Num hh6) rfl lt0 ?_)
     rintro _ _ ⟨rfl, rfl⟩
     refine VO.cons rfl (V1.move rfl rfl rfl lt0 ?_)
     refine VO.cons rfl (V1.str rfl rfl rfl rfl rfl lt0 ?_)
     refine VO.nil ?_
     refine V.keep 58 [5, 56] [] (E0 := [(5, .int .i64 n_1), (56, .bool (!(y2 == s)))]) (H0 := []) rfl (⟨_, _, rfl, rfl, _, _, rfl, rfl, rfl⟩) (rfl) rfl ?_
     refine V.cond rfl (fun hc5 => ?_) (fun hc5 => ?_)
     ·
      replace hm0 := cond_t hc5 hm0
      refine V.seq ?_
      refine V.region ?_
      refine VO.cons rfl (V1.assign rfl rfl rfl lt0 ?_)
      refine VO.cons rfl (V1.assign rfl rfl rfl lt0 ?_)
      refine VO.nil ?_
      refine V.ret ?_
      obtain rfl := Option.some.inj hm0
      exact ⟨_, [], ⟨_, _, rfl, rfl, _, _, rfl, rfl, rfl⟩, List.nil_sublist _, rfl, rfl⟩
     ·
      replace hm0 := cond_f hc5 hm0
      refine V.skip ?_
      refine V.seq ?_
      refine V.region ?_
      refine VO.cons rfl (V1.move rfl rfl rfl lt0 ?_)
      refine VO.cons rfl (V1.assign rfl rfl rfl lt0 ?_)
      refine VO.cons rfl (V1.assign rfl rfl rfl lt0 ?_)
      refine VO.nil ?_
      refine V.ret ?_
      obtain rfl := Option.some.inj hm0
      exact ⟨_, [], ⟨_, _, rfl, rfl, _, _, rfl, rfl, rfl⟩, List.nil_sublist _, rfl, rfl⟩

theorem ok_spec_ParseRecord {rn : Nat} {s : List UInt8} {r : Record × Bool} (h : M.spec_ParseRecord s = some r) : Does Tryd.prog 58 [.str s] [] rn (fun x H => x = .tup [encRecord rn r.1, .bool r.2] ∧ H = []) := by
 have hm0 := h; clear h; unfold M.spec_ParseRecord at hm0
 try dsimp only at hm0
 refine Does.intro (N := 109) Tryd.func58 rfl rfl rfl rfl ?_
 intro w0 S0 L0
 refine V.seq ?_
 refine V.region ?_
 refine VO.cons rfl (V1.alloc rfl rfl zk_39 lt0 ?_)
 intro b0
 refine VO.cons rfl (V1.assign rfl rfl rfl lt0 ?_)
 refine VO.nil ?_
 refine V.seq ?_
 refine V.seq ?_
 refine V.region ?_
 refine VO.cons rfl (V1.move rfl rfl rfl lt0 ?_)
 refine VO.cons rfl (V1.lenStr rfl rfl rfl rfl rfl rfl istr_9 lt0 ?_)
 refine VO.cons rfl (V1.int rfl rfl rfl rfl rfl lt0 ?_)
 refine VO.nil ?_
 refine V.cond rfl (fun hc0 => ?_) (fun hc0 => ?_)
 ·
  replace hm0 := cond_t hc0 hm0
  refine V.seq ?_
  refine V.region ?_
  refine VO.cons rfl (V1.build rfl rfl zk_39 pl_39 rfl rfl lt0 ?_)
  refine VO.cons rfl (V1.storeRefAll (k := 0) rfl rfl tyk_39 rfl rfl rfl rfl rfl rfl ?_)
  refine VO.cons rfl (V1.assign rfl rfl rfl lt0 ?_)
  refine VO.nil ?_
  refine V.weakenK (Keeps.leObj 0 [.agg [.int .i64 (0 : Int), .int .i64 (0 : Int), .int .i64 (0 : Int), .vl rn 2 (List.map encEvent ([] : List Event))]] rfl (.cons (.agg (.cons .same (.cons .same (.cons .same (.cons (.nils (l := ([] : List Event)) (f := encEvent) rn 2 rfl rfl) .nil))))) .nil)) ?_
  refine V.ret ?_
  obtain rfl := Option.some.inj hm0
  exact ⟨_, [], ⟨_, _, rfl, ⟨_, _, 0, _, rfl, rfl, rfl, rfl, tyk_39, rfl⟩, ⟨_, _, rfl, rfl, rfl⟩⟩, List.nil_sublist _, rfl, rfl⟩
 ·
  replace hm0 := cond_f hc0 hm0
  refine V.skip ?_
  refine V.keep 109 [0, 2] [0] (E0 := [(0, .str s), (2, .ref b0 4 0 0)]) (H0 := [(b0, ⟨4, [.agg [.int .i64 (0 : Int), .int .i64 (0 : Int), .int .i64 (0 : Int), .nils]]⟩)]) rfl (⟨_, _, rfl, rfl, _, _, rfl, rfl, rfl⟩) (⟨_, _, rfl, rfl, rfl⟩) rfl ?_
  refine V.seq ?_
  replace hm0 := bindO hm0; rcases hm0 with ⟨y0, hh0, hm0⟩
  refine V.region ?_
  refine VO.cons rfl (V1.move rfl rfl rfl lt0 ?_)
  refine VO.cons rfl (V1.call rfl rfl rfl cok_166 rfl (ok_spec_l1Split hh0) rfl lt0 ?_)
  rintro _ _ ⟨b1, rfl, rfl⟩
  refine VO.weakenK (Keeps.freezeG 0 rn [(16, .vl rn 1 (List.map encStr y0))] ([(b0, ⟨4, [.agg [.int .i64 (0 : Int), .int .i64 (0 : Int), .int .i64 (0 : Int), .nils]]⟩)]) (f := encStr) (l := y0) rfl (fun _ => rfl) ⟨⟨_, rfl, .here⟩, trivial⟩ ⟨_, _, rfl, rfl, .inl rfl, rfl⟩ rfl iNil) ?_
  refine VO.cons rfl (V1.assign rfl rfl rfl lt0 ?_)
  refine VO.nil ?_
  refine V.seq ?_
  replace hm0 := asrt_some hm0; rcases hm0 with ⟨hh1, hm0⟩
  replace hm0 := bindO hm0; rcases hm0 with ⟨y1, hh2, hm0⟩
  refine V.region ?_
  refine VO.cons rfl (V1.move rfl rfl rfl lt0 ?_)
  refine VO.cons rfl (V1.indexI rfl rfl esz_28 rfl rfl hh1 lt0 ?_)
  refine VO.cons rfl (V1.loadPin rfl rfl tyk_9 rfl rfl lt0 ?_)
  refine VO.cons rfl (V1.call rfl rfl rfl cok_166 rfl (ok_spec_l1Split hh2) rfl lt0 ?_)
  rintro _ _ ⟨b2, rfl, rfl⟩
  refine VO.weakenK (Keeps.freezeG 0 rn [(20, .vl rn 1 (List.map encStr y1))] ([(b0, ⟨4, [.agg [.int .i64 (0 : Int), .int .i64 (0 : Int), .int .i64 (0 : Int), .nils]]⟩)]) (f := encStr) (l := y1) rfl (fun _ => rfl) ⟨⟨_, rfl, .here⟩, trivial⟩ ⟨_, _, rfl, rfl, .inl rfl, rfl⟩ rfl iNil) ?_
  refine VO.cons rfl (V1.assign rfl rfl rfl lt0 ?_)
  refine VO.nil ?_
  refine V.keep 109 [0, 2, 4, 5] [0] (E0 := [(0, .str s), (2, .ref b0 4 0 0), (4, .vl rn 1 (List.map encStr y0)), (5, .vl rn 1 (List.map encStr y1))]) (H0 := [(b0, ⟨4, [.agg [.int .i64 (0 : Int), .int .i64 (0 : Int), .int .i64 (0 : Int), .nils]]⟩)]) rfl (⟨_, _, rfl, rfl, _, _, rfl, rfl, _, _, rfl, rfl, _, _, rfl, rfl, rfl⟩) (⟨_, _, rfl, rfl, rfl⟩) rfl ?_
  refine V.seq ?_
  replace hm0 := asrt_some hm0; rcases hm0 with ⟨hh3, hm0⟩
  replace hm0 := bindO hm0; rcases hm0 with ⟨y2, hh4, hm0⟩
  refine V.region ?_
  refine VO.cons rfl (V1.move rfl rfl rfl lt0 ?_)
  refine VO.cons rfl (V1.indexI rfl rfl esz_28 rfl rfl hh3 lt0 ?_)
  refine VO.cons rfl (V1.loadPin rfl rfl tyk_9 rfl rfl lt0 ?_)
  refine VO.cons rfl (V1.call rfl rfl rfl cok_166 rfl (ok_spec_l1Split hh4) rfl lt0 ?_)
  rintro _ _ ⟨b3, rfl, rfl⟩
  refine VO.weakenK (Keeps.freezeG 0 rn [(24, .vl rn 1 (List.map encStr y2))] ([(b0, ⟨4, [.agg [.int .i64 (0 : Int), .int .i64 (0 : Int), .int .i64 (0 : Int), .nils]]⟩)]) (f := encStr) (l := y2) rfl (fun _ => rfl) ⟨⟨_, rfl, .here⟩, trivial⟩ ⟨_, _, rfl, rfl, .inl rfl, rfl⟩ rfl iNil) ?_
  refine VO.cons rfl (V1.assign rfl rfl rfl lt0 ?_)
  refine VO.nil ?_
  refine V.keep 109 [0, 2, 4, 5, 6] [0] (E0 := [(0, .str s), (2, .ref b0 4 0 0), (4, .vl rn 1 (List.map encStr y0)), (5, .vl rn 1 (List.map encStr y1)), (6, .vl rn 1 (List.map encStr y2))]) (H0 := [(b0, ⟨4, [.agg [.int .i64 (0 : Int), .int .i64 (0 : Int), .int .i64 (0 : Int), .nils]]⟩)]) rfl (⟨_, _, rfl, rfl, _, _, rfl, rfl, _, _, rfl, rfl, _, _, rfl, rfl, _, _, rfl, rfl, rfl⟩) (⟨_, _, rfl, rfl, rfl⟩) rfl ?_
  refine V.seq ?_
  refine V.seq ?_
  refine V.region ?_
  refine VO.cons rfl (V1.move rfl rfl rfl lt0 ?_)
  refine VO.cons rfl (V1.lenMap rfl rfl rfl rfl rfl rfl isl_28 lt0 ?_)
  refine VO.cons rfl (V1.int rfl rfl rfl rfl rfl lt0 ?_)
  refine VO.cons rfl (V1.move rfl rfl rfl lt0 ?_)
  apply VO.or (n := 3) rfl rfl rfl rfl rfl rfl lt0 (.none rfl)
  ·
   intro hg0
   refine VO.step (.some rfl rfl rfl) (V1.move rfl rfl rfl lt0 ?_)
   refine VO.step (.some rfl rfl rfl) (V1.lenMap rfl rfl rfl rfl rfl rfl isl_28 lt0 ?_)
   refine VO.step (.some rfl rfl rfl) (V1.int rfl rfl rfl rfl rfl lt0 ?_)
   exact VO.nil ⟨rfl, rfl, rfl, rfl, .inr ⟨rfl, .inr ⟨rfl, .inr ⟨rfl, .inr ⟨rfl, .inl rfl⟩⟩⟩⟩⟩
  refine VO.nil ?_
  refine V.keep 109 [0, 2, 4, 5, 6, 32] [0] (E0 := [(0, .str s), (2, .ref b0 4 0 0), (4, .vl rn 1 (List.map encStr y0)), (5, .vl rn 1 (List.map encStr y1)), (6, .vl rn 1 (List.map encStr y2)), (32, .bool (((y1.length : Int) != (2 : Int)) || ((y2.length : Int) != (2 : Int))))]) (H0 := [(b0, ⟨4, [.agg [.int .i64 (0 : Int), .int .i64 (0 : Int), .int .i64 (0 : Int), .nils]]⟩)]) rfl (⟨_, _, rfl, rfl, _, _, rfl, rfl, _, _, rfl, rfl, _, _, rfl, rfl, _, _, rfl, rfl, _, _, rfl, rfl, rfl⟩) (⟨_, _, rfl, rfl, rfl⟩) rfl ?_
  refine V.cond rfl (fun hc1 => ?_) (fun hc1 => ?_)
  ·
   replace hm0 := cond_t hc1 hm0
   refine V.seq ?_
   refine V.region ?_
   refine VO.cons rfl (V1.build rfl rfl zk_39 pl_39 rfl rfl lt0 ?_)
   refine VO.cons rfl (V1.storeRefAll (k := 0) rfl rfl tyk_39 rfl rfl rfl rfl rfl rfl ?_)
   refine VO.cons rfl (V1.assign rfl rfl rfl lt0 ?_)
   refine VO.nil ?_
   refine V.weakenK (Keeps.leObj 0 [.agg [.int .i64 (0 : Int), .int .i64 (0 : Int), .int .i64 (0 : Int), .vl rn 2 (List.map encEvent ([] : List Event))]] rfl (.cons (.agg (.cons .same (.cons .same (.cons .same (.cons (.nils (l := ([] : List Event)) (f := encEvent) rn 2 rfl rfl) .nil))))) .nil)) ?_
   refine V.ret ?_
   obtain rfl := Option.some.inj hm0
   exact ⟨_, [], ⟨_, _, rfl, ⟨_, _, 0, _, rfl, rfl, rfl, rfl, tyk_39, rfl⟩, ⟨_, _, rfl, rfl, rfl⟩⟩, List.nil_sublist _, rfl, rfl⟩
  ·
   replace hm0 := cond_f hc1 hm0
   refine V.skip ?_
   refine V.seq ?_
   refine V.region ?_
   refine VO.cons rfl (V1.buildSliceT (f := encEvent) ([] : List Event) rfl rfl esz_37 zk_72 rfl rfl rfl rfl rfl rfl rfl lt0 ?_)
   intro b4
   refine VO.cons rfl (V1.build rfl rfl zk_39 pl_39 rfl rfl lt0 ?_)
   refine VO.cons rfl (V1.alloc rfl rfl zk_39 lt0 ?_)
   intro b5
   refine VO.cons rfl (V1.storeRefAll (k := 0) rfl rfl tyk_39 rfl rfl rfl rfl rfl rfl ?_)
   refine VO.nil ?_
   refine V.seq ?_
   replace hm0 := asrt_some hm0; rcases hm0 with ⟨hh5, hm0⟩
   replace hm0 := bindO hm0; rcases hm0 with ⟨y3, hh6, hm0⟩
   refine V.region ?_
   refine VO.cons rfl (V1.move rfl rfl rfl lt0 ?_)
   refine VO.cons rfl (V1.indexI rfl rfl esz_28 rfl rfl hh5 lt0 ?_)
   refine VO.cons rfl (V1.loadPin rfl rfl tyk_9 rfl rfl lt0 ?_)
   refine VO.cons rfl (V1.call rfl rfl rfl cok_150 rfl (ok_spec_l1Read hh6) rfl lt0 ?_)
   rintro _ _ ⟨rfl, rfl⟩
   refine VO.cons rfl (V1.move rfl rfl rfl lt0 ?_)
   refine VO.cons rfl (V1.extract rfl rfl rfl rfl lt0 ?_)
   refine VO.cons rfl (V1.extract rfl rfl rfl rfl lt0 ?_)
   refine VO.cons rfl (V1.fieldRef rfl rfl fo_39_0 rfl lt0 ?_)
   refine VO.cons rfl (V1.storeRef (k := 0) rfl rfl tyk_3 rfl rfl rfl rfl rfl rfl rfl rfl rfl ?_)
   refine VO.nil ?_
   refine V.keep 109 [0, 2, 4, 5, 6, 7] [0, 1, 2] (E0 := [(0, .str s), (2, .ref b0 4 0 0), (4, .vl rn 1 (List.map encStr y0)), (5, .vl rn 1 (List.map encStr y1)), (6, .vl rn 1 (List.map encStr y2)), (7, .ref b5 4 0 0)]) (H0 := [(b5, ⟨4, [.agg [.int .i64 y3.1, .int .i64 (0 : Int), .int .i64 (0 : Int), .sref b4 2 0 (List.length ([] : List Event))]]⟩), (b4, ⟨2, List.map encEvent ([] : List Event)⟩), (b0, ⟨4, [.agg [.int .i64 (0 : Int), .int .i64 (0 : Int), .int .i64 (0 : Int), .nils]]⟩)]) rfl (⟨_, _, rfl, rfl, _, _, rfl, rfl, _, _, rfl, rfl, _, _, rfl, rfl, _, _, rfl, rfl, _, _, rfl, rfl, rfl⟩) (⟨_, _, rfl, rfl, _, _, rfl, rfl, _, _, rfl, rfl, rfl⟩) rfl ?_
   refine V.seq ?_
   replace hm0 := asrt_some hm0; rcases hm0 with ⟨hh7, hm0⟩
   replace hm0 := bindO hm0; rcases hm0 with ⟨y4, hh8, hm0⟩
   refine V.region ?_
   refine VO.cons rfl (V1.move rfl rfl rfl lt0 ?_)
   refine VO.cons rfl (V1.indexI rfl rfl esz_28 rfl rfl hh7 lt0 ?_)
   refine VO.cons rfl (V1.loadPin rfl rfl tyk_9 rfl rfl lt0 ?_)
   refine VO.cons rfl (V1.call rfl rfl rfl cok_150 rfl (ok_spec_l1Read hh8) rfl lt0 ?_)
   rintro _ _ ⟨rfl, rfl⟩
   refine VO.cons rfl (V1.move rfl rfl rfl lt0 ?_)
   refine VO.cons rfl (V1.extract rfl rfl rfl rfl lt0 ?_)
   refine VO.cons rfl (V1.extract rfl rfl rfl rfl lt0 ?_)
   refine VO.cons rfl (V1.fieldRef rfl rfl fo_39_1 rfl lt0 ?_)
   refine VO.cons rfl (V1.storeRef (k := 0) rfl rfl tyk_3 rfl rfl rfl rfl rfl rfl rfl rfl rfl ?_)
   refine VO.nil ?_
   refine V.keep 109 [0, 2, 4, 5, 7] [0, 1, 2] (E0 := [(0, .str s), (2, .ref b0 4 0 0), (4, .vl rn 1 (List.map encStr y0)), (5, .vl rn 1 (List.map encStr y1)), (7, .ref b5 4 0 0)]) (H0 := [(b5, ⟨4, [.agg [.int .i64 y3.1, .int .i64 y4.1, .int .i64 (0 : Int), .sref b4 2 0 (List.length ([] : List Event))]]⟩), (b4, ⟨2, List.map encEvent ([] : List Event)⟩), (b0, ⟨4, [.agg [.int .i64 (0 : Int), .int .i64 (0 : Int), .int .i64 (0 : Int), .nils]]⟩)]) rfl (⟨_, _, rfl, rfl, _, _, rfl, rfl, _, _, rfl, rfl, _, _, rfl, rfl, _, _, rfl, rfl, rfl⟩) (⟨_, _, rfl, rfl, _, _, rfl, rfl, _, _, rfl, rfl, rfl⟩) rfl ?_
   refine V.seq ?_
   replace hm0 := asrt_some hm0; rcases hm0 with ⟨hh9, hm0⟩
   replace hm0 := bindO hm0; rcases hm0 with ⟨y5, hh10, hm0⟩
   refine V.region ?_
   refine VO.cons rfl (V1.move rfl rfl rfl lt0 ?_)
   refine VO.cons rfl (V1.indexI rfl rfl esz_28 rfl rfl hh9 lt0 ?_)
   refine VO.cons rfl (V1.loadPin rfl rfl tyk_9 rfl rfl lt0 ?_)
   refine VO.cons rfl (V1.call rfl rfl rfl cok_150 rfl (ok_spec_l1Read hh10) rfl lt0 ?_)
   rintro _ _ ⟨rfl, rfl⟩
   refine VO.cons rfl (V1.move rfl rfl rfl lt0 ?_)
   refine VO.cons rfl (V1.extract rfl rfl rfl rfl lt0 ?_)
   refine VO.cons rfl (V1.extract rfl rfl rfl rfl lt0 ?_)
   refine VO.cons rfl (V1.fieldRef rfl rfl fo_39_2 rfl lt0 ?_)
   refine VO.cons rfl (V1.storeRef (k := 0) rfl rfl tyk_3 rfl rfl rfl rfl rfl rfl rfl rfl rfl ?_)
   refine VO.nil ?_
   refine V.keep 109 [0, 2, 4, 7] [0, 1, 2] (E0 := [(0, .str s), (2, .ref b0 4 0 0), (4, .vl rn 1 (List.map encStr y0)), (7, .ref b5 4 0 0)]) (H0 := [(b5, ⟨4, [.agg [.int .i64 y3.1, .int .i64 y4.1, .int .i64 y5.1, .sref b4 2 0 (List.length ([] : List Event))]]⟩), (b4, ⟨2, List.map encEvent ([] : List Event)⟩), (b0, ⟨4, [.agg [.int .i64 (0 : Int), .int .i64 (0 : Int), .int .i64 (0 : Int), .nils]]⟩)]) rfl (⟨_, _, rfl, rfl, _, _, rfl, rfl, _, _, rfl, rfl, _, _, rfl, rfl, rfl⟩) (⟨_, _, rfl, rfl, _, _, rfl, rfl, _, _, rfl, rfl, rfl⟩) rfl ?_
   refine V.seq ?_
   refine V.seq ?_
   refine V.region ?_
   refine VO.cons rfl (V1.assign rfl rfl rfl lt0 ?_)
   refine VO.nil ?_
   replace hm0 := bindO hm0; rcases hm0 with ⟨e0, he1, hm0⟩
   refine V.cutT (D := (List Event) × (Nat)) (fun ⟨out_Events, b6⟩ => ⟨109, [(0, .str s), (2, .ref b0 4 0 0), (7, .ref b5 4 0 0)], [(b6, ⟨2, List.map encEvent out_Events⟩), (b5, ⟨4, [.agg [.int .i64 y3.1, .int .i64 y4.1, .int .i64 y5.1, .sref b6 2 0 (List.length out_Events)]]⟩), (b0, ⟨4, [.agg [.int .i64 (0 : Int), .int .i64 (0 : Int), .int .i64 (0 : Int), .nils]]⟩)]⟩) (fun ⟨out_Events, b6⟩ => (.inl out_Events = e0)) ?_ ?_
   ·
    refine V.block ?_
    refine V.keep 109 [8, 0, 2, 4, 7] [1, 0, 2] (E0 := [(8, .int .i64 (1 : Int)), (0, .str s), (2, .ref b0 4 0 0), (4, .vl rn 1 (List.map encStr y0)), (7, .ref b5 4 0 0)]) (H0 := [(b4, ⟨2, List.map encEvent ([] : List Event)⟩), (b5, ⟨4, [.agg [.int .i64 y3.1, .int .i64 y4.1, .int .i64 y5.1, .sref b4 2 0 (List.length ([] : List Event))]]⟩), (b0, ⟨4, [.agg [.int .i64 (0 : Int), .int .i64 (0 : Int), .int .i64 (0 : Int), .nils]]⟩)]) rfl (⟨_, _, rfl, rfl, _, _, rfl, rfl, _, _, rfl, rfl, _, _, rfl, rfl, _, _, rfl, rfl, rfl⟩) (⟨_, _, rfl, rfl, _, _, rfl, rfl, _, _, rfl, rfl, rfl⟩) rfl ?_
    refine V.loopE (D := Nat × (Int × List Event) × (Nat)) (fun ⟨n0, ⟨i, out_Events0⟩, b7⟩ => [(8, .int .i64 i)]) (fun ⟨n0, ⟨i, out_Events0⟩, b7⟩ => [(b7, ⟨2, List.map encEvent out_Events0⟩), (b5, ⟨4, [.agg [.int .i64 y3.1, .int .i64 y4.1, .int .i64 y5.1, .sref b7 2 0 (List.length out_Events0)]]⟩)]) (fun ⟨n0, ⟨i, out_Events0⟩, b7⟩ => loopO (M.spec_ParseRecord_l0 y0) n0 (i, out_Events0) = some e0) (fun ⟨n0, _, _⟩ => n0) (rounds, ((1 : Int), ([] : List Event)), b4) rfl he1 ?_
    rintro ⟨n0, ⟨i, out_Events0⟩, b7⟩ hP0
    obtain ⟨m0, y6, rfl, hm1, hl1, hr1⟩ := loop_head hP0
    unfold M.spec_ParseRecord_l0 at hm1; dsimp only at hm1
    show V _ _ _ ⟨109, [(8, .int .i64 i), (0, .str s), (2, .ref b0 4 0 0), (4, .vl rn 1 (List.map encStr y0)), (7, .ref b5 4 0 0)], [(b7, ⟨2, List.map encEvent out_Events0⟩), (b5, ⟨4, [.agg [.int .i64 y3.1, .int .i64 y4.1, .int .i64 y5.1, .sref b7 2 0 (List.length out_Events0)]]⟩), (b0, ⟨4, [.agg [.int .i64 (0 : Int), .int .i64 (0 : Int), .int .i64 (0 : Int), .nils]]⟩)]⟩
    refine V.seq ?_
    refine V.seq ?_
    refine V.region ?_
    refine VO.cons rfl (V1.move rfl rfl rfl lt0 ?_)
    refine VO.cons rfl (V1.move rfl rfl rfl lt0 ?_)
    refine VO.cons rfl (V1.lenMap rfl rfl rfl rfl rfl rfl isl_28 lt0 ?_)
    refine VO.cons rfl (V1.int rfl rfl rfl rfl rfl lt0 ?_)
    refine VO.nil ?_
    refine V.cond rfl (fun hc2 => ?_) (fun hc2 => ?_)
    ·
     replace hm1 := cond_t hc2 hm1
     refine V.skip ?_
     refine V.keep 109 [0, 2, 4, 7, 8] [0, 1, 2] (E0 := [(0, .str s), (2, .ref b0 4 0 0), (4, .vl rn 1 (List.map encStr y0)), (7, .ref b5 4 0 0), (8, .int .i64 i)]) (H0 := [(b7, ⟨2, List.map encEvent out_Events0⟩), (b5, ⟨4, [.agg [.int .i64 y3.1, .int .i64 y4.1, .int .i64 y5.1, .sref b7 2 0 (List.length out_Events0)]]⟩), (b0, ⟨4, [.agg [.int .i64 (0 : Int), .int .i64 (0 : Int), .int .i64 (0 : Int), .nils]]⟩)]) rfl (⟨_, _, rfl, rfl, _, _, rfl, rfl, _, _, rfl, rfl, _, _, rfl, rfl, _, _, rfl, rfl, rfl⟩) (⟨_, _, rfl, rfl, _, _, rfl, rfl, _, _, rfl, rfl, rfl⟩) rfl ?_
     refine V.seq ?_
     refine V.block ?_
     refine V.seq ?_
     replace hm1 := asrt_some hm1; rcases hm1 with ⟨hh11, hm1⟩
     replace hm1 := bindO hm1; rcases hm1 with ⟨y7, hh12, hm1⟩
     refine V.region ?_
     refine VO.cons rfl (V1.move rfl rfl rfl lt0 ?_)
     refine VO.cons rfl (V1.move rfl rfl rfl lt0 ?_)
     refine VO.cons rfl (V1.indexI rfl rfl esz_28 rfl rfl hh11 lt0 ?_)
     refine VO.cons rfl (V1.loadPin rfl rfl tyk_9 rfl rfl lt0 ?_)
     refine VO.cons rfl (V1.call rfl rfl rfl cok_166 rfl (ok_spec_l1Split hh12) rfl lt0 ?_)
     rintro _ _ ⟨b8, rfl, rfl⟩
     refine VO.weakenK (Keeps.freezeG 0 rn [(70, .vl rn 1 (List.map encStr y7))] ([(b7, ⟨2, List.map encEvent out_Events0⟩), (b5, ⟨4, [.agg [.int .i64 y3.1, .int .i64 y4.1, .int .i64 y5.1, .sref b7 2 0 (List.length out_Events0)]]⟩), (b0, ⟨4, [.agg [.int .i64 (0 : Int), .int .i64 (0 : Int), .int .i64 (0 : Int), .nils]]⟩)]) (f := encStr) (l := y7) rfl (fun _ => rfl) ⟨⟨_, rfl, .here⟩, trivial⟩ ⟨_, _, rfl, rfl, .inl rfl, ⟨_, _, rfl, rfl, .inl rfl, ⟨_, _, rfl, rfl, .inl rfl, rfl⟩⟩⟩ rfl iNil) ?_
     refine VO.cons rfl (V1.assign rfl rfl rfl lt0 ?_)
     refine VO.nil ?_
     refine V.keep 109 [0, 2, 4, 7, 8, 9] [0, 1, 2] (E0 := [(0, .str s), (2, .ref b0 4 0 0), (4, .vl rn 1 (List.map encStr y0)), (7, .ref b5 4 0 0), (8, .int .i64 i), (9, .vl rn 1 (List.map encStr y7))]) (H0 := [(b7, ⟨2, List.map encEvent out_Events0⟩), (b5, ⟨4, [.agg [.int .i64 y3.1, .int .i64 y4.1, .int .i64 y5.1, .sref b7 2 0 (List.length out_Events0)]]⟩), (b0, ⟨4, [.agg [.int .i64 (0 : Int), .int .i64 (0 : Int), .int .i64 (0 : Int), .nils]]⟩)]) rfl (⟨_, _, rfl, rfl, _, _, rfl, rfl, _, _, rfl, rfl, _, _, rfl, rfl, _, _, rfl, rfl, _, _, rfl, rfl, rfl⟩) (⟨_, _, rfl, rfl, _, _, rfl, rfl, _, _, rfl, rfl, rfl⟩) rfl ?_
     refine V.seq ?_
     refine V.seq ?_
     refine V.region ?_
     refine VO.cons rfl (V1.move rfl rfl rfl lt0 ?_)
     refine VO.cons rfl (V1.lenMap rfl rfl rfl rfl rfl rfl isl_28 lt0 ?_)
     refine VO.cons rfl (V1.int rfl rfl rfl rfl rfl lt0 ?_)
     refine VO.nil ?_
     refine V.cond rfl (fun hc3 => ?_) (fun hc3 => ?_)
     ·
      replace hm1 := cond_t hc3 hm1
      refine V.seq ?_
      refine V.region ?_
      refine VO.cons rfl (V1.build rfl rfl zk_39 pl_39 rfl rfl lt0 ?_)
      refine VO.cons rfl (V1.storeRefAll (k := 2) rfl rfl tyk_39 rfl rfl rfl rfl rfl rfl ?_)
      refine VO.cons rfl (V1.assign rfl rfl rfl lt0 ?_)
      refine VO.nil ?_
      refine V.weakenK (Keeps.leObj 2 [.agg [.int .i64 (0 : Int), .int .i64 (0 : Int), .int .i64 (0 : Int), .vl rn 2 (List.map encEvent ([] : List Event))]] rfl (.cons (.agg (.cons .same (.cons .same (.cons .same (.cons (.nils (l := ([] : List Event)) (f := encEvent) rn 2 rfl rfl) .nil))))) .nil)) ?_
      refine V.ret ?_
      obtain rfl := hr1 _ (Option.some.inj hm1).symm
      change some _ = some _ at hm0
      obtain rfl := Option.some.inj hm0
      exact ⟨_, [], ⟨_, _, rfl, ⟨_, _, 2, _, rfl, rfl, rfl, rfl, tyk_39, rfl⟩, ⟨_, _, rfl, rfl, rfl⟩⟩, List.nil_sublist _, rfl, rfl⟩
     ·
      replace hm1 := cond_f hc3 hm1
      refine V.skip ?_
      refine V.seq ?_
      refine V.region ?_
      refine VO.cons rfl (V1.build rfl rfl zk_72 pl_72 rfl rfl lt0 ?_)
      refine VO.cons rfl (V1.alloc rfl rfl zk_72 lt0 ?_)
      intro b9
      refine VO.cons rfl (V1.storeRefAll (k := 0) rfl rfl tyk_72 rfl rfl rfl rfl rfl rfl ?_)
      refine VO.nil ?_
      refine V.keep 109 [0, 2, 4, 7, 8, 9, 10] [0, 1, 2, 3] (E0 := [(0, .str s), (2, .ref b0 4 0 0), (4, .vl rn 1 (List.map encStr y0)), (7, .ref b5 4 0 0), (8, .int .i64 i), (9, .vl rn 1 (List.map encStr y7)), (10, .ref b9 2 0 0)]) (H0 := [(b9, ⟨2, [.agg [.int .i64 (0 : Int), .int .i64 (0 : Int)]]⟩), (b7, ⟨2, List.map encEvent out_Events0⟩), (b5, ⟨4, [.agg [.int .i64 y3.1, .int .i64 y4.1, .int .i64 y5.1, .sref b7 2 0 (List.length out_Events0)]]⟩), (b0, ⟨4, [.agg [.int .i64 (0 : Int), .int .i64 (0 : Int), .int .i64 (0 : Int), .nils]]⟩)]) rfl (⟨_, _, rfl, rfl, _, _, rfl, rfl, _, _, rfl, rfl, _, _, rfl, rfl, _, _, rfl, rfl, _, _, rfl, rfl, _, _, rfl, rfl, rfl⟩) (⟨_, _, rfl, rfl, _, _, rfl, rfl, _, _, rfl, rfl, _, _, rfl, rfl, rfl⟩) rfl ?_
      refine V.seq ?_
      replace hm1 := asrt_some hm1; rcases hm1 with ⟨hh13, hm1⟩
      replace hm1 := bindO hm1; rcases hm1 with ⟨y8, hh14, hm1⟩
      refine V.region ?_
      refine VO.cons rfl (V1.move rfl rfl rfl lt0 ?_)
      refine VO.cons rfl (V1.indexI rfl rfl esz_28 rfl rfl hh13 lt0 ?_)
      refine VO.cons rfl (V1.loadPin rfl rfl tyk_9 rfl rfl lt0 ?_)
      refine VO.cons rfl (V1.call rfl rfl rfl cok_150 rfl (ok_spec_l1Read hh14) rfl lt0 ?_)
      rintro _ _ ⟨rfl, rfl⟩
      refine VO.cons rfl (V1.move rfl rfl rfl lt0 ?_)
      refine VO.cons rfl (V1.extract rfl rfl rfl rfl lt0 ?_)
      refine VO.cons rfl (V1.extract rfl rfl rfl rfl lt0 ?_)
      refine VO.cons rfl (V1.fieldRef rfl rfl fo_72_0 rfl lt0 ?_)
      refine VO.cons rfl (V1.storeRef (k := 0) rfl rfl tyk_3 rfl rfl rfl rfl rfl rfl rfl rfl rfl ?_)
      refine VO.nil ?_
      refine V.keep 109 [0, 2, 4, 7, 8, 9, 10] [0, 1, 2, 3] (E0 := [(0, .str s), (2, .ref b0 4 0 0), (4, .vl rn 1 (List.map encStr y0)), (7, .ref b5 4 0 0), (8, .int .i64 i), (9, .vl rn 1 (List.map encStr y7)), (10, .ref b9 2 0 0)]) (H0 := [(b9, ⟨2, [.agg [.int .i64 y8.1, .int .i64 (0 : Int)]]⟩), (b7, ⟨2, List.map encEvent out_Events0⟩), (b5, ⟨4, [.agg [.int .i64 y3.1, .int .i64 y4.1, .int .i64 y5.1, .sref b7 2 0 (List.length out_Events0)]]⟩), (b0, ⟨4, [.agg [.int .i64 (0 : Int), .int .i64 (0 : Int), .int .i64 (0 : Int), .nils]]⟩)]) rfl (⟨_, _, rfl, rfl, _, _, rfl, rfl, _, _, rfl, rfl, _, _, rfl, rfl, _, _, rfl, rfl, _, _, rfl, rfl, _, _, rfl, rfl, rfl⟩) (⟨_, _, rfl, rfl, _, _, rfl, rfl, _, _, rfl, rfl, _, _, rfl, rfl, rfl⟩) rfl ?_
      refine V.seq ?_
      replace hm1 := asrt_some hm1; rcases hm1 with ⟨hh15, hm1⟩
      replace hm1 := bindO hm1; rcases hm1 with ⟨y9, hh16, hm1⟩
      refine V.region ?_
      refine VO.cons rfl (V1.move rfl rfl rfl lt0 ?_)
      refine VO.cons rfl (V1.indexI rfl rfl esz_28 rfl rfl hh15 lt0 ?_)
      refine VO.cons rfl (V1.loadPin rfl rfl tyk_9 rfl rfl lt0 ?_)
      refine VO.cons rfl (V1.call rfl rfl rfl cok_150 rfl (ok_spec_l1Read hh16) rfl lt0 ?_)
      rintro _ _ ⟨rfl, rfl⟩
      refine VO.cons rfl (V1.move rfl rfl rfl lt0 ?_)
      refine VO.cons rfl (V1.extract rfl rfl rfl rfl lt0 ?_)
      refine VO.cons rfl (V1.extract rfl rfl rfl rfl lt0 ?_)
      refine VO.cons rfl (V1.fieldRef rfl rfl fo_72_1 rfl lt0 ?_)
      refine VO.cons rfl (V1.storeRef (k := 0) rfl rfl tyk_3 rfl rfl rfl rfl rfl rfl rfl rfl rfl ?_)
      refine VO.nil ?_
      refine V.keep 109 [0, 2, 4, 7, 8, 10] [0, 1, 2, 3] (E0 := [(0, .str s), (2, .ref b0 4 0 0), (4, .vl rn 1 (List.map encStr y0)), (7, .ref b5 4 0 0), (8, .int .i64 i), (10, .ref b9 2 0 0)]) (H0 := [(b9, ⟨2, [.agg [.int .i64 y8.1, .int .i64 y9.1]]⟩), (b7, ⟨2, List.map encEvent out_Events0⟩), (b5, ⟨4, [.agg [.int .i64 y3.1, .int .i64 y4.1, .int .i64 y5.1, .sref b7 2 0 (List.length out_Events0)]]⟩), (b0, ⟨4, [.agg [.int .i64 (0 : Int), .int .i64 (0 : Int), .int .i64 (0 : Int), .nils]]⟩)]) rfl (⟨_, _, rfl, rfl, _, _, rfl, rfl, _, _, rfl, rfl, _, _, rfl, rfl, _, _, rfl, rfl, _, _, rfl, rfl, rfl⟩) (⟨_, _, rfl, rfl, _, _, rfl, rfl, _, _, rfl, rfl, _, _, rfl, rfl, rfl⟩) rfl ?_
      replace hm1 := asrt_some hm1; rcases hm1 with ⟨hh17, hm1⟩
      refine V.region ?_
      refine VO.cons rfl (V1.fieldRef rfl rfl fo_39_3 rfl lt0 ?_)
      refine VO.cons rfl (V1.loadRef (k := 2) rfl rfl tyk_37 rfl rfl rfl rfl rfl lt0 ?_)
      refine VO.cons rfl (V1.loadRefAll (k := 0) rfl rfl tyk_72 rfl rfl rfl rfl rfl lt0 ?_)
      refine VO.cons rfl (V1.buildSliceT (f := encEvent) ([(⟨y8.1, y9.1⟩ : Event)] : List Event) rfl rfl esz_37 zk_72 rfl rfl rfl rfl rfl rfl rfl lt0 ?_)
      intro b10
      refine VO.cons rfl (V1.appendMap (k := 2) (f := encEvent) (l := out_Events0) (m := ([(⟨y8.1, y9.1⟩ : Event)] : List Event)) rfl rfl rfl rfl rfl esz_37 eby_37 zk_72 rfl rfl rfl (SrcOf.srMap (k := 0) rfl isl_37) hh17 lt0 ?_)
      intro b11
      refine VO.cons rfl (V1.fieldRef rfl rfl fo_39_3 rfl lt0 ?_)
      refine VO.cons rfl (V1.storeRef (k := 3) rfl rfl tyk_37 rfl rfl rfl rfl rfl rfl rfl rfl rfl ?_)
      refine VO.nil ?_
      refine V.keep 109 [0, 2, 4, 7, 8] [0, 3, 4] (E0 := [(0, .str s), (2, .ref b0 4 0 0), (4, .vl rn 1 (List.map encStr y0)), (7, .ref b5 4 0 0), (8, .int .i64 i)]) (H0 := [(b11, ⟨2, List.map encEvent (out_Events0 ++ ([(⟨y8.1, y9.1⟩ : Event)] : List Event))⟩), (b5, ⟨4, [.agg [.int .i64 y3.1, .int .i64 y4.1, .int .i64 y5.1, .sref b11 2 0 (List.length (out_Events0 ++ ([(⟨y8.1, y9.1⟩ : Event)] : List Event)))]]⟩), (b0, ⟨4, [.agg [.int .i64 (0 : Int), .int .i64 (0 : Int), .int .i64 (0 : Int), .nils]]⟩)]) rfl (⟨_, _, rfl, rfl, _, _, rfl, rfl, _, _, rfl, rfl, _, _, rfl, rfl, _, _, rfl, rfl, rfl⟩) (⟨_, _, rfl, rfl, _, _, rfl, rfl, _, _, rfl, rfl, rfl⟩) rfl ?_
      refine V.region ?_
      refine VO.cons rfl (V1.move rfl rfl rfl lt0 ?_)
      refine VO.cons rfl (V1.int rfl rfl rfl rfl rfl lt0 ?_)
      refine VO.cons rfl (V1.assign rfl rfl rfl lt0 ?_)
      refine VO.nil ?_
      exact ⟨(m0, ((IntKind.i64.wrap (i + (1 : Int))), (out_Events0 ++ ([(⟨y8.1, y9.1⟩ : Event)] : List Event))), b11), hl1 _ (Option.some.inj hm1).symm, Nat.lt_succ_self _, Keeps.mk (ks := [0, 1, 2]) rfl ⟨rfl, rfl, rfl, rfl, rfl, trivial⟩ (⟨_, _, rfl, rfl, _, _, rfl, rfl, _, _, rfl, rfl, rfl⟩) rfl⟩
    ·
     replace hm1 := cond_f hc2 hm1
     refine V.exit ?_
     obtain rfl := hr1 _ (Option.some.inj hm1).symm
     exact ⟨(out_Events0, b7), rfl, Keeps.mk (ks := [0, 1, 2]) rfl ⟨rfl, rfl, rfl, trivial⟩ (⟨_, _, rfl, rfl, _, _, rfl, rfl, _, _, rfl, rfl, rfl⟩) rfl⟩
   ·
    rintro ⟨out_Events, b6⟩ rfl
    try dsimp only at hm0
    refine V.seq ?_
    refine V.seq ?_
    replace hm0 := bindO hm0; rcases hm0 with ⟨y10, hh18, hm0⟩
    replace hm0 := bindO hm0; rcases hm0 with ⟨y11, hh19, hm0⟩
    refine V.region ?_
    refine VO.cons rfl (V1.loadRefAll (k := 1) rfl rfl tyk_39 rfl rfl rfl rfl rfl lt0 ?_)
    refine VO.weakenK (Keeps.freezeG 0 rn [(98, .agg [.int .i64 y3.1, .int .i64 y4.1, .int .i64 y5.1, .vl rn 2 (List.map encEvent out_Events)])] ([(b5, ⟨4, [.agg [.int .i64 y3.1, .int .i64 y4.1, .int .i64 y5.1, .vl rn 2 (List.map encEvent out_Events)]]⟩), (b0, ⟨4, [.agg [.int .i64 (0 : Int), .int .i64 (0 : Int), .int .i64 (0 : Int), .nils]]⟩)]) (f := encEvent) (l := out_Events) rfl (fun _ => rfl) ⟨⟨_, rfl, (.agg (.cons .same (.cons .same (.cons .same (.cons .here .nil)))))⟩, trivial⟩ ⟨_, _, rfl, rfl, .inr (.cons (.agg (.cons .same (.cons .same (.cons .same (.cons .here .nil))))) .nil), ⟨_, _, rfl, rfl, .inl rfl, rfl⟩⟩ rfl iNil) ?_
    refine VO.cons rfl (V1.call rfl rfl rfl cok_130 rfl (ok_spec_l2Record hh18) rfl lt0 ?_)
    rintro _ _ ⟨rfl, rfl⟩
    refine VO.cons rfl (V1.not rfl rfl rfl lt0 ?_)
    refine VO.cons rfl (V1.move rfl rfl rfl lt0 ?_)
    apply VO.or (n := 4) rfl rfl rfl rfl rfl rfl lt0 (.none rfl)
    ·
     intro hg1
     refine VO.step (.some rfl rfl rfl) (V1.loadRefAll (k := 0) rfl rfl tyk_39 rfl rfl rfl rfl rfl lt0 ?_)
     refine VO.step (.some rfl rfl rfl) (V1.call rfl rfl rfl cok_161 rfl (ok_spec_l2Text (cond_f hg1 hh19)) rfl lt0 ?_)
     rintro _ _ ⟨rfl, rfl⟩
     refine VO.step (.some rfl rfl rfl) (V1.move rfl rfl rfl lt0 ?_)
     refine VO.step (.some rfl rfl rfl) (V1.str rfl rfl rfl rfl rfl lt0 ?_)
     exact VO.nil ⟨rfl, rfl, rfl, rfl, .inr ⟨rfl, .inr ⟨rfl, .inr ⟨rfl, .inr ⟨rfl, .inr ⟨rfl, .inl rfl⟩⟩⟩⟩⟩⟩
    refine VO.nil ?_
    refine V.keep 109 [2, 7, 106] [0, 1] (E0 := [(2, .ref b0 4 0 0), (7, .ref b5 4 0 0), (106, .bool ((!y10) || (!(y11 == s))))]) (H0 := [(b5, ⟨4, [.agg [.int .i64 y3.1, .int .i64 y4.1, .int .i64 y5.1, .vl rn 2 (List.map encEvent out_Events)]]⟩), (b0, ⟨4, [.agg [.int .i64 (0 : Int), .int .i64 (0 : Int), .int .i64 (0 : Int), .nils]]⟩)]) rfl (⟨_, _, rfl, rfl, _, _, rfl, rfl, _, _, rfl, rfl, rfl⟩) (⟨_, _, rfl, rfl, _, _, rfl, rfl, rfl⟩) rfl ?_
    refine V.cond rfl (fun hc4 => ?_) (fun hc4 => ?_)
    ·
     replace hm0 := cond_t hc4 hm0
     refine V.seq ?_
     refine V.region ?_
     refine VO.cons rfl (V1.build rfl rfl zk_39 pl_39 rfl rfl lt0 ?_)
     refine VO.cons rfl (V1.storeRefAll (k := 1) rfl rfl tyk_39 rfl rfl rfl rfl rfl rfl ?_)
     refine VO.cons rfl (V1.assign rfl rfl rfl lt0 ?_)
     refine VO.nil ?_
     refine V.weakenK (Keeps.leObj 1 [.agg [.int .i64 (0 : Int), .int .i64 (0 : Int), .int .i64 (0 : Int), .vl rn 2 (List.map encEvent ([] : List Event))]] rfl (.cons (.agg (.cons .same (.cons .same (.cons .same (.cons (.nils (l := ([] : List Event)) (f := encEvent) rn 2 rfl rfl) .nil))))) .nil)) ?_
     refine V.ret ?_
     obtain rfl := Option.some.inj hm0
     exact ⟨_, [], ⟨_, _, rfl, ⟨_, _, 1, _, rfl, rfl, rfl, rfl, tyk_39, rfl⟩, ⟨_, _, rfl, rfl, rfl⟩⟩, List.nil_sublist _, rfl, rfl⟩
    ·
     replace hm0 := cond_f hc4 hm0
     refine V.skip ?_
     refine V.seq ?_
     refine V.region ?_
     refine VO.cons rfl (V1.loadRefAll (k := 0) rfl rfl tyk_39 rfl rfl rfl rfl rfl lt0 ?_)
     refine VO.cons rfl (V1.storeRefAll (k := 1) rfl rfl tyk_39 rfl rfl rfl rfl rfl rfl ?_)
     refine VO.cons rfl (V1.assign rfl rfl rfl lt0 ?_)
     refine VO.nil ?_
     refine V.ret ?_
     obtain rfl := Option.some.inj hm0
     exact ⟨_, [], ⟨_, _, rfl, ⟨_, _, 1, _, rfl, rfl, rfl, rfl, tyk_39, rfl⟩, ⟨_, _, rfl, rfl, rfl⟩⟩, List.nil_sublist _, rfl, rfl⟩

theorem ok_spec_DrawLastDay {ρ0 rn : Nat} {code : List Int} {r : Record} (h : M.spec_DrawLastDay code = some r) : Does Tryd.prog 59 [.vl ρ0 1 (List.map encU8 code)] [] rn (fun x H => x = encRecord rn r ∧ H = []) := by
 have hm0 := h; clear h; unfold M.spec_DrawLastDay at hm0
 try dsimp only at hm0
 refine Does.intro (N := 5) Tryd.func59 rfl rfl rfl rfl ?_
 intro w0 S0 L0
 refine V.seq ?_
 refine V.region ?_
 refine VO.cons rfl (V1.alloc rfl rfl zk_39 lt0 ?_)
 intro b0
 refine VO.nil ?_
 refine V.seq ?_
 replace hm0 := bindO hm0; rcases hm0 with ⟨y0, hh0, hm0⟩
 refine V.region ?_
 refine VO.cons rfl (V1.move rfl rfl rfl lt0 ?_)
 refine VO.cons rfl (V1.call rfl rfl rfl cok_157 rfl (ok_spec_DrawIsRecord hh0) rfl lt0 ?_)
 rintro _ _ ⟨rfl, rfl⟩
 refine VO.cons rfl (V1.storeRefAll (k := 0) rfl rfl tyk_39 rfl rfl rfl rfl rfl rfl ?_)
 refine VO.nil ?_
 refine V.ret ?_
 obtain rfl := Option.some.inj hm0
 exact ⟨_, [], ⟨_, _, rfl, ⟨_, _, 0, _, rfl, rfl, rfl, rfl, tyk_39, rfl⟩, rfl⟩, List.nil_sublist _, rfl, rfl⟩

theorem ok_impl_LastDay {ρ0 rn : Nat} {r_ : Record} {r : Int × Bool} (h : M.impl_LastDay r_ = some r) : Does Tryd.prog 60 [encRecord ρ0 r_] [] rn (fun x H => x = .tup [.int .i64 r.1, .bool r.2] ∧ H = []) := by
 have hm0 := h; clear h; unfold M.impl_LastDay at hm0
 try dsimp only at hm0
 refine Does.intro (N := 25) Tryd.func60 rfl rfl rfl rfl ?_
 intro w0 S0 L0
 refine V.seq ?_
 refine V.region ?_
 refine VO.cons rfl (V1.boxN (n := 4) rfl rfl rfl rfl rfl lt0 ?_)
 intro b0
 refine VO.cons rfl (V1.assign rfl rfl rfl lt0 ?_)
 refine VO.cons rfl (V1.assign rfl rfl rfl lt0 ?_)
 refine VO.nil ?_
 refine V.seq ?_
 refine V.seq ?_
 replace hm0 := bindO hm0; rcases hm0 with ⟨y0, hh0, hm0⟩
 refine V.region ?_
 refine VO.cons rfl (V1.loadRefAll (k := 0) rfl rfl tyk_39 rfl rfl rfl rfl rfl lt0 ?_)
 refine VO.cons rfl (V1.call rfl rfl rfl cok_55 rfl (ok_impl_IsRecord hh0) rfl lt0 ?_)
 rintro _ _ ⟨rfl, rfl⟩
 refine VO.cons rfl (V1.not rfl rfl rfl lt0 ?_)
 refine VO.nil ?_
 refine V.keep 25 [1, 9] [0] (E0 := [(1, .ref b0 4 0 0), (9, .bool (!y0))]) (H0 := [(b0, ⟨4, [encRecord ρ0 r_]⟩)]) rfl (⟨_, _, rfl, rfl, _, _, rfl, rfl, rfl⟩) (⟨_, _, rfl, rfl, rfl⟩) rfl ?_
 refine V.cond rfl (fun hc0 => ?_) (fun hc0 => ?_)
 ·
  replace hm0 := cond_t hc0 hm0
  refine V.seq ?_
  refine V.region ?_
  refine VO.cons rfl (V1.assign rfl rfl rfl lt0 ?_)
  refine VO.cons rfl (V1.assign rfl rfl rfl lt0 ?_)
  refine VO.nil ?_
  refine V.ret ?_
  obtain rfl := Option.some.inj hm0
  exact ⟨_, [], ⟨_, _, rfl, rfl, _, _, rfl, rfl, rfl⟩, List.nil_sublist _, rfl, rfl⟩
 ·
  replace hm0 := cond_f hc0 hm0
  refine V.skip ?_
  refine V.seq ?_
  refine V.region ?_
  refine VO.cons rfl (V1.fieldRef rfl rfl fo_39_2 rfl lt0 ?_)
  refine VO.cons rfl (V1.loadRef (k := 0) rfl rfl tyk_3 rfl rfl rfl rfl rfl lt0 ?_)
  refine VO.cons rfl (V1.assign rfl rfl rfl lt0 ?_)
  refine VO.nil ?_
  refine V.seq ?_
  refine V.seq ?_
  refine V.region ?_
  refine VO.cons rfl (V1.fieldRef rfl rfl fo_39_3 rfl lt0 ?_)
  refine VO.cons rfl (V1.loadRef (k := 0) rfl rfl tyk_37 rfl rfl rfl rfl rfl lt0 ?_)
  refine VO.cons rfl (V1.lenMap rfl rfl rfl rfl rfl rfl isl_37 lt0 ?_)
  refine VO.cons rfl (V1.move rfl rfl rfl lt0 ?_)
  refine VO.nil ?_
  refine V.keep 25 [4, 13, 14, 15] [] (E0 := [(4, .int .i64 r_.Made), (13, .vl ρ0 2 (List.map encEvent r_.Events)), (14, .int .i64 (r_.Events.length : Int)), (15, .int .i64 (0 : Int))]) (H0 := []) rfl (⟨_, _, rfl, rfl, _, _, rfl, rfl, _, _, rfl, rfl, _, _, rfl, rfl, rfl⟩) (rfl) rfl ?_
  replace hm0 := bindO hm0; rcases hm0 with ⟨e0, he1, hm0⟩
  refine V.cutT (D := (Int) × (Unit)) (fun ⟨last, _⟩ => ⟨25, [(4, .int .i64 last)], []⟩) (fun ⟨last, _⟩ => (last = e0)) ?_ ?_
  ·
   refine V.block ?_
   refine V.keep 25 [4, 15, 13, 14] [] (E0 := [(4, .int .i64 r_.Made), (15, .int .i64 (0 : Int)), (13, .vl ρ0 2 (List.map encEvent r_.Events)), (14, .int .i64 (r_.Events.length : Int))]) (H0 := []) rfl (⟨_, _, rfl, rfl, _, _, rfl, rfl, _, _, rfl, rfl, _, _, rfl, rfl, rfl⟩) (rfl) rfl ?_
   refine V.loopE (D := Nat × (Int × Int) × (Unit)) (fun ⟨n0, ⟨last0, v⟩, _⟩ => [(4, .int .i64 last0), (15, .int .i64 v)]) (fun ⟨n0, ⟨last0, v⟩, _⟩ => []) (fun ⟨n0, ⟨last0, v⟩, _⟩ => loopO (M.impl_LastDay_l0 r_) n0 (last0, v) = some e0) (fun ⟨n0, _, _⟩ => n0) (rounds, (r_.Made, (0 : Int)), ()) rfl he1 ?_
   rintro ⟨n0, ⟨last0, v⟩, _⟩ hP0
   obtain ⟨m0, y1, rfl, hm1, hl1, hr1⟩ := loop_head hP0
   unfold M.impl_LastDay_l0 at hm1; dsimp only at hm1
   show V _ _ _ ⟨25, [(4, .int .i64 last0), (15, .int .i64 v), (13, .vl ρ0 2 (List.map encEvent r_.Events)), (14, .int .i64 (r_.Events.length : Int))], []⟩
   refine V.seq ?_
   refine V.region ?_
   refine VO.cons rfl (V1.int rfl rfl rfl rfl rfl lt0 ?_)
   refine VO.nil ?_
   refine V.seq ?_
   refine V.cond rfl (fun hc1 => ?_) (fun hc1 => ?_)
   ·
    replace hm1 := cond_t hc1 hm1
    refine V.skip ?_
    refine V.seq ?_
    refine V.block ?_
    refine V.seq ?_
    replace hm1 := asrt_some hm1; rcases hm1 with ⟨hh1, hm1⟩
    refine V.region ?_
    refine VO.cons rfl (V1.indexI rfl rfl esz_37 rfl rfl hh1 lt0 ?_)
    refine VO.cons rfl (V1.loadPinAll rfl rfl tyk_72 rfl rfl lt0 ?_)
    refine VO.cons rfl (V1.alloc rfl rfl zk_72 lt0 ?_)
    intro b1
    refine VO.cons rfl (V1.storeRefAll (k := 0) rfl rfl tyk_72 rfl rfl rfl rfl rfl rfl ?_)
    refine VO.nil ?_
    refine V.region ?_
    refine VO.cons rfl (V1.move rfl rfl rfl lt0 ?_)
    refine VO.cons rfl (V1.fieldRef rfl rfl fo_72_1 rfl lt0 ?_)
    refine VO.cons rfl (V1.loadRef (k := 0) rfl rfl tyk_3 rfl rfl rfl rfl rfl lt0 ?_)
    refine VO.cons rfl (V1.maxI rfl rfl rfl rfl rfl rfl lt0 ?_)
    refine VO.cons rfl (V1.assign rfl rfl rfl lt0 ?_)
    refine VO.nil ?_
    refine V.keep 25 [4, 13, 14, 15] [] (E0 := [(4, .int .i64 (bif decide (last0 < ((r_.Events.getD (Int.toNat v) default).Day)) then ((r_.Events.getD (Int.toNat v) default).Day) else last0)), (13, .vl ρ0 2 (List.map encEvent r_.Events)), (14, .int .i64 (r_.Events.length : Int)), (15, .int .i64 v)]) (H0 := []) rfl (⟨_, _, rfl, rfl, _, _, rfl, rfl, _, _, rfl, rfl, _, _, rfl, rfl, rfl⟩) (rfl) rfl ?_
    refine V.region ?_
    refine VO.cons rfl (V1.int rfl rfl rfl rfl rfl lt0 ?_)
    refine VO.cons rfl (V1.move rfl rfl rfl lt0 ?_)
    refine VO.nil ?_
    exact ⟨(m0, ((bif decide (last0 < ((r_.Events.getD (Int.toNat v) default).Day)) then ((r_.Events.getD (Int.toNat v) default).Day) else last0), (IntKind.i64.wrap (v + (1 : Int)))), ()), hl1 _ (Option.some.inj hm1).symm, Nat.lt_succ_self _, Keeps.mk (ks := []) rfl ⟨rfl, rfl, rfl, rfl, trivial⟩ (rfl) rfl⟩
   ·
    replace hm1 := cond_f hc1 hm1
    refine V.exit ?_
    obtain rfl := hr1 _ (Option.some.inj hm1).symm
    exact ⟨(last0, ()), rfl, Keeps.mk (ks := []) rfl ⟨rfl, trivial⟩ (rfl) rfl⟩
  ·
   rintro ⟨last, _⟩ rfl
   try dsimp only at hm0
   refine V.seq ?_
   refine V.region ?_
   refine VO.cons rfl (V1.move rfl rfl rfl lt0 ?_)
   refine VO.cons rfl (V1.assign rfl rfl rfl lt0 ?_)
   refine VO.cons rfl (V1.assign rfl rfl rfl lt0 ?_)
   refine VO.nil ?_
   refine V.ret ?_
   obtain rfl := Option.some.inj hm0
   exact ⟨_, [], ⟨_, _, rfl, rfl, _, _, rfl, rfl, rfl⟩, List.nil_sublist _, rfl, rfl⟩

theorem ok_spec_l1Most {rn : Nat} {a : Int} {b_ : Int} {r : Int} (h : M.spec_l1Most a b_ = some r) : Does Tryd.prog 167 [.int .i64 a, .int .i64 b_] [] rn (fun x H => x = .int .i64 r ∧ H = []) := by
 have hm0 := h; clear h; unfold M.spec_l1Most at hm0
 try dsimp only at hm0
 refine Does.intro (N := 10) Tryd.func167 rfl rfl rfl rfl ?_
 intro w0 S0 L0
 refine V.seq ?_
 refine V.region ?_
 refine VO.cons rfl (V1.assign rfl rfl rfl lt0 ?_)
 refine VO.nil ?_
 refine V.seq ?_
 refine V.seq ?_
 refine V.region ?_
 refine VO.cons rfl (V1.move rfl rfl rfl lt0 ?_)
 refine VO.cons rfl (V1.move rfl rfl rfl lt0 ?_)
 refine VO.cons rfl (V1.int rfl rfl rfl rfl rfl lt0 ?_)
 refine VO.nil ?_
 refine V.cond rfl (fun hc0 => ?_) (fun hc0 => ?_)
 ·
  replace hm0 := cond_t hc0 hm0
  refine V.seq ?_
  refine V.region ?_
  refine VO.cons rfl (V1.move rfl rfl rfl lt0 ?_)
  refine VO.cons rfl (V1.assign rfl rfl rfl lt0 ?_)
  refine VO.nil ?_
  refine V.ret ?_
  obtain rfl := Option.some.inj hm0
  exact ⟨_, [], ⟨_, _, rfl, rfl, rfl⟩, List.nil_sublist _, rfl, rfl⟩
 ·
  replace hm0 := cond_f hc0 hm0
  refine V.skip ?_
  refine V.keep 10 [1] [] (E0 := [(1, .int .i64 b_)]) (H0 := []) rfl (⟨_, _, rfl, rfl, rfl⟩) (rfl) rfl ?_
  refine V.seq ?_
  refine V.region ?_
  refine VO.cons rfl (V1.move rfl rfl rfl lt0 ?_)
  refine VO.cons rfl (V1.assign rfl rfl rfl lt0 ?_)
  refine VO.nil ?_
  refine V.ret ?_
  obtain rfl := Option.some.inj hm0
  exact ⟨_, [], ⟨_, _, rfl, rfl, rfl⟩, List.nil_sublist _, rfl, rfl⟩

theorem ok_spec_LastDay {ρ0 rn : Nat} {r_ : Record} {r : Int × Bool} (h : M.spec_LastDay r_ = some r) : Does Tryd.prog 61 [encRecord ρ0 r_] [] rn (fun x H => x = .tup [.int .i64 r.1, .bool r.2] ∧ H = []) := by
 have hm0 := h; clear h; unfold M.spec_LastDay at hm0
 try dsimp only at hm0
 refine Does.intro (N := 27) Tryd.func61 rfl rfl rfl rfl ?_
 intro w0 S0 L0
 refine V.seq ?_
 refine V.region ?_
 refine VO.cons rfl (V1.boxN (n := 4) rfl rfl rfl rfl rfl lt0 ?_)
 intro b0
 refine VO.cons rfl (V1.assign rfl rfl rfl lt0 ?_)
 refine VO.cons rfl (V1.assign rfl rfl rfl lt0 ?_)
 refine VO.nil ?_
 refine V.seq ?_
 refine V.seq ?_
 replace hm0 := bindO hm0; rcases hm0 with ⟨y0, hh0, hm0⟩
 refine V.region ?_
 refine VO.cons rfl (V1.loadRefAll (k := 0) rfl rfl tyk_39 rfl rfl rfl rfl rfl lt0 ?_)
 refine VO.cons rfl (V1.call rfl rfl rfl cok_130 rfl (ok_spec_l2Record hh0) rfl lt0 ?_)
 rintro _ _ ⟨rfl, rfl⟩
 refine VO.cons rfl (V1.not rfl rfl rfl lt0 ?_)
 refine VO.nil ?_
 refine V.keep 27 [1, 8] [0] (E0 := [(1, .ref b0 4 0 0), (8, .bool (!y0))]) (H0 := [(b0, ⟨4, [encRecord ρ0 r_]⟩)]) rfl (⟨_, _, rfl, rfl, _, _, rfl, rfl, rfl⟩) (⟨_, _, rfl, rfl, rfl⟩) rfl ?_
 refine V.cond rfl (fun hc0 => ?_) (fun hc0 => ?_)
 ·
  replace hm0 := cond_t hc0 hm0
  refine V.seq ?_
  refine V.region ?_
  refine VO.cons rfl (V1.assign rfl rfl rfl lt0 ?_)
  refine VO.cons rfl (V1.assign rfl rfl rfl lt0 ?_)
  refine VO.nil ?_
  refine V.ret ?_
  obtain rfl := Option.some.inj hm0
  exact ⟨_, [], ⟨_, _, rfl, rfl, _, _, rfl, rfl, rfl⟩, List.nil_sublist _, rfl, rfl⟩
 ·
  replace hm0 := cond_f hc0 hm0
  refine V.skip ?_
  refine V.seq ?_
  refine V.region ?_
  refine VO.cons rfl (V1.fieldRef rfl rfl fo_39_2 rfl lt0 ?_)
  refine VO.cons rfl (V1.loadRef (k := 0) rfl rfl tyk_3 rfl rfl rfl rfl rfl lt0 ?_)
  refine VO.cons rfl (V1.assign rfl rfl rfl lt0 ?_)
  refine VO.nil ?_
  refine V.seq ?_
  refine V.seq ?_
  refine V.region ?_
  refine VO.cons rfl (V1.assign rfl rfl rfl lt0 ?_)
  refine VO.nil ?_
  replace hm0 := bindO hm0; rcases hm0 with ⟨e0, he1, hm0⟩
  refine V.cutT (D := (Int) × (Unit)) (fun ⟨most, _⟩ => ⟨27, [(4, .int .i64 most)], []⟩) (fun ⟨most, _⟩ => (most = e0)) ?_ ?_
  ·
   refine V.block ?_
   refine V.keep 27 [4, 5, 1] [0] (E0 := [(4, .int .i64 r_.Made), (5, .int .i64 (0 : Int)), (1, .ref b0 4 0 0)]) (H0 := [(b0, ⟨4, [encRecord ρ0 r_]⟩)]) rfl (⟨_, _, rfl, rfl, _, _, rfl, rfl, _, _, rfl, rfl, rfl⟩) (⟨_, _, rfl, rfl, rfl⟩) rfl ?_
   refine V.loopE (D := Nat × (Int × Int) × (Unit)) (fun ⟨n0, ⟨most0, i⟩, _⟩ => [(4, .int .i64 most0), (5, .int .i64 i)]) (fun ⟨n0, ⟨most0, i⟩, _⟩ => []) (fun ⟨n0, ⟨most0, i⟩, _⟩ => loopO (M.spec_LastDay_l0 r_) n0 (most0, i) = some e0) (fun ⟨n0, _, _⟩ => n0) (rounds, (r_.Made, (0 : Int)), ()) rfl he1 ?_
   rintro ⟨n0, ⟨most0, i⟩, _⟩ hP0
   obtain ⟨m0, y1, rfl, hm1, hl1, hr1⟩ := loop_head hP0
   unfold M.spec_LastDay_l0 at hm1; dsimp only at hm1
   show V _ _ _ ⟨27, [(4, .int .i64 most0), (5, .int .i64 i), (1, .ref b0 4 0 0)], [(b0, ⟨4, [encRecord ρ0 r_]⟩)]⟩
   refine V.seq ?_
   refine V.seq ?_
   refine V.region ?_
   refine VO.cons rfl (V1.move rfl rfl rfl lt0 ?_)
   refine VO.cons rfl (V1.fieldRef rfl rfl fo_39_3 rfl lt0 ?_)
   refine VO.cons rfl (V1.loadRef (k := 0) rfl rfl tyk_37 rfl rfl rfl rfl rfl lt0 ?_)
   refine VO.cons rfl (V1.lenMap rfl rfl rfl rfl rfl rfl isl_37 lt0 ?_)
   refine VO.cons rfl (V1.int rfl rfl rfl rfl rfl lt0 ?_)
   refine VO.nil ?_
   refine V.keep 27 [1, 4, 5, 15] [0] (E0 := [(1, .ref b0 4 0 0), (4, .int .i64 most0), (5, .int .i64 i), (15, .bool (decide (i < (r_.Events.length : Int))))]) (H0 := [(b0, ⟨4, [encRecord ρ0 r_]⟩)]) rfl (⟨_, _, rfl, rfl, _, _, rfl, rfl, _, _, rfl, rfl, _, _, rfl, rfl, rfl⟩) (⟨_, _, rfl, rfl, rfl⟩) rfl ?_
   refine V.cond rfl (fun hc1 => ?_) (fun hc1 => ?_)
   ·
    replace hm1 := cond_t hc1 hm1
    refine V.skip ?_
    refine V.seq ?_
    refine V.block ?_
    replace hm1 := asrt_some hm1; rcases hm1 with ⟨hh1, hm1⟩
    replace hm1 := bindO hm1; rcases hm1 with ⟨y2, hh2, hm1⟩
    refine V.region ?_
    refine VO.cons rfl (V1.move rfl rfl rfl lt0 ?_)
    refine VO.cons rfl (V1.fieldRef rfl rfl fo_39_3 rfl lt0 ?_)
    refine VO.cons rfl (V1.loadRef (k := 0) rfl rfl tyk_37 rfl rfl rfl rfl rfl lt0 ?_)
    refine VO.cons rfl (V1.move rfl rfl rfl lt0 ?_)
    refine VO.cons rfl (V1.indexI rfl rfl esz_37 rfl rfl hh1 lt0 ?_)
    refine VO.cons rfl (V1.fieldPin rfl rfl fo_72_1 rfl lt0 ?_)
    refine VO.cons rfl (V1.loadPin rfl rfl tyk_3 rfl rfl lt0 ?_)
    refine VO.cons rfl (V1.call rfl rfl rfl cok_167 rfl (ok_spec_l1Most hh2) rfl lt0 ?_)
    rintro _ _ ⟨rfl, rfl⟩
    refine VO.cons rfl (V1.assign rfl rfl rfl lt0 ?_)
    refine VO.nil ?_
    refine V.keep 27 [1, 4, 5] [0] (E0 := [(1, .ref b0 4 0 0), (4, .int .i64 y2), (5, .int .i64 i)]) (H0 := [(b0, ⟨4, [encRecord ρ0 r_]⟩)]) rfl (⟨_, _, rfl, rfl, _, _, rfl, rfl, _, _, rfl, rfl, rfl⟩) (⟨_, _, rfl, rfl, rfl⟩) rfl ?_
    refine V.region ?_
    refine VO.cons rfl (V1.move rfl rfl rfl lt0 ?_)
    refine VO.cons rfl (V1.int rfl rfl rfl rfl rfl lt0 ?_)
    refine VO.cons rfl (V1.assign rfl rfl rfl lt0 ?_)
    refine VO.nil ?_
    exact ⟨(m0, (y2, (IntKind.i64.wrap (i + (1 : Int)))), ()), hl1 _ (Option.some.inj hm1).symm, Nat.lt_succ_self _, Keeps.mk (ks := [0]) rfl ⟨rfl, rfl, rfl, trivial⟩ (⟨_, _, rfl, rfl, rfl⟩) rfl⟩
   ·
    replace hm1 := cond_f hc1 hm1
    refine V.exit ?_
    obtain rfl := hr1 _ (Option.some.inj hm1).symm
    exact ⟨(most0, ()), rfl, Keeps.mk (ks := []) rfl ⟨rfl, trivial⟩ (rfl) rfl⟩
  ·
   rintro ⟨most, _⟩ rfl
   try dsimp only at hm0
   refine V.seq ?_
   refine V.region ?_
   refine VO.cons rfl (V1.move rfl rfl rfl lt0 ?_)
   refine VO.cons rfl (V1.assign rfl rfl rfl lt0 ?_)
   refine VO.cons rfl (V1.assign rfl rfl rfl lt0 ?_)
   refine VO.nil ?_
   refine V.ret ?_
   obtain rfl := Option.some.inj hm0
   exact ⟨_, [], ⟨_, _, rfl, rfl, _, _, rfl, rfl, rfl⟩, List.nil_sublist _, rfl, rfl⟩

theorem ok_impl_eventAt_1 {τ1 rn : Nat} {e_ : Event} {kind : Int} {r : Bool} (h : M.impl_eventAt_1 e_ kind = some r) : Does Tryd.prog 281 [encEvent e_, .pin τ1 (.int .i64 kind) 0] [] rn (fun x H => x = .bool r ∧ H = []) := by
 have hm0 := h; clear h; unfold M.impl_eventAt_1 at hm0
 try dsimp only at hm0
 refine Does.intro (N := 8) Tryd.func281 rfl rfl rfl rfl ?_
 intro w0 S0 L0
 refine V.seq ?_
 refine V.region ?_
 refine VO.cons rfl (V1.boxN (n := 2) rfl rfl rfl rfl rfl lt0 ?_)
 intro b0
 refine VO.cons rfl (V1.assign rfl rfl rfl lt0 ?_)
 refine VO.nil ?_
 refine V.seq ?_
 refine V.region ?_
 refine VO.cons rfl (V1.fieldRef rfl rfl fo_72_0 rfl lt0 ?_)
 refine VO.cons rfl (V1.loadRef (k := 0) rfl rfl tyk_3 rfl rfl rfl rfl rfl lt0 ?_)
 refine VO.cons rfl (V1.loadPin rfl rfl tyk_3 rfl rfl lt0 ?_)
 refine VO.cons rfl (V1.int rfl rfl rfl rfl rfl lt0 ?_)
 refine VO.cons rfl (V1.assign rfl rfl rfl lt0 ?_)
 refine VO.nil ?_
 refine V.ret ?_
 obtain rfl := Option.some.inj hm0
 exact ⟨_, [], ⟨_, _, rfl, rfl, rfl⟩, List.nil_sublist _, rfl, rfl⟩

theorem ok_slices_IndexFunc_impl_Event_impl_Event {ρ0 rn : Nat} {s : List Event} {f1 : Nat} {cs1 : List PV} {r : Int} {fm : Event → Option Bool} (h : M.slices_IndexFunc_impl_Event_impl_Event s fm = some r) (hok1 : callOK Tryd.prog f1 = true) (hf1 : ∀ x0 r, fm x0 = some r → Does Tryd.prog f1 (encEvent x0 :: cs1) [] rn (fun x H => x = .bool r ∧ H = [])) : Does Tryd.prog 280 [.vl ρ0 2 (List.map encEvent s), .fn f1 cs1] [] rn (fun x H => x = .int .i64 r ∧ H = []) := by
 have hm0 := h; clear h; unfold M.slices_IndexFunc_impl_Event_impl_Event at hm0
 try dsimp only at hm0
 refine Does.intro (N := 19) Tryd.func280 rfl rfl rfl rfl ?_
 intro w0 S0 L0
 refine V.seq ?_
 refine V.region ?_
 refine VO.cons rfl (V1.assign rfl rfl rfl lt0 ?_)
 refine VO.nil ?_
 refine V.seq ?_
 refine V.seq ?_
 refine V.region ?_
 refine VO.cons rfl (V1.move rfl rfl rfl lt0 ?_)
 refine VO.cons rfl (V1.lenMap rfl rfl rfl rfl rfl rfl isl_37 lt0 ?_)
 refine VO.cons rfl (V1.move rfl rfl rfl lt0 ?_)
 refine VO.nil ?_
 replace hm0 := bindO hm0; rcases hm0 with ⟨e0, he1, hm0⟩
 refine V.cutT (D := (Unit) × (Unit)) (fun ⟨_, _⟩ => ⟨19, [], []⟩) (fun ⟨_, _⟩ => (.inl () = e0)) ?_ ?_
 ·
  refine V.block ?_
  refine V.keep 19 [8, 0, 1, 7] [] (E0 := [(8, .int .i64 (0 : Int)), (0, .vl ρ0 2 (List.map encEvent s)), (1, .fn f1 cs1), (7, .int .i64 (s.length : Int))]) (H0 := []) rfl (⟨_, _, rfl, rfl, _, _, rfl, rfl, _, _, rfl, rfl, _, _, rfl, rfl, rfl⟩) (rfl) rfl ?_
  refine V.loopE (D := Nat × (Int) × (Unit)) (fun ⟨n0, v, _⟩ => [(8, .int .i64 v)]) (fun ⟨n0, v, _⟩ => []) (fun ⟨n0, v, _⟩ => loopO (M.slices_IndexFunc_impl_Event_impl_Event_l0 s fm) n0 v = some e0) (fun ⟨n0, _, _⟩ => n0) (rounds, (0 : Int), ()) rfl he1 ?_
  rintro ⟨n0, v, _⟩ hP0
  obtain ⟨m0, y0, rfl, hm1, hl1, hr1⟩ := loop_head hP0
  unfold M.slices_IndexFunc_impl_Event_impl_Event_l0 at hm1; dsimp only at hm1
  show V _ _ _ ⟨19, [(8, .int .i64 v), (0, .vl ρ0 2 (List.map encEvent s)), (1, .fn f1 cs1), (7, .int .i64 (s.length : Int))], []⟩
  refine V.seq ?_
  refine V.region ?_
  refine VO.cons rfl (V1.int rfl rfl rfl rfl rfl lt0 ?_)
  refine VO.nil ?_
  refine V.seq ?_
  refine V.cond rfl (fun hc0 => ?_) (fun hc0 => ?_)
  ·
   replace hm1 := cond_t hc0 hm1
   refine V.skip ?_
   refine V.seq ?_
   refine V.block ?_
   refine V.seq ?_
   refine V.region ?_
   refine VO.cons rfl (V1.move rfl rfl rfl lt0 ?_)
   refine VO.cons rfl (V1.assign rfl rfl rfl lt0 ?_)
   refine VO.nil ?_
   refine V.seq ?_
   replace hm1 := asrt_some hm1; rcases hm1 with ⟨hh0, hm1⟩
   replace hm1 := bindO hm1; rcases hm1 with ⟨y1, hh1, hm1⟩
   refine V.region ?_
   refine VO.cons rfl (V1.move rfl rfl rfl lt0 ?_)
   refine VO.cons rfl (V1.move rfl rfl rfl lt0 ?_)
   refine VO.cons rfl (V1.move rfl rfl rfl lt0 ?_)
   refine VO.cons rfl (V1.indexI rfl rfl esz_37 rfl rfl hh0 lt0 ?_)
   refine VO.cons rfl (V1.loadPinAll rfl rfl tyk_72 rfl rfl lt0 ?_)
   refine VO.cons rfl (V1.callG (τ := 0) (Bw := []) rfl lt0 (run_callFn rfl rfl rfl hok1 rfl) (.refl _) (Lends.same _) (fun _ h => by cases h) ((hf1 _  _) hh1) (.inl rfl) (.inl rfl) ?_)
   rintro _ _ ⟨rfl, rfl⟩
   refine VO.nil ?_
   refine V.keep 19 [0, 1, 5, 7, 8, 16] [] (E0 := [(0, .vl ρ0 2 (List.map encEvent s)), (1, .fn f1 cs1), (5, .int .i64 v), (7, .int .i64 (s.length : Int)), (8, .int .i64 v), (16, .bool y1)]) (H0 := []) rfl (⟨_, _, rfl, rfl, _, _, rfl, rfl, _, _, rfl, rfl, _, _, rfl, rfl, _, _, rfl, rfl, _, _, rfl, rfl, rfl⟩) (rfl) rfl ?_
   refine V.cond rfl (fun hc1 => ?_) (fun hc1 => ?_)
   ·
    replace hm1 := cond_t hc1 hm1
    refine V.seq ?_
    refine V.region ?_
    refine VO.cons rfl (V1.move rfl rfl rfl lt0 ?_)
    refine VO.cons rfl (V1.assign rfl rfl rfl lt0 ?_)
    refine VO.nil ?_
    refine V.ret ?_
    obtain rfl := hr1 _ (Option.some.inj hm1).symm
    change some _ = some _ at hm0
    obtain rfl := Option.some.inj hm0
    exact ⟨_, [], ⟨_, _, rfl, rfl, rfl⟩, List.nil_sublist _, rfl, rfl⟩
   ·
    replace hm1 := cond_f hc1 hm1
    refine V.skip ?_
    refine V.region ?_
    refine VO.cons rfl (V1.int rfl rfl rfl rfl rfl lt0 ?_)
    refine VO.cons rfl (V1.move rfl rfl rfl lt0 ?_)
    refine VO.nil ?_
    exact ⟨(m0, (IntKind.i64.wrap (v + (1 : Int))), ()), hl1 _ (Option.some.inj hm1).symm, Nat.lt_succ_self _, Keeps.mk (ks := []) rfl ⟨rfl, rfl, rfl, rfl, trivial⟩ (rfl) rfl⟩
  ·
   replace hm1 := cond_f hc0 hm1
   refine V.exit ?_
   obtain rfl := hr1 _ (Option.some.inj hm1).symm
   exact ⟨((), ()), rfl, Keeps.mk (ks := []) rfl trivial (rfl) rfl⟩
 ·
  rintro ⟨_, _⟩ rfl
  try dsimp only at hm0
  refine V.seq ?_
  refine V.region ?_
  refine VO.cons rfl (V1.assign rfl rfl rfl lt0 ?_)
  refine VO.nil ?_
  refine V.ret ?_
  obtain rfl := Option.some.inj hm0
  exact ⟨_, [], ⟨_, _, rfl, rfl, rfl⟩, List.nil_sublist _, rfl, rfl⟩

theorem ok_impl_eventAt {ρ0 rn : Nat} {r_ : Record} {kind : Int} {r : Int} (h : M.impl_eventAt r_ kind = some r) : Does Tryd.prog 240 [encRecord ρ0 r_, .int .i64 kind] [] rn (fun x H => x = .int .i64 r ∧ H = []) := by
 have hm0 := h; clear h; unfold M.impl_eventAt at hm0
 try dsimp only at hm0
 refine Does.intro (N := 9) Tryd.func240 rfl rfl rfl rfl ?_
 intro w0 S0 L0
 refine V.seq ?_
 refine V.region ?_
 refine VO.cons rfl (V1.boxN (n := 4) rfl rfl rfl rfl rfl lt0 ?_)
 intro b0
 refine VO.cons rfl (V1.boxN (n := 1) rfl rfl rfl rfl rfl lt0 ?_)
 intro b1
 refine VO.cons rfl (V1.assign rfl rfl rfl lt0 ?_)
 refine VO.nil ?_
 refine V.seq ?_
 replace hm0 := bindO hm0; rcases hm0 with ⟨y0, hh0, hm0⟩
 refine V.region ?_
 refine VO.cons rfl (V1.fieldRef rfl rfl fo_39_3 rfl lt0 ?_)
 refine VO.cons rfl (V1.loadRef (k := 1) rfl rfl tyk_37 rfl rfl rfl rfl rfl lt0 ?_)
 refine VO.cons rfl (V1.makeFunc rfl rfl rfl lt0 ?_)
 refine VO.cons rfl (V1.callL (rn + 1) [b1] [.vl ρ0 2 (List.map encEvent r_.Events), .fn 281 [.pin (rn + 1) (.int .i64 kind) 0]] rfl rfl rfl cok_280 rfl ⟨_, _, rfl, .same _, ⟨_, _, rfl, Lend.fn ⟨_, _, rfl, Lend.ref 0 rfl rfl rfl rfl (.head _), rfl⟩, rfl⟩⟩ (bwCons (k := 0) rfl bwNil) (ok_slices_IndexFunc_impl_Event_impl_Event hh0 (fm := (fun x0 => M.impl_eventAt_1 x0 kind)) cok_281 (fun _ _ h => ok_impl_eventAt_1 h)) rfl (⟨(by first | omega | (dsimp only; omega)), by rintro _ _ ⟨rfl, rfl⟩; exact ⟨rfl, by simp⟩⟩) lt0 ?_)
 rintro _ _ ⟨rfl, rfl⟩
 refine VO.cons rfl (V1.assign rfl rfl rfl lt0 ?_)
 refine VO.nil ?_
 refine V.ret ?_
 obtain rfl := Option.some.inj hm0
 exact ⟨_, [], ⟨_, _, rfl, rfl, rfl⟩, List.nil_sublist _, rfl, rfl⟩

theorem ok_impl_dayOf {ρ0 rn : Nat} {r_ : Record} {kind : Int} {r : Int × Bool} (h : M.impl_dayOf r_ kind = some r) : Does Tryd.prog 168 [encRecord ρ0 r_, .int .i64 kind] [] rn (fun x H => x = .tup [.int .i64 r.1, .bool r.2] ∧ H = []) := by
 have hm0 := h; clear h; unfold M.impl_dayOf at hm0
 try dsimp only at hm0
 refine Does.intro (N := 22) Tryd.func168 rfl rfl rfl rfl ?_
 intro w0 S0 L0
 refine V.seq ?_
 refine V.region ?_
 refine VO.cons rfl (V1.boxN (n := 4) rfl rfl rfl rfl rfl lt0 ?_)
 intro b0
 refine VO.cons rfl (V1.assign rfl rfl rfl lt0 ?_)
 refine VO.cons rfl (V1.assign rfl rfl rfl lt0 ?_)
 refine VO.nil ?_
 refine V.seq ?_
 refine V.seq ?_
 refine V.region ?_
 refine VO.cons rfl (V1.move rfl rfl rfl lt0 ?_)
 refine VO.cons rfl (V1.int rfl rfl rfl rfl rfl lt0 ?_)
 refine VO.nil ?_
 refine V.keep 22 [1, 2, 8] [0] (E0 := [(1, .int .i64 kind), (2, .ref b0 4 0 0), (8, .bool (kind == (0 : Int)))]) (H0 := [(b0, ⟨4, [encRecord ρ0 r_]⟩)]) rfl (⟨_, _, rfl, rfl, _, _, rfl, rfl, _, _, rfl, rfl, rfl⟩) (⟨_, _, rfl, rfl, rfl⟩) rfl ?_
 refine V.cond rfl (fun hc0 => ?_) (fun hc0 => ?_)
 ·
  replace hm0 := cond_t hc0 hm0
  refine V.seq ?_
  refine V.region ?_
  refine VO.cons rfl (V1.fieldRef rfl rfl fo_39_2 rfl lt0 ?_)
  refine VO.cons rfl (V1.loadRef (k := 0) rfl rfl tyk_3 rfl rfl rfl rfl rfl lt0 ?_)
  refine VO.cons rfl (V1.assign rfl rfl rfl lt0 ?_)
  refine VO.cons rfl (V1.assign rfl rfl rfl lt0 ?_)
  refine VO.nil ?_
  refine V.ret ?_
  obtain rfl := Option.some.inj hm0
  exact ⟨_, [], ⟨_, _, rfl, rfl, _, _, rfl, rfl, rfl⟩, List.nil_sublist _, rfl, rfl⟩
 ·
  replace hm0 := cond_f hc0 hm0
  refine V.skip ?_
  refine V.seq ?_
  replace hm0 := bindO hm0; rcases hm0 with ⟨y0, hh0, hm0⟩
  refine V.region ?_
  refine VO.cons rfl (V1.loadRefAll (k := 0) rfl rfl tyk_39 rfl rfl rfl rfl rfl lt0 ?_)
  refine VO.cons rfl (V1.move rfl rfl rfl lt0 ?_)
  refine VO.cons rfl (V1.call rfl rfl rfl cok_240 rfl (ok_impl_eventAt hh0) rfl lt0 ?_)
  rintro _ _ ⟨rfl, rfl⟩
  refine VO.cons rfl (V1.assign rfl rfl rfl lt0 ?_)
  refine VO.nil ?_
  refine V.keep 22 [2, 6] [0] (E0 := [(2, .ref b0 4 0 0), (6, .int .i64 y0)]) (H0 := [(b0, ⟨4, [encRecord ρ0 r_]⟩)]) rfl (⟨_, _, rfl, rfl, _, _, rfl, rfl, rfl⟩) (⟨_, _, rfl, rfl, rfl⟩) rfl ?_
  refine V.seq ?_
  refine V.seq ?_
  refine V.region ?_
  refine VO.cons rfl (V1.move rfl rfl rfl lt0 ?_)
  refine VO.cons rfl (V1.int rfl rfl rfl rfl rfl lt0 ?_)
  refine VO.nil ?_
  refine V.cond rfl (fun hc1 => ?_) (fun hc1 => ?_)
  ·
   replace hm0 := cond_t hc1 hm0
   refine V.seq ?_
   refine V.region ?_
   refine VO.cons rfl (V1.assign rfl rfl rfl lt0 ?_)
   refine VO.cons rfl (V1.assign rfl rfl rfl lt0 ?_)
   refine VO.nil ?_
   refine V.ret ?_
   obtain rfl := Option.some.inj hm0
   exact ⟨_, [], ⟨_, _, rfl, rfl, _, _, rfl, rfl, rfl⟩, List.nil_sublist _, rfl, rfl⟩
  ·
   replace hm0 := cond_f hc1 hm0
   refine V.skip ?_
   refine V.seq ?_
   replace hm0 := asrt_some hm0; rcases hm0 with ⟨hh1, hm0⟩
   refine V.region ?_
   refine VO.cons rfl (V1.fieldRef rfl rfl fo_39_3 rfl lt0 ?_)
   refine VO.cons rfl (V1.loadRef (k := 0) rfl rfl tyk_37 rfl rfl rfl rfl rfl lt0 ?_)
   refine VO.cons rfl (V1.move rfl rfl rfl lt0 ?_)
   refine VO.cons rfl (V1.indexI rfl rfl esz_37 rfl rfl hh1 lt0 ?_)
   refine VO.cons rfl (V1.fieldPin rfl rfl fo_72_1 rfl lt0 ?_)
   refine VO.cons rfl (V1.loadPin rfl rfl tyk_3 rfl rfl lt0 ?_)
   refine VO.cons rfl (V1.assign rfl rfl rfl lt0 ?_)
   refine VO.cons rfl (V1.assign rfl rfl rfl lt0 ?_)
   refine VO.nil ?_
   refine V.ret ?_
   obtain rfl := Option.some.inj hm0
   exact ⟨_, [], ⟨_, _, rfl, rfl, _, _, rfl, rfl, rfl⟩, List.nil_sublist _, rfl, rfl⟩

theorem ok_impl_DayOf {ρ0 rn : Nat} {r_ : Record} {kind : Int} {r : Int × Bool} (h : M.impl_DayOf r_ kind = some r) : Does Tryd.prog 62 [encRecord ρ0 r_, .int .i64 kind] [] rn (fun x H => x = .tup [.int .i64 r.1, .bool r.2] ∧ H = []) := by
 have hm0 := h; clear h; unfold M.impl_DayOf at hm0
 try dsimp only at hm0
 refine Does.intro (N := 14) Tryd.func62 rfl rfl rfl rfl ?_
 intro w0 S0 L0
 refine V.seq ?_
 refine V.region ?_
 refine VO.cons rfl (V1.boxN (n := 4) rfl rfl rfl rfl rfl lt0 ?_)
 intro b0
 refine VO.cons rfl (V1.assign rfl rfl rfl lt0 ?_)
 refine VO.cons rfl (V1.assign rfl rfl rfl lt0 ?_)
 refine VO.nil ?_
 refine V.seq ?_
 refine V.seq ?_
 replace hm0 := bindO hm0; rcases hm0 with ⟨y0, hh0, hm0⟩
 refine V.region ?_
 refine VO.cons rfl (V1.loadRefAll (k := 0) rfl rfl tyk_39 rfl rfl rfl rfl rfl lt0 ?_)
 refine VO.cons rfl (V1.call rfl rfl rfl cok_55 rfl (ok_impl_IsRecord hh0) rfl lt0 ?_)
 rintro _ _ ⟨rfl, rfl⟩
 refine VO.cons rfl (V1.not rfl rfl rfl lt0 ?_)
 refine VO.nil ?_
 refine V.keep 14 [1, 2, 8] [0] (E0 := [(1, .int .i64 kind), (2, .ref b0 4 0 0), (8, .bool (!y0))]) (H0 := [(b0, ⟨4, [encRecord ρ0 r_]⟩)]) rfl (⟨_, _, rfl, rfl, _, _, rfl, rfl, _, _, rfl, rfl, rfl⟩) (⟨_, _, rfl, rfl, rfl⟩) rfl ?_
 refine V.cond rfl (fun hc0 => ?_) (fun hc0 => ?_)
 ·
  replace hm0 := cond_t hc0 hm0
  refine V.seq ?_
  refine V.region ?_
  refine VO.cons rfl (V1.assign rfl rfl rfl lt0 ?_)
  refine VO.cons rfl (V1.assign rfl rfl rfl lt0 ?_)
  refine VO.nil ?_
  refine V.ret ?_
  obtain rfl := Option.some.inj hm0
  exact ⟨_, [], ⟨_, _, rfl, rfl, _, _, rfl, rfl, rfl⟩, List.nil_sublist _, rfl, rfl⟩
 ·
  replace hm0 := cond_f hc0 hm0
  refine V.skip ?_
  refine V.seq ?_
  replace hm0 := bindO hm0; rcases hm0 with ⟨y1, hh1, hm0⟩
  refine V.region ?_
  refine VO.cons rfl (V1.loadRefAll (k := 0) rfl rfl tyk_39 rfl rfl rfl rfl rfl lt0 ?_)
  refine VO.cons rfl (V1.move rfl rfl rfl lt0 ?_)
  refine VO.cons rfl (V1.call rfl rfl rfl cok_168 rfl (ok_impl_dayOf hh1) rfl lt0 ?_)
  rintro _ _ ⟨rfl, rfl⟩
  refine VO.cons rfl (V1.extract rfl rfl rfl rfl lt0 ?_)
  refine VO.cons rfl (V1.extract rfl rfl rfl rfl lt0 ?_)
  refine VO.cons rfl (V1.assign rfl rfl rfl lt0 ?_)
  refine VO.cons rfl (V1.assign rfl rfl rfl lt0 ?_)
  refine VO.nil ?_
  refine V.ret ?_
  obtain rfl := Option.some.inj hm0
  exact ⟨_, [], ⟨_, _, rfl, rfl, _, _, rfl, rfl, rfl⟩, List.nil_sublist _, rfl, rfl⟩

theorem ok_spec_l1Cur_held {ρ0 rn bp : Nat} {c : Cur} {r : List Record × Cur} (h : M.spec_l1Cur_held c = some r) : Does Tryd.prog 169 [.ref bp 3 0 0] [(bp, ⟨3, [encCur ρ0 c]⟩)] rn (fun x H => ∃ (ob0_ : Nat), x = PV.sref ob0_ 4 0 (List.length r.1) ∧ H = [(ob0_, ⟨4, List.map (encRecord rn) r.1⟩)] ++ [(bp, ⟨3, [encCur ρ0 r.2]⟩)]) := by
 have hm0 := h; clear h; unfold M.spec_l1Cur_held at hm0
 try dsimp only at hm0
 refine Does.intro (N := 48) Tryd.func169 rfl rfl rfl rfl ?_
 intro w0 S0 L0
 refine V.seq ?_
 refine V.region ?_
 refine VO.cons rfl (V1.assign rfl rfl rfl lt0 ?_)
 refine VO.nil ?_
 refine V.seq ?_
 refine V.region ?_
 refine VO.cons rfl (V1.buildSliceT (f := (encRecord rn)) ([] : List Record) rfl rfl esz_73 zk_39 rfl rfl rfl rfl rfl rfl rfl lt0 ?_)
 intro b0
 refine VO.cons rfl (V1.assign rfl rfl rfl lt0 ?_)
 refine VO.nil ?_
 refine V.seq ?_
 refine V.seq ?_
 refine V.region ?_
 refine VO.cons rfl (V1.assign rfl rfl rfl lt0 ?_)
 refine VO.nil ?_
 replace hm0 := bindO hm0; rcases hm0 with ⟨e0, he1, hm0⟩
 refine V.cutT (D := (List Record × Cur) × (Nat)) (fun ⟨⟨list, c_⟩, b1⟩ => ⟨48, [(3, .sref b1 4 0 (List.length list)), (0, .ref bp 3 0 0)], [(b1, ⟨4, List.map (encRecord rn) list⟩), (bp, ⟨3, [encCur ρ0 c_]⟩)]⟩) (fun ⟨⟨list, c_⟩, b1⟩ => ((list, c_) = e0)) ?_ ?_
 ·
  refine V.block ?_
  refine V.keep 48 [3, 4, 0] [0, 1] (E0 := [(3, .sref b0 4 0 (List.length ([] : List Record))), (4, .int .i64 (1 : Int)), (0, .ref bp 3 0 0)]) (H0 := [(b0, ⟨4, List.map (encRecord rn) ([] : List Record)⟩), (bp, ⟨3, [encCur ρ0 c]⟩)]) rfl (⟨_, _, rfl, rfl, _, _, rfl, rfl, _, _, rfl, rfl, rfl⟩) (⟨_, _, rfl, rfl, _, _, rfl, rfl, rfl⟩) rfl ?_
  refine V.loopE (D := Nat × (List Record × Int × Cur) × (Nat)) (fun ⟨n0, ⟨list0, n_, c_0⟩, b2⟩ => [(3, .sref b2 4 0 (List.length list0)), (4, .int .i64 n_)]) (fun ⟨n0, ⟨list0, n_, c_0⟩, b2⟩ => [(b2, ⟨4, List.map (encRecord rn) list0⟩), (bp, ⟨3, [encCur ρ0 c_0]⟩)]) (fun ⟨n0, ⟨list0, n_, c_0⟩, b2⟩ => loopO (M.spec_l1Cur_held_l0) n0 (list0, n_, c_0) = some e0) (fun ⟨n0, _, _⟩ => n0) (rounds, (([] : List Record), (1 : Int), c), b0) rfl he1 ?_
  rintro ⟨n0, ⟨list0, n_, c_0⟩, b2⟩ hP0
  obtain ⟨m0, y0, rfl, hm1, hl1, hr1⟩ := loop_head hP0
  unfold M.spec_l1Cur_held_l0 at hm1; dsimp only at hm1
  show V _ _ _ ⟨48, [(3, .sref b2 4 0 (List.length list0)), (4, .int .i64 n_), (0, .ref bp 3 0 0)], [(b2, ⟨4, List.map (encRecord rn) list0⟩), (bp, ⟨3, [encCur ρ0 c_0]⟩)]⟩
  refine V.seq ?_
  refine V.seq ?_
  refine V.region ?_
  refine VO.cons rfl (V1.move rfl rfl rfl lt0 ?_)
  refine VO.cons rfl (V1.int rfl rfl rfl rfl rfl lt0 ?_)
  refine VO.nil ?_
  refine V.cond rfl (fun hc0 => ?_) (fun hc0 => ?_)
  ·
   replace hm1 := cond_t hc0 hm1
   refine V.skip ?_
   refine V.seq ?_
   replace hm1 := bindO hm1; rcases hm1 with ⟨j0, hm2, hm1⟩
   refine V.cutT (D := (List Record × Cur) × (Nat)) (fun ⟨⟨list1, c_1⟩, b3⟩ => ⟨48, [(3, .sref b3 4 0 (List.length list1)), (0, .ref bp 3 0 0), (4, .int .i64 n_)], [(b3, ⟨4, List.map (encRecord rn) list1⟩), (bp, ⟨3, [encCur ρ0 c_1]⟩)]⟩) (fun ⟨⟨list1, c_1⟩, b3⟩ => ((list1, c_1) = j0)) ?_ ?_
   ·
    refine V.block ?_
    refine V.seq ?_
    replace hm2 := bindO hm2; rcases hm2 with ⟨y1, hh0, hm2⟩
    refine V.region ?_
    refine VO.cons rfl (V1.move rfl rfl rfl lt0 ?_)
    refine VO.cons rfl (V1.callM 1 (rn + ρ0 + 1) [] [.ref bp 3 0 0, .int .i64 (2 : Int)] (p := (bp, ⟨3, [encCur ρ0 c_0]⟩)) rfl rfl rfl cok_147 rfl rfl ⟨_, _, rfl, .same _, ⟨_, _, rfl, .same _, rfl⟩⟩ bwNil (ok_spec_l1Cur_one hh0) rfl (.inl rfl) lt0 ?_)
    rintro _ _ ⟨rfl, rfl⟩
    refine VO.nil ?_
    refine V.cond rfl (fun hc1 => ?_) (fun hc1 => ?_)
    ·
     replace hm2 := cond_t hc1 hm2
     replace hm2 := bindO hm2; rcases hm2 with ⟨y2, hh1, hm2⟩
     replace hm2 := asrt_some hm2; rcases hm2 with ⟨hh2, hm2⟩
     refine V.region ?_
     refine VO.cons rfl (V1.move rfl rfl rfl lt0 ?_)
     refine VO.cons rfl (V1.move rfl rfl rfl lt0 ?_)
     refine VO.cons rfl (V1.move rfl rfl rfl lt0 ?_)
     refine VO.cons rfl (V1.int rfl rfl rfl rfl rfl lt0 ?_)
     refine VO.cons rfl (V1.callM 0 (rn + ρ0 + 1) [] [.ref bp 3 0 0, .int .i64 (IntKind.i64.wrap ((11 : Int) * n_))] (p := (bp, ⟨3, [encCur ρ0 y1.2]⟩)) rfl rfl rfl cok_126 rfl rfl ⟨_, _, rfl, .same _, ⟨_, _, rfl, .same _, rfl⟩⟩ bwNil (ok_spec_l1Cur_record hh1) rfl (.inl rfl) lt0 ?_)
     rintro _ _ ⟨rfl, rfl⟩
     refine VO.cons rfl (V1.buildSliceT (f := (encRecord rn)) ([y2.1] : List Record) rfl rfl esz_73 zk_39 rfl rfl rfl rfl rfl rfl rfl lt0 ?_)
     intro b4
     refine VO.cons rfl (V1.appendMap (k := 2) (f := (encRecord rn)) (l := list0) (m := ([y2.1] : List Record)) rfl rfl rfl rfl rfl esz_73 eby_73 zk_39 rfl rfl rfl (SrcOf.srMap (k := 0) rfl isl_73) hh2 lt0 ?_)
     intro b5
     refine VO.cons rfl (V1.assign rfl rfl rfl lt0 ?_)
     refine VO.nil ?_
     exact ⟨(((list0 ++ ([y2.1] : List Record)), y2.2), b5), Option.some.inj hm2, Keeps.mk (ks := [0, 2]) rfl ⟨rfl, rfl, rfl, trivial⟩ (⟨_, _, rfl, rfl, _, _, rfl, rfl, rfl⟩) rfl⟩
    ·
     replace hm2 := cond_f hc1 hm2
     refine V.skip ?_
     exact ⟨((list0, y1.2), b2), Option.some.inj hm2, Keeps.mk (ks := [1, 0]) rfl ⟨rfl, rfl, rfl, trivial⟩ (⟨_, _, rfl, rfl, _, _, rfl, rfl, rfl⟩) rfl⟩
   ·
    rintro ⟨⟨list1, c_1⟩, b3⟩ rfl
    try dsimp only at hm1
    refine V.region ?_
    refine VO.cons rfl (V1.move rfl rfl rfl lt0 ?_)
    refine VO.cons rfl (V1.int rfl rfl rfl rfl rfl lt0 ?_)
    refine VO.cons rfl (V1.assign rfl rfl rfl lt0 ?_)
    refine VO.nil ?_
    exact ⟨(m0, (list1, (IntKind.i64.wrap (n_ + (1 : Int))), c_1), b3), hl1 _ (Option.some.inj hm1).symm, Nat.lt_succ_self _, Keeps.mk (ks := [0, 1]) rfl ⟨rfl, rfl, rfl, trivial⟩ (⟨_, _, rfl, rfl, _, _, rfl, rfl, rfl⟩) rfl⟩
  ·
   replace hm1 := cond_f hc0 hm1
   refine V.exit ?_
   obtain rfl := hr1 _ (Option.some.inj hm1).symm
   exact ⟨((list0, c_0), b2), rfl, Keeps.mk (ks := [0, 1]) rfl ⟨rfl, rfl, trivial⟩ (⟨_, _, rfl, rfl, _, _, rfl, rfl, rfl⟩) rfl⟩
 ·
  rintro ⟨⟨list, c_⟩, b1⟩ rfl
  try dsimp only at hm0
  refine V.seq ?_
  refine V.seq ?_
  replace hm0 := bindO hm0; rcases hm0 with ⟨y3, hh3, hm0⟩
  refine V.region ?_
  refine VO.cons rfl (V1.move rfl rfl rfl lt0 ?_)
  refine VO.cons rfl (V1.callM 1 (rn + ρ0 + 1) [] [.ref bp 3 0 0, .int .i64 (32 : Int)] (p := (bp, ⟨3, [encCur ρ0 c_]⟩)) rfl rfl rfl cok_139 rfl rfl ⟨_, _, rfl, .same _, ⟨_, _, rfl, .same _, rfl⟩⟩ bwNil (ok_spec_l1Cur_pick hh3) rfl (.inl rfl) lt0 ?_)
  rintro _ _ ⟨rfl, rfl⟩
  refine VO.nil ?_
  replace hm0 := bindO hm0; rcases hm0 with ⟨j1, hm1, hm0⟩
  refine V.cutT (D := (List Record × Cur) × (Nat)) (fun ⟨⟨list2, c_2⟩, b6⟩ => ⟨48, [(3, .sref b6 4 0 (List.length list2))], [(b6, ⟨4, List.map (encRecord rn) list2⟩), (bp, ⟨3, [encCur ρ0 c_2]⟩)]⟩) (fun ⟨⟨list2, c_2⟩, b6⟩ => ((list2, c_2) = j1)) ?_ ?_
  ·
   refine V.block ?_
   refine V.seq ?_
   refine V.region ?_
   refine VO.cons rfl (V1.int rfl rfl rfl rfl rfl lt0 ?_)
   refine VO.cons rfl (V1.assign rfl rfl rfl lt0 ?_)
   refine VO.nil ?_
   refine V.cond rfl (fun hc2 => ?_) (fun hc2 => ?_)
   ·
    replace hm1 := cond_t hc2 hm1
    replace hm1 := bindO hm1; rcases hm1 with ⟨y4, hh4, hm1⟩
    replace hm1 := bindO hm1; rcases hm1 with ⟨y5, hh5, hm1⟩
    replace hm1 := asrt_some hm1; rcases hm1 with ⟨hh6, hm1⟩
    refine V.region ?_
    refine VO.cons rfl (V1.move rfl rfl rfl lt0 ?_)
    refine VO.cons rfl (V1.move rfl rfl rfl lt0 ?_)
    refine VO.cons rfl (V1.move rfl rfl rfl lt0 ?_)
    refine VO.cons rfl (V1.buildSliceT (f := encInt) ([(0 : Int), (11 : Int), (999 : Int), (1000 : Int)] : List Int) rfl rfl esz_76 zk_3 rfl rfl rfl rfl rfl rfl rfl lt0 ?_)
    intro b7
    refine VO.cons rfl (V1.callM 1 (rn + ρ0 + 1) [b7] [.ref bp 3 0 0, .vl (rn + ρ0 + 1) 1 (List.map encInt ([(0 : Int), (11 : Int), (999 : Int), (1000 : Int)] : List Int))] (p := (bp, ⟨3, [encCur ρ0 y3.2]⟩)) rfl rfl rfl cok_120 rfl rfl ⟨_, _, rfl, .same _, ⟨_, _, rfl, Lend.srMap 0 rfl (fun _ => rfl) (.head _), rfl⟩⟩ (bwCons (k := 0) rfl bwNil) (ok_spec_l1Cur_among hh4) rfl (.inr ⟨(by first | omega | (dsimp only; omega)), by rintro _ _ ⟨rfl, rfl⟩; exact ⟨by simp [PV.no, PV.noL, optS_no, noL_iff, nbeq] <;> omega, by intro b ob h; first | exact optH_no (noL_map (fun _ => by simp [PV.no, PV.noL, noL_iff, nbeq]) _) b ob h | (simp only [List.append_assoc, List.mem_append, List.mem_cons, List.mem_singleton, List.not_mem_nil, or_false, Prod.mk.injEq] at h; rcases h with ⟨rfl, rfl⟩ | ⟨rfl, rfl⟩ <;> first | exact noL_map (fun _ => by simp [PV.no, PV.noL, noL_iff, nbeq]) _ | (simp [PV.no, PV.noL, optS_no, noL_iff, nbeq] <;> omega)) | (simp at h; obtain ⟨rfl, rfl⟩ := h; exact noL_map (fun _ => by simp [PV.no, PV.noL, noL_iff, nbeq]) _) | (simp at h; obtain ⟨rfl, rfl⟩ := h; simp [PV.no, PV.noL, optS_no, noL_iff, nbeq] <;> omega)⟩⟩) lt0 ?_)
    rintro _ _ ⟨rfl, rfl⟩
    refine VO.cons rfl (V1.callM 0 (rn + ρ0 + 1) [] [.ref bp 3 0 0, .int .i64 y4.1] (p := (bp, ⟨3, [encCur ρ0 y4.2]⟩)) rfl rfl rfl cok_126 rfl rfl ⟨_, _, rfl, .same _, ⟨_, _, rfl, .same _, rfl⟩⟩ bwNil (ok_spec_l1Cur_record hh5) rfl (.inl rfl) lt0 ?_)
    rintro _ _ ⟨rfl, rfl⟩
    refine VO.cons rfl (V1.buildSliceT (f := (encRecord rn)) ([y5.1] : List Record) rfl rfl esz_73 zk_39 rfl rfl rfl rfl rfl rfl rfl lt0 ?_)
    intro b8
    refine VO.cons rfl (V1.appendMap (k := 3) (f := (encRecord rn)) (l := list) (m := ([y5.1] : List Record)) rfl rfl rfl rfl rfl esz_73 eby_73 zk_39 rfl rfl rfl (SrcOf.srMap (k := 0) rfl isl_73) hh6 lt0 ?_)
    intro b9
    refine VO.cons rfl (V1.assign rfl rfl rfl lt0 ?_)
    refine VO.nil ?_
    exact ⟨(((list ++ ([y5.1] : List Record)), y5.2), b9), Option.some.inj hm1, Keeps.mk (ks := [0, 2]) rfl ⟨rfl, trivial⟩ (⟨_, _, rfl, rfl, _, _, rfl, rfl, rfl⟩) rfl⟩
   ·
    replace hm1 := cond_f hc2 hm1
    refine V.seq ?_
    refine V.region ?_
    refine VO.cons rfl (V1.int rfl rfl rfl rfl rfl lt0 ?_)
    refine VO.cons rfl (V1.assign rfl rfl rfl lt0 ?_)
    refine VO.nil ?_
    refine V.keep 48 [0, 3, 31] [0, 1] (E0 := [(0, .ref bp 3 0 0), (3, .sref b1 4 0 (List.length list)), (31, .bool (y3.1 == (1 : Int)))]) (H0 := [(bp, ⟨3, [encCur ρ0 y3.2]⟩), (b1, ⟨4, List.map (encRecord rn) list⟩)]) rfl (⟨_, _, rfl, rfl, _, _, rfl, rfl, _, _, rfl, rfl, rfl⟩) (⟨_, _, rfl, rfl, _, _, rfl, rfl, rfl⟩) rfl ?_
    refine V.cond rfl (fun hc3 => ?_) (fun hc3 => ?_)
    ·
     replace hm1 := cond_t hc3 hm1
     replace hm1 := bindO hm1; rcases hm1 with ⟨e1, he2, hm1⟩
     refine V.cutT (D := (List Record × Cur) × (Nat)) (fun ⟨⟨list3, c_3⟩, b10⟩ => ⟨48, [(3, .sref b10 4 0 (List.length list3))], [(b10, ⟨4, List.map (encRecord rn) list3⟩), (bp, ⟨3, [encCur ρ0 c_3]⟩)]⟩) (fun ⟨⟨list3, c_3⟩, b10⟩ => ((list3, c_3) = e1)) ?_ ?_
     ·
      refine V.block ?_
      refine V.keep 48 [3, 0] [1, 0] (E0 := [(3, .sref b1 4 0 (List.length list)), (0, .ref bp 3 0 0)]) (H0 := [(b1, ⟨4, List.map (encRecord rn) list⟩), (bp, ⟨3, [encCur ρ0 y3.2]⟩)]) rfl (⟨_, _, rfl, rfl, _, _, rfl, rfl, rfl⟩) (⟨_, _, rfl, rfl, _, _, rfl, rfl, rfl⟩) rfl ?_
      refine V.loopE (D := Nat × (List Record × Cur) × (Nat)) (fun ⟨n1, ⟨list4, c_4⟩, b11⟩ => [(3, .sref b11 4 0 (List.length list4))]) (fun ⟨n1, ⟨list4, c_4⟩, b11⟩ => [(b11, ⟨4, List.map (encRecord rn) list4⟩), (bp, ⟨3, [encCur ρ0 c_4]⟩)]) (fun ⟨n1, ⟨list4, c_4⟩, b11⟩ => loopO (M.spec_l1Cur_held_l1) n1 (list4, c_4) = some e1) (fun ⟨n1, _, _⟩ => n1) (rounds, (list, y3.2), b1) rfl he2 ?_
      rintro ⟨n1, ⟨list4, c_4⟩, b11⟩ hP1
      obtain ⟨m1, y6, rfl, hm2, hl2, hr2⟩ := loop_head hP1
      unfold M.spec_l1Cur_held_l1 at hm2; dsimp only at hm2
      show V _ _ _ ⟨48, [(3, .sref b11 4 0 (List.length list4)), (0, .ref bp 3 0 0)], [(b11, ⟨4, List.map (encRecord rn) list4⟩), (bp, ⟨3, [encCur ρ0 c_4]⟩)]⟩
      refine V.seq ?_
      refine V.seq ?_
      replace hm2 := bindO hm2; rcases hm2 with ⟨y7, hh7, hm2⟩
      refine V.region ?_
      refine VO.cons rfl (V1.move rfl rfl rfl lt0 ?_)
      refine VO.cons rfl (V1.lenSref rfl rfl rfl rfl rfl rfl isl_73 lt0 ?_)
      refine VO.cons rfl (V1.move rfl rfl rfl lt0 ?_)
      refine VO.cons rfl (V1.callM 1 (rn + ρ0 + 1) [] [.ref bp 3 0 0, .int .i64 (2 : Int)] (p := (bp, ⟨3, [encCur ρ0 c_4]⟩)) rfl rfl rfl cok_139 rfl rfl ⟨_, _, rfl, .same _, ⟨_, _, rfl, .same _, rfl⟩⟩ bwNil (ok_spec_l1Cur_pick hh7) rfl (.inl rfl) lt0 ?_)
      rintro _ _ ⟨rfl, rfl⟩
      refine VO.cons rfl (V1.int rfl rfl rfl rfl rfl lt0 ?_)
      refine VO.cons rfl (V1.int rfl rfl rfl rfl rfl lt0 ?_)
      refine VO.nil ?_
      refine V.keep 48 [0, 3, 38] [0, 1] (E0 := [(0, .ref bp 3 0 0), (3, .sref b11 4 0 (List.length list4)), (38, .bool (decide ((list4.length : Int) < (IntKind.i64.wrap ((10 : Int) + y7.1)))))]) (H0 := [(bp, ⟨3, [encCur ρ0 y7.2]⟩), (b11, ⟨4, List.map (encRecord rn) list4⟩)]) rfl (⟨_, _, rfl, rfl, _, _, rfl, rfl, _, _, rfl, rfl, rfl⟩) (⟨_, _, rfl, rfl, _, _, rfl, rfl, rfl⟩) rfl ?_
      refine V.cond rfl (fun hc4 => ?_) (fun hc4 => ?_)
      ·
       replace hm2 := cond_t hc4 hm2
       refine V.skip ?_
       refine V.block ?_
       replace hm2 := asrt_some hm2; rcases hm2 with ⟨hh8, hm2⟩
       refine V.region ?_
       refine VO.cons rfl (V1.move rfl rfl rfl lt0 ?_)
       refine VO.cons rfl (V1.move rfl rfl rfl lt0 ?_)
       refine VO.cons rfl (V1.lenSref rfl rfl rfl rfl rfl rfl isl_73 lt0 ?_)
       refine VO.cons rfl (V1.int rfl rfl rfl rfl rfl lt0 ?_)
       refine VO.cons rfl (V1.buildSliceT (f := encEvent) ([] : List Event) rfl rfl esz_37 zk_72 rfl rfl rfl rfl rfl rfl rfl lt0 ?_)
       intro b12
       refine VO.cons rfl (V1.build rfl rfl zk_39 pl_39 rfl rfl lt0 ?_)
       refine VO.weakenK (Keeps.freezeG 0 rn [(43, .vl rn 2 (List.map encEvent ([] : List Event))), (44, .agg [.int .i64 (IntKind.i64.wrap ((200 : Int) + (list4.length : Int))), .int .i64 (1 : Int), .int .i64 (0 : Int), .vl rn 2 (List.map encEvent ([] : List Event))])] ([(bp, ⟨3, [encCur ρ0 y7.2]⟩), (b11, ⟨4, List.map (encRecord rn) list4⟩)]) (f := encEvent) (l := ([] : List Event)) rfl (fun _ => rfl) ⟨⟨_, rfl, .here⟩, ⟨_, rfl, (.agg (.cons .same (.cons .same (.cons .same (.cons .here .nil)))))⟩, trivial⟩ ⟨_, _, rfl, rfl, .inl rfl, ⟨_, _, rfl, rfl, .inl rfl, rfl⟩⟩ rfl (iOne (b := bp) 0 rfl)) ?_
       refine VO.cons rfl (V1.buildSliceT (f := (encRecord rn)) ([(⟨(IntKind.i64.wrap ((200 : Int) + (list4.length : Int))), (1 : Int), (0 : Int), ([] : List Event)⟩ : Record)] : List Record) rfl rfl esz_73 zk_39 rfl rfl rfl rfl rfl rfl rfl lt0 ?_)
       intro b13
       refine VO.cons rfl (V1.appendMap (k := 2) (f := (encRecord rn)) (l := list4) (m := ([(⟨(IntKind.i64.wrap ((200 : Int) + (list4.length : Int))), (1 : Int), (0 : Int), ([] : List Event)⟩ : Record)] : List Record)) rfl rfl rfl rfl rfl esz_73 eby_73 zk_39 rfl rfl rfl (SrcOf.srMap (k := 0) rfl isl_73) hh8 lt0 ?_)
       intro b14
       refine VO.cons rfl (V1.assign rfl rfl rfl lt0 ?_)
       refine VO.nil ?_
       exact ⟨(m1, ((list4 ++ ([(⟨(IntKind.i64.wrap ((200 : Int) + (list4.length : Int))), (1 : Int), (0 : Int), ([] : List Event)⟩ : Record)] : List Record)), y7.2), b14), hl2 _ (Option.some.inj hm2).symm, Nat.lt_succ_self _, Keeps.mk (ks := [0, 2]) rfl ⟨rfl, rfl, trivial⟩ (⟨_, _, rfl, rfl, _, _, rfl, rfl, rfl⟩) rfl⟩
      ·
       replace hm2 := cond_f hc4 hm2
       refine V.exit ?_
       obtain rfl := hr2 _ (Option.some.inj hm2).symm
       exact ⟨((list4, y7.2), b11), rfl, Keeps.mk (ks := [1, 0]) rfl ⟨rfl, trivial⟩ (⟨_, _, rfl, rfl, _, _, rfl, rfl, rfl⟩) rfl⟩
     ·
      rintro ⟨⟨list3, c_3⟩, b10⟩ rfl
      try dsimp only at hm1
      exact ⟨((list3, c_3), b10), Option.some.inj hm1, Keeps.mk (ks := [0, 1]) rfl ⟨rfl, trivial⟩ (⟨_, _, rfl, rfl, _, _, rfl, rfl, rfl⟩) rfl⟩
    ·
     replace hm1 := cond_f hc3 hm1
     refine V.skip ?_
     exact ⟨((list, y3.2), b1), Option.some.inj hm1, Keeps.mk (ks := [1, 0]) rfl ⟨rfl, trivial⟩ (⟨_, _, rfl, rfl, _, _, rfl, rfl, rfl⟩) rfl⟩
  ·
   rintro ⟨⟨list2, c_2⟩, b6⟩ rfl
   try dsimp only at hm0
   refine V.seq ?_
   refine V.region ?_
   refine VO.cons rfl (V1.move rfl rfl rfl lt0 ?_)
   refine VO.cons rfl (V1.assign rfl rfl rfl lt0 ?_)
   refine VO.nil ?_
   refine V.keep 48 [2] [0, 1] (E0 := [(2, .sref b6 4 0 (List.length list2))]) (H0 := [(b6, ⟨4, List.map (encRecord rn) list2⟩), (bp, ⟨3, [encCur ρ0 c_2]⟩)]) rfl (⟨_, _, rfl, rfl, rfl⟩) (⟨_, _, rfl, rfl, _, _, rfl, rfl, rfl⟩) rfl ?_
   refine V.ret ?_
   obtain rfl := Option.some.inj hm0
   exact ⟨_, _, ⟨_, _, rfl, rfl, rfl⟩, List.Sublist.refl _, b6, rfl, rfl⟩

theorem ok_spec_DrawInSeries {ρ0 rn : Nat} {code : List Int} {r : List Record × Int} (h : M.spec_DrawInSeries code = some r) : Does Tryd.prog 63 [.vl ρ0 1 (List.map encU8 code)] [] rn (fun x H => ∃ (ob0_ : Nat), x = .tup [PV.sref ob0_ 4 0 (List.length r.1), .int .i64 r.2] ∧ H = [(ob0_, ⟨4, List.map (encRecord rn) r.1⟩)]) := by
 have hm0 := h; clear h; unfold M.spec_DrawInSeries at hm0
 try dsimp only at hm0
 refine Does.intro (N := 13) Tryd.func63 rfl rfl rfl rfl ?_
 intro w0 S0 L0
 refine V.seq ?_
 refine V.region ?_
 refine VO.cons rfl (V1.assign rfl rfl rfl lt0 ?_)
 refine VO.cons rfl (V1.assign rfl rfl rfl lt0 ?_)
 refine VO.nil ?_
 refine V.seq ?_
 refine V.region ?_
 refine VO.cons rfl (V1.move rfl rfl rfl lt0 ?_)
 refine VO.cons rfl (V1.build rfl rfl zk_128 pl_128 rfl rfl lt0 ?_)
 refine VO.cons rfl (V1.boxN (n := 3) rfl rfl rfl rfl rfl lt0 ?_)
 intro b0
 refine VO.cons rfl (V1.assign rfl rfl rfl lt0 ?_)
 refine VO.nil ?_
 refine V.keep 13 [4] [0] (E0 := [(4, .ref b0 3 0 0)]) (H0 := [(b0, ⟨3, [.agg [.vl ρ0 1 (List.map encU8 code), .int .i64 (0 : Int), .int .u64 (0 : Int)]]⟩)]) rfl (⟨_, _, rfl, rfl, rfl⟩) (⟨_, _, rfl, rfl, rfl⟩) rfl ?_
 refine V.seq ?_
 replace hm0 := bindO hm0; rcases hm0 with ⟨y0, hh0, hm0⟩
 replace hm0 := bindO hm0; rcases hm0 with ⟨y1, hh1, hm0⟩
 refine V.region ?_
 refine VO.cons rfl (V1.move rfl rfl rfl lt0 ?_)
 refine VO.cons rfl (V1.callM 0 (rn + ρ0 + 1) [] [.ref b0 3 0 0] (p := (b0, ⟨3, [.agg [.vl ρ0 1 (List.map encU8 code), .int .i64 (0 : Int), .int .u64 (0 : Int)]]⟩)) rfl rfl rfl cok_169 rfl rfl ⟨_, _, rfl, .same _, rfl⟩ bwNil (ok_spec_l1Cur_held hh0) rfl (.inl rfl) lt0 ?_)
 rintro _ _ ⟨b1, rfl, rfl⟩
 refine VO.cons rfl (V1.move rfl rfl rfl lt0 ?_)
 refine VO.cons rfl (V1.buildSliceT (f := encInt) ([(1 : Int), (2 : Int), (3 : Int), (3 : Int), (7 : Int), (99 : Int), (0 : Int), (100 : Int)] : List Int) rfl rfl esz_76 zk_3 rfl rfl rfl rfl rfl rfl rfl lt0 ?_)
 intro b2
 refine VO.cons rfl (V1.callM 2 (rn + ρ0 + 1) [b2] [.ref b0 3 0 0, .vl (rn + ρ0 + 1) 1 (List.map encInt ([(1 : Int), (2 : Int), (3 : Int), (3 : Int), (7 : Int), (99 : Int), (0 : Int), (100 : Int)] : List Int))] (p := (b0, ⟨3, [encCur ρ0 y0.2]⟩)) rfl rfl rfl cok_120 rfl rfl ⟨_, _, rfl, .same _, ⟨_, _, rfl, Lend.srMap 0 rfl (fun _ => rfl) (.head _), rfl⟩⟩ (bwCons (k := 0) rfl bwNil) (ok_spec_l1Cur_among hh1) rfl (.inr ⟨(by first | omega | (dsimp only; omega)), by rintro _ _ ⟨rfl, rfl⟩; exact ⟨by simp [PV.no, PV.noL, optS_no, noL_iff, nbeq] <;> omega, by intro b ob h; first | exact optH_no (noL_map (fun _ => by simp [PV.no, PV.noL, noL_iff, nbeq]) _) b ob h | (simp only [List.append_assoc, List.mem_append, List.mem_cons, List.mem_singleton, List.not_mem_nil, or_false, Prod.mk.injEq] at h; rcases h with ⟨rfl, rfl⟩ | ⟨rfl, rfl⟩ <;> first | exact noL_map (fun _ => by simp [PV.no, PV.noL, noL_iff, nbeq]) _ | (simp [PV.no, PV.noL, optS_no, noL_iff, nbeq] <;> omega)) | (simp at h; obtain ⟨rfl, rfl⟩ := h; exact noL_map (fun _ => by simp [PV.no, PV.noL, noL_iff, nbeq]) _) | (simp at h; obtain ⟨rfl, rfl⟩ := h; simp [PV.no, PV.noL, optS_no, noL_iff, nbeq] <;> omega)⟩⟩) lt0 ?_)
 rintro _ _ ⟨rfl, rfl⟩
 refine VO.cons rfl (V1.assign rfl rfl rfl lt0 ?_)
 refine VO.cons rfl (V1.assign rfl rfl rfl lt0 ?_)
 refine VO.nil ?_
 refine V.keep 13 [2, 3] [2] (E0 := [(2, .sref b1 4 0 (List.length y0.1)), (3, .int .i64 y1.1)]) (H0 := [(b1, ⟨4, List.map (encRecord rn) y0.1⟩)]) rfl (⟨_, _, rfl, rfl, _, _, rfl, rfl, rfl⟩) (⟨_, _, rfl, rfl, rfl⟩) rfl ?_
 refine V.ret ?_
 obtain rfl := Option.some.inj hm0
 exact ⟨_, _, ⟨_, _, rfl, rfl, _, _, rfl, rfl, rfl⟩, List.Sublist.refl _, b1, rfl, rfl⟩

theorem ok_impl_AreRecords {ρ0 σ0 rn : Nat} {list : List Record} {r : Bool} (h : M.impl_AreRecords list = some r) : Does Tryd.prog 67 [.vl ρ0 4 (List.map (encRecord σ0) list)] [] rn (fun x H => x = .bool r ∧ H = []) := by
 have hm0 := h; clear h; unfold M.impl_AreRecords at hm0
 try dsimp only at hm0
 refine Does.intro (N := 34) Tryd.func67 rfl rfl rfl rfl ?_
 intro w0 S0 L0
 refine V.seq ?_
 refine V.region ?_
 refine VO.cons rfl (V1.assign rfl rfl rfl lt0 ?_)
 refine VO.nil ?_
 refine V.seq ?_
 refine V.seq ?_
 refine V.region ?_
 refine VO.cons rfl (V1.move rfl rfl rfl lt0 ?_)
 refine VO.cons rfl (V1.lenMap rfl rfl rfl rfl rfl rfl isl_73 lt0 ?_)
 refine VO.cons rfl (V1.move rfl rfl rfl lt0 ?_)
 refine VO.nil ?_
 replace hm0 := bindO hm0; rcases hm0 with ⟨e0, he1, hm0⟩
 refine V.cutT (D := (Unit) × (Unit)) (fun ⟨_, _⟩ => ⟨34, [(0, .vl ρ0 4 (List.map (encRecord σ0) list))], []⟩) (fun ⟨_, _⟩ => (.inl () = e0)) ?_ ?_
 ·
  refine V.block ?_
  refine V.keep 34 [7, 0, 5, 6] [] (E0 := [(7, .int .i64 (0 : Int)), (0, .vl ρ0 4 (List.map (encRecord σ0) list)), (5, .vl ρ0 4 (List.map (encRecord σ0) list)), (6, .int .i64 (list.length : Int))]) (H0 := []) rfl (⟨_, _, rfl, rfl, _, _, rfl, rfl, _, _, rfl, rfl, _, _, rfl, rfl, rfl⟩) (rfl) rfl ?_
  refine V.loopE (D := Nat × (Int) × (Unit)) (fun ⟨n0, v, _⟩ => [(7, .int .i64 v)]) (fun ⟨n0, v, _⟩ => []) (fun ⟨n0, v, _⟩ => loopO (M.impl_AreRecords_l0 list) n0 v = some e0) (fun ⟨n0, _, _⟩ => n0) (rounds, (0 : Int), ()) rfl he1 ?_
  rintro ⟨n0, v, _⟩ hP0
  obtain ⟨m0, y0, rfl, hm1, hl1, hr1⟩ := loop_head hP0
  unfold M.impl_AreRecords_l0 at hm1; dsimp only at hm1
  show V _ _ _ ⟨34, [(7, .int .i64 v), (0, .vl ρ0 4 (List.map (encRecord σ0) list)), (5, .vl ρ0 4 (List.map (encRecord σ0) list)), (6, .int .i64 (list.length : Int))], []⟩
  refine V.seq ?_
  refine V.region ?_
  refine VO.cons rfl (V1.int rfl rfl rfl rfl rfl lt0 ?_)
  refine VO.nil ?_
  refine V.seq ?_
  refine V.cond rfl (fun hc0 => ?_) (fun hc0 => ?_)
  ·
   replace hm1 := cond_t hc0 hm1
   refine V.skip ?_
   refine V.seq ?_
   refine V.block ?_
   refine V.seq ?_
   replace hm1 := asrt_some hm1; rcases hm1 with ⟨hh0, hm1⟩
   refine V.region ?_
   refine VO.cons rfl (V1.move rfl rfl rfl lt0 ?_)
   refine VO.cons rfl (V1.indexI rfl rfl esz_73 rfl rfl hh0 lt0 ?_)
   refine VO.cons rfl (V1.loadPinAll rfl rfl tyk_39 rfl rfl lt0 ?_)
   refine VO.cons rfl (V1.alloc rfl rfl zk_39 lt0 ?_)
   intro b0
   refine VO.cons rfl (V1.assign rfl rfl rfl lt0 ?_)
   refine VO.cons rfl (V1.storeRefAll (k := 0) rfl rfl tyk_39 rfl rfl rfl rfl rfl rfl ?_)
   refine VO.nil ?_
   refine V.keep 34 [0, 3, 4, 5, 6, 7] [0] (E0 := [(0, .vl ρ0 4 (List.map (encRecord σ0) list)), (3, .int .i64 v), (4, .ref b0 4 0 0), (5, .vl ρ0 4 (List.map (encRecord σ0) list)), (6, .int .i64 (list.length : Int)), (7, .int .i64 v)]) (H0 := [(b0, ⟨4, [encRecord σ0 (list.getD (Int.toNat v) default)]⟩)]) rfl (⟨_, _, rfl, rfl, _, _, rfl, rfl, _, _, rfl, rfl, _, _, rfl, rfl, _, _, rfl, rfl, _, _, rfl, rfl, rfl⟩) (⟨_, _, rfl, rfl, rfl⟩) rfl ?_
   refine V.seq ?_
   replace hm1 := bindO hm1; rcases hm1 with ⟨y1, hh1, hm1⟩
   replace hm1 := asrt_some hm1; rcases hm1 with ⟨hh2, hm1⟩
   refine V.regionM 34 18 [⟨[(4, none)], [], none⟩, ⟨[(12, some 0)], [], none⟩, ⟨[(13, some 0)], [], none⟩, ⟨[(14, some 0)], [], none⟩, ⟨[(3, none)], [(0, false)], none⟩, ⟨[(16, some 0)], [(1, false)], none⟩, ⟨[(17, some 0)], [(2, false)], none⟩, ⟨[(0, none)], [(0, true), (3, false)], none⟩, ⟨[(3, none)], [(1, true), (4, false)], none⟩, ⟨[(20, some 0)], [(2, true), (5, false)], none⟩, ⟨[(19, some 2), (21, some 0)], [(3, true), (6, false)], none⟩, ⟨[(22, some 0)], [(4, true), (7, false)], none⟩, ⟨[(23, some 0)], [(5, true), (8, false)], none⟩, ⟨[(4, none)], [(6, true), (9, false)], none⟩, ⟨[(25, some 0)], [(7, true), (10, false)], none⟩, ⟨[(24, some 2), (26, some 0)], [(8, true), (11, false)], none⟩, ⟨[], [(12, false)], some (true, 18, 27, 9, 0)⟩, ⟨[], [], some (false, 15, 28, 13, 0)⟩] [(0, none), (5, none), (6, none), (7, none), (29, some 0)] (⟨_, rfl, ⟨_, rfl, ⟨_, rfl, ⟨_, rfl, ⟨_, rfl, ⟨_, rfl, ⟨_, rfl, ⟨_, rfl, ⟨_, rfl, ⟨_, rfl, ⟨_, rfl, ⟨_, rfl, ⟨_, rfl, ⟨_, rfl, ⟨_, rfl, ⟨_, rfl, ⟨_, rfl, ⟨_, rfl, ⟨rfl, rfl⟩⟩⟩⟩⟩⟩⟩⟩⟩⟩⟩⟩⟩⟩⟩⟩⟩⟩⟩) mixed_orders rfl (by decide +kernel) (fun hck4 => ?_)
   refine VP.step (p := ?pv146) rfl rfl rfl (⟨_, _, rfl, rfl, rfl⟩) ?hv146 ?rest146 hck4
   case hv146 =>
    intro E1
    refine (V1.loadRefAll (k := 0) rfl rfl tyk_39 rfl rfl rfl rfl rfl lt0 ?_)
    exact rfl
   refine VP.step (p := ?pv147) rfl rfl rfl (⟨_, _, rfl, rfl, rfl⟩) ?hv147 ?rest147 hck4
   case hv147 =>
    intro E1
    refine (V1.call rfl rfl rfl cok_55 rfl (ok_impl_IsRecord hh1) rfl lt0 ?_)
    rintro _ _ ⟨rfl, rfl⟩
    exact rfl
   refine VP.step (p := ?pv149) rfl rfl rfl (⟨_, _, rfl, rfl, rfl⟩) ?hv149 ?rest149 hck4
   case hv149 =>
    intro E1
    refine (V1.not rfl rfl rfl lt0 ?_)
    exact rfl
   refine VP.step (p := ?pv150) rfl rfl rfl (⟨_, _, rfl, rfl, rfl⟩) ?hv150 ?rest150 hck4
   case hv150 =>
    intro E1
    refine (V1.move rfl rfl rfl lt0 ?_)
    exact rfl
   refine VP.step (p := ?pv151) rfl rfl rfl (⟨_, _, rfl, rfl, rfl⟩) ?hv151 ?rest151 hck4
   case hv151 =>
    refine ⟨_, rfl, fun hg0 => ?_⟩
    intro E1
    refine (V1.move rfl rfl rfl lt0 ?_)
    exact rfl
   refine VP.step (p := ?pv152) rfl rfl rfl (⟨_, _, rfl, rfl, rfl⟩) ?hv152 ?rest152 hck4
   case hv152 =>
    refine ⟨_, rfl, fun hg0 => ?_⟩
    intro E1
    refine (V1.int rfl rfl rfl rfl rfl lt0 ?_)
    exact rfl
   refine VP.step (p := ?pv153) rfl rfl rfl (⟨_, _, rfl, rfl, rfl⟩) ?hv153 ?rest153 hck4
   case hv153 =>
    refine ⟨_, rfl, fun hg0 => ?_⟩
    intro E1
    refine (V1.move rfl rfl rfl lt0 ?_)
    exact rfl
   refine VP.step (p := ?pv154) rfl rfl rfl (⟨_, _, rfl, rfl, rfl⟩) ?hv154 ?rest154 hck4
   case hv154 =>
    refine ⟨_, rfl, fun hg1 => ?_⟩
    refine ⟨_, rfl, fun hg0 => ?_⟩
    intro E1
    refine (V1.move rfl rfl rfl lt0 ?_)
    exact rfl
   refine VP.step (p := ?pv155) rfl rfl rfl (⟨_, _, rfl, rfl, rfl⟩) ?hv155 ?rest155 hck4
   case hv155 =>
    refine ⟨_, rfl, fun hg1 => ?_⟩
    refine ⟨_, rfl, fun hg0 => ?_⟩
    intro E1
    refine (V1.move rfl rfl rfl lt0 ?_)
    exact rfl
   refine VP.step (p := ?pv156) rfl rfl rfl (⟨_, _, rfl, rfl, rfl⟩) ?hv156 ?rest156 hck4
   case hv156 =>
    refine ⟨_, rfl, fun hg1 => ?_⟩
    refine ⟨_, rfl, fun hg0 => ?_⟩
    intro E1
    refine (V1.int rfl rfl rfl rfl rfl lt0 ?_)
    exact rfl
   refine VP.step (p := ?pv157) rfl rfl rfl (⟨_, _, rfl, rfl, _, _, rfl, rfl, rfl⟩) ?hv157 ?rest157 hck4
   case hv157 =>
    refine ⟨_, rfl, fun hg1 => ?_⟩
    refine ⟨_, rfl, fun hg0 => ?_⟩
    intro E1
    refine (V1.indexI rfl rfl esz_73 rfl rfl (hh2 hg0 hg1) lt0 ?_)
    exact rfl
   refine VP.step (p := ?pv158) rfl rfl rfl (⟨_, _, rfl, rfl, rfl⟩) ?hv158 ?rest158 hck4
   case hv158 =>
    refine ⟨_, rfl, fun hg1 => ?_⟩
    refine ⟨_, rfl, fun hg0 => ?_⟩
    intro E1
    refine (V1.fieldPin rfl rfl fo_39_0 rfl lt0 ?_)
    exact rfl
   refine VP.step (p := ?pv159) rfl rfl rfl (⟨_, _, rfl, rfl, rfl⟩) ?hv159 ?rest159 hck4
   case hv159 =>
    refine ⟨_, rfl, fun hg1 => ?_⟩
    refine ⟨_, rfl, fun hg0 => ?_⟩
    intro E1
    refine (V1.loadPin rfl rfl tyk_3 rfl rfl lt0 ?_)
    exact rfl
   refine VP.step (p := ?pv160) rfl rfl rfl (⟨_, _, rfl, rfl, rfl⟩) ?hv160 ?rest160 hck4
   case hv160 =>
    refine ⟨_, rfl, fun hg1 => ?_⟩
    refine ⟨_, rfl, fun hg0 => ?_⟩
    intro E1
    refine (V1.fieldRef rfl rfl fo_39_0 rfl lt0 ?_)
    exact rfl
   refine VP.step (p := ?pv161) rfl rfl rfl (⟨_, _, rfl, rfl, rfl⟩) ?hv161 ?rest161 hck4
   case hv161 =>
    refine ⟨_, rfl, fun hg1 => ?_⟩
    refine ⟨_, rfl, fun hg0 => ?_⟩
    intro E1
    refine (V1.loadRef (k := 0) rfl rfl tyk_3 rfl rfl rfl rfl rfl lt0 ?_)
    exact rfl
   refine VP.step (p := ?pv162) rfl rfl rfl (⟨_, _, rfl, rfl, _, _, rfl, rfl, rfl⟩) ?hv162 ?rest162 hck4
   case hv162 =>
    refine ⟨_, rfl, fun hg1 => ?_⟩
    refine ⟨_, rfl, fun hg0 => ?_⟩
    intro E1
    refine (V1.int rfl rfl rfl rfl rfl lt0 ?_)
    exact rfl
   refine VP.pickAnd rfl rfl rfl rfl rfl rfl (⟨_, rfl, fun _ => trivial⟩) ?_ hck4
   refine VP.pickOr rfl rfl rfl rfl rfl rfl (trivial) ?_ hck4
   refine VP.fin rfl (⟨_, _, rfl, rfl, _, _, rfl, rfl, _, _, rfl, rfl, _, _, rfl, rfl, _, _, rfl, rfl, rfl⟩) ?_
   refine VO.nil ?_
   refine V.cond rfl (fun hc1 => ?_) (fun hc1 => ?_)
   ·
    replace hm1 := cond_t hc1 hm1
    refine V.seq ?_
    refine V.region ?_
    refine VO.cons rfl (V1.assign rfl rfl rfl lt0 ?_)
    refine VO.nil ?_
    refine V.ret ?_
    obtain rfl := hr1 _ (Option.some.inj hm1).symm
    change some _ = some _ at hm0
    obtain rfl := Option.some.inj hm0
    exact ⟨_, [], ⟨_, _, rfl, rfl, rfl⟩, List.nil_sublist _, rfl, rfl⟩
   ·
    replace hm1 := cond_f hc1 hm1
    refine V.skip ?_
    refine V.region ?_
    refine VO.cons rfl (V1.int rfl rfl rfl rfl rfl lt0 ?_)
    refine VO.cons rfl (V1.move rfl rfl rfl lt0 ?_)
    refine VO.nil ?_
    exact ⟨(m0, (IntKind.i64.wrap (v + (1 : Int))), ()), hl1 _ (Option.some.inj hm1).symm, Nat.lt_succ_self _, Keeps.mk (ks := []) rfl ⟨rfl, rfl, rfl, rfl, trivial⟩ (rfl) rfl⟩
  ·
   replace hm1 := cond_f hc0 hm1
   refine V.exit ?_
   obtain rfl := hr1 _ (Option.some.inj hm1).symm
   exact ⟨((), ()), rfl, Keeps.mk (ks := []) rfl ⟨rfl, trivial⟩ (rfl) rfl⟩
 ·
  rintro ⟨_, _⟩ rfl
  try dsimp only at hm0
  refine V.seq ?_
  refine V.region ?_
  refine VO.cons rfl (V1.move rfl rfl rfl lt0 ?_)
  refine VO.cons rfl (V1.lenMap rfl rfl rfl rfl rfl rfl isl_73 lt0 ?_)
  refine VO.cons rfl (V1.int rfl rfl rfl rfl rfl lt0 ?_)
  refine VO.cons rfl (V1.assign rfl rfl rfl lt0 ?_)
  refine VO.nil ?_
  refine V.ret ?_
  obtain rfl := Option.some.inj hm0
  exact ⟨_, [], ⟨_, _, rfl, rfl, rfl⟩, List.nil_sublist _, rfl, rfl⟩

theorem ok_impl_InSeries {ρ0 σ0 rn : Nat} {list : List Record} {series : Int} {r : List Int × Bool} (h : M.impl_InSeries list series = some r) : Does Tryd.prog 64 [.vl ρ0 4 (List.map (encRecord σ0) list), .int .i64 series] [] rn (fun x H => ∃ (ob0_ : Option Nat), (ob0_ = none → r.1 = []) ∧ x = .tup [optS 1 ob0_ (List.length r.1), .bool r.2] ∧ H = optH 1 ob0_ (List.map encInt r.1)) := by
 have hm0 := h; clear h; unfold M.impl_InSeries at hm0
 try dsimp only at hm0
 refine Does.intro (N := 34) Tryd.func64 rfl rfl rfl rfl ?_
 intro w0 S0 L0
 refine V.seq ?_
 refine V.region ?_
 refine VO.cons rfl (V1.assign rfl rfl rfl lt0 ?_)
 refine VO.cons rfl (V1.assign rfl rfl rfl lt0 ?_)
 refine VO.nil ?_
 refine V.seq ?_
 refine V.seq ?_
 replace hm0 := bindO hm0; rcases hm0 with ⟨y0, hh0, hm0⟩
 replace hm0 := bindO hm0; rcases hm0 with ⟨y1, hh1, hm0⟩
 refine V.region ?_
 refine VO.cons rfl (V1.move rfl rfl rfl lt0 ?_)
 refine VO.cons rfl (V1.call rfl rfl rfl cok_67 rfl (ok_impl_AreRecords hh0) rfl lt0 ?_)
 rintro _ _ ⟨rfl, rfl⟩
 refine VO.cons rfl (V1.not rfl rfl rfl lt0 ?_)
 refine VO.cons rfl (V1.move rfl rfl rfl lt0 ?_)
 apply VO.or (n := 3) rfl rfl rfl rfl rfl rfl lt0 (.none rfl)
 ·
  intro hg0
  refine VO.step (.some rfl rfl rfl) (V1.move rfl rfl rfl lt0 ?_)
  refine VO.step (.some rfl rfl rfl) (V1.call rfl rfl rfl cok_162 rfl (ok_impl_isId (cond_f hg0 hh1)) rfl lt0 ?_)
  rintro _ _ ⟨rfl, rfl⟩
  refine VO.step (.some rfl rfl rfl) (V1.not rfl rfl rfl lt0 ?_)
  exact VO.nil ⟨rfl, rfl, rfl, rfl, .inr ⟨rfl, .inr ⟨rfl, .inr ⟨rfl, .inr ⟨rfl, .inl rfl⟩⟩⟩⟩⟩
 refine VO.nil ?_
 refine V.keep 34 [0, 1, 16] [] (E0 := [(0, .vl ρ0 4 (List.map (encRecord σ0) list)), (1, .int .i64 series), (16, .bool ((!y0) || (!y1)))]) (H0 := []) rfl (⟨_, _, rfl, rfl, _, _, rfl, rfl, _, _, rfl, rfl, rfl⟩) (rfl) rfl ?_
 refine V.cond rfl (fun hc0 => ?_) (fun hc0 => ?_)
 ·
  replace hm0 := cond_t hc0 hm0
  refine V.seq ?_
  refine V.region ?_
  refine VO.cons rfl (V1.assign rfl rfl rfl lt0 ?_)
  refine VO.cons rfl (V1.assign rfl rfl rfl lt0 ?_)
  refine VO.nil ?_
  refine V.keep 34 [4, 5] [] (E0 := [(4, .nils), (5, .bool false)]) (H0 := []) rfl (⟨_, _, rfl, rfl, _, _, rfl, rfl, rfl⟩) (rfl) rfl ?_
  refine V.ret ?_
  obtain rfl := Option.some.inj hm0
  exact ⟨_, _, ⟨_, _, rfl, rfl, _, _, rfl, rfl, rfl⟩, List.Sublist.refl _, none, (fun _ => rfl), rfl, rfl⟩
 ·
  replace hm0 := cond_f hc0 hm0
  refine V.skip ?_
  refine V.seq ?_
  refine V.region ?_
  refine VO.cons rfl (V1.assign rfl rfl rfl lt0 ?_)
  refine VO.nil ?_
  refine V.seq ?_
  refine V.seq ?_
  refine V.region ?_
  refine VO.cons rfl (V1.move rfl rfl rfl lt0 ?_)
  refine VO.cons rfl (V1.lenMap rfl rfl rfl rfl rfl rfl isl_73 lt0 ?_)
  refine VO.cons rfl (V1.move rfl rfl rfl lt0 ?_)
  refine VO.nil ?_
  replace hm0 := bindO hm0; rcases hm0 with ⟨e0, he1, hm0⟩
  refine V.cutT (D := (List Int) × (Option Nat)) (fun ⟨ids, ob0⟩ => ⟨34, [(6, optS 1 ob0 (List.length ids))], optH 1 ob0 (List.map encInt ids)⟩) (fun ⟨ids, ob0⟩ => (ids = e0) ∧ (ob0 = none → ids = [])) ?_ ?_
  ·
   refine V.block ?_
   refine V.keep 34 [6, 19, 1, 17, 18] [] (E0 := [(6, .nils), (19, .int .i64 (0 : Int)), (1, .int .i64 series), (17, .vl ρ0 4 (List.map (encRecord σ0) list)), (18, .int .i64 (list.length : Int))]) (H0 := []) rfl (⟨_, _, rfl, rfl, _, _, rfl, rfl, _, _, rfl, rfl, _, _, rfl, rfl, _, _, rfl, rfl, rfl⟩) (rfl) rfl ?_
   refine V.loopE (D := Nat × (List Int × Int) × (Option Nat)) (fun ⟨n0, ⟨ids0, v⟩, ob1⟩ => [(6, optS 1 ob1 (List.length ids0)), (19, .int .i64 v)]) (fun ⟨n0, ⟨ids0, v⟩, ob1⟩ => optH 1 ob1 (List.map encInt ids0)) (fun ⟨n0, ⟨ids0, v⟩, ob1⟩ => loopO (M.impl_InSeries_l0 list series) n0 (ids0, v) = some e0 ∧ (ob1 = none → ids0 = [])) (fun ⟨n0, _, _⟩ => n0) (rounds, (([] : List Int), (0 : Int)), none) rfl ⟨he1, (fun _ => rfl)⟩ ?_
   rintro ⟨n0, ⟨ids0, v⟩, ob1⟩ ⟨hP0, hob1⟩
   obtain ⟨m0, y2, rfl, hm1, hl1, hr1⟩ := loop_head hP0
   unfold M.impl_InSeries_l0 at hm1; dsimp only at hm1
   rcases ob1 with _ | ob1
   ·
    replace hob1 := hob1 rfl
    show V _ _ _ ⟨34, [(6, .nils), (19, .int .i64 v), (1, .int .i64 series), (17, .vl ρ0 4 (List.map (encRecord σ0) list)), (18, .int .i64 (list.length : Int))], []⟩
    refine V.seq ?_
    refine V.region ?_
    refine VO.cons rfl (V1.int rfl rfl rfl rfl rfl lt0 ?_)
    refine VO.nil ?_
    refine V.seq ?_
    refine V.cond rfl (fun hc1 => ?_) (fun hc1 => ?_)
    ·
     replace hm1 := cond_t hc1 hm1
     refine V.skip ?_
     refine V.seq ?_
     replace hm1 := bindO hm1; rcases hm1 with ⟨j0, hm2, hm1⟩
     refine V.cutT (D := (List Int) × (Option Nat)) (fun ⟨ids1, ob2⟩ => ⟨34, [(6, optS 1 ob2 (List.length ids1)), (1, .int .i64 series), (17, .vl ρ0 4 (List.map (encRecord σ0) list)), (18, .int .i64 (list.length : Int)), (19, .int .i64 v)], optH 1 ob2 (List.map encInt ids1)⟩) (fun ⟨ids1, ob2⟩ => (ids1 = j0) ∧ (ob2 = none → ids1 = [])) ?_ ?_
     ·
      refine V.block ?_
      refine V.seq ?_
      replace hm2 := asrt_some hm2; rcases hm2 with ⟨hh2, hm2⟩
      refine V.region ?_
      refine VO.cons rfl (V1.indexI rfl rfl esz_73 rfl rfl hh2 lt0 ?_)
      refine VO.cons rfl (V1.loadPinAll rfl rfl tyk_39 rfl rfl lt0 ?_)
      refine VO.cons rfl (V1.alloc rfl rfl zk_39 lt0 ?_)
      intro b0
      refine VO.cons rfl (V1.storeRefAll (k := 0) rfl rfl tyk_39 rfl rfl rfl rfl rfl rfl ?_)
      refine VO.nil ?_
      refine V.seq ?_
      refine V.region ?_
      refine VO.cons rfl (V1.fieldRef rfl rfl fo_39_1 rfl lt0 ?_)
      refine VO.cons rfl (V1.loadRef (k := 0) rfl rfl tyk_3 rfl rfl rfl rfl rfl lt0 ?_)
      refine VO.cons rfl (V1.move rfl rfl rfl lt0 ?_)
      refine VO.cons rfl (V1.int rfl rfl rfl rfl rfl lt0 ?_)
      refine VO.nil ?_
      refine V.keep 34 [1, 6, 8, 17, 18, 19, 26] [0] (E0 := [(1, .int .i64 series), (6, .nils), (8, .ref b0 4 0 0), (17, .vl ρ0 4 (List.map (encRecord σ0) list)), (18, .int .i64 (list.length : Int)), (19, .int .i64 v), (26, .bool (((list.getD (Int.toNat v) default).Series) == series))]) (H0 := [(b0, ⟨4, [encRecord σ0 (list.getD (Int.toNat v) default)]⟩)]) rfl (⟨_, _, rfl, rfl, _, _, rfl, rfl, _, _, rfl, rfl, _, _, rfl, rfl, _, _, rfl, rfl, _, _, rfl, rfl, _, _, rfl, rfl, rfl⟩) (⟨_, _, rfl, rfl, rfl⟩) rfl ?_
      refine V.cond rfl (fun hc2 => ?_) (fun hc2 => ?_)
      ·
       replace hm2 := cond_t hc2 hm2
       replace hm2 := asrt_some hm2; rcases hm2 with ⟨hh3, hm2⟩
       refine V.region ?_
       refine VO.cons rfl (V1.move rfl rfl rfl lt0 ?_)
       refine VO.cons rfl (V1.fieldRef rfl rfl fo_39_0 rfl lt0 ?_)
       refine VO.cons rfl (V1.loadRef (k := 0) rfl rfl tyk_3 rfl rfl rfl rfl rfl lt0 ?_)
       refine VO.cons rfl (V1.buildSliceT (f := encInt) ([(list.getD (Int.toNat v) default).Id] : List Int) rfl rfl esz_76 zk_3 rfl rfl rfl rfl rfl rfl rfl lt0 ?_)
       intro b1
       refine VO.cons rfl (V1.appendNilE (f := encInt) (l := ids0) (m := ([(list.getD (Int.toNat v) default).Id] : List Int)) hob1 rfl rfl rfl rfl rfl esz_76 eby_76 zk_3 rfl rfl rfl (SrcOf.srMap (k := 0) rfl isl_76) rfl hh3 lt0 ?_)
       intro b2
       refine VO.cons rfl (V1.assign rfl rfl rfl lt0 ?_)
       refine VO.nil ?_
       exact ⟨((ids0 ++ ([(list.getD (Int.toNat v) default).Id] : List Int)), (some b2)), ⟨Option.some.inj hm2, (fun e => by cases e)⟩, Keeps.mk (ks := [0]) rfl ⟨rfl, rfl, rfl, rfl, rfl, trivial⟩ (⟨_, _, rfl, rfl, rfl⟩) rfl⟩
      ·
       replace hm2 := cond_f hc2 hm2
       refine V.skip ?_
       exact ⟨(ids0, none), ⟨Option.some.inj hm2, (fun _ => hob1)⟩, Keeps.mk (ks := []) rfl ⟨rfl, rfl, rfl, rfl, rfl, trivial⟩ (rfl) rfl⟩
     ·
      rintro ⟨ids1, ob2⟩ ⟨rfl, hob2⟩
      try dsimp only at hm1
      rcases ob2 with _ | ob2
      ·
       replace hob2 := hob2 rfl
       refine V.region ?_
       refine VO.cons rfl (V1.int rfl rfl rfl rfl rfl lt0 ?_)
       refine VO.cons rfl (V1.move rfl rfl rfl lt0 ?_)
       refine VO.nil ?_
       exact ⟨(m0, (ids1, (IntKind.i64.wrap (v + (1 : Int)))), none), ⟨hl1 _ (Option.some.inj hm1).symm, (fun _ => hob2)⟩, Nat.lt_succ_self _, Keeps.mk (ks := []) rfl ⟨rfl, rfl, rfl, rfl, rfl, trivial⟩ (rfl) rfl⟩
      ·
       refine V.region ?_
       refine VO.cons rfl (V1.int rfl rfl rfl rfl rfl lt0 ?_)
       refine VO.cons rfl (V1.move rfl rfl rfl lt0 ?_)
       refine VO.nil ?_
       exact ⟨(m0, (ids1, (IntKind.i64.wrap (v + (1 : Int)))), (some ob2)), ⟨hl1 _ (Option.some.inj hm1).symm, (fun e => by cases e)⟩, Nat.lt_succ_self _, Keeps.mk (ks := [0]) rfl ⟨rfl, rfl, rfl, rfl, rfl, trivial⟩ (⟨_, _, rfl, rfl, rfl⟩) rfl⟩
    ·
     replace hm1 := cond_f hc1 hm1
     refine V.exit ?_
     obtain rfl := hr1 _ (Option.some.inj hm1).symm
     exact ⟨(ids0, none), ⟨rfl, (fun _ => hob1)⟩, Keeps.mk (ks := []) rfl ⟨rfl, trivial⟩ (rfl) rfl⟩
   ·
    show V _ _ _ ⟨34, [(6, .sref ob1 1 0 (List.length ids0)), (19, .int .i64 v), (1, .int .i64 series), (17, .vl ρ0 4 (List.map (encRecord σ0) list)), (18, .int .i64 (list.length : Int))], [(ob1, ⟨1, List.map encInt ids0⟩)]⟩
    refine V.seq ?_
    refine V.region ?_
    refine VO.cons rfl (V1.int rfl rfl rfl rfl rfl lt0 ?_)
    refine VO.nil ?_
    refine V.seq ?_
    refine V.cond rfl (fun hc1 => ?_) (fun hc1 => ?_)
    ·
     replace hm1 := cond_t hc1 hm1
     refine V.skip ?_
     refine V.seq ?_
     replace hm1 := bindO hm1; rcases hm1 with ⟨j0, hm2, hm1⟩
     refine V.cutT (D := (List Int) × (Nat)) (fun ⟨ids1, b0⟩ => ⟨34, [(6, .sref b0 1 0 (List.length ids1)), (1, .int .i64 series), (17, .vl ρ0 4 (List.map (encRecord σ0) list)), (18, .int .i64 (list.length : Int)), (19, .int .i64 v)], [(b0, ⟨1, List.map encInt ids1⟩)]⟩) (fun ⟨ids1, b0⟩ => (ids1 = j0)) ?_ ?_
     ·
      refine V.block ?_
      refine V.seq ?_
      replace hm2 := asrt_some hm2; rcases hm2 with ⟨hh2, hm2⟩
      refine V.region ?_
      refine VO.cons rfl (V1.indexI rfl rfl esz_73 rfl rfl hh2 lt0 ?_)
      refine VO.cons rfl (V1.loadPinAll rfl rfl tyk_39 rfl rfl lt0 ?_)
      refine VO.cons rfl (V1.alloc rfl rfl zk_39 lt0 ?_)
      intro b1
      refine VO.cons rfl (V1.storeRefAll (k := 0) rfl rfl tyk_39 rfl rfl rfl rfl rfl rfl ?_)
      refine VO.nil ?_
      refine V.seq ?_
      refine V.region ?_
      refine VO.cons rfl (V1.fieldRef rfl rfl fo_39_1 rfl lt0 ?_)
      refine VO.cons rfl (V1.loadRef (k := 0) rfl rfl tyk_3 rfl rfl rfl rfl rfl lt0 ?_)
      refine VO.cons rfl (V1.move rfl rfl rfl lt0 ?_)
      refine VO.cons rfl (V1.int rfl rfl rfl rfl rfl lt0 ?_)
      refine VO.nil ?_
      refine V.keep 34 [1, 6, 8, 17, 18, 19, 26] [0, 1] (E0 := [(1, .int .i64 series), (6, .sref ob1 1 0 (List.length ids0)), (8, .ref b1 4 0 0), (17, .vl ρ0 4 (List.map (encRecord σ0) list)), (18, .int .i64 (list.length : Int)), (19, .int .i64 v), (26, .bool (((list.getD (Int.toNat v) default).Series) == series))]) (H0 := [(b1, ⟨4, [encRecord σ0 (list.getD (Int.toNat v) default)]⟩), (ob1, ⟨1, List.map encInt ids0⟩)]) rfl (⟨_, _, rfl, rfl, _, _, rfl, rfl, _, _, rfl, rfl, _, _, rfl, rfl, _, _, rfl, rfl, _, _, rfl, rfl, _, _, rfl, rfl, rfl⟩) (⟨_, _, rfl, rfl, _, _, rfl, rfl, rfl⟩) rfl ?_
      refine V.cond rfl (fun hc2 => ?_) (fun hc2 => ?_)
      ·
       replace hm2 := cond_t hc2 hm2
       replace hm2 := asrt_some hm2; rcases hm2 with ⟨hh3, hm2⟩
       refine V.region ?_
       refine VO.cons rfl (V1.move rfl rfl rfl lt0 ?_)
       refine VO.cons rfl (V1.fieldRef rfl rfl fo_39_0 rfl lt0 ?_)
       refine VO.cons rfl (V1.loadRef (k := 0) rfl rfl tyk_3 rfl rfl rfl rfl rfl lt0 ?_)
       refine VO.cons rfl (V1.buildSliceT (f := encInt) ([(list.getD (Int.toNat v) default).Id] : List Int) rfl rfl esz_76 zk_3 rfl rfl rfl rfl rfl rfl rfl lt0 ?_)
       intro b2
       refine VO.cons rfl (V1.appendMap (k := 2) (f := encInt) (l := ids0) (m := ([(list.getD (Int.toNat v) default).Id] : List Int)) rfl rfl rfl rfl rfl esz_76 eby_76 zk_3 rfl rfl rfl (SrcOf.srMap (k := 0) rfl isl_76) hh3 lt0 ?_)
       intro b3
       refine VO.cons rfl (V1.assign rfl rfl rfl lt0 ?_)
       refine VO.nil ?_
       exact ⟨((ids0 ++ ([(list.getD (Int.toNat v) default).Id] : List Int)), b3), Option.some.inj hm2, Keeps.mk (ks := [0]) rfl ⟨rfl, rfl, rfl, rfl, rfl, trivial⟩ (⟨_, _, rfl, rfl, rfl⟩) rfl⟩
      ·
       replace hm2 := cond_f hc2 hm2
       refine V.skip ?_
       exact ⟨(ids0, ob1), Option.some.inj hm2, Keeps.mk (ks := [1]) rfl ⟨rfl, rfl, rfl, rfl, rfl, trivial⟩ (⟨_, _, rfl, rfl, rfl⟩) rfl⟩
     ·
      rintro ⟨ids1, b0⟩ rfl
      try dsimp only at hm1
      refine V.region ?_
      refine VO.cons rfl (V1.int rfl rfl rfl rfl rfl lt0 ?_)
      refine VO.cons rfl (V1.move rfl rfl rfl lt0 ?_)
      refine VO.nil ?_
      exact ⟨(m0, (ids1, (IntKind.i64.wrap (v + (1 : Int)))), (some b0)), ⟨hl1 _ (Option.some.inj hm1).symm, (fun e => by cases e)⟩, Nat.lt_succ_self _, Keeps.mk (ks := [0]) rfl ⟨rfl, rfl, rfl, rfl, rfl, trivial⟩ (⟨_, _, rfl, rfl, rfl⟩) rfl⟩
    ·
     replace hm1 := cond_f hc1 hm1
     refine V.exit ?_
     obtain rfl := hr1 _ (Option.some.inj hm1).symm
     exact ⟨(ids0, (some ob1)), ⟨rfl, (fun e => by cases e)⟩, Keeps.mk (ks := [0]) rfl ⟨rfl, trivial⟩ (⟨_, _, rfl, rfl, rfl⟩) rfl⟩
  ·
   rintro ⟨ids, ob0⟩ ⟨rfl, hob0⟩
   try dsimp only at hm0
   rcases ob0 with _ | ob0
   ·
    replace hob0 := hob0 rfl
    refine V.seq ?_
    refine V.region ?_
    refine VO.cons rfl (V1.move rfl rfl rfl lt0 ?_)
    refine VO.cons rfl (V1.assign rfl rfl rfl lt0 ?_)
    refine VO.cons rfl (V1.assign rfl rfl rfl lt0 ?_)
    refine VO.nil ?_
    refine V.keep 34 [4, 5] [] (E0 := [(4, .nils), (5, .bool true)]) (H0 := []) rfl (⟨_, _, rfl, rfl, _, _, rfl, rfl, rfl⟩) (rfl) rfl ?_
    refine V.ret ?_
    obtain rfl := Option.some.inj hm0
    exact ⟨_, _, ⟨_, _, rfl, rfl, _, _, rfl, rfl, rfl⟩, List.Sublist.refl _, none, (fun _ => hob0), rfl, rfl⟩
   ·
    refine V.seq ?_
    refine V.region ?_
    refine VO.cons rfl (V1.move rfl rfl rfl lt0 ?_)
    refine VO.cons rfl (V1.assign rfl rfl rfl lt0 ?_)
    refine VO.cons rfl (V1.assign rfl rfl rfl lt0 ?_)
    refine VO.nil ?_
    refine V.keep 34 [4, 5] [0] (E0 := [(4, .sref ob0 1 0 (List.length ids)), (5, .bool true)]) (H0 := [(ob0, ⟨1, List.map encInt ids⟩)]) rfl (⟨_, _, rfl, rfl, _, _, rfl, rfl, rfl⟩) (⟨_, _, rfl, rfl, rfl⟩) rfl ?_
    refine V.ret ?_
    obtain rfl := Option.some.inj hm0
    exact ⟨_, _, ⟨_, _, rfl, rfl, _, _, rfl, rfl, rfl⟩, List.Sublist.refl _, some ob0, (fun e => by cases e), rfl, rfl⟩

theorem ok_spec_l2Records {ρ0 σ0 rn : Nat} {list : List Record} {r : Bool} (h : M.spec_l2Records list = some r) : Does Tryd.prog 170 [.vl ρ0 4 (List.map (encRecord σ0) list)] [] rn (fun x H => x = .bool r ∧ H = []) := by
 have hm0 := h; clear h; unfold M.spec_l2Records at hm0
 try dsimp only at hm0
 refine Does.intro (N := 37) Tryd.func170 rfl rfl rfl rfl ?_
 intro w0 S0 L0
 refine V.seq ?_
 refine V.region ?_
 refine VO.cons rfl (V1.assign rfl rfl rfl lt0 ?_)
 refine VO.nil ?_
 refine V.seq ?_
 refine V.seq ?_
 refine V.region ?_
 refine VO.cons rfl (V1.assign rfl rfl rfl lt0 ?_)
 refine VO.nil ?_
 replace hm0 := bindO hm0; rcases hm0 with ⟨e0, he1, hm0⟩
 refine V.cutT (D := (Unit) × (Unit)) (fun ⟨_, _⟩ => ⟨37, [(0, .vl ρ0 4 (List.map (encRecord σ0) list))], []⟩) (fun ⟨_, _⟩ => (.inl () = e0)) ?_ ?_
 ·
  refine V.block ?_
  refine V.keep 37 [3, 0] [] (E0 := [(3, .int .i64 (0 : Int)), (0, .vl ρ0 4 (List.map (encRecord σ0) list))]) (H0 := []) rfl (⟨_, _, rfl, rfl, _, _, rfl, rfl, rfl⟩) (rfl) rfl ?_
  refine V.loopE (D := Nat × (Int) × (Unit)) (fun ⟨n0, i, _⟩ => [(3, .int .i64 i)]) (fun ⟨n0, i, _⟩ => []) (fun ⟨n0, i, _⟩ => loopO (M.spec_l2Records_l0 list) n0 i = some e0) (fun ⟨n0, _, _⟩ => n0) (rounds, (0 : Int), ()) rfl he1 ?_
  rintro ⟨n0, i, _⟩ hP0
  obtain ⟨m0, y0, rfl, hm1, hl1, hr1⟩ := loop_head hP0
  unfold M.spec_l2Records_l0 at hm1; dsimp only at hm1
  show V _ _ _ ⟨37, [(3, .int .i64 i), (0, .vl ρ0 4 (List.map (encRecord σ0) list))], []⟩
  refine V.seq ?_
  refine V.seq ?_
  refine V.region ?_
  refine VO.cons rfl (V1.move rfl rfl rfl lt0 ?_)
  refine VO.cons rfl (V1.move rfl rfl rfl lt0 ?_)
  refine VO.cons rfl (V1.lenMap rfl rfl rfl rfl rfl rfl isl_73 lt0 ?_)
  refine VO.cons rfl (V1.int rfl rfl rfl rfl rfl lt0 ?_)
  refine VO.nil ?_
  refine V.cond rfl (fun hc0 => ?_) (fun hc0 => ?_)
  ·
   replace hm1 := cond_t hc0 hm1
   refine V.skip ?_
   refine V.keep 37 [0, 3] [] (E0 := [(0, .vl ρ0 4 (List.map (encRecord σ0) list)), (3, .int .i64 i)]) (H0 := []) rfl (⟨_, _, rfl, rfl, _, _, rfl, rfl, rfl⟩) (rfl) rfl ?_
   refine V.seq ?_
   refine V.block ?_
   refine V.seq ?_
   replace hm1 := asrt_some hm1; rcases hm1 with ⟨hh0, hm1⟩
   replace hm1 := bindO hm1; rcases hm1 with ⟨y1, hh1, hm1⟩
   replace hm1 := asrt_some hm1; rcases hm1 with ⟨hh2, hm1⟩
   replace hm1 := asrt_some hm1; rcases hm1 with ⟨hh3, hm1⟩
   refine V.regionM 37 24 [⟨[(0, none)], [], none⟩, ⟨[(3, none)], [], none⟩, ⟨[(10, some 1), (11, some 0)], [], none⟩, ⟨[(12, some 0)], [], none⟩, ⟨[(13, some 0)], [], none⟩, ⟨[(14, some 0)], [], none⟩, ⟨[(15, some 0)], [], none⟩, ⟨[(3, none)], [(0, false)], none⟩, ⟨[(17, some 0)], [(1, false)], none⟩, ⟨[(18, some 0)], [(2, false)], none⟩, ⟨[(0, none)], [(0, true), (3, false)], none⟩, ⟨[(3, none)], [(1, true), (4, false)], none⟩, ⟨[(21, some 0)], [(2, true), (5, false)], none⟩, ⟨[(20, some 2), (22, some 0)], [(3, true), (6, false)], none⟩, ⟨[(23, some 0)], [(4, true), (7, false)], none⟩, ⟨[(24, some 0)], [(5, true), (8, false)], none⟩, ⟨[(0, none)], [(6, true), (9, false)], none⟩, ⟨[(3, none)], [(7, true), (10, false)], none⟩, ⟨[(26, some 1), (27, some 0)], [(8, true), (11, false)], none⟩, ⟨[(28, some 0)], [(9, true), (12, false)], none⟩, ⟨[(29, some 0)], [(10, true), (13, false)], none⟩, ⟨[(25, some 5), (30, some 0)], [(11, true), (14, false)], none⟩, ⟨[], [(15, false)], some (true, 19, 31, 12, 0)⟩, ⟨[], [], some (false, 16, 32, 16, 0)⟩] [(0, none), (3, none), (33, some 0)] (⟨_, rfl, ⟨_, rfl, ⟨_, rfl, ⟨_, rfl, ⟨_, rfl, ⟨_, rfl, ⟨_, rfl, ⟨_, rfl, ⟨_, rfl, ⟨_, rfl, ⟨_, rfl, ⟨_, rfl, ⟨_, rfl, ⟨_, rfl, ⟨_, rfl, ⟨_, rfl, ⟨_, rfl, ⟨_, rfl, ⟨_, rfl, ⟨_, rfl, ⟨_, rfl, ⟨_, rfl, ⟨_, rfl, ⟨_, rfl, ⟨rfl, rfl⟩⟩⟩⟩⟩⟩⟩⟩⟩⟩⟩⟩⟩⟩⟩⟩⟩⟩⟩⟩⟩⟩⟩⟩⟩) mixed_orders rfl (by decide +kernel) (fun hck4 => ?_)
   refine VP.step (p := ?pv194) rfl rfl rfl (⟨_, _, rfl, rfl, rfl⟩) ?hv194 ?rest194 hck4
   case hv194 =>
    intro E1
    refine (V1.move rfl rfl rfl lt0 ?_)
    exact rfl
   refine VP.step (p := ?pv195) rfl rfl rfl (⟨_, _, rfl, rfl, rfl⟩) ?hv195 ?rest195 hck4
   case hv195 =>
    intro E1
    refine (V1.move rfl rfl rfl lt0 ?_)
    exact rfl
   refine VP.step (p := ?pv196) rfl rfl rfl (⟨_, _, rfl, rfl, _, _, rfl, rfl, rfl⟩) ?hv196 ?rest196 hck4
   case hv196 =>
    intro E1
    refine (V1.indexI rfl rfl esz_73 rfl rfl hh0 lt0 ?_)
    exact rfl
   refine VP.step (p := ?pv197) rfl rfl rfl (⟨_, _, rfl, rfl, rfl⟩) ?hv197 ?rest197 hck4
   case hv197 =>
    intro E1
    refine (V1.loadPinAll rfl rfl tyk_39 rfl rfl lt0 ?_)
    exact rfl
   refine VP.step (p := ?pv198) rfl rfl rfl (⟨_, _, rfl, rfl, rfl⟩) ?hv198 ?rest198 hck4
   case hv198 =>
    intro E1
    refine (V1.call rfl rfl rfl cok_130 rfl (ok_spec_l2Record hh1) rfl lt0 ?_)
    rintro _ _ ⟨rfl, rfl⟩
    exact rfl
   refine VP.step (p := ?pv200) rfl rfl rfl (⟨_, _, rfl, rfl, rfl⟩) ?hv200 ?rest200 hck4
   case hv200 =>
    intro E1
    refine (V1.not rfl rfl rfl lt0 ?_)
    exact rfl
   refine VP.step (p := ?pv201) rfl rfl rfl (⟨_, _, rfl, rfl, rfl⟩) ?hv201 ?rest201 hck4
   case hv201 =>
    intro E1
    refine (V1.move rfl rfl rfl lt0 ?_)
    exact rfl
   refine VP.step (p := ?pv202) rfl rfl rfl (⟨_, _, rfl, rfl, rfl⟩) ?hv202 ?rest202 hck4
   case hv202 =>
    refine ⟨_, rfl, fun hg0 => ?_⟩
    intro E1
    refine (V1.move rfl rfl rfl lt0 ?_)
    exact rfl
   refine VP.step (p := ?pv203) rfl rfl rfl (⟨_, _, rfl, rfl, rfl⟩) ?hv203 ?rest203 hck4
   case hv203 =>
    refine ⟨_, rfl, fun hg0 => ?_⟩
    intro E1
    refine (V1.int rfl rfl rfl rfl rfl lt0 ?_)
    exact rfl
   refine VP.step (p := ?pv204) rfl rfl rfl (⟨_, _, rfl, rfl, rfl⟩) ?hv204 ?rest204 hck4
   case hv204 =>
    refine ⟨_, rfl, fun hg0 => ?_⟩
    intro E1
    refine (V1.move rfl rfl rfl lt0 ?_)
    exact rfl
   refine VP.step (p := ?pv205) rfl rfl rfl (⟨_, _, rfl, rfl, rfl⟩) ?hv205 ?rest205 hck4
   case hv205 =>
    refine ⟨_, rfl, fun hg1 => ?_⟩
    refine ⟨_, rfl, fun hg0 => ?_⟩
    intro E1
    refine (V1.move rfl rfl rfl lt0 ?_)
    exact rfl
   refine VP.step (p := ?pv206) rfl rfl rfl (⟨_, _, rfl, rfl, rfl⟩) ?hv206 ?rest206 hck4
   case hv206 =>
    refine ⟨_, rfl, fun hg1 => ?_⟩
    refine ⟨_, rfl, fun hg0 => ?_⟩
    intro E1
    refine (V1.move rfl rfl rfl lt0 ?_)
    exact rfl
   refine VP.step (p := ?pv207) rfl rfl rfl (⟨_, _, rfl, rfl, rfl⟩) ?hv207 ?rest207 hck4
   case hv207 =>
    refine ⟨_, rfl, fun hg1 => ?_⟩
    refine ⟨_, rfl, fun hg0 => ?_⟩
    intro E1
    refine (V1.int rfl rfl rfl rfl rfl lt0 ?_)
    exact rfl
   refine VP.step (p := ?pv208) rfl rfl rfl (⟨_, _, rfl, rfl, _, _, rfl, rfl, rfl⟩) ?hv208 ?rest208 hck4
   case hv208 =>
    refine ⟨_, rfl, fun hg1 => ?_⟩
    refine ⟨_, rfl, fun hg0 => ?_⟩
    intro E1
    refine (V1.indexI rfl rfl esz_73 rfl rfl (hh2 hg0 hg1) lt0 ?_)
    exact rfl
   refine VP.step (p := ?pv209) rfl rfl rfl (⟨_, _, rfl, rfl, rfl⟩) ?hv209 ?rest209 hck4
   case hv209 =>
    refine ⟨_, rfl, fun hg1 => ?_⟩
    refine ⟨_, rfl, fun hg0 => ?_⟩
    intro E1
    refine (V1.fieldPin rfl rfl fo_39_0 rfl lt0 ?_)
    exact rfl
   refine VP.step (p := ?pv210) rfl rfl rfl (⟨_, _, rfl, rfl, rfl⟩) ?hv210 ?rest210 hck4
   case hv210 =>
    refine ⟨_, rfl, fun hg1 => ?_⟩
    refine ⟨_, rfl, fun hg0 => ?_⟩
    intro E1
    refine (V1.loadPin rfl rfl tyk_3 rfl rfl lt0 ?_)
    exact rfl
   refine VP.step (p := ?pv211) rfl rfl rfl (⟨_, _, rfl, rfl, rfl⟩) ?hv211 ?rest211 hck4
   case hv211 =>
    refine ⟨_, rfl, fun hg1 => ?_⟩
    refine ⟨_, rfl, fun hg0 => ?_⟩
    intro E1
    refine (V1.move rfl rfl rfl lt0 ?_)
    exact rfl
   refine VP.step (p := ?pv212) rfl rfl rfl (⟨_, _, rfl, rfl, rfl⟩) ?hv212 ?rest212 hck4
   case hv212 =>
    refine ⟨_, rfl, fun hg1 => ?_⟩
    refine ⟨_, rfl, fun hg0 => ?_⟩
    intro E1
    refine (V1.move rfl rfl rfl lt0 ?_)
    exact rfl
   refine VP.step (p := ?pv213) rfl rfl rfl (⟨_, _, rfl, rfl, _, _, rfl, rfl, rfl⟩) ?hv213 ?rest213 hck4
   case hv213 =>
    refine ⟨_, rfl, fun hg1 => ?_⟩
    refine ⟨_, rfl, fun hg0 => ?_⟩
    intro E1
    refine (V1.indexI rfl rfl esz_73 rfl rfl (hh3 hg0 hg1) lt0 ?_)
    exact rfl
   refine VP.step (p := ?pv214) rfl rfl rfl (⟨_, _, rfl, rfl, rfl⟩) ?hv214 ?rest214 hck4
   case hv214 =>
    refine ⟨_, rfl, fun hg1 => ?_⟩
    refine ⟨_, rfl, fun hg0 => ?_⟩
    intro E1
    refine (V1.fieldPin rfl rfl fo_39_0 rfl lt0 ?_)
    exact rfl
   refine VP.step (p := ?pv215) rfl rfl rfl (⟨_, _, rfl, rfl, rfl⟩) ?hv215 ?rest215 hck4
   case hv215 =>
    refine ⟨_, rfl, fun hg1 => ?_⟩
    refine ⟨_, rfl, fun hg0 => ?_⟩
    intro E1
    refine (V1.loadPin rfl rfl tyk_3 rfl rfl lt0 ?_)
    exact rfl
   refine VP.step (p := ?pv216) rfl rfl rfl (⟨_, _, rfl, rfl, _, _, rfl, rfl, rfl⟩) ?hv216 ?rest216 hck4
   case hv216 =>
    refine ⟨_, rfl, fun hg1 => ?_⟩
    refine ⟨_, rfl, fun hg0 => ?_⟩
    intro E1
    refine (V1.int rfl rfl rfl rfl rfl lt0 ?_)
    exact rfl
   refine VP.pickAnd rfl rfl rfl rfl rfl rfl (⟨_, rfl, fun _ => trivial⟩) ?_ hck4
   refine VP.pickOr rfl rfl rfl rfl rfl rfl (trivial) ?_ hck4
   refine VP.fin rfl (⟨_, _, rfl, rfl, _, _, rfl, rfl, _, _, rfl, rfl, rfl⟩) ?_
   refine VO.nil ?_
   refine V.cond rfl (fun hc1 => ?_) (fun hc1 => ?_)
   ·
    replace hm1 := cond_t hc1 hm1
    refine V.seq ?_
    refine V.region ?_
    refine VO.cons rfl (V1.assign rfl rfl rfl lt0 ?_)
    refine VO.nil ?_
    refine V.ret ?_
    obtain rfl := hr1 _ (Option.some.inj hm1).symm
    change some _ = some _ at hm0
    obtain rfl := Option.some.inj hm0
    exact ⟨_, [], ⟨_, _, rfl, rfl, rfl⟩, List.nil_sublist _, rfl, rfl⟩
   ·
    replace hm1 := cond_f hc1 hm1
    refine V.skip ?_
    refine V.region ?_
    refine VO.cons rfl (V1.move rfl rfl rfl lt0 ?_)
    refine VO.cons rfl (V1.int rfl rfl rfl rfl rfl lt0 ?_)
    refine VO.cons rfl (V1.assign rfl rfl rfl lt0 ?_)
    refine VO.nil ?_
    exact ⟨(m0, (IntKind.i64.wrap (i + (1 : Int))), ()), hl1 _ (Option.some.inj hm1).symm, Nat.lt_succ_self _, Keeps.mk (ks := []) rfl ⟨rfl, rfl, trivial⟩ (rfl) rfl⟩
  ·
   replace hm1 := cond_f hc0 hm1
   refine V.exit ?_
   obtain rfl := hr1 _ (Option.some.inj hm1).symm
   exact ⟨((), ()), rfl, Keeps.mk (ks := []) rfl ⟨rfl, trivial⟩ (rfl) rfl⟩
 ·
  rintro ⟨_, _⟩ rfl
  try dsimp only at hm0
  refine V.seq ?_
  refine V.region ?_
  refine VO.cons rfl (V1.move rfl rfl rfl lt0 ?_)
  refine VO.cons rfl (V1.lenMap rfl rfl rfl rfl rfl rfl isl_73 lt0 ?_)
  refine VO.cons rfl (V1.int rfl rfl rfl rfl rfl lt0 ?_)
  refine VO.cons rfl (V1.assign rfl rfl rfl lt0 ?_)
  refine VO.nil ?_
  refine V.ret ?_
  obtain rfl := Option.some.inj hm0
  exact ⟨_, [], ⟨_, _, rfl, rfl, rfl⟩, List.nil_sublist _, rfl, rfl⟩
end Go.Proofs.YthcmelnpcaijaaaDoor
