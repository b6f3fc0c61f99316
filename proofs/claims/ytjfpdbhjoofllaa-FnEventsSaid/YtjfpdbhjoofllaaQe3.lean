/- the functions do what their models say -/
import Derived.Test.YtjfpdbhjoofllaaQe2
set_option linter.unusedSimpArgs false
set_option linter.unusedVariables false
set_option maxRecDepth 100000
set_option maxHeartbeats 4000000
namespace Go.Proofs.Ytjfpdbhjoofllaa
open Go.VS

theorem ok_laws_FnEvents {ρ0 rn : Nat} {code : List Int} {r : Bool} (h : M.laws_FnEvents code = some r) : Does Try.prog 4 [.vl ρ0 1 (List.map encU8 code)] [] rn (fun x H => x = .bool r ∧ H = []) := by
 have hm0 := h; clear h; unfold M.laws_FnEvents at hm0
 try dsimp only at hm0
 refine Does.intro (N := 154) Try.func4 rfl rfl rfl rfl ?_
 intro w0 S0
 refine V.seq ?_
 refine V.region ?_
 refine VO.cons rfl (V1.assign rfl rfl rfl (ltb rfl) ?_)
 refine VO.nil ?_
 refine V.seq ?_
 refine V.seq ?_
 replace hm0 := bindO hm0; rcases hm0 with ⟨y0, hh0, hm0⟩
 refine V.region ?_
 refine VO.cons rfl (V1.move rfl rfl rfl (ltb rfl) ?_)
 refine VO.cons rfl (V1.call rfl rfl rfl cok_6 rfl (ok_laws_vBig hh0) rfl (ltb rfl) ?_)
 rintro _ _ ⟨rfl, rfl⟩
 refine VO.nil ?_
 refine V.cond rfl (fun hc0 => ?_) (fun hc0 => ?_)
 ·
  replace hm0 := cond_t hc0 hm0
  refine V.seq ?_
  refine V.region ?_
  refine VO.cons rfl (V1.assign rfl rfl rfl (ltb rfl) ?_)
  refine VO.nil ?_
  refine V.ret ?_
  obtain rfl := Option.some.inj hm0
  exact ⟨_, [], ⟨_, _, rfl, rfl, rfl⟩, List.nil_sublist _, rfl, rfl⟩
 ·
  replace hm0 := cond_f hc0 hm0
  refine V.skip ?_
  refine V.seq ?_
  replace hm0 := bindO hm0; rcases hm0 with ⟨y1, hh1, hm0⟩
  refine V.region ?_
  refine VO.cons rfl (V1.move rfl rfl rfl (ltb rfl) ?_)
  refine VO.cons rfl (V1.call rfl rfl rfl cok_23 rfl (ok_spec_DrawAddEvent hh1) rfl (ltb rfl) ?_)
  rintro _ _ ⟨rfl, rfl⟩
  refine VO.cons rfl (V1.move rfl rfl rfl (ltb rfl) ?_)
  refine VO.cons rfl (V1.extract rfl rfl rfl rfl (ltb rfl) ?_)
  refine VO.cons rfl (V1.extract rfl rfl rfl rfl (ltb rfl) ?_)
  refine VO.cons rfl (V1.alloc rfl rfl zk_44 (ltb rfl) ?_)
  intro b0
  refine VO.cons rfl (V1.alloc rfl rfl zk_46 (ltb rfl) ?_)
  intro b1
  refine VO.cons rfl (V1.storeRefAll (k := 1) rfl rfl tyk_44 rfl rfl rfl rfl rfl rfl ?_)
  refine VO.cons rfl (V1.storeRefAll (k := 0) rfl rfl tyk_46 rfl rfl rfl rfl rfl rfl ?_)
  refine VO.nil ?_
  refine V.keep 154 [0, 3, 4] [0, 1] (E0 := [(0, .vl ρ0 1 (List.map encU8 code)), (3, .ref b0 4 0 0), (4, .ref b1 2 0 0)]) (H0 := [(b1, ⟨2, [encEvent y1.2]⟩), (b0, ⟨4, [encRecord rn y1.1]⟩)]) rfl (⟨_, _, rfl, rfl, ⟨_, _, rfl, rfl, ⟨_, _, rfl, rfl, rfl⟩⟩⟩) (⟨_, _, rfl, rfl, ⟨_, _, rfl, rfl, rfl⟩⟩) rfl ?_
  refine V.seq ?_
  replace hm0 := bindO hm0; rcases hm0 with ⟨y2, hh2, hm0⟩
  refine V.region ?_
  refine VO.cons rfl (V1.loadRefAll (k := 1) rfl rfl tyk_44 rfl rfl rfl rfl rfl (ltb rfl) ?_)
  refine VO.cons rfl (V1.loadRefAll (k := 0) rfl rfl tyk_46 rfl rfl rfl rfl rfl (ltb rfl) ?_)
  refine VO.cons rfl (V1.call rfl rfl rfl cok_24 rfl (ok_impl_AddEvent hh2) rfl (ltb rfl) ?_)
  rintro _ _ ⟨rfl, rfl⟩
  refine VO.cons rfl (V1.move rfl rfl rfl (ltb rfl) ?_)
  refine VO.cons rfl (V1.extract rfl rfl rfl rfl (ltb rfl) ?_)
  refine VO.cons rfl (V1.extract rfl rfl rfl rfl (ltb rfl) ?_)
  refine VO.cons rfl (V1.alloc rfl rfl zk_44 (ltb rfl) ?_)
  intro b2
  refine VO.cons rfl (V1.storeRefAll (k := 0) rfl rfl tyk_44 rfl rfl rfl rfl rfl rfl ?_)
  refine VO.cons rfl (V1.assign rfl rfl rfl (ltb rfl) ?_)
  refine VO.nil ?_
  refine V.keep 154 [0, 3, 4, 5, 6] [0, 1, 2] (E0 := [(0, .vl ρ0 1 (List.map encU8 code)), (3, .ref b0 4 0 0), (4, .ref b1 2 0 0), (5, .ref b2 4 0 0), (6, .bool y2.2)]) (H0 := [(b2, ⟨4, [encRecord rn y2.1]⟩), (b1, ⟨2, [encEvent y1.2]⟩), (b0, ⟨4, [encRecord rn y1.1]⟩)]) rfl (⟨_, _, rfl, rfl, ⟨_, _, rfl, rfl, ⟨_, _, rfl, rfl, ⟨_, _, rfl, rfl, ⟨_, _, rfl, rfl, rfl⟩⟩⟩⟩⟩) (⟨_, _, rfl, rfl, ⟨_, _, rfl, rfl, ⟨_, _, rfl, rfl, rfl⟩⟩⟩) rfl ?_
  refine V.seq ?_
  refine V.seq ?_
  replace hm0 := bindO hm0; rcases hm0 with ⟨y3, hh3, hm0⟩
  refine V.region ?_
  refine VO.cons rfl (V1.loadRefAll (k := 2) rfl rfl tyk_44 rfl rfl rfl rfl rfl (ltb rfl) ?_)
  refine VO.cons rfl (V1.loadRefAll (k := 1) rfl rfl tyk_46 rfl rfl rfl rfl rfl (ltb rfl) ?_)
  refine VO.cons rfl (V1.call rfl rfl rfl cok_25 rfl (ok_spec_AddEvent hh3) rfl (ltb rfl) ?_)
  rintro _ _ ⟨rfl, rfl⟩
  refine VO.cons rfl (V1.move rfl rfl rfl (ltb rfl) ?_)
  refine VO.cons rfl (V1.extract rfl rfl rfl rfl (ltb rfl) ?_)
  refine VO.cons rfl (V1.extract rfl rfl rfl rfl (ltb rfl) ?_)
  refine VO.cons rfl (V1.alloc rfl rfl zk_44 (ltb rfl) ?_)
  intro b3
  refine VO.cons rfl (V1.storeRefAll (k := 0) rfl rfl tyk_44 rfl rfl rfl rfl rfl rfl ?_)
  refine VO.cons rfl (V1.assign rfl rfl rfl (ltb rfl) ?_)
  refine VO.nil ?_
  refine V.keep 154 [0, 3, 4, 5, 6, 7, 8] [0, 1, 2, 3] (E0 := [(0, .vl ρ0 1 (List.map encU8 code)), (3, .ref b0 4 0 0), (4, .ref b1 2 0 0), (5, .ref b2 4 0 0), (6, .bool y2.2), (7, .ref b3 4 0 0), (8, .bool y3.2)]) (H0 := [(b3, ⟨4, [encRecord rn y3.1]⟩), (b2, ⟨4, [encRecord rn y2.1]⟩), (b1, ⟨2, [encEvent y1.2]⟩), (b0, ⟨4, [encRecord rn y1.1]⟩)]) rfl (⟨_, _, rfl, rfl, ⟨_, _, rfl, rfl, ⟨_, _, rfl, rfl, ⟨_, _, rfl, rfl, ⟨_, _, rfl, rfl, ⟨_, _, rfl, rfl, ⟨_, _, rfl, rfl, rfl⟩⟩⟩⟩⟩⟩⟩) (⟨_, _, rfl, rfl, ⟨_, _, rfl, rfl, ⟨_, _, rfl, rfl, ⟨_, _, rfl, rfl, rfl⟩⟩⟩⟩) rfl ?_
  refine V.seq ?_
  replace hm0 := bindO hm0; rcases hm0 with ⟨y4, hh4, hm0⟩
  replace hm0 := bindO hm0; rcases hm0 with ⟨y5, hh5, hm0⟩
  replace hm0 := bindO hm0; rcases hm0 with ⟨y6, hh6, hm0⟩
  refine V.regionM 154 16 [⟨[(6, none)], [], none⟩, ⟨[(8, none)], [], none⟩, ⟨[(46, some 1), (47, some 0)], [], none⟩, ⟨[(48, some 0)], [], none⟩, ⟨[(5, none)], [(0, false)], none⟩, ⟨[(7, none)], [(1, false)], none⟩, ⟨[(50, some 1), (51, some 0)], [(2, false)], none⟩, ⟨[(52, some 0)], [(3, false)], none⟩, ⟨[], [], some (false, 49, 53, 4, 0)⟩, ⟨[(54, some 0)], [], none⟩, ⟨[(4, none)], [(0, false)], none⟩, ⟨[(56, some 0)], [(1, false)], none⟩, ⟨[(4, none)], [(2, false)], none⟩, ⟨[(58, some 0)], [(3, false)], none⟩, ⟨[(57, some 2), (59, some 0)], [(4, false)], none⟩, ⟨[], [], some (false, 55, 60, 5, 0)⟩] [(0, none), (3, none), (4, none), (5, none), (6, none), (61, some 0)] (⟨_, rfl, ⟨_, rfl, ⟨_, rfl, ⟨_, rfl, ⟨_, rfl, ⟨_, rfl, ⟨_, rfl, ⟨_, rfl, ⟨_, rfl, ⟨_, rfl, ⟨_, rfl, ⟨_, rfl, ⟨_, rfl, ⟨_, rfl, ⟨_, rfl, ⟨_, rfl, ⟨rfl, rfl⟩⟩⟩⟩⟩⟩⟩⟩⟩⟩⟩⟩⟩⟩⟩⟩⟩) mixed_orders rfl (by decide +kernel) (fun hck6 => ?_)
  refine VP.step (p := ?pv29) rfl rfl rfl (⟨_, _, rfl, rfl, rfl⟩) ?hv29 ?rest29 hck6
  case hv29 =>
   intro E1
   refine (V1.move rfl rfl rfl (ltb rfl) ?_)
   exact rfl
  refine VP.step (p := ?pv30) rfl rfl rfl (⟨_, _, rfl, rfl, rfl⟩) ?hv30 ?rest30 hck6
  case hv30 =>
   intro E1
   refine (V1.move rfl rfl rfl (ltb rfl) ?_)
   exact rfl
  refine VP.step (p := ?pv31) rfl rfl rfl (⟨_, _, rfl, rfl, ⟨_, _, rfl, rfl, rfl⟩⟩) ?hv31 ?rest31 hck6
  case hv31 =>
   intro E1
   refine (V1.boolNeq rfl rfl und_4 rfl rfl (ltb rfl) ?_)
   exact rfl
  refine VP.step (p := ?pv32) rfl rfl rfl (⟨_, _, rfl, rfl, rfl⟩) ?hv32 ?rest32 hck6
  case hv32 =>
   intro E1
   refine (V1.move rfl rfl rfl (ltb rfl) ?_)
   exact rfl
  refine VP.step (p := ?pv33) rfl rfl rfl (⟨_, _, rfl, rfl, rfl⟩) ?hv33 ?rest33 hck6
  case hv33 =>
   refine ⟨_, rfl, fun hg0 => ?_⟩
   intro E1
   refine (V1.loadRefAll (k := 1) rfl rfl tyk_44 rfl rfl rfl rfl rfl (ltb rfl) ?_)
   exact rfl
  refine VP.step (p := ?pv34) rfl rfl rfl (⟨_, _, rfl, rfl, rfl⟩) ?hv34 ?rest34 hck6
  case hv34 =>
   refine ⟨_, rfl, fun hg0 => ?_⟩
   intro E1
   refine (V1.loadRefAll (k := 0) rfl rfl tyk_44 rfl rfl rfl rfl rfl (ltb rfl) ?_)
   exact rfl
  refine VP.step (p := ?pv35) rfl rfl rfl (⟨_, _, rfl, rfl, ⟨_, _, rfl, rfl, rfl⟩⟩) ?hv35 ?rest35 hck6
  case hv35 =>
   refine ⟨_, rfl, fun hg0 => ?_⟩
   intro E1
   refine (V1.call rfl rfl rfl cok_26 rfl (ok_laws_vRecord (cond_f hg0 hh4)) rfl (ltb rfl) ?_)
   rintro _ _ ⟨rfl, rfl⟩
   exact rfl
  refine VP.step (p := ?pv36) rfl rfl rfl (⟨_, _, rfl, rfl, rfl⟩) ?hv36 ?rest36 hck6
  case hv36 =>
   refine ⟨_, rfl, fun hg0 => ?_⟩
   intro E1
   refine (V1.not rfl rfl rfl (ltb rfl) ?_)
   exact rfl
  refine VP.pickOr rfl rfl rfl rfl rfl rfl (trivial) ?_ hck6
  refine VP.step (p := ?pv37) rfl rfl rfl (⟨_, _, rfl, rfl, rfl⟩) ?hv37 ?rest37 hck6
  case hv37 =>
   intro E1
   refine (V1.move rfl rfl rfl (ltb rfl) ?_)
   exact rfl
  refine VP.step (p := ?pv38) rfl rfl rfl (⟨_, _, rfl, rfl, rfl⟩) ?hv38 ?rest38 hck6
  case hv38 =>
   refine ⟨_, rfl, fun hg1 => ?_⟩
   intro E1
   refine (V1.loadRefAll (k := 2) rfl rfl tyk_46 rfl rfl rfl rfl rfl (ltb rfl) ?_)
   exact rfl
  refine VP.step (p := ?pv39) rfl rfl rfl (⟨_, _, rfl, rfl, rfl⟩) ?hv39 ?rest39 hck6
  case hv39 =>
   refine ⟨_, rfl, fun hg1 => ?_⟩
   intro E1
   refine (V1.call rfl rfl rfl cok_27 rfl (ok_impl_IsEvent (cond_f hg1 hh5)) rfl (ltb rfl) ?_)
   rintro _ _ ⟨rfl, rfl⟩
   exact rfl
  refine VP.step (p := ?pv40) rfl rfl rfl (⟨_, _, rfl, rfl, rfl⟩) ?hv40 ?rest40 hck6
  case hv40 =>
   refine ⟨_, rfl, fun hg1 => ?_⟩
   intro E1
   refine (V1.loadRefAll (k := 2) rfl rfl tyk_46 rfl rfl rfl rfl rfl (ltb rfl) ?_)
   exact rfl
  refine VP.step (p := ?pv41) rfl rfl rfl (⟨_, _, rfl, rfl, rfl⟩) ?hv41 ?rest41 hck6
  case hv41 =>
   refine ⟨_, rfl, fun hg1 => ?_⟩
   intro E1
   refine (V1.call rfl rfl rfl cok_28 rfl (ok_spec_IsEvent (cond_f hg1 hh6)) rfl (ltb rfl) ?_)
   rintro _ _ ⟨rfl, rfl⟩
   exact rfl
  refine VP.step (p := ?pv42) rfl rfl rfl (⟨_, _, rfl, rfl, ⟨_, _, rfl, rfl, rfl⟩⟩) ?hv42 ?rest42 hck6
  case hv42 =>
   refine ⟨_, rfl, fun hg1 => ?_⟩
   intro E1
   refine (V1.boolNeq rfl rfl und_4 rfl rfl (ltb rfl) ?_)
   exact rfl
  refine VP.pickOr rfl rfl rfl rfl rfl rfl (trivial) ?_ hck6
  refine VP.fin rfl (⟨_, _, rfl, rfl, ⟨_, _, rfl, rfl, ⟨_, _, rfl, rfl, ⟨_, _, rfl, rfl, ⟨_, _, rfl, rfl, ⟨_, _, rfl, rfl, rfl⟩⟩⟩⟩⟩⟩) ?_
  refine VO.nil ?_
  refine V.cond rfl (fun hc1 => ?_) (fun hc1 => ?_)
  ·
   replace hm0 := cond_t hc1 hm0
   refine V.seq ?_
   refine V.region ?_
   refine VO.cons rfl (V1.assign rfl rfl rfl (ltb rfl) ?_)
   refine VO.nil ?_
   refine V.ret ?_
   obtain rfl := Option.some.inj hm0
   exact ⟨_, [], ⟨_, _, rfl, rfl, rfl⟩, List.nil_sublist _, rfl, rfl⟩
  ·
   replace hm0 := cond_f hc1 hm0
   refine V.skip ?_
   refine V.seq ?_
   replace hm0 := bindO hm0; rcases hm0 with ⟨j0, hm1, hm0⟩
   refine V.cutT (D := (Unit) × (Unit)) (fun ⟨_, _⟩ => ⟨154, [(0, .vl ρ0 1 (List.map encU8 code))], []⟩) (fun ⟨_, _⟩ => (.inl () = j0)) ?_ ?_
   ·
    refine V.seq ?_
    refine V.region ?_
    refine VO.cons rfl (V1.move rfl rfl rfl (ltb rfl) ?_)
    refine VO.nil ?_
    refine V.cond rfl (fun hc2 => ?_) (fun hc2 => ?_)
    ·
     replace hm1 := cond_t hc2 hm1
     refine V.seq ?_
     replace hm1 := bindO hm1; rcases hm1 with ⟨y7, hh7, hm1⟩
     refine V.region ?_
     refine VO.cons rfl (V1.loadRefAll (k := 1) rfl rfl tyk_44 rfl rfl rfl rfl rfl (ltb rfl) ?_)
     refine VO.cons rfl (V1.fieldRef rfl rfl fo_46_0 rfl (ltb rfl) ?_)
     refine VO.cons rfl (V1.loadRef (k := 2) rfl rfl tyk_3 rfl rfl rfl rfl rfl (ltb rfl) ?_)
     refine VO.cons rfl (V1.call rfl rfl rfl cok_29 rfl (ok_impl_DropEvent hh7) rfl (ltb rfl) ?_)
     rintro _ _ ⟨rfl, rfl⟩
     refine VO.cons rfl (V1.move rfl rfl rfl (ltb rfl) ?_)
     refine VO.cons rfl (V1.extract rfl rfl rfl rfl (ltb rfl) ?_)
     refine VO.cons rfl (V1.extract rfl rfl rfl rfl (ltb rfl) ?_)
     refine VO.cons rfl (V1.alloc rfl rfl zk_44 (ltb rfl) ?_)
     intro b4
     refine VO.cons rfl (V1.storeRefAll (k := 0) rfl rfl tyk_44 rfl rfl rfl rfl rfl rfl ?_)
     refine VO.cons rfl (V1.assign rfl rfl rfl (ltb rfl) ?_)
     refine VO.nil ?_
     refine V.keep 154 [0, 3, 4, 5, 9, 10] [0, 2, 3, 4] (E0 := [(0, .vl ρ0 1 (List.map encU8 code)), (3, .ref b0 4 0 0), (4, .ref b1 2 0 0), (5, .ref b2 4 0 0), (9, .ref b4 4 0 0), (10, .bool y7.2)]) (H0 := [(b4, ⟨4, [encRecord rn y7.1]⟩), (b2, ⟨4, [encRecord rn y2.1]⟩), (b1, ⟨2, [encEvent y1.2]⟩), (b0, ⟨4, [encRecord rn y1.1]⟩)]) rfl (⟨_, _, rfl, rfl, ⟨_, _, rfl, rfl, ⟨_, _, rfl, rfl, ⟨_, _, rfl, rfl, ⟨_, _, rfl, rfl, ⟨_, _, rfl, rfl, rfl⟩⟩⟩⟩⟩⟩) (⟨_, _, rfl, rfl, ⟨_, _, rfl, rfl, ⟨_, _, rfl, rfl, ⟨_, _, rfl, rfl, rfl⟩⟩⟩⟩) rfl ?_
     refine V.seq ?_
     replace hm1 := bindO hm1; rcases hm1 with ⟨y8, hh8, hm1⟩
     refine V.region ?_
     refine VO.cons rfl (V1.loadRefAll (k := 1) rfl rfl tyk_44 rfl rfl rfl rfl rfl (ltb rfl) ?_)
     refine VO.cons rfl (V1.fieldRef rfl rfl fo_46_0 rfl (ltb rfl) ?_)
     refine VO.cons rfl (V1.loadRef (k := 2) rfl rfl tyk_3 rfl rfl rfl rfl rfl (ltb rfl) ?_)
     refine VO.cons rfl (V1.call rfl rfl rfl cok_30 rfl (ok_impl_DayOf hh8) rfl (ltb rfl) ?_)
     rintro _ _ ⟨rfl, rfl⟩
     refine VO.cons rfl (V1.move rfl rfl rfl (ltb rfl) ?_)
     refine VO.cons rfl (V1.extract rfl rfl rfl rfl (ltb rfl) ?_)
     refine VO.cons rfl (V1.extract rfl rfl rfl rfl (ltb rfl) ?_)
     refine VO.cons rfl (V1.assign rfl rfl rfl (ltb rfl) ?_)
     refine VO.cons rfl (V1.assign rfl rfl rfl (ltb rfl) ?_)
     refine VO.nil ?_
     refine V.keep 154 [0, 3, 4, 9, 10, 11, 12] [0, 2, 3] (E0 := [(0, .vl ρ0 1 (List.map encU8 code)), (3, .ref b0 4 0 0), (4, .ref b1 2 0 0), (9, .ref b4 4 0 0), (10, .bool y7.2), (11, .int .i64 y8.1), (12, .bool y8.2)]) (H0 := [(b4, ⟨4, [encRecord rn y7.1]⟩), (b1, ⟨2, [encEvent y1.2]⟩), (b0, ⟨4, [encRecord rn y1.1]⟩)]) rfl (⟨_, _, rfl, rfl, ⟨_, _, rfl, rfl, ⟨_, _, rfl, rfl, ⟨_, _, rfl, rfl, ⟨_, _, rfl, rfl, ⟨_, _, rfl, rfl, ⟨_, _, rfl, rfl, rfl⟩⟩⟩⟩⟩⟩⟩) (⟨_, _, rfl, rfl, ⟨_, _, rfl, rfl, ⟨_, _, rfl, rfl, rfl⟩⟩⟩) rfl ?_
     refine V.seq ?_
     replace hm1 := bindO hm1; rcases hm1 with ⟨y9, hh9, hm1⟩
     refine V.region ?_
     refine VO.cons rfl (V1.move rfl rfl rfl (ltb rfl) ?_)
     refine VO.cons rfl (V1.not rfl rfl rfl (ltb rfl) ?_)
     refine VO.cons rfl (V1.move rfl rfl rfl (ltb rfl) ?_)
     apply VO.or (n := 4) rfl rfl rfl rfl rfl rfl (ltb rfl) (.none rfl)
     ·
      intro hg2
      refine VO.step (.some rfl rfl rfl) (V1.loadRefAll (k := 0) rfl rfl tyk_44 rfl rfl rfl rfl rfl (ltb rfl) ?_)
      refine VO.step (.some rfl rfl rfl) (V1.loadRefAll (k := 2) rfl rfl tyk_44 rfl rfl rfl rfl rfl (ltb rfl) ?_)
      refine VO.step (.some rfl rfl rfl) (V1.call rfl rfl rfl cok_26 rfl (ok_laws_vRecord (cond_f hg2 hh9)) rfl (ltb rfl) ?_)
      rintro _ _ ⟨rfl, rfl⟩
      refine VO.step (.some rfl rfl rfl) (V1.not rfl rfl rfl (ltb rfl) ?_)
      exact VO.nil ⟨rfl, rfl, rfl, rfl, .inr ⟨rfl, .inr ⟨rfl, .inr ⟨rfl, .inr ⟨rfl, .inr ⟨rfl, .inl rfl⟩⟩⟩⟩⟩⟩
     refine VO.cons rfl (V1.move rfl rfl rfl (ltb rfl) ?_)
     apply VO.or (n := 2) rfl rfl rfl rfl rfl rfl (ltb rfl) (.none rfl)
     ·
      intro hg3
      refine VO.step (.some rfl rfl rfl) (V1.move rfl rfl rfl (ltb rfl) ?_)
      refine VO.step (.some rfl rfl rfl) (V1.not rfl rfl rfl (ltb rfl) ?_)
      exact VO.nil ⟨rfl, rfl, rfl, rfl, .inr ⟨rfl, .inr ⟨rfl, .inr ⟨rfl, .inl rfl⟩⟩⟩⟩
     refine VO.cons rfl (V1.move rfl rfl rfl (ltb rfl) ?_)
     apply VO.or (n := 4) rfl rfl rfl rfl rfl rfl (ltb rfl) (.none rfl)
     ·
      intro hg4
      refine VO.step (.some rfl rfl rfl) (V1.move rfl rfl rfl (ltb rfl) ?_)
      refine VO.step (.some rfl rfl rfl) (V1.fieldRef rfl rfl fo_46_1 rfl (ltb rfl) ?_)
      refine VO.step (.some rfl rfl rfl) (V1.loadRef (k := 1) rfl rfl tyk_3 rfl rfl rfl rfl rfl (ltb rfl) ?_)
      refine VO.step (.some rfl rfl rfl) (V1.int rfl rfl rfl rfl rfl (ltb rfl) ?_)
      exact VO.nil ⟨rfl, rfl, rfl, rfl, .inr ⟨rfl, .inr ⟨rfl, .inr ⟨rfl, .inr ⟨rfl, .inr ⟨rfl, .inl rfl⟩⟩⟩⟩⟩⟩
     refine VO.nil ?_
     refine V.keep 154 [0, 94] [] (E0 := [(0, .vl ρ0 1 (List.map encU8 code)), (94, .bool ((((!y7.2) || (!y9)) || (!y8.2)) || (y8.1 != y1.2.Day)))]) (H0 := []) rfl (⟨_, _, rfl, rfl, ⟨_, _, rfl, rfl, rfl⟩⟩) (rfl) rfl ?_
     refine V.cond rfl (fun hc3 => ?_) (fun hc3 => ?_)
     ·
      replace hm1 := cond_t hc3 hm1
      refine V.seq ?_
      refine V.region ?_
      refine VO.cons rfl (V1.assign rfl rfl rfl (ltb rfl) ?_)
      refine VO.nil ?_
      refine V.ret ?_
      obtain rfl := Option.some.inj hm1
      change some _ = some _ at hm0
      obtain rfl := Option.some.inj hm0
      exact ⟨_, [], ⟨_, _, rfl, rfl, rfl⟩, List.nil_sublist _, rfl, rfl⟩
     ·
      replace hm1 := cond_f hc3 hm1
      refine V.skip ?_
      exact ⟨((), ()), Option.some.inj hm1, Keeps.mk (ks := []) rfl ⟨rfl, trivial⟩ (rfl) rfl⟩
    ·
     replace hm1 := cond_f hc2 hm1
     refine V.skip ?_
     exact ⟨((), ()), Option.some.inj hm1, Keeps.mk (ks := []) rfl ⟨rfl, trivial⟩ (rfl) rfl⟩
   ·
    rintro ⟨_, _⟩ rfl
    try dsimp only at hm0
    refine V.seq ?_
    replace hm0 := bindO hm0; rcases hm0 with ⟨y10, hh10, hm0⟩
    refine V.region ?_
    refine VO.cons rfl (V1.move rfl rfl rfl (ltb rfl) ?_)
    refine VO.cons rfl (V1.call rfl rfl rfl cok_31 rfl (ok_spec_DrawDropEvent hh10) rfl (ltb rfl) ?_)
    rintro _ _ ⟨rfl, rfl⟩
    refine VO.cons rfl (V1.move rfl rfl rfl (ltb rfl) ?_)
    refine VO.cons rfl (V1.extract rfl rfl rfl rfl (ltb rfl) ?_)
    refine VO.cons rfl (V1.extract rfl rfl rfl rfl (ltb rfl) ?_)
    refine VO.cons rfl (V1.alloc rfl rfl zk_44 (ltb rfl) ?_)
    intro b5
    refine VO.cons rfl (V1.storeRefAll (k := 0) rfl rfl tyk_44 rfl rfl rfl rfl rfl rfl ?_)
    refine VO.cons rfl (V1.assign rfl rfl rfl (ltb rfl) ?_)
    refine VO.nil ?_
    refine V.keep 154 [0, 13, 14] [0] (E0 := [(0, .vl ρ0 1 (List.map encU8 code)), (13, .ref b5 4 0 0), (14, .int .i64 y10.2)]) (H0 := [(b5, ⟨4, [encRecord rn y10.1]⟩)]) rfl (⟨_, _, rfl, rfl, ⟨_, _, rfl, rfl, ⟨_, _, rfl, rfl, rfl⟩⟩⟩) (⟨_, _, rfl, rfl, rfl⟩) rfl ?_
    refine V.seq ?_
    replace hm0 := bindO hm0; rcases hm0 with ⟨y11, hh11, hm0⟩
    refine V.region ?_
    refine VO.cons rfl (V1.loadRefAll (k := 0) rfl rfl tyk_44 rfl rfl rfl rfl rfl (ltb rfl) ?_)
    refine VO.cons rfl (V1.move rfl rfl rfl (ltb rfl) ?_)
    refine VO.cons rfl (V1.call rfl rfl rfl cok_29 rfl (ok_impl_DropEvent hh11) rfl (ltb rfl) ?_)
    rintro _ _ ⟨rfl, rfl⟩
    refine VO.cons rfl (V1.move rfl rfl rfl (ltb rfl) ?_)
    refine VO.cons rfl (V1.extract rfl rfl rfl rfl (ltb rfl) ?_)
    refine VO.cons rfl (V1.extract rfl rfl rfl rfl (ltb rfl) ?_)
    refine VO.cons rfl (V1.alloc rfl rfl zk_44 (ltb rfl) ?_)
    intro b6
    refine VO.cons rfl (V1.storeRefAll (k := 0) rfl rfl tyk_44 rfl rfl rfl rfl rfl rfl ?_)
    refine VO.cons rfl (V1.assign rfl rfl rfl (ltb rfl) ?_)
    refine VO.nil ?_
    refine V.keep 154 [0, 13, 14, 15, 16] [0, 1] (E0 := [(0, .vl ρ0 1 (List.map encU8 code)), (13, .ref b5 4 0 0), (14, .int .i64 y10.2), (15, .ref b6 4 0 0), (16, .bool y11.2)]) (H0 := [(b6, ⟨4, [encRecord rn y11.1]⟩), (b5, ⟨4, [encRecord rn y10.1]⟩)]) rfl (⟨_, _, rfl, rfl, ⟨_, _, rfl, rfl, ⟨_, _, rfl, rfl, ⟨_, _, rfl, rfl, ⟨_, _, rfl, rfl, rfl⟩⟩⟩⟩⟩) (⟨_, _, rfl, rfl, ⟨_, _, rfl, rfl, rfl⟩⟩) rfl ?_
    refine V.seq ?_
    refine V.seq ?_
    replace hm0 := bindO hm0; rcases hm0 with ⟨y12, hh12, hm0⟩
    refine V.region ?_
    refine VO.cons rfl (V1.loadRefAll (k := 1) rfl rfl tyk_44 rfl rfl rfl rfl rfl (ltb rfl) ?_)
    refine VO.cons rfl (V1.move rfl rfl rfl (ltb rfl) ?_)
    refine VO.cons rfl (V1.call rfl rfl rfl cok_32 rfl (ok_spec_DropEvent hh12) rfl (ltb rfl) ?_)
    rintro _ _ ⟨rfl, rfl⟩
    refine VO.cons rfl (V1.move rfl rfl rfl (ltb rfl) ?_)
    refine VO.cons rfl (V1.extract rfl rfl rfl rfl (ltb rfl) ?_)
    refine VO.cons rfl (V1.extract rfl rfl rfl rfl (ltb rfl) ?_)
    refine VO.cons rfl (V1.alloc rfl rfl zk_44 (ltb rfl) ?_)
    intro b7
    refine VO.cons rfl (V1.storeRefAll (k := 0) rfl rfl tyk_44 rfl rfl rfl rfl rfl rfl ?_)
    refine VO.cons rfl (V1.assign rfl rfl rfl (ltb rfl) ?_)
    refine VO.nil ?_
    refine V.keep 154 [0, 14, 15, 16, 17, 18] [0, 1] (E0 := [(0, .vl ρ0 1 (List.map encU8 code)), (14, .int .i64 y10.2), (15, .ref b6 4 0 0), (16, .bool y11.2), (17, .ref b7 4 0 0), (18, .bool y12.2)]) (H0 := [(b7, ⟨4, [encRecord rn y12.1]⟩), (b6, ⟨4, [encRecord rn y11.1]⟩)]) rfl (⟨_, _, rfl, rfl, ⟨_, _, rfl, rfl, ⟨_, _, rfl, rfl, ⟨_, _, rfl, rfl, ⟨_, _, rfl, rfl, ⟨_, _, rfl, rfl, rfl⟩⟩⟩⟩⟩⟩) (⟨_, _, rfl, rfl, ⟨_, _, rfl, rfl, rfl⟩⟩) rfl ?_
    refine V.seq ?_
    replace hm0 := bindO hm0; rcases hm0 with ⟨y13, hh13, hm0⟩
    refine V.region ?_
    refine VO.cons rfl (V1.move rfl rfl rfl (ltb rfl) ?_)
    refine VO.cons rfl (V1.move rfl rfl rfl (ltb rfl) ?_)
    refine VO.cons rfl (V1.boolNeq rfl rfl und_4 rfl rfl (ltb rfl) ?_)
    refine VO.cons rfl (V1.move rfl rfl rfl (ltb rfl) ?_)
    apply VO.or (n := 4) rfl rfl rfl rfl rfl rfl (ltb rfl) (.none rfl)
    ·
     intro hg5
     refine VO.step (.some rfl rfl rfl) (V1.loadRefAll (k := 1) rfl rfl tyk_44 rfl rfl rfl rfl rfl (ltb rfl) ?_)
     refine VO.step (.some rfl rfl rfl) (V1.loadRefAll (k := 0) rfl rfl tyk_44 rfl rfl rfl rfl rfl (ltb rfl) ?_)
     refine VO.step (.some rfl rfl rfl) (V1.call rfl rfl rfl cok_26 rfl (ok_laws_vRecord (cond_f hg5 hh13)) rfl (ltb rfl) ?_)
     rintro _ _ ⟨rfl, rfl⟩
     refine VO.step (.some rfl rfl rfl) (V1.not rfl rfl rfl (ltb rfl) ?_)
     exact VO.nil ⟨rfl, rfl, rfl, rfl, .inr ⟨rfl, .inr ⟨rfl, .inr ⟨rfl, .inr ⟨rfl, .inr ⟨rfl, .inl rfl⟩⟩⟩⟩⟩⟩
    refine VO.nil ?_
    refine V.keep 154 [0, 14, 15, 16, 120] [1] (E0 := [(0, .vl ρ0 1 (List.map encU8 code)), (14, .int .i64 y10.2), (15, .ref b6 4 0 0), (16, .bool y11.2), (120, .bool ((!(y11.2 == y12.2)) || (!y13)))]) (H0 := [(b6, ⟨4, [encRecord rn y11.1]⟩)]) rfl (⟨_, _, rfl, rfl, ⟨_, _, rfl, rfl, ⟨_, _, rfl, rfl, ⟨_, _, rfl, rfl, ⟨_, _, rfl, rfl, rfl⟩⟩⟩⟩⟩) (⟨_, _, rfl, rfl, rfl⟩) rfl ?_
    refine V.cond rfl (fun hc4 => ?_) (fun hc4 => ?_)
    ·
     replace hm0 := cond_t hc4 hm0
     refine V.seq ?_
     refine V.region ?_
     refine VO.cons rfl (V1.assign rfl rfl rfl (ltb rfl) ?_)
     refine VO.nil ?_
     refine V.ret ?_
     obtain rfl := Option.some.inj hm0
     exact ⟨_, [], ⟨_, _, rfl, rfl, rfl⟩, List.nil_sublist _, rfl, rfl⟩
    ·
     replace hm0 := cond_f hc4 hm0
     refine V.skip ?_
     refine V.seq ?_
     replace hm0 := bindO hm0; rcases hm0 with ⟨j1, hm1, hm0⟩
     refine V.cutT (D := (Unit) × (Unit)) (fun ⟨_, _⟩ => ⟨154, [(0, .vl ρ0 1 (List.map encU8 code))], []⟩) (fun ⟨_, _⟩ => (.inl () = j1)) ?_ ?_
     ·
      refine V.seq ?_
      refine V.region ?_
      refine VO.cons rfl (V1.move rfl rfl rfl (ltb rfl) ?_)
      refine VO.nil ?_
      refine V.cond rfl (fun hc5 => ?_) (fun hc5 => ?_)
      ·
       replace hm1 := cond_t hc5 hm1
       refine V.seq ?_
       replace hm1 := bindO hm1; rcases hm1 with ⟨y14, hh14, hm1⟩
       refine V.region ?_
       refine VO.cons rfl (V1.loadRefAll (k := 0) rfl rfl tyk_44 rfl rfl rfl rfl rfl (ltb rfl) ?_)
       refine VO.cons rfl (V1.move rfl rfl rfl (ltb rfl) ?_)
       refine VO.cons rfl (V1.call rfl rfl rfl cok_30 rfl (ok_impl_DayOf hh14) rfl (ltb rfl) ?_)
       rintro _ _ ⟨rfl, rfl⟩
       refine VO.cons rfl (V1.move rfl rfl rfl (ltb rfl) ?_)
       refine VO.cons rfl (V1.extract rfl rfl rfl rfl (ltb rfl) ?_)
       refine VO.cons rfl (V1.extract rfl rfl rfl rfl (ltb rfl) ?_)
       refine VO.cons rfl (V1.assign rfl rfl rfl (ltb rfl) ?_)
       refine VO.cons rfl (V1.assign rfl rfl rfl (ltb rfl) ?_)
       refine VO.nil ?_
       refine V.keep 154 [0, 20] [] (E0 := [(0, .vl ρ0 1 (List.map encU8 code)), (20, .bool y14.2)]) (H0 := []) rfl (⟨_, _, rfl, rfl, ⟨_, _, rfl, rfl, rfl⟩⟩) (rfl) rfl ?_
       refine V.seq ?_
       refine V.region ?_
       refine VO.cons rfl (V1.move rfl rfl rfl (ltb rfl) ?_)
       refine VO.nil ?_
       refine V.cond rfl (fun hc6 => ?_) (fun hc6 => ?_)
       ·
        replace hm1 := cond_t hc6 hm1
        refine V.seq ?_
        refine V.region ?_
        refine VO.cons rfl (V1.assign rfl rfl rfl (ltb rfl) ?_)
        refine VO.nil ?_
        refine V.ret ?_
        obtain rfl := Option.some.inj hm1
        change some _ = some _ at hm0
        obtain rfl := Option.some.inj hm0
        exact ⟨_, [], ⟨_, _, rfl, rfl, rfl⟩, List.nil_sublist _, rfl, rfl⟩
       ·
        replace hm1 := cond_f hc6 hm1
        refine V.skip ?_
        exact ⟨((), ()), Option.some.inj hm1, Keeps.mk (ks := []) rfl ⟨rfl, trivial⟩ (rfl) rfl⟩
      ·
       replace hm1 := cond_f hc5 hm1
       refine V.skip ?_
       exact ⟨((), ()), Option.some.inj hm1, Keeps.mk (ks := []) rfl ⟨rfl, trivial⟩ (rfl) rfl⟩
     ·
      rintro ⟨_, _⟩ rfl
      try dsimp only at hm0
      refine V.seq ?_
      replace hm0 := bindO hm0; rcases hm0 with ⟨y15, hh15, hm0⟩
      refine V.region ?_
      refine VO.cons rfl (V1.move rfl rfl rfl (ltb rfl) ?_)
      refine VO.cons rfl (V1.call rfl rfl rfl cok_33 rfl (ok_spec_DrawDayOf hh15) rfl (ltb rfl) ?_)
      rintro _ _ ⟨rfl, rfl⟩
      refine VO.cons rfl (V1.move rfl rfl rfl (ltb rfl) ?_)
      refine VO.cons rfl (V1.extract rfl rfl rfl rfl (ltb rfl) ?_)
      refine VO.cons rfl (V1.extract rfl rfl rfl rfl (ltb rfl) ?_)
      refine VO.cons rfl (V1.alloc rfl rfl zk_44 (ltb rfl) ?_)
      intro b8
      refine VO.cons rfl (V1.storeRefAll (k := 0) rfl rfl tyk_44 rfl rfl rfl rfl rfl rfl ?_)
      refine VO.cons rfl (V1.assign rfl rfl rfl (ltb rfl) ?_)
      refine VO.nil ?_
      refine V.keep 154 [21, 22] [0] (E0 := [(21, .ref b8 4 0 0), (22, .int .i64 y15.2)]) (H0 := [(b8, ⟨4, [encRecord rn y15.1]⟩)]) rfl (⟨_, _, rfl, rfl, ⟨_, _, rfl, rfl, rfl⟩⟩) (⟨_, _, rfl, rfl, rfl⟩) rfl ?_
      refine V.seq ?_
      replace hm0 := bindO hm0; rcases hm0 with ⟨y16, hh16, hm0⟩
      refine V.region ?_
      refine VO.cons rfl (V1.loadRefAll (k := 0) rfl rfl tyk_44 rfl rfl rfl rfl rfl (ltb rfl) ?_)
      refine VO.cons rfl (V1.move rfl rfl rfl (ltb rfl) ?_)
      refine VO.cons rfl (V1.call rfl rfl rfl cok_30 rfl (ok_impl_DayOf hh16) rfl (ltb rfl) ?_)
      rintro _ _ ⟨rfl, rfl⟩
      refine VO.cons rfl (V1.move rfl rfl rfl (ltb rfl) ?_)
      refine VO.cons rfl (V1.extract rfl rfl rfl rfl (ltb rfl) ?_)
      refine VO.cons rfl (V1.extract rfl rfl rfl rfl (ltb rfl) ?_)
      refine VO.cons rfl (V1.assign rfl rfl rfl (ltb rfl) ?_)
      refine VO.cons rfl (V1.assign rfl rfl rfl (ltb rfl) ?_)
      refine VO.nil ?_
      refine V.keep 154 [21, 22, 23, 24] [0] (E0 := [(21, .ref b8 4 0 0), (22, .int .i64 y15.2), (23, .int .i64 y16.1), (24, .bool y16.2)]) (H0 := [(b8, ⟨4, [encRecord rn y15.1]⟩)]) rfl (⟨_, _, rfl, rfl, ⟨_, _, rfl, rfl, ⟨_, _, rfl, rfl, ⟨_, _, rfl, rfl, rfl⟩⟩⟩⟩) (⟨_, _, rfl, rfl, rfl⟩) rfl ?_
      refine V.seq ?_
      replace hm0 := bindO hm0; rcases hm0 with ⟨y17, hh17, hm0⟩
      refine V.region ?_
      refine VO.cons rfl (V1.loadRefAll (k := 0) rfl rfl tyk_44 rfl rfl rfl rfl rfl (ltb rfl) ?_)
      refine VO.cons rfl (V1.move rfl rfl rfl (ltb rfl) ?_)
      refine VO.cons rfl (V1.call rfl rfl rfl cok_34 rfl (ok_spec_DayOf hh17) rfl (ltb rfl) ?_)
      rintro _ _ ⟨rfl, rfl⟩
      refine VO.cons rfl (V1.move rfl rfl rfl (ltb rfl) ?_)
      refine VO.cons rfl (V1.extract rfl rfl rfl rfl (ltb rfl) ?_)
      refine VO.cons rfl (V1.extract rfl rfl rfl rfl (ltb rfl) ?_)
      refine VO.cons rfl (V1.assign rfl rfl rfl (ltb rfl) ?_)
      refine VO.cons rfl (V1.assign rfl rfl rfl (ltb rfl) ?_)
      refine VO.nil ?_
      refine V.keep 154 [23, 24, 25, 26] [] (E0 := [(23, .int .i64 y16.1), (24, .bool y16.2), (25, .int .i64 y17.1), (26, .bool y17.2)]) (H0 := []) rfl (⟨_, _, rfl, rfl, ⟨_, _, rfl, rfl, ⟨_, _, rfl, rfl, ⟨_, _, rfl, rfl, rfl⟩⟩⟩⟩) (rfl) rfl ?_
      refine V.seq ?_
      refine V.region ?_
      refine VO.cons rfl (V1.move rfl rfl rfl (ltb rfl) ?_)
      refine VO.cons rfl (V1.move rfl rfl rfl (ltb rfl) ?_)
      refine VO.cons rfl (V1.int rfl rfl rfl rfl rfl (ltb rfl) ?_)
      refine VO.cons rfl (V1.move rfl rfl rfl (ltb rfl) ?_)
      apply VO.and (n := 3) rfl rfl rfl rfl rfl rfl (ltb rfl) (.none rfl)
      ·
       intro hg6
       refine VO.step (.some rfl rfl rfl) (V1.move rfl rfl rfl (ltb rfl) ?_)
       refine VO.step (.some rfl rfl rfl) (V1.move rfl rfl rfl (ltb rfl) ?_)
       refine VO.step (.some rfl rfl rfl) (V1.boolEql rfl rfl und_4 rfl rfl (ltb rfl) ?_)
       exact VO.nil ⟨rfl, rfl, rfl, rfl, .inr ⟨rfl, .inr ⟨rfl, .inr ⟨rfl, .inr ⟨rfl, .inl rfl⟩⟩⟩⟩⟩
      refine VO.cons rfl (V1.assign rfl rfl rfl (ltb rfl) ?_)
      refine VO.nil ?_
      refine V.ret ?_
      obtain rfl := Option.some.inj hm0
      exact ⟨_, [], ⟨_, _, rfl, rfl, rfl⟩, List.nil_sublist _, rfl, rfl⟩
end Go.Proofs.Ytjfpdbhjoofllaa
