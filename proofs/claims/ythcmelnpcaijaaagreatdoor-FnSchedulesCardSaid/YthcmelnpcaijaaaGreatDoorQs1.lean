/- the functions do what their models say -/
import Derived.Test.YthcmelnpcaijaaaGreatDoorFacts
import Derived.Test.YthcmelnpcaijaaaGreatDoorSh
import Derived.KernelRfl
import Derived.Test.YthcmelnpcaijaaaGreatDoorMsM
set_option linter.unusedSimpArgs false
set_option linter.unusedVariables false
set_option maxRecDepth 100000
set_option maxHeartbeats 4000000
namespace Go.Proofs.YthcmelnpcaijaaaGreatDoor
open Go.VS

theorem ok_laws_vBig {ρ0 rn : Nat} {code : List Int} {r : Bool} (h : M.laws_vBig code = some r) : Does Tryz.prog 4 [.vl ρ0 1 (List.map encU8 code)] [] rn (fun x H => x = .bool r ∧ H = []) := by
 have hm0 := h; clear h; unfold M.laws_vBig at hm0
 try dsimp only at hm0
 refine Does.intro (N := 6) Tryz.func4 rfl rfl rfl rfl ?_
 intro w0 S0 L0
 refine V.seq ?_
 refine V.region ?_
 refine VO.cons rfl (V1.assign rfl rfl rfl lt0 ?_)
 refine VO.nil ?_
 refine V.seq ?_
 refine V.region ?_
 refine VO.cons rfl (V1.move rfl rfl rfl lt0 ?_)
 refine VO.cons rfl (V1.lenMap rfl rfl rfl rfl rfl rfl isl_22 lt0 ?_)
 refine VO.cons rfl (V1.int rfl rfl rfl rfl rfl lt0 ?_)
 refine VO.cons rfl (V1.assign rfl rfl rfl lt0 ?_)
 refine VO.nil ?_
 refine V.ret ?_
 obtain rfl := Option.some.inj hm0
 exact ⟨_, [], ⟨_, _, rfl, rfl, rfl⟩, List.nil_sublist _, rfl, rfl⟩

theorem ok_spec_l1Cur_next {ρ0 rn bp : Nat} {c : Cur} {r : Int × Cur} (h : M.spec_l1Cur_next c = some r) : Does Tryz.prog 81 [.ref bp 3 0 0] [(bp, ⟨3, [encCur ρ0 c]⟩)] rn (fun x H => x = .int .i64 r.1 ∧ H = [(bp, ⟨3, [encCur ρ0 r.2]⟩)]) := by
 have hm0 := h; clear h; unfold M.spec_l1Cur_next at hm0
 try dsimp only at hm0
 refine Does.intro (N := 62) Tryz.func81 rfl rfl rfl rfl ?_
 intro w0 S0 L0
 refine V.seq ?_
 refine V.region ?_
 refine VO.cons rfl (V1.assign rfl rfl rfl lt0 ?_)
 refine VO.nil ?_
 refine V.seq ?_
 refine V.region ?_
 refine VO.cons rfl (V1.assign rfl rfl rfl lt0 ?_)
 refine VO.nil ?_
 refine V.seq ?_
 replace hm0 := bindO hm0; rcases hm0 with ⟨j0, hm1, hm0⟩
 refine V.cutT (D := (Int) × (Unit)) (fun ⟨b_, _⟩ => ⟨62, [(3, .int .i64 b_), (0, .ref bp 3 0 0)], [(bp, ⟨3, [encCur ρ0 c]⟩)]⟩) (fun ⟨b_, _⟩ => (b_ = j0)) ?_ ?_
 ·
  refine V.seq ?_
  refine V.regionM 62 9 [⟨[(0, none)], [], none⟩, ⟨[(4, some 0)], [], none⟩, ⟨[(5, some 0)], [], none⟩, ⟨[(6, some 0)], [], none⟩, ⟨[(0, none)], [], none⟩, ⟨[(8, some 0)], [], none⟩, ⟨[(9, some 0)], [], none⟩, ⟨[(10, some 0)], [], none⟩, ⟨[(11, some 0)], [], none⟩] [(0, none), (3, none), (7, some 5), (12, some 0)] (⟨_, rfl, ⟨_, rfl, ⟨_, rfl, ⟨_, rfl, ⟨_, rfl, ⟨_, rfl, ⟨_, rfl, ⟨_, rfl, ⟨_, rfl, ⟨rfl, rfl⟩⟩⟩⟩⟩⟩⟩⟩⟩⟩) mixed_orders rfl (by decide +kernel) (fun hck2 => ?_)
  refine VP.step (p := ?pv104) rfl rfl rfl (⟨_, _, rfl, rfl, rfl⟩) ?hv104 ?rest104 hck2
  case hv104 =>
   intro E1
   refine (V1.move rfl rfl rfl lt0 ?_)
   exact rfl
  refine VP.step (p := ?pv105) rfl rfl rfl (⟨_, _, rfl, rfl, rfl⟩) ?hv105 ?rest105 hck2
  case hv105 =>
   intro E1
   refine (V1.nilRef rfl rfl rfl lt0 ?_)
   exact rfl
  refine VP.step (p := ?pv106) rfl rfl rfl (⟨_, _, rfl, rfl, rfl⟩) ?hv106 ?rest106 hck2
  case hv106 =>
   intro E1
   refine (V1.fieldRef rfl rfl fo_56_1 rfl lt0 ?_)
   exact rfl
  refine VP.step (p := ?pv107) rfl rfl rfl (⟨_, _, rfl, rfl, rfl⟩) ?hv107 ?rest107 hck2
  case hv107 =>
   intro E1
   refine (V1.loadRef (k := 0) rfl rfl tyk_3 rfl rfl rfl rfl rfl lt0 ?_)
   exact rfl
  refine VP.step (p := ?pv108) rfl rfl rfl (⟨_, _, rfl, rfl, rfl⟩) ?hv108 ?rest108 hck2
  case hv108 =>
   intro E1
   refine (V1.move rfl rfl rfl lt0 ?_)
   exact rfl
  refine VP.step (p := ?pv109) rfl rfl rfl (⟨_, _, rfl, rfl, rfl⟩) ?hv109 ?rest109 hck2
  case hv109 =>
   intro E1
   refine (V1.nilRef rfl rfl rfl lt0 ?_)
   exact rfl
  refine VP.step (p := ?pv110) rfl rfl rfl (⟨_, _, rfl, rfl, rfl⟩) ?hv110 ?rest110 hck2
  case hv110 =>
   intro E1
   refine (V1.fieldRef rfl rfl fo_56_0 rfl lt0 ?_)
   exact rfl
  refine VP.step (p := ?pv111) rfl rfl rfl (⟨_, _, rfl, rfl, rfl⟩) ?hv111 ?rest111 hck2
  case hv111 =>
   intro E1
   refine (V1.loadRef (k := 0) rfl rfl tyk_22 rfl rfl rfl rfl rfl lt0 ?_)
   exact rfl
  refine VP.step (p := ?pv112) rfl rfl rfl (⟨_, _, rfl, rfl, rfl⟩) ?hv112 ?rest112 hck2
  case hv112 =>
   intro E1
   refine (V1.lenMap rfl rfl rfl rfl rfl rfl isl_22 lt0 ?_)
   exact rfl
  refine VP.fin rfl (⟨_, _, rfl, rfl, _, _, rfl, rfl, _, _, rfl, rfl, _, _, rfl, rfl, rfl⟩) ?_
  refine VO.cons rfl (V1.int rfl rfl rfl rfl rfl lt0 ?_)
  refine VO.nil ?_
  refine V.cond rfl (fun hc0 => ?_) (fun hc0 => ?_)
  ·
   replace hm1 := cond_t hc0 hm1
   replace hm1 := asrt_some hm1; rcases hm1 with ⟨hh0, hm1⟩
   refine V.regionM 62 8 [⟨[(0, none)], [], none⟩, ⟨[(14, some 0)], [], none⟩, ⟨[(15, some 0)], [], none⟩, ⟨[(16, some 0)], [], none⟩, ⟨[(0, none)], [], none⟩, ⟨[(18, some 0)], [], none⟩, ⟨[(19, some 0)], [], none⟩, ⟨[(20, some 0)], [], none⟩] [(0, none), (17, some 4), (21, some 0)] (⟨_, rfl, ⟨_, rfl, ⟨_, rfl, ⟨_, rfl, ⟨_, rfl, ⟨_, rfl, ⟨_, rfl, ⟨_, rfl, ⟨rfl, rfl⟩⟩⟩⟩⟩⟩⟩⟩⟩) mixed_orders rfl (by decide +kernel) (fun hck3 => ?_)
   refine VP.step (p := ?pv113) rfl rfl rfl (⟨_, _, rfl, rfl, rfl⟩) ?hv113 ?rest113 hck3
   case hv113 =>
    intro E1
    refine (V1.move rfl rfl rfl lt0 ?_)
    exact rfl
   refine VP.step (p := ?pv114) rfl rfl rfl (⟨_, _, rfl, rfl, rfl⟩) ?hv114 ?rest114 hck3
   case hv114 =>
    intro E1
    refine (V1.nilRef rfl rfl rfl lt0 ?_)
    exact rfl
   refine VP.step (p := ?pv115) rfl rfl rfl (⟨_, _, rfl, rfl, rfl⟩) ?hv115 ?rest115 hck3
   case hv115 =>
    intro E1
    refine (V1.fieldRef rfl rfl fo_56_0 rfl lt0 ?_)
    exact rfl
   refine VP.step (p := ?pv116) rfl rfl rfl (⟨_, _, rfl, rfl, rfl⟩) ?hv116 ?rest116 hck3
   case hv116 =>
    intro E1
    refine (V1.loadRef (k := 0) rfl rfl tyk_22 rfl rfl rfl rfl rfl lt0 ?_)
    exact rfl
   refine VP.step (p := ?pv117) rfl rfl rfl (⟨_, _, rfl, rfl, rfl⟩) ?hv117 ?rest117 hck3
   case hv117 =>
    intro E1
    refine (V1.move rfl rfl rfl lt0 ?_)
    exact rfl
   refine VP.step (p := ?pv118) rfl rfl rfl (⟨_, _, rfl, rfl, rfl⟩) ?hv118 ?rest118 hck3
   case hv118 =>
    intro E1
    refine (V1.nilRef rfl rfl rfl lt0 ?_)
    exact rfl
   refine VP.step (p := ?pv119) rfl rfl rfl (⟨_, _, rfl, rfl, rfl⟩) ?hv119 ?rest119 hck3
   case hv119 =>
    intro E1
    refine (V1.fieldRef rfl rfl fo_56_1 rfl lt0 ?_)
    exact rfl
   refine VP.step (p := ?pv120) rfl rfl rfl (⟨_, _, rfl, rfl, rfl⟩) ?hv120 ?rest120 hck3
   case hv120 =>
    intro E1
    refine (V1.loadRef (k := 0) rfl rfl tyk_3 rfl rfl rfl rfl rfl lt0 ?_)
    exact rfl
   refine VP.fin rfl (⟨_, _, rfl, rfl, _, _, rfl, rfl, _, _, rfl, rfl, rfl⟩) ?_
   refine VO.cons rfl (V1.indexI rfl rfl esz_22 rfl rfl hh0 lt0 ?_)
   refine VO.cons rfl (V1.loadPin rfl rfl tyk_5 rfl rfl lt0 ?_)
   refine VO.cons rfl (V1.conv rfl rfl und_5 und_3 rfl lt0 ?_)
   refine VO.cons rfl (V1.assign rfl rfl rfl lt0 ?_)
   refine VO.nil ?_
   exact ⟨((IntKind.i64.wrap (c.Code.getD (Int.toNat c.At) default)), ()), Option.some.inj hm1, Keeps.mk (ks := [0]) rfl ⟨rfl, rfl, trivial⟩ (⟨_, _, rfl, rfl, rfl⟩) rfl⟩
  ·
   replace hm1 := cond_f hc0 hm1
   refine V.skip ?_
   exact ⟨((0 : Int), ()), Option.some.inj hm1, Keeps.mk (ks := [0]) rfl ⟨rfl, rfl, trivial⟩ (⟨_, _, rfl, rfl, rfl⟩) rfl⟩
 ·
  rintro ⟨b_, _⟩ rfl
  try dsimp only at hm0
  refine V.seq ?_
  refine V.region ?_
  refine VO.cons rfl (V1.move rfl rfl rfl lt0 ?_)
  refine VO.cons rfl (V1.nilRef rfl rfl rfl lt0 ?_)
  refine VO.cons rfl (V1.fieldRef rfl rfl fo_56_1 rfl lt0 ?_)
  refine VO.cons rfl (V1.loadRef (k := 0) rfl rfl tyk_3 rfl rfl rfl rfl rfl lt0 ?_)
  refine VO.cons rfl (V1.int rfl rfl rfl rfl rfl lt0 ?_)
  refine VO.cons rfl (V1.nilRef rfl rfl rfl lt0 ?_)
  refine VO.cons rfl (V1.fieldRef rfl rfl fo_56_1 rfl lt0 ?_)
  refine VO.cons rfl (V1.storeRef (k := 0) rfl rfl tyk_3 rfl rfl rfl rfl rfl rfl rfl rfl rfl ?_)
  refine VO.nil ?_
  refine V.keep 62 [0, 3] [0] (E0 := [(0, .ref bp 3 0 0), (3, .int .i64 b_)]) (H0 := [(bp, ⟨3, [.agg [.vl ρ0 1 (List.map encU8 c.Code), .int .i64 (IntKind.i64.wrap (c.At + (1 : Int))), .int .u64 c.Seed]]⟩)]) rfl (⟨_, _, rfl, rfl, _, _, rfl, rfl, rfl⟩) (⟨_, _, rfl, rfl, rfl⟩) rfl ?_
  refine V.seq ?_
  refine V.region ?_
  refine VO.cons rfl (V1.move rfl rfl rfl lt0 ?_)
  refine VO.cons rfl (V1.move rfl rfl rfl lt0 ?_)
  refine VO.cons rfl (V1.nilRef rfl rfl rfl lt0 ?_)
  refine VO.cons rfl (V1.fieldRef rfl rfl fo_56_2 rfl lt0 ?_)
  refine VO.cons rfl (V1.loadRef (k := 0) rfl rfl tyk_54 rfl rfl rfl rfl rfl lt0 ?_)
  refine VO.cons rfl (V1.int rfl rfl rfl rfl rfl lt0 ?_)
  refine VO.cons rfl (V1.move rfl rfl rfl lt0 ?_)
  refine VO.cons rfl (V1.conv rfl rfl und_3 und_54 rfl lt0 ?_)
  refine VO.cons rfl (V1.int rfl rfl rfl rfl rfl lt0 ?_)
  refine VO.cons rfl (V1.int rfl rfl rfl rfl rfl lt0 ?_)
  refine VO.cons rfl (V1.nilRef rfl rfl rfl lt0 ?_)
  refine VO.cons rfl (V1.fieldRef rfl rfl fo_56_2 rfl lt0 ?_)
  refine VO.cons rfl (V1.storeRef (k := 0) rfl rfl tyk_54 rfl rfl rfl rfl rfl rfl rfl rfl rfl ?_)
  refine VO.nil ?_
  refine V.keep 62 [0, 3] [0] (E0 := [(0, .ref bp 3 0 0), (3, .int .i64 b_)]) (H0 := [(bp, ⟨3, [.agg [.vl ρ0 1 (List.map encU8 c.Code), .int .i64 (IntKind.i64.wrap (c.At + (1 : Int))), .int .u64 (IntKind.u64.wrap ((IntKind.u64.wrap ((IntKind.u64.wrap (c.Seed * (6364136223846793005 : Int))) + (IntKind.u64.wrap b_))) + (103535 : Int)))]]⟩)]) rfl (⟨_, _, rfl, rfl, _, _, rfl, rfl, rfl⟩) (⟨_, _, rfl, rfl, rfl⟩) rfl ?_
  refine V.seq ?_
  refine V.seq ?_
  refine V.regionM 62 9 [⟨[(0, none)], [], none⟩, ⟨[(44, some 0)], [], none⟩, ⟨[(45, some 0)], [], none⟩, ⟨[(46, some 0)], [], none⟩, ⟨[(0, none)], [], none⟩, ⟨[(48, some 0)], [], none⟩, ⟨[(49, some 0)], [], none⟩, ⟨[(50, some 0)], [], none⟩, ⟨[(51, some 0)], [], none⟩] [(0, none), (3, none), (47, some 5), (52, some 0)] (⟨_, rfl, ⟨_, rfl, ⟨_, rfl, ⟨_, rfl, ⟨_, rfl, ⟨_, rfl, ⟨_, rfl, ⟨_, rfl, ⟨_, rfl, ⟨rfl, rfl⟩⟩⟩⟩⟩⟩⟩⟩⟩⟩) mixed_orders rfl (by decide +kernel) (fun hck6 => ?_)
  refine VP.step (p := ?pv121) rfl rfl rfl (⟨_, _, rfl, rfl, rfl⟩) ?hv121 ?rest121 hck6
  case hv121 =>
   intro E1
   refine (V1.move rfl rfl rfl lt0 ?_)
   exact rfl
  refine VP.step (p := ?pv122) rfl rfl rfl (⟨_, _, rfl, rfl, rfl⟩) ?hv122 ?rest122 hck6
  case hv122 =>
   intro E1
   refine (V1.nilRef rfl rfl rfl lt0 ?_)
   exact rfl
  refine VP.step (p := ?pv123) rfl rfl rfl (⟨_, _, rfl, rfl, rfl⟩) ?hv123 ?rest123 hck6
  case hv123 =>
   intro E1
   refine (V1.fieldRef rfl rfl fo_56_1 rfl lt0 ?_)
   exact rfl
  refine VP.step (p := ?pv124) rfl rfl rfl (⟨_, _, rfl, rfl, rfl⟩) ?hv124 ?rest124 hck6
  case hv124 =>
   intro E1
   refine (V1.loadRef (k := 0) rfl rfl tyk_3 rfl rfl rfl rfl rfl lt0 ?_)
   exact rfl
  refine VP.step (p := ?pv125) rfl rfl rfl (⟨_, _, rfl, rfl, rfl⟩) ?hv125 ?rest125 hck6
  case hv125 =>
   intro E1
   refine (V1.move rfl rfl rfl lt0 ?_)
   exact rfl
  refine VP.step (p := ?pv126) rfl rfl rfl (⟨_, _, rfl, rfl, rfl⟩) ?hv126 ?rest126 hck6
  case hv126 =>
   intro E1
   refine (V1.nilRef rfl rfl rfl lt0 ?_)
   exact rfl
  refine VP.step (p := ?pv127) rfl rfl rfl (⟨_, _, rfl, rfl, rfl⟩) ?hv127 ?rest127 hck6
  case hv127 =>
   intro E1
   refine (V1.fieldRef rfl rfl fo_56_0 rfl lt0 ?_)
   exact rfl
  refine VP.step (p := ?pv128) rfl rfl rfl (⟨_, _, rfl, rfl, rfl⟩) ?hv128 ?rest128 hck6
  case hv128 =>
   intro E1
   refine (V1.loadRef (k := 0) rfl rfl tyk_22 rfl rfl rfl rfl rfl lt0 ?_)
   exact rfl
  refine VP.step (p := ?pv129) rfl rfl rfl (⟨_, _, rfl, rfl, rfl⟩) ?hv129 ?rest129 hck6
  case hv129 =>
   intro E1
   refine (V1.lenMap rfl rfl rfl rfl rfl rfl isl_22 lt0 ?_)
   exact rfl
  refine VP.fin rfl (⟨_, _, rfl, rfl, _, _, rfl, rfl, _, _, rfl, rfl, _, _, rfl, rfl, rfl⟩) ?_
  refine VO.cons rfl (V1.int rfl rfl rfl rfl rfl lt0 ?_)
  refine VO.nil ?_
  refine V.cond rfl (fun hc1 => ?_) (fun hc1 => ?_)
  ·
   replace hm0 := cond_t hc1 hm0
   refine V.seq ?_
   refine V.region ?_
   refine VO.cons rfl (V1.move rfl rfl rfl lt0 ?_)
   refine VO.cons rfl (V1.assign rfl rfl rfl lt0 ?_)
   refine VO.nil ?_
   refine V.ret ?_
   obtain rfl := Option.some.inj hm0
   exact ⟨_, _, ⟨_, _, rfl, rfl, rfl⟩, (sub1 (k := 0) rfl), rfl, rfl⟩
  ·
   replace hm0 := cond_f hc1 hm0
   refine V.skip ?_
   refine V.keep 62 [0] [0] (E0 := [(0, .ref bp 3 0 0)]) (H0 := [(bp, ⟨3, [.agg [.vl ρ0 1 (List.map encU8 c.Code), .int .i64 (IntKind.i64.wrap (c.At + (1 : Int))), .int .u64 (IntKind.u64.wrap ((IntKind.u64.wrap ((IntKind.u64.wrap (c.Seed * (6364136223846793005 : Int))) + (IntKind.u64.wrap b_))) + (103535 : Int)))]]⟩)]) rfl (⟨_, _, rfl, rfl, rfl⟩) (⟨_, _, rfl, rfl, rfl⟩) rfl ?_
   refine V.seq ?_
   refine V.region ?_
   refine VO.cons rfl (V1.move rfl rfl rfl lt0 ?_)
   refine VO.cons rfl (V1.nilRef rfl rfl rfl lt0 ?_)
   refine VO.cons rfl (V1.fieldRef rfl rfl fo_56_2 rfl lt0 ?_)
   refine VO.cons rfl (V1.loadRef (k := 0) rfl rfl tyk_54 rfl rfl rfl rfl rfl lt0 ?_)
   refine VO.cons rfl (V1.shr rfl rfl rfl rfl (by decide) lt0 ?_)
   refine VO.cons rfl (V1.int rfl rfl rfl rfl rfl lt0 ?_)
   refine VO.cons rfl (V1.conv rfl rfl und_54 und_3 rfl lt0 ?_)
   refine VO.cons rfl (V1.assign rfl rfl rfl lt0 ?_)
   refine VO.nil ?_
   refine V.ret ?_
   obtain rfl := Option.some.inj hm0
   exact ⟨_, _, ⟨_, _, rfl, rfl, rfl⟩, (sub1 (k := 0) rfl), rfl, rfl⟩

theorem ok_spec_l1Cur_pick {ρ0 rn bp : Nat} {c : Cur} {n : Int} {r : Int × Cur} (h : M.spec_l1Cur_pick c n = some r) : Does Tryz.prog 59 [.ref bp 3 0 0, .int .i64 n] [(bp, ⟨3, [encCur ρ0 c]⟩)] rn (fun x H => x = .int .i64 r.1 ∧ H = [(bp, ⟨3, [encCur ρ0 r.2]⟩)]) := by
 have hm0 := h; clear h; unfold M.spec_l1Cur_pick at hm0
 try dsimp only at hm0
 refine Does.intro (N := 20) Tryz.func59 rfl rfl rfl rfl ?_
 intro w0 S0 L0
 refine V.seq ?_
 refine V.region ?_
 refine VO.cons rfl (V1.assign rfl rfl rfl lt0 ?_)
 refine VO.nil ?_
 refine V.seq ?_
 refine V.seq ?_
 refine V.region ?_
 refine VO.cons rfl (V1.move rfl rfl rfl lt0 ?_)
 refine VO.cons rfl (V1.int rfl rfl rfl rfl rfl lt0 ?_)
 refine VO.nil ?_
 refine V.cond rfl (fun hc0 => ?_) (fun hc0 => ?_)
 ·
  replace hm0 := cond_t hc0 hm0
  refine V.seq ?_
  refine V.region ?_
  refine VO.cons rfl (V1.assign rfl rfl rfl lt0 ?_)
  refine VO.nil ?_
  refine V.ret ?_
  obtain rfl := Option.some.inj hm0
  exact ⟨_, _, ⟨_, _, rfl, rfl, rfl⟩, (sub1 (k := 0) rfl), rfl, rfl⟩
 ·
  replace hm0 := cond_f hc0 hm0
  refine V.skip ?_
  refine V.seq ?_
  replace hm0 := bindO hm0; rcases hm0 with ⟨y0, hh0, hm0⟩
  refine V.region ?_
  refine VO.cons rfl (V1.move rfl rfl rfl lt0 ?_)
  refine VO.cons rfl (V1.callM 0 (rn + ρ0 + 1) [] [.ref bp 3 0 0] (p := (bp, ⟨3, [encCur ρ0 c]⟩)) rfl rfl rfl cok_81 rfl rfl ⟨_, _, rfl, .same _, rfl⟩ bwNil (ok_spec_l1Cur_next hh0) rfl (.inl rfl) lt0 ?_)
  rintro _ _ ⟨rfl, rfl⟩
  refine VO.cons rfl (V1.assign rfl rfl rfl lt0 ?_)
  refine VO.nil ?_
  refine V.keep 20 [0, 1, 5] [0] (E0 := [(0, .ref bp 3 0 0), (1, .int .i64 n), (5, .int .i64 y0.1)]) (H0 := [(bp, ⟨3, [encCur ρ0 y0.2]⟩)]) rfl (⟨_, _, rfl, rfl, _, _, rfl, rfl, _, _, rfl, rfl, rfl⟩) (⟨_, _, rfl, rfl, rfl⟩) rfl ?_
  refine V.seq ?_
  replace hm0 := bindO hm0; rcases hm0 with ⟨j0, hm1, hm0⟩
  refine V.cutT (D := (Int × Cur) × (Unit)) (fun ⟨⟨x, c_⟩, _⟩ => ⟨20, [(5, .int .i64 x), (1, .int .i64 n)], [(bp, ⟨3, [encCur ρ0 c_]⟩)]⟩) (fun ⟨⟨x, c_⟩, _⟩ => ((x, c_) = j0)) ?_ ?_
  ·
   refine V.seq ?_
   refine V.region ?_
   refine VO.cons rfl (V1.move rfl rfl rfl lt0 ?_)
   refine VO.cons rfl (V1.int rfl rfl rfl rfl rfl lt0 ?_)
   refine VO.nil ?_
   refine V.cond rfl (fun hc1 => ?_) (fun hc1 => ?_)
   ·
    replace hm1 := cond_t hc1 hm1
    replace hm1 := bindO hm1; rcases hm1 with ⟨y1, hh1, hm1⟩
    refine V.region ?_
    refine VO.cons rfl (V1.move rfl rfl rfl lt0 ?_)
    refine VO.cons rfl (V1.int rfl rfl rfl rfl rfl lt0 ?_)
    refine VO.cons rfl (V1.move rfl rfl rfl lt0 ?_)
    refine VO.cons rfl (V1.callM 0 (rn + ρ0 + 1) [] [.ref bp 3 0 0] (p := (bp, ⟨3, [encCur ρ0 y0.2]⟩)) rfl rfl rfl cok_81 rfl rfl ⟨_, _, rfl, .same _, rfl⟩ bwNil (ok_spec_l1Cur_next hh1) rfl (.inl rfl) lt0 ?_)
    rintro _ _ ⟨rfl, rfl⟩
    refine VO.cons rfl (V1.int rfl rfl rfl rfl rfl lt0 ?_)
    refine VO.cons rfl (V1.assign rfl rfl rfl lt0 ?_)
    refine VO.nil ?_
    exact ⟨(((IntKind.i64.wrap ((IntKind.i64.wrap (y0.1 * (256 : Int))) + y1.1)), y1.2), ()), Option.some.inj hm1, Keeps.mk (ks := [0]) rfl ⟨rfl, rfl, trivial⟩ (⟨_, _, rfl, rfl, rfl⟩) rfl⟩
   ·
    replace hm1 := cond_f hc1 hm1
    refine V.skip ?_
    exact ⟨((y0.1, y0.2), ()), Option.some.inj hm1, Keeps.mk (ks := [0]) rfl ⟨rfl, rfl, trivial⟩ (⟨_, _, rfl, rfl, rfl⟩) rfl⟩
  ·
   rintro ⟨⟨x, c_⟩, _⟩ rfl
   try dsimp only at hm0
   refine V.seq ?_
   replace hm0 := asrt_some hm0; rcases hm0 with ⟨hh2, hm0⟩
   refine V.region ?_
   refine VO.cons rfl (V1.move rfl rfl rfl lt0 ?_)
   refine VO.cons rfl (V1.move rfl rfl rfl lt0 ?_)
   refine VO.cons rfl (V1.rem rfl rfl rfl rfl (hh2) lt0 ?_)
   refine VO.cons rfl (V1.assign rfl rfl rfl lt0 ?_)
   refine VO.nil ?_
   refine V.ret ?_
   obtain rfl := Option.some.inj hm0
   exact ⟨_, _, ⟨_, _, rfl, rfl, rfl⟩, (sub1 (k := 0) rfl), rfl, rfl⟩

theorem ok_spec_l1Cur_among {ρ0 ρ1 rn bp : Nat} {c : Cur} {list : List Int} {r : Int × Cur} (h : M.spec_l1Cur_among c list = some r) : Does Tryz.prog 39 [.ref bp 3 0 0, .vl ρ1 1 (List.map encInt list)] [(bp, ⟨3, [encCur ρ0 c]⟩)] rn (fun x H => x = .int .i64 r.1 ∧ H = [(bp, ⟨3, [encCur ρ0 r.2]⟩)]) := by
 have hm0 := h; clear h; unfold M.spec_l1Cur_among at hm0
 try dsimp only at hm0
 refine Does.intro (N := 12) Tryz.func39 rfl rfl rfl rfl ?_
 intro w0 S0 L0
 refine V.seq ?_
 refine V.region ?_
 refine VO.cons rfl (V1.assign rfl rfl rfl lt0 ?_)
 refine VO.nil ?_
 refine V.seq ?_
 replace hm0 := bindO hm0; rcases hm0 with ⟨y0, hh0, hm0⟩
 replace hm0 := asrt_some hm0; rcases hm0 with ⟨hh1, hm0⟩
 refine V.region ?_
 refine VO.cons rfl (V1.move rfl rfl rfl lt0 ?_)
 refine VO.cons rfl (V1.move rfl rfl rfl lt0 ?_)
 refine VO.cons rfl (V1.move rfl rfl rfl lt0 ?_)
 refine VO.cons rfl (V1.lenMap rfl rfl rfl rfl rfl rfl isl_33 lt0 ?_)
 refine VO.cons rfl (V1.callM 0 (rn + ρ0 + 1) [] [.ref bp 3 0 0, .int .i64 (list.length : Int)] (p := (bp, ⟨3, [encCur ρ0 c]⟩)) rfl rfl rfl cok_59 rfl rfl ⟨_, _, rfl, .same _, ⟨_, _, rfl, .same _, rfl⟩⟩ bwNil (ok_spec_l1Cur_pick hh0) rfl (.inl rfl) lt0 ?_)
 rintro _ _ ⟨rfl, rfl⟩
 refine VO.cons rfl (V1.indexI rfl rfl esz_33 rfl rfl hh1 lt0 ?_)
 refine VO.cons rfl (V1.loadPin rfl rfl tyk_3 rfl rfl lt0 ?_)
 refine VO.cons rfl (V1.assign rfl rfl rfl lt0 ?_)
 refine VO.nil ?_
 refine V.ret ?_
 obtain rfl := Option.some.inj hm0
 exact ⟨_, _, ⟨_, _, rfl, rfl, rfl⟩, (sub1 (k := 0) rfl), rfl, rfl⟩

theorem ok_spec_l1Cur_rule {ρ0 rn bp : Nat} {c : Cur} {r : Rule × Cur} (h : M.spec_l1Cur_rule c = some r) : Does Tryz.prog 61 [.ref bp 3 0 0] [(bp, ⟨3, [encCur ρ0 c]⟩)] rn (fun x H => x = encRule r.1 ∧ H = [(bp, ⟨3, [encCur ρ0 r.2]⟩)]) := by
 have hm0 := h; clear h; unfold M.spec_l1Cur_rule at hm0
 try dsimp only at hm0
 refine Does.intro (N := 44) Tryz.func61 rfl rfl rfl rfl ?_
 intro w0 S0 L0
 refine V.seq ?_
 refine V.region ?_
 refine VO.cons rfl (V1.alloc rfl rfl zk_50 lt0 ?_)
 intro b0
 refine VO.nil ?_
 refine V.seq ?_
 replace hm0 := bindO hm0; rcases hm0 with ⟨y0, hh0, hm0⟩
 replace hm0 := bindO hm0; rcases hm0 with ⟨y1, hh1, hm0⟩
 replace hm0 := bindO hm0; rcases hm0 with ⟨y2, hh2, hm0⟩
 replace hm0 := bindO hm0; rcases hm0 with ⟨y3, hh3, hm0⟩
 refine V.region ?_
 refine VO.cons rfl (V1.move rfl rfl rfl lt0 ?_)
 refine VO.cons rfl (V1.buildSliceT (f := encInt) ([(1 : Int), (2 : Int), (3 : Int), (3 : Int), (7 : Int), (99 : Int)] : List Int) rfl rfl esz_33 zk_3 rfl rfl rfl rfl rfl rfl rfl lt0 ?_)
 intro b1
 refine VO.cons rfl (V1.callM 2 (rn + ρ0 + 1) [b1] [.ref bp 3 0 0, .vl (rn + ρ0 + 1) 1 (List.map encInt ([(1 : Int), (2 : Int), (3 : Int), (3 : Int), (7 : Int), (99 : Int)] : List Int))] (p := (bp, ⟨3, [encCur ρ0 c]⟩)) rfl rfl rfl cok_39 rfl rfl ⟨_, _, rfl, .same _, ⟨_, _, rfl, Lend.srMap 0 rfl (fun _ => rfl) (.head _), rfl⟩⟩ (bwCons (k := 0) rfl bwNil) (ok_spec_l1Cur_among hh0) rfl (.inr ⟨(by first | omega | (dsimp only; omega)), by rintro _ _ ⟨rfl, rfl⟩; exact ⟨by simp [PV.no, PV.noL, optS_no, noL_iff, nbeq] <;> omega, by intro b ob h; first | exact optH_no (noL_map (fun _ => by simp [PV.no, PV.noL, noL_iff, nbeq]) _) b ob h | (simp only [List.append_assoc, List.mem_append, List.mem_cons, List.mem_singleton, List.not_mem_nil, or_false, Prod.mk.injEq] at h; rcases h with ⟨rfl, rfl⟩ | ⟨rfl, rfl⟩ <;> first | exact noL_map (fun _ => by simp [PV.no, PV.noL, noL_iff, nbeq]) _ | (simp [PV.no, PV.noL, optS_no, noL_iff, nbeq] <;> omega)) | (simp at h; obtain ⟨rfl, rfl⟩ := h; exact noL_map (fun _ => by simp [PV.no, PV.noL, noL_iff, nbeq]) _) | (simp at h; obtain ⟨rfl, rfl⟩ := h; simp [PV.no, PV.noL, optS_no, noL_iff, nbeq] <;> omega)⟩⟩) lt0 ?_)
 rintro _ _ ⟨rfl, rfl⟩
 refine VO.cons rfl (V1.move rfl rfl rfl lt0 ?_)
 refine VO.cons rfl (V1.buildSliceT (f := encInt) ([(0 : Int), (0 : Int), (1 : Int), (2 : Int), (3 : Int), (9 : Int)] : List Int) rfl rfl esz_33 zk_3 rfl rfl rfl rfl rfl rfl rfl lt0 ?_)
 intro b2
 refine VO.cons rfl (V1.callM 1 (rn + ρ0 + 1) [b2] [.ref bp 3 0 0, .vl (rn + ρ0 + 1) 1 (List.map encInt ([(0 : Int), (0 : Int), (1 : Int), (2 : Int), (3 : Int), (9 : Int)] : List Int))] (p := (bp, ⟨3, [encCur ρ0 y0.2]⟩)) rfl rfl rfl cok_39 rfl rfl ⟨_, _, rfl, .same _, ⟨_, _, rfl, Lend.srMap 0 rfl (fun _ => rfl) (.head _), rfl⟩⟩ (bwCons (k := 0) rfl bwNil) (ok_spec_l1Cur_among hh1) rfl (.inr ⟨(by first | omega | (dsimp only; omega)), by rintro _ _ ⟨rfl, rfl⟩; exact ⟨by simp [PV.no, PV.noL, optS_no, noL_iff, nbeq] <;> omega, by intro b ob h; first | exact optH_no (noL_map (fun _ => by simp [PV.no, PV.noL, noL_iff, nbeq]) _) b ob h | (simp only [List.append_assoc, List.mem_append, List.mem_cons, List.mem_singleton, List.not_mem_nil, or_false, Prod.mk.injEq] at h; rcases h with ⟨rfl, rfl⟩ | ⟨rfl, rfl⟩ <;> first | exact noL_map (fun _ => by simp [PV.no, PV.noL, noL_iff, nbeq]) _ | (simp [PV.no, PV.noL, optS_no, noL_iff, nbeq] <;> omega)) | (simp at h; obtain ⟨rfl, rfl⟩ := h; exact noL_map (fun _ => by simp [PV.no, PV.noL, noL_iff, nbeq]) _) | (simp at h; obtain ⟨rfl, rfl⟩ := h; simp [PV.no, PV.noL, optS_no, noL_iff, nbeq] <;> omega)⟩⟩) lt0 ?_)
 rintro _ _ ⟨rfl, rfl⟩
 refine VO.cons rfl (V1.move rfl rfl rfl lt0 ?_)
 refine VO.cons rfl (V1.buildSliceT (f := encInt) ([(0 : Int), (30 : Int), (365 : Int), (400 : Int), (3650 : Int), (20000 : Int)] : List Int) rfl rfl esz_33 zk_3 rfl rfl rfl rfl rfl rfl rfl lt0 ?_)
 intro b3
 refine VO.cons rfl (V1.callM 1 (rn + ρ0 + 1) [b3] [.ref bp 3 0 0, .vl (rn + ρ0 + 1) 1 (List.map encInt ([(0 : Int), (30 : Int), (365 : Int), (400 : Int), (3650 : Int), (20000 : Int)] : List Int))] (p := (bp, ⟨3, [encCur ρ0 y1.2]⟩)) rfl rfl rfl cok_39 rfl rfl ⟨_, _, rfl, .same _, ⟨_, _, rfl, Lend.srMap 0 rfl (fun _ => rfl) (.head _), rfl⟩⟩ (bwCons (k := 0) rfl bwNil) (ok_spec_l1Cur_among hh2) rfl (.inr ⟨(by first | omega | (dsimp only; omega)), by rintro _ _ ⟨rfl, rfl⟩; exact ⟨by simp [PV.no, PV.noL, optS_no, noL_iff, nbeq] <;> omega, by intro b ob h; first | exact optH_no (noL_map (fun _ => by simp [PV.no, PV.noL, noL_iff, nbeq]) _) b ob h | (simp only [List.append_assoc, List.mem_append, List.mem_cons, List.mem_singleton, List.not_mem_nil, or_false, Prod.mk.injEq] at h; rcases h with ⟨rfl, rfl⟩ | ⟨rfl, rfl⟩ <;> first | exact noL_map (fun _ => by simp [PV.no, PV.noL, noL_iff, nbeq]) _ | (simp [PV.no, PV.noL, optS_no, noL_iff, nbeq] <;> omega)) | (simp at h; obtain ⟨rfl, rfl⟩ := h; exact noL_map (fun _ => by simp [PV.no, PV.noL, noL_iff, nbeq]) _) | (simp at h; obtain ⟨rfl, rfl⟩ := h; simp [PV.no, PV.noL, optS_no, noL_iff, nbeq] <;> omega)⟩⟩) lt0 ?_)
 rintro _ _ ⟨rfl, rfl⟩
 refine VO.cons rfl (V1.move rfl rfl rfl lt0 ?_)
 refine VO.cons rfl (V1.callM 0 (rn + ρ0 + 1) [] [.ref bp 3 0 0, .int .i64 (3 : Int)] (p := (bp, ⟨3, [encCur ρ0 y2.2]⟩)) rfl rfl rfl cok_59 rfl rfl ⟨_, _, rfl, .same _, ⟨_, _, rfl, .same _, rfl⟩⟩ bwNil (ok_spec_l1Cur_pick hh3) rfl (.inl rfl) lt0 ?_)
 rintro _ _ ⟨rfl, rfl⟩
 refine VO.cons rfl (V1.int rfl rfl rfl rfl rfl lt0 ?_)
 refine VO.cons rfl (V1.build rfl rfl zk_50 pl_50 rfl rfl lt0 ?_)
 refine VO.cons rfl (V1.alloc rfl rfl zk_50 lt0 ?_)
 intro b4
 refine VO.cons rfl (V1.storeRefAll (k := 0) rfl rfl tyk_50 rfl rfl rfl rfl rfl rfl ?_)
 refine VO.nil ?_
 refine V.keep 44 [0, 2, 3] [0, 1, 5] (E0 := [(0, .ref bp 3 0 0), (2, .ref b0 4 0 0), (3, .ref b4 4 0 0)]) (H0 := [(b4, ⟨4, [.agg [.int .i64 y0.1, .int .i64 y1.1, .int .i64 y2.1, .int .i64 (IntKind.i64.wrap ((1 : Int) + y3.1))]]⟩), (bp, ⟨3, [encCur ρ0 y3.2]⟩), (b0, ⟨4, [.agg [.int .i64 (0 : Int), .int .i64 (0 : Int), .int .i64 (0 : Int), .int .i64 (0 : Int)]]⟩)]) rfl (⟨_, _, rfl, rfl, _, _, rfl, rfl, _, _, rfl, rfl, rfl⟩) (⟨_, _, rfl, rfl, _, _, rfl, rfl, _, _, rfl, rfl, rfl⟩) rfl ?_
 refine V.seq ?_
 refine V.seq ?_
 replace hm0 := bindO hm0; rcases hm0 with ⟨y4, hh4, hm0⟩
 refine V.region ?_
 refine VO.cons rfl (V1.move rfl rfl rfl lt0 ?_)
 refine VO.cons rfl (V1.callM 1 (rn + ρ0 + 1) [] [.ref bp 3 0 0, .int .i64 (48 : Int)] (p := (bp, ⟨3, [encCur ρ0 y3.2]⟩)) rfl rfl rfl cok_59 rfl rfl ⟨_, _, rfl, .same _, ⟨_, _, rfl, .same _, rfl⟩⟩ bwNil (ok_spec_l1Cur_pick hh4) rfl (.inl rfl) lt0 ?_)
 rintro _ _ ⟨rfl, rfl⟩
 refine VO.nil ?_
 replace hm0 := bindO hm0; rcases hm0 with ⟨j0, hm1, hm0⟩
 refine V.cutT (D := (Cur × Rule) × (Unit)) (fun ⟨⟨c_, r_⟩, _⟩ => ⟨44, [(2, .ref b0 4 0 0), (3, .ref b4 4 0 0)], [(bp, ⟨3, [encCur ρ0 c_]⟩), (b4, ⟨4, [encRule r_]⟩), (b0, ⟨4, [.agg [.int .i64 (0 : Int), .int .i64 (0 : Int), .int .i64 (0 : Int), .int .i64 (0 : Int)]]⟩)]⟩) (fun ⟨⟨c_, r_⟩, _⟩ => ((c_, r_) = j0)) ?_ ?_
 ·
  refine V.block ?_
  refine V.seq ?_
  refine V.region ?_
  refine VO.cons rfl (V1.int rfl rfl rfl rfl rfl lt0 ?_)
  refine VO.cons rfl (V1.assign rfl rfl rfl lt0 ?_)
  refine VO.nil ?_
  refine V.cond rfl (fun hc0 => ?_) (fun hc0 => ?_)
  ·
   replace hm1 := cond_t hc0 hm1
   replace hm1 := bindO hm1; rcases hm1 with ⟨y5, hh5, hm1⟩
   refine V.region ?_
   refine VO.cons rfl (V1.move rfl rfl rfl lt0 ?_)
   refine VO.cons rfl (V1.buildSliceT (f := encInt) ([(0 : Int), (100 : Int)] : List Int) rfl rfl esz_33 zk_3 rfl rfl rfl rfl rfl rfl rfl lt0 ?_)
   intro b5
   refine VO.cons rfl (V1.callM 1 (rn + ρ0 + 1) [b5] [.ref bp 3 0 0, .vl (rn + ρ0 + 1) 1 (List.map encInt ([(0 : Int), (100 : Int)] : List Int))] (p := (bp, ⟨3, [encCur ρ0 y4.2]⟩)) rfl rfl rfl cok_39 rfl rfl ⟨_, _, rfl, .same _, ⟨_, _, rfl, Lend.srMap 0 rfl (fun _ => rfl) (.head _), rfl⟩⟩ (bwCons (k := 0) rfl bwNil) (ok_spec_l1Cur_among hh5) rfl (.inr ⟨(by first | omega | (dsimp only; omega)), by rintro _ _ ⟨rfl, rfl⟩; exact ⟨by simp [PV.no, PV.noL, optS_no, noL_iff, nbeq] <;> omega, by intro b ob h; first | exact optH_no (noL_map (fun _ => by simp [PV.no, PV.noL, noL_iff, nbeq]) _) b ob h | (simp only [List.append_assoc, List.mem_append, List.mem_cons, List.mem_singleton, List.not_mem_nil, or_false, Prod.mk.injEq] at h; rcases h with ⟨rfl, rfl⟩ | ⟨rfl, rfl⟩ <;> first | exact noL_map (fun _ => by simp [PV.no, PV.noL, noL_iff, nbeq]) _ | (simp [PV.no, PV.noL, optS_no, noL_iff, nbeq] <;> omega)) | (simp at h; obtain ⟨rfl, rfl⟩ := h; exact noL_map (fun _ => by simp [PV.no, PV.noL, noL_iff, nbeq]) _) | (simp at h; obtain ⟨rfl, rfl⟩ := h; simp [PV.no, PV.noL, optS_no, noL_iff, nbeq] <;> omega)⟩⟩) lt0 ?_)
   rintro _ _ ⟨rfl, rfl⟩
   refine VO.cons rfl (V1.fieldRef rfl rfl fo_50_0 rfl lt0 ?_)
   refine VO.cons rfl (V1.storeRef (k := 2) rfl rfl tyk_3 rfl rfl rfl rfl rfl rfl rfl rfl rfl ?_)
   refine VO.nil ?_
   exact ⟨((y5.2, (⟨y5.1, y1.1, y2.1, (IntKind.i64.wrap ((1 : Int) + y3.1))⟩ : Rule)), ()), Option.some.inj hm1, Keeps.mk (ks := [0, 2, 3]) rfl ⟨rfl, rfl, trivial⟩ (⟨_, _, rfl, rfl, _, _, rfl, rfl, _, _, rfl, rfl, rfl⟩) rfl⟩
  ·
   replace hm1 := cond_f hc0 hm1
   refine V.seq ?_
   refine V.region ?_
   refine VO.cons rfl (V1.int rfl rfl rfl rfl rfl lt0 ?_)
   refine VO.cons rfl (V1.assign rfl rfl rfl lt0 ?_)
   refine VO.nil ?_
   refine V.keep 44 [0, 2, 3, 18, 25] [0, 1, 2] (E0 := [(0, .ref bp 3 0 0), (2, .ref b0 4 0 0), (3, .ref b4 4 0 0), (18, .int .i64 y4.1), (25, .bool (y4.1 == (1 : Int)))]) (H0 := [(bp, ⟨3, [encCur ρ0 y4.2]⟩), (b4, ⟨4, [.agg [.int .i64 y0.1, .int .i64 y1.1, .int .i64 y2.1, .int .i64 (IntKind.i64.wrap ((1 : Int) + y3.1))]]⟩), (b0, ⟨4, [.agg [.int .i64 (0 : Int), .int .i64 (0 : Int), .int .i64 (0 : Int), .int .i64 (0 : Int)]]⟩)]) rfl (⟨_, _, rfl, rfl, _, _, rfl, rfl, _, _, rfl, rfl, _, _, rfl, rfl, _, _, rfl, rfl, rfl⟩) (⟨_, _, rfl, rfl, _, _, rfl, rfl, _, _, rfl, rfl, rfl⟩) rfl ?_
   refine V.cond rfl (fun hc1 => ?_) (fun hc1 => ?_)
   ·
    replace hm1 := cond_t hc1 hm1
    replace hm1 := bindO hm1; rcases hm1 with ⟨y6, hh6, hm1⟩
    refine V.region ?_
    refine VO.cons rfl (V1.move rfl rfl rfl lt0 ?_)
    refine VO.cons rfl (V1.buildSliceT (f := encInt) ([(-1 : Int), (10 : Int)] : List Int) rfl rfl esz_33 zk_3 rfl rfl rfl rfl rfl rfl rfl lt0 ?_)
    intro b6
    refine VO.cons rfl (V1.callM 1 (rn + ρ0 + 1) [b6] [.ref bp 3 0 0, .vl (rn + ρ0 + 1) 1 (List.map encInt ([(-1 : Int), (10 : Int)] : List Int))] (p := (bp, ⟨3, [encCur ρ0 y4.2]⟩)) rfl rfl rfl cok_39 rfl rfl ⟨_, _, rfl, .same _, ⟨_, _, rfl, Lend.srMap 0 rfl (fun _ => rfl) (.head _), rfl⟩⟩ (bwCons (k := 0) rfl bwNil) (ok_spec_l1Cur_among hh6) rfl (.inr ⟨(by first | omega | (dsimp only; omega)), by rintro _ _ ⟨rfl, rfl⟩; exact ⟨by simp [PV.no, PV.noL, optS_no, noL_iff, nbeq] <;> omega, by intro b ob h; first | exact optH_no (noL_map (fun _ => by simp [PV.no, PV.noL, noL_iff, nbeq]) _) b ob h | (simp only [List.append_assoc, List.mem_append, List.mem_cons, List.mem_singleton, List.not_mem_nil, or_false, Prod.mk.injEq] at h; rcases h with ⟨rfl, rfl⟩ | ⟨rfl, rfl⟩ <;> first | exact noL_map (fun _ => by simp [PV.no, PV.noL, noL_iff, nbeq]) _ | (simp [PV.no, PV.noL, optS_no, noL_iff, nbeq] <;> omega)) | (simp at h; obtain ⟨rfl, rfl⟩ := h; exact noL_map (fun _ => by simp [PV.no, PV.noL, noL_iff, nbeq]) _) | (simp at h; obtain ⟨rfl, rfl⟩ := h; simp [PV.no, PV.noL, optS_no, noL_iff, nbeq] <;> omega)⟩⟩) lt0 ?_)
    rintro _ _ ⟨rfl, rfl⟩
    refine VO.cons rfl (V1.fieldRef rfl rfl fo_50_1 rfl lt0 ?_)
    refine VO.cons rfl (V1.storeRef (k := 2) rfl rfl tyk_3 rfl rfl rfl rfl rfl rfl rfl rfl rfl ?_)
    refine VO.nil ?_
    exact ⟨((y6.2, (⟨y0.1, y6.1, y2.1, (IntKind.i64.wrap ((1 : Int) + y3.1))⟩ : Rule)), ()), Option.some.inj hm1, Keeps.mk (ks := [0, 2, 3]) rfl ⟨rfl, rfl, trivial⟩ (⟨_, _, rfl, rfl, _, _, rfl, rfl, _, _, rfl, rfl, rfl⟩) rfl⟩
   ·
    replace hm1 := cond_f hc1 hm1
    refine V.seq ?_
    refine V.region ?_
    refine VO.cons rfl (V1.int rfl rfl rfl rfl rfl lt0 ?_)
    refine VO.cons rfl (V1.assign rfl rfl rfl lt0 ?_)
    refine VO.nil ?_
    refine V.cond rfl (fun hc2 => ?_) (fun hc2 => ?_)
    ·
     replace hm1 := cond_t hc2 hm1
     replace hm1 := bindO hm1; rcases hm1 with ⟨y7, hh7, hm1⟩
     refine V.region ?_
     refine VO.cons rfl (V1.move rfl rfl rfl lt0 ?_)
     refine VO.cons rfl (V1.buildSliceT (f := encInt) ([(-1 : Int), (20001 : Int)] : List Int) rfl rfl esz_33 zk_3 rfl rfl rfl rfl rfl rfl rfl lt0 ?_)
     intro b7
     refine VO.cons rfl (V1.callM 1 (rn + ρ0 + 1) [b7] [.ref bp 3 0 0, .vl (rn + ρ0 + 1) 1 (List.map encInt ([(-1 : Int), (20001 : Int)] : List Int))] (p := (bp, ⟨3, [encCur ρ0 y4.2]⟩)) rfl rfl rfl cok_39 rfl rfl ⟨_, _, rfl, .same _, ⟨_, _, rfl, Lend.srMap 0 rfl (fun _ => rfl) (.head _), rfl⟩⟩ (bwCons (k := 0) rfl bwNil) (ok_spec_l1Cur_among hh7) rfl (.inr ⟨(by first | omega | (dsimp only; omega)), by rintro _ _ ⟨rfl, rfl⟩; exact ⟨by simp [PV.no, PV.noL, optS_no, noL_iff, nbeq] <;> omega, by intro b ob h; first | exact optH_no (noL_map (fun _ => by simp [PV.no, PV.noL, noL_iff, nbeq]) _) b ob h | (simp only [List.append_assoc, List.mem_append, List.mem_cons, List.mem_singleton, List.not_mem_nil, or_false, Prod.mk.injEq] at h; rcases h with ⟨rfl, rfl⟩ | ⟨rfl, rfl⟩ <;> first | exact noL_map (fun _ => by simp [PV.no, PV.noL, noL_iff, nbeq]) _ | (simp [PV.no, PV.noL, optS_no, noL_iff, nbeq] <;> omega)) | (simp at h; obtain ⟨rfl, rfl⟩ := h; exact noL_map (fun _ => by simp [PV.no, PV.noL, noL_iff, nbeq]) _) | (simp at h; obtain ⟨rfl, rfl⟩ := h; simp [PV.no, PV.noL, optS_no, noL_iff, nbeq] <;> omega)⟩⟩) lt0 ?_)
     rintro _ _ ⟨rfl, rfl⟩
     refine VO.cons rfl (V1.fieldRef rfl rfl fo_50_2 rfl lt0 ?_)
     refine VO.cons rfl (V1.storeRef (k := 2) rfl rfl tyk_3 rfl rfl rfl rfl rfl rfl rfl rfl rfl ?_)
     refine VO.nil ?_
     exact ⟨((y7.2, (⟨y0.1, y1.1, y7.1, (IntKind.i64.wrap ((1 : Int) + y3.1))⟩ : Rule)), ()), Option.some.inj hm1, Keeps.mk (ks := [0, 2, 3]) rfl ⟨rfl, rfl, trivial⟩ (⟨_, _, rfl, rfl, _, _, rfl, rfl, _, _, rfl, rfl, rfl⟩) rfl⟩
    ·
     replace hm1 := cond_f hc2 hm1
     refine V.seq ?_
     refine V.region ?_
     refine VO.cons rfl (V1.int rfl rfl rfl rfl rfl lt0 ?_)
     refine VO.cons rfl (V1.assign rfl rfl rfl lt0 ?_)
     refine VO.nil ?_
     refine V.keep 44 [0, 2, 3, 37] [0, 1, 2] (E0 := [(0, .ref bp 3 0 0), (2, .ref b0 4 0 0), (3, .ref b4 4 0 0), (37, .bool (y4.1 == (3 : Int)))]) (H0 := [(bp, ⟨3, [encCur ρ0 y4.2]⟩), (b4, ⟨4, [.agg [.int .i64 y0.1, .int .i64 y1.1, .int .i64 y2.1, .int .i64 (IntKind.i64.wrap ((1 : Int) + y3.1))]]⟩), (b0, ⟨4, [.agg [.int .i64 (0 : Int), .int .i64 (0 : Int), .int .i64 (0 : Int), .int .i64 (0 : Int)]]⟩)]) rfl (⟨_, _, rfl, rfl, _, _, rfl, rfl, _, _, rfl, rfl, _, _, rfl, rfl, rfl⟩) (⟨_, _, rfl, rfl, _, _, rfl, rfl, _, _, rfl, rfl, rfl⟩) rfl ?_
     refine V.cond rfl (fun hc3 => ?_) (fun hc3 => ?_)
     ·
      replace hm1 := cond_t hc3 hm1
      replace hm1 := bindO hm1; rcases hm1 with ⟨y8, hh8, hm1⟩
      refine V.region ?_
      refine VO.cons rfl (V1.move rfl rfl rfl lt0 ?_)
      refine VO.cons rfl (V1.buildSliceT (f := encInt) ([(0 : Int), (4 : Int)] : List Int) rfl rfl esz_33 zk_3 rfl rfl rfl rfl rfl rfl rfl lt0 ?_)
      intro b8
      refine VO.cons rfl (V1.callM 1 (rn + ρ0 + 1) [b8] [.ref bp 3 0 0, .vl (rn + ρ0 + 1) 1 (List.map encInt ([(0 : Int), (4 : Int)] : List Int))] (p := (bp, ⟨3, [encCur ρ0 y4.2]⟩)) rfl rfl rfl cok_39 rfl rfl ⟨_, _, rfl, .same _, ⟨_, _, rfl, Lend.srMap 0 rfl (fun _ => rfl) (.head _), rfl⟩⟩ (bwCons (k := 0) rfl bwNil) (ok_spec_l1Cur_among hh8) rfl (.inr ⟨(by first | omega | (dsimp only; omega)), by rintro _ _ ⟨rfl, rfl⟩; exact ⟨by simp [PV.no, PV.noL, optS_no, noL_iff, nbeq] <;> omega, by intro b ob h; first | exact optH_no (noL_map (fun _ => by simp [PV.no, PV.noL, noL_iff, nbeq]) _) b ob h | (simp only [List.append_assoc, List.mem_append, List.mem_cons, List.mem_singleton, List.not_mem_nil, or_false, Prod.mk.injEq] at h; rcases h with ⟨rfl, rfl⟩ | ⟨rfl, rfl⟩ <;> first | exact noL_map (fun _ => by simp [PV.no, PV.noL, noL_iff, nbeq]) _ | (simp [PV.no, PV.noL, optS_no, noL_iff, nbeq] <;> omega)) | (simp at h; obtain ⟨rfl, rfl⟩ := h; exact noL_map (fun _ => by simp [PV.no, PV.noL, noL_iff, nbeq]) _) | (simp at h; obtain ⟨rfl, rfl⟩ := h; simp [PV.no, PV.noL, optS_no, noL_iff, nbeq] <;> omega)⟩⟩) lt0 ?_)
      rintro _ _ ⟨rfl, rfl⟩
      refine VO.cons rfl (V1.fieldRef rfl rfl fo_50_3 rfl lt0 ?_)
      refine VO.cons rfl (V1.storeRef (k := 2) rfl rfl tyk_3 rfl rfl rfl rfl rfl rfl rfl rfl rfl ?_)
      refine VO.nil ?_
      exact ⟨((y8.2, (⟨y0.1, y1.1, y2.1, y8.1⟩ : Rule)), ()), Option.some.inj hm1, Keeps.mk (ks := [0, 2, 3]) rfl ⟨rfl, rfl, trivial⟩ (⟨_, _, rfl, rfl, _, _, rfl, rfl, _, _, rfl, rfl, rfl⟩) rfl⟩
     ·
      replace hm1 := cond_f hc3 hm1
      refine V.skip ?_
      exact ⟨((y4.2, (⟨y0.1, y1.1, y2.1, (IntKind.i64.wrap ((1 : Int) + y3.1))⟩ : Rule)), ()), Option.some.inj hm1, Keeps.mk (ks := [0, 1, 2]) rfl ⟨rfl, rfl, trivial⟩ (⟨_, _, rfl, rfl, _, _, rfl, rfl, _, _, rfl, rfl, rfl⟩) rfl⟩
 ·
  rintro ⟨⟨c_, r_⟩, _⟩ rfl
  try dsimp only at hm0
  refine V.seq ?_
  refine V.region ?_
  refine VO.cons rfl (V1.loadRefAll (k := 1) rfl rfl tyk_50 rfl rfl rfl rfl rfl lt0 ?_)
  refine VO.cons rfl (V1.storeRefAll (k := 2) rfl rfl tyk_50 rfl rfl rfl rfl rfl rfl ?_)
  refine VO.nil ?_
  refine V.ret ?_
  obtain rfl := Option.some.inj hm0
  exact ⟨_, _, ⟨_, _, rfl, ⟨_, _, 2, _, rfl, rfl, rfl, rfl, tyk_50, rfl⟩, rfl⟩, (sub1 (k := 0) rfl), rfl, rfl⟩

theorem ok_spec_l1In {rn : Nat} {x : Int} {a : Int} {b_ : Int} {r : Bool} (h : M.spec_l1In x a b_ = some r) : Does Tryz.prog 40 [.int .i64 x, .int .i64 a, .int .i64 b_] [] rn (fun x H => x = .bool r ∧ H = []) := by
 have hm0 := h; clear h; unfold M.spec_l1In at hm0
 try dsimp only at hm0
 refine Does.intro (N := 15) Tryz.func40 rfl rfl rfl rfl ?_
 intro w0 S0 L0
 refine V.seq ?_
 refine V.region ?_
 refine VO.cons rfl (V1.assign rfl rfl rfl lt0 ?_)
 refine VO.nil ?_
 refine V.seq ?_
 refine V.region ?_
 refine VO.cons rfl (V1.move rfl rfl rfl lt0 ?_)
 refine VO.cons rfl (V1.move rfl rfl rfl lt0 ?_)
 refine VO.cons rfl (V1.int rfl rfl rfl rfl rfl lt0 ?_)
 refine VO.cons rfl (V1.move rfl rfl rfl lt0 ?_)
 apply VO.and (n := 3) rfl rfl rfl rfl rfl rfl lt0 (.none rfl)
 ·
  intro hg0
  refine VO.step (.some rfl rfl rfl) (V1.move rfl rfl rfl lt0 ?_)
  refine VO.step (.some rfl rfl rfl) (V1.move rfl rfl rfl lt0 ?_)
  refine VO.step (.some rfl rfl rfl) (V1.int rfl rfl rfl rfl rfl lt0 ?_)
  exact VO.nil ⟨rfl, rfl, rfl, rfl, .inr ⟨rfl, .inr ⟨rfl, .inr ⟨rfl, .inr ⟨rfl, .inl rfl⟩⟩⟩⟩⟩
 refine VO.cons rfl (V1.assign rfl rfl rfl lt0 ?_)
 refine VO.nil ?_
 refine V.ret ?_
 obtain rfl := Option.some.inj hm0
 exact ⟨_, [], ⟨_, _, rfl, rfl, rfl⟩, List.nil_sublist _, rfl, rfl⟩

theorem ok_spec_l4One {rn : Nat} {r_ : Rule} {r : Bool} (h : M.spec_l4One r_ = some r) : Does Tryz.prog 52 [encRule r_] [] rn (fun x H => x = .bool r ∧ H = []) := by
 have hm0 := h; clear h; unfold M.spec_l4One at hm0
 try dsimp only at hm0
 refine Does.intro (N := 21) Tryz.func52 rfl rfl rfl rfl ?_
 intro w0 S0 L0
 refine V.seq ?_
 refine V.region ?_
 refine VO.cons rfl (V1.boxN (n := 4) rfl rfl rfl rfl rfl lt0 ?_)
 intro b0
 refine VO.cons rfl (V1.assign rfl rfl rfl lt0 ?_)
 refine VO.nil ?_
 refine V.seq ?_
 replace hm0 := bindO hm0; rcases hm0 with ⟨y0, hh0, hm0⟩
 replace hm0 := bindO hm0; rcases hm0 with ⟨y1, hh1, hm0⟩
 replace hm0 := bindO hm0; rcases hm0 with ⟨y2, hh2, hm0⟩
 replace hm0 := bindO hm0; rcases hm0 with ⟨y3, hh3, hm0⟩
 refine V.region ?_
 refine VO.cons rfl (V1.fieldRef rfl rfl fo_50_0 rfl lt0 ?_)
 refine VO.cons rfl (V1.loadRef (k := 0) rfl rfl tyk_3 rfl rfl rfl rfl rfl lt0 ?_)
 refine VO.cons rfl (V1.call rfl rfl rfl cok_40 rfl (ok_spec_l1In hh0) rfl lt0 ?_)
 rintro _ _ ⟨rfl, rfl⟩
 refine VO.cons rfl (V1.move rfl rfl rfl lt0 ?_)
 apply VO.and (n := 3) rfl rfl rfl rfl rfl rfl lt0 (.none rfl)
 ·
  intro hg0
  refine VO.step (.some rfl rfl rfl) (V1.fieldRef rfl rfl fo_50_1 rfl lt0 ?_)
  refine VO.step (.some rfl rfl rfl) (V1.loadRef (k := 0) rfl rfl tyk_3 rfl rfl rfl rfl rfl lt0 ?_)
  refine VO.step (.some rfl rfl rfl) (V1.call rfl rfl rfl cok_40 rfl (ok_spec_l1In (cond_t hg0 hh1)) rfl lt0 ?_)
  rintro _ _ ⟨rfl, rfl⟩
  exact VO.nil ⟨rfl, rfl, rfl, rfl, .inr ⟨rfl, .inr ⟨rfl, .inr ⟨rfl, .inr ⟨rfl, .inl rfl⟩⟩⟩⟩⟩
 refine VO.cons rfl (V1.move rfl rfl rfl lt0 ?_)
 apply VO.and (n := 3) rfl rfl rfl rfl rfl rfl lt0 (.none rfl)
 ·
  intro hg1
  refine VO.step (.some rfl rfl rfl) (V1.fieldRef rfl rfl fo_50_2 rfl lt0 ?_)
  refine VO.step (.some rfl rfl rfl) (V1.loadRef (k := 0) rfl rfl tyk_3 rfl rfl rfl rfl rfl lt0 ?_)
  refine VO.step (.some rfl rfl rfl) (V1.call rfl rfl rfl cok_40 rfl (ok_spec_l1In (cond_t hg1 hh2)) rfl lt0 ?_)
  rintro _ _ ⟨rfl, rfl⟩
  exact VO.nil ⟨rfl, rfl, rfl, rfl, .inr ⟨rfl, .inr ⟨rfl, .inr ⟨rfl, .inr ⟨rfl, .inl rfl⟩⟩⟩⟩⟩
 refine VO.cons rfl (V1.move rfl rfl rfl lt0 ?_)
 apply VO.and (n := 3) rfl rfl rfl rfl rfl rfl lt0 (.none rfl)
 ·
  intro hg2
  refine VO.step (.some rfl rfl rfl) (V1.fieldRef rfl rfl fo_50_3 rfl lt0 ?_)
  refine VO.step (.some rfl rfl rfl) (V1.loadRef (k := 0) rfl rfl tyk_3 rfl rfl rfl rfl rfl lt0 ?_)
  refine VO.step (.some rfl rfl rfl) (V1.call rfl rfl rfl cok_40 rfl (ok_spec_l1In (cond_t hg2 hh3)) rfl lt0 ?_)
  rintro _ _ ⟨rfl, rfl⟩
  exact VO.nil ⟨rfl, rfl, rfl, rfl, .inr ⟨rfl, .inr ⟨rfl, .inr ⟨rfl, .inr ⟨rfl, .inl rfl⟩⟩⟩⟩⟩
 refine VO.cons rfl (V1.assign rfl rfl rfl lt0 ?_)
 refine VO.nil ?_
 refine V.ret ?_
 obtain rfl := Option.some.inj hm0
 exact ⟨_, [], ⟨_, _, rfl, rfl, rfl⟩, List.nil_sublist _, rfl, rfl⟩

theorem ok_spec_l4Before {rn : Nat} {a : Rule} {b_ : Rule} {r : Bool} (h : M.spec_l4Before a b_ = some r) : Does Tryz.prog 53 [encRule a, encRule b_] [] rn (fun x H => x = .bool r ∧ H = []) := by
 have hm0 := h; clear h; unfold M.spec_l4Before at hm0
 try dsimp only at hm0
 refine Does.intro (N := 24) Tryz.func53 rfl rfl rfl rfl ?_
 intro w0 S0 L0
 refine V.seq ?_
 refine V.region ?_
 refine VO.cons rfl (V1.boxN (n := 4) rfl rfl rfl rfl rfl lt0 ?_)
 intro b0
 refine VO.cons rfl (V1.boxN (n := 4) rfl rfl rfl rfl rfl lt0 ?_)
 intro b1
 refine VO.cons rfl (V1.assign rfl rfl rfl lt0 ?_)
 refine VO.nil ?_
 refine V.seq ?_
 refine V.region ?_
 refine VO.cons rfl (V1.fieldRef rfl rfl fo_50_0 rfl lt0 ?_)
 refine VO.cons rfl (V1.loadRef (k := 1) rfl rfl tyk_3 rfl rfl rfl rfl rfl lt0 ?_)
 refine VO.cons rfl (V1.fieldRef rfl rfl fo_50_0 rfl lt0 ?_)
 refine VO.cons rfl (V1.loadRef (k := 0) rfl rfl tyk_3 rfl rfl rfl rfl rfl lt0 ?_)
 refine VO.cons rfl (V1.int rfl rfl rfl rfl rfl lt0 ?_)
 refine VO.cons rfl (V1.move rfl rfl rfl lt0 ?_)
 apply VO.or (n := 12) rfl rfl rfl rfl rfl rfl lt0 (.none rfl)
 ·
  intro hg0
  refine VO.step (.some rfl rfl rfl) (V1.fieldRef rfl rfl fo_50_0 rfl lt0 ?_)
  refine VO.step (.some rfl rfl rfl) (V1.loadRef (k := 1) rfl rfl tyk_3 rfl rfl rfl rfl rfl lt0 ?_)
  refine VO.step (.some rfl rfl rfl) (V1.fieldRef rfl rfl fo_50_0 rfl lt0 ?_)
  refine VO.step (.some rfl rfl rfl) (V1.loadRef (k := 0) rfl rfl tyk_3 rfl rfl rfl rfl rfl lt0 ?_)
  refine VO.step (.some rfl rfl rfl) (V1.int rfl rfl rfl rfl rfl lt0 ?_)
  refine VO.step (.some rfl rfl rfl) (V1.move rfl rfl rfl lt0 ?_)
  apply VO.and (n := 5) rfl rfl rfl rfl rfl rfl lt0 (.some rfl rfl rfl)
  ·
   intro hg1
   refine VO.step (.some rfl rfl rfl) (V1.fieldRef rfl rfl fo_50_1 rfl lt0 ?_)
   refine VO.step (.some rfl rfl rfl) (V1.loadRef (k := 1) rfl rfl tyk_3 rfl rfl rfl rfl rfl lt0 ?_)
   refine VO.step (.some rfl rfl rfl) (V1.fieldRef rfl rfl fo_50_1 rfl lt0 ?_)
   refine VO.step (.some rfl rfl rfl) (V1.loadRef (k := 0) rfl rfl tyk_3 rfl rfl rfl rfl rfl lt0 ?_)
   refine VO.step (.some rfl rfl rfl) (V1.int rfl rfl rfl rfl rfl lt0 ?_)
   exact VO.nil ⟨rfl, rfl, rfl, rfl, .inr ⟨rfl, .inr ⟨rfl, .inr ⟨rfl, .inr ⟨rfl, .inr ⟨rfl, .inr ⟨rfl, .inl rfl⟩⟩⟩⟩⟩⟩⟩
  exact VO.nil ⟨rfl, rfl, rfl, rfl, .inr ⟨rfl, .inr ⟨rfl, .inr ⟨rfl, .inr ⟨rfl, .inr ⟨rfl, .inr ⟨rfl, .inr ⟨rfl, .inr ⟨rfl, .inl rfl⟩⟩⟩⟩⟩⟩⟩⟩⟩
 refine VO.cons rfl (V1.assign rfl rfl rfl lt0 ?_)
 refine VO.nil ?_
 refine V.ret ?_
 obtain rfl := Option.some.inj hm0
 exact ⟨_, [], ⟨_, _, rfl, rfl, rfl⟩, List.nil_sublist _, rfl, rfl⟩

theorem ok_spec_l4Good {ρ0 rn : Nat} {list : List Rule} {r : Bool} (h : M.spec_l4Good list = some r) : Does Tryz.prog 26 [.vl ρ0 4 (List.map encRule list)] [] rn (fun x H => x = .bool r ∧ H = []) := by
 have hm0 := h; clear h; unfold M.spec_l4Good at hm0
 try dsimp only at hm0
 refine Does.intro (N := 36) Tryz.func26 rfl rfl rfl rfl ?_
 intro w0 S0 L0
 refine V.seq ?_
 refine V.region ?_
 refine VO.cons rfl (V1.assign rfl rfl rfl lt0 ?_)
 refine VO.nil ?_
 refine V.seq ?_
 refine V.seq ?_
 refine V.region ?_
 refine VO.cons rfl (V1.assign rfl rfl rfl lt0 ?_)
 refine VO.nil ?_
 replace hm0 := bindO hm0; rcases hm0 with ⟨e0, he1, hm0⟩
 refine V.cutT (D := (Unit) × (Unit)) (fun ⟨_, _⟩ => ⟨36, [(0, .vl ρ0 4 (List.map encRule list))], []⟩) (fun ⟨_, _⟩ => (.inl () = e0)) ?_ ?_
 ·
  refine V.block ?_
  refine V.keep 36 [3, 0] [] (E0 := [(3, .int .i64 (0 : Int)), (0, .vl ρ0 4 (List.map encRule list))]) (H0 := []) rfl (⟨_, _, rfl, rfl, _, _, rfl, rfl, rfl⟩) (rfl) rfl ?_
  refine V.loopE (D := Nat × (Int) × (Unit)) (fun ⟨n0, i, _⟩ => [(3, .int .i64 i)]) (fun ⟨n0, i, _⟩ => []) (fun ⟨n0, i, _⟩ => loopO (M.spec_l4Good_l0 list) n0 i = some e0) (fun ⟨n0, _, _⟩ => n0) (rounds, (0 : Int), ()) rfl he1 ?_
  rintro ⟨n0, i, _⟩ hP0
  obtain ⟨m0, y0, rfl, hm1, hl1, hr1⟩ := loop_head hP0
  unfold M.spec_l4Good_l0 at hm1; dsimp only at hm1
  show V _ _ _ ⟨36, [(3, .int .i64 i), (0, .vl ρ0 4 (List.map encRule list))], []⟩
  refine V.seq ?_
  refine V.seq ?_
  refine V.region ?_
  refine VO.cons rfl (V1.move rfl rfl rfl lt0 ?_)
  refine VO.cons rfl (V1.move rfl rfl rfl lt0 ?_)
  refine VO.cons rfl (V1.lenMap rfl rfl rfl rfl rfl rfl isl_24 lt0 ?_)
  refine VO.cons rfl (V1.int rfl rfl rfl rfl rfl lt0 ?_)
  refine VO.nil ?_
  refine V.cond rfl (fun hc0 => ?_) (fun hc0 => ?_)
  ·
   replace hm1 := cond_t hc0 hm1
   refine V.skip ?_
   refine V.keep 36 [0, 3] [] (E0 := [(0, .vl ρ0 4 (List.map encRule list)), (3, .int .i64 i)]) (H0 := []) rfl (⟨_, _, rfl, rfl, _, _, rfl, rfl, rfl⟩) (rfl) rfl ?_
   refine V.seq ?_
   refine V.block ?_
   refine V.seq ?_
   replace hm1 := asrt_some hm1; rcases hm1 with ⟨hh0, hm1⟩
   replace hm1 := bindO hm1; rcases hm1 with ⟨y1, hh1, hm1⟩
   replace hm1 := asrt_some hm1; rcases hm1 with ⟨hh2, hm1⟩
   replace hm1 := asrt_some hm1; rcases hm1 with ⟨hh3, hm1⟩
   replace hm1 := bindO hm1; rcases hm1 with ⟨y2, hh4, hm1⟩
   refine V.regionM 36 23 [⟨[(0, none)], [], none⟩, ⟨[(3, none)], [], none⟩, ⟨[(10, some 1), (11, some 0)], [], none⟩, ⟨[(12, some 0)], [], none⟩, ⟨[(13, some 0)], [], none⟩, ⟨[(14, some 0)], [], none⟩, ⟨[(15, some 0)], [], none⟩, ⟨[(3, none)], [(0, false)], none⟩, ⟨[(17, some 0)], [(1, false)], none⟩, ⟨[(18, some 0)], [(2, false)], none⟩, ⟨[(0, none)], [(0, true), (3, false)], none⟩, ⟨[(3, none)], [(1, true), (4, false)], none⟩, ⟨[(21, some 0)], [(2, true), (5, false)], none⟩, ⟨[(20, some 2), (22, some 0)], [(3, true), (6, false)], none⟩, ⟨[(23, some 0)], [(4, true), (7, false)], none⟩, ⟨[(0, none)], [(5, true), (8, false)], none⟩, ⟨[(3, none)], [(6, true), (9, false)], none⟩, ⟨[(25, some 1), (26, some 0)], [(7, true), (10, false)], none⟩, ⟨[(27, some 0)], [(8, true), (11, false)], none⟩, ⟨[(24, some 4), (28, some 0)], [(9, true), (12, false)], none⟩, ⟨[(29, some 0)], [(10, true), (13, false)], none⟩, ⟨[], [(14, false)], some (true, 19, 30, 11, 0)⟩, ⟨[], [], some (false, 16, 31, 15, 0)⟩] [(0, none), (3, none), (32, some 0)] (⟨_, rfl, ⟨_, rfl, ⟨_, rfl, ⟨_, rfl, ⟨_, rfl, ⟨_, rfl, ⟨_, rfl, ⟨_, rfl, ⟨_, rfl, ⟨_, rfl, ⟨_, rfl, ⟨_, rfl, ⟨_, rfl, ⟨_, rfl, ⟨_, rfl, ⟨_, rfl, ⟨_, rfl, ⟨_, rfl, ⟨_, rfl, ⟨_, rfl, ⟨_, rfl, ⟨_, rfl, ⟨_, rfl, ⟨rfl, rfl⟩⟩⟩⟩⟩⟩⟩⟩⟩⟩⟩⟩⟩⟩⟩⟩⟩⟩⟩⟩⟩⟩⟩⟩) mixed_orders rfl (by decide +kernel) (fun hck4 => ?_)
   refine VP.step (p := ?pv194) rfl rfl rfl (⟨_, _, rfl, rfl, rfl⟩) ?hv194 ?rest194 hck4
   case hv194 =>
    intro E1
    refine (V1.move rfl rfl rfl lt0 ?_)
    exact rfl
   refine VP.step (p := ?pv195) rfl rfl rfl (⟨_, _, rfl, rfl, rfl⟩) ?hv195 ?rest195 hck4
   case hv195 =>
    intro E1
    refine (V1.move rfl rfl rfl lt0 ?_)
    exact rfl
   refine VP.step (p := ?pv196) rfl rfl rfl (⟨_, _, rfl, rfl, _, _, rfl, rfl, rfl⟩) ?hv196 ?rest196 hck4
   case hv196 =>
    intro E1
    refine (V1.indexI rfl rfl esz_24 rfl rfl hh0 lt0 ?_)
    exact rfl
   refine VP.step (p := ?pv197) rfl rfl rfl (⟨_, _, rfl, rfl, rfl⟩) ?hv197 ?rest197 hck4
   case hv197 =>
    intro E1
    refine (V1.loadPinAll rfl rfl tyk_50 rfl rfl lt0 ?_)
    exact rfl
   refine VP.step (p := ?pv198) rfl rfl rfl (⟨_, _, rfl, rfl, rfl⟩) ?hv198 ?rest198 hck4
   case hv198 =>
    intro E1
    refine (V1.call rfl rfl rfl cok_52 rfl (ok_spec_l4One hh1) rfl lt0 ?_)
    rintro _ _ ⟨rfl, rfl⟩
    exact rfl
   refine VP.step (p := ?pv200) rfl rfl rfl (⟨_, _, rfl, rfl, rfl⟩) ?hv200 ?rest200 hck4
   case hv200 =>
    intro E1
    refine (V1.not rfl rfl rfl lt0 ?_)
    exact rfl
   refine VP.step (p := ?pv201) rfl rfl rfl (⟨_, _, rfl, rfl, rfl⟩) ?hv201 ?rest201 hck4
   case hv201 =>
    intro E1
    refine (V1.move rfl rfl rfl lt0 ?_)
    exact rfl
   refine VP.step (p := ?pv202) rfl rfl rfl (⟨_, _, rfl, rfl, rfl⟩) ?hv202 ?rest202 hck4
   case hv202 =>
    refine ⟨_, rfl, fun hg0 => ?_⟩
    intro E1
    refine (V1.move rfl rfl rfl lt0 ?_)
    exact rfl
   refine VP.step (p := ?pv203) rfl rfl rfl (⟨_, _, rfl, rfl, rfl⟩) ?hv203 ?rest203 hck4
   case hv203 =>
    refine ⟨_, rfl, fun hg0 => ?_⟩
    intro E1
    refine (V1.int rfl rfl rfl rfl rfl lt0 ?_)
    exact rfl
   refine VP.step (p := ?pv204) rfl rfl rfl (⟨_, _, rfl, rfl, rfl⟩) ?hv204 ?rest204 hck4
   case hv204 =>
    refine ⟨_, rfl, fun hg0 => ?_⟩
    intro E1
    refine (V1.move rfl rfl rfl lt0 ?_)
    exact rfl
   refine VP.step (p := ?pv205) rfl rfl rfl (⟨_, _, rfl, rfl, rfl⟩) ?hv205 ?rest205 hck4
   case hv205 =>
    refine ⟨_, rfl, fun hg1 => ?_⟩
    refine ⟨_, rfl, fun hg0 => ?_⟩
    intro E1
    refine (V1.move rfl rfl rfl lt0 ?_)
    exact rfl
   refine VP.step (p := ?pv206) rfl rfl rfl (⟨_, _, rfl, rfl, rfl⟩) ?hv206 ?rest206 hck4
   case hv206 =>
    refine ⟨_, rfl, fun hg1 => ?_⟩
    refine ⟨_, rfl, fun hg0 => ?_⟩
    intro E1
    refine (V1.move rfl rfl rfl lt0 ?_)
    exact rfl
   refine VP.step (p := ?pv207) rfl rfl rfl (⟨_, _, rfl, rfl, rfl⟩) ?hv207 ?rest207 hck4
   case hv207 =>
    refine ⟨_, rfl, fun hg1 => ?_⟩
    refine ⟨_, rfl, fun hg0 => ?_⟩
    intro E1
    refine (V1.int rfl rfl rfl rfl rfl lt0 ?_)
    exact rfl
   refine VP.step (p := ?pv208) rfl rfl rfl (⟨_, _, rfl, rfl, _, _, rfl, rfl, rfl⟩) ?hv208 ?rest208 hck4
   case hv208 =>
    refine ⟨_, rfl, fun hg1 => ?_⟩
    refine ⟨_, rfl, fun hg0 => ?_⟩
    intro E1
    refine (V1.indexI rfl rfl esz_24 rfl rfl (hh2 hg0 hg1) lt0 ?_)
    exact rfl
   refine VP.step (p := ?pv209) rfl rfl rfl (⟨_, _, rfl, rfl, rfl⟩) ?hv209 ?rest209 hck4
   case hv209 =>
    refine ⟨_, rfl, fun hg1 => ?_⟩
    refine ⟨_, rfl, fun hg0 => ?_⟩
    intro E1
    refine (V1.loadPinAll rfl rfl tyk_50 rfl rfl lt0 ?_)
    exact rfl
   refine VP.step (p := ?pv210) rfl rfl rfl (⟨_, _, rfl, rfl, rfl⟩) ?hv210 ?rest210 hck4
   case hv210 =>
    refine ⟨_, rfl, fun hg1 => ?_⟩
    refine ⟨_, rfl, fun hg0 => ?_⟩
    intro E1
    refine (V1.move rfl rfl rfl lt0 ?_)
    exact rfl
   refine VP.step (p := ?pv211) rfl rfl rfl (⟨_, _, rfl, rfl, rfl⟩) ?hv211 ?rest211 hck4
   case hv211 =>
    refine ⟨_, rfl, fun hg1 => ?_⟩
    refine ⟨_, rfl, fun hg0 => ?_⟩
    intro E1
    refine (V1.move rfl rfl rfl lt0 ?_)
    exact rfl
   refine VP.step (p := ?pv212) rfl rfl rfl (⟨_, _, rfl, rfl, _, _, rfl, rfl, rfl⟩) ?hv212 ?rest212 hck4
   case hv212 =>
    refine ⟨_, rfl, fun hg1 => ?_⟩
    refine ⟨_, rfl, fun hg0 => ?_⟩
    intro E1
    refine (V1.indexI rfl rfl esz_24 rfl rfl (hh3 hg0 hg1) lt0 ?_)
    exact rfl
   refine VP.step (p := ?pv213) rfl rfl rfl (⟨_, _, rfl, rfl, rfl⟩) ?hv213 ?rest213 hck4
   case hv213 =>
    refine ⟨_, rfl, fun hg1 => ?_⟩
    refine ⟨_, rfl, fun hg0 => ?_⟩
    intro E1
    refine (V1.loadPinAll rfl rfl tyk_50 rfl rfl lt0 ?_)
    exact rfl
   refine VP.step (p := ?pv214) rfl rfl rfl (⟨_, _, rfl, rfl, _, _, rfl, rfl, rfl⟩) ?hv214 ?rest214 hck4
   case hv214 =>
    refine ⟨_, rfl, fun hg1 => ?_⟩
    refine ⟨_, rfl, fun hg0 => ?_⟩
    intro E1
    refine (V1.call rfl rfl rfl cok_53 rfl (ok_spec_l4Before (cond_t hg1 (cond_f hg0 hh4))) rfl lt0 ?_)
    rintro _ _ ⟨rfl, rfl⟩
    exact rfl
   refine VP.step (p := ?pv216) rfl rfl rfl (⟨_, _, rfl, rfl, rfl⟩) ?hv216 ?rest216 hck4
   case hv216 =>
    refine ⟨_, rfl, fun hg1 => ?_⟩
    refine ⟨_, rfl, fun hg0 => ?_⟩
    intro E1
    refine (V1.not rfl rfl rfl lt0 ?_)
    exact rfl
   refine VP.pickAnd rfl rfl rfl rfl rfl rfl (⟨_, rfl, fun _ => trivial⟩) ?_ hck4
   refine VP.pickOr rfl rfl rfl rfl rfl rfl (trivial) ?_ hck4
   refine VP.fin rfl (⟨_, _, rfl, rfl, _, _, rfl, rfl, _, _, rfl, rfl, rfl⟩) ?_
   refine VO.nil ?_
   refine V.cond rfl (fun hc1 => ?_) (fun hc1 => ?_)
   ·
    replace hm1 := cond_t hc1 hm1
    refine V.seq ?_
    refine V.region ?_
    refine VO.cons rfl (V1.assign rfl rfl rfl lt0 ?_)
    refine VO.nil ?_
    refine V.ret ?_
    obtain rfl := hr1 _ (Option.some.inj hm1).symm
    change some _ = some _ at hm0
    obtain rfl := Option.some.inj hm0
    exact ⟨_, [], ⟨_, _, rfl, rfl, rfl⟩, List.nil_sublist _, rfl, rfl⟩
   ·
    replace hm1 := cond_f hc1 hm1
    refine V.skip ?_
    refine V.region ?_
    refine VO.cons rfl (V1.move rfl rfl rfl lt0 ?_)
    refine VO.cons rfl (V1.int rfl rfl rfl rfl rfl lt0 ?_)
    refine VO.cons rfl (V1.assign rfl rfl rfl lt0 ?_)
    refine VO.nil ?_
    exact ⟨(m0, (IntKind.i64.wrap (i + (1 : Int))), ()), hl1 _ (Option.some.inj hm1).symm, Nat.lt_succ_self _, Keeps.mk (ks := []) rfl ⟨rfl, rfl, trivial⟩ (rfl) rfl⟩
  ·
   replace hm1 := cond_f hc0 hm1
   refine V.exit ?_
   obtain rfl := hr1 _ (Option.some.inj hm1).symm
   exact ⟨((), ()), rfl, Keeps.mk (ks := []) rfl ⟨rfl, trivial⟩ (rfl) rfl⟩
 ·
  rintro ⟨_, _⟩ rfl
  try dsimp only at hm0
  refine V.seq ?_
  refine V.region ?_
  refine VO.cons rfl (V1.move rfl rfl rfl lt0 ?_)
  refine VO.cons rfl (V1.lenMap rfl rfl rfl rfl rfl rfl isl_24 lt0 ?_)
  refine VO.cons rfl (V1.int rfl rfl rfl rfl rfl lt0 ?_)
  refine VO.cons rfl (V1.assign rfl rfl rfl lt0 ?_)
  refine VO.nil ?_
  refine V.ret ?_
  obtain rfl := Option.some.inj hm0
  exact ⟨_, [], ⟨_, _, rfl, rfl, rfl⟩, List.nil_sublist _, rfl, rfl⟩

theorem ok_spec_l4Without {ρ0 rn : Nat} {list : List Rule} {series : Int} {event : Int} {r : List Rule} (h : M.spec_l4Without list series event = some r) : Does Tryz.prog 82 [.vl ρ0 4 (List.map encRule list), .int .i64 series, .int .i64 event] [] rn (fun x H => ∃ (ob0_ : Nat), x = PV.sref ob0_ 4 0 (List.length r) ∧ H = [(ob0_, ⟨4, List.map encRule r⟩)]) := by
 have hm0 := h; clear h; unfold M.spec_l4Without at hm0
 try dsimp only at hm0
 refine Does.intro (N := 40) Tryz.func82 rfl rfl rfl rfl ?_
 intro w0 S0 L0
 refine V.seq ?_
 refine V.region ?_
 refine VO.cons rfl (V1.assign rfl rfl rfl lt0 ?_)
 refine VO.nil ?_
 refine V.seq ?_
 refine V.region ?_
 refine VO.cons rfl (V1.buildSliceT (f := encRule) ([] : List Rule) rfl rfl esz_24 zk_50 rfl rfl rfl rfl rfl rfl rfl lt0 ?_)
 intro b0
 refine VO.cons rfl (V1.assign rfl rfl rfl lt0 ?_)
 refine VO.nil ?_
 refine V.seq ?_
 refine V.seq ?_
 refine V.region ?_
 refine VO.cons rfl (V1.assign rfl rfl rfl lt0 ?_)
 refine VO.nil ?_
 replace hm0 := bindO hm0; rcases hm0 with ⟨e0, he1, hm0⟩
 refine V.cutT (D := (List Rule) × (Nat)) (fun ⟨out_, b1⟩ => ⟨40, [(7, .sref b1 4 0 (List.length out_))], [(b1, ⟨4, List.map encRule out_⟩)]⟩) (fun ⟨out_, b1⟩ => (out_ = e0)) ?_ ?_
 ·
  refine V.block ?_
  refine V.keep 40 [7, 8, 0, 1, 2] [0] (E0 := [(7, .sref b0 4 0 (List.length ([] : List Rule))), (8, .int .i64 (0 : Int)), (0, .vl ρ0 4 (List.map encRule list)), (1, .int .i64 series), (2, .int .i64 event)]) (H0 := [(b0, ⟨4, List.map encRule ([] : List Rule)⟩)]) rfl (⟨_, _, rfl, rfl, _, _, rfl, rfl, _, _, rfl, rfl, _, _, rfl, rfl, _, _, rfl, rfl, rfl⟩) (⟨_, _, rfl, rfl, rfl⟩) rfl ?_
  refine V.loopE (D := Nat × (List Rule × Int) × (Nat)) (fun ⟨n0, ⟨out_0, i⟩, b2⟩ => [(7, .sref b2 4 0 (List.length out_0)), (8, .int .i64 i)]) (fun ⟨n0, ⟨out_0, i⟩, b2⟩ => [(b2, ⟨4, List.map encRule out_0⟩)]) (fun ⟨n0, ⟨out_0, i⟩, b2⟩ => loopO (M.spec_l4Without_l0 list series event) n0 (out_0, i) = some e0) (fun ⟨n0, _, _⟩ => n0) (rounds, (([] : List Rule), (0 : Int)), b0) rfl he1 ?_
  rintro ⟨n0, ⟨out_0, i⟩, b2⟩ hP0
  obtain ⟨m0, y0, rfl, hm1, hl1, hr1⟩ := loop_head hP0
  unfold M.spec_l4Without_l0 at hm1; dsimp only at hm1
  show V _ _ _ ⟨40, [(7, .sref b2 4 0 (List.length out_0)), (8, .int .i64 i), (0, .vl ρ0 4 (List.map encRule list)), (1, .int .i64 series), (2, .int .i64 event)], [(b2, ⟨4, List.map encRule out_0⟩)]⟩
  refine V.seq ?_
  refine V.seq ?_
  refine V.region ?_
  refine VO.cons rfl (V1.move rfl rfl rfl lt0 ?_)
  refine VO.cons rfl (V1.move rfl rfl rfl lt0 ?_)
  refine VO.cons rfl (V1.lenMap rfl rfl rfl rfl rfl rfl isl_24 lt0 ?_)
  refine VO.cons rfl (V1.int rfl rfl rfl rfl rfl lt0 ?_)
  refine VO.nil ?_
  refine V.cond rfl (fun hc0 => ?_) (fun hc0 => ?_)
  ·
   replace hm1 := cond_t hc0 hm1
   refine V.skip ?_
   refine V.keep 40 [0, 1, 2, 7, 8] [0] (E0 := [(0, .vl ρ0 4 (List.map encRule list)), (1, .int .i64 series), (2, .int .i64 event), (7, .sref b2 4 0 (List.length out_0)), (8, .int .i64 i)]) (H0 := [(b2, ⟨4, List.map encRule out_0⟩)]) rfl (⟨_, _, rfl, rfl, _, _, rfl, rfl, _, _, rfl, rfl, _, _, rfl, rfl, _, _, rfl, rfl, rfl⟩) (⟨_, _, rfl, rfl, rfl⟩) rfl ?_
   refine V.seq ?_
   replace hm1 := bindO hm1; rcases hm1 with ⟨j0, hm2, hm1⟩
   refine V.cutT (D := (List Rule) × (Nat)) (fun ⟨out_1, b3⟩ => ⟨40, [(7, .sref b3 4 0 (List.length out_1)), (0, .vl ρ0 4 (List.map encRule list)), (1, .int .i64 series), (2, .int .i64 event), (8, .int .i64 i)], [(b3, ⟨4, List.map encRule out_1⟩)]⟩) (fun ⟨out_1, b3⟩ => (out_1 = j0)) ?_ ?_
   ·
    refine V.block ?_
    refine V.seq ?_
    replace hm2 := asrt_some hm2; rcases hm2 with ⟨hh0, hm2⟩
    replace hm2 := asrt_some hm2; rcases hm2 with ⟨hh1, hm2⟩
    refine V.region ?_
    refine VO.cons rfl (V1.move rfl rfl rfl lt0 ?_)
    refine VO.cons rfl (V1.move rfl rfl rfl lt0 ?_)
    refine VO.cons rfl (V1.indexI rfl rfl esz_24 rfl rfl hh0 lt0 ?_)
    refine VO.cons rfl (V1.fieldPin rfl rfl fo_50_0 rfl lt0 ?_)
    refine VO.cons rfl (V1.loadPin rfl rfl tyk_3 rfl rfl lt0 ?_)
    refine VO.cons rfl (V1.move rfl rfl rfl lt0 ?_)
    refine VO.cons rfl (V1.int rfl rfl rfl rfl rfl lt0 ?_)
    refine VO.cons rfl (V1.move rfl rfl rfl lt0 ?_)
    apply VO.or (n := 7) rfl rfl rfl rfl rfl rfl lt0 (.none rfl)
    ·
     intro hg0
     refine VO.step (.some rfl rfl rfl) (V1.move rfl rfl rfl lt0 ?_)
     refine VO.step (.some rfl rfl rfl) (V1.move rfl rfl rfl lt0 ?_)
     refine VO.step (.some rfl rfl rfl) (V1.indexI rfl rfl esz_24 rfl rfl (hh1 hg0) lt0 ?_)
     refine VO.step (.some rfl rfl rfl) (V1.fieldPin rfl rfl fo_50_1 rfl lt0 ?_)
     refine VO.step (.some rfl rfl rfl) (V1.loadPin rfl rfl tyk_3 rfl rfl lt0 ?_)
     refine VO.step (.some rfl rfl rfl) (V1.move rfl rfl rfl lt0 ?_)
     refine VO.step (.some rfl rfl rfl) (V1.int rfl rfl rfl rfl rfl lt0 ?_)
     exact VO.nil ⟨rfl, rfl, rfl, rfl, .inr ⟨rfl, .inr ⟨rfl, .inr ⟨rfl, .inr ⟨rfl, .inr ⟨rfl, .inr ⟨rfl, .inr ⟨rfl, .inr ⟨rfl, .inl rfl⟩⟩⟩⟩⟩⟩⟩⟩⟩
    refine VO.nil ?_
    refine V.keep 40 [0, 1, 2, 7, 8, 31] [0] (E0 := [(0, .vl ρ0 4 (List.map encRule list)), (1, .int .i64 series), (2, .int .i64 event), (7, .sref b2 4 0 (List.length out_0)), (8, .int .i64 i), (31, .bool ((((list.getD (Int.toNat i) default).Series) != series) || (((list.getD (Int.toNat i) default).Event) != event)))]) (H0 := [(b2, ⟨4, List.map encRule out_0⟩)]) rfl (⟨_, _, rfl, rfl, _, _, rfl, rfl, _, _, rfl, rfl, _, _, rfl, rfl, _, _, rfl, rfl, _, _, rfl, rfl, rfl⟩) (⟨_, _, rfl, rfl, rfl⟩) rfl ?_
    refine V.cond rfl (fun hc1 => ?_) (fun hc1 => ?_)
    ·
     replace hm2 := cond_t hc1 hm2
     replace hm2 := asrt_some hm2; rcases hm2 with ⟨hh2, hm2⟩
     replace hm2 := asrt_some hm2; rcases hm2 with ⟨hh3, hm2⟩
     refine V.region ?_
     refine VO.cons rfl (V1.move rfl rfl rfl lt0 ?_)
     refine VO.cons rfl (V1.move rfl rfl rfl lt0 ?_)
     refine VO.cons rfl (V1.move rfl rfl rfl lt0 ?_)
     refine VO.cons rfl (V1.indexI rfl rfl esz_24 rfl rfl hh2 lt0 ?_)
     refine VO.cons rfl (V1.loadPinAll rfl rfl tyk_50 rfl rfl lt0 ?_)
     refine VO.cons rfl (V1.buildSliceT (f := encRule) ([(list.getD (Int.toNat i) default)] : List Rule) rfl rfl esz_24 zk_50 rfl rfl rfl rfl rfl rfl rfl lt0 ?_)
     intro b4
     refine VO.cons rfl (V1.appendMap (k := 1) (f := encRule) (l := out_0) (m := ([(list.getD (Int.toNat i) default)] : List Rule)) rfl rfl rfl rfl rfl esz_24 eby_24 zk_50 rfl rfl rfl (SrcOf.srMap (k := 0) rfl isl_24) hh3 lt0 ?_)
     intro b5
     refine VO.cons rfl (V1.assign rfl rfl rfl lt0 ?_)
     refine VO.nil ?_
     exact ⟨((out_0 ++ ([(list.getD (Int.toNat i) default)] : List Rule)), b5), Option.some.inj hm2, Keeps.mk (ks := [0]) rfl ⟨rfl, rfl, rfl, rfl, rfl, trivial⟩ (⟨_, _, rfl, rfl, rfl⟩) rfl⟩
    ·
     replace hm2 := cond_f hc1 hm2
     refine V.skip ?_
     exact ⟨(out_0, b2), Option.some.inj hm2, Keeps.mk (ks := [0]) rfl ⟨rfl, rfl, rfl, rfl, rfl, trivial⟩ (⟨_, _, rfl, rfl, rfl⟩) rfl⟩
   ·
    rintro ⟨out_1, b3⟩ rfl
    try dsimp only at hm1
    refine V.region ?_
    refine VO.cons rfl (V1.move rfl rfl rfl lt0 ?_)
    refine VO.cons rfl (V1.int rfl rfl rfl rfl rfl lt0 ?_)
    refine VO.cons rfl (V1.assign rfl rfl rfl lt0 ?_)
    refine VO.nil ?_
    exact ⟨(m0, (out_1, (IntKind.i64.wrap (i + (1 : Int)))), b3), hl1 _ (Option.some.inj hm1).symm, Nat.lt_succ_self _, Keeps.mk (ks := [0]) rfl ⟨rfl, rfl, rfl, rfl, rfl, trivial⟩ (⟨_, _, rfl, rfl, rfl⟩) rfl⟩
  ·
   replace hm1 := cond_f hc0 hm1
   refine V.exit ?_
   obtain rfl := hr1 _ (Option.some.inj hm1).symm
   exact ⟨(out_0, b2), rfl, Keeps.mk (ks := [0]) rfl ⟨rfl, trivial⟩ (⟨_, _, rfl, rfl, rfl⟩) rfl⟩
 ·
  rintro ⟨out_, b1⟩ rfl
  try dsimp only at hm0
  refine V.seq ?_
  refine V.region ?_
  refine VO.cons rfl (V1.move rfl rfl rfl lt0 ?_)
  refine VO.cons rfl (V1.assign rfl rfl rfl lt0 ?_)
  refine VO.nil ?_
  refine V.keep 40 [6] [0] (E0 := [(6, .sref b1 4 0 (List.length out_))]) (H0 := [(b1, ⟨4, List.map encRule out_⟩)]) rfl (⟨_, _, rfl, rfl, rfl⟩) (⟨_, _, rfl, rfl, rfl⟩) rfl ?_
  refine V.ret ?_
  obtain rfl := Option.some.inj hm0
  exact ⟨_, _, ⟨_, _, rfl, rfl, rfl⟩, List.Sublist.refl _, b1, rfl, rfl⟩

theorem ok_spec_PutRule {ρ0 rn : Nat} {list : List Rule} {r_ : Rule} {r : List Rule × Bool} (h : M.spec_PutRule list r_ = some r) : Does Tryz.prog 60 [.vl ρ0 4 (List.map encRule list), encRule r_] [] rn (fun x H => ∃ (ob0_ : Nat), x = .tup [PV.sref ob0_ 4 0 (List.length r.1), .bool r.2] ∧ H = [(ob0_, ⟨4, List.map encRule r.1⟩)]) := by
 have hm0 := h; clear h; unfold M.spec_PutRule at hm0
 try dsimp only at hm0
 refine Does.intro (N := 55) Tryz.func60 rfl rfl rfl rfl ?_
 intro w0 S0 L0
 refine V.seq ?_
 refine V.region ?_
 refine VO.cons rfl (V1.boxN (n := 4) rfl rfl rfl rfl rfl lt0 ?_)
 intro b0
 refine VO.cons rfl (V1.assign rfl rfl rfl lt0 ?_)
 refine VO.cons rfl (V1.assign rfl rfl rfl lt0 ?_)
 refine VO.nil ?_
 refine V.seq ?_
 refine V.seq ?_
 replace hm0 := bindO hm0; rcases hm0 with ⟨y0, hh0, hm0⟩
 replace hm0 := bindO hm0; rcases hm0 with ⟨y1, hh1, hm0⟩
 refine V.region ?_
 refine VO.cons rfl (V1.move rfl rfl rfl lt0 ?_)
 refine VO.cons rfl (V1.call rfl rfl rfl cok_26 rfl (ok_spec_l4Good hh0) rfl lt0 ?_)
 rintro _ _ ⟨rfl, rfl⟩
 refine VO.cons rfl (V1.not rfl rfl rfl lt0 ?_)
 refine VO.cons rfl (V1.move rfl rfl rfl lt0 ?_)
 apply VO.or (n := 3) rfl rfl rfl rfl rfl rfl lt0 (.none rfl)
 ·
  intro hg0
  refine VO.step (.some rfl rfl rfl) (V1.loadRefAll (k := 0) rfl rfl tyk_50 rfl rfl rfl rfl rfl lt0 ?_)
  refine VO.step (.some rfl rfl rfl) (V1.call rfl rfl rfl cok_52 rfl (ok_spec_l4One (cond_f hg0 hh1)) rfl lt0 ?_)
  rintro _ _ ⟨rfl, rfl⟩
  refine VO.step (.some rfl rfl rfl) (V1.not rfl rfl rfl lt0 ?_)
  exact VO.nil ⟨rfl, rfl, rfl, rfl, .inr ⟨rfl, .inr ⟨rfl, .inr ⟨rfl, .inr ⟨rfl, .inl rfl⟩⟩⟩⟩⟩
 refine VO.nil ?_
 refine V.keep 55 [0, 3, 16] [0] (E0 := [(0, .vl ρ0 4 (List.map encRule list)), (3, .ref b0 4 0 0), (16, .bool ((!y0) || (!y1)))]) (H0 := [(b0, ⟨4, [encRule r_]⟩)]) rfl (⟨_, _, rfl, rfl, _, _, rfl, rfl, _, _, rfl, rfl, rfl⟩) (⟨_, _, rfl, rfl, rfl⟩) rfl ?_
 refine V.cond rfl (fun hc0 => ?_) (fun hc0 => ?_)
 ·
  replace hm0 := cond_t hc0 hm0
  refine V.seq ?_
  refine V.region ?_
  refine VO.cons rfl (V1.buildSliceT (f := encRule) ([] : List Rule) rfl rfl esz_24 zk_50 rfl rfl rfl rfl rfl rfl rfl lt0 ?_)
  intro b1
  refine VO.cons rfl (V1.assign rfl rfl rfl lt0 ?_)
  refine VO.cons rfl (V1.assign rfl rfl rfl lt0 ?_)
  refine VO.nil ?_
  refine V.keep 55 [4, 5] [0] (E0 := [(4, .sref b1 4 0 (List.length ([] : List Rule))), (5, .bool false)]) (H0 := [(b1, ⟨4, List.map encRule ([] : List Rule)⟩)]) rfl (⟨_, _, rfl, rfl, _, _, rfl, rfl, rfl⟩) (⟨_, _, rfl, rfl, rfl⟩) rfl ?_
  refine V.ret ?_
  obtain rfl := Option.some.inj hm0
  exact ⟨_, _, ⟨_, _, rfl, rfl, _, _, rfl, rfl, rfl⟩, List.Sublist.refl _, b1, rfl, rfl⟩
 ·
  replace hm0 := cond_f hc0 hm0
  refine V.skip ?_
  refine V.seq ?_
  replace hm0 := bindO hm0; rcases hm0 with ⟨y2, hh2, hm0⟩
  refine V.region ?_
  refine VO.cons rfl (V1.move rfl rfl rfl lt0 ?_)
  refine VO.cons rfl (V1.fieldRef rfl rfl fo_50_0 rfl lt0 ?_)
  refine VO.cons rfl (V1.loadRef (k := 0) rfl rfl tyk_3 rfl rfl rfl rfl rfl lt0 ?_)
  refine VO.cons rfl (V1.fieldRef rfl rfl fo_50_1 rfl lt0 ?_)
  refine VO.cons rfl (V1.loadRef (k := 0) rfl rfl tyk_3 rfl rfl rfl rfl rfl lt0 ?_)
  refine VO.cons rfl (V1.call rfl rfl rfl cok_82 rfl (ok_spec_l4Without hh2) rfl lt0 ?_)
  rintro _ _ ⟨b2, rfl, rfl⟩
  refine VO.weakenK (Keeps.freezeG 0 rn [(23, .vl rn 4 (List.map encRule y2))] ([(b0, ⟨4, [encRule r_]⟩)]) (f := encRule) (l := y2) rfl (fun _ => rfl) ⟨⟨_, rfl, .here⟩, trivial⟩ ⟨_, _, rfl, rfl, .inl rfl, rfl⟩ rfl iNil) ?_
  refine VO.cons rfl (V1.assign rfl rfl rfl lt0 ?_)
  refine VO.cons rfl (V1.assign rfl rfl rfl lt0 ?_)
  refine VO.nil ?_
  refine V.keep 55 [3, 6, 7] [0] (E0 := [(3, .ref b0 4 0 0), (6, .vl rn 4 (List.map encRule y2)), (7, .int .i64 (0 : Int))]) (H0 := [(b0, ⟨4, [encRule r_]⟩)]) rfl (⟨_, _, rfl, rfl, _, _, rfl, rfl, _, _, rfl, rfl, rfl⟩) (⟨_, _, rfl, rfl, rfl⟩) rfl ?_
  refine V.seq ?_
  replace hm0 := bindO hm0; rcases hm0 with ⟨e0, he1, hm0⟩
  refine V.cutT (D := (Int) × (Unit)) (fun ⟨k, _⟩ => ⟨55, [(7, .int .i64 k), (3, .ref b0 4 0 0), (6, .vl rn 4 (List.map encRule y2))], [(b0, ⟨4, [encRule r_]⟩)]⟩) (fun ⟨k, _⟩ => (k = e0)) ?_ ?_
  ·
   refine V.block ?_
   refine V.keep 55 [7, 3, 6] [0] (E0 := [(7, .int .i64 (0 : Int)), (3, .ref b0 4 0 0), (6, .vl rn 4 (List.map encRule y2))]) (H0 := [(b0, ⟨4, [encRule r_]⟩)]) rfl (⟨_, _, rfl, rfl, _, _, rfl, rfl, _, _, rfl, rfl, rfl⟩) (⟨_, _, rfl, rfl, rfl⟩) rfl ?_
   refine V.loopE (D := Nat × (Int) × (Unit)) (fun ⟨n0, k0, _⟩ => [(7, .int .i64 k0)]) (fun ⟨n0, k0, _⟩ => []) (fun ⟨n0, k0, _⟩ => loopO (M.spec_PutRule_l0 r_ y2) n0 k0 = some e0) (fun ⟨n0, _, _⟩ => n0) (rounds, (0 : Int), ()) rfl he1 ?_
   rintro ⟨n0, k0, _⟩ hP0
   obtain ⟨m0, y3, rfl, hm1, hl1, hr1⟩ := loop_head hP0
   unfold M.spec_PutRule_l0 at hm1; dsimp only at hm1
   show V _ _ _ ⟨55, [(7, .int .i64 k0), (3, .ref b0 4 0 0), (6, .vl rn 4 (List.map encRule y2))], [(b0, ⟨4, [encRule r_]⟩)]⟩
   refine V.seq ?_
   refine V.seq ?_
   replace hm1 := asrt_some hm1; rcases hm1 with ⟨hh3, hm1⟩
   replace hm1 := bindO hm1; rcases hm1 with ⟨y4, hh4, hm1⟩
   refine V.regionM 55 12 [⟨[(7, none)], [], none⟩, ⟨[(6, none)], [], none⟩, ⟨[(25, some 0)], [], none⟩, ⟨[(24, some 2), (26, some 0)], [], none⟩, ⟨[(27, some 0)], [], none⟩, ⟨[(6, none)], [(0, true)], none⟩, ⟨[(7, none)], [(1, true)], none⟩, ⟨[(29, some 1), (30, some 0)], [(2, true)], none⟩, ⟨[(31, some 0)], [(3, true)], none⟩, ⟨[(3, none)], [(4, true)], none⟩, ⟨[(32, some 1), (33, some 0)], [(5, true)], none⟩, ⟨[], [], some (true, 28, 34, 6, 0)⟩] [(3, none), (6, none), (7, none), (35, some 0)] (⟨_, rfl, ⟨_, rfl, ⟨_, rfl, ⟨_, rfl, ⟨_, rfl, ⟨_, rfl, ⟨_, rfl, ⟨_, rfl, ⟨_, rfl, ⟨_, rfl, ⟨_, rfl, ⟨_, rfl, ⟨rfl, rfl⟩⟩⟩⟩⟩⟩⟩⟩⟩⟩⟩⟩⟩) mixed_orders rfl (by decide +kernel) (fun hck4 => ?_)
   refine VP.step (p := ?pv126) rfl rfl rfl (⟨_, _, rfl, rfl, rfl⟩) ?hv126 ?rest126 hck4
   case hv126 =>
    intro E1
    refine (V1.move rfl rfl rfl lt0 ?_)
    exact rfl
   refine VP.step (p := ?pv127) rfl rfl rfl (⟨_, _, rfl, rfl, rfl⟩) ?hv127 ?rest127 hck4
   case hv127 =>
    intro E1
    refine (V1.move rfl rfl rfl lt0 ?_)
    exact rfl
   refine VP.step (p := ?pv128) rfl rfl rfl (⟨_, _, rfl, rfl, rfl⟩) ?hv128 ?rest128 hck4
   case hv128 =>
    intro E1
    refine (V1.lenMap rfl rfl rfl rfl rfl rfl isl_24 lt0 ?_)
    exact rfl
   refine VP.step (p := ?pv129) rfl rfl rfl (⟨_, _, rfl, rfl, _, _, rfl, rfl, rfl⟩) ?hv129 ?rest129 hck4
   case hv129 =>
    intro E1
    refine (V1.int rfl rfl rfl rfl rfl lt0 ?_)
    exact rfl
   refine VP.step (p := ?pv130) rfl rfl rfl (⟨_, _, rfl, rfl, rfl⟩) ?hv130 ?rest130 hck4
   case hv130 =>
    intro E1
    refine (V1.move rfl rfl rfl lt0 ?_)
    exact rfl
   refine VP.step (p := ?pv131) rfl rfl rfl (⟨_, _, rfl, rfl, rfl⟩) ?hv131 ?rest131 hck4
   case hv131 =>
    refine ⟨_, rfl, fun hg1 => ?_⟩
    intro E1
    refine (V1.move rfl rfl rfl lt0 ?_)
    exact rfl
   refine VP.step (p := ?pv132) rfl rfl rfl (⟨_, _, rfl, rfl, rfl⟩) ?hv132 ?rest132 hck4
   case hv132 =>
    refine ⟨_, rfl, fun hg1 => ?_⟩
    intro E1
    refine (V1.move rfl rfl rfl lt0 ?_)
    exact rfl
   refine VP.step (p := ?pv133) rfl rfl rfl (⟨_, _, rfl, rfl, _, _, rfl, rfl, rfl⟩) ?hv133 ?rest133 hck4
   case hv133 =>
    refine ⟨_, rfl, fun hg1 => ?_⟩
    intro E1
    refine (V1.indexI rfl rfl esz_24 rfl rfl (hh3 hg1) lt0 ?_)
    exact rfl
   refine VP.step (p := ?pv134) rfl rfl rfl (⟨_, _, rfl, rfl, rfl⟩) ?hv134 ?rest134 hck4
   case hv134 =>
    refine ⟨_, rfl, fun hg1 => ?_⟩
    intro E1
    refine (V1.loadPinAll rfl rfl tyk_50 rfl rfl lt0 ?_)
    exact rfl
   refine VP.step (p := ?pv135) rfl rfl rfl (⟨_, _, rfl, rfl, rfl⟩) ?hv135 ?rest135 hck4
   case hv135 =>
    refine ⟨_, rfl, fun hg1 => ?_⟩
    intro E1
    refine (V1.loadRefAll (k := 0) rfl rfl tyk_50 rfl rfl rfl rfl rfl lt0 ?_)
    exact rfl
   refine VP.step (p := ?pv136) rfl rfl rfl (⟨_, _, rfl, rfl, _, _, rfl, rfl, rfl⟩) ?hv136 ?rest136 hck4
   case hv136 =>
    refine ⟨_, rfl, fun hg1 => ?_⟩
    intro E1
    refine (V1.call rfl rfl rfl cok_53 rfl (ok_spec_l4Before (cond_t hg1 hh4)) rfl lt0 ?_)
    rintro _ _ ⟨rfl, rfl⟩
    exact rfl
   refine VP.pickAnd rfl rfl rfl rfl rfl rfl (trivial) ?_ hck4
   refine VP.fin rfl (⟨_, _, rfl, rfl, _, _, rfl, rfl, _, _, rfl, rfl, _, _, rfl, rfl, rfl⟩) ?_
   refine VO.nil ?_
   refine V.cond rfl (fun hc1 => ?_) (fun hc1 => ?_)
   ·
    replace hm1 := cond_t hc1 hm1
    refine V.skip ?_
    refine V.block ?_
    refine V.region ?_
    refine VO.cons rfl (V1.move rfl rfl rfl lt0 ?_)
    refine VO.cons rfl (V1.int rfl rfl rfl rfl rfl lt0 ?_)
    refine VO.cons rfl (V1.assign rfl rfl rfl lt0 ?_)
    refine VO.nil ?_
    exact ⟨(m0, (IntKind.i64.wrap (k0 + (1 : Int))), ()), hl1 _ (Option.some.inj hm1).symm, Nat.lt_succ_self _, Keeps.mk (ks := [0]) rfl ⟨rfl, rfl, rfl, trivial⟩ (⟨_, _, rfl, rfl, rfl⟩) rfl⟩
   ·
    replace hm1 := cond_f hc1 hm1
    refine V.exit ?_
    obtain rfl := hr1 _ (Option.some.inj hm1).symm
    exact ⟨(k0, ()), rfl, Keeps.mk (ks := [0]) rfl ⟨rfl, rfl, rfl, trivial⟩ (⟨_, _, rfl, rfl, rfl⟩) rfl⟩
  ·
   rintro ⟨k, _⟩ rfl
   try dsimp only at hm0
   refine V.seq ?_
   replace hm0 := asrt_some hm0; rcases hm0 with ⟨hh5, hm0⟩
   replace hm0 := asrt_some hm0; rcases hm0 with ⟨hh6, hm0⟩
   replace hm0 := asrt_some hm0; rcases hm0 with ⟨hh7, hm0⟩
   replace hm0 := asrt_some hm0; rcases hm0 with ⟨hh8, hm0⟩
   replace hm0 := asrt_some hm0; rcases hm0 with ⟨hh9, hm0⟩
   refine V.regionS [(b0, ⟨4, [encRule r_]⟩)] 55 11 [⟨[], true⟩, ⟨[(6, none)], false⟩, ⟨[(7, none)], false⟩, ⟨[(39, some 1), (40, some 2)], false⟩, ⟨[(38, some 0), (41, some 3)], true⟩, ⟨[(3, none)], false⟩, ⟨[(43, some 5)], false⟩, ⟨[(42, some 4), (44, some 6)], true⟩, ⟨[(6, none)], false⟩, ⟨[(7, none)], false⟩, ⟨[(46, some 8), (47, some 9)], false⟩] [(45, some 7), (48, some 10)] 3 (⟨_, rfl, ⟨_, rfl, ⟨_, rfl, ⟨_, rfl, ⟨_, rfl, ⟨_, rfl, ⟨_, rfl, ⟨_, rfl, ⟨_, rfl, ⟨_, rfl, ⟨_, rfl, ⟨rfl, rfl⟩⟩⟩⟩⟩⟩⟩⟩⟩⟩⟩⟩) mixed_orders rfl (by decide +kernel) ?_
   refine WalkP.step (p := ?pv138) 1 rfl rfl rfl rfl rfl (⟨_, _, rfl, rfl, rfl⟩) ?hv138 ?rest138
   case hv138 =>
    intro E1 H1 hI1
    refine (V1.move rfl rfl rfl lt0 ?_)
    exact rfl
   refine WalkP.step (p := ?pv139) 2 rfl rfl rfl rfl rfl (⟨_, _, rfl, rfl, rfl⟩) ?hv139 ?rest139
   case hv139 =>
    intro E1 H1 hI1
    refine (V1.move rfl rfl rfl lt0 ?_)
    exact rfl
   refine WalkP.step (p := ?pv140) 3 rfl rfl rfl rfl rfl (⟨_, _, rfl, rfl, _, _, rfl, rfl, rfl⟩) ?hv140 ?rest140
   case hv140 =>
    intro E1 H1 hI1
    refine (V1.sliceMap (a := (0 : Int)) (b := k) rfl rfl esz_24 rfl (Bnd.none _ _) (Bnd.some rfl (Int.le_trans hh5.1 hh5.2.1) _) hh5 lt0 ?_)
    exact rfl
   refine WalkP.step (p := ?pv141) 5 rfl rfl rfl rfl rfl (⟨_, _, rfl, rfl, rfl⟩) ?hv141 ?rest141
   case hv141 =>
    intro E1 H1 hI1
    obtain ⟨k142_, hk142_⟩ := inGet 0 rfl hI1
    refine (V1.loadRefAll (k := k142_) rfl rfl tyk_50 rfl hk142_ rfl rfl rfl lt0 ?_)
    exact rfl
   refine WalkP.step (p := ?pv143) 6 rfl rfl rfl rfl rfl (⟨_, _, rfl, rfl, rfl⟩) ?hv143 ?rest143
   case hv143 =>
    intro E1 H1 hI1
    refine (V1.buildFrz (f := encRule) ([r_] : List Rule) (fun _ => rfl) iNil rfl rfl esz_24 zk_50 rfl rfl rfl rfl rfl rfl rfl lt0 ?_)
    exact rfl
   refine WalkP.step (p := ?pv144) 8 rfl rfl rfl rfl rfl (⟨_, _, rfl, rfl, rfl⟩) ?hv144 ?rest144
   case hv144 =>
    intro E1 H1 hI1
    refine (V1.move rfl rfl rfl lt0 ?_)
    exact rfl
   refine WalkP.step (p := ?pv145) 9 rfl rfl rfl rfl rfl (⟨_, _, rfl, rfl, rfl⟩) ?hv145 ?rest145
   case hv145 =>
    intro E1 H1 hI1
    refine (V1.move rfl rfl rfl lt0 ?_)
    exact rfl
   refine WalkP.step (p := ?pv146) 10 rfl rfl rfl rfl rfl (⟨_, _, rfl, rfl, _, _, rfl, rfl, rfl⟩) ?hv146 ?rest146
   case hv146 =>
    intro E1 H1 hI1
    refine (V1.sliceMap (a := k) (b := (y2.length : Int)) rfl rfl esz_24 rfl (Bnd.some rfl hh8.1 _) (Bnd.none _ _) hh8 lt0 ?_)
    exact rfl
   refine WalkP.nil ?_
   refine NodeS.branch [0] (inCons 0 rfl inNil) rfl rfl rfl ⟨?_, trivial⟩
   ·
    refine ⟨_, _, _, _, rfl, rfl, rfl, (rfl), fun E1 => ?_⟩
    refine (V1.buildSliceT (f := encRule) ([] : List Rule) rfl rfl esz_24 zk_50 rfl rfl rfl rfl rfl rfl rfl lt0 ?_)
    intro b9
    refine ⟨_, _, rfl, ?_⟩
    refine WalkP.nil ?_
    refine NodeS.branch [4] (inCons 1 rfl inNil) rfl rfl rfl ⟨?_, trivial⟩
    ·
     refine ⟨_, _, _, _, rfl, rfl, rfl, (⟨_, _, rfl, rfl, _, _, rfl, rfl, rfl⟩), fun E1 => ?_⟩
     refine (V1.appendMap (k := 0) (f := encRule) (l := ([] : List Rule)) (m := (slc y2 (0 : Int) k)) rfl rfl rfl rfl rfl esz_24 eby_24 zk_50 rfl rfl rfl (.vl isl_24) hh6 lt0 ?_)
     intro b10
     refine ⟨_, _, rfl, ?_⟩
     refine WalkP.nil ?_
     refine NodeS.branch [7] (inCons 1 rfl inNil) rfl rfl rfl ⟨?_, trivial⟩
     ·
      refine ⟨_, _, _, _, rfl, rfl, rfl, (⟨_, _, rfl, rfl, _, _, rfl, rfl, rfl⟩), fun E1 => ?_⟩
      refine (V1.appendMap (k := 0) (f := encRule) (l := (([] : List Rule) ++ (slc y2 (0 : Int) k))) (m := ([r_] : List Rule)) rfl rfl rfl rfl rfl esz_24 eby_24 zk_50 rfl rfl rfl (.vl isl_24) hh7 lt0 ?_)
      intro b11
      refine ⟨_, _, rfl, ?_⟩
      refine WalkP.nil ?_
      refine NodeS.fin (inCons 1 rfl inNil) rfl rfl rfl (⟨_, _, rfl, rfl, _, _, rfl, rfl, rfl⟩) ?_
      refine VO.cons rfl (V1.appendMap (k := 0) (f := encRule) (l := ((([] : List Rule) ++ (slc y2 (0 : Int) k)) ++ ([r_] : List Rule))) (m := (slc y2 k (y2.length : Int))) rfl rfl rfl rfl rfl esz_24 eby_24 zk_50 rfl rfl rfl (.vl isl_24) hh9 lt0 ?_)
      intro b12
      refine VO.cons rfl (V1.assign rfl rfl rfl lt0 ?_)
      refine VO.nil ?_
      refine V.seq ?_
      refine V.seq ?_
      replace hm0 := bindO hm0; rcases hm0 with ⟨y5, hh10, hm0⟩
      refine V.region ?_
      refine VO.cons rfl (V1.move rfl rfl rfl lt0 ?_)
      refine VO.cons rfl (V1.callL (rn + 1) [b12] [.vl (rn + 1) 4 (List.map encRule (((([] : List Rule) ++ (slc y2 (0 : Int) k)) ++ ([r_] : List Rule)) ++ (slc y2 k (y2.length : Int))))] rfl rfl rfl cok_26 rfl ⟨_, _, rfl, Lend.srMap 0 rfl (fun _ => rfl) (.head _), rfl⟩ (bwCons (k := 0) rfl bwNil) (ok_spec_l4Good hh10) rfl (⟨(by first | omega | (dsimp only; omega)), by rintro _ _ ⟨rfl, rfl⟩; exact ⟨rfl, by simp⟩⟩) lt0 ?_)
      rintro _ _ ⟨rfl, rfl⟩
      refine VO.cons rfl (V1.not rfl rfl rfl lt0 ?_)
      refine VO.nil ?_
      refine V.keep 55 [8, 52] [0] (E0 := [(8, .sref b12 4 0 (List.length (((([] : List Rule) ++ (slc y2 (0 : Int) k)) ++ ([r_] : List Rule)) ++ (slc y2 k (y2.length : Int))))), (52, .bool (!y5))]) (H0 := [(b12, ⟨4, List.map encRule (((([] : List Rule) ++ (slc y2 (0 : Int) k)) ++ ([r_] : List Rule)) ++ (slc y2 k (y2.length : Int)))⟩)]) rfl (⟨_, _, rfl, rfl, _, _, rfl, rfl, rfl⟩) (⟨_, _, rfl, rfl, rfl⟩) rfl ?_
      refine V.cond rfl (fun hc2 => ?_) (fun hc2 => ?_)
      ·
       replace hm0 := cond_t hc2 hm0
       refine V.seq ?_
       refine V.region ?_
       refine VO.cons rfl (V1.buildSliceT (f := encRule) ([] : List Rule) rfl rfl esz_24 zk_50 rfl rfl rfl rfl rfl rfl rfl lt0 ?_)
       intro b13
       refine VO.cons rfl (V1.assign rfl rfl rfl lt0 ?_)
       refine VO.cons rfl (V1.assign rfl rfl rfl lt0 ?_)
       refine VO.nil ?_
       refine V.keep 55 [4, 5] [0] (E0 := [(4, .sref b13 4 0 (List.length ([] : List Rule))), (5, .bool false)]) (H0 := [(b13, ⟨4, List.map encRule ([] : List Rule)⟩)]) rfl (⟨_, _, rfl, rfl, _, _, rfl, rfl, rfl⟩) (⟨_, _, rfl, rfl, rfl⟩) rfl ?_
       refine V.ret ?_
       obtain rfl := Option.some.inj hm0
       exact ⟨_, _, ⟨_, _, rfl, rfl, _, _, rfl, rfl, rfl⟩, List.Sublist.refl _, b13, rfl, rfl⟩
      ·
       replace hm0 := cond_f hc2 hm0
       refine V.skip ?_
       refine V.seq ?_
       refine V.region ?_
       refine VO.cons rfl (V1.move rfl rfl rfl lt0 ?_)
       refine VO.cons rfl (V1.assign rfl rfl rfl lt0 ?_)
       refine VO.cons rfl (V1.assign rfl rfl rfl lt0 ?_)
       refine VO.nil ?_
       refine V.keep 55 [4, 5] [0] (E0 := [(4, .sref b12 4 0 (List.length (((([] : List Rule) ++ (slc y2 (0 : Int) k)) ++ ([r_] : List Rule)) ++ (slc y2 k (y2.length : Int))))), (5, .bool true)]) (H0 := [(b12, ⟨4, List.map encRule (((([] : List Rule) ++ (slc y2 (0 : Int) k)) ++ ([r_] : List Rule)) ++ (slc y2 k (y2.length : Int)))⟩)]) rfl (⟨_, _, rfl, rfl, _, _, rfl, rfl, rfl⟩) (⟨_, _, rfl, rfl, rfl⟩) rfl ?_
       refine V.ret ?_
       obtain rfl := Option.some.inj hm0
       exact ⟨_, _, ⟨_, _, rfl, rfl, _, _, rfl, rfl, rfl⟩, List.Sublist.refl _, b12, rfl, rfl⟩

theorem ok_spec_l1Cur_schedule {ρ0 rn bp : Nat} {c : Cur} {r : List Rule × Cur} (h : M.spec_l1Cur_schedule c = some r) : Does Tryz.prog 30 [.ref bp 3 0 0] [(bp, ⟨3, [encCur ρ0 c]⟩)] rn (fun x H => ∃ (ob0_ : Nat), x = PV.sref ob0_ 4 0 (List.length r.1) ∧ H = [(ob0_, ⟨4, List.map encRule r.1⟩)] ++ [(bp, ⟨3, [encCur ρ0 r.2]⟩)]) := by
 have hm0 := h; clear h; unfold M.spec_l1Cur_schedule at hm0
 try dsimp only at hm0
 refine Does.intro (N := 48) Tryz.func30 rfl rfl rfl rfl ?_
 intro w0 S0 L0
 refine V.seq ?_
 refine V.region ?_
 refine VO.cons rfl (V1.assign rfl rfl rfl lt0 ?_)
 refine VO.nil ?_
 refine V.seq ?_
 refine V.region ?_
 refine VO.cons rfl (V1.buildSliceT (f := encRule) ([] : List Rule) rfl rfl esz_24 zk_50 rfl rfl rfl rfl rfl rfl rfl lt0 ?_)
 intro b0
 refine VO.cons rfl (V1.assign rfl rfl rfl lt0 ?_)
 refine VO.nil ?_
 refine V.seq ?_
 refine V.seq ?_
 replace hm0 := bindO hm0; rcases hm0 with ⟨y0, hh0, hm0⟩
 refine V.region ?_
 refine VO.cons rfl (V1.move rfl rfl rfl lt0 ?_)
 refine VO.cons rfl (V1.callM 1 (rn + ρ0 + 1) [] [.ref bp 3 0 0, .int .i64 (7 : Int)] (p := (bp, ⟨3, [encCur ρ0 c]⟩)) rfl rfl rfl cok_59 rfl rfl ⟨_, _, rfl, .same _, ⟨_, _, rfl, .same _, rfl⟩⟩ bwNil (ok_spec_l1Cur_pick hh0) rfl (.inl rfl) lt0 ?_)
 rintro _ _ ⟨rfl, rfl⟩
 refine VO.cons rfl (V1.assign rfl rfl rfl lt0 ?_)
 refine VO.nil ?_
 refine V.keep 48 [0, 3, 4] [0, 1] (E0 := [(0, .ref bp 3 0 0), (3, .sref b0 4 0 (List.length ([] : List Rule))), (4, .int .i64 y0.1)]) (H0 := [(bp, ⟨3, [encCur ρ0 y0.2]⟩), (b0, ⟨4, List.map encRule ([] : List Rule)⟩)]) rfl (⟨_, _, rfl, rfl, _, _, rfl, rfl, _, _, rfl, rfl, rfl⟩) (⟨_, _, rfl, rfl, _, _, rfl, rfl, rfl⟩) rfl ?_
 replace hm0 := bindO hm0; rcases hm0 with ⟨e0, he1, hm0⟩
 refine V.cutT (D := (List Rule × Cur) × (Nat)) (fun ⟨⟨list, c_⟩, b1⟩ => ⟨48, [(3, .sref b1 4 0 (List.length list)), (0, .ref bp 3 0 0)], [(b1, ⟨4, List.map encRule list⟩), (bp, ⟨3, [encCur ρ0 c_]⟩)]⟩) (fun ⟨⟨list, c_⟩, b1⟩ => ((list, c_) = e0)) ?_ ?_
 ·
  refine V.block ?_
  refine V.keep 48 [3, 4, 0] [1, 0] (E0 := [(3, .sref b0 4 0 (List.length ([] : List Rule))), (4, .int .i64 y0.1), (0, .ref bp 3 0 0)]) (H0 := [(b0, ⟨4, List.map encRule ([] : List Rule)⟩), (bp, ⟨3, [encCur ρ0 y0.2]⟩)]) rfl (⟨_, _, rfl, rfl, _, _, rfl, rfl, _, _, rfl, rfl, rfl⟩) (⟨_, _, rfl, rfl, _, _, rfl, rfl, rfl⟩) rfl ?_
  refine V.loopE (D := Nat × (List Rule × Int × Cur) × (Nat)) (fun ⟨n0, ⟨list0, n_, c_0⟩, b2⟩ => [(3, .sref b2 4 0 (List.length list0)), (4, .int .i64 n_)]) (fun ⟨n0, ⟨list0, n_, c_0⟩, b2⟩ => [(b2, ⟨4, List.map encRule list0⟩), (bp, ⟨3, [encCur ρ0 c_0]⟩)]) (fun ⟨n0, ⟨list0, n_, c_0⟩, b2⟩ => loopO (M.spec_l1Cur_schedule_l0) n0 (list0, n_, c_0) = some e0) (fun ⟨n0, _, _⟩ => n0) (rounds, (([] : List Rule), y0.1, y0.2), b0) rfl he1 ?_
  rintro ⟨n0, ⟨list0, n_, c_0⟩, b2⟩ hP0
  obtain ⟨m0, y1, rfl, hm1, hl1, hr1⟩ := loop_head hP0
  unfold M.spec_l1Cur_schedule_l0 at hm1; dsimp only at hm1
  show V _ _ _ ⟨48, [(3, .sref b2 4 0 (List.length list0)), (4, .int .i64 n_), (0, .ref bp 3 0 0)], [(b2, ⟨4, List.map encRule list0⟩), (bp, ⟨3, [encCur ρ0 c_0]⟩)]⟩
  refine V.seq ?_
  refine V.seq ?_
  refine V.region ?_
  refine VO.cons rfl (V1.move rfl rfl rfl lt0 ?_)
  refine VO.cons rfl (V1.int rfl rfl rfl rfl rfl lt0 ?_)
  refine VO.nil ?_
  refine V.cond rfl (fun hc0 => ?_) (fun hc0 => ?_)
  ·
   replace hm1 := cond_t hc0 hm1
   refine V.skip ?_
   refine V.seq ?_
   replace hm1 := bindO hm1; rcases hm1 with ⟨j0, hm2, hm1⟩
   refine V.cutT (D := (List Rule × Cur) × (Nat)) (fun ⟨⟨list1, c_1⟩, b3⟩ => ⟨48, [(3, .sref b3 4 0 (List.length list1)), (0, .ref bp 3 0 0), (4, .int .i64 n_)], [(b3, ⟨4, List.map encRule list1⟩), (bp, ⟨3, [encCur ρ0 c_1]⟩)]⟩) (fun ⟨⟨list1, c_1⟩, b3⟩ => ((list1, c_1) = j0)) ?_ ?_
   ·
    refine V.block ?_
    refine V.seq ?_
    replace hm2 := bindO hm2; rcases hm2 with ⟨y2, hh1, hm2⟩
    replace hm2 := bindO hm2; rcases hm2 with ⟨y3, hh2, hm2⟩
    refine V.region ?_
    refine VO.cons rfl (V1.move rfl rfl rfl lt0 ?_)
    refine VO.cons rfl (V1.move rfl rfl rfl lt0 ?_)
    refine VO.cons rfl (V1.callM 1 (rn + ρ0 + 1) [] [.ref bp 3 0 0] (p := (bp, ⟨3, [encCur ρ0 c_0]⟩)) rfl rfl rfl cok_61 rfl rfl ⟨_, _, rfl, .same _, rfl⟩ bwNil (ok_spec_l1Cur_rule hh1) rfl (.inl rfl) lt0 ?_)
    rintro _ _ ⟨rfl, rfl⟩
    refine VO.cons rfl (V1.callL (rn + 1) [b2] [.vl (rn + 1) 4 (List.map encRule list0), encRule y2.1] rfl rfl rfl cok_60 rfl ⟨_, _, rfl, Lend.srMap 1 rfl (fun _ => rfl) (.head _), ⟨_, _, rfl, .same _, rfl⟩⟩ (bwCons (k := 1) rfl bwNil) (ok_spec_PutRule hh2) rfl (⟨(by first | omega | (dsimp only; omega)), by rintro _ _ ⟨b4, rfl, rfl⟩; exact ⟨by simp [PV.no, PV.noL, optS_no, noL_iff, nbeq] <;> omega, by intro b ob h; first | exact optH_no (noL_map (fun _ => by simp [PV.no, PV.noL, noL_iff, nbeq]) _) b ob h | (simp only [List.append_assoc, List.mem_append, List.mem_cons, List.mem_singleton, List.not_mem_nil, or_false, Prod.mk.injEq] at h; rcases h with ⟨rfl, rfl⟩ | ⟨rfl, rfl⟩ <;> first | exact noL_map (fun _ => by simp [PV.no, PV.noL, noL_iff, nbeq]) _ | (simp [PV.no, PV.noL, optS_no, noL_iff, nbeq] <;> omega)) | (simp at h; obtain ⟨rfl, rfl⟩ := h; exact noL_map (fun _ => by simp [PV.no, PV.noL, noL_iff, nbeq]) _) | (simp at h; obtain ⟨rfl, rfl⟩ := h; simp [PV.no, PV.noL, optS_no, noL_iff, nbeq] <;> omega)⟩⟩) lt0 ?_)
    rintro _ _ ⟨b4, rfl, rfl⟩
    refine VO.cons rfl (V1.move rfl rfl rfl lt0 ?_)
    refine VO.cons rfl (V1.extract rfl rfl rfl rfl lt0 ?_)
    refine VO.cons rfl (V1.extract rfl rfl rfl rfl lt0 ?_)
    refine VO.cons rfl (V1.assign rfl rfl rfl lt0 ?_)
    refine VO.cons rfl (V1.assign rfl rfl rfl lt0 ?_)
    refine VO.nil ?_
    refine V.keep 48 [0, 3, 4, 5, 6] [0, 1, 2] (E0 := [(0, .ref bp 3 0 0), (3, .sref b2 4 0 (List.length list0)), (4, .int .i64 n_), (5, .sref b4 4 0 (List.length y3.1)), (6, .bool y3.2)]) (H0 := [(b4, ⟨4, List.map encRule y3.1⟩), (bp, ⟨3, [encCur ρ0 y2.2]⟩), (b2, ⟨4, List.map encRule list0⟩)]) rfl (⟨_, _, rfl, rfl, _, _, rfl, rfl, _, _, rfl, rfl, _, _, rfl, rfl, _, _, rfl, rfl, rfl⟩) (⟨_, _, rfl, rfl, _, _, rfl, rfl, _, _, rfl, rfl, rfl⟩) rfl ?_
    refine V.seq ?_
    refine V.region ?_
    refine VO.cons rfl (V1.move rfl rfl rfl lt0 ?_)
    refine VO.nil ?_
    refine V.cond rfl (fun hc1 => ?_) (fun hc1 => ?_)
    ·
     replace hm2 := cond_t hc1 hm2
     refine V.region ?_
     refine VO.cons rfl (V1.move rfl rfl rfl lt0 ?_)
     refine VO.cons rfl (V1.assign rfl rfl rfl lt0 ?_)
     refine VO.nil ?_
     exact ⟨((y3.1, y2.2), b4), Option.some.inj hm2, Keeps.mk (ks := [0, 1]) rfl ⟨rfl, rfl, rfl, trivial⟩ (⟨_, _, rfl, rfl, _, _, rfl, rfl, rfl⟩) rfl⟩
    ·
     replace hm2 := cond_f hc1 hm2
     refine V.skip ?_
     exact ⟨((list0, y2.2), b2), Option.some.inj hm2, Keeps.mk (ks := [2, 1]) rfl ⟨rfl, rfl, rfl, trivial⟩ (⟨_, _, rfl, rfl, _, _, rfl, rfl, rfl⟩) rfl⟩
   ·
    rintro ⟨⟨list1, c_1⟩, b3⟩ rfl
    try dsimp only at hm1
    refine V.region ?_
    refine VO.cons rfl (V1.move rfl rfl rfl lt0 ?_)
    refine VO.cons rfl (V1.int rfl rfl rfl rfl rfl lt0 ?_)
    refine VO.cons rfl (V1.assign rfl rfl rfl lt0 ?_)
    refine VO.nil ?_
    exact ⟨(m0, (list1, (IntKind.i64.wrap (n_ - (1 : Int))), c_1), b3), hl1 _ (Option.some.inj hm1).symm, Nat.lt_succ_self _, Keeps.mk (ks := [0, 1]) rfl ⟨rfl, rfl, rfl, trivial⟩ (⟨_, _, rfl, rfl, _, _, rfl, rfl, rfl⟩) rfl⟩
  ·
   replace hm1 := cond_f hc0 hm1
   refine V.exit ?_
   obtain rfl := hr1 _ (Option.some.inj hm1).symm
   exact ⟨((list0, c_0), b2), rfl, Keeps.mk (ks := [0, 1]) rfl ⟨rfl, rfl, trivial⟩ (⟨_, _, rfl, rfl, _, _, rfl, rfl, rfl⟩) rfl⟩
 ·
  rintro ⟨⟨list, c_⟩, b1⟩ rfl
  try dsimp only at hm0
  refine V.seq ?_
  refine V.seq ?_
  replace hm0 := bindO hm0; rcases hm0 with ⟨y4, hh3, hm0⟩
  refine V.region ?_
  refine VO.cons rfl (V1.move rfl rfl rfl lt0 ?_)
  refine VO.cons rfl (V1.callM 1 (rn + ρ0 + 1) [] [.ref bp 3 0 0, .int .i64 (32 : Int)] (p := (bp, ⟨3, [encCur ρ0 c_]⟩)) rfl rfl rfl cok_59 rfl rfl ⟨_, _, rfl, .same _, ⟨_, _, rfl, .same _, rfl⟩⟩ bwNil (ok_spec_l1Cur_pick hh3) rfl (.inl rfl) lt0 ?_)
  rintro _ _ ⟨rfl, rfl⟩
  refine VO.nil ?_
  replace hm0 := bindO hm0; rcases hm0 with ⟨j1, hm1, hm0⟩
  refine V.cutT (D := (List Rule × Cur) × (Nat)) (fun ⟨⟨list2, c_2⟩, b5⟩ => ⟨48, [(3, .sref b5 4 0 (List.length list2))], [(b5, ⟨4, List.map encRule list2⟩), (bp, ⟨3, [encCur ρ0 c_2]⟩)]⟩) (fun ⟨⟨list2, c_2⟩, b5⟩ => ((list2, c_2) = j1)) ?_ ?_
  ·
   refine V.block ?_
   refine V.seq ?_
   refine V.region ?_
   refine VO.cons rfl (V1.int rfl rfl rfl rfl rfl lt0 ?_)
   refine VO.cons rfl (V1.assign rfl rfl rfl lt0 ?_)
   refine VO.nil ?_
   refine V.cond rfl (fun hc2 => ?_) (fun hc2 => ?_)
   ·
    replace hm1 := cond_t hc2 hm1
    replace hm1 := bindO hm1; rcases hm1 with ⟨y5, hh4, hm1⟩
    replace hm1 := asrt_some hm1; rcases hm1 with ⟨hh5, hm1⟩
    refine V.region ?_
    refine VO.cons rfl (V1.move rfl rfl rfl lt0 ?_)
    refine VO.cons rfl (V1.move rfl rfl rfl lt0 ?_)
    refine VO.cons rfl (V1.callM 0 (rn + ρ0 + 1) [] [.ref bp 3 0 0] (p := (bp, ⟨3, [encCur ρ0 y4.2]⟩)) rfl rfl rfl cok_61 rfl rfl ⟨_, _, rfl, .same _, rfl⟩ bwNil (ok_spec_l1Cur_rule hh4) rfl (.inl rfl) lt0 ?_)
    rintro _ _ ⟨rfl, rfl⟩
    refine VO.cons rfl (V1.buildSliceT (f := encRule) ([y5.1] : List Rule) rfl rfl esz_24 zk_50 rfl rfl rfl rfl rfl rfl rfl lt0 ?_)
    intro b6
    refine VO.cons rfl (V1.appendMap (k := 2) (f := encRule) (l := list) (m := ([y5.1] : List Rule)) rfl rfl rfl rfl rfl esz_24 eby_24 zk_50 rfl rfl rfl (SrcOf.srMap (k := 0) rfl isl_24) hh5 lt0 ?_)
    intro b7
    refine VO.cons rfl (V1.assign rfl rfl rfl lt0 ?_)
    refine VO.nil ?_
    exact ⟨(((list ++ ([y5.1] : List Rule)), y5.2), b7), Option.some.inj hm1, Keeps.mk (ks := [0, 2]) rfl ⟨rfl, trivial⟩ (⟨_, _, rfl, rfl, _, _, rfl, rfl, rfl⟩) rfl⟩
   ·
    replace hm1 := cond_f hc2 hm1
    refine V.seq ?_
    refine V.region ?_
    refine VO.cons rfl (V1.int rfl rfl rfl rfl rfl lt0 ?_)
    refine VO.cons rfl (V1.assign rfl rfl rfl lt0 ?_)
    refine VO.nil ?_
    refine V.keep 48 [0, 3, 32] [0, 1] (E0 := [(0, .ref bp 3 0 0), (3, .sref b1 4 0 (List.length list)), (32, .bool (y4.1 == (1 : Int)))]) (H0 := [(bp, ⟨3, [encCur ρ0 y4.2]⟩), (b1, ⟨4, List.map encRule list⟩)]) rfl (⟨_, _, rfl, rfl, _, _, rfl, rfl, _, _, rfl, rfl, rfl⟩) (⟨_, _, rfl, rfl, _, _, rfl, rfl, rfl⟩) rfl ?_
    refine V.cond rfl (fun hc3 => ?_) (fun hc3 => ?_)
    ·
     replace hm1 := cond_t hc3 hm1
     refine V.seq ?_
     refine V.region ?_
     refine VO.cons rfl (V1.buildSliceT (f := encRule) ([] : List Rule) rfl rfl esz_24 zk_50 rfl rfl rfl rfl rfl rfl rfl lt0 ?_)
     intro b8
     refine VO.cons rfl (V1.assign rfl rfl rfl lt0 ?_)
     refine VO.nil ?_
     replace hm1 := bindO hm1; rcases hm1 with ⟨e1, he2, hm1⟩
     refine V.cutT (D := (List Rule × Cur) × (Nat)) (fun ⟨⟨list3, c_3⟩, b9⟩ => ⟨48, [(3, .sref b9 4 0 (List.length list3))], [(b9, ⟨4, List.map encRule list3⟩), (bp, ⟨3, [encCur ρ0 c_3]⟩)]⟩) (fun ⟨⟨list3, c_3⟩, b9⟩ => ((list3, c_3) = e1)) ?_ ?_
     ·
      refine V.block ?_
      refine V.keep 48 [3, 0] [0, 1] (E0 := [(3, .sref b8 4 0 (List.length ([] : List Rule))), (0, .ref bp 3 0 0)]) (H0 := [(b8, ⟨4, List.map encRule ([] : List Rule)⟩), (bp, ⟨3, [encCur ρ0 y4.2]⟩)]) rfl (⟨_, _, rfl, rfl, _, _, rfl, rfl, rfl⟩) (⟨_, _, rfl, rfl, _, _, rfl, rfl, rfl⟩) rfl ?_
      refine V.loopE (D := Nat × (List Rule × Cur) × (Nat)) (fun ⟨n1, ⟨list4, c_4⟩, b10⟩ => [(3, .sref b10 4 0 (List.length list4))]) (fun ⟨n1, ⟨list4, c_4⟩, b10⟩ => [(b10, ⟨4, List.map encRule list4⟩), (bp, ⟨3, [encCur ρ0 c_4]⟩)]) (fun ⟨n1, ⟨list4, c_4⟩, b10⟩ => loopO (M.spec_l1Cur_schedule_l1) n1 (list4, c_4) = some e1) (fun ⟨n1, _, _⟩ => n1) (rounds, (([] : List Rule), y4.2), b8) rfl he2 ?_
      rintro ⟨n1, ⟨list4, c_4⟩, b10⟩ hP1
      obtain ⟨m1, y6, rfl, hm2, hl2, hr2⟩ := loop_head hP1
      unfold M.spec_l1Cur_schedule_l1 at hm2; dsimp only at hm2
      show V _ _ _ ⟨48, [(3, .sref b10 4 0 (List.length list4)), (0, .ref bp 3 0 0)], [(b10, ⟨4, List.map encRule list4⟩), (bp, ⟨3, [encCur ρ0 c_4]⟩)]⟩
      refine V.seq ?_
      refine V.seq ?_
      replace hm2 := bindO hm2; rcases hm2 with ⟨y7, hh6, hm2⟩
      refine V.region ?_
      refine VO.cons rfl (V1.move rfl rfl rfl lt0 ?_)
      refine VO.cons rfl (V1.lenSref rfl rfl rfl rfl rfl rfl isl_24 lt0 ?_)
      refine VO.cons rfl (V1.move rfl rfl rfl lt0 ?_)
      refine VO.cons rfl (V1.callM 1 (rn + ρ0 + 1) [] [.ref bp 3 0 0, .int .i64 (2 : Int)] (p := (bp, ⟨3, [encCur ρ0 c_4]⟩)) rfl rfl rfl cok_59 rfl rfl ⟨_, _, rfl, .same _, ⟨_, _, rfl, .same _, rfl⟩⟩ bwNil (ok_spec_l1Cur_pick hh6) rfl (.inl rfl) lt0 ?_)
      rintro _ _ ⟨rfl, rfl⟩
      refine VO.cons rfl (V1.int rfl rfl rfl rfl rfl lt0 ?_)
      refine VO.cons rfl (V1.int rfl rfl rfl rfl rfl lt0 ?_)
      refine VO.nil ?_
      refine V.keep 48 [0, 3, 40] [0, 1] (E0 := [(0, .ref bp 3 0 0), (3, .sref b10 4 0 (List.length list4)), (40, .bool (decide ((list4.length : Int) < (IntKind.i64.wrap ((8 : Int) + y7.1)))))]) (H0 := [(bp, ⟨3, [encCur ρ0 y7.2]⟩), (b10, ⟨4, List.map encRule list4⟩)]) rfl (⟨_, _, rfl, rfl, _, _, rfl, rfl, _, _, rfl, rfl, rfl⟩) (⟨_, _, rfl, rfl, _, _, rfl, rfl, rfl⟩) rfl ?_
      refine V.cond rfl (fun hc4 => ?_) (fun hc4 => ?_)
      ·
       replace hm2 := cond_t hc4 hm2
       refine V.skip ?_
       refine V.block ?_
       replace hm2 := asrt_some hm2; rcases hm2 with ⟨hh7, hm2⟩
       refine V.region ?_
       refine VO.cons rfl (V1.move rfl rfl rfl lt0 ?_)
       refine VO.cons rfl (V1.move rfl rfl rfl lt0 ?_)
       refine VO.cons rfl (V1.lenSref rfl rfl rfl rfl rfl rfl isl_24 lt0 ?_)
       refine VO.cons rfl (V1.build rfl rfl zk_50 pl_50 rfl rfl lt0 ?_)
       refine VO.cons rfl (V1.buildSliceT (f := encRule) ([(⟨(1 : Int), (list4.length : Int), (5 : Int), (3 : Int)⟩ : Rule)] : List Rule) rfl rfl esz_24 zk_50 rfl rfl rfl rfl rfl rfl rfl lt0 ?_)
       intro b11
       refine VO.cons rfl (V1.appendMap (k := 2) (f := encRule) (l := list4) (m := ([(⟨(1 : Int), (list4.length : Int), (5 : Int), (3 : Int)⟩ : Rule)] : List Rule)) rfl rfl rfl rfl rfl esz_24 eby_24 zk_50 rfl rfl rfl (SrcOf.srMap (k := 0) rfl isl_24) hh7 lt0 ?_)
       intro b12
       refine VO.cons rfl (V1.assign rfl rfl rfl lt0 ?_)
       refine VO.nil ?_
       exact ⟨(m1, ((list4 ++ ([(⟨(1 : Int), (list4.length : Int), (5 : Int), (3 : Int)⟩ : Rule)] : List Rule)), y7.2), b12), hl2 _ (Option.some.inj hm2).symm, Nat.lt_succ_self _, Keeps.mk (ks := [0, 2]) rfl ⟨rfl, rfl, trivial⟩ (⟨_, _, rfl, rfl, _, _, rfl, rfl, rfl⟩) rfl⟩
      ·
       replace hm2 := cond_f hc4 hm2
       refine V.exit ?_
       obtain rfl := hr2 _ (Option.some.inj hm2).symm
       exact ⟨((list4, y7.2), b10), rfl, Keeps.mk (ks := [1, 0]) rfl ⟨rfl, trivial⟩ (⟨_, _, rfl, rfl, _, _, rfl, rfl, rfl⟩) rfl⟩
     ·
      rintro ⟨⟨list3, c_3⟩, b9⟩ rfl
      try dsimp only at hm1
      exact ⟨((list3, c_3), b9), Option.some.inj hm1, Keeps.mk (ks := [0, 1]) rfl ⟨rfl, trivial⟩ (⟨_, _, rfl, rfl, _, _, rfl, rfl, rfl⟩) rfl⟩
    ·
     replace hm1 := cond_f hc3 hm1
     refine V.skip ?_
     exact ⟨((list, y4.2), b1), Option.some.inj hm1, Keeps.mk (ks := [1, 0]) rfl ⟨rfl, trivial⟩ (⟨_, _, rfl, rfl, _, _, rfl, rfl, rfl⟩) rfl⟩
  ·
   rintro ⟨⟨list2, c_2⟩, b5⟩ rfl
   try dsimp only at hm0
   refine V.seq ?_
   refine V.region ?_
   refine VO.cons rfl (V1.move rfl rfl rfl lt0 ?_)
   refine VO.cons rfl (V1.assign rfl rfl rfl lt0 ?_)
   refine VO.nil ?_
   refine V.keep 48 [2] [0, 1] (E0 := [(2, .sref b5 4 0 (List.length list2))]) (H0 := [(b5, ⟨4, List.map encRule list2⟩), (bp, ⟨3, [encCur ρ0 c_2]⟩)]) rfl (⟨_, _, rfl, rfl, rfl⟩) (⟨_, _, rfl, rfl, _, _, rfl, rfl, rfl⟩) rfl ?_
   refine V.ret ?_
   obtain rfl := Option.some.inj hm0
   exact ⟨_, _, ⟨_, _, rfl, rfl, rfl⟩, List.Sublist.refl _, b5, rfl, rfl⟩

theorem ok_spec_DrawIsSchedule {ρ0 rn : Nat} {code : List Int} {r : List Rule} (h : M.spec_DrawIsSchedule code = some r) : Does Tryz.prog 19 [.vl ρ0 1 (List.map encU8 code)] [] rn (fun x H => ∃ (ob0_ : Nat), x = PV.sref ob0_ 4 0 (List.length r) ∧ H = [(ob0_, ⟨4, List.map encRule r⟩)]) := by
 have hm0 := h; clear h; unfold M.spec_DrawIsSchedule at hm0
 try dsimp only at hm0
 refine Does.intro (N := 9) Tryz.func19 rfl rfl rfl rfl ?_
 intro w0 S0 L0
 refine V.seq ?_
 refine V.region ?_
 refine VO.cons rfl (V1.assign rfl rfl rfl lt0 ?_)
 refine VO.nil ?_
 refine V.seq ?_
 refine V.region ?_
 refine VO.cons rfl (V1.move rfl rfl rfl lt0 ?_)
 refine VO.cons rfl (V1.build rfl rfl zk_56 pl_56 rfl rfl lt0 ?_)
 refine VO.cons rfl (V1.boxN (n := 3) rfl rfl rfl rfl rfl lt0 ?_)
 intro b0
 refine VO.cons rfl (V1.assign rfl rfl rfl lt0 ?_)
 refine VO.nil ?_
 refine V.keep 9 [3] [0] (E0 := [(3, .ref b0 3 0 0)]) (H0 := [(b0, ⟨3, [.agg [.vl ρ0 1 (List.map encU8 code), .int .i64 (0 : Int), .int .u64 (0 : Int)]]⟩)]) rfl (⟨_, _, rfl, rfl, rfl⟩) (⟨_, _, rfl, rfl, rfl⟩) rfl ?_
 refine V.seq ?_
 replace hm0 := bindO hm0; rcases hm0 with ⟨y0, hh0, hm0⟩
 refine V.region ?_
 refine VO.cons rfl (V1.move rfl rfl rfl lt0 ?_)
 refine VO.cons rfl (V1.callM 0 (rn + ρ0 + 1) [] [.ref b0 3 0 0] (p := (b0, ⟨3, [.agg [.vl ρ0 1 (List.map encU8 code), .int .i64 (0 : Int), .int .u64 (0 : Int)]]⟩)) rfl rfl rfl cok_30 rfl rfl ⟨_, _, rfl, .same _, rfl⟩ bwNil (ok_spec_l1Cur_schedule hh0) rfl (.inl rfl) lt0 ?_)
 rintro _ _ ⟨b1, rfl, rfl⟩
 refine VO.cons rfl (V1.assign rfl rfl rfl lt0 ?_)
 refine VO.nil ?_
 refine V.keep 9 [2] [0] (E0 := [(2, .sref b1 4 0 (List.length y0.1))]) (H0 := [(b1, ⟨4, List.map encRule y0.1⟩)]) rfl (⟨_, _, rfl, rfl, rfl⟩) (⟨_, _, rfl, rfl, rfl⟩) rfl ?_
 refine V.ret ?_
 obtain rfl := Option.some.inj hm0
 exact ⟨_, _, ⟨_, _, rfl, rfl, rfl⟩, List.Sublist.refl _, b1, rfl, rfl⟩

theorem ok_spec_DrawScheduleText {ρ0 rn : Nat} {code : List Int} {r : List Rule} (h : M.spec_DrawScheduleText code = some r) : Does Tryz.prog 5 [.vl ρ0 1 (List.map encU8 code)] [] rn (fun x H => ∃ (ob0_ : Nat), x = PV.sref ob0_ 4 0 (List.length r) ∧ H = [(ob0_, ⟨4, List.map encRule r⟩)]) := by
 have hm0 := h; clear h; unfold M.spec_DrawScheduleText at hm0
 try dsimp only at hm0
 refine Does.intro (N := 5) Tryz.func5 rfl rfl rfl rfl ?_
 intro w0 S0 L0
 refine V.seq ?_
 refine V.region ?_
 refine VO.cons rfl (V1.assign rfl rfl rfl lt0 ?_)
 refine VO.nil ?_
 refine V.seq ?_
 replace hm0 := bindO hm0; rcases hm0 with ⟨y0, hh0, hm0⟩
 refine V.region ?_
 refine VO.cons rfl (V1.move rfl rfl rfl lt0 ?_)
 refine VO.cons rfl (V1.call rfl rfl rfl cok_19 rfl (ok_spec_DrawIsSchedule hh0) rfl lt0 ?_)
 rintro _ _ ⟨b0, rfl, rfl⟩
 refine VO.cons rfl (V1.assign rfl rfl rfl lt0 ?_)
 refine VO.nil ?_
 refine V.keep 5 [2] [0] (E0 := [(2, .sref b0 4 0 (List.length y0))]) (H0 := [(b0, ⟨4, List.map encRule y0⟩)]) rfl (⟨_, _, rfl, rfl, rfl⟩) (⟨_, _, rfl, rfl, rfl⟩) rfl ?_
 refine V.ret ?_
 obtain rfl := Option.some.inj hm0
 exact ⟨_, _, ⟨_, _, rfl, rfl, rfl⟩, List.Sublist.refl _, b0, rfl, rfl⟩

theorem ok_impl_within {rn : Nat} {n : Int} {low : Int} {high : Int} {r : Bool} (h : M.impl_within n low high = some r) : Does Tryz.prog 55 [.int .i64 n, .int .i64 low, .int .i64 high] [] rn (fun x H => x = .bool r ∧ H = []) := by
 have hm0 := h; clear h; unfold M.impl_within at hm0
 try dsimp only at hm0
 refine Does.intro (N := 15) Tryz.func55 rfl rfl rfl rfl ?_
 intro w0 S0 L0
 refine V.seq ?_
 refine V.region ?_
 refine VO.cons rfl (V1.assign rfl rfl rfl lt0 ?_)
 refine VO.nil ?_
 refine V.seq ?_
 refine V.region ?_
 refine VO.cons rfl (V1.move rfl rfl rfl lt0 ?_)
 refine VO.cons rfl (V1.move rfl rfl rfl lt0 ?_)
 refine VO.cons rfl (V1.int rfl rfl rfl rfl rfl lt0 ?_)
 refine VO.cons rfl (V1.move rfl rfl rfl lt0 ?_)
 apply VO.and (n := 3) rfl rfl rfl rfl rfl rfl lt0 (.none rfl)
 ·
  intro hg0
  refine VO.step (.some rfl rfl rfl) (V1.move rfl rfl rfl lt0 ?_)
  refine VO.step (.some rfl rfl rfl) (V1.move rfl rfl rfl lt0 ?_)
  refine VO.step (.some rfl rfl rfl) (V1.int rfl rfl rfl rfl rfl lt0 ?_)
  exact VO.nil ⟨rfl, rfl, rfl, rfl, .inr ⟨rfl, .inr ⟨rfl, .inr ⟨rfl, .inr ⟨rfl, .inl rfl⟩⟩⟩⟩⟩
 refine VO.cons rfl (V1.assign rfl rfl rfl lt0 ?_)
 refine VO.nil ?_
 refine V.ret ?_
 obtain rfl := Option.some.inj hm0
 exact ⟨_, [], ⟨_, _, rfl, rfl, rfl⟩, List.nil_sublist _, rfl, rfl⟩

theorem ok_impl_isId {rn : Nat} {id_ : Int} {r : Bool} (h : M.impl_isId id_ = some r) : Does Tryz.prog 37 [.int .i64 id_] [] rn (fun x H => x = .bool r ∧ H = []) := by
 have hm0 := h; clear h; unfold M.impl_isId at hm0
 try dsimp only at hm0
 refine Does.intro (N := 5) Tryz.func37 rfl rfl rfl rfl ?_
 intro w0 S0 L0
 refine V.seq ?_
 refine V.region ?_
 refine VO.cons rfl (V1.assign rfl rfl rfl lt0 ?_)
 refine VO.nil ?_
 refine V.seq ?_
 replace hm0 := bindO hm0; rcases hm0 with ⟨y0, hh0, hm0⟩
 refine V.region ?_
 refine VO.cons rfl (V1.move rfl rfl rfl lt0 ?_)
 refine VO.cons rfl (V1.call rfl rfl rfl cok_55 rfl (ok_impl_within hh0) rfl lt0 ?_)
 rintro _ _ ⟨rfl, rfl⟩
 refine VO.cons rfl (V1.assign rfl rfl rfl lt0 ?_)
 refine VO.nil ?_
 refine V.ret ?_
 obtain rfl := Option.some.inj hm0
 exact ⟨_, [], ⟨_, _, rfl, rfl, rfl⟩, List.nil_sublist _, rfl, rfl⟩

theorem ok_impl_isAct {rn : Nat} {act : Int} {r : Bool} (h : M.impl_isAct act = some r) : Does Tryz.prog 56 [.int .i64 act] [] rn (fun x H => x = .bool r ∧ H = []) := by
 have hm0 := h; clear h; unfold M.impl_isAct at hm0
 try dsimp only at hm0
 refine Does.intro (N := 5) Tryz.func56 rfl rfl rfl rfl ?_
 intro w0 S0 L0
 refine V.seq ?_
 refine V.region ?_
 refine VO.cons rfl (V1.assign rfl rfl rfl lt0 ?_)
 refine VO.nil ?_
 refine V.seq ?_
 replace hm0 := bindO hm0; rcases hm0 with ⟨y0, hh0, hm0⟩
 refine V.region ?_
 refine VO.cons rfl (V1.move rfl rfl rfl lt0 ?_)
 refine VO.cons rfl (V1.call rfl rfl rfl cok_55 rfl (ok_impl_within hh0) rfl lt0 ?_)
 rintro _ _ ⟨rfl, rfl⟩
 refine VO.cons rfl (V1.assign rfl rfl rfl lt0 ?_)
 refine VO.nil ?_
 refine V.ret ?_
 obtain rfl := Option.some.inj hm0
 exact ⟨_, [], ⟨_, _, rfl, rfl, rfl⟩, List.nil_sublist _, rfl, rfl⟩

theorem ok_impl_IsRule {rn : Nat} {r_ : Rule} {r : Bool} (h : M.impl_IsRule r_ = some r) : Does Tryz.prog 28 [encRule r_] [] rn (fun x H => x = .bool r ∧ H = []) := by
 have hm0 := h; clear h; unfold M.impl_IsRule at hm0
 try dsimp only at hm0
 refine Does.intro (N := 21) Tryz.func28 rfl rfl rfl rfl ?_
 intro w0 S0 L0
 refine V.seq ?_
 refine V.region ?_
 refine VO.cons rfl (V1.boxN (n := 4) rfl rfl rfl rfl rfl lt0 ?_)
 intro b0
 refine VO.cons rfl (V1.assign rfl rfl rfl lt0 ?_)
 refine VO.nil ?_
 refine V.seq ?_
 replace hm0 := bindO hm0; rcases hm0 with ⟨y0, hh0, hm0⟩
 replace hm0 := bindO hm0; rcases hm0 with ⟨y1, hh1, hm0⟩
 replace hm0 := bindO hm0; rcases hm0 with ⟨y2, hh2, hm0⟩
 replace hm0 := bindO hm0; rcases hm0 with ⟨y3, hh3, hm0⟩
 refine V.region ?_
 refine VO.cons rfl (V1.fieldRef rfl rfl fo_50_0 rfl lt0 ?_)
 refine VO.cons rfl (V1.loadRef (k := 0) rfl rfl tyk_3 rfl rfl rfl rfl rfl lt0 ?_)
 refine VO.cons rfl (V1.call rfl rfl rfl cok_37 rfl (ok_impl_isId hh0) rfl lt0 ?_)
 rintro _ _ ⟨rfl, rfl⟩
 refine VO.cons rfl (V1.move rfl rfl rfl lt0 ?_)
 apply VO.and (n := 3) rfl rfl rfl rfl rfl rfl lt0 (.none rfl)
 ·
  intro hg0
  refine VO.step (.some rfl rfl rfl) (V1.fieldRef rfl rfl fo_50_1 rfl lt0 ?_)
  refine VO.step (.some rfl rfl rfl) (V1.loadRef (k := 0) rfl rfl tyk_3 rfl rfl rfl rfl rfl lt0 ?_)
  refine VO.step (.some rfl rfl rfl) (V1.call rfl rfl rfl cok_55 rfl (ok_impl_within (cond_t hg0 hh1)) rfl lt0 ?_)
  rintro _ _ ⟨rfl, rfl⟩
  exact VO.nil ⟨rfl, rfl, rfl, rfl, .inr ⟨rfl, .inr ⟨rfl, .inr ⟨rfl, .inr ⟨rfl, .inl rfl⟩⟩⟩⟩⟩
 refine VO.cons rfl (V1.move rfl rfl rfl lt0 ?_)
 apply VO.and (n := 3) rfl rfl rfl rfl rfl rfl lt0 (.none rfl)
 ·
  intro hg1
  refine VO.step (.some rfl rfl rfl) (V1.fieldRef rfl rfl fo_50_2 rfl lt0 ?_)
  refine VO.step (.some rfl rfl rfl) (V1.loadRef (k := 0) rfl rfl tyk_3 rfl rfl rfl rfl rfl lt0 ?_)
  refine VO.step (.some rfl rfl rfl) (V1.call rfl rfl rfl cok_55 rfl (ok_impl_within (cond_t hg1 hh2)) rfl lt0 ?_)
  rintro _ _ ⟨rfl, rfl⟩
  exact VO.nil ⟨rfl, rfl, rfl, rfl, .inr ⟨rfl, .inr ⟨rfl, .inr ⟨rfl, .inr ⟨rfl, .inl rfl⟩⟩⟩⟩⟩
 refine VO.cons rfl (V1.move rfl rfl rfl lt0 ?_)
 apply VO.and (n := 3) rfl rfl rfl rfl rfl rfl lt0 (.none rfl)
 ·
  intro hg2
  refine VO.step (.some rfl rfl rfl) (V1.fieldRef rfl rfl fo_50_3 rfl lt0 ?_)
  refine VO.step (.some rfl rfl rfl) (V1.loadRef (k := 0) rfl rfl tyk_3 rfl rfl rfl rfl rfl lt0 ?_)
  refine VO.step (.some rfl rfl rfl) (V1.call rfl rfl rfl cok_56 rfl (ok_impl_isAct (cond_t hg2 hh3)) rfl lt0 ?_)
  rintro _ _ ⟨rfl, rfl⟩
  exact VO.nil ⟨rfl, rfl, rfl, rfl, .inr ⟨rfl, .inr ⟨rfl, .inr ⟨rfl, .inr ⟨rfl, .inl rfl⟩⟩⟩⟩⟩
 refine VO.cons rfl (V1.assign rfl rfl rfl lt0 ?_)
 refine VO.nil ?_
 refine V.ret ?_
 obtain rfl := Option.some.inj hm0
 exact ⟨_, [], ⟨_, _, rfl, rfl, rfl⟩, List.nil_sublist _, rfl, rfl⟩

theorem ok_cmp_isNaN_int {rn : Nat} {x : Int} {r : Bool} (h : M.cmp_isNaN_int x = some r) : Does Tryz.prog 80 [.int .i64 x] [] rn (fun x H => x = .bool r ∧ H = []) := by
 have hm0 := h; clear h; unfold M.cmp_isNaN_int at hm0
 try dsimp only at hm0
 refine Does.intro (N := 6) Tryz.func80 rfl rfl rfl rfl ?_
 intro w0 S0 L0
 refine V.seq ?_
 refine V.region ?_
 refine VO.cons rfl (V1.assign rfl rfl rfl lt0 ?_)
 refine VO.nil ?_
 refine V.seq ?_
 refine V.region ?_
 refine VO.cons rfl (V1.move rfl rfl rfl lt0 ?_)
 refine VO.cons rfl (V1.move rfl rfl rfl lt0 ?_)
 refine VO.cons rfl (V1.int rfl rfl rfl rfl rfl lt0 ?_)
 refine VO.cons rfl (V1.assign rfl rfl rfl lt0 ?_)
 refine VO.nil ?_
 refine V.ret ?_
 obtain rfl := Option.some.inj hm0
 exact ⟨_, [], ⟨_, _, rfl, rfl, rfl⟩, List.nil_sublist _, rfl, rfl⟩

theorem ok_cmp_Compare_int {rn : Nat} {x : Int} {y : Int} {r : Int} (h : M.cmp_Compare_int x y = some r) : Does Tryz.prog 58 [.int .i64 x, .int .i64 y] [] rn (fun x H => x = .int .i64 r ∧ H = []) := by
 have hm0 := h; clear h; unfold M.cmp_Compare_int at hm0
 try dsimp only at hm0
 refine Does.intro (N := 20) Tryz.func58 rfl rfl rfl rfl ?_
 intro w0 S0 L0
 refine V.seq ?_
 refine V.region ?_
 refine VO.cons rfl (V1.assign rfl rfl rfl lt0 ?_)
 refine VO.nil ?_
 refine V.seq ?_
 replace hm0 := bindO hm0; rcases hm0 with ⟨y0, hh0, hm0⟩
 refine V.region ?_
 refine VO.cons rfl (V1.move rfl rfl rfl lt0 ?_)
 refine VO.cons rfl (V1.call rfl rfl rfl cok_80 rfl (ok_cmp_isNaN_int hh0) rfl lt0 ?_)
 rintro _ _ ⟨rfl, rfl⟩
 refine VO.cons rfl (V1.assign rfl rfl rfl lt0 ?_)
 refine VO.nil ?_
 refine V.seq ?_
 replace hm0 := bindO hm0; rcases hm0 with ⟨y1, hh1, hm0⟩
 refine V.region ?_
 refine VO.cons rfl (V1.move rfl rfl rfl lt0 ?_)
 refine VO.cons rfl (V1.call rfl rfl rfl cok_80 rfl (ok_cmp_isNaN_int hh1) rfl lt0 ?_)
 rintro _ _ ⟨rfl, rfl⟩
 refine VO.cons rfl (V1.assign rfl rfl rfl lt0 ?_)
 refine VO.nil ?_
 refine V.keep 20 [0, 1, 5, 6] [] (E0 := [(0, .int .i64 x), (1, .int .i64 y), (5, .bool y0), (6, .bool y1)]) (H0 := []) rfl (⟨_, _, rfl, rfl, _, _, rfl, rfl, _, _, rfl, rfl, _, _, rfl, rfl, rfl⟩) (rfl) rfl ?_
 refine V.seq ?_
 refine V.seq ?_
 refine V.region ?_
 refine VO.cons rfl (V1.move rfl rfl rfl lt0 ?_)
 refine VO.nil ?_
 refine V.cond rfl (fun hc0 => ?_) (fun hc0 => ?_)
 ·
  replace hm0 := cond_t hc0 hm0
  refine V.seq ?_
  refine V.seq ?_
  refine V.region ?_
  refine VO.cons rfl (V1.move rfl rfl rfl lt0 ?_)
  refine VO.nil ?_
  refine V.keep 20 [12] [] (E0 := [(12, .bool y1)]) (H0 := []) rfl (⟨_, _, rfl, rfl, rfl⟩) (rfl) rfl ?_
  refine V.cond rfl (fun hc1 => ?_) (fun hc1 => ?_)
  ·
   replace hm0 := cond_t hc1 hm0
   refine V.seq ?_
   refine V.region ?_
   refine VO.cons rfl (V1.assign rfl rfl rfl lt0 ?_)
   refine VO.nil ?_
   refine V.ret ?_
   obtain rfl := Option.some.inj hm0
   exact ⟨_, [], ⟨_, _, rfl, rfl, rfl⟩, List.nil_sublist _, rfl, rfl⟩
  ·
   replace hm0 := cond_f hc1 hm0
   refine V.skip ?_
   refine V.seq ?_
   refine V.region ?_
   refine VO.cons rfl (V1.assign rfl rfl rfl lt0 ?_)
   refine VO.nil ?_
   refine V.ret ?_
   obtain rfl := Option.some.inj hm0
   exact ⟨_, [], ⟨_, _, rfl, rfl, rfl⟩, List.nil_sublist _, rfl, rfl⟩
 ·
  replace hm0 := cond_f hc0 hm0
  refine V.skip ?_
  refine V.seq ?_
  refine V.seq ?_
  refine V.region ?_
  refine VO.cons rfl (V1.move rfl rfl rfl lt0 ?_)
  refine VO.nil ?_
  refine V.cond rfl (fun hc2 => ?_) (fun hc2 => ?_)
  ·
   replace hm0 := cond_t hc2 hm0
   refine V.seq ?_
   refine V.region ?_
   refine VO.cons rfl (V1.assign rfl rfl rfl lt0 ?_)
   refine VO.nil ?_
   refine V.ret ?_
   obtain rfl := Option.some.inj hm0
   exact ⟨_, [], ⟨_, _, rfl, rfl, rfl⟩, List.nil_sublist _, rfl, rfl⟩
  ·
   replace hm0 := cond_f hc2 hm0
   refine V.skip ?_
   refine V.keep 20 [0, 1] [] (E0 := [(0, .int .i64 x), (1, .int .i64 y)]) (H0 := []) rfl (⟨_, _, rfl, rfl, _, _, rfl, rfl, rfl⟩) (rfl) rfl ?_
   refine V.seq ?_
   refine V.seq ?_
   refine V.region ?_
   refine VO.cons rfl (V1.move rfl rfl rfl lt0 ?_)
   refine VO.cons rfl (V1.move rfl rfl rfl lt0 ?_)
   refine VO.cons rfl (V1.int rfl rfl rfl rfl rfl lt0 ?_)
   refine VO.nil ?_
   refine V.cond rfl (fun hc3 => ?_) (fun hc3 => ?_)
   ·
    replace hm0 := cond_t hc3 hm0
    refine V.seq ?_
    refine V.region ?_
    refine VO.cons rfl (V1.assign rfl rfl rfl lt0 ?_)
    refine VO.nil ?_
    refine V.ret ?_
    obtain rfl := Option.some.inj hm0
    exact ⟨_, [], ⟨_, _, rfl, rfl, rfl⟩, List.nil_sublist _, rfl, rfl⟩
   ·
    replace hm0 := cond_f hc3 hm0
    refine V.skip ?_
    refine V.seq ?_
    refine V.seq ?_
    refine V.region ?_
    refine VO.cons rfl (V1.move rfl rfl rfl lt0 ?_)
    refine VO.cons rfl (V1.move rfl rfl rfl lt0 ?_)
    refine VO.cons rfl (V1.int rfl rfl rfl rfl rfl lt0 ?_)
    refine VO.nil ?_
    refine V.keep 20 [19] [] (E0 := [(19, .bool (decide (x > y)))]) (H0 := []) rfl (⟨_, _, rfl, rfl, rfl⟩) (rfl) rfl ?_
    refine V.cond rfl (fun hc4 => ?_) (fun hc4 => ?_)
    ·
     replace hm0 := cond_t hc4 hm0
     refine V.seq ?_
     refine V.region ?_
     refine VO.cons rfl (V1.assign rfl rfl rfl lt0 ?_)
     refine VO.nil ?_
     refine V.ret ?_
     obtain rfl := Option.some.inj hm0
     exact ⟨_, [], ⟨_, _, rfl, rfl, rfl⟩, List.nil_sublist _, rfl, rfl⟩
    ·
     replace hm0 := cond_f hc4 hm0
     refine V.skip ?_
     refine V.seq ?_
     refine V.region ?_
     refine VO.cons rfl (V1.assign rfl rfl rfl lt0 ?_)
     refine VO.nil ?_
     refine V.ret ?_
     obtain rfl := Option.some.inj hm0
     exact ⟨_, [], ⟨_, _, rfl, rfl, rfl⟩, List.nil_sublist _, rfl, rfl⟩

theorem ok_cmp_Or_int {ρ0 rn : Nat} {vals : List Int} {r : Int} (h : M.cmp_Or_int vals = some r) : Does Tryz.prog 57 [.vl ρ0 1 (List.map encInt vals)] [] rn (fun x H => x = .int .i64 r ∧ H = []) := by
 have hm0 := h; clear h; unfold M.cmp_Or_int at hm0
 try dsimp only at hm0
 refine Does.intro (N := 18) Tryz.func57 rfl rfl rfl rfl ?_
 intro w0 S0 L0
 refine V.seq ?_
 refine V.region ?_
 refine VO.cons rfl (V1.assign rfl rfl rfl lt0 ?_)
 refine VO.nil ?_
 refine V.seq ?_
 refine V.region ?_
 refine VO.cons rfl (V1.assign rfl rfl rfl lt0 ?_)
 refine VO.nil ?_
 refine V.seq ?_
 refine V.seq ?_
 refine V.region ?_
 refine VO.cons rfl (V1.move rfl rfl rfl lt0 ?_)
 refine VO.cons rfl (V1.lenMap rfl rfl rfl rfl rfl rfl isl_33 lt0 ?_)
 refine VO.cons rfl (V1.move rfl rfl rfl lt0 ?_)
 refine VO.nil ?_
 replace hm0 := bindO hm0; rcases hm0 with ⟨e0, he1, hm0⟩
 refine V.cutT (D := (Unit) × (Unit)) (fun ⟨_, _⟩ => ⟨18, [(3, .int .i64 (0 : Int))], []⟩) (fun ⟨_, _⟩ => (.inl () = e0)) ?_ ?_
 ·
  refine V.block ?_
  refine V.keep 18 [8, 3, 6, 7] [] (E0 := [(8, .int .i64 (0 : Int)), (3, .int .i64 (0 : Int)), (6, .vl ρ0 1 (List.map encInt vals)), (7, .int .i64 (vals.length : Int))]) (H0 := []) rfl (⟨_, _, rfl, rfl, _, _, rfl, rfl, _, _, rfl, rfl, _, _, rfl, rfl, rfl⟩) (rfl) rfl ?_
  refine V.loopE (D := Nat × (Int) × (Unit)) (fun ⟨n0, v, _⟩ => [(8, .int .i64 v)]) (fun ⟨n0, v, _⟩ => []) (fun ⟨n0, v, _⟩ => loopO (M.cmp_Or_int_l0 vals) n0 v = some e0) (fun ⟨n0, _, _⟩ => n0) (rounds, (0 : Int), ()) rfl he1 ?_
  rintro ⟨n0, v, _⟩ hP0
  obtain ⟨m0, y0, rfl, hm1, hl1, hr1⟩ := loop_head hP0
  unfold M.cmp_Or_int_l0 at hm1; dsimp only at hm1
  show V _ _ _ ⟨18, [(8, .int .i64 v), (3, .int .i64 (0 : Int)), (6, .vl ρ0 1 (List.map encInt vals)), (7, .int .i64 (vals.length : Int))], []⟩
  refine V.seq ?_
  refine V.region ?_
  refine VO.cons rfl (V1.int rfl rfl rfl rfl rfl lt0 ?_)
  refine VO.nil ?_
  refine V.seq ?_
  refine V.cond rfl (fun hc0 => ?_) (fun hc0 => ?_)
  ·
   replace hm1 := cond_t hc0 hm1
   refine V.skip ?_
   refine V.seq ?_
   refine V.block ?_
   refine V.seq ?_
   replace hm1 := asrt_some hm1; rcases hm1 with ⟨hh0, hm1⟩
   refine V.region ?_
   refine VO.cons rfl (V1.indexI rfl rfl esz_33 rfl rfl hh0 lt0 ?_)
   refine VO.cons rfl (V1.loadPin rfl rfl tyk_3 rfl rfl lt0 ?_)
   refine VO.cons rfl (V1.assign rfl rfl rfl lt0 ?_)
   refine VO.nil ?_
   refine V.seq ?_
   refine V.region ?_
   refine VO.cons rfl (V1.move rfl rfl rfl lt0 ?_)
   refine VO.cons rfl (V1.move rfl rfl rfl lt0 ?_)
   refine VO.cons rfl (V1.int rfl rfl rfl rfl rfl lt0 ?_)
   refine VO.nil ?_
   refine V.keep 18 [3, 5, 6, 7, 8, 14] [] (E0 := [(3, .int .i64 (0 : Int)), (5, .int .i64 (vals.getD (Int.toNat v) default)), (6, .vl ρ0 1 (List.map encInt vals)), (7, .int .i64 (vals.length : Int)), (8, .int .i64 v), (14, .bool ((vals.getD (Int.toNat v) default) != (0 : Int)))]) (H0 := []) rfl (⟨_, _, rfl, rfl, _, _, rfl, rfl, _, _, rfl, rfl, _, _, rfl, rfl, _, _, rfl, rfl, _, _, rfl, rfl, rfl⟩) (rfl) rfl ?_
   refine V.cond rfl (fun hc1 => ?_) (fun hc1 => ?_)
   ·
    replace hm1 := cond_t hc1 hm1
    refine V.seq ?_
    refine V.region ?_
    refine VO.cons rfl (V1.move rfl rfl rfl lt0 ?_)
    refine VO.cons rfl (V1.assign rfl rfl rfl lt0 ?_)
    refine VO.nil ?_
    refine V.ret ?_
    obtain rfl := hr1 _ (Option.some.inj hm1).symm
    change some _ = some _ at hm0
    obtain rfl := Option.some.inj hm0
    exact ⟨_, [], ⟨_, _, rfl, rfl, rfl⟩, List.nil_sublist _, rfl, rfl⟩
   ·
    replace hm1 := cond_f hc1 hm1
    refine V.skip ?_
    refine V.region ?_
    refine VO.cons rfl (V1.int rfl rfl rfl rfl rfl lt0 ?_)
    refine VO.cons rfl (V1.move rfl rfl rfl lt0 ?_)
    refine VO.nil ?_
    exact ⟨(m0, (IntKind.i64.wrap (v + (1 : Int))), ()), hl1 _ (Option.some.inj hm1).symm, Nat.lt_succ_self _, Keeps.mk (ks := []) rfl ⟨rfl, rfl, rfl, rfl, trivial⟩ (rfl) rfl⟩
  ·
   replace hm1 := cond_f hc0 hm1
   refine V.exit ?_
   obtain rfl := hr1 _ (Option.some.inj hm1).symm
   exact ⟨((), ()), rfl, Keeps.mk (ks := []) rfl ⟨rfl, trivial⟩ (rfl) rfl⟩
 ·
  rintro ⟨_, _⟩ rfl
  try dsimp only at hm0
  refine V.seq ?_
  refine V.region ?_
  refine VO.cons rfl (V1.move rfl rfl rfl lt0 ?_)
  refine VO.cons rfl (V1.assign rfl rfl rfl lt0 ?_)
  refine VO.nil ?_
  refine V.ret ?_
  obtain rfl := Option.some.inj hm0
  exact ⟨_, [], ⟨_, _, rfl, rfl, rfl⟩, List.nil_sublist _, rfl, rfl⟩

theorem ok_impl_compareRules {rn : Nat} {a : Rule} {b_ : Rule} {r : Int} (h : M.impl_compareRules a b_ = some r) : Does Tryz.prog 29 [encRule a, encRule b_] [] rn (fun x H => x = .int .i64 r ∧ H = []) := by
 have hm0 := h; clear h; unfold M.impl_compareRules at hm0
 try dsimp only at hm0
 refine Does.intro (N := 17) Tryz.func29 rfl rfl rfl rfl ?_
 intro w0 S0 L0
 refine V.seq ?_
 refine V.region ?_
 refine VO.cons rfl (V1.boxN (n := 4) rfl rfl rfl rfl rfl lt0 ?_)
 intro b0
 refine VO.cons rfl (V1.boxN (n := 4) rfl rfl rfl rfl rfl lt0 ?_)
 intro b1
 refine VO.cons rfl (V1.assign rfl rfl rfl lt0 ?_)
 refine VO.nil ?_
 refine V.seq ?_
 replace hm0 := bindO hm0; rcases hm0 with ⟨y0, hh0, hm0⟩
 replace hm0 := bindO hm0; rcases hm0 with ⟨y1, hh1, hm0⟩
 replace hm0 := bindO hm0; rcases hm0 with ⟨y2, hh2, hm0⟩
 refine V.regionM 17 9 [⟨[(2, none)], [], none⟩, ⟨[(5, some 0)], [], none⟩, ⟨[(3, none)], [], none⟩, ⟨[(7, some 0)], [], none⟩, ⟨[(6, some 2), (8, some 0)], [], none⟩, ⟨[(2, none)], [], none⟩, ⟨[(10, some 0)], [], none⟩, ⟨[(3, none)], [], none⟩, ⟨[(12, some 0)], [], none⟩] [(9, some 4), (11, some 2), (13, some 0)] (⟨_, rfl, ⟨_, rfl, ⟨_, rfl, ⟨_, rfl, ⟨_, rfl, ⟨_, rfl, ⟨_, rfl, ⟨_, rfl, ⟨_, rfl, ⟨rfl, rfl⟩⟩⟩⟩⟩⟩⟩⟩⟩⟩) mixed_orders rfl (by decide +kernel) (fun hck1 => ?_)
 refine VP.step (p := ?pv34) rfl rfl rfl (⟨_, _, rfl, rfl, rfl⟩) ?hv34 ?rest34 hck1
 case hv34 =>
  intro E1
  refine (V1.fieldRef rfl rfl fo_50_0 rfl lt0 ?_)
  exact rfl
 refine VP.step (p := ?pv35) rfl rfl rfl (⟨_, _, rfl, rfl, rfl⟩) ?hv35 ?rest35 hck1
 case hv35 =>
  intro E1
  refine (V1.loadRef (k := 1) rfl rfl tyk_3 rfl rfl rfl rfl rfl lt0 ?_)
  exact rfl
 refine VP.step (p := ?pv36) rfl rfl rfl (⟨_, _, rfl, rfl, rfl⟩) ?hv36 ?rest36 hck1
 case hv36 =>
  intro E1
  refine (V1.fieldRef rfl rfl fo_50_0 rfl lt0 ?_)
  exact rfl
 refine VP.step (p := ?pv37) rfl rfl rfl (⟨_, _, rfl, rfl, rfl⟩) ?hv37 ?rest37 hck1
 case hv37 =>
  intro E1
  refine (V1.loadRef (k := 0) rfl rfl tyk_3 rfl rfl rfl rfl rfl lt0 ?_)
  exact rfl
 refine VP.step (p := ?pv38) rfl rfl rfl (⟨_, _, rfl, rfl, _, _, rfl, rfl, rfl⟩) ?hv38 ?rest38 hck1
 case hv38 =>
  intro E1
  refine (V1.call rfl rfl rfl cok_58 rfl (ok_cmp_Compare_int hh0) rfl lt0 ?_)
  rintro _ _ ⟨rfl, rfl⟩
  exact rfl
 refine VP.step (p := ?pv40) rfl rfl rfl (⟨_, _, rfl, rfl, rfl⟩) ?hv40 ?rest40 hck1
 case hv40 =>
  intro E1
  refine (V1.fieldRef rfl rfl fo_50_1 rfl lt0 ?_)
  exact rfl
 refine VP.step (p := ?pv41) rfl rfl rfl (⟨_, _, rfl, rfl, rfl⟩) ?hv41 ?rest41 hck1
 case hv41 =>
  intro E1
  refine (V1.loadRef (k := 1) rfl rfl tyk_3 rfl rfl rfl rfl rfl lt0 ?_)
  exact rfl
 refine VP.step (p := ?pv42) rfl rfl rfl (⟨_, _, rfl, rfl, rfl⟩) ?hv42 ?rest42 hck1
 case hv42 =>
  intro E1
  refine (V1.fieldRef rfl rfl fo_50_1 rfl lt0 ?_)
  exact rfl
 refine VP.step (p := ?pv43) rfl rfl rfl (⟨_, _, rfl, rfl, rfl⟩) ?hv43 ?rest43 hck1
 case hv43 =>
  intro E1
  refine (V1.loadRef (k := 0) rfl rfl tyk_3 rfl rfl rfl rfl rfl lt0 ?_)
  exact rfl
 refine VP.fin rfl (⟨_, _, rfl, rfl, _, _, rfl, rfl, _, _, rfl, rfl, rfl⟩) ?_
 refine VO.cons rfl (V1.call rfl rfl rfl cok_58 rfl (ok_cmp_Compare_int hh1) rfl lt0 ?_)
 rintro _ _ ⟨rfl, rfl⟩
 refine VO.cons rfl (V1.buildSliceT (f := encInt) ([y0, y1] : List Int) rfl rfl esz_33 zk_3 rfl rfl rfl rfl rfl rfl rfl lt0 ?_)
 intro b2
 refine VO.cons rfl (V1.callL (rn + 1) [b2] [.vl (rn + 1) 1 (List.map encInt ([y0, y1] : List Int))] rfl rfl rfl cok_57 rfl ⟨_, _, rfl, Lend.srMap 0 rfl (fun _ => rfl) (.head _), rfl⟩ (bwCons (k := 0) rfl bwNil) (ok_cmp_Or_int hh2) rfl (⟨(by first | omega | (dsimp only; omega)), by rintro _ _ ⟨rfl, rfl⟩; exact ⟨rfl, by simp⟩⟩) lt0 ?_)
 rintro _ _ ⟨rfl, rfl⟩
 refine VO.cons rfl (V1.assign rfl rfl rfl lt0 ?_)
 refine VO.nil ?_
 refine V.ret ?_
 obtain rfl := Option.some.inj hm0
 exact ⟨_, [], ⟨_, _, rfl, rfl, rfl⟩, List.nil_sublist _, rfl, rfl⟩

theorem ok_impl_IsSchedule {ρ0 rn : Nat} {list : List Rule} {r : Bool} (h : M.impl_IsSchedule list = some r) : Does Tryz.prog 9 [.vl ρ0 4 (List.map encRule list)] [] rn (fun x H => x = .bool r ∧ H = []) := by
 have hm0 := h; clear h; unfold M.impl_IsSchedule at hm0
 try dsimp only at hm0
 refine Does.intro (N := 33) Tryz.func9 rfl rfl rfl rfl ?_
 intro w0 S0 L0
 refine V.seq ?_
 refine V.region ?_
 refine VO.cons rfl (V1.assign rfl rfl rfl lt0 ?_)
 refine VO.nil ?_
 refine V.seq ?_
 refine V.seq ?_
 refine V.region ?_
 refine VO.cons rfl (V1.move rfl rfl rfl lt0 ?_)
 refine VO.cons rfl (V1.lenMap rfl rfl rfl rfl rfl rfl isl_24 lt0 ?_)
 refine VO.cons rfl (V1.move rfl rfl rfl lt0 ?_)
 refine VO.nil ?_
 replace hm0 := bindO hm0; rcases hm0 with ⟨e0, he1, hm0⟩
 refine V.cutT (D := (Unit) × (Unit)) (fun ⟨_, _⟩ => ⟨33, [(0, .vl ρ0 4 (List.map encRule list))], []⟩) (fun ⟨_, _⟩ => (.inl () = e0)) ?_ ?_
 ·
  refine V.block ?_
  refine V.keep 33 [7, 0, 5, 6] [] (E0 := [(7, .int .i64 (0 : Int)), (0, .vl ρ0 4 (List.map encRule list)), (5, .vl ρ0 4 (List.map encRule list)), (6, .int .i64 (list.length : Int))]) (H0 := []) rfl (⟨_, _, rfl, rfl, _, _, rfl, rfl, _, _, rfl, rfl, _, _, rfl, rfl, rfl⟩) (rfl) rfl ?_
  refine V.loopE (D := Nat × (Int) × (Unit)) (fun ⟨n0, v, _⟩ => [(7, .int .i64 v)]) (fun ⟨n0, v, _⟩ => []) (fun ⟨n0, v, _⟩ => loopO (M.impl_IsSchedule_l0 list) n0 v = some e0) (fun ⟨n0, _, _⟩ => n0) (rounds, (0 : Int), ()) rfl he1 ?_
  rintro ⟨n0, v, _⟩ hP0
  obtain ⟨m0, y0, rfl, hm1, hl1, hr1⟩ := loop_head hP0
  unfold M.impl_IsSchedule_l0 at hm1; dsimp only at hm1
  show V _ _ _ ⟨33, [(7, .int .i64 v), (0, .vl ρ0 4 (List.map encRule list)), (5, .vl ρ0 4 (List.map encRule list)), (6, .int .i64 (list.length : Int))], []⟩
  refine V.seq ?_
  refine V.region ?_
  refine VO.cons rfl (V1.int rfl rfl rfl rfl rfl lt0 ?_)
  refine VO.nil ?_
  refine V.seq ?_
  refine V.cond rfl (fun hc0 => ?_) (fun hc0 => ?_)
  ·
   replace hm1 := cond_t hc0 hm1
   refine V.skip ?_
   refine V.seq ?_
   refine V.block ?_
   refine V.seq ?_
   replace hm1 := asrt_some hm1; rcases hm1 with ⟨hh0, hm1⟩
   refine V.region ?_
   refine VO.cons rfl (V1.move rfl rfl rfl lt0 ?_)
   refine VO.cons rfl (V1.indexI rfl rfl esz_24 rfl rfl hh0 lt0 ?_)
   refine VO.cons rfl (V1.loadPinAll rfl rfl tyk_50 rfl rfl lt0 ?_)
   refine VO.cons rfl (V1.alloc rfl rfl zk_50 lt0 ?_)
   intro b0
   refine VO.cons rfl (V1.assign rfl rfl rfl lt0 ?_)
   refine VO.cons rfl (V1.storeRefAll (k := 0) rfl rfl tyk_50 rfl rfl rfl rfl rfl rfl ?_)
   refine VO.nil ?_
   refine V.keep 33 [0, 3, 4, 5, 6, 7] [0] (E0 := [(0, .vl ρ0 4 (List.map encRule list)), (3, .int .i64 v), (4, .ref b0 4 0 0), (5, .vl ρ0 4 (List.map encRule list)), (6, .int .i64 (list.length : Int)), (7, .int .i64 v)]) (H0 := [(b0, ⟨4, [encRule (list.getD (Int.toNat v) default)]⟩)]) rfl (⟨_, _, rfl, rfl, _, _, rfl, rfl, _, _, rfl, rfl, _, _, rfl, rfl, _, _, rfl, rfl, _, _, rfl, rfl, rfl⟩) (⟨_, _, rfl, rfl, rfl⟩) rfl ?_
   refine V.seq ?_
   replace hm1 := bindO hm1; rcases hm1 with ⟨y1, hh1, hm1⟩
   replace hm1 := asrt_some hm1; rcases hm1 with ⟨hh2, hm1⟩
   replace hm1 := bindO hm1; rcases hm1 with ⟨y2, hh3, hm1⟩
   refine V.regionM 33 17 [⟨[(4, none)], [], none⟩, ⟨[(12, some 0)], [], none⟩, ⟨[(13, some 0)], [], none⟩, ⟨[(14, some 0)], [], none⟩, ⟨[(3, none)], [(0, false)], none⟩, ⟨[(16, some 0)], [(1, false)], none⟩, ⟨[(17, some 0)], [(2, false)], none⟩, ⟨[(0, none)], [(0, true), (3, false)], none⟩, ⟨[(3, none)], [(1, true), (4, false)], none⟩, ⟨[(20, some 0)], [(2, true), (5, false)], none⟩, ⟨[(19, some 2), (21, some 0)], [(3, true), (6, false)], none⟩, ⟨[(22, some 0)], [(4, true), (7, false)], none⟩, ⟨[(4, none)], [(5, true), (8, false)], none⟩, ⟨[(23, some 1), (24, some 0)], [(6, true), (9, false)], none⟩, ⟨[(25, some 0)], [(7, true), (10, false)], none⟩, ⟨[], [(11, false)], some (true, 18, 26, 8, 0)⟩, ⟨[], [], some (false, 15, 27, 12, 0)⟩] [(0, none), (5, none), (6, none), (7, none), (28, some 0)] (⟨_, rfl, ⟨_, rfl, ⟨_, rfl, ⟨_, rfl, ⟨_, rfl, ⟨_, rfl, ⟨_, rfl, ⟨_, rfl, ⟨_, rfl, ⟨_, rfl, ⟨_, rfl, ⟨_, rfl, ⟨_, rfl, ⟨_, rfl, ⟨_, rfl, ⟨_, rfl, ⟨_, rfl, ⟨rfl, rfl⟩⟩⟩⟩⟩⟩⟩⟩⟩⟩⟩⟩⟩⟩⟩⟩⟩⟩) mixed_orders rfl (by decide +kernel) (fun hck4 => ?_)
   refine VP.step (p := ?pv146) rfl rfl rfl (⟨_, _, rfl, rfl, rfl⟩) ?hv146 ?rest146 hck4
   case hv146 =>
    intro E1
    refine (V1.loadRefAll (k := 0) rfl rfl tyk_50 rfl rfl rfl rfl rfl lt0 ?_)
    exact rfl
   refine VP.step (p := ?pv147) rfl rfl rfl (⟨_, _, rfl, rfl, rfl⟩) ?hv147 ?rest147 hck4
   case hv147 =>
    intro E1
    refine (V1.call rfl rfl rfl cok_28 rfl (ok_impl_IsRule hh1) rfl lt0 ?_)
    rintro _ _ ⟨rfl, rfl⟩
    exact rfl
   refine VP.step (p := ?pv149) rfl rfl rfl (⟨_, _, rfl, rfl, rfl⟩) ?hv149 ?rest149 hck4
   case hv149 =>
    intro E1
    refine (V1.not rfl rfl rfl lt0 ?_)
    exact rfl
   refine VP.step (p := ?pv150) rfl rfl rfl (⟨_, _, rfl, rfl, rfl⟩) ?hv150 ?rest150 hck4
   case hv150 =>
    intro E1
    refine (V1.move rfl rfl rfl lt0 ?_)
    exact rfl
   refine VP.step (p := ?pv151) rfl rfl rfl (⟨_, _, rfl, rfl, rfl⟩) ?hv151 ?rest151 hck4
   case hv151 =>
    refine ⟨_, rfl, fun hg0 => ?_⟩
    intro E1
    refine (V1.move rfl rfl rfl lt0 ?_)
    exact rfl
   refine VP.step (p := ?pv152) rfl rfl rfl (⟨_, _, rfl, rfl, rfl⟩) ?hv152 ?rest152 hck4
   case hv152 =>
    refine ⟨_, rfl, fun hg0 => ?_⟩
    intro E1
    refine (V1.int rfl rfl rfl rfl rfl lt0 ?_)
    exact rfl
   refine VP.step (p := ?pv153) rfl rfl rfl (⟨_, _, rfl, rfl, rfl⟩) ?hv153 ?rest153 hck4
   case hv153 =>
    refine ⟨_, rfl, fun hg0 => ?_⟩
    intro E1
    refine (V1.move rfl rfl rfl lt0 ?_)
    exact rfl
   refine VP.step (p := ?pv154) rfl rfl rfl (⟨_, _, rfl, rfl, rfl⟩) ?hv154 ?rest154 hck4
   case hv154 =>
    refine ⟨_, rfl, fun hg1 => ?_⟩
    refine ⟨_, rfl, fun hg0 => ?_⟩
    intro E1
    refine (V1.move rfl rfl rfl lt0 ?_)
    exact rfl
   refine VP.step (p := ?pv155) rfl rfl rfl (⟨_, _, rfl, rfl, rfl⟩) ?hv155 ?rest155 hck4
   case hv155 =>
    refine ⟨_, rfl, fun hg1 => ?_⟩
    refine ⟨_, rfl, fun hg0 => ?_⟩
    intro E1
    refine (V1.move rfl rfl rfl lt0 ?_)
    exact rfl
   refine VP.step (p := ?pv156) rfl rfl rfl (⟨_, _, rfl, rfl, rfl⟩) ?hv156 ?rest156 hck4
   case hv156 =>
    refine ⟨_, rfl, fun hg1 => ?_⟩
    refine ⟨_, rfl, fun hg0 => ?_⟩
    intro E1
    refine (V1.int rfl rfl rfl rfl rfl lt0 ?_)
    exact rfl
   refine VP.step (p := ?pv157) rfl rfl rfl (⟨_, _, rfl, rfl, _, _, rfl, rfl, rfl⟩) ?hv157 ?rest157 hck4
   case hv157 =>
    refine ⟨_, rfl, fun hg1 => ?_⟩
    refine ⟨_, rfl, fun hg0 => ?_⟩
    intro E1
    refine (V1.indexI rfl rfl esz_24 rfl rfl (hh2 hg0 hg1) lt0 ?_)
    exact rfl
   refine VP.step (p := ?pv158) rfl rfl rfl (⟨_, _, rfl, rfl, rfl⟩) ?hv158 ?rest158 hck4
   case hv158 =>
    refine ⟨_, rfl, fun hg1 => ?_⟩
    refine ⟨_, rfl, fun hg0 => ?_⟩
    intro E1
    refine (V1.loadPinAll rfl rfl tyk_50 rfl rfl lt0 ?_)
    exact rfl
   refine VP.step (p := ?pv159) rfl rfl rfl (⟨_, _, rfl, rfl, rfl⟩) ?hv159 ?rest159 hck4
   case hv159 =>
    refine ⟨_, rfl, fun hg1 => ?_⟩
    refine ⟨_, rfl, fun hg0 => ?_⟩
    intro E1
    refine (V1.loadRefAll (k := 0) rfl rfl tyk_50 rfl rfl rfl rfl rfl lt0 ?_)
    exact rfl
   refine VP.step (p := ?pv160) rfl rfl rfl (⟨_, _, rfl, rfl, _, _, rfl, rfl, rfl⟩) ?hv160 ?rest160 hck4
   case hv160 =>
    refine ⟨_, rfl, fun hg1 => ?_⟩
    refine ⟨_, rfl, fun hg0 => ?_⟩
    intro E1
    refine (V1.call rfl rfl rfl cok_29 rfl (ok_impl_compareRules (cond_t hg1 (cond_f hg0 hh3))) rfl lt0 ?_)
    rintro _ _ ⟨rfl, rfl⟩
    exact rfl
   refine VP.step (p := ?pv162) rfl rfl rfl (⟨_, _, rfl, rfl, rfl⟩) ?hv162 ?rest162 hck4
   case hv162 =>
    refine ⟨_, rfl, fun hg1 => ?_⟩
    refine ⟨_, rfl, fun hg0 => ?_⟩
    intro E1
    refine (V1.int rfl rfl rfl rfl rfl lt0 ?_)
    exact rfl
   refine VP.pickAnd rfl rfl rfl rfl rfl rfl (⟨_, rfl, fun _ => trivial⟩) ?_ hck4
   refine VP.pickOr rfl rfl rfl rfl rfl rfl (trivial) ?_ hck4
   refine VP.fin rfl (⟨_, _, rfl, rfl, _, _, rfl, rfl, _, _, rfl, rfl, _, _, rfl, rfl, _, _, rfl, rfl, rfl⟩) ?_
   refine VO.nil ?_
   refine V.cond rfl (fun hc1 => ?_) (fun hc1 => ?_)
   ·
    replace hm1 := cond_t hc1 hm1
    refine V.seq ?_
    refine V.region ?_
    refine VO.cons rfl (V1.assign rfl rfl rfl lt0 ?_)
    refine VO.nil ?_
    refine V.ret ?_
    obtain rfl := hr1 _ (Option.some.inj hm1).symm
    change some _ = some _ at hm0
    obtain rfl := Option.some.inj hm0
    exact ⟨_, [], ⟨_, _, rfl, rfl, rfl⟩, List.nil_sublist _, rfl, rfl⟩
   ·
    replace hm1 := cond_f hc1 hm1
    refine V.skip ?_
    refine V.region ?_
    refine VO.cons rfl (V1.int rfl rfl rfl rfl rfl lt0 ?_)
    refine VO.cons rfl (V1.move rfl rfl rfl lt0 ?_)
    refine VO.nil ?_
    exact ⟨(m0, (IntKind.i64.wrap (v + (1 : Int))), ()), hl1 _ (Option.some.inj hm1).symm, Nat.lt_succ_self _, Keeps.mk (ks := []) rfl ⟨rfl, rfl, rfl, rfl, trivial⟩ (rfl) rfl⟩
  ·
   replace hm1 := cond_f hc0 hm1
   refine V.exit ?_
   obtain rfl := hr1 _ (Option.some.inj hm1).symm
   exact ⟨((), ()), rfl, Keeps.mk (ks := []) rfl ⟨rfl, trivial⟩ (rfl) rfl⟩
 ·
  rintro ⟨_, _⟩ rfl
  try dsimp only at hm0
  refine V.seq ?_
  refine V.region ?_
  refine VO.cons rfl (V1.move rfl rfl rfl lt0 ?_)
  refine VO.cons rfl (V1.lenMap rfl rfl rfl rfl rfl rfl isl_24 lt0 ?_)
  refine VO.cons rfl (V1.int rfl rfl rfl rfl rfl lt0 ?_)
  refine VO.cons rfl (V1.assign rfl rfl rfl lt0 ?_)
  refine VO.nil ?_
  refine V.ret ?_
  obtain rfl := Option.some.inj hm0
  exact ⟨_, [], ⟨_, _, rfl, rfl, rfl⟩, List.nil_sublist _, rfl, rfl⟩

theorem ok_strconv_Itoa {rn : Nat} {n : Int} {r : List UInt8} (h : M.strconv_Itoa n = some r) : Does Tryz.prog 64 [.int .i64 n] [] rn (fun x H => x = .str r ∧ H = []) := by
 unfold M.strconv_Itoa at h
 obtain ⟨⟨h1, h2⟩, h⟩ := asrt_some h
 obtain rfl := Option.some.inj h; clear h
 refine Does.ofBelowW (vs := [.int .i64 n]) (v := .string ⟨(Go.Lib.itoa n).toArray⟩) (fun w S us hr => ?_) (fun w S => rep_str) (fun w hL => ?_)
 · obtain ⟨us1, rfl, hr1⟩ := reps_int hr
   rw [Reps.nil_iff.1 hr1]
 · refine (Go.Proofs.Any.strconv_Itoa Go.Proofs.Tryz.laysM_171 n h1 h2 w hL.pow10).mono ?_
   rintro e w' ⟨rfl, k, os, rfl⟩
   exact ⟨rfl, Go.Lib.below_grow _ w (Nat.le_refl _) k os⟩

theorem ok_impl_decimal {rn : Nat} {n : Int} {r : List UInt8} (h : M.impl_decimal n = some r) : Does Tryz.prog 42 [.int .i64 n] [] rn (fun x H => x = .str r ∧ H = []) := by
 have hm0 := h; clear h; unfold M.impl_decimal at hm0
 try dsimp only at hm0
 refine Does.intro (N := 5) Tryz.func42 rfl rfl rfl rfl ?_
 intro w0 S0 L0
 refine V.seq ?_
 refine V.region ?_
 refine VO.cons rfl (V1.assign rfl rfl rfl lt0 ?_)
 refine VO.nil ?_
 refine V.seq ?_
 replace hm0 := bindO hm0; rcases hm0 with ⟨y0, hh0, hm0⟩
 refine V.region ?_
 refine VO.cons rfl (V1.move rfl rfl rfl lt0 ?_)
 refine VO.cons rfl (V1.call rfl rfl rfl cok_64 rfl (ok_strconv_Itoa hh0) rfl lt0 ?_)
 rintro _ _ ⟨rfl, rfl⟩
 refine VO.cons rfl (V1.assign rfl rfl rfl lt0 ?_)
 refine VO.nil ?_
 refine V.ret ?_
 obtain rfl := Option.some.inj hm0
 exact ⟨_, [], ⟨_, _, rfl, rfl, rfl⟩, List.nil_sublist _, rfl, rfl⟩

theorem Try_extra : Go.Proofs.Builder.Extra Tryz.prog Go.Proofs.Tryz.lays156_ren where
 sizeBuilder := by kernel_rfl
 liesBuilder := by kernel_rfl
 t5 := Tryz.underlying5
 a5 := Tryz.isAgg5
 z5 := Tryz.sizeOf5
 v5 := Tryz.zeroValue5
 infoByte := by kernel_rfl
 cellsByte := by kernel_rfl
 sizeByte := by kernel_rfl
 neB5 := by decide

theorem ok_strings_Join {rn ρ0 : Nat} {elems : List (List UInt8)} {sep r : List UInt8} (h : M.strings_Join elems sep = some r) : Does Tryz.prog 43 [.vl ρ0 1 (List.map encStr elems), .str sep] [] rn (fun x H => x = .str r ∧ H = []) := by
 unfold M.strings_Join at h
 obtain ⟨⟨h1, h2⟩, h⟩ := asrt_some h
 obtain rfl := Option.some.inj h; clear h
 exact Does.joinI (fun a c sep w => Go.Proofs.Any.strings_Join_none Go.Proofs.Tryz.lays156 Try_extra a c sep w) (fun bk o c ys sep w q1 q2 q3 q4 q5 => Go.Proofs.Any.strings_Join Go.Proofs.Tryz.lays156 Try_extra bk o c ys sep w q1 q2 q3 q4 q5) h1 h2

theorem ok_impl_scheduleText {ρ0 rn : Nat} {list : List Rule} {r : List UInt8} (h : M.impl_scheduleText list = some r) : Does Tryz.prog 20 [.vl ρ0 4 (List.map encRule list)] [] rn (fun x H => x = .str r ∧ H = []) := by
 have hm0 := h; clear h; unfold M.impl_scheduleText at hm0
 try dsimp only at hm0
 refine Does.intro (N := 38) Tryz.func20 rfl rfl rfl rfl ?_
 intro w0 S0 L0
 refine V.seq ?_
 refine V.region ?_
 refine VO.cons rfl (V1.assign rfl rfl rfl lt0 ?_)
 refine VO.nil ?_
 refine V.seq ?_
 refine V.region ?_
 refine VO.cons rfl (V1.assign rfl rfl rfl lt0 ?_)
 refine VO.nil ?_
 refine V.seq ?_
 refine V.seq ?_
 refine V.region ?_
 refine VO.cons rfl (V1.move rfl rfl rfl lt0 ?_)
 refine VO.cons rfl (V1.lenMap rfl rfl rfl rfl rfl rfl isl_24 lt0 ?_)
 refine VO.cons rfl (V1.move rfl rfl rfl lt0 ?_)
 refine VO.nil ?_
 replace hm0 := bindO hm0; rcases hm0 with ⟨e0, he1, hm0⟩
 refine V.cutT (D := (List (List UInt8)) × (Unit)) (fun ⟨words, _⟩ => ⟨38, [(3, .vl rn 1 (List.map encStr words))], []⟩) (fun ⟨words, _⟩ => (words = e0)) ?_ ?_
 ·
  refine V.block ?_
  refine V.keep 38 [3, 8, 6, 7] [] (E0 := [(3, .nils), (8, .int .i64 (0 : Int)), (6, .vl ρ0 4 (List.map encRule list)), (7, .int .i64 (list.length : Int))]) (H0 := []) rfl (⟨_, _, rfl, rfl, _, _, rfl, rfl, _, _, rfl, rfl, _, _, rfl, rfl, rfl⟩) (rfl) rfl ?_
  refine V.loopE (D := Nat × (List (List UInt8) × Int) × (Option Nat)) (fun ⟨n0, ⟨words0, v⟩, ob0⟩ => [(3, optS 1 ob0 (List.length words0)), (8, .int .i64 v)]) (fun ⟨n0, ⟨words0, v⟩, ob0⟩ => optH 1 ob0 (List.map encStr words0)) (fun ⟨n0, ⟨words0, v⟩, ob0⟩ => loopO (M.impl_scheduleText_l0 list) n0 (words0, v) = some e0 ∧ (ob0 = none → words0 = [])) (fun ⟨n0, _, _⟩ => n0) (rounds, (([] : List (List UInt8)), (0 : Int)), none) rfl ⟨he1, (fun _ => rfl)⟩ ?_
  rintro ⟨n0, ⟨words0, v⟩, ob0⟩ ⟨hP0, hob0⟩
  obtain ⟨m0, y0, rfl, hm1, hl1, hr1⟩ := loop_head hP0
  unfold M.impl_scheduleText_l0 at hm1; dsimp only at hm1
  rcases ob0 with _ | ob0
  ·
   replace hob0 := hob0 rfl
   show V _ _ _ ⟨38, [(3, .nils), (8, .int .i64 v), (6, .vl ρ0 4 (List.map encRule list)), (7, .int .i64 (list.length : Int))], []⟩
   refine V.seq ?_
   refine V.region ?_
   refine VO.cons rfl (V1.int rfl rfl rfl rfl rfl lt0 ?_)
   refine VO.nil ?_
   refine V.seq ?_
   refine V.cond rfl (fun hc0 => ?_) (fun hc0 => ?_)
   ·
    replace hm1 := cond_t hc0 hm1
    refine V.skip ?_
    refine V.seq ?_
    refine V.block ?_
    refine V.seq ?_
    replace hm1 := asrt_some hm1; rcases hm1 with ⟨hh0, hm1⟩
    refine V.region ?_
    refine VO.cons rfl (V1.indexI rfl rfl esz_24 rfl rfl hh0 lt0 ?_)
    refine VO.cons rfl (V1.loadPinAll rfl rfl tyk_50 rfl rfl lt0 ?_)
    refine VO.cons rfl (V1.alloc rfl rfl zk_50 lt0 ?_)
    intro b0
    refine VO.cons rfl (V1.storeRefAll (k := 0) rfl rfl tyk_50 rfl rfl rfl rfl rfl rfl ?_)
    refine VO.nil ?_
    replace hm1 := bindO hm1; rcases hm1 with ⟨y1, hh1, hm1⟩
    replace hm1 := asrt_some hm1; rcases hm1 with ⟨hh2, hm1⟩
    replace hm1 := bindO hm1; rcases hm1 with ⟨y2, hh3, hm1⟩
    replace hm1 := asrt_some hm1; rcases hm1 with ⟨hh4, hm1⟩
    replace hm1 := asrt_some hm1; rcases hm1 with ⟨hh5, hm1⟩
    replace hm1 := bindO hm1; rcases hm1 with ⟨y3, hh6, hm1⟩
    replace hm1 := asrt_some hm1; rcases hm1 with ⟨hh7, hm1⟩
    replace hm1 := asrt_some hm1; rcases hm1 with ⟨hh8, hm1⟩
    replace hm1 := asrt_some hm1; rcases hm1 with ⟨hh9, hm1⟩
    replace hm1 := asrt_some hm1; rcases hm1 with ⟨hh10, hm1⟩
    refine V.regionS [(b0, ⟨4, [encRule (list.getD (Int.toNat v) default)]⟩)] 38 22 [⟨[(3, none)], false⟩, ⟨[(5, none)], false⟩, ⟨[(13, some 1)], false⟩, ⟨[(14, some 2)], false⟩, ⟨[(15, some 3)], false⟩, ⟨[(5, none)], false⟩, ⟨[(17, some 5)], false⟩, ⟨[(18, some 6)], false⟩, ⟨[(16, some 4), (19, some 7)], false⟩, ⟨[(20, some 8)], false⟩, ⟨[(5, none)], false⟩, ⟨[(22, some 10)], false⟩, ⟨[(23, some 11)], false⟩, ⟨[(21, some 9), (24, some 12)], false⟩, ⟨[(5, none)], false⟩, ⟨[(26, some 14)], false⟩, ⟨[(27, some 15)], false⟩, ⟨[(5, none)], false⟩, ⟨[(29, some 17)], false⟩, ⟨[(28, some 16), (30, some 18)], false⟩, ⟨[(25, some 13), (31, some 19)], false⟩, ⟨[(32, some 20)], false⟩] [(6, none), (7, none), (8, none), (12, some 0), (33, some 21)] 0 (⟨_, rfl, ⟨_, rfl, ⟨_, rfl, ⟨_, rfl, ⟨_, rfl, ⟨_, rfl, ⟨_, rfl, ⟨_, rfl, ⟨_, rfl, ⟨_, rfl, ⟨_, rfl, ⟨_, rfl, ⟨_, rfl, ⟨_, rfl, ⟨_, rfl, ⟨_, rfl, ⟨_, rfl, ⟨_, rfl, ⟨_, rfl, ⟨_, rfl, ⟨_, rfl, ⟨_, rfl, ⟨rfl, rfl⟩⟩⟩⟩⟩⟩⟩⟩⟩⟩⟩⟩⟩⟩⟩⟩⟩⟩⟩⟩⟩⟩⟩) mixed_orders rfl (by decide +kernel) ?_
    refine WalkP.step (p := ?pv636) 0 rfl rfl rfl rfl rfl (⟨_, _, rfl, rfl, rfl⟩) ?hv636 ?rest636
    case hv636 =>
     intro E1 H1 hI1
     refine (V1.move rfl rfl rfl lt0 ?_)
     exact rfl
    refine WalkP.step (p := ?pv637) 1 rfl rfl rfl rfl rfl (⟨_, _, rfl, rfl, rfl⟩) ?hv637 ?rest637
    case hv637 =>
     intro E1 H1 hI1
     refine (V1.fieldRef rfl rfl fo_50_0 rfl lt0 ?_)
     exact rfl
    refine WalkP.step (p := ?pv638) 2 rfl rfl rfl rfl rfl (⟨_, _, rfl, rfl, rfl⟩) ?hv638 ?rest638
    case hv638 =>
     intro E1 H1 hI1
     obtain ⟨k639_, hk639_⟩ := inGet 0 rfl hI1
     refine (V1.loadRef (k := k639_) rfl rfl tyk_3 rfl hk639_ rfl rfl rfl lt0 ?_)
     exact rfl
    refine WalkP.step (p := ?pv640) 3 rfl rfl rfl rfl rfl (⟨_, _, rfl, rfl, rfl⟩) ?hv640 ?rest640
    case hv640 =>
     intro E1 H1 hI1
     refine (V1.call rfl rfl rfl cok_42 rfl (ok_impl_decimal hh1) rfl lt0 ?_)
     rintro _ _ ⟨rfl, rfl⟩
     exact rfl
    refine WalkP.step (p := ?pv642) 4 rfl rfl rfl rfl rfl (⟨_, _, rfl, rfl, rfl⟩) ?hv642 ?rest642
    case hv642 =>
     intro E1 H1 hI1
     refine (V1.strAdd rfl rfl rfl rfl hh2 lt0 ?_)
     exact rfl
    refine WalkP.step (p := ?pv643) 5 rfl rfl rfl rfl rfl (⟨_, _, rfl, rfl, rfl⟩) ?hv643 ?rest643
    case hv643 =>
     intro E1 H1 hI1
     refine (V1.fieldRef rfl rfl fo_50_1 rfl lt0 ?_)
     exact rfl
    refine WalkP.step (p := ?pv644) 6 rfl rfl rfl rfl rfl (⟨_, _, rfl, rfl, rfl⟩) ?hv644 ?rest644
    case hv644 =>
     intro E1 H1 hI1
     obtain ⟨k645_, hk645_⟩ := inGet 0 rfl hI1
     refine (V1.loadRef (k := k645_) rfl rfl tyk_3 rfl hk645_ rfl rfl rfl lt0 ?_)
     exact rfl
    refine WalkP.step (p := ?pv646) 7 rfl rfl rfl rfl rfl (⟨_, _, rfl, rfl, rfl⟩) ?hv646 ?rest646
    case hv646 =>
     intro E1 H1 hI1
     refine (V1.call rfl rfl rfl cok_42 rfl (ok_impl_decimal hh3) rfl lt0 ?_)
     rintro _ _ ⟨rfl, rfl⟩
     exact rfl
    refine WalkP.step (p := ?pv648) 8 rfl rfl rfl rfl rfl (⟨_, _, rfl, rfl, _, _, rfl, rfl, rfl⟩) ?hv648 ?rest648
    case hv648 =>
     intro E1 H1 hI1
     refine (V1.strAdd rfl rfl rfl rfl hh4 lt0 ?_)
     exact rfl
    refine WalkP.step (p := ?pv649) 9 rfl rfl rfl rfl rfl (⟨_, _, rfl, rfl, rfl⟩) ?hv649 ?rest649
    case hv649 =>
     intro E1 H1 hI1
     refine (V1.strAdd rfl rfl rfl rfl hh5 lt0 ?_)
     exact rfl
    refine WalkP.step (p := ?pv650) 10 rfl rfl rfl rfl rfl (⟨_, _, rfl, rfl, rfl⟩) ?hv650 ?rest650
    case hv650 =>
     intro E1 H1 hI1
     refine (V1.fieldRef rfl rfl fo_50_2 rfl lt0 ?_)
     exact rfl
    refine WalkP.step (p := ?pv651) 11 rfl rfl rfl rfl rfl (⟨_, _, rfl, rfl, rfl⟩) ?hv651 ?rest651
    case hv651 =>
     intro E1 H1 hI1
     obtain ⟨k652_, hk652_⟩ := inGet 0 rfl hI1
     refine (V1.loadRef (k := k652_) rfl rfl tyk_3 rfl hk652_ rfl rfl rfl lt0 ?_)
     exact rfl
    refine WalkP.step (p := ?pv653) 12 rfl rfl rfl rfl rfl (⟨_, _, rfl, rfl, rfl⟩) ?hv653 ?rest653
    case hv653 =>
     intro E1 H1 hI1
     refine (V1.call rfl rfl rfl cok_42 rfl (ok_impl_decimal hh6) rfl lt0 ?_)
     rintro _ _ ⟨rfl, rfl⟩
     exact rfl
    refine WalkP.step (p := ?pv655) 13 rfl rfl rfl rfl rfl (⟨_, _, rfl, rfl, _, _, rfl, rfl, rfl⟩) ?hv655 ?rest655
    case hv655 =>
     intro E1 H1 hI1
     refine (V1.strAdd rfl rfl rfl rfl hh7 lt0 ?_)
     exact rfl
    refine WalkP.step (p := ?pv656) 14 rfl rfl rfl rfl rfl (⟨_, _, rfl, rfl, rfl⟩) ?hv656 ?rest656
    case hv656 =>
     intro E1 H1 hI1
     refine (V1.fieldRef rfl rfl fo_50_3 rfl lt0 ?_)
     exact rfl
    refine WalkP.step (p := ?pv657) 15 rfl rfl rfl rfl rfl (⟨_, _, rfl, rfl, rfl⟩) ?hv657 ?rest657
    case hv657 =>
     intro E1 H1 hI1
     obtain ⟨k658_, hk658_⟩ := inGet 0 rfl hI1
     refine (V1.loadRef (k := k658_) rfl rfl tyk_3 rfl hk658_ rfl rfl rfl lt0 ?_)
     exact rfl
    refine WalkP.step (p := ?pv659) 16 rfl rfl rfl rfl rfl (⟨_, _, rfl, rfl, rfl⟩) ?hv659 ?rest659
    case hv659 =>
     intro E1 H1 hI1
     refine (V1.int rfl rfl rfl rfl rfl lt0 ?_)
     exact rfl
    refine WalkP.step (p := ?pv660) 17 rfl rfl rfl rfl rfl (⟨_, _, rfl, rfl, rfl⟩) ?hv660 ?rest660
    case hv660 =>
     intro E1 H1 hI1
     refine (V1.fieldRef rfl rfl fo_50_3 rfl lt0 ?_)
     exact rfl
    refine WalkP.step (p := ?pv661) 18 rfl rfl rfl rfl rfl (⟨_, _, rfl, rfl, rfl⟩) ?hv661 ?rest661
    case hv661 =>
     intro E1 H1 hI1
     obtain ⟨k662_, hk662_⟩ := inGet 0 rfl hI1
     refine (V1.loadRef (k := k662_) rfl rfl tyk_3 rfl hk662_ rfl rfl rfl lt0 ?_)
     exact rfl
    refine WalkP.step (p := ?pv663) 19 rfl rfl rfl rfl rfl (⟨_, _, rfl, rfl, _, _, rfl, rfl, rfl⟩) ?hv663 ?rest663
    case hv663 =>
     intro E1 H1 hI1
     refine (V1.sliceStrI (s := ([107, 116, 100] : List UInt8)) (a := (IntKind.i64.wrap (((list.getD (Int.toNat v) default).Act) - (1 : Int)))) (b := ((list.getD (Int.toNat v) default).Act)) rfl rfl istr_9 rfl (Bnd.some rfl hh8.1 _) (Bnd.some rfl (Int.le_trans hh8.1 hh8.2.1) _) hh8 lt0 ?_)
     exact rfl
    refine WalkP.step (p := ?pv664) 20 rfl rfl rfl rfl rfl (⟨_, _, rfl, rfl, _, _, rfl, rfl, rfl⟩) ?hv664 ?rest664
    case hv664 =>
     intro E1 H1 hI1
     refine (V1.strAdd rfl rfl rfl rfl hh9 lt0 ?_)
     exact rfl
    refine WalkP.step (p := ?pv665) 21 rfl rfl rfl rfl rfl (⟨_, _, rfl, rfl, rfl⟩) ?hv665 ?rest665
    case hv665 =>
     intro E1 H1 hI1
     refine (V1.buildFrz (f := encStr) ([(((((y1 ++ ([46])) ++ y2) ++ ([43])) ++ y3) ++ (slc ([107, 116, 100] : List UInt8) (IntKind.i64.wrap (((list.getD (Int.toNat v) default).Act) - (1 : Int))) ((list.getD (Int.toNat v) default).Act)))] : List (List UInt8)) (fun _ => rfl) iNil rfl rfl esz_59 zk_9 rfl rfl rfl rfl rfl rfl rfl lt0 ?_)
     exact rfl
    refine WalkP.nil ?_
    refine NodeS.fin (inCons 0 rfl inNil) rfl rfl rfl (⟨_, _, rfl, rfl, _, _, rfl, rfl, _, _, rfl, rfl, _, _, rfl, rfl, _, _, rfl, rfl, rfl⟩) ?_
    refine VO.cons rfl (V1.appendNilE (f := encStr) (l := words0) (m := ([(((((y1 ++ ([46])) ++ y2) ++ ([43])) ++ y3) ++ (slc ([107, 116, 100] : List UInt8) (IntKind.i64.wrap (((list.getD (Int.toNat v) default).Act) - (1 : Int))) ((list.getD (Int.toNat v) default).Act)))] : List (List UInt8))) hob0 rfl rfl rfl rfl rfl esz_59 eby_59 zk_9 rfl rfl rfl (.vl isl_59) rfl hh10 lt0 ?_)
    intro b4
    refine VO.cons rfl (V1.assign rfl rfl rfl lt0 ?_)
    refine VO.nil ?_
    refine V.region ?_
    refine VO.cons rfl (V1.int rfl rfl rfl rfl rfl lt0 ?_)
    refine VO.cons rfl (V1.move rfl rfl rfl lt0 ?_)
    refine VO.nil ?_
    exact ⟨(m0, ((words0 ++ ([(((((y1 ++ ([46])) ++ y2) ++ ([43])) ++ y3) ++ (slc ([107, 116, 100] : List UInt8) (IntKind.i64.wrap (((list.getD (Int.toNat v) default).Act) - (1 : Int))) ((list.getD (Int.toNat v) default).Act)))] : List (List UInt8))), (IntKind.i64.wrap (v + (1 : Int)))), (some b4)), ⟨hl1 _ (Option.some.inj hm1).symm, (fun e => by cases e)⟩, Nat.lt_succ_self _, Keeps.mk (ks := [0]) rfl ⟨rfl, rfl, rfl, rfl, trivial⟩ (⟨_, _, rfl, rfl, rfl⟩) rfl⟩
   ·
    replace hm1 := cond_f hc0 hm1
    refine V.exit ?_
    obtain rfl := hr1 _ (Option.some.inj hm1).symm
    exact ⟨(words0, ()), rfl, Keeps.trans (Keeps.nilsE (l := words0) 3 rn 1 encStr hob0 rfl rfl) (Keeps.mk (ks := []) rfl ⟨rfl, trivial⟩ (rfl) rfl)⟩
  ·
   show V _ _ _ ⟨38, [(3, .sref ob0 1 0 (List.length words0)), (8, .int .i64 v), (6, .vl ρ0 4 (List.map encRule list)), (7, .int .i64 (list.length : Int))], [(ob0, ⟨1, List.map encStr words0⟩)]⟩
   refine V.seq ?_
   refine V.region ?_
   refine VO.cons rfl (V1.int rfl rfl rfl rfl rfl lt0 ?_)
   refine VO.nil ?_
   refine V.seq ?_
   refine V.cond rfl (fun hc0 => ?_) (fun hc0 => ?_)
   ·
    replace hm1 := cond_t hc0 hm1
    refine V.skip ?_
    refine V.seq ?_
    refine V.block ?_
    refine V.seq ?_
    replace hm1 := asrt_some hm1; rcases hm1 with ⟨hh0, hm1⟩
    refine V.region ?_
    refine VO.cons rfl (V1.indexI rfl rfl esz_24 rfl rfl hh0 lt0 ?_)
    refine VO.cons rfl (V1.loadPinAll rfl rfl tyk_50 rfl rfl lt0 ?_)
    refine VO.cons rfl (V1.alloc rfl rfl zk_50 lt0 ?_)
    intro b0
    refine VO.cons rfl (V1.storeRefAll (k := 0) rfl rfl tyk_50 rfl rfl rfl rfl rfl rfl ?_)
    refine VO.nil ?_
    replace hm1 := bindO hm1; rcases hm1 with ⟨y1, hh1, hm1⟩
    replace hm1 := asrt_some hm1; rcases hm1 with ⟨hh2, hm1⟩
    replace hm1 := bindO hm1; rcases hm1 with ⟨y2, hh3, hm1⟩
    replace hm1 := asrt_some hm1; rcases hm1 with ⟨hh4, hm1⟩
    replace hm1 := asrt_some hm1; rcases hm1 with ⟨hh5, hm1⟩
    replace hm1 := bindO hm1; rcases hm1 with ⟨y3, hh6, hm1⟩
    replace hm1 := asrt_some hm1; rcases hm1 with ⟨hh7, hm1⟩
    replace hm1 := asrt_some hm1; rcases hm1 with ⟨hh8, hm1⟩
    replace hm1 := asrt_some hm1; rcases hm1 with ⟨hh9, hm1⟩
    replace hm1 := asrt_some hm1; rcases hm1 with ⟨hh10, hm1⟩
    refine V.regionS [(b0, ⟨4, [encRule (list.getD (Int.toNat v) default)]⟩)] 38 22 [⟨[(3, none)], false⟩, ⟨[(5, none)], false⟩, ⟨[(13, some 1)], false⟩, ⟨[(14, some 2)], false⟩, ⟨[(15, some 3)], false⟩, ⟨[(5, none)], false⟩, ⟨[(17, some 5)], false⟩, ⟨[(18, some 6)], false⟩, ⟨[(16, some 4), (19, some 7)], false⟩, ⟨[(20, some 8)], false⟩, ⟨[(5, none)], false⟩, ⟨[(22, some 10)], false⟩, ⟨[(23, some 11)], false⟩, ⟨[(21, some 9), (24, some 12)], false⟩, ⟨[(5, none)], false⟩, ⟨[(26, some 14)], false⟩, ⟨[(27, some 15)], false⟩, ⟨[(5, none)], false⟩, ⟨[(29, some 17)], false⟩, ⟨[(28, some 16), (30, some 18)], false⟩, ⟨[(25, some 13), (31, some 19)], false⟩, ⟨[(32, some 20)], false⟩] [(6, none), (7, none), (8, none), (12, some 0), (33, some 21)] 0 (⟨_, rfl, ⟨_, rfl, ⟨_, rfl, ⟨_, rfl, ⟨_, rfl, ⟨_, rfl, ⟨_, rfl, ⟨_, rfl, ⟨_, rfl, ⟨_, rfl, ⟨_, rfl, ⟨_, rfl, ⟨_, rfl, ⟨_, rfl, ⟨_, rfl, ⟨_, rfl, ⟨_, rfl, ⟨_, rfl, ⟨_, rfl, ⟨_, rfl, ⟨_, rfl, ⟨_, rfl, ⟨rfl, rfl⟩⟩⟩⟩⟩⟩⟩⟩⟩⟩⟩⟩⟩⟩⟩⟩⟩⟩⟩⟩⟩⟩⟩) mixed_orders rfl (by decide +kernel) ?_
    refine WalkP.step (p := ?pv675) 0 rfl rfl rfl rfl rfl (⟨_, _, rfl, rfl, rfl⟩) ?hv675 ?rest675
    case hv675 =>
     intro E1 H1 hI1
     refine (V1.move rfl rfl rfl lt0 ?_)
     exact rfl
    refine WalkP.step (p := ?pv676) 1 rfl rfl rfl rfl rfl (⟨_, _, rfl, rfl, rfl⟩) ?hv676 ?rest676
    case hv676 =>
     intro E1 H1 hI1
     refine (V1.fieldRef rfl rfl fo_50_0 rfl lt0 ?_)
     exact rfl
    refine WalkP.step (p := ?pv677) 2 rfl rfl rfl rfl rfl (⟨_, _, rfl, rfl, rfl⟩) ?hv677 ?rest677
    case hv677 =>
     intro E1 H1 hI1
     obtain ⟨k678_, hk678_⟩ := inGet 0 rfl hI1
     refine (V1.loadRef (k := k678_) rfl rfl tyk_3 rfl hk678_ rfl rfl rfl lt0 ?_)
     exact rfl
    refine WalkP.step (p := ?pv679) 3 rfl rfl rfl rfl rfl (⟨_, _, rfl, rfl, rfl⟩) ?hv679 ?rest679
    case hv679 =>
     intro E1 H1 hI1
     refine (V1.call rfl rfl rfl cok_42 rfl (ok_impl_decimal hh1) rfl lt0 ?_)
     rintro _ _ ⟨rfl, rfl⟩
     exact rfl
    refine WalkP.step (p := ?pv681) 4 rfl rfl rfl rfl rfl (⟨_, _, rfl, rfl, rfl⟩) ?hv681 ?rest681
    case hv681 =>
     intro E1 H1 hI1
     refine (V1.strAdd rfl rfl rfl rfl hh2 lt0 ?_)
     exact rfl
    refine WalkP.step (p := ?pv682) 5 rfl rfl rfl rfl rfl (⟨_, _, rfl, rfl, rfl⟩) ?hv682 ?rest682
    case hv682 =>
     intro E1 H1 hI1
     refine (V1.fieldRef rfl rfl fo_50_1 rfl lt0 ?_)
     exact rfl
    refine WalkP.step (p := ?pv683) 6 rfl rfl rfl rfl rfl (⟨_, _, rfl, rfl, rfl⟩) ?hv683 ?rest683
    case hv683 =>
     intro E1 H1 hI1
     obtain ⟨k684_, hk684_⟩ := inGet 0 rfl hI1
     refine (V1.loadRef (k := k684_) rfl rfl tyk_3 rfl hk684_ rfl rfl rfl lt0 ?_)
     exact rfl
    refine WalkP.step (p := ?pv685) 7 rfl rfl rfl rfl rfl (⟨_, _, rfl, rfl, rfl⟩) ?hv685 ?rest685
    case hv685 =>
     intro E1 H1 hI1
     refine (V1.call rfl rfl rfl cok_42 rfl (ok_impl_decimal hh3) rfl lt0 ?_)
     rintro _ _ ⟨rfl, rfl⟩
     exact rfl
    refine WalkP.step (p := ?pv687) 8 rfl rfl rfl rfl rfl (⟨_, _, rfl, rfl, _, _, rfl, rfl, rfl⟩) ?hv687 ?rest687
    case hv687 =>
     intro E1 H1 hI1
     refine (V1.strAdd rfl rfl rfl rfl hh4 lt0 ?_)
     exact rfl
    refine WalkP.step (p := ?pv688) 9 rfl rfl rfl rfl rfl (⟨_, _, rfl, rfl, rfl⟩) ?hv688 ?rest688
    case hv688 =>
     intro E1 H1 hI1
     refine (V1.strAdd rfl rfl rfl rfl hh5 lt0 ?_)
     exact rfl
    refine WalkP.step (p := ?pv689) 10 rfl rfl rfl rfl rfl (⟨_, _, rfl, rfl, rfl⟩) ?hv689 ?rest689
    case hv689 =>
     intro E1 H1 hI1
     refine (V1.fieldRef rfl rfl fo_50_2 rfl lt0 ?_)
     exact rfl
    refine WalkP.step (p := ?pv690) 11 rfl rfl rfl rfl rfl (⟨_, _, rfl, rfl, rfl⟩) ?hv690 ?rest690
    case hv690 =>
     intro E1 H1 hI1
     obtain ⟨k691_, hk691_⟩ := inGet 0 rfl hI1
     refine (V1.loadRef (k := k691_) rfl rfl tyk_3 rfl hk691_ rfl rfl rfl lt0 ?_)
     exact rfl
    refine WalkP.step (p := ?pv692) 12 rfl rfl rfl rfl rfl (⟨_, _, rfl, rfl, rfl⟩) ?hv692 ?rest692
    case hv692 =>
     intro E1 H1 hI1
     refine (V1.call rfl rfl rfl cok_42 rfl (ok_impl_decimal hh6) rfl lt0 ?_)
     rintro _ _ ⟨rfl, rfl⟩
     exact rfl
    refine WalkP.step (p := ?pv694) 13 rfl rfl rfl rfl rfl (⟨_, _, rfl, rfl, _, _, rfl, rfl, rfl⟩) ?hv694 ?rest694
    case hv694 =>
     intro E1 H1 hI1
     refine (V1.strAdd rfl rfl rfl rfl hh7 lt0 ?_)
     exact rfl
    refine WalkP.step (p := ?pv695) 14 rfl rfl rfl rfl rfl (⟨_, _, rfl, rfl, rfl⟩) ?hv695 ?rest695
    case hv695 =>
     intro E1 H1 hI1
     refine (V1.fieldRef rfl rfl fo_50_3 rfl lt0 ?_)
     exact rfl
    refine WalkP.step (p := ?pv696) 15 rfl rfl rfl rfl rfl (⟨_, _, rfl, rfl, rfl⟩) ?hv696 ?rest696
    case hv696 =>
     intro E1 H1 hI1
     obtain ⟨k697_, hk697_⟩ := inGet 0 rfl hI1
     refine (V1.loadRef (k := k697_) rfl rfl tyk_3 rfl hk697_ rfl rfl rfl lt0 ?_)
     exact rfl
    refine WalkP.step (p := ?pv698) 16 rfl rfl rfl rfl rfl (⟨_, _, rfl, rfl, rfl⟩) ?hv698 ?rest698
    case hv698 =>
     intro E1 H1 hI1
     refine (V1.int rfl rfl rfl rfl rfl lt0 ?_)
     exact rfl
    refine WalkP.step (p := ?pv699) 17 rfl rfl rfl rfl rfl (⟨_, _, rfl, rfl, rfl⟩) ?hv699 ?rest699
    case hv699 =>
     intro E1 H1 hI1
     refine (V1.fieldRef rfl rfl fo_50_3 rfl lt0 ?_)
     exact rfl
    refine WalkP.step (p := ?pv700) 18 rfl rfl rfl rfl rfl (⟨_, _, rfl, rfl, rfl⟩) ?hv700 ?rest700
    case hv700 =>
     intro E1 H1 hI1
     obtain ⟨k701_, hk701_⟩ := inGet 0 rfl hI1
     refine (V1.loadRef (k := k701_) rfl rfl tyk_3 rfl hk701_ rfl rfl rfl lt0 ?_)
     exact rfl
    refine WalkP.step (p := ?pv702) 19 rfl rfl rfl rfl rfl (⟨_, _, rfl, rfl, _, _, rfl, rfl, rfl⟩) ?hv702 ?rest702
    case hv702 =>
     intro E1 H1 hI1
     refine (V1.sliceStrI (s := ([107, 116, 100] : List UInt8)) (a := (IntKind.i64.wrap (((list.getD (Int.toNat v) default).Act) - (1 : Int)))) (b := ((list.getD (Int.toNat v) default).Act)) rfl rfl istr_9 rfl (Bnd.some rfl hh8.1 _) (Bnd.some rfl (Int.le_trans hh8.1 hh8.2.1) _) hh8 lt0 ?_)
     exact rfl
    refine WalkP.step (p := ?pv703) 20 rfl rfl rfl rfl rfl (⟨_, _, rfl, rfl, _, _, rfl, rfl, rfl⟩) ?hv703 ?rest703
    case hv703 =>
     intro E1 H1 hI1
     refine (V1.strAdd rfl rfl rfl rfl hh9 lt0 ?_)
     exact rfl
    refine WalkP.step (p := ?pv704) 21 rfl rfl rfl rfl rfl (⟨_, _, rfl, rfl, rfl⟩) ?hv704 ?rest704
    case hv704 =>
     intro E1 H1 hI1
     refine (V1.buildFrz (f := encStr) ([(((((y1 ++ ([46])) ++ y2) ++ ([43])) ++ y3) ++ (slc ([107, 116, 100] : List UInt8) (IntKind.i64.wrap (((list.getD (Int.toNat v) default).Act) - (1 : Int))) ((list.getD (Int.toNat v) default).Act)))] : List (List UInt8)) (fun _ => rfl) iNil rfl rfl esz_59 zk_9 rfl rfl rfl rfl rfl rfl rfl lt0 ?_)
     exact rfl
    refine WalkP.nil ?_
    refine NodeS.fin (inCons 0 rfl inNil) rfl rfl rfl (⟨_, _, rfl, rfl, _, _, rfl, rfl, _, _, rfl, rfl, _, _, rfl, rfl, _, _, rfl, rfl, rfl⟩) ?_
    refine VO.cons rfl (V1.appendMap (k := 1) (f := encStr) (l := words0) (m := ([(((((y1 ++ ([46])) ++ y2) ++ ([43])) ++ y3) ++ (slc ([107, 116, 100] : List UInt8) (IntKind.i64.wrap (((list.getD (Int.toNat v) default).Act) - (1 : Int))) ((list.getD (Int.toNat v) default).Act)))] : List (List UInt8))) rfl rfl rfl rfl rfl esz_59 eby_59 zk_9 rfl rfl rfl (.vl isl_59) hh10 lt0 ?_)
    intro b4
    refine VO.cons rfl (V1.assign rfl rfl rfl lt0 ?_)
    refine VO.nil ?_
    refine V.region ?_
    refine VO.cons rfl (V1.int rfl rfl rfl rfl rfl lt0 ?_)
    refine VO.cons rfl (V1.move rfl rfl rfl lt0 ?_)
    refine VO.nil ?_
    exact ⟨(m0, ((words0 ++ ([(((((y1 ++ ([46])) ++ y2) ++ ([43])) ++ y3) ++ (slc ([107, 116, 100] : List UInt8) (IntKind.i64.wrap (((list.getD (Int.toNat v) default).Act) - (1 : Int))) ((list.getD (Int.toNat v) default).Act)))] : List (List UInt8))), (IntKind.i64.wrap (v + (1 : Int)))), (some b4)), ⟨hl1 _ (Option.some.inj hm1).symm, (fun e => by cases e)⟩, Nat.lt_succ_self _, Keeps.mk (ks := [0]) rfl ⟨rfl, rfl, rfl, rfl, trivial⟩ (⟨_, _, rfl, rfl, rfl⟩) rfl⟩
   ·
    replace hm1 := cond_f hc0 hm1
    refine V.exit ?_
    obtain rfl := hr1 _ (Option.some.inj hm1).symm
    exact ⟨(words0, ()), rfl, Keeps.trans (Keeps.freezeG 0 rn [(3, .vl rn 1 (List.map encStr words0))] ([]) (f := encStr) (l := words0) rfl (fun _ => rfl) ⟨⟨_, rfl, .here⟩, trivial⟩ rfl rfl iNil) (Keeps.mk (ks := []) rfl ⟨rfl, trivial⟩ (rfl) rfl)⟩
 ·
  rintro ⟨words, _⟩ rfl
  try dsimp only at hm0
  refine V.seq ?_
  replace hm0 := bindO hm0; rcases hm0 with ⟨y4, hh11, hm0⟩
  refine V.region ?_
  refine VO.cons rfl (V1.move rfl rfl rfl lt0 ?_)
  refine VO.cons rfl (V1.call rfl rfl rfl cok_43 rfl (ok_strings_Join hh11) rfl lt0 ?_)
  rintro _ _ ⟨rfl, rfl⟩
  refine VO.cons rfl (V1.assign rfl rfl rfl lt0 ?_)
  refine VO.nil ?_
  refine V.ret ?_
  obtain rfl := Option.some.inj hm0
  exact ⟨_, [], ⟨_, _, rfl, rfl, rfl⟩, List.nil_sublist _, rfl, rfl⟩

theorem ok_impl_ScheduleText {ρ0 rn : Nat} {list : List Rule} {r : List UInt8 × Bool} (h : M.impl_ScheduleText list = some r) : Does Tryz.prog 6 [.vl ρ0 4 (List.map encRule list)] [] rn (fun x H => x = .tup [.str r.1, .bool r.2] ∧ H = []) := by
 have hm0 := h; clear h; unfold M.impl_ScheduleText at hm0
 try dsimp only at hm0
 refine Does.intro (N := 9) Tryz.func6 rfl rfl rfl rfl ?_
 intro w0 S0 L0
 refine V.seq ?_
 refine V.region ?_
 refine VO.cons rfl (V1.assign rfl rfl rfl lt0 ?_)
 refine VO.cons rfl (V1.assign rfl rfl rfl lt0 ?_)
 refine VO.nil ?_
 refine V.seq ?_
 refine V.seq ?_
 replace hm0 := bindO hm0; rcases hm0 with ⟨y0, hh0, hm0⟩
 refine V.region ?_
 refine VO.cons rfl (V1.move rfl rfl rfl lt0 ?_)
 refine VO.cons rfl (V1.call rfl rfl rfl cok_9 rfl (ok_impl_IsSchedule hh0) rfl lt0 ?_)
 rintro _ _ ⟨rfl, rfl⟩
 refine VO.cons rfl (V1.not rfl rfl rfl lt0 ?_)
 refine VO.nil ?_
 refine V.keep 9 [0, 6] [] (E0 := [(0, .vl ρ0 4 (List.map encRule list)), (6, .bool (!y0))]) (H0 := []) rfl (⟨_, _, rfl, rfl, _, _, rfl, rfl, rfl⟩) (rfl) rfl ?_
 refine V.cond rfl (fun hc0 => ?_) (fun hc0 => ?_)
 ·
  replace hm0 := cond_t hc0 hm0
  refine V.seq ?_
  refine V.region ?_
  refine VO.cons rfl (V1.assign rfl rfl rfl lt0 ?_)
  refine VO.cons rfl (V1.assign rfl rfl rfl lt0 ?_)
  refine VO.nil ?_
  refine V.ret ?_
  obtain rfl := Option.some.inj hm0
  exact ⟨_, [], ⟨_, _, rfl, rfl, _, _, rfl, rfl, rfl⟩, List.nil_sublist _, rfl, rfl⟩
 ·
  replace hm0 := cond_f hc0 hm0
  refine V.skip ?_
  refine V.seq ?_
  replace hm0 := bindO hm0; rcases hm0 with ⟨y1, hh1, hm0⟩
  refine V.region ?_
  refine VO.cons rfl (V1.move rfl rfl rfl lt0 ?_)
  refine VO.cons rfl (V1.call rfl rfl rfl cok_20 rfl (ok_impl_scheduleText hh1) rfl lt0 ?_)
  rintro _ _ ⟨rfl, rfl⟩
  refine VO.cons rfl (V1.assign rfl rfl rfl lt0 ?_)
  refine VO.cons rfl (V1.assign rfl rfl rfl lt0 ?_)
  refine VO.nil ?_
  refine V.ret ?_
  obtain rfl := Option.some.inj hm0
  exact ⟨_, [], ⟨_, _, rfl, rfl, _, _, rfl, rfl, rfl⟩, List.nil_sublist _, rfl, rfl⟩

theorem ix_strings_SplitSeq {rn : Nat} {s : List UInt8} {b : UInt8} : Does Tryz.prog 25 [.str s, .str [b]] [] rn (fun x H => x = .int .i64 (Go.Lib.indexByte s b) ∧ H = []) := by
 refine Does.ofBelow (vs := [.string ⟨s.toArray⟩, .string ⟨[b].toArray⟩]) (v := .int .i64 (Go.Lib.indexByte s b)) (fun w S us hr => ?_) (fun w S => rep_int) (fun w => ?_)
 · obtain ⟨us1, rfl, hr1⟩ := reps_str hr
   obtain ⟨us2, rfl, hr2⟩ := reps_str hr1
   rw [Reps.nil_iff.1 hr2]
 · refine (Go.Proofs.Any.strings_Index_one Go.Proofs.Tryz.lays143 ⟨s.toArray⟩ b w).mono ?_
   rintro e w' ⟨rfl, rfl⟩
   exact ⟨rfl, Go.RowKit.Below.refl _ _⟩

theorem ok_strings_splitSeq {rn : Nat} {s sep : List UInt8} : Does Tryz.prog 44 [.str s, .str sep, .int .i64 (0 : Int)] [] rn (fun x H => ∃ b1 b2 b3 : Nat, x = .fn 68 [.ref b2 1 0 0, .ref b1 1 0 0, .ref b3 1 0 0] ∧ H = [(b3, ⟨1, [.int .i64 (0 : Int)]⟩), (b2, ⟨1, [.str sep]⟩), (b1, ⟨1, [.str s]⟩)]) := by
 refine Does.intro (N := 8) Tryz.func44 rfl rfl rfl rfl ?_
 intro w0 S0 L0
 refine V.seq ?_
 refine V.region ?_
 refine VO.cons rfl (V1.boxN (n := 1) rfl rfl rfl rfl rfl lt0 ?_)
 intro b1
 refine VO.cons rfl (V1.boxN (n := 1) rfl rfl rfl rfl rfl lt0 ?_)
 intro b2
 refine VO.cons rfl (V1.boxN (n := 1) rfl rfl rfl rfl rfl lt0 ?_)
 intro b3
 refine VO.cons rfl (V1.assign rfl rfl rfl lt0 ?_)
 refine VO.nil ?_
 refine V.seq ?_
 refine V.region ?_
 refine VO.cons rfl (V1.makeFunc rfl rfl rfl lt0 ?_)
 refine VO.cons rfl (V1.assign rfl rfl rfl lt0 ?_)
 refine VO.nil ?_
 refine V.ret ?_
 exact ⟨_, _, ⟨_, _, rfl, rfl, rfl⟩, List.Sublist.refl _, b1, b2, b3, rfl, rfl⟩

theorem ok_strings_SplitSeq {rn : Nat} {s sep : List UInt8} {r : List (List UInt8)} (h : M.strings_SplitSeq s sep = some r) : Does Tryz.prog 21 [.str s, .str sep] [] rn (fun x H => ∃ b1 b2 b3 : Nat, x = .fn 68 [.ref b2 1 0 0, .ref b1 1 0 0, .ref b3 1 0 0] ∧ H = [(b3, ⟨1, [.int .i64 (0 : Int)]⟩), (b2, ⟨1, [.str sep]⟩), (b1, ⟨1, [.str s]⟩)]) := by
 clear h
 refine Does.intro (N := 8) Tryz.func21 rfl rfl rfl rfl ?_
 intro w0 S0 L0
 refine V.seq ?_
 refine V.region ?_
 refine VO.cons rfl (V1.assign rfl rfl rfl lt0 ?_)
 refine VO.nil ?_
 refine V.seq ?_
 refine V.region ?_
 refine VO.cons rfl (V1.move rfl rfl rfl lt0 ?_)
 refine VO.cons rfl (V1.move rfl rfl rfl lt0 ?_)
 refine VO.cons rfl (V1.call rfl rfl rfl cok_44 rfl ok_strings_splitSeq rfl lt0 ?_)
 rintro _ _ ⟨b1, b2, b3, rfl, rfl⟩
 refine VO.cons rfl (V1.assign rfl rfl rfl lt0 ?_)
 refine VO.nil ?_
 refine V.ret ?_
 exact ⟨_, _, ⟨_, _, rfl, rfl, rfl⟩, List.Sublist.refl _, b1, b2, b3, rfl, rfl⟩

theorem it_strings_SplitSeq {rn : Nat} {s sep : List UInt8} {b1 b2 b3 : Nat} {r : List (List UInt8)} (h : M.strings_SplitSeq s sep = some r) : Iterates Tryz.prog 68 [.ref b2 1 0 0, .ref b1 1 0 0, .ref b3 1 0 0] [(b3, ⟨1, [.int .i64 (0 : Int)]⟩), (b2, ⟨1, [.str sep]⟩), (b1, ⟨1, [.str s]⟩)] (List.map encStr r) rn := by
 unfold M.strings_SplitSeq at h
 obtain ⟨⟨h1, h2⟩, h⟩ := asrt_some h
 obtain rfl := Option.some.inj h; clear h
 obtain ⟨c, rfl⟩ := List.length_eq_one_iff.1 h1
 show Iterates _ _ _ _ (List.map encStr (splitC c s)) rn
 refine Iterates.intro (N := 52) Tryz.func68 rfl rfl rfl rfl ?_
 intro l ob D Hc Pd d0 w0 S0 L0 hP0 hw hnk hY
 refine V.seq ?_
 refine V.seq ?_
 refine V.region ?_
 refine VO.cons rfl (V1.loadRef (k := 1) rfl rfl tyk_9 rfl rfl rfl rfl rfl lt0 ?_)
 refine VO.cons rfl (V1.lenStr rfl rfl rfl rfl rfl rfl istr_9 lt0 ?_)
 refine VO.cons rfl (V1.int rfl rfl rfl rfl rfl lt0 ?_)
 refine VO.nil ?_
 refine V.cond rfl (fun hc0 => by simp at hc0) (fun hc0 => ?_)
 refine V.skip ?_
 refine V.seq ?_
 refine V.block ?_
 refine V.keepT 52 [0, 1, 2, 3] [0, 1, 2] (E0 := [(0, .val (yieldV l)), (1, .ref b2 1 0 0), (2, .ref b1 1 0 0), (3, .ref b3 1 0 0)]) (A := [(b3, ⟨1, [.int .i64 (0 : Int)]⟩), (b2, ⟨1, [.str [c]]⟩), (b1, ⟨1, [.str s]⟩)]) (T := Hc d0) (H0 := [(b3, ⟨1, [.int .i64 (0 : Int)]⟩), (b2, ⟨1, [.str [c]]⟩), (b1, ⟨1, [.str s]⟩)]) (T' := Hc d0) rfl (⟨_, _, rfl, rfl, _, _, rfl, rfl, _, _, rfl, rfl, _, _, rfl, rfl, rfl⟩) rfl (⟨_, _, rfl, rfl, _, _, rfl, rfl, _, _, rfl, rfl, rfl⟩) rfl (List.Sublist.refl _) ?_
 refine V.loopD (D := Nat × D × List UInt8) (fun ⟨k, d, t⟩ => ⟨52, [(0, .val (yieldV l)), (1, .ref b2 1 0 0), (2, .ref b1 1 0 0), (3, .ref b3 1 0 0)], [(b3, ⟨1, [.int .i64 (0 : Int)]⟩), (b2, ⟨1, [.str [c]]⟩), (b1, ⟨1, [.str t]⟩)] ++ Hc d⟩) (fun ⟨k, d, t⟩ => Pd k d ∧ (splitC c s).drop k = splitC c t ∧ t.length ≤ s.length) (fun ⟨k, _, t⟩ => t.length) (0, d0, s) rfl ⟨hP0, rfl, Nat.le_refl _⟩ ?_
 rintro ⟨k, d, t⟩ ⟨hd, hdr, hts⟩
 show V _ _ _ ⟨52, [(0, .val (yieldV l)), (1, .ref b2 1 0 0), (2, .ref b1 1 0 0), (3, .ref b3 1 0 0)], [(b3, ⟨1, [.int .i64 (0 : Int)]⟩), (b2, ⟨1, [.str [c]]⟩), (b1, ⟨1, [.str t]⟩)] ++ Hc d⟩
 refine V.block ?_
 refine V.seq ?_
 refine V.region ?_
 refine VO.cons rfl (V1.loadRef (k := 2) rfl rfl tyk_9 rfl rfl rfl rfl rfl lt0 ?_)
 refine VO.cons rfl (V1.loadRef (k := 1) rfl rfl tyk_9 rfl rfl rfl rfl rfl lt0 ?_)
 refine VO.cons rfl (V1.call rfl rfl rfl cok_25 rfl (ix_strings_SplitSeq (s := t) (b := c)) rfl lt0 ?_)
 rintro _ _ ⟨rfl, rfl⟩
 refine VO.cons rfl (V1.assign rfl rfl rfl lt0 ?_)
 refine VO.nil ?_
 refine V.seq ?_
 refine V.seq ?_
 refine V.region ?_
 refine VO.cons rfl (V1.move rfl rfl rfl lt0 ?_)
 refine VO.cons rfl (V1.int rfl rfl rfl rfl rfl lt0 ?_)
 refine VO.nil ?_
 refine V.cond rfl (fun hc1 => ?_) (fun hc1 => ?_)
 ·
  simp only [decide_eq_true_eq] at hc1
  refine V.exit ?_
  have hx : (List.map encStr (splitC c s))[k]? = some (.str t) := by
   rw [List.getElem?_map]
   have h3 := congrArg (fun z => z[0]?) hdr
   simp only [List.getElem?_drop, Nat.add_zero, splitC_none hc1] at h3
   rw [h3]; rfl
  have hlen : (List.map encStr (splitC c s)).length = k + 1 := by
   have h3 := congrArg List.length hdr
   rw [List.length_drop, splitC_none hc1] at h3
   rw [List.length_map]
   simp only [List.length_cons, List.length_nil] at h3
   omega
  refine V.regionI ?_
  refine VOI.cons rfl (V1.move rfl rfl rfl lt0 ?_)
  refine VOI.cons rfl (V1.loadRef (k := 2) rfl rfl tyk_9 rfl rfl rfl rfl rfl lt0 ?_)
  refine VOI.yield (H := Hc d) (Hr := [(b3, ⟨1, [.int .i64 (0 : Int)]⟩), (b2, ⟨1, [.str [c]]⟩), (b1, ⟨1, [.str t]⟩)]) rfl rfl rfl rfl rfl rfl (show List.Perm ([(b3, ⟨1, [.int .i64 (0 : Int)]⟩), (b2, ⟨1, [.str [c]]⟩), (b1, ⟨1, [.str t]⟩)] ++ Hc d) (Hc d ++ [(b3, ⟨1, [.int .i64 (0 : Int)]⟩), (b2, ⟨1, [.str [c]]⟩), (b1, ⟨1, [.str t]⟩)]) from List.perm_append_comm) hw hnk rfl rfl (hY k d _ hd hx) lt0 ?_
  rintro _ ⟨d', hd', rfl⟩
  refine VOI.nil ?_
  exact ⟨_, _, rfl, List.sublist_append_left _ _, d', by rw [hlen]; exact hd', rfl⟩
 ·
  simp only [decide_eq_false_iff_not] at hc1
  obtain ⟨n, hn⟩ : ∃ n : Nat, Go.Lib.indexByte t c = (n : Int) := ⟨(Go.Lib.indexByte t c).toNat, by omega⟩
  obtain ⟨hnl, hsp⟩ := splitC_some hn
  refine V.weakenK (Keeps.say 7 (y := .int .i64 (n : Int)) rfl (by rw [hn])) ?_
  have hw1 : IntKind.i64.wrap ((n : Int) + (0 : Int)) = (n : Int) := by rw [wrap64_id (by omega) (by omega)]; omega
  have hw2 : IntKind.i64.wrap ((n : Int) + (([c] : List UInt8).length : Int)) = ((n + 1 : Nat) : Int) := by
   rw [show (([c] : List UInt8).length : Int) = 1 from rfl, wrap64_id (by omega) (by omega)]; omega
  have hb : (0 : Int) ≤ (0 : Int) ∧ (0 : Int) ≤ IntKind.i64.wrap ((n : Int) + (0 : Int)) ∧ IntKind.i64.wrap ((n : Int) + (0 : Int)) ≤ (t.length : Int) := by rw [hw1]; exact ⟨by omega, by omega, by omega⟩
  have hb2 : (0 : Int) ≤ IntKind.i64.wrap ((n : Int) + (([c] : List UInt8).length : Int)) ∧ IntKind.i64.wrap ((n : Int) + (([c] : List UInt8).length : Int)) ≤ (t.length : Int) ∧ (t.length : Int) ≤ (t.length : Int) := by rw [hw2]; exact ⟨by omega, by omega, by omega⟩
  have hx : (List.map encStr (splitC c s))[k]? = some (.str (slc t (0 : Int) (IntKind.i64.wrap ((n : Int) + (0 : Int))))) := by
   rw [List.getElem?_map]
   have h3 := congrArg (fun z => z[0]?) hdr
   simp only [List.getElem?_drop, Nat.add_zero, hsp] at h3
   rw [h3, hw1]; rfl
  refine V.skip ?_
  refine V.seq ?_
  refine V.region ?_
  refine VO.cons rfl (V1.loadRef (k := 2) rfl rfl tyk_9 rfl rfl rfl rfl rfl lt0 ?_)
  refine VO.cons rfl (V1.move rfl rfl rfl lt0 ?_)
  refine VO.cons rfl (V1.loadRef (k := 0) rfl rfl tyk_3 rfl rfl rfl rfl rfl lt0 ?_)
  refine VO.cons rfl (V1.int rfl rfl rfl rfl rfl lt0 ?_)
  refine VO.cons rfl (V1.sliceStrI (a := (0 : Int)) (b := IntKind.i64.wrap ((n : Int) + (0 : Int))) rfl rfl istr_9 rfl (Bnd.none _ _) (Bnd.some rfl (Int.le_trans hb.1 hb.2.1) _) hb lt0 ?_)
  refine VO.cons rfl (V1.assign rfl rfl rfl lt0 ?_)
  refine VO.nil ?_
  refine V.seq ?_
  refine V.seq ?_
  refine V.regionI ?_
  refine VOI.cons rfl (V1.move rfl rfl rfl lt0 ?_)
  refine VOI.cons rfl (V1.move rfl rfl rfl lt0 ?_)
  refine VOI.yield (H := Hc d) (Hr := [(b3, ⟨1, [.int .i64 (0 : Int)]⟩), (b2, ⟨1, [.str [c]]⟩), (b1, ⟨1, [.str t]⟩)]) rfl rfl rfl rfl rfl rfl (show List.Perm ([(b3, ⟨1, [.int .i64 (0 : Int)]⟩), (b2, ⟨1, [.str [c]]⟩), (b1, ⟨1, [.str t]⟩)] ++ Hc d) (Hc d ++ [(b3, ⟨1, [.int .i64 (0 : Int)]⟩), (b2, ⟨1, [.str [c]]⟩), (b1, ⟨1, [.str t]⟩)]) from List.perm_append_comm) hw hnk rfl rfl (hY k d _ hd hx) lt0 ?_
  rintro _ ⟨d', hd', rfl⟩
  refine VOI.cons rfl (V1.not rfl rfl rfl lt0 ?_)
  refine VOI.nil ?_
  refine V.cond rfl (fun hc2 => absurd hc2 (by decide)) (fun hc2 => ?_)
  refine V.skip ?_
  refine V.weakenK (Keeps.perm (([(b3, ⟨1, [.int .i64 (0 : Int)]⟩), (b2, ⟨1, [.str [c]]⟩), (b1, ⟨1, [.str t]⟩)] : List (Nat × Obj')) ++ Hc d') (show List.Perm (Hc d' ++ [(b3, ⟨1, [.int .i64 (0 : Int)]⟩), (b2, ⟨1, [.str [c]]⟩), (b1, ⟨1, [.str t]⟩)]) ([(b3, ⟨1, [.int .i64 (0 : Int)]⟩), (b2, ⟨1, [.str [c]]⟩), (b1, ⟨1, [.str t]⟩)] ++ Hc d') from List.perm_append_comm)) ?_
  refine V.region ?_
  refine VO.cons rfl (V1.loadRef (k := 2) rfl rfl tyk_9 rfl rfl rfl rfl rfl lt0 ?_)
  refine VO.cons rfl (V1.move rfl rfl rfl lt0 ?_)
  refine VO.cons rfl (V1.loadRef (k := 1) rfl rfl tyk_9 rfl rfl rfl rfl rfl lt0 ?_)
  refine VO.cons rfl (V1.lenStr rfl rfl rfl rfl rfl rfl istr_9 lt0 ?_)
  refine VO.cons rfl (V1.int rfl rfl rfl rfl rfl lt0 ?_)
  refine VO.cons rfl (V1.sliceStrI (a := IntKind.i64.wrap ((n : Int) + (([c] : List UInt8).length : Int))) (b := (t.length : Int)) rfl rfl istr_9 rfl (Bnd.some rfl hb2.1 _) (Bnd.none _ _) hb2 lt0 ?_)
  refine VO.cons rfl (V1.storeRef (k := 2) rfl rfl tyk_9 rfl rfl rfl rfl rfl rfl rfl rfl rfl ?_)
  have hrest : slc t (IntKind.i64.wrap ((n : Int) + (([c] : List UInt8).length : Int))) (t.length : Int) = t.drop (n + 1) := by rw [hw2]; simp [slc]
  refine VO.weakenK (Keeps.sayObj 2 (ys := [.str (t.drop (n + 1))]) rfl (congrArg (fun z => [PV.str z]) hrest)) ?_
  refine VO.nil ?_
  exact ⟨(k + 1, d', t.drop (n + 1)), ⟨hd', by rw [← List.drop_drop, hdr, hsp]; rfl, by rw [List.length_drop]; omega⟩, by show (t.drop (n + 1)).length < t.length; rw [List.length_drop]; omega, Keeps.mkT (A := [(b3, ⟨1, [.int .i64 (0 : Int)]⟩), (b2, ⟨1, [.str [c]]⟩), (b1, ⟨1, [.str (t.drop (n + 1))]⟩)]) (T := Hc d') (ks := [0, 1, 2]) rfl (by exact ⟨rfl, rfl, rfl, rfl, trivial⟩) rfl (by exact ⟨_, _, rfl, rfl, _, _, rfl, rfl, _, _, rfl, rfl, rfl⟩) rfl (List.Sublist.refl _)⟩

theorem ok_strings_Cut {rn : Nat} {s sep : List UInt8} {r : List UInt8 × List UInt8 × Bool} (h : M.strings_Cut s sep = some r) : Does Tryz.prog 22 [.str s, .str sep] [] rn (fun x H => x = .tup [.str r.1, .str r.2.1, .bool r.2.2] ∧ H = []) := by
 unfold M.strings_Cut at h
 obtain ⟨h1, h⟩ := asrt_some h
 obtain rfl := Option.some.inj h; clear h
 refine Does.ofBelowW (vs := [.string ⟨s.toArray⟩, .string ⟨sep.toArray⟩]) (v := .tuple #[.string ⟨(Go.Lib.cut s sep).1.toArray⟩, .string ⟨(Go.Lib.cut s sep).2.1.toArray⟩, .bool (Go.Lib.cut s sep).2.2]) (fun w S us hr => ?_) (fun w S => ?_) (fun w hL => ?_)
 · obtain ⟨us1, rfl, hr1⟩ := reps_str hr
   obtain ⟨us2, rfl, hr2⟩ := reps_str hr1
   rw [Reps.nil_iff.1 hr2]
 · unfold Rep
   exact ⟨[.string ⟨(Go.Lib.cut s sep).1.toArray⟩, .string ⟨(Go.Lib.cut s sep).2.1.toArray⟩, .bool (Go.Lib.cut s sep).2.2], rfl, Reps.cons_iff.2 ⟨_, _, rfl, rep_str, Reps.cons_iff.2 ⟨_, _, rfl, rep_str, Reps.cons_iff.2 ⟨_, _, rfl, rep_bool, Reps.nil_iff.2 rfl⟩⟩⟩⟩
 · obtain ⟨g0, m0, g1, g2⟩ := hL.maxLen
   have g3 : g0 = Go.Proofs.Tryz.lays145_ren.g 1 := Option.some.inj (g1.symm.trans (by kernel_rfl))
   subst g3
   refine (Go.Proofs.Any.strings_Cut Go.Proofs.Tryz.lays145 ⟨s.toArray⟩ ⟨sep.toArray⟩ m0 w (by simpa [ByteArray.size] using h1) g2).mono ?_
   rintro e w' ⟨rfl, n, rfl⟩
   exact ⟨rfl, ⟨rfl, rfl, rfl, Nat.le_refl _, fun _ _ => rfl⟩⟩

theorem ok_strings_TrimRight {rn : Nat} {s cutset r : List UInt8} (h : M.strings_TrimRight s cutset = some r) : Does Tryz.prog 23 [.str s, .str cutset] [] rn (fun x H => x = .str r ∧ H = []) := by
 unfold M.strings_TrimRight at h
 obtain ⟨⟨h1, h2, h3⟩, h⟩ := asrt_some h
 obtain rfl := Option.some.inj h; clear h
 refine Does.ofBelow (vs := [.string ⟨s.toArray⟩, .string ⟨cutset.toArray⟩]) (v := .string ⟨(Go.Lib.trimRightS s cutset).toArray⟩) (fun w S us hr => ?_) (fun w S => rep_str) (fun w => ?_)
 · obtain ⟨us1, rfl, hr1⟩ := reps_str hr
   obtain ⟨us2, rfl, hr2⟩ := reps_str hr1
   rw [Reps.nil_iff.1 hr2]
 · exact Go.Proofs.Any.strings_TrimRight_laid Go.Proofs.Tryz.lays162 (by kernel_rfl) ⟨s.toArray⟩ ⟨cutset.toArray⟩ w (by simpa [ByteArray.size] using h1) (by simpa [ByteArray.size] using h2) (ascii_all h3)

theorem ok_strings_Trim {rn : Nat} {s cutset r : List UInt8} (h : M.strings_Trim s cutset = some r) : Does Tryz.prog 50 [.str s, .str cutset] [] rn (fun x H => x = .str r ∧ H = []) := by
 unfold M.strings_Trim at h
 obtain ⟨⟨h1, h2, h3⟩, h⟩ := asrt_some h
 obtain rfl := Option.some.inj h; clear h
 refine Does.ofBelow (vs := [.string ⟨s.toArray⟩, .string ⟨cutset.toArray⟩]) (v := .string ⟨(Go.Lib.trimS s cutset).toArray⟩) (fun w S us hr => ?_) (fun w S => rep_str) (fun w => ?_)
 · obtain ⟨us1, rfl, hr1⟩ := reps_str hr
   obtain ⟨us2, rfl, hr2⟩ := reps_str hr1
   rw [Reps.nil_iff.1 hr2]
 · exact Go.Proofs.Any.strings_Trim_laid Go.Proofs.Tryz.lays160 (by kernel_rfl) ⟨s.toArray⟩ ⟨cutset.toArray⟩ w (by simpa [ByteArray.size] using h1) (by simpa [ByteArray.size] using h2) (ascii_all h3)

theorem ok_impl_digitsOf {rn : Nat} {s : List UInt8} {r : Int} (h : M.impl_digitsOf s = some r) : Does Tryz.prog 24 [.str s] [] rn (fun x H => x = .int .i64 r ∧ H = []) := by
 have hm0 := h; clear h; unfold M.impl_digitsOf at hm0
 try dsimp only at hm0
 refine Does.intro (N := 32) Tryz.func24 rfl rfl rfl rfl ?_
 intro w0 S0 L0
 refine V.seq ?_
 refine V.region ?_
 refine VO.cons rfl (V1.assign rfl rfl rfl lt0 ?_)
 refine VO.nil ?_
 refine V.seq ?_
 refine V.seq ?_
 replace hm0 := bindO hm0; rcases hm0 with ⟨y0, hh0, hm0⟩
 refine V.region ?_
 refine VO.cons rfl (V1.move rfl rfl rfl lt0 ?_)
 refine VO.cons rfl (V1.str rfl rfl rfl rfl rfl lt0 ?_)
 refine VO.cons rfl (V1.move rfl rfl rfl lt0 ?_)
 apply VO.or (n := 3) rfl rfl rfl rfl rfl rfl lt0 (.none rfl)
 ·
  intro hg0
  refine VO.step (.some rfl rfl rfl) (V1.move rfl rfl rfl lt0 ?_)
  refine VO.step (.some rfl rfl rfl) (V1.lenStr rfl rfl rfl rfl rfl rfl istr_9 lt0 ?_)
  refine VO.step (.some rfl rfl rfl) (V1.int rfl rfl rfl rfl rfl lt0 ?_)
  exact VO.nil ⟨rfl, rfl, rfl, rfl, .inr ⟨rfl, .inr ⟨rfl, .inr ⟨rfl, .inr ⟨rfl, .inl rfl⟩⟩⟩⟩⟩
 refine VO.cons rfl (V1.move rfl rfl rfl lt0 ?_)
 apply VO.or (n := 3) rfl rfl rfl rfl rfl rfl lt0 (.none rfl)
 ·
  intro hg1
  refine VO.step (.some rfl rfl rfl) (V1.move rfl rfl rfl lt0 ?_)
  refine VO.step (.some rfl rfl rfl) (V1.call rfl rfl rfl cok_50 rfl (ok_strings_Trim (cond_f hg1 hh0)) rfl lt0 ?_)
  rintro _ _ ⟨rfl, rfl⟩
  refine VO.step (.some rfl rfl rfl) (V1.str rfl rfl rfl rfl rfl lt0 ?_)
  exact VO.nil ⟨rfl, rfl, rfl, rfl, .inr ⟨rfl, .inr ⟨rfl, .inr ⟨rfl, .inr ⟨rfl, .inl rfl⟩⟩⟩⟩⟩
 refine VO.nil ?_
 refine V.keep 32 [0, 16] [] (E0 := [(0, .str s), (16, .bool (((s == ([])) || (decide ((s.length : Int) > (7 : Int)))) || (!(y0 == ([])))))]) (H0 := []) rfl (⟨_, _, rfl, rfl, _, _, rfl, rfl, rfl⟩) (rfl) rfl ?_
 refine V.cond rfl (fun hc0 => ?_) (fun hc0 => ?_)
 ·
  replace hm0 := cond_t hc0 hm0
  refine V.seq ?_
  refine V.region ?_
  refine VO.cons rfl (V1.assign rfl rfl rfl lt0 ?_)
  refine VO.nil ?_
  refine V.ret ?_
  obtain rfl := Option.some.inj hm0
  exact ⟨_, [], ⟨_, _, rfl, rfl, rfl⟩, List.nil_sublist _, rfl, rfl⟩
 ·
  replace hm0 := cond_f hc0 hm0
  refine V.skip ?_
  refine V.seq ?_
  refine V.region ?_
  refine VO.cons rfl (V1.assign rfl rfl rfl lt0 ?_)
  refine VO.nil ?_
  refine V.seq ?_
  refine V.seq ?_
  refine V.region ?_
  refine VO.cons rfl (V1.move rfl rfl rfl lt0 ?_)
  refine VO.cons rfl (V1.lenStr rfl rfl rfl rfl rfl rfl istr_9 lt0 ?_)
  refine VO.cons rfl (V1.move rfl rfl rfl lt0 ?_)
  refine VO.nil ?_
  replace hm0 := bindO hm0; rcases hm0 with ⟨e0, he1, hm0⟩
  refine V.cutT (D := (Int) × (Unit)) (fun ⟨n_, _⟩ => ⟨32, [(3, .int .i64 n_)], []⟩) (fun ⟨n_, _⟩ => (n_ = e0)) ?_ ?_
  ·
   refine V.block ?_
   refine V.keep 32 [3, 19, 0, 18] [] (E0 := [(3, .int .i64 (0 : Int)), (19, .int .i64 (0 : Int)), (0, .str s), (18, .int .i64 (s.length : Int))]) (H0 := []) rfl (⟨_, _, rfl, rfl, _, _, rfl, rfl, _, _, rfl, rfl, _, _, rfl, rfl, rfl⟩) (rfl) rfl ?_
   refine V.loopE (D := Nat × (Int × Int) × (Unit)) (fun ⟨n0, ⟨n_0, v⟩, _⟩ => [(3, .int .i64 n_0), (19, .int .i64 v)]) (fun ⟨n0, ⟨n_0, v⟩, _⟩ => []) (fun ⟨n0, ⟨n_0, v⟩, _⟩ => loopO (M.impl_digitsOf_l0 s) n0 (n_0, v) = some e0) (fun ⟨n0, _, _⟩ => n0) (rounds, ((0 : Int), (0 : Int)), ()) rfl he1 ?_
   rintro ⟨n0, ⟨n_0, v⟩, _⟩ hP0
   obtain ⟨m0, y1, rfl, hm1, hl1, hr1⟩ := loop_head hP0
   unfold M.impl_digitsOf_l0 at hm1; dsimp only at hm1
   show V _ _ _ ⟨32, [(3, .int .i64 n_0), (19, .int .i64 v), (0, .str s), (18, .int .i64 (s.length : Int))], []⟩
   refine V.seq ?_
   refine V.region ?_
   refine VO.cons rfl (V1.int rfl rfl rfl rfl rfl lt0 ?_)
   refine VO.nil ?_
   refine V.seq ?_
   refine V.cond rfl (fun hc1 => ?_) (fun hc1 => ?_)
   ·
    replace hm1 := cond_t hc1 hm1
    refine V.skip ?_
    refine V.seq ?_
    refine V.block ?_
    refine V.seq ?_
    refine V.region ?_
    refine VO.cons rfl (V1.move rfl rfl rfl lt0 ?_)
    refine VO.cons rfl (V1.assign rfl rfl rfl lt0 ?_)
    refine VO.nil ?_
    replace hm1 := asrt_some hm1; rcases hm1 with ⟨hh1, hm1⟩
    refine V.region ?_
    refine VO.cons rfl (V1.move rfl rfl rfl lt0 ?_)
    refine VO.cons rfl (V1.int rfl rfl rfl rfl rfl lt0 ?_)
    refine VO.cons rfl (V1.move rfl rfl rfl lt0 ?_)
    refine VO.cons rfl (V1.move rfl rfl rfl lt0 ?_)
    refine VO.cons rfl (V1.indexStrI rfl rfl istr_9 rfl rfl hh1 lt0 ?_)
    refine VO.cons rfl (V1.int rfl rfl rfl rfl rfl lt0 ?_)
    refine VO.cons rfl (V1.conv rfl rfl und_5 und_3 rfl lt0 ?_)
    refine VO.cons rfl (V1.int rfl rfl rfl rfl rfl lt0 ?_)
    refine VO.cons rfl (V1.assign rfl rfl rfl lt0 ?_)
    refine VO.nil ?_
    refine V.keep 32 [0, 3, 18, 19] [] (E0 := [(0, .str s), (3, .int .i64 (IntKind.i64.wrap ((IntKind.i64.wrap (n_0 * (10 : Int))) + (IntKind.i64.wrap (IntKind.u8.wrap (((s.getD (Int.toNat v) 0).toNat : Int) - (48 : Int))))))), (18, .int .i64 (s.length : Int)), (19, .int .i64 v)]) (H0 := []) rfl (⟨_, _, rfl, rfl, _, _, rfl, rfl, _, _, rfl, rfl, _, _, rfl, rfl, rfl⟩) (rfl) rfl ?_
    refine V.region ?_
    refine VO.cons rfl (V1.int rfl rfl rfl rfl rfl lt0 ?_)
    refine VO.cons rfl (V1.move rfl rfl rfl lt0 ?_)
    refine VO.nil ?_
    exact ⟨(m0, ((IntKind.i64.wrap ((IntKind.i64.wrap (n_0 * (10 : Int))) + (IntKind.i64.wrap (IntKind.u8.wrap (((s.getD (Int.toNat v) 0).toNat : Int) - (48 : Int)))))), (IntKind.i64.wrap (v + (1 : Int)))), ()), hl1 _ (Option.some.inj hm1).symm, Nat.lt_succ_self _, Keeps.mk (ks := []) rfl ⟨rfl, rfl, rfl, rfl, trivial⟩ (rfl) rfl⟩
   ·
    replace hm1 := cond_f hc1 hm1
    refine V.exit ?_
    obtain rfl := hr1 _ (Option.some.inj hm1).symm
    exact ⟨(n_0, ()), rfl, Keeps.mk (ks := []) rfl ⟨rfl, trivial⟩ (rfl) rfl⟩
  ·
   rintro ⟨n_, _⟩ rfl
   try dsimp only at hm0
   refine V.seq ?_
   refine V.region ?_
   refine VO.cons rfl (V1.move rfl rfl rfl lt0 ?_)
   refine VO.cons rfl (V1.assign rfl rfl rfl lt0 ?_)
   refine VO.nil ?_
   refine V.ret ?_
   obtain rfl := Option.some.inj hm0
   exact ⟨_, [], ⟨_, _, rfl, rfl, rfl⟩, List.nil_sublist _, rfl, rfl⟩

theorem ok_strings_Index {rn : Nat} {s sub : List UInt8} {r : Int} (h : M.strings_Index s sub = some r) : Does Tryz.prog 25 [.str s, .str sub] [] rn (fun x H => x = .int .i64 r ∧ H = []) := by
 unfold M.strings_Index at h
 obtain ⟨h1, h⟩ := asrt_some h
 obtain rfl := Option.some.inj h; clear h
 refine Does.ofBelowW (vs := [.string ⟨s.toArray⟩, .string ⟨sub.toArray⟩]) (v := .int .i64 (Go.Lib.index s sub)) (fun w S us hr => ?_) (fun w S => rep_int) (fun w hL => ?_)
 · obtain ⟨us1, rfl, hr1⟩ := reps_str hr
   obtain ⟨us2, rfl, hr2⟩ := reps_str hr1
   rw [Reps.nil_iff.1 hr2]
 · obtain ⟨g0, m0, g1, g2⟩ := hL.maxLen
   have g3 : g0 = Go.Proofs.Tryz.lays143_ren.g 1 := Option.some.inj (g1.symm.trans (by kernel_rfl))
   subst g3
   refine (Go.Proofs.Any.strings_Index Go.Proofs.Tryz.lays143 ⟨s.toArray⟩ ⟨sub.toArray⟩ m0 w (by simpa [ByteArray.size] using h1) g2).mono ?_
   rintro e w' ⟨rfl, rfl⟩
   exact ⟨rfl, Go.RowKit.Below.refl _ _⟩

theorem ok_impl_ParseSchedule {rn : Nat} {s : List UInt8} {r : List Rule × Bool} (h : M.impl_ParseSchedule s = some r) : Does Tryz.prog 7 [.str s] [] rn (fun x H => ∃ (ob0_ : Option Nat), (ob0_ = none → r.1 = []) ∧ x = .tup [optS 4 ob0_ (List.length r.1), .bool r.2] ∧ H = optH 4 ob0_ (List.map encRule r.1)) := by
 have hm0 := h; clear h; unfold M.impl_ParseSchedule at hm0
 try dsimp only at hm0
 refine Does.intro (N := 57) Tryz.func7 rfl rfl rfl rfl ?_
 intro w0 S0 L0
 refine V.seq ?_
 refine V.region ?_
 refine VO.cons rfl (V1.assign rfl rfl rfl lt0 ?_)
 refine VO.cons rfl (V1.assign rfl rfl rfl lt0 ?_)
 refine VO.nil ?_
 refine V.seq ?_
 refine V.seq ?_
 refine V.region ?_
 refine VO.cons rfl (V1.move rfl rfl rfl lt0 ?_)
 refine VO.cons rfl (V1.str rfl rfl rfl rfl rfl lt0 ?_)
 refine VO.nil ?_
 refine V.cond rfl (fun hc0 => ?_) (fun hc0 => ?_)
 ·
  replace hm0 := cond_t hc0 hm0
  refine V.seq ?_
  refine V.region ?_
  refine VO.cons rfl (V1.assign rfl rfl rfl lt0 ?_)
  refine VO.cons rfl (V1.assign rfl rfl rfl lt0 ?_)
  refine VO.nil ?_
  refine V.keep 57 [2, 3] [] (E0 := [(2, .nils), (3, .bool true)]) (H0 := []) rfl (⟨_, _, rfl, rfl, _, _, rfl, rfl, rfl⟩) (rfl) rfl ?_
  refine V.ret ?_
  obtain rfl := Option.some.inj hm0
  exact ⟨_, _, ⟨_, _, rfl, rfl, _, _, rfl, rfl, rfl⟩, List.Sublist.refl _, none, (fun _ => rfl), rfl, rfl⟩
 ·
  replace hm0 := cond_f hc0 hm0
  refine V.skip ?_
  refine V.keep 57 [0] [] (E0 := [(0, .str s)]) (H0 := []) rfl (⟨_, _, rfl, rfl, rfl⟩) (rfl) rfl ?_
  refine V.seq ?_
  refine V.region ?_
  refine VO.cons rfl (V1.alloc rfl rfl zk_24 lt0 ?_)
  intro b0
  refine VO.nil ?_
  refine V.seq ?_
  refine V.seq ?_
  replace hm0 := bindO hm0; rcases hm0 with ⟨y0, hh0, hm0⟩
  refine V.region ?_
  refine VO.cons rfl (V1.move rfl rfl rfl lt0 ?_)
  refine VO.cons rfl (V1.call rfl rfl rfl cok_21 rfl (ok_strings_SplitSeq hh0) rfl lt0 ?_)
  rintro _ _ ⟨b1, b2, b3, rfl, rfl⟩
  refine VO.nil ?_
  refine V.block ?_
  replace hm0 := bindO hm0; rcases hm0 with ⟨e0, he1, hm0⟩
  refine V.keep 57 [0, 4, 15] [0, 1, 2, 3] (E0 := [(0, .str s), (4, .ref b0 1 0 0), (15, .fn 68 [.ref b2 1 0 0, .ref b1 1 0 0, .ref b3 1 0 0])]) (H0 := [(b3, ⟨1, [.int .i64 (0 : Int)]⟩), (b2, ⟨1, [.str ([32])]⟩), (b1, ⟨1, [.str s]⟩), (b0, ⟨1, [.nils]⟩)]) rfl (⟨_, _, rfl, rfl, _, _, rfl, rfl, _, _, rfl, rfl, rfl⟩) (⟨_, _, rfl, rfl, _, _, rfl, rfl, _, _, rfl, rfl, _, _, rfl, rfl, rfl⟩) rfl ?_
  refine V.rangeFunc0 (D := (List Rule) × (Option Nat)) (fun ⟨list_x, ob0⟩ => optH 4 ob0 (List.map encRule list_x) ++ [(b0, ⟨1, [optS 4 ob0 (List.length list_x)]⟩)]) (fun k_ ⟨list_x, ob0⟩ => foldO (M.impl_ParseSchedule_l0) (List.drop k_ y0) list_x = some e0 ∧ (ob0 = none → list_x = [])) (([] : List Rule), none) [(b3, ⟨1, [.int .i64 (0 : Int)]⟩), (b2, ⟨1, [.str ([32])]⟩), (b1, ⟨1, [.str s]⟩)] rfl cok_68 rfl rfl rfl lt0 lt0 rfl rfl (.of_eq rfl) (it_strings_SplitSeq hh0) ⟨he1, (fun _ => rfl)⟩ ?_ ?_
  ·
   rintro l_ k_ ⟨list_x, ob0⟩ x_ ⟨hP0, hob0⟩ hx_
   obtain ⟨y_, s_, rfl, hm1, hl1⟩ := fold_head hP0 hx_
   unfold M.impl_ParseSchedule_l0 at hm1; dsimp only at hm1
   intro w1 S1 L1
   rcases ob0 with _ | ob0
   ·
    replace hob0 := hob0 rfl
    show V _ _ _ ⟨57, [(5, .str y_), (16, .str y_), (0, .str s), (4, .ref b0 1 0 0), (15, .fn 68 [.ref b2 1 0 0, .ref b1 1 0 0, .ref b3 1 0 0])], [(b0, ⟨1, [.nils]⟩)]⟩
    refine V.block ?_
    refine V.seq ?_
    replace hm1 := bindO hm1; rcases hm1 with ⟨y1, hh1, hm1⟩
    refine V.region ?_
    refine VO.cons rfl (V1.move rfl rfl rfl lt0 ?_)
    refine VO.cons rfl (V1.call rfl rfl rfl cok_22 rfl (ok_strings_Cut hh1) rfl lt0 ?_)
    rintro _ _ ⟨rfl, rfl⟩
    refine VO.cons rfl (V1.move rfl rfl rfl lt0 ?_)
    refine VO.cons rfl (V1.extract rfl rfl rfl rfl lt0 ?_)
    refine VO.cons rfl (V1.extract rfl rfl rfl rfl lt0 ?_)
    refine VO.cons rfl (V1.extract rfl rfl rfl rfl lt0 ?_)
    refine VO.cons rfl (V1.assign rfl rfl rfl lt0 ?_)
    refine VO.cons rfl (V1.assign rfl rfl rfl lt0 ?_)
    refine VO.cons rfl (V1.assign rfl rfl rfl lt0 ?_)
    refine VO.nil ?_
    refine V.keep 57 [0, 4, 6, 7] [0] (E0 := [(0, .str s), (4, .ref b0 1 0 0), (6, .str y1.1), (7, .str y1.2.1)]) (H0 := [(b0, ⟨1, [.nils]⟩)]) rfl (⟨_, _, rfl, rfl, _, _, rfl, rfl, _, _, rfl, rfl, _, _, rfl, rfl, rfl⟩) (⟨_, _, rfl, rfl, rfl⟩) rfl ?_
    refine V.seq ?_
    replace hm1 := bindO hm1; rcases hm1 with ⟨y2, hh2, hm1⟩
    refine V.region ?_
    refine VO.cons rfl (V1.move rfl rfl rfl lt0 ?_)
    refine VO.cons rfl (V1.call rfl rfl rfl cok_22 rfl (ok_strings_Cut hh2) rfl lt0 ?_)
    rintro _ _ ⟨rfl, rfl⟩
    refine VO.cons rfl (V1.move rfl rfl rfl lt0 ?_)
    refine VO.cons rfl (V1.extract rfl rfl rfl rfl lt0 ?_)
    refine VO.cons rfl (V1.extract rfl rfl rfl rfl lt0 ?_)
    refine VO.cons rfl (V1.extract rfl rfl rfl rfl lt0 ?_)
    refine VO.cons rfl (V1.assign rfl rfl rfl lt0 ?_)
    refine VO.cons rfl (V1.assign rfl rfl rfl lt0 ?_)
    refine VO.cons rfl (V1.assign rfl rfl rfl lt0 ?_)
    refine VO.nil ?_
    refine V.keep 57 [0, 4, 6, 7, 9] [0] (E0 := [(0, .str s), (4, .ref b0 1 0 0), (6, .str y1.1), (7, .str y2.2.1), (9, .str y2.1)]) (H0 := [(b0, ⟨1, [.nils]⟩)]) rfl (⟨_, _, rfl, rfl, _, _, rfl, rfl, _, _, rfl, rfl, _, _, rfl, rfl, _, _, rfl, rfl, rfl⟩) (⟨_, _, rfl, rfl, rfl⟩) rfl ?_
    refine V.seq ?_
    replace hm1 := bindO hm1; rcases hm1 with ⟨y3, hh3, hm1⟩
    refine V.region ?_
    refine VO.cons rfl (V1.move rfl rfl rfl lt0 ?_)
    refine VO.cons rfl (V1.call rfl rfl rfl cok_23 rfl (ok_strings_TrimRight hh3) rfl lt0 ?_)
    rintro _ _ ⟨rfl, rfl⟩
    refine VO.cons rfl (V1.assign rfl rfl rfl lt0 ?_)
    refine VO.nil ?_
    replace hm1 := bindO hm1; rcases hm1 with ⟨y4, hh4, hm1⟩
    replace hm1 := bindO hm1; rcases hm1 with ⟨y5, hh5, hm1⟩
    replace hm1 := bindO hm1; rcases hm1 with ⟨y6, hh6, hm1⟩
    replace hm1 := asrt_some hm1; rcases hm1 with ⟨hh7, hm1⟩
    replace hm1 := bindO hm1; rcases hm1 with ⟨y7, hh8, hm1⟩
    replace hm1 := asrt_some hm1; rcases hm1 with ⟨hh9, hm1⟩
    refine V.regionS [(b0, ⟨1, [.nils]⟩)] 57 15 [⟨[(4, none)], true⟩, ⟨[(6, none)], false⟩, ⟨[(32, some 1)], false⟩, ⟨[(9, none)], false⟩, ⟨[(34, some 3)], false⟩, ⟨[(11, none)], false⟩, ⟨[(36, some 5)], false⟩, ⟨[(7, none)], false⟩, ⟨[(11, none)], false⟩, ⟨[(39, some 8)], false⟩, ⟨[(38, some 7), (40, some 9)], false⟩, ⟨[(41, some 10)], false⟩, ⟨[(42, some 11)], false⟩, ⟨[(33, some 2), (35, some 4), (37, some 6), (43, some 12)], false⟩, ⟨[(44, some 13)], false⟩] [(0, none), (4, none), (31, some 0), (45, some 14)] 1 (⟨_, rfl, ⟨_, rfl, ⟨_, rfl, ⟨_, rfl, ⟨_, rfl, ⟨_, rfl, ⟨_, rfl, ⟨_, rfl, ⟨_, rfl, ⟨_, rfl, ⟨_, rfl, ⟨_, rfl, ⟨_, rfl, ⟨_, rfl, ⟨_, rfl, ⟨rfl, rfl⟩⟩⟩⟩⟩⟩⟩⟩⟩⟩⟩⟩⟩⟩⟩⟩) mixed_orders rfl (by decide +kernel) ?_
    refine WalkP.step (p := ?pv453) 1 rfl rfl rfl rfl rfl (⟨_, _, rfl, rfl, rfl⟩) ?hv453 ?rest453
    case hv453 =>
     intro E1 H1 hI1
     refine (V1.move rfl rfl rfl lt0 ?_)
     exact rfl
    refine WalkP.step (p := ?pv454) 2 rfl rfl rfl rfl rfl (⟨_, _, rfl, rfl, rfl⟩) ?hv454 ?rest454
    case hv454 =>
     intro E1 H1 hI1
     refine (V1.call rfl rfl rfl cok_24 rfl (ok_impl_digitsOf hh4) rfl lt0 ?_)
     rintro _ _ ⟨rfl, rfl⟩
     exact rfl
    refine WalkP.step (p := ?pv456) 3 rfl rfl rfl rfl rfl (⟨_, _, rfl, rfl, rfl⟩) ?hv456 ?rest456
    case hv456 =>
     intro E1 H1 hI1
     refine (V1.move rfl rfl rfl lt0 ?_)
     exact rfl
    refine WalkP.step (p := ?pv457) 4 rfl rfl rfl rfl rfl (⟨_, _, rfl, rfl, rfl⟩) ?hv457 ?rest457
    case hv457 =>
     intro E1 H1 hI1
     refine (V1.call rfl rfl rfl cok_24 rfl (ok_impl_digitsOf hh5) rfl lt0 ?_)
     rintro _ _ ⟨rfl, rfl⟩
     exact rfl
    refine WalkP.step (p := ?pv459) 5 rfl rfl rfl rfl rfl (⟨_, _, rfl, rfl, rfl⟩) ?hv459 ?rest459
    case hv459 =>
     intro E1 H1 hI1
     refine (V1.move rfl rfl rfl lt0 ?_)
     exact rfl
    refine WalkP.step (p := ?pv460) 6 rfl rfl rfl rfl rfl (⟨_, _, rfl, rfl, rfl⟩) ?hv460 ?rest460
    case hv460 =>
     intro E1 H1 hI1
     refine (V1.call rfl rfl rfl cok_24 rfl (ok_impl_digitsOf hh6) rfl lt0 ?_)
     rintro _ _ ⟨rfl, rfl⟩
     exact rfl
    refine WalkP.step (p := ?pv462) 7 rfl rfl rfl rfl rfl (⟨_, _, rfl, rfl, rfl⟩) ?hv462 ?rest462
    case hv462 =>
     intro E1 H1 hI1
     refine (V1.move rfl rfl rfl lt0 ?_)
     exact rfl
    refine WalkP.step (p := ?pv463) 8 rfl rfl rfl rfl rfl (⟨_, _, rfl, rfl, rfl⟩) ?hv463 ?rest463
    case hv463 =>
     intro E1 H1 hI1
     refine (V1.move rfl rfl rfl lt0 ?_)
     exact rfl
    refine WalkP.step (p := ?pv464) 9 rfl rfl rfl rfl rfl (⟨_, _, rfl, rfl, rfl⟩) ?hv464 ?rest464
    case hv464 =>
     intro E1 H1 hI1
     refine (V1.lenStr rfl rfl rfl rfl rfl rfl istr_9 lt0 ?_)
     exact rfl
    refine WalkP.step (p := ?pv465) 10 rfl rfl rfl rfl rfl (⟨_, _, rfl, rfl, _, _, rfl, rfl, rfl⟩) ?hv465 ?rest465
    case hv465 =>
     intro E1 H1 hI1
     refine (V1.sliceStrI (a := (y3.length : Int)) (b := (y2.2.1.length : Int)) rfl rfl istr_9 rfl (Bnd.some rfl hh7.1 _) (Bnd.none _ _) hh7 lt0 ?_)
     exact rfl
    refine WalkP.step (p := ?pv466) 11 rfl rfl rfl rfl rfl (⟨_, _, rfl, rfl, rfl⟩) ?hv466 ?rest466
    case hv466 =>
     intro E1 H1 hI1
     refine (V1.call rfl rfl rfl cok_25 rfl (ok_strings_Index hh8) rfl lt0 ?_)
     rintro _ _ ⟨rfl, rfl⟩
     exact rfl
    refine WalkP.step (p := ?pv468) 12 rfl rfl rfl rfl rfl (⟨_, _, rfl, rfl, rfl⟩) ?hv468 ?rest468
    case hv468 =>
     intro E1 H1 hI1
     refine (V1.int rfl rfl rfl rfl rfl lt0 ?_)
     exact rfl
    refine WalkP.step (p := ?pv469) 13 rfl rfl rfl rfl rfl (⟨_, _, rfl, rfl, _, _, rfl, rfl, _, _, rfl, rfl, _, _, rfl, rfl, rfl⟩) ?hv469 ?rest469
    case hv469 =>
     intro E1 H1 hI1
     refine (V1.build rfl rfl zk_50 pl_50 rfl rfl lt0 ?_)
     exact rfl
    refine WalkP.step (p := ?pv470) 14 rfl rfl rfl rfl rfl (⟨_, _, rfl, rfl, rfl⟩) ?hv470 ?rest470
    case hv470 =>
     intro E1 H1 hI1
     refine (V1.buildFrz (f := encRule) ([(⟨y4, y5, y6, (IntKind.i64.wrap ((1 : Int) + y7))⟩ : Rule)] : List Rule) (fun _ => rfl) (fun c hc => iIn hI1 c ((iKCons (b := b0) 0 rfl iNil) c hc)) rfl rfl esz_24 zk_50 rfl rfl rfl rfl rfl rfl rfl lt0 ?_)
     exact rfl
    refine WalkP.nil ?_
    refine NodeS.branch [0] (inCons 0 rfl inNil) rfl rfl rfl ⟨?_, trivial⟩
    ·
     refine ⟨_, _, _, _, rfl, rfl, rfl, (⟨_, _, rfl, rfl, rfl⟩), fun E1 => ?_⟩
     refine (V1.loadRef (k := 0) rfl rfl tyk_24 rfl rfl rfl rfl rfl lt0 ?_)
     refine ⟨_, _, rfl, ?_⟩
     refine WalkP.nil ?_
     refine NodeS.fin (inCons 0 rfl inNil) rfl rfl rfl (⟨_, _, rfl, rfl, _, _, rfl, rfl, _, _, rfl, rfl, _, _, rfl, rfl, rfl⟩) ?_
     refine VO.cons rfl (V1.appendNilE (f := encRule) (l := list_x) (m := ([(⟨y4, y5, y6, (IntKind.i64.wrap ((1 : Int) + y7))⟩ : Rule)] : List Rule)) hob0 rfl rfl rfl rfl rfl esz_24 eby_24 zk_50 rfl rfl rfl (.vl isl_24) rfl hh9 lt0 ?_)
     intro b7
     refine VO.cons rfl (V1.storeRefAll (k := 1) rfl rfl tyk_24 rfl rfl rfl rfl rfl rfl ?_)
     refine VO.nil ?_
     obtain rfl := Option.some.inj hm1
     exact ⟨rfl, _, ⟨((list_x ++ ([(⟨y4, y5, y6, (IntKind.i64.wrap ((1 : Int) + y7))⟩ : Rule)] : List Rule)), (some b7)), ⟨hl1, (fun e => by cases e)⟩, rfl⟩, Keeps.mk (ks := [0, 1]) rfl trivial (⟨_, _, rfl, rfl, _, _, rfl, rfl, rfl⟩) rfl⟩
   ·
    show V _ _ _ ⟨57, [(5, .str y_), (16, .str y_), (0, .str s), (4, .ref b0 1 0 0), (15, .fn 68 [.ref b2 1 0 0, .ref b1 1 0 0, .ref b3 1 0 0])], [(ob0, ⟨4, List.map encRule list_x⟩), (b0, ⟨1, [.sref ob0 4 0 (List.length list_x)]⟩)]⟩
    refine V.block ?_
    refine V.seq ?_
    replace hm1 := bindO hm1; rcases hm1 with ⟨y1, hh1, hm1⟩
    refine V.region ?_
    refine VO.cons rfl (V1.move rfl rfl rfl lt0 ?_)
    refine VO.cons rfl (V1.call rfl rfl rfl cok_22 rfl (ok_strings_Cut hh1) rfl lt0 ?_)
    rintro _ _ ⟨rfl, rfl⟩
    refine VO.cons rfl (V1.move rfl rfl rfl lt0 ?_)
    refine VO.cons rfl (V1.extract rfl rfl rfl rfl lt0 ?_)
    refine VO.cons rfl (V1.extract rfl rfl rfl rfl lt0 ?_)
    refine VO.cons rfl (V1.extract rfl rfl rfl rfl lt0 ?_)
    refine VO.cons rfl (V1.assign rfl rfl rfl lt0 ?_)
    refine VO.cons rfl (V1.assign rfl rfl rfl lt0 ?_)
    refine VO.cons rfl (V1.assign rfl rfl rfl lt0 ?_)
    refine VO.nil ?_
    refine V.keep 57 [0, 4, 6, 7] [0, 1] (E0 := [(0, .str s), (4, .ref b0 1 0 0), (6, .str y1.1), (7, .str y1.2.1)]) (H0 := [(ob0, ⟨4, List.map encRule list_x⟩), (b0, ⟨1, [.sref ob0 4 0 (List.length list_x)]⟩)]) rfl (⟨_, _, rfl, rfl, _, _, rfl, rfl, _, _, rfl, rfl, _, _, rfl, rfl, rfl⟩) (⟨_, _, rfl, rfl, _, _, rfl, rfl, rfl⟩) rfl ?_
    refine V.seq ?_
    replace hm1 := bindO hm1; rcases hm1 with ⟨y2, hh2, hm1⟩
    refine V.region ?_
    refine VO.cons rfl (V1.move rfl rfl rfl lt0 ?_)
    refine VO.cons rfl (V1.call rfl rfl rfl cok_22 rfl (ok_strings_Cut hh2) rfl lt0 ?_)
    rintro _ _ ⟨rfl, rfl⟩
    refine VO.cons rfl (V1.move rfl rfl rfl lt0 ?_)
    refine VO.cons rfl (V1.extract rfl rfl rfl rfl lt0 ?_)
    refine VO.cons rfl (V1.extract rfl rfl rfl rfl lt0 ?_)
    refine VO.cons rfl (V1.extract rfl rfl rfl rfl lt0 ?_)
    refine VO.cons rfl (V1.assign rfl rfl rfl lt0 ?_)
    refine VO.cons rfl (V1.assign rfl rfl rfl lt0 ?_)
    refine VO.cons rfl (V1.assign rfl rfl rfl lt0 ?_)
    refine VO.nil ?_
    refine V.keep 57 [0, 4, 6, 7, 9] [0, 1] (E0 := [(0, .str s), (4, .ref b0 1 0 0), (6, .str y1.1), (7, .str y2.2.1), (9, .str y2.1)]) (H0 := [(ob0, ⟨4, List.map encRule list_x⟩), (b0, ⟨1, [.sref ob0 4 0 (List.length list_x)]⟩)]) rfl (⟨_, _, rfl, rfl, _, _, rfl, rfl, _, _, rfl, rfl, _, _, rfl, rfl, _, _, rfl, rfl, rfl⟩) (⟨_, _, rfl, rfl, _, _, rfl, rfl, rfl⟩) rfl ?_
    refine V.seq ?_
    replace hm1 := bindO hm1; rcases hm1 with ⟨y3, hh3, hm1⟩
    refine V.region ?_
    refine VO.cons rfl (V1.move rfl rfl rfl lt0 ?_)
    refine VO.cons rfl (V1.call rfl rfl rfl cok_23 rfl (ok_strings_TrimRight hh3) rfl lt0 ?_)
    rintro _ _ ⟨rfl, rfl⟩
    refine VO.cons rfl (V1.assign rfl rfl rfl lt0 ?_)
    refine VO.nil ?_
    replace hm1 := bindO hm1; rcases hm1 with ⟨y4, hh4, hm1⟩
    replace hm1 := bindO hm1; rcases hm1 with ⟨y5, hh5, hm1⟩
    replace hm1 := bindO hm1; rcases hm1 with ⟨y6, hh6, hm1⟩
    replace hm1 := asrt_some hm1; rcases hm1 with ⟨hh7, hm1⟩
    replace hm1 := bindO hm1; rcases hm1 with ⟨y7, hh8, hm1⟩
    replace hm1 := asrt_some hm1; rcases hm1 with ⟨hh9, hm1⟩
    refine V.regionS [(ob0, ⟨4, List.map encRule list_x⟩), (b0, ⟨1, [.sref ob0 4 0 (List.length list_x)]⟩)] 57 15 [⟨[(4, none)], true⟩, ⟨[(6, none)], false⟩, ⟨[(32, some 1)], false⟩, ⟨[(9, none)], false⟩, ⟨[(34, some 3)], false⟩, ⟨[(11, none)], false⟩, ⟨[(36, some 5)], false⟩, ⟨[(7, none)], false⟩, ⟨[(11, none)], false⟩, ⟨[(39, some 8)], false⟩, ⟨[(38, some 7), (40, some 9)], false⟩, ⟨[(41, some 10)], false⟩, ⟨[(42, some 11)], false⟩, ⟨[(33, some 2), (35, some 4), (37, some 6), (43, some 12)], false⟩, ⟨[(44, some 13)], false⟩] [(0, none), (4, none), (31, some 0), (45, some 14)] 1 (⟨_, rfl, ⟨_, rfl, ⟨_, rfl, ⟨_, rfl, ⟨_, rfl, ⟨_, rfl, ⟨_, rfl, ⟨_, rfl, ⟨_, rfl, ⟨_, rfl, ⟨_, rfl, ⟨_, rfl, ⟨_, rfl, ⟨_, rfl, ⟨_, rfl, ⟨rfl, rfl⟩⟩⟩⟩⟩⟩⟩⟩⟩⟩⟩⟩⟩⟩⟩⟩) mixed_orders rfl (by decide +kernel) ?_
    refine WalkP.step (p := ?pv486) 1 rfl rfl rfl rfl rfl (⟨_, _, rfl, rfl, rfl⟩) ?hv486 ?rest486
    case hv486 =>
     intro E1 H1 hI1
     refine (V1.move rfl rfl rfl lt0 ?_)
     exact rfl
    refine WalkP.step (p := ?pv487) 2 rfl rfl rfl rfl rfl (⟨_, _, rfl, rfl, rfl⟩) ?hv487 ?rest487
    case hv487 =>
     intro E1 H1 hI1
     refine (V1.call rfl rfl rfl cok_24 rfl (ok_impl_digitsOf hh4) rfl lt0 ?_)
     rintro _ _ ⟨rfl, rfl⟩
     exact rfl
    refine WalkP.step (p := ?pv489) 3 rfl rfl rfl rfl rfl (⟨_, _, rfl, rfl, rfl⟩) ?hv489 ?rest489
    case hv489 =>
     intro E1 H1 hI1
     refine (V1.move rfl rfl rfl lt0 ?_)
     exact rfl
    refine WalkP.step (p := ?pv490) 4 rfl rfl rfl rfl rfl (⟨_, _, rfl, rfl, rfl⟩) ?hv490 ?rest490
    case hv490 =>
     intro E1 H1 hI1
     refine (V1.call rfl rfl rfl cok_24 rfl (ok_impl_digitsOf hh5) rfl lt0 ?_)
     rintro _ _ ⟨rfl, rfl⟩
     exact rfl
    refine WalkP.step (p := ?pv492) 5 rfl rfl rfl rfl rfl (⟨_, _, rfl, rfl, rfl⟩) ?hv492 ?rest492
    case hv492 =>
     intro E1 H1 hI1
     refine (V1.move rfl rfl rfl lt0 ?_)
     exact rfl
    refine WalkP.step (p := ?pv493) 6 rfl rfl rfl rfl rfl (⟨_, _, rfl, rfl, rfl⟩) ?hv493 ?rest493
    case hv493 =>
     intro E1 H1 hI1
     refine (V1.call rfl rfl rfl cok_24 rfl (ok_impl_digitsOf hh6) rfl lt0 ?_)
     rintro _ _ ⟨rfl, rfl⟩
     exact rfl
    refine WalkP.step (p := ?pv495) 7 rfl rfl rfl rfl rfl (⟨_, _, rfl, rfl, rfl⟩) ?hv495 ?rest495
    case hv495 =>
     intro E1 H1 hI1
     refine (V1.move rfl rfl rfl lt0 ?_)
     exact rfl
    refine WalkP.step (p := ?pv496) 8 rfl rfl rfl rfl rfl (⟨_, _, rfl, rfl, rfl⟩) ?hv496 ?rest496
    case hv496 =>
     intro E1 H1 hI1
     refine (V1.move rfl rfl rfl lt0 ?_)
     exact rfl
    refine WalkP.step (p := ?pv497) 9 rfl rfl rfl rfl rfl (⟨_, _, rfl, rfl, rfl⟩) ?hv497 ?rest497
    case hv497 =>
     intro E1 H1 hI1
     refine (V1.lenStr rfl rfl rfl rfl rfl rfl istr_9 lt0 ?_)
     exact rfl
    refine WalkP.step (p := ?pv498) 10 rfl rfl rfl rfl rfl (⟨_, _, rfl, rfl, _, _, rfl, rfl, rfl⟩) ?hv498 ?rest498
    case hv498 =>
     intro E1 H1 hI1
     refine (V1.sliceStrI (a := (y3.length : Int)) (b := (y2.2.1.length : Int)) rfl rfl istr_9 rfl (Bnd.some rfl hh7.1 _) (Bnd.none _ _) hh7 lt0 ?_)
     exact rfl
    refine WalkP.step (p := ?pv499) 11 rfl rfl rfl rfl rfl (⟨_, _, rfl, rfl, rfl⟩) ?hv499 ?rest499
    case hv499 =>
     intro E1 H1 hI1
     refine (V1.call rfl rfl rfl cok_25 rfl (ok_strings_Index hh8) rfl lt0 ?_)
     rintro _ _ ⟨rfl, rfl⟩
     exact rfl
    refine WalkP.step (p := ?pv501) 12 rfl rfl rfl rfl rfl (⟨_, _, rfl, rfl, rfl⟩) ?hv501 ?rest501
    case hv501 =>
     intro E1 H1 hI1
     refine (V1.int rfl rfl rfl rfl rfl lt0 ?_)
     exact rfl
    refine WalkP.step (p := ?pv502) 13 rfl rfl rfl rfl rfl (⟨_, _, rfl, rfl, _, _, rfl, rfl, _, _, rfl, rfl, _, _, rfl, rfl, rfl⟩) ?hv502 ?rest502
    case hv502 =>
     intro E1 H1 hI1
     refine (V1.build rfl rfl zk_50 pl_50 rfl rfl lt0 ?_)
     exact rfl
    refine WalkP.step (p := ?pv503) 14 rfl rfl rfl rfl rfl (⟨_, _, rfl, rfl, rfl⟩) ?hv503 ?rest503
    case hv503 =>
     intro E1 H1 hI1
     refine (V1.buildFrz (f := encRule) ([(⟨y4, y5, y6, (IntKind.i64.wrap ((1 : Int) + y7))⟩ : Rule)] : List Rule) (fun _ => rfl) (fun c hc => iIn hI1 c ((iKCons (b := ob0) 0 rfl (iKCons (b := b0) 1 rfl iNil)) c hc)) rfl rfl esz_24 zk_50 rfl rfl rfl rfl rfl rfl rfl lt0 ?_)
     exact rfl
    refine WalkP.nil ?_
    refine NodeS.branch [0] (inCons 0 rfl (inCons 1 rfl inNil)) rfl rfl rfl ⟨?_, trivial⟩
    ·
     refine ⟨_, _, _, _, rfl, rfl, rfl, (⟨_, _, rfl, rfl, rfl⟩), fun E1 => ?_⟩
     refine (V1.loadRef (k := 1) rfl rfl tyk_24 rfl rfl rfl rfl rfl lt0 ?_)
     refine ⟨_, _, rfl, ?_⟩
     refine WalkP.nil ?_
     refine NodeS.fin (inCons 0 rfl (inCons 1 rfl inNil)) rfl rfl rfl (⟨_, _, rfl, rfl, _, _, rfl, rfl, _, _, rfl, rfl, _, _, rfl, rfl, rfl⟩) ?_
     refine VO.cons rfl (V1.appendMap (k := 0) (f := encRule) (l := list_x) (m := ([(⟨y4, y5, y6, (IntKind.i64.wrap ((1 : Int) + y7))⟩ : Rule)] : List Rule)) rfl rfl rfl rfl rfl esz_24 eby_24 zk_50 rfl rfl rfl (.vl isl_24) hh9 lt0 ?_)
     intro b7
     refine VO.cons rfl (V1.storeRefAll (k := 1) rfl rfl tyk_24 rfl rfl rfl rfl rfl rfl ?_)
     refine VO.nil ?_
     obtain rfl := Option.some.inj hm1
     exact ⟨rfl, _, ⟨((list_x ++ ([(⟨y4, y5, y6, (IntKind.i64.wrap ((1 : Int) + y7))⟩ : Rule)] : List Rule)), (some b7)), ⟨hl1, (fun e => by cases e)⟩, rfl⟩, Keeps.mk (ks := [0, 1]) rfl trivial (⟨_, _, rfl, rfl, _, _, rfl, rfl, rfl⟩) rfl⟩
  ·
   rintro ⟨list_x, ob0⟩ ⟨hP0, hob0⟩
   obtain rfl := fold_end hP0
   try dsimp only at hm0
   rcases ob0 with _ | ob0
   ·
    replace hob0 := hob0 rfl
    refine V.seq ?_
    refine V.seq ?_
    replace hm0 := bindO hm0; rcases hm0 with ⟨y8, hh10, hm0⟩
    replace hm0 := bindO hm0; rcases hm0 with ⟨y9, hh11, hm0⟩
    refine V.region ?_
    refine VO.cons rfl (V1.loadRef (k := 0) rfl rfl tyk_24 rfl rfl rfl rfl rfl lt0 ?_)
    refine VO.weakenK (Keeps.nilsE (l := list_x) 47 rn 4 encRule hob0 rfl rfl) ?_
    refine VO.cons rfl (V1.call rfl rfl rfl cok_9 rfl (ok_impl_IsSchedule hh10) rfl lt0 ?_)
    rintro _ _ ⟨rfl, rfl⟩
    refine VO.cons rfl (V1.not rfl rfl rfl lt0 ?_)
    refine VO.cons rfl (V1.move rfl rfl rfl lt0 ?_)
    apply VO.or (n := 4) rfl rfl rfl rfl rfl rfl lt0 (.none rfl)
    ·
     intro hg0
     refine VO.step (.some rfl rfl rfl) (V1.loadRef (k := 0) rfl rfl tyk_24 rfl rfl rfl rfl rfl lt0 ?_)
     refine VO.weakenK (Keeps.nilsE (l := list_x) 51 rn 4 encRule hob0 rfl rfl) ?_
     refine VO.step (.some rfl rfl rfl) (V1.call rfl rfl rfl cok_20 rfl (ok_impl_scheduleText (cond_f hg0 hh11)) rfl lt0 ?_)
     rintro _ _ ⟨rfl, rfl⟩
     refine VO.step (.some rfl rfl rfl) (V1.move rfl rfl rfl lt0 ?_)
     refine VO.step (.some rfl rfl rfl) (V1.str rfl rfl rfl rfl rfl lt0 ?_)
     exact VO.nil ⟨rfl, rfl, rfl, rfl, .inr ⟨rfl, .inr ⟨rfl, .inr ⟨rfl, .inr ⟨rfl, .inr ⟨rfl, .inr ⟨rfl, .inl rfl⟩⟩⟩⟩⟩⟩⟩
    refine VO.nil ?_
    refine V.keep 57 [4, 55] [0] (E0 := [(4, .ref b0 1 0 0), (55, .bool ((!y8) || (!(y9 == s))))]) (H0 := [(b0, ⟨1, [.nils]⟩)]) rfl (⟨_, _, rfl, rfl, _, _, rfl, rfl, rfl⟩) (⟨_, _, rfl, rfl, rfl⟩) rfl ?_
    refine V.cond rfl (fun hc1 => ?_) (fun hc1 => ?_)
    ·
     replace hm0 := cond_t hc1 hm0
     refine V.seq ?_
     refine V.region ?_
     refine VO.cons rfl (V1.assign rfl rfl rfl lt0 ?_)
     refine VO.cons rfl (V1.assign rfl rfl rfl lt0 ?_)
     refine VO.nil ?_
     refine V.keep 57 [2, 3] [] (E0 := [(2, .nils), (3, .bool false)]) (H0 := []) rfl (⟨_, _, rfl, rfl, _, _, rfl, rfl, rfl⟩) (rfl) rfl ?_
     refine V.ret ?_
     obtain rfl := Option.some.inj hm0
     exact ⟨_, _, ⟨_, _, rfl, rfl, _, _, rfl, rfl, rfl⟩, List.Sublist.refl _, none, (fun _ => rfl), rfl, rfl⟩
    ·
     replace hm0 := cond_f hc1 hm0
     refine V.skip ?_
     refine V.seq ?_
     refine V.region ?_
     refine VO.cons rfl (V1.loadRef (k := 0) rfl rfl tyk_24 rfl rfl rfl rfl rfl lt0 ?_)
     refine VO.cons rfl (V1.assign rfl rfl rfl lt0 ?_)
     refine VO.cons rfl (V1.assign rfl rfl rfl lt0 ?_)
     refine VO.nil ?_
     refine V.keep 57 [2, 3] [] (E0 := [(2, .nils), (3, .bool true)]) (H0 := []) rfl (⟨_, _, rfl, rfl, _, _, rfl, rfl, rfl⟩) (rfl) rfl ?_
     refine V.ret ?_
     obtain rfl := Option.some.inj hm0
     exact ⟨_, _, ⟨_, _, rfl, rfl, _, _, rfl, rfl, rfl⟩, List.Sublist.refl _, none, (fun _ => hob0), rfl, rfl⟩
   ·
    refine V.seq ?_
    refine V.seq ?_
    replace hm0 := bindO hm0; rcases hm0 with ⟨y8, hh10, hm0⟩
    replace hm0 := bindO hm0; rcases hm0 with ⟨y9, hh11, hm0⟩
    refine V.region ?_
    refine VO.cons rfl (V1.loadRef (k := 1) rfl rfl tyk_24 rfl rfl rfl rfl rfl lt0 ?_)
    refine VO.cons rfl (V1.callL (rn + 1) [ob0] [.vl (rn + 1) 4 (List.map encRule list_x)] rfl rfl rfl cok_9 rfl ⟨_, _, rfl, Lend.srMap 0 rfl (fun _ => rfl) (.head _), rfl⟩ (bwCons (k := 0) rfl bwNil) (ok_impl_IsSchedule hh10) rfl (⟨(by first | omega | (dsimp only; omega)), by rintro _ _ ⟨rfl, rfl⟩; exact ⟨rfl, by simp⟩⟩) lt0 ?_)
    rintro _ _ ⟨rfl, rfl⟩
    refine VO.cons rfl (V1.not rfl rfl rfl lt0 ?_)
    refine VO.cons rfl (V1.move rfl rfl rfl lt0 ?_)
    apply VO.or (n := 4) rfl rfl rfl rfl rfl rfl lt0 (.none rfl)
    ·
     intro hg0
     refine VO.step (.some rfl rfl rfl) (V1.loadRef (k := 1) rfl rfl tyk_24 rfl rfl rfl rfl rfl lt0 ?_)
     refine VO.step (.some rfl rfl rfl) (V1.callL (rn + 1) [ob0] [.vl (rn + 1) 4 (List.map encRule list_x)] rfl rfl rfl cok_20 rfl ⟨_, _, rfl, Lend.srMap 0 rfl (fun _ => rfl) (.head _), rfl⟩ (bwCons (k := 0) rfl bwNil) (ok_impl_scheduleText (cond_f hg0 hh11)) rfl (⟨(by first | omega | (dsimp only; omega)), by rintro _ _ ⟨rfl, rfl⟩; exact ⟨rfl, by simp⟩⟩) lt0 ?_)
     rintro _ _ ⟨rfl, rfl⟩
     refine VO.step (.some rfl rfl rfl) (V1.move rfl rfl rfl lt0 ?_)
     refine VO.step (.some rfl rfl rfl) (V1.str rfl rfl rfl rfl rfl lt0 ?_)
     exact VO.nil ⟨rfl, rfl, rfl, rfl, .inr ⟨rfl, .inr ⟨rfl, .inr ⟨rfl, .inr ⟨rfl, .inr ⟨rfl, .inl rfl⟩⟩⟩⟩⟩⟩
    refine VO.nil ?_
    refine V.keep 57 [4, 55] [0, 1] (E0 := [(4, .ref b0 1 0 0), (55, .bool ((!y8) || (!(y9 == s))))]) (H0 := [(ob0, ⟨4, List.map encRule list_x⟩), (b0, ⟨1, [.sref ob0 4 0 (List.length list_x)]⟩)]) rfl (⟨_, _, rfl, rfl, _, _, rfl, rfl, rfl⟩) (⟨_, _, rfl, rfl, _, _, rfl, rfl, rfl⟩) rfl ?_
    refine V.cond rfl (fun hc1 => ?_) (fun hc1 => ?_)
    ·
     replace hm0 := cond_t hc1 hm0
     refine V.seq ?_
     refine V.region ?_
     refine VO.cons rfl (V1.assign rfl rfl rfl lt0 ?_)
     refine VO.cons rfl (V1.assign rfl rfl rfl lt0 ?_)
     refine VO.nil ?_
     refine V.keep 57 [2, 3] [] (E0 := [(2, .nils), (3, .bool false)]) (H0 := []) rfl (⟨_, _, rfl, rfl, _, _, rfl, rfl, rfl⟩) (rfl) rfl ?_
     refine V.ret ?_
     obtain rfl := Option.some.inj hm0
     exact ⟨_, _, ⟨_, _, rfl, rfl, _, _, rfl, rfl, rfl⟩, List.Sublist.refl _, none, (fun _ => rfl), rfl, rfl⟩
    ·
     replace hm0 := cond_f hc1 hm0
     refine V.skip ?_
     refine V.seq ?_
     refine V.region ?_
     refine VO.cons rfl (V1.loadRef (k := 1) rfl rfl tyk_24 rfl rfl rfl rfl rfl lt0 ?_)
     refine VO.cons rfl (V1.assign rfl rfl rfl lt0 ?_)
     refine VO.cons rfl (V1.assign rfl rfl rfl lt0 ?_)
     refine VO.nil ?_
     refine V.keep 57 [2, 3] [0] (E0 := [(2, .sref ob0 4 0 (List.length list_x)), (3, .bool true)]) (H0 := [(ob0, ⟨4, List.map encRule list_x⟩)]) rfl (⟨_, _, rfl, rfl, _, _, rfl, rfl, rfl⟩) (⟨_, _, rfl, rfl, rfl⟩) rfl ?_
     refine V.ret ?_
     obtain rfl := Option.some.inj hm0
     exact ⟨_, _, ⟨_, _, rfl, rfl, _, _, rfl, rfl, rfl⟩, List.Sublist.refl _, some ob0, (fun e => by cases e), rfl, rfl⟩

theorem ok_spec_l1Num_s {rn : Nat} {n : Int} {r : List UInt8} {rec_ : Int → Option (List UInt8)} (hrec_ : ∀ {rn : Nat} {n : Int} {r : List UInt8} , rec_ n = some r → Does Tryz.prog 54 [.int .i64 n] [] rn (fun x H => x = .str r ∧ H = [])) (h : M.spec_l1Num_s rec_ n = some r) : Does Tryz.prog 54 [.int .i64 n] [] rn (fun x H => x = .str r ∧ H = []) := by
 have hm0 := h; clear h; unfold M.spec_l1Num_s at hm0
 try dsimp only at hm0
 refine Does.intro (N := 25) Tryz.func54 rfl rfl rfl rfl ?_
 intro w0 S0 L0
 refine V.seq ?_
 refine V.region ?_
 refine VO.cons rfl (V1.assign rfl rfl rfl lt0 ?_)
 refine VO.nil ?_
 refine V.seq ?_
 refine V.seq ?_
 refine V.region ?_
 refine VO.cons rfl (V1.move rfl rfl rfl lt0 ?_)
 refine VO.cons rfl (V1.int rfl rfl rfl rfl rfl lt0 ?_)
 refine VO.nil ?_
 refine V.cond rfl (fun hc0 => ?_) (fun hc0 => ?_)
 ·
  replace hm0 := cond_t hc0 hm0
  refine V.seq ?_
  replace hm0 := bindO hm0; rcases hm0 with ⟨y0, hh0, hm0⟩
  replace hm0 := asrt_some hm0; rcases hm0 with ⟨hh1, hm0⟩
  refine V.region ?_
  refine VO.cons rfl (V1.move rfl rfl rfl lt0 ?_)
  refine VO.cons rfl (V1.neg rfl rfl rfl lt0 ?_)
  refine VO.cons rfl (V1.call rfl rfl rfl cok_54 rfl (hrec_ hh0) rfl lt0 ?_)
  rintro _ _ ⟨rfl, rfl⟩
  refine VO.cons rfl (V1.strAdd rfl rfl rfl rfl hh1 lt0 ?_)
  refine VO.cons rfl (V1.assign rfl rfl rfl lt0 ?_)
  refine VO.nil ?_
  refine V.ret ?_
  obtain rfl := Option.some.inj hm0
  exact ⟨_, [], ⟨_, _, rfl, rfl, rfl⟩, List.nil_sublist _, rfl, rfl⟩
 ·
  replace hm0 := cond_f hc0 hm0
  refine V.skip ?_
  refine V.seq ?_
  refine V.seq ?_
  refine V.region ?_
  refine VO.cons rfl (V1.move rfl rfl rfl lt0 ?_)
  refine VO.cons rfl (V1.int rfl rfl rfl rfl rfl lt0 ?_)
  refine VO.nil ?_
  refine V.keep 25 [0, 10] [] (E0 := [(0, .int .i64 n), (10, .bool (decide (n < (10 : Int))))]) (H0 := []) rfl (⟨_, _, rfl, rfl, _, _, rfl, rfl, rfl⟩) (rfl) rfl ?_
  refine V.cond rfl (fun hc1 => ?_) (fun hc1 => ?_)
  ·
   replace hm0 := cond_t hc1 hm0
   refine V.seq ?_
   replace hm0 := asrt_some hm0; rcases hm0 with ⟨hh2, hm0⟩
   refine V.region ?_
   refine VO.cons rfl (V1.move rfl rfl rfl lt0 ?_)
   refine VO.cons rfl (V1.move rfl rfl rfl lt0 ?_)
   refine VO.cons rfl (V1.int rfl rfl rfl rfl rfl lt0 ?_)
   refine VO.cons rfl (V1.sliceStrI (s := ([48, 49, 50, 51, 52, 53, 54, 55, 56, 57] : List UInt8)) (a := n) (b := (IntKind.i64.wrap (n + (1 : Int)))) rfl rfl istr_9 rfl (Bnd.some rfl hh2.1 _) (Bnd.some rfl (Int.le_trans hh2.1 hh2.2.1) _) hh2 lt0 ?_)
   refine VO.cons rfl (V1.assign rfl rfl rfl lt0 ?_)
   refine VO.nil ?_
   refine V.ret ?_
   obtain rfl := Option.some.inj hm0
   exact ⟨_, [], ⟨_, _, rfl, rfl, rfl⟩, List.nil_sublist _, rfl, rfl⟩
  ·
   replace hm0 := cond_f hc1 hm0
   refine V.skip ?_
   refine V.seq ?_
   replace hm0 := bindO hm0; rcases hm0 with ⟨y1, hh3, hm0⟩
   replace hm0 := asrt_some hm0; rcases hm0 with ⟨hh4, hm0⟩
   replace hm0 := asrt_some hm0; rcases hm0 with ⟨hh5, hm0⟩
   refine V.regionM 25 9 [⟨[(0, none)], [], none⟩, ⟨[(15, some 0)], [], none⟩, ⟨[(16, some 0)], [], none⟩, ⟨[(0, none)], [], none⟩, ⟨[(18, some 0)], [], none⟩, ⟨[(0, none)], [], none⟩, ⟨[(20, some 0)], [], none⟩, ⟨[(21, some 0)], [], none⟩, ⟨[(19, some 3), (22, some 0)], [], none⟩] [(17, some 6), (23, some 0)] (⟨_, rfl, ⟨_, rfl, ⟨_, rfl, ⟨_, rfl, ⟨_, rfl, ⟨_, rfl, ⟨_, rfl, ⟨_, rfl, ⟨_, rfl, ⟨rfl, rfl⟩⟩⟩⟩⟩⟩⟩⟩⟩⟩) mixed_orders rfl (by decide +kernel) (fun hck5 => ?_)
   refine VP.step (p := ?pv27) rfl rfl rfl (⟨_, _, rfl, rfl, rfl⟩) ?hv27 ?rest27 hck5
   case hv27 =>
    intro E1
    refine (V1.move rfl rfl rfl lt0 ?_)
    exact rfl
   refine VP.step (p := ?pv28) rfl rfl rfl (⟨_, _, rfl, rfl, rfl⟩) ?hv28 ?rest28 hck5
   case hv28 =>
    intro E1
    refine (V1.quo rfl rfl rfl rfl (by decide) lt0 ?_)
    exact rfl
   refine VP.step (p := ?pv29) rfl rfl rfl (⟨_, _, rfl, rfl, rfl⟩) ?hv29 ?rest29 hck5
   case hv29 =>
    intro E1
    refine (V1.call rfl rfl rfl cok_54 rfl (hrec_ hh3) rfl lt0 ?_)
    rintro _ _ ⟨rfl, rfl⟩
    exact rfl
   refine VP.step (p := ?pv31) rfl rfl rfl (⟨_, _, rfl, rfl, rfl⟩) ?hv31 ?rest31 hck5
   case hv31 =>
    intro E1
    refine (V1.move rfl rfl rfl lt0 ?_)
    exact rfl
   refine VP.step (p := ?pv32) rfl rfl rfl (⟨_, _, rfl, rfl, rfl⟩) ?hv32 ?rest32 hck5
   case hv32 =>
    intro E1
    refine (V1.rem rfl rfl rfl rfl (by decide) lt0 ?_)
    exact rfl
   refine VP.step (p := ?pv33) rfl rfl rfl (⟨_, _, rfl, rfl, rfl⟩) ?hv33 ?rest33 hck5
   case hv33 =>
    intro E1
    refine (V1.move rfl rfl rfl lt0 ?_)
    exact rfl
   refine VP.step (p := ?pv34) rfl rfl rfl (⟨_, _, rfl, rfl, rfl⟩) ?hv34 ?rest34 hck5
   case hv34 =>
    intro E1
    refine (V1.rem rfl rfl rfl rfl (by decide) lt0 ?_)
    exact rfl
   refine VP.step (p := ?pv35) rfl rfl rfl (⟨_, _, rfl, rfl, rfl⟩) ?hv35 ?rest35 hck5
   case hv35 =>
    intro E1
    refine (V1.int rfl rfl rfl rfl rfl lt0 ?_)
    exact rfl
   refine VP.step (p := ?pv36) rfl rfl rfl (⟨_, _, rfl, rfl, _, _, rfl, rfl, rfl⟩) ?hv36 ?rest36 hck5
   case hv36 =>
    intro E1
    refine (V1.sliceStrI (s := ([48, 49, 50, 51, 52, 53, 54, 55, 56, 57] : List UInt8)) (a := (Int.tmod n (10 : Int))) (b := (IntKind.i64.wrap ((Int.tmod n (10 : Int)) + (1 : Int)))) rfl rfl istr_9 rfl (Bnd.some rfl hh4.1 _) (Bnd.some rfl (Int.le_trans hh4.1 hh4.2.1) _) hh4 lt0 ?_)
    exact rfl
   refine VP.fin rfl (⟨_, _, rfl, rfl, _, _, rfl, rfl, rfl⟩) ?_
   refine VO.cons rfl (V1.strAdd rfl rfl rfl rfl hh5 lt0 ?_)
   refine VO.cons rfl (V1.assign rfl rfl rfl lt0 ?_)
   refine VO.nil ?_
   refine V.ret ?_
   obtain rfl := Option.some.inj hm0
   exact ⟨_, [], ⟨_, _, rfl, rfl, rfl⟩, List.nil_sublist _, rfl, rfl⟩

theorem ok_spec_l1Num_r (k_ : Nat) : ∀ {rn : Nat} {n : Int} {r : List UInt8} , M.spec_l1Num_r k_ n = some r → Does Tryz.prog 54 [.int .i64 n] [] rn (fun x H => x = .str r ∧ H = []) := by
 induction k_ with
 | zero =>
  intro rn n r h
  have h0 : (none : Option (List UInt8)) = some r := h
  cases h0
 | succ k_ ih =>
  intro rn n r h
  exact ok_spec_l1Num_s (rec_ := M.spec_l1Num_r k_) @ih h

theorem ok_spec_l1Num {rn : Nat} {n : Int} {r : List UInt8} (h : M.spec_l1Num n = some r) : Does Tryz.prog 54 [.int .i64 n] [] rn (fun x H => x = .str r ∧ H = []) := ok_spec_l1Num_r rounds h

theorem ok_spec_l4Text {ρ0 rn : Nat} {list : List Rule} {r : List UInt8} (h : M.spec_l4Text list = some r) : Does Tryz.prog 27 [.vl ρ0 4 (List.map encRule list)] [] rn (fun x H => x = .str r ∧ H = []) := by
 have hm0 := h; clear h; unfold M.spec_l4Text at hm0
 try dsimp only at hm0
 refine Does.intro (N := 42) Tryz.func27 rfl rfl rfl rfl ?_
 intro w0 S0 L0
 refine V.seq ?_
 refine V.region ?_
 refine VO.cons rfl (V1.assign rfl rfl rfl lt0 ?_)
 refine VO.nil ?_
 refine V.seq ?_
 refine V.region ?_
 refine VO.cons rfl (V1.assign rfl rfl rfl lt0 ?_)
 refine VO.nil ?_
 refine V.seq ?_
 refine V.seq ?_
 refine V.region ?_
 refine VO.cons rfl (V1.assign rfl rfl rfl lt0 ?_)
 refine VO.nil ?_
 replace hm0 := bindO hm0; rcases hm0 with ⟨e0, he1, hm0⟩
 refine V.cutT (D := (List UInt8) × (Unit)) (fun ⟨s, _⟩ => ⟨42, [(3, .str s)], []⟩) (fun ⟨s, _⟩ => (s = e0)) ?_ ?_
 ·
  refine V.block ?_
  refine V.keep 42 [3, 4, 0] [] (E0 := [(3, .str ([])), (4, .int .i64 (0 : Int)), (0, .vl ρ0 4 (List.map encRule list))]) (H0 := []) rfl (⟨_, _, rfl, rfl, _, _, rfl, rfl, _, _, rfl, rfl, rfl⟩) (rfl) rfl ?_
  refine V.loopE (D := Nat × (List UInt8 × Int) × (Unit)) (fun ⟨n0, ⟨s0, i⟩, _⟩ => [(3, .str s0), (4, .int .i64 i)]) (fun ⟨n0, ⟨s0, i⟩, _⟩ => []) (fun ⟨n0, ⟨s0, i⟩, _⟩ => loopO (M.spec_l4Text_l0 list) n0 (s0, i) = some e0) (fun ⟨n0, _, _⟩ => n0) (rounds, ([], (0 : Int)), ()) rfl he1 ?_
  rintro ⟨n0, ⟨s0, i⟩, _⟩ hP0
  obtain ⟨m0, y0, rfl, hm1, hl1, hr1⟩ := loop_head hP0
  unfold M.spec_l4Text_l0 at hm1; dsimp only at hm1
  show V _ _ _ ⟨42, [(3, .str s0), (4, .int .i64 i), (0, .vl ρ0 4 (List.map encRule list))], []⟩
  refine V.seq ?_
  refine V.seq ?_
  refine V.region ?_
  refine VO.cons rfl (V1.move rfl rfl rfl lt0 ?_)
  refine VO.cons rfl (V1.move rfl rfl rfl lt0 ?_)
  refine VO.cons rfl (V1.lenMap rfl rfl rfl rfl rfl rfl isl_24 lt0 ?_)
  refine VO.cons rfl (V1.int rfl rfl rfl rfl rfl lt0 ?_)
  refine VO.nil ?_
  refine V.cond rfl (fun hc0 => ?_) (fun hc0 => ?_)
  ·
   replace hm1 := cond_t hc0 hm1
   refine V.skip ?_
   refine V.keep 42 [0, 3, 4] [] (E0 := [(0, .vl ρ0 4 (List.map encRule list)), (3, .str s0), (4, .int .i64 i)]) (H0 := []) rfl (⟨_, _, rfl, rfl, _, _, rfl, rfl, _, _, rfl, rfl, rfl⟩) (rfl) rfl ?_
   refine V.seq ?_
   replace hm1 := bindO hm1; rcases hm1 with ⟨j0, hm2, hm1⟩
   refine V.cutT (D := (List UInt8) × (Unit)) (fun ⟨s1, _⟩ => ⟨42, [(3, .str s1), (0, .vl ρ0 4 (List.map encRule list)), (4, .int .i64 i)], []⟩) (fun ⟨s1, _⟩ => (s1 = j0)) ?_ ?_
   ·
    refine V.block ?_
    refine V.seq ?_
    replace hm2 := asrt_some hm2; rcases hm2 with ⟨hh0, hm2⟩
    refine V.region ?_
    refine VO.cons rfl (V1.move rfl rfl rfl lt0 ?_)
    refine VO.cons rfl (V1.move rfl rfl rfl lt0 ?_)
    refine VO.cons rfl (V1.indexI rfl rfl esz_24 rfl rfl hh0 lt0 ?_)
    refine VO.cons rfl (V1.loadPinAll rfl rfl tyk_50 rfl rfl lt0 ?_)
    refine VO.cons rfl (V1.alloc rfl rfl zk_50 lt0 ?_)
    intro b0
    refine VO.cons rfl (V1.storeRefAll (k := 0) rfl rfl tyk_50 rfl rfl rfl rfl rfl rfl ?_)
    refine VO.nil ?_
    refine V.keep 42 [0, 3, 4, 5] [0] (E0 := [(0, .vl ρ0 4 (List.map encRule list)), (3, .str s0), (4, .int .i64 i), (5, .ref b0 4 0 0)]) (H0 := [(b0, ⟨4, [encRule (list.getD (Int.toNat i) default)]⟩)]) rfl (⟨_, _, rfl, rfl, _, _, rfl, rfl, _, _, rfl, rfl, _, _, rfl, rfl, rfl⟩) (⟨_, _, rfl, rfl, rfl⟩) rfl ?_
    refine V.seq ?_
    replace hm2 := bindO hm2; rcases hm2 with ⟨j1, hm3, hm2⟩
    refine V.cutT (D := (List UInt8) × (Unit)) (fun ⟨s2, _⟩ => ⟨42, [(3, .str s2), (0, .vl ρ0 4 (List.map encRule list)), (4, .int .i64 i), (5, .ref b0 4 0 0)], [(b0, ⟨4, [encRule (list.getD (Int.toNat i) default)]⟩)]⟩) (fun ⟨s2, _⟩ => (s2 = j1)) ?_ ?_
    ·
     refine V.seq ?_
     refine V.region ?_
     refine VO.cons rfl (V1.move rfl rfl rfl lt0 ?_)
     refine VO.cons rfl (V1.int rfl rfl rfl rfl rfl lt0 ?_)
     refine VO.nil ?_
     refine V.cond rfl (fun hc1 => ?_) (fun hc1 => ?_)
     ·
      replace hm3 := cond_t hc1 hm3
      replace hm3 := asrt_some hm3; rcases hm3 with ⟨hh1, hm3⟩
      refine V.region ?_
      refine VO.cons rfl (V1.move rfl rfl rfl lt0 ?_)
      refine VO.cons rfl (V1.strAdd rfl rfl rfl rfl hh1 lt0 ?_)
      refine VO.cons rfl (V1.assign rfl rfl rfl lt0 ?_)
      refine VO.nil ?_
      exact ⟨((s0 ++ ([32])), ()), Option.some.inj hm3, Keeps.mk (ks := [0]) rfl ⟨rfl, rfl, rfl, rfl, trivial⟩ (⟨_, _, rfl, rfl, rfl⟩) rfl⟩
     ·
      replace hm3 := cond_f hc1 hm3
      refine V.skip ?_
      exact ⟨(s0, ()), Option.some.inj hm3, Keeps.mk (ks := [0]) rfl ⟨rfl, rfl, rfl, rfl, trivial⟩ (⟨_, _, rfl, rfl, rfl⟩) rfl⟩
    ·
     rintro ⟨s2, _⟩ rfl
     try dsimp only at hm2
     replace hm2 := bindO hm2; rcases hm2 with ⟨y1, hh2, hm2⟩
     replace hm2 := asrt_some hm2; rcases hm2 with ⟨hh3, hm2⟩
     replace hm2 := asrt_some hm2; rcases hm2 with ⟨hh4, hm2⟩
     replace hm2 := bindO hm2; rcases hm2 with ⟨y2, hh5, hm2⟩
     replace hm2 := asrt_some hm2; rcases hm2 with ⟨hh6, hm2⟩
     replace hm2 := asrt_some hm2; rcases hm2 with ⟨hh7, hm2⟩
     replace hm2 := bindO hm2; rcases hm2 with ⟨y3, hh8, hm2⟩
     replace hm2 := asrt_some hm2; rcases hm2 with ⟨hh9, hm2⟩
     replace hm2 := asrt_some hm2; rcases hm2 with ⟨hh10, hm2⟩
     replace hm2 := asrt_some hm2; rcases hm2 with ⟨hh11, hm2⟩
     refine V.regionM 42 20 [⟨[(3, none)], [], none⟩, ⟨[(5, none)], [], none⟩, ⟨[(21, some 0)], [], none⟩, ⟨[(22, some 0)], [], none⟩, ⟨[(20, some 3), (23, some 0)], [], none⟩, ⟨[(24, some 0)], [], none⟩, ⟨[(5, none)], [], none⟩, ⟨[(26, some 0)], [], none⟩, ⟨[(27, some 0)], [], none⟩, ⟨[(25, some 3), (28, some 0)], [], none⟩, ⟨[(29, some 0)], [], none⟩, ⟨[(5, none)], [], none⟩, ⟨[(31, some 0)], [], none⟩, ⟨[(32, some 0)], [], none⟩, ⟨[(30, some 3), (33, some 0)], [], none⟩, ⟨[], [], none⟩, ⟨[(5, none)], [], none⟩, ⟨[(36, some 0)], [], none⟩, ⟨[(35, some 2), (37, some 0)], [], none⟩, ⟨[(38, some 0)], [], none⟩] [(0, none), (4, none), (34, some 5), (39, some 0)] (⟨_, rfl, ⟨_, rfl, ⟨_, rfl, ⟨_, rfl, ⟨_, rfl, ⟨_, rfl, ⟨_, rfl, ⟨_, rfl, ⟨_, rfl, ⟨_, rfl, ⟨_, rfl, ⟨_, rfl, ⟨_, rfl, ⟨_, rfl, ⟨_, rfl, ⟨_, rfl, ⟨_, rfl, ⟨_, rfl, ⟨_, rfl, ⟨_, rfl, ⟨rfl, rfl⟩⟩⟩⟩⟩⟩⟩⟩⟩⟩⟩⟩⟩⟩⟩⟩⟩⟩⟩⟩⟩) mixed_orders rfl (by decide +kernel) (fun hck8 => ?_)
     refine VP.step (p := ?pv446) rfl rfl rfl (⟨_, _, rfl, rfl, rfl⟩) ?hv446 ?rest446 hck8
     case hv446 =>
      intro E1
      refine (V1.move rfl rfl rfl lt0 ?_)
      exact rfl
     refine VP.step (p := ?pv447) rfl rfl rfl (⟨_, _, rfl, rfl, rfl⟩) ?hv447 ?rest447 hck8
     case hv447 =>
      intro E1
      refine (V1.fieldRef rfl rfl fo_50_0 rfl lt0 ?_)
      exact rfl
     refine VP.step (p := ?pv448) rfl rfl rfl (⟨_, _, rfl, rfl, rfl⟩) ?hv448 ?rest448 hck8
     case hv448 =>
      intro E1
      refine (V1.loadRef (k := 0) rfl rfl tyk_3 rfl rfl rfl rfl rfl lt0 ?_)
      exact rfl
     refine VP.step (p := ?pv449) rfl rfl rfl (⟨_, _, rfl, rfl, rfl⟩) ?hv449 ?rest449 hck8
     case hv449 =>
      intro E1
      refine (V1.call rfl rfl rfl cok_54 rfl (ok_spec_l1Num hh2) rfl lt0 ?_)
      rintro _ _ ⟨rfl, rfl⟩
      exact rfl
     refine VP.step (p := ?pv451) rfl rfl rfl (⟨_, _, rfl, rfl, _, _, rfl, rfl, rfl⟩) ?hv451 ?rest451 hck8
     case hv451 =>
      intro E1
      refine (V1.strAdd rfl rfl rfl rfl hh3 lt0 ?_)
      exact rfl
     refine VP.step (p := ?pv452) rfl rfl rfl (⟨_, _, rfl, rfl, rfl⟩) ?hv452 ?rest452 hck8
     case hv452 =>
      intro E1
      refine (V1.strAdd rfl rfl rfl rfl hh4 lt0 ?_)
      exact rfl
     refine VP.step (p := ?pv453) rfl rfl rfl (⟨_, _, rfl, rfl, rfl⟩) ?hv453 ?rest453 hck8
     case hv453 =>
      intro E1
      refine (V1.fieldRef rfl rfl fo_50_1 rfl lt0 ?_)
      exact rfl
     refine VP.step (p := ?pv454) rfl rfl rfl (⟨_, _, rfl, rfl, rfl⟩) ?hv454 ?rest454 hck8
     case hv454 =>
      intro E1
      refine (V1.loadRef (k := 0) rfl rfl tyk_3 rfl rfl rfl rfl rfl lt0 ?_)
      exact rfl
     refine VP.step (p := ?pv455) rfl rfl rfl (⟨_, _, rfl, rfl, rfl⟩) ?hv455 ?rest455 hck8
     case hv455 =>
      intro E1
      refine (V1.call rfl rfl rfl cok_54 rfl (ok_spec_l1Num hh5) rfl lt0 ?_)
      rintro _ _ ⟨rfl, rfl⟩
      exact rfl
     refine VP.step (p := ?pv457) rfl rfl rfl (⟨_, _, rfl, rfl, _, _, rfl, rfl, rfl⟩) ?hv457 ?rest457 hck8
     case hv457 =>
      intro E1
      refine (V1.strAdd rfl rfl rfl rfl hh6 lt0 ?_)
      exact rfl
     refine VP.step (p := ?pv458) rfl rfl rfl (⟨_, _, rfl, rfl, rfl⟩) ?hv458 ?rest458 hck8
     case hv458 =>
      intro E1
      refine (V1.strAdd rfl rfl rfl rfl hh7 lt0 ?_)
      exact rfl
     refine VP.step (p := ?pv459) rfl rfl rfl (⟨_, _, rfl, rfl, rfl⟩) ?hv459 ?rest459 hck8
     case hv459 =>
      intro E1
      refine (V1.fieldRef rfl rfl fo_50_2 rfl lt0 ?_)
      exact rfl
     refine VP.step (p := ?pv460) rfl rfl rfl (⟨_, _, rfl, rfl, rfl⟩) ?hv460 ?rest460 hck8
     case hv460 =>
      intro E1
      refine (V1.loadRef (k := 0) rfl rfl tyk_3 rfl rfl rfl rfl rfl lt0 ?_)
      exact rfl
     refine VP.step (p := ?pv461) rfl rfl rfl (⟨_, _, rfl, rfl, rfl⟩) ?hv461 ?rest461 hck8
     case hv461 =>
      intro E1
      refine (V1.call rfl rfl rfl cok_54 rfl (ok_spec_l1Num hh8) rfl lt0 ?_)
      rintro _ _ ⟨rfl, rfl⟩
      exact rfl
     refine VP.step (p := ?pv463) rfl rfl rfl (⟨_, _, rfl, rfl, _, _, rfl, rfl, rfl⟩) ?hv463 ?rest463 hck8
     case hv463 =>
      intro E1
      refine (V1.strAdd rfl rfl rfl rfl hh9 lt0 ?_)
      exact rfl
     refine VP.step (p := ?pv464) rfl rfl rfl (rfl) ?hv464 ?rest464 hck8
     case hv464 =>
      intro E1
      refine (V1.buildFrz (f := encStr) ([[], [107], [116], [100]] : List (List UInt8)) (fun _ => rfl) iNil rfl rfl esz_59 zk_9 rfl rfl rfl rfl rfl rfl rfl lt0 ?_)
      exact rfl
     refine VP.step (p := ?pv465) rfl rfl rfl (⟨_, _, rfl, rfl, rfl⟩) ?hv465 ?rest465 hck8
     case hv465 =>
      intro E1
      refine (V1.fieldRef rfl rfl fo_50_3 rfl lt0 ?_)
      exact rfl
     refine VP.step (p := ?pv466) rfl rfl rfl (⟨_, _, rfl, rfl, rfl⟩) ?hv466 ?rest466 hck8
     case hv466 =>
      intro E1
      refine (V1.loadRef (k := 0) rfl rfl tyk_3 rfl rfl rfl rfl rfl lt0 ?_)
      exact rfl
     refine VP.step (p := ?pv467) rfl rfl rfl (⟨_, _, rfl, rfl, _, _, rfl, rfl, rfl⟩) ?hv467 ?rest467 hck8
     case hv467 =>
      intro E1
      refine (V1.indexI rfl rfl esz_59 rfl rfl hh10 lt0 ?_)
      exact rfl
     refine VP.step (p := ?pv468) rfl rfl rfl (⟨_, _, rfl, rfl, rfl⟩) ?hv468 ?rest468 hck8
     case hv468 =>
      intro E1
      refine (V1.loadPin rfl rfl tyk_9 rfl rfl lt0 ?_)
      exact rfl
     refine VP.fin rfl (⟨_, _, rfl, rfl, _, _, rfl, rfl, _, _, rfl, rfl, _, _, rfl, rfl, rfl⟩) ?_
     refine VO.cons rfl (V1.strAdd rfl rfl rfl rfl hh11 lt0 ?_)
     refine VO.cons rfl (V1.assign rfl rfl rfl lt0 ?_)
     refine VO.nil ?_
     exact ⟨(((((((s2 ++ y1) ++ ([46])) ++ y2) ++ ([43])) ++ y3) ++ (([[], [107], [116], [100]] : List (List UInt8)).getD (Int.toNat ((list.getD (Int.toNat i) default).Act)) default)), ()), Option.some.inj hm2, Keeps.mk (ks := []) rfl ⟨rfl, rfl, rfl, trivial⟩ (rfl) rfl⟩
   ·
    rintro ⟨s1, _⟩ rfl
    try dsimp only at hm1
    refine V.region ?_
    refine VO.cons rfl (V1.move rfl rfl rfl lt0 ?_)
    refine VO.cons rfl (V1.int rfl rfl rfl rfl rfl lt0 ?_)
    refine VO.cons rfl (V1.assign rfl rfl rfl lt0 ?_)
    refine VO.nil ?_
    exact ⟨(m0, (s1, (IntKind.i64.wrap (i + (1 : Int)))), ()), hl1 _ (Option.some.inj hm1).symm, Nat.lt_succ_self _, Keeps.mk (ks := []) rfl ⟨rfl, rfl, rfl, trivial⟩ (rfl) rfl⟩
  ·
   replace hm1 := cond_f hc0 hm1
   refine V.exit ?_
   obtain rfl := hr1 _ (Option.some.inj hm1).symm
   exact ⟨(s0, ()), rfl, Keeps.mk (ks := []) rfl ⟨rfl, trivial⟩ (rfl) rfl⟩
 ·
  rintro ⟨s, _⟩ rfl
  try dsimp only at hm0
  refine V.seq ?_
  refine V.region ?_
  refine VO.cons rfl (V1.move rfl rfl rfl lt0 ?_)
  refine VO.cons rfl (V1.assign rfl rfl rfl lt0 ?_)
  refine VO.nil ?_
  refine V.ret ?_
  obtain rfl := Option.some.inj hm0
  exact ⟨_, [], ⟨_, _, rfl, rfl, rfl⟩, List.nil_sublist _, rfl, rfl⟩

theorem ok_spec_ScheduleText {ρ0 rn : Nat} {list : List Rule} {r : List UInt8 × Bool} (h : M.spec_ScheduleText list = some r) : Does Tryz.prog 8 [.vl ρ0 4 (List.map encRule list)] [] rn (fun x H => x = .tup [.str r.1, .bool r.2] ∧ H = []) := by
 have hm0 := h; clear h; unfold M.spec_ScheduleText at hm0
 try dsimp only at hm0
 refine Does.intro (N := 9) Tryz.func8 rfl rfl rfl rfl ?_
 intro w0 S0 L0
 refine V.seq ?_
 refine V.region ?_
 refine VO.cons rfl (V1.assign rfl rfl rfl lt0 ?_)
 refine VO.cons rfl (V1.assign rfl rfl rfl lt0 ?_)
 refine VO.nil ?_
 refine V.seq ?_
 refine V.seq ?_
 replace hm0 := bindO hm0; rcases hm0 with ⟨y0, hh0, hm0⟩
 refine V.region ?_
 refine VO.cons rfl (V1.move rfl rfl rfl lt0 ?_)
 refine VO.cons rfl (V1.call rfl rfl rfl cok_26 rfl (ok_spec_l4Good hh0) rfl lt0 ?_)
 rintro _ _ ⟨rfl, rfl⟩
 refine VO.cons rfl (V1.not rfl rfl rfl lt0 ?_)
 refine VO.nil ?_
 refine V.keep 9 [0, 6] [] (E0 := [(0, .vl ρ0 4 (List.map encRule list)), (6, .bool (!y0))]) (H0 := []) rfl (⟨_, _, rfl, rfl, _, _, rfl, rfl, rfl⟩) (rfl) rfl ?_
 refine V.cond rfl (fun hc0 => ?_) (fun hc0 => ?_)
 ·
  replace hm0 := cond_t hc0 hm0
  refine V.seq ?_
  refine V.region ?_
  refine VO.cons rfl (V1.assign rfl rfl rfl lt0 ?_)
  refine VO.cons rfl (V1.assign rfl rfl rfl lt0 ?_)
  refine VO.nil ?_
  refine V.ret ?_
  obtain rfl := Option.some.inj hm0
  exact ⟨_, [], ⟨_, _, rfl, rfl, _, _, rfl, rfl, rfl⟩, List.nil_sublist _, rfl, rfl⟩
 ·
  replace hm0 := cond_f hc0 hm0
  refine V.skip ?_
  refine V.seq ?_
  replace hm0 := bindO hm0; rcases hm0 with ⟨y1, hh1, hm0⟩
  refine V.region ?_
  refine VO.cons rfl (V1.move rfl rfl rfl lt0 ?_)
  refine VO.cons rfl (V1.call rfl rfl rfl cok_27 rfl (ok_spec_l4Text hh1) rfl lt0 ?_)
  rintro _ _ ⟨rfl, rfl⟩
  refine VO.cons rfl (V1.assign rfl rfl rfl lt0 ?_)
  refine VO.cons rfl (V1.assign rfl rfl rfl lt0 ?_)
  refine VO.nil ?_
  refine V.ret ?_
  obtain rfl := Option.some.inj hm0
  exact ⟨_, [], ⟨_, _, rfl, rfl, _, _, rfl, rfl, rfl⟩, List.nil_sublist _, rfl, rfl⟩

theorem ok_laws_vRules {ρ0 ρ1 rn : Nat} {a : List Rule} {b_ : List Rule} {r : Bool} (h : M.laws_vRules a b_ = some r) : Does Tryz.prog 10 [.vl ρ0 4 (List.map encRule a), .vl ρ1 4 (List.map encRule b_)] [] rn (fun x H => x = .bool r ∧ H = []) := by
 have hm0 := h; clear h; unfold M.laws_vRules at hm0
 try dsimp only at hm0
 refine Does.intro (N := 26) Tryz.func10 rfl rfl rfl rfl ?_
 intro w0 S0 L0
 refine V.seq ?_
 refine V.region ?_
 refine VO.cons rfl (V1.assign rfl rfl rfl lt0 ?_)
 refine VO.nil ?_
 refine V.seq ?_
 refine V.seq ?_
 refine V.region ?_
 refine VO.cons rfl (V1.move rfl rfl rfl lt0 ?_)
 refine VO.cons rfl (V1.lenMap rfl rfl rfl rfl rfl rfl isl_24 lt0 ?_)
 refine VO.cons rfl (V1.move rfl rfl rfl lt0 ?_)
 refine VO.cons rfl (V1.lenMap rfl rfl rfl rfl rfl rfl isl_24 lt0 ?_)
 refine VO.cons rfl (V1.int rfl rfl rfl rfl rfl lt0 ?_)
 refine VO.nil ?_
 refine V.keep 26 [0, 1, 10] [] (E0 := [(0, .vl ρ0 4 (List.map encRule a)), (1, .vl ρ1 4 (List.map encRule b_)), (10, .bool ((a.length : Int) != (b_.length : Int)))]) (H0 := []) rfl (⟨_, _, rfl, rfl, _, _, rfl, rfl, _, _, rfl, rfl, rfl⟩) (rfl) rfl ?_
 refine V.cond rfl (fun hc0 => ?_) (fun hc0 => ?_)
 ·
  replace hm0 := cond_t hc0 hm0
  refine V.seq ?_
  refine V.region ?_
  refine VO.cons rfl (V1.assign rfl rfl rfl lt0 ?_)
  refine VO.nil ?_
  refine V.ret ?_
  obtain rfl := Option.some.inj hm0
  exact ⟨_, [], ⟨_, _, rfl, rfl, rfl⟩, List.nil_sublist _, rfl, rfl⟩
 ·
  replace hm0 := cond_f hc0 hm0
  refine V.skip ?_
  refine V.seq ?_
  refine V.seq ?_
  refine V.region ?_
  refine VO.cons rfl (V1.assign rfl rfl rfl lt0 ?_)
  refine VO.nil ?_
  replace hm0 := bindO hm0; rcases hm0 with ⟨e0, he1, hm0⟩
  refine V.cutT (D := (Unit) × (Unit)) (fun ⟨_, _⟩ => ⟨26, [], []⟩) (fun ⟨_, _⟩ => (.inl () = e0)) ?_ ?_
  ·
   refine V.block ?_
   refine V.keep 26 [5, 0, 1] [] (E0 := [(5, .int .i64 (0 : Int)), (0, .vl ρ0 4 (List.map encRule a)), (1, .vl ρ1 4 (List.map encRule b_))]) (H0 := []) rfl (⟨_, _, rfl, rfl, _, _, rfl, rfl, _, _, rfl, rfl, rfl⟩) (rfl) rfl ?_
   refine V.loopE (D := Nat × (Int) × (Unit)) (fun ⟨n0, i, _⟩ => [(5, .int .i64 i)]) (fun ⟨n0, i, _⟩ => []) (fun ⟨n0, i, _⟩ => loopO (M.laws_vRules_l0 a b_) n0 i = some e0) (fun ⟨n0, _, _⟩ => n0) (rounds, (0 : Int), ()) rfl he1 ?_
   rintro ⟨n0, i, _⟩ hP0
   obtain ⟨m0, y0, rfl, hm1, hl1, hr1⟩ := loop_head hP0
   unfold M.laws_vRules_l0 at hm1; dsimp only at hm1
   show V _ _ _ ⟨26, [(5, .int .i64 i), (0, .vl ρ0 4 (List.map encRule a)), (1, .vl ρ1 4 (List.map encRule b_))], []⟩
   refine V.seq ?_
   refine V.seq ?_
   refine V.region ?_
   refine VO.cons rfl (V1.move rfl rfl rfl lt0 ?_)
   refine VO.cons rfl (V1.move rfl rfl rfl lt0 ?_)
   refine VO.cons rfl (V1.lenMap rfl rfl rfl rfl rfl rfl isl_24 lt0 ?_)
   refine VO.cons rfl (V1.int rfl rfl rfl rfl rfl lt0 ?_)
   refine VO.nil ?_
   refine V.cond rfl (fun hc1 => ?_) (fun hc1 => ?_)
   ·
    replace hm1 := cond_t hc1 hm1
    refine V.skip ?_
    refine V.keep 26 [0, 1, 5] [] (E0 := [(0, .vl ρ0 4 (List.map encRule a)), (1, .vl ρ1 4 (List.map encRule b_)), (5, .int .i64 i)]) (H0 := []) rfl (⟨_, _, rfl, rfl, _, _, rfl, rfl, _, _, rfl, rfl, rfl⟩) (rfl) rfl ?_
    refine V.seq ?_
    refine V.block ?_
    refine V.seq ?_
    replace hm1 := asrt_some hm1; rcases hm1 with ⟨hh0, hm1⟩
    replace hm1 := asrt_some hm1; rcases hm1 with ⟨hh1, hm1⟩
    refine V.regionM 26 8 [⟨[(0, none)], [], none⟩, ⟨[(5, none)], [], none⟩, ⟨[(17, some 1), (18, some 0)], [], none⟩, ⟨[(19, some 0)], [], none⟩, ⟨[(1, none)], [], none⟩, ⟨[(5, none)], [], none⟩, ⟨[(21, some 1), (22, some 0)], [], none⟩, ⟨[(23, some 0)], [], none⟩] [(0, none), (1, none), (5, none), (20, some 4), (24, some 0)] (⟨_, rfl, ⟨_, rfl, ⟨_, rfl, ⟨_, rfl, ⟨_, rfl, ⟨_, rfl, ⟨_, rfl, ⟨_, rfl, ⟨rfl, rfl⟩⟩⟩⟩⟩⟩⟩⟩⟩) mixed_orders rfl (by decide +kernel) (fun hck6 => ?_)
    refine VP.step (p := ?pv65) rfl rfl rfl (⟨_, _, rfl, rfl, rfl⟩) ?hv65 ?rest65 hck6
    case hv65 =>
     intro E1
     refine (V1.move rfl rfl rfl lt0 ?_)
     exact rfl
    refine VP.step (p := ?pv66) rfl rfl rfl (⟨_, _, rfl, rfl, rfl⟩) ?hv66 ?rest66 hck6
    case hv66 =>
     intro E1
     refine (V1.move rfl rfl rfl lt0 ?_)
     exact rfl
    refine VP.step (p := ?pv67) rfl rfl rfl (⟨_, _, rfl, rfl, _, _, rfl, rfl, rfl⟩) ?hv67 ?rest67 hck6
    case hv67 =>
     intro E1
     refine (V1.indexI rfl rfl esz_24 rfl rfl hh0 lt0 ?_)
     exact rfl
    refine VP.step (p := ?pv68) rfl rfl rfl (⟨_, _, rfl, rfl, rfl⟩) ?hv68 ?rest68 hck6
    case hv68 =>
     intro E1
     refine (V1.loadPinAll rfl rfl tyk_50 rfl rfl lt0 ?_)
     exact rfl
    refine VP.step (p := ?pv69) rfl rfl rfl (⟨_, _, rfl, rfl, rfl⟩) ?hv69 ?rest69 hck6
    case hv69 =>
     intro E1
     refine (V1.move rfl rfl rfl lt0 ?_)
     exact rfl
    refine VP.step (p := ?pv70) rfl rfl rfl (⟨_, _, rfl, rfl, rfl⟩) ?hv70 ?rest70 hck6
    case hv70 =>
     intro E1
     refine (V1.move rfl rfl rfl lt0 ?_)
     exact rfl
    refine VP.step (p := ?pv71) rfl rfl rfl (⟨_, _, rfl, rfl, _, _, rfl, rfl, rfl⟩) ?hv71 ?rest71 hck6
    case hv71 =>
     intro E1
     refine (V1.indexI rfl rfl esz_24 rfl rfl hh1 lt0 ?_)
     exact rfl
    refine VP.step (p := ?pv72) rfl rfl rfl (⟨_, _, rfl, rfl, rfl⟩) ?hv72 ?rest72 hck6
    case hv72 =>
     intro E1
     refine (V1.loadPinAll rfl rfl tyk_50 rfl rfl lt0 ?_)
     exact rfl
    refine VP.fin rfl (⟨_, _, rfl, rfl, _, _, rfl, rfl, _, _, rfl, rfl, _, _, rfl, rfl, _, _, rfl, rfl, rfl⟩) ?_
    refine VO.cons rfl (V1.aggEqG true rfl rfl fe_50 rfl rfl rfl rfl rfl lt0 ?_)
    refine VO.nil ?_
    refine V.cond rfl (fun hc2 => ?_) (fun hc2 => ?_)
    ·
     replace hm1 := cond_t hc2 hm1
     refine V.seq ?_
     refine V.region ?_
     refine VO.cons rfl (V1.assign rfl rfl rfl lt0 ?_)
     refine VO.nil ?_
     refine V.ret ?_
     obtain rfl := hr1 _ (Option.some.inj hm1).symm
     change some _ = some _ at hm0
     obtain rfl := Option.some.inj hm0
     exact ⟨_, [], ⟨_, _, rfl, rfl, rfl⟩, List.nil_sublist _, rfl, rfl⟩
    ·
     replace hm1 := cond_f hc2 hm1
     refine V.skip ?_
     refine V.region ?_
     refine VO.cons rfl (V1.move rfl rfl rfl lt0 ?_)
     refine VO.cons rfl (V1.int rfl rfl rfl rfl rfl lt0 ?_)
     refine VO.cons rfl (V1.assign rfl rfl rfl lt0 ?_)
     refine VO.nil ?_
     exact ⟨(m0, (IntKind.i64.wrap (i + (1 : Int))), ()), hl1 _ (Option.some.inj hm1).symm, Nat.lt_succ_self _, Keeps.mk (ks := []) rfl ⟨rfl, rfl, rfl, trivial⟩ (rfl) rfl⟩
   ·
    replace hm1 := cond_f hc1 hm1
    refine V.exit ?_
    obtain rfl := hr1 _ (Option.some.inj hm1).symm
    exact ⟨((), ()), rfl, Keeps.mk (ks := []) rfl trivial (rfl) rfl⟩
  ·
   rintro ⟨_, _⟩ rfl
   try dsimp only at hm0
   refine V.seq ?_
   refine V.region ?_
   refine VO.cons rfl (V1.assign rfl rfl rfl lt0 ?_)
   refine VO.nil ?_
   refine V.ret ?_
   obtain rfl := Option.some.inj hm0
   exact ⟨_, [], ⟨_, _, rfl, rfl, rfl⟩, List.nil_sublist _, rfl, rfl⟩

theorem ok_spec_l1Cur_one {ρ0 rn bp : Nat} {c : Cur} {n : Int} {r : Bool × Cur} (h : M.spec_l1Cur_one c n = some r) : Does Tryz.prog 31 [.ref bp 3 0 0, .int .i64 n] [(bp, ⟨3, [encCur ρ0 c]⟩)] rn (fun x H => x = .bool r.1 ∧ H = [(bp, ⟨3, [encCur ρ0 r.2]⟩)]) := by
 have hm0 := h; clear h; unfold M.spec_l1Cur_one at hm0
 try dsimp only at hm0
 refine Does.intro (N := 9) Tryz.func31 rfl rfl rfl rfl ?_
 intro w0 S0 L0
 refine V.seq ?_
 refine V.region ?_
 refine VO.cons rfl (V1.assign rfl rfl rfl lt0 ?_)
 refine VO.nil ?_
 refine V.seq ?_
 replace hm0 := bindO hm0; rcases hm0 with ⟨y0, hh0, hm0⟩
 refine V.region ?_
 refine VO.cons rfl (V1.move rfl rfl rfl lt0 ?_)
 refine VO.cons rfl (V1.move rfl rfl rfl lt0 ?_)
 refine VO.cons rfl (V1.callM 0 (rn + ρ0 + 1) [] [.ref bp 3 0 0, .int .i64 n] (p := (bp, ⟨3, [encCur ρ0 c]⟩)) rfl rfl rfl cok_59 rfl rfl ⟨_, _, rfl, .same _, ⟨_, _, rfl, .same _, rfl⟩⟩ bwNil (ok_spec_l1Cur_pick hh0) rfl (.inl rfl) lt0 ?_)
 rintro _ _ ⟨rfl, rfl⟩
 refine VO.cons rfl (V1.int rfl rfl rfl rfl rfl lt0 ?_)
 refine VO.cons rfl (V1.assign rfl rfl rfl lt0 ?_)
 refine VO.nil ?_
 refine V.ret ?_
 obtain rfl := Option.some.inj hm0
 exact ⟨_, _, ⟨_, _, rfl, rfl, rfl⟩, (sub1 (k := 0) rfl), rfl, rfl⟩
end Go.Proofs.YthcmelnpcaijaaaGreatDoor
