/- the functions do what their models say -/
import Derived.Test.YtfebeomnlkfgoaaDoorFacts
import Derived.Test.YtfebeomnlkfgoaaDoorSh
import Derived.KernelRfl
import Derived.Test.YtfebeomnlkfgoaaDoorMsM
set_option linter.unusedSimpArgs false
set_option linter.unusedVariables false
set_option maxRecDepth 100000
set_option maxHeartbeats 4000000
namespace Go.Proofs.YtfebeomnlkfgoaaDoor
open Go.VS

theorem ok_laws_vBig {ρ0 rn : Nat} {code : List Int} {r : Bool} (h : M.laws_vBig code = some r) : Does Tryd.prog 22 [.vl ρ0 1 (List.map encU8 code)] [] rn (fun x H => x = .bool r ∧ H = []) := by
 have hm0 := h; clear h; unfold M.laws_vBig at hm0
 try dsimp only at hm0
 refine Does.intro (N := 6) Tryd.func22 rfl rfl rfl rfl ?_
 intro w0 S0 L0
 refine V.seq ?_
 refine V.region ?_
 refine VO.cons rfl (V1.assign rfl rfl rfl lt0 ?_)
 refine VO.nil ?_
 refine V.seq ?_
 refine V.region ?_
 refine VO.cons rfl (V1.move rfl rfl rfl lt0 ?_)
 refine VO.cons rfl (V1.lenMap rfl rfl rfl rfl rfl rfl isl_22 lt0 ?_)
 refine VO.cons rfl (V1.int rfl rfl rfl rfl rfl lt0 ?_)
 refine VO.cons rfl (V1.assign rfl rfl rfl lt0 ?_)
 refine VO.nil ?_
 refine V.ret ?_
 obtain rfl := Option.some.inj hm0
 exact ⟨_, [], ⟨_, _, rfl, rfl, rfl⟩, List.nil_sublist _, rfl, rfl⟩

theorem ok_spec_l1Cur_next {ρ0 rn bp : Nat} {c : Cur} {r : Int × Cur} (h : M.spec_l1Cur_next c = some r) : Does Tryd.prog 122 [.ref bp 3 0 0] [(bp, ⟨3, [encCur ρ0 c]⟩)] rn (fun x H => x = .int .i64 r.1 ∧ H = [(bp, ⟨3, [encCur ρ0 r.2]⟩)]) := by
 have hm0 := h; clear h; unfold M.spec_l1Cur_next at hm0
 try dsimp only at hm0
 refine Does.intro (N := 62) Tryd.func122 rfl rfl rfl rfl ?_
 intro w0 S0 L0
 refine V.seq ?_
 refine V.region ?_
 refine VO.cons rfl (V1.assign rfl rfl rfl lt0 ?_)
 refine VO.nil ?_
 refine V.seq ?_
 refine V.region ?_
 refine VO.cons rfl (V1.assign rfl rfl rfl lt0 ?_)
 refine VO.nil ?_
 refine V.seq ?_
 replace hm0 := bindO hm0; rcases hm0 with ⟨j0, hm1, hm0⟩
 refine V.cutT (D := (Int) × (Unit)) (fun ⟨b_, _⟩ => ⟨62, [(3, .int .i64 b_), (0, .ref bp 3 0 0)], [(bp, ⟨3, [encCur ρ0 c]⟩)]⟩) (fun ⟨b_, _⟩ => (b_ = j0)) ?_ ?_
 ·
  refine V.seq ?_
  refine V.regionM 62 9 [⟨[(0, none)], [], none⟩, ⟨[(4, some 0)], [], none⟩, ⟨[(5, some 0)], [], none⟩, ⟨[(6, some 0)], [], none⟩, ⟨[(0, none)], [], none⟩, ⟨[(8, some 0)], [], none⟩, ⟨[(9, some 0)], [], none⟩, ⟨[(10, some 0)], [], none⟩, ⟨[(11, some 0)], [], none⟩] [(0, none), (3, none), (7, some 5), (12, some 0)] (⟨_, rfl, ⟨_, rfl, ⟨_, rfl, ⟨_, rfl, ⟨_, rfl, ⟨_, rfl, ⟨_, rfl, ⟨_, rfl, ⟨_, rfl, ⟨rfl, rfl⟩⟩⟩⟩⟩⟩⟩⟩⟩⟩) mixed_orders rfl (by decide +kernel) (fun hck2 => ?_)
  refine VP.step (p := ?pv104) rfl rfl rfl (⟨_, _, rfl, rfl, rfl⟩) ?hv104 ?rest104 hck2
  case hv104 =>
   intro E1
   refine (V1.move rfl rfl rfl lt0 ?_)
   exact rfl
  refine VP.step (p := ?pv105) rfl rfl rfl (⟨_, _, rfl, rfl, rfl⟩) ?hv105 ?rest105 hck2
  case hv105 =>
   intro E1
   refine (V1.nilRef rfl rfl rfl lt0 ?_)
   exact rfl
  refine VP.step (p := ?pv106) rfl rfl rfl (⟨_, _, rfl, rfl, rfl⟩) ?hv106 ?rest106 hck2
  case hv106 =>
   intro E1
   refine (V1.fieldRef rfl rfl fo_91_1 rfl lt0 ?_)
   exact rfl
  refine VP.step (p := ?pv107) rfl rfl rfl (⟨_, _, rfl, rfl, rfl⟩) ?hv107 ?rest107 hck2
  case hv107 =>
   intro E1
   refine (V1.loadRef (k := 0) rfl rfl tyk_3 rfl rfl rfl rfl rfl lt0 ?_)
   exact rfl
  refine VP.step (p := ?pv108) rfl rfl rfl (⟨_, _, rfl, rfl, rfl⟩) ?hv108 ?rest108 hck2
  case hv108 =>
   intro E1
   refine (V1.move rfl rfl rfl lt0 ?_)
   exact rfl
  refine VP.step (p := ?pv109) rfl rfl rfl (⟨_, _, rfl, rfl, rfl⟩) ?hv109 ?rest109 hck2
  case hv109 =>
   intro E1
   refine (V1.nilRef rfl rfl rfl lt0 ?_)
   exact rfl
  refine VP.step (p := ?pv110) rfl rfl rfl (⟨_, _, rfl, rfl, rfl⟩) ?hv110 ?rest110 hck2
  case hv110 =>
   intro E1
   refine (V1.fieldRef rfl rfl fo_91_0 rfl lt0 ?_)
   exact rfl
  refine VP.step (p := ?pv111) rfl rfl rfl (⟨_, _, rfl, rfl, rfl⟩) ?hv111 ?rest111 hck2
  case hv111 =>
   intro E1
   refine (V1.loadRef (k := 0) rfl rfl tyk_22 rfl rfl rfl rfl rfl lt0 ?_)
   exact rfl
  refine VP.step (p := ?pv112) rfl rfl rfl (⟨_, _, rfl, rfl, rfl⟩) ?hv112 ?rest112 hck2
  case hv112 =>
   intro E1
   refine (V1.lenMap rfl rfl rfl rfl rfl rfl isl_22 lt0 ?_)
   exact rfl
  refine VP.fin rfl (⟨_, _, rfl, rfl, _, _, rfl, rfl, _, _, rfl, rfl, _, _, rfl, rfl, rfl⟩) ?_
  refine VO.cons rfl (V1.int rfl rfl rfl rfl rfl lt0 ?_)
  refine VO.nil ?_
  refine V.cond rfl (fun hc0 => ?_) (fun hc0 => ?_)
  ·
   replace hm1 := cond_t hc0 hm1
   replace hm1 := asrt_some hm1; rcases hm1 with ⟨hh0, hm1⟩
   refine V.regionM 62 8 [⟨[(0, none)], [], none⟩, ⟨[(14, some 0)], [], none⟩, ⟨[(15, some 0)], [], none⟩, ⟨[(16, some 0)], [], none⟩, ⟨[(0, none)], [], none⟩, ⟨[(18, some 0)], [], none⟩, ⟨[(19, some 0)], [], none⟩, ⟨[(20, some 0)], [], none⟩] [(0, none), (17, some 4), (21, some 0)] (⟨_, rfl, ⟨_, rfl, ⟨_, rfl, ⟨_, rfl, ⟨_, rfl, ⟨_, rfl, ⟨_, rfl, ⟨_, rfl, ⟨rfl, rfl⟩⟩⟩⟩⟩⟩⟩⟩⟩) mixed_orders rfl (by decide +kernel) (fun hck3 => ?_)
   refine VP.step (p := ?pv113) rfl rfl rfl (⟨_, _, rfl, rfl, rfl⟩) ?hv113 ?rest113 hck3
   case hv113 =>
    intro E1
    refine (V1.move rfl rfl rfl lt0 ?_)
    exact rfl
   refine VP.step (p := ?pv114) rfl rfl rfl (⟨_, _, rfl, rfl, rfl⟩) ?hv114 ?rest114 hck3
   case hv114 =>
    intro E1
    refine (V1.nilRef rfl rfl rfl lt0 ?_)
    exact rfl
   refine VP.step (p := ?pv115) rfl rfl rfl (⟨_, _, rfl, rfl, rfl⟩) ?hv115 ?rest115 hck3
   case hv115 =>
    intro E1
    refine (V1.fieldRef rfl rfl fo_91_0 rfl lt0 ?_)
    exact rfl
   refine VP.step (p := ?pv116) rfl rfl rfl (⟨_, _, rfl, rfl, rfl⟩) ?hv116 ?rest116 hck3
   case hv116 =>
    intro E1
    refine (V1.loadRef (k := 0) rfl rfl tyk_22 rfl rfl rfl rfl rfl lt0 ?_)
    exact rfl
   refine VP.step (p := ?pv117) rfl rfl rfl (⟨_, _, rfl, rfl, rfl⟩) ?hv117 ?rest117 hck3
   case hv117 =>
    intro E1
    refine (V1.move rfl rfl rfl lt0 ?_)
    exact rfl
   refine VP.step (p := ?pv118) rfl rfl rfl (⟨_, _, rfl, rfl, rfl⟩) ?hv118 ?rest118 hck3
   case hv118 =>
    intro E1
    refine (V1.nilRef rfl rfl rfl lt0 ?_)
    exact rfl
   refine VP.step (p := ?pv119) rfl rfl rfl (⟨_, _, rfl, rfl, rfl⟩) ?hv119 ?rest119 hck3
   case hv119 =>
    intro E1
    refine (V1.fieldRef rfl rfl fo_91_1 rfl lt0 ?_)
    exact rfl
   refine VP.step (p := ?pv120) rfl rfl rfl (⟨_, _, rfl, rfl, rfl⟩) ?hv120 ?rest120 hck3
   case hv120 =>
    intro E1
    refine (V1.loadRef (k := 0) rfl rfl tyk_3 rfl rfl rfl rfl rfl lt0 ?_)
    exact rfl
   refine VP.fin rfl (⟨_, _, rfl, rfl, _, _, rfl, rfl, _, _, rfl, rfl, rfl⟩) ?_
   refine VO.cons rfl (V1.indexI rfl rfl esz_22 rfl rfl hh0 lt0 ?_)
   refine VO.cons rfl (V1.loadPin rfl rfl tyk_5 rfl rfl lt0 ?_)
   refine VO.cons rfl (V1.conv rfl rfl und_5 und_3 rfl lt0 ?_)
   refine VO.cons rfl (V1.assign rfl rfl rfl lt0 ?_)
   refine VO.nil ?_
   exact ⟨((IntKind.i64.wrap (c.Code.getD (Int.toNat c.At) default)), ()), Option.some.inj hm1, Keeps.mk (ks := [0]) rfl ⟨rfl, rfl, trivial⟩ (⟨_, _, rfl, rfl, rfl⟩) rfl⟩
  ·
   replace hm1 := cond_f hc0 hm1
   refine V.skip ?_
   exact ⟨((0 : Int), ()), Option.some.inj hm1, Keeps.mk (ks := [0]) rfl ⟨rfl, rfl, trivial⟩ (⟨_, _, rfl, rfl, rfl⟩) rfl⟩
 ·
  rintro ⟨b_, _⟩ rfl
  try dsimp only at hm0
  refine V.seq ?_
  refine V.region ?_
  refine VO.cons rfl (V1.move rfl rfl rfl lt0 ?_)
  refine VO.cons rfl (V1.nilRef rfl rfl rfl lt0 ?_)
  refine VO.cons rfl (V1.fieldRef rfl rfl fo_91_1 rfl lt0 ?_)
  refine VO.cons rfl (V1.loadRef (k := 0) rfl rfl tyk_3 rfl rfl rfl rfl rfl lt0 ?_)
  refine VO.cons rfl (V1.int rfl rfl rfl rfl rfl lt0 ?_)
  refine VO.cons rfl (V1.nilRef rfl rfl rfl lt0 ?_)
  refine VO.cons rfl (V1.fieldRef rfl rfl fo_91_1 rfl lt0 ?_)
  refine VO.cons rfl (V1.storeRef (k := 0) rfl rfl tyk_3 rfl rfl rfl rfl rfl rfl rfl rfl rfl ?_)
  refine VO.nil ?_
  refine V.keep 62 [0, 3] [0] (E0 := [(0, .ref bp 3 0 0), (3, .int .i64 b_)]) (H0 := [(bp, ⟨3, [.agg [.vl ρ0 1 (List.map encU8 c.Code), .int .i64 (IntKind.i64.wrap (c.At + (1 : Int))), .int .u64 c.Seed]]⟩)]) rfl (⟨_, _, rfl, rfl, _, _, rfl, rfl, rfl⟩) (⟨_, _, rfl, rfl, rfl⟩) rfl ?_
  refine V.seq ?_
  refine V.region ?_
  refine VO.cons rfl (V1.move rfl rfl rfl lt0 ?_)
  refine VO.cons rfl (V1.move rfl rfl rfl lt0 ?_)
  refine VO.cons rfl (V1.nilRef rfl rfl rfl lt0 ?_)
  refine VO.cons rfl (V1.fieldRef rfl rfl fo_91_2 rfl lt0 ?_)
  refine VO.cons rfl (V1.loadRef (k := 0) rfl rfl tyk_89 rfl rfl rfl rfl rfl lt0 ?_)
  refine VO.cons rfl (V1.int rfl rfl rfl rfl rfl lt0 ?_)
  refine VO.cons rfl (V1.move rfl rfl rfl lt0 ?_)
  refine VO.cons rfl (V1.conv rfl rfl und_3 und_89 rfl lt0 ?_)
  refine VO.cons rfl (V1.int rfl rfl rfl rfl rfl lt0 ?_)
  refine VO.cons rfl (V1.int rfl rfl rfl rfl rfl lt0 ?_)
  refine VO.cons rfl (V1.nilRef rfl rfl rfl lt0 ?_)
  refine VO.cons rfl (V1.fieldRef rfl rfl fo_91_2 rfl lt0 ?_)
  refine VO.cons rfl (V1.storeRef (k := 0) rfl rfl tyk_89 rfl rfl rfl rfl rfl rfl rfl rfl rfl ?_)
  refine VO.nil ?_
  refine V.keep 62 [0, 3] [0] (E0 := [(0, .ref bp 3 0 0), (3, .int .i64 b_)]) (H0 := [(bp, ⟨3, [.agg [.vl ρ0 1 (List.map encU8 c.Code), .int .i64 (IntKind.i64.wrap (c.At + (1 : Int))), .int .u64 (IntKind.u64.wrap ((IntKind.u64.wrap ((IntKind.u64.wrap (c.Seed * (6364136223846793005 : Int))) + (IntKind.u64.wrap b_))) + (103535 : Int)))]]⟩)]) rfl (⟨_, _, rfl, rfl, _, _, rfl, rfl, rfl⟩) (⟨_, _, rfl, rfl, rfl⟩) rfl ?_
  refine V.seq ?_
  refine V.seq ?_
  refine V.regionM 62 9 [⟨[(0, none)], [], none⟩, ⟨[(44, some 0)], [], none⟩, ⟨[(45, some 0)], [], none⟩, ⟨[(46, some 0)], [], none⟩, ⟨[(0, none)], [], none⟩, ⟨[(48, some 0)], [], none⟩, ⟨[(49, some 0)], [], none⟩, ⟨[(50, some 0)], [], none⟩, ⟨[(51, some 0)], [], none⟩] [(0, none), (3, none), (47, some 5), (52, some 0)] (⟨_, rfl, ⟨_, rfl, ⟨_, rfl, ⟨_, rfl, ⟨_, rfl, ⟨_, rfl, ⟨_, rfl, ⟨_, rfl, ⟨_, rfl, ⟨rfl, rfl⟩⟩⟩⟩⟩⟩⟩⟩⟩⟩) mixed_orders rfl (by decide +kernel) (fun hck6 => ?_)
  refine VP.step (p := ?pv121) rfl rfl rfl (⟨_, _, rfl, rfl, rfl⟩) ?hv121 ?rest121 hck6
  case hv121 =>
   intro E1
   refine (V1.move rfl rfl rfl lt0 ?_)
   exact rfl
  refine VP.step (p := ?pv122) rfl rfl rfl (⟨_, _, rfl, rfl, rfl⟩) ?hv122 ?rest122 hck6
  case hv122 =>
   intro E1
   refine (V1.nilRef rfl rfl rfl lt0 ?_)
   exact rfl
  refine VP.step (p := ?pv123) rfl rfl rfl (⟨_, _, rfl, rfl, rfl⟩) ?hv123 ?rest123 hck6
  case hv123 =>
   intro E1
   refine (V1.fieldRef rfl rfl fo_91_1 rfl lt0 ?_)
   exact rfl
  refine VP.step (p := ?pv124) rfl rfl rfl (⟨_, _, rfl, rfl, rfl⟩) ?hv124 ?rest124 hck6
  case hv124 =>
   intro E1
   refine (V1.loadRef (k := 0) rfl rfl tyk_3 rfl rfl rfl rfl rfl lt0 ?_)
   exact rfl
  refine VP.step (p := ?pv125) rfl rfl rfl (⟨_, _, rfl, rfl, rfl⟩) ?hv125 ?rest125 hck6
  case hv125 =>
   intro E1
   refine (V1.move rfl rfl rfl lt0 ?_)
   exact rfl
  refine VP.step (p := ?pv126) rfl rfl rfl (⟨_, _, rfl, rfl, rfl⟩) ?hv126 ?rest126 hck6
  case hv126 =>
   intro E1
   refine (V1.nilRef rfl rfl rfl lt0 ?_)
   exact rfl
  refine VP.step (p := ?pv127) rfl rfl rfl (⟨_, _, rfl, rfl, rfl⟩) ?hv127 ?rest127 hck6
  case hv127 =>
   intro E1
   refine (V1.fieldRef rfl rfl fo_91_0 rfl lt0 ?_)
   exact rfl
  refine VP.step (p := ?pv128) rfl rfl rfl (⟨_, _, rfl, rfl, rfl⟩) ?hv128 ?rest128 hck6
  case hv128 =>
   intro E1
   refine (V1.loadRef (k := 0) rfl rfl tyk_22 rfl rfl rfl rfl rfl lt0 ?_)
   exact rfl
  refine VP.step (p := ?pv129) rfl rfl rfl (⟨_, _, rfl, rfl, rfl⟩) ?hv129 ?rest129 hck6
  case hv129 =>
   intro E1
   refine (V1.lenMap rfl rfl rfl rfl rfl rfl isl_22 lt0 ?_)
   exact rfl
  refine VP.fin rfl (⟨_, _, rfl, rfl, _, _, rfl, rfl, _, _, rfl, rfl, _, _, rfl, rfl, rfl⟩) ?_
  refine VO.cons rfl (V1.int rfl rfl rfl rfl rfl lt0 ?_)
  refine VO.nil ?_
  refine V.cond rfl (fun hc1 => ?_) (fun hc1 => ?_)
  ·
   replace hm0 := cond_t hc1 hm0
   refine V.seq ?_
   refine V.region ?_
   refine VO.cons rfl (V1.move rfl rfl rfl lt0 ?_)
   refine VO.cons rfl (V1.assign rfl rfl rfl lt0 ?_)
   refine VO.nil ?_
   refine V.ret ?_
   obtain rfl := Option.some.inj hm0
   exact ⟨_, _, ⟨_, _, rfl, rfl, rfl⟩, (sub1 (k := 0) rfl), rfl, rfl⟩
  ·
   replace hm0 := cond_f hc1 hm0
   refine V.skip ?_
   refine V.keep 62 [0] [0] (E0 := [(0, .ref bp 3 0 0)]) (H0 := [(bp, ⟨3, [.agg [.vl ρ0 1 (List.map encU8 c.Code), .int .i64 (IntKind.i64.wrap (c.At + (1 : Int))), .int .u64 (IntKind.u64.wrap ((IntKind.u64.wrap ((IntKind.u64.wrap (c.Seed * (6364136223846793005 : Int))) + (IntKind.u64.wrap b_))) + (103535 : Int)))]]⟩)]) rfl (⟨_, _, rfl, rfl, rfl⟩) (⟨_, _, rfl, rfl, rfl⟩) rfl ?_
   refine V.seq ?_
   refine V.region ?_
   refine VO.cons rfl (V1.move rfl rfl rfl lt0 ?_)
   refine VO.cons rfl (V1.nilRef rfl rfl rfl lt0 ?_)
   refine VO.cons rfl (V1.fieldRef rfl rfl fo_91_2 rfl lt0 ?_)
   refine VO.cons rfl (V1.loadRef (k := 0) rfl rfl tyk_89 rfl rfl rfl rfl rfl lt0 ?_)
   refine VO.cons rfl (V1.shr rfl rfl rfl rfl (by decide) lt0 ?_)
   refine VO.cons rfl (V1.int rfl rfl rfl rfl rfl lt0 ?_)
   refine VO.cons rfl (V1.conv rfl rfl und_89 und_3 rfl lt0 ?_)
   refine VO.cons rfl (V1.assign rfl rfl rfl lt0 ?_)
   refine VO.nil ?_
   refine V.ret ?_
   obtain rfl := Option.some.inj hm0
   exact ⟨_, _, ⟨_, _, rfl, rfl, rfl⟩, (sub1 (k := 0) rfl), rfl, rfl⟩

theorem ok_spec_l1Cur_pick {ρ0 rn bp : Nat} {c : Cur} {n : Int} {r : Int × Cur} (h : M.spec_l1Cur_pick c n = some r) : Does Tryd.prog 76 [.ref bp 3 0 0, .int .i64 n] [(bp, ⟨3, [encCur ρ0 c]⟩)] rn (fun x H => x = .int .i64 r.1 ∧ H = [(bp, ⟨3, [encCur ρ0 r.2]⟩)]) := by
 have hm0 := h; clear h; unfold M.spec_l1Cur_pick at hm0
 try dsimp only at hm0
 refine Does.intro (N := 20) Tryd.func76 rfl rfl rfl rfl ?_
 intro w0 S0 L0
 refine V.seq ?_
 refine V.region ?_
 refine VO.cons rfl (V1.assign rfl rfl rfl lt0 ?_)
 refine VO.nil ?_
 refine V.seq ?_
 refine V.seq ?_
 refine V.region ?_
 refine VO.cons rfl (V1.move rfl rfl rfl lt0 ?_)
 refine VO.cons rfl (V1.int rfl rfl rfl rfl rfl lt0 ?_)
 refine VO.nil ?_
 refine V.cond rfl (fun hc0 => ?_) (fun hc0 => ?_)
 ·
  replace hm0 := cond_t hc0 hm0
  refine V.seq ?_
  refine V.region ?_
  refine VO.cons rfl (V1.assign rfl rfl rfl lt0 ?_)
  refine VO.nil ?_
  refine V.ret ?_
  obtain rfl := Option.some.inj hm0
  exact ⟨_, _, ⟨_, _, rfl, rfl, rfl⟩, (sub1 (k := 0) rfl), rfl, rfl⟩
 ·
  replace hm0 := cond_f hc0 hm0
  refine V.skip ?_
  refine V.seq ?_
  replace hm0 := bindO hm0; rcases hm0 with ⟨y0, hh0, hm0⟩
  refine V.region ?_
  refine VO.cons rfl (V1.move rfl rfl rfl lt0 ?_)
  refine VO.cons rfl (V1.callM 0 (rn + ρ0 + 1) [] [.ref bp 3 0 0] (p := (bp, ⟨3, [encCur ρ0 c]⟩)) rfl rfl rfl cok_122 rfl rfl ⟨_, _, rfl, .same _, rfl⟩ bwNil (ok_spec_l1Cur_next hh0) rfl (.inl rfl) lt0 ?_)
  rintro _ _ ⟨rfl, rfl⟩
  refine VO.cons rfl (V1.assign rfl rfl rfl lt0 ?_)
  refine VO.nil ?_
  refine V.keep 20 [0, 1, 5] [0] (E0 := [(0, .ref bp 3 0 0), (1, .int .i64 n), (5, .int .i64 y0.1)]) (H0 := [(bp, ⟨3, [encCur ρ0 y0.2]⟩)]) rfl (⟨_, _, rfl, rfl, _, _, rfl, rfl, _, _, rfl, rfl, rfl⟩) (⟨_, _, rfl, rfl, rfl⟩) rfl ?_
  refine V.seq ?_
  replace hm0 := bindO hm0; rcases hm0 with ⟨j0, hm1, hm0⟩
  refine V.cutT (D := (Int × Cur) × (Unit)) (fun ⟨⟨x, c_⟩, _⟩ => ⟨20, [(5, .int .i64 x), (1, .int .i64 n)], [(bp, ⟨3, [encCur ρ0 c_]⟩)]⟩) (fun ⟨⟨x, c_⟩, _⟩ => ((x, c_) = j0)) ?_ ?_
  ·
   refine V.seq ?_
   refine V.region ?_
   refine VO.cons rfl (V1.move rfl rfl rfl lt0 ?_)
   refine VO.cons rfl (V1.int rfl rfl rfl rfl rfl lt0 ?_)
   refine VO.nil ?_
   refine V.cond rfl (fun hc1 => ?_) (fun hc1 => ?_)
   ·
    replace hm1 := cond_t hc1 hm1
    replace hm1 := bindO hm1; rcases hm1 with ⟨y1, hh1, hm1⟩
    refine V.region ?_
    refine VO.cons rfl (V1.move rfl rfl rfl lt0 ?_)
    refine VO.cons rfl (V1.int rfl rfl rfl rfl rfl lt0 ?_)
    refine VO.cons rfl (V1.move rfl rfl rfl lt0 ?_)
    refine VO.cons rfl (V1.callM 0 (rn + ρ0 + 1) [] [.ref bp 3 0 0] (p := (bp, ⟨3, [encCur ρ0 y0.2]⟩)) rfl rfl rfl cok_122 rfl rfl ⟨_, _, rfl, .same _, rfl⟩ bwNil (ok_spec_l1Cur_next hh1) rfl (.inl rfl) lt0 ?_)
    rintro _ _ ⟨rfl, rfl⟩
    refine VO.cons rfl (V1.int rfl rfl rfl rfl rfl lt0 ?_)
    refine VO.cons rfl (V1.assign rfl rfl rfl lt0 ?_)
    refine VO.nil ?_
    exact ⟨(((IntKind.i64.wrap ((IntKind.i64.wrap (y0.1 * (256 : Int))) + y1.1)), y1.2), ()), Option.some.inj hm1, Keeps.mk (ks := [0]) rfl ⟨rfl, rfl, trivial⟩ (⟨_, _, rfl, rfl, rfl⟩) rfl⟩
   ·
    replace hm1 := cond_f hc1 hm1
    refine V.skip ?_
    exact ⟨((y0.1, y0.2), ()), Option.some.inj hm1, Keeps.mk (ks := [0]) rfl ⟨rfl, rfl, trivial⟩ (⟨_, _, rfl, rfl, rfl⟩) rfl⟩
  ·
   rintro ⟨⟨x, c_⟩, _⟩ rfl
   try dsimp only at hm0
   refine V.seq ?_
   replace hm0 := asrt_some hm0; rcases hm0 with ⟨hh2, hm0⟩
   refine V.region ?_
   refine VO.cons rfl (V1.move rfl rfl rfl lt0 ?_)
   refine VO.cons rfl (V1.move rfl rfl rfl lt0 ?_)
   refine VO.cons rfl (V1.rem rfl rfl rfl rfl (hh2) lt0 ?_)
   refine VO.cons rfl (V1.assign rfl rfl rfl lt0 ?_)
   refine VO.nil ?_
   refine V.ret ?_
   obtain rfl := Option.some.inj hm0
   exact ⟨_, _, ⟨_, _, rfl, rfl, rfl⟩, (sub1 (k := 0) rfl), rfl, rfl⟩

theorem ok_spec_l1Cur_of {ρ0 ρ1 rn bp : Nat} {c : Cur} {list : List (List UInt8)} {r : List UInt8 × Cur} (h : M.spec_l1Cur_of c list = some r) : Does Tryd.prog 96 [.ref bp 3 0 0, .vl ρ1 1 (List.map encStr list)] [(bp, ⟨3, [encCur ρ0 c]⟩)] rn (fun x H => x = .str r.1 ∧ H = [(bp, ⟨3, [encCur ρ0 r.2]⟩)]) := by
 have hm0 := h; clear h; unfold M.spec_l1Cur_of at hm0
 try dsimp only at hm0
 refine Does.intro (N := 12) Tryd.func96 rfl rfl rfl rfl ?_
 intro w0 S0 L0
 refine V.seq ?_
 refine V.region ?_
 refine VO.cons rfl (V1.assign rfl rfl rfl lt0 ?_)
 refine VO.nil ?_
 refine V.seq ?_
 replace hm0 := bindO hm0; rcases hm0 with ⟨y0, hh0, hm0⟩
 replace hm0 := asrt_some hm0; rcases hm0 with ⟨hh1, hm0⟩
 refine V.region ?_
 refine VO.cons rfl (V1.move rfl rfl rfl lt0 ?_)
 refine VO.cons rfl (V1.move rfl rfl rfl lt0 ?_)
 refine VO.cons rfl (V1.move rfl rfl rfl lt0 ?_)
 refine VO.cons rfl (V1.lenMap rfl rfl rfl rfl rfl rfl isl_81 lt0 ?_)
 refine VO.cons rfl (V1.callM 0 (rn + ρ0 + 1) [] [.ref bp 3 0 0, .int .i64 (list.length : Int)] (p := (bp, ⟨3, [encCur ρ0 c]⟩)) rfl rfl rfl cok_76 rfl rfl ⟨_, _, rfl, .same _, ⟨_, _, rfl, .same _, rfl⟩⟩ bwNil (ok_spec_l1Cur_pick hh0) rfl (.inl rfl) lt0 ?_)
 rintro _ _ ⟨rfl, rfl⟩
 refine VO.cons rfl (V1.indexI rfl rfl esz_81 rfl rfl hh1 lt0 ?_)
 refine VO.cons rfl (V1.loadPin rfl rfl tyk_9 rfl rfl lt0 ?_)
 refine VO.cons rfl (V1.assign rfl rfl rfl lt0 ?_)
 refine VO.nil ?_
 refine V.ret ?_
 obtain rfl := Option.some.inj hm0
 exact ⟨_, _, ⟨_, _, rfl, rfl, rfl⟩, (sub1 (k := 0) rfl), rfl, rfl⟩

theorem ok_spec_l1Cur_any1 {ρ0 rn bp : Nat} {c : Cur} {r : List UInt8 × Cur} (h : M.spec_l1Cur_any1 c = some r) : Does Tryd.prog 114 [.ref bp 3 0 0] [(bp, ⟨3, [encCur ρ0 c]⟩)] rn (fun x H => x = .str r.1 ∧ H = [(bp, ⟨3, [encCur ρ0 r.2]⟩)]) := by
 have hm0 := h; clear h; unfold M.spec_l1Cur_any1 at hm0
 try dsimp only at hm0
 refine Does.intro (N := 6) Tryd.func114 rfl rfl rfl rfl ?_
 intro w0 S0 L0
 refine V.seq ?_
 refine V.region ?_
 refine VO.cons rfl (V1.assign rfl rfl rfl lt0 ?_)
 refine VO.nil ?_
 refine V.seq ?_
 replace hm0 := bindO hm0; rcases hm0 with ⟨y0, hh0, hm0⟩
 refine V.region ?_
 refine VO.cons rfl (V1.move rfl rfl rfl lt0 ?_)
 refine VO.cons rfl (V1.buildSliceT (f := encStr) ([[], [97], [97, 44, 98], [115, 111, 109, 101, 32, 119, 111, 114, 100, 115], [120, 35, 121], [45, 49, 50], [0, 255], [44, 44], [48]] : List (List UInt8)) rfl rfl esz_81 zk_9 rfl rfl rfl rfl rfl rfl rfl lt0 ?_)
 intro b0
 refine VO.cons rfl (V1.callM 1 (rn + ρ0 + 1) [b0] [.ref bp 3 0 0, .vl (rn + ρ0 + 1) 1 (List.map encStr ([[], [97], [97, 44, 98], [115, 111, 109, 101, 32, 119, 111, 114, 100, 115], [120, 35, 121], [45, 49, 50], [0, 255], [44, 44], [48]] : List (List UInt8)))] (p := (bp, ⟨3, [encCur ρ0 c]⟩)) rfl rfl rfl cok_96 rfl rfl ⟨_, _, rfl, .same _, ⟨_, _, rfl, Lend.srMap 0 rfl (fun _ => rfl) (.head _), rfl⟩⟩ (bwCons (k := 0) rfl bwNil) (ok_spec_l1Cur_of hh0) rfl (.inr ⟨(by first | omega | (dsimp only; omega)), by rintro _ _ ⟨rfl, rfl⟩; exact ⟨by simp [PV.no, PV.noL, optS_no, noL_iff, nbeq] <;> omega, by intro b ob h; first | exact optH_no (noL_map (fun _ => by simp [PV.no, PV.noL, noL_iff, nbeq]) _) b ob h | (simp only [List.append_assoc, List.mem_append, List.mem_cons, List.mem_singleton, List.not_mem_nil, or_false, Prod.mk.injEq] at h; rcases h with ⟨rfl, rfl⟩ | ⟨rfl, rfl⟩ <;> first | exact noL_map (fun _ => by simp [PV.no, PV.noL, noL_iff, nbeq]) _ | (simp [PV.no, PV.noL, optS_no, noL_iff, nbeq] <;> omega)) | (simp at h; obtain ⟨rfl, rfl⟩ := h; exact noL_map (fun _ => by simp [PV.no, PV.noL, noL_iff, nbeq]) _) | (simp at h; obtain ⟨rfl, rfl⟩ := h; simp [PV.no, PV.noL, optS_no, noL_iff, nbeq] <;> omega)⟩⟩) lt0 ?_)
 rintro _ _ ⟨rfl, rfl⟩
 refine VO.cons rfl (V1.assign rfl rfl rfl lt0 ?_)
 refine VO.nil ?_
 refine V.ret ?_
 obtain rfl := Option.some.inj hm0
 exact ⟨_, _, ⟨_, _, rfl, rfl, rfl⟩, (sub1 (k := 0) rfl), rfl, rfl⟩

theorem ok_spec_DrawSplitString {ρ0 rn : Nat} {code : List Int} {r : List UInt8 × List UInt8} (h : M.spec_DrawSplitString code = some r) : Does Tryd.prog 58 [.vl ρ0 1 (List.map encU8 code)] [] rn (fun x H => x = .tup [.str r.1, .str r.2] ∧ H = []) := by
 have hm0 := h; clear h; unfold M.spec_DrawSplitString at hm0
 try dsimp only at hm0
 refine Does.intro (N := 15) Tryd.func58 rfl rfl rfl rfl ?_
 intro w0 S0 L0
 refine V.seq ?_
 refine V.region ?_
 refine VO.cons rfl (V1.assign rfl rfl rfl lt0 ?_)
 refine VO.cons rfl (V1.assign rfl rfl rfl lt0 ?_)
 refine VO.nil ?_
 refine V.seq ?_
 refine V.region ?_
 refine VO.cons rfl (V1.move rfl rfl rfl lt0 ?_)
 refine VO.cons rfl (V1.build rfl rfl zk_91 pl_91 rfl rfl lt0 ?_)
 refine VO.cons rfl (V1.boxN (n := 3) rfl rfl rfl rfl rfl lt0 ?_)
 intro b0
 refine VO.cons rfl (V1.assign rfl rfl rfl lt0 ?_)
 refine VO.nil ?_
 refine V.keep 15 [4] [0] (E0 := [(4, .ref b0 3 0 0)]) (H0 := [(b0, ⟨3, [.agg [.vl ρ0 1 (List.map encU8 code), .int .i64 (0 : Int), .int .u64 (0 : Int)]]⟩)]) rfl (⟨_, _, rfl, rfl, rfl⟩) (⟨_, _, rfl, rfl, rfl⟩) rfl ?_
 refine V.seq ?_
 replace hm0 := bindO hm0; rcases hm0 with ⟨y0, hh0, hm0⟩
 refine V.region ?_
 refine VO.cons rfl (V1.move rfl rfl rfl lt0 ?_)
 refine VO.cons rfl (V1.callM 0 (rn + ρ0 + 1) [] [.ref b0 3 0 0] (p := (b0, ⟨3, [.agg [.vl ρ0 1 (List.map encU8 code), .int .i64 (0 : Int), .int .u64 (0 : Int)]]⟩)) rfl rfl rfl cok_114 rfl rfl ⟨_, _, rfl, .same _, rfl⟩ bwNil (ok_spec_l1Cur_any1 hh0) rfl (.inl rfl) lt0 ?_)
 rintro _ _ ⟨rfl, rfl⟩
 refine VO.cons rfl (V1.assign rfl rfl rfl lt0 ?_)
 refine VO.nil ?_
 refine V.seq ?_
 replace hm0 := bindO hm0; rcases hm0 with ⟨y1, hh1, hm0⟩
 refine V.region ?_
 refine VO.cons rfl (V1.move rfl rfl rfl lt0 ?_)
 refine VO.cons rfl (V1.move rfl rfl rfl lt0 ?_)
 refine VO.cons rfl (V1.buildSliceT (f := encStr) ([[44], [44], [32], [], [44, 44]] : List (List UInt8)) rfl rfl esz_81 zk_9 rfl rfl rfl rfl rfl rfl rfl lt0 ?_)
 intro b1
 refine VO.cons rfl (V1.callM 1 (rn + ρ0 + 1) [b1] [.ref b0 3 0 0, .vl (rn + ρ0 + 1) 1 (List.map encStr ([[44], [44], [32], [], [44, 44]] : List (List UInt8)))] (p := (b0, ⟨3, [encCur ρ0 y0.2]⟩)) rfl rfl rfl cok_96 rfl rfl ⟨_, _, rfl, .same _, ⟨_, _, rfl, Lend.srMap 0 rfl (fun _ => rfl) (.head _), rfl⟩⟩ (bwCons (k := 0) rfl bwNil) (ok_spec_l1Cur_of hh1) rfl (.inr ⟨(by first | omega | (dsimp only; omega)), by rintro _ _ ⟨rfl, rfl⟩; exact ⟨by simp [PV.no, PV.noL, optS_no, noL_iff, nbeq] <;> omega, by intro b ob h; first | exact optH_no (noL_map (fun _ => by simp [PV.no, PV.noL, noL_iff, nbeq]) _) b ob h | (simp only [List.append_assoc, List.mem_append, List.mem_cons, List.mem_singleton, List.not_mem_nil, or_false, Prod.mk.injEq] at h; rcases h with ⟨rfl, rfl⟩ | ⟨rfl, rfl⟩ <;> first | exact noL_map (fun _ => by simp [PV.no, PV.noL, noL_iff, nbeq]) _ | (simp [PV.no, PV.noL, optS_no, noL_iff, nbeq] <;> omega)) | (simp at h; obtain ⟨rfl, rfl⟩ := h; exact noL_map (fun _ => by simp [PV.no, PV.noL, noL_iff, nbeq]) _) | (simp at h; obtain ⟨rfl, rfl⟩ := h; simp [PV.no, PV.noL, optS_no, noL_iff, nbeq] <;> omega)⟩⟩) lt0 ?_)
 rintro _ _ ⟨rfl, rfl⟩
 refine VO.cons rfl (V1.assign rfl rfl rfl lt0 ?_)
 refine VO.cons rfl (V1.assign rfl rfl rfl lt0 ?_)
 refine VO.nil ?_
 refine V.ret ?_
 obtain rfl := Option.some.inj hm0
 exact ⟨_, [], ⟨_, _, rfl, rfl, _, _, rfl, rfl, rfl⟩, List.nil_sublist _, rfl, rfl⟩

theorem ok_strings_Split {rn : Nat} {s sep : List UInt8} {r : List (List UInt8)} (h : M.strings_Split s sep = some r) : Does Tryd.prog 115 [.str s, .str sep] [] rn (fun x H => ∃ ob0_ : Option Nat, (ob0_ = none → r = []) ∧ x = optS 1 ob0_ (List.length r) ∧ H = optH 1 ob0_ (List.map encStr r)) := by
 unfold M.strings_Split at h
 obtain ⟨⟨h1, h2⟩, h⟩ := asrt_some h
 obtain rfl := Option.some.inj h; clear h
 refine Does.textsI (T := Go.Proofs.Tryd.lays146_ren.t 9) (n := Go.Lib.countB ⟨s.toArray⟩ ⟨sep.toArray⟩ + 1) (L := Go.Lib.splitB ⟨sep.toArray⟩ 0 (Go.Lib.countB ⟨s.toArray⟩ ⟨sep.toArray⟩) ⟨s.toArray⟩) (Go.Lib.splitB_all _ (by simpa [ByteArray.size] using h2) 0 _ _ rfl) (fun w hL => ?_)
 obtain ⟨g0, m0, g1, g2, _⟩ := hL
 have g3 : g0 = Go.Proofs.Tryd.lays146_ren.g 1 := Option.some.inj (g1.symm.trans (by kernel_rfl))
 subst g3
 exact Go.Proofs.Any.strings_Split Go.Proofs.Tryd.lays146 (by kernel_rfl) ⟨s.toArray⟩ ⟨sep.toArray⟩ m0 w (by simpa [ByteArray.size] using h1) g2 (by simpa [ByteArray.size] using h2)

theorem ok_impl_SplitString {rn : Nat} {s : List UInt8} {sep : List UInt8} {r : List (List UInt8) × Bool} (h : M.impl_SplitString s sep = some r) : Does Tryd.prog 59 [.str s, .str sep] [] rn (fun x H => ∃ (ob0_ : Option Nat), (ob0_ = none → r.1 = []) ∧ x = .tup [optS 1 ob0_ (List.length r.1), .bool r.2] ∧ H = optH 1 ob0_ (List.map encStr r.1)) := by
 have hm0 := h; clear h; unfold M.impl_SplitString at hm0
 try dsimp only at hm0
 refine Does.intro (N := 17) Tryd.func59 rfl rfl rfl rfl ?_
 intro w0 S0 L0
 refine V.seq ?_
 refine V.region ?_
 refine VO.cons rfl (V1.assign rfl rfl rfl lt0 ?_)
 refine VO.cons rfl (V1.assign rfl rfl rfl lt0 ?_)
 refine VO.nil ?_
 refine V.seq ?_
 refine V.seq ?_
 refine V.region ?_
 refine VO.cons rfl (V1.move rfl rfl rfl lt0 ?_)
 refine VO.cons rfl (V1.lenStr rfl rfl rfl rfl rfl rfl istr_9 lt0 ?_)
 refine VO.cons rfl (V1.int rfl rfl rfl rfl rfl lt0 ?_)
 refine VO.cons rfl (V1.move rfl rfl rfl lt0 ?_)
 apply VO.or (n := 3) rfl rfl rfl rfl rfl rfl lt0 (.none rfl)
 ·
  intro hg0
  refine VO.step (.some rfl rfl rfl) (V1.move rfl rfl rfl lt0 ?_)
  refine VO.step (.some rfl rfl rfl) (V1.lenStr rfl rfl rfl rfl rfl rfl istr_9 lt0 ?_)
  refine VO.step (.some rfl rfl rfl) (V1.int rfl rfl rfl rfl rfl lt0 ?_)
  exact VO.nil ⟨rfl, rfl, rfl, rfl, .inr ⟨rfl, .inr ⟨rfl, .inr ⟨rfl, .inr ⟨rfl, .inl rfl⟩⟩⟩⟩⟩
 refine VO.nil ?_
 refine V.keep 17 [0, 1, 13] [] (E0 := [(0, .str s), (1, .str sep), (13, .bool ((decide ((s.length : Int) > (4000 : Int))) || ((sep.length : Int) != (1 : Int))))]) (H0 := []) rfl (⟨_, _, rfl, rfl, _, _, rfl, rfl, _, _, rfl, rfl, rfl⟩) (rfl) rfl ?_
 refine V.cond rfl (fun hc0 => ?_) (fun hc0 => ?_)
 ·
  replace hm0 := cond_t hc0 hm0
  refine V.seq ?_
  refine V.region ?_
  refine VO.cons rfl (V1.assign rfl rfl rfl lt0 ?_)
  refine VO.cons rfl (V1.assign rfl rfl rfl lt0 ?_)
  refine VO.nil ?_
  refine V.keep 17 [4, 5] [] (E0 := [(4, .nils), (5, .bool false)]) (H0 := []) rfl (⟨_, _, rfl, rfl, _, _, rfl, rfl, rfl⟩) (rfl) rfl ?_
  refine V.ret ?_
  obtain rfl := Option.some.inj hm0
  exact ⟨_, _, ⟨_, _, rfl, rfl, _, _, rfl, rfl, rfl⟩, List.Sublist.refl _, none, (fun _ => rfl), rfl, rfl⟩
 ·
  replace hm0 := cond_f hc0 hm0
  refine V.skip ?_
  refine V.seq ?_
  replace hm0 := bindO hm0; rcases hm0 with ⟨y0, hh0, hm0⟩
  refine V.region ?_
  refine VO.cons rfl (V1.move rfl rfl rfl lt0 ?_)
  refine VO.cons rfl (V1.move rfl rfl rfl lt0 ?_)
  refine VO.cons rfl (V1.permK (V1.call rfl rfl rfl cok_115 rfl (ok_strings_Split hh0) rfl lt0 ?_))
  rintro _ _ ⟨ob0, hob0, rfl, rfl⟩
  refine ⟨_, ?_, Keeps.optBack (n := 1) (ob := ob0) (xs := List.map encStr y0) (H1 := []) (H2 := []) rfl⟩
  refine VO.cons rfl (V1.assign rfl rfl rfl lt0 ?_)
  refine VO.cons rfl (V1.assign rfl rfl rfl lt0 ?_)
  refine VO.nil ?_
  rcases ob0 with _ | ob0
  ·
   refine V.keep 17 [4, 5] [] (E0 := [(4, .nils), (5, .bool true)]) (H0 := []) rfl (⟨_, _, rfl, rfl, _, _, rfl, rfl, rfl⟩) (rfl) rfl ?_
   refine V.ret ?_
   obtain rfl := Option.some.inj hm0
   exact ⟨_, _, ⟨_, _, rfl, rfl, _, _, rfl, rfl, rfl⟩, List.Sublist.refl _, none, (fun _ => (hob0 rfl)), rfl, rfl⟩
  ·
   refine V.keep 17 [4, 5] [0] (E0 := [(4, .sref ob0 1 0 (List.length y0)), (5, .bool true)]) (H0 := [(ob0, ⟨1, List.map encStr y0⟩)]) rfl (⟨_, _, rfl, rfl, _, _, rfl, rfl, rfl⟩) (⟨_, _, rfl, rfl, rfl⟩) rfl ?_
   refine V.ret ?_
   obtain rfl := Option.some.inj hm0
   exact ⟨_, _, ⟨_, _, rfl, rfl, _, _, rfl, rfl, rfl⟩, List.Sublist.refl _, some ob0, (fun e => by cases e), rfl, rfl⟩

theorem ok_spec_l1Cur_one {ρ0 rn bp : Nat} {c : Cur} {n : Int} {r : Bool × Cur} (h : M.spec_l1Cur_one c n = some r) : Does Tryd.prog 116 [.ref bp 3 0 0, .int .i64 n] [(bp, ⟨3, [encCur ρ0 c]⟩)] rn (fun x H => x = .bool r.1 ∧ H = [(bp, ⟨3, [encCur ρ0 r.2]⟩)]) := by
 have hm0 := h; clear h; unfold M.spec_l1Cur_one at hm0
 try dsimp only at hm0
 refine Does.intro (N := 9) Tryd.func116 rfl rfl rfl rfl ?_
 intro w0 S0 L0
 refine V.seq ?_
 refine V.region ?_
 refine VO.cons rfl (V1.assign rfl rfl rfl lt0 ?_)
 refine VO.nil ?_
 refine V.seq ?_
 replace hm0 := bindO hm0; rcases hm0 with ⟨y0, hh0, hm0⟩
 refine V.region ?_
 refine VO.cons rfl (V1.move rfl rfl rfl lt0 ?_)
 refine VO.cons rfl (V1.move rfl rfl rfl lt0 ?_)
 refine VO.cons rfl (V1.callM 0 (rn + ρ0 + 1) [] [.ref bp 3 0 0, .int .i64 n] (p := (bp, ⟨3, [encCur ρ0 c]⟩)) rfl rfl rfl cok_76 rfl rfl ⟨_, _, rfl, .same _, ⟨_, _, rfl, .same _, rfl⟩⟩ bwNil (ok_spec_l1Cur_pick hh0) rfl (.inl rfl) lt0 ?_)
 rintro _ _ ⟨rfl, rfl⟩
 refine VO.cons rfl (V1.int rfl rfl rfl rfl rfl lt0 ?_)
 refine VO.cons rfl (V1.assign rfl rfl rfl lt0 ?_)
 refine VO.nil ?_
 refine V.ret ?_
 obtain rfl := Option.some.inj hm0
 exact ⟨_, _, ⟨_, _, rfl, rfl, rfl⟩, (sub1 (k := 0) rfl), rfl, rfl⟩

theorem ok_spec_DrawJoinStrings {ρ0 rn : Nat} {code : List Int} {r : List (List UInt8) × List UInt8} (h : M.spec_DrawJoinStrings code = some r) : Does Tryd.prog 60 [.vl ρ0 1 (List.map encU8 code)] [] rn (fun x H => ∃ (ob0_ : Nat), x = .tup [PV.sref ob0_ 1 0 (List.length r.1), .str r.2] ∧ H = [(ob0_, ⟨1, List.map encStr r.1⟩)]) := by
 have hm0 := h; clear h; unfold M.spec_DrawJoinStrings at hm0
 try dsimp only at hm0
 refine Does.intro (N := 38) Tryd.func60 rfl rfl rfl rfl ?_
 intro w0 S0 L0
 refine V.seq ?_
 refine V.region ?_
 refine VO.cons rfl (V1.assign rfl rfl rfl lt0 ?_)
 refine VO.cons rfl (V1.assign rfl rfl rfl lt0 ?_)
 refine VO.nil ?_
 refine V.seq ?_
 refine V.region ?_
 refine VO.cons rfl (V1.move rfl rfl rfl lt0 ?_)
 refine VO.cons rfl (V1.build rfl rfl zk_91 pl_91 rfl rfl lt0 ?_)
 refine VO.cons rfl (V1.boxN (n := 3) rfl rfl rfl rfl rfl lt0 ?_)
 intro b0
 refine VO.cons rfl (V1.assign rfl rfl rfl lt0 ?_)
 refine VO.nil ?_
 refine V.keep 38 [4] [0] (E0 := [(4, .ref b0 3 0 0)]) (H0 := [(b0, ⟨3, [.agg [.vl ρ0 1 (List.map encU8 code), .int .i64 (0 : Int), .int .u64 (0 : Int)]]⟩)]) rfl (⟨_, _, rfl, rfl, rfl⟩) (⟨_, _, rfl, rfl, rfl⟩) rfl ?_
 refine V.seq ?_
 refine V.region ?_
 refine VO.cons rfl (V1.buildSliceT (f := encStr) ([] : List (List UInt8)) rfl rfl esz_81 zk_9 rfl rfl rfl rfl rfl rfl rfl lt0 ?_)
 intro b1
 refine VO.cons rfl (V1.assign rfl rfl rfl lt0 ?_)
 refine VO.nil ?_
 refine V.seq ?_
 replace hm0 := bindO hm0; rcases hm0 with ⟨y0, hh0, hm0⟩
 refine V.region ?_
 refine VO.cons rfl (V1.move rfl rfl rfl lt0 ?_)
 refine VO.cons rfl (V1.callM 1 (rn + ρ0 + 1) [] [.ref b0 3 0 0, .int .i64 (4 : Int)] (p := (b0, ⟨3, [.agg [.vl ρ0 1 (List.map encU8 code), .int .i64 (0 : Int), .int .u64 (0 : Int)]]⟩)) rfl rfl rfl cok_76 rfl rfl ⟨_, _, rfl, .same _, ⟨_, _, rfl, .same _, rfl⟩⟩ bwNil (ok_spec_l1Cur_pick hh0) rfl (.inl rfl) lt0 ?_)
 rintro _ _ ⟨rfl, rfl⟩
 refine VO.cons rfl (V1.assign rfl rfl rfl lt0 ?_)
 refine VO.nil ?_
 refine V.seq ?_
 refine V.seq ?_
 refine V.region ?_
 refine VO.cons rfl (V1.assign rfl rfl rfl lt0 ?_)
 refine VO.nil ?_
 replace hm0 := bindO hm0; rcases hm0 with ⟨e0, he1, hm0⟩
 refine V.cutT (D := (List (List UInt8) × Cur) × (Nat)) (fun ⟨⟨l, c_⟩, b2⟩ => ⟨38, [(5, .sref b2 1 0 (List.length l)), (4, .ref b0 3 0 0)], [(b2, ⟨1, List.map encStr l⟩), (b0, ⟨3, [encCur ρ0 c_]⟩)]⟩) (fun ⟨⟨l, c_⟩, b2⟩ => ((l, c_) = e0)) ?_ ?_
 ·
  refine V.block ?_
  refine V.keep 38 [5, 7, 4, 6] [1, 0] (E0 := [(5, .sref b1 1 0 (List.length ([] : List (List UInt8)))), (7, .int .i64 (0 : Int)), (4, .ref b0 3 0 0), (6, .int .i64 y0.1)]) (H0 := [(b1, ⟨1, List.map encStr ([] : List (List UInt8))⟩), (b0, ⟨3, [encCur ρ0 y0.2]⟩)]) rfl (⟨_, _, rfl, rfl, _, _, rfl, rfl, _, _, rfl, rfl, _, _, rfl, rfl, rfl⟩) (⟨_, _, rfl, rfl, _, _, rfl, rfl, rfl⟩) rfl ?_
  refine V.loopE (D := Nat × (List (List UInt8) × Int × Cur) × (Nat)) (fun ⟨n0, ⟨l0, i, c_0⟩, b3⟩ => [(5, .sref b3 1 0 (List.length l0)), (7, .int .i64 i)]) (fun ⟨n0, ⟨l0, i, c_0⟩, b3⟩ => [(b3, ⟨1, List.map encStr l0⟩), (b0, ⟨3, [encCur ρ0 c_0]⟩)]) (fun ⟨n0, ⟨l0, i, c_0⟩, b3⟩ => loopO (M.spec_DrawJoinStrings_l0 y0) n0 (l0, i, c_0) = some e0) (fun ⟨n0, _, _⟩ => n0) (rounds, (([] : List (List UInt8)), (0 : Int), y0.2), b1) rfl he1 ?_
  rintro ⟨n0, ⟨l0, i, c_0⟩, b3⟩ hP0
  obtain ⟨m0, y1, rfl, hm1, hl1, hr1⟩ := loop_head hP0
  unfold M.spec_DrawJoinStrings_l0 at hm1; dsimp only at hm1
  show V _ _ _ ⟨38, [(5, .sref b3 1 0 (List.length l0)), (7, .int .i64 i), (4, .ref b0 3 0 0), (6, .int .i64 y0.1)], [(b3, ⟨1, List.map encStr l0⟩), (b0, ⟨3, [encCur ρ0 c_0]⟩)]⟩
  refine V.seq ?_
  refine V.seq ?_
  refine V.region ?_
  refine VO.cons rfl (V1.move rfl rfl rfl lt0 ?_)
  refine VO.cons rfl (V1.move rfl rfl rfl lt0 ?_)
  refine VO.cons rfl (V1.int rfl rfl rfl rfl rfl lt0 ?_)
  refine VO.nil ?_
  refine V.cond rfl (fun hc0 => ?_) (fun hc0 => ?_)
  ·
   replace hm1 := cond_t hc0 hm1
   refine V.skip ?_
   refine V.seq ?_
   refine V.block ?_
   replace hm1 := bindO hm1; rcases hm1 with ⟨y2, hh1, hm1⟩
   replace hm1 := asrt_some hm1; rcases hm1 with ⟨hh2, hm1⟩
   refine V.region ?_
   refine VO.cons rfl (V1.move rfl rfl rfl lt0 ?_)
   refine VO.cons rfl (V1.move rfl rfl rfl lt0 ?_)
   refine VO.cons rfl (V1.callM 1 (rn + ρ0 + 1) [] [.ref b0 3 0 0] (p := (b0, ⟨3, [encCur ρ0 c_0]⟩)) rfl rfl rfl cok_114 rfl rfl ⟨_, _, rfl, .same _, rfl⟩ bwNil (ok_spec_l1Cur_any1 hh1) rfl (.inl rfl) lt0 ?_)
   rintro _ _ ⟨rfl, rfl⟩
   refine VO.cons rfl (V1.buildSliceT (f := encStr) ([y2.1] : List (List UInt8)) rfl rfl esz_81 zk_9 rfl rfl rfl rfl rfl rfl rfl lt0 ?_)
   intro b4
   refine VO.cons rfl (V1.appendMap (k := 2) (f := encStr) (l := l0) (m := ([y2.1] : List (List UInt8))) rfl rfl rfl rfl rfl esz_81 eby_81 zk_9 rfl rfl rfl (SrcOf.srMap (k := 0) rfl isl_81) hh2 lt0 ?_)
   intro b5
   refine VO.cons rfl (V1.assign rfl rfl rfl lt0 ?_)
   refine VO.nil ?_
   refine V.keep 38 [4, 5, 6, 7] [0, 2] (E0 := [(4, .ref b0 3 0 0), (5, .sref b5 1 0 (List.length (l0 ++ ([y2.1] : List (List UInt8))))), (6, .int .i64 y0.1), (7, .int .i64 i)]) (H0 := [(b5, ⟨1, List.map encStr (l0 ++ ([y2.1] : List (List UInt8)))⟩), (b0, ⟨3, [encCur ρ0 y2.2]⟩)]) rfl (⟨_, _, rfl, rfl, _, _, rfl, rfl, _, _, rfl, rfl, _, _, rfl, rfl, rfl⟩) (⟨_, _, rfl, rfl, _, _, rfl, rfl, rfl⟩) rfl ?_
   refine V.region ?_
   refine VO.cons rfl (V1.move rfl rfl rfl lt0 ?_)
   refine VO.cons rfl (V1.int rfl rfl rfl rfl rfl lt0 ?_)
   refine VO.cons rfl (V1.assign rfl rfl rfl lt0 ?_)
   refine VO.nil ?_
   exact ⟨(m0, ((l0 ++ ([y2.1] : List (List UInt8))), (IntKind.i64.wrap (i + (1 : Int))), y2.2), b5), hl1 _ (Option.some.inj hm1).symm, Nat.lt_succ_self _, Keeps.mk (ks := [0, 1]) rfl ⟨rfl, rfl, rfl, rfl, trivial⟩ (⟨_, _, rfl, rfl, _, _, rfl, rfl, rfl⟩) rfl⟩
  ·
   replace hm1 := cond_f hc0 hm1
   refine V.exit ?_
   obtain rfl := hr1 _ (Option.some.inj hm1).symm
   exact ⟨((l0, c_0), b3), rfl, Keeps.mk (ks := [0, 1]) rfl ⟨rfl, rfl, trivial⟩ (⟨_, _, rfl, rfl, _, _, rfl, rfl, rfl⟩) rfl⟩
 ·
  rintro ⟨⟨l, c_⟩, b2⟩ rfl
  try dsimp only at hm0
  refine V.seq ?_
  replace hm0 := bindO hm0; rcases hm0 with ⟨j0, hm1, hm0⟩
  refine V.cutT (D := (List (List UInt8) × Cur) × (Nat)) (fun ⟨⟨l1, c_1⟩, b6⟩ => ⟨38, [(5, .sref b6 1 0 (List.length l1)), (4, .ref b0 3 0 0)], [(b6, ⟨1, List.map encStr l1⟩), (b0, ⟨3, [encCur ρ0 c_1]⟩)]⟩) (fun ⟨⟨l1, c_1⟩, b6⟩ => ((l1, c_1) = j0)) ?_ ?_
  ·
   refine V.seq ?_
   replace hm1 := bindO hm1; rcases hm1 with ⟨y3, hh3, hm1⟩
   refine V.region ?_
   refine VO.cons rfl (V1.move rfl rfl rfl lt0 ?_)
   refine VO.cons rfl (V1.callM 1 (rn + ρ0 + 1) [] [.ref b0 3 0 0, .int .i64 (20 : Int)] (p := (b0, ⟨3, [encCur ρ0 c_]⟩)) rfl rfl rfl cok_116 rfl rfl ⟨_, _, rfl, .same _, ⟨_, _, rfl, .same _, rfl⟩⟩ bwNil (ok_spec_l1Cur_one hh3) rfl (.inl rfl) lt0 ?_)
   rintro _ _ ⟨rfl, rfl⟩
   refine VO.nil ?_
   refine V.cond rfl (fun hc1 => ?_) (fun hc1 => ?_)
   ·
    replace hm1 := cond_t hc1 hm1
    replace hm1 := bindO hm1; rcases hm1 with ⟨y4, hh4, hm1⟩
    replace hm1 := asrt_some hm1; rcases hm1 with ⟨hh5, hm1⟩
    replace hm1 := asrt_some hm1; rcases hm1 with ⟨hh6, hm1⟩
    refine V.region ?_
    refine VO.cons rfl (V1.move rfl rfl rfl lt0 ?_)
    refine VO.cons rfl (V1.move rfl rfl rfl lt0 ?_)
    refine VO.cons rfl (V1.callM 0 (rn + ρ0 + 1) [] [.ref b0 3 0 0, .int .i64 (20 : Int)] (p := (b0, ⟨3, [encCur ρ0 y3.2]⟩)) rfl rfl rfl cok_76 rfl rfl ⟨_, _, rfl, .same _, ⟨_, _, rfl, .same _, rfl⟩⟩ bwNil (ok_spec_l1Cur_pick hh4) rfl (.inl rfl) lt0 ?_)
    rintro _ _ ⟨rfl, rfl⟩
    refine VO.cons rfl (V1.int rfl rfl rfl rfl rfl lt0 ?_)
    refine VO.cons rfl (V1.makeMap (f := encU8) (z := (0 : Int)) rfl rfl esz_22 eby_22 zk_5 rfl rfl hh5 rfl lt0 ?_)
    intro b7
    refine VO.cons rfl (V1.convStrOwn (k := 0) (l := (List.replicate (Int.toNat (IntKind.i64.wrap ((3990 : Int) + y4.1))) (0 : Int))) rfl rfl usl_22 und_5 (isStr_spec istr_9) rfl rfl lt0 ?_)
    refine VO.cons rfl (V1.buildSliceT (f := encStr) ([(toBytes (List.replicate (Int.toNat (IntKind.i64.wrap ((3990 : Int) + y4.1))) (0 : Int)))] : List (List UInt8)) rfl rfl esz_81 zk_9 rfl rfl rfl rfl rfl rfl rfl lt0 ?_)
    intro b8
    refine VO.cons rfl (V1.appendMap (k := 3) (f := encStr) (l := l) (m := ([(toBytes (List.replicate (Int.toNat (IntKind.i64.wrap ((3990 : Int) + y4.1))) (0 : Int)))] : List (List UInt8))) rfl rfl rfl rfl rfl esz_81 eby_81 zk_9 rfl rfl rfl (SrcOf.srMap (k := 0) rfl isl_81) hh6 lt0 ?_)
    intro b9
    refine VO.cons rfl (V1.assign rfl rfl rfl lt0 ?_)
    refine VO.nil ?_
    exact ⟨(((l ++ ([(toBytes (List.replicate (Int.toNat (IntKind.i64.wrap ((3990 : Int) + y4.1))) (0 : Int)))] : List (List UInt8))), y4.2), b9), Option.some.inj hm1, Keeps.mk (ks := [0, 3]) rfl ⟨rfl, rfl, trivial⟩ (⟨_, _, rfl, rfl, _, _, rfl, rfl, rfl⟩) rfl⟩
   ·
    replace hm1 := cond_f hc1 hm1
    refine V.skip ?_
    exact ⟨((l, y3.2), b2), Option.some.inj hm1, Keeps.mk (ks := [1, 0]) rfl ⟨rfl, rfl, trivial⟩ (⟨_, _, rfl, rfl, _, _, rfl, rfl, rfl⟩) rfl⟩
  ·
   rintro ⟨⟨l1, c_1⟩, b6⟩ rfl
   try dsimp only at hm0
   refine V.seq ?_
   replace hm0 := bindO hm0; rcases hm0 with ⟨y5, hh7, hm0⟩
   refine V.region ?_
   refine VO.cons rfl (V1.move rfl rfl rfl lt0 ?_)
   refine VO.cons rfl (V1.move rfl rfl rfl lt0 ?_)
   refine VO.cons rfl (V1.buildSliceT (f := encStr) ([[44], [59], [59], [], [97, 98]] : List (List UInt8)) rfl rfl esz_81 zk_9 rfl rfl rfl rfl rfl rfl rfl lt0 ?_)
   intro b10
   refine VO.cons rfl (V1.callM 2 (rn + ρ0 + 1) [b10] [.ref b0 3 0 0, .vl (rn + ρ0 + 1) 1 (List.map encStr ([[44], [59], [59], [], [97, 98]] : List (List UInt8)))] (p := (b0, ⟨3, [encCur ρ0 c_1]⟩)) rfl rfl rfl cok_96 rfl rfl ⟨_, _, rfl, .same _, ⟨_, _, rfl, Lend.srMap 0 rfl (fun _ => rfl) (.head _), rfl⟩⟩ (bwCons (k := 0) rfl bwNil) (ok_spec_l1Cur_of hh7) rfl (.inr ⟨(by first | omega | (dsimp only; omega)), by rintro _ _ ⟨rfl, rfl⟩; exact ⟨by simp [PV.no, PV.noL, optS_no, noL_iff, nbeq] <;> omega, by intro b ob h; first | exact optH_no (noL_map (fun _ => by simp [PV.no, PV.noL, noL_iff, nbeq]) _) b ob h | (simp only [List.append_assoc, List.mem_append, List.mem_cons, List.mem_singleton, List.not_mem_nil, or_false, Prod.mk.injEq] at h; rcases h with ⟨rfl, rfl⟩ | ⟨rfl, rfl⟩ <;> first | exact noL_map (fun _ => by simp [PV.no, PV.noL, noL_iff, nbeq]) _ | (simp [PV.no, PV.noL, optS_no, noL_iff, nbeq] <;> omega)) | (simp at h; obtain ⟨rfl, rfl⟩ := h; exact noL_map (fun _ => by simp [PV.no, PV.noL, noL_iff, nbeq]) _) | (simp at h; obtain ⟨rfl, rfl⟩ := h; simp [PV.no, PV.noL, optS_no, noL_iff, nbeq] <;> omega)⟩⟩) lt0 ?_)
   rintro _ _ ⟨rfl, rfl⟩
   refine VO.cons rfl (V1.assign rfl rfl rfl lt0 ?_)
   refine VO.cons rfl (V1.assign rfl rfl rfl lt0 ?_)
   refine VO.nil ?_
   refine V.keep 38 [2, 3] [2] (E0 := [(2, .sref b6 1 0 (List.length l1)), (3, .str y5.1)]) (H0 := [(b6, ⟨1, List.map encStr l1⟩)]) rfl (⟨_, _, rfl, rfl, _, _, rfl, rfl, rfl⟩) (⟨_, _, rfl, rfl, rfl⟩) rfl ?_
   refine V.ret ?_
   obtain rfl := Option.some.inj hm0
   exact ⟨_, _, ⟨_, _, rfl, rfl, _, _, rfl, rfl, rfl⟩, List.Sublist.refl _, b6, rfl, rfl⟩

theorem ok_strings_Contains {rn : Nat} {s sub : List UInt8} {r : Bool} (h : M.strings_Contains s sub = some r) : Does Tryd.prog 117 [.str s, .str sub] [] rn (fun x H => x = .bool r ∧ H = []) := by
 unfold M.strings_Contains at h
 obtain ⟨h1, h⟩ := asrt_some h
 obtain rfl := Option.some.inj h; clear h
 obtain ⟨b, rfl⟩ := List.length_eq_one_iff.1 h1
 refine Does.ofBelow (vs := [.string ⟨s.toArray⟩, .string ⟨[b].toArray⟩]) (v := .bool (decide (0 ≤ Go.Lib.indexByte s b))) (fun w S us hr => ?_) (fun w S => rep_bool) (fun w => ?_)
 · obtain ⟨us1, rfl, hr1⟩ := reps_str hr
   obtain ⟨us2, rfl, hr2⟩ := reps_str hr1
   rw [Reps.nil_iff.1 hr2]
 · refine (Go.Proofs.Any.strings_Contains_one Go.Proofs.Tryd.lays144 ⟨s.toArray⟩ b w).mono ?_
   rintro e w' ⟨rfl, rfl⟩
   exact ⟨rfl, Go.RowKit.Below.refl _ _⟩

theorem Try_extra : Go.Proofs.Builder.Extra Tryd.prog Go.Proofs.Tryd.lays156_ren where
 sizeBuilder := by kernel_rfl
 liesBuilder := by kernel_rfl
 t5 := Tryd.underlying5
 a5 := Tryd.isAgg5
 z5 := Tryd.sizeOf5
 v5 := Tryd.zeroValue5
 infoByte := by kernel_rfl
 cellsByte := by kernel_rfl
 sizeByte := by kernel_rfl
 neB5 := by decide

theorem ok_strings_Join {rn ρ0 : Nat} {elems : List (List UInt8)} {sep r : List UInt8} (h : M.strings_Join elems sep = some r) : Does Tryd.prog 118 [.vl ρ0 1 (List.map encStr elems), .str sep] [] rn (fun x H => x = .str r ∧ H = []) := by
 unfold M.strings_Join at h
 obtain ⟨⟨h1, h2⟩, h⟩ := asrt_some h
 obtain rfl := Option.some.inj h; clear h
 exact Does.joinI (fun a c sep w => Go.Proofs.Any.strings_Join_none Go.Proofs.Tryd.lays156 Try_extra a c sep w) (fun bk o c ys sep w q1 q2 q3 q4 q5 => Go.Proofs.Any.strings_Join Go.Proofs.Tryd.lays156 Try_extra bk o c ys sep w q1 q2 q3 q4 q5) h1 h2

theorem ok_impl_JoinStrings {ρ0 rn : Nat} {parts : List (List UInt8)} {sep : List UInt8} {r : List UInt8 × Bool} (h : M.impl_JoinStrings parts sep = some r) : Does Tryd.prog 61 [.vl ρ0 1 (List.map encStr parts), .str sep] [] rn (fun x H => x = .tup [.str r.1, .bool r.2] ∧ H = []) := by
 have hm0 := h; clear h; unfold M.impl_JoinStrings at hm0
 try dsimp only at hm0
 refine Does.intro (N := 41) Tryd.func61 rfl rfl rfl rfl ?_
 intro w0 S0 L0
 refine V.seq ?_
 refine V.region ?_
 refine VO.cons rfl (V1.assign rfl rfl rfl lt0 ?_)
 refine VO.cons rfl (V1.assign rfl rfl rfl lt0 ?_)
 refine VO.nil ?_
 refine V.seq ?_
 refine V.seq ?_
 refine V.region ?_
 refine VO.cons rfl (V1.move rfl rfl rfl lt0 ?_)
 refine VO.cons rfl (V1.lenMap rfl rfl rfl rfl rfl rfl isl_81 lt0 ?_)
 refine VO.cons rfl (V1.int rfl rfl rfl rfl rfl lt0 ?_)
 refine VO.cons rfl (V1.move rfl rfl rfl lt0 ?_)
 apply VO.or (n := 3) rfl rfl rfl rfl rfl rfl lt0 (.none rfl)
 ·
  intro hg0
  refine VO.step (.some rfl rfl rfl) (V1.move rfl rfl rfl lt0 ?_)
  refine VO.step (.some rfl rfl rfl) (V1.lenStr rfl rfl rfl rfl rfl rfl istr_9 lt0 ?_)
  refine VO.step (.some rfl rfl rfl) (V1.int rfl rfl rfl rfl rfl lt0 ?_)
  exact VO.nil ⟨rfl, rfl, rfl, rfl, .inr ⟨rfl, .inr ⟨rfl, .inr ⟨rfl, .inr ⟨rfl, .inl rfl⟩⟩⟩⟩⟩
 refine VO.nil ?_
 refine V.keep 41 [0, 1, 16] [] (E0 := [(0, .vl ρ0 1 (List.map encStr parts)), (1, .str sep), (16, .bool (((parts.length : Int) == (0 : Int)) || ((sep.length : Int) != (1 : Int))))]) (H0 := []) rfl (⟨_, _, rfl, rfl, _, _, rfl, rfl, _, _, rfl, rfl, rfl⟩) (rfl) rfl ?_
 refine V.cond rfl (fun hc0 => ?_) (fun hc0 => ?_)
 ·
  replace hm0 := cond_t hc0 hm0
  refine V.seq ?_
  refine V.region ?_
  refine VO.cons rfl (V1.assign rfl rfl rfl lt0 ?_)
  refine VO.cons rfl (V1.assign rfl rfl rfl lt0 ?_)
  refine VO.nil ?_
  refine V.ret ?_
  obtain rfl := Option.some.inj hm0
  exact ⟨_, [], ⟨_, _, rfl, rfl, _, _, rfl, rfl, rfl⟩, List.nil_sublist _, rfl, rfl⟩
 ·
  replace hm0 := cond_f hc0 hm0
  refine V.skip ?_
  refine V.seq ?_
  refine V.region ?_
  refine VO.cons rfl (V1.move rfl rfl rfl lt0 ?_)
  refine VO.cons rfl (V1.lenMap rfl rfl rfl rfl rfl rfl isl_81 lt0 ?_)
  refine VO.cons rfl (V1.int rfl rfl rfl rfl rfl lt0 ?_)
  refine VO.cons rfl (V1.assign rfl rfl rfl lt0 ?_)
  refine VO.nil ?_
  refine V.keep 41 [0, 1, 6] [] (E0 := [(0, .vl ρ0 1 (List.map encStr parts)), (1, .str sep), (6, .int .i64 (IntKind.i64.wrap ((parts.length : Int) - (1 : Int))))]) (H0 := []) rfl (⟨_, _, rfl, rfl, _, _, rfl, rfl, _, _, rfl, rfl, rfl⟩) (rfl) rfl ?_
  refine V.seq ?_
  refine V.seq ?_
  refine V.region ?_
  refine VO.cons rfl (V1.move rfl rfl rfl lt0 ?_)
  refine VO.cons rfl (V1.lenMap rfl rfl rfl rfl rfl rfl isl_81 lt0 ?_)
  refine VO.cons rfl (V1.move rfl rfl rfl lt0 ?_)
  refine VO.nil ?_
  replace hm0 := bindO hm0; rcases hm0 with ⟨e0, he1, hm0⟩
  refine V.cutT (D := (Unit) × (Unit)) (fun ⟨_, _⟩ => ⟨41, [(0, .vl ρ0 1 (List.map encStr parts)), (1, .str sep)], []⟩) (fun ⟨_, _⟩ => (.inl () = e0)) ?_ ?_
  ·
   refine V.block ?_
   refine V.keep 41 [6, 22, 0, 1, 20, 21] [] (E0 := [(6, .int .i64 (IntKind.i64.wrap ((parts.length : Int) - (1 : Int)))), (22, .int .i64 (0 : Int)), (0, .vl ρ0 1 (List.map encStr parts)), (1, .str sep), (20, .vl ρ0 1 (List.map encStr parts)), (21, .int .i64 (parts.length : Int))]) (H0 := []) rfl (⟨_, _, rfl, rfl, _, _, rfl, rfl, _, _, rfl, rfl, _, _, rfl, rfl, _, _, rfl, rfl, _, _, rfl, rfl, rfl⟩) (rfl) rfl ?_
   refine V.loopE (D := Nat × (Int × Int) × (Unit)) (fun ⟨n0, ⟨total, v⟩, _⟩ => [(6, .int .i64 total), (22, .int .i64 v)]) (fun ⟨n0, ⟨total, v⟩, _⟩ => []) (fun ⟨n0, ⟨total, v⟩, _⟩ => loopO (M.impl_JoinStrings_l0 parts sep) n0 (total, v) = some e0) (fun ⟨n0, _, _⟩ => n0) (rounds, ((IntKind.i64.wrap ((parts.length : Int) - (1 : Int))), (0 : Int)), ()) rfl he1 ?_
   rintro ⟨n0, ⟨total, v⟩, _⟩ hP0
   obtain ⟨m0, y0, rfl, hm1, hl1, hr1⟩ := loop_head hP0
   unfold M.impl_JoinStrings_l0 at hm1; dsimp only at hm1
   show V _ _ _ ⟨41, [(6, .int .i64 total), (22, .int .i64 v), (0, .vl ρ0 1 (List.map encStr parts)), (1, .str sep), (20, .vl ρ0 1 (List.map encStr parts)), (21, .int .i64 (parts.length : Int))], []⟩
   refine V.seq ?_
   refine V.region ?_
   refine VO.cons rfl (V1.int rfl rfl rfl rfl rfl lt0 ?_)
   refine VO.nil ?_
   refine V.seq ?_
   refine V.cond rfl (fun hc1 => ?_) (fun hc1 => ?_)
   ·
    replace hm1 := cond_t hc1 hm1
    refine V.skip ?_
    refine V.seq ?_
    refine V.block ?_
    refine V.seq ?_
    replace hm1 := asrt_some hm1; rcases hm1 with ⟨hh0, hm1⟩
    refine V.region ?_
    refine VO.cons rfl (V1.indexI rfl rfl esz_81 rfl rfl hh0 lt0 ?_)
    refine VO.cons rfl (V1.loadPin rfl rfl tyk_9 rfl rfl lt0 ?_)
    refine VO.cons rfl (V1.assign rfl rfl rfl lt0 ?_)
    refine VO.nil ?_
    refine V.seq ?_
    refine V.region ?_
    refine VO.cons rfl (V1.move rfl rfl rfl lt0 ?_)
    refine VO.cons rfl (V1.move rfl rfl rfl lt0 ?_)
    refine VO.cons rfl (V1.lenStr rfl rfl rfl rfl rfl rfl istr_9 lt0 ?_)
    refine VO.cons rfl (V1.int rfl rfl rfl rfl rfl lt0 ?_)
    refine VO.cons rfl (V1.assign rfl rfl rfl lt0 ?_)
    refine VO.nil ?_
    refine V.keep 41 [0, 1, 6, 8, 20, 21, 22] [] (E0 := [(0, .vl ρ0 1 (List.map encStr parts)), (1, .str sep), (6, .int .i64 (IntKind.i64.wrap (total + ((parts.getD (Int.toNat v) default).length : Int)))), (8, .str (parts.getD (Int.toNat v) default)), (20, .vl ρ0 1 (List.map encStr parts)), (21, .int .i64 (parts.length : Int)), (22, .int .i64 v)]) (H0 := []) rfl (⟨_, _, rfl, rfl, _, _, rfl, rfl, _, _, rfl, rfl, _, _, rfl, rfl, _, _, rfl, rfl, _, _, rfl, rfl, _, _, rfl, rfl, rfl⟩) (rfl) rfl ?_
    refine V.seq ?_
    replace hm1 := bindO hm1; rcases hm1 with ⟨y1, hh1, hm1⟩
    refine V.region ?_
    refine VO.cons rfl (V1.move rfl rfl rfl lt0 ?_)
    refine VO.cons rfl (V1.move rfl rfl rfl lt0 ?_)
    refine VO.cons rfl (V1.call rfl rfl rfl cok_117 rfl (ok_strings_Contains hh1) rfl lt0 ?_)
    rintro _ _ ⟨rfl, rfl⟩
    refine VO.cons rfl (V1.move rfl rfl rfl lt0 ?_)
    apply VO.or (n := 2) rfl rfl rfl rfl rfl rfl lt0 (.none rfl)
    ·
     intro hg1
     refine VO.step (.some rfl rfl rfl) (V1.move rfl rfl rfl lt0 ?_)
     refine VO.step (.some rfl rfl rfl) (V1.int rfl rfl rfl rfl rfl lt0 ?_)
     exact VO.nil ⟨rfl, rfl, rfl, rfl, .inr ⟨rfl, .inr ⟨rfl, .inr ⟨rfl, .inl rfl⟩⟩⟩⟩
    refine VO.nil ?_
    refine V.keep 41 [0, 1, 6, 20, 21, 22, 36] [] (E0 := [(0, .vl ρ0 1 (List.map encStr parts)), (1, .str sep), (6, .int .i64 (IntKind.i64.wrap (total + ((parts.getD (Int.toNat v) default).length : Int)))), (20, .vl ρ0 1 (List.map encStr parts)), (21, .int .i64 (parts.length : Int)), (22, .int .i64 v), (36, .bool (y1 || (decide ((IntKind.i64.wrap (total + ((parts.getD (Int.toNat v) default).length : Int))) > (4000 : Int)))))]) (H0 := []) rfl (⟨_, _, rfl, rfl, _, _, rfl, rfl, _, _, rfl, rfl, _, _, rfl, rfl, _, _, rfl, rfl, _, _, rfl, rfl, _, _, rfl, rfl, rfl⟩) (rfl) rfl ?_
    refine V.cond rfl (fun hc2 => ?_) (fun hc2 => ?_)
    ·
     replace hm1 := cond_t hc2 hm1
     refine V.seq ?_
     refine V.region ?_
     refine VO.cons rfl (V1.assign rfl rfl rfl lt0 ?_)
     refine VO.cons rfl (V1.assign rfl rfl rfl lt0 ?_)
     refine VO.nil ?_
     refine V.ret ?_
     obtain rfl := hr1 _ (Option.some.inj hm1).symm
     change some _ = some _ at hm0
     obtain rfl := Option.some.inj hm0
     exact ⟨_, [], ⟨_, _, rfl, rfl, _, _, rfl, rfl, rfl⟩, List.nil_sublist _, rfl, rfl⟩
    ·
     replace hm1 := cond_f hc2 hm1
     refine V.skip ?_
     refine V.region ?_
     refine VO.cons rfl (V1.int rfl rfl rfl rfl rfl lt0 ?_)
     refine VO.cons rfl (V1.move rfl rfl rfl lt0 ?_)
     refine VO.nil ?_
     exact ⟨(m0, ((IntKind.i64.wrap (total + ((parts.getD (Int.toNat v) default).length : Int))), (IntKind.i64.wrap (v + (1 : Int)))), ()), hl1 _ (Option.some.inj hm1).symm, Nat.lt_succ_self _, Keeps.mk (ks := []) rfl ⟨rfl, rfl, rfl, rfl, rfl, rfl, trivial⟩ (rfl) rfl⟩
   ·
    replace hm1 := cond_f hc1 hm1
    refine V.exit ?_
    obtain rfl := hr1 _ (Option.some.inj hm1).symm
    exact ⟨((), ()), rfl, Keeps.mk (ks := []) rfl ⟨rfl, rfl, trivial⟩ (rfl) rfl⟩
  ·
   rintro ⟨_, _⟩ rfl
   try dsimp only at hm0
   refine V.seq ?_
   replace hm0 := bindO hm0; rcases hm0 with ⟨y2, hh2, hm0⟩
   refine V.region ?_
   refine VO.cons rfl (V1.move rfl rfl rfl lt0 ?_)
   refine VO.cons rfl (V1.move rfl rfl rfl lt0 ?_)
   refine VO.cons rfl (V1.call rfl rfl rfl cok_118 rfl (ok_strings_Join hh2) rfl lt0 ?_)
   rintro _ _ ⟨rfl, rfl⟩
   refine VO.cons rfl (V1.assign rfl rfl rfl lt0 ?_)
   refine VO.cons rfl (V1.assign rfl rfl rfl lt0 ?_)
   refine VO.nil ?_
   refine V.ret ?_
   obtain rfl := Option.some.inj hm0
   exact ⟨_, [], ⟨_, _, rfl, rfl, _, _, rfl, rfl, rfl⟩, List.nil_sublist _, rfl, rfl⟩

theorem ok_spec_l1Stands {rn : Nat} {s : List UInt8} {b_ : Int} {r : Bool} (h : M.spec_l1Stands s b_ = some r) : Does Tryd.prog 119 [.str s, .int .u8 b_] [] rn (fun x H => x = .bool r ∧ H = []) := by
 have hm0 := h; clear h; unfold M.spec_l1Stands at hm0
 try dsimp only at hm0
 refine Does.intro (N := 17) Tryd.func119 rfl rfl rfl rfl ?_
 intro w0 S0 L0
 refine V.seq ?_
 refine V.region ?_
 refine VO.cons rfl (V1.assign rfl rfl rfl lt0 ?_)
 refine VO.nil ?_
 refine V.seq ?_
 refine V.seq ?_
 refine V.region ?_
 refine VO.cons rfl (V1.assign rfl rfl rfl lt0 ?_)
 refine VO.nil ?_
 replace hm0 := bindO hm0; rcases hm0 with ⟨e0, he1, hm0⟩
 refine V.cutT (D := (Unit) × (Unit)) (fun ⟨_, _⟩ => ⟨17, [], []⟩) (fun ⟨_, _⟩ => (.inl () = e0)) ?_ ?_
 ·
  refine V.block ?_
  refine V.keep 17 [5, 0, 1] [] (E0 := [(5, .int .i64 (0 : Int)), (0, .str s), (1, .int .u8 b_)]) (H0 := []) rfl (⟨_, _, rfl, rfl, _, _, rfl, rfl, _, _, rfl, rfl, rfl⟩) (rfl) rfl ?_
  refine V.loopE (D := Nat × (Int) × (Unit)) (fun ⟨n0, i, _⟩ => [(5, .int .i64 i)]) (fun ⟨n0, i, _⟩ => []) (fun ⟨n0, i, _⟩ => loopO (M.spec_l1Stands_l0 s b_) n0 i = some e0) (fun ⟨n0, _, _⟩ => n0) (rounds, (0 : Int), ()) rfl he1 ?_
  rintro ⟨n0, i, _⟩ hP0
  obtain ⟨m0, y0, rfl, hm1, hl1, hr1⟩ := loop_head hP0
  unfold M.spec_l1Stands_l0 at hm1; dsimp only at hm1
  show V _ _ _ ⟨17, [(5, .int .i64 i), (0, .str s), (1, .int .u8 b_)], []⟩
  refine V.seq ?_
  refine V.seq ?_
  refine V.region ?_
  refine VO.cons rfl (V1.move rfl rfl rfl lt0 ?_)
  refine VO.cons rfl (V1.move rfl rfl rfl lt0 ?_)
  refine VO.cons rfl (V1.lenStr rfl rfl rfl rfl rfl rfl istr_9 lt0 ?_)
  refine VO.cons rfl (V1.int rfl rfl rfl rfl rfl lt0 ?_)
  refine VO.nil ?_
  refine V.cond rfl (fun hc0 => ?_) (fun hc0 => ?_)
  ·
   replace hm1 := cond_t hc0 hm1
   refine V.skip ?_
   refine V.keep 17 [0, 1, 5] [] (E0 := [(0, .str s), (1, .int .u8 b_), (5, .int .i64 i)]) (H0 := []) rfl (⟨_, _, rfl, rfl, _, _, rfl, rfl, _, _, rfl, rfl, rfl⟩) (rfl) rfl ?_
   refine V.seq ?_
   refine V.block ?_
   refine V.seq ?_
   replace hm1 := asrt_some hm1; rcases hm1 with ⟨hh0, hm1⟩
   refine V.region ?_
   refine VO.cons rfl (V1.move rfl rfl rfl lt0 ?_)
   refine VO.cons rfl (V1.move rfl rfl rfl lt0 ?_)
   refine VO.cons rfl (V1.indexStrI rfl rfl istr_9 rfl rfl hh0 lt0 ?_)
   refine VO.cons rfl (V1.move rfl rfl rfl lt0 ?_)
   refine VO.cons rfl (V1.int rfl rfl rfl rfl rfl lt0 ?_)
   refine VO.nil ?_
   refine V.keep 17 [0, 1, 5, 16] [] (E0 := [(0, .str s), (1, .int .u8 b_), (5, .int .i64 i), (16, .bool (((s.getD (Int.toNat i) 0).toNat : Int) == b_))]) (H0 := []) rfl (⟨_, _, rfl, rfl, _, _, rfl, rfl, _, _, rfl, rfl, _, _, rfl, rfl, rfl⟩) (rfl) rfl ?_
   refine V.cond rfl (fun hc1 => ?_) (fun hc1 => ?_)
   ·
    replace hm1 := cond_t hc1 hm1
    refine V.seq ?_
    refine V.region ?_
    refine VO.cons rfl (V1.assign rfl rfl rfl lt0 ?_)
    refine VO.nil ?_
    refine V.ret ?_
    obtain rfl := hr1 _ (Option.some.inj hm1).symm
    change some _ = some _ at hm0
    obtain rfl := Option.some.inj hm0
    exact ⟨_, [], ⟨_, _, rfl, rfl, rfl⟩, List.nil_sublist _, rfl, rfl⟩
   ·
    replace hm1 := cond_f hc1 hm1
    refine V.skip ?_
    refine V.region ?_
    refine VO.cons rfl (V1.move rfl rfl rfl lt0 ?_)
    refine VO.cons rfl (V1.int rfl rfl rfl rfl rfl lt0 ?_)
    refine VO.cons rfl (V1.assign rfl rfl rfl lt0 ?_)
    refine VO.nil ?_
    exact ⟨(m0, (IntKind.i64.wrap (i + (1 : Int))), ()), hl1 _ (Option.some.inj hm1).symm, Nat.lt_succ_self _, Keeps.mk (ks := []) rfl ⟨rfl, rfl, rfl, trivial⟩ (rfl) rfl⟩
  ·
   replace hm1 := cond_f hc0 hm1
   refine V.exit ?_
   obtain rfl := hr1 _ (Option.some.inj hm1).symm
   exact ⟨((), ()), rfl, Keeps.mk (ks := []) rfl trivial (rfl) rfl⟩
 ·
  rintro ⟨_, _⟩ rfl
  try dsimp only at hm0
  refine V.seq ?_
  refine V.region ?_
  refine VO.cons rfl (V1.assign rfl rfl rfl lt0 ?_)
  refine VO.nil ?_
  refine V.ret ?_
  obtain rfl := Option.some.inj hm0
  exact ⟨_, [], ⟨_, _, rfl, rfl, rfl⟩, List.nil_sublist _, rfl, rfl⟩

theorem ok_spec_JoinStrings {ρ0 rn : Nat} {l : List (List UInt8)} {sign : List UInt8} {r : List UInt8 × Bool} (h : M.spec_JoinStrings l sign = some r) : Does Tryd.prog 62 [.vl ρ0 1 (List.map encStr l), .str sign] [] rn (fun x H => x = .tup [.str r.1, .bool r.2] ∧ H = []) := by
 have hm0 := h; clear h; unfold M.spec_JoinStrings at hm0
 try dsimp only at hm0
 refine Does.intro (N := 44) Tryd.func62 rfl rfl rfl rfl ?_
 intro w0 S0 L0
 refine V.seq ?_
 refine V.region ?_
 refine VO.cons rfl (V1.assign rfl rfl rfl lt0 ?_)
 refine VO.cons rfl (V1.assign rfl rfl rfl lt0 ?_)
 refine VO.nil ?_
 refine V.seq ?_
 refine V.seq ?_
 refine V.region ?_
 refine VO.cons rfl (V1.move rfl rfl rfl lt0 ?_)
 refine VO.cons rfl (V1.lenStr rfl rfl rfl rfl rfl rfl istr_9 lt0 ?_)
 refine VO.cons rfl (V1.int rfl rfl rfl rfl rfl lt0 ?_)
 refine VO.cons rfl (V1.move rfl rfl rfl lt0 ?_)
 apply VO.or (n := 3) rfl rfl rfl rfl rfl rfl lt0 (.none rfl)
 ·
  intro hg0
  refine VO.step (.some rfl rfl rfl) (V1.move rfl rfl rfl lt0 ?_)
  refine VO.step (.some rfl rfl rfl) (V1.lenMap rfl rfl rfl rfl rfl rfl isl_81 lt0 ?_)
  refine VO.step (.some rfl rfl rfl) (V1.int rfl rfl rfl rfl rfl lt0 ?_)
  exact VO.nil ⟨rfl, rfl, rfl, rfl, .inr ⟨rfl, .inr ⟨rfl, .inr ⟨rfl, .inr ⟨rfl, .inl rfl⟩⟩⟩⟩⟩
 refine VO.nil ?_
 refine V.keep 44 [0, 1, 15] [] (E0 := [(0, .vl ρ0 1 (List.map encStr l)), (1, .str sign), (15, .bool (((sign.length : Int) != (1 : Int)) || ((l.length : Int) == (0 : Int))))]) (H0 := []) rfl (⟨_, _, rfl, rfl, _, _, rfl, rfl, _, _, rfl, rfl, rfl⟩) (rfl) rfl ?_
 refine V.cond rfl (fun hc0 => ?_) (fun hc0 => ?_)
 ·
  replace hm0 := cond_t hc0 hm0
  refine V.seq ?_
  refine V.region ?_
  refine VO.cons rfl (V1.assign rfl rfl rfl lt0 ?_)
  refine VO.cons rfl (V1.assign rfl rfl rfl lt0 ?_)
  refine VO.nil ?_
  refine V.ret ?_
  obtain rfl := Option.some.inj hm0
  exact ⟨_, [], ⟨_, _, rfl, rfl, _, _, rfl, rfl, rfl⟩, List.nil_sublist _, rfl, rfl⟩
 ·
  replace hm0 := cond_f hc0 hm0
  refine V.skip ?_
  refine V.seq ?_
  refine V.region ?_
  refine VO.cons rfl (V1.assign rfl rfl rfl lt0 ?_)
  refine VO.nil ?_
  refine V.seq ?_
  refine V.seq ?_
  refine V.region ?_
  refine VO.cons rfl (V1.assign rfl rfl rfl lt0 ?_)
  refine VO.nil ?_
  replace hm0 := bindO hm0; rcases hm0 with ⟨e0, he1, hm0⟩
  refine V.cutT (D := (List UInt8) × (Unit)) (fun ⟨out_, _⟩ => ⟨44, [(6, .str out_)], []⟩) (fun ⟨out_, _⟩ => (.inl out_ = e0)) ?_ ?_
  ·
   refine V.block ?_
   refine V.keep 44 [6, 7, 0, 1] [] (E0 := [(6, .str ([])), (7, .int .i64 (0 : Int)), (0, .vl ρ0 1 (List.map encStr l)), (1, .str sign)]) (H0 := []) rfl (⟨_, _, rfl, rfl, _, _, rfl, rfl, _, _, rfl, rfl, _, _, rfl, rfl, rfl⟩) (rfl) rfl ?_
   refine V.loopE (D := Nat × (List UInt8 × Int) × (Unit)) (fun ⟨n0, ⟨out_0, i⟩, _⟩ => [(6, .str out_0), (7, .int .i64 i)]) (fun ⟨n0, ⟨out_0, i⟩, _⟩ => []) (fun ⟨n0, ⟨out_0, i⟩, _⟩ => loopO (M.spec_JoinStrings_l0 l sign) n0 (out_0, i) = some e0) (fun ⟨n0, _, _⟩ => n0) (rounds, ([], (0 : Int)), ()) rfl he1 ?_
   rintro ⟨n0, ⟨out_0, i⟩, _⟩ hP0
   obtain ⟨m0, y0, rfl, hm1, hl1, hr1⟩ := loop_head hP0
   unfold M.spec_JoinStrings_l0 at hm1; dsimp only at hm1
   show V _ _ _ ⟨44, [(6, .str out_0), (7, .int .i64 i), (0, .vl ρ0 1 (List.map encStr l)), (1, .str sign)], []⟩
   refine V.seq ?_
   refine V.seq ?_
   refine V.region ?_
   refine VO.cons rfl (V1.move rfl rfl rfl lt0 ?_)
   refine VO.cons rfl (V1.move rfl rfl rfl lt0 ?_)
   refine VO.cons rfl (V1.lenMap rfl rfl rfl rfl rfl rfl isl_81 lt0 ?_)
   refine VO.cons rfl (V1.int rfl rfl rfl rfl rfl lt0 ?_)
   refine VO.nil ?_
   refine V.cond rfl (fun hc1 => ?_) (fun hc1 => ?_)
   ·
    replace hm1 := cond_t hc1 hm1
    refine V.skip ?_
    refine V.keep 44 [0, 1, 6, 7] [] (E0 := [(0, .vl ρ0 1 (List.map encStr l)), (1, .str sign), (6, .str out_0), (7, .int .i64 i)]) (H0 := []) rfl (⟨_, _, rfl, rfl, _, _, rfl, rfl, _, _, rfl, rfl, _, _, rfl, rfl, rfl⟩) (rfl) rfl ?_
    refine V.seq ?_
    replace hm1 := bindO hm1; rcases hm1 with ⟨j0, hm2, hm1⟩
    refine V.cutT (D := (List UInt8) × (Unit)) (fun ⟨out_1, _⟩ => ⟨44, [(6, .str out_1), (0, .vl ρ0 1 (List.map encStr l)), (1, .str sign), (7, .int .i64 i)], []⟩) (fun ⟨out_1, _⟩ => (.inl out_1 = j0)) ?_ ?_
    ·
     refine V.block ?_
     refine V.seq ?_
     refine V.seq ?_
     replace hm2 := asrt_some hm2; rcases hm2 with ⟨hh0, hm2⟩
     replace hm2 := asrt_some hm2; rcases hm2 with ⟨hh1, hm2⟩
     replace hm2 := bindO hm2; rcases hm2 with ⟨y1, hh2, hm2⟩
     refine V.regionM 44 6 [⟨[(0, none)], [], none⟩, ⟨[(7, none)], [], none⟩, ⟨[(22, some 1), (23, some 0)], [], none⟩, ⟨[(24, some 0)], [], none⟩, ⟨[(1, none)], [], none⟩, ⟨[(26, some 0)], [], none⟩] [(0, none), (1, none), (6, none), (7, none), (25, some 2), (27, some 0)] (⟨_, rfl, ⟨_, rfl, ⟨_, rfl, ⟨_, rfl, ⟨_, rfl, ⟨_, rfl, ⟨rfl, rfl⟩⟩⟩⟩⟩⟩⟩) mixed_orders rfl (by decide +kernel) (fun hck7 => ?_)
     refine VP.step (p := ?pv138) rfl rfl rfl (⟨_, _, rfl, rfl, rfl⟩) ?hv138 ?rest138 hck7
     case hv138 =>
      intro E1
      refine (V1.move rfl rfl rfl lt0 ?_)
      exact rfl
     refine VP.step (p := ?pv139) rfl rfl rfl (⟨_, _, rfl, rfl, rfl⟩) ?hv139 ?rest139 hck7
     case hv139 =>
      intro E1
      refine (V1.move rfl rfl rfl lt0 ?_)
      exact rfl
     refine VP.step (p := ?pv140) rfl rfl rfl (⟨_, _, rfl, rfl, _, _, rfl, rfl, rfl⟩) ?hv140 ?rest140 hck7
     case hv140 =>
      intro E1
      refine (V1.indexI rfl rfl esz_81 rfl rfl hh0 lt0 ?_)
      exact rfl
     refine VP.step (p := ?pv141) rfl rfl rfl (⟨_, _, rfl, rfl, rfl⟩) ?hv141 ?rest141 hck7
     case hv141 =>
      intro E1
      refine (V1.loadPin rfl rfl tyk_9 rfl rfl lt0 ?_)
      exact rfl
     refine VP.step (p := ?pv142) rfl rfl rfl (⟨_, _, rfl, rfl, rfl⟩) ?hv142 ?rest142 hck7
     case hv142 =>
      intro E1
      refine (V1.move rfl rfl rfl lt0 ?_)
      exact rfl
     refine VP.step (p := ?pv143) rfl rfl rfl (⟨_, _, rfl, rfl, rfl⟩) ?hv143 ?rest143 hck7
     case hv143 =>
      intro E1
      refine (V1.indexStrI rfl rfl istr_9 rfl rfl hh1 lt0 ?_)
      exact rfl
     refine VP.fin rfl (⟨_, _, rfl, rfl, _, _, rfl, rfl, _, _, rfl, rfl, _, _, rfl, rfl, _, _, rfl, rfl, _, _, rfl, rfl, rfl⟩) ?_
     refine VO.cons rfl (V1.call rfl rfl rfl cok_119 rfl (ok_spec_l1Stands hh2) rfl lt0 ?_)
     rintro _ _ ⟨rfl, rfl⟩
     refine VO.nil ?_
     refine V.cond rfl (fun hc2 => ?_) (fun hc2 => ?_)
     ·
      replace hm2 := cond_t hc2 hm2
      refine V.seq ?_
      refine V.region ?_
      refine VO.cons rfl (V1.assign rfl rfl rfl lt0 ?_)
      refine VO.cons rfl (V1.assign rfl rfl rfl lt0 ?_)
      refine VO.nil ?_
      refine V.ret ?_
      obtain rfl := Option.some.inj hm2
      change some _ = some _ at hm1
      obtain rfl := hr1 _ (Option.some.inj hm1).symm
      change some _ = some _ at hm0
      obtain rfl := Option.some.inj hm0
      exact ⟨_, [], ⟨_, _, rfl, rfl, _, _, rfl, rfl, rfl⟩, List.nil_sublist _, rfl, rfl⟩
     ·
      replace hm2 := cond_f hc2 hm2
      refine V.skip ?_
      refine V.seq ?_
      replace hm2 := bindO hm2; rcases hm2 with ⟨j1, hm3, hm2⟩
      refine V.cutT (D := (List UInt8) × (Unit)) (fun ⟨out_2, _⟩ => ⟨44, [(6, .str out_2), (0, .vl ρ0 1 (List.map encStr l)), (1, .str sign), (7, .int .i64 i)], []⟩) (fun ⟨out_2, _⟩ => (out_2 = j1)) ?_ ?_
      ·
       refine V.seq ?_
       refine V.region ?_
       refine VO.cons rfl (V1.move rfl rfl rfl lt0 ?_)
       refine VO.cons rfl (V1.int rfl rfl rfl rfl rfl lt0 ?_)
       refine VO.nil ?_
       refine V.keep 44 [0, 1, 6, 7, 30] [] (E0 := [(0, .vl ρ0 1 (List.map encStr l)), (1, .str sign), (6, .str out_0), (7, .int .i64 i), (30, .bool (decide (i > (0 : Int))))]) (H0 := []) rfl (⟨_, _, rfl, rfl, _, _, rfl, rfl, _, _, rfl, rfl, _, _, rfl, rfl, _, _, rfl, rfl, rfl⟩) (rfl) rfl ?_
       refine V.cond rfl (fun hc3 => ?_) (fun hc3 => ?_)
       ·
        replace hm3 := cond_t hc3 hm3
        replace hm3 := asrt_some hm3; rcases hm3 with ⟨hh3, hm3⟩
        refine V.region ?_
        refine VO.cons rfl (V1.move rfl rfl rfl lt0 ?_)
        refine VO.cons rfl (V1.move rfl rfl rfl lt0 ?_)
        refine VO.cons rfl (V1.strAdd rfl rfl rfl rfl hh3 lt0 ?_)
        refine VO.cons rfl (V1.assign rfl rfl rfl lt0 ?_)
        refine VO.nil ?_
        exact ⟨((out_0 ++ sign), ()), Option.some.inj hm3, Keeps.mk (ks := []) rfl ⟨rfl, rfl, rfl, rfl, trivial⟩ (rfl) rfl⟩
       ·
        replace hm3 := cond_f hc3 hm3
        refine V.skip ?_
        exact ⟨(out_0, ()), Option.some.inj hm3, Keeps.mk (ks := []) rfl ⟨rfl, rfl, rfl, rfl, trivial⟩ (rfl) rfl⟩
      ·
       rintro ⟨out_2, _⟩ rfl
       try dsimp only at hm2
       refine V.seq ?_
       replace hm2 := asrt_some hm2; rcases hm2 with ⟨hh4, hm2⟩
       replace hm2 := asrt_some hm2; rcases hm2 with ⟨hh5, hm2⟩
       refine V.region ?_
       refine VO.cons rfl (V1.move rfl rfl rfl lt0 ?_)
       refine VO.cons rfl (V1.move rfl rfl rfl lt0 ?_)
       refine VO.cons rfl (V1.move rfl rfl rfl lt0 ?_)
       refine VO.cons rfl (V1.indexI rfl rfl esz_81 rfl rfl hh4 lt0 ?_)
       refine VO.cons rfl (V1.loadPin rfl rfl tyk_9 rfl rfl lt0 ?_)
       refine VO.cons rfl (V1.strAdd rfl rfl rfl rfl hh5 lt0 ?_)
       refine VO.cons rfl (V1.assign rfl rfl rfl lt0 ?_)
       refine VO.nil ?_
       refine V.keep 44 [0, 1, 6, 7] [] (E0 := [(0, .vl ρ0 1 (List.map encStr l)), (1, .str sign), (6, .str (out_2 ++ (l.getD (Int.toNat i) default))), (7, .int .i64 i)]) (H0 := []) rfl (⟨_, _, rfl, rfl, _, _, rfl, rfl, _, _, rfl, rfl, _, _, rfl, rfl, rfl⟩) (rfl) rfl ?_
       refine V.seq ?_
       refine V.region ?_
       refine VO.cons rfl (V1.move rfl rfl rfl lt0 ?_)
       refine VO.cons rfl (V1.lenStr rfl rfl rfl rfl rfl rfl istr_9 lt0 ?_)
       refine VO.cons rfl (V1.int rfl rfl rfl rfl rfl lt0 ?_)
       refine VO.nil ?_
       refine V.cond rfl (fun hc4 => ?_) (fun hc4 => ?_)
       ·
        replace hm2 := cond_t hc4 hm2
        refine V.seq ?_
        refine V.region ?_
        refine VO.cons rfl (V1.assign rfl rfl rfl lt0 ?_)
        refine VO.cons rfl (V1.assign rfl rfl rfl lt0 ?_)
        refine VO.nil ?_
        refine V.ret ?_
        obtain rfl := Option.some.inj hm2
        change some _ = some _ at hm1
        obtain rfl := hr1 _ (Option.some.inj hm1).symm
        change some _ = some _ at hm0
        obtain rfl := Option.some.inj hm0
        exact ⟨_, [], ⟨_, _, rfl, rfl, _, _, rfl, rfl, rfl⟩, List.nil_sublist _, rfl, rfl⟩
       ·
        replace hm2 := cond_f hc4 hm2
        refine V.skip ?_
        exact ⟨((out_2 ++ (l.getD (Int.toNat i) default)), ()), Option.some.inj hm2, Keeps.mk (ks := []) rfl ⟨rfl, rfl, rfl, rfl, trivial⟩ (rfl) rfl⟩
    ·
     rintro ⟨out_1, _⟩ rfl
     try dsimp only at hm1
     refine V.region ?_
     refine VO.cons rfl (V1.move rfl rfl rfl lt0 ?_)
     refine VO.cons rfl (V1.int rfl rfl rfl rfl rfl lt0 ?_)
     refine VO.cons rfl (V1.assign rfl rfl rfl lt0 ?_)
     refine VO.nil ?_
     exact ⟨(m0, (out_1, (IntKind.i64.wrap (i + (1 : Int)))), ()), hl1 _ (Option.some.inj hm1).symm, Nat.lt_succ_self _, Keeps.mk (ks := []) rfl ⟨rfl, rfl, rfl, rfl, trivial⟩ (rfl) rfl⟩
   ·
    replace hm1 := cond_f hc1 hm1
    refine V.exit ?_
    obtain rfl := hr1 _ (Option.some.inj hm1).symm
    exact ⟨(out_0, ()), rfl, Keeps.mk (ks := []) rfl ⟨rfl, trivial⟩ (rfl) rfl⟩
  ·
   rintro ⟨out_, _⟩ rfl
   try dsimp only at hm0
   refine V.seq ?_
   refine V.region ?_
   refine VO.cons rfl (V1.move rfl rfl rfl lt0 ?_)
   refine VO.cons rfl (V1.assign rfl rfl rfl lt0 ?_)
   refine VO.cons rfl (V1.assign rfl rfl rfl lt0 ?_)
   refine VO.nil ?_
   refine V.ret ?_
   obtain rfl := Option.some.inj hm0
   exact ⟨_, [], ⟨_, _, rfl, rfl, _, _, rfl, rfl, rfl⟩, List.nil_sublist _, rfl, rfl⟩

theorem ok_spec_DrawLessString {ρ0 rn : Nat} {code : List Int} {r : List UInt8 × List UInt8} (h : M.spec_DrawLessString code = some r) : Does Tryd.prog 63 [.vl ρ0 1 (List.map encU8 code)] [] rn (fun x H => x = .tup [.str r.1, .str r.2] ∧ H = []) := by
 have hm0 := h; clear h; unfold M.spec_DrawLessString at hm0
 try dsimp only at hm0
 refine Does.intro (N := 14) Tryd.func63 rfl rfl rfl rfl ?_
 intro w0 S0 L0
 refine V.seq ?_
 refine V.region ?_
 refine VO.cons rfl (V1.assign rfl rfl rfl lt0 ?_)
 refine VO.cons rfl (V1.assign rfl rfl rfl lt0 ?_)
 refine VO.nil ?_
 refine V.seq ?_
 refine V.region ?_
 refine VO.cons rfl (V1.move rfl rfl rfl lt0 ?_)
 refine VO.cons rfl (V1.build rfl rfl zk_91 pl_91 rfl rfl lt0 ?_)
 refine VO.cons rfl (V1.boxN (n := 3) rfl rfl rfl rfl rfl lt0 ?_)
 intro b0
 refine VO.cons rfl (V1.assign rfl rfl rfl lt0 ?_)
 refine VO.nil ?_
 refine V.keep 14 [4] [0] (E0 := [(4, .ref b0 3 0 0)]) (H0 := [(b0, ⟨3, [.agg [.vl ρ0 1 (List.map encU8 code), .int .i64 (0 : Int), .int .u64 (0 : Int)]]⟩)]) rfl (⟨_, _, rfl, rfl, rfl⟩) (⟨_, _, rfl, rfl, rfl⟩) rfl ?_
 refine V.seq ?_
 replace hm0 := bindO hm0; rcases hm0 with ⟨y0, hh0, hm0⟩
 refine V.region ?_
 refine VO.cons rfl (V1.move rfl rfl rfl lt0 ?_)
 refine VO.cons rfl (V1.callM 0 (rn + ρ0 + 1) [] [.ref b0 3 0 0] (p := (b0, ⟨3, [.agg [.vl ρ0 1 (List.map encU8 code), .int .i64 (0 : Int), .int .u64 (0 : Int)]]⟩)) rfl rfl rfl cok_114 rfl rfl ⟨_, _, rfl, .same _, rfl⟩ bwNil (ok_spec_l1Cur_any1 hh0) rfl (.inl rfl) lt0 ?_)
 rintro _ _ ⟨rfl, rfl⟩
 refine VO.cons rfl (V1.assign rfl rfl rfl lt0 ?_)
 refine VO.nil ?_
 refine V.seq ?_
 replace hm0 := bindO hm0; rcases hm0 with ⟨y1, hh1, hm0⟩
 refine V.region ?_
 refine VO.cons rfl (V1.move rfl rfl rfl lt0 ?_)
 refine VO.cons rfl (V1.move rfl rfl rfl lt0 ?_)
 refine VO.cons rfl (V1.callM 0 (rn + ρ0 + 1) [] [.ref b0 3 0 0] (p := (b0, ⟨3, [encCur ρ0 y0.2]⟩)) rfl rfl rfl cok_114 rfl rfl ⟨_, _, rfl, .same _, rfl⟩ bwNil (ok_spec_l1Cur_any1 hh1) rfl (.inl rfl) lt0 ?_)
 rintro _ _ ⟨rfl, rfl⟩
 refine VO.cons rfl (V1.assign rfl rfl rfl lt0 ?_)
 refine VO.cons rfl (V1.assign rfl rfl rfl lt0 ?_)
 refine VO.nil ?_
 refine V.ret ?_
 obtain rfl := Option.some.inj hm0
 exact ⟨_, [], ⟨_, _, rfl, rfl, _, _, rfl, rfl, rfl⟩, List.nil_sublist _, rfl, rfl⟩

theorem ok_impl_LessString {rn : Nat} {a : List UInt8} {b_ : List UInt8} {r : Bool} (h : M.impl_LessString a b_ = some r) : Does Tryd.prog 64 [.str a, .str b_] [] rn (fun x H => x = .bool r ∧ H = []) := by
 have hm0 := h; clear h; unfold M.impl_LessString at hm0
 try dsimp only at hm0
 refine Does.intro (N := 8) Tryd.func64 rfl rfl rfl rfl ?_
 intro w0 S0 L0
 refine V.seq ?_
 refine V.region ?_
 refine VO.cons rfl (V1.assign rfl rfl rfl lt0 ?_)
 refine VO.nil ?_
 refine V.seq ?_
 refine V.region ?_
 refine VO.cons rfl (V1.move rfl rfl rfl lt0 ?_)
 refine VO.cons rfl (V1.move rfl rfl rfl lt0 ?_)
 refine VO.cons rfl (V1.str rfl rfl rfl rfl rfl lt0 ?_)
 refine VO.cons rfl (V1.assign rfl rfl rfl lt0 ?_)
 refine VO.nil ?_
 refine V.ret ?_
 obtain rfl := Option.some.inj hm0
 exact ⟨_, [], ⟨_, _, rfl, rfl, rfl⟩, List.nil_sublist _, rfl, rfl⟩

theorem ok_spec_LessString {rn : Nat} {a : List UInt8} {b_ : List UInt8} {r : Bool} (h : M.spec_LessString a b_ = some r) : Does Tryd.prog 65 [.str a, .str b_] [] rn (fun x H => x = .bool r ∧ H = []) := by
 have hm0 := h; clear h; unfold M.spec_LessString at hm0
 try dsimp only at hm0
 refine Does.intro (N := 8) Tryd.func65 rfl rfl rfl rfl ?_
 intro w0 S0 L0
 refine V.seq ?_
 refine V.region ?_
 refine VO.cons rfl (V1.assign rfl rfl rfl lt0 ?_)
 refine VO.nil ?_
 refine V.seq ?_
 refine V.region ?_
 refine VO.cons rfl (V1.move rfl rfl rfl lt0 ?_)
 refine VO.cons rfl (V1.move rfl rfl rfl lt0 ?_)
 refine VO.cons rfl (V1.str rfl rfl rfl rfl rfl lt0 ?_)
 refine VO.cons rfl (V1.assign rfl rfl rfl lt0 ?_)
 refine VO.nil ?_
 refine V.ret ?_
 obtain rfl := Option.some.inj hm0
 exact ⟨_, [], ⟨_, _, rfl, rfl, rfl⟩, List.nil_sublist _, rfl, rfl⟩

theorem ok_laws_FnSplitJoin {ρ0 rn : Nat} {code : List Int} {r : Bool} (h : M.laws_FnSplitJoin code = some r) : Does Tryd.prog 6 [.vl ρ0 1 (List.map encU8 code)] [] rn (fun x H => x = .bool r ∧ H = []) := by
 have hm0 := h; clear h; unfold M.laws_FnSplitJoin at hm0
 try dsimp only at hm0
 refine Does.intro (N := 104) Tryd.func6 rfl rfl rfl rfl ?_
 intro w0 S0 L0
 refine V.seq ?_
 refine V.region ?_
 refine VO.cons rfl (V1.assign rfl rfl rfl lt0 ?_)
 refine VO.nil ?_
 refine V.seq ?_
 refine V.seq ?_
 replace hm0 := bindO hm0; rcases hm0 with ⟨y0, hh0, hm0⟩
 refine V.region ?_
 refine VO.cons rfl (V1.move rfl rfl rfl lt0 ?_)
 refine VO.cons rfl (V1.call rfl rfl rfl cok_22 rfl (ok_laws_vBig hh0) rfl lt0 ?_)
 rintro _ _ ⟨rfl, rfl⟩
 refine VO.nil ?_
 refine V.cond rfl (fun hc0 => ?_) (fun hc0 => ?_)
 ·
  replace hm0 := cond_t hc0 hm0
  refine V.seq ?_
  refine V.region ?_
  refine VO.cons rfl (V1.assign rfl rfl rfl lt0 ?_)
  refine VO.nil ?_
  refine V.ret ?_
  obtain rfl := Option.some.inj hm0
  exact ⟨_, [], ⟨_, _, rfl, rfl, rfl⟩, List.nil_sublist _, rfl, rfl⟩
 ·
  replace hm0 := cond_f hc0 hm0
  refine V.skip ?_
  refine V.seq ?_
  replace hm0 := bindO hm0; rcases hm0 with ⟨y1, hh1, hm0⟩
  refine V.region ?_
  refine VO.cons rfl (V1.move rfl rfl rfl lt0 ?_)
  refine VO.cons rfl (V1.call rfl rfl rfl cok_58 rfl (ok_spec_DrawSplitString hh1) rfl lt0 ?_)
  rintro _ _ ⟨rfl, rfl⟩
  refine VO.cons rfl (V1.move rfl rfl rfl lt0 ?_)
  refine VO.cons rfl (V1.extract rfl rfl rfl rfl lt0 ?_)
  refine VO.cons rfl (V1.extract rfl rfl rfl rfl lt0 ?_)
  refine VO.cons rfl (V1.assign rfl rfl rfl lt0 ?_)
  refine VO.cons rfl (V1.assign rfl rfl rfl lt0 ?_)
  refine VO.nil ?_
  refine V.keep 104 [0, 3, 4] [] (E0 := [(0, .vl ρ0 1 (List.map encU8 code)), (3, .str y1.1), (4, .str y1.2)]) (H0 := []) rfl (⟨_, _, rfl, rfl, _, _, rfl, rfl, _, _, rfl, rfl, rfl⟩) (rfl) rfl ?_
  refine V.seq ?_
  replace hm0 := bindO hm0; rcases hm0 with ⟨y2, hh2, hm0⟩
  refine V.region ?_
  refine VO.cons rfl (V1.move rfl rfl rfl lt0 ?_)
  refine VO.cons rfl (V1.move rfl rfl rfl lt0 ?_)
  refine VO.cons rfl (V1.permK (V1.call rfl rfl rfl cok_59 rfl (ok_impl_SplitString hh2) rfl lt0 ?_))
  rintro _ _ ⟨ob0, hob0, rfl, rfl⟩
  refine ⟨_, ?_, Keeps.optBack (n := 1) (ob := ob0) (xs := List.map encStr y2.1) (H1 := []) (H2 := []) rfl⟩
  refine VO.cons rfl (V1.move rfl rfl rfl lt0 ?_)
  refine VO.cons rfl (V1.extract rfl rfl rfl rfl lt0 ?_)
  refine VO.weakenK (Keeps.optFront (n := 1) (ob := ob0) (xs := (List.map encStr y2.1)) (H1 := []) rfl) ?_
  refine VO.weakenK (Keeps.optVl 28 [] rn (f := encStr) (l := y2.1) (ob := ob0) (H1 := []) hob0 rfl rfl ⟨rfl, trivial⟩ (fun _ => rfl) rfl iNil) ?_
  refine VO.cons rfl (V1.extract rfl rfl rfl rfl lt0 ?_)
  refine VO.cons rfl (V1.assign rfl rfl rfl lt0 ?_)
  refine VO.cons rfl (V1.assign rfl rfl rfl lt0 ?_)
  refine VO.nil ?_
  refine V.keep 104 [0, 3, 4, 5, 6] [] (E0 := [(0, .vl ρ0 1 (List.map encU8 code)), (3, .str y1.1), (4, .str y1.2), (5, .vl rn 1 (List.map encStr y2.1)), (6, .bool y2.2)]) (H0 := []) rfl (⟨_, _, rfl, rfl, _, _, rfl, rfl, _, _, rfl, rfl, _, _, rfl, rfl, _, _, rfl, rfl, rfl⟩) (rfl) rfl ?_
  refine V.seq ?_
  replace hm0 := bindO hm0; rcases hm0 with ⟨y3, hh3, hm0⟩
  refine V.region ?_
  refine VO.cons rfl (V1.move rfl rfl rfl lt0 ?_)
  refine VO.cons rfl (V1.call rfl rfl rfl cok_60 rfl (ok_spec_DrawJoinStrings hh3) rfl lt0 ?_)
  rintro _ _ ⟨b0, rfl, rfl⟩
  refine VO.cons rfl (V1.move rfl rfl rfl lt0 ?_)
  refine VO.cons rfl (V1.extract rfl rfl rfl rfl lt0 ?_)
  refine VO.weakenK (Keeps.freezeG 0 rn [(33, .vl rn 1 (List.map encStr y3.1))] ([]) (f := encStr) (l := y3.1) rfl (fun _ => rfl) ⟨⟨_, rfl, .here⟩, trivial⟩ rfl rfl iNil) ?_
  refine VO.cons rfl (V1.extract rfl rfl rfl rfl lt0 ?_)
  refine VO.cons rfl (V1.assign rfl rfl rfl lt0 ?_)
  refine VO.cons rfl (V1.assign rfl rfl rfl lt0 ?_)
  refine VO.nil ?_
  refine V.keep 104 [0, 3, 4, 5, 6, 7, 8] [] (E0 := [(0, .vl ρ0 1 (List.map encU8 code)), (3, .str y1.1), (4, .str y1.2), (5, .vl rn 1 (List.map encStr y2.1)), (6, .bool y2.2), (7, .vl rn 1 (List.map encStr y3.1)), (8, .str y3.2)]) (H0 := []) rfl (⟨_, _, rfl, rfl, _, _, rfl, rfl, _, _, rfl, rfl, _, _, rfl, rfl, _, _, rfl, rfl, _, _, rfl, rfl, _, _, rfl, rfl, rfl⟩) (rfl) rfl ?_
  refine V.seq ?_
  replace hm0 := bindO hm0; rcases hm0 with ⟨y4, hh4, hm0⟩
  refine V.region ?_
  refine VO.cons rfl (V1.move rfl rfl rfl lt0 ?_)
  refine VO.cons rfl (V1.move rfl rfl rfl lt0 ?_)
  refine VO.cons rfl (V1.call rfl rfl rfl cok_61 rfl (ok_impl_JoinStrings hh4) rfl lt0 ?_)
  rintro _ _ ⟨rfl, rfl⟩
  refine VO.cons rfl (V1.move rfl rfl rfl lt0 ?_)
  refine VO.cons rfl (V1.extract rfl rfl rfl rfl lt0 ?_)
  refine VO.cons rfl (V1.extract rfl rfl rfl rfl lt0 ?_)
  refine VO.cons rfl (V1.assign rfl rfl rfl lt0 ?_)
  refine VO.cons rfl (V1.assign rfl rfl rfl lt0 ?_)
  refine VO.nil ?_
  refine V.keep 104 [0, 3, 4, 5, 6, 7, 8, 9, 10] [] (E0 := [(0, .vl ρ0 1 (List.map encU8 code)), (3, .str y1.1), (4, .str y1.2), (5, .vl rn 1 (List.map encStr y2.1)), (6, .bool y2.2), (7, .vl rn 1 (List.map encStr y3.1)), (8, .str y3.2), (9, .str y4.1), (10, .bool y4.2)]) (H0 := []) rfl (⟨_, _, rfl, rfl, _, _, rfl, rfl, _, _, rfl, rfl, _, _, rfl, rfl, _, _, rfl, rfl, _, _, rfl, rfl, _, _, rfl, rfl, _, _, rfl, rfl, _, _, rfl, rfl, rfl⟩) (rfl) rfl ?_
  refine V.seq ?_
  replace hm0 := bindO hm0; rcases hm0 with ⟨y5, hh5, hm0⟩
  refine V.region ?_
  refine VO.cons rfl (V1.move rfl rfl rfl lt0 ?_)
  refine VO.cons rfl (V1.move rfl rfl rfl lt0 ?_)
  refine VO.cons rfl (V1.call rfl rfl rfl cok_62 rfl (ok_spec_JoinStrings hh5) rfl lt0 ?_)
  rintro _ _ ⟨rfl, rfl⟩
  refine VO.cons rfl (V1.move rfl rfl rfl lt0 ?_)
  refine VO.cons rfl (V1.extract rfl rfl rfl rfl lt0 ?_)
  refine VO.cons rfl (V1.extract rfl rfl rfl rfl lt0 ?_)
  refine VO.cons rfl (V1.assign rfl rfl rfl lt0 ?_)
  refine VO.cons rfl (V1.assign rfl rfl rfl lt0 ?_)
  refine VO.nil ?_
  refine V.keep 104 [0, 3, 4, 5, 6, 9, 10, 11, 12] [] (E0 := [(0, .vl ρ0 1 (List.map encU8 code)), (3, .str y1.1), (4, .str y1.2), (5, .vl rn 1 (List.map encStr y2.1)), (6, .bool y2.2), (9, .str y4.1), (10, .bool y4.2), (11, .str y5.1), (12, .bool y5.2)]) (H0 := []) rfl (⟨_, _, rfl, rfl, _, _, rfl, rfl, _, _, rfl, rfl, _, _, rfl, rfl, _, _, rfl, rfl, _, _, rfl, rfl, _, _, rfl, rfl, _, _, rfl, rfl, _, _, rfl, rfl, rfl⟩) (rfl) rfl ?_
  refine V.seq ?_
  replace hm0 := bindO hm0; rcases hm0 with ⟨y6, hh6, hm0⟩
  refine V.region ?_
  refine VO.cons rfl (V1.move rfl rfl rfl lt0 ?_)
  refine VO.cons rfl (V1.call rfl rfl rfl cok_63 rfl (ok_spec_DrawLessString hh6) rfl lt0 ?_)
  rintro _ _ ⟨rfl, rfl⟩
  refine VO.cons rfl (V1.move rfl rfl rfl lt0 ?_)
  refine VO.cons rfl (V1.extract rfl rfl rfl rfl lt0 ?_)
  refine VO.cons rfl (V1.extract rfl rfl rfl rfl lt0 ?_)
  refine VO.cons rfl (V1.assign rfl rfl rfl lt0 ?_)
  refine VO.cons rfl (V1.assign rfl rfl rfl lt0 ?_)
  refine VO.nil ?_
  refine V.keep 104 [3, 4, 5, 6, 9, 10, 11, 12, 13, 14] [] (E0 := [(3, .str y1.1), (4, .str y1.2), (5, .vl rn 1 (List.map encStr y2.1)), (6, .bool y2.2), (9, .str y4.1), (10, .bool y4.2), (11, .str y5.1), (12, .bool y5.2), (13, .str y6.1), (14, .str y6.2)]) (H0 := []) rfl (⟨_, _, rfl, rfl, _, _, rfl, rfl, _, _, rfl, rfl, _, _, rfl, rfl, _, _, rfl, rfl, _, _, rfl, rfl, _, _, rfl, rfl, _, _, rfl, rfl, _, _, rfl, rfl, _, _, rfl, rfl, rfl⟩) (rfl) rfl ?_
  refine V.seq ?_
  refine V.seq ?_
  replace hm0 := bindO hm0; rcases hm0 with ⟨y7, hh7, hm0⟩
  replace hm0 := bindO hm0; rcases hm0 with ⟨y8, hh8, hm0⟩
  replace hm0 := bindO hm0; rcases hm0 with ⟨y9, hh9, hm0⟩
  replace hm0 := bindO hm0; rcases hm0 with ⟨y10, hh10, hm0⟩
  refine V.region ?_
  refine VO.cons rfl (V1.move rfl rfl rfl lt0 ?_)
  refine VO.cons rfl (V1.move rfl rfl rfl lt0 ?_)
  refine VO.cons rfl (V1.str rfl rfl rfl rfl rfl lt0 ?_)
  refine VO.cons rfl (V1.move rfl rfl rfl lt0 ?_)
  apply VO.or (n := 3) rfl rfl rfl rfl rfl rfl lt0 (.none rfl)
  ·
   intro hg0
   refine VO.step (.some rfl rfl rfl) (V1.move rfl rfl rfl lt0 ?_)
   refine VO.step (.some rfl rfl rfl) (V1.move rfl rfl rfl lt0 ?_)
   refine VO.step (.some rfl rfl rfl) (V1.boolNeq rfl rfl und_4 rfl rfl lt0 ?_)
   exact VO.nil ⟨rfl, rfl, rfl, rfl, .inr ⟨rfl, .inr ⟨rfl, .inr ⟨rfl, .inr ⟨rfl, .inl rfl⟩⟩⟩⟩⟩
  refine VO.cons rfl (V1.move rfl rfl rfl lt0 ?_)
  apply VO.or (n := 7) rfl rfl rfl rfl rfl rfl lt0 (.none rfl)
  ·
   intro hg1
   refine VO.step (.some rfl rfl rfl) (V1.move rfl rfl rfl lt0 ?_)
   refine VO.step (.some rfl rfl rfl) (V1.move rfl rfl rfl lt0 ?_)
   refine VO.step (.some rfl rfl rfl) (V1.call rfl rfl rfl cok_64 rfl (ok_impl_LessString (cond_f hg1 hh7)) rfl lt0 ?_)
   rintro _ _ ⟨rfl, rfl⟩
   refine VO.step (.some rfl rfl rfl) (V1.move rfl rfl rfl lt0 ?_)
   refine VO.step (.some rfl rfl rfl) (V1.move rfl rfl rfl lt0 ?_)
   refine VO.step (.some rfl rfl rfl) (V1.call rfl rfl rfl cok_65 rfl (ok_spec_LessString (cond_f hg1 hh8)) rfl lt0 ?_)
   rintro _ _ ⟨rfl, rfl⟩
   refine VO.step (.some rfl rfl rfl) (V1.boolNeq rfl rfl und_4 rfl rfl lt0 ?_)
   exact VO.nil ⟨rfl, rfl, rfl, rfl, .inr ⟨rfl, .inr ⟨rfl, .inr ⟨rfl, .inr ⟨rfl, .inr ⟨rfl, .inr ⟨rfl, .inr ⟨rfl, .inr ⟨rfl, .inl rfl⟩⟩⟩⟩⟩⟩⟩⟩⟩
  refine VO.cons rfl (V1.move rfl rfl rfl lt0 ?_)
  apply VO.or (n := 8) rfl rfl rfl rfl rfl rfl lt0 (.none rfl)
  ·
   intro hg2
   refine VO.step (.some rfl rfl rfl) (V1.move rfl rfl rfl lt0 ?_)
   refine VO.step (.some rfl rfl rfl) (V1.move rfl rfl rfl lt0 ?_)
   refine VO.step (.some rfl rfl rfl) (V1.call rfl rfl rfl cok_64 rfl (ok_impl_LessString (cond_f hg2 hh9)) rfl lt0 ?_)
   rintro _ _ ⟨rfl, rfl⟩
   refine VO.step (.some rfl rfl rfl) (V1.move rfl rfl rfl lt0 ?_)
   apply VO.and (n := 3) rfl rfl rfl rfl rfl rfl lt0 (.some rfl rfl rfl)
   ·
    intro hg3
    refine VO.step (.some rfl rfl rfl) (V1.move rfl rfl rfl lt0 ?_)
    refine VO.step (.some rfl rfl rfl) (V1.move rfl rfl rfl lt0 ?_)
    refine VO.step (.some rfl rfl rfl) (V1.call rfl rfl rfl cok_64 rfl (ok_impl_LessString (cond_t hg3 (cond_f hg2 hh10))) rfl lt0 ?_)
    rintro _ _ ⟨rfl, rfl⟩
    exact VO.nil ⟨rfl, rfl, rfl, rfl, .inr ⟨rfl, .inr ⟨rfl, .inr ⟨rfl, .inr ⟨rfl, .inl rfl⟩⟩⟩⟩⟩
   exact VO.nil ⟨rfl, rfl, rfl, rfl, .inr ⟨rfl, .inr ⟨rfl, .inr ⟨rfl, .inr ⟨rfl, .inr ⟨rfl, .inr ⟨rfl, .inl rfl⟩⟩⟩⟩⟩⟩⟩
  refine VO.nil ?_
  refine V.keep 104 [3, 4, 5, 6, 78] [] (E0 := [(3, .str y1.1), (4, .str y1.2), (5, .vl rn 1 (List.map encStr y2.1)), (6, .bool y2.2), (78, .bool ((((!(y4.1 == y5.1)) || (!(y4.2 == y5.2))) || (!(y7 == y8))) || (y9 && y10)))]) (H0 := []) rfl (⟨_, _, rfl, rfl, _, _, rfl, rfl, _, _, rfl, rfl, _, _, rfl, rfl, _, _, rfl, rfl, rfl⟩) (rfl) rfl ?_
  refine V.cond rfl (fun hc1 => ?_) (fun hc1 => ?_)
  ·
   replace hm0 := cond_t hc1 hm0
   refine V.seq ?_
   refine V.region ?_
   refine VO.cons rfl (V1.assign rfl rfl rfl lt0 ?_)
   refine VO.nil ?_
   refine V.ret ?_
   obtain rfl := Option.some.inj hm0
   exact ⟨_, [], ⟨_, _, rfl, rfl, rfl⟩, List.nil_sublist _, rfl, rfl⟩
  ·
   replace hm0 := cond_f hc1 hm0
   refine V.skip ?_
   refine V.seq ?_
   refine V.seq ?_
   refine V.region ?_
   refine VO.cons rfl (V1.move rfl rfl rfl lt0 ?_)
   refine VO.cons rfl (V1.lenStr rfl rfl rfl rfl rfl rfl istr_9 lt0 ?_)
   refine VO.cons rfl (V1.int rfl rfl rfl rfl rfl lt0 ?_)
   refine VO.nil ?_
   refine V.cond rfl (fun hc2 => ?_) (fun hc2 => ?_)
   ·
    replace hm0 := cond_t hc2 hm0
    refine V.seq ?_
    refine V.region ?_
    refine VO.cons rfl (V1.move rfl rfl rfl lt0 ?_)
    refine VO.cons rfl (V1.not rfl rfl rfl lt0 ?_)
    refine VO.cons rfl (V1.move rfl rfl rfl lt0 ?_)
    apply VO.and (n := 3) rfl rfl rfl rfl rfl rfl lt0 (.none rfl)
    ·
     intro hg4
     refine VO.step (.some rfl rfl rfl) (V1.move rfl rfl rfl lt0 ?_)
     refine VO.step (.some rfl rfl rfl) (V1.lenMap rfl rfl rfl rfl rfl rfl isl_81 lt0 ?_)
     refine VO.step (.some rfl rfl rfl) (V1.int rfl rfl rfl rfl rfl lt0 ?_)
     exact VO.nil ⟨rfl, rfl, rfl, rfl, .inr ⟨rfl, .inr ⟨rfl, .inr ⟨rfl, .inr ⟨rfl, .inl rfl⟩⟩⟩⟩⟩
    refine VO.cons rfl (V1.assign rfl rfl rfl lt0 ?_)
    refine VO.nil ?_
    refine V.ret ?_
    obtain rfl := Option.some.inj hm0
    exact ⟨_, [], ⟨_, _, rfl, rfl, rfl⟩, List.nil_sublist _, rfl, rfl⟩
   ·
    replace hm0 := cond_f hc2 hm0
    refine V.skip ?_
    refine V.keep 104 [3, 4, 5, 6] [] (E0 := [(3, .str y1.1), (4, .str y1.2), (5, .vl rn 1 (List.map encStr y2.1)), (6, .bool y2.2)]) (H0 := []) rfl (⟨_, _, rfl, rfl, _, _, rfl, rfl, _, _, rfl, rfl, _, _, rfl, rfl, rfl⟩) (rfl) rfl ?_
    refine V.seq ?_
    replace hm0 := bindO hm0; rcases hm0 with ⟨y11, hh11, hm0⟩
    refine V.region ?_
    refine VO.cons rfl (V1.move rfl rfl rfl lt0 ?_)
    refine VO.cons rfl (V1.move rfl rfl rfl lt0 ?_)
    refine VO.cons rfl (V1.call rfl rfl rfl cok_61 rfl (ok_impl_JoinStrings hh11) rfl lt0 ?_)
    rintro _ _ ⟨rfl, rfl⟩
    refine VO.cons rfl (V1.move rfl rfl rfl lt0 ?_)
    refine VO.cons rfl (V1.extract rfl rfl rfl rfl lt0 ?_)
    refine VO.cons rfl (V1.extract rfl rfl rfl rfl lt0 ?_)
    refine VO.cons rfl (V1.assign rfl rfl rfl lt0 ?_)
    refine VO.cons rfl (V1.assign rfl rfl rfl lt0 ?_)
    refine VO.nil ?_
    refine V.keep 104 [3, 6, 15, 16] [] (E0 := [(3, .str y1.1), (6, .bool y2.2), (15, .str y11.1), (16, .bool y11.2)]) (H0 := []) rfl (⟨_, _, rfl, rfl, _, _, rfl, rfl, _, _, rfl, rfl, _, _, rfl, rfl, rfl⟩) (rfl) rfl ?_
    refine V.seq ?_
    refine V.region ?_
    refine VO.cons rfl (V1.move rfl rfl rfl lt0 ?_)
    refine VO.cons rfl (V1.move rfl rfl rfl lt0 ?_)
    apply VO.and (n := 1) rfl rfl rfl rfl rfl rfl lt0 (.none rfl)
    ·
     intro hg5
     refine VO.step (.some rfl rfl rfl) (V1.move rfl rfl rfl lt0 ?_)
     exact VO.nil ⟨rfl, rfl, rfl, rfl, .inr ⟨rfl, .inr ⟨rfl, .inl rfl⟩⟩⟩
    refine VO.cons rfl (V1.move rfl rfl rfl lt0 ?_)
    apply VO.and (n := 3) rfl rfl rfl rfl rfl rfl lt0 (.none rfl)
    ·
     intro hg6
     refine VO.step (.some rfl rfl rfl) (V1.move rfl rfl rfl lt0 ?_)
     refine VO.step (.some rfl rfl rfl) (V1.move rfl rfl rfl lt0 ?_)
     refine VO.step (.some rfl rfl rfl) (V1.str rfl rfl rfl rfl rfl lt0 ?_)
     exact VO.nil ⟨rfl, rfl, rfl, rfl, .inr ⟨rfl, .inr ⟨rfl, .inr ⟨rfl, .inr ⟨rfl, .inl rfl⟩⟩⟩⟩⟩
    refine VO.cons rfl (V1.assign rfl rfl rfl lt0 ?_)
    refine VO.nil ?_
    refine V.ret ?_
    obtain rfl := Option.some.inj hm0
    exact ⟨_, [], ⟨_, _, rfl, rfl, rfl⟩, List.nil_sublist _, rfl, rfl⟩
end Go.Proofs.YtfebeomnlkfgoaaDoor
