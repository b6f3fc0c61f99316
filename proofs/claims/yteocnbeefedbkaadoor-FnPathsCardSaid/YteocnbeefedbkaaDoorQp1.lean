/- the functions do what their models say -/
import Derived.Test.YteocnbeefedbkaaDoorFacts
import Derived.Test.YteocnbeefedbkaaDoorSh
import Derived.KernelRfl
import Derived.Test.YteocnbeefedbkaaDoorMpM
set_option linter.unusedSimpArgs false
set_option linter.unusedVariables false
set_option maxRecDepth 100000
set_option maxHeartbeats 4000000
namespace Go.Proofs.YteocnbeefedbkaaDoor
open Go.VS

theorem ok_laws_rBig {ρ0 rn : Nat} {code : List Int} {r : Bool} (h : M.laws_rBig code = some r) : Does Tryd.prog 6 [.vl ρ0 1 (List.map encU8 code)] [] rn (fun x H => x = .bool r ∧ H = []) := by
 have hm0 := h; clear h; unfold M.laws_rBig at hm0
 try dsimp only at hm0
 refine Does.intro (N := 6) Tryd.func6 rfl rfl rfl rfl ?_
 intro w0 S0 L0
 refine V.seq ?_
 refine V.region ?_
 refine VO.cons rfl (V1.assign rfl rfl rfl lt0 ?_)
 refine VO.nil ?_
 refine V.seq ?_
 refine V.region ?_
 refine VO.cons rfl (V1.move rfl rfl rfl lt0 ?_)
 refine VO.cons rfl (V1.lenMap rfl rfl rfl rfl rfl rfl isl_22 lt0 ?_)
 refine VO.cons rfl (V1.int rfl rfl rfl rfl rfl lt0 ?_)
 refine VO.cons rfl (V1.assign rfl rfl rfl lt0 ?_)
 refine VO.nil ?_
 refine V.ret ?_
 obtain rfl := Option.some.inj hm0
 exact ⟨_, [], ⟨_, _, rfl, rfl, rfl⟩, List.nil_sublist _, rfl, rfl⟩

theorem ok_spec_l1Cur_next {ρ0 rn bp : Nat} {c : Cur} {r : Int × Cur} (h : M.spec_l1Cur_next c = some r) : Does Tryd.prog 128 [.ref bp 3 0 0] [(bp, ⟨3, [encCur ρ0 c]⟩)] rn (fun x H => x = .int .i64 r.1 ∧ H = [(bp, ⟨3, [encCur ρ0 r.2]⟩)]) := by
 have hm0 := h; clear h; unfold M.spec_l1Cur_next at hm0
 try dsimp only at hm0
 refine Does.intro (N := 62) Tryd.func128 rfl rfl rfl rfl ?_
 intro w0 S0 L0
 refine V.seq ?_
 refine V.region ?_
 refine VO.cons rfl (V1.assign rfl rfl rfl lt0 ?_)
 refine VO.nil ?_
 refine V.seq ?_
 refine V.region ?_
 refine VO.cons rfl (V1.assign rfl rfl rfl lt0 ?_)
 refine VO.nil ?_
 refine V.seq ?_
 replace hm0 := bindO hm0; rcases hm0 with ⟨j0, hm1, hm0⟩
 refine V.cutT (D := (Int) × (Unit)) (fun ⟨b_, _⟩ => ⟨62, [(3, .int .i64 b_), (0, .ref bp 3 0 0)], [(bp, ⟨3, [encCur ρ0 c]⟩)]⟩) (fun ⟨b_, _⟩ => (b_ = j0)) ?_ ?_
 ·
  refine V.seq ?_
  refine V.regionM 62 9 [⟨[(0, none)], [], none⟩, ⟨[(4, some 0)], [], none⟩, ⟨[(5, some 0)], [], none⟩, ⟨[(6, some 0)], [], none⟩, ⟨[(0, none)], [], none⟩, ⟨[(8, some 0)], [], none⟩, ⟨[(9, some 0)], [], none⟩, ⟨[(10, some 0)], [], none⟩, ⟨[(11, some 0)], [], none⟩] [(0, none), (3, none), (7, some 5), (12, some 0)] (⟨_, rfl, ⟨_, rfl, ⟨_, rfl, ⟨_, rfl, ⟨_, rfl, ⟨_, rfl, ⟨_, rfl, ⟨_, rfl, ⟨_, rfl, ⟨rfl, rfl⟩⟩⟩⟩⟩⟩⟩⟩⟩⟩) mixed_orders rfl (by decide +kernel) (fun hck2 => ?_)
  refine VP.step (p := ?pv104) rfl rfl rfl (⟨_, _, rfl, rfl, rfl⟩) ?hv104 ?rest104 hck2
  case hv104 =>
   intro E1
   refine (V1.move rfl rfl rfl lt0 ?_)
   exact rfl
  refine VP.step (p := ?pv105) rfl rfl rfl (⟨_, _, rfl, rfl, rfl⟩) ?hv105 ?rest105 hck2
  case hv105 =>
   intro E1
   refine (V1.nilRef rfl rfl rfl lt0 ?_)
   exact rfl
  refine VP.step (p := ?pv106) rfl rfl rfl (⟨_, _, rfl, rfl, rfl⟩) ?hv106 ?rest106 hck2
  case hv106 =>
   intro E1
   refine (V1.fieldRef rfl rfl fo_77_1 rfl lt0 ?_)
   exact rfl
  refine VP.step (p := ?pv107) rfl rfl rfl (⟨_, _, rfl, rfl, rfl⟩) ?hv107 ?rest107 hck2
  case hv107 =>
   intro E1
   refine (V1.loadRef (k := 0) rfl rfl tyk_3 rfl rfl rfl rfl rfl lt0 ?_)
   exact rfl
  refine VP.step (p := ?pv108) rfl rfl rfl (⟨_, _, rfl, rfl, rfl⟩) ?hv108 ?rest108 hck2
  case hv108 =>
   intro E1
   refine (V1.move rfl rfl rfl lt0 ?_)
   exact rfl
  refine VP.step (p := ?pv109) rfl rfl rfl (⟨_, _, rfl, rfl, rfl⟩) ?hv109 ?rest109 hck2
  case hv109 =>
   intro E1
   refine (V1.nilRef rfl rfl rfl lt0 ?_)
   exact rfl
  refine VP.step (p := ?pv110) rfl rfl rfl (⟨_, _, rfl, rfl, rfl⟩) ?hv110 ?rest110 hck2
  case hv110 =>
   intro E1
   refine (V1.fieldRef rfl rfl fo_77_0 rfl lt0 ?_)
   exact rfl
  refine VP.step (p := ?pv111) rfl rfl rfl (⟨_, _, rfl, rfl, rfl⟩) ?hv111 ?rest111 hck2
  case hv111 =>
   intro E1
   refine (V1.loadRef (k := 0) rfl rfl tyk_22 rfl rfl rfl rfl rfl lt0 ?_)
   exact rfl
  refine VP.step (p := ?pv112) rfl rfl rfl (⟨_, _, rfl, rfl, rfl⟩) ?hv112 ?rest112 hck2
  case hv112 =>
   intro E1
   refine (V1.lenMap rfl rfl rfl rfl rfl rfl isl_22 lt0 ?_)
   exact rfl
  refine VP.fin rfl (⟨_, _, rfl, rfl, _, _, rfl, rfl, _, _, rfl, rfl, _, _, rfl, rfl, rfl⟩) ?_
  refine VO.cons rfl (V1.int rfl rfl rfl rfl rfl lt0 ?_)
  refine VO.nil ?_
  refine V.cond rfl (fun hc0 => ?_) (fun hc0 => ?_)
  ·
   replace hm1 := cond_t hc0 hm1
   replace hm1 := asrt_some hm1; rcases hm1 with ⟨hh0, hm1⟩
   refine V.regionM 62 8 [⟨[(0, none)], [], none⟩, ⟨[(14, some 0)], [], none⟩, ⟨[(15, some 0)], [], none⟩, ⟨[(16, some 0)], [], none⟩, ⟨[(0, none)], [], none⟩, ⟨[(18, some 0)], [], none⟩, ⟨[(19, some 0)], [], none⟩, ⟨[(20, some 0)], [], none⟩] [(0, none), (17, some 4), (21, some 0)] (⟨_, rfl, ⟨_, rfl, ⟨_, rfl, ⟨_, rfl, ⟨_, rfl, ⟨_, rfl, ⟨_, rfl, ⟨_, rfl, ⟨rfl, rfl⟩⟩⟩⟩⟩⟩⟩⟩⟩) mixed_orders rfl (by decide +kernel) (fun hck3 => ?_)
   refine VP.step (p := ?pv113) rfl rfl rfl (⟨_, _, rfl, rfl, rfl⟩) ?hv113 ?rest113 hck3
   case hv113 =>
    intro E1
    refine (V1.move rfl rfl rfl lt0 ?_)
    exact rfl
   refine VP.step (p := ?pv114) rfl rfl rfl (⟨_, _, rfl, rfl, rfl⟩) ?hv114 ?rest114 hck3
   case hv114 =>
    intro E1
    refine (V1.nilRef rfl rfl rfl lt0 ?_)
    exact rfl
   refine VP.step (p := ?pv115) rfl rfl rfl (⟨_, _, rfl, rfl, rfl⟩) ?hv115 ?rest115 hck3
   case hv115 =>
    intro E1
    refine (V1.fieldRef rfl rfl fo_77_0 rfl lt0 ?_)
    exact rfl
   refine VP.step (p := ?pv116) rfl rfl rfl (⟨_, _, rfl, rfl, rfl⟩) ?hv116 ?rest116 hck3
   case hv116 =>
    intro E1
    refine (V1.loadRef (k := 0) rfl rfl tyk_22 rfl rfl rfl rfl rfl lt0 ?_)
    exact rfl
   refine VP.step (p := ?pv117) rfl rfl rfl (⟨_, _, rfl, rfl, rfl⟩) ?hv117 ?rest117 hck3
   case hv117 =>
    intro E1
    refine (V1.move rfl rfl rfl lt0 ?_)
    exact rfl
   refine VP.step (p := ?pv118) rfl rfl rfl (⟨_, _, rfl, rfl, rfl⟩) ?hv118 ?rest118 hck3
   case hv118 =>
    intro E1
    refine (V1.nilRef rfl rfl rfl lt0 ?_)
    exact rfl
   refine VP.step (p := ?pv119) rfl rfl rfl (⟨_, _, rfl, rfl, rfl⟩) ?hv119 ?rest119 hck3
   case hv119 =>
    intro E1
    refine (V1.fieldRef rfl rfl fo_77_1 rfl lt0 ?_)
    exact rfl
   refine VP.step (p := ?pv120) rfl rfl rfl (⟨_, _, rfl, rfl, rfl⟩) ?hv120 ?rest120 hck3
   case hv120 =>
    intro E1
    refine (V1.loadRef (k := 0) rfl rfl tyk_3 rfl rfl rfl rfl rfl lt0 ?_)
    exact rfl
   refine VP.fin rfl (⟨_, _, rfl, rfl, _, _, rfl, rfl, _, _, rfl, rfl, rfl⟩) ?_
   refine VO.cons rfl (V1.indexI rfl rfl esz_22 rfl rfl hh0 lt0 ?_)
   refine VO.cons rfl (V1.loadPin rfl rfl tyk_5 rfl rfl lt0 ?_)
   refine VO.cons rfl (V1.conv rfl rfl und_5 und_3 rfl lt0 ?_)
   refine VO.cons rfl (V1.assign rfl rfl rfl lt0 ?_)
   refine VO.nil ?_
   exact ⟨((IntKind.i64.wrap (c.Code.getD (Int.toNat c.At) default)), ()), Option.some.inj hm1, Keeps.mk (ks := [0]) rfl ⟨rfl, rfl, trivial⟩ (⟨_, _, rfl, rfl, rfl⟩) rfl⟩
  ·
   replace hm1 := cond_f hc0 hm1
   refine V.skip ?_
   exact ⟨((0 : Int), ()), Option.some.inj hm1, Keeps.mk (ks := [0]) rfl ⟨rfl, rfl, trivial⟩ (⟨_, _, rfl, rfl, rfl⟩) rfl⟩
 ·
  rintro ⟨b_, _⟩ rfl
  try dsimp only at hm0
  refine V.seq ?_
  refine V.region ?_
  refine VO.cons rfl (V1.move rfl rfl rfl lt0 ?_)
  refine VO.cons rfl (V1.nilRef rfl rfl rfl lt0 ?_)
  refine VO.cons rfl (V1.fieldRef rfl rfl fo_77_1 rfl lt0 ?_)
  refine VO.cons rfl (V1.loadRef (k := 0) rfl rfl tyk_3 rfl rfl rfl rfl rfl lt0 ?_)
  refine VO.cons rfl (V1.int rfl rfl rfl rfl rfl lt0 ?_)
  refine VO.cons rfl (V1.nilRef rfl rfl rfl lt0 ?_)
  refine VO.cons rfl (V1.fieldRef rfl rfl fo_77_1 rfl lt0 ?_)
  refine VO.cons rfl (V1.storeRef (k := 0) rfl rfl tyk_3 rfl rfl rfl rfl rfl rfl rfl rfl rfl ?_)
  refine VO.nil ?_
  refine V.keep 62 [0, 3] [0] (E0 := [(0, .ref bp 3 0 0), (3, .int .i64 b_)]) (H0 := [(bp, ⟨3, [.agg [.vl ρ0 1 (List.map encU8 c.Code), .int .i64 (IntKind.i64.wrap (c.At + (1 : Int))), .int .u64 c.Seed]]⟩)]) rfl (⟨_, _, rfl, rfl, _, _, rfl, rfl, rfl⟩) (⟨_, _, rfl, rfl, rfl⟩) rfl ?_
  refine V.seq ?_
  refine V.region ?_
  refine VO.cons rfl (V1.move rfl rfl rfl lt0 ?_)
  refine VO.cons rfl (V1.move rfl rfl rfl lt0 ?_)
  refine VO.cons rfl (V1.nilRef rfl rfl rfl lt0 ?_)
  refine VO.cons rfl (V1.fieldRef rfl rfl fo_77_2 rfl lt0 ?_)
  refine VO.cons rfl (V1.loadRef (k := 0) rfl rfl tyk_75 rfl rfl rfl rfl rfl lt0 ?_)
  refine VO.cons rfl (V1.int rfl rfl rfl rfl rfl lt0 ?_)
  refine VO.cons rfl (V1.move rfl rfl rfl lt0 ?_)
  refine VO.cons rfl (V1.conv rfl rfl und_3 und_75 rfl lt0 ?_)
  refine VO.cons rfl (V1.int rfl rfl rfl rfl rfl lt0 ?_)
  refine VO.cons rfl (V1.int rfl rfl rfl rfl rfl lt0 ?_)
  refine VO.cons rfl (V1.nilRef rfl rfl rfl lt0 ?_)
  refine VO.cons rfl (V1.fieldRef rfl rfl fo_77_2 rfl lt0 ?_)
  refine VO.cons rfl (V1.storeRef (k := 0) rfl rfl tyk_75 rfl rfl rfl rfl rfl rfl rfl rfl rfl ?_)
  refine VO.nil ?_
  refine V.keep 62 [0, 3] [0] (E0 := [(0, .ref bp 3 0 0), (3, .int .i64 b_)]) (H0 := [(bp, ⟨3, [.agg [.vl ρ0 1 (List.map encU8 c.Code), .int .i64 (IntKind.i64.wrap (c.At + (1 : Int))), .int .u64 (IntKind.u64.wrap ((IntKind.u64.wrap ((IntKind.u64.wrap (c.Seed * (6364136223846793005 : Int))) + (IntKind.u64.wrap b_))) + (103535 : Int)))]]⟩)]) rfl (⟨_, _, rfl, rfl, _, _, rfl, rfl, rfl⟩) (⟨_, _, rfl, rfl, rfl⟩) rfl ?_
  refine V.seq ?_
  refine V.seq ?_
  refine V.regionM 62 9 [⟨[(0, none)], [], none⟩, ⟨[(44, some 0)], [], none⟩, ⟨[(45, some 0)], [], none⟩, ⟨[(46, some 0)], [], none⟩, ⟨[(0, none)], [], none⟩, ⟨[(48, some 0)], [], none⟩, ⟨[(49, some 0)], [], none⟩, ⟨[(50, some 0)], [], none⟩, ⟨[(51, some 0)], [], none⟩] [(0, none), (3, none), (47, some 5), (52, some 0)] (⟨_, rfl, ⟨_, rfl, ⟨_, rfl, ⟨_, rfl, ⟨_, rfl, ⟨_, rfl, ⟨_, rfl, ⟨_, rfl, ⟨_, rfl, ⟨rfl, rfl⟩⟩⟩⟩⟩⟩⟩⟩⟩⟩) mixed_orders rfl (by decide +kernel) (fun hck6 => ?_)
  refine VP.step (p := ?pv121) rfl rfl rfl (⟨_, _, rfl, rfl, rfl⟩) ?hv121 ?rest121 hck6
  case hv121 =>
   intro E1
   refine (V1.move rfl rfl rfl lt0 ?_)
   exact rfl
  refine VP.step (p := ?pv122) rfl rfl rfl (⟨_, _, rfl, rfl, rfl⟩) ?hv122 ?rest122 hck6
  case hv122 =>
   intro E1
   refine (V1.nilRef rfl rfl rfl lt0 ?_)
   exact rfl
  refine VP.step (p := ?pv123) rfl rfl rfl (⟨_, _, rfl, rfl, rfl⟩) ?hv123 ?rest123 hck6
  case hv123 =>
   intro E1
   refine (V1.fieldRef rfl rfl fo_77_1 rfl lt0 ?_)
   exact rfl
  refine VP.step (p := ?pv124) rfl rfl rfl (⟨_, _, rfl, rfl, rfl⟩) ?hv124 ?rest124 hck6
  case hv124 =>
   intro E1
   refine (V1.loadRef (k := 0) rfl rfl tyk_3 rfl rfl rfl rfl rfl lt0 ?_)
   exact rfl
  refine VP.step (p := ?pv125) rfl rfl rfl (⟨_, _, rfl, rfl, rfl⟩) ?hv125 ?rest125 hck6
  case hv125 =>
   intro E1
   refine (V1.move rfl rfl rfl lt0 ?_)
   exact rfl
  refine VP.step (p := ?pv126) rfl rfl rfl (⟨_, _, rfl, rfl, rfl⟩) ?hv126 ?rest126 hck6
  case hv126 =>
   intro E1
   refine (V1.nilRef rfl rfl rfl lt0 ?_)
   exact rfl
  refine VP.step (p := ?pv127) rfl rfl rfl (⟨_, _, rfl, rfl, rfl⟩) ?hv127 ?rest127 hck6
  case hv127 =>
   intro E1
   refine (V1.fieldRef rfl rfl fo_77_0 rfl lt0 ?_)
   exact rfl
  refine VP.step (p := ?pv128) rfl rfl rfl (⟨_, _, rfl, rfl, rfl⟩) ?hv128 ?rest128 hck6
  case hv128 =>
   intro E1
   refine (V1.loadRef (k := 0) rfl rfl tyk_22 rfl rfl rfl rfl rfl lt0 ?_)
   exact rfl
  refine VP.step (p := ?pv129) rfl rfl rfl (⟨_, _, rfl, rfl, rfl⟩) ?hv129 ?rest129 hck6
  case hv129 =>
   intro E1
   refine (V1.lenMap rfl rfl rfl rfl rfl rfl isl_22 lt0 ?_)
   exact rfl
  refine VP.fin rfl (⟨_, _, rfl, rfl, _, _, rfl, rfl, _, _, rfl, rfl, _, _, rfl, rfl, rfl⟩) ?_
  refine VO.cons rfl (V1.int rfl rfl rfl rfl rfl lt0 ?_)
  refine VO.nil ?_
  refine V.cond rfl (fun hc1 => ?_) (fun hc1 => ?_)
  ·
   replace hm0 := cond_t hc1 hm0
   refine V.seq ?_
   refine V.region ?_
   refine VO.cons rfl (V1.move rfl rfl rfl lt0 ?_)
   refine VO.cons rfl (V1.assign rfl rfl rfl lt0 ?_)
   refine VO.nil ?_
   refine V.ret ?_
   obtain rfl := Option.some.inj hm0
   exact ⟨_, _, ⟨_, _, rfl, rfl, rfl⟩, (sub1 (k := 0) rfl), rfl, rfl⟩
  ·
   replace hm0 := cond_f hc1 hm0
   refine V.skip ?_
   refine V.keep 62 [0] [0] (E0 := [(0, .ref bp 3 0 0)]) (H0 := [(bp, ⟨3, [.agg [.vl ρ0 1 (List.map encU8 c.Code), .int .i64 (IntKind.i64.wrap (c.At + (1 : Int))), .int .u64 (IntKind.u64.wrap ((IntKind.u64.wrap ((IntKind.u64.wrap (c.Seed * (6364136223846793005 : Int))) + (IntKind.u64.wrap b_))) + (103535 : Int)))]]⟩)]) rfl (⟨_, _, rfl, rfl, rfl⟩) (⟨_, _, rfl, rfl, rfl⟩) rfl ?_
   refine V.seq ?_
   refine V.region ?_
   refine VO.cons rfl (V1.move rfl rfl rfl lt0 ?_)
   refine VO.cons rfl (V1.nilRef rfl rfl rfl lt0 ?_)
   refine VO.cons rfl (V1.fieldRef rfl rfl fo_77_2 rfl lt0 ?_)
   refine VO.cons rfl (V1.loadRef (k := 0) rfl rfl tyk_75 rfl rfl rfl rfl rfl lt0 ?_)
   refine VO.cons rfl (V1.shr rfl rfl rfl rfl (by decide) lt0 ?_)
   refine VO.cons rfl (V1.int rfl rfl rfl rfl rfl lt0 ?_)
   refine VO.cons rfl (V1.conv rfl rfl und_75 und_3 rfl lt0 ?_)
   refine VO.cons rfl (V1.assign rfl rfl rfl lt0 ?_)
   refine VO.nil ?_
   refine V.ret ?_
   obtain rfl := Option.some.inj hm0
   exact ⟨_, _, ⟨_, _, rfl, rfl, rfl⟩, (sub1 (k := 0) rfl), rfl, rfl⟩

theorem ok_spec_l1Cur_pick {ρ0 rn bp : Nat} {c : Cur} {n : Int} {r : Int × Cur} (h : M.spec_l1Cur_pick c n = some r) : Does Tryd.prog 84 [.ref bp 3 0 0, .int .i64 n] [(bp, ⟨3, [encCur ρ0 c]⟩)] rn (fun x H => x = .int .i64 r.1 ∧ H = [(bp, ⟨3, [encCur ρ0 r.2]⟩)]) := by
 have hm0 := h; clear h; unfold M.spec_l1Cur_pick at hm0
 try dsimp only at hm0
 refine Does.intro (N := 20) Tryd.func84 rfl rfl rfl rfl ?_
 intro w0 S0 L0
 refine V.seq ?_
 refine V.region ?_
 refine VO.cons rfl (V1.assign rfl rfl rfl lt0 ?_)
 refine VO.nil ?_
 refine V.seq ?_
 refine V.seq ?_
 refine V.region ?_
 refine VO.cons rfl (V1.move rfl rfl rfl lt0 ?_)
 refine VO.cons rfl (V1.int rfl rfl rfl rfl rfl lt0 ?_)
 refine VO.nil ?_
 refine V.cond rfl (fun hc0 => ?_) (fun hc0 => ?_)
 ·
  replace hm0 := cond_t hc0 hm0
  refine V.seq ?_
  refine V.region ?_
  refine VO.cons rfl (V1.assign rfl rfl rfl lt0 ?_)
  refine VO.nil ?_
  refine V.ret ?_
  obtain rfl := Option.some.inj hm0
  exact ⟨_, _, ⟨_, _, rfl, rfl, rfl⟩, (sub1 (k := 0) rfl), rfl, rfl⟩
 ·
  replace hm0 := cond_f hc0 hm0
  refine V.skip ?_
  refine V.seq ?_
  replace hm0 := bindO hm0; rcases hm0 with ⟨y0, hh0, hm0⟩
  refine V.region ?_
  refine VO.cons rfl (V1.move rfl rfl rfl lt0 ?_)
  refine VO.cons rfl (V1.callM 0 (rn + ρ0 + 1) [] [.ref bp 3 0 0] (p := (bp, ⟨3, [encCur ρ0 c]⟩)) rfl rfl rfl cok_128 rfl rfl ⟨_, _, rfl, .same _, rfl⟩ bwNil (ok_spec_l1Cur_next hh0) rfl (.inl rfl) lt0 ?_)
  rintro _ _ ⟨rfl, rfl⟩
  refine VO.cons rfl (V1.assign rfl rfl rfl lt0 ?_)
  refine VO.nil ?_
  refine V.keep 20 [0, 1, 5] [0] (E0 := [(0, .ref bp 3 0 0), (1, .int .i64 n), (5, .int .i64 y0.1)]) (H0 := [(bp, ⟨3, [encCur ρ0 y0.2]⟩)]) rfl (⟨_, _, rfl, rfl, _, _, rfl, rfl, _, _, rfl, rfl, rfl⟩) (⟨_, _, rfl, rfl, rfl⟩) rfl ?_
  refine V.seq ?_
  replace hm0 := bindO hm0; rcases hm0 with ⟨j0, hm1, hm0⟩
  refine V.cutT (D := (Int × Cur) × (Unit)) (fun ⟨⟨x, c_⟩, _⟩ => ⟨20, [(5, .int .i64 x), (1, .int .i64 n)], [(bp, ⟨3, [encCur ρ0 c_]⟩)]⟩) (fun ⟨⟨x, c_⟩, _⟩ => ((x, c_) = j0)) ?_ ?_
  ·
   refine V.seq ?_
   refine V.region ?_
   refine VO.cons rfl (V1.move rfl rfl rfl lt0 ?_)
   refine VO.cons rfl (V1.int rfl rfl rfl rfl rfl lt0 ?_)
   refine VO.nil ?_
   refine V.cond rfl (fun hc1 => ?_) (fun hc1 => ?_)
   ·
    replace hm1 := cond_t hc1 hm1
    replace hm1 := bindO hm1; rcases hm1 with ⟨y1, hh1, hm1⟩
    refine V.region ?_
    refine VO.cons rfl (V1.move rfl rfl rfl lt0 ?_)
    refine VO.cons rfl (V1.int rfl rfl rfl rfl rfl lt0 ?_)
    refine VO.cons rfl (V1.move rfl rfl rfl lt0 ?_)
    refine VO.cons rfl (V1.callM 0 (rn + ρ0 + 1) [] [.ref bp 3 0 0] (p := (bp, ⟨3, [encCur ρ0 y0.2]⟩)) rfl rfl rfl cok_128 rfl rfl ⟨_, _, rfl, .same _, rfl⟩ bwNil (ok_spec_l1Cur_next hh1) rfl (.inl rfl) lt0 ?_)
    rintro _ _ ⟨rfl, rfl⟩
    refine VO.cons rfl (V1.int rfl rfl rfl rfl rfl lt0 ?_)
    refine VO.cons rfl (V1.assign rfl rfl rfl lt0 ?_)
    refine VO.nil ?_
    exact ⟨(((IntKind.i64.wrap ((IntKind.i64.wrap (y0.1 * (256 : Int))) + y1.1)), y1.2), ()), Option.some.inj hm1, Keeps.mk (ks := [0]) rfl ⟨rfl, rfl, trivial⟩ (⟨_, _, rfl, rfl, rfl⟩) rfl⟩
   ·
    replace hm1 := cond_f hc1 hm1
    refine V.skip ?_
    exact ⟨((y0.1, y0.2), ()), Option.some.inj hm1, Keeps.mk (ks := [0]) rfl ⟨rfl, rfl, trivial⟩ (⟨_, _, rfl, rfl, rfl⟩) rfl⟩
  ·
   rintro ⟨⟨x, c_⟩, _⟩ rfl
   try dsimp only at hm0
   refine V.seq ?_
   replace hm0 := asrt_some hm0; rcases hm0 with ⟨hh2, hm0⟩
   refine V.region ?_
   refine VO.cons rfl (V1.move rfl rfl rfl lt0 ?_)
   refine VO.cons rfl (V1.move rfl rfl rfl lt0 ?_)
   refine VO.cons rfl (V1.rem rfl rfl rfl rfl (hh2) lt0 ?_)
   refine VO.cons rfl (V1.assign rfl rfl rfl lt0 ?_)
   refine VO.nil ?_
   refine V.ret ?_
   obtain rfl := Option.some.inj hm0
   exact ⟨_, _, ⟨_, _, rfl, rfl, rfl⟩, (sub1 (k := 0) rfl), rfl, rfl⟩

theorem ok_spec_l1Cur_among {ρ0 ρ1 rn bp : Nat} {c : Cur} {list : List Int} {r : Int × Cur} (h : M.spec_l1Cur_among c list = some r) : Does Tryd.prog 69 [.ref bp 3 0 0, .vl ρ1 1 (List.map encInt list)] [(bp, ⟨3, [encCur ρ0 c]⟩)] rn (fun x H => x = .int .i64 r.1 ∧ H = [(bp, ⟨3, [encCur ρ0 r.2]⟩)]) := by
 have hm0 := h; clear h; unfold M.spec_l1Cur_among at hm0
 try dsimp only at hm0
 refine Does.intro (N := 12) Tryd.func69 rfl rfl rfl rfl ?_
 intro w0 S0 L0
 refine V.seq ?_
 refine V.region ?_
 refine VO.cons rfl (V1.assign rfl rfl rfl lt0 ?_)
 refine VO.nil ?_
 refine V.seq ?_
 replace hm0 := bindO hm0; rcases hm0 with ⟨y0, hh0, hm0⟩
 replace hm0 := asrt_some hm0; rcases hm0 with ⟨hh1, hm0⟩
 refine V.region ?_
 refine VO.cons rfl (V1.move rfl rfl rfl lt0 ?_)
 refine VO.cons rfl (V1.move rfl rfl rfl lt0 ?_)
 refine VO.cons rfl (V1.move rfl rfl rfl lt0 ?_)
 refine VO.cons rfl (V1.lenMap rfl rfl rfl rfl rfl rfl isl_27 lt0 ?_)
 refine VO.cons rfl (V1.callM 0 (rn + ρ0 + 1) [] [.ref bp 3 0 0, .int .i64 (list.length : Int)] (p := (bp, ⟨3, [encCur ρ0 c]⟩)) rfl rfl rfl cok_84 rfl rfl ⟨_, _, rfl, .same _, ⟨_, _, rfl, .same _, rfl⟩⟩ bwNil (ok_spec_l1Cur_pick hh0) rfl (.inl rfl) lt0 ?_)
 rintro _ _ ⟨rfl, rfl⟩
 refine VO.cons rfl (V1.indexI rfl rfl esz_27 rfl rfl hh1 lt0 ?_)
 refine VO.cons rfl (V1.loadPin rfl rfl tyk_3 rfl rfl lt0 ?_)
 refine VO.cons rfl (V1.assign rfl rfl rfl lt0 ?_)
 refine VO.nil ?_
 refine V.ret ?_
 obtain rfl := Option.some.inj hm0
 exact ⟨_, _, ⟨_, _, rfl, rfl, rfl⟩, (sub1 (k := 0) rfl), rfl, rfl⟩

theorem ok_spec_l1Cur_one {ρ0 rn bp : Nat} {c : Cur} {n : Int} {r : Bool × Cur} (h : M.spec_l1Cur_one c n = some r) : Does Tryd.prog 108 [.ref bp 3 0 0, .int .i64 n] [(bp, ⟨3, [encCur ρ0 c]⟩)] rn (fun x H => x = .bool r.1 ∧ H = [(bp, ⟨3, [encCur ρ0 r.2]⟩)]) := by
 have hm0 := h; clear h; unfold M.spec_l1Cur_one at hm0
 try dsimp only at hm0
 refine Does.intro (N := 9) Tryd.func108 rfl rfl rfl rfl ?_
 intro w0 S0 L0
 refine V.seq ?_
 refine V.region ?_
 refine VO.cons rfl (V1.assign rfl rfl rfl lt0 ?_)
 refine VO.nil ?_
 refine V.seq ?_
 replace hm0 := bindO hm0; rcases hm0 with ⟨y0, hh0, hm0⟩
 refine V.region ?_
 refine VO.cons rfl (V1.move rfl rfl rfl lt0 ?_)
 refine VO.cons rfl (V1.move rfl rfl rfl lt0 ?_)
 refine VO.cons rfl (V1.callM 0 (rn + ρ0 + 1) [] [.ref bp 3 0 0, .int .i64 n] (p := (bp, ⟨3, [encCur ρ0 c]⟩)) rfl rfl rfl cok_84 rfl rfl ⟨_, _, rfl, .same _, ⟨_, _, rfl, .same _, rfl⟩⟩ bwNil (ok_spec_l1Cur_pick hh0) rfl (.inl rfl) lt0 ?_)
 rintro _ _ ⟨rfl, rfl⟩
 refine VO.cons rfl (V1.int rfl rfl rfl rfl rfl lt0 ?_)
 refine VO.cons rfl (V1.assign rfl rfl rfl lt0 ?_)
 refine VO.nil ?_
 refine V.ret ?_
 obtain rfl := Option.some.inj hm0
 exact ⟨_, _, ⟨_, _, rfl, rfl, rfl⟩, (sub1 (k := 0) rfl), rfl, rfl⟩

theorem ok_spec_l1Cur_of {ρ0 ρ1 rn bp : Nat} {c : Cur} {list : List (List UInt8)} {r : List UInt8 × Cur} (h : M.spec_l1Cur_of c list = some r) : Does Tryd.prog 70 [.ref bp 3 0 0, .vl ρ1 1 (List.map Go.VS.encStr list)] [(bp, ⟨3, [encCur ρ0 c]⟩)] rn (fun x H => x = .str r.1 ∧ H = [(bp, ⟨3, [encCur ρ0 r.2]⟩)]) := by
 have hm0 := h; clear h; unfold M.spec_l1Cur_of at hm0
 try dsimp only at hm0
 refine Does.intro (N := 12) Tryd.func70 rfl rfl rfl rfl ?_
 intro w0 S0 L0
 refine V.seq ?_
 refine V.region ?_
 refine VO.cons rfl (V1.assign rfl rfl rfl lt0 ?_)
 refine VO.nil ?_
 refine V.seq ?_
 replace hm0 := bindO hm0; rcases hm0 with ⟨y0, hh0, hm0⟩
 replace hm0 := asrt_some hm0; rcases hm0 with ⟨hh1, hm0⟩
 refine V.region ?_
 refine VO.cons rfl (V1.move rfl rfl rfl lt0 ?_)
 refine VO.cons rfl (V1.move rfl rfl rfl lt0 ?_)
 refine VO.cons rfl (V1.move rfl rfl rfl lt0 ?_)
 refine VO.cons rfl (V1.lenMap rfl rfl rfl rfl rfl rfl isl_93 lt0 ?_)
 refine VO.cons rfl (V1.callM 0 (rn + ρ0 + 1) [] [.ref bp 3 0 0, .int .i64 (list.length : Int)] (p := (bp, ⟨3, [encCur ρ0 c]⟩)) rfl rfl rfl cok_84 rfl rfl ⟨_, _, rfl, .same _, ⟨_, _, rfl, .same _, rfl⟩⟩ bwNil (ok_spec_l1Cur_pick hh0) rfl (.inl rfl) lt0 ?_)
 rintro _ _ ⟨rfl, rfl⟩
 refine VO.cons rfl (V1.indexI rfl rfl esz_93 rfl rfl hh1 lt0 ?_)
 refine VO.cons rfl (V1.loadPin rfl rfl tyk_9 rfl rfl lt0 ?_)
 refine VO.cons rfl (V1.assign rfl rfl rfl lt0 ?_)
 refine VO.nil ?_
 refine V.ret ?_
 obtain rfl := Option.some.inj hm0
 exact ⟨_, _, ⟨_, _, rfl, rfl, rfl⟩, (sub1 (k := 0) rfl), rfl, rfl⟩

theorem ok_spec_l1Cur_formats {ρ0 rn bp : Nat} {c : Cur} {r : List Format × Cur} (h : M.spec_l1Cur_formats c = some r) : Does Tryd.prog 50 [.ref bp 3 0 0] [(bp, ⟨3, [encCur ρ0 c]⟩)] rn (fun x H => ∃ (ob0_ : Nat), x = PV.sref ob0_ 4 0 (List.length r.1) ∧ H = [(ob0_, ⟨4, List.map (encFormat rn) r.1⟩)] ++ [(bp, ⟨3, [encCur ρ0 r.2]⟩)]) := by
 have hm0 := h; clear h; unfold M.spec_l1Cur_formats at hm0
 try dsimp only at hm0
 refine Does.intro (N := 142) Tryd.func50 rfl rfl rfl rfl ?_
 intro w0 S0 L0
 refine V.seq ?_
 refine V.region ?_
 refine VO.cons rfl (V1.assign rfl rfl rfl lt0 ?_)
 refine VO.nil ?_
 refine V.seq ?_
 refine V.region ?_
 refine VO.cons rfl (V1.buildSliceT (f := (encFormat rn)) ([] : List Format) rfl rfl esz_24 zk_34 rfl rfl rfl rfl rfl rfl rfl lt0 ?_)
 intro b0
 refine VO.cons rfl (V1.assign rfl rfl rfl lt0 ?_)
 refine VO.nil ?_
 refine V.seq ?_
 refine V.region ?_
 refine VO.cons rfl (V1.assign rfl rfl rfl lt0 ?_)
 refine VO.nil ?_
 refine V.seq ?_
 refine V.seq ?_
 replace hm0 := bindO hm0; rcases hm0 with ⟨y0, hh0, hm0⟩
 refine V.region ?_
 refine VO.cons rfl (V1.move rfl rfl rfl lt0 ?_)
 refine VO.cons rfl (V1.callM 1 (rn + ρ0 + 1) [] [.ref bp 3 0 0, .int .i64 (7 : Int)] (p := (bp, ⟨3, [encCur ρ0 c]⟩)) rfl rfl rfl cok_84 rfl rfl ⟨_, _, rfl, .same _, ⟨_, _, rfl, .same _, rfl⟩⟩ bwNil (ok_spec_l1Cur_pick hh0) rfl (.inl rfl) lt0 ?_)
 rintro _ _ ⟨rfl, rfl⟩
 refine VO.cons rfl (V1.assign rfl rfl rfl lt0 ?_)
 refine VO.nil ?_
 refine V.keep 142 [0, 3, 4, 5] [0, 1] (E0 := [(0, .ref bp 3 0 0), (3, .sref b0 4 0 (List.length ([] : List Format))), (4, .int .i64 (0 : Int)), (5, .int .i64 y0.1)]) (H0 := [(bp, ⟨3, [encCur ρ0 y0.2]⟩), (b0, ⟨4, List.map (encFormat rn) ([] : List Format)⟩)]) rfl (⟨_, _, rfl, rfl, _, _, rfl, rfl, _, _, rfl, rfl, _, _, rfl, rfl, rfl⟩) (⟨_, _, rfl, rfl, _, _, rfl, rfl, rfl⟩) rfl ?_
 replace hm0 := bindO hm0; rcases hm0 with ⟨e0, he1, hm0⟩
 refine V.cutT (D := (List Format × Int × Cur) × (Nat)) (fun ⟨⟨out_, id_, c_⟩, b1⟩ => ⟨142, [(3, .sref b1 4 0 (List.length out_)), (4, .int .i64 id_), (0, .ref bp 3 0 0)], [(b1, ⟨4, List.map (encFormat rn) out_⟩), (bp, ⟨3, [encCur ρ0 c_]⟩)]⟩) (fun ⟨⟨out_, id_, c_⟩, b1⟩ => ((out_, id_, c_) = e0)) ?_ ?_
 ·
  refine V.block ?_
  refine V.keep 142 [3, 4, 5, 0] [1, 0] (E0 := [(3, .sref b0 4 0 (List.length ([] : List Format))), (4, .int .i64 (0 : Int)), (5, .int .i64 y0.1), (0, .ref bp 3 0 0)]) (H0 := [(b0, ⟨4, List.map (encFormat rn) ([] : List Format)⟩), (bp, ⟨3, [encCur ρ0 y0.2]⟩)]) rfl (⟨_, _, rfl, rfl, _, _, rfl, rfl, _, _, rfl, rfl, _, _, rfl, rfl, rfl⟩) (⟨_, _, rfl, rfl, _, _, rfl, rfl, rfl⟩) rfl ?_
  refine V.loopE (D := Nat × (List Format × Int × Int × Cur) × (Nat)) (fun ⟨n0, ⟨out_0, id_0, n_, c_0⟩, b2⟩ => [(3, .sref b2 4 0 (List.length out_0)), (4, .int .i64 id_0), (5, .int .i64 n_)]) (fun ⟨n0, ⟨out_0, id_0, n_, c_0⟩, b2⟩ => [(b2, ⟨4, List.map (encFormat rn) out_0⟩), (bp, ⟨3, [encCur ρ0 c_0]⟩)]) (fun ⟨n0, ⟨out_0, id_0, n_, c_0⟩, b2⟩ => loopO (M.spec_l1Cur_formats_l0) n0 (out_0, id_0, n_, c_0) = some e0) (fun ⟨n0, _, _⟩ => n0) (rounds, (([] : List Format), (0 : Int), y0.1, y0.2), b0) rfl he1 ?_
  rintro ⟨n0, ⟨out_0, id_0, n_, c_0⟩, b2⟩ hP0
  obtain ⟨m0, y1, rfl, hm1, hl1, hr1⟩ := loop_head hP0
  unfold M.spec_l1Cur_formats_l0 at hm1; dsimp only at hm1
  show V _ _ _ ⟨142, [(3, .sref b2 4 0 (List.length out_0)), (4, .int .i64 id_0), (5, .int .i64 n_), (0, .ref bp 3 0 0)], [(b2, ⟨4, List.map (encFormat rn) out_0⟩), (bp, ⟨3, [encCur ρ0 c_0]⟩)]⟩
  refine V.seq ?_
  refine V.seq ?_
  refine V.region ?_
  refine VO.cons rfl (V1.move rfl rfl rfl lt0 ?_)
  refine VO.cons rfl (V1.int rfl rfl rfl rfl rfl lt0 ?_)
  refine VO.nil ?_
  refine V.cond rfl (fun hc0 => ?_) (fun hc0 => ?_)
  ·
   replace hm1 := cond_t hc0 hm1
   refine V.skip ?_
   refine V.seq ?_
   refine V.block ?_
   refine V.seq ?_
   replace hm1 := bindO hm1; rcases hm1 with ⟨y2, hh1, hm1⟩
   refine V.region ?_
   refine VO.cons rfl (V1.move rfl rfl rfl lt0 ?_)
   refine VO.cons rfl (V1.int rfl rfl rfl rfl rfl lt0 ?_)
   refine VO.cons rfl (V1.move rfl rfl rfl lt0 ?_)
   refine VO.cons rfl (V1.callM 1 (rn + ρ0 + 1) [] [.ref bp 3 0 0, .int .i64 (2 : Int)] (p := (bp, ⟨3, [encCur ρ0 c_0]⟩)) rfl rfl rfl cok_84 rfl rfl ⟨_, _, rfl, .same _, ⟨_, _, rfl, .same _, rfl⟩⟩ bwNil (ok_spec_l1Cur_pick hh1) rfl (.inl rfl) lt0 ?_)
   rintro _ _ ⟨rfl, rfl⟩
   refine VO.cons rfl (V1.int rfl rfl rfl rfl rfl lt0 ?_)
   refine VO.cons rfl (V1.assign rfl rfl rfl lt0 ?_)
   refine VO.nil ?_
   refine V.keep 142 [0, 3, 4, 5] [0, 1] (E0 := [(0, .ref bp 3 0 0), (3, .sref b2 4 0 (List.length out_0)), (4, .int .i64 (IntKind.i64.wrap ((IntKind.i64.wrap (id_0 + (1 : Int))) + y2.1))), (5, .int .i64 n_)]) (H0 := [(bp, ⟨3, [encCur ρ0 y2.2]⟩), (b2, ⟨4, List.map (encFormat rn) out_0⟩)]) rfl (⟨_, _, rfl, rfl, _, _, rfl, rfl, _, _, rfl, rfl, _, _, rfl, rfl, rfl⟩) (⟨_, _, rfl, rfl, _, _, rfl, rfl, rfl⟩) rfl ?_
   refine V.seq ?_
   replace hm1 := bindO hm1; rcases hm1 with ⟨y3, hh2, hm1⟩
   replace hm1 := bindO hm1; rcases hm1 with ⟨j0, hm2, hm1⟩
   refine V.cutT (D := (Cur) × (Nat)) (fun ⟨c_1, b6⟩ => ⟨142, [(6, .ref b6 4 0 0), (0, .ref bp 3 0 0), (3, .sref b2 4 0 (List.length out_0)), (4, .int .i64 (IntKind.i64.wrap ((IntKind.i64.wrap (id_0 + (1 : Int))) + y2.1))), (5, .int .i64 n_)], [(b6, ⟨4, [.agg [.int .i64 (IntKind.i64.wrap ((IntKind.i64.wrap (id_0 + (1 : Int))) + y2.1)), .str (toBytes ([(IntKind.u8.wrap (IntKind.i64.wrap ((97 : Int) + (out_0.length : Int)))), (120 : Int)] : List Int)), .int .i64 y3.1, .nils]]⟩), (bp, ⟨3, [encCur ρ0 c_1]⟩), (b2, ⟨4, List.map (encFormat rn) out_0⟩)]⟩) (fun ⟨c_1, b6⟩ => (c_1 = j0)) ?_ ?_
   ·
    refine V.regionS [] 142 12 [⟨[(4, none)], false⟩, ⟨[(3, none)], false⟩, ⟨[(23, some 1)], false⟩, ⟨[(24, some 2)], false⟩, ⟨[(25, some 3)], false⟩, ⟨[(26, some 4)], true⟩, ⟨[(27, some 5)], true⟩, ⟨[(0, none)], false⟩, ⟨[], true⟩, ⟨[(29, some 7), (30, some 8)], true⟩, ⟨[(22, some 0), (28, some 6), (31, some 9)], false⟩, ⟨[], true⟩] [(0, none), (3, none), (4, none), (5, none), (6, some 11), (32, some 10)] 5 (⟨_, rfl, ⟨_, rfl, ⟨_, rfl, ⟨_, rfl, ⟨_, rfl, ⟨_, rfl, ⟨_, rfl, ⟨_, rfl, ⟨_, rfl, ⟨_, rfl, ⟨_, rfl, ⟨_, rfl, ⟨rfl, rfl⟩⟩⟩⟩⟩⟩⟩⟩⟩⟩⟩⟩⟩) mixed_orders rfl (by decide +kernel) ?_
    refine WalkP.step (p := ?pv3858) 0 rfl rfl rfl rfl rfl (⟨_, _, rfl, rfl, rfl⟩) ?hv3858 ?rest3858
    case hv3858 =>
     intro E1 H1 hI1
     refine (V1.move rfl rfl rfl lt0 ?_)
     exact rfl
    refine WalkP.step (p := ?pv3859) 1 rfl rfl rfl rfl rfl (⟨_, _, rfl, rfl, rfl⟩) ?hv3859 ?rest3859
    case hv3859 =>
     intro E1 H1 hI1
     refine (V1.move rfl rfl rfl lt0 ?_)
     exact rfl
    refine WalkP.step (p := ?pv3860) 2 rfl rfl rfl rfl rfl (⟨_, _, rfl, rfl, rfl⟩) ?hv3860 ?rest3860
    case hv3860 =>
     intro E1 H1 hI1
     refine (V1.lenSref rfl rfl rfl rfl rfl rfl isl_24 lt0 ?_)
     exact rfl
    refine WalkP.step (p := ?pv3861) 3 rfl rfl rfl rfl rfl (⟨_, _, rfl, rfl, rfl⟩) ?hv3861 ?rest3861
    case hv3861 =>
     intro E1 H1 hI1
     refine (V1.int rfl rfl rfl rfl rfl lt0 ?_)
     exact rfl
    refine WalkP.step (p := ?pv3862) 4 rfl rfl rfl rfl rfl (⟨_, _, rfl, rfl, rfl⟩) ?hv3862 ?rest3862
    case hv3862 =>
     intro E1 H1 hI1
     refine (V1.conv rfl rfl und_3 und_5 rfl lt0 ?_)
     exact rfl
    refine WalkP.step (p := ?pv3863) 7 rfl rfl rfl rfl rfl (⟨_, _, rfl, rfl, rfl⟩) ?hv3863 ?rest3863
    case hv3863 =>
     intro E1 H1 hI1
     refine (V1.move rfl rfl rfl lt0 ?_)
     exact rfl
    refine WalkP.nil ?_
    refine NodeS.branch [5, 8, 11] inNil rfl rfl rfl ⟨?_, ?_, ?_, trivial⟩
    ·
     refine ⟨_, _, _, _, rfl, rfl, rfl, (⟨_, _, rfl, rfl, rfl⟩), fun E1 => ?_⟩
     refine (V1.buildSliceT (f := encU8) ([(IntKind.u8.wrap (IntKind.i64.wrap ((97 : Int) + (out_0.length : Int)))), (120 : Int)] : List Int) rfl rfl esz_22 zk_5 rfl rfl rfl rfl rfl rfl rfl lt0 ?_)
     intro b7
     refine ⟨_, _, rfl, ?_⟩
     refine WalkP.nil ?_
     refine NodeS.branch [6, 8, 11] inNil rfl rfl rfl ⟨?_, ?_, ?_, trivial⟩
     ·
      refine ⟨_, _, _, _, rfl, rfl, rfl, (⟨_, _, rfl, rfl, rfl⟩), fun E1 => ?_⟩
      refine (V1.convStrOwn (k := 0) (l := ([(IntKind.u8.wrap (IntKind.i64.wrap ((97 : Int) + (out_0.length : Int)))), (120 : Int)] : List Int)) rfl rfl usl_22 und_5 (isStr_spec istr_9) rfl rfl lt0 ?_)
      refine ⟨_, _, rfl, ?_⟩
      refine WalkP.nil ?_
      refine NodeS.branch [8, 11] inNil rfl rfl rfl ⟨?_, ?_, trivial⟩
      ·
       refine ⟨_, _, _, _, rfl, rfl, rfl, (rfl), fun E1 => ?_⟩
       refine (V1.buildSliceT (f := encInt) ([(0 : Int), (100 : Int), (100 : Int), (900 : Int), (20000 : Int)] : List Int) rfl rfl esz_27 zk_3 rfl rfl rfl rfl rfl rfl rfl lt0 ?_)
       intro b8
       refine ⟨_, _, rfl, ?_⟩
       refine WalkP.nil ?_
       refine NodeS.branch [9, 11] inNil rfl rfl rfl ⟨?_, ?_, trivial⟩
       ·
        refine ⟨_, _, _, _, rfl, rfl, rfl, (⟨_, _, rfl, rfl, _, _, rfl, rfl, rfl⟩), fun E1 => ?_⟩
        refine (V1.callM 2 (rn + ρ0 + 1) [b8] [.ref bp 3 0 0, .vl (rn + ρ0 + 1) 1 (List.map encInt ([(0 : Int), (100 : Int), (100 : Int), (900 : Int), (20000 : Int)] : List Int))] (p := (bp, ⟨3, [encCur ρ0 y2.2]⟩)) rfl rfl rfl cok_69 rfl rfl ⟨_, _, rfl, .same _, ⟨_, _, rfl, Lend.srMap 0 rfl (fun _ => rfl) (.head _), rfl⟩⟩ (bwCons (k := 0) rfl bwNil) (ok_spec_l1Cur_among hh2) rfl (.inr ⟨(by first | omega | (dsimp only; omega)), by rintro _ _ ⟨rfl, rfl⟩; exact ⟨by simp [PV.no, PV.noL, optS_no, noL_iff, nbeq] <;> omega, by intro b ob h; first | exact optH_no (noL_map (fun _ => by simp [PV.no, PV.noL, noL_iff, nbeq]) _) b ob h | (simp only [List.append_assoc, List.mem_append, List.mem_cons, List.mem_singleton, List.not_mem_nil, or_false, Prod.mk.injEq] at h; rcases h with ⟨rfl, rfl⟩ | ⟨rfl, rfl⟩ <;> first | exact noL_map (fun _ => by simp [PV.no, PV.noL, noL_iff, nbeq]) _ | (simp [PV.no, PV.noL, optS_no, noL_iff, nbeq] <;> omega)) | (simp at h; obtain ⟨rfl, rfl⟩ := h; exact noL_map (fun _ => by simp [PV.no, PV.noL, noL_iff, nbeq]) _) | (simp at h; obtain ⟨rfl, rfl⟩ := h; simp [PV.no, PV.noL, optS_no, noL_iff, nbeq] <;> omega)⟩⟩) lt0 ?_)
        rintro _ _ ⟨rfl, rfl⟩
        refine ⟨_, _, rfl, ?_⟩
        refine WalkP.step (p := ?pv3865) 10 rfl rfl rfl rfl rfl (⟨_, _, rfl, rfl, _, _, rfl, rfl, _, _, rfl, rfl, rfl⟩) ?hv3865 ?rest3865
        case hv3865 =>
         intro E1 H1 hI1
         refine (V1.build rfl rfl zk_34 pl_34 rfl rfl lt0 ?_)
         exact rfl
        refine WalkP.nil ?_
        refine NodeS.branch [11] inNil rfl rfl rfl ⟨?_, trivial⟩
        ·
         refine ⟨_, _, _, _, rfl, rfl, rfl, (rfl), fun E1 => ?_⟩
         refine (V1.alloc rfl rfl zk_34 lt0 ?_)
         intro b9
         refine ⟨_, _, rfl, ?_⟩
         refine WalkP.nil ?_
         refine NodeS.fin inNil rfl rfl rfl (⟨_, _, rfl, rfl, _, _, rfl, rfl, _, _, rfl, rfl, _, _, rfl, rfl, _, _, rfl, rfl, _, _, rfl, rfl, rfl⟩) ?_
         refine VO.cons rfl (V1.storeRefAll (k := 0) rfl rfl tyk_34 rfl rfl rfl rfl rfl rfl ?_)
         refine VO.nil ?_
         exact ⟨(y3.2, b9), Option.some.inj hm2, Keeps.mk (ks := [0, 1, 4]) rfl ⟨rfl, rfl, rfl, rfl, rfl, trivial⟩ (⟨_, _, rfl, rfl, _, _, rfl, rfl, _, _, rfl, rfl, rfl⟩) rfl⟩
       ·
        refine ⟨_, _, _, _, rfl, rfl, rfl, (rfl), fun E1 => ?_⟩
        refine (V1.alloc rfl rfl zk_34 lt0 ?_)
        intro b10
        refine ⟨_, _, rfl, ?_⟩
        refine WalkP.nil ?_
        refine NodeS.branch [9] inNil rfl rfl rfl ⟨?_, trivial⟩
        ·
         refine ⟨_, _, _, _, rfl, rfl, rfl, (⟨_, _, rfl, rfl, _, _, rfl, rfl, rfl⟩), fun E1 => ?_⟩
         refine (V1.callM 3 (rn + ρ0 + 1) [b8] [.ref bp 3 0 0, .vl (rn + ρ0 + 1) 1 (List.map encInt ([(0 : Int), (100 : Int), (100 : Int), (900 : Int), (20000 : Int)] : List Int))] (p := (bp, ⟨3, [encCur ρ0 y2.2]⟩)) rfl rfl rfl cok_69 rfl rfl ⟨_, _, rfl, .same _, ⟨_, _, rfl, Lend.srMap 1 rfl (fun _ => rfl) (.head _), rfl⟩⟩ (bwCons (k := 1) rfl bwNil) (ok_spec_l1Cur_among hh2) rfl (.inr ⟨(by first | omega | (dsimp only; omega)), by rintro _ _ ⟨rfl, rfl⟩; exact ⟨by simp [PV.no, PV.noL, optS_no, noL_iff, nbeq] <;> omega, by intro b ob h; first | exact optH_no (noL_map (fun _ => by simp [PV.no, PV.noL, noL_iff, nbeq]) _) b ob h | (simp only [List.append_assoc, List.mem_append, List.mem_cons, List.mem_singleton, List.not_mem_nil, or_false, Prod.mk.injEq] at h; rcases h with ⟨rfl, rfl⟩ | ⟨rfl, rfl⟩ <;> first | exact noL_map (fun _ => by simp [PV.no, PV.noL, noL_iff, nbeq]) _ | (simp [PV.no, PV.noL, optS_no, noL_iff, nbeq] <;> omega)) | (simp at h; obtain ⟨rfl, rfl⟩ := h; exact noL_map (fun _ => by simp [PV.no, PV.noL, noL_iff, nbeq]) _) | (simp at h; obtain ⟨rfl, rfl⟩ := h; simp [PV.no, PV.noL, optS_no, noL_iff, nbeq] <;> omega)⟩⟩) lt0 ?_)
         rintro _ _ ⟨rfl, rfl⟩
         refine ⟨_, _, rfl, ?_⟩
         refine WalkP.step (p := ?pv3867) 10 rfl rfl rfl rfl rfl (⟨_, _, rfl, rfl, _, _, rfl, rfl, _, _, rfl, rfl, rfl⟩) ?hv3867 ?rest3867
         case hv3867 =>
          intro E1 H1 hI1
          refine (V1.build rfl rfl zk_34 pl_34 rfl rfl lt0 ?_)
          exact rfl
         refine WalkP.nil ?_
         refine NodeS.fin inNil rfl rfl rfl (⟨_, _, rfl, rfl, _, _, rfl, rfl, _, _, rfl, rfl, _, _, rfl, rfl, _, _, rfl, rfl, _, _, rfl, rfl, rfl⟩) ?_
         refine VO.cons rfl (V1.storeRefAll (k := 1) rfl rfl tyk_34 rfl rfl rfl rfl rfl rfl ?_)
         refine VO.nil ?_
         exact ⟨(y3.2, b10), Option.some.inj hm2, Keeps.mk (ks := [1, 0, 4]) rfl ⟨rfl, rfl, rfl, rfl, rfl, trivial⟩ (⟨_, _, rfl, rfl, _, _, rfl, rfl, _, _, rfl, rfl, rfl⟩) rfl⟩
      ·
       refine ⟨_, _, _, _, rfl, rfl, rfl, (rfl), fun E1 => ?_⟩
       refine (V1.alloc rfl rfl zk_34 lt0 ?_)
       intro b11
       refine ⟨_, _, rfl, ?_⟩
       refine WalkP.nil ?_
       refine NodeS.branch [8] inNil rfl rfl rfl ⟨?_, trivial⟩
       ·
        refine ⟨_, _, _, _, rfl, rfl, rfl, (rfl), fun E1 => ?_⟩
        refine (V1.buildSliceT (f := encInt) ([(0 : Int), (100 : Int), (100 : Int), (900 : Int), (20000 : Int)] : List Int) rfl rfl esz_27 zk_3 rfl rfl rfl rfl rfl rfl rfl lt0 ?_)
        intro b12
        refine ⟨_, _, rfl, ?_⟩
        refine WalkP.nil ?_
        refine NodeS.branch [9] inNil rfl rfl rfl ⟨?_, trivial⟩
        ·
         refine ⟨_, _, _, _, rfl, rfl, rfl, (⟨_, _, rfl, rfl, _, _, rfl, rfl, rfl⟩), fun E1 => ?_⟩
         refine (V1.callM 3 (rn + ρ0 + 1) [b12] [.ref bp 3 0 0, .vl (rn + ρ0 + 1) 1 (List.map encInt ([(0 : Int), (100 : Int), (100 : Int), (900 : Int), (20000 : Int)] : List Int))] (p := (bp, ⟨3, [encCur ρ0 y2.2]⟩)) rfl rfl rfl cok_69 rfl rfl ⟨_, _, rfl, .same _, ⟨_, _, rfl, Lend.srMap 0 rfl (fun _ => rfl) (.head _), rfl⟩⟩ (bwCons (k := 0) rfl bwNil) (ok_spec_l1Cur_among hh2) rfl (.inr ⟨(by first | omega | (dsimp only; omega)), by rintro _ _ ⟨rfl, rfl⟩; exact ⟨by simp [PV.no, PV.noL, optS_no, noL_iff, nbeq] <;> omega, by intro b ob h; first | exact optH_no (noL_map (fun _ => by simp [PV.no, PV.noL, noL_iff, nbeq]) _) b ob h | (simp only [List.append_assoc, List.mem_append, List.mem_cons, List.mem_singleton, List.not_mem_nil, or_false, Prod.mk.injEq] at h; rcases h with ⟨rfl, rfl⟩ | ⟨rfl, rfl⟩ <;> first | exact noL_map (fun _ => by simp [PV.no, PV.noL, noL_iff, nbeq]) _ | (simp [PV.no, PV.noL, optS_no, noL_iff, nbeq] <;> omega)) | (simp at h; obtain ⟨rfl, rfl⟩ := h; exact noL_map (fun _ => by simp [PV.no, PV.noL, noL_iff, nbeq]) _) | (simp at h; obtain ⟨rfl, rfl⟩ := h; simp [PV.no, PV.noL, optS_no, noL_iff, nbeq] <;> omega)⟩⟩) lt0 ?_)
         rintro _ _ ⟨rfl, rfl⟩
         refine ⟨_, _, rfl, ?_⟩
         refine WalkP.step (p := ?pv3869) 10 rfl rfl rfl rfl rfl (⟨_, _, rfl, rfl, _, _, rfl, rfl, _, _, rfl, rfl, rfl⟩) ?hv3869 ?rest3869
         case hv3869 =>
          intro E1 H1 hI1
          refine (V1.build rfl rfl zk_34 pl_34 rfl rfl lt0 ?_)
          exact rfl
         refine WalkP.nil ?_
         refine NodeS.fin inNil rfl rfl rfl (⟨_, _, rfl, rfl, _, _, rfl, rfl, _, _, rfl, rfl, _, _, rfl, rfl, _, _, rfl, rfl, _, _, rfl, rfl, rfl⟩) ?_
         refine VO.cons rfl (V1.storeRefAll (k := 2) rfl rfl tyk_34 rfl rfl rfl rfl rfl rfl ?_)
         refine VO.nil ?_
         exact ⟨(y3.2, b11), Option.some.inj hm2, Keeps.mk (ks := [2, 0, 4]) rfl ⟨rfl, rfl, rfl, rfl, rfl, trivial⟩ (⟨_, _, rfl, rfl, _, _, rfl, rfl, _, _, rfl, rfl, rfl⟩) rfl⟩
     ·
      refine ⟨_, _, _, _, rfl, rfl, rfl, (rfl), fun E1 => ?_⟩
      refine (V1.buildSliceT (f := encInt) ([(0 : Int), (100 : Int), (100 : Int), (900 : Int), (20000 : Int)] : List Int) rfl rfl esz_27 zk_3 rfl rfl rfl rfl rfl rfl rfl lt0 ?_)
      intro b13
      refine ⟨_, _, rfl, ?_⟩
      refine WalkP.nil ?_
      refine NodeS.branch [6, 9, 11] inNil rfl rfl rfl ⟨?_, ?_, ?_, trivial⟩
      ·
       refine ⟨_, _, _, _, rfl, rfl, rfl, (⟨_, _, rfl, rfl, rfl⟩), fun E1 => ?_⟩
       refine (V1.convStrOwn (k := 1) (l := ([(IntKind.u8.wrap (IntKind.i64.wrap ((97 : Int) + (out_0.length : Int)))), (120 : Int)] : List Int)) rfl rfl usl_22 und_5 (isStr_spec istr_9) rfl rfl lt0 ?_)
       refine ⟨_, _, rfl, ?_⟩
       refine WalkP.nil ?_
       refine NodeS.branch [9, 11] inNil rfl rfl rfl ⟨?_, ?_, trivial⟩
       ·
        refine ⟨_, _, _, _, rfl, rfl, rfl, (⟨_, _, rfl, rfl, _, _, rfl, rfl, rfl⟩), fun E1 => ?_⟩
        refine (V1.callM 2 (rn + ρ0 + 1) [b13] [.ref bp 3 0 0, .vl (rn + ρ0 + 1) 1 (List.map encInt ([(0 : Int), (100 : Int), (100 : Int), (900 : Int), (20000 : Int)] : List Int))] (p := (bp, ⟨3, [encCur ρ0 y2.2]⟩)) rfl rfl rfl cok_69 rfl rfl ⟨_, _, rfl, .same _, ⟨_, _, rfl, Lend.srMap 0 rfl (fun _ => rfl) (.head _), rfl⟩⟩ (bwCons (k := 0) rfl bwNil) (ok_spec_l1Cur_among hh2) rfl (.inr ⟨(by first | omega | (dsimp only; omega)), by rintro _ _ ⟨rfl, rfl⟩; exact ⟨by simp [PV.no, PV.noL, optS_no, noL_iff, nbeq] <;> omega, by intro b ob h; first | exact optH_no (noL_map (fun _ => by simp [PV.no, PV.noL, noL_iff, nbeq]) _) b ob h | (simp only [List.append_assoc, List.mem_append, List.mem_cons, List.mem_singleton, List.not_mem_nil, or_false, Prod.mk.injEq] at h; rcases h with ⟨rfl, rfl⟩ | ⟨rfl, rfl⟩ <;> first | exact noL_map (fun _ => by simp [PV.no, PV.noL, noL_iff, nbeq]) _ | (simp [PV.no, PV.noL, optS_no, noL_iff, nbeq] <;> omega)) | (simp at h; obtain ⟨rfl, rfl⟩ := h; exact noL_map (fun _ => by simp [PV.no, PV.noL, noL_iff, nbeq]) _) | (simp at h; obtain ⟨rfl, rfl⟩ := h; simp [PV.no, PV.noL, optS_no, noL_iff, nbeq] <;> omega)⟩⟩) lt0 ?_)
        rintro _ _ ⟨rfl, rfl⟩
        refine ⟨_, _, rfl, ?_⟩
        refine WalkP.step (p := ?pv3871) 10 rfl rfl rfl rfl rfl (⟨_, _, rfl, rfl, _, _, rfl, rfl, _, _, rfl, rfl, rfl⟩) ?hv3871 ?rest3871
        case hv3871 =>
         intro E1 H1 hI1
         refine (V1.build rfl rfl zk_34 pl_34 rfl rfl lt0 ?_)
         exact rfl
        refine WalkP.nil ?_
        refine NodeS.branch [11] inNil rfl rfl rfl ⟨?_, trivial⟩
        ·
         refine ⟨_, _, _, _, rfl, rfl, rfl, (rfl), fun E1 => ?_⟩
         refine (V1.alloc rfl rfl zk_34 lt0 ?_)
         intro b14
         refine ⟨_, _, rfl, ?_⟩
         refine WalkP.nil ?_
         refine NodeS.fin inNil rfl rfl rfl (⟨_, _, rfl, rfl, _, _, rfl, rfl, _, _, rfl, rfl, _, _, rfl, rfl, _, _, rfl, rfl, _, _, rfl, rfl, rfl⟩) ?_
         refine VO.cons rfl (V1.storeRefAll (k := 0) rfl rfl tyk_34 rfl rfl rfl rfl rfl rfl ?_)
         refine VO.nil ?_
         exact ⟨(y3.2, b14), Option.some.inj hm2, Keeps.mk (ks := [0, 1, 4]) rfl ⟨rfl, rfl, rfl, rfl, rfl, trivial⟩ (⟨_, _, rfl, rfl, _, _, rfl, rfl, _, _, rfl, rfl, rfl⟩) rfl⟩
       ·
        refine ⟨_, _, _, _, rfl, rfl, rfl, (rfl), fun E1 => ?_⟩
        refine (V1.alloc rfl rfl zk_34 lt0 ?_)
        intro b15
        refine ⟨_, _, rfl, ?_⟩
        refine WalkP.nil ?_
        refine NodeS.branch [9] inNil rfl rfl rfl ⟨?_, trivial⟩
        ·
         refine ⟨_, _, _, _, rfl, rfl, rfl, (⟨_, _, rfl, rfl, _, _, rfl, rfl, rfl⟩), fun E1 => ?_⟩
         refine (V1.callM 3 (rn + ρ0 + 1) [b13] [.ref bp 3 0 0, .vl (rn + ρ0 + 1) 1 (List.map encInt ([(0 : Int), (100 : Int), (100 : Int), (900 : Int), (20000 : Int)] : List Int))] (p := (bp, ⟨3, [encCur ρ0 y2.2]⟩)) rfl rfl rfl cok_69 rfl rfl ⟨_, _, rfl, .same _, ⟨_, _, rfl, Lend.srMap 1 rfl (fun _ => rfl) (.head _), rfl⟩⟩ (bwCons (k := 1) rfl bwNil) (ok_spec_l1Cur_among hh2) rfl (.inr ⟨(by first | omega | (dsimp only; omega)), by rintro _ _ ⟨rfl, rfl⟩; exact ⟨by simp [PV.no, PV.noL, optS_no, noL_iff, nbeq] <;> omega, by intro b ob h; first | exact optH_no (noL_map (fun _ => by simp [PV.no, PV.noL, noL_iff, nbeq]) _) b ob h | (simp only [List.append_assoc, List.mem_append, List.mem_cons, List.mem_singleton, List.not_mem_nil, or_false, Prod.mk.injEq] at h; rcases h with ⟨rfl, rfl⟩ | ⟨rfl, rfl⟩ <;> first | exact noL_map (fun _ => by simp [PV.no, PV.noL, noL_iff, nbeq]) _ | (simp [PV.no, PV.noL, optS_no, noL_iff, nbeq] <;> omega)) | (simp at h; obtain ⟨rfl, rfl⟩ := h; exact noL_map (fun _ => by simp [PV.no, PV.noL, noL_iff, nbeq]) _) | (simp at h; obtain ⟨rfl, rfl⟩ := h; simp [PV.no, PV.noL, optS_no, noL_iff, nbeq] <;> omega)⟩⟩) lt0 ?_)
         rintro _ _ ⟨rfl, rfl⟩
         refine ⟨_, _, rfl, ?_⟩
         refine WalkP.step (p := ?pv3873) 10 rfl rfl rfl rfl rfl (⟨_, _, rfl, rfl, _, _, rfl, rfl, _, _, rfl, rfl, rfl⟩) ?hv3873 ?rest3873
         case hv3873 =>
          intro E1 H1 hI1
          refine (V1.build rfl rfl zk_34 pl_34 rfl rfl lt0 ?_)
          exact rfl
         refine WalkP.nil ?_
         refine NodeS.fin inNil rfl rfl rfl (⟨_, _, rfl, rfl, _, _, rfl, rfl, _, _, rfl, rfl, _, _, rfl, rfl, _, _, rfl, rfl, _, _, rfl, rfl, rfl⟩) ?_
         refine VO.cons rfl (V1.storeRefAll (k := 1) rfl rfl tyk_34 rfl rfl rfl rfl rfl rfl ?_)
         refine VO.nil ?_
         exact ⟨(y3.2, b15), Option.some.inj hm2, Keeps.mk (ks := [1, 0, 4]) rfl ⟨rfl, rfl, rfl, rfl, rfl, trivial⟩ (⟨_, _, rfl, rfl, _, _, rfl, rfl, _, _, rfl, rfl, rfl⟩) rfl⟩
      ·
       refine ⟨_, _, _, _, rfl, rfl, rfl, (⟨_, _, rfl, rfl, _, _, rfl, rfl, rfl⟩), fun E1 => ?_⟩
       refine (V1.callM 2 (rn + ρ0 + 1) [b13] [.ref bp 3 0 0, .vl (rn + ρ0 + 1) 1 (List.map encInt ([(0 : Int), (100 : Int), (100 : Int), (900 : Int), (20000 : Int)] : List Int))] (p := (bp, ⟨3, [encCur ρ0 y2.2]⟩)) rfl rfl rfl cok_69 rfl rfl ⟨_, _, rfl, .same _, ⟨_, _, rfl, Lend.srMap 0 rfl (fun _ => rfl) (.head _), rfl⟩⟩ (bwCons (k := 0) rfl bwNil) (ok_spec_l1Cur_among hh2) rfl (.inr ⟨(by first | omega | (dsimp only; omega)), by rintro _ _ ⟨rfl, rfl⟩; exact ⟨by simp [PV.no, PV.noL, optS_no, noL_iff, nbeq] <;> omega, by intro b ob h; first | exact optH_no (noL_map (fun _ => by simp [PV.no, PV.noL, noL_iff, nbeq]) _) b ob h | (simp only [List.append_assoc, List.mem_append, List.mem_cons, List.mem_singleton, List.not_mem_nil, or_false, Prod.mk.injEq] at h; rcases h with ⟨rfl, rfl⟩ | ⟨rfl, rfl⟩ <;> first | exact noL_map (fun _ => by simp [PV.no, PV.noL, noL_iff, nbeq]) _ | (simp [PV.no, PV.noL, optS_no, noL_iff, nbeq] <;> omega)) | (simp at h; obtain ⟨rfl, rfl⟩ := h; exact noL_map (fun _ => by simp [PV.no, PV.noL, noL_iff, nbeq]) _) | (simp at h; obtain ⟨rfl, rfl⟩ := h; simp [PV.no, PV.noL, optS_no, noL_iff, nbeq] <;> omega)⟩⟩) lt0 ?_)
       rintro _ _ ⟨rfl, rfl⟩
       refine ⟨_, _, rfl, ?_⟩
       refine WalkP.nil ?_
       refine NodeS.branch [6, 11] inNil rfl rfl rfl ⟨?_, ?_, trivial⟩
       ·
        refine ⟨_, _, _, _, rfl, rfl, rfl, (⟨_, _, rfl, rfl, rfl⟩), fun E1 => ?_⟩
        refine (V1.convStrOwn (k := 2) (l := ([(IntKind.u8.wrap (IntKind.i64.wrap ((97 : Int) + (out_0.length : Int)))), (120 : Int)] : List Int)) rfl rfl usl_22 und_5 (isStr_spec istr_9) rfl rfl lt0 ?_)
        refine ⟨_, _, rfl, ?_⟩
        refine WalkP.step (p := ?pv3875) 10 rfl rfl rfl rfl rfl (⟨_, _, rfl, rfl, _, _, rfl, rfl, _, _, rfl, rfl, rfl⟩) ?hv3875 ?rest3875
        case hv3875 =>
         intro E1 H1 hI1
         refine (V1.build rfl rfl zk_34 pl_34 rfl rfl lt0 ?_)
         exact rfl
        refine WalkP.nil ?_
        refine NodeS.branch [11] inNil rfl rfl rfl ⟨?_, trivial⟩
        ·
         refine ⟨_, _, _, _, rfl, rfl, rfl, (rfl), fun E1 => ?_⟩
         refine (V1.alloc rfl rfl zk_34 lt0 ?_)
         intro b16
         refine ⟨_, _, rfl, ?_⟩
         refine WalkP.nil ?_
         refine NodeS.fin inNil rfl rfl rfl (⟨_, _, rfl, rfl, _, _, rfl, rfl, _, _, rfl, rfl, _, _, rfl, rfl, _, _, rfl, rfl, _, _, rfl, rfl, rfl⟩) ?_
         refine VO.cons rfl (V1.storeRefAll (k := 0) rfl rfl tyk_34 rfl rfl rfl rfl rfl rfl ?_)
         refine VO.nil ?_
         exact ⟨(y3.2, b16), Option.some.inj hm2, Keeps.mk (ks := [0, 1, 4]) rfl ⟨rfl, rfl, rfl, rfl, rfl, trivial⟩ (⟨_, _, rfl, rfl, _, _, rfl, rfl, _, _, rfl, rfl, rfl⟩) rfl⟩
       ·
        refine ⟨_, _, _, _, rfl, rfl, rfl, (rfl), fun E1 => ?_⟩
        refine (V1.alloc rfl rfl zk_34 lt0 ?_)
        intro b17
        refine ⟨_, _, rfl, ?_⟩
        refine WalkP.nil ?_
        refine NodeS.branch [6] inNil rfl rfl rfl ⟨?_, trivial⟩
        ·
         refine ⟨_, _, _, _, rfl, rfl, rfl, (⟨_, _, rfl, rfl, rfl⟩), fun E1 => ?_⟩
         refine (V1.convStrOwn (k := 3) (l := ([(IntKind.u8.wrap (IntKind.i64.wrap ((97 : Int) + (out_0.length : Int)))), (120 : Int)] : List Int)) rfl rfl usl_22 und_5 (isStr_spec istr_9) rfl rfl lt0 ?_)
         refine ⟨_, _, rfl, ?_⟩
         refine WalkP.step (p := ?pv3876) 10 rfl rfl rfl rfl rfl (⟨_, _, rfl, rfl, _, _, rfl, rfl, _, _, rfl, rfl, rfl⟩) ?hv3876 ?rest3876
         case hv3876 =>
          intro E1 H1 hI1
          refine (V1.build rfl rfl zk_34 pl_34 rfl rfl lt0 ?_)
          exact rfl
         refine WalkP.nil ?_
         refine NodeS.fin inNil rfl rfl rfl (⟨_, _, rfl, rfl, _, _, rfl, rfl, _, _, rfl, rfl, _, _, rfl, rfl, _, _, rfl, rfl, _, _, rfl, rfl, rfl⟩) ?_
         refine VO.cons rfl (V1.storeRefAll (k := 0) rfl rfl tyk_34 rfl rfl rfl rfl rfl rfl ?_)
         refine VO.nil ?_
         exact ⟨(y3.2, b17), Option.some.inj hm2, Keeps.mk (ks := [0, 1, 4]) rfl ⟨rfl, rfl, rfl, rfl, rfl, trivial⟩ (⟨_, _, rfl, rfl, _, _, rfl, rfl, _, _, rfl, rfl, rfl⟩) rfl⟩
      ·
       refine ⟨_, _, _, _, rfl, rfl, rfl, (rfl), fun E1 => ?_⟩
       refine (V1.alloc rfl rfl zk_34 lt0 ?_)
       intro b18
       refine ⟨_, _, rfl, ?_⟩
       refine WalkP.nil ?_
       refine NodeS.branch [6, 9] inNil rfl rfl rfl ⟨?_, ?_, trivial⟩
       ·
        refine ⟨_, _, _, _, rfl, rfl, rfl, (⟨_, _, rfl, rfl, rfl⟩), fun E1 => ?_⟩
        refine (V1.convStrOwn (k := 2) (l := ([(IntKind.u8.wrap (IntKind.i64.wrap ((97 : Int) + (out_0.length : Int)))), (120 : Int)] : List Int)) rfl rfl usl_22 und_5 (isStr_spec istr_9) rfl rfl lt0 ?_)
        refine ⟨_, _, rfl, ?_⟩
        refine WalkP.nil ?_
        refine NodeS.branch [9] inNil rfl rfl rfl ⟨?_, trivial⟩
        ·
         refine ⟨_, _, _, _, rfl, rfl, rfl, (⟨_, _, rfl, rfl, _, _, rfl, rfl, rfl⟩), fun E1 => ?_⟩
         refine (V1.callM 3 (rn + ρ0 + 1) [b13] [.ref bp 3 0 0, .vl (rn + ρ0 + 1) 1 (List.map encInt ([(0 : Int), (100 : Int), (100 : Int), (900 : Int), (20000 : Int)] : List Int))] (p := (bp, ⟨3, [encCur ρ0 y2.2]⟩)) rfl rfl rfl cok_69 rfl rfl ⟨_, _, rfl, .same _, ⟨_, _, rfl, Lend.srMap 1 rfl (fun _ => rfl) (.head _), rfl⟩⟩ (bwCons (k := 1) rfl bwNil) (ok_spec_l1Cur_among hh2) rfl (.inr ⟨(by first | omega | (dsimp only; omega)), by rintro _ _ ⟨rfl, rfl⟩; exact ⟨by simp [PV.no, PV.noL, optS_no, noL_iff, nbeq] <;> omega, by intro b ob h; first | exact optH_no (noL_map (fun _ => by simp [PV.no, PV.noL, noL_iff, nbeq]) _) b ob h | (simp only [List.append_assoc, List.mem_append, List.mem_cons, List.mem_singleton, List.not_mem_nil, or_false, Prod.mk.injEq] at h; rcases h with ⟨rfl, rfl⟩ | ⟨rfl, rfl⟩ <;> first | exact noL_map (fun _ => by simp [PV.no, PV.noL, noL_iff, nbeq]) _ | (simp [PV.no, PV.noL, optS_no, noL_iff, nbeq] <;> omega)) | (simp at h; obtain ⟨rfl, rfl⟩ := h; exact noL_map (fun _ => by simp [PV.no, PV.noL, noL_iff, nbeq]) _) | (simp at h; obtain ⟨rfl, rfl⟩ := h; simp [PV.no, PV.noL, optS_no, noL_iff, nbeq] <;> omega)⟩⟩) lt0 ?_)
         rintro _ _ ⟨rfl, rfl⟩
         refine ⟨_, _, rfl, ?_⟩
         refine WalkP.step (p := ?pv3878) 10 rfl rfl rfl rfl rfl (⟨_, _, rfl, rfl, _, _, rfl, rfl, _, _, rfl, rfl, rfl⟩) ?hv3878 ?rest3878
         case hv3878 =>
          intro E1 H1 hI1
          refine (V1.build rfl rfl zk_34 pl_34 rfl rfl lt0 ?_)
          exact rfl
         refine WalkP.nil ?_
         refine NodeS.fin inNil rfl rfl rfl (⟨_, _, rfl, rfl, _, _, rfl, rfl, _, _, rfl, rfl, _, _, rfl, rfl, _, _, rfl, rfl, _, _, rfl, rfl, rfl⟩) ?_
         refine VO.cons rfl (V1.storeRefAll (k := 1) rfl rfl tyk_34 rfl rfl rfl rfl rfl rfl ?_)
         refine VO.nil ?_
         exact ⟨(y3.2, b18), Option.some.inj hm2, Keeps.mk (ks := [1, 0, 4]) rfl ⟨rfl, rfl, rfl, rfl, rfl, trivial⟩ (⟨_, _, rfl, rfl, _, _, rfl, rfl, _, _, rfl, rfl, rfl⟩) rfl⟩
       ·
        refine ⟨_, _, _, _, rfl, rfl, rfl, (⟨_, _, rfl, rfl, _, _, rfl, rfl, rfl⟩), fun E1 => ?_⟩
        refine (V1.callM 3 (rn + ρ0 + 1) [b13] [.ref bp 3 0 0, .vl (rn + ρ0 + 1) 1 (List.map encInt ([(0 : Int), (100 : Int), (100 : Int), (900 : Int), (20000 : Int)] : List Int))] (p := (bp, ⟨3, [encCur ρ0 y2.2]⟩)) rfl rfl rfl cok_69 rfl rfl ⟨_, _, rfl, .same _, ⟨_, _, rfl, Lend.srMap 1 rfl (fun _ => rfl) (.head _), rfl⟩⟩ (bwCons (k := 1) rfl bwNil) (ok_spec_l1Cur_among hh2) rfl (.inr ⟨(by first | omega | (dsimp only; omega)), by rintro _ _ ⟨rfl, rfl⟩; exact ⟨by simp [PV.no, PV.noL, optS_no, noL_iff, nbeq] <;> omega, by intro b ob h; first | exact optH_no (noL_map (fun _ => by simp [PV.no, PV.noL, noL_iff, nbeq]) _) b ob h | (simp only [List.append_assoc, List.mem_append, List.mem_cons, List.mem_singleton, List.not_mem_nil, or_false, Prod.mk.injEq] at h; rcases h with ⟨rfl, rfl⟩ | ⟨rfl, rfl⟩ <;> first | exact noL_map (fun _ => by simp [PV.no, PV.noL, noL_iff, nbeq]) _ | (simp [PV.no, PV.noL, optS_no, noL_iff, nbeq] <;> omega)) | (simp at h; obtain ⟨rfl, rfl⟩ := h; exact noL_map (fun _ => by simp [PV.no, PV.noL, noL_iff, nbeq]) _) | (simp at h; obtain ⟨rfl, rfl⟩ := h; simp [PV.no, PV.noL, optS_no, noL_iff, nbeq] <;> omega)⟩⟩) lt0 ?_)
        rintro _ _ ⟨rfl, rfl⟩
        refine ⟨_, _, rfl, ?_⟩
        refine WalkP.nil ?_
        refine NodeS.branch [6] inNil rfl rfl rfl ⟨?_, trivial⟩
        ·
         refine ⟨_, _, _, _, rfl, rfl, rfl, (⟨_, _, rfl, rfl, rfl⟩), fun E1 => ?_⟩
         refine (V1.convStrOwn (k := 3) (l := ([(IntKind.u8.wrap (IntKind.i64.wrap ((97 : Int) + (out_0.length : Int)))), (120 : Int)] : List Int)) rfl rfl usl_22 und_5 (isStr_spec istr_9) rfl rfl lt0 ?_)
         refine ⟨_, _, rfl, ?_⟩
         refine WalkP.step (p := ?pv3880) 10 rfl rfl rfl rfl rfl (⟨_, _, rfl, rfl, _, _, rfl, rfl, _, _, rfl, rfl, rfl⟩) ?hv3880 ?rest3880
         case hv3880 =>
          intro E1 H1 hI1
          refine (V1.build rfl rfl zk_34 pl_34 rfl rfl lt0 ?_)
          exact rfl
         refine WalkP.nil ?_
         refine NodeS.fin inNil rfl rfl rfl (⟨_, _, rfl, rfl, _, _, rfl, rfl, _, _, rfl, rfl, _, _, rfl, rfl, _, _, rfl, rfl, _, _, rfl, rfl, rfl⟩) ?_
         refine VO.cons rfl (V1.storeRefAll (k := 1) rfl rfl tyk_34 rfl rfl rfl rfl rfl rfl ?_)
         refine VO.nil ?_
         exact ⟨(y3.2, b18), Option.some.inj hm2, Keeps.mk (ks := [1, 0, 4]) rfl ⟨rfl, rfl, rfl, rfl, rfl, trivial⟩ (⟨_, _, rfl, rfl, _, _, rfl, rfl, _, _, rfl, rfl, rfl⟩) rfl⟩
     ·
      refine ⟨_, _, _, _, rfl, rfl, rfl, (rfl), fun E1 => ?_⟩
      refine (V1.alloc rfl rfl zk_34 lt0 ?_)
      intro b19
      refine ⟨_, _, rfl, ?_⟩
      refine WalkP.nil ?_
      refine NodeS.branch [6, 8] inNil rfl rfl rfl ⟨?_, ?_, trivial⟩
      ·
       refine ⟨_, _, _, _, rfl, rfl, rfl, (⟨_, _, rfl, rfl, rfl⟩), fun E1 => ?_⟩
       refine (V1.convStrOwn (k := 1) (l := ([(IntKind.u8.wrap (IntKind.i64.wrap ((97 : Int) + (out_0.length : Int)))), (120 : Int)] : List Int)) rfl rfl usl_22 und_5 (isStr_spec istr_9) rfl rfl lt0 ?_)
       refine ⟨_, _, rfl, ?_⟩
       refine WalkP.nil ?_
       refine NodeS.branch [8] inNil rfl rfl rfl ⟨?_, trivial⟩
       ·
        refine ⟨_, _, _, _, rfl, rfl, rfl, (rfl), fun E1 => ?_⟩
        refine (V1.buildSliceT (f := encInt) ([(0 : Int), (100 : Int), (100 : Int), (900 : Int), (20000 : Int)] : List Int) rfl rfl esz_27 zk_3 rfl rfl rfl rfl rfl rfl rfl lt0 ?_)
        intro b20
        refine ⟨_, _, rfl, ?_⟩
        refine WalkP.nil ?_
        refine NodeS.branch [9] inNil rfl rfl rfl ⟨?_, trivial⟩
        ·
         refine ⟨_, _, _, _, rfl, rfl, rfl, (⟨_, _, rfl, rfl, _, _, rfl, rfl, rfl⟩), fun E1 => ?_⟩
         refine (V1.callM 3 (rn + ρ0 + 1) [b20] [.ref bp 3 0 0, .vl (rn + ρ0 + 1) 1 (List.map encInt ([(0 : Int), (100 : Int), (100 : Int), (900 : Int), (20000 : Int)] : List Int))] (p := (bp, ⟨3, [encCur ρ0 y2.2]⟩)) rfl rfl rfl cok_69 rfl rfl ⟨_, _, rfl, .same _, ⟨_, _, rfl, Lend.srMap 0 rfl (fun _ => rfl) (.head _), rfl⟩⟩ (bwCons (k := 0) rfl bwNil) (ok_spec_l1Cur_among hh2) rfl (.inr ⟨(by first | omega | (dsimp only; omega)), by rintro _ _ ⟨rfl, rfl⟩; exact ⟨by simp [PV.no, PV.noL, optS_no, noL_iff, nbeq] <;> omega, by intro b ob h; first | exact optH_no (noL_map (fun _ => by simp [PV.no, PV.noL, noL_iff, nbeq]) _) b ob h | (simp only [List.append_assoc, List.mem_append, List.mem_cons, List.mem_singleton, List.not_mem_nil, or_false, Prod.mk.injEq] at h; rcases h with ⟨rfl, rfl⟩ | ⟨rfl, rfl⟩ <;> first | exact noL_map (fun _ => by simp [PV.no, PV.noL, noL_iff, nbeq]) _ | (simp [PV.no, PV.noL, optS_no, noL_iff, nbeq] <;> omega)) | (simp at h; obtain ⟨rfl, rfl⟩ := h; exact noL_map (fun _ => by simp [PV.no, PV.noL, noL_iff, nbeq]) _) | (simp at h; obtain ⟨rfl, rfl⟩ := h; simp [PV.no, PV.noL, optS_no, noL_iff, nbeq] <;> omega)⟩⟩) lt0 ?_)
         rintro _ _ ⟨rfl, rfl⟩
         refine ⟨_, _, rfl, ?_⟩
         refine WalkP.step (p := ?pv3882) 10 rfl rfl rfl rfl rfl (⟨_, _, rfl, rfl, _, _, rfl, rfl, _, _, rfl, rfl, rfl⟩) ?hv3882 ?rest3882
         case hv3882 =>
          intro E1 H1 hI1
          refine (V1.build rfl rfl zk_34 pl_34 rfl rfl lt0 ?_)
          exact rfl
         refine WalkP.nil ?_
         refine NodeS.fin inNil rfl rfl rfl (⟨_, _, rfl, rfl, _, _, rfl, rfl, _, _, rfl, rfl, _, _, rfl, rfl, _, _, rfl, rfl, _, _, rfl, rfl, rfl⟩) ?_
         refine VO.cons rfl (V1.storeRefAll (k := 2) rfl rfl tyk_34 rfl rfl rfl rfl rfl rfl ?_)
         refine VO.nil ?_
         exact ⟨(y3.2, b19), Option.some.inj hm2, Keeps.mk (ks := [2, 0, 4]) rfl ⟨rfl, rfl, rfl, rfl, rfl, trivial⟩ (⟨_, _, rfl, rfl, _, _, rfl, rfl, _, _, rfl, rfl, rfl⟩) rfl⟩
      ·
       refine ⟨_, _, _, _, rfl, rfl, rfl, (rfl), fun E1 => ?_⟩
       refine (V1.buildSliceT (f := encInt) ([(0 : Int), (100 : Int), (100 : Int), (900 : Int), (20000 : Int)] : List Int) rfl rfl esz_27 zk_3 rfl rfl rfl rfl rfl rfl rfl lt0 ?_)
       intro b21
       refine ⟨_, _, rfl, ?_⟩
       refine WalkP.nil ?_
       refine NodeS.branch [6, 9] inNil rfl rfl rfl ⟨?_, ?_, trivial⟩
       ·
        refine ⟨_, _, _, _, rfl, rfl, rfl, (⟨_, _, rfl, rfl, rfl⟩), fun E1 => ?_⟩
        refine (V1.convStrOwn (k := 2) (l := ([(IntKind.u8.wrap (IntKind.i64.wrap ((97 : Int) + (out_0.length : Int)))), (120 : Int)] : List Int)) rfl rfl usl_22 und_5 (isStr_spec istr_9) rfl rfl lt0 ?_)
        refine ⟨_, _, rfl, ?_⟩
        refine WalkP.nil ?_
        refine NodeS.branch [9] inNil rfl rfl rfl ⟨?_, trivial⟩
        ·
         refine ⟨_, _, _, _, rfl, rfl, rfl, (⟨_, _, rfl, rfl, _, _, rfl, rfl, rfl⟩), fun E1 => ?_⟩
         refine (V1.callM 3 (rn + ρ0 + 1) [b21] [.ref bp 3 0 0, .vl (rn + ρ0 + 1) 1 (List.map encInt ([(0 : Int), (100 : Int), (100 : Int), (900 : Int), (20000 : Int)] : List Int))] (p := (bp, ⟨3, [encCur ρ0 y2.2]⟩)) rfl rfl rfl cok_69 rfl rfl ⟨_, _, rfl, .same _, ⟨_, _, rfl, Lend.srMap 0 rfl (fun _ => rfl) (.head _), rfl⟩⟩ (bwCons (k := 0) rfl bwNil) (ok_spec_l1Cur_among hh2) rfl (.inr ⟨(by first | omega | (dsimp only; omega)), by rintro _ _ ⟨rfl, rfl⟩; exact ⟨by simp [PV.no, PV.noL, optS_no, noL_iff, nbeq] <;> omega, by intro b ob h; first | exact optH_no (noL_map (fun _ => by simp [PV.no, PV.noL, noL_iff, nbeq]) _) b ob h | (simp only [List.append_assoc, List.mem_append, List.mem_cons, List.mem_singleton, List.not_mem_nil, or_false, Prod.mk.injEq] at h; rcases h with ⟨rfl, rfl⟩ | ⟨rfl, rfl⟩ <;> first | exact noL_map (fun _ => by simp [PV.no, PV.noL, noL_iff, nbeq]) _ | (simp [PV.no, PV.noL, optS_no, noL_iff, nbeq] <;> omega)) | (simp at h; obtain ⟨rfl, rfl⟩ := h; exact noL_map (fun _ => by simp [PV.no, PV.noL, noL_iff, nbeq]) _) | (simp at h; obtain ⟨rfl, rfl⟩ := h; simp [PV.no, PV.noL, optS_no, noL_iff, nbeq] <;> omega)⟩⟩) lt0 ?_)
         rintro _ _ ⟨rfl, rfl⟩
         refine ⟨_, _, rfl, ?_⟩
         refine WalkP.step (p := ?pv3884) 10 rfl rfl rfl rfl rfl (⟨_, _, rfl, rfl, _, _, rfl, rfl, _, _, rfl, rfl, rfl⟩) ?hv3884 ?rest3884
         case hv3884 =>
          intro E1 H1 hI1
          refine (V1.build rfl rfl zk_34 pl_34 rfl rfl lt0 ?_)
          exact rfl
         refine WalkP.nil ?_
         refine NodeS.fin inNil rfl rfl rfl (⟨_, _, rfl, rfl, _, _, rfl, rfl, _, _, rfl, rfl, _, _, rfl, rfl, _, _, rfl, rfl, _, _, rfl, rfl, rfl⟩) ?_
         refine VO.cons rfl (V1.storeRefAll (k := 2) rfl rfl tyk_34 rfl rfl rfl rfl rfl rfl ?_)
         refine VO.nil ?_
         exact ⟨(y3.2, b19), Option.some.inj hm2, Keeps.mk (ks := [2, 0, 4]) rfl ⟨rfl, rfl, rfl, rfl, rfl, trivial⟩ (⟨_, _, rfl, rfl, _, _, rfl, rfl, _, _, rfl, rfl, rfl⟩) rfl⟩
       ·
        refine ⟨_, _, _, _, rfl, rfl, rfl, (⟨_, _, rfl, rfl, _, _, rfl, rfl, rfl⟩), fun E1 => ?_⟩
        refine (V1.callM 3 (rn + ρ0 + 1) [b21] [.ref bp 3 0 0, .vl (rn + ρ0 + 1) 1 (List.map encInt ([(0 : Int), (100 : Int), (100 : Int), (900 : Int), (20000 : Int)] : List Int))] (p := (bp, ⟨3, [encCur ρ0 y2.2]⟩)) rfl rfl rfl cok_69 rfl rfl ⟨_, _, rfl, .same _, ⟨_, _, rfl, Lend.srMap 0 rfl (fun _ => rfl) (.head _), rfl⟩⟩ (bwCons (k := 0) rfl bwNil) (ok_spec_l1Cur_among hh2) rfl (.inr ⟨(by first | omega | (dsimp only; omega)), by rintro _ _ ⟨rfl, rfl⟩; exact ⟨by simp [PV.no, PV.noL, optS_no, noL_iff, nbeq] <;> omega, by intro b ob h; first | exact optH_no (noL_map (fun _ => by simp [PV.no, PV.noL, noL_iff, nbeq]) _) b ob h | (simp only [List.append_assoc, List.mem_append, List.mem_cons, List.mem_singleton, List.not_mem_nil, or_false, Prod.mk.injEq] at h; rcases h with ⟨rfl, rfl⟩ | ⟨rfl, rfl⟩ <;> first | exact noL_map (fun _ => by simp [PV.no, PV.noL, noL_iff, nbeq]) _ | (simp [PV.no, PV.noL, optS_no, noL_iff, nbeq] <;> omega)) | (simp at h; obtain ⟨rfl, rfl⟩ := h; exact noL_map (fun _ => by simp [PV.no, PV.noL, noL_iff, nbeq]) _) | (simp at h; obtain ⟨rfl, rfl⟩ := h; simp [PV.no, PV.noL, optS_no, noL_iff, nbeq] <;> omega)⟩⟩) lt0 ?_)
        rintro _ _ ⟨rfl, rfl⟩
        refine ⟨_, _, rfl, ?_⟩
        refine WalkP.nil ?_
        refine NodeS.branch [6] inNil rfl rfl rfl ⟨?_, trivial⟩
        ·
         refine ⟨_, _, _, _, rfl, rfl, rfl, (⟨_, _, rfl, rfl, rfl⟩), fun E1 => ?_⟩
         refine (V1.convStrOwn (k := 3) (l := ([(IntKind.u8.wrap (IntKind.i64.wrap ((97 : Int) + (out_0.length : Int)))), (120 : Int)] : List Int)) rfl rfl usl_22 und_5 (isStr_spec istr_9) rfl rfl lt0 ?_)
         refine ⟨_, _, rfl, ?_⟩
         refine WalkP.step (p := ?pv3886) 10 rfl rfl rfl rfl rfl (⟨_, _, rfl, rfl, _, _, rfl, rfl, _, _, rfl, rfl, rfl⟩) ?hv3886 ?rest3886
         case hv3886 =>
          intro E1 H1 hI1
          refine (V1.build rfl rfl zk_34 pl_34 rfl rfl lt0 ?_)
          exact rfl
         refine WalkP.nil ?_
         refine NodeS.fin inNil rfl rfl rfl (⟨_, _, rfl, rfl, _, _, rfl, rfl, _, _, rfl, rfl, _, _, rfl, rfl, _, _, rfl, rfl, _, _, rfl, rfl, rfl⟩) ?_
         refine VO.cons rfl (V1.storeRefAll (k := 2) rfl rfl tyk_34 rfl rfl rfl rfl rfl rfl ?_)
         refine VO.nil ?_
         exact ⟨(y3.2, b19), Option.some.inj hm2, Keeps.mk (ks := [2, 0, 4]) rfl ⟨rfl, rfl, rfl, rfl, rfl, trivial⟩ (⟨_, _, rfl, rfl, _, _, rfl, rfl, _, _, rfl, rfl, rfl⟩) rfl⟩
    ·
     refine ⟨_, _, _, _, rfl, rfl, rfl, (rfl), fun E1 => ?_⟩
     refine (V1.buildSliceT (f := encInt) ([(0 : Int), (100 : Int), (100 : Int), (900 : Int), (20000 : Int)] : List Int) rfl rfl esz_27 zk_3 rfl rfl rfl rfl rfl rfl rfl lt0 ?_)
     intro b22
     refine ⟨_, _, rfl, ?_⟩
     refine WalkP.nil ?_
     refine NodeS.branch [5, 9, 11] inNil rfl rfl rfl ⟨?_, ?_, ?_, trivial⟩
     ·
      refine ⟨_, _, _, _, rfl, rfl, rfl, (⟨_, _, rfl, rfl, rfl⟩), fun E1 => ?_⟩
      refine (V1.buildSliceT (f := encU8) ([(IntKind.u8.wrap (IntKind.i64.wrap ((97 : Int) + (out_0.length : Int)))), (120 : Int)] : List Int) rfl rfl esz_22 zk_5 rfl rfl rfl rfl rfl rfl rfl lt0 ?_)
      intro b23
      refine ⟨_, _, rfl, ?_⟩
      refine WalkP.nil ?_
      refine NodeS.branch [6, 9, 11] inNil rfl rfl rfl ⟨?_, ?_, ?_, trivial⟩
      ·
       refine ⟨_, _, _, _, rfl, rfl, rfl, (⟨_, _, rfl, rfl, rfl⟩), fun E1 => ?_⟩
       refine (V1.convStrOwn (k := 0) (l := ([(IntKind.u8.wrap (IntKind.i64.wrap ((97 : Int) + (out_0.length : Int)))), (120 : Int)] : List Int)) rfl rfl usl_22 und_5 (isStr_spec istr_9) rfl rfl lt0 ?_)
       refine ⟨_, _, rfl, ?_⟩
       refine WalkP.nil ?_
       refine NodeS.branch [9, 11] inNil rfl rfl rfl ⟨?_, ?_, trivial⟩
       ·
        refine ⟨_, _, _, _, rfl, rfl, rfl, (⟨_, _, rfl, rfl, _, _, rfl, rfl, rfl⟩), fun E1 => ?_⟩
        refine (V1.callM 2 (rn + ρ0 + 1) [b22] [.ref bp 3 0 0, .vl (rn + ρ0 + 1) 1 (List.map encInt ([(0 : Int), (100 : Int), (100 : Int), (900 : Int), (20000 : Int)] : List Int))] (p := (bp, ⟨3, [encCur ρ0 y2.2]⟩)) rfl rfl rfl cok_69 rfl rfl ⟨_, _, rfl, .same _, ⟨_, _, rfl, Lend.srMap 1 rfl (fun _ => rfl) (.head _), rfl⟩⟩ (bwCons (k := 1) rfl bwNil) (ok_spec_l1Cur_among hh2) rfl (.inr ⟨(by first | omega | (dsimp only; omega)), by rintro _ _ ⟨rfl, rfl⟩; exact ⟨by simp [PV.no, PV.noL, optS_no, noL_iff, nbeq] <;> omega, by intro b ob h; first | exact optH_no (noL_map (fun _ => by simp [PV.no, PV.noL, noL_iff, nbeq]) _) b ob h | (simp only [List.append_assoc, List.mem_append, List.mem_cons, List.mem_singleton, List.not_mem_nil, or_false, Prod.mk.injEq] at h; rcases h with ⟨rfl, rfl⟩ | ⟨rfl, rfl⟩ <;> first | exact noL_map (fun _ => by simp [PV.no, PV.noL, noL_iff, nbeq]) _ | (simp [PV.no, PV.noL, optS_no, noL_iff, nbeq] <;> omega)) | (simp at h; obtain ⟨rfl, rfl⟩ := h; exact noL_map (fun _ => by simp [PV.no, PV.noL, noL_iff, nbeq]) _) | (simp at h; obtain ⟨rfl, rfl⟩ := h; simp [PV.no, PV.noL, optS_no, noL_iff, nbeq] <;> omega)⟩⟩) lt0 ?_)
        rintro _ _ ⟨rfl, rfl⟩
        refine ⟨_, _, rfl, ?_⟩
        refine WalkP.step (p := ?pv3888) 10 rfl rfl rfl rfl rfl (⟨_, _, rfl, rfl, _, _, rfl, rfl, _, _, rfl, rfl, rfl⟩) ?hv3888 ?rest3888
        case hv3888 =>
         intro E1 H1 hI1
         refine (V1.build rfl rfl zk_34 pl_34 rfl rfl lt0 ?_)
         exact rfl
        refine WalkP.nil ?_
        refine NodeS.branch [11] inNil rfl rfl rfl ⟨?_, trivial⟩
        ·
         refine ⟨_, _, _, _, rfl, rfl, rfl, (rfl), fun E1 => ?_⟩
         refine (V1.alloc rfl rfl zk_34 lt0 ?_)
         intro b24
         refine ⟨_, _, rfl, ?_⟩
         refine WalkP.nil ?_
         refine NodeS.fin inNil rfl rfl rfl (⟨_, _, rfl, rfl, _, _, rfl, rfl, _, _, rfl, rfl, _, _, rfl, rfl, _, _, rfl, rfl, _, _, rfl, rfl, rfl⟩) ?_
         refine VO.cons rfl (V1.storeRefAll (k := 0) rfl rfl tyk_34 rfl rfl rfl rfl rfl rfl ?_)
         refine VO.nil ?_
         exact ⟨(y3.2, b24), Option.some.inj hm2, Keeps.mk (ks := [0, 1, 4]) rfl ⟨rfl, rfl, rfl, rfl, rfl, trivial⟩ (⟨_, _, rfl, rfl, _, _, rfl, rfl, _, _, rfl, rfl, rfl⟩) rfl⟩
       ·
        refine ⟨_, _, _, _, rfl, rfl, rfl, (rfl), fun E1 => ?_⟩
        refine (V1.alloc rfl rfl zk_34 lt0 ?_)
        intro b25
        refine ⟨_, _, rfl, ?_⟩
        refine WalkP.nil ?_
        refine NodeS.branch [9] inNil rfl rfl rfl ⟨?_, trivial⟩
        ·
         refine ⟨_, _, _, _, rfl, rfl, rfl, (⟨_, _, rfl, rfl, _, _, rfl, rfl, rfl⟩), fun E1 => ?_⟩
         refine (V1.callM 3 (rn + ρ0 + 1) [b22] [.ref bp 3 0 0, .vl (rn + ρ0 + 1) 1 (List.map encInt ([(0 : Int), (100 : Int), (100 : Int), (900 : Int), (20000 : Int)] : List Int))] (p := (bp, ⟨3, [encCur ρ0 y2.2]⟩)) rfl rfl rfl cok_69 rfl rfl ⟨_, _, rfl, .same _, ⟨_, _, rfl, Lend.srMap 2 rfl (fun _ => rfl) (.head _), rfl⟩⟩ (bwCons (k := 2) rfl bwNil) (ok_spec_l1Cur_among hh2) rfl (.inr ⟨(by first | omega | (dsimp only; omega)), by rintro _ _ ⟨rfl, rfl⟩; exact ⟨by simp [PV.no, PV.noL, optS_no, noL_iff, nbeq] <;> omega, by intro b ob h; first | exact optH_no (noL_map (fun _ => by simp [PV.no, PV.noL, noL_iff, nbeq]) _) b ob h | (simp only [List.append_assoc, List.mem_append, List.mem_cons, List.mem_singleton, List.not_mem_nil, or_false, Prod.mk.injEq] at h; rcases h with ⟨rfl, rfl⟩ | ⟨rfl, rfl⟩ <;> first | exact noL_map (fun _ => by simp [PV.no, PV.noL, noL_iff, nbeq]) _ | (simp [PV.no, PV.noL, optS_no, noL_iff, nbeq] <;> omega)) | (simp at h; obtain ⟨rfl, rfl⟩ := h; exact noL_map (fun _ => by simp [PV.no, PV.noL, noL_iff, nbeq]) _) | (simp at h; obtain ⟨rfl, rfl⟩ := h; simp [PV.no, PV.noL, optS_no, noL_iff, nbeq] <;> omega)⟩⟩) lt0 ?_)
         rintro _ _ ⟨rfl, rfl⟩
         refine ⟨_, _, rfl, ?_⟩
         refine WalkP.step (p := ?pv3890) 10 rfl rfl rfl rfl rfl (⟨_, _, rfl, rfl, _, _, rfl, rfl, _, _, rfl, rfl, rfl⟩) ?hv3890 ?rest3890
         case hv3890 =>
          intro E1 H1 hI1
          refine (V1.build rfl rfl zk_34 pl_34 rfl rfl lt0 ?_)
          exact rfl
         refine WalkP.nil ?_
         refine NodeS.fin inNil rfl rfl rfl (⟨_, _, rfl, rfl, _, _, rfl, rfl, _, _, rfl, rfl, _, _, rfl, rfl, _, _, rfl, rfl, _, _, rfl, rfl, rfl⟩) ?_
         refine VO.cons rfl (V1.storeRefAll (k := 1) rfl rfl tyk_34 rfl rfl rfl rfl rfl rfl ?_)
         refine VO.nil ?_
         exact ⟨(y3.2, b25), Option.some.inj hm2, Keeps.mk (ks := [1, 0, 4]) rfl ⟨rfl, rfl, rfl, rfl, rfl, trivial⟩ (⟨_, _, rfl, rfl, _, _, rfl, rfl, _, _, rfl, rfl, rfl⟩) rfl⟩
      ·
       refine ⟨_, _, _, _, rfl, rfl, rfl, (⟨_, _, rfl, rfl, _, _, rfl, rfl, rfl⟩), fun E1 => ?_⟩
       refine (V1.callM 2 (rn + ρ0 + 1) [b22] [.ref bp 3 0 0, .vl (rn + ρ0 + 1) 1 (List.map encInt ([(0 : Int), (100 : Int), (100 : Int), (900 : Int), (20000 : Int)] : List Int))] (p := (bp, ⟨3, [encCur ρ0 y2.2]⟩)) rfl rfl rfl cok_69 rfl rfl ⟨_, _, rfl, .same _, ⟨_, _, rfl, Lend.srMap 1 rfl (fun _ => rfl) (.head _), rfl⟩⟩ (bwCons (k := 1) rfl bwNil) (ok_spec_l1Cur_among hh2) rfl (.inr ⟨(by first | omega | (dsimp only; omega)), by rintro _ _ ⟨rfl, rfl⟩; exact ⟨by simp [PV.no, PV.noL, optS_no, noL_iff, nbeq] <;> omega, by intro b ob h; first | exact optH_no (noL_map (fun _ => by simp [PV.no, PV.noL, noL_iff, nbeq]) _) b ob h | (simp only [List.append_assoc, List.mem_append, List.mem_cons, List.mem_singleton, List.not_mem_nil, or_false, Prod.mk.injEq] at h; rcases h with ⟨rfl, rfl⟩ | ⟨rfl, rfl⟩ <;> first | exact noL_map (fun _ => by simp [PV.no, PV.noL, noL_iff, nbeq]) _ | (simp [PV.no, PV.noL, optS_no, noL_iff, nbeq] <;> omega)) | (simp at h; obtain ⟨rfl, rfl⟩ := h; exact noL_map (fun _ => by simp [PV.no, PV.noL, noL_iff, nbeq]) _) | (simp at h; obtain ⟨rfl, rfl⟩ := h; simp [PV.no, PV.noL, optS_no, noL_iff, nbeq] <;> omega)⟩⟩) lt0 ?_)
       rintro _ _ ⟨rfl, rfl⟩
       refine ⟨_, _, rfl, ?_⟩
       refine WalkP.nil ?_
       refine NodeS.branch [6, 11] inNil rfl rfl rfl ⟨?_, ?_, trivial⟩
       ·
        refine ⟨_, _, _, _, rfl, rfl, rfl, (⟨_, _, rfl, rfl, rfl⟩), fun E1 => ?_⟩
        refine (V1.convStrOwn (k := 1) (l := ([(IntKind.u8.wrap (IntKind.i64.wrap ((97 : Int) + (out_0.length : Int)))), (120 : Int)] : List Int)) rfl rfl usl_22 und_5 (isStr_spec istr_9) rfl rfl lt0 ?_)
        refine ⟨_, _, rfl, ?_⟩
        refine WalkP.step (p := ?pv3892) 10 rfl rfl rfl rfl rfl (⟨_, _, rfl, rfl, _, _, rfl, rfl, _, _, rfl, rfl, rfl⟩) ?hv3892 ?rest3892
        case hv3892 =>
         intro E1 H1 hI1
         refine (V1.build rfl rfl zk_34 pl_34 rfl rfl lt0 ?_)
         exact rfl
        refine WalkP.nil ?_
        refine NodeS.branch [11] inNil rfl rfl rfl ⟨?_, trivial⟩
        ·
         refine ⟨_, _, _, _, rfl, rfl, rfl, (rfl), fun E1 => ?_⟩
         refine (V1.alloc rfl rfl zk_34 lt0 ?_)
         intro b26
         refine ⟨_, _, rfl, ?_⟩
         refine WalkP.nil ?_
         refine NodeS.fin inNil rfl rfl rfl (⟨_, _, rfl, rfl, _, _, rfl, rfl, _, _, rfl, rfl, _, _, rfl, rfl, _, _, rfl, rfl, _, _, rfl, rfl, rfl⟩) ?_
         refine VO.cons rfl (V1.storeRefAll (k := 0) rfl rfl tyk_34 rfl rfl rfl rfl rfl rfl ?_)
         refine VO.nil ?_
         exact ⟨(y3.2, b26), Option.some.inj hm2, Keeps.mk (ks := [0, 1, 4]) rfl ⟨rfl, rfl, rfl, rfl, rfl, trivial⟩ (⟨_, _, rfl, rfl, _, _, rfl, rfl, _, _, rfl, rfl, rfl⟩) rfl⟩
       ·
        refine ⟨_, _, _, _, rfl, rfl, rfl, (rfl), fun E1 => ?_⟩
        refine (V1.alloc rfl rfl zk_34 lt0 ?_)
        intro b27
        refine ⟨_, _, rfl, ?_⟩
        refine WalkP.nil ?_
        refine NodeS.branch [6] inNil rfl rfl rfl ⟨?_, trivial⟩
        ·
         refine ⟨_, _, _, _, rfl, rfl, rfl, (⟨_, _, rfl, rfl, rfl⟩), fun E1 => ?_⟩
         refine (V1.convStrOwn (k := 2) (l := ([(IntKind.u8.wrap (IntKind.i64.wrap ((97 : Int) + (out_0.length : Int)))), (120 : Int)] : List Int)) rfl rfl usl_22 und_5 (isStr_spec istr_9) rfl rfl lt0 ?_)
         refine ⟨_, _, rfl, ?_⟩
         refine WalkP.step (p := ?pv3893) 10 rfl rfl rfl rfl rfl (⟨_, _, rfl, rfl, _, _, rfl, rfl, _, _, rfl, rfl, rfl⟩) ?hv3893 ?rest3893
         case hv3893 =>
          intro E1 H1 hI1
          refine (V1.build rfl rfl zk_34 pl_34 rfl rfl lt0 ?_)
          exact rfl
         refine WalkP.nil ?_
         refine NodeS.fin inNil rfl rfl rfl (⟨_, _, rfl, rfl, _, _, rfl, rfl, _, _, rfl, rfl, _, _, rfl, rfl, _, _, rfl, rfl, _, _, rfl, rfl, rfl⟩) ?_
         refine VO.cons rfl (V1.storeRefAll (k := 0) rfl rfl tyk_34 rfl rfl rfl rfl rfl rfl ?_)
         refine VO.nil ?_
         exact ⟨(y3.2, b27), Option.some.inj hm2, Keeps.mk (ks := [0, 1, 4]) rfl ⟨rfl, rfl, rfl, rfl, rfl, trivial⟩ (⟨_, _, rfl, rfl, _, _, rfl, rfl, _, _, rfl, rfl, rfl⟩) rfl⟩
      ·
       refine ⟨_, _, _, _, rfl, rfl, rfl, (rfl), fun E1 => ?_⟩
       refine (V1.alloc rfl rfl zk_34 lt0 ?_)
       intro b28
       refine ⟨_, _, rfl, ?_⟩
       refine WalkP.nil ?_
       refine NodeS.branch [6, 9] inNil rfl rfl rfl ⟨?_, ?_, trivial⟩
       ·
        refine ⟨_, _, _, _, rfl, rfl, rfl, (⟨_, _, rfl, rfl, rfl⟩), fun E1 => ?_⟩
        refine (V1.convStrOwn (k := 1) (l := ([(IntKind.u8.wrap (IntKind.i64.wrap ((97 : Int) + (out_0.length : Int)))), (120 : Int)] : List Int)) rfl rfl usl_22 und_5 (isStr_spec istr_9) rfl rfl lt0 ?_)
        refine ⟨_, _, rfl, ?_⟩
        refine WalkP.nil ?_
        refine NodeS.branch [9] inNil rfl rfl rfl ⟨?_, trivial⟩
        ·
         refine ⟨_, _, _, _, rfl, rfl, rfl, (⟨_, _, rfl, rfl, _, _, rfl, rfl, rfl⟩), fun E1 => ?_⟩
         refine (V1.callM 3 (rn + ρ0 + 1) [b22] [.ref bp 3 0 0, .vl (rn + ρ0 + 1) 1 (List.map encInt ([(0 : Int), (100 : Int), (100 : Int), (900 : Int), (20000 : Int)] : List Int))] (p := (bp, ⟨3, [encCur ρ0 y2.2]⟩)) rfl rfl rfl cok_69 rfl rfl ⟨_, _, rfl, .same _, ⟨_, _, rfl, Lend.srMap 2 rfl (fun _ => rfl) (.head _), rfl⟩⟩ (bwCons (k := 2) rfl bwNil) (ok_spec_l1Cur_among hh2) rfl (.inr ⟨(by first | omega | (dsimp only; omega)), by rintro _ _ ⟨rfl, rfl⟩; exact ⟨by simp [PV.no, PV.noL, optS_no, noL_iff, nbeq] <;> omega, by intro b ob h; first | exact optH_no (noL_map (fun _ => by simp [PV.no, PV.noL, noL_iff, nbeq]) _) b ob h | (simp only [List.append_assoc, List.mem_append, List.mem_cons, List.mem_singleton, List.not_mem_nil, or_false, Prod.mk.injEq] at h; rcases h with ⟨rfl, rfl⟩ | ⟨rfl, rfl⟩ <;> first | exact noL_map (fun _ => by simp [PV.no, PV.noL, noL_iff, nbeq]) _ | (simp [PV.no, PV.noL, optS_no, noL_iff, nbeq] <;> omega)) | (simp at h; obtain ⟨rfl, rfl⟩ := h; exact noL_map (fun _ => by simp [PV.no, PV.noL, noL_iff, nbeq]) _) | (simp at h; obtain ⟨rfl, rfl⟩ := h; simp [PV.no, PV.noL, optS_no, noL_iff, nbeq] <;> omega)⟩⟩) lt0 ?_)
         rintro _ _ ⟨rfl, rfl⟩
         refine ⟨_, _, rfl, ?_⟩
         refine WalkP.step (p := ?pv3895) 10 rfl rfl rfl rfl rfl (⟨_, _, rfl, rfl, _, _, rfl, rfl, _, _, rfl, rfl, rfl⟩) ?hv3895 ?rest3895
         case hv3895 =>
          intro E1 H1 hI1
          refine (V1.build rfl rfl zk_34 pl_34 rfl rfl lt0 ?_)
          exact rfl
         refine WalkP.nil ?_
         refine NodeS.fin inNil rfl rfl rfl (⟨_, _, rfl, rfl, _, _, rfl, rfl, _, _, rfl, rfl, _, _, rfl, rfl, _, _, rfl, rfl, _, _, rfl, rfl, rfl⟩) ?_
         refine VO.cons rfl (V1.storeRefAll (k := 1) rfl rfl tyk_34 rfl rfl rfl rfl rfl rfl ?_)
         refine VO.nil ?_
         exact ⟨(y3.2, b28), Option.some.inj hm2, Keeps.mk (ks := [1, 0, 4]) rfl ⟨rfl, rfl, rfl, rfl, rfl, trivial⟩ (⟨_, _, rfl, rfl, _, _, rfl, rfl, _, _, rfl, rfl, rfl⟩) rfl⟩
       ·
        refine ⟨_, _, _, _, rfl, rfl, rfl, (⟨_, _, rfl, rfl, _, _, rfl, rfl, rfl⟩), fun E1 => ?_⟩
        refine (V1.callM 3 (rn + ρ0 + 1) [b22] [.ref bp 3 0 0, .vl (rn + ρ0 + 1) 1 (List.map encInt ([(0 : Int), (100 : Int), (100 : Int), (900 : Int), (20000 : Int)] : List Int))] (p := (bp, ⟨3, [encCur ρ0 y2.2]⟩)) rfl rfl rfl cok_69 rfl rfl ⟨_, _, rfl, .same _, ⟨_, _, rfl, Lend.srMap 2 rfl (fun _ => rfl) (.head _), rfl⟩⟩ (bwCons (k := 2) rfl bwNil) (ok_spec_l1Cur_among hh2) rfl (.inr ⟨(by first | omega | (dsimp only; omega)), by rintro _ _ ⟨rfl, rfl⟩; exact ⟨by simp [PV.no, PV.noL, optS_no, noL_iff, nbeq] <;> omega, by intro b ob h; first | exact optH_no (noL_map (fun _ => by simp [PV.no, PV.noL, noL_iff, nbeq]) _) b ob h | (simp only [List.append_assoc, List.mem_append, List.mem_cons, List.mem_singleton, List.not_mem_nil, or_false, Prod.mk.injEq] at h; rcases h with ⟨rfl, rfl⟩ | ⟨rfl, rfl⟩ <;> first | exact noL_map (fun _ => by simp [PV.no, PV.noL, noL_iff, nbeq]) _ | (simp [PV.no, PV.noL, optS_no, noL_iff, nbeq] <;> omega)) | (simp at h; obtain ⟨rfl, rfl⟩ := h; exact noL_map (fun _ => by simp [PV.no, PV.noL, noL_iff, nbeq]) _) | (simp at h; obtain ⟨rfl, rfl⟩ := h; simp [PV.no, PV.noL, optS_no, noL_iff, nbeq] <;> omega)⟩⟩) lt0 ?_)
        rintro _ _ ⟨rfl, rfl⟩
        refine ⟨_, _, rfl, ?_⟩
        refine WalkP.nil ?_
        refine NodeS.branch [6] inNil rfl rfl rfl ⟨?_, trivial⟩
        ·
         refine ⟨_, _, _, _, rfl, rfl, rfl, (⟨_, _, rfl, rfl, rfl⟩), fun E1 => ?_⟩
         refine (V1.convStrOwn (k := 2) (l := ([(IntKind.u8.wrap (IntKind.i64.wrap ((97 : Int) + (out_0.length : Int)))), (120 : Int)] : List Int)) rfl rfl usl_22 und_5 (isStr_spec istr_9) rfl rfl lt0 ?_)
         refine ⟨_, _, rfl, ?_⟩
         refine WalkP.step (p := ?pv3897) 10 rfl rfl rfl rfl rfl (⟨_, _, rfl, rfl, _, _, rfl, rfl, _, _, rfl, rfl, rfl⟩) ?hv3897 ?rest3897
         case hv3897 =>
          intro E1 H1 hI1
          refine (V1.build rfl rfl zk_34 pl_34 rfl rfl lt0 ?_)
          exact rfl
         refine WalkP.nil ?_
         refine NodeS.fin inNil rfl rfl rfl (⟨_, _, rfl, rfl, _, _, rfl, rfl, _, _, rfl, rfl, _, _, rfl, rfl, _, _, rfl, rfl, _, _, rfl, rfl, rfl⟩) ?_
         refine VO.cons rfl (V1.storeRefAll (k := 1) rfl rfl tyk_34 rfl rfl rfl rfl rfl rfl ?_)
         refine VO.nil ?_
         exact ⟨(y3.2, b28), Option.some.inj hm2, Keeps.mk (ks := [1, 0, 4]) rfl ⟨rfl, rfl, rfl, rfl, rfl, trivial⟩ (⟨_, _, rfl, rfl, _, _, rfl, rfl, _, _, rfl, rfl, rfl⟩) rfl⟩
     ·
      refine ⟨_, _, _, _, rfl, rfl, rfl, (⟨_, _, rfl, rfl, _, _, rfl, rfl, rfl⟩), fun E1 => ?_⟩
      refine (V1.callM 1 (rn + ρ0 + 1) [b22] [.ref bp 3 0 0, .vl (rn + ρ0 + 1) 1 (List.map encInt ([(0 : Int), (100 : Int), (100 : Int), (900 : Int), (20000 : Int)] : List Int))] (p := (bp, ⟨3, [encCur ρ0 y2.2]⟩)) rfl rfl rfl cok_69 rfl rfl ⟨_, _, rfl, .same _, ⟨_, _, rfl, Lend.srMap 0 rfl (fun _ => rfl) (.head _), rfl⟩⟩ (bwCons (k := 0) rfl bwNil) (ok_spec_l1Cur_among hh2) rfl (.inr ⟨(by first | omega | (dsimp only; omega)), by rintro _ _ ⟨rfl, rfl⟩; exact ⟨by simp [PV.no, PV.noL, optS_no, noL_iff, nbeq] <;> omega, by intro b ob h; first | exact optH_no (noL_map (fun _ => by simp [PV.no, PV.noL, noL_iff, nbeq]) _) b ob h | (simp only [List.append_assoc, List.mem_append, List.mem_cons, List.mem_singleton, List.not_mem_nil, or_false, Prod.mk.injEq] at h; rcases h with ⟨rfl, rfl⟩ | ⟨rfl, rfl⟩ <;> first | exact noL_map (fun _ => by simp [PV.no, PV.noL, noL_iff, nbeq]) _ | (simp [PV.no, PV.noL, optS_no, noL_iff, nbeq] <;> omega)) | (simp at h; obtain ⟨rfl, rfl⟩ := h; exact noL_map (fun _ => by simp [PV.no, PV.noL, noL_iff, nbeq]) _) | (simp at h; obtain ⟨rfl, rfl⟩ := h; simp [PV.no, PV.noL, optS_no, noL_iff, nbeq] <;> omega)⟩⟩) lt0 ?_)
      rintro _ _ ⟨rfl, rfl⟩
      refine ⟨_, _, rfl, ?_⟩
      refine WalkP.nil ?_
      refine NodeS.branch [5, 11] inNil rfl rfl rfl ⟨?_, ?_, trivial⟩
      ·
       refine ⟨_, _, _, _, rfl, rfl, rfl, (⟨_, _, rfl, rfl, rfl⟩), fun E1 => ?_⟩
       refine (V1.buildSliceT (f := encU8) ([(IntKind.u8.wrap (IntKind.i64.wrap ((97 : Int) + (out_0.length : Int)))), (120 : Int)] : List Int) rfl rfl esz_22 zk_5 rfl rfl rfl rfl rfl rfl rfl lt0 ?_)
       intro b29
       refine ⟨_, _, rfl, ?_⟩
       refine WalkP.nil ?_
       refine NodeS.branch [6, 11] inNil rfl rfl rfl ⟨?_, ?_, trivial⟩
       ·
        refine ⟨_, _, _, _, rfl, rfl, rfl, (⟨_, _, rfl, rfl, rfl⟩), fun E1 => ?_⟩
        refine (V1.convStrOwn (k := 0) (l := ([(IntKind.u8.wrap (IntKind.i64.wrap ((97 : Int) + (out_0.length : Int)))), (120 : Int)] : List Int)) rfl rfl usl_22 und_5 (isStr_spec istr_9) rfl rfl lt0 ?_)
        refine ⟨_, _, rfl, ?_⟩
        refine WalkP.step (p := ?pv3899) 10 rfl rfl rfl rfl rfl (⟨_, _, rfl, rfl, _, _, rfl, rfl, _, _, rfl, rfl, rfl⟩) ?hv3899 ?rest3899
        case hv3899 =>
         intro E1 H1 hI1
         refine (V1.build rfl rfl zk_34 pl_34 rfl rfl lt0 ?_)
         exact rfl
        refine WalkP.nil ?_
        refine NodeS.branch [11] inNil rfl rfl rfl ⟨?_, trivial⟩
        ·
         refine ⟨_, _, _, _, rfl, rfl, rfl, (rfl), fun E1 => ?_⟩
         refine (V1.alloc rfl rfl zk_34 lt0 ?_)
         intro b30
         refine ⟨_, _, rfl, ?_⟩
         refine WalkP.nil ?_
         refine NodeS.fin inNil rfl rfl rfl (⟨_, _, rfl, rfl, _, _, rfl, rfl, _, _, rfl, rfl, _, _, rfl, rfl, _, _, rfl, rfl, _, _, rfl, rfl, rfl⟩) ?_
         refine VO.cons rfl (V1.storeRefAll (k := 0) rfl rfl tyk_34 rfl rfl rfl rfl rfl rfl ?_)
         refine VO.nil ?_
         exact ⟨(y3.2, b30), Option.some.inj hm2, Keeps.mk (ks := [0, 2, 4]) rfl ⟨rfl, rfl, rfl, rfl, rfl, trivial⟩ (⟨_, _, rfl, rfl, _, _, rfl, rfl, _, _, rfl, rfl, rfl⟩) rfl⟩
       ·
        refine ⟨_, _, _, _, rfl, rfl, rfl, (rfl), fun E1 => ?_⟩
        refine (V1.alloc rfl rfl zk_34 lt0 ?_)
        intro b31
        refine ⟨_, _, rfl, ?_⟩
        refine WalkP.nil ?_
        refine NodeS.branch [6] inNil rfl rfl rfl ⟨?_, trivial⟩
        ·
         refine ⟨_, _, _, _, rfl, rfl, rfl, (⟨_, _, rfl, rfl, rfl⟩), fun E1 => ?_⟩
         refine (V1.convStrOwn (k := 1) (l := ([(IntKind.u8.wrap (IntKind.i64.wrap ((97 : Int) + (out_0.length : Int)))), (120 : Int)] : List Int)) rfl rfl usl_22 und_5 (isStr_spec istr_9) rfl rfl lt0 ?_)
         refine ⟨_, _, rfl, ?_⟩
         refine WalkP.step (p := ?pv3900) 10 rfl rfl rfl rfl rfl (⟨_, _, rfl, rfl, _, _, rfl, rfl, _, _, rfl, rfl, rfl⟩) ?hv3900 ?rest3900
         case hv3900 =>
          intro E1 H1 hI1
          refine (V1.build rfl rfl zk_34 pl_34 rfl rfl lt0 ?_)
          exact rfl
         refine WalkP.nil ?_
         refine NodeS.fin inNil rfl rfl rfl (⟨_, _, rfl, rfl, _, _, rfl, rfl, _, _, rfl, rfl, _, _, rfl, rfl, _, _, rfl, rfl, _, _, rfl, rfl, rfl⟩) ?_
         refine VO.cons rfl (V1.storeRefAll (k := 0) rfl rfl tyk_34 rfl rfl rfl rfl rfl rfl ?_)
         refine VO.nil ?_
         exact ⟨(y3.2, b31), Option.some.inj hm2, Keeps.mk (ks := [0, 2, 4]) rfl ⟨rfl, rfl, rfl, rfl, rfl, trivial⟩ (⟨_, _, rfl, rfl, _, _, rfl, rfl, _, _, rfl, rfl, rfl⟩) rfl⟩
      ·
       refine ⟨_, _, _, _, rfl, rfl, rfl, (rfl), fun E1 => ?_⟩
       refine (V1.alloc rfl rfl zk_34 lt0 ?_)
       intro b32
       refine ⟨_, _, rfl, ?_⟩
       refine WalkP.nil ?_
       refine NodeS.branch [5] inNil rfl rfl rfl ⟨?_, trivial⟩
       ·
        refine ⟨_, _, _, _, rfl, rfl, rfl, (⟨_, _, rfl, rfl, rfl⟩), fun E1 => ?_⟩
        refine (V1.buildSliceT (f := encU8) ([(IntKind.u8.wrap (IntKind.i64.wrap ((97 : Int) + (out_0.length : Int)))), (120 : Int)] : List Int) rfl rfl esz_22 zk_5 rfl rfl rfl rfl rfl rfl rfl lt0 ?_)
        intro b33
        refine ⟨_, _, rfl, ?_⟩
        refine WalkP.nil ?_
        refine NodeS.branch [6] inNil rfl rfl rfl ⟨?_, trivial⟩
        ·
         refine ⟨_, _, _, _, rfl, rfl, rfl, (⟨_, _, rfl, rfl, rfl⟩), fun E1 => ?_⟩
         refine (V1.convStrOwn (k := 0) (l := ([(IntKind.u8.wrap (IntKind.i64.wrap ((97 : Int) + (out_0.length : Int)))), (120 : Int)] : List Int)) rfl rfl usl_22 und_5 (isStr_spec istr_9) rfl rfl lt0 ?_)
         refine ⟨_, _, rfl, ?_⟩
         refine WalkP.step (p := ?pv3901) 10 rfl rfl rfl rfl rfl (⟨_, _, rfl, rfl, _, _, rfl, rfl, _, _, rfl, rfl, rfl⟩) ?hv3901 ?rest3901
         case hv3901 =>
          intro E1 H1 hI1
          refine (V1.build rfl rfl zk_34 pl_34 rfl rfl lt0 ?_)
          exact rfl
         refine WalkP.nil ?_
         refine NodeS.fin inNil rfl rfl rfl (⟨_, _, rfl, rfl, _, _, rfl, rfl, _, _, rfl, rfl, _, _, rfl, rfl, _, _, rfl, rfl, _, _, rfl, rfl, rfl⟩) ?_
         refine VO.cons rfl (V1.storeRefAll (k := 1) rfl rfl tyk_34 rfl rfl rfl rfl rfl rfl ?_)
         refine VO.nil ?_
         exact ⟨(y3.2, b32), Option.some.inj hm2, Keeps.mk (ks := [1, 2, 4]) rfl ⟨rfl, rfl, rfl, rfl, rfl, trivial⟩ (⟨_, _, rfl, rfl, _, _, rfl, rfl, _, _, rfl, rfl, rfl⟩) rfl⟩
     ·
      refine ⟨_, _, _, _, rfl, rfl, rfl, (rfl), fun E1 => ?_⟩
      refine (V1.alloc rfl rfl zk_34 lt0 ?_)
      intro b34
      refine ⟨_, _, rfl, ?_⟩
      refine WalkP.nil ?_
      refine NodeS.branch [5, 9] inNil rfl rfl rfl ⟨?_, ?_, trivial⟩
      ·
       refine ⟨_, _, _, _, rfl, rfl, rfl, (⟨_, _, rfl, rfl, rfl⟩), fun E1 => ?_⟩
       refine (V1.buildSliceT (f := encU8) ([(IntKind.u8.wrap (IntKind.i64.wrap ((97 : Int) + (out_0.length : Int)))), (120 : Int)] : List Int) rfl rfl esz_22 zk_5 rfl rfl rfl rfl rfl rfl rfl lt0 ?_)
       intro b35
       refine ⟨_, _, rfl, ?_⟩
       refine WalkP.nil ?_
       refine NodeS.branch [6, 9] inNil rfl rfl rfl ⟨?_, ?_, trivial⟩
       ·
        refine ⟨_, _, _, _, rfl, rfl, rfl, (⟨_, _, rfl, rfl, rfl⟩), fun E1 => ?_⟩
        refine (V1.convStrOwn (k := 0) (l := ([(IntKind.u8.wrap (IntKind.i64.wrap ((97 : Int) + (out_0.length : Int)))), (120 : Int)] : List Int)) rfl rfl usl_22 und_5 (isStr_spec istr_9) rfl rfl lt0 ?_)
        refine ⟨_, _, rfl, ?_⟩
        refine WalkP.nil ?_
        refine NodeS.branch [9] inNil rfl rfl rfl ⟨?_, trivial⟩
        ·
         refine ⟨_, _, _, _, rfl, rfl, rfl, (⟨_, _, rfl, rfl, _, _, rfl, rfl, rfl⟩), fun E1 => ?_⟩
         refine (V1.callM 3 (rn + ρ0 + 1) [b22] [.ref bp 3 0 0, .vl (rn + ρ0 + 1) 1 (List.map encInt ([(0 : Int), (100 : Int), (100 : Int), (900 : Int), (20000 : Int)] : List Int))] (p := (bp, ⟨3, [encCur ρ0 y2.2]⟩)) rfl rfl rfl cok_69 rfl rfl ⟨_, _, rfl, .same _, ⟨_, _, rfl, Lend.srMap 2 rfl (fun _ => rfl) (.head _), rfl⟩⟩ (bwCons (k := 2) rfl bwNil) (ok_spec_l1Cur_among hh2) rfl (.inr ⟨(by first | omega | (dsimp only; omega)), by rintro _ _ ⟨rfl, rfl⟩; exact ⟨by simp [PV.no, PV.noL, optS_no, noL_iff, nbeq] <;> omega, by intro b ob h; first | exact optH_no (noL_map (fun _ => by simp [PV.no, PV.noL, noL_iff, nbeq]) _) b ob h | (simp only [List.append_assoc, List.mem_append, List.mem_cons, List.mem_singleton, List.not_mem_nil, or_false, Prod.mk.injEq] at h; rcases h with ⟨rfl, rfl⟩ | ⟨rfl, rfl⟩ <;> first | exact noL_map (fun _ => by simp [PV.no, PV.noL, noL_iff, nbeq]) _ | (simp [PV.no, PV.noL, optS_no, noL_iff, nbeq] <;> omega)) | (simp at h; obtain ⟨rfl, rfl⟩ := h; exact noL_map (fun _ => by simp [PV.no, PV.noL, noL_iff, nbeq]) _) | (simp at h; obtain ⟨rfl, rfl⟩ := h; simp [PV.no, PV.noL, optS_no, noL_iff, nbeq] <;> omega)⟩⟩) lt0 ?_)
         rintro _ _ ⟨rfl, rfl⟩
         refine ⟨_, _, rfl, ?_⟩
         refine WalkP.step (p := ?pv3903) 10 rfl rfl rfl rfl rfl (⟨_, _, rfl, rfl, _, _, rfl, rfl, _, _, rfl, rfl, rfl⟩) ?hv3903 ?rest3903
         case hv3903 =>
          intro E1 H1 hI1
          refine (V1.build rfl rfl zk_34 pl_34 rfl rfl lt0 ?_)
          exact rfl
         refine WalkP.nil ?_
         refine NodeS.fin inNil rfl rfl rfl (⟨_, _, rfl, rfl, _, _, rfl, rfl, _, _, rfl, rfl, _, _, rfl, rfl, _, _, rfl, rfl, _, _, rfl, rfl, rfl⟩) ?_
         refine VO.cons rfl (V1.storeRefAll (k := 2) rfl rfl tyk_34 rfl rfl rfl rfl rfl rfl ?_)
         refine VO.nil ?_
         exact ⟨(y3.2, b34), Option.some.inj hm2, Keeps.mk (ks := [2, 0, 4]) rfl ⟨rfl, rfl, rfl, rfl, rfl, trivial⟩ (⟨_, _, rfl, rfl, _, _, rfl, rfl, _, _, rfl, rfl, rfl⟩) rfl⟩
       ·
        refine ⟨_, _, _, _, rfl, rfl, rfl, (⟨_, _, rfl, rfl, _, _, rfl, rfl, rfl⟩), fun E1 => ?_⟩
        refine (V1.callM 3 (rn + ρ0 + 1) [b22] [.ref bp 3 0 0, .vl (rn + ρ0 + 1) 1 (List.map encInt ([(0 : Int), (100 : Int), (100 : Int), (900 : Int), (20000 : Int)] : List Int))] (p := (bp, ⟨3, [encCur ρ0 y2.2]⟩)) rfl rfl rfl cok_69 rfl rfl ⟨_, _, rfl, .same _, ⟨_, _, rfl, Lend.srMap 2 rfl (fun _ => rfl) (.head _), rfl⟩⟩ (bwCons (k := 2) rfl bwNil) (ok_spec_l1Cur_among hh2) rfl (.inr ⟨(by first | omega | (dsimp only; omega)), by rintro _ _ ⟨rfl, rfl⟩; exact ⟨by simp [PV.no, PV.noL, optS_no, noL_iff, nbeq] <;> omega, by intro b ob h; first | exact optH_no (noL_map (fun _ => by simp [PV.no, PV.noL, noL_iff, nbeq]) _) b ob h | (simp only [List.append_assoc, List.mem_append, List.mem_cons, List.mem_singleton, List.not_mem_nil, or_false, Prod.mk.injEq] at h; rcases h with ⟨rfl, rfl⟩ | ⟨rfl, rfl⟩ <;> first | exact noL_map (fun _ => by simp [PV.no, PV.noL, noL_iff, nbeq]) _ | (simp [PV.no, PV.noL, optS_no, noL_iff, nbeq] <;> omega)) | (simp at h; obtain ⟨rfl, rfl⟩ := h; exact noL_map (fun _ => by simp [PV.no, PV.noL, noL_iff, nbeq]) _) | (simp at h; obtain ⟨rfl, rfl⟩ := h; simp [PV.no, PV.noL, optS_no, noL_iff, nbeq] <;> omega)⟩⟩) lt0 ?_)
        rintro _ _ ⟨rfl, rfl⟩
        refine ⟨_, _, rfl, ?_⟩
        refine WalkP.nil ?_
        refine NodeS.branch [6] inNil rfl rfl rfl ⟨?_, trivial⟩
        ·
         refine ⟨_, _, _, _, rfl, rfl, rfl, (⟨_, _, rfl, rfl, rfl⟩), fun E1 => ?_⟩
         refine (V1.convStrOwn (k := 1) (l := ([(IntKind.u8.wrap (IntKind.i64.wrap ((97 : Int) + (out_0.length : Int)))), (120 : Int)] : List Int)) rfl rfl usl_22 und_5 (isStr_spec istr_9) rfl rfl lt0 ?_)
         refine ⟨_, _, rfl, ?_⟩
         refine WalkP.step (p := ?pv3905) 10 rfl rfl rfl rfl rfl (⟨_, _, rfl, rfl, _, _, rfl, rfl, _, _, rfl, rfl, rfl⟩) ?hv3905 ?rest3905
         case hv3905 =>
          intro E1 H1 hI1
          refine (V1.build rfl rfl zk_34 pl_34 rfl rfl lt0 ?_)
          exact rfl
         refine WalkP.nil ?_
         refine NodeS.fin inNil rfl rfl rfl (⟨_, _, rfl, rfl, _, _, rfl, rfl, _, _, rfl, rfl, _, _, rfl, rfl, _, _, rfl, rfl, _, _, rfl, rfl, rfl⟩) ?_
         refine VO.cons rfl (V1.storeRefAll (k := 2) rfl rfl tyk_34 rfl rfl rfl rfl rfl rfl ?_)
         refine VO.nil ?_
         exact ⟨(y3.2, b34), Option.some.inj hm2, Keeps.mk (ks := [2, 0, 4]) rfl ⟨rfl, rfl, rfl, rfl, rfl, trivial⟩ (⟨_, _, rfl, rfl, _, _, rfl, rfl, _, _, rfl, rfl, rfl⟩) rfl⟩
      ·
       refine ⟨_, _, _, _, rfl, rfl, rfl, (⟨_, _, rfl, rfl, _, _, rfl, rfl, rfl⟩), fun E1 => ?_⟩
       refine (V1.callM 2 (rn + ρ0 + 1) [b22] [.ref bp 3 0 0, .vl (rn + ρ0 + 1) 1 (List.map encInt ([(0 : Int), (100 : Int), (100 : Int), (900 : Int), (20000 : Int)] : List Int))] (p := (bp, ⟨3, [encCur ρ0 y2.2]⟩)) rfl rfl rfl cok_69 rfl rfl ⟨_, _, rfl, .same _, ⟨_, _, rfl, Lend.srMap 1 rfl (fun _ => rfl) (.head _), rfl⟩⟩ (bwCons (k := 1) rfl bwNil) (ok_spec_l1Cur_among hh2) rfl (.inr ⟨(by first | omega | (dsimp only; omega)), by rintro _ _ ⟨rfl, rfl⟩; exact ⟨by simp [PV.no, PV.noL, optS_no, noL_iff, nbeq] <;> omega, by intro b ob h; first | exact optH_no (noL_map (fun _ => by simp [PV.no, PV.noL, noL_iff, nbeq]) _) b ob h | (simp only [List.append_assoc, List.mem_append, List.mem_cons, List.mem_singleton, List.not_mem_nil, or_false, Prod.mk.injEq] at h; rcases h with ⟨rfl, rfl⟩ | ⟨rfl, rfl⟩ <;> first | exact noL_map (fun _ => by simp [PV.no, PV.noL, noL_iff, nbeq]) _ | (simp [PV.no, PV.noL, optS_no, noL_iff, nbeq] <;> omega)) | (simp at h; obtain ⟨rfl, rfl⟩ := h; exact noL_map (fun _ => by simp [PV.no, PV.noL, noL_iff, nbeq]) _) | (simp at h; obtain ⟨rfl, rfl⟩ := h; simp [PV.no, PV.noL, optS_no, noL_iff, nbeq] <;> omega)⟩⟩) lt0 ?_)
       rintro _ _ ⟨rfl, rfl⟩
       refine ⟨_, _, rfl, ?_⟩
       refine WalkP.nil ?_
       refine NodeS.branch [5] inNil rfl rfl rfl ⟨?_, trivial⟩
       ·
        refine ⟨_, _, _, _, rfl, rfl, rfl, (⟨_, _, rfl, rfl, rfl⟩), fun E1 => ?_⟩
        refine (V1.buildSliceT (f := encU8) ([(IntKind.u8.wrap (IntKind.i64.wrap ((97 : Int) + (out_0.length : Int)))), (120 : Int)] : List Int) rfl rfl esz_22 zk_5 rfl rfl rfl rfl rfl rfl rfl lt0 ?_)
        intro b36
        refine ⟨_, _, rfl, ?_⟩
        refine WalkP.nil ?_
        refine NodeS.branch [6] inNil rfl rfl rfl ⟨?_, trivial⟩
        ·
         refine ⟨_, _, _, _, rfl, rfl, rfl, (⟨_, _, rfl, rfl, rfl⟩), fun E1 => ?_⟩
         refine (V1.convStrOwn (k := 0) (l := ([(IntKind.u8.wrap (IntKind.i64.wrap ((97 : Int) + (out_0.length : Int)))), (120 : Int)] : List Int)) rfl rfl usl_22 und_5 (isStr_spec istr_9) rfl rfl lt0 ?_)
         refine ⟨_, _, rfl, ?_⟩
         refine WalkP.step (p := ?pv3907) 10 rfl rfl rfl rfl rfl (⟨_, _, rfl, rfl, _, _, rfl, rfl, _, _, rfl, rfl, rfl⟩) ?hv3907 ?rest3907
         case hv3907 =>
          intro E1 H1 hI1
          refine (V1.build rfl rfl zk_34 pl_34 rfl rfl lt0 ?_)
          exact rfl
         refine WalkP.nil ?_
         refine NodeS.fin inNil rfl rfl rfl (⟨_, _, rfl, rfl, _, _, rfl, rfl, _, _, rfl, rfl, _, _, rfl, rfl, _, _, rfl, rfl, _, _, rfl, rfl, rfl⟩) ?_
         refine VO.cons rfl (V1.storeRefAll (k := 2) rfl rfl tyk_34 rfl rfl rfl rfl rfl rfl ?_)
         refine VO.nil ?_
         exact ⟨(y3.2, b34), Option.some.inj hm2, Keeps.mk (ks := [2, 1, 4]) rfl ⟨rfl, rfl, rfl, rfl, rfl, trivial⟩ (⟨_, _, rfl, rfl, _, _, rfl, rfl, _, _, rfl, rfl, rfl⟩) rfl⟩
    ·
     refine ⟨_, _, _, _, rfl, rfl, rfl, (rfl), fun E1 => ?_⟩
     refine (V1.alloc rfl rfl zk_34 lt0 ?_)
     intro b37
     refine ⟨_, _, rfl, ?_⟩
     refine WalkP.nil ?_
     refine NodeS.branch [5, 8] inNil rfl rfl rfl ⟨?_, ?_, trivial⟩
     ·
      refine ⟨_, _, _, _, rfl, rfl, rfl, (⟨_, _, rfl, rfl, rfl⟩), fun E1 => ?_⟩
      refine (V1.buildSliceT (f := encU8) ([(IntKind.u8.wrap (IntKind.i64.wrap ((97 : Int) + (out_0.length : Int)))), (120 : Int)] : List Int) rfl rfl esz_22 zk_5 rfl rfl rfl rfl rfl rfl rfl lt0 ?_)
      intro b38
      refine ⟨_, _, rfl, ?_⟩
      refine WalkP.nil ?_
      refine NodeS.branch [6, 8] inNil rfl rfl rfl ⟨?_, ?_, trivial⟩
      ·
       refine ⟨_, _, _, _, rfl, rfl, rfl, (⟨_, _, rfl, rfl, rfl⟩), fun E1 => ?_⟩
       refine (V1.convStrOwn (k := 0) (l := ([(IntKind.u8.wrap (IntKind.i64.wrap ((97 : Int) + (out_0.length : Int)))), (120 : Int)] : List Int)) rfl rfl usl_22 und_5 (isStr_spec istr_9) rfl rfl lt0 ?_)
       refine ⟨_, _, rfl, ?_⟩
       refine WalkP.nil ?_
       refine NodeS.branch [8] inNil rfl rfl rfl ⟨?_, trivial⟩
       ·
        refine ⟨_, _, _, _, rfl, rfl, rfl, (rfl), fun E1 => ?_⟩
        refine (V1.buildSliceT (f := encInt) ([(0 : Int), (100 : Int), (100 : Int), (900 : Int), (20000 : Int)] : List Int) rfl rfl esz_27 zk_3 rfl rfl rfl rfl rfl rfl rfl lt0 ?_)
        intro b39
        refine ⟨_, _, rfl, ?_⟩
        refine WalkP.nil ?_
        refine NodeS.branch [9] inNil rfl rfl rfl ⟨?_, trivial⟩
        ·
         refine ⟨_, _, _, _, rfl, rfl, rfl, (⟨_, _, rfl, rfl, _, _, rfl, rfl, rfl⟩), fun E1 => ?_⟩
         refine (V1.callM 3 (rn + ρ0 + 1) [b39] [.ref bp 3 0 0, .vl (rn + ρ0 + 1) 1 (List.map encInt ([(0 : Int), (100 : Int), (100 : Int), (900 : Int), (20000 : Int)] : List Int))] (p := (bp, ⟨3, [encCur ρ0 y2.2]⟩)) rfl rfl rfl cok_69 rfl rfl ⟨_, _, rfl, .same _, ⟨_, _, rfl, Lend.srMap 0 rfl (fun _ => rfl) (.head _), rfl⟩⟩ (bwCons (k := 0) rfl bwNil) (ok_spec_l1Cur_among hh2) rfl (.inr ⟨(by first | omega | (dsimp only; omega)), by rintro _ _ ⟨rfl, rfl⟩; exact ⟨by simp [PV.no, PV.noL, optS_no, noL_iff, nbeq] <;> omega, by intro b ob h; first | exact optH_no (noL_map (fun _ => by simp [PV.no, PV.noL, noL_iff, nbeq]) _) b ob h | (simp only [List.append_assoc, List.mem_append, List.mem_cons, List.mem_singleton, List.not_mem_nil, or_false, Prod.mk.injEq] at h; rcases h with ⟨rfl, rfl⟩ | ⟨rfl, rfl⟩ <;> first | exact noL_map (fun _ => by simp [PV.no, PV.noL, noL_iff, nbeq]) _ | (simp [PV.no, PV.noL, optS_no, noL_iff, nbeq] <;> omega)) | (simp at h; obtain ⟨rfl, rfl⟩ := h; exact noL_map (fun _ => by simp [PV.no, PV.noL, noL_iff, nbeq]) _) | (simp at h; obtain ⟨rfl, rfl⟩ := h; simp [PV.no, PV.noL, optS_no, noL_iff, nbeq] <;> omega)⟩⟩) lt0 ?_)
         rintro _ _ ⟨rfl, rfl⟩
         refine ⟨_, _, rfl, ?_⟩
         refine WalkP.step (p := ?pv3909) 10 rfl rfl rfl rfl rfl (⟨_, _, rfl, rfl, _, _, rfl, rfl, _, _, rfl, rfl, rfl⟩) ?hv3909 ?rest3909
         case hv3909 =>
          intro E1 H1 hI1
          refine (V1.build rfl rfl zk_34 pl_34 rfl rfl lt0 ?_)
          exact rfl
         refine WalkP.nil ?_
         refine NodeS.fin inNil rfl rfl rfl (⟨_, _, rfl, rfl, _, _, rfl, rfl, _, _, rfl, rfl, _, _, rfl, rfl, _, _, rfl, rfl, _, _, rfl, rfl, rfl⟩) ?_
         refine VO.cons rfl (V1.storeRefAll (k := 3) rfl rfl tyk_34 rfl rfl rfl rfl rfl rfl ?_)
         refine VO.nil ?_
         exact ⟨(y3.2, b37), Option.some.inj hm2, Keeps.mk (ks := [3, 0, 4]) rfl ⟨rfl, rfl, rfl, rfl, rfl, trivial⟩ (⟨_, _, rfl, rfl, _, _, rfl, rfl, _, _, rfl, rfl, rfl⟩) rfl⟩
      ·
       refine ⟨_, _, _, _, rfl, rfl, rfl, (rfl), fun E1 => ?_⟩
       refine (V1.buildSliceT (f := encInt) ([(0 : Int), (100 : Int), (100 : Int), (900 : Int), (20000 : Int)] : List Int) rfl rfl esz_27 zk_3 rfl rfl rfl rfl rfl rfl rfl lt0 ?_)
       intro b40
       refine ⟨_, _, rfl, ?_⟩
       refine WalkP.nil ?_
       refine NodeS.branch [6, 9] inNil rfl rfl rfl ⟨?_, ?_, trivial⟩
       ·
        refine ⟨_, _, _, _, rfl, rfl, rfl, (⟨_, _, rfl, rfl, rfl⟩), fun E1 => ?_⟩
        refine (V1.convStrOwn (k := 1) (l := ([(IntKind.u8.wrap (IntKind.i64.wrap ((97 : Int) + (out_0.length : Int)))), (120 : Int)] : List Int)) rfl rfl usl_22 und_5 (isStr_spec istr_9) rfl rfl lt0 ?_)
        refine ⟨_, _, rfl, ?_⟩
        refine WalkP.nil ?_
        refine NodeS.branch [9] inNil rfl rfl rfl ⟨?_, trivial⟩
        ·
         refine ⟨_, _, _, _, rfl, rfl, rfl, (⟨_, _, rfl, rfl, _, _, rfl, rfl, rfl⟩), fun E1 => ?_⟩
         refine (V1.callM 3 (rn + ρ0 + 1) [b40] [.ref bp 3 0 0, .vl (rn + ρ0 + 1) 1 (List.map encInt ([(0 : Int), (100 : Int), (100 : Int), (900 : Int), (20000 : Int)] : List Int))] (p := (bp, ⟨3, [encCur ρ0 y2.2]⟩)) rfl rfl rfl cok_69 rfl rfl ⟨_, _, rfl, .same _, ⟨_, _, rfl, Lend.srMap 0 rfl (fun _ => rfl) (.head _), rfl⟩⟩ (bwCons (k := 0) rfl bwNil) (ok_spec_l1Cur_among hh2) rfl (.inr ⟨(by first | omega | (dsimp only; omega)), by rintro _ _ ⟨rfl, rfl⟩; exact ⟨by simp [PV.no, PV.noL, optS_no, noL_iff, nbeq] <;> omega, by intro b ob h; first | exact optH_no (noL_map (fun _ => by simp [PV.no, PV.noL, noL_iff, nbeq]) _) b ob h | (simp only [List.append_assoc, List.mem_append, List.mem_cons, List.mem_singleton, List.not_mem_nil, or_false, Prod.mk.injEq] at h; rcases h with ⟨rfl, rfl⟩ | ⟨rfl, rfl⟩ <;> first | exact noL_map (fun _ => by simp [PV.no, PV.noL, noL_iff, nbeq]) _ | (simp [PV.no, PV.noL, optS_no, noL_iff, nbeq] <;> omega)) | (simp at h; obtain ⟨rfl, rfl⟩ := h; exact noL_map (fun _ => by simp [PV.no, PV.noL, noL_iff, nbeq]) _) | (simp at h; obtain ⟨rfl, rfl⟩ := h; simp [PV.no, PV.noL, optS_no, noL_iff, nbeq] <;> omega)⟩⟩) lt0 ?_)
         rintro _ _ ⟨rfl, rfl⟩
         refine ⟨_, _, rfl, ?_⟩
         refine WalkP.step (p := ?pv3911) 10 rfl rfl rfl rfl rfl (⟨_, _, rfl, rfl, _, _, rfl, rfl, _, _, rfl, rfl, rfl⟩) ?hv3911 ?rest3911
         case hv3911 =>
          intro E1 H1 hI1
          refine (V1.build rfl rfl zk_34 pl_34 rfl rfl lt0 ?_)
          exact rfl
         refine WalkP.nil ?_
         refine NodeS.fin inNil rfl rfl rfl (⟨_, _, rfl, rfl, _, _, rfl, rfl, _, _, rfl, rfl, _, _, rfl, rfl, _, _, rfl, rfl, _, _, rfl, rfl, rfl⟩) ?_
         refine VO.cons rfl (V1.storeRefAll (k := 3) rfl rfl tyk_34 rfl rfl rfl rfl rfl rfl ?_)
         refine VO.nil ?_
         exact ⟨(y3.2, b37), Option.some.inj hm2, Keeps.mk (ks := [3, 0, 4]) rfl ⟨rfl, rfl, rfl, rfl, rfl, trivial⟩ (⟨_, _, rfl, rfl, _, _, rfl, rfl, _, _, rfl, rfl, rfl⟩) rfl⟩
       ·
        refine ⟨_, _, _, _, rfl, rfl, rfl, (⟨_, _, rfl, rfl, _, _, rfl, rfl, rfl⟩), fun E1 => ?_⟩
        refine (V1.callM 3 (rn + ρ0 + 1) [b40] [.ref bp 3 0 0, .vl (rn + ρ0 + 1) 1 (List.map encInt ([(0 : Int), (100 : Int), (100 : Int), (900 : Int), (20000 : Int)] : List Int))] (p := (bp, ⟨3, [encCur ρ0 y2.2]⟩)) rfl rfl rfl cok_69 rfl rfl ⟨_, _, rfl, .same _, ⟨_, _, rfl, Lend.srMap 0 rfl (fun _ => rfl) (.head _), rfl⟩⟩ (bwCons (k := 0) rfl bwNil) (ok_spec_l1Cur_among hh2) rfl (.inr ⟨(by first | omega | (dsimp only; omega)), by rintro _ _ ⟨rfl, rfl⟩; exact ⟨by simp [PV.no, PV.noL, optS_no, noL_iff, nbeq] <;> omega, by intro b ob h; first | exact optH_no (noL_map (fun _ => by simp [PV.no, PV.noL, noL_iff, nbeq]) _) b ob h | (simp only [List.append_assoc, List.mem_append, List.mem_cons, List.mem_singleton, List.not_mem_nil, or_false, Prod.mk.injEq] at h; rcases h with ⟨rfl, rfl⟩ | ⟨rfl, rfl⟩ <;> first | exact noL_map (fun _ => by simp [PV.no, PV.noL, noL_iff, nbeq]) _ | (simp [PV.no, PV.noL, optS_no, noL_iff, nbeq] <;> omega)) | (simp at h; obtain ⟨rfl, rfl⟩ := h; exact noL_map (fun _ => by simp [PV.no, PV.noL, noL_iff, nbeq]) _) | (simp at h; obtain ⟨rfl, rfl⟩ := h; simp [PV.no, PV.noL, optS_no, noL_iff, nbeq] <;> omega)⟩⟩) lt0 ?_)
        rintro _ _ ⟨rfl, rfl⟩
        refine ⟨_, _, rfl, ?_⟩
        refine WalkP.nil ?_
        refine NodeS.branch [6] inNil rfl rfl rfl ⟨?_, trivial⟩
        ·
         refine ⟨_, _, _, _, rfl, rfl, rfl, (⟨_, _, rfl, rfl, rfl⟩), fun E1 => ?_⟩
         refine (V1.convStrOwn (k := 2) (l := ([(IntKind.u8.wrap (IntKind.i64.wrap ((97 : Int) + (out_0.length : Int)))), (120 : Int)] : List Int)) rfl rfl usl_22 und_5 (isStr_spec istr_9) rfl rfl lt0 ?_)
         refine ⟨_, _, rfl, ?_⟩
         refine WalkP.step (p := ?pv3913) 10 rfl rfl rfl rfl rfl (⟨_, _, rfl, rfl, _, _, rfl, rfl, _, _, rfl, rfl, rfl⟩) ?hv3913 ?rest3913
         case hv3913 =>
          intro E1 H1 hI1
          refine (V1.build rfl rfl zk_34 pl_34 rfl rfl lt0 ?_)
          exact rfl
         refine WalkP.nil ?_
         refine NodeS.fin inNil rfl rfl rfl (⟨_, _, rfl, rfl, _, _, rfl, rfl, _, _, rfl, rfl, _, _, rfl, rfl, _, _, rfl, rfl, _, _, rfl, rfl, rfl⟩) ?_
         refine VO.cons rfl (V1.storeRefAll (k := 3) rfl rfl tyk_34 rfl rfl rfl rfl rfl rfl ?_)
         refine VO.nil ?_
         exact ⟨(y3.2, b37), Option.some.inj hm2, Keeps.mk (ks := [3, 0, 4]) rfl ⟨rfl, rfl, rfl, rfl, rfl, trivial⟩ (⟨_, _, rfl, rfl, _, _, rfl, rfl, _, _, rfl, rfl, rfl⟩) rfl⟩
     ·
      refine ⟨_, _, _, _, rfl, rfl, rfl, (rfl), fun E1 => ?_⟩
      refine (V1.buildSliceT (f := encInt) ([(0 : Int), (100 : Int), (100 : Int), (900 : Int), (20000 : Int)] : List Int) rfl rfl esz_27 zk_3 rfl rfl rfl rfl rfl rfl rfl lt0 ?_)
      intro b41
      refine ⟨_, _, rfl, ?_⟩
      refine WalkP.nil ?_
      refine NodeS.branch [5, 9] inNil rfl rfl rfl ⟨?_, ?_, trivial⟩
      ·
       refine ⟨_, _, _, _, rfl, rfl, rfl, (⟨_, _, rfl, rfl, rfl⟩), fun E1 => ?_⟩
       refine (V1.buildSliceT (f := encU8) ([(IntKind.u8.wrap (IntKind.i64.wrap ((97 : Int) + (out_0.length : Int)))), (120 : Int)] : List Int) rfl rfl esz_22 zk_5 rfl rfl rfl rfl rfl rfl rfl lt0 ?_)
       intro b42
       refine ⟨_, _, rfl, ?_⟩
       refine WalkP.nil ?_
       refine NodeS.branch [6, 9] inNil rfl rfl rfl ⟨?_, ?_, trivial⟩
       ·
        refine ⟨_, _, _, _, rfl, rfl, rfl, (⟨_, _, rfl, rfl, rfl⟩), fun E1 => ?_⟩
        refine (V1.convStrOwn (k := 0) (l := ([(IntKind.u8.wrap (IntKind.i64.wrap ((97 : Int) + (out_0.length : Int)))), (120 : Int)] : List Int)) rfl rfl usl_22 und_5 (isStr_spec istr_9) rfl rfl lt0 ?_)
        refine ⟨_, _, rfl, ?_⟩
        refine WalkP.nil ?_
        refine NodeS.branch [9] inNil rfl rfl rfl ⟨?_, trivial⟩
        ·
         refine ⟨_, _, _, _, rfl, rfl, rfl, (⟨_, _, rfl, rfl, _, _, rfl, rfl, rfl⟩), fun E1 => ?_⟩
         refine (V1.callM 3 (rn + ρ0 + 1) [b41] [.ref bp 3 0 0, .vl (rn + ρ0 + 1) 1 (List.map encInt ([(0 : Int), (100 : Int), (100 : Int), (900 : Int), (20000 : Int)] : List Int))] (p := (bp, ⟨3, [encCur ρ0 y2.2]⟩)) rfl rfl rfl cok_69 rfl rfl ⟨_, _, rfl, .same _, ⟨_, _, rfl, Lend.srMap 1 rfl (fun _ => rfl) (.head _), rfl⟩⟩ (bwCons (k := 1) rfl bwNil) (ok_spec_l1Cur_among hh2) rfl (.inr ⟨(by first | omega | (dsimp only; omega)), by rintro _ _ ⟨rfl, rfl⟩; exact ⟨by simp [PV.no, PV.noL, optS_no, noL_iff, nbeq] <;> omega, by intro b ob h; first | exact optH_no (noL_map (fun _ => by simp [PV.no, PV.noL, noL_iff, nbeq]) _) b ob h | (simp only [List.append_assoc, List.mem_append, List.mem_cons, List.mem_singleton, List.not_mem_nil, or_false, Prod.mk.injEq] at h; rcases h with ⟨rfl, rfl⟩ | ⟨rfl, rfl⟩ <;> first | exact noL_map (fun _ => by simp [PV.no, PV.noL, noL_iff, nbeq]) _ | (simp [PV.no, PV.noL, optS_no, noL_iff, nbeq] <;> omega)) | (simp at h; obtain ⟨rfl, rfl⟩ := h; exact noL_map (fun _ => by simp [PV.no, PV.noL, noL_iff, nbeq]) _) | (simp at h; obtain ⟨rfl, rfl⟩ := h; simp [PV.no, PV.noL, optS_no, noL_iff, nbeq] <;> omega)⟩⟩) lt0 ?_)
         rintro _ _ ⟨rfl, rfl⟩
         refine ⟨_, _, rfl, ?_⟩
         refine WalkP.step (p := ?pv3915) 10 rfl rfl rfl rfl rfl (⟨_, _, rfl, rfl, _, _, rfl, rfl, _, _, rfl, rfl, rfl⟩) ?hv3915 ?rest3915
         case hv3915 =>
          intro E1 H1 hI1
          refine (V1.build rfl rfl zk_34 pl_34 rfl rfl lt0 ?_)
          exact rfl
         refine WalkP.nil ?_
         refine NodeS.fin inNil rfl rfl rfl (⟨_, _, rfl, rfl, _, _, rfl, rfl, _, _, rfl, rfl, _, _, rfl, rfl, _, _, rfl, rfl, _, _, rfl, rfl, rfl⟩) ?_
         refine VO.cons rfl (V1.storeRefAll (k := 3) rfl rfl tyk_34 rfl rfl rfl rfl rfl rfl ?_)
         refine VO.nil ?_
         exact ⟨(y3.2, b37), Option.some.inj hm2, Keeps.mk (ks := [3, 0, 4]) rfl ⟨rfl, rfl, rfl, rfl, rfl, trivial⟩ (⟨_, _, rfl, rfl, _, _, rfl, rfl, _, _, rfl, rfl, rfl⟩) rfl⟩
       ·
        refine ⟨_, _, _, _, rfl, rfl, rfl, (⟨_, _, rfl, rfl, _, _, rfl, rfl, rfl⟩), fun E1 => ?_⟩
        refine (V1.callM 3 (rn + ρ0 + 1) [b41] [.ref bp 3 0 0, .vl (rn + ρ0 + 1) 1 (List.map encInt ([(0 : Int), (100 : Int), (100 : Int), (900 : Int), (20000 : Int)] : List Int))] (p := (bp, ⟨3, [encCur ρ0 y2.2]⟩)) rfl rfl rfl cok_69 rfl rfl ⟨_, _, rfl, .same _, ⟨_, _, rfl, Lend.srMap 1 rfl (fun _ => rfl) (.head _), rfl⟩⟩ (bwCons (k := 1) rfl bwNil) (ok_spec_l1Cur_among hh2) rfl (.inr ⟨(by first | omega | (dsimp only; omega)), by rintro _ _ ⟨rfl, rfl⟩; exact ⟨by simp [PV.no, PV.noL, optS_no, noL_iff, nbeq] <;> omega, by intro b ob h; first | exact optH_no (noL_map (fun _ => by simp [PV.no, PV.noL, noL_iff, nbeq]) _) b ob h | (simp only [List.append_assoc, List.mem_append, List.mem_cons, List.mem_singleton, List.not_mem_nil, or_false, Prod.mk.injEq] at h; rcases h with ⟨rfl, rfl⟩ | ⟨rfl, rfl⟩ <;> first | exact noL_map (fun _ => by simp [PV.no, PV.noL, noL_iff, nbeq]) _ | (simp [PV.no, PV.noL, optS_no, noL_iff, nbeq] <;> omega)) | (simp at h; obtain ⟨rfl, rfl⟩ := h; exact noL_map (fun _ => by simp [PV.no, PV.noL, noL_iff, nbeq]) _) | (simp at h; obtain ⟨rfl, rfl⟩ := h; simp [PV.no, PV.noL, optS_no, noL_iff, nbeq] <;> omega)⟩⟩) lt0 ?_)
        rintro _ _ ⟨rfl, rfl⟩
        refine ⟨_, _, rfl, ?_⟩
        refine WalkP.nil ?_
        refine NodeS.branch [6] inNil rfl rfl rfl ⟨?_, trivial⟩
        ·
         refine ⟨_, _, _, _, rfl, rfl, rfl, (⟨_, _, rfl, rfl, rfl⟩), fun E1 => ?_⟩
         refine (V1.convStrOwn (k := 1) (l := ([(IntKind.u8.wrap (IntKind.i64.wrap ((97 : Int) + (out_0.length : Int)))), (120 : Int)] : List Int)) rfl rfl usl_22 und_5 (isStr_spec istr_9) rfl rfl lt0 ?_)
         refine ⟨_, _, rfl, ?_⟩
         refine WalkP.step (p := ?pv3917) 10 rfl rfl rfl rfl rfl (⟨_, _, rfl, rfl, _, _, rfl, rfl, _, _, rfl, rfl, rfl⟩) ?hv3917 ?rest3917
         case hv3917 =>
          intro E1 H1 hI1
          refine (V1.build rfl rfl zk_34 pl_34 rfl rfl lt0 ?_)
          exact rfl
         refine WalkP.nil ?_
         refine NodeS.fin inNil rfl rfl rfl (⟨_, _, rfl, rfl, _, _, rfl, rfl, _, _, rfl, rfl, _, _, rfl, rfl, _, _, rfl, rfl, _, _, rfl, rfl, rfl⟩) ?_
         refine VO.cons rfl (V1.storeRefAll (k := 3) rfl rfl tyk_34 rfl rfl rfl rfl rfl rfl ?_)
         refine VO.nil ?_
         exact ⟨(y3.2, b37), Option.some.inj hm2, Keeps.mk (ks := [3, 0, 4]) rfl ⟨rfl, rfl, rfl, rfl, rfl, trivial⟩ (⟨_, _, rfl, rfl, _, _, rfl, rfl, _, _, rfl, rfl, rfl⟩) rfl⟩
      ·
       refine ⟨_, _, _, _, rfl, rfl, rfl, (⟨_, _, rfl, rfl, _, _, rfl, rfl, rfl⟩), fun E1 => ?_⟩
       refine (V1.callM 2 (rn + ρ0 + 1) [b41] [.ref bp 3 0 0, .vl (rn + ρ0 + 1) 1 (List.map encInt ([(0 : Int), (100 : Int), (100 : Int), (900 : Int), (20000 : Int)] : List Int))] (p := (bp, ⟨3, [encCur ρ0 y2.2]⟩)) rfl rfl rfl cok_69 rfl rfl ⟨_, _, rfl, .same _, ⟨_, _, rfl, Lend.srMap 0 rfl (fun _ => rfl) (.head _), rfl⟩⟩ (bwCons (k := 0) rfl bwNil) (ok_spec_l1Cur_among hh2) rfl (.inr ⟨(by first | omega | (dsimp only; omega)), by rintro _ _ ⟨rfl, rfl⟩; exact ⟨by simp [PV.no, PV.noL, optS_no, noL_iff, nbeq] <;> omega, by intro b ob h; first | exact optH_no (noL_map (fun _ => by simp [PV.no, PV.noL, noL_iff, nbeq]) _) b ob h | (simp only [List.append_assoc, List.mem_append, List.mem_cons, List.mem_singleton, List.not_mem_nil, or_false, Prod.mk.injEq] at h; rcases h with ⟨rfl, rfl⟩ | ⟨rfl, rfl⟩ <;> first | exact noL_map (fun _ => by simp [PV.no, PV.noL, noL_iff, nbeq]) _ | (simp [PV.no, PV.noL, optS_no, noL_iff, nbeq] <;> omega)) | (simp at h; obtain ⟨rfl, rfl⟩ := h; exact noL_map (fun _ => by simp [PV.no, PV.noL, noL_iff, nbeq]) _) | (simp at h; obtain ⟨rfl, rfl⟩ := h; simp [PV.no, PV.noL, optS_no, noL_iff, nbeq] <;> omega)⟩⟩) lt0 ?_)
       rintro _ _ ⟨rfl, rfl⟩
       refine ⟨_, _, rfl, ?_⟩
       refine WalkP.nil ?_
       refine NodeS.branch [5] inNil rfl rfl rfl ⟨?_, trivial⟩
       ·
        refine ⟨_, _, _, _, rfl, rfl, rfl, (⟨_, _, rfl, rfl, rfl⟩), fun E1 => ?_⟩
        refine (V1.buildSliceT (f := encU8) ([(IntKind.u8.wrap (IntKind.i64.wrap ((97 : Int) + (out_0.length : Int)))), (120 : Int)] : List Int) rfl rfl esz_22 zk_5 rfl rfl rfl rfl rfl rfl rfl lt0 ?_)
        intro b43
        refine ⟨_, _, rfl, ?_⟩
        refine WalkP.nil ?_
        refine NodeS.branch [6] inNil rfl rfl rfl ⟨?_, trivial⟩
        ·
         refine ⟨_, _, _, _, rfl, rfl, rfl, (⟨_, _, rfl, rfl, rfl⟩), fun E1 => ?_⟩
         refine (V1.convStrOwn (k := 0) (l := ([(IntKind.u8.wrap (IntKind.i64.wrap ((97 : Int) + (out_0.length : Int)))), (120 : Int)] : List Int)) rfl rfl usl_22 und_5 (isStr_spec istr_9) rfl rfl lt0 ?_)
         refine ⟨_, _, rfl, ?_⟩
         refine WalkP.step (p := ?pv3919) 10 rfl rfl rfl rfl rfl (⟨_, _, rfl, rfl, _, _, rfl, rfl, _, _, rfl, rfl, rfl⟩) ?hv3919 ?rest3919
         case hv3919 =>
          intro E1 H1 hI1
          refine (V1.build rfl rfl zk_34 pl_34 rfl rfl lt0 ?_)
          exact rfl
         refine WalkP.nil ?_
         refine NodeS.fin inNil rfl rfl rfl (⟨_, _, rfl, rfl, _, _, rfl, rfl, _, _, rfl, rfl, _, _, rfl, rfl, _, _, rfl, rfl, _, _, rfl, rfl, rfl⟩) ?_
         refine VO.cons rfl (V1.storeRefAll (k := 3) rfl rfl tyk_34 rfl rfl rfl rfl rfl rfl ?_)
         refine VO.nil ?_
         exact ⟨(y3.2, b37), Option.some.inj hm2, Keeps.mk (ks := [3, 1, 4]) rfl ⟨rfl, rfl, rfl, rfl, rfl, trivial⟩ (⟨_, _, rfl, rfl, _, _, rfl, rfl, _, _, rfl, rfl, rfl⟩) rfl⟩
   ·
    rintro ⟨c_1, b6⟩ rfl
    try dsimp only at hm1
    refine V.seq ?_
    refine V.seq ?_
    refine V.region ?_
    refine VO.cons rfl (V1.assign rfl rfl rfl lt0 ?_)
    refine VO.nil ?_
    replace hm1 := bindO hm1; rcases hm1 with ⟨e1, he2, hm1⟩
    refine V.cutT (D := (List Int × Cur) × (Option Nat)) (fun ⟨⟨f_Reads, c_2⟩, ob0⟩ => ⟨142, [(0, .ref bp 3 0 0), (3, .sref b2 4 0 (List.length out_0)), (4, .int .i64 (IntKind.i64.wrap ((IntKind.i64.wrap (id_0 + (1 : Int))) + y2.1))), (5, .int .i64 n_), (6, .ref b6 4 0 0)], optH 1 ob0 (List.map encInt f_Reads) ++ [(bp, ⟨3, [encCur ρ0 c_2]⟩)] ++ [(b6, ⟨4, [.agg [.int .i64 (IntKind.i64.wrap ((IntKind.i64.wrap (id_0 + (1 : Int))) + y2.1)), .str (toBytes ([(IntKind.u8.wrap (IntKind.i64.wrap ((97 : Int) + (out_0.length : Int)))), (120 : Int)] : List Int)), .int .i64 y3.1, optS 1 ob0 (List.length f_Reads)]]⟩)] ++ [(b2, ⟨4, List.map (encFormat rn) out_0⟩)]⟩) (fun ⟨⟨f_Reads, c_2⟩, ob0⟩ => ((f_Reads, c_2) = e1) ∧ (ob0 = none → f_Reads = [])) ?_ ?_
    ·
     refine V.block ?_
     refine V.keep 142 [7, 0, 3, 4, 5, 6] [1, 0, 2] (E0 := [(7, .int .i64 (0 : Int)), (0, .ref bp 3 0 0), (3, .sref b2 4 0 (List.length out_0)), (4, .int .i64 (IntKind.i64.wrap ((IntKind.i64.wrap (id_0 + (1 : Int))) + y2.1))), (5, .int .i64 n_), (6, .ref b6 4 0 0)]) (H0 := [(bp, ⟨3, [encCur ρ0 c_1]⟩), (b6, ⟨4, [.agg [.int .i64 (IntKind.i64.wrap ((IntKind.i64.wrap (id_0 + (1 : Int))) + y2.1)), .str (toBytes ([(IntKind.u8.wrap (IntKind.i64.wrap ((97 : Int) + (out_0.length : Int)))), (120 : Int)] : List Int)), .int .i64 y3.1, .nils]]⟩), (b2, ⟨4, List.map (encFormat rn) out_0⟩)]) rfl (⟨_, _, rfl, rfl, _, _, rfl, rfl, _, _, rfl, rfl, _, _, rfl, rfl, _, _, rfl, rfl, _, _, rfl, rfl, rfl⟩) (⟨_, _, rfl, rfl, _, _, rfl, rfl, _, _, rfl, rfl, rfl⟩) rfl ?_
     refine V.loopE (D := Nat × (Int × List Int × Cur) × (Option Nat)) (fun ⟨n1, ⟨i, f_Reads0, c_3⟩, ob1⟩ => [(7, .int .i64 i)]) (fun ⟨n1, ⟨i, f_Reads0, c_3⟩, ob1⟩ => optH 1 ob1 (List.map encInt f_Reads0) ++ [(bp, ⟨3, [encCur ρ0 c_3]⟩)] ++ [(b6, ⟨4, [.agg [.int .i64 (IntKind.i64.wrap ((IntKind.i64.wrap (id_0 + (1 : Int))) + y2.1)), .str (toBytes ([(IntKind.u8.wrap (IntKind.i64.wrap ((97 : Int) + (out_0.length : Int)))), (120 : Int)] : List Int)), .int .i64 y3.1, optS 1 ob1 (List.length f_Reads0)]]⟩)]) (fun ⟨n1, ⟨i, f_Reads0, c_3⟩, ob1⟩ => loopO (M.spec_l1Cur_formats_l1 out_0) n1 (i, f_Reads0, c_3) = some e1 ∧ (ob1 = none → f_Reads0 = [])) (fun ⟨n1, _, _⟩ => n1) (rounds, ((0 : Int), ([] : List Int), c_1), none) rfl ⟨he2, (fun _ => rfl)⟩ ?_
     rintro ⟨n1, ⟨i, f_Reads0, c_3⟩, ob1⟩ ⟨hP1, hob1⟩
     obtain ⟨m1, y4, rfl, hm2, hl2, hr2⟩ := loop_head hP1
     unfold M.spec_l1Cur_formats_l1 at hm2; dsimp only at hm2
     rcases ob1 with _ | ob1
     ·
      replace hob1 := hob1 rfl
      show V _ _ _ ⟨142, [(7, .int .i64 i), (0, .ref bp 3 0 0), (3, .sref b2 4 0 (List.length out_0)), (4, .int .i64 (IntKind.i64.wrap ((IntKind.i64.wrap (id_0 + (1 : Int))) + y2.1))), (5, .int .i64 n_), (6, .ref b6 4 0 0)], [(bp, ⟨3, [encCur ρ0 c_3]⟩), (b6, ⟨4, [.agg [.int .i64 (IntKind.i64.wrap ((IntKind.i64.wrap (id_0 + (1 : Int))) + y2.1)), .str (toBytes ([(IntKind.u8.wrap (IntKind.i64.wrap ((97 : Int) + (out_0.length : Int)))), (120 : Int)] : List Int)), .int .i64 y3.1, .nils]]⟩), (b2, ⟨4, List.map (encFormat rn) out_0⟩)]⟩
      refine V.seq ?_
      refine V.seq ?_
      refine V.region ?_
      refine VO.cons rfl (V1.move rfl rfl rfl lt0 ?_)
      refine VO.cons rfl (V1.move rfl rfl rfl lt0 ?_)
      refine VO.cons rfl (V1.lenSref rfl rfl rfl rfl rfl rfl isl_24 lt0 ?_)
      refine VO.cons rfl (V1.int rfl rfl rfl rfl rfl lt0 ?_)
      refine VO.nil ?_
      refine V.cond rfl (fun hc1 => ?_) (fun hc1 => ?_)
      ·
       replace hm2 := cond_t hc1 hm2
       refine V.skip ?_
       refine V.keep 142 [0, 3, 4, 5, 6, 7] [0, 1, 2] (E0 := [(0, .ref bp 3 0 0), (3, .sref b2 4 0 (List.length out_0)), (4, .int .i64 (IntKind.i64.wrap ((IntKind.i64.wrap (id_0 + (1 : Int))) + y2.1))), (5, .int .i64 n_), (6, .ref b6 4 0 0), (7, .int .i64 i)]) (H0 := [(bp, ⟨3, [encCur ρ0 c_3]⟩), (b6, ⟨4, [.agg [.int .i64 (IntKind.i64.wrap ((IntKind.i64.wrap (id_0 + (1 : Int))) + y2.1)), .str (toBytes ([(IntKind.u8.wrap (IntKind.i64.wrap ((97 : Int) + (out_0.length : Int)))), (120 : Int)] : List Int)), .int .i64 y3.1, .nils]]⟩), (b2, ⟨4, List.map (encFormat rn) out_0⟩)]) rfl (⟨_, _, rfl, rfl, _, _, rfl, rfl, _, _, rfl, rfl, _, _, rfl, rfl, _, _, rfl, rfl, _, _, rfl, rfl, rfl⟩) (⟨_, _, rfl, rfl, _, _, rfl, rfl, _, _, rfl, rfl, rfl⟩) rfl ?_
       refine V.seq ?_
       replace hm2 := bindO hm2; rcases hm2 with ⟨j1, hm3, hm2⟩
       refine V.cutT (D := (List Int × Cur) × (Option Nat)) (fun ⟨⟨f_Reads1, c_4⟩, ob2⟩ => ⟨142, [(0, .ref bp 3 0 0), (3, .sref b2 4 0 (List.length out_0)), (4, .int .i64 (IntKind.i64.wrap ((IntKind.i64.wrap (id_0 + (1 : Int))) + y2.1))), (5, .int .i64 n_), (6, .ref b6 4 0 0), (7, .int .i64 i)], optH 1 ob2 (List.map encInt f_Reads1) ++ [(bp, ⟨3, [encCur ρ0 c_4]⟩)] ++ [(b6, ⟨4, [.agg [.int .i64 (IntKind.i64.wrap ((IntKind.i64.wrap (id_0 + (1 : Int))) + y2.1)), .str (toBytes ([(IntKind.u8.wrap (IntKind.i64.wrap ((97 : Int) + (out_0.length : Int)))), (120 : Int)] : List Int)), .int .i64 y3.1, optS 1 ob2 (List.length f_Reads1)]]⟩)] ++ [(b2, ⟨4, List.map (encFormat rn) out_0⟩)]⟩) (fun ⟨⟨f_Reads1, c_4⟩, ob2⟩ => ((f_Reads1, c_4) = j1) ∧ (ob2 = none → f_Reads1 = [])) ?_ ?_
       ·
        refine V.block ?_
        refine V.seq ?_
        replace hm3 := bindO hm3; rcases hm3 with ⟨y5, hh3, hm3⟩
        refine V.region ?_
        refine VO.cons rfl (V1.move rfl rfl rfl lt0 ?_)
        refine VO.cons rfl (V1.callM 0 (rn + ρ0 + 1) [] [.ref bp 3 0 0, .int .i64 (2 : Int)] (p := (bp, ⟨3, [encCur ρ0 c_3]⟩)) rfl rfl rfl cok_108 rfl rfl ⟨_, _, rfl, .same _, ⟨_, _, rfl, .same _, rfl⟩⟩ bwNil (ok_spec_l1Cur_one hh3) rfl (.inl rfl) lt0 ?_)
        rintro _ _ ⟨rfl, rfl⟩
        refine VO.nil ?_
        refine V.cond rfl (fun hc2 => ?_) (fun hc2 => ?_)
        ·
         replace hm3 := cond_t hc2 hm3
         replace hm3 := asrt_some hm3; rcases hm3 with ⟨hh4, hm3⟩
         replace hm3 := asrt_some hm3; rcases hm3 with ⟨hh5, hm3⟩
         replace hm3 := bindO hm3; rcases hm3 with ⟨j2, hm4, hm3⟩
         refine V.cutT (D := (List Int) × (Nat)) (fun ⟨f_Reads2, b46⟩ => ⟨142, [(0, .ref bp 3 0 0), (3, .sref b2 4 0 (List.length out_0)), (4, .int .i64 (IntKind.i64.wrap ((IntKind.i64.wrap (id_0 + (1 : Int))) + y2.1))), (5, .int .i64 n_), (6, .ref b6 4 0 0), (7, .int .i64 i)], [(b46, ⟨1, List.map encInt f_Reads2⟩), (b6, ⟨4, [.agg [.int .i64 (IntKind.i64.wrap ((IntKind.i64.wrap (id_0 + (1 : Int))) + y2.1)), .str (toBytes ([(IntKind.u8.wrap (IntKind.i64.wrap ((97 : Int) + (out_0.length : Int)))), (120 : Int)] : List Int)), .int .i64 y3.1, .sref b46 1 0 (List.length f_Reads2)]]⟩), (bp, ⟨3, [encCur ρ0 y5.2]⟩), (b2, ⟨4, List.map (encFormat rn) out_0⟩)]⟩) (fun ⟨f_Reads2, b46⟩ => (f_Reads2 = j2)) ?_ ?_
         ·
          refine V.regionS [(b2, ⟨4, List.map (encFormat rn) out_0⟩)] 142 8 [⟨[(6, none)], false⟩, ⟨[(41, some 0)], true⟩, ⟨[(3, none)], false⟩, ⟨[(7, none)], false⟩, ⟨[(43, some 2), (44, some 3)], false⟩, ⟨[(45, some 4)], false⟩, ⟨[(46, some 5)], false⟩, ⟨[(47, some 6)], true⟩] [(0, none), (3, none), (4, none), (5, none), (6, none), (7, none), (42, some 1), (48, some 7)] 2 (⟨_, rfl, ⟨_, rfl, ⟨_, rfl, ⟨_, rfl, ⟨_, rfl, ⟨_, rfl, ⟨_, rfl, ⟨_, rfl, ⟨rfl, rfl⟩⟩⟩⟩⟩⟩⟩⟩⟩) mixed_orders rfl (by decide +kernel) ?_
          refine WalkP.step (p := ?pv4093) 0 rfl rfl rfl rfl rfl (⟨_, _, rfl, rfl, rfl⟩) ?hv4093 ?rest4093
          case hv4093 =>
           intro E1 H1 hI1
           refine (V1.fieldRef rfl rfl fo_34_3 rfl lt0 ?_)
           exact rfl
          refine WalkP.step (p := ?pv4094) 2 rfl rfl rfl rfl rfl (⟨_, _, rfl, rfl, rfl⟩) ?hv4094 ?rest4094
          case hv4094 =>
           intro E1 H1 hI1
           refine (V1.move rfl rfl rfl lt0 ?_)
           exact rfl
          refine WalkP.step (p := ?pv4095) 3 rfl rfl rfl rfl rfl (⟨_, _, rfl, rfl, rfl⟩) ?hv4095 ?rest4095
          case hv4095 =>
           intro E1 H1 hI1
           refine (V1.move rfl rfl rfl lt0 ?_)
           exact rfl
          refine WalkP.step (p := ?pv4096) 4 rfl rfl rfl rfl rfl (⟨_, _, rfl, rfl, _, _, rfl, rfl, rfl⟩) ?hv4096 ?rest4096
          case hv4096 =>
           intro E1 H1 hI1
           refine (V1.indexSr rfl rfl esz_24 rfl rfl hh4 lt0 ?_)
           exact rfl
          refine WalkP.step (p := ?pv4097) 5 rfl rfl rfl rfl rfl (⟨_, _, rfl, rfl, rfl⟩) ?hv4097 ?rest4097
          case hv4097 =>
           intro E1 H1 hI1
           refine (V1.fieldRef rfl rfl fo_34_0 rfl lt0 ?_)
           exact rfl
          refine WalkP.step (p := ?pv4098) 6 rfl rfl rfl rfl rfl (⟨_, _, rfl, rfl, rfl⟩) ?hv4098 ?rest4098
          case hv4098 =>
           intro E1 H1 hI1
           obtain ⟨k4099_, hk4099_⟩ := inGet 0 rfl hI1
           refine (V1.loadMap (k := k4099_) (f := (encFormat rn)) rfl rfl tyk_3 rfl hk4099_ (by simpa using natLt hh4.1 hh4.2) rfl lt0 ?_)
           exact rfl
          refine WalkP.nil ?_
          refine NodeS.branch [1, 7] (inCons 2 rfl inNil) rfl rfl rfl ⟨?_, ?_, trivial⟩
          ·
           refine ⟨_, _, _, _, rfl, rfl, rfl, (⟨_, _, rfl, rfl, rfl⟩), fun E1 => ?_⟩
           refine (V1.loadRef (k := 1) rfl rfl tyk_27 rfl rfl rfl rfl rfl lt0 ?_)
           refine ⟨_, _, rfl, ?_⟩
           refine WalkP.nil ?_
           refine NodeS.branch [7] (inCons 2 rfl inNil) rfl rfl rfl ⟨?_, trivial⟩
           ·
            refine ⟨_, _, _, _, rfl, rfl, rfl, (⟨_, _, rfl, rfl, rfl⟩), fun E1 => ?_⟩
            refine (V1.buildSliceT (f := encInt) ([(out_0.getD (Int.toNat i) default).Id] : List Int) rfl rfl esz_27 zk_3 rfl rfl rfl rfl rfl rfl rfl lt0 ?_)
            intro b47
            refine ⟨_, _, rfl, ?_⟩
            refine WalkP.nil ?_
            refine NodeS.fin (inCons 3 rfl inNil) rfl rfl rfl (⟨_, _, rfl, rfl, _, _, rfl, rfl, _, _, rfl, rfl, _, _, rfl, rfl, _, _, rfl, rfl, _, _, rfl, rfl, _, _, rfl, rfl, _, _, rfl, rfl, rfl⟩) ?_
            refine VO.cons rfl (V1.appendNilE (f := encInt) (l := f_Reads0) (m := ([(out_0.getD (Int.toNat i) default).Id] : List Int)) hob1 rfl rfl rfl rfl rfl esz_27 eby_27 zk_3 rfl rfl rfl (SrcOf.srMap (k := 0) rfl isl_27) rfl hh5 lt0 ?_)
            intro b48
            refine VO.cons rfl (V1.fieldRef rfl rfl fo_34_3 rfl lt0 ?_)
            refine VO.cons rfl (V1.storeRef (k := 3) rfl rfl tyk_27 rfl rfl rfl rfl rfl rfl rfl rfl rfl ?_)
            refine VO.nil ?_
            exact ⟨((f_Reads0 ++ ([(out_0.getD (Int.toNat i) default).Id] : List Int)), b48), Option.some.inj hm4, Keeps.mk (ks := [0, 3, 2, 4]) rfl ⟨rfl, rfl, rfl, rfl, rfl, rfl, trivial⟩ (⟨_, _, rfl, rfl, _, _, rfl, rfl, _, _, rfl, rfl, _, _, rfl, rfl, rfl⟩) rfl⟩
          ·
           refine ⟨_, _, _, _, rfl, rfl, rfl, (⟨_, _, rfl, rfl, rfl⟩), fun E1 => ?_⟩
           refine (V1.buildSliceT (f := encInt) ([(out_0.getD (Int.toNat i) default).Id] : List Int) rfl rfl esz_27 zk_3 rfl rfl rfl rfl rfl rfl rfl lt0 ?_)
           intro b49
           refine ⟨_, _, rfl, ?_⟩
           refine WalkP.nil ?_
           refine NodeS.branch [1] (inCons 3 rfl inNil) rfl rfl rfl ⟨?_, trivial⟩
           ·
            refine ⟨_, _, _, _, rfl, rfl, rfl, (⟨_, _, rfl, rfl, rfl⟩), fun E1 => ?_⟩
            refine (V1.loadRef (k := 2) rfl rfl tyk_27 rfl rfl rfl rfl rfl lt0 ?_)
            refine ⟨_, _, rfl, ?_⟩
            refine WalkP.nil ?_
            refine NodeS.fin (inCons 3 rfl inNil) rfl rfl rfl (⟨_, _, rfl, rfl, _, _, rfl, rfl, _, _, rfl, rfl, _, _, rfl, rfl, _, _, rfl, rfl, _, _, rfl, rfl, _, _, rfl, rfl, _, _, rfl, rfl, rfl⟩) ?_
            refine VO.cons rfl (V1.appendNilE (f := encInt) (l := f_Reads0) (m := ([(out_0.getD (Int.toNat i) default).Id] : List Int)) hob1 rfl rfl rfl rfl rfl esz_27 eby_27 zk_3 rfl rfl rfl (SrcOf.srMap (k := 0) rfl isl_27) rfl hh5 lt0 ?_)
            intro b50
            refine VO.cons rfl (V1.fieldRef rfl rfl fo_34_3 rfl lt0 ?_)
            refine VO.cons rfl (V1.storeRef (k := 3) rfl rfl tyk_27 rfl rfl rfl rfl rfl rfl rfl rfl rfl ?_)
            refine VO.nil ?_
            exact ⟨((f_Reads0 ++ ([(out_0.getD (Int.toNat i) default).Id] : List Int)), b50), Option.some.inj hm4, Keeps.mk (ks := [0, 3, 2, 4]) rfl ⟨rfl, rfl, rfl, rfl, rfl, rfl, trivial⟩ (⟨_, _, rfl, rfl, _, _, rfl, rfl, _, _, rfl, rfl, _, _, rfl, rfl, rfl⟩) rfl⟩
         ·
          rintro ⟨f_Reads2, b46⟩ rfl
          try dsimp only at hm3
          exact ⟨((f_Reads2, y5.2), (some b46)), ⟨Option.some.inj hm3, (fun e => by cases e)⟩, Keeps.mk (ks := [0, 2, 1, 3]) rfl ⟨rfl, rfl, rfl, rfl, rfl, rfl, trivial⟩ (⟨_, _, rfl, rfl, _, _, rfl, rfl, _, _, rfl, rfl, _, _, rfl, rfl, rfl⟩) rfl⟩
        ·
         replace hm3 := cond_f hc2 hm3
         refine V.skip ?_
         exact ⟨((f_Reads0, y5.2), none), ⟨Option.some.inj hm3, (fun _ => hob1)⟩, Keeps.mk (ks := [0, 1, 2]) rfl ⟨rfl, rfl, rfl, rfl, rfl, rfl, trivial⟩ (⟨_, _, rfl, rfl, _, _, rfl, rfl, _, _, rfl, rfl, rfl⟩) rfl⟩
       ·
        rintro ⟨⟨f_Reads1, c_4⟩, ob2⟩ ⟨rfl, hob2⟩
        try dsimp only at hm2
        rcases ob2 with _ | ob2
        ·
         replace hob2 := hob2 rfl
         refine V.region ?_
         refine VO.cons rfl (V1.move rfl rfl rfl lt0 ?_)
         refine VO.cons rfl (V1.int rfl rfl rfl rfl rfl lt0 ?_)
         refine VO.cons rfl (V1.assign rfl rfl rfl lt0 ?_)
         refine VO.nil ?_
         exact ⟨(m1, ((IntKind.i64.wrap (i + (1 : Int))), f_Reads1, c_4), none), ⟨hl2 _ (Option.some.inj hm2).symm, (fun _ => hob2)⟩, Nat.lt_succ_self _, Keeps.mk (ks := [0, 1, 2]) rfl ⟨rfl, rfl, rfl, rfl, rfl, rfl, trivial⟩ (⟨_, _, rfl, rfl, _, _, rfl, rfl, _, _, rfl, rfl, rfl⟩) rfl⟩
        ·
         refine V.region ?_
         refine VO.cons rfl (V1.move rfl rfl rfl lt0 ?_)
         refine VO.cons rfl (V1.int rfl rfl rfl rfl rfl lt0 ?_)
         refine VO.cons rfl (V1.assign rfl rfl rfl lt0 ?_)
         refine VO.nil ?_
         exact ⟨(m1, ((IntKind.i64.wrap (i + (1 : Int))), f_Reads1, c_4), (some ob2)), ⟨hl2 _ (Option.some.inj hm2).symm, (fun e => by cases e)⟩, Nat.lt_succ_self _, Keeps.mk (ks := [0, 1, 2, 3]) rfl ⟨rfl, rfl, rfl, rfl, rfl, rfl, trivial⟩ (⟨_, _, rfl, rfl, _, _, rfl, rfl, _, _, rfl, rfl, _, _, rfl, rfl, rfl⟩) rfl⟩
      ·
       replace hm2 := cond_f hc1 hm2
       refine V.exit ?_
       obtain rfl := hr2 _ (Option.some.inj hm2).symm
       exact ⟨((f_Reads0, c_3), none), ⟨rfl, (fun _ => hob1)⟩, Keeps.mk (ks := [0, 1, 2]) rfl ⟨rfl, rfl, rfl, rfl, rfl, trivial⟩ (⟨_, _, rfl, rfl, _, _, rfl, rfl, _, _, rfl, rfl, rfl⟩) rfl⟩
     ·
      show V _ _ _ ⟨142, [(7, .int .i64 i), (0, .ref bp 3 0 0), (3, .sref b2 4 0 (List.length out_0)), (4, .int .i64 (IntKind.i64.wrap ((IntKind.i64.wrap (id_0 + (1 : Int))) + y2.1))), (5, .int .i64 n_), (6, .ref b6 4 0 0)], [(ob1, ⟨1, List.map encInt f_Reads0⟩), (bp, ⟨3, [encCur ρ0 c_3]⟩), (b6, ⟨4, [.agg [.int .i64 (IntKind.i64.wrap ((IntKind.i64.wrap (id_0 + (1 : Int))) + y2.1)), .str (toBytes ([(IntKind.u8.wrap (IntKind.i64.wrap ((97 : Int) + (out_0.length : Int)))), (120 : Int)] : List Int)), .int .i64 y3.1, .sref ob1 1 0 (List.length f_Reads0)]]⟩), (b2, ⟨4, List.map (encFormat rn) out_0⟩)]⟩
      refine V.seq ?_
      refine V.seq ?_
      refine V.region ?_
      refine VO.cons rfl (V1.move rfl rfl rfl lt0 ?_)
      refine VO.cons rfl (V1.move rfl rfl rfl lt0 ?_)
      refine VO.cons rfl (V1.lenSref rfl rfl rfl rfl rfl rfl isl_24 lt0 ?_)
      refine VO.cons rfl (V1.int rfl rfl rfl rfl rfl lt0 ?_)
      refine VO.nil ?_
      refine V.cond rfl (fun hc1 => ?_) (fun hc1 => ?_)
      ·
       replace hm2 := cond_t hc1 hm2
       refine V.skip ?_
       refine V.keep 142 [0, 3, 4, 5, 6, 7] [0, 1, 2, 3] (E0 := [(0, .ref bp 3 0 0), (3, .sref b2 4 0 (List.length out_0)), (4, .int .i64 (IntKind.i64.wrap ((IntKind.i64.wrap (id_0 + (1 : Int))) + y2.1))), (5, .int .i64 n_), (6, .ref b6 4 0 0), (7, .int .i64 i)]) (H0 := [(ob1, ⟨1, List.map encInt f_Reads0⟩), (bp, ⟨3, [encCur ρ0 c_3]⟩), (b6, ⟨4, [.agg [.int .i64 (IntKind.i64.wrap ((IntKind.i64.wrap (id_0 + (1 : Int))) + y2.1)), .str (toBytes ([(IntKind.u8.wrap (IntKind.i64.wrap ((97 : Int) + (out_0.length : Int)))), (120 : Int)] : List Int)), .int .i64 y3.1, .sref ob1 1 0 (List.length f_Reads0)]]⟩), (b2, ⟨4, List.map (encFormat rn) out_0⟩)]) rfl (⟨_, _, rfl, rfl, _, _, rfl, rfl, _, _, rfl, rfl, _, _, rfl, rfl, _, _, rfl, rfl, _, _, rfl, rfl, rfl⟩) (⟨_, _, rfl, rfl, _, _, rfl, rfl, _, _, rfl, rfl, _, _, rfl, rfl, rfl⟩) rfl ?_
       refine V.seq ?_
       replace hm2 := bindO hm2; rcases hm2 with ⟨j1, hm3, hm2⟩
       refine V.cutT (D := (List Int × Cur) × (Nat)) (fun ⟨⟨f_Reads1, c_4⟩, b44⟩ => ⟨142, [(0, .ref bp 3 0 0), (3, .sref b2 4 0 (List.length out_0)), (4, .int .i64 (IntKind.i64.wrap ((IntKind.i64.wrap (id_0 + (1 : Int))) + y2.1))), (5, .int .i64 n_), (6, .ref b6 4 0 0), (7, .int .i64 i)], [(b44, ⟨1, List.map encInt f_Reads1⟩), (bp, ⟨3, [encCur ρ0 c_4]⟩), (b6, ⟨4, [.agg [.int .i64 (IntKind.i64.wrap ((IntKind.i64.wrap (id_0 + (1 : Int))) + y2.1)), .str (toBytes ([(IntKind.u8.wrap (IntKind.i64.wrap ((97 : Int) + (out_0.length : Int)))), (120 : Int)] : List Int)), .int .i64 y3.1, .sref b44 1 0 (List.length f_Reads1)]]⟩), (b2, ⟨4, List.map (encFormat rn) out_0⟩)]⟩) (fun ⟨⟨f_Reads1, c_4⟩, b44⟩ => ((f_Reads1, c_4) = j1)) ?_ ?_
       ·
        refine V.block ?_
        refine V.seq ?_
        replace hm3 := bindO hm3; rcases hm3 with ⟨y5, hh3, hm3⟩
        refine V.region ?_
        refine VO.cons rfl (V1.move rfl rfl rfl lt0 ?_)
        refine VO.cons rfl (V1.callM 1 (rn + ρ0 + 1) [] [.ref bp 3 0 0, .int .i64 (2 : Int)] (p := (bp, ⟨3, [encCur ρ0 c_3]⟩)) rfl rfl rfl cok_108 rfl rfl ⟨_, _, rfl, .same _, ⟨_, _, rfl, .same _, rfl⟩⟩ bwNil (ok_spec_l1Cur_one hh3) rfl (.inl rfl) lt0 ?_)
        rintro _ _ ⟨rfl, rfl⟩
        refine VO.nil ?_
        refine V.cond rfl (fun hc2 => ?_) (fun hc2 => ?_)
        ·
         replace hm3 := cond_t hc2 hm3
         replace hm3 := asrt_some hm3; rcases hm3 with ⟨hh4, hm3⟩
         replace hm3 := asrt_some hm3; rcases hm3 with ⟨hh5, hm3⟩
         replace hm3 := bindO hm3; rcases hm3 with ⟨j2, hm4, hm3⟩
         refine V.cutT (D := (List Int) × (Nat)) (fun ⟨f_Reads2, b47⟩ => ⟨142, [(0, .ref bp 3 0 0), (3, .sref b2 4 0 (List.length out_0)), (4, .int .i64 (IntKind.i64.wrap ((IntKind.i64.wrap (id_0 + (1 : Int))) + y2.1))), (5, .int .i64 n_), (6, .ref b6 4 0 0), (7, .int .i64 i)], [(b47, ⟨1, List.map encInt f_Reads2⟩), (b6, ⟨4, [.agg [.int .i64 (IntKind.i64.wrap ((IntKind.i64.wrap (id_0 + (1 : Int))) + y2.1)), .str (toBytes ([(IntKind.u8.wrap (IntKind.i64.wrap ((97 : Int) + (out_0.length : Int)))), (120 : Int)] : List Int)), .int .i64 y3.1, .sref b47 1 0 (List.length f_Reads2)]]⟩), (bp, ⟨3, [encCur ρ0 y5.2]⟩), (b2, ⟨4, List.map (encFormat rn) out_0⟩)]⟩) (fun ⟨f_Reads2, b47⟩ => (f_Reads2 = j2)) ?_ ?_
         ·
          refine V.regionS [(b2, ⟨4, List.map (encFormat rn) out_0⟩)] 142 8 [⟨[(6, none)], false⟩, ⟨[(41, some 0)], true⟩, ⟨[(3, none)], false⟩, ⟨[(7, none)], false⟩, ⟨[(43, some 2), (44, some 3)], false⟩, ⟨[(45, some 4)], false⟩, ⟨[(46, some 5)], false⟩, ⟨[(47, some 6)], true⟩] [(0, none), (3, none), (4, none), (5, none), (6, none), (7, none), (42, some 1), (48, some 7)] 2 (⟨_, rfl, ⟨_, rfl, ⟨_, rfl, ⟨_, rfl, ⟨_, rfl, ⟨_, rfl, ⟨_, rfl, ⟨_, rfl, ⟨rfl, rfl⟩⟩⟩⟩⟩⟩⟩⟩⟩) mixed_orders rfl (by decide +kernel) ?_
          refine WalkP.step (p := ?pv4123) 0 rfl rfl rfl rfl rfl (⟨_, _, rfl, rfl, rfl⟩) ?hv4123 ?rest4123
          case hv4123 =>
           intro E1 H1 hI1
           refine (V1.fieldRef rfl rfl fo_34_3 rfl lt0 ?_)
           exact rfl
          refine WalkP.step (p := ?pv4124) 2 rfl rfl rfl rfl rfl (⟨_, _, rfl, rfl, rfl⟩) ?hv4124 ?rest4124
          case hv4124 =>
           intro E1 H1 hI1
           refine (V1.move rfl rfl rfl lt0 ?_)
           exact rfl
          refine WalkP.step (p := ?pv4125) 3 rfl rfl rfl rfl rfl (⟨_, _, rfl, rfl, rfl⟩) ?hv4125 ?rest4125
          case hv4125 =>
           intro E1 H1 hI1
           refine (V1.move rfl rfl rfl lt0 ?_)
           exact rfl
          refine WalkP.step (p := ?pv4126) 4 rfl rfl rfl rfl rfl (⟨_, _, rfl, rfl, _, _, rfl, rfl, rfl⟩) ?hv4126 ?rest4126
          case hv4126 =>
           intro E1 H1 hI1
           refine (V1.indexSr rfl rfl esz_24 rfl rfl hh4 lt0 ?_)
           exact rfl
          refine WalkP.step (p := ?pv4127) 5 rfl rfl rfl rfl rfl (⟨_, _, rfl, rfl, rfl⟩) ?hv4127 ?rest4127
          case hv4127 =>
           intro E1 H1 hI1
           refine (V1.fieldRef rfl rfl fo_34_0 rfl lt0 ?_)
           exact rfl
          refine WalkP.step (p := ?pv4128) 6 rfl rfl rfl rfl rfl (⟨_, _, rfl, rfl, rfl⟩) ?hv4128 ?rest4128
          case hv4128 =>
           intro E1 H1 hI1
           obtain ⟨k4129_, hk4129_⟩ := inGet 0 rfl hI1
           refine (V1.loadMap (k := k4129_) (f := (encFormat rn)) rfl rfl tyk_3 rfl hk4129_ (by simpa using natLt hh4.1 hh4.2) rfl lt0 ?_)
           exact rfl
          refine WalkP.nil ?_
          refine NodeS.branch [1, 7] (inCons 3 rfl inNil) rfl rfl rfl ⟨?_, ?_, trivial⟩
          ·
           refine ⟨_, _, _, _, rfl, rfl, rfl, (⟨_, _, rfl, rfl, rfl⟩), fun E1 => ?_⟩
           refine (V1.loadRef (k := 2) rfl rfl tyk_27 rfl rfl rfl rfl rfl lt0 ?_)
           refine ⟨_, _, rfl, ?_⟩
           refine WalkP.nil ?_
           refine NodeS.branch [7] (inCons 3 rfl inNil) rfl rfl rfl ⟨?_, trivial⟩
           ·
            refine ⟨_, _, _, _, rfl, rfl, rfl, (⟨_, _, rfl, rfl, rfl⟩), fun E1 => ?_⟩
            refine (V1.buildSliceT (f := encInt) ([(out_0.getD (Int.toNat i) default).Id] : List Int) rfl rfl esz_27 zk_3 rfl rfl rfl rfl rfl rfl rfl lt0 ?_)
            intro b48
            refine ⟨_, _, rfl, ?_⟩
            refine WalkP.nil ?_
            refine NodeS.fin (inCons 4 rfl inNil) rfl rfl rfl (⟨_, _, rfl, rfl, _, _, rfl, rfl, _, _, rfl, rfl, _, _, rfl, rfl, _, _, rfl, rfl, _, _, rfl, rfl, _, _, rfl, rfl, _, _, rfl, rfl, rfl⟩) ?_
            refine VO.cons rfl (V1.appendMap (k := 2) (f := encInt) (l := f_Reads0) (m := ([(out_0.getD (Int.toNat i) default).Id] : List Int)) rfl rfl rfl rfl rfl esz_27 eby_27 zk_3 rfl rfl rfl (SrcOf.srMap (k := 0) rfl isl_27) hh5 lt0 ?_)
            intro b49
            refine VO.cons rfl (V1.fieldRef rfl rfl fo_34_3 rfl lt0 ?_)
            refine VO.cons rfl (V1.storeRef (k := 3) rfl rfl tyk_27 rfl rfl rfl rfl rfl rfl rfl rfl rfl ?_)
            refine VO.nil ?_
            exact ⟨((f_Reads0 ++ ([(out_0.getD (Int.toNat i) default).Id] : List Int)), b49), Option.some.inj hm4, Keeps.mk (ks := [0, 3, 2, 4]) rfl ⟨rfl, rfl, rfl, rfl, rfl, rfl, trivial⟩ (⟨_, _, rfl, rfl, _, _, rfl, rfl, _, _, rfl, rfl, _, _, rfl, rfl, rfl⟩) rfl⟩
          ·
           refine ⟨_, _, _, _, rfl, rfl, rfl, (⟨_, _, rfl, rfl, rfl⟩), fun E1 => ?_⟩
           refine (V1.buildSliceT (f := encInt) ([(out_0.getD (Int.toNat i) default).Id] : List Int) rfl rfl esz_27 zk_3 rfl rfl rfl rfl rfl rfl rfl lt0 ?_)
           intro b50
           refine ⟨_, _, rfl, ?_⟩
           refine WalkP.nil ?_
           refine NodeS.branch [1] (inCons 4 rfl inNil) rfl rfl rfl ⟨?_, trivial⟩
           ·
            refine ⟨_, _, _, _, rfl, rfl, rfl, (⟨_, _, rfl, rfl, rfl⟩), fun E1 => ?_⟩
            refine (V1.loadRef (k := 3) rfl rfl tyk_27 rfl rfl rfl rfl rfl lt0 ?_)
            refine ⟨_, _, rfl, ?_⟩
            refine WalkP.nil ?_
            refine NodeS.fin (inCons 4 rfl inNil) rfl rfl rfl (⟨_, _, rfl, rfl, _, _, rfl, rfl, _, _, rfl, rfl, _, _, rfl, rfl, _, _, rfl, rfl, _, _, rfl, rfl, _, _, rfl, rfl, _, _, rfl, rfl, rfl⟩) ?_
            refine VO.cons rfl (V1.appendMap (k := 2) (f := encInt) (l := f_Reads0) (m := ([(out_0.getD (Int.toNat i) default).Id] : List Int)) rfl rfl rfl rfl rfl esz_27 eby_27 zk_3 rfl rfl rfl (SrcOf.srMap (k := 0) rfl isl_27) hh5 lt0 ?_)
            intro b51
            refine VO.cons rfl (V1.fieldRef rfl rfl fo_34_3 rfl lt0 ?_)
            refine VO.cons rfl (V1.storeRef (k := 3) rfl rfl tyk_27 rfl rfl rfl rfl rfl rfl rfl rfl rfl ?_)
            refine VO.nil ?_
            exact ⟨((f_Reads0 ++ ([(out_0.getD (Int.toNat i) default).Id] : List Int)), b51), Option.some.inj hm4, Keeps.mk (ks := [0, 3, 2, 4]) rfl ⟨rfl, rfl, rfl, rfl, rfl, rfl, trivial⟩ (⟨_, _, rfl, rfl, _, _, rfl, rfl, _, _, rfl, rfl, _, _, rfl, rfl, rfl⟩) rfl⟩
         ·
          rintro ⟨f_Reads2, b47⟩ rfl
          try dsimp only at hm3
          exact ⟨((f_Reads2, y5.2), b47), Option.some.inj hm3, Keeps.mk (ks := [0, 2, 1, 3]) rfl ⟨rfl, rfl, rfl, rfl, rfl, rfl, trivial⟩ (⟨_, _, rfl, rfl, _, _, rfl, rfl, _, _, rfl, rfl, _, _, rfl, rfl, rfl⟩) rfl⟩
        ·
         replace hm3 := cond_f hc2 hm3
         refine V.skip ?_
         exact ⟨((f_Reads0, y5.2), ob1), Option.some.inj hm3, Keeps.mk (ks := [1, 0, 2, 3]) rfl ⟨rfl, rfl, rfl, rfl, rfl, rfl, trivial⟩ (⟨_, _, rfl, rfl, _, _, rfl, rfl, _, _, rfl, rfl, _, _, rfl, rfl, rfl⟩) rfl⟩
       ·
        rintro ⟨⟨f_Reads1, c_4⟩, b44⟩ rfl
        try dsimp only at hm2
        refine V.region ?_
        refine VO.cons rfl (V1.move rfl rfl rfl lt0 ?_)
        refine VO.cons rfl (V1.int rfl rfl rfl rfl rfl lt0 ?_)
        refine VO.cons rfl (V1.assign rfl rfl rfl lt0 ?_)
        refine VO.nil ?_
        exact ⟨(m1, ((IntKind.i64.wrap (i + (1 : Int))), f_Reads1, c_4), (some b44)), ⟨hl2 _ (Option.some.inj hm2).symm, (fun e => by cases e)⟩, Nat.lt_succ_self _, Keeps.mk (ks := [0, 1, 2, 3]) rfl ⟨rfl, rfl, rfl, rfl, rfl, rfl, trivial⟩ (⟨_, _, rfl, rfl, _, _, rfl, rfl, _, _, rfl, rfl, _, _, rfl, rfl, rfl⟩) rfl⟩
      ·
       replace hm2 := cond_f hc1 hm2
       refine V.exit ?_
       obtain rfl := hr2 _ (Option.some.inj hm2).symm
       exact ⟨((f_Reads0, c_3), (some ob1)), ⟨rfl, (fun e => by cases e)⟩, Keeps.mk (ks := [0, 1, 2, 3]) rfl ⟨rfl, rfl, rfl, rfl, rfl, trivial⟩ (⟨_, _, rfl, rfl, _, _, rfl, rfl, _, _, rfl, rfl, _, _, rfl, rfl, rfl⟩) rfl⟩
    ·
     rintro ⟨⟨f_Reads, c_2⟩, ob0⟩ ⟨rfl, hob0⟩
     try dsimp only at hm1
     rcases ob0 with _ | ob0
     ·
      replace hob0 := hob0 rfl
      replace hm1 := asrt_some hm1; rcases hm1 with ⟨hh6, hm1⟩
      refine V.region ?_
      refine VO.cons rfl (V1.move rfl rfl rfl lt0 ?_)
      refine VO.cons rfl (V1.loadRefAll (k := 1) rfl rfl tyk_34 rfl rfl rfl rfl rfl lt0 ?_)
      refine VO.weakenK (Keeps.le 52 (.agg [.int .i64 (IntKind.i64.wrap ((IntKind.i64.wrap (id_0 + (1 : Int))) + y2.1)), .str (toBytes ([(IntKind.u8.wrap (IntKind.i64.wrap ((97 : Int) + (out_0.length : Int)))), (120 : Int)] : List Int)), .int .i64 y3.1, .vl rn 1 (List.map encInt f_Reads)]) rfl (.agg (.cons .same (.cons .same (.cons .same (.cons (.nils (l := f_Reads) (f := encInt) rn 1 hob0 rfl) .nil)))))) ?_
      refine VO.cons rfl (V1.buildSliceT (f := (encFormat rn)) ([(⟨(IntKind.i64.wrap ((IntKind.i64.wrap (id_0 + (1 : Int))) + y2.1)), (toBytes ([(IntKind.u8.wrap (IntKind.i64.wrap ((97 : Int) + (out_0.length : Int)))), (120 : Int)] : List Int)), y3.1, f_Reads⟩ : Format)] : List Format) rfl rfl esz_24 zk_34 rfl rfl rfl rfl rfl rfl rfl lt0 ?_)
      intro b52
      refine VO.cons rfl (V1.appendMap (k := 3) (f := (encFormat rn)) (l := out_0) (m := ([(⟨(IntKind.i64.wrap ((IntKind.i64.wrap (id_0 + (1 : Int))) + y2.1)), (toBytes ([(IntKind.u8.wrap (IntKind.i64.wrap ((97 : Int) + (out_0.length : Int)))), (120 : Int)] : List Int)), y3.1, f_Reads⟩ : Format)] : List Format)) rfl rfl rfl rfl rfl esz_24 eby_24 zk_34 rfl rfl rfl (SrcOf.srMap (k := 0) rfl isl_24) hh6 lt0 ?_)
      intro b53
      refine VO.cons rfl (V1.assign rfl rfl rfl lt0 ?_)
      refine VO.nil ?_
      refine V.keep 142 [0, 3, 4, 5] [0, 2] (E0 := [(0, .ref bp 3 0 0), (3, .sref b53 4 0 (List.length (out_0 ++ ([(⟨(IntKind.i64.wrap ((IntKind.i64.wrap (id_0 + (1 : Int))) + y2.1)), (toBytes ([(IntKind.u8.wrap (IntKind.i64.wrap ((97 : Int) + (out_0.length : Int)))), (120 : Int)] : List Int)), y3.1, f_Reads⟩ : Format)] : List Format)))), (4, .int .i64 (IntKind.i64.wrap ((IntKind.i64.wrap (id_0 + (1 : Int))) + y2.1))), (5, .int .i64 n_)]) (H0 := [(b53, ⟨4, List.map (encFormat rn) (out_0 ++ ([(⟨(IntKind.i64.wrap ((IntKind.i64.wrap (id_0 + (1 : Int))) + y2.1)), (toBytes ([(IntKind.u8.wrap (IntKind.i64.wrap ((97 : Int) + (out_0.length : Int)))), (120 : Int)] : List Int)), y3.1, f_Reads⟩ : Format)] : List Format))⟩), (bp, ⟨3, [encCur ρ0 c_2]⟩)]) rfl (⟨_, _, rfl, rfl, _, _, rfl, rfl, _, _, rfl, rfl, _, _, rfl, rfl, rfl⟩) (⟨_, _, rfl, rfl, _, _, rfl, rfl, rfl⟩) rfl ?_
      refine V.region ?_
      refine VO.cons rfl (V1.move rfl rfl rfl lt0 ?_)
      refine VO.cons rfl (V1.int rfl rfl rfl rfl rfl lt0 ?_)
      refine VO.cons rfl (V1.assign rfl rfl rfl lt0 ?_)
      refine VO.nil ?_
      exact ⟨(m0, ((out_0 ++ ([(⟨(IntKind.i64.wrap ((IntKind.i64.wrap (id_0 + (1 : Int))) + y2.1)), (toBytes ([(IntKind.u8.wrap (IntKind.i64.wrap ((97 : Int) + (out_0.length : Int)))), (120 : Int)] : List Int)), y3.1, f_Reads⟩ : Format)] : List Format)), (IntKind.i64.wrap ((IntKind.i64.wrap (id_0 + (1 : Int))) + y2.1)), (IntKind.i64.wrap (n_ - (1 : Int))), c_2), b53), hl1 _ (Option.some.inj hm1).symm, Nat.lt_succ_self _, Keeps.mk (ks := [0, 1]) rfl ⟨rfl, rfl, rfl, rfl, trivial⟩ (⟨_, _, rfl, rfl, _, _, rfl, rfl, rfl⟩) rfl⟩
     ·
      replace hm1 := asrt_some hm1; rcases hm1 with ⟨hh6, hm1⟩
      refine V.region ?_
      refine VO.cons rfl (V1.move rfl rfl rfl lt0 ?_)
      refine VO.cons rfl (V1.loadRefAll (k := 2) rfl rfl tyk_34 rfl rfl rfl rfl rfl lt0 ?_)
      refine VO.weakenK (Keeps.freezeG 0 rn [(52, .agg [.int .i64 (IntKind.i64.wrap ((IntKind.i64.wrap (id_0 + (1 : Int))) + y2.1)), .str (toBytes ([(IntKind.u8.wrap (IntKind.i64.wrap ((97 : Int) + (out_0.length : Int)))), (120 : Int)] : List Int)), .int .i64 y3.1, .vl rn 1 (List.map encInt f_Reads)])] ([(bp, ⟨3, [encCur ρ0 c_2]⟩), (b6, ⟨4, [.agg [.int .i64 (IntKind.i64.wrap ((IntKind.i64.wrap (id_0 + (1 : Int))) + y2.1)), .str (toBytes ([(IntKind.u8.wrap (IntKind.i64.wrap ((97 : Int) + (out_0.length : Int)))), (120 : Int)] : List Int)), .int .i64 y3.1, .vl rn 1 (List.map encInt f_Reads)]]⟩), (b2, ⟨4, List.map (encFormat rn) out_0⟩)]) (f := encInt) (l := f_Reads) rfl (fun _ => rfl) ⟨⟨_, rfl, (.agg (.cons .same (.cons .same (.cons .same (.cons .here .nil)))))⟩, trivial⟩ ⟨_, _, rfl, rfl, .inl rfl, ⟨_, _, rfl, rfl, .inr (.cons (.agg (.cons .same (.cons .same (.cons .same (.cons .here .nil))))) .nil), ⟨_, _, rfl, rfl, .inl rfl, rfl⟩⟩⟩ rfl (iOne (b := bp) 0 rfl)) ?_
      refine VO.cons rfl (V1.buildSliceT (f := (encFormat rn)) ([(⟨(IntKind.i64.wrap ((IntKind.i64.wrap (id_0 + (1 : Int))) + y2.1)), (toBytes ([(IntKind.u8.wrap (IntKind.i64.wrap ((97 : Int) + (out_0.length : Int)))), (120 : Int)] : List Int)), y3.1, f_Reads⟩ : Format)] : List Format) rfl rfl esz_24 zk_34 rfl rfl rfl rfl rfl rfl rfl lt0 ?_)
      intro b52
      refine VO.cons rfl (V1.appendMap (k := 3) (f := (encFormat rn)) (l := out_0) (m := ([(⟨(IntKind.i64.wrap ((IntKind.i64.wrap (id_0 + (1 : Int))) + y2.1)), (toBytes ([(IntKind.u8.wrap (IntKind.i64.wrap ((97 : Int) + (out_0.length : Int)))), (120 : Int)] : List Int)), y3.1, f_Reads⟩ : Format)] : List Format)) rfl rfl rfl rfl rfl esz_24 eby_24 zk_34 rfl rfl rfl (SrcOf.srMap (k := 0) rfl isl_24) hh6 lt0 ?_)
      intro b53
      refine VO.cons rfl (V1.assign rfl rfl rfl lt0 ?_)
      refine VO.nil ?_
      refine V.keep 142 [0, 3, 4, 5] [0, 2] (E0 := [(0, .ref bp 3 0 0), (3, .sref b53 4 0 (List.length (out_0 ++ ([(⟨(IntKind.i64.wrap ((IntKind.i64.wrap (id_0 + (1 : Int))) + y2.1)), (toBytes ([(IntKind.u8.wrap (IntKind.i64.wrap ((97 : Int) + (out_0.length : Int)))), (120 : Int)] : List Int)), y3.1, f_Reads⟩ : Format)] : List Format)))), (4, .int .i64 (IntKind.i64.wrap ((IntKind.i64.wrap (id_0 + (1 : Int))) + y2.1))), (5, .int .i64 n_)]) (H0 := [(b53, ⟨4, List.map (encFormat rn) (out_0 ++ ([(⟨(IntKind.i64.wrap ((IntKind.i64.wrap (id_0 + (1 : Int))) + y2.1)), (toBytes ([(IntKind.u8.wrap (IntKind.i64.wrap ((97 : Int) + (out_0.length : Int)))), (120 : Int)] : List Int)), y3.1, f_Reads⟩ : Format)] : List Format))⟩), (bp, ⟨3, [encCur ρ0 c_2]⟩)]) rfl (⟨_, _, rfl, rfl, _, _, rfl, rfl, _, _, rfl, rfl, _, _, rfl, rfl, rfl⟩) (⟨_, _, rfl, rfl, _, _, rfl, rfl, rfl⟩) rfl ?_
      refine V.region ?_
      refine VO.cons rfl (V1.move rfl rfl rfl lt0 ?_)
      refine VO.cons rfl (V1.int rfl rfl rfl rfl rfl lt0 ?_)
      refine VO.cons rfl (V1.assign rfl rfl rfl lt0 ?_)
      refine VO.nil ?_
      exact ⟨(m0, ((out_0 ++ ([(⟨(IntKind.i64.wrap ((IntKind.i64.wrap (id_0 + (1 : Int))) + y2.1)), (toBytes ([(IntKind.u8.wrap (IntKind.i64.wrap ((97 : Int) + (out_0.length : Int)))), (120 : Int)] : List Int)), y3.1, f_Reads⟩ : Format)] : List Format)), (IntKind.i64.wrap ((IntKind.i64.wrap (id_0 + (1 : Int))) + y2.1)), (IntKind.i64.wrap (n_ - (1 : Int))), c_2), b53), hl1 _ (Option.some.inj hm1).symm, Nat.lt_succ_self _, Keeps.mk (ks := [0, 1]) rfl ⟨rfl, rfl, rfl, rfl, trivial⟩ (⟨_, _, rfl, rfl, _, _, rfl, rfl, rfl⟩) rfl⟩
  ·
   replace hm1 := cond_f hc0 hm1
   refine V.exit ?_
   obtain rfl := hr1 _ (Option.some.inj hm1).symm
   exact ⟨((out_0, id_0, c_0), b2), rfl, Keeps.mk (ks := [0, 1]) rfl ⟨rfl, rfl, rfl, trivial⟩ (⟨_, _, rfl, rfl, _, _, rfl, rfl, rfl⟩) rfl⟩
 ·
  rintro ⟨⟨out_, id_, c_⟩, b1⟩ rfl
  try dsimp only at hm0
  refine V.seq ?_
  refine V.seq ?_
  refine V.region ?_
  refine VO.cons rfl (V1.move rfl rfl rfl lt0 ?_)
  refine VO.cons rfl (V1.lenSref rfl rfl rfl rfl rfl rfl isl_24 lt0 ?_)
  refine VO.cons rfl (V1.int rfl rfl rfl rfl rfl lt0 ?_)
  refine VO.nil ?_
  refine V.cond rfl (fun hc3 => ?_) (fun hc3 => ?_)
  ·
   replace hm0 := cond_t hc3 hm0
   refine V.seq ?_
   refine V.region ?_
   refine VO.cons rfl (V1.move rfl rfl rfl lt0 ?_)
   refine VO.cons rfl (V1.assign rfl rfl rfl lt0 ?_)
   refine VO.nil ?_
   refine V.keep 142 [2] [0, 1] (E0 := [(2, .sref b1 4 0 (List.length out_))]) (H0 := [(b1, ⟨4, List.map (encFormat rn) out_⟩), (bp, ⟨3, [encCur ρ0 c_]⟩)]) rfl (⟨_, _, rfl, rfl, rfl⟩) (⟨_, _, rfl, rfl, _, _, rfl, rfl, rfl⟩) rfl ?_
   refine V.ret ?_
   obtain rfl := Option.some.inj hm0
   exact ⟨_, _, ⟨_, _, rfl, rfl, rfl⟩, List.Sublist.refl _, b1, rfl, rfl⟩
  ·
   replace hm0 := cond_f hc3 hm0
   refine V.skip ?_
   refine V.seq ?_
   replace hm0 := bindO hm0; rcases hm0 with ⟨y6, hh7, hm0⟩
   refine V.region ?_
   refine VO.cons rfl (V1.move rfl rfl rfl lt0 ?_)
   refine VO.cons rfl (V1.move rfl rfl rfl lt0 ?_)
   refine VO.cons rfl (V1.lenSref rfl rfl rfl rfl rfl rfl isl_24 lt0 ?_)
   refine VO.cons rfl (V1.callM 1 (rn + ρ0 + 1) [] [.ref bp 3 0 0, .int .i64 (out_.length : Int)] (p := (bp, ⟨3, [encCur ρ0 c_]⟩)) rfl rfl rfl cok_84 rfl rfl ⟨_, _, rfl, .same _, ⟨_, _, rfl, .same _, rfl⟩⟩ bwNil (ok_spec_l1Cur_pick hh7) rfl (.inl rfl) lt0 ?_)
   rintro _ _ ⟨rfl, rfl⟩
   refine VO.cons rfl (V1.assign rfl rfl rfl lt0 ?_)
   refine VO.nil ?_
   refine V.keep 142 [0, 3, 4, 8] [0, 1] (E0 := [(0, .ref bp 3 0 0), (3, .sref b1 4 0 (List.length out_)), (4, .int .i64 id_), (8, .int .i64 y6.1)]) (H0 := [(bp, ⟨3, [encCur ρ0 y6.2]⟩), (b1, ⟨4, List.map (encFormat rn) out_⟩)]) rfl (⟨_, _, rfl, rfl, _, _, rfl, rfl, _, _, rfl, rfl, _, _, rfl, rfl, rfl⟩) (⟨_, _, rfl, rfl, _, _, rfl, rfl, rfl⟩) rfl ?_
   refine V.seq ?_
   replace hm0 := asrt_some hm0; rcases hm0 with ⟨hh8, hm0⟩
   refine V.region ?_
   refine VO.cons rfl (V1.move rfl rfl rfl lt0 ?_)
   refine VO.cons rfl (V1.move rfl rfl rfl lt0 ?_)
   refine VO.cons rfl (V1.indexSr rfl rfl esz_24 rfl rfl hh8 lt0 ?_)
   refine VO.cons rfl (V1.loadMapAll (k := 1) (f := (encFormat rn)) rfl rfl tyk_34 rfl rfl (by simpa using natLt hh8.1 hh8.2) rfl lt0 ?_)
   refine VO.cons rfl (V1.alloc rfl rfl zk_34 lt0 ?_)
   intro b54
   refine VO.cons rfl (V1.storeRefAll (k := 0) rfl rfl tyk_34 rfl rfl rfl rfl rfl rfl ?_)
   refine VO.nil ?_
   refine V.keep 142 [0, 3, 4, 8, 9] [0, 1, 2] (E0 := [(0, .ref bp 3 0 0), (3, .sref b1 4 0 (List.length out_)), (4, .int .i64 id_), (8, .int .i64 y6.1), (9, .ref b54 4 0 0)]) (H0 := [(b54, ⟨4, [encFormat rn (out_.getD (Int.toNat y6.1) default)]⟩), (bp, ⟨3, [encCur ρ0 y6.2]⟩), (b1, ⟨4, List.map (encFormat rn) out_⟩)]) rfl (⟨_, _, rfl, rfl, _, _, rfl, rfl, _, _, rfl, rfl, _, _, rfl, rfl, _, _, rfl, rfl, rfl⟩) (⟨_, _, rfl, rfl, _, _, rfl, rfl, _, _, rfl, rfl, rfl⟩) rfl ?_
   refine V.seq ?_
   replace hm0 := bindO hm0; rcases hm0 with ⟨j3, hm1, hm0⟩
   refine V.cutT (D := (List Format × Cur × Format) × (Nat)) (fun ⟨⟨out_1, o, f_⟩, b55⟩ => ⟨142, [(3, .sref b55 4 0 (List.length out_1)), (8, .int .i64 y6.1), (9, .ref b54 4 0 0)], [(b55, ⟨4, List.map (encFormat rn) out_1⟩), (bp, ⟨3, [encCur ρ0 o]⟩), (b54, ⟨4, [encFormat rn f_]⟩)]⟩) (fun ⟨⟨out_1, o, f_⟩, b55⟩ => ((out_1, o, f_) = j3)) ?_ ?_
   ·
    refine V.seq ?_
    replace hm1 := bindO hm1; rcases hm1 with ⟨y7, hh9, hm1⟩
    refine V.region ?_
    refine VO.cons rfl (V1.move rfl rfl rfl lt0 ?_)
    refine VO.cons rfl (V1.callM 1 (rn + ρ0 + 1) [] [.ref bp 3 0 0, .int .i64 (60 : Int)] (p := (bp, ⟨3, [encCur ρ0 y6.2]⟩)) rfl rfl rfl cok_84 rfl rfl ⟨_, _, rfl, .same _, ⟨_, _, rfl, .same _, rfl⟩⟩ bwNil (ok_spec_l1Cur_pick hh9) rfl (.inl rfl) lt0 ?_)
    rintro _ _ ⟨rfl, rfl⟩
    refine VO.nil ?_
    replace hm1 := bindO hm1; rcases hm1 with ⟨j4, hm2, hm1⟩
    refine V.cutT (D := (List Format × Int × List UInt8 × Int × List Int × Cur) × (Nat)) (fun ⟨⟨out_2, f_Id, f_Name, f_Until, f_Reads3, c_5⟩, b56⟩ => ⟨142, [(3, .sref b56 4 0 (List.length out_2)), (8, .int .i64 y6.1), (9, .ref b54 4 0 0)], [(b56, ⟨4, List.map (encFormat rn) out_2⟩), (bp, ⟨3, [encCur ρ0 c_5]⟩), (b54, ⟨4, [.agg [.int .i64 f_Id, .str f_Name, .int .i64 f_Until, .vl rn 1 (List.map encInt f_Reads3)]]⟩)]⟩) (fun ⟨⟨out_2, f_Id, f_Name, f_Until, f_Reads3, c_5⟩, b56⟩ => ((out_2, f_Id, f_Name, f_Until, f_Reads3, c_5) = j4)) ?_ ?_
    ·
     refine V.block ?_
     refine V.seq ?_
     refine V.region ?_
     refine VO.cons rfl (V1.int rfl rfl rfl rfl rfl lt0 ?_)
     refine VO.cons rfl (V1.assign rfl rfl rfl lt0 ?_)
     refine VO.nil ?_
     refine V.cond rfl (fun hc4 => ?_) (fun hc4 => ?_)
     ·
      replace hm2 := cond_t hc4 hm2
      replace hm2 := bindO hm2; rcases hm2 with ⟨y8, hh10, hm2⟩
      refine V.region ?_
      refine VO.cons rfl (V1.move rfl rfl rfl lt0 ?_)
      refine VO.cons rfl (V1.buildSliceT (f := encInt) ([(0 : Int), (50 : Int), (51 : Int)] : List Int) rfl rfl esz_27 zk_3 rfl rfl rfl rfl rfl rfl rfl lt0 ?_)
      intro b57
      refine VO.cons rfl (V1.callM 1 (rn + ρ0 + 1) [b57] [.ref bp 3 0 0, .vl (rn + ρ0 + 1) 1 (List.map encInt ([(0 : Int), (50 : Int), (51 : Int)] : List Int))] (p := (bp, ⟨3, [encCur ρ0 y7.2]⟩)) rfl rfl rfl cok_69 rfl rfl ⟨_, _, rfl, .same _, ⟨_, _, rfl, Lend.srMap 0 rfl (fun _ => rfl) (.head _), rfl⟩⟩ (bwCons (k := 0) rfl bwNil) (ok_spec_l1Cur_among hh10) rfl (.inr ⟨(by first | omega | (dsimp only; omega)), by rintro _ _ ⟨rfl, rfl⟩; exact ⟨by simp [PV.no, PV.noL, optS_no, noL_iff, nbeq] <;> omega, by intro b ob h; first | exact optH_no (noL_map (fun _ => by simp [PV.no, PV.noL, noL_iff, nbeq]) _) b ob h | (simp only [List.append_assoc, List.mem_append, List.mem_cons, List.mem_singleton, List.not_mem_nil, or_false, Prod.mk.injEq] at h; rcases h with ⟨rfl, rfl⟩ | ⟨rfl, rfl⟩ <;> first | exact noL_map (fun _ => by simp [PV.no, PV.noL, noL_iff, nbeq]) _ | (simp [PV.no, PV.noL, optS_no, noL_iff, nbeq] <;> omega)) | (simp at h; obtain ⟨rfl, rfl⟩ := h; exact noL_map (fun _ => by simp [PV.no, PV.noL, noL_iff, nbeq]) _) | (simp at h; obtain ⟨rfl, rfl⟩ := h; simp [PV.no, PV.noL, optS_no, noL_iff, nbeq] <;> omega)⟩⟩) lt0 ?_)
      rintro _ _ ⟨rfl, rfl⟩
      refine VO.cons rfl (V1.fieldRef rfl rfl fo_34_0 rfl lt0 ?_)
      refine VO.cons rfl (V1.storeRef (k := 2) rfl rfl tyk_3 rfl rfl rfl rfl rfl rfl rfl rfl rfl ?_)
      refine VO.nil ?_
      exact ⟨((out_, y8.1, (out_.getD (Int.toNat y6.1) default).Name, (out_.getD (Int.toNat y6.1) default).Until, (out_.getD (Int.toNat y6.1) default).Reads, y8.2), b1), Option.some.inj hm2, Keeps.mk (ks := [3, 0, 2]) rfl ⟨rfl, rfl, rfl, trivial⟩ (⟨_, _, rfl, rfl, _, _, rfl, rfl, _, _, rfl, rfl, rfl⟩) rfl⟩
     ·
      replace hm2 := cond_f hc4 hm2
      refine V.seq ?_
      refine V.region ?_
      refine VO.cons rfl (V1.int rfl rfl rfl rfl rfl lt0 ?_)
      refine VO.cons rfl (V1.assign rfl rfl rfl lt0 ?_)
      refine VO.nil ?_
      refine V.keep 142 [0, 3, 4, 8, 9, 68, 75] [0, 1, 2] (E0 := [(0, .ref bp 3 0 0), (3, .sref b1 4 0 (List.length out_)), (4, .int .i64 id_), (8, .int .i64 y6.1), (9, .ref b54 4 0 0), (68, .int .i64 y7.1), (75, .bool (y7.1 == (1 : Int)))]) (H0 := [(bp, ⟨3, [encCur ρ0 y7.2]⟩), (b54, ⟨4, [encFormat rn (out_.getD (Int.toNat y6.1) default)]⟩), (b1, ⟨4, List.map (encFormat rn) out_⟩)]) rfl (⟨_, _, rfl, rfl, _, _, rfl, rfl, _, _, rfl, rfl, _, _, rfl, rfl, _, _, rfl, rfl, _, _, rfl, rfl, _, _, rfl, rfl, rfl⟩) (⟨_, _, rfl, rfl, _, _, rfl, rfl, _, _, rfl, rfl, rfl⟩) rfl ?_
      refine V.cond rfl (fun hc5 => ?_) (fun hc5 => ?_)
      ·
       replace hm2 := cond_t hc5 hm2
       replace hm2 := bindO hm2; rcases hm2 with ⟨y9, hh11, hm2⟩
       refine V.region ?_
       refine VO.cons rfl (V1.move rfl rfl rfl lt0 ?_)
       refine VO.cons rfl (V1.buildSliceT (f := Go.VS.encStr) ([[], [65], [97, 120]] : List (List UInt8)) rfl rfl esz_93 zk_9 rfl rfl rfl rfl rfl rfl rfl lt0 ?_)
       intro b58
       refine VO.cons rfl (V1.callM 1 (rn + ρ0 + 1) [b58] [.ref bp 3 0 0, .vl (rn + ρ0 + 1) 1 (List.map Go.VS.encStr ([[], [65], [97, 120]] : List (List UInt8)))] (p := (bp, ⟨3, [encCur ρ0 y7.2]⟩)) rfl rfl rfl cok_70 rfl rfl ⟨_, _, rfl, .same _, ⟨_, _, rfl, Lend.srMap 0 rfl (fun _ => rfl) (.head _), rfl⟩⟩ (bwCons (k := 0) rfl bwNil) (ok_spec_l1Cur_of hh11) rfl (.inr ⟨(by first | omega | (dsimp only; omega)), by rintro _ _ ⟨rfl, rfl⟩; exact ⟨by simp [PV.no, PV.noL, optS_no, noL_iff, nbeq] <;> omega, by intro b ob h; first | exact optH_no (noL_map (fun _ => by simp [PV.no, PV.noL, noL_iff, nbeq]) _) b ob h | (simp only [List.append_assoc, List.mem_append, List.mem_cons, List.mem_singleton, List.not_mem_nil, or_false, Prod.mk.injEq] at h; rcases h with ⟨rfl, rfl⟩ | ⟨rfl, rfl⟩ <;> first | exact noL_map (fun _ => by simp [PV.no, PV.noL, noL_iff, nbeq]) _ | (simp [PV.no, PV.noL, optS_no, noL_iff, nbeq] <;> omega)) | (simp at h; obtain ⟨rfl, rfl⟩ := h; exact noL_map (fun _ => by simp [PV.no, PV.noL, noL_iff, nbeq]) _) | (simp at h; obtain ⟨rfl, rfl⟩ := h; simp [PV.no, PV.noL, optS_no, noL_iff, nbeq] <;> omega)⟩⟩) lt0 ?_)
       rintro _ _ ⟨rfl, rfl⟩
       refine VO.cons rfl (V1.fieldRef rfl rfl fo_34_1 rfl lt0 ?_)
       refine VO.cons rfl (V1.storeRef (k := 2) rfl rfl tyk_9 rfl rfl rfl rfl rfl rfl rfl rfl rfl ?_)
       refine VO.nil ?_
       exact ⟨((out_, (out_.getD (Int.toNat y6.1) default).Id, y9.1, (out_.getD (Int.toNat y6.1) default).Until, (out_.getD (Int.toNat y6.1) default).Reads, y9.2), b1), Option.some.inj hm2, Keeps.mk (ks := [3, 0, 2]) rfl ⟨rfl, rfl, rfl, trivial⟩ (⟨_, _, rfl, rfl, _, _, rfl, rfl, _, _, rfl, rfl, rfl⟩) rfl⟩
      ·
       replace hm2 := cond_f hc5 hm2
       refine V.seq ?_
       refine V.region ?_
       refine VO.cons rfl (V1.int rfl rfl rfl rfl rfl lt0 ?_)
       refine VO.cons rfl (V1.assign rfl rfl rfl lt0 ?_)
       refine VO.nil ?_
       refine V.cond rfl (fun hc6 => ?_) (fun hc6 => ?_)
       ·
        replace hm2 := cond_t hc6 hm2
        replace hm2 := bindO hm2; rcases hm2 with ⟨y10, hh12, hm2⟩
        refine V.region ?_
        refine VO.cons rfl (V1.move rfl rfl rfl lt0 ?_)
        refine VO.cons rfl (V1.buildSliceT (f := encInt) ([(-1 : Int), (20001 : Int)] : List Int) rfl rfl esz_27 zk_3 rfl rfl rfl rfl rfl rfl rfl lt0 ?_)
        intro b59
        refine VO.cons rfl (V1.callM 1 (rn + ρ0 + 1) [b59] [.ref bp 3 0 0, .vl (rn + ρ0 + 1) 1 (List.map encInt ([(-1 : Int), (20001 : Int)] : List Int))] (p := (bp, ⟨3, [encCur ρ0 y7.2]⟩)) rfl rfl rfl cok_69 rfl rfl ⟨_, _, rfl, .same _, ⟨_, _, rfl, Lend.srMap 0 rfl (fun _ => rfl) (.head _), rfl⟩⟩ (bwCons (k := 0) rfl bwNil) (ok_spec_l1Cur_among hh12) rfl (.inr ⟨(by first | omega | (dsimp only; omega)), by rintro _ _ ⟨rfl, rfl⟩; exact ⟨by simp [PV.no, PV.noL, optS_no, noL_iff, nbeq] <;> omega, by intro b ob h; first | exact optH_no (noL_map (fun _ => by simp [PV.no, PV.noL, noL_iff, nbeq]) _) b ob h | (simp only [List.append_assoc, List.mem_append, List.mem_cons, List.mem_singleton, List.not_mem_nil, or_false, Prod.mk.injEq] at h; rcases h with ⟨rfl, rfl⟩ | ⟨rfl, rfl⟩ <;> first | exact noL_map (fun _ => by simp [PV.no, PV.noL, noL_iff, nbeq]) _ | (simp [PV.no, PV.noL, optS_no, noL_iff, nbeq] <;> omega)) | (simp at h; obtain ⟨rfl, rfl⟩ := h; exact noL_map (fun _ => by simp [PV.no, PV.noL, noL_iff, nbeq]) _) | (simp at h; obtain ⟨rfl, rfl⟩ := h; simp [PV.no, PV.noL, optS_no, noL_iff, nbeq] <;> omega)⟩⟩) lt0 ?_)
        rintro _ _ ⟨rfl, rfl⟩
        refine VO.cons rfl (V1.fieldRef rfl rfl fo_34_2 rfl lt0 ?_)
        refine VO.cons rfl (V1.storeRef (k := 2) rfl rfl tyk_3 rfl rfl rfl rfl rfl rfl rfl rfl rfl ?_)
        refine VO.nil ?_
        exact ⟨((out_, (out_.getD (Int.toNat y6.1) default).Id, (out_.getD (Int.toNat y6.1) default).Name, y10.1, (out_.getD (Int.toNat y6.1) default).Reads, y10.2), b1), Option.some.inj hm2, Keeps.mk (ks := [3, 0, 2]) rfl ⟨rfl, rfl, rfl, trivial⟩ (⟨_, _, rfl, rfl, _, _, rfl, rfl, _, _, rfl, rfl, rfl⟩) rfl⟩
       ·
        replace hm2 := cond_f hc6 hm2
        refine V.seq ?_
        refine V.region ?_
        refine VO.cons rfl (V1.int rfl rfl rfl rfl rfl lt0 ?_)
        refine VO.cons rfl (V1.assign rfl rfl rfl lt0 ?_)
        refine VO.nil ?_
        refine V.keep 142 [0, 3, 4, 8, 9, 68, 87] [0, 1, 2] (E0 := [(0, .ref bp 3 0 0), (3, .sref b1 4 0 (List.length out_)), (4, .int .i64 id_), (8, .int .i64 y6.1), (9, .ref b54 4 0 0), (68, .int .i64 y7.1), (87, .bool (y7.1 == (3 : Int)))]) (H0 := [(bp, ⟨3, [encCur ρ0 y7.2]⟩), (b54, ⟨4, [encFormat rn (out_.getD (Int.toNat y6.1) default)]⟩), (b1, ⟨4, List.map (encFormat rn) out_⟩)]) rfl (⟨_, _, rfl, rfl, _, _, rfl, rfl, _, _, rfl, rfl, _, _, rfl, rfl, _, _, rfl, rfl, _, _, rfl, rfl, _, _, rfl, rfl, rfl⟩) (⟨_, _, rfl, rfl, _, _, rfl, rfl, _, _, rfl, rfl, rfl⟩) rfl ?_
        refine V.cond rfl (fun hc7 => ?_) (fun hc7 => ?_)
        ·
         replace hm2 := cond_t hc7 hm2
         replace hm2 := bindO hm2; rcases hm2 with ⟨y11, hh13, hm2⟩
         refine V.region ?_
         refine VO.cons rfl (V1.move rfl rfl rfl lt0 ?_)
         refine VO.cons rfl (V1.fieldRef rfl rfl fo_34_0 rfl lt0 ?_)
         refine VO.cons rfl (V1.loadRef (k := 1) rfl rfl tyk_3 rfl rfl rfl rfl rfl lt0 ?_)
         refine VO.cons rfl (V1.buildSliceT (f := encInt) ([(out_.getD (Int.toNat y6.1) default).Id, (49 : Int), (0 : Int)] : List Int) rfl rfl esz_27 zk_3 rfl rfl rfl rfl rfl rfl rfl lt0 ?_)
         intro b60
         refine VO.cons rfl (V1.callM 1 (rn + ρ0 + 1) [b60] [.ref bp 3 0 0, .vl (rn + ρ0 + 1) 1 (List.map encInt ([(out_.getD (Int.toNat y6.1) default).Id, (49 : Int), (0 : Int)] : List Int))] (p := (bp, ⟨3, [encCur ρ0 y7.2]⟩)) rfl rfl rfl cok_69 rfl rfl ⟨_, _, rfl, .same _, ⟨_, _, rfl, Lend.srMap 0 rfl (fun _ => rfl) (.head _), rfl⟩⟩ (bwCons (k := 0) rfl bwNil) (ok_spec_l1Cur_among hh13) rfl (.inr ⟨(by first | omega | (dsimp only; omega)), by rintro _ _ ⟨rfl, rfl⟩; exact ⟨by simp [PV.no, PV.noL, optS_no, noL_iff, nbeq] <;> omega, by intro b ob h; first | exact optH_no (noL_map (fun _ => by simp [PV.no, PV.noL, noL_iff, nbeq]) _) b ob h | (simp only [List.append_assoc, List.mem_append, List.mem_cons, List.mem_singleton, List.not_mem_nil, or_false, Prod.mk.injEq] at h; rcases h with ⟨rfl, rfl⟩ | ⟨rfl, rfl⟩ <;> first | exact noL_map (fun _ => by simp [PV.no, PV.noL, noL_iff, nbeq]) _ | (simp [PV.no, PV.noL, optS_no, noL_iff, nbeq] <;> omega)) | (simp at h; obtain ⟨rfl, rfl⟩ := h; exact noL_map (fun _ => by simp [PV.no, PV.noL, noL_iff, nbeq]) _) | (simp at h; obtain ⟨rfl, rfl⟩ := h; simp [PV.no, PV.noL, optS_no, noL_iff, nbeq] <;> omega)⟩⟩) lt0 ?_)
         rintro _ _ ⟨rfl, rfl⟩
         refine VO.cons rfl (V1.buildSliceT (f := encInt) ([y11.1] : List Int) rfl rfl esz_27 zk_3 rfl rfl rfl rfl rfl rfl rfl lt0 ?_)
         intro b61
         refine VO.cons rfl (V1.fieldRef rfl rfl fo_34_3 rfl lt0 ?_)
         refine VO.cons rfl (V1.storeRef (k := 3) rfl rfl tyk_27 rfl rfl rfl rfl rfl rfl rfl rfl rfl ?_)
         refine VO.nil ?_
         exact ⟨((out_, (out_.getD (Int.toNat y6.1) default).Id, (out_.getD (Int.toNat y6.1) default).Name, (out_.getD (Int.toNat y6.1) default).Until, ([y11.1] : List Int), y11.2), b1), Option.some.inj hm2, Keeps.trans (Keeps.freezeG 0 rn [(94, .vl rn 1 (List.map encInt ([y11.1] : List Int)))] ([(bp, ⟨3, [encCur ρ0 y11.2]⟩), (b60, ⟨1, List.map encInt ([(out_.getD (Int.toNat y6.1) default).Id, (49 : Int), (0 : Int)] : List Int)⟩), (b54, ⟨4, [.agg [.int .i64 ((out_.getD (Int.toNat y6.1) default).Id), .str ((out_.getD (Int.toNat y6.1) default).Name), .int .i64 ((out_.getD (Int.toNat y6.1) default).Until), .vl rn 1 (List.map encInt ([y11.1] : List Int))]]⟩), (b1, ⟨4, List.map (encFormat rn) out_⟩)]) (f := encInt) (l := ([y11.1] : List Int)) rfl (fun _ => rfl) ⟨⟨_, rfl, .here⟩, trivial⟩ ⟨_, _, rfl, rfl, .inl rfl, ⟨_, _, rfl, rfl, .inl rfl, ⟨_, _, rfl, rfl, .inr (.cons (.agg (.cons .same (.cons .same (.cons .same (.cons .here .nil))))) .nil), ⟨_, _, rfl, rfl, .inl rfl, rfl⟩⟩⟩⟩ rfl (iOne (b := bp) 0 rfl)) (Keeps.mk (ks := [3, 0, 2]) rfl ⟨rfl, rfl, rfl, trivial⟩ (⟨_, _, rfl, rfl, _, _, rfl, rfl, _, _, rfl, rfl, rfl⟩) rfl)⟩
        ·
         replace hm2 := cond_f hc7 hm2
         refine V.seq ?_
         refine V.region ?_
         refine VO.cons rfl (V1.int rfl rfl rfl rfl rfl lt0 ?_)
         refine VO.cons rfl (V1.assign rfl rfl rfl lt0 ?_)
         refine VO.nil ?_
         refine V.cond rfl (fun hc8 => ?_) (fun hc8 => ?_)
         ·
          replace hm2 := cond_t hc8 hm2
          replace hm2 := bindO hm2; rcases hm2 with ⟨e2, he3, hm2⟩
          refine V.cutT (D := (List Format × Cur) × (Nat)) (fun ⟨⟨out_3, c_6⟩, b62⟩ => ⟨142, [(3, .sref b62 4 0 (List.length out_3)), (8, .int .i64 y6.1), (9, .ref b54 4 0 0)], [(b62, ⟨4, List.map (encFormat rn) out_3⟩), (bp, ⟨3, [encCur ρ0 c_6]⟩), (b54, ⟨4, [encFormat rn (out_.getD (Int.toNat y6.1) default)]⟩)]⟩) (fun ⟨⟨out_3, c_6⟩, b62⟩ => ((out_3, c_6) = e2)) ?_ ?_
          ·
           refine V.block ?_
           refine V.keep 142 [3, 4, 0, 8, 9] [2, 0, 1] (E0 := [(3, .sref b1 4 0 (List.length out_)), (4, .int .i64 id_), (0, .ref bp 3 0 0), (8, .int .i64 y6.1), (9, .ref b54 4 0 0)]) (H0 := [(b1, ⟨4, List.map (encFormat rn) out_⟩), (bp, ⟨3, [encCur ρ0 y7.2]⟩), (b54, ⟨4, [encFormat rn (out_.getD (Int.toNat y6.1) default)]⟩)]) rfl (⟨_, _, rfl, rfl, _, _, rfl, rfl, _, _, rfl, rfl, _, _, rfl, rfl, _, _, rfl, rfl, rfl⟩) (⟨_, _, rfl, rfl, _, _, rfl, rfl, _, _, rfl, rfl, rfl⟩) rfl ?_
           refine V.loopE (D := Nat × (List Format × Int × Cur) × (Nat)) (fun ⟨n2, ⟨out_4, id_1, c_7⟩, b63⟩ => [(3, .sref b63 4 0 (List.length out_4)), (4, .int .i64 id_1)]) (fun ⟨n2, ⟨out_4, id_1, c_7⟩, b63⟩ => [(b63, ⟨4, List.map (encFormat rn) out_4⟩), (bp, ⟨3, [encCur ρ0 c_7]⟩)]) (fun ⟨n2, ⟨out_4, id_1, c_7⟩, b63⟩ => loopO (M.spec_l1Cur_formats_l2) n2 (out_4, id_1, c_7) = some e2) (fun ⟨n2, _, _⟩ => n2) (rounds, (out_, id_, y7.2), b1) rfl he3 ?_
           rintro ⟨n2, ⟨out_4, id_1, c_7⟩, b63⟩ hP2
           obtain ⟨m2, y12, rfl, hm3, hl3, hr3⟩ := loop_head hP2
           unfold M.spec_l1Cur_formats_l2 at hm3; dsimp only at hm3
           show V _ _ _ ⟨142, [(3, .sref b63 4 0 (List.length out_4)), (4, .int .i64 id_1), (0, .ref bp 3 0 0), (8, .int .i64 y6.1), (9, .ref b54 4 0 0)], [(b63, ⟨4, List.map (encFormat rn) out_4⟩), (bp, ⟨3, [encCur ρ0 c_7]⟩), (b54, ⟨4, [encFormat rn (out_.getD (Int.toNat y6.1) default)]⟩)]⟩
           refine V.seq ?_
           refine V.seq ?_
           replace hm3 := bindO hm3; rcases hm3 with ⟨y13, hh14, hm3⟩
           refine V.region ?_
           refine VO.cons rfl (V1.move rfl rfl rfl lt0 ?_)
           refine VO.cons rfl (V1.lenSref rfl rfl rfl rfl rfl rfl isl_24 lt0 ?_)
           refine VO.cons rfl (V1.move rfl rfl rfl lt0 ?_)
           refine VO.cons rfl (V1.callM 1 (rn + ρ0 + 1) [] [.ref bp 3 0 0, .int .i64 (2 : Int)] (p := (bp, ⟨3, [encCur ρ0 c_7]⟩)) rfl rfl rfl cok_84 rfl rfl ⟨_, _, rfl, .same _, ⟨_, _, rfl, .same _, rfl⟩⟩ bwNil (ok_spec_l1Cur_pick hh14) rfl (.inl rfl) lt0 ?_)
           rintro _ _ ⟨rfl, rfl⟩
           refine VO.cons rfl (V1.int rfl rfl rfl rfl rfl lt0 ?_)
           refine VO.cons rfl (V1.int rfl rfl rfl rfl rfl lt0 ?_)
           refine VO.nil ?_
           refine V.keep 142 [0, 3, 4, 8, 9, 103] [0, 1, 2] (E0 := [(0, .ref bp 3 0 0), (3, .sref b63 4 0 (List.length out_4)), (4, .int .i64 id_1), (8, .int .i64 y6.1), (9, .ref b54 4 0 0), (103, .bool (decide ((out_4.length : Int) < (IntKind.i64.wrap ((10 : Int) + y13.1)))))]) (H0 := [(bp, ⟨3, [encCur ρ0 y13.2]⟩), (b63, ⟨4, List.map (encFormat rn) out_4⟩), (b54, ⟨4, [encFormat rn (out_.getD (Int.toNat y6.1) default)]⟩)]) rfl (⟨_, _, rfl, rfl, _, _, rfl, rfl, _, _, rfl, rfl, _, _, rfl, rfl, _, _, rfl, rfl, _, _, rfl, rfl, rfl⟩) (⟨_, _, rfl, rfl, _, _, rfl, rfl, _, _, rfl, rfl, rfl⟩) rfl ?_
           refine V.cond rfl (fun hc9 => ?_) (fun hc9 => ?_)
           ·
            replace hm3 := cond_t hc9 hm3
            refine V.skip ?_
            refine V.block ?_
            refine V.seq ?_
            refine V.region ?_
            refine VO.cons rfl (V1.move rfl rfl rfl lt0 ?_)
            refine VO.cons rfl (V1.int rfl rfl rfl rfl rfl lt0 ?_)
            refine VO.cons rfl (V1.assign rfl rfl rfl lt0 ?_)
            refine VO.nil ?_
            replace hm3 := asrt_some hm3; rcases hm3 with ⟨hh15, hm3⟩
            refine V.region ?_
            refine VO.cons rfl (V1.move rfl rfl rfl lt0 ?_)
            refine VO.cons rfl (V1.move rfl rfl rfl lt0 ?_)
            refine VO.cons rfl (V1.move rfl rfl rfl lt0 ?_)
            refine VO.cons rfl (V1.lenSref rfl rfl rfl rfl rfl rfl isl_24 lt0 ?_)
            refine VO.cons rfl (V1.int rfl rfl rfl rfl rfl lt0 ?_)
            refine VO.cons rfl (V1.conv rfl rfl und_3 und_5 rfl lt0 ?_)
            refine VO.cons rfl (V1.buildSliceT (f := encU8) ([(IntKind.u8.wrap (IntKind.i64.wrap ((97 : Int) + (out_4.length : Int)))), (121 : Int)] : List Int) rfl rfl esz_22 zk_5 rfl rfl rfl rfl rfl rfl rfl lt0 ?_)
            intro b64
            refine VO.cons rfl (V1.convStrOwn (k := 0) (l := ([(IntKind.u8.wrap (IntKind.i64.wrap ((97 : Int) + (out_4.length : Int)))), (121 : Int)] : List Int)) rfl rfl usl_22 und_5 (isStr_spec istr_9) rfl rfl lt0 ?_)
            refine VO.cons rfl (V1.build rfl rfl zk_34 pl_34 rfl rfl lt0 ?_)
            refine VO.weakenK (Keeps.le 114 (.agg [.int .i64 (IntKind.i64.wrap (id_1 + (1 : Int))), .str (toBytes ([(IntKind.u8.wrap (IntKind.i64.wrap ((97 : Int) + (out_4.length : Int)))), (121 : Int)] : List Int)), .int .i64 (50 : Int), .vl rn 1 (List.map encInt ([] : List Int))]) rfl (.agg (.cons .same (.cons .same (.cons .same (.cons (.nils (l := ([] : List Int)) (f := encInt) rn 1 rfl rfl) .nil)))))) ?_
            refine VO.cons rfl (V1.buildSliceT (f := (encFormat rn)) ([(⟨(IntKind.i64.wrap (id_1 + (1 : Int))), (toBytes ([(IntKind.u8.wrap (IntKind.i64.wrap ((97 : Int) + (out_4.length : Int)))), (121 : Int)] : List Int)), (50 : Int), ([] : List Int)⟩ : Format)] : List Format) rfl rfl esz_24 zk_34 rfl rfl rfl rfl rfl rfl rfl lt0 ?_)
            intro b65
            refine VO.cons rfl (V1.appendMap (k := 3) (f := (encFormat rn)) (l := out_4) (m := ([(⟨(IntKind.i64.wrap (id_1 + (1 : Int))), (toBytes ([(IntKind.u8.wrap (IntKind.i64.wrap ((97 : Int) + (out_4.length : Int)))), (121 : Int)] : List Int)), (50 : Int), ([] : List Int)⟩ : Format)] : List Format)) rfl rfl rfl rfl rfl esz_24 eby_24 zk_34 rfl rfl rfl (SrcOf.srMap (k := 0) rfl isl_24) hh15 lt0 ?_)
            intro b66
            refine VO.cons rfl (V1.assign rfl rfl rfl lt0 ?_)
            refine VO.nil ?_
            exact ⟨(m2, ((out_4 ++ ([(⟨(IntKind.i64.wrap (id_1 + (1 : Int))), (toBytes ([(IntKind.u8.wrap (IntKind.i64.wrap ((97 : Int) + (out_4.length : Int)))), (121 : Int)] : List Int)), (50 : Int), ([] : List Int)⟩ : Format)] : List Format)), (IntKind.i64.wrap (id_1 + (1 : Int))), y13.2), b66), hl3 _ (Option.some.inj hm3).symm, Nat.lt_succ_self _, Keeps.mk (ks := [0, 3, 4]) rfl ⟨rfl, rfl, rfl, rfl, rfl, trivial⟩ (⟨_, _, rfl, rfl, _, _, rfl, rfl, _, _, rfl, rfl, rfl⟩) rfl⟩
           ·
            replace hm3 := cond_f hc9 hm3
            refine V.exit ?_
            obtain rfl := hr3 _ (Option.some.inj hm3).symm
            exact ⟨((out_4, y13.2), b63), rfl, Keeps.mk (ks := [1, 0, 2]) rfl ⟨rfl, rfl, rfl, trivial⟩ (⟨_, _, rfl, rfl, _, _, rfl, rfl, _, _, rfl, rfl, rfl⟩) rfl⟩
          ·
           rintro ⟨⟨out_3, c_6⟩, b62⟩ rfl
           try dsimp only at hm2
           exact ⟨((out_3, (out_.getD (Int.toNat y6.1) default).Id, (out_.getD (Int.toNat y6.1) default).Name, (out_.getD (Int.toNat y6.1) default).Until, (out_.getD (Int.toNat y6.1) default).Reads, c_6), b62), Option.some.inj hm2, Keeps.mk (ks := [0, 1, 2]) rfl ⟨rfl, rfl, rfl, trivial⟩ (⟨_, _, rfl, rfl, _, _, rfl, rfl, _, _, rfl, rfl, rfl⟩) rfl⟩
         ·
          replace hm2 := cond_f hc8 hm2
          refine V.seq ?_
          replace hm2 := bindO hm2; rcases hm2 with ⟨j5, hm3, hm2⟩
          refine V.cutT (D := (Bool) × (Unit)) (fun ⟨v, _⟩ => ⟨142, [(117, .bool v), (3, .sref b1 4 0 (List.length out_)), (8, .int .i64 y6.1), (9, .ref b54 4 0 0)], [(bp, ⟨3, [encCur ρ0 y7.2]⟩), (b54, ⟨4, [encFormat rn (out_.getD (Int.toNat y6.1) default)]⟩), (b1, ⟨4, List.map (encFormat rn) out_⟩)]⟩) (fun ⟨v, _⟩ => (v = j5)) ?_ ?_
          ·
           refine V.seq ?_
           refine V.region ?_
           refine VO.cons rfl (V1.int rfl rfl rfl rfl rfl lt0 ?_)
           refine VO.cons rfl (V1.assign rfl rfl rfl lt0 ?_)
           refine VO.nil ?_
           refine V.keep 142 [3, 8, 9, 68, 117] [0, 1, 2] (E0 := [(3, .sref b1 4 0 (List.length out_)), (8, .int .i64 y6.1), (9, .ref b54 4 0 0), (68, .int .i64 y7.1), (117, .bool (y7.1 == (5 : Int)))]) (H0 := [(bp, ⟨3, [encCur ρ0 y7.2]⟩), (b54, ⟨4, [encFormat rn (out_.getD (Int.toNat y6.1) default)]⟩), (b1, ⟨4, List.map (encFormat rn) out_⟩)]) rfl (⟨_, _, rfl, rfl, _, _, rfl, rfl, _, _, rfl, rfl, _, _, rfl, rfl, _, _, rfl, rfl, rfl⟩) (⟨_, _, rfl, rfl, _, _, rfl, rfl, _, _, rfl, rfl, rfl⟩) rfl ?_
           refine V.cond rfl (fun hc10 => ?_) (fun hc10 => ?_)
           ·
            replace hm3 := cond_t hc10 hm3
            refine V.skip ?_
            exact ⟨((y7.1 == (5 : Int)), ()), Option.some.inj hm3, Keeps.mk (ks := [0, 1, 2]) rfl ⟨rfl, rfl, rfl, rfl, trivial⟩ (⟨_, _, rfl, rfl, _, _, rfl, rfl, _, _, rfl, rfl, rfl⟩) rfl⟩
           ·
            replace hm3 := cond_f hc10 hm3
            refine V.seq ?_
            refine V.region ?_
            refine VO.cons rfl (V1.int rfl rfl rfl rfl rfl lt0 ?_)
            refine VO.cons rfl (V1.assign rfl rfl rfl lt0 ?_)
            refine VO.nil ?_
            refine V.cond rfl (fun hc11 => ?_) (fun hc11 => ?_)
            ·
             replace hm3 := cond_t hc11 hm3
             refine V.skip ?_
             exact ⟨((y7.1 == (6 : Int)), ()), Option.some.inj hm3, Keeps.mk (ks := [0, 1, 2]) rfl ⟨rfl, rfl, rfl, rfl, trivial⟩ (⟨_, _, rfl, rfl, _, _, rfl, rfl, _, _, rfl, rfl, rfl⟩) rfl⟩
            ·
             replace hm3 := cond_f hc11 hm3
             refine V.seq ?_
             refine V.region ?_
             refine VO.cons rfl (V1.int rfl rfl rfl rfl rfl lt0 ?_)
             refine VO.cons rfl (V1.assign rfl rfl rfl lt0 ?_)
             refine VO.nil ?_
             refine V.cond rfl (fun hc12 => ?_) (fun hc12 => ?_)
             ·
              replace hm3 := cond_t hc12 hm3
              refine V.skip ?_
              exact ⟨((y7.1 == (7 : Int)), ()), Option.some.inj hm3, Keeps.mk (ks := [0, 1, 2]) rfl ⟨rfl, rfl, rfl, rfl, trivial⟩ (⟨_, _, rfl, rfl, _, _, rfl, rfl, _, _, rfl, rfl, rfl⟩) rfl⟩
             ·
              replace hm3 := cond_f hc12 hm3
              refine V.seq ?_
              refine V.region ?_
              refine VO.cons rfl (V1.int rfl rfl rfl rfl rfl lt0 ?_)
              refine VO.cons rfl (V1.assign rfl rfl rfl lt0 ?_)
              refine VO.nil ?_
              refine V.cond rfl (fun hc13 => ?_) (fun hc13 => ?_)
              ·
               replace hm3 := cond_t hc13 hm3
               refine V.skip ?_
               exact ⟨((y7.1 == (8 : Int)), ()), Option.some.inj hm3, Keeps.mk (ks := [0, 1, 2]) rfl ⟨rfl, rfl, rfl, rfl, trivial⟩ (⟨_, _, rfl, rfl, _, _, rfl, rfl, _, _, rfl, rfl, rfl⟩) rfl⟩
              ·
               replace hm3 := cond_f hc13 hm3
               refine V.seq ?_
               refine V.region ?_
               refine VO.cons rfl (V1.int rfl rfl rfl rfl rfl lt0 ?_)
               refine VO.cons rfl (V1.assign rfl rfl rfl lt0 ?_)
               refine VO.nil ?_
               refine V.keep 142 [3, 8, 9, 68, 117] [0, 1, 2] (E0 := [(3, .sref b1 4 0 (List.length out_)), (8, .int .i64 y6.1), (9, .ref b54 4 0 0), (68, .int .i64 y7.1), (117, .bool (y7.1 == (9 : Int)))]) (H0 := [(bp, ⟨3, [encCur ρ0 y7.2]⟩), (b54, ⟨4, [encFormat rn (out_.getD (Int.toNat y6.1) default)]⟩), (b1, ⟨4, List.map (encFormat rn) out_⟩)]) rfl (⟨_, _, rfl, rfl, _, _, rfl, rfl, _, _, rfl, rfl, _, _, rfl, rfl, _, _, rfl, rfl, rfl⟩) (⟨_, _, rfl, rfl, _, _, rfl, rfl, _, _, rfl, rfl, rfl⟩) rfl ?_
               refine V.cond rfl (fun hc14 => ?_) (fun hc14 => ?_)
               ·
                replace hm3 := cond_t hc14 hm3
                refine V.skip ?_
                exact ⟨((y7.1 == (9 : Int)), ()), Option.some.inj hm3, Keeps.mk (ks := [0, 1, 2]) rfl ⟨rfl, rfl, rfl, rfl, trivial⟩ (⟨_, _, rfl, rfl, _, _, rfl, rfl, _, _, rfl, rfl, rfl⟩) rfl⟩
               ·
                replace hm3 := cond_f hc14 hm3
                refine V.region ?_
                refine VO.cons rfl (V1.int rfl rfl rfl rfl rfl lt0 ?_)
                refine VO.cons rfl (V1.assign rfl rfl rfl lt0 ?_)
                refine VO.nil ?_
                exact ⟨((y7.1 == (10 : Int)), ()), Option.some.inj hm3, Keeps.mk (ks := [0, 1, 2]) rfl ⟨rfl, rfl, rfl, rfl, trivial⟩ (⟨_, _, rfl, rfl, _, _, rfl, rfl, _, _, rfl, rfl, rfl⟩) rfl⟩
          ·
           rintro ⟨v, _⟩ rfl
           try dsimp only at hm2
           refine V.cond rfl (fun hc15 => ?_) (fun hc15 => ?_)
           ·
            replace hm2 := cond_t hc15 hm2
            refine V.seq ?_
            refine V.region ?_
            refine VO.cons rfl (V1.move rfl rfl rfl lt0 ?_)
            refine VO.cons rfl (V1.int rfl rfl rfl rfl rfl lt0 ?_)
            refine VO.cons rfl (V1.move rfl rfl rfl lt0 ?_)
            refine VO.cons rfl (V1.lenSref rfl rfl rfl rfl rfl rfl isl_24 lt0 ?_)
            refine VO.cons rfl (V1.int rfl rfl rfl rfl rfl lt0 ?_)
            refine VO.nil ?_
            refine V.keep 142 [3, 8, 9, 128] [0, 1, 2] (E0 := [(3, .sref b1 4 0 (List.length out_)), (8, .int .i64 y6.1), (9, .ref b54 4 0 0), (128, .bool (decide ((IntKind.i64.wrap (y6.1 + (1 : Int))) < (out_.length : Int))))]) (H0 := [(bp, ⟨3, [encCur ρ0 y7.2]⟩), (b54, ⟨4, [encFormat rn (out_.getD (Int.toNat y6.1) default)]⟩), (b1, ⟨4, List.map (encFormat rn) out_⟩)]) rfl (⟨_, _, rfl, rfl, _, _, rfl, rfl, _, _, rfl, rfl, _, _, rfl, rfl, rfl⟩) (⟨_, _, rfl, rfl, _, _, rfl, rfl, _, _, rfl, rfl, rfl⟩) rfl ?_
            refine V.cond rfl (fun hc16 => ?_) (fun hc16 => ?_)
            ·
             replace hm2 := cond_t hc16 hm2
             replace hm2 := asrt_some hm2; rcases hm2 with ⟨hh16, hm2⟩
             refine V.region ?_
             refine VO.cons rfl (V1.move rfl rfl rfl lt0 ?_)
             refine VO.cons rfl (V1.move rfl rfl rfl lt0 ?_)
             refine VO.cons rfl (V1.int rfl rfl rfl rfl rfl lt0 ?_)
             refine VO.cons rfl (V1.indexSr rfl rfl esz_24 rfl rfl hh16 lt0 ?_)
             refine VO.cons rfl (V1.fieldRef rfl rfl fo_34_0 rfl lt0 ?_)
             refine VO.cons rfl (V1.loadMap (k := 2) (f := (encFormat rn)) rfl rfl tyk_3 rfl rfl (by simpa using natLt hh16.1 hh16.2) rfl lt0 ?_)
             refine VO.cons rfl (V1.buildSliceT (f := encInt) ([(out_.getD (Int.toNat (IntKind.i64.wrap (y6.1 + (1 : Int)))) default).Id] : List Int) rfl rfl esz_27 zk_3 rfl rfl rfl rfl rfl rfl rfl lt0 ?_)
             intro b67
             refine VO.cons rfl (V1.fieldRef rfl rfl fo_34_3 rfl lt0 ?_)
             refine VO.cons rfl (V1.storeRef (k := 2) rfl rfl tyk_27 rfl rfl rfl rfl rfl rfl rfl rfl rfl ?_)
             refine VO.nil ?_
             exact ⟨((out_, (out_.getD (Int.toNat y6.1) default).Id, (out_.getD (Int.toNat y6.1) default).Name, (out_.getD (Int.toNat y6.1) default).Until, ([(out_.getD (Int.toNat (IntKind.i64.wrap (y6.1 + (1 : Int)))) default).Id] : List Int), y7.2), b1), Option.some.inj hm2, Keeps.trans (Keeps.freezeG 0 rn [(135, .vl rn 1 (List.map encInt ([(out_.getD (Int.toNat (IntKind.i64.wrap (y6.1 + (1 : Int)))) default).Id] : List Int)))] ([(bp, ⟨3, [encCur ρ0 y7.2]⟩), (b54, ⟨4, [.agg [.int .i64 ((out_.getD (Int.toNat y6.1) default).Id), .str ((out_.getD (Int.toNat y6.1) default).Name), .int .i64 ((out_.getD (Int.toNat y6.1) default).Until), .vl rn 1 (List.map encInt ([(out_.getD (Int.toNat (IntKind.i64.wrap (y6.1 + (1 : Int)))) default).Id] : List Int))]]⟩), (b1, ⟨4, List.map (encFormat rn) out_⟩)]) (f := encInt) (l := ([(out_.getD (Int.toNat (IntKind.i64.wrap (y6.1 + (1 : Int)))) default).Id] : List Int)) rfl (fun _ => rfl) ⟨⟨_, rfl, .here⟩, trivial⟩ ⟨_, _, rfl, rfl, .inl rfl, ⟨_, _, rfl, rfl, .inr (.cons (.agg (.cons .same (.cons .same (.cons .same (.cons .here .nil))))) .nil), ⟨_, _, rfl, rfl, .inl rfl, rfl⟩⟩⟩ rfl (iOne (b := bp) 0 rfl)) (Keeps.mk (ks := [2, 0, 1]) rfl ⟨rfl, rfl, rfl, trivial⟩ (⟨_, _, rfl, rfl, _, _, rfl, rfl, _, _, rfl, rfl, rfl⟩) rfl)⟩
            ·
             replace hm2 := cond_f hc16 hm2
             refine V.skip ?_
             exact ⟨((out_, (out_.getD (Int.toNat y6.1) default).Id, (out_.getD (Int.toNat y6.1) default).Name, (out_.getD (Int.toNat y6.1) default).Until, (out_.getD (Int.toNat y6.1) default).Reads, y7.2), b1), Option.some.inj hm2, Keeps.mk (ks := [2, 0, 1]) rfl ⟨rfl, rfl, rfl, trivial⟩ (⟨_, _, rfl, rfl, _, _, rfl, rfl, _, _, rfl, rfl, rfl⟩) rfl⟩
           ·
            replace hm2 := cond_f hc15 hm2
            refine V.skip ?_
            exact ⟨((out_, (out_.getD (Int.toNat y6.1) default).Id, (out_.getD (Int.toNat y6.1) default).Name, (out_.getD (Int.toNat y6.1) default).Until, (out_.getD (Int.toNat y6.1) default).Reads, y7.2), b1), Option.some.inj hm2, Keeps.mk (ks := [2, 0, 1]) rfl ⟨rfl, rfl, rfl, trivial⟩ (⟨_, _, rfl, rfl, _, _, rfl, rfl, _, _, rfl, rfl, rfl⟩) rfl⟩
    ·
     rintro ⟨⟨out_2, f_Id, f_Name, f_Until, f_Reads3, c_5⟩, b56⟩ rfl
     try dsimp only at hm1
     exact ⟨((out_2, c_5, (⟨f_Id, f_Name, f_Until, f_Reads3⟩ : Format)), b56), Option.some.inj hm1, Keeps.mk (ks := [0, 1, 2]) rfl ⟨rfl, rfl, rfl, trivial⟩ (⟨_, _, rfl, rfl, _, _, rfl, rfl, _, _, rfl, rfl, rfl⟩) rfl⟩
   ·
    rintro ⟨⟨out_1, o, f_⟩, b55⟩ rfl
    try dsimp only at hm0
    refine V.seq ?_
    replace hm0 := asrt_some hm0; rcases hm0 with ⟨hh17, hm0⟩
    refine V.region ?_
    refine VO.cons rfl (V1.move rfl rfl rfl lt0 ?_)
    refine VO.cons rfl (V1.move rfl rfl rfl lt0 ?_)
    refine VO.cons rfl (V1.loadRefAll (k := 2) rfl rfl tyk_34 rfl rfl rfl rfl rfl lt0 ?_)
    refine VO.cons rfl (V1.indexSr rfl rfl esz_24 rfl rfl hh17 lt0 ?_)
    refine VO.cons rfl (V1.storeMap (k := 0) (f := (encFormat rn)) (x := f_) rfl rfl tyk_34 rfl rfl (by simpa using natLt hh17.1 hh17.2) rfl rfl ?_)
    refine VO.weakenK (Keeps.say 3 (y := .sref b55 4 0 (List.length (out_1.set (Int.toNat y6.1) f_))) rfl (by simp [optS])) ?_
    refine VO.nil ?_
    refine V.keep 142 [3] [0, 1] (E0 := [(3, .sref b55 4 0 (List.length (out_1.set (Int.toNat y6.1) f_)))]) (H0 := [(b55, ⟨4, List.map (encFormat rn) (out_1.set (Int.toNat y6.1) f_)⟩), (bp, ⟨3, [encCur ρ0 o]⟩)]) rfl (⟨_, _, rfl, rfl, rfl⟩) (⟨_, _, rfl, rfl, _, _, rfl, rfl, rfl⟩) rfl ?_
    refine V.seq ?_
    refine V.region ?_
    refine VO.cons rfl (V1.move rfl rfl rfl lt0 ?_)
    refine VO.cons rfl (V1.assign rfl rfl rfl lt0 ?_)
    refine VO.nil ?_
    refine V.keep 142 [2] [0, 1] (E0 := [(2, .sref b55 4 0 (List.length (out_1.set (Int.toNat y6.1) f_)))]) (H0 := [(b55, ⟨4, List.map (encFormat rn) (out_1.set (Int.toNat y6.1) f_)⟩), (bp, ⟨3, [encCur ρ0 o]⟩)]) rfl (⟨_, _, rfl, rfl, rfl⟩) (⟨_, _, rfl, rfl, _, _, rfl, rfl, rfl⟩) rfl ?_
    refine V.ret ?_
    obtain rfl := Option.some.inj hm0
    exact ⟨_, _, ⟨_, _, rfl, rfl, rfl⟩, List.Sublist.refl _, b55, rfl, rfl⟩

theorem ok_spec_l1Cur_formatId {ρ0 ρ1 σ1 rn bp : Nat} {c : Cur} {list : List Format} {r : Int × Cur} (h : M.spec_l1Cur_formatId c list = some r) : Does Tryd.prog 51 [.ref bp 3 0 0, .vl ρ1 4 (List.map (encFormat σ1) list)] [(bp, ⟨3, [encCur ρ0 c]⟩)] rn (fun x H => x = .int .i64 r.1 ∧ H = [(bp, ⟨3, [encCur ρ0 r.2]⟩)]) := by
 have hm0 := h; clear h; unfold M.spec_l1Cur_formatId at hm0
 try dsimp only at hm0
 refine Does.intro (N := 23) Tryd.func51 rfl rfl rfl rfl ?_
 intro w0 S0 L0
 refine V.seq ?_
 refine V.region ?_
 refine VO.cons rfl (V1.assign rfl rfl rfl lt0 ?_)
 refine VO.nil ?_
 refine V.seq ?_
 refine V.seq ?_
 replace hm0 := bindO hm0; rcases hm0 with ⟨y0, hh0, hm0⟩
 refine V.region ?_
 refine VO.cons rfl (V1.move rfl rfl rfl lt0 ?_)
 refine VO.cons rfl (V1.lenMap rfl rfl rfl rfl rfl rfl isl_24 lt0 ?_)
 refine VO.cons rfl (V1.int rfl rfl rfl rfl rfl lt0 ?_)
 refine VO.cons rfl (V1.move rfl rfl rfl lt0 ?_)
 apply VO.orH (n := 2) [(bp, ⟨3, [encCur ρ0 (bif ((list.length : Int) == (0 : Int)) then c else y0.2)]⟩)] rfl rfl rfl rfl rfl rfl lt0 (.none rfl) (fun h => by rw [h]; rfl)
 ·
  intro hg0
  refine VO.step (.some rfl rfl rfl) (V1.move rfl rfl rfl lt0 ?_)
  refine VO.step (.some rfl rfl rfl) (V1.callM 0 (rn + ρ0 + 1) [] [.ref bp 3 0 0, .int .i64 (12 : Int)] (p := (bp, ⟨3, [encCur ρ0 c]⟩)) rfl rfl rfl cok_108 rfl rfl ⟨_, _, rfl, .same _, ⟨_, _, rfl, .same _, rfl⟩⟩ bwNil (ok_spec_l1Cur_one (cond_f hg0 hh0)) rfl (.inl rfl) lt0 ?_)
  rintro _ _ ⟨rfl, rfl⟩
  exact VO.nil ⟨rfl, rfl, rfl, (by rw [hg0]; rfl), .inr ⟨rfl, .inr ⟨rfl, .inr ⟨rfl, .inl rfl⟩⟩⟩⟩
 refine VO.nil ?_
 refine V.keep 23 [0, 1, 11] [0] (E0 := [(0, .ref bp 3 0 0), (1, .vl ρ1 4 (List.map (encFormat σ1) list)), (11, .bool (((list.length : Int) == (0 : Int)) || y0.1))]) (H0 := [(bp, ⟨3, [encCur ρ0 (bif ((list.length : Int) == (0 : Int)) then c else y0.2)]⟩)]) rfl (⟨_, _, rfl, rfl, _, _, rfl, rfl, _, _, rfl, rfl, rfl⟩) (⟨_, _, rfl, rfl, rfl⟩) rfl ?_
 refine V.cond rfl (fun hc0 => ?_) (fun hc0 => ?_)
 ·
  replace hm0 := cond_t hc0 hm0
  refine V.seq ?_
  replace hm0 := bindO hm0; rcases hm0 with ⟨y1, hh1, hm0⟩
  refine V.region ?_
  refine VO.cons rfl (V1.move rfl rfl rfl lt0 ?_)
  refine VO.cons rfl (V1.buildSliceT (f := encInt) ([(0 : Int), (1 : Int), (48 : Int)] : List Int) rfl rfl esz_27 zk_3 rfl rfl rfl rfl rfl rfl rfl lt0 ?_)
  intro b0
  refine VO.cons rfl (V1.callM 1 (rn + ρ0 + 1) [b0] [.ref bp 3 0 0, .vl (rn + ρ0 + 1) 1 (List.map encInt ([(0 : Int), (1 : Int), (48 : Int)] : List Int))] (p := (bp, ⟨3, [encCur ρ0 (bif ((list.length : Int) == (0 : Int)) then c else y0.2)]⟩)) rfl rfl rfl cok_69 rfl rfl ⟨_, _, rfl, .same _, ⟨_, _, rfl, Lend.srMap 0 rfl (fun _ => rfl) (.head _), rfl⟩⟩ (bwCons (k := 0) rfl bwNil) (ok_spec_l1Cur_among hh1) rfl (.inr ⟨(by first | omega | (dsimp only; omega)), by rintro _ _ ⟨rfl, rfl⟩; exact ⟨by simp [PV.no, PV.noL, optS_no, noL_iff, nbeq] <;> omega, by intro b ob h; first | exact optH_no (noL_map (fun _ => by simp [PV.no, PV.noL, noL_iff, nbeq]) _) b ob h | (simp only [List.append_assoc, List.mem_append, List.mem_cons, List.mem_singleton, List.not_mem_nil, or_false, Prod.mk.injEq] at h; rcases h with ⟨rfl, rfl⟩ | ⟨rfl, rfl⟩ <;> first | exact noL_map (fun _ => by simp [PV.no, PV.noL, noL_iff, nbeq]) _ | (simp [PV.no, PV.noL, optS_no, noL_iff, nbeq] <;> omega)) | (simp at h; obtain ⟨rfl, rfl⟩ := h; exact noL_map (fun _ => by simp [PV.no, PV.noL, noL_iff, nbeq]) _) | (simp at h; obtain ⟨rfl, rfl⟩ := h; simp [PV.no, PV.noL, optS_no, noL_iff, nbeq] <;> omega)⟩⟩) lt0 ?_)
  rintro _ _ ⟨rfl, rfl⟩
  refine VO.cons rfl (V1.assign rfl rfl rfl lt0 ?_)
  refine VO.nil ?_
  refine V.ret ?_
  obtain rfl := Option.some.inj hm0
  exact ⟨_, _, ⟨_, _, rfl, rfl, rfl⟩, (sub1 (k := 0) rfl), rfl, rfl⟩
 ·
  replace hm0 := cond_f hc0 hm0
  refine V.skip ?_
  refine V.seq ?_
  replace hm0 := bindO hm0; rcases hm0 with ⟨y2, hh2, hm0⟩
  replace hm0 := asrt_some hm0; rcases hm0 with ⟨hh3, hm0⟩
  refine V.region ?_
  refine VO.cons rfl (V1.move rfl rfl rfl lt0 ?_)
  refine VO.cons rfl (V1.move rfl rfl rfl lt0 ?_)
  refine VO.cons rfl (V1.move rfl rfl rfl lt0 ?_)
  refine VO.cons rfl (V1.lenMap rfl rfl rfl rfl rfl rfl isl_24 lt0 ?_)
  refine VO.cons rfl (V1.callM 0 (rn + ρ0 + 1) [] [.ref bp 3 0 0, .int .i64 (list.length : Int)] (p := (bp, ⟨3, [encCur ρ0 (bif ((list.length : Int) == (0 : Int)) then c else y0.2)]⟩)) rfl rfl rfl cok_84 rfl rfl ⟨_, _, rfl, .same _, ⟨_, _, rfl, .same _, rfl⟩⟩ bwNil (ok_spec_l1Cur_pick hh2) rfl (.inl rfl) lt0 ?_)
  rintro _ _ ⟨rfl, rfl⟩
  refine VO.cons rfl (V1.indexI rfl rfl esz_24 rfl rfl hh3 lt0 ?_)
  refine VO.cons rfl (V1.fieldPin rfl rfl fo_34_0 rfl lt0 ?_)
  refine VO.cons rfl (V1.loadPin rfl rfl tyk_3 rfl rfl lt0 ?_)
  refine VO.cons rfl (V1.assign rfl rfl rfl lt0 ?_)
  refine VO.nil ?_
  refine V.ret ?_
  obtain rfl := Option.some.inj hm0
  exact ⟨_, _, ⟨_, _, rfl, rfl, rfl⟩, (sub1 (k := 0) rfl), rfl, rfl⟩

theorem ok_spec_l1Cur_day7 {ρ0 rn bp : Nat} {c : Cur} {r : Int × Cur} (h : M.spec_l1Cur_day7 c = some r) : Does Tryd.prog 52 [.ref bp 3 0 0] [(bp, ⟨3, [encCur ρ0 c]⟩)] rn (fun x H => x = .int .i64 r.1 ∧ H = [(bp, ⟨3, [encCur ρ0 r.2]⟩)]) := by
 have hm0 := h; clear h; unfold M.spec_l1Cur_day7 at hm0
 try dsimp only at hm0
 refine Does.intro (N := 11) Tryd.func52 rfl rfl rfl rfl ?_
 intro w0 S0 L0
 refine V.seq ?_
 refine V.region ?_
 refine VO.cons rfl (V1.assign rfl rfl rfl lt0 ?_)
 refine VO.nil ?_
 refine V.seq ?_
 replace hm0 := bindO hm0; rcases hm0 with ⟨y0, hh0, hm0⟩
 replace hm0 := asrt_some hm0; rcases hm0 with ⟨hh1, hm0⟩
 replace hm0 := bindO hm0; rcases hm0 with ⟨y1, hh2, hm0⟩
 refine V.region ?_
 refine VO.cons rfl (V1.move rfl rfl rfl lt0 ?_)
 refine VO.cons rfl (V1.buildSliceT (f := encInt) ([(0 : Int), (99 : Int), (100 : Int), (101 : Int), (901 : Int), (20000 : Int), (-1 : Int), (20001 : Int)] : List Int) rfl rfl esz_27 zk_3 rfl rfl rfl rfl rfl rfl rfl lt0 ?_)
 intro b0
 refine VO.cons rfl (V1.move rfl rfl rfl lt0 ?_)
 refine VO.cons rfl (V1.callM 1 (rn + ρ0 + 1) [] [.ref bp 3 0 0, .int .i64 (24 : Int)] (p := (bp, ⟨3, [encCur ρ0 c]⟩)) rfl rfl rfl cok_84 rfl rfl ⟨_, _, rfl, .same _, ⟨_, _, rfl, .same _, rfl⟩⟩ bwNil (ok_spec_l1Cur_pick hh0) rfl (.inl rfl) lt0 ?_)
 rintro _ _ ⟨rfl, rfl⟩
 refine VO.cons rfl (V1.quo rfl rfl rfl rfl (by decide) lt0 ?_)
 refine VO.cons rfl (V1.int rfl rfl rfl rfl rfl lt0 ?_)
 refine VO.weakenK (Keeps.freezeG 1 rn [(4, .vl rn 1 (List.map encInt ([(0 : Int), (99 : Int), (100 : Int), (101 : Int), (901 : Int), (20000 : Int), (-1 : Int), (20001 : Int)] : List Int)))] ([(bp, ⟨3, [encCur ρ0 y0.2]⟩)]) (f := encInt) (l := ([(0 : Int), (99 : Int), (100 : Int), (101 : Int), (901 : Int), (20000 : Int), (-1 : Int), (20001 : Int)] : List Int)) rfl (fun _ => rfl) ⟨⟨_, rfl, .here⟩, trivial⟩ ⟨_, _, rfl, rfl, .inl rfl, rfl⟩ rfl (iOne (b := bp) 0 rfl)) ?_
 refine VO.cons rfl (V1.sliceMap (a := (0 : Int)) (b := (IntKind.i64.wrap ((6 : Int) + (IntKind.i64.wrap (Int.tdiv y0.1 (11 : Int)))))) rfl rfl esz_27 rfl (Bnd.none _ _) (Bnd.some rfl (Int.le_trans hh1.1 hh1.2.1) _) hh1 lt0 ?_)
 refine VO.cons rfl (V1.callM 0 (rn + ρ0 + 1) [] [.ref bp 3 0 0, .vl rn 1 (List.map encInt (slc ([(0 : Int), (99 : Int), (100 : Int), (101 : Int), (901 : Int), (20000 : Int), (-1 : Int), (20001 : Int)] : List Int) (0 : Int) (IntKind.i64.wrap ((6 : Int) + (IntKind.i64.wrap (Int.tdiv y0.1 (11 : Int)))))))] (p := (bp, ⟨3, [encCur ρ0 y0.2]⟩)) rfl rfl rfl cok_69 rfl rfl ⟨_, _, rfl, .same _, ⟨_, _, rfl, .same _, rfl⟩⟩ bwNil (ok_spec_l1Cur_among hh2) rfl (.inl rfl) lt0 ?_)
 rintro _ _ ⟨rfl, rfl⟩
 refine VO.cons rfl (V1.assign rfl rfl rfl lt0 ?_)
 refine VO.nil ?_
 refine V.ret ?_
 obtain rfl := Option.some.inj hm0
 exact ⟨_, _, ⟨_, _, rfl, rfl, rfl⟩, (sub1 (k := 0) rfl), rfl, rfl⟩

theorem ok_spec_DrawShortestPath {ρ0 rn : Nat} {code : List Int} {r : List Format × Int × Int × Int} (h : M.spec_DrawShortestPath code = some r) : Does Tryd.prog 7 [.vl ρ0 1 (List.map encU8 code)] [] rn (fun x H => ∃ (ob0_ : Nat), x = .tup [PV.sref ob0_ 4 0 (List.length r.1), .int .i64 r.2.1, .int .i64 r.2.2.1, .int .i64 r.2.2.2] ∧ H = [(ob0_, ⟨4, List.map (encFormat rn) r.1⟩)]) := by
 have hm0 := h; clear h; unfold M.spec_DrawShortestPath at hm0
 try dsimp only at hm0
 refine Does.intro (N := 22) Tryd.func7 rfl rfl rfl rfl ?_
 intro w0 S0 L0
 refine V.seq ?_
 refine V.region ?_
 refine VO.cons rfl (V1.assign rfl rfl rfl lt0 ?_)
 refine VO.cons rfl (V1.assign rfl rfl rfl lt0 ?_)
 refine VO.cons rfl (V1.assign rfl rfl rfl lt0 ?_)
 refine VO.cons rfl (V1.assign rfl rfl rfl lt0 ?_)
 refine VO.nil ?_
 refine V.keep 22 [0] [] (E0 := [(0, .vl ρ0 1 (List.map encU8 code))]) (H0 := []) rfl (⟨_, _, rfl, rfl, rfl⟩) (rfl) rfl ?_
 refine V.seq ?_
 refine V.region ?_
 refine VO.cons rfl (V1.move rfl rfl rfl lt0 ?_)
 refine VO.cons rfl (V1.build rfl rfl zk_77 pl_77 rfl rfl lt0 ?_)
 refine VO.cons rfl (V1.boxN (n := 3) rfl rfl rfl rfl rfl lt0 ?_)
 intro b0
 refine VO.cons rfl (V1.assign rfl rfl rfl lt0 ?_)
 refine VO.nil ?_
 refine V.keep 22 [6] [0] (E0 := [(6, .ref b0 3 0 0)]) (H0 := [(b0, ⟨3, [.agg [.vl ρ0 1 (List.map encU8 code), .int .i64 (0 : Int), .int .u64 (0 : Int)]]⟩)]) rfl (⟨_, _, rfl, rfl, rfl⟩) (⟨_, _, rfl, rfl, rfl⟩) rfl ?_
 refine V.seq ?_
 replace hm0 := bindO hm0; rcases hm0 with ⟨y0, hh0, hm0⟩
 refine V.region ?_
 refine VO.cons rfl (V1.move rfl rfl rfl lt0 ?_)
 refine VO.cons rfl (V1.callM 0 (rn + ρ0 + 1) [] [.ref b0 3 0 0] (p := (b0, ⟨3, [.agg [.vl ρ0 1 (List.map encU8 code), .int .i64 (0 : Int), .int .u64 (0 : Int)]]⟩)) rfl rfl rfl cok_50 rfl rfl ⟨_, _, rfl, .same _, rfl⟩ bwNil (ok_spec_l1Cur_formats hh0) rfl (.inl rfl) lt0 ?_)
 rintro _ _ ⟨b1, rfl, rfl⟩
 refine VO.cons rfl (V1.assign rfl rfl rfl lt0 ?_)
 refine VO.nil ?_
 refine V.seq ?_
 replace hm0 := bindO hm0; rcases hm0 with ⟨y1, hh1, hm0⟩
 replace hm0 := bindO hm0; rcases hm0 with ⟨y2, hh2, hm0⟩
 replace hm0 := bindO hm0; rcases hm0 with ⟨y3, hh3, hm0⟩
 refine V.region ?_
 refine VO.cons rfl (V1.move rfl rfl rfl lt0 ?_)
 refine VO.cons rfl (V1.move rfl rfl rfl lt0 ?_)
 refine VO.cons rfl (V1.move rfl rfl rfl lt0 ?_)
 refine VO.cons rfl (V1.callM 1 (rn + ρ0 + 1) [b1] [.ref b0 3 0 0, .vl (rn + ρ0 + 1) 4 (List.map (encFormat rn) y0.1)] (p := (b0, ⟨3, [encCur ρ0 y0.2]⟩)) rfl rfl rfl cok_51 rfl rfl ⟨_, _, rfl, .same _, ⟨_, _, rfl, Lend.srMap 0 rfl (fun _ => rfl) (.head _), rfl⟩⟩ (bwCons (k := 0) rfl bwNil) (ok_spec_l1Cur_formatId hh1) rfl (.inr ⟨(by first | omega | (dsimp only; omega)), by rintro _ _ ⟨rfl, rfl⟩; exact ⟨by simp [PV.no, PV.noL, optS_no, noL_iff, nbeq] <;> omega, by intro b ob h; first | exact optH_no (noL_map (fun _ => by simp [PV.no, PV.noL, noL_iff, nbeq]) _) b ob h | (simp only [List.append_assoc, List.mem_append, List.mem_cons, List.mem_singleton, List.not_mem_nil, or_false, Prod.mk.injEq] at h; rcases h with ⟨rfl, rfl⟩ | ⟨rfl, rfl⟩ <;> first | exact noL_map (fun _ => by simp [PV.no, PV.noL, noL_iff, nbeq]) _ | (simp [PV.no, PV.noL, optS_no, noL_iff, nbeq] <;> omega)) | (simp at h; obtain ⟨rfl, rfl⟩ := h; exact noL_map (fun _ => by simp [PV.no, PV.noL, noL_iff, nbeq]) _) | (simp at h; obtain ⟨rfl, rfl⟩ := h; simp [PV.no, PV.noL, optS_no, noL_iff, nbeq] <;> omega)⟩⟩) lt0 ?_)
 rintro _ _ ⟨rfl, rfl⟩
 refine VO.cons rfl (V1.move rfl rfl rfl lt0 ?_)
 refine VO.cons rfl (V1.move rfl rfl rfl lt0 ?_)
 refine VO.cons rfl (V1.callM 0 (rn + ρ0 + 1) [b1] [.ref b0 3 0 0, .vl (rn + ρ0 + 1) 4 (List.map (encFormat rn) y0.1)] (p := (b0, ⟨3, [encCur ρ0 y1.2]⟩)) rfl rfl rfl cok_51 rfl rfl ⟨_, _, rfl, .same _, ⟨_, _, rfl, Lend.srMap 1 rfl (fun _ => rfl) (.head _), rfl⟩⟩ (bwCons (k := 0) rfl bwNil) (ok_spec_l1Cur_formatId hh2) rfl (.inr ⟨(by first | omega | (dsimp only; omega)), by rintro _ _ ⟨rfl, rfl⟩; exact ⟨by simp [PV.no, PV.noL, optS_no, noL_iff, nbeq] <;> omega, by intro b ob h; first | exact optH_no (noL_map (fun _ => by simp [PV.no, PV.noL, noL_iff, nbeq]) _) b ob h | (simp only [List.append_assoc, List.mem_append, List.mem_cons, List.mem_singleton, List.not_mem_nil, or_false, Prod.mk.injEq] at h; rcases h with ⟨rfl, rfl⟩ | ⟨rfl, rfl⟩ <;> first | exact noL_map (fun _ => by simp [PV.no, PV.noL, noL_iff, nbeq]) _ | (simp [PV.no, PV.noL, optS_no, noL_iff, nbeq] <;> omega)) | (simp at h; obtain ⟨rfl, rfl⟩ := h; exact noL_map (fun _ => by simp [PV.no, PV.noL, noL_iff, nbeq]) _) | (simp at h; obtain ⟨rfl, rfl⟩ := h; simp [PV.no, PV.noL, optS_no, noL_iff, nbeq] <;> omega)⟩⟩) lt0 ?_)
 rintro _ _ ⟨rfl, rfl⟩
 refine VO.cons rfl (V1.move rfl rfl rfl lt0 ?_)
 refine VO.cons rfl (V1.callM 0 (rn + ρ0 + 1) [] [.ref b0 3 0 0] (p := (b0, ⟨3, [encCur ρ0 y2.2]⟩)) rfl rfl rfl cok_52 rfl rfl ⟨_, _, rfl, .same _, rfl⟩ bwNil (ok_spec_l1Cur_day7 hh3) rfl (.inl rfl) lt0 ?_)
 rintro _ _ ⟨rfl, rfl⟩
 refine VO.cons rfl (V1.assign rfl rfl rfl lt0 ?_)
 refine VO.cons rfl (V1.assign rfl rfl rfl lt0 ?_)
 refine VO.cons rfl (V1.assign rfl rfl rfl lt0 ?_)
 refine VO.cons rfl (V1.assign rfl rfl rfl lt0 ?_)
 refine VO.nil ?_
 refine V.keep 22 [2, 3, 4, 5] [1] (E0 := [(2, .sref b1 4 0 (List.length y0.1)), (3, .int .i64 y1.1), (4, .int .i64 y2.1), (5, .int .i64 y3.1)]) (H0 := [(b1, ⟨4, List.map (encFormat rn) y0.1⟩)]) rfl (⟨_, _, rfl, rfl, _, _, rfl, rfl, _, _, rfl, rfl, _, _, rfl, rfl, rfl⟩) (⟨_, _, rfl, rfl, rfl⟩) rfl ?_
 refine V.ret ?_
 obtain rfl := Option.some.inj hm0
 exact ⟨_, _, ⟨_, _, rfl, rfl, _, _, rfl, rfl, _, _, rfl, rfl, _, _, rfl, rfl, rfl⟩, List.Sublist.refl _, b1, rfl, rfl⟩

theorem ok_impl_within {rn : Nat} {n : Int} {low : Int} {high : Int} {r : Bool} (h : M.impl_within n low high = some r) : Does Tryd.prog 72 [.int .i64 n, .int .i64 low, .int .i64 high] [] rn (fun x H => x = .bool r ∧ H = []) := by
 have hm0 := h; clear h; unfold M.impl_within at hm0
 try dsimp only at hm0
 refine Does.intro (N := 15) Tryd.func72 rfl rfl rfl rfl ?_
 intro w0 S0 L0
 refine V.seq ?_
 refine V.region ?_
 refine VO.cons rfl (V1.assign rfl rfl rfl lt0 ?_)
 refine VO.nil ?_
 refine V.seq ?_
 refine V.region ?_
 refine VO.cons rfl (V1.move rfl rfl rfl lt0 ?_)
 refine VO.cons rfl (V1.move rfl rfl rfl lt0 ?_)
 refine VO.cons rfl (V1.int rfl rfl rfl rfl rfl lt0 ?_)
 refine VO.cons rfl (V1.move rfl rfl rfl lt0 ?_)
 apply VO.and (n := 3) rfl rfl rfl rfl rfl rfl lt0 (.none rfl)
 ·
  intro hg0
  refine VO.step (.some rfl rfl rfl) (V1.move rfl rfl rfl lt0 ?_)
  refine VO.step (.some rfl rfl rfl) (V1.move rfl rfl rfl lt0 ?_)
  refine VO.step (.some rfl rfl rfl) (V1.int rfl rfl rfl rfl rfl lt0 ?_)
  exact VO.nil ⟨rfl, rfl, rfl, rfl, .inr ⟨rfl, .inr ⟨rfl, .inr ⟨rfl, .inr ⟨rfl, .inl rfl⟩⟩⟩⟩⟩
 refine VO.cons rfl (V1.assign rfl rfl rfl lt0 ?_)
 refine VO.nil ?_
 refine V.ret ?_
 obtain rfl := Option.some.inj hm0
 exact ⟨_, [], ⟨_, _, rfl, rfl, rfl⟩, List.nil_sublist _, rfl, rfl⟩

theorem ok_strings_Trim {rn : Nat} {s cutset r : List UInt8} (h : M.strings_Trim s cutset = some r) : Does Tryd.prog 110 [.str s, .str cutset] [] rn (fun x H => x = .str r ∧ H = []) := by
 unfold M.strings_Trim at h
 obtain ⟨⟨h1, h2, h3⟩, h⟩ := asrt_some h
 obtain rfl := Option.some.inj h; clear h
 refine Does.ofBelow (vs := [.string ⟨s.toArray⟩, .string ⟨cutset.toArray⟩]) (v := .string ⟨(Go.Lib.trimS s cutset).toArray⟩) (fun w S us hr => ?_) (fun w S => rep_str) (fun w => ?_)
 · obtain ⟨us1, rfl, hr1⟩ := reps_str hr
   obtain ⟨us2, rfl, hr2⟩ := reps_str hr1
   rw [Reps.nil_iff.1 hr2]
 · exact Go.Proofs.Any.strings_Trim_laid Go.Proofs.Tryd.lays160 (by kernel_rfl) ⟨s.toArray⟩ ⟨cutset.toArray⟩ w (by simpa [ByteArray.size] using h1) (by simpa [ByteArray.size] using h2) (ascii_all h3)

theorem ok_impl_isWord {rn : Nat} {s : List UInt8} {r : Bool} (h : M.impl_isWord s = some r) : Does Tryd.prog 94 [.str s] [] rn (fun x H => x = .bool r ∧ H = []) := by
 have hm0 := h; clear h; unfold M.impl_isWord at hm0
 try dsimp only at hm0
 refine Does.intro (N := 11) Tryd.func94 rfl rfl rfl rfl ?_
 intro w0 S0 L0
 refine V.seq ?_
 refine V.region ?_
 refine VO.cons rfl (V1.assign rfl rfl rfl lt0 ?_)
 refine VO.nil ?_
 refine V.seq ?_
 replace hm0 := bindO hm0; rcases hm0 with ⟨y0, hh0, hm0⟩
 replace hm0 := bindO hm0; rcases hm0 with ⟨y1, hh1, hm0⟩
 refine V.region ?_
 refine VO.cons rfl (V1.move rfl rfl rfl lt0 ?_)
 refine VO.cons rfl (V1.lenStr rfl rfl rfl rfl rfl rfl istr_9 lt0 ?_)
 refine VO.cons rfl (V1.call rfl rfl rfl cok_72 rfl (ok_impl_within hh0) rfl lt0 ?_)
 rintro _ _ ⟨rfl, rfl⟩
 refine VO.cons rfl (V1.move rfl rfl rfl lt0 ?_)
 apply VO.and (n := 3) rfl rfl rfl rfl rfl rfl lt0 (.none rfl)
 ·
  intro hg0
  refine VO.step (.some rfl rfl rfl) (V1.move rfl rfl rfl lt0 ?_)
  refine VO.step (.some rfl rfl rfl) (V1.call rfl rfl rfl cok_110 rfl (ok_strings_Trim (cond_t hg0 hh1)) rfl lt0 ?_)
  rintro _ _ ⟨rfl, rfl⟩
  refine VO.step (.some rfl rfl rfl) (V1.str rfl rfl rfl rfl rfl lt0 ?_)
  exact VO.nil ⟨rfl, rfl, rfl, rfl, .inr ⟨rfl, .inr ⟨rfl, .inr ⟨rfl, .inr ⟨rfl, .inl rfl⟩⟩⟩⟩⟩
 refine VO.cons rfl (V1.assign rfl rfl rfl lt0 ?_)
 refine VO.nil ?_
 refine V.ret ?_
 obtain rfl := Option.some.inj hm0
 exact ⟨_, [], ⟨_, _, rfl, rfl, rfl⟩, List.nil_sublist _, rfl, rfl⟩

theorem ok_impl_isDay {rn : Nat} {day : Int} {r : Bool} (h : M.impl_isDay day = some r) : Does Tryd.prog 112 [.int .i64 day] [] rn (fun x H => x = .bool r ∧ H = []) := by
 have hm0 := h; clear h; unfold M.impl_isDay at hm0
 try dsimp only at hm0
 refine Does.intro (N := 5) Tryd.func112 rfl rfl rfl rfl ?_
 intro w0 S0 L0
 refine V.seq ?_
 refine V.region ?_
 refine VO.cons rfl (V1.assign rfl rfl rfl lt0 ?_)
 refine VO.nil ?_
 refine V.seq ?_
 replace hm0 := bindO hm0; rcases hm0 with ⟨y0, hh0, hm0⟩
 refine V.region ?_
 refine VO.cons rfl (V1.move rfl rfl rfl lt0 ?_)
 refine VO.cons rfl (V1.call rfl rfl rfl cok_72 rfl (ok_impl_within hh0) rfl lt0 ?_)
 rintro _ _ ⟨rfl, rfl⟩
 refine VO.cons rfl (V1.assign rfl rfl rfl lt0 ?_)
 refine VO.nil ?_
 refine V.ret ?_
 obtain rfl := Option.some.inj hm0
 exact ⟨_, [], ⟨_, _, rfl, rfl, rfl⟩, List.nil_sublist _, rfl, rfl⟩

theorem ok_impl_formatAt_1 {ρ0 τ1 rn : Nat} {f : Format} {id_c : Int} {r : Bool} (h : M.impl_formatAt_1 f id_c = some r) : Does Tryd.prog 114 [encFormat ρ0 f, .pin τ1 (.int .i64 id_c) 0] [] rn (fun x H => x = .bool r ∧ H = []) := by
 have hm0 := h; clear h; unfold M.impl_formatAt_1 at hm0
 try dsimp only at hm0
 refine Does.intro (N := 8) Tryd.func114 rfl rfl rfl rfl ?_
 intro w0 S0 L0
 refine V.seq ?_
 refine V.region ?_
 refine VO.cons rfl (V1.boxN (n := 4) rfl rfl rfl rfl rfl lt0 ?_)
 intro b0
 refine VO.cons rfl (V1.assign rfl rfl rfl lt0 ?_)
 refine VO.nil ?_
 refine V.seq ?_
 refine V.region ?_
 refine VO.cons rfl (V1.fieldRef rfl rfl fo_34_0 rfl lt0 ?_)
 refine VO.cons rfl (V1.loadRef (k := 0) rfl rfl tyk_3 rfl rfl rfl rfl rfl lt0 ?_)
 refine VO.cons rfl (V1.loadPin rfl rfl tyk_3 rfl rfl lt0 ?_)
 refine VO.cons rfl (V1.int rfl rfl rfl rfl rfl lt0 ?_)
 refine VO.cons rfl (V1.assign rfl rfl rfl lt0 ?_)
 refine VO.nil ?_
 refine V.ret ?_
 obtain rfl := Option.some.inj hm0
 exact ⟨_, [], ⟨_, _, rfl, rfl, rfl⟩, List.nil_sublist _, rfl, rfl⟩

theorem ok_slices_IndexFunc_impl_Format_impl_Format {ρ0 σ0 rn : Nat} {s : List Format} {f1 : Nat} {cs1 : List PV} {r : Int} {fm : Format → Option Bool} (h : M.slices_IndexFunc_impl_Format_impl_Format s fm = some r) (hok1 : callOK Tryd.prog f1 = true) (hf1 : ∀ x0 r, fm x0 = some r → Does Tryd.prog f1 (encFormat σ0 x0 :: cs1) [] rn (fun x H => x = .bool r ∧ H = [])) : Does Tryd.prog 113 [.vl ρ0 4 (List.map (encFormat σ0) s), .fn f1 cs1] [] rn (fun x H => x = .int .i64 r ∧ H = []) := by
 have hm0 := h; clear h; unfold M.slices_IndexFunc_impl_Format_impl_Format at hm0
 try dsimp only at hm0
 refine Does.intro (N := 19) Tryd.func113 rfl rfl rfl rfl ?_
 intro w0 S0 L0
 refine V.seq ?_
 refine V.region ?_
 refine VO.cons rfl (V1.assign rfl rfl rfl lt0 ?_)
 refine VO.nil ?_
 refine V.seq ?_
 refine V.seq ?_
 refine V.region ?_
 refine VO.cons rfl (V1.move rfl rfl rfl lt0 ?_)
 refine VO.cons rfl (V1.lenMap rfl rfl rfl rfl rfl rfl isl_24 lt0 ?_)
 refine VO.cons rfl (V1.move rfl rfl rfl lt0 ?_)
 refine VO.nil ?_
 replace hm0 := bindO hm0; rcases hm0 with ⟨e0, he1, hm0⟩
 refine V.cutT (D := (Unit) × (Unit)) (fun ⟨_, _⟩ => ⟨19, [], []⟩) (fun ⟨_, _⟩ => (.inl () = e0)) ?_ ?_
 ·
  refine V.block ?_
  refine V.keep 19 [8, 0, 1, 7] [] (E0 := [(8, .int .i64 (0 : Int)), (0, .vl ρ0 4 (List.map (encFormat σ0) s)), (1, .fn f1 cs1), (7, .int .i64 (s.length : Int))]) (H0 := []) rfl (⟨_, _, rfl, rfl, _, _, rfl, rfl, _, _, rfl, rfl, _, _, rfl, rfl, rfl⟩) (rfl) rfl ?_
  refine V.loopE (D := Nat × (Int) × (Unit)) (fun ⟨n0, v, _⟩ => [(8, .int .i64 v)]) (fun ⟨n0, v, _⟩ => []) (fun ⟨n0, v, _⟩ => loopO (M.slices_IndexFunc_impl_Format_impl_Format_l0 s fm) n0 v = some e0) (fun ⟨n0, _, _⟩ => n0) (rounds, (0 : Int), ()) rfl he1 ?_
  rintro ⟨n0, v, _⟩ hP0
  obtain ⟨m0, y0, rfl, hm1, hl1, hr1⟩ := loop_head hP0
  unfold M.slices_IndexFunc_impl_Format_impl_Format_l0 at hm1; dsimp only at hm1
  show V _ _ _ ⟨19, [(8, .int .i64 v), (0, .vl ρ0 4 (List.map (encFormat σ0) s)), (1, .fn f1 cs1), (7, .int .i64 (s.length : Int))], []⟩
  refine V.seq ?_
  refine V.region ?_
  refine VO.cons rfl (V1.int rfl rfl rfl rfl rfl lt0 ?_)
  refine VO.nil ?_
  refine V.seq ?_
  refine V.cond rfl (fun hc0 => ?_) (fun hc0 => ?_)
  ·
   replace hm1 := cond_t hc0 hm1
   refine V.skip ?_
   refine V.seq ?_
   refine V.block ?_
   refine V.seq ?_
   refine V.region ?_
   refine VO.cons rfl (V1.move rfl rfl rfl lt0 ?_)
   refine VO.cons rfl (V1.assign rfl rfl rfl lt0 ?_)
   refine VO.nil ?_
   refine V.seq ?_
   replace hm1 := asrt_some hm1; rcases hm1 with ⟨hh0, hm1⟩
   replace hm1 := bindO hm1; rcases hm1 with ⟨y1, hh1, hm1⟩
   refine V.region ?_
   refine VO.cons rfl (V1.move rfl rfl rfl lt0 ?_)
   refine VO.cons rfl (V1.move rfl rfl rfl lt0 ?_)
   refine VO.cons rfl (V1.move rfl rfl rfl lt0 ?_)
   refine VO.cons rfl (V1.indexI rfl rfl esz_24 rfl rfl hh0 lt0 ?_)
   refine VO.cons rfl (V1.loadPinAll rfl rfl tyk_34 rfl rfl lt0 ?_)
   refine VO.cons rfl (V1.callG (τ := 0) (Bw := []) rfl lt0 (run_callFn rfl rfl rfl hok1 rfl) (.refl _) (Lends.same _) (fun _ h => by cases h) ((hf1 _  _) hh1) (.inl rfl) (.inl rfl) ?_)
   rintro _ _ ⟨rfl, rfl⟩
   refine VO.nil ?_
   refine V.keep 19 [0, 1, 5, 7, 8, 16] [] (E0 := [(0, .vl ρ0 4 (List.map (encFormat σ0) s)), (1, .fn f1 cs1), (5, .int .i64 v), (7, .int .i64 (s.length : Int)), (8, .int .i64 v), (16, .bool y1)]) (H0 := []) rfl (⟨_, _, rfl, rfl, _, _, rfl, rfl, _, _, rfl, rfl, _, _, rfl, rfl, _, _, rfl, rfl, _, _, rfl, rfl, rfl⟩) (rfl) rfl ?_
   refine V.cond rfl (fun hc1 => ?_) (fun hc1 => ?_)
   ·
    replace hm1 := cond_t hc1 hm1
    refine V.seq ?_
    refine V.region ?_
    refine VO.cons rfl (V1.move rfl rfl rfl lt0 ?_)
    refine VO.cons rfl (V1.assign rfl rfl rfl lt0 ?_)
    refine VO.nil ?_
    refine V.ret ?_
    obtain rfl := hr1 _ (Option.some.inj hm1).symm
    change some _ = some _ at hm0
    obtain rfl := Option.some.inj hm0
    exact ⟨_, [], ⟨_, _, rfl, rfl, rfl⟩, List.nil_sublist _, rfl, rfl⟩
   ·
    replace hm1 := cond_f hc1 hm1
    refine V.skip ?_
    refine V.region ?_
    refine VO.cons rfl (V1.int rfl rfl rfl rfl rfl lt0 ?_)
    refine VO.cons rfl (V1.move rfl rfl rfl lt0 ?_)
    refine VO.nil ?_
    exact ⟨(m0, (IntKind.i64.wrap (v + (1 : Int))), ()), hl1 _ (Option.some.inj hm1).symm, Nat.lt_succ_self _, Keeps.mk (ks := []) rfl ⟨rfl, rfl, rfl, rfl, trivial⟩ (rfl) rfl⟩
  ·
   replace hm1 := cond_f hc0 hm1
   refine V.exit ?_
   obtain rfl := hr1 _ (Option.some.inj hm1).symm
   exact ⟨((), ()), rfl, Keeps.mk (ks := []) rfl trivial (rfl) rfl⟩
 ·
  rintro ⟨_, _⟩ rfl
  try dsimp only at hm0
  refine V.seq ?_
  refine V.region ?_
  refine VO.cons rfl (V1.assign rfl rfl rfl lt0 ?_)
  refine VO.nil ?_
  refine V.ret ?_
  obtain rfl := Option.some.inj hm0
  exact ⟨_, [], ⟨_, _, rfl, rfl, rfl⟩, List.nil_sublist _, rfl, rfl⟩

theorem ok_impl_formatAt {ρ0 σ0 rn : Nat} {list : List Format} {id_ : Int} {r : Int} (h : M.impl_formatAt list id_ = some r) : Does Tryd.prog 54 [.vl ρ0 4 (List.map (encFormat σ0) list), .int .i64 id_] [] rn (fun x H => x = .int .i64 r ∧ H = []) := by
 have hm0 := h; clear h; unfold M.impl_formatAt at hm0
 try dsimp only at hm0
 refine Does.intro (N := 8) Tryd.func54 rfl rfl rfl rfl ?_
 intro w0 S0 L0
 refine V.seq ?_
 refine V.region ?_
 refine VO.cons rfl (V1.boxN (n := 1) rfl rfl rfl rfl rfl lt0 ?_)
 intro b0
 refine VO.cons rfl (V1.assign rfl rfl rfl lt0 ?_)
 refine VO.nil ?_
 refine V.seq ?_
 replace hm0 := bindO hm0; rcases hm0 with ⟨y0, hh0, hm0⟩
 refine V.region ?_
 refine VO.cons rfl (V1.move rfl rfl rfl lt0 ?_)
 refine VO.cons rfl (V1.makeFunc rfl rfl rfl lt0 ?_)
 refine VO.cons rfl (V1.callL (rn + 1) [b0] [.vl ρ0 4 (List.map (encFormat σ0) list), .fn 114 [.pin (rn + 1) (.int .i64 id_) 0]] rfl rfl rfl cok_113 rfl ⟨_, _, rfl, .same _, ⟨_, _, rfl, Lend.fn ⟨_, _, rfl, Lend.ref 0 rfl rfl rfl rfl (.head _), rfl⟩, rfl⟩⟩ (bwCons (k := 0) rfl bwNil) (ok_slices_IndexFunc_impl_Format_impl_Format hh0 (fm := (fun x0 => M.impl_formatAt_1 x0 id_)) cok_114 (fun _ _ h => ok_impl_formatAt_1 h)) rfl (⟨(by first | omega | (dsimp only; omega)), by rintro _ _ ⟨rfl, rfl⟩; exact ⟨rfl, by simp⟩⟩) lt0 ?_)
 rintro _ _ ⟨rfl, rfl⟩
 refine VO.cons rfl (V1.assign rfl rfl rfl lt0 ?_)
 refine VO.nil ?_
 refine V.ret ?_
 obtain rfl := Option.some.inj hm0
 exact ⟨_, [], ⟨_, _, rfl, rfl, rfl⟩, List.nil_sublist _, rfl, rfl⟩

theorem ok_impl_areReads {ρ0 σ0 ρ1 rn : Nat} {list : List Format} {f : Format} {r : Bool} (h : M.impl_areReads list f = some r) : Does Tryd.prog 145 [.vl ρ0 4 (List.map (encFormat σ0) list), encFormat ρ1 f] [] rn (fun x H => x = .bool r ∧ H = []) := by
 have hm0 := h; clear h; unfold M.impl_areReads at hm0
 try dsimp only at hm0
 refine Does.intro (N := 44) Tryd.func145 rfl rfl rfl rfl ?_
 intro w0 S0 L0
 refine V.seq ?_
 refine V.region ?_
 refine VO.cons rfl (V1.boxN (n := 4) rfl rfl rfl rfl rfl lt0 ?_)
 intro b0
 refine VO.cons rfl (V1.assign rfl rfl rfl lt0 ?_)
 refine VO.nil ?_
 refine V.seq ?_
 refine V.seq ?_
 refine V.region ?_
 refine VO.cons rfl (V1.fieldRef rfl rfl fo_34_3 rfl lt0 ?_)
 refine VO.cons rfl (V1.loadRef (k := 0) rfl rfl tyk_27 rfl rfl rfl rfl rfl lt0 ?_)
 refine VO.cons rfl (V1.lenMap rfl rfl rfl rfl rfl rfl isl_27 lt0 ?_)
 refine VO.cons rfl (V1.move rfl rfl rfl lt0 ?_)
 refine VO.nil ?_
 replace hm0 := bindO hm0; rcases hm0 with ⟨e0, he1, hm0⟩
 refine V.cutT (D := (Unit) × (Unit)) (fun ⟨_, _⟩ => ⟨44, [(3, .ref b0 4 0 0)], [(b0, ⟨4, [encFormat ρ1 f]⟩)]⟩) (fun ⟨_, _⟩ => (.inl () = e0)) ?_ ?_
 ·
  refine V.block ?_
  refine V.keep 44 [10, 0, 3, 8, 9] [0] (E0 := [(10, .int .i64 (0 : Int)), (0, .vl ρ0 4 (List.map (encFormat σ0) list)), (3, .ref b0 4 0 0), (8, .vl ρ1 1 (List.map encInt f.Reads)), (9, .int .i64 (f.Reads.length : Int))]) (H0 := [(b0, ⟨4, [encFormat ρ1 f]⟩)]) rfl (⟨_, _, rfl, rfl, _, _, rfl, rfl, _, _, rfl, rfl, _, _, rfl, rfl, _, _, rfl, rfl, rfl⟩) (⟨_, _, rfl, rfl, rfl⟩) rfl ?_
  refine V.loopE (D := Nat × (Int) × (Unit)) (fun ⟨n0, v, _⟩ => [(10, .int .i64 v)]) (fun ⟨n0, v, _⟩ => []) (fun ⟨n0, v, _⟩ => loopO (M.impl_areReads_l0 list f) n0 v = some e0) (fun ⟨n0, _, _⟩ => n0) (rounds, (0 : Int), ()) rfl he1 ?_
  rintro ⟨n0, v, _⟩ hP0
  obtain ⟨m0, y0, rfl, hm1, hl1, hr1⟩ := loop_head hP0
  unfold M.impl_areReads_l0 at hm1; dsimp only at hm1
  show V _ _ _ ⟨44, [(10, .int .i64 v), (0, .vl ρ0 4 (List.map (encFormat σ0) list)), (3, .ref b0 4 0 0), (8, .vl ρ1 1 (List.map encInt f.Reads)), (9, .int .i64 (f.Reads.length : Int))], [(b0, ⟨4, [encFormat ρ1 f]⟩)]⟩
  refine V.seq ?_
  refine V.region ?_
  refine VO.cons rfl (V1.int rfl rfl rfl rfl rfl lt0 ?_)
  refine VO.nil ?_
  refine V.seq ?_
  refine V.cond rfl (fun hc0 => ?_) (fun hc0 => ?_)
  ·
   replace hm1 := cond_t hc0 hm1
   refine V.skip ?_
   refine V.seq ?_
   refine V.block ?_
   refine V.seq ?_
   replace hm1 := asrt_some hm1; rcases hm1 with ⟨hh0, hm1⟩
   refine V.region ?_
   refine VO.cons rfl (V1.move rfl rfl rfl lt0 ?_)
   refine VO.cons rfl (V1.indexI rfl rfl esz_27 rfl rfl hh0 lt0 ?_)
   refine VO.cons rfl (V1.loadPin rfl rfl tyk_3 rfl rfl lt0 ?_)
   refine VO.cons rfl (V1.assign rfl rfl rfl lt0 ?_)
   refine VO.cons rfl (V1.assign rfl rfl rfl lt0 ?_)
   refine VO.nil ?_
   refine V.keep 44 [0, 3, 5, 6, 8, 9, 10] [0] (E0 := [(0, .vl ρ0 4 (List.map (encFormat σ0) list)), (3, .ref b0 4 0 0), (5, .int .i64 v), (6, .int .i64 (f.Reads.getD (Int.toNat v) default)), (8, .vl ρ1 1 (List.map encInt f.Reads)), (9, .int .i64 (f.Reads.length : Int)), (10, .int .i64 v)]) (H0 := [(b0, ⟨4, [encFormat ρ1 f]⟩)]) rfl (⟨_, _, rfl, rfl, _, _, rfl, rfl, _, _, rfl, rfl, _, _, rfl, rfl, _, _, rfl, rfl, _, _, rfl, rfl, _, _, rfl, rfl, rfl⟩) (⟨_, _, rfl, rfl, rfl⟩) rfl ?_
   refine V.seq ?_
   replace hm1 := bindO hm1; rcases hm1 with ⟨y1, hh1, hm1⟩
   replace hm1 := asrt_some hm1; rcases hm1 with ⟨hh2, hm1⟩
   refine V.region ?_
   refine VO.cons rfl (V1.move rfl rfl rfl lt0 ?_)
   refine VO.cons rfl (V1.fieldRef rfl rfl fo_34_0 rfl lt0 ?_)
   refine VO.cons rfl (V1.loadRef (k := 0) rfl rfl tyk_3 rfl rfl rfl rfl rfl lt0 ?_)
   refine VO.cons rfl (V1.int rfl rfl rfl rfl rfl lt0 ?_)
   refine VO.cons rfl (V1.move rfl rfl rfl lt0 ?_)
   apply VO.or (n := 4) rfl rfl rfl rfl rfl rfl lt0 (.none rfl)
   ·
    intro hg0
    refine VO.step (.some rfl rfl rfl) (V1.move rfl rfl rfl lt0 ?_)
    refine VO.step (.some rfl rfl rfl) (V1.move rfl rfl rfl lt0 ?_)
    refine VO.step (.some rfl rfl rfl) (V1.call rfl rfl rfl cok_54 rfl (ok_impl_formatAt (cond_f hg0 hh1)) rfl lt0 ?_)
    rintro _ _ ⟨rfl, rfl⟩
    refine VO.step (.some rfl rfl rfl) (V1.int rfl rfl rfl rfl rfl lt0 ?_)
    exact VO.nil ⟨rfl, rfl, rfl, rfl, .inr ⟨rfl, .inr ⟨rfl, .inr ⟨rfl, .inr ⟨rfl, .inr ⟨rfl, .inl rfl⟩⟩⟩⟩⟩⟩
   refine VO.cons rfl (V1.move rfl rfl rfl lt0 ?_)
   apply VO.or (n := 12) rfl rfl rfl rfl rfl rfl lt0 (.none rfl)
   ·
    intro hg1
    refine VO.step (.some rfl rfl rfl) (V1.move rfl rfl rfl lt0 ?_)
    refine VO.step (.some rfl rfl rfl) (V1.int rfl rfl rfl rfl rfl lt0 ?_)
    refine VO.step (.some rfl rfl rfl) (V1.move rfl rfl rfl lt0 ?_)
    apply VO.and (n := 8) rfl rfl rfl rfl rfl rfl lt0 (.some rfl rfl rfl)
    ·
     intro hg2
     refine VO.step (.some rfl rfl rfl) (V1.fieldRef rfl rfl fo_34_3 rfl lt0 ?_)
     refine VO.step (.some rfl rfl rfl) (V1.loadRef (k := 0) rfl rfl tyk_27 rfl rfl rfl rfl rfl lt0 ?_)
     refine VO.step (.some rfl rfl rfl) (V1.move rfl rfl rfl lt0 ?_)
     refine VO.step (.some rfl rfl rfl) (V1.int rfl rfl rfl rfl rfl lt0 ?_)
     refine VO.step (.some rfl rfl rfl) (V1.indexI rfl rfl esz_27 rfl rfl (hh2 hg1 hg2) lt0 ?_)
     refine VO.step (.some rfl rfl rfl) (V1.loadPin rfl rfl tyk_3 rfl rfl lt0 ?_)
     refine VO.step (.some rfl rfl rfl) (V1.move rfl rfl rfl lt0 ?_)
     refine VO.step (.some rfl rfl rfl) (V1.int rfl rfl rfl rfl rfl lt0 ?_)
     exact VO.nil ⟨rfl, rfl, rfl, rfl, .inr ⟨rfl, .inr ⟨rfl, .inr ⟨rfl, .inr ⟨rfl, .inr ⟨rfl, .inr ⟨rfl, .inr ⟨rfl, .inr ⟨rfl, .inr ⟨rfl, .inl rfl⟩⟩⟩⟩⟩⟩⟩⟩⟩⟩
    exact VO.nil ⟨rfl, rfl, rfl, rfl, .inr ⟨rfl, .inr ⟨rfl, .inr ⟨rfl, .inr ⟨rfl, .inr ⟨rfl, .inl rfl⟩⟩⟩⟩⟩⟩
   refine VO.nil ?_
   refine V.keep 44 [0, 3, 8, 9, 10, 38] [0] (E0 := [(0, .vl ρ0 4 (List.map (encFormat σ0) list)), (3, .ref b0 4 0 0), (8, .vl ρ1 1 (List.map encInt f.Reads)), (9, .int .i64 (f.Reads.length : Int)), (10, .int .i64 v), (38, .bool ((((f.Reads.getD (Int.toNat v) default) == f.Id) || (decide (y1 < (0 : Int)))) || ((decide (v > (0 : Int))) && (decide ((f.Reads.getD (Int.toNat (IntKind.i64.wrap (v - (1 : Int)))) default) ≥ (f.Reads.getD (Int.toNat v) default))))))]) (H0 := [(b0, ⟨4, [encFormat ρ1 f]⟩)]) rfl (⟨_, _, rfl, rfl, _, _, rfl, rfl, _, _, rfl, rfl, _, _, rfl, rfl, _, _, rfl, rfl, _, _, rfl, rfl, rfl⟩) (⟨_, _, rfl, rfl, rfl⟩) rfl ?_
   refine V.cond rfl (fun hc1 => ?_) (fun hc1 => ?_)
   ·
    replace hm1 := cond_t hc1 hm1
    refine V.seq ?_
    refine V.region ?_
    refine VO.cons rfl (V1.assign rfl rfl rfl lt0 ?_)
    refine VO.nil ?_
    refine V.ret ?_
    obtain rfl := hr1 _ (Option.some.inj hm1).symm
    change some _ = some _ at hm0
    obtain rfl := Option.some.inj hm0
    exact ⟨_, [], ⟨_, _, rfl, rfl, rfl⟩, List.nil_sublist _, rfl, rfl⟩
   ·
    replace hm1 := cond_f hc1 hm1
    refine V.skip ?_
    refine V.region ?_
    refine VO.cons rfl (V1.int rfl rfl rfl rfl rfl lt0 ?_)
    refine VO.cons rfl (V1.move rfl rfl rfl lt0 ?_)
    refine VO.nil ?_
    exact ⟨(m0, (IntKind.i64.wrap (v + (1 : Int))), ()), hl1 _ (Option.some.inj hm1).symm, Nat.lt_succ_self _, Keeps.mk (ks := [0]) rfl ⟨rfl, rfl, rfl, rfl, rfl, trivial⟩ (⟨_, _, rfl, rfl, rfl⟩) rfl⟩
  ·
   replace hm1 := cond_f hc0 hm1
   refine V.exit ?_
   obtain rfl := hr1 _ (Option.some.inj hm1).symm
   exact ⟨((), ()), rfl, Keeps.mk (ks := [0]) rfl ⟨rfl, trivial⟩ (⟨_, _, rfl, rfl, rfl⟩) rfl⟩
 ·
  rintro ⟨_, _⟩ rfl
  try dsimp only at hm0
  refine V.seq ?_
  refine V.region ?_
  refine VO.cons rfl (V1.fieldRef rfl rfl fo_34_3 rfl lt0 ?_)
  refine VO.cons rfl (V1.loadRef (k := 0) rfl rfl tyk_27 rfl rfl rfl rfl rfl lt0 ?_)
  refine VO.cons rfl (V1.lenMap rfl rfl rfl rfl rfl rfl isl_27 lt0 ?_)
  refine VO.cons rfl (V1.int rfl rfl rfl rfl rfl lt0 ?_)
  refine VO.cons rfl (V1.assign rfl rfl rfl lt0 ?_)
  refine VO.nil ?_
  refine V.ret ?_
  obtain rfl := Option.some.inj hm0
  exact ⟨_, [], ⟨_, _, rfl, rfl, rfl⟩, List.nil_sublist _, rfl, rfl⟩

theorem ok_impl_AreFormats_1 {ρ0 ρ1 τ1 rn : Nat} {g : Format} {f_c : Format} {r : Bool} (h : M.impl_AreFormats_1 g f_c = some r) : Does Tryd.prog 147 [encFormat ρ0 g, .pin τ1 (encFormat ρ1 f_c) 0] [] rn (fun x H => x = .bool r ∧ H = []) := by
 have hm0 := h; clear h; unfold M.impl_AreFormats_1 at hm0
 try dsimp only at hm0
 refine Does.intro (N := 9) Tryd.func147 rfl rfl rfl rfl ?_
 intro w0 S0 L0
 refine V.seq ?_
 refine V.region ?_
 refine VO.cons rfl (V1.boxN (n := 4) rfl rfl rfl rfl rfl lt0 ?_)
 intro b0
 refine VO.cons rfl (V1.assign rfl rfl rfl lt0 ?_)
 refine VO.nil ?_
 refine V.seq ?_
 refine V.region ?_
 refine VO.cons rfl (V1.fieldRef rfl rfl fo_34_1 rfl lt0 ?_)
 refine VO.cons rfl (V1.loadRef (k := 0) rfl rfl tyk_9 rfl rfl rfl rfl rfl lt0 ?_)
 refine VO.cons rfl (V1.fieldPin rfl rfl fo_34_1 rfl lt0 ?_)
 refine VO.cons rfl (V1.loadPin rfl rfl tyk_9 rfl rfl lt0 ?_)
 refine VO.cons rfl (V1.str rfl rfl rfl rfl rfl lt0 ?_)
 refine VO.cons rfl (V1.assign rfl rfl rfl lt0 ?_)
 refine VO.nil ?_
 refine V.ret ?_
 obtain rfl := Option.some.inj hm0
 exact ⟨_, [], ⟨_, _, rfl, rfl, rfl⟩, List.nil_sublist _, rfl, rfl⟩

theorem ok_slices_ContainsFunc_impl_Format_impl_Format {ρ0 σ0 rn : Nat} {s : List Format} {f1 : Nat} {cs1 : List PV} {r : Bool} {fm : Format → Option Bool} (h : M.slices_ContainsFunc_impl_Format_impl_Format s fm = some r) (hok1 : callOK Tryd.prog f1 = true) (hf1 : ∀ x0 r, fm x0 = some r → Does Tryd.prog f1 (encFormat σ0 x0 :: cs1) [] rn (fun x H => x = .bool r ∧ H = [])) : Does Tryd.prog 146 [.vl ρ0 4 (List.map (encFormat σ0) s), .fn f1 cs1] [] rn (fun x H => x = .bool r ∧ H = []) := by
 have hm0 := h; clear h; unfold M.slices_ContainsFunc_impl_Format_impl_Format at hm0
 try dsimp only at hm0
 refine Does.intro (N := 9) Tryd.func146 rfl rfl rfl rfl ?_
 intro w0 S0 L0
 refine V.seq ?_
 refine V.region ?_
 refine VO.cons rfl (V1.assign rfl rfl rfl lt0 ?_)
 refine VO.nil ?_
 refine V.seq ?_
 replace hm0 := bindO hm0; rcases hm0 with ⟨y0, hh0, hm0⟩
 refine V.region ?_
 refine VO.cons rfl (V1.move rfl rfl rfl lt0 ?_)
 refine VO.cons rfl (V1.move rfl rfl rfl lt0 ?_)
 refine VO.cons rfl (V1.call rfl rfl rfl cok_113 rfl (ok_slices_IndexFunc_impl_Format_impl_Format hh0 (fm := fm) hok1 hf1) rfl lt0 ?_)
 rintro _ _ ⟨rfl, rfl⟩
 refine VO.cons rfl (V1.int rfl rfl rfl rfl rfl lt0 ?_)
 refine VO.cons rfl (V1.assign rfl rfl rfl lt0 ?_)
 refine VO.nil ?_
 refine V.ret ?_
 obtain rfl := Option.some.inj hm0
 exact ⟨_, [], ⟨_, _, rfl, rfl, rfl⟩, List.nil_sublist _, rfl, rfl⟩

theorem ok_impl_AreFormats {ρ0 rn : Nat} {list : List Format} {r : Bool} (h : M.impl_AreFormats list = some r) : Does Tryd.prog 111 [.vl ρ0 4 (List.map (encFormat ρ0) list)] [] rn (fun x H => x = .bool r ∧ H = []) := by
 have hm0 := h; clear h; unfold M.impl_AreFormats at hm0
 try dsimp only at hm0
 refine Does.intro (N := 58) Tryd.func111 rfl rfl rfl rfl ?_
 intro w0 S0 L0
 refine V.seq ?_
 refine V.region ?_
 refine VO.cons rfl (V1.assign rfl rfl rfl lt0 ?_)
 refine VO.nil ?_
 refine V.seq ?_
 refine V.seq ?_
 refine V.region ?_
 refine VO.cons rfl (V1.move rfl rfl rfl lt0 ?_)
 refine VO.cons rfl (V1.lenMap rfl rfl rfl rfl rfl rfl isl_24 lt0 ?_)
 refine VO.cons rfl (V1.int rfl rfl rfl rfl rfl lt0 ?_)
 refine VO.nil ?_
 refine V.cond rfl (fun hc0 => ?_) (fun hc0 => ?_)
 ·
  replace hm0 := cond_t hc0 hm0
  refine V.seq ?_
  refine V.region ?_
  refine VO.cons rfl (V1.assign rfl rfl rfl lt0 ?_)
  refine VO.nil ?_
  refine V.ret ?_
  obtain rfl := Option.some.inj hm0
  exact ⟨_, [], ⟨_, _, rfl, rfl, rfl⟩, List.nil_sublist _, rfl, rfl⟩
 ·
  replace hm0 := cond_f hc0 hm0
  refine V.skip ?_
  refine V.keep 58 [0] [] (E0 := [(0, .vl ρ0 4 (List.map (encFormat ρ0) list))]) (H0 := []) rfl (⟨_, _, rfl, rfl, rfl⟩) (rfl) rfl ?_
  refine V.seq ?_
  refine V.seq ?_
  refine V.region ?_
  refine VO.cons rfl (V1.move rfl rfl rfl lt0 ?_)
  refine VO.cons rfl (V1.lenMap rfl rfl rfl rfl rfl rfl isl_24 lt0 ?_)
  refine VO.cons rfl (V1.move rfl rfl rfl lt0 ?_)
  refine VO.nil ?_
  replace hm0 := bindO hm0; rcases hm0 with ⟨e0, he1, hm0⟩
  refine V.cutT (D := (Unit) × (Unit)) (fun ⟨_, _⟩ => ⟨58, [], []⟩) (fun ⟨_, _⟩ => (.inl () = e0)) ?_ ?_
  ·
   refine V.block ?_
   refine V.keep 58 [10, 0, 8, 9] [] (E0 := [(10, .int .i64 (0 : Int)), (0, .vl ρ0 4 (List.map (encFormat ρ0) list)), (8, .vl ρ0 4 (List.map (encFormat ρ0) list)), (9, .int .i64 (list.length : Int))]) (H0 := []) rfl (⟨_, _, rfl, rfl, _, _, rfl, rfl, _, _, rfl, rfl, _, _, rfl, rfl, rfl⟩) (rfl) rfl ?_
   refine V.loopE (D := Nat × (Int) × (Unit)) (fun ⟨n0, v, _⟩ => [(10, .int .i64 v)]) (fun ⟨n0, v, _⟩ => []) (fun ⟨n0, v, _⟩ => loopO (M.impl_AreFormats_l0 list) n0 v = some e0) (fun ⟨n0, _, _⟩ => n0) (rounds, (0 : Int), ()) rfl he1 ?_
   rintro ⟨n0, v, _⟩ hP0
   obtain ⟨m0, y0, rfl, hm1, hl1, hr1⟩ := loop_head hP0
   unfold M.impl_AreFormats_l0 at hm1; dsimp only at hm1
   show V _ _ _ ⟨58, [(10, .int .i64 v), (0, .vl ρ0 4 (List.map (encFormat ρ0) list)), (8, .vl ρ0 4 (List.map (encFormat ρ0) list)), (9, .int .i64 (list.length : Int))], []⟩
   refine V.seq ?_
   refine V.region ?_
   refine VO.cons rfl (V1.int rfl rfl rfl rfl rfl lt0 ?_)
   refine VO.nil ?_
   refine V.seq ?_
   refine V.cond rfl (fun hc1 => ?_) (fun hc1 => ?_)
   ·
    replace hm1 := cond_t hc1 hm1
    refine V.skip ?_
    refine V.seq ?_
    refine V.block ?_
    refine V.seq ?_
    replace hm1 := asrt_some hm1; rcases hm1 with ⟨hh0, hm1⟩
    refine V.region ?_
    refine VO.cons rfl (V1.move rfl rfl rfl lt0 ?_)
    refine VO.cons rfl (V1.indexI rfl rfl esz_24 rfl rfl hh0 lt0 ?_)
    refine VO.cons rfl (V1.loadPinAll rfl rfl tyk_34 rfl rfl lt0 ?_)
    refine VO.cons rfl (V1.alloc rfl rfl zk_34 lt0 ?_)
    intro b0
    refine VO.cons rfl (V1.assign rfl rfl rfl lt0 ?_)
    refine VO.cons rfl (V1.storeRefAll (k := 0) rfl rfl tyk_34 rfl rfl rfl rfl rfl rfl ?_)
    refine VO.nil ?_
    refine V.keep 58 [0, 3, 4, 8, 9, 10] [0] (E0 := [(0, .vl ρ0 4 (List.map (encFormat ρ0) list)), (3, .int .i64 v), (4, .ref b0 4 0 0), (8, .vl ρ0 4 (List.map (encFormat ρ0) list)), (9, .int .i64 (list.length : Int)), (10, .int .i64 v)]) (H0 := [(b0, ⟨4, [encFormat ρ0 (list.getD (Int.toNat v) default)]⟩)]) rfl (⟨_, _, rfl, rfl, _, _, rfl, rfl, _, _, rfl, rfl, _, _, rfl, rfl, _, _, rfl, rfl, _, _, rfl, rfl, rfl⟩) (⟨_, _, rfl, rfl, rfl⟩) rfl ?_
    refine V.seq ?_
    refine V.seq ?_
    replace hm1 := bindO hm1; rcases hm1 with ⟨y1, hh1, hm1⟩
    replace hm1 := bindO hm1; rcases hm1 with ⟨y2, hh2, hm1⟩
    replace hm1 := bindO hm1; rcases hm1 with ⟨y3, hh3, hm1⟩
    replace hm1 := asrt_some hm1; rcases hm1 with ⟨hh4, hm1⟩
    replace hm1 := bindO hm1; rcases hm1 with ⟨y4, hh5, hm1⟩
    refine V.regionM 58 37 [⟨[(4, none)], [], none⟩, ⟨[(15, some 0)], [], none⟩, ⟨[(16, some 0)], [], none⟩, ⟨[(17, some 0)], [], none⟩, ⟨[(18, some 0)], [], none⟩, ⟨[(4, none)], [(0, false)], none⟩, ⟨[(20, some 0)], [(1, false)], none⟩, ⟨[(21, some 0)], [(2, false)], none⟩, ⟨[(22, some 0)], [(3, false)], none⟩, ⟨[], [], some (false, 19, 23, 4, 0)⟩, ⟨[(24, some 0)], [], none⟩, ⟨[(4, none)], [(0, false)], none⟩, ⟨[(26, some 0)], [(1, false)], none⟩, ⟨[(27, some 0)], [(2, false)], none⟩, ⟨[(28, some 0)], [(3, false)], none⟩, ⟨[], [], some (false, 25, 29, 4, 0)⟩, ⟨[(30, some 0)], [], none⟩, ⟨[(3, none)], [(0, false)], none⟩, ⟨[(32, some 0)], [(1, false)], none⟩, ⟨[(33, some 0)], [(2, false)], none⟩, ⟨[(0, none)], [(0, true), (3, false)], none⟩, ⟨[(3, none)], [(1, true), (4, false)], none⟩, ⟨[(36, some 0)], [(2, true), (5, false)], none⟩, ⟨[(35, some 2), (37, some 0)], [(3, true), (6, false)], none⟩, ⟨[(38, some 0)], [(4, true), (7, false)], none⟩, ⟨[(39, some 0)], [(5, true), (8, false)], none⟩, ⟨[(4, none)], [(6, true), (9, false)], none⟩, ⟨[(41, some 0)], [(7, true), (10, false)], none⟩, ⟨[(40, some 2), (42, some 0)], [(8, true), (11, false)], none⟩, ⟨[], [(12, false)], some (true, 34, 43, 9, 0)⟩, ⟨[], [], some (false, 31, 44, 13, 0)⟩, ⟨[(45, some 0)], [], none⟩, ⟨[(0, none)], [(0, false)], none⟩, ⟨[(4, none)], [(1, false)], none⟩, ⟨[(47, some 1), (48, some 0)], [(2, false)], none⟩, ⟨[(49, some 0)], [(3, false)], none⟩, ⟨[], [], some (false, 46, 50, 4, 0)⟩] [(0, none), (3, none), (4, none), (8, none), (9, none), (10, none), (51, some 0)] (⟨_, rfl, ⟨_, rfl, ⟨_, rfl, ⟨_, rfl, ⟨_, rfl, ⟨_, rfl, ⟨_, rfl, ⟨_, rfl, ⟨_, rfl, ⟨_, rfl, ⟨_, rfl, ⟨_, rfl, ⟨_, rfl, ⟨_, rfl, ⟨_, rfl, ⟨_, rfl, ⟨_, rfl, ⟨_, rfl, ⟨_, rfl, ⟨_, rfl, ⟨_, rfl, ⟨_, rfl, ⟨_, rfl, ⟨_, rfl, ⟨_, rfl, ⟨_, rfl, ⟨_, rfl, ⟨_, rfl, ⟨_, rfl, ⟨_, rfl, ⟨_, rfl, ⟨_, rfl, ⟨_, rfl, ⟨_, rfl, ⟨_, rfl, ⟨_, rfl, ⟨_, rfl, ⟨rfl, rfl⟩⟩⟩⟩⟩⟩⟩⟩⟩⟩⟩⟩⟩⟩⟩⟩⟩⟩⟩⟩⟩⟩⟩⟩⟩⟩⟩⟩⟩⟩⟩⟩⟩⟩⟩⟩⟩⟩) mixed_orders rfl (by decide +kernel) (fun hck6 => ?_)
    refine VP.step (p := ?pv306) rfl rfl rfl (⟨_, _, rfl, rfl, rfl⟩) ?hv306 ?rest306 hck6
    case hv306 =>
     intro E1
     refine (V1.fieldRef rfl rfl fo_34_0 rfl lt0 ?_)
     exact rfl
    refine VP.step (p := ?pv307) rfl rfl rfl (⟨_, _, rfl, rfl, rfl⟩) ?hv307 ?rest307 hck6
    case hv307 =>
     intro E1
     refine (V1.loadRef (k := 0) rfl rfl tyk_3 rfl rfl rfl rfl rfl lt0 ?_)
     exact rfl
    refine VP.step (p := ?pv308) rfl rfl rfl (⟨_, _, rfl, rfl, rfl⟩) ?hv308 ?rest308 hck6
    case hv308 =>
     intro E1
     refine (V1.call rfl rfl rfl cok_72 rfl (ok_impl_within hh1) rfl lt0 ?_)
     rintro _ _ ⟨rfl, rfl⟩
     exact rfl
    refine VP.step (p := ?pv310) rfl rfl rfl (⟨_, _, rfl, rfl, rfl⟩) ?hv310 ?rest310 hck6
    case hv310 =>
     intro E1
     refine (V1.not rfl rfl rfl lt0 ?_)
     exact rfl
    refine VP.step (p := ?pv311) rfl rfl rfl (⟨_, _, rfl, rfl, rfl⟩) ?hv311 ?rest311 hck6
    case hv311 =>
     intro E1
     refine (V1.move rfl rfl rfl lt0 ?_)
     exact rfl
    refine VP.step (p := ?pv312) rfl rfl rfl (⟨_, _, rfl, rfl, rfl⟩) ?hv312 ?rest312 hck6
    case hv312 =>
     refine ⟨_, rfl, fun hg0 => ?_⟩
     intro E1
     refine (V1.fieldRef rfl rfl fo_34_1 rfl lt0 ?_)
     exact rfl
    refine VP.step (p := ?pv313) rfl rfl rfl (⟨_, _, rfl, rfl, rfl⟩) ?hv313 ?rest313 hck6
    case hv313 =>
     refine ⟨_, rfl, fun hg0 => ?_⟩
     intro E1
     refine (V1.loadRef (k := 0) rfl rfl tyk_9 rfl rfl rfl rfl rfl lt0 ?_)
     exact rfl
    refine VP.step (p := ?pv314) rfl rfl rfl (⟨_, _, rfl, rfl, rfl⟩) ?hv314 ?rest314 hck6
    case hv314 =>
     refine ⟨_, rfl, fun hg0 => ?_⟩
     intro E1
     refine (V1.call rfl rfl rfl cok_94 rfl (ok_impl_isWord (cond_f hg0 hh2)) rfl lt0 ?_)
     rintro _ _ ⟨rfl, rfl⟩
     exact rfl
    refine VP.step (p := ?pv316) rfl rfl rfl (⟨_, _, rfl, rfl, rfl⟩) ?hv316 ?rest316 hck6
    case hv316 =>
     refine ⟨_, rfl, fun hg0 => ?_⟩
     intro E1
     refine (V1.not rfl rfl rfl lt0 ?_)
     exact rfl
    refine VP.pickOr rfl rfl rfl rfl rfl rfl (trivial) ?_ hck6
    refine VP.step (p := ?pv317) rfl rfl rfl (⟨_, _, rfl, rfl, rfl⟩) ?hv317 ?rest317 hck6
    case hv317 =>
     intro E1
     refine (V1.move rfl rfl rfl lt0 ?_)
     exact rfl
    refine VP.step (p := ?pv318) rfl rfl rfl (⟨_, _, rfl, rfl, rfl⟩) ?hv318 ?rest318 hck6
    case hv318 =>
     refine ⟨_, rfl, fun hg1 => ?_⟩
     intro E1
     refine (V1.fieldRef rfl rfl fo_34_2 rfl lt0 ?_)
     exact rfl
    refine VP.step (p := ?pv319) rfl rfl rfl (⟨_, _, rfl, rfl, rfl⟩) ?hv319 ?rest319 hck6
    case hv319 =>
     refine ⟨_, rfl, fun hg1 => ?_⟩
     intro E1
     refine (V1.loadRef (k := 0) rfl rfl tyk_3 rfl rfl rfl rfl rfl lt0 ?_)
     exact rfl
    refine VP.step (p := ?pv320) rfl rfl rfl (⟨_, _, rfl, rfl, rfl⟩) ?hv320 ?rest320 hck6
    case hv320 =>
     refine ⟨_, rfl, fun hg1 => ?_⟩
     intro E1
     refine (V1.call rfl rfl rfl cok_112 rfl (ok_impl_isDay (cond_f hg1 hh3)) rfl lt0 ?_)
     rintro _ _ ⟨rfl, rfl⟩
     exact rfl
    refine VP.step (p := ?pv322) rfl rfl rfl (⟨_, _, rfl, rfl, rfl⟩) ?hv322 ?rest322 hck6
    case hv322 =>
     refine ⟨_, rfl, fun hg1 => ?_⟩
     intro E1
     refine (V1.not rfl rfl rfl lt0 ?_)
     exact rfl
    refine VP.pickOr rfl rfl rfl rfl rfl rfl (trivial) ?_ hck6
    refine VP.step (p := ?pv323) rfl rfl rfl (⟨_, _, rfl, rfl, rfl⟩) ?hv323 ?rest323 hck6
    case hv323 =>
     intro E1
     refine (V1.move rfl rfl rfl lt0 ?_)
     exact rfl
    refine VP.step (p := ?pv324) rfl rfl rfl (⟨_, _, rfl, rfl, rfl⟩) ?hv324 ?rest324 hck6
    case hv324 =>
     refine ⟨_, rfl, fun hg2 => ?_⟩
     intro E1
     refine (V1.move rfl rfl rfl lt0 ?_)
     exact rfl
    refine VP.step (p := ?pv325) rfl rfl rfl (⟨_, _, rfl, rfl, rfl⟩) ?hv325 ?rest325 hck6
    case hv325 =>
     refine ⟨_, rfl, fun hg2 => ?_⟩
     intro E1
     refine (V1.int rfl rfl rfl rfl rfl lt0 ?_)
     exact rfl
    refine VP.step (p := ?pv326) rfl rfl rfl (⟨_, _, rfl, rfl, rfl⟩) ?hv326 ?rest326 hck6
    case hv326 =>
     refine ⟨_, rfl, fun hg2 => ?_⟩
     intro E1
     refine (V1.move rfl rfl rfl lt0 ?_)
     exact rfl
    refine VP.step (p := ?pv327) rfl rfl rfl (⟨_, _, rfl, rfl, rfl⟩) ?hv327 ?rest327 hck6
    case hv327 =>
     refine ⟨_, rfl, fun hg3 => ?_⟩
     refine ⟨_, rfl, fun hg2 => ?_⟩
     intro E1
     refine (V1.move rfl rfl rfl lt0 ?_)
     exact rfl
    refine VP.step (p := ?pv328) rfl rfl rfl (⟨_, _, rfl, rfl, rfl⟩) ?hv328 ?rest328 hck6
    case hv328 =>
     refine ⟨_, rfl, fun hg3 => ?_⟩
     refine ⟨_, rfl, fun hg2 => ?_⟩
     intro E1
     refine (V1.move rfl rfl rfl lt0 ?_)
     exact rfl
    refine VP.step (p := ?pv329) rfl rfl rfl (⟨_, _, rfl, rfl, rfl⟩) ?hv329 ?rest329 hck6
    case hv329 =>
     refine ⟨_, rfl, fun hg3 => ?_⟩
     refine ⟨_, rfl, fun hg2 => ?_⟩
     intro E1
     refine (V1.int rfl rfl rfl rfl rfl lt0 ?_)
     exact rfl
    refine VP.step (p := ?pv330) rfl rfl rfl (⟨_, _, rfl, rfl, _, _, rfl, rfl, rfl⟩) ?hv330 ?rest330 hck6
    case hv330 =>
     refine ⟨_, rfl, fun hg3 => ?_⟩
     refine ⟨_, rfl, fun hg2 => ?_⟩
     intro E1
     refine (V1.indexI rfl rfl esz_24 rfl rfl (hh4 hg2 hg3) lt0 ?_)
     exact rfl
    refine VP.step (p := ?pv331) rfl rfl rfl (⟨_, _, rfl, rfl, rfl⟩) ?hv331 ?rest331 hck6
    case hv331 =>
     refine ⟨_, rfl, fun hg3 => ?_⟩
     refine ⟨_, rfl, fun hg2 => ?_⟩
     intro E1
     refine (V1.fieldPin rfl rfl fo_34_0 rfl lt0 ?_)
     exact rfl
    refine VP.step (p := ?pv332) rfl rfl rfl (⟨_, _, rfl, rfl, rfl⟩) ?hv332 ?rest332 hck6
    case hv332 =>
     refine ⟨_, rfl, fun hg3 => ?_⟩
     refine ⟨_, rfl, fun hg2 => ?_⟩
     intro E1
     refine (V1.loadPin rfl rfl tyk_3 rfl rfl lt0 ?_)
     exact rfl
    refine VP.step (p := ?pv333) rfl rfl rfl (⟨_, _, rfl, rfl, rfl⟩) ?hv333 ?rest333 hck6
    case hv333 =>
     refine ⟨_, rfl, fun hg3 => ?_⟩
     refine ⟨_, rfl, fun hg2 => ?_⟩
     intro E1
     refine (V1.fieldRef rfl rfl fo_34_0 rfl lt0 ?_)
     exact rfl
    refine VP.step (p := ?pv334) rfl rfl rfl (⟨_, _, rfl, rfl, rfl⟩) ?hv334 ?rest334 hck6
    case hv334 =>
     refine ⟨_, rfl, fun hg3 => ?_⟩
     refine ⟨_, rfl, fun hg2 => ?_⟩
     intro E1
     refine (V1.loadRef (k := 0) rfl rfl tyk_3 rfl rfl rfl rfl rfl lt0 ?_)
     exact rfl
    refine VP.step (p := ?pv335) rfl rfl rfl (⟨_, _, rfl, rfl, _, _, rfl, rfl, rfl⟩) ?hv335 ?rest335 hck6
    case hv335 =>
     refine ⟨_, rfl, fun hg3 => ?_⟩
     refine ⟨_, rfl, fun hg2 => ?_⟩
     intro E1
     refine (V1.int rfl rfl rfl rfl rfl lt0 ?_)
     exact rfl
    refine VP.pickAnd rfl rfl rfl rfl rfl rfl (⟨_, rfl, fun _ => trivial⟩) ?_ hck6
    refine VP.pickOr rfl rfl rfl rfl rfl rfl (trivial) ?_ hck6
    refine VP.step (p := ?pv336) rfl rfl rfl (⟨_, _, rfl, rfl, rfl⟩) ?hv336 ?rest336 hck6
    case hv336 =>
     intro E1
     refine (V1.move rfl rfl rfl lt0 ?_)
     exact rfl
    refine VP.step (p := ?pv337) rfl rfl rfl (⟨_, _, rfl, rfl, rfl⟩) ?hv337 ?rest337 hck6
    case hv337 =>
     refine ⟨_, rfl, fun hg4 => ?_⟩
     intro E1
     refine (V1.move rfl rfl rfl lt0 ?_)
     exact rfl
    refine VP.step (p := ?pv338) rfl rfl rfl (⟨_, _, rfl, rfl, rfl⟩) ?hv338 ?rest338 hck6
    case hv338 =>
     refine ⟨_, rfl, fun hg4 => ?_⟩
     intro E1
     refine (V1.loadRefAll (k := 0) rfl rfl tyk_34 rfl rfl rfl rfl rfl lt0 ?_)
     exact rfl
    refine VP.step (p := ?pv339) rfl rfl rfl (⟨_, _, rfl, rfl, _, _, rfl, rfl, rfl⟩) ?hv339 ?rest339 hck6
    case hv339 =>
     refine ⟨_, rfl, fun hg4 => ?_⟩
     intro E1
     refine (V1.call rfl rfl rfl cok_145 rfl (ok_impl_areReads (cond_f hg4 hh5)) rfl lt0 ?_)
     rintro _ _ ⟨rfl, rfl⟩
     exact rfl
    refine VP.step (p := ?pv341) rfl rfl rfl (⟨_, _, rfl, rfl, rfl⟩) ?hv341 ?rest341 hck6
    case hv341 =>
     refine ⟨_, rfl, fun hg4 => ?_⟩
     intro E1
     refine (V1.not rfl rfl rfl lt0 ?_)
     exact rfl
    refine VP.pickOr rfl rfl rfl rfl rfl rfl (trivial) ?_ hck6
    refine VP.fin rfl (⟨_, _, rfl, rfl, _, _, rfl, rfl, _, _, rfl, rfl, _, _, rfl, rfl, _, _, rfl, rfl, _, _, rfl, rfl, _, _, rfl, rfl, rfl⟩) ?_
    refine VO.nil ?_
    refine V.cond rfl (fun hc2 => ?_) (fun hc2 => ?_)
    ·
     replace hm1 := cond_t hc2 hm1
     refine V.seq ?_
     refine V.region ?_
     refine VO.cons rfl (V1.assign rfl rfl rfl lt0 ?_)
     refine VO.nil ?_
     refine V.ret ?_
     obtain rfl := hr1 _ (Option.some.inj hm1).symm
     change some _ = some _ at hm0
     obtain rfl := Option.some.inj hm0
     exact ⟨_, [], ⟨_, _, rfl, rfl, rfl⟩, List.nil_sublist _, rfl, rfl⟩
    ·
     replace hm1 := cond_f hc2 hm1
     refine V.skip ?_
     refine V.seq ?_
     replace hm1 := asrt_some hm1; rcases hm1 with ⟨hh6, hm1⟩
     replace hm1 := bindO hm1; rcases hm1 with ⟨y5, hh7, hm1⟩
     refine V.region ?_
     refine VO.cons rfl (V1.move rfl rfl rfl lt0 ?_)
     refine VO.cons rfl (V1.move rfl rfl rfl lt0 ?_)
     refine VO.cons rfl (V1.sliceMap (a := (0 : Int)) (b := v) rfl rfl esz_24 rfl (Bnd.none _ _) (Bnd.some rfl (Int.le_trans hh6.1 hh6.2.1) _) hh6 lt0 ?_)
     refine VO.cons rfl (V1.makeFunc rfl rfl rfl lt0 ?_)
     refine VO.cons rfl (V1.callL (rn + 1) [b0] [.vl ρ0 4 (List.map (encFormat ρ0) (slc list (0 : Int) v)), .fn 147 [.pin (rn + 1) (encFormat ρ0 (list.getD (Int.toNat v) default)) 0]] rfl rfl rfl cok_146 rfl ⟨_, _, rfl, .same _, ⟨_, _, rfl, Lend.fn ⟨_, _, rfl, Lend.ref 0 rfl rfl rfl rfl (.head _), rfl⟩, rfl⟩⟩ (bwCons (k := 0) rfl bwNil) (ok_slices_ContainsFunc_impl_Format_impl_Format hh7 (fm := (fun x0 => M.impl_AreFormats_1 x0 (list.getD (Int.toNat v) default))) cok_147 (fun _ _ h => ok_impl_AreFormats_1 h)) rfl (⟨(by first | omega | (dsimp only; omega)), by rintro _ _ ⟨rfl, rfl⟩; exact ⟨rfl, by simp⟩⟩) lt0 ?_)
     rintro _ _ ⟨rfl, rfl⟩
     refine VO.nil ?_
     refine V.keep 58 [0, 8, 9, 10, 56] [] (E0 := [(0, .vl ρ0 4 (List.map (encFormat ρ0) list)), (8, .vl ρ0 4 (List.map (encFormat ρ0) list)), (9, .int .i64 (list.length : Int)), (10, .int .i64 v), (56, .bool y5)]) (H0 := []) rfl (⟨_, _, rfl, rfl, _, _, rfl, rfl, _, _, rfl, rfl, _, _, rfl, rfl, _, _, rfl, rfl, rfl⟩) (rfl) rfl ?_
     refine V.cond rfl (fun hc3 => ?_) (fun hc3 => ?_)
     ·
      replace hm1 := cond_t hc3 hm1
      refine V.seq ?_
      refine V.region ?_
      refine VO.cons rfl (V1.assign rfl rfl rfl lt0 ?_)
      refine VO.nil ?_
      refine V.ret ?_
      obtain rfl := hr1 _ (Option.some.inj hm1).symm
      change some _ = some _ at hm0
      obtain rfl := Option.some.inj hm0
      exact ⟨_, [], ⟨_, _, rfl, rfl, rfl⟩, List.nil_sublist _, rfl, rfl⟩
     ·
      replace hm1 := cond_f hc3 hm1
      refine V.skip ?_
      refine V.region ?_
      refine VO.cons rfl (V1.int rfl rfl rfl rfl rfl lt0 ?_)
      refine VO.cons rfl (V1.move rfl rfl rfl lt0 ?_)
      refine VO.nil ?_
      exact ⟨(m0, (IntKind.i64.wrap (v + (1 : Int))), ()), hl1 _ (Option.some.inj hm1).symm, Nat.lt_succ_self _, Keeps.mk (ks := []) rfl ⟨rfl, rfl, rfl, rfl, trivial⟩ (rfl) rfl⟩
   ·
    replace hm1 := cond_f hc1 hm1
    refine V.exit ?_
    obtain rfl := hr1 _ (Option.some.inj hm1).symm
    exact ⟨((), ()), rfl, Keeps.mk (ks := []) rfl trivial (rfl) rfl⟩
  ·
   rintro ⟨_, _⟩ rfl
   try dsimp only at hm0
   refine V.seq ?_
   refine V.region ?_
   refine VO.cons rfl (V1.assign rfl rfl rfl lt0 ?_)
   refine VO.nil ?_
   refine V.ret ?_
   obtain rfl := Option.some.inj hm0
   exact ⟨_, [], ⟨_, _, rfl, rfl, rfl⟩, List.nil_sublist _, rfl, rfl⟩
end Go.Proofs.YteocnbeefedbkaaDoor
