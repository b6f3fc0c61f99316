/- the functions do what their models say -/
import Derived.Test.YteocnbeefedbkaaDoorFacts
import Derived.Test.YteocnbeefedbkaaDoorSh
import Derived.KernelRfl
import Derived.Test.YteocnbeefedbkaaDoorMhM
set_option linter.unusedSimpArgs false
set_option linter.unusedVariables false
set_option maxRecDepth 100000
set_option maxHeartbeats 4000000
namespace Go.Proofs.YteocnbeefedbkaaDoor
open Go.VS

theorem ok_laws_vBig {ρ0 rn : Nat} {code : List Int} {r : Bool} (h : M.laws_vBig code = some r) : Does Tryd.prog 35 [.vl ρ0 1 (List.map encU8 code)] [] rn (fun x H => x = .bool r ∧ H = []) := by
 have hm0 := h; clear h; unfold M.laws_vBig at hm0
 try dsimp only at hm0
 refine Does.intro (N := 6) Tryd.func35 rfl rfl rfl rfl ?_
 intro w0 S0 L0
 refine V.seq ?_
 refine V.region ?_
 refine VO.cons rfl (V1.assign rfl rfl rfl lt0 ?_)
 refine VO.nil ?_
 refine V.seq ?_
 refine V.region ?_
 refine VO.cons rfl (V1.move rfl rfl rfl lt0 ?_)
 refine VO.cons rfl (V1.lenMap rfl rfl rfl rfl rfl rfl isl_22 lt0 ?_)
 refine VO.cons rfl (V1.int rfl rfl rfl rfl rfl lt0 ?_)
 refine VO.cons rfl (V1.assign rfl rfl rfl lt0 ?_)
 refine VO.nil ?_
 refine V.ret ?_
 obtain rfl := Option.some.inj hm0
 exact ⟨_, [], ⟨_, _, rfl, rfl, rfl⟩, List.nil_sublist _, rfl, rfl⟩

theorem ok_spec_l1Cur_next {ρ0 rn bp : Nat} {c : Cur} {r : Int × Cur} (h : M.spec_l1Cur_next c = some r) : Does Tryd.prog 128 [.ref bp 3 0 0] [(bp, ⟨3, [encCur ρ0 c]⟩)] rn (fun x H => x = .int .i64 r.1 ∧ H = [(bp, ⟨3, [encCur ρ0 r.2]⟩)]) := by
 have hm0 := h; clear h; unfold M.spec_l1Cur_next at hm0
 try dsimp only at hm0
 refine Does.intro (N := 62) Tryd.func128 rfl rfl rfl rfl ?_
 intro w0 S0 L0
 refine V.seq ?_
 refine V.region ?_
 refine VO.cons rfl (V1.assign rfl rfl rfl lt0 ?_)
 refine VO.nil ?_
 refine V.seq ?_
 refine V.region ?_
 refine VO.cons rfl (V1.assign rfl rfl rfl lt0 ?_)
 refine VO.nil ?_
 refine V.seq ?_
 replace hm0 := bindO hm0; rcases hm0 with ⟨j0, hm1, hm0⟩
 refine V.cutT (D := (Int) × (Unit)) (fun ⟨b_, _⟩ => ⟨62, [(3, .int .i64 b_), (0, .ref bp 3 0 0)], [(bp, ⟨3, [encCur ρ0 c]⟩)]⟩) (fun ⟨b_, _⟩ => (b_ = j0)) ?_ ?_
 ·
  refine V.seq ?_
  refine V.regionM 62 9 [⟨[(0, none)], [], none⟩, ⟨[(4, some 0)], [], none⟩, ⟨[(5, some 0)], [], none⟩, ⟨[(6, some 0)], [], none⟩, ⟨[(0, none)], [], none⟩, ⟨[(8, some 0)], [], none⟩, ⟨[(9, some 0)], [], none⟩, ⟨[(10, some 0)], [], none⟩, ⟨[(11, some 0)], [], none⟩] [(0, none), (3, none), (7, some 5), (12, some 0)] (⟨_, rfl, ⟨_, rfl, ⟨_, rfl, ⟨_, rfl, ⟨_, rfl, ⟨_, rfl, ⟨_, rfl, ⟨_, rfl, ⟨_, rfl, ⟨rfl, rfl⟩⟩⟩⟩⟩⟩⟩⟩⟩⟩) mixed_orders rfl (by decide +kernel) (fun hck2 => ?_)
  refine VP.step (p := ?pv104) rfl rfl rfl (⟨_, _, rfl, rfl, rfl⟩) ?hv104 ?rest104 hck2
  case hv104 =>
   intro E1
   refine (V1.move rfl rfl rfl lt0 ?_)
   exact rfl
  refine VP.step (p := ?pv105) rfl rfl rfl (⟨_, _, rfl, rfl, rfl⟩) ?hv105 ?rest105 hck2
  case hv105 =>
   intro E1
   refine (V1.nilRef rfl rfl rfl lt0 ?_)
   exact rfl
  refine VP.step (p := ?pv106) rfl rfl rfl (⟨_, _, rfl, rfl, rfl⟩) ?hv106 ?rest106 hck2
  case hv106 =>
   intro E1
   refine (V1.fieldRef rfl rfl fo_77_1 rfl lt0 ?_)
   exact rfl
  refine VP.step (p := ?pv107) rfl rfl rfl (⟨_, _, rfl, rfl, rfl⟩) ?hv107 ?rest107 hck2
  case hv107 =>
   intro E1
   refine (V1.loadRef (k := 0) rfl rfl tyk_3 rfl rfl rfl rfl rfl lt0 ?_)
   exact rfl
  refine VP.step (p := ?pv108) rfl rfl rfl (⟨_, _, rfl, rfl, rfl⟩) ?hv108 ?rest108 hck2
  case hv108 =>
   intro E1
   refine (V1.move rfl rfl rfl lt0 ?_)
   exact rfl
  refine VP.step (p := ?pv109) rfl rfl rfl (⟨_, _, rfl, rfl, rfl⟩) ?hv109 ?rest109 hck2
  case hv109 =>
   intro E1
   refine (V1.nilRef rfl rfl rfl lt0 ?_)
   exact rfl
  refine VP.step (p := ?pv110) rfl rfl rfl (⟨_, _, rfl, rfl, rfl⟩) ?hv110 ?rest110 hck2
  case hv110 =>
   intro E1
   refine (V1.fieldRef rfl rfl fo_77_0 rfl lt0 ?_)
   exact rfl
  refine VP.step (p := ?pv111) rfl rfl rfl (⟨_, _, rfl, rfl, rfl⟩) ?hv111 ?rest111 hck2
  case hv111 =>
   intro E1
   refine (V1.loadRef (k := 0) rfl rfl tyk_22 rfl rfl rfl rfl rfl lt0 ?_)
   exact rfl
  refine VP.step (p := ?pv112) rfl rfl rfl (⟨_, _, rfl, rfl, rfl⟩) ?hv112 ?rest112 hck2
  case hv112 =>
   intro E1
   refine (V1.lenMap rfl rfl rfl rfl rfl rfl isl_22 lt0 ?_)
   exact rfl
  refine VP.fin rfl (⟨_, _, rfl, rfl, _, _, rfl, rfl, _, _, rfl, rfl, _, _, rfl, rfl, rfl⟩) ?_
  refine VO.cons rfl (V1.int rfl rfl rfl rfl rfl lt0 ?_)
  refine VO.nil ?_
  refine V.cond rfl (fun hc0 => ?_) (fun hc0 => ?_)
  ·
   replace hm1 := cond_t hc0 hm1
   replace hm1 := asrt_some hm1; rcases hm1 with ⟨hh0, hm1⟩
   refine V.regionM 62 8 [⟨[(0, none)], [], none⟩, ⟨[(14, some 0)], [], none⟩, ⟨[(15, some 0)], [], none⟩, ⟨[(16, some 0)], [], none⟩, ⟨[(0, none)], [], none⟩, ⟨[(18, some 0)], [], none⟩, ⟨[(19, some 0)], [], none⟩, ⟨[(20, some 0)], [], none⟩] [(0, none), (17, some 4), (21, some 0)] (⟨_, rfl, ⟨_, rfl, ⟨_, rfl, ⟨_, rfl, ⟨_, rfl, ⟨_, rfl, ⟨_, rfl, ⟨_, rfl, ⟨rfl, rfl⟩⟩⟩⟩⟩⟩⟩⟩⟩) mixed_orders rfl (by decide +kernel) (fun hck3 => ?_)
   refine VP.step (p := ?pv113) rfl rfl rfl (⟨_, _, rfl, rfl, rfl⟩) ?hv113 ?rest113 hck3
   case hv113 =>
    intro E1
    refine (V1.move rfl rfl rfl lt0 ?_)
    exact rfl
   refine VP.step (p := ?pv114) rfl rfl rfl (⟨_, _, rfl, rfl, rfl⟩) ?hv114 ?rest114 hck3
   case hv114 =>
    intro E1
    refine (V1.nilRef rfl rfl rfl lt0 ?_)
    exact rfl
   refine VP.step (p := ?pv115) rfl rfl rfl (⟨_, _, rfl, rfl, rfl⟩) ?hv115 ?rest115 hck3
   case hv115 =>
    intro E1
    refine (V1.fieldRef rfl rfl fo_77_0 rfl lt0 ?_)
    exact rfl
   refine VP.step (p := ?pv116) rfl rfl rfl (⟨_, _, rfl, rfl, rfl⟩) ?hv116 ?rest116 hck3
   case hv116 =>
    intro E1
    refine (V1.loadRef (k := 0) rfl rfl tyk_22 rfl rfl rfl rfl rfl lt0 ?_)
    exact rfl
   refine VP.step (p := ?pv117) rfl rfl rfl (⟨_, _, rfl, rfl, rfl⟩) ?hv117 ?rest117 hck3
   case hv117 =>
    intro E1
    refine (V1.move rfl rfl rfl lt0 ?_)
    exact rfl
   refine VP.step (p := ?pv118) rfl rfl rfl (⟨_, _, rfl, rfl, rfl⟩) ?hv118 ?rest118 hck3
   case hv118 =>
    intro E1
    refine (V1.nilRef rfl rfl rfl lt0 ?_)
    exact rfl
   refine VP.step (p := ?pv119) rfl rfl rfl (⟨_, _, rfl, rfl, rfl⟩) ?hv119 ?rest119 hck3
   case hv119 =>
    intro E1
    refine (V1.fieldRef rfl rfl fo_77_1 rfl lt0 ?_)
    exact rfl
   refine VP.step (p := ?pv120) rfl rfl rfl (⟨_, _, rfl, rfl, rfl⟩) ?hv120 ?rest120 hck3
   case hv120 =>
    intro E1
    refine (V1.loadRef (k := 0) rfl rfl tyk_3 rfl rfl rfl rfl rfl lt0 ?_)
    exact rfl
   refine VP.fin rfl (⟨_, _, rfl, rfl, _, _, rfl, rfl, _, _, rfl, rfl, rfl⟩) ?_
   refine VO.cons rfl (V1.indexI rfl rfl esz_22 rfl rfl hh0 lt0 ?_)
   refine VO.cons rfl (V1.loadPin rfl rfl tyk_5 rfl rfl lt0 ?_)
   refine VO.cons rfl (V1.conv rfl rfl und_5 und_3 rfl lt0 ?_)
   refine VO.cons rfl (V1.assign rfl rfl rfl lt0 ?_)
   refine VO.nil ?_
   exact ⟨((IntKind.i64.wrap (c.Code.getD (Int.toNat c.At) default)), ()), Option.some.inj hm1, Keeps.mk (ks := [0]) rfl ⟨rfl, rfl, trivial⟩ (⟨_, _, rfl, rfl, rfl⟩) rfl⟩
  ·
   replace hm1 := cond_f hc0 hm1
   refine V.skip ?_
   exact ⟨((0 : Int), ()), Option.some.inj hm1, Keeps.mk (ks := [0]) rfl ⟨rfl, rfl, trivial⟩ (⟨_, _, rfl, rfl, rfl⟩) rfl⟩
 ·
  rintro ⟨b_, _⟩ rfl
  try dsimp only at hm0
  refine V.seq ?_
  refine V.region ?_
  refine VO.cons rfl (V1.move rfl rfl rfl lt0 ?_)
  refine VO.cons rfl (V1.nilRef rfl rfl rfl lt0 ?_)
  refine VO.cons rfl (V1.fieldRef rfl rfl fo_77_1 rfl lt0 ?_)
  refine VO.cons rfl (V1.loadRef (k := 0) rfl rfl tyk_3 rfl rfl rfl rfl rfl lt0 ?_)
  refine VO.cons rfl (V1.int rfl rfl rfl rfl rfl lt0 ?_)
  refine VO.cons rfl (V1.nilRef rfl rfl rfl lt0 ?_)
  refine VO.cons rfl (V1.fieldRef rfl rfl fo_77_1 rfl lt0 ?_)
  refine VO.cons rfl (V1.storeRef (k := 0) rfl rfl tyk_3 rfl rfl rfl rfl rfl rfl rfl rfl rfl ?_)
  refine VO.nil ?_
  refine V.keep 62 [0, 3] [0] (E0 := [(0, .ref bp 3 0 0), (3, .int .i64 b_)]) (H0 := [(bp, ⟨3, [.agg [.vl ρ0 1 (List.map encU8 c.Code), .int .i64 (IntKind.i64.wrap (c.At + (1 : Int))), .int .u64 c.Seed]]⟩)]) rfl (⟨_, _, rfl, rfl, _, _, rfl, rfl, rfl⟩) (⟨_, _, rfl, rfl, rfl⟩) rfl ?_
  refine V.seq ?_
  refine V.region ?_
  refine VO.cons rfl (V1.move rfl rfl rfl lt0 ?_)
  refine VO.cons rfl (V1.move rfl rfl rfl lt0 ?_)
  refine VO.cons rfl (V1.nilRef rfl rfl rfl lt0 ?_)
  refine VO.cons rfl (V1.fieldRef rfl rfl fo_77_2 rfl lt0 ?_)
  refine VO.cons rfl (V1.loadRef (k := 0) rfl rfl tyk_75 rfl rfl rfl rfl rfl lt0 ?_)
  refine VO.cons rfl (V1.int rfl rfl rfl rfl rfl lt0 ?_)
  refine VO.cons rfl (V1.move rfl rfl rfl lt0 ?_)
  refine VO.cons rfl (V1.conv rfl rfl und_3 und_75 rfl lt0 ?_)
  refine VO.cons rfl (V1.int rfl rfl rfl rfl rfl lt0 ?_)
  refine VO.cons rfl (V1.int rfl rfl rfl rfl rfl lt0 ?_)
  refine VO.cons rfl (V1.nilRef rfl rfl rfl lt0 ?_)
  refine VO.cons rfl (V1.fieldRef rfl rfl fo_77_2 rfl lt0 ?_)
  refine VO.cons rfl (V1.storeRef (k := 0) rfl rfl tyk_75 rfl rfl rfl rfl rfl rfl rfl rfl rfl ?_)
  refine VO.nil ?_
  refine V.keep 62 [0, 3] [0] (E0 := [(0, .ref bp 3 0 0), (3, .int .i64 b_)]) (H0 := [(bp, ⟨3, [.agg [.vl ρ0 1 (List.map encU8 c.Code), .int .i64 (IntKind.i64.wrap (c.At + (1 : Int))), .int .u64 (IntKind.u64.wrap ((IntKind.u64.wrap ((IntKind.u64.wrap (c.Seed * (6364136223846793005 : Int))) + (IntKind.u64.wrap b_))) + (103535 : Int)))]]⟩)]) rfl (⟨_, _, rfl, rfl, _, _, rfl, rfl, rfl⟩) (⟨_, _, rfl, rfl, rfl⟩) rfl ?_
  refine V.seq ?_
  refine V.seq ?_
  refine V.regionM 62 9 [⟨[(0, none)], [], none⟩, ⟨[(44, some 0)], [], none⟩, ⟨[(45, some 0)], [], none⟩, ⟨[(46, some 0)], [], none⟩, ⟨[(0, none)], [], none⟩, ⟨[(48, some 0)], [], none⟩, ⟨[(49, some 0)], [], none⟩, ⟨[(50, some 0)], [], none⟩, ⟨[(51, some 0)], [], none⟩] [(0, none), (3, none), (47, some 5), (52, some 0)] (⟨_, rfl, ⟨_, rfl, ⟨_, rfl, ⟨_, rfl, ⟨_, rfl, ⟨_, rfl, ⟨_, rfl, ⟨_, rfl, ⟨_, rfl, ⟨rfl, rfl⟩⟩⟩⟩⟩⟩⟩⟩⟩⟩) mixed_orders rfl (by decide +kernel) (fun hck6 => ?_)
  refine VP.step (p := ?pv121) rfl rfl rfl (⟨_, _, rfl, rfl, rfl⟩) ?hv121 ?rest121 hck6
  case hv121 =>
   intro E1
   refine (V1.move rfl rfl rfl lt0 ?_)
   exact rfl
  refine VP.step (p := ?pv122) rfl rfl rfl (⟨_, _, rfl, rfl, rfl⟩) ?hv122 ?rest122 hck6
  case hv122 =>
   intro E1
   refine (V1.nilRef rfl rfl rfl lt0 ?_)
   exact rfl
  refine VP.step (p := ?pv123) rfl rfl rfl (⟨_, _, rfl, rfl, rfl⟩) ?hv123 ?rest123 hck6
  case hv123 =>
   intro E1
   refine (V1.fieldRef rfl rfl fo_77_1 rfl lt0 ?_)
   exact rfl
  refine VP.step (p := ?pv124) rfl rfl rfl (⟨_, _, rfl, rfl, rfl⟩) ?hv124 ?rest124 hck6
  case hv124 =>
   intro E1
   refine (V1.loadRef (k := 0) rfl rfl tyk_3 rfl rfl rfl rfl rfl lt0 ?_)
   exact rfl
  refine VP.step (p := ?pv125) rfl rfl rfl (⟨_, _, rfl, rfl, rfl⟩) ?hv125 ?rest125 hck6
  case hv125 =>
   intro E1
   refine (V1.move rfl rfl rfl lt0 ?_)
   exact rfl
  refine VP.step (p := ?pv126) rfl rfl rfl (⟨_, _, rfl, rfl, rfl⟩) ?hv126 ?rest126 hck6
  case hv126 =>
   intro E1
   refine (V1.nilRef rfl rfl rfl lt0 ?_)
   exact rfl
  refine VP.step (p := ?pv127) rfl rfl rfl (⟨_, _, rfl, rfl, rfl⟩) ?hv127 ?rest127 hck6
  case hv127 =>
   intro E1
   refine (V1.fieldRef rfl rfl fo_77_0 rfl lt0 ?_)
   exact rfl
  refine VP.step (p := ?pv128) rfl rfl rfl (⟨_, _, rfl, rfl, rfl⟩) ?hv128 ?rest128 hck6
  case hv128 =>
   intro E1
   refine (V1.loadRef (k := 0) rfl rfl tyk_22 rfl rfl rfl rfl rfl lt0 ?_)
   exact rfl
  refine VP.step (p := ?pv129) rfl rfl rfl (⟨_, _, rfl, rfl, rfl⟩) ?hv129 ?rest129 hck6
  case hv129 =>
   intro E1
   refine (V1.lenMap rfl rfl rfl rfl rfl rfl isl_22 lt0 ?_)
   exact rfl
  refine VP.fin rfl (⟨_, _, rfl, rfl, _, _, rfl, rfl, _, _, rfl, rfl, _, _, rfl, rfl, rfl⟩) ?_
  refine VO.cons rfl (V1.int rfl rfl rfl rfl rfl lt0 ?_)
  refine VO.nil ?_
  refine V.cond rfl (fun hc1 => ?_) (fun hc1 => ?_)
  ·
   replace hm0 := cond_t hc1 hm0
   refine V.seq ?_
   refine V.region ?_
   refine VO.cons rfl (V1.move rfl rfl rfl lt0 ?_)
   refine VO.cons rfl (V1.assign rfl rfl rfl lt0 ?_)
   refine VO.nil ?_
   refine V.ret ?_
   obtain rfl := Option.some.inj hm0
   exact ⟨_, _, ⟨_, _, rfl, rfl, rfl⟩, (sub1 (k := 0) rfl), rfl, rfl⟩
  ·
   replace hm0 := cond_f hc1 hm0
   refine V.skip ?_
   refine V.keep 62 [0] [0] (E0 := [(0, .ref bp 3 0 0)]) (H0 := [(bp, ⟨3, [.agg [.vl ρ0 1 (List.map encU8 c.Code), .int .i64 (IntKind.i64.wrap (c.At + (1 : Int))), .int .u64 (IntKind.u64.wrap ((IntKind.u64.wrap ((IntKind.u64.wrap (c.Seed * (6364136223846793005 : Int))) + (IntKind.u64.wrap b_))) + (103535 : Int)))]]⟩)]) rfl (⟨_, _, rfl, rfl, rfl⟩) (⟨_, _, rfl, rfl, rfl⟩) rfl ?_
   refine V.seq ?_
   refine V.region ?_
   refine VO.cons rfl (V1.move rfl rfl rfl lt0 ?_)
   refine VO.cons rfl (V1.nilRef rfl rfl rfl lt0 ?_)
   refine VO.cons rfl (V1.fieldRef rfl rfl fo_77_2 rfl lt0 ?_)
   refine VO.cons rfl (V1.loadRef (k := 0) rfl rfl tyk_75 rfl rfl rfl rfl rfl lt0 ?_)
   refine VO.cons rfl (V1.shr rfl rfl rfl rfl (by decide) lt0 ?_)
   refine VO.cons rfl (V1.int rfl rfl rfl rfl rfl lt0 ?_)
   refine VO.cons rfl (V1.conv rfl rfl und_75 und_3 rfl lt0 ?_)
   refine VO.cons rfl (V1.assign rfl rfl rfl lt0 ?_)
   refine VO.nil ?_
   refine V.ret ?_
   obtain rfl := Option.some.inj hm0
   exact ⟨_, _, ⟨_, _, rfl, rfl, rfl⟩, (sub1 (k := 0) rfl), rfl, rfl⟩

theorem ok_spec_l1Cur_pick {ρ0 rn bp : Nat} {c : Cur} {n : Int} {r : Int × Cur} (h : M.spec_l1Cur_pick c n = some r) : Does Tryd.prog 84 [.ref bp 3 0 0, .int .i64 n] [(bp, ⟨3, [encCur ρ0 c]⟩)] rn (fun x H => x = .int .i64 r.1 ∧ H = [(bp, ⟨3, [encCur ρ0 r.2]⟩)]) := by
 have hm0 := h; clear h; unfold M.spec_l1Cur_pick at hm0
 try dsimp only at hm0
 refine Does.intro (N := 20) Tryd.func84 rfl rfl rfl rfl ?_
 intro w0 S0 L0
 refine V.seq ?_
 refine V.region ?_
 refine VO.cons rfl (V1.assign rfl rfl rfl lt0 ?_)
 refine VO.nil ?_
 refine V.seq ?_
 refine V.seq ?_
 refine V.region ?_
 refine VO.cons rfl (V1.move rfl rfl rfl lt0 ?_)
 refine VO.cons rfl (V1.int rfl rfl rfl rfl rfl lt0 ?_)
 refine VO.nil ?_
 refine V.cond rfl (fun hc0 => ?_) (fun hc0 => ?_)
 ·
  replace hm0 := cond_t hc0 hm0
  refine V.seq ?_
  refine V.region ?_
  refine VO.cons rfl (V1.assign rfl rfl rfl lt0 ?_)
  refine VO.nil ?_
  refine V.ret ?_
  obtain rfl := Option.some.inj hm0
  exact ⟨_, _, ⟨_, _, rfl, rfl, rfl⟩, (sub1 (k := 0) rfl), rfl, rfl⟩
 ·
  replace hm0 := cond_f hc0 hm0
  refine V.skip ?_
  refine V.seq ?_
  replace hm0 := bindO hm0; rcases hm0 with ⟨y0, hh0, hm0⟩
  refine V.region ?_
  refine VO.cons rfl (V1.move rfl rfl rfl lt0 ?_)
  refine VO.cons rfl (V1.callM 0 (rn + ρ0 + 1) [] [.ref bp 3 0 0] (p := (bp, ⟨3, [encCur ρ0 c]⟩)) rfl rfl rfl cok_128 rfl rfl ⟨_, _, rfl, .same _, rfl⟩ bwNil (ok_spec_l1Cur_next hh0) rfl (.inl rfl) lt0 ?_)
  rintro _ _ ⟨rfl, rfl⟩
  refine VO.cons rfl (V1.assign rfl rfl rfl lt0 ?_)
  refine VO.nil ?_
  refine V.keep 20 [0, 1, 5] [0] (E0 := [(0, .ref bp 3 0 0), (1, .int .i64 n), (5, .int .i64 y0.1)]) (H0 := [(bp, ⟨3, [encCur ρ0 y0.2]⟩)]) rfl (⟨_, _, rfl, rfl, _, _, rfl, rfl, _, _, rfl, rfl, rfl⟩) (⟨_, _, rfl, rfl, rfl⟩) rfl ?_
  refine V.seq ?_
  replace hm0 := bindO hm0; rcases hm0 with ⟨j0, hm1, hm0⟩
  refine V.cutT (D := (Int × Cur) × (Unit)) (fun ⟨⟨x, c_⟩, _⟩ => ⟨20, [(5, .int .i64 x), (1, .int .i64 n)], [(bp, ⟨3, [encCur ρ0 c_]⟩)]⟩) (fun ⟨⟨x, c_⟩, _⟩ => ((x, c_) = j0)) ?_ ?_
  ·
   refine V.seq ?_
   refine V.region ?_
   refine VO.cons rfl (V1.move rfl rfl rfl lt0 ?_)
   refine VO.cons rfl (V1.int rfl rfl rfl rfl rfl lt0 ?_)
   refine VO.nil ?_
   refine V.cond rfl (fun hc1 => ?_) (fun hc1 => ?_)
   ·
    replace hm1 := cond_t hc1 hm1
    replace hm1 := bindO hm1; rcases hm1 with ⟨y1, hh1, hm1⟩
    refine V.region ?_
    refine VO.cons rfl (V1.move rfl rfl rfl lt0 ?_)
    refine VO.cons rfl (V1.int rfl rfl rfl rfl rfl lt0 ?_)
    refine VO.cons rfl (V1.move rfl rfl rfl lt0 ?_)
    refine VO.cons rfl (V1.callM 0 (rn + ρ0 + 1) [] [.ref bp 3 0 0] (p := (bp, ⟨3, [encCur ρ0 y0.2]⟩)) rfl rfl rfl cok_128 rfl rfl ⟨_, _, rfl, .same _, rfl⟩ bwNil (ok_spec_l1Cur_next hh1) rfl (.inl rfl) lt0 ?_)
    rintro _ _ ⟨rfl, rfl⟩
    refine VO.cons rfl (V1.int rfl rfl rfl rfl rfl lt0 ?_)
    refine VO.cons rfl (V1.assign rfl rfl rfl lt0 ?_)
    refine VO.nil ?_
    exact ⟨(((IntKind.i64.wrap ((IntKind.i64.wrap (y0.1 * (256 : Int))) + y1.1)), y1.2), ()), Option.some.inj hm1, Keeps.mk (ks := [0]) rfl ⟨rfl, rfl, trivial⟩ (⟨_, _, rfl, rfl, rfl⟩) rfl⟩
   ·
    replace hm1 := cond_f hc1 hm1
    refine V.skip ?_
    exact ⟨((y0.1, y0.2), ()), Option.some.inj hm1, Keeps.mk (ks := [0]) rfl ⟨rfl, rfl, trivial⟩ (⟨_, _, rfl, rfl, rfl⟩) rfl⟩
  ·
   rintro ⟨⟨x, c_⟩, _⟩ rfl
   try dsimp only at hm0
   refine V.seq ?_
   replace hm0 := asrt_some hm0; rcases hm0 with ⟨hh2, hm0⟩
   refine V.region ?_
   refine VO.cons rfl (V1.move rfl rfl rfl lt0 ?_)
   refine VO.cons rfl (V1.move rfl rfl rfl lt0 ?_)
   refine VO.cons rfl (V1.rem rfl rfl rfl rfl (hh2) lt0 ?_)
   refine VO.cons rfl (V1.assign rfl rfl rfl lt0 ?_)
   refine VO.nil ?_
   refine V.ret ?_
   obtain rfl := Option.some.inj hm0
   exact ⟨_, _, ⟨_, _, rfl, rfl, rfl⟩, (sub1 (k := 0) rfl), rfl, rfl⟩

theorem ok_spec_l1Cur_of {ρ0 ρ1 rn bp : Nat} {c : Cur} {list : List (List UInt8)} {r : List UInt8 × Cur} (h : M.spec_l1Cur_of c list = some r) : Does Tryd.prog 70 [.ref bp 3 0 0, .vl ρ1 1 (List.map Go.VS.encStr list)] [(bp, ⟨3, [encCur ρ0 c]⟩)] rn (fun x H => x = .str r.1 ∧ H = [(bp, ⟨3, [encCur ρ0 r.2]⟩)]) := by
 have hm0 := h; clear h; unfold M.spec_l1Cur_of at hm0
 try dsimp only at hm0
 refine Does.intro (N := 12) Tryd.func70 rfl rfl rfl rfl ?_
 intro w0 S0 L0
 refine V.seq ?_
 refine V.region ?_
 refine VO.cons rfl (V1.assign rfl rfl rfl lt0 ?_)
 refine VO.nil ?_
 refine V.seq ?_
 replace hm0 := bindO hm0; rcases hm0 with ⟨y0, hh0, hm0⟩
 replace hm0 := asrt_some hm0; rcases hm0 with ⟨hh1, hm0⟩
 refine V.region ?_
 refine VO.cons rfl (V1.move rfl rfl rfl lt0 ?_)
 refine VO.cons rfl (V1.move rfl rfl rfl lt0 ?_)
 refine VO.cons rfl (V1.move rfl rfl rfl lt0 ?_)
 refine VO.cons rfl (V1.lenMap rfl rfl rfl rfl rfl rfl isl_93 lt0 ?_)
 refine VO.cons rfl (V1.callM 0 (rn + ρ0 + 1) [] [.ref bp 3 0 0, .int .i64 (list.length : Int)] (p := (bp, ⟨3, [encCur ρ0 c]⟩)) rfl rfl rfl cok_84 rfl rfl ⟨_, _, rfl, .same _, ⟨_, _, rfl, .same _, rfl⟩⟩ bwNil (ok_spec_l1Cur_pick hh0) rfl (.inl rfl) lt0 ?_)
 rintro _ _ ⟨rfl, rfl⟩
 refine VO.cons rfl (V1.indexI rfl rfl esz_93 rfl rfl hh1 lt0 ?_)
 refine VO.cons rfl (V1.loadPin rfl rfl tyk_9 rfl rfl lt0 ?_)
 refine VO.cons rfl (V1.assign rfl rfl rfl lt0 ?_)
 refine VO.nil ?_
 refine V.ret ?_
 obtain rfl := Option.some.inj hm0
 exact ⟨_, _, ⟨_, _, rfl, rfl, rfl⟩, (sub1 (k := 0) rfl), rfl, rfl⟩

theorem ok_spec_l1Cur_text {ρ0 rn bp : Nat} {c : Cur} {r : List UInt8 × Cur} (h : M.spec_l1Cur_text c = some r) : Does Tryd.prog 90 [.ref bp 3 0 0] [(bp, ⟨3, [encCur ρ0 c]⟩)] rn (fun x H => x = .str r.1 ∧ H = [(bp, ⟨3, [encCur ρ0 r.2]⟩)]) := by
 have hm0 := h; clear h; unfold M.spec_l1Cur_text at hm0
 try dsimp only at hm0
 refine Does.intro (N := 40) Tryd.func90 rfl rfl rfl rfl ?_
 intro w0 S0 L0
 refine V.seq ?_
 refine V.region ?_
 refine VO.cons rfl (V1.assign rfl rfl rfl lt0 ?_)
 refine VO.nil ?_
 refine V.seq ?_
 refine V.region ?_
 refine VO.cons rfl (V1.assign rfl rfl rfl lt0 ?_)
 refine VO.nil ?_
 refine V.seq ?_
 refine V.seq ?_
 replace hm0 := bindO hm0; rcases hm0 with ⟨y0, hh0, hm0⟩
 refine V.region ?_
 refine VO.cons rfl (V1.move rfl rfl rfl lt0 ?_)
 refine VO.cons rfl (V1.callM 0 (rn + ρ0 + 1) [] [.ref bp 3 0 0, .int .i64 (9 : Int)] (p := (bp, ⟨3, [encCur ρ0 c]⟩)) rfl rfl rfl cok_84 rfl rfl ⟨_, _, rfl, .same _, ⟨_, _, rfl, .same _, rfl⟩⟩ bwNil (ok_spec_l1Cur_pick hh0) rfl (.inl rfl) lt0 ?_)
 rintro _ _ ⟨rfl, rfl⟩
 refine VO.cons rfl (V1.assign rfl rfl rfl lt0 ?_)
 refine VO.nil ?_
 replace hm0 := bindO hm0; rcases hm0 with ⟨e0, he1, hm0⟩
 refine V.cutT (D := (List UInt8 × Cur) × (Unit)) (fun ⟨⟨s, c_⟩, _⟩ => ⟨40, [(3, .str s), (0, .ref bp 3 0 0)], [(bp, ⟨3, [encCur ρ0 c_]⟩)]⟩) (fun ⟨⟨s, c_⟩, _⟩ => ((s, c_) = e0)) ?_ ?_
 ·
  refine V.block ?_
  refine V.keep 40 [3, 4, 0] [0] (E0 := [(3, .str ([])), (4, .int .i64 y0.1), (0, .ref bp 3 0 0)]) (H0 := [(bp, ⟨3, [encCur ρ0 y0.2]⟩)]) rfl (⟨_, _, rfl, rfl, _, _, rfl, rfl, _, _, rfl, rfl, rfl⟩) (⟨_, _, rfl, rfl, rfl⟩) rfl ?_
  refine V.loopE (D := Nat × (List UInt8 × Int × Cur) × (Unit)) (fun ⟨n0, ⟨s0, n_, c_0⟩, _⟩ => [(3, .str s0), (4, .int .i64 n_)]) (fun ⟨n0, ⟨s0, n_, c_0⟩, _⟩ => [(bp, ⟨3, [encCur ρ0 c_0]⟩)]) (fun ⟨n0, ⟨s0, n_, c_0⟩, _⟩ => loopO (M.spec_l1Cur_text_l0) n0 (s0, n_, c_0) = some e0) (fun ⟨n0, _, _⟩ => n0) (rounds, ([], y0.1, y0.2), ()) rfl he1 ?_
  rintro ⟨n0, ⟨s0, n_, c_0⟩, _⟩ hP0
  obtain ⟨m0, y1, rfl, hm1, hl1, hr1⟩ := loop_head hP0
  unfold M.spec_l1Cur_text_l0 at hm1; dsimp only at hm1
  show V _ _ _ ⟨40, [(3, .str s0), (4, .int .i64 n_), (0, .ref bp 3 0 0)], [(bp, ⟨3, [encCur ρ0 c_0]⟩)]⟩
  refine V.seq ?_
  refine V.seq ?_
  refine V.region ?_
  refine VO.cons rfl (V1.move rfl rfl rfl lt0 ?_)
  refine VO.cons rfl (V1.int rfl rfl rfl rfl rfl lt0 ?_)
  refine VO.nil ?_
  refine V.cond rfl (fun hc0 => ?_) (fun hc0 => ?_)
  ·
   replace hm1 := cond_t hc0 hm1
   refine V.skip ?_
   refine V.seq ?_
   replace hm1 := bindO hm1; rcases hm1 with ⟨j0, hm2, hm1⟩
   refine V.cutT (D := (List UInt8 × Cur) × (Unit)) (fun ⟨⟨s1, c_1⟩, _⟩ => ⟨40, [(3, .str s1), (0, .ref bp 3 0 0), (4, .int .i64 n_)], [(bp, ⟨3, [encCur ρ0 c_1]⟩)]⟩) (fun ⟨⟨s1, c_1⟩, _⟩ => ((s1, c_1) = j0)) ?_ ?_
   ·
    refine V.block ?_
    refine V.seq ?_
    replace hm2 := bindO hm2; rcases hm2 with ⟨y2, hh1, hm2⟩
    replace hm2 := asrt_some hm2; rcases hm2 with ⟨hh2, hm2⟩
    refine V.region ?_
    refine VO.cons rfl (V1.move rfl rfl rfl lt0 ?_)
    refine VO.cons rfl (V1.move rfl rfl rfl lt0 ?_)
    refine VO.cons rfl (V1.buildSliceT (f := Go.VS.encStr) ([[97, 110, 110, 97], [98, 111], [97, 110, 110, 97], [109, 101, 116], [97], [99, 111, 117, 114, 116], [97, 110, 110], [110, 111, 114, 116, 104], [], [116, 104, 101]] : List (List UInt8)) rfl rfl esz_93 zk_9 rfl rfl rfl rfl rfl rfl rfl lt0 ?_)
    intro b0
    refine VO.cons rfl (V1.callM 1 (rn + ρ0 + 1) [b0] [.ref bp 3 0 0, .vl (rn + ρ0 + 1) 1 (List.map Go.VS.encStr ([[97, 110, 110, 97], [98, 111], [97, 110, 110, 97], [109, 101, 116], [97], [99, 111, 117, 114, 116], [97, 110, 110], [110, 111, 114, 116, 104], [], [116, 104, 101]] : List (List UInt8)))] (p := (bp, ⟨3, [encCur ρ0 c_0]⟩)) rfl rfl rfl cok_70 rfl rfl ⟨_, _, rfl, .same _, ⟨_, _, rfl, Lend.srMap 0 rfl (fun _ => rfl) (.head _), rfl⟩⟩ (bwCons (k := 0) rfl bwNil) (ok_spec_l1Cur_of hh1) rfl (.inr ⟨(by first | omega | (dsimp only; omega)), by rintro _ _ ⟨rfl, rfl⟩; exact ⟨by simp [PV.no, PV.noL, optS_no, noL_iff, nbeq] <;> omega, by intro b ob h; first | exact optH_no (noL_map (fun _ => by simp [PV.no, PV.noL, noL_iff, nbeq]) _) b ob h | (simp only [List.append_assoc, List.mem_append, List.mem_cons, List.mem_singleton, List.not_mem_nil, or_false, Prod.mk.injEq] at h; rcases h with ⟨rfl, rfl⟩ | ⟨rfl, rfl⟩ <;> first | exact noL_map (fun _ => by simp [PV.no, PV.noL, noL_iff, nbeq]) _ | (simp [PV.no, PV.noL, optS_no, noL_iff, nbeq] <;> omega)) | (simp at h; obtain ⟨rfl, rfl⟩ := h; exact noL_map (fun _ => by simp [PV.no, PV.noL, noL_iff, nbeq]) _) | (simp at h; obtain ⟨rfl, rfl⟩ := h; simp [PV.no, PV.noL, optS_no, noL_iff, nbeq] <;> omega)⟩⟩) lt0 ?_)
    rintro _ _ ⟨rfl, rfl⟩
    refine VO.cons rfl (V1.strAdd rfl rfl rfl rfl hh2 lt0 ?_)
    refine VO.cons rfl (V1.assign rfl rfl rfl lt0 ?_)
    refine VO.nil ?_
    refine V.keep 40 [0, 3, 4] [0] (E0 := [(0, .ref bp 3 0 0), (3, .str (s0 ++ y2.1)), (4, .int .i64 n_)]) (H0 := [(bp, ⟨3, [encCur ρ0 y2.2]⟩)]) rfl (⟨_, _, rfl, rfl, _, _, rfl, rfl, _, _, rfl, rfl, rfl⟩) (⟨_, _, rfl, rfl, rfl⟩) rfl ?_
    refine V.seq ?_
    refine V.region ?_
    refine VO.cons rfl (V1.move rfl rfl rfl lt0 ?_)
    refine VO.cons rfl (V1.int rfl rfl rfl rfl rfl lt0 ?_)
    refine VO.nil ?_
    refine V.cond rfl (fun hc1 => ?_) (fun hc1 => ?_)
    ·
     replace hm2 := cond_t hc1 hm2
     replace hm2 := asrt_some hm2; rcases hm2 with ⟨hh3, hm2⟩
     refine V.region ?_
     refine VO.cons rfl (V1.move rfl rfl rfl lt0 ?_)
     refine VO.cons rfl (V1.strAdd rfl rfl rfl rfl hh3 lt0 ?_)
     refine VO.cons rfl (V1.assign rfl rfl rfl lt0 ?_)
     refine VO.nil ?_
     exact ⟨((((s0 ++ y2.1) ++ ([32])), y2.2), ()), Option.some.inj hm2, Keeps.mk (ks := [0]) rfl ⟨rfl, rfl, rfl, trivial⟩ (⟨_, _, rfl, rfl, rfl⟩) rfl⟩
    ·
     replace hm2 := cond_f hc1 hm2
     refine V.skip ?_
     exact ⟨(((s0 ++ y2.1), y2.2), ()), Option.some.inj hm2, Keeps.mk (ks := [0]) rfl ⟨rfl, rfl, rfl, trivial⟩ (⟨_, _, rfl, rfl, rfl⟩) rfl⟩
   ·
    rintro ⟨⟨s1, c_1⟩, _⟩ rfl
    try dsimp only at hm1
    refine V.region ?_
    refine VO.cons rfl (V1.move rfl rfl rfl lt0 ?_)
    refine VO.cons rfl (V1.int rfl rfl rfl rfl rfl lt0 ?_)
    refine VO.cons rfl (V1.assign rfl rfl rfl lt0 ?_)
    refine VO.nil ?_
    exact ⟨(m0, (s1, (IntKind.i64.wrap (n_ - (1 : Int))), c_1), ()), hl1 _ (Option.some.inj hm1).symm, Nat.lt_succ_self _, Keeps.mk (ks := [0]) rfl ⟨rfl, rfl, rfl, trivial⟩ (⟨_, _, rfl, rfl, rfl⟩) rfl⟩
  ·
   replace hm1 := cond_f hc0 hm1
   refine V.exit ?_
   obtain rfl := hr1 _ (Option.some.inj hm1).symm
   exact ⟨((s0, c_0), ()), rfl, Keeps.mk (ks := [0]) rfl ⟨rfl, rfl, trivial⟩ (⟨_, _, rfl, rfl, rfl⟩) rfl⟩
 ·
  rintro ⟨⟨s, c_⟩, _⟩ rfl
  try dsimp only at hm0
  refine V.seq ?_
  refine V.seq ?_
  replace hm0 := bindO hm0; rcases hm0 with ⟨y3, hh4, hm0⟩
  refine V.region ?_
  refine VO.cons rfl (V1.move rfl rfl rfl lt0 ?_)
  refine VO.cons rfl (V1.callM 0 (rn + ρ0 + 1) [] [.ref bp 3 0 0, .int .i64 (40 : Int)] (p := (bp, ⟨3, [encCur ρ0 c_]⟩)) rfl rfl rfl cok_84 rfl rfl ⟨_, _, rfl, .same _, ⟨_, _, rfl, .same _, rfl⟩⟩ bwNil (ok_spec_l1Cur_pick hh4) rfl (.inl rfl) lt0 ?_)
  rintro _ _ ⟨rfl, rfl⟩
  refine VO.nil ?_
  replace hm0 := bindO hm0; rcases hm0 with ⟨j1, hm1, hm0⟩
  refine V.cutT (D := (List UInt8 × Cur) × (Unit)) (fun ⟨⟨s2, c_2⟩, _⟩ => ⟨40, [(3, .str s2)], [(bp, ⟨3, [encCur ρ0 c_2]⟩)]⟩) (fun ⟨⟨s2, c_2⟩, _⟩ => ((s2, c_2) = j1)) ?_ ?_
  ·
   refine V.block ?_
   refine V.seq ?_
   refine V.region ?_
   refine VO.cons rfl (V1.int rfl rfl rfl rfl rfl lt0 ?_)
   refine VO.cons rfl (V1.assign rfl rfl rfl lt0 ?_)
   refine VO.nil ?_
   refine V.cond rfl (fun hc2 => ?_) (fun hc2 => ?_)
   ·
    replace hm1 := cond_t hc2 hm1
    replace hm1 := bindO hm1; rcases hm1 with ⟨y4, hh5, hm1⟩
    replace hm1 := asrt_some hm1; rcases hm1 with ⟨hh6, hm1⟩
    refine V.region ?_
    refine VO.cons rfl (V1.move rfl rfl rfl lt0 ?_)
    refine VO.cons rfl (V1.move rfl rfl rfl lt0 ?_)
    refine VO.cons rfl (V1.buildSliceT (f := Go.VS.encStr) ([[65], [49], [46], [91]] : List (List UInt8)) rfl rfl esz_93 zk_9 rfl rfl rfl rfl rfl rfl rfl lt0 ?_)
    intro b1
    refine VO.cons rfl (V1.callM 1 (rn + ρ0 + 1) [b1] [.ref bp 3 0 0, .vl (rn + ρ0 + 1) 1 (List.map Go.VS.encStr ([[65], [49], [46], [91]] : List (List UInt8)))] (p := (bp, ⟨3, [encCur ρ0 y3.2]⟩)) rfl rfl rfl cok_70 rfl rfl ⟨_, _, rfl, .same _, ⟨_, _, rfl, Lend.srMap 0 rfl (fun _ => rfl) (.head _), rfl⟩⟩ (bwCons (k := 0) rfl bwNil) (ok_spec_l1Cur_of hh5) rfl (.inr ⟨(by first | omega | (dsimp only; omega)), by rintro _ _ ⟨rfl, rfl⟩; exact ⟨by simp [PV.no, PV.noL, optS_no, noL_iff, nbeq] <;> omega, by intro b ob h; first | exact optH_no (noL_map (fun _ => by simp [PV.no, PV.noL, noL_iff, nbeq]) _) b ob h | (simp only [List.append_assoc, List.mem_append, List.mem_cons, List.mem_singleton, List.not_mem_nil, or_false, Prod.mk.injEq] at h; rcases h with ⟨rfl, rfl⟩ | ⟨rfl, rfl⟩ <;> first | exact noL_map (fun _ => by simp [PV.no, PV.noL, noL_iff, nbeq]) _ | (simp [PV.no, PV.noL, optS_no, noL_iff, nbeq] <;> omega)) | (simp at h; obtain ⟨rfl, rfl⟩ := h; exact noL_map (fun _ => by simp [PV.no, PV.noL, noL_iff, nbeq]) _) | (simp at h; obtain ⟨rfl, rfl⟩ := h; simp [PV.no, PV.noL, optS_no, noL_iff, nbeq] <;> omega)⟩⟩) lt0 ?_)
    rintro _ _ ⟨rfl, rfl⟩
    refine VO.cons rfl (V1.strAdd rfl rfl rfl rfl hh6 lt0 ?_)
    refine VO.cons rfl (V1.assign rfl rfl rfl lt0 ?_)
    refine VO.nil ?_
    exact ⟨(((s ++ y4.1), y4.2), ()), Option.some.inj hm1, Keeps.mk (ks := [0]) rfl ⟨rfl, trivial⟩ (⟨_, _, rfl, rfl, rfl⟩) rfl⟩
   ·
    replace hm1 := cond_f hc2 hm1
    refine V.seq ?_
    refine V.region ?_
    refine VO.cons rfl (V1.int rfl rfl rfl rfl rfl lt0 ?_)
    refine VO.cons rfl (V1.assign rfl rfl rfl lt0 ?_)
    refine VO.nil ?_
    refine V.keep 40 [0, 3, 29] [0] (E0 := [(0, .ref bp 3 0 0), (3, .str s), (29, .bool (y3.1 == (1 : Int)))]) (H0 := [(bp, ⟨3, [encCur ρ0 y3.2]⟩)]) rfl (⟨_, _, rfl, rfl, _, _, rfl, rfl, _, _, rfl, rfl, rfl⟩) (⟨_, _, rfl, rfl, rfl⟩) rfl ?_
    refine V.cond rfl (fun hc3 => ?_) (fun hc3 => ?_)
    ·
     replace hm1 := cond_t hc3 hm1
     replace hm1 := bindO hm1; rcases hm1 with ⟨e1, he2, hm1⟩
     refine V.cutT (D := (List UInt8 × Cur) × (Unit)) (fun ⟨⟨s3, c_3⟩, _⟩ => ⟨40, [(3, .str s3)], [(bp, ⟨3, [encCur ρ0 c_3]⟩)]⟩) (fun ⟨⟨s3, c_3⟩, _⟩ => ((s3, c_3) = e1)) ?_ ?_
     ·
      refine V.block ?_
      refine V.keep 40 [3, 0] [0] (E0 := [(3, .str s), (0, .ref bp 3 0 0)]) (H0 := [(bp, ⟨3, [encCur ρ0 y3.2]⟩)]) rfl (⟨_, _, rfl, rfl, _, _, rfl, rfl, rfl⟩) (⟨_, _, rfl, rfl, rfl⟩) rfl ?_
      refine V.loopE (D := Nat × (List UInt8 × Cur) × (Unit)) (fun ⟨n1, ⟨s4, c_4⟩, _⟩ => [(3, .str s4)]) (fun ⟨n1, ⟨s4, c_4⟩, _⟩ => [(bp, ⟨3, [encCur ρ0 c_4]⟩)]) (fun ⟨n1, ⟨s4, c_4⟩, _⟩ => loopO (M.spec_l1Cur_text_l1) n1 (s4, c_4) = some e1) (fun ⟨n1, _, _⟩ => n1) (rounds, (s, y3.2), ()) rfl he2 ?_
      rintro ⟨n1, ⟨s4, c_4⟩, _⟩ hP1
      obtain ⟨m1, y5, rfl, hm2, hl2, hr2⟩ := loop_head hP1
      unfold M.spec_l1Cur_text_l1 at hm2; dsimp only at hm2
      show V _ _ _ ⟨40, [(3, .str s4), (0, .ref bp 3 0 0)], [(bp, ⟨3, [encCur ρ0 c_4]⟩)]⟩
      refine V.seq ?_
      refine V.seq ?_
      replace hm2 := bindO hm2; rcases hm2 with ⟨y6, hh7, hm2⟩
      refine V.region ?_
      refine VO.cons rfl (V1.move rfl rfl rfl lt0 ?_)
      refine VO.cons rfl (V1.lenStr rfl rfl rfl rfl rfl rfl istr_9 lt0 ?_)
      refine VO.cons rfl (V1.move rfl rfl rfl lt0 ?_)
      refine VO.cons rfl (V1.callM 0 (rn + ρ0 + 1) [] [.ref bp 3 0 0, .int .i64 (2 : Int)] (p := (bp, ⟨3, [encCur ρ0 c_4]⟩)) rfl rfl rfl cok_84 rfl rfl ⟨_, _, rfl, .same _, ⟨_, _, rfl, .same _, rfl⟩⟩ bwNil (ok_spec_l1Cur_pick hh7) rfl (.inl rfl) lt0 ?_)
      rintro _ _ ⟨rfl, rfl⟩
      refine VO.cons rfl (V1.int rfl rfl rfl rfl rfl lt0 ?_)
      refine VO.cons rfl (V1.int rfl rfl rfl rfl rfl lt0 ?_)
      refine VO.nil ?_
      refine V.keep 40 [0, 3, 36] [0] (E0 := [(0, .ref bp 3 0 0), (3, .str s4), (36, .bool (decide ((s4.length : Int) < (IntKind.i64.wrap ((100 : Int) + y6.1)))))]) (H0 := [(bp, ⟨3, [encCur ρ0 y6.2]⟩)]) rfl (⟨_, _, rfl, rfl, _, _, rfl, rfl, _, _, rfl, rfl, rfl⟩) (⟨_, _, rfl, rfl, rfl⟩) rfl ?_
      refine V.cond rfl (fun hc4 => ?_) (fun hc4 => ?_)
      ·
       replace hm2 := cond_t hc4 hm2
       refine V.skip ?_
       refine V.block ?_
       replace hm2 := asrt_some hm2; rcases hm2 with ⟨hh8, hm2⟩
       refine V.region ?_
       refine VO.cons rfl (V1.move rfl rfl rfl lt0 ?_)
       refine VO.cons rfl (V1.strAdd rfl rfl rfl rfl hh8 lt0 ?_)
       refine VO.cons rfl (V1.assign rfl rfl rfl lt0 ?_)
       refine VO.nil ?_
       exact ⟨(m1, ((s4 ++ ([120])), y6.2), ()), hl2 _ (Option.some.inj hm2).symm, Nat.lt_succ_self _, Keeps.mk (ks := [0]) rfl ⟨rfl, rfl, trivial⟩ (⟨_, _, rfl, rfl, rfl⟩) rfl⟩
      ·
       replace hm2 := cond_f hc4 hm2
       refine V.exit ?_
       obtain rfl := hr2 _ (Option.some.inj hm2).symm
       exact ⟨((s4, y6.2), ()), rfl, Keeps.mk (ks := [0]) rfl ⟨rfl, trivial⟩ (⟨_, _, rfl, rfl, rfl⟩) rfl⟩
     ·
      rintro ⟨⟨s3, c_3⟩, _⟩ rfl
      try dsimp only at hm1
      exact ⟨((s3, c_3), ()), Option.some.inj hm1, Keeps.mk (ks := [0]) rfl ⟨rfl, trivial⟩ (⟨_, _, rfl, rfl, rfl⟩) rfl⟩
    ·
     replace hm1 := cond_f hc3 hm1
     refine V.skip ?_
     exact ⟨((s, y3.2), ()), Option.some.inj hm1, Keeps.mk (ks := [0]) rfl ⟨rfl, trivial⟩ (⟨_, _, rfl, rfl, rfl⟩) rfl⟩
  ·
   rintro ⟨⟨s2, c_2⟩, _⟩ rfl
   try dsimp only at hm0
   refine V.seq ?_
   refine V.region ?_
   refine VO.cons rfl (V1.move rfl rfl rfl lt0 ?_)
   refine VO.cons rfl (V1.assign rfl rfl rfl lt0 ?_)
   refine VO.nil ?_
   refine V.ret ?_
   obtain rfl := Option.some.inj hm0
   exact ⟨_, _, ⟨_, _, rfl, rfl, rfl⟩, (sub1 (k := 0) rfl), rfl, rfl⟩

theorem ok_spec_l1Cur_among {ρ0 ρ1 rn bp : Nat} {c : Cur} {list : List Int} {r : Int × Cur} (h : M.spec_l1Cur_among c list = some r) : Does Tryd.prog 69 [.ref bp 3 0 0, .vl ρ1 1 (List.map encInt list)] [(bp, ⟨3, [encCur ρ0 c]⟩)] rn (fun x H => x = .int .i64 r.1 ∧ H = [(bp, ⟨3, [encCur ρ0 r.2]⟩)]) := by
 have hm0 := h; clear h; unfold M.spec_l1Cur_among at hm0
 try dsimp only at hm0
 refine Does.intro (N := 12) Tryd.func69 rfl rfl rfl rfl ?_
 intro w0 S0 L0
 refine V.seq ?_
 refine V.region ?_
 refine VO.cons rfl (V1.assign rfl rfl rfl lt0 ?_)
 refine VO.nil ?_
 refine V.seq ?_
 replace hm0 := bindO hm0; rcases hm0 with ⟨y0, hh0, hm0⟩
 replace hm0 := asrt_some hm0; rcases hm0 with ⟨hh1, hm0⟩
 refine V.region ?_
 refine VO.cons rfl (V1.move rfl rfl rfl lt0 ?_)
 refine VO.cons rfl (V1.move rfl rfl rfl lt0 ?_)
 refine VO.cons rfl (V1.move rfl rfl rfl lt0 ?_)
 refine VO.cons rfl (V1.lenMap rfl rfl rfl rfl rfl rfl isl_27 lt0 ?_)
 refine VO.cons rfl (V1.callM 0 (rn + ρ0 + 1) [] [.ref bp 3 0 0, .int .i64 (list.length : Int)] (p := (bp, ⟨3, [encCur ρ0 c]⟩)) rfl rfl rfl cok_84 rfl rfl ⟨_, _, rfl, .same _, ⟨_, _, rfl, .same _, rfl⟩⟩ bwNil (ok_spec_l1Cur_pick hh0) rfl (.inl rfl) lt0 ?_)
 rintro _ _ ⟨rfl, rfl⟩
 refine VO.cons rfl (V1.indexI rfl rfl esz_27 rfl rfl hh1 lt0 ?_)
 refine VO.cons rfl (V1.loadPin rfl rfl tyk_3 rfl rfl lt0 ?_)
 refine VO.cons rfl (V1.assign rfl rfl rfl lt0 ?_)
 refine VO.nil ?_
 refine V.ret ?_
 obtain rfl := Option.some.inj hm0
 exact ⟨_, _, ⟨_, _, rfl, rfl, rfl⟩, (sub1 (k := 0) rfl), rfl, rfl⟩

theorem ok_spec_l1Least {rn : Nat} {a : Int} {b_ : Int} {r : Int} (h : M.spec_l1Least a b_ = some r) : Does Tryd.prog 130 [.int .i64 a, .int .i64 b_] [] rn (fun x H => x = .int .i64 r ∧ H = []) := by
 have hm0 := h; clear h; unfold M.spec_l1Least at hm0
 try dsimp only at hm0
 refine Does.intro (N := 10) Tryd.func130 rfl rfl rfl rfl ?_
 intro w0 S0 L0
 refine V.seq ?_
 refine V.region ?_
 refine VO.cons rfl (V1.assign rfl rfl rfl lt0 ?_)
 refine VO.nil ?_
 refine V.seq ?_
 refine V.seq ?_
 refine V.region ?_
 refine VO.cons rfl (V1.move rfl rfl rfl lt0 ?_)
 refine VO.cons rfl (V1.move rfl rfl rfl lt0 ?_)
 refine VO.cons rfl (V1.int rfl rfl rfl rfl rfl lt0 ?_)
 refine VO.nil ?_
 refine V.cond rfl (fun hc0 => ?_) (fun hc0 => ?_)
 ·
  replace hm0 := cond_t hc0 hm0
  refine V.seq ?_
  refine V.region ?_
  refine VO.cons rfl (V1.move rfl rfl rfl lt0 ?_)
  refine VO.cons rfl (V1.assign rfl rfl rfl lt0 ?_)
  refine VO.nil ?_
  refine V.ret ?_
  obtain rfl := Option.some.inj hm0
  exact ⟨_, [], ⟨_, _, rfl, rfl, rfl⟩, List.nil_sublist _, rfl, rfl⟩
 ·
  replace hm0 := cond_f hc0 hm0
  refine V.skip ?_
  refine V.keep 10 [1] [] (E0 := [(1, .int .i64 b_)]) (H0 := []) rfl (⟨_, _, rfl, rfl, rfl⟩) (rfl) rfl ?_
  refine V.seq ?_
  refine V.region ?_
  refine VO.cons rfl (V1.move rfl rfl rfl lt0 ?_)
  refine VO.cons rfl (V1.assign rfl rfl rfl lt0 ?_)
  refine VO.nil ?_
  refine V.ret ?_
  obtain rfl := Option.some.inj hm0
  exact ⟨_, [], ⟨_, _, rfl, rfl, rfl⟩, List.nil_sublist _, rfl, rfl⟩

theorem ok_spec_l1Cur_spans {ρ0 rn bp : Nat} {c : Cur} {text : List UInt8} {r : List Span × Cur} (h : M.spec_l1Cur_spans c text = some r) : Does Tryd.prog 91 [.ref bp 3 0 0, .str text] [(bp, ⟨3, [encCur ρ0 c]⟩)] rn (fun x H => ∃ (ob0_ : Nat), x = PV.sref ob0_ 3 0 (List.length r.1) ∧ H = [(ob0_, ⟨3, List.map encSpan r.1⟩)] ++ [(bp, ⟨3, [encCur ρ0 r.2]⟩)]) := by
 have hm0 := h; clear h; unfold M.spec_l1Cur_spans at hm0
 try dsimp only at hm0
 refine Does.intro (N := 89) Tryd.func91 rfl rfl rfl rfl ?_
 intro w0 S0 L0
 refine V.seq ?_
 refine V.region ?_
 refine VO.cons rfl (V1.assign rfl rfl rfl lt0 ?_)
 refine VO.nil ?_
 refine V.seq ?_
 refine V.region ?_
 refine VO.cons rfl (V1.buildSliceT (f := encSpan) ([] : List Span) rfl rfl esz_58 zk_66 rfl rfl rfl rfl rfl rfl rfl lt0 ?_)
 intro b0
 refine VO.cons rfl (V1.assign rfl rfl rfl lt0 ?_)
 refine VO.cons rfl (V1.assign rfl rfl rfl lt0 ?_)
 refine VO.nil ?_
 refine V.seq ?_
 refine V.seq ?_
 replace hm0 := bindO hm0; rcases hm0 with ⟨y0, hh0, hm0⟩
 refine V.region ?_
 refine VO.cons rfl (V1.move rfl rfl rfl lt0 ?_)
 refine VO.cons rfl (V1.callM 1 (rn + ρ0 + 1) [] [.ref bp 3 0 0, .int .i64 (5 : Int)] (p := (bp, ⟨3, [encCur ρ0 c]⟩)) rfl rfl rfl cok_84 rfl rfl ⟨_, _, rfl, .same _, ⟨_, _, rfl, .same _, rfl⟩⟩ bwNil (ok_spec_l1Cur_pick hh0) rfl (.inl rfl) lt0 ?_)
 rintro _ _ ⟨rfl, rfl⟩
 refine VO.cons rfl (V1.assign rfl rfl rfl lt0 ?_)
 refine VO.nil ?_
 refine V.keep 89 [0, 1, 5, 6, 7] [0, 1] (E0 := [(0, .ref bp 3 0 0), (1, .str text), (5, .sref b0 3 0 (List.length ([] : List Span))), (6, .int .i64 (0 : Int)), (7, .int .i64 y0.1)]) (H0 := [(bp, ⟨3, [encCur ρ0 y0.2]⟩), (b0, ⟨3, List.map encSpan ([] : List Span)⟩)]) rfl (⟨_, _, rfl, rfl, _, _, rfl, rfl, _, _, rfl, rfl, _, _, rfl, rfl, _, _, rfl, rfl, rfl⟩) (⟨_, _, rfl, rfl, _, _, rfl, rfl, rfl⟩) rfl ?_
 replace hm0 := bindO hm0; rcases hm0 with ⟨e0, he1, hm0⟩
 refine V.cutT (D := (List Span × Int × Cur) × (Nat)) (fun ⟨⟨out_, at_, c_⟩, b1⟩ => ⟨89, [(5, .sref b1 3 0 (List.length out_)), (6, .int .i64 at_), (0, .ref bp 3 0 0)], [(b1, ⟨3, List.map encSpan out_⟩), (bp, ⟨3, [encCur ρ0 c_]⟩)]⟩) (fun ⟨⟨out_, at_, c_⟩, b1⟩ => ((out_, at_, c_) = e0)) ?_ ?_
 ·
  refine V.block ?_
  refine V.keep 89 [5, 6, 7, 0, 1] [1, 0] (E0 := [(5, .sref b0 3 0 (List.length ([] : List Span))), (6, .int .i64 (0 : Int)), (7, .int .i64 y0.1), (0, .ref bp 3 0 0), (1, .str text)]) (H0 := [(b0, ⟨3, List.map encSpan ([] : List Span)⟩), (bp, ⟨3, [encCur ρ0 y0.2]⟩)]) rfl (⟨_, _, rfl, rfl, _, _, rfl, rfl, _, _, rfl, rfl, _, _, rfl, rfl, _, _, rfl, rfl, rfl⟩) (⟨_, _, rfl, rfl, _, _, rfl, rfl, rfl⟩) rfl ?_
  refine V.loopE (D := Nat × (List Span × Int × Int × Cur) × (Nat)) (fun ⟨n0, ⟨out_0, at_0, n_, c_0⟩, b2⟩ => [(5, .sref b2 3 0 (List.length out_0)), (6, .int .i64 at_0), (7, .int .i64 n_)]) (fun ⟨n0, ⟨out_0, at_0, n_, c_0⟩, b2⟩ => [(b2, ⟨3, List.map encSpan out_0⟩), (bp, ⟨3, [encCur ρ0 c_0]⟩)]) (fun ⟨n0, ⟨out_0, at_0, n_, c_0⟩, b2⟩ => loopO (M.spec_l1Cur_spans_l0 text) n0 (out_0, at_0, n_, c_0) = some e0) (fun ⟨n0, _, _⟩ => n0) (rounds, (([] : List Span), (0 : Int), y0.1, y0.2), b0) rfl he1 ?_
  rintro ⟨n0, ⟨out_0, at_0, n_, c_0⟩, b2⟩ hP0
  obtain ⟨m0, y1, rfl, hm1, hl1, hr1⟩ := loop_head hP0
  unfold M.spec_l1Cur_spans_l0 at hm1; dsimp only at hm1
  show V _ _ _ ⟨89, [(5, .sref b2 3 0 (List.length out_0)), (6, .int .i64 at_0), (7, .int .i64 n_), (0, .ref bp 3 0 0), (1, .str text)], [(b2, ⟨3, List.map encSpan out_0⟩), (bp, ⟨3, [encCur ρ0 c_0]⟩)]⟩
  refine V.seq ?_
  refine V.seq ?_
  refine V.region ?_
  refine VO.cons rfl (V1.move rfl rfl rfl lt0 ?_)
  refine VO.cons rfl (V1.int rfl rfl rfl rfl rfl lt0 ?_)
  refine VO.cons rfl (V1.move rfl rfl rfl lt0 ?_)
  apply VO.and (n := 4) rfl rfl rfl rfl rfl rfl lt0 (.none rfl)
  ·
   intro hg0
   refine VO.step (.some rfl rfl rfl) (V1.move rfl rfl rfl lt0 ?_)
   refine VO.step (.some rfl rfl rfl) (V1.move rfl rfl rfl lt0 ?_)
   refine VO.step (.some rfl rfl rfl) (V1.lenStr rfl rfl rfl rfl rfl rfl istr_9 lt0 ?_)
   refine VO.step (.some rfl rfl rfl) (V1.int rfl rfl rfl rfl rfl lt0 ?_)
   exact VO.nil ⟨rfl, rfl, rfl, rfl, .inr ⟨rfl, .inr ⟨rfl, .inr ⟨rfl, .inr ⟨rfl, .inr ⟨rfl, .inl rfl⟩⟩⟩⟩⟩⟩
  refine VO.nil ?_
  refine V.cond rfl (fun hc0 => ?_) (fun hc0 => ?_)
  ·
   replace hm1 := cond_t hc0 hm1
   refine V.skip ?_
   refine V.keep 89 [0, 1, 5, 6, 7] [0, 1] (E0 := [(0, .ref bp 3 0 0), (1, .str text), (5, .sref b2 3 0 (List.length out_0)), (6, .int .i64 at_0), (7, .int .i64 n_)]) (H0 := [(b2, ⟨3, List.map encSpan out_0⟩), (bp, ⟨3, [encCur ρ0 c_0]⟩)]) rfl (⟨_, _, rfl, rfl, _, _, rfl, rfl, _, _, rfl, rfl, _, _, rfl, rfl, _, _, rfl, rfl, rfl⟩) (⟨_, _, rfl, rfl, _, _, rfl, rfl, rfl⟩) rfl ?_
   refine V.seq ?_
   refine V.block ?_
   refine V.seq ?_
   replace hm1 := bindO hm1; rcases hm1 with ⟨y2, hh1, hm1⟩
   replace hm1 := bindO hm1; rcases hm1 with ⟨y3, hh2, hm1⟩
   refine V.region ?_
   refine VO.cons rfl (V1.move rfl rfl rfl lt0 ?_)
   refine VO.cons rfl (V1.lenStr rfl rfl rfl rfl rfl rfl istr_9 lt0 ?_)
   refine VO.cons rfl (V1.int rfl rfl rfl rfl rfl lt0 ?_)
   refine VO.cons rfl (V1.move rfl rfl rfl lt0 ?_)
   refine VO.cons rfl (V1.move rfl rfl rfl lt0 ?_)
   refine VO.cons rfl (V1.buildSliceT (f := encInt) ([(0 : Int), (0 : Int), (2 : Int), (5 : Int), (9 : Int)] : List Int) rfl rfl esz_27 zk_3 rfl rfl rfl rfl rfl rfl rfl lt0 ?_)
   intro b3
   refine VO.cons rfl (V1.callM 2 (rn + ρ0 + 1) [b3] [.ref bp 3 0 0, .vl (rn + ρ0 + 1) 1 (List.map encInt ([(0 : Int), (0 : Int), (2 : Int), (5 : Int), (9 : Int)] : List Int))] (p := (bp, ⟨3, [encCur ρ0 c_0]⟩)) rfl rfl rfl cok_69 rfl rfl ⟨_, _, rfl, .same _, ⟨_, _, rfl, Lend.srMap 0 rfl (fun _ => rfl) (.head _), rfl⟩⟩ (bwCons (k := 0) rfl bwNil) (ok_spec_l1Cur_among hh1) rfl (.inr ⟨(by first | omega | (dsimp only; omega)), by rintro _ _ ⟨rfl, rfl⟩; exact ⟨by simp [PV.no, PV.noL, optS_no, noL_iff, nbeq] <;> omega, by intro b ob h; first | exact optH_no (noL_map (fun _ => by simp [PV.no, PV.noL, noL_iff, nbeq]) _) b ob h | (simp only [List.append_assoc, List.mem_append, List.mem_cons, List.mem_singleton, List.not_mem_nil, or_false, Prod.mk.injEq] at h; rcases h with ⟨rfl, rfl⟩ | ⟨rfl, rfl⟩ <;> first | exact noL_map (fun _ => by simp [PV.no, PV.noL, noL_iff, nbeq]) _ | (simp [PV.no, PV.noL, optS_no, noL_iff, nbeq] <;> omega)) | (simp at h; obtain ⟨rfl, rfl⟩ := h; exact noL_map (fun _ => by simp [PV.no, PV.noL, noL_iff, nbeq]) _) | (simp at h; obtain ⟨rfl, rfl⟩ := h; simp [PV.no, PV.noL, optS_no, noL_iff, nbeq] <;> omega)⟩⟩) lt0 ?_)
   rintro _ _ ⟨rfl, rfl⟩
   refine VO.cons rfl (V1.int rfl rfl rfl rfl rfl lt0 ?_)
   refine VO.cons rfl (V1.call rfl rfl rfl cok_130 rfl (ok_spec_l1Least hh2) rfl lt0 ?_)
   rintro _ _ ⟨rfl, rfl⟩
   refine VO.cons rfl (V1.assign rfl rfl rfl lt0 ?_)
   refine VO.nil ?_
   refine V.keep 89 [0, 1, 5, 7, 8] [0, 2] (E0 := [(0, .ref bp 3 0 0), (1, .str text), (5, .sref b2 3 0 (List.length out_0)), (7, .int .i64 n_), (8, .int .i64 y3)]) (H0 := [(bp, ⟨3, [encCur ρ0 y2.2]⟩), (b2, ⟨3, List.map encSpan out_0⟩)]) rfl (⟨_, _, rfl, rfl, _, _, rfl, rfl, _, _, rfl, rfl, _, _, rfl, rfl, _, _, rfl, rfl, rfl⟩) (⟨_, _, rfl, rfl, _, _, rfl, rfl, rfl⟩) rfl ?_
   refine V.seq ?_
   replace hm1 := bindO hm1; rcases hm1 with ⟨y4, hh3, hm1⟩
   replace hm1 := bindO hm1; rcases hm1 with ⟨y5, hh4, hm1⟩
   refine V.region ?_
   refine VO.cons rfl (V1.move rfl rfl rfl lt0 ?_)
   refine VO.cons rfl (V1.lenStr rfl rfl rfl rfl rfl rfl istr_9 lt0 ?_)
   refine VO.cons rfl (V1.move rfl rfl rfl lt0 ?_)
   refine VO.cons rfl (V1.move rfl rfl rfl lt0 ?_)
   refine VO.cons rfl (V1.buildSliceT (f := encInt) ([(1 : Int), (2 : Int), (4 : Int), (6 : Int)] : List Int) rfl rfl esz_27 zk_3 rfl rfl rfl rfl rfl rfl rfl lt0 ?_)
   intro b4
   refine VO.cons rfl (V1.callM 1 (rn + ρ0 + 1) [b4] [.ref bp 3 0 0, .vl (rn + ρ0 + 1) 1 (List.map encInt ([(1 : Int), (2 : Int), (4 : Int), (6 : Int)] : List Int))] (p := (bp, ⟨3, [encCur ρ0 y2.2]⟩)) rfl rfl rfl cok_69 rfl rfl ⟨_, _, rfl, .same _, ⟨_, _, rfl, Lend.srMap 0 rfl (fun _ => rfl) (.head _), rfl⟩⟩ (bwCons (k := 0) rfl bwNil) (ok_spec_l1Cur_among hh3) rfl (.inr ⟨(by first | omega | (dsimp only; omega)), by rintro _ _ ⟨rfl, rfl⟩; exact ⟨by simp [PV.no, PV.noL, optS_no, noL_iff, nbeq] <;> omega, by intro b ob h; first | exact optH_no (noL_map (fun _ => by simp [PV.no, PV.noL, noL_iff, nbeq]) _) b ob h | (simp only [List.append_assoc, List.mem_append, List.mem_cons, List.mem_singleton, List.not_mem_nil, or_false, Prod.mk.injEq] at h; rcases h with ⟨rfl, rfl⟩ | ⟨rfl, rfl⟩ <;> first | exact noL_map (fun _ => by simp [PV.no, PV.noL, noL_iff, nbeq]) _ | (simp [PV.no, PV.noL, optS_no, noL_iff, nbeq] <;> omega)) | (simp at h; obtain ⟨rfl, rfl⟩ := h; exact noL_map (fun _ => by simp [PV.no, PV.noL, noL_iff, nbeq]) _) | (simp at h; obtain ⟨rfl, rfl⟩ := h; simp [PV.no, PV.noL, optS_no, noL_iff, nbeq] <;> omega)⟩⟩) lt0 ?_)
   rintro _ _ ⟨rfl, rfl⟩
   refine VO.cons rfl (V1.int rfl rfl rfl rfl rfl lt0 ?_)
   refine VO.cons rfl (V1.call rfl rfl rfl cok_130 rfl (ok_spec_l1Least hh4) rfl lt0 ?_)
   rintro _ _ ⟨rfl, rfl⟩
   refine VO.cons rfl (V1.assign rfl rfl rfl lt0 ?_)
   refine VO.nil ?_
   refine V.keep 89 [0, 1, 5, 7, 8, 9] [0, 2] (E0 := [(0, .ref bp 3 0 0), (1, .str text), (5, .sref b2 3 0 (List.length out_0)), (7, .int .i64 n_), (8, .int .i64 y3), (9, .int .i64 y5)]) (H0 := [(bp, ⟨3, [encCur ρ0 y4.2]⟩), (b2, ⟨3, List.map encSpan out_0⟩)]) rfl (⟨_, _, rfl, rfl, _, _, rfl, rfl, _, _, rfl, rfl, _, _, rfl, rfl, _, _, rfl, rfl, _, _, rfl, rfl, rfl⟩) (⟨_, _, rfl, rfl, _, _, rfl, rfl, rfl⟩) rfl ?_
   refine V.seq ?_
   replace hm1 := bindO hm1; rcases hm1 with ⟨y6, hh5, hm1⟩
   replace hm1 := asrt_some hm1; rcases hm1 with ⟨hh6, hm1⟩
   refine V.region ?_
   refine VO.cons rfl (V1.move rfl rfl rfl lt0 ?_)
   refine VO.cons rfl (V1.move rfl rfl rfl lt0 ?_)
   refine VO.cons rfl (V1.move rfl rfl rfl lt0 ?_)
   refine VO.cons rfl (V1.move rfl rfl rfl lt0 ?_)
   refine VO.cons rfl (V1.buildSliceT (f := encInt) ([(1 : Int), (1 : Int), (2 : Int), (9 : Int)] : List Int) rfl rfl esz_27 zk_3 rfl rfl rfl rfl rfl rfl rfl lt0 ?_)
   intro b5
   refine VO.cons rfl (V1.callM 1 (rn + ρ0 + 1) [b5] [.ref bp 3 0 0, .vl (rn + ρ0 + 1) 1 (List.map encInt ([(1 : Int), (1 : Int), (2 : Int), (9 : Int)] : List Int))] (p := (bp, ⟨3, [encCur ρ0 y4.2]⟩)) rfl rfl rfl cok_69 rfl rfl ⟨_, _, rfl, .same _, ⟨_, _, rfl, Lend.srMap 0 rfl (fun _ => rfl) (.head _), rfl⟩⟩ (bwCons (k := 0) rfl bwNil) (ok_spec_l1Cur_among hh5) rfl (.inr ⟨(by first | omega | (dsimp only; omega)), by rintro _ _ ⟨rfl, rfl⟩; exact ⟨by simp [PV.no, PV.noL, optS_no, noL_iff, nbeq] <;> omega, by intro b ob h; first | exact optH_no (noL_map (fun _ => by simp [PV.no, PV.noL, noL_iff, nbeq]) _) b ob h | (simp only [List.append_assoc, List.mem_append, List.mem_cons, List.mem_singleton, List.not_mem_nil, or_false, Prod.mk.injEq] at h; rcases h with ⟨rfl, rfl⟩ | ⟨rfl, rfl⟩ <;> first | exact noL_map (fun _ => by simp [PV.no, PV.noL, noL_iff, nbeq]) _ | (simp [PV.no, PV.noL, optS_no, noL_iff, nbeq] <;> omega)) | (simp at h; obtain ⟨rfl, rfl⟩ := h; exact noL_map (fun _ => by simp [PV.no, PV.noL, noL_iff, nbeq]) _) | (simp at h; obtain ⟨rfl, rfl⟩ := h; simp [PV.no, PV.noL, optS_no, noL_iff, nbeq] <;> omega)⟩⟩) lt0 ?_)
   rintro _ _ ⟨rfl, rfl⟩
   refine VO.cons rfl (V1.build rfl rfl zk_66 pl_66 rfl rfl lt0 ?_)
   refine VO.cons rfl (V1.buildSliceT (f := encSpan) ([(⟨y3, y5, y6.1⟩ : Span)] : List Span) rfl rfl esz_58 zk_66 rfl rfl rfl rfl rfl rfl rfl lt0 ?_)
   intro b6
   refine VO.cons rfl (V1.appendMap (k := 3) (f := encSpan) (l := out_0) (m := ([(⟨y3, y5, y6.1⟩ : Span)] : List Span)) rfl rfl rfl rfl rfl esz_58 eby_58 zk_66 rfl rfl rfl (SrcOf.srMap (k := 0) rfl isl_58) hh6 lt0 ?_)
   intro b7
   refine VO.cons rfl (V1.assign rfl rfl rfl lt0 ?_)
   refine VO.nil ?_
   refine V.keep 89 [0, 1, 5, 7, 9] [0, 2] (E0 := [(0, .ref bp 3 0 0), (1, .str text), (5, .sref b7 3 0 (List.length (out_0 ++ ([(⟨y3, y5, y6.1⟩ : Span)] : List Span)))), (7, .int .i64 n_), (9, .int .i64 y5)]) (H0 := [(b7, ⟨3, List.map encSpan (out_0 ++ ([(⟨y3, y5, y6.1⟩ : Span)] : List Span))⟩), (bp, ⟨3, [encCur ρ0 y6.2]⟩)]) rfl (⟨_, _, rfl, rfl, _, _, rfl, rfl, _, _, rfl, rfl, _, _, rfl, rfl, _, _, rfl, rfl, rfl⟩) (⟨_, _, rfl, rfl, _, _, rfl, rfl, rfl⟩) rfl ?_
   refine V.region ?_
   refine VO.cons rfl (V1.move rfl rfl rfl lt0 ?_)
   refine VO.cons rfl (V1.assign rfl rfl rfl lt0 ?_)
   refine VO.nil ?_
   refine V.region ?_
   refine VO.cons rfl (V1.move rfl rfl rfl lt0 ?_)
   refine VO.cons rfl (V1.int rfl rfl rfl rfl rfl lt0 ?_)
   refine VO.cons rfl (V1.assign rfl rfl rfl lt0 ?_)
   refine VO.nil ?_
   exact ⟨(m0, ((out_0 ++ ([(⟨y3, y5, y6.1⟩ : Span)] : List Span)), y5, (IntKind.i64.wrap (n_ - (1 : Int))), y6.2), b7), hl1 _ (Option.some.inj hm1).symm, Nat.lt_succ_self _, Keeps.mk (ks := [0, 1]) rfl ⟨rfl, rfl, rfl, rfl, rfl, trivial⟩ (⟨_, _, rfl, rfl, _, _, rfl, rfl, rfl⟩) rfl⟩
  ·
   replace hm1 := cond_f hc0 hm1
   refine V.exit ?_
   obtain rfl := hr1 _ (Option.some.inj hm1).symm
   exact ⟨((out_0, at_0, c_0), b2), rfl, Keeps.mk (ks := [0, 1]) rfl ⟨rfl, rfl, rfl, trivial⟩ (⟨_, _, rfl, rfl, _, _, rfl, rfl, rfl⟩) rfl⟩
 ·
  rintro ⟨⟨out_, at_, c_⟩, b1⟩ rfl
  try dsimp only at hm0
  refine V.seq ?_
  refine V.seq ?_
  replace hm0 := bindO hm0; rcases hm0 with ⟨y7, hh7, hm0⟩
  refine V.region ?_
  refine VO.cons rfl (V1.move rfl rfl rfl lt0 ?_)
  refine VO.cons rfl (V1.callM 1 (rn + ρ0 + 1) [] [.ref bp 3 0 0, .int .i64 (40 : Int)] (p := (bp, ⟨3, [encCur ρ0 c_]⟩)) rfl rfl rfl cok_84 rfl rfl ⟨_, _, rfl, .same _, ⟨_, _, rfl, .same _, rfl⟩⟩ bwNil (ok_spec_l1Cur_pick hh7) rfl (.inl rfl) lt0 ?_)
  rintro _ _ ⟨rfl, rfl⟩
  refine VO.nil ?_
  replace hm0 := bindO hm0; rcases hm0 with ⟨j0, hm1, hm0⟩
  refine V.cutT (D := (List Span × Cur) × (Nat)) (fun ⟨⟨out_1, c_1⟩, b8⟩ => ⟨89, [(5, .sref b8 3 0 (List.length out_1))], [(b8, ⟨3, List.map encSpan out_1⟩), (bp, ⟨3, [encCur ρ0 c_1]⟩)]⟩) (fun ⟨⟨out_1, c_1⟩, b8⟩ => ((out_1, c_1) = j0)) ?_ ?_
  ·
   refine V.block ?_
   refine V.seq ?_
   refine V.region ?_
   refine VO.cons rfl (V1.int rfl rfl rfl rfl rfl lt0 ?_)
   refine VO.cons rfl (V1.assign rfl rfl rfl lt0 ?_)
   refine VO.nil ?_
   refine V.cond rfl (fun hc1 => ?_) (fun hc1 => ?_)
   ·
    replace hm1 := cond_t hc1 hm1
    replace hm1 := bindO hm1; rcases hm1 with ⟨y8, hh8, hm1⟩
    replace hm1 := bindO hm1; rcases hm1 with ⟨y9, hh9, hm1⟩
    replace hm1 := bindO hm1; rcases hm1 with ⟨y10, hh10, hm1⟩
    replace hm1 := asrt_some hm1; rcases hm1 with ⟨hh11, hm1⟩
    refine V.region ?_
    refine VO.cons rfl (V1.move rfl rfl rfl lt0 ?_)
    refine VO.cons rfl (V1.move rfl rfl rfl lt0 ?_)
    refine VO.cons rfl (V1.move rfl rfl rfl lt0 ?_)
    refine VO.cons rfl (V1.buildSliceT (f := encInt) ([(-1 : Int), (0 : Int), at_] : List Int) rfl rfl esz_27 zk_3 rfl rfl rfl rfl rfl rfl rfl lt0 ?_)
    intro b9
    refine VO.cons rfl (V1.callM 1 (rn + ρ0 + 1) [b9] [.ref bp 3 0 0, .vl (rn + ρ0 + 1) 1 (List.map encInt ([(-1 : Int), (0 : Int), at_] : List Int))] (p := (bp, ⟨3, [encCur ρ0 y7.2]⟩)) rfl rfl rfl cok_69 rfl rfl ⟨_, _, rfl, .same _, ⟨_, _, rfl, Lend.srMap 0 rfl (fun _ => rfl) (.head _), rfl⟩⟩ (bwCons (k := 0) rfl bwNil) (ok_spec_l1Cur_among hh8) rfl (.inr ⟨(by first | omega | (dsimp only; omega)), by rintro _ _ ⟨rfl, rfl⟩; exact ⟨by simp [PV.no, PV.noL, optS_no, noL_iff, nbeq] <;> omega, by intro b ob h; first | exact optH_no (noL_map (fun _ => by simp [PV.no, PV.noL, noL_iff, nbeq]) _) b ob h | (simp only [List.append_assoc, List.mem_append, List.mem_cons, List.mem_singleton, List.not_mem_nil, or_false, Prod.mk.injEq] at h; rcases h with ⟨rfl, rfl⟩ | ⟨rfl, rfl⟩ <;> first | exact noL_map (fun _ => by simp [PV.no, PV.noL, noL_iff, nbeq]) _ | (simp [PV.no, PV.noL, optS_no, noL_iff, nbeq] <;> omega)) | (simp at h; obtain ⟨rfl, rfl⟩ := h; exact noL_map (fun _ => by simp [PV.no, PV.noL, noL_iff, nbeq]) _) | (simp at h; obtain ⟨rfl, rfl⟩ := h; simp [PV.no, PV.noL, optS_no, noL_iff, nbeq] <;> omega)⟩⟩) lt0 ?_)
    rintro _ _ ⟨rfl, rfl⟩
    refine VO.cons rfl (V1.move rfl rfl rfl lt0 ?_)
    refine VO.cons rfl (V1.move rfl rfl rfl lt0 ?_)
    refine VO.cons rfl (V1.int rfl rfl rfl rfl rfl lt0 ?_)
    refine VO.cons rfl (V1.buildSliceT (f := encInt) ([(0 : Int), (1 : Int), (IntKind.i64.wrap (at_ + (1 : Int))), (101 : Int)] : List Int) rfl rfl esz_27 zk_3 rfl rfl rfl rfl rfl rfl rfl lt0 ?_)
    intro b10
    refine VO.cons rfl (V1.callM 1 (rn + ρ0 + 1) [b10] [.ref bp 3 0 0, .vl (rn + ρ0 + 1) 1 (List.map encInt ([(0 : Int), (1 : Int), (IntKind.i64.wrap (at_ + (1 : Int))), (101 : Int)] : List Int))] (p := (bp, ⟨3, [encCur ρ0 y8.2]⟩)) rfl rfl rfl cok_69 rfl rfl ⟨_, _, rfl, .same _, ⟨_, _, rfl, Lend.srMap 0 rfl (fun _ => rfl) (.head _), rfl⟩⟩ (bwCons (k := 0) rfl bwNil) (ok_spec_l1Cur_among hh9) rfl (.inr ⟨(by first | omega | (dsimp only; omega)), by rintro _ _ ⟨rfl, rfl⟩; exact ⟨by simp [PV.no, PV.noL, optS_no, noL_iff, nbeq] <;> omega, by intro b ob h; first | exact optH_no (noL_map (fun _ => by simp [PV.no, PV.noL, noL_iff, nbeq]) _) b ob h | (simp only [List.append_assoc, List.mem_append, List.mem_cons, List.mem_singleton, List.not_mem_nil, or_false, Prod.mk.injEq] at h; rcases h with ⟨rfl, rfl⟩ | ⟨rfl, rfl⟩ <;> first | exact noL_map (fun _ => by simp [PV.no, PV.noL, noL_iff, nbeq]) _ | (simp [PV.no, PV.noL, optS_no, noL_iff, nbeq] <;> omega)) | (simp at h; obtain ⟨rfl, rfl⟩ := h; exact noL_map (fun _ => by simp [PV.no, PV.noL, noL_iff, nbeq]) _) | (simp at h; obtain ⟨rfl, rfl⟩ := h; simp [PV.no, PV.noL, optS_no, noL_iff, nbeq] <;> omega)⟩⟩) lt0 ?_)
    rintro _ _ ⟨rfl, rfl⟩
    refine VO.cons rfl (V1.move rfl rfl rfl lt0 ?_)
    refine VO.cons rfl (V1.buildSliceT (f := encInt) ([(0 : Int), (1 : Int), (10 : Int)] : List Int) rfl rfl esz_27 zk_3 rfl rfl rfl rfl rfl rfl rfl lt0 ?_)
    intro b11
    refine VO.cons rfl (V1.callM 1 (rn + ρ0 + 1) [b11] [.ref bp 3 0 0, .vl (rn + ρ0 + 1) 1 (List.map encInt ([(0 : Int), (1 : Int), (10 : Int)] : List Int))] (p := (bp, ⟨3, [encCur ρ0 y9.2]⟩)) rfl rfl rfl cok_69 rfl rfl ⟨_, _, rfl, .same _, ⟨_, _, rfl, Lend.srMap 0 rfl (fun _ => rfl) (.head _), rfl⟩⟩ (bwCons (k := 0) rfl bwNil) (ok_spec_l1Cur_among hh10) rfl (.inr ⟨(by first | omega | (dsimp only; omega)), by rintro _ _ ⟨rfl, rfl⟩; exact ⟨by simp [PV.no, PV.noL, optS_no, noL_iff, nbeq] <;> omega, by intro b ob h; first | exact optH_no (noL_map (fun _ => by simp [PV.no, PV.noL, noL_iff, nbeq]) _) b ob h | (simp only [List.append_assoc, List.mem_append, List.mem_cons, List.mem_singleton, List.not_mem_nil, or_false, Prod.mk.injEq] at h; rcases h with ⟨rfl, rfl⟩ | ⟨rfl, rfl⟩ <;> first | exact noL_map (fun _ => by simp [PV.no, PV.noL, noL_iff, nbeq]) _ | (simp [PV.no, PV.noL, optS_no, noL_iff, nbeq] <;> omega)) | (simp at h; obtain ⟨rfl, rfl⟩ := h; exact noL_map (fun _ => by simp [PV.no, PV.noL, noL_iff, nbeq]) _) | (simp at h; obtain ⟨rfl, rfl⟩ := h; simp [PV.no, PV.noL, optS_no, noL_iff, nbeq] <;> omega)⟩⟩) lt0 ?_)
    rintro _ _ ⟨rfl, rfl⟩
    refine VO.cons rfl (V1.build rfl rfl zk_66 pl_66 rfl rfl lt0 ?_)
    refine VO.cons rfl (V1.buildSliceT (f := encSpan) ([(⟨y8.1, y9.1, y10.1⟩ : Span)] : List Span) rfl rfl esz_58 zk_66 rfl rfl rfl rfl rfl rfl rfl lt0 ?_)
    intro b12
    refine VO.cons rfl (V1.appendMap (k := 5) (f := encSpan) (l := out_) (m := ([(⟨y8.1, y9.1, y10.1⟩ : Span)] : List Span)) rfl rfl rfl rfl rfl esz_58 eby_58 zk_66 rfl rfl rfl (SrcOf.srMap (k := 0) rfl isl_58) hh11 lt0 ?_)
    intro b13
    refine VO.cons rfl (V1.assign rfl rfl rfl lt0 ?_)
    refine VO.nil ?_
    exact ⟨(((out_ ++ ([(⟨y8.1, y9.1, y10.1⟩ : Span)] : List Span)), y10.2), b13), Option.some.inj hm1, Keeps.mk (ks := [0, 2]) rfl ⟨rfl, trivial⟩ (⟨_, _, rfl, rfl, _, _, rfl, rfl, rfl⟩) rfl⟩
   ·
    replace hm1 := cond_f hc1 hm1
    refine V.seq ?_
    refine V.region ?_
    refine VO.cons rfl (V1.int rfl rfl rfl rfl rfl lt0 ?_)
    refine VO.cons rfl (V1.assign rfl rfl rfl lt0 ?_)
    refine VO.nil ?_
    refine V.keep 89 [0, 5, 70] [0, 1] (E0 := [(0, .ref bp 3 0 0), (5, .sref b1 3 0 (List.length out_)), (70, .bool (y7.1 == (1 : Int)))]) (H0 := [(bp, ⟨3, [encCur ρ0 y7.2]⟩), (b1, ⟨3, List.map encSpan out_⟩)]) rfl (⟨_, _, rfl, rfl, _, _, rfl, rfl, _, _, rfl, rfl, rfl⟩) (⟨_, _, rfl, rfl, _, _, rfl, rfl, rfl⟩) rfl ?_
    refine V.cond rfl (fun hc2 => ?_) (fun hc2 => ?_)
    ·
     replace hm1 := cond_t hc2 hm1
     refine V.seq ?_
     refine V.region ?_
     refine VO.cons rfl (V1.buildSliceT (f := encSpan) ([] : List Span) rfl rfl esz_58 zk_66 rfl rfl rfl rfl rfl rfl rfl lt0 ?_)
     intro b14
     refine VO.cons rfl (V1.assign rfl rfl rfl lt0 ?_)
     refine VO.nil ?_
     replace hm1 := bindO hm1; rcases hm1 with ⟨e1, he2, hm1⟩
     refine V.cutT (D := (List Span × Cur) × (Nat)) (fun ⟨⟨out_2, c_2⟩, b15⟩ => ⟨89, [(5, .sref b15 3 0 (List.length out_2))], [(b15, ⟨3, List.map encSpan out_2⟩), (bp, ⟨3, [encCur ρ0 c_2]⟩)]⟩) (fun ⟨⟨out_2, c_2⟩, b15⟩ => ((out_2, c_2) = e1)) ?_ ?_
     ·
      refine V.block ?_
      refine V.keep 89 [5, 0] [0, 1] (E0 := [(5, .sref b14 3 0 (List.length ([] : List Span))), (0, .ref bp 3 0 0)]) (H0 := [(b14, ⟨3, List.map encSpan ([] : List Span)⟩), (bp, ⟨3, [encCur ρ0 y7.2]⟩)]) rfl (⟨_, _, rfl, rfl, _, _, rfl, rfl, rfl⟩) (⟨_, _, rfl, rfl, _, _, rfl, rfl, rfl⟩) rfl ?_
      refine V.loopE (D := Nat × (List Span × Cur) × (Nat)) (fun ⟨n1, ⟨out_3, c_3⟩, b16⟩ => [(5, .sref b16 3 0 (List.length out_3))]) (fun ⟨n1, ⟨out_3, c_3⟩, b16⟩ => [(b16, ⟨3, List.map encSpan out_3⟩), (bp, ⟨3, [encCur ρ0 c_3]⟩)]) (fun ⟨n1, ⟨out_3, c_3⟩, b16⟩ => loopO (M.spec_l1Cur_spans_l1) n1 (out_3, c_3) = some e1) (fun ⟨n1, _, _⟩ => n1) (rounds, (([] : List Span), y7.2), b14) rfl he2 ?_
      rintro ⟨n1, ⟨out_3, c_3⟩, b16⟩ hP1
      obtain ⟨m1, y11, rfl, hm2, hl2, hr2⟩ := loop_head hP1
      unfold M.spec_l1Cur_spans_l1 at hm2; dsimp only at hm2
      show V _ _ _ ⟨89, [(5, .sref b16 3 0 (List.length out_3)), (0, .ref bp 3 0 0)], [(b16, ⟨3, List.map encSpan out_3⟩), (bp, ⟨3, [encCur ρ0 c_3]⟩)]⟩
      refine V.seq ?_
      refine V.seq ?_
      replace hm2 := bindO hm2; rcases hm2 with ⟨y12, hh12, hm2⟩
      refine V.region ?_
      refine VO.cons rfl (V1.move rfl rfl rfl lt0 ?_)
      refine VO.cons rfl (V1.lenSref rfl rfl rfl rfl rfl rfl isl_58 lt0 ?_)
      refine VO.cons rfl (V1.move rfl rfl rfl lt0 ?_)
      refine VO.cons rfl (V1.callM 1 (rn + ρ0 + 1) [] [.ref bp 3 0 0, .int .i64 (2 : Int)] (p := (bp, ⟨3, [encCur ρ0 c_3]⟩)) rfl rfl rfl cok_84 rfl rfl ⟨_, _, rfl, .same _, ⟨_, _, rfl, .same _, rfl⟩⟩ bwNil (ok_spec_l1Cur_pick hh12) rfl (.inl rfl) lt0 ?_)
      rintro _ _ ⟨rfl, rfl⟩
      refine VO.cons rfl (V1.int rfl rfl rfl rfl rfl lt0 ?_)
      refine VO.cons rfl (V1.int rfl rfl rfl rfl rfl lt0 ?_)
      refine VO.nil ?_
      refine V.keep 89 [0, 5, 78] [0, 1] (E0 := [(0, .ref bp 3 0 0), (5, .sref b16 3 0 (List.length out_3)), (78, .bool (decide ((out_3.length : Int) < (IntKind.i64.wrap ((8 : Int) + y12.1)))))]) (H0 := [(bp, ⟨3, [encCur ρ0 y12.2]⟩), (b16, ⟨3, List.map encSpan out_3⟩)]) rfl (⟨_, _, rfl, rfl, _, _, rfl, rfl, _, _, rfl, rfl, rfl⟩) (⟨_, _, rfl, rfl, _, _, rfl, rfl, rfl⟩) rfl ?_
      refine V.cond rfl (fun hc3 => ?_) (fun hc3 => ?_)
      ·
       replace hm2 := cond_t hc3 hm2
       refine V.skip ?_
       refine V.block ?_
       replace hm2 := asrt_some hm2; rcases hm2 with ⟨hh13, hm2⟩
       refine V.region ?_
       refine VO.cons rfl (V1.move rfl rfl rfl lt0 ?_)
       refine VO.cons rfl (V1.move rfl rfl rfl lt0 ?_)
       refine VO.cons rfl (V1.lenSref rfl rfl rfl rfl rfl rfl isl_58 lt0 ?_)
       refine VO.cons rfl (V1.move rfl rfl rfl lt0 ?_)
       refine VO.cons rfl (V1.lenSref rfl rfl rfl rfl rfl rfl isl_58 lt0 ?_)
       refine VO.cons rfl (V1.int rfl rfl rfl rfl rfl lt0 ?_)
       refine VO.cons rfl (V1.build rfl rfl zk_66 pl_66 rfl rfl lt0 ?_)
       refine VO.cons rfl (V1.buildSliceT (f := encSpan) ([(⟨(out_3.length : Int), (IntKind.i64.wrap ((out_3.length : Int) + (1 : Int))), (1 : Int)⟩ : Span)] : List Span) rfl rfl esz_58 zk_66 rfl rfl rfl rfl rfl rfl rfl lt0 ?_)
       intro b17
       refine VO.cons rfl (V1.appendMap (k := 2) (f := encSpan) (l := out_3) (m := ([(⟨(out_3.length : Int), (IntKind.i64.wrap ((out_3.length : Int) + (1 : Int))), (1 : Int)⟩ : Span)] : List Span)) rfl rfl rfl rfl rfl esz_58 eby_58 zk_66 rfl rfl rfl (SrcOf.srMap (k := 0) rfl isl_58) hh13 lt0 ?_)
       intro b18
       refine VO.cons rfl (V1.assign rfl rfl rfl lt0 ?_)
       refine VO.nil ?_
       exact ⟨(m1, ((out_3 ++ ([(⟨(out_3.length : Int), (IntKind.i64.wrap ((out_3.length : Int) + (1 : Int))), (1 : Int)⟩ : Span)] : List Span)), y12.2), b18), hl2 _ (Option.some.inj hm2).symm, Nat.lt_succ_self _, Keeps.mk (ks := [0, 2]) rfl ⟨rfl, rfl, trivial⟩ (⟨_, _, rfl, rfl, _, _, rfl, rfl, rfl⟩) rfl⟩
      ·
       replace hm2 := cond_f hc3 hm2
       refine V.exit ?_
       obtain rfl := hr2 _ (Option.some.inj hm2).symm
       exact ⟨((out_3, y12.2), b16), rfl, Keeps.mk (ks := [1, 0]) rfl ⟨rfl, trivial⟩ (⟨_, _, rfl, rfl, _, _, rfl, rfl, rfl⟩) rfl⟩
     ·
      rintro ⟨⟨out_2, c_2⟩, b15⟩ rfl
      try dsimp only at hm1
      exact ⟨((out_2, c_2), b15), Option.some.inj hm1, Keeps.mk (ks := [0, 1]) rfl ⟨rfl, trivial⟩ (⟨_, _, rfl, rfl, _, _, rfl, rfl, rfl⟩) rfl⟩
    ·
     replace hm1 := cond_f hc2 hm1
     refine V.skip ?_
     exact ⟨((out_, y7.2), b1), Option.some.inj hm1, Keeps.mk (ks := [1, 0]) rfl ⟨rfl, trivial⟩ (⟨_, _, rfl, rfl, _, _, rfl, rfl, rfl⟩) rfl⟩
  ·
   rintro ⟨⟨out_1, c_1⟩, b8⟩ rfl
   try dsimp only at hm0
   refine V.seq ?_
   refine V.region ?_
   refine VO.cons rfl (V1.move rfl rfl rfl lt0 ?_)
   refine VO.cons rfl (V1.assign rfl rfl rfl lt0 ?_)
   refine VO.nil ?_
   refine V.keep 89 [4] [0, 1] (E0 := [(4, .sref b8 3 0 (List.length out_1))]) (H0 := [(b8, ⟨3, List.map encSpan out_1⟩), (bp, ⟨3, [encCur ρ0 c_1]⟩)]) rfl (⟨_, _, rfl, rfl, rfl⟩) (⟨_, _, rfl, rfl, _, _, rfl, rfl, rfl⟩) rfl ?_
   refine V.ret ?_
   obtain rfl := Option.some.inj hm0
   exact ⟨_, _, ⟨_, _, rfl, rfl, rfl⟩, List.Sublist.refl _, b8, rfl, rfl⟩

theorem ok_spec_l1Cur_wordOf {ρ0 rn bp : Nat} {c : Cur} {r : List UInt8 × Cur} (h : M.spec_l1Cur_wordOf c = some r) : Does Tryd.prog 92 [.ref bp 3 0 0] [(bp, ⟨3, [encCur ρ0 c]⟩)] rn (fun x H => x = .str r.1 ∧ H = [(bp, ⟨3, [encCur ρ0 r.2]⟩)]) := by
 have hm0 := h; clear h; unfold M.spec_l1Cur_wordOf at hm0
 try dsimp only at hm0
 refine Does.intro (N := 6) Tryd.func92 rfl rfl rfl rfl ?_
 intro w0 S0 L0
 refine V.seq ?_
 refine V.region ?_
 refine VO.cons rfl (V1.assign rfl rfl rfl lt0 ?_)
 refine VO.nil ?_
 refine V.seq ?_
 replace hm0 := bindO hm0; rcases hm0 with ⟨y0, hh0, hm0⟩
 refine V.region ?_
 refine VO.cons rfl (V1.move rfl rfl rfl lt0 ?_)
 refine VO.cons rfl (V1.buildSliceT (f := Go.VS.encStr) ([[97, 110, 110, 97], [97, 110, 110, 97], [98, 111], [97], [99, 111, 117, 114, 116], [97, 110, 110], [122, 111, 111], [], [65]] : List (List UInt8)) rfl rfl esz_93 zk_9 rfl rfl rfl rfl rfl rfl rfl lt0 ?_)
 intro b0
 refine VO.cons rfl (V1.callM 1 (rn + ρ0 + 1) [b0] [.ref bp 3 0 0, .vl (rn + ρ0 + 1) 1 (List.map Go.VS.encStr ([[97, 110, 110, 97], [97, 110, 110, 97], [98, 111], [97], [99, 111, 117, 114, 116], [97, 110, 110], [122, 111, 111], [], [65]] : List (List UInt8)))] (p := (bp, ⟨3, [encCur ρ0 c]⟩)) rfl rfl rfl cok_70 rfl rfl ⟨_, _, rfl, .same _, ⟨_, _, rfl, Lend.srMap 0 rfl (fun _ => rfl) (.head _), rfl⟩⟩ (bwCons (k := 0) rfl bwNil) (ok_spec_l1Cur_of hh0) rfl (.inr ⟨(by first | omega | (dsimp only; omega)), by rintro _ _ ⟨rfl, rfl⟩; exact ⟨by simp [PV.no, PV.noL, optS_no, noL_iff, nbeq] <;> omega, by intro b ob h; first | exact optH_no (noL_map (fun _ => by simp [PV.no, PV.noL, noL_iff, nbeq]) _) b ob h | (simp only [List.append_assoc, List.mem_append, List.mem_cons, List.mem_singleton, List.not_mem_nil, or_false, Prod.mk.injEq] at h; rcases h with ⟨rfl, rfl⟩ | ⟨rfl, rfl⟩ <;> first | exact noL_map (fun _ => by simp [PV.no, PV.noL, noL_iff, nbeq]) _ | (simp [PV.no, PV.noL, optS_no, noL_iff, nbeq] <;> omega)) | (simp at h; obtain ⟨rfl, rfl⟩ := h; exact noL_map (fun _ => by simp [PV.no, PV.noL, noL_iff, nbeq]) _) | (simp at h; obtain ⟨rfl, rfl⟩ := h; simp [PV.no, PV.noL, optS_no, noL_iff, nbeq] <;> omega)⟩⟩) lt0 ?_)
 rintro _ _ ⟨rfl, rfl⟩
 refine VO.cons rfl (V1.assign rfl rfl rfl lt0 ?_)
 refine VO.nil ?_
 refine V.ret ?_
 obtain rfl := Option.some.inj hm0
 exact ⟨_, _, ⟨_, _, rfl, rfl, rfl⟩, (sub1 (k := 0) rfl), rfl, rfl⟩

theorem ok_spec_DrawHideWord {ρ0 rn : Nat} {code : List Int} {r : List UInt8 × List Span × List UInt8 × Int} (h : M.spec_DrawHideWord code = some r) : Does Tryd.prog 36 [.vl ρ0 1 (List.map encU8 code)] [] rn (fun x H => ∃ (ob1_ : Nat), x = .tup [.str r.1, PV.sref ob1_ 3 0 (List.length r.2.1), .str r.2.2.1, .int .i64 r.2.2.2] ∧ H = [(ob1_, ⟨3, List.map encSpan r.2.1⟩)]) := by
 have hm0 := h; clear h; unfold M.spec_DrawHideWord at hm0
 try dsimp only at hm0
 refine Does.intro (N := 22) Tryd.func36 rfl rfl rfl rfl ?_
 intro w0 S0 L0
 refine V.seq ?_
 refine V.region ?_
 refine VO.cons rfl (V1.assign rfl rfl rfl lt0 ?_)
 refine VO.cons rfl (V1.assign rfl rfl rfl lt0 ?_)
 refine VO.cons rfl (V1.assign rfl rfl rfl lt0 ?_)
 refine VO.cons rfl (V1.assign rfl rfl rfl lt0 ?_)
 refine VO.nil ?_
 refine V.keep 22 [0] [] (E0 := [(0, .vl ρ0 1 (List.map encU8 code))]) (H0 := []) rfl (⟨_, _, rfl, rfl, rfl⟩) (rfl) rfl ?_
 refine V.seq ?_
 refine V.region ?_
 refine VO.cons rfl (V1.move rfl rfl rfl lt0 ?_)
 refine VO.cons rfl (V1.build rfl rfl zk_77 pl_77 rfl rfl lt0 ?_)
 refine VO.cons rfl (V1.boxN (n := 3) rfl rfl rfl rfl rfl lt0 ?_)
 intro b0
 refine VO.cons rfl (V1.assign rfl rfl rfl lt0 ?_)
 refine VO.nil ?_
 refine V.keep 22 [6] [0] (E0 := [(6, .ref b0 3 0 0)]) (H0 := [(b0, ⟨3, [.agg [.vl ρ0 1 (List.map encU8 code), .int .i64 (0 : Int), .int .u64 (0 : Int)]]⟩)]) rfl (⟨_, _, rfl, rfl, rfl⟩) (⟨_, _, rfl, rfl, rfl⟩) rfl ?_
 refine V.seq ?_
 replace hm0 := bindO hm0; rcases hm0 with ⟨y0, hh0, hm0⟩
 refine V.region ?_
 refine VO.cons rfl (V1.move rfl rfl rfl lt0 ?_)
 refine VO.cons rfl (V1.callM 0 (rn + ρ0 + 1) [] [.ref b0 3 0 0] (p := (b0, ⟨3, [.agg [.vl ρ0 1 (List.map encU8 code), .int .i64 (0 : Int), .int .u64 (0 : Int)]]⟩)) rfl rfl rfl cok_90 rfl rfl ⟨_, _, rfl, .same _, rfl⟩ bwNil (ok_spec_l1Cur_text hh0) rfl (.inl rfl) lt0 ?_)
 rintro _ _ ⟨rfl, rfl⟩
 refine VO.cons rfl (V1.assign rfl rfl rfl lt0 ?_)
 refine VO.nil ?_
 refine V.seq ?_
 replace hm0 := bindO hm0; rcases hm0 with ⟨y1, hh1, hm0⟩
 replace hm0 := bindO hm0; rcases hm0 with ⟨y2, hh2, hm0⟩
 replace hm0 := bindO hm0; rcases hm0 with ⟨y3, hh3, hm0⟩
 refine V.region ?_
 refine VO.cons rfl (V1.move rfl rfl rfl lt0 ?_)
 refine VO.cons rfl (V1.move rfl rfl rfl lt0 ?_)
 refine VO.cons rfl (V1.move rfl rfl rfl lt0 ?_)
 refine VO.cons rfl (V1.callM 0 (rn + ρ0 + 1) [] [.ref b0 3 0 0, .str y0.1] (p := (b0, ⟨3, [encCur ρ0 y0.2]⟩)) rfl rfl rfl cok_91 rfl rfl ⟨_, _, rfl, .same _, ⟨_, _, rfl, .same _, rfl⟩⟩ bwNil (ok_spec_l1Cur_spans hh1) rfl (.inl rfl) lt0 ?_)
 rintro _ _ ⟨b1, rfl, rfl⟩
 refine VO.cons rfl (V1.move rfl rfl rfl lt0 ?_)
 refine VO.cons rfl (V1.callM 1 (rn + ρ0 + 1) [] [.ref b0 3 0 0] (p := (b0, ⟨3, [encCur ρ0 y1.2]⟩)) rfl rfl rfl cok_92 rfl rfl ⟨_, _, rfl, .same _, rfl⟩ bwNil (ok_spec_l1Cur_wordOf hh2) rfl (.inl rfl) lt0 ?_)
 rintro _ _ ⟨rfl, rfl⟩
 refine VO.cons rfl (V1.move rfl rfl rfl lt0 ?_)
 refine VO.cons rfl (V1.buildSliceT (f := encInt) ([(1 : Int), (2 : Int), (9 : Int), (0 : Int), (10 : Int), (3 : Int), (4 : Int)] : List Int) rfl rfl esz_27 zk_3 rfl rfl rfl rfl rfl rfl rfl lt0 ?_)
 intro b2
 refine VO.cons rfl (V1.callM 1 (rn + ρ0 + 1) [b2] [.ref b0 3 0 0, .vl (rn + ρ0 + 1) 1 (List.map encInt ([(1 : Int), (2 : Int), (9 : Int), (0 : Int), (10 : Int), (3 : Int), (4 : Int)] : List Int))] (p := (b0, ⟨3, [encCur ρ0 y2.2]⟩)) rfl rfl rfl cok_69 rfl rfl ⟨_, _, rfl, .same _, ⟨_, _, rfl, Lend.srMap 0 rfl (fun _ => rfl) (.head _), rfl⟩⟩ (bwCons (k := 0) rfl bwNil) (ok_spec_l1Cur_among hh3) rfl (.inr ⟨(by first | omega | (dsimp only; omega)), by rintro _ _ ⟨rfl, rfl⟩; exact ⟨by simp [PV.no, PV.noL, optS_no, noL_iff, nbeq] <;> omega, by intro b ob h; first | exact optH_no (noL_map (fun _ => by simp [PV.no, PV.noL, noL_iff, nbeq]) _) b ob h | (simp only [List.append_assoc, List.mem_append, List.mem_cons, List.mem_singleton, List.not_mem_nil, or_false, Prod.mk.injEq] at h; rcases h with ⟨rfl, rfl⟩ | ⟨rfl, rfl⟩ <;> first | exact noL_map (fun _ => by simp [PV.no, PV.noL, noL_iff, nbeq]) _ | (simp [PV.no, PV.noL, optS_no, noL_iff, nbeq] <;> omega)) | (simp at h; obtain ⟨rfl, rfl⟩ := h; exact noL_map (fun _ => by simp [PV.no, PV.noL, noL_iff, nbeq]) _) | (simp at h; obtain ⟨rfl, rfl⟩ := h; simp [PV.no, PV.noL, optS_no, noL_iff, nbeq] <;> omega)⟩⟩) lt0 ?_)
 rintro _ _ ⟨rfl, rfl⟩
 refine VO.cons rfl (V1.assign rfl rfl rfl lt0 ?_)
 refine VO.cons rfl (V1.assign rfl rfl rfl lt0 ?_)
 refine VO.cons rfl (V1.assign rfl rfl rfl lt0 ?_)
 refine VO.cons rfl (V1.assign rfl rfl rfl lt0 ?_)
 refine VO.nil ?_
 refine V.keep 22 [2, 3, 4, 5] [2] (E0 := [(2, .str y0.1), (3, .sref b1 3 0 (List.length y1.1)), (4, .str y2.1), (5, .int .i64 y3.1)]) (H0 := [(b1, ⟨3, List.map encSpan y1.1⟩)]) rfl (⟨_, _, rfl, rfl, _, _, rfl, rfl, _, _, rfl, rfl, _, _, rfl, rfl, rfl⟩) (⟨_, _, rfl, rfl, rfl⟩) rfl ?_
 refine V.ret ?_
 obtain rfl := Option.some.inj hm0
 exact ⟨_, _, ⟨_, _, rfl, rfl, _, _, rfl, rfl, _, _, rfl, rfl, _, _, rfl, rfl, rfl⟩, List.Sublist.refl _, b1, rfl, rfl⟩

theorem ok_strings_Trim {rn : Nat} {s cutset r : List UInt8} (h : M.strings_Trim s cutset = some r) : Does Tryd.prog 110 [.str s, .str cutset] [] rn (fun x H => x = .str r ∧ H = []) := by
 unfold M.strings_Trim at h
 obtain ⟨⟨h1, h2, h3⟩, h⟩ := asrt_some h
 obtain rfl := Option.some.inj h; clear h
 refine Does.ofBelow (vs := [.string ⟨s.toArray⟩, .string ⟨cutset.toArray⟩]) (v := .string ⟨(Go.Lib.trimS s cutset).toArray⟩) (fun w S us hr => ?_) (fun w S => rep_str) (fun w => ?_)
 · obtain ⟨us1, rfl, hr1⟩ := reps_str hr
   obtain ⟨us2, rfl, hr2⟩ := reps_str hr1
   rw [Reps.nil_iff.1 hr2]
 · exact Go.Proofs.Any.strings_Trim_laid Go.Proofs.Tryd.lays160 (by kernel_rfl) ⟨s.toArray⟩ ⟨cutset.toArray⟩ w (by simpa [ByteArray.size] using h1) (by simpa [ByteArray.size] using h2) (ascii_all h3)

theorem ok_impl_IsText {rn : Nat} {text : List UInt8} {r : Bool} (h : M.impl_IsText text = some r) : Does Tryd.prog 48 [.str text] [] rn (fun x H => x = .bool r ∧ H = []) := by
 have hm0 := h; clear h; unfold M.impl_IsText at hm0
 try dsimp only at hm0
 refine Does.intro (N := 11) Tryd.func48 rfl rfl rfl rfl ?_
 intro w0 S0 L0
 refine V.seq ?_
 refine V.region ?_
 refine VO.cons rfl (V1.assign rfl rfl rfl lt0 ?_)
 refine VO.nil ?_
 refine V.seq ?_
 replace hm0 := bindO hm0; rcases hm0 with ⟨y0, hh0, hm0⟩
 refine V.region ?_
 refine VO.cons rfl (V1.move rfl rfl rfl lt0 ?_)
 refine VO.cons rfl (V1.lenStr rfl rfl rfl rfl rfl rfl istr_9 lt0 ?_)
 refine VO.cons rfl (V1.int rfl rfl rfl rfl rfl lt0 ?_)
 refine VO.cons rfl (V1.move rfl rfl rfl lt0 ?_)
 apply VO.and (n := 3) rfl rfl rfl rfl rfl rfl lt0 (.none rfl)
 ·
  intro hg0
  refine VO.step (.some rfl rfl rfl) (V1.move rfl rfl rfl lt0 ?_)
  refine VO.step (.some rfl rfl rfl) (V1.call rfl rfl rfl cok_110 rfl (ok_strings_Trim (cond_t hg0 hh0)) rfl lt0 ?_)
  rintro _ _ ⟨rfl, rfl⟩
  refine VO.step (.some rfl rfl rfl) (V1.str rfl rfl rfl rfl rfl lt0 ?_)
  exact VO.nil ⟨rfl, rfl, rfl, rfl, .inr ⟨rfl, .inr ⟨rfl, .inr ⟨rfl, .inr ⟨rfl, .inl rfl⟩⟩⟩⟩⟩
 refine VO.cons rfl (V1.assign rfl rfl rfl lt0 ?_)
 refine VO.nil ?_
 refine V.ret ?_
 obtain rfl := Option.some.inj hm0
 exact ⟨_, [], ⟨_, _, rfl, rfl, rfl⟩, List.nil_sublist _, rfl, rfl⟩

theorem ok_impl_within {rn : Nat} {n : Int} {low : Int} {high : Int} {r : Bool} (h : M.impl_within n low high = some r) : Does Tryd.prog 72 [.int .i64 n, .int .i64 low, .int .i64 high] [] rn (fun x H => x = .bool r ∧ H = []) := by
 have hm0 := h; clear h; unfold M.impl_within at hm0
 try dsimp only at hm0
 refine Does.intro (N := 15) Tryd.func72 rfl rfl rfl rfl ?_
 intro w0 S0 L0
 refine V.seq ?_
 refine V.region ?_
 refine VO.cons rfl (V1.assign rfl rfl rfl lt0 ?_)
 refine VO.nil ?_
 refine V.seq ?_
 refine V.region ?_
 refine VO.cons rfl (V1.move rfl rfl rfl lt0 ?_)
 refine VO.cons rfl (V1.move rfl rfl rfl lt0 ?_)
 refine VO.cons rfl (V1.int rfl rfl rfl rfl rfl lt0 ?_)
 refine VO.cons rfl (V1.move rfl rfl rfl lt0 ?_)
 apply VO.and (n := 3) rfl rfl rfl rfl rfl rfl lt0 (.none rfl)
 ·
  intro hg0
  refine VO.step (.some rfl rfl rfl) (V1.move rfl rfl rfl lt0 ?_)
  refine VO.step (.some rfl rfl rfl) (V1.move rfl rfl rfl lt0 ?_)
  refine VO.step (.some rfl rfl rfl) (V1.int rfl rfl rfl rfl rfl lt0 ?_)
  exact VO.nil ⟨rfl, rfl, rfl, rfl, .inr ⟨rfl, .inr ⟨rfl, .inr ⟨rfl, .inr ⟨rfl, .inl rfl⟩⟩⟩⟩⟩
 refine VO.cons rfl (V1.assign rfl rfl rfl lt0 ?_)
 refine VO.nil ?_
 refine V.ret ?_
 obtain rfl := Option.some.inj hm0
 exact ⟨_, [], ⟨_, _, rfl, rfl, rfl⟩, List.nil_sublist _, rfl, rfl⟩

theorem ok_impl_isReason {rn : Nat} {reason : Int} {r : Bool} (h : M.impl_isReason reason = some r) : Does Tryd.prog 95 [.int .i64 reason] [] rn (fun x H => x = .bool r ∧ H = []) := by
 have hm0 := h; clear h; unfold M.impl_isReason at hm0
 try dsimp only at hm0
 refine Does.intro (N := 5) Tryd.func95 rfl rfl rfl rfl ?_
 intro w0 S0 L0
 refine V.seq ?_
 refine V.region ?_
 refine VO.cons rfl (V1.assign rfl rfl rfl lt0 ?_)
 refine VO.nil ?_
 refine V.seq ?_
 replace hm0 := bindO hm0; rcases hm0 with ⟨y0, hh0, hm0⟩
 refine V.region ?_
 refine VO.cons rfl (V1.move rfl rfl rfl lt0 ?_)
 refine VO.cons rfl (V1.call rfl rfl rfl cok_72 rfl (ok_impl_within hh0) rfl lt0 ?_)
 rintro _ _ ⟨rfl, rfl⟩
 refine VO.cons rfl (V1.assign rfl rfl rfl lt0 ?_)
 refine VO.nil ?_
 refine V.ret ?_
 obtain rfl := Option.some.inj hm0
 exact ⟨_, [], ⟨_, _, rfl, rfl, rfl⟩, List.nil_sublist _, rfl, rfl⟩

theorem ok_impl_AreSpans {ρ1 rn : Nat} {text : List UInt8} {spans : List Span} {r : Bool} (h : M.impl_AreSpans text spans = some r) : Does Tryd.prog 93 [.str text, .vl ρ1 3 (List.map encSpan spans)] [] rn (fun x H => x = .bool r ∧ H = []) := by
 have hm0 := h; clear h; unfold M.impl_AreSpans at hm0
 try dsimp only at hm0
 refine Does.intro (N := 49) Tryd.func93 rfl rfl rfl rfl ?_
 intro w0 S0 L0
 refine V.seq ?_
 refine V.region ?_
 refine VO.cons rfl (V1.assign rfl rfl rfl lt0 ?_)
 refine VO.nil ?_
 refine V.seq ?_
 refine V.seq ?_
 replace hm0 := bindO hm0; rcases hm0 with ⟨y0, hh0, hm0⟩
 refine V.region ?_
 refine VO.cons rfl (V1.move rfl rfl rfl lt0 ?_)
 refine VO.cons rfl (V1.call rfl rfl rfl cok_48 rfl (ok_impl_IsText hh0) rfl lt0 ?_)
 rintro _ _ ⟨rfl, rfl⟩
 refine VO.cons rfl (V1.not rfl rfl rfl lt0 ?_)
 refine VO.cons rfl (V1.move rfl rfl rfl lt0 ?_)
 apply VO.or (n := 3) rfl rfl rfl rfl rfl rfl lt0 (.none rfl)
 ·
  intro hg0
  refine VO.step (.some rfl rfl rfl) (V1.move rfl rfl rfl lt0 ?_)
  refine VO.step (.some rfl rfl rfl) (V1.lenMap rfl rfl rfl rfl rfl rfl isl_58 lt0 ?_)
  refine VO.step (.some rfl rfl rfl) (V1.int rfl rfl rfl rfl rfl lt0 ?_)
  exact VO.nil ⟨rfl, rfl, rfl, rfl, .inr ⟨rfl, .inr ⟨rfl, .inr ⟨rfl, .inr ⟨rfl, .inl rfl⟩⟩⟩⟩⟩
 refine VO.nil ?_
 refine V.keep 49 [0, 1, 15] [] (E0 := [(0, .str text), (1, .vl ρ1 3 (List.map encSpan spans)), (15, .bool ((!y0) || (decide ((spans.length : Int) > (8 : Int)))))]) (H0 := []) rfl (⟨_, _, rfl, rfl, _, _, rfl, rfl, _, _, rfl, rfl, rfl⟩) (rfl) rfl ?_
 refine V.cond rfl (fun hc0 => ?_) (fun hc0 => ?_)
 ·
  replace hm0 := cond_t hc0 hm0
  refine V.seq ?_
  refine V.region ?_
  refine VO.cons rfl (V1.assign rfl rfl rfl lt0 ?_)
  refine VO.nil ?_
  refine V.ret ?_
  obtain rfl := Option.some.inj hm0
  exact ⟨_, [], ⟨_, _, rfl, rfl, rfl⟩, List.nil_sublist _, rfl, rfl⟩
 ·
  replace hm0 := cond_f hc0 hm0
  refine V.skip ?_
  refine V.seq ?_
  refine V.region ?_
  refine VO.cons rfl (V1.assign rfl rfl rfl lt0 ?_)
  refine VO.nil ?_
  refine V.seq ?_
  refine V.seq ?_
  refine V.region ?_
  refine VO.cons rfl (V1.move rfl rfl rfl lt0 ?_)
  refine VO.cons rfl (V1.lenMap rfl rfl rfl rfl rfl rfl isl_58 lt0 ?_)
  refine VO.cons rfl (V1.move rfl rfl rfl lt0 ?_)
  refine VO.nil ?_
  replace hm0 := bindO hm0; rcases hm0 with ⟨e0, he1, hm0⟩
  refine V.cutT (D := (Unit) × (Unit)) (fun ⟨_, _⟩ => ⟨49, [], []⟩) (fun ⟨_, _⟩ => (.inl () = e0)) ?_ ?_
  ·
   refine V.block ?_
   refine V.keep 49 [5, 18, 0, 16, 17] [] (E0 := [(5, .int .i64 (0 : Int)), (18, .int .i64 (0 : Int)), (0, .str text), (16, .vl ρ1 3 (List.map encSpan spans)), (17, .int .i64 (spans.length : Int))]) (H0 := []) rfl (⟨_, _, rfl, rfl, _, _, rfl, rfl, _, _, rfl, rfl, _, _, rfl, rfl, _, _, rfl, rfl, rfl⟩) (rfl) rfl ?_
   refine V.loopE (D := Nat × (Int × Int) × (Unit)) (fun ⟨n0, ⟨before, v⟩, _⟩ => [(5, .int .i64 before), (18, .int .i64 v)]) (fun ⟨n0, ⟨before, v⟩, _⟩ => []) (fun ⟨n0, ⟨before, v⟩, _⟩ => loopO (M.impl_AreSpans_l0 text spans) n0 (before, v) = some e0) (fun ⟨n0, _, _⟩ => n0) (rounds, ((0 : Int), (0 : Int)), ()) rfl he1 ?_
   rintro ⟨n0, ⟨before, v⟩, _⟩ hP0
   obtain ⟨m0, y1, rfl, hm1, hl1, hr1⟩ := loop_head hP0
   unfold M.impl_AreSpans_l0 at hm1; dsimp only at hm1
   show V _ _ _ ⟨49, [(5, .int .i64 before), (18, .int .i64 v), (0, .str text), (16, .vl ρ1 3 (List.map encSpan spans)), (17, .int .i64 (spans.length : Int))], []⟩
   refine V.seq ?_
   refine V.region ?_
   refine VO.cons rfl (V1.int rfl rfl rfl rfl rfl lt0 ?_)
   refine VO.nil ?_
   refine V.seq ?_
   refine V.cond rfl (fun hc1 => ?_) (fun hc1 => ?_)
   ·
    replace hm1 := cond_t hc1 hm1
    refine V.skip ?_
    refine V.seq ?_
    refine V.block ?_
    refine V.seq ?_
    replace hm1 := asrt_some hm1; rcases hm1 with ⟨hh1, hm1⟩
    refine V.region ?_
    refine VO.cons rfl (V1.indexI rfl rfl esz_58 rfl rfl hh1 lt0 ?_)
    refine VO.cons rfl (V1.loadPinAll rfl rfl tyk_66 rfl rfl lt0 ?_)
    refine VO.cons rfl (V1.alloc rfl rfl zk_66 lt0 ?_)
    intro b0
    refine VO.cons rfl (V1.storeRefAll (k := 0) rfl rfl tyk_66 rfl rfl rfl rfl rfl rfl ?_)
    refine VO.nil ?_
    refine V.seq ?_
    refine V.seq ?_
    replace hm1 := bindO hm1; rcases hm1 with ⟨y2, hh2, hm1⟩
    refine V.region ?_
    refine VO.cons rfl (V1.fieldRef rfl rfl fo_66_0 rfl lt0 ?_)
    refine VO.cons rfl (V1.loadRef (k := 0) rfl rfl tyk_3 rfl rfl rfl rfl rfl lt0 ?_)
    refine VO.cons rfl (V1.move rfl rfl rfl lt0 ?_)
    refine VO.cons rfl (V1.int rfl rfl rfl rfl rfl lt0 ?_)
    refine VO.cons rfl (V1.move rfl rfl rfl lt0 ?_)
    apply VO.or (n := 5) rfl rfl rfl rfl rfl rfl lt0 (.none rfl)
    ·
     intro hg1
     refine VO.step (.some rfl rfl rfl) (V1.fieldRef rfl rfl fo_66_0 rfl lt0 ?_)
     refine VO.step (.some rfl rfl rfl) (V1.loadRef (k := 0) rfl rfl tyk_3 rfl rfl rfl rfl rfl lt0 ?_)
     refine VO.step (.some rfl rfl rfl) (V1.fieldRef rfl rfl fo_66_1 rfl lt0 ?_)
     refine VO.step (.some rfl rfl rfl) (V1.loadRef (k := 0) rfl rfl tyk_3 rfl rfl rfl rfl rfl lt0 ?_)
     refine VO.step (.some rfl rfl rfl) (V1.int rfl rfl rfl rfl rfl lt0 ?_)
     exact VO.nil ⟨rfl, rfl, rfl, rfl, .inr ⟨rfl, .inr ⟨rfl, .inr ⟨rfl, .inr ⟨rfl, .inr ⟨rfl, .inr ⟨rfl, .inl rfl⟩⟩⟩⟩⟩⟩⟩
    refine VO.cons rfl (V1.move rfl rfl rfl lt0 ?_)
    apply VO.or (n := 5) rfl rfl rfl rfl rfl rfl lt0 (.none rfl)
    ·
     intro hg2
     refine VO.step (.some rfl rfl rfl) (V1.fieldRef rfl rfl fo_66_1 rfl lt0 ?_)
     refine VO.step (.some rfl rfl rfl) (V1.loadRef (k := 0) rfl rfl tyk_3 rfl rfl rfl rfl rfl lt0 ?_)
     refine VO.step (.some rfl rfl rfl) (V1.move rfl rfl rfl lt0 ?_)
     refine VO.step (.some rfl rfl rfl) (V1.lenStr rfl rfl rfl rfl rfl rfl istr_9 lt0 ?_)
     refine VO.step (.some rfl rfl rfl) (V1.int rfl rfl rfl rfl rfl lt0 ?_)
     exact VO.nil ⟨rfl, rfl, rfl, rfl, .inr ⟨rfl, .inr ⟨rfl, .inr ⟨rfl, .inr ⟨rfl, .inr ⟨rfl, .inr ⟨rfl, .inl rfl⟩⟩⟩⟩⟩⟩⟩
    refine VO.cons rfl (V1.move rfl rfl rfl lt0 ?_)
    apply VO.or (n := 4) rfl rfl rfl rfl rfl rfl lt0 (.none rfl)
    ·
     intro hg3
     refine VO.step (.some rfl rfl rfl) (V1.fieldRef rfl rfl fo_66_2 rfl lt0 ?_)
     refine VO.step (.some rfl rfl rfl) (V1.loadRef (k := 0) rfl rfl tyk_3 rfl rfl rfl rfl rfl lt0 ?_)
     refine VO.step (.some rfl rfl rfl) (V1.call rfl rfl rfl cok_95 rfl (ok_impl_isReason (cond_f hg3 hh2)) rfl lt0 ?_)
     rintro _ _ ⟨rfl, rfl⟩
     refine VO.step (.some rfl rfl rfl) (V1.not rfl rfl rfl lt0 ?_)
     exact VO.nil ⟨rfl, rfl, rfl, rfl, .inr ⟨rfl, .inr ⟨rfl, .inr ⟨rfl, .inr ⟨rfl, .inr ⟨rfl, .inl rfl⟩⟩⟩⟩⟩⟩
    refine VO.nil ?_
    refine V.keep 49 [0, 7, 16, 17, 18, 45] [0] (E0 := [(0, .str text), (7, .ref b0 3 0 0), (16, .vl ρ1 3 (List.map encSpan spans)), (17, .int .i64 (spans.length : Int)), (18, .int .i64 v), (45, .bool ((((decide (((spans.getD (Int.toNat v) default).From) < before)) || (decide (((spans.getD (Int.toNat v) default).From) ≥ ((spans.getD (Int.toNat v) default).To)))) || (decide (((spans.getD (Int.toNat v) default).To) > (text.length : Int)))) || (!y2)))]) (H0 := [(b0, ⟨3, [encSpan (spans.getD (Int.toNat v) default)]⟩)]) rfl (⟨_, _, rfl, rfl, _, _, rfl, rfl, _, _, rfl, rfl, _, _, rfl, rfl, _, _, rfl, rfl, _, _, rfl, rfl, rfl⟩) (⟨_, _, rfl, rfl, rfl⟩) rfl ?_
    refine V.cond rfl (fun hc2 => ?_) (fun hc2 => ?_)
    ·
     replace hm1 := cond_t hc2 hm1
     refine V.seq ?_
     refine V.region ?_
     refine VO.cons rfl (V1.assign rfl rfl rfl lt0 ?_)
     refine VO.nil ?_
     refine V.ret ?_
     obtain rfl := hr1 _ (Option.some.inj hm1).symm
     change some _ = some _ at hm0
     obtain rfl := Option.some.inj hm0
     exact ⟨_, [], ⟨_, _, rfl, rfl, rfl⟩, List.nil_sublist _, rfl, rfl⟩
    ·
     replace hm1 := cond_f hc2 hm1
     refine V.skip ?_
     refine V.region ?_
     refine VO.cons rfl (V1.fieldRef rfl rfl fo_66_1 rfl lt0 ?_)
     refine VO.cons rfl (V1.loadRef (k := 0) rfl rfl tyk_3 rfl rfl rfl rfl rfl lt0 ?_)
     refine VO.cons rfl (V1.assign rfl rfl rfl lt0 ?_)
     refine VO.nil ?_
     refine V.keep 49 [0, 5, 16, 17, 18] [] (E0 := [(0, .str text), (5, .int .i64 ((spans.getD (Int.toNat v) default).To)), (16, .vl ρ1 3 (List.map encSpan spans)), (17, .int .i64 (spans.length : Int)), (18, .int .i64 v)]) (H0 := []) rfl (⟨_, _, rfl, rfl, _, _, rfl, rfl, _, _, rfl, rfl, _, _, rfl, rfl, _, _, rfl, rfl, rfl⟩) (rfl) rfl ?_
     refine V.region ?_
     refine VO.cons rfl (V1.int rfl rfl rfl rfl rfl lt0 ?_)
     refine VO.cons rfl (V1.move rfl rfl rfl lt0 ?_)
     refine VO.nil ?_
     exact ⟨(m0, ((spans.getD (Int.toNat v) default).To, (IntKind.i64.wrap (v + (1 : Int)))), ()), hl1 _ (Option.some.inj hm1).symm, Nat.lt_succ_self _, Keeps.mk (ks := []) rfl ⟨rfl, rfl, rfl, rfl, rfl, trivial⟩ (rfl) rfl⟩
   ·
    replace hm1 := cond_f hc1 hm1
    refine V.exit ?_
    obtain rfl := hr1 _ (Option.some.inj hm1).symm
    exact ⟨((), ()), rfl, Keeps.mk (ks := []) rfl trivial (rfl) rfl⟩
  ·
   rintro ⟨_, _⟩ rfl
   try dsimp only at hm0
   refine V.seq ?_
   refine V.region ?_
   refine VO.cons rfl (V1.assign rfl rfl rfl lt0 ?_)
   refine VO.nil ?_
   refine V.ret ?_
   obtain rfl := Option.some.inj hm0
   exact ⟨_, [], ⟨_, _, rfl, rfl, rfl⟩, List.nil_sublist _, rfl, rfl⟩

theorem ok_impl_isWord {rn : Nat} {s : List UInt8} {r : Bool} (h : M.impl_isWord s = some r) : Does Tryd.prog 94 [.str s] [] rn (fun x H => x = .bool r ∧ H = []) := by
 have hm0 := h; clear h; unfold M.impl_isWord at hm0
 try dsimp only at hm0
 refine Does.intro (N := 11) Tryd.func94 rfl rfl rfl rfl ?_
 intro w0 S0 L0
 refine V.seq ?_
 refine V.region ?_
 refine VO.cons rfl (V1.assign rfl rfl rfl lt0 ?_)
 refine VO.nil ?_
 refine V.seq ?_
 replace hm0 := bindO hm0; rcases hm0 with ⟨y0, hh0, hm0⟩
 replace hm0 := bindO hm0; rcases hm0 with ⟨y1, hh1, hm0⟩
 refine V.region ?_
 refine VO.cons rfl (V1.move rfl rfl rfl lt0 ?_)
 refine VO.cons rfl (V1.lenStr rfl rfl rfl rfl rfl rfl istr_9 lt0 ?_)
 refine VO.cons rfl (V1.call rfl rfl rfl cok_72 rfl (ok_impl_within hh0) rfl lt0 ?_)
 rintro _ _ ⟨rfl, rfl⟩
 refine VO.cons rfl (V1.move rfl rfl rfl lt0 ?_)
 apply VO.and (n := 3) rfl rfl rfl rfl rfl rfl lt0 (.none rfl)
 ·
  intro hg0
  refine VO.step (.some rfl rfl rfl) (V1.move rfl rfl rfl lt0 ?_)
  refine VO.step (.some rfl rfl rfl) (V1.call rfl rfl rfl cok_110 rfl (ok_strings_Trim (cond_t hg0 hh1)) rfl lt0 ?_)
  rintro _ _ ⟨rfl, rfl⟩
  refine VO.step (.some rfl rfl rfl) (V1.str rfl rfl rfl rfl rfl lt0 ?_)
  exact VO.nil ⟨rfl, rfl, rfl, rfl, .inr ⟨rfl, .inr ⟨rfl, .inr ⟨rfl, .inr ⟨rfl, .inl rfl⟩⟩⟩⟩⟩
 refine VO.cons rfl (V1.assign rfl rfl rfl lt0 ?_)
 refine VO.nil ?_
 refine V.ret ?_
 obtain rfl := Option.some.inj hm0
 exact ⟨_, [], ⟨_, _, rfl, rfl, rfl⟩, List.nil_sublist _, rfl, rfl⟩

theorem ok_slices_Clone_impl_Span_impl_Span {ρ0 rn : Nat} {s : List Span} {r : List Span} (h : M.slices_Clone_impl_Span_impl_Span s = some r) : Does Tryd.prog 96 [.vl ρ0 3 (List.map encSpan s)] [] rn (fun x H => ∃ ob0_ : Option Nat, (ob0_ = none → r = []) ∧ x = optS 3 ob0_ (List.length r) ∧ H = optH 3 ob0_ (List.map encSpan r)) := by
 have hm0 := h; clear h; unfold M.slices_Clone_impl_Span_impl_Span at hm0
 replace hm0 := asrt_some hm0; rcases hm0 with ⟨hh0, hm0⟩
 obtain rfl := Option.some.inj hm0
 refine Does.intro (N := 8) Tryd.func96 rfl rfl rfl rfl ?_
 intro w0 S0 L0
 refine V.seq ?_
 refine V.region ?_
 refine VO.cons rfl (V1.assign rfl rfl rfl lt0 ?_)
 refine VO.nil ?_
 refine V.seq ?_
 first | refine V.region ?_ | (refine V.seq ?_; refine V.region ?_)
 refine VO.cons rfl (V1.move rfl rfl rfl lt0 ?_)
 refine VO.cons rfl (V1.eqNil rfl rfl usl_58 rfl rfl lt0 ?_)
 intro c hc
 refine VO.nil ?_
 first | refine V.cond rfl (fun hc0 => ?_) (fun hc0 => ?_) | (refine V.seq ?_; refine V.cond rfl (fun hc0 => ?_) (fun hc0 => ?_))
 ·
  have hs : s = [] := List.map_eq_nil_iff.1 (hc hc0)
  refine V.seq ?_
  refine V.region ?_
  refine VO.cons rfl (V1.assign rfl rfl rfl lt0 ?_)
  refine VO.nil ?_
  refine V.ret ?_
  exact ⟨_, [], ⟨_, _, rfl, rfl, rfl⟩, List.nil_sublist _, none, fun _ => hs, rfl, rfl⟩
 ·
  refine V.skip ?_
  refine V.seq ?_
  refine V.region ?_
  refine VO.cons rfl (V1.buildSliceT (f := encSpan) ([] : List Span) rfl rfl esz_58 zk_66 rfl rfl rfl rfl rfl rfl rfl lt0 ?_)
  intro b0
  refine VO.cons rfl (V1.move rfl rfl rfl lt0 ?_)
  refine VO.cons rfl (V1.appendMap (k := 0) (f := encSpan) (l := []) (m := s) rfl rfl rfl rfl rfl esz_58 eby_58 zk_66 rfl rfl rfl (.vl isl_58) (by simpa using hh0) lt0 ?_)
  intro b1
  refine VO.cons rfl (V1.assign rfl rfl rfl lt0 ?_)
  refine VO.nil ?_
  refine V.keep 8 [2] [0] (E0 := [(2, .sref b1 3 0 (List.length s))]) (H0 := [(b1, ⟨3, List.map encSpan s⟩)]) rfl (⟨_, _, rfl, rfl, rfl⟩) (⟨_, _, rfl, rfl, rfl⟩) rfl ?_
  refine V.ret ?_
  exact ⟨_, _, ⟨_, _, rfl, rfl, rfl⟩, List.Sublist.refl _, some b1, (fun e => by cases e), rfl, rfl⟩

theorem ix_strings_SplitSeq {rn : Nat} {s : List UInt8} {b : UInt8} : Does Tryd.prog 181 [.str s, .str [b]] [] rn (fun x H => x = .int .i64 (Go.Lib.indexByte s b) ∧ H = []) := by
 refine Does.ofBelow (vs := [.string ⟨s.toArray⟩, .string ⟨[b].toArray⟩]) (v := .int .i64 (Go.Lib.indexByte s b)) (fun w S us hr => ?_) (fun w S => rep_int) (fun w => ?_)
 · obtain ⟨us1, rfl, hr1⟩ := reps_str hr
   obtain ⟨us2, rfl, hr2⟩ := reps_str hr1
   rw [Reps.nil_iff.1 hr2]
 · refine (Go.Proofs.Any.strings_Index_one Go.Proofs.Tryd.lays143 ⟨s.toArray⟩ b w).mono ?_
   rintro e w' ⟨rfl, rfl⟩
   exact ⟨rfl, Go.RowKit.Below.refl _ _⟩

theorem ok_strings_splitSeq {rn : Nat} {s sep : List UInt8} : Does Tryd.prog 153 [.str s, .str sep, .int .i64 (0 : Int)] [] rn (fun x H => ∃ b1 b2 b3 : Nat, x = .fn 180 [.ref b2 1 0 0, .ref b1 1 0 0, .ref b3 1 0 0] ∧ H = [(b3, ⟨1, [.int .i64 (0 : Int)]⟩), (b2, ⟨1, [.str sep]⟩), (b1, ⟨1, [.str s]⟩)]) := by
 refine Does.intro (N := 8) Tryd.func153 rfl rfl rfl rfl ?_
 intro w0 S0 L0
 refine V.seq ?_
 refine V.region ?_
 refine VO.cons rfl (V1.boxN (n := 1) rfl rfl rfl rfl rfl lt0 ?_)
 intro b1
 refine VO.cons rfl (V1.boxN (n := 1) rfl rfl rfl rfl rfl lt0 ?_)
 intro b2
 refine VO.cons rfl (V1.boxN (n := 1) rfl rfl rfl rfl rfl lt0 ?_)
 intro b3
 refine VO.cons rfl (V1.assign rfl rfl rfl lt0 ?_)
 refine VO.nil ?_
 refine V.seq ?_
 refine V.region ?_
 refine VO.cons rfl (V1.makeFunc rfl rfl rfl lt0 ?_)
 refine VO.cons rfl (V1.assign rfl rfl rfl lt0 ?_)
 refine VO.nil ?_
 refine V.ret ?_
 exact ⟨_, _, ⟨_, _, rfl, rfl, rfl⟩, List.Sublist.refl _, b1, b2, b3, rfl, rfl⟩

theorem ok_strings_SplitSeq {rn : Nat} {s sep : List UInt8} {r : List (List UInt8)} (h : M.strings_SplitSeq s sep = some r) : Does Tryd.prog 131 [.str s, .str sep] [] rn (fun x H => ∃ b1 b2 b3 : Nat, x = .fn 180 [.ref b2 1 0 0, .ref b1 1 0 0, .ref b3 1 0 0] ∧ H = [(b3, ⟨1, [.int .i64 (0 : Int)]⟩), (b2, ⟨1, [.str sep]⟩), (b1, ⟨1, [.str s]⟩)]) := by
 clear h
 refine Does.intro (N := 8) Tryd.func131 rfl rfl rfl rfl ?_
 intro w0 S0 L0
 refine V.seq ?_
 refine V.region ?_
 refine VO.cons rfl (V1.assign rfl rfl rfl lt0 ?_)
 refine VO.nil ?_
 refine V.seq ?_
 refine V.region ?_
 refine VO.cons rfl (V1.move rfl rfl rfl lt0 ?_)
 refine VO.cons rfl (V1.move rfl rfl rfl lt0 ?_)
 refine VO.cons rfl (V1.call rfl rfl rfl cok_153 rfl ok_strings_splitSeq rfl lt0 ?_)
 rintro _ _ ⟨b1, b2, b3, rfl, rfl⟩
 refine VO.cons rfl (V1.assign rfl rfl rfl lt0 ?_)
 refine VO.nil ?_
 refine V.ret ?_
 exact ⟨_, _, ⟨_, _, rfl, rfl, rfl⟩, List.Sublist.refl _, b1, b2, b3, rfl, rfl⟩

theorem it_strings_SplitSeq {rn : Nat} {s sep : List UInt8} {b1 b2 b3 : Nat} {r : List (List UInt8)} (h : M.strings_SplitSeq s sep = some r) : Iterates Tryd.prog 180 [.ref b2 1 0 0, .ref b1 1 0 0, .ref b3 1 0 0] [(b3, ⟨1, [.int .i64 (0 : Int)]⟩), (b2, ⟨1, [.str sep]⟩), (b1, ⟨1, [.str s]⟩)] (List.map Go.VS.encStr r) rn := by
 unfold M.strings_SplitSeq at h
 obtain ⟨⟨h1, h2⟩, h⟩ := asrt_some h
 obtain rfl := Option.some.inj h; clear h
 obtain ⟨c, rfl⟩ := List.length_eq_one_iff.1 h1
 show Iterates _ _ _ _ (List.map Go.VS.encStr (splitC c s)) rn
 refine Iterates.intro (N := 52) Tryd.func180 rfl rfl rfl rfl ?_
 intro l ob D Hc Pd d0 w0 S0 L0 hP0 hw hnk hY
 refine V.seq ?_
 refine V.seq ?_
 refine V.region ?_
 refine VO.cons rfl (V1.loadRef (k := 1) rfl rfl tyk_9 rfl rfl rfl rfl rfl lt0 ?_)
 refine VO.cons rfl (V1.lenStr rfl rfl rfl rfl rfl rfl istr_9 lt0 ?_)
 refine VO.cons rfl (V1.int rfl rfl rfl rfl rfl lt0 ?_)
 refine VO.nil ?_
 refine V.cond rfl (fun hc0 => by simp at hc0) (fun hc0 => ?_)
 refine V.skip ?_
 refine V.seq ?_
 refine V.block ?_
 refine V.keepT 52 [0, 1, 2, 3] [0, 1, 2] (E0 := [(0, .val (yieldV l)), (1, .ref b2 1 0 0), (2, .ref b1 1 0 0), (3, .ref b3 1 0 0)]) (A := [(b3, ⟨1, [.int .i64 (0 : Int)]⟩), (b2, ⟨1, [.str [c]]⟩), (b1, ⟨1, [.str s]⟩)]) (T := Hc d0) (H0 := [(b3, ⟨1, [.int .i64 (0 : Int)]⟩), (b2, ⟨1, [.str [c]]⟩), (b1, ⟨1, [.str s]⟩)]) (T' := Hc d0) rfl (⟨_, _, rfl, rfl, _, _, rfl, rfl, _, _, rfl, rfl, _, _, rfl, rfl, rfl⟩) rfl (⟨_, _, rfl, rfl, _, _, rfl, rfl, _, _, rfl, rfl, rfl⟩) rfl (List.Sublist.refl _) ?_
 refine V.loopD (D := Nat × D × List UInt8) (fun ⟨k, d, t⟩ => ⟨52, [(0, .val (yieldV l)), (1, .ref b2 1 0 0), (2, .ref b1 1 0 0), (3, .ref b3 1 0 0)], [(b3, ⟨1, [.int .i64 (0 : Int)]⟩), (b2, ⟨1, [.str [c]]⟩), (b1, ⟨1, [.str t]⟩)] ++ Hc d⟩) (fun ⟨k, d, t⟩ => Pd k d ∧ (splitC c s).drop k = splitC c t ∧ t.length ≤ s.length) (fun ⟨k, _, t⟩ => t.length) (0, d0, s) rfl ⟨hP0, rfl, Nat.le_refl _⟩ ?_
 rintro ⟨k, d, t⟩ ⟨hd, hdr, hts⟩
 show V _ _ _ ⟨52, [(0, .val (yieldV l)), (1, .ref b2 1 0 0), (2, .ref b1 1 0 0), (3, .ref b3 1 0 0)], [(b3, ⟨1, [.int .i64 (0 : Int)]⟩), (b2, ⟨1, [.str [c]]⟩), (b1, ⟨1, [.str t]⟩)] ++ Hc d⟩
 refine V.block ?_
 refine V.seq ?_
 refine V.region ?_
 refine VO.cons rfl (V1.loadRef (k := 2) rfl rfl tyk_9 rfl rfl rfl rfl rfl lt0 ?_)
 refine VO.cons rfl (V1.loadRef (k := 1) rfl rfl tyk_9 rfl rfl rfl rfl rfl lt0 ?_)
 refine VO.cons rfl (V1.call rfl rfl rfl cok_181 rfl (ix_strings_SplitSeq (s := t) (b := c)) rfl lt0 ?_)
 rintro _ _ ⟨rfl, rfl⟩
 refine VO.cons rfl (V1.assign rfl rfl rfl lt0 ?_)
 refine VO.nil ?_
 refine V.seq ?_
 refine V.seq ?_
 refine V.region ?_
 refine VO.cons rfl (V1.move rfl rfl rfl lt0 ?_)
 refine VO.cons rfl (V1.int rfl rfl rfl rfl rfl lt0 ?_)
 refine VO.nil ?_
 refine V.cond rfl (fun hc1 => ?_) (fun hc1 => ?_)
 ·
  simp only [decide_eq_true_eq] at hc1
  refine V.exit ?_
  have hx : (List.map Go.VS.encStr (splitC c s))[k]? = some (.str t) := by
   rw [List.getElem?_map]
   have h3 := congrArg (fun z => z[0]?) hdr
   simp only [List.getElem?_drop, Nat.add_zero, splitC_none hc1] at h3
   rw [h3]; rfl
  have hlen : (List.map Go.VS.encStr (splitC c s)).length = k + 1 := by
   have h3 := congrArg List.length hdr
   rw [List.length_drop, splitC_none hc1] at h3
   rw [List.length_map]
   simp only [List.length_cons, List.length_nil] at h3
   omega
  refine V.regionI ?_
  refine VOI.cons rfl (V1.move rfl rfl rfl lt0 ?_)
  refine VOI.cons rfl (V1.loadRef (k := 2) rfl rfl tyk_9 rfl rfl rfl rfl rfl lt0 ?_)
  refine VOI.yield (H := Hc d) (Hr := [(b3, ⟨1, [.int .i64 (0 : Int)]⟩), (b2, ⟨1, [.str [c]]⟩), (b1, ⟨1, [.str t]⟩)]) rfl rfl rfl rfl rfl rfl (show List.Perm ([(b3, ⟨1, [.int .i64 (0 : Int)]⟩), (b2, ⟨1, [.str [c]]⟩), (b1, ⟨1, [.str t]⟩)] ++ Hc d) (Hc d ++ [(b3, ⟨1, [.int .i64 (0 : Int)]⟩), (b2, ⟨1, [.str [c]]⟩), (b1, ⟨1, [.str t]⟩)]) from List.perm_append_comm) hw hnk rfl rfl (hY k d _ hd hx) lt0 ?_
  rintro _ ⟨d', hd', rfl⟩
  refine VOI.nil ?_
  exact ⟨_, _, rfl, List.sublist_append_left _ _, d', by rw [hlen]; exact hd', rfl⟩
 ·
  simp only [decide_eq_false_iff_not] at hc1
  obtain ⟨n, hn⟩ : ∃ n : Nat, Go.Lib.indexByte t c = (n : Int) := ⟨(Go.Lib.indexByte t c).toNat, by omega⟩
  obtain ⟨hnl, hsp⟩ := splitC_some hn
  refine V.weakenK (Keeps.say 7 (y := .int .i64 (n : Int)) rfl (by rw [hn])) ?_
  have hw1 : IntKind.i64.wrap ((n : Int) + (0 : Int)) = (n : Int) := by rw [wrap64_id (by omega) (by omega)]; omega
  have hw2 : IntKind.i64.wrap ((n : Int) + (([c] : List UInt8).length : Int)) = ((n + 1 : Nat) : Int) := by
   rw [show (([c] : List UInt8).length : Int) = 1 from rfl, wrap64_id (by omega) (by omega)]; omega
  have hb : (0 : Int) ≤ (0 : Int) ∧ (0 : Int) ≤ IntKind.i64.wrap ((n : Int) + (0 : Int)) ∧ IntKind.i64.wrap ((n : Int) + (0 : Int)) ≤ (t.length : Int) := by rw [hw1]; exact ⟨by omega, by omega, by omega⟩
  have hb2 : (0 : Int) ≤ IntKind.i64.wrap ((n : Int) + (([c] : List UInt8).length : Int)) ∧ IntKind.i64.wrap ((n : Int) + (([c] : List UInt8).length : Int)) ≤ (t.length : Int) ∧ (t.length : Int) ≤ (t.length : Int) := by rw [hw2]; exact ⟨by omega, by omega, by omega⟩
  have hx : (List.map Go.VS.encStr (splitC c s))[k]? = some (.str (slc t (0 : Int) (IntKind.i64.wrap ((n : Int) + (0 : Int))))) := by
   rw [List.getElem?_map]
   have h3 := congrArg (fun z => z[0]?) hdr
   simp only [List.getElem?_drop, Nat.add_zero, hsp] at h3
   rw [h3, hw1]; rfl
  refine V.skip ?_
  refine V.seq ?_
  refine V.region ?_
  refine VO.cons rfl (V1.loadRef (k := 2) rfl rfl tyk_9 rfl rfl rfl rfl rfl lt0 ?_)
  refine VO.cons rfl (V1.move rfl rfl rfl lt0 ?_)
  refine VO.cons rfl (V1.loadRef (k := 0) rfl rfl tyk_3 rfl rfl rfl rfl rfl lt0 ?_)
  refine VO.cons rfl (V1.int rfl rfl rfl rfl rfl lt0 ?_)
  refine VO.cons rfl (V1.sliceStrI (a := (0 : Int)) (b := IntKind.i64.wrap ((n : Int) + (0 : Int))) rfl rfl istr_9 rfl (Bnd.none _ _) (Bnd.some rfl (Int.le_trans hb.1 hb.2.1) _) hb lt0 ?_)
  refine VO.cons rfl (V1.assign rfl rfl rfl lt0 ?_)
  refine VO.nil ?_
  refine V.seq ?_
  refine V.seq ?_
  refine V.regionI ?_
  refine VOI.cons rfl (V1.move rfl rfl rfl lt0 ?_)
  refine VOI.cons rfl (V1.move rfl rfl rfl lt0 ?_)
  refine VOI.yield (H := Hc d) (Hr := [(b3, ⟨1, [.int .i64 (0 : Int)]⟩), (b2, ⟨1, [.str [c]]⟩), (b1, ⟨1, [.str t]⟩)]) rfl rfl rfl rfl rfl rfl (show List.Perm ([(b3, ⟨1, [.int .i64 (0 : Int)]⟩), (b2, ⟨1, [.str [c]]⟩), (b1, ⟨1, [.str t]⟩)] ++ Hc d) (Hc d ++ [(b3, ⟨1, [.int .i64 (0 : Int)]⟩), (b2, ⟨1, [.str [c]]⟩), (b1, ⟨1, [.str t]⟩)]) from List.perm_append_comm) hw hnk rfl rfl (hY k d _ hd hx) lt0 ?_
  rintro _ ⟨d', hd', rfl⟩
  refine VOI.cons rfl (V1.not rfl rfl rfl lt0 ?_)
  refine VOI.nil ?_
  refine V.cond rfl (fun hc2 => absurd hc2 (by decide)) (fun hc2 => ?_)
  refine V.skip ?_
  refine V.weakenK (Keeps.perm (([(b3, ⟨1, [.int .i64 (0 : Int)]⟩), (b2, ⟨1, [.str [c]]⟩), (b1, ⟨1, [.str t]⟩)] : List (Nat × Obj')) ++ Hc d') (show List.Perm (Hc d' ++ [(b3, ⟨1, [.int .i64 (0 : Int)]⟩), (b2, ⟨1, [.str [c]]⟩), (b1, ⟨1, [.str t]⟩)]) ([(b3, ⟨1, [.int .i64 (0 : Int)]⟩), (b2, ⟨1, [.str [c]]⟩), (b1, ⟨1, [.str t]⟩)] ++ Hc d') from List.perm_append_comm)) ?_
  refine V.region ?_
  refine VO.cons rfl (V1.loadRef (k := 2) rfl rfl tyk_9 rfl rfl rfl rfl rfl lt0 ?_)
  refine VO.cons rfl (V1.move rfl rfl rfl lt0 ?_)
  refine VO.cons rfl (V1.loadRef (k := 1) rfl rfl tyk_9 rfl rfl rfl rfl rfl lt0 ?_)
  refine VO.cons rfl (V1.lenStr rfl rfl rfl rfl rfl rfl istr_9 lt0 ?_)
  refine VO.cons rfl (V1.int rfl rfl rfl rfl rfl lt0 ?_)
  refine VO.cons rfl (V1.sliceStrI (a := IntKind.i64.wrap ((n : Int) + (([c] : List UInt8).length : Int))) (b := (t.length : Int)) rfl rfl istr_9 rfl (Bnd.some rfl hb2.1 _) (Bnd.none _ _) hb2 lt0 ?_)
  refine VO.cons rfl (V1.storeRef (k := 2) rfl rfl tyk_9 rfl rfl rfl rfl rfl rfl rfl rfl rfl ?_)
  have hrest : slc t (IntKind.i64.wrap ((n : Int) + (([c] : List UInt8).length : Int))) (t.length : Int) = t.drop (n + 1) := by rw [hw2]; simp [slc]
  refine VO.weakenK (Keeps.sayObj 2 (ys := [.str (t.drop (n + 1))]) rfl (congrArg (fun z => [PV.str z]) hrest)) ?_
  refine VO.nil ?_
  exact ⟨(k + 1, d', t.drop (n + 1)), ⟨hd', by rw [← List.drop_drop, hdr, hsp]; rfl, by rw [List.length_drop]; omega⟩, by show (t.drop (n + 1)).length < t.length; rw [List.length_drop]; omega, Keeps.mkT (A := [(b3, ⟨1, [.int .i64 (0 : Int)]⟩), (b2, ⟨1, [.str [c]]⟩), (b1, ⟨1, [.str (t.drop (n + 1))]⟩)]) (T := Hc d') (ks := [0, 1, 2]) rfl (by exact ⟨rfl, rfl, rfl, rfl, trivial⟩) rfl (by exact ⟨_, _, rfl, rfl, _, _, rfl, rfl, _, _, rfl, rfl, rfl⟩) rfl (List.Sublist.refl _)⟩

theorem ok_impl_placesOf {rn : Nat} {text : List UInt8} {word : List UInt8} {r : List Int} (h : M.impl_placesOf text word = some r) : Does Tryd.prog 97 [.str text, .str word] [] rn (fun x H => ∃ (ob0_ : Option Nat), (ob0_ = none → r = []) ∧ x = optS 1 ob0_ (List.length r) ∧ H = optH 1 ob0_ (List.map encInt r)) := by
 have hm0 := h; clear h; unfold M.impl_placesOf at hm0
 try dsimp only at hm0
 refine Does.intro (N := 24) Tryd.func97 rfl rfl rfl rfl ?_
 intro w0 S0 L0
 refine V.seq ?_
 refine V.region ?_
 refine VO.cons rfl (V1.boxN (n := 1) rfl rfl rfl rfl rfl lt0 ?_)
 intro b0
 refine VO.cons rfl (V1.assign rfl rfl rfl lt0 ?_)
 refine VO.nil ?_
 refine V.seq ?_
 refine V.region ?_
 refine VO.cons rfl (V1.alloc rfl rfl zk_27 lt0 ?_)
 intro b1
 refine VO.nil ?_
 refine V.seq ?_
 refine V.region ?_
 refine VO.cons rfl (V1.alloc rfl rfl zk_3 lt0 ?_)
 intro b2
 refine VO.cons rfl (V1.storeRefAll (k := 0) rfl rfl tyk_3 rfl rfl rfl rfl rfl rfl ?_)
 refine VO.nil ?_
 refine V.seq ?_
 refine V.seq ?_
 replace hm0 := bindO hm0; rcases hm0 with ⟨y0, hh0, hm0⟩
 refine V.region ?_
 refine VO.cons rfl (V1.move rfl rfl rfl lt0 ?_)
 refine VO.cons rfl (V1.call rfl rfl rfl cok_131 rfl (ok_strings_SplitSeq hh0) rfl lt0 ?_)
 rintro _ _ ⟨b3, b4, b5, rfl, rfl⟩
 refine VO.nil ?_
 refine V.keep 24 [3, 5, 6, 9] [0, 1, 2, 3, 4, 5] (E0 := [(3, .ref b0 1 0 0), (5, .ref b1 1 0 0), (6, .ref b2 1 0 0), (9, .fn 180 [.ref b4 1 0 0, .ref b3 1 0 0, .ref b5 1 0 0])]) (H0 := [(b5, ⟨1, [.int .i64 (0 : Int)]⟩), (b4, ⟨1, [.str ([32])]⟩), (b3, ⟨1, [.str text]⟩), (b2, ⟨1, [.int .i64 (0 : Int)]⟩), (b1, ⟨1, [.nils]⟩), (b0, ⟨1, [.str word]⟩)]) rfl (⟨_, _, rfl, rfl, _, _, rfl, rfl, _, _, rfl, rfl, _, _, rfl, rfl, rfl⟩) (⟨_, _, rfl, rfl, _, _, rfl, rfl, _, _, rfl, rfl, _, _, rfl, rfl, _, _, rfl, rfl, _, _, rfl, rfl, rfl⟩) rfl ?_
 refine V.block ?_
 replace hm0 := bindO hm0; rcases hm0 with ⟨e0, he1, hm0⟩
 refine V.keep 24 [3, 5, 6, 9] [0, 1, 2, 3, 4, 5] (E0 := [(3, .ref b0 1 0 0), (5, .ref b1 1 0 0), (6, .ref b2 1 0 0), (9, .fn 180 [.ref b4 1 0 0, .ref b3 1 0 0, .ref b5 1 0 0])]) (H0 := [(b5, ⟨1, [.int .i64 (0 : Int)]⟩), (b4, ⟨1, [.str ([32])]⟩), (b3, ⟨1, [.str text]⟩), (b2, ⟨1, [.int .i64 (0 : Int)]⟩), (b1, ⟨1, [.nils]⟩), (b0, ⟨1, [.str word]⟩)]) rfl (⟨_, _, rfl, rfl, _, _, rfl, rfl, _, _, rfl, rfl, _, _, rfl, rfl, rfl⟩) (⟨_, _, rfl, rfl, _, _, rfl, rfl, _, _, rfl, rfl, _, _, rfl, rfl, _, _, rfl, rfl, _, _, rfl, rfl, rfl⟩) rfl ?_
 refine V.rangeFunc0 (D := (List Int × Int) × (Option Nat)) (fun ⟨⟨places_x, at_⟩, ob0⟩ => optH 1 ob0 (List.map encInt places_x) ++ [(b2, ⟨1, [.int .i64 at_]⟩)] ++ [(b1, ⟨1, [optS 1 ob0 (List.length places_x)]⟩)] ++ [(b0, ⟨1, [.str word]⟩)]) (fun k_ ⟨⟨places_x, at_⟩, ob0⟩ => foldO (M.impl_placesOf_l0 word) (List.drop k_ y0) (places_x, at_) = some e0 ∧ (ob0 = none → places_x = [])) ((([] : List Int), (0 : Int)), none) [(b5, ⟨1, [.int .i64 (0 : Int)]⟩), (b4, ⟨1, [.str ([32])]⟩), (b3, ⟨1, [.str text]⟩)] rfl cok_180 rfl rfl rfl lt0 lt0 rfl rfl (.of_eq rfl) (it_strings_SplitSeq hh0) ⟨he1, (fun _ => rfl)⟩ ?_ ?_
 ·
  rintro l_ k_ ⟨⟨places_x, at_⟩, ob0⟩ x_ ⟨hP0, hob0⟩ hx_
  obtain ⟨y_, s_, rfl, hm1, hl1⟩ := fold_head hP0 hx_
  unfold M.impl_placesOf_l0 at hm1; dsimp only at hm1
  intro w1 S1 L1
  rcases ob0 with _ | ob0
  ·
   replace hob0 := hob0 rfl
   show V _ _ _ ⟨24, [(7, .str y_), (10, .str y_), (3, .ref b0 1 0 0), (5, .ref b1 1 0 0), (6, .ref b2 1 0 0), (9, .fn 180 [.ref b4 1 0 0, .ref b3 1 0 0, .ref b5 1 0 0])], [(b2, ⟨1, [.int .i64 at_]⟩), (b1, ⟨1, [.nils]⟩), (b0, ⟨1, [.str word]⟩)]⟩
   replace hm1 := bindO hm1; rcases hm1 with ⟨j0, hm2, hm1⟩
   refine V.cutT (D := (List Int × Int) × (Option Nat)) (fun ⟨⟨places_x0, at_0⟩, ob1⟩ => ⟨24, [(3, .ref b0 1 0 0), (5, .ref b1 1 0 0), (6, .ref b2 1 0 0)], optH 1 ob1 (List.map encInt places_x0) ++ [(b2, ⟨1, [.int .i64 at_0]⟩)] ++ [(b1, ⟨1, [optS 1 ob1 (List.length places_x0)]⟩)] ++ [(b0, ⟨1, [.str word]⟩)]⟩) (fun ⟨⟨places_x0, at_0⟩, ob1⟩ => ((places_x0, at_0) = j0) ∧ (ob1 = none → places_x0 = [])) ?_ ?_
   ·
    refine V.block ?_
    refine V.seq ?_
    replace hm2 := bindO hm2; rcases hm2 with ⟨j1, hm3, hm2⟩
    refine V.cutT (D := (List Int) × (Option Nat)) (fun ⟨places_x1, ob2⟩ => ⟨24, [(3, .ref b0 1 0 0), (5, .ref b1 1 0 0), (6, .ref b2 1 0 0), (7, .str y_)], optH 1 ob2 (List.map encInt places_x1) ++ [(b1, ⟨1, [optS 1 ob2 (List.length places_x1)]⟩)] ++ [(b2, ⟨1, [.int .i64 at_]⟩)] ++ [(b0, ⟨1, [.str word]⟩)]⟩) (fun ⟨places_x1, ob2⟩ => (places_x1 = j1) ∧ (ob2 = none → places_x1 = [])) ?_ ?_
    ·
     refine V.seq ?_
     refine V.region ?_
     refine VO.cons rfl (V1.move rfl rfl rfl lt0 ?_)
     refine VO.cons rfl (V1.loadRef (k := 2) rfl rfl tyk_9 rfl rfl rfl rfl rfl lt0 ?_)
     refine VO.cons rfl (V1.str rfl rfl rfl rfl rfl lt0 ?_)
     refine VO.nil ?_
     refine V.cond rfl (fun hc0 => ?_) (fun hc0 => ?_)
     ·
      replace hm3 := cond_t hc0 hm3
      replace hm3 := asrt_some hm3; rcases hm3 with ⟨hh1, hm3⟩
      refine V.region ?_
      refine VO.cons rfl (V1.loadRef (k := 1) rfl rfl tyk_27 rfl rfl rfl rfl rfl lt0 ?_)
      refine VO.cons rfl (V1.loadRef (k := 0) rfl rfl tyk_3 rfl rfl rfl rfl rfl lt0 ?_)
      refine VO.cons rfl (V1.buildSliceT (f := encInt) ([at_] : List Int) rfl rfl esz_27 zk_3 rfl rfl rfl rfl rfl rfl rfl lt0 ?_)
      intro b6
      refine VO.cons rfl (V1.appendNilE (f := encInt) (l := places_x) (m := ([at_] : List Int)) hob0 rfl rfl rfl rfl rfl esz_27 eby_27 zk_3 rfl rfl rfl (SrcOf.srMap (k := 0) rfl isl_27) rfl hh1 lt0 ?_)
      intro b7
      refine VO.cons rfl (V1.storeRefAll (k := 3) rfl rfl tyk_27 rfl rfl rfl rfl rfl rfl ?_)
      refine VO.nil ?_
      exact ⟨((places_x ++ ([at_] : List Int)), (some b7)), ⟨Option.some.inj hm3, (fun e => by cases e)⟩, Keeps.mk (ks := [0, 3, 2, 4]) rfl ⟨rfl, rfl, rfl, rfl, trivial⟩ (⟨_, _, rfl, rfl, _, _, rfl, rfl, _, _, rfl, rfl, _, _, rfl, rfl, rfl⟩) rfl⟩
     ·
      replace hm3 := cond_f hc0 hm3
      refine V.skip ?_
      exact ⟨(places_x, none), ⟨Option.some.inj hm3, (fun _ => hob0)⟩, Keeps.mk (ks := [1, 0, 2]) rfl ⟨rfl, rfl, rfl, rfl, trivial⟩ (⟨_, _, rfl, rfl, _, _, rfl, rfl, _, _, rfl, rfl, rfl⟩) rfl⟩
    ·
     rintro ⟨places_x1, ob2⟩ ⟨rfl, hob2⟩
     try dsimp only at hm2
     rcases ob2 with _ | ob2
     ·
      replace hob2 := hob2 rfl
      refine V.region ?_
      refine VO.cons rfl (V1.loadRef (k := 1) rfl rfl tyk_3 rfl rfl rfl rfl rfl lt0 ?_)
      refine VO.cons rfl (V1.move rfl rfl rfl lt0 ?_)
      refine VO.cons rfl (V1.lenStr rfl rfl rfl rfl rfl rfl istr_9 lt0 ?_)
      refine VO.cons rfl (V1.int rfl rfl rfl rfl rfl lt0 ?_)
      refine VO.cons rfl (V1.int rfl rfl rfl rfl rfl lt0 ?_)
      refine VO.cons rfl (V1.storeRefAll (k := 1) rfl rfl tyk_3 rfl rfl rfl rfl rfl rfl ?_)
      refine VO.nil ?_
      exact ⟨((places_x1, (IntKind.i64.wrap (at_ + (IntKind.i64.wrap ((y_.length : Int) + (1 : Int)))))), none), ⟨Option.some.inj hm2, (fun _ => hob2)⟩, Keeps.mk (ks := [1, 0, 2]) rfl ⟨rfl, rfl, rfl, trivial⟩ (⟨_, _, rfl, rfl, _, _, rfl, rfl, _, _, rfl, rfl, rfl⟩) rfl⟩
     ·
      refine V.region ?_
      refine VO.cons rfl (V1.loadRef (k := 2) rfl rfl tyk_3 rfl rfl rfl rfl rfl lt0 ?_)
      refine VO.cons rfl (V1.move rfl rfl rfl lt0 ?_)
      refine VO.cons rfl (V1.lenStr rfl rfl rfl rfl rfl rfl istr_9 lt0 ?_)
      refine VO.cons rfl (V1.int rfl rfl rfl rfl rfl lt0 ?_)
      refine VO.cons rfl (V1.int rfl rfl rfl rfl rfl lt0 ?_)
      refine VO.cons rfl (V1.storeRefAll (k := 2) rfl rfl tyk_3 rfl rfl rfl rfl rfl rfl ?_)
      refine VO.nil ?_
      exact ⟨((places_x1, (IntKind.i64.wrap (at_ + (IntKind.i64.wrap ((y_.length : Int) + (1 : Int)))))), (some ob2)), ⟨Option.some.inj hm2, (fun e => by cases e)⟩, Keeps.mk (ks := [0, 2, 1, 3]) rfl ⟨rfl, rfl, rfl, trivial⟩ (⟨_, _, rfl, rfl, _, _, rfl, rfl, _, _, rfl, rfl, _, _, rfl, rfl, rfl⟩) rfl⟩
   ·
    rintro ⟨⟨places_x0, at_0⟩, ob1⟩ ⟨rfl, hob1⟩
    try dsimp only at hm1
    rcases ob1 with _ | ob1
    ·
     replace hob1 := hob1 rfl
     obtain rfl := Option.some.inj hm1
     exact ⟨rfl, _, ⟨((places_x0, at_0), none), ⟨hl1, (fun _ => hob1)⟩, rfl⟩, Keeps.mk (ks := [0, 1, 2]) rfl trivial (⟨_, _, rfl, rfl, _, _, rfl, rfl, _, _, rfl, rfl, rfl⟩) rfl⟩
    ·
     obtain rfl := Option.some.inj hm1
     exact ⟨rfl, _, ⟨((places_x0, at_0), (some ob1)), ⟨hl1, (fun e => by cases e)⟩, rfl⟩, Keeps.mk (ks := [0, 1, 2, 3]) rfl trivial (⟨_, _, rfl, rfl, _, _, rfl, rfl, _, _, rfl, rfl, _, _, rfl, rfl, rfl⟩) rfl⟩
  ·
   show V _ _ _ ⟨24, [(7, .str y_), (10, .str y_), (3, .ref b0 1 0 0), (5, .ref b1 1 0 0), (6, .ref b2 1 0 0), (9, .fn 180 [.ref b4 1 0 0, .ref b3 1 0 0, .ref b5 1 0 0])], [(ob0, ⟨1, List.map encInt places_x⟩), (b2, ⟨1, [.int .i64 at_]⟩), (b1, ⟨1, [.sref ob0 1 0 (List.length places_x)]⟩), (b0, ⟨1, [.str word]⟩)]⟩
   replace hm1 := bindO hm1; rcases hm1 with ⟨j0, hm2, hm1⟩
   refine V.cutT (D := (List Int × Int) × (Nat)) (fun ⟨⟨places_x0, at_0⟩, b6⟩ => ⟨24, [(3, .ref b0 1 0 0), (5, .ref b1 1 0 0), (6, .ref b2 1 0 0)], [(b6, ⟨1, List.map encInt places_x0⟩), (b2, ⟨1, [.int .i64 at_0]⟩), (b1, ⟨1, [.sref b6 1 0 (List.length places_x0)]⟩), (b0, ⟨1, [.str word]⟩)]⟩) (fun ⟨⟨places_x0, at_0⟩, b6⟩ => ((places_x0, at_0) = j0)) ?_ ?_
   ·
    refine V.block ?_
    refine V.seq ?_
    replace hm2 := bindO hm2; rcases hm2 with ⟨j1, hm3, hm2⟩
    refine V.cutT (D := (List Int) × (Nat)) (fun ⟨places_x1, b7⟩ => ⟨24, [(3, .ref b0 1 0 0), (5, .ref b1 1 0 0), (6, .ref b2 1 0 0), (7, .str y_)], [(b7, ⟨1, List.map encInt places_x1⟩), (b1, ⟨1, [.sref b7 1 0 (List.length places_x1)]⟩), (b2, ⟨1, [.int .i64 at_]⟩), (b0, ⟨1, [.str word]⟩)]⟩) (fun ⟨places_x1, b7⟩ => (places_x1 = j1)) ?_ ?_
    ·
     refine V.seq ?_
     refine V.region ?_
     refine VO.cons rfl (V1.move rfl rfl rfl lt0 ?_)
     refine VO.cons rfl (V1.loadRef (k := 3) rfl rfl tyk_9 rfl rfl rfl rfl rfl lt0 ?_)
     refine VO.cons rfl (V1.str rfl rfl rfl rfl rfl lt0 ?_)
     refine VO.nil ?_
     refine V.cond rfl (fun hc0 => ?_) (fun hc0 => ?_)
     ·
      replace hm3 := cond_t hc0 hm3
      replace hm3 := asrt_some hm3; rcases hm3 with ⟨hh1, hm3⟩
      refine V.region ?_
      refine VO.cons rfl (V1.loadRef (k := 2) rfl rfl tyk_27 rfl rfl rfl rfl rfl lt0 ?_)
      refine VO.cons rfl (V1.loadRef (k := 1) rfl rfl tyk_3 rfl rfl rfl rfl rfl lt0 ?_)
      refine VO.cons rfl (V1.buildSliceT (f := encInt) ([at_] : List Int) rfl rfl esz_27 zk_3 rfl rfl rfl rfl rfl rfl rfl lt0 ?_)
      intro b8
      refine VO.cons rfl (V1.appendMap (k := 1) (f := encInt) (l := places_x) (m := ([at_] : List Int)) rfl rfl rfl rfl rfl esz_27 eby_27 zk_3 rfl rfl rfl (SrcOf.srMap (k := 0) rfl isl_27) hh1 lt0 ?_)
      intro b9
      refine VO.cons rfl (V1.storeRefAll (k := 3) rfl rfl tyk_27 rfl rfl rfl rfl rfl rfl ?_)
      refine VO.nil ?_
      exact ⟨((places_x ++ ([at_] : List Int)), b9), Option.some.inj hm3, Keeps.mk (ks := [0, 3, 2, 4]) rfl ⟨rfl, rfl, rfl, rfl, trivial⟩ (⟨_, _, rfl, rfl, _, _, rfl, rfl, _, _, rfl, rfl, _, _, rfl, rfl, rfl⟩) rfl⟩
     ·
      replace hm3 := cond_f hc0 hm3
      refine V.skip ?_
      exact ⟨(places_x, ob0), Option.some.inj hm3, Keeps.mk (ks := [0, 2, 1, 3]) rfl ⟨rfl, rfl, rfl, rfl, trivial⟩ (⟨_, _, rfl, rfl, _, _, rfl, rfl, _, _, rfl, rfl, _, _, rfl, rfl, rfl⟩) rfl⟩
    ·
     rintro ⟨places_x1, b7⟩ rfl
     try dsimp only at hm2
     refine V.region ?_
     refine VO.cons rfl (V1.loadRef (k := 2) rfl rfl tyk_3 rfl rfl rfl rfl rfl lt0 ?_)
     refine VO.cons rfl (V1.move rfl rfl rfl lt0 ?_)
     refine VO.cons rfl (V1.lenStr rfl rfl rfl rfl rfl rfl istr_9 lt0 ?_)
     refine VO.cons rfl (V1.int rfl rfl rfl rfl rfl lt0 ?_)
     refine VO.cons rfl (V1.int rfl rfl rfl rfl rfl lt0 ?_)
     refine VO.cons rfl (V1.storeRefAll (k := 2) rfl rfl tyk_3 rfl rfl rfl rfl rfl rfl ?_)
     refine VO.nil ?_
     exact ⟨((places_x1, (IntKind.i64.wrap (at_ + (IntKind.i64.wrap ((y_.length : Int) + (1 : Int)))))), b7), Option.some.inj hm2, Keeps.mk (ks := [0, 2, 1, 3]) rfl ⟨rfl, rfl, rfl, trivial⟩ (⟨_, _, rfl, rfl, _, _, rfl, rfl, _, _, rfl, rfl, _, _, rfl, rfl, rfl⟩) rfl⟩
   ·
    rintro ⟨⟨places_x0, at_0⟩, b6⟩ rfl
    try dsimp only at hm1
    obtain rfl := Option.some.inj hm1
    exact ⟨rfl, _, ⟨((places_x0, at_0), (some b6)), ⟨hl1, (fun e => by cases e)⟩, rfl⟩, Keeps.mk (ks := [0, 1, 2, 3]) rfl trivial (⟨_, _, rfl, rfl, _, _, rfl, rfl, _, _, rfl, rfl, _, _, rfl, rfl, rfl⟩) rfl⟩
 ·
  rintro ⟨⟨places_x, at_⟩, ob0⟩ ⟨hP0, hob0⟩
  obtain rfl := fold_end hP0
  try dsimp only at hm0
  rcases ob0 with _ | ob0
  ·
   replace hob0 := hob0 rfl
   refine V.seq ?_
   refine V.region ?_
   refine VO.cons rfl (V1.loadRef (k := 1) rfl rfl tyk_27 rfl rfl rfl rfl rfl lt0 ?_)
   refine VO.cons rfl (V1.assign rfl rfl rfl lt0 ?_)
   refine VO.nil ?_
   refine V.keep 24 [4] [] (E0 := [(4, .nils)]) (H0 := []) rfl (⟨_, _, rfl, rfl, rfl⟩) (rfl) rfl ?_
   refine V.ret ?_
   obtain rfl := Option.some.inj hm0
   exact ⟨_, _, ⟨_, _, rfl, rfl, rfl⟩, List.Sublist.refl _, none, (fun _ => hob0), rfl, rfl⟩
  ·
   refine V.seq ?_
   refine V.region ?_
   refine VO.cons rfl (V1.loadRef (k := 2) rfl rfl tyk_27 rfl rfl rfl rfl rfl lt0 ?_)
   refine VO.cons rfl (V1.assign rfl rfl rfl lt0 ?_)
   refine VO.nil ?_
   refine V.keep 24 [4] [0] (E0 := [(4, .sref ob0 1 0 (List.length places_x))]) (H0 := [(ob0, ⟨1, List.map encInt places_x⟩)]) rfl (⟨_, _, rfl, rfl, rfl⟩) (⟨_, _, rfl, rfl, rfl⟩) rfl ?_
   refine V.ret ?_
   obtain rfl := Option.some.inj hm0
   exact ⟨_, _, ⟨_, _, rfl, rfl, rfl⟩, List.Sublist.refl _, some ob0, (fun e => by cases e), rfl, rfl⟩

theorem ok_impl_isTouched_1 {τ1 τ2 rn : Nat} {s : Span} {to_c : Int} {from_c : Int} {r : Bool} (h : M.impl_isTouched_1 s to_c from_c = some r) : Does Tryd.prog 133 [encSpan s, .pin τ1 (.int .i64 to_c) 0, .pin τ2 (.int .i64 from_c) 0] [] rn (fun x H => x = .bool r ∧ H = []) := by
 have hm0 := h; clear h; unfold M.impl_isTouched_1 at hm0
 try dsimp only at hm0
 refine Does.intro (N := 15) Tryd.func133 rfl rfl rfl rfl ?_
 intro w0 S0 L0
 refine V.seq ?_
 refine V.region ?_
 refine VO.cons rfl (V1.boxN (n := 3) rfl rfl rfl rfl rfl lt0 ?_)
 intro b0
 refine VO.cons rfl (V1.assign rfl rfl rfl lt0 ?_)
 refine VO.nil ?_
 refine V.seq ?_
 refine V.region ?_
 refine VO.cons rfl (V1.fieldRef rfl rfl fo_66_0 rfl lt0 ?_)
 refine VO.cons rfl (V1.loadRef (k := 0) rfl rfl tyk_3 rfl rfl rfl rfl rfl lt0 ?_)
 refine VO.cons rfl (V1.loadPin rfl rfl tyk_3 rfl rfl lt0 ?_)
 refine VO.cons rfl (V1.int rfl rfl rfl rfl rfl lt0 ?_)
 refine VO.cons rfl (V1.move rfl rfl rfl lt0 ?_)
 apply VO.and (n := 4) rfl rfl rfl rfl rfl rfl lt0 (.none rfl)
 ·
  intro hg0
  refine VO.step (.some rfl rfl rfl) (V1.loadPin rfl rfl tyk_3 rfl rfl lt0 ?_)
  refine VO.step (.some rfl rfl rfl) (V1.fieldRef rfl rfl fo_66_1 rfl lt0 ?_)
  refine VO.step (.some rfl rfl rfl) (V1.loadRef (k := 0) rfl rfl tyk_3 rfl rfl rfl rfl rfl lt0 ?_)
  refine VO.step (.some rfl rfl rfl) (V1.int rfl rfl rfl rfl rfl lt0 ?_)
  exact VO.nil ⟨rfl, rfl, rfl, rfl, .inr ⟨rfl, .inr ⟨rfl, .inr ⟨rfl, .inr ⟨rfl, .inr ⟨rfl, .inl rfl⟩⟩⟩⟩⟩⟩
 refine VO.cons rfl (V1.assign rfl rfl rfl lt0 ?_)
 refine VO.nil ?_
 refine V.ret ?_
 obtain rfl := Option.some.inj hm0
 exact ⟨_, [], ⟨_, _, rfl, rfl, rfl⟩, List.nil_sublist _, rfl, rfl⟩

theorem ok_slices_IndexFunc_impl_Span_impl_Span {ρ0 rn : Nat} {s : List Span} {f1 : Nat} {cs1 : List PV} {r : Int} {fm : Span → Option Bool} (h : M.slices_IndexFunc_impl_Span_impl_Span s fm = some r) (hok1 : callOK Tryd.prog f1 = true) (hf1 : ∀ x0 r, fm x0 = some r → Does Tryd.prog f1 (encSpan x0 :: cs1) [] rn (fun x H => x = .bool r ∧ H = [])) : Does Tryd.prog 154 [.vl ρ0 3 (List.map encSpan s), .fn f1 cs1] [] rn (fun x H => x = .int .i64 r ∧ H = []) := by
 have hm0 := h; clear h; unfold M.slices_IndexFunc_impl_Span_impl_Span at hm0
 try dsimp only at hm0
 refine Does.intro (N := 19) Tryd.func154 rfl rfl rfl rfl ?_
 intro w0 S0 L0
 refine V.seq ?_
 refine V.region ?_
 refine VO.cons rfl (V1.assign rfl rfl rfl lt0 ?_)
 refine VO.nil ?_
 refine V.seq ?_
 refine V.seq ?_
 refine V.region ?_
 refine VO.cons rfl (V1.move rfl rfl rfl lt0 ?_)
 refine VO.cons rfl (V1.lenMap rfl rfl rfl rfl rfl rfl isl_58 lt0 ?_)
 refine VO.cons rfl (V1.move rfl rfl rfl lt0 ?_)
 refine VO.nil ?_
 replace hm0 := bindO hm0; rcases hm0 with ⟨e0, he1, hm0⟩
 refine V.cutT (D := (Unit) × (Unit)) (fun ⟨_, _⟩ => ⟨19, [], []⟩) (fun ⟨_, _⟩ => (.inl () = e0)) ?_ ?_
 ·
  refine V.block ?_
  refine V.keep 19 [8, 0, 1, 7] [] (E0 := [(8, .int .i64 (0 : Int)), (0, .vl ρ0 3 (List.map encSpan s)), (1, .fn f1 cs1), (7, .int .i64 (s.length : Int))]) (H0 := []) rfl (⟨_, _, rfl, rfl, _, _, rfl, rfl, _, _, rfl, rfl, _, _, rfl, rfl, rfl⟩) (rfl) rfl ?_
  refine V.loopE (D := Nat × (Int) × (Unit)) (fun ⟨n0, v, _⟩ => [(8, .int .i64 v)]) (fun ⟨n0, v, _⟩ => []) (fun ⟨n0, v, _⟩ => loopO (M.slices_IndexFunc_impl_Span_impl_Span_l0 s fm) n0 v = some e0) (fun ⟨n0, _, _⟩ => n0) (rounds, (0 : Int), ()) rfl he1 ?_
  rintro ⟨n0, v, _⟩ hP0
  obtain ⟨m0, y0, rfl, hm1, hl1, hr1⟩ := loop_head hP0
  unfold M.slices_IndexFunc_impl_Span_impl_Span_l0 at hm1; dsimp only at hm1
  show V _ _ _ ⟨19, [(8, .int .i64 v), (0, .vl ρ0 3 (List.map encSpan s)), (1, .fn f1 cs1), (7, .int .i64 (s.length : Int))], []⟩
  refine V.seq ?_
  refine V.region ?_
  refine VO.cons rfl (V1.int rfl rfl rfl rfl rfl lt0 ?_)
  refine VO.nil ?_
  refine V.seq ?_
  refine V.cond rfl (fun hc0 => ?_) (fun hc0 => ?_)
  ·
   replace hm1 := cond_t hc0 hm1
   refine V.skip ?_
   refine V.seq ?_
   refine V.block ?_
   refine V.seq ?_
   refine V.region ?_
   refine VO.cons rfl (V1.move rfl rfl rfl lt0 ?_)
   refine VO.cons rfl (V1.assign rfl rfl rfl lt0 ?_)
   refine VO.nil ?_
   refine V.seq ?_
   replace hm1 := asrt_some hm1; rcases hm1 with ⟨hh0, hm1⟩
   replace hm1 := bindO hm1; rcases hm1 with ⟨y1, hh1, hm1⟩
   refine V.region ?_
   refine VO.cons rfl (V1.move rfl rfl rfl lt0 ?_)
   refine VO.cons rfl (V1.move rfl rfl rfl lt0 ?_)
   refine VO.cons rfl (V1.move rfl rfl rfl lt0 ?_)
   refine VO.cons rfl (V1.indexI rfl rfl esz_58 rfl rfl hh0 lt0 ?_)
   refine VO.cons rfl (V1.loadPinAll rfl rfl tyk_66 rfl rfl lt0 ?_)
   refine VO.cons rfl (V1.callG (τ := 0) (Bw := []) rfl lt0 (run_callFn rfl rfl rfl hok1 rfl) (.refl _) (Lends.same _) (fun _ h => by cases h) ((hf1 _  _) hh1) (.inl rfl) (.inl rfl) ?_)
   rintro _ _ ⟨rfl, rfl⟩
   refine VO.nil ?_
   refine V.keep 19 [0, 1, 5, 7, 8, 16] [] (E0 := [(0, .vl ρ0 3 (List.map encSpan s)), (1, .fn f1 cs1), (5, .int .i64 v), (7, .int .i64 (s.length : Int)), (8, .int .i64 v), (16, .bool y1)]) (H0 := []) rfl (⟨_, _, rfl, rfl, _, _, rfl, rfl, _, _, rfl, rfl, _, _, rfl, rfl, _, _, rfl, rfl, _, _, rfl, rfl, rfl⟩) (rfl) rfl ?_
   refine V.cond rfl (fun hc1 => ?_) (fun hc1 => ?_)
   ·
    replace hm1 := cond_t hc1 hm1
    refine V.seq ?_
    refine V.region ?_
    refine VO.cons rfl (V1.move rfl rfl rfl lt0 ?_)
    refine VO.cons rfl (V1.assign rfl rfl rfl lt0 ?_)
    refine VO.nil ?_
    refine V.ret ?_
    obtain rfl := hr1 _ (Option.some.inj hm1).symm
    change some _ = some _ at hm0
    obtain rfl := Option.some.inj hm0
    exact ⟨_, [], ⟨_, _, rfl, rfl, rfl⟩, List.nil_sublist _, rfl, rfl⟩
   ·
    replace hm1 := cond_f hc1 hm1
    refine V.skip ?_
    refine V.region ?_
    refine VO.cons rfl (V1.int rfl rfl rfl rfl rfl lt0 ?_)
    refine VO.cons rfl (V1.move rfl rfl rfl lt0 ?_)
    refine VO.nil ?_
    exact ⟨(m0, (IntKind.i64.wrap (v + (1 : Int))), ()), hl1 _ (Option.some.inj hm1).symm, Nat.lt_succ_self _, Keeps.mk (ks := []) rfl ⟨rfl, rfl, rfl, rfl, trivial⟩ (rfl) rfl⟩
  ·
   replace hm1 := cond_f hc0 hm1
   refine V.exit ?_
   obtain rfl := hr1 _ (Option.some.inj hm1).symm
   exact ⟨((), ()), rfl, Keeps.mk (ks := []) rfl trivial (rfl) rfl⟩
 ·
  rintro ⟨_, _⟩ rfl
  try dsimp only at hm0
  refine V.seq ?_
  refine V.region ?_
  refine VO.cons rfl (V1.assign rfl rfl rfl lt0 ?_)
  refine VO.nil ?_
  refine V.ret ?_
  obtain rfl := Option.some.inj hm0
  exact ⟨_, [], ⟨_, _, rfl, rfl, rfl⟩, List.nil_sublist _, rfl, rfl⟩

theorem ok_slices_ContainsFunc_impl_Span_impl_Span {ρ0 rn : Nat} {s : List Span} {f1 : Nat} {cs1 : List PV} {r : Bool} {fm : Span → Option Bool} (h : M.slices_ContainsFunc_impl_Span_impl_Span s fm = some r) (hok1 : callOK Tryd.prog f1 = true) (hf1 : ∀ x0 r, fm x0 = some r → Does Tryd.prog f1 (encSpan x0 :: cs1) [] rn (fun x H => x = .bool r ∧ H = [])) : Does Tryd.prog 132 [.vl ρ0 3 (List.map encSpan s), .fn f1 cs1] [] rn (fun x H => x = .bool r ∧ H = []) := by
 have hm0 := h; clear h; unfold M.slices_ContainsFunc_impl_Span_impl_Span at hm0
 try dsimp only at hm0
 refine Does.intro (N := 9) Tryd.func132 rfl rfl rfl rfl ?_
 intro w0 S0 L0
 refine V.seq ?_
 refine V.region ?_
 refine VO.cons rfl (V1.assign rfl rfl rfl lt0 ?_)
 refine VO.nil ?_
 refine V.seq ?_
 replace hm0 := bindO hm0; rcases hm0 with ⟨y0, hh0, hm0⟩
 refine V.region ?_
 refine VO.cons rfl (V1.move rfl rfl rfl lt0 ?_)
 refine VO.cons rfl (V1.move rfl rfl rfl lt0 ?_)
 refine VO.cons rfl (V1.call rfl rfl rfl cok_154 rfl (ok_slices_IndexFunc_impl_Span_impl_Span hh0 (fm := fm) hok1 hf1) rfl lt0 ?_)
 rintro _ _ ⟨rfl, rfl⟩
 refine VO.cons rfl (V1.int rfl rfl rfl rfl rfl lt0 ?_)
 refine VO.cons rfl (V1.assign rfl rfl rfl lt0 ?_)
 refine VO.nil ?_
 refine V.ret ?_
 obtain rfl := Option.some.inj hm0
 exact ⟨_, [], ⟨_, _, rfl, rfl, rfl⟩, List.nil_sublist _, rfl, rfl⟩

theorem ok_impl_isTouched {ρ0 rn : Nat} {spans : List Span} {from_ : Int} {to_ : Int} {r : Bool} (h : M.impl_isTouched spans from_ to_ = some r) : Does Tryd.prog 98 [.vl ρ0 3 (List.map encSpan spans), .int .i64 from_, .int .i64 to_] [] rn (fun x H => x = .bool r ∧ H = []) := by
 have hm0 := h; clear h; unfold M.impl_isTouched at hm0
 try dsimp only at hm0
 refine Does.intro (N := 10) Tryd.func98 rfl rfl rfl rfl ?_
 intro w0 S0 L0
 refine V.seq ?_
 refine V.region ?_
 refine VO.cons rfl (V1.boxN (n := 1) rfl rfl rfl rfl rfl lt0 ?_)
 intro b0
 refine VO.cons rfl (V1.boxN (n := 1) rfl rfl rfl rfl rfl lt0 ?_)
 intro b1
 refine VO.cons rfl (V1.assign rfl rfl rfl lt0 ?_)
 refine VO.nil ?_
 refine V.seq ?_
 replace hm0 := bindO hm0; rcases hm0 with ⟨y0, hh0, hm0⟩
 refine V.region ?_
 refine VO.cons rfl (V1.move rfl rfl rfl lt0 ?_)
 refine VO.cons rfl (V1.makeFunc rfl rfl rfl lt0 ?_)
 refine VO.cons rfl (V1.callL (rn + 1) [b1, b0] [.vl ρ0 3 (List.map encSpan spans), .fn 133 [.pin (rn + 1) (.int .i64 to_) 0, .pin (rn + 1) (.int .i64 from_) 0]] rfl rfl rfl cok_132 rfl ⟨_, _, rfl, .same _, ⟨_, _, rfl, Lend.fn ⟨_, _, rfl, Lend.ref 0 rfl rfl rfl rfl (.head _), ⟨_, _, rfl, Lend.ref 1 rfl rfl rfl rfl (.tail _ (.head _)), rfl⟩⟩, rfl⟩⟩ (bwCons (k := 0) rfl (bwCons (k := 1) rfl bwNil)) (ok_slices_ContainsFunc_impl_Span_impl_Span hh0 (fm := (fun x0 => M.impl_isTouched_1 x0 to_ from_)) cok_133 (fun _ _ h => ok_impl_isTouched_1 h)) rfl (⟨(by first | omega | (dsimp only; omega)), by rintro _ _ ⟨rfl, rfl⟩; exact ⟨rfl, by simp⟩⟩) lt0 ?_)
 rintro _ _ ⟨rfl, rfl⟩
 refine VO.cons rfl (V1.assign rfl rfl rfl lt0 ?_)
 refine VO.nil ?_
 refine V.ret ?_
 obtain rfl := Option.some.inj hm0
 exact ⟨_, [], ⟨_, _, rfl, rfl, rfl⟩, List.nil_sublist _, rfl, rfl⟩

theorem ok_math_bits_Len32 {rn : Nat} {x : Int} {r : Int} (h : M.math_bits_Len32 x = some r) : Does Tryd.prog 163 [.int .u32 x] [] rn (fun x H => x = .int .i64 r ∧ H = []) := by
 have hm0 := h; clear h; unfold M.math_bits_Len32 at hm0
 try dsimp only at hm0
 refine Does.intro (N := 19) Tryd.func163 rfl rfl rfl rfl ?_
 intro w0 S0 L0
 refine V.seq ?_
 refine V.region ?_
 refine VO.cons rfl (V1.assign rfl rfl rfl lt0 ?_)
 refine VO.nil ?_
 refine V.seq ?_
 replace hm0 := bindO hm0; rcases hm0 with ⟨j0, hm1, hm0⟩
 refine V.cutT (D := (Int × Int) × (Unit)) (fun ⟨⟨x0, n_⟩, _⟩ => ⟨19, [(0, .int .u32 x0), (2, .int .i64 n_)], []⟩) (fun ⟨⟨x0, n_⟩, _⟩ => ((x0, n_) = j0)) ?_ ?_
 ·
  refine V.seq ?_
  refine V.region ?_
  refine VO.cons rfl (V1.move rfl rfl rfl lt0 ?_)
  refine VO.cons rfl (V1.int rfl rfl rfl rfl rfl lt0 ?_)
  refine VO.nil ?_
  refine V.cond rfl (fun hc0 => ?_) (fun hc0 => ?_)
  ·
   replace hm1 := cond_t hc0 hm1
   refine V.seq ?_
   refine V.region ?_
   refine VO.cons rfl (V1.move rfl rfl rfl lt0 ?_)
   refine VO.cons rfl (V1.shr rfl rfl rfl rfl (by decide) lt0 ?_)
   refine VO.cons rfl (V1.assign rfl rfl rfl lt0 ?_)
   refine VO.nil ?_
   refine V.keep 19 [0] [] (E0 := [(0, .int .u32 (Int.fdiv x (2 ^ (min (Int.toNat (16 : Int)) IntKind.u32.bits))))]) (H0 := []) rfl (⟨_, _, rfl, rfl, rfl⟩) (rfl) rfl ?_
   refine V.region ?_
   refine VO.cons rfl (V1.assign rfl rfl rfl lt0 ?_)
   refine VO.nil ?_
   exact ⟨(((Int.fdiv x (2 ^ (min (Int.toNat (16 : Int)) IntKind.u32.bits))), (16 : Int)), ()), Option.some.inj hm1, Keeps.mk (ks := []) rfl ⟨rfl, rfl, trivial⟩ (rfl) rfl⟩
  ·
   replace hm1 := cond_f hc0 hm1
   refine V.skip ?_
   exact ⟨((x, (0 : Int)), ()), Option.some.inj hm1, Keeps.mk (ks := []) rfl ⟨rfl, rfl, trivial⟩ (rfl) rfl⟩
 ·
  rintro ⟨⟨x0, n_⟩, _⟩ rfl
  try dsimp only at hm0
  refine V.seq ?_
  replace hm0 := bindO hm0; rcases hm0 with ⟨j1, hm1, hm0⟩
  refine V.cutT (D := (Int × Int) × (Unit)) (fun ⟨⟨x1, n_0⟩, _⟩ => ⟨19, [(0, .int .u32 x1), (2, .int .i64 n_0)], []⟩) (fun ⟨⟨x1, n_0⟩, _⟩ => ((x1, n_0) = j1)) ?_ ?_
  ·
   refine V.seq ?_
   refine V.region ?_
   refine VO.cons rfl (V1.move rfl rfl rfl lt0 ?_)
   refine VO.cons rfl (V1.int rfl rfl rfl rfl rfl lt0 ?_)
   refine VO.nil ?_
   refine V.cond rfl (fun hc1 => ?_) (fun hc1 => ?_)
   ·
    replace hm1 := cond_t hc1 hm1
    refine V.seq ?_
    refine V.region ?_
    refine VO.cons rfl (V1.move rfl rfl rfl lt0 ?_)
    refine VO.cons rfl (V1.shr rfl rfl rfl rfl (by decide) lt0 ?_)
    refine VO.cons rfl (V1.assign rfl rfl rfl lt0 ?_)
    refine VO.nil ?_
    refine V.keep 19 [0, 2] [] (E0 := [(0, .int .u32 (Int.fdiv x0 (2 ^ (min (Int.toNat (8 : Int)) IntKind.u32.bits)))), (2, .int .i64 n_)]) (H0 := []) rfl (⟨_, _, rfl, rfl, _, _, rfl, rfl, rfl⟩) (rfl) rfl ?_
    refine V.region ?_
    refine VO.cons rfl (V1.move rfl rfl rfl lt0 ?_)
    refine VO.cons rfl (V1.int rfl rfl rfl rfl rfl lt0 ?_)
    refine VO.cons rfl (V1.assign rfl rfl rfl lt0 ?_)
    refine VO.nil ?_
    exact ⟨(((Int.fdiv x0 (2 ^ (min (Int.toNat (8 : Int)) IntKind.u32.bits))), (IntKind.i64.wrap (n_ + (8 : Int)))), ()), Option.some.inj hm1, Keeps.mk (ks := []) rfl ⟨rfl, rfl, trivial⟩ (rfl) rfl⟩
   ·
    replace hm1 := cond_f hc1 hm1
    refine V.skip ?_
    exact ⟨((x0, n_), ()), Option.some.inj hm1, Keeps.mk (ks := []) rfl ⟨rfl, rfl, trivial⟩ (rfl) rfl⟩
  ·
   rintro ⟨⟨x1, n_0⟩, _⟩ rfl
   try dsimp only at hm0
   refine V.seq ?_
   replace hm0 := asrt_some hm0; rcases hm0 with ⟨hh0, hm0⟩
   refine V.region ?_
   refine VO.cons rfl (V1.move rfl rfl rfl lt0 ?_)
   refine VO.cons rfl (V1.move rfl rfl rfl lt0 ?_)
   refine VO.cons rfl (V1.conv rfl rfl und_163 und_5 rfl lt0 ?_)
   refine VO.cons rfl (V1.indexStrI rfl rfl istr_9 rfl rfl hh0 lt0 ?_)
   refine VO.cons rfl (V1.conv rfl rfl und_5 und_3 rfl lt0 ?_)
   refine VO.cons rfl (V1.int rfl rfl rfl rfl rfl lt0 ?_)
   refine VO.cons rfl (V1.assign rfl rfl rfl lt0 ?_)
   refine VO.nil ?_
   refine V.ret ?_
   obtain rfl := Option.some.inj hm0
   exact ⟨_, [], ⟨_, _, rfl, rfl, rfl⟩, List.nil_sublist _, rfl, rfl⟩

theorem ok_math_bits_Len64 {rn : Nat} {x : Int} {r : Int} (h : M.math_bits_Len64 x = some r) : Does Tryd.prog 164 [.int .u64 x] [] rn (fun x H => x = .int .i64 r ∧ H = []) := by
 have hm0 := h; clear h; unfold M.math_bits_Len64 at hm0
 try dsimp only at hm0
 refine Does.intro (N := 25) Tryd.func164 rfl rfl rfl rfl ?_
 intro w0 S0 L0
 refine V.seq ?_
 refine V.region ?_
 refine VO.cons rfl (V1.assign rfl rfl rfl lt0 ?_)
 refine VO.nil ?_
 refine V.seq ?_
 replace hm0 := bindO hm0; rcases hm0 with ⟨j0, hm1, hm0⟩
 refine V.cutT (D := (Int × Int) × (Unit)) (fun ⟨⟨x0, n_⟩, _⟩ => ⟨25, [(0, .int .u64 x0), (2, .int .i64 n_)], []⟩) (fun ⟨⟨x0, n_⟩, _⟩ => ((x0, n_) = j0)) ?_ ?_
 ·
  refine V.seq ?_
  refine V.region ?_
  refine VO.cons rfl (V1.move rfl rfl rfl lt0 ?_)
  refine VO.cons rfl (V1.int rfl rfl rfl rfl rfl lt0 ?_)
  refine VO.nil ?_
  refine V.cond rfl (fun hc0 => ?_) (fun hc0 => ?_)
  ·
   replace hm1 := cond_t hc0 hm1
   refine V.seq ?_
   refine V.region ?_
   refine VO.cons rfl (V1.move rfl rfl rfl lt0 ?_)
   refine VO.cons rfl (V1.shr rfl rfl rfl rfl (by decide) lt0 ?_)
   refine VO.cons rfl (V1.assign rfl rfl rfl lt0 ?_)
   refine VO.nil ?_
   refine V.keep 25 [0] [] (E0 := [(0, .int .u64 (Int.fdiv x (2 ^ (min (Int.toNat (32 : Int)) IntKind.u64.bits))))]) (H0 := []) rfl (⟨_, _, rfl, rfl, rfl⟩) (rfl) rfl ?_
   refine V.region ?_
   refine VO.cons rfl (V1.assign rfl rfl rfl lt0 ?_)
   refine VO.nil ?_
   exact ⟨(((Int.fdiv x (2 ^ (min (Int.toNat (32 : Int)) IntKind.u64.bits))), (32 : Int)), ()), Option.some.inj hm1, Keeps.mk (ks := []) rfl ⟨rfl, rfl, trivial⟩ (rfl) rfl⟩
  ·
   replace hm1 := cond_f hc0 hm1
   refine V.skip ?_
   exact ⟨((x, (0 : Int)), ()), Option.some.inj hm1, Keeps.mk (ks := []) rfl ⟨rfl, rfl, trivial⟩ (rfl) rfl⟩
 ·
  rintro ⟨⟨x0, n_⟩, _⟩ rfl
  try dsimp only at hm0
  refine V.seq ?_
  replace hm0 := bindO hm0; rcases hm0 with ⟨j1, hm1, hm0⟩
  refine V.cutT (D := (Int × Int) × (Unit)) (fun ⟨⟨x1, n_0⟩, _⟩ => ⟨25, [(0, .int .u64 x1), (2, .int .i64 n_0)], []⟩) (fun ⟨⟨x1, n_0⟩, _⟩ => ((x1, n_0) = j1)) ?_ ?_
  ·
   refine V.seq ?_
   refine V.region ?_
   refine VO.cons rfl (V1.move rfl rfl rfl lt0 ?_)
   refine VO.cons rfl (V1.int rfl rfl rfl rfl rfl lt0 ?_)
   refine VO.nil ?_
   refine V.cond rfl (fun hc1 => ?_) (fun hc1 => ?_)
   ·
    replace hm1 := cond_t hc1 hm1
    refine V.seq ?_
    refine V.region ?_
    refine VO.cons rfl (V1.move rfl rfl rfl lt0 ?_)
    refine VO.cons rfl (V1.shr rfl rfl rfl rfl (by decide) lt0 ?_)
    refine VO.cons rfl (V1.assign rfl rfl rfl lt0 ?_)
    refine VO.nil ?_
    refine V.keep 25 [0, 2] [] (E0 := [(0, .int .u64 (Int.fdiv x0 (2 ^ (min (Int.toNat (16 : Int)) IntKind.u64.bits)))), (2, .int .i64 n_)]) (H0 := []) rfl (⟨_, _, rfl, rfl, _, _, rfl, rfl, rfl⟩) (rfl) rfl ?_
    refine V.region ?_
    refine VO.cons rfl (V1.move rfl rfl rfl lt0 ?_)
    refine VO.cons rfl (V1.int rfl rfl rfl rfl rfl lt0 ?_)
    refine VO.cons rfl (V1.assign rfl rfl rfl lt0 ?_)
    refine VO.nil ?_
    exact ⟨(((Int.fdiv x0 (2 ^ (min (Int.toNat (16 : Int)) IntKind.u64.bits))), (IntKind.i64.wrap (n_ + (16 : Int)))), ()), Option.some.inj hm1, Keeps.mk (ks := []) rfl ⟨rfl, rfl, trivial⟩ (rfl) rfl⟩
   ·
    replace hm1 := cond_f hc1 hm1
    refine V.skip ?_
    exact ⟨((x0, n_), ()), Option.some.inj hm1, Keeps.mk (ks := []) rfl ⟨rfl, rfl, trivial⟩ (rfl) rfl⟩
  ·
   rintro ⟨⟨x1, n_0⟩, _⟩ rfl
   try dsimp only at hm0
   refine V.seq ?_
   replace hm0 := bindO hm0; rcases hm0 with ⟨j2, hm1, hm0⟩
   refine V.cutT (D := (Int × Int) × (Unit)) (fun ⟨⟨x2, n_1⟩, _⟩ => ⟨25, [(0, .int .u64 x2), (2, .int .i64 n_1)], []⟩) (fun ⟨⟨x2, n_1⟩, _⟩ => ((x2, n_1) = j2)) ?_ ?_
   ·
    refine V.seq ?_
    refine V.region ?_
    refine VO.cons rfl (V1.move rfl rfl rfl lt0 ?_)
    refine VO.cons rfl (V1.int rfl rfl rfl rfl rfl lt0 ?_)
    refine VO.nil ?_
    refine V.cond rfl (fun hc2 => ?_) (fun hc2 => ?_)
    ·
     replace hm1 := cond_t hc2 hm1
     refine V.seq ?_
     refine V.region ?_
     refine VO.cons rfl (V1.move rfl rfl rfl lt0 ?_)
     refine VO.cons rfl (V1.shr rfl rfl rfl rfl (by decide) lt0 ?_)
     refine VO.cons rfl (V1.assign rfl rfl rfl lt0 ?_)
     refine VO.nil ?_
     refine V.keep 25 [0, 2] [] (E0 := [(0, .int .u64 (Int.fdiv x1 (2 ^ (min (Int.toNat (8 : Int)) IntKind.u64.bits)))), (2, .int .i64 n_0)]) (H0 := []) rfl (⟨_, _, rfl, rfl, _, _, rfl, rfl, rfl⟩) (rfl) rfl ?_
     refine V.region ?_
     refine VO.cons rfl (V1.move rfl rfl rfl lt0 ?_)
     refine VO.cons rfl (V1.int rfl rfl rfl rfl rfl lt0 ?_)
     refine VO.cons rfl (V1.assign rfl rfl rfl lt0 ?_)
     refine VO.nil ?_
     exact ⟨(((Int.fdiv x1 (2 ^ (min (Int.toNat (8 : Int)) IntKind.u64.bits))), (IntKind.i64.wrap (n_0 + (8 : Int)))), ()), Option.some.inj hm1, Keeps.mk (ks := []) rfl ⟨rfl, rfl, trivial⟩ (rfl) rfl⟩
    ·
     replace hm1 := cond_f hc2 hm1
     refine V.skip ?_
     exact ⟨((x1, n_0), ()), Option.some.inj hm1, Keeps.mk (ks := []) rfl ⟨rfl, rfl, trivial⟩ (rfl) rfl⟩
   ·
    rintro ⟨⟨x2, n_1⟩, _⟩ rfl
    try dsimp only at hm0
    refine V.seq ?_
    replace hm0 := asrt_some hm0; rcases hm0 with ⟨hh0, hm0⟩
    refine V.region ?_
    refine VO.cons rfl (V1.move rfl rfl rfl lt0 ?_)
    refine VO.cons rfl (V1.move rfl rfl rfl lt0 ?_)
    refine VO.cons rfl (V1.conv rfl rfl und_75 und_5 rfl lt0 ?_)
    refine VO.cons rfl (V1.indexStrI rfl rfl istr_9 rfl rfl hh0 lt0 ?_)
    refine VO.cons rfl (V1.conv rfl rfl und_5 und_3 rfl lt0 ?_)
    refine VO.cons rfl (V1.int rfl rfl rfl rfl rfl lt0 ?_)
    refine VO.cons rfl (V1.assign rfl rfl rfl lt0 ?_)
    refine VO.nil ?_
    refine V.ret ?_
    obtain rfl := Option.some.inj hm0
    exact ⟨_, [], ⟨_, _, rfl, rfl, rfl⟩, List.nil_sublist _, rfl, rfl⟩

theorem ok_math_bits_Len {rn : Nat} {x : Int} {r : Int} (h : M.math_bits_Len x = some r) : Does Tryd.prog 135 [.int .u64 x] [] rn (fun x H => x = .int .i64 r ∧ H = []) := by
 have hm0 := h; clear h; unfold M.math_bits_Len at hm0
 try dsimp only at hm0
 refine Does.intro (N := 8) Tryd.func135 rfl rfl rfl rfl ?_
 intro w0 S0 L0
 refine V.seq ?_
 refine V.region ?_
 refine VO.cons rfl (V1.assign rfl rfl rfl lt0 ?_)
 refine VO.nil ?_
 refine V.seq ?_
 refine V.cond rfl (fun hc0 => ?_) (fun hc0 => ?_)
 ·
  replace hm0 := cond_t hc0 hm0
  refine V.seq ?_
  replace hm0 := bindO hm0; rcases hm0 with ⟨y0, hh0, hm0⟩
  refine V.region ?_
  refine VO.cons rfl (V1.move rfl rfl rfl lt0 ?_)
  refine VO.cons rfl (V1.conv rfl rfl und_128 und_163 rfl lt0 ?_)
  refine VO.cons rfl (V1.call rfl rfl rfl cok_163 rfl (ok_math_bits_Len32 hh0) rfl lt0 ?_)
  rintro _ _ ⟨rfl, rfl⟩
  refine VO.cons rfl (V1.assign rfl rfl rfl lt0 ?_)
  refine VO.nil ?_
  refine V.ret ?_
  obtain rfl := Option.some.inj hm0
  exact ⟨_, [], ⟨_, _, rfl, rfl, rfl⟩, List.nil_sublist _, rfl, rfl⟩
 ·
  replace hm0 := cond_f hc0 hm0
  refine V.skip ?_
  refine V.seq ?_
  replace hm0 := bindO hm0; rcases hm0 with ⟨y1, hh1, hm0⟩
  refine V.region ?_
  refine VO.cons rfl (V1.move rfl rfl rfl lt0 ?_)
  refine VO.cons rfl (V1.call rfl rfl rfl cok_164 rfl (ok_math_bits_Len64 hh1) rfl lt0 ?_)
  rintro _ _ ⟨rfl, rfl⟩
  refine VO.cons rfl (V1.assign rfl rfl rfl lt0 ?_)
  refine VO.nil ?_
  refine V.ret ?_
  obtain rfl := Option.some.inj hm0
  exact ⟨_, [], ⟨_, _, rfl, rfl, rfl⟩, List.nil_sublist _, rfl, rfl⟩

theorem ok_slices_insertionSortCmpFunc_impl_Span {rn : Nat} {oq : Option Nat} {data : List Span} {a : Int} {b_ : Int} {f3 : Nat} {cs3 : List PV} {r : List Span} {fm : Span → Span → Option Int} (h : M.slices_insertionSortCmpFunc_impl_Span data a b_ fm = some r) (hoq : oq = none → data = []) (hok3 : callOK Tryd.prog f3 = true) (hf3 : ∀ x0 x1 r, fm x0 x1 = some r → Does Tryd.prog f3 (encSpan x0 :: encSpan x1 :: cs3) [] rn (fun x H => x = .int .i64 r ∧ H = [])) : Does Tryd.prog 155 [optS 3 oq (List.length data), .int .i64 a, .int .i64 b_, .fn f3 cs3] (optH 3 oq (List.map encSpan data)) rn (fun x H => x = .tup [] ∧ H = optH 3 oq (List.map encSpan r)) := by
 have hm0 := h; clear h; unfold M.slices_insertionSortCmpFunc_impl_Span at hm0
 try dsimp only at hm0
 refine Does.intro (N := 53) Tryd.func155 rfl rfl rfl rfl ?_
 intro w0 S0 L0
 rcases oq with _ | oq
 ·
  refine V.seq ?_
  refine V.region ?_
  refine VO.cons rfl (V1.move rfl rfl rfl lt0 ?_)
  refine VO.cons rfl (V1.int rfl rfl rfl rfl rfl lt0 ?_)
  refine VO.cons rfl (V1.assign rfl rfl rfl lt0 ?_)
  refine VO.nil ?_
  replace hm0 := bindO hm0; rcases hm0 with ⟨e0, he1, hm0⟩
  refine V.cutT (D := (List Span) × (Unit)) (fun ⟨data0, _⟩ => ⟨53, [(0, .vl rn 3 (List.map encSpan data0))], []⟩) (fun ⟨data0, _⟩ => (data0 = e0)) ?_ ?_
  ·
   refine V.block ?_
   refine V.keep 53 [0, 8, 1, 2, 3] [] (E0 := [(0, .nils), (8, .int .i64 (IntKind.i64.wrap (a + (1 : Int)))), (1, .int .i64 a), (2, .int .i64 b_), (3, .fn f3 cs3)]) (H0 := []) rfl (⟨_, _, rfl, rfl, _, _, rfl, rfl, _, _, rfl, rfl, _, _, rfl, rfl, _, _, rfl, rfl, rfl⟩) (rfl) rfl ?_
   refine V.loopE (D := Nat × (List Span × Int) × (Option Nat)) (fun ⟨n0, ⟨data1, i⟩, ob0⟩ => [(0, optS 3 ob0 (List.length data1)), (8, .int .i64 i)]) (fun ⟨n0, ⟨data1, i⟩, ob0⟩ => optH 3 ob0 (List.map encSpan data1)) (fun ⟨n0, ⟨data1, i⟩, ob0⟩ => loopO (M.slices_insertionSortCmpFunc_impl_Span_l0 a b_ fm) n0 (data1, i) = some e0 ∧ (ob0 = none → data1 = [])) (fun ⟨n0, _, _⟩ => n0) (rounds, (data, (IntKind.i64.wrap (a + (1 : Int)))), none) rfl ⟨he1, (fun _ => (hoq rfl))⟩ ?_
   rintro ⟨n0, ⟨data1, i⟩, ob0⟩ ⟨hP0, hob0⟩
   obtain ⟨m0, y0, rfl, hm1, hl1, hr1⟩ := loop_head hP0
   unfold M.slices_insertionSortCmpFunc_impl_Span_l0 at hm1; dsimp only at hm1
   rcases ob0 with _ | ob0
   ·
    replace hob0 := hob0 rfl
    show V _ _ _ ⟨53, [(0, .nils), (8, .int .i64 i), (1, .int .i64 a), (2, .int .i64 b_), (3, .fn f3 cs3)], []⟩
    refine V.seq ?_
    refine V.seq ?_
    refine V.region ?_
    refine VO.cons rfl (V1.move rfl rfl rfl lt0 ?_)
    refine VO.cons rfl (V1.move rfl rfl rfl lt0 ?_)
    refine VO.cons rfl (V1.int rfl rfl rfl rfl rfl lt0 ?_)
    refine VO.nil ?_
    refine V.cond rfl (fun hc0 => ?_) (fun hc0 => ?_)
    ·
     replace hm1 := cond_t hc0 hm1
     refine V.skip ?_
     refine V.seq ?_
     refine V.block ?_
     refine V.seq ?_
     refine V.region ?_
     refine VO.cons rfl (V1.move rfl rfl rfl lt0 ?_)
     refine VO.cons rfl (V1.assign rfl rfl rfl lt0 ?_)
     refine VO.nil ?_
     refine V.keep 53 [0, 1, 2, 3, 8, 9] [] (E0 := [(0, .nils), (1, .int .i64 a), (2, .int .i64 b_), (3, .fn f3 cs3), (8, .int .i64 i), (9, .int .i64 i)]) (H0 := []) rfl (⟨_, _, rfl, rfl, _, _, rfl, rfl, _, _, rfl, rfl, _, _, rfl, rfl, _, _, rfl, rfl, _, _, rfl, rfl, rfl⟩) (rfl) rfl ?_
     replace hm1 := bindO hm1; rcases hm1 with ⟨e1, he2, hm1⟩
     refine V.cutT (D := (List Span) × (Option Nat)) (fun ⟨data2, ob1⟩ => ⟨53, [(0, optS 3 ob1 (List.length data2)), (1, .int .i64 a), (2, .int .i64 b_), (3, .fn f3 cs3), (8, .int .i64 i)], optH 3 ob1 (List.map encSpan data2)⟩) (fun ⟨data2, ob1⟩ => (data2 = e1) ∧ (ob1 = none → data2 = [])) ?_ ?_
     ·
      refine V.block ?_
      refine V.keep 53 [0, 9, 1, 2, 3, 8] [] (E0 := [(0, .nils), (9, .int .i64 i), (1, .int .i64 a), (2, .int .i64 b_), (3, .fn f3 cs3), (8, .int .i64 i)]) (H0 := []) rfl (⟨_, _, rfl, rfl, _, _, rfl, rfl, _, _, rfl, rfl, _, _, rfl, rfl, _, _, rfl, rfl, _, _, rfl, rfl, rfl⟩) (rfl) rfl ?_
      refine V.loopE (D := Nat × (List Span × Int) × (Unit)) (fun ⟨n1, ⟨data3, j_⟩, _⟩ => [(0, .nils), (9, .int .i64 j_)]) (fun ⟨n1, ⟨data3, j_⟩, _⟩ => []) (fun ⟨n1, ⟨data3, j_⟩, _⟩ => loopO (M.slices_insertionSortCmpFunc_impl_Span_l1 a fm) n1 (data3, j_) = some e1 ∧ data3 = []) (fun ⟨n1, _, _⟩ => n1) (rounds, (data1, i), ()) rfl ⟨he2, hob0⟩ ?_
      rintro ⟨n1, ⟨data3, j_⟩, _⟩ ⟨hP1, hn_data3⟩
      obtain ⟨m1, y1, rfl, hm2, hl2, hr2⟩ := loop_head hP1
      unfold M.slices_insertionSortCmpFunc_impl_Span_l1 at hm2; dsimp only at hm2
      show V _ _ _ ⟨53, [(0, .nils), (9, .int .i64 j_), (1, .int .i64 a), (2, .int .i64 b_), (3, .fn f3 cs3), (8, .int .i64 i)], []⟩
      refine V.seq ?_
      refine V.seq ?_
      replace hm2 := asrt_some hm2; rcases hm2 with ⟨hh0, hm2⟩
      replace hm2 := asrt_some hm2; rcases hm2 with ⟨hh1, hm2⟩
      replace hm2 := bindO hm2; rcases hm2 with ⟨y2, hh2, hm2⟩
      refine V.regionM 53 17 [⟨[(9, none)], [], none⟩, ⟨[(1, none)], [], none⟩, ⟨[(18, some 1), (19, some 0)], [], none⟩, ⟨[(20, some 0)], [], none⟩, ⟨[(3, none)], [(0, true)], none⟩, ⟨[(0, none)], [(1, true)], none⟩, ⟨[(9, none)], [(2, true)], none⟩, ⟨[(23, some 1), (24, some 0)], [(3, true)], none⟩, ⟨[(25, some 0)], [(4, true)], none⟩, ⟨[(0, none)], [(5, true)], none⟩, ⟨[(9, none)], [(6, true)], none⟩, ⟨[(28, some 0)], [(7, true)], none⟩, ⟨[(27, some 2), (29, some 0)], [(8, true)], none⟩, ⟨[(30, some 0)], [(9, true)], none⟩, ⟨[(22, some 9), (26, some 5), (31, some 0)], [(10, true)], none⟩, ⟨[(32, some 0)], [(11, true)], none⟩, ⟨[], [], some (true, 21, 33, 12, 0)⟩] [(0, none), (1, none), (2, none), (3, none), (8, none), (9, none), (34, some 0)] (⟨_, rfl, ⟨_, rfl, ⟨_, rfl, ⟨_, rfl, ⟨_, rfl, ⟨_, rfl, ⟨_, rfl, ⟨_, rfl, ⟨_, rfl, ⟨_, rfl, ⟨_, rfl, ⟨_, rfl, ⟨_, rfl, ⟨_, rfl, ⟨_, rfl, ⟨_, rfl, ⟨_, rfl, ⟨rfl, rfl⟩⟩⟩⟩⟩⟩⟩⟩⟩⟩⟩⟩⟩⟩⟩⟩⟩⟩) mixed_orders rfl (by decide +kernel) (fun hck4 => ?_)
      refine VP.step (p := ?pv2929) rfl rfl rfl (⟨_, _, rfl, rfl, rfl⟩) ?hv2929 ?rest2929 hck4
      case hv2929 =>
       intro E1
       refine (V1.move rfl rfl rfl lt0 ?_)
       exact rfl
      refine VP.step (p := ?pv2930) rfl rfl rfl (⟨_, _, rfl, rfl, rfl⟩) ?hv2930 ?rest2930 hck4
      case hv2930 =>
       intro E1
       refine (V1.move rfl rfl rfl lt0 ?_)
       exact rfl
      refine VP.step (p := ?pv2931) rfl rfl rfl (⟨_, _, rfl, rfl, _, _, rfl, rfl, rfl⟩) ?hv2931 ?rest2931 hck4
      case hv2931 =>
       intro E1
       refine (V1.int rfl rfl rfl rfl rfl lt0 ?_)
       exact rfl
      refine VP.step (p := ?pv2932) rfl rfl rfl (⟨_, _, rfl, rfl, rfl⟩) ?hv2932 ?rest2932 hck4
      case hv2932 =>
       intro E1
       refine (V1.move rfl rfl rfl lt0 ?_)
       exact rfl
      refine VP.step (p := ?pv2933) rfl rfl rfl (⟨_, _, rfl, rfl, rfl⟩) ?hv2933 ?rest2933 hck4
      case hv2933 =>
       refine ⟨_, rfl, fun hg0 => ?_⟩
       intro E1
       refine (V1.move rfl rfl rfl lt0 ?_)
       exact rfl
      refine VP.step (p := ?pv2934) rfl rfl rfl (⟨_, _, rfl, rfl, rfl⟩) ?hv2934 ?rest2934 hck4
      case hv2934 =>
       refine ⟨_, rfl, fun hg0 => ?_⟩
       intro E1
       refine (V1.move rfl rfl rfl lt0 ?_)
       exact rfl
      refine VP.step (p := ?pv2935) rfl rfl rfl (⟨_, _, rfl, rfl, rfl⟩) ?hv2935 ?rest2935 hck4
      case hv2935 =>
       refine ⟨_, rfl, fun hg0 => ?_⟩
       intro E1
       refine (V1.move rfl rfl rfl lt0 ?_)
       exact rfl
      refine VP.step (p := .pin rn (encSpan (data3.getD (Int.toNat j_) default)) 0) rfl rfl rfl (⟨_, _, rfl, rfl, _, _, rfl, rfl, rfl⟩) ?hv2936 ?rest2936 hck4
      case hv2936 =>
       refine ⟨_, rfl, fun hg0 => ?_⟩
       intro E1
       exact ((nilsNo hn_data3 (hh0 hg0))).elim
      refine VP.step (p := encSpan (data3.getD (Int.toNat j_) default)) rfl rfl rfl (⟨_, _, rfl, rfl, rfl⟩) ?hv2937 ?rest2937 hck4
      case hv2937 =>
       refine ⟨_, rfl, fun hg0 => ?_⟩
       intro E1
       exact ((nilsNo hn_data3 (hh0 hg0))).elim
      refine VP.step (p := ?pv2938) rfl rfl rfl (⟨_, _, rfl, rfl, rfl⟩) ?hv2938 ?rest2938 hck4
      case hv2938 =>
       refine ⟨_, rfl, fun hg0 => ?_⟩
       intro E1
       refine (V1.move rfl rfl rfl lt0 ?_)
       exact rfl
      refine VP.step (p := ?pv2939) rfl rfl rfl (⟨_, _, rfl, rfl, rfl⟩) ?hv2939 ?rest2939 hck4
      case hv2939 =>
       refine ⟨_, rfl, fun hg0 => ?_⟩
       intro E1
       refine (V1.move rfl rfl rfl lt0 ?_)
       exact rfl
      refine VP.step (p := ?pv2940) rfl rfl rfl (⟨_, _, rfl, rfl, rfl⟩) ?hv2940 ?rest2940 hck4
      case hv2940 =>
       refine ⟨_, rfl, fun hg0 => ?_⟩
       intro E1
       refine (V1.int rfl rfl rfl rfl rfl lt0 ?_)
       exact rfl
      refine VP.step (p := .pin rn (encSpan (data3.getD (Int.toNat (IntKind.i64.wrap (j_ - (1 : Int)))) default)) 0) rfl rfl rfl (⟨_, _, rfl, rfl, _, _, rfl, rfl, rfl⟩) ?hv2941 ?rest2941 hck4
      case hv2941 =>
       refine ⟨_, rfl, fun hg0 => ?_⟩
       intro E1
       exact ((nilsNo hn_data3 (hh1 hg0))).elim
      refine VP.step (p := encSpan (data3.getD (Int.toNat (IntKind.i64.wrap (j_ - (1 : Int)))) default)) rfl rfl rfl (⟨_, _, rfl, rfl, rfl⟩) ?hv2942 ?rest2942 hck4
      case hv2942 =>
       refine ⟨_, rfl, fun hg0 => ?_⟩
       intro E1
       exact ((nilsNo hn_data3 (hh1 hg0))).elim
      refine VP.step (p := .int .i64 y2) rfl rfl rfl (⟨_, _, rfl, rfl, _, _, rfl, rfl, _, _, rfl, rfl, rfl⟩) ?hv2943 ?rest2943 hck4
      case hv2943 =>
       refine ⟨_, rfl, fun hg0 => ?_⟩
       intro E1
       exact ((nilsNo hn_data3 (hh0 hg0))).elim
      refine VP.step (p := .bool (decide (y2 < (0 : Int)))) rfl rfl rfl (⟨_, _, rfl, rfl, rfl⟩) ?hv2944 ?rest2944 hck4
      case hv2944 =>
       refine ⟨_, rfl, fun hg0 => ?_⟩
       intro E1
       exact ((nilsNo hn_data3 (hh0 hg0))).elim
      refine VP.pickAnd rfl rfl rfl rfl rfl rfl (trivial) ?_ hck4
      refine VP.fin rfl (⟨_, _, rfl, rfl, _, _, rfl, rfl, _, _, rfl, rfl, _, _, rfl, rfl, _, _, rfl, rfl, _, _, rfl, rfl, _, _, rfl, rfl, rfl⟩) ?_
      refine VO.nil ?_
      refine V.cond rfl (fun hc1 => ?_) (fun hc1 => ?_)
      ·
       replace hm2 := cond_t hc1 hm2
       refine V.skip ?_
       refine V.seq ?_
       refine V.block ?_
       replace hm2 := asrt_some hm2; rcases hm2 with ⟨hh3, hm2⟩
       exact (nilsNo hn_data3 hh3).elim
      ·
       replace hm2 := cond_f hc1 hm2
       refine V.exit ?_
       obtain rfl := hr2 _ (Option.some.inj hm2).symm
       exact ⟨(data3, none), ⟨rfl, (fun _ => hn_data3)⟩, Keeps.mk (ks := []) rfl ⟨rfl, rfl, rfl, rfl, rfl, trivial⟩ (rfl) rfl⟩
     ·
      rintro ⟨data2, ob1⟩ ⟨rfl, hob1⟩
      try dsimp only at hm1
      rcases ob1 with _ | ob1
      ·
       replace hob1 := hob1 rfl
       refine V.region ?_
       refine VO.cons rfl (V1.move rfl rfl rfl lt0 ?_)
       refine VO.cons rfl (V1.int rfl rfl rfl rfl rfl lt0 ?_)
       refine VO.cons rfl (V1.assign rfl rfl rfl lt0 ?_)
       refine VO.nil ?_
       exact ⟨(m0, (data2, (IntKind.i64.wrap (i + (1 : Int)))), none), ⟨hl1 _ (Option.some.inj hm1).symm, (fun _ => hob1)⟩, Nat.lt_succ_self _, Keeps.mk (ks := []) rfl ⟨rfl, rfl, rfl, rfl, rfl, trivial⟩ (rfl) rfl⟩
      ·
       refine V.region ?_
       refine VO.cons rfl (V1.move rfl rfl rfl lt0 ?_)
       refine VO.cons rfl (V1.int rfl rfl rfl rfl rfl lt0 ?_)
       refine VO.cons rfl (V1.assign rfl rfl rfl lt0 ?_)
       refine VO.nil ?_
       exact ⟨(m0, (data2, (IntKind.i64.wrap (i + (1 : Int)))), (some ob1)), ⟨hl1 _ (Option.some.inj hm1).symm, (fun e => by cases e)⟩, Nat.lt_succ_self _, Keeps.mk (ks := [0]) rfl ⟨rfl, rfl, rfl, rfl, rfl, trivial⟩ (⟨_, _, rfl, rfl, rfl⟩) rfl⟩
    ·
     replace hm1 := cond_f hc0 hm1
     refine V.exit ?_
     obtain rfl := hr1 _ (Option.some.inj hm1).symm
     exact ⟨(data1, ()), rfl, Keeps.trans (Keeps.nilsE (l := data1) 0 rn 3 encSpan hob0 rfl rfl) (Keeps.mk (ks := []) rfl ⟨rfl, trivial⟩ (rfl) rfl)⟩
   ·
    show V _ _ _ ⟨53, [(0, .sref ob0 3 0 (List.length data1)), (8, .int .i64 i), (1, .int .i64 a), (2, .int .i64 b_), (3, .fn f3 cs3)], [(ob0, ⟨3, List.map encSpan data1⟩)]⟩
    refine V.seq ?_
    refine V.seq ?_
    refine V.region ?_
    refine VO.cons rfl (V1.move rfl rfl rfl lt0 ?_)
    refine VO.cons rfl (V1.move rfl rfl rfl lt0 ?_)
    refine VO.cons rfl (V1.int rfl rfl rfl rfl rfl lt0 ?_)
    refine VO.nil ?_
    refine V.cond rfl (fun hc0 => ?_) (fun hc0 => ?_)
    ·
     replace hm1 := cond_t hc0 hm1
     refine V.skip ?_
     refine V.seq ?_
     refine V.block ?_
     refine V.seq ?_
     refine V.region ?_
     refine VO.cons rfl (V1.move rfl rfl rfl lt0 ?_)
     refine VO.cons rfl (V1.assign rfl rfl rfl lt0 ?_)
     refine VO.nil ?_
     refine V.keep 53 [0, 1, 2, 3, 8, 9] [0] (E0 := [(0, .sref ob0 3 0 (List.length data1)), (1, .int .i64 a), (2, .int .i64 b_), (3, .fn f3 cs3), (8, .int .i64 i), (9, .int .i64 i)]) (H0 := [(ob0, ⟨3, List.map encSpan data1⟩)]) rfl (⟨_, _, rfl, rfl, _, _, rfl, rfl, _, _, rfl, rfl, _, _, rfl, rfl, _, _, rfl, rfl, _, _, rfl, rfl, rfl⟩) (⟨_, _, rfl, rfl, rfl⟩) rfl ?_
     replace hm1 := bindO hm1; rcases hm1 with ⟨e1, he2, hm1⟩
     refine V.cutT (D := (List Span) × (Unit)) (fun ⟨data2, _⟩ => ⟨53, [(0, .sref ob0 3 0 (List.length data2)), (1, .int .i64 a), (2, .int .i64 b_), (3, .fn f3 cs3), (8, .int .i64 i)], [(ob0, ⟨3, List.map encSpan data2⟩)]⟩) (fun ⟨data2, _⟩ => (data2 = e1)) ?_ ?_
     ·
      refine V.block ?_
      refine V.keep 53 [0, 9, 1, 2, 3, 8] [0] (E0 := [(0, .sref ob0 3 0 (List.length data1)), (9, .int .i64 i), (1, .int .i64 a), (2, .int .i64 b_), (3, .fn f3 cs3), (8, .int .i64 i)]) (H0 := [(ob0, ⟨3, List.map encSpan data1⟩)]) rfl (⟨_, _, rfl, rfl, _, _, rfl, rfl, _, _, rfl, rfl, _, _, rfl, rfl, _, _, rfl, rfl, _, _, rfl, rfl, rfl⟩) (⟨_, _, rfl, rfl, rfl⟩) rfl ?_
      refine V.loopE (D := Nat × (List Span × Int) × (Unit)) (fun ⟨n1, ⟨data3, j_⟩, _⟩ => [(0, .sref ob0 3 0 (List.length data3)), (9, .int .i64 j_)]) (fun ⟨n1, ⟨data3, j_⟩, _⟩ => [(ob0, ⟨3, List.map encSpan data3⟩)]) (fun ⟨n1, ⟨data3, j_⟩, _⟩ => loopO (M.slices_insertionSortCmpFunc_impl_Span_l1 a fm) n1 (data3, j_) = some e1) (fun ⟨n1, _, _⟩ => n1) (rounds, (data1, i), ()) rfl he2 ?_
      rintro ⟨n1, ⟨data3, j_⟩, _⟩ hP1
      obtain ⟨m1, y1, rfl, hm2, hl2, hr2⟩ := loop_head hP1
      unfold M.slices_insertionSortCmpFunc_impl_Span_l1 at hm2; dsimp only at hm2
      show V _ _ _ ⟨53, [(0, .sref ob0 3 0 (List.length data3)), (9, .int .i64 j_), (1, .int .i64 a), (2, .int .i64 b_), (3, .fn f3 cs3), (8, .int .i64 i)], [(ob0, ⟨3, List.map encSpan data3⟩)]⟩
      refine V.seq ?_
      refine V.seq ?_
      replace hm2 := asrt_some hm2; rcases hm2 with ⟨hh0, hm2⟩
      replace hm2 := asrt_some hm2; rcases hm2 with ⟨hh1, hm2⟩
      replace hm2 := bindO hm2; rcases hm2 with ⟨y2, hh2, hm2⟩
      refine V.regionM 53 17 [⟨[(9, none)], [], none⟩, ⟨[(1, none)], [], none⟩, ⟨[(18, some 1), (19, some 0)], [], none⟩, ⟨[(20, some 0)], [], none⟩, ⟨[(3, none)], [(0, true)], none⟩, ⟨[(0, none)], [(1, true)], none⟩, ⟨[(9, none)], [(2, true)], none⟩, ⟨[(23, some 1), (24, some 0)], [(3, true)], none⟩, ⟨[(25, some 0)], [(4, true)], none⟩, ⟨[(0, none)], [(5, true)], none⟩, ⟨[(9, none)], [(6, true)], none⟩, ⟨[(28, some 0)], [(7, true)], none⟩, ⟨[(27, some 2), (29, some 0)], [(8, true)], none⟩, ⟨[(30, some 0)], [(9, true)], none⟩, ⟨[(22, some 9), (26, some 5), (31, some 0)], [(10, true)], none⟩, ⟨[(32, some 0)], [(11, true)], none⟩, ⟨[], [], some (true, 21, 33, 12, 0)⟩] [(0, none), (1, none), (2, none), (3, none), (8, none), (9, none), (34, some 0)] (⟨_, rfl, ⟨_, rfl, ⟨_, rfl, ⟨_, rfl, ⟨_, rfl, ⟨_, rfl, ⟨_, rfl, ⟨_, rfl, ⟨_, rfl, ⟨_, rfl, ⟨_, rfl, ⟨_, rfl, ⟨_, rfl, ⟨_, rfl, ⟨_, rfl, ⟨_, rfl, ⟨_, rfl, ⟨rfl, rfl⟩⟩⟩⟩⟩⟩⟩⟩⟩⟩⟩⟩⟩⟩⟩⟩⟩⟩) mixed_orders rfl (by decide +kernel) (fun hck4 => ?_)
      refine VP.step (p := ?pv3077) rfl rfl rfl (⟨_, _, rfl, rfl, rfl⟩) ?hv3077 ?rest3077 hck4
      case hv3077 =>
       intro E1
       refine (V1.move rfl rfl rfl lt0 ?_)
       exact rfl
      refine VP.step (p := ?pv3078) rfl rfl rfl (⟨_, _, rfl, rfl, rfl⟩) ?hv3078 ?rest3078 hck4
      case hv3078 =>
       intro E1
       refine (V1.move rfl rfl rfl lt0 ?_)
       exact rfl
      refine VP.step (p := ?pv3079) rfl rfl rfl (⟨_, _, rfl, rfl, _, _, rfl, rfl, rfl⟩) ?hv3079 ?rest3079 hck4
      case hv3079 =>
       intro E1
       refine (V1.int rfl rfl rfl rfl rfl lt0 ?_)
       exact rfl
      refine VP.step (p := ?pv3080) rfl rfl rfl (⟨_, _, rfl, rfl, rfl⟩) ?hv3080 ?rest3080 hck4
      case hv3080 =>
       intro E1
       refine (V1.move rfl rfl rfl lt0 ?_)
       exact rfl
      refine VP.step (p := ?pv3081) rfl rfl rfl (⟨_, _, rfl, rfl, rfl⟩) ?hv3081 ?rest3081 hck4
      case hv3081 =>
       refine ⟨_, rfl, fun hg0 => ?_⟩
       intro E1
       refine (V1.move rfl rfl rfl lt0 ?_)
       exact rfl
      refine VP.step (p := ?pv3082) rfl rfl rfl (⟨_, _, rfl, rfl, rfl⟩) ?hv3082 ?rest3082 hck4
      case hv3082 =>
       refine ⟨_, rfl, fun hg0 => ?_⟩
       intro E1
       refine (V1.move rfl rfl rfl lt0 ?_)
       exact rfl
      refine VP.step (p := ?pv3083) rfl rfl rfl (⟨_, _, rfl, rfl, rfl⟩) ?hv3083 ?rest3083 hck4
      case hv3083 =>
       refine ⟨_, rfl, fun hg0 => ?_⟩
       intro E1
       refine (V1.move rfl rfl rfl lt0 ?_)
       exact rfl
      refine VP.step (p := ?pv3084) rfl rfl rfl (⟨_, _, rfl, rfl, _, _, rfl, rfl, rfl⟩) ?hv3084 ?rest3084 hck4
      case hv3084 =>
       refine ⟨_, rfl, fun hg0 => ?_⟩
       intro E1
       refine (V1.indexSr rfl rfl esz_58 rfl rfl (hh0 hg0) lt0 ?_)
       exact rfl
      refine VP.step (p := ?pv3085) rfl rfl rfl (⟨_, _, rfl, rfl, rfl⟩) ?hv3085 ?rest3085 hck4
      case hv3085 =>
       refine ⟨_, rfl, fun hg0 => ?_⟩
       intro E1
       refine (V1.loadMapAll (k := 0) (f := encSpan) rfl rfl tyk_66 rfl rfl (by simpa using natLt (hh0 hg0).1 (hh0 hg0).2) rfl lt0 ?_)
       exact rfl
      refine VP.step (p := ?pv3086) rfl rfl rfl (⟨_, _, rfl, rfl, rfl⟩) ?hv3086 ?rest3086 hck4
      case hv3086 =>
       refine ⟨_, rfl, fun hg0 => ?_⟩
       intro E1
       refine (V1.move rfl rfl rfl lt0 ?_)
       exact rfl
      refine VP.step (p := ?pv3087) rfl rfl rfl (⟨_, _, rfl, rfl, rfl⟩) ?hv3087 ?rest3087 hck4
      case hv3087 =>
       refine ⟨_, rfl, fun hg0 => ?_⟩
       intro E1
       refine (V1.move rfl rfl rfl lt0 ?_)
       exact rfl
      refine VP.step (p := ?pv3088) rfl rfl rfl (⟨_, _, rfl, rfl, rfl⟩) ?hv3088 ?rest3088 hck4
      case hv3088 =>
       refine ⟨_, rfl, fun hg0 => ?_⟩
       intro E1
       refine (V1.int rfl rfl rfl rfl rfl lt0 ?_)
       exact rfl
      refine VP.step (p := ?pv3089) rfl rfl rfl (⟨_, _, rfl, rfl, _, _, rfl, rfl, rfl⟩) ?hv3089 ?rest3089 hck4
      case hv3089 =>
       refine ⟨_, rfl, fun hg0 => ?_⟩
       intro E1
       refine (V1.indexSr rfl rfl esz_58 rfl rfl (hh1 hg0) lt0 ?_)
       exact rfl
      refine VP.step (p := ?pv3090) rfl rfl rfl (⟨_, _, rfl, rfl, rfl⟩) ?hv3090 ?rest3090 hck4
      case hv3090 =>
       refine ⟨_, rfl, fun hg0 => ?_⟩
       intro E1
       refine (V1.loadMapAll (k := 0) (f := encSpan) rfl rfl tyk_66 rfl rfl (by simpa using natLt (hh1 hg0).1 (hh1 hg0).2) rfl lt0 ?_)
       exact rfl
      refine VP.step (p := ?pv3091) rfl rfl rfl (⟨_, _, rfl, rfl, _, _, rfl, rfl, _, _, rfl, rfl, rfl⟩) ?hv3091 ?rest3091 hck4
      case hv3091 =>
       refine ⟨_, rfl, fun hg0 => ?_⟩
       intro E1
       refine (V1.callG (τ := 0) (Bw := []) rfl lt0 (run_callFn rfl rfl rfl hok3 rfl) (.refl _) (Lends.same _) (fun _ h => by cases h) ((hf3 _ _  _) (cond_t hg0 hh2)) (.inl rfl) (.inl rfl) ?_)
       rintro _ _ ⟨rfl, rfl⟩
       exact rfl
      refine VP.step (p := ?pv3092) rfl rfl rfl (⟨_, _, rfl, rfl, rfl⟩) ?hv3092 ?rest3092 hck4
      case hv3092 =>
       refine ⟨_, rfl, fun hg0 => ?_⟩
       intro E1
       refine (V1.int rfl rfl rfl rfl rfl lt0 ?_)
       exact rfl
      refine VP.pickAnd rfl rfl rfl rfl rfl rfl (trivial) ?_ hck4
      refine VP.fin rfl (⟨_, _, rfl, rfl, _, _, rfl, rfl, _, _, rfl, rfl, _, _, rfl, rfl, _, _, rfl, rfl, _, _, rfl, rfl, _, _, rfl, rfl, rfl⟩) ?_
      refine VO.nil ?_
      refine V.cond rfl (fun hc1 => ?_) (fun hc1 => ?_)
      ·
       replace hm2 := cond_t hc1 hm2
       refine V.skip ?_
       refine V.seq ?_
       refine V.block ?_
       replace hm2 := asrt_some hm2; rcases hm2 with ⟨hh3, hm2⟩
       replace hm2 := asrt_some hm2; rcases hm2 with ⟨hh4, hm2⟩
       replace hm2 := asrt_some hm2; rcases hm2 with ⟨hh5, hm2⟩
       replace hm2 := asrt_some hm2; rcases hm2 with ⟨hh6, hm2⟩
       replace hm2 := bindO hm2; rcases hm2 with ⟨j0, hm3, hm2⟩
       refine V.cutT (D := (List Span) × (Unit)) (fun ⟨data4, _⟩ => ⟨53, [(0, .sref ob0 3 0 (List.length data4)), (1, .int .i64 a), (2, .int .i64 b_), (3, .fn f3 cs3), (8, .int .i64 i), (9, .int .i64 j_)], [(ob0, ⟨3, List.map encSpan data4⟩)]⟩) (fun ⟨data4, _⟩ => (data4 = j0)) ?_ ?_
       ·
        refine V.regionS [] 53 16 [⟨[(0, none)], false⟩, ⟨[(9, none)], false⟩, ⟨[(0, none)], false⟩, ⟨[(9, none)], false⟩, ⟨[(40, some 3)], false⟩, ⟨[(0, none)], false⟩, ⟨[(9, none)], false⟩, ⟨[(43, some 6)], false⟩, ⟨[(42, some 5), (44, some 7)], false⟩, ⟨[(45, some 8)], true⟩, ⟨[(0, none)], false⟩, ⟨[(9, none)], false⟩, ⟨[(47, some 10), (48, some 11)], false⟩, ⟨[(49, some 12)], true⟩, ⟨[(37, some 0), (38, some 1)], false⟩, ⟨[(46, some 9), (51, some 14)], true⟩] [(0, none), (1, none), (2, none), (3, none), (8, none), (9, none), (39, some 2), (41, some 4), (50, some 13)] 3 (⟨_, rfl, ⟨_, rfl, ⟨_, rfl, ⟨_, rfl, ⟨_, rfl, ⟨_, rfl, ⟨_, rfl, ⟨_, rfl, ⟨_, rfl, ⟨_, rfl, ⟨_, rfl, ⟨_, rfl, ⟨_, rfl, ⟨_, rfl, ⟨_, rfl, ⟨_, rfl, ⟨rfl, rfl⟩⟩⟩⟩⟩⟩⟩⟩⟩⟩⟩⟩⟩⟩⟩⟩⟩) mixed_orders rfl (by decide +kernel) ?_
        refine WalkP.step (p := ?pv3107) 0 rfl rfl rfl rfl rfl (⟨_, _, rfl, rfl, rfl⟩) ?hv3107 ?rest3107
        case hv3107 =>
         intro E1 H1 hI1
         refine (V1.move rfl rfl rfl lt0 ?_)
         exact rfl
        refine WalkP.step (p := ?pv3108) 1 rfl rfl rfl rfl rfl (⟨_, _, rfl, rfl, rfl⟩) ?hv3108 ?rest3108
        case hv3108 =>
         intro E1 H1 hI1
         refine (V1.move rfl rfl rfl lt0 ?_)
         exact rfl
        refine WalkP.step (p := ?pv3109) 2 rfl rfl rfl rfl rfl (⟨_, _, rfl, rfl, rfl⟩) ?hv3109 ?rest3109
        case hv3109 =>
         intro E1 H1 hI1
         refine (V1.move rfl rfl rfl lt0 ?_)
         exact rfl
        refine WalkP.step (p := ?pv3110) 3 rfl rfl rfl rfl rfl (⟨_, _, rfl, rfl, rfl⟩) ?hv3110 ?rest3110
        case hv3110 =>
         intro E1 H1 hI1
         refine (V1.move rfl rfl rfl lt0 ?_)
         exact rfl
        refine WalkP.step (p := ?pv3111) 4 rfl rfl rfl rfl rfl (⟨_, _, rfl, rfl, rfl⟩) ?hv3111 ?rest3111
        case hv3111 =>
         intro E1 H1 hI1
         refine (V1.int rfl rfl rfl rfl rfl lt0 ?_)
         exact rfl
        refine WalkP.step (p := ?pv3112) 5 rfl rfl rfl rfl rfl (⟨_, _, rfl, rfl, rfl⟩) ?hv3112 ?rest3112
        case hv3112 =>
         intro E1 H1 hI1
         refine (V1.move rfl rfl rfl lt0 ?_)
         exact rfl
        refine WalkP.step (p := ?pv3113) 6 rfl rfl rfl rfl rfl (⟨_, _, rfl, rfl, rfl⟩) ?hv3113 ?rest3113
        case hv3113 =>
         intro E1 H1 hI1
         refine (V1.move rfl rfl rfl lt0 ?_)
         exact rfl
        refine WalkP.step (p := ?pv3114) 7 rfl rfl rfl rfl rfl (⟨_, _, rfl, rfl, rfl⟩) ?hv3114 ?rest3114
        case hv3114 =>
         intro E1 H1 hI1
         refine (V1.int rfl rfl rfl rfl rfl lt0 ?_)
         exact rfl
        refine WalkP.step (p := ?pv3115) 8 rfl rfl rfl rfl rfl (⟨_, _, rfl, rfl, _, _, rfl, rfl, rfl⟩) ?hv3115 ?rest3115
        case hv3115 =>
         intro E1 H1 hI1
         refine (V1.indexSr rfl rfl esz_58 rfl rfl hh3 lt0 ?_)
         exact rfl
        refine WalkP.step (p := ?pv3116) 10 rfl rfl rfl rfl rfl (⟨_, _, rfl, rfl, rfl⟩) ?hv3116 ?rest3116
        case hv3116 =>
         intro E1 H1 hI1
         refine (V1.move rfl rfl rfl lt0 ?_)
         exact rfl
        refine WalkP.step (p := ?pv3117) 11 rfl rfl rfl rfl rfl (⟨_, _, rfl, rfl, rfl⟩) ?hv3117 ?rest3117
        case hv3117 =>
         intro E1 H1 hI1
         refine (V1.move rfl rfl rfl lt0 ?_)
         exact rfl
        refine WalkP.step (p := ?pv3118) 12 rfl rfl rfl rfl rfl (⟨_, _, rfl, rfl, _, _, rfl, rfl, rfl⟩) ?hv3118 ?rest3118
        case hv3118 =>
         intro E1 H1 hI1
         refine (V1.indexSr rfl rfl esz_58 rfl rfl hh4 lt0 ?_)
         exact rfl
        refine WalkP.nil ?_
        refine NodeS.branch [9, 13] inNil rfl rfl rfl ⟨?_, ?_, trivial⟩
        ·
         refine ⟨_, _, _, _, rfl, rfl, rfl, (⟨_, _, rfl, rfl, rfl⟩), fun E1 => ?_⟩
         refine (V1.loadMapAll (k := 0) (f := encSpan) rfl rfl tyk_66 rfl rfl (by simpa using natLt hh3.1 hh3.2) rfl lt0 ?_)
         refine ⟨_, _, rfl, ?_⟩
         refine WalkP.nil ?_
         refine NodeS.branch [13] inNil rfl rfl rfl ⟨?_, trivial⟩
         ·
          refine ⟨_, _, _, _, rfl, rfl, rfl, (⟨_, _, rfl, rfl, rfl⟩), fun E1 => ?_⟩
          refine (V1.loadMapAll (k := 0) (f := encSpan) rfl rfl tyk_66 rfl rfl (by simpa using natLt hh4.1 hh4.2) rfl lt0 ?_)
          refine ⟨_, _, rfl, ?_⟩
          refine WalkP.step (p := ?pv3119) 14 rfl rfl rfl rfl rfl (⟨_, _, rfl, rfl, _, _, rfl, rfl, rfl⟩) ?hv3119 ?rest3119
          case hv3119 =>
           intro E1 H1 hI1
           refine (V1.indexSr rfl rfl esz_58 rfl rfl hh5 lt0 ?_)
           exact rfl
          refine WalkP.nil ?_
          refine NodeS.branch [15] inNil rfl rfl rfl ⟨?_, trivial⟩
          ·
           refine ⟨_, _, _, _, rfl, rfl, rfl, (⟨_, _, rfl, rfl, _, _, rfl, rfl, rfl⟩), fun E1 => ?_⟩
           refine (V1.storeMap (k := 0) (f := encSpan) (x := (data3.getD (Int.toNat (IntKind.i64.wrap (j_ - (1 : Int)))) default)) rfl rfl tyk_66 rfl rfl (by simpa using natLt hh5.1 hh5.2) rfl rfl ?_)
           refine ⟨.undef, _, rfl, ?_⟩
           refine WalkP.nil ?_
           refine NodeS.fin inNil rfl rfl rfl (⟨_, _, rfl, rfl, _, _, rfl, rfl, _, _, rfl, rfl, _, _, rfl, rfl, _, _, rfl, rfl, _, _, rfl, rfl, _, _, rfl, rfl, _, _, rfl, rfl, _, _, rfl, rfl, rfl⟩) ?_
           refine VO.weakenK (Keeps.say 0 (y := .sref ob0 3 0 (List.length (data3.set (Int.toNat j_) (data3.getD (Int.toNat (IntKind.i64.wrap (j_ - (1 : Int)))) default)))) rfl (by simp [optS])) ?_
           refine VO.weakenK (Keeps.say 39 (y := .sref ob0 3 0 (List.length (data3.set (Int.toNat j_) (data3.getD (Int.toNat (IntKind.i64.wrap (j_ - (1 : Int)))) default)))) rfl (by simp [optS])) ?_
           refine VO.cons rfl (V1.indexSr rfl rfl esz_58 rfl rfl hh6 lt0 ?_)
           refine VO.cons rfl (V1.storeMap (k := 0) (f := encSpan) (x := (data3.getD (Int.toNat j_) default)) rfl rfl tyk_66 rfl rfl (by simpa using natLt hh6.1 hh6.2) rfl rfl ?_)
           refine VO.weakenK (Keeps.say 0 (y := .sref ob0 3 0 (List.length ((data3.set (Int.toNat j_) (data3.getD (Int.toNat (IntKind.i64.wrap (j_ - (1 : Int)))) default)).set (Int.toNat (IntKind.i64.wrap (j_ - (1 : Int)))) (data3.getD (Int.toNat j_) default)))) rfl (by simp [optS])) ?_
           refine VO.nil ?_
           exact ⟨(((data3.set (Int.toNat j_) (data3.getD (Int.toNat (IntKind.i64.wrap (j_ - (1 : Int)))) default)).set (Int.toNat (IntKind.i64.wrap (j_ - (1 : Int)))) (data3.getD (Int.toNat j_) default)), ()), Option.some.inj hm3, Keeps.mk (ks := [0]) rfl ⟨(someSref (by simp)), rfl, rfl, rfl, rfl, rfl, trivial⟩ (⟨_, _, rfl, rfl, rfl⟩) rfl⟩
        ·
         refine ⟨_, _, _, _, rfl, rfl, rfl, (⟨_, _, rfl, rfl, rfl⟩), fun E1 => ?_⟩
         refine (V1.loadMapAll (k := 0) (f := encSpan) rfl rfl tyk_66 rfl rfl (by simpa using natLt hh4.1 hh4.2) rfl lt0 ?_)
         refine ⟨_, _, rfl, ?_⟩
         refine WalkP.nil ?_
         refine NodeS.branch [9] inNil rfl rfl rfl ⟨?_, trivial⟩
         ·
          refine ⟨_, _, _, _, rfl, rfl, rfl, (⟨_, _, rfl, rfl, rfl⟩), fun E1 => ?_⟩
          refine (V1.loadMapAll (k := 0) (f := encSpan) rfl rfl tyk_66 rfl rfl (by simpa using natLt hh3.1 hh3.2) rfl lt0 ?_)
          refine ⟨_, _, rfl, ?_⟩
          refine WalkP.step (p := ?pv3120) 14 rfl rfl rfl rfl rfl (⟨_, _, rfl, rfl, _, _, rfl, rfl, rfl⟩) ?hv3120 ?rest3120
          case hv3120 =>
           intro E1 H1 hI1
           refine (V1.indexSr rfl rfl esz_58 rfl rfl hh5 lt0 ?_)
           exact rfl
          refine WalkP.nil ?_
          refine NodeS.branch [15] inNil rfl rfl rfl ⟨?_, trivial⟩
          ·
           refine ⟨_, _, _, _, rfl, rfl, rfl, (⟨_, _, rfl, rfl, _, _, rfl, rfl, rfl⟩), fun E1 => ?_⟩
           refine (V1.storeMap (k := 0) (f := encSpan) (x := (data3.getD (Int.toNat (IntKind.i64.wrap (j_ - (1 : Int)))) default)) rfl rfl tyk_66 rfl rfl (by simpa using natLt hh5.1 hh5.2) rfl rfl ?_)
           refine ⟨.undef, _, rfl, ?_⟩
           refine WalkP.nil ?_
           refine NodeS.fin inNil rfl rfl rfl (⟨_, _, rfl, rfl, _, _, rfl, rfl, _, _, rfl, rfl, _, _, rfl, rfl, _, _, rfl, rfl, _, _, rfl, rfl, _, _, rfl, rfl, _, _, rfl, rfl, _, _, rfl, rfl, rfl⟩) ?_
           refine VO.weakenK (Keeps.say 0 (y := .sref ob0 3 0 (List.length (data3.set (Int.toNat j_) (data3.getD (Int.toNat (IntKind.i64.wrap (j_ - (1 : Int)))) default)))) rfl (by simp [optS])) ?_
           refine VO.weakenK (Keeps.say 39 (y := .sref ob0 3 0 (List.length (data3.set (Int.toNat j_) (data3.getD (Int.toNat (IntKind.i64.wrap (j_ - (1 : Int)))) default)))) rfl (by simp [optS])) ?_
           refine VO.cons rfl (V1.indexSr rfl rfl esz_58 rfl rfl hh6 lt0 ?_)
           refine VO.cons rfl (V1.storeMap (k := 0) (f := encSpan) (x := (data3.getD (Int.toNat j_) default)) rfl rfl tyk_66 rfl rfl (by simpa using natLt hh6.1 hh6.2) rfl rfl ?_)
           refine VO.weakenK (Keeps.say 0 (y := .sref ob0 3 0 (List.length ((data3.set (Int.toNat j_) (data3.getD (Int.toNat (IntKind.i64.wrap (j_ - (1 : Int)))) default)).set (Int.toNat (IntKind.i64.wrap (j_ - (1 : Int)))) (data3.getD (Int.toNat j_) default)))) rfl (by simp [optS])) ?_
           refine VO.nil ?_
           exact ⟨(((data3.set (Int.toNat j_) (data3.getD (Int.toNat (IntKind.i64.wrap (j_ - (1 : Int)))) default)).set (Int.toNat (IntKind.i64.wrap (j_ - (1 : Int)))) (data3.getD (Int.toNat j_) default)), ()), Option.some.inj hm3, Keeps.mk (ks := [0]) rfl ⟨(someSref (by simp)), rfl, rfl, rfl, rfl, rfl, trivial⟩ (⟨_, _, rfl, rfl, rfl⟩) rfl⟩
       ·
        rintro ⟨data4, _⟩ rfl
        try dsimp only at hm2
        refine V.region ?_
        refine VO.cons rfl (V1.move rfl rfl rfl lt0 ?_)
        refine VO.cons rfl (V1.int rfl rfl rfl rfl rfl lt0 ?_)
        refine VO.cons rfl (V1.assign rfl rfl rfl lt0 ?_)
        refine VO.nil ?_
        exact ⟨(m1, (data4, (IntKind.i64.wrap (j_ - (1 : Int)))), ()), hl2 _ (Option.some.inj hm2).symm, Nat.lt_succ_self _, Keeps.mk (ks := [0]) rfl ⟨(someSref (by simp)), rfl, rfl, rfl, rfl, rfl, trivial⟩ (⟨_, _, rfl, rfl, rfl⟩) rfl⟩
      ·
       replace hm2 := cond_f hc1 hm2
       refine V.exit ?_
       obtain rfl := hr2 _ (Option.some.inj hm2).symm
       exact ⟨(data3, ()), rfl, Keeps.mk (ks := [0]) rfl ⟨(someSref (by simp)), rfl, rfl, rfl, rfl, trivial⟩ (⟨_, _, rfl, rfl, rfl⟩) rfl⟩
     ·
      rintro ⟨data2, _⟩ rfl
      try dsimp only at hm1
      refine V.region ?_
      refine VO.cons rfl (V1.move rfl rfl rfl lt0 ?_)
      refine VO.cons rfl (V1.int rfl rfl rfl rfl rfl lt0 ?_)
      refine VO.cons rfl (V1.assign rfl rfl rfl lt0 ?_)
      refine VO.nil ?_
      exact ⟨(m0, (data2, (IntKind.i64.wrap (i + (1 : Int)))), (some ob0)), ⟨hl1 _ (Option.some.inj hm1).symm, (fun e => by cases e)⟩, Nat.lt_succ_self _, Keeps.mk (ks := [0]) rfl ⟨rfl, rfl, rfl, rfl, rfl, trivial⟩ (⟨_, _, rfl, rfl, rfl⟩) rfl⟩
    ·
     replace hm1 := cond_f hc0 hm1
     refine V.exit ?_
     obtain rfl := hr1 _ (Option.some.inj hm1).symm
     exact ⟨(data1, ()), rfl, Keeps.trans (Keeps.freezeG 0 rn [(0, .vl rn 3 (List.map encSpan data1))] ([]) (f := encSpan) (l := data1) rfl (fun _ => rfl) ⟨⟨_, rfl, .here⟩, trivial⟩ rfl rfl iNil) (Keeps.mk (ks := []) rfl ⟨rfl, trivial⟩ (rfl) rfl)⟩
  ·
   rintro ⟨data0, _⟩ rfl
   try dsimp only at hm0
   obtain rfl := Option.some.inj hm0
   exact ⟨_, [], rfl, List.nil_sublist _, rfl, rfl⟩
 ·
  refine V.seq ?_
  refine V.region ?_
  refine VO.cons rfl (V1.move rfl rfl rfl lt0 ?_)
  refine VO.cons rfl (V1.int rfl rfl rfl rfl rfl lt0 ?_)
  refine VO.cons rfl (V1.assign rfl rfl rfl lt0 ?_)
  refine VO.nil ?_
  replace hm0 := bindO hm0; rcases hm0 with ⟨e0, he1, hm0⟩
  refine V.cutT (D := (List Span) × (Unit)) (fun ⟨data0, _⟩ => ⟨53, [(0, .sref oq 3 0 (List.length data0))], [(oq, ⟨3, List.map encSpan data0⟩)]⟩) (fun ⟨data0, _⟩ => (data0 = e0)) ?_ ?_
  ·
   refine V.block ?_
   refine V.keep 53 [0, 8, 1, 2, 3] [0] (E0 := [(0, .sref oq 3 0 (List.length data)), (8, .int .i64 (IntKind.i64.wrap (a + (1 : Int)))), (1, .int .i64 a), (2, .int .i64 b_), (3, .fn f3 cs3)]) (H0 := [(oq, ⟨3, List.map encSpan data⟩)]) rfl (⟨_, _, rfl, rfl, _, _, rfl, rfl, _, _, rfl, rfl, _, _, rfl, rfl, _, _, rfl, rfl, rfl⟩) (⟨_, _, rfl, rfl, rfl⟩) rfl ?_
   refine V.loopE (D := Nat × (List Span × Int) × (Unit)) (fun ⟨n0, ⟨data1, i⟩, _⟩ => [(0, .sref oq 3 0 (List.length data1)), (8, .int .i64 i)]) (fun ⟨n0, ⟨data1, i⟩, _⟩ => [(oq, ⟨3, List.map encSpan data1⟩)]) (fun ⟨n0, ⟨data1, i⟩, _⟩ => loopO (M.slices_insertionSortCmpFunc_impl_Span_l0 a b_ fm) n0 (data1, i) = some e0) (fun ⟨n0, _, _⟩ => n0) (rounds, (data, (IntKind.i64.wrap (a + (1 : Int)))), ()) rfl he1 ?_
   rintro ⟨n0, ⟨data1, i⟩, _⟩ hP0
   obtain ⟨m0, y0, rfl, hm1, hl1, hr1⟩ := loop_head hP0
   unfold M.slices_insertionSortCmpFunc_impl_Span_l0 at hm1; dsimp only at hm1
   show V _ _ _ ⟨53, [(0, .sref oq 3 0 (List.length data1)), (8, .int .i64 i), (1, .int .i64 a), (2, .int .i64 b_), (3, .fn f3 cs3)], [(oq, ⟨3, List.map encSpan data1⟩)]⟩
   refine V.seq ?_
   refine V.seq ?_
   refine V.region ?_
   refine VO.cons rfl (V1.move rfl rfl rfl lt0 ?_)
   refine VO.cons rfl (V1.move rfl rfl rfl lt0 ?_)
   refine VO.cons rfl (V1.int rfl rfl rfl rfl rfl lt0 ?_)
   refine VO.nil ?_
   refine V.cond rfl (fun hc0 => ?_) (fun hc0 => ?_)
   ·
    replace hm1 := cond_t hc0 hm1
    refine V.skip ?_
    refine V.seq ?_
    refine V.block ?_
    refine V.seq ?_
    refine V.region ?_
    refine VO.cons rfl (V1.move rfl rfl rfl lt0 ?_)
    refine VO.cons rfl (V1.assign rfl rfl rfl lt0 ?_)
    refine VO.nil ?_
    refine V.keep 53 [0, 1, 2, 3, 8, 9] [0] (E0 := [(0, .sref oq 3 0 (List.length data1)), (1, .int .i64 a), (2, .int .i64 b_), (3, .fn f3 cs3), (8, .int .i64 i), (9, .int .i64 i)]) (H0 := [(oq, ⟨3, List.map encSpan data1⟩)]) rfl (⟨_, _, rfl, rfl, _, _, rfl, rfl, _, _, rfl, rfl, _, _, rfl, rfl, _, _, rfl, rfl, _, _, rfl, rfl, rfl⟩) (⟨_, _, rfl, rfl, rfl⟩) rfl ?_
    replace hm1 := bindO hm1; rcases hm1 with ⟨e1, he2, hm1⟩
    refine V.cutT (D := (List Span) × (Unit)) (fun ⟨data2, _⟩ => ⟨53, [(0, .sref oq 3 0 (List.length data2)), (1, .int .i64 a), (2, .int .i64 b_), (3, .fn f3 cs3), (8, .int .i64 i)], [(oq, ⟨3, List.map encSpan data2⟩)]⟩) (fun ⟨data2, _⟩ => (data2 = e1)) ?_ ?_
    ·
     refine V.block ?_
     refine V.keep 53 [0, 9, 1, 2, 3, 8] [0] (E0 := [(0, .sref oq 3 0 (List.length data1)), (9, .int .i64 i), (1, .int .i64 a), (2, .int .i64 b_), (3, .fn f3 cs3), (8, .int .i64 i)]) (H0 := [(oq, ⟨3, List.map encSpan data1⟩)]) rfl (⟨_, _, rfl, rfl, _, _, rfl, rfl, _, _, rfl, rfl, _, _, rfl, rfl, _, _, rfl, rfl, _, _, rfl, rfl, rfl⟩) (⟨_, _, rfl, rfl, rfl⟩) rfl ?_
     refine V.loopE (D := Nat × (List Span × Int) × (Unit)) (fun ⟨n1, ⟨data3, j_⟩, _⟩ => [(0, .sref oq 3 0 (List.length data3)), (9, .int .i64 j_)]) (fun ⟨n1, ⟨data3, j_⟩, _⟩ => [(oq, ⟨3, List.map encSpan data3⟩)]) (fun ⟨n1, ⟨data3, j_⟩, _⟩ => loopO (M.slices_insertionSortCmpFunc_impl_Span_l1 a fm) n1 (data3, j_) = some e1) (fun ⟨n1, _, _⟩ => n1) (rounds, (data1, i), ()) rfl he2 ?_
     rintro ⟨n1, ⟨data3, j_⟩, _⟩ hP1
     obtain ⟨m1, y1, rfl, hm2, hl2, hr2⟩ := loop_head hP1
     unfold M.slices_insertionSortCmpFunc_impl_Span_l1 at hm2; dsimp only at hm2
     show V _ _ _ ⟨53, [(0, .sref oq 3 0 (List.length data3)), (9, .int .i64 j_), (1, .int .i64 a), (2, .int .i64 b_), (3, .fn f3 cs3), (8, .int .i64 i)], [(oq, ⟨3, List.map encSpan data3⟩)]⟩
     refine V.seq ?_
     refine V.seq ?_
     replace hm2 := asrt_some hm2; rcases hm2 with ⟨hh0, hm2⟩
     replace hm2 := asrt_some hm2; rcases hm2 with ⟨hh1, hm2⟩
     replace hm2 := bindO hm2; rcases hm2 with ⟨y2, hh2, hm2⟩
     refine V.regionM 53 17 [⟨[(9, none)], [], none⟩, ⟨[(1, none)], [], none⟩, ⟨[(18, some 1), (19, some 0)], [], none⟩, ⟨[(20, some 0)], [], none⟩, ⟨[(3, none)], [(0, true)], none⟩, ⟨[(0, none)], [(1, true)], none⟩, ⟨[(9, none)], [(2, true)], none⟩, ⟨[(23, some 1), (24, some 0)], [(3, true)], none⟩, ⟨[(25, some 0)], [(4, true)], none⟩, ⟨[(0, none)], [(5, true)], none⟩, ⟨[(9, none)], [(6, true)], none⟩, ⟨[(28, some 0)], [(7, true)], none⟩, ⟨[(27, some 2), (29, some 0)], [(8, true)], none⟩, ⟨[(30, some 0)], [(9, true)], none⟩, ⟨[(22, some 9), (26, some 5), (31, some 0)], [(10, true)], none⟩, ⟨[(32, some 0)], [(11, true)], none⟩, ⟨[], [], some (true, 21, 33, 12, 0)⟩] [(0, none), (1, none), (2, none), (3, none), (8, none), (9, none), (34, some 0)] (⟨_, rfl, ⟨_, rfl, ⟨_, rfl, ⟨_, rfl, ⟨_, rfl, ⟨_, rfl, ⟨_, rfl, ⟨_, rfl, ⟨_, rfl, ⟨_, rfl, ⟨_, rfl, ⟨_, rfl, ⟨_, rfl, ⟨_, rfl, ⟨_, rfl, ⟨_, rfl, ⟨_, rfl, ⟨rfl, rfl⟩⟩⟩⟩⟩⟩⟩⟩⟩⟩⟩⟩⟩⟩⟩⟩⟩⟩) mixed_orders rfl (by decide +kernel) (fun hck4 => ?_)
     refine VP.step (p := ?pv3781) rfl rfl rfl (⟨_, _, rfl, rfl, rfl⟩) ?hv3781 ?rest3781 hck4
     case hv3781 =>
      intro E1
      refine (V1.move rfl rfl rfl lt0 ?_)
      exact rfl
     refine VP.step (p := ?pv3782) rfl rfl rfl (⟨_, _, rfl, rfl, rfl⟩) ?hv3782 ?rest3782 hck4
     case hv3782 =>
      intro E1
      refine (V1.move rfl rfl rfl lt0 ?_)
      exact rfl
     refine VP.step (p := ?pv3783) rfl rfl rfl (⟨_, _, rfl, rfl, _, _, rfl, rfl, rfl⟩) ?hv3783 ?rest3783 hck4
     case hv3783 =>
      intro E1
      refine (V1.int rfl rfl rfl rfl rfl lt0 ?_)
      exact rfl
     refine VP.step (p := ?pv3784) rfl rfl rfl (⟨_, _, rfl, rfl, rfl⟩) ?hv3784 ?rest3784 hck4
     case hv3784 =>
      intro E1
      refine (V1.move rfl rfl rfl lt0 ?_)
      exact rfl
     refine VP.step (p := ?pv3785) rfl rfl rfl (⟨_, _, rfl, rfl, rfl⟩) ?hv3785 ?rest3785 hck4
     case hv3785 =>
      refine ⟨_, rfl, fun hg0 => ?_⟩
      intro E1
      refine (V1.move rfl rfl rfl lt0 ?_)
      exact rfl
     refine VP.step (p := ?pv3786) rfl rfl rfl (⟨_, _, rfl, rfl, rfl⟩) ?hv3786 ?rest3786 hck4
     case hv3786 =>
      refine ⟨_, rfl, fun hg0 => ?_⟩
      intro E1
      refine (V1.move rfl rfl rfl lt0 ?_)
      exact rfl
     refine VP.step (p := ?pv3787) rfl rfl rfl (⟨_, _, rfl, rfl, rfl⟩) ?hv3787 ?rest3787 hck4
     case hv3787 =>
      refine ⟨_, rfl, fun hg0 => ?_⟩
      intro E1
      refine (V1.move rfl rfl rfl lt0 ?_)
      exact rfl
     refine VP.step (p := ?pv3788) rfl rfl rfl (⟨_, _, rfl, rfl, _, _, rfl, rfl, rfl⟩) ?hv3788 ?rest3788 hck4
     case hv3788 =>
      refine ⟨_, rfl, fun hg0 => ?_⟩
      intro E1
      refine (V1.indexSr rfl rfl esz_58 rfl rfl (hh0 hg0) lt0 ?_)
      exact rfl
     refine VP.step (p := ?pv3789) rfl rfl rfl (⟨_, _, rfl, rfl, rfl⟩) ?hv3789 ?rest3789 hck4
     case hv3789 =>
      refine ⟨_, rfl, fun hg0 => ?_⟩
      intro E1
      refine (V1.loadMapAll (k := 0) (f := encSpan) rfl rfl tyk_66 rfl rfl (by simpa using natLt (hh0 hg0).1 (hh0 hg0).2) rfl lt0 ?_)
      exact rfl
     refine VP.step (p := ?pv3790) rfl rfl rfl (⟨_, _, rfl, rfl, rfl⟩) ?hv3790 ?rest3790 hck4
     case hv3790 =>
      refine ⟨_, rfl, fun hg0 => ?_⟩
      intro E1
      refine (V1.move rfl rfl rfl lt0 ?_)
      exact rfl
     refine VP.step (p := ?pv3791) rfl rfl rfl (⟨_, _, rfl, rfl, rfl⟩) ?hv3791 ?rest3791 hck4
     case hv3791 =>
      refine ⟨_, rfl, fun hg0 => ?_⟩
      intro E1
      refine (V1.move rfl rfl rfl lt0 ?_)
      exact rfl
     refine VP.step (p := ?pv3792) rfl rfl rfl (⟨_, _, rfl, rfl, rfl⟩) ?hv3792 ?rest3792 hck4
     case hv3792 =>
      refine ⟨_, rfl, fun hg0 => ?_⟩
      intro E1
      refine (V1.int rfl rfl rfl rfl rfl lt0 ?_)
      exact rfl
     refine VP.step (p := ?pv3793) rfl rfl rfl (⟨_, _, rfl, rfl, _, _, rfl, rfl, rfl⟩) ?hv3793 ?rest3793 hck4
     case hv3793 =>
      refine ⟨_, rfl, fun hg0 => ?_⟩
      intro E1
      refine (V1.indexSr rfl rfl esz_58 rfl rfl (hh1 hg0) lt0 ?_)
      exact rfl
     refine VP.step (p := ?pv3794) rfl rfl rfl (⟨_, _, rfl, rfl, rfl⟩) ?hv3794 ?rest3794 hck4
     case hv3794 =>
      refine ⟨_, rfl, fun hg0 => ?_⟩
      intro E1
      refine (V1.loadMapAll (k := 0) (f := encSpan) rfl rfl tyk_66 rfl rfl (by simpa using natLt (hh1 hg0).1 (hh1 hg0).2) rfl lt0 ?_)
      exact rfl
     refine VP.step (p := ?pv3795) rfl rfl rfl (⟨_, _, rfl, rfl, _, _, rfl, rfl, _, _, rfl, rfl, rfl⟩) ?hv3795 ?rest3795 hck4
     case hv3795 =>
      refine ⟨_, rfl, fun hg0 => ?_⟩
      intro E1
      refine (V1.callG (τ := 0) (Bw := []) rfl lt0 (run_callFn rfl rfl rfl hok3 rfl) (.refl _) (Lends.same _) (fun _ h => by cases h) ((hf3 _ _  _) (cond_t hg0 hh2)) (.inl rfl) (.inl rfl) ?_)
      rintro _ _ ⟨rfl, rfl⟩
      exact rfl
     refine VP.step (p := ?pv3796) rfl rfl rfl (⟨_, _, rfl, rfl, rfl⟩) ?hv3796 ?rest3796 hck4
     case hv3796 =>
      refine ⟨_, rfl, fun hg0 => ?_⟩
      intro E1
      refine (V1.int rfl rfl rfl rfl rfl lt0 ?_)
      exact rfl
     refine VP.pickAnd rfl rfl rfl rfl rfl rfl (trivial) ?_ hck4
     refine VP.fin rfl (⟨_, _, rfl, rfl, _, _, rfl, rfl, _, _, rfl, rfl, _, _, rfl, rfl, _, _, rfl, rfl, _, _, rfl, rfl, _, _, rfl, rfl, rfl⟩) ?_
     refine VO.nil ?_
     refine V.cond rfl (fun hc1 => ?_) (fun hc1 => ?_)
     ·
      replace hm2 := cond_t hc1 hm2
      refine V.skip ?_
      refine V.seq ?_
      refine V.block ?_
      replace hm2 := asrt_some hm2; rcases hm2 with ⟨hh3, hm2⟩
      replace hm2 := asrt_some hm2; rcases hm2 with ⟨hh4, hm2⟩
      replace hm2 := asrt_some hm2; rcases hm2 with ⟨hh5, hm2⟩
      replace hm2 := asrt_some hm2; rcases hm2 with ⟨hh6, hm2⟩
      replace hm2 := bindO hm2; rcases hm2 with ⟨j0, hm3, hm2⟩
      refine V.cutT (D := (List Span) × (Unit)) (fun ⟨data4, _⟩ => ⟨53, [(0, .sref oq 3 0 (List.length data4)), (1, .int .i64 a), (2, .int .i64 b_), (3, .fn f3 cs3), (8, .int .i64 i), (9, .int .i64 j_)], [(oq, ⟨3, List.map encSpan data4⟩)]⟩) (fun ⟨data4, _⟩ => (data4 = j0)) ?_ ?_
      ·
       refine V.regionS [] 53 16 [⟨[(0, none)], false⟩, ⟨[(9, none)], false⟩, ⟨[(0, none)], false⟩, ⟨[(9, none)], false⟩, ⟨[(40, some 3)], false⟩, ⟨[(0, none)], false⟩, ⟨[(9, none)], false⟩, ⟨[(43, some 6)], false⟩, ⟨[(42, some 5), (44, some 7)], false⟩, ⟨[(45, some 8)], true⟩, ⟨[(0, none)], false⟩, ⟨[(9, none)], false⟩, ⟨[(47, some 10), (48, some 11)], false⟩, ⟨[(49, some 12)], true⟩, ⟨[(37, some 0), (38, some 1)], false⟩, ⟨[(46, some 9), (51, some 14)], true⟩] [(0, none), (1, none), (2, none), (3, none), (8, none), (9, none), (39, some 2), (41, some 4), (50, some 13)] 3 (⟨_, rfl, ⟨_, rfl, ⟨_, rfl, ⟨_, rfl, ⟨_, rfl, ⟨_, rfl, ⟨_, rfl, ⟨_, rfl, ⟨_, rfl, ⟨_, rfl, ⟨_, rfl, ⟨_, rfl, ⟨_, rfl, ⟨_, rfl, ⟨_, rfl, ⟨_, rfl, ⟨rfl, rfl⟩⟩⟩⟩⟩⟩⟩⟩⟩⟩⟩⟩⟩⟩⟩⟩⟩) mixed_orders rfl (by decide +kernel) ?_
       refine WalkP.step (p := ?pv3811) 0 rfl rfl rfl rfl rfl (⟨_, _, rfl, rfl, rfl⟩) ?hv3811 ?rest3811
       case hv3811 =>
        intro E1 H1 hI1
        refine (V1.move rfl rfl rfl lt0 ?_)
        exact rfl
       refine WalkP.step (p := ?pv3812) 1 rfl rfl rfl rfl rfl (⟨_, _, rfl, rfl, rfl⟩) ?hv3812 ?rest3812
       case hv3812 =>
        intro E1 H1 hI1
        refine (V1.move rfl rfl rfl lt0 ?_)
        exact rfl
       refine WalkP.step (p := ?pv3813) 2 rfl rfl rfl rfl rfl (⟨_, _, rfl, rfl, rfl⟩) ?hv3813 ?rest3813
       case hv3813 =>
        intro E1 H1 hI1
        refine (V1.move rfl rfl rfl lt0 ?_)
        exact rfl
       refine WalkP.step (p := ?pv3814) 3 rfl rfl rfl rfl rfl (⟨_, _, rfl, rfl, rfl⟩) ?hv3814 ?rest3814
       case hv3814 =>
        intro E1 H1 hI1
        refine (V1.move rfl rfl rfl lt0 ?_)
        exact rfl
       refine WalkP.step (p := ?pv3815) 4 rfl rfl rfl rfl rfl (⟨_, _, rfl, rfl, rfl⟩) ?hv3815 ?rest3815
       case hv3815 =>
        intro E1 H1 hI1
        refine (V1.int rfl rfl rfl rfl rfl lt0 ?_)
        exact rfl
       refine WalkP.step (p := ?pv3816) 5 rfl rfl rfl rfl rfl (⟨_, _, rfl, rfl, rfl⟩) ?hv3816 ?rest3816
       case hv3816 =>
        intro E1 H1 hI1
        refine (V1.move rfl rfl rfl lt0 ?_)
        exact rfl
       refine WalkP.step (p := ?pv3817) 6 rfl rfl rfl rfl rfl (⟨_, _, rfl, rfl, rfl⟩) ?hv3817 ?rest3817
       case hv3817 =>
        intro E1 H1 hI1
        refine (V1.move rfl rfl rfl lt0 ?_)
        exact rfl
       refine WalkP.step (p := ?pv3818) 7 rfl rfl rfl rfl rfl (⟨_, _, rfl, rfl, rfl⟩) ?hv3818 ?rest3818
       case hv3818 =>
        intro E1 H1 hI1
        refine (V1.int rfl rfl rfl rfl rfl lt0 ?_)
        exact rfl
       refine WalkP.step (p := ?pv3819) 8 rfl rfl rfl rfl rfl (⟨_, _, rfl, rfl, _, _, rfl, rfl, rfl⟩) ?hv3819 ?rest3819
       case hv3819 =>
        intro E1 H1 hI1
        refine (V1.indexSr rfl rfl esz_58 rfl rfl hh3 lt0 ?_)
        exact rfl
       refine WalkP.step (p := ?pv3820) 10 rfl rfl rfl rfl rfl (⟨_, _, rfl, rfl, rfl⟩) ?hv3820 ?rest3820
       case hv3820 =>
        intro E1 H1 hI1
        refine (V1.move rfl rfl rfl lt0 ?_)
        exact rfl
       refine WalkP.step (p := ?pv3821) 11 rfl rfl rfl rfl rfl (⟨_, _, rfl, rfl, rfl⟩) ?hv3821 ?rest3821
       case hv3821 =>
        intro E1 H1 hI1
        refine (V1.move rfl rfl rfl lt0 ?_)
        exact rfl
       refine WalkP.step (p := ?pv3822) 12 rfl rfl rfl rfl rfl (⟨_, _, rfl, rfl, _, _, rfl, rfl, rfl⟩) ?hv3822 ?rest3822
       case hv3822 =>
        intro E1 H1 hI1
        refine (V1.indexSr rfl rfl esz_58 rfl rfl hh4 lt0 ?_)
        exact rfl
       refine WalkP.nil ?_
       refine NodeS.branch [9, 13] inNil rfl rfl rfl ⟨?_, ?_, trivial⟩
       ·
        refine ⟨_, _, _, _, rfl, rfl, rfl, (⟨_, _, rfl, rfl, rfl⟩), fun E1 => ?_⟩
        refine (V1.loadMapAll (k := 0) (f := encSpan) rfl rfl tyk_66 rfl rfl (by simpa using natLt hh3.1 hh3.2) rfl lt0 ?_)
        refine ⟨_, _, rfl, ?_⟩
        refine WalkP.nil ?_
        refine NodeS.branch [13] inNil rfl rfl rfl ⟨?_, trivial⟩
        ·
         refine ⟨_, _, _, _, rfl, rfl, rfl, (⟨_, _, rfl, rfl, rfl⟩), fun E1 => ?_⟩
         refine (V1.loadMapAll (k := 0) (f := encSpan) rfl rfl tyk_66 rfl rfl (by simpa using natLt hh4.1 hh4.2) rfl lt0 ?_)
         refine ⟨_, _, rfl, ?_⟩
         refine WalkP.step (p := ?pv3823) 14 rfl rfl rfl rfl rfl (⟨_, _, rfl, rfl, _, _, rfl, rfl, rfl⟩) ?hv3823 ?rest3823
         case hv3823 =>
          intro E1 H1 hI1
          refine (V1.indexSr rfl rfl esz_58 rfl rfl hh5 lt0 ?_)
          exact rfl
         refine WalkP.nil ?_
         refine NodeS.branch [15] inNil rfl rfl rfl ⟨?_, trivial⟩
         ·
          refine ⟨_, _, _, _, rfl, rfl, rfl, (⟨_, _, rfl, rfl, _, _, rfl, rfl, rfl⟩), fun E1 => ?_⟩
          refine (V1.storeMap (k := 0) (f := encSpan) (x := (data3.getD (Int.toNat (IntKind.i64.wrap (j_ - (1 : Int)))) default)) rfl rfl tyk_66 rfl rfl (by simpa using natLt hh5.1 hh5.2) rfl rfl ?_)
          refine ⟨.undef, _, rfl, ?_⟩
          refine WalkP.nil ?_
          refine NodeS.fin inNil rfl rfl rfl (⟨_, _, rfl, rfl, _, _, rfl, rfl, _, _, rfl, rfl, _, _, rfl, rfl, _, _, rfl, rfl, _, _, rfl, rfl, _, _, rfl, rfl, _, _, rfl, rfl, _, _, rfl, rfl, rfl⟩) ?_
          refine VO.weakenK (Keeps.say 0 (y := .sref oq 3 0 (List.length (data3.set (Int.toNat j_) (data3.getD (Int.toNat (IntKind.i64.wrap (j_ - (1 : Int)))) default)))) rfl (by simp [optS])) ?_
          refine VO.weakenK (Keeps.say 39 (y := .sref oq 3 0 (List.length (data3.set (Int.toNat j_) (data3.getD (Int.toNat (IntKind.i64.wrap (j_ - (1 : Int)))) default)))) rfl (by simp [optS])) ?_
          refine VO.cons rfl (V1.indexSr rfl rfl esz_58 rfl rfl hh6 lt0 ?_)
          refine VO.cons rfl (V1.storeMap (k := 0) (f := encSpan) (x := (data3.getD (Int.toNat j_) default)) rfl rfl tyk_66 rfl rfl (by simpa using natLt hh6.1 hh6.2) rfl rfl ?_)
          refine VO.weakenK (Keeps.say 0 (y := .sref oq 3 0 (List.length ((data3.set (Int.toNat j_) (data3.getD (Int.toNat (IntKind.i64.wrap (j_ - (1 : Int)))) default)).set (Int.toNat (IntKind.i64.wrap (j_ - (1 : Int)))) (data3.getD (Int.toNat j_) default)))) rfl (by simp [optS])) ?_
          refine VO.nil ?_
          exact ⟨(((data3.set (Int.toNat j_) (data3.getD (Int.toNat (IntKind.i64.wrap (j_ - (1 : Int)))) default)).set (Int.toNat (IntKind.i64.wrap (j_ - (1 : Int)))) (data3.getD (Int.toNat j_) default)), ()), Option.some.inj hm3, Keeps.mk (ks := [0]) rfl ⟨(someSref (by simp)), rfl, rfl, rfl, rfl, rfl, trivial⟩ (⟨_, _, rfl, rfl, rfl⟩) rfl⟩
       ·
        refine ⟨_, _, _, _, rfl, rfl, rfl, (⟨_, _, rfl, rfl, rfl⟩), fun E1 => ?_⟩
        refine (V1.loadMapAll (k := 0) (f := encSpan) rfl rfl tyk_66 rfl rfl (by simpa using natLt hh4.1 hh4.2) rfl lt0 ?_)
        refine ⟨_, _, rfl, ?_⟩
        refine WalkP.nil ?_
        refine NodeS.branch [9] inNil rfl rfl rfl ⟨?_, trivial⟩
        ·
         refine ⟨_, _, _, _, rfl, rfl, rfl, (⟨_, _, rfl, rfl, rfl⟩), fun E1 => ?_⟩
         refine (V1.loadMapAll (k := 0) (f := encSpan) rfl rfl tyk_66 rfl rfl (by simpa using natLt hh3.1 hh3.2) rfl lt0 ?_)
         refine ⟨_, _, rfl, ?_⟩
         refine WalkP.step (p := ?pv3824) 14 rfl rfl rfl rfl rfl (⟨_, _, rfl, rfl, _, _, rfl, rfl, rfl⟩) ?hv3824 ?rest3824
         case hv3824 =>
          intro E1 H1 hI1
          refine (V1.indexSr rfl rfl esz_58 rfl rfl hh5 lt0 ?_)
          exact rfl
         refine WalkP.nil ?_
         refine NodeS.branch [15] inNil rfl rfl rfl ⟨?_, trivial⟩
         ·
          refine ⟨_, _, _, _, rfl, rfl, rfl, (⟨_, _, rfl, rfl, _, _, rfl, rfl, rfl⟩), fun E1 => ?_⟩
          refine (V1.storeMap (k := 0) (f := encSpan) (x := (data3.getD (Int.toNat (IntKind.i64.wrap (j_ - (1 : Int)))) default)) rfl rfl tyk_66 rfl rfl (by simpa using natLt hh5.1 hh5.2) rfl rfl ?_)
          refine ⟨.undef, _, rfl, ?_⟩
          refine WalkP.nil ?_
          refine NodeS.fin inNil rfl rfl rfl (⟨_, _, rfl, rfl, _, _, rfl, rfl, _, _, rfl, rfl, _, _, rfl, rfl, _, _, rfl, rfl, _, _, rfl, rfl, _, _, rfl, rfl, _, _, rfl, rfl, _, _, rfl, rfl, rfl⟩) ?_
          refine VO.weakenK (Keeps.say 0 (y := .sref oq 3 0 (List.length (data3.set (Int.toNat j_) (data3.getD (Int.toNat (IntKind.i64.wrap (j_ - (1 : Int)))) default)))) rfl (by simp [optS])) ?_
          refine VO.weakenK (Keeps.say 39 (y := .sref oq 3 0 (List.length (data3.set (Int.toNat j_) (data3.getD (Int.toNat (IntKind.i64.wrap (j_ - (1 : Int)))) default)))) rfl (by simp [optS])) ?_
          refine VO.cons rfl (V1.indexSr rfl rfl esz_58 rfl rfl hh6 lt0 ?_)
          refine VO.cons rfl (V1.storeMap (k := 0) (f := encSpan) (x := (data3.getD (Int.toNat j_) default)) rfl rfl tyk_66 rfl rfl (by simpa using natLt hh6.1 hh6.2) rfl rfl ?_)
          refine VO.weakenK (Keeps.say 0 (y := .sref oq 3 0 (List.length ((data3.set (Int.toNat j_) (data3.getD (Int.toNat (IntKind.i64.wrap (j_ - (1 : Int)))) default)).set (Int.toNat (IntKind.i64.wrap (j_ - (1 : Int)))) (data3.getD (Int.toNat j_) default)))) rfl (by simp [optS])) ?_
          refine VO.nil ?_
          exact ⟨(((data3.set (Int.toNat j_) (data3.getD (Int.toNat (IntKind.i64.wrap (j_ - (1 : Int)))) default)).set (Int.toNat (IntKind.i64.wrap (j_ - (1 : Int)))) (data3.getD (Int.toNat j_) default)), ()), Option.some.inj hm3, Keeps.mk (ks := [0]) rfl ⟨(someSref (by simp)), rfl, rfl, rfl, rfl, rfl, trivial⟩ (⟨_, _, rfl, rfl, rfl⟩) rfl⟩
      ·
       rintro ⟨data4, _⟩ rfl
       try dsimp only at hm2
       refine V.region ?_
       refine VO.cons rfl (V1.move rfl rfl rfl lt0 ?_)
       refine VO.cons rfl (V1.int rfl rfl rfl rfl rfl lt0 ?_)
       refine VO.cons rfl (V1.assign rfl rfl rfl lt0 ?_)
       refine VO.nil ?_
       exact ⟨(m1, (data4, (IntKind.i64.wrap (j_ - (1 : Int)))), ()), hl2 _ (Option.some.inj hm2).symm, Nat.lt_succ_self _, Keeps.mk (ks := [0]) rfl ⟨(someSref (by simp)), rfl, rfl, rfl, rfl, rfl, trivial⟩ (⟨_, _, rfl, rfl, rfl⟩) rfl⟩
     ·
      replace hm2 := cond_f hc1 hm2
      refine V.exit ?_
      obtain rfl := hr2 _ (Option.some.inj hm2).symm
      exact ⟨(data3, ()), rfl, Keeps.mk (ks := [0]) rfl ⟨(someSref (by simp)), rfl, rfl, rfl, rfl, trivial⟩ (⟨_, _, rfl, rfl, rfl⟩) rfl⟩
    ·
     rintro ⟨data2, _⟩ rfl
     try dsimp only at hm1
     refine V.region ?_
     refine VO.cons rfl (V1.move rfl rfl rfl lt0 ?_)
     refine VO.cons rfl (V1.int rfl rfl rfl rfl rfl lt0 ?_)
     refine VO.cons rfl (V1.assign rfl rfl rfl lt0 ?_)
     refine VO.nil ?_
     exact ⟨(m0, (data2, (IntKind.i64.wrap (i + (1 : Int)))), ()), hl1 _ (Option.some.inj hm1).symm, Nat.lt_succ_self _, Keeps.mk (ks := [0]) rfl ⟨(someSref (by simp)), rfl, rfl, rfl, rfl, trivial⟩ (⟨_, _, rfl, rfl, rfl⟩) rfl⟩
   ·
    replace hm1 := cond_f hc0 hm1
    refine V.exit ?_
    obtain rfl := hr1 _ (Option.some.inj hm1).symm
    exact ⟨(data1, ()), rfl, Keeps.mk (ks := [0]) rfl ⟨(someSref (by simp)), trivial⟩ (⟨_, _, rfl, rfl, rfl⟩) rfl⟩
  ·
   rintro ⟨data0, _⟩ rfl
   try dsimp only at hm0
   obtain rfl := Option.some.inj hm0
   exact ⟨_, _, rfl, (sub1 (k := 0) rfl), rfl, rfl⟩

theorem ok_slices_order2CmpFunc_impl_Span {ρ0 rn bp : Nat} {data : List Span} {a : Int} {b_ : Int} {swaps : Int} {f4 : Nat} {cs4 : List PV} {r : Int × Int × Int} {fm : Span → Span → Option Int} (h : M.slices_order2CmpFunc_impl_Span data a b_ swaps fm = some r) (hok4 : callOK Tryd.prog f4 = true) (hf4 : ∀ x0 x1 r, fm x0 x1 = some r → Does Tryd.prog f4 (encSpan x0 :: encSpan x1 :: cs4) [] rn (fun x H => x = .int .i64 r ∧ H = [])) : Does Tryd.prog 195 [.vl ρ0 3 (List.map encSpan data), .int .i64 a, .int .i64 b_, .ref bp 1 0 0, .fn f4 cs4] [(bp, ⟨1, [.int .i64 swaps]⟩)] rn (fun x H => x = .tup [.int .i64 r.1, .int .i64 r.2.1] ∧ H = [(bp, ⟨1, [.int .i64 r.2.2]⟩)]) := by
 have hm0 := h; clear h; unfold M.slices_order2CmpFunc_impl_Span at hm0
 try dsimp only at hm0
 refine Does.intro (N := 32) Tryd.func195 rfl rfl rfl rfl ?_
 intro w0 S0 L0
 refine V.seq ?_
 refine V.region ?_
 refine VO.cons rfl (V1.assign rfl rfl rfl lt0 ?_)
 refine VO.cons rfl (V1.assign rfl rfl rfl lt0 ?_)
 refine VO.nil ?_
 refine V.seq ?_
 refine V.seq ?_
 replace hm0 := asrt_some hm0; rcases hm0 with ⟨hh0, hm0⟩
 replace hm0 := asrt_some hm0; rcases hm0 with ⟨hh1, hm0⟩
 replace hm0 := bindO hm0; rcases hm0 with ⟨y0, hh2, hm0⟩
 refine V.regionM 32 9 [⟨[(4, none)], [], none⟩, ⟨[(0, none)], [], none⟩, ⟨[(2, none)], [], none⟩, ⟨[(13, some 1), (14, some 0)], [], none⟩, ⟨[(15, some 0)], [], none⟩, ⟨[(0, none)], [], none⟩, ⟨[(1, none)], [], none⟩, ⟨[(17, some 1), (18, some 0)], [], none⟩, ⟨[(19, some 0)], [], none⟩] [(1, none), (2, none), (3, none), (12, some 8), (16, some 4), (20, some 0)] (⟨_, rfl, ⟨_, rfl, ⟨_, rfl, ⟨_, rfl, ⟨_, rfl, ⟨_, rfl, ⟨_, rfl, ⟨_, rfl, ⟨_, rfl, ⟨rfl, rfl⟩⟩⟩⟩⟩⟩⟩⟩⟩⟩) mixed_orders rfl (by decide +kernel) (fun hck1 => ?_)
 refine VP.step (p := ?pv19) rfl rfl rfl (⟨_, _, rfl, rfl, rfl⟩) ?hv19 ?rest19 hck1
 case hv19 =>
  intro E1
  refine (V1.move rfl rfl rfl lt0 ?_)
  exact rfl
 refine VP.step (p := ?pv20) rfl rfl rfl (⟨_, _, rfl, rfl, rfl⟩) ?hv20 ?rest20 hck1
 case hv20 =>
  intro E1
  refine (V1.move rfl rfl rfl lt0 ?_)
  exact rfl
 refine VP.step (p := ?pv21) rfl rfl rfl (⟨_, _, rfl, rfl, rfl⟩) ?hv21 ?rest21 hck1
 case hv21 =>
  intro E1
  refine (V1.move rfl rfl rfl lt0 ?_)
  exact rfl
 refine VP.step (p := ?pv22) rfl rfl rfl (⟨_, _, rfl, rfl, _, _, rfl, rfl, rfl⟩) ?hv22 ?rest22 hck1
 case hv22 =>
  intro E1
  refine (V1.indexI rfl rfl esz_58 rfl rfl hh0 lt0 ?_)
  exact rfl
 refine VP.step (p := ?pv23) rfl rfl rfl (⟨_, _, rfl, rfl, rfl⟩) ?hv23 ?rest23 hck1
 case hv23 =>
  intro E1
  refine (V1.loadPinAll rfl rfl tyk_66 rfl rfl lt0 ?_)
  exact rfl
 refine VP.step (p := ?pv24) rfl rfl rfl (⟨_, _, rfl, rfl, rfl⟩) ?hv24 ?rest24 hck1
 case hv24 =>
  intro E1
  refine (V1.move rfl rfl rfl lt0 ?_)
  exact rfl
 refine VP.step (p := ?pv25) rfl rfl rfl (⟨_, _, rfl, rfl, rfl⟩) ?hv25 ?rest25 hck1
 case hv25 =>
  intro E1
  refine (V1.move rfl rfl rfl lt0 ?_)
  exact rfl
 refine VP.step (p := ?pv26) rfl rfl rfl (⟨_, _, rfl, rfl, _, _, rfl, rfl, rfl⟩) ?hv26 ?rest26 hck1
 case hv26 =>
  intro E1
  refine (V1.indexI rfl rfl esz_58 rfl rfl hh1 lt0 ?_)
  exact rfl
 refine VP.step (p := ?pv27) rfl rfl rfl (⟨_, _, rfl, rfl, rfl⟩) ?hv27 ?rest27 hck1
 case hv27 =>
  intro E1
  refine (V1.loadPinAll rfl rfl tyk_66 rfl rfl lt0 ?_)
  exact rfl
 refine VP.fin rfl (⟨_, _, rfl, rfl, _, _, rfl, rfl, _, _, rfl, rfl, _, _, rfl, rfl, _, _, rfl, rfl, _, _, rfl, rfl, rfl⟩) ?_
 refine VO.cons rfl (V1.callG (τ := 0) (Bw := []) rfl lt0 (run_callFn rfl rfl rfl hok4 rfl) (.refl _) (Lends.same _) (fun _ h => by cases h) ((hf4 _ _  _) hh2) (.inl rfl) (.inl rfl) ?_)
 rintro _ _ ⟨rfl, rfl⟩
 refine VO.cons rfl (V1.int rfl rfl rfl rfl rfl lt0 ?_)
 refine VO.nil ?_
 refine V.keep 32 [1, 2, 3, 22] [0] (E0 := [(1, .int .i64 a), (2, .int .i64 b_), (3, .ref bp 1 0 0), (22, .bool (decide (y0 < (0 : Int))))]) (H0 := [(bp, ⟨1, [.int .i64 swaps]⟩)]) rfl (⟨_, _, rfl, rfl, _, _, rfl, rfl, _, _, rfl, rfl, _, _, rfl, rfl, rfl⟩) (⟨_, _, rfl, rfl, rfl⟩) rfl ?_
 refine V.cond rfl (fun hc0 => ?_) (fun hc0 => ?_)
 ·
  replace hm0 := cond_t hc0 hm0
  refine V.seq ?_
  refine V.region ?_
  refine VO.cons rfl (V1.move rfl rfl rfl lt0 ?_)
  refine VO.cons rfl (V1.nilRef rfl rfl rfl lt0 ?_)
  refine VO.cons rfl (V1.loadRef (k := 0) rfl rfl tyk_3 rfl rfl rfl rfl rfl lt0 ?_)
  refine VO.cons rfl (V1.int rfl rfl rfl rfl rfl lt0 ?_)
  refine VO.cons rfl (V1.nilRef rfl rfl rfl lt0 ?_)
  refine VO.cons rfl (V1.storeRefAll (k := 0) rfl rfl tyk_3 rfl rfl rfl rfl rfl rfl ?_)
  refine VO.nil ?_
  refine V.keep 32 [1, 2] [0] (E0 := [(1, .int .i64 a), (2, .int .i64 b_)]) (H0 := [(bp, ⟨1, [.int .i64 (IntKind.i64.wrap (swaps + (1 : Int)))]⟩)]) rfl (⟨_, _, rfl, rfl, _, _, rfl, rfl, rfl⟩) (⟨_, _, rfl, rfl, rfl⟩) rfl ?_
  refine V.seq ?_
  refine V.region ?_
  refine VO.cons rfl (V1.move rfl rfl rfl lt0 ?_)
  refine VO.cons rfl (V1.move rfl rfl rfl lt0 ?_)
  refine VO.cons rfl (V1.assign rfl rfl rfl lt0 ?_)
  refine VO.cons rfl (V1.assign rfl rfl rfl lt0 ?_)
  refine VO.nil ?_
  refine V.ret ?_
  obtain rfl := Option.some.inj hm0
  exact ⟨_, _, ⟨_, _, rfl, rfl, _, _, rfl, rfl, rfl⟩, (sub1 (k := 0) rfl), rfl, rfl⟩
 ·
  replace hm0 := cond_f hc0 hm0
  refine V.skip ?_
  refine V.seq ?_
  refine V.region ?_
  refine VO.cons rfl (V1.move rfl rfl rfl lt0 ?_)
  refine VO.cons rfl (V1.move rfl rfl rfl lt0 ?_)
  refine VO.cons rfl (V1.assign rfl rfl rfl lt0 ?_)
  refine VO.cons rfl (V1.assign rfl rfl rfl lt0 ?_)
  refine VO.nil ?_
  refine V.ret ?_
  obtain rfl := Option.some.inj hm0
  exact ⟨_, _, ⟨_, _, rfl, rfl, _, _, rfl, rfl, rfl⟩, (sub1 (k := 0) rfl), rfl, rfl⟩

theorem ok_slices_medianCmpFunc_impl_Span {ρ0 rn bp : Nat} {data : List Span} {a : Int} {b_ : Int} {c : Int} {swaps : Int} {f5 : Nat} {cs5 : List PV} {r : Int × Int} {fm : Span → Span → Option Int} (h : M.slices_medianCmpFunc_impl_Span data a b_ c swaps fm = some r) (hok5 : callOK Tryd.prog f5 = true) (hf5 : ∀ x0 x1 r, fm x0 x1 = some r → Does Tryd.prog f5 (encSpan x0 :: encSpan x1 :: cs5) [] rn (fun x H => x = .int .i64 r ∧ H = [])) : Does Tryd.prog 186 [.vl ρ0 3 (List.map encSpan data), .int .i64 a, .int .i64 b_, .int .i64 c, .ref bp 1 0 0, .fn f5 cs5] [(bp, ⟨1, [.int .i64 swaps]⟩)] rn (fun x H => x = .int .i64 r.1 ∧ H = [(bp, ⟨1, [.int .i64 r.2]⟩)]) := by
 have hm0 := h; clear h; unfold M.slices_medianCmpFunc_impl_Span at hm0
 try dsimp only at hm0
 refine Does.intro (N := 41) Tryd.func186 rfl rfl rfl rfl ?_
 intro w0 S0 L0
 refine V.seq ?_
 refine V.region ?_
 refine VO.cons rfl (V1.assign rfl rfl rfl lt0 ?_)
 refine VO.nil ?_
 refine V.seq ?_
 replace hm0 := bindO hm0; rcases hm0 with ⟨y0, hh0, hm0⟩
 refine V.region ?_
 refine VO.cons rfl (V1.move rfl rfl rfl lt0 ?_)
 refine VO.cons rfl (V1.move rfl rfl rfl lt0 ?_)
 refine VO.cons rfl (V1.move rfl rfl rfl lt0 ?_)
 refine VO.cons rfl (V1.move rfl rfl rfl lt0 ?_)
 refine VO.cons rfl (V1.move rfl rfl rfl lt0 ?_)
 refine VO.cons rfl (V1.callM 0 (rn + 1) [] [.vl ρ0 3 (List.map encSpan data), .int .i64 a, .int .i64 b_, .ref bp 1 0 0, .fn f5 cs5] (p := (bp, ⟨1, [.int .i64 swaps]⟩)) rfl rfl rfl cok_195 rfl rfl ⟨_, _, rfl, .same _, ⟨_, _, rfl, .same _, ⟨_, _, rfl, .same _, ⟨_, _, rfl, .same _, ⟨_, _, rfl, .same _, rfl⟩⟩⟩⟩⟩ bwNil (ok_slices_order2CmpFunc_impl_Span hh0 (fm := fm) hok5 hf5) rfl (.inl rfl) lt0 ?_)
 rintro _ _ ⟨rfl, rfl⟩
 refine VO.cons rfl (V1.move rfl rfl rfl lt0 ?_)
 refine VO.cons rfl (V1.extract rfl rfl rfl rfl lt0 ?_)
 refine VO.cons rfl (V1.extract rfl rfl rfl rfl lt0 ?_)
 refine VO.cons rfl (V1.assign rfl rfl rfl lt0 ?_)
 refine VO.cons rfl (V1.assign rfl rfl rfl lt0 ?_)
 refine VO.nil ?_
 refine V.keep 41 [0, 1, 2, 3, 4, 5] [0] (E0 := [(0, .vl ρ0 3 (List.map encSpan data)), (1, .int .i64 y0.1), (2, .int .i64 y0.2.1), (3, .int .i64 c), (4, .ref bp 1 0 0), (5, .fn f5 cs5)]) (H0 := [(bp, ⟨1, [.int .i64 y0.2.2]⟩)]) rfl (⟨_, _, rfl, rfl, _, _, rfl, rfl, _, _, rfl, rfl, _, _, rfl, rfl, _, _, rfl, rfl, _, _, rfl, rfl, rfl⟩) (⟨_, _, rfl, rfl, rfl⟩) rfl ?_
 refine V.seq ?_
 replace hm0 := bindO hm0; rcases hm0 with ⟨y1, hh1, hm0⟩
 refine V.region ?_
 refine VO.cons rfl (V1.move rfl rfl rfl lt0 ?_)
 refine VO.cons rfl (V1.move rfl rfl rfl lt0 ?_)
 refine VO.cons rfl (V1.move rfl rfl rfl lt0 ?_)
 refine VO.cons rfl (V1.move rfl rfl rfl lt0 ?_)
 refine VO.cons rfl (V1.move rfl rfl rfl lt0 ?_)
 refine VO.cons rfl (V1.callM 0 (rn + 1) [] [.vl ρ0 3 (List.map encSpan data), .int .i64 y0.2.1, .int .i64 c, .ref bp 1 0 0, .fn f5 cs5] (p := (bp, ⟨1, [.int .i64 y0.2.2]⟩)) rfl rfl rfl cok_195 rfl rfl ⟨_, _, rfl, .same _, ⟨_, _, rfl, .same _, ⟨_, _, rfl, .same _, ⟨_, _, rfl, .same _, ⟨_, _, rfl, .same _, rfl⟩⟩⟩⟩⟩ bwNil (ok_slices_order2CmpFunc_impl_Span hh1 (fm := fm) hok5 hf5) rfl (.inl rfl) lt0 ?_)
 rintro _ _ ⟨rfl, rfl⟩
 refine VO.cons rfl (V1.move rfl rfl rfl lt0 ?_)
 refine VO.cons rfl (V1.extract rfl rfl rfl rfl lt0 ?_)
 refine VO.cons rfl (V1.extract rfl rfl rfl rfl lt0 ?_)
 refine VO.cons rfl (V1.assign rfl rfl rfl lt0 ?_)
 refine VO.cons rfl (V1.assign rfl rfl rfl lt0 ?_)
 refine VO.nil ?_
 refine V.keep 41 [0, 1, 2, 4, 5] [0] (E0 := [(0, .vl ρ0 3 (List.map encSpan data)), (1, .int .i64 y0.1), (2, .int .i64 y1.1), (4, .ref bp 1 0 0), (5, .fn f5 cs5)]) (H0 := [(bp, ⟨1, [.int .i64 y1.2.2]⟩)]) rfl (⟨_, _, rfl, rfl, _, _, rfl, rfl, _, _, rfl, rfl, _, _, rfl, rfl, _, _, rfl, rfl, rfl⟩) (⟨_, _, rfl, rfl, rfl⟩) rfl ?_
 refine V.seq ?_
 replace hm0 := bindO hm0; rcases hm0 with ⟨y2, hh2, hm0⟩
 refine V.region ?_
 refine VO.cons rfl (V1.move rfl rfl rfl lt0 ?_)
 refine VO.cons rfl (V1.move rfl rfl rfl lt0 ?_)
 refine VO.cons rfl (V1.move rfl rfl rfl lt0 ?_)
 refine VO.cons rfl (V1.move rfl rfl rfl lt0 ?_)
 refine VO.cons rfl (V1.move rfl rfl rfl lt0 ?_)
 refine VO.cons rfl (V1.callM 0 (rn + 1) [] [.vl ρ0 3 (List.map encSpan data), .int .i64 y0.1, .int .i64 y1.1, .ref bp 1 0 0, .fn f5 cs5] (p := (bp, ⟨1, [.int .i64 y1.2.2]⟩)) rfl rfl rfl cok_195 rfl rfl ⟨_, _, rfl, .same _, ⟨_, _, rfl, .same _, ⟨_, _, rfl, .same _, ⟨_, _, rfl, .same _, ⟨_, _, rfl, .same _, rfl⟩⟩⟩⟩⟩ bwNil (ok_slices_order2CmpFunc_impl_Span hh2 (fm := fm) hok5 hf5) rfl (.inl rfl) lt0 ?_)
 rintro _ _ ⟨rfl, rfl⟩
 refine VO.cons rfl (V1.move rfl rfl rfl lt0 ?_)
 refine VO.cons rfl (V1.extract rfl rfl rfl rfl lt0 ?_)
 refine VO.cons rfl (V1.extract rfl rfl rfl rfl lt0 ?_)
 refine VO.cons rfl (V1.assign rfl rfl rfl lt0 ?_)
 refine VO.cons rfl (V1.assign rfl rfl rfl lt0 ?_)
 refine VO.nil ?_
 refine V.keep 41 [2] [0] (E0 := [(2, .int .i64 y2.2.1)]) (H0 := [(bp, ⟨1, [.int .i64 y2.2.2]⟩)]) rfl (⟨_, _, rfl, rfl, rfl⟩) (⟨_, _, rfl, rfl, rfl⟩) rfl ?_
 refine V.seq ?_
 refine V.region ?_
 refine VO.cons rfl (V1.move rfl rfl rfl lt0 ?_)
 refine VO.cons rfl (V1.assign rfl rfl rfl lt0 ?_)
 refine VO.nil ?_
 refine V.ret ?_
 obtain rfl := Option.some.inj hm0
 exact ⟨_, _, ⟨_, _, rfl, rfl, rfl⟩, (sub1 (k := 0) rfl), rfl, rfl⟩

theorem ok_slices_medianAdjacentCmpFunc_impl_Span {ρ0 rn bp : Nat} {data : List Span} {a : Int} {swaps : Int} {f3 : Nat} {cs3 : List PV} {r : Int × Int} {fm : Span → Span → Option Int} (h : M.slices_medianAdjacentCmpFunc_impl_Span data a swaps fm = some r) (hok3 : callOK Tryd.prog f3 = true) (hf3 : ∀ x0 x1 r, fm x0 x1 = some r → Does Tryd.prog f3 (encSpan x0 :: encSpan x1 :: cs3) [] rn (fun x H => x = .int .i64 r ∧ H = [])) : Does Tryd.prog 185 [.vl ρ0 3 (List.map encSpan data), .int .i64 a, .ref bp 1 0 0, .fn f3 cs3] [(bp, ⟨1, [.int .i64 swaps]⟩)] rn (fun x H => x = .int .i64 r.1 ∧ H = [(bp, ⟨1, [.int .i64 r.2]⟩)]) := by
 have hm0 := h; clear h; unfold M.slices_medianAdjacentCmpFunc_impl_Span at hm0
 try dsimp only at hm0
 refine Does.intro (N := 18) Tryd.func185 rfl rfl rfl rfl ?_
 intro w0 S0 L0
 refine V.seq ?_
 refine V.region ?_
 refine VO.cons rfl (V1.assign rfl rfl rfl lt0 ?_)
 refine VO.nil ?_
 refine V.seq ?_
 replace hm0 := bindO hm0; rcases hm0 with ⟨y0, hh0, hm0⟩
 refine V.region ?_
 refine VO.cons rfl (V1.move rfl rfl rfl lt0 ?_)
 refine VO.cons rfl (V1.move rfl rfl rfl lt0 ?_)
 refine VO.cons rfl (V1.int rfl rfl rfl rfl rfl lt0 ?_)
 refine VO.cons rfl (V1.move rfl rfl rfl lt0 ?_)
 refine VO.cons rfl (V1.move rfl rfl rfl lt0 ?_)
 refine VO.cons rfl (V1.int rfl rfl rfl rfl rfl lt0 ?_)
 refine VO.cons rfl (V1.move rfl rfl rfl lt0 ?_)
 refine VO.cons rfl (V1.move rfl rfl rfl lt0 ?_)
 refine VO.cons rfl (V1.callM 0 (rn + 1) [] [.vl ρ0 3 (List.map encSpan data), .int .i64 (IntKind.i64.wrap (a - (1 : Int))), .int .i64 a, .int .i64 (IntKind.i64.wrap (a + (1 : Int))), .ref bp 1 0 0, .fn f3 cs3] (p := (bp, ⟨1, [.int .i64 swaps]⟩)) rfl rfl rfl cok_186 rfl rfl ⟨_, _, rfl, .same _, ⟨_, _, rfl, .same _, ⟨_, _, rfl, .same _, ⟨_, _, rfl, .same _, ⟨_, _, rfl, .same _, ⟨_, _, rfl, .same _, rfl⟩⟩⟩⟩⟩⟩ bwNil (ok_slices_medianCmpFunc_impl_Span hh0 (fm := fm) hok3 hf3) rfl (.inl rfl) lt0 ?_)
 rintro _ _ ⟨rfl, rfl⟩
 refine VO.cons rfl (V1.assign rfl rfl rfl lt0 ?_)
 refine VO.nil ?_
 refine V.ret ?_
 obtain rfl := Option.some.inj hm0
 exact ⟨_, _, ⟨_, _, rfl, rfl, rfl⟩, (sub1 (k := 0) rfl), rfl, rfl⟩

theorem ok_slices_choosePivotCmpFunc_impl_Span {ρ0 rn : Nat} {data : List Span} {a : Int} {b_ : Int} {f3 : Nat} {cs3 : List PV} {r : Int × Int} {fm : Span → Span → Option Int} (h : M.slices_choosePivotCmpFunc_impl_Span data a b_ fm = some r) (hok3 : callOK Tryd.prog f3 = true) (hf3 : ∀ x0 x1 r, fm x0 x1 = some r → Does Tryd.prog f3 (encSpan x0 :: encSpan x1 :: cs3) [] rn (fun x H => x = .int .i64 r ∧ H = [])) : Does Tryd.prog 158 [.vl ρ0 3 (List.map encSpan data), .int .i64 a, .int .i64 b_, .fn f3 cs3] [] rn (fun x H => x = .tup [.int .i64 r.1, .int .i64 r.2] ∧ H = []) := by
 have hm0 := h; clear h; unfold M.slices_choosePivotCmpFunc_impl_Span at hm0
 try dsimp only at hm0
 refine Does.intro (N := 63) Tryd.func158 rfl rfl rfl rfl ?_
 intro w0 S0 L0
 refine V.seq ?_
 refine V.region ?_
 refine VO.cons rfl (V1.assign rfl rfl rfl lt0 ?_)
 refine VO.cons rfl (V1.assign rfl rfl rfl lt0 ?_)
 refine VO.nil ?_
 refine V.seq ?_
 refine V.region ?_
 refine VO.cons rfl (V1.move rfl rfl rfl lt0 ?_)
 refine VO.cons rfl (V1.move rfl rfl rfl lt0 ?_)
 refine VO.cons rfl (V1.int rfl rfl rfl rfl rfl lt0 ?_)
 refine VO.cons rfl (V1.assign rfl rfl rfl lt0 ?_)
 refine VO.nil ?_
 refine V.keep 63 [0, 1, 3, 10] [] (E0 := [(0, .vl ρ0 3 (List.map encSpan data)), (1, .int .i64 a), (3, .fn f3 cs3), (10, .int .i64 (IntKind.i64.wrap (b_ - a)))]) (H0 := []) rfl (⟨_, _, rfl, rfl, _, _, rfl, rfl, _, _, rfl, rfl, _, _, rfl, rfl, rfl⟩) (rfl) rfl ?_
 refine V.seq ?_
 refine V.region ?_
 refine VO.cons rfl (V1.alloc rfl rfl zk_3 lt0 ?_)
 intro b0
 refine VO.nil ?_
 refine V.seq ?_
 refine V.region ?_
 refine VO.cons rfl (V1.move rfl rfl rfl lt0 ?_)
 refine VO.cons rfl (V1.move rfl rfl rfl lt0 ?_)
 refine VO.cons rfl (V1.quo rfl rfl rfl rfl (by decide) lt0 ?_)
 refine VO.cons rfl (V1.int rfl rfl rfl rfl rfl lt0 ?_)
 refine VO.cons rfl (V1.int rfl rfl rfl rfl rfl lt0 ?_)
 refine VO.cons rfl (V1.assign rfl rfl rfl lt0 ?_)
 refine VO.nil ?_
 refine V.keep 63 [0, 1, 3, 10, 11, 12] [0] (E0 := [(0, .vl ρ0 3 (List.map encSpan data)), (1, .int .i64 a), (3, .fn f3 cs3), (10, .int .i64 (IntKind.i64.wrap (b_ - a))), (11, .ref b0 1 0 0), (12, .int .i64 (IntKind.i64.wrap (a + (IntKind.i64.wrap ((IntKind.i64.wrap (Int.tdiv (IntKind.i64.wrap (b_ - a)) (4 : Int))) * (1 : Int))))))]) (H0 := [(b0, ⟨1, [.int .i64 (0 : Int)]⟩)]) rfl (⟨_, _, rfl, rfl, _, _, rfl, rfl, _, _, rfl, rfl, _, _, rfl, rfl, _, _, rfl, rfl, _, _, rfl, rfl, rfl⟩) (⟨_, _, rfl, rfl, rfl⟩) rfl ?_
 refine V.seq ?_
 refine V.region ?_
 refine VO.cons rfl (V1.move rfl rfl rfl lt0 ?_)
 refine VO.cons rfl (V1.move rfl rfl rfl lt0 ?_)
 refine VO.cons rfl (V1.quo rfl rfl rfl rfl (by decide) lt0 ?_)
 refine VO.cons rfl (V1.int rfl rfl rfl rfl rfl lt0 ?_)
 refine VO.cons rfl (V1.int rfl rfl rfl rfl rfl lt0 ?_)
 refine VO.cons rfl (V1.assign rfl rfl rfl lt0 ?_)
 refine VO.nil ?_
 refine V.keep 63 [0, 1, 3, 10, 11, 12, 13] [0] (E0 := [(0, .vl ρ0 3 (List.map encSpan data)), (1, .int .i64 a), (3, .fn f3 cs3), (10, .int .i64 (IntKind.i64.wrap (b_ - a))), (11, .ref b0 1 0 0), (12, .int .i64 (IntKind.i64.wrap (a + (IntKind.i64.wrap ((IntKind.i64.wrap (Int.tdiv (IntKind.i64.wrap (b_ - a)) (4 : Int))) * (1 : Int)))))), (13, .int .i64 (IntKind.i64.wrap (a + (IntKind.i64.wrap ((IntKind.i64.wrap (Int.tdiv (IntKind.i64.wrap (b_ - a)) (4 : Int))) * (2 : Int))))))]) (H0 := [(b0, ⟨1, [.int .i64 (0 : Int)]⟩)]) rfl (⟨_, _, rfl, rfl, _, _, rfl, rfl, _, _, rfl, rfl, _, _, rfl, rfl, _, _, rfl, rfl, _, _, rfl, rfl, _, _, rfl, rfl, rfl⟩) (⟨_, _, rfl, rfl, rfl⟩) rfl ?_
 refine V.seq ?_
 refine V.region ?_
 refine VO.cons rfl (V1.move rfl rfl rfl lt0 ?_)
 refine VO.cons rfl (V1.move rfl rfl rfl lt0 ?_)
 refine VO.cons rfl (V1.quo rfl rfl rfl rfl (by decide) lt0 ?_)
 refine VO.cons rfl (V1.int rfl rfl rfl rfl rfl lt0 ?_)
 refine VO.cons rfl (V1.int rfl rfl rfl rfl rfl lt0 ?_)
 refine VO.cons rfl (V1.assign rfl rfl rfl lt0 ?_)
 refine VO.nil ?_
 refine V.keep 63 [0, 3, 10, 11, 12, 13, 14] [0] (E0 := [(0, .vl ρ0 3 (List.map encSpan data)), (3, .fn f3 cs3), (10, .int .i64 (IntKind.i64.wrap (b_ - a))), (11, .ref b0 1 0 0), (12, .int .i64 (IntKind.i64.wrap (a + (IntKind.i64.wrap ((IntKind.i64.wrap (Int.tdiv (IntKind.i64.wrap (b_ - a)) (4 : Int))) * (1 : Int)))))), (13, .int .i64 (IntKind.i64.wrap (a + (IntKind.i64.wrap ((IntKind.i64.wrap (Int.tdiv (IntKind.i64.wrap (b_ - a)) (4 : Int))) * (2 : Int)))))), (14, .int .i64 (IntKind.i64.wrap (a + (IntKind.i64.wrap ((IntKind.i64.wrap (Int.tdiv (IntKind.i64.wrap (b_ - a)) (4 : Int))) * (3 : Int))))))]) (H0 := [(b0, ⟨1, [.int .i64 (0 : Int)]⟩)]) rfl (⟨_, _, rfl, rfl, _, _, rfl, rfl, _, _, rfl, rfl, _, _, rfl, rfl, _, _, rfl, rfl, _, _, rfl, rfl, _, _, rfl, rfl, rfl⟩) (⟨_, _, rfl, rfl, rfl⟩) rfl ?_
 refine V.seq ?_
 replace hm0 := bindO hm0; rcases hm0 with ⟨j0, hm1, hm0⟩
 refine V.cutT (D := (Int × Int) × (Unit)) (fun ⟨⟨j_, swaps⟩, _⟩ => ⟨63, [(13, .int .i64 j_), (11, .ref b0 1 0 0)], [(b0, ⟨1, [.int .i64 swaps]⟩)]⟩) (fun ⟨⟨j_, swaps⟩, _⟩ => ((j_, swaps) = j0)) ?_ ?_
 ·
  refine V.seq ?_
  refine V.region ?_
  refine VO.cons rfl (V1.move rfl rfl rfl lt0 ?_)
  refine VO.cons rfl (V1.int rfl rfl rfl rfl rfl lt0 ?_)
  refine VO.nil ?_
  refine V.cond rfl (fun hc0 => ?_) (fun hc0 => ?_)
  ·
   replace hm1 := cond_t hc0 hm1
   refine V.seq ?_
   replace hm1 := bindO hm1; rcases hm1 with ⟨j1, hm2, hm1⟩
   refine V.cutT (D := (Int × Int × Int × Int) × (Unit)) (fun ⟨⟨i, j_0, k, swaps0⟩, _⟩ => ⟨63, [(12, .int .i64 i), (13, .int .i64 j_0), (14, .int .i64 k), (0, .vl ρ0 3 (List.map encSpan data)), (3, .fn f3 cs3), (11, .ref b0 1 0 0)], [(b0, ⟨1, [.int .i64 swaps0]⟩)]⟩) (fun ⟨⟨i, j_0, k, swaps0⟩, _⟩ => ((i, j_0, k, swaps0) = j1)) ?_ ?_
   ·
    refine V.seq ?_
    refine V.region ?_
    refine VO.cons rfl (V1.move rfl rfl rfl lt0 ?_)
    refine VO.cons rfl (V1.int rfl rfl rfl rfl rfl lt0 ?_)
    refine VO.nil ?_
    refine V.keep 63 [0, 3, 11, 12, 13, 14, 36] [0] (E0 := [(0, .vl ρ0 3 (List.map encSpan data)), (3, .fn f3 cs3), (11, .ref b0 1 0 0), (12, .int .i64 (IntKind.i64.wrap (a + (IntKind.i64.wrap ((IntKind.i64.wrap (Int.tdiv (IntKind.i64.wrap (b_ - a)) (4 : Int))) * (1 : Int)))))), (13, .int .i64 (IntKind.i64.wrap (a + (IntKind.i64.wrap ((IntKind.i64.wrap (Int.tdiv (IntKind.i64.wrap (b_ - a)) (4 : Int))) * (2 : Int)))))), (14, .int .i64 (IntKind.i64.wrap (a + (IntKind.i64.wrap ((IntKind.i64.wrap (Int.tdiv (IntKind.i64.wrap (b_ - a)) (4 : Int))) * (3 : Int)))))), (36, .bool (decide ((IntKind.i64.wrap (b_ - a)) ≥ (50 : Int))))]) (H0 := [(b0, ⟨1, [.int .i64 (0 : Int)]⟩)]) rfl (⟨_, _, rfl, rfl, _, _, rfl, rfl, _, _, rfl, rfl, _, _, rfl, rfl, _, _, rfl, rfl, _, _, rfl, rfl, _, _, rfl, rfl, rfl⟩) (⟨_, _, rfl, rfl, rfl⟩) rfl ?_
    refine V.cond rfl (fun hc1 => ?_) (fun hc1 => ?_)
    ·
     replace hm2 := cond_t hc1 hm2
     refine V.seq ?_
     replace hm2 := bindO hm2; rcases hm2 with ⟨y0, hh0, hm2⟩
     refine V.region ?_
     refine VO.cons rfl (V1.move rfl rfl rfl lt0 ?_)
     refine VO.cons rfl (V1.move rfl rfl rfl lt0 ?_)
     refine VO.cons rfl (V1.move rfl rfl rfl lt0 ?_)
     refine VO.cons rfl (V1.callM 0 (rn + 1) [] [.vl ρ0 3 (List.map encSpan data), .int .i64 (IntKind.i64.wrap (a + (IntKind.i64.wrap ((IntKind.i64.wrap (Int.tdiv (IntKind.i64.wrap (b_ - a)) (4 : Int))) * (1 : Int))))), .ref b0 1 0 0, .fn f3 cs3] (p := (b0, ⟨1, [.int .i64 (0 : Int)]⟩)) rfl rfl rfl cok_185 rfl rfl ⟨_, _, rfl, .same _, ⟨_, _, rfl, .same _, ⟨_, _, rfl, .same _, ⟨_, _, rfl, .same _, rfl⟩⟩⟩⟩ bwNil (ok_slices_medianAdjacentCmpFunc_impl_Span hh0 (fm := fm) hok3 hf3) rfl (.inl rfl) lt0 ?_)
     rintro _ _ ⟨rfl, rfl⟩
     refine VO.cons rfl (V1.assign rfl rfl rfl lt0 ?_)
     refine VO.nil ?_
     refine V.keep 63 [0, 3, 11, 12, 13, 14] [0] (E0 := [(0, .vl ρ0 3 (List.map encSpan data)), (3, .fn f3 cs3), (11, .ref b0 1 0 0), (12, .int .i64 y0.1), (13, .int .i64 (IntKind.i64.wrap (a + (IntKind.i64.wrap ((IntKind.i64.wrap (Int.tdiv (IntKind.i64.wrap (b_ - a)) (4 : Int))) * (2 : Int)))))), (14, .int .i64 (IntKind.i64.wrap (a + (IntKind.i64.wrap ((IntKind.i64.wrap (Int.tdiv (IntKind.i64.wrap (b_ - a)) (4 : Int))) * (3 : Int))))))]) (H0 := [(b0, ⟨1, [.int .i64 y0.2]⟩)]) rfl (⟨_, _, rfl, rfl, _, _, rfl, rfl, _, _, rfl, rfl, _, _, rfl, rfl, _, _, rfl, rfl, _, _, rfl, rfl, rfl⟩) (⟨_, _, rfl, rfl, rfl⟩) rfl ?_
     refine V.seq ?_
     replace hm2 := bindO hm2; rcases hm2 with ⟨y1, hh1, hm2⟩
     refine V.region ?_
     refine VO.cons rfl (V1.move rfl rfl rfl lt0 ?_)
     refine VO.cons rfl (V1.move rfl rfl rfl lt0 ?_)
     refine VO.cons rfl (V1.move rfl rfl rfl lt0 ?_)
     refine VO.cons rfl (V1.callM 0 (rn + 1) [] [.vl ρ0 3 (List.map encSpan data), .int .i64 (IntKind.i64.wrap (a + (IntKind.i64.wrap ((IntKind.i64.wrap (Int.tdiv (IntKind.i64.wrap (b_ - a)) (4 : Int))) * (2 : Int))))), .ref b0 1 0 0, .fn f3 cs3] (p := (b0, ⟨1, [.int .i64 y0.2]⟩)) rfl rfl rfl cok_185 rfl rfl ⟨_, _, rfl, .same _, ⟨_, _, rfl, .same _, ⟨_, _, rfl, .same _, ⟨_, _, rfl, .same _, rfl⟩⟩⟩⟩ bwNil (ok_slices_medianAdjacentCmpFunc_impl_Span hh1 (fm := fm) hok3 hf3) rfl (.inl rfl) lt0 ?_)
     rintro _ _ ⟨rfl, rfl⟩
     refine VO.cons rfl (V1.assign rfl rfl rfl lt0 ?_)
     refine VO.nil ?_
     refine V.keep 63 [0, 3, 11, 12, 13, 14] [0] (E0 := [(0, .vl ρ0 3 (List.map encSpan data)), (3, .fn f3 cs3), (11, .ref b0 1 0 0), (12, .int .i64 y0.1), (13, .int .i64 y1.1), (14, .int .i64 (IntKind.i64.wrap (a + (IntKind.i64.wrap ((IntKind.i64.wrap (Int.tdiv (IntKind.i64.wrap (b_ - a)) (4 : Int))) * (3 : Int))))))]) (H0 := [(b0, ⟨1, [.int .i64 y1.2]⟩)]) rfl (⟨_, _, rfl, rfl, _, _, rfl, rfl, _, _, rfl, rfl, _, _, rfl, rfl, _, _, rfl, rfl, _, _, rfl, rfl, rfl⟩) (⟨_, _, rfl, rfl, rfl⟩) rfl ?_
     replace hm2 := bindO hm2; rcases hm2 with ⟨y2, hh2, hm2⟩
     refine V.region ?_
     refine VO.cons rfl (V1.move rfl rfl rfl lt0 ?_)
     refine VO.cons rfl (V1.move rfl rfl rfl lt0 ?_)
     refine VO.cons rfl (V1.move rfl rfl rfl lt0 ?_)
     refine VO.cons rfl (V1.callM 0 (rn + 1) [] [.vl ρ0 3 (List.map encSpan data), .int .i64 (IntKind.i64.wrap (a + (IntKind.i64.wrap ((IntKind.i64.wrap (Int.tdiv (IntKind.i64.wrap (b_ - a)) (4 : Int))) * (3 : Int))))), .ref b0 1 0 0, .fn f3 cs3] (p := (b0, ⟨1, [.int .i64 y1.2]⟩)) rfl rfl rfl cok_185 rfl rfl ⟨_, _, rfl, .same _, ⟨_, _, rfl, .same _, ⟨_, _, rfl, .same _, ⟨_, _, rfl, .same _, rfl⟩⟩⟩⟩ bwNil (ok_slices_medianAdjacentCmpFunc_impl_Span hh2 (fm := fm) hok3 hf3) rfl (.inl rfl) lt0 ?_)
     rintro _ _ ⟨rfl, rfl⟩
     refine VO.cons rfl (V1.assign rfl rfl rfl lt0 ?_)
     refine VO.nil ?_
     exact ⟨((y0.1, y1.1, y2.1, y2.2), ()), Option.some.inj hm2, Keeps.mk (ks := [0]) rfl ⟨rfl, rfl, rfl, rfl, rfl, rfl, trivial⟩ (⟨_, _, rfl, rfl, rfl⟩) rfl⟩
    ·
     replace hm2 := cond_f hc1 hm2
     refine V.skip ?_
     exact ⟨(((IntKind.i64.wrap (a + (IntKind.i64.wrap ((IntKind.i64.wrap (Int.tdiv (IntKind.i64.wrap (b_ - a)) (4 : Int))) * (1 : Int))))), (IntKind.i64.wrap (a + (IntKind.i64.wrap ((IntKind.i64.wrap (Int.tdiv (IntKind.i64.wrap (b_ - a)) (4 : Int))) * (2 : Int))))), (IntKind.i64.wrap (a + (IntKind.i64.wrap ((IntKind.i64.wrap (Int.tdiv (IntKind.i64.wrap (b_ - a)) (4 : Int))) * (3 : Int))))), (0 : Int)), ()), Option.some.inj hm2, Keeps.mk (ks := [0]) rfl ⟨rfl, rfl, rfl, rfl, rfl, rfl, trivial⟩ (⟨_, _, rfl, rfl, rfl⟩) rfl⟩
   ·
    rintro ⟨⟨i, j_0, k, swaps0⟩, _⟩ rfl
    try dsimp only at hm1
    replace hm1 := bindO hm1; rcases hm1 with ⟨y3, hh3, hm1⟩
    refine V.region ?_
    refine VO.cons rfl (V1.move rfl rfl rfl lt0 ?_)
    refine VO.cons rfl (V1.move rfl rfl rfl lt0 ?_)
    refine VO.cons rfl (V1.move rfl rfl rfl lt0 ?_)
    refine VO.cons rfl (V1.move rfl rfl rfl lt0 ?_)
    refine VO.cons rfl (V1.move rfl rfl rfl lt0 ?_)
    refine VO.cons rfl (V1.callM 0 (rn + 1) [] [.vl ρ0 3 (List.map encSpan data), .int .i64 i, .int .i64 j_0, .int .i64 k, .ref b0 1 0 0, .fn f3 cs3] (p := (b0, ⟨1, [.int .i64 swaps0]⟩)) rfl rfl rfl cok_186 rfl rfl ⟨_, _, rfl, .same _, ⟨_, _, rfl, .same _, ⟨_, _, rfl, .same _, ⟨_, _, rfl, .same _, ⟨_, _, rfl, .same _, ⟨_, _, rfl, .same _, rfl⟩⟩⟩⟩⟩⟩ bwNil (ok_slices_medianCmpFunc_impl_Span hh3 (fm := fm) hok3 hf3) rfl (.inl rfl) lt0 ?_)
    rintro _ _ ⟨rfl, rfl⟩
    refine VO.cons rfl (V1.assign rfl rfl rfl lt0 ?_)
    refine VO.nil ?_
    exact ⟨((y3.1, y3.2), ()), Option.some.inj hm1, Keeps.mk (ks := [0]) rfl ⟨rfl, rfl, trivial⟩ (⟨_, _, rfl, rfl, rfl⟩) rfl⟩
  ·
   replace hm1 := cond_f hc0 hm1
   refine V.skip ?_
   exact ⟨(((IntKind.i64.wrap (a + (IntKind.i64.wrap ((IntKind.i64.wrap (Int.tdiv (IntKind.i64.wrap (b_ - a)) (4 : Int))) * (2 : Int))))), (0 : Int)), ()), Option.some.inj hm1, Keeps.mk (ks := [0]) rfl ⟨rfl, rfl, trivial⟩ (⟨_, _, rfl, rfl, rfl⟩) rfl⟩
 ·
  rintro ⟨⟨j_, swaps⟩, _⟩ rfl
  try dsimp only at hm0
  refine V.seq ?_
  refine V.region ?_
  refine VO.cons rfl (V1.loadRef (k := 0) rfl rfl tyk_3 rfl rfl rfl rfl rfl lt0 ?_)
  refine VO.nil ?_
  refine V.block ?_
  refine V.seq ?_
  refine V.region ?_
  refine VO.cons rfl (V1.int rfl rfl rfl rfl rfl lt0 ?_)
  refine VO.cons rfl (V1.assign rfl rfl rfl lt0 ?_)
  refine VO.nil ?_
  refine V.cond rfl (fun hc2 => ?_) (fun hc2 => ?_)
  ·
   replace hm0 := cond_t hc2 hm0
   refine V.seq ?_
   refine V.region ?_
   refine VO.cons rfl (V1.move rfl rfl rfl lt0 ?_)
   refine VO.cons rfl (V1.assign rfl rfl rfl lt0 ?_)
   refine VO.cons rfl (V1.assign rfl rfl rfl lt0 ?_)
   refine VO.nil ?_
   refine V.ret ?_
   obtain rfl := Option.some.inj hm0
   exact ⟨_, [], ⟨_, _, rfl, rfl, _, _, rfl, rfl, rfl⟩, List.nil_sublist _, rfl, rfl⟩
  ·
   replace hm0 := cond_f hc2 hm0
   refine V.seq ?_
   refine V.region ?_
   refine VO.cons rfl (V1.int rfl rfl rfl rfl rfl lt0 ?_)
   refine VO.cons rfl (V1.assign rfl rfl rfl lt0 ?_)
   refine VO.nil ?_
   refine V.keep 63 [13, 60] [] (E0 := [(13, .int .i64 j_), (60, .bool (swaps == (12 : Int)))]) (H0 := []) rfl (⟨_, _, rfl, rfl, _, _, rfl, rfl, rfl⟩) (rfl) rfl ?_
   refine V.cond rfl (fun hc3 => ?_) (fun hc3 => ?_)
   ·
    replace hm0 := cond_t hc3 hm0
    refine V.seq ?_
    refine V.region ?_
    refine VO.cons rfl (V1.move rfl rfl rfl lt0 ?_)
    refine VO.cons rfl (V1.assign rfl rfl rfl lt0 ?_)
    refine VO.cons rfl (V1.assign rfl rfl rfl lt0 ?_)
    refine VO.nil ?_
    refine V.ret ?_
    obtain rfl := Option.some.inj hm0
    exact ⟨_, [], ⟨_, _, rfl, rfl, _, _, rfl, rfl, rfl⟩, List.nil_sublist _, rfl, rfl⟩
   ·
    replace hm0 := cond_f hc3 hm0
    refine V.seq ?_
    refine V.region ?_
    refine VO.cons rfl (V1.move rfl rfl rfl lt0 ?_)
    refine VO.cons rfl (V1.assign rfl rfl rfl lt0 ?_)
    refine VO.cons rfl (V1.assign rfl rfl rfl lt0 ?_)
    refine VO.nil ?_
    refine V.ret ?_
    obtain rfl := Option.some.inj hm0
    exact ⟨_, [], ⟨_, _, rfl, rfl, _, _, rfl, rfl, rfl⟩, List.nil_sublist _, rfl, rfl⟩
end Go.Proofs.YteocnbeefedbkaaDoor
