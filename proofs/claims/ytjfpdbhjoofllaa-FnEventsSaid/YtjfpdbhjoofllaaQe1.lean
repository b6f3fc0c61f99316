/- the functions do what their models say -/
import Derived.Test.YtjfpdbhjoofllaaFacts
import Derived.Test.YtjfpdbhjoofllaaMeM
set_option linter.unusedSimpArgs false
set_option linter.unusedVariables false
set_option maxRecDepth 100000
set_option maxHeartbeats 4000000
namespace Go.Proofs.Ytjfpdbhjoofllaa
open Go.VS

theorem ok_laws_vBig {ρ0 rn : Nat} {code : List Int} {r : Bool} (h : M.laws_vBig code = some r) : Does Try.prog 6 [.vl ρ0 1 (List.map encU8 code)] [] rn (fun x H => x = .bool r ∧ H = []) := by
 have hm0 := h; clear h; unfold M.laws_vBig at hm0
 try dsimp only at hm0
 refine Does.intro (N := 6) Try.func6 rfl rfl rfl rfl ?_
 intro w0 S0
 refine V.seq ?_
 refine V.region ?_
 refine VO.cons rfl (V1.assign rfl rfl rfl (ltb rfl) ?_)
 refine VO.nil ?_
 refine V.seq ?_
 refine V.region ?_
 refine VO.cons rfl (V1.move rfl rfl rfl (ltb rfl) ?_)
 refine VO.cons rfl (V1.lenMap rfl rfl rfl rfl rfl rfl isl_22 (ltb rfl) ?_)
 refine VO.cons rfl (V1.int rfl rfl rfl rfl rfl (ltb rfl) ?_)
 refine VO.cons rfl (V1.assign rfl rfl rfl (ltb rfl) ?_)
 refine VO.nil ?_
 refine V.ret ?_
 obtain rfl := Option.some.inj hm0
 exact ⟨_, [], ⟨_, _, rfl, rfl, rfl⟩, List.nil_sublist _, rfl, rfl⟩

theorem ok_spec_l1Cur_next {ρ0 rn bp : Nat} {c : Cur} {r : Int × Cur} (h : M.spec_l1Cur_next c = some r) : Does Try.prog 116 [.ref bp 3 0 0] [(bp, ⟨3, [encCur ρ0 c]⟩)] rn (fun x H => x = .int .i64 r.1 ∧ H = [(bp, ⟨3, [encCur ρ0 r.2]⟩)]) := by
 have hm0 := h; clear h; unfold M.spec_l1Cur_next at hm0
 try dsimp only at hm0
 refine Does.intro (N := 62) Try.func116 rfl rfl rfl rfl ?_
 intro w0 S0
 refine V.seq ?_
 refine V.region ?_
 refine VO.cons rfl (V1.assign rfl rfl rfl (ltb rfl) ?_)
 refine VO.nil ?_
 refine V.seq ?_
 refine V.region ?_
 refine VO.cons rfl (V1.assign rfl rfl rfl (ltb rfl) ?_)
 refine VO.nil ?_
 refine V.seq ?_
 replace hm0 := bindO hm0; rcases hm0 with ⟨j0, hm1, hm0⟩
 refine V.cutT (D := (Int) × (Unit)) (fun ⟨b_, _⟩ => ⟨62, [(3, .int .i64 b_), (0, .ref bp 3 0 0)], [(bp, ⟨3, [encCur ρ0 c]⟩)]⟩) (fun ⟨b_, _⟩ => (b_ = j0)) ?_ ?_
 ·
  refine V.seq ?_
  refine V.regionM 62 9 [⟨[(0, none)], [], none⟩, ⟨[(4, some 0)], [], none⟩, ⟨[(5, some 0)], [], none⟩, ⟨[(6, some 0)], [], none⟩, ⟨[(0, none)], [], none⟩, ⟨[(8, some 0)], [], none⟩, ⟨[(9, some 0)], [], none⟩, ⟨[(10, some 0)], [], none⟩, ⟨[(11, some 0)], [], none⟩] [(0, none), (3, none), (7, some 5), (12, some 0)] (⟨_, rfl, ⟨_, rfl, ⟨_, rfl, ⟨_, rfl, ⟨_, rfl, ⟨_, rfl, ⟨_, rfl, ⟨_, rfl, ⟨_, rfl, ⟨rfl, rfl⟩⟩⟩⟩⟩⟩⟩⟩⟩⟩) mixed_orders rfl (by decide +kernel) (fun hck2 => ?_)
  refine VP.step (p := ?pv104) rfl rfl rfl (⟨_, _, rfl, rfl, rfl⟩) ?hv104 ?rest104 hck2
  case hv104 =>
   intro E1
   refine (V1.move rfl rfl rfl (ltb rfl) ?_)
   exact rfl
  refine VP.step (p := ?pv105) rfl rfl rfl (⟨_, _, rfl, rfl, rfl⟩) ?hv105 ?rest105 hck2
  case hv105 =>
   intro E1
   refine (V1.nilRef rfl rfl rfl (ltb rfl) ?_)
   exact rfl
  refine VP.step (p := ?pv106) rfl rfl rfl (⟨_, _, rfl, rfl, rfl⟩) ?hv106 ?rest106 hck2
  case hv106 =>
   intro E1
   refine (V1.fieldRef rfl rfl fo_80_1 rfl (ltb rfl) ?_)
   exact rfl
  refine VP.step (p := ?pv107) rfl rfl rfl (⟨_, _, rfl, rfl, rfl⟩) ?hv107 ?rest107 hck2
  case hv107 =>
   intro E1
   refine (V1.loadRef (k := 0) rfl rfl tyk_3 rfl rfl rfl rfl rfl (ltb rfl) ?_)
   exact rfl
  refine VP.step (p := ?pv108) rfl rfl rfl (⟨_, _, rfl, rfl, rfl⟩) ?hv108 ?rest108 hck2
  case hv108 =>
   intro E1
   refine (V1.move rfl rfl rfl (ltb rfl) ?_)
   exact rfl
  refine VP.step (p := ?pv109) rfl rfl rfl (⟨_, _, rfl, rfl, rfl⟩) ?hv109 ?rest109 hck2
  case hv109 =>
   intro E1
   refine (V1.nilRef rfl rfl rfl (ltb rfl) ?_)
   exact rfl
  refine VP.step (p := ?pv110) rfl rfl rfl (⟨_, _, rfl, rfl, rfl⟩) ?hv110 ?rest110 hck2
  case hv110 =>
   intro E1
   refine (V1.fieldRef rfl rfl fo_80_0 rfl (ltb rfl) ?_)
   exact rfl
  refine VP.step (p := ?pv111) rfl rfl rfl (⟨_, _, rfl, rfl, rfl⟩) ?hv111 ?rest111 hck2
  case hv111 =>
   intro E1
   refine (V1.loadRef (k := 0) rfl rfl tyk_22 rfl rfl rfl rfl rfl (ltb rfl) ?_)
   exact rfl
  refine VP.step (p := ?pv112) rfl rfl rfl (⟨_, _, rfl, rfl, rfl⟩) ?hv112 ?rest112 hck2
  case hv112 =>
   intro E1
   refine (V1.lenMap rfl rfl rfl rfl rfl rfl isl_22 (ltb rfl) ?_)
   exact rfl
  refine VP.fin rfl (⟨_, _, rfl, rfl, ⟨_, _, rfl, rfl, ⟨_, _, rfl, rfl, ⟨_, _, rfl, rfl, rfl⟩⟩⟩⟩) ?_
  refine VO.cons rfl (V1.int rfl rfl rfl rfl rfl (ltb rfl) ?_)
  refine VO.nil ?_
  refine V.cond rfl (fun hc0 => ?_) (fun hc0 => ?_)
  ·
   replace hm1 := cond_t hc0 hm1
   replace hm1 := asrt_some hm1; rcases hm1 with ⟨hh0, hm1⟩
   refine V.regionM 62 8 [⟨[(0, none)], [], none⟩, ⟨[(14, some 0)], [], none⟩, ⟨[(15, some 0)], [], none⟩, ⟨[(16, some 0)], [], none⟩, ⟨[(0, none)], [], none⟩, ⟨[(18, some 0)], [], none⟩, ⟨[(19, some 0)], [], none⟩, ⟨[(20, some 0)], [], none⟩] [(0, none), (17, some 4), (21, some 0)] (⟨_, rfl, ⟨_, rfl, ⟨_, rfl, ⟨_, rfl, ⟨_, rfl, ⟨_, rfl, ⟨_, rfl, ⟨_, rfl, ⟨rfl, rfl⟩⟩⟩⟩⟩⟩⟩⟩⟩) mixed_orders rfl (by decide +kernel) (fun hck3 => ?_)
   refine VP.step (p := ?pv113) rfl rfl rfl (⟨_, _, rfl, rfl, rfl⟩) ?hv113 ?rest113 hck3
   case hv113 =>
    intro E1
    refine (V1.move rfl rfl rfl (ltb rfl) ?_)
    exact rfl
   refine VP.step (p := ?pv114) rfl rfl rfl (⟨_, _, rfl, rfl, rfl⟩) ?hv114 ?rest114 hck3
   case hv114 =>
    intro E1
    refine (V1.nilRef rfl rfl rfl (ltb rfl) ?_)
    exact rfl
   refine VP.step (p := ?pv115) rfl rfl rfl (⟨_, _, rfl, rfl, rfl⟩) ?hv115 ?rest115 hck3
   case hv115 =>
    intro E1
    refine (V1.fieldRef rfl rfl fo_80_0 rfl (ltb rfl) ?_)
    exact rfl
   refine VP.step (p := ?pv116) rfl rfl rfl (⟨_, _, rfl, rfl, rfl⟩) ?hv116 ?rest116 hck3
   case hv116 =>
    intro E1
    refine (V1.loadRef (k := 0) rfl rfl tyk_22 rfl rfl rfl rfl rfl (ltb rfl) ?_)
    exact rfl
   refine VP.step (p := ?pv117) rfl rfl rfl (⟨_, _, rfl, rfl, rfl⟩) ?hv117 ?rest117 hck3
   case hv117 =>
    intro E1
    refine (V1.move rfl rfl rfl (ltb rfl) ?_)
    exact rfl
   refine VP.step (p := ?pv118) rfl rfl rfl (⟨_, _, rfl, rfl, rfl⟩) ?hv118 ?rest118 hck3
   case hv118 =>
    intro E1
    refine (V1.nilRef rfl rfl rfl (ltb rfl) ?_)
    exact rfl
   refine VP.step (p := ?pv119) rfl rfl rfl (⟨_, _, rfl, rfl, rfl⟩) ?hv119 ?rest119 hck3
   case hv119 =>
    intro E1
    refine (V1.fieldRef rfl rfl fo_80_1 rfl (ltb rfl) ?_)
    exact rfl
   refine VP.step (p := ?pv120) rfl rfl rfl (⟨_, _, rfl, rfl, rfl⟩) ?hv120 ?rest120 hck3
   case hv120 =>
    intro E1
    refine (V1.loadRef (k := 0) rfl rfl tyk_3 rfl rfl rfl rfl rfl (ltb rfl) ?_)
    exact rfl
   refine VP.fin rfl (⟨_, _, rfl, rfl, ⟨_, _, rfl, rfl, ⟨_, _, rfl, rfl, rfl⟩⟩⟩) ?_
   refine VO.cons rfl (V1.indexI rfl rfl esz_22 rfl rfl hh0 (ltb rfl) ?_)
   refine VO.cons rfl (V1.loadPin rfl rfl tyk_5 rfl rfl (ltb rfl) ?_)
   refine VO.cons rfl (V1.conv rfl rfl und_5 und_3 rfl (ltb rfl) ?_)
   refine VO.cons rfl (V1.assign rfl rfl rfl (ltb rfl) ?_)
   refine VO.nil ?_
   exact ⟨((IntKind.i64.wrap (c.Code.getD (Int.toNat c.At) default)), ()), Option.some.inj hm1, Keeps.mk (ks := [0]) rfl ⟨rfl, rfl, trivial⟩ (⟨_, _, rfl, rfl, rfl⟩) rfl⟩
  ·
   replace hm1 := cond_f hc0 hm1
   refine V.skip ?_
   exact ⟨((0 : Int), ()), Option.some.inj hm1, Keeps.mk (ks := [0]) rfl ⟨rfl, rfl, trivial⟩ (⟨_, _, rfl, rfl, rfl⟩) rfl⟩
 ·
  rintro ⟨b_, _⟩ rfl
  try dsimp only at hm0
  refine V.seq ?_
  refine V.region ?_
  refine VO.cons rfl (V1.move rfl rfl rfl (ltb rfl) ?_)
  refine VO.cons rfl (V1.nilRef rfl rfl rfl (ltb rfl) ?_)
  refine VO.cons rfl (V1.fieldRef rfl rfl fo_80_1 rfl (ltb rfl) ?_)
  refine VO.cons rfl (V1.loadRef (k := 0) rfl rfl tyk_3 rfl rfl rfl rfl rfl (ltb rfl) ?_)
  refine VO.cons rfl (V1.int rfl rfl rfl rfl rfl (ltb rfl) ?_)
  refine VO.cons rfl (V1.nilRef rfl rfl rfl (ltb rfl) ?_)
  refine VO.cons rfl (V1.fieldRef rfl rfl fo_80_1 rfl (ltb rfl) ?_)
  refine VO.cons rfl (V1.storeRef (k := 0) rfl rfl tyk_3 rfl rfl rfl rfl rfl rfl rfl rfl rfl ?_)
  refine VO.nil ?_
  refine V.keep 62 [0, 3] [0] (E0 := [(0, .ref bp 3 0 0), (3, .int .i64 b_)]) (H0 := [(bp, ⟨3, [.agg [.vl ρ0 1 (List.map encU8 c.Code), .int .i64 (IntKind.i64.wrap (c.At + (1 : Int))), .int .u64 c.Seed]]⟩)]) rfl (⟨_, _, rfl, rfl, ⟨_, _, rfl, rfl, rfl⟩⟩) (⟨_, _, rfl, rfl, rfl⟩) rfl ?_
  refine V.seq ?_
  refine V.region ?_
  refine VO.cons rfl (V1.move rfl rfl rfl (ltb rfl) ?_)
  refine VO.cons rfl (V1.move rfl rfl rfl (ltb rfl) ?_)
  refine VO.cons rfl (V1.nilRef rfl rfl rfl (ltb rfl) ?_)
  refine VO.cons rfl (V1.fieldRef rfl rfl fo_80_2 rfl (ltb rfl) ?_)
  refine VO.cons rfl (V1.loadRef (k := 0) rfl rfl tyk_78 rfl rfl rfl rfl rfl (ltb rfl) ?_)
  refine VO.cons rfl (V1.int rfl rfl rfl rfl rfl (ltb rfl) ?_)
  refine VO.cons rfl (V1.move rfl rfl rfl (ltb rfl) ?_)
  refine VO.cons rfl (V1.conv rfl rfl und_3 und_78 rfl (ltb rfl) ?_)
  refine VO.cons rfl (V1.int rfl rfl rfl rfl rfl (ltb rfl) ?_)
  refine VO.cons rfl (V1.int rfl rfl rfl rfl rfl (ltb rfl) ?_)
  refine VO.cons rfl (V1.nilRef rfl rfl rfl (ltb rfl) ?_)
  refine VO.cons rfl (V1.fieldRef rfl rfl fo_80_2 rfl (ltb rfl) ?_)
  refine VO.cons rfl (V1.storeRef (k := 0) rfl rfl tyk_78 rfl rfl rfl rfl rfl rfl rfl rfl rfl ?_)
  refine VO.nil ?_
  refine V.keep 62 [0, 3] [0] (E0 := [(0, .ref bp 3 0 0), (3, .int .i64 b_)]) (H0 := [(bp, ⟨3, [.agg [.vl ρ0 1 (List.map encU8 c.Code), .int .i64 (IntKind.i64.wrap (c.At + (1 : Int))), .int .u64 (IntKind.u64.wrap ((IntKind.u64.wrap ((IntKind.u64.wrap (c.Seed * (6364136223846793005 : Int))) + (IntKind.u64.wrap b_))) + (103535 : Int)))]]⟩)]) rfl (⟨_, _, rfl, rfl, ⟨_, _, rfl, rfl, rfl⟩⟩) (⟨_, _, rfl, rfl, rfl⟩) rfl ?_
  refine V.seq ?_
  refine V.seq ?_
  refine V.regionM 62 9 [⟨[(0, none)], [], none⟩, ⟨[(44, some 0)], [], none⟩, ⟨[(45, some 0)], [], none⟩, ⟨[(46, some 0)], [], none⟩, ⟨[(0, none)], [], none⟩, ⟨[(48, some 0)], [], none⟩, ⟨[(49, some 0)], [], none⟩, ⟨[(50, some 0)], [], none⟩, ⟨[(51, some 0)], [], none⟩] [(0, none), (3, none), (47, some 5), (52, some 0)] (⟨_, rfl, ⟨_, rfl, ⟨_, rfl, ⟨_, rfl, ⟨_, rfl, ⟨_, rfl, ⟨_, rfl, ⟨_, rfl, ⟨_, rfl, ⟨rfl, rfl⟩⟩⟩⟩⟩⟩⟩⟩⟩⟩) mixed_orders rfl (by decide +kernel) (fun hck6 => ?_)
  refine VP.step (p := ?pv121) rfl rfl rfl (⟨_, _, rfl, rfl, rfl⟩) ?hv121 ?rest121 hck6
  case hv121 =>
   intro E1
   refine (V1.move rfl rfl rfl (ltb rfl) ?_)
   exact rfl
  refine VP.step (p := ?pv122) rfl rfl rfl (⟨_, _, rfl, rfl, rfl⟩) ?hv122 ?rest122 hck6
  case hv122 =>
   intro E1
   refine (V1.nilRef rfl rfl rfl (ltb rfl) ?_)
   exact rfl
  refine VP.step (p := ?pv123) rfl rfl rfl (⟨_, _, rfl, rfl, rfl⟩) ?hv123 ?rest123 hck6
  case hv123 =>
   intro E1
   refine (V1.fieldRef rfl rfl fo_80_1 rfl (ltb rfl) ?_)
   exact rfl
  refine VP.step (p := ?pv124) rfl rfl rfl (⟨_, _, rfl, rfl, rfl⟩) ?hv124 ?rest124 hck6
  case hv124 =>
   intro E1
   refine (V1.loadRef (k := 0) rfl rfl tyk_3 rfl rfl rfl rfl rfl (ltb rfl) ?_)
   exact rfl
  refine VP.step (p := ?pv125) rfl rfl rfl (⟨_, _, rfl, rfl, rfl⟩) ?hv125 ?rest125 hck6
  case hv125 =>
   intro E1
   refine (V1.move rfl rfl rfl (ltb rfl) ?_)
   exact rfl
  refine VP.step (p := ?pv126) rfl rfl rfl (⟨_, _, rfl, rfl, rfl⟩) ?hv126 ?rest126 hck6
  case hv126 =>
   intro E1
   refine (V1.nilRef rfl rfl rfl (ltb rfl) ?_)
   exact rfl
  refine VP.step (p := ?pv127) rfl rfl rfl (⟨_, _, rfl, rfl, rfl⟩) ?hv127 ?rest127 hck6
  case hv127 =>
   intro E1
   refine (V1.fieldRef rfl rfl fo_80_0 rfl (ltb rfl) ?_)
   exact rfl
  refine VP.step (p := ?pv128) rfl rfl rfl (⟨_, _, rfl, rfl, rfl⟩) ?hv128 ?rest128 hck6
  case hv128 =>
   intro E1
   refine (V1.loadRef (k := 0) rfl rfl tyk_22 rfl rfl rfl rfl rfl (ltb rfl) ?_)
   exact rfl
  refine VP.step (p := ?pv129) rfl rfl rfl (⟨_, _, rfl, rfl, rfl⟩) ?hv129 ?rest129 hck6
  case hv129 =>
   intro E1
   refine (V1.lenMap rfl rfl rfl rfl rfl rfl isl_22 (ltb rfl) ?_)
   exact rfl
  refine VP.fin rfl (⟨_, _, rfl, rfl, ⟨_, _, rfl, rfl, ⟨_, _, rfl, rfl, ⟨_, _, rfl, rfl, rfl⟩⟩⟩⟩) ?_
  refine VO.cons rfl (V1.int rfl rfl rfl rfl rfl (ltb rfl) ?_)
  refine VO.nil ?_
  refine V.cond rfl (fun hc1 => ?_) (fun hc1 => ?_)
  ·
   replace hm0 := cond_t hc1 hm0
   refine V.seq ?_
   refine V.region ?_
   refine VO.cons rfl (V1.move rfl rfl rfl (ltb rfl) ?_)
   refine VO.cons rfl (V1.assign rfl rfl rfl (ltb rfl) ?_)
   refine VO.nil ?_
   refine V.ret ?_
   obtain rfl := Option.some.inj hm0
   exact ⟨_, _, ⟨_, _, rfl, rfl, rfl⟩, (sub1 (k := 0) rfl), rfl, rfl⟩
  ·
   replace hm0 := cond_f hc1 hm0
   refine V.skip ?_
   refine V.keep 62 [0] [0] (E0 := [(0, .ref bp 3 0 0)]) (H0 := [(bp, ⟨3, [.agg [.vl ρ0 1 (List.map encU8 c.Code), .int .i64 (IntKind.i64.wrap (c.At + (1 : Int))), .int .u64 (IntKind.u64.wrap ((IntKind.u64.wrap ((IntKind.u64.wrap (c.Seed * (6364136223846793005 : Int))) + (IntKind.u64.wrap b_))) + (103535 : Int)))]]⟩)]) rfl (⟨_, _, rfl, rfl, rfl⟩) (⟨_, _, rfl, rfl, rfl⟩) rfl ?_
   refine V.seq ?_
   refine V.region ?_
   refine VO.cons rfl (V1.move rfl rfl rfl (ltb rfl) ?_)
   refine VO.cons rfl (V1.nilRef rfl rfl rfl (ltb rfl) ?_)
   refine VO.cons rfl (V1.fieldRef rfl rfl fo_80_2 rfl (ltb rfl) ?_)
   refine VO.cons rfl (V1.loadRef (k := 0) rfl rfl tyk_78 rfl rfl rfl rfl rfl (ltb rfl) ?_)
   refine VO.cons rfl (V1.shr rfl rfl rfl rfl (by decide) (ltb rfl) ?_)
   refine VO.cons rfl (V1.int rfl rfl rfl rfl rfl (ltb rfl) ?_)
   refine VO.cons rfl (V1.conv rfl rfl und_78 und_3 rfl (ltb rfl) ?_)
   refine VO.cons rfl (V1.assign rfl rfl rfl (ltb rfl) ?_)
   refine VO.nil ?_
   refine V.ret ?_
   obtain rfl := Option.some.inj hm0
   exact ⟨_, _, ⟨_, _, rfl, rfl, rfl⟩, (sub1 (k := 0) rfl), rfl, rfl⟩

theorem ok_spec_l1Cur_pick {ρ0 rn bp : Nat} {c : Cur} {n : Int} {r : Int × Cur} (h : M.spec_l1Cur_pick c n = some r) : Does Try.prog 84 [.ref bp 3 0 0, .int .i64 n] [(bp, ⟨3, [encCur ρ0 c]⟩)] rn (fun x H => x = .int .i64 r.1 ∧ H = [(bp, ⟨3, [encCur ρ0 r.2]⟩)]) := by
 have hm0 := h; clear h; unfold M.spec_l1Cur_pick at hm0
 try dsimp only at hm0
 refine Does.intro (N := 20) Try.func84 rfl rfl rfl rfl ?_
 intro w0 S0
 refine V.seq ?_
 refine V.region ?_
 refine VO.cons rfl (V1.assign rfl rfl rfl (ltb rfl) ?_)
 refine VO.nil ?_
 refine V.seq ?_
 refine V.seq ?_
 refine V.region ?_
 refine VO.cons rfl (V1.move rfl rfl rfl (ltb rfl) ?_)
 refine VO.cons rfl (V1.int rfl rfl rfl rfl rfl (ltb rfl) ?_)
 refine VO.nil ?_
 refine V.cond rfl (fun hc0 => ?_) (fun hc0 => ?_)
 ·
  replace hm0 := cond_t hc0 hm0
  refine V.seq ?_
  refine V.region ?_
  refine VO.cons rfl (V1.assign rfl rfl rfl (ltb rfl) ?_)
  refine VO.nil ?_
  refine V.ret ?_
  obtain rfl := Option.some.inj hm0
  exact ⟨_, _, ⟨_, _, rfl, rfl, rfl⟩, (sub1 (k := 0) rfl), rfl, rfl⟩
 ·
  replace hm0 := cond_f hc0 hm0
  refine V.skip ?_
  refine V.seq ?_
  replace hm0 := bindO hm0; rcases hm0 with ⟨y0, hh0, hm0⟩
  refine V.region ?_
  refine VO.cons rfl (V1.move rfl rfl rfl (ltb rfl) ?_)
  refine VO.cons rfl (V1.callM 0 (rn + ρ0 + 1) [] [.ref bp 3 0 0] (p := (bp, ⟨3, [encCur ρ0 c]⟩)) rfl rfl rfl cok_116 rfl rfl ⟨_, _, rfl, .same _, rfl⟩ bwNil (ok_spec_l1Cur_next hh0) rfl (.inl rfl) (ltb rfl) ?_)
  rintro _ _ ⟨rfl, rfl⟩
  refine VO.cons rfl (V1.assign rfl rfl rfl (ltb rfl) ?_)
  refine VO.nil ?_
  refine V.keep 20 [0, 1, 5] [0] (E0 := [(0, .ref bp 3 0 0), (1, .int .i64 n), (5, .int .i64 y0.1)]) (H0 := [(bp, ⟨3, [encCur ρ0 y0.2]⟩)]) rfl (⟨_, _, rfl, rfl, ⟨_, _, rfl, rfl, ⟨_, _, rfl, rfl, rfl⟩⟩⟩) (⟨_, _, rfl, rfl, rfl⟩) rfl ?_
  refine V.seq ?_
  replace hm0 := bindO hm0; rcases hm0 with ⟨j0, hm1, hm0⟩
  refine V.cutT (D := (Int × Cur) × (Unit)) (fun ⟨⟨x, c_⟩, _⟩ => ⟨20, [(5, .int .i64 x), (1, .int .i64 n)], [(bp, ⟨3, [encCur ρ0 c_]⟩)]⟩) (fun ⟨⟨x, c_⟩, _⟩ => ((x, c_) = j0)) ?_ ?_
  ·
   refine V.seq ?_
   refine V.region ?_
   refine VO.cons rfl (V1.move rfl rfl rfl (ltb rfl) ?_)
   refine VO.cons rfl (V1.int rfl rfl rfl rfl rfl (ltb rfl) ?_)
   refine VO.nil ?_
   refine V.cond rfl (fun hc1 => ?_) (fun hc1 => ?_)
   ·
    replace hm1 := cond_t hc1 hm1
    replace hm1 := bindO hm1; rcases hm1 with ⟨y1, hh1, hm1⟩
    refine V.region ?_
    refine VO.cons rfl (V1.move rfl rfl rfl (ltb rfl) ?_)
    refine VO.cons rfl (V1.int rfl rfl rfl rfl rfl (ltb rfl) ?_)
    refine VO.cons rfl (V1.move rfl rfl rfl (ltb rfl) ?_)
    refine VO.cons rfl (V1.callM 0 (rn + ρ0 + 1) [] [.ref bp 3 0 0] (p := (bp, ⟨3, [encCur ρ0 y0.2]⟩)) rfl rfl rfl cok_116 rfl rfl ⟨_, _, rfl, .same _, rfl⟩ bwNil (ok_spec_l1Cur_next hh1) rfl (.inl rfl) (ltb rfl) ?_)
    rintro _ _ ⟨rfl, rfl⟩
    refine VO.cons rfl (V1.int rfl rfl rfl rfl rfl (ltb rfl) ?_)
    refine VO.cons rfl (V1.assign rfl rfl rfl (ltb rfl) ?_)
    refine VO.nil ?_
    exact ⟨(((IntKind.i64.wrap ((IntKind.i64.wrap (y0.1 * (256 : Int))) + y1.1)), y1.2), ()), Option.some.inj hm1, Keeps.mk (ks := [0]) rfl ⟨rfl, rfl, trivial⟩ (⟨_, _, rfl, rfl, rfl⟩) rfl⟩
   ·
    replace hm1 := cond_f hc1 hm1
    refine V.skip ?_
    exact ⟨((y0.1, y0.2), ()), Option.some.inj hm1, Keeps.mk (ks := [0]) rfl ⟨rfl, rfl, trivial⟩ (⟨_, _, rfl, rfl, rfl⟩) rfl⟩
  ·
   rintro ⟨⟨x, c_⟩, _⟩ rfl
   try dsimp only at hm0
   refine V.seq ?_
   replace hm0 := asrt_some hm0; rcases hm0 with ⟨hh2, hm0⟩
   refine V.region ?_
   refine VO.cons rfl (V1.move rfl rfl rfl (ltb rfl) ?_)
   refine VO.cons rfl (V1.move rfl rfl rfl (ltb rfl) ?_)
   refine VO.cons rfl (V1.rem rfl rfl rfl rfl (hh2) (ltb rfl) ?_)
   refine VO.cons rfl (V1.assign rfl rfl rfl (ltb rfl) ?_)
   refine VO.nil ?_
   refine V.ret ?_
   obtain rfl := Option.some.inj hm0
   exact ⟨_, _, ⟨_, _, rfl, rfl, rfl⟩, (sub1 (k := 0) rfl), rfl, rfl⟩

theorem ok_spec_l1Cur_among {ρ0 ρ1 rn bp : Nat} {c : Cur} {list : List Int} {r : Int × Cur} (h : M.spec_l1Cur_among c list = some r) : Does Try.prog 50 [.ref bp 3 0 0, .vl ρ1 1 (List.map encInt list)] [(bp, ⟨3, [encCur ρ0 c]⟩)] rn (fun x H => x = .int .i64 r.1 ∧ H = [(bp, ⟨3, [encCur ρ0 r.2]⟩)]) := by
 have hm0 := h; clear h; unfold M.spec_l1Cur_among at hm0
 try dsimp only at hm0
 refine Does.intro (N := 12) Try.func50 rfl rfl rfl rfl ?_
 intro w0 S0
 refine V.seq ?_
 refine V.region ?_
 refine VO.cons rfl (V1.assign rfl rfl rfl (ltb rfl) ?_)
 refine VO.nil ?_
 refine V.seq ?_
 replace hm0 := bindO hm0; rcases hm0 with ⟨y0, hh0, hm0⟩
 replace hm0 := asrt_some hm0; rcases hm0 with ⟨hh1, hm0⟩
 refine V.region ?_
 refine VO.cons rfl (V1.move rfl rfl rfl (ltb rfl) ?_)
 refine VO.cons rfl (V1.move rfl rfl rfl (ltb rfl) ?_)
 refine VO.cons rfl (V1.move rfl rfl rfl (ltb rfl) ?_)
 refine VO.cons rfl (V1.lenMap rfl rfl rfl rfl rfl rfl isl_69 (ltb rfl) ?_)
 refine VO.cons rfl (V1.callM 0 (rn + ρ0 + 1) [] [.ref bp 3 0 0, .int .i64 (list.length : Int)] (p := (bp, ⟨3, [encCur ρ0 c]⟩)) rfl rfl rfl cok_84 rfl rfl ⟨_, _, rfl, .same _, ⟨_, _, rfl, .same _, rfl⟩⟩ bwNil (ok_spec_l1Cur_pick hh0) rfl (.inl rfl) (ltb rfl) ?_)
 rintro _ _ ⟨rfl, rfl⟩
 refine VO.cons rfl (V1.indexI rfl rfl esz_69 rfl rfl hh1 (ltb rfl) ?_)
 refine VO.cons rfl (V1.loadPin rfl rfl tyk_3 rfl rfl (ltb rfl) ?_)
 refine VO.cons rfl (V1.assign rfl rfl rfl (ltb rfl) ?_)
 refine VO.nil ?_
 refine V.ret ?_
 obtain rfl := Option.some.inj hm0
 exact ⟨_, _, ⟨_, _, rfl, rfl, rfl⟩, (sub1 (k := 0) rfl), rfl, rfl⟩

theorem ok_spec_l1Cur_one {ρ0 rn bp : Nat} {c : Cur} {n : Int} {r : Bool × Cur} (h : M.spec_l1Cur_one c n = some r) : Does Try.prog 83 [.ref bp 3 0 0, .int .i64 n] [(bp, ⟨3, [encCur ρ0 c]⟩)] rn (fun x H => x = .bool r.1 ∧ H = [(bp, ⟨3, [encCur ρ0 r.2]⟩)]) := by
 have hm0 := h; clear h; unfold M.spec_l1Cur_one at hm0
 try dsimp only at hm0
 refine Does.intro (N := 9) Try.func83 rfl rfl rfl rfl ?_
 intro w0 S0
 refine V.seq ?_
 refine V.region ?_
 refine VO.cons rfl (V1.assign rfl rfl rfl (ltb rfl) ?_)
 refine VO.nil ?_
 refine V.seq ?_
 replace hm0 := bindO hm0; rcases hm0 with ⟨y0, hh0, hm0⟩
 refine V.region ?_
 refine VO.cons rfl (V1.move rfl rfl rfl (ltb rfl) ?_)
 refine VO.cons rfl (V1.move rfl rfl rfl (ltb rfl) ?_)
 refine VO.cons rfl (V1.callM 0 (rn + ρ0 + 1) [] [.ref bp 3 0 0, .int .i64 n] (p := (bp, ⟨3, [encCur ρ0 c]⟩)) rfl rfl rfl cok_84 rfl rfl ⟨_, _, rfl, .same _, ⟨_, _, rfl, .same _, rfl⟩⟩ bwNil (ok_spec_l1Cur_pick hh0) rfl (.inl rfl) (ltb rfl) ?_)
 rintro _ _ ⟨rfl, rfl⟩
 refine VO.cons rfl (V1.int rfl rfl rfl rfl rfl (ltb rfl) ?_)
 refine VO.cons rfl (V1.assign rfl rfl rfl (ltb rfl) ?_)
 refine VO.nil ?_
 refine V.ret ?_
 obtain rfl := Option.some.inj hm0
 exact ⟨_, _, ⟨_, _, rfl, rfl, rfl⟩, (sub1 (k := 0) rfl), rfl, rfl⟩

theorem ok_spec_l1Cur_record {ρ0 rn bp : Nat} {c : Cur} {id_ : Int} {r : Record × Cur} (h : M.spec_l1Cur_record c id_ = some r) : Does Try.prog 67 [.ref bp 3 0 0, .int .i64 id_] [(bp, ⟨3, [encCur ρ0 c]⟩)] rn (fun x H => x = encRecord rn r.1 ∧ H = [(bp, ⟨3, [encCur ρ0 r.2]⟩)]) := by
 have hm0 := h; clear h; unfold M.spec_l1Cur_record at hm0
 try dsimp only at hm0
 refine Does.intro (N := 64) Try.func67 rfl rfl rfl rfl ?_
 intro w0 S0
 refine V.seq ?_
 refine V.region ?_
 refine VO.cons rfl (V1.alloc rfl rfl zk_44 (ltb rfl) ?_)
 intro b0
 refine VO.nil ?_
 refine V.seq ?_
 replace hm0 := bindO hm0; rcases hm0 with ⟨y0, hh0, hm0⟩
 replace hm0 := bindO hm0; rcases hm0 with ⟨y1, hh1, hm0⟩
 refine V.region ?_
 refine VO.cons rfl (V1.move rfl rfl rfl (ltb rfl) ?_)
 refine VO.cons rfl (V1.move rfl rfl rfl (ltb rfl) ?_)
 refine VO.cons rfl (V1.buildSliceT (f := encInt) ([(1 : Int), (2 : Int), (3 : Int), (3 : Int), (7 : Int), (99 : Int)] : List Int) rfl rfl esz_69 zk_3 rfl rfl rfl rfl rfl rfl rfl (ltb rfl) ?_)
 intro b1
 refine VO.cons rfl (V1.callM 2 (rn + ρ0 + 1) [b1] [.ref bp 3 0 0, .vl (rn + ρ0 + 1) 1 (List.map encInt ([(1 : Int), (2 : Int), (3 : Int), (3 : Int), (7 : Int), (99 : Int)] : List Int))] (p := (bp, ⟨3, [encCur ρ0 c]⟩)) rfl rfl rfl cok_50 rfl rfl ⟨_, _, rfl, .same _, ⟨_, _, rfl, Lend.srMap 0 rfl (fun _ => rfl) (.head _), rfl⟩⟩ (bwCons (k := 0) rfl bwNil) (ok_spec_l1Cur_among hh0) rfl (.inr ⟨(by first | omega | (dsimp only; omega)), by rintro _ _ ⟨rfl, rfl⟩; exact ⟨by simp [PV.no, PV.noL, optS_no, noL_iff, nbeq] <;> omega, by intro b ob h; first | exact optH_no (noL_map (fun _ => by simp [PV.no, PV.noL, noL_iff, nbeq]) _) b ob h | (simp at h; obtain ⟨rfl, rfl⟩ := h; exact noL_map (fun _ => by simp [PV.no, PV.noL, noL_iff, nbeq]) _) | (simp at h; obtain ⟨rfl, rfl⟩ := h; simp [PV.no, PV.noL, optS_no, noL_iff, nbeq] <;> omega)⟩⟩) (ltb rfl) ?_)
 rintro _ _ ⟨rfl, rfl⟩
 refine VO.cons rfl (V1.move rfl rfl rfl (ltb rfl) ?_)
 refine VO.cons rfl (V1.buildSliceT (f := encInt) ([(0 : Int), (100 : Int), (100 : Int), (500 : Int), (3000 : Int)] : List Int) rfl rfl esz_69 zk_3 rfl rfl rfl rfl rfl rfl rfl (ltb rfl) ?_)
 intro b2
 refine VO.cons rfl (V1.callM 1 (rn + ρ0 + 1) [b2] [.ref bp 3 0 0, .vl (rn + ρ0 + 1) 1 (List.map encInt ([(0 : Int), (100 : Int), (100 : Int), (500 : Int), (3000 : Int)] : List Int))] (p := (bp, ⟨3, [encCur ρ0 y0.2]⟩)) rfl rfl rfl cok_50 rfl rfl ⟨_, _, rfl, .same _, ⟨_, _, rfl, Lend.srMap 0 rfl (fun _ => rfl) (.head _), rfl⟩⟩ (bwCons (k := 0) rfl bwNil) (ok_spec_l1Cur_among hh1) rfl (.inr ⟨(by first | omega | (dsimp only; omega)), by rintro _ _ ⟨rfl, rfl⟩; exact ⟨by simp [PV.no, PV.noL, optS_no, noL_iff, nbeq] <;> omega, by intro b ob h; first | exact optH_no (noL_map (fun _ => by simp [PV.no, PV.noL, noL_iff, nbeq]) _) b ob h | (simp at h; obtain ⟨rfl, rfl⟩ := h; exact noL_map (fun _ => by simp [PV.no, PV.noL, noL_iff, nbeq]) _) | (simp at h; obtain ⟨rfl, rfl⟩ := h; simp [PV.no, PV.noL, optS_no, noL_iff, nbeq] <;> omega)⟩⟩) (ltb rfl) ?_)
 rintro _ _ ⟨rfl, rfl⟩
 refine VO.cons rfl (V1.buildSliceT (f := encEvent) ([] : List Event) rfl rfl esz_42 zk_46 rfl rfl rfl rfl rfl rfl rfl (ltb rfl) ?_)
 intro b3
 refine VO.cons rfl (V1.build rfl rfl zk_44 pl_44 rfl rfl (ltb rfl) ?_)
 refine VO.cons rfl (V1.alloc rfl rfl zk_44 (ltb rfl) ?_)
 intro b4
 refine VO.cons rfl (V1.storeRefAll (k := 0) rfl rfl tyk_44 rfl rfl rfl rfl rfl rfl ?_)
 refine VO.nil ?_
 refine V.keep 64 [0, 4, 5] [0, 1, 2, 5] (E0 := [(0, .ref bp 3 0 0), (4, .ref b0 4 0 0), (5, .ref b4 4 0 0)]) (H0 := [(b4, ⟨4, [.agg [.int .i64 id_, .int .i64 y0.1, .int .i64 y1.1, .sref b3 2 0 (List.length ([] : List Event))]]⟩), (b3, ⟨2, List.map encEvent ([] : List Event)⟩), (bp, ⟨3, [encCur ρ0 y1.2]⟩), (b0, ⟨4, [.agg [.int .i64 (0 : Int), .int .i64 (0 : Int), .int .i64 (0 : Int), .nils]]⟩)]) rfl (⟨_, _, rfl, rfl, ⟨_, _, rfl, rfl, ⟨_, _, rfl, rfl, rfl⟩⟩⟩) (⟨_, _, rfl, rfl, ⟨_, _, rfl, rfl, ⟨_, _, rfl, rfl, ⟨_, _, rfl, rfl, rfl⟩⟩⟩⟩) rfl ?_
 refine V.seq ?_
 refine V.seq ?_
 refine V.region ?_
 refine VO.cons rfl (V1.assign rfl rfl rfl (ltb rfl) ?_)
 refine VO.nil ?_
 replace hm0 := bindO hm0; rcases hm0 with ⟨e0, he1, hm0⟩
 refine V.cutT (D := (List Event × Cur) × (Nat)) (fun ⟨⟨r_Events, c_⟩, b5⟩ => ⟨64, [(0, .ref bp 3 0 0), (4, .ref b0 4 0 0), (5, .ref b4 4 0 0)], [(b5, ⟨2, List.map encEvent r_Events⟩), (bp, ⟨3, [encCur ρ0 c_]⟩), (b4, ⟨4, [.agg [.int .i64 id_, .int .i64 y0.1, .int .i64 y1.1, .sref b5 2 0 (List.length r_Events)]]⟩), (b0, ⟨4, [.agg [.int .i64 (0 : Int), .int .i64 (0 : Int), .int .i64 (0 : Int), .nils]]⟩)]⟩) (fun ⟨⟨r_Events, c_⟩, b5⟩ => ((r_Events, c_) = e0)) ?_ ?_
 ·
  refine V.block ?_
  refine V.keep 64 [6, 0, 4, 5] [1, 2, 0, 3] (E0 := [(6, .int .i64 (1 : Int)), (0, .ref bp 3 0 0), (4, .ref b0 4 0 0), (5, .ref b4 4 0 0)]) (H0 := [(b3, ⟨2, List.map encEvent ([] : List Event)⟩), (bp, ⟨3, [encCur ρ0 y1.2]⟩), (b4, ⟨4, [.agg [.int .i64 id_, .int .i64 y0.1, .int .i64 y1.1, .sref b3 2 0 (List.length ([] : List Event))]]⟩), (b0, ⟨4, [.agg [.int .i64 (0 : Int), .int .i64 (0 : Int), .int .i64 (0 : Int), .nils]]⟩)]) rfl (⟨_, _, rfl, rfl, ⟨_, _, rfl, rfl, ⟨_, _, rfl, rfl, ⟨_, _, rfl, rfl, rfl⟩⟩⟩⟩) (⟨_, _, rfl, rfl, ⟨_, _, rfl, rfl, ⟨_, _, rfl, rfl, ⟨_, _, rfl, rfl, rfl⟩⟩⟩⟩) rfl ?_
  refine V.loopE (D := Nat × (Int × List Event × Cur) × (Nat)) (fun ⟨n0, ⟨k, r_Events0, c_0⟩, b6⟩ => [(6, .int .i64 k)]) (fun ⟨n0, ⟨k, r_Events0, c_0⟩, b6⟩ => [(b6, ⟨2, List.map encEvent r_Events0⟩), (bp, ⟨3, [encCur ρ0 c_0]⟩), (b4, ⟨4, [.agg [.int .i64 id_, .int .i64 y0.1, .int .i64 y1.1, .sref b6 2 0 (List.length r_Events0)]]⟩)]) (fun ⟨n0, ⟨k, r_Events0, c_0⟩, b6⟩ => loopO (M.spec_l1Cur_record_l0 y1) n0 (k, r_Events0, c_0) = some e0) (fun ⟨n0, _, _⟩ => n0) (rounds, ((1 : Int), ([] : List Event), y1.2), b3) rfl he1 ?_
  rintro ⟨n0, ⟨k, r_Events0, c_0⟩, b6⟩ hP0
  obtain ⟨m0, y2, rfl, hm1, hl1, hr1⟩ := loop_head hP0
  unfold M.spec_l1Cur_record_l0 at hm1; dsimp only at hm1
  show V _ _ _ ⟨64, [(6, .int .i64 k), (0, .ref bp 3 0 0), (4, .ref b0 4 0 0), (5, .ref b4 4 0 0)], [(b6, ⟨2, List.map encEvent r_Events0⟩), (bp, ⟨3, [encCur ρ0 c_0]⟩), (b4, ⟨4, [.agg [.int .i64 id_, .int .i64 y0.1, .int .i64 y1.1, .sref b6 2 0 (List.length r_Events0)]]⟩), (b0, ⟨4, [.agg [.int .i64 (0 : Int), .int .i64 (0 : Int), .int .i64 (0 : Int), .nils]]⟩)]⟩
  refine V.seq ?_
  refine V.seq ?_
  refine V.region ?_
  refine VO.cons rfl (V1.move rfl rfl rfl (ltb rfl) ?_)
  refine VO.cons rfl (V1.int rfl rfl rfl rfl rfl (ltb rfl) ?_)
  refine VO.nil ?_
  refine V.cond rfl (fun hc0 => ?_) (fun hc0 => ?_)
  ·
   replace hm1 := cond_t hc0 hm1
   refine V.skip ?_
   refine V.seq ?_
   replace hm1 := bindO hm1; rcases hm1 with ⟨j0, hm2, hm1⟩
   refine V.cutT (D := (List Event × Cur) × (Nat)) (fun ⟨⟨r_Events1, c_1⟩, b7⟩ => ⟨64, [(0, .ref bp 3 0 0), (4, .ref b0 4 0 0), (5, .ref b4 4 0 0), (6, .int .i64 k)], [(b7, ⟨2, List.map encEvent r_Events1⟩), (bp, ⟨3, [encCur ρ0 c_1]⟩), (b4, ⟨4, [.agg [.int .i64 id_, .int .i64 y0.1, .int .i64 y1.1, .sref b7 2 0 (List.length r_Events1)]]⟩), (b0, ⟨4, [.agg [.int .i64 (0 : Int), .int .i64 (0 : Int), .int .i64 (0 : Int), .nils]]⟩)]⟩) (fun ⟨⟨r_Events1, c_1⟩, b7⟩ => ((r_Events1, c_1) = j0)) ?_ ?_
   ·
    refine V.block ?_
    refine V.seq ?_
    replace hm2 := bindO hm2; rcases hm2 with ⟨y3, hh2, hm2⟩
    refine V.region ?_
    refine VO.cons rfl (V1.move rfl rfl rfl (ltb rfl) ?_)
    refine VO.cons rfl (V1.callM 1 (rn + ρ0 + 1) [] [.ref bp 3 0 0, .int .i64 (3 : Int)] (p := (bp, ⟨3, [encCur ρ0 c_0]⟩)) rfl rfl rfl cok_83 rfl rfl ⟨_, _, rfl, .same _, ⟨_, _, rfl, .same _, rfl⟩⟩ bwNil (ok_spec_l1Cur_one hh2) rfl (.inl rfl) (ltb rfl) ?_)
    rintro _ _ ⟨rfl, rfl⟩
    refine VO.nil ?_
    refine V.cond rfl (fun hc1 => ?_) (fun hc1 => ?_)
    ·
     replace hm2 := cond_t hc1 hm2
     replace hm2 := bindO hm2; rcases hm2 with ⟨y4, hh3, hm2⟩
     replace hm2 := asrt_some hm2; rcases hm2 with ⟨hh4, hm2⟩
     replace hm2 := bindO hm2; rcases hm2 with ⟨j1, hm3, hm2⟩
     refine V.cutT (D := (List Event × Cur) × (Nat)) (fun ⟨⟨r_Events2, c_2⟩, b11⟩ => ⟨64, [(0, .ref bp 3 0 0), (4, .ref b0 4 0 0), (5, .ref b4 4 0 0), (6, .int .i64 k)], [(b11, ⟨2, List.map encEvent r_Events2⟩), (bp, ⟨3, [encCur ρ0 c_2]⟩), (b4, ⟨4, [.agg [.int .i64 id_, .int .i64 y0.1, .int .i64 y1.1, .sref b11 2 0 (List.length r_Events2)]]⟩), (b0, ⟨4, [.agg [.int .i64 (0 : Int), .int .i64 (0 : Int), .int .i64 (0 : Int), .nils]]⟩)]⟩) (fun ⟨⟨r_Events2, c_2⟩, b11⟩ => ((r_Events2, c_2) = j1)) ?_ ?_
     ·
      refine V.regionS [] 64 11 [⟨[(5, none)], false⟩, ⟨[(22, some 0)], true⟩, ⟨[(6, none)], false⟩, ⟨[(5, none)], false⟩, ⟨[(25, some 3)], true⟩, ⟨[(0, none)], false⟩, ⟨[], true⟩, ⟨[(27, some 5), (28, some 6)], true⟩, ⟨[(26, some 4), (29, some 7)], false⟩, ⟨[(24, some 2), (30, some 8)], false⟩, ⟨[(31, some 9)], true⟩] [(0, none), (4, none), (5, none), (6, none), (23, some 1), (32, some 10)] 5 (⟨_, rfl, ⟨_, rfl, ⟨_, rfl, ⟨_, rfl, ⟨_, rfl, ⟨_, rfl, ⟨_, rfl, ⟨_, rfl, ⟨_, rfl, ⟨_, rfl, ⟨_, rfl, ⟨rfl, rfl⟩⟩⟩⟩⟩⟩⟩⟩⟩⟩⟩⟩) mixed_orders rfl (by decide +kernel) ?_
      refine WalkP.step (p := ?pv1461) 0 rfl rfl rfl rfl rfl (⟨_, _, rfl, rfl, rfl⟩) ?hv1461 ?rest1461
      case hv1461 =>
       intro E1 H1 hI1
       refine (V1.fieldRef rfl rfl fo_44_3 rfl (ltb rfl) ?_)
       exact rfl
      refine WalkP.step (p := ?pv1462) 2 rfl rfl rfl rfl rfl (⟨_, _, rfl, rfl, rfl⟩) ?hv1462 ?rest1462
      case hv1462 =>
       intro E1 H1 hI1
       refine (V1.move rfl rfl rfl (ltb rfl) ?_)
       exact rfl
      refine WalkP.step (p := ?pv1463) 3 rfl rfl rfl rfl rfl (⟨_, _, rfl, rfl, rfl⟩) ?hv1463 ?rest1463
      case hv1463 =>
       intro E1 H1 hI1
       refine (V1.fieldRef rfl rfl fo_44_2 rfl (ltb rfl) ?_)
       exact rfl
      refine WalkP.step (p := ?pv1464) 5 rfl rfl rfl rfl rfl (⟨_, _, rfl, rfl, rfl⟩) ?hv1464 ?rest1464
      case hv1464 =>
       intro E1 H1 hI1
       refine (V1.move rfl rfl rfl (ltb rfl) ?_)
       exact rfl
      refine WalkP.nil ?_
      refine NodeS.branch [1, 4, 6] inNil rfl rfl rfl ⟨?_, ?_, ?_, trivial⟩
      ·
       refine ⟨_, _, _, _, rfl, rfl, rfl, (⟨_, _, rfl, rfl, rfl⟩), fun E1 => ?_⟩
       refine (V1.loadRef (k := 2) rfl rfl tyk_42 rfl rfl rfl rfl rfl (ltb rfl) ?_)
       refine ⟨_, _, rfl, ?_⟩
       refine WalkP.nil ?_
       refine NodeS.branch [4, 6] inNil rfl rfl rfl ⟨?_, ?_, trivial⟩
       ·
        refine ⟨_, _, _, _, rfl, rfl, rfl, (⟨_, _, rfl, rfl, rfl⟩), fun E1 => ?_⟩
        refine (V1.loadRef (k := 2) rfl rfl tyk_3 rfl rfl rfl rfl rfl (ltb rfl) ?_)
        refine ⟨_, _, rfl, ?_⟩
        refine WalkP.nil ?_
        refine NodeS.branch [6] inNil rfl rfl rfl ⟨?_, trivial⟩
        ·
         refine ⟨_, _, _, _, rfl, rfl, rfl, (rfl), fun E1 => ?_⟩
         refine (V1.buildSliceT (f := encInt) ([(0 : Int), (1 : Int), (30 : Int), (365 : Int), (1000 : Int)] : List Int) rfl rfl esz_69 zk_3 rfl rfl rfl rfl rfl rfl rfl (ltb rfl) ?_)
         intro b12
         refine ⟨_, _, rfl, ?_⟩
         refine WalkP.nil ?_
         refine NodeS.branch [7] inNil rfl rfl rfl ⟨?_, trivial⟩
         ·
          refine ⟨_, _, _, _, rfl, rfl, rfl, (⟨_, _, rfl, rfl, ⟨_, _, rfl, rfl, rfl⟩⟩), fun E1 => ?_⟩
          refine (V1.callM 1 (rn + ρ0 + 1) [b12] [.ref bp 3 0 0, .vl (rn + ρ0 + 1) 1 (List.map encInt ([(0 : Int), (1 : Int), (30 : Int), (365 : Int), (1000 : Int)] : List Int))] (p := (bp, ⟨3, [encCur ρ0 y3.2]⟩)) rfl rfl rfl cok_50 rfl rfl ⟨_, _, rfl, .same _, ⟨_, _, rfl, Lend.srMap 0 rfl (fun _ => rfl) (.head _), rfl⟩⟩ (bwCons (k := 0) rfl bwNil) (ok_spec_l1Cur_among hh3) rfl (.inr ⟨(by first | omega | (dsimp only; omega)), by rintro _ _ ⟨rfl, rfl⟩; exact ⟨by simp [PV.no, PV.noL, optS_no, noL_iff, nbeq] <;> omega, by intro b ob h; first | exact optH_no (noL_map (fun _ => by simp [PV.no, PV.noL, noL_iff, nbeq]) _) b ob h | (simp at h; obtain ⟨rfl, rfl⟩ := h; exact noL_map (fun _ => by simp [PV.no, PV.noL, noL_iff, nbeq]) _) | (simp at h; obtain ⟨rfl, rfl⟩ := h; simp [PV.no, PV.noL, optS_no, noL_iff, nbeq] <;> omega)⟩⟩) (ltb rfl) ?_)
          rintro _ _ ⟨rfl, rfl⟩
          refine ⟨_, _, rfl, ?_⟩
          refine WalkP.step (p := ?pv1465) 8 rfl rfl rfl rfl rfl (⟨_, _, rfl, rfl, ⟨_, _, rfl, rfl, rfl⟩⟩) ?hv1465 ?rest1465
          case hv1465 =>
           intro E1 H1 hI1
           refine (V1.int rfl rfl rfl rfl rfl (ltb rfl) ?_)
           exact rfl
          refine WalkP.step (p := ?pv1466) 9 rfl rfl rfl rfl rfl (⟨_, _, rfl, rfl, ⟨_, _, rfl, rfl, rfl⟩⟩) ?hv1466 ?rest1466
          case hv1466 =>
           intro E1 H1 hI1
           refine (V1.build rfl rfl zk_46 pl_46 rfl rfl (ltb rfl) ?_)
           exact rfl
          refine WalkP.nil ?_
          refine NodeS.branch [10] inNil rfl rfl rfl ⟨?_, trivial⟩
          ·
           refine ⟨_, _, _, _, rfl, rfl, rfl, (⟨_, _, rfl, rfl, rfl⟩), fun E1 => ?_⟩
           refine (V1.buildSliceT (f := encEvent) ([(⟨k, (IntKind.i64.wrap (y1.1 + y4.1))⟩ : Event)] : List Event) rfl rfl esz_42 zk_46 rfl rfl rfl rfl rfl rfl rfl (ltb rfl) ?_)
           intro b13
           refine ⟨_, _, rfl, ?_⟩
           refine WalkP.nil ?_
           refine NodeS.fin inNil rfl rfl rfl (⟨_, _, rfl, rfl, ⟨_, _, rfl, rfl, ⟨_, _, rfl, rfl, ⟨_, _, rfl, rfl, ⟨_, _, rfl, rfl, ⟨_, _, rfl, rfl, rfl⟩⟩⟩⟩⟩⟩) ?_
           refine VO.cons rfl (V1.appendMap (k := 3) (f := encEvent) (l := r_Events0) (m := ([(⟨k, (IntKind.i64.wrap (y1.1 + y4.1))⟩ : Event)] : List Event)) rfl rfl rfl rfl rfl esz_42 eby_42 zk_46 rfl rfl rfl (SrcOf.srMap (k := 0) rfl isl_42) hh4 (ltb rfl) ?_)
           intro b14
           refine VO.cons rfl (V1.fieldRef rfl rfl fo_44_3 rfl (ltb rfl) ?_)
           refine VO.cons rfl (V1.storeRef (k := 4) rfl rfl tyk_42 rfl rfl rfl rfl rfl rfl rfl rfl rfl ?_)
           refine VO.nil ?_
           exact ⟨(((r_Events0 ++ ([(⟨k, (IntKind.i64.wrap (y1.1 + y4.1))⟩ : Event)] : List Event)), y4.2), b14), Option.some.inj hm3, Keeps.mk (ks := [0, 2, 4, 5]) rfl ⟨rfl, rfl, rfl, rfl, trivial⟩ (⟨_, _, rfl, rfl, ⟨_, _, rfl, rfl, ⟨_, _, rfl, rfl, ⟨_, _, rfl, rfl, rfl⟩⟩⟩⟩) rfl⟩
       ·
        refine ⟨_, _, _, _, rfl, rfl, rfl, (rfl), fun E1 => ?_⟩
        refine (V1.buildSliceT (f := encInt) ([(0 : Int), (1 : Int), (30 : Int), (365 : Int), (1000 : Int)] : List Int) rfl rfl esz_69 zk_3 rfl rfl rfl rfl rfl rfl rfl (ltb rfl) ?_)
        intro b15
        refine ⟨_, _, rfl, ?_⟩
        refine WalkP.nil ?_
        refine NodeS.branch [4, 7] inNil rfl rfl rfl ⟨?_, ?_, trivial⟩
        ·
         refine ⟨_, _, _, _, rfl, rfl, rfl, (⟨_, _, rfl, rfl, rfl⟩), fun E1 => ?_⟩
         refine (V1.loadRef (k := 3) rfl rfl tyk_3 rfl rfl rfl rfl rfl (ltb rfl) ?_)
         refine ⟨_, _, rfl, ?_⟩
         refine WalkP.nil ?_
         refine NodeS.branch [7] inNil rfl rfl rfl ⟨?_, trivial⟩
         ·
          refine ⟨_, _, _, _, rfl, rfl, rfl, (⟨_, _, rfl, rfl, ⟨_, _, rfl, rfl, rfl⟩⟩), fun E1 => ?_⟩
          refine (V1.callM 1 (rn + ρ0 + 1) [b15] [.ref bp 3 0 0, .vl (rn + ρ0 + 1) 1 (List.map encInt ([(0 : Int), (1 : Int), (30 : Int), (365 : Int), (1000 : Int)] : List Int))] (p := (bp, ⟨3, [encCur ρ0 y3.2]⟩)) rfl rfl rfl cok_50 rfl rfl ⟨_, _, rfl, .same _, ⟨_, _, rfl, Lend.srMap 0 rfl (fun _ => rfl) (.head _), rfl⟩⟩ (bwCons (k := 0) rfl bwNil) (ok_spec_l1Cur_among hh3) rfl (.inr ⟨(by first | omega | (dsimp only; omega)), by rintro _ _ ⟨rfl, rfl⟩; exact ⟨by simp [PV.no, PV.noL, optS_no, noL_iff, nbeq] <;> omega, by intro b ob h; first | exact optH_no (noL_map (fun _ => by simp [PV.no, PV.noL, noL_iff, nbeq]) _) b ob h | (simp at h; obtain ⟨rfl, rfl⟩ := h; exact noL_map (fun _ => by simp [PV.no, PV.noL, noL_iff, nbeq]) _) | (simp at h; obtain ⟨rfl, rfl⟩ := h; simp [PV.no, PV.noL, optS_no, noL_iff, nbeq] <;> omega)⟩⟩) (ltb rfl) ?_)
          rintro _ _ ⟨rfl, rfl⟩
          refine ⟨_, _, rfl, ?_⟩
          refine WalkP.step (p := ?pv1467) 8 rfl rfl rfl rfl rfl (⟨_, _, rfl, rfl, ⟨_, _, rfl, rfl, rfl⟩⟩) ?hv1467 ?rest1467
          case hv1467 =>
           intro E1 H1 hI1
           refine (V1.int rfl rfl rfl rfl rfl (ltb rfl) ?_)
           exact rfl
          refine WalkP.step (p := ?pv1468) 9 rfl rfl rfl rfl rfl (⟨_, _, rfl, rfl, ⟨_, _, rfl, rfl, rfl⟩⟩) ?hv1468 ?rest1468
          case hv1468 =>
           intro E1 H1 hI1
           refine (V1.build rfl rfl zk_46 pl_46 rfl rfl (ltb rfl) ?_)
           exact rfl
          refine WalkP.nil ?_
          refine NodeS.branch [10] inNil rfl rfl rfl ⟨?_, trivial⟩
          ·
           refine ⟨_, _, _, _, rfl, rfl, rfl, (⟨_, _, rfl, rfl, rfl⟩), fun E1 => ?_⟩
           refine (V1.buildSliceT (f := encEvent) ([(⟨k, (IntKind.i64.wrap (y1.1 + y4.1))⟩ : Event)] : List Event) rfl rfl esz_42 zk_46 rfl rfl rfl rfl rfl rfl rfl (ltb rfl) ?_)
           intro b16
           refine ⟨_, _, rfl, ?_⟩
           refine WalkP.nil ?_
           refine NodeS.fin inNil rfl rfl rfl (⟨_, _, rfl, rfl, ⟨_, _, rfl, rfl, ⟨_, _, rfl, rfl, ⟨_, _, rfl, rfl, ⟨_, _, rfl, rfl, ⟨_, _, rfl, rfl, rfl⟩⟩⟩⟩⟩⟩) ?_
           refine VO.cons rfl (V1.appendMap (k := 3) (f := encEvent) (l := r_Events0) (m := ([(⟨k, (IntKind.i64.wrap (y1.1 + y4.1))⟩ : Event)] : List Event)) rfl rfl rfl rfl rfl esz_42 eby_42 zk_46 rfl rfl rfl (SrcOf.srMap (k := 0) rfl isl_42) hh4 (ltb rfl) ?_)
           intro b17
           refine VO.cons rfl (V1.fieldRef rfl rfl fo_44_3 rfl (ltb rfl) ?_)
           refine VO.cons rfl (V1.storeRef (k := 4) rfl rfl tyk_42 rfl rfl rfl rfl rfl rfl rfl rfl rfl ?_)
           refine VO.nil ?_
           exact ⟨(((r_Events0 ++ ([(⟨k, (IntKind.i64.wrap (y1.1 + y4.1))⟩ : Event)] : List Event)), y4.2), b17), Option.some.inj hm3, Keeps.mk (ks := [0, 2, 4, 5]) rfl ⟨rfl, rfl, rfl, rfl, trivial⟩ (⟨_, _, rfl, rfl, ⟨_, _, rfl, rfl, ⟨_, _, rfl, rfl, ⟨_, _, rfl, rfl, rfl⟩⟩⟩⟩) rfl⟩
        ·
         refine ⟨_, _, _, _, rfl, rfl, rfl, (⟨_, _, rfl, rfl, ⟨_, _, rfl, rfl, rfl⟩⟩), fun E1 => ?_⟩
         refine (V1.callM 1 (rn + ρ0 + 1) [b15] [.ref bp 3 0 0, .vl (rn + ρ0 + 1) 1 (List.map encInt ([(0 : Int), (1 : Int), (30 : Int), (365 : Int), (1000 : Int)] : List Int))] (p := (bp, ⟨3, [encCur ρ0 y3.2]⟩)) rfl rfl rfl cok_50 rfl rfl ⟨_, _, rfl, .same _, ⟨_, _, rfl, Lend.srMap 0 rfl (fun _ => rfl) (.head _), rfl⟩⟩ (bwCons (k := 0) rfl bwNil) (ok_spec_l1Cur_among hh3) rfl (.inr ⟨(by first | omega | (dsimp only; omega)), by rintro _ _ ⟨rfl, rfl⟩; exact ⟨by simp [PV.no, PV.noL, optS_no, noL_iff, nbeq] <;> omega, by intro b ob h; first | exact optH_no (noL_map (fun _ => by simp [PV.no, PV.noL, noL_iff, nbeq]) _) b ob h | (simp at h; obtain ⟨rfl, rfl⟩ := h; exact noL_map (fun _ => by simp [PV.no, PV.noL, noL_iff, nbeq]) _) | (simp at h; obtain ⟨rfl, rfl⟩ := h; simp [PV.no, PV.noL, optS_no, noL_iff, nbeq] <;> omega)⟩⟩) (ltb rfl) ?_)
         rintro _ _ ⟨rfl, rfl⟩
         refine ⟨_, _, rfl, ?_⟩
         refine WalkP.nil ?_
         refine NodeS.branch [4] inNil rfl rfl rfl ⟨?_, trivial⟩
         ·
          refine ⟨_, _, _, _, rfl, rfl, rfl, (⟨_, _, rfl, rfl, rfl⟩), fun E1 => ?_⟩
          refine (V1.loadRef (k := 3) rfl rfl tyk_3 rfl rfl rfl rfl rfl (ltb rfl) ?_)
          refine ⟨_, _, rfl, ?_⟩
          refine WalkP.step (p := ?pv1469) 8 rfl rfl rfl rfl rfl (⟨_, _, rfl, rfl, ⟨_, _, rfl, rfl, rfl⟩⟩) ?hv1469 ?rest1469
          case hv1469 =>
           intro E1 H1 hI1
           refine (V1.int rfl rfl rfl rfl rfl (ltb rfl) ?_)
           exact rfl
          refine WalkP.step (p := ?pv1470) 9 rfl rfl rfl rfl rfl (⟨_, _, rfl, rfl, ⟨_, _, rfl, rfl, rfl⟩⟩) ?hv1470 ?rest1470
          case hv1470 =>
           intro E1 H1 hI1
           refine (V1.build rfl rfl zk_46 pl_46 rfl rfl (ltb rfl) ?_)
           exact rfl
          refine WalkP.nil ?_
          refine NodeS.branch [10] inNil rfl rfl rfl ⟨?_, trivial⟩
          ·
           refine ⟨_, _, _, _, rfl, rfl, rfl, (⟨_, _, rfl, rfl, rfl⟩), fun E1 => ?_⟩
           refine (V1.buildSliceT (f := encEvent) ([(⟨k, (IntKind.i64.wrap (y1.1 + y4.1))⟩ : Event)] : List Event) rfl rfl esz_42 zk_46 rfl rfl rfl rfl rfl rfl rfl (ltb rfl) ?_)
           intro b18
           refine ⟨_, _, rfl, ?_⟩
           refine WalkP.nil ?_
           refine NodeS.fin inNil rfl rfl rfl (⟨_, _, rfl, rfl, ⟨_, _, rfl, rfl, ⟨_, _, rfl, rfl, ⟨_, _, rfl, rfl, ⟨_, _, rfl, rfl, ⟨_, _, rfl, rfl, rfl⟩⟩⟩⟩⟩⟩) ?_
           refine VO.cons rfl (V1.appendMap (k := 3) (f := encEvent) (l := r_Events0) (m := ([(⟨k, (IntKind.i64.wrap (y1.1 + y4.1))⟩ : Event)] : List Event)) rfl rfl rfl rfl rfl esz_42 eby_42 zk_46 rfl rfl rfl (SrcOf.srMap (k := 0) rfl isl_42) hh4 (ltb rfl) ?_)
           intro b19
           refine VO.cons rfl (V1.fieldRef rfl rfl fo_44_3 rfl (ltb rfl) ?_)
           refine VO.cons rfl (V1.storeRef (k := 4) rfl rfl tyk_42 rfl rfl rfl rfl rfl rfl rfl rfl rfl ?_)
           refine VO.nil ?_
           exact ⟨(((r_Events0 ++ ([(⟨k, (IntKind.i64.wrap (y1.1 + y4.1))⟩ : Event)] : List Event)), y4.2), b19), Option.some.inj hm3, Keeps.mk (ks := [0, 2, 4, 5]) rfl ⟨rfl, rfl, rfl, rfl, trivial⟩ (⟨_, _, rfl, rfl, ⟨_, _, rfl, rfl, ⟨_, _, rfl, rfl, ⟨_, _, rfl, rfl, rfl⟩⟩⟩⟩) rfl⟩
      ·
       refine ⟨_, _, _, _, rfl, rfl, rfl, (⟨_, _, rfl, rfl, rfl⟩), fun E1 => ?_⟩
       refine (V1.loadRef (k := 2) rfl rfl tyk_3 rfl rfl rfl rfl rfl (ltb rfl) ?_)
       refine ⟨_, _, rfl, ?_⟩
       refine WalkP.nil ?_
       refine NodeS.branch [1, 6] inNil rfl rfl rfl ⟨?_, ?_, trivial⟩
       ·
        refine ⟨_, _, _, _, rfl, rfl, rfl, (⟨_, _, rfl, rfl, rfl⟩), fun E1 => ?_⟩
        refine (V1.loadRef (k := 2) rfl rfl tyk_42 rfl rfl rfl rfl rfl (ltb rfl) ?_)
        refine ⟨_, _, rfl, ?_⟩
        refine WalkP.nil ?_
        refine NodeS.branch [6] inNil rfl rfl rfl ⟨?_, trivial⟩
        ·
         refine ⟨_, _, _, _, rfl, rfl, rfl, (rfl), fun E1 => ?_⟩
         refine (V1.buildSliceT (f := encInt) ([(0 : Int), (1 : Int), (30 : Int), (365 : Int), (1000 : Int)] : List Int) rfl rfl esz_69 zk_3 rfl rfl rfl rfl rfl rfl rfl (ltb rfl) ?_)
         intro b20
         refine ⟨_, _, rfl, ?_⟩
         refine WalkP.nil ?_
         refine NodeS.branch [7] inNil rfl rfl rfl ⟨?_, trivial⟩
         ·
          refine ⟨_, _, _, _, rfl, rfl, rfl, (⟨_, _, rfl, rfl, ⟨_, _, rfl, rfl, rfl⟩⟩), fun E1 => ?_⟩
          refine (V1.callM 1 (rn + ρ0 + 1) [b20] [.ref bp 3 0 0, .vl (rn + ρ0 + 1) 1 (List.map encInt ([(0 : Int), (1 : Int), (30 : Int), (365 : Int), (1000 : Int)] : List Int))] (p := (bp, ⟨3, [encCur ρ0 y3.2]⟩)) rfl rfl rfl cok_50 rfl rfl ⟨_, _, rfl, .same _, ⟨_, _, rfl, Lend.srMap 0 rfl (fun _ => rfl) (.head _), rfl⟩⟩ (bwCons (k := 0) rfl bwNil) (ok_spec_l1Cur_among hh3) rfl (.inr ⟨(by first | omega | (dsimp only; omega)), by rintro _ _ ⟨rfl, rfl⟩; exact ⟨by simp [PV.no, PV.noL, optS_no, noL_iff, nbeq] <;> omega, by intro b ob h; first | exact optH_no (noL_map (fun _ => by simp [PV.no, PV.noL, noL_iff, nbeq]) _) b ob h | (simp at h; obtain ⟨rfl, rfl⟩ := h; exact noL_map (fun _ => by simp [PV.no, PV.noL, noL_iff, nbeq]) _) | (simp at h; obtain ⟨rfl, rfl⟩ := h; simp [PV.no, PV.noL, optS_no, noL_iff, nbeq] <;> omega)⟩⟩) (ltb rfl) ?_)
          rintro _ _ ⟨rfl, rfl⟩
          refine ⟨_, _, rfl, ?_⟩
          refine WalkP.step (p := ?pv1471) 8 rfl rfl rfl rfl rfl (⟨_, _, rfl, rfl, ⟨_, _, rfl, rfl, rfl⟩⟩) ?hv1471 ?rest1471
          case hv1471 =>
           intro E1 H1 hI1
           refine (V1.int rfl rfl rfl rfl rfl (ltb rfl) ?_)
           exact rfl
          refine WalkP.step (p := ?pv1472) 9 rfl rfl rfl rfl rfl (⟨_, _, rfl, rfl, ⟨_, _, rfl, rfl, rfl⟩⟩) ?hv1472 ?rest1472
          case hv1472 =>
           intro E1 H1 hI1
           refine (V1.build rfl rfl zk_46 pl_46 rfl rfl (ltb rfl) ?_)
           exact rfl
          refine WalkP.nil ?_
          refine NodeS.branch [10] inNil rfl rfl rfl ⟨?_, trivial⟩
          ·
           refine ⟨_, _, _, _, rfl, rfl, rfl, (⟨_, _, rfl, rfl, rfl⟩), fun E1 => ?_⟩
           refine (V1.buildSliceT (f := encEvent) ([(⟨k, (IntKind.i64.wrap (y1.1 + y4.1))⟩ : Event)] : List Event) rfl rfl esz_42 zk_46 rfl rfl rfl rfl rfl rfl rfl (ltb rfl) ?_)
           intro b21
           refine ⟨_, _, rfl, ?_⟩
           refine WalkP.nil ?_
           refine NodeS.fin inNil rfl rfl rfl (⟨_, _, rfl, rfl, ⟨_, _, rfl, rfl, ⟨_, _, rfl, rfl, ⟨_, _, rfl, rfl, ⟨_, _, rfl, rfl, ⟨_, _, rfl, rfl, rfl⟩⟩⟩⟩⟩⟩) ?_
           refine VO.cons rfl (V1.appendMap (k := 3) (f := encEvent) (l := r_Events0) (m := ([(⟨k, (IntKind.i64.wrap (y1.1 + y4.1))⟩ : Event)] : List Event)) rfl rfl rfl rfl rfl esz_42 eby_42 zk_46 rfl rfl rfl (SrcOf.srMap (k := 0) rfl isl_42) hh4 (ltb rfl) ?_)
           intro b22
           refine VO.cons rfl (V1.fieldRef rfl rfl fo_44_3 rfl (ltb rfl) ?_)
           refine VO.cons rfl (V1.storeRef (k := 4) rfl rfl tyk_42 rfl rfl rfl rfl rfl rfl rfl rfl rfl ?_)
           refine VO.nil ?_
           exact ⟨(((r_Events0 ++ ([(⟨k, (IntKind.i64.wrap (y1.1 + y4.1))⟩ : Event)] : List Event)), y4.2), b22), Option.some.inj hm3, Keeps.mk (ks := [0, 2, 4, 5]) rfl ⟨rfl, rfl, rfl, rfl, trivial⟩ (⟨_, _, rfl, rfl, ⟨_, _, rfl, rfl, ⟨_, _, rfl, rfl, ⟨_, _, rfl, rfl, rfl⟩⟩⟩⟩) rfl⟩
       ·
        refine ⟨_, _, _, _, rfl, rfl, rfl, (rfl), fun E1 => ?_⟩
        refine (V1.buildSliceT (f := encInt) ([(0 : Int), (1 : Int), (30 : Int), (365 : Int), (1000 : Int)] : List Int) rfl rfl esz_69 zk_3 rfl rfl rfl rfl rfl rfl rfl (ltb rfl) ?_)
        intro b23
        refine ⟨_, _, rfl, ?_⟩
        refine WalkP.nil ?_
        refine NodeS.branch [1, 7] inNil rfl rfl rfl ⟨?_, ?_, trivial⟩
        ·
         refine ⟨_, _, _, _, rfl, rfl, rfl, (⟨_, _, rfl, rfl, rfl⟩), fun E1 => ?_⟩
         refine (V1.loadRef (k := 3) rfl rfl tyk_42 rfl rfl rfl rfl rfl (ltb rfl) ?_)
         refine ⟨_, _, rfl, ?_⟩
         refine WalkP.nil ?_
         refine NodeS.branch [7] inNil rfl rfl rfl ⟨?_, trivial⟩
         ·
          refine ⟨_, _, _, _, rfl, rfl, rfl, (⟨_, _, rfl, rfl, ⟨_, _, rfl, rfl, rfl⟩⟩), fun E1 => ?_⟩
          refine (V1.callM 1 (rn + ρ0 + 1) [b23] [.ref bp 3 0 0, .vl (rn + ρ0 + 1) 1 (List.map encInt ([(0 : Int), (1 : Int), (30 : Int), (365 : Int), (1000 : Int)] : List Int))] (p := (bp, ⟨3, [encCur ρ0 y3.2]⟩)) rfl rfl rfl cok_50 rfl rfl ⟨_, _, rfl, .same _, ⟨_, _, rfl, Lend.srMap 0 rfl (fun _ => rfl) (.head _), rfl⟩⟩ (bwCons (k := 0) rfl bwNil) (ok_spec_l1Cur_among hh3) rfl (.inr ⟨(by first | omega | (dsimp only; omega)), by rintro _ _ ⟨rfl, rfl⟩; exact ⟨by simp [PV.no, PV.noL, optS_no, noL_iff, nbeq] <;> omega, by intro b ob h; first | exact optH_no (noL_map (fun _ => by simp [PV.no, PV.noL, noL_iff, nbeq]) _) b ob h | (simp at h; obtain ⟨rfl, rfl⟩ := h; exact noL_map (fun _ => by simp [PV.no, PV.noL, noL_iff, nbeq]) _) | (simp at h; obtain ⟨rfl, rfl⟩ := h; simp [PV.no, PV.noL, optS_no, noL_iff, nbeq] <;> omega)⟩⟩) (ltb rfl) ?_)
          rintro _ _ ⟨rfl, rfl⟩
          refine ⟨_, _, rfl, ?_⟩
          refine WalkP.step (p := ?pv1473) 8 rfl rfl rfl rfl rfl (⟨_, _, rfl, rfl, ⟨_, _, rfl, rfl, rfl⟩⟩) ?hv1473 ?rest1473
          case hv1473 =>
           intro E1 H1 hI1
           refine (V1.int rfl rfl rfl rfl rfl (ltb rfl) ?_)
           exact rfl
          refine WalkP.step (p := ?pv1474) 9 rfl rfl rfl rfl rfl (⟨_, _, rfl, rfl, ⟨_, _, rfl, rfl, rfl⟩⟩) ?hv1474 ?rest1474
          case hv1474 =>
           intro E1 H1 hI1
           refine (V1.build rfl rfl zk_46 pl_46 rfl rfl (ltb rfl) ?_)
           exact rfl
          refine WalkP.nil ?_
          refine NodeS.branch [10] inNil rfl rfl rfl ⟨?_, trivial⟩
          ·
           refine ⟨_, _, _, _, rfl, rfl, rfl, (⟨_, _, rfl, rfl, rfl⟩), fun E1 => ?_⟩
           refine (V1.buildSliceT (f := encEvent) ([(⟨k, (IntKind.i64.wrap (y1.1 + y4.1))⟩ : Event)] : List Event) rfl rfl esz_42 zk_46 rfl rfl rfl rfl rfl rfl rfl (ltb rfl) ?_)
           intro b24
           refine ⟨_, _, rfl, ?_⟩
           refine WalkP.nil ?_
           refine NodeS.fin inNil rfl rfl rfl (⟨_, _, rfl, rfl, ⟨_, _, rfl, rfl, ⟨_, _, rfl, rfl, ⟨_, _, rfl, rfl, ⟨_, _, rfl, rfl, ⟨_, _, rfl, rfl, rfl⟩⟩⟩⟩⟩⟩) ?_
           refine VO.cons rfl (V1.appendMap (k := 3) (f := encEvent) (l := r_Events0) (m := ([(⟨k, (IntKind.i64.wrap (y1.1 + y4.1))⟩ : Event)] : List Event)) rfl rfl rfl rfl rfl esz_42 eby_42 zk_46 rfl rfl rfl (SrcOf.srMap (k := 0) rfl isl_42) hh4 (ltb rfl) ?_)
           intro b25
           refine VO.cons rfl (V1.fieldRef rfl rfl fo_44_3 rfl (ltb rfl) ?_)
           refine VO.cons rfl (V1.storeRef (k := 4) rfl rfl tyk_42 rfl rfl rfl rfl rfl rfl rfl rfl rfl ?_)
           refine VO.nil ?_
           exact ⟨(((r_Events0 ++ ([(⟨k, (IntKind.i64.wrap (y1.1 + y4.1))⟩ : Event)] : List Event)), y4.2), b25), Option.some.inj hm3, Keeps.mk (ks := [0, 2, 4, 5]) rfl ⟨rfl, rfl, rfl, rfl, trivial⟩ (⟨_, _, rfl, rfl, ⟨_, _, rfl, rfl, ⟨_, _, rfl, rfl, ⟨_, _, rfl, rfl, rfl⟩⟩⟩⟩) rfl⟩
        ·
         refine ⟨_, _, _, _, rfl, rfl, rfl, (⟨_, _, rfl, rfl, ⟨_, _, rfl, rfl, rfl⟩⟩), fun E1 => ?_⟩
         refine (V1.callM 1 (rn + ρ0 + 1) [b23] [.ref bp 3 0 0, .vl (rn + ρ0 + 1) 1 (List.map encInt ([(0 : Int), (1 : Int), (30 : Int), (365 : Int), (1000 : Int)] : List Int))] (p := (bp, ⟨3, [encCur ρ0 y3.2]⟩)) rfl rfl rfl cok_50 rfl rfl ⟨_, _, rfl, .same _, ⟨_, _, rfl, Lend.srMap 0 rfl (fun _ => rfl) (.head _), rfl⟩⟩ (bwCons (k := 0) rfl bwNil) (ok_spec_l1Cur_among hh3) rfl (.inr ⟨(by first | omega | (dsimp only; omega)), by rintro _ _ ⟨rfl, rfl⟩; exact ⟨by simp [PV.no, PV.noL, optS_no, noL_iff, nbeq] <;> omega, by intro b ob h; first | exact optH_no (noL_map (fun _ => by simp [PV.no, PV.noL, noL_iff, nbeq]) _) b ob h | (simp at h; obtain ⟨rfl, rfl⟩ := h; exact noL_map (fun _ => by simp [PV.no, PV.noL, noL_iff, nbeq]) _) | (simp at h; obtain ⟨rfl, rfl⟩ := h; simp [PV.no, PV.noL, optS_no, noL_iff, nbeq] <;> omega)⟩⟩) (ltb rfl) ?_)
         rintro _ _ ⟨rfl, rfl⟩
         refine ⟨_, _, rfl, ?_⟩
         refine WalkP.step (p := ?pv1475) 8 rfl rfl rfl rfl rfl (⟨_, _, rfl, rfl, ⟨_, _, rfl, rfl, rfl⟩⟩) ?hv1475 ?rest1475
         case hv1475 =>
          intro E1 H1 hI1
          refine (V1.int rfl rfl rfl rfl rfl (ltb rfl) ?_)
          exact rfl
         refine WalkP.step (p := ?pv1476) 9 rfl rfl rfl rfl rfl (⟨_, _, rfl, rfl, ⟨_, _, rfl, rfl, rfl⟩⟩) ?hv1476 ?rest1476
         case hv1476 =>
          intro E1 H1 hI1
          refine (V1.build rfl rfl zk_46 pl_46 rfl rfl (ltb rfl) ?_)
          exact rfl
         refine WalkP.nil ?_
         refine NodeS.branch [1, 10] inNil rfl rfl rfl ⟨?_, ?_, trivial⟩
         ·
          refine ⟨_, _, _, _, rfl, rfl, rfl, (⟨_, _, rfl, rfl, rfl⟩), fun E1 => ?_⟩
          refine (V1.loadRef (k := 3) rfl rfl tyk_42 rfl rfl rfl rfl rfl (ltb rfl) ?_)
          refine ⟨_, _, rfl, ?_⟩
          refine WalkP.nil ?_
          refine NodeS.branch [10] inNil rfl rfl rfl ⟨?_, trivial⟩
          ·
           refine ⟨_, _, _, _, rfl, rfl, rfl, (⟨_, _, rfl, rfl, rfl⟩), fun E1 => ?_⟩
           refine (V1.buildSliceT (f := encEvent) ([(⟨k, (IntKind.i64.wrap (y1.1 + y4.1))⟩ : Event)] : List Event) rfl rfl esz_42 zk_46 rfl rfl rfl rfl rfl rfl rfl (ltb rfl) ?_)
           intro b26
           refine ⟨_, _, rfl, ?_⟩
           refine WalkP.nil ?_
           refine NodeS.fin inNil rfl rfl rfl (⟨_, _, rfl, rfl, ⟨_, _, rfl, rfl, ⟨_, _, rfl, rfl, ⟨_, _, rfl, rfl, ⟨_, _, rfl, rfl, ⟨_, _, rfl, rfl, rfl⟩⟩⟩⟩⟩⟩) ?_
           refine VO.cons rfl (V1.appendMap (k := 3) (f := encEvent) (l := r_Events0) (m := ([(⟨k, (IntKind.i64.wrap (y1.1 + y4.1))⟩ : Event)] : List Event)) rfl rfl rfl rfl rfl esz_42 eby_42 zk_46 rfl rfl rfl (SrcOf.srMap (k := 0) rfl isl_42) hh4 (ltb rfl) ?_)
           intro b27
           refine VO.cons rfl (V1.fieldRef rfl rfl fo_44_3 rfl (ltb rfl) ?_)
           refine VO.cons rfl (V1.storeRef (k := 4) rfl rfl tyk_42 rfl rfl rfl rfl rfl rfl rfl rfl rfl ?_)
           refine VO.nil ?_
           exact ⟨(((r_Events0 ++ ([(⟨k, (IntKind.i64.wrap (y1.1 + y4.1))⟩ : Event)] : List Event)), y4.2), b27), Option.some.inj hm3, Keeps.mk (ks := [0, 2, 4, 5]) rfl ⟨rfl, rfl, rfl, rfl, trivial⟩ (⟨_, _, rfl, rfl, ⟨_, _, rfl, rfl, ⟨_, _, rfl, rfl, ⟨_, _, rfl, rfl, rfl⟩⟩⟩⟩) rfl⟩
         ·
          refine ⟨_, _, _, _, rfl, rfl, rfl, (⟨_, _, rfl, rfl, rfl⟩), fun E1 => ?_⟩
          refine (V1.buildSliceT (f := encEvent) ([(⟨k, (IntKind.i64.wrap (y1.1 + y4.1))⟩ : Event)] : List Event) rfl rfl esz_42 zk_46 rfl rfl rfl rfl rfl rfl rfl (ltb rfl) ?_)
          intro b28
          refine ⟨_, _, rfl, ?_⟩
          refine WalkP.nil ?_
          refine NodeS.branch [1] inNil rfl rfl rfl ⟨?_, trivial⟩
          ·
           refine ⟨_, _, _, _, rfl, rfl, rfl, (⟨_, _, rfl, rfl, rfl⟩), fun E1 => ?_⟩
           refine (V1.loadRef (k := 4) rfl rfl tyk_42 rfl rfl rfl rfl rfl (ltb rfl) ?_)
           refine ⟨_, _, rfl, ?_⟩
           refine WalkP.nil ?_
           refine NodeS.fin inNil rfl rfl rfl (⟨_, _, rfl, rfl, ⟨_, _, rfl, rfl, ⟨_, _, rfl, rfl, ⟨_, _, rfl, rfl, ⟨_, _, rfl, rfl, ⟨_, _, rfl, rfl, rfl⟩⟩⟩⟩⟩⟩) ?_
           refine VO.cons rfl (V1.appendMap (k := 3) (f := encEvent) (l := r_Events0) (m := ([(⟨k, (IntKind.i64.wrap (y1.1 + y4.1))⟩ : Event)] : List Event)) rfl rfl rfl rfl rfl esz_42 eby_42 zk_46 rfl rfl rfl (SrcOf.srMap (k := 0) rfl isl_42) hh4 (ltb rfl) ?_)
           intro b29
           refine VO.cons rfl (V1.fieldRef rfl rfl fo_44_3 rfl (ltb rfl) ?_)
           refine VO.cons rfl (V1.storeRef (k := 4) rfl rfl tyk_42 rfl rfl rfl rfl rfl rfl rfl rfl rfl ?_)
           refine VO.nil ?_
           exact ⟨(((r_Events0 ++ ([(⟨k, (IntKind.i64.wrap (y1.1 + y4.1))⟩ : Event)] : List Event)), y4.2), b29), Option.some.inj hm3, Keeps.mk (ks := [0, 2, 4, 5]) rfl ⟨rfl, rfl, rfl, rfl, trivial⟩ (⟨_, _, rfl, rfl, ⟨_, _, rfl, rfl, ⟨_, _, rfl, rfl, ⟨_, _, rfl, rfl, rfl⟩⟩⟩⟩) rfl⟩
      ·
       refine ⟨_, _, _, _, rfl, rfl, rfl, (rfl), fun E1 => ?_⟩
       refine (V1.buildSliceT (f := encInt) ([(0 : Int), (1 : Int), (30 : Int), (365 : Int), (1000 : Int)] : List Int) rfl rfl esz_69 zk_3 rfl rfl rfl rfl rfl rfl rfl (ltb rfl) ?_)
       intro b30
       refine ⟨_, _, rfl, ?_⟩
       refine WalkP.nil ?_
       refine NodeS.branch [1, 4, 7] inNil rfl rfl rfl ⟨?_, ?_, ?_, trivial⟩
       ·
        refine ⟨_, _, _, _, rfl, rfl, rfl, (⟨_, _, rfl, rfl, rfl⟩), fun E1 => ?_⟩
        refine (V1.loadRef (k := 3) rfl rfl tyk_42 rfl rfl rfl rfl rfl (ltb rfl) ?_)
        refine ⟨_, _, rfl, ?_⟩
        refine WalkP.nil ?_
        refine NodeS.branch [4, 7] inNil rfl rfl rfl ⟨?_, ?_, trivial⟩
        ·
         refine ⟨_, _, _, _, rfl, rfl, rfl, (⟨_, _, rfl, rfl, rfl⟩), fun E1 => ?_⟩
         refine (V1.loadRef (k := 3) rfl rfl tyk_3 rfl rfl rfl rfl rfl (ltb rfl) ?_)
         refine ⟨_, _, rfl, ?_⟩
         refine WalkP.nil ?_
         refine NodeS.branch [7] inNil rfl rfl rfl ⟨?_, trivial⟩
         ·
          refine ⟨_, _, _, _, rfl, rfl, rfl, (⟨_, _, rfl, rfl, ⟨_, _, rfl, rfl, rfl⟩⟩), fun E1 => ?_⟩
          refine (V1.callM 1 (rn + ρ0 + 1) [b30] [.ref bp 3 0 0, .vl (rn + ρ0 + 1) 1 (List.map encInt ([(0 : Int), (1 : Int), (30 : Int), (365 : Int), (1000 : Int)] : List Int))] (p := (bp, ⟨3, [encCur ρ0 y3.2]⟩)) rfl rfl rfl cok_50 rfl rfl ⟨_, _, rfl, .same _, ⟨_, _, rfl, Lend.srMap 0 rfl (fun _ => rfl) (.head _), rfl⟩⟩ (bwCons (k := 0) rfl bwNil) (ok_spec_l1Cur_among hh3) rfl (.inr ⟨(by first | omega | (dsimp only; omega)), by rintro _ _ ⟨rfl, rfl⟩; exact ⟨by simp [PV.no, PV.noL, optS_no, noL_iff, nbeq] <;> omega, by intro b ob h; first | exact optH_no (noL_map (fun _ => by simp [PV.no, PV.noL, noL_iff, nbeq]) _) b ob h | (simp at h; obtain ⟨rfl, rfl⟩ := h; exact noL_map (fun _ => by simp [PV.no, PV.noL, noL_iff, nbeq]) _) | (simp at h; obtain ⟨rfl, rfl⟩ := h; simp [PV.no, PV.noL, optS_no, noL_iff, nbeq] <;> omega)⟩⟩) (ltb rfl) ?_)
          rintro _ _ ⟨rfl, rfl⟩
          refine ⟨_, _, rfl, ?_⟩
          refine WalkP.step (p := ?pv1477) 8 rfl rfl rfl rfl rfl (⟨_, _, rfl, rfl, ⟨_, _, rfl, rfl, rfl⟩⟩) ?hv1477 ?rest1477
          case hv1477 =>
           intro E1 H1 hI1
           refine (V1.int rfl rfl rfl rfl rfl (ltb rfl) ?_)
           exact rfl
          refine WalkP.step (p := ?pv1478) 9 rfl rfl rfl rfl rfl (⟨_, _, rfl, rfl, ⟨_, _, rfl, rfl, rfl⟩⟩) ?hv1478 ?rest1478
          case hv1478 =>
           intro E1 H1 hI1
           refine (V1.build rfl rfl zk_46 pl_46 rfl rfl (ltb rfl) ?_)
           exact rfl
          refine WalkP.nil ?_
          refine NodeS.branch [10] inNil rfl rfl rfl ⟨?_, trivial⟩
          ·
           refine ⟨_, _, _, _, rfl, rfl, rfl, (⟨_, _, rfl, rfl, rfl⟩), fun E1 => ?_⟩
           refine (V1.buildSliceT (f := encEvent) ([(⟨k, (IntKind.i64.wrap (y1.1 + y4.1))⟩ : Event)] : List Event) rfl rfl esz_42 zk_46 rfl rfl rfl rfl rfl rfl rfl (ltb rfl) ?_)
           intro b31
           refine ⟨_, _, rfl, ?_⟩
           refine WalkP.nil ?_
           refine NodeS.fin inNil rfl rfl rfl (⟨_, _, rfl, rfl, ⟨_, _, rfl, rfl, ⟨_, _, rfl, rfl, ⟨_, _, rfl, rfl, ⟨_, _, rfl, rfl, ⟨_, _, rfl, rfl, rfl⟩⟩⟩⟩⟩⟩) ?_
           refine VO.cons rfl (V1.appendMap (k := 3) (f := encEvent) (l := r_Events0) (m := ([(⟨k, (IntKind.i64.wrap (y1.1 + y4.1))⟩ : Event)] : List Event)) rfl rfl rfl rfl rfl esz_42 eby_42 zk_46 rfl rfl rfl (SrcOf.srMap (k := 0) rfl isl_42) hh4 (ltb rfl) ?_)
           intro b32
           refine VO.cons rfl (V1.fieldRef rfl rfl fo_44_3 rfl (ltb rfl) ?_)
           refine VO.cons rfl (V1.storeRef (k := 4) rfl rfl tyk_42 rfl rfl rfl rfl rfl rfl rfl rfl rfl ?_)
           refine VO.nil ?_
           exact ⟨(((r_Events0 ++ ([(⟨k, (IntKind.i64.wrap (y1.1 + y4.1))⟩ : Event)] : List Event)), y4.2), b32), Option.some.inj hm3, Keeps.mk (ks := [0, 2, 4, 5]) rfl ⟨rfl, rfl, rfl, rfl, trivial⟩ (⟨_, _, rfl, rfl, ⟨_, _, rfl, rfl, ⟨_, _, rfl, rfl, ⟨_, _, rfl, rfl, rfl⟩⟩⟩⟩) rfl⟩
        ·
         refine ⟨_, _, _, _, rfl, rfl, rfl, (⟨_, _, rfl, rfl, ⟨_, _, rfl, rfl, rfl⟩⟩), fun E1 => ?_⟩
         refine (V1.callM 1 (rn + ρ0 + 1) [b30] [.ref bp 3 0 0, .vl (rn + ρ0 + 1) 1 (List.map encInt ([(0 : Int), (1 : Int), (30 : Int), (365 : Int), (1000 : Int)] : List Int))] (p := (bp, ⟨3, [encCur ρ0 y3.2]⟩)) rfl rfl rfl cok_50 rfl rfl ⟨_, _, rfl, .same _, ⟨_, _, rfl, Lend.srMap 0 rfl (fun _ => rfl) (.head _), rfl⟩⟩ (bwCons (k := 0) rfl bwNil) (ok_spec_l1Cur_among hh3) rfl (.inr ⟨(by first | omega | (dsimp only; omega)), by rintro _ _ ⟨rfl, rfl⟩; exact ⟨by simp [PV.no, PV.noL, optS_no, noL_iff, nbeq] <;> omega, by intro b ob h; first | exact optH_no (noL_map (fun _ => by simp [PV.no, PV.noL, noL_iff, nbeq]) _) b ob h | (simp at h; obtain ⟨rfl, rfl⟩ := h; exact noL_map (fun _ => by simp [PV.no, PV.noL, noL_iff, nbeq]) _) | (simp at h; obtain ⟨rfl, rfl⟩ := h; simp [PV.no, PV.noL, optS_no, noL_iff, nbeq] <;> omega)⟩⟩) (ltb rfl) ?_)
         rintro _ _ ⟨rfl, rfl⟩
         refine ⟨_, _, rfl, ?_⟩
         refine WalkP.nil ?_
         refine NodeS.branch [4] inNil rfl rfl rfl ⟨?_, trivial⟩
         ·
          refine ⟨_, _, _, _, rfl, rfl, rfl, (⟨_, _, rfl, rfl, rfl⟩), fun E1 => ?_⟩
          refine (V1.loadRef (k := 3) rfl rfl tyk_3 rfl rfl rfl rfl rfl (ltb rfl) ?_)
          refine ⟨_, _, rfl, ?_⟩
          refine WalkP.step (p := ?pv1479) 8 rfl rfl rfl rfl rfl (⟨_, _, rfl, rfl, ⟨_, _, rfl, rfl, rfl⟩⟩) ?hv1479 ?rest1479
          case hv1479 =>
           intro E1 H1 hI1
           refine (V1.int rfl rfl rfl rfl rfl (ltb rfl) ?_)
           exact rfl
          refine WalkP.step (p := ?pv1480) 9 rfl rfl rfl rfl rfl (⟨_, _, rfl, rfl, ⟨_, _, rfl, rfl, rfl⟩⟩) ?hv1480 ?rest1480
          case hv1480 =>
           intro E1 H1 hI1
           refine (V1.build rfl rfl zk_46 pl_46 rfl rfl (ltb rfl) ?_)
           exact rfl
          refine WalkP.nil ?_
          refine NodeS.branch [10] inNil rfl rfl rfl ⟨?_, trivial⟩
          ·
           refine ⟨_, _, _, _, rfl, rfl, rfl, (⟨_, _, rfl, rfl, rfl⟩), fun E1 => ?_⟩
           refine (V1.buildSliceT (f := encEvent) ([(⟨k, (IntKind.i64.wrap (y1.1 + y4.1))⟩ : Event)] : List Event) rfl rfl esz_42 zk_46 rfl rfl rfl rfl rfl rfl rfl (ltb rfl) ?_)
           intro b33
           refine ⟨_, _, rfl, ?_⟩
           refine WalkP.nil ?_
           refine NodeS.fin inNil rfl rfl rfl (⟨_, _, rfl, rfl, ⟨_, _, rfl, rfl, ⟨_, _, rfl, rfl, ⟨_, _, rfl, rfl, ⟨_, _, rfl, rfl, ⟨_, _, rfl, rfl, rfl⟩⟩⟩⟩⟩⟩) ?_
           refine VO.cons rfl (V1.appendMap (k := 3) (f := encEvent) (l := r_Events0) (m := ([(⟨k, (IntKind.i64.wrap (y1.1 + y4.1))⟩ : Event)] : List Event)) rfl rfl rfl rfl rfl esz_42 eby_42 zk_46 rfl rfl rfl (SrcOf.srMap (k := 0) rfl isl_42) hh4 (ltb rfl) ?_)
           intro b34
           refine VO.cons rfl (V1.fieldRef rfl rfl fo_44_3 rfl (ltb rfl) ?_)
           refine VO.cons rfl (V1.storeRef (k := 4) rfl rfl tyk_42 rfl rfl rfl rfl rfl rfl rfl rfl rfl ?_)
           refine VO.nil ?_
           exact ⟨(((r_Events0 ++ ([(⟨k, (IntKind.i64.wrap (y1.1 + y4.1))⟩ : Event)] : List Event)), y4.2), b34), Option.some.inj hm3, Keeps.mk (ks := [0, 2, 4, 5]) rfl ⟨rfl, rfl, rfl, rfl, trivial⟩ (⟨_, _, rfl, rfl, ⟨_, _, rfl, rfl, ⟨_, _, rfl, rfl, ⟨_, _, rfl, rfl, rfl⟩⟩⟩⟩) rfl⟩
       ·
        refine ⟨_, _, _, _, rfl, rfl, rfl, (⟨_, _, rfl, rfl, rfl⟩), fun E1 => ?_⟩
        refine (V1.loadRef (k := 3) rfl rfl tyk_3 rfl rfl rfl rfl rfl (ltb rfl) ?_)
        refine ⟨_, _, rfl, ?_⟩
        refine WalkP.nil ?_
        refine NodeS.branch [1, 7] inNil rfl rfl rfl ⟨?_, ?_, trivial⟩
        ·
         refine ⟨_, _, _, _, rfl, rfl, rfl, (⟨_, _, rfl, rfl, rfl⟩), fun E1 => ?_⟩
         refine (V1.loadRef (k := 3) rfl rfl tyk_42 rfl rfl rfl rfl rfl (ltb rfl) ?_)
         refine ⟨_, _, rfl, ?_⟩
         refine WalkP.nil ?_
         refine NodeS.branch [7] inNil rfl rfl rfl ⟨?_, trivial⟩
         ·
          refine ⟨_, _, _, _, rfl, rfl, rfl, (⟨_, _, rfl, rfl, ⟨_, _, rfl, rfl, rfl⟩⟩), fun E1 => ?_⟩
          refine (V1.callM 1 (rn + ρ0 + 1) [b30] [.ref bp 3 0 0, .vl (rn + ρ0 + 1) 1 (List.map encInt ([(0 : Int), (1 : Int), (30 : Int), (365 : Int), (1000 : Int)] : List Int))] (p := (bp, ⟨3, [encCur ρ0 y3.2]⟩)) rfl rfl rfl cok_50 rfl rfl ⟨_, _, rfl, .same _, ⟨_, _, rfl, Lend.srMap 0 rfl (fun _ => rfl) (.head _), rfl⟩⟩ (bwCons (k := 0) rfl bwNil) (ok_spec_l1Cur_among hh3) rfl (.inr ⟨(by first | omega | (dsimp only; omega)), by rintro _ _ ⟨rfl, rfl⟩; exact ⟨by simp [PV.no, PV.noL, optS_no, noL_iff, nbeq] <;> omega, by intro b ob h; first | exact optH_no (noL_map (fun _ => by simp [PV.no, PV.noL, noL_iff, nbeq]) _) b ob h | (simp at h; obtain ⟨rfl, rfl⟩ := h; exact noL_map (fun _ => by simp [PV.no, PV.noL, noL_iff, nbeq]) _) | (simp at h; obtain ⟨rfl, rfl⟩ := h; simp [PV.no, PV.noL, optS_no, noL_iff, nbeq] <;> omega)⟩⟩) (ltb rfl) ?_)
          rintro _ _ ⟨rfl, rfl⟩
          refine ⟨_, _, rfl, ?_⟩
          refine WalkP.step (p := ?pv1481) 8 rfl rfl rfl rfl rfl (⟨_, _, rfl, rfl, ⟨_, _, rfl, rfl, rfl⟩⟩) ?hv1481 ?rest1481
          case hv1481 =>
           intro E1 H1 hI1
           refine (V1.int rfl rfl rfl rfl rfl (ltb rfl) ?_)
           exact rfl
          refine WalkP.step (p := ?pv1482) 9 rfl rfl rfl rfl rfl (⟨_, _, rfl, rfl, ⟨_, _, rfl, rfl, rfl⟩⟩) ?hv1482 ?rest1482
          case hv1482 =>
           intro E1 H1 hI1
           refine (V1.build rfl rfl zk_46 pl_46 rfl rfl (ltb rfl) ?_)
           exact rfl
          refine WalkP.nil ?_
          refine NodeS.branch [10] inNil rfl rfl rfl ⟨?_, trivial⟩
          ·
           refine ⟨_, _, _, _, rfl, rfl, rfl, (⟨_, _, rfl, rfl, rfl⟩), fun E1 => ?_⟩
           refine (V1.buildSliceT (f := encEvent) ([(⟨k, (IntKind.i64.wrap (y1.1 + y4.1))⟩ : Event)] : List Event) rfl rfl esz_42 zk_46 rfl rfl rfl rfl rfl rfl rfl (ltb rfl) ?_)
           intro b35
           refine ⟨_, _, rfl, ?_⟩
           refine WalkP.nil ?_
           refine NodeS.fin inNil rfl rfl rfl (⟨_, _, rfl, rfl, ⟨_, _, rfl, rfl, ⟨_, _, rfl, rfl, ⟨_, _, rfl, rfl, ⟨_, _, rfl, rfl, ⟨_, _, rfl, rfl, rfl⟩⟩⟩⟩⟩⟩) ?_
           refine VO.cons rfl (V1.appendMap (k := 3) (f := encEvent) (l := r_Events0) (m := ([(⟨k, (IntKind.i64.wrap (y1.1 + y4.1))⟩ : Event)] : List Event)) rfl rfl rfl rfl rfl esz_42 eby_42 zk_46 rfl rfl rfl (SrcOf.srMap (k := 0) rfl isl_42) hh4 (ltb rfl) ?_)
           intro b36
           refine VO.cons rfl (V1.fieldRef rfl rfl fo_44_3 rfl (ltb rfl) ?_)
           refine VO.cons rfl (V1.storeRef (k := 4) rfl rfl tyk_42 rfl rfl rfl rfl rfl rfl rfl rfl rfl ?_)
           refine VO.nil ?_
           exact ⟨(((r_Events0 ++ ([(⟨k, (IntKind.i64.wrap (y1.1 + y4.1))⟩ : Event)] : List Event)), y4.2), b36), Option.some.inj hm3, Keeps.mk (ks := [0, 2, 4, 5]) rfl ⟨rfl, rfl, rfl, rfl, trivial⟩ (⟨_, _, rfl, rfl, ⟨_, _, rfl, rfl, ⟨_, _, rfl, rfl, ⟨_, _, rfl, rfl, rfl⟩⟩⟩⟩) rfl⟩
        ·
         refine ⟨_, _, _, _, rfl, rfl, rfl, (⟨_, _, rfl, rfl, ⟨_, _, rfl, rfl, rfl⟩⟩), fun E1 => ?_⟩
         refine (V1.callM 1 (rn + ρ0 + 1) [b30] [.ref bp 3 0 0, .vl (rn + ρ0 + 1) 1 (List.map encInt ([(0 : Int), (1 : Int), (30 : Int), (365 : Int), (1000 : Int)] : List Int))] (p := (bp, ⟨3, [encCur ρ0 y3.2]⟩)) rfl rfl rfl cok_50 rfl rfl ⟨_, _, rfl, .same _, ⟨_, _, rfl, Lend.srMap 0 rfl (fun _ => rfl) (.head _), rfl⟩⟩ (bwCons (k := 0) rfl bwNil) (ok_spec_l1Cur_among hh3) rfl (.inr ⟨(by first | omega | (dsimp only; omega)), by rintro _ _ ⟨rfl, rfl⟩; exact ⟨by simp [PV.no, PV.noL, optS_no, noL_iff, nbeq] <;> omega, by intro b ob h; first | exact optH_no (noL_map (fun _ => by simp [PV.no, PV.noL, noL_iff, nbeq]) _) b ob h | (simp at h; obtain ⟨rfl, rfl⟩ := h; exact noL_map (fun _ => by simp [PV.no, PV.noL, noL_iff, nbeq]) _) | (simp at h; obtain ⟨rfl, rfl⟩ := h; simp [PV.no, PV.noL, optS_no, noL_iff, nbeq] <;> omega)⟩⟩) (ltb rfl) ?_)
         rintro _ _ ⟨rfl, rfl⟩
         refine ⟨_, _, rfl, ?_⟩
         refine WalkP.step (p := ?pv1483) 8 rfl rfl rfl rfl rfl (⟨_, _, rfl, rfl, ⟨_, _, rfl, rfl, rfl⟩⟩) ?hv1483 ?rest1483
         case hv1483 =>
          intro E1 H1 hI1
          refine (V1.int rfl rfl rfl rfl rfl (ltb rfl) ?_)
          exact rfl
         refine WalkP.step (p := ?pv1484) 9 rfl rfl rfl rfl rfl (⟨_, _, rfl, rfl, ⟨_, _, rfl, rfl, rfl⟩⟩) ?hv1484 ?rest1484
         case hv1484 =>
          intro E1 H1 hI1
          refine (V1.build rfl rfl zk_46 pl_46 rfl rfl (ltb rfl) ?_)
          exact rfl
         refine WalkP.nil ?_
         refine NodeS.branch [1, 10] inNil rfl rfl rfl ⟨?_, ?_, trivial⟩
         ·
          refine ⟨_, _, _, _, rfl, rfl, rfl, (⟨_, _, rfl, rfl, rfl⟩), fun E1 => ?_⟩
          refine (V1.loadRef (k := 3) rfl rfl tyk_42 rfl rfl rfl rfl rfl (ltb rfl) ?_)
          refine ⟨_, _, rfl, ?_⟩
          refine WalkP.nil ?_
          refine NodeS.branch [10] inNil rfl rfl rfl ⟨?_, trivial⟩
          ·
           refine ⟨_, _, _, _, rfl, rfl, rfl, (⟨_, _, rfl, rfl, rfl⟩), fun E1 => ?_⟩
           refine (V1.buildSliceT (f := encEvent) ([(⟨k, (IntKind.i64.wrap (y1.1 + y4.1))⟩ : Event)] : List Event) rfl rfl esz_42 zk_46 rfl rfl rfl rfl rfl rfl rfl (ltb rfl) ?_)
           intro b37
           refine ⟨_, _, rfl, ?_⟩
           refine WalkP.nil ?_
           refine NodeS.fin inNil rfl rfl rfl (⟨_, _, rfl, rfl, ⟨_, _, rfl, rfl, ⟨_, _, rfl, rfl, ⟨_, _, rfl, rfl, ⟨_, _, rfl, rfl, ⟨_, _, rfl, rfl, rfl⟩⟩⟩⟩⟩⟩) ?_
           refine VO.cons rfl (V1.appendMap (k := 3) (f := encEvent) (l := r_Events0) (m := ([(⟨k, (IntKind.i64.wrap (y1.1 + y4.1))⟩ : Event)] : List Event)) rfl rfl rfl rfl rfl esz_42 eby_42 zk_46 rfl rfl rfl (SrcOf.srMap (k := 0) rfl isl_42) hh4 (ltb rfl) ?_)
           intro b38
           refine VO.cons rfl (V1.fieldRef rfl rfl fo_44_3 rfl (ltb rfl) ?_)
           refine VO.cons rfl (V1.storeRef (k := 4) rfl rfl tyk_42 rfl rfl rfl rfl rfl rfl rfl rfl rfl ?_)
           refine VO.nil ?_
           exact ⟨(((r_Events0 ++ ([(⟨k, (IntKind.i64.wrap (y1.1 + y4.1))⟩ : Event)] : List Event)), y4.2), b38), Option.some.inj hm3, Keeps.mk (ks := [0, 2, 4, 5]) rfl ⟨rfl, rfl, rfl, rfl, trivial⟩ (⟨_, _, rfl, rfl, ⟨_, _, rfl, rfl, ⟨_, _, rfl, rfl, ⟨_, _, rfl, rfl, rfl⟩⟩⟩⟩) rfl⟩
         ·
          refine ⟨_, _, _, _, rfl, rfl, rfl, (⟨_, _, rfl, rfl, rfl⟩), fun E1 => ?_⟩
          refine (V1.buildSliceT (f := encEvent) ([(⟨k, (IntKind.i64.wrap (y1.1 + y4.1))⟩ : Event)] : List Event) rfl rfl esz_42 zk_46 rfl rfl rfl rfl rfl rfl rfl (ltb rfl) ?_)
          intro b39
          refine ⟨_, _, rfl, ?_⟩
          refine WalkP.nil ?_
          refine NodeS.branch [1] inNil rfl rfl rfl ⟨?_, trivial⟩
          ·
           refine ⟨_, _, _, _, rfl, rfl, rfl, (⟨_, _, rfl, rfl, rfl⟩), fun E1 => ?_⟩
           refine (V1.loadRef (k := 4) rfl rfl tyk_42 rfl rfl rfl rfl rfl (ltb rfl) ?_)
           refine ⟨_, _, rfl, ?_⟩
           refine WalkP.nil ?_
           refine NodeS.fin inNil rfl rfl rfl (⟨_, _, rfl, rfl, ⟨_, _, rfl, rfl, ⟨_, _, rfl, rfl, ⟨_, _, rfl, rfl, ⟨_, _, rfl, rfl, ⟨_, _, rfl, rfl, rfl⟩⟩⟩⟩⟩⟩) ?_
           refine VO.cons rfl (V1.appendMap (k := 3) (f := encEvent) (l := r_Events0) (m := ([(⟨k, (IntKind.i64.wrap (y1.1 + y4.1))⟩ : Event)] : List Event)) rfl rfl rfl rfl rfl esz_42 eby_42 zk_46 rfl rfl rfl (SrcOf.srMap (k := 0) rfl isl_42) hh4 (ltb rfl) ?_)
           intro b40
           refine VO.cons rfl (V1.fieldRef rfl rfl fo_44_3 rfl (ltb rfl) ?_)
           refine VO.cons rfl (V1.storeRef (k := 4) rfl rfl tyk_42 rfl rfl rfl rfl rfl rfl rfl rfl rfl ?_)
           refine VO.nil ?_
           exact ⟨(((r_Events0 ++ ([(⟨k, (IntKind.i64.wrap (y1.1 + y4.1))⟩ : Event)] : List Event)), y4.2), b40), Option.some.inj hm3, Keeps.mk (ks := [0, 2, 4, 5]) rfl ⟨rfl, rfl, rfl, rfl, trivial⟩ (⟨_, _, rfl, rfl, ⟨_, _, rfl, rfl, ⟨_, _, rfl, rfl, ⟨_, _, rfl, rfl, rfl⟩⟩⟩⟩) rfl⟩
       ·
        refine ⟨_, _, _, _, rfl, rfl, rfl, (⟨_, _, rfl, rfl, ⟨_, _, rfl, rfl, rfl⟩⟩), fun E1 => ?_⟩
        refine (V1.callM 1 (rn + ρ0 + 1) [b30] [.ref bp 3 0 0, .vl (rn + ρ0 + 1) 1 (List.map encInt ([(0 : Int), (1 : Int), (30 : Int), (365 : Int), (1000 : Int)] : List Int))] (p := (bp, ⟨3, [encCur ρ0 y3.2]⟩)) rfl rfl rfl cok_50 rfl rfl ⟨_, _, rfl, .same _, ⟨_, _, rfl, Lend.srMap 0 rfl (fun _ => rfl) (.head _), rfl⟩⟩ (bwCons (k := 0) rfl bwNil) (ok_spec_l1Cur_among hh3) rfl (.inr ⟨(by first | omega | (dsimp only; omega)), by rintro _ _ ⟨rfl, rfl⟩; exact ⟨by simp [PV.no, PV.noL, optS_no, noL_iff, nbeq] <;> omega, by intro b ob h; first | exact optH_no (noL_map (fun _ => by simp [PV.no, PV.noL, noL_iff, nbeq]) _) b ob h | (simp at h; obtain ⟨rfl, rfl⟩ := h; exact noL_map (fun _ => by simp [PV.no, PV.noL, noL_iff, nbeq]) _) | (simp at h; obtain ⟨rfl, rfl⟩ := h; simp [PV.no, PV.noL, optS_no, noL_iff, nbeq] <;> omega)⟩⟩) (ltb rfl) ?_)
        rintro _ _ ⟨rfl, rfl⟩
        refine ⟨_, _, rfl, ?_⟩
        refine WalkP.nil ?_
        refine NodeS.branch [1, 4] inNil rfl rfl rfl ⟨?_, ?_, trivial⟩
        ·
         refine ⟨_, _, _, _, rfl, rfl, rfl, (⟨_, _, rfl, rfl, rfl⟩), fun E1 => ?_⟩
         refine (V1.loadRef (k := 3) rfl rfl tyk_42 rfl rfl rfl rfl rfl (ltb rfl) ?_)
         refine ⟨_, _, rfl, ?_⟩
         refine WalkP.nil ?_
         refine NodeS.branch [4] inNil rfl rfl rfl ⟨?_, trivial⟩
         ·
          refine ⟨_, _, _, _, rfl, rfl, rfl, (⟨_, _, rfl, rfl, rfl⟩), fun E1 => ?_⟩
          refine (V1.loadRef (k := 3) rfl rfl tyk_3 rfl rfl rfl rfl rfl (ltb rfl) ?_)
          refine ⟨_, _, rfl, ?_⟩
          refine WalkP.step (p := ?pv1485) 8 rfl rfl rfl rfl rfl (⟨_, _, rfl, rfl, ⟨_, _, rfl, rfl, rfl⟩⟩) ?hv1485 ?rest1485
          case hv1485 =>
           intro E1 H1 hI1
           refine (V1.int rfl rfl rfl rfl rfl (ltb rfl) ?_)
           exact rfl
          refine WalkP.step (p := ?pv1486) 9 rfl rfl rfl rfl rfl (⟨_, _, rfl, rfl, ⟨_, _, rfl, rfl, rfl⟩⟩) ?hv1486 ?rest1486
          case hv1486 =>
           intro E1 H1 hI1
           refine (V1.build rfl rfl zk_46 pl_46 rfl rfl (ltb rfl) ?_)
           exact rfl
          refine WalkP.nil ?_
          refine NodeS.branch [10] inNil rfl rfl rfl ⟨?_, trivial⟩
          ·
           refine ⟨_, _, _, _, rfl, rfl, rfl, (⟨_, _, rfl, rfl, rfl⟩), fun E1 => ?_⟩
           refine (V1.buildSliceT (f := encEvent) ([(⟨k, (IntKind.i64.wrap (y1.1 + y4.1))⟩ : Event)] : List Event) rfl rfl esz_42 zk_46 rfl rfl rfl rfl rfl rfl rfl (ltb rfl) ?_)
           intro b41
           refine ⟨_, _, rfl, ?_⟩
           refine WalkP.nil ?_
           refine NodeS.fin inNil rfl rfl rfl (⟨_, _, rfl, rfl, ⟨_, _, rfl, rfl, ⟨_, _, rfl, rfl, ⟨_, _, rfl, rfl, ⟨_, _, rfl, rfl, ⟨_, _, rfl, rfl, rfl⟩⟩⟩⟩⟩⟩) ?_
           refine VO.cons rfl (V1.appendMap (k := 3) (f := encEvent) (l := r_Events0) (m := ([(⟨k, (IntKind.i64.wrap (y1.1 + y4.1))⟩ : Event)] : List Event)) rfl rfl rfl rfl rfl esz_42 eby_42 zk_46 rfl rfl rfl (SrcOf.srMap (k := 0) rfl isl_42) hh4 (ltb rfl) ?_)
           intro b42
           refine VO.cons rfl (V1.fieldRef rfl rfl fo_44_3 rfl (ltb rfl) ?_)
           refine VO.cons rfl (V1.storeRef (k := 4) rfl rfl tyk_42 rfl rfl rfl rfl rfl rfl rfl rfl rfl ?_)
           refine VO.nil ?_
           exact ⟨(((r_Events0 ++ ([(⟨k, (IntKind.i64.wrap (y1.1 + y4.1))⟩ : Event)] : List Event)), y4.2), b42), Option.some.inj hm3, Keeps.mk (ks := [0, 2, 4, 5]) rfl ⟨rfl, rfl, rfl, rfl, trivial⟩ (⟨_, _, rfl, rfl, ⟨_, _, rfl, rfl, ⟨_, _, rfl, rfl, ⟨_, _, rfl, rfl, rfl⟩⟩⟩⟩) rfl⟩
        ·
         refine ⟨_, _, _, _, rfl, rfl, rfl, (⟨_, _, rfl, rfl, rfl⟩), fun E1 => ?_⟩
         refine (V1.loadRef (k := 3) rfl rfl tyk_3 rfl rfl rfl rfl rfl (ltb rfl) ?_)
         refine ⟨_, _, rfl, ?_⟩
         refine WalkP.step (p := ?pv1487) 8 rfl rfl rfl rfl rfl (⟨_, _, rfl, rfl, ⟨_, _, rfl, rfl, rfl⟩⟩) ?hv1487 ?rest1487
         case hv1487 =>
          intro E1 H1 hI1
          refine (V1.int rfl rfl rfl rfl rfl (ltb rfl) ?_)
          exact rfl
         refine WalkP.step (p := ?pv1488) 9 rfl rfl rfl rfl rfl (⟨_, _, rfl, rfl, ⟨_, _, rfl, rfl, rfl⟩⟩) ?hv1488 ?rest1488
         case hv1488 =>
          intro E1 H1 hI1
          refine (V1.build rfl rfl zk_46 pl_46 rfl rfl (ltb rfl) ?_)
          exact rfl
         refine WalkP.nil ?_
         refine NodeS.branch [1, 10] inNil rfl rfl rfl ⟨?_, ?_, trivial⟩
         ·
          refine ⟨_, _, _, _, rfl, rfl, rfl, (⟨_, _, rfl, rfl, rfl⟩), fun E1 => ?_⟩
          refine (V1.loadRef (k := 3) rfl rfl tyk_42 rfl rfl rfl rfl rfl (ltb rfl) ?_)
          refine ⟨_, _, rfl, ?_⟩
          refine WalkP.nil ?_
          refine NodeS.branch [10] inNil rfl rfl rfl ⟨?_, trivial⟩
          ·
           refine ⟨_, _, _, _, rfl, rfl, rfl, (⟨_, _, rfl, rfl, rfl⟩), fun E1 => ?_⟩
           refine (V1.buildSliceT (f := encEvent) ([(⟨k, (IntKind.i64.wrap (y1.1 + y4.1))⟩ : Event)] : List Event) rfl rfl esz_42 zk_46 rfl rfl rfl rfl rfl rfl rfl (ltb rfl) ?_)
           intro b43
           refine ⟨_, _, rfl, ?_⟩
           refine WalkP.nil ?_
           refine NodeS.fin inNil rfl rfl rfl (⟨_, _, rfl, rfl, ⟨_, _, rfl, rfl, ⟨_, _, rfl, rfl, ⟨_, _, rfl, rfl, ⟨_, _, rfl, rfl, ⟨_, _, rfl, rfl, rfl⟩⟩⟩⟩⟩⟩) ?_
           refine VO.cons rfl (V1.appendMap (k := 3) (f := encEvent) (l := r_Events0) (m := ([(⟨k, (IntKind.i64.wrap (y1.1 + y4.1))⟩ : Event)] : List Event)) rfl rfl rfl rfl rfl esz_42 eby_42 zk_46 rfl rfl rfl (SrcOf.srMap (k := 0) rfl isl_42) hh4 (ltb rfl) ?_)
           intro b44
           refine VO.cons rfl (V1.fieldRef rfl rfl fo_44_3 rfl (ltb rfl) ?_)
           refine VO.cons rfl (V1.storeRef (k := 4) rfl rfl tyk_42 rfl rfl rfl rfl rfl rfl rfl rfl rfl ?_)
           refine VO.nil ?_
           exact ⟨(((r_Events0 ++ ([(⟨k, (IntKind.i64.wrap (y1.1 + y4.1))⟩ : Event)] : List Event)), y4.2), b44), Option.some.inj hm3, Keeps.mk (ks := [0, 2, 4, 5]) rfl ⟨rfl, rfl, rfl, rfl, trivial⟩ (⟨_, _, rfl, rfl, ⟨_, _, rfl, rfl, ⟨_, _, rfl, rfl, ⟨_, _, rfl, rfl, rfl⟩⟩⟩⟩) rfl⟩
         ·
          refine ⟨_, _, _, _, rfl, rfl, rfl, (⟨_, _, rfl, rfl, rfl⟩), fun E1 => ?_⟩
          refine (V1.buildSliceT (f := encEvent) ([(⟨k, (IntKind.i64.wrap (y1.1 + y4.1))⟩ : Event)] : List Event) rfl rfl esz_42 zk_46 rfl rfl rfl rfl rfl rfl rfl (ltb rfl) ?_)
          intro b45
          refine ⟨_, _, rfl, ?_⟩
          refine WalkP.nil ?_
          refine NodeS.branch [1] inNil rfl rfl rfl ⟨?_, trivial⟩
          ·
           refine ⟨_, _, _, _, rfl, rfl, rfl, (⟨_, _, rfl, rfl, rfl⟩), fun E1 => ?_⟩
           refine (V1.loadRef (k := 4) rfl rfl tyk_42 rfl rfl rfl rfl rfl (ltb rfl) ?_)
           refine ⟨_, _, rfl, ?_⟩
           refine WalkP.nil ?_
           refine NodeS.fin inNil rfl rfl rfl (⟨_, _, rfl, rfl, ⟨_, _, rfl, rfl, ⟨_, _, rfl, rfl, ⟨_, _, rfl, rfl, ⟨_, _, rfl, rfl, ⟨_, _, rfl, rfl, rfl⟩⟩⟩⟩⟩⟩) ?_
           refine VO.cons rfl (V1.appendMap (k := 3) (f := encEvent) (l := r_Events0) (m := ([(⟨k, (IntKind.i64.wrap (y1.1 + y4.1))⟩ : Event)] : List Event)) rfl rfl rfl rfl rfl esz_42 eby_42 zk_46 rfl rfl rfl (SrcOf.srMap (k := 0) rfl isl_42) hh4 (ltb rfl) ?_)
           intro b46
           refine VO.cons rfl (V1.fieldRef rfl rfl fo_44_3 rfl (ltb rfl) ?_)
           refine VO.cons rfl (V1.storeRef (k := 4) rfl rfl tyk_42 rfl rfl rfl rfl rfl rfl rfl rfl rfl ?_)
           refine VO.nil ?_
           exact ⟨(((r_Events0 ++ ([(⟨k, (IntKind.i64.wrap (y1.1 + y4.1))⟩ : Event)] : List Event)), y4.2), b46), Option.some.inj hm3, Keeps.mk (ks := [0, 2, 4, 5]) rfl ⟨rfl, rfl, rfl, rfl, trivial⟩ (⟨_, _, rfl, rfl, ⟨_, _, rfl, rfl, ⟨_, _, rfl, rfl, ⟨_, _, rfl, rfl, rfl⟩⟩⟩⟩) rfl⟩
     ·
      rintro ⟨⟨r_Events2, c_2⟩, b11⟩ rfl
      try dsimp only at hm2
      exact ⟨((r_Events2, c_2), b11), Option.some.inj hm2, Keeps.mk (ks := [0, 1, 2, 3]) rfl ⟨rfl, rfl, rfl, rfl, trivial⟩ (⟨_, _, rfl, rfl, ⟨_, _, rfl, rfl, ⟨_, _, rfl, rfl, ⟨_, _, rfl, rfl, rfl⟩⟩⟩⟩) rfl⟩
    ·
     replace hm2 := cond_f hc1 hm2
     refine V.skip ?_
     exact ⟨((r_Events0, y3.2), b6), Option.some.inj hm2, Keeps.mk (ks := [1, 0, 2, 3]) rfl ⟨rfl, rfl, rfl, rfl, trivial⟩ (⟨_, _, rfl, rfl, ⟨_, _, rfl, rfl, ⟨_, _, rfl, rfl, ⟨_, _, rfl, rfl, rfl⟩⟩⟩⟩) rfl⟩
   ·
    rintro ⟨⟨r_Events1, c_1⟩, b7⟩ rfl
    try dsimp only at hm1
    refine V.region ?_
    refine VO.cons rfl (V1.move rfl rfl rfl (ltb rfl) ?_)
    refine VO.cons rfl (V1.int rfl rfl rfl rfl rfl (ltb rfl) ?_)
    refine VO.cons rfl (V1.assign rfl rfl rfl (ltb rfl) ?_)
    refine VO.nil ?_
    exact ⟨(m0, ((IntKind.i64.wrap (k + (1 : Int))), r_Events1, c_1), b7), hl1 _ (Option.some.inj hm1).symm, Nat.lt_succ_self _, Keeps.mk (ks := [0, 1, 2, 3]) rfl ⟨rfl, rfl, rfl, rfl, trivial⟩ (⟨_, _, rfl, rfl, ⟨_, _, rfl, rfl, ⟨_, _, rfl, rfl, ⟨_, _, rfl, rfl, rfl⟩⟩⟩⟩) rfl⟩
  ·
   replace hm1 := cond_f hc0 hm1
   refine V.exit ?_
   obtain rfl := hr1 _ (Option.some.inj hm1).symm
   exact ⟨((r_Events0, c_0), b6), rfl, Keeps.mk (ks := [0, 1, 2, 3]) rfl ⟨rfl, rfl, rfl, trivial⟩ (⟨_, _, rfl, rfl, ⟨_, _, rfl, rfl, ⟨_, _, rfl, rfl, ⟨_, _, rfl, rfl, rfl⟩⟩⟩⟩) rfl⟩
 ·
  rintro ⟨⟨r_Events, c_⟩, b5⟩ rfl
  try dsimp only at hm0
  refine V.seq ?_
  refine V.seq ?_
  replace hm0 := bindO hm0; rcases hm0 with ⟨y5, hh5, hm0⟩
  refine V.region ?_
  refine VO.cons rfl (V1.move rfl rfl rfl (ltb rfl) ?_)
  refine VO.cons rfl (V1.callM 1 (rn + ρ0 + 1) [] [.ref bp 3 0 0, .int .i64 (48 : Int)] (p := (bp, ⟨3, [encCur ρ0 c_]⟩)) rfl rfl rfl cok_84 rfl rfl ⟨_, _, rfl, .same _, ⟨_, _, rfl, .same _, rfl⟩⟩ bwNil (ok_spec_l1Cur_pick hh5) rfl (.inl rfl) (ltb rfl) ?_)
  rintro _ _ ⟨rfl, rfl⟩
  refine VO.nil ?_
  replace hm0 := bindO hm0; rcases hm0 with ⟨j2, hm1, hm0⟩
  refine V.cutT (D := (Int × Int × List Event × Cur) × (Nat)) (fun ⟨⟨r_Series, r_Made, r_Events3, c_3⟩, b47⟩ => ⟨64, [(4, .ref b0 4 0 0), (5, .ref b4 4 0 0)], [(b47, ⟨2, List.map encEvent r_Events3⟩), (bp, ⟨3, [encCur ρ0 c_3]⟩), (b4, ⟨4, [.agg [.int .i64 id_, .int .i64 r_Series, .int .i64 r_Made, .sref b47 2 0 (List.length r_Events3)]]⟩), (b0, ⟨4, [.agg [.int .i64 (0 : Int), .int .i64 (0 : Int), .int .i64 (0 : Int), .nils]]⟩)]⟩) (fun ⟨⟨r_Series, r_Made, r_Events3, c_3⟩, b47⟩ => ((r_Series, r_Made, r_Events3, c_3) = j2)) ?_ ?_
  ·
   refine V.block ?_
   refine V.seq ?_
   refine V.region ?_
   refine VO.cons rfl (V1.int rfl rfl rfl rfl rfl (ltb rfl) ?_)
   refine VO.cons rfl (V1.assign rfl rfl rfl (ltb rfl) ?_)
   refine VO.nil ?_
   refine V.cond rfl (fun hc2 => ?_) (fun hc2 => ?_)
   ·
    replace hm1 := cond_t hc2 hm1
    replace hm1 := bindO hm1; rcases hm1 with ⟨y6, hh6, hm1⟩
    refine V.region ?_
    refine VO.cons rfl (V1.move rfl rfl rfl (ltb rfl) ?_)
    refine VO.cons rfl (V1.buildSliceT (f := encInt) ([(0 : Int), (100 : Int)] : List Int) rfl rfl esz_69 zk_3 rfl rfl rfl rfl rfl rfl rfl (ltb rfl) ?_)
    intro b48
    refine VO.cons rfl (V1.callM 1 (rn + ρ0 + 1) [b48] [.ref bp 3 0 0, .vl (rn + ρ0 + 1) 1 (List.map encInt ([(0 : Int), (100 : Int)] : List Int))] (p := (bp, ⟨3, [encCur ρ0 y5.2]⟩)) rfl rfl rfl cok_50 rfl rfl ⟨_, _, rfl, .same _, ⟨_, _, rfl, Lend.srMap 0 rfl (fun _ => rfl) (.head _), rfl⟩⟩ (bwCons (k := 0) rfl bwNil) (ok_spec_l1Cur_among hh6) rfl (.inr ⟨(by first | omega | (dsimp only; omega)), by rintro _ _ ⟨rfl, rfl⟩; exact ⟨by simp [PV.no, PV.noL, optS_no, noL_iff, nbeq] <;> omega, by intro b ob h; first | exact optH_no (noL_map (fun _ => by simp [PV.no, PV.noL, noL_iff, nbeq]) _) b ob h | (simp at h; obtain ⟨rfl, rfl⟩ := h; exact noL_map (fun _ => by simp [PV.no, PV.noL, noL_iff, nbeq]) _) | (simp at h; obtain ⟨rfl, rfl⟩ := h; simp [PV.no, PV.noL, optS_no, noL_iff, nbeq] <;> omega)⟩⟩) (ltb rfl) ?_)
    rintro _ _ ⟨rfl, rfl⟩
    refine VO.cons rfl (V1.fieldRef rfl rfl fo_44_1 rfl (ltb rfl) ?_)
    refine VO.cons rfl (V1.storeRef (k := 3) rfl rfl tyk_3 rfl rfl rfl rfl rfl rfl rfl rfl rfl ?_)
    refine VO.nil ?_
    exact ⟨((y6.1, y1.1, r_Events, y6.2), b5), Option.some.inj hm1, Keeps.mk (ks := [2, 0, 3, 4]) rfl ⟨rfl, rfl, trivial⟩ (⟨_, _, rfl, rfl, ⟨_, _, rfl, rfl, ⟨_, _, rfl, rfl, ⟨_, _, rfl, rfl, rfl⟩⟩⟩⟩) rfl⟩
   ·
    replace hm1 := cond_f hc2 hm1
    refine V.seq ?_
    refine V.region ?_
    refine VO.cons rfl (V1.int rfl rfl rfl rfl rfl (ltb rfl) ?_)
    refine VO.cons rfl (V1.assign rfl rfl rfl (ltb rfl) ?_)
    refine VO.nil ?_
    refine V.keep 64 [0, 4, 5, 36, 43] [0, 1, 2, 3] (E0 := [(0, .ref bp 3 0 0), (4, .ref b0 4 0 0), (5, .ref b4 4 0 0), (36, .int .i64 y5.1), (43, .bool (y5.1 == (1 : Int)))]) (H0 := [(bp, ⟨3, [encCur ρ0 y5.2]⟩), (b5, ⟨2, List.map encEvent r_Events⟩), (b4, ⟨4, [.agg [.int .i64 id_, .int .i64 y0.1, .int .i64 y1.1, .sref b5 2 0 (List.length r_Events)]]⟩), (b0, ⟨4, [.agg [.int .i64 (0 : Int), .int .i64 (0 : Int), .int .i64 (0 : Int), .nils]]⟩)]) rfl (⟨_, _, rfl, rfl, ⟨_, _, rfl, rfl, ⟨_, _, rfl, rfl, ⟨_, _, rfl, rfl, ⟨_, _, rfl, rfl, rfl⟩⟩⟩⟩⟩) (⟨_, _, rfl, rfl, ⟨_, _, rfl, rfl, ⟨_, _, rfl, rfl, ⟨_, _, rfl, rfl, rfl⟩⟩⟩⟩) rfl ?_
    refine V.cond rfl (fun hc3 => ?_) (fun hc3 => ?_)
    ·
     replace hm1 := cond_t hc3 hm1
     replace hm1 := bindO hm1; rcases hm1 with ⟨y7, hh7, hm1⟩
     refine V.region ?_
     refine VO.cons rfl (V1.move rfl rfl rfl (ltb rfl) ?_)
     refine VO.cons rfl (V1.buildSliceT (f := encInt) ([(-1 : Int), (20001 : Int), (19999 : Int)] : List Int) rfl rfl esz_69 zk_3 rfl rfl rfl rfl rfl rfl rfl (ltb rfl) ?_)
     intro b49
     refine VO.cons rfl (V1.callM 1 (rn + ρ0 + 1) [b49] [.ref bp 3 0 0, .vl (rn + ρ0 + 1) 1 (List.map encInt ([(-1 : Int), (20001 : Int), (19999 : Int)] : List Int))] (p := (bp, ⟨3, [encCur ρ0 y5.2]⟩)) rfl rfl rfl cok_50 rfl rfl ⟨_, _, rfl, .same _, ⟨_, _, rfl, Lend.srMap 0 rfl (fun _ => rfl) (.head _), rfl⟩⟩ (bwCons (k := 0) rfl bwNil) (ok_spec_l1Cur_among hh7) rfl (.inr ⟨(by first | omega | (dsimp only; omega)), by rintro _ _ ⟨rfl, rfl⟩; exact ⟨by simp [PV.no, PV.noL, optS_no, noL_iff, nbeq] <;> omega, by intro b ob h; first | exact optH_no (noL_map (fun _ => by simp [PV.no, PV.noL, noL_iff, nbeq]) _) b ob h | (simp at h; obtain ⟨rfl, rfl⟩ := h; exact noL_map (fun _ => by simp [PV.no, PV.noL, noL_iff, nbeq]) _) | (simp at h; obtain ⟨rfl, rfl⟩ := h; simp [PV.no, PV.noL, optS_no, noL_iff, nbeq] <;> omega)⟩⟩) (ltb rfl) ?_)
     rintro _ _ ⟨rfl, rfl⟩
     refine VO.cons rfl (V1.fieldRef rfl rfl fo_44_2 rfl (ltb rfl) ?_)
     refine VO.cons rfl (V1.storeRef (k := 3) rfl rfl tyk_3 rfl rfl rfl rfl rfl rfl rfl rfl rfl ?_)
     refine VO.nil ?_
     exact ⟨((y0.1, y7.1, r_Events, y7.2), b5), Option.some.inj hm1, Keeps.mk (ks := [2, 0, 3, 4]) rfl ⟨rfl, rfl, trivial⟩ (⟨_, _, rfl, rfl, ⟨_, _, rfl, rfl, ⟨_, _, rfl, rfl, ⟨_, _, rfl, rfl, rfl⟩⟩⟩⟩) rfl⟩
    ·
     replace hm1 := cond_f hc3 hm1
     refine V.seq ?_
     refine V.region ?_
     refine VO.cons rfl (V1.int rfl rfl rfl rfl rfl (ltb rfl) ?_)
     refine VO.cons rfl (V1.assign rfl rfl rfl (ltb rfl) ?_)
     refine VO.nil ?_
     refine V.cond rfl (fun hc4 => ?_) (fun hc4 => ?_)
     ·
      replace hm1 := cond_t hc4 hm1
      replace hm1 := bindO hm1; rcases hm1 with ⟨y8, hh8, hm1⟩
      replace hm1 := bindO hm1; rcases hm1 with ⟨y9, hh9, hm1⟩
      replace hm1 := asrt_some hm1; rcases hm1 with ⟨hh10, hm1⟩
      replace hm1 := bindO hm1; rcases hm1 with ⟨j3, hm2, hm1⟩
      refine V.cutT (D := (List Event × Cur) × (Nat)) (fun ⟨⟨r_Events4, o⟩, b54⟩ => ⟨64, [(4, .ref b0 4 0 0), (5, .ref b4 4 0 0)], [(b54, ⟨2, List.map encEvent r_Events4⟩), (bp, ⟨3, [encCur ρ0 o]⟩), (b4, ⟨4, [.agg [.int .i64 id_, .int .i64 y0.1, .int .i64 y1.1, .sref b54 2 0 (List.length r_Events4)]]⟩), (b0, ⟨4, [.agg [.int .i64 (0 : Int), .int .i64 (0 : Int), .int .i64 (0 : Int), .nils]]⟩)]⟩) (fun ⟨⟨r_Events4, o⟩, b54⟩ => ((r_Events4, o) = j3)) ?_ ?_
      ·
       refine V.regionS [] 64 10 [⟨[(5, none)], false⟩, ⟨[(51, some 0)], true⟩, ⟨[(0, none)], false⟩, ⟨[], true⟩, ⟨[(53, some 2), (54, some 3)], true⟩, ⟨[(0, none)], false⟩, ⟨[], true⟩, ⟨[(56, some 5), (57, some 6)], true⟩, ⟨[(55, some 4), (58, some 7)], false⟩, ⟨[(59, some 8)], true⟩] [(4, none), (5, none), (52, some 1), (60, some 9)] 6 (⟨_, rfl, ⟨_, rfl, ⟨_, rfl, ⟨_, rfl, ⟨_, rfl, ⟨_, rfl, ⟨_, rfl, ⟨_, rfl, ⟨_, rfl, ⟨_, rfl, ⟨rfl, rfl⟩⟩⟩⟩⟩⟩⟩⟩⟩⟩⟩) mixed_orders rfl (by decide +kernel) ?_
       refine WalkP.step (p := ?pv1543) 0 rfl rfl rfl rfl rfl (⟨_, _, rfl, rfl, rfl⟩) ?hv1543 ?rest1543
       case hv1543 =>
        intro E1 H1 hI1
        refine (V1.fieldRef rfl rfl fo_44_3 rfl (ltb rfl) ?_)
        exact rfl
       refine WalkP.step (p := ?pv1544) 2 rfl rfl rfl rfl rfl (⟨_, _, rfl, rfl, rfl⟩) ?hv1544 ?rest1544
       case hv1544 =>
        intro E1 H1 hI1
        refine (V1.move rfl rfl rfl (ltb rfl) ?_)
        exact rfl
       refine WalkP.step (p := ?pv1545) 5 rfl rfl rfl rfl rfl (⟨_, _, rfl, rfl, rfl⟩) ?hv1545 ?rest1545
       case hv1545 =>
        intro E1 H1 hI1
        refine (V1.move rfl rfl rfl (ltb rfl) ?_)
        exact rfl
       refine WalkP.nil ?_
       refine NodeS.branch [1, 3, 6] inNil rfl rfl rfl ⟨?_, ?_, ?_, trivial⟩
       ·
        refine ⟨_, _, _, _, rfl, rfl, rfl, (⟨_, _, rfl, rfl, rfl⟩), fun E1 => ?_⟩
        refine (V1.loadRef (k := 2) rfl rfl tyk_42 rfl rfl rfl rfl rfl (ltb rfl) ?_)
        refine ⟨_, _, rfl, ?_⟩
        refine WalkP.nil ?_
        refine NodeS.branch [3, 6] inNil rfl rfl rfl ⟨?_, ?_, trivial⟩
        ·
         refine ⟨_, _, _, _, rfl, rfl, rfl, (rfl), fun E1 => ?_⟩
         refine (V1.buildSliceT (f := encInt) ([(1 : Int), (9 : Int), (10 : Int)] : List Int) rfl rfl esz_69 zk_3 rfl rfl rfl rfl rfl rfl rfl (ltb rfl) ?_)
         intro b55
         refine ⟨_, _, rfl, ?_⟩
         refine WalkP.nil ?_
         refine NodeS.branch [4, 6] inNil rfl rfl rfl ⟨?_, ?_, trivial⟩
         ·
          refine ⟨_, _, _, _, rfl, rfl, rfl, (⟨_, _, rfl, rfl, ⟨_, _, rfl, rfl, rfl⟩⟩), fun E1 => ?_⟩
          refine (V1.callM 1 (rn + ρ0 + 1) [b55] [.ref bp 3 0 0, .vl (rn + ρ0 + 1) 1 (List.map encInt ([(1 : Int), (9 : Int), (10 : Int)] : List Int))] (p := (bp, ⟨3, [encCur ρ0 y5.2]⟩)) rfl rfl rfl cok_50 rfl rfl ⟨_, _, rfl, .same _, ⟨_, _, rfl, Lend.srMap 0 rfl (fun _ => rfl) (.head _), rfl⟩⟩ (bwCons (k := 0) rfl bwNil) (ok_spec_l1Cur_among hh8) rfl (.inr ⟨(by first | omega | (dsimp only; omega)), by rintro _ _ ⟨rfl, rfl⟩; exact ⟨by simp [PV.no, PV.noL, optS_no, noL_iff, nbeq] <;> omega, by intro b ob h; first | exact optH_no (noL_map (fun _ => by simp [PV.no, PV.noL, noL_iff, nbeq]) _) b ob h | (simp at h; obtain ⟨rfl, rfl⟩ := h; exact noL_map (fun _ => by simp [PV.no, PV.noL, noL_iff, nbeq]) _) | (simp at h; obtain ⟨rfl, rfl⟩ := h; simp [PV.no, PV.noL, optS_no, noL_iff, nbeq] <;> omega)⟩⟩) (ltb rfl) ?_)
          rintro _ _ ⟨rfl, rfl⟩
          refine ⟨_, _, rfl, ?_⟩
          refine WalkP.nil ?_
          refine NodeS.branch [6] inNil rfl rfl rfl ⟨?_, trivial⟩
          ·
           refine ⟨_, _, _, _, rfl, rfl, rfl, (rfl), fun E1 => ?_⟩
           refine (V1.buildSliceT (f := encInt) ([(0 : Int), (20000 : Int)] : List Int) rfl rfl esz_69 zk_3 rfl rfl rfl rfl rfl rfl rfl (ltb rfl) ?_)
           intro b56
           refine ⟨_, _, rfl, ?_⟩
           refine WalkP.nil ?_
           refine NodeS.branch [7] inNil rfl rfl rfl ⟨?_, trivial⟩
           ·
            refine ⟨_, _, _, _, rfl, rfl, rfl, (⟨_, _, rfl, rfl, ⟨_, _, rfl, rfl, rfl⟩⟩), fun E1 => ?_⟩
            refine (V1.callM 1 (rn + ρ0 + 1) [b56] [.ref bp 3 0 0, .vl (rn + ρ0 + 1) 1 (List.map encInt ([(0 : Int), (20000 : Int)] : List Int))] (p := (bp, ⟨3, [encCur ρ0 y8.2]⟩)) rfl rfl rfl cok_50 rfl rfl ⟨_, _, rfl, .same _, ⟨_, _, rfl, Lend.srMap 0 rfl (fun _ => rfl) (.head _), rfl⟩⟩ (bwCons (k := 0) rfl bwNil) (ok_spec_l1Cur_among hh9) rfl (.inr ⟨(by first | omega | (dsimp only; omega)), by rintro _ _ ⟨rfl, rfl⟩; exact ⟨by simp [PV.no, PV.noL, optS_no, noL_iff, nbeq] <;> omega, by intro b ob h; first | exact optH_no (noL_map (fun _ => by simp [PV.no, PV.noL, noL_iff, nbeq]) _) b ob h | (simp at h; obtain ⟨rfl, rfl⟩ := h; exact noL_map (fun _ => by simp [PV.no, PV.noL, noL_iff, nbeq]) _) | (simp at h; obtain ⟨rfl, rfl⟩ := h; simp [PV.no, PV.noL, optS_no, noL_iff, nbeq] <;> omega)⟩⟩) (ltb rfl) ?_)
            rintro _ _ ⟨rfl, rfl⟩
            refine ⟨_, _, rfl, ?_⟩
            refine WalkP.step (p := ?pv1546) 8 rfl rfl rfl rfl rfl (⟨_, _, rfl, rfl, ⟨_, _, rfl, rfl, rfl⟩⟩) ?hv1546 ?rest1546
            case hv1546 =>
             intro E1 H1 hI1
             refine (V1.build rfl rfl zk_46 pl_46 rfl rfl (ltb rfl) ?_)
             exact rfl
            refine WalkP.nil ?_
            refine NodeS.branch [9] inNil rfl rfl rfl ⟨?_, trivial⟩
            ·
             refine ⟨_, _, _, _, rfl, rfl, rfl, (⟨_, _, rfl, rfl, rfl⟩), fun E1 => ?_⟩
             refine (V1.buildSliceT (f := encEvent) ([(⟨y8.1, y9.1⟩ : Event)] : List Event) rfl rfl esz_42 zk_46 rfl rfl rfl rfl rfl rfl rfl (ltb rfl) ?_)
             intro b57
             refine ⟨_, _, rfl, ?_⟩
             refine WalkP.nil ?_
             refine NodeS.fin inNil rfl rfl rfl (⟨_, _, rfl, rfl, ⟨_, _, rfl, rfl, ⟨_, _, rfl, rfl, ⟨_, _, rfl, rfl, rfl⟩⟩⟩⟩) ?_
             refine VO.cons rfl (V1.appendMap (k := 4) (f := encEvent) (l := r_Events) (m := ([(⟨y8.1, y9.1⟩ : Event)] : List Event)) rfl rfl rfl rfl rfl esz_42 eby_42 zk_46 rfl rfl rfl (SrcOf.srMap (k := 0) rfl isl_42) hh10 (ltb rfl) ?_)
             intro b58
             refine VO.cons rfl (V1.fieldRef rfl rfl fo_44_3 rfl (ltb rfl) ?_)
             refine VO.cons rfl (V1.storeRef (k := 5) rfl rfl tyk_42 rfl rfl rfl rfl rfl rfl rfl rfl rfl ?_)
             refine VO.nil ?_
             exact ⟨(((r_Events ++ ([(⟨y8.1, y9.1⟩ : Event)] : List Event)), y9.2), b58), Option.some.inj hm2, Keeps.mk (ks := [0, 2, 5, 6]) rfl ⟨rfl, rfl, trivial⟩ (⟨_, _, rfl, rfl, ⟨_, _, rfl, rfl, ⟨_, _, rfl, rfl, ⟨_, _, rfl, rfl, rfl⟩⟩⟩⟩) rfl⟩
         ·
          refine ⟨_, _, _, _, rfl, rfl, rfl, (rfl), fun E1 => ?_⟩
          refine (V1.buildSliceT (f := encInt) ([(0 : Int), (20000 : Int)] : List Int) rfl rfl esz_69 zk_3 rfl rfl rfl rfl rfl rfl rfl (ltb rfl) ?_)
          intro b59
          refine ⟨_, _, rfl, ?_⟩
          refine WalkP.nil ?_
          refine NodeS.branch [4] inNil rfl rfl rfl ⟨?_, trivial⟩
          ·
           refine ⟨_, _, _, _, rfl, rfl, rfl, (⟨_, _, rfl, rfl, ⟨_, _, rfl, rfl, rfl⟩⟩), fun E1 => ?_⟩
           refine (V1.callM 2 (rn + ρ0 + 1) [b55] [.ref bp 3 0 0, .vl (rn + ρ0 + 1) 1 (List.map encInt ([(1 : Int), (9 : Int), (10 : Int)] : List Int))] (p := (bp, ⟨3, [encCur ρ0 y5.2]⟩)) rfl rfl rfl cok_50 rfl rfl ⟨_, _, rfl, .same _, ⟨_, _, rfl, Lend.srMap 1 rfl (fun _ => rfl) (.head _), rfl⟩⟩ (bwCons (k := 1) rfl bwNil) (ok_spec_l1Cur_among hh8) rfl (.inr ⟨(by first | omega | (dsimp only; omega)), by rintro _ _ ⟨rfl, rfl⟩; exact ⟨by simp [PV.no, PV.noL, optS_no, noL_iff, nbeq] <;> omega, by intro b ob h; first | exact optH_no (noL_map (fun _ => by simp [PV.no, PV.noL, noL_iff, nbeq]) _) b ob h | (simp at h; obtain ⟨rfl, rfl⟩ := h; exact noL_map (fun _ => by simp [PV.no, PV.noL, noL_iff, nbeq]) _) | (simp at h; obtain ⟨rfl, rfl⟩ := h; simp [PV.no, PV.noL, optS_no, noL_iff, nbeq] <;> omega)⟩⟩) (ltb rfl) ?_)
           rintro _ _ ⟨rfl, rfl⟩
           refine ⟨_, _, rfl, ?_⟩
           refine WalkP.nil ?_
           refine NodeS.branch [7] inNil rfl rfl rfl ⟨?_, trivial⟩
           ·
            refine ⟨_, _, _, _, rfl, rfl, rfl, (⟨_, _, rfl, rfl, ⟨_, _, rfl, rfl, rfl⟩⟩), fun E1 => ?_⟩
            refine (V1.callM 0 (rn + ρ0 + 1) [b59] [.ref bp 3 0 0, .vl (rn + ρ0 + 1) 1 (List.map encInt ([(0 : Int), (20000 : Int)] : List Int))] (p := (bp, ⟨3, [encCur ρ0 y8.2]⟩)) rfl rfl rfl cok_50 rfl rfl ⟨_, _, rfl, .same _, ⟨_, _, rfl, Lend.srMap 1 rfl (fun _ => rfl) (.head _), rfl⟩⟩ (bwCons (k := 0) rfl bwNil) (ok_spec_l1Cur_among hh9) rfl (.inr ⟨(by first | omega | (dsimp only; omega)), by rintro _ _ ⟨rfl, rfl⟩; exact ⟨by simp [PV.no, PV.noL, optS_no, noL_iff, nbeq] <;> omega, by intro b ob h; first | exact optH_no (noL_map (fun _ => by simp [PV.no, PV.noL, noL_iff, nbeq]) _) b ob h | (simp at h; obtain ⟨rfl, rfl⟩ := h; exact noL_map (fun _ => by simp [PV.no, PV.noL, noL_iff, nbeq]) _) | (simp at h; obtain ⟨rfl, rfl⟩ := h; simp [PV.no, PV.noL, optS_no, noL_iff, nbeq] <;> omega)⟩⟩) (ltb rfl) ?_)
            rintro _ _ ⟨rfl, rfl⟩
            refine ⟨_, _, rfl, ?_⟩
            refine WalkP.step (p := ?pv1547) 8 rfl rfl rfl rfl rfl (⟨_, _, rfl, rfl, ⟨_, _, rfl, rfl, rfl⟩⟩) ?hv1547 ?rest1547
            case hv1547 =>
             intro E1 H1 hI1
             refine (V1.build rfl rfl zk_46 pl_46 rfl rfl (ltb rfl) ?_)
             exact rfl
            refine WalkP.nil ?_
            refine NodeS.branch [9] inNil rfl rfl rfl ⟨?_, trivial⟩
            ·
             refine ⟨_, _, _, _, rfl, rfl, rfl, (⟨_, _, rfl, rfl, rfl⟩), fun E1 => ?_⟩
             refine (V1.buildSliceT (f := encEvent) ([(⟨y8.1, y9.1⟩ : Event)] : List Event) rfl rfl esz_42 zk_46 rfl rfl rfl rfl rfl rfl rfl (ltb rfl) ?_)
             intro b60
             refine ⟨_, _, rfl, ?_⟩
             refine WalkP.nil ?_
             refine NodeS.fin inNil rfl rfl rfl (⟨_, _, rfl, rfl, ⟨_, _, rfl, rfl, ⟨_, _, rfl, rfl, ⟨_, _, rfl, rfl, rfl⟩⟩⟩⟩) ?_
             refine VO.cons rfl (V1.appendMap (k := 4) (f := encEvent) (l := r_Events) (m := ([(⟨y8.1, y9.1⟩ : Event)] : List Event)) rfl rfl rfl rfl rfl esz_42 eby_42 zk_46 rfl rfl rfl (SrcOf.srMap (k := 0) rfl isl_42) hh10 (ltb rfl) ?_)
             intro b61
             refine VO.cons rfl (V1.fieldRef rfl rfl fo_44_3 rfl (ltb rfl) ?_)
             refine VO.cons rfl (V1.storeRef (k := 5) rfl rfl tyk_42 rfl rfl rfl rfl rfl rfl rfl rfl rfl ?_)
             refine VO.nil ?_
             exact ⟨(((r_Events ++ ([(⟨y8.1, y9.1⟩ : Event)] : List Event)), y9.2), b61), Option.some.inj hm2, Keeps.mk (ks := [0, 2, 5, 6]) rfl ⟨rfl, rfl, trivial⟩ (⟨_, _, rfl, rfl, ⟨_, _, rfl, rfl, ⟨_, _, rfl, rfl, ⟨_, _, rfl, rfl, rfl⟩⟩⟩⟩) rfl⟩
        ·
         refine ⟨_, _, _, _, rfl, rfl, rfl, (rfl), fun E1 => ?_⟩
         refine (V1.buildSliceT (f := encInt) ([(0 : Int), (20000 : Int)] : List Int) rfl rfl esz_69 zk_3 rfl rfl rfl rfl rfl rfl rfl (ltb rfl) ?_)
         intro b62
         refine ⟨_, _, rfl, ?_⟩
         refine WalkP.nil ?_
         refine NodeS.branch [3] inNil rfl rfl rfl ⟨?_, trivial⟩
         ·
          refine ⟨_, _, _, _, rfl, rfl, rfl, (rfl), fun E1 => ?_⟩
          refine (V1.buildSliceT (f := encInt) ([(1 : Int), (9 : Int), (10 : Int)] : List Int) rfl rfl esz_69 zk_3 rfl rfl rfl rfl rfl rfl rfl (ltb rfl) ?_)
          intro b63
          refine ⟨_, _, rfl, ?_⟩
          refine WalkP.nil ?_
          refine NodeS.branch [4] inNil rfl rfl rfl ⟨?_, trivial⟩
          ·
           refine ⟨_, _, _, _, rfl, rfl, rfl, (⟨_, _, rfl, rfl, ⟨_, _, rfl, rfl, rfl⟩⟩), fun E1 => ?_⟩
           refine (V1.callM 2 (rn + ρ0 + 1) [b63] [.ref bp 3 0 0, .vl (rn + ρ0 + 1) 1 (List.map encInt ([(1 : Int), (9 : Int), (10 : Int)] : List Int))] (p := (bp, ⟨3, [encCur ρ0 y5.2]⟩)) rfl rfl rfl cok_50 rfl rfl ⟨_, _, rfl, .same _, ⟨_, _, rfl, Lend.srMap 0 rfl (fun _ => rfl) (.head _), rfl⟩⟩ (bwCons (k := 0) rfl bwNil) (ok_spec_l1Cur_among hh8) rfl (.inr ⟨(by first | omega | (dsimp only; omega)), by rintro _ _ ⟨rfl, rfl⟩; exact ⟨by simp [PV.no, PV.noL, optS_no, noL_iff, nbeq] <;> omega, by intro b ob h; first | exact optH_no (noL_map (fun _ => by simp [PV.no, PV.noL, noL_iff, nbeq]) _) b ob h | (simp at h; obtain ⟨rfl, rfl⟩ := h; exact noL_map (fun _ => by simp [PV.no, PV.noL, noL_iff, nbeq]) _) | (simp at h; obtain ⟨rfl, rfl⟩ := h; simp [PV.no, PV.noL, optS_no, noL_iff, nbeq] <;> omega)⟩⟩) (ltb rfl) ?_)
           rintro _ _ ⟨rfl, rfl⟩
           refine ⟨_, _, rfl, ?_⟩
           refine WalkP.nil ?_
           refine NodeS.branch [7] inNil rfl rfl rfl ⟨?_, trivial⟩
           ·
            refine ⟨_, _, _, _, rfl, rfl, rfl, (⟨_, _, rfl, rfl, ⟨_, _, rfl, rfl, rfl⟩⟩), fun E1 => ?_⟩
            refine (V1.callM 0 (rn + ρ0 + 1) [b62] [.ref bp 3 0 0, .vl (rn + ρ0 + 1) 1 (List.map encInt ([(0 : Int), (20000 : Int)] : List Int))] (p := (bp, ⟨3, [encCur ρ0 y8.2]⟩)) rfl rfl rfl cok_50 rfl rfl ⟨_, _, rfl, .same _, ⟨_, _, rfl, Lend.srMap 2 rfl (fun _ => rfl) (.head _), rfl⟩⟩ (bwCons (k := 1) rfl bwNil) (ok_spec_l1Cur_among hh9) rfl (.inr ⟨(by first | omega | (dsimp only; omega)), by rintro _ _ ⟨rfl, rfl⟩; exact ⟨by simp [PV.no, PV.noL, optS_no, noL_iff, nbeq] <;> omega, by intro b ob h; first | exact optH_no (noL_map (fun _ => by simp [PV.no, PV.noL, noL_iff, nbeq]) _) b ob h | (simp at h; obtain ⟨rfl, rfl⟩ := h; exact noL_map (fun _ => by simp [PV.no, PV.noL, noL_iff, nbeq]) _) | (simp at h; obtain ⟨rfl, rfl⟩ := h; simp [PV.no, PV.noL, optS_no, noL_iff, nbeq] <;> omega)⟩⟩) (ltb rfl) ?_)
            rintro _ _ ⟨rfl, rfl⟩
            refine ⟨_, _, rfl, ?_⟩
            refine WalkP.step (p := ?pv1548) 8 rfl rfl rfl rfl rfl (⟨_, _, rfl, rfl, ⟨_, _, rfl, rfl, rfl⟩⟩) ?hv1548 ?rest1548
            case hv1548 =>
             intro E1 H1 hI1
             refine (V1.build rfl rfl zk_46 pl_46 rfl rfl (ltb rfl) ?_)
             exact rfl
            refine WalkP.nil ?_
            refine NodeS.branch [9] inNil rfl rfl rfl ⟨?_, trivial⟩
            ·
             refine ⟨_, _, _, _, rfl, rfl, rfl, (⟨_, _, rfl, rfl, rfl⟩), fun E1 => ?_⟩
             refine (V1.buildSliceT (f := encEvent) ([(⟨y8.1, y9.1⟩ : Event)] : List Event) rfl rfl esz_42 zk_46 rfl rfl rfl rfl rfl rfl rfl (ltb rfl) ?_)
             intro b64
             refine ⟨_, _, rfl, ?_⟩
             refine WalkP.nil ?_
             refine NodeS.fin inNil rfl rfl rfl (⟨_, _, rfl, rfl, ⟨_, _, rfl, rfl, ⟨_, _, rfl, rfl, ⟨_, _, rfl, rfl, rfl⟩⟩⟩⟩) ?_
             refine VO.cons rfl (V1.appendMap (k := 4) (f := encEvent) (l := r_Events) (m := ([(⟨y8.1, y9.1⟩ : Event)] : List Event)) rfl rfl rfl rfl rfl esz_42 eby_42 zk_46 rfl rfl rfl (SrcOf.srMap (k := 0) rfl isl_42) hh10 (ltb rfl) ?_)
             intro b65
             refine VO.cons rfl (V1.fieldRef rfl rfl fo_44_3 rfl (ltb rfl) ?_)
             refine VO.cons rfl (V1.storeRef (k := 5) rfl rfl tyk_42 rfl rfl rfl rfl rfl rfl rfl rfl rfl ?_)
             refine VO.nil ?_
             exact ⟨(((r_Events ++ ([(⟨y8.1, y9.1⟩ : Event)] : List Event)), y9.2), b65), Option.some.inj hm2, Keeps.mk (ks := [0, 2, 5, 6]) rfl ⟨rfl, rfl, trivial⟩ (⟨_, _, rfl, rfl, ⟨_, _, rfl, rfl, ⟨_, _, rfl, rfl, ⟨_, _, rfl, rfl, rfl⟩⟩⟩⟩) rfl⟩
       ·
        refine ⟨_, _, _, _, rfl, rfl, rfl, (rfl), fun E1 => ?_⟩
        refine (V1.buildSliceT (f := encInt) ([(1 : Int), (9 : Int), (10 : Int)] : List Int) rfl rfl esz_69 zk_3 rfl rfl rfl rfl rfl rfl rfl (ltb rfl) ?_)
        intro b66
        refine ⟨_, _, rfl, ?_⟩
        refine WalkP.nil ?_
        refine NodeS.branch [1, 4, 6] inNil rfl rfl rfl ⟨?_, ?_, ?_, trivial⟩
        ·
         refine ⟨_, _, _, _, rfl, rfl, rfl, (⟨_, _, rfl, rfl, rfl⟩), fun E1 => ?_⟩
         refine (V1.loadRef (k := 3) rfl rfl tyk_42 rfl rfl rfl rfl rfl (ltb rfl) ?_)
         refine ⟨_, _, rfl, ?_⟩
         refine WalkP.nil ?_
         refine NodeS.branch [4, 6] inNil rfl rfl rfl ⟨?_, ?_, trivial⟩
         ·
          refine ⟨_, _, _, _, rfl, rfl, rfl, (⟨_, _, rfl, rfl, ⟨_, _, rfl, rfl, rfl⟩⟩), fun E1 => ?_⟩
          refine (V1.callM 1 (rn + ρ0 + 1) [b66] [.ref bp 3 0 0, .vl (rn + ρ0 + 1) 1 (List.map encInt ([(1 : Int), (9 : Int), (10 : Int)] : List Int))] (p := (bp, ⟨3, [encCur ρ0 y5.2]⟩)) rfl rfl rfl cok_50 rfl rfl ⟨_, _, rfl, .same _, ⟨_, _, rfl, Lend.srMap 0 rfl (fun _ => rfl) (.head _), rfl⟩⟩ (bwCons (k := 0) rfl bwNil) (ok_spec_l1Cur_among hh8) rfl (.inr ⟨(by first | omega | (dsimp only; omega)), by rintro _ _ ⟨rfl, rfl⟩; exact ⟨by simp [PV.no, PV.noL, optS_no, noL_iff, nbeq] <;> omega, by intro b ob h; first | exact optH_no (noL_map (fun _ => by simp [PV.no, PV.noL, noL_iff, nbeq]) _) b ob h | (simp at h; obtain ⟨rfl, rfl⟩ := h; exact noL_map (fun _ => by simp [PV.no, PV.noL, noL_iff, nbeq]) _) | (simp at h; obtain ⟨rfl, rfl⟩ := h; simp [PV.no, PV.noL, optS_no, noL_iff, nbeq] <;> omega)⟩⟩) (ltb rfl) ?_)
          rintro _ _ ⟨rfl, rfl⟩
          refine ⟨_, _, rfl, ?_⟩
          refine WalkP.nil ?_
          refine NodeS.branch [6] inNil rfl rfl rfl ⟨?_, trivial⟩
          ·
           refine ⟨_, _, _, _, rfl, rfl, rfl, (rfl), fun E1 => ?_⟩
           refine (V1.buildSliceT (f := encInt) ([(0 : Int), (20000 : Int)] : List Int) rfl rfl esz_69 zk_3 rfl rfl rfl rfl rfl rfl rfl (ltb rfl) ?_)
           intro b67
           refine ⟨_, _, rfl, ?_⟩
           refine WalkP.nil ?_
           refine NodeS.branch [7] inNil rfl rfl rfl ⟨?_, trivial⟩
           ·
            refine ⟨_, _, _, _, rfl, rfl, rfl, (⟨_, _, rfl, rfl, ⟨_, _, rfl, rfl, rfl⟩⟩), fun E1 => ?_⟩
            refine (V1.callM 1 (rn + ρ0 + 1) [b67] [.ref bp 3 0 0, .vl (rn + ρ0 + 1) 1 (List.map encInt ([(0 : Int), (20000 : Int)] : List Int))] (p := (bp, ⟨3, [encCur ρ0 y8.2]⟩)) rfl rfl rfl cok_50 rfl rfl ⟨_, _, rfl, .same _, ⟨_, _, rfl, Lend.srMap 0 rfl (fun _ => rfl) (.head _), rfl⟩⟩ (bwCons (k := 0) rfl bwNil) (ok_spec_l1Cur_among hh9) rfl (.inr ⟨(by first | omega | (dsimp only; omega)), by rintro _ _ ⟨rfl, rfl⟩; exact ⟨by simp [PV.no, PV.noL, optS_no, noL_iff, nbeq] <;> omega, by intro b ob h; first | exact optH_no (noL_map (fun _ => by simp [PV.no, PV.noL, noL_iff, nbeq]) _) b ob h | (simp at h; obtain ⟨rfl, rfl⟩ := h; exact noL_map (fun _ => by simp [PV.no, PV.noL, noL_iff, nbeq]) _) | (simp at h; obtain ⟨rfl, rfl⟩ := h; simp [PV.no, PV.noL, optS_no, noL_iff, nbeq] <;> omega)⟩⟩) (ltb rfl) ?_)
            rintro _ _ ⟨rfl, rfl⟩
            refine ⟨_, _, rfl, ?_⟩
            refine WalkP.step (p := ?pv1549) 8 rfl rfl rfl rfl rfl (⟨_, _, rfl, rfl, ⟨_, _, rfl, rfl, rfl⟩⟩) ?hv1549 ?rest1549
            case hv1549 =>
             intro E1 H1 hI1
             refine (V1.build rfl rfl zk_46 pl_46 rfl rfl (ltb rfl) ?_)
             exact rfl
            refine WalkP.nil ?_
            refine NodeS.branch [9] inNil rfl rfl rfl ⟨?_, trivial⟩
            ·
             refine ⟨_, _, _, _, rfl, rfl, rfl, (⟨_, _, rfl, rfl, rfl⟩), fun E1 => ?_⟩
             refine (V1.buildSliceT (f := encEvent) ([(⟨y8.1, y9.1⟩ : Event)] : List Event) rfl rfl esz_42 zk_46 rfl rfl rfl rfl rfl rfl rfl (ltb rfl) ?_)
             intro b68
             refine ⟨_, _, rfl, ?_⟩
             refine WalkP.nil ?_
             refine NodeS.fin inNil rfl rfl rfl (⟨_, _, rfl, rfl, ⟨_, _, rfl, rfl, ⟨_, _, rfl, rfl, ⟨_, _, rfl, rfl, rfl⟩⟩⟩⟩) ?_
             refine VO.cons rfl (V1.appendMap (k := 4) (f := encEvent) (l := r_Events) (m := ([(⟨y8.1, y9.1⟩ : Event)] : List Event)) rfl rfl rfl rfl rfl esz_42 eby_42 zk_46 rfl rfl rfl (SrcOf.srMap (k := 0) rfl isl_42) hh10 (ltb rfl) ?_)
             intro b69
             refine VO.cons rfl (V1.fieldRef rfl rfl fo_44_3 rfl (ltb rfl) ?_)
             refine VO.cons rfl (V1.storeRef (k := 5) rfl rfl tyk_42 rfl rfl rfl rfl rfl rfl rfl rfl rfl ?_)
             refine VO.nil ?_
             exact ⟨(((r_Events ++ ([(⟨y8.1, y9.1⟩ : Event)] : List Event)), y9.2), b69), Option.some.inj hm2, Keeps.mk (ks := [0, 2, 5, 6]) rfl ⟨rfl, rfl, trivial⟩ (⟨_, _, rfl, rfl, ⟨_, _, rfl, rfl, ⟨_, _, rfl, rfl, ⟨_, _, rfl, rfl, rfl⟩⟩⟩⟩) rfl⟩
         ·
          refine ⟨_, _, _, _, rfl, rfl, rfl, (rfl), fun E1 => ?_⟩
          refine (V1.buildSliceT (f := encInt) ([(0 : Int), (20000 : Int)] : List Int) rfl rfl esz_69 zk_3 rfl rfl rfl rfl rfl rfl rfl (ltb rfl) ?_)
          intro b70
          refine ⟨_, _, rfl, ?_⟩
          refine WalkP.nil ?_
          refine NodeS.branch [4] inNil rfl rfl rfl ⟨?_, trivial⟩
          ·
           refine ⟨_, _, _, _, rfl, rfl, rfl, (⟨_, _, rfl, rfl, ⟨_, _, rfl, rfl, rfl⟩⟩), fun E1 => ?_⟩
           refine (V1.callM 2 (rn + ρ0 + 1) [b66] [.ref bp 3 0 0, .vl (rn + ρ0 + 1) 1 (List.map encInt ([(1 : Int), (9 : Int), (10 : Int)] : List Int))] (p := (bp, ⟨3, [encCur ρ0 y5.2]⟩)) rfl rfl rfl cok_50 rfl rfl ⟨_, _, rfl, .same _, ⟨_, _, rfl, Lend.srMap 1 rfl (fun _ => rfl) (.head _), rfl⟩⟩ (bwCons (k := 1) rfl bwNil) (ok_spec_l1Cur_among hh8) rfl (.inr ⟨(by first | omega | (dsimp only; omega)), by rintro _ _ ⟨rfl, rfl⟩; exact ⟨by simp [PV.no, PV.noL, optS_no, noL_iff, nbeq] <;> omega, by intro b ob h; first | exact optH_no (noL_map (fun _ => by simp [PV.no, PV.noL, noL_iff, nbeq]) _) b ob h | (simp at h; obtain ⟨rfl, rfl⟩ := h; exact noL_map (fun _ => by simp [PV.no, PV.noL, noL_iff, nbeq]) _) | (simp at h; obtain ⟨rfl, rfl⟩ := h; simp [PV.no, PV.noL, optS_no, noL_iff, nbeq] <;> omega)⟩⟩) (ltb rfl) ?_)
           rintro _ _ ⟨rfl, rfl⟩
           refine ⟨_, _, rfl, ?_⟩
           refine WalkP.nil ?_
           refine NodeS.branch [7] inNil rfl rfl rfl ⟨?_, trivial⟩
           ·
            refine ⟨_, _, _, _, rfl, rfl, rfl, (⟨_, _, rfl, rfl, ⟨_, _, rfl, rfl, rfl⟩⟩), fun E1 => ?_⟩
            refine (V1.callM 0 (rn + ρ0 + 1) [b70] [.ref bp 3 0 0, .vl (rn + ρ0 + 1) 1 (List.map encInt ([(0 : Int), (20000 : Int)] : List Int))] (p := (bp, ⟨3, [encCur ρ0 y8.2]⟩)) rfl rfl rfl cok_50 rfl rfl ⟨_, _, rfl, .same _, ⟨_, _, rfl, Lend.srMap 1 rfl (fun _ => rfl) (.head _), rfl⟩⟩ (bwCons (k := 0) rfl bwNil) (ok_spec_l1Cur_among hh9) rfl (.inr ⟨(by first | omega | (dsimp only; omega)), by rintro _ _ ⟨rfl, rfl⟩; exact ⟨by simp [PV.no, PV.noL, optS_no, noL_iff, nbeq] <;> omega, by intro b ob h; first | exact optH_no (noL_map (fun _ => by simp [PV.no, PV.noL, noL_iff, nbeq]) _) b ob h | (simp at h; obtain ⟨rfl, rfl⟩ := h; exact noL_map (fun _ => by simp [PV.no, PV.noL, noL_iff, nbeq]) _) | (simp at h; obtain ⟨rfl, rfl⟩ := h; simp [PV.no, PV.noL, optS_no, noL_iff, nbeq] <;> omega)⟩⟩) (ltb rfl) ?_)
            rintro _ _ ⟨rfl, rfl⟩
            refine ⟨_, _, rfl, ?_⟩
            refine WalkP.step (p := ?pv1550) 8 rfl rfl rfl rfl rfl (⟨_, _, rfl, rfl, ⟨_, _, rfl, rfl, rfl⟩⟩) ?hv1550 ?rest1550
            case hv1550 =>
             intro E1 H1 hI1
             refine (V1.build rfl rfl zk_46 pl_46 rfl rfl (ltb rfl) ?_)
             exact rfl
            refine WalkP.nil ?_
            refine NodeS.branch [9] inNil rfl rfl rfl ⟨?_, trivial⟩
            ·
             refine ⟨_, _, _, _, rfl, rfl, rfl, (⟨_, _, rfl, rfl, rfl⟩), fun E1 => ?_⟩
             refine (V1.buildSliceT (f := encEvent) ([(⟨y8.1, y9.1⟩ : Event)] : List Event) rfl rfl esz_42 zk_46 rfl rfl rfl rfl rfl rfl rfl (ltb rfl) ?_)
             intro b71
             refine ⟨_, _, rfl, ?_⟩
             refine WalkP.nil ?_
             refine NodeS.fin inNil rfl rfl rfl (⟨_, _, rfl, rfl, ⟨_, _, rfl, rfl, ⟨_, _, rfl, rfl, ⟨_, _, rfl, rfl, rfl⟩⟩⟩⟩) ?_
             refine VO.cons rfl (V1.appendMap (k := 4) (f := encEvent) (l := r_Events) (m := ([(⟨y8.1, y9.1⟩ : Event)] : List Event)) rfl rfl rfl rfl rfl esz_42 eby_42 zk_46 rfl rfl rfl (SrcOf.srMap (k := 0) rfl isl_42) hh10 (ltb rfl) ?_)
             intro b72
             refine VO.cons rfl (V1.fieldRef rfl rfl fo_44_3 rfl (ltb rfl) ?_)
             refine VO.cons rfl (V1.storeRef (k := 5) rfl rfl tyk_42 rfl rfl rfl rfl rfl rfl rfl rfl rfl ?_)
             refine VO.nil ?_
             exact ⟨(((r_Events ++ ([(⟨y8.1, y9.1⟩ : Event)] : List Event)), y9.2), b72), Option.some.inj hm2, Keeps.mk (ks := [0, 2, 5, 6]) rfl ⟨rfl, rfl, trivial⟩ (⟨_, _, rfl, rfl, ⟨_, _, rfl, rfl, ⟨_, _, rfl, rfl, ⟨_, _, rfl, rfl, rfl⟩⟩⟩⟩) rfl⟩
        ·
         refine ⟨_, _, _, _, rfl, rfl, rfl, (⟨_, _, rfl, rfl, ⟨_, _, rfl, rfl, rfl⟩⟩), fun E1 => ?_⟩
         refine (V1.callM 1 (rn + ρ0 + 1) [b66] [.ref bp 3 0 0, .vl (rn + ρ0 + 1) 1 (List.map encInt ([(1 : Int), (9 : Int), (10 : Int)] : List Int))] (p := (bp, ⟨3, [encCur ρ0 y5.2]⟩)) rfl rfl rfl cok_50 rfl rfl ⟨_, _, rfl, .same _, ⟨_, _, rfl, Lend.srMap 0 rfl (fun _ => rfl) (.head _), rfl⟩⟩ (bwCons (k := 0) rfl bwNil) (ok_spec_l1Cur_among hh8) rfl (.inr ⟨(by first | omega | (dsimp only; omega)), by rintro _ _ ⟨rfl, rfl⟩; exact ⟨by simp [PV.no, PV.noL, optS_no, noL_iff, nbeq] <;> omega, by intro b ob h; first | exact optH_no (noL_map (fun _ => by simp [PV.no, PV.noL, noL_iff, nbeq]) _) b ob h | (simp at h; obtain ⟨rfl, rfl⟩ := h; exact noL_map (fun _ => by simp [PV.no, PV.noL, noL_iff, nbeq]) _) | (simp at h; obtain ⟨rfl, rfl⟩ := h; simp [PV.no, PV.noL, optS_no, noL_iff, nbeq] <;> omega)⟩⟩) (ltb rfl) ?_)
         rintro _ _ ⟨rfl, rfl⟩
         refine ⟨_, _, rfl, ?_⟩
         refine WalkP.nil ?_
         refine NodeS.branch [1, 6] inNil rfl rfl rfl ⟨?_, ?_, trivial⟩
         ·
          refine ⟨_, _, _, _, rfl, rfl, rfl, (⟨_, _, rfl, rfl, rfl⟩), fun E1 => ?_⟩
          refine (V1.loadRef (k := 3) rfl rfl tyk_42 rfl rfl rfl rfl rfl (ltb rfl) ?_)
          refine ⟨_, _, rfl, ?_⟩
          refine WalkP.nil ?_
          refine NodeS.branch [6] inNil rfl rfl rfl ⟨?_, trivial⟩
          ·
           refine ⟨_, _, _, _, rfl, rfl, rfl, (rfl), fun E1 => ?_⟩
           refine (V1.buildSliceT (f := encInt) ([(0 : Int), (20000 : Int)] : List Int) rfl rfl esz_69 zk_3 rfl rfl rfl rfl rfl rfl rfl (ltb rfl) ?_)
           intro b73
           refine ⟨_, _, rfl, ?_⟩
           refine WalkP.nil ?_
           refine NodeS.branch [7] inNil rfl rfl rfl ⟨?_, trivial⟩
           ·
            refine ⟨_, _, _, _, rfl, rfl, rfl, (⟨_, _, rfl, rfl, ⟨_, _, rfl, rfl, rfl⟩⟩), fun E1 => ?_⟩
            refine (V1.callM 1 (rn + ρ0 + 1) [b73] [.ref bp 3 0 0, .vl (rn + ρ0 + 1) 1 (List.map encInt ([(0 : Int), (20000 : Int)] : List Int))] (p := (bp, ⟨3, [encCur ρ0 y8.2]⟩)) rfl rfl rfl cok_50 rfl rfl ⟨_, _, rfl, .same _, ⟨_, _, rfl, Lend.srMap 0 rfl (fun _ => rfl) (.head _), rfl⟩⟩ (bwCons (k := 0) rfl bwNil) (ok_spec_l1Cur_among hh9) rfl (.inr ⟨(by first | omega | (dsimp only; omega)), by rintro _ _ ⟨rfl, rfl⟩; exact ⟨by simp [PV.no, PV.noL, optS_no, noL_iff, nbeq] <;> omega, by intro b ob h; first | exact optH_no (noL_map (fun _ => by simp [PV.no, PV.noL, noL_iff, nbeq]) _) b ob h | (simp at h; obtain ⟨rfl, rfl⟩ := h; exact noL_map (fun _ => by simp [PV.no, PV.noL, noL_iff, nbeq]) _) | (simp at h; obtain ⟨rfl, rfl⟩ := h; simp [PV.no, PV.noL, optS_no, noL_iff, nbeq] <;> omega)⟩⟩) (ltb rfl) ?_)
            rintro _ _ ⟨rfl, rfl⟩
            refine ⟨_, _, rfl, ?_⟩
            refine WalkP.step (p := ?pv1551) 8 rfl rfl rfl rfl rfl (⟨_, _, rfl, rfl, ⟨_, _, rfl, rfl, rfl⟩⟩) ?hv1551 ?rest1551
            case hv1551 =>
             intro E1 H1 hI1
             refine (V1.build rfl rfl zk_46 pl_46 rfl rfl (ltb rfl) ?_)
             exact rfl
            refine WalkP.nil ?_
            refine NodeS.branch [9] inNil rfl rfl rfl ⟨?_, trivial⟩
            ·
             refine ⟨_, _, _, _, rfl, rfl, rfl, (⟨_, _, rfl, rfl, rfl⟩), fun E1 => ?_⟩
             refine (V1.buildSliceT (f := encEvent) ([(⟨y8.1, y9.1⟩ : Event)] : List Event) rfl rfl esz_42 zk_46 rfl rfl rfl rfl rfl rfl rfl (ltb rfl) ?_)
             intro b74
             refine ⟨_, _, rfl, ?_⟩
             refine WalkP.nil ?_
             refine NodeS.fin inNil rfl rfl rfl (⟨_, _, rfl, rfl, ⟨_, _, rfl, rfl, ⟨_, _, rfl, rfl, ⟨_, _, rfl, rfl, rfl⟩⟩⟩⟩) ?_
             refine VO.cons rfl (V1.appendMap (k := 4) (f := encEvent) (l := r_Events) (m := ([(⟨y8.1, y9.1⟩ : Event)] : List Event)) rfl rfl rfl rfl rfl esz_42 eby_42 zk_46 rfl rfl rfl (SrcOf.srMap (k := 0) rfl isl_42) hh10 (ltb rfl) ?_)
             intro b75
             refine VO.cons rfl (V1.fieldRef rfl rfl fo_44_3 rfl (ltb rfl) ?_)
             refine VO.cons rfl (V1.storeRef (k := 5) rfl rfl tyk_42 rfl rfl rfl rfl rfl rfl rfl rfl rfl ?_)
             refine VO.nil ?_
             exact ⟨(((r_Events ++ ([(⟨y8.1, y9.1⟩ : Event)] : List Event)), y9.2), b75), Option.some.inj hm2, Keeps.mk (ks := [0, 2, 5, 6]) rfl ⟨rfl, rfl, trivial⟩ (⟨_, _, rfl, rfl, ⟨_, _, rfl, rfl, ⟨_, _, rfl, rfl, ⟨_, _, rfl, rfl, rfl⟩⟩⟩⟩) rfl⟩
         ·
          refine ⟨_, _, _, _, rfl, rfl, rfl, (rfl), fun E1 => ?_⟩
          refine (V1.buildSliceT (f := encInt) ([(0 : Int), (20000 : Int)] : List Int) rfl rfl esz_69 zk_3 rfl rfl rfl rfl rfl rfl rfl (ltb rfl) ?_)
          intro b76
          refine ⟨_, _, rfl, ?_⟩
          refine WalkP.nil ?_
          refine NodeS.branch [1, 7] inNil rfl rfl rfl ⟨?_, ?_, trivial⟩
          ·
           refine ⟨_, _, _, _, rfl, rfl, rfl, (⟨_, _, rfl, rfl, rfl⟩), fun E1 => ?_⟩
           refine (V1.loadRef (k := 4) rfl rfl tyk_42 rfl rfl rfl rfl rfl (ltb rfl) ?_)
           refine ⟨_, _, rfl, ?_⟩
           refine WalkP.nil ?_
           refine NodeS.branch [7] inNil rfl rfl rfl ⟨?_, trivial⟩
           ·
            refine ⟨_, _, _, _, rfl, rfl, rfl, (⟨_, _, rfl, rfl, ⟨_, _, rfl, rfl, rfl⟩⟩), fun E1 => ?_⟩
            refine (V1.callM 1 (rn + ρ0 + 1) [b76] [.ref bp 3 0 0, .vl (rn + ρ0 + 1) 1 (List.map encInt ([(0 : Int), (20000 : Int)] : List Int))] (p := (bp, ⟨3, [encCur ρ0 y8.2]⟩)) rfl rfl rfl cok_50 rfl rfl ⟨_, _, rfl, .same _, ⟨_, _, rfl, Lend.srMap 0 rfl (fun _ => rfl) (.head _), rfl⟩⟩ (bwCons (k := 0) rfl bwNil) (ok_spec_l1Cur_among hh9) rfl (.inr ⟨(by first | omega | (dsimp only; omega)), by rintro _ _ ⟨rfl, rfl⟩; exact ⟨by simp [PV.no, PV.noL, optS_no, noL_iff, nbeq] <;> omega, by intro b ob h; first | exact optH_no (noL_map (fun _ => by simp [PV.no, PV.noL, noL_iff, nbeq]) _) b ob h | (simp at h; obtain ⟨rfl, rfl⟩ := h; exact noL_map (fun _ => by simp [PV.no, PV.noL, noL_iff, nbeq]) _) | (simp at h; obtain ⟨rfl, rfl⟩ := h; simp [PV.no, PV.noL, optS_no, noL_iff, nbeq] <;> omega)⟩⟩) (ltb rfl) ?_)
            rintro _ _ ⟨rfl, rfl⟩
            refine ⟨_, _, rfl, ?_⟩
            refine WalkP.step (p := ?pv1552) 8 rfl rfl rfl rfl rfl (⟨_, _, rfl, rfl, ⟨_, _, rfl, rfl, rfl⟩⟩) ?hv1552 ?rest1552
            case hv1552 =>
             intro E1 H1 hI1
             refine (V1.build rfl rfl zk_46 pl_46 rfl rfl (ltb rfl) ?_)
             exact rfl
            refine WalkP.nil ?_
            refine NodeS.branch [9] inNil rfl rfl rfl ⟨?_, trivial⟩
            ·
             refine ⟨_, _, _, _, rfl, rfl, rfl, (⟨_, _, rfl, rfl, rfl⟩), fun E1 => ?_⟩
             refine (V1.buildSliceT (f := encEvent) ([(⟨y8.1, y9.1⟩ : Event)] : List Event) rfl rfl esz_42 zk_46 rfl rfl rfl rfl rfl rfl rfl (ltb rfl) ?_)
             intro b77
             refine ⟨_, _, rfl, ?_⟩
             refine WalkP.nil ?_
             refine NodeS.fin inNil rfl rfl rfl (⟨_, _, rfl, rfl, ⟨_, _, rfl, rfl, ⟨_, _, rfl, rfl, ⟨_, _, rfl, rfl, rfl⟩⟩⟩⟩) ?_
             refine VO.cons rfl (V1.appendMap (k := 4) (f := encEvent) (l := r_Events) (m := ([(⟨y8.1, y9.1⟩ : Event)] : List Event)) rfl rfl rfl rfl rfl esz_42 eby_42 zk_46 rfl rfl rfl (SrcOf.srMap (k := 0) rfl isl_42) hh10 (ltb rfl) ?_)
             intro b78
             refine VO.cons rfl (V1.fieldRef rfl rfl fo_44_3 rfl (ltb rfl) ?_)
             refine VO.cons rfl (V1.storeRef (k := 5) rfl rfl tyk_42 rfl rfl rfl rfl rfl rfl rfl rfl rfl ?_)
             refine VO.nil ?_
             exact ⟨(((r_Events ++ ([(⟨y8.1, y9.1⟩ : Event)] : List Event)), y9.2), b78), Option.some.inj hm2, Keeps.mk (ks := [0, 2, 5, 6]) rfl ⟨rfl, rfl, trivial⟩ (⟨_, _, rfl, rfl, ⟨_, _, rfl, rfl, ⟨_, _, rfl, rfl, ⟨_, _, rfl, rfl, rfl⟩⟩⟩⟩) rfl⟩
          ·
           refine ⟨_, _, _, _, rfl, rfl, rfl, (⟨_, _, rfl, rfl, ⟨_, _, rfl, rfl, rfl⟩⟩), fun E1 => ?_⟩
           refine (V1.callM 1 (rn + ρ0 + 1) [b76] [.ref bp 3 0 0, .vl (rn + ρ0 + 1) 1 (List.map encInt ([(0 : Int), (20000 : Int)] : List Int))] (p := (bp, ⟨3, [encCur ρ0 y8.2]⟩)) rfl rfl rfl cok_50 rfl rfl ⟨_, _, rfl, .same _, ⟨_, _, rfl, Lend.srMap 0 rfl (fun _ => rfl) (.head _), rfl⟩⟩ (bwCons (k := 0) rfl bwNil) (ok_spec_l1Cur_among hh9) rfl (.inr ⟨(by first | omega | (dsimp only; omega)), by rintro _ _ ⟨rfl, rfl⟩; exact ⟨by simp [PV.no, PV.noL, optS_no, noL_iff, nbeq] <;> omega, by intro b ob h; first | exact optH_no (noL_map (fun _ => by simp [PV.no, PV.noL, noL_iff, nbeq]) _) b ob h | (simp at h; obtain ⟨rfl, rfl⟩ := h; exact noL_map (fun _ => by simp [PV.no, PV.noL, noL_iff, nbeq]) _) | (simp at h; obtain ⟨rfl, rfl⟩ := h; simp [PV.no, PV.noL, optS_no, noL_iff, nbeq] <;> omega)⟩⟩) (ltb rfl) ?_)
           rintro _ _ ⟨rfl, rfl⟩
           refine ⟨_, _, rfl, ?_⟩
           refine WalkP.step (p := ?pv1553) 8 rfl rfl rfl rfl rfl (⟨_, _, rfl, rfl, ⟨_, _, rfl, rfl, rfl⟩⟩) ?hv1553 ?rest1553
           case hv1553 =>
            intro E1 H1 hI1
            refine (V1.build rfl rfl zk_46 pl_46 rfl rfl (ltb rfl) ?_)
            exact rfl
           refine WalkP.nil ?_
           refine NodeS.branch [1, 9] inNil rfl rfl rfl ⟨?_, ?_, trivial⟩
           ·
            refine ⟨_, _, _, _, rfl, rfl, rfl, (⟨_, _, rfl, rfl, rfl⟩), fun E1 => ?_⟩
            refine (V1.loadRef (k := 4) rfl rfl tyk_42 rfl rfl rfl rfl rfl (ltb rfl) ?_)
            refine ⟨_, _, rfl, ?_⟩
            refine WalkP.nil ?_
            refine NodeS.branch [9] inNil rfl rfl rfl ⟨?_, trivial⟩
            ·
             refine ⟨_, _, _, _, rfl, rfl, rfl, (⟨_, _, rfl, rfl, rfl⟩), fun E1 => ?_⟩
             refine (V1.buildSliceT (f := encEvent) ([(⟨y8.1, y9.1⟩ : Event)] : List Event) rfl rfl esz_42 zk_46 rfl rfl rfl rfl rfl rfl rfl (ltb rfl) ?_)
             intro b79
             refine ⟨_, _, rfl, ?_⟩
             refine WalkP.nil ?_
             refine NodeS.fin inNil rfl rfl rfl (⟨_, _, rfl, rfl, ⟨_, _, rfl, rfl, ⟨_, _, rfl, rfl, ⟨_, _, rfl, rfl, rfl⟩⟩⟩⟩) ?_
             refine VO.cons rfl (V1.appendMap (k := 4) (f := encEvent) (l := r_Events) (m := ([(⟨y8.1, y9.1⟩ : Event)] : List Event)) rfl rfl rfl rfl rfl esz_42 eby_42 zk_46 rfl rfl rfl (SrcOf.srMap (k := 0) rfl isl_42) hh10 (ltb rfl) ?_)
             intro b80
             refine VO.cons rfl (V1.fieldRef rfl rfl fo_44_3 rfl (ltb rfl) ?_)
             refine VO.cons rfl (V1.storeRef (k := 5) rfl rfl tyk_42 rfl rfl rfl rfl rfl rfl rfl rfl rfl ?_)
             refine VO.nil ?_
             exact ⟨(((r_Events ++ ([(⟨y8.1, y9.1⟩ : Event)] : List Event)), y9.2), b80), Option.some.inj hm2, Keeps.mk (ks := [0, 2, 5, 6]) rfl ⟨rfl, rfl, trivial⟩ (⟨_, _, rfl, rfl, ⟨_, _, rfl, rfl, ⟨_, _, rfl, rfl, ⟨_, _, rfl, rfl, rfl⟩⟩⟩⟩) rfl⟩
           ·
            refine ⟨_, _, _, _, rfl, rfl, rfl, (⟨_, _, rfl, rfl, rfl⟩), fun E1 => ?_⟩
            refine (V1.buildSliceT (f := encEvent) ([(⟨y8.1, y9.1⟩ : Event)] : List Event) rfl rfl esz_42 zk_46 rfl rfl rfl rfl rfl rfl rfl (ltb rfl) ?_)
            intro b81
            refine ⟨_, _, rfl, ?_⟩
            refine WalkP.nil ?_
            refine NodeS.branch [1] inNil rfl rfl rfl ⟨?_, trivial⟩
            ·
             refine ⟨_, _, _, _, rfl, rfl, rfl, (⟨_, _, rfl, rfl, rfl⟩), fun E1 => ?_⟩
             refine (V1.loadRef (k := 5) rfl rfl tyk_42 rfl rfl rfl rfl rfl (ltb rfl) ?_)
             refine ⟨_, _, rfl, ?_⟩
             refine WalkP.nil ?_
             refine NodeS.fin inNil rfl rfl rfl (⟨_, _, rfl, rfl, ⟨_, _, rfl, rfl, ⟨_, _, rfl, rfl, ⟨_, _, rfl, rfl, rfl⟩⟩⟩⟩) ?_
             refine VO.cons rfl (V1.appendMap (k := 4) (f := encEvent) (l := r_Events) (m := ([(⟨y8.1, y9.1⟩ : Event)] : List Event)) rfl rfl rfl rfl rfl esz_42 eby_42 zk_46 rfl rfl rfl (SrcOf.srMap (k := 0) rfl isl_42) hh10 (ltb rfl) ?_)
             intro b82
             refine VO.cons rfl (V1.fieldRef rfl rfl fo_44_3 rfl (ltb rfl) ?_)
             refine VO.cons rfl (V1.storeRef (k := 5) rfl rfl tyk_42 rfl rfl rfl rfl rfl rfl rfl rfl rfl ?_)
             refine VO.nil ?_
             exact ⟨(((r_Events ++ ([(⟨y8.1, y9.1⟩ : Event)] : List Event)), y9.2), b82), Option.some.inj hm2, Keeps.mk (ks := [0, 2, 5, 6]) rfl ⟨rfl, rfl, trivial⟩ (⟨_, _, rfl, rfl, ⟨_, _, rfl, rfl, ⟨_, _, rfl, rfl, ⟨_, _, rfl, rfl, rfl⟩⟩⟩⟩) rfl⟩
        ·
         refine ⟨_, _, _, _, rfl, rfl, rfl, (rfl), fun E1 => ?_⟩
         refine (V1.buildSliceT (f := encInt) ([(0 : Int), (20000 : Int)] : List Int) rfl rfl esz_69 zk_3 rfl rfl rfl rfl rfl rfl rfl (ltb rfl) ?_)
         intro b83
         refine ⟨_, _, rfl, ?_⟩
         refine WalkP.nil ?_
         refine NodeS.branch [1, 4] inNil rfl rfl rfl ⟨?_, ?_, trivial⟩
         ·
          refine ⟨_, _, _, _, rfl, rfl, rfl, (⟨_, _, rfl, rfl, rfl⟩), fun E1 => ?_⟩
          refine (V1.loadRef (k := 4) rfl rfl tyk_42 rfl rfl rfl rfl rfl (ltb rfl) ?_)
          refine ⟨_, _, rfl, ?_⟩
          refine WalkP.nil ?_
          refine NodeS.branch [4] inNil rfl rfl rfl ⟨?_, trivial⟩
          ·
           refine ⟨_, _, _, _, rfl, rfl, rfl, (⟨_, _, rfl, rfl, ⟨_, _, rfl, rfl, rfl⟩⟩), fun E1 => ?_⟩
           refine (V1.callM 2 (rn + ρ0 + 1) [b66] [.ref bp 3 0 0, .vl (rn + ρ0 + 1) 1 (List.map encInt ([(1 : Int), (9 : Int), (10 : Int)] : List Int))] (p := (bp, ⟨3, [encCur ρ0 y5.2]⟩)) rfl rfl rfl cok_50 rfl rfl ⟨_, _, rfl, .same _, ⟨_, _, rfl, Lend.srMap 1 rfl (fun _ => rfl) (.head _), rfl⟩⟩ (bwCons (k := 1) rfl bwNil) (ok_spec_l1Cur_among hh8) rfl (.inr ⟨(by first | omega | (dsimp only; omega)), by rintro _ _ ⟨rfl, rfl⟩; exact ⟨by simp [PV.no, PV.noL, optS_no, noL_iff, nbeq] <;> omega, by intro b ob h; first | exact optH_no (noL_map (fun _ => by simp [PV.no, PV.noL, noL_iff, nbeq]) _) b ob h | (simp at h; obtain ⟨rfl, rfl⟩ := h; exact noL_map (fun _ => by simp [PV.no, PV.noL, noL_iff, nbeq]) _) | (simp at h; obtain ⟨rfl, rfl⟩ := h; simp [PV.no, PV.noL, optS_no, noL_iff, nbeq] <;> omega)⟩⟩) (ltb rfl) ?_)
           rintro _ _ ⟨rfl, rfl⟩
           refine ⟨_, _, rfl, ?_⟩
           refine WalkP.nil ?_
           refine NodeS.branch [7] inNil rfl rfl rfl ⟨?_, trivial⟩
           ·
            refine ⟨_, _, _, _, rfl, rfl, rfl, (⟨_, _, rfl, rfl, ⟨_, _, rfl, rfl, rfl⟩⟩), fun E1 => ?_⟩
            refine (V1.callM 0 (rn + ρ0 + 1) [b83] [.ref bp 3 0 0, .vl (rn + ρ0 + 1) 1 (List.map encInt ([(0 : Int), (20000 : Int)] : List Int))] (p := (bp, ⟨3, [encCur ρ0 y8.2]⟩)) rfl rfl rfl cok_50 rfl rfl ⟨_, _, rfl, .same _, ⟨_, _, rfl, Lend.srMap 1 rfl (fun _ => rfl) (.head _), rfl⟩⟩ (bwCons (k := 0) rfl bwNil) (ok_spec_l1Cur_among hh9) rfl (.inr ⟨(by first | omega | (dsimp only; omega)), by rintro _ _ ⟨rfl, rfl⟩; exact ⟨by simp [PV.no, PV.noL, optS_no, noL_iff, nbeq] <;> omega, by intro b ob h; first | exact optH_no (noL_map (fun _ => by simp [PV.no, PV.noL, noL_iff, nbeq]) _) b ob h | (simp at h; obtain ⟨rfl, rfl⟩ := h; exact noL_map (fun _ => by simp [PV.no, PV.noL, noL_iff, nbeq]) _) | (simp at h; obtain ⟨rfl, rfl⟩ := h; simp [PV.no, PV.noL, optS_no, noL_iff, nbeq] <;> omega)⟩⟩) (ltb rfl) ?_)
            rintro _ _ ⟨rfl, rfl⟩
            refine ⟨_, _, rfl, ?_⟩
            refine WalkP.step (p := ?pv1554) 8 rfl rfl rfl rfl rfl (⟨_, _, rfl, rfl, ⟨_, _, rfl, rfl, rfl⟩⟩) ?hv1554 ?rest1554
            case hv1554 =>
             intro E1 H1 hI1
             refine (V1.build rfl rfl zk_46 pl_46 rfl rfl (ltb rfl) ?_)
             exact rfl
            refine WalkP.nil ?_
            refine NodeS.branch [9] inNil rfl rfl rfl ⟨?_, trivial⟩
            ·
             refine ⟨_, _, _, _, rfl, rfl, rfl, (⟨_, _, rfl, rfl, rfl⟩), fun E1 => ?_⟩
             refine (V1.buildSliceT (f := encEvent) ([(⟨y8.1, y9.1⟩ : Event)] : List Event) rfl rfl esz_42 zk_46 rfl rfl rfl rfl rfl rfl rfl (ltb rfl) ?_)
             intro b84
             refine ⟨_, _, rfl, ?_⟩
             refine WalkP.nil ?_
             refine NodeS.fin inNil rfl rfl rfl (⟨_, _, rfl, rfl, ⟨_, _, rfl, rfl, ⟨_, _, rfl, rfl, ⟨_, _, rfl, rfl, rfl⟩⟩⟩⟩) ?_
             refine VO.cons rfl (V1.appendMap (k := 4) (f := encEvent) (l := r_Events) (m := ([(⟨y8.1, y9.1⟩ : Event)] : List Event)) rfl rfl rfl rfl rfl esz_42 eby_42 zk_46 rfl rfl rfl (SrcOf.srMap (k := 0) rfl isl_42) hh10 (ltb rfl) ?_)
             intro b85
             refine VO.cons rfl (V1.fieldRef rfl rfl fo_44_3 rfl (ltb rfl) ?_)
             refine VO.cons rfl (V1.storeRef (k := 5) rfl rfl tyk_42 rfl rfl rfl rfl rfl rfl rfl rfl rfl ?_)
             refine VO.nil ?_
             exact ⟨(((r_Events ++ ([(⟨y8.1, y9.1⟩ : Event)] : List Event)), y9.2), b85), Option.some.inj hm2, Keeps.mk (ks := [0, 2, 5, 6]) rfl ⟨rfl, rfl, trivial⟩ (⟨_, _, rfl, rfl, ⟨_, _, rfl, rfl, ⟨_, _, rfl, rfl, ⟨_, _, rfl, rfl, rfl⟩⟩⟩⟩) rfl⟩
         ·
          refine ⟨_, _, _, _, rfl, rfl, rfl, (⟨_, _, rfl, rfl, ⟨_, _, rfl, rfl, rfl⟩⟩), fun E1 => ?_⟩
          refine (V1.callM 2 (rn + ρ0 + 1) [b66] [.ref bp 3 0 0, .vl (rn + ρ0 + 1) 1 (List.map encInt ([(1 : Int), (9 : Int), (10 : Int)] : List Int))] (p := (bp, ⟨3, [encCur ρ0 y5.2]⟩)) rfl rfl rfl cok_50 rfl rfl ⟨_, _, rfl, .same _, ⟨_, _, rfl, Lend.srMap 1 rfl (fun _ => rfl) (.head _), rfl⟩⟩ (bwCons (k := 1) rfl bwNil) (ok_spec_l1Cur_among hh8) rfl (.inr ⟨(by first | omega | (dsimp only; omega)), by rintro _ _ ⟨rfl, rfl⟩; exact ⟨by simp [PV.no, PV.noL, optS_no, noL_iff, nbeq] <;> omega, by intro b ob h; first | exact optH_no (noL_map (fun _ => by simp [PV.no, PV.noL, noL_iff, nbeq]) _) b ob h | (simp at h; obtain ⟨rfl, rfl⟩ := h; exact noL_map (fun _ => by simp [PV.no, PV.noL, noL_iff, nbeq]) _) | (simp at h; obtain ⟨rfl, rfl⟩ := h; simp [PV.no, PV.noL, optS_no, noL_iff, nbeq] <;> omega)⟩⟩) (ltb rfl) ?_)
          rintro _ _ ⟨rfl, rfl⟩
          refine ⟨_, _, rfl, ?_⟩
          refine WalkP.nil ?_
          refine NodeS.branch [1, 7] inNil rfl rfl rfl ⟨?_, ?_, trivial⟩
          ·
           refine ⟨_, _, _, _, rfl, rfl, rfl, (⟨_, _, rfl, rfl, rfl⟩), fun E1 => ?_⟩
           refine (V1.loadRef (k := 4) rfl rfl tyk_42 rfl rfl rfl rfl rfl (ltb rfl) ?_)
           refine ⟨_, _, rfl, ?_⟩
           refine WalkP.nil ?_
           refine NodeS.branch [7] inNil rfl rfl rfl ⟨?_, trivial⟩
           ·
            refine ⟨_, _, _, _, rfl, rfl, rfl, (⟨_, _, rfl, rfl, ⟨_, _, rfl, rfl, rfl⟩⟩), fun E1 => ?_⟩
            refine (V1.callM 0 (rn + ρ0 + 1) [b83] [.ref bp 3 0 0, .vl (rn + ρ0 + 1) 1 (List.map encInt ([(0 : Int), (20000 : Int)] : List Int))] (p := (bp, ⟨3, [encCur ρ0 y8.2]⟩)) rfl rfl rfl cok_50 rfl rfl ⟨_, _, rfl, .same _, ⟨_, _, rfl, Lend.srMap 1 rfl (fun _ => rfl) (.head _), rfl⟩⟩ (bwCons (k := 0) rfl bwNil) (ok_spec_l1Cur_among hh9) rfl (.inr ⟨(by first | omega | (dsimp only; omega)), by rintro _ _ ⟨rfl, rfl⟩; exact ⟨by simp [PV.no, PV.noL, optS_no, noL_iff, nbeq] <;> omega, by intro b ob h; first | exact optH_no (noL_map (fun _ => by simp [PV.no, PV.noL, noL_iff, nbeq]) _) b ob h | (simp at h; obtain ⟨rfl, rfl⟩ := h; exact noL_map (fun _ => by simp [PV.no, PV.noL, noL_iff, nbeq]) _) | (simp at h; obtain ⟨rfl, rfl⟩ := h; simp [PV.no, PV.noL, optS_no, noL_iff, nbeq] <;> omega)⟩⟩) (ltb rfl) ?_)
            rintro _ _ ⟨rfl, rfl⟩
            refine ⟨_, _, rfl, ?_⟩
            refine WalkP.step (p := ?pv1555) 8 rfl rfl rfl rfl rfl (⟨_, _, rfl, rfl, ⟨_, _, rfl, rfl, rfl⟩⟩) ?hv1555 ?rest1555
            case hv1555 =>
             intro E1 H1 hI1
             refine (V1.build rfl rfl zk_46 pl_46 rfl rfl (ltb rfl) ?_)
             exact rfl
            refine WalkP.nil ?_
            refine NodeS.branch [9] inNil rfl rfl rfl ⟨?_, trivial⟩
            ·
             refine ⟨_, _, _, _, rfl, rfl, rfl, (⟨_, _, rfl, rfl, rfl⟩), fun E1 => ?_⟩
             refine (V1.buildSliceT (f := encEvent) ([(⟨y8.1, y9.1⟩ : Event)] : List Event) rfl rfl esz_42 zk_46 rfl rfl rfl rfl rfl rfl rfl (ltb rfl) ?_)
             intro b86
             refine ⟨_, _, rfl, ?_⟩
             refine WalkP.nil ?_
             refine NodeS.fin inNil rfl rfl rfl (⟨_, _, rfl, rfl, ⟨_, _, rfl, rfl, ⟨_, _, rfl, rfl, ⟨_, _, rfl, rfl, rfl⟩⟩⟩⟩) ?_
             refine VO.cons rfl (V1.appendMap (k := 4) (f := encEvent) (l := r_Events) (m := ([(⟨y8.1, y9.1⟩ : Event)] : List Event)) rfl rfl rfl rfl rfl esz_42 eby_42 zk_46 rfl rfl rfl (SrcOf.srMap (k := 0) rfl isl_42) hh10 (ltb rfl) ?_)
             intro b87
             refine VO.cons rfl (V1.fieldRef rfl rfl fo_44_3 rfl (ltb rfl) ?_)
             refine VO.cons rfl (V1.storeRef (k := 5) rfl rfl tyk_42 rfl rfl rfl rfl rfl rfl rfl rfl rfl ?_)
             refine VO.nil ?_
             exact ⟨(((r_Events ++ ([(⟨y8.1, y9.1⟩ : Event)] : List Event)), y9.2), b87), Option.some.inj hm2, Keeps.mk (ks := [0, 2, 5, 6]) rfl ⟨rfl, rfl, trivial⟩ (⟨_, _, rfl, rfl, ⟨_, _, rfl, rfl, ⟨_, _, rfl, rfl, ⟨_, _, rfl, rfl, rfl⟩⟩⟩⟩) rfl⟩
          ·
           refine ⟨_, _, _, _, rfl, rfl, rfl, (⟨_, _, rfl, rfl, ⟨_, _, rfl, rfl, rfl⟩⟩), fun E1 => ?_⟩
           refine (V1.callM 0 (rn + ρ0 + 1) [b83] [.ref bp 3 0 0, .vl (rn + ρ0 + 1) 1 (List.map encInt ([(0 : Int), (20000 : Int)] : List Int))] (p := (bp, ⟨3, [encCur ρ0 y8.2]⟩)) rfl rfl rfl cok_50 rfl rfl ⟨_, _, rfl, .same _, ⟨_, _, rfl, Lend.srMap 1 rfl (fun _ => rfl) (.head _), rfl⟩⟩ (bwCons (k := 0) rfl bwNil) (ok_spec_l1Cur_among hh9) rfl (.inr ⟨(by first | omega | (dsimp only; omega)), by rintro _ _ ⟨rfl, rfl⟩; exact ⟨by simp [PV.no, PV.noL, optS_no, noL_iff, nbeq] <;> omega, by intro b ob h; first | exact optH_no (noL_map (fun _ => by simp [PV.no, PV.noL, noL_iff, nbeq]) _) b ob h | (simp at h; obtain ⟨rfl, rfl⟩ := h; exact noL_map (fun _ => by simp [PV.no, PV.noL, noL_iff, nbeq]) _) | (simp at h; obtain ⟨rfl, rfl⟩ := h; simp [PV.no, PV.noL, optS_no, noL_iff, nbeq] <;> omega)⟩⟩) (ltb rfl) ?_)
           rintro _ _ ⟨rfl, rfl⟩
           refine ⟨_, _, rfl, ?_⟩
           refine WalkP.step (p := ?pv1556) 8 rfl rfl rfl rfl rfl (⟨_, _, rfl, rfl, ⟨_, _, rfl, rfl, rfl⟩⟩) ?hv1556 ?rest1556
           case hv1556 =>
            intro E1 H1 hI1
            refine (V1.build rfl rfl zk_46 pl_46 rfl rfl (ltb rfl) ?_)
            exact rfl
           refine WalkP.nil ?_
           refine NodeS.branch [1, 9] inNil rfl rfl rfl ⟨?_, ?_, trivial⟩
           ·
            refine ⟨_, _, _, _, rfl, rfl, rfl, (⟨_, _, rfl, rfl, rfl⟩), fun E1 => ?_⟩
            refine (V1.loadRef (k := 4) rfl rfl tyk_42 rfl rfl rfl rfl rfl (ltb rfl) ?_)
            refine ⟨_, _, rfl, ?_⟩
            refine WalkP.nil ?_
            refine NodeS.branch [9] inNil rfl rfl rfl ⟨?_, trivial⟩
            ·
             refine ⟨_, _, _, _, rfl, rfl, rfl, (⟨_, _, rfl, rfl, rfl⟩), fun E1 => ?_⟩
             refine (V1.buildSliceT (f := encEvent) ([(⟨y8.1, y9.1⟩ : Event)] : List Event) rfl rfl esz_42 zk_46 rfl rfl rfl rfl rfl rfl rfl (ltb rfl) ?_)
             intro b88
             refine ⟨_, _, rfl, ?_⟩
             refine WalkP.nil ?_
             refine NodeS.fin inNil rfl rfl rfl (⟨_, _, rfl, rfl, ⟨_, _, rfl, rfl, ⟨_, _, rfl, rfl, ⟨_, _, rfl, rfl, rfl⟩⟩⟩⟩) ?_
             refine VO.cons rfl (V1.appendMap (k := 4) (f := encEvent) (l := r_Events) (m := ([(⟨y8.1, y9.1⟩ : Event)] : List Event)) rfl rfl rfl rfl rfl esz_42 eby_42 zk_46 rfl rfl rfl (SrcOf.srMap (k := 0) rfl isl_42) hh10 (ltb rfl) ?_)
             intro b89
             refine VO.cons rfl (V1.fieldRef rfl rfl fo_44_3 rfl (ltb rfl) ?_)
             refine VO.cons rfl (V1.storeRef (k := 5) rfl rfl tyk_42 rfl rfl rfl rfl rfl rfl rfl rfl rfl ?_)
             refine VO.nil ?_
             exact ⟨(((r_Events ++ ([(⟨y8.1, y9.1⟩ : Event)] : List Event)), y9.2), b89), Option.some.inj hm2, Keeps.mk (ks := [0, 2, 5, 6]) rfl ⟨rfl, rfl, trivial⟩ (⟨_, _, rfl, rfl, ⟨_, _, rfl, rfl, ⟨_, _, rfl, rfl, ⟨_, _, rfl, rfl, rfl⟩⟩⟩⟩) rfl⟩
           ·
            refine ⟨_, _, _, _, rfl, rfl, rfl, (⟨_, _, rfl, rfl, rfl⟩), fun E1 => ?_⟩
            refine (V1.buildSliceT (f := encEvent) ([(⟨y8.1, y9.1⟩ : Event)] : List Event) rfl rfl esz_42 zk_46 rfl rfl rfl rfl rfl rfl rfl (ltb rfl) ?_)
            intro b90
            refine ⟨_, _, rfl, ?_⟩
            refine WalkP.nil ?_
            refine NodeS.branch [1] inNil rfl rfl rfl ⟨?_, trivial⟩
            ·
             refine ⟨_, _, _, _, rfl, rfl, rfl, (⟨_, _, rfl, rfl, rfl⟩), fun E1 => ?_⟩
             refine (V1.loadRef (k := 5) rfl rfl tyk_42 rfl rfl rfl rfl rfl (ltb rfl) ?_)
             refine ⟨_, _, rfl, ?_⟩
             refine WalkP.nil ?_
             refine NodeS.fin inNil rfl rfl rfl (⟨_, _, rfl, rfl, ⟨_, _, rfl, rfl, ⟨_, _, rfl, rfl, ⟨_, _, rfl, rfl, rfl⟩⟩⟩⟩) ?_
             refine VO.cons rfl (V1.appendMap (k := 4) (f := encEvent) (l := r_Events) (m := ([(⟨y8.1, y9.1⟩ : Event)] : List Event)) rfl rfl rfl rfl rfl esz_42 eby_42 zk_46 rfl rfl rfl (SrcOf.srMap (k := 0) rfl isl_42) hh10 (ltb rfl) ?_)
             intro b91
             refine VO.cons rfl (V1.fieldRef rfl rfl fo_44_3 rfl (ltb rfl) ?_)
             refine VO.cons rfl (V1.storeRef (k := 5) rfl rfl tyk_42 rfl rfl rfl rfl rfl rfl rfl rfl rfl ?_)
             refine VO.nil ?_
             exact ⟨(((r_Events ++ ([(⟨y8.1, y9.1⟩ : Event)] : List Event)), y9.2), b91), Option.some.inj hm2, Keeps.mk (ks := [0, 2, 5, 6]) rfl ⟨rfl, rfl, trivial⟩ (⟨_, _, rfl, rfl, ⟨_, _, rfl, rfl, ⟨_, _, rfl, rfl, ⟨_, _, rfl, rfl, rfl⟩⟩⟩⟩) rfl⟩
       ·
        refine ⟨_, _, _, _, rfl, rfl, rfl, (rfl), fun E1 => ?_⟩
        refine (V1.buildSliceT (f := encInt) ([(0 : Int), (20000 : Int)] : List Int) rfl rfl esz_69 zk_3 rfl rfl rfl rfl rfl rfl rfl (ltb rfl) ?_)
        intro b92
        refine ⟨_, _, rfl, ?_⟩
        refine WalkP.nil ?_
        refine NodeS.branch [1, 3] inNil rfl rfl rfl ⟨?_, ?_, trivial⟩
        ·
         refine ⟨_, _, _, _, rfl, rfl, rfl, (⟨_, _, rfl, rfl, rfl⟩), fun E1 => ?_⟩
         refine (V1.loadRef (k := 3) rfl rfl tyk_42 rfl rfl rfl rfl rfl (ltb rfl) ?_)
         refine ⟨_, _, rfl, ?_⟩
         refine WalkP.nil ?_
         refine NodeS.branch [3] inNil rfl rfl rfl ⟨?_, trivial⟩
         ·
          refine ⟨_, _, _, _, rfl, rfl, rfl, (rfl), fun E1 => ?_⟩
          refine (V1.buildSliceT (f := encInt) ([(1 : Int), (9 : Int), (10 : Int)] : List Int) rfl rfl esz_69 zk_3 rfl rfl rfl rfl rfl rfl rfl (ltb rfl) ?_)
          intro b93
          refine ⟨_, _, rfl, ?_⟩
          refine WalkP.nil ?_
          refine NodeS.branch [4] inNil rfl rfl rfl ⟨?_, trivial⟩
          ·
           refine ⟨_, _, _, _, rfl, rfl, rfl, (⟨_, _, rfl, rfl, ⟨_, _, rfl, rfl, rfl⟩⟩), fun E1 => ?_⟩
           refine (V1.callM 2 (rn + ρ0 + 1) [b93] [.ref bp 3 0 0, .vl (rn + ρ0 + 1) 1 (List.map encInt ([(1 : Int), (9 : Int), (10 : Int)] : List Int))] (p := (bp, ⟨3, [encCur ρ0 y5.2]⟩)) rfl rfl rfl cok_50 rfl rfl ⟨_, _, rfl, .same _, ⟨_, _, rfl, Lend.srMap 0 rfl (fun _ => rfl) (.head _), rfl⟩⟩ (bwCons (k := 0) rfl bwNil) (ok_spec_l1Cur_among hh8) rfl (.inr ⟨(by first | omega | (dsimp only; omega)), by rintro _ _ ⟨rfl, rfl⟩; exact ⟨by simp [PV.no, PV.noL, optS_no, noL_iff, nbeq] <;> omega, by intro b ob h; first | exact optH_no (noL_map (fun _ => by simp [PV.no, PV.noL, noL_iff, nbeq]) _) b ob h | (simp at h; obtain ⟨rfl, rfl⟩ := h; exact noL_map (fun _ => by simp [PV.no, PV.noL, noL_iff, nbeq]) _) | (simp at h; obtain ⟨rfl, rfl⟩ := h; simp [PV.no, PV.noL, optS_no, noL_iff, nbeq] <;> omega)⟩⟩) (ltb rfl) ?_)
           rintro _ _ ⟨rfl, rfl⟩
           refine ⟨_, _, rfl, ?_⟩
           refine WalkP.nil ?_
           refine NodeS.branch [7] inNil rfl rfl rfl ⟨?_, trivial⟩
           ·
            refine ⟨_, _, _, _, rfl, rfl, rfl, (⟨_, _, rfl, rfl, ⟨_, _, rfl, rfl, rfl⟩⟩), fun E1 => ?_⟩
            refine (V1.callM 0 (rn + ρ0 + 1) [b92] [.ref bp 3 0 0, .vl (rn + ρ0 + 1) 1 (List.map encInt ([(0 : Int), (20000 : Int)] : List Int))] (p := (bp, ⟨3, [encCur ρ0 y8.2]⟩)) rfl rfl rfl cok_50 rfl rfl ⟨_, _, rfl, .same _, ⟨_, _, rfl, Lend.srMap 2 rfl (fun _ => rfl) (.head _), rfl⟩⟩ (bwCons (k := 1) rfl bwNil) (ok_spec_l1Cur_among hh9) rfl (.inr ⟨(by first | omega | (dsimp only; omega)), by rintro _ _ ⟨rfl, rfl⟩; exact ⟨by simp [PV.no, PV.noL, optS_no, noL_iff, nbeq] <;> omega, by intro b ob h; first | exact optH_no (noL_map (fun _ => by simp [PV.no, PV.noL, noL_iff, nbeq]) _) b ob h | (simp at h; obtain ⟨rfl, rfl⟩ := h; exact noL_map (fun _ => by simp [PV.no, PV.noL, noL_iff, nbeq]) _) | (simp at h; obtain ⟨rfl, rfl⟩ := h; simp [PV.no, PV.noL, optS_no, noL_iff, nbeq] <;> omega)⟩⟩) (ltb rfl) ?_)
            rintro _ _ ⟨rfl, rfl⟩
            refine ⟨_, _, rfl, ?_⟩
            refine WalkP.step (p := ?pv1557) 8 rfl rfl rfl rfl rfl (⟨_, _, rfl, rfl, ⟨_, _, rfl, rfl, rfl⟩⟩) ?hv1557 ?rest1557
            case hv1557 =>
             intro E1 H1 hI1
             refine (V1.build rfl rfl zk_46 pl_46 rfl rfl (ltb rfl) ?_)
             exact rfl
            refine WalkP.nil ?_
            refine NodeS.branch [9] inNil rfl rfl rfl ⟨?_, trivial⟩
            ·
             refine ⟨_, _, _, _, rfl, rfl, rfl, (⟨_, _, rfl, rfl, rfl⟩), fun E1 => ?_⟩
             refine (V1.buildSliceT (f := encEvent) ([(⟨y8.1, y9.1⟩ : Event)] : List Event) rfl rfl esz_42 zk_46 rfl rfl rfl rfl rfl rfl rfl (ltb rfl) ?_)
             intro b94
             refine ⟨_, _, rfl, ?_⟩
             refine WalkP.nil ?_
             refine NodeS.fin inNil rfl rfl rfl (⟨_, _, rfl, rfl, ⟨_, _, rfl, rfl, ⟨_, _, rfl, rfl, ⟨_, _, rfl, rfl, rfl⟩⟩⟩⟩) ?_
             refine VO.cons rfl (V1.appendMap (k := 4) (f := encEvent) (l := r_Events) (m := ([(⟨y8.1, y9.1⟩ : Event)] : List Event)) rfl rfl rfl rfl rfl esz_42 eby_42 zk_46 rfl rfl rfl (SrcOf.srMap (k := 0) rfl isl_42) hh10 (ltb rfl) ?_)
             intro b95
             refine VO.cons rfl (V1.fieldRef rfl rfl fo_44_3 rfl (ltb rfl) ?_)
             refine VO.cons rfl (V1.storeRef (k := 5) rfl rfl tyk_42 rfl rfl rfl rfl rfl rfl rfl rfl rfl ?_)
             refine VO.nil ?_
             exact ⟨(((r_Events ++ ([(⟨y8.1, y9.1⟩ : Event)] : List Event)), y9.2), b95), Option.some.inj hm2, Keeps.mk (ks := [0, 2, 5, 6]) rfl ⟨rfl, rfl, trivial⟩ (⟨_, _, rfl, rfl, ⟨_, _, rfl, rfl, ⟨_, _, rfl, rfl, ⟨_, _, rfl, rfl, rfl⟩⟩⟩⟩) rfl⟩
        ·
         refine ⟨_, _, _, _, rfl, rfl, rfl, (rfl), fun E1 => ?_⟩
         refine (V1.buildSliceT (f := encInt) ([(1 : Int), (9 : Int), (10 : Int)] : List Int) rfl rfl esz_69 zk_3 rfl rfl rfl rfl rfl rfl rfl (ltb rfl) ?_)
         intro b96
         refine ⟨_, _, rfl, ?_⟩
         refine WalkP.nil ?_
         refine NodeS.branch [1, 4] inNil rfl rfl rfl ⟨?_, ?_, trivial⟩
         ·
          refine ⟨_, _, _, _, rfl, rfl, rfl, (⟨_, _, rfl, rfl, rfl⟩), fun E1 => ?_⟩
          refine (V1.loadRef (k := 4) rfl rfl tyk_42 rfl rfl rfl rfl rfl (ltb rfl) ?_)
          refine ⟨_, _, rfl, ?_⟩
          refine WalkP.nil ?_
          refine NodeS.branch [4] inNil rfl rfl rfl ⟨?_, trivial⟩
          ·
           refine ⟨_, _, _, _, rfl, rfl, rfl, (⟨_, _, rfl, rfl, ⟨_, _, rfl, rfl, rfl⟩⟩), fun E1 => ?_⟩
           refine (V1.callM 2 (rn + ρ0 + 1) [b96] [.ref bp 3 0 0, .vl (rn + ρ0 + 1) 1 (List.map encInt ([(1 : Int), (9 : Int), (10 : Int)] : List Int))] (p := (bp, ⟨3, [encCur ρ0 y5.2]⟩)) rfl rfl rfl cok_50 rfl rfl ⟨_, _, rfl, .same _, ⟨_, _, rfl, Lend.srMap 0 rfl (fun _ => rfl) (.head _), rfl⟩⟩ (bwCons (k := 0) rfl bwNil) (ok_spec_l1Cur_among hh8) rfl (.inr ⟨(by first | omega | (dsimp only; omega)), by rintro _ _ ⟨rfl, rfl⟩; exact ⟨by simp [PV.no, PV.noL, optS_no, noL_iff, nbeq] <;> omega, by intro b ob h; first | exact optH_no (noL_map (fun _ => by simp [PV.no, PV.noL, noL_iff, nbeq]) _) b ob h | (simp at h; obtain ⟨rfl, rfl⟩ := h; exact noL_map (fun _ => by simp [PV.no, PV.noL, noL_iff, nbeq]) _) | (simp at h; obtain ⟨rfl, rfl⟩ := h; simp [PV.no, PV.noL, optS_no, noL_iff, nbeq] <;> omega)⟩⟩) (ltb rfl) ?_)
           rintro _ _ ⟨rfl, rfl⟩
           refine ⟨_, _, rfl, ?_⟩
           refine WalkP.nil ?_
           refine NodeS.branch [7] inNil rfl rfl rfl ⟨?_, trivial⟩
           ·
            refine ⟨_, _, _, _, rfl, rfl, rfl, (⟨_, _, rfl, rfl, ⟨_, _, rfl, rfl, rfl⟩⟩), fun E1 => ?_⟩
            refine (V1.callM 0 (rn + ρ0 + 1) [b92] [.ref bp 3 0 0, .vl (rn + ρ0 + 1) 1 (List.map encInt ([(0 : Int), (20000 : Int)] : List Int))] (p := (bp, ⟨3, [encCur ρ0 y8.2]⟩)) rfl rfl rfl cok_50 rfl rfl ⟨_, _, rfl, .same _, ⟨_, _, rfl, Lend.srMap 2 rfl (fun _ => rfl) (.head _), rfl⟩⟩ (bwCons (k := 1) rfl bwNil) (ok_spec_l1Cur_among hh9) rfl (.inr ⟨(by first | omega | (dsimp only; omega)), by rintro _ _ ⟨rfl, rfl⟩; exact ⟨by simp [PV.no, PV.noL, optS_no, noL_iff, nbeq] <;> omega, by intro b ob h; first | exact optH_no (noL_map (fun _ => by simp [PV.no, PV.noL, noL_iff, nbeq]) _) b ob h | (simp at h; obtain ⟨rfl, rfl⟩ := h; exact noL_map (fun _ => by simp [PV.no, PV.noL, noL_iff, nbeq]) _) | (simp at h; obtain ⟨rfl, rfl⟩ := h; simp [PV.no, PV.noL, optS_no, noL_iff, nbeq] <;> omega)⟩⟩) (ltb rfl) ?_)
            rintro _ _ ⟨rfl, rfl⟩
            refine ⟨_, _, rfl, ?_⟩
            refine WalkP.step (p := ?pv1558) 8 rfl rfl rfl rfl rfl (⟨_, _, rfl, rfl, ⟨_, _, rfl, rfl, rfl⟩⟩) ?hv1558 ?rest1558
            case hv1558 =>
             intro E1 H1 hI1
             refine (V1.build rfl rfl zk_46 pl_46 rfl rfl (ltb rfl) ?_)
             exact rfl
            refine WalkP.nil ?_
            refine NodeS.branch [9] inNil rfl rfl rfl ⟨?_, trivial⟩
            ·
             refine ⟨_, _, _, _, rfl, rfl, rfl, (⟨_, _, rfl, rfl, rfl⟩), fun E1 => ?_⟩
             refine (V1.buildSliceT (f := encEvent) ([(⟨y8.1, y9.1⟩ : Event)] : List Event) rfl rfl esz_42 zk_46 rfl rfl rfl rfl rfl rfl rfl (ltb rfl) ?_)
             intro b97
             refine ⟨_, _, rfl, ?_⟩
             refine WalkP.nil ?_
             refine NodeS.fin inNil rfl rfl rfl (⟨_, _, rfl, rfl, ⟨_, _, rfl, rfl, ⟨_, _, rfl, rfl, ⟨_, _, rfl, rfl, rfl⟩⟩⟩⟩) ?_
             refine VO.cons rfl (V1.appendMap (k := 4) (f := encEvent) (l := r_Events) (m := ([(⟨y8.1, y9.1⟩ : Event)] : List Event)) rfl rfl rfl rfl rfl esz_42 eby_42 zk_46 rfl rfl rfl (SrcOf.srMap (k := 0) rfl isl_42) hh10 (ltb rfl) ?_)
             intro b98
             refine VO.cons rfl (V1.fieldRef rfl rfl fo_44_3 rfl (ltb rfl) ?_)
             refine VO.cons rfl (V1.storeRef (k := 5) rfl rfl tyk_42 rfl rfl rfl rfl rfl rfl rfl rfl rfl ?_)
             refine VO.nil ?_
             exact ⟨(((r_Events ++ ([(⟨y8.1, y9.1⟩ : Event)] : List Event)), y9.2), b98), Option.some.inj hm2, Keeps.mk (ks := [0, 2, 5, 6]) rfl ⟨rfl, rfl, trivial⟩ (⟨_, _, rfl, rfl, ⟨_, _, rfl, rfl, ⟨_, _, rfl, rfl, ⟨_, _, rfl, rfl, rfl⟩⟩⟩⟩) rfl⟩
         ·
          refine ⟨_, _, _, _, rfl, rfl, rfl, (⟨_, _, rfl, rfl, ⟨_, _, rfl, rfl, rfl⟩⟩), fun E1 => ?_⟩
          refine (V1.callM 2 (rn + ρ0 + 1) [b96] [.ref bp 3 0 0, .vl (rn + ρ0 + 1) 1 (List.map encInt ([(1 : Int), (9 : Int), (10 : Int)] : List Int))] (p := (bp, ⟨3, [encCur ρ0 y5.2]⟩)) rfl rfl rfl cok_50 rfl rfl ⟨_, _, rfl, .same _, ⟨_, _, rfl, Lend.srMap 0 rfl (fun _ => rfl) (.head _), rfl⟩⟩ (bwCons (k := 0) rfl bwNil) (ok_spec_l1Cur_among hh8) rfl (.inr ⟨(by first | omega | (dsimp only; omega)), by rintro _ _ ⟨rfl, rfl⟩; exact ⟨by simp [PV.no, PV.noL, optS_no, noL_iff, nbeq] <;> omega, by intro b ob h; first | exact optH_no (noL_map (fun _ => by simp [PV.no, PV.noL, noL_iff, nbeq]) _) b ob h | (simp at h; obtain ⟨rfl, rfl⟩ := h; exact noL_map (fun _ => by simp [PV.no, PV.noL, noL_iff, nbeq]) _) | (simp at h; obtain ⟨rfl, rfl⟩ := h; simp [PV.no, PV.noL, optS_no, noL_iff, nbeq] <;> omega)⟩⟩) (ltb rfl) ?_)
          rintro _ _ ⟨rfl, rfl⟩
          refine ⟨_, _, rfl, ?_⟩
          refine WalkP.nil ?_
          refine NodeS.branch [1, 7] inNil rfl rfl rfl ⟨?_, ?_, trivial⟩
          ·
           refine ⟨_, _, _, _, rfl, rfl, rfl, (⟨_, _, rfl, rfl, rfl⟩), fun E1 => ?_⟩
           refine (V1.loadRef (k := 4) rfl rfl tyk_42 rfl rfl rfl rfl rfl (ltb rfl) ?_)
           refine ⟨_, _, rfl, ?_⟩
           refine WalkP.nil ?_
           refine NodeS.branch [7] inNil rfl rfl rfl ⟨?_, trivial⟩
           ·
            refine ⟨_, _, _, _, rfl, rfl, rfl, (⟨_, _, rfl, rfl, ⟨_, _, rfl, rfl, rfl⟩⟩), fun E1 => ?_⟩
            refine (V1.callM 0 (rn + ρ0 + 1) [b92] [.ref bp 3 0 0, .vl (rn + ρ0 + 1) 1 (List.map encInt ([(0 : Int), (20000 : Int)] : List Int))] (p := (bp, ⟨3, [encCur ρ0 y8.2]⟩)) rfl rfl rfl cok_50 rfl rfl ⟨_, _, rfl, .same _, ⟨_, _, rfl, Lend.srMap 2 rfl (fun _ => rfl) (.head _), rfl⟩⟩ (bwCons (k := 1) rfl bwNil) (ok_spec_l1Cur_among hh9) rfl (.inr ⟨(by first | omega | (dsimp only; omega)), by rintro _ _ ⟨rfl, rfl⟩; exact ⟨by simp [PV.no, PV.noL, optS_no, noL_iff, nbeq] <;> omega, by intro b ob h; first | exact optH_no (noL_map (fun _ => by simp [PV.no, PV.noL, noL_iff, nbeq]) _) b ob h | (simp at h; obtain ⟨rfl, rfl⟩ := h; exact noL_map (fun _ => by simp [PV.no, PV.noL, noL_iff, nbeq]) _) | (simp at h; obtain ⟨rfl, rfl⟩ := h; simp [PV.no, PV.noL, optS_no, noL_iff, nbeq] <;> omega)⟩⟩) (ltb rfl) ?_)
            rintro _ _ ⟨rfl, rfl⟩
            refine ⟨_, _, rfl, ?_⟩
            refine WalkP.step (p := ?pv1559) 8 rfl rfl rfl rfl rfl (⟨_, _, rfl, rfl, ⟨_, _, rfl, rfl, rfl⟩⟩) ?hv1559 ?rest1559
            case hv1559 =>
             intro E1 H1 hI1
             refine (V1.build rfl rfl zk_46 pl_46 rfl rfl (ltb rfl) ?_)
             exact rfl
            refine WalkP.nil ?_
            refine NodeS.branch [9] inNil rfl rfl rfl ⟨?_, trivial⟩
            ·
             refine ⟨_, _, _, _, rfl, rfl, rfl, (⟨_, _, rfl, rfl, rfl⟩), fun E1 => ?_⟩
             refine (V1.buildSliceT (f := encEvent) ([(⟨y8.1, y9.1⟩ : Event)] : List Event) rfl rfl esz_42 zk_46 rfl rfl rfl rfl rfl rfl rfl (ltb rfl) ?_)
             intro b99
             refine ⟨_, _, rfl, ?_⟩
             refine WalkP.nil ?_
             refine NodeS.fin inNil rfl rfl rfl (⟨_, _, rfl, rfl, ⟨_, _, rfl, rfl, ⟨_, _, rfl, rfl, ⟨_, _, rfl, rfl, rfl⟩⟩⟩⟩) ?_
             refine VO.cons rfl (V1.appendMap (k := 4) (f := encEvent) (l := r_Events) (m := ([(⟨y8.1, y9.1⟩ : Event)] : List Event)) rfl rfl rfl rfl rfl esz_42 eby_42 zk_46 rfl rfl rfl (SrcOf.srMap (k := 0) rfl isl_42) hh10 (ltb rfl) ?_)
             intro b100
             refine VO.cons rfl (V1.fieldRef rfl rfl fo_44_3 rfl (ltb rfl) ?_)
             refine VO.cons rfl (V1.storeRef (k := 5) rfl rfl tyk_42 rfl rfl rfl rfl rfl rfl rfl rfl rfl ?_)
             refine VO.nil ?_
             exact ⟨(((r_Events ++ ([(⟨y8.1, y9.1⟩ : Event)] : List Event)), y9.2), b100), Option.some.inj hm2, Keeps.mk (ks := [0, 2, 5, 6]) rfl ⟨rfl, rfl, trivial⟩ (⟨_, _, rfl, rfl, ⟨_, _, rfl, rfl, ⟨_, _, rfl, rfl, ⟨_, _, rfl, rfl, rfl⟩⟩⟩⟩) rfl⟩
          ·
           refine ⟨_, _, _, _, rfl, rfl, rfl, (⟨_, _, rfl, rfl, ⟨_, _, rfl, rfl, rfl⟩⟩), fun E1 => ?_⟩
           refine (V1.callM 0 (rn + ρ0 + 1) [b92] [.ref bp 3 0 0, .vl (rn + ρ0 + 1) 1 (List.map encInt ([(0 : Int), (20000 : Int)] : List Int))] (p := (bp, ⟨3, [encCur ρ0 y8.2]⟩)) rfl rfl rfl cok_50 rfl rfl ⟨_, _, rfl, .same _, ⟨_, _, rfl, Lend.srMap 2 rfl (fun _ => rfl) (.head _), rfl⟩⟩ (bwCons (k := 1) rfl bwNil) (ok_spec_l1Cur_among hh9) rfl (.inr ⟨(by first | omega | (dsimp only; omega)), by rintro _ _ ⟨rfl, rfl⟩; exact ⟨by simp [PV.no, PV.noL, optS_no, noL_iff, nbeq] <;> omega, by intro b ob h; first | exact optH_no (noL_map (fun _ => by simp [PV.no, PV.noL, noL_iff, nbeq]) _) b ob h | (simp at h; obtain ⟨rfl, rfl⟩ := h; exact noL_map (fun _ => by simp [PV.no, PV.noL, noL_iff, nbeq]) _) | (simp at h; obtain ⟨rfl, rfl⟩ := h; simp [PV.no, PV.noL, optS_no, noL_iff, nbeq] <;> omega)⟩⟩) (ltb rfl) ?_)
           rintro _ _ ⟨rfl, rfl⟩
           refine ⟨_, _, rfl, ?_⟩
           refine WalkP.step (p := ?pv1560) 8 rfl rfl rfl rfl rfl (⟨_, _, rfl, rfl, ⟨_, _, rfl, rfl, rfl⟩⟩) ?hv1560 ?rest1560
           case hv1560 =>
            intro E1 H1 hI1
            refine (V1.build rfl rfl zk_46 pl_46 rfl rfl (ltb rfl) ?_)
            exact rfl
           refine WalkP.nil ?_
           refine NodeS.branch [1, 9] inNil rfl rfl rfl ⟨?_, ?_, trivial⟩
           ·
            refine ⟨_, _, _, _, rfl, rfl, rfl, (⟨_, _, rfl, rfl, rfl⟩), fun E1 => ?_⟩
            refine (V1.loadRef (k := 4) rfl rfl tyk_42 rfl rfl rfl rfl rfl (ltb rfl) ?_)
            refine ⟨_, _, rfl, ?_⟩
            refine WalkP.nil ?_
            refine NodeS.branch [9] inNil rfl rfl rfl ⟨?_, trivial⟩
            ·
             refine ⟨_, _, _, _, rfl, rfl, rfl, (⟨_, _, rfl, rfl, rfl⟩), fun E1 => ?_⟩
             refine (V1.buildSliceT (f := encEvent) ([(⟨y8.1, y9.1⟩ : Event)] : List Event) rfl rfl esz_42 zk_46 rfl rfl rfl rfl rfl rfl rfl (ltb rfl) ?_)
             intro b101
             refine ⟨_, _, rfl, ?_⟩
             refine WalkP.nil ?_
             refine NodeS.fin inNil rfl rfl rfl (⟨_, _, rfl, rfl, ⟨_, _, rfl, rfl, ⟨_, _, rfl, rfl, ⟨_, _, rfl, rfl, rfl⟩⟩⟩⟩) ?_
             refine VO.cons rfl (V1.appendMap (k := 4) (f := encEvent) (l := r_Events) (m := ([(⟨y8.1, y9.1⟩ : Event)] : List Event)) rfl rfl rfl rfl rfl esz_42 eby_42 zk_46 rfl rfl rfl (SrcOf.srMap (k := 0) rfl isl_42) hh10 (ltb rfl) ?_)
             intro b102
             refine VO.cons rfl (V1.fieldRef rfl rfl fo_44_3 rfl (ltb rfl) ?_)
             refine VO.cons rfl (V1.storeRef (k := 5) rfl rfl tyk_42 rfl rfl rfl rfl rfl rfl rfl rfl rfl ?_)
             refine VO.nil ?_
             exact ⟨(((r_Events ++ ([(⟨y8.1, y9.1⟩ : Event)] : List Event)), y9.2), b102), Option.some.inj hm2, Keeps.mk (ks := [0, 2, 5, 6]) rfl ⟨rfl, rfl, trivial⟩ (⟨_, _, rfl, rfl, ⟨_, _, rfl, rfl, ⟨_, _, rfl, rfl, ⟨_, _, rfl, rfl, rfl⟩⟩⟩⟩) rfl⟩
           ·
            refine ⟨_, _, _, _, rfl, rfl, rfl, (⟨_, _, rfl, rfl, rfl⟩), fun E1 => ?_⟩
            refine (V1.buildSliceT (f := encEvent) ([(⟨y8.1, y9.1⟩ : Event)] : List Event) rfl rfl esz_42 zk_46 rfl rfl rfl rfl rfl rfl rfl (ltb rfl) ?_)
            intro b103
            refine ⟨_, _, rfl, ?_⟩
            refine WalkP.nil ?_
            refine NodeS.branch [1] inNil rfl rfl rfl ⟨?_, trivial⟩
            ·
             refine ⟨_, _, _, _, rfl, rfl, rfl, (⟨_, _, rfl, rfl, rfl⟩), fun E1 => ?_⟩
             refine (V1.loadRef (k := 5) rfl rfl tyk_42 rfl rfl rfl rfl rfl (ltb rfl) ?_)
             refine ⟨_, _, rfl, ?_⟩
             refine WalkP.nil ?_
             refine NodeS.fin inNil rfl rfl rfl (⟨_, _, rfl, rfl, ⟨_, _, rfl, rfl, ⟨_, _, rfl, rfl, ⟨_, _, rfl, rfl, rfl⟩⟩⟩⟩) ?_
             refine VO.cons rfl (V1.appendMap (k := 4) (f := encEvent) (l := r_Events) (m := ([(⟨y8.1, y9.1⟩ : Event)] : List Event)) rfl rfl rfl rfl rfl esz_42 eby_42 zk_46 rfl rfl rfl (SrcOf.srMap (k := 0) rfl isl_42) hh10 (ltb rfl) ?_)
             intro b104
             refine VO.cons rfl (V1.fieldRef rfl rfl fo_44_3 rfl (ltb rfl) ?_)
             refine VO.cons rfl (V1.storeRef (k := 5) rfl rfl tyk_42 rfl rfl rfl rfl rfl rfl rfl rfl rfl ?_)
             refine VO.nil ?_
             exact ⟨(((r_Events ++ ([(⟨y8.1, y9.1⟩ : Event)] : List Event)), y9.2), b104), Option.some.inj hm2, Keeps.mk (ks := [0, 2, 5, 6]) rfl ⟨rfl, rfl, trivial⟩ (⟨_, _, rfl, rfl, ⟨_, _, rfl, rfl, ⟨_, _, rfl, rfl, ⟨_, _, rfl, rfl, rfl⟩⟩⟩⟩) rfl⟩
      ·
       rintro ⟨⟨r_Events4, o⟩, b54⟩ rfl
       try dsimp only at hm1
       exact ⟨((y0.1, y1.1, r_Events4, o), b54), Option.some.inj hm1, Keeps.mk (ks := [0, 1, 2, 3]) rfl ⟨rfl, rfl, trivial⟩ (⟨_, _, rfl, rfl, ⟨_, _, rfl, rfl, ⟨_, _, rfl, rfl, ⟨_, _, rfl, rfl, rfl⟩⟩⟩⟩) rfl⟩
     ·
      replace hm1 := cond_f hc4 hm1
      refine V.skip ?_
      exact ⟨((y0.1, y1.1, r_Events, y5.2), b5), Option.some.inj hm1, Keeps.mk (ks := [1, 0, 2, 3]) rfl ⟨rfl, rfl, trivial⟩ (⟨_, _, rfl, rfl, ⟨_, _, rfl, rfl, ⟨_, _, rfl, rfl, ⟨_, _, rfl, rfl, rfl⟩⟩⟩⟩) rfl⟩
  ·
   rintro ⟨⟨r_Series, r_Made, r_Events3, c_3⟩, b47⟩ rfl
   try dsimp only at hm0
   refine V.seq ?_
   refine V.region ?_
   refine VO.cons rfl (V1.loadRefAll (k := 2) rfl rfl tyk_44 rfl rfl rfl rfl rfl (ltb rfl) ?_)
   refine VO.cons rfl (V1.storeRefAll (k := 3) rfl rfl tyk_44 rfl rfl rfl rfl rfl rfl ?_)
   refine VO.nil ?_
   refine V.weakenK (Keeps.freezeG 0 rn [(63, .agg [.int .i64 id_, .int .i64 r_Series, .int .i64 r_Made, .vl rn 2 (List.map encEvent r_Events3)])] [(bp, ⟨3, [encCur ρ0 c_3]⟩), (b4, ⟨4, [.agg [.int .i64 id_, .int .i64 r_Series, .int .i64 r_Made, .vl rn 2 (List.map encEvent r_Events3)]]⟩), (b0, ⟨4, [.agg [.int .i64 id_, .int .i64 r_Series, .int .i64 r_Made, .vl rn 2 (List.map encEvent r_Events3)]]⟩)] (f := encEvent) (l := r_Events3) rfl (fun _ => rfl) ⟨⟨_, rfl, (.agg (.cons .same (.cons .same (.cons .same (.cons .here .nil)))))⟩, trivial⟩ ⟨_, _, rfl, rfl, .inl rfl, ⟨_, _, rfl, rfl, .inr (.cons (.agg (.cons .same (.cons .same (.cons .same (.cons .here .nil))))) .nil), ⟨_, _, rfl, rfl, .inr (.cons (.agg (.cons .same (.cons .same (.cons .same (.cons .here .nil))))) .nil), rfl⟩⟩⟩ rfl (iOne (b := bp) 0 rfl)) ?_
   refine V.ret ?_
   obtain rfl := Option.some.inj hm0
   exact ⟨_, _, ⟨_, _, rfl, ⟨_, _, 2, _, rfl, rfl, rfl, rfl, tyk_44, rfl⟩, rfl⟩, (sub1 (k := 0) rfl), rfl, rfl⟩

theorem ok_spec_l1Cur_event {ρ0 rn bp : Nat} {c : Cur} {from_ : Int} {r : Event × Cur} (h : M.spec_l1Cur_event c from_ = some r) : Does Try.prog 68 [.ref bp 3 0 0, .int .i64 from_] [(bp, ⟨3, [encCur ρ0 c]⟩)] rn (fun x H => x = encEvent r.1 ∧ H = [(bp, ⟨3, [encCur ρ0 r.2]⟩)]) := by
 have hm0 := h; clear h; unfold M.spec_l1Cur_event at hm0
 try dsimp only at hm0
 refine Does.intro (N := 30) Try.func68 rfl rfl rfl rfl ?_
 intro w0 S0
 refine V.seq ?_
 refine V.region ?_
 refine VO.cons rfl (V1.alloc rfl rfl zk_46 (ltb rfl) ?_)
 intro b0
 refine VO.nil ?_
 refine V.seq ?_
 replace hm0 := bindO hm0; rcases hm0 with ⟨y0, hh0, hm0⟩
 replace hm0 := bindO hm0; rcases hm0 with ⟨y1, hh1, hm0⟩
 refine V.region ?_
 refine VO.cons rfl (V1.move rfl rfl rfl (ltb rfl) ?_)
 refine VO.cons rfl (V1.callM 1 (rn + ρ0 + 1) [] [.ref bp 3 0 0, .int .i64 (5 : Int)] (p := (bp, ⟨3, [encCur ρ0 c]⟩)) rfl rfl rfl cok_84 rfl rfl ⟨_, _, rfl, .same _, ⟨_, _, rfl, .same _, rfl⟩⟩ bwNil (ok_spec_l1Cur_pick hh0) rfl (.inl rfl) (ltb rfl) ?_)
 rintro _ _ ⟨rfl, rfl⟩
 refine VO.cons rfl (V1.int rfl rfl rfl rfl rfl (ltb rfl) ?_)
 refine VO.cons rfl (V1.move rfl rfl rfl (ltb rfl) ?_)
 refine VO.cons rfl (V1.move rfl rfl rfl (ltb rfl) ?_)
 refine VO.cons rfl (V1.buildSliceT (f := encInt) ([(0 : Int), (1 : Int), (30 : Int), (365 : Int), (400 : Int), (1000 : Int)] : List Int) rfl rfl esz_69 zk_3 rfl rfl rfl rfl rfl rfl rfl (ltb rfl) ?_)
 intro b1
 refine VO.cons rfl (V1.callM 1 (rn + ρ0 + 1) [b1] [.ref bp 3 0 0, .vl (rn + ρ0 + 1) 1 (List.map encInt ([(0 : Int), (1 : Int), (30 : Int), (365 : Int), (400 : Int), (1000 : Int)] : List Int))] (p := (bp, ⟨3, [encCur ρ0 y0.2]⟩)) rfl rfl rfl cok_50 rfl rfl ⟨_, _, rfl, .same _, ⟨_, _, rfl, Lend.srMap 0 rfl (fun _ => rfl) (.head _), rfl⟩⟩ (bwCons (k := 0) rfl bwNil) (ok_spec_l1Cur_among hh1) rfl (.inr ⟨(by first | omega | (dsimp only; omega)), by rintro _ _ ⟨rfl, rfl⟩; exact ⟨by simp [PV.no, PV.noL, optS_no, noL_iff, nbeq] <;> omega, by intro b ob h; first | exact optH_no (noL_map (fun _ => by simp [PV.no, PV.noL, noL_iff, nbeq]) _) b ob h | (simp at h; obtain ⟨rfl, rfl⟩ := h; exact noL_map (fun _ => by simp [PV.no, PV.noL, noL_iff, nbeq]) _) | (simp at h; obtain ⟨rfl, rfl⟩ := h; simp [PV.no, PV.noL, optS_no, noL_iff, nbeq] <;> omega)⟩⟩) (ltb rfl) ?_)
 rintro _ _ ⟨rfl, rfl⟩
 refine VO.cons rfl (V1.int rfl rfl rfl rfl rfl (ltb rfl) ?_)
 refine VO.cons rfl (V1.build rfl rfl zk_46 pl_46 rfl rfl (ltb rfl) ?_)
 refine VO.cons rfl (V1.alloc rfl rfl zk_46 (ltb rfl) ?_)
 intro b2
 refine VO.cons rfl (V1.storeRefAll (k := 0) rfl rfl tyk_46 rfl rfl rfl rfl rfl rfl ?_)
 refine VO.nil ?_
 refine V.keep 30 [0, 4, 5] [0, 1, 3] (E0 := [(0, .ref bp 3 0 0), (4, .ref b0 2 0 0), (5, .ref b2 2 0 0)]) (H0 := [(b2, ⟨2, [.agg [.int .i64 (IntKind.i64.wrap ((1 : Int) + y0.1)), .int .i64 (IntKind.i64.wrap (from_ + y1.1))]]⟩), (bp, ⟨3, [encCur ρ0 y1.2]⟩), (b0, ⟨2, [.agg [.int .i64 (0 : Int), .int .i64 (0 : Int)]]⟩)]) rfl (⟨_, _, rfl, rfl, ⟨_, _, rfl, rfl, ⟨_, _, rfl, rfl, rfl⟩⟩⟩) (⟨_, _, rfl, rfl, ⟨_, _, rfl, rfl, ⟨_, _, rfl, rfl, rfl⟩⟩⟩) rfl ?_
 refine V.seq ?_
 refine V.seq ?_
 replace hm0 := bindO hm0; rcases hm0 with ⟨y2, hh2, hm0⟩
 refine V.region ?_
 refine VO.cons rfl (V1.move rfl rfl rfl (ltb rfl) ?_)
 refine VO.cons rfl (V1.callM 1 (rn + ρ0 + 1) [] [.ref bp 3 0 0, .int .i64 (48 : Int)] (p := (bp, ⟨3, [encCur ρ0 y1.2]⟩)) rfl rfl rfl cok_84 rfl rfl ⟨_, _, rfl, .same _, ⟨_, _, rfl, .same _, rfl⟩⟩ bwNil (ok_spec_l1Cur_pick hh2) rfl (.inl rfl) (ltb rfl) ?_)
 rintro _ _ ⟨rfl, rfl⟩
 refine VO.nil ?_
 replace hm0 := bindO hm0; rcases hm0 with ⟨j0, hm1, hm0⟩
 refine V.cutT (D := (Cur × Event) × (Unit)) (fun ⟨⟨c_, e_⟩, _⟩ => ⟨30, [(4, .ref b0 2 0 0), (5, .ref b2 2 0 0)], [(bp, ⟨3, [encCur ρ0 c_]⟩), (b2, ⟨2, [encEvent e_]⟩), (b0, ⟨2, [.agg [.int .i64 (0 : Int), .int .i64 (0 : Int)]]⟩)]⟩) (fun ⟨⟨c_, e_⟩, _⟩ => ((c_, e_) = j0)) ?_ ?_
 ·
  refine V.block ?_
  refine V.seq ?_
  refine V.region ?_
  refine VO.cons rfl (V1.int rfl rfl rfl rfl rfl (ltb rfl) ?_)
  refine VO.cons rfl (V1.assign rfl rfl rfl (ltb rfl) ?_)
  refine VO.nil ?_
  refine V.cond rfl (fun hc0 => ?_) (fun hc0 => ?_)
  ·
   replace hm1 := cond_t hc0 hm1
   replace hm1 := bindO hm1; rcases hm1 with ⟨y3, hh3, hm1⟩
   refine V.region ?_
   refine VO.cons rfl (V1.move rfl rfl rfl (ltb rfl) ?_)
   refine VO.cons rfl (V1.buildSliceT (f := encInt) ([(0 : Int), (9 : Int), (10 : Int)] : List Int) rfl rfl esz_69 zk_3 rfl rfl rfl rfl rfl rfl rfl (ltb rfl) ?_)
   intro b3
   refine VO.cons rfl (V1.callM 1 (rn + ρ0 + 1) [b3] [.ref bp 3 0 0, .vl (rn + ρ0 + 1) 1 (List.map encInt ([(0 : Int), (9 : Int), (10 : Int)] : List Int))] (p := (bp, ⟨3, [encCur ρ0 y2.2]⟩)) rfl rfl rfl cok_50 rfl rfl ⟨_, _, rfl, .same _, ⟨_, _, rfl, Lend.srMap 0 rfl (fun _ => rfl) (.head _), rfl⟩⟩ (bwCons (k := 0) rfl bwNil) (ok_spec_l1Cur_among hh3) rfl (.inr ⟨(by first | omega | (dsimp only; omega)), by rintro _ _ ⟨rfl, rfl⟩; exact ⟨by simp [PV.no, PV.noL, optS_no, noL_iff, nbeq] <;> omega, by intro b ob h; first | exact optH_no (noL_map (fun _ => by simp [PV.no, PV.noL, noL_iff, nbeq]) _) b ob h | (simp at h; obtain ⟨rfl, rfl⟩ := h; exact noL_map (fun _ => by simp [PV.no, PV.noL, noL_iff, nbeq]) _) | (simp at h; obtain ⟨rfl, rfl⟩ := h; simp [PV.no, PV.noL, optS_no, noL_iff, nbeq] <;> omega)⟩⟩) (ltb rfl) ?_)
   rintro _ _ ⟨rfl, rfl⟩
   refine VO.cons rfl (V1.fieldRef rfl rfl fo_46_0 rfl (ltb rfl) ?_)
   refine VO.cons rfl (V1.storeRef (k := 2) rfl rfl tyk_3 rfl rfl rfl rfl rfl rfl rfl rfl rfl ?_)
   refine VO.nil ?_
   exact ⟨((y3.2, (⟨y3.1, (IntKind.i64.wrap (from_ + y1.1))⟩ : Event)), ()), Option.some.inj hm1, Keeps.mk (ks := [0, 2, 3]) rfl ⟨rfl, rfl, trivial⟩ (⟨_, _, rfl, rfl, ⟨_, _, rfl, rfl, ⟨_, _, rfl, rfl, rfl⟩⟩⟩) rfl⟩
  ·
   replace hm1 := cond_f hc0 hm1
   refine V.seq ?_
   refine V.region ?_
   refine VO.cons rfl (V1.int rfl rfl rfl rfl rfl (ltb rfl) ?_)
   refine VO.cons rfl (V1.assign rfl rfl rfl (ltb rfl) ?_)
   refine VO.nil ?_
   refine V.keep 30 [0, 4, 5, 23] [0, 1, 2] (E0 := [(0, .ref bp 3 0 0), (4, .ref b0 2 0 0), (5, .ref b2 2 0 0), (23, .bool (y2.1 == (1 : Int)))]) (H0 := [(bp, ⟨3, [encCur ρ0 y2.2]⟩), (b2, ⟨2, [.agg [.int .i64 (IntKind.i64.wrap ((1 : Int) + y0.1)), .int .i64 (IntKind.i64.wrap (from_ + y1.1))]]⟩), (b0, ⟨2, [.agg [.int .i64 (0 : Int), .int .i64 (0 : Int)]]⟩)]) rfl (⟨_, _, rfl, rfl, ⟨_, _, rfl, rfl, ⟨_, _, rfl, rfl, ⟨_, _, rfl, rfl, rfl⟩⟩⟩⟩) (⟨_, _, rfl, rfl, ⟨_, _, rfl, rfl, ⟨_, _, rfl, rfl, rfl⟩⟩⟩) rfl ?_
   refine V.cond rfl (fun hc1 => ?_) (fun hc1 => ?_)
   ·
    replace hm1 := cond_t hc1 hm1
    replace hm1 := bindO hm1; rcases hm1 with ⟨y4, hh4, hm1⟩
    refine V.region ?_
    refine VO.cons rfl (V1.move rfl rfl rfl (ltb rfl) ?_)
    refine VO.cons rfl (V1.buildSliceT (f := encInt) ([(-1 : Int), (0 : Int), (20001 : Int)] : List Int) rfl rfl esz_69 zk_3 rfl rfl rfl rfl rfl rfl rfl (ltb rfl) ?_)
    intro b4
    refine VO.cons rfl (V1.callM 1 (rn + ρ0 + 1) [b4] [.ref bp 3 0 0, .vl (rn + ρ0 + 1) 1 (List.map encInt ([(-1 : Int), (0 : Int), (20001 : Int)] : List Int))] (p := (bp, ⟨3, [encCur ρ0 y2.2]⟩)) rfl rfl rfl cok_50 rfl rfl ⟨_, _, rfl, .same _, ⟨_, _, rfl, Lend.srMap 0 rfl (fun _ => rfl) (.head _), rfl⟩⟩ (bwCons (k := 0) rfl bwNil) (ok_spec_l1Cur_among hh4) rfl (.inr ⟨(by first | omega | (dsimp only; omega)), by rintro _ _ ⟨rfl, rfl⟩; exact ⟨by simp [PV.no, PV.noL, optS_no, noL_iff, nbeq] <;> omega, by intro b ob h; first | exact optH_no (noL_map (fun _ => by simp [PV.no, PV.noL, noL_iff, nbeq]) _) b ob h | (simp at h; obtain ⟨rfl, rfl⟩ := h; exact noL_map (fun _ => by simp [PV.no, PV.noL, noL_iff, nbeq]) _) | (simp at h; obtain ⟨rfl, rfl⟩ := h; simp [PV.no, PV.noL, optS_no, noL_iff, nbeq] <;> omega)⟩⟩) (ltb rfl) ?_)
    rintro _ _ ⟨rfl, rfl⟩
    refine VO.cons rfl (V1.fieldRef rfl rfl fo_46_1 rfl (ltb rfl) ?_)
    refine VO.cons rfl (V1.storeRef (k := 2) rfl rfl tyk_3 rfl rfl rfl rfl rfl rfl rfl rfl rfl ?_)
    refine VO.nil ?_
    exact ⟨((y4.2, (⟨(IntKind.i64.wrap ((1 : Int) + y0.1)), y4.1⟩ : Event)), ()), Option.some.inj hm1, Keeps.mk (ks := [0, 2, 3]) rfl ⟨rfl, rfl, trivial⟩ (⟨_, _, rfl, rfl, ⟨_, _, rfl, rfl, ⟨_, _, rfl, rfl, rfl⟩⟩⟩) rfl⟩
   ·
    replace hm1 := cond_f hc1 hm1
    refine V.skip ?_
    exact ⟨((y2.2, (⟨(IntKind.i64.wrap ((1 : Int) + y0.1)), (IntKind.i64.wrap (from_ + y1.1))⟩ : Event)), ()), Option.some.inj hm1, Keeps.mk (ks := [0, 1, 2]) rfl ⟨rfl, rfl, trivial⟩ (⟨_, _, rfl, rfl, ⟨_, _, rfl, rfl, ⟨_, _, rfl, rfl, rfl⟩⟩⟩) rfl⟩
 ·
  rintro ⟨⟨c_, e_⟩, _⟩ rfl
  try dsimp only at hm0
  refine V.seq ?_
  refine V.region ?_
  refine VO.cons rfl (V1.loadRefAll (k := 1) rfl rfl tyk_46 rfl rfl rfl rfl rfl (ltb rfl) ?_)
  refine VO.cons rfl (V1.storeRefAll (k := 2) rfl rfl tyk_46 rfl rfl rfl rfl rfl rfl ?_)
  refine VO.nil ?_
  refine V.ret ?_
  obtain rfl := Option.some.inj hm0
  exact ⟨_, _, ⟨_, _, rfl, ⟨_, _, 2, _, rfl, rfl, rfl, rfl, tyk_46, rfl⟩, rfl⟩, (sub1 (k := 0) rfl), rfl, rfl⟩

theorem ok_spec_DrawAddEvent {ρ0 rn : Nat} {code : List Int} {r : Record × Event} (h : M.spec_DrawAddEvent code = some r) : Does Try.prog 23 [.vl ρ0 1 (List.map encU8 code)] [] rn (fun x H => x = .tup [encRecord rn r.1, encEvent r.2] ∧ H = []) := by
 have hm0 := h; clear h; unfold M.spec_DrawAddEvent at hm0
 try dsimp only at hm0
 refine Does.intro (N := 20) Try.func23 rfl rfl rfl rfl ?_
 intro w0 S0
 refine V.seq ?_
 refine V.region ?_
 refine VO.cons rfl (V1.alloc rfl rfl zk_44 (ltb rfl) ?_)
 intro b0
 refine VO.cons rfl (V1.alloc rfl rfl zk_46 (ltb rfl) ?_)
 intro b1
 refine VO.nil ?_
 refine V.seq ?_
 refine V.region ?_
 refine VO.cons rfl (V1.move rfl rfl rfl (ltb rfl) ?_)
 refine VO.cons rfl (V1.build rfl rfl zk_80 pl_80 rfl rfl (ltb rfl) ?_)
 refine VO.cons rfl (V1.boxN (n := 3) rfl rfl rfl rfl rfl (ltb rfl) ?_)
 intro b2
 refine VO.cons rfl (V1.assign rfl rfl rfl (ltb rfl) ?_)
 refine VO.nil ?_
 refine V.keep 20 [2, 3, 4] [0, 1, 2] (E0 := [(2, .ref b0 4 0 0), (3, .ref b1 2 0 0), (4, .ref b2 3 0 0)]) (H0 := [(b2, ⟨3, [.agg [.vl ρ0 1 (List.map encU8 code), .int .i64 (0 : Int), .int .u64 (0 : Int)]]⟩), (b1, ⟨2, [.agg [.int .i64 (0 : Int), .int .i64 (0 : Int)]]⟩), (b0, ⟨4, [.agg [.int .i64 (0 : Int), .int .i64 (0 : Int), .int .i64 (0 : Int), .nils]]⟩)]) rfl (⟨_, _, rfl, rfl, ⟨_, _, rfl, rfl, ⟨_, _, rfl, rfl, rfl⟩⟩⟩) (⟨_, _, rfl, rfl, ⟨_, _, rfl, rfl, ⟨_, _, rfl, rfl, rfl⟩⟩⟩) rfl ?_
 refine V.seq ?_
 replace hm0 := bindO hm0; rcases hm0 with ⟨y0, hh0, hm0⟩
 refine V.region ?_
 refine VO.cons rfl (V1.move rfl rfl rfl (ltb rfl) ?_)
 refine VO.cons rfl (V1.callM 0 (rn + ρ0 + 1) [] [.ref b2 3 0 0, .int .i64 (12 : Int)] (p := (b2, ⟨3, [.agg [.vl ρ0 1 (List.map encU8 code), .int .i64 (0 : Int), .int .u64 (0 : Int)]]⟩)) rfl rfl rfl cok_67 rfl rfl ⟨_, _, rfl, .same _, ⟨_, _, rfl, .same _, rfl⟩⟩ bwNil (ok_spec_l1Cur_record hh0) rfl (.inl rfl) (ltb rfl) ?_)
 rintro _ _ ⟨rfl, rfl⟩
 refine VO.cons rfl (V1.alloc rfl rfl zk_44 (ltb rfl) ?_)
 intro b3
 refine VO.cons rfl (V1.storeRefAll (k := 0) rfl rfl tyk_44 rfl rfl rfl rfl rfl rfl ?_)
 refine VO.nil ?_
 refine V.seq ?_
 replace hm0 := bindO hm0; rcases hm0 with ⟨y1, hh1, hm0⟩
 replace hm0 := bindO hm0; rcases hm0 with ⟨y2, hh2, hm0⟩
 refine V.regionS [(b3, ⟨4, [encRecord rn y0.1]⟩)] 20 9 [⟨[(5, none)], false⟩, ⟨[(4, none)], false⟩, ⟨[(5, none)], false⟩, ⟨[(13, some 2)], false⟩, ⟨[(4, none)], false⟩, ⟨[], true⟩, ⟨[(15, some 4), (16, some 5)], true⟩, ⟨[(14, some 3), (17, some 6)], false⟩, ⟨[(12, some 1), (18, some 7)], true⟩] [(2, none), (3, none), (11, some 0), (19, some 8)] 3 (⟨_, rfl, ⟨_, rfl, ⟨_, rfl, ⟨_, rfl, ⟨_, rfl, ⟨_, rfl, ⟨_, rfl, ⟨_, rfl, ⟨_, rfl, ⟨rfl, rfl⟩⟩⟩⟩⟩⟩⟩⟩⟩⟩) mixed_orders rfl (by decide +kernel) ?_
 refine WalkP.step (p := ?pv17) 0 rfl rfl rfl rfl rfl (⟨_, _, rfl, rfl, rfl⟩) ?hv17 ?rest17
 case hv17 =>
  intro E1 H1 hI1
  obtain ⟨k18_, hk18_⟩ := inGet 0 rfl hI1
  refine (V1.loadRefAll (k := k18_) rfl rfl tyk_44 rfl hk18_ rfl rfl rfl (ltb rfl) ?_)
  exact rfl
 refine WalkP.step (p := ?pv19) 1 rfl rfl rfl rfl rfl (⟨_, _, rfl, rfl, rfl⟩) ?hv19 ?rest19
 case hv19 =>
  intro E1 H1 hI1
  refine (V1.move rfl rfl rfl (ltb rfl) ?_)
  exact rfl
 refine WalkP.step (p := ?pv20) 2 rfl rfl rfl rfl rfl (⟨_, _, rfl, rfl, rfl⟩) ?hv20 ?rest20
 case hv20 =>
  intro E1 H1 hI1
  refine (V1.fieldRef rfl rfl fo_44_2 rfl (ltb rfl) ?_)
  exact rfl
 refine WalkP.step (p := ?pv21) 3 rfl rfl rfl rfl rfl (⟨_, _, rfl, rfl, rfl⟩) ?hv21 ?rest21
 case hv21 =>
  intro E1 H1 hI1
  obtain ⟨k22_, hk22_⟩ := inGet 0 rfl hI1
  refine (V1.loadRef (k := k22_) rfl rfl tyk_3 rfl hk22_ rfl rfl rfl (ltb rfl) ?_)
  exact rfl
 refine WalkP.step (p := ?pv23) 4 rfl rfl rfl rfl rfl (⟨_, _, rfl, rfl, rfl⟩) ?hv23 ?rest23
 case hv23 =>
  intro E1 H1 hI1
  refine (V1.move rfl rfl rfl (ltb rfl) ?_)
  exact rfl
 refine WalkP.nil ?_
 refine NodeS.branch [5] (inCons 0 rfl inNil) rfl rfl rfl ⟨?_, trivial⟩
 ·
  refine ⟨_, _, _, _, rfl, rfl, rfl, (rfl), fun E1 => ?_⟩
  refine (V1.buildSliceT (f := encInt) ([(0 : Int), (0 : Int), (5 : Int), (-1 : Int)] : List Int) rfl rfl esz_69 zk_3 rfl rfl rfl rfl rfl rfl rfl (ltb rfl) ?_)
  intro b5
  refine ⟨_, _, rfl, ?_⟩
  refine WalkP.nil ?_
  refine NodeS.branch [6] (inCons 1 rfl inNil) rfl rfl rfl ⟨?_, trivial⟩
  ·
   refine ⟨_, _, _, _, rfl, rfl, rfl, (⟨_, _, rfl, rfl, ⟨_, _, rfl, rfl, rfl⟩⟩), fun E1 => ?_⟩
   refine (V1.callM 2 (rn + ρ0 + 1) [b5] [.ref b2 3 0 0, .vl (rn + ρ0 + 1) 1 (List.map encInt ([(0 : Int), (0 : Int), (5 : Int), (-1 : Int)] : List Int))] (p := (b2, ⟨3, [encCur ρ0 y0.2]⟩)) rfl rfl rfl cok_50 rfl rfl ⟨_, _, rfl, .same _, ⟨_, _, rfl, Lend.srMap 0 rfl (fun _ => rfl) (.head _), rfl⟩⟩ (bwCons (k := 0) rfl bwNil) (ok_spec_l1Cur_among hh1) rfl (.inr ⟨(by first | omega | (dsimp only; omega)), by rintro _ _ ⟨rfl, rfl⟩; exact ⟨by simp [PV.no, PV.noL, optS_no, noL_iff, nbeq] <;> omega, by intro b ob h; first | exact optH_no (noL_map (fun _ => by simp [PV.no, PV.noL, noL_iff, nbeq]) _) b ob h | (simp at h; obtain ⟨rfl, rfl⟩ := h; exact noL_map (fun _ => by simp [PV.no, PV.noL, noL_iff, nbeq]) _) | (simp at h; obtain ⟨rfl, rfl⟩ := h; simp [PV.no, PV.noL, optS_no, noL_iff, nbeq] <;> omega)⟩⟩) (ltb rfl) ?_)
   rintro _ _ ⟨rfl, rfl⟩
   refine ⟨_, _, rfl, ?_⟩
   refine WalkP.step (p := ?pv24) 7 rfl rfl rfl rfl rfl (⟨_, _, rfl, rfl, ⟨_, _, rfl, rfl, rfl⟩⟩) ?hv24 ?rest24
   case hv24 =>
    intro E1 H1 hI1
    refine (V1.int rfl rfl rfl rfl rfl (ltb rfl) ?_)
    exact rfl
   refine WalkP.nil ?_
   refine NodeS.branch [8] (inCons 2 rfl inNil) rfl rfl rfl ⟨?_, trivial⟩
   ·
    refine ⟨_, _, _, _, rfl, rfl, rfl, (⟨_, _, rfl, rfl, ⟨_, _, rfl, rfl, rfl⟩⟩), fun E1 => ?_⟩
    refine (V1.callM 0 (rn + ρ0 + 1) [] [.ref b2 3 0 0, .int .i64 (IntKind.i64.wrap (y0.1.Made + y1.1))] (p := (b2, ⟨3, [encCur ρ0 y1.2]⟩)) rfl rfl rfl cok_68 rfl rfl ⟨_, _, rfl, .same _, ⟨_, _, rfl, .same _, rfl⟩⟩ bwNil (ok_spec_l1Cur_event hh2) rfl (.inl rfl) (ltb rfl) ?_)
    rintro _ _ ⟨rfl, rfl⟩
    refine ⟨_, _, rfl, ?_⟩
    refine WalkP.nil ?_
    refine NodeS.fin (inCons 2 rfl inNil) rfl rfl rfl (⟨_, _, rfl, rfl, ⟨_, _, rfl, rfl, ⟨_, _, rfl, rfl, ⟨_, _, rfl, rfl, rfl⟩⟩⟩⟩) ?_
    refine VO.cons rfl (V1.storeRefAll (k := 4) rfl rfl tyk_44 rfl rfl rfl rfl rfl rfl ?_)
    refine VO.cons rfl (V1.storeRefAll (k := 3) rfl rfl tyk_46 rfl rfl rfl rfl rfl rfl ?_)
    refine VO.nil ?_
    refine V.ret ?_
    obtain rfl := Option.some.inj hm0
    exact ⟨_, [], ⟨_, _, rfl, ⟨_, _, 4, _, rfl, rfl, rfl, rfl, tyk_44, rfl⟩, ⟨_, _, rfl, ⟨_, _, 3, _, rfl, rfl, rfl, rfl, tyk_46, rfl⟩, rfl⟩⟩, List.nil_sublist _, rfl, rfl⟩

theorem ok_impl_within {rn : Nat} {n : Int} {low : Int} {high : Int} {r : Bool} (h : M.impl_within n low high = some r) : Does Try.prog 57 [.int .i64 n, .int .i64 low, .int .i64 high] [] rn (fun x H => x = .bool r ∧ H = []) := by
 have hm0 := h; clear h; unfold M.impl_within at hm0
 try dsimp only at hm0
 refine Does.intro (N := 15) Try.func57 rfl rfl rfl rfl ?_
 intro w0 S0
 refine V.seq ?_
 refine V.region ?_
 refine VO.cons rfl (V1.assign rfl rfl rfl (ltb rfl) ?_)
 refine VO.nil ?_
 refine V.seq ?_
 refine V.region ?_
 refine VO.cons rfl (V1.move rfl rfl rfl (ltb rfl) ?_)
 refine VO.cons rfl (V1.move rfl rfl rfl (ltb rfl) ?_)
 refine VO.cons rfl (V1.int rfl rfl rfl rfl rfl (ltb rfl) ?_)
 refine VO.cons rfl (V1.move rfl rfl rfl (ltb rfl) ?_)
 apply VO.and (n := 3) rfl rfl rfl rfl rfl rfl (ltb rfl) (.none rfl)
 ·
  intro hg0
  refine VO.step (.some rfl rfl rfl) (V1.move rfl rfl rfl (ltb rfl) ?_)
  refine VO.step (.some rfl rfl rfl) (V1.move rfl rfl rfl (ltb rfl) ?_)
  refine VO.step (.some rfl rfl rfl) (V1.int rfl rfl rfl rfl rfl (ltb rfl) ?_)
  exact VO.nil ⟨rfl, rfl, rfl, rfl, .inr ⟨rfl, .inr ⟨rfl, .inr ⟨rfl, .inr ⟨rfl, .inl rfl⟩⟩⟩⟩⟩
 refine VO.cons rfl (V1.assign rfl rfl rfl (ltb rfl) ?_)
 refine VO.nil ?_
 refine V.ret ?_
 obtain rfl := Option.some.inj hm0
 exact ⟨_, [], ⟨_, _, rfl, rfl, rfl⟩, List.nil_sublist _, rfl, rfl⟩

theorem ok_impl_isId {rn : Nat} {id_ : Int} {r : Bool} (h : M.impl_isId id_ = some r) : Does Try.prog 55 [.int .i64 id_] [] rn (fun x H => x = .bool r ∧ H = []) := by
 have hm0 := h; clear h; unfold M.impl_isId at hm0
 try dsimp only at hm0
 refine Does.intro (N := 5) Try.func55 rfl rfl rfl rfl ?_
 intro w0 S0
 refine V.seq ?_
 refine V.region ?_
 refine VO.cons rfl (V1.assign rfl rfl rfl (ltb rfl) ?_)
 refine VO.nil ?_
 refine V.seq ?_
 replace hm0 := bindO hm0; rcases hm0 with ⟨y0, hh0, hm0⟩
 refine V.region ?_
 refine VO.cons rfl (V1.move rfl rfl rfl (ltb rfl) ?_)
 refine VO.cons rfl (V1.call rfl rfl rfl cok_57 rfl (ok_impl_within hh0) rfl (ltb rfl) ?_)
 rintro _ _ ⟨rfl, rfl⟩
 refine VO.cons rfl (V1.assign rfl rfl rfl (ltb rfl) ?_)
 refine VO.nil ?_
 refine V.ret ?_
 obtain rfl := Option.some.inj hm0
 exact ⟨_, [], ⟨_, _, rfl, rfl, rfl⟩, List.nil_sublist _, rfl, rfl⟩

theorem ok_impl_isDay {rn : Nat} {day : Int} {r : Bool} (h : M.impl_isDay day = some r) : Does Try.prog 56 [.int .i64 day] [] rn (fun x H => x = .bool r ∧ H = []) := by
 have hm0 := h; clear h; unfold M.impl_isDay at hm0
 try dsimp only at hm0
 refine Does.intro (N := 5) Try.func56 rfl rfl rfl rfl ?_
 intro w0 S0
 refine V.seq ?_
 refine V.region ?_
 refine VO.cons rfl (V1.assign rfl rfl rfl (ltb rfl) ?_)
 refine VO.nil ?_
 refine V.seq ?_
 replace hm0 := bindO hm0; rcases hm0 with ⟨y0, hh0, hm0⟩
 refine V.region ?_
 refine VO.cons rfl (V1.move rfl rfl rfl (ltb rfl) ?_)
 refine VO.cons rfl (V1.call rfl rfl rfl cok_57 rfl (ok_impl_within hh0) rfl (ltb rfl) ?_)
 rintro _ _ ⟨rfl, rfl⟩
 refine VO.cons rfl (V1.assign rfl rfl rfl (ltb rfl) ?_)
 refine VO.nil ?_
 refine V.ret ?_
 obtain rfl := Option.some.inj hm0
 exact ⟨_, [], ⟨_, _, rfl, rfl, rfl⟩, List.nil_sublist _, rfl, rfl⟩

theorem ok_impl_IsEvent {rn : Nat} {e_ : Event} {r : Bool} (h : M.impl_IsEvent e_ = some r) : Does Try.prog 27 [encEvent e_] [] rn (fun x H => x = .bool r ∧ H = []) := by
 have hm0 := h; clear h; unfold M.impl_IsEvent at hm0
 try dsimp only at hm0
 refine Does.intro (N := 11) Try.func27 rfl rfl rfl rfl ?_
 intro w0 S0
 refine V.seq ?_
 refine V.region ?_
 refine VO.cons rfl (V1.boxN (n := 2) rfl rfl rfl rfl rfl (ltb rfl) ?_)
 intro b0
 refine VO.cons rfl (V1.assign rfl rfl rfl (ltb rfl) ?_)
 refine VO.nil ?_
 refine V.seq ?_
 replace hm0 := bindO hm0; rcases hm0 with ⟨y0, hh0, hm0⟩
 replace hm0 := bindO hm0; rcases hm0 with ⟨y1, hh1, hm0⟩
 refine V.region ?_
 refine VO.cons rfl (V1.fieldRef rfl rfl fo_46_0 rfl (ltb rfl) ?_)
 refine VO.cons rfl (V1.loadRef (k := 0) rfl rfl tyk_3 rfl rfl rfl rfl rfl (ltb rfl) ?_)
 refine VO.cons rfl (V1.call rfl rfl rfl cok_57 rfl (ok_impl_within hh0) rfl (ltb rfl) ?_)
 rintro _ _ ⟨rfl, rfl⟩
 refine VO.cons rfl (V1.move rfl rfl rfl (ltb rfl) ?_)
 apply VO.and (n := 3) rfl rfl rfl rfl rfl rfl (ltb rfl) (.none rfl)
 ·
  intro hg0
  refine VO.step (.some rfl rfl rfl) (V1.fieldRef rfl rfl fo_46_1 rfl (ltb rfl) ?_)
  refine VO.step (.some rfl rfl rfl) (V1.loadRef (k := 0) rfl rfl tyk_3 rfl rfl rfl rfl rfl (ltb rfl) ?_)
  refine VO.step (.some rfl rfl rfl) (V1.call rfl rfl rfl cok_56 rfl (ok_impl_isDay (cond_t hg0 hh1)) rfl (ltb rfl) ?_)
  rintro _ _ ⟨rfl, rfl⟩
  exact VO.nil ⟨rfl, rfl, rfl, rfl, .inr ⟨rfl, .inr ⟨rfl, .inr ⟨rfl, .inr ⟨rfl, .inl rfl⟩⟩⟩⟩⟩
 refine VO.cons rfl (V1.assign rfl rfl rfl (ltb rfl) ?_)
 refine VO.nil ?_
 refine V.ret ?_
 obtain rfl := Option.some.inj hm0
 exact ⟨_, [], ⟨_, _, rfl, rfl, rfl⟩, List.nil_sublist _, rfl, rfl⟩

theorem ok_impl_IsRecord {ρ0 rn : Nat} {r_ : Record} {r : Bool} (h : M.impl_IsRecord r_ = some r) : Does Try.prog 69 [encRecord ρ0 r_] [] rn (fun x H => x = .bool r ∧ H = []) := by
 have hm0 := h; clear h; unfold M.impl_IsRecord at hm0
 try dsimp only at hm0
 refine Does.intro (N := 62) Try.func69 rfl rfl rfl rfl ?_
 intro w0 S0
 refine V.seq ?_
 refine V.region ?_
 refine VO.cons rfl (V1.boxN (n := 4) rfl rfl rfl rfl rfl (ltb rfl) ?_)
 intro b0
 refine VO.cons rfl (V1.assign rfl rfl rfl (ltb rfl) ?_)
 refine VO.nil ?_
 refine V.seq ?_
 refine V.seq ?_
 replace hm0 := bindO hm0; rcases hm0 with ⟨y0, hh0, hm0⟩
 replace hm0 := bindO hm0; rcases hm0 with ⟨y1, hh1, hm0⟩
 replace hm0 := bindO hm0; rcases hm0 with ⟨y2, hh2, hm0⟩
 refine V.region ?_
 refine VO.cons rfl (V1.fieldRef rfl rfl fo_44_0 rfl (ltb rfl) ?_)
 refine VO.cons rfl (V1.loadRef (k := 0) rfl rfl tyk_3 rfl rfl rfl rfl rfl (ltb rfl) ?_)
 refine VO.cons rfl (V1.call rfl rfl rfl cok_57 rfl (ok_impl_within hh0) rfl (ltb rfl) ?_)
 rintro _ _ ⟨rfl, rfl⟩
 refine VO.cons rfl (V1.not rfl rfl rfl (ltb rfl) ?_)
 refine VO.cons rfl (V1.move rfl rfl rfl (ltb rfl) ?_)
 apply VO.or (n := 4) rfl rfl rfl rfl rfl rfl (ltb rfl) (.none rfl)
 ·
  intro hg0
  refine VO.step (.some rfl rfl rfl) (V1.fieldRef rfl rfl fo_44_1 rfl (ltb rfl) ?_)
  refine VO.step (.some rfl rfl rfl) (V1.loadRef (k := 0) rfl rfl tyk_3 rfl rfl rfl rfl rfl (ltb rfl) ?_)
  refine VO.step (.some rfl rfl rfl) (V1.call rfl rfl rfl cok_55 rfl (ok_impl_isId (cond_f hg0 hh1)) rfl (ltb rfl) ?_)
  rintro _ _ ⟨rfl, rfl⟩
  refine VO.step (.some rfl rfl rfl) (V1.not rfl rfl rfl (ltb rfl) ?_)
  exact VO.nil ⟨rfl, rfl, rfl, rfl, .inr ⟨rfl, .inr ⟨rfl, .inr ⟨rfl, .inr ⟨rfl, .inr ⟨rfl, .inl rfl⟩⟩⟩⟩⟩⟩
 refine VO.cons rfl (V1.move rfl rfl rfl (ltb rfl) ?_)
 apply VO.or (n := 4) rfl rfl rfl rfl rfl rfl (ltb rfl) (.none rfl)
 ·
  intro hg1
  refine VO.step (.some rfl rfl rfl) (V1.fieldRef rfl rfl fo_44_2 rfl (ltb rfl) ?_)
  refine VO.step (.some rfl rfl rfl) (V1.loadRef (k := 0) rfl rfl tyk_3 rfl rfl rfl rfl rfl (ltb rfl) ?_)
  refine VO.step (.some rfl rfl rfl) (V1.call rfl rfl rfl cok_56 rfl (ok_impl_isDay (cond_f hg1 hh2)) rfl (ltb rfl) ?_)
  rintro _ _ ⟨rfl, rfl⟩
  refine VO.step (.some rfl rfl rfl) (V1.not rfl rfl rfl (ltb rfl) ?_)
  exact VO.nil ⟨rfl, rfl, rfl, rfl, .inr ⟨rfl, .inr ⟨rfl, .inr ⟨rfl, .inr ⟨rfl, .inr ⟨rfl, .inl rfl⟩⟩⟩⟩⟩⟩
 refine VO.cons rfl (V1.move rfl rfl rfl (ltb rfl) ?_)
 apply VO.or (n := 4) rfl rfl rfl rfl rfl rfl (ltb rfl) (.none rfl)
 ·
  intro hg2
  refine VO.step (.some rfl rfl rfl) (V1.fieldRef rfl rfl fo_44_3 rfl (ltb rfl) ?_)
  refine VO.step (.some rfl rfl rfl) (V1.loadRef (k := 0) rfl rfl tyk_42 rfl rfl rfl rfl rfl (ltb rfl) ?_)
  refine VO.step (.some rfl rfl rfl) (V1.lenMap rfl rfl rfl rfl rfl rfl isl_42 (ltb rfl) ?_)
  refine VO.step (.some rfl rfl rfl) (V1.int rfl rfl rfl rfl rfl (ltb rfl) ?_)
  exact VO.nil ⟨rfl, rfl, rfl, rfl, .inr ⟨rfl, .inr ⟨rfl, .inr ⟨rfl, .inr ⟨rfl, .inr ⟨rfl, .inl rfl⟩⟩⟩⟩⟩⟩
 refine VO.nil ?_
 refine V.keep 62 [1, 26] [0] (E0 := [(1, .ref b0 4 0 0), (26, .bool ((((!y0) || (!y1)) || (!y2)) || (decide ((r_.Events.length : Int) > (6 : Int)))))]) (H0 := [(b0, ⟨4, [encRecord ρ0 r_]⟩)]) rfl (⟨_, _, rfl, rfl, ⟨_, _, rfl, rfl, rfl⟩⟩) (⟨_, _, rfl, rfl, rfl⟩) rfl ?_
 refine V.cond rfl (fun hc0 => ?_) (fun hc0 => ?_)
 ·
  replace hm0 := cond_t hc0 hm0
  refine V.seq ?_
  refine V.region ?_
  refine VO.cons rfl (V1.assign rfl rfl rfl (ltb rfl) ?_)
  refine VO.nil ?_
  refine V.ret ?_
  obtain rfl := Option.some.inj hm0
  exact ⟨_, [], ⟨_, _, rfl, rfl, rfl⟩, List.nil_sublist _, rfl, rfl⟩
 ·
  replace hm0 := cond_f hc0 hm0
  refine V.skip ?_
  refine V.seq ?_
  refine V.seq ?_
  refine V.region ?_
  refine VO.cons rfl (V1.fieldRef rfl rfl fo_44_3 rfl (ltb rfl) ?_)
  refine VO.cons rfl (V1.loadRef (k := 0) rfl rfl tyk_42 rfl rfl rfl rfl rfl (ltb rfl) ?_)
  refine VO.cons rfl (V1.lenMap rfl rfl rfl rfl rfl rfl isl_42 (ltb rfl) ?_)
  refine VO.cons rfl (V1.move rfl rfl rfl (ltb rfl) ?_)
  refine VO.nil ?_
  replace hm0 := bindO hm0; rcases hm0 with ⟨e0, he1, hm0⟩
  refine V.cutT (D := (Unit) × (Unit)) (fun ⟨_, _⟩ => ⟨62, [], []⟩) (fun ⟨_, _⟩ => (.inl () = e0)) ?_ ?_
  ·
   refine V.block ?_
   refine V.keep 62 [30, 1, 28, 29] [0] (E0 := [(30, .int .i64 (0 : Int)), (1, .ref b0 4 0 0), (28, .vl ρ0 2 (List.map encEvent r_.Events)), (29, .int .i64 (r_.Events.length : Int))]) (H0 := [(b0, ⟨4, [encRecord ρ0 r_]⟩)]) rfl (⟨_, _, rfl, rfl, ⟨_, _, rfl, rfl, ⟨_, _, rfl, rfl, ⟨_, _, rfl, rfl, rfl⟩⟩⟩⟩) (⟨_, _, rfl, rfl, rfl⟩) rfl ?_
   refine V.loopE (D := Nat × (Int) × (Unit)) (fun ⟨n0, v, _⟩ => [(30, .int .i64 v)]) (fun ⟨n0, v, _⟩ => []) (fun ⟨n0, v, _⟩ => loopO (M.impl_IsRecord_l0 r_) n0 v = some e0) (fun ⟨n0, _, _⟩ => n0) (rounds, (0 : Int), ()) rfl he1 ?_
   rintro ⟨n0, v, _⟩ hP0
   obtain ⟨m0, y3, rfl, hm1, hl1, hr1⟩ := loop_head hP0
   unfold M.impl_IsRecord_l0 at hm1; dsimp only at hm1
   show V _ _ _ ⟨62, [(30, .int .i64 v), (1, .ref b0 4 0 0), (28, .vl ρ0 2 (List.map encEvent r_.Events)), (29, .int .i64 (r_.Events.length : Int))], [(b0, ⟨4, [encRecord ρ0 r_]⟩)]⟩
   refine V.seq ?_
   refine V.region ?_
   refine VO.cons rfl (V1.int rfl rfl rfl rfl rfl (ltb rfl) ?_)
   refine VO.nil ?_
   refine V.seq ?_
   refine V.cond rfl (fun hc1 => ?_) (fun hc1 => ?_)
   ·
    replace hm1 := cond_t hc1 hm1
    refine V.skip ?_
    refine V.seq ?_
    refine V.block ?_
    refine V.seq ?_
    replace hm1 := asrt_some hm1; rcases hm1 with ⟨hh3, hm1⟩
    refine V.region ?_
    refine VO.cons rfl (V1.move rfl rfl rfl (ltb rfl) ?_)
    refine VO.cons rfl (V1.indexI rfl rfl esz_42 rfl rfl hh3 (ltb rfl) ?_)
    refine VO.cons rfl (V1.loadPinAll rfl rfl tyk_46 rfl rfl (ltb rfl) ?_)
    refine VO.cons rfl (V1.alloc rfl rfl zk_46 (ltb rfl) ?_)
    intro b1
    refine VO.cons rfl (V1.assign rfl rfl rfl (ltb rfl) ?_)
    refine VO.cons rfl (V1.storeRefAll (k := 0) rfl rfl tyk_46 rfl rfl rfl rfl rfl rfl ?_)
    refine VO.nil ?_
    refine V.keep 62 [1, 3, 4, 28, 29, 30] [0, 1] (E0 := [(1, .ref b0 4 0 0), (3, .int .i64 v), (4, .ref b1 2 0 0), (28, .vl ρ0 2 (List.map encEvent r_.Events)), (29, .int .i64 (r_.Events.length : Int)), (30, .int .i64 v)]) (H0 := [(b1, ⟨2, [encEvent (r_.Events.getD (Int.toNat v) default)]⟩), (b0, ⟨4, [encRecord ρ0 r_]⟩)]) rfl (⟨_, _, rfl, rfl, ⟨_, _, rfl, rfl, ⟨_, _, rfl, rfl, ⟨_, _, rfl, rfl, ⟨_, _, rfl, rfl, ⟨_, _, rfl, rfl, rfl⟩⟩⟩⟩⟩⟩) (⟨_, _, rfl, rfl, ⟨_, _, rfl, rfl, rfl⟩⟩) rfl ?_
    refine V.seq ?_
    replace hm1 := bindO hm1; rcases hm1 with ⟨y4, hh4, hm1⟩
    replace hm1 := asrt_some hm1; rcases hm1 with ⟨hh5, hm1⟩
    refine V.regionM 62 26 [⟨[(4, none)], [], none⟩, ⟨[(35, some 0)], [], none⟩, ⟨[(36, some 0)], [], none⟩, ⟨[(37, some 0)], [], none⟩, ⟨[(4, none)], [(0, false)], none⟩, ⟨[(39, some 0)], [(1, false)], none⟩, ⟨[(1, none)], [(2, false)], none⟩, ⟨[(41, some 0)], [(3, false)], none⟩, ⟨[(40, some 2), (42, some 0)], [(4, false)], none⟩, ⟨[], [], some (false, 38, 43, 5, 0)⟩, ⟨[(44, some 0)], [], none⟩, ⟨[(3, none)], [(0, false)], none⟩, ⟨[(46, some 0)], [(1, false)], none⟩, ⟨[(47, some 0)], [(2, false)], none⟩, ⟨[(1, none)], [(0, true), (3, false)], none⟩, ⟨[(49, some 0)], [(1, true), (4, false)], none⟩, ⟨[(3, none)], [(2, true), (5, false)], none⟩, ⟨[(51, some 0)], [(3, true), (6, false)], none⟩, ⟨[(50, some 2), (52, some 0)], [(4, true), (7, false)], none⟩, ⟨[(53, some 0)], [(5, true), (8, false)], none⟩, ⟨[(54, some 0)], [(6, true), (9, false)], none⟩, ⟨[(4, none)], [(7, true), (10, false)], none⟩, ⟨[(56, some 0)], [(8, true), (11, false)], none⟩, ⟨[(55, some 2), (57, some 0)], [(9, true), (12, false)], none⟩, ⟨[], [(13, false)], some (true, 48, 58, 10, 0)⟩, ⟨[], [], some (false, 45, 59, 14, 0)⟩] [(1, none), (28, none), (29, none), (30, none), (60, some 0)] (⟨_, rfl, ⟨_, rfl, ⟨_, rfl, ⟨_, rfl, ⟨_, rfl, ⟨_, rfl, ⟨_, rfl, ⟨_, rfl, ⟨_, rfl, ⟨_, rfl, ⟨_, rfl, ⟨_, rfl, ⟨_, rfl, ⟨_, rfl, ⟨_, rfl, ⟨_, rfl, ⟨_, rfl, ⟨_, rfl, ⟨_, rfl, ⟨_, rfl, ⟨_, rfl, ⟨_, rfl, ⟨_, rfl, ⟨_, rfl, ⟨_, rfl, ⟨_, rfl, ⟨rfl, rfl⟩⟩⟩⟩⟩⟩⟩⟩⟩⟩⟩⟩⟩⟩⟩⟩⟩⟩⟩⟩⟩⟩⟩⟩⟩⟩⟩) mixed_orders rfl (by decide +kernel) (fun hck6 => ?_)
    refine VP.step (p := ?pv185) rfl rfl rfl (⟨_, _, rfl, rfl, rfl⟩) ?hv185 ?rest185 hck6
    case hv185 =>
     intro E1
     refine (V1.loadRefAll (k := 0) rfl rfl tyk_46 rfl rfl rfl rfl rfl (ltb rfl) ?_)
     exact rfl
    refine VP.step (p := ?pv186) rfl rfl rfl (⟨_, _, rfl, rfl, rfl⟩) ?hv186 ?rest186 hck6
    case hv186 =>
     intro E1
     refine (V1.call rfl rfl rfl cok_27 rfl (ok_impl_IsEvent hh4) rfl (ltb rfl) ?_)
     rintro _ _ ⟨rfl, rfl⟩
     exact rfl
    refine VP.step (p := ?pv187) rfl rfl rfl (⟨_, _, rfl, rfl, rfl⟩) ?hv187 ?rest187 hck6
    case hv187 =>
     intro E1
     refine (V1.not rfl rfl rfl (ltb rfl) ?_)
     exact rfl
    refine VP.step (p := ?pv188) rfl rfl rfl (⟨_, _, rfl, rfl, rfl⟩) ?hv188 ?rest188 hck6
    case hv188 =>
     intro E1
     refine (V1.move rfl rfl rfl (ltb rfl) ?_)
     exact rfl
    refine VP.step (p := ?pv189) rfl rfl rfl (⟨_, _, rfl, rfl, rfl⟩) ?hv189 ?rest189 hck6
    case hv189 =>
     refine ⟨_, rfl, fun hg3 => ?_⟩
     intro E1
     refine (V1.fieldRef rfl rfl fo_46_1 rfl (ltb rfl) ?_)
     exact rfl
    refine VP.step (p := ?pv190) rfl rfl rfl (⟨_, _, rfl, rfl, rfl⟩) ?hv190 ?rest190 hck6
    case hv190 =>
     refine ⟨_, rfl, fun hg3 => ?_⟩
     intro E1
     refine (V1.loadRef (k := 0) rfl rfl tyk_3 rfl rfl rfl rfl rfl (ltb rfl) ?_)
     exact rfl
    refine VP.step (p := ?pv191) rfl rfl rfl (⟨_, _, rfl, rfl, rfl⟩) ?hv191 ?rest191 hck6
    case hv191 =>
     refine ⟨_, rfl, fun hg3 => ?_⟩
     intro E1
     refine (V1.fieldRef rfl rfl fo_44_2 rfl (ltb rfl) ?_)
     exact rfl
    refine VP.step (p := ?pv192) rfl rfl rfl (⟨_, _, rfl, rfl, rfl⟩) ?hv192 ?rest192 hck6
    case hv192 =>
     refine ⟨_, rfl, fun hg3 => ?_⟩
     intro E1
     refine (V1.loadRef (k := 1) rfl rfl tyk_3 rfl rfl rfl rfl rfl (ltb rfl) ?_)
     exact rfl
    refine VP.step (p := ?pv193) rfl rfl rfl (⟨_, _, rfl, rfl, ⟨_, _, rfl, rfl, rfl⟩⟩) ?hv193 ?rest193 hck6
    case hv193 =>
     refine ⟨_, rfl, fun hg3 => ?_⟩
     intro E1
     refine (V1.int rfl rfl rfl rfl rfl (ltb rfl) ?_)
     exact rfl
    refine VP.pickOr rfl rfl rfl rfl rfl rfl (trivial) ?_ hck6
    refine VP.step (p := ?pv194) rfl rfl rfl (⟨_, _, rfl, rfl, rfl⟩) ?hv194 ?rest194 hck6
    case hv194 =>
     intro E1
     refine (V1.move rfl rfl rfl (ltb rfl) ?_)
     exact rfl
    refine VP.step (p := ?pv195) rfl rfl rfl (⟨_, _, rfl, rfl, rfl⟩) ?hv195 ?rest195 hck6
    case hv195 =>
     refine ⟨_, rfl, fun hg4 => ?_⟩
     intro E1
     refine (V1.move rfl rfl rfl (ltb rfl) ?_)
     exact rfl
    refine VP.step (p := ?pv196) rfl rfl rfl (⟨_, _, rfl, rfl, rfl⟩) ?hv196 ?rest196 hck6
    case hv196 =>
     refine ⟨_, rfl, fun hg4 => ?_⟩
     intro E1
     refine (V1.int rfl rfl rfl rfl rfl (ltb rfl) ?_)
     exact rfl
    refine VP.step (p := ?pv197) rfl rfl rfl (⟨_, _, rfl, rfl, rfl⟩) ?hv197 ?rest197 hck6
    case hv197 =>
     refine ⟨_, rfl, fun hg4 => ?_⟩
     intro E1
     refine (V1.move rfl rfl rfl (ltb rfl) ?_)
     exact rfl
    refine VP.step (p := ?pv198) rfl rfl rfl (⟨_, _, rfl, rfl, rfl⟩) ?hv198 ?rest198 hck6
    case hv198 =>
     refine ⟨_, rfl, fun hg5 => ?_⟩
     refine ⟨_, rfl, fun hg4 => ?_⟩
     intro E1
     refine (V1.fieldRef rfl rfl fo_44_3 rfl (ltb rfl) ?_)
     exact rfl
    refine VP.step (p := ?pv199) rfl rfl rfl (⟨_, _, rfl, rfl, rfl⟩) ?hv199 ?rest199 hck6
    case hv199 =>
     refine ⟨_, rfl, fun hg5 => ?_⟩
     refine ⟨_, rfl, fun hg4 => ?_⟩
     intro E1
     refine (V1.loadRef (k := 1) rfl rfl tyk_42 rfl rfl rfl rfl rfl (ltb rfl) ?_)
     exact rfl
    refine VP.step (p := ?pv200) rfl rfl rfl (⟨_, _, rfl, rfl, rfl⟩) ?hv200 ?rest200 hck6
    case hv200 =>
     refine ⟨_, rfl, fun hg5 => ?_⟩
     refine ⟨_, rfl, fun hg4 => ?_⟩
     intro E1
     refine (V1.move rfl rfl rfl (ltb rfl) ?_)
     exact rfl
    refine VP.step (p := ?pv201) rfl rfl rfl (⟨_, _, rfl, rfl, rfl⟩) ?hv201 ?rest201 hck6
    case hv201 =>
     refine ⟨_, rfl, fun hg5 => ?_⟩
     refine ⟨_, rfl, fun hg4 => ?_⟩
     intro E1
     refine (V1.int rfl rfl rfl rfl rfl (ltb rfl) ?_)
     exact rfl
    refine VP.step (p := ?pv202) rfl rfl rfl (⟨_, _, rfl, rfl, ⟨_, _, rfl, rfl, rfl⟩⟩) ?hv202 ?rest202 hck6
    case hv202 =>
     refine ⟨_, rfl, fun hg5 => ?_⟩
     refine ⟨_, rfl, fun hg4 => ?_⟩
     intro E1
     refine (V1.indexI rfl rfl esz_42 rfl rfl (hh5 hg4 hg5) (ltb rfl) ?_)
     exact rfl
    refine VP.step (p := ?pv203) rfl rfl rfl (⟨_, _, rfl, rfl, rfl⟩) ?hv203 ?rest203 hck6
    case hv203 =>
     refine ⟨_, rfl, fun hg5 => ?_⟩
     refine ⟨_, rfl, fun hg4 => ?_⟩
     intro E1
     refine (V1.fieldPin rfl rfl fo_46_0 rfl (ltb rfl) ?_)
     exact rfl
    refine VP.step (p := ?pv204) rfl rfl rfl (⟨_, _, rfl, rfl, rfl⟩) ?hv204 ?rest204 hck6
    case hv204 =>
     refine ⟨_, rfl, fun hg5 => ?_⟩
     refine ⟨_, rfl, fun hg4 => ?_⟩
     intro E1
     refine (V1.loadPin rfl rfl tyk_3 rfl rfl (ltb rfl) ?_)
     exact rfl
    refine VP.step (p := ?pv205) rfl rfl rfl (⟨_, _, rfl, rfl, rfl⟩) ?hv205 ?rest205 hck6
    case hv205 =>
     refine ⟨_, rfl, fun hg5 => ?_⟩
     refine ⟨_, rfl, fun hg4 => ?_⟩
     intro E1
     refine (V1.fieldRef rfl rfl fo_46_0 rfl (ltb rfl) ?_)
     exact rfl
    refine VP.step (p := ?pv206) rfl rfl rfl (⟨_, _, rfl, rfl, rfl⟩) ?hv206 ?rest206 hck6
    case hv206 =>
     refine ⟨_, rfl, fun hg5 => ?_⟩
     refine ⟨_, rfl, fun hg4 => ?_⟩
     intro E1
     refine (V1.loadRef (k := 0) rfl rfl tyk_3 rfl rfl rfl rfl rfl (ltb rfl) ?_)
     exact rfl
    refine VP.step (p := ?pv207) rfl rfl rfl (⟨_, _, rfl, rfl, ⟨_, _, rfl, rfl, rfl⟩⟩) ?hv207 ?rest207 hck6
    case hv207 =>
     refine ⟨_, rfl, fun hg5 => ?_⟩
     refine ⟨_, rfl, fun hg4 => ?_⟩
     intro E1
     refine (V1.int rfl rfl rfl rfl rfl (ltb rfl) ?_)
     exact rfl
    refine VP.pickAnd rfl rfl rfl rfl rfl rfl (⟨_, rfl, fun _ => trivial⟩) ?_ hck6
    refine VP.pickOr rfl rfl rfl rfl rfl rfl (trivial) ?_ hck6
    refine VP.fin rfl (⟨_, _, rfl, rfl, ⟨_, _, rfl, rfl, ⟨_, _, rfl, rfl, ⟨_, _, rfl, rfl, ⟨_, _, rfl, rfl, rfl⟩⟩⟩⟩⟩) ?_
    refine VO.nil ?_
    refine V.cond rfl (fun hc2 => ?_) (fun hc2 => ?_)
    ·
     replace hm1 := cond_t hc2 hm1
     refine V.seq ?_
     refine V.region ?_
     refine VO.cons rfl (V1.assign rfl rfl rfl (ltb rfl) ?_)
     refine VO.nil ?_
     refine V.ret ?_
     obtain rfl := hr1 _ (Option.some.inj hm1).symm
     change some _ = some _ at hm0
     obtain rfl := Option.some.inj hm0
     exact ⟨_, [], ⟨_, _, rfl, rfl, rfl⟩, List.nil_sublist _, rfl, rfl⟩
    ·
     replace hm1 := cond_f hc2 hm1
     refine V.skip ?_
     refine V.region ?_
     refine VO.cons rfl (V1.int rfl rfl rfl rfl rfl (ltb rfl) ?_)
     refine VO.cons rfl (V1.move rfl rfl rfl (ltb rfl) ?_)
     refine VO.nil ?_
     exact ⟨(m0, (IntKind.i64.wrap (v + (1 : Int))), ()), hl1 _ (Option.some.inj hm1).symm, Nat.lt_succ_self _, Keeps.mk (ks := [1]) rfl ⟨rfl, rfl, rfl, rfl, trivial⟩ (⟨_, _, rfl, rfl, rfl⟩) rfl⟩
   ·
    replace hm1 := cond_f hc1 hm1
    refine V.exit ?_
    obtain rfl := hr1 _ (Option.some.inj hm1).symm
    exact ⟨((), ()), rfl, Keeps.mk (ks := []) rfl trivial (rfl) rfl⟩
  ·
   rintro ⟨_, _⟩ rfl
   try dsimp only at hm0
   refine V.seq ?_
   refine V.region ?_
   refine VO.cons rfl (V1.assign rfl rfl rfl (ltb rfl) ?_)
   refine VO.nil ?_
   refine V.ret ?_
   obtain rfl := Option.some.inj hm0
   exact ⟨_, [], ⟨_, _, rfl, rfl, rfl⟩, List.nil_sublist _, rfl, rfl⟩

theorem ok_slices_Clone_impl_Event_impl_Event {ρ0 rn : Nat} {s : List Event} {r : List Event} (h : M.slices_Clone_impl_Event_impl_Event s = some r) : Does Try.prog 71 [.vl ρ0 2 (List.map encEvent s)] [] rn (fun x H => ∃ ob0_ : Option Nat, (ob0_ = none → r = []) ∧ x = optS 2 ob0_ (List.length r) ∧ H = optH 2 ob0_ (List.map encEvent r)) := by
 have hm0 := h; clear h; unfold M.slices_Clone_impl_Event_impl_Event at hm0
 replace hm0 := asrt_some hm0; rcases hm0 with ⟨hh0, hm0⟩
 obtain rfl := Option.some.inj hm0
 refine Does.intro (N := 8) Try.func71 rfl rfl rfl rfl ?_
 intro w0 S0
 refine V.seq ?_
 refine V.region ?_
 refine VO.cons rfl (V1.assign rfl rfl rfl (ltb rfl) ?_)
 refine VO.nil ?_
 refine V.seq ?_
 first | refine V.region ?_ | (refine V.seq ?_; refine V.region ?_)
 refine VO.cons rfl (V1.move rfl rfl rfl (ltb rfl) ?_)
 refine VO.cons rfl (V1.eqNil rfl rfl usl_42 rfl rfl (ltb rfl) ?_)
 intro c hc
 refine VO.nil ?_
 first | refine V.cond rfl (fun hc0 => ?_) (fun hc0 => ?_) | (refine V.seq ?_; refine V.cond rfl (fun hc0 => ?_) (fun hc0 => ?_))
 ·
  have hs : s = [] := List.map_eq_nil_iff.1 (hc hc0)
  refine V.seq ?_
  refine V.region ?_
  refine VO.cons rfl (V1.assign rfl rfl rfl (ltb rfl) ?_)
  refine VO.nil ?_
  refine V.ret ?_
  exact ⟨_, [], ⟨_, _, rfl, rfl, rfl⟩, List.nil_sublist _, none, fun _ => hs, rfl, rfl⟩
 ·
  refine V.skip ?_
  refine V.seq ?_
  refine V.region ?_
  refine VO.cons rfl (V1.buildSliceT (f := encEvent) ([] : List Event) rfl rfl esz_42 zk_46 rfl rfl rfl rfl rfl rfl rfl (ltb rfl) ?_)
  intro b0
  refine VO.cons rfl (V1.move rfl rfl rfl (ltb rfl) ?_)
  refine VO.cons rfl (V1.appendMap (k := 0) (f := encEvent) (l := []) (m := s) rfl rfl rfl rfl rfl esz_42 eby_42 zk_46 rfl rfl rfl (.vl isl_42) (by simpa using hh0) (ltb rfl) ?_)
  intro b1
  refine VO.cons rfl (V1.assign rfl rfl rfl (ltb rfl) ?_)
  refine VO.nil ?_
  refine V.keep 8 [2] [0] (E0 := [(2, .sref b1 2 0 (List.length s))]) (H0 := [(b1, ⟨2, List.map encEvent s⟩)]) rfl (⟨_, _, rfl, rfl, rfl⟩) (⟨_, _, rfl, rfl, rfl⟩) rfl ?_
  refine V.ret ?_
  exact ⟨_, _, ⟨_, _, rfl, rfl, rfl⟩, List.Sublist.refl _, some b1, (fun e => by cases e), rfl, rfl⟩

theorem ok_slices_Insert_impl_Event_impl_Event {rn : Nat} {oq : Option Nat} {bv : Nat} {s : List Event} {i : Int} {v r : List Event} (h : M.slices_Insert_impl_Event_impl_Event s i v = some r) (hoq : oq = none → s = []) : Does Try.prog 70 [optS 2 oq (List.length s), .int .i64 i, .sref bv 2 0 (List.length v)] ((bv, ⟨2, List.map encEvent v⟩) :: optH 2 oq (List.map encEvent s)) rn (fun x H => ∃ b0_ : Nat, x = .sref b0_ 2 0 (List.length r) ∧ H = [(b0_, ⟨2, List.map encEvent r⟩)]) := by
 have hm0 := h; clear h; unfold M.slices_Insert_impl_Event_impl_Event at hm0
 replace hm0 := asrt_some hm0; rcases hm0 with ⟨⟨hi0, hi1, hl, hv1⟩, hm0⟩
 obtain rfl := Option.some.inj hm0; clear hm0
 obtain ⟨y, rfl⟩ : ∃ y, v = [y] := List.length_eq_one_iff.1 hv1
 rcases oq with _ | b
 ·
  obtain rfl := hoq rfl
  obtain rfl : i = 0 := by simp only [List.length_nil] at hi1; omega
  refine Does.intro (N := 95) Try.func70 rfl rfl rfl rfl ?_
  intro w0 S0
  refine V.seq ?_
  refine V.region ?_
  refine VO.cons rfl (V1.assign rfl rfl rfl (ltb rfl) ?_)
  refine VO.nil ?_
  refine V.seq ?_
  refine V.region ?_
  refine VO.cons rfl (V1.move rfl rfl rfl (ltb rfl) ?_)
  refine VO.cons rfl (V1.move rfl rfl rfl (ltb rfl) ?_)
  refine VO.weakenK (Keeps.nilsE (l := ([] : List Event)) 10 rn 2 encEvent rfl rfl rfl) ?_
  refine VO.cons rfl (V1.sliceMap (a := (0 : Int)) (b := (0 : Int)) rfl rfl esz_42 rfl (Bnd.some rfl (Int.le_refl 0) _) (Bnd.none _ _) ⟨Int.le_refl 0, Int.le_refl 0, Int.le_refl 0⟩ (ltb rfl) ?_)
  refine VO.nil ?_
  refine V.seq ?_
  refine V.region ?_
  refine VO.cons rfl (V1.move rfl rfl rfl (ltb rfl) ?_)
  refine VO.cons rfl (V1.lenSref rfl rfl rfl rfl rfl rfl isl_42 (ltb rfl) ?_)
  refine VO.cons rfl (V1.assign rfl rfl rfl (ltb rfl) ?_)
  refine VO.nil ?_
  refine V.seq ?_
  first | refine V.region ?_ | (refine V.seq ?_; refine V.region ?_)
  refine VO.cons rfl (V1.move rfl rfl rfl (ltb rfl) ?_)
  refine VO.cons rfl (V1.int rfl rfl rfl rfl rfl (ltb rfl) ?_)
  refine VO.nil ?_
  refine V.cond rfl (fun hc0 => absurd hc0 (by simp)) (fun _ => ?_)
  refine V.skip ?_
  refine V.seq ?_
  refine V.region ?_
  refine VO.cons rfl (V1.move rfl rfl rfl (ltb rfl) ?_)
  refine VO.weakenK (Keeps.nilsE (l := ([] : List Event)) 18 rn 2 encEvent rfl rfl rfl) ?_
  refine VO.cons rfl (V1.lenMap rfl rfl rfl rfl rfl rfl isl_42 (ltb rfl) ?_)
  refine VO.cons rfl (V1.assign rfl rfl rfl (ltb rfl) ?_)
  refine VO.nil ?_
  refine V.seq ?_
  first | refine V.region ?_ | (refine V.seq ?_; refine V.region ?_)
  refine VO.cons rfl (V1.move rfl rfl rfl (ltb rfl) ?_)
  refine VO.cons rfl (V1.move rfl rfl rfl (ltb rfl) ?_)
  refine VO.cons rfl (V1.int rfl rfl rfl rfl rfl (ltb rfl) ?_)
  refine VO.nil ?_
  refine V.cond rfl (fun hc1 => ?_) (fun hc1 => ?_)
  ·
   refine V.seq ?_
   refine V.region ?_
   refine VO.cons rfl (V1.move rfl rfl rfl (ltb rfl) ?_)
   refine VO.cons rfl (V1.move rfl rfl rfl (ltb rfl) ?_)
   refine VO.cons rfl (V1.appendOpt (f := encEvent) (l := ([] : List Event)) (m := [y]) (ob := none) [(bv, ⟨2, List.map encEvent [y]⟩)] (fun _ => rfl) rfl rfl rfl rfl rfl esz_42 eby_42 zk_46 rfl rfl rfl rfl (SrcOf.srMap (k := 0) rfl isl_42) rfl (by simp) (ltb rfl) ?_)
   intro b1
   refine VO.cons rfl (V1.assign rfl rfl rfl (ltb rfl) ?_)
   refine VO.nil ?_
   refine V.ret ?_
   exact ⟨_, [(b1, ⟨2, List.map encEvent [y]⟩)], ⟨_, _, rfl, rfl, rfl⟩, (List.nil_sublist _).cons_cons _, b1, rfl, rfl⟩
  ·
   exact absurd hc1 (by decide)
 ·
  by_cases hin : i = (s.length : Int)
  ·
   have er : s.take i.toNat ++ [y] ++ s.drop i.toNat = s ++ [y] := by rw [hin]; simp
   rw [er]
   refine Does.intro (N := 95) Try.func70 rfl rfl rfl rfl ?_
   intro w0 S0
   refine V.seq ?_
   refine V.region ?_
   refine VO.cons rfl (V1.assign rfl rfl rfl (ltb rfl) ?_)
   refine VO.nil ?_
   refine V.seq ?_
   refine V.region ?_
   refine VO.cons rfl (V1.move rfl rfl rfl (ltb rfl) ?_)
   refine VO.cons rfl (V1.move rfl rfl rfl (ltb rfl) ?_)
   refine VO.cons rfl (V1.sliceSw (c := ((s.length : Nat) : Int)) rfl rfl esz_42 rfl (Bnd.some rfl hi0 _) (Bnd.none _ _) ⟨hi0, hi1, Int.le_refl _⟩ (ltb rfl) ?_)
   refine VO.nil ?_
   refine V.seq ?_
   refine V.region ?_
   refine VO.cons rfl (V1.move rfl rfl rfl (ltb rfl) ?_)
   refine VO.cons rfl (V1.lenSref rfl rfl rfl rfl rfl rfl isl_42 (ltb rfl) ?_)
   refine VO.cons rfl (V1.assign rfl rfl rfl (ltb rfl) ?_)
   refine VO.nil ?_
   refine V.seq ?_
   first | refine V.region ?_ | (refine V.seq ?_; refine V.region ?_)
   refine VO.cons rfl (V1.move rfl rfl rfl (ltb rfl) ?_)
   refine VO.cons rfl (V1.int rfl rfl rfl rfl rfl (ltb rfl) ?_)
   refine VO.nil ?_
   refine V.cond rfl (fun hc0 => absurd hc0 (by simp)) (fun _ => ?_)
   refine V.skip ?_
   refine V.seq ?_
   refine V.region ?_
   refine VO.cons rfl (V1.move rfl rfl rfl (ltb rfl) ?_)
   refine VO.cons rfl (V1.lenSref rfl rfl rfl rfl rfl rfl isl_42 (ltb rfl) ?_)
   refine VO.cons rfl (V1.assign rfl rfl rfl (ltb rfl) ?_)
   refine VO.nil ?_
   refine V.seq ?_
   first | refine V.region ?_ | (refine V.seq ?_; refine V.region ?_)
   refine VO.cons rfl (V1.move rfl rfl rfl (ltb rfl) ?_)
   refine VO.cons rfl (V1.move rfl rfl rfl (ltb rfl) ?_)
   refine VO.cons rfl (V1.int rfl rfl rfl rfl rfl (ltb rfl) ?_)
   refine VO.nil ?_
   refine V.cond rfl (fun hc1 => ?_) (fun hc1 => ?_)
   ·
    refine V.seq ?_
    refine V.region ?_
    refine VO.cons rfl (V1.move rfl rfl rfl (ltb rfl) ?_)
    refine VO.cons rfl (V1.move rfl rfl rfl (ltb rfl) ?_)
    refine VO.cons rfl (V1.appendMap (k := 1) (f := encEvent) (l := s) (m := [y]) rfl rfl rfl rfl rfl esz_42 eby_42 zk_46 rfl rfl rfl (SrcOf.srMap (k := 0) rfl isl_42) (by simp; omega) (ltb rfl) ?_)
    intro b1
    refine VO.cons rfl (V1.assign rfl rfl rfl (ltb rfl) ?_)
    refine VO.nil ?_
    refine V.ret ?_
    exact ⟨_, [(b1, ⟨2, List.map encEvent (s ++ [y])⟩)], ⟨_, _, rfl, rfl, rfl⟩, (List.nil_sublist _).cons_cons _, b1, rfl, rfl⟩
   ·
    exact absurd hc1 (by rw [hin]; simp)
  ·
   obtain ⟨k, rfl⟩ := Int.eq_ofNat_of_zero_le hi0
   have hk : k < s.length := by omega
   have e0 : Int.toNat (k : Int) = k := Int.toNat_natCast k
   have ewn : IntKind.i64.wrap ((s.length : Int) + (([y].length : Nat) : Int)) = ((s.length + 1 : Nat) : Int) := by
    have e : ([y].length : Nat) = 1 := rfl
    rw [e, wrap64_id (by omega) (by omega)]; omega
   have ewk : IntKind.i64.wrap ((k : Int) + (([y].length : Nat) : Int)) = ((k + 1 : Nat) : Int) := by
    have e : ([y].length : Nat) = 1 := rfl
    rw [e, wrap64_id (by omega) (by omega)]; omega
   have ewm : IntKind.i64.wrap (IntKind.i64.wrap ((s.length : Int) + (([y].length : Nat) : Int)) - (k : Int)) = ((s.length + 1 - k : Nat) : Int) := by
    rw [ewn, wrap64_id (by omega) (by omega)]; omega
   refine Does.introR (N := 95) Try.func70 rfl rfl rfl rfl ?_
   intro w0 S0 vs0 hR0 _
   obtain ⟨u0, us0, _, hu0, _⟩ := Reps.cons_iff.1 hR0
   obtain ⟨cp, hB, hcp⟩ := Rep.hasCap (w := w0) (S := S0) (b := b) (n := 2) (off := 0) (len := s.length) (v := u0) hu0 (by omega)
   clear hR0 hu0
   refine V.seq ?_
   refine V.region ?_
   refine VO.cons rfl (V1.assign rfl rfl rfl (ltb rfl) ?_)
   refine VO.nil ?_
   refine V.seq ?_
   refine V.region ?_
   refine VO.cons rfl (V1.move rfl rfl rfl (ltb rfl) ?_)
   refine VO.cons rfl (V1.move rfl rfl rfl (ltb rfl) ?_)
   refine VO.cons rfl (V1.sliceSw (c := ((s.length : Nat) : Int)) rfl rfl esz_42 rfl (Bnd.some rfl hi0 _) (Bnd.none _ _) ⟨hi0, hi1, Int.le_refl _⟩ (ltb rfl) ?_)
   refine VO.nil ?_
   refine V.seq ?_
   refine V.region ?_
   refine VO.cons rfl (V1.move rfl rfl rfl (ltb rfl) ?_)
   refine VO.cons rfl (V1.lenSref rfl rfl rfl rfl rfl rfl isl_42 (ltb rfl) ?_)
   refine VO.cons rfl (V1.assign rfl rfl rfl (ltb rfl) ?_)
   refine VO.nil ?_
   refine V.seq ?_
   first | refine V.region ?_ | (refine V.seq ?_; refine V.region ?_)
   refine VO.cons rfl (V1.move rfl rfl rfl (ltb rfl) ?_)
   refine VO.cons rfl (V1.int rfl rfl rfl rfl rfl (ltb rfl) ?_)
   refine VO.nil ?_
   refine V.cond rfl (fun hc0 => absurd hc0 (by simp)) (fun _ => ?_)
   refine V.skip ?_
   refine V.seq ?_
   refine V.region ?_
   refine VO.cons rfl (V1.move rfl rfl rfl (ltb rfl) ?_)
   refine VO.cons rfl (V1.lenSref rfl rfl rfl rfl rfl rfl isl_42 (ltb rfl) ?_)
   refine VO.cons rfl (V1.assign rfl rfl rfl (ltb rfl) ?_)
   refine VO.nil ?_
   refine V.seq ?_
   first | refine V.region ?_ | (refine V.seq ?_; refine V.region ?_)
   refine VO.cons rfl (V1.move rfl rfl rfl (ltb rfl) ?_)
   refine VO.cons rfl (V1.move rfl rfl rfl (ltb rfl) ?_)
   refine VO.cons rfl (V1.int rfl rfl rfl rfl rfl (ltb rfl) ?_)
   refine VO.nil ?_
   refine V.cond rfl (fun hc1 => ?_) (fun hc1 => ?_)
   ·
    exact absurd (by simpa using hc1) hin
   ·
    refine V.skip ?_
    refine V.seq ?_
    first | refine V.region ?_ | (refine V.seq ?_; refine V.region ?_)
    refine VO.cons rfl (V1.move rfl rfl rfl (ltb rfl) ?_)
    refine VO.cons rfl (V1.move rfl rfl rfl (ltb rfl) ?_)
    refine VO.cons rfl (V1.int rfl rfl rfl rfl rfl (ltb rfl) ?_)
    refine VO.cons rfl (V1.move rfl rfl rfl (ltb rfl) ?_)
    refine VO.cons rfl (V1.capOwn rfl rfl rfl rfl rfl rfl isl_42 hB (by decide) (by omega) (ltb rfl) ?_)
    refine VO.cons rfl (V1.int rfl rfl rfl rfl rfl (ltb rfl) ?_)
    refine VO.nil ?_
    first | refine V.cond rfl (fun hc2 => ?_) (fun hc2 => ?_) | (refine V.seq ?_; refine V.cond rfl (fun hc2 => ?_) (fun hc2 => ?_))
    ·
     have hgrow : cp < s.length + 1 := by
      rw [decide_eq_true_eq, ewn] at hc2
      omega
     refine V.seq ?_
     refine V.region ?_
     refine VO.cons rfl (V1.move rfl rfl rfl (ltb rfl) ?_)
     refine VO.cons rfl (V1.move rfl rfl rfl (ltb rfl) ?_)
     refine VO.cons rfl (V1.sliceSw (a := (0 : Int)) (c := (k : Int)) rfl rfl esz_42 rfl (Bnd.none _ _) (Bnd.some rfl (by omega) _) ⟨by omega, by omega, by omega⟩ (ltb rfl) ?_)
     refine VO.cons rfl (V1.move rfl rfl rfl (ltb rfl) ?_)
     refine VO.cons rfl (V1.move rfl rfl rfl (ltb rfl) ?_)
     refine VO.cons rfl (V1.int rfl rfl rfl rfl rfl (ltb rfl) ?_)
     refine VO.cons rfl (V1.move rfl rfl rfl (ltb rfl) ?_)
     refine VO.cons rfl (V1.int rfl rfl rfl rfl rfl (ltb rfl) ?_)
     refine VO.cons rfl (V1.appendZ (i := k) (k := 1) (m := s.length + 1 - k) (cp := cp) rfl rfl rfl rfl rfl esz_42 eby_42 zk_46 und_3 rfl rfl rfl (by simp; omega) (congrArg (fun q => some (PV.int .i64 q)) ewm) hB (by omega) (by omega) (by omega) (ltb rfl) ?_)
     intro b1
     refine VO.cons rfl (V1.assign rfl rfl rfl (ltb rfl) ?_)
     refine VO.nil ?_
     refine V.seq ?_
     refine V.region ?_
     refine VO.cons rfl (V1.move rfl rfl rfl (ltb rfl) ?_)
     refine VO.cons rfl (V1.move rfl rfl rfl (ltb rfl) ?_)
     refine VO.cons rfl (V1.sliceSw (a := (k : Int)) (c := ((k + (s.length + 1 - k) : Nat) : Int)) rfl rfl esz_42 rfl (Bnd.some rfl (by omega) _) (Bnd.none _ _) ⟨by omega, by omega, by omega⟩ (ltb rfl) ?_)
     refine VO.cons rfl (V1.move rfl rfl rfl (ltb rfl) ?_)
     refine VO.cons rfl (V1.copyOwn (k := 0) (ys := List.map encEvent [y]) rfl rfl rfl rfl rfl esz_42 rfl rfl rfl (by simp; omega) (by omega) rfl (SrcK.of (SrcOf.srMap (k := 1) rfl isl_42) (by simp only [List.length_map, List.length_cons, List.length_nil]; omega)) (ltb rfl) ?_)
     refine VO.nil ?_
     refine V.seq ?_
     refine V.regionM 95 8 [⟨[(9, none)], [], none⟩, ⟨[(1, none)], [], none⟩, ⟨[(7, none)], [], none⟩, ⟨[(47, some 1), (48, some 0)], [], none⟩, ⟨[(46, some 3), (49, some 0)], [], none⟩, ⟨[(0, none)], [], none⟩, ⟨[(1, none)], [], none⟩, ⟨[(51, some 1), (52, some 0)], [], none⟩] [(9, none), (50, some 3), (53, some 0)] (⟨_, rfl, ⟨_, rfl, ⟨_, rfl, ⟨_, rfl, ⟨_, rfl, ⟨_, rfl, ⟨_, rfl, ⟨_, rfl, ⟨rfl, rfl⟩⟩⟩⟩⟩⟩⟩⟩⟩) mixed_orders rfl (by decide +kernel) (fun hck1 => ?_)
     refine VP.step (p := ?pvA0) rfl rfl rfl (⟨_, _, rfl, rfl, rfl⟩) ?hvA0 ?restA0 hck1
     case hvA0 =>
      intro E1
      refine (V1.move rfl rfl rfl (ltb rfl) ?_)
      exact rfl
     refine VP.step (p := ?pvA1) rfl rfl rfl (⟨_, _, rfl, rfl, rfl⟩) ?hvA1 ?restA1 hck1
     case hvA1 =>
      intro E1
      refine (V1.move rfl rfl rfl (ltb rfl) ?_)
      exact rfl
     refine VP.step (p := ?pvA2) rfl rfl rfl (⟨_, _, rfl, rfl, rfl⟩) ?hvA2 ?restA2 hck1
     case hvA2 =>
      intro E1
      refine (V1.move rfl rfl rfl (ltb rfl) ?_)
      exact rfl
     refine VP.step (p := ?pvA3) rfl rfl rfl (⟨_, _, rfl, rfl, ⟨_, _, rfl, rfl, rfl⟩⟩) ?hvA3 ?restA3 hck1
     case hvA3 =>
      intro E1
      refine (V1.int rfl rfl rfl rfl rfl (ltb rfl) ?_)
      exact rfl
     refine VP.step (p := ?pvA4) rfl rfl rfl (⟨_, _, rfl, rfl, ⟨_, _, rfl, rfl, rfl⟩⟩) ?hvA4 ?restA4 hck1
     case hvA4 =>
      intro E1
      refine (V1.sliceSw (c := ((k + (s.length + 1 - k) : Nat) : Int)) rfl rfl esz_42 rfl (Bnd.some rfl (by rw [ewk]; omega) _) (Bnd.none _ _) (by rw [ewk]; exact ⟨by omega, by omega, by omega⟩) (ltb rfl) ?_)
      exact rfl
     refine VP.step (p := ?pvA5) rfl rfl rfl (⟨_, _, rfl, rfl, rfl⟩) ?hvA5 ?restA5 hck1
     case hvA5 =>
      intro E1
      refine (V1.move rfl rfl rfl (ltb rfl) ?_)
      exact rfl
     refine VP.step (p := ?pvA6) rfl rfl rfl (⟨_, _, rfl, rfl, rfl⟩) ?hvA6 ?restA6 hck1
     case hvA6 =>
      intro E1
      refine (V1.move rfl rfl rfl (ltb rfl) ?_)
      exact rfl
     refine VP.step (p := ?pvA7) rfl rfl rfl (⟨_, _, rfl, rfl, ⟨_, _, rfl, rfl, rfl⟩⟩) ?hvA7 ?restA7 hck1
     case hvA7 =>
      intro E1
      refine (V1.sliceSw (c := ((s.length : Nat) : Int)) rfl rfl esz_42 rfl (Bnd.some rfl (by omega) _) (Bnd.none _ _) ⟨by omega, by omega, by omega⟩ (ltb rfl) ?_)
      exact rfl
     refine VP.fin rfl (⟨_, _, rfl, rfl, ⟨_, _, rfl, rfl, ⟨_, _, rfl, rfl, rfl⟩⟩⟩) ?_
     refine VO.cons rfl (V1.copyOwn (k := 0) (ys := ((List.map encEvent s).drop k).take (s.length - k)) rfl rfl rfl rfl rfl esz_42 rfl rfl rfl (by rw [ewk]; simp; omega) (by rw [ewk]; omega) rfl (fun Φ S a w v he hr => ?src1) (ltb rfl) ?rest1)
     case src1 =>
      have e1 : (0 + Int.toNat (k : Int)) = k := by omega
      rw [e1, e0] at hr
      exact SrcK.of (SrcOf.sref (k := 2) (ob := ⟨2, List.map encEvent s⟩) rfl rfl (by simp; omega) isl_42) (by rw [ewk]; simp; omega) Φ S a w v he hr
     case rest1 =>
      refine VO.nil ?_
      refine V.seq ?_
      refine V.region ?_
      refine VO.cons rfl (V1.move rfl rfl rfl (ltb rfl) ?_)
      refine VO.cons rfl (V1.assign rfl rfl rfl (ltb rfl) ?_)
      refine VO.nil ?_
      refine V.ret ?_
      refine ⟨_, _, ⟨_, _, rfl, rfl, rfl⟩, (List.nil_sublist _).cons_cons _, b1, ?_, ?_⟩
      · refine congrArg (fun q => PV.sref b1 2 0 q) ?_
        simp
        omega
      · refine congrArg (fun q => [(b1, (⟨2, q⟩ : Obj'))]) ?_
        rw [ewk]
        simp only [e0, Int.toNat_natCast, Nat.zero_add, List.length_map]
        have hq : (((List.map encEvent s).drop k).take (s.length - k)).length = s.length - k := by simp
        rw [hq]
        have h := fun z => ins_grow (xs := List.map encEvent s) (ey := encEvent y) (k := k) (by simpa using hk) z rfl
        simp only [List.length_map] at h
        simp only [List.map_append, List.map_take, List.map_drop]
        exact h _
    ·
     have hroom : s.length + 1 ≤ cp := by
      rw [decide_eq_false_iff_not, ewn] at hc2
      omega
     refine V.skip ?_
     refine V.seq ?_
     refine V.region ?_
     refine VO.cons rfl (V1.move rfl rfl rfl (ltb rfl) ?_)
     refine VO.cons rfl (V1.move rfl rfl rfl (ltb rfl) ?_)
     refine VO.cons rfl (V1.move rfl rfl rfl (ltb rfl) ?_)
     refine VO.cons rfl (V1.int rfl rfl rfl rfl rfl (ltb rfl) ?_)
     refine VO.cons rfl (V1.sliceUp (cp := cp) rfl rfl esz_42 rfl rfl hB (by decide) (by omega) (by rw [ewn]; omega) (ltb rfl) ?_)
     refine VO.cons rfl (V1.assign rfl rfl rfl (ltb rfl) ?_)
     refine VO.nil ?_
     refine V.seq ?_
     first | refine V.region ?_ | (refine V.seq ?_; refine V.region ?_)
     refine VO.cons rfl (V1.move rfl rfl rfl (ltb rfl) ?_)
     refine VO.cons rfl (V1.move rfl rfl rfl (ltb rfl) ?_)
     refine VO.cons rfl (V1.move rfl rfl rfl (ltb rfl) ?_)
     refine VO.cons rfl (V1.move rfl rfl rfl (ltb rfl) ?_)
     refine VO.cons rfl (V1.int rfl rfl rfl rfl rfl (ltb rfl) ?_)
     refine VO.cons rfl (V1.sliceSw (c := (IntKind.i64.wrap ((s.length : Int) + (([y].length : Nat) : Int)))) rfl rfl esz_42 rfl (Bnd.some rfl (by rw [ewk]; omega) _) (Bnd.none _ _) (by rw [ewk, ewn]; exact ⟨by omega, by omega, by omega⟩) (ltb rfl) ?_)
     refine VO.cons rfl (V1.overlapsNo (k1 := 0) (k2 := 1) (fn := Try.f109) (tb := 4) rfl rfl rfl rfl Try.func109 rfl rfl (by kernel_rfl) (by kernel_rfl) esz_42 rfl rfl rfl rfl (by decide) (by simp) (by rw [ewk, ewn]; omega) (by decide) (ltb rfl) ?_)
     refine VO.cons rfl (V1.not rfl rfl rfl (ltb rfl) ?_)
     refine VO.nil ?_
     first | refine V.cond rfl (fun _ => ?_) (fun hc3 => absurd hc3 (by decide)) | (refine V.seq ?_; refine V.cond rfl (fun _ => ?_) (fun hc3 => absurd hc3 (by decide)))
     ·
      refine V.seq ?_
      refine V.regionM 95 8 [⟨[(0, none)], [], none⟩, ⟨[(1, none)], [], none⟩, ⟨[(7, none)], [], none⟩, ⟨[(70, some 1), (71, some 0)], [], none⟩, ⟨[(69, some 3), (72, some 0)], [], none⟩, ⟨[(0, none)], [], none⟩, ⟨[(1, none)], [], none⟩, ⟨[(74, some 1), (75, some 0)], [], none⟩] [(0, none), (1, none), (2, none), (73, some 3), (76, some 0)] (⟨_, rfl, ⟨_, rfl, ⟨_, rfl, ⟨_, rfl, ⟨_, rfl, ⟨_, rfl, ⟨_, rfl, ⟨_, rfl, ⟨rfl, rfl⟩⟩⟩⟩⟩⟩⟩⟩⟩) mixed_orders rfl (by decide +kernel) (fun hck2 => ?_)
      refine VP.step (p := ?pvB0) rfl rfl rfl (⟨_, _, rfl, rfl, rfl⟩) ?hvB0 ?restB0 hck2
      case hvB0 =>
       intro E1
       refine (V1.move rfl rfl rfl (ltb rfl) ?_)
       exact rfl
      refine VP.step (p := ?pvB1) rfl rfl rfl (⟨_, _, rfl, rfl, rfl⟩) ?hvB1 ?restB1 hck2
      case hvB1 =>
       intro E1
       refine (V1.move rfl rfl rfl (ltb rfl) ?_)
       exact rfl
      refine VP.step (p := ?pvB2) rfl rfl rfl (⟨_, _, rfl, rfl, rfl⟩) ?hvB2 ?restB2 hck2
      case hvB2 =>
       intro E1
       refine (V1.move rfl rfl rfl (ltb rfl) ?_)
       exact rfl
      refine VP.step (p := ?pvB3) rfl rfl rfl (⟨_, _, rfl, rfl, ⟨_, _, rfl, rfl, rfl⟩⟩) ?hvB3 ?restB3 hck2
      case hvB3 =>
       intro E1
       refine (V1.int rfl rfl rfl rfl rfl (ltb rfl) ?_)
       exact rfl
      refine VP.step (p := ?pvB4) rfl rfl rfl (⟨_, _, rfl, rfl, ⟨_, _, rfl, rfl, rfl⟩⟩) ?hvB4 ?restB4 hck2
      case hvB4 =>
       intro E1
       refine (V1.sliceSw (c := (IntKind.i64.wrap ((s.length : Int) + (([y].length : Nat) : Int)))) rfl rfl esz_42 rfl (Bnd.some rfl (by rw [ewk]; omega) _) (Bnd.none _ _) (by rw [ewk, ewn]; exact ⟨by omega, by omega, by omega⟩) (ltb rfl) ?_)
       exact rfl
      refine VP.step (p := ?pvB5) rfl rfl rfl (⟨_, _, rfl, rfl, rfl⟩) ?hvB5 ?restB5 hck2
      case hvB5 =>
       intro E1
       refine (V1.move rfl rfl rfl (ltb rfl) ?_)
       exact rfl
      refine VP.step (p := ?pvB6) rfl rfl rfl (⟨_, _, rfl, rfl, rfl⟩) ?hvB6 ?restB6 hck2
      case hvB6 =>
       intro E1
       refine (V1.move rfl rfl rfl (ltb rfl) ?_)
       exact rfl
      refine VP.step (p := ?pvB7) rfl rfl rfl (⟨_, _, rfl, rfl, ⟨_, _, rfl, rfl, rfl⟩⟩) ?hvB7 ?restB7 hck2
      case hvB7 =>
       intro E1
       refine (V1.sliceSw (c := (IntKind.i64.wrap ((s.length : Int) + (([y].length : Nat) : Int)))) rfl rfl esz_42 rfl (Bnd.some rfl (by omega) _) (Bnd.none _ _) (by rw [ewn]; exact ⟨by omega, by omega, by omega⟩) (ltb rfl) ?_)
       exact rfl
      refine VP.fin rfl (⟨_, _, rfl, rfl, ⟨_, _, rfl, rfl, ⟨_, _, rfl, rfl, ⟨_, _, rfl, rfl, ⟨_, _, rfl, rfl, rfl⟩⟩⟩⟩⟩) ?_
      refine VO.cons rfl (V1.copyOwn (k := 1) (ys := ((List.map encEvent s).drop k).take (s.length - k)) rfl rfl rfl rfl rfl esz_42 rfl rfl rfl (by rw [ewk]; simp; omega) (by rw [ewk, ewn]; omega) rfl (fun Φ S a w v he hr => ?src2) (ltb rfl) ?rest2)
      case src2 =>
       have e1 : (0 + Int.toNat (k : Int)) = k := by omega
       rw [e1] at hr
       exact SrcK.sref (k := 1) (ob := ⟨2, List.map encEvent s⟩) rfl rfl (by simp; omega) isl_42 (by rw [ewk, ewn]; simp only [Nat.min_def]; split <;> omega) (by rw [ewn]; omega) Φ S a w v he hr
      case rest2 =>
       refine VO.nil ?_
       refine V.seq ?_
       refine V.region ?_
       refine VO.cons rfl (V1.move rfl rfl rfl (ltb rfl) ?_)
       refine VO.cons rfl (V1.move rfl rfl rfl (ltb rfl) ?_)
       refine VO.cons rfl (V1.sliceSw (a := (k : Int)) (c := (IntKind.i64.wrap ((s.length : Int) + (([y].length : Nat) : Int)))) rfl rfl esz_42 rfl (Bnd.some rfl (by omega) _) (Bnd.none _ _) (by rw [ewn]; exact ⟨by omega, by omega, by omega⟩) (ltb rfl) ?_)
       refine VO.cons rfl (V1.move rfl rfl rfl (ltb rfl) ?_)
       refine VO.cons rfl (V1.copyOwn (k := 1) (ys := List.map encEvent [y]) rfl rfl rfl rfl rfl esz_42 rfl rfl rfl (by rw [ewk]; simp; omega) (by rw [ewn]; omega) rfl (SrcK.of (SrcOf.srMap (k := 0) rfl isl_42) (by rw [ewn]; simp only [List.length_map, List.length_cons, List.length_nil]; omega)) (ltb rfl) ?_)
       refine VO.nil ?_
       refine V.seq ?_
       refine V.region ?_
       refine VO.cons rfl (V1.move rfl rfl rfl (ltb rfl) ?_)
       refine VO.cons rfl (V1.assign rfl rfl rfl (ltb rfl) ?_)
       refine VO.nil ?_
       refine V.ret ?_
       refine ⟨_, _, ⟨_, _, rfl, rfl, rfl⟩, (List.Sublist.refl _).cons _, b, ?_, ?_⟩
       · refine congrArg (fun q => PV.sref b 2 0 q) ?_
         rw [ewn]
         simp
         omega
       · refine congrArg (fun q => [(b, (⟨2, q⟩ : Obj'))]) ?_
         rw [ewk]
         simp only [e0, Int.toNat_natCast, Nat.zero_add, List.length_map]
         have hq : (((List.map encEvent s).drop k).take (s.length - k)).length = s.length - k := by simp
         rw [hq]
         have h := ins_room (xs := List.map encEvent s) (ey := encEvent y) (k := k) (by simpa using hk) rfl
         simp only [List.length_map] at h
         simp only [List.map_append, List.map_take, List.map_drop]
         exact h

end Go.Proofs.Ytjfpdbhjoofllaa
