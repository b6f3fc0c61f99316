/- the functions do what their models say -/
import Derived.Test.YthfndefhmmfjaaaFacts
import Derived.Test.YthfndefhmmfjaaaMhM
set_option linter.unusedSimpArgs false
set_option linter.unusedVariables false
set_option maxRecDepth 100000
set_option maxHeartbeats 4000000
namespace Go.Proofs.Ythfndefhmmfjaaa
open Go.VS

theorem ok_laws_rBig {ρ0 rn : Nat} {code : List Int} {r : Bool} (h : M.laws_rBig code = some r) : Does Try.prog 6 [.vl ρ0 1 (List.map encU8 code)] [] rn (fun x H => x = .bool r ∧ H = []) := by
 have hm0 := h; clear h; unfold M.laws_rBig at hm0
 try dsimp only at hm0
 refine Does.intro (N := 6) Try.func6 rfl rfl rfl rfl ?_
 intro w0 S0
 refine V.seq ?_
 refine V.region ?_
 refine VO.cons rfl (V1.assign rfl rfl rfl (ltb rfl) ?_)
 refine VO.nil ?_
 refine V.seq ?_
 refine V.region ?_
 refine VO.cons rfl (V1.move rfl rfl rfl (ltb rfl) ?_)
 refine VO.cons rfl (V1.lenMap rfl rfl rfl rfl rfl rfl isl_22 (ltb rfl) ?_)
 refine VO.cons rfl (V1.int rfl rfl rfl rfl rfl (ltb rfl) ?_)
 refine VO.cons rfl (V1.assign rfl rfl rfl (ltb rfl) ?_)
 refine VO.nil ?_
 refine V.ret ?_
 obtain rfl := Option.some.inj hm0
 exact ⟨_, [], ⟨_, _, rfl, rfl, rfl⟩, List.nil_sublist _, rfl, rfl⟩

theorem ok_spec_l1Cur_next {ρ0 rn bp : Nat} {c : Cur} {r : Int × Cur} (h : M.spec_l1Cur_next c = some r) : Does Try.prog 123 [.ref bp 3 0 0] [(bp, ⟨3, [encCur ρ0 c]⟩)] rn (fun x H => x = .int .i64 r.1 ∧ H = [(bp, ⟨3, [encCur ρ0 r.2]⟩)]) := by
 have hm0 := h; clear h; unfold M.spec_l1Cur_next at hm0
 try dsimp only at hm0
 refine Does.intro (N := 62) Try.func123 rfl rfl rfl rfl ?_
 intro w0 S0
 refine V.seq ?_
 refine V.region ?_
 refine VO.cons rfl (V1.assign rfl rfl rfl (ltb rfl) ?_)
 refine VO.nil ?_
 refine V.seq ?_
 refine V.region ?_
 refine VO.cons rfl (V1.assign rfl rfl rfl (ltb rfl) ?_)
 refine VO.nil ?_
 refine V.seq ?_
 replace hm0 := bindO hm0; rcases hm0 with ⟨j0, hm1, hm0⟩
 refine V.cutT (D := (Int) × (Unit)) (fun ⟨b_, _⟩ => ⟨62, [(3, .int .i64 b_), (0, .ref bp 3 0 0)], [(bp, ⟨3, [encCur ρ0 c]⟩)]⟩) (fun ⟨b_, _⟩ => (b_ = j0)) ?_ ?_
 ·
  refine V.seq ?_
  refine V.regionM 62 9 [⟨[(0, none)], [], none⟩, ⟨[(4, some 0)], [], none⟩, ⟨[(5, some 0)], [], none⟩, ⟨[(6, some 0)], [], none⟩, ⟨[(0, none)], [], none⟩, ⟨[(8, some 0)], [], none⟩, ⟨[(9, some 0)], [], none⟩, ⟨[(10, some 0)], [], none⟩, ⟨[(11, some 0)], [], none⟩] [(0, none), (3, none), (7, some 5), (12, some 0)] (⟨_, rfl, ⟨_, rfl, ⟨_, rfl, ⟨_, rfl, ⟨_, rfl, ⟨_, rfl, ⟨_, rfl, ⟨_, rfl, ⟨_, rfl, ⟨rfl, rfl⟩⟩⟩⟩⟩⟩⟩⟩⟩⟩) mixed_orders rfl (by decide +kernel) (fun hck2 => ?_)
  refine VP.step (p := ?pv104) rfl rfl rfl (⟨_, _, rfl, rfl, rfl⟩) ?hv104 ?rest104 hck2
  case hv104 =>
   intro E1
   refine (V1.move rfl rfl rfl (ltb rfl) ?_)
   exact rfl
  refine VP.step (p := ?pv105) rfl rfl rfl (⟨_, _, rfl, rfl, rfl⟩) ?hv105 ?rest105 hck2
  case hv105 =>
   intro E1
   refine (V1.nilRef rfl rfl rfl (ltb rfl) ?_)
   exact rfl
  refine VP.step (p := ?pv106) rfl rfl rfl (⟨_, _, rfl, rfl, rfl⟩) ?hv106 ?rest106 hck2
  case hv106 =>
   intro E1
   refine (V1.fieldRef rfl rfl fo_77_1 rfl (ltb rfl) ?_)
   exact rfl
  refine VP.step (p := ?pv107) rfl rfl rfl (⟨_, _, rfl, rfl, rfl⟩) ?hv107 ?rest107 hck2
  case hv107 =>
   intro E1
   refine (V1.loadRef (k := 0) rfl rfl tyk_3 rfl rfl rfl rfl rfl (ltb rfl) ?_)
   exact rfl
  refine VP.step (p := ?pv108) rfl rfl rfl (⟨_, _, rfl, rfl, rfl⟩) ?hv108 ?rest108 hck2
  case hv108 =>
   intro E1
   refine (V1.move rfl rfl rfl (ltb rfl) ?_)
   exact rfl
  refine VP.step (p := ?pv109) rfl rfl rfl (⟨_, _, rfl, rfl, rfl⟩) ?hv109 ?rest109 hck2
  case hv109 =>
   intro E1
   refine (V1.nilRef rfl rfl rfl (ltb rfl) ?_)
   exact rfl
  refine VP.step (p := ?pv110) rfl rfl rfl (⟨_, _, rfl, rfl, rfl⟩) ?hv110 ?rest110 hck2
  case hv110 =>
   intro E1
   refine (V1.fieldRef rfl rfl fo_77_0 rfl (ltb rfl) ?_)
   exact rfl
  refine VP.step (p := ?pv111) rfl rfl rfl (⟨_, _, rfl, rfl, rfl⟩) ?hv111 ?rest111 hck2
  case hv111 =>
   intro E1
   refine (V1.loadRef (k := 0) rfl rfl tyk_22 rfl rfl rfl rfl rfl (ltb rfl) ?_)
   exact rfl
  refine VP.step (p := ?pv112) rfl rfl rfl (⟨_, _, rfl, rfl, rfl⟩) ?hv112 ?rest112 hck2
  case hv112 =>
   intro E1
   refine (V1.lenMap rfl rfl rfl rfl rfl rfl isl_22 (ltb rfl) ?_)
   exact rfl
  refine VP.fin rfl (⟨_, _, rfl, rfl, ⟨_, _, rfl, rfl, ⟨_, _, rfl, rfl, ⟨_, _, rfl, rfl, rfl⟩⟩⟩⟩) ?_
  refine VO.cons rfl (V1.int rfl rfl rfl rfl rfl (ltb rfl) ?_)
  refine VO.nil ?_
  refine V.cond rfl (fun hc0 => ?_) (fun hc0 => ?_)
  ·
   replace hm1 := cond_t hc0 hm1
   replace hm1 := asrt_some hm1; rcases hm1 with ⟨hh0, hm1⟩
   refine V.regionM 62 8 [⟨[(0, none)], [], none⟩, ⟨[(14, some 0)], [], none⟩, ⟨[(15, some 0)], [], none⟩, ⟨[(16, some 0)], [], none⟩, ⟨[(0, none)], [], none⟩, ⟨[(18, some 0)], [], none⟩, ⟨[(19, some 0)], [], none⟩, ⟨[(20, some 0)], [], none⟩] [(0, none), (17, some 4), (21, some 0)] (⟨_, rfl, ⟨_, rfl, ⟨_, rfl, ⟨_, rfl, ⟨_, rfl, ⟨_, rfl, ⟨_, rfl, ⟨_, rfl, ⟨rfl, rfl⟩⟩⟩⟩⟩⟩⟩⟩⟩) mixed_orders rfl (by decide +kernel) (fun hck3 => ?_)
   refine VP.step (p := ?pv113) rfl rfl rfl (⟨_, _, rfl, rfl, rfl⟩) ?hv113 ?rest113 hck3
   case hv113 =>
    intro E1
    refine (V1.move rfl rfl rfl (ltb rfl) ?_)
    exact rfl
   refine VP.step (p := ?pv114) rfl rfl rfl (⟨_, _, rfl, rfl, rfl⟩) ?hv114 ?rest114 hck3
   case hv114 =>
    intro E1
    refine (V1.nilRef rfl rfl rfl (ltb rfl) ?_)
    exact rfl
   refine VP.step (p := ?pv115) rfl rfl rfl (⟨_, _, rfl, rfl, rfl⟩) ?hv115 ?rest115 hck3
   case hv115 =>
    intro E1
    refine (V1.fieldRef rfl rfl fo_77_0 rfl (ltb rfl) ?_)
    exact rfl
   refine VP.step (p := ?pv116) rfl rfl rfl (⟨_, _, rfl, rfl, rfl⟩) ?hv116 ?rest116 hck3
   case hv116 =>
    intro E1
    refine (V1.loadRef (k := 0) rfl rfl tyk_22 rfl rfl rfl rfl rfl (ltb rfl) ?_)
    exact rfl
   refine VP.step (p := ?pv117) rfl rfl rfl (⟨_, _, rfl, rfl, rfl⟩) ?hv117 ?rest117 hck3
   case hv117 =>
    intro E1
    refine (V1.move rfl rfl rfl (ltb rfl) ?_)
    exact rfl
   refine VP.step (p := ?pv118) rfl rfl rfl (⟨_, _, rfl, rfl, rfl⟩) ?hv118 ?rest118 hck3
   case hv118 =>
    intro E1
    refine (V1.nilRef rfl rfl rfl (ltb rfl) ?_)
    exact rfl
   refine VP.step (p := ?pv119) rfl rfl rfl (⟨_, _, rfl, rfl, rfl⟩) ?hv119 ?rest119 hck3
   case hv119 =>
    intro E1
    refine (V1.fieldRef rfl rfl fo_77_1 rfl (ltb rfl) ?_)
    exact rfl
   refine VP.step (p := ?pv120) rfl rfl rfl (⟨_, _, rfl, rfl, rfl⟩) ?hv120 ?rest120 hck3
   case hv120 =>
    intro E1
    refine (V1.loadRef (k := 0) rfl rfl tyk_3 rfl rfl rfl rfl rfl (ltb rfl) ?_)
    exact rfl
   refine VP.fin rfl (⟨_, _, rfl, rfl, ⟨_, _, rfl, rfl, ⟨_, _, rfl, rfl, rfl⟩⟩⟩) ?_
   refine VO.cons rfl (V1.indexI rfl rfl esz_22 rfl rfl hh0 (ltb rfl) ?_)
   refine VO.cons rfl (V1.loadPin rfl rfl tyk_5 rfl rfl (ltb rfl) ?_)
   refine VO.cons rfl (V1.conv rfl rfl und_5 und_3 rfl (ltb rfl) ?_)
   refine VO.cons rfl (V1.assign rfl rfl rfl (ltb rfl) ?_)
   refine VO.nil ?_
   exact ⟨((IntKind.i64.wrap (c.Code.getD (Int.toNat c.At) default)), ()), Option.some.inj hm1, Keeps.mk (ks := [0]) rfl ⟨rfl, rfl, trivial⟩ (⟨_, _, rfl, rfl, rfl⟩) rfl⟩
  ·
   replace hm1 := cond_f hc0 hm1
   refine V.skip ?_
   exact ⟨((0 : Int), ()), Option.some.inj hm1, Keeps.mk (ks := [0]) rfl ⟨rfl, rfl, trivial⟩ (⟨_, _, rfl, rfl, rfl⟩) rfl⟩
 ·
  rintro ⟨b_, _⟩ rfl
  try dsimp only at hm0
  refine V.seq ?_
  refine V.region ?_
  refine VO.cons rfl (V1.move rfl rfl rfl (ltb rfl) ?_)
  refine VO.cons rfl (V1.nilRef rfl rfl rfl (ltb rfl) ?_)
  refine VO.cons rfl (V1.fieldRef rfl rfl fo_77_1 rfl (ltb rfl) ?_)
  refine VO.cons rfl (V1.loadRef (k := 0) rfl rfl tyk_3 rfl rfl rfl rfl rfl (ltb rfl) ?_)
  refine VO.cons rfl (V1.int rfl rfl rfl rfl rfl (ltb rfl) ?_)
  refine VO.cons rfl (V1.nilRef rfl rfl rfl (ltb rfl) ?_)
  refine VO.cons rfl (V1.fieldRef rfl rfl fo_77_1 rfl (ltb rfl) ?_)
  refine VO.cons rfl (V1.storeRef (k := 0) rfl rfl tyk_3 rfl rfl rfl rfl rfl rfl rfl rfl rfl ?_)
  refine VO.nil ?_
  refine V.keep 62 [0, 3] [0] (E0 := [(0, .ref bp 3 0 0), (3, .int .i64 b_)]) (H0 := [(bp, ⟨3, [.agg [.vl ρ0 1 (List.map encU8 c.Code), .int .i64 (IntKind.i64.wrap (c.At + (1 : Int))), .int .u64 c.Seed]]⟩)]) rfl (⟨_, _, rfl, rfl, ⟨_, _, rfl, rfl, rfl⟩⟩) (⟨_, _, rfl, rfl, rfl⟩) rfl ?_
  refine V.seq ?_
  refine V.region ?_
  refine VO.cons rfl (V1.move rfl rfl rfl (ltb rfl) ?_)
  refine VO.cons rfl (V1.move rfl rfl rfl (ltb rfl) ?_)
  refine VO.cons rfl (V1.nilRef rfl rfl rfl (ltb rfl) ?_)
  refine VO.cons rfl (V1.fieldRef rfl rfl fo_77_2 rfl (ltb rfl) ?_)
  refine VO.cons rfl (V1.loadRef (k := 0) rfl rfl tyk_75 rfl rfl rfl rfl rfl (ltb rfl) ?_)
  refine VO.cons rfl (V1.int rfl rfl rfl rfl rfl (ltb rfl) ?_)
  refine VO.cons rfl (V1.move rfl rfl rfl (ltb rfl) ?_)
  refine VO.cons rfl (V1.conv rfl rfl und_3 und_75 rfl (ltb rfl) ?_)
  refine VO.cons rfl (V1.int rfl rfl rfl rfl rfl (ltb rfl) ?_)
  refine VO.cons rfl (V1.int rfl rfl rfl rfl rfl (ltb rfl) ?_)
  refine VO.cons rfl (V1.nilRef rfl rfl rfl (ltb rfl) ?_)
  refine VO.cons rfl (V1.fieldRef rfl rfl fo_77_2 rfl (ltb rfl) ?_)
  refine VO.cons rfl (V1.storeRef (k := 0) rfl rfl tyk_75 rfl rfl rfl rfl rfl rfl rfl rfl rfl ?_)
  refine VO.nil ?_
  refine V.keep 62 [0, 3] [0] (E0 := [(0, .ref bp 3 0 0), (3, .int .i64 b_)]) (H0 := [(bp, ⟨3, [.agg [.vl ρ0 1 (List.map encU8 c.Code), .int .i64 (IntKind.i64.wrap (c.At + (1 : Int))), .int .u64 (IntKind.u64.wrap ((IntKind.u64.wrap ((IntKind.u64.wrap (c.Seed * (6364136223846793005 : Int))) + (IntKind.u64.wrap b_))) + (103535 : Int)))]]⟩)]) rfl (⟨_, _, rfl, rfl, ⟨_, _, rfl, rfl, rfl⟩⟩) (⟨_, _, rfl, rfl, rfl⟩) rfl ?_
  refine V.seq ?_
  refine V.seq ?_
  refine V.regionM 62 9 [⟨[(0, none)], [], none⟩, ⟨[(44, some 0)], [], none⟩, ⟨[(45, some 0)], [], none⟩, ⟨[(46, some 0)], [], none⟩, ⟨[(0, none)], [], none⟩, ⟨[(48, some 0)], [], none⟩, ⟨[(49, some 0)], [], none⟩, ⟨[(50, some 0)], [], none⟩, ⟨[(51, some 0)], [], none⟩] [(0, none), (3, none), (47, some 5), (52, some 0)] (⟨_, rfl, ⟨_, rfl, ⟨_, rfl, ⟨_, rfl, ⟨_, rfl, ⟨_, rfl, ⟨_, rfl, ⟨_, rfl, ⟨_, rfl, ⟨rfl, rfl⟩⟩⟩⟩⟩⟩⟩⟩⟩⟩) mixed_orders rfl (by decide +kernel) (fun hck6 => ?_)
  refine VP.step (p := ?pv121) rfl rfl rfl (⟨_, _, rfl, rfl, rfl⟩) ?hv121 ?rest121 hck6
  case hv121 =>
   intro E1
   refine (V1.move rfl rfl rfl (ltb rfl) ?_)
   exact rfl
  refine VP.step (p := ?pv122) rfl rfl rfl (⟨_, _, rfl, rfl, rfl⟩) ?hv122 ?rest122 hck6
  case hv122 =>
   intro E1
   refine (V1.nilRef rfl rfl rfl (ltb rfl) ?_)
   exact rfl
  refine VP.step (p := ?pv123) rfl rfl rfl (⟨_, _, rfl, rfl, rfl⟩) ?hv123 ?rest123 hck6
  case hv123 =>
   intro E1
   refine (V1.fieldRef rfl rfl fo_77_1 rfl (ltb rfl) ?_)
   exact rfl
  refine VP.step (p := ?pv124) rfl rfl rfl (⟨_, _, rfl, rfl, rfl⟩) ?hv124 ?rest124 hck6
  case hv124 =>
   intro E1
   refine (V1.loadRef (k := 0) rfl rfl tyk_3 rfl rfl rfl rfl rfl (ltb rfl) ?_)
   exact rfl
  refine VP.step (p := ?pv125) rfl rfl rfl (⟨_, _, rfl, rfl, rfl⟩) ?hv125 ?rest125 hck6
  case hv125 =>
   intro E1
   refine (V1.move rfl rfl rfl (ltb rfl) ?_)
   exact rfl
  refine VP.step (p := ?pv126) rfl rfl rfl (⟨_, _, rfl, rfl, rfl⟩) ?hv126 ?rest126 hck6
  case hv126 =>
   intro E1
   refine (V1.nilRef rfl rfl rfl (ltb rfl) ?_)
   exact rfl
  refine VP.step (p := ?pv127) rfl rfl rfl (⟨_, _, rfl, rfl, rfl⟩) ?hv127 ?rest127 hck6
  case hv127 =>
   intro E1
   refine (V1.fieldRef rfl rfl fo_77_0 rfl (ltb rfl) ?_)
   exact rfl
  refine VP.step (p := ?pv128) rfl rfl rfl (⟨_, _, rfl, rfl, rfl⟩) ?hv128 ?rest128 hck6
  case hv128 =>
   intro E1
   refine (V1.loadRef (k := 0) rfl rfl tyk_22 rfl rfl rfl rfl rfl (ltb rfl) ?_)
   exact rfl
  refine VP.step (p := ?pv129) rfl rfl rfl (⟨_, _, rfl, rfl, rfl⟩) ?hv129 ?rest129 hck6
  case hv129 =>
   intro E1
   refine (V1.lenMap rfl rfl rfl rfl rfl rfl isl_22 (ltb rfl) ?_)
   exact rfl
  refine VP.fin rfl (⟨_, _, rfl, rfl, ⟨_, _, rfl, rfl, ⟨_, _, rfl, rfl, ⟨_, _, rfl, rfl, rfl⟩⟩⟩⟩) ?_
  refine VO.cons rfl (V1.int rfl rfl rfl rfl rfl (ltb rfl) ?_)
  refine VO.nil ?_
  refine V.cond rfl (fun hc1 => ?_) (fun hc1 => ?_)
  ·
   replace hm0 := cond_t hc1 hm0
   refine V.seq ?_
   refine V.region ?_
   refine VO.cons rfl (V1.move rfl rfl rfl (ltb rfl) ?_)
   refine VO.cons rfl (V1.assign rfl rfl rfl (ltb rfl) ?_)
   refine VO.nil ?_
   refine V.ret ?_
   obtain rfl := Option.some.inj hm0
   exact ⟨_, _, ⟨_, _, rfl, rfl, rfl⟩, (sub1 (k := 0) rfl), rfl, rfl⟩
  ·
   replace hm0 := cond_f hc1 hm0
   refine V.skip ?_
   refine V.keep 62 [0] [0] (E0 := [(0, .ref bp 3 0 0)]) (H0 := [(bp, ⟨3, [.agg [.vl ρ0 1 (List.map encU8 c.Code), .int .i64 (IntKind.i64.wrap (c.At + (1 : Int))), .int .u64 (IntKind.u64.wrap ((IntKind.u64.wrap ((IntKind.u64.wrap (c.Seed * (6364136223846793005 : Int))) + (IntKind.u64.wrap b_))) + (103535 : Int)))]]⟩)]) rfl (⟨_, _, rfl, rfl, rfl⟩) (⟨_, _, rfl, rfl, rfl⟩) rfl ?_
   refine V.seq ?_
   refine V.region ?_
   refine VO.cons rfl (V1.move rfl rfl rfl (ltb rfl) ?_)
   refine VO.cons rfl (V1.nilRef rfl rfl rfl (ltb rfl) ?_)
   refine VO.cons rfl (V1.fieldRef rfl rfl fo_77_2 rfl (ltb rfl) ?_)
   refine VO.cons rfl (V1.loadRef (k := 0) rfl rfl tyk_75 rfl rfl rfl rfl rfl (ltb rfl) ?_)
   refine VO.cons rfl (V1.shr rfl rfl rfl rfl (by decide) (ltb rfl) ?_)
   refine VO.cons rfl (V1.int rfl rfl rfl rfl rfl (ltb rfl) ?_)
   refine VO.cons rfl (V1.conv rfl rfl und_75 und_3 rfl (ltb rfl) ?_)
   refine VO.cons rfl (V1.assign rfl rfl rfl (ltb rfl) ?_)
   refine VO.nil ?_
   refine V.ret ?_
   obtain rfl := Option.some.inj hm0
   exact ⟨_, _, ⟨_, _, rfl, rfl, rfl⟩, (sub1 (k := 0) rfl), rfl, rfl⟩

theorem ok_spec_l1Cur_pick {ρ0 rn bp : Nat} {c : Cur} {n : Int} {r : Int × Cur} (h : M.spec_l1Cur_pick c n = some r) : Does Try.prog 78 [.ref bp 3 0 0, .int .i64 n] [(bp, ⟨3, [encCur ρ0 c]⟩)] rn (fun x H => x = .int .i64 r.1 ∧ H = [(bp, ⟨3, [encCur ρ0 r.2]⟩)]) := by
 have hm0 := h; clear h; unfold M.spec_l1Cur_pick at hm0
 try dsimp only at hm0
 refine Does.intro (N := 20) Try.func78 rfl rfl rfl rfl ?_
 intro w0 S0
 refine V.seq ?_
 refine V.region ?_
 refine VO.cons rfl (V1.assign rfl rfl rfl (ltb rfl) ?_)
 refine VO.nil ?_
 refine V.seq ?_
 refine V.seq ?_
 refine V.region ?_
 refine VO.cons rfl (V1.move rfl rfl rfl (ltb rfl) ?_)
 refine VO.cons rfl (V1.int rfl rfl rfl rfl rfl (ltb rfl) ?_)
 refine VO.nil ?_
 refine V.cond rfl (fun hc0 => ?_) (fun hc0 => ?_)
 ·
  replace hm0 := cond_t hc0 hm0
  refine V.seq ?_
  refine V.region ?_
  refine VO.cons rfl (V1.assign rfl rfl rfl (ltb rfl) ?_)
  refine VO.nil ?_
  refine V.ret ?_
  obtain rfl := Option.some.inj hm0
  exact ⟨_, _, ⟨_, _, rfl, rfl, rfl⟩, (sub1 (k := 0) rfl), rfl, rfl⟩
 ·
  replace hm0 := cond_f hc0 hm0
  refine V.skip ?_
  refine V.seq ?_
  replace hm0 := bindO hm0; rcases hm0 with ⟨y0, hh0, hm0⟩
  refine V.region ?_
  refine VO.cons rfl (V1.move rfl rfl rfl (ltb rfl) ?_)
  refine VO.cons rfl (V1.callM 0 (rn + ρ0 + 1) [] [.ref bp 3 0 0] (p := (bp, ⟨3, [encCur ρ0 c]⟩)) rfl rfl rfl cok_123 rfl rfl ⟨_, _, rfl, .same _, rfl⟩ bwNil (ok_spec_l1Cur_next hh0) rfl (.inl rfl) (ltb rfl) ?_)
  rintro _ _ ⟨rfl, rfl⟩
  refine VO.cons rfl (V1.assign rfl rfl rfl (ltb rfl) ?_)
  refine VO.nil ?_
  refine V.keep 20 [0, 1, 5] [0] (E0 := [(0, .ref bp 3 0 0), (1, .int .i64 n), (5, .int .i64 y0.1)]) (H0 := [(bp, ⟨3, [encCur ρ0 y0.2]⟩)]) rfl (⟨_, _, rfl, rfl, ⟨_, _, rfl, rfl, ⟨_, _, rfl, rfl, rfl⟩⟩⟩) (⟨_, _, rfl, rfl, rfl⟩) rfl ?_
  refine V.seq ?_
  replace hm0 := bindO hm0; rcases hm0 with ⟨j0, hm1, hm0⟩
  refine V.cutT (D := (Int × Cur) × (Unit)) (fun ⟨⟨x, c_⟩, _⟩ => ⟨20, [(5, .int .i64 x), (1, .int .i64 n)], [(bp, ⟨3, [encCur ρ0 c_]⟩)]⟩) (fun ⟨⟨x, c_⟩, _⟩ => ((x, c_) = j0)) ?_ ?_
  ·
   refine V.seq ?_
   refine V.region ?_
   refine VO.cons rfl (V1.move rfl rfl rfl (ltb rfl) ?_)
   refine VO.cons rfl (V1.int rfl rfl rfl rfl rfl (ltb rfl) ?_)
   refine VO.nil ?_
   refine V.cond rfl (fun hc1 => ?_) (fun hc1 => ?_)
   ·
    replace hm1 := cond_t hc1 hm1
    replace hm1 := bindO hm1; rcases hm1 with ⟨y1, hh1, hm1⟩
    refine V.region ?_
    refine VO.cons rfl (V1.move rfl rfl rfl (ltb rfl) ?_)
    refine VO.cons rfl (V1.int rfl rfl rfl rfl rfl (ltb rfl) ?_)
    refine VO.cons rfl (V1.move rfl rfl rfl (ltb rfl) ?_)
    refine VO.cons rfl (V1.callM 0 (rn + ρ0 + 1) [] [.ref bp 3 0 0] (p := (bp, ⟨3, [encCur ρ0 y0.2]⟩)) rfl rfl rfl cok_123 rfl rfl ⟨_, _, rfl, .same _, rfl⟩ bwNil (ok_spec_l1Cur_next hh1) rfl (.inl rfl) (ltb rfl) ?_)
    rintro _ _ ⟨rfl, rfl⟩
    refine VO.cons rfl (V1.int rfl rfl rfl rfl rfl (ltb rfl) ?_)
    refine VO.cons rfl (V1.assign rfl rfl rfl (ltb rfl) ?_)
    refine VO.nil ?_
    exact ⟨(((IntKind.i64.wrap ((IntKind.i64.wrap (y0.1 * (256 : Int))) + y1.1)), y1.2), ()), Option.some.inj hm1, Keeps.mk (ks := [0]) rfl ⟨rfl, rfl, trivial⟩ (⟨_, _, rfl, rfl, rfl⟩) rfl⟩
   ·
    replace hm1 := cond_f hc1 hm1
    refine V.skip ?_
    exact ⟨((y0.1, y0.2), ()), Option.some.inj hm1, Keeps.mk (ks := [0]) rfl ⟨rfl, rfl, trivial⟩ (⟨_, _, rfl, rfl, rfl⟩) rfl⟩
  ·
   rintro ⟨⟨x, c_⟩, _⟩ rfl
   try dsimp only at hm0
   refine V.seq ?_
   replace hm0 := asrt_some hm0; rcases hm0 with ⟨hh2, hm0⟩
   refine V.region ?_
   refine VO.cons rfl (V1.move rfl rfl rfl (ltb rfl) ?_)
   refine VO.cons rfl (V1.move rfl rfl rfl (ltb rfl) ?_)
   refine VO.cons rfl (V1.rem rfl rfl rfl rfl (hh2) (ltb rfl) ?_)
   refine VO.cons rfl (V1.assign rfl rfl rfl (ltb rfl) ?_)
   refine VO.nil ?_
   refine V.ret ?_
   obtain rfl := Option.some.inj hm0
   exact ⟨_, _, ⟨_, _, rfl, rfl, rfl⟩, (sub1 (k := 0) rfl), rfl, rfl⟩

theorem ok_spec_l1Cur_among {ρ0 ρ1 rn bp : Nat} {c : Cur} {list : List Int} {r : Int × Cur} (h : M.spec_l1Cur_among c list = some r) : Does Try.prog 77 [.ref bp 3 0 0, .vl ρ1 1 (List.map encInt list)] [(bp, ⟨3, [encCur ρ0 c]⟩)] rn (fun x H => x = .int .i64 r.1 ∧ H = [(bp, ⟨3, [encCur ρ0 r.2]⟩)]) := by
 have hm0 := h; clear h; unfold M.spec_l1Cur_among at hm0
 try dsimp only at hm0
 refine Does.intro (N := 12) Try.func77 rfl rfl rfl rfl ?_
 intro w0 S0
 refine V.seq ?_
 refine V.region ?_
 refine VO.cons rfl (V1.assign rfl rfl rfl (ltb rfl) ?_)
 refine VO.nil ?_
 refine V.seq ?_
 replace hm0 := bindO hm0; rcases hm0 with ⟨y0, hh0, hm0⟩
 replace hm0 := asrt_some hm0; rcases hm0 with ⟨hh1, hm0⟩
 refine V.region ?_
 refine VO.cons rfl (V1.move rfl rfl rfl (ltb rfl) ?_)
 refine VO.cons rfl (V1.move rfl rfl rfl (ltb rfl) ?_)
 refine VO.cons rfl (V1.move rfl rfl rfl (ltb rfl) ?_)
 refine VO.cons rfl (V1.lenMap rfl rfl rfl rfl rfl rfl isl_38 (ltb rfl) ?_)
 refine VO.cons rfl (V1.callM 0 (rn + ρ0 + 1) [] [.ref bp 3 0 0, .int .i64 (list.length : Int)] (p := (bp, ⟨3, [encCur ρ0 c]⟩)) rfl rfl rfl cok_78 rfl rfl ⟨_, _, rfl, .same _, ⟨_, _, rfl, .same _, rfl⟩⟩ bwNil (ok_spec_l1Cur_pick hh0) rfl (.inl rfl) (ltb rfl) ?_)
 rintro _ _ ⟨rfl, rfl⟩
 refine VO.cons rfl (V1.indexI rfl rfl esz_38 rfl rfl hh1 (ltb rfl) ?_)
 refine VO.cons rfl (V1.loadPin rfl rfl tyk_3 rfl rfl (ltb rfl) ?_)
 refine VO.cons rfl (V1.assign rfl rfl rfl (ltb rfl) ?_)
 refine VO.nil ?_
 refine V.ret ?_
 obtain rfl := Option.some.inj hm0
 exact ⟨_, _, ⟨_, _, rfl, rfl, rfl⟩, (sub1 (k := 0) rfl), rfl, rfl⟩

theorem ok_spec_l1Cur_carton {ρ0 rn bp : Nat} {c : Cur} {id_ : Int} {first : Int} {r : Carton × Cur} (h : M.spec_l1Cur_carton c id_ first = some r) : Does Try.prog 95 [.ref bp 3 0 0, .int .i64 id_, .int .i64 first] [(bp, ⟨3, [encCur ρ0 c]⟩)] rn (fun x H => x = encCarton rn r.1 ∧ H = [(bp, ⟨3, [encCur ρ0 r.2]⟩)]) := by
 have hm0 := h; clear h; unfold M.spec_l1Cur_carton at hm0
 try dsimp only at hm0
 refine Does.intro (N := 91) Try.func95 rfl rfl rfl rfl ?_
 intro w0 S0
 refine V.seq ?_
 refine V.region ?_
 refine VO.cons rfl (V1.alloc rfl rfl zk_40 (ltb rfl) ?_)
 intro b0
 refine VO.nil ?_
 refine V.seq ?_
 replace hm0 := bindO hm0; rcases hm0 with ⟨y0, hh0, hm0⟩
 replace hm0 := bindO hm0; rcases hm0 with ⟨y1, hh1, hm0⟩
 replace hm0 := bindO hm0; rcases hm0 with ⟨y2, hh2, hm0⟩
 refine V.region ?_
 refine VO.cons rfl (V1.move rfl rfl rfl (ltb rfl) ?_)
 refine VO.cons rfl (V1.move rfl rfl rfl (ltb rfl) ?_)
 refine VO.cons rfl (V1.buildSliceT (f := encInt) ([(1 : Int), (1 : Int), (2 : Int), (30 : Int)] : List Int) rfl rfl esz_38 zk_3 rfl rfl rfl rfl rfl rfl rfl (ltb rfl) ?_)
 intro b1
 refine VO.cons rfl (V1.callM 2 (rn + ρ0 + 1) [b1] [.ref bp 3 0 0, .vl (rn + ρ0 + 1) 1 (List.map encInt ([(1 : Int), (1 : Int), (2 : Int), (30 : Int)] : List Int))] (p := (bp, ⟨3, [encCur ρ0 c]⟩)) rfl rfl rfl cok_77 rfl rfl ⟨_, _, rfl, .same _, ⟨_, _, rfl, Lend.srMap 0 rfl (fun _ => rfl) (.head _), rfl⟩⟩ (bwCons (k := 0) rfl bwNil) (ok_spec_l1Cur_among hh0) rfl (.inr ⟨(by first | omega | (dsimp only; omega)), by rintro _ _ ⟨rfl, rfl⟩; exact ⟨by simp [PV.no, PV.noL, optS_no, noL_iff, nbeq] <;> omega, by intro b ob h; first | exact optH_no (noL_map (fun _ => by simp [PV.no, PV.noL, noL_iff, nbeq]) _) b ob h | (simp at h; obtain ⟨rfl, rfl⟩ := h; exact noL_map (fun _ => by simp [PV.no, PV.noL, noL_iff, nbeq]) _) | (simp at h; obtain ⟨rfl, rfl⟩ := h; simp [PV.no, PV.noL, optS_no, noL_iff, nbeq] <;> omega)⟩⟩) (ltb rfl) ?_)
 rintro _ _ ⟨rfl, rfl⟩
 refine VO.cons rfl (V1.move rfl rfl rfl (ltb rfl) ?_)
 refine VO.cons rfl (V1.buildSliceT (f := encInt) ([(1 : Int), (1 : Int), (2 : Int), (9 : Int)] : List Int) rfl rfl esz_38 zk_3 rfl rfl rfl rfl rfl rfl rfl (ltb rfl) ?_)
 intro b2
 refine VO.cons rfl (V1.callM 1 (rn + ρ0 + 1) [b2] [.ref bp 3 0 0, .vl (rn + ρ0 + 1) 1 (List.map encInt ([(1 : Int), (1 : Int), (2 : Int), (9 : Int)] : List Int))] (p := (bp, ⟨3, [encCur ρ0 y0.2]⟩)) rfl rfl rfl cok_77 rfl rfl ⟨_, _, rfl, .same _, ⟨_, _, rfl, Lend.srMap 0 rfl (fun _ => rfl) (.head _), rfl⟩⟩ (bwCons (k := 0) rfl bwNil) (ok_spec_l1Cur_among hh1) rfl (.inr ⟨(by first | omega | (dsimp only; omega)), by rintro _ _ ⟨rfl, rfl⟩; exact ⟨by simp [PV.no, PV.noL, optS_no, noL_iff, nbeq] <;> omega, by intro b ob h; first | exact optH_no (noL_map (fun _ => by simp [PV.no, PV.noL, noL_iff, nbeq]) _) b ob h | (simp at h; obtain ⟨rfl, rfl⟩ := h; exact noL_map (fun _ => by simp [PV.no, PV.noL, noL_iff, nbeq]) _) | (simp at h; obtain ⟨rfl, rfl⟩ := h; simp [PV.no, PV.noL, optS_no, noL_iff, nbeq] <;> omega)⟩⟩) (ltb rfl) ?_)
 rintro _ _ ⟨rfl, rfl⟩
 refine VO.cons rfl (V1.move rfl rfl rfl (ltb rfl) ?_)
 refine VO.cons rfl (V1.buildSliceT (f := encInt) ([(1 : Int), (10 : Int), (20 : Int), (30 : Int), (40 : Int)] : List Int) rfl rfl esz_38 zk_3 rfl rfl rfl rfl rfl rfl rfl (ltb rfl) ?_)
 intro b3
 refine VO.cons rfl (V1.callM 1 (rn + ρ0 + 1) [b3] [.ref bp 3 0 0, .vl (rn + ρ0 + 1) 1 (List.map encInt ([(1 : Int), (10 : Int), (20 : Int), (30 : Int), (40 : Int)] : List Int))] (p := (bp, ⟨3, [encCur ρ0 y1.2]⟩)) rfl rfl rfl cok_77 rfl rfl ⟨_, _, rfl, .same _, ⟨_, _, rfl, Lend.srMap 0 rfl (fun _ => rfl) (.head _), rfl⟩⟩ (bwCons (k := 0) rfl bwNil) (ok_spec_l1Cur_among hh2) rfl (.inr ⟨(by first | omega | (dsimp only; omega)), by rintro _ _ ⟨rfl, rfl⟩; exact ⟨by simp [PV.no, PV.noL, optS_no, noL_iff, nbeq] <;> omega, by intro b ob h; first | exact optH_no (noL_map (fun _ => by simp [PV.no, PV.noL, noL_iff, nbeq]) _) b ob h | (simp at h; obtain ⟨rfl, rfl⟩ := h; exact noL_map (fun _ => by simp [PV.no, PV.noL, noL_iff, nbeq]) _) | (simp at h; obtain ⟨rfl, rfl⟩ := h; simp [PV.no, PV.noL, optS_no, noL_iff, nbeq] <;> omega)⟩⟩) (ltb rfl) ?_)
 rintro _ _ ⟨rfl, rfl⟩
 refine VO.cons rfl (V1.build rfl rfl zk_40 pl_40 rfl rfl (ltb rfl) ?_)
 refine VO.cons rfl (V1.alloc rfl rfl zk_40 (ltb rfl) ?_)
 intro b4
 refine VO.cons rfl (V1.storeRefAll (k := 0) rfl rfl tyk_40 rfl rfl rfl rfl rfl rfl ?_)
 refine VO.nil ?_
 refine V.keep 91 [0, 2, 6, 7] [0, 1, 5] (E0 := [(0, .ref bp 3 0 0), (2, .int .i64 first), (6, .ref b0 5 0 0), (7, .ref b4 5 0 0)]) (H0 := [(b4, ⟨5, [.agg [.int .i64 id_, .int .i64 y0.1, .int .i64 y1.1, .nils, .int .i64 y2.1]]⟩), (bp, ⟨3, [encCur ρ0 y2.2]⟩), (b0, ⟨5, [.agg [.int .i64 (0 : Int), .int .i64 (0 : Int), .int .i64 (0 : Int), .nils, .int .i64 (0 : Int)]]⟩)]) rfl (⟨_, _, rfl, rfl, ⟨_, _, rfl, rfl, ⟨_, _, rfl, rfl, ⟨_, _, rfl, rfl, rfl⟩⟩⟩⟩) (⟨_, _, rfl, rfl, ⟨_, _, rfl, rfl, ⟨_, _, rfl, rfl, rfl⟩⟩⟩) rfl ?_
 refine V.seq ?_
 refine V.seq ?_
 replace hm0 := bindO hm0; rcases hm0 with ⟨y3, hh3, hm0⟩
 refine V.region ?_
 refine VO.cons rfl (V1.move rfl rfl rfl (ltb rfl) ?_)
 refine VO.cons rfl (V1.callM 1 (rn + ρ0 + 1) [] [.ref bp 3 0 0, .int .i64 (6 : Int)] (p := (bp, ⟨3, [encCur ρ0 y2.2]⟩)) rfl rfl rfl cok_78 rfl rfl ⟨_, _, rfl, .same _, ⟨_, _, rfl, .same _, rfl⟩⟩ bwNil (ok_spec_l1Cur_pick hh3) rfl (.inl rfl) (ltb rfl) ?_)
 rintro _ _ ⟨rfl, rfl⟩
 refine VO.cons rfl (V1.assign rfl rfl rfl (ltb rfl) ?_)
 refine VO.nil ?_
 replace hm0 := bindO hm0; rcases hm0 with ⟨e0, he1, hm0⟩
 refine V.cutT (D := (Int × List Int × Cur) × (Option Nat)) (fun ⟨⟨first0, x_Files, c_⟩, ob0⟩ => ⟨91, [(2, .int .i64 first0), (0, .ref bp 3 0 0), (6, .ref b0 5 0 0), (7, .ref b4 5 0 0)], optH 1 ob0 (List.map encInt x_Files) ++ [(bp, ⟨3, [encCur ρ0 c_]⟩)] ++ [(b4, ⟨5, [.agg [.int .i64 id_, .int .i64 y0.1, .int .i64 y1.1, optS 1 ob0 (List.length x_Files), .int .i64 y2.1]]⟩)] ++ [(b0, ⟨5, [.agg [.int .i64 (0 : Int), .int .i64 (0 : Int), .int .i64 (0 : Int), .nils, .int .i64 (0 : Int)]]⟩)]⟩) (fun ⟨⟨first0, x_Files, c_⟩, ob0⟩ => ((first0, x_Files, c_) = e0) ∧ (ob0 = none → x_Files = [])) ?_ ?_
 ·
  refine V.block ?_
  refine V.keep 91 [2, 8, 0, 6, 7] [0, 1, 2] (E0 := [(2, .int .i64 first), (8, .int .i64 y3.1), (0, .ref bp 3 0 0), (6, .ref b0 5 0 0), (7, .ref b4 5 0 0)]) (H0 := [(bp, ⟨3, [encCur ρ0 y3.2]⟩), (b4, ⟨5, [.agg [.int .i64 id_, .int .i64 y0.1, .int .i64 y1.1, .nils, .int .i64 y2.1]]⟩), (b0, ⟨5, [.agg [.int .i64 (0 : Int), .int .i64 (0 : Int), .int .i64 (0 : Int), .nils, .int .i64 (0 : Int)]]⟩)]) rfl (⟨_, _, rfl, rfl, ⟨_, _, rfl, rfl, ⟨_, _, rfl, rfl, ⟨_, _, rfl, rfl, ⟨_, _, rfl, rfl, rfl⟩⟩⟩⟩⟩) (⟨_, _, rfl, rfl, ⟨_, _, rfl, rfl, ⟨_, _, rfl, rfl, rfl⟩⟩⟩) rfl ?_
  refine V.loopE (D := Nat × (Int × Int × List Int × Cur) × (Option Nat)) (fun ⟨n0, ⟨first1, n_, x_Files0, c_0⟩, ob1⟩ => [(2, .int .i64 first1), (8, .int .i64 n_)]) (fun ⟨n0, ⟨first1, n_, x_Files0, c_0⟩, ob1⟩ => optH 1 ob1 (List.map encInt x_Files0) ++ [(bp, ⟨3, [encCur ρ0 c_0]⟩)] ++ [(b4, ⟨5, [.agg [.int .i64 id_, .int .i64 y0.1, .int .i64 y1.1, optS 1 ob1 (List.length x_Files0), .int .i64 y2.1]]⟩)]) (fun ⟨n0, ⟨first1, n_, x_Files0, c_0⟩, ob1⟩ => loopO (M.spec_l1Cur_carton_l0) n0 (first1, n_, x_Files0, c_0) = some e0 ∧ (ob1 = none → x_Files0 = [])) (fun ⟨n0, _, _⟩ => n0) (rounds, (first, y3.1, ([] : List Int), y3.2), none) rfl ⟨he1, (fun _ => rfl)⟩ ?_
  rintro ⟨n0, ⟨first1, n_, x_Files0, c_0⟩, ob1⟩ ⟨hP0, hob1⟩
  obtain ⟨m0, y4, rfl, hm1, hl1, hr1⟩ := loop_head hP0
  unfold M.spec_l1Cur_carton_l0 at hm1; dsimp only at hm1
  rcases ob1 with _ | ob1
  ·
   replace hob1 := hob1 rfl
   show V _ _ _ ⟨91, [(2, .int .i64 first1), (8, .int .i64 n_), (0, .ref bp 3 0 0), (6, .ref b0 5 0 0), (7, .ref b4 5 0 0)], [(bp, ⟨3, [encCur ρ0 c_0]⟩), (b4, ⟨5, [.agg [.int .i64 id_, .int .i64 y0.1, .int .i64 y1.1, .nils, .int .i64 y2.1]]⟩), (b0, ⟨5, [.agg [.int .i64 (0 : Int), .int .i64 (0 : Int), .int .i64 (0 : Int), .nils, .int .i64 (0 : Int)]]⟩)]⟩
   refine V.seq ?_
   refine V.seq ?_
   refine V.region ?_
   refine VO.cons rfl (V1.move rfl rfl rfl (ltb rfl) ?_)
   refine VO.cons rfl (V1.int rfl rfl rfl rfl rfl (ltb rfl) ?_)
   refine VO.nil ?_
   refine V.cond rfl (fun hc0 => ?_) (fun hc0 => ?_)
   ·
    replace hm1 := cond_t hc0 hm1
    refine V.skip ?_
    refine V.seq ?_
    refine V.block ?_
    refine V.seq ?_
    replace hm1 := asrt_some hm1; rcases hm1 with ⟨hh4, hm1⟩
    refine V.region ?_
    refine VO.cons rfl (V1.fieldRef rfl rfl fo_40_3 rfl (ltb rfl) ?_)
    refine VO.cons rfl (V1.loadRef (k := 1) rfl rfl tyk_38 rfl rfl rfl rfl rfl (ltb rfl) ?_)
    refine VO.cons rfl (V1.move rfl rfl rfl (ltb rfl) ?_)
    refine VO.cons rfl (V1.buildSliceT (f := encInt) ([first1] : List Int) rfl rfl esz_38 zk_3 rfl rfl rfl rfl rfl rfl rfl (ltb rfl) ?_)
    intro b5
    refine VO.cons rfl (V1.appendNilE (f := encInt) (l := x_Files0) (m := ([first1] : List Int)) hob1 rfl rfl rfl rfl rfl esz_38 eby_38 zk_3 rfl rfl rfl (SrcOf.srMap (k := 0) rfl isl_38) rfl hh4 (ltb rfl) ?_)
    intro b6
    refine VO.cons rfl (V1.fieldRef rfl rfl fo_40_3 rfl (ltb rfl) ?_)
    refine VO.cons rfl (V1.storeRef (k := 3) rfl rfl tyk_38 rfl rfl rfl rfl rfl rfl rfl rfl rfl ?_)
    refine VO.nil ?_
    refine V.keep 91 [0, 2, 6, 7, 8] [0, 2, 3, 4] (E0 := [(0, .ref bp 3 0 0), (2, .int .i64 first1), (6, .ref b0 5 0 0), (7, .ref b4 5 0 0), (8, .int .i64 n_)]) (H0 := [(b6, ⟨1, List.map encInt (x_Files0 ++ ([first1] : List Int))⟩), (bp, ⟨3, [encCur ρ0 c_0]⟩), (b4, ⟨5, [.agg [.int .i64 id_, .int .i64 y0.1, .int .i64 y1.1, .sref b6 1 0 (List.length (x_Files0 ++ ([first1] : List Int))), .int .i64 y2.1]]⟩), (b0, ⟨5, [.agg [.int .i64 (0 : Int), .int .i64 (0 : Int), .int .i64 (0 : Int), .nils, .int .i64 (0 : Int)]]⟩)]) rfl (⟨_, _, rfl, rfl, ⟨_, _, rfl, rfl, ⟨_, _, rfl, rfl, ⟨_, _, rfl, rfl, ⟨_, _, rfl, rfl, rfl⟩⟩⟩⟩⟩) (⟨_, _, rfl, rfl, ⟨_, _, rfl, rfl, ⟨_, _, rfl, rfl, ⟨_, _, rfl, rfl, rfl⟩⟩⟩⟩) rfl ?_
    replace hm1 := bindO hm1; rcases hm1 with ⟨y5, hh5, hm1⟩
    refine V.region ?_
    refine VO.cons rfl (V1.move rfl rfl rfl (ltb rfl) ?_)
    refine VO.cons rfl (V1.int rfl rfl rfl rfl rfl (ltb rfl) ?_)
    refine VO.cons rfl (V1.move rfl rfl rfl (ltb rfl) ?_)
    refine VO.cons rfl (V1.callM 1 (rn + ρ0 + 1) [] [.ref bp 3 0 0, .int .i64 (2 : Int)] (p := (bp, ⟨3, [encCur ρ0 c_0]⟩)) rfl rfl rfl cok_78 rfl rfl ⟨_, _, rfl, .same _, ⟨_, _, rfl, .same _, rfl⟩⟩ bwNil (ok_spec_l1Cur_pick hh5) rfl (.inl rfl) (ltb rfl) ?_)
    rintro _ _ ⟨rfl, rfl⟩
    refine VO.cons rfl (V1.int rfl rfl rfl rfl rfl (ltb rfl) ?_)
    refine VO.cons rfl (V1.assign rfl rfl rfl (ltb rfl) ?_)
    refine VO.nil ?_
    refine V.keep 91 [0, 2, 6, 7, 8] [0, 1, 2, 3] (E0 := [(0, .ref bp 3 0 0), (2, .int .i64 (IntKind.i64.wrap ((IntKind.i64.wrap (first1 + (1 : Int))) + y5.1))), (6, .ref b0 5 0 0), (7, .ref b4 5 0 0), (8, .int .i64 n_)]) (H0 := [(bp, ⟨3, [encCur ρ0 y5.2]⟩), (b6, ⟨1, List.map encInt (x_Files0 ++ ([first1] : List Int))⟩), (b4, ⟨5, [.agg [.int .i64 id_, .int .i64 y0.1, .int .i64 y1.1, .sref b6 1 0 (List.length (x_Files0 ++ ([first1] : List Int))), .int .i64 y2.1]]⟩), (b0, ⟨5, [.agg [.int .i64 (0 : Int), .int .i64 (0 : Int), .int .i64 (0 : Int), .nils, .int .i64 (0 : Int)]]⟩)]) rfl (⟨_, _, rfl, rfl, ⟨_, _, rfl, rfl, ⟨_, _, rfl, rfl, ⟨_, _, rfl, rfl, ⟨_, _, rfl, rfl, rfl⟩⟩⟩⟩⟩) (⟨_, _, rfl, rfl, ⟨_, _, rfl, rfl, ⟨_, _, rfl, rfl, ⟨_, _, rfl, rfl, rfl⟩⟩⟩⟩) rfl ?_
    refine V.region ?_
    refine VO.cons rfl (V1.move rfl rfl rfl (ltb rfl) ?_)
    refine VO.cons rfl (V1.int rfl rfl rfl rfl rfl (ltb rfl) ?_)
    refine VO.cons rfl (V1.assign rfl rfl rfl (ltb rfl) ?_)
    refine VO.nil ?_
    exact ⟨(m0, ((IntKind.i64.wrap ((IntKind.i64.wrap (first1 + (1 : Int))) + y5.1)), (IntKind.i64.wrap (n_ - (1 : Int))), (x_Files0 ++ ([first1] : List Int)), y5.2), (some b6)), ⟨hl1 _ (Option.some.inj hm1).symm, (fun e => by cases e)⟩, Nat.lt_succ_self _, Keeps.mk (ks := [1, 0, 2, 3]) rfl ⟨rfl, rfl, rfl, rfl, rfl, trivial⟩ (⟨_, _, rfl, rfl, ⟨_, _, rfl, rfl, ⟨_, _, rfl, rfl, ⟨_, _, rfl, rfl, rfl⟩⟩⟩⟩) rfl⟩
   ·
    replace hm1 := cond_f hc0 hm1
    refine V.exit ?_
    obtain rfl := hr1 _ (Option.some.inj hm1).symm
    exact ⟨((first1, x_Files0, c_0), none), ⟨rfl, (fun _ => hob1)⟩, Keeps.mk (ks := [0, 1, 2]) rfl ⟨rfl, rfl, rfl, rfl, trivial⟩ (⟨_, _, rfl, rfl, ⟨_, _, rfl, rfl, ⟨_, _, rfl, rfl, rfl⟩⟩⟩) rfl⟩
  ·
   show V _ _ _ ⟨91, [(2, .int .i64 first1), (8, .int .i64 n_), (0, .ref bp 3 0 0), (6, .ref b0 5 0 0), (7, .ref b4 5 0 0)], [(ob1, ⟨1, List.map encInt x_Files0⟩), (bp, ⟨3, [encCur ρ0 c_0]⟩), (b4, ⟨5, [.agg [.int .i64 id_, .int .i64 y0.1, .int .i64 y1.1, .sref ob1 1 0 (List.length x_Files0), .int .i64 y2.1]]⟩), (b0, ⟨5, [.agg [.int .i64 (0 : Int), .int .i64 (0 : Int), .int .i64 (0 : Int), .nils, .int .i64 (0 : Int)]]⟩)]⟩
   refine V.seq ?_
   refine V.seq ?_
   refine V.region ?_
   refine VO.cons rfl (V1.move rfl rfl rfl (ltb rfl) ?_)
   refine VO.cons rfl (V1.int rfl rfl rfl rfl rfl (ltb rfl) ?_)
   refine VO.nil ?_
   refine V.cond rfl (fun hc0 => ?_) (fun hc0 => ?_)
   ·
    replace hm1 := cond_t hc0 hm1
    refine V.skip ?_
    refine V.seq ?_
    refine V.block ?_
    refine V.seq ?_
    replace hm1 := asrt_some hm1; rcases hm1 with ⟨hh4, hm1⟩
    refine V.region ?_
    refine VO.cons rfl (V1.fieldRef rfl rfl fo_40_3 rfl (ltb rfl) ?_)
    refine VO.cons rfl (V1.loadRef (k := 2) rfl rfl tyk_38 rfl rfl rfl rfl rfl (ltb rfl) ?_)
    refine VO.cons rfl (V1.move rfl rfl rfl (ltb rfl) ?_)
    refine VO.cons rfl (V1.buildSliceT (f := encInt) ([first1] : List Int) rfl rfl esz_38 zk_3 rfl rfl rfl rfl rfl rfl rfl (ltb rfl) ?_)
    intro b5
    refine VO.cons rfl (V1.appendMap (k := 1) (f := encInt) (l := x_Files0) (m := ([first1] : List Int)) rfl rfl rfl rfl rfl esz_38 eby_38 zk_3 rfl rfl rfl (SrcOf.srMap (k := 0) rfl isl_38) hh4 (ltb rfl) ?_)
    intro b6
    refine VO.cons rfl (V1.fieldRef rfl rfl fo_40_3 rfl (ltb rfl) ?_)
    refine VO.cons rfl (V1.storeRef (k := 3) rfl rfl tyk_38 rfl rfl rfl rfl rfl rfl rfl rfl rfl ?_)
    refine VO.nil ?_
    refine V.keep 91 [0, 2, 6, 7, 8] [0, 2, 3, 4] (E0 := [(0, .ref bp 3 0 0), (2, .int .i64 first1), (6, .ref b0 5 0 0), (7, .ref b4 5 0 0), (8, .int .i64 n_)]) (H0 := [(b6, ⟨1, List.map encInt (x_Files0 ++ ([first1] : List Int))⟩), (bp, ⟨3, [encCur ρ0 c_0]⟩), (b4, ⟨5, [.agg [.int .i64 id_, .int .i64 y0.1, .int .i64 y1.1, .sref b6 1 0 (List.length (x_Files0 ++ ([first1] : List Int))), .int .i64 y2.1]]⟩), (b0, ⟨5, [.agg [.int .i64 (0 : Int), .int .i64 (0 : Int), .int .i64 (0 : Int), .nils, .int .i64 (0 : Int)]]⟩)]) rfl (⟨_, _, rfl, rfl, ⟨_, _, rfl, rfl, ⟨_, _, rfl, rfl, ⟨_, _, rfl, rfl, ⟨_, _, rfl, rfl, rfl⟩⟩⟩⟩⟩) (⟨_, _, rfl, rfl, ⟨_, _, rfl, rfl, ⟨_, _, rfl, rfl, ⟨_, _, rfl, rfl, rfl⟩⟩⟩⟩) rfl ?_
    replace hm1 := bindO hm1; rcases hm1 with ⟨y5, hh5, hm1⟩
    refine V.region ?_
    refine VO.cons rfl (V1.move rfl rfl rfl (ltb rfl) ?_)
    refine VO.cons rfl (V1.int rfl rfl rfl rfl rfl (ltb rfl) ?_)
    refine VO.cons rfl (V1.move rfl rfl rfl (ltb rfl) ?_)
    refine VO.cons rfl (V1.callM 1 (rn + ρ0 + 1) [] [.ref bp 3 0 0, .int .i64 (2 : Int)] (p := (bp, ⟨3, [encCur ρ0 c_0]⟩)) rfl rfl rfl cok_78 rfl rfl ⟨_, _, rfl, .same _, ⟨_, _, rfl, .same _, rfl⟩⟩ bwNil (ok_spec_l1Cur_pick hh5) rfl (.inl rfl) (ltb rfl) ?_)
    rintro _ _ ⟨rfl, rfl⟩
    refine VO.cons rfl (V1.int rfl rfl rfl rfl rfl (ltb rfl) ?_)
    refine VO.cons rfl (V1.assign rfl rfl rfl (ltb rfl) ?_)
    refine VO.nil ?_
    refine V.keep 91 [0, 2, 6, 7, 8] [0, 1, 2, 3] (E0 := [(0, .ref bp 3 0 0), (2, .int .i64 (IntKind.i64.wrap ((IntKind.i64.wrap (first1 + (1 : Int))) + y5.1))), (6, .ref b0 5 0 0), (7, .ref b4 5 0 0), (8, .int .i64 n_)]) (H0 := [(bp, ⟨3, [encCur ρ0 y5.2]⟩), (b6, ⟨1, List.map encInt (x_Files0 ++ ([first1] : List Int))⟩), (b4, ⟨5, [.agg [.int .i64 id_, .int .i64 y0.1, .int .i64 y1.1, .sref b6 1 0 (List.length (x_Files0 ++ ([first1] : List Int))), .int .i64 y2.1]]⟩), (b0, ⟨5, [.agg [.int .i64 (0 : Int), .int .i64 (0 : Int), .int .i64 (0 : Int), .nils, .int .i64 (0 : Int)]]⟩)]) rfl (⟨_, _, rfl, rfl, ⟨_, _, rfl, rfl, ⟨_, _, rfl, rfl, ⟨_, _, rfl, rfl, ⟨_, _, rfl, rfl, rfl⟩⟩⟩⟩⟩) (⟨_, _, rfl, rfl, ⟨_, _, rfl, rfl, ⟨_, _, rfl, rfl, ⟨_, _, rfl, rfl, rfl⟩⟩⟩⟩) rfl ?_
    refine V.region ?_
    refine VO.cons rfl (V1.move rfl rfl rfl (ltb rfl) ?_)
    refine VO.cons rfl (V1.int rfl rfl rfl rfl rfl (ltb rfl) ?_)
    refine VO.cons rfl (V1.assign rfl rfl rfl (ltb rfl) ?_)
    refine VO.nil ?_
    exact ⟨(m0, ((IntKind.i64.wrap ((IntKind.i64.wrap (first1 + (1 : Int))) + y5.1)), (IntKind.i64.wrap (n_ - (1 : Int))), (x_Files0 ++ ([first1] : List Int)), y5.2), (some b6)), ⟨hl1 _ (Option.some.inj hm1).symm, (fun e => by cases e)⟩, Nat.lt_succ_self _, Keeps.mk (ks := [1, 0, 2, 3]) rfl ⟨rfl, rfl, rfl, rfl, rfl, trivial⟩ (⟨_, _, rfl, rfl, ⟨_, _, rfl, rfl, ⟨_, _, rfl, rfl, ⟨_, _, rfl, rfl, rfl⟩⟩⟩⟩) rfl⟩
   ·
    replace hm1 := cond_f hc0 hm1
    refine V.exit ?_
    obtain rfl := hr1 _ (Option.some.inj hm1).symm
    exact ⟨((first1, x_Files0, c_0), (some ob1)), ⟨rfl, (fun e => by cases e)⟩, Keeps.mk (ks := [0, 1, 2, 3]) rfl ⟨rfl, rfl, rfl, rfl, trivial⟩ (⟨_, _, rfl, rfl, ⟨_, _, rfl, rfl, ⟨_, _, rfl, rfl, ⟨_, _, rfl, rfl, rfl⟩⟩⟩⟩) rfl⟩
 ·
  rintro ⟨⟨first0, x_Files, c_⟩, ob0⟩ ⟨rfl, hob0⟩
  try dsimp only at hm0
  rcases ob0 with _ | ob0
  ·
   replace hob0 := hob0 rfl
   refine V.seq ?_
   refine V.seq ?_
   replace hm0 := bindO hm0; rcases hm0 with ⟨y6, hh6, hm0⟩
   refine V.region ?_
   refine VO.cons rfl (V1.move rfl rfl rfl (ltb rfl) ?_)
   refine VO.cons rfl (V1.callM 0 (rn + ρ0 + 1) [] [.ref bp 3 0 0, .int .i64 (70 : Int)] (p := (bp, ⟨3, [encCur ρ0 c_]⟩)) rfl rfl rfl cok_78 rfl rfl ⟨_, _, rfl, .same _, ⟨_, _, rfl, .same _, rfl⟩⟩ bwNil (ok_spec_l1Cur_pick hh6) rfl (.inl rfl) (ltb rfl) ?_)
   rintro _ _ ⟨rfl, rfl⟩
   refine VO.nil ?_
   replace hm0 := bindO hm0; rcases hm0 with ⟨j0, hm1, hm0⟩
   refine V.cutT (D := (Int × Int × Int × List Int × Int × Cur) × (Option Nat)) (fun ⟨⟨x_Id, x_Shelf, x_Room, x_Files1, x_Thick, c_1⟩, ob2⟩ => ⟨91, [(6, .ref b0 5 0 0), (7, .ref b4 5 0 0)], optH 1 ob2 (List.map encInt x_Files1) ++ [(bp, ⟨3, [encCur ρ0 c_1]⟩)] ++ [(b4, ⟨5, [.agg [.int .i64 x_Id, .int .i64 x_Shelf, .int .i64 x_Room, optS 1 ob2 (List.length x_Files1), .int .i64 x_Thick]]⟩)] ++ [(b0, ⟨5, [.agg [.int .i64 (0 : Int), .int .i64 (0 : Int), .int .i64 (0 : Int), .nils, .int .i64 (0 : Int)]]⟩)]⟩) (fun ⟨⟨x_Id, x_Shelf, x_Room, x_Files1, x_Thick, c_1⟩, ob2⟩ => ((x_Id, x_Shelf, x_Room, x_Files1, x_Thick, c_1) = j0) ∧ (ob2 = none → x_Files1 = [])) ?_ ?_
   ·
    refine V.block ?_
    refine V.seq ?_
    refine V.region ?_
    refine VO.cons rfl (V1.int rfl rfl rfl rfl rfl (ltb rfl) ?_)
    refine VO.cons rfl (V1.assign rfl rfl rfl (ltb rfl) ?_)
    refine VO.nil ?_
    refine V.cond rfl (fun hc1 => ?_) (fun hc1 => ?_)
    ·
     replace hm1 := cond_t hc1 hm1
     replace hm1 := bindO hm1; rcases hm1 with ⟨y7, hh7, hm1⟩
     refine V.region ?_
     refine VO.cons rfl (V1.move rfl rfl rfl (ltb rfl) ?_)
     refine VO.cons rfl (V1.buildSliceT (f := encInt) ([(0 : Int), (99 : Int), (100 : Int)] : List Int) rfl rfl esz_38 zk_3 rfl rfl rfl rfl rfl rfl rfl (ltb rfl) ?_)
     intro b7
     refine VO.cons rfl (V1.callM 1 (rn + ρ0 + 1) [b7] [.ref bp 3 0 0, .vl (rn + ρ0 + 1) 1 (List.map encInt ([(0 : Int), (99 : Int), (100 : Int)] : List Int))] (p := (bp, ⟨3, [encCur ρ0 y6.2]⟩)) rfl rfl rfl cok_77 rfl rfl ⟨_, _, rfl, .same _, ⟨_, _, rfl, Lend.srMap 0 rfl (fun _ => rfl) (.head _), rfl⟩⟩ (bwCons (k := 0) rfl bwNil) (ok_spec_l1Cur_among hh7) rfl (.inr ⟨(by first | omega | (dsimp only; omega)), by rintro _ _ ⟨rfl, rfl⟩; exact ⟨by simp [PV.no, PV.noL, optS_no, noL_iff, nbeq] <;> omega, by intro b ob h; first | exact optH_no (noL_map (fun _ => by simp [PV.no, PV.noL, noL_iff, nbeq]) _) b ob h | (simp at h; obtain ⟨rfl, rfl⟩ := h; exact noL_map (fun _ => by simp [PV.no, PV.noL, noL_iff, nbeq]) _) | (simp at h; obtain ⟨rfl, rfl⟩ := h; simp [PV.no, PV.noL, optS_no, noL_iff, nbeq] <;> omega)⟩⟩) (ltb rfl) ?_)
     rintro _ _ ⟨rfl, rfl⟩
     refine VO.cons rfl (V1.fieldRef rfl rfl fo_40_0 rfl (ltb rfl) ?_)
     refine VO.cons rfl (V1.storeRef (k := 2) rfl rfl tyk_3 rfl rfl rfl rfl rfl rfl rfl rfl rfl ?_)
     refine VO.nil ?_
     exact ⟨((y7.1, y0.1, y1.1, x_Files, y2.1, y7.2), none), ⟨Option.some.inj hm1, (fun _ => hob0)⟩, Keeps.mk (ks := [0, 2, 3]) rfl ⟨rfl, rfl, trivial⟩ (⟨_, _, rfl, rfl, ⟨_, _, rfl, rfl, ⟨_, _, rfl, rfl, rfl⟩⟩⟩) rfl⟩
    ·
     replace hm1 := cond_f hc1 hm1
     refine V.seq ?_
     refine V.region ?_
     refine VO.cons rfl (V1.int rfl rfl rfl rfl rfl (ltb rfl) ?_)
     refine VO.cons rfl (V1.assign rfl rfl rfl (ltb rfl) ?_)
     refine VO.nil ?_
     refine V.keep 91 [0, 2, 6, 7, 38, 45] [0, 1, 2] (E0 := [(0, .ref bp 3 0 0), (2, .int .i64 first0), (6, .ref b0 5 0 0), (7, .ref b4 5 0 0), (38, .int .i64 y6.1), (45, .bool (y6.1 == (1 : Int)))]) (H0 := [(bp, ⟨3, [encCur ρ0 y6.2]⟩), (b4, ⟨5, [.agg [.int .i64 id_, .int .i64 y0.1, .int .i64 y1.1, .nils, .int .i64 y2.1]]⟩), (b0, ⟨5, [.agg [.int .i64 (0 : Int), .int .i64 (0 : Int), .int .i64 (0 : Int), .nils, .int .i64 (0 : Int)]]⟩)]) rfl (⟨_, _, rfl, rfl, ⟨_, _, rfl, rfl, ⟨_, _, rfl, rfl, ⟨_, _, rfl, rfl, ⟨_, _, rfl, rfl, ⟨_, _, rfl, rfl, rfl⟩⟩⟩⟩⟩⟩) (⟨_, _, rfl, rfl, ⟨_, _, rfl, rfl, ⟨_, _, rfl, rfl, rfl⟩⟩⟩) rfl ?_
     refine V.cond rfl (fun hc2 => ?_) (fun hc2 => ?_)
     ·
      replace hm1 := cond_t hc2 hm1
      replace hm1 := bindO hm1; rcases hm1 with ⟨y8, hh8, hm1⟩
      refine V.region ?_
      refine VO.cons rfl (V1.move rfl rfl rfl (ltb rfl) ?_)
      refine VO.cons rfl (V1.buildSliceT (f := encInt) ([(0 : Int), (31 : Int)] : List Int) rfl rfl esz_38 zk_3 rfl rfl rfl rfl rfl rfl rfl (ltb rfl) ?_)
      intro b8
      refine VO.cons rfl (V1.callM 1 (rn + ρ0 + 1) [b8] [.ref bp 3 0 0, .vl (rn + ρ0 + 1) 1 (List.map encInt ([(0 : Int), (31 : Int)] : List Int))] (p := (bp, ⟨3, [encCur ρ0 y6.2]⟩)) rfl rfl rfl cok_77 rfl rfl ⟨_, _, rfl, .same _, ⟨_, _, rfl, Lend.srMap 0 rfl (fun _ => rfl) (.head _), rfl⟩⟩ (bwCons (k := 0) rfl bwNil) (ok_spec_l1Cur_among hh8) rfl (.inr ⟨(by first | omega | (dsimp only; omega)), by rintro _ _ ⟨rfl, rfl⟩; exact ⟨by simp [PV.no, PV.noL, optS_no, noL_iff, nbeq] <;> omega, by intro b ob h; first | exact optH_no (noL_map (fun _ => by simp [PV.no, PV.noL, noL_iff, nbeq]) _) b ob h | (simp at h; obtain ⟨rfl, rfl⟩ := h; exact noL_map (fun _ => by simp [PV.no, PV.noL, noL_iff, nbeq]) _) | (simp at h; obtain ⟨rfl, rfl⟩ := h; simp [PV.no, PV.noL, optS_no, noL_iff, nbeq] <;> omega)⟩⟩) (ltb rfl) ?_)
      rintro _ _ ⟨rfl, rfl⟩
      refine VO.cons rfl (V1.fieldRef rfl rfl fo_40_1 rfl (ltb rfl) ?_)
      refine VO.cons rfl (V1.storeRef (k := 2) rfl rfl tyk_3 rfl rfl rfl rfl rfl rfl rfl rfl rfl ?_)
      refine VO.nil ?_
      exact ⟨((id_, y8.1, y1.1, x_Files, y2.1, y8.2), none), ⟨Option.some.inj hm1, (fun _ => hob0)⟩, Keeps.mk (ks := [0, 2, 3]) rfl ⟨rfl, rfl, trivial⟩ (⟨_, _, rfl, rfl, ⟨_, _, rfl, rfl, ⟨_, _, rfl, rfl, rfl⟩⟩⟩) rfl⟩
     ·
      replace hm1 := cond_f hc2 hm1
      refine V.seq ?_
      refine V.region ?_
      refine VO.cons rfl (V1.int rfl rfl rfl rfl rfl (ltb rfl) ?_)
      refine VO.cons rfl (V1.assign rfl rfl rfl (ltb rfl) ?_)
      refine VO.nil ?_
      refine V.cond rfl (fun hc3 => ?_) (fun hc3 => ?_)
      ·
       replace hm1 := cond_t hc3 hm1
       replace hm1 := bindO hm1; rcases hm1 with ⟨y9, hh9, hm1⟩
       refine V.region ?_
       refine VO.cons rfl (V1.move rfl rfl rfl (ltb rfl) ?_)
       refine VO.cons rfl (V1.buildSliceT (f := encInt) ([(0 : Int), (10 : Int)] : List Int) rfl rfl esz_38 zk_3 rfl rfl rfl rfl rfl rfl rfl (ltb rfl) ?_)
       intro b9
       refine VO.cons rfl (V1.callM 1 (rn + ρ0 + 1) [b9] [.ref bp 3 0 0, .vl (rn + ρ0 + 1) 1 (List.map encInt ([(0 : Int), (10 : Int)] : List Int))] (p := (bp, ⟨3, [encCur ρ0 y6.2]⟩)) rfl rfl rfl cok_77 rfl rfl ⟨_, _, rfl, .same _, ⟨_, _, rfl, Lend.srMap 0 rfl (fun _ => rfl) (.head _), rfl⟩⟩ (bwCons (k := 0) rfl bwNil) (ok_spec_l1Cur_among hh9) rfl (.inr ⟨(by first | omega | (dsimp only; omega)), by rintro _ _ ⟨rfl, rfl⟩; exact ⟨by simp [PV.no, PV.noL, optS_no, noL_iff, nbeq] <;> omega, by intro b ob h; first | exact optH_no (noL_map (fun _ => by simp [PV.no, PV.noL, noL_iff, nbeq]) _) b ob h | (simp at h; obtain ⟨rfl, rfl⟩ := h; exact noL_map (fun _ => by simp [PV.no, PV.noL, noL_iff, nbeq]) _) | (simp at h; obtain ⟨rfl, rfl⟩ := h; simp [PV.no, PV.noL, optS_no, noL_iff, nbeq] <;> omega)⟩⟩) (ltb rfl) ?_)
       rintro _ _ ⟨rfl, rfl⟩
       refine VO.cons rfl (V1.fieldRef rfl rfl fo_40_2 rfl (ltb rfl) ?_)
       refine VO.cons rfl (V1.storeRef (k := 2) rfl rfl tyk_3 rfl rfl rfl rfl rfl rfl rfl rfl rfl ?_)
       refine VO.nil ?_
       exact ⟨((id_, y0.1, y9.1, x_Files, y2.1, y9.2), none), ⟨Option.some.inj hm1, (fun _ => hob0)⟩, Keeps.mk (ks := [0, 2, 3]) rfl ⟨rfl, rfl, trivial⟩ (⟨_, _, rfl, rfl, ⟨_, _, rfl, rfl, ⟨_, _, rfl, rfl, rfl⟩⟩⟩) rfl⟩
      ·
       replace hm1 := cond_f hc3 hm1
       refine V.seq ?_
       refine V.region ?_
       refine VO.cons rfl (V1.int rfl rfl rfl rfl rfl (ltb rfl) ?_)
       refine VO.cons rfl (V1.assign rfl rfl rfl (ltb rfl) ?_)
       refine VO.nil ?_
       refine V.keep 91 [0, 2, 6, 7, 38, 57] [0, 1, 2] (E0 := [(0, .ref bp 3 0 0), (2, .int .i64 first0), (6, .ref b0 5 0 0), (7, .ref b4 5 0 0), (38, .int .i64 y6.1), (57, .bool (y6.1 == (3 : Int)))]) (H0 := [(bp, ⟨3, [encCur ρ0 y6.2]⟩), (b4, ⟨5, [.agg [.int .i64 id_, .int .i64 y0.1, .int .i64 y1.1, .nils, .int .i64 y2.1]]⟩), (b0, ⟨5, [.agg [.int .i64 (0 : Int), .int .i64 (0 : Int), .int .i64 (0 : Int), .nils, .int .i64 (0 : Int)]]⟩)]) rfl (⟨_, _, rfl, rfl, ⟨_, _, rfl, rfl, ⟨_, _, rfl, rfl, ⟨_, _, rfl, rfl, ⟨_, _, rfl, rfl, ⟨_, _, rfl, rfl, rfl⟩⟩⟩⟩⟩⟩) (⟨_, _, rfl, rfl, ⟨_, _, rfl, rfl, ⟨_, _, rfl, rfl, rfl⟩⟩⟩) rfl ?_
       refine V.cond rfl (fun hc4 => ?_) (fun hc4 => ?_)
       ·
        replace hm1 := cond_t hc4 hm1
        replace hm1 := bindO hm1; rcases hm1 with ⟨y10, hh10, hm1⟩
        refine V.region ?_
        refine VO.cons rfl (V1.move rfl rfl rfl (ltb rfl) ?_)
        refine VO.cons rfl (V1.buildSliceT (f := encInt) ([(0 : Int), (41 : Int)] : List Int) rfl rfl esz_38 zk_3 rfl rfl rfl rfl rfl rfl rfl (ltb rfl) ?_)
        intro b10
        refine VO.cons rfl (V1.callM 1 (rn + ρ0 + 1) [b10] [.ref bp 3 0 0, .vl (rn + ρ0 + 1) 1 (List.map encInt ([(0 : Int), (41 : Int)] : List Int))] (p := (bp, ⟨3, [encCur ρ0 y6.2]⟩)) rfl rfl rfl cok_77 rfl rfl ⟨_, _, rfl, .same _, ⟨_, _, rfl, Lend.srMap 0 rfl (fun _ => rfl) (.head _), rfl⟩⟩ (bwCons (k := 0) rfl bwNil) (ok_spec_l1Cur_among hh10) rfl (.inr ⟨(by first | omega | (dsimp only; omega)), by rintro _ _ ⟨rfl, rfl⟩; exact ⟨by simp [PV.no, PV.noL, optS_no, noL_iff, nbeq] <;> omega, by intro b ob h; first | exact optH_no (noL_map (fun _ => by simp [PV.no, PV.noL, noL_iff, nbeq]) _) b ob h | (simp at h; obtain ⟨rfl, rfl⟩ := h; exact noL_map (fun _ => by simp [PV.no, PV.noL, noL_iff, nbeq]) _) | (simp at h; obtain ⟨rfl, rfl⟩ := h; simp [PV.no, PV.noL, optS_no, noL_iff, nbeq] <;> omega)⟩⟩) (ltb rfl) ?_)
        rintro _ _ ⟨rfl, rfl⟩
        refine VO.cons rfl (V1.fieldRef rfl rfl fo_40_4 rfl (ltb rfl) ?_)
        refine VO.cons rfl (V1.storeRef (k := 2) rfl rfl tyk_3 rfl rfl rfl rfl rfl rfl rfl rfl rfl ?_)
        refine VO.nil ?_
        exact ⟨((id_, y0.1, y1.1, x_Files, y10.1, y10.2), none), ⟨Option.some.inj hm1, (fun _ => hob0)⟩, Keeps.mk (ks := [0, 2, 3]) rfl ⟨rfl, rfl, trivial⟩ (⟨_, _, rfl, rfl, ⟨_, _, rfl, rfl, ⟨_, _, rfl, rfl, rfl⟩⟩⟩) rfl⟩
       ·
        replace hm1 := cond_f hc4 hm1
        refine V.seq ?_
        refine V.region ?_
        refine VO.cons rfl (V1.int rfl rfl rfl rfl rfl (ltb rfl) ?_)
        refine VO.cons rfl (V1.assign rfl rfl rfl (ltb rfl) ?_)
        refine VO.nil ?_
        refine V.cond rfl (fun hc5 => ?_) (fun hc5 => ?_)
        ·
         replace hm1 := cond_t hc5 hm1
         replace hm1 := bindO hm1; rcases hm1 with ⟨y11, hh11, hm1⟩
         replace hm1 := asrt_some hm1; rcases hm1 with ⟨hh12, hm1⟩
         replace hm1 := bindO hm1; rcases hm1 with ⟨j1, hm2, hm1⟩
         refine V.cutT (D := (List Int × Cur) × (Nat)) (fun ⟨⟨x_Files2, o⟩, b14⟩ => ⟨91, [(6, .ref b0 5 0 0), (7, .ref b4 5 0 0)], [(b14, ⟨1, List.map encInt x_Files2⟩), (bp, ⟨3, [encCur ρ0 o]⟩), (b4, ⟨5, [.agg [.int .i64 id_, .int .i64 y0.1, .int .i64 y1.1, .sref b14 1 0 (List.length x_Files2), .int .i64 y2.1]]⟩), (b0, ⟨5, [.agg [.int .i64 (0 : Int), .int .i64 (0 : Int), .int .i64 (0 : Int), .nils, .int .i64 (0 : Int)]]⟩)]⟩) (fun ⟨⟨x_Files2, o⟩, b14⟩ => ((x_Files2, o) = j1)) ?_ ?_
         ·
          refine V.regionS [] 91 6 [⟨[(7, none)], false⟩, ⟨[(65, some 0)], true⟩, ⟨[(0, none)], false⟩, ⟨[], true⟩, ⟨[(67, some 2), (68, some 3)], true⟩, ⟨[(69, some 4)], true⟩] [(6, none), (7, none), (66, some 1), (70, some 5)] 4 (⟨_, rfl, ⟨_, rfl, ⟨_, rfl, ⟨_, rfl, ⟨_, rfl, ⟨_, rfl, ⟨rfl, rfl⟩⟩⟩⟩⟩⟩⟩) mixed_orders rfl (by decide +kernel) ?_
          refine WalkP.step (p := ?pv345) 0 rfl rfl rfl rfl rfl (⟨_, _, rfl, rfl, rfl⟩) ?hv345 ?rest345
          case hv345 =>
           intro E1 H1 hI1
           refine (V1.fieldRef rfl rfl fo_40_3 rfl (ltb rfl) ?_)
           exact rfl
          refine WalkP.step (p := ?pv346) 2 rfl rfl rfl rfl rfl (⟨_, _, rfl, rfl, rfl⟩) ?hv346 ?rest346
          case hv346 =>
           intro E1 H1 hI1
           refine (V1.move rfl rfl rfl (ltb rfl) ?_)
           exact rfl
          refine WalkP.nil ?_
          refine NodeS.branch [1, 3] inNil rfl rfl rfl ⟨?_, ?_, trivial⟩
          ·
           refine ⟨_, _, _, _, rfl, rfl, rfl, (⟨_, _, rfl, rfl, rfl⟩), fun E1 => ?_⟩
           refine (V1.loadRef (k := 1) rfl rfl tyk_38 rfl rfl rfl rfl rfl (ltb rfl) ?_)
           refine ⟨_, _, rfl, ?_⟩
           refine WalkP.nil ?_
           refine NodeS.branch [3] inNil rfl rfl rfl ⟨?_, trivial⟩
           ·
            refine ⟨_, _, _, _, rfl, rfl, rfl, (rfl), fun E1 => ?_⟩
            refine (V1.buildSliceT (f := encInt) ([(0 : Int), (5 : Int), (1000 : Int)] : List Int) rfl rfl esz_38 zk_3 rfl rfl rfl rfl rfl rfl rfl (ltb rfl) ?_)
            intro b15
            refine ⟨_, _, rfl, ?_⟩
            refine WalkP.nil ?_
            refine NodeS.branch [4] inNil rfl rfl rfl ⟨?_, trivial⟩
            ·
             refine ⟨_, _, _, _, rfl, rfl, rfl, (⟨_, _, rfl, rfl, ⟨_, _, rfl, rfl, rfl⟩⟩), fun E1 => ?_⟩
             refine (V1.callM 1 (rn + ρ0 + 1) [b15] [.ref bp 3 0 0, .vl (rn + ρ0 + 1) 1 (List.map encInt ([(0 : Int), (5 : Int), (1000 : Int)] : List Int))] (p := (bp, ⟨3, [encCur ρ0 y6.2]⟩)) rfl rfl rfl cok_77 rfl rfl ⟨_, _, rfl, .same _, ⟨_, _, rfl, Lend.srMap 0 rfl (fun _ => rfl) (.head _), rfl⟩⟩ (bwCons (k := 0) rfl bwNil) (ok_spec_l1Cur_among hh11) rfl (.inr ⟨(by first | omega | (dsimp only; omega)), by rintro _ _ ⟨rfl, rfl⟩; exact ⟨by simp [PV.no, PV.noL, optS_no, noL_iff, nbeq] <;> omega, by intro b ob h; first | exact optH_no (noL_map (fun _ => by simp [PV.no, PV.noL, noL_iff, nbeq]) _) b ob h | (simp at h; obtain ⟨rfl, rfl⟩ := h; exact noL_map (fun _ => by simp [PV.no, PV.noL, noL_iff, nbeq]) _) | (simp at h; obtain ⟨rfl, rfl⟩ := h; simp [PV.no, PV.noL, optS_no, noL_iff, nbeq] <;> omega)⟩⟩) (ltb rfl) ?_)
             rintro _ _ ⟨rfl, rfl⟩
             refine ⟨_, _, rfl, ?_⟩
             refine WalkP.nil ?_
             refine NodeS.branch [5] inNil rfl rfl rfl ⟨?_, trivial⟩
             ·
              refine ⟨_, _, _, _, rfl, rfl, rfl, (⟨_, _, rfl, rfl, rfl⟩), fun E1 => ?_⟩
              refine (V1.buildSliceT (f := encInt) ([y11.1] : List Int) rfl rfl esz_38 zk_3 rfl rfl rfl rfl rfl rfl rfl (ltb rfl) ?_)
              intro b16
              refine ⟨_, _, rfl, ?_⟩
              refine WalkP.nil ?_
              refine NodeS.fin inNil rfl rfl rfl (⟨_, _, rfl, rfl, ⟨_, _, rfl, rfl, ⟨_, _, rfl, rfl, ⟨_, _, rfl, rfl, rfl⟩⟩⟩⟩) ?_
              refine VO.cons rfl (V1.appendNilE (f := encInt) (l := x_Files) (m := ([y11.1] : List Int)) hob0 rfl rfl rfl rfl rfl esz_38 eby_38 zk_3 rfl rfl rfl (SrcOf.srMap (k := 0) rfl isl_38) rfl hh12 (ltb rfl) ?_)
              intro b17
              refine VO.cons rfl (V1.fieldRef rfl rfl fo_40_3 rfl (ltb rfl) ?_)
              refine VO.cons rfl (V1.storeRef (k := 4) rfl rfl tyk_38 rfl rfl rfl rfl rfl rfl rfl rfl rfl ?_)
              refine VO.nil ?_
              exact ⟨(((x_Files ++ ([y11.1] : List Int)), y11.2), b17), Option.some.inj hm2, Keeps.mk (ks := [0, 2, 4, 5]) rfl ⟨rfl, rfl, trivial⟩ (⟨_, _, rfl, rfl, ⟨_, _, rfl, rfl, ⟨_, _, rfl, rfl, ⟨_, _, rfl, rfl, rfl⟩⟩⟩⟩) rfl⟩
          ·
           refine ⟨_, _, _, _, rfl, rfl, rfl, (rfl), fun E1 => ?_⟩
           refine (V1.buildSliceT (f := encInt) ([(0 : Int), (5 : Int), (1000 : Int)] : List Int) rfl rfl esz_38 zk_3 rfl rfl rfl rfl rfl rfl rfl (ltb rfl) ?_)
           intro b18
           refine ⟨_, _, rfl, ?_⟩
           refine WalkP.nil ?_
           refine NodeS.branch [1, 4] inNil rfl rfl rfl ⟨?_, ?_, trivial⟩
           ·
            refine ⟨_, _, _, _, rfl, rfl, rfl, (⟨_, _, rfl, rfl, rfl⟩), fun E1 => ?_⟩
            refine (V1.loadRef (k := 2) rfl rfl tyk_38 rfl rfl rfl rfl rfl (ltb rfl) ?_)
            refine ⟨_, _, rfl, ?_⟩
            refine WalkP.nil ?_
            refine NodeS.branch [4] inNil rfl rfl rfl ⟨?_, trivial⟩
            ·
             refine ⟨_, _, _, _, rfl, rfl, rfl, (⟨_, _, rfl, rfl, ⟨_, _, rfl, rfl, rfl⟩⟩), fun E1 => ?_⟩
             refine (V1.callM 1 (rn + ρ0 + 1) [b18] [.ref bp 3 0 0, .vl (rn + ρ0 + 1) 1 (List.map encInt ([(0 : Int), (5 : Int), (1000 : Int)] : List Int))] (p := (bp, ⟨3, [encCur ρ0 y6.2]⟩)) rfl rfl rfl cok_77 rfl rfl ⟨_, _, rfl, .same _, ⟨_, _, rfl, Lend.srMap 0 rfl (fun _ => rfl) (.head _), rfl⟩⟩ (bwCons (k := 0) rfl bwNil) (ok_spec_l1Cur_among hh11) rfl (.inr ⟨(by first | omega | (dsimp only; omega)), by rintro _ _ ⟨rfl, rfl⟩; exact ⟨by simp [PV.no, PV.noL, optS_no, noL_iff, nbeq] <;> omega, by intro b ob h; first | exact optH_no (noL_map (fun _ => by simp [PV.no, PV.noL, noL_iff, nbeq]) _) b ob h | (simp at h; obtain ⟨rfl, rfl⟩ := h; exact noL_map (fun _ => by simp [PV.no, PV.noL, noL_iff, nbeq]) _) | (simp at h; obtain ⟨rfl, rfl⟩ := h; simp [PV.no, PV.noL, optS_no, noL_iff, nbeq] <;> omega)⟩⟩) (ltb rfl) ?_)
             rintro _ _ ⟨rfl, rfl⟩
             refine ⟨_, _, rfl, ?_⟩
             refine WalkP.nil ?_
             refine NodeS.branch [5] inNil rfl rfl rfl ⟨?_, trivial⟩
             ·
              refine ⟨_, _, _, _, rfl, rfl, rfl, (⟨_, _, rfl, rfl, rfl⟩), fun E1 => ?_⟩
              refine (V1.buildSliceT (f := encInt) ([y11.1] : List Int) rfl rfl esz_38 zk_3 rfl rfl rfl rfl rfl rfl rfl (ltb rfl) ?_)
              intro b19
              refine ⟨_, _, rfl, ?_⟩
              refine WalkP.nil ?_
              refine NodeS.fin inNil rfl rfl rfl (⟨_, _, rfl, rfl, ⟨_, _, rfl, rfl, ⟨_, _, rfl, rfl, ⟨_, _, rfl, rfl, rfl⟩⟩⟩⟩) ?_
              refine VO.cons rfl (V1.appendNilE (f := encInt) (l := x_Files) (m := ([y11.1] : List Int)) hob0 rfl rfl rfl rfl rfl esz_38 eby_38 zk_3 rfl rfl rfl (SrcOf.srMap (k := 0) rfl isl_38) rfl hh12 (ltb rfl) ?_)
              intro b20
              refine VO.cons rfl (V1.fieldRef rfl rfl fo_40_3 rfl (ltb rfl) ?_)
              refine VO.cons rfl (V1.storeRef (k := 4) rfl rfl tyk_38 rfl rfl rfl rfl rfl rfl rfl rfl rfl ?_)
              refine VO.nil ?_
              exact ⟨(((x_Files ++ ([y11.1] : List Int)), y11.2), b20), Option.some.inj hm2, Keeps.mk (ks := [0, 2, 4, 5]) rfl ⟨rfl, rfl, trivial⟩ (⟨_, _, rfl, rfl, ⟨_, _, rfl, rfl, ⟨_, _, rfl, rfl, ⟨_, _, rfl, rfl, rfl⟩⟩⟩⟩) rfl⟩
           ·
            refine ⟨_, _, _, _, rfl, rfl, rfl, (⟨_, _, rfl, rfl, ⟨_, _, rfl, rfl, rfl⟩⟩), fun E1 => ?_⟩
            refine (V1.callM 1 (rn + ρ0 + 1) [b18] [.ref bp 3 0 0, .vl (rn + ρ0 + 1) 1 (List.map encInt ([(0 : Int), (5 : Int), (1000 : Int)] : List Int))] (p := (bp, ⟨3, [encCur ρ0 y6.2]⟩)) rfl rfl rfl cok_77 rfl rfl ⟨_, _, rfl, .same _, ⟨_, _, rfl, Lend.srMap 0 rfl (fun _ => rfl) (.head _), rfl⟩⟩ (bwCons (k := 0) rfl bwNil) (ok_spec_l1Cur_among hh11) rfl (.inr ⟨(by first | omega | (dsimp only; omega)), by rintro _ _ ⟨rfl, rfl⟩; exact ⟨by simp [PV.no, PV.noL, optS_no, noL_iff, nbeq] <;> omega, by intro b ob h; first | exact optH_no (noL_map (fun _ => by simp [PV.no, PV.noL, noL_iff, nbeq]) _) b ob h | (simp at h; obtain ⟨rfl, rfl⟩ := h; exact noL_map (fun _ => by simp [PV.no, PV.noL, noL_iff, nbeq]) _) | (simp at h; obtain ⟨rfl, rfl⟩ := h; simp [PV.no, PV.noL, optS_no, noL_iff, nbeq] <;> omega)⟩⟩) (ltb rfl) ?_)
            rintro _ _ ⟨rfl, rfl⟩
            refine ⟨_, _, rfl, ?_⟩
            refine WalkP.nil ?_
            refine NodeS.branch [1, 5] inNil rfl rfl rfl ⟨?_, ?_, trivial⟩
            ·
             refine ⟨_, _, _, _, rfl, rfl, rfl, (⟨_, _, rfl, rfl, rfl⟩), fun E1 => ?_⟩
             refine (V1.loadRef (k := 2) rfl rfl tyk_38 rfl rfl rfl rfl rfl (ltb rfl) ?_)
             refine ⟨_, _, rfl, ?_⟩
             refine WalkP.nil ?_
             refine NodeS.branch [5] inNil rfl rfl rfl ⟨?_, trivial⟩
             ·
              refine ⟨_, _, _, _, rfl, rfl, rfl, (⟨_, _, rfl, rfl, rfl⟩), fun E1 => ?_⟩
              refine (V1.buildSliceT (f := encInt) ([y11.1] : List Int) rfl rfl esz_38 zk_3 rfl rfl rfl rfl rfl rfl rfl (ltb rfl) ?_)
              intro b21
              refine ⟨_, _, rfl, ?_⟩
              refine WalkP.nil ?_
              refine NodeS.fin inNil rfl rfl rfl (⟨_, _, rfl, rfl, ⟨_, _, rfl, rfl, ⟨_, _, rfl, rfl, ⟨_, _, rfl, rfl, rfl⟩⟩⟩⟩) ?_
              refine VO.cons rfl (V1.appendNilE (f := encInt) (l := x_Files) (m := ([y11.1] : List Int)) hob0 rfl rfl rfl rfl rfl esz_38 eby_38 zk_3 rfl rfl rfl (SrcOf.srMap (k := 0) rfl isl_38) rfl hh12 (ltb rfl) ?_)
              intro b22
              refine VO.cons rfl (V1.fieldRef rfl rfl fo_40_3 rfl (ltb rfl) ?_)
              refine VO.cons rfl (V1.storeRef (k := 4) rfl rfl tyk_38 rfl rfl rfl rfl rfl rfl rfl rfl rfl ?_)
              refine VO.nil ?_
              exact ⟨(((x_Files ++ ([y11.1] : List Int)), y11.2), b22), Option.some.inj hm2, Keeps.mk (ks := [0, 2, 4, 5]) rfl ⟨rfl, rfl, trivial⟩ (⟨_, _, rfl, rfl, ⟨_, _, rfl, rfl, ⟨_, _, rfl, rfl, ⟨_, _, rfl, rfl, rfl⟩⟩⟩⟩) rfl⟩
            ·
             refine ⟨_, _, _, _, rfl, rfl, rfl, (⟨_, _, rfl, rfl, rfl⟩), fun E1 => ?_⟩
             refine (V1.buildSliceT (f := encInt) ([y11.1] : List Int) rfl rfl esz_38 zk_3 rfl rfl rfl rfl rfl rfl rfl (ltb rfl) ?_)
             intro b23
             refine ⟨_, _, rfl, ?_⟩
             refine WalkP.nil ?_
             refine NodeS.branch [1] inNil rfl rfl rfl ⟨?_, trivial⟩
             ·
              refine ⟨_, _, _, _, rfl, rfl, rfl, (⟨_, _, rfl, rfl, rfl⟩), fun E1 => ?_⟩
              refine (V1.loadRef (k := 3) rfl rfl tyk_38 rfl rfl rfl rfl rfl (ltb rfl) ?_)
              refine ⟨_, _, rfl, ?_⟩
              refine WalkP.nil ?_
              refine NodeS.fin inNil rfl rfl rfl (⟨_, _, rfl, rfl, ⟨_, _, rfl, rfl, ⟨_, _, rfl, rfl, ⟨_, _, rfl, rfl, rfl⟩⟩⟩⟩) ?_
              refine VO.cons rfl (V1.appendNilE (f := encInt) (l := x_Files) (m := ([y11.1] : List Int)) hob0 rfl rfl rfl rfl rfl esz_38 eby_38 zk_3 rfl rfl rfl (SrcOf.srMap (k := 0) rfl isl_38) rfl hh12 (ltb rfl) ?_)
              intro b24
              refine VO.cons rfl (V1.fieldRef rfl rfl fo_40_3 rfl (ltb rfl) ?_)
              refine VO.cons rfl (V1.storeRef (k := 4) rfl rfl tyk_38 rfl rfl rfl rfl rfl rfl rfl rfl rfl ?_)
              refine VO.nil ?_
              exact ⟨(((x_Files ++ ([y11.1] : List Int)), y11.2), b24), Option.some.inj hm2, Keeps.mk (ks := [0, 2, 4, 5]) rfl ⟨rfl, rfl, trivial⟩ (⟨_, _, rfl, rfl, ⟨_, _, rfl, rfl, ⟨_, _, rfl, rfl, ⟨_, _, rfl, rfl, rfl⟩⟩⟩⟩) rfl⟩
         ·
          rintro ⟨⟨x_Files2, o⟩, b14⟩ rfl
          try dsimp only at hm1
          exact ⟨((id_, y0.1, y1.1, x_Files2, y2.1, o), (some b14)), ⟨Option.some.inj hm1, (fun e => by cases e)⟩, Keeps.mk (ks := [0, 1, 2, 3]) rfl ⟨rfl, rfl, trivial⟩ (⟨_, _, rfl, rfl, ⟨_, _, rfl, rfl, ⟨_, _, rfl, rfl, ⟨_, _, rfl, rfl, rfl⟩⟩⟩⟩) rfl⟩
        ·
         replace hm1 := cond_f hc5 hm1
         refine V.seq ?_
         refine V.region ?_
         refine VO.cons rfl (V1.int rfl rfl rfl rfl rfl (ltb rfl) ?_)
         refine VO.cons rfl (V1.assign rfl rfl rfl (ltb rfl) ?_)
         refine VO.nil ?_
         refine V.keep 91 [0, 2, 6, 7, 73] [0, 1, 2] (E0 := [(0, .ref bp 3 0 0), (2, .int .i64 first0), (6, .ref b0 5 0 0), (7, .ref b4 5 0 0), (73, .bool (y6.1 == (5 : Int)))]) (H0 := [(bp, ⟨3, [encCur ρ0 y6.2]⟩), (b4, ⟨5, [.agg [.int .i64 id_, .int .i64 y0.1, .int .i64 y1.1, .nils, .int .i64 y2.1]]⟩), (b0, ⟨5, [.agg [.int .i64 (0 : Int), .int .i64 (0 : Int), .int .i64 (0 : Int), .nils, .int .i64 (0 : Int)]]⟩)]) rfl (⟨_, _, rfl, rfl, ⟨_, _, rfl, rfl, ⟨_, _, rfl, rfl, ⟨_, _, rfl, rfl, ⟨_, _, rfl, rfl, rfl⟩⟩⟩⟩⟩) (⟨_, _, rfl, rfl, ⟨_, _, rfl, rfl, ⟨_, _, rfl, rfl, rfl⟩⟩⟩) rfl ?_
         refine V.cond rfl (fun hc6 => ?_) (fun hc6 => ?_)
         ·
          replace hm1 := cond_t hc6 hm1
          replace hm1 := bindO hm1; rcases hm1 with ⟨e1, he2, hm1⟩
          refine V.cutT (D := (List Int × Cur) × (Option Nat)) (fun ⟨⟨x_Files3, c_2⟩, ob3⟩ => ⟨91, [(6, .ref b0 5 0 0), (7, .ref b4 5 0 0)], optH 1 ob3 (List.map encInt x_Files3) ++ [(bp, ⟨3, [encCur ρ0 c_2]⟩)] ++ [(b4, ⟨5, [.agg [.int .i64 id_, .int .i64 y0.1, .int .i64 y1.1, optS 1 ob3 (List.length x_Files3), .int .i64 y2.1]]⟩)] ++ [(b0, ⟨5, [.agg [.int .i64 (0 : Int), .int .i64 (0 : Int), .int .i64 (0 : Int), .nils, .int .i64 (0 : Int)]]⟩)]⟩) (fun ⟨⟨x_Files3, c_2⟩, ob3⟩ => ((x_Files3, c_2) = e1) ∧ (ob3 = none → x_Files3 = [])) ?_ ?_
          ·
           refine V.block ?_
           refine V.keep 91 [2, 0, 6, 7] [0, 1, 2] (E0 := [(2, .int .i64 first0), (0, .ref bp 3 0 0), (6, .ref b0 5 0 0), (7, .ref b4 5 0 0)]) (H0 := [(bp, ⟨3, [encCur ρ0 y6.2]⟩), (b4, ⟨5, [.agg [.int .i64 id_, .int .i64 y0.1, .int .i64 y1.1, .nils, .int .i64 y2.1]]⟩), (b0, ⟨5, [.agg [.int .i64 (0 : Int), .int .i64 (0 : Int), .int .i64 (0 : Int), .nils, .int .i64 (0 : Int)]]⟩)]) rfl (⟨_, _, rfl, rfl, ⟨_, _, rfl, rfl, ⟨_, _, rfl, rfl, ⟨_, _, rfl, rfl, rfl⟩⟩⟩⟩) (⟨_, _, rfl, rfl, ⟨_, _, rfl, rfl, ⟨_, _, rfl, rfl, rfl⟩⟩⟩) rfl ?_
           refine V.loopE (D := Nat × (Int × List Int × Cur) × (Option Nat)) (fun ⟨n1, ⟨first2, x_Files4, c_3⟩, ob4⟩ => [(2, .int .i64 first2)]) (fun ⟨n1, ⟨first2, x_Files4, c_3⟩, ob4⟩ => optH 1 ob4 (List.map encInt x_Files4) ++ [(bp, ⟨3, [encCur ρ0 c_3]⟩)] ++ [(b4, ⟨5, [.agg [.int .i64 id_, .int .i64 y0.1, .int .i64 y1.1, optS 1 ob4 (List.length x_Files4), .int .i64 y2.1]]⟩)]) (fun ⟨n1, ⟨first2, x_Files4, c_3⟩, ob4⟩ => loopO (M.spec_l1Cur_carton_l1) n1 (first2, x_Files4, c_3) = some e1 ∧ (ob4 = none → x_Files4 = [])) (fun ⟨n1, _, _⟩ => n1) (rounds, (first0, x_Files, y6.2), none) rfl ⟨he2, (fun _ => hob0)⟩ ?_
           rintro ⟨n1, ⟨first2, x_Files4, c_3⟩, ob4⟩ ⟨hP1, hob4⟩
           obtain ⟨m1, y12, rfl, hm2, hl2, hr2⟩ := loop_head hP1
           unfold M.spec_l1Cur_carton_l1 at hm2; dsimp only at hm2
           rcases ob4 with _ | ob4
           ·
            replace hob4 := hob4 rfl
            show V _ _ _ ⟨91, [(2, .int .i64 first2), (0, .ref bp 3 0 0), (6, .ref b0 5 0 0), (7, .ref b4 5 0 0)], [(bp, ⟨3, [encCur ρ0 c_3]⟩), (b4, ⟨5, [.agg [.int .i64 id_, .int .i64 y0.1, .int .i64 y1.1, .nils, .int .i64 y2.1]]⟩), (b0, ⟨5, [.agg [.int .i64 (0 : Int), .int .i64 (0 : Int), .int .i64 (0 : Int), .nils, .int .i64 (0 : Int)]]⟩)]⟩
            refine V.seq ?_
            refine V.seq ?_
            replace hm2 := bindO hm2; rcases hm2 with ⟨y13, hh13, hm2⟩
            refine V.regionS [(b4, ⟨5, [.agg [.int .i64 id_, .int .i64 y0.1, .int .i64 y1.1, .nils, .int .i64 y2.1]]⟩)] 91 6 [⟨[(7, none)], false⟩, ⟨[(75, some 0)], false⟩, ⟨[(76, some 1)], false⟩, ⟨[(0, none)], false⟩, ⟨[(78, some 3)], true⟩, ⟨[(79, some 4)], false⟩] [(0, none), (2, none), (6, none), (7, none), (77, some 2), (80, some 5)] 1 (⟨_, rfl, ⟨_, rfl, ⟨_, rfl, ⟨_, rfl, ⟨_, rfl, ⟨_, rfl, ⟨rfl, rfl⟩⟩⟩⟩⟩⟩⟩) mixed_orders rfl (by decide +kernel) ?_
            refine WalkP.step (p := ?pv377) 0 rfl rfl rfl rfl rfl (⟨_, _, rfl, rfl, rfl⟩) ?hv377 ?rest377
            case hv377 =>
             intro E1 H1 hI1
             refine (V1.fieldRef rfl rfl fo_40_3 rfl (ltb rfl) ?_)
             exact rfl
            refine WalkP.step (p := ?pv378) 1 rfl rfl rfl rfl rfl (⟨_, _, rfl, rfl, rfl⟩) ?hv378 ?rest378
            case hv378 =>
             intro E1 H1 hI1
             obtain ⟨k379_, hk379_⟩ := inGet 0 rfl hI1
             refine (V1.loadRef (k := k379_) rfl rfl tyk_38 rfl hk379_ rfl rfl rfl (ltb rfl) ?_)
             exact rfl
            refine WalkP.step (p := ?pv380) 2 rfl rfl rfl rfl rfl (⟨_, _, rfl, rfl, rfl⟩) ?hv380 ?rest380
            case hv380 =>
             intro E1 H1 hI1
             refine (V1.lenNilsE (l := x_Files4) hob4 rfl rfl rfl rfl rfl rfl isl_38 (ltb rfl) ?_)
             exact rfl
            refine WalkP.step (p := ?pv381) 3 rfl rfl rfl rfl rfl (⟨_, _, rfl, rfl, rfl⟩) ?hv381 ?rest381
            case hv381 =>
             intro E1 H1 hI1
             refine (V1.move rfl rfl rfl (ltb rfl) ?_)
             exact rfl
            refine WalkP.nil ?_
            refine NodeS.branch [4] (inCons 1 rfl inNil) rfl rfl rfl ⟨?_, trivial⟩
            ·
             refine ⟨_, _, _, _, rfl, rfl, rfl, (⟨_, _, rfl, rfl, rfl⟩), fun E1 => ?_⟩
             refine (V1.callM 0 (rn + ρ0 + 1) [] [.ref bp 3 0 0, .int .i64 (2 : Int)] (p := (bp, ⟨3, [encCur ρ0 c_3]⟩)) rfl rfl rfl cok_78 rfl rfl ⟨_, _, rfl, .same _, ⟨_, _, rfl, .same _, rfl⟩⟩ bwNil (ok_spec_l1Cur_pick hh13) rfl (.inl rfl) (ltb rfl) ?_)
             rintro _ _ ⟨rfl, rfl⟩
             refine ⟨_, _, rfl, ?_⟩
             refine WalkP.step (p := ?pv382) 5 rfl rfl rfl rfl rfl (⟨_, _, rfl, rfl, rfl⟩) ?hv382 ?rest382
             case hv382 =>
              intro E1 H1 hI1
              refine (V1.int rfl rfl rfl rfl rfl (ltb rfl) ?_)
              exact rfl
             refine WalkP.nil ?_
             refine NodeS.fin (inCons 1 rfl inNil) rfl rfl rfl (⟨_, _, rfl, rfl, ⟨_, _, rfl, rfl, ⟨_, _, rfl, rfl, ⟨_, _, rfl, rfl, ⟨_, _, rfl, rfl, ⟨_, _, rfl, rfl, rfl⟩⟩⟩⟩⟩⟩) ?_
             refine VO.cons rfl (V1.int rfl rfl rfl rfl rfl (ltb rfl) ?_)
             refine VO.nil ?_
             refine V.cond rfl (fun hc7 => ?_) (fun hc7 => ?_)
             ·
              replace hm2 := cond_t hc7 hm2
              refine V.skip ?_
              refine V.block ?_
              refine V.seq ?_
              replace hm2 := asrt_some hm2; rcases hm2 with ⟨hh14, hm2⟩
              refine V.region ?_
              refine VO.cons rfl (V1.fieldRef rfl rfl fo_40_3 rfl (ltb rfl) ?_)
              refine VO.cons rfl (V1.loadRef (k := 1) rfl rfl tyk_38 rfl rfl rfl rfl rfl (ltb rfl) ?_)
              refine VO.cons rfl (V1.move rfl rfl rfl (ltb rfl) ?_)
              refine VO.cons rfl (V1.buildSliceT (f := encInt) ([first2] : List Int) rfl rfl esz_38 zk_3 rfl rfl rfl rfl rfl rfl rfl (ltb rfl) ?_)
              intro b25
              refine VO.cons rfl (V1.appendNilE (f := encInt) (l := x_Files4) (m := ([first2] : List Int)) hob4 rfl rfl rfl rfl rfl esz_38 eby_38 zk_3 rfl rfl rfl (SrcOf.srMap (k := 0) rfl isl_38) rfl hh14 (ltb rfl) ?_)
              intro b26
              refine VO.cons rfl (V1.fieldRef rfl rfl fo_40_3 rfl (ltb rfl) ?_)
              refine VO.cons rfl (V1.storeRef (k := 3) rfl rfl tyk_38 rfl rfl rfl rfl rfl rfl rfl rfl rfl ?_)
              refine VO.nil ?_
              refine V.keep 91 [0, 2, 6, 7] [0, 2, 3, 4] (E0 := [(0, .ref bp 3 0 0), (2, .int .i64 first2), (6, .ref b0 5 0 0), (7, .ref b4 5 0 0)]) (H0 := [(b26, ⟨1, List.map encInt (x_Files4 ++ ([first2] : List Int))⟩), (bp, ⟨3, [encCur ρ0 y13.2]⟩), (b4, ⟨5, [.agg [.int .i64 id_, .int .i64 y0.1, .int .i64 y1.1, .sref b26 1 0 (List.length (x_Files4 ++ ([first2] : List Int))), .int .i64 y2.1]]⟩), (b0, ⟨5, [.agg [.int .i64 (0 : Int), .int .i64 (0 : Int), .int .i64 (0 : Int), .nils, .int .i64 (0 : Int)]]⟩)]) rfl (⟨_, _, rfl, rfl, ⟨_, _, rfl, rfl, ⟨_, _, rfl, rfl, ⟨_, _, rfl, rfl, rfl⟩⟩⟩⟩) (⟨_, _, rfl, rfl, ⟨_, _, rfl, rfl, ⟨_, _, rfl, rfl, ⟨_, _, rfl, rfl, rfl⟩⟩⟩⟩) rfl ?_
              refine V.region ?_
              refine VO.cons rfl (V1.move rfl rfl rfl (ltb rfl) ?_)
              refine VO.cons rfl (V1.int rfl rfl rfl rfl rfl (ltb rfl) ?_)
              refine VO.cons rfl (V1.assign rfl rfl rfl (ltb rfl) ?_)
              refine VO.nil ?_
              exact ⟨(m1, ((IntKind.i64.wrap (first2 + (1 : Int))), (x_Files4 ++ ([first2] : List Int)), y13.2), (some b26)), ⟨hl2 _ (Option.some.inj hm2).symm, (fun e => by cases e)⟩, Nat.lt_succ_self _, Keeps.mk (ks := [0, 1, 2, 3]) rfl ⟨rfl, rfl, rfl, rfl, trivial⟩ (⟨_, _, rfl, rfl, ⟨_, _, rfl, rfl, ⟨_, _, rfl, rfl, ⟨_, _, rfl, rfl, rfl⟩⟩⟩⟩) rfl⟩
             ·
              replace hm2 := cond_f hc7 hm2
              refine V.exit ?_
              obtain rfl := hr2 _ (Option.some.inj hm2).symm
              exact ⟨((x_Files4, y13.2), none), ⟨rfl, (fun _ => hob4)⟩, Keeps.mk (ks := [0, 1, 2]) rfl ⟨rfl, rfl, trivial⟩ (⟨_, _, rfl, rfl, ⟨_, _, rfl, rfl, ⟨_, _, rfl, rfl, rfl⟩⟩⟩) rfl⟩
           ·
            show V _ _ _ ⟨91, [(2, .int .i64 first2), (0, .ref bp 3 0 0), (6, .ref b0 5 0 0), (7, .ref b4 5 0 0)], [(ob4, ⟨1, List.map encInt x_Files4⟩), (bp, ⟨3, [encCur ρ0 c_3]⟩), (b4, ⟨5, [.agg [.int .i64 id_, .int .i64 y0.1, .int .i64 y1.1, .sref ob4 1 0 (List.length x_Files4), .int .i64 y2.1]]⟩), (b0, ⟨5, [.agg [.int .i64 (0 : Int), .int .i64 (0 : Int), .int .i64 (0 : Int), .nils, .int .i64 (0 : Int)]]⟩)]⟩
            refine V.seq ?_
            refine V.seq ?_
            replace hm2 := bindO hm2; rcases hm2 with ⟨y13, hh13, hm2⟩
            refine V.regionS [(b4, ⟨5, [.agg [.int .i64 id_, .int .i64 y0.1, .int .i64 y1.1, .sref ob4 1 0 (List.length x_Files4), .int .i64 y2.1]]⟩)] 91 6 [⟨[(7, none)], false⟩, ⟨[(75, some 0)], false⟩, ⟨[(76, some 1)], false⟩, ⟨[(0, none)], false⟩, ⟨[(78, some 3)], true⟩, ⟨[(79, some 4)], false⟩] [(0, none), (2, none), (6, none), (7, none), (77, some 2), (80, some 5)] 1 (⟨_, rfl, ⟨_, rfl, ⟨_, rfl, ⟨_, rfl, ⟨_, rfl, ⟨_, rfl, ⟨rfl, rfl⟩⟩⟩⟩⟩⟩⟩) mixed_orders rfl (by decide +kernel) ?_
            refine WalkP.step (p := ?pv383) 0 rfl rfl rfl rfl rfl (⟨_, _, rfl, rfl, rfl⟩) ?hv383 ?rest383
            case hv383 =>
             intro E1 H1 hI1
             refine (V1.fieldRef rfl rfl fo_40_3 rfl (ltb rfl) ?_)
             exact rfl
            refine WalkP.step (p := ?pv384) 1 rfl rfl rfl rfl rfl (⟨_, _, rfl, rfl, rfl⟩) ?hv384 ?rest384
            case hv384 =>
             intro E1 H1 hI1
             obtain ⟨k385_, hk385_⟩ := inGet 0 rfl hI1
             refine (V1.loadRef (k := k385_) rfl rfl tyk_38 rfl hk385_ rfl rfl rfl (ltb rfl) ?_)
             exact rfl
            refine WalkP.step (p := ?pv386) 2 rfl rfl rfl rfl rfl (⟨_, _, rfl, rfl, rfl⟩) ?hv386 ?rest386
            case hv386 =>
             intro E1 H1 hI1
             refine (V1.lenSref rfl rfl rfl rfl rfl rfl isl_38 (ltb rfl) ?_)
             exact rfl
            refine WalkP.step (p := ?pv387) 3 rfl rfl rfl rfl rfl (⟨_, _, rfl, rfl, rfl⟩) ?hv387 ?rest387
            case hv387 =>
             intro E1 H1 hI1
             refine (V1.move rfl rfl rfl (ltb rfl) ?_)
             exact rfl
            refine WalkP.nil ?_
            refine NodeS.branch [4] (inCons 2 rfl inNil) rfl rfl rfl ⟨?_, trivial⟩
            ·
             refine ⟨_, _, _, _, rfl, rfl, rfl, (⟨_, _, rfl, rfl, rfl⟩), fun E1 => ?_⟩
             refine (V1.callM 1 (rn + ρ0 + 1) [] [.ref bp 3 0 0, .int .i64 (2 : Int)] (p := (bp, ⟨3, [encCur ρ0 c_3]⟩)) rfl rfl rfl cok_78 rfl rfl ⟨_, _, rfl, .same _, ⟨_, _, rfl, .same _, rfl⟩⟩ bwNil (ok_spec_l1Cur_pick hh13) rfl (.inl rfl) (ltb rfl) ?_)
             rintro _ _ ⟨rfl, rfl⟩
             refine ⟨_, _, rfl, ?_⟩
             refine WalkP.step (p := ?pv388) 5 rfl rfl rfl rfl rfl (⟨_, _, rfl, rfl, rfl⟩) ?hv388 ?rest388
             case hv388 =>
              intro E1 H1 hI1
              refine (V1.int rfl rfl rfl rfl rfl (ltb rfl) ?_)
              exact rfl
             refine WalkP.nil ?_
             refine NodeS.fin (inCons 2 rfl inNil) rfl rfl rfl (⟨_, _, rfl, rfl, ⟨_, _, rfl, rfl, ⟨_, _, rfl, rfl, ⟨_, _, rfl, rfl, ⟨_, _, rfl, rfl, ⟨_, _, rfl, rfl, rfl⟩⟩⟩⟩⟩⟩) ?_
             refine VO.cons rfl (V1.int rfl rfl rfl rfl rfl (ltb rfl) ?_)
             refine VO.nil ?_
             refine V.cond rfl (fun hc7 => ?_) (fun hc7 => ?_)
             ·
              replace hm2 := cond_t hc7 hm2
              refine V.skip ?_
              refine V.block ?_
              refine V.seq ?_
              replace hm2 := asrt_some hm2; rcases hm2 with ⟨hh14, hm2⟩
              refine V.region ?_
              refine VO.cons rfl (V1.fieldRef rfl rfl fo_40_3 rfl (ltb rfl) ?_)
              refine VO.cons rfl (V1.loadRef (k := 2) rfl rfl tyk_38 rfl rfl rfl rfl rfl (ltb rfl) ?_)
              refine VO.cons rfl (V1.move rfl rfl rfl (ltb rfl) ?_)
              refine VO.cons rfl (V1.buildSliceT (f := encInt) ([first2] : List Int) rfl rfl esz_38 zk_3 rfl rfl rfl rfl rfl rfl rfl (ltb rfl) ?_)
              intro b25
              refine VO.cons rfl (V1.appendMap (k := 2) (f := encInt) (l := x_Files4) (m := ([first2] : List Int)) rfl rfl rfl rfl rfl esz_38 eby_38 zk_3 rfl rfl rfl (SrcOf.srMap (k := 0) rfl isl_38) hh14 (ltb rfl) ?_)
              intro b26
              refine VO.cons rfl (V1.fieldRef rfl rfl fo_40_3 rfl (ltb rfl) ?_)
              refine VO.cons rfl (V1.storeRef (k := 3) rfl rfl tyk_38 rfl rfl rfl rfl rfl rfl rfl rfl rfl ?_)
              refine VO.nil ?_
              refine V.keep 91 [0, 2, 6, 7] [0, 2, 3, 4] (E0 := [(0, .ref bp 3 0 0), (2, .int .i64 first2), (6, .ref b0 5 0 0), (7, .ref b4 5 0 0)]) (H0 := [(b26, ⟨1, List.map encInt (x_Files4 ++ ([first2] : List Int))⟩), (bp, ⟨3, [encCur ρ0 y13.2]⟩), (b4, ⟨5, [.agg [.int .i64 id_, .int .i64 y0.1, .int .i64 y1.1, .sref b26 1 0 (List.length (x_Files4 ++ ([first2] : List Int))), .int .i64 y2.1]]⟩), (b0, ⟨5, [.agg [.int .i64 (0 : Int), .int .i64 (0 : Int), .int .i64 (0 : Int), .nils, .int .i64 (0 : Int)]]⟩)]) rfl (⟨_, _, rfl, rfl, ⟨_, _, rfl, rfl, ⟨_, _, rfl, rfl, ⟨_, _, rfl, rfl, rfl⟩⟩⟩⟩) (⟨_, _, rfl, rfl, ⟨_, _, rfl, rfl, ⟨_, _, rfl, rfl, ⟨_, _, rfl, rfl, rfl⟩⟩⟩⟩) rfl ?_
              refine V.region ?_
              refine VO.cons rfl (V1.move rfl rfl rfl (ltb rfl) ?_)
              refine VO.cons rfl (V1.int rfl rfl rfl rfl rfl (ltb rfl) ?_)
              refine VO.cons rfl (V1.assign rfl rfl rfl (ltb rfl) ?_)
              refine VO.nil ?_
              exact ⟨(m1, ((IntKind.i64.wrap (first2 + (1 : Int))), (x_Files4 ++ ([first2] : List Int)), y13.2), (some b26)), ⟨hl2 _ (Option.some.inj hm2).symm, (fun e => by cases e)⟩, Nat.lt_succ_self _, Keeps.mk (ks := [0, 1, 2, 3]) rfl ⟨rfl, rfl, rfl, rfl, trivial⟩ (⟨_, _, rfl, rfl, ⟨_, _, rfl, rfl, ⟨_, _, rfl, rfl, ⟨_, _, rfl, rfl, rfl⟩⟩⟩⟩) rfl⟩
             ·
              replace hm2 := cond_f hc7 hm2
              refine V.exit ?_
              obtain rfl := hr2 _ (Option.some.inj hm2).symm
              exact ⟨((x_Files4, y13.2), (some ob4)), ⟨rfl, (fun e => by cases e)⟩, Keeps.mk (ks := [1, 0, 2, 3]) rfl ⟨rfl, rfl, trivial⟩ (⟨_, _, rfl, rfl, ⟨_, _, rfl, rfl, ⟨_, _, rfl, rfl, ⟨_, _, rfl, rfl, rfl⟩⟩⟩⟩) rfl⟩
          ·
           rintro ⟨⟨x_Files3, c_2⟩, ob3⟩ ⟨rfl, hob3⟩
           try dsimp only at hm1
           rcases ob3 with _ | ob3
           ·
            replace hob3 := hob3 rfl
            exact ⟨((id_, y0.1, y1.1, x_Files3, y2.1, c_2), none), ⟨Option.some.inj hm1, (fun _ => hob3)⟩, Keeps.mk (ks := [0, 1, 2]) rfl ⟨rfl, rfl, trivial⟩ (⟨_, _, rfl, rfl, ⟨_, _, rfl, rfl, ⟨_, _, rfl, rfl, rfl⟩⟩⟩) rfl⟩
           ·
            exact ⟨((id_, y0.1, y1.1, x_Files3, y2.1, c_2), (some ob3)), ⟨Option.some.inj hm1, (fun e => by cases e)⟩, Keeps.mk (ks := [0, 1, 2, 3]) rfl ⟨rfl, rfl, trivial⟩ (⟨_, _, rfl, rfl, ⟨_, _, rfl, rfl, ⟨_, _, rfl, rfl, ⟨_, _, rfl, rfl, rfl⟩⟩⟩⟩) rfl⟩
         ·
          replace hm1 := cond_f hc6 hm1
          refine V.skip ?_
          exact ⟨((id_, y0.1, y1.1, x_Files, y2.1, y6.2), none), ⟨Option.some.inj hm1, (fun _ => hob0)⟩, Keeps.mk (ks := [0, 1, 2]) rfl ⟨rfl, rfl, trivial⟩ (⟨_, _, rfl, rfl, ⟨_, _, rfl, rfl, ⟨_, _, rfl, rfl, rfl⟩⟩⟩) rfl⟩
   ·
    rintro ⟨⟨x_Id, x_Shelf, x_Room, x_Files1, x_Thick, c_1⟩, ob2⟩ ⟨rfl, hob2⟩
    try dsimp only at hm0
    rcases ob2 with _ | ob2
    ·
     replace hob2 := hob2 rfl
     refine V.seq ?_
     refine V.region ?_
     refine VO.cons rfl (V1.loadRefAll (k := 1) rfl rfl tyk_40 rfl rfl rfl rfl rfl (ltb rfl) ?_)
     refine VO.cons rfl (V1.storeRefAll (k := 2) rfl rfl tyk_40 rfl rfl rfl rfl rfl rfl ?_)
     refine VO.nil ?_
     refine V.weakenK (Keeps.leObj 2 [.agg [.int .i64 x_Id, .int .i64 x_Shelf, .int .i64 x_Room, .vl rn 1 (List.map encInt x_Files1), .int .i64 x_Thick]] rfl (.cons (.agg (.cons .same (.cons .same (.cons .same (.cons (.nils (l := x_Files1) (f := encInt) rn 1 hob2 rfl) (.cons .same .nil)))))) .nil)) ?_
     refine V.ret ?_
     obtain rfl := Option.some.inj hm0
     exact ⟨_, _, ⟨_, _, rfl, ⟨_, _, 2, _, rfl, rfl, rfl, rfl, tyk_40, rfl⟩, rfl⟩, (sub1 (k := 0) rfl), rfl, rfl⟩
    ·
     refine V.seq ?_
     refine V.region ?_
     refine VO.cons rfl (V1.loadRefAll (k := 2) rfl rfl tyk_40 rfl rfl rfl rfl rfl (ltb rfl) ?_)
     refine VO.cons rfl (V1.storeRefAll (k := 3) rfl rfl tyk_40 rfl rfl rfl rfl rfl rfl ?_)
     refine VO.nil ?_
     refine V.weakenK (Keeps.freezeG 0 rn [(90, .agg [.int .i64 x_Id, .int .i64 x_Shelf, .int .i64 x_Room, .vl rn 1 (List.map encInt x_Files1), .int .i64 x_Thick])] [(bp, ⟨3, [encCur ρ0 c_1]⟩), (b4, ⟨5, [.agg [.int .i64 x_Id, .int .i64 x_Shelf, .int .i64 x_Room, .vl rn 1 (List.map encInt x_Files1), .int .i64 x_Thick]]⟩), (b0, ⟨5, [.agg [.int .i64 x_Id, .int .i64 x_Shelf, .int .i64 x_Room, .vl rn 1 (List.map encInt x_Files1), .int .i64 x_Thick]]⟩)] (f := encInt) (l := x_Files1) rfl (fun _ => rfl) ⟨⟨_, rfl, (.agg (.cons .same (.cons .same (.cons .same (.cons .here (.cons .same .nil))))))⟩, trivial⟩ ⟨_, _, rfl, rfl, .inl rfl, ⟨_, _, rfl, rfl, .inr (.cons (.agg (.cons .same (.cons .same (.cons .same (.cons .here (.cons .same .nil)))))) .nil), ⟨_, _, rfl, rfl, .inr (.cons (.agg (.cons .same (.cons .same (.cons .same (.cons .here (.cons .same .nil)))))) .nil), rfl⟩⟩⟩ rfl (iOne (b := bp) 0 rfl)) ?_
     refine V.ret ?_
     obtain rfl := Option.some.inj hm0
     exact ⟨_, _, ⟨_, _, rfl, ⟨_, _, 2, _, rfl, rfl, rfl, rfl, tyk_40, rfl⟩, rfl⟩, (sub1 (k := 0) rfl), rfl, rfl⟩
  ·
   refine V.seq ?_
   refine V.seq ?_
   replace hm0 := bindO hm0; rcases hm0 with ⟨y6, hh6, hm0⟩
   refine V.region ?_
   refine VO.cons rfl (V1.move rfl rfl rfl (ltb rfl) ?_)
   refine VO.cons rfl (V1.callM 1 (rn + ρ0 + 1) [] [.ref bp 3 0 0, .int .i64 (70 : Int)] (p := (bp, ⟨3, [encCur ρ0 c_]⟩)) rfl rfl rfl cok_78 rfl rfl ⟨_, _, rfl, .same _, ⟨_, _, rfl, .same _, rfl⟩⟩ bwNil (ok_spec_l1Cur_pick hh6) rfl (.inl rfl) (ltb rfl) ?_)
   rintro _ _ ⟨rfl, rfl⟩
   refine VO.nil ?_
   replace hm0 := bindO hm0; rcases hm0 with ⟨j0, hm1, hm0⟩
   refine V.cutT (D := (Int × Int × Int × List Int × Int × Cur) × (Nat)) (fun ⟨⟨x_Id, x_Shelf, x_Room, x_Files1, x_Thick, c_1⟩, b7⟩ => ⟨91, [(6, .ref b0 5 0 0), (7, .ref b4 5 0 0)], [(b7, ⟨1, List.map encInt x_Files1⟩), (bp, ⟨3, [encCur ρ0 c_1]⟩), (b4, ⟨5, [.agg [.int .i64 x_Id, .int .i64 x_Shelf, .int .i64 x_Room, .sref b7 1 0 (List.length x_Files1), .int .i64 x_Thick]]⟩), (b0, ⟨5, [.agg [.int .i64 (0 : Int), .int .i64 (0 : Int), .int .i64 (0 : Int), .nils, .int .i64 (0 : Int)]]⟩)]⟩) (fun ⟨⟨x_Id, x_Shelf, x_Room, x_Files1, x_Thick, c_1⟩, b7⟩ => ((x_Id, x_Shelf, x_Room, x_Files1, x_Thick, c_1) = j0)) ?_ ?_
   ·
    refine V.block ?_
    refine V.seq ?_
    refine V.region ?_
    refine VO.cons rfl (V1.int rfl rfl rfl rfl rfl (ltb rfl) ?_)
    refine VO.cons rfl (V1.assign rfl rfl rfl (ltb rfl) ?_)
    refine VO.nil ?_
    refine V.cond rfl (fun hc1 => ?_) (fun hc1 => ?_)
    ·
     replace hm1 := cond_t hc1 hm1
     replace hm1 := bindO hm1; rcases hm1 with ⟨y7, hh7, hm1⟩
     refine V.region ?_
     refine VO.cons rfl (V1.move rfl rfl rfl (ltb rfl) ?_)
     refine VO.cons rfl (V1.buildSliceT (f := encInt) ([(0 : Int), (99 : Int), (100 : Int)] : List Int) rfl rfl esz_38 zk_3 rfl rfl rfl rfl rfl rfl rfl (ltb rfl) ?_)
     intro b8
     refine VO.cons rfl (V1.callM 1 (rn + ρ0 + 1) [b8] [.ref bp 3 0 0, .vl (rn + ρ0 + 1) 1 (List.map encInt ([(0 : Int), (99 : Int), (100 : Int)] : List Int))] (p := (bp, ⟨3, [encCur ρ0 y6.2]⟩)) rfl rfl rfl cok_77 rfl rfl ⟨_, _, rfl, .same _, ⟨_, _, rfl, Lend.srMap 0 rfl (fun _ => rfl) (.head _), rfl⟩⟩ (bwCons (k := 0) rfl bwNil) (ok_spec_l1Cur_among hh7) rfl (.inr ⟨(by first | omega | (dsimp only; omega)), by rintro _ _ ⟨rfl, rfl⟩; exact ⟨by simp [PV.no, PV.noL, optS_no, noL_iff, nbeq] <;> omega, by intro b ob h; first | exact optH_no (noL_map (fun _ => by simp [PV.no, PV.noL, noL_iff, nbeq]) _) b ob h | (simp at h; obtain ⟨rfl, rfl⟩ := h; exact noL_map (fun _ => by simp [PV.no, PV.noL, noL_iff, nbeq]) _) | (simp at h; obtain ⟨rfl, rfl⟩ := h; simp [PV.no, PV.noL, optS_no, noL_iff, nbeq] <;> omega)⟩⟩) (ltb rfl) ?_)
     rintro _ _ ⟨rfl, rfl⟩
     refine VO.cons rfl (V1.fieldRef rfl rfl fo_40_0 rfl (ltb rfl) ?_)
     refine VO.cons rfl (V1.storeRef (k := 3) rfl rfl tyk_3 rfl rfl rfl rfl rfl rfl rfl rfl rfl ?_)
     refine VO.nil ?_
     exact ⟨((y7.1, y0.1, y1.1, x_Files, y2.1, y7.2), ob0), Option.some.inj hm1, Keeps.mk (ks := [2, 0, 3, 4]) rfl ⟨rfl, rfl, trivial⟩ (⟨_, _, rfl, rfl, ⟨_, _, rfl, rfl, ⟨_, _, rfl, rfl, ⟨_, _, rfl, rfl, rfl⟩⟩⟩⟩) rfl⟩
    ·
     replace hm1 := cond_f hc1 hm1
     refine V.seq ?_
     refine V.region ?_
     refine VO.cons rfl (V1.int rfl rfl rfl rfl rfl (ltb rfl) ?_)
     refine VO.cons rfl (V1.assign rfl rfl rfl (ltb rfl) ?_)
     refine VO.nil ?_
     refine V.keep 91 [0, 2, 6, 7, 38, 45] [0, 1, 2, 3] (E0 := [(0, .ref bp 3 0 0), (2, .int .i64 first0), (6, .ref b0 5 0 0), (7, .ref b4 5 0 0), (38, .int .i64 y6.1), (45, .bool (y6.1 == (1 : Int)))]) (H0 := [(bp, ⟨3, [encCur ρ0 y6.2]⟩), (ob0, ⟨1, List.map encInt x_Files⟩), (b4, ⟨5, [.agg [.int .i64 id_, .int .i64 y0.1, .int .i64 y1.1, .sref ob0 1 0 (List.length x_Files), .int .i64 y2.1]]⟩), (b0, ⟨5, [.agg [.int .i64 (0 : Int), .int .i64 (0 : Int), .int .i64 (0 : Int), .nils, .int .i64 (0 : Int)]]⟩)]) rfl (⟨_, _, rfl, rfl, ⟨_, _, rfl, rfl, ⟨_, _, rfl, rfl, ⟨_, _, rfl, rfl, ⟨_, _, rfl, rfl, ⟨_, _, rfl, rfl, rfl⟩⟩⟩⟩⟩⟩) (⟨_, _, rfl, rfl, ⟨_, _, rfl, rfl, ⟨_, _, rfl, rfl, ⟨_, _, rfl, rfl, rfl⟩⟩⟩⟩) rfl ?_
     refine V.cond rfl (fun hc2 => ?_) (fun hc2 => ?_)
     ·
      replace hm1 := cond_t hc2 hm1
      replace hm1 := bindO hm1; rcases hm1 with ⟨y8, hh8, hm1⟩
      refine V.region ?_
      refine VO.cons rfl (V1.move rfl rfl rfl (ltb rfl) ?_)
      refine VO.cons rfl (V1.buildSliceT (f := encInt) ([(0 : Int), (31 : Int)] : List Int) rfl rfl esz_38 zk_3 rfl rfl rfl rfl rfl rfl rfl (ltb rfl) ?_)
      intro b9
      refine VO.cons rfl (V1.callM 1 (rn + ρ0 + 1) [b9] [.ref bp 3 0 0, .vl (rn + ρ0 + 1) 1 (List.map encInt ([(0 : Int), (31 : Int)] : List Int))] (p := (bp, ⟨3, [encCur ρ0 y6.2]⟩)) rfl rfl rfl cok_77 rfl rfl ⟨_, _, rfl, .same _, ⟨_, _, rfl, Lend.srMap 0 rfl (fun _ => rfl) (.head _), rfl⟩⟩ (bwCons (k := 0) rfl bwNil) (ok_spec_l1Cur_among hh8) rfl (.inr ⟨(by first | omega | (dsimp only; omega)), by rintro _ _ ⟨rfl, rfl⟩; exact ⟨by simp [PV.no, PV.noL, optS_no, noL_iff, nbeq] <;> omega, by intro b ob h; first | exact optH_no (noL_map (fun _ => by simp [PV.no, PV.noL, noL_iff, nbeq]) _) b ob h | (simp at h; obtain ⟨rfl, rfl⟩ := h; exact noL_map (fun _ => by simp [PV.no, PV.noL, noL_iff, nbeq]) _) | (simp at h; obtain ⟨rfl, rfl⟩ := h; simp [PV.no, PV.noL, optS_no, noL_iff, nbeq] <;> omega)⟩⟩) (ltb rfl) ?_)
      rintro _ _ ⟨rfl, rfl⟩
      refine VO.cons rfl (V1.fieldRef rfl rfl fo_40_1 rfl (ltb rfl) ?_)
      refine VO.cons rfl (V1.storeRef (k := 3) rfl rfl tyk_3 rfl rfl rfl rfl rfl rfl rfl rfl rfl ?_)
      refine VO.nil ?_
      exact ⟨((id_, y8.1, y1.1, x_Files, y2.1, y8.2), ob0), Option.some.inj hm1, Keeps.mk (ks := [2, 0, 3, 4]) rfl ⟨rfl, rfl, trivial⟩ (⟨_, _, rfl, rfl, ⟨_, _, rfl, rfl, ⟨_, _, rfl, rfl, ⟨_, _, rfl, rfl, rfl⟩⟩⟩⟩) rfl⟩
     ·
      replace hm1 := cond_f hc2 hm1
      refine V.seq ?_
      refine V.region ?_
      refine VO.cons rfl (V1.int rfl rfl rfl rfl rfl (ltb rfl) ?_)
      refine VO.cons rfl (V1.assign rfl rfl rfl (ltb rfl) ?_)
      refine VO.nil ?_
      refine V.cond rfl (fun hc3 => ?_) (fun hc3 => ?_)
      ·
       replace hm1 := cond_t hc3 hm1
       replace hm1 := bindO hm1; rcases hm1 with ⟨y9, hh9, hm1⟩
       refine V.region ?_
       refine VO.cons rfl (V1.move rfl rfl rfl (ltb rfl) ?_)
       refine VO.cons rfl (V1.buildSliceT (f := encInt) ([(0 : Int), (10 : Int)] : List Int) rfl rfl esz_38 zk_3 rfl rfl rfl rfl rfl rfl rfl (ltb rfl) ?_)
       intro b10
       refine VO.cons rfl (V1.callM 1 (rn + ρ0 + 1) [b10] [.ref bp 3 0 0, .vl (rn + ρ0 + 1) 1 (List.map encInt ([(0 : Int), (10 : Int)] : List Int))] (p := (bp, ⟨3, [encCur ρ0 y6.2]⟩)) rfl rfl rfl cok_77 rfl rfl ⟨_, _, rfl, .same _, ⟨_, _, rfl, Lend.srMap 0 rfl (fun _ => rfl) (.head _), rfl⟩⟩ (bwCons (k := 0) rfl bwNil) (ok_spec_l1Cur_among hh9) rfl (.inr ⟨(by first | omega | (dsimp only; omega)), by rintro _ _ ⟨rfl, rfl⟩; exact ⟨by simp [PV.no, PV.noL, optS_no, noL_iff, nbeq] <;> omega, by intro b ob h; first | exact optH_no (noL_map (fun _ => by simp [PV.no, PV.noL, noL_iff, nbeq]) _) b ob h | (simp at h; obtain ⟨rfl, rfl⟩ := h; exact noL_map (fun _ => by simp [PV.no, PV.noL, noL_iff, nbeq]) _) | (simp at h; obtain ⟨rfl, rfl⟩ := h; simp [PV.no, PV.noL, optS_no, noL_iff, nbeq] <;> omega)⟩⟩) (ltb rfl) ?_)
       rintro _ _ ⟨rfl, rfl⟩
       refine VO.cons rfl (V1.fieldRef rfl rfl fo_40_2 rfl (ltb rfl) ?_)
       refine VO.cons rfl (V1.storeRef (k := 3) rfl rfl tyk_3 rfl rfl rfl rfl rfl rfl rfl rfl rfl ?_)
       refine VO.nil ?_
       exact ⟨((id_, y0.1, y9.1, x_Files, y2.1, y9.2), ob0), Option.some.inj hm1, Keeps.mk (ks := [2, 0, 3, 4]) rfl ⟨rfl, rfl, trivial⟩ (⟨_, _, rfl, rfl, ⟨_, _, rfl, rfl, ⟨_, _, rfl, rfl, ⟨_, _, rfl, rfl, rfl⟩⟩⟩⟩) rfl⟩
      ·
       replace hm1 := cond_f hc3 hm1
       refine V.seq ?_
       refine V.region ?_
       refine VO.cons rfl (V1.int rfl rfl rfl rfl rfl (ltb rfl) ?_)
       refine VO.cons rfl (V1.assign rfl rfl rfl (ltb rfl) ?_)
       refine VO.nil ?_
       refine V.keep 91 [0, 2, 6, 7, 38, 57] [0, 1, 2, 3] (E0 := [(0, .ref bp 3 0 0), (2, .int .i64 first0), (6, .ref b0 5 0 0), (7, .ref b4 5 0 0), (38, .int .i64 y6.1), (57, .bool (y6.1 == (3 : Int)))]) (H0 := [(bp, ⟨3, [encCur ρ0 y6.2]⟩), (ob0, ⟨1, List.map encInt x_Files⟩), (b4, ⟨5, [.agg [.int .i64 id_, .int .i64 y0.1, .int .i64 y1.1, .sref ob0 1 0 (List.length x_Files), .int .i64 y2.1]]⟩), (b0, ⟨5, [.agg [.int .i64 (0 : Int), .int .i64 (0 : Int), .int .i64 (0 : Int), .nils, .int .i64 (0 : Int)]]⟩)]) rfl (⟨_, _, rfl, rfl, ⟨_, _, rfl, rfl, ⟨_, _, rfl, rfl, ⟨_, _, rfl, rfl, ⟨_, _, rfl, rfl, ⟨_, _, rfl, rfl, rfl⟩⟩⟩⟩⟩⟩) (⟨_, _, rfl, rfl, ⟨_, _, rfl, rfl, ⟨_, _, rfl, rfl, ⟨_, _, rfl, rfl, rfl⟩⟩⟩⟩) rfl ?_
       refine V.cond rfl (fun hc4 => ?_) (fun hc4 => ?_)
       ·
        replace hm1 := cond_t hc4 hm1
        replace hm1 := bindO hm1; rcases hm1 with ⟨y10, hh10, hm1⟩
        refine V.region ?_
        refine VO.cons rfl (V1.move rfl rfl rfl (ltb rfl) ?_)
        refine VO.cons rfl (V1.buildSliceT (f := encInt) ([(0 : Int), (41 : Int)] : List Int) rfl rfl esz_38 zk_3 rfl rfl rfl rfl rfl rfl rfl (ltb rfl) ?_)
        intro b11
        refine VO.cons rfl (V1.callM 1 (rn + ρ0 + 1) [b11] [.ref bp 3 0 0, .vl (rn + ρ0 + 1) 1 (List.map encInt ([(0 : Int), (41 : Int)] : List Int))] (p := (bp, ⟨3, [encCur ρ0 y6.2]⟩)) rfl rfl rfl cok_77 rfl rfl ⟨_, _, rfl, .same _, ⟨_, _, rfl, Lend.srMap 0 rfl (fun _ => rfl) (.head _), rfl⟩⟩ (bwCons (k := 0) rfl bwNil) (ok_spec_l1Cur_among hh10) rfl (.inr ⟨(by first | omega | (dsimp only; omega)), by rintro _ _ ⟨rfl, rfl⟩; exact ⟨by simp [PV.no, PV.noL, optS_no, noL_iff, nbeq] <;> omega, by intro b ob h; first | exact optH_no (noL_map (fun _ => by simp [PV.no, PV.noL, noL_iff, nbeq]) _) b ob h | (simp at h; obtain ⟨rfl, rfl⟩ := h; exact noL_map (fun _ => by simp [PV.no, PV.noL, noL_iff, nbeq]) _) | (simp at h; obtain ⟨rfl, rfl⟩ := h; simp [PV.no, PV.noL, optS_no, noL_iff, nbeq] <;> omega)⟩⟩) (ltb rfl) ?_)
        rintro _ _ ⟨rfl, rfl⟩
        refine VO.cons rfl (V1.fieldRef rfl rfl fo_40_4 rfl (ltb rfl) ?_)
        refine VO.cons rfl (V1.storeRef (k := 3) rfl rfl tyk_3 rfl rfl rfl rfl rfl rfl rfl rfl rfl ?_)
        refine VO.nil ?_
        exact ⟨((id_, y0.1, y1.1, x_Files, y10.1, y10.2), ob0), Option.some.inj hm1, Keeps.mk (ks := [2, 0, 3, 4]) rfl ⟨rfl, rfl, trivial⟩ (⟨_, _, rfl, rfl, ⟨_, _, rfl, rfl, ⟨_, _, rfl, rfl, ⟨_, _, rfl, rfl, rfl⟩⟩⟩⟩) rfl⟩
       ·
        replace hm1 := cond_f hc4 hm1
        refine V.seq ?_
        refine V.region ?_
        refine VO.cons rfl (V1.int rfl rfl rfl rfl rfl (ltb rfl) ?_)
        refine VO.cons rfl (V1.assign rfl rfl rfl (ltb rfl) ?_)
        refine VO.nil ?_
        refine V.cond rfl (fun hc5 => ?_) (fun hc5 => ?_)
        ·
         replace hm1 := cond_t hc5 hm1
         replace hm1 := bindO hm1; rcases hm1 with ⟨y11, hh11, hm1⟩
         replace hm1 := asrt_some hm1; rcases hm1 with ⟨hh12, hm1⟩
         replace hm1 := bindO hm1; rcases hm1 with ⟨j1, hm2, hm1⟩
         refine V.cutT (D := (List Int × Cur) × (Nat)) (fun ⟨⟨x_Files2, o⟩, b15⟩ => ⟨91, [(6, .ref b0 5 0 0), (7, .ref b4 5 0 0)], [(b15, ⟨1, List.map encInt x_Files2⟩), (bp, ⟨3, [encCur ρ0 o]⟩), (b4, ⟨5, [.agg [.int .i64 id_, .int .i64 y0.1, .int .i64 y1.1, .sref b15 1 0 (List.length x_Files2), .int .i64 y2.1]]⟩), (b0, ⟨5, [.agg [.int .i64 (0 : Int), .int .i64 (0 : Int), .int .i64 (0 : Int), .nils, .int .i64 (0 : Int)]]⟩)]⟩) (fun ⟨⟨x_Files2, o⟩, b15⟩ => ((x_Files2, o) = j1)) ?_ ?_
         ·
          refine V.regionS [] 91 6 [⟨[(7, none)], false⟩, ⟨[(65, some 0)], true⟩, ⟨[(0, none)], false⟩, ⟨[], true⟩, ⟨[(67, some 2), (68, some 3)], true⟩, ⟨[(69, some 4)], true⟩] [(6, none), (7, none), (66, some 1), (70, some 5)] 4 (⟨_, rfl, ⟨_, rfl, ⟨_, rfl, ⟨_, rfl, ⟨_, rfl, ⟨_, rfl, ⟨rfl, rfl⟩⟩⟩⟩⟩⟩⟩) mixed_orders rfl (by decide +kernel) ?_
          refine WalkP.step (p := ?pv419) 0 rfl rfl rfl rfl rfl (⟨_, _, rfl, rfl, rfl⟩) ?hv419 ?rest419
          case hv419 =>
           intro E1 H1 hI1
           refine (V1.fieldRef rfl rfl fo_40_3 rfl (ltb rfl) ?_)
           exact rfl
          refine WalkP.step (p := ?pv420) 2 rfl rfl rfl rfl rfl (⟨_, _, rfl, rfl, rfl⟩) ?hv420 ?rest420
          case hv420 =>
           intro E1 H1 hI1
           refine (V1.move rfl rfl rfl (ltb rfl) ?_)
           exact rfl
          refine WalkP.nil ?_
          refine NodeS.branch [1, 3] inNil rfl rfl rfl ⟨?_, ?_, trivial⟩
          ·
           refine ⟨_, _, _, _, rfl, rfl, rfl, (⟨_, _, rfl, rfl, rfl⟩), fun E1 => ?_⟩
           refine (V1.loadRef (k := 2) rfl rfl tyk_38 rfl rfl rfl rfl rfl (ltb rfl) ?_)
           refine ⟨_, _, rfl, ?_⟩
           refine WalkP.nil ?_
           refine NodeS.branch [3] inNil rfl rfl rfl ⟨?_, trivial⟩
           ·
            refine ⟨_, _, _, _, rfl, rfl, rfl, (rfl), fun E1 => ?_⟩
            refine (V1.buildSliceT (f := encInt) ([(0 : Int), (5 : Int), (1000 : Int)] : List Int) rfl rfl esz_38 zk_3 rfl rfl rfl rfl rfl rfl rfl (ltb rfl) ?_)
            intro b16
            refine ⟨_, _, rfl, ?_⟩
            refine WalkP.nil ?_
            refine NodeS.branch [4] inNil rfl rfl rfl ⟨?_, trivial⟩
            ·
             refine ⟨_, _, _, _, rfl, rfl, rfl, (⟨_, _, rfl, rfl, ⟨_, _, rfl, rfl, rfl⟩⟩), fun E1 => ?_⟩
             refine (V1.callM 1 (rn + ρ0 + 1) [b16] [.ref bp 3 0 0, .vl (rn + ρ0 + 1) 1 (List.map encInt ([(0 : Int), (5 : Int), (1000 : Int)] : List Int))] (p := (bp, ⟨3, [encCur ρ0 y6.2]⟩)) rfl rfl rfl cok_77 rfl rfl ⟨_, _, rfl, .same _, ⟨_, _, rfl, Lend.srMap 0 rfl (fun _ => rfl) (.head _), rfl⟩⟩ (bwCons (k := 0) rfl bwNil) (ok_spec_l1Cur_among hh11) rfl (.inr ⟨(by first | omega | (dsimp only; omega)), by rintro _ _ ⟨rfl, rfl⟩; exact ⟨by simp [PV.no, PV.noL, optS_no, noL_iff, nbeq] <;> omega, by intro b ob h; first | exact optH_no (noL_map (fun _ => by simp [PV.no, PV.noL, noL_iff, nbeq]) _) b ob h | (simp at h; obtain ⟨rfl, rfl⟩ := h; exact noL_map (fun _ => by simp [PV.no, PV.noL, noL_iff, nbeq]) _) | (simp at h; obtain ⟨rfl, rfl⟩ := h; simp [PV.no, PV.noL, optS_no, noL_iff, nbeq] <;> omega)⟩⟩) (ltb rfl) ?_)
             rintro _ _ ⟨rfl, rfl⟩
             refine ⟨_, _, rfl, ?_⟩
             refine WalkP.nil ?_
             refine NodeS.branch [5] inNil rfl rfl rfl ⟨?_, trivial⟩
             ·
              refine ⟨_, _, _, _, rfl, rfl, rfl, (⟨_, _, rfl, rfl, rfl⟩), fun E1 => ?_⟩
              refine (V1.buildSliceT (f := encInt) ([y11.1] : List Int) rfl rfl esz_38 zk_3 rfl rfl rfl rfl rfl rfl rfl (ltb rfl) ?_)
              intro b17
              refine ⟨_, _, rfl, ?_⟩
              refine WalkP.nil ?_
              refine NodeS.fin inNil rfl rfl rfl (⟨_, _, rfl, rfl, ⟨_, _, rfl, rfl, ⟨_, _, rfl, rfl, ⟨_, _, rfl, rfl, rfl⟩⟩⟩⟩) ?_
              refine VO.cons rfl (V1.appendMap (k := 3) (f := encInt) (l := x_Files) (m := ([y11.1] : List Int)) rfl rfl rfl rfl rfl esz_38 eby_38 zk_3 rfl rfl rfl (SrcOf.srMap (k := 0) rfl isl_38) hh12 (ltb rfl) ?_)
              intro b18
              refine VO.cons rfl (V1.fieldRef rfl rfl fo_40_3 rfl (ltb rfl) ?_)
              refine VO.cons rfl (V1.storeRef (k := 4) rfl rfl tyk_38 rfl rfl rfl rfl rfl rfl rfl rfl rfl ?_)
              refine VO.nil ?_
              exact ⟨(((x_Files ++ ([y11.1] : List Int)), y11.2), b18), Option.some.inj hm2, Keeps.mk (ks := [0, 2, 4, 5]) rfl ⟨rfl, rfl, trivial⟩ (⟨_, _, rfl, rfl, ⟨_, _, rfl, rfl, ⟨_, _, rfl, rfl, ⟨_, _, rfl, rfl, rfl⟩⟩⟩⟩) rfl⟩
          ·
           refine ⟨_, _, _, _, rfl, rfl, rfl, (rfl), fun E1 => ?_⟩
           refine (V1.buildSliceT (f := encInt) ([(0 : Int), (5 : Int), (1000 : Int)] : List Int) rfl rfl esz_38 zk_3 rfl rfl rfl rfl rfl rfl rfl (ltb rfl) ?_)
           intro b19
           refine ⟨_, _, rfl, ?_⟩
           refine WalkP.nil ?_
           refine NodeS.branch [1, 4] inNil rfl rfl rfl ⟨?_, ?_, trivial⟩
           ·
            refine ⟨_, _, _, _, rfl, rfl, rfl, (⟨_, _, rfl, rfl, rfl⟩), fun E1 => ?_⟩
            refine (V1.loadRef (k := 3) rfl rfl tyk_38 rfl rfl rfl rfl rfl (ltb rfl) ?_)
            refine ⟨_, _, rfl, ?_⟩
            refine WalkP.nil ?_
            refine NodeS.branch [4] inNil rfl rfl rfl ⟨?_, trivial⟩
            ·
             refine ⟨_, _, _, _, rfl, rfl, rfl, (⟨_, _, rfl, rfl, ⟨_, _, rfl, rfl, rfl⟩⟩), fun E1 => ?_⟩
             refine (V1.callM 1 (rn + ρ0 + 1) [b19] [.ref bp 3 0 0, .vl (rn + ρ0 + 1) 1 (List.map encInt ([(0 : Int), (5 : Int), (1000 : Int)] : List Int))] (p := (bp, ⟨3, [encCur ρ0 y6.2]⟩)) rfl rfl rfl cok_77 rfl rfl ⟨_, _, rfl, .same _, ⟨_, _, rfl, Lend.srMap 0 rfl (fun _ => rfl) (.head _), rfl⟩⟩ (bwCons (k := 0) rfl bwNil) (ok_spec_l1Cur_among hh11) rfl (.inr ⟨(by first | omega | (dsimp only; omega)), by rintro _ _ ⟨rfl, rfl⟩; exact ⟨by simp [PV.no, PV.noL, optS_no, noL_iff, nbeq] <;> omega, by intro b ob h; first | exact optH_no (noL_map (fun _ => by simp [PV.no, PV.noL, noL_iff, nbeq]) _) b ob h | (simp at h; obtain ⟨rfl, rfl⟩ := h; exact noL_map (fun _ => by simp [PV.no, PV.noL, noL_iff, nbeq]) _) | (simp at h; obtain ⟨rfl, rfl⟩ := h; simp [PV.no, PV.noL, optS_no, noL_iff, nbeq] <;> omega)⟩⟩) (ltb rfl) ?_)
             rintro _ _ ⟨rfl, rfl⟩
             refine ⟨_, _, rfl, ?_⟩
             refine WalkP.nil ?_
             refine NodeS.branch [5] inNil rfl rfl rfl ⟨?_, trivial⟩
             ·
              refine ⟨_, _, _, _, rfl, rfl, rfl, (⟨_, _, rfl, rfl, rfl⟩), fun E1 => ?_⟩
              refine (V1.buildSliceT (f := encInt) ([y11.1] : List Int) rfl rfl esz_38 zk_3 rfl rfl rfl rfl rfl rfl rfl (ltb rfl) ?_)
              intro b20
              refine ⟨_, _, rfl, ?_⟩
              refine WalkP.nil ?_
              refine NodeS.fin inNil rfl rfl rfl (⟨_, _, rfl, rfl, ⟨_, _, rfl, rfl, ⟨_, _, rfl, rfl, ⟨_, _, rfl, rfl, rfl⟩⟩⟩⟩) ?_
              refine VO.cons rfl (V1.appendMap (k := 3) (f := encInt) (l := x_Files) (m := ([y11.1] : List Int)) rfl rfl rfl rfl rfl esz_38 eby_38 zk_3 rfl rfl rfl (SrcOf.srMap (k := 0) rfl isl_38) hh12 (ltb rfl) ?_)
              intro b21
              refine VO.cons rfl (V1.fieldRef rfl rfl fo_40_3 rfl (ltb rfl) ?_)
              refine VO.cons rfl (V1.storeRef (k := 4) rfl rfl tyk_38 rfl rfl rfl rfl rfl rfl rfl rfl rfl ?_)
              refine VO.nil ?_
              exact ⟨(((x_Files ++ ([y11.1] : List Int)), y11.2), b21), Option.some.inj hm2, Keeps.mk (ks := [0, 2, 4, 5]) rfl ⟨rfl, rfl, trivial⟩ (⟨_, _, rfl, rfl, ⟨_, _, rfl, rfl, ⟨_, _, rfl, rfl, ⟨_, _, rfl, rfl, rfl⟩⟩⟩⟩) rfl⟩
           ·
            refine ⟨_, _, _, _, rfl, rfl, rfl, (⟨_, _, rfl, rfl, ⟨_, _, rfl, rfl, rfl⟩⟩), fun E1 => ?_⟩
            refine (V1.callM 1 (rn + ρ0 + 1) [b19] [.ref bp 3 0 0, .vl (rn + ρ0 + 1) 1 (List.map encInt ([(0 : Int), (5 : Int), (1000 : Int)] : List Int))] (p := (bp, ⟨3, [encCur ρ0 y6.2]⟩)) rfl rfl rfl cok_77 rfl rfl ⟨_, _, rfl, .same _, ⟨_, _, rfl, Lend.srMap 0 rfl (fun _ => rfl) (.head _), rfl⟩⟩ (bwCons (k := 0) rfl bwNil) (ok_spec_l1Cur_among hh11) rfl (.inr ⟨(by first | omega | (dsimp only; omega)), by rintro _ _ ⟨rfl, rfl⟩; exact ⟨by simp [PV.no, PV.noL, optS_no, noL_iff, nbeq] <;> omega, by intro b ob h; first | exact optH_no (noL_map (fun _ => by simp [PV.no, PV.noL, noL_iff, nbeq]) _) b ob h | (simp at h; obtain ⟨rfl, rfl⟩ := h; exact noL_map (fun _ => by simp [PV.no, PV.noL, noL_iff, nbeq]) _) | (simp at h; obtain ⟨rfl, rfl⟩ := h; simp [PV.no, PV.noL, optS_no, noL_iff, nbeq] <;> omega)⟩⟩) (ltb rfl) ?_)
            rintro _ _ ⟨rfl, rfl⟩
            refine ⟨_, _, rfl, ?_⟩
            refine WalkP.nil ?_
            refine NodeS.branch [1, 5] inNil rfl rfl rfl ⟨?_, ?_, trivial⟩
            ·
             refine ⟨_, _, _, _, rfl, rfl, rfl, (⟨_, _, rfl, rfl, rfl⟩), fun E1 => ?_⟩
             refine (V1.loadRef (k := 3) rfl rfl tyk_38 rfl rfl rfl rfl rfl (ltb rfl) ?_)
             refine ⟨_, _, rfl, ?_⟩
             refine WalkP.nil ?_
             refine NodeS.branch [5] inNil rfl rfl rfl ⟨?_, trivial⟩
             ·
              refine ⟨_, _, _, _, rfl, rfl, rfl, (⟨_, _, rfl, rfl, rfl⟩), fun E1 => ?_⟩
              refine (V1.buildSliceT (f := encInt) ([y11.1] : List Int) rfl rfl esz_38 zk_3 rfl rfl rfl rfl rfl rfl rfl (ltb rfl) ?_)
              intro b22
              refine ⟨_, _, rfl, ?_⟩
              refine WalkP.nil ?_
              refine NodeS.fin inNil rfl rfl rfl (⟨_, _, rfl, rfl, ⟨_, _, rfl, rfl, ⟨_, _, rfl, rfl, ⟨_, _, rfl, rfl, rfl⟩⟩⟩⟩) ?_
              refine VO.cons rfl (V1.appendMap (k := 3) (f := encInt) (l := x_Files) (m := ([y11.1] : List Int)) rfl rfl rfl rfl rfl esz_38 eby_38 zk_3 rfl rfl rfl (SrcOf.srMap (k := 0) rfl isl_38) hh12 (ltb rfl) ?_)
              intro b23
              refine VO.cons rfl (V1.fieldRef rfl rfl fo_40_3 rfl (ltb rfl) ?_)
              refine VO.cons rfl (V1.storeRef (k := 4) rfl rfl tyk_38 rfl rfl rfl rfl rfl rfl rfl rfl rfl ?_)
              refine VO.nil ?_
              exact ⟨(((x_Files ++ ([y11.1] : List Int)), y11.2), b23), Option.some.inj hm2, Keeps.mk (ks := [0, 2, 4, 5]) rfl ⟨rfl, rfl, trivial⟩ (⟨_, _, rfl, rfl, ⟨_, _, rfl, rfl, ⟨_, _, rfl, rfl, ⟨_, _, rfl, rfl, rfl⟩⟩⟩⟩) rfl⟩
            ·
             refine ⟨_, _, _, _, rfl, rfl, rfl, (⟨_, _, rfl, rfl, rfl⟩), fun E1 => ?_⟩
             refine (V1.buildSliceT (f := encInt) ([y11.1] : List Int) rfl rfl esz_38 zk_3 rfl rfl rfl rfl rfl rfl rfl (ltb rfl) ?_)
             intro b24
             refine ⟨_, _, rfl, ?_⟩
             refine WalkP.nil ?_
             refine NodeS.branch [1] inNil rfl rfl rfl ⟨?_, trivial⟩
             ·
              refine ⟨_, _, _, _, rfl, rfl, rfl, (⟨_, _, rfl, rfl, rfl⟩), fun E1 => ?_⟩
              refine (V1.loadRef (k := 4) rfl rfl tyk_38 rfl rfl rfl rfl rfl (ltb rfl) ?_)
              refine ⟨_, _, rfl, ?_⟩
              refine WalkP.nil ?_
              refine NodeS.fin inNil rfl rfl rfl (⟨_, _, rfl, rfl, ⟨_, _, rfl, rfl, ⟨_, _, rfl, rfl, ⟨_, _, rfl, rfl, rfl⟩⟩⟩⟩) ?_
              refine VO.cons rfl (V1.appendMap (k := 3) (f := encInt) (l := x_Files) (m := ([y11.1] : List Int)) rfl rfl rfl rfl rfl esz_38 eby_38 zk_3 rfl rfl rfl (SrcOf.srMap (k := 0) rfl isl_38) hh12 (ltb rfl) ?_)
              intro b25
              refine VO.cons rfl (V1.fieldRef rfl rfl fo_40_3 rfl (ltb rfl) ?_)
              refine VO.cons rfl (V1.storeRef (k := 4) rfl rfl tyk_38 rfl rfl rfl rfl rfl rfl rfl rfl rfl ?_)
              refine VO.nil ?_
              exact ⟨(((x_Files ++ ([y11.1] : List Int)), y11.2), b25), Option.some.inj hm2, Keeps.mk (ks := [0, 2, 4, 5]) rfl ⟨rfl, rfl, trivial⟩ (⟨_, _, rfl, rfl, ⟨_, _, rfl, rfl, ⟨_, _, rfl, rfl, ⟨_, _, rfl, rfl, rfl⟩⟩⟩⟩) rfl⟩
         ·
          rintro ⟨⟨x_Files2, o⟩, b15⟩ rfl
          try dsimp only at hm1
          exact ⟨((id_, y0.1, y1.1, x_Files2, y2.1, o), b15), Option.some.inj hm1, Keeps.mk (ks := [0, 1, 2, 3]) rfl ⟨rfl, rfl, trivial⟩ (⟨_, _, rfl, rfl, ⟨_, _, rfl, rfl, ⟨_, _, rfl, rfl, ⟨_, _, rfl, rfl, rfl⟩⟩⟩⟩) rfl⟩
        ·
         replace hm1 := cond_f hc5 hm1
         refine V.seq ?_
         refine V.region ?_
         refine VO.cons rfl (V1.int rfl rfl rfl rfl rfl (ltb rfl) ?_)
         refine VO.cons rfl (V1.assign rfl rfl rfl (ltb rfl) ?_)
         refine VO.nil ?_
         refine V.keep 91 [0, 2, 6, 7, 73] [0, 1, 2, 3] (E0 := [(0, .ref bp 3 0 0), (2, .int .i64 first0), (6, .ref b0 5 0 0), (7, .ref b4 5 0 0), (73, .bool (y6.1 == (5 : Int)))]) (H0 := [(bp, ⟨3, [encCur ρ0 y6.2]⟩), (ob0, ⟨1, List.map encInt x_Files⟩), (b4, ⟨5, [.agg [.int .i64 id_, .int .i64 y0.1, .int .i64 y1.1, .sref ob0 1 0 (List.length x_Files), .int .i64 y2.1]]⟩), (b0, ⟨5, [.agg [.int .i64 (0 : Int), .int .i64 (0 : Int), .int .i64 (0 : Int), .nils, .int .i64 (0 : Int)]]⟩)]) rfl (⟨_, _, rfl, rfl, ⟨_, _, rfl, rfl, ⟨_, _, rfl, rfl, ⟨_, _, rfl, rfl, ⟨_, _, rfl, rfl, rfl⟩⟩⟩⟩⟩) (⟨_, _, rfl, rfl, ⟨_, _, rfl, rfl, ⟨_, _, rfl, rfl, ⟨_, _, rfl, rfl, rfl⟩⟩⟩⟩) rfl ?_
         refine V.cond rfl (fun hc6 => ?_) (fun hc6 => ?_)
         ·
          replace hm1 := cond_t hc6 hm1
          replace hm1 := bindO hm1; rcases hm1 with ⟨e1, he2, hm1⟩
          refine V.cutT (D := (List Int × Cur) × (Nat)) (fun ⟨⟨x_Files3, c_2⟩, b26⟩ => ⟨91, [(6, .ref b0 5 0 0), (7, .ref b4 5 0 0)], [(b26, ⟨1, List.map encInt x_Files3⟩), (bp, ⟨3, [encCur ρ0 c_2]⟩), (b4, ⟨5, [.agg [.int .i64 id_, .int .i64 y0.1, .int .i64 y1.1, .sref b26 1 0 (List.length x_Files3), .int .i64 y2.1]]⟩), (b0, ⟨5, [.agg [.int .i64 (0 : Int), .int .i64 (0 : Int), .int .i64 (0 : Int), .nils, .int .i64 (0 : Int)]]⟩)]⟩) (fun ⟨⟨x_Files3, c_2⟩, b26⟩ => ((x_Files3, c_2) = e1)) ?_ ?_
          ·
           refine V.block ?_
           refine V.keep 91 [2, 0, 6, 7] [1, 0, 2, 3] (E0 := [(2, .int .i64 first0), (0, .ref bp 3 0 0), (6, .ref b0 5 0 0), (7, .ref b4 5 0 0)]) (H0 := [(ob0, ⟨1, List.map encInt x_Files⟩), (bp, ⟨3, [encCur ρ0 y6.2]⟩), (b4, ⟨5, [.agg [.int .i64 id_, .int .i64 y0.1, .int .i64 y1.1, .sref ob0 1 0 (List.length x_Files), .int .i64 y2.1]]⟩), (b0, ⟨5, [.agg [.int .i64 (0 : Int), .int .i64 (0 : Int), .int .i64 (0 : Int), .nils, .int .i64 (0 : Int)]]⟩)]) rfl (⟨_, _, rfl, rfl, ⟨_, _, rfl, rfl, ⟨_, _, rfl, rfl, ⟨_, _, rfl, rfl, rfl⟩⟩⟩⟩) (⟨_, _, rfl, rfl, ⟨_, _, rfl, rfl, ⟨_, _, rfl, rfl, ⟨_, _, rfl, rfl, rfl⟩⟩⟩⟩) rfl ?_
           refine V.loopE (D := Nat × (Int × List Int × Cur) × (Nat)) (fun ⟨n1, ⟨first2, x_Files4, c_3⟩, b27⟩ => [(2, .int .i64 first2)]) (fun ⟨n1, ⟨first2, x_Files4, c_3⟩, b27⟩ => [(b27, ⟨1, List.map encInt x_Files4⟩), (bp, ⟨3, [encCur ρ0 c_3]⟩), (b4, ⟨5, [.agg [.int .i64 id_, .int .i64 y0.1, .int .i64 y1.1, .sref b27 1 0 (List.length x_Files4), .int .i64 y2.1]]⟩)]) (fun ⟨n1, ⟨first2, x_Files4, c_3⟩, b27⟩ => loopO (M.spec_l1Cur_carton_l1) n1 (first2, x_Files4, c_3) = some e1) (fun ⟨n1, _, _⟩ => n1) (rounds, (first0, x_Files, y6.2), ob0) rfl he2 ?_
           rintro ⟨n1, ⟨first2, x_Files4, c_3⟩, b27⟩ hP1
           obtain ⟨m1, y12, rfl, hm2, hl2, hr2⟩ := loop_head hP1
           unfold M.spec_l1Cur_carton_l1 at hm2; dsimp only at hm2
           show V _ _ _ ⟨91, [(2, .int .i64 first2), (0, .ref bp 3 0 0), (6, .ref b0 5 0 0), (7, .ref b4 5 0 0)], [(b27, ⟨1, List.map encInt x_Files4⟩), (bp, ⟨3, [encCur ρ0 c_3]⟩), (b4, ⟨5, [.agg [.int .i64 id_, .int .i64 y0.1, .int .i64 y1.1, .sref b27 1 0 (List.length x_Files4), .int .i64 y2.1]]⟩), (b0, ⟨5, [.agg [.int .i64 (0 : Int), .int .i64 (0 : Int), .int .i64 (0 : Int), .nils, .int .i64 (0 : Int)]]⟩)]⟩
           refine V.seq ?_
           refine V.seq ?_
           replace hm2 := bindO hm2; rcases hm2 with ⟨y13, hh13, hm2⟩
           refine V.regionS [(b4, ⟨5, [.agg [.int .i64 id_, .int .i64 y0.1, .int .i64 y1.1, .sref b27 1 0 (List.length x_Files4), .int .i64 y2.1]]⟩)] 91 6 [⟨[(7, none)], false⟩, ⟨[(75, some 0)], false⟩, ⟨[(76, some 1)], false⟩, ⟨[(0, none)], false⟩, ⟨[(78, some 3)], true⟩, ⟨[(79, some 4)], false⟩] [(0, none), (2, none), (6, none), (7, none), (77, some 2), (80, some 5)] 1 (⟨_, rfl, ⟨_, rfl, ⟨_, rfl, ⟨_, rfl, ⟨_, rfl, ⟨_, rfl, ⟨rfl, rfl⟩⟩⟩⟩⟩⟩⟩) mixed_orders rfl (by decide +kernel) ?_
           refine WalkP.step (p := ?pv439) 0 rfl rfl rfl rfl rfl (⟨_, _, rfl, rfl, rfl⟩) ?hv439 ?rest439
           case hv439 =>
            intro E1 H1 hI1
            refine (V1.fieldRef rfl rfl fo_40_3 rfl (ltb rfl) ?_)
            exact rfl
           refine WalkP.step (p := ?pv440) 1 rfl rfl rfl rfl rfl (⟨_, _, rfl, rfl, rfl⟩) ?hv440 ?rest440
           case hv440 =>
            intro E1 H1 hI1
            obtain ⟨k441_, hk441_⟩ := inGet 0 rfl hI1
            refine (V1.loadRef (k := k441_) rfl rfl tyk_38 rfl hk441_ rfl rfl rfl (ltb rfl) ?_)
            exact rfl
           refine WalkP.step (p := ?pv442) 2 rfl rfl rfl rfl rfl (⟨_, _, rfl, rfl, rfl⟩) ?hv442 ?rest442
           case hv442 =>
            intro E1 H1 hI1
            refine (V1.lenSref rfl rfl rfl rfl rfl rfl isl_38 (ltb rfl) ?_)
            exact rfl
           refine WalkP.step (p := ?pv443) 3 rfl rfl rfl rfl rfl (⟨_, _, rfl, rfl, rfl⟩) ?hv443 ?rest443
           case hv443 =>
            intro E1 H1 hI1
            refine (V1.move rfl rfl rfl (ltb rfl) ?_)
            exact rfl
           refine WalkP.nil ?_
           refine NodeS.branch [4] (inCons 2 rfl inNil) rfl rfl rfl ⟨?_, trivial⟩
           ·
            refine ⟨_, _, _, _, rfl, rfl, rfl, (⟨_, _, rfl, rfl, rfl⟩), fun E1 => ?_⟩
            refine (V1.callM 1 (rn + ρ0 + 1) [] [.ref bp 3 0 0, .int .i64 (2 : Int)] (p := (bp, ⟨3, [encCur ρ0 c_3]⟩)) rfl rfl rfl cok_78 rfl rfl ⟨_, _, rfl, .same _, ⟨_, _, rfl, .same _, rfl⟩⟩ bwNil (ok_spec_l1Cur_pick hh13) rfl (.inl rfl) (ltb rfl) ?_)
            rintro _ _ ⟨rfl, rfl⟩
            refine ⟨_, _, rfl, ?_⟩
            refine WalkP.step (p := ?pv444) 5 rfl rfl rfl rfl rfl (⟨_, _, rfl, rfl, rfl⟩) ?hv444 ?rest444
            case hv444 =>
             intro E1 H1 hI1
             refine (V1.int rfl rfl rfl rfl rfl (ltb rfl) ?_)
             exact rfl
            refine WalkP.nil ?_
            refine NodeS.fin (inCons 2 rfl inNil) rfl rfl rfl (⟨_, _, rfl, rfl, ⟨_, _, rfl, rfl, ⟨_, _, rfl, rfl, ⟨_, _, rfl, rfl, ⟨_, _, rfl, rfl, ⟨_, _, rfl, rfl, rfl⟩⟩⟩⟩⟩⟩) ?_
            refine VO.cons rfl (V1.int rfl rfl rfl rfl rfl (ltb rfl) ?_)
            refine VO.nil ?_
            refine V.cond rfl (fun hc7 => ?_) (fun hc7 => ?_)
            ·
             replace hm2 := cond_t hc7 hm2
             refine V.skip ?_
             refine V.block ?_
             refine V.seq ?_
             replace hm2 := asrt_some hm2; rcases hm2 with ⟨hh14, hm2⟩
             refine V.region ?_
             refine VO.cons rfl (V1.fieldRef rfl rfl fo_40_3 rfl (ltb rfl) ?_)
             refine VO.cons rfl (V1.loadRef (k := 2) rfl rfl tyk_38 rfl rfl rfl rfl rfl (ltb rfl) ?_)
             refine VO.cons rfl (V1.move rfl rfl rfl (ltb rfl) ?_)
             refine VO.cons rfl (V1.buildSliceT (f := encInt) ([first2] : List Int) rfl rfl esz_38 zk_3 rfl rfl rfl rfl rfl rfl rfl (ltb rfl) ?_)
             intro b28
             refine VO.cons rfl (V1.appendMap (k := 2) (f := encInt) (l := x_Files4) (m := ([first2] : List Int)) rfl rfl rfl rfl rfl esz_38 eby_38 zk_3 rfl rfl rfl (SrcOf.srMap (k := 0) rfl isl_38) hh14 (ltb rfl) ?_)
             intro b29
             refine VO.cons rfl (V1.fieldRef rfl rfl fo_40_3 rfl (ltb rfl) ?_)
             refine VO.cons rfl (V1.storeRef (k := 3) rfl rfl tyk_38 rfl rfl rfl rfl rfl rfl rfl rfl rfl ?_)
             refine VO.nil ?_
             refine V.keep 91 [0, 2, 6, 7] [0, 2, 3, 4] (E0 := [(0, .ref bp 3 0 0), (2, .int .i64 first2), (6, .ref b0 5 0 0), (7, .ref b4 5 0 0)]) (H0 := [(b29, ⟨1, List.map encInt (x_Files4 ++ ([first2] : List Int))⟩), (bp, ⟨3, [encCur ρ0 y13.2]⟩), (b4, ⟨5, [.agg [.int .i64 id_, .int .i64 y0.1, .int .i64 y1.1, .sref b29 1 0 (List.length (x_Files4 ++ ([first2] : List Int))), .int .i64 y2.1]]⟩), (b0, ⟨5, [.agg [.int .i64 (0 : Int), .int .i64 (0 : Int), .int .i64 (0 : Int), .nils, .int .i64 (0 : Int)]]⟩)]) rfl (⟨_, _, rfl, rfl, ⟨_, _, rfl, rfl, ⟨_, _, rfl, rfl, ⟨_, _, rfl, rfl, rfl⟩⟩⟩⟩) (⟨_, _, rfl, rfl, ⟨_, _, rfl, rfl, ⟨_, _, rfl, rfl, ⟨_, _, rfl, rfl, rfl⟩⟩⟩⟩) rfl ?_
             refine V.region ?_
             refine VO.cons rfl (V1.move rfl rfl rfl (ltb rfl) ?_)
             refine VO.cons rfl (V1.int rfl rfl rfl rfl rfl (ltb rfl) ?_)
             refine VO.cons rfl (V1.assign rfl rfl rfl (ltb rfl) ?_)
             refine VO.nil ?_
             exact ⟨(m1, ((IntKind.i64.wrap (first2 + (1 : Int))), (x_Files4 ++ ([first2] : List Int)), y13.2), b29), hl2 _ (Option.some.inj hm2).symm, Nat.lt_succ_self _, Keeps.mk (ks := [0, 1, 2, 3]) rfl ⟨rfl, rfl, rfl, rfl, trivial⟩ (⟨_, _, rfl, rfl, ⟨_, _, rfl, rfl, ⟨_, _, rfl, rfl, ⟨_, _, rfl, rfl, rfl⟩⟩⟩⟩) rfl⟩
            ·
             replace hm2 := cond_f hc7 hm2
             refine V.exit ?_
             obtain rfl := hr2 _ (Option.some.inj hm2).symm
             exact ⟨((x_Files4, y13.2), b27), rfl, Keeps.mk (ks := [1, 0, 2, 3]) rfl ⟨rfl, rfl, trivial⟩ (⟨_, _, rfl, rfl, ⟨_, _, rfl, rfl, ⟨_, _, rfl, rfl, ⟨_, _, rfl, rfl, rfl⟩⟩⟩⟩) rfl⟩
          ·
           rintro ⟨⟨x_Files3, c_2⟩, b26⟩ rfl
           try dsimp only at hm1
           exact ⟨((id_, y0.1, y1.1, x_Files3, y2.1, c_2), b26), Option.some.inj hm1, Keeps.mk (ks := [0, 1, 2, 3]) rfl ⟨rfl, rfl, trivial⟩ (⟨_, _, rfl, rfl, ⟨_, _, rfl, rfl, ⟨_, _, rfl, rfl, ⟨_, _, rfl, rfl, rfl⟩⟩⟩⟩) rfl⟩
         ·
          replace hm1 := cond_f hc6 hm1
          refine V.skip ?_
          exact ⟨((id_, y0.1, y1.1, x_Files, y2.1, y6.2), ob0), Option.some.inj hm1, Keeps.mk (ks := [1, 0, 2, 3]) rfl ⟨rfl, rfl, trivial⟩ (⟨_, _, rfl, rfl, ⟨_, _, rfl, rfl, ⟨_, _, rfl, rfl, ⟨_, _, rfl, rfl, rfl⟩⟩⟩⟩) rfl⟩
   ·
    rintro ⟨⟨x_Id, x_Shelf, x_Room, x_Files1, x_Thick, c_1⟩, b7⟩ rfl
    try dsimp only at hm0
    refine V.seq ?_
    refine V.region ?_
    refine VO.cons rfl (V1.loadRefAll (k := 2) rfl rfl tyk_40 rfl rfl rfl rfl rfl (ltb rfl) ?_)
    refine VO.cons rfl (V1.storeRefAll (k := 3) rfl rfl tyk_40 rfl rfl rfl rfl rfl rfl ?_)
    refine VO.nil ?_
    refine V.weakenK (Keeps.freezeG 0 rn [(90, .agg [.int .i64 x_Id, .int .i64 x_Shelf, .int .i64 x_Room, .vl rn 1 (List.map encInt x_Files1), .int .i64 x_Thick])] [(bp, ⟨3, [encCur ρ0 c_1]⟩), (b4, ⟨5, [.agg [.int .i64 x_Id, .int .i64 x_Shelf, .int .i64 x_Room, .vl rn 1 (List.map encInt x_Files1), .int .i64 x_Thick]]⟩), (b0, ⟨5, [.agg [.int .i64 x_Id, .int .i64 x_Shelf, .int .i64 x_Room, .vl rn 1 (List.map encInt x_Files1), .int .i64 x_Thick]]⟩)] (f := encInt) (l := x_Files1) rfl (fun _ => rfl) ⟨⟨_, rfl, (.agg (.cons .same (.cons .same (.cons .same (.cons .here (.cons .same .nil))))))⟩, trivial⟩ ⟨_, _, rfl, rfl, .inl rfl, ⟨_, _, rfl, rfl, .inr (.cons (.agg (.cons .same (.cons .same (.cons .same (.cons .here (.cons .same .nil)))))) .nil), ⟨_, _, rfl, rfl, .inr (.cons (.agg (.cons .same (.cons .same (.cons .same (.cons .here (.cons .same .nil)))))) .nil), rfl⟩⟩⟩ rfl (iOne (b := bp) 0 rfl)) ?_
    refine V.ret ?_
    obtain rfl := Option.some.inj hm0
    exact ⟨_, _, ⟨_, _, rfl, ⟨_, _, 2, _, rfl, rfl, rfl, rfl, tyk_40, rfl⟩, rfl⟩, (sub1 (k := 0) rfl), rfl, rfl⟩

theorem ok_spec_l1In {rn : Nat} {x : Int} {a : Int} {b_ : Int} {r : Bool} (h : M.spec_l1In x a b_ = some r) : Does Try.prog 84 [.int .i64 x, .int .i64 a, .int .i64 b_] [] rn (fun x H => x = .bool r ∧ H = []) := by
 have hm0 := h; clear h; unfold M.spec_l1In at hm0
 try dsimp only at hm0
 refine Does.intro (N := 15) Try.func84 rfl rfl rfl rfl ?_
 intro w0 S0
 refine V.seq ?_
 refine V.region ?_
 refine VO.cons rfl (V1.assign rfl rfl rfl (ltb rfl) ?_)
 refine VO.nil ?_
 refine V.seq ?_
 refine V.region ?_
 refine VO.cons rfl (V1.move rfl rfl rfl (ltb rfl) ?_)
 refine VO.cons rfl (V1.move rfl rfl rfl (ltb rfl) ?_)
 refine VO.cons rfl (V1.int rfl rfl rfl rfl rfl (ltb rfl) ?_)
 refine VO.cons rfl (V1.move rfl rfl rfl (ltb rfl) ?_)
 apply VO.and (n := 3) rfl rfl rfl rfl rfl rfl (ltb rfl) (.none rfl)
 ·
  intro hg0
  refine VO.step (.some rfl rfl rfl) (V1.move rfl rfl rfl (ltb rfl) ?_)
  refine VO.step (.some rfl rfl rfl) (V1.move rfl rfl rfl (ltb rfl) ?_)
  refine VO.step (.some rfl rfl rfl) (V1.int rfl rfl rfl rfl rfl (ltb rfl) ?_)
  exact VO.nil ⟨rfl, rfl, rfl, rfl, .inr ⟨rfl, .inr ⟨rfl, .inr ⟨rfl, .inr ⟨rfl, .inl rfl⟩⟩⟩⟩⟩
 refine VO.cons rfl (V1.assign rfl rfl rfl (ltb rfl) ?_)
 refine VO.nil ?_
 refine V.ret ?_
 obtain rfl := Option.some.inj hm0
 exact ⟨_, [], ⟨_, _, rfl, rfl, rfl⟩, List.nil_sublist _, rfl, rfl⟩

theorem ok_spec_l18Place {rn : Nat} {room : Int} {shelf : Int} {r : Bool} (h : M.spec_l18Place room shelf = some r) : Does Try.prog 83 [.int .i64 room, .int .i64 shelf] [] rn (fun x H => x = .bool r ∧ H = []) := by
 have hm0 := h; clear h; unfold M.spec_l18Place at hm0
 try dsimp only at hm0
 refine Does.intro (N := 11) Try.func83 rfl rfl rfl rfl ?_
 intro w0 S0
 refine V.seq ?_
 refine V.region ?_
 refine VO.cons rfl (V1.assign rfl rfl rfl (ltb rfl) ?_)
 refine VO.nil ?_
 refine V.seq ?_
 replace hm0 := bindO hm0; rcases hm0 with ⟨y0, hh0, hm0⟩
 replace hm0 := bindO hm0; rcases hm0 with ⟨y1, hh1, hm0⟩
 refine V.region ?_
 refine VO.cons rfl (V1.move rfl rfl rfl (ltb rfl) ?_)
 refine VO.cons rfl (V1.call rfl rfl rfl cok_84 rfl (ok_spec_l1In hh0) rfl (ltb rfl) ?_)
 rintro _ _ ⟨rfl, rfl⟩
 refine VO.cons rfl (V1.move rfl rfl rfl (ltb rfl) ?_)
 apply VO.and (n := 2) rfl rfl rfl rfl rfl rfl (ltb rfl) (.none rfl)
 ·
  intro hg0
  refine VO.step (.some rfl rfl rfl) (V1.move rfl rfl rfl (ltb rfl) ?_)
  refine VO.step (.some rfl rfl rfl) (V1.call rfl rfl rfl cok_84 rfl (ok_spec_l1In (cond_t hg0 hh1)) rfl (ltb rfl) ?_)
  rintro _ _ ⟨rfl, rfl⟩
  exact VO.nil ⟨rfl, rfl, rfl, rfl, .inr ⟨rfl, .inr ⟨rfl, .inr ⟨rfl, .inl rfl⟩⟩⟩⟩
 refine VO.cons rfl (V1.assign rfl rfl rfl (ltb rfl) ?_)
 refine VO.nil ?_
 refine V.ret ?_
 obtain rfl := Option.some.inj hm0
 exact ⟨_, [], ⟨_, _, rfl, rfl, rfl⟩, List.nil_sublist _, rfl, rfl⟩

theorem ok_spec_l1Rising {ρ0 rn : Nat} {l : List Int} {lo : Int} {hi : Int} {r : Bool} (h : M.spec_l1Rising l lo hi = some r) : Does Try.prog 92 [.vl ρ0 1 (List.map encInt l), .int .i64 lo, .int .i64 hi] [] rn (fun x H => x = .bool r ∧ H = []) := by
 have hm0 := h; clear h; unfold M.spec_l1Rising at hm0
 try dsimp only at hm0
 refine Does.intro (N := 38) Try.func92 rfl rfl rfl rfl ?_
 intro w0 S0
 refine V.seq ?_
 refine V.region ?_
 refine VO.cons rfl (V1.assign rfl rfl rfl (ltb rfl) ?_)
 refine VO.nil ?_
 refine V.seq ?_
 refine V.seq ?_
 refine V.region ?_
 refine VO.cons rfl (V1.assign rfl rfl rfl (ltb rfl) ?_)
 refine VO.nil ?_
 replace hm0 := bindO hm0; rcases hm0 with ⟨e0, he1, hm0⟩
 refine V.cutT (D := (Unit) × (Unit)) (fun ⟨_, _⟩ => ⟨38, [], []⟩) (fun ⟨_, _⟩ => (.inl () = e0)) ?_ ?_
 ·
  refine V.block ?_
  refine V.keep 38 [7, 0, 1, 2] [] (E0 := [(7, .int .i64 (0 : Int)), (0, .vl ρ0 1 (List.map encInt l)), (1, .int .i64 lo), (2, .int .i64 hi)]) (H0 := []) rfl (⟨_, _, rfl, rfl, ⟨_, _, rfl, rfl, ⟨_, _, rfl, rfl, ⟨_, _, rfl, rfl, rfl⟩⟩⟩⟩) (rfl) rfl ?_
  refine V.loopE (D := Nat × (Int) × (Unit)) (fun ⟨n0, i, _⟩ => [(7, .int .i64 i)]) (fun ⟨n0, i, _⟩ => []) (fun ⟨n0, i, _⟩ => loopO (M.spec_l1Rising_l0 l lo hi) n0 i = some e0) (fun ⟨n0, _, _⟩ => n0) (rounds, (0 : Int), ()) rfl he1 ?_
  rintro ⟨n0, i, _⟩ hP0
  obtain ⟨m0, y0, rfl, hm1, hl1, hr1⟩ := loop_head hP0
  unfold M.spec_l1Rising_l0 at hm1; dsimp only at hm1
  show V _ _ _ ⟨38, [(7, .int .i64 i), (0, .vl ρ0 1 (List.map encInt l)), (1, .int .i64 lo), (2, .int .i64 hi)], []⟩
  refine V.seq ?_
  refine V.seq ?_
  refine V.region ?_
  refine VO.cons rfl (V1.move rfl rfl rfl (ltb rfl) ?_)
  refine VO.cons rfl (V1.move rfl rfl rfl (ltb rfl) ?_)
  refine VO.cons rfl (V1.lenMap rfl rfl rfl rfl rfl rfl isl_38 (ltb rfl) ?_)
  refine VO.cons rfl (V1.int rfl rfl rfl rfl rfl (ltb rfl) ?_)
  refine VO.nil ?_
  refine V.cond rfl (fun hc0 => ?_) (fun hc0 => ?_)
  ·
   replace hm1 := cond_t hc0 hm1
   refine V.skip ?_
   refine V.keep 38 [0, 1, 2, 7] [] (E0 := [(0, .vl ρ0 1 (List.map encInt l)), (1, .int .i64 lo), (2, .int .i64 hi), (7, .int .i64 i)]) (H0 := []) rfl (⟨_, _, rfl, rfl, ⟨_, _, rfl, rfl, ⟨_, _, rfl, rfl, ⟨_, _, rfl, rfl, rfl⟩⟩⟩⟩) (rfl) rfl ?_
   refine V.seq ?_
   refine V.block ?_
   refine V.seq ?_
   replace hm1 := asrt_some hm1; rcases hm1 with ⟨hh0, hm1⟩
   replace hm1 := bindO hm1; rcases hm1 with ⟨y1, hh1, hm1⟩
   replace hm1 := asrt_some hm1; rcases hm1 with ⟨hh2, hm1⟩
   replace hm1 := asrt_some hm1; rcases hm1 with ⟨hh3, hm1⟩
   refine V.regionM 38 24 [⟨[(0, none)], [], none⟩, ⟨[(7, none)], [], none⟩, ⟨[(14, some 1), (15, some 0)], [], none⟩, ⟨[(16, some 0)], [], none⟩, ⟨[(1, none)], [], none⟩, ⟨[(2, none)], [], none⟩, ⟨[(17, some 2), (18, some 1), (19, some 0)], [], none⟩, ⟨[(20, some 0)], [], none⟩, ⟨[(21, some 0)], [], none⟩, ⟨[(7, none)], [(0, false)], none⟩, ⟨[(23, some 0)], [(1, false)], none⟩, ⟨[(24, some 0)], [(2, false)], none⟩, ⟨[(0, none)], [(0, true), (3, false)], none⟩, ⟨[(7, none)], [(1, true), (4, false)], none⟩, ⟨[(27, some 0)], [(2, true), (5, false)], none⟩, ⟨[(26, some 2), (28, some 0)], [(3, true), (6, false)], none⟩, ⟨[(29, some 0)], [(4, true), (7, false)], none⟩, ⟨[(0, none)], [(5, true), (8, false)], none⟩, ⟨[(7, none)], [(6, true), (9, false)], none⟩, ⟨[(31, some 1), (32, some 0)], [(7, true), (10, false)], none⟩, ⟨[(33, some 0)], [(8, true), (11, false)], none⟩, ⟨[(30, some 4), (34, some 0)], [(9, true), (12, false)], none⟩, ⟨[], [(13, false)], some (true, 25, 35, 10, 0)⟩, ⟨[], [], some (false, 22, 36, 14, 0)⟩] [(0, none), (1, none), (2, none), (7, none), (37, some 0)] (⟨_, rfl, ⟨_, rfl, ⟨_, rfl, ⟨_, rfl, ⟨_, rfl, ⟨_, rfl, ⟨_, rfl, ⟨_, rfl, ⟨_, rfl, ⟨_, rfl, ⟨_, rfl, ⟨_, rfl, ⟨_, rfl, ⟨_, rfl, ⟨_, rfl, ⟨_, rfl, ⟨_, rfl, ⟨_, rfl, ⟨_, rfl, ⟨_, rfl, ⟨_, rfl, ⟨_, rfl, ⟨_, rfl, ⟨_, rfl, ⟨rfl, rfl⟩⟩⟩⟩⟩⟩⟩⟩⟩⟩⟩⟩⟩⟩⟩⟩⟩⟩⟩⟩⟩⟩⟩⟩⟩) mixed_orders rfl (by decide +kernel) (fun hck4 => ?_)
   refine VP.step (p := ?pv177) rfl rfl rfl (⟨_, _, rfl, rfl, rfl⟩) ?hv177 ?rest177 hck4
   case hv177 =>
    intro E1
    refine (V1.move rfl rfl rfl (ltb rfl) ?_)
    exact rfl
   refine VP.step (p := ?pv178) rfl rfl rfl (⟨_, _, rfl, rfl, rfl⟩) ?hv178 ?rest178 hck4
   case hv178 =>
    intro E1
    refine (V1.move rfl rfl rfl (ltb rfl) ?_)
    exact rfl
   refine VP.step (p := ?pv179) rfl rfl rfl (⟨_, _, rfl, rfl, ⟨_, _, rfl, rfl, rfl⟩⟩) ?hv179 ?rest179 hck4
   case hv179 =>
    intro E1
    refine (V1.indexI rfl rfl esz_38 rfl rfl hh0 (ltb rfl) ?_)
    exact rfl
   refine VP.step (p := ?pv180) rfl rfl rfl (⟨_, _, rfl, rfl, rfl⟩) ?hv180 ?rest180 hck4
   case hv180 =>
    intro E1
    refine (V1.loadPin rfl rfl tyk_3 rfl rfl (ltb rfl) ?_)
    exact rfl
   refine VP.step (p := ?pv181) rfl rfl rfl (⟨_, _, rfl, rfl, rfl⟩) ?hv181 ?rest181 hck4
   case hv181 =>
    intro E1
    refine (V1.move rfl rfl rfl (ltb rfl) ?_)
    exact rfl
   refine VP.step (p := ?pv182) rfl rfl rfl (⟨_, _, rfl, rfl, rfl⟩) ?hv182 ?rest182 hck4
   case hv182 =>
    intro E1
    refine (V1.move rfl rfl rfl (ltb rfl) ?_)
    exact rfl
   refine VP.step (p := ?pv183) rfl rfl rfl (⟨_, _, rfl, rfl, ⟨_, _, rfl, rfl, ⟨_, _, rfl, rfl, rfl⟩⟩⟩) ?hv183 ?rest183 hck4
   case hv183 =>
    intro E1
    refine (V1.call rfl rfl rfl cok_84 rfl (ok_spec_l1In hh1) rfl (ltb rfl) ?_)
    rintro _ _ ⟨rfl, rfl⟩
    exact rfl
   refine VP.step (p := ?pv184) rfl rfl rfl (⟨_, _, rfl, rfl, rfl⟩) ?hv184 ?rest184 hck4
   case hv184 =>
    intro E1
    refine (V1.not rfl rfl rfl (ltb rfl) ?_)
    exact rfl
   refine VP.step (p := ?pv185) rfl rfl rfl (⟨_, _, rfl, rfl, rfl⟩) ?hv185 ?rest185 hck4
   case hv185 =>
    intro E1
    refine (V1.move rfl rfl rfl (ltb rfl) ?_)
    exact rfl
   refine VP.step (p := ?pv186) rfl rfl rfl (⟨_, _, rfl, rfl, rfl⟩) ?hv186 ?rest186 hck4
   case hv186 =>
    refine ⟨_, rfl, fun hg0 => ?_⟩
    intro E1
    refine (V1.move rfl rfl rfl (ltb rfl) ?_)
    exact rfl
   refine VP.step (p := ?pv187) rfl rfl rfl (⟨_, _, rfl, rfl, rfl⟩) ?hv187 ?rest187 hck4
   case hv187 =>
    refine ⟨_, rfl, fun hg0 => ?_⟩
    intro E1
    refine (V1.int rfl rfl rfl rfl rfl (ltb rfl) ?_)
    exact rfl
   refine VP.step (p := ?pv188) rfl rfl rfl (⟨_, _, rfl, rfl, rfl⟩) ?hv188 ?rest188 hck4
   case hv188 =>
    refine ⟨_, rfl, fun hg0 => ?_⟩
    intro E1
    refine (V1.move rfl rfl rfl (ltb rfl) ?_)
    exact rfl
   refine VP.step (p := ?pv189) rfl rfl rfl (⟨_, _, rfl, rfl, rfl⟩) ?hv189 ?rest189 hck4
   case hv189 =>
    refine ⟨_, rfl, fun hg1 => ?_⟩
    refine ⟨_, rfl, fun hg0 => ?_⟩
    intro E1
    refine (V1.move rfl rfl rfl (ltb rfl) ?_)
    exact rfl
   refine VP.step (p := ?pv190) rfl rfl rfl (⟨_, _, rfl, rfl, rfl⟩) ?hv190 ?rest190 hck4
   case hv190 =>
    refine ⟨_, rfl, fun hg1 => ?_⟩
    refine ⟨_, rfl, fun hg0 => ?_⟩
    intro E1
    refine (V1.move rfl rfl rfl (ltb rfl) ?_)
    exact rfl
   refine VP.step (p := ?pv191) rfl rfl rfl (⟨_, _, rfl, rfl, rfl⟩) ?hv191 ?rest191 hck4
   case hv191 =>
    refine ⟨_, rfl, fun hg1 => ?_⟩
    refine ⟨_, rfl, fun hg0 => ?_⟩
    intro E1
    refine (V1.int rfl rfl rfl rfl rfl (ltb rfl) ?_)
    exact rfl
   refine VP.step (p := ?pv192) rfl rfl rfl (⟨_, _, rfl, rfl, ⟨_, _, rfl, rfl, rfl⟩⟩) ?hv192 ?rest192 hck4
   case hv192 =>
    refine ⟨_, rfl, fun hg1 => ?_⟩
    refine ⟨_, rfl, fun hg0 => ?_⟩
    intro E1
    refine (V1.indexI rfl rfl esz_38 rfl rfl (hh2 hg0 hg1) (ltb rfl) ?_)
    exact rfl
   refine VP.step (p := ?pv193) rfl rfl rfl (⟨_, _, rfl, rfl, rfl⟩) ?hv193 ?rest193 hck4
   case hv193 =>
    refine ⟨_, rfl, fun hg1 => ?_⟩
    refine ⟨_, rfl, fun hg0 => ?_⟩
    intro E1
    refine (V1.loadPin rfl rfl tyk_3 rfl rfl (ltb rfl) ?_)
    exact rfl
   refine VP.step (p := ?pv194) rfl rfl rfl (⟨_, _, rfl, rfl, rfl⟩) ?hv194 ?rest194 hck4
   case hv194 =>
    refine ⟨_, rfl, fun hg1 => ?_⟩
    refine ⟨_, rfl, fun hg0 => ?_⟩
    intro E1
    refine (V1.move rfl rfl rfl (ltb rfl) ?_)
    exact rfl
   refine VP.step (p := ?pv195) rfl rfl rfl (⟨_, _, rfl, rfl, rfl⟩) ?hv195 ?rest195 hck4
   case hv195 =>
    refine ⟨_, rfl, fun hg1 => ?_⟩
    refine ⟨_, rfl, fun hg0 => ?_⟩
    intro E1
    refine (V1.move rfl rfl rfl (ltb rfl) ?_)
    exact rfl
   refine VP.step (p := ?pv196) rfl rfl rfl (⟨_, _, rfl, rfl, ⟨_, _, rfl, rfl, rfl⟩⟩) ?hv196 ?rest196 hck4
   case hv196 =>
    refine ⟨_, rfl, fun hg1 => ?_⟩
    refine ⟨_, rfl, fun hg0 => ?_⟩
    intro E1
    refine (V1.indexI rfl rfl esz_38 rfl rfl (hh3 hg0 hg1) (ltb rfl) ?_)
    exact rfl
   refine VP.step (p := ?pv197) rfl rfl rfl (⟨_, _, rfl, rfl, rfl⟩) ?hv197 ?rest197 hck4
   case hv197 =>
    refine ⟨_, rfl, fun hg1 => ?_⟩
    refine ⟨_, rfl, fun hg0 => ?_⟩
    intro E1
    refine (V1.loadPin rfl rfl tyk_3 rfl rfl (ltb rfl) ?_)
    exact rfl
   refine VP.step (p := ?pv198) rfl rfl rfl (⟨_, _, rfl, rfl, ⟨_, _, rfl, rfl, rfl⟩⟩) ?hv198 ?rest198 hck4
   case hv198 =>
    refine ⟨_, rfl, fun hg1 => ?_⟩
    refine ⟨_, rfl, fun hg0 => ?_⟩
    intro E1
    refine (V1.int rfl rfl rfl rfl rfl (ltb rfl) ?_)
    exact rfl
   refine VP.pickAnd rfl rfl rfl rfl rfl rfl (⟨_, rfl, fun _ => trivial⟩) ?_ hck4
   refine VP.pickOr rfl rfl rfl rfl rfl rfl (trivial) ?_ hck4
   refine VP.fin rfl (⟨_, _, rfl, rfl, ⟨_, _, rfl, rfl, ⟨_, _, rfl, rfl, ⟨_, _, rfl, rfl, ⟨_, _, rfl, rfl, rfl⟩⟩⟩⟩⟩) ?_
   refine VO.nil ?_
   refine V.cond rfl (fun hc1 => ?_) (fun hc1 => ?_)
   ·
    replace hm1 := cond_t hc1 hm1
    refine V.seq ?_
    refine V.region ?_
    refine VO.cons rfl (V1.assign rfl rfl rfl (ltb rfl) ?_)
    refine VO.nil ?_
    refine V.ret ?_
    obtain rfl := hr1 _ (Option.some.inj hm1).symm
    change some _ = some _ at hm0
    obtain rfl := Option.some.inj hm0
    exact ⟨_, [], ⟨_, _, rfl, rfl, rfl⟩, List.nil_sublist _, rfl, rfl⟩
   ·
    replace hm1 := cond_f hc1 hm1
    refine V.skip ?_
    refine V.region ?_
    refine VO.cons rfl (V1.move rfl rfl rfl (ltb rfl) ?_)
    refine VO.cons rfl (V1.int rfl rfl rfl rfl rfl (ltb rfl) ?_)
    refine VO.cons rfl (V1.assign rfl rfl rfl (ltb rfl) ?_)
    refine VO.nil ?_
    exact ⟨(m0, (IntKind.i64.wrap (i + (1 : Int))), ()), hl1 _ (Option.some.inj hm1).symm, Nat.lt_succ_self _, Keeps.mk (ks := []) rfl ⟨rfl, rfl, rfl, rfl, trivial⟩ (rfl) rfl⟩
  ·
   replace hm1 := cond_f hc0 hm1
   refine V.exit ?_
   obtain rfl := hr1 _ (Option.some.inj hm1).symm
   exact ⟨((), ()), rfl, Keeps.mk (ks := []) rfl trivial (rfl) rfl⟩
 ·
  rintro ⟨_, _⟩ rfl
  try dsimp only at hm0
  refine V.seq ?_
  refine V.region ?_
  refine VO.cons rfl (V1.assign rfl rfl rfl (ltb rfl) ?_)
  refine VO.nil ?_
  refine V.ret ?_
  obtain rfl := Option.some.inj hm0
  exact ⟨_, [], ⟨_, _, rfl, rfl, rfl⟩, List.nil_sublist _, rfl, rfl⟩

theorem ok_spec_l18One {ρ0 rn : Nat} {x : Carton} {r : Bool} (h : M.spec_l18One x = some r) : Does Try.prog 98 [encCarton ρ0 x] [] rn (fun x H => x = .bool r ∧ H = []) := by
 have hm0 := h; clear h; unfold M.spec_l18One at hm0
 try dsimp only at hm0
 refine Does.intro (N := 29) Try.func98 rfl rfl rfl rfl ?_
 intro w0 S0
 refine V.seq ?_
 refine V.region ?_
 refine VO.cons rfl (V1.boxN (n := 5) rfl rfl rfl rfl rfl (ltb rfl) ?_)
 intro b0
 refine VO.cons rfl (V1.assign rfl rfl rfl (ltb rfl) ?_)
 refine VO.nil ?_
 refine V.seq ?_
 replace hm0 := bindO hm0; rcases hm0 with ⟨y0, hh0, hm0⟩
 replace hm0 := bindO hm0; rcases hm0 with ⟨y1, hh1, hm0⟩
 replace hm0 := bindO hm0; rcases hm0 with ⟨y2, hh2, hm0⟩
 replace hm0 := bindO hm0; rcases hm0 with ⟨y3, hh3, hm0⟩
 refine V.region ?_
 refine VO.cons rfl (V1.fieldRef rfl rfl fo_40_0 rfl (ltb rfl) ?_)
 refine VO.cons rfl (V1.loadRef (k := 0) rfl rfl tyk_3 rfl rfl rfl rfl rfl (ltb rfl) ?_)
 refine VO.cons rfl (V1.call rfl rfl rfl cok_84 rfl (ok_spec_l1In hh0) rfl (ltb rfl) ?_)
 rintro _ _ ⟨rfl, rfl⟩
 refine VO.cons rfl (V1.move rfl rfl rfl (ltb rfl) ?_)
 apply VO.and (n := 5) rfl rfl rfl rfl rfl rfl (ltb rfl) (.none rfl)
 ·
  intro hg0
  refine VO.step (.some rfl rfl rfl) (V1.fieldRef rfl rfl fo_40_2 rfl (ltb rfl) ?_)
  refine VO.step (.some rfl rfl rfl) (V1.loadRef (k := 0) rfl rfl tyk_3 rfl rfl rfl rfl rfl (ltb rfl) ?_)
  refine VO.step (.some rfl rfl rfl) (V1.fieldRef rfl rfl fo_40_1 rfl (ltb rfl) ?_)
  refine VO.step (.some rfl rfl rfl) (V1.loadRef (k := 0) rfl rfl tyk_3 rfl rfl rfl rfl rfl (ltb rfl) ?_)
  refine VO.step (.some rfl rfl rfl) (V1.call rfl rfl rfl cok_83 rfl (ok_spec_l18Place (cond_t hg0 hh1)) rfl (ltb rfl) ?_)
  rintro _ _ ⟨rfl, rfl⟩
  exact VO.nil ⟨rfl, rfl, rfl, rfl, .inr ⟨rfl, .inr ⟨rfl, .inr ⟨rfl, .inr ⟨rfl, .inr ⟨rfl, .inr ⟨rfl, .inl rfl⟩⟩⟩⟩⟩⟩⟩
 refine VO.cons rfl (V1.move rfl rfl rfl (ltb rfl) ?_)
 apply VO.and (n := 4) rfl rfl rfl rfl rfl rfl (ltb rfl) (.none rfl)
 ·
  intro hg1
  refine VO.step (.some rfl rfl rfl) (V1.fieldRef rfl rfl fo_40_3 rfl (ltb rfl) ?_)
  refine VO.step (.some rfl rfl rfl) (V1.loadRef (k := 0) rfl rfl tyk_38 rfl rfl rfl rfl rfl (ltb rfl) ?_)
  refine VO.step (.some rfl rfl rfl) (V1.lenMap rfl rfl rfl rfl rfl rfl isl_38 (ltb rfl) ?_)
  refine VO.step (.some rfl rfl rfl) (V1.int rfl rfl rfl rfl rfl (ltb rfl) ?_)
  exact VO.nil ⟨rfl, rfl, rfl, rfl, .inr ⟨rfl, .inr ⟨rfl, .inr ⟨rfl, .inr ⟨rfl, .inr ⟨rfl, .inl rfl⟩⟩⟩⟩⟩⟩
 refine VO.cons rfl (V1.move rfl rfl rfl (ltb rfl) ?_)
 apply VO.and (n := 3) rfl rfl rfl rfl rfl rfl (ltb rfl) (.none rfl)
 ·
  intro hg2
  refine VO.step (.some rfl rfl rfl) (V1.fieldRef rfl rfl fo_40_3 rfl (ltb rfl) ?_)
  refine VO.step (.some rfl rfl rfl) (V1.loadRef (k := 0) rfl rfl tyk_38 rfl rfl rfl rfl rfl (ltb rfl) ?_)
  refine VO.step (.some rfl rfl rfl) (V1.call rfl rfl rfl cok_92 rfl (ok_spec_l1Rising (cond_t hg2 hh2)) rfl (ltb rfl) ?_)
  rintro _ _ ⟨rfl, rfl⟩
  exact VO.nil ⟨rfl, rfl, rfl, rfl, .inr ⟨rfl, .inr ⟨rfl, .inr ⟨rfl, .inr ⟨rfl, .inl rfl⟩⟩⟩⟩⟩
 refine VO.cons rfl (V1.move rfl rfl rfl (ltb rfl) ?_)
 apply VO.and (n := 3) rfl rfl rfl rfl rfl rfl (ltb rfl) (.none rfl)
 ·
  intro hg3
  refine VO.step (.some rfl rfl rfl) (V1.fieldRef rfl rfl fo_40_4 rfl (ltb rfl) ?_)
  refine VO.step (.some rfl rfl rfl) (V1.loadRef (k := 0) rfl rfl tyk_3 rfl rfl rfl rfl rfl (ltb rfl) ?_)
  refine VO.step (.some rfl rfl rfl) (V1.call rfl rfl rfl cok_84 rfl (ok_spec_l1In (cond_t hg3 hh3)) rfl (ltb rfl) ?_)
  rintro _ _ ⟨rfl, rfl⟩
  exact VO.nil ⟨rfl, rfl, rfl, rfl, .inr ⟨rfl, .inr ⟨rfl, .inr ⟨rfl, .inr ⟨rfl, .inl rfl⟩⟩⟩⟩⟩
 refine VO.cons rfl (V1.assign rfl rfl rfl (ltb rfl) ?_)
 refine VO.nil ?_
 refine V.ret ?_
 obtain rfl := Option.some.inj hm0
 exact ⟨_, [], ⟨_, _, rfl, rfl, rfl⟩, List.nil_sublist _, rfl, rfl⟩

theorem ok_spec_l18Taken {ρ0 σ0 rn : Nat} {list : List Carton} {room : Int} {shelf : Int} {r : Int} (h : M.spec_l18Taken list room shelf = some r) : Does Try.prog 85 [.vl ρ0 5 (List.map (encCarton σ0) list), .int .i64 room, .int .i64 shelf] [] rn (fun x H => x = .int .i64 r ∧ H = []) := by
 have hm0 := h; clear h; unfold M.spec_l18Taken at hm0
 try dsimp only at hm0
 refine Does.intro (N := 39) Try.func85 rfl rfl rfl rfl ?_
 intro w0 S0
 refine V.seq ?_
 refine V.region ?_
 refine VO.cons rfl (V1.assign rfl rfl rfl (ltb rfl) ?_)
 refine VO.nil ?_
 refine V.seq ?_
 refine V.region ?_
 refine VO.cons rfl (V1.assign rfl rfl rfl (ltb rfl) ?_)
 refine VO.nil ?_
 refine V.seq ?_
 refine V.seq ?_
 refine V.region ?_
 refine VO.cons rfl (V1.assign rfl rfl rfl (ltb rfl) ?_)
 refine VO.nil ?_
 replace hm0 := bindO hm0; rcases hm0 with ⟨e0, he1, hm0⟩
 refine V.cutT (D := (Int) × (Unit)) (fun ⟨sum_, _⟩ => ⟨39, [(7, .int .i64 sum_)], []⟩) (fun ⟨sum_, _⟩ => (sum_ = e0)) ?_ ?_
 ·
  refine V.block ?_
  refine V.keep 39 [7, 8, 0, 1, 2] [] (E0 := [(7, .int .i64 (0 : Int)), (8, .int .i64 (0 : Int)), (0, .vl ρ0 5 (List.map (encCarton σ0) list)), (1, .int .i64 room), (2, .int .i64 shelf)]) (H0 := []) rfl (⟨_, _, rfl, rfl, ⟨_, _, rfl, rfl, ⟨_, _, rfl, rfl, ⟨_, _, rfl, rfl, ⟨_, _, rfl, rfl, rfl⟩⟩⟩⟩⟩) (rfl) rfl ?_
  refine V.loopE (D := Nat × (Int × Int) × (Unit)) (fun ⟨n0, ⟨sum_0, i⟩, _⟩ => [(7, .int .i64 sum_0), (8, .int .i64 i)]) (fun ⟨n0, ⟨sum_0, i⟩, _⟩ => []) (fun ⟨n0, ⟨sum_0, i⟩, _⟩ => loopO (M.spec_l18Taken_l0 list room shelf) n0 (sum_0, i) = some e0) (fun ⟨n0, _, _⟩ => n0) (rounds, ((0 : Int), (0 : Int)), ()) rfl he1 ?_
  rintro ⟨n0, ⟨sum_0, i⟩, _⟩ hP0
  obtain ⟨m0, y0, rfl, hm1, hl1, hr1⟩ := loop_head hP0
  unfold M.spec_l18Taken_l0 at hm1; dsimp only at hm1
  show V _ _ _ ⟨39, [(7, .int .i64 sum_0), (8, .int .i64 i), (0, .vl ρ0 5 (List.map (encCarton σ0) list)), (1, .int .i64 room), (2, .int .i64 shelf)], []⟩
  refine V.seq ?_
  refine V.seq ?_
  refine V.region ?_
  refine VO.cons rfl (V1.move rfl rfl rfl (ltb rfl) ?_)
  refine VO.cons rfl (V1.move rfl rfl rfl (ltb rfl) ?_)
  refine VO.cons rfl (V1.lenMap rfl rfl rfl rfl rfl rfl isl_24 (ltb rfl) ?_)
  refine VO.cons rfl (V1.int rfl rfl rfl rfl rfl (ltb rfl) ?_)
  refine VO.nil ?_
  refine V.cond rfl (fun hc0 => ?_) (fun hc0 => ?_)
  ·
   replace hm1 := cond_t hc0 hm1
   refine V.skip ?_
   refine V.keep 39 [0, 1, 2, 7, 8] [] (E0 := [(0, .vl ρ0 5 (List.map (encCarton σ0) list)), (1, .int .i64 room), (2, .int .i64 shelf), (7, .int .i64 sum_0), (8, .int .i64 i)]) (H0 := []) rfl (⟨_, _, rfl, rfl, ⟨_, _, rfl, rfl, ⟨_, _, rfl, rfl, ⟨_, _, rfl, rfl, ⟨_, _, rfl, rfl, rfl⟩⟩⟩⟩⟩) (rfl) rfl ?_
   refine V.seq ?_
   replace hm1 := bindO hm1; rcases hm1 with ⟨j0, hm2, hm1⟩
   refine V.cutT (D := (Int) × (Unit)) (fun ⟨sum_1, _⟩ => ⟨39, [(7, .int .i64 sum_1), (0, .vl ρ0 5 (List.map (encCarton σ0) list)), (1, .int .i64 room), (2, .int .i64 shelf), (8, .int .i64 i)], []⟩) (fun ⟨sum_1, _⟩ => (sum_1 = j0)) ?_ ?_
   ·
    refine V.block ?_
    refine V.seq ?_
    replace hm2 := asrt_some hm2; rcases hm2 with ⟨hh0, hm2⟩
    replace hm2 := asrt_some hm2; rcases hm2 with ⟨hh1, hm2⟩
    refine V.region ?_
    refine VO.cons rfl (V1.move rfl rfl rfl (ltb rfl) ?_)
    refine VO.cons rfl (V1.move rfl rfl rfl (ltb rfl) ?_)
    refine VO.cons rfl (V1.indexI rfl rfl esz_24 rfl rfl hh0 (ltb rfl) ?_)
    refine VO.cons rfl (V1.fieldPin rfl rfl fo_40_2 rfl (ltb rfl) ?_)
    refine VO.cons rfl (V1.loadPin rfl rfl tyk_3 rfl rfl (ltb rfl) ?_)
    refine VO.cons rfl (V1.move rfl rfl rfl (ltb rfl) ?_)
    refine VO.cons rfl (V1.int rfl rfl rfl rfl rfl (ltb rfl) ?_)
    refine VO.cons rfl (V1.move rfl rfl rfl (ltb rfl) ?_)
    apply VO.and (n := 7) rfl rfl rfl rfl rfl rfl (ltb rfl) (.none rfl)
    ·
     intro hg0
     refine VO.step (.some rfl rfl rfl) (V1.move rfl rfl rfl (ltb rfl) ?_)
     refine VO.step (.some rfl rfl rfl) (V1.move rfl rfl rfl (ltb rfl) ?_)
     refine VO.step (.some rfl rfl rfl) (V1.indexI rfl rfl esz_24 rfl rfl (hh1 hg0) (ltb rfl) ?_)
     refine VO.step (.some rfl rfl rfl) (V1.fieldPin rfl rfl fo_40_1 rfl (ltb rfl) ?_)
     refine VO.step (.some rfl rfl rfl) (V1.loadPin rfl rfl tyk_3 rfl rfl (ltb rfl) ?_)
     refine VO.step (.some rfl rfl rfl) (V1.move rfl rfl rfl (ltb rfl) ?_)
     refine VO.step (.some rfl rfl rfl) (V1.int rfl rfl rfl rfl rfl (ltb rfl) ?_)
     exact VO.nil ⟨rfl, rfl, rfl, rfl, .inr ⟨rfl, .inr ⟨rfl, .inr ⟨rfl, .inr ⟨rfl, .inr ⟨rfl, .inr ⟨rfl, .inr ⟨rfl, .inr ⟨rfl, .inl rfl⟩⟩⟩⟩⟩⟩⟩⟩⟩
    refine VO.nil ?_
    refine V.keep 39 [0, 1, 2, 7, 8, 30] [] (E0 := [(0, .vl ρ0 5 (List.map (encCarton σ0) list)), (1, .int .i64 room), (2, .int .i64 shelf), (7, .int .i64 sum_0), (8, .int .i64 i), (30, .bool ((((list.getD (Int.toNat i) default).Room) == room) && (((list.getD (Int.toNat i) default).Shelf) == shelf)))]) (H0 := []) rfl (⟨_, _, rfl, rfl, ⟨_, _, rfl, rfl, ⟨_, _, rfl, rfl, ⟨_, _, rfl, rfl, ⟨_, _, rfl, rfl, ⟨_, _, rfl, rfl, rfl⟩⟩⟩⟩⟩⟩) (rfl) rfl ?_
    refine V.cond rfl (fun hc1 => ?_) (fun hc1 => ?_)
    ·
     replace hm2 := cond_t hc1 hm2
     replace hm2 := asrt_some hm2; rcases hm2 with ⟨hh2, hm2⟩
     refine V.region ?_
     refine VO.cons rfl (V1.move rfl rfl rfl (ltb rfl) ?_)
     refine VO.cons rfl (V1.move rfl rfl rfl (ltb rfl) ?_)
     refine VO.cons rfl (V1.move rfl rfl rfl (ltb rfl) ?_)
     refine VO.cons rfl (V1.indexI rfl rfl esz_24 rfl rfl hh2 (ltb rfl) ?_)
     refine VO.cons rfl (V1.fieldPin rfl rfl fo_40_4 rfl (ltb rfl) ?_)
     refine VO.cons rfl (V1.loadPin rfl rfl tyk_3 rfl rfl (ltb rfl) ?_)
     refine VO.cons rfl (V1.int rfl rfl rfl rfl rfl (ltb rfl) ?_)
     refine VO.cons rfl (V1.assign rfl rfl rfl (ltb rfl) ?_)
     refine VO.nil ?_
     exact ⟨((IntKind.i64.wrap (sum_0 + ((list.getD (Int.toNat i) default).Thick))), ()), Option.some.inj hm2, Keeps.mk (ks := []) rfl ⟨rfl, rfl, rfl, rfl, rfl, trivial⟩ (rfl) rfl⟩
    ·
     replace hm2 := cond_f hc1 hm2
     refine V.skip ?_
     exact ⟨(sum_0, ()), Option.some.inj hm2, Keeps.mk (ks := []) rfl ⟨rfl, rfl, rfl, rfl, rfl, trivial⟩ (rfl) rfl⟩
   ·
    rintro ⟨sum_1, _⟩ rfl
    try dsimp only at hm1
    refine V.region ?_
    refine VO.cons rfl (V1.move rfl rfl rfl (ltb rfl) ?_)
    refine VO.cons rfl (V1.int rfl rfl rfl rfl rfl (ltb rfl) ?_)
    refine VO.cons rfl (V1.assign rfl rfl rfl (ltb rfl) ?_)
    refine VO.nil ?_
    exact ⟨(m0, (sum_1, (IntKind.i64.wrap (i + (1 : Int)))), ()), hl1 _ (Option.some.inj hm1).symm, Nat.lt_succ_self _, Keeps.mk (ks := []) rfl ⟨rfl, rfl, rfl, rfl, rfl, trivial⟩ (rfl) rfl⟩
  ·
   replace hm1 := cond_f hc0 hm1
   refine V.exit ?_
   obtain rfl := hr1 _ (Option.some.inj hm1).symm
   exact ⟨(sum_0, ()), rfl, Keeps.mk (ks := []) rfl ⟨rfl, trivial⟩ (rfl) rfl⟩
 ·
  rintro ⟨sum_, _⟩ rfl
  try dsimp only at hm0
  refine V.seq ?_
  refine V.region ?_
  refine VO.cons rfl (V1.move rfl rfl rfl (ltb rfl) ?_)
  refine VO.cons rfl (V1.assign rfl rfl rfl (ltb rfl) ?_)
  refine VO.nil ?_
  refine V.ret ?_
  obtain rfl := Option.some.inj hm0
  exact ⟨_, [], ⟨_, _, rfl, rfl, rfl⟩, List.nil_sublist _, rfl, rfl⟩

theorem ok_spec_l1Has {ρ0 rn : Nat} {l : List Int} {n : Int} {r : Bool} (h : M.spec_l1Has l n = some r) : Does Try.prog 93 [.vl ρ0 1 (List.map encInt l), .int .i64 n] [] rn (fun x H => x = .bool r ∧ H = []) := by
 have hm0 := h; clear h; unfold M.spec_l1Has at hm0
 try dsimp only at hm0
 refine Does.intro (N := 18) Try.func93 rfl rfl rfl rfl ?_
 intro w0 S0
 refine V.seq ?_
 refine V.region ?_
 refine VO.cons rfl (V1.assign rfl rfl rfl (ltb rfl) ?_)
 refine VO.nil ?_
 refine V.seq ?_
 refine V.seq ?_
 refine V.region ?_
 refine VO.cons rfl (V1.assign rfl rfl rfl (ltb rfl) ?_)
 refine VO.nil ?_
 replace hm0 := bindO hm0; rcases hm0 with ⟨e0, he1, hm0⟩
 refine V.cutT (D := (Unit) × (Unit)) (fun ⟨_, _⟩ => ⟨18, [], []⟩) (fun ⟨_, _⟩ => (.inl () = e0)) ?_ ?_
 ·
  refine V.block ?_
  refine V.keep 18 [5, 0, 1] [] (E0 := [(5, .int .i64 (0 : Int)), (0, .vl ρ0 1 (List.map encInt l)), (1, .int .i64 n)]) (H0 := []) rfl (⟨_, _, rfl, rfl, ⟨_, _, rfl, rfl, ⟨_, _, rfl, rfl, rfl⟩⟩⟩) (rfl) rfl ?_
  refine V.loopE (D := Nat × (Int) × (Unit)) (fun ⟨n0, i, _⟩ => [(5, .int .i64 i)]) (fun ⟨n0, i, _⟩ => []) (fun ⟨n0, i, _⟩ => loopO (M.spec_l1Has_l0 l n) n0 i = some e0) (fun ⟨n0, _, _⟩ => n0) (rounds, (0 : Int), ()) rfl he1 ?_
  rintro ⟨n0, i, _⟩ hP0
  obtain ⟨m0, y0, rfl, hm1, hl1, hr1⟩ := loop_head hP0
  unfold M.spec_l1Has_l0 at hm1; dsimp only at hm1
  show V _ _ _ ⟨18, [(5, .int .i64 i), (0, .vl ρ0 1 (List.map encInt l)), (1, .int .i64 n)], []⟩
  refine V.seq ?_
  refine V.seq ?_
  refine V.region ?_
  refine VO.cons rfl (V1.move rfl rfl rfl (ltb rfl) ?_)
  refine VO.cons rfl (V1.move rfl rfl rfl (ltb rfl) ?_)
  refine VO.cons rfl (V1.lenMap rfl rfl rfl rfl rfl rfl isl_38 (ltb rfl) ?_)
  refine VO.cons rfl (V1.int rfl rfl rfl rfl rfl (ltb rfl) ?_)
  refine VO.nil ?_
  refine V.cond rfl (fun hc0 => ?_) (fun hc0 => ?_)
  ·
   replace hm1 := cond_t hc0 hm1
   refine V.skip ?_
   refine V.keep 18 [0, 1, 5] [] (E0 := [(0, .vl ρ0 1 (List.map encInt l)), (1, .int .i64 n), (5, .int .i64 i)]) (H0 := []) rfl (⟨_, _, rfl, rfl, ⟨_, _, rfl, rfl, ⟨_, _, rfl, rfl, rfl⟩⟩⟩) (rfl) rfl ?_
   refine V.seq ?_
   refine V.block ?_
   refine V.seq ?_
   replace hm1 := asrt_some hm1; rcases hm1 with ⟨hh0, hm1⟩
   refine V.region ?_
   refine VO.cons rfl (V1.move rfl rfl rfl (ltb rfl) ?_)
   refine VO.cons rfl (V1.move rfl rfl rfl (ltb rfl) ?_)
   refine VO.cons rfl (V1.indexI rfl rfl esz_38 rfl rfl hh0 (ltb rfl) ?_)
   refine VO.cons rfl (V1.loadPin rfl rfl tyk_3 rfl rfl (ltb rfl) ?_)
   refine VO.cons rfl (V1.move rfl rfl rfl (ltb rfl) ?_)
   refine VO.cons rfl (V1.int rfl rfl rfl rfl rfl (ltb rfl) ?_)
   refine VO.nil ?_
   refine V.keep 18 [0, 1, 5, 17] [] (E0 := [(0, .vl ρ0 1 (List.map encInt l)), (1, .int .i64 n), (5, .int .i64 i), (17, .bool ((l.getD (Int.toNat i) default) == n))]) (H0 := []) rfl (⟨_, _, rfl, rfl, ⟨_, _, rfl, rfl, ⟨_, _, rfl, rfl, ⟨_, _, rfl, rfl, rfl⟩⟩⟩⟩) (rfl) rfl ?_
   refine V.cond rfl (fun hc1 => ?_) (fun hc1 => ?_)
   ·
    replace hm1 := cond_t hc1 hm1
    refine V.seq ?_
    refine V.region ?_
    refine VO.cons rfl (V1.assign rfl rfl rfl (ltb rfl) ?_)
    refine VO.nil ?_
    refine V.ret ?_
    obtain rfl := hr1 _ (Option.some.inj hm1).symm
    change some _ = some _ at hm0
    obtain rfl := Option.some.inj hm0
    exact ⟨_, [], ⟨_, _, rfl, rfl, rfl⟩, List.nil_sublist _, rfl, rfl⟩
   ·
    replace hm1 := cond_f hc1 hm1
    refine V.skip ?_
    refine V.region ?_
    refine VO.cons rfl (V1.move rfl rfl rfl (ltb rfl) ?_)
    refine VO.cons rfl (V1.int rfl rfl rfl rfl rfl (ltb rfl) ?_)
    refine VO.cons rfl (V1.assign rfl rfl rfl (ltb rfl) ?_)
    refine VO.nil ?_
    exact ⟨(m0, (IntKind.i64.wrap (i + (1 : Int))), ()), hl1 _ (Option.some.inj hm1).symm, Nat.lt_succ_self _, Keeps.mk (ks := []) rfl ⟨rfl, rfl, rfl, trivial⟩ (rfl) rfl⟩
  ·
   replace hm1 := cond_f hc0 hm1
   refine V.exit ?_
   obtain rfl := hr1 _ (Option.some.inj hm1).symm
   exact ⟨((), ()), rfl, Keeps.mk (ks := []) rfl trivial (rfl) rfl⟩
 ·
  rintro ⟨_, _⟩ rfl
  try dsimp only at hm0
  refine V.seq ?_
  refine V.region ?_
  refine VO.cons rfl (V1.assign rfl rfl rfl (ltb rfl) ?_)
  refine VO.nil ?_
  refine V.ret ?_
  obtain rfl := Option.some.inj hm0
  exact ⟨_, [], ⟨_, _, rfl, rfl, rfl⟩, List.nil_sublist _, rfl, rfl⟩

theorem ok_spec_l18Holds {ρ0 σ0 rn : Nat} {list : List Carton} {file : Int} {r : Int} (h : M.spec_l18Holds list file = some r) : Does Try.prog 67 [.vl ρ0 5 (List.map (encCarton σ0) list), .int .i64 file] [] rn (fun x H => x = .int .i64 r ∧ H = []) := by
 have hm0 := h; clear h; unfold M.spec_l18Holds at hm0
 try dsimp only at hm0
 refine Does.intro (N := 20) Try.func67 rfl rfl rfl rfl ?_
 intro w0 S0
 refine V.seq ?_
 refine V.region ?_
 refine VO.cons rfl (V1.assign rfl rfl rfl (ltb rfl) ?_)
 refine VO.nil ?_
 refine V.seq ?_
 refine V.seq ?_
 refine V.region ?_
 refine VO.cons rfl (V1.assign rfl rfl rfl (ltb rfl) ?_)
 refine VO.nil ?_
 replace hm0 := bindO hm0; rcases hm0 with ⟨e0, he1, hm0⟩
 refine V.cutT (D := (Unit) × (Unit)) (fun ⟨_, _⟩ => ⟨20, [], []⟩) (fun ⟨_, _⟩ => (.inl () = e0)) ?_ ?_
 ·
  refine V.block ?_
  refine V.keep 20 [5, 0, 1] [] (E0 := [(5, .int .i64 (0 : Int)), (0, .vl ρ0 5 (List.map (encCarton σ0) list)), (1, .int .i64 file)]) (H0 := []) rfl (⟨_, _, rfl, rfl, ⟨_, _, rfl, rfl, ⟨_, _, rfl, rfl, rfl⟩⟩⟩) (rfl) rfl ?_
  refine V.loopE (D := Nat × (Int) × (Unit)) (fun ⟨n0, i, _⟩ => [(5, .int .i64 i)]) (fun ⟨n0, i, _⟩ => []) (fun ⟨n0, i, _⟩ => loopO (M.spec_l18Holds_l0 list file) n0 i = some e0) (fun ⟨n0, _, _⟩ => n0) (rounds, (0 : Int), ()) rfl he1 ?_
  rintro ⟨n0, i, _⟩ hP0
  obtain ⟨m0, y0, rfl, hm1, hl1, hr1⟩ := loop_head hP0
  unfold M.spec_l18Holds_l0 at hm1; dsimp only at hm1
  show V _ _ _ ⟨20, [(5, .int .i64 i), (0, .vl ρ0 5 (List.map (encCarton σ0) list)), (1, .int .i64 file)], []⟩
  refine V.seq ?_
  refine V.seq ?_
  refine V.region ?_
  refine VO.cons rfl (V1.move rfl rfl rfl (ltb rfl) ?_)
  refine VO.cons rfl (V1.move rfl rfl rfl (ltb rfl) ?_)
  refine VO.cons rfl (V1.lenMap rfl rfl rfl rfl rfl rfl isl_24 (ltb rfl) ?_)
  refine VO.cons rfl (V1.int rfl rfl rfl rfl rfl (ltb rfl) ?_)
  refine VO.nil ?_
  refine V.cond rfl (fun hc0 => ?_) (fun hc0 => ?_)
  ·
   replace hm1 := cond_t hc0 hm1
   refine V.skip ?_
   refine V.keep 20 [0, 1, 5] [] (E0 := [(0, .vl ρ0 5 (List.map (encCarton σ0) list)), (1, .int .i64 file), (5, .int .i64 i)]) (H0 := []) rfl (⟨_, _, rfl, rfl, ⟨_, _, rfl, rfl, ⟨_, _, rfl, rfl, rfl⟩⟩⟩) (rfl) rfl ?_
   refine V.seq ?_
   refine V.block ?_
   refine V.seq ?_
   replace hm1 := asrt_some hm1; rcases hm1 with ⟨hh0, hm1⟩
   replace hm1 := bindO hm1; rcases hm1 with ⟨y1, hh1, hm1⟩
   refine V.region ?_
   refine VO.cons rfl (V1.move rfl rfl rfl (ltb rfl) ?_)
   refine VO.cons rfl (V1.move rfl rfl rfl (ltb rfl) ?_)
   refine VO.cons rfl (V1.indexI rfl rfl esz_24 rfl rfl hh0 (ltb rfl) ?_)
   refine VO.cons rfl (V1.fieldPin rfl rfl fo_40_3 rfl (ltb rfl) ?_)
   refine VO.cons rfl (V1.loadPin rfl rfl tyk_38 rfl rfl (ltb rfl) ?_)
   refine VO.cons rfl (V1.move rfl rfl rfl (ltb rfl) ?_)
   refine VO.cons rfl (V1.call rfl rfl rfl cok_93 rfl (ok_spec_l1Has hh1) rfl (ltb rfl) ?_)
   rintro _ _ ⟨rfl, rfl⟩
   refine VO.nil ?_
   refine V.keep 20 [0, 1, 5, 18] [] (E0 := [(0, .vl ρ0 5 (List.map (encCarton σ0) list)), (1, .int .i64 file), (5, .int .i64 i), (18, .bool y1)]) (H0 := []) rfl (⟨_, _, rfl, rfl, ⟨_, _, rfl, rfl, ⟨_, _, rfl, rfl, ⟨_, _, rfl, rfl, rfl⟩⟩⟩⟩) (rfl) rfl ?_
   refine V.cond rfl (fun hc1 => ?_) (fun hc1 => ?_)
   ·
    replace hm1 := cond_t hc1 hm1
    refine V.seq ?_
    refine V.region ?_
    refine VO.cons rfl (V1.move rfl rfl rfl (ltb rfl) ?_)
    refine VO.cons rfl (V1.assign rfl rfl rfl (ltb rfl) ?_)
    refine VO.nil ?_
    refine V.ret ?_
    obtain rfl := hr1 _ (Option.some.inj hm1).symm
    change some _ = some _ at hm0
    obtain rfl := Option.some.inj hm0
    exact ⟨_, [], ⟨_, _, rfl, rfl, rfl⟩, List.nil_sublist _, rfl, rfl⟩
   ·
    replace hm1 := cond_f hc1 hm1
    refine V.skip ?_
    refine V.region ?_
    refine VO.cons rfl (V1.move rfl rfl rfl (ltb rfl) ?_)
    refine VO.cons rfl (V1.int rfl rfl rfl rfl rfl (ltb rfl) ?_)
    refine VO.cons rfl (V1.assign rfl rfl rfl (ltb rfl) ?_)
    refine VO.nil ?_
    exact ⟨(m0, (IntKind.i64.wrap (i + (1 : Int))), ()), hl1 _ (Option.some.inj hm1).symm, Nat.lt_succ_self _, Keeps.mk (ks := []) rfl ⟨rfl, rfl, rfl, trivial⟩ (rfl) rfl⟩
  ·
   replace hm1 := cond_f hc0 hm1
   refine V.exit ?_
   obtain rfl := hr1 _ (Option.some.inj hm1).symm
   exact ⟨((), ()), rfl, Keeps.mk (ks := []) rfl trivial (rfl) rfl⟩
 ·
  rintro ⟨_, _⟩ rfl
  try dsimp only at hm0
  refine V.seq ?_
  refine V.region ?_
  refine VO.cons rfl (V1.assign rfl rfl rfl (ltb rfl) ?_)
  refine VO.nil ?_
  refine V.ret ?_
  obtain rfl := Option.some.inj hm0
  exact ⟨_, [], ⟨_, _, rfl, rfl, rfl⟩, List.nil_sublist _, rfl, rfl⟩

theorem ok_spec_l18Good {ρ0 σ0 rn : Nat} {list : List Carton} {r : Bool} (h : M.spec_l18Good list = some r) : Does Try.prog 69 [.vl ρ0 5 (List.map (encCarton σ0) list)] [] rn (fun x H => x = .bool r ∧ H = []) := by
 have hm0 := h; clear h; unfold M.spec_l18Good at hm0
 try dsimp only at hm0
 refine Does.intro (N := 70) Try.func69 rfl rfl rfl rfl ?_
 intro w0 S0
 refine V.seq ?_
 refine V.region ?_
 refine VO.cons rfl (V1.assign rfl rfl rfl (ltb rfl) ?_)
 refine VO.nil ?_
 refine V.seq ?_
 refine V.seq ?_
 refine V.region ?_
 refine VO.cons rfl (V1.assign rfl rfl rfl (ltb rfl) ?_)
 refine VO.nil ?_
 replace hm0 := bindO hm0; rcases hm0 with ⟨e0, he1, hm0⟩
 refine V.cutT (D := (Unit) × (Unit)) (fun ⟨_, _⟩ => ⟨70, [(0, .vl ρ0 5 (List.map (encCarton σ0) list))], []⟩) (fun ⟨_, _⟩ => (.inl () = e0)) ?_ ?_
 ·
  refine V.block ?_
  refine V.keep 70 [3, 0] [] (E0 := [(3, .int .i64 (0 : Int)), (0, .vl ρ0 5 (List.map (encCarton σ0) list))]) (H0 := []) rfl (⟨_, _, rfl, rfl, ⟨_, _, rfl, rfl, rfl⟩⟩) (rfl) rfl ?_
  refine V.loopE (D := Nat × (Int) × (Unit)) (fun ⟨n0, i, _⟩ => [(3, .int .i64 i)]) (fun ⟨n0, i, _⟩ => []) (fun ⟨n0, i, _⟩ => loopO (M.spec_l18Good_l0 list) n0 i = some e0) (fun ⟨n0, _, _⟩ => n0) (rounds, (0 : Int), ()) rfl he1 ?_
  rintro ⟨n0, i, _⟩ hP0
  obtain ⟨m0, y0, rfl, hm1, hl1, hr1⟩ := loop_head hP0
  unfold M.spec_l18Good_l0 at hm1; dsimp only at hm1
  show V _ _ _ ⟨70, [(3, .int .i64 i), (0, .vl ρ0 5 (List.map (encCarton σ0) list))], []⟩
  refine V.seq ?_
  refine V.seq ?_
  refine V.region ?_
  refine VO.cons rfl (V1.move rfl rfl rfl (ltb rfl) ?_)
  refine VO.cons rfl (V1.move rfl rfl rfl (ltb rfl) ?_)
  refine VO.cons rfl (V1.lenMap rfl rfl rfl rfl rfl rfl isl_24 (ltb rfl) ?_)
  refine VO.cons rfl (V1.int rfl rfl rfl rfl rfl (ltb rfl) ?_)
  refine VO.cons rfl (V1.move rfl rfl rfl (ltb rfl) ?_)
  apply VO.and (n := 2) rfl rfl rfl rfl rfl rfl (ltb rfl) (.none rfl)
  ·
   intro hg0
   refine VO.step (.some rfl rfl rfl) (V1.move rfl rfl rfl (ltb rfl) ?_)
   refine VO.step (.some rfl rfl rfl) (V1.int rfl rfl rfl rfl rfl (ltb rfl) ?_)
   exact VO.nil ⟨rfl, rfl, rfl, rfl, .inr ⟨rfl, .inr ⟨rfl, .inr ⟨rfl, .inl rfl⟩⟩⟩⟩
  refine VO.nil ?_
  refine V.keep 70 [0, 3, 13] [] (E0 := [(0, .vl ρ0 5 (List.map (encCarton σ0) list)), (3, .int .i64 i), (13, .bool ((decide (i < (list.length : Int))) && (decide (i ≤ (10 : Int)))))]) (H0 := []) rfl (⟨_, _, rfl, rfl, ⟨_, _, rfl, rfl, ⟨_, _, rfl, rfl, rfl⟩⟩⟩) (rfl) rfl ?_
  refine V.cond rfl (fun hc0 => ?_) (fun hc0 => ?_)
  ·
   replace hm1 := cond_t hc0 hm1
   refine V.skip ?_
   refine V.seq ?_
   refine V.block ?_
   refine V.seq ?_
   replace hm1 := asrt_some hm1; rcases hm1 with ⟨hh0, hm1⟩
   refine V.region ?_
   refine VO.cons rfl (V1.move rfl rfl rfl (ltb rfl) ?_)
   refine VO.cons rfl (V1.move rfl rfl rfl (ltb rfl) ?_)
   refine VO.cons rfl (V1.indexI rfl rfl esz_24 rfl rfl hh0 (ltb rfl) ?_)
   refine VO.cons rfl (V1.loadPinAll rfl rfl tyk_40 rfl rfl (ltb rfl) ?_)
   refine VO.cons rfl (V1.alloc rfl rfl zk_40 (ltb rfl) ?_)
   intro b0
   refine VO.cons rfl (V1.storeRefAll (k := 0) rfl rfl tyk_40 rfl rfl rfl rfl rfl rfl ?_)
   refine VO.nil ?_
   refine V.keep 70 [0, 3, 4] [0] (E0 := [(0, .vl ρ0 5 (List.map (encCarton σ0) list)), (3, .int .i64 i), (4, .ref b0 5 0 0)]) (H0 := [(b0, ⟨5, [encCarton σ0 (list.getD (Int.toNat i) default)]⟩)]) rfl (⟨_, _, rfl, rfl, ⟨_, _, rfl, rfl, ⟨_, _, rfl, rfl, rfl⟩⟩⟩) (⟨_, _, rfl, rfl, rfl⟩) rfl ?_
   refine V.seq ?_
   refine V.seq ?_
   replace hm1 := bindO hm1; rcases hm1 with ⟨y1, hh1, hm1⟩
   replace hm1 := asrt_some hm1; rcases hm1 with ⟨hh2, hm1⟩
   replace hm1 := asrt_some hm1; rcases hm1 with ⟨hh3, hm1⟩
   replace hm1 := bindO hm1; rcases hm1 with ⟨y2, hh4, hm1⟩
   refine V.regionM 70 30 [⟨[(4, none)], [], none⟩, ⟨[(20, some 0)], [], none⟩, ⟨[(21, some 0)], [], none⟩, ⟨[(22, some 0)], [], none⟩, ⟨[(3, none)], [(0, false)], none⟩, ⟨[(24, some 0)], [(1, false)], none⟩, ⟨[(25, some 0)], [(2, false)], none⟩, ⟨[(0, none)], [(0, true), (3, false)], none⟩, ⟨[(3, none)], [(1, true), (4, false)], none⟩, ⟨[(28, some 0)], [(2, true), (5, false)], none⟩, ⟨[(27, some 2), (29, some 0)], [(3, true), (6, false)], none⟩, ⟨[(30, some 0)], [(4, true), (7, false)], none⟩, ⟨[(31, some 0)], [(5, true), (8, false)], none⟩, ⟨[(4, none)], [(6, true), (9, false)], none⟩, ⟨[(33, some 0)], [(7, true), (10, false)], none⟩, ⟨[(32, some 2), (34, some 0)], [(8, true), (11, false)], none⟩, ⟨[], [(12, false)], some (true, 26, 35, 9, 0)⟩, ⟨[], [], some (false, 23, 36, 13, 0)⟩, ⟨[(37, some 0)], [], none⟩, ⟨[(0, none)], [(0, false)], none⟩, ⟨[(3, none)], [(1, false)], none⟩, ⟨[(40, some 0)], [(2, false)], none⟩, ⟨[(39, some 2), (41, some 0)], [(3, false)], none⟩, ⟨[(4, none)], [(4, false)], none⟩, ⟨[(43, some 0)], [(5, false)], none⟩, ⟨[(4, none)], [(6, false)], none⟩, ⟨[(45, some 0)], [(7, false)], none⟩, ⟨[(42, some 4), (44, some 2), (46, some 0)], [(8, false)], none⟩, ⟨[(47, some 0)], [(9, false)], none⟩, ⟨[], [], some (false, 38, 48, 10, 0)⟩] [(0, none), (3, none), (4, none), (49, some 0)] (⟨_, rfl, ⟨_, rfl, ⟨_, rfl, ⟨_, rfl, ⟨_, rfl, ⟨_, rfl, ⟨_, rfl, ⟨_, rfl, ⟨_, rfl, ⟨_, rfl, ⟨_, rfl, ⟨_, rfl, ⟨_, rfl, ⟨_, rfl, ⟨_, rfl, ⟨_, rfl, ⟨_, rfl, ⟨_, rfl, ⟨_, rfl, ⟨_, rfl, ⟨_, rfl, ⟨_, rfl, ⟨_, rfl, ⟨_, rfl, ⟨_, rfl, ⟨_, rfl, ⟨_, rfl, ⟨_, rfl, ⟨_, rfl, ⟨_, rfl, ⟨rfl, rfl⟩⟩⟩⟩⟩⟩⟩⟩⟩⟩⟩⟩⟩⟩⟩⟩⟩⟩⟩⟩⟩⟩⟩⟩⟩⟩⟩⟩⟩⟩⟩) mixed_orders rfl (by decide +kernel) (fun hck5 => ?_)
   refine VP.step (p := ?pv409) rfl rfl rfl (⟨_, _, rfl, rfl, rfl⟩) ?hv409 ?rest409 hck5
   case hv409 =>
    intro E1
    refine (V1.loadRefAll (k := 0) rfl rfl tyk_40 rfl rfl rfl rfl rfl (ltb rfl) ?_)
    exact rfl
   refine VP.step (p := ?pv410) rfl rfl rfl (⟨_, _, rfl, rfl, rfl⟩) ?hv410 ?rest410 hck5
   case hv410 =>
    intro E1
    refine (V1.call rfl rfl rfl cok_98 rfl (ok_spec_l18One hh1) rfl (ltb rfl) ?_)
    rintro _ _ ⟨rfl, rfl⟩
    exact rfl
   refine VP.step (p := ?pv411) rfl rfl rfl (⟨_, _, rfl, rfl, rfl⟩) ?hv411 ?rest411 hck5
   case hv411 =>
    intro E1
    refine (V1.not rfl rfl rfl (ltb rfl) ?_)
    exact rfl
   refine VP.step (p := ?pv412) rfl rfl rfl (⟨_, _, rfl, rfl, rfl⟩) ?hv412 ?rest412 hck5
   case hv412 =>
    intro E1
    refine (V1.move rfl rfl rfl (ltb rfl) ?_)
    exact rfl
   refine VP.step (p := ?pv413) rfl rfl rfl (⟨_, _, rfl, rfl, rfl⟩) ?hv413 ?rest413 hck5
   case hv413 =>
    refine ⟨_, rfl, fun hg1 => ?_⟩
    intro E1
    refine (V1.move rfl rfl rfl (ltb rfl) ?_)
    exact rfl
   refine VP.step (p := ?pv414) rfl rfl rfl (⟨_, _, rfl, rfl, rfl⟩) ?hv414 ?rest414 hck5
   case hv414 =>
    refine ⟨_, rfl, fun hg1 => ?_⟩
    intro E1
    refine (V1.int rfl rfl rfl rfl rfl (ltb rfl) ?_)
    exact rfl
   refine VP.step (p := ?pv415) rfl rfl rfl (⟨_, _, rfl, rfl, rfl⟩) ?hv415 ?rest415 hck5
   case hv415 =>
    refine ⟨_, rfl, fun hg1 => ?_⟩
    intro E1
    refine (V1.move rfl rfl rfl (ltb rfl) ?_)
    exact rfl
   refine VP.step (p := ?pv416) rfl rfl rfl (⟨_, _, rfl, rfl, rfl⟩) ?hv416 ?rest416 hck5
   case hv416 =>
    refine ⟨_, rfl, fun hg2 => ?_⟩
    refine ⟨_, rfl, fun hg1 => ?_⟩
    intro E1
    refine (V1.move rfl rfl rfl (ltb rfl) ?_)
    exact rfl
   refine VP.step (p := ?pv417) rfl rfl rfl (⟨_, _, rfl, rfl, rfl⟩) ?hv417 ?rest417 hck5
   case hv417 =>
    refine ⟨_, rfl, fun hg2 => ?_⟩
    refine ⟨_, rfl, fun hg1 => ?_⟩
    intro E1
    refine (V1.move rfl rfl rfl (ltb rfl) ?_)
    exact rfl
   refine VP.step (p := ?pv418) rfl rfl rfl (⟨_, _, rfl, rfl, rfl⟩) ?hv418 ?rest418 hck5
   case hv418 =>
    refine ⟨_, rfl, fun hg2 => ?_⟩
    refine ⟨_, rfl, fun hg1 => ?_⟩
    intro E1
    refine (V1.int rfl rfl rfl rfl rfl (ltb rfl) ?_)
    exact rfl
   refine VP.step (p := ?pv419) rfl rfl rfl (⟨_, _, rfl, rfl, ⟨_, _, rfl, rfl, rfl⟩⟩) ?hv419 ?rest419 hck5
   case hv419 =>
    refine ⟨_, rfl, fun hg2 => ?_⟩
    refine ⟨_, rfl, fun hg1 => ?_⟩
    intro E1
    refine (V1.indexI rfl rfl esz_24 rfl rfl (hh2 hg1 hg2) (ltb rfl) ?_)
    exact rfl
   refine VP.step (p := ?pv420) rfl rfl rfl (⟨_, _, rfl, rfl, rfl⟩) ?hv420 ?rest420 hck5
   case hv420 =>
    refine ⟨_, rfl, fun hg2 => ?_⟩
    refine ⟨_, rfl, fun hg1 => ?_⟩
    intro E1
    refine (V1.fieldPin rfl rfl fo_40_0 rfl (ltb rfl) ?_)
    exact rfl
   refine VP.step (p := ?pv421) rfl rfl rfl (⟨_, _, rfl, rfl, rfl⟩) ?hv421 ?rest421 hck5
   case hv421 =>
    refine ⟨_, rfl, fun hg2 => ?_⟩
    refine ⟨_, rfl, fun hg1 => ?_⟩
    intro E1
    refine (V1.loadPin rfl rfl tyk_3 rfl rfl (ltb rfl) ?_)
    exact rfl
   refine VP.step (p := ?pv422) rfl rfl rfl (⟨_, _, rfl, rfl, rfl⟩) ?hv422 ?rest422 hck5
   case hv422 =>
    refine ⟨_, rfl, fun hg2 => ?_⟩
    refine ⟨_, rfl, fun hg1 => ?_⟩
    intro E1
    refine (V1.fieldRef rfl rfl fo_40_0 rfl (ltb rfl) ?_)
    exact rfl
   refine VP.step (p := ?pv423) rfl rfl rfl (⟨_, _, rfl, rfl, rfl⟩) ?hv423 ?rest423 hck5
   case hv423 =>
    refine ⟨_, rfl, fun hg2 => ?_⟩
    refine ⟨_, rfl, fun hg1 => ?_⟩
    intro E1
    refine (V1.loadRef (k := 0) rfl rfl tyk_3 rfl rfl rfl rfl rfl (ltb rfl) ?_)
    exact rfl
   refine VP.step (p := ?pv424) rfl rfl rfl (⟨_, _, rfl, rfl, ⟨_, _, rfl, rfl, rfl⟩⟩) ?hv424 ?rest424 hck5
   case hv424 =>
    refine ⟨_, rfl, fun hg2 => ?_⟩
    refine ⟨_, rfl, fun hg1 => ?_⟩
    intro E1
    refine (V1.int rfl rfl rfl rfl rfl (ltb rfl) ?_)
    exact rfl
   refine VP.pickAnd rfl rfl rfl rfl rfl rfl (⟨_, rfl, fun _ => trivial⟩) ?_ hck5
   refine VP.pickOr rfl rfl rfl rfl rfl rfl (trivial) ?_ hck5
   refine VP.step (p := ?pv425) rfl rfl rfl (⟨_, _, rfl, rfl, rfl⟩) ?hv425 ?rest425 hck5
   case hv425 =>
    intro E1
    refine (V1.move rfl rfl rfl (ltb rfl) ?_)
    exact rfl
   refine VP.step (p := ?pv426) rfl rfl rfl (⟨_, _, rfl, rfl, rfl⟩) ?hv426 ?rest426 hck5
   case hv426 =>
    refine ⟨_, rfl, fun hg3 => ?_⟩
    intro E1
    refine (V1.move rfl rfl rfl (ltb rfl) ?_)
    exact rfl
   refine VP.step (p := ?pv427) rfl rfl rfl (⟨_, _, rfl, rfl, rfl⟩) ?hv427 ?rest427 hck5
   case hv427 =>
    refine ⟨_, rfl, fun hg3 => ?_⟩
    intro E1
    refine (V1.move rfl rfl rfl (ltb rfl) ?_)
    exact rfl
   refine VP.step (p := ?pv428) rfl rfl rfl (⟨_, _, rfl, rfl, rfl⟩) ?hv428 ?rest428 hck5
   case hv428 =>
    refine ⟨_, rfl, fun hg3 => ?_⟩
    intro E1
    refine (V1.int rfl rfl rfl rfl rfl (ltb rfl) ?_)
    exact rfl
   refine VP.step (p := ?pv429) rfl rfl rfl (⟨_, _, rfl, rfl, ⟨_, _, rfl, rfl, rfl⟩⟩) ?hv429 ?rest429 hck5
   case hv429 =>
    refine ⟨_, rfl, fun hg3 => ?_⟩
    intro E1
    refine (V1.sliceMap (a := (0 : Int)) (b := (IntKind.i64.wrap (i + (1 : Int)))) rfl rfl esz_24 rfl (Bnd.none _ _) (Bnd.some rfl (Int.le_trans (hh3 hg3).1 (hh3 hg3).2.1) _) (hh3 hg3) (ltb rfl) ?_)
    exact rfl
   refine VP.step (p := ?pv430) rfl rfl rfl (⟨_, _, rfl, rfl, rfl⟩) ?hv430 ?rest430 hck5
   case hv430 =>
    refine ⟨_, rfl, fun hg3 => ?_⟩
    intro E1
    refine (V1.fieldRef rfl rfl fo_40_2 rfl (ltb rfl) ?_)
    exact rfl
   refine VP.step (p := ?pv431) rfl rfl rfl (⟨_, _, rfl, rfl, rfl⟩) ?hv431 ?rest431 hck5
   case hv431 =>
    refine ⟨_, rfl, fun hg3 => ?_⟩
    intro E1
    refine (V1.loadRef (k := 0) rfl rfl tyk_3 rfl rfl rfl rfl rfl (ltb rfl) ?_)
    exact rfl
   refine VP.step (p := ?pv432) rfl rfl rfl (⟨_, _, rfl, rfl, rfl⟩) ?hv432 ?rest432 hck5
   case hv432 =>
    refine ⟨_, rfl, fun hg3 => ?_⟩
    intro E1
    refine (V1.fieldRef rfl rfl fo_40_1 rfl (ltb rfl) ?_)
    exact rfl
   refine VP.step (p := ?pv433) rfl rfl rfl (⟨_, _, rfl, rfl, rfl⟩) ?hv433 ?rest433 hck5
   case hv433 =>
    refine ⟨_, rfl, fun hg3 => ?_⟩
    intro E1
    refine (V1.loadRef (k := 0) rfl rfl tyk_3 rfl rfl rfl rfl rfl (ltb rfl) ?_)
    exact rfl
   refine VP.step (p := ?pv434) rfl rfl rfl (⟨_, _, rfl, rfl, ⟨_, _, rfl, rfl, ⟨_, _, rfl, rfl, rfl⟩⟩⟩) ?hv434 ?rest434 hck5
   case hv434 =>
    refine ⟨_, rfl, fun hg3 => ?_⟩
    intro E1
    refine (V1.call rfl rfl rfl cok_85 rfl (ok_spec_l18Taken (cond_f hg3 hh4)) rfl (ltb rfl) ?_)
    rintro _ _ ⟨rfl, rfl⟩
    exact rfl
   refine VP.step (p := ?pv435) rfl rfl rfl (⟨_, _, rfl, rfl, rfl⟩) ?hv435 ?rest435 hck5
   case hv435 =>
    refine ⟨_, rfl, fun hg3 => ?_⟩
    intro E1
    refine (V1.int rfl rfl rfl rfl rfl (ltb rfl) ?_)
    exact rfl
   refine VP.pickOr rfl rfl rfl rfl rfl rfl (trivial) ?_ hck5
   refine VP.fin rfl (⟨_, _, rfl, rfl, ⟨_, _, rfl, rfl, ⟨_, _, rfl, rfl, ⟨_, _, rfl, rfl, rfl⟩⟩⟩⟩) ?_
   refine VO.nil ?_
   refine V.cond rfl (fun hc1 => ?_) (fun hc1 => ?_)
   ·
    replace hm1 := cond_t hc1 hm1
    refine V.seq ?_
    refine V.region ?_
    refine VO.cons rfl (V1.assign rfl rfl rfl (ltb rfl) ?_)
    refine VO.nil ?_
    refine V.ret ?_
    obtain rfl := hr1 _ (Option.some.inj hm1).symm
    change some _ = some _ at hm0
    obtain rfl := Option.some.inj hm0
    exact ⟨_, [], ⟨_, _, rfl, rfl, rfl⟩, List.nil_sublist _, rfl, rfl⟩
   ·
    replace hm1 := cond_f hc1 hm1
    refine V.skip ?_
    refine V.seq ?_
    refine V.region ?_
    refine VO.cons rfl (V1.assign rfl rfl rfl (ltb rfl) ?_)
    refine VO.nil ?_
    replace hm1 := bindO hm1; rcases hm1 with ⟨e1, he2, hm1⟩
    refine V.cutT (D := (Unit) × (Unit)) (fun ⟨_, _⟩ => ⟨70, [(0, .vl ρ0 5 (List.map (encCarton σ0) list)), (3, .int .i64 i)], []⟩) (fun ⟨_, _⟩ => (.inl () = e1)) ?_ ?_
    ·
     refine V.block ?_
     refine V.keep 70 [5, 0, 3, 4] [0] (E0 := [(5, .int .i64 (0 : Int)), (0, .vl ρ0 5 (List.map (encCarton σ0) list)), (3, .int .i64 i), (4, .ref b0 5 0 0)]) (H0 := [(b0, ⟨5, [encCarton σ0 (list.getD (Int.toNat i) default)]⟩)]) rfl (⟨_, _, rfl, rfl, ⟨_, _, rfl, rfl, ⟨_, _, rfl, rfl, ⟨_, _, rfl, rfl, rfl⟩⟩⟩⟩) (⟨_, _, rfl, rfl, rfl⟩) rfl ?_
     refine V.loopE (D := Nat × (Int) × (Unit)) (fun ⟨n1, k, _⟩ => [(5, .int .i64 k)]) (fun ⟨n1, k, _⟩ => []) (fun ⟨n1, k, _⟩ => loopO (M.spec_l18Good_l1 list i) n1 k = some e1) (fun ⟨n1, _, _⟩ => n1) (rounds, (0 : Int), ()) rfl he2 ?_
     rintro ⟨n1, k, _⟩ hP1
     obtain ⟨m1, y3, rfl, hm2, hl2, hr2⟩ := loop_head hP1
     unfold M.spec_l18Good_l1 at hm2; dsimp only at hm2
     show V _ _ _ ⟨70, [(5, .int .i64 k), (0, .vl ρ0 5 (List.map (encCarton σ0) list)), (3, .int .i64 i), (4, .ref b0 5 0 0)], [(b0, ⟨5, [encCarton σ0 (list.getD (Int.toNat i) default)]⟩)]⟩
     refine V.seq ?_
     refine V.seq ?_
     refine V.region ?_
     refine VO.cons rfl (V1.move rfl rfl rfl (ltb rfl) ?_)
     refine VO.cons rfl (V1.fieldRef rfl rfl fo_40_3 rfl (ltb rfl) ?_)
     refine VO.cons rfl (V1.loadRef (k := 0) rfl rfl tyk_38 rfl rfl rfl rfl rfl (ltb rfl) ?_)
     refine VO.cons rfl (V1.lenMap rfl rfl rfl rfl rfl rfl isl_38 (ltb rfl) ?_)
     refine VO.cons rfl (V1.int rfl rfl rfl rfl rfl (ltb rfl) ?_)
     refine VO.nil ?_
     refine V.keep 70 [0, 3, 4, 5, 54] [0] (E0 := [(0, .vl ρ0 5 (List.map (encCarton σ0) list)), (3, .int .i64 i), (4, .ref b0 5 0 0), (5, .int .i64 k), (54, .bool (decide (k < (((list.getD (Int.toNat i) default).Files).length : Int))))]) (H0 := [(b0, ⟨5, [encCarton σ0 (list.getD (Int.toNat i) default)]⟩)]) rfl (⟨_, _, rfl, rfl, ⟨_, _, rfl, rfl, ⟨_, _, rfl, rfl, ⟨_, _, rfl, rfl, ⟨_, _, rfl, rfl, rfl⟩⟩⟩⟩⟩) (⟨_, _, rfl, rfl, rfl⟩) rfl ?_
     refine V.cond rfl (fun hc2 => ?_) (fun hc2 => ?_)
     ·
      replace hm2 := cond_t hc2 hm2
      refine V.skip ?_
      refine V.seq ?_
      refine V.block ?_
      refine V.seq ?_
      replace hm2 := asrt_some hm2; rcases hm2 with ⟨hh5, hm2⟩
      replace hm2 := asrt_some hm2; rcases hm2 with ⟨hh6, hm2⟩
      replace hm2 := bindO hm2; rcases hm2 with ⟨y4, hh7, hm2⟩
      refine V.regionM 70 8 [⟨[(0, none)], [], none⟩, ⟨[(3, none)], [], none⟩, ⟨[(57, some 1), (58, some 0)], [], none⟩, ⟨[(4, none)], [], none⟩, ⟨[(60, some 0)], [], none⟩, ⟨[(5, none)], [], none⟩, ⟨[(61, some 1), (62, some 0)], [], none⟩, ⟨[(63, some 0)], [], none⟩] [(0, none), (3, none), (4, none), (5, none), (59, some 5), (64, some 0)] (⟨_, rfl, ⟨_, rfl, ⟨_, rfl, ⟨_, rfl, ⟨_, rfl, ⟨_, rfl, ⟨_, rfl, ⟨_, rfl, ⟨rfl, rfl⟩⟩⟩⟩⟩⟩⟩⟩⟩) mixed_orders rfl (by decide +kernel) (fun hck10 => ?_)
      refine VP.step (p := ?pv452) rfl rfl rfl (⟨_, _, rfl, rfl, rfl⟩) ?hv452 ?rest452 hck10
      case hv452 =>
       intro E1
       refine (V1.move rfl rfl rfl (ltb rfl) ?_)
       exact rfl
      refine VP.step (p := ?pv453) rfl rfl rfl (⟨_, _, rfl, rfl, rfl⟩) ?hv453 ?rest453 hck10
      case hv453 =>
       intro E1
       refine (V1.move rfl rfl rfl (ltb rfl) ?_)
       exact rfl
      refine VP.step (p := ?pv454) rfl rfl rfl (⟨_, _, rfl, rfl, ⟨_, _, rfl, rfl, rfl⟩⟩) ?hv454 ?rest454 hck10
      case hv454 =>
       intro E1
       refine (V1.sliceMap (a := (0 : Int)) (b := i) rfl rfl esz_24 rfl (Bnd.none _ _) (Bnd.some rfl (Int.le_trans hh5.1 hh5.2.1) _) hh5 (ltb rfl) ?_)
       exact rfl
      refine VP.step (p := ?pv455) rfl rfl rfl (⟨_, _, rfl, rfl, rfl⟩) ?hv455 ?rest455 hck10
      case hv455 =>
       intro E1
       refine (V1.fieldRef rfl rfl fo_40_3 rfl (ltb rfl) ?_)
       exact rfl
      refine VP.step (p := ?pv456) rfl rfl rfl (⟨_, _, rfl, rfl, rfl⟩) ?hv456 ?rest456 hck10
      case hv456 =>
       intro E1
       refine (V1.loadRef (k := 0) rfl rfl tyk_38 rfl rfl rfl rfl rfl (ltb rfl) ?_)
       exact rfl
      refine VP.step (p := ?pv457) rfl rfl rfl (⟨_, _, rfl, rfl, rfl⟩) ?hv457 ?rest457 hck10
      case hv457 =>
       intro E1
       refine (V1.move rfl rfl rfl (ltb rfl) ?_)
       exact rfl
      refine VP.step (p := ?pv458) rfl rfl rfl (⟨_, _, rfl, rfl, ⟨_, _, rfl, rfl, rfl⟩⟩) ?hv458 ?rest458 hck10
      case hv458 =>
       intro E1
       refine (V1.indexI rfl rfl esz_38 rfl rfl hh6 (ltb rfl) ?_)
       exact rfl
      refine VP.step (p := ?pv459) rfl rfl rfl (⟨_, _, rfl, rfl, rfl⟩) ?hv459 ?rest459 hck10
      case hv459 =>
       intro E1
       refine (V1.loadPin rfl rfl tyk_3 rfl rfl (ltb rfl) ?_)
       exact rfl
      refine VP.fin rfl (⟨_, _, rfl, rfl, ⟨_, _, rfl, rfl, ⟨_, _, rfl, rfl, ⟨_, _, rfl, rfl, ⟨_, _, rfl, rfl, ⟨_, _, rfl, rfl, rfl⟩⟩⟩⟩⟩⟩) ?_
      refine VO.cons rfl (V1.call rfl rfl rfl cok_67 rfl (ok_spec_l18Holds hh7) rfl (ltb rfl) ?_)
      rintro _ _ ⟨rfl, rfl⟩
      refine VO.cons rfl (V1.int rfl rfl rfl rfl rfl (ltb rfl) ?_)
      refine VO.nil ?_
      refine V.cond rfl (fun hc3 => ?_) (fun hc3 => ?_)
      ·
       replace hm2 := cond_t hc3 hm2
       refine V.seq ?_
       refine V.region ?_
       refine VO.cons rfl (V1.assign rfl rfl rfl (ltb rfl) ?_)
       refine VO.nil ?_
       refine V.ret ?_
       obtain rfl := hr2 _ (Option.some.inj hm2).symm
       change some _ = some _ at hm1
       obtain rfl := hr1 _ (Option.some.inj hm1).symm
       change some _ = some _ at hm0
       obtain rfl := Option.some.inj hm0
       exact ⟨_, [], ⟨_, _, rfl, rfl, rfl⟩, List.nil_sublist _, rfl, rfl⟩
      ·
       replace hm2 := cond_f hc3 hm2
       refine V.skip ?_
       refine V.keep 70 [0, 3, 4, 5] [0] (E0 := [(0, .vl ρ0 5 (List.map (encCarton σ0) list)), (3, .int .i64 i), (4, .ref b0 5 0 0), (5, .int .i64 k)]) (H0 := [(b0, ⟨5, [encCarton σ0 (list.getD (Int.toNat i) default)]⟩)]) rfl (⟨_, _, rfl, rfl, ⟨_, _, rfl, rfl, ⟨_, _, rfl, rfl, ⟨_, _, rfl, rfl, rfl⟩⟩⟩⟩) (⟨_, _, rfl, rfl, rfl⟩) rfl ?_
       refine V.region ?_
       refine VO.cons rfl (V1.move rfl rfl rfl (ltb rfl) ?_)
       refine VO.cons rfl (V1.int rfl rfl rfl rfl rfl (ltb rfl) ?_)
       refine VO.cons rfl (V1.assign rfl rfl rfl (ltb rfl) ?_)
       refine VO.nil ?_
       exact ⟨(m1, (IntKind.i64.wrap (k + (1 : Int))), ()), hl2 _ (Option.some.inj hm2).symm, Nat.lt_succ_self _, Keeps.mk (ks := [0]) rfl ⟨rfl, rfl, rfl, rfl, trivial⟩ (⟨_, _, rfl, rfl, rfl⟩) rfl⟩
     ·
      replace hm2 := cond_f hc2 hm2
      refine V.exit ?_
      obtain rfl := hr2 _ (Option.some.inj hm2).symm
      exact ⟨((), ()), rfl, Keeps.mk (ks := []) rfl ⟨rfl, rfl, trivial⟩ (rfl) rfl⟩
    ·
     rintro ⟨_, _⟩ rfl
     try dsimp only at hm1
     refine V.region ?_
     refine VO.cons rfl (V1.move rfl rfl rfl (ltb rfl) ?_)
     refine VO.cons rfl (V1.int rfl rfl rfl rfl rfl (ltb rfl) ?_)
     refine VO.cons rfl (V1.assign rfl rfl rfl (ltb rfl) ?_)
     refine VO.nil ?_
     exact ⟨(m0, (IntKind.i64.wrap (i + (1 : Int))), ()), hl1 _ (Option.some.inj hm1).symm, Nat.lt_succ_self _, Keeps.mk (ks := []) rfl ⟨rfl, rfl, trivial⟩ (rfl) rfl⟩
  ·
   replace hm1 := cond_f hc0 hm1
   refine V.exit ?_
   obtain rfl := hr1 _ (Option.some.inj hm1).symm
   exact ⟨((), ()), rfl, Keeps.mk (ks := []) rfl ⟨rfl, trivial⟩ (rfl) rfl⟩
 ·
  rintro ⟨_, _⟩ rfl
  try dsimp only at hm0
  refine V.seq ?_
  refine V.region ?_
  refine VO.cons rfl (V1.move rfl rfl rfl (ltb rfl) ?_)
  refine VO.cons rfl (V1.lenMap rfl rfl rfl rfl rfl rfl isl_24 (ltb rfl) ?_)
  refine VO.cons rfl (V1.int rfl rfl rfl rfl rfl (ltb rfl) ?_)
  refine VO.cons rfl (V1.assign rfl rfl rfl (ltb rfl) ?_)
  refine VO.nil ?_
  refine V.ret ?_
  obtain rfl := Option.some.inj hm0
  exact ⟨_, [], ⟨_, _, rfl, rfl, rfl⟩, List.nil_sublist _, rfl, rfl⟩

theorem ok_spec_l1Cur_one {ρ0 rn bp : Nat} {c : Cur} {n : Int} {r : Bool × Cur} (h : M.spec_l1Cur_one c n = some r) : Does Try.prog 86 [.ref bp 3 0 0, .int .i64 n] [(bp, ⟨3, [encCur ρ0 c]⟩)] rn (fun x H => x = .bool r.1 ∧ H = [(bp, ⟨3, [encCur ρ0 r.2]⟩)]) := by
 have hm0 := h; clear h; unfold M.spec_l1Cur_one at hm0
 try dsimp only at hm0
 refine Does.intro (N := 9) Try.func86 rfl rfl rfl rfl ?_
 intro w0 S0
 refine V.seq ?_
 refine V.region ?_
 refine VO.cons rfl (V1.assign rfl rfl rfl (ltb rfl) ?_)
 refine VO.nil ?_
 refine V.seq ?_
 replace hm0 := bindO hm0; rcases hm0 with ⟨y0, hh0, hm0⟩
 refine V.region ?_
 refine VO.cons rfl (V1.move rfl rfl rfl (ltb rfl) ?_)
 refine VO.cons rfl (V1.move rfl rfl rfl (ltb rfl) ?_)
 refine VO.cons rfl (V1.callM 0 (rn + ρ0 + 1) [] [.ref bp 3 0 0, .int .i64 n] (p := (bp, ⟨3, [encCur ρ0 c]⟩)) rfl rfl rfl cok_78 rfl rfl ⟨_, _, rfl, .same _, ⟨_, _, rfl, .same _, rfl⟩⟩ bwNil (ok_spec_l1Cur_pick hh0) rfl (.inl rfl) (ltb rfl) ?_)
 rintro _ _ ⟨rfl, rfl⟩
 refine VO.cons rfl (V1.int rfl rfl rfl rfl rfl (ltb rfl) ?_)
 refine VO.cons rfl (V1.assign rfl rfl rfl (ltb rfl) ?_)
 refine VO.nil ?_
 refine V.ret ?_
 obtain rfl := Option.some.inj hm0
 exact ⟨_, _, ⟨_, _, rfl, rfl, rfl⟩, (sub1 (k := 0) rfl), rfl, rfl⟩

theorem ok_spec_l1Cur_cartons {ρ0 rn bp : Nat} {c : Cur} {r : List Carton × Cur} (h : M.spec_l1Cur_cartons c = some r) : Does Try.prog 58 [.ref bp 3 0 0] [(bp, ⟨3, [encCur ρ0 c]⟩)] rn (fun x H => ∃ (ob0_ : Nat), x = PV.sref ob0_ 5 0 (List.length r.1) ∧ H = [(ob0_, ⟨5, List.map (encCarton rn) r.1⟩)] ++ [(bp, ⟨3, [encCur ρ0 r.2]⟩)]) := by
 have hm0 := h; clear h; unfold M.spec_l1Cur_cartons at hm0
 try dsimp only at hm0
 refine Does.intro (N := 64) Try.func58 rfl rfl rfl rfl ?_
 intro w0 S0
 refine V.seq ?_
 refine V.region ?_
 refine VO.cons rfl (V1.assign rfl rfl rfl (ltb rfl) ?_)
 refine VO.nil ?_
 refine V.seq ?_
 refine V.region ?_
 refine VO.cons rfl (V1.buildSliceT (f := (encCarton rn)) ([] : List Carton) rfl rfl esz_24 zk_40 rfl rfl rfl rfl rfl rfl rfl (ltb rfl) ?_)
 intro b0
 refine VO.cons rfl (V1.assign rfl rfl rfl (ltb rfl) ?_)
 refine VO.nil ?_
 refine V.seq ?_
 refine V.region ?_
 refine VO.cons rfl (V1.assign rfl rfl rfl (ltb rfl) ?_)
 refine VO.nil ?_
 refine V.seq ?_
 refine V.seq ?_
 replace hm0 := bindO hm0; rcases hm0 with ⟨y0, hh0, hm0⟩
 refine V.region ?_
 refine VO.cons rfl (V1.move rfl rfl rfl (ltb rfl) ?_)
 refine VO.cons rfl (V1.callM 1 (rn + ρ0 + 1) [] [.ref bp 3 0 0, .int .i64 (7 : Int)] (p := (bp, ⟨3, [encCur ρ0 c]⟩)) rfl rfl rfl cok_78 rfl rfl ⟨_, _, rfl, .same _, ⟨_, _, rfl, .same _, rfl⟩⟩ bwNil (ok_spec_l1Cur_pick hh0) rfl (.inl rfl) (ltb rfl) ?_)
 rintro _ _ ⟨rfl, rfl⟩
 refine VO.cons rfl (V1.assign rfl rfl rfl (ltb rfl) ?_)
 refine VO.nil ?_
 refine V.keep 64 [0, 3, 4, 5] [0, 1] (E0 := [(0, .ref bp 3 0 0), (3, .sref b0 5 0 (List.length ([] : List Carton))), (4, .int .i64 (0 : Int)), (5, .int .i64 y0.1)]) (H0 := [(bp, ⟨3, [encCur ρ0 y0.2]⟩), (b0, ⟨5, List.map (encCarton rn) ([] : List Carton)⟩)]) rfl (⟨_, _, rfl, rfl, ⟨_, _, rfl, rfl, ⟨_, _, rfl, rfl, ⟨_, _, rfl, rfl, rfl⟩⟩⟩⟩) (⟨_, _, rfl, rfl, ⟨_, _, rfl, rfl, rfl⟩⟩) rfl ?_
 replace hm0 := bindO hm0; rcases hm0 with ⟨e0, he1, hm0⟩
 refine V.cutT (D := (List Carton × Cur) × (Nat)) (fun ⟨⟨out_, c_⟩, b1⟩ => ⟨64, [(3, .sref b1 5 0 (List.length out_)), (0, .ref bp 3 0 0)], [(b1, ⟨5, List.map (encCarton rn) out_⟩), (bp, ⟨3, [encCur ρ0 c_]⟩)]⟩) (fun ⟨⟨out_, c_⟩, b1⟩ => ((out_, c_) = e0)) ?_ ?_
 ·
  refine V.block ?_
  refine V.keep 64 [3, 4, 5, 0] [1, 0] (E0 := [(3, .sref b0 5 0 (List.length ([] : List Carton))), (4, .int .i64 (0 : Int)), (5, .int .i64 y0.1), (0, .ref bp 3 0 0)]) (H0 := [(b0, ⟨5, List.map (encCarton rn) ([] : List Carton)⟩), (bp, ⟨3, [encCur ρ0 y0.2]⟩)]) rfl (⟨_, _, rfl, rfl, ⟨_, _, rfl, rfl, ⟨_, _, rfl, rfl, ⟨_, _, rfl, rfl, rfl⟩⟩⟩⟩) (⟨_, _, rfl, rfl, ⟨_, _, rfl, rfl, rfl⟩⟩) rfl ?_
  refine V.loopE (D := Nat × (List Carton × Int × Int × Cur) × (Nat)) (fun ⟨n0, ⟨out_0, id_, n_, c_0⟩, b2⟩ => [(3, .sref b2 5 0 (List.length out_0)), (4, .int .i64 id_), (5, .int .i64 n_)]) (fun ⟨n0, ⟨out_0, id_, n_, c_0⟩, b2⟩ => [(b2, ⟨5, List.map (encCarton rn) out_0⟩), (bp, ⟨3, [encCur ρ0 c_0]⟩)]) (fun ⟨n0, ⟨out_0, id_, n_, c_0⟩, b2⟩ => loopO (M.spec_l1Cur_cartons_l0) n0 (out_0, id_, n_, c_0) = some e0) (fun ⟨n0, _, _⟩ => n0) (rounds, (([] : List Carton), (0 : Int), y0.1, y0.2), b0) rfl he1 ?_
  rintro ⟨n0, ⟨out_0, id_, n_, c_0⟩, b2⟩ hP0
  obtain ⟨m0, y1, rfl, hm1, hl1, hr1⟩ := loop_head hP0
  unfold M.spec_l1Cur_cartons_l0 at hm1; dsimp only at hm1
  show V _ _ _ ⟨64, [(3, .sref b2 5 0 (List.length out_0)), (4, .int .i64 id_), (5, .int .i64 n_), (0, .ref bp 3 0 0)], [(b2, ⟨5, List.map (encCarton rn) out_0⟩), (bp, ⟨3, [encCur ρ0 c_0]⟩)]⟩
  refine V.seq ?_
  refine V.seq ?_
  refine V.region ?_
  refine VO.cons rfl (V1.move rfl rfl rfl (ltb rfl) ?_)
  refine VO.cons rfl (V1.int rfl rfl rfl rfl rfl (ltb rfl) ?_)
  refine VO.nil ?_
  refine V.cond rfl (fun hc0 => ?_) (fun hc0 => ?_)
  ·
   replace hm1 := cond_t hc0 hm1
   refine V.skip ?_
   refine V.seq ?_
   replace hm1 := bindO hm1; rcases hm1 with ⟨j0, hm2, hm1⟩
   refine V.cutT (D := (List Carton × Int × Cur) × (Nat)) (fun ⟨⟨out_1, id_0, c_1⟩, b3⟩ => ⟨64, [(3, .sref b3 5 0 (List.length out_1)), (4, .int .i64 id_0), (0, .ref bp 3 0 0), (5, .int .i64 n_)], [(b3, ⟨5, List.map (encCarton rn) out_1⟩), (bp, ⟨3, [encCur ρ0 c_1]⟩)]⟩) (fun ⟨⟨out_1, id_0, c_1⟩, b3⟩ => ((out_1, id_0, c_1) = j0)) ?_ ?_
   ·
    refine V.block ?_
    refine V.seq ?_
    replace hm2 := bindO hm2; rcases hm2 with ⟨y2, hh1, hm2⟩
    refine V.region ?_
    refine VO.cons rfl (V1.move rfl rfl rfl (ltb rfl) ?_)
    refine VO.cons rfl (V1.int rfl rfl rfl rfl rfl (ltb rfl) ?_)
    refine VO.cons rfl (V1.move rfl rfl rfl (ltb rfl) ?_)
    refine VO.cons rfl (V1.callM 1 (rn + ρ0 + 1) [] [.ref bp 3 0 0, .int .i64 (3 : Int)] (p := (bp, ⟨3, [encCur ρ0 c_0]⟩)) rfl rfl rfl cok_78 rfl rfl ⟨_, _, rfl, .same _, ⟨_, _, rfl, .same _, rfl⟩⟩ bwNil (ok_spec_l1Cur_pick hh1) rfl (.inl rfl) (ltb rfl) ?_)
    rintro _ _ ⟨rfl, rfl⟩
    refine VO.cons rfl (V1.int rfl rfl rfl rfl rfl (ltb rfl) ?_)
    refine VO.cons rfl (V1.assign rfl rfl rfl (ltb rfl) ?_)
    refine VO.nil ?_
    refine V.keep 64 [0, 3, 4, 5] [0, 1] (E0 := [(0, .ref bp 3 0 0), (3, .sref b2 5 0 (List.length out_0)), (4, .int .i64 (IntKind.i64.wrap ((IntKind.i64.wrap (id_ + (1 : Int))) + y2.1))), (5, .int .i64 n_)]) (H0 := [(bp, ⟨3, [encCur ρ0 y2.2]⟩), (b2, ⟨5, List.map (encCarton rn) out_0⟩)]) rfl (⟨_, _, rfl, rfl, ⟨_, _, rfl, rfl, ⟨_, _, rfl, rfl, ⟨_, _, rfl, rfl, rfl⟩⟩⟩⟩) (⟨_, _, rfl, rfl, ⟨_, _, rfl, rfl, rfl⟩⟩) rfl ?_
    refine V.seq ?_
    replace hm2 := asrt_some hm2; rcases hm2 with ⟨hh2, hm2⟩
    replace hm2 := bindO hm2; rcases hm2 with ⟨y3, hh3, hm2⟩
    replace hm2 := bindO hm2; rcases hm2 with ⟨y4, hh4, hm2⟩
    replace hm2 := asrt_some hm2; rcases hm2 with ⟨hh5, hm2⟩
    refine V.region ?_
    refine VO.cons rfl (V1.buildSliceT (f := (encCarton rn)) ([] : List Carton) rfl rfl esz_24 zk_40 rfl rfl rfl rfl rfl rfl rfl (ltb rfl) ?_)
    intro b4
    refine VO.cons rfl (V1.move rfl rfl rfl (ltb rfl) ?_)
    refine VO.cons rfl (V1.appendMap (k := 0) (f := (encCarton rn)) (l := ([] : List Carton)) (m := out_0) rfl rfl rfl rfl rfl esz_24 eby_24 zk_40 rfl rfl rfl (SrcOf.srMap (k := 2) rfl isl_24) hh2 (ltb rfl) ?_)
    intro b5
    refine VO.cons rfl (V1.move rfl rfl rfl (ltb rfl) ?_)
    refine VO.cons rfl (V1.move rfl rfl rfl (ltb rfl) ?_)
    refine VO.cons rfl (V1.move rfl rfl rfl (ltb rfl) ?_)
    refine VO.cons rfl (V1.lenSref rfl rfl rfl rfl rfl rfl isl_24 (ltb rfl) ?_)
    refine VO.cons rfl (V1.int rfl rfl rfl rfl rfl (ltb rfl) ?_)
    refine VO.cons rfl (V1.int rfl rfl rfl rfl rfl (ltb rfl) ?_)
    refine VO.cons rfl (V1.move rfl rfl rfl (ltb rfl) ?_)
    refine VO.cons rfl (V1.callM 1 (rn + ρ0 + 1) [] [.ref bp 3 0 0, .int .i64 (60 : Int)] (p := (bp, ⟨3, [encCur ρ0 y2.2]⟩)) rfl rfl rfl cok_78 rfl rfl ⟨_, _, rfl, .same _, ⟨_, _, rfl, .same _, rfl⟩⟩ bwNil (ok_spec_l1Cur_pick hh3) rfl (.inl rfl) (ltb rfl) ?_)
    rintro _ _ ⟨rfl, rfl⟩
    refine VO.cons rfl (V1.quo rfl rfl rfl rfl (by decide) (ltb rfl) ?_)
    refine VO.cons rfl (V1.int rfl rfl rfl rfl rfl (ltb rfl) ?_)
    refine VO.cons rfl (V1.int rfl rfl rfl rfl rfl (ltb rfl) ?_)
    refine VO.cons rfl (V1.callM 0 (rn + ρ0 + 1) [] [.ref bp 3 0 0, .int .i64 (IntKind.i64.wrap ((IntKind.i64.wrap (id_ + (1 : Int))) + y2.1)), .int .i64 (IntKind.i64.wrap ((IntKind.i64.wrap ((IntKind.i64.wrap ((30 : Int) * (out_0.length : Int))) + (1 : Int))) - (IntKind.i64.wrap ((IntKind.i64.wrap (Int.tdiv y3.1 (59 : Int))) * (20 : Int)))))] (p := (bp, ⟨3, [encCur ρ0 y3.2]⟩)) rfl rfl rfl cok_95 rfl rfl ⟨_, _, rfl, .same _, ⟨_, _, rfl, .same _, ⟨_, _, rfl, .same _, rfl⟩⟩⟩ bwNil (ok_spec_l1Cur_carton hh4) rfl (.inl rfl) (ltb rfl) ?_)
    rintro _ _ ⟨rfl, rfl⟩
    refine VO.cons rfl (V1.buildSliceT (f := (encCarton rn)) ([y4.1] : List Carton) rfl rfl esz_24 zk_40 rfl rfl rfl rfl rfl rfl rfl (ltb rfl) ?_)
    intro b6
    refine VO.cons rfl (V1.appendMap (k := 2) (f := (encCarton rn)) (l := (([] : List Carton) ++ out_0)) (m := ([y4.1] : List Carton)) rfl rfl rfl rfl rfl esz_24 eby_24 zk_40 rfl rfl rfl (SrcOf.srMap (k := 0) rfl isl_24) hh5 (ltb rfl) ?_)
    intro b7
    refine VO.cons rfl (V1.assign rfl rfl rfl (ltb rfl) ?_)
    refine VO.nil ?_
    refine V.keep 64 [0, 3, 4, 5, 6] [0, 2, 3] (E0 := [(0, .ref bp 3 0 0), (3, .sref b2 5 0 (List.length out_0)), (4, .int .i64 (IntKind.i64.wrap ((IntKind.i64.wrap (id_ + (1 : Int))) + y2.1))), (5, .int .i64 n_), (6, .sref b7 5 0 (List.length ((([] : List Carton) ++ out_0) ++ ([y4.1] : List Carton))))]) (H0 := [(b7, ⟨5, List.map (encCarton rn) ((([] : List Carton) ++ out_0) ++ ([y4.1] : List Carton))⟩), (bp, ⟨3, [encCur ρ0 y4.2]⟩), (b2, ⟨5, List.map (encCarton rn) out_0⟩)]) rfl (⟨_, _, rfl, rfl, ⟨_, _, rfl, rfl, ⟨_, _, rfl, rfl, ⟨_, _, rfl, rfl, ⟨_, _, rfl, rfl, rfl⟩⟩⟩⟩⟩) (⟨_, _, rfl, rfl, ⟨_, _, rfl, rfl, ⟨_, _, rfl, rfl, rfl⟩⟩⟩) rfl ?_
    refine V.seq ?_
    replace hm2 := bindO hm2; rcases hm2 with ⟨y5, hh6, hm2⟩
    replace hm2 := bindO hm2; rcases hm2 with ⟨y6, hh7, hm2⟩
    refine V.region ?_
    refine VO.cons rfl (V1.move rfl rfl rfl (ltb rfl) ?_)
    refine VO.cons rfl (V1.callL (rn + 1) [b7] [.vl (rn + 1) 5 (List.map (encCarton rn) ((([] : List Carton) ++ out_0) ++ ([y4.1] : List Carton)))] rfl rfl rfl cok_69 rfl ⟨_, _, rfl, Lend.srMap 0 rfl (fun _ => rfl) (.head _), rfl⟩ (bwCons (k := 0) rfl bwNil) (ok_spec_l18Good hh6) rfl (⟨(by first | omega | (dsimp only; omega)), by rintro _ _ ⟨rfl, rfl⟩; exact ⟨rfl, by simp⟩⟩) (ltb rfl) ?_)
    rintro _ _ ⟨rfl, rfl⟩
    refine VO.cons rfl (V1.move rfl rfl rfl (ltb rfl) ?_)
    apply VO.orH (n := 2) [(b7, ⟨5, List.map (encCarton rn) ((([] : List Carton) ++ out_0) ++ ([y4.1] : List Carton))⟩), (bp, ⟨3, [encCur ρ0 (bif y5 then y4.2 else y6.2)]⟩), (b2, ⟨5, List.map (encCarton rn) out_0⟩)] rfl rfl rfl rfl rfl rfl (ltb rfl) (.none rfl) (fun h => by rw [h]; rfl)
    ·
     intro hg0
     refine VO.step (.some rfl rfl rfl) (V1.move rfl rfl rfl (ltb rfl) ?_)
     refine VO.step (.some rfl rfl rfl) (V1.callM 1 (rn + ρ0 + 1) [] [.ref bp 3 0 0, .int .i64 (40 : Int)] (p := (bp, ⟨3, [encCur ρ0 y4.2]⟩)) rfl rfl rfl cok_86 rfl rfl ⟨_, _, rfl, .same _, ⟨_, _, rfl, .same _, rfl⟩⟩ bwNil (ok_spec_l1Cur_one (cond_f hg0 hh7)) rfl (.inl rfl) (ltb rfl) ?_)
     rintro _ _ ⟨rfl, rfl⟩
     refine VO.weakenK (Keeps.setAt (H := [(b7, ⟨5, List.map (encCarton rn) ((([] : List Carton) ++ out_0) ++ ([y4.1] : List Carton))⟩), (bp, ⟨3, [encCur ρ0 y4.2]⟩), (b2, ⟨5, List.map (encCarton rn) out_0⟩)]) 1 (ltb rfl)) ?_
     exact VO.nil ⟨rfl, rfl, rfl, (by rw [hg0]; rfl), .inr ⟨rfl, .inr ⟨rfl, .inr ⟨rfl, .inl rfl⟩⟩⟩⟩
    refine VO.nil ?_
    refine V.cond rfl (fun hc1 => ?_) (fun hc1 => ?_)
    ·
     replace hm2 := cond_t hc1 hm2
     refine V.region ?_
     refine VO.cons rfl (V1.move rfl rfl rfl (ltb rfl) ?_)
     refine VO.cons rfl (V1.assign rfl rfl rfl (ltb rfl) ?_)
     refine VO.nil ?_
     exact ⟨((((([] : List Carton) ++ out_0) ++ ([y4.1] : List Carton)), (IntKind.i64.wrap ((IntKind.i64.wrap (id_ + (1 : Int))) + y2.1)), (bif y5 then y4.2 else y6.2)), b7), Option.some.inj hm2, Keeps.mk (ks := [0, 1]) rfl ⟨rfl, rfl, rfl, rfl, trivial⟩ (⟨_, _, rfl, rfl, ⟨_, _, rfl, rfl, rfl⟩⟩) rfl⟩
    ·
     replace hm2 := cond_f hc1 hm2
     refine V.skip ?_
     exact ⟨((out_0, (IntKind.i64.wrap ((IntKind.i64.wrap (id_ + (1 : Int))) + y2.1)), (bif y5 then y4.2 else y6.2)), b2), Option.some.inj hm2, Keeps.mk (ks := [2, 1]) rfl ⟨rfl, rfl, rfl, rfl, trivial⟩ (⟨_, _, rfl, rfl, ⟨_, _, rfl, rfl, rfl⟩⟩) rfl⟩
   ·
    rintro ⟨⟨out_1, id_0, c_1⟩, b3⟩ rfl
    try dsimp only at hm1
    refine V.region ?_
    refine VO.cons rfl (V1.move rfl rfl rfl (ltb rfl) ?_)
    refine VO.cons rfl (V1.int rfl rfl rfl rfl rfl (ltb rfl) ?_)
    refine VO.cons rfl (V1.assign rfl rfl rfl (ltb rfl) ?_)
    refine VO.nil ?_
    exact ⟨(m0, (out_1, id_0, (IntKind.i64.wrap (n_ - (1 : Int))), c_1), b3), hl1 _ (Option.some.inj hm1).symm, Nat.lt_succ_self _, Keeps.mk (ks := [0, 1]) rfl ⟨rfl, rfl, rfl, rfl, trivial⟩ (⟨_, _, rfl, rfl, ⟨_, _, rfl, rfl, rfl⟩⟩) rfl⟩
  ·
   replace hm1 := cond_f hc0 hm1
   refine V.exit ?_
   obtain rfl := hr1 _ (Option.some.inj hm1).symm
   exact ⟨((out_0, c_0), b2), rfl, Keeps.mk (ks := [0, 1]) rfl ⟨rfl, rfl, trivial⟩ (⟨_, _, rfl, rfl, ⟨_, _, rfl, rfl, rfl⟩⟩) rfl⟩
 ·
  rintro ⟨⟨out_, c_⟩, b1⟩ rfl
  try dsimp only at hm0
  refine V.seq ?_
  refine V.seq ?_
  replace hm0 := bindO hm0; rcases hm0 with ⟨y7, hh8, hm0⟩
  refine V.region ?_
  refine VO.cons rfl (V1.move rfl rfl rfl (ltb rfl) ?_)
  refine VO.cons rfl (V1.callM 1 (rn + ρ0 + 1) [] [.ref bp 3 0 0, .int .i64 (24 : Int)] (p := (bp, ⟨3, [encCur ρ0 c_]⟩)) rfl rfl rfl cok_86 rfl rfl ⟨_, _, rfl, .same _, ⟨_, _, rfl, .same _, rfl⟩⟩ bwNil (ok_spec_l1Cur_one hh8) rfl (.inl rfl) (ltb rfl) ?_)
  rintro _ _ ⟨rfl, rfl⟩
  refine VO.nil ?_
  refine V.cond rfl (fun hc2 => ?_) (fun hc2 => ?_)
  ·
   replace hm0 := cond_t hc2 hm0
   refine V.seq ?_
   refine V.region ?_
   refine VO.cons rfl (V1.buildSliceT (f := (encCarton rn)) ([] : List Carton) rfl rfl esz_24 zk_40 rfl rfl rfl rfl rfl rfl rfl (ltb rfl) ?_)
   intro b8
   refine VO.cons rfl (V1.assign rfl rfl rfl (ltb rfl) ?_)
   refine VO.nil ?_
   refine V.seq ?_
   refine V.region ?_
   refine VO.cons rfl (V1.assign rfl rfl rfl (ltb rfl) ?_)
   refine VO.nil ?_
   replace hm0 := bindO hm0; rcases hm0 with ⟨e1, he1, hm0⟩
   refine V.cutT (D := (List Carton × Cur) × (Nat)) (fun ⟨⟨out_2, c_2⟩, b9⟩ => ⟨64, [(3, .sref b9 5 0 (List.length out_2))], [(b9, ⟨5, List.map (encCarton rn) out_2⟩), (bp, ⟨3, [encCur ρ0 c_2]⟩)]⟩) (fun ⟨⟨out_2, c_2⟩, b9⟩ => ((out_2, c_2) = e1)) ?_ ?_
   ·
    refine V.block ?_
    refine V.keep 64 [3, 7, 0] [0, 1] (E0 := [(3, .sref b8 5 0 (List.length ([] : List Carton))), (7, .int .i64 (0 : Int)), (0, .ref bp 3 0 0)]) (H0 := [(b8, ⟨5, List.map (encCarton rn) ([] : List Carton)⟩), (bp, ⟨3, [encCur ρ0 y7.2]⟩)]) rfl (⟨_, _, rfl, rfl, ⟨_, _, rfl, rfl, ⟨_, _, rfl, rfl, rfl⟩⟩⟩) (⟨_, _, rfl, rfl, ⟨_, _, rfl, rfl, rfl⟩⟩) rfl ?_
    refine V.loopE (D := Nat × (List Carton × Int × Cur) × (Nat)) (fun ⟨n1, ⟨out_3, n_0, c_3⟩, b10⟩ => [(3, .sref b10 5 0 (List.length out_3)), (7, .int .i64 n_0)]) (fun ⟨n1, ⟨out_3, n_0, c_3⟩, b10⟩ => [(b10, ⟨5, List.map (encCarton rn) out_3⟩), (bp, ⟨3, [encCur ρ0 c_3]⟩)]) (fun ⟨n1, ⟨out_3, n_0, c_3⟩, b10⟩ => loopO (M.spec_l1Cur_cartons_l1) n1 (out_3, n_0, c_3) = some e1) (fun ⟨n1, _, _⟩ => n1) (rounds, (([] : List Carton), (0 : Int), y7.2), b8) rfl he1 ?_
    rintro ⟨n1, ⟨out_3, n_0, c_3⟩, b10⟩ hP1
    obtain ⟨m1, y8, rfl, hm1, hl1, hr1⟩ := loop_head hP1
    unfold M.spec_l1Cur_cartons_l1 at hm1; dsimp only at hm1
    show V _ _ _ ⟨64, [(3, .sref b10 5 0 (List.length out_3)), (7, .int .i64 n_0), (0, .ref bp 3 0 0)], [(b10, ⟨5, List.map (encCarton rn) out_3⟩), (bp, ⟨3, [encCur ρ0 c_3]⟩)]⟩
    refine V.seq ?_
    refine V.seq ?_
    replace hm1 := bindO hm1; rcases hm1 with ⟨y9, hh9, hm1⟩
    refine V.region ?_
    refine VO.cons rfl (V1.move rfl rfl rfl (ltb rfl) ?_)
    refine VO.cons rfl (V1.move rfl rfl rfl (ltb rfl) ?_)
    refine VO.cons rfl (V1.callM 1 (rn + ρ0 + 1) [] [.ref bp 3 0 0, .int .i64 (2 : Int)] (p := (bp, ⟨3, [encCur ρ0 c_3]⟩)) rfl rfl rfl cok_78 rfl rfl ⟨_, _, rfl, .same _, ⟨_, _, rfl, .same _, rfl⟩⟩ bwNil (ok_spec_l1Cur_pick hh9) rfl (.inl rfl) (ltb rfl) ?_)
    rintro _ _ ⟨rfl, rfl⟩
    refine VO.cons rfl (V1.int rfl rfl rfl rfl rfl (ltb rfl) ?_)
    refine VO.cons rfl (V1.int rfl rfl rfl rfl rfl (ltb rfl) ?_)
    refine VO.nil ?_
    refine V.keep 64 [0, 3, 7, 51] [0, 1] (E0 := [(0, .ref bp 3 0 0), (3, .sref b10 5 0 (List.length out_3)), (7, .int .i64 n_0), (51, .bool (decide (n_0 < (IntKind.i64.wrap ((10 : Int) + y9.1)))))]) (H0 := [(bp, ⟨3, [encCur ρ0 y9.2]⟩), (b10, ⟨5, List.map (encCarton rn) out_3⟩)]) rfl (⟨_, _, rfl, rfl, ⟨_, _, rfl, rfl, ⟨_, _, rfl, rfl, ⟨_, _, rfl, rfl, rfl⟩⟩⟩⟩) (⟨_, _, rfl, rfl, ⟨_, _, rfl, rfl, rfl⟩⟩) rfl ?_
    refine V.cond rfl (fun hc3 => ?_) (fun hc3 => ?_)
    ·
     replace hm1 := cond_t hc3 hm1
     refine V.skip ?_
     refine V.seq ?_
     refine V.block ?_
     replace hm1 := asrt_some hm1; rcases hm1 with ⟨hh10, hm1⟩
     refine V.region ?_
     refine VO.cons rfl (V1.move rfl rfl rfl (ltb rfl) ?_)
     refine VO.cons rfl (V1.move rfl rfl rfl (ltb rfl) ?_)
     refine VO.cons rfl (V1.int rfl rfl rfl rfl rfl (ltb rfl) ?_)
     refine VO.cons rfl (V1.move rfl rfl rfl (ltb rfl) ?_)
     refine VO.cons rfl (V1.quo rfl rfl rfl rfl (by decide) (ltb rfl) ?_)
     refine VO.cons rfl (V1.int rfl rfl rfl rfl rfl (ltb rfl) ?_)
     refine VO.cons rfl (V1.build rfl rfl zk_40 pl_40 rfl rfl (ltb rfl) ?_)
     refine VO.weakenK (Keeps.le 60 (.agg [.int .i64 (IntKind.i64.wrap (n_0 + (1 : Int))), .int .i64 (IntKind.i64.wrap ((1 : Int) + (IntKind.i64.wrap (Int.tdiv n_0 (3 : Int))))), .int .i64 (1 : Int), .vl rn 1 (List.map encInt ([] : List Int)), .int .i64 (30 : Int)]) rfl (.agg (.cons .same (.cons .same (.cons .same (.cons (.nils (l := ([] : List Int)) (f := encInt) rn 1 rfl rfl) (.cons .same .nil))))))) ?_
     refine VO.cons rfl (V1.buildSliceT (f := (encCarton rn)) ([(⟨(IntKind.i64.wrap (n_0 + (1 : Int))), (IntKind.i64.wrap ((1 : Int) + (IntKind.i64.wrap (Int.tdiv n_0 (3 : Int))))), (1 : Int), ([] : List Int), (30 : Int)⟩ : Carton)] : List Carton) rfl rfl esz_24 zk_40 rfl rfl rfl rfl rfl rfl rfl (ltb rfl) ?_)
     intro b11
     refine VO.cons rfl (V1.appendMap (k := 2) (f := (encCarton rn)) (l := out_3) (m := ([(⟨(IntKind.i64.wrap (n_0 + (1 : Int))), (IntKind.i64.wrap ((1 : Int) + (IntKind.i64.wrap (Int.tdiv n_0 (3 : Int))))), (1 : Int), ([] : List Int), (30 : Int)⟩ : Carton)] : List Carton)) rfl rfl rfl rfl rfl esz_24 eby_24 zk_40 rfl rfl rfl (SrcOf.srMap (k := 0) rfl isl_24) hh10 (ltb rfl) ?_)
     intro b12
     refine VO.cons rfl (V1.assign rfl rfl rfl (ltb rfl) ?_)
     refine VO.nil ?_
     refine V.keep 64 [0, 3, 7] [0, 2] (E0 := [(0, .ref bp 3 0 0), (3, .sref b12 5 0 (List.length (out_3 ++ ([(⟨(IntKind.i64.wrap (n_0 + (1 : Int))), (IntKind.i64.wrap ((1 : Int) + (IntKind.i64.wrap (Int.tdiv n_0 (3 : Int))))), (1 : Int), ([] : List Int), (30 : Int)⟩ : Carton)] : List Carton)))), (7, .int .i64 n_0)]) (H0 := [(b12, ⟨5, List.map (encCarton rn) (out_3 ++ ([(⟨(IntKind.i64.wrap (n_0 + (1 : Int))), (IntKind.i64.wrap ((1 : Int) + (IntKind.i64.wrap (Int.tdiv n_0 (3 : Int))))), (1 : Int), ([] : List Int), (30 : Int)⟩ : Carton)] : List Carton))⟩), (bp, ⟨3, [encCur ρ0 y9.2]⟩)]) rfl (⟨_, _, rfl, rfl, ⟨_, _, rfl, rfl, ⟨_, _, rfl, rfl, rfl⟩⟩⟩) (⟨_, _, rfl, rfl, ⟨_, _, rfl, rfl, rfl⟩⟩) rfl ?_
     refine V.region ?_
     refine VO.cons rfl (V1.move rfl rfl rfl (ltb rfl) ?_)
     refine VO.cons rfl (V1.int rfl rfl rfl rfl rfl (ltb rfl) ?_)
     refine VO.cons rfl (V1.assign rfl rfl rfl (ltb rfl) ?_)
     refine VO.nil ?_
     exact ⟨(m1, ((out_3 ++ ([(⟨(IntKind.i64.wrap (n_0 + (1 : Int))), (IntKind.i64.wrap ((1 : Int) + (IntKind.i64.wrap (Int.tdiv n_0 (3 : Int))))), (1 : Int), ([] : List Int), (30 : Int)⟩ : Carton)] : List Carton)), (IntKind.i64.wrap (n_0 + (1 : Int))), y9.2), b12), hl1 _ (Option.some.inj hm1).symm, Nat.lt_succ_self _, Keeps.mk (ks := [0, 1]) rfl ⟨rfl, rfl, rfl, trivial⟩ (⟨_, _, rfl, rfl, ⟨_, _, rfl, rfl, rfl⟩⟩) rfl⟩
    ·
     replace hm1 := cond_f hc3 hm1
     refine V.exit ?_
     obtain rfl := hr1 _ (Option.some.inj hm1).symm
     exact ⟨((out_3, y9.2), b10), rfl, Keeps.mk (ks := [1, 0]) rfl ⟨rfl, trivial⟩ (⟨_, _, rfl, rfl, ⟨_, _, rfl, rfl, rfl⟩⟩) rfl⟩
   ·
    rintro ⟨⟨out_2, c_2⟩, b9⟩ rfl
    try dsimp only at hm0
    refine V.seq ?_
    refine V.region ?_
    refine VO.cons rfl (V1.move rfl rfl rfl (ltb rfl) ?_)
    refine VO.cons rfl (V1.assign rfl rfl rfl (ltb rfl) ?_)
    refine VO.nil ?_
    refine V.keep 64 [2] [0, 1] (E0 := [(2, .sref b9 5 0 (List.length out_2))]) (H0 := [(b9, ⟨5, List.map (encCarton rn) out_2⟩), (bp, ⟨3, [encCur ρ0 c_2]⟩)]) rfl (⟨_, _, rfl, rfl, rfl⟩) (⟨_, _, rfl, rfl, ⟨_, _, rfl, rfl, rfl⟩⟩) rfl ?_
    refine V.ret ?_
    obtain rfl := Option.some.inj hm0
    exact ⟨_, _, ⟨_, _, rfl, rfl, rfl⟩, List.Sublist.refl _, b9, rfl, rfl⟩
  ·
   replace hm0 := cond_f hc2 hm0
   refine V.skip ?_
   refine V.seq ?_
   refine V.region ?_
   refine VO.cons rfl (V1.move rfl rfl rfl (ltb rfl) ?_)
   refine VO.cons rfl (V1.assign rfl rfl rfl (ltb rfl) ?_)
   refine VO.nil ?_
   refine V.keep 64 [2] [1, 0] (E0 := [(2, .sref b1 5 0 (List.length out_))]) (H0 := [(b1, ⟨5, List.map (encCarton rn) out_⟩), (bp, ⟨3, [encCur ρ0 y7.2]⟩)]) rfl (⟨_, _, rfl, rfl, rfl⟩) (⟨_, _, rfl, rfl, ⟨_, _, rfl, rfl, rfl⟩⟩) rfl ?_
   refine V.ret ?_
   obtain rfl := Option.some.inj hm0
   exact ⟨_, _, ⟨_, _, rfl, rfl, rfl⟩, List.Sublist.refl _, b1, rfl, rfl⟩

theorem ok_spec_DrawBestShelf {ρ0 rn : Nat} {code : List Int} {r : List Carton × Int × Int} (h : M.spec_DrawBestShelf code = some r) : Does Try.prog 22 [.vl ρ0 1 (List.map encU8 code)] [] rn (fun x H => ∃ (ob0_ : Nat), x = .tup [PV.sref ob0_ 5 0 (List.length r.1), .int .i64 r.2.1, .int .i64 r.2.2] ∧ H = [(ob0_, ⟨5, List.map (encCarton rn) r.1⟩)]) := by
 have hm0 := h; clear h; unfold M.spec_DrawBestShelf at hm0
 try dsimp only at hm0
 refine Does.intro (N := 29) Try.func22 rfl rfl rfl rfl ?_
 intro w0 S0
 refine V.seq ?_
 refine V.region ?_
 refine VO.cons rfl (V1.assign rfl rfl rfl (ltb rfl) ?_)
 refine VO.cons rfl (V1.assign rfl rfl rfl (ltb rfl) ?_)
 refine VO.cons rfl (V1.assign rfl rfl rfl (ltb rfl) ?_)
 refine VO.nil ?_
 refine V.seq ?_
 refine V.region ?_
 refine VO.cons rfl (V1.move rfl rfl rfl (ltb rfl) ?_)
 refine VO.cons rfl (V1.build rfl rfl zk_77 pl_77 rfl rfl (ltb rfl) ?_)
 refine VO.cons rfl (V1.boxN (n := 3) rfl rfl rfl rfl rfl (ltb rfl) ?_)
 intro b0
 refine VO.cons rfl (V1.assign rfl rfl rfl (ltb rfl) ?_)
 refine VO.nil ?_
 refine V.keep 29 [5] [0] (E0 := [(5, .ref b0 3 0 0)]) (H0 := [(b0, ⟨3, [.agg [.vl ρ0 1 (List.map encU8 code), .int .i64 (0 : Int), .int .u64 (0 : Int)]]⟩)]) rfl (⟨_, _, rfl, rfl, rfl⟩) (⟨_, _, rfl, rfl, rfl⟩) rfl ?_
 refine V.seq ?_
 replace hm0 := bindO hm0; rcases hm0 with ⟨y0, hh0, hm0⟩
 refine V.region ?_
 refine VO.cons rfl (V1.move rfl rfl rfl (ltb rfl) ?_)
 refine VO.cons rfl (V1.callM 0 (rn + ρ0 + 1) [] [.ref b0 3 0 0] (p := (b0, ⟨3, [.agg [.vl ρ0 1 (List.map encU8 code), .int .i64 (0 : Int), .int .u64 (0 : Int)]]⟩)) rfl rfl rfl cok_58 rfl rfl ⟨_, _, rfl, .same _, rfl⟩ bwNil (ok_spec_l1Cur_cartons hh0) rfl (.inl rfl) (ltb rfl) ?_)
 rintro _ _ ⟨b1, rfl, rfl⟩
 refine VO.cons rfl (V1.assign rfl rfl rfl (ltb rfl) ?_)
 refine VO.nil ?_
 refine V.seq ?_
 replace hm0 := bindO hm0; rcases hm0 with ⟨y1, hh1, hm0⟩
 replace hm0 := asrt_some hm0; rcases hm0 with ⟨hh2, hm0⟩
 replace hm0 := bindO hm0; rcases hm0 with ⟨y2, hh3, hm0⟩
 replace hm0 := bindO hm0; rcases hm0 with ⟨y3, hh4, hm0⟩
 replace hm0 := asrt_some hm0; rcases hm0 with ⟨hh5, hm0⟩
 replace hm0 := bindO hm0; rcases hm0 with ⟨y4, hh6, hm0⟩
 refine V.region ?_
 refine VO.cons rfl (V1.move rfl rfl rfl (ltb rfl) ?_)
 refine VO.cons rfl (V1.move rfl rfl rfl (ltb rfl) ?_)
 refine VO.cons rfl (V1.buildSliceT (f := encInt) ([(1 : Int), (1 : Int), (2 : Int), (9 : Int), (0 : Int), (10 : Int)] : List Int) rfl rfl esz_38 zk_3 rfl rfl rfl rfl rfl rfl rfl (ltb rfl) ?_)
 intro b2
 refine VO.cons rfl (V1.move rfl rfl rfl (ltb rfl) ?_)
 refine VO.cons rfl (V1.callM 2 (rn + ρ0 + 1) [] [.ref b0 3 0 0, .int .i64 (24 : Int)] (p := (b0, ⟨3, [encCur ρ0 y0.2]⟩)) rfl rfl rfl cok_78 rfl rfl ⟨_, _, rfl, .same _, ⟨_, _, rfl, .same _, rfl⟩⟩ bwNil (ok_spec_l1Cur_pick hh1) rfl (.inl rfl) (ltb rfl) ?_)
 rintro _ _ ⟨rfl, rfl⟩
 refine VO.cons rfl (V1.quo rfl rfl rfl rfl (by decide) (ltb rfl) ?_)
 refine VO.cons rfl (V1.int rfl rfl rfl rfl rfl (ltb rfl) ?_)
 refine VO.weakenK (Keeps.freezeG 1 rn [(14, .vl rn 1 (List.map encInt ([(1 : Int), (1 : Int), (2 : Int), (9 : Int), (0 : Int), (10 : Int)] : List Int)))] [(b0, ⟨3, [encCur ρ0 y1.2]⟩), (b1, ⟨5, List.map (encCarton rn) y0.1⟩)] (f := encInt) (l := ([(1 : Int), (1 : Int), (2 : Int), (9 : Int), (0 : Int), (10 : Int)] : List Int)) rfl (fun _ => rfl) ⟨⟨_, rfl, .here⟩, trivial⟩ ⟨_, _, rfl, rfl, .inl rfl, ⟨_, _, rfl, rfl, .inl rfl, rfl⟩⟩ rfl iNil) ?_
 refine VO.cons rfl (V1.sliceMap (a := (0 : Int)) (b := (IntKind.i64.wrap ((4 : Int) + (IntKind.i64.wrap (Int.tdiv y1.1 (11 : Int)))))) rfl rfl esz_38 rfl (Bnd.none _ _) (Bnd.some rfl (Int.le_trans hh2.1 hh2.2.1) _) hh2 (ltb rfl) ?_)
 refine VO.cons rfl (V1.callM 0 (rn + ρ0 + 1) [] [.ref b0 3 0 0, .vl rn 1 (List.map encInt (slc ([(1 : Int), (1 : Int), (2 : Int), (9 : Int), (0 : Int), (10 : Int)] : List Int) (0 : Int) (IntKind.i64.wrap ((4 : Int) + (IntKind.i64.wrap (Int.tdiv y1.1 (11 : Int)))))))] (p := (b0, ⟨3, [encCur ρ0 y1.2]⟩)) rfl rfl rfl cok_77 rfl rfl ⟨_, _, rfl, .same _, ⟨_, _, rfl, .same _, rfl⟩⟩ bwNil (ok_spec_l1Cur_among hh3) rfl (.inl rfl) (ltb rfl) ?_)
 rintro _ _ ⟨rfl, rfl⟩
 refine VO.cons rfl (V1.move rfl rfl rfl (ltb rfl) ?_)
 refine VO.cons rfl (V1.buildSliceT (f := encInt) ([(1 : Int), (10 : Int), (40 : Int), (0 : Int), (41 : Int)] : List Int) rfl rfl esz_38 zk_3 rfl rfl rfl rfl rfl rfl rfl (ltb rfl) ?_)
 intro b3
 refine VO.cons rfl (V1.move rfl rfl rfl (ltb rfl) ?_)
 refine VO.cons rfl (V1.callM 1 (rn + ρ0 + 1) [] [.ref b0 3 0 0, .int .i64 (24 : Int)] (p := (b0, ⟨3, [encCur ρ0 y2.2]⟩)) rfl rfl rfl cok_78 rfl rfl ⟨_, _, rfl, .same _, ⟨_, _, rfl, .same _, rfl⟩⟩ bwNil (ok_spec_l1Cur_pick hh4) rfl (.inl rfl) (ltb rfl) ?_)
 rintro _ _ ⟨rfl, rfl⟩
 refine VO.cons rfl (V1.quo rfl rfl rfl rfl (by decide) (ltb rfl) ?_)
 refine VO.cons rfl (V1.int rfl rfl rfl rfl rfl (ltb rfl) ?_)
 refine VO.weakenK (Keeps.freezeG 1 rn [(22, .vl rn 1 (List.map encInt ([(1 : Int), (10 : Int), (40 : Int), (0 : Int), (41 : Int)] : List Int)))] [(b0, ⟨3, [encCur ρ0 y3.2]⟩), (b1, ⟨5, List.map (encCarton rn) y0.1⟩)] (f := encInt) (l := ([(1 : Int), (10 : Int), (40 : Int), (0 : Int), (41 : Int)] : List Int)) rfl (fun _ => rfl) ⟨⟨_, rfl, .here⟩, trivial⟩ ⟨_, _, rfl, rfl, .inl rfl, ⟨_, _, rfl, rfl, .inl rfl, rfl⟩⟩ rfl iNil) ?_
 refine VO.cons rfl (V1.sliceMap (a := (0 : Int)) (b := (IntKind.i64.wrap ((3 : Int) + (IntKind.i64.wrap (Int.tdiv y3.1 (11 : Int)))))) rfl rfl esz_38 rfl (Bnd.none _ _) (Bnd.some rfl (Int.le_trans hh5.1 hh5.2.1) _) hh5 (ltb rfl) ?_)
 refine VO.cons rfl (V1.callM 0 (rn + ρ0 + 1) [] [.ref b0 3 0 0, .vl rn 1 (List.map encInt (slc ([(1 : Int), (10 : Int), (40 : Int), (0 : Int), (41 : Int)] : List Int) (0 : Int) (IntKind.i64.wrap ((3 : Int) + (IntKind.i64.wrap (Int.tdiv y3.1 (11 : Int)))))))] (p := (b0, ⟨3, [encCur ρ0 y3.2]⟩)) rfl rfl rfl cok_77 rfl rfl ⟨_, _, rfl, .same _, ⟨_, _, rfl, .same _, rfl⟩⟩ bwNil (ok_spec_l1Cur_among hh6) rfl (.inl rfl) (ltb rfl) ?_)
 rintro _ _ ⟨rfl, rfl⟩
 refine VO.cons rfl (V1.assign rfl rfl rfl (ltb rfl) ?_)
 refine VO.cons rfl (V1.assign rfl rfl rfl (ltb rfl) ?_)
 refine VO.cons rfl (V1.assign rfl rfl rfl (ltb rfl) ?_)
 refine VO.nil ?_
 refine V.keep 29 [2, 3, 4] [1] (E0 := [(2, .sref b1 5 0 (List.length y0.1)), (3, .int .i64 y2.1), (4, .int .i64 y4.1)]) (H0 := [(b1, ⟨5, List.map (encCarton rn) y0.1⟩)]) rfl (⟨_, _, rfl, rfl, ⟨_, _, rfl, rfl, ⟨_, _, rfl, rfl, rfl⟩⟩⟩) (⟨_, _, rfl, rfl, rfl⟩) rfl ?_
 refine V.ret ?_
 obtain rfl := Option.some.inj hm0
 exact ⟨_, _, ⟨_, _, rfl, rfl, ⟨_, _, rfl, rfl, ⟨_, _, rfl, rfl, rfl⟩⟩⟩, List.Sublist.refl _, b1, rfl, rfl⟩

theorem ok_impl_within {rn : Nat} {n : Int} {low : Int} {high : Int} {r : Bool} (h : M.impl_within n low high = some r) : Does Try.prog 82 [.int .i64 n, .int .i64 low, .int .i64 high] [] rn (fun x H => x = .bool r ∧ H = []) := by
 have hm0 := h; clear h; unfold M.impl_within at hm0
 try dsimp only at hm0
 refine Does.intro (N := 15) Try.func82 rfl rfl rfl rfl ?_
 intro w0 S0
 refine V.seq ?_
 refine V.region ?_
 refine VO.cons rfl (V1.assign rfl rfl rfl (ltb rfl) ?_)
 refine VO.nil ?_
 refine V.seq ?_
 refine V.region ?_
 refine VO.cons rfl (V1.move rfl rfl rfl (ltb rfl) ?_)
 refine VO.cons rfl (V1.move rfl rfl rfl (ltb rfl) ?_)
 refine VO.cons rfl (V1.int rfl rfl rfl rfl rfl (ltb rfl) ?_)
 refine VO.cons rfl (V1.move rfl rfl rfl (ltb rfl) ?_)
 apply VO.and (n := 3) rfl rfl rfl rfl rfl rfl (ltb rfl) (.none rfl)
 ·
  intro hg0
  refine VO.step (.some rfl rfl rfl) (V1.move rfl rfl rfl (ltb rfl) ?_)
  refine VO.step (.some rfl rfl rfl) (V1.move rfl rfl rfl (ltb rfl) ?_)
  refine VO.step (.some rfl rfl rfl) (V1.int rfl rfl rfl rfl rfl (ltb rfl) ?_)
  exact VO.nil ⟨rfl, rfl, rfl, rfl, .inr ⟨rfl, .inr ⟨rfl, .inr ⟨rfl, .inr ⟨rfl, .inl rfl⟩⟩⟩⟩⟩
 refine VO.cons rfl (V1.assign rfl rfl rfl (ltb rfl) ?_)
 refine VO.nil ?_
 refine V.ret ?_
 obtain rfl := Option.some.inj hm0
 exact ⟨_, [], ⟨_, _, rfl, rfl, rfl⟩, List.nil_sublist _, rfl, rfl⟩

theorem ok_impl_isId {rn : Nat} {id_ : Int} {r : Bool} (h : M.impl_isId id_ = some r) : Does Try.prog 96 [.int .i64 id_] [] rn (fun x H => x = .bool r ∧ H = []) := by
 have hm0 := h; clear h; unfold M.impl_isId at hm0
 try dsimp only at hm0
 refine Does.intro (N := 5) Try.func96 rfl rfl rfl rfl ?_
 intro w0 S0
 refine V.seq ?_
 refine V.region ?_
 refine VO.cons rfl (V1.assign rfl rfl rfl (ltb rfl) ?_)
 refine VO.nil ?_
 refine V.seq ?_
 replace hm0 := bindO hm0; rcases hm0 with ⟨y0, hh0, hm0⟩
 refine V.region ?_
 refine VO.cons rfl (V1.move rfl rfl rfl (ltb rfl) ?_)
 refine VO.cons rfl (V1.call rfl rfl rfl cok_82 rfl (ok_impl_within hh0) rfl (ltb rfl) ?_)
 rintro _ _ ⟨rfl, rfl⟩
 refine VO.cons rfl (V1.assign rfl rfl rfl (ltb rfl) ?_)
 refine VO.nil ?_
 refine V.ret ?_
 obtain rfl := Option.some.inj hm0
 exact ⟨_, [], ⟨_, _, rfl, rfl, rfl⟩, List.nil_sublist _, rfl, rfl⟩

theorem ok_impl_isShelf {rn : Nat} {shelf : Int} {r : Bool} (h : M.impl_isShelf shelf = some r) : Does Try.prog 80 [.int .i64 shelf] [] rn (fun x H => x = .bool r ∧ H = []) := by
 have hm0 := h; clear h; unfold M.impl_isShelf at hm0
 try dsimp only at hm0
 refine Does.intro (N := 5) Try.func80 rfl rfl rfl rfl ?_
 intro w0 S0
 refine V.seq ?_
 refine V.region ?_
 refine VO.cons rfl (V1.assign rfl rfl rfl (ltb rfl) ?_)
 refine VO.nil ?_
 refine V.seq ?_
 replace hm0 := bindO hm0; rcases hm0 with ⟨y0, hh0, hm0⟩
 refine V.region ?_
 refine VO.cons rfl (V1.move rfl rfl rfl (ltb rfl) ?_)
 refine VO.cons rfl (V1.call rfl rfl rfl cok_82 rfl (ok_impl_within hh0) rfl (ltb rfl) ?_)
 rintro _ _ ⟨rfl, rfl⟩
 refine VO.cons rfl (V1.assign rfl rfl rfl (ltb rfl) ?_)
 refine VO.nil ?_
 refine V.ret ?_
 obtain rfl := Option.some.inj hm0
 exact ⟨_, [], ⟨_, _, rfl, rfl, rfl⟩, List.nil_sublist _, rfl, rfl⟩

theorem ok_impl_isRoom {rn : Nat} {room : Int} {r : Bool} (h : M.impl_isRoom room = some r) : Does Try.prog 79 [.int .i64 room] [] rn (fun x H => x = .bool r ∧ H = []) := by
 have hm0 := h; clear h; unfold M.impl_isRoom at hm0
 try dsimp only at hm0
 refine Does.intro (N := 5) Try.func79 rfl rfl rfl rfl ?_
 intro w0 S0
 refine V.seq ?_
 refine V.region ?_
 refine VO.cons rfl (V1.assign rfl rfl rfl (ltb rfl) ?_)
 refine VO.nil ?_
 refine V.seq ?_
 replace hm0 := bindO hm0; rcases hm0 with ⟨y0, hh0, hm0⟩
 refine V.region ?_
 refine VO.cons rfl (V1.move rfl rfl rfl (ltb rfl) ?_)
 refine VO.cons rfl (V1.call rfl rfl rfl cok_82 rfl (ok_impl_within hh0) rfl (ltb rfl) ?_)
 rintro _ _ ⟨rfl, rfl⟩
 refine VO.cons rfl (V1.assign rfl rfl rfl (ltb rfl) ?_)
 refine VO.nil ?_
 refine V.ret ?_
 obtain rfl := Option.some.inj hm0
 exact ⟨_, [], ⟨_, _, rfl, rfl, rfl⟩, List.nil_sublist _, rfl, rfl⟩

theorem ok_impl_areRising {ρ0 rn : Nat} {list : List Int} {r : Bool} (h : M.impl_areRising list = some r) : Does Try.prog 87 [.vl ρ0 1 (List.map encInt list)] [] rn (fun x H => x = .bool r ∧ H = []) := by
 have hm0 := h; clear h; unfold M.impl_areRising at hm0
 try dsimp only at hm0
 refine Does.intro (N := 20) Try.func87 rfl rfl rfl rfl ?_
 intro w0 S0
 refine V.seq ?_
 refine V.region ?_
 refine VO.cons rfl (V1.assign rfl rfl rfl (ltb rfl) ?_)
 refine VO.nil ?_
 refine V.seq ?_
 refine V.seq ?_
 refine V.region ?_
 refine VO.cons rfl (V1.assign rfl rfl rfl (ltb rfl) ?_)
 refine VO.nil ?_
 replace hm0 := bindO hm0; rcases hm0 with ⟨e0, he1, hm0⟩
 refine V.cutT (D := (Unit) × (Unit)) (fun ⟨_, _⟩ => ⟨20, [], []⟩) (fun ⟨_, _⟩ => (.inl () = e0)) ?_ ?_
 ·
  refine V.block ?_
  refine V.keep 20 [3, 0] [] (E0 := [(3, .int .i64 (1 : Int)), (0, .vl ρ0 1 (List.map encInt list))]) (H0 := []) rfl (⟨_, _, rfl, rfl, ⟨_, _, rfl, rfl, rfl⟩⟩) (rfl) rfl ?_
  refine V.loopE (D := Nat × (Int) × (Unit)) (fun ⟨n0, i, _⟩ => [(3, .int .i64 i)]) (fun ⟨n0, i, _⟩ => []) (fun ⟨n0, i, _⟩ => loopO (M.impl_areRising_l0 list) n0 i = some e0) (fun ⟨n0, _, _⟩ => n0) (rounds, (1 : Int), ()) rfl he1 ?_
  rintro ⟨n0, i, _⟩ hP0
  obtain ⟨m0, y0, rfl, hm1, hl1, hr1⟩ := loop_head hP0
  unfold M.impl_areRising_l0 at hm1; dsimp only at hm1
  show V _ _ _ ⟨20, [(3, .int .i64 i), (0, .vl ρ0 1 (List.map encInt list))], []⟩
  refine V.seq ?_
  refine V.seq ?_
  refine V.region ?_
  refine VO.cons rfl (V1.move rfl rfl rfl (ltb rfl) ?_)
  refine VO.cons rfl (V1.move rfl rfl rfl (ltb rfl) ?_)
  refine VO.cons rfl (V1.lenMap rfl rfl rfl rfl rfl rfl isl_38 (ltb rfl) ?_)
  refine VO.cons rfl (V1.int rfl rfl rfl rfl rfl (ltb rfl) ?_)
  refine VO.nil ?_
  refine V.cond rfl (fun hc0 => ?_) (fun hc0 => ?_)
  ·
   replace hm1 := cond_t hc0 hm1
   refine V.skip ?_
   refine V.keep 20 [0, 3] [] (E0 := [(0, .vl ρ0 1 (List.map encInt list)), (3, .int .i64 i)]) (H0 := []) rfl (⟨_, _, rfl, rfl, ⟨_, _, rfl, rfl, rfl⟩⟩) (rfl) rfl ?_
   refine V.seq ?_
   refine V.block ?_
   refine V.seq ?_
   replace hm1 := asrt_some hm1; rcases hm1 with ⟨hh0, hm1⟩
   replace hm1 := asrt_some hm1; rcases hm1 with ⟨hh1, hm1⟩
   refine V.regionM 20 9 [⟨[(0, none)], [], none⟩, ⟨[(3, none)], [], none⟩, ⟨[(11, some 0)], [], none⟩, ⟨[(10, some 2), (12, some 0)], [], none⟩, ⟨[(13, some 0)], [], none⟩, ⟨[(0, none)], [], none⟩, ⟨[(3, none)], [], none⟩, ⟨[(15, some 1), (16, some 0)], [], none⟩, ⟨[(17, some 0)], [], none⟩] [(0, none), (3, none), (14, some 4), (18, some 0)] (⟨_, rfl, ⟨_, rfl, ⟨_, rfl, ⟨_, rfl, ⟨_, rfl, ⟨_, rfl, ⟨_, rfl, ⟨_, rfl, ⟨_, rfl, ⟨rfl, rfl⟩⟩⟩⟩⟩⟩⟩⟩⟩⟩) mixed_orders rfl (by decide +kernel) (fun hck4 => ?_)
   refine VP.step (p := ?pv73) rfl rfl rfl (⟨_, _, rfl, rfl, rfl⟩) ?hv73 ?rest73 hck4
   case hv73 =>
    intro E1
    refine (V1.move rfl rfl rfl (ltb rfl) ?_)
    exact rfl
   refine VP.step (p := ?pv74) rfl rfl rfl (⟨_, _, rfl, rfl, rfl⟩) ?hv74 ?rest74 hck4
   case hv74 =>
    intro E1
    refine (V1.move rfl rfl rfl (ltb rfl) ?_)
    exact rfl
   refine VP.step (p := ?pv75) rfl rfl rfl (⟨_, _, rfl, rfl, rfl⟩) ?hv75 ?rest75 hck4
   case hv75 =>
    intro E1
    refine (V1.int rfl rfl rfl rfl rfl (ltb rfl) ?_)
    exact rfl
   refine VP.step (p := ?pv76) rfl rfl rfl (⟨_, _, rfl, rfl, ⟨_, _, rfl, rfl, rfl⟩⟩) ?hv76 ?rest76 hck4
   case hv76 =>
    intro E1
    refine (V1.indexI rfl rfl esz_38 rfl rfl hh0 (ltb rfl) ?_)
    exact rfl
   refine VP.step (p := ?pv77) rfl rfl rfl (⟨_, _, rfl, rfl, rfl⟩) ?hv77 ?rest77 hck4
   case hv77 =>
    intro E1
    refine (V1.loadPin rfl rfl tyk_3 rfl rfl (ltb rfl) ?_)
    exact rfl
   refine VP.step (p := ?pv78) rfl rfl rfl (⟨_, _, rfl, rfl, rfl⟩) ?hv78 ?rest78 hck4
   case hv78 =>
    intro E1
    refine (V1.move rfl rfl rfl (ltb rfl) ?_)
    exact rfl
   refine VP.step (p := ?pv79) rfl rfl rfl (⟨_, _, rfl, rfl, rfl⟩) ?hv79 ?rest79 hck4
   case hv79 =>
    intro E1
    refine (V1.move rfl rfl rfl (ltb rfl) ?_)
    exact rfl
   refine VP.step (p := ?pv80) rfl rfl rfl (⟨_, _, rfl, rfl, ⟨_, _, rfl, rfl, rfl⟩⟩) ?hv80 ?rest80 hck4
   case hv80 =>
    intro E1
    refine (V1.indexI rfl rfl esz_38 rfl rfl hh1 (ltb rfl) ?_)
    exact rfl
   refine VP.step (p := ?pv81) rfl rfl rfl (⟨_, _, rfl, rfl, rfl⟩) ?hv81 ?rest81 hck4
   case hv81 =>
    intro E1
    refine (V1.loadPin rfl rfl tyk_3 rfl rfl (ltb rfl) ?_)
    exact rfl
   refine VP.fin rfl (⟨_, _, rfl, rfl, ⟨_, _, rfl, rfl, ⟨_, _, rfl, rfl, ⟨_, _, rfl, rfl, rfl⟩⟩⟩⟩) ?_
   refine VO.cons rfl (V1.int rfl rfl rfl rfl rfl (ltb rfl) ?_)
   refine VO.nil ?_
   refine V.cond rfl (fun hc1 => ?_) (fun hc1 => ?_)
   ·
    replace hm1 := cond_t hc1 hm1
    refine V.seq ?_
    refine V.region ?_
    refine VO.cons rfl (V1.assign rfl rfl rfl (ltb rfl) ?_)
    refine VO.nil ?_
    refine V.ret ?_
    obtain rfl := hr1 _ (Option.some.inj hm1).symm
    change some _ = some _ at hm0
    obtain rfl := Option.some.inj hm0
    exact ⟨_, [], ⟨_, _, rfl, rfl, rfl⟩, List.nil_sublist _, rfl, rfl⟩
   ·
    replace hm1 := cond_f hc1 hm1
    refine V.skip ?_
    refine V.region ?_
    refine VO.cons rfl (V1.move rfl rfl rfl (ltb rfl) ?_)
    refine VO.cons rfl (V1.int rfl rfl rfl rfl rfl (ltb rfl) ?_)
    refine VO.cons rfl (V1.assign rfl rfl rfl (ltb rfl) ?_)
    refine VO.nil ?_
    exact ⟨(m0, (IntKind.i64.wrap (i + (1 : Int))), ()), hl1 _ (Option.some.inj hm1).symm, Nat.lt_succ_self _, Keeps.mk (ks := []) rfl ⟨rfl, rfl, trivial⟩ (rfl) rfl⟩
  ·
   replace hm1 := cond_f hc0 hm1
   refine V.exit ?_
   obtain rfl := hr1 _ (Option.some.inj hm1).symm
   exact ⟨((), ()), rfl, Keeps.mk (ks := []) rfl trivial (rfl) rfl⟩
 ·
  rintro ⟨_, _⟩ rfl
  try dsimp only at hm0
  refine V.seq ?_
  refine V.region ?_
  refine VO.cons rfl (V1.assign rfl rfl rfl (ltb rfl) ?_)
  refine VO.nil ?_
  refine V.ret ?_
  obtain rfl := Option.some.inj hm0
  exact ⟨_, [], ⟨_, _, rfl, rfl, rfl⟩, List.nil_sublist _, rfl, rfl⟩

theorem ok_slices_IndexFunc_int_int {ρ0 rn : Nat} {s : List Int} {f1 : Nat} {cs1 : List PV} {r : Int} {fm : Int → Option Bool} (h : M.slices_IndexFunc_int_int s fm = some r) (hok1 : callOK Try.prog f1 = true) (hf1 : ∀ x0 r, fm x0 = some r → Does Try.prog f1 (.int .i64 x0 :: cs1) [] rn (fun x H => x = .bool r ∧ H = [])) : Does Try.prog 118 [.vl ρ0 1 (List.map encInt s), .fn f1 cs1] [] rn (fun x H => x = .int .i64 r ∧ H = []) := by
 have hm0 := h; clear h; unfold M.slices_IndexFunc_int_int at hm0
 try dsimp only at hm0
 refine Does.intro (N := 19) Try.func118 rfl rfl rfl rfl ?_
 intro w0 S0
 refine V.seq ?_
 refine V.region ?_
 refine VO.cons rfl (V1.assign rfl rfl rfl (ltb rfl) ?_)
 refine VO.nil ?_
 refine V.seq ?_
 refine V.seq ?_
 refine V.region ?_
 refine VO.cons rfl (V1.move rfl rfl rfl (ltb rfl) ?_)
 refine VO.cons rfl (V1.lenMap rfl rfl rfl rfl rfl rfl isl_38 (ltb rfl) ?_)
 refine VO.cons rfl (V1.move rfl rfl rfl (ltb rfl) ?_)
 refine VO.nil ?_
 replace hm0 := bindO hm0; rcases hm0 with ⟨e0, he1, hm0⟩
 refine V.cutT (D := (Unit) × (Unit)) (fun ⟨_, _⟩ => ⟨19, [], []⟩) (fun ⟨_, _⟩ => (.inl () = e0)) ?_ ?_
 ·
  refine V.block ?_
  refine V.keep 19 [8, 0, 1, 7] [] (E0 := [(8, .int .i64 (0 : Int)), (0, .vl ρ0 1 (List.map encInt s)), (1, .fn f1 cs1), (7, .int .i64 (s.length : Int))]) (H0 := []) rfl (⟨_, _, rfl, rfl, ⟨_, _, rfl, rfl, ⟨_, _, rfl, rfl, ⟨_, _, rfl, rfl, rfl⟩⟩⟩⟩) (rfl) rfl ?_
  refine V.loopE (D := Nat × (Int) × (Unit)) (fun ⟨n0, v, _⟩ => [(8, .int .i64 v)]) (fun ⟨n0, v, _⟩ => []) (fun ⟨n0, v, _⟩ => loopO (M.slices_IndexFunc_int_int_l0 s fm) n0 v = some e0) (fun ⟨n0, _, _⟩ => n0) (rounds, (0 : Int), ()) rfl he1 ?_
  rintro ⟨n0, v, _⟩ hP0
  obtain ⟨m0, y0, rfl, hm1, hl1, hr1⟩ := loop_head hP0
  unfold M.slices_IndexFunc_int_int_l0 at hm1; dsimp only at hm1
  show V _ _ _ ⟨19, [(8, .int .i64 v), (0, .vl ρ0 1 (List.map encInt s)), (1, .fn f1 cs1), (7, .int .i64 (s.length : Int))], []⟩
  refine V.seq ?_
  refine V.region ?_
  refine VO.cons rfl (V1.int rfl rfl rfl rfl rfl (ltb rfl) ?_)
  refine VO.nil ?_
  refine V.seq ?_
  refine V.cond rfl (fun hc0 => ?_) (fun hc0 => ?_)
  ·
   replace hm1 := cond_t hc0 hm1
   refine V.skip ?_
   refine V.seq ?_
   refine V.block ?_
   refine V.seq ?_
   refine V.region ?_
   refine VO.cons rfl (V1.move rfl rfl rfl (ltb rfl) ?_)
   refine VO.cons rfl (V1.assign rfl rfl rfl (ltb rfl) ?_)
   refine VO.nil ?_
   refine V.seq ?_
   replace hm1 := asrt_some hm1; rcases hm1 with ⟨hh0, hm1⟩
   replace hm1 := bindO hm1; rcases hm1 with ⟨y1, hh1, hm1⟩
   refine V.region ?_
   refine VO.cons rfl (V1.move rfl rfl rfl (ltb rfl) ?_)
   refine VO.cons rfl (V1.move rfl rfl rfl (ltb rfl) ?_)
   refine VO.cons rfl (V1.move rfl rfl rfl (ltb rfl) ?_)
   refine VO.cons rfl (V1.indexI rfl rfl esz_38 rfl rfl hh0 (ltb rfl) ?_)
   refine VO.cons rfl (V1.loadPin rfl rfl tyk_3 rfl rfl (ltb rfl) ?_)
   refine VO.cons rfl (V1.callG (τ := 0) (Bw := []) rfl (ltb rfl) (run_callFn rfl rfl rfl hok1 rfl) (.refl _) (Lends.same _) (fun _ h => by cases h) ((hf1 _  _) hh1) (.inl rfl) (.inl rfl) ?_)
   rintro _ _ ⟨rfl, rfl⟩
   refine VO.nil ?_
   refine V.keep 19 [0, 1, 5, 7, 8, 16] [] (E0 := [(0, .vl ρ0 1 (List.map encInt s)), (1, .fn f1 cs1), (5, .int .i64 v), (7, .int .i64 (s.length : Int)), (8, .int .i64 v), (16, .bool y1)]) (H0 := []) rfl (⟨_, _, rfl, rfl, ⟨_, _, rfl, rfl, ⟨_, _, rfl, rfl, ⟨_, _, rfl, rfl, ⟨_, _, rfl, rfl, ⟨_, _, rfl, rfl, rfl⟩⟩⟩⟩⟩⟩) (rfl) rfl ?_
   refine V.cond rfl (fun hc1 => ?_) (fun hc1 => ?_)
   ·
    replace hm1 := cond_t hc1 hm1
    refine V.seq ?_
    refine V.region ?_
    refine VO.cons rfl (V1.move rfl rfl rfl (ltb rfl) ?_)
    refine VO.cons rfl (V1.assign rfl rfl rfl (ltb rfl) ?_)
    refine VO.nil ?_
    refine V.ret ?_
    obtain rfl := hr1 _ (Option.some.inj hm1).symm
    change some _ = some _ at hm0
    obtain rfl := Option.some.inj hm0
    exact ⟨_, [], ⟨_, _, rfl, rfl, rfl⟩, List.nil_sublist _, rfl, rfl⟩
   ·
    replace hm1 := cond_f hc1 hm1
    refine V.skip ?_
    refine V.region ?_
    refine VO.cons rfl (V1.int rfl rfl rfl rfl rfl (ltb rfl) ?_)
    refine VO.cons rfl (V1.move rfl rfl rfl (ltb rfl) ?_)
    refine VO.nil ?_
    exact ⟨(m0, (IntKind.i64.wrap (v + (1 : Int))), ()), hl1 _ (Option.some.inj hm1).symm, Nat.lt_succ_self _, Keeps.mk (ks := []) rfl ⟨rfl, rfl, rfl, rfl, trivial⟩ (rfl) rfl⟩
  ·
   replace hm1 := cond_f hc0 hm1
   refine V.exit ?_
   obtain rfl := hr1 _ (Option.some.inj hm1).symm
   exact ⟨((), ()), rfl, Keeps.mk (ks := []) rfl trivial (rfl) rfl⟩
 ·
  rintro ⟨_, _⟩ rfl
  try dsimp only at hm0
  refine V.seq ?_
  refine V.region ?_
  refine VO.cons rfl (V1.assign rfl rfl rfl (ltb rfl) ?_)
  refine VO.nil ?_
  refine V.ret ?_
  obtain rfl := Option.some.inj hm0
  exact ⟨_, [], ⟨_, _, rfl, rfl, rfl⟩, List.nil_sublist _, rfl, rfl⟩

theorem ok_slices_ContainsFunc_int_int {ρ0 rn : Nat} {s : List Int} {f1 : Nat} {cs1 : List PV} {r : Bool} {fm : Int → Option Bool} (h : M.slices_ContainsFunc_int_int s fm = some r) (hok1 : callOK Try.prog f1 = true) (hf1 : ∀ x0 r, fm x0 = some r → Does Try.prog f1 (.int .i64 x0 :: cs1) [] rn (fun x H => x = .bool r ∧ H = [])) : Does Try.prog 73 [.vl ρ0 1 (List.map encInt s), .fn f1 cs1] [] rn (fun x H => x = .bool r ∧ H = []) := by
 have hm0 := h; clear h; unfold M.slices_ContainsFunc_int_int at hm0
 try dsimp only at hm0
 refine Does.intro (N := 9) Try.func73 rfl rfl rfl rfl ?_
 intro w0 S0
 refine V.seq ?_
 refine V.region ?_
 refine VO.cons rfl (V1.assign rfl rfl rfl (ltb rfl) ?_)
 refine VO.nil ?_
 refine V.seq ?_
 replace hm0 := bindO hm0; rcases hm0 with ⟨y0, hh0, hm0⟩
 refine V.region ?_
 refine VO.cons rfl (V1.move rfl rfl rfl (ltb rfl) ?_)
 refine VO.cons rfl (V1.move rfl rfl rfl (ltb rfl) ?_)
 refine VO.cons rfl (V1.call rfl rfl rfl cok_118 rfl (ok_slices_IndexFunc_int_int hh0 (fm := fm) hok1 hf1) rfl (ltb rfl) ?_)
 rintro _ _ ⟨rfl, rfl⟩
 refine VO.cons rfl (V1.int rfl rfl rfl rfl rfl (ltb rfl) ?_)
 refine VO.cons rfl (V1.assign rfl rfl rfl (ltb rfl) ?_)
 refine VO.nil ?_
 refine V.ret ?_
 obtain rfl := Option.some.inj hm0
 exact ⟨_, [], ⟨_, _, rfl, rfl, rfl⟩, List.nil_sublist _, rfl, rfl⟩

theorem ok_impl_IsCarton_1 {rn : Nat} {id_ : Int} {r : Bool} (h : M.impl_IsCarton_1 id_ = some r) : Does Try.prog 97 [.int .i64 id_] [] rn (fun x H => x = .bool r ∧ H = []) := by
 have hm0 := h; clear h; unfold M.impl_IsCarton_1 at hm0
 try dsimp only at hm0
 refine Does.intro (N := 6) Try.func97 rfl rfl rfl rfl ?_
 intro w0 S0
 refine V.seq ?_
 refine V.region ?_
 refine VO.cons rfl (V1.assign rfl rfl rfl (ltb rfl) ?_)
 refine VO.nil ?_
 refine V.seq ?_
 replace hm0 := bindO hm0; rcases hm0 with ⟨y0, hh0, hm0⟩
 refine V.region ?_
 refine VO.cons rfl (V1.move rfl rfl rfl (ltb rfl) ?_)
 refine VO.cons rfl (V1.call rfl rfl rfl cok_82 rfl (ok_impl_within hh0) rfl (ltb rfl) ?_)
 rintro _ _ ⟨rfl, rfl⟩
 refine VO.cons rfl (V1.not rfl rfl rfl (ltb rfl) ?_)
 refine VO.cons rfl (V1.assign rfl rfl rfl (ltb rfl) ?_)
 refine VO.nil ?_
 refine V.ret ?_
 obtain rfl := Option.some.inj hm0
 exact ⟨_, [], ⟨_, _, rfl, rfl, rfl⟩, List.nil_sublist _, rfl, rfl⟩

theorem ok_impl_IsCarton {ρ0 rn : Nat} {x : Carton} {r : Bool} (h : M.impl_IsCarton x = some r) : Does Try.prog 39 [encCarton ρ0 x] [] rn (fun x H => x = .bool r ∧ H = []) := by
 have hm0 := h; clear h; unfold M.impl_IsCarton at hm0
 try dsimp only at hm0
 refine Does.intro (N := 38) Try.func39 rfl rfl rfl rfl ?_
 intro w0 S0
 refine V.seq ?_
 refine V.region ?_
 refine VO.cons rfl (V1.boxN (n := 5) rfl rfl rfl rfl rfl (ltb rfl) ?_)
 intro b0
 refine VO.cons rfl (V1.assign rfl rfl rfl (ltb rfl) ?_)
 refine VO.nil ?_
 refine V.seq ?_
 replace hm0 := bindO hm0; rcases hm0 with ⟨y0, hh0, hm0⟩
 replace hm0 := bindO hm0; rcases hm0 with ⟨y1, hh1, hm0⟩
 replace hm0 := bindO hm0; rcases hm0 with ⟨y2, hh2, hm0⟩
 replace hm0 := bindO hm0; rcases hm0 with ⟨y3, hh3, hm0⟩
 replace hm0 := bindO hm0; rcases hm0 with ⟨y4, hh4, hm0⟩
 replace hm0 := bindO hm0; rcases hm0 with ⟨y5, hh5, hm0⟩
 refine V.region ?_
 refine VO.cons rfl (V1.fieldRef rfl rfl fo_40_0 rfl (ltb rfl) ?_)
 refine VO.cons rfl (V1.loadRef (k := 0) rfl rfl tyk_3 rfl rfl rfl rfl rfl (ltb rfl) ?_)
 refine VO.cons rfl (V1.call rfl rfl rfl cok_96 rfl (ok_impl_isId hh0) rfl (ltb rfl) ?_)
 rintro _ _ ⟨rfl, rfl⟩
 refine VO.cons rfl (V1.move rfl rfl rfl (ltb rfl) ?_)
 apply VO.and (n := 3) rfl rfl rfl rfl rfl rfl (ltb rfl) (.none rfl)
 ·
  intro hg0
  refine VO.step (.some rfl rfl rfl) (V1.fieldRef rfl rfl fo_40_1 rfl (ltb rfl) ?_)
  refine VO.step (.some rfl rfl rfl) (V1.loadRef (k := 0) rfl rfl tyk_3 rfl rfl rfl rfl rfl (ltb rfl) ?_)
  refine VO.step (.some rfl rfl rfl) (V1.call rfl rfl rfl cok_80 rfl (ok_impl_isShelf (cond_t hg0 hh1)) rfl (ltb rfl) ?_)
  rintro _ _ ⟨rfl, rfl⟩
  exact VO.nil ⟨rfl, rfl, rfl, rfl, .inr ⟨rfl, .inr ⟨rfl, .inr ⟨rfl, .inr ⟨rfl, .inl rfl⟩⟩⟩⟩⟩
 refine VO.cons rfl (V1.move rfl rfl rfl (ltb rfl) ?_)
 apply VO.and (n := 3) rfl rfl rfl rfl rfl rfl (ltb rfl) (.none rfl)
 ·
  intro hg1
  refine VO.step (.some rfl rfl rfl) (V1.fieldRef rfl rfl fo_40_2 rfl (ltb rfl) ?_)
  refine VO.step (.some rfl rfl rfl) (V1.loadRef (k := 0) rfl rfl tyk_3 rfl rfl rfl rfl rfl (ltb rfl) ?_)
  refine VO.step (.some rfl rfl rfl) (V1.call rfl rfl rfl cok_79 rfl (ok_impl_isRoom (cond_t hg1 hh2)) rfl (ltb rfl) ?_)
  rintro _ _ ⟨rfl, rfl⟩
  exact VO.nil ⟨rfl, rfl, rfl, rfl, .inr ⟨rfl, .inr ⟨rfl, .inr ⟨rfl, .inr ⟨rfl, .inl rfl⟩⟩⟩⟩⟩
 refine VO.cons rfl (V1.move rfl rfl rfl (ltb rfl) ?_)
 apply VO.and (n := 4) rfl rfl rfl rfl rfl rfl (ltb rfl) (.none rfl)
 ·
  intro hg2
  refine VO.step (.some rfl rfl rfl) (V1.fieldRef rfl rfl fo_40_3 rfl (ltb rfl) ?_)
  refine VO.step (.some rfl rfl rfl) (V1.loadRef (k := 0) rfl rfl tyk_38 rfl rfl rfl rfl rfl (ltb rfl) ?_)
  refine VO.step (.some rfl rfl rfl) (V1.lenMap rfl rfl rfl rfl rfl rfl isl_38 (ltb rfl) ?_)
  refine VO.step (.some rfl rfl rfl) (V1.int rfl rfl rfl rfl rfl (ltb rfl) ?_)
  exact VO.nil ⟨rfl, rfl, rfl, rfl, .inr ⟨rfl, .inr ⟨rfl, .inr ⟨rfl, .inr ⟨rfl, .inr ⟨rfl, .inl rfl⟩⟩⟩⟩⟩⟩
 refine VO.cons rfl (V1.move rfl rfl rfl (ltb rfl) ?_)
 apply VO.and (n := 3) rfl rfl rfl rfl rfl rfl (ltb rfl) (.none rfl)
 ·
  intro hg3
  refine VO.step (.some rfl rfl rfl) (V1.fieldRef rfl rfl fo_40_3 rfl (ltb rfl) ?_)
  refine VO.step (.some rfl rfl rfl) (V1.loadRef (k := 0) rfl rfl tyk_38 rfl rfl rfl rfl rfl (ltb rfl) ?_)
  refine VO.step (.some rfl rfl rfl) (V1.call rfl rfl rfl cok_87 rfl (ok_impl_areRising (cond_t hg3 hh3)) rfl (ltb rfl) ?_)
  rintro _ _ ⟨rfl, rfl⟩
  exact VO.nil ⟨rfl, rfl, rfl, rfl, .inr ⟨rfl, .inr ⟨rfl, .inr ⟨rfl, .inr ⟨rfl, .inl rfl⟩⟩⟩⟩⟩
 refine VO.cons rfl (V1.move rfl rfl rfl (ltb rfl) ?_)
 apply VO.and (n := 4) rfl rfl rfl rfl rfl rfl (ltb rfl) (.none rfl)
 ·
  intro hg4
  refine VO.step (.some rfl rfl rfl) (V1.fieldRef rfl rfl fo_40_3 rfl (ltb rfl) ?_)
  refine VO.step (.some rfl rfl rfl) (V1.loadRef (k := 0) rfl rfl tyk_38 rfl rfl rfl rfl rfl (ltb rfl) ?_)
  refine VO.step (.some rfl rfl rfl) (V1.call rfl rfl rfl cok_73 rfl (ok_slices_ContainsFunc_int_int (cond_t hg4 hh4) (fm := (fun x0 => M.impl_IsCarton_1 x0)) cok_97 (fun _ _ h => ok_impl_IsCarton_1 h)) rfl (ltb rfl) ?_)
  rintro _ _ ⟨rfl, rfl⟩
  refine VO.step (.some rfl rfl rfl) (V1.not rfl rfl rfl (ltb rfl) ?_)
  exact VO.nil ⟨rfl, rfl, rfl, rfl, .inr ⟨rfl, .inr ⟨rfl, .inr ⟨rfl, .inr ⟨rfl, .inr ⟨rfl, .inl rfl⟩⟩⟩⟩⟩⟩
 refine VO.cons rfl (V1.move rfl rfl rfl (ltb rfl) ?_)
 apply VO.and (n := 3) rfl rfl rfl rfl rfl rfl (ltb rfl) (.none rfl)
 ·
  intro hg5
  refine VO.step (.some rfl rfl rfl) (V1.fieldRef rfl rfl fo_40_4 rfl (ltb rfl) ?_)
  refine VO.step (.some rfl rfl rfl) (V1.loadRef (k := 0) rfl rfl tyk_3 rfl rfl rfl rfl rfl (ltb rfl) ?_)
  refine VO.step (.some rfl rfl rfl) (V1.call rfl rfl rfl cok_82 rfl (ok_impl_within (cond_t hg5 hh5)) rfl (ltb rfl) ?_)
  rintro _ _ ⟨rfl, rfl⟩
  exact VO.nil ⟨rfl, rfl, rfl, rfl, .inr ⟨rfl, .inr ⟨rfl, .inr ⟨rfl, .inr ⟨rfl, .inl rfl⟩⟩⟩⟩⟩
 refine VO.cons rfl (V1.assign rfl rfl rfl (ltb rfl) ?_)
 refine VO.nil ?_
 refine V.ret ?_
 obtain rfl := Option.some.inj hm0
 exact ⟨_, [], ⟨_, _, rfl, rfl, rfl⟩, List.nil_sublist _, rfl, rfl⟩

theorem ok_slices_Index_int_int {ρ0 rn : Nat} {s : List Int} {v : Int} {r : Int} (h : M.slices_Index_int_int s v = some r) : Does Try.prog 122 [.vl ρ0 1 (List.map encInt s), .int .i64 v] [] rn (fun x H => x = .int .i64 r ∧ H = []) := by
 have hm0 := h; clear h; unfold M.slices_Index_int_int at hm0
 try dsimp only at hm0
 refine Does.intro (N := 19) Try.func122 rfl rfl rfl rfl ?_
 intro w0 S0
 refine V.seq ?_
 refine V.region ?_
 refine VO.cons rfl (V1.assign rfl rfl rfl (ltb rfl) ?_)
 refine VO.nil ?_
 refine V.seq ?_
 refine V.seq ?_
 refine V.region ?_
 refine VO.cons rfl (V1.move rfl rfl rfl (ltb rfl) ?_)
 refine VO.cons rfl (V1.lenMap rfl rfl rfl rfl rfl rfl isl_38 (ltb rfl) ?_)
 refine VO.cons rfl (V1.move rfl rfl rfl (ltb rfl) ?_)
 refine VO.nil ?_
 replace hm0 := bindO hm0; rcases hm0 with ⟨e0, he1, hm0⟩
 refine V.cutT (D := (Unit) × (Unit)) (fun ⟨_, _⟩ => ⟨19, [], []⟩) (fun ⟨_, _⟩ => (.inl () = e0)) ?_ ?_
 ·
  refine V.block ?_
  refine V.keep 19 [8, 0, 1, 7] [] (E0 := [(8, .int .i64 (0 : Int)), (0, .vl ρ0 1 (List.map encInt s)), (1, .int .i64 v), (7, .int .i64 (s.length : Int))]) (H0 := []) rfl (⟨_, _, rfl, rfl, ⟨_, _, rfl, rfl, ⟨_, _, rfl, rfl, ⟨_, _, rfl, rfl, rfl⟩⟩⟩⟩) (rfl) rfl ?_
  refine V.loopE (D := Nat × (Int) × (Unit)) (fun ⟨n0, v0, _⟩ => [(8, .int .i64 v0)]) (fun ⟨n0, v0, _⟩ => []) (fun ⟨n0, v0, _⟩ => loopO (M.slices_Index_int_int_l0 s v) n0 v0 = some e0) (fun ⟨n0, _, _⟩ => n0) (rounds, (0 : Int), ()) rfl he1 ?_
  rintro ⟨n0, v0, _⟩ hP0
  obtain ⟨m0, y0, rfl, hm1, hl1, hr1⟩ := loop_head hP0
  unfold M.slices_Index_int_int_l0 at hm1; dsimp only at hm1
  show V _ _ _ ⟨19, [(8, .int .i64 v0), (0, .vl ρ0 1 (List.map encInt s)), (1, .int .i64 v), (7, .int .i64 (s.length : Int))], []⟩
  refine V.seq ?_
  refine V.region ?_
  refine VO.cons rfl (V1.int rfl rfl rfl rfl rfl (ltb rfl) ?_)
  refine VO.nil ?_
  refine V.seq ?_
  refine V.cond rfl (fun hc0 => ?_) (fun hc0 => ?_)
  ·
   replace hm1 := cond_t hc0 hm1
   refine V.skip ?_
   refine V.seq ?_
   refine V.block ?_
   refine V.seq ?_
   refine V.region ?_
   refine VO.cons rfl (V1.move rfl rfl rfl (ltb rfl) ?_)
   refine VO.cons rfl (V1.assign rfl rfl rfl (ltb rfl) ?_)
   refine VO.nil ?_
   refine V.seq ?_
   replace hm1 := asrt_some hm1; rcases hm1 with ⟨hh0, hm1⟩
   refine V.region ?_
   refine VO.cons rfl (V1.move rfl rfl rfl (ltb rfl) ?_)
   refine VO.cons rfl (V1.move rfl rfl rfl (ltb rfl) ?_)
   refine VO.cons rfl (V1.move rfl rfl rfl (ltb rfl) ?_)
   refine VO.cons rfl (V1.indexI rfl rfl esz_38 rfl rfl hh0 (ltb rfl) ?_)
   refine VO.cons rfl (V1.loadPin rfl rfl tyk_3 rfl rfl (ltb rfl) ?_)
   refine VO.cons rfl (V1.int rfl rfl rfl rfl rfl (ltb rfl) ?_)
   refine VO.nil ?_
   refine V.keep 19 [0, 1, 5, 7, 8, 16] [] (E0 := [(0, .vl ρ0 1 (List.map encInt s)), (1, .int .i64 v), (5, .int .i64 v0), (7, .int .i64 (s.length : Int)), (8, .int .i64 v0), (16, .bool (v == (s.getD (Int.toNat v0) default)))]) (H0 := []) rfl (⟨_, _, rfl, rfl, ⟨_, _, rfl, rfl, ⟨_, _, rfl, rfl, ⟨_, _, rfl, rfl, ⟨_, _, rfl, rfl, ⟨_, _, rfl, rfl, rfl⟩⟩⟩⟩⟩⟩) (rfl) rfl ?_
   refine V.cond rfl (fun hc1 => ?_) (fun hc1 => ?_)
   ·
    replace hm1 := cond_t hc1 hm1
    refine V.seq ?_
    refine V.region ?_
    refine VO.cons rfl (V1.move rfl rfl rfl (ltb rfl) ?_)
    refine VO.cons rfl (V1.assign rfl rfl rfl (ltb rfl) ?_)
    refine VO.nil ?_
    refine V.ret ?_
    obtain rfl := hr1 _ (Option.some.inj hm1).symm
    change some _ = some _ at hm0
    obtain rfl := Option.some.inj hm0
    exact ⟨_, [], ⟨_, _, rfl, rfl, rfl⟩, List.nil_sublist _, rfl, rfl⟩
   ·
    replace hm1 := cond_f hc1 hm1
    refine V.skip ?_
    refine V.region ?_
    refine VO.cons rfl (V1.int rfl rfl rfl rfl rfl (ltb rfl) ?_)
    refine VO.cons rfl (V1.move rfl rfl rfl (ltb rfl) ?_)
    refine VO.nil ?_
    exact ⟨(m0, (IntKind.i64.wrap (v0 + (1 : Int))), ()), hl1 _ (Option.some.inj hm1).symm, Nat.lt_succ_self _, Keeps.mk (ks := []) rfl ⟨rfl, rfl, rfl, rfl, trivial⟩ (rfl) rfl⟩
  ·
   replace hm1 := cond_f hc0 hm1
   refine V.exit ?_
   obtain rfl := hr1 _ (Option.some.inj hm1).symm
   exact ⟨((), ()), rfl, Keeps.mk (ks := []) rfl trivial (rfl) rfl⟩
 ·
  rintro ⟨_, _⟩ rfl
  try dsimp only at hm0
  refine V.seq ?_
  refine V.region ?_
  refine VO.cons rfl (V1.assign rfl rfl rfl (ltb rfl) ?_)
  refine VO.nil ?_
  refine V.ret ?_
  obtain rfl := Option.some.inj hm0
  exact ⟨_, [], ⟨_, _, rfl, rfl, rfl⟩, List.nil_sublist _, rfl, rfl⟩

theorem ok_slices_Contains_int_int {ρ0 rn : Nat} {s : List Int} {v : Int} {r : Bool} (h : M.slices_Contains_int_int s v = some r) : Does Try.prog 75 [.vl ρ0 1 (List.map encInt s), .int .i64 v] [] rn (fun x H => x = .bool r ∧ H = []) := by
 have hm0 := h; clear h; unfold M.slices_Contains_int_int at hm0
 try dsimp only at hm0
 refine Does.intro (N := 9) Try.func75 rfl rfl rfl rfl ?_
 intro w0 S0
 refine V.seq ?_
 refine V.region ?_
 refine VO.cons rfl (V1.assign rfl rfl rfl (ltb rfl) ?_)
 refine VO.nil ?_
 refine V.seq ?_
 replace hm0 := bindO hm0; rcases hm0 with ⟨y0, hh0, hm0⟩
 refine V.region ?_
 refine VO.cons rfl (V1.move rfl rfl rfl (ltb rfl) ?_)
 refine VO.cons rfl (V1.move rfl rfl rfl (ltb rfl) ?_)
 refine VO.cons rfl (V1.call rfl rfl rfl cok_122 rfl (ok_slices_Index_int_int hh0) rfl (ltb rfl) ?_)
 rintro _ _ ⟨rfl, rfl⟩
 refine VO.cons rfl (V1.int rfl rfl rfl rfl rfl (ltb rfl) ?_)
 refine VO.cons rfl (V1.assign rfl rfl rfl (ltb rfl) ?_)
 refine VO.nil ?_
 refine V.ret ?_
 obtain rfl := Option.some.inj hm0
 exact ⟨_, [], ⟨_, _, rfl, rfl, rfl⟩, List.nil_sublist _, rfl, rfl⟩

theorem ok_impl_AreCartons_1 {ρ1 τ1 rn : Nat} {id_ : Int} {y_c : Carton} {r : Bool} (h : M.impl_AreCartons_1 id_ y_c = some r) : Does Try.prog 74 [.int .i64 id_, .pin τ1 (encCarton ρ1 y_c) 0] [] rn (fun x H => x = .bool r ∧ H = []) := by
 have hm0 := h; clear h; unfold M.impl_AreCartons_1 at hm0
 try dsimp only at hm0
 refine Does.intro (N := 8) Try.func74 rfl rfl rfl rfl ?_
 intro w0 S0
 refine V.seq ?_
 refine V.region ?_
 refine VO.cons rfl (V1.assign rfl rfl rfl (ltb rfl) ?_)
 refine VO.nil ?_
 refine V.seq ?_
 replace hm0 := bindO hm0; rcases hm0 with ⟨y0, hh0, hm0⟩
 refine V.region ?_
 refine VO.cons rfl (V1.fieldPin rfl rfl fo_40_3 rfl (ltb rfl) ?_)
 refine VO.cons rfl (V1.loadPin rfl rfl tyk_38 rfl rfl (ltb rfl) ?_)
 refine VO.cons rfl (V1.move rfl rfl rfl (ltb rfl) ?_)
 refine VO.cons rfl (V1.call rfl rfl rfl cok_75 rfl (ok_slices_Contains_int_int hh0) rfl (ltb rfl) ?_)
 rintro _ _ ⟨rfl, rfl⟩
 refine VO.cons rfl (V1.assign rfl rfl rfl (ltb rfl) ?_)
 refine VO.nil ?_
 refine V.ret ?_
 obtain rfl := Option.some.inj hm0
 exact ⟨_, [], ⟨_, _, rfl, rfl, rfl⟩, List.nil_sublist _, rfl, rfl⟩

theorem ok_impl_freeOn {ρ0 σ0 rn : Nat} {list : List Carton} {room : Int} {shelf : Int} {r : Int} (h : M.impl_freeOn list room shelf = some r) : Does Try.prog 76 [.vl ρ0 5 (List.map (encCarton σ0) list), .int .i64 room, .int .i64 shelf] [] rn (fun x H => x = .int .i64 r ∧ H = []) := by
 have hm0 := h; clear h; unfold M.impl_freeOn at hm0
 try dsimp only at hm0
 refine Does.intro (N := 32) Try.func76 rfl rfl rfl rfl ?_
 intro w0 S0
 refine V.seq ?_
 refine V.region ?_
 refine VO.cons rfl (V1.assign rfl rfl rfl (ltb rfl) ?_)
 refine VO.nil ?_
 refine V.seq ?_
 refine V.region ?_
 refine VO.cons rfl (V1.assign rfl rfl rfl (ltb rfl) ?_)
 refine VO.nil ?_
 refine V.seq ?_
 refine V.seq ?_
 refine V.region ?_
 refine VO.cons rfl (V1.move rfl rfl rfl (ltb rfl) ?_)
 refine VO.cons rfl (V1.lenMap rfl rfl rfl rfl rfl rfl isl_24 (ltb rfl) ?_)
 refine VO.cons rfl (V1.move rfl rfl rfl (ltb rfl) ?_)
 refine VO.nil ?_
 replace hm0 := bindO hm0; rcases hm0 with ⟨e0, he1, hm0⟩
 refine V.cutT (D := (Int) × (Unit)) (fun ⟨free, _⟩ => ⟨32, [(7, .int .i64 free)], []⟩) (fun ⟨free, _⟩ => (free = e0)) ?_ ?_
 ·
  refine V.block ?_
  refine V.keep 32 [7, 12, 1, 2, 10, 11] [] (E0 := [(7, .int .i64 (100 : Int)), (12, .int .i64 (0 : Int)), (1, .int .i64 room), (2, .int .i64 shelf), (10, .vl ρ0 5 (List.map (encCarton σ0) list)), (11, .int .i64 (list.length : Int))]) (H0 := []) rfl (⟨_, _, rfl, rfl, ⟨_, _, rfl, rfl, ⟨_, _, rfl, rfl, ⟨_, _, rfl, rfl, ⟨_, _, rfl, rfl, ⟨_, _, rfl, rfl, rfl⟩⟩⟩⟩⟩⟩) (rfl) rfl ?_
  refine V.loopE (D := Nat × (Int × Int) × (Unit)) (fun ⟨n0, ⟨free0, v⟩, _⟩ => [(7, .int .i64 free0), (12, .int .i64 v)]) (fun ⟨n0, ⟨free0, v⟩, _⟩ => []) (fun ⟨n0, ⟨free0, v⟩, _⟩ => loopO (M.impl_freeOn_l0 list room shelf) n0 (free0, v) = some e0) (fun ⟨n0, _, _⟩ => n0) (rounds, ((100 : Int), (0 : Int)), ()) rfl he1 ?_
  rintro ⟨n0, ⟨free0, v⟩, _⟩ hP0
  obtain ⟨m0, y0, rfl, hm1, hl1, hr1⟩ := loop_head hP0
  unfold M.impl_freeOn_l0 at hm1; dsimp only at hm1
  show V _ _ _ ⟨32, [(7, .int .i64 free0), (12, .int .i64 v), (1, .int .i64 room), (2, .int .i64 shelf), (10, .vl ρ0 5 (List.map (encCarton σ0) list)), (11, .int .i64 (list.length : Int))], []⟩
  refine V.seq ?_
  refine V.region ?_
  refine VO.cons rfl (V1.int rfl rfl rfl rfl rfl (ltb rfl) ?_)
  refine VO.nil ?_
  refine V.seq ?_
  refine V.cond rfl (fun hc0 => ?_) (fun hc0 => ?_)
  ·
   replace hm1 := cond_t hc0 hm1
   refine V.skip ?_
   refine V.seq ?_
   replace hm1 := bindO hm1; rcases hm1 with ⟨j0, hm2, hm1⟩
   refine V.cutT (D := (Int) × (Unit)) (fun ⟨free1, _⟩ => ⟨32, [(7, .int .i64 free1), (1, .int .i64 room), (2, .int .i64 shelf), (10, .vl ρ0 5 (List.map (encCarton σ0) list)), (11, .int .i64 (list.length : Int)), (12, .int .i64 v)], []⟩) (fun ⟨free1, _⟩ => (free1 = j0)) ?_ ?_
   ·
    refine V.block ?_
    refine V.seq ?_
    replace hm2 := asrt_some hm2; rcases hm2 with ⟨hh0, hm2⟩
    refine V.region ?_
    refine VO.cons rfl (V1.indexI rfl rfl esz_24 rfl rfl hh0 (ltb rfl) ?_)
    refine VO.cons rfl (V1.loadPinAll rfl rfl tyk_40 rfl rfl (ltb rfl) ?_)
    refine VO.cons rfl (V1.alloc rfl rfl zk_40 (ltb rfl) ?_)
    intro b0
    refine VO.cons rfl (V1.storeRefAll (k := 0) rfl rfl tyk_40 rfl rfl rfl rfl rfl rfl ?_)
    refine VO.nil ?_
    refine V.seq ?_
    refine V.region ?_
    refine VO.cons rfl (V1.fieldRef rfl rfl fo_40_2 rfl (ltb rfl) ?_)
    refine VO.cons rfl (V1.loadRef (k := 0) rfl rfl tyk_3 rfl rfl rfl rfl rfl (ltb rfl) ?_)
    refine VO.cons rfl (V1.move rfl rfl rfl (ltb rfl) ?_)
    refine VO.cons rfl (V1.int rfl rfl rfl rfl rfl (ltb rfl) ?_)
    refine VO.cons rfl (V1.move rfl rfl rfl (ltb rfl) ?_)
    apply VO.and (n := 4) rfl rfl rfl rfl rfl rfl (ltb rfl) (.none rfl)
    ·
     intro hg0
     refine VO.step (.some rfl rfl rfl) (V1.fieldRef rfl rfl fo_40_1 rfl (ltb rfl) ?_)
     refine VO.step (.some rfl rfl rfl) (V1.loadRef (k := 0) rfl rfl tyk_3 rfl rfl rfl rfl rfl (ltb rfl) ?_)
     refine VO.step (.some rfl rfl rfl) (V1.move rfl rfl rfl (ltb rfl) ?_)
     refine VO.step (.some rfl rfl rfl) (V1.int rfl rfl rfl rfl rfl (ltb rfl) ?_)
     exact VO.nil ⟨rfl, rfl, rfl, rfl, .inr ⟨rfl, .inr ⟨rfl, .inr ⟨rfl, .inr ⟨rfl, .inr ⟨rfl, .inl rfl⟩⟩⟩⟩⟩⟩
    refine VO.nil ?_
    refine V.keep 32 [1, 2, 7, 9, 10, 11, 12, 25] [0] (E0 := [(1, .int .i64 room), (2, .int .i64 shelf), (7, .int .i64 free0), (9, .ref b0 5 0 0), (10, .vl ρ0 5 (List.map (encCarton σ0) list)), (11, .int .i64 (list.length : Int)), (12, .int .i64 v), (25, .bool ((((list.getD (Int.toNat v) default).Room) == room) && (((list.getD (Int.toNat v) default).Shelf) == shelf)))]) (H0 := [(b0, ⟨5, [encCarton σ0 (list.getD (Int.toNat v) default)]⟩)]) rfl (⟨_, _, rfl, rfl, ⟨_, _, rfl, rfl, ⟨_, _, rfl, rfl, ⟨_, _, rfl, rfl, ⟨_, _, rfl, rfl, ⟨_, _, rfl, rfl, ⟨_, _, rfl, rfl, ⟨_, _, rfl, rfl, rfl⟩⟩⟩⟩⟩⟩⟩⟩) (⟨_, _, rfl, rfl, rfl⟩) rfl ?_
    refine V.cond rfl (fun hc1 => ?_) (fun hc1 => ?_)
    ·
     replace hm2 := cond_t hc1 hm2
     refine V.region ?_
     refine VO.cons rfl (V1.move rfl rfl rfl (ltb rfl) ?_)
     refine VO.cons rfl (V1.fieldRef rfl rfl fo_40_4 rfl (ltb rfl) ?_)
     refine VO.cons rfl (V1.loadRef (k := 0) rfl rfl tyk_3 rfl rfl rfl rfl rfl (ltb rfl) ?_)
     refine VO.cons rfl (V1.int rfl rfl rfl rfl rfl (ltb rfl) ?_)
     refine VO.cons rfl (V1.assign rfl rfl rfl (ltb rfl) ?_)
     refine VO.nil ?_
     exact ⟨((IntKind.i64.wrap (free0 - ((list.getD (Int.toNat v) default).Thick))), ()), Option.some.inj hm2, Keeps.mk (ks := []) rfl ⟨rfl, rfl, rfl, rfl, rfl, rfl, trivial⟩ (rfl) rfl⟩
    ·
     replace hm2 := cond_f hc1 hm2
     refine V.skip ?_
     exact ⟨(free0, ()), Option.some.inj hm2, Keeps.mk (ks := []) rfl ⟨rfl, rfl, rfl, rfl, rfl, rfl, trivial⟩ (rfl) rfl⟩
   ·
    rintro ⟨free1, _⟩ rfl
    try dsimp only at hm1
    refine V.region ?_
    refine VO.cons rfl (V1.int rfl rfl rfl rfl rfl (ltb rfl) ?_)
    refine VO.cons rfl (V1.move rfl rfl rfl (ltb rfl) ?_)
    refine VO.nil ?_
    exact ⟨(m0, (free1, (IntKind.i64.wrap (v + (1 : Int)))), ()), hl1 _ (Option.some.inj hm1).symm, Nat.lt_succ_self _, Keeps.mk (ks := []) rfl ⟨rfl, rfl, rfl, rfl, rfl, rfl, trivial⟩ (rfl) rfl⟩
  ·
   replace hm1 := cond_f hc0 hm1
   refine V.exit ?_
   obtain rfl := hr1 _ (Option.some.inj hm1).symm
   exact ⟨(free0, ()), rfl, Keeps.mk (ks := []) rfl ⟨rfl, trivial⟩ (rfl) rfl⟩
 ·
  rintro ⟨free, _⟩ rfl
  try dsimp only at hm0
  refine V.seq ?_
  refine V.region ?_
  refine VO.cons rfl (V1.move rfl rfl rfl (ltb rfl) ?_)
  refine VO.cons rfl (V1.assign rfl rfl rfl (ltb rfl) ?_)
  refine VO.nil ?_
  refine V.ret ?_
  obtain rfl := Option.some.inj hm0
  exact ⟨_, [], ⟨_, _, rfl, rfl, rfl⟩, List.nil_sublist _, rfl, rfl⟩
end Go.Proofs.Ythfndefhmmfjaaa
