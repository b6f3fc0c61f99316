/- the functions do what their models say -/
import Derived.Test.YtjbgllhimnopaaaFacts
import Derived.Test.YtjbgllhimnopaaaMrM
set_option linter.unusedSimpArgs false
set_option linter.unusedVariables false
set_option maxRecDepth 100000
set_option maxHeartbeats 4000000
namespace Go.Proofs.Ytjbgllhimnopaaa
open Go.VS

theorem ok_laws_vBig {ρ0 rn : Nat} {code : List Int} {r : Bool} (h : M.laws_vBig code = some r) : Does Try.prog 54 [.vl ρ0 1 (List.map encU8 code)] [] rn (fun x H => x = .bool r ∧ H = []) := by
 have hm0 := h; clear h; unfold M.laws_vBig at hm0
 try dsimp only at hm0
 refine Does.intro (N := 6) Try.func54 rfl rfl rfl rfl ?_
 intro w0 S0
 refine V.seq ?_
 refine V.region ?_
 refine VO.cons rfl (V1.assign rfl rfl rfl (ltb rfl) ?_)
 refine VO.nil ?_
 refine V.seq ?_
 refine V.region ?_
 refine VO.cons rfl (V1.move rfl rfl rfl (ltb rfl) ?_)
 refine VO.cons rfl (V1.lenMap rfl rfl rfl rfl rfl rfl isl_43 (ltb rfl) ?_)
 refine VO.cons rfl (V1.int rfl rfl rfl rfl rfl (ltb rfl) ?_)
 refine VO.cons rfl (V1.assign rfl rfl rfl (ltb rfl) ?_)
 refine VO.nil ?_
 refine V.ret ?_
 obtain rfl := Option.some.inj hm0
 exact ⟨_, [], ⟨_, _, rfl, rfl, rfl⟩, List.nil_sublist _, rfl, rfl⟩

theorem ok_spec_l1Cur_next {ρ0 rn bp : Nat} {c : Cur} {r : Int × Cur} (h : M.spec_l1Cur_next c = some r) : Does Try.prog 226 [.ref bp 3 0 0] [(bp, ⟨3, [encCur ρ0 c]⟩)] rn (fun x H => x = .int .i64 r.1 ∧ H = [(bp, ⟨3, [encCur ρ0 r.2]⟩)]) := by
 have hm0 := h; clear h; unfold M.spec_l1Cur_next at hm0
 try dsimp only at hm0
 refine Does.intro (N := 62) Try.func226 rfl rfl rfl rfl ?_
 intro w0 S0
 refine V.seq ?_
 refine V.region ?_
 refine VO.cons rfl (V1.assign rfl rfl rfl (ltb rfl) ?_)
 refine VO.nil ?_
 refine V.seq ?_
 refine V.region ?_
 refine VO.cons rfl (V1.assign rfl rfl rfl (ltb rfl) ?_)
 refine VO.nil ?_
 refine V.seq ?_
 replace hm0 := bindO hm0; rcases hm0 with ⟨j0, hm1, hm0⟩
 refine V.cutT (D := (Int) × (Unit)) (fun ⟨b_, _⟩ => ⟨62, [(3, .int .i64 b_), (0, .ref bp 3 0 0)], [(bp, ⟨3, [encCur ρ0 c]⟩)]⟩) (fun ⟨b_, _⟩ => (b_ = j0)) ?_ ?_
 ·
  refine V.seq ?_
  refine V.regionM 62 9 [⟨[(0, none)], [], none⟩, ⟨[(4, some 0)], [], none⟩, ⟨[(5, some 0)], [], none⟩, ⟨[(6, some 0)], [], none⟩, ⟨[(0, none)], [], none⟩, ⟨[(8, some 0)], [], none⟩, ⟨[(9, some 0)], [], none⟩, ⟨[(10, some 0)], [], none⟩, ⟨[(11, some 0)], [], none⟩] [(0, none), (3, none), (7, some 5), (12, some 0)] (⟨_, rfl, ⟨_, rfl, ⟨_, rfl, ⟨_, rfl, ⟨_, rfl, ⟨_, rfl, ⟨_, rfl, ⟨_, rfl, ⟨_, rfl, ⟨rfl, rfl⟩⟩⟩⟩⟩⟩⟩⟩⟩⟩) mixed_orders rfl (by decide +kernel) (fun hck2 => ?_)
  refine VP.step (p := ?pv104) rfl rfl rfl (⟨_, _, rfl, rfl, rfl⟩) ?hv104 ?rest104 hck2
  case hv104 =>
   intro E1
   refine (V1.move rfl rfl rfl (ltb rfl) ?_)
   exact rfl
  refine VP.step (p := ?pv105) rfl rfl rfl (⟨_, _, rfl, rfl, rfl⟩) ?hv105 ?rest105 hck2
  case hv105 =>
   intro E1
   refine (V1.nilRef rfl rfl rfl (ltb rfl) ?_)
   exact rfl
  refine VP.step (p := ?pv106) rfl rfl rfl (⟨_, _, rfl, rfl, rfl⟩) ?hv106 ?rest106 hck2
  case hv106 =>
   intro E1
   refine (V1.fieldRef rfl rfl fo_149_1 rfl (ltb rfl) ?_)
   exact rfl
  refine VP.step (p := ?pv107) rfl rfl rfl (⟨_, _, rfl, rfl, rfl⟩) ?hv107 ?rest107 hck2
  case hv107 =>
   intro E1
   refine (V1.loadRef (k := 0) rfl rfl tyk_3 rfl rfl rfl rfl rfl (ltb rfl) ?_)
   exact rfl
  refine VP.step (p := ?pv108) rfl rfl rfl (⟨_, _, rfl, rfl, rfl⟩) ?hv108 ?rest108 hck2
  case hv108 =>
   intro E1
   refine (V1.move rfl rfl rfl (ltb rfl) ?_)
   exact rfl
  refine VP.step (p := ?pv109) rfl rfl rfl (⟨_, _, rfl, rfl, rfl⟩) ?hv109 ?rest109 hck2
  case hv109 =>
   intro E1
   refine (V1.nilRef rfl rfl rfl (ltb rfl) ?_)
   exact rfl
  refine VP.step (p := ?pv110) rfl rfl rfl (⟨_, _, rfl, rfl, rfl⟩) ?hv110 ?rest110 hck2
  case hv110 =>
   intro E1
   refine (V1.fieldRef rfl rfl fo_149_0 rfl (ltb rfl) ?_)
   exact rfl
  refine VP.step (p := ?pv111) rfl rfl rfl (⟨_, _, rfl, rfl, rfl⟩) ?hv111 ?rest111 hck2
  case hv111 =>
   intro E1
   refine (V1.loadRef (k := 0) rfl rfl tyk_43 rfl rfl rfl rfl rfl (ltb rfl) ?_)
   exact rfl
  refine VP.step (p := ?pv112) rfl rfl rfl (⟨_, _, rfl, rfl, rfl⟩) ?hv112 ?rest112 hck2
  case hv112 =>
   intro E1
   refine (V1.lenMap rfl rfl rfl rfl rfl rfl isl_43 (ltb rfl) ?_)
   exact rfl
  refine VP.fin rfl (⟨_, _, rfl, rfl, ⟨_, _, rfl, rfl, ⟨_, _, rfl, rfl, ⟨_, _, rfl, rfl, rfl⟩⟩⟩⟩) ?_
  refine VO.cons rfl (V1.int rfl rfl rfl rfl rfl (ltb rfl) ?_)
  refine VO.nil ?_
  refine V.cond rfl (fun hc0 => ?_) (fun hc0 => ?_)
  ·
   replace hm1 := cond_t hc0 hm1
   replace hm1 := asrt_some hm1; rcases hm1 with ⟨hh0, hm1⟩
   refine V.regionM 62 8 [⟨[(0, none)], [], none⟩, ⟨[(14, some 0)], [], none⟩, ⟨[(15, some 0)], [], none⟩, ⟨[(16, some 0)], [], none⟩, ⟨[(0, none)], [], none⟩, ⟨[(18, some 0)], [], none⟩, ⟨[(19, some 0)], [], none⟩, ⟨[(20, some 0)], [], none⟩] [(0, none), (17, some 4), (21, some 0)] (⟨_, rfl, ⟨_, rfl, ⟨_, rfl, ⟨_, rfl, ⟨_, rfl, ⟨_, rfl, ⟨_, rfl, ⟨_, rfl, ⟨rfl, rfl⟩⟩⟩⟩⟩⟩⟩⟩⟩) mixed_orders rfl (by decide +kernel) (fun hck3 => ?_)
   refine VP.step (p := ?pv113) rfl rfl rfl (⟨_, _, rfl, rfl, rfl⟩) ?hv113 ?rest113 hck3
   case hv113 =>
    intro E1
    refine (V1.move rfl rfl rfl (ltb rfl) ?_)
    exact rfl
   refine VP.step (p := ?pv114) rfl rfl rfl (⟨_, _, rfl, rfl, rfl⟩) ?hv114 ?rest114 hck3
   case hv114 =>
    intro E1
    refine (V1.nilRef rfl rfl rfl (ltb rfl) ?_)
    exact rfl
   refine VP.step (p := ?pv115) rfl rfl rfl (⟨_, _, rfl, rfl, rfl⟩) ?hv115 ?rest115 hck3
   case hv115 =>
    intro E1
    refine (V1.fieldRef rfl rfl fo_149_0 rfl (ltb rfl) ?_)
    exact rfl
   refine VP.step (p := ?pv116) rfl rfl rfl (⟨_, _, rfl, rfl, rfl⟩) ?hv116 ?rest116 hck3
   case hv116 =>
    intro E1
    refine (V1.loadRef (k := 0) rfl rfl tyk_43 rfl rfl rfl rfl rfl (ltb rfl) ?_)
    exact rfl
   refine VP.step (p := ?pv117) rfl rfl rfl (⟨_, _, rfl, rfl, rfl⟩) ?hv117 ?rest117 hck3
   case hv117 =>
    intro E1
    refine (V1.move rfl rfl rfl (ltb rfl) ?_)
    exact rfl
   refine VP.step (p := ?pv118) rfl rfl rfl (⟨_, _, rfl, rfl, rfl⟩) ?hv118 ?rest118 hck3
   case hv118 =>
    intro E1
    refine (V1.nilRef rfl rfl rfl (ltb rfl) ?_)
    exact rfl
   refine VP.step (p := ?pv119) rfl rfl rfl (⟨_, _, rfl, rfl, rfl⟩) ?hv119 ?rest119 hck3
   case hv119 =>
    intro E1
    refine (V1.fieldRef rfl rfl fo_149_1 rfl (ltb rfl) ?_)
    exact rfl
   refine VP.step (p := ?pv120) rfl rfl rfl (⟨_, _, rfl, rfl, rfl⟩) ?hv120 ?rest120 hck3
   case hv120 =>
    intro E1
    refine (V1.loadRef (k := 0) rfl rfl tyk_3 rfl rfl rfl rfl rfl (ltb rfl) ?_)
    exact rfl
   refine VP.fin rfl (⟨_, _, rfl, rfl, ⟨_, _, rfl, rfl, ⟨_, _, rfl, rfl, rfl⟩⟩⟩) ?_
   refine VO.cons rfl (V1.indexI rfl rfl esz_43 rfl rfl hh0 (ltb rfl) ?_)
   refine VO.cons rfl (V1.loadPin rfl rfl tyk_5 rfl rfl (ltb rfl) ?_)
   refine VO.cons rfl (V1.conv rfl rfl und_5 und_3 rfl (ltb rfl) ?_)
   refine VO.cons rfl (V1.assign rfl rfl rfl (ltb rfl) ?_)
   refine VO.nil ?_
   exact ⟨((IntKind.i64.wrap (c.Code.getD (Int.toNat c.At) default)), ()), Option.some.inj hm1, Keeps.mk (ks := [0]) rfl ⟨rfl, rfl, trivial⟩ (⟨_, _, rfl, rfl, rfl⟩) rfl⟩
  ·
   replace hm1 := cond_f hc0 hm1
   refine V.skip ?_
   exact ⟨((0 : Int), ()), Option.some.inj hm1, Keeps.mk (ks := [0]) rfl ⟨rfl, rfl, trivial⟩ (⟨_, _, rfl, rfl, rfl⟩) rfl⟩
 ·
  rintro ⟨b_, _⟩ rfl
  try dsimp only at hm0
  refine V.seq ?_
  refine V.region ?_
  refine VO.cons rfl (V1.move rfl rfl rfl (ltb rfl) ?_)
  refine VO.cons rfl (V1.nilRef rfl rfl rfl (ltb rfl) ?_)
  refine VO.cons rfl (V1.fieldRef rfl rfl fo_149_1 rfl (ltb rfl) ?_)
  refine VO.cons rfl (V1.loadRef (k := 0) rfl rfl tyk_3 rfl rfl rfl rfl rfl (ltb rfl) ?_)
  refine VO.cons rfl (V1.int rfl rfl rfl rfl rfl (ltb rfl) ?_)
  refine VO.cons rfl (V1.nilRef rfl rfl rfl (ltb rfl) ?_)
  refine VO.cons rfl (V1.fieldRef rfl rfl fo_149_1 rfl (ltb rfl) ?_)
  refine VO.cons rfl (V1.storeRef (k := 0) rfl rfl tyk_3 rfl rfl rfl rfl rfl rfl rfl rfl rfl ?_)
  refine VO.nil ?_
  refine V.keep 62 [0, 3] [0] (E0 := [(0, .ref bp 3 0 0), (3, .int .i64 b_)]) (H0 := [(bp, ⟨3, [.agg [.vl ρ0 1 (List.map encU8 c.Code), .int .i64 (IntKind.i64.wrap (c.At + (1 : Int))), .int .u64 c.Seed]]⟩)]) rfl (⟨_, _, rfl, rfl, ⟨_, _, rfl, rfl, rfl⟩⟩) (⟨_, _, rfl, rfl, rfl⟩) rfl ?_
  refine V.seq ?_
  refine V.region ?_
  refine VO.cons rfl (V1.move rfl rfl rfl (ltb rfl) ?_)
  refine VO.cons rfl (V1.move rfl rfl rfl (ltb rfl) ?_)
  refine VO.cons rfl (V1.nilRef rfl rfl rfl (ltb rfl) ?_)
  refine VO.cons rfl (V1.fieldRef rfl rfl fo_149_2 rfl (ltb rfl) ?_)
  refine VO.cons rfl (V1.loadRef (k := 0) rfl rfl tyk_147 rfl rfl rfl rfl rfl (ltb rfl) ?_)
  refine VO.cons rfl (V1.int rfl rfl rfl rfl rfl (ltb rfl) ?_)
  refine VO.cons rfl (V1.move rfl rfl rfl (ltb rfl) ?_)
  refine VO.cons rfl (V1.conv rfl rfl und_3 und_147 rfl (ltb rfl) ?_)
  refine VO.cons rfl (V1.int rfl rfl rfl rfl rfl (ltb rfl) ?_)
  refine VO.cons rfl (V1.int rfl rfl rfl rfl rfl (ltb rfl) ?_)
  refine VO.cons rfl (V1.nilRef rfl rfl rfl (ltb rfl) ?_)
  refine VO.cons rfl (V1.fieldRef rfl rfl fo_149_2 rfl (ltb rfl) ?_)
  refine VO.cons rfl (V1.storeRef (k := 0) rfl rfl tyk_147 rfl rfl rfl rfl rfl rfl rfl rfl rfl ?_)
  refine VO.nil ?_
  refine V.keep 62 [0, 3] [0] (E0 := [(0, .ref bp 3 0 0), (3, .int .i64 b_)]) (H0 := [(bp, ⟨3, [.agg [.vl ρ0 1 (List.map encU8 c.Code), .int .i64 (IntKind.i64.wrap (c.At + (1 : Int))), .int .u64 (IntKind.u64.wrap ((IntKind.u64.wrap ((IntKind.u64.wrap (c.Seed * (6364136223846793005 : Int))) + (IntKind.u64.wrap b_))) + (103535 : Int)))]]⟩)]) rfl (⟨_, _, rfl, rfl, ⟨_, _, rfl, rfl, rfl⟩⟩) (⟨_, _, rfl, rfl, rfl⟩) rfl ?_
  refine V.seq ?_
  refine V.seq ?_
  refine V.regionM 62 9 [⟨[(0, none)], [], none⟩, ⟨[(44, some 0)], [], none⟩, ⟨[(45, some 0)], [], none⟩, ⟨[(46, some 0)], [], none⟩, ⟨[(0, none)], [], none⟩, ⟨[(48, some 0)], [], none⟩, ⟨[(49, some 0)], [], none⟩, ⟨[(50, some 0)], [], none⟩, ⟨[(51, some 0)], [], none⟩] [(0, none), (3, none), (47, some 5), (52, some 0)] (⟨_, rfl, ⟨_, rfl, ⟨_, rfl, ⟨_, rfl, ⟨_, rfl, ⟨_, rfl, ⟨_, rfl, ⟨_, rfl, ⟨_, rfl, ⟨rfl, rfl⟩⟩⟩⟩⟩⟩⟩⟩⟩⟩) mixed_orders rfl (by decide +kernel) (fun hck6 => ?_)
  refine VP.step (p := ?pv121) rfl rfl rfl (⟨_, _, rfl, rfl, rfl⟩) ?hv121 ?rest121 hck6
  case hv121 =>
   intro E1
   refine (V1.move rfl rfl rfl (ltb rfl) ?_)
   exact rfl
  refine VP.step (p := ?pv122) rfl rfl rfl (⟨_, _, rfl, rfl, rfl⟩) ?hv122 ?rest122 hck6
  case hv122 =>
   intro E1
   refine (V1.nilRef rfl rfl rfl (ltb rfl) ?_)
   exact rfl
  refine VP.step (p := ?pv123) rfl rfl rfl (⟨_, _, rfl, rfl, rfl⟩) ?hv123 ?rest123 hck6
  case hv123 =>
   intro E1
   refine (V1.fieldRef rfl rfl fo_149_1 rfl (ltb rfl) ?_)
   exact rfl
  refine VP.step (p := ?pv124) rfl rfl rfl (⟨_, _, rfl, rfl, rfl⟩) ?hv124 ?rest124 hck6
  case hv124 =>
   intro E1
   refine (V1.loadRef (k := 0) rfl rfl tyk_3 rfl rfl rfl rfl rfl (ltb rfl) ?_)
   exact rfl
  refine VP.step (p := ?pv125) rfl rfl rfl (⟨_, _, rfl, rfl, rfl⟩) ?hv125 ?rest125 hck6
  case hv125 =>
   intro E1
   refine (V1.move rfl rfl rfl (ltb rfl) ?_)
   exact rfl
  refine VP.step (p := ?pv126) rfl rfl rfl (⟨_, _, rfl, rfl, rfl⟩) ?hv126 ?rest126 hck6
  case hv126 =>
   intro E1
   refine (V1.nilRef rfl rfl rfl (ltb rfl) ?_)
   exact rfl
  refine VP.step (p := ?pv127) rfl rfl rfl (⟨_, _, rfl, rfl, rfl⟩) ?hv127 ?rest127 hck6
  case hv127 =>
   intro E1
   refine (V1.fieldRef rfl rfl fo_149_0 rfl (ltb rfl) ?_)
   exact rfl
  refine VP.step (p := ?pv128) rfl rfl rfl (⟨_, _, rfl, rfl, rfl⟩) ?hv128 ?rest128 hck6
  case hv128 =>
   intro E1
   refine (V1.loadRef (k := 0) rfl rfl tyk_43 rfl rfl rfl rfl rfl (ltb rfl) ?_)
   exact rfl
  refine VP.step (p := ?pv129) rfl rfl rfl (⟨_, _, rfl, rfl, rfl⟩) ?hv129 ?rest129 hck6
  case hv129 =>
   intro E1
   refine (V1.lenMap rfl rfl rfl rfl rfl rfl isl_43 (ltb rfl) ?_)
   exact rfl
  refine VP.fin rfl (⟨_, _, rfl, rfl, ⟨_, _, rfl, rfl, ⟨_, _, rfl, rfl, ⟨_, _, rfl, rfl, rfl⟩⟩⟩⟩) ?_
  refine VO.cons rfl (V1.int rfl rfl rfl rfl rfl (ltb rfl) ?_)
  refine VO.nil ?_
  refine V.cond rfl (fun hc1 => ?_) (fun hc1 => ?_)
  ·
   replace hm0 := cond_t hc1 hm0
   refine V.seq ?_
   refine V.region ?_
   refine VO.cons rfl (V1.move rfl rfl rfl (ltb rfl) ?_)
   refine VO.cons rfl (V1.assign rfl rfl rfl (ltb rfl) ?_)
   refine VO.nil ?_
   refine V.ret ?_
   obtain rfl := Option.some.inj hm0
   exact ⟨_, _, ⟨_, _, rfl, rfl, rfl⟩, (sub1 (k := 0) rfl), rfl, rfl⟩
  ·
   replace hm0 := cond_f hc1 hm0
   refine V.skip ?_
   refine V.keep 62 [0] [0] (E0 := [(0, .ref bp 3 0 0)]) (H0 := [(bp, ⟨3, [.agg [.vl ρ0 1 (List.map encU8 c.Code), .int .i64 (IntKind.i64.wrap (c.At + (1 : Int))), .int .u64 (IntKind.u64.wrap ((IntKind.u64.wrap ((IntKind.u64.wrap (c.Seed * (6364136223846793005 : Int))) + (IntKind.u64.wrap b_))) + (103535 : Int)))]]⟩)]) rfl (⟨_, _, rfl, rfl, rfl⟩) (⟨_, _, rfl, rfl, rfl⟩) rfl ?_
   refine V.seq ?_
   refine V.region ?_
   refine VO.cons rfl (V1.move rfl rfl rfl (ltb rfl) ?_)
   refine VO.cons rfl (V1.nilRef rfl rfl rfl (ltb rfl) ?_)
   refine VO.cons rfl (V1.fieldRef rfl rfl fo_149_2 rfl (ltb rfl) ?_)
   refine VO.cons rfl (V1.loadRef (k := 0) rfl rfl tyk_147 rfl rfl rfl rfl rfl (ltb rfl) ?_)
   refine VO.cons rfl (V1.shr rfl rfl rfl rfl (by decide) (ltb rfl) ?_)
   refine VO.cons rfl (V1.int rfl rfl rfl rfl rfl (ltb rfl) ?_)
   refine VO.cons rfl (V1.conv rfl rfl und_147 und_3 rfl (ltb rfl) ?_)
   refine VO.cons rfl (V1.assign rfl rfl rfl (ltb rfl) ?_)
   refine VO.nil ?_
   refine V.ret ?_
   obtain rfl := Option.some.inj hm0
   exact ⟨_, _, ⟨_, _, rfl, rfl, rfl⟩, (sub1 (k := 0) rfl), rfl, rfl⟩

theorem ok_spec_l1Cur_pick {ρ0 rn bp : Nat} {c : Cur} {n : Int} {r : Int × Cur} (h : M.spec_l1Cur_pick c n = some r) : Does Try.prog 152 [.ref bp 3 0 0, .int .i64 n] [(bp, ⟨3, [encCur ρ0 c]⟩)] rn (fun x H => x = .int .i64 r.1 ∧ H = [(bp, ⟨3, [encCur ρ0 r.2]⟩)]) := by
 have hm0 := h; clear h; unfold M.spec_l1Cur_pick at hm0
 try dsimp only at hm0
 refine Does.intro (N := 20) Try.func152 rfl rfl rfl rfl ?_
 intro w0 S0
 refine V.seq ?_
 refine V.region ?_
 refine VO.cons rfl (V1.assign rfl rfl rfl (ltb rfl) ?_)
 refine VO.nil ?_
 refine V.seq ?_
 refine V.seq ?_
 refine V.region ?_
 refine VO.cons rfl (V1.move rfl rfl rfl (ltb rfl) ?_)
 refine VO.cons rfl (V1.int rfl rfl rfl rfl rfl (ltb rfl) ?_)
 refine VO.nil ?_
 refine V.cond rfl (fun hc0 => ?_) (fun hc0 => ?_)
 ·
  replace hm0 := cond_t hc0 hm0
  refine V.seq ?_
  refine V.region ?_
  refine VO.cons rfl (V1.assign rfl rfl rfl (ltb rfl) ?_)
  refine VO.nil ?_
  refine V.ret ?_
  obtain rfl := Option.some.inj hm0
  exact ⟨_, _, ⟨_, _, rfl, rfl, rfl⟩, (sub1 (k := 0) rfl), rfl, rfl⟩
 ·
  replace hm0 := cond_f hc0 hm0
  refine V.skip ?_
  refine V.seq ?_
  replace hm0 := bindO hm0; rcases hm0 with ⟨y0, hh0, hm0⟩
  refine V.region ?_
  refine VO.cons rfl (V1.move rfl rfl rfl (ltb rfl) ?_)
  refine VO.cons rfl (V1.callM 0 (rn + ρ0 + 1) [] [.ref bp 3 0 0] (p := (bp, ⟨3, [encCur ρ0 c]⟩)) rfl rfl rfl cok_226 rfl rfl ⟨_, _, rfl, .same _, rfl⟩ bwNil (ok_spec_l1Cur_next hh0) rfl (.inl rfl) (ltb rfl) ?_)
  rintro _ _ ⟨rfl, rfl⟩
  refine VO.cons rfl (V1.assign rfl rfl rfl (ltb rfl) ?_)
  refine VO.nil ?_
  refine V.keep 20 [0, 1, 5] [0] (E0 := [(0, .ref bp 3 0 0), (1, .int .i64 n), (5, .int .i64 y0.1)]) (H0 := [(bp, ⟨3, [encCur ρ0 y0.2]⟩)]) rfl (⟨_, _, rfl, rfl, ⟨_, _, rfl, rfl, ⟨_, _, rfl, rfl, rfl⟩⟩⟩) (⟨_, _, rfl, rfl, rfl⟩) rfl ?_
  refine V.seq ?_
  replace hm0 := bindO hm0; rcases hm0 with ⟨j0, hm1, hm0⟩
  refine V.cutT (D := (Int × Cur) × (Unit)) (fun ⟨⟨x, c_⟩, _⟩ => ⟨20, [(5, .int .i64 x), (1, .int .i64 n)], [(bp, ⟨3, [encCur ρ0 c_]⟩)]⟩) (fun ⟨⟨x, c_⟩, _⟩ => ((x, c_) = j0)) ?_ ?_
  ·
   refine V.seq ?_
   refine V.region ?_
   refine VO.cons rfl (V1.move rfl rfl rfl (ltb rfl) ?_)
   refine VO.cons rfl (V1.int rfl rfl rfl rfl rfl (ltb rfl) ?_)
   refine VO.nil ?_
   refine V.cond rfl (fun hc1 => ?_) (fun hc1 => ?_)
   ·
    replace hm1 := cond_t hc1 hm1
    replace hm1 := bindO hm1; rcases hm1 with ⟨y1, hh1, hm1⟩
    refine V.region ?_
    refine VO.cons rfl (V1.move rfl rfl rfl (ltb rfl) ?_)
    refine VO.cons rfl (V1.int rfl rfl rfl rfl rfl (ltb rfl) ?_)
    refine VO.cons rfl (V1.move rfl rfl rfl (ltb rfl) ?_)
    refine VO.cons rfl (V1.callM 0 (rn + ρ0 + 1) [] [.ref bp 3 0 0] (p := (bp, ⟨3, [encCur ρ0 y0.2]⟩)) rfl rfl rfl cok_226 rfl rfl ⟨_, _, rfl, .same _, rfl⟩ bwNil (ok_spec_l1Cur_next hh1) rfl (.inl rfl) (ltb rfl) ?_)
    rintro _ _ ⟨rfl, rfl⟩
    refine VO.cons rfl (V1.int rfl rfl rfl rfl rfl (ltb rfl) ?_)
    refine VO.cons rfl (V1.assign rfl rfl rfl (ltb rfl) ?_)
    refine VO.nil ?_
    exact ⟨(((IntKind.i64.wrap ((IntKind.i64.wrap (y0.1 * (256 : Int))) + y1.1)), y1.2), ()), Option.some.inj hm1, Keeps.mk (ks := [0]) rfl ⟨rfl, rfl, trivial⟩ (⟨_, _, rfl, rfl, rfl⟩) rfl⟩
   ·
    replace hm1 := cond_f hc1 hm1
    refine V.skip ?_
    exact ⟨((y0.1, y0.2), ()), Option.some.inj hm1, Keeps.mk (ks := [0]) rfl ⟨rfl, rfl, trivial⟩ (⟨_, _, rfl, rfl, rfl⟩) rfl⟩
  ·
   rintro ⟨⟨x, c_⟩, _⟩ rfl
   try dsimp only at hm0
   refine V.seq ?_
   replace hm0 := asrt_some hm0; rcases hm0 with ⟨hh2, hm0⟩
   refine V.region ?_
   refine VO.cons rfl (V1.move rfl rfl rfl (ltb rfl) ?_)
   refine VO.cons rfl (V1.move rfl rfl rfl (ltb rfl) ?_)
   refine VO.cons rfl (V1.rem rfl rfl rfl rfl (hh2) (ltb rfl) ?_)
   refine VO.cons rfl (V1.assign rfl rfl rfl (ltb rfl) ?_)
   refine VO.nil ?_
   refine V.ret ?_
   obtain rfl := Option.some.inj hm0
   exact ⟨_, _, ⟨_, _, rfl, rfl, rfl⟩, (sub1 (k := 0) rfl), rfl, rfl⟩

theorem ok_spec_l1Cur_one {ρ0 rn bp : Nat} {c : Cur} {n : Int} {r : Bool × Cur} (h : M.spec_l1Cur_one c n = some r) : Does Try.prog 155 [.ref bp 3 0 0, .int .i64 n] [(bp, ⟨3, [encCur ρ0 c]⟩)] rn (fun x H => x = .bool r.1 ∧ H = [(bp, ⟨3, [encCur ρ0 r.2]⟩)]) := by
 have hm0 := h; clear h; unfold M.spec_l1Cur_one at hm0
 try dsimp only at hm0
 refine Does.intro (N := 9) Try.func155 rfl rfl rfl rfl ?_
 intro w0 S0
 refine V.seq ?_
 refine V.region ?_
 refine VO.cons rfl (V1.assign rfl rfl rfl (ltb rfl) ?_)
 refine VO.nil ?_
 refine V.seq ?_
 replace hm0 := bindO hm0; rcases hm0 with ⟨y0, hh0, hm0⟩
 refine V.region ?_
 refine VO.cons rfl (V1.move rfl rfl rfl (ltb rfl) ?_)
 refine VO.cons rfl (V1.move rfl rfl rfl (ltb rfl) ?_)
 refine VO.cons rfl (V1.callM 0 (rn + ρ0 + 1) [] [.ref bp 3 0 0, .int .i64 n] (p := (bp, ⟨3, [encCur ρ0 c]⟩)) rfl rfl rfl cok_152 rfl rfl ⟨_, _, rfl, .same _, ⟨_, _, rfl, .same _, rfl⟩⟩ bwNil (ok_spec_l1Cur_pick hh0) rfl (.inl rfl) (ltb rfl) ?_)
 rintro _ _ ⟨rfl, rfl⟩
 refine VO.cons rfl (V1.int rfl rfl rfl rfl rfl (ltb rfl) ?_)
 refine VO.cons rfl (V1.assign rfl rfl rfl (ltb rfl) ?_)
 refine VO.nil ?_
 refine V.ret ?_
 obtain rfl := Option.some.inj hm0
 exact ⟨_, _, ⟨_, _, rfl, rfl, rfl⟩, (sub1 (k := 0) rfl), rfl, rfl⟩

theorem ok_spec_l1Cur_among {ρ0 ρ1 rn bp : Nat} {c : Cur} {list : List Int} {r : Int × Cur} (h : M.spec_l1Cur_among c list = some r) : Does Try.prog 151 [.ref bp 3 0 0, .vl ρ1 1 (List.map encInt list)] [(bp, ⟨3, [encCur ρ0 c]⟩)] rn (fun x H => x = .int .i64 r.1 ∧ H = [(bp, ⟨3, [encCur ρ0 r.2]⟩)]) := by
 have hm0 := h; clear h; unfold M.spec_l1Cur_among at hm0
 try dsimp only at hm0
 refine Does.intro (N := 12) Try.func151 rfl rfl rfl rfl ?_
 intro w0 S0
 refine V.seq ?_
 refine V.region ?_
 refine VO.cons rfl (V1.assign rfl rfl rfl (ltb rfl) ?_)
 refine VO.nil ?_
 refine V.seq ?_
 replace hm0 := bindO hm0; rcases hm0 with ⟨y0, hh0, hm0⟩
 replace hm0 := asrt_some hm0; rcases hm0 with ⟨hh1, hm0⟩
 refine V.region ?_
 refine VO.cons rfl (V1.move rfl rfl rfl (ltb rfl) ?_)
 refine VO.cons rfl (V1.move rfl rfl rfl (ltb rfl) ?_)
 refine VO.cons rfl (V1.move rfl rfl rfl (ltb rfl) ?_)
 refine VO.cons rfl (V1.lenMap rfl rfl rfl rfl rfl rfl isl_34 (ltb rfl) ?_)
 refine VO.cons rfl (V1.callM 0 (rn + ρ0 + 1) [] [.ref bp 3 0 0, .int .i64 (list.length : Int)] (p := (bp, ⟨3, [encCur ρ0 c]⟩)) rfl rfl rfl cok_152 rfl rfl ⟨_, _, rfl, .same _, ⟨_, _, rfl, .same _, rfl⟩⟩ bwNil (ok_spec_l1Cur_pick hh0) rfl (.inl rfl) (ltb rfl) ?_)
 rintro _ _ ⟨rfl, rfl⟩
 refine VO.cons rfl (V1.indexI rfl rfl esz_34 rfl rfl hh1 (ltb rfl) ?_)
 refine VO.cons rfl (V1.loadPin rfl rfl tyk_3 rfl rfl (ltb rfl) ?_)
 refine VO.cons rfl (V1.assign rfl rfl rfl (ltb rfl) ?_)
 refine VO.nil ?_
 refine V.ret ?_
 obtain rfl := Option.some.inj hm0
 exact ⟨_, _, ⟨_, _, rfl, rfl, rfl⟩, (sub1 (k := 0) rfl), rfl, rfl⟩

theorem ok_spec_l1Cur_holds {ρ0 rn bp : Nat} {c : Cur} {r : List Hold × Cur} (h : M.spec_l1Cur_holds c = some r) : Does Try.prog 181 [.ref bp 3 0 0] [(bp, ⟨3, [encCur ρ0 c]⟩)] rn (fun x H => ∃ (ob0_ : Nat), x = PV.sref ob0_ 6 0 (List.length r.1) ∧ H = [(ob0_, ⟨6, List.map (encHold rn) r.1⟩)] ++ [(bp, ⟨3, [encCur ρ0 r.2]⟩)]) := by
 have hm0 := h; clear h; unfold M.spec_l1Cur_holds at hm0
 try dsimp only at hm0
 refine Does.intro (N := 95) Try.func181 rfl rfl rfl rfl ?_
 intro w0 S0
 refine V.seq ?_
 refine V.region ?_
 refine VO.cons rfl (V1.assign rfl rfl rfl (ltb rfl) ?_)
 refine VO.nil ?_
 refine V.seq ?_
 refine V.region ?_
 refine VO.cons rfl (V1.buildSliceT (f := (encHold rn)) ([] : List Hold) rfl rfl esz_92 zk_183 rfl rfl rfl rfl rfl rfl rfl (ltb rfl) ?_)
 intro b0
 refine VO.cons rfl (V1.assign rfl rfl rfl (ltb rfl) ?_)
 refine VO.nil ?_
 refine V.seq ?_
 refine V.seq ?_
 refine V.region ?_
 refine VO.cons rfl (V1.assign rfl rfl rfl (ltb rfl) ?_)
 refine VO.nil ?_
 replace hm0 := bindO hm0; rcases hm0 with ⟨e0, he1, hm0⟩
 refine V.cutT (D := (List Hold × Cur) × (Nat)) (fun ⟨⟨list, c_⟩, b1⟩ => ⟨95, [(3, .sref b1 6 0 (List.length list)), (0, .ref bp 3 0 0)], [(b1, ⟨6, List.map (encHold rn) list⟩), (bp, ⟨3, [encCur ρ0 c_]⟩)]⟩) (fun ⟨⟨list, c_⟩, b1⟩ => ((list, c_) = e0)) ?_ ?_
 ·
  refine V.block ?_
  refine V.keep 95 [3, 4, 0] [0, 1] (E0 := [(3, .sref b0 6 0 (List.length ([] : List Hold))), (4, .int .i64 (1 : Int)), (0, .ref bp 3 0 0)]) (H0 := [(b0, ⟨6, List.map (encHold rn) ([] : List Hold)⟩), (bp, ⟨3, [encCur ρ0 c]⟩)]) rfl (⟨_, _, rfl, rfl, ⟨_, _, rfl, rfl, ⟨_, _, rfl, rfl, rfl⟩⟩⟩) (⟨_, _, rfl, rfl, ⟨_, _, rfl, rfl, rfl⟩⟩) rfl ?_
  refine V.loopE (D := Nat × (List Hold × Int × Cur) × (Nat)) (fun ⟨n0, ⟨list0, n_, c_0⟩, b2⟩ => [(3, .sref b2 6 0 (List.length list0)), (4, .int .i64 n_)]) (fun ⟨n0, ⟨list0, n_, c_0⟩, b2⟩ => [(b2, ⟨6, List.map (encHold rn) list0⟩), (bp, ⟨3, [encCur ρ0 c_0]⟩)]) (fun ⟨n0, ⟨list0, n_, c_0⟩, b2⟩ => loopO (M.spec_l1Cur_holds_l0) n0 (list0, n_, c_0) = some e0) (fun ⟨n0, _, _⟩ => n0) (rounds, (([] : List Hold), (1 : Int), c), b0) rfl he1 ?_
  rintro ⟨n0, ⟨list0, n_, c_0⟩, b2⟩ hP0
  obtain ⟨m0, y0, rfl, hm1, hl1, hr1⟩ := loop_head hP0
  unfold M.spec_l1Cur_holds_l0 at hm1; dsimp only at hm1
  show V _ _ _ ⟨95, [(3, .sref b2 6 0 (List.length list0)), (4, .int .i64 n_), (0, .ref bp 3 0 0)], [(b2, ⟨6, List.map (encHold rn) list0⟩), (bp, ⟨3, [encCur ρ0 c_0]⟩)]⟩
  refine V.seq ?_
  refine V.seq ?_
  refine V.region ?_
  refine VO.cons rfl (V1.move rfl rfl rfl (ltb rfl) ?_)
  refine VO.cons rfl (V1.int rfl rfl rfl rfl rfl (ltb rfl) ?_)
  refine VO.nil ?_
  refine V.cond rfl (fun hc0 => ?_) (fun hc0 => ?_)
  ·
   replace hm1 := cond_t hc0 hm1
   refine V.skip ?_
   refine V.seq ?_
   replace hm1 := bindO hm1; rcases hm1 with ⟨j0, hm2, hm1⟩
   refine V.cutT (D := (List Hold × Cur) × (Nat)) (fun ⟨⟨list1, c_1⟩, b3⟩ => ⟨95, [(3, .sref b3 6 0 (List.length list1)), (0, .ref bp 3 0 0), (4, .int .i64 n_)], [(b3, ⟨6, List.map (encHold rn) list1⟩), (bp, ⟨3, [encCur ρ0 c_1]⟩)]⟩) (fun ⟨⟨list1, c_1⟩, b3⟩ => ((list1, c_1) = j0)) ?_ ?_
   ·
    refine V.block ?_
    refine V.seq ?_
    refine V.seq ?_
    replace hm2 := bindO hm2; rcases hm2 with ⟨y1, hh0, hm2⟩
    refine V.region ?_
    refine VO.cons rfl (V1.move rfl rfl rfl (ltb rfl) ?_)
    refine VO.cons rfl (V1.callM 1 (rn + ρ0 + 1) [] [.ref bp 3 0 0, .int .i64 (2 : Int)] (p := (bp, ⟨3, [encCur ρ0 c_0]⟩)) rfl rfl rfl cok_155 rfl rfl ⟨_, _, rfl, .same _, ⟨_, _, rfl, .same _, rfl⟩⟩ bwNil (ok_spec_l1Cur_one hh0) rfl (.inl rfl) (ltb rfl) ?_)
    rintro _ _ ⟨rfl, rfl⟩
    refine VO.nil ?_
    refine V.cond rfl (fun hc1 => ?_) (fun hc1 => ?_)
    ·
     replace hm2 := cond_t hc1 hm2
     refine V.exit ?_
     exact ⟨((list0, y1.2), b2), Option.some.inj hm2, Keeps.mk (ks := [1, 0]) rfl ⟨rfl, rfl, rfl, trivial⟩ (⟨_, _, rfl, rfl, ⟨_, _, rfl, rfl, rfl⟩⟩) rfl⟩
    ·
     replace hm2 := cond_f hc1 hm2
     refine V.skip ?_
     refine V.keep 95 [0, 3, 4] [0, 1] (E0 := [(0, .ref bp 3 0 0), (3, .sref b2 6 0 (List.length list0)), (4, .int .i64 n_)]) (H0 := [(bp, ⟨3, [encCur ρ0 y1.2]⟩), (b2, ⟨6, List.map (encHold rn) list0⟩)]) rfl (⟨_, _, rfl, rfl, ⟨_, _, rfl, rfl, ⟨_, _, rfl, rfl, rfl⟩⟩⟩) (⟨_, _, rfl, rfl, ⟨_, _, rfl, rfl, rfl⟩⟩) rfl ?_
     refine V.seq ?_
     replace hm2 := bindO hm2; rcases hm2 with ⟨y2, hh1, hm2⟩
     replace hm2 := bindO hm2; rcases hm2 with ⟨y3, hh2, hm2⟩
     replace hm2 := bindO hm2; rcases hm2 with ⟨y4, hh3, hm2⟩
     refine V.region ?_
     refine VO.cons rfl (V1.move rfl rfl rfl (ltb rfl) ?_)
     refine VO.cons rfl (V1.int rfl rfl rfl rfl rfl (ltb rfl) ?_)
     refine VO.cons rfl (V1.move rfl rfl rfl (ltb rfl) ?_)
     refine VO.cons rfl (V1.buildSliceT (f := encInt) ([(0 : Int), (100 : Int), (400 : Int), (1000 : Int), (3000 : Int)] : List Int) rfl rfl esz_34 zk_3 rfl rfl rfl rfl rfl rfl rfl (ltb rfl) ?_)
     intro b4
     refine VO.cons rfl (V1.callM 1 (rn + ρ0 + 1) [b4] [.ref bp 3 0 0, .vl (rn + ρ0 + 1) 1 (List.map encInt ([(0 : Int), (100 : Int), (400 : Int), (1000 : Int), (3000 : Int)] : List Int))] (p := (bp, ⟨3, [encCur ρ0 y1.2]⟩)) rfl rfl rfl cok_151 rfl rfl ⟨_, _, rfl, .same _, ⟨_, _, rfl, Lend.srMap 0 rfl (fun _ => rfl) (.head _), rfl⟩⟩ (bwCons (k := 0) rfl bwNil) (ok_spec_l1Cur_among hh1) rfl (.inr ⟨(by dsimp only; omega), by rintro _ _ ⟨rfl, rfl⟩; exact ⟨by simp [PV.no, PV.noL, optS_no, noL_iff, nbeq] <;> omega, by intro b ob h; first | exact optH_no (noL_map (fun _ => by simp [PV.no, PV.noL, noL_iff, nbeq]) _) b ob h | (simp at h; obtain ⟨rfl, rfl⟩ := h; exact noL_map (fun _ => by simp [PV.no, PV.noL, noL_iff, nbeq]) _) | (simp at h; obtain ⟨rfl, rfl⟩ := h; simp [PV.no, PV.noL, optS_no, noL_iff, nbeq] <;> omega)⟩⟩) (ltb rfl) ?_)
     rintro _ _ ⟨rfl, rfl⟩
     refine VO.cons rfl (V1.buildSliceT (f := encInt) ([] : List Int) rfl rfl esz_34 zk_3 rfl rfl rfl rfl rfl rfl rfl (ltb rfl) ?_)
     intro b5
     refine VO.cons rfl (V1.move rfl rfl rfl (ltb rfl) ?_)
     refine VO.cons rfl (V1.buildSliceT (f := encInt) ([(0 : Int), (0 : Int), (100 : Int), (450 : Int)] : List Int) rfl rfl esz_34 zk_3 rfl rfl rfl rfl rfl rfl rfl (ltb rfl) ?_)
     intro b6
     refine VO.cons rfl (V1.callM 2 (rn + ρ0 + 1) [b6] [.ref bp 3 0 0, .vl (rn + ρ0 + 1) 1 (List.map encInt ([(0 : Int), (0 : Int), (100 : Int), (450 : Int)] : List Int))] (p := (bp, ⟨3, [encCur ρ0 y2.2]⟩)) rfl rfl rfl cok_151 rfl rfl ⟨_, _, rfl, .same _, ⟨_, _, rfl, Lend.srMap 0 rfl (fun _ => rfl) (.head _), rfl⟩⟩ (bwCons (k := 0) rfl bwNil) (ok_spec_l1Cur_among hh2) rfl (.inr ⟨(by dsimp only; omega), by rintro _ _ ⟨rfl, rfl⟩; exact ⟨by simp [PV.no, PV.noL, optS_no, noL_iff, nbeq] <;> omega, by intro b ob h; first | exact optH_no (noL_map (fun _ => by simp [PV.no, PV.noL, noL_iff, nbeq]) _) b ob h | (simp at h; obtain ⟨rfl, rfl⟩ := h; exact noL_map (fun _ => by simp [PV.no, PV.noL, noL_iff, nbeq]) _) | (simp at h; obtain ⟨rfl, rfl⟩ := h; simp [PV.no, PV.noL, optS_no, noL_iff, nbeq] <;> omega)⟩⟩) (ltb rfl) ?_)
     rintro _ _ ⟨rfl, rfl⟩
     refine VO.cons rfl (V1.move rfl rfl rfl (ltb rfl) ?_)
     refine VO.cons rfl (V1.buildSliceT (f := encInt) ([(500 : Int), (3000 : Int), (20000 : Int)] : List Int) rfl rfl esz_34 zk_3 rfl rfl rfl rfl rfl rfl rfl (ltb rfl) ?_)
     intro b7
     refine VO.cons rfl (V1.callM 1 (rn + ρ0 + 1) [b7] [.ref bp 3 0 0, .vl (rn + ρ0 + 1) 1 (List.map encInt ([(500 : Int), (3000 : Int), (20000 : Int)] : List Int))] (p := (bp, ⟨3, [encCur ρ0 y3.2]⟩)) rfl rfl rfl cok_151 rfl rfl ⟨_, _, rfl, .same _, ⟨_, _, rfl, Lend.srMap 0 rfl (fun _ => rfl) (.head _), rfl⟩⟩ (bwCons (k := 0) rfl bwNil) (ok_spec_l1Cur_among hh3) rfl (.inr ⟨(by dsimp only; omega), by rintro _ _ ⟨rfl, rfl⟩; exact ⟨by simp [PV.no, PV.noL, optS_no, noL_iff, nbeq] <;> omega, by intro b ob h; first | exact optH_no (noL_map (fun _ => by simp [PV.no, PV.noL, noL_iff, nbeq]) _) b ob h | (simp at h; obtain ⟨rfl, rfl⟩ := h; exact noL_map (fun _ => by simp [PV.no, PV.noL, noL_iff, nbeq]) _) | (simp at h; obtain ⟨rfl, rfl⟩ := h; simp [PV.no, PV.noL, optS_no, noL_iff, nbeq] <;> omega)⟩⟩) (ltb rfl) ?_)
     rintro _ _ ⟨rfl, rfl⟩
     refine VO.cons rfl (V1.build rfl rfl zk_183 pl_183 rfl rfl (ltb rfl) ?_)
     refine VO.cons rfl (V1.alloc rfl rfl zk_183 (ltb rfl) ?_)
     intro b8
     refine VO.cons rfl (V1.storeRefAll (k := 0) rfl rfl tyk_183 rfl rfl rfl rfl rfl rfl ?_)
     refine VO.nil ?_
     refine V.keep 95 [0, 3, 4, 5] [0, 1, 4, 6] (E0 := [(0, .ref bp 3 0 0), (3, .sref b2 6 0 (List.length list0)), (4, .int .i64 n_), (5, .ref b8 6 0 0)]) (H0 := [(b8, ⟨6, [.agg [.int .i64 (IntKind.i64.wrap ((6 : Int) * n_)), .int .i64 y2.1, .int .i64 (-1 : Int), .sref b5 1 0 (List.length ([] : List Int)), .int .i64 y3.1, .int .i64 y4.1]]⟩), (bp, ⟨3, [encCur ρ0 y4.2]⟩), (b5, ⟨1, List.map encInt ([] : List Int)⟩), (b2, ⟨6, List.map (encHold rn) list0⟩)]) rfl (⟨_, _, rfl, rfl, ⟨_, _, rfl, rfl, ⟨_, _, rfl, rfl, ⟨_, _, rfl, rfl, rfl⟩⟩⟩⟩) (⟨_, _, rfl, rfl, ⟨_, _, rfl, rfl, ⟨_, _, rfl, rfl, ⟨_, _, rfl, rfl, rfl⟩⟩⟩⟩) rfl ?_
     refine V.seq ?_
     replace hm2 := bindO hm2; rcases hm2 with ⟨j1, hm3, hm2⟩
     refine V.cutT (D := (Int × Cur) × (Unit)) (fun ⟨⟨h_Until_, c_2⟩, _⟩ => ⟨95, [(0, .ref bp 3 0 0), (3, .sref b2 6 0 (List.length list0)), (4, .int .i64 n_), (5, .ref b8 6 0 0)], [(bp, ⟨3, [encCur ρ0 c_2]⟩), (b8, ⟨6, [.agg [.int .i64 (IntKind.i64.wrap ((6 : Int) * n_)), .int .i64 y2.1, .int .i64 h_Until_, .sref b5 1 0 (List.length ([] : List Int)), .int .i64 y3.1, .int .i64 y4.1]]⟩), (b5, ⟨1, List.map encInt ([] : List Int)⟩), (b2, ⟨6, List.map (encHold rn) list0⟩)]⟩) (fun ⟨⟨h_Until_, c_2⟩, _⟩ => ((h_Until_, c_2) = j1)) ?_ ?_
     ·
      refine V.seq ?_
      replace hm3 := bindO hm3; rcases hm3 with ⟨y5, hh4, hm3⟩
      refine V.region ?_
      refine VO.cons rfl (V1.move rfl rfl rfl (ltb rfl) ?_)
      refine VO.cons rfl (V1.callM 1 (rn + ρ0 + 1) [] [.ref bp 3 0 0, .int .i64 (3 : Int)] (p := (bp, ⟨3, [encCur ρ0 y4.2]⟩)) rfl rfl rfl cok_155 rfl rfl ⟨_, _, rfl, .same _, ⟨_, _, rfl, .same _, rfl⟩⟩ bwNil (ok_spec_l1Cur_one hh4) rfl (.inl rfl) (ltb rfl) ?_)
      rintro _ _ ⟨rfl, rfl⟩
      refine VO.cons rfl (V1.not rfl rfl rfl (ltb rfl) ?_)
      refine VO.nil ?_
      refine V.cond rfl (fun hc2 => ?_) (fun hc2 => ?_)
      ·
       replace hm3 := cond_t hc2 hm3
       replace hm3 := bindO hm3; rcases hm3 with ⟨y6, hh5, hm3⟩
       replace hm3 := bindO hm3; rcases hm3 with ⟨j2, hm4, hm3⟩
       refine V.cutT (D := (Int × Cur) × (Unit)) (fun ⟨⟨h_Until_0, c_3⟩, _⟩ => ⟨95, [(0, .ref bp 3 0 0), (3, .sref b2 6 0 (List.length list0)), (4, .int .i64 n_), (5, .ref b8 6 0 0)], [(bp, ⟨3, [encCur ρ0 c_3]⟩), (b8, ⟨6, [.agg [.int .i64 (IntKind.i64.wrap ((6 : Int) * n_)), .int .i64 y2.1, .int .i64 h_Until_0, .sref b5 1 0 (List.length ([] : List Int)), .int .i64 y3.1, .int .i64 y4.1]]⟩), (b5, ⟨1, List.map encInt ([] : List Int)⟩), (b2, ⟨6, List.map (encHold rn) list0⟩)]⟩) (fun ⟨⟨h_Until_0, c_3⟩, _⟩ => ((h_Until_0, c_3) = j2)) ?_ ?_
       ·
        refine V.regionS [] 95 5 [⟨[(5, none)], false⟩, ⟨[(29, some 0)], true⟩, ⟨[(0, none)], false⟩, ⟨[], true⟩, ⟨[(31, some 2), (32, some 3)], true⟩] [(0, none), (3, none), (4, none), (5, none), (30, some 1), (33, some 4)] 3 (⟨_, rfl, ⟨_, rfl, ⟨_, rfl, ⟨_, rfl, ⟨_, rfl, ⟨rfl, rfl⟩⟩⟩⟩⟩⟩) mixed_orders rfl (by decide +kernel) ?_
        refine WalkP.step (p := ?pv191) 0 rfl rfl rfl rfl rfl (⟨_, _, rfl, rfl, rfl⟩) ?hv191 ?rest191
        case hv191 =>
         intro E1 H1 hI1
         refine (V1.fieldRef rfl rfl fo_183_1 rfl (ltb rfl) ?_)
         exact rfl
        refine WalkP.step (p := ?pv192) 2 rfl rfl rfl rfl rfl (⟨_, _, rfl, rfl, rfl⟩) ?hv192 ?rest192
        case hv192 =>
         intro E1 H1 hI1
         refine (V1.move rfl rfl rfl (ltb rfl) ?_)
         exact rfl
        refine WalkP.nil ?_
        refine NodeS.branch [1, 3] inNil rfl rfl rfl ⟨?_, ?_, trivial⟩
        ·
         refine ⟨_, _, _, _, rfl, rfl, rfl, (⟨_, _, rfl, rfl, rfl⟩), fun E1 => ?_⟩
         refine (V1.loadRef (k := 1) rfl rfl tyk_3 rfl rfl rfl rfl rfl (ltb rfl) ?_)
         refine ⟨_, _, rfl, ?_⟩
         refine WalkP.nil ?_
         refine NodeS.branch [3] inNil rfl rfl rfl ⟨?_, trivial⟩
         ·
          refine ⟨_, _, _, _, rfl, rfl, rfl, (rfl), fun E1 => ?_⟩
          refine (V1.buildSliceT (f := encInt) ([(1 : Int), (100 : Int), (600 : Int), (5000 : Int)] : List Int) rfl rfl esz_34 zk_3 rfl rfl rfl rfl rfl rfl rfl (ltb rfl) ?_)
          intro b10
          refine ⟨_, _, rfl, ?_⟩
          refine WalkP.nil ?_
          refine NodeS.branch [4] inNil rfl rfl rfl ⟨?_, trivial⟩
          ·
           refine ⟨_, _, _, _, rfl, rfl, rfl, (⟨_, _, rfl, rfl, ⟨_, _, rfl, rfl, rfl⟩⟩), fun E1 => ?_⟩
           refine (V1.callM 1 (rn + ρ0 + 1) [b10] [.ref bp 3 0 0, .vl (rn + ρ0 + 1) 1 (List.map encInt ([(1 : Int), (100 : Int), (600 : Int), (5000 : Int)] : List Int))] (p := (bp, ⟨3, [encCur ρ0 y5.2]⟩)) rfl rfl rfl cok_151 rfl rfl ⟨_, _, rfl, .same _, ⟨_, _, rfl, Lend.srMap 0 rfl (fun _ => rfl) (.head _), rfl⟩⟩ (bwCons (k := 0) rfl bwNil) (ok_spec_l1Cur_among hh5) rfl (.inr ⟨(by dsimp only; omega), by rintro _ _ ⟨rfl, rfl⟩; exact ⟨by simp [PV.no, PV.noL, optS_no, noL_iff, nbeq] <;> omega, by intro b ob h; first | exact optH_no (noL_map (fun _ => by simp [PV.no, PV.noL, noL_iff, nbeq]) _) b ob h | (simp at h; obtain ⟨rfl, rfl⟩ := h; exact noL_map (fun _ => by simp [PV.no, PV.noL, noL_iff, nbeq]) _) | (simp at h; obtain ⟨rfl, rfl⟩ := h; simp [PV.no, PV.noL, optS_no, noL_iff, nbeq] <;> omega)⟩⟩) (ltb rfl) ?_)
           rintro _ _ ⟨rfl, rfl⟩
           refine ⟨_, _, rfl, ?_⟩
           refine WalkP.nil ?_
           refine NodeS.fin inNil rfl rfl rfl (⟨_, _, rfl, rfl, ⟨_, _, rfl, rfl, ⟨_, _, rfl, rfl, ⟨_, _, rfl, rfl, ⟨_, _, rfl, rfl, ⟨_, _, rfl, rfl, rfl⟩⟩⟩⟩⟩⟩) ?_
           refine VO.cons rfl (V1.int rfl rfl rfl rfl rfl (ltb rfl) ?_)
           refine VO.cons rfl (V1.fieldRef rfl rfl fo_183_2 rfl (ltb rfl) ?_)
           refine VO.cons rfl (V1.storeRef (k := 2) rfl rfl tyk_3 rfl rfl rfl rfl rfl rfl rfl rfl rfl ?_)
           refine VO.nil ?_
           exact ⟨(((IntKind.i64.wrap (y2.1 + y6.1)), y6.2), ()), Option.some.inj hm4, Keeps.mk (ks := [0, 2, 3, 4]) rfl ⟨rfl, rfl, rfl, rfl, trivial⟩ (⟨_, _, rfl, rfl, ⟨_, _, rfl, rfl, ⟨_, _, rfl, rfl, ⟨_, _, rfl, rfl, rfl⟩⟩⟩⟩) rfl⟩
        ·
         refine ⟨_, _, _, _, rfl, rfl, rfl, (rfl), fun E1 => ?_⟩
         refine (V1.buildSliceT (f := encInt) ([(1 : Int), (100 : Int), (600 : Int), (5000 : Int)] : List Int) rfl rfl esz_34 zk_3 rfl rfl rfl rfl rfl rfl rfl (ltb rfl) ?_)
         intro b11
         refine ⟨_, _, rfl, ?_⟩
         refine WalkP.nil ?_
         refine NodeS.branch [1, 4] inNil rfl rfl rfl ⟨?_, ?_, trivial⟩
         ·
          refine ⟨_, _, _, _, rfl, rfl, rfl, (⟨_, _, rfl, rfl, rfl⟩), fun E1 => ?_⟩
          refine (V1.loadRef (k := 2) rfl rfl tyk_3 rfl rfl rfl rfl rfl (ltb rfl) ?_)
          refine ⟨_, _, rfl, ?_⟩
          refine WalkP.nil ?_
          refine NodeS.branch [4] inNil rfl rfl rfl ⟨?_, trivial⟩
          ·
           refine ⟨_, _, _, _, rfl, rfl, rfl, (⟨_, _, rfl, rfl, ⟨_, _, rfl, rfl, rfl⟩⟩), fun E1 => ?_⟩
           refine (V1.callM 1 (rn + ρ0 + 1) [b11] [.ref bp 3 0 0, .vl (rn + ρ0 + 1) 1 (List.map encInt ([(1 : Int), (100 : Int), (600 : Int), (5000 : Int)] : List Int))] (p := (bp, ⟨3, [encCur ρ0 y5.2]⟩)) rfl rfl rfl cok_151 rfl rfl ⟨_, _, rfl, .same _, ⟨_, _, rfl, Lend.srMap 0 rfl (fun _ => rfl) (.head _), rfl⟩⟩ (bwCons (k := 0) rfl bwNil) (ok_spec_l1Cur_among hh5) rfl (.inr ⟨(by dsimp only; omega), by rintro _ _ ⟨rfl, rfl⟩; exact ⟨by simp [PV.no, PV.noL, optS_no, noL_iff, nbeq] <;> omega, by intro b ob h; first | exact optH_no (noL_map (fun _ => by simp [PV.no, PV.noL, noL_iff, nbeq]) _) b ob h | (simp at h; obtain ⟨rfl, rfl⟩ := h; exact noL_map (fun _ => by simp [PV.no, PV.noL, noL_iff, nbeq]) _) | (simp at h; obtain ⟨rfl, rfl⟩ := h; simp [PV.no, PV.noL, optS_no, noL_iff, nbeq] <;> omega)⟩⟩) (ltb rfl) ?_)
           rintro _ _ ⟨rfl, rfl⟩
           refine ⟨_, _, rfl, ?_⟩
           refine WalkP.nil ?_
           refine NodeS.fin inNil rfl rfl rfl (⟨_, _, rfl, rfl, ⟨_, _, rfl, rfl, ⟨_, _, rfl, rfl, ⟨_, _, rfl, rfl, ⟨_, _, rfl, rfl, ⟨_, _, rfl, rfl, rfl⟩⟩⟩⟩⟩⟩) ?_
           refine VO.cons rfl (V1.int rfl rfl rfl rfl rfl (ltb rfl) ?_)
           refine VO.cons rfl (V1.fieldRef rfl rfl fo_183_2 rfl (ltb rfl) ?_)
           refine VO.cons rfl (V1.storeRef (k := 2) rfl rfl tyk_3 rfl rfl rfl rfl rfl rfl rfl rfl rfl ?_)
           refine VO.nil ?_
           exact ⟨(((IntKind.i64.wrap (y2.1 + y6.1)), y6.2), ()), Option.some.inj hm4, Keeps.mk (ks := [0, 2, 3, 4]) rfl ⟨rfl, rfl, rfl, rfl, trivial⟩ (⟨_, _, rfl, rfl, ⟨_, _, rfl, rfl, ⟨_, _, rfl, rfl, ⟨_, _, rfl, rfl, rfl⟩⟩⟩⟩) rfl⟩
         ·
          refine ⟨_, _, _, _, rfl, rfl, rfl, (⟨_, _, rfl, rfl, ⟨_, _, rfl, rfl, rfl⟩⟩), fun E1 => ?_⟩
          refine (V1.callM 1 (rn + ρ0 + 1) [b11] [.ref bp 3 0 0, .vl (rn + ρ0 + 1) 1 (List.map encInt ([(1 : Int), (100 : Int), (600 : Int), (5000 : Int)] : List Int))] (p := (bp, ⟨3, [encCur ρ0 y5.2]⟩)) rfl rfl rfl cok_151 rfl rfl ⟨_, _, rfl, .same _, ⟨_, _, rfl, Lend.srMap 0 rfl (fun _ => rfl) (.head _), rfl⟩⟩ (bwCons (k := 0) rfl bwNil) (ok_spec_l1Cur_among hh5) rfl (.inr ⟨(by dsimp only; omega), by rintro _ _ ⟨rfl, rfl⟩; exact ⟨by simp [PV.no, PV.noL, optS_no, noL_iff, nbeq] <;> omega, by intro b ob h; first | exact optH_no (noL_map (fun _ => by simp [PV.no, PV.noL, noL_iff, nbeq]) _) b ob h | (simp at h; obtain ⟨rfl, rfl⟩ := h; exact noL_map (fun _ => by simp [PV.no, PV.noL, noL_iff, nbeq]) _) | (simp at h; obtain ⟨rfl, rfl⟩ := h; simp [PV.no, PV.noL, optS_no, noL_iff, nbeq] <;> omega)⟩⟩) (ltb rfl) ?_)
          rintro _ _ ⟨rfl, rfl⟩
          refine ⟨_, _, rfl, ?_⟩
          refine WalkP.nil ?_
          refine NodeS.branch [1] inNil rfl rfl rfl ⟨?_, trivial⟩
          ·
           refine ⟨_, _, _, _, rfl, rfl, rfl, (⟨_, _, rfl, rfl, rfl⟩), fun E1 => ?_⟩
           refine (V1.loadRef (k := 2) rfl rfl tyk_3 rfl rfl rfl rfl rfl (ltb rfl) ?_)
           refine ⟨_, _, rfl, ?_⟩
           refine WalkP.nil ?_
           refine NodeS.fin inNil rfl rfl rfl (⟨_, _, rfl, rfl, ⟨_, _, rfl, rfl, ⟨_, _, rfl, rfl, ⟨_, _, rfl, rfl, ⟨_, _, rfl, rfl, ⟨_, _, rfl, rfl, rfl⟩⟩⟩⟩⟩⟩) ?_
           refine VO.cons rfl (V1.int rfl rfl rfl rfl rfl (ltb rfl) ?_)
           refine VO.cons rfl (V1.fieldRef rfl rfl fo_183_2 rfl (ltb rfl) ?_)
           refine VO.cons rfl (V1.storeRef (k := 2) rfl rfl tyk_3 rfl rfl rfl rfl rfl rfl rfl rfl rfl ?_)
           refine VO.nil ?_
           exact ⟨(((IntKind.i64.wrap (y2.1 + y6.1)), y6.2), ()), Option.some.inj hm4, Keeps.mk (ks := [0, 2, 3, 4]) rfl ⟨rfl, rfl, rfl, rfl, trivial⟩ (⟨_, _, rfl, rfl, ⟨_, _, rfl, rfl, ⟨_, _, rfl, rfl, ⟨_, _, rfl, rfl, rfl⟩⟩⟩⟩) rfl⟩
       ·
        rintro ⟨⟨h_Until_0, c_3⟩, _⟩ rfl
        try dsimp only at hm3
        exact ⟨((h_Until_0, c_3), ()), Option.some.inj hm3, Keeps.mk (ks := [0, 1, 2, 3]) rfl ⟨rfl, rfl, rfl, rfl, trivial⟩ (⟨_, _, rfl, rfl, ⟨_, _, rfl, rfl, ⟨_, _, rfl, rfl, ⟨_, _, rfl, rfl, rfl⟩⟩⟩⟩) rfl⟩
      ·
       replace hm3 := cond_f hc2 hm3
       refine V.skip ?_
       exact ⟨(((-1 : Int), y5.2), ()), Option.some.inj hm3, Keeps.mk (ks := [0, 1, 2, 3]) rfl ⟨rfl, rfl, rfl, rfl, trivial⟩ (⟨_, _, rfl, rfl, ⟨_, _, rfl, rfl, ⟨_, _, rfl, rfl, ⟨_, _, rfl, rfl, rfl⟩⟩⟩⟩) rfl⟩
     ·
      rintro ⟨⟨h_Until_, c_2⟩, _⟩ rfl
      try dsimp only at hm2
      refine V.seq ?_
      replace hm2 := bindO hm2; rcases hm2 with ⟨j3, hm3, hm2⟩
      refine V.cutT (D := (List Int × Cur) × (Unit)) (fun ⟨⟨h_Series_, c_4⟩, _⟩ => ⟨95, [(0, .ref bp 3 0 0), (3, .sref b2 6 0 (List.length list0)), (4, .int .i64 n_), (5, .ref b8 6 0 0)], [(bp, ⟨3, [encCur ρ0 c_4]⟩), (b8, ⟨6, [.agg [.int .i64 (IntKind.i64.wrap ((6 : Int) * n_)), .int .i64 y2.1, .int .i64 h_Until_, .vl rn 1 (List.map encInt h_Series_), .int .i64 y3.1, .int .i64 y4.1]]⟩), (b2, ⟨6, List.map (encHold rn) list0⟩)]⟩) (fun ⟨⟨h_Series_, c_4⟩, _⟩ => ((h_Series_, c_4) = j3)) ?_ ?_
      ·
       refine V.seq ?_
       replace hm3 := bindO hm3; rcases hm3 with ⟨y7, hh6, hm3⟩
       refine V.region ?_
       refine VO.cons rfl (V1.move rfl rfl rfl (ltb rfl) ?_)
       refine VO.cons rfl (V1.callM 0 (rn + ρ0 + 1) [] [.ref bp 3 0 0, .int .i64 (2 : Int)] (p := (bp, ⟨3, [encCur ρ0 c_2]⟩)) rfl rfl rfl cok_155 rfl rfl ⟨_, _, rfl, .same _, ⟨_, _, rfl, .same _, rfl⟩⟩ bwNil (ok_spec_l1Cur_one hh6) rfl (.inl rfl) (ltb rfl) ?_)
       rintro _ _ ⟨rfl, rfl⟩
       refine VO.nil ?_
       refine V.cond rfl (fun hc3 => ?_) (fun hc3 => ?_)
       ·
        replace hm3 := cond_t hc3 hm3
        replace hm3 := bindO hm3; rcases hm3 with ⟨y8, hh7, hm3⟩
        replace hm3 := asrt_some hm3; rcases hm3 with ⟨hh8, hm3⟩
        refine V.region ?_
        refine VO.cons rfl (V1.buildSliceT (f := encInt) ([(1 : Int), (3 : Int), (7 : Int)] : List Int) rfl rfl esz_34 zk_3 rfl rfl rfl rfl rfl rfl rfl (ltb rfl) ?_)
        intro b12
        refine VO.cons rfl (V1.move rfl rfl rfl (ltb rfl) ?_)
        refine VO.cons rfl (V1.callM 1 (rn + ρ0 + 1) [] [.ref bp 3 0 0, .int .i64 (2 : Int)] (p := (bp, ⟨3, [encCur ρ0 y7.2]⟩)) rfl rfl rfl cok_152 rfl rfl ⟨_, _, rfl, .same _, ⟨_, _, rfl, .same _, rfl⟩⟩ bwNil (ok_spec_l1Cur_pick hh7) rfl (.inl rfl) (ltb rfl) ?_)
        rintro _ _ ⟨rfl, rfl⟩
        refine VO.weakenK (Keeps.freezeG 1 rn [(38, .vl rn 1 (List.map encInt ([(1 : Int), (3 : Int), (7 : Int)] : List Int)))] [(bp, ⟨3, [encCur ρ0 y8.2]⟩), (b8, ⟨6, [.agg [.int .i64 (IntKind.i64.wrap ((6 : Int) * n_)), .int .i64 y2.1, .int .i64 h_Until_, .sref b5 1 0 (List.length ([] : List Int)), .int .i64 y3.1, .int .i64 y4.1]]⟩), (b5, ⟨1, List.map encInt ([] : List Int)⟩), (b2, ⟨6, List.map (encHold rn) list0⟩)] (f := encInt) (l := ([(1 : Int), (3 : Int), (7 : Int)] : List Int)) rfl (fun _ => rfl) ⟨⟨_, rfl, .here⟩, trivial⟩ ⟨_, _, rfl, rfl, .inl rfl, ⟨_, _, rfl, rfl, .inl rfl, ⟨_, _, rfl, rfl, .inl rfl, ⟨_, _, rfl, rfl, .inl rfl, rfl⟩⟩⟩⟩ rfl (iOne (b := bp) 0 rfl)) ?_
        refine VO.cons rfl (V1.sliceMap (a := y8.1) (b := (([(1 : Int), (3 : Int), (7 : Int)] : List Int).length : Int)) rfl rfl esz_34 rfl (Bnd.some rfl hh8.1 _) (Bnd.none _ _) hh8 (ltb rfl) ?_)
        refine VO.cons rfl (V1.fieldRef rfl rfl fo_183_3 rfl (ltb rfl) ?_)
        refine VO.cons rfl (V1.storeRef (k := 1) rfl rfl tyk_34 rfl rfl rfl rfl rfl rfl rfl rfl rfl ?_)
        refine VO.nil ?_
        exact ⟨(((slc ([(1 : Int), (3 : Int), (7 : Int)] : List Int) y8.1 (([(1 : Int), (3 : Int), (7 : Int)] : List Int).length : Int)), y8.2), ()), Option.some.inj hm3, Keeps.mk (ks := [0, 1, 3]) rfl ⟨rfl, rfl, rfl, rfl, trivial⟩ (⟨_, _, rfl, rfl, ⟨_, _, rfl, rfl, ⟨_, _, rfl, rfl, rfl⟩⟩⟩) rfl⟩
       ·
        replace hm3 := cond_f hc3 hm3
        refine V.skip ?_
        exact ⟨((([] : List Int), y7.2), ()), Option.some.inj hm3, Keeps.trans (Keeps.freezeG 2 rn [] [(bp, ⟨3, [encCur ρ0 y7.2]⟩), (b8, ⟨6, [.agg [.int .i64 (IntKind.i64.wrap ((6 : Int) * n_)), .int .i64 y2.1, .int .i64 h_Until_, .vl rn 1 (List.map encInt ([] : List Int)), .int .i64 y3.1, .int .i64 y4.1]]⟩), (b2, ⟨6, List.map (encHold rn) list0⟩)] (f := encInt) (l := ([] : List Int)) rfl (fun _ => rfl) trivial ⟨_, _, rfl, rfl, .inl rfl, ⟨_, _, rfl, rfl, .inr (.cons (.agg (.cons .same (.cons .same (.cons .same (.cons .here (.cons .same (.cons .same .nil))))))) .nil), ⟨_, _, rfl, rfl, .inl rfl, rfl⟩⟩⟩ rfl (iOne (b := bp) 0 rfl)) (Keeps.mk (ks := [0, 1, 2]) rfl ⟨rfl, rfl, rfl, rfl, trivial⟩ (⟨_, _, rfl, rfl, ⟨_, _, rfl, rfl, ⟨_, _, rfl, rfl, rfl⟩⟩⟩) rfl)⟩
      ·
       rintro ⟨⟨h_Series_, c_4⟩, _⟩ rfl
       try dsimp only at hm2
       replace hm2 := asrt_some hm2; rcases hm2 with ⟨hh9, hm2⟩
       refine V.region ?_
       refine VO.cons rfl (V1.move rfl rfl rfl (ltb rfl) ?_)
       refine VO.cons rfl (V1.loadRefAll (k := 1) rfl rfl tyk_183 rfl rfl rfl rfl rfl (ltb rfl) ?_)
       refine VO.cons rfl (V1.buildSliceT (f := (encHold rn)) ([(⟨(IntKind.i64.wrap ((6 : Int) * n_)), y2.1, h_Until_, h_Series_, y3.1, y4.1⟩ : Hold)] : List Hold) rfl rfl esz_92 zk_183 rfl rfl rfl rfl rfl rfl rfl (ltb rfl) ?_)
       intro b13
       refine VO.cons rfl (V1.appendMap (k := 3) (f := (encHold rn)) (l := list0) (m := ([(⟨(IntKind.i64.wrap ((6 : Int) * n_)), y2.1, h_Until_, h_Series_, y3.1, y4.1⟩ : Hold)] : List Hold)) rfl rfl rfl rfl rfl esz_92 eby_92 zk_183 rfl rfl rfl (SrcOf.srMap (k := 0) rfl isl_92) hh9 (ltb rfl) ?_)
       intro b14
       refine VO.cons rfl (V1.assign rfl rfl rfl (ltb rfl) ?_)
       refine VO.nil ?_
       exact ⟨(((list0 ++ ([(⟨(IntKind.i64.wrap ((6 : Int) * n_)), y2.1, h_Until_, h_Series_, y3.1, y4.1⟩ : Hold)] : List Hold)), c_4), b14), Option.some.inj hm2, Keeps.mk (ks := [0, 2]) rfl ⟨rfl, rfl, rfl, trivial⟩ (⟨_, _, rfl, rfl, ⟨_, _, rfl, rfl, rfl⟩⟩) rfl⟩
   ·
    rintro ⟨⟨list1, c_1⟩, b3⟩ rfl
    try dsimp only at hm1
    refine V.region ?_
    refine VO.cons rfl (V1.move rfl rfl rfl (ltb rfl) ?_)
    refine VO.cons rfl (V1.int rfl rfl rfl rfl rfl (ltb rfl) ?_)
    refine VO.cons rfl (V1.assign rfl rfl rfl (ltb rfl) ?_)
    refine VO.nil ?_
    exact ⟨(m0, (list1, (IntKind.i64.wrap (n_ + (1 : Int))), c_1), b3), hl1 _ (Option.some.inj hm1).symm, Nat.lt_succ_self _, Keeps.mk (ks := [0, 1]) rfl ⟨rfl, rfl, rfl, trivial⟩ (⟨_, _, rfl, rfl, ⟨_, _, rfl, rfl, rfl⟩⟩) rfl⟩
  ·
   replace hm1 := cond_f hc0 hm1
   refine V.exit ?_
   obtain rfl := hr1 _ (Option.some.inj hm1).symm
   exact ⟨((list0, c_0), b2), rfl, Keeps.mk (ks := [0, 1]) rfl ⟨rfl, rfl, trivial⟩ (⟨_, _, rfl, rfl, ⟨_, _, rfl, rfl, rfl⟩⟩) rfl⟩
 ·
  rintro ⟨⟨list, c_⟩, b1⟩ rfl
  try dsimp only at hm0
  refine V.seq ?_
  refine V.seq ?_
  replace hm0 := bindO hm0; rcases hm0 with ⟨y9, hh10, hm0⟩
  refine V.region ?_
  refine VO.cons rfl (V1.move rfl rfl rfl (ltb rfl) ?_)
  refine VO.cons rfl (V1.callM 1 (rn + ρ0 + 1) [] [.ref bp 3 0 0, .int .i64 (32 : Int)] (p := (bp, ⟨3, [encCur ρ0 c_]⟩)) rfl rfl rfl cok_152 rfl rfl ⟨_, _, rfl, .same _, ⟨_, _, rfl, .same _, rfl⟩⟩ bwNil (ok_spec_l1Cur_pick hh10) rfl (.inl rfl) (ltb rfl) ?_)
  rintro _ _ ⟨rfl, rfl⟩
  refine VO.nil ?_
  replace hm0 := bindO hm0; rcases hm0 with ⟨j4, hm1, hm0⟩
  refine V.cutT (D := (List Hold × Cur) × (Nat)) (fun ⟨⟨list2, c_5⟩, b15⟩ => ⟨95, [(3, .sref b15 6 0 (List.length list2))], [(b15, ⟨6, List.map (encHold rn) list2⟩), (bp, ⟨3, [encCur ρ0 c_5]⟩)]⟩) (fun ⟨⟨list2, c_5⟩, b15⟩ => ((list2, c_5) = j4)) ?_ ?_
  ·
   refine V.block ?_
   refine V.seq ?_
   refine V.region ?_
   refine VO.cons rfl (V1.int rfl rfl rfl rfl rfl (ltb rfl) ?_)
   refine VO.cons rfl (V1.assign rfl rfl rfl (ltb rfl) ?_)
   refine VO.nil ?_
   refine V.cond rfl (fun hc4 => ?_) (fun hc4 => ?_)
   ·
    replace hm1 := cond_t hc4 hm1
    replace hm1 := bindO hm1; rcases hm1 with ⟨y10, hh11, hm1⟩
    replace hm1 := bindO hm1; rcases hm1 with ⟨y11, hh12, hm1⟩
    replace hm1 := bindO hm1; rcases hm1 with ⟨y12, hh13, hm1⟩
    replace hm1 := bindO hm1; rcases hm1 with ⟨y13, hh14, hm1⟩
    replace hm1 := asrt_some hm1; rcases hm1 with ⟨hh15, hm1⟩
    refine V.region ?_
    refine VO.cons rfl (V1.move rfl rfl rfl (ltb rfl) ?_)
    refine VO.cons rfl (V1.move rfl rfl rfl (ltb rfl) ?_)
    refine VO.cons rfl (V1.buildSliceT (f := encInt) ([(0 : Int), (6 : Int), (99 : Int), (100 : Int)] : List Int) rfl rfl esz_34 zk_3 rfl rfl rfl rfl rfl rfl rfl (ltb rfl) ?_)
    intro b16
    refine VO.cons rfl (V1.callM 1 (rn + ρ0 + 1) [b16] [.ref bp 3 0 0, .vl (rn + ρ0 + 1) 1 (List.map encInt ([(0 : Int), (6 : Int), (99 : Int), (100 : Int)] : List Int))] (p := (bp, ⟨3, [encCur ρ0 y9.2]⟩)) rfl rfl rfl cok_151 rfl rfl ⟨_, _, rfl, .same _, ⟨_, _, rfl, Lend.srMap 0 rfl (fun _ => rfl) (.head _), rfl⟩⟩ (bwCons (k := 0) rfl bwNil) (ok_spec_l1Cur_among hh11) rfl (.inr ⟨(by dsimp only; omega), by rintro _ _ ⟨rfl, rfl⟩; exact ⟨by simp [PV.no, PV.noL, optS_no, noL_iff, nbeq] <;> omega, by intro b ob h; first | exact optH_no (noL_map (fun _ => by simp [PV.no, PV.noL, noL_iff, nbeq]) _) b ob h | (simp at h; obtain ⟨rfl, rfl⟩ := h; exact noL_map (fun _ => by simp [PV.no, PV.noL, noL_iff, nbeq]) _) | (simp at h; obtain ⟨rfl, rfl⟩ := h; simp [PV.no, PV.noL, optS_no, noL_iff, nbeq] <;> omega)⟩⟩) (ltb rfl) ?_)
    rintro _ _ ⟨rfl, rfl⟩
    refine VO.cons rfl (V1.move rfl rfl rfl (ltb rfl) ?_)
    refine VO.cons rfl (V1.buildSliceT (f := encInt) ([(0 : Int), (20000 : Int), (20001 : Int)] : List Int) rfl rfl esz_34 zk_3 rfl rfl rfl rfl rfl rfl rfl (ltb rfl) ?_)
    intro b17
    refine VO.cons rfl (V1.callM 1 (rn + ρ0 + 1) [b17] [.ref bp 3 0 0, .vl (rn + ρ0 + 1) 1 (List.map encInt ([(0 : Int), (20000 : Int), (20001 : Int)] : List Int))] (p := (bp, ⟨3, [encCur ρ0 y10.2]⟩)) rfl rfl rfl cok_151 rfl rfl ⟨_, _, rfl, .same _, ⟨_, _, rfl, Lend.srMap 0 rfl (fun _ => rfl) (.head _), rfl⟩⟩ (bwCons (k := 0) rfl bwNil) (ok_spec_l1Cur_among hh12) rfl (.inr ⟨(by dsimp only; omega), by rintro _ _ ⟨rfl, rfl⟩; exact ⟨by simp [PV.no, PV.noL, optS_no, noL_iff, nbeq] <;> omega, by intro b ob h; first | exact optH_no (noL_map (fun _ => by simp [PV.no, PV.noL, noL_iff, nbeq]) _) b ob h | (simp at h; obtain ⟨rfl, rfl⟩ := h; exact noL_map (fun _ => by simp [PV.no, PV.noL, noL_iff, nbeq]) _) | (simp at h; obtain ⟨rfl, rfl⟩ := h; simp [PV.no, PV.noL, optS_no, noL_iff, nbeq] <;> omega)⟩⟩) (ltb rfl) ?_)
    rintro _ _ ⟨rfl, rfl⟩
    refine VO.cons rfl (V1.move rfl rfl rfl (ltb rfl) ?_)
    refine VO.cons rfl (V1.buildSliceT (f := encInt) ([(-1 : Int), (0 : Int), (20001 : Int)] : List Int) rfl rfl esz_34 zk_3 rfl rfl rfl rfl rfl rfl rfl (ltb rfl) ?_)
    intro b18
    refine VO.cons rfl (V1.callM 1 (rn + ρ0 + 1) [b18] [.ref bp 3 0 0, .vl (rn + ρ0 + 1) 1 (List.map encInt ([(-1 : Int), (0 : Int), (20001 : Int)] : List Int))] (p := (bp, ⟨3, [encCur ρ0 y11.2]⟩)) rfl rfl rfl cok_151 rfl rfl ⟨_, _, rfl, .same _, ⟨_, _, rfl, Lend.srMap 0 rfl (fun _ => rfl) (.head _), rfl⟩⟩ (bwCons (k := 0) rfl bwNil) (ok_spec_l1Cur_among hh13) rfl (.inr ⟨(by dsimp only; omega), by rintro _ _ ⟨rfl, rfl⟩; exact ⟨by simp [PV.no, PV.noL, optS_no, noL_iff, nbeq] <;> omega, by intro b ob h; first | exact optH_no (noL_map (fun _ => by simp [PV.no, PV.noL, noL_iff, nbeq]) _) b ob h | (simp at h; obtain ⟨rfl, rfl⟩ := h; exact noL_map (fun _ => by simp [PV.no, PV.noL, noL_iff, nbeq]) _) | (simp at h; obtain ⟨rfl, rfl⟩ := h; simp [PV.no, PV.noL, optS_no, noL_iff, nbeq] <;> omega)⟩⟩) (ltb rfl) ?_)
    rintro _ _ ⟨rfl, rfl⟩
    refine VO.cons rfl (V1.buildSliceT (f := encInt) ([] : List Int) rfl rfl esz_34 zk_3 rfl rfl rfl rfl rfl rfl rfl (ltb rfl) ?_)
    intro b19
    refine VO.cons rfl (V1.move rfl rfl rfl (ltb rfl) ?_)
    refine VO.cons rfl (V1.buildSliceT (f := encInt) ([(0 : Int), (20001 : Int)] : List Int) rfl rfl esz_34 zk_3 rfl rfl rfl rfl rfl rfl rfl (ltb rfl) ?_)
    intro b20
    refine VO.cons rfl (V1.callM 2 (rn + ρ0 + 1) [b20] [.ref bp 3 0 0, .vl (rn + ρ0 + 1) 1 (List.map encInt ([(0 : Int), (20001 : Int)] : List Int))] (p := (bp, ⟨3, [encCur ρ0 y12.2]⟩)) rfl rfl rfl cok_151 rfl rfl ⟨_, _, rfl, .same _, ⟨_, _, rfl, Lend.srMap 0 rfl (fun _ => rfl) (.head _), rfl⟩⟩ (bwCons (k := 0) rfl bwNil) (ok_spec_l1Cur_among hh14) rfl (.inr ⟨(by dsimp only; omega), by rintro _ _ ⟨rfl, rfl⟩; exact ⟨by simp [PV.no, PV.noL, optS_no, noL_iff, nbeq] <;> omega, by intro b ob h; first | exact optH_no (noL_map (fun _ => by simp [PV.no, PV.noL, noL_iff, nbeq]) _) b ob h | (simp at h; obtain ⟨rfl, rfl⟩ := h; exact noL_map (fun _ => by simp [PV.no, PV.noL, noL_iff, nbeq]) _) | (simp at h; obtain ⟨rfl, rfl⟩ := h; simp [PV.no, PV.noL, optS_no, noL_iff, nbeq] <;> omega)⟩⟩) (ltb rfl) ?_)
    rintro _ _ ⟨rfl, rfl⟩
    refine VO.cons rfl (V1.build rfl rfl zk_183 pl_183 rfl rfl (ltb rfl) ?_)
    refine VO.weakenK (Keeps.freezeG 2 rn [(61, .vl rn 1 (List.map encInt ([] : List Int))), (65, .agg [.int .i64 y10.1, .int .i64 y11.1, .int .i64 y12.1, .vl rn 1 (List.map encInt ([] : List Int)), .int .i64 (0 : Int), .int .i64 y13.1])] [(bp, ⟨3, [encCur ρ0 y13.2]⟩), (b20, ⟨1, List.map encInt ([(0 : Int), (20001 : Int)] : List Int)⟩), (b18, ⟨1, List.map encInt ([(-1 : Int), (0 : Int), (20001 : Int)] : List Int)⟩), (b17, ⟨1, List.map encInt ([(0 : Int), (20000 : Int), (20001 : Int)] : List Int)⟩), (b16, ⟨1, List.map encInt ([(0 : Int), (6 : Int), (99 : Int), (100 : Int)] : List Int)⟩), (b1, ⟨6, List.map (encHold rn) list⟩)] (f := encInt) (l := ([] : List Int)) rfl (fun _ => rfl) ⟨⟨_, rfl, .here⟩, ⟨_, rfl, (.agg (.cons .same (.cons .same (.cons .same (.cons .here (.cons .same (.cons .same .nil)))))))⟩, trivial⟩ ⟨_, _, rfl, rfl, .inl rfl, ⟨_, _, rfl, rfl, .inl rfl, ⟨_, _, rfl, rfl, .inl rfl, ⟨_, _, rfl, rfl, .inl rfl, ⟨_, _, rfl, rfl, .inl rfl, ⟨_, _, rfl, rfl, .inl rfl, rfl⟩⟩⟩⟩⟩⟩ rfl (iOne (b := bp) 0 rfl)) ?_
    refine VO.cons rfl (V1.buildSliceT (f := (encHold rn)) ([(⟨y10.1, y11.1, y12.1, ([] : List Int), (0 : Int), y13.1⟩ : Hold)] : List Hold) rfl rfl esz_92 zk_183 rfl rfl rfl rfl rfl rfl rfl (ltb rfl) ?_)
    intro b21
    refine VO.cons rfl (V1.appendMap (k := 6) (f := (encHold rn)) (l := list) (m := ([(⟨y10.1, y11.1, y12.1, ([] : List Int), (0 : Int), y13.1⟩ : Hold)] : List Hold)) rfl rfl rfl rfl rfl esz_92 eby_92 zk_183 rfl rfl rfl (SrcOf.srMap (k := 0) rfl isl_92) hh15 (ltb rfl) ?_)
    intro b22
    refine VO.cons rfl (V1.assign rfl rfl rfl (ltb rfl) ?_)
    refine VO.nil ?_
    exact ⟨(((list ++ ([(⟨y10.1, y11.1, y12.1, ([] : List Int), (0 : Int), y13.1⟩ : Hold)] : List Hold)), y13.2), b22), Option.some.inj hm1, Keeps.mk (ks := [0, 2]) rfl ⟨rfl, trivial⟩ (⟨_, _, rfl, rfl, ⟨_, _, rfl, rfl, rfl⟩⟩) rfl⟩
   ·
    replace hm1 := cond_f hc4 hm1
    refine V.seq ?_
    refine V.region ?_
    refine VO.cons rfl (V1.int rfl rfl rfl rfl rfl (ltb rfl) ?_)
    refine VO.cons rfl (V1.assign rfl rfl rfl (ltb rfl) ?_)
    refine VO.nil ?_
    refine V.keep 95 [0, 3, 48, 68] [0, 1] (E0 := [(0, .ref bp 3 0 0), (3, .sref b1 6 0 (List.length list)), (48, .int .i64 y9.1), (68, .bool (y9.1 == (1 : Int)))]) (H0 := [(bp, ⟨3, [encCur ρ0 y9.2]⟩), (b1, ⟨6, List.map (encHold rn) list⟩)]) rfl (⟨_, _, rfl, rfl, ⟨_, _, rfl, rfl, ⟨_, _, rfl, rfl, ⟨_, _, rfl, rfl, rfl⟩⟩⟩⟩) (⟨_, _, rfl, rfl, ⟨_, _, rfl, rfl, rfl⟩⟩) rfl ?_
    refine V.cond rfl (fun hc5 => ?_) (fun hc5 => ?_)
    ·
     replace hm1 := cond_t hc5 hm1
     replace hm1 := bindO hm1; rcases hm1 with ⟨e1, he2, hm1⟩
     refine V.cutT (D := (List Hold × Cur) × (Nat)) (fun ⟨⟨list3, c_6⟩, b23⟩ => ⟨95, [(3, .sref b23 6 0 (List.length list3))], [(b23, ⟨6, List.map (encHold rn) list3⟩), (bp, ⟨3, [encCur ρ0 c_6]⟩)]⟩) (fun ⟨⟨list3, c_6⟩, b23⟩ => ((list3, c_6) = e1)) ?_ ?_
     ·
      refine V.block ?_
      refine V.keep 95 [3, 0] [1, 0] (E0 := [(3, .sref b1 6 0 (List.length list)), (0, .ref bp 3 0 0)]) (H0 := [(b1, ⟨6, List.map (encHold rn) list⟩), (bp, ⟨3, [encCur ρ0 y9.2]⟩)]) rfl (⟨_, _, rfl, rfl, ⟨_, _, rfl, rfl, rfl⟩⟩) (⟨_, _, rfl, rfl, ⟨_, _, rfl, rfl, rfl⟩⟩) rfl ?_
      refine V.loopE (D := Nat × (List Hold × Cur) × (Nat)) (fun ⟨n1, ⟨list4, c_7⟩, b24⟩ => [(3, .sref b24 6 0 (List.length list4))]) (fun ⟨n1, ⟨list4, c_7⟩, b24⟩ => [(b24, ⟨6, List.map (encHold rn) list4⟩), (bp, ⟨3, [encCur ρ0 c_7]⟩)]) (fun ⟨n1, ⟨list4, c_7⟩, b24⟩ => loopO (M.spec_l1Cur_holds_l1) n1 (list4, c_7) = some e1) (fun ⟨n1, _, _⟩ => n1) (rounds, (list, y9.2), b1) rfl he2 ?_
      rintro ⟨n1, ⟨list4, c_7⟩, b24⟩ hP1
      obtain ⟨m1, y14, rfl, hm2, hl2, hr2⟩ := loop_head hP1
      unfold M.spec_l1Cur_holds_l1 at hm2; dsimp only at hm2
      show V _ _ _ ⟨95, [(3, .sref b24 6 0 (List.length list4)), (0, .ref bp 3 0 0)], [(b24, ⟨6, List.map (encHold rn) list4⟩), (bp, ⟨3, [encCur ρ0 c_7]⟩)]⟩
      refine V.seq ?_
      refine V.seq ?_
      replace hm2 := bindO hm2; rcases hm2 with ⟨y15, hh16, hm2⟩
      refine V.region ?_
      refine VO.cons rfl (V1.move rfl rfl rfl (ltb rfl) ?_)
      refine VO.cons rfl (V1.lenSref rfl rfl rfl rfl rfl rfl isl_92 (ltb rfl) ?_)
      refine VO.cons rfl (V1.move rfl rfl rfl (ltb rfl) ?_)
      refine VO.cons rfl (V1.callM 1 (rn + ρ0 + 1) [] [.ref bp 3 0 0, .int .i64 (2 : Int)] (p := (bp, ⟨3, [encCur ρ0 c_7]⟩)) rfl rfl rfl cok_152 rfl rfl ⟨_, _, rfl, .same _, ⟨_, _, rfl, .same _, rfl⟩⟩ bwNil (ok_spec_l1Cur_pick hh16) rfl (.inl rfl) (ltb rfl) ?_)
      rintro _ _ ⟨rfl, rfl⟩
      refine VO.cons rfl (V1.int rfl rfl rfl rfl rfl (ltb rfl) ?_)
      refine VO.cons rfl (V1.int rfl rfl rfl rfl rfl (ltb rfl) ?_)
      refine VO.nil ?_
      refine V.keep 95 [0, 3, 75] [0, 1] (E0 := [(0, .ref bp 3 0 0), (3, .sref b24 6 0 (List.length list4)), (75, .bool (decide ((list4.length : Int) < (IntKind.i64.wrap ((8 : Int) + y15.1)))))]) (H0 := [(bp, ⟨3, [encCur ρ0 y15.2]⟩), (b24, ⟨6, List.map (encHold rn) list4⟩)]) rfl (⟨_, _, rfl, rfl, ⟨_, _, rfl, rfl, ⟨_, _, rfl, rfl, rfl⟩⟩⟩) (⟨_, _, rfl, rfl, ⟨_, _, rfl, rfl, rfl⟩⟩) rfl ?_
      refine V.cond rfl (fun hc6 => ?_) (fun hc6 => ?_)
      ·
       replace hm2 := cond_t hc6 hm2
       refine V.skip ?_
       refine V.block ?_
       replace hm2 := asrt_some hm2; rcases hm2 with ⟨hh17, hm2⟩
       refine V.region ?_
       refine VO.cons rfl (V1.move rfl rfl rfl (ltb rfl) ?_)
       refine VO.cons rfl (V1.move rfl rfl rfl (ltb rfl) ?_)
       refine VO.cons rfl (V1.lenSref rfl rfl rfl rfl rfl rfl isl_92 (ltb rfl) ?_)
       refine VO.cons rfl (V1.int rfl rfl rfl rfl rfl (ltb rfl) ?_)
       refine VO.cons rfl (V1.buildSliceT (f := encInt) ([] : List Int) rfl rfl esz_34 zk_3 rfl rfl rfl rfl rfl rfl rfl (ltb rfl) ?_)
       intro b25
       refine VO.cons rfl (V1.build rfl rfl zk_183 pl_183 rfl rfl (ltb rfl) ?_)
       refine VO.weakenK (Keeps.freezeG 0 rn [(80, .vl rn 1 (List.map encInt ([] : List Int))), (81, .agg [.int .i64 (IntKind.i64.wrap ((50 : Int) + (list4.length : Int))), .int .i64 (0 : Int), .int .i64 (-1 : Int), .vl rn 1 (List.map encInt ([] : List Int)), .int .i64 (0 : Int), .int .i64 (0 : Int)])] [(bp, ⟨3, [encCur ρ0 y15.2]⟩), (b24, ⟨6, List.map (encHold rn) list4⟩)] (f := encInt) (l := ([] : List Int)) rfl (fun _ => rfl) ⟨⟨_, rfl, .here⟩, ⟨_, rfl, (.agg (.cons .same (.cons .same (.cons .same (.cons .here (.cons .same (.cons .same .nil)))))))⟩, trivial⟩ ⟨_, _, rfl, rfl, .inl rfl, ⟨_, _, rfl, rfl, .inl rfl, rfl⟩⟩ rfl (iOne (b := bp) 0 rfl)) ?_
       refine VO.cons rfl (V1.buildSliceT (f := (encHold rn)) ([(⟨(IntKind.i64.wrap ((50 : Int) + (list4.length : Int))), (0 : Int), (-1 : Int), ([] : List Int), (0 : Int), (0 : Int)⟩ : Hold)] : List Hold) rfl rfl esz_92 zk_183 rfl rfl rfl rfl rfl rfl rfl (ltb rfl) ?_)
       intro b26
       refine VO.cons rfl (V1.appendMap (k := 2) (f := (encHold rn)) (l := list4) (m := ([(⟨(IntKind.i64.wrap ((50 : Int) + (list4.length : Int))), (0 : Int), (-1 : Int), ([] : List Int), (0 : Int), (0 : Int)⟩ : Hold)] : List Hold)) rfl rfl rfl rfl rfl esz_92 eby_92 zk_183 rfl rfl rfl (SrcOf.srMap (k := 0) rfl isl_92) hh17 (ltb rfl) ?_)
       intro b27
       refine VO.cons rfl (V1.assign rfl rfl rfl (ltb rfl) ?_)
       refine VO.nil ?_
       exact ⟨(m1, ((list4 ++ ([(⟨(IntKind.i64.wrap ((50 : Int) + (list4.length : Int))), (0 : Int), (-1 : Int), ([] : List Int), (0 : Int), (0 : Int)⟩ : Hold)] : List Hold)), y15.2), b27), hl2 _ (Option.some.inj hm2).symm, Nat.lt_succ_self _, Keeps.mk (ks := [0, 2]) rfl ⟨rfl, rfl, trivial⟩ (⟨_, _, rfl, rfl, ⟨_, _, rfl, rfl, rfl⟩⟩) rfl⟩
      ·
       replace hm2 := cond_f hc6 hm2
       refine V.exit ?_
       obtain rfl := hr2 _ (Option.some.inj hm2).symm
       exact ⟨((list4, y15.2), b24), rfl, Keeps.mk (ks := [1, 0]) rfl ⟨rfl, trivial⟩ (⟨_, _, rfl, rfl, ⟨_, _, rfl, rfl, rfl⟩⟩) rfl⟩
     ·
      rintro ⟨⟨list3, c_6⟩, b23⟩ rfl
      try dsimp only at hm1
      exact ⟨((list3, c_6), b23), Option.some.inj hm1, Keeps.mk (ks := [0, 1]) rfl ⟨rfl, trivial⟩ (⟨_, _, rfl, rfl, ⟨_, _, rfl, rfl, rfl⟩⟩) rfl⟩
    ·
     replace hm1 := cond_f hc5 hm1
     refine V.seq ?_
     refine V.region ?_
     refine VO.cons rfl (V1.int rfl rfl rfl rfl rfl (ltb rfl) ?_)
     refine VO.cons rfl (V1.assign rfl rfl rfl (ltb rfl) ?_)
     refine VO.nil ?_
     refine V.cond rfl (fun hc7 => ?_) (fun hc7 => ?_)
     ·
      replace hm1 := cond_t hc7 hm1
      replace hm1 := bindO hm1; rcases hm1 with ⟨y16, hh18, hm1⟩
      replace hm1 := asrt_some hm1; rcases hm1 with ⟨hh19, hm1⟩
      replace hm1 := asrt_some hm1; rcases hm1 with ⟨hh20, hm1⟩
      refine V.region ?_
      refine VO.cons rfl (V1.move rfl rfl rfl (ltb rfl) ?_)
      refine VO.cons rfl (V1.buildSliceT (f := encInt) ([(1 : Int), (2 : Int), (3 : Int), (4 : Int), (5 : Int), (6 : Int)] : List Int) rfl rfl esz_34 zk_3 rfl rfl rfl rfl rfl rfl rfl (ltb rfl) ?_)
      intro b28
      refine VO.cons rfl (V1.move rfl rfl rfl (ltb rfl) ?_)
      refine VO.cons rfl (V1.callM 1 (rn + ρ0 + 1) [] [.ref bp 3 0 0, .int .i64 (2 : Int)] (p := (bp, ⟨3, [encCur ρ0 y9.2]⟩)) rfl rfl rfl cok_152 rfl rfl ⟨_, _, rfl, .same _, ⟨_, _, rfl, .same _, rfl⟩⟩ bwNil (ok_spec_l1Cur_pick hh18) rfl (.inl rfl) (ltb rfl) ?_)
      rintro _ _ ⟨rfl, rfl⟩
      refine VO.weakenK (Keeps.freezeG 1 rn [(87, .vl rn 1 (List.map encInt ([(1 : Int), (2 : Int), (3 : Int), (4 : Int), (5 : Int), (6 : Int)] : List Int)))] [(bp, ⟨3, [encCur ρ0 y16.2]⟩), (b1, ⟨6, List.map (encHold rn) list⟩)] (f := encInt) (l := ([(1 : Int), (2 : Int), (3 : Int), (4 : Int), (5 : Int), (6 : Int)] : List Int)) rfl (fun _ => rfl) ⟨⟨_, rfl, .here⟩, trivial⟩ ⟨_, _, rfl, rfl, .inl rfl, ⟨_, _, rfl, rfl, .inl rfl, rfl⟩⟩ rfl (iOne (b := bp) 0 rfl)) ?_
      refine VO.cons rfl (V1.sliceMap (a := y16.1) (b := (([(1 : Int), (2 : Int), (3 : Int), (4 : Int), (5 : Int), (6 : Int)] : List Int).length : Int)) rfl rfl esz_34 rfl (Bnd.some rfl hh19.1 _) (Bnd.none _ _) hh19 (ltb rfl) ?_)
      refine VO.cons rfl (V1.build rfl rfl zk_183 pl_183 rfl rfl (ltb rfl) ?_)
      refine VO.cons rfl (V1.buildSliceT (f := (encHold rn)) ([(⟨(98 : Int), (0 : Int), (-1 : Int), (slc ([(1 : Int), (2 : Int), (3 : Int), (4 : Int), (5 : Int), (6 : Int)] : List Int) y16.1 (([(1 : Int), (2 : Int), (3 : Int), (4 : Int), (5 : Int), (6 : Int)] : List Int).length : Int)), (0 : Int), (9 : Int)⟩ : Hold)] : List Hold) rfl rfl esz_92 zk_183 rfl rfl rfl rfl rfl rfl rfl (ltb rfl) ?_)
      intro b29
      refine VO.cons rfl (V1.appendMap (k := 2) (f := (encHold rn)) (l := list) (m := ([(⟨(98 : Int), (0 : Int), (-1 : Int), (slc ([(1 : Int), (2 : Int), (3 : Int), (4 : Int), (5 : Int), (6 : Int)] : List Int) y16.1 (([(1 : Int), (2 : Int), (3 : Int), (4 : Int), (5 : Int), (6 : Int)] : List Int).length : Int)), (0 : Int), (9 : Int)⟩ : Hold)] : List Hold)) rfl rfl rfl rfl rfl esz_92 eby_92 zk_183 rfl rfl rfl (SrcOf.srMap (k := 0) rfl isl_92) hh20 (ltb rfl) ?_)
      intro b30
      refine VO.cons rfl (V1.assign rfl rfl rfl (ltb rfl) ?_)
      refine VO.nil ?_
      exact ⟨(((list ++ ([(⟨(98 : Int), (0 : Int), (-1 : Int), (slc ([(1 : Int), (2 : Int), (3 : Int), (4 : Int), (5 : Int), (6 : Int)] : List Int) y16.1 (([(1 : Int), (2 : Int), (3 : Int), (4 : Int), (5 : Int), (6 : Int)] : List Int).length : Int)), (0 : Int), (9 : Int)⟩ : Hold)] : List Hold)), y16.2), b30), Option.some.inj hm1, Keeps.mk (ks := [0, 2]) rfl ⟨rfl, trivial⟩ (⟨_, _, rfl, rfl, ⟨_, _, rfl, rfl, rfl⟩⟩) rfl⟩
     ·
      replace hm1 := cond_f hc7 hm1
      refine V.skip ?_
      exact ⟨((list, y9.2), b1), Option.some.inj hm1, Keeps.mk (ks := [1, 0]) rfl ⟨rfl, trivial⟩ (⟨_, _, rfl, rfl, ⟨_, _, rfl, rfl, rfl⟩⟩) rfl⟩
  ·
   rintro ⟨⟨list2, c_5⟩, b15⟩ rfl
   try dsimp only at hm0
   refine V.seq ?_
   refine V.region ?_
   refine VO.cons rfl (V1.move rfl rfl rfl (ltb rfl) ?_)
   refine VO.cons rfl (V1.assign rfl rfl rfl (ltb rfl) ?_)
   refine VO.nil ?_
   refine V.keep 95 [2] [0, 1] (E0 := [(2, .sref b15 6 0 (List.length list2))]) (H0 := [(b15, ⟨6, List.map (encHold rn) list2⟩), (bp, ⟨3, [encCur ρ0 c_5]⟩)]) rfl (⟨_, _, rfl, rfl, rfl⟩) (⟨_, _, rfl, rfl, ⟨_, _, rfl, rfl, rfl⟩⟩) rfl ?_
   refine V.ret ?_
   obtain rfl := Option.some.inj hm0
   exact ⟨_, _, ⟨_, _, rfl, rfl, rfl⟩, List.Sublist.refl _, b15, rfl, rfl⟩

theorem ok_spec_DrawReleaseHold {ρ0 rn : Nat} {code : List Int} {r : List Hold × Int × Int} (h : M.spec_DrawReleaseHold code = some r) : Does Try.prog 101 [.vl ρ0 1 (List.map encU8 code)] [] rn (fun x H => ∃ (ob0_ : Nat), x = .tup [PV.sref ob0_ 6 0 (List.length r.1), .int .i64 r.2.1, .int .i64 r.2.2] ∧ H = [(ob0_, ⟨6, List.map (encHold rn) r.1⟩)]) := by
 have hm0 := h; clear h; unfold M.spec_DrawReleaseHold at hm0
 try dsimp only at hm0
 refine Does.intro (N := 37) Try.func101 rfl rfl rfl rfl ?_
 intro w0 S0
 refine V.seq ?_
 refine V.region ?_
 refine VO.cons rfl (V1.assign rfl rfl rfl (ltb rfl) ?_)
 refine VO.cons rfl (V1.assign rfl rfl rfl (ltb rfl) ?_)
 refine VO.cons rfl (V1.assign rfl rfl rfl (ltb rfl) ?_)
 refine VO.nil ?_
 refine V.seq ?_
 refine V.region ?_
 refine VO.cons rfl (V1.move rfl rfl rfl (ltb rfl) ?_)
 refine VO.cons rfl (V1.build rfl rfl zk_149 pl_149 rfl rfl (ltb rfl) ?_)
 refine VO.cons rfl (V1.boxN (n := 3) rfl rfl rfl rfl rfl (ltb rfl) ?_)
 intro b0
 refine VO.cons rfl (V1.assign rfl rfl rfl (ltb rfl) ?_)
 refine VO.nil ?_
 refine V.keep 37 [5] [0] (E0 := [(5, .ref b0 3 0 0)]) (H0 := [(b0, ⟨3, [.agg [.vl ρ0 1 (List.map encU8 code), .int .i64 (0 : Int), .int .u64 (0 : Int)]]⟩)]) rfl (⟨_, _, rfl, rfl, rfl⟩) (⟨_, _, rfl, rfl, rfl⟩) rfl ?_
 refine V.seq ?_
 replace hm0 := bindO hm0; rcases hm0 with ⟨y0, hh0, hm0⟩
 refine V.region ?_
 refine VO.cons rfl (V1.move rfl rfl rfl (ltb rfl) ?_)
 refine VO.cons rfl (V1.callM 0 (rn + ρ0 + 1) [] [.ref b0 3 0 0] (p := (b0, ⟨3, [.agg [.vl ρ0 1 (List.map encU8 code), .int .i64 (0 : Int), .int .u64 (0 : Int)]]⟩)) rfl rfl rfl cok_181 rfl rfl ⟨_, _, rfl, .same _, rfl⟩ bwNil (ok_spec_l1Cur_holds hh0) rfl (.inl rfl) (ltb rfl) ?_)
 rintro _ _ ⟨b1, rfl, rfl⟩
 refine VO.cons rfl (V1.assign rfl rfl rfl (ltb rfl) ?_)
 refine VO.nil ?_
 refine V.seq ?_
 replace hm0 := bindO hm0; rcases hm0 with ⟨y1, hh1, hm0⟩
 refine V.region ?_
 refine VO.cons rfl (V1.move rfl rfl rfl (ltb rfl) ?_)
 refine VO.cons rfl (V1.buildSliceT (f := encInt) ([(0 : Int), (6 : Int), (12 : Int)] : List Int) rfl rfl esz_34 zk_3 rfl rfl rfl rfl rfl rfl rfl (ltb rfl) ?_)
 intro b2
 refine VO.cons rfl (V1.callM 2 (rn + ρ0 + 1) [b2] [.ref b0 3 0 0, .vl (rn + ρ0 + 1) 1 (List.map encInt ([(0 : Int), (6 : Int), (12 : Int)] : List Int))] (p := (b0, ⟨3, [encCur ρ0 y0.2]⟩)) rfl rfl rfl cok_151 rfl rfl ⟨_, _, rfl, .same _, ⟨_, _, rfl, Lend.srMap 0 rfl (fun _ => rfl) (.head _), rfl⟩⟩ (bwCons (k := 0) rfl bwNil) (ok_spec_l1Cur_among hh1) rfl (.inr ⟨(by dsimp only; omega), by rintro _ _ ⟨rfl, rfl⟩; exact ⟨by simp [PV.no, PV.noL, optS_no, noL_iff, nbeq] <;> omega, by intro b ob h; first | exact optH_no (noL_map (fun _ => by simp [PV.no, PV.noL, noL_iff, nbeq]) _) b ob h | (simp at h; obtain ⟨rfl, rfl⟩ := h; exact noL_map (fun _ => by simp [PV.no, PV.noL, noL_iff, nbeq]) _) | (simp at h; obtain ⟨rfl, rfl⟩ := h; simp [PV.no, PV.noL, optS_no, noL_iff, nbeq] <;> omega)⟩⟩) (ltb rfl) ?_)
 rintro _ _ ⟨rfl, rfl⟩
 refine VO.cons rfl (V1.assign rfl rfl rfl (ltb rfl) ?_)
 refine VO.nil ?_
 refine V.keep 37 [5, 6, 7] [0, 2] (E0 := [(5, .ref b0 3 0 0), (6, .sref b1 6 0 (List.length y0.1)), (7, .int .i64 y1.1)]) (H0 := [(b0, ⟨3, [encCur ρ0 y1.2]⟩), (b1, ⟨6, List.map (encHold rn) y0.1⟩)]) rfl (⟨_, _, rfl, rfl, ⟨_, _, rfl, rfl, ⟨_, _, rfl, rfl, rfl⟩⟩⟩) (⟨_, _, rfl, rfl, ⟨_, _, rfl, rfl, rfl⟩⟩) rfl ?_
 refine V.seq ?_
 replace hm0 := bindO hm0; rcases hm0 with ⟨j0, hm1, hm0⟩
 refine V.cutT (D := (Int × Cur) × (Unit)) (fun ⟨⟨id_, c_⟩, _⟩ => ⟨37, [(7, .int .i64 id_), (5, .ref b0 3 0 0), (6, .sref b1 6 0 (List.length y0.1))], [(b0, ⟨3, [encCur ρ0 c_]⟩), (b1, ⟨6, List.map (encHold rn) y0.1⟩)]⟩) (fun ⟨⟨id_, c_⟩, _⟩ => ((id_, c_) = j0)) ?_ ?_
 ·
  refine V.seq ?_
  replace hm1 := bindO hm1; rcases hm1 with ⟨y2, hh2, hm1⟩
  refine V.region ?_
  refine VO.cons rfl (V1.move rfl rfl rfl (ltb rfl) ?_)
  refine VO.cons rfl (V1.lenSref rfl rfl rfl rfl rfl rfl isl_92 (ltb rfl) ?_)
  refine VO.cons rfl (V1.int rfl rfl rfl rfl rfl (ltb rfl) ?_)
  refine VO.cons rfl (V1.move rfl rfl rfl (ltb rfl) ?_)
  apply VO.andH (n := 3) [(b0, ⟨3, [encCur ρ0 (bif (decide ((y0.1.length : Int) > (0 : Int))) then y2.2 else y1.2)]⟩), (b1, ⟨6, List.map (encHold rn) y0.1⟩)] rfl rfl rfl rfl rfl rfl (ltb rfl) (.none rfl) (fun h => by rw [h]; rfl)
  ·
   intro hg0
   refine VO.step (.some rfl rfl rfl) (V1.move rfl rfl rfl (ltb rfl) ?_)
   refine VO.step (.some rfl rfl rfl) (V1.callM 0 (rn + ρ0 + 1) [] [.ref b0 3 0 0, .int .i64 (6 : Int)] (p := (b0, ⟨3, [encCur ρ0 y1.2]⟩)) rfl rfl rfl cok_155 rfl rfl ⟨_, _, rfl, .same _, ⟨_, _, rfl, .same _, rfl⟩⟩ bwNil (ok_spec_l1Cur_one (cond_t hg0 hh2)) rfl (.inl rfl) (ltb rfl) ?_)
   rintro _ _ ⟨rfl, rfl⟩
   refine VO.step (.some rfl rfl rfl) (V1.not rfl rfl rfl (ltb rfl) ?_)
   exact VO.nil ⟨rfl, rfl, rfl, (by rw [hg0]; rfl), .inr ⟨rfl, .inr ⟨rfl, .inr ⟨rfl, .inr ⟨rfl, .inl rfl⟩⟩⟩⟩⟩
  refine VO.nil ?_
  refine V.keep 37 [5, 6, 7, 23] [0, 1] (E0 := [(5, .ref b0 3 0 0), (6, .sref b1 6 0 (List.length y0.1)), (7, .int .i64 y1.1), (23, .bool ((decide ((y0.1.length : Int) > (0 : Int))) && (!y2.1)))]) (H0 := [(b0, ⟨3, [encCur ρ0 (bif (decide ((y0.1.length : Int) > (0 : Int))) then y2.2 else y1.2)]⟩), (b1, ⟨6, List.map (encHold rn) y0.1⟩)]) rfl (⟨_, _, rfl, rfl, ⟨_, _, rfl, rfl, ⟨_, _, rfl, rfl, ⟨_, _, rfl, rfl, rfl⟩⟩⟩⟩) (⟨_, _, rfl, rfl, ⟨_, _, rfl, rfl, rfl⟩⟩) rfl ?_
  refine V.cond rfl (fun hc0 => ?_) (fun hc0 => ?_)
  ·
   replace hm1 := cond_t hc0 hm1
   replace hm1 := bindO hm1; rcases hm1 with ⟨y3, hh3, hm1⟩
   replace hm1 := asrt_some hm1; rcases hm1 with ⟨hh4, hm1⟩
   refine V.region ?_
   refine VO.cons rfl (V1.move rfl rfl rfl (ltb rfl) ?_)
   refine VO.cons rfl (V1.move rfl rfl rfl (ltb rfl) ?_)
   refine VO.cons rfl (V1.move rfl rfl rfl (ltb rfl) ?_)
   refine VO.cons rfl (V1.lenSref rfl rfl rfl rfl rfl rfl isl_92 (ltb rfl) ?_)
   refine VO.cons rfl (V1.callM 0 (rn + ρ0 + 1) [] [.ref b0 3 0 0, .int .i64 (y0.1.length : Int)] (p := (b0, ⟨3, [encCur ρ0 (bif (decide ((y0.1.length : Int) > (0 : Int))) then y2.2 else y1.2)]⟩)) rfl rfl rfl cok_152 rfl rfl ⟨_, _, rfl, .same _, ⟨_, _, rfl, .same _, rfl⟩⟩ bwNil (ok_spec_l1Cur_pick hh3) rfl (.inl rfl) (ltb rfl) ?_)
   rintro _ _ ⟨rfl, rfl⟩
   refine VO.cons rfl (V1.indexSr rfl rfl esz_92 rfl rfl hh4 (ltb rfl) ?_)
   refine VO.cons rfl (V1.fieldRef rfl rfl fo_183_0 rfl (ltb rfl) ?_)
   refine VO.cons rfl (V1.loadMap (k := 1) (f := (encHold rn)) rfl rfl tyk_3 rfl rfl (by simpa using natLt hh4.1 hh4.2) rfl (ltb rfl) ?_)
   refine VO.cons rfl (V1.assign rfl rfl rfl (ltb rfl) ?_)
   refine VO.nil ?_
   exact ⟨(((y0.1.getD (Int.toNat y3.1) default).Id, y3.2), ()), Option.some.inj hm1, Keeps.mk (ks := [0, 1]) rfl ⟨rfl, rfl, rfl, trivial⟩ (⟨_, _, rfl, rfl, ⟨_, _, rfl, rfl, rfl⟩⟩) rfl⟩
  ·
   replace hm1 := cond_f hc0 hm1
   refine V.skip ?_
   exact ⟨((y1.1, (bif (decide ((y0.1.length : Int) > (0 : Int))) then y2.2 else y1.2)), ()), Option.some.inj hm1, Keeps.mk (ks := [0, 1]) rfl ⟨rfl, rfl, rfl, trivial⟩ (⟨_, _, rfl, rfl, ⟨_, _, rfl, rfl, rfl⟩⟩) rfl⟩
 ·
  rintro ⟨⟨id_, c_⟩, _⟩ rfl
  try dsimp only at hm0
  refine V.seq ?_
  replace hm0 := bindO hm0; rcases hm0 with ⟨y4, hh5, hm0⟩
  refine V.region ?_
  refine VO.cons rfl (V1.move rfl rfl rfl (ltb rfl) ?_)
  refine VO.cons rfl (V1.move rfl rfl rfl (ltb rfl) ?_)
  refine VO.cons rfl (V1.move rfl rfl rfl (ltb rfl) ?_)
  refine VO.cons rfl (V1.buildSliceT (f := encInt) ([(0 : Int), (1 : Int), (401 : Int), (3001 : Int), (20000 : Int), (20001 : Int)] : List Int) rfl rfl esz_34 zk_3 rfl rfl rfl rfl rfl rfl rfl (ltb rfl) ?_)
  intro b3
  refine VO.cons rfl (V1.callM 1 (rn + ρ0 + 1) [b3] [.ref b0 3 0 0, .vl (rn + ρ0 + 1) 1 (List.map encInt ([(0 : Int), (1 : Int), (401 : Int), (3001 : Int), (20000 : Int), (20001 : Int)] : List Int))] (p := (b0, ⟨3, [encCur ρ0 c_]⟩)) rfl rfl rfl cok_151 rfl rfl ⟨_, _, rfl, .same _, ⟨_, _, rfl, Lend.srMap 0 rfl (fun _ => rfl) (.head _), rfl⟩⟩ (bwCons (k := 0) rfl bwNil) (ok_spec_l1Cur_among hh5) rfl (.inr ⟨(by dsimp only; omega), by rintro _ _ ⟨rfl, rfl⟩; exact ⟨by simp [PV.no, PV.noL, optS_no, noL_iff, nbeq] <;> omega, by intro b ob h; first | exact optH_no (noL_map (fun _ => by simp [PV.no, PV.noL, noL_iff, nbeq]) _) b ob h | (simp at h; obtain ⟨rfl, rfl⟩ := h; exact noL_map (fun _ => by simp [PV.no, PV.noL, noL_iff, nbeq]) _) | (simp at h; obtain ⟨rfl, rfl⟩ := h; simp [PV.no, PV.noL, optS_no, noL_iff, nbeq] <;> omega)⟩⟩) (ltb rfl) ?_)
  rintro _ _ ⟨rfl, rfl⟩
  refine VO.cons rfl (V1.assign rfl rfl rfl (ltb rfl) ?_)
  refine VO.cons rfl (V1.assign rfl rfl rfl (ltb rfl) ?_)
  refine VO.cons rfl (V1.assign rfl rfl rfl (ltb rfl) ?_)
  refine VO.nil ?_
  refine V.keep 37 [2, 3, 4] [2] (E0 := [(2, .sref b1 6 0 (List.length y0.1)), (3, .int .i64 id_), (4, .int .i64 y4.1)]) (H0 := [(b1, ⟨6, List.map (encHold rn) y0.1⟩)]) rfl (⟨_, _, rfl, rfl, ⟨_, _, rfl, rfl, ⟨_, _, rfl, rfl, rfl⟩⟩⟩) (⟨_, _, rfl, rfl, rfl⟩) rfl ?_
  refine V.ret ?_
  obtain rfl := Option.some.inj hm0
  exact ⟨_, _, ⟨_, _, rfl, rfl, ⟨_, _, rfl, rfl, ⟨_, _, rfl, rfl, rfl⟩⟩⟩, List.Sublist.refl _, b1, rfl, rfl⟩

theorem ok_impl_ReleaseHold_1 {ρ0 τ1 rn : Nat} {h_ : Hold} {id_c : Int} {r : Bool} (h : M.impl_ReleaseHold_1 h_ id_c = some r) : Does Try.prog 200 [encHold ρ0 h_, .pin τ1 (.int .i64 id_c) 0] [] rn (fun x H => x = .bool r ∧ H = []) := by
 have hm0 := h; clear h; unfold M.impl_ReleaseHold_1 at hm0
 try dsimp only at hm0
 refine Does.intro (N := 8) Try.func200 rfl rfl rfl rfl ?_
 intro w0 S0
 refine V.seq ?_
 refine V.region ?_
 refine VO.cons rfl (V1.boxN (n := 6) rfl rfl rfl rfl rfl (ltb rfl) ?_)
 intro b0
 refine VO.cons rfl (V1.assign rfl rfl rfl (ltb rfl) ?_)
 refine VO.nil ?_
 refine V.seq ?_
 refine V.region ?_
 refine VO.cons rfl (V1.fieldRef rfl rfl fo_183_0 rfl (ltb rfl) ?_)
 refine VO.cons rfl (V1.loadRef (k := 0) rfl rfl tyk_3 rfl rfl rfl rfl rfl (ltb rfl) ?_)
 refine VO.cons rfl (V1.loadPin rfl rfl tyk_3 rfl rfl (ltb rfl) ?_)
 refine VO.cons rfl (V1.int rfl rfl rfl rfl rfl (ltb rfl) ?_)
 refine VO.cons rfl (V1.assign rfl rfl rfl (ltb rfl) ?_)
 refine VO.nil ?_
 refine V.ret ?_
 obtain rfl := Option.some.inj hm0
 exact ⟨_, [], ⟨_, _, rfl, rfl, rfl⟩, List.nil_sublist _, rfl, rfl⟩

theorem ok_slices_IndexFunc_impl_Hold_impl_Hold {ρ0 σ0 rn : Nat} {s : List Hold} {f1 : Nat} {cs1 : List PV} {r : Int} {fm : Hold → Option Bool} (h : M.slices_IndexFunc_impl_Hold_impl_Hold s fm = some r) (hok1 : callOK Try.prog f1 = true) (hf1 : ∀ x0 r, fm x0 = some r → Does Try.prog f1 (encHold σ0 x0 :: cs1) [] rn (fun x H => x = .bool r ∧ H = [])) : Does Try.prog 199 [.vl ρ0 6 (List.map (encHold σ0) s), .fn f1 cs1] [] rn (fun x H => x = .int .i64 r ∧ H = []) := by
 have hm0 := h; clear h; unfold M.slices_IndexFunc_impl_Hold_impl_Hold at hm0
 try dsimp only at hm0
 refine Does.intro (N := 19) Try.func199 rfl rfl rfl rfl ?_
 intro w0 S0
 refine V.seq ?_
 refine V.region ?_
 refine VO.cons rfl (V1.assign rfl rfl rfl (ltb rfl) ?_)
 refine VO.nil ?_
 refine V.seq ?_
 refine V.seq ?_
 refine V.region ?_
 refine VO.cons rfl (V1.move rfl rfl rfl (ltb rfl) ?_)
 refine VO.cons rfl (V1.lenMap rfl rfl rfl rfl rfl rfl isl_92 (ltb rfl) ?_)
 refine VO.cons rfl (V1.move rfl rfl rfl (ltb rfl) ?_)
 refine VO.nil ?_
 replace hm0 := bindO hm0; rcases hm0 with ⟨e0, he1, hm0⟩
 refine V.cutT (D := (Unit) × (Unit)) (fun ⟨_, _⟩ => ⟨19, [], []⟩) (fun ⟨_, _⟩ => (.inl () = e0)) ?_ ?_
 ·
  refine V.block ?_
  refine V.keep 19 [8, 0, 1, 7] [] (E0 := [(8, .int .i64 (0 : Int)), (0, .vl ρ0 6 (List.map (encHold σ0) s)), (1, .fn f1 cs1), (7, .int .i64 (s.length : Int))]) (H0 := []) rfl (⟨_, _, rfl, rfl, ⟨_, _, rfl, rfl, ⟨_, _, rfl, rfl, ⟨_, _, rfl, rfl, rfl⟩⟩⟩⟩) (rfl) rfl ?_
  refine V.loopE (D := Nat × (Int) × (Unit)) (fun ⟨n0, v, _⟩ => [(8, .int .i64 v)]) (fun ⟨n0, v, _⟩ => []) (fun ⟨n0, v, _⟩ => loopO (M.slices_IndexFunc_impl_Hold_impl_Hold_l0 s fm) n0 v = some e0) (fun ⟨n0, _, _⟩ => n0) (rounds, (0 : Int), ()) rfl he1 ?_
  rintro ⟨n0, v, _⟩ hP0
  obtain ⟨m0, y0, rfl, hm1, hl1, hr1⟩ := loop_head hP0
  unfold M.slices_IndexFunc_impl_Hold_impl_Hold_l0 at hm1; dsimp only at hm1
  show V _ _ _ ⟨19, [(8, .int .i64 v), (0, .vl ρ0 6 (List.map (encHold σ0) s)), (1, .fn f1 cs1), (7, .int .i64 (s.length : Int))], []⟩
  refine V.seq ?_
  refine V.region ?_
  refine VO.cons rfl (V1.int rfl rfl rfl rfl rfl (ltb rfl) ?_)
  refine VO.nil ?_
  refine V.seq ?_
  refine V.cond rfl (fun hc0 => ?_) (fun hc0 => ?_)
  ·
   replace hm1 := cond_t hc0 hm1
   refine V.skip ?_
   refine V.seq ?_
   refine V.block ?_
   refine V.seq ?_
   refine V.region ?_
   refine VO.cons rfl (V1.move rfl rfl rfl (ltb rfl) ?_)
   refine VO.cons rfl (V1.assign rfl rfl rfl (ltb rfl) ?_)
   refine VO.nil ?_
   refine V.seq ?_
   replace hm1 := asrt_some hm1; rcases hm1 with ⟨hh0, hm1⟩
   replace hm1 := bindO hm1; rcases hm1 with ⟨y1, hh1, hm1⟩
   refine V.region ?_
   refine VO.cons rfl (V1.move rfl rfl rfl (ltb rfl) ?_)
   refine VO.cons rfl (V1.move rfl rfl rfl (ltb rfl) ?_)
   refine VO.cons rfl (V1.move rfl rfl rfl (ltb rfl) ?_)
   refine VO.cons rfl (V1.indexI rfl rfl esz_92 rfl rfl hh0 (ltb rfl) ?_)
   refine VO.cons rfl (V1.loadPinAll rfl rfl tyk_183 rfl rfl (ltb rfl) ?_)
   refine VO.cons rfl (V1.callG (τ := 0) (Bw := []) rfl (ltb rfl) (run_callFn rfl rfl rfl hok1 rfl) (.refl _) (Lends.same _) (fun _ h => by cases h) ((hf1 _  _) hh1) (.inl rfl) (.inl rfl) ?_)
   rintro _ _ ⟨rfl, rfl⟩
   refine VO.nil ?_
   refine V.keep 19 [0, 1, 5, 7, 8, 16] [] (E0 := [(0, .vl ρ0 6 (List.map (encHold σ0) s)), (1, .fn f1 cs1), (5, .int .i64 v), (7, .int .i64 (s.length : Int)), (8, .int .i64 v), (16, .bool y1)]) (H0 := []) rfl (⟨_, _, rfl, rfl, ⟨_, _, rfl, rfl, ⟨_, _, rfl, rfl, ⟨_, _, rfl, rfl, ⟨_, _, rfl, rfl, ⟨_, _, rfl, rfl, rfl⟩⟩⟩⟩⟩⟩) (rfl) rfl ?_
   refine V.cond rfl (fun hc1 => ?_) (fun hc1 => ?_)
   ·
    replace hm1 := cond_t hc1 hm1
    refine V.seq ?_
    refine V.region ?_
    refine VO.cons rfl (V1.move rfl rfl rfl (ltb rfl) ?_)
    refine VO.cons rfl (V1.assign rfl rfl rfl (ltb rfl) ?_)
    refine VO.nil ?_
    refine V.ret ?_
    obtain rfl := hr1 _ (Option.some.inj hm1).symm
    change some _ = some _ at hm0
    obtain rfl := Option.some.inj hm0
    exact ⟨_, [], ⟨_, _, rfl, rfl, rfl⟩, List.nil_sublist _, rfl, rfl⟩
   ·
    replace hm1 := cond_f hc1 hm1
    refine V.skip ?_
    refine V.region ?_
    refine VO.cons rfl (V1.int rfl rfl rfl rfl rfl (ltb rfl) ?_)
    refine VO.cons rfl (V1.move rfl rfl rfl (ltb rfl) ?_)
    refine VO.nil ?_
    exact ⟨(m0, (IntKind.i64.wrap (v + (1 : Int))), ()), hl1 _ (Option.some.inj hm1).symm, Nat.lt_succ_self _, Keeps.mk (ks := []) rfl ⟨rfl, rfl, rfl, rfl, trivial⟩ (rfl) rfl⟩
  ·
   replace hm1 := cond_f hc0 hm1
   refine V.exit ?_
   obtain rfl := hr1 _ (Option.some.inj hm1).symm
   exact ⟨((), ()), rfl, Keeps.mk (ks := []) rfl trivial (rfl) rfl⟩
 ·
  rintro ⟨_, _⟩ rfl
  try dsimp only at hm0
  refine V.seq ?_
  refine V.region ?_
  refine VO.cons rfl (V1.assign rfl rfl rfl (ltb rfl) ?_)
  refine VO.nil ?_
  refine V.ret ?_
  obtain rfl := Option.some.inj hm0
  exact ⟨_, [], ⟨_, _, rfl, rfl, rfl⟩, List.nil_sublist _, rfl, rfl⟩

theorem ok_impl_within {rn : Nat} {n : Int} {low : Int} {high : Int} {r : Bool} (h : M.impl_within n low high = some r) : Does Try.prog 157 [.int .i64 n, .int .i64 low, .int .i64 high] [] rn (fun x H => x = .bool r ∧ H = []) := by
 have hm0 := h; clear h; unfold M.impl_within at hm0
 try dsimp only at hm0
 refine Does.intro (N := 15) Try.func157 rfl rfl rfl rfl ?_
 intro w0 S0
 refine V.seq ?_
 refine V.region ?_
 refine VO.cons rfl (V1.assign rfl rfl rfl (ltb rfl) ?_)
 refine VO.nil ?_
 refine V.seq ?_
 refine V.region ?_
 refine VO.cons rfl (V1.move rfl rfl rfl (ltb rfl) ?_)
 refine VO.cons rfl (V1.move rfl rfl rfl (ltb rfl) ?_)
 refine VO.cons rfl (V1.int rfl rfl rfl rfl rfl (ltb rfl) ?_)
 refine VO.cons rfl (V1.move rfl rfl rfl (ltb rfl) ?_)
 apply VO.and (n := 3) rfl rfl rfl rfl rfl rfl (ltb rfl) (.none rfl)
 ·
  intro hg0
  refine VO.step (.some rfl rfl rfl) (V1.move rfl rfl rfl (ltb rfl) ?_)
  refine VO.step (.some rfl rfl rfl) (V1.move rfl rfl rfl (ltb rfl) ?_)
  refine VO.step (.some rfl rfl rfl) (V1.int rfl rfl rfl rfl rfl (ltb rfl) ?_)
  exact VO.nil ⟨rfl, rfl, rfl, rfl, .inr ⟨rfl, .inr ⟨rfl, .inr ⟨rfl, .inr ⟨rfl, .inl rfl⟩⟩⟩⟩⟩
 refine VO.cons rfl (V1.assign rfl rfl rfl (ltb rfl) ?_)
 refine VO.nil ?_
 refine V.ret ?_
 obtain rfl := Option.some.inj hm0
 exact ⟨_, [], ⟨_, _, rfl, rfl, rfl⟩, List.nil_sublist _, rfl, rfl⟩

theorem ok_impl_isId {rn : Nat} {id_ : Int} {r : Bool} (h : M.impl_isId id_ = some r) : Does Try.prog 165 [.int .i64 id_] [] rn (fun x H => x = .bool r ∧ H = []) := by
 have hm0 := h; clear h; unfold M.impl_isId at hm0
 try dsimp only at hm0
 refine Does.intro (N := 5) Try.func165 rfl rfl rfl rfl ?_
 intro w0 S0
 refine V.seq ?_
 refine V.region ?_
 refine VO.cons rfl (V1.assign rfl rfl rfl (ltb rfl) ?_)
 refine VO.nil ?_
 refine V.seq ?_
 replace hm0 := bindO hm0; rcases hm0 with ⟨y0, hh0, hm0⟩
 refine V.region ?_
 refine VO.cons rfl (V1.move rfl rfl rfl (ltb rfl) ?_)
 refine VO.cons rfl (V1.call rfl rfl rfl cok_157 rfl (ok_impl_within hh0) rfl (ltb rfl) ?_)
 rintro _ _ ⟨rfl, rfl⟩
 refine VO.cons rfl (V1.assign rfl rfl rfl (ltb rfl) ?_)
 refine VO.nil ?_
 refine V.ret ?_
 obtain rfl := Option.some.inj hm0
 exact ⟨_, [], ⟨_, _, rfl, rfl, rfl⟩, List.nil_sublist _, rfl, rfl⟩

theorem ok_impl_isDay {rn : Nat} {day : Int} {r : Bool} (h : M.impl_isDay day = some r) : Does Try.prog 144 [.int .i64 day] [] rn (fun x H => x = .bool r ∧ H = []) := by
 have hm0 := h; clear h; unfold M.impl_isDay at hm0
 try dsimp only at hm0
 refine Does.intro (N := 5) Try.func144 rfl rfl rfl rfl ?_
 intro w0 S0
 refine V.seq ?_
 refine V.region ?_
 refine VO.cons rfl (V1.assign rfl rfl rfl (ltb rfl) ?_)
 refine VO.nil ?_
 refine V.seq ?_
 replace hm0 := bindO hm0; rcases hm0 with ⟨y0, hh0, hm0⟩
 refine V.region ?_
 refine VO.cons rfl (V1.move rfl rfl rfl (ltb rfl) ?_)
 refine VO.cons rfl (V1.call rfl rfl rfl cok_157 rfl (ok_impl_within hh0) rfl (ltb rfl) ?_)
 rintro _ _ ⟨rfl, rfl⟩
 refine VO.cons rfl (V1.assign rfl rfl rfl (ltb rfl) ?_)
 refine VO.nil ?_
 refine V.ret ?_
 obtain rfl := Option.some.inj hm0
 exact ⟨_, [], ⟨_, _, rfl, rfl, rfl⟩, List.nil_sublist _, rfl, rfl⟩

theorem ok_impl_areSeries {ρ0 rn : Nat} {list : List Int} {most : Int} {r : Bool} (h : M.impl_areSeries list most = some r) : Does Try.prog 240 [.vl ρ0 1 (List.map encInt list), .int .i64 most] [] rn (fun x H => x = .bool r ∧ H = []) := by
 have hm0 := h; clear h; unfold M.impl_areSeries at hm0
 try dsimp only at hm0
 refine Does.intro (N := 35) Try.func240 rfl rfl rfl rfl ?_
 intro w0 S0
 refine V.seq ?_
 refine V.region ?_
 refine VO.cons rfl (V1.assign rfl rfl rfl (ltb rfl) ?_)
 refine VO.nil ?_
 refine V.seq ?_
 refine V.seq ?_
 refine V.region ?_
 refine VO.cons rfl (V1.move rfl rfl rfl (ltb rfl) ?_)
 refine VO.cons rfl (V1.lenMap rfl rfl rfl rfl rfl rfl isl_34 (ltb rfl) ?_)
 refine VO.cons rfl (V1.move rfl rfl rfl (ltb rfl) ?_)
 refine VO.nil ?_
 replace hm0 := bindO hm0; rcases hm0 with ⟨e0, he1, hm0⟩
 refine V.cutT (D := (Unit) × (Unit)) (fun ⟨_, _⟩ => ⟨35, [(0, .vl ρ0 1 (List.map encInt list)), (1, .int .i64 most)], []⟩) (fun ⟨_, _⟩ => (.inl () = e0)) ?_ ?_
 ·
  refine V.block ?_
  refine V.keep 35 [9, 0, 1, 7, 8] [] (E0 := [(9, .int .i64 (0 : Int)), (0, .vl ρ0 1 (List.map encInt list)), (1, .int .i64 most), (7, .vl ρ0 1 (List.map encInt list)), (8, .int .i64 (list.length : Int))]) (H0 := []) rfl (⟨_, _, rfl, rfl, ⟨_, _, rfl, rfl, ⟨_, _, rfl, rfl, ⟨_, _, rfl, rfl, ⟨_, _, rfl, rfl, rfl⟩⟩⟩⟩⟩) (rfl) rfl ?_
  refine V.loopE (D := Nat × (Int) × (Unit)) (fun ⟨n0, v, _⟩ => [(9, .int .i64 v)]) (fun ⟨n0, v, _⟩ => []) (fun ⟨n0, v, _⟩ => loopO (M.impl_areSeries_l0 list) n0 v = some e0) (fun ⟨n0, _, _⟩ => n0) (rounds, (0 : Int), ()) rfl he1 ?_
  rintro ⟨n0, v, _⟩ hP0
  obtain ⟨m0, y0, rfl, hm1, hl1, hr1⟩ := loop_head hP0
  unfold M.impl_areSeries_l0 at hm1; dsimp only at hm1
  show V _ _ _ ⟨35, [(9, .int .i64 v), (0, .vl ρ0 1 (List.map encInt list)), (1, .int .i64 most), (7, .vl ρ0 1 (List.map encInt list)), (8, .int .i64 (list.length : Int))], []⟩
  refine V.seq ?_
  refine V.region ?_
  refine VO.cons rfl (V1.int rfl rfl rfl rfl rfl (ltb rfl) ?_)
  refine VO.nil ?_
  refine V.seq ?_
  refine V.cond rfl (fun hc0 => ?_) (fun hc0 => ?_)
  ·
   replace hm1 := cond_t hc0 hm1
   refine V.skip ?_
   refine V.seq ?_
   refine V.block ?_
   refine V.seq ?_
   replace hm1 := asrt_some hm1; rcases hm1 with ⟨hh0, hm1⟩
   refine V.region ?_
   refine VO.cons rfl (V1.move rfl rfl rfl (ltb rfl) ?_)
   refine VO.cons rfl (V1.indexI rfl rfl esz_34 rfl rfl hh0 (ltb rfl) ?_)
   refine VO.cons rfl (V1.loadPin rfl rfl tyk_3 rfl rfl (ltb rfl) ?_)
   refine VO.cons rfl (V1.assign rfl rfl rfl (ltb rfl) ?_)
   refine VO.cons rfl (V1.assign rfl rfl rfl (ltb rfl) ?_)
   refine VO.nil ?_
   refine V.keep 35 [0, 1, 5, 6, 7, 8, 9] [] (E0 := [(0, .vl ρ0 1 (List.map encInt list)), (1, .int .i64 most), (5, .int .i64 v), (6, .int .i64 (list.getD (Int.toNat v) default)), (7, .vl ρ0 1 (List.map encInt list)), (8, .int .i64 (list.length : Int)), (9, .int .i64 v)]) (H0 := []) rfl (⟨_, _, rfl, rfl, ⟨_, _, rfl, rfl, ⟨_, _, rfl, rfl, ⟨_, _, rfl, rfl, ⟨_, _, rfl, rfl, ⟨_, _, rfl, rfl, ⟨_, _, rfl, rfl, rfl⟩⟩⟩⟩⟩⟩⟩) (rfl) rfl ?_
   refine V.seq ?_
   replace hm1 := bindO hm1; rcases hm1 with ⟨y1, hh1, hm1⟩
   replace hm1 := asrt_some hm1; rcases hm1 with ⟨hh2, hm1⟩
   refine V.region ?_
   refine VO.cons rfl (V1.move rfl rfl rfl (ltb rfl) ?_)
   refine VO.cons rfl (V1.call rfl rfl rfl cok_165 rfl (ok_impl_isId hh1) rfl (ltb rfl) ?_)
   rintro _ _ ⟨rfl, rfl⟩
   refine VO.cons rfl (V1.not rfl rfl rfl (ltb rfl) ?_)
   refine VO.cons rfl (V1.move rfl rfl rfl (ltb rfl) ?_)
   apply VO.or (n := 11) rfl rfl rfl rfl rfl rfl (ltb rfl) (.none rfl)
   ·
    intro hg0
    refine VO.step (.some rfl rfl rfl) (V1.move rfl rfl rfl (ltb rfl) ?_)
    refine VO.step (.some rfl rfl rfl) (V1.int rfl rfl rfl rfl rfl (ltb rfl) ?_)
    refine VO.step (.some rfl rfl rfl) (V1.move rfl rfl rfl (ltb rfl) ?_)
    apply VO.and (n := 7) rfl rfl rfl rfl rfl rfl (ltb rfl) (.some rfl rfl rfl)
    ·
     intro hg1
     refine VO.step (.some rfl rfl rfl) (V1.move rfl rfl rfl (ltb rfl) ?_)
     refine VO.step (.some rfl rfl rfl) (V1.move rfl rfl rfl (ltb rfl) ?_)
     refine VO.step (.some rfl rfl rfl) (V1.int rfl rfl rfl rfl rfl (ltb rfl) ?_)
     refine VO.step (.some rfl rfl rfl) (V1.indexI rfl rfl esz_34 rfl rfl (hh2 hg0 hg1) (ltb rfl) ?_)
     refine VO.step (.some rfl rfl rfl) (V1.loadPin rfl rfl tyk_3 rfl rfl (ltb rfl) ?_)
     refine VO.step (.some rfl rfl rfl) (V1.move rfl rfl rfl (ltb rfl) ?_)
     refine VO.step (.some rfl rfl rfl) (V1.int rfl rfl rfl rfl rfl (ltb rfl) ?_)
     exact VO.nil ⟨rfl, rfl, rfl, rfl, .inr ⟨rfl, .inr ⟨rfl, .inr ⟨rfl, .inr ⟨rfl, .inr ⟨rfl, .inr ⟨rfl, .inr ⟨rfl, .inr ⟨rfl, .inl rfl⟩⟩⟩⟩⟩⟩⟩⟩⟩
    exact VO.nil ⟨rfl, rfl, rfl, rfl, .inr ⟨rfl, .inr ⟨rfl, .inr ⟨rfl, .inr ⟨rfl, .inr ⟨rfl, .inl rfl⟩⟩⟩⟩⟩⟩
   refine VO.nil ?_
   refine V.keep 35 [0, 1, 7, 8, 9, 29] [] (E0 := [(0, .vl ρ0 1 (List.map encInt list)), (1, .int .i64 most), (7, .vl ρ0 1 (List.map encInt list)), (8, .int .i64 (list.length : Int)), (9, .int .i64 v), (29, .bool ((!y1) || ((decide (v > (0 : Int))) && (decide ((list.getD (Int.toNat (IntKind.i64.wrap (v - (1 : Int)))) default) ≥ (list.getD (Int.toNat v) default))))))]) (H0 := []) rfl (⟨_, _, rfl, rfl, ⟨_, _, rfl, rfl, ⟨_, _, rfl, rfl, ⟨_, _, rfl, rfl, ⟨_, _, rfl, rfl, ⟨_, _, rfl, rfl, rfl⟩⟩⟩⟩⟩⟩) (rfl) rfl ?_
   refine V.cond rfl (fun hc1 => ?_) (fun hc1 => ?_)
   ·
    replace hm1 := cond_t hc1 hm1
    refine V.seq ?_
    refine V.region ?_
    refine VO.cons rfl (V1.assign rfl rfl rfl (ltb rfl) ?_)
    refine VO.nil ?_
    refine V.ret ?_
    obtain rfl := hr1 _ (Option.some.inj hm1).symm
    change some _ = some _ at hm0
    obtain rfl := Option.some.inj hm0
    exact ⟨_, [], ⟨_, _, rfl, rfl, rfl⟩, List.nil_sublist _, rfl, rfl⟩
   ·
    replace hm1 := cond_f hc1 hm1
    refine V.skip ?_
    refine V.region ?_
    refine VO.cons rfl (V1.int rfl rfl rfl rfl rfl (ltb rfl) ?_)
    refine VO.cons rfl (V1.move rfl rfl rfl (ltb rfl) ?_)
    refine VO.nil ?_
    exact ⟨(m0, (IntKind.i64.wrap (v + (1 : Int))), ()), hl1 _ (Option.some.inj hm1).symm, Nat.lt_succ_self _, Keeps.mk (ks := []) rfl ⟨rfl, rfl, rfl, rfl, rfl, trivial⟩ (rfl) rfl⟩
  ·
   replace hm1 := cond_f hc0 hm1
   refine V.exit ?_
   obtain rfl := hr1 _ (Option.some.inj hm1).symm
   exact ⟨((), ()), rfl, Keeps.mk (ks := []) rfl ⟨rfl, rfl, trivial⟩ (rfl) rfl⟩
 ·
  rintro ⟨_, _⟩ rfl
  try dsimp only at hm0
  refine V.seq ?_
  refine V.region ?_
  refine VO.cons rfl (V1.move rfl rfl rfl (ltb rfl) ?_)
  refine VO.cons rfl (V1.lenMap rfl rfl rfl rfl rfl rfl isl_34 (ltb rfl) ?_)
  refine VO.cons rfl (V1.move rfl rfl rfl (ltb rfl) ?_)
  refine VO.cons rfl (V1.int rfl rfl rfl rfl rfl (ltb rfl) ?_)
  refine VO.cons rfl (V1.assign rfl rfl rfl (ltb rfl) ?_)
  refine VO.nil ?_
  refine V.ret ?_
  obtain rfl := Option.some.inj hm0
  exact ⟨_, [], ⟨_, _, rfl, rfl, rfl⟩, List.nil_sublist _, rfl, rfl⟩

theorem ok_impl_areDays {rn : Nat} {from_ : Int} {to_ : Int} {r : Bool} (h : M.impl_areDays from_ to_ = some r) : Does Try.prog 166 [.int .i64 from_, .int .i64 to_] [] rn (fun x H => x = .bool r ∧ H = []) := by
 have hm0 := h; clear h; unfold M.impl_areDays at hm0
 try dsimp only at hm0
 refine Does.intro (N := 16) Try.func166 rfl rfl rfl rfl ?_
 intro w0 S0
 refine V.seq ?_
 refine V.region ?_
 refine VO.cons rfl (V1.assign rfl rfl rfl (ltb rfl) ?_)
 refine VO.nil ?_
 refine V.seq ?_
 replace hm0 := bindO hm0; rcases hm0 with ⟨y0, hh0, hm0⟩
 replace hm0 := bindO hm0; rcases hm0 with ⟨y1, hh1, hm0⟩
 refine V.region ?_
 refine VO.cons rfl (V1.move rfl rfl rfl (ltb rfl) ?_)
 refine VO.cons rfl (V1.call rfl rfl rfl cok_144 rfl (ok_impl_isDay hh0) rfl (ltb rfl) ?_)
 rintro _ _ ⟨rfl, rfl⟩
 refine VO.cons rfl (V1.move rfl rfl rfl (ltb rfl) ?_)
 apply VO.and (n := 2) rfl rfl rfl rfl rfl rfl (ltb rfl) (.none rfl)
 ·
  intro hg0
  refine VO.step (.some rfl rfl rfl) (V1.move rfl rfl rfl (ltb rfl) ?_)
  refine VO.step (.some rfl rfl rfl) (V1.call rfl rfl rfl cok_144 rfl (ok_impl_isDay (cond_t hg0 hh1)) rfl (ltb rfl) ?_)
  rintro _ _ ⟨rfl, rfl⟩
  exact VO.nil ⟨rfl, rfl, rfl, rfl, .inr ⟨rfl, .inr ⟨rfl, .inr ⟨rfl, .inl rfl⟩⟩⟩⟩
 refine VO.cons rfl (V1.move rfl rfl rfl (ltb rfl) ?_)
 apply VO.and (n := 3) rfl rfl rfl rfl rfl rfl (ltb rfl) (.none rfl)
 ·
  intro hg1
  refine VO.step (.some rfl rfl rfl) (V1.move rfl rfl rfl (ltb rfl) ?_)
  refine VO.step (.some rfl rfl rfl) (V1.move rfl rfl rfl (ltb rfl) ?_)
  refine VO.step (.some rfl rfl rfl) (V1.int rfl rfl rfl rfl rfl (ltb rfl) ?_)
  exact VO.nil ⟨rfl, rfl, rfl, rfl, .inr ⟨rfl, .inr ⟨rfl, .inr ⟨rfl, .inr ⟨rfl, .inl rfl⟩⟩⟩⟩⟩
 refine VO.cons rfl (V1.assign rfl rfl rfl (ltb rfl) ?_)
 refine VO.nil ?_
 refine V.ret ?_
 obtain rfl := Option.some.inj hm0
 exact ⟨_, [], ⟨_, _, rfl, rfl, rfl⟩, List.nil_sublist _, rfl, rfl⟩

theorem ok_impl_isHold {ρ0 rn : Nat} {h_ : Hold} {r : Bool} (h : M.impl_isHold h_ = some r) : Does Try.prog 194 [encHold ρ0 h_] [] rn (fun x H => x = .bool r ∧ H = []) := by
 have hm0 := h; clear h; unfold M.impl_isHold at hm0
 try dsimp only at hm0
 refine Does.intro (N := 36) Try.func194 rfl rfl rfl rfl ?_
 intro w0 S0
 refine V.seq ?_
 refine V.region ?_
 refine VO.cons rfl (V1.boxN (n := 6) rfl rfl rfl rfl rfl (ltb rfl) ?_)
 intro b0
 refine VO.cons rfl (V1.assign rfl rfl rfl (ltb rfl) ?_)
 refine VO.nil ?_
 refine V.seq ?_
 replace hm0 := bindO hm0; rcases hm0 with ⟨y0, hh0, hm0⟩
 replace hm0 := bindO hm0; rcases hm0 with ⟨y1, hh1, hm0⟩
 replace hm0 := bindO hm0; rcases hm0 with ⟨y2, hh2, hm0⟩
 replace hm0 := bindO hm0; rcases hm0 with ⟨y3, hh3, hm0⟩
 replace hm0 := bindO hm0; rcases hm0 with ⟨y4, hh4, hm0⟩
 refine V.region ?_
 refine VO.cons rfl (V1.fieldRef rfl rfl fo_183_0 rfl (ltb rfl) ?_)
 refine VO.cons rfl (V1.loadRef (k := 0) rfl rfl tyk_3 rfl rfl rfl rfl rfl (ltb rfl) ?_)
 refine VO.cons rfl (V1.call rfl rfl rfl cok_165 rfl (ok_impl_isId hh0) rfl (ltb rfl) ?_)
 rintro _ _ ⟨rfl, rfl⟩
 refine VO.cons rfl (V1.move rfl rfl rfl (ltb rfl) ?_)
 apply VO.and (n := 3) rfl rfl rfl rfl rfl rfl (ltb rfl) (.none rfl)
 ·
  intro hg0
  refine VO.step (.some rfl rfl rfl) (V1.fieldRef rfl rfl fo_183_1 rfl (ltb rfl) ?_)
  refine VO.step (.some rfl rfl rfl) (V1.loadRef (k := 0) rfl rfl tyk_3 rfl rfl rfl rfl rfl (ltb rfl) ?_)
  refine VO.step (.some rfl rfl rfl) (V1.call rfl rfl rfl cok_144 rfl (ok_impl_isDay (cond_t hg0 hh1)) rfl (ltb rfl) ?_)
  rintro _ _ ⟨rfl, rfl⟩
  exact VO.nil ⟨rfl, rfl, rfl, rfl, .inr ⟨rfl, .inr ⟨rfl, .inr ⟨rfl, .inr ⟨rfl, .inl rfl⟩⟩⟩⟩⟩
 refine VO.cons rfl (V1.move rfl rfl rfl (ltb rfl) ?_)
 apply VO.and (n := 11) rfl rfl rfl rfl rfl rfl (ltb rfl) (.none rfl)
 ·
  intro hg1
  refine VO.step (.some rfl rfl rfl) (V1.fieldRef rfl rfl fo_183_2 rfl (ltb rfl) ?_)
  refine VO.step (.some rfl rfl rfl) (V1.loadRef (k := 0) rfl rfl tyk_3 rfl rfl rfl rfl rfl (ltb rfl) ?_)
  refine VO.step (.some rfl rfl rfl) (V1.int rfl rfl rfl rfl rfl (ltb rfl) ?_)
  refine VO.step (.some rfl rfl rfl) (V1.move rfl rfl rfl (ltb rfl) ?_)
  apply VO.or (n := 6) rfl rfl rfl rfl rfl rfl (ltb rfl) (.some rfl rfl rfl)
  ·
   intro hg2
   refine VO.step (.some rfl rfl rfl) (V1.fieldRef rfl rfl fo_183_2 rfl (ltb rfl) ?_)
   refine VO.step (.some rfl rfl rfl) (V1.loadRef (k := 0) rfl rfl tyk_3 rfl rfl rfl rfl rfl (ltb rfl) ?_)
   refine VO.step (.some rfl rfl rfl) (V1.fieldRef rfl rfl fo_183_1 rfl (ltb rfl) ?_)
   refine VO.step (.some rfl rfl rfl) (V1.loadRef (k := 0) rfl rfl tyk_3 rfl rfl rfl rfl rfl (ltb rfl) ?_)
   refine VO.step (.some rfl rfl rfl) (V1.int rfl rfl rfl rfl rfl (ltb rfl) ?_)
   refine VO.step (.some rfl rfl rfl) (V1.call rfl rfl rfl cok_157 rfl (ok_impl_within (cond_f hg2 (cond_t hg1 hh2))) rfl (ltb rfl) ?_)
   rintro _ _ ⟨rfl, rfl⟩
   exact VO.nil ⟨rfl, rfl, rfl, rfl, .inr ⟨rfl, .inr ⟨rfl, .inr ⟨rfl, .inr ⟨rfl, .inr ⟨rfl, .inr ⟨rfl, .inr ⟨rfl, .inl rfl⟩⟩⟩⟩⟩⟩⟩⟩
  exact VO.nil ⟨rfl, rfl, rfl, rfl, .inr ⟨rfl, .inr ⟨rfl, .inr ⟨rfl, .inr ⟨rfl, .inr ⟨rfl, .inr ⟨rfl, .inl rfl⟩⟩⟩⟩⟩⟩⟩
 refine VO.cons rfl (V1.move rfl rfl rfl (ltb rfl) ?_)
 apply VO.and (n := 3) rfl rfl rfl rfl rfl rfl (ltb rfl) (.none rfl)
 ·
  intro hg3
  refine VO.step (.some rfl rfl rfl) (V1.fieldRef rfl rfl fo_183_3 rfl (ltb rfl) ?_)
  refine VO.step (.some rfl rfl rfl) (V1.loadRef (k := 0) rfl rfl tyk_34 rfl rfl rfl rfl rfl (ltb rfl) ?_)
  refine VO.step (.some rfl rfl rfl) (V1.call rfl rfl rfl cok_240 rfl (ok_impl_areSeries (cond_t hg3 hh3)) rfl (ltb rfl) ?_)
  rintro _ _ ⟨rfl, rfl⟩
  exact VO.nil ⟨rfl, rfl, rfl, rfl, .inr ⟨rfl, .inr ⟨rfl, .inr ⟨rfl, .inr ⟨rfl, .inl rfl⟩⟩⟩⟩⟩
 refine VO.cons rfl (V1.move rfl rfl rfl (ltb rfl) ?_)
 apply VO.and (n := 5) rfl rfl rfl rfl rfl rfl (ltb rfl) (.none rfl)
 ·
  intro hg4
  refine VO.step (.some rfl rfl rfl) (V1.fieldRef rfl rfl fo_183_4 rfl (ltb rfl) ?_)
  refine VO.step (.some rfl rfl rfl) (V1.loadRef (k := 0) rfl rfl tyk_3 rfl rfl rfl rfl rfl (ltb rfl) ?_)
  refine VO.step (.some rfl rfl rfl) (V1.fieldRef rfl rfl fo_183_5 rfl (ltb rfl) ?_)
  refine VO.step (.some rfl rfl rfl) (V1.loadRef (k := 0) rfl rfl tyk_3 rfl rfl rfl rfl rfl (ltb rfl) ?_)
  refine VO.step (.some rfl rfl rfl) (V1.call rfl rfl rfl cok_166 rfl (ok_impl_areDays (cond_t hg4 hh4)) rfl (ltb rfl) ?_)
  rintro _ _ ⟨rfl, rfl⟩
  exact VO.nil ⟨rfl, rfl, rfl, rfl, .inr ⟨rfl, .inr ⟨rfl, .inr ⟨rfl, .inr ⟨rfl, .inr ⟨rfl, .inr ⟨rfl, .inl rfl⟩⟩⟩⟩⟩⟩⟩
 refine VO.cons rfl (V1.assign rfl rfl rfl (ltb rfl) ?_)
 refine VO.nil ?_
 refine V.ret ?_
 obtain rfl := Option.some.inj hm0
 exact ⟨_, [], ⟨_, _, rfl, rfl, rfl⟩, List.nil_sublist _, rfl, rfl⟩

theorem ok_impl_AreHolds {ρ0 σ0 rn : Nat} {list : List Hold} {r : Bool} (h : M.impl_AreHolds list = some r) : Does Try.prog 89 [.vl ρ0 6 (List.map (encHold σ0) list)] [] rn (fun x H => x = .bool r ∧ H = []) := by
 have hm0 := h; clear h; unfold M.impl_AreHolds at hm0
 try dsimp only at hm0
 refine Does.intro (N := 34) Try.func89 rfl rfl rfl rfl ?_
 intro w0 S0
 refine V.seq ?_
 refine V.region ?_
 refine VO.cons rfl (V1.assign rfl rfl rfl (ltb rfl) ?_)
 refine VO.nil ?_
 refine V.seq ?_
 refine V.seq ?_
 refine V.region ?_
 refine VO.cons rfl (V1.move rfl rfl rfl (ltb rfl) ?_)
 refine VO.cons rfl (V1.lenMap rfl rfl rfl rfl rfl rfl isl_92 (ltb rfl) ?_)
 refine VO.cons rfl (V1.move rfl rfl rfl (ltb rfl) ?_)
 refine VO.nil ?_
 replace hm0 := bindO hm0; rcases hm0 with ⟨e0, he1, hm0⟩
 refine V.cutT (D := (Unit) × (Unit)) (fun ⟨_, _⟩ => ⟨34, [(0, .vl ρ0 6 (List.map (encHold σ0) list))], []⟩) (fun ⟨_, _⟩ => (.inl () = e0)) ?_ ?_
 ·
  refine V.block ?_
  refine V.keep 34 [7, 0, 5, 6] [] (E0 := [(7, .int .i64 (0 : Int)), (0, .vl ρ0 6 (List.map (encHold σ0) list)), (5, .vl ρ0 6 (List.map (encHold σ0) list)), (6, .int .i64 (list.length : Int))]) (H0 := []) rfl (⟨_, _, rfl, rfl, ⟨_, _, rfl, rfl, ⟨_, _, rfl, rfl, ⟨_, _, rfl, rfl, rfl⟩⟩⟩⟩) (rfl) rfl ?_
  refine V.loopE (D := Nat × (Int) × (Unit)) (fun ⟨n0, v, _⟩ => [(7, .int .i64 v)]) (fun ⟨n0, v, _⟩ => []) (fun ⟨n0, v, _⟩ => loopO (M.impl_AreHolds_l0 list) n0 v = some e0) (fun ⟨n0, _, _⟩ => n0) (rounds, (0 : Int), ()) rfl he1 ?_
  rintro ⟨n0, v, _⟩ hP0
  obtain ⟨m0, y0, rfl, hm1, hl1, hr1⟩ := loop_head hP0
  unfold M.impl_AreHolds_l0 at hm1; dsimp only at hm1
  show V _ _ _ ⟨34, [(7, .int .i64 v), (0, .vl ρ0 6 (List.map (encHold σ0) list)), (5, .vl ρ0 6 (List.map (encHold σ0) list)), (6, .int .i64 (list.length : Int))], []⟩
  refine V.seq ?_
  refine V.region ?_
  refine VO.cons rfl (V1.int rfl rfl rfl rfl rfl (ltb rfl) ?_)
  refine VO.nil ?_
  refine V.seq ?_
  refine V.cond rfl (fun hc0 => ?_) (fun hc0 => ?_)
  ·
   replace hm1 := cond_t hc0 hm1
   refine V.skip ?_
   refine V.seq ?_
   refine V.block ?_
   refine V.seq ?_
   replace hm1 := asrt_some hm1; rcases hm1 with ⟨hh0, hm1⟩
   refine V.region ?_
   refine VO.cons rfl (V1.move rfl rfl rfl (ltb rfl) ?_)
   refine VO.cons rfl (V1.indexI rfl rfl esz_92 rfl rfl hh0 (ltb rfl) ?_)
   refine VO.cons rfl (V1.loadPinAll rfl rfl tyk_183 rfl rfl (ltb rfl) ?_)
   refine VO.cons rfl (V1.alloc rfl rfl zk_183 (ltb rfl) ?_)
   intro b0
   refine VO.cons rfl (V1.assign rfl rfl rfl (ltb rfl) ?_)
   refine VO.cons rfl (V1.storeRefAll (k := 0) rfl rfl tyk_183 rfl rfl rfl rfl rfl rfl ?_)
   refine VO.nil ?_
   refine V.keep 34 [0, 3, 4, 5, 6, 7] [0] (E0 := [(0, .vl ρ0 6 (List.map (encHold σ0) list)), (3, .int .i64 v), (4, .ref b0 6 0 0), (5, .vl ρ0 6 (List.map (encHold σ0) list)), (6, .int .i64 (list.length : Int)), (7, .int .i64 v)]) (H0 := [(b0, ⟨6, [encHold σ0 (list.getD (Int.toNat v) default)]⟩)]) rfl (⟨_, _, rfl, rfl, ⟨_, _, rfl, rfl, ⟨_, _, rfl, rfl, ⟨_, _, rfl, rfl, ⟨_, _, rfl, rfl, ⟨_, _, rfl, rfl, rfl⟩⟩⟩⟩⟩⟩) (⟨_, _, rfl, rfl, rfl⟩) rfl ?_
   refine V.seq ?_
   replace hm1 := bindO hm1; rcases hm1 with ⟨y1, hh1, hm1⟩
   replace hm1 := asrt_some hm1; rcases hm1 with ⟨hh2, hm1⟩
   refine V.regionM 34 18 [⟨[(4, none)], [], none⟩, ⟨[(12, some 0)], [], none⟩, ⟨[(13, some 0)], [], none⟩, ⟨[(14, some 0)], [], none⟩, ⟨[(3, none)], [(0, false)], none⟩, ⟨[(16, some 0)], [(1, false)], none⟩, ⟨[(17, some 0)], [(2, false)], none⟩, ⟨[(0, none)], [(0, true), (3, false)], none⟩, ⟨[(3, none)], [(1, true), (4, false)], none⟩, ⟨[(20, some 0)], [(2, true), (5, false)], none⟩, ⟨[(19, some 2), (21, some 0)], [(3, true), (6, false)], none⟩, ⟨[(22, some 0)], [(4, true), (7, false)], none⟩, ⟨[(23, some 0)], [(5, true), (8, false)], none⟩, ⟨[(4, none)], [(6, true), (9, false)], none⟩, ⟨[(25, some 0)], [(7, true), (10, false)], none⟩, ⟨[(24, some 2), (26, some 0)], [(8, true), (11, false)], none⟩, ⟨[], [(12, false)], some (true, 18, 27, 9, 0)⟩, ⟨[], [], some (false, 15, 28, 13, 0)⟩] [(0, none), (5, none), (6, none), (7, none), (29, some 0)] (⟨_, rfl, ⟨_, rfl, ⟨_, rfl, ⟨_, rfl, ⟨_, rfl, ⟨_, rfl, ⟨_, rfl, ⟨_, rfl, ⟨_, rfl, ⟨_, rfl, ⟨_, rfl, ⟨_, rfl, ⟨_, rfl, ⟨_, rfl, ⟨_, rfl, ⟨_, rfl, ⟨_, rfl, ⟨_, rfl, ⟨rfl, rfl⟩⟩⟩⟩⟩⟩⟩⟩⟩⟩⟩⟩⟩⟩⟩⟩⟩⟩⟩) mixed_orders rfl (by decide +kernel) (fun hck4 => ?_)
   refine VP.step (p := ?pv129) rfl rfl rfl (⟨_, _, rfl, rfl, rfl⟩) ?hv129 ?rest129 hck4
   case hv129 =>
    intro E1
    refine (V1.loadRefAll (k := 0) rfl rfl tyk_183 rfl rfl rfl rfl rfl (ltb rfl) ?_)
    exact rfl
   refine VP.step (p := ?pv130) rfl rfl rfl (⟨_, _, rfl, rfl, rfl⟩) ?hv130 ?rest130 hck4
   case hv130 =>
    intro E1
    refine (V1.call rfl rfl rfl cok_194 rfl (ok_impl_isHold hh1) rfl (ltb rfl) ?_)
    rintro _ _ ⟨rfl, rfl⟩
    exact rfl
   refine VP.step (p := ?pv131) rfl rfl rfl (⟨_, _, rfl, rfl, rfl⟩) ?hv131 ?rest131 hck4
   case hv131 =>
    intro E1
    refine (V1.not rfl rfl rfl (ltb rfl) ?_)
    exact rfl
   refine VP.step (p := ?pv132) rfl rfl rfl (⟨_, _, rfl, rfl, rfl⟩) ?hv132 ?rest132 hck4
   case hv132 =>
    intro E1
    refine (V1.move rfl rfl rfl (ltb rfl) ?_)
    exact rfl
   refine VP.step (p := ?pv133) rfl rfl rfl (⟨_, _, rfl, rfl, rfl⟩) ?hv133 ?rest133 hck4
   case hv133 =>
    refine ⟨_, rfl, fun hg0 => ?_⟩
    intro E1
    refine (V1.move rfl rfl rfl (ltb rfl) ?_)
    exact rfl
   refine VP.step (p := ?pv134) rfl rfl rfl (⟨_, _, rfl, rfl, rfl⟩) ?hv134 ?rest134 hck4
   case hv134 =>
    refine ⟨_, rfl, fun hg0 => ?_⟩
    intro E1
    refine (V1.int rfl rfl rfl rfl rfl (ltb rfl) ?_)
    exact rfl
   refine VP.step (p := ?pv135) rfl rfl rfl (⟨_, _, rfl, rfl, rfl⟩) ?hv135 ?rest135 hck4
   case hv135 =>
    refine ⟨_, rfl, fun hg0 => ?_⟩
    intro E1
    refine (V1.move rfl rfl rfl (ltb rfl) ?_)
    exact rfl
   refine VP.step (p := ?pv136) rfl rfl rfl (⟨_, _, rfl, rfl, rfl⟩) ?hv136 ?rest136 hck4
   case hv136 =>
    refine ⟨_, rfl, fun hg1 => ?_⟩
    refine ⟨_, rfl, fun hg0 => ?_⟩
    intro E1
    refine (V1.move rfl rfl rfl (ltb rfl) ?_)
    exact rfl
   refine VP.step (p := ?pv137) rfl rfl rfl (⟨_, _, rfl, rfl, rfl⟩) ?hv137 ?rest137 hck4
   case hv137 =>
    refine ⟨_, rfl, fun hg1 => ?_⟩
    refine ⟨_, rfl, fun hg0 => ?_⟩
    intro E1
    refine (V1.move rfl rfl rfl (ltb rfl) ?_)
    exact rfl
   refine VP.step (p := ?pv138) rfl rfl rfl (⟨_, _, rfl, rfl, rfl⟩) ?hv138 ?rest138 hck4
   case hv138 =>
    refine ⟨_, rfl, fun hg1 => ?_⟩
    refine ⟨_, rfl, fun hg0 => ?_⟩
    intro E1
    refine (V1.int rfl rfl rfl rfl rfl (ltb rfl) ?_)
    exact rfl
   refine VP.step (p := ?pv139) rfl rfl rfl (⟨_, _, rfl, rfl, ⟨_, _, rfl, rfl, rfl⟩⟩) ?hv139 ?rest139 hck4
   case hv139 =>
    refine ⟨_, rfl, fun hg1 => ?_⟩
    refine ⟨_, rfl, fun hg0 => ?_⟩
    intro E1
    refine (V1.indexI rfl rfl esz_92 rfl rfl (hh2 hg0 hg1) (ltb rfl) ?_)
    exact rfl
   refine VP.step (p := ?pv140) rfl rfl rfl (⟨_, _, rfl, rfl, rfl⟩) ?hv140 ?rest140 hck4
   case hv140 =>
    refine ⟨_, rfl, fun hg1 => ?_⟩
    refine ⟨_, rfl, fun hg0 => ?_⟩
    intro E1
    refine (V1.fieldPin rfl rfl fo_183_0 rfl (ltb rfl) ?_)
    exact rfl
   refine VP.step (p := ?pv141) rfl rfl rfl (⟨_, _, rfl, rfl, rfl⟩) ?hv141 ?rest141 hck4
   case hv141 =>
    refine ⟨_, rfl, fun hg1 => ?_⟩
    refine ⟨_, rfl, fun hg0 => ?_⟩
    intro E1
    refine (V1.loadPin rfl rfl tyk_3 rfl rfl (ltb rfl) ?_)
    exact rfl
   refine VP.step (p := ?pv142) rfl rfl rfl (⟨_, _, rfl, rfl, rfl⟩) ?hv142 ?rest142 hck4
   case hv142 =>
    refine ⟨_, rfl, fun hg1 => ?_⟩
    refine ⟨_, rfl, fun hg0 => ?_⟩
    intro E1
    refine (V1.fieldRef rfl rfl fo_183_0 rfl (ltb rfl) ?_)
    exact rfl
   refine VP.step (p := ?pv143) rfl rfl rfl (⟨_, _, rfl, rfl, rfl⟩) ?hv143 ?rest143 hck4
   case hv143 =>
    refine ⟨_, rfl, fun hg1 => ?_⟩
    refine ⟨_, rfl, fun hg0 => ?_⟩
    intro E1
    refine (V1.loadRef (k := 0) rfl rfl tyk_3 rfl rfl rfl rfl rfl (ltb rfl) ?_)
    exact rfl
   refine VP.step (p := ?pv144) rfl rfl rfl (⟨_, _, rfl, rfl, ⟨_, _, rfl, rfl, rfl⟩⟩) ?hv144 ?rest144 hck4
   case hv144 =>
    refine ⟨_, rfl, fun hg1 => ?_⟩
    refine ⟨_, rfl, fun hg0 => ?_⟩
    intro E1
    refine (V1.int rfl rfl rfl rfl rfl (ltb rfl) ?_)
    exact rfl
   refine VP.pickAnd rfl rfl rfl rfl rfl rfl (⟨_, rfl, fun _ => trivial⟩) ?_ hck4
   refine VP.pickOr rfl rfl rfl rfl rfl rfl (trivial) ?_ hck4
   refine VP.fin rfl (⟨_, _, rfl, rfl, ⟨_, _, rfl, rfl, ⟨_, _, rfl, rfl, ⟨_, _, rfl, rfl, ⟨_, _, rfl, rfl, rfl⟩⟩⟩⟩⟩) ?_
   refine VO.nil ?_
   refine V.cond rfl (fun hc1 => ?_) (fun hc1 => ?_)
   ·
    replace hm1 := cond_t hc1 hm1
    refine V.seq ?_
    refine V.region ?_
    refine VO.cons rfl (V1.assign rfl rfl rfl (ltb rfl) ?_)
    refine VO.nil ?_
    refine V.ret ?_
    obtain rfl := hr1 _ (Option.some.inj hm1).symm
    change some _ = some _ at hm0
    obtain rfl := Option.some.inj hm0
    exact ⟨_, [], ⟨_, _, rfl, rfl, rfl⟩, List.nil_sublist _, rfl, rfl⟩
   ·
    replace hm1 := cond_f hc1 hm1
    refine V.skip ?_
    refine V.region ?_
    refine VO.cons rfl (V1.int rfl rfl rfl rfl rfl (ltb rfl) ?_)
    refine VO.cons rfl (V1.move rfl rfl rfl (ltb rfl) ?_)
    refine VO.nil ?_
    exact ⟨(m0, (IntKind.i64.wrap (v + (1 : Int))), ()), hl1 _ (Option.some.inj hm1).symm, Nat.lt_succ_self _, Keeps.mk (ks := []) rfl ⟨rfl, rfl, rfl, rfl, trivial⟩ (rfl) rfl⟩
  ·
   replace hm1 := cond_f hc0 hm1
   refine V.exit ?_
   obtain rfl := hr1 _ (Option.some.inj hm1).symm
   exact ⟨((), ()), rfl, Keeps.mk (ks := []) rfl ⟨rfl, trivial⟩ (rfl) rfl⟩
 ·
  rintro ⟨_, _⟩ rfl
  try dsimp only at hm0
  refine V.seq ?_
  refine V.region ?_
  refine VO.cons rfl (V1.move rfl rfl rfl (ltb rfl) ?_)
  refine VO.cons rfl (V1.lenMap rfl rfl rfl rfl rfl rfl isl_92 (ltb rfl) ?_)
  refine VO.cons rfl (V1.int rfl rfl rfl rfl rfl (ltb rfl) ?_)
  refine VO.cons rfl (V1.assign rfl rfl rfl (ltb rfl) ?_)
  refine VO.nil ?_
  refine V.ret ?_
  obtain rfl := Option.some.inj hm0
  exact ⟨_, [], ⟨_, _, rfl, rfl, rfl⟩, List.nil_sublist _, rfl, rfl⟩

theorem ok_slices_Clone_impl_Hold_impl_Hold {rn : Nat} {s : List Hold} {r : List Hold} (h : M.slices_Clone_impl_Hold_impl_Hold s = some r) : Does Try.prog 242 [.vl rn 6 (List.map (encHold rn) s)] [] rn (fun x H => ∃ ob0_ : Option Nat, (ob0_ = none → r = []) ∧ x = optS 6 ob0_ (List.length r) ∧ H = optH 6 ob0_ (List.map (encHold rn) r)) := by
 have hm0 := h; clear h; unfold M.slices_Clone_impl_Hold_impl_Hold at hm0
 replace hm0 := asrt_some hm0; rcases hm0 with ⟨hh0, hm0⟩
 obtain rfl := Option.some.inj hm0
 refine Does.intro (N := 8) Try.func242 rfl rfl rfl rfl ?_
 intro w0 S0
 refine V.seq ?_
 refine V.region ?_
 refine VO.cons rfl (V1.assign rfl rfl rfl (ltb rfl) ?_)
 refine VO.nil ?_
 refine V.seq ?_
 first | refine V.region ?_ | (refine V.seq ?_; refine V.region ?_)
 refine VO.cons rfl (V1.move rfl rfl rfl (ltb rfl) ?_)
 refine VO.cons rfl (V1.eqNil rfl rfl usl_92 rfl rfl (ltb rfl) ?_)
 intro c hc
 refine VO.nil ?_
 first | refine V.cond rfl (fun hc0 => ?_) (fun hc0 => ?_) | (refine V.seq ?_; refine V.cond rfl (fun hc0 => ?_) (fun hc0 => ?_))
 ·
  have hs : s = [] := List.map_eq_nil_iff.1 (hc hc0)
  refine V.seq ?_
  refine V.region ?_
  refine VO.cons rfl (V1.assign rfl rfl rfl (ltb rfl) ?_)
  refine VO.nil ?_
  refine V.ret ?_
  exact ⟨_, [], ⟨_, _, rfl, rfl, rfl⟩, List.nil_sublist _, none, fun _ => hs, rfl, rfl⟩
 ·
  refine V.skip ?_
  refine V.seq ?_
  refine V.region ?_
  refine VO.cons rfl (V1.buildSliceT (f := (encHold rn)) ([] : List Hold) rfl rfl esz_92 zk_183 rfl rfl rfl rfl rfl rfl rfl (ltb rfl) ?_)
  intro b0
  refine VO.cons rfl (V1.move rfl rfl rfl (ltb rfl) ?_)
  refine VO.cons rfl (V1.appendMap (k := 0) (f := (encHold rn)) (l := []) (m := s) rfl rfl rfl rfl rfl esz_92 eby_92 zk_183 rfl rfl rfl (.vl isl_92) (by simpa using hh0) (ltb rfl) ?_)
  intro b1
  refine VO.cons rfl (V1.assign rfl rfl rfl (ltb rfl) ?_)
  refine VO.nil ?_
  refine V.keep 8 [2] [0] (E0 := [(2, .sref b1 6 0 (List.length s))]) (H0 := [(b1, ⟨6, List.map (encHold rn) s⟩)]) rfl (⟨_, _, rfl, rfl, rfl⟩) (⟨_, _, rfl, rfl, rfl⟩) rfl ?_
  refine V.ret ?_
  exact ⟨_, _, ⟨_, _, rfl, rfl, rfl⟩, List.Sublist.refl _, some b1, (fun e => by cases e), rfl, rfl⟩

theorem ok_slices_Clone_int_int {ρ0 rn : Nat} {s : List Int} {r : List Int} (h : M.slices_Clone_int_int s = some r) : Does Try.prog 243 [.vl ρ0 1 (List.map encInt s)] [] rn (fun x H => ∃ ob0_ : Option Nat, (ob0_ = none → r = []) ∧ x = optS 1 ob0_ (List.length r) ∧ H = optH 1 ob0_ (List.map encInt r)) := by
 have hm0 := h; clear h; unfold M.slices_Clone_int_int at hm0
 replace hm0 := asrt_some hm0; rcases hm0 with ⟨hh0, hm0⟩
 obtain rfl := Option.some.inj hm0
 refine Does.intro (N := 8) Try.func243 rfl rfl rfl rfl ?_
 intro w0 S0
 refine V.seq ?_
 refine V.region ?_
 refine VO.cons rfl (V1.assign rfl rfl rfl (ltb rfl) ?_)
 refine VO.nil ?_
 refine V.seq ?_
 first | refine V.region ?_ | (refine V.seq ?_; refine V.region ?_)
 refine VO.cons rfl (V1.move rfl rfl rfl (ltb rfl) ?_)
 refine VO.cons rfl (V1.eqNil rfl rfl usl_34 rfl rfl (ltb rfl) ?_)
 intro c hc
 refine VO.nil ?_
 first | refine V.cond rfl (fun hc0 => ?_) (fun hc0 => ?_) | (refine V.seq ?_; refine V.cond rfl (fun hc0 => ?_) (fun hc0 => ?_))
 ·
  have hs : s = [] := List.map_eq_nil_iff.1 (hc hc0)
  refine V.seq ?_
  refine V.region ?_
  refine VO.cons rfl (V1.assign rfl rfl rfl (ltb rfl) ?_)
  refine VO.nil ?_
  refine V.ret ?_
  exact ⟨_, [], ⟨_, _, rfl, rfl, rfl⟩, List.nil_sublist _, none, fun _ => hs, rfl, rfl⟩
 ·
  refine V.skip ?_
  refine V.seq ?_
  refine V.region ?_
  refine VO.cons rfl (V1.buildSliceT (f := encInt) ([] : List Int) rfl rfl esz_34 zk_3 rfl rfl rfl rfl rfl rfl rfl (ltb rfl) ?_)
  intro b0
  refine VO.cons rfl (V1.move rfl rfl rfl (ltb rfl) ?_)
  refine VO.cons rfl (V1.appendMap (k := 0) (f := encInt) (l := []) (m := s) rfl rfl rfl rfl rfl esz_34 eby_34 zk_3 rfl rfl rfl (.vl isl_34) (by simpa using hh0) (ltb rfl) ?_)
  intro b1
  refine VO.cons rfl (V1.assign rfl rfl rfl (ltb rfl) ?_)
  refine VO.nil ?_
  refine V.keep 8 [2] [0] (E0 := [(2, .sref b1 1 0 (List.length s))]) (H0 := [(b1, ⟨1, List.map encInt s⟩)]) rfl (⟨_, _, rfl, rfl, rfl⟩) (⟨_, _, rfl, rfl, rfl⟩) rfl ?_
  refine V.ret ?_
  exact ⟨_, _, ⟨_, _, rfl, rfl, rfl⟩, List.Sublist.refl _, some b1, (fun e => by cases e), rfl, rfl⟩

theorem ok_impl_copyHolds {rn : Nat} {list : List Hold} {r : List Hold} (h : M.impl_copyHolds list = some r) : Does Try.prog 201 [.vl rn 6 (List.map (encHold rn) list)] [] rn (fun x H => ∃ (ob0_ : Option Nat), (ob0_ = none → r = []) ∧ x = optS 6 ob0_ (List.length r) ∧ H = optH 6 ob0_ (List.map (encHold rn) r)) := by
 have hm0 := h; clear h; unfold M.impl_copyHolds at hm0
 try dsimp only at hm0
 refine Does.intro (N := 24) Try.func201 rfl rfl rfl rfl ?_
 intro w0 S0
 refine V.seq ?_
 refine V.region ?_
 refine VO.cons rfl (V1.assign rfl rfl rfl (ltb rfl) ?_)
 refine VO.nil ?_
 refine V.seq ?_
 replace hm0 := bindO hm0; rcases hm0 with ⟨y0, hh0, hm0⟩
 refine V.region ?_
 refine VO.cons rfl (V1.move rfl rfl rfl (ltb rfl) ?_)
 refine VO.cons rfl (V1.call rfl rfl rfl cok_242 rfl (ok_slices_Clone_impl_Hold_impl_Hold hh0) rfl (ltb rfl) ?_)
 rintro _ _ ⟨ob0, hob0, rfl, rfl⟩
 refine VO.cons rfl (V1.assign rfl rfl rfl (ltb rfl) ?_)
 refine VO.nil ?_
 rcases ob0 with _ | ob0
 ·
  refine V.seq ?_
  refine V.seq ?_
  refine V.region ?_
  refine VO.cons rfl (V1.move rfl rfl rfl (ltb rfl) ?_)
  refine VO.cons rfl (V1.lenNilsE (l := y0) (hob0 rfl) rfl rfl rfl rfl rfl rfl isl_92 (ltb rfl) ?_)
  refine VO.cons rfl (V1.move rfl rfl rfl (ltb rfl) ?_)
  refine VO.nil ?_
  refine V.keep 24 [3, 8, 9] [] (E0 := [(3, .nils), (8, .int .i64 (y0.length : Int)), (9, .int .i64 (0 : Int))]) (H0 := []) rfl (⟨_, _, rfl, rfl, ⟨_, _, rfl, rfl, ⟨_, _, rfl, rfl, rfl⟩⟩⟩) (rfl) rfl ?_
  replace hm0 := bindO hm0; rcases hm0 with ⟨e0, he1, hm0⟩
  refine V.cutT (D := (List Hold) × (Unit)) (fun ⟨out_, _⟩ => ⟨24, [(3, .nils)], []⟩) (fun ⟨out_, _⟩ => (out_ = e0) ∧ out_ = []) ?_ ?_
  ·
   refine V.block ?_
   refine V.keep 24 [3, 9, 8] [] (E0 := [(3, .nils), (9, .int .i64 (0 : Int)), (8, .int .i64 (y0.length : Int))]) (H0 := []) rfl (⟨_, _, rfl, rfl, ⟨_, _, rfl, rfl, ⟨_, _, rfl, rfl, rfl⟩⟩⟩) (rfl) rfl ?_
   refine V.loopE (D := Nat × (List Hold × Int) × (Unit)) (fun ⟨n0, ⟨out_0, v⟩, _⟩ => [(3, .nils), (9, .int .i64 v)]) (fun ⟨n0, ⟨out_0, v⟩, _⟩ => []) (fun ⟨n0, ⟨out_0, v⟩, _⟩ => loopO (M.impl_copyHolds_l0 y0) n0 (out_0, v) = some e0 ∧ out_0 = []) (fun ⟨n0, _, _⟩ => n0) (rounds, (y0, (0 : Int)), ()) rfl ⟨he1, (hob0 rfl)⟩ ?_
   rintro ⟨n0, ⟨out_0, v⟩, _⟩ ⟨hP0, hn_out_0⟩
   obtain ⟨m0, y1, rfl, hm1, hl1, hr1⟩ := loop_head hP0
   unfold M.impl_copyHolds_l0 at hm1; dsimp only at hm1
   show V _ _ _ ⟨24, [(3, .nils), (9, .int .i64 v), (8, .int .i64 (y0.length : Int))], []⟩
   refine V.seq ?_
   refine V.region ?_
   refine VO.cons rfl (V1.int rfl rfl rfl rfl rfl (ltb rfl) ?_)
   refine VO.nil ?_
   refine V.seq ?_
   refine V.cond rfl (fun hc0 => ?_) (fun hc0 => ?_)
   ·
    replace hm1 := cond_t hc0 hm1
    refine V.skip ?_
    refine V.seq ?_
    refine V.block ?_
    refine V.seq ?_
    refine V.region ?_
    refine VO.cons rfl (V1.move rfl rfl rfl (ltb rfl) ?_)
    refine VO.cons rfl (V1.assign rfl rfl rfl (ltb rfl) ?_)
    refine VO.nil ?_
    replace hm1 := asrt_some hm1; rcases hm1 with ⟨hh1, hm1⟩
    replace hm1 := bindO hm1; rcases hm1 with ⟨y2, hh2, hm1⟩
    replace hm1 := asrt_some hm1; rcases hm1 with ⟨hh3, hm1⟩
    refine V.region ?_
    refine VO.cons rfl (V1.move rfl rfl rfl (ltb rfl) ?_)
    refine VO.cons rfl (V1.move rfl rfl rfl (ltb rfl) ?_)
    refine VO.cons rfl (V1.move rfl rfl rfl (ltb rfl) ?_)
    refine VO.cons rfl (V1.move rfl rfl rfl (ltb rfl) ?_)
    refine VO.weakenK (Keeps.nilsE (l := out_0) 14 rn 6 (encHold rn) hn_out_0 rfl rfl) ?_
    refine VO.cons rfl (V1.indexI rfl rfl esz_92 rfl rfl hh1 (ltb rfl) ?_)
    refine VO.cons rfl (V1.fieldPin rfl rfl fo_183_3 rfl (ltb rfl) ?_)
    refine VO.cons rfl (V1.loadPin rfl rfl tyk_34 rfl rfl (ltb rfl) ?_)
    refine VO.cons rfl (V1.call rfl rfl rfl cok_243 rfl (ok_slices_Clone_int_int hh2) rfl (ltb rfl) ?_)
    rintro _ _ ⟨ob1, hob1, rfl, rfl⟩
    refine VO.weakenK (Keeps.optVl 19 [] rn (f := encInt) (l := y2) (ob := ob1) (H1 := []) hob1 rfl rfl ⟨rfl, trivial⟩ (fun _ => rfl) rfl iNil) ?_
    refine VO.weakenK (Keeps.nilsE (l := out_0) 12 rn 6 (encHold rn) hn_out_0 rfl rfl) ?_
    refine VO.cons rfl (V1.indexI rfl rfl esz_92 rfl rfl hh3 (ltb rfl) ?_)
    refine VO.cons rfl (V1.fieldPin rfl rfl fo_183_3 rfl (ltb rfl) ?_)
    exact (nilsNo hn_out_0 hh3).elim
   ·
    replace hm1 := cond_f hc0 hm1
    refine V.exit ?_
    obtain rfl := hr1 _ (Option.some.inj hm1).symm
    exact ⟨(out_0, ()), ⟨rfl, hn_out_0⟩, Keeps.mk (ks := []) rfl ⟨rfl, trivial⟩ (rfl) rfl⟩
  ·
   rintro ⟨out_, _⟩ ⟨rfl, hn_out_⟩
   try dsimp only at hm0
   refine V.seq ?_
   refine V.region ?_
   refine VO.cons rfl (V1.move rfl rfl rfl (ltb rfl) ?_)
   refine VO.cons rfl (V1.assign rfl rfl rfl (ltb rfl) ?_)
   refine VO.nil ?_
   refine V.keep 24 [2] [] (E0 := [(2, .nils)]) (H0 := []) rfl (⟨_, _, rfl, rfl, rfl⟩) (rfl) rfl ?_
   refine V.ret ?_
   obtain rfl := Option.some.inj hm0
   exact ⟨_, _, ⟨_, _, rfl, rfl, rfl⟩, List.Sublist.refl _, none, (fun _ => hn_out_), rfl, rfl⟩
 ·
  refine V.seq ?_
  refine V.seq ?_
  refine V.region ?_
  refine VO.cons rfl (V1.move rfl rfl rfl (ltb rfl) ?_)
  refine VO.cons rfl (V1.lenSref rfl rfl rfl rfl rfl rfl isl_92 (ltb rfl) ?_)
  refine VO.cons rfl (V1.move rfl rfl rfl (ltb rfl) ?_)
  refine VO.nil ?_
  refine V.keep 24 [3, 8, 9] [0] (E0 := [(3, .sref ob0 6 0 (List.length y0)), (8, .int .i64 (y0.length : Int)), (9, .int .i64 (0 : Int))]) (H0 := [(ob0, ⟨6, List.map (encHold rn) y0⟩)]) rfl (⟨_, _, rfl, rfl, ⟨_, _, rfl, rfl, ⟨_, _, rfl, rfl, rfl⟩⟩⟩) (⟨_, _, rfl, rfl, rfl⟩) rfl ?_
  replace hm0 := bindO hm0; rcases hm0 with ⟨e0, he1, hm0⟩
  refine V.cutT (D := (List Hold) × (Unit)) (fun ⟨out_, _⟩ => ⟨24, [(3, .sref ob0 6 0 (List.length out_))], [(ob0, ⟨6, List.map (encHold rn) out_⟩)]⟩) (fun ⟨out_, _⟩ => (out_ = e0)) ?_ ?_
  ·
   refine V.block ?_
   refine V.keep 24 [3, 9, 8] [0] (E0 := [(3, .sref ob0 6 0 (List.length y0)), (9, .int .i64 (0 : Int)), (8, .int .i64 (y0.length : Int))]) (H0 := [(ob0, ⟨6, List.map (encHold rn) y0⟩)]) rfl (⟨_, _, rfl, rfl, ⟨_, _, rfl, rfl, ⟨_, _, rfl, rfl, rfl⟩⟩⟩) (⟨_, _, rfl, rfl, rfl⟩) rfl ?_
   refine V.loopE (D := Nat × (List Hold × Int) × (Unit)) (fun ⟨n0, ⟨out_0, v⟩, _⟩ => [(3, .sref ob0 6 0 (List.length out_0)), (9, .int .i64 v)]) (fun ⟨n0, ⟨out_0, v⟩, _⟩ => [(ob0, ⟨6, List.map (encHold rn) out_0⟩)]) (fun ⟨n0, ⟨out_0, v⟩, _⟩ => loopO (M.impl_copyHolds_l0 y0) n0 (out_0, v) = some e0) (fun ⟨n0, _, _⟩ => n0) (rounds, (y0, (0 : Int)), ()) rfl he1 ?_
   rintro ⟨n0, ⟨out_0, v⟩, _⟩ hP0
   obtain ⟨m0, y1, rfl, hm1, hl1, hr1⟩ := loop_head hP0
   unfold M.impl_copyHolds_l0 at hm1; dsimp only at hm1
   show V _ _ _ ⟨24, [(3, .sref ob0 6 0 (List.length out_0)), (9, .int .i64 v), (8, .int .i64 (y0.length : Int))], [(ob0, ⟨6, List.map (encHold rn) out_0⟩)]⟩
   refine V.seq ?_
   refine V.region ?_
   refine VO.cons rfl (V1.int rfl rfl rfl rfl rfl (ltb rfl) ?_)
   refine VO.nil ?_
   refine V.seq ?_
   refine V.cond rfl (fun hc0 => ?_) (fun hc0 => ?_)
   ·
    replace hm1 := cond_t hc0 hm1
    refine V.skip ?_
    refine V.seq ?_
    refine V.block ?_
    refine V.seq ?_
    refine V.region ?_
    refine VO.cons rfl (V1.move rfl rfl rfl (ltb rfl) ?_)
    refine VO.cons rfl (V1.assign rfl rfl rfl (ltb rfl) ?_)
    refine VO.nil ?_
    replace hm1 := asrt_some hm1; rcases hm1 with ⟨hh1, hm1⟩
    replace hm1 := bindO hm1; rcases hm1 with ⟨y2, hh2, hm1⟩
    replace hm1 := asrt_some hm1; rcases hm1 with ⟨hh3, hm1⟩
    refine V.region ?_
    refine VO.cons rfl (V1.move rfl rfl rfl (ltb rfl) ?_)
    refine VO.cons rfl (V1.move rfl rfl rfl (ltb rfl) ?_)
    refine VO.cons rfl (V1.move rfl rfl rfl (ltb rfl) ?_)
    refine VO.cons rfl (V1.move rfl rfl rfl (ltb rfl) ?_)
    refine VO.cons rfl (V1.indexSr rfl rfl esz_92 rfl rfl hh1 (ltb rfl) ?_)
    refine VO.cons rfl (V1.fieldRef rfl rfl fo_183_3 rfl (ltb rfl) ?_)
    refine VO.cons rfl (V1.loadMap (k := 0) (f := (encHold rn)) rfl rfl tyk_34 rfl rfl (by simpa using natLt hh1.1 hh1.2) rfl (ltb rfl) ?_)
    refine VO.cons rfl (V1.call rfl rfl rfl cok_243 rfl (ok_slices_Clone_int_int hh2) rfl (ltb rfl) ?_)
    rintro _ _ ⟨ob1, hob1, rfl, rfl⟩
    refine VO.weakenK (Keeps.optVl 19 [] rn (f := encInt) (l := y2) (ob := ob1) (H1 := []) hob1 rfl rfl ⟨rfl, trivial⟩ (fun _ => rfl) rfl iNil) ?_
    refine VO.cons rfl (V1.indexSr rfl rfl esz_92 rfl rfl hh3 (ltb rfl) ?_)
    refine VO.cons rfl (V1.fieldRef rfl rfl fo_183_3 rfl (ltb rfl) ?_)
    refine VO.cons rfl (V1.storeMapCell (k := 0) (f := (encHold rn)) (x := (⟨(out_0.getD (Int.toNat v) default).Id, (out_0.getD (Int.toNat v) default).From, (out_0.getD (Int.toNat v) default).Until, y2, (out_0.getD (Int.toNat v) default).First, (out_0.getD (Int.toNat v) default).Last⟩ : Hold)) rfl rfl tyk_34 rfl rfl (by simpa using natLt hh3.1 hh3.2) rfl rfl rfl rfl rfl rfl ?_)
    refine VO.weakenK (Keeps.say 3 (y := .sref ob0 6 0 (List.length (out_0.set (Int.toNat v) (⟨(out_0.getD (Int.toNat v) default).Id, (out_0.getD (Int.toNat v) default).From, (out_0.getD (Int.toNat v) default).Until, y2, (out_0.getD (Int.toNat v) default).First, (out_0.getD (Int.toNat v) default).Last⟩ : Hold)))) rfl (by simp [optS])) ?_
    refine VO.nil ?_
    refine V.keep 24 [3, 8, 9] [0] (E0 := [(3, .sref ob0 6 0 (List.length (out_0.set (Int.toNat v) (⟨(out_0.getD (Int.toNat v) default).Id, (out_0.getD (Int.toNat v) default).From, (out_0.getD (Int.toNat v) default).Until, y2, (out_0.getD (Int.toNat v) default).First, (out_0.getD (Int.toNat v) default).Last⟩ : Hold)))), (8, .int .i64 (y0.length : Int)), (9, .int .i64 v)]) (H0 := [(ob0, ⟨6, List.map (encHold rn) (out_0.set (Int.toNat v) (⟨(out_0.getD (Int.toNat v) default).Id, (out_0.getD (Int.toNat v) default).From, (out_0.getD (Int.toNat v) default).Until, y2, (out_0.getD (Int.toNat v) default).First, (out_0.getD (Int.toNat v) default).Last⟩ : Hold))⟩)]) rfl (⟨_, _, rfl, rfl, ⟨_, _, rfl, rfl, ⟨_, _, rfl, rfl, rfl⟩⟩⟩) (⟨_, _, rfl, rfl, rfl⟩) rfl ?_
    refine V.region ?_
    refine VO.cons rfl (V1.int rfl rfl rfl rfl rfl (ltb rfl) ?_)
    refine VO.cons rfl (V1.move rfl rfl rfl (ltb rfl) ?_)
    refine VO.nil ?_
    exact ⟨(m0, ((out_0.set (Int.toNat v) (⟨(out_0.getD (Int.toNat v) default).Id, (out_0.getD (Int.toNat v) default).From, (out_0.getD (Int.toNat v) default).Until, y2, (out_0.getD (Int.toNat v) default).First, (out_0.getD (Int.toNat v) default).Last⟩ : Hold)), (IntKind.i64.wrap (v + (1 : Int)))), ()), hl1 _ (Option.some.inj hm1).symm, Nat.lt_succ_self _, Keeps.mk (ks := [0]) rfl ⟨(someSref (by simp)), rfl, rfl, trivial⟩ (⟨_, _, rfl, rfl, rfl⟩) rfl⟩
   ·
    replace hm1 := cond_f hc0 hm1
    refine V.exit ?_
    obtain rfl := hr1 _ (Option.some.inj hm1).symm
    exact ⟨(out_0, ()), rfl, Keeps.mk (ks := [0]) rfl ⟨(someSref (by simp)), trivial⟩ (⟨_, _, rfl, rfl, rfl⟩) rfl⟩
  ·
   rintro ⟨out_, _⟩ rfl
   try dsimp only at hm0
   refine V.seq ?_
   refine V.region ?_
   refine VO.cons rfl (V1.move rfl rfl rfl (ltb rfl) ?_)
   refine VO.cons rfl (V1.assign rfl rfl rfl (ltb rfl) ?_)
   refine VO.nil ?_
   refine V.keep 24 [2] [0] (E0 := [(2, .sref ob0 6 0 (List.length out_))]) (H0 := [(ob0, ⟨6, List.map (encHold rn) out_⟩)]) rfl (⟨_, _, rfl, rfl, rfl⟩) (⟨_, _, rfl, rfl, rfl⟩) rfl ?_
   refine V.ret ?_
   obtain rfl := Option.some.inj hm0
   exact ⟨_, _, ⟨_, _, rfl, rfl, rfl⟩, List.Sublist.refl _, some ob0, (fun e => by cases e), rfl, rfl⟩

theorem ok_impl_ReleaseHold {rn : Nat} {list : List Hold} {id_ : Int} {day : Int} {r : List Hold × Bool} (h : M.impl_ReleaseHold list id_ day = some r) : Does Try.prog 102 [.vl rn 6 (List.map (encHold rn) list), .int .i64 id_, .int .i64 day] [] rn (fun x H => ∃ (ob0_ : Option Nat), (ob0_ = none → r.1 = []) ∧ x = .tup [optS 6 ob0_ (List.length r.1), .bool r.2] ∧ H = optH 6 ob0_ (List.map (encHold rn) r.1)) := by
 have hm0 := h; clear h; unfold M.impl_ReleaseHold at hm0
 try dsimp only at hm0
 refine Does.intro (N := 44) Try.func102 rfl rfl rfl rfl ?_
 intro w0 S0
 refine V.seq ?_
 refine V.region ?_
 refine VO.cons rfl (V1.boxN (n := 1) rfl rfl rfl rfl rfl (ltb rfl) ?_)
 intro b0
 refine VO.cons rfl (V1.assign rfl rfl rfl (ltb rfl) ?_)
 refine VO.cons rfl (V1.assign rfl rfl rfl (ltb rfl) ?_)
 refine VO.nil ?_
 refine V.seq ?_
 replace hm0 := bindO hm0; rcases hm0 with ⟨y0, hh0, hm0⟩
 refine V.region ?_
 refine VO.cons rfl (V1.move rfl rfl rfl (ltb rfl) ?_)
 refine VO.cons rfl (V1.makeFunc rfl rfl rfl (ltb rfl) ?_)
 refine VO.cons rfl (V1.callL (rn + 1) [b0] [.vl rn 6 (List.map (encHold rn) list), .fn 200 [.pin (rn + 1) (.int .i64 id_) 0]] rfl rfl rfl cok_199 rfl ⟨_, _, rfl, .same _, ⟨_, _, rfl, Lend.fn ⟨_, _, rfl, Lend.ref 0 rfl rfl rfl rfl (.head _), rfl⟩, rfl⟩⟩ (bwCons (k := 0) rfl bwNil) (ok_slices_IndexFunc_impl_Hold_impl_Hold hh0 (fm := (fun x0 => M.impl_ReleaseHold_1 x0 id_)) cok_200 (fun _ _ h => ok_impl_ReleaseHold_1 h)) rfl (⟨(by dsimp only; omega), by rintro _ _ ⟨rfl, rfl⟩; exact ⟨rfl, by simp⟩⟩) (ltb rfl) ?_)
 rintro _ _ ⟨rfl, rfl⟩
 refine VO.cons rfl (V1.assign rfl rfl rfl (ltb rfl) ?_)
 refine VO.nil ?_
 refine V.keep 44 [0, 2, 8] [] (E0 := [(0, .vl rn 6 (List.map (encHold rn) list)), (2, .int .i64 day), (8, .int .i64 y0)]) (H0 := []) rfl (⟨_, _, rfl, rfl, ⟨_, _, rfl, rfl, ⟨_, _, rfl, rfl, rfl⟩⟩⟩) (rfl) rfl ?_
 refine V.seq ?_
 refine V.seq ?_
 replace hm0 := bindO hm0; rcases hm0 with ⟨y1, hh1, hm0⟩
 replace hm0 := asrt_some hm0; rcases hm0 with ⟨hh2, hm0⟩
 replace hm0 := bindO hm0; rcases hm0 with ⟨y2, hh3, hm0⟩
 refine V.region ?_
 refine VO.cons rfl (V1.move rfl rfl rfl (ltb rfl) ?_)
 refine VO.cons rfl (V1.call rfl rfl rfl cok_89 rfl (ok_impl_AreHolds hh1) rfl (ltb rfl) ?_)
 rintro _ _ ⟨rfl, rfl⟩
 refine VO.cons rfl (V1.not rfl rfl rfl (ltb rfl) ?_)
 refine VO.cons rfl (V1.move rfl rfl rfl (ltb rfl) ?_)
 apply VO.or (n := 2) rfl rfl rfl rfl rfl rfl (ltb rfl) (.none rfl)
 ·
  intro hg0
  refine VO.step (.some rfl rfl rfl) (V1.move rfl rfl rfl (ltb rfl) ?_)
  refine VO.step (.some rfl rfl rfl) (V1.int rfl rfl rfl rfl rfl (ltb rfl) ?_)
  exact VO.nil ⟨rfl, rfl, rfl, rfl, .inr ⟨rfl, .inr ⟨rfl, .inr ⟨rfl, .inl rfl⟩⟩⟩⟩
 refine VO.cons rfl (V1.move rfl rfl rfl (ltb rfl) ?_)
 apply VO.or (n := 6) rfl rfl rfl rfl rfl rfl (ltb rfl) (.none rfl)
 ·
  intro hg1
  refine VO.step (.some rfl rfl rfl) (V1.move rfl rfl rfl (ltb rfl) ?_)
  refine VO.step (.some rfl rfl rfl) (V1.move rfl rfl rfl (ltb rfl) ?_)
  refine VO.step (.some rfl rfl rfl) (V1.indexI rfl rfl esz_92 rfl rfl (hh2 hg1) (ltb rfl) ?_)
  refine VO.step (.some rfl rfl rfl) (V1.fieldPin rfl rfl fo_183_2 rfl (ltb rfl) ?_)
  refine VO.step (.some rfl rfl rfl) (V1.loadPin rfl rfl tyk_3 rfl rfl (ltb rfl) ?_)
  refine VO.step (.some rfl rfl rfl) (V1.int rfl rfl rfl rfl rfl (ltb rfl) ?_)
  exact VO.nil ⟨rfl, rfl, rfl, rfl, .inr ⟨rfl, .inr ⟨rfl, .inr ⟨rfl, .inr ⟨rfl, .inr ⟨rfl, .inr ⟨rfl, .inr ⟨rfl, .inl rfl⟩⟩⟩⟩⟩⟩⟩⟩
 refine VO.cons rfl (V1.move rfl rfl rfl (ltb rfl) ?_)
 apply VO.or (n := 3) rfl rfl rfl rfl rfl rfl (ltb rfl) (.none rfl)
 ·
  intro hg2
  refine VO.step (.some rfl rfl rfl) (V1.move rfl rfl rfl (ltb rfl) ?_)
  refine VO.step (.some rfl rfl rfl) (V1.call rfl rfl rfl cok_144 rfl (ok_impl_isDay (cond_f hg2 hh3)) rfl (ltb rfl) ?_)
  rintro _ _ ⟨rfl, rfl⟩
  refine VO.step (.some rfl rfl rfl) (V1.not rfl rfl rfl (ltb rfl) ?_)
  exact VO.nil ⟨rfl, rfl, rfl, rfl, .inr ⟨rfl, .inr ⟨rfl, .inr ⟨rfl, .inr ⟨rfl, .inl rfl⟩⟩⟩⟩⟩
 refine VO.nil ?_
 refine V.keep 44 [0, 2, 8, 32] [] (E0 := [(0, .vl rn 6 (List.map (encHold rn) list)), (2, .int .i64 day), (8, .int .i64 y0), (32, .bool ((((!y1) || (decide (y0 < (0 : Int)))) || (decide (((list.getD (Int.toNat y0) default).Until) ≥ (0 : Int)))) || (!y2)))]) (H0 := []) rfl (⟨_, _, rfl, rfl, ⟨_, _, rfl, rfl, ⟨_, _, rfl, rfl, ⟨_, _, rfl, rfl, rfl⟩⟩⟩⟩) (rfl) rfl ?_
 refine V.cond rfl (fun hc0 => ?_) (fun hc0 => ?_)
 ·
  replace hm0 := cond_t hc0 hm0
  refine V.seq ?_
  refine V.region ?_
  refine VO.cons rfl (V1.assign rfl rfl rfl (ltb rfl) ?_)
  refine VO.cons rfl (V1.assign rfl rfl rfl (ltb rfl) ?_)
  refine VO.nil ?_
  refine V.keep 44 [6, 7] [] (E0 := [(6, .nils), (7, .bool false)]) (H0 := []) rfl (⟨_, _, rfl, rfl, ⟨_, _, rfl, rfl, rfl⟩⟩) (rfl) rfl ?_
  refine V.ret ?_
  obtain rfl := Option.some.inj hm0
  exact ⟨_, _, ⟨_, _, rfl, rfl, ⟨_, _, rfl, rfl, rfl⟩⟩, List.Sublist.refl _, none, (fun _ => rfl), rfl, rfl⟩
 ·
  replace hm0 := cond_f hc0 hm0
  refine V.skip ?_
  refine V.seq ?_
  replace hm0 := bindO hm0; rcases hm0 with ⟨y3, hh4, hm0⟩
  refine V.region ?_
  refine VO.cons rfl (V1.move rfl rfl rfl (ltb rfl) ?_)
  refine VO.cons rfl (V1.call rfl rfl rfl cok_201 rfl (ok_impl_copyHolds hh4) rfl (ltb rfl) ?_)
  rintro _ _ ⟨ob0, hob0, rfl, rfl⟩
  refine VO.cons rfl (V1.assign rfl rfl rfl (ltb rfl) ?_)
  refine VO.nil ?_
  rcases ob0 with _ | ob0
  ·
   refine V.seq ?_
   replace hm0 := asrt_some hm0; rcases hm0 with ⟨hh5, hm0⟩
   refine V.region ?_
   refine VO.cons rfl (V1.move rfl rfl rfl (ltb rfl) ?_)
   refine VO.cons rfl (V1.move rfl rfl rfl (ltb rfl) ?_)
   refine VO.cons rfl (V1.move rfl rfl rfl (ltb rfl) ?_)
   refine VO.weakenK (Keeps.nilsE (l := y3) 35 rn 6 (encHold rn) (hob0 rfl) rfl rfl) ?_
   refine VO.cons rfl (V1.indexI rfl rfl esz_92 rfl rfl hh5 (ltb rfl) ?_)
   refine VO.cons rfl (V1.fieldPin rfl rfl fo_183_2 rfl (ltb rfl) ?_)
   exact (nilsNo (hob0 rfl) hh5).elim
  ·
   refine V.seq ?_
   replace hm0 := asrt_some hm0; rcases hm0 with ⟨hh5, hm0⟩
   refine V.region ?_
   refine VO.cons rfl (V1.move rfl rfl rfl (ltb rfl) ?_)
   refine VO.cons rfl (V1.move rfl rfl rfl (ltb rfl) ?_)
   refine VO.cons rfl (V1.move rfl rfl rfl (ltb rfl) ?_)
   refine VO.cons rfl (V1.indexSr rfl rfl esz_92 rfl rfl hh5 (ltb rfl) ?_)
   refine VO.cons rfl (V1.fieldRef rfl rfl fo_183_2 rfl (ltb rfl) ?_)
   refine VO.cons rfl (V1.storeMapCell (k := 0) (f := (encHold rn)) (x := (⟨(y3.getD (Int.toNat y0) default).Id, (y3.getD (Int.toNat y0) default).From, day, (y3.getD (Int.toNat y0) default).Series, (y3.getD (Int.toNat y0) default).First, (y3.getD (Int.toNat y0) default).Last⟩ : Hold)) rfl rfl tyk_3 rfl rfl (by simpa using natLt hh5.1 hh5.2) rfl rfl rfl rfl rfl rfl ?_)
   refine VO.weakenK (Keeps.say 9 (y := .sref ob0 6 0 (List.length (y3.set (Int.toNat y0) (⟨(y3.getD (Int.toNat y0) default).Id, (y3.getD (Int.toNat y0) default).From, day, (y3.getD (Int.toNat y0) default).Series, (y3.getD (Int.toNat y0) default).First, (y3.getD (Int.toNat y0) default).Last⟩ : Hold)))) rfl (by simp [optS])) ?_
   refine VO.nil ?_
   refine V.keep 44 [9] [0] (E0 := [(9, .sref ob0 6 0 (List.length (y3.set (Int.toNat y0) (⟨(y3.getD (Int.toNat y0) default).Id, (y3.getD (Int.toNat y0) default).From, day, (y3.getD (Int.toNat y0) default).Series, (y3.getD (Int.toNat y0) default).First, (y3.getD (Int.toNat y0) default).Last⟩ : Hold))))]) (H0 := [(ob0, ⟨6, List.map (encHold rn) (y3.set (Int.toNat y0) (⟨(y3.getD (Int.toNat y0) default).Id, (y3.getD (Int.toNat y0) default).From, day, (y3.getD (Int.toNat y0) default).Series, (y3.getD (Int.toNat y0) default).First, (y3.getD (Int.toNat y0) default).Last⟩ : Hold))⟩)]) rfl (⟨_, _, rfl, rfl, rfl⟩) (⟨_, _, rfl, rfl, rfl⟩) rfl ?_
   refine V.seq ?_
   refine V.seq ?_
   replace hm0 := bindO hm0; rcases hm0 with ⟨y4, hh6, hm0⟩
   refine V.region ?_
   refine VO.cons rfl (V1.move rfl rfl rfl (ltb rfl) ?_)
   refine VO.cons rfl (V1.callL (rn + 1) [ob0] [.vl (rn + 1) 6 (List.map (encHold rn) (y3.set (Int.toNat y0) (⟨(y3.getD (Int.toNat y0) default).Id, (y3.getD (Int.toNat y0) default).From, day, (y3.getD (Int.toNat y0) default).Series, (y3.getD (Int.toNat y0) default).First, (y3.getD (Int.toNat y0) default).Last⟩ : Hold)))] rfl rfl rfl cok_89 rfl ⟨_, _, rfl, Lend.srMap 0 rfl (fun _ => rfl) (.head _), rfl⟩ (bwCons (k := 0) rfl bwNil) (ok_impl_AreHolds hh6) rfl (⟨(by dsimp only; omega), by rintro _ _ ⟨rfl, rfl⟩; exact ⟨rfl, by simp⟩⟩) (ltb rfl) ?_)
   rintro _ _ ⟨rfl, rfl⟩
   refine VO.cons rfl (V1.not rfl rfl rfl (ltb rfl) ?_)
   refine VO.nil ?_
   refine V.cond rfl (fun hc1 => ?_) (fun hc1 => ?_)
   ·
    replace hm0 := cond_t hc1 hm0
    refine V.seq ?_
    refine V.region ?_
    refine VO.cons rfl (V1.assign rfl rfl rfl (ltb rfl) ?_)
    refine VO.cons rfl (V1.assign rfl rfl rfl (ltb rfl) ?_)
    refine VO.nil ?_
    refine V.keep 44 [6, 7] [] (E0 := [(6, .nils), (7, .bool false)]) (H0 := []) rfl (⟨_, _, rfl, rfl, ⟨_, _, rfl, rfl, rfl⟩⟩) (rfl) rfl ?_
    refine V.ret ?_
    obtain rfl := Option.some.inj hm0
    exact ⟨_, _, ⟨_, _, rfl, rfl, ⟨_, _, rfl, rfl, rfl⟩⟩, List.Sublist.refl _, none, (fun _ => rfl), rfl, rfl⟩
   ·
    replace hm0 := cond_f hc1 hm0
    refine V.skip ?_
    refine V.seq ?_
    refine V.region ?_
    refine VO.cons rfl (V1.move rfl rfl rfl (ltb rfl) ?_)
    refine VO.cons rfl (V1.assign rfl rfl rfl (ltb rfl) ?_)
    refine VO.cons rfl (V1.assign rfl rfl rfl (ltb rfl) ?_)
    refine VO.nil ?_
    refine V.keep 44 [6, 7] [0] (E0 := [(6, .sref ob0 6 0 (List.length (y3.set (Int.toNat y0) (⟨(y3.getD (Int.toNat y0) default).Id, (y3.getD (Int.toNat y0) default).From, day, (y3.getD (Int.toNat y0) default).Series, (y3.getD (Int.toNat y0) default).First, (y3.getD (Int.toNat y0) default).Last⟩ : Hold)))), (7, .bool true)]) (H0 := [(ob0, ⟨6, List.map (encHold rn) (y3.set (Int.toNat y0) (⟨(y3.getD (Int.toNat y0) default).Id, (y3.getD (Int.toNat y0) default).From, day, (y3.getD (Int.toNat y0) default).Series, (y3.getD (Int.toNat y0) default).First, (y3.getD (Int.toNat y0) default).Last⟩ : Hold))⟩)]) rfl (⟨_, _, rfl, rfl, ⟨_, _, rfl, rfl, rfl⟩⟩) (⟨_, _, rfl, rfl, rfl⟩) rfl ?_
    refine V.ret ?_
    obtain rfl := Option.some.inj hm0
    exact ⟨_, _, ⟨_, _, rfl, rfl, ⟨_, _, rfl, rfl, rfl⟩⟩, List.Sublist.refl _, some ob0, (fun e => by cases e), rfl, rfl⟩

theorem ok_spec_l1Own {ρ0 rn : Nat} {l : List Int} {r : List Int} (h : M.spec_l1Own l = some r) : Does Try.prog 244 [.vl ρ0 1 (List.map encInt l)] [] rn (fun x H => ∃ (ob0_ : Nat), x = PV.sref ob0_ 1 0 (List.length r) ∧ H = [(ob0_, ⟨1, List.map encInt r⟩)]) := by
 have hm0 := h; clear h; unfold M.spec_l1Own at hm0
 try dsimp only at hm0
 refine Does.intro (N := 6) Try.func244 rfl rfl rfl rfl ?_
 intro w0 S0
 refine V.seq ?_
 refine V.region ?_
 refine VO.cons rfl (V1.assign rfl rfl rfl (ltb rfl) ?_)
 refine VO.nil ?_
 refine V.seq ?_
 replace hm0 := asrt_some hm0; rcases hm0 with ⟨hh0, hm0⟩
 refine V.region ?_
 refine VO.cons rfl (V1.buildSliceT (f := encInt) ([] : List Int) rfl rfl esz_34 zk_3 rfl rfl rfl rfl rfl rfl rfl (ltb rfl) ?_)
 intro b0
 refine VO.cons rfl (V1.move rfl rfl rfl (ltb rfl) ?_)
 refine VO.cons rfl (V1.appendMap (k := 0) (f := encInt) (l := ([] : List Int)) (m := l) rfl rfl rfl rfl rfl esz_34 eby_34 zk_3 rfl rfl rfl (.vl isl_34) hh0 (ltb rfl) ?_)
 intro b1
 refine VO.cons rfl (V1.assign rfl rfl rfl (ltb rfl) ?_)
 refine VO.nil ?_
 refine V.keep 6 [2] [0] (E0 := [(2, .sref b1 1 0 (List.length (([] : List Int) ++ l)))]) (H0 := [(b1, ⟨1, List.map encInt (([] : List Int) ++ l)⟩)]) rfl (⟨_, _, rfl, rfl, rfl⟩) (⟨_, _, rfl, rfl, rfl⟩) rfl ?_
 refine V.ret ?_
 obtain rfl := Option.some.inj hm0
 exact ⟨_, _, ⟨_, _, rfl, rfl, rfl⟩, List.Sublist.refl _, b1, rfl, rfl⟩

theorem ok_spec_l9Own {rn : Nat} {list : List Hold} {r : List Hold} (h : M.spec_l9Own list = some r) : Does Try.prog 202 [.vl rn 6 (List.map (encHold rn) list)] [] rn (fun x H => ∃ (ob0_ : Nat), x = PV.sref ob0_ 6 0 (List.length r) ∧ H = [(ob0_, ⟨6, List.map (encHold rn) r⟩)]) := by
 have hm0 := h; clear h; unfold M.spec_l9Own at hm0
 try dsimp only at hm0
 refine Does.intro (N := 26) Try.func202 rfl rfl rfl rfl ?_
 intro w0 S0
 refine V.seq ?_
 refine V.region ?_
 refine VO.cons rfl (V1.assign rfl rfl rfl (ltb rfl) ?_)
 refine VO.nil ?_
 refine V.seq ?_
 refine V.region ?_
 refine VO.cons rfl (V1.buildSliceT (f := (encHold rn)) ([] : List Hold) rfl rfl esz_92 zk_183 rfl rfl rfl rfl rfl rfl rfl (ltb rfl) ?_)
 intro b0
 refine VO.cons rfl (V1.assign rfl rfl rfl (ltb rfl) ?_)
 refine VO.nil ?_
 refine V.seq ?_
 refine V.seq ?_
 refine V.region ?_
 refine VO.cons rfl (V1.assign rfl rfl rfl (ltb rfl) ?_)
 refine VO.nil ?_
 replace hm0 := bindO hm0; rcases hm0 with ⟨e0, he1, hm0⟩
 refine V.cutT (D := (List Hold) × (Nat)) (fun ⟨out_, b1⟩ => ⟨26, [(3, .sref b1 6 0 (List.length out_))], [(b1, ⟨6, List.map (encHold rn) out_⟩)]⟩) (fun ⟨out_, b1⟩ => (out_ = e0)) ?_ ?_
 ·
  refine V.block ?_
  refine V.keep 26 [3, 4, 0] [0] (E0 := [(3, .sref b0 6 0 (List.length ([] : List Hold))), (4, .int .i64 (0 : Int)), (0, .vl rn 6 (List.map (encHold rn) list))]) (H0 := [(b0, ⟨6, List.map (encHold rn) ([] : List Hold)⟩)]) rfl (⟨_, _, rfl, rfl, ⟨_, _, rfl, rfl, ⟨_, _, rfl, rfl, rfl⟩⟩⟩) (⟨_, _, rfl, rfl, rfl⟩) rfl ?_
  refine V.loopE (D := Nat × (List Hold × Int) × (Nat)) (fun ⟨n0, ⟨out_0, i⟩, b2⟩ => [(3, .sref b2 6 0 (List.length out_0)), (4, .int .i64 i)]) (fun ⟨n0, ⟨out_0, i⟩, b2⟩ => [(b2, ⟨6, List.map (encHold rn) out_0⟩)]) (fun ⟨n0, ⟨out_0, i⟩, b2⟩ => loopO (M.spec_l9Own_l0 list) n0 (out_0, i) = some e0) (fun ⟨n0, _, _⟩ => n0) (rounds, (([] : List Hold), (0 : Int)), b0) rfl he1 ?_
  rintro ⟨n0, ⟨out_0, i⟩, b2⟩ hP0
  obtain ⟨m0, y0, rfl, hm1, hl1, hr1⟩ := loop_head hP0
  unfold M.spec_l9Own_l0 at hm1; dsimp only at hm1
  show V _ _ _ ⟨26, [(3, .sref b2 6 0 (List.length out_0)), (4, .int .i64 i), (0, .vl rn 6 (List.map (encHold rn) list))], [(b2, ⟨6, List.map (encHold rn) out_0⟩)]⟩
  refine V.seq ?_
  refine V.seq ?_
  refine V.region ?_
  refine VO.cons rfl (V1.move rfl rfl rfl (ltb rfl) ?_)
  refine VO.cons rfl (V1.move rfl rfl rfl (ltb rfl) ?_)
  refine VO.cons rfl (V1.lenMap rfl rfl rfl rfl rfl rfl isl_92 (ltb rfl) ?_)
  refine VO.cons rfl (V1.int rfl rfl rfl rfl rfl (ltb rfl) ?_)
  refine VO.nil ?_
  refine V.cond rfl (fun hc0 => ?_) (fun hc0 => ?_)
  ·
   replace hm1 := cond_t hc0 hm1
   refine V.skip ?_
   refine V.keep 26 [0, 3, 4] [0] (E0 := [(0, .vl rn 6 (List.map (encHold rn) list)), (3, .sref b2 6 0 (List.length out_0)), (4, .int .i64 i)]) (H0 := [(b2, ⟨6, List.map (encHold rn) out_0⟩)]) rfl (⟨_, _, rfl, rfl, ⟨_, _, rfl, rfl, ⟨_, _, rfl, rfl, rfl⟩⟩⟩) (⟨_, _, rfl, rfl, rfl⟩) rfl ?_
   refine V.seq ?_
   refine V.block ?_
   refine V.seq ?_
   replace hm1 := asrt_some hm1; rcases hm1 with ⟨hh0, hm1⟩
   refine V.region ?_
   refine VO.cons rfl (V1.move rfl rfl rfl (ltb rfl) ?_)
   refine VO.cons rfl (V1.move rfl rfl rfl (ltb rfl) ?_)
   refine VO.cons rfl (V1.indexI rfl rfl esz_92 rfl rfl hh0 (ltb rfl) ?_)
   refine VO.cons rfl (V1.loadPinAll rfl rfl tyk_183 rfl rfl (ltb rfl) ?_)
   refine VO.cons rfl (V1.alloc rfl rfl zk_183 (ltb rfl) ?_)
   intro b3
   refine VO.cons rfl (V1.storeRefAll (k := 0) rfl rfl tyk_183 rfl rfl rfl rfl rfl rfl ?_)
   refine VO.nil ?_
   refine V.keep 26 [0, 3, 4, 5] [0, 1] (E0 := [(0, .vl rn 6 (List.map (encHold rn) list)), (3, .sref b2 6 0 (List.length out_0)), (4, .int .i64 i), (5, .ref b3 6 0 0)]) (H0 := [(b3, ⟨6, [encHold rn (list.getD (Int.toNat i) default)]⟩), (b2, ⟨6, List.map (encHold rn) out_0⟩)]) rfl (⟨_, _, rfl, rfl, ⟨_, _, rfl, rfl, ⟨_, _, rfl, rfl, ⟨_, _, rfl, rfl, rfl⟩⟩⟩⟩) (⟨_, _, rfl, rfl, ⟨_, _, rfl, rfl, rfl⟩⟩) rfl ?_
   refine V.seq ?_
   replace hm1 := bindO hm1; rcases hm1 with ⟨y1, hh1, hm1⟩
   refine V.region ?_
   refine VO.cons rfl (V1.fieldRef rfl rfl fo_183_3 rfl (ltb rfl) ?_)
   refine VO.cons rfl (V1.loadRef (k := 0) rfl rfl tyk_34 rfl rfl rfl rfl rfl (ltb rfl) ?_)
   refine VO.cons rfl (V1.call rfl rfl rfl cok_244 rfl (ok_spec_l1Own hh1) rfl (ltb rfl) ?_)
   rintro _ _ ⟨b4, rfl, rfl⟩
   refine VO.weakenK (Keeps.freezeG 0 rn [(19, .vl rn 1 (List.map encInt y1))] [(b3, ⟨6, [encHold rn (list.getD (Int.toNat i) default)]⟩), (b2, ⟨6, List.map (encHold rn) out_0⟩)] (f := encInt) (l := y1) rfl (fun _ => rfl) ⟨⟨_, rfl, .here⟩, trivial⟩ ⟨_, _, rfl, rfl, .inl rfl, ⟨_, _, rfl, rfl, .inl rfl, rfl⟩⟩ rfl iNil) ?_
   refine VO.cons rfl (V1.fieldRef rfl rfl fo_183_3 rfl (ltb rfl) ?_)
   refine VO.cons rfl (V1.storeRef (k := 0) rfl rfl tyk_34 rfl rfl rfl rfl rfl rfl rfl rfl rfl ?_)
   refine VO.nil ?_
   refine V.keep 26 [0, 3, 4, 5] [0, 1] (E0 := [(0, .vl rn 6 (List.map (encHold rn) list)), (3, .sref b2 6 0 (List.length out_0)), (4, .int .i64 i), (5, .ref b3 6 0 0)]) (H0 := [(b3, ⟨6, [.agg [.int .i64 ((list.getD (Int.toNat i) default).Id), .int .i64 ((list.getD (Int.toNat i) default).From), .int .i64 ((list.getD (Int.toNat i) default).Until), .vl rn 1 (List.map encInt y1), .int .i64 ((list.getD (Int.toNat i) default).First), .int .i64 ((list.getD (Int.toNat i) default).Last)]]⟩), (b2, ⟨6, List.map (encHold rn) out_0⟩)]) rfl (⟨_, _, rfl, rfl, ⟨_, _, rfl, rfl, ⟨_, _, rfl, rfl, ⟨_, _, rfl, rfl, rfl⟩⟩⟩⟩) (⟨_, _, rfl, rfl, ⟨_, _, rfl, rfl, rfl⟩⟩) rfl ?_
   replace hm1 := asrt_some hm1; rcases hm1 with ⟨hh2, hm1⟩
   refine V.region ?_
   refine VO.cons rfl (V1.move rfl rfl rfl (ltb rfl) ?_)
   refine VO.cons rfl (V1.loadRefAll (k := 0) rfl rfl tyk_183 rfl rfl rfl rfl rfl (ltb rfl) ?_)
   refine VO.cons rfl (V1.buildSliceT (f := (encHold rn)) ([(⟨(list.getD (Int.toNat i) default).Id, (list.getD (Int.toNat i) default).From, (list.getD (Int.toNat i) default).Until, y1, (list.getD (Int.toNat i) default).First, (list.getD (Int.toNat i) default).Last⟩ : Hold)] : List Hold) rfl rfl esz_92 zk_183 rfl rfl rfl rfl rfl rfl rfl (ltb rfl) ?_)
   intro b5
   refine VO.cons rfl (V1.appendMap (k := 2) (f := (encHold rn)) (l := out_0) (m := ([(⟨(list.getD (Int.toNat i) default).Id, (list.getD (Int.toNat i) default).From, (list.getD (Int.toNat i) default).Until, y1, (list.getD (Int.toNat i) default).First, (list.getD (Int.toNat i) default).Last⟩ : Hold)] : List Hold)) rfl rfl rfl rfl rfl esz_92 eby_92 zk_183 rfl rfl rfl (SrcOf.srMap (k := 0) rfl isl_92) hh2 (ltb rfl) ?_)
   intro b6
   refine VO.cons rfl (V1.assign rfl rfl rfl (ltb rfl) ?_)
   refine VO.nil ?_
   refine V.keep 26 [0, 3, 4] [0] (E0 := [(0, .vl rn 6 (List.map (encHold rn) list)), (3, .sref b6 6 0 (List.length (out_0 ++ ([(⟨(list.getD (Int.toNat i) default).Id, (list.getD (Int.toNat i) default).From, (list.getD (Int.toNat i) default).Until, y1, (list.getD (Int.toNat i) default).First, (list.getD (Int.toNat i) default).Last⟩ : Hold)] : List Hold)))), (4, .int .i64 i)]) (H0 := [(b6, ⟨6, List.map (encHold rn) (out_0 ++ ([(⟨(list.getD (Int.toNat i) default).Id, (list.getD (Int.toNat i) default).From, (list.getD (Int.toNat i) default).Until, y1, (list.getD (Int.toNat i) default).First, (list.getD (Int.toNat i) default).Last⟩ : Hold)] : List Hold))⟩)]) rfl (⟨_, _, rfl, rfl, ⟨_, _, rfl, rfl, ⟨_, _, rfl, rfl, rfl⟩⟩⟩) (⟨_, _, rfl, rfl, rfl⟩) rfl ?_
   refine V.region ?_
   refine VO.cons rfl (V1.move rfl rfl rfl (ltb rfl) ?_)
   refine VO.cons rfl (V1.int rfl rfl rfl rfl rfl (ltb rfl) ?_)
   refine VO.cons rfl (V1.assign rfl rfl rfl (ltb rfl) ?_)
   refine VO.nil ?_
   exact ⟨(m0, ((out_0 ++ ([(⟨(list.getD (Int.toNat i) default).Id, (list.getD (Int.toNat i) default).From, (list.getD (Int.toNat i) default).Until, y1, (list.getD (Int.toNat i) default).First, (list.getD (Int.toNat i) default).Last⟩ : Hold)] : List Hold)), (IntKind.i64.wrap (i + (1 : Int)))), b6), hl1 _ (Option.some.inj hm1).symm, Nat.lt_succ_self _, Keeps.mk (ks := [0]) rfl ⟨rfl, rfl, rfl, trivial⟩ (⟨_, _, rfl, rfl, rfl⟩) rfl⟩
  ·
   replace hm1 := cond_f hc0 hm1
   refine V.exit ?_
   obtain rfl := hr1 _ (Option.some.inj hm1).symm
   exact ⟨(out_0, b2), rfl, Keeps.mk (ks := [0]) rfl ⟨rfl, trivial⟩ (⟨_, _, rfl, rfl, rfl⟩) rfl⟩
 ·
  rintro ⟨out_, b1⟩ rfl
  try dsimp only at hm0
  refine V.seq ?_
  refine V.region ?_
  refine VO.cons rfl (V1.move rfl rfl rfl (ltb rfl) ?_)
  refine VO.cons rfl (V1.assign rfl rfl rfl (ltb rfl) ?_)
  refine VO.nil ?_
  refine V.keep 26 [2] [0] (E0 := [(2, .sref b1 6 0 (List.length out_))]) (H0 := [(b1, ⟨6, List.map (encHold rn) out_⟩)]) rfl (⟨_, _, rfl, rfl, rfl⟩) (⟨_, _, rfl, rfl, rfl⟩) rfl ?_
  refine V.ret ?_
  obtain rfl := Option.some.inj hm0
  exact ⟨_, _, ⟨_, _, rfl, rfl, rfl⟩, List.Sublist.refl _, b1, rfl, rfl⟩

theorem ok_spec_l1In {rn : Nat} {x : Int} {a : Int} {b_ : Int} {r : Bool} (h : M.spec_l1In x a b_ = some r) : Does Try.prog 168 [.int .i64 x, .int .i64 a, .int .i64 b_] [] rn (fun x H => x = .bool r ∧ H = []) := by
 have hm0 := h; clear h; unfold M.spec_l1In at hm0
 try dsimp only at hm0
 refine Does.intro (N := 15) Try.func168 rfl rfl rfl rfl ?_
 intro w0 S0
 refine V.seq ?_
 refine V.region ?_
 refine VO.cons rfl (V1.assign rfl rfl rfl (ltb rfl) ?_)
 refine VO.nil ?_
 refine V.seq ?_
 refine V.region ?_
 refine VO.cons rfl (V1.move rfl rfl rfl (ltb rfl) ?_)
 refine VO.cons rfl (V1.move rfl rfl rfl (ltb rfl) ?_)
 refine VO.cons rfl (V1.int rfl rfl rfl rfl rfl (ltb rfl) ?_)
 refine VO.cons rfl (V1.move rfl rfl rfl (ltb rfl) ?_)
 apply VO.and (n := 3) rfl rfl rfl rfl rfl rfl (ltb rfl) (.none rfl)
 ·
  intro hg0
  refine VO.step (.some rfl rfl rfl) (V1.move rfl rfl rfl (ltb rfl) ?_)
  refine VO.step (.some rfl rfl rfl) (V1.move rfl rfl rfl (ltb rfl) ?_)
  refine VO.step (.some rfl rfl rfl) (V1.int rfl rfl rfl rfl rfl (ltb rfl) ?_)
  exact VO.nil ⟨rfl, rfl, rfl, rfl, .inr ⟨rfl, .inr ⟨rfl, .inr ⟨rfl, .inr ⟨rfl, .inl rfl⟩⟩⟩⟩⟩
 refine VO.cons rfl (V1.assign rfl rfl rfl (ltb rfl) ?_)
 refine VO.nil ?_
 refine V.ret ?_
 obtain rfl := Option.some.inj hm0
 exact ⟨_, [], ⟨_, _, rfl, rfl, rfl⟩, List.nil_sublist _, rfl, rfl⟩

theorem ok_spec_l2Day {rn : Nat} {d : Int} {r : Bool} (h : M.spec_l2Day d = some r) : Does Try.prog 139 [.int .i64 d] [] rn (fun x H => x = .bool r ∧ H = []) := by
 have hm0 := h; clear h; unfold M.spec_l2Day at hm0
 try dsimp only at hm0
 refine Does.intro (N := 5) Try.func139 rfl rfl rfl rfl ?_
 intro w0 S0
 refine V.seq ?_
 refine V.region ?_
 refine VO.cons rfl (V1.assign rfl rfl rfl (ltb rfl) ?_)
 refine VO.nil ?_
 refine V.seq ?_
 replace hm0 := bindO hm0; rcases hm0 with ⟨y0, hh0, hm0⟩
 refine V.region ?_
 refine VO.cons rfl (V1.move rfl rfl rfl (ltb rfl) ?_)
 refine VO.cons rfl (V1.call rfl rfl rfl cok_168 rfl (ok_spec_l1In hh0) rfl (ltb rfl) ?_)
 rintro _ _ ⟨rfl, rfl⟩
 refine VO.cons rfl (V1.assign rfl rfl rfl (ltb rfl) ?_)
 refine VO.nil ?_
 refine V.ret ?_
 obtain rfl := Option.some.inj hm0
 exact ⟨_, [], ⟨_, _, rfl, rfl, rfl⟩, List.nil_sublist _, rfl, rfl⟩

theorem ok_spec_l1Rising {ρ0 rn : Nat} {l : List Int} {lo : Int} {hi : Int} {r : Bool} (h : M.spec_l1Rising l lo hi = some r) : Does Try.prog 259 [.vl ρ0 1 (List.map encInt l), .int .i64 lo, .int .i64 hi] [] rn (fun x H => x = .bool r ∧ H = []) := by
 have hm0 := h; clear h; unfold M.spec_l1Rising at hm0
 try dsimp only at hm0
 refine Does.intro (N := 38) Try.func259 rfl rfl rfl rfl ?_
 intro w0 S0
 refine V.seq ?_
 refine V.region ?_
 refine VO.cons rfl (V1.assign rfl rfl rfl (ltb rfl) ?_)
 refine VO.nil ?_
 refine V.seq ?_
 refine V.seq ?_
 refine V.region ?_
 refine VO.cons rfl (V1.assign rfl rfl rfl (ltb rfl) ?_)
 refine VO.nil ?_
 replace hm0 := bindO hm0; rcases hm0 with ⟨e0, he1, hm0⟩
 refine V.cutT (D := (Unit) × (Unit)) (fun ⟨_, _⟩ => ⟨38, [], []⟩) (fun ⟨_, _⟩ => (.inl () = e0)) ?_ ?_
 ·
  refine V.block ?_
  refine V.keep 38 [7, 0, 1, 2] [] (E0 := [(7, .int .i64 (0 : Int)), (0, .vl ρ0 1 (List.map encInt l)), (1, .int .i64 lo), (2, .int .i64 hi)]) (H0 := []) rfl (⟨_, _, rfl, rfl, ⟨_, _, rfl, rfl, ⟨_, _, rfl, rfl, ⟨_, _, rfl, rfl, rfl⟩⟩⟩⟩) (rfl) rfl ?_
  refine V.loopE (D := Nat × (Int) × (Unit)) (fun ⟨n0, i, _⟩ => [(7, .int .i64 i)]) (fun ⟨n0, i, _⟩ => []) (fun ⟨n0, i, _⟩ => loopO (M.spec_l1Rising_l0 l lo hi) n0 i = some e0) (fun ⟨n0, _, _⟩ => n0) (rounds, (0 : Int), ()) rfl he1 ?_
  rintro ⟨n0, i, _⟩ hP0
  obtain ⟨m0, y0, rfl, hm1, hl1, hr1⟩ := loop_head hP0
  unfold M.spec_l1Rising_l0 at hm1; dsimp only at hm1
  show V _ _ _ ⟨38, [(7, .int .i64 i), (0, .vl ρ0 1 (List.map encInt l)), (1, .int .i64 lo), (2, .int .i64 hi)], []⟩
  refine V.seq ?_
  refine V.seq ?_
  refine V.region ?_
  refine VO.cons rfl (V1.move rfl rfl rfl (ltb rfl) ?_)
  refine VO.cons rfl (V1.move rfl rfl rfl (ltb rfl) ?_)
  refine VO.cons rfl (V1.lenMap rfl rfl rfl rfl rfl rfl isl_34 (ltb rfl) ?_)
  refine VO.cons rfl (V1.int rfl rfl rfl rfl rfl (ltb rfl) ?_)
  refine VO.nil ?_
  refine V.cond rfl (fun hc0 => ?_) (fun hc0 => ?_)
  ·
   replace hm1 := cond_t hc0 hm1
   refine V.skip ?_
   refine V.keep 38 [0, 1, 2, 7] [] (E0 := [(0, .vl ρ0 1 (List.map encInt l)), (1, .int .i64 lo), (2, .int .i64 hi), (7, .int .i64 i)]) (H0 := []) rfl (⟨_, _, rfl, rfl, ⟨_, _, rfl, rfl, ⟨_, _, rfl, rfl, ⟨_, _, rfl, rfl, rfl⟩⟩⟩⟩) (rfl) rfl ?_
   refine V.seq ?_
   refine V.block ?_
   refine V.seq ?_
   replace hm1 := asrt_some hm1; rcases hm1 with ⟨hh0, hm1⟩
   replace hm1 := bindO hm1; rcases hm1 with ⟨y1, hh1, hm1⟩
   replace hm1 := asrt_some hm1; rcases hm1 with ⟨hh2, hm1⟩
   replace hm1 := asrt_some hm1; rcases hm1 with ⟨hh3, hm1⟩
   refine V.regionM 38 24 [⟨[(0, none)], [], none⟩, ⟨[(7, none)], [], none⟩, ⟨[(14, some 1), (15, some 0)], [], none⟩, ⟨[(16, some 0)], [], none⟩, ⟨[(1, none)], [], none⟩, ⟨[(2, none)], [], none⟩, ⟨[(17, some 2), (18, some 1), (19, some 0)], [], none⟩, ⟨[(20, some 0)], [], none⟩, ⟨[(21, some 0)], [], none⟩, ⟨[(7, none)], [(0, false)], none⟩, ⟨[(23, some 0)], [(1, false)], none⟩, ⟨[(24, some 0)], [(2, false)], none⟩, ⟨[(0, none)], [(0, true), (3, false)], none⟩, ⟨[(7, none)], [(1, true), (4, false)], none⟩, ⟨[(27, some 0)], [(2, true), (5, false)], none⟩, ⟨[(26, some 2), (28, some 0)], [(3, true), (6, false)], none⟩, ⟨[(29, some 0)], [(4, true), (7, false)], none⟩, ⟨[(0, none)], [(5, true), (8, false)], none⟩, ⟨[(7, none)], [(6, true), (9, false)], none⟩, ⟨[(31, some 1), (32, some 0)], [(7, true), (10, false)], none⟩, ⟨[(33, some 0)], [(8, true), (11, false)], none⟩, ⟨[(30, some 4), (34, some 0)], [(9, true), (12, false)], none⟩, ⟨[], [(13, false)], some (true, 25, 35, 10, 0)⟩, ⟨[], [], some (false, 22, 36, 14, 0)⟩] [(0, none), (1, none), (2, none), (7, none), (37, some 0)] (⟨_, rfl, ⟨_, rfl, ⟨_, rfl, ⟨_, rfl, ⟨_, rfl, ⟨_, rfl, ⟨_, rfl, ⟨_, rfl, ⟨_, rfl, ⟨_, rfl, ⟨_, rfl, ⟨_, rfl, ⟨_, rfl, ⟨_, rfl, ⟨_, rfl, ⟨_, rfl, ⟨_, rfl, ⟨_, rfl, ⟨_, rfl, ⟨_, rfl, ⟨_, rfl, ⟨_, rfl, ⟨_, rfl, ⟨_, rfl, ⟨rfl, rfl⟩⟩⟩⟩⟩⟩⟩⟩⟩⟩⟩⟩⟩⟩⟩⟩⟩⟩⟩⟩⟩⟩⟩⟩⟩) mixed_orders rfl (by decide +kernel) (fun hck4 => ?_)
   refine VP.step (p := ?pv177) rfl rfl rfl (⟨_, _, rfl, rfl, rfl⟩) ?hv177 ?rest177 hck4
   case hv177 =>
    intro E1
    refine (V1.move rfl rfl rfl (ltb rfl) ?_)
    exact rfl
   refine VP.step (p := ?pv178) rfl rfl rfl (⟨_, _, rfl, rfl, rfl⟩) ?hv178 ?rest178 hck4
   case hv178 =>
    intro E1
    refine (V1.move rfl rfl rfl (ltb rfl) ?_)
    exact rfl
   refine VP.step (p := ?pv179) rfl rfl rfl (⟨_, _, rfl, rfl, ⟨_, _, rfl, rfl, rfl⟩⟩) ?hv179 ?rest179 hck4
   case hv179 =>
    intro E1
    refine (V1.indexI rfl rfl esz_34 rfl rfl hh0 (ltb rfl) ?_)
    exact rfl
   refine VP.step (p := ?pv180) rfl rfl rfl (⟨_, _, rfl, rfl, rfl⟩) ?hv180 ?rest180 hck4
   case hv180 =>
    intro E1
    refine (V1.loadPin rfl rfl tyk_3 rfl rfl (ltb rfl) ?_)
    exact rfl
   refine VP.step (p := ?pv181) rfl rfl rfl (⟨_, _, rfl, rfl, rfl⟩) ?hv181 ?rest181 hck4
   case hv181 =>
    intro E1
    refine (V1.move rfl rfl rfl (ltb rfl) ?_)
    exact rfl
   refine VP.step (p := ?pv182) rfl rfl rfl (⟨_, _, rfl, rfl, rfl⟩) ?hv182 ?rest182 hck4
   case hv182 =>
    intro E1
    refine (V1.move rfl rfl rfl (ltb rfl) ?_)
    exact rfl
   refine VP.step (p := ?pv183) rfl rfl rfl (⟨_, _, rfl, rfl, ⟨_, _, rfl, rfl, ⟨_, _, rfl, rfl, rfl⟩⟩⟩) ?hv183 ?rest183 hck4
   case hv183 =>
    intro E1
    refine (V1.call rfl rfl rfl cok_168 rfl (ok_spec_l1In hh1) rfl (ltb rfl) ?_)
    rintro _ _ ⟨rfl, rfl⟩
    exact rfl
   refine VP.step (p := ?pv184) rfl rfl rfl (⟨_, _, rfl, rfl, rfl⟩) ?hv184 ?rest184 hck4
   case hv184 =>
    intro E1
    refine (V1.not rfl rfl rfl (ltb rfl) ?_)
    exact rfl
   refine VP.step (p := ?pv185) rfl rfl rfl (⟨_, _, rfl, rfl, rfl⟩) ?hv185 ?rest185 hck4
   case hv185 =>
    intro E1
    refine (V1.move rfl rfl rfl (ltb rfl) ?_)
    exact rfl
   refine VP.step (p := ?pv186) rfl rfl rfl (⟨_, _, rfl, rfl, rfl⟩) ?hv186 ?rest186 hck4
   case hv186 =>
    refine ⟨_, rfl, fun hg0 => ?_⟩
    intro E1
    refine (V1.move rfl rfl rfl (ltb rfl) ?_)
    exact rfl
   refine VP.step (p := ?pv187) rfl rfl rfl (⟨_, _, rfl, rfl, rfl⟩) ?hv187 ?rest187 hck4
   case hv187 =>
    refine ⟨_, rfl, fun hg0 => ?_⟩
    intro E1
    refine (V1.int rfl rfl rfl rfl rfl (ltb rfl) ?_)
    exact rfl
   refine VP.step (p := ?pv188) rfl rfl rfl (⟨_, _, rfl, rfl, rfl⟩) ?hv188 ?rest188 hck4
   case hv188 =>
    refine ⟨_, rfl, fun hg0 => ?_⟩
    intro E1
    refine (V1.move rfl rfl rfl (ltb rfl) ?_)
    exact rfl
   refine VP.step (p := ?pv189) rfl rfl rfl (⟨_, _, rfl, rfl, rfl⟩) ?hv189 ?rest189 hck4
   case hv189 =>
    refine ⟨_, rfl, fun hg1 => ?_⟩
    refine ⟨_, rfl, fun hg0 => ?_⟩
    intro E1
    refine (V1.move rfl rfl rfl (ltb rfl) ?_)
    exact rfl
   refine VP.step (p := ?pv190) rfl rfl rfl (⟨_, _, rfl, rfl, rfl⟩) ?hv190 ?rest190 hck4
   case hv190 =>
    refine ⟨_, rfl, fun hg1 => ?_⟩
    refine ⟨_, rfl, fun hg0 => ?_⟩
    intro E1
    refine (V1.move rfl rfl rfl (ltb rfl) ?_)
    exact rfl
   refine VP.step (p := ?pv191) rfl rfl rfl (⟨_, _, rfl, rfl, rfl⟩) ?hv191 ?rest191 hck4
   case hv191 =>
    refine ⟨_, rfl, fun hg1 => ?_⟩
    refine ⟨_, rfl, fun hg0 => ?_⟩
    intro E1
    refine (V1.int rfl rfl rfl rfl rfl (ltb rfl) ?_)
    exact rfl
   refine VP.step (p := ?pv192) rfl rfl rfl (⟨_, _, rfl, rfl, ⟨_, _, rfl, rfl, rfl⟩⟩) ?hv192 ?rest192 hck4
   case hv192 =>
    refine ⟨_, rfl, fun hg1 => ?_⟩
    refine ⟨_, rfl, fun hg0 => ?_⟩
    intro E1
    refine (V1.indexI rfl rfl esz_34 rfl rfl (hh2 hg0 hg1) (ltb rfl) ?_)
    exact rfl
   refine VP.step (p := ?pv193) rfl rfl rfl (⟨_, _, rfl, rfl, rfl⟩) ?hv193 ?rest193 hck4
   case hv193 =>
    refine ⟨_, rfl, fun hg1 => ?_⟩
    refine ⟨_, rfl, fun hg0 => ?_⟩
    intro E1
    refine (V1.loadPin rfl rfl tyk_3 rfl rfl (ltb rfl) ?_)
    exact rfl
   refine VP.step (p := ?pv194) rfl rfl rfl (⟨_, _, rfl, rfl, rfl⟩) ?hv194 ?rest194 hck4
   case hv194 =>
    refine ⟨_, rfl, fun hg1 => ?_⟩
    refine ⟨_, rfl, fun hg0 => ?_⟩
    intro E1
    refine (V1.move rfl rfl rfl (ltb rfl) ?_)
    exact rfl
   refine VP.step (p := ?pv195) rfl rfl rfl (⟨_, _, rfl, rfl, rfl⟩) ?hv195 ?rest195 hck4
   case hv195 =>
    refine ⟨_, rfl, fun hg1 => ?_⟩
    refine ⟨_, rfl, fun hg0 => ?_⟩
    intro E1
    refine (V1.move rfl rfl rfl (ltb rfl) ?_)
    exact rfl
   refine VP.step (p := ?pv196) rfl rfl rfl (⟨_, _, rfl, rfl, ⟨_, _, rfl, rfl, rfl⟩⟩) ?hv196 ?rest196 hck4
   case hv196 =>
    refine ⟨_, rfl, fun hg1 => ?_⟩
    refine ⟨_, rfl, fun hg0 => ?_⟩
    intro E1
    refine (V1.indexI rfl rfl esz_34 rfl rfl (hh3 hg0 hg1) (ltb rfl) ?_)
    exact rfl
   refine VP.step (p := ?pv197) rfl rfl rfl (⟨_, _, rfl, rfl, rfl⟩) ?hv197 ?rest197 hck4
   case hv197 =>
    refine ⟨_, rfl, fun hg1 => ?_⟩
    refine ⟨_, rfl, fun hg0 => ?_⟩
    intro E1
    refine (V1.loadPin rfl rfl tyk_3 rfl rfl (ltb rfl) ?_)
    exact rfl
   refine VP.step (p := ?pv198) rfl rfl rfl (⟨_, _, rfl, rfl, ⟨_, _, rfl, rfl, rfl⟩⟩) ?hv198 ?rest198 hck4
   case hv198 =>
    refine ⟨_, rfl, fun hg1 => ?_⟩
    refine ⟨_, rfl, fun hg0 => ?_⟩
    intro E1
    refine (V1.int rfl rfl rfl rfl rfl (ltb rfl) ?_)
    exact rfl
   refine VP.pickAnd rfl rfl rfl rfl rfl rfl (⟨_, rfl, fun _ => trivial⟩) ?_ hck4
   refine VP.pickOr rfl rfl rfl rfl rfl rfl (trivial) ?_ hck4
   refine VP.fin rfl (⟨_, _, rfl, rfl, ⟨_, _, rfl, rfl, ⟨_, _, rfl, rfl, ⟨_, _, rfl, rfl, ⟨_, _, rfl, rfl, rfl⟩⟩⟩⟩⟩) ?_
   refine VO.nil ?_
   refine V.cond rfl (fun hc1 => ?_) (fun hc1 => ?_)
   ·
    replace hm1 := cond_t hc1 hm1
    refine V.seq ?_
    refine V.region ?_
    refine VO.cons rfl (V1.assign rfl rfl rfl (ltb rfl) ?_)
    refine VO.nil ?_
    refine V.ret ?_
    obtain rfl := hr1 _ (Option.some.inj hm1).symm
    change some _ = some _ at hm0
    obtain rfl := Option.some.inj hm0
    exact ⟨_, [], ⟨_, _, rfl, rfl, rfl⟩, List.nil_sublist _, rfl, rfl⟩
   ·
    replace hm1 := cond_f hc1 hm1
    refine V.skip ?_
    refine V.region ?_
    refine VO.cons rfl (V1.move rfl rfl rfl (ltb rfl) ?_)
    refine VO.cons rfl (V1.int rfl rfl rfl rfl rfl (ltb rfl) ?_)
    refine VO.cons rfl (V1.assign rfl rfl rfl (ltb rfl) ?_)
    refine VO.nil ?_
    exact ⟨(m0, (IntKind.i64.wrap (i + (1 : Int))), ()), hl1 _ (Option.some.inj hm1).symm, Nat.lt_succ_self _, Keeps.mk (ks := []) rfl ⟨rfl, rfl, rfl, rfl, trivial⟩ (rfl) rfl⟩
  ·
   replace hm1 := cond_f hc0 hm1
   refine V.exit ?_
   obtain rfl := hr1 _ (Option.some.inj hm1).symm
   exact ⟨((), ()), rfl, Keeps.mk (ks := []) rfl trivial (rfl) rfl⟩
 ·
  rintro ⟨_, _⟩ rfl
  try dsimp only at hm0
  refine V.seq ?_
  refine V.region ?_
  refine VO.cons rfl (V1.assign rfl rfl rfl (ltb rfl) ?_)
  refine VO.nil ?_
  refine V.ret ?_
  obtain rfl := Option.some.inj hm0
  exact ⟨_, [], ⟨_, _, rfl, rfl, rfl⟩, List.nil_sublist _, rfl, rfl⟩

theorem ok_spec_l9One {ρ0 rn : Nat} {h_ : Hold} {r : Bool} (h : M.spec_l9One h_ = some r) : Does Try.prog 241 [encHold ρ0 h_] [] rn (fun x H => x = .bool r ∧ H = []) := by
 have hm0 := h; clear h; unfold M.spec_l9One at hm0
 try dsimp only at hm0
 refine Does.intro (N := 48) Try.func241 rfl rfl rfl rfl ?_
 intro w0 S0
 refine V.seq ?_
 refine V.region ?_
 refine VO.cons rfl (V1.boxN (n := 6) rfl rfl rfl rfl rfl (ltb rfl) ?_)
 intro b0
 refine VO.cons rfl (V1.assign rfl rfl rfl (ltb rfl) ?_)
 refine VO.nil ?_
 refine V.seq ?_
 refine V.seq ?_
 replace hm0 := bindO hm0; rcases hm0 with ⟨y0, hh0, hm0⟩
 replace hm0 := bindO hm0; rcases hm0 with ⟨y1, hh1, hm0⟩
 replace hm0 := bindO hm0; rcases hm0 with ⟨y2, hh2, hm0⟩
 refine V.region ?_
 refine VO.cons rfl (V1.fieldRef rfl rfl fo_183_0 rfl (ltb rfl) ?_)
 refine VO.cons rfl (V1.loadRef (k := 0) rfl rfl tyk_3 rfl rfl rfl rfl rfl (ltb rfl) ?_)
 refine VO.cons rfl (V1.call rfl rfl rfl cok_168 rfl (ok_spec_l1In hh0) rfl (ltb rfl) ?_)
 rintro _ _ ⟨rfl, rfl⟩
 refine VO.cons rfl (V1.not rfl rfl rfl (ltb rfl) ?_)
 refine VO.cons rfl (V1.move rfl rfl rfl (ltb rfl) ?_)
 apply VO.or (n := 4) rfl rfl rfl rfl rfl rfl (ltb rfl) (.none rfl)
 ·
  intro hg0
  refine VO.step (.some rfl rfl rfl) (V1.fieldRef rfl rfl fo_183_1 rfl (ltb rfl) ?_)
  refine VO.step (.some rfl rfl rfl) (V1.loadRef (k := 0) rfl rfl tyk_3 rfl rfl rfl rfl rfl (ltb rfl) ?_)
  refine VO.step (.some rfl rfl rfl) (V1.call rfl rfl rfl cok_139 rfl (ok_spec_l2Day (cond_f hg0 hh1)) rfl (ltb rfl) ?_)
  rintro _ _ ⟨rfl, rfl⟩
  refine VO.step (.some rfl rfl rfl) (V1.not rfl rfl rfl (ltb rfl) ?_)
  exact VO.nil ⟨rfl, rfl, rfl, rfl, .inr ⟨rfl, .inr ⟨rfl, .inr ⟨rfl, .inr ⟨rfl, .inr ⟨rfl, .inl rfl⟩⟩⟩⟩⟩⟩
 refine VO.cons rfl (V1.move rfl rfl rfl (ltb rfl) ?_)
 apply VO.or (n := 12) rfl rfl rfl rfl rfl rfl (ltb rfl) (.none rfl)
 ·
  intro hg1
  refine VO.step (.some rfl rfl rfl) (V1.fieldRef rfl rfl fo_183_2 rfl (ltb rfl) ?_)
  refine VO.step (.some rfl rfl rfl) (V1.loadRef (k := 0) rfl rfl tyk_3 rfl rfl rfl rfl rfl (ltb rfl) ?_)
  refine VO.step (.some rfl rfl rfl) (V1.int rfl rfl rfl rfl rfl (ltb rfl) ?_)
  refine VO.step (.some rfl rfl rfl) (V1.move rfl rfl rfl (ltb rfl) ?_)
  apply VO.and (n := 7) rfl rfl rfl rfl rfl rfl (ltb rfl) (.some rfl rfl rfl)
  ·
   intro hg2
   refine VO.step (.some rfl rfl rfl) (V1.fieldRef rfl rfl fo_183_2 rfl (ltb rfl) ?_)
   refine VO.step (.some rfl rfl rfl) (V1.loadRef (k := 0) rfl rfl tyk_3 rfl rfl rfl rfl rfl (ltb rfl) ?_)
   refine VO.step (.some rfl rfl rfl) (V1.fieldRef rfl rfl fo_183_1 rfl (ltb rfl) ?_)
   refine VO.step (.some rfl rfl rfl) (V1.loadRef (k := 0) rfl rfl tyk_3 rfl rfl rfl rfl rfl (ltb rfl) ?_)
   refine VO.step (.some rfl rfl rfl) (V1.int rfl rfl rfl rfl rfl (ltb rfl) ?_)
   refine VO.step (.some rfl rfl rfl) (V1.call rfl rfl rfl cok_168 rfl (ok_spec_l1In (cond_t hg2 (cond_f hg1 hh2))) rfl (ltb rfl) ?_)
   rintro _ _ ⟨rfl, rfl⟩
   refine VO.step (.some rfl rfl rfl) (V1.not rfl rfl rfl (ltb rfl) ?_)
   exact VO.nil ⟨rfl, rfl, rfl, rfl, .inr ⟨rfl, .inr ⟨rfl, .inr ⟨rfl, .inr ⟨rfl, .inr ⟨rfl, .inr ⟨rfl, .inr ⟨rfl, .inr ⟨rfl, .inl rfl⟩⟩⟩⟩⟩⟩⟩⟩⟩
  exact VO.nil ⟨rfl, rfl, rfl, rfl, .inr ⟨rfl, .inr ⟨rfl, .inr ⟨rfl, .inr ⟨rfl, .inr ⟨rfl, .inr ⟨rfl, .inl rfl⟩⟩⟩⟩⟩⟩⟩
 refine VO.nil ?_
 refine V.keep 48 [1, 26] [0] (E0 := [(1, .ref b0 6 0 0), (26, .bool (((!y0) || (!y1)) || ((h_.Until != (-1 : Int)) && (!y2))))]) (H0 := [(b0, ⟨6, [encHold ρ0 h_]⟩)]) rfl (⟨_, _, rfl, rfl, ⟨_, _, rfl, rfl, rfl⟩⟩) (⟨_, _, rfl, rfl, rfl⟩) rfl ?_
 refine V.cond rfl (fun hc0 => ?_) (fun hc0 => ?_)
 ·
  replace hm0 := cond_t hc0 hm0
  refine V.seq ?_
  refine V.region ?_
  refine VO.cons rfl (V1.assign rfl rfl rfl (ltb rfl) ?_)
  refine VO.nil ?_
  refine V.ret ?_
  obtain rfl := Option.some.inj hm0
  exact ⟨_, [], ⟨_, _, rfl, rfl, rfl⟩, List.nil_sublist _, rfl, rfl⟩
 ·
  replace hm0 := cond_f hc0 hm0
  refine V.skip ?_
  refine V.seq ?_
  replace hm0 := bindO hm0; rcases hm0 with ⟨y3, hh3, hm0⟩
  replace hm0 := bindO hm0; rcases hm0 with ⟨y4, hh4, hm0⟩
  replace hm0 := bindO hm0; rcases hm0 with ⟨y5, hh5, hm0⟩
  refine V.region ?_
  refine VO.cons rfl (V1.fieldRef rfl rfl fo_183_3 rfl (ltb rfl) ?_)
  refine VO.cons rfl (V1.loadRef (k := 0) rfl rfl tyk_34 rfl rfl rfl rfl rfl (ltb rfl) ?_)
  refine VO.cons rfl (V1.lenMap rfl rfl rfl rfl rfl rfl isl_34 (ltb rfl) ?_)
  refine VO.cons rfl (V1.int rfl rfl rfl rfl rfl (ltb rfl) ?_)
  refine VO.cons rfl (V1.move rfl rfl rfl (ltb rfl) ?_)
  apply VO.and (n := 3) rfl rfl rfl rfl rfl rfl (ltb rfl) (.none rfl)
  ·
   intro hg3
   refine VO.step (.some rfl rfl rfl) (V1.fieldRef rfl rfl fo_183_3 rfl (ltb rfl) ?_)
   refine VO.step (.some rfl rfl rfl) (V1.loadRef (k := 0) rfl rfl tyk_34 rfl rfl rfl rfl rfl (ltb rfl) ?_)
   refine VO.step (.some rfl rfl rfl) (V1.call rfl rfl rfl cok_259 rfl (ok_spec_l1Rising (cond_t hg3 hh3)) rfl (ltb rfl) ?_)
   rintro _ _ ⟨rfl, rfl⟩
   exact VO.nil ⟨rfl, rfl, rfl, rfl, .inr ⟨rfl, .inr ⟨rfl, .inr ⟨rfl, .inr ⟨rfl, .inl rfl⟩⟩⟩⟩⟩
  refine VO.cons rfl (V1.move rfl rfl rfl (ltb rfl) ?_)
  apply VO.and (n := 3) rfl rfl rfl rfl rfl rfl (ltb rfl) (.none rfl)
  ·
   intro hg4
   refine VO.step (.some rfl rfl rfl) (V1.fieldRef rfl rfl fo_183_4 rfl (ltb rfl) ?_)
   refine VO.step (.some rfl rfl rfl) (V1.loadRef (k := 0) rfl rfl tyk_3 rfl rfl rfl rfl rfl (ltb rfl) ?_)
   refine VO.step (.some rfl rfl rfl) (V1.call rfl rfl rfl cok_139 rfl (ok_spec_l2Day (cond_t hg4 hh4)) rfl (ltb rfl) ?_)
   rintro _ _ ⟨rfl, rfl⟩
   exact VO.nil ⟨rfl, rfl, rfl, rfl, .inr ⟨rfl, .inr ⟨rfl, .inr ⟨rfl, .inr ⟨rfl, .inl rfl⟩⟩⟩⟩⟩
  refine VO.cons rfl (V1.move rfl rfl rfl (ltb rfl) ?_)
  apply VO.and (n := 5) rfl rfl rfl rfl rfl rfl (ltb rfl) (.none rfl)
  ·
   intro hg5
   refine VO.step (.some rfl rfl rfl) (V1.fieldRef rfl rfl fo_183_5 rfl (ltb rfl) ?_)
   refine VO.step (.some rfl rfl rfl) (V1.loadRef (k := 0) rfl rfl tyk_3 rfl rfl rfl rfl rfl (ltb rfl) ?_)
   refine VO.step (.some rfl rfl rfl) (V1.fieldRef rfl rfl fo_183_4 rfl (ltb rfl) ?_)
   refine VO.step (.some rfl rfl rfl) (V1.loadRef (k := 0) rfl rfl tyk_3 rfl rfl rfl rfl rfl (ltb rfl) ?_)
   refine VO.step (.some rfl rfl rfl) (V1.call rfl rfl rfl cok_168 rfl (ok_spec_l1In (cond_t hg5 hh5)) rfl (ltb rfl) ?_)
   rintro _ _ ⟨rfl, rfl⟩
   exact VO.nil ⟨rfl, rfl, rfl, rfl, .inr ⟨rfl, .inr ⟨rfl, .inr ⟨rfl, .inr ⟨rfl, .inr ⟨rfl, .inr ⟨rfl, .inl rfl⟩⟩⟩⟩⟩⟩⟩
  refine VO.cons rfl (V1.assign rfl rfl rfl (ltb rfl) ?_)
  refine VO.nil ?_
  refine V.ret ?_
  obtain rfl := Option.some.inj hm0
  exact ⟨_, [], ⟨_, _, rfl, rfl, rfl⟩, List.nil_sublist _, rfl, rfl⟩

theorem ok_spec_l9Good {ρ0 σ0 rn : Nat} {list : List Hold} {r : Bool} (h : M.spec_l9Good list = some r) : Does Try.prog 195 [.vl ρ0 6 (List.map (encHold σ0) list)] [] rn (fun x H => x = .bool r ∧ H = []) := by
 have hm0 := h; clear h; unfold M.spec_l9Good at hm0
 try dsimp only at hm0
 refine Does.intro (N := 37) Try.func195 rfl rfl rfl rfl ?_
 intro w0 S0
 refine V.seq ?_
 refine V.region ?_
 refine VO.cons rfl (V1.assign rfl rfl rfl (ltb rfl) ?_)
 refine VO.nil ?_
 refine V.seq ?_
 refine V.seq ?_
 refine V.region ?_
 refine VO.cons rfl (V1.assign rfl rfl rfl (ltb rfl) ?_)
 refine VO.nil ?_
 replace hm0 := bindO hm0; rcases hm0 with ⟨e0, he1, hm0⟩
 refine V.cutT (D := (Unit) × (Unit)) (fun ⟨_, _⟩ => ⟨37, [(0, .vl ρ0 6 (List.map (encHold σ0) list))], []⟩) (fun ⟨_, _⟩ => (.inl () = e0)) ?_ ?_
 ·
  refine V.block ?_
  refine V.keep 37 [3, 0] [] (E0 := [(3, .int .i64 (0 : Int)), (0, .vl ρ0 6 (List.map (encHold σ0) list))]) (H0 := []) rfl (⟨_, _, rfl, rfl, ⟨_, _, rfl, rfl, rfl⟩⟩) (rfl) rfl ?_
  refine V.loopE (D := Nat × (Int) × (Unit)) (fun ⟨n0, i, _⟩ => [(3, .int .i64 i)]) (fun ⟨n0, i, _⟩ => []) (fun ⟨n0, i, _⟩ => loopO (M.spec_l9Good_l0 list) n0 i = some e0) (fun ⟨n0, _, _⟩ => n0) (rounds, (0 : Int), ()) rfl he1 ?_
  rintro ⟨n0, i, _⟩ hP0
  obtain ⟨m0, y0, rfl, hm1, hl1, hr1⟩ := loop_head hP0
  unfold M.spec_l9Good_l0 at hm1; dsimp only at hm1
  show V _ _ _ ⟨37, [(3, .int .i64 i), (0, .vl ρ0 6 (List.map (encHold σ0) list))], []⟩
  refine V.seq ?_
  refine V.seq ?_
  refine V.region ?_
  refine VO.cons rfl (V1.move rfl rfl rfl (ltb rfl) ?_)
  refine VO.cons rfl (V1.move rfl rfl rfl (ltb rfl) ?_)
  refine VO.cons rfl (V1.lenMap rfl rfl rfl rfl rfl rfl isl_92 (ltb rfl) ?_)
  refine VO.cons rfl (V1.int rfl rfl rfl rfl rfl (ltb rfl) ?_)
  refine VO.nil ?_
  refine V.cond rfl (fun hc0 => ?_) (fun hc0 => ?_)
  ·
   replace hm1 := cond_t hc0 hm1
   refine V.skip ?_
   refine V.keep 37 [0, 3] [] (E0 := [(0, .vl ρ0 6 (List.map (encHold σ0) list)), (3, .int .i64 i)]) (H0 := []) rfl (⟨_, _, rfl, rfl, ⟨_, _, rfl, rfl, rfl⟩⟩) (rfl) rfl ?_
   refine V.seq ?_
   refine V.block ?_
   refine V.seq ?_
   replace hm1 := asrt_some hm1; rcases hm1 with ⟨hh0, hm1⟩
   replace hm1 := bindO hm1; rcases hm1 with ⟨y1, hh1, hm1⟩
   replace hm1 := asrt_some hm1; rcases hm1 with ⟨hh2, hm1⟩
   replace hm1 := asrt_some hm1; rcases hm1 with ⟨hh3, hm1⟩
   refine V.regionM 37 24 [⟨[(0, none)], [], none⟩, ⟨[(3, none)], [], none⟩, ⟨[(10, some 1), (11, some 0)], [], none⟩, ⟨[(12, some 0)], [], none⟩, ⟨[(13, some 0)], [], none⟩, ⟨[(14, some 0)], [], none⟩, ⟨[(15, some 0)], [], none⟩, ⟨[(3, none)], [(0, false)], none⟩, ⟨[(17, some 0)], [(1, false)], none⟩, ⟨[(18, some 0)], [(2, false)], none⟩, ⟨[(0, none)], [(0, true), (3, false)], none⟩, ⟨[(3, none)], [(1, true), (4, false)], none⟩, ⟨[(21, some 0)], [(2, true), (5, false)], none⟩, ⟨[(20, some 2), (22, some 0)], [(3, true), (6, false)], none⟩, ⟨[(23, some 0)], [(4, true), (7, false)], none⟩, ⟨[(24, some 0)], [(5, true), (8, false)], none⟩, ⟨[(0, none)], [(6, true), (9, false)], none⟩, ⟨[(3, none)], [(7, true), (10, false)], none⟩, ⟨[(26, some 1), (27, some 0)], [(8, true), (11, false)], none⟩, ⟨[(28, some 0)], [(9, true), (12, false)], none⟩, ⟨[(29, some 0)], [(10, true), (13, false)], none⟩, ⟨[(25, some 5), (30, some 0)], [(11, true), (14, false)], none⟩, ⟨[], [(15, false)], some (true, 19, 31, 12, 0)⟩, ⟨[], [], some (false, 16, 32, 16, 0)⟩] [(0, none), (3, none), (33, some 0)] (⟨_, rfl, ⟨_, rfl, ⟨_, rfl, ⟨_, rfl, ⟨_, rfl, ⟨_, rfl, ⟨_, rfl, ⟨_, rfl, ⟨_, rfl, ⟨_, rfl, ⟨_, rfl, ⟨_, rfl, ⟨_, rfl, ⟨_, rfl, ⟨_, rfl, ⟨_, rfl, ⟨_, rfl, ⟨_, rfl, ⟨_, rfl, ⟨_, rfl, ⟨_, rfl, ⟨_, rfl, ⟨_, rfl, ⟨_, rfl, ⟨rfl, rfl⟩⟩⟩⟩⟩⟩⟩⟩⟩⟩⟩⟩⟩⟩⟩⟩⟩⟩⟩⟩⟩⟩⟩⟩⟩) mixed_orders rfl (by decide +kernel) (fun hck4 => ?_)
   refine VP.step (p := ?pv177) rfl rfl rfl (⟨_, _, rfl, rfl, rfl⟩) ?hv177 ?rest177 hck4
   case hv177 =>
    intro E1
    refine (V1.move rfl rfl rfl (ltb rfl) ?_)
    exact rfl
   refine VP.step (p := ?pv178) rfl rfl rfl (⟨_, _, rfl, rfl, rfl⟩) ?hv178 ?rest178 hck4
   case hv178 =>
    intro E1
    refine (V1.move rfl rfl rfl (ltb rfl) ?_)
    exact rfl
   refine VP.step (p := ?pv179) rfl rfl rfl (⟨_, _, rfl, rfl, ⟨_, _, rfl, rfl, rfl⟩⟩) ?hv179 ?rest179 hck4
   case hv179 =>
    intro E1
    refine (V1.indexI rfl rfl esz_92 rfl rfl hh0 (ltb rfl) ?_)
    exact rfl
   refine VP.step (p := ?pv180) rfl rfl rfl (⟨_, _, rfl, rfl, rfl⟩) ?hv180 ?rest180 hck4
   case hv180 =>
    intro E1
    refine (V1.loadPinAll rfl rfl tyk_183 rfl rfl (ltb rfl) ?_)
    exact rfl
   refine VP.step (p := ?pv181) rfl rfl rfl (⟨_, _, rfl, rfl, rfl⟩) ?hv181 ?rest181 hck4
   case hv181 =>
    intro E1
    refine (V1.call rfl rfl rfl cok_241 rfl (ok_spec_l9One hh1) rfl (ltb rfl) ?_)
    rintro _ _ ⟨rfl, rfl⟩
    exact rfl
   refine VP.step (p := ?pv182) rfl rfl rfl (⟨_, _, rfl, rfl, rfl⟩) ?hv182 ?rest182 hck4
   case hv182 =>
    intro E1
    refine (V1.not rfl rfl rfl (ltb rfl) ?_)
    exact rfl
   refine VP.step (p := ?pv183) rfl rfl rfl (⟨_, _, rfl, rfl, rfl⟩) ?hv183 ?rest183 hck4
   case hv183 =>
    intro E1
    refine (V1.move rfl rfl rfl (ltb rfl) ?_)
    exact rfl
   refine VP.step (p := ?pv184) rfl rfl rfl (⟨_, _, rfl, rfl, rfl⟩) ?hv184 ?rest184 hck4
   case hv184 =>
    refine ⟨_, rfl, fun hg0 => ?_⟩
    intro E1
    refine (V1.move rfl rfl rfl (ltb rfl) ?_)
    exact rfl
   refine VP.step (p := ?pv185) rfl rfl rfl (⟨_, _, rfl, rfl, rfl⟩) ?hv185 ?rest185 hck4
   case hv185 =>
    refine ⟨_, rfl, fun hg0 => ?_⟩
    intro E1
    refine (V1.int rfl rfl rfl rfl rfl (ltb rfl) ?_)
    exact rfl
   refine VP.step (p := ?pv186) rfl rfl rfl (⟨_, _, rfl, rfl, rfl⟩) ?hv186 ?rest186 hck4
   case hv186 =>
    refine ⟨_, rfl, fun hg0 => ?_⟩
    intro E1
    refine (V1.move rfl rfl rfl (ltb rfl) ?_)
    exact rfl
   refine VP.step (p := ?pv187) rfl rfl rfl (⟨_, _, rfl, rfl, rfl⟩) ?hv187 ?rest187 hck4
   case hv187 =>
    refine ⟨_, rfl, fun hg1 => ?_⟩
    refine ⟨_, rfl, fun hg0 => ?_⟩
    intro E1
    refine (V1.move rfl rfl rfl (ltb rfl) ?_)
    exact rfl
   refine VP.step (p := ?pv188) rfl rfl rfl (⟨_, _, rfl, rfl, rfl⟩) ?hv188 ?rest188 hck4
   case hv188 =>
    refine ⟨_, rfl, fun hg1 => ?_⟩
    refine ⟨_, rfl, fun hg0 => ?_⟩
    intro E1
    refine (V1.move rfl rfl rfl (ltb rfl) ?_)
    exact rfl
   refine VP.step (p := ?pv189) rfl rfl rfl (⟨_, _, rfl, rfl, rfl⟩) ?hv189 ?rest189 hck4
   case hv189 =>
    refine ⟨_, rfl, fun hg1 => ?_⟩
    refine ⟨_, rfl, fun hg0 => ?_⟩
    intro E1
    refine (V1.int rfl rfl rfl rfl rfl (ltb rfl) ?_)
    exact rfl
   refine VP.step (p := ?pv190) rfl rfl rfl (⟨_, _, rfl, rfl, ⟨_, _, rfl, rfl, rfl⟩⟩) ?hv190 ?rest190 hck4
   case hv190 =>
    refine ⟨_, rfl, fun hg1 => ?_⟩
    refine ⟨_, rfl, fun hg0 => ?_⟩
    intro E1
    refine (V1.indexI rfl rfl esz_92 rfl rfl (hh2 hg0 hg1) (ltb rfl) ?_)
    exact rfl
   refine VP.step (p := ?pv191) rfl rfl rfl (⟨_, _, rfl, rfl, rfl⟩) ?hv191 ?rest191 hck4
   case hv191 =>
    refine ⟨_, rfl, fun hg1 => ?_⟩
    refine ⟨_, rfl, fun hg0 => ?_⟩
    intro E1
    refine (V1.fieldPin rfl rfl fo_183_0 rfl (ltb rfl) ?_)
    exact rfl
   refine VP.step (p := ?pv192) rfl rfl rfl (⟨_, _, rfl, rfl, rfl⟩) ?hv192 ?rest192 hck4
   case hv192 =>
    refine ⟨_, rfl, fun hg1 => ?_⟩
    refine ⟨_, rfl, fun hg0 => ?_⟩
    intro E1
    refine (V1.loadPin rfl rfl tyk_3 rfl rfl (ltb rfl) ?_)
    exact rfl
   refine VP.step (p := ?pv193) rfl rfl rfl (⟨_, _, rfl, rfl, rfl⟩) ?hv193 ?rest193 hck4
   case hv193 =>
    refine ⟨_, rfl, fun hg1 => ?_⟩
    refine ⟨_, rfl, fun hg0 => ?_⟩
    intro E1
    refine (V1.move rfl rfl rfl (ltb rfl) ?_)
    exact rfl
   refine VP.step (p := ?pv194) rfl rfl rfl (⟨_, _, rfl, rfl, rfl⟩) ?hv194 ?rest194 hck4
   case hv194 =>
    refine ⟨_, rfl, fun hg1 => ?_⟩
    refine ⟨_, rfl, fun hg0 => ?_⟩
    intro E1
    refine (V1.move rfl rfl rfl (ltb rfl) ?_)
    exact rfl
   refine VP.step (p := ?pv195) rfl rfl rfl (⟨_, _, rfl, rfl, ⟨_, _, rfl, rfl, rfl⟩⟩) ?hv195 ?rest195 hck4
   case hv195 =>
    refine ⟨_, rfl, fun hg1 => ?_⟩
    refine ⟨_, rfl, fun hg0 => ?_⟩
    intro E1
    refine (V1.indexI rfl rfl esz_92 rfl rfl (hh3 hg0 hg1) (ltb rfl) ?_)
    exact rfl
   refine VP.step (p := ?pv196) rfl rfl rfl (⟨_, _, rfl, rfl, rfl⟩) ?hv196 ?rest196 hck4
   case hv196 =>
    refine ⟨_, rfl, fun hg1 => ?_⟩
    refine ⟨_, rfl, fun hg0 => ?_⟩
    intro E1
    refine (V1.fieldPin rfl rfl fo_183_0 rfl (ltb rfl) ?_)
    exact rfl
   refine VP.step (p := ?pv197) rfl rfl rfl (⟨_, _, rfl, rfl, rfl⟩) ?hv197 ?rest197 hck4
   case hv197 =>
    refine ⟨_, rfl, fun hg1 => ?_⟩
    refine ⟨_, rfl, fun hg0 => ?_⟩
    intro E1
    refine (V1.loadPin rfl rfl tyk_3 rfl rfl (ltb rfl) ?_)
    exact rfl
   refine VP.step (p := ?pv198) rfl rfl rfl (⟨_, _, rfl, rfl, ⟨_, _, rfl, rfl, rfl⟩⟩) ?hv198 ?rest198 hck4
   case hv198 =>
    refine ⟨_, rfl, fun hg1 => ?_⟩
    refine ⟨_, rfl, fun hg0 => ?_⟩
    intro E1
    refine (V1.int rfl rfl rfl rfl rfl (ltb rfl) ?_)
    exact rfl
   refine VP.pickAnd rfl rfl rfl rfl rfl rfl (⟨_, rfl, fun _ => trivial⟩) ?_ hck4
   refine VP.pickOr rfl rfl rfl rfl rfl rfl (trivial) ?_ hck4
   refine VP.fin rfl (⟨_, _, rfl, rfl, ⟨_, _, rfl, rfl, ⟨_, _, rfl, rfl, rfl⟩⟩⟩) ?_
   refine VO.nil ?_
   refine V.cond rfl (fun hc1 => ?_) (fun hc1 => ?_)
   ·
    replace hm1 := cond_t hc1 hm1
    refine V.seq ?_
    refine V.region ?_
    refine VO.cons rfl (V1.assign rfl rfl rfl (ltb rfl) ?_)
    refine VO.nil ?_
    refine V.ret ?_
    obtain rfl := hr1 _ (Option.some.inj hm1).symm
    change some _ = some _ at hm0
    obtain rfl := Option.some.inj hm0
    exact ⟨_, [], ⟨_, _, rfl, rfl, rfl⟩, List.nil_sublist _, rfl, rfl⟩
   ·
    replace hm1 := cond_f hc1 hm1
    refine V.skip ?_
    refine V.region ?_
    refine VO.cons rfl (V1.move rfl rfl rfl (ltb rfl) ?_)
    refine VO.cons rfl (V1.int rfl rfl rfl rfl rfl (ltb rfl) ?_)
    refine VO.cons rfl (V1.assign rfl rfl rfl (ltb rfl) ?_)
    refine VO.nil ?_
    exact ⟨(m0, (IntKind.i64.wrap (i + (1 : Int))), ()), hl1 _ (Option.some.inj hm1).symm, Nat.lt_succ_self _, Keeps.mk (ks := []) rfl ⟨rfl, rfl, trivial⟩ (rfl) rfl⟩
  ·
   replace hm1 := cond_f hc0 hm1
   refine V.exit ?_
   obtain rfl := hr1 _ (Option.some.inj hm1).symm
   exact ⟨((), ()), rfl, Keeps.mk (ks := []) rfl ⟨rfl, trivial⟩ (rfl) rfl⟩
 ·
  rintro ⟨_, _⟩ rfl
  try dsimp only at hm0
  refine V.seq ?_
  refine V.region ?_
  refine VO.cons rfl (V1.move rfl rfl rfl (ltb rfl) ?_)
  refine VO.cons rfl (V1.lenMap rfl rfl rfl rfl rfl rfl isl_92 (ltb rfl) ?_)
  refine VO.cons rfl (V1.int rfl rfl rfl rfl rfl (ltb rfl) ?_)
  refine VO.cons rfl (V1.assign rfl rfl rfl (ltb rfl) ?_)
  refine VO.nil ?_
  refine V.ret ?_
  obtain rfl := Option.some.inj hm0
  exact ⟨_, [], ⟨_, _, rfl, rfl, rfl⟩, List.nil_sublist _, rfl, rfl⟩

theorem ok_spec_ReleaseHold {rn : Nat} {list : List Hold} {id_ : Int} {day : Int} {r : List Hold × Bool} (h : M.spec_ReleaseHold list id_ day = some r) : Does Try.prog 103 [.vl rn 6 (List.map (encHold rn) list), .int .i64 id_, .int .i64 day] [] rn (fun x H => ∃ (ob0_ : Nat), x = .tup [PV.sref ob0_ 6 0 (List.length r.1), .bool r.2] ∧ H = [(ob0_, ⟨6, List.map (encHold rn) r.1⟩)]) := by
 have hm0 := h; clear h; unfold M.spec_ReleaseHold at hm0
 try dsimp only at hm0
 refine Does.intro (N := 54) Try.func103 rfl rfl rfl rfl ?_
 intro w0 S0
 refine V.seq ?_
 refine V.region ?_
 refine VO.cons rfl (V1.assign rfl rfl rfl (ltb rfl) ?_)
 refine VO.cons rfl (V1.assign rfl rfl rfl (ltb rfl) ?_)
 refine VO.nil ?_
 refine V.seq ?_
 replace hm0 := bindO hm0; rcases hm0 with ⟨y0, hh0, hm0⟩
 refine V.region ?_
 refine VO.cons rfl (V1.move rfl rfl rfl (ltb rfl) ?_)
 refine VO.cons rfl (V1.call rfl rfl rfl cok_202 rfl (ok_spec_l9Own hh0) rfl (ltb rfl) ?_)
 rintro _ _ ⟨b0, rfl, rfl⟩
 refine VO.cons rfl (V1.assign rfl rfl rfl (ltb rfl) ?_)
 refine VO.nil ?_
 refine V.keep 54 [0, 1, 2, 8] [0] (E0 := [(0, .vl rn 6 (List.map (encHold rn) list)), (1, .int .i64 id_), (2, .int .i64 day), (8, .sref b0 6 0 (List.length y0))]) (H0 := [(b0, ⟨6, List.map (encHold rn) y0⟩)]) rfl (⟨_, _, rfl, rfl, ⟨_, _, rfl, rfl, ⟨_, _, rfl, rfl, ⟨_, _, rfl, rfl, rfl⟩⟩⟩⟩) (⟨_, _, rfl, rfl, rfl⟩) rfl ?_
 refine V.seq ?_
 refine V.seq ?_
 refine V.region ?_
 refine VO.cons rfl (V1.assign rfl rfl rfl (ltb rfl) ?_)
 refine VO.nil ?_
 replace hm0 := bindO hm0; rcases hm0 with ⟨e0, he1, hm0⟩
 refine V.cutT (D := (Unit) × (Unit)) (fun ⟨_, _⟩ => ⟨54, [], []⟩) (fun ⟨_, _⟩ => (.inl () = e0)) ?_ ?_
 ·
  refine V.block ?_
  refine V.keep 54 [9, 0, 1, 2, 8] [0] (E0 := [(9, .int .i64 (0 : Int)), (0, .vl rn 6 (List.map (encHold rn) list)), (1, .int .i64 id_), (2, .int .i64 day), (8, .sref b0 6 0 (List.length y0))]) (H0 := [(b0, ⟨6, List.map (encHold rn) y0⟩)]) rfl (⟨_, _, rfl, rfl, ⟨_, _, rfl, rfl, ⟨_, _, rfl, rfl, ⟨_, _, rfl, rfl, ⟨_, _, rfl, rfl, rfl⟩⟩⟩⟩⟩) (⟨_, _, rfl, rfl, rfl⟩) rfl ?_
  refine V.loopE (D := Nat × (Int) × (Unit)) (fun ⟨n0, i, _⟩ => [(9, .int .i64 i)]) (fun ⟨n0, i, _⟩ => []) (fun ⟨n0, i, _⟩ => loopO (M.spec_ReleaseHold_l0 list id_ day y0) n0 i = some e0) (fun ⟨n0, _, _⟩ => n0) (rounds, (0 : Int), ()) rfl he1 ?_
  rintro ⟨n0, i, _⟩ hP0
  obtain ⟨m0, y1, rfl, hm1, hl1, hr1⟩ := loop_head hP0
  unfold M.spec_ReleaseHold_l0 at hm1; dsimp only at hm1
  show V _ _ _ ⟨54, [(9, .int .i64 i), (0, .vl rn 6 (List.map (encHold rn) list)), (1, .int .i64 id_), (2, .int .i64 day), (8, .sref b0 6 0 (List.length y0))], [(b0, ⟨6, List.map (encHold rn) y0⟩)]⟩
  refine V.seq ?_
  refine V.seq ?_
  refine V.region ?_
  refine VO.cons rfl (V1.move rfl rfl rfl (ltb rfl) ?_)
  refine VO.cons rfl (V1.move rfl rfl rfl (ltb rfl) ?_)
  refine VO.cons rfl (V1.lenSref rfl rfl rfl rfl rfl rfl isl_92 (ltb rfl) ?_)
  refine VO.cons rfl (V1.int rfl rfl rfl rfl rfl (ltb rfl) ?_)
  refine VO.nil ?_
  refine V.cond rfl (fun hc0 => ?_) (fun hc0 => ?_)
  ·
   replace hm1 := cond_t hc0 hm1
   refine V.skip ?_
   refine V.keep 54 [0, 1, 2, 8, 9] [0] (E0 := [(0, .vl rn 6 (List.map (encHold rn) list)), (1, .int .i64 id_), (2, .int .i64 day), (8, .sref b0 6 0 (List.length y0)), (9, .int .i64 i)]) (H0 := [(b0, ⟨6, List.map (encHold rn) y0⟩)]) rfl (⟨_, _, rfl, rfl, ⟨_, _, rfl, rfl, ⟨_, _, rfl, rfl, ⟨_, _, rfl, rfl, ⟨_, _, rfl, rfl, rfl⟩⟩⟩⟩⟩) (⟨_, _, rfl, rfl, rfl⟩) rfl ?_
   refine V.seq ?_
   refine V.block ?_
   refine V.seq ?_
   replace hm1 := asrt_some hm1; rcases hm1 with ⟨hh1, hm1⟩
   replace hm1 := asrt_some hm1; rcases hm1 with ⟨hh2, hm1⟩
   replace hm1 := bindO hm1; rcases hm1 with ⟨y2, hh3, hm1⟩
   replace hm1 := asrt_some hm1; rcases hm1 with ⟨hh4, hm1⟩
   replace hm1 := bindO hm1; rcases hm1 with ⟨y3, hh5, hm1⟩
   refine V.region ?_
   refine VO.cons rfl (V1.move rfl rfl rfl (ltb rfl) ?_)
   refine VO.cons rfl (V1.move rfl rfl rfl (ltb rfl) ?_)
   refine VO.cons rfl (V1.indexSr rfl rfl esz_92 rfl rfl hh1 (ltb rfl) ?_)
   refine VO.cons rfl (V1.fieldRef rfl rfl fo_183_0 rfl (ltb rfl) ?_)
   refine VO.cons rfl (V1.loadMap (k := 0) (f := (encHold rn)) rfl rfl tyk_3 rfl rfl (by simpa using natLt hh1.1 hh1.2) rfl (ltb rfl) ?_)
   refine VO.cons rfl (V1.move rfl rfl rfl (ltb rfl) ?_)
   refine VO.cons rfl (V1.int rfl rfl rfl rfl rfl (ltb rfl) ?_)
   refine VO.cons rfl (V1.move rfl rfl rfl (ltb rfl) ?_)
   apply VO.and (n := 6) rfl rfl rfl rfl rfl rfl (ltb rfl) (.none rfl)
   ·
    intro hg0
    refine VO.step (.some rfl rfl rfl) (V1.move rfl rfl rfl (ltb rfl) ?_)
    refine VO.step (.some rfl rfl rfl) (V1.move rfl rfl rfl (ltb rfl) ?_)
    refine VO.step (.some rfl rfl rfl) (V1.indexSr rfl rfl esz_92 rfl rfl (hh2 hg0) (ltb rfl) ?_)
    refine VO.step (.some rfl rfl rfl) (V1.fieldRef rfl rfl fo_183_2 rfl (ltb rfl) ?_)
    refine VO.step (.some rfl rfl rfl) (V1.loadMap (k := 0) (f := (encHold rn)) rfl rfl tyk_3 rfl rfl (by simpa using natLt (hh2 hg0).1 (hh2 hg0).2) rfl (ltb rfl) ?_)
    refine VO.step (.some rfl rfl rfl) (V1.int rfl rfl rfl rfl rfl (ltb rfl) ?_)
    exact VO.nil ⟨rfl, rfl, rfl, rfl, .inr ⟨rfl, .inr ⟨rfl, .inr ⟨rfl, .inr ⟨rfl, .inr ⟨rfl, .inr ⟨rfl, .inr ⟨rfl, .inl rfl⟩⟩⟩⟩⟩⟩⟩⟩
   refine VO.cons rfl (V1.move rfl rfl rfl (ltb rfl) ?_)
   apply VO.and (n := 2) rfl rfl rfl rfl rfl rfl (ltb rfl) (.none rfl)
   ·
    intro hg1
    refine VO.step (.some rfl rfl rfl) (V1.move rfl rfl rfl (ltb rfl) ?_)
    refine VO.step (.some rfl rfl rfl) (V1.call rfl rfl rfl cok_195 rfl (ok_spec_l9Good (cond_t hg1 hh3)) rfl (ltb rfl) ?_)
    rintro _ _ ⟨rfl, rfl⟩
    exact VO.nil ⟨rfl, rfl, rfl, rfl, .inr ⟨rfl, .inr ⟨rfl, .inr ⟨rfl, .inl rfl⟩⟩⟩⟩
   refine VO.cons rfl (V1.move rfl rfl rfl (ltb rfl) ?_)
   apply VO.and (n := 8) rfl rfl rfl rfl rfl rfl (ltb rfl) (.none rfl)
   ·
    intro hg2
    refine VO.step (.some rfl rfl rfl) (V1.move rfl rfl rfl (ltb rfl) ?_)
    refine VO.step (.some rfl rfl rfl) (V1.move rfl rfl rfl (ltb rfl) ?_)
    refine VO.step (.some rfl rfl rfl) (V1.move rfl rfl rfl (ltb rfl) ?_)
    refine VO.step (.some rfl rfl rfl) (V1.indexSr rfl rfl esz_92 rfl rfl (hh4 hg2) (ltb rfl) ?_)
    refine VO.step (.some rfl rfl rfl) (V1.fieldRef rfl rfl fo_183_1 rfl (ltb rfl) ?_)
    refine VO.step (.some rfl rfl rfl) (V1.loadMap (k := 0) (f := (encHold rn)) rfl rfl tyk_3 rfl rfl (by simpa using natLt (hh4 hg2).1 (hh4 hg2).2) rfl (ltb rfl) ?_)
    refine VO.step (.some rfl rfl rfl) (V1.int rfl rfl rfl rfl rfl (ltb rfl) ?_)
    refine VO.step (.some rfl rfl rfl) (V1.call rfl rfl rfl cok_168 rfl (ok_spec_l1In (cond_t hg2 hh5)) rfl (ltb rfl) ?_)
    rintro _ _ ⟨rfl, rfl⟩
    exact VO.nil ⟨rfl, rfl, rfl, rfl, .inr ⟨rfl, .inr ⟨rfl, .inr ⟨rfl, .inr ⟨rfl, .inr ⟨rfl, .inr ⟨rfl, .inr ⟨rfl, .inr ⟨rfl, .inr ⟨rfl, .inl rfl⟩⟩⟩⟩⟩⟩⟩⟩⟩⟩
   refine VO.nil ?_
   refine V.keep 54 [0, 1, 2, 8, 9, 46] [0] (E0 := [(0, .vl rn 6 (List.map (encHold rn) list)), (1, .int .i64 id_), (2, .int .i64 day), (8, .sref b0 6 0 (List.length y0)), (9, .int .i64 i), (46, .bool ((((((y0.getD (Int.toNat i) default).Id) == id_) && (((y0.getD (Int.toNat i) default).Until) == (-1 : Int))) && y2) && y3))]) (H0 := [(b0, ⟨6, List.map (encHold rn) y0⟩)]) rfl (⟨_, _, rfl, rfl, ⟨_, _, rfl, rfl, ⟨_, _, rfl, rfl, ⟨_, _, rfl, rfl, ⟨_, _, rfl, rfl, ⟨_, _, rfl, rfl, rfl⟩⟩⟩⟩⟩⟩) (⟨_, _, rfl, rfl, rfl⟩) rfl ?_
   refine V.cond rfl (fun hc1 => ?_) (fun hc1 => ?_)
   ·
    replace hm1 := cond_t hc1 hm1
    refine V.seq ?_
    replace hm1 := asrt_some hm1; rcases hm1 with ⟨hh6, hm1⟩
    refine V.region ?_
    refine VO.cons rfl (V1.move rfl rfl rfl (ltb rfl) ?_)
    refine VO.cons rfl (V1.move rfl rfl rfl (ltb rfl) ?_)
    refine VO.cons rfl (V1.move rfl rfl rfl (ltb rfl) ?_)
    refine VO.cons rfl (V1.indexSr rfl rfl esz_92 rfl rfl hh6 (ltb rfl) ?_)
    refine VO.cons rfl (V1.fieldRef rfl rfl fo_183_2 rfl (ltb rfl) ?_)
    refine VO.cons rfl (V1.storeMapCell (k := 0) (f := (encHold rn)) (x := (⟨(y0.getD (Int.toNat i) default).Id, (y0.getD (Int.toNat i) default).From, day, (y0.getD (Int.toNat i) default).Series, (y0.getD (Int.toNat i) default).First, (y0.getD (Int.toNat i) default).Last⟩ : Hold)) rfl rfl tyk_3 rfl rfl (by simpa using natLt hh6.1 hh6.2) rfl rfl rfl rfl rfl rfl ?_)
    refine VO.weakenK (Keeps.say 8 (y := .sref b0 6 0 (List.length (y0.set (Int.toNat i) (⟨(y0.getD (Int.toNat i) default).Id, (y0.getD (Int.toNat i) default).From, day, (y0.getD (Int.toNat i) default).Series, (y0.getD (Int.toNat i) default).First, (y0.getD (Int.toNat i) default).Last⟩ : Hold)))) rfl (by simp [optS])) ?_
    refine VO.nil ?_
    refine V.keep 54 [8] [0] (E0 := [(8, .sref b0 6 0 (List.length (y0.set (Int.toNat i) (⟨(y0.getD (Int.toNat i) default).Id, (y0.getD (Int.toNat i) default).From, day, (y0.getD (Int.toNat i) default).Series, (y0.getD (Int.toNat i) default).First, (y0.getD (Int.toNat i) default).Last⟩ : Hold))))]) (H0 := [(b0, ⟨6, List.map (encHold rn) (y0.set (Int.toNat i) (⟨(y0.getD (Int.toNat i) default).Id, (y0.getD (Int.toNat i) default).From, day, (y0.getD (Int.toNat i) default).Series, (y0.getD (Int.toNat i) default).First, (y0.getD (Int.toNat i) default).Last⟩ : Hold))⟩)]) rfl (⟨_, _, rfl, rfl, rfl⟩) (⟨_, _, rfl, rfl, rfl⟩) rfl ?_
    refine V.seq ?_
    refine V.region ?_
    refine VO.cons rfl (V1.move rfl rfl rfl (ltb rfl) ?_)
    refine VO.cons rfl (V1.assign rfl rfl rfl (ltb rfl) ?_)
    refine VO.cons rfl (V1.assign rfl rfl rfl (ltb rfl) ?_)
    refine VO.nil ?_
    refine V.keep 54 [6, 7] [0] (E0 := [(6, .sref b0 6 0 (List.length (y0.set (Int.toNat i) (⟨(y0.getD (Int.toNat i) default).Id, (y0.getD (Int.toNat i) default).From, day, (y0.getD (Int.toNat i) default).Series, (y0.getD (Int.toNat i) default).First, (y0.getD (Int.toNat i) default).Last⟩ : Hold)))), (7, .bool true)]) (H0 := [(b0, ⟨6, List.map (encHold rn) (y0.set (Int.toNat i) (⟨(y0.getD (Int.toNat i) default).Id, (y0.getD (Int.toNat i) default).From, day, (y0.getD (Int.toNat i) default).Series, (y0.getD (Int.toNat i) default).First, (y0.getD (Int.toNat i) default).Last⟩ : Hold))⟩)]) rfl (⟨_, _, rfl, rfl, ⟨_, _, rfl, rfl, rfl⟩⟩) (⟨_, _, rfl, rfl, rfl⟩) rfl ?_
    refine V.ret ?_
    obtain rfl := hr1 _ (Option.some.inj hm1).symm
    change some _ = some _ at hm0
    obtain rfl := Option.some.inj hm0
    exact ⟨_, _, ⟨_, _, rfl, rfl, ⟨_, _, rfl, rfl, rfl⟩⟩, List.Sublist.refl _, b0, rfl, rfl⟩
   ·
    replace hm1 := cond_f hc1 hm1
    refine V.skip ?_
    refine V.region ?_
    refine VO.cons rfl (V1.move rfl rfl rfl (ltb rfl) ?_)
    refine VO.cons rfl (V1.int rfl rfl rfl rfl rfl (ltb rfl) ?_)
    refine VO.cons rfl (V1.assign rfl rfl rfl (ltb rfl) ?_)
    refine VO.nil ?_
    exact ⟨(m0, (IntKind.i64.wrap (i + (1 : Int))), ()), hl1 _ (Option.some.inj hm1).symm, Nat.lt_succ_self _, Keeps.mk (ks := [0]) rfl ⟨rfl, rfl, rfl, rfl, rfl, trivial⟩ (⟨_, _, rfl, rfl, rfl⟩) rfl⟩
  ·
   replace hm1 := cond_f hc0 hm1
   refine V.exit ?_
   obtain rfl := hr1 _ (Option.some.inj hm1).symm
   exact ⟨((), ()), rfl, Keeps.mk (ks := []) rfl trivial (rfl) rfl⟩
 ·
  rintro ⟨_, _⟩ rfl
  try dsimp only at hm0
  refine V.seq ?_
  refine V.region ?_
  refine VO.cons rfl (V1.buildSliceT (f := (encHold rn)) ([] : List Hold) rfl rfl esz_92 zk_183 rfl rfl rfl rfl rfl rfl rfl (ltb rfl) ?_)
  intro b1
  refine VO.cons rfl (V1.assign rfl rfl rfl (ltb rfl) ?_)
  refine VO.cons rfl (V1.assign rfl rfl rfl (ltb rfl) ?_)
  refine VO.nil ?_
  refine V.keep 54 [6, 7] [0] (E0 := [(6, .sref b1 6 0 (List.length ([] : List Hold))), (7, .bool false)]) (H0 := [(b1, ⟨6, List.map (encHold rn) ([] : List Hold)⟩)]) rfl (⟨_, _, rfl, rfl, ⟨_, _, rfl, rfl, rfl⟩⟩) (⟨_, _, rfl, rfl, rfl⟩) rfl ?_
  refine V.ret ?_
  obtain rfl := Option.some.inj hm0
  exact ⟨_, _, ⟨_, _, rfl, rfl, ⟨_, _, rfl, rfl, rfl⟩⟩, List.Sublist.refl _, b1, rfl, rfl⟩

theorem ok_laws_vInts {ρ0 ρ1 rn : Nat} {a : List Int} {b_ : List Int} {r : Bool} (h : M.laws_vInts a b_ = some r) : Does Try.prog 85 [.vl ρ0 1 (List.map encInt a), .vl ρ1 1 (List.map encInt b_)] [] rn (fun x H => x = .bool r ∧ H = []) := by
 have hm0 := h; clear h; unfold M.laws_vInts at hm0
 try dsimp only at hm0
 refine Does.intro (N := 26) Try.func85 rfl rfl rfl rfl ?_
 intro w0 S0
 refine V.seq ?_
 refine V.region ?_
 refine VO.cons rfl (V1.assign rfl rfl rfl (ltb rfl) ?_)
 refine VO.nil ?_
 refine V.seq ?_
 refine V.seq ?_
 refine V.region ?_
 refine VO.cons rfl (V1.move rfl rfl rfl (ltb rfl) ?_)
 refine VO.cons rfl (V1.lenMap rfl rfl rfl rfl rfl rfl isl_34 (ltb rfl) ?_)
 refine VO.cons rfl (V1.move rfl rfl rfl (ltb rfl) ?_)
 refine VO.cons rfl (V1.lenMap rfl rfl rfl rfl rfl rfl isl_34 (ltb rfl) ?_)
 refine VO.cons rfl (V1.int rfl rfl rfl rfl rfl (ltb rfl) ?_)
 refine VO.nil ?_
 refine V.keep 26 [0, 1, 10] [] (E0 := [(0, .vl ρ0 1 (List.map encInt a)), (1, .vl ρ1 1 (List.map encInt b_)), (10, .bool ((a.length : Int) != (b_.length : Int)))]) (H0 := []) rfl (⟨_, _, rfl, rfl, ⟨_, _, rfl, rfl, ⟨_, _, rfl, rfl, rfl⟩⟩⟩) (rfl) rfl ?_
 refine V.cond rfl (fun hc0 => ?_) (fun hc0 => ?_)
 ·
  replace hm0 := cond_t hc0 hm0
  refine V.seq ?_
  refine V.region ?_
  refine VO.cons rfl (V1.assign rfl rfl rfl (ltb rfl) ?_)
  refine VO.nil ?_
  refine V.ret ?_
  obtain rfl := Option.some.inj hm0
  exact ⟨_, [], ⟨_, _, rfl, rfl, rfl⟩, List.nil_sublist _, rfl, rfl⟩
 ·
  replace hm0 := cond_f hc0 hm0
  refine V.skip ?_
  refine V.seq ?_
  refine V.seq ?_
  refine V.region ?_
  refine VO.cons rfl (V1.assign rfl rfl rfl (ltb rfl) ?_)
  refine VO.nil ?_
  replace hm0 := bindO hm0; rcases hm0 with ⟨e0, he1, hm0⟩
  refine V.cutT (D := (Unit) × (Unit)) (fun ⟨_, _⟩ => ⟨26, [], []⟩) (fun ⟨_, _⟩ => (.inl () = e0)) ?_ ?_
  ·
   refine V.block ?_
   refine V.keep 26 [5, 0, 1] [] (E0 := [(5, .int .i64 (0 : Int)), (0, .vl ρ0 1 (List.map encInt a)), (1, .vl ρ1 1 (List.map encInt b_))]) (H0 := []) rfl (⟨_, _, rfl, rfl, ⟨_, _, rfl, rfl, ⟨_, _, rfl, rfl, rfl⟩⟩⟩) (rfl) rfl ?_
   refine V.loopE (D := Nat × (Int) × (Unit)) (fun ⟨n0, i, _⟩ => [(5, .int .i64 i)]) (fun ⟨n0, i, _⟩ => []) (fun ⟨n0, i, _⟩ => loopO (M.laws_vInts_l0 a b_) n0 i = some e0) (fun ⟨n0, _, _⟩ => n0) (rounds, (0 : Int), ()) rfl he1 ?_
   rintro ⟨n0, i, _⟩ hP0
   obtain ⟨m0, y0, rfl, hm1, hl1, hr1⟩ := loop_head hP0
   unfold M.laws_vInts_l0 at hm1; dsimp only at hm1
   show V _ _ _ ⟨26, [(5, .int .i64 i), (0, .vl ρ0 1 (List.map encInt a)), (1, .vl ρ1 1 (List.map encInt b_))], []⟩
   refine V.seq ?_
   refine V.seq ?_
   refine V.region ?_
   refine VO.cons rfl (V1.move rfl rfl rfl (ltb rfl) ?_)
   refine VO.cons rfl (V1.move rfl rfl rfl (ltb rfl) ?_)
   refine VO.cons rfl (V1.lenMap rfl rfl rfl rfl rfl rfl isl_34 (ltb rfl) ?_)
   refine VO.cons rfl (V1.int rfl rfl rfl rfl rfl (ltb rfl) ?_)
   refine VO.nil ?_
   refine V.cond rfl (fun hc1 => ?_) (fun hc1 => ?_)
   ·
    replace hm1 := cond_t hc1 hm1
    refine V.skip ?_
    refine V.keep 26 [0, 1, 5] [] (E0 := [(0, .vl ρ0 1 (List.map encInt a)), (1, .vl ρ1 1 (List.map encInt b_)), (5, .int .i64 i)]) (H0 := []) rfl (⟨_, _, rfl, rfl, ⟨_, _, rfl, rfl, ⟨_, _, rfl, rfl, rfl⟩⟩⟩) (rfl) rfl ?_
    refine V.seq ?_
    refine V.block ?_
    refine V.seq ?_
    replace hm1 := asrt_some hm1; rcases hm1 with ⟨hh0, hm1⟩
    replace hm1 := asrt_some hm1; rcases hm1 with ⟨hh1, hm1⟩
    refine V.regionM 26 8 [⟨[(0, none)], [], none⟩, ⟨[(5, none)], [], none⟩, ⟨[(17, some 1), (18, some 0)], [], none⟩, ⟨[(19, some 0)], [], none⟩, ⟨[(1, none)], [], none⟩, ⟨[(5, none)], [], none⟩, ⟨[(21, some 1), (22, some 0)], [], none⟩, ⟨[(23, some 0)], [], none⟩] [(0, none), (1, none), (5, none), (20, some 4), (24, some 0)] (⟨_, rfl, ⟨_, rfl, ⟨_, rfl, ⟨_, rfl, ⟨_, rfl, ⟨_, rfl, ⟨_, rfl, ⟨_, rfl, ⟨rfl, rfl⟩⟩⟩⟩⟩⟩⟩⟩⟩) mixed_orders rfl (by decide +kernel) (fun hck6 => ?_)
    refine VP.step (p := ?pv65) rfl rfl rfl (⟨_, _, rfl, rfl, rfl⟩) ?hv65 ?rest65 hck6
    case hv65 =>
     intro E1
     refine (V1.move rfl rfl rfl (ltb rfl) ?_)
     exact rfl
    refine VP.step (p := ?pv66) rfl rfl rfl (⟨_, _, rfl, rfl, rfl⟩) ?hv66 ?rest66 hck6
    case hv66 =>
     intro E1
     refine (V1.move rfl rfl rfl (ltb rfl) ?_)
     exact rfl
    refine VP.step (p := ?pv67) rfl rfl rfl (⟨_, _, rfl, rfl, ⟨_, _, rfl, rfl, rfl⟩⟩) ?hv67 ?rest67 hck6
    case hv67 =>
     intro E1
     refine (V1.indexI rfl rfl esz_34 rfl rfl hh0 (ltb rfl) ?_)
     exact rfl
    refine VP.step (p := ?pv68) rfl rfl rfl (⟨_, _, rfl, rfl, rfl⟩) ?hv68 ?rest68 hck6
    case hv68 =>
     intro E1
     refine (V1.loadPin rfl rfl tyk_3 rfl rfl (ltb rfl) ?_)
     exact rfl
    refine VP.step (p := ?pv69) rfl rfl rfl (⟨_, _, rfl, rfl, rfl⟩) ?hv69 ?rest69 hck6
    case hv69 =>
     intro E1
     refine (V1.move rfl rfl rfl (ltb rfl) ?_)
     exact rfl
    refine VP.step (p := ?pv70) rfl rfl rfl (⟨_, _, rfl, rfl, rfl⟩) ?hv70 ?rest70 hck6
    case hv70 =>
     intro E1
     refine (V1.move rfl rfl rfl (ltb rfl) ?_)
     exact rfl
    refine VP.step (p := ?pv71) rfl rfl rfl (⟨_, _, rfl, rfl, ⟨_, _, rfl, rfl, rfl⟩⟩) ?hv71 ?rest71 hck6
    case hv71 =>
     intro E1
     refine (V1.indexI rfl rfl esz_34 rfl rfl hh1 (ltb rfl) ?_)
     exact rfl
    refine VP.step (p := ?pv72) rfl rfl rfl (⟨_, _, rfl, rfl, rfl⟩) ?hv72 ?rest72 hck6
    case hv72 =>
     intro E1
     refine (V1.loadPin rfl rfl tyk_3 rfl rfl (ltb rfl) ?_)
     exact rfl
    refine VP.fin rfl (⟨_, _, rfl, rfl, ⟨_, _, rfl, rfl, ⟨_, _, rfl, rfl, ⟨_, _, rfl, rfl, ⟨_, _, rfl, rfl, rfl⟩⟩⟩⟩⟩) ?_
    refine VO.cons rfl (V1.int rfl rfl rfl rfl rfl (ltb rfl) ?_)
    refine VO.nil ?_
    refine V.cond rfl (fun hc2 => ?_) (fun hc2 => ?_)
    ·
     replace hm1 := cond_t hc2 hm1
     refine V.seq ?_
     refine V.region ?_
     refine VO.cons rfl (V1.assign rfl rfl rfl (ltb rfl) ?_)
     refine VO.nil ?_
     refine V.ret ?_
     obtain rfl := hr1 _ (Option.some.inj hm1).symm
     change some _ = some _ at hm0
     obtain rfl := Option.some.inj hm0
     exact ⟨_, [], ⟨_, _, rfl, rfl, rfl⟩, List.nil_sublist _, rfl, rfl⟩
    ·
     replace hm1 := cond_f hc2 hm1
     refine V.skip ?_
     refine V.region ?_
     refine VO.cons rfl (V1.move rfl rfl rfl (ltb rfl) ?_)
     refine VO.cons rfl (V1.int rfl rfl rfl rfl rfl (ltb rfl) ?_)
     refine VO.cons rfl (V1.assign rfl rfl rfl (ltb rfl) ?_)
     refine VO.nil ?_
     exact ⟨(m0, (IntKind.i64.wrap (i + (1 : Int))), ()), hl1 _ (Option.some.inj hm1).symm, Nat.lt_succ_self _, Keeps.mk (ks := []) rfl ⟨rfl, rfl, rfl, trivial⟩ (rfl) rfl⟩
   ·
    replace hm1 := cond_f hc1 hm1
    refine V.exit ?_
    obtain rfl := hr1 _ (Option.some.inj hm1).symm
    exact ⟨((), ()), rfl, Keeps.mk (ks := []) rfl trivial (rfl) rfl⟩
  ·
   rintro ⟨_, _⟩ rfl
   try dsimp only at hm0
   refine V.seq ?_
   refine V.region ?_
   refine VO.cons rfl (V1.assign rfl rfl rfl (ltb rfl) ?_)
   refine VO.nil ?_
   refine V.ret ?_
   obtain rfl := Option.some.inj hm0
   exact ⟨_, [], ⟨_, _, rfl, rfl, rfl⟩, List.nil_sublist _, rfl, rfl⟩

theorem ok_laws_vHolds {ρ0 σ0 ρ1 σ1 rn : Nat} {a : List Hold} {b_ : List Hold} {r : Bool} (h : M.laws_vHolds a b_ = some r) : Does Try.prog 104 [.vl ρ0 6 (List.map (encHold σ0) a), .vl ρ1 6 (List.map (encHold σ1) b_)] [] rn (fun x H => x = .bool r ∧ H = []) := by
 have hm0 := h; clear h; unfold M.laws_vHolds at hm0
 try dsimp only at hm0
 refine Does.intro (N := 94) Try.func104 rfl rfl rfl rfl ?_
 intro w0 S0
 refine V.seq ?_
 refine V.region ?_
 refine VO.cons rfl (V1.assign rfl rfl rfl (ltb rfl) ?_)
 refine VO.nil ?_
 refine V.seq ?_
 refine V.seq ?_
 refine V.region ?_
 refine VO.cons rfl (V1.move rfl rfl rfl (ltb rfl) ?_)
 refine VO.cons rfl (V1.lenMap rfl rfl rfl rfl rfl rfl isl_92 (ltb rfl) ?_)
 refine VO.cons rfl (V1.move rfl rfl rfl (ltb rfl) ?_)
 refine VO.cons rfl (V1.lenMap rfl rfl rfl rfl rfl rfl isl_92 (ltb rfl) ?_)
 refine VO.cons rfl (V1.int rfl rfl rfl rfl rfl (ltb rfl) ?_)
 refine VO.nil ?_
 refine V.keep 94 [0, 1, 10] [] (E0 := [(0, .vl ρ0 6 (List.map (encHold σ0) a)), (1, .vl ρ1 6 (List.map (encHold σ1) b_)), (10, .bool ((a.length : Int) != (b_.length : Int)))]) (H0 := []) rfl (⟨_, _, rfl, rfl, ⟨_, _, rfl, rfl, ⟨_, _, rfl, rfl, rfl⟩⟩⟩) (rfl) rfl ?_
 refine V.cond rfl (fun hc0 => ?_) (fun hc0 => ?_)
 ·
  replace hm0 := cond_t hc0 hm0
  refine V.seq ?_
  refine V.region ?_
  refine VO.cons rfl (V1.assign rfl rfl rfl (ltb rfl) ?_)
  refine VO.nil ?_
  refine V.ret ?_
  obtain rfl := Option.some.inj hm0
  exact ⟨_, [], ⟨_, _, rfl, rfl, rfl⟩, List.nil_sublist _, rfl, rfl⟩
 ·
  replace hm0 := cond_f hc0 hm0
  refine V.skip ?_
  refine V.seq ?_
  refine V.seq ?_
  refine V.region ?_
  refine VO.cons rfl (V1.assign rfl rfl rfl (ltb rfl) ?_)
  refine VO.nil ?_
  replace hm0 := bindO hm0; rcases hm0 with ⟨e0, he1, hm0⟩
  refine V.cutT (D := (Unit) × (Unit)) (fun ⟨_, _⟩ => ⟨94, [], []⟩) (fun ⟨_, _⟩ => (.inl () = e0)) ?_ ?_
  ·
   refine V.block ?_
   refine V.keep 94 [5, 0, 1] [] (E0 := [(5, .int .i64 (0 : Int)), (0, .vl ρ0 6 (List.map (encHold σ0) a)), (1, .vl ρ1 6 (List.map (encHold σ1) b_))]) (H0 := []) rfl (⟨_, _, rfl, rfl, ⟨_, _, rfl, rfl, ⟨_, _, rfl, rfl, rfl⟩⟩⟩) (rfl) rfl ?_
   refine V.loopE (D := Nat × (Int) × (Unit)) (fun ⟨n0, i, _⟩ => [(5, .int .i64 i)]) (fun ⟨n0, i, _⟩ => []) (fun ⟨n0, i, _⟩ => loopO (M.laws_vHolds_l0 a b_) n0 i = some e0) (fun ⟨n0, _, _⟩ => n0) (rounds, (0 : Int), ()) rfl he1 ?_
   rintro ⟨n0, i, _⟩ hP0
   obtain ⟨m0, y0, rfl, hm1, hl1, hr1⟩ := loop_head hP0
   unfold M.laws_vHolds_l0 at hm1; dsimp only at hm1
   show V _ _ _ ⟨94, [(5, .int .i64 i), (0, .vl ρ0 6 (List.map (encHold σ0) a)), (1, .vl ρ1 6 (List.map (encHold σ1) b_))], []⟩
   refine V.seq ?_
   refine V.seq ?_
   refine V.region ?_
   refine VO.cons rfl (V1.move rfl rfl rfl (ltb rfl) ?_)
   refine VO.cons rfl (V1.move rfl rfl rfl (ltb rfl) ?_)
   refine VO.cons rfl (V1.lenMap rfl rfl rfl rfl rfl rfl isl_92 (ltb rfl) ?_)
   refine VO.cons rfl (V1.int rfl rfl rfl rfl rfl (ltb rfl) ?_)
   refine VO.nil ?_
   refine V.cond rfl (fun hc1 => ?_) (fun hc1 => ?_)
   ·
    replace hm1 := cond_t hc1 hm1
    refine V.skip ?_
    refine V.keep 94 [0, 1, 5] [] (E0 := [(0, .vl ρ0 6 (List.map (encHold σ0) a)), (1, .vl ρ1 6 (List.map (encHold σ1) b_)), (5, .int .i64 i)]) (H0 := []) rfl (⟨_, _, rfl, rfl, ⟨_, _, rfl, rfl, ⟨_, _, rfl, rfl, rfl⟩⟩⟩) (rfl) rfl ?_
    refine V.seq ?_
    refine V.block ?_
    refine V.seq ?_
    replace hm1 := asrt_some hm1; rcases hm1 with ⟨hh0, hm1⟩
    replace hm1 := asrt_some hm1; rcases hm1 with ⟨hh1, hm1⟩
    replace hm1 := asrt_some hm1; rcases hm1 with ⟨hh2, hm1⟩
    replace hm1 := asrt_some hm1; rcases hm1 with ⟨hh3, hm1⟩
    replace hm1 := asrt_some hm1; rcases hm1 with ⟨hh4, hm1⟩
    replace hm1 := asrt_some hm1; rcases hm1 with ⟨hh5, hm1⟩
    replace hm1 := asrt_some hm1; rcases hm1 with ⟨hh6, hm1⟩
    replace hm1 := asrt_some hm1; rcases hm1 with ⟨hh7, hm1⟩
    replace hm1 := bindO hm1; rcases hm1 with ⟨y1, hh8, hm1⟩
    replace hm1 := asrt_some hm1; rcases hm1 with ⟨hh9, hm1⟩
    replace hm1 := asrt_some hm1; rcases hm1 with ⟨hh10, hm1⟩
    replace hm1 := asrt_some hm1; rcases hm1 with ⟨hh11, hm1⟩
    replace hm1 := asrt_some hm1; rcases hm1 with ⟨hh12, hm1⟩
    refine V.regionM 94 77 [⟨[(0, none)], [], none⟩, ⟨[(5, none)], [], none⟩, ⟨[(17, some 1), (18, some 0)], [], none⟩, ⟨[(19, some 0)], [], none⟩, ⟨[(20, some 0)], [], none⟩, ⟨[(1, none)], [], none⟩, ⟨[(5, none)], [], none⟩, ⟨[(22, some 1), (23, some 0)], [], none⟩, ⟨[(24, some 0)], [], none⟩, ⟨[(25, some 0)], [], none⟩, ⟨[(21, some 5), (26, some 0)], [], none⟩, ⟨[(27, some 0)], [], none⟩, ⟨[(0, none)], [(0, false)], none⟩, ⟨[(5, none)], [(1, false)], none⟩, ⟨[(29, some 1), (30, some 0)], [(2, false)], none⟩, ⟨[(31, some 0)], [(3, false)], none⟩, ⟨[(32, some 0)], [(4, false)], none⟩, ⟨[(1, none)], [(5, false)], none⟩, ⟨[(5, none)], [(6, false)], none⟩, ⟨[(34, some 1), (35, some 0)], [(7, false)], none⟩, ⟨[(36, some 0)], [(8, false)], none⟩, ⟨[(37, some 0)], [(9, false)], none⟩, ⟨[(33, some 5), (38, some 0)], [(10, false)], none⟩, ⟨[], [], some (false, 28, 39, 11, 0)⟩, ⟨[(40, some 0)], [], none⟩, ⟨[(0, none)], [(0, false)], none⟩, ⟨[(5, none)], [(1, false)], none⟩, ⟨[(42, some 1), (43, some 0)], [(2, false)], none⟩, ⟨[(44, some 0)], [(3, false)], none⟩, ⟨[(45, some 0)], [(4, false)], none⟩, ⟨[(1, none)], [(5, false)], none⟩, ⟨[(5, none)], [(6, false)], none⟩, ⟨[(47, some 1), (48, some 0)], [(7, false)], none⟩, ⟨[(49, some 0)], [(8, false)], none⟩, ⟨[(50, some 0)], [(9, false)], none⟩, ⟨[(46, some 5), (51, some 0)], [(10, false)], none⟩, ⟨[], [], some (false, 41, 52, 11, 0)⟩, ⟨[(53, some 0)], [], none⟩, ⟨[(0, none)], [(0, false)], none⟩, ⟨[(5, none)], [(1, false)], none⟩, ⟨[(55, some 1), (56, some 0)], [(2, false)], none⟩, ⟨[(57, some 0)], [(3, false)], none⟩, ⟨[(58, some 0)], [(4, false)], none⟩, ⟨[(1, none)], [(5, false)], none⟩, ⟨[(5, none)], [(6, false)], none⟩, ⟨[(60, some 1), (61, some 0)], [(7, false)], none⟩, ⟨[(62, some 0)], [(8, false)], none⟩, ⟨[(63, some 0)], [(9, false)], none⟩, ⟨[(59, some 5), (64, some 0)], [(10, false)], none⟩, ⟨[(65, some 0)], [(11, false)], none⟩, ⟨[], [], some (false, 54, 66, 12, 0)⟩, ⟨[(67, some 0)], [], none⟩, ⟨[(0, none)], [(0, false)], none⟩, ⟨[(5, none)], [(1, false)], none⟩, ⟨[(69, some 1), (70, some 0)], [(2, false)], none⟩, ⟨[(71, some 0)], [(3, false)], none⟩, ⟨[(72, some 0)], [(4, false)], none⟩, ⟨[(1, none)], [(5, false)], none⟩, ⟨[(5, none)], [(6, false)], none⟩, ⟨[(74, some 1), (75, some 0)], [(7, false)], none⟩, ⟨[(76, some 0)], [(8, false)], none⟩, ⟨[(77, some 0)], [(9, false)], none⟩, ⟨[(73, some 5), (78, some 0)], [(10, false)], none⟩, ⟨[], [], some (false, 68, 79, 11, 0)⟩, ⟨[(80, some 0)], [], none⟩, ⟨[(0, none)], [(0, false)], none⟩, ⟨[(5, none)], [(1, false)], none⟩, ⟨[(82, some 1), (83, some 0)], [(2, false)], none⟩, ⟨[(84, some 0)], [(3, false)], none⟩, ⟨[(85, some 0)], [(4, false)], none⟩, ⟨[(1, none)], [(5, false)], none⟩, ⟨[(5, none)], [(6, false)], none⟩, ⟨[(87, some 1), (88, some 0)], [(7, false)], none⟩, ⟨[(89, some 0)], [(8, false)], none⟩, ⟨[(90, some 0)], [(9, false)], none⟩, ⟨[(86, some 5), (91, some 0)], [(10, false)], none⟩, ⟨[], [], some (false, 81, 92, 11, 0)⟩] [(0, none), (1, none), (5, none), (93, some 0)] (⟨_, rfl, ⟨_, rfl, ⟨_, rfl, ⟨_, rfl, ⟨_, rfl, ⟨_, rfl, ⟨_, rfl, ⟨_, rfl, ⟨_, rfl, ⟨_, rfl, ⟨_, rfl, ⟨_, rfl, ⟨_, rfl, ⟨_, rfl, ⟨_, rfl, ⟨_, rfl, ⟨_, rfl, ⟨_, rfl, ⟨_, rfl, ⟨_, rfl, ⟨_, rfl, ⟨_, rfl, ⟨_, rfl, ⟨_, rfl, ⟨_, rfl, ⟨_, rfl, ⟨_, rfl, ⟨_, rfl, ⟨_, rfl, ⟨_, rfl, ⟨_, rfl, ⟨_, rfl, ⟨_, rfl, ⟨_, rfl, ⟨_, rfl, ⟨_, rfl, ⟨_, rfl, ⟨_, rfl, ⟨_, rfl, ⟨_, rfl, ⟨_, rfl, ⟨_, rfl, ⟨_, rfl, ⟨_, rfl, ⟨_, rfl, ⟨_, rfl, ⟨_, rfl, ⟨_, rfl, ⟨_, rfl, ⟨_, rfl, ⟨_, rfl, ⟨_, rfl, ⟨_, rfl, ⟨_, rfl, ⟨_, rfl, ⟨_, rfl, ⟨_, rfl, ⟨_, rfl, ⟨_, rfl, ⟨_, rfl, ⟨_, rfl, ⟨_, rfl, ⟨_, rfl, ⟨_, rfl, ⟨_, rfl, ⟨_, rfl, ⟨_, rfl, ⟨_, rfl, ⟨_, rfl, ⟨_, rfl, ⟨_, rfl, ⟨_, rfl, ⟨_, rfl, ⟨_, rfl, ⟨_, rfl, ⟨_, rfl, ⟨_, rfl, ⟨rfl, rfl⟩⟩⟩⟩⟩⟩⟩⟩⟩⟩⟩⟩⟩⟩⟩⟩⟩⟩⟩⟩⟩⟩⟩⟩⟩⟩⟩⟩⟩⟩⟩⟩⟩⟩⟩⟩⟩⟩⟩⟩⟩⟩⟩⟩⟩⟩⟩⟩⟩⟩⟩⟩⟩⟩⟩⟩⟩⟩⟩⟩⟩⟩⟩⟩⟩⟩⟩⟩⟩⟩⟩⟩⟩⟩⟩⟩⟩⟩) mixed_orders rfl (by decide +kernel) (fun hck6 => ?_)
    refine VP.step (p := ?pv577) rfl rfl rfl (⟨_, _, rfl, rfl, rfl⟩) ?hv577 ?rest577 hck6
    case hv577 =>
     intro E1
     refine (V1.move rfl rfl rfl (ltb rfl) ?_)
     exact rfl
    refine VP.step (p := ?pv578) rfl rfl rfl (⟨_, _, rfl, rfl, rfl⟩) ?hv578 ?rest578 hck6
    case hv578 =>
     intro E1
     refine (V1.move rfl rfl rfl (ltb rfl) ?_)
     exact rfl
    refine VP.step (p := ?pv579) rfl rfl rfl (⟨_, _, rfl, rfl, ⟨_, _, rfl, rfl, rfl⟩⟩) ?hv579 ?rest579 hck6
    case hv579 =>
     intro E1
     refine (V1.indexI rfl rfl esz_92 rfl rfl hh0 (ltb rfl) ?_)
     exact rfl
    refine VP.step (p := ?pv580) rfl rfl rfl (⟨_, _, rfl, rfl, rfl⟩) ?hv580 ?rest580 hck6
    case hv580 =>
     intro E1
     refine (V1.fieldPin rfl rfl fo_183_0 rfl (ltb rfl) ?_)
     exact rfl
    refine VP.step (p := ?pv581) rfl rfl rfl (⟨_, _, rfl, rfl, rfl⟩) ?hv581 ?rest581 hck6
    case hv581 =>
     intro E1
     refine (V1.loadPin rfl rfl tyk_3 rfl rfl (ltb rfl) ?_)
     exact rfl
    refine VP.step (p := ?pv582) rfl rfl rfl (⟨_, _, rfl, rfl, rfl⟩) ?hv582 ?rest582 hck6
    case hv582 =>
     intro E1
     refine (V1.move rfl rfl rfl (ltb rfl) ?_)
     exact rfl
    refine VP.step (p := ?pv583) rfl rfl rfl (⟨_, _, rfl, rfl, rfl⟩) ?hv583 ?rest583 hck6
    case hv583 =>
     intro E1
     refine (V1.move rfl rfl rfl (ltb rfl) ?_)
     exact rfl
    refine VP.step (p := ?pv584) rfl rfl rfl (⟨_, _, rfl, rfl, ⟨_, _, rfl, rfl, rfl⟩⟩) ?hv584 ?rest584 hck6
    case hv584 =>
     intro E1
     refine (V1.indexI rfl rfl esz_92 rfl rfl hh1 (ltb rfl) ?_)
     exact rfl
    refine VP.step (p := ?pv585) rfl rfl rfl (⟨_, _, rfl, rfl, rfl⟩) ?hv585 ?rest585 hck6
    case hv585 =>
     intro E1
     refine (V1.fieldPin rfl rfl fo_183_0 rfl (ltb rfl) ?_)
     exact rfl
    refine VP.step (p := ?pv586) rfl rfl rfl (⟨_, _, rfl, rfl, rfl⟩) ?hv586 ?rest586 hck6
    case hv586 =>
     intro E1
     refine (V1.loadPin rfl rfl tyk_3 rfl rfl (ltb rfl) ?_)
     exact rfl
    refine VP.step (p := ?pv587) rfl rfl rfl (⟨_, _, rfl, rfl, ⟨_, _, rfl, rfl, rfl⟩⟩) ?hv587 ?rest587 hck6
    case hv587 =>
     intro E1
     refine (V1.int rfl rfl rfl rfl rfl (ltb rfl) ?_)
     exact rfl
    refine VP.step (p := ?pv588) rfl rfl rfl (⟨_, _, rfl, rfl, rfl⟩) ?hv588 ?rest588 hck6
    case hv588 =>
     intro E1
     refine (V1.move rfl rfl rfl (ltb rfl) ?_)
     exact rfl
    refine VP.step (p := ?pv589) rfl rfl rfl (⟨_, _, rfl, rfl, rfl⟩) ?hv589 ?rest589 hck6
    case hv589 =>
     refine ⟨_, rfl, fun hg0 => ?_⟩
     intro E1
     refine (V1.move rfl rfl rfl (ltb rfl) ?_)
     exact rfl
    refine VP.step (p := ?pv590) rfl rfl rfl (⟨_, _, rfl, rfl, rfl⟩) ?hv590 ?rest590 hck6
    case hv590 =>
     refine ⟨_, rfl, fun hg0 => ?_⟩
     intro E1
     refine (V1.move rfl rfl rfl (ltb rfl) ?_)
     exact rfl
    refine VP.step (p := ?pv591) rfl rfl rfl (⟨_, _, rfl, rfl, ⟨_, _, rfl, rfl, rfl⟩⟩) ?hv591 ?rest591 hck6
    case hv591 =>
     refine ⟨_, rfl, fun hg0 => ?_⟩
     intro E1
     refine (V1.indexI rfl rfl esz_92 rfl rfl (hh2 hg0) (ltb rfl) ?_)
     exact rfl
    refine VP.step (p := ?pv592) rfl rfl rfl (⟨_, _, rfl, rfl, rfl⟩) ?hv592 ?rest592 hck6
    case hv592 =>
     refine ⟨_, rfl, fun hg0 => ?_⟩
     intro E1
     refine (V1.fieldPin rfl rfl fo_183_1 rfl (ltb rfl) ?_)
     exact rfl
    refine VP.step (p := ?pv593) rfl rfl rfl (⟨_, _, rfl, rfl, rfl⟩) ?hv593 ?rest593 hck6
    case hv593 =>
     refine ⟨_, rfl, fun hg0 => ?_⟩
     intro E1
     refine (V1.loadPin rfl rfl tyk_3 rfl rfl (ltb rfl) ?_)
     exact rfl
    refine VP.step (p := ?pv594) rfl rfl rfl (⟨_, _, rfl, rfl, rfl⟩) ?hv594 ?rest594 hck6
    case hv594 =>
     refine ⟨_, rfl, fun hg0 => ?_⟩
     intro E1
     refine (V1.move rfl rfl rfl (ltb rfl) ?_)
     exact rfl
    refine VP.step (p := ?pv595) rfl rfl rfl (⟨_, _, rfl, rfl, rfl⟩) ?hv595 ?rest595 hck6
    case hv595 =>
     refine ⟨_, rfl, fun hg0 => ?_⟩
     intro E1
     refine (V1.move rfl rfl rfl (ltb rfl) ?_)
     exact rfl
    refine VP.step (p := ?pv596) rfl rfl rfl (⟨_, _, rfl, rfl, ⟨_, _, rfl, rfl, rfl⟩⟩) ?hv596 ?rest596 hck6
    case hv596 =>
     refine ⟨_, rfl, fun hg0 => ?_⟩
     intro E1
     refine (V1.indexI rfl rfl esz_92 rfl rfl (hh3 hg0) (ltb rfl) ?_)
     exact rfl
    refine VP.step (p := ?pv597) rfl rfl rfl (⟨_, _, rfl, rfl, rfl⟩) ?hv597 ?rest597 hck6
    case hv597 =>
     refine ⟨_, rfl, fun hg0 => ?_⟩
     intro E1
     refine (V1.fieldPin rfl rfl fo_183_1 rfl (ltb rfl) ?_)
     exact rfl
    refine VP.step (p := ?pv598) rfl rfl rfl (⟨_, _, rfl, rfl, rfl⟩) ?hv598 ?rest598 hck6
    case hv598 =>
     refine ⟨_, rfl, fun hg0 => ?_⟩
     intro E1
     refine (V1.loadPin rfl rfl tyk_3 rfl rfl (ltb rfl) ?_)
     exact rfl
    refine VP.step (p := ?pv599) rfl rfl rfl (⟨_, _, rfl, rfl, ⟨_, _, rfl, rfl, rfl⟩⟩) ?hv599 ?rest599 hck6
    case hv599 =>
     refine ⟨_, rfl, fun hg0 => ?_⟩
     intro E1
     refine (V1.int rfl rfl rfl rfl rfl (ltb rfl) ?_)
     exact rfl
    refine VP.pickOr rfl rfl rfl rfl rfl rfl (trivial) ?_ hck6
    refine VP.step (p := ?pv600) rfl rfl rfl (⟨_, _, rfl, rfl, rfl⟩) ?hv600 ?rest600 hck6
    case hv600 =>
     intro E1
     refine (V1.move rfl rfl rfl (ltb rfl) ?_)
     exact rfl
    refine VP.step (p := ?pv601) rfl rfl rfl (⟨_, _, rfl, rfl, rfl⟩) ?hv601 ?rest601 hck6
    case hv601 =>
     refine ⟨_, rfl, fun hg1 => ?_⟩
     intro E1
     refine (V1.move rfl rfl rfl (ltb rfl) ?_)
     exact rfl
    refine VP.step (p := ?pv602) rfl rfl rfl (⟨_, _, rfl, rfl, rfl⟩) ?hv602 ?rest602 hck6
    case hv602 =>
     refine ⟨_, rfl, fun hg1 => ?_⟩
     intro E1
     refine (V1.move rfl rfl rfl (ltb rfl) ?_)
     exact rfl
    refine VP.step (p := ?pv603) rfl rfl rfl (⟨_, _, rfl, rfl, ⟨_, _, rfl, rfl, rfl⟩⟩) ?hv603 ?rest603 hck6
    case hv603 =>
     refine ⟨_, rfl, fun hg1 => ?_⟩
     intro E1
     refine (V1.indexI rfl rfl esz_92 rfl rfl (hh4 hg1) (ltb rfl) ?_)
     exact rfl
    refine VP.step (p := ?pv604) rfl rfl rfl (⟨_, _, rfl, rfl, rfl⟩) ?hv604 ?rest604 hck6
    case hv604 =>
     refine ⟨_, rfl, fun hg1 => ?_⟩
     intro E1
     refine (V1.fieldPin rfl rfl fo_183_2 rfl (ltb rfl) ?_)
     exact rfl
    refine VP.step (p := ?pv605) rfl rfl rfl (⟨_, _, rfl, rfl, rfl⟩) ?hv605 ?rest605 hck6
    case hv605 =>
     refine ⟨_, rfl, fun hg1 => ?_⟩
     intro E1
     refine (V1.loadPin rfl rfl tyk_3 rfl rfl (ltb rfl) ?_)
     exact rfl
    refine VP.step (p := ?pv606) rfl rfl rfl (⟨_, _, rfl, rfl, rfl⟩) ?hv606 ?rest606 hck6
    case hv606 =>
     refine ⟨_, rfl, fun hg1 => ?_⟩
     intro E1
     refine (V1.move rfl rfl rfl (ltb rfl) ?_)
     exact rfl
    refine VP.step (p := ?pv607) rfl rfl rfl (⟨_, _, rfl, rfl, rfl⟩) ?hv607 ?rest607 hck6
    case hv607 =>
     refine ⟨_, rfl, fun hg1 => ?_⟩
     intro E1
     refine (V1.move rfl rfl rfl (ltb rfl) ?_)
     exact rfl
    refine VP.step (p := ?pv608) rfl rfl rfl (⟨_, _, rfl, rfl, ⟨_, _, rfl, rfl, rfl⟩⟩) ?hv608 ?rest608 hck6
    case hv608 =>
     refine ⟨_, rfl, fun hg1 => ?_⟩
     intro E1
     refine (V1.indexI rfl rfl esz_92 rfl rfl (hh5 hg1) (ltb rfl) ?_)
     exact rfl
    refine VP.step (p := ?pv609) rfl rfl rfl (⟨_, _, rfl, rfl, rfl⟩) ?hv609 ?rest609 hck6
    case hv609 =>
     refine ⟨_, rfl, fun hg1 => ?_⟩
     intro E1
     refine (V1.fieldPin rfl rfl fo_183_2 rfl (ltb rfl) ?_)
     exact rfl
    refine VP.step (p := ?pv610) rfl rfl rfl (⟨_, _, rfl, rfl, rfl⟩) ?hv610 ?rest610 hck6
    case hv610 =>
     refine ⟨_, rfl, fun hg1 => ?_⟩
     intro E1
     refine (V1.loadPin rfl rfl tyk_3 rfl rfl (ltb rfl) ?_)
     exact rfl
    refine VP.step (p := ?pv611) rfl rfl rfl (⟨_, _, rfl, rfl, ⟨_, _, rfl, rfl, rfl⟩⟩) ?hv611 ?rest611 hck6
    case hv611 =>
     refine ⟨_, rfl, fun hg1 => ?_⟩
     intro E1
     refine (V1.int rfl rfl rfl rfl rfl (ltb rfl) ?_)
     exact rfl
    refine VP.pickOr rfl rfl rfl rfl rfl rfl (trivial) ?_ hck6
    refine VP.step (p := ?pv612) rfl rfl rfl (⟨_, _, rfl, rfl, rfl⟩) ?hv612 ?rest612 hck6
    case hv612 =>
     intro E1
     refine (V1.move rfl rfl rfl (ltb rfl) ?_)
     exact rfl
    refine VP.step (p := ?pv613) rfl rfl rfl (⟨_, _, rfl, rfl, rfl⟩) ?hv613 ?rest613 hck6
    case hv613 =>
     refine ⟨_, rfl, fun hg2 => ?_⟩
     intro E1
     refine (V1.move rfl rfl rfl (ltb rfl) ?_)
     exact rfl
    refine VP.step (p := ?pv614) rfl rfl rfl (⟨_, _, rfl, rfl, rfl⟩) ?hv614 ?rest614 hck6
    case hv614 =>
     refine ⟨_, rfl, fun hg2 => ?_⟩
     intro E1
     refine (V1.move rfl rfl rfl (ltb rfl) ?_)
     exact rfl
    refine VP.step (p := ?pv615) rfl rfl rfl (⟨_, _, rfl, rfl, ⟨_, _, rfl, rfl, rfl⟩⟩) ?hv615 ?rest615 hck6
    case hv615 =>
     refine ⟨_, rfl, fun hg2 => ?_⟩
     intro E1
     refine (V1.indexI rfl rfl esz_92 rfl rfl (hh6 hg2) (ltb rfl) ?_)
     exact rfl
    refine VP.step (p := ?pv616) rfl rfl rfl (⟨_, _, rfl, rfl, rfl⟩) ?hv616 ?rest616 hck6
    case hv616 =>
     refine ⟨_, rfl, fun hg2 => ?_⟩
     intro E1
     refine (V1.fieldPin rfl rfl fo_183_3 rfl (ltb rfl) ?_)
     exact rfl
    refine VP.step (p := ?pv617) rfl rfl rfl (⟨_, _, rfl, rfl, rfl⟩) ?hv617 ?rest617 hck6
    case hv617 =>
     refine ⟨_, rfl, fun hg2 => ?_⟩
     intro E1
     refine (V1.loadPin rfl rfl tyk_34 rfl rfl (ltb rfl) ?_)
     exact rfl
    refine VP.step (p := ?pv618) rfl rfl rfl (⟨_, _, rfl, rfl, rfl⟩) ?hv618 ?rest618 hck6
    case hv618 =>
     refine ⟨_, rfl, fun hg2 => ?_⟩
     intro E1
     refine (V1.move rfl rfl rfl (ltb rfl) ?_)
     exact rfl
    refine VP.step (p := ?pv619) rfl rfl rfl (⟨_, _, rfl, rfl, rfl⟩) ?hv619 ?rest619 hck6
    case hv619 =>
     refine ⟨_, rfl, fun hg2 => ?_⟩
     intro E1
     refine (V1.move rfl rfl rfl (ltb rfl) ?_)
     exact rfl
    refine VP.step (p := ?pv620) rfl rfl rfl (⟨_, _, rfl, rfl, ⟨_, _, rfl, rfl, rfl⟩⟩) ?hv620 ?rest620 hck6
    case hv620 =>
     refine ⟨_, rfl, fun hg2 => ?_⟩
     intro E1
     refine (V1.indexI rfl rfl esz_92 rfl rfl (hh7 hg2) (ltb rfl) ?_)
     exact rfl
    refine VP.step (p := ?pv621) rfl rfl rfl (⟨_, _, rfl, rfl, rfl⟩) ?hv621 ?rest621 hck6
    case hv621 =>
     refine ⟨_, rfl, fun hg2 => ?_⟩
     intro E1
     refine (V1.fieldPin rfl rfl fo_183_3 rfl (ltb rfl) ?_)
     exact rfl
    refine VP.step (p := ?pv622) rfl rfl rfl (⟨_, _, rfl, rfl, rfl⟩) ?hv622 ?rest622 hck6
    case hv622 =>
     refine ⟨_, rfl, fun hg2 => ?_⟩
     intro E1
     refine (V1.loadPin rfl rfl tyk_34 rfl rfl (ltb rfl) ?_)
     exact rfl
    refine VP.step (p := ?pv623) rfl rfl rfl (⟨_, _, rfl, rfl, ⟨_, _, rfl, rfl, rfl⟩⟩) ?hv623 ?rest623 hck6
    case hv623 =>
     refine ⟨_, rfl, fun hg2 => ?_⟩
     intro E1
     refine (V1.call rfl rfl rfl cok_85 rfl (ok_laws_vInts (cond_f hg2 hh8)) rfl (ltb rfl) ?_)
     rintro _ _ ⟨rfl, rfl⟩
     exact rfl
    refine VP.step (p := ?pv624) rfl rfl rfl (⟨_, _, rfl, rfl, rfl⟩) ?hv624 ?rest624 hck6
    case hv624 =>
     refine ⟨_, rfl, fun hg2 => ?_⟩
     intro E1
     refine (V1.not rfl rfl rfl (ltb rfl) ?_)
     exact rfl
    refine VP.pickOr rfl rfl rfl rfl rfl rfl (trivial) ?_ hck6
    refine VP.step (p := ?pv625) rfl rfl rfl (⟨_, _, rfl, rfl, rfl⟩) ?hv625 ?rest625 hck6
    case hv625 =>
     intro E1
     refine (V1.move rfl rfl rfl (ltb rfl) ?_)
     exact rfl
    refine VP.step (p := ?pv626) rfl rfl rfl (⟨_, _, rfl, rfl, rfl⟩) ?hv626 ?rest626 hck6
    case hv626 =>
     refine ⟨_, rfl, fun hg3 => ?_⟩
     intro E1
     refine (V1.move rfl rfl rfl (ltb rfl) ?_)
     exact rfl
    refine VP.step (p := ?pv627) rfl rfl rfl (⟨_, _, rfl, rfl, rfl⟩) ?hv627 ?rest627 hck6
    case hv627 =>
     refine ⟨_, rfl, fun hg3 => ?_⟩
     intro E1
     refine (V1.move rfl rfl rfl (ltb rfl) ?_)
     exact rfl
    refine VP.step (p := ?pv628) rfl rfl rfl (⟨_, _, rfl, rfl, ⟨_, _, rfl, rfl, rfl⟩⟩) ?hv628 ?rest628 hck6
    case hv628 =>
     refine ⟨_, rfl, fun hg3 => ?_⟩
     intro E1
     refine (V1.indexI rfl rfl esz_92 rfl rfl (hh9 hg3) (ltb rfl) ?_)
     exact rfl
    refine VP.step (p := ?pv629) rfl rfl rfl (⟨_, _, rfl, rfl, rfl⟩) ?hv629 ?rest629 hck6
    case hv629 =>
     refine ⟨_, rfl, fun hg3 => ?_⟩
     intro E1
     refine (V1.fieldPin rfl rfl fo_183_4 rfl (ltb rfl) ?_)
     exact rfl
    refine VP.step (p := ?pv630) rfl rfl rfl (⟨_, _, rfl, rfl, rfl⟩) ?hv630 ?rest630 hck6
    case hv630 =>
     refine ⟨_, rfl, fun hg3 => ?_⟩
     intro E1
     refine (V1.loadPin rfl rfl tyk_3 rfl rfl (ltb rfl) ?_)
     exact rfl
    refine VP.step (p := ?pv631) rfl rfl rfl (⟨_, _, rfl, rfl, rfl⟩) ?hv631 ?rest631 hck6
    case hv631 =>
     refine ⟨_, rfl, fun hg3 => ?_⟩
     intro E1
     refine (V1.move rfl rfl rfl (ltb rfl) ?_)
     exact rfl
    refine VP.step (p := ?pv632) rfl rfl rfl (⟨_, _, rfl, rfl, rfl⟩) ?hv632 ?rest632 hck6
    case hv632 =>
     refine ⟨_, rfl, fun hg3 => ?_⟩
     intro E1
     refine (V1.move rfl rfl rfl (ltb rfl) ?_)
     exact rfl
    refine VP.step (p := ?pv633) rfl rfl rfl (⟨_, _, rfl, rfl, ⟨_, _, rfl, rfl, rfl⟩⟩) ?hv633 ?rest633 hck6
    case hv633 =>
     refine ⟨_, rfl, fun hg3 => ?_⟩
     intro E1
     refine (V1.indexI rfl rfl esz_92 rfl rfl (hh10 hg3) (ltb rfl) ?_)
     exact rfl
    refine VP.step (p := ?pv634) rfl rfl rfl (⟨_, _, rfl, rfl, rfl⟩) ?hv634 ?rest634 hck6
    case hv634 =>
     refine ⟨_, rfl, fun hg3 => ?_⟩
     intro E1
     refine (V1.fieldPin rfl rfl fo_183_4 rfl (ltb rfl) ?_)
     exact rfl
    refine VP.step (p := ?pv635) rfl rfl rfl (⟨_, _, rfl, rfl, rfl⟩) ?hv635 ?rest635 hck6
    case hv635 =>
     refine ⟨_, rfl, fun hg3 => ?_⟩
     intro E1
     refine (V1.loadPin rfl rfl tyk_3 rfl rfl (ltb rfl) ?_)
     exact rfl
    refine VP.step (p := ?pv636) rfl rfl rfl (⟨_, _, rfl, rfl, ⟨_, _, rfl, rfl, rfl⟩⟩) ?hv636 ?rest636 hck6
    case hv636 =>
     refine ⟨_, rfl, fun hg3 => ?_⟩
     intro E1
     refine (V1.int rfl rfl rfl rfl rfl (ltb rfl) ?_)
     exact rfl
    refine VP.pickOr rfl rfl rfl rfl rfl rfl (trivial) ?_ hck6
    refine VP.step (p := ?pv637) rfl rfl rfl (⟨_, _, rfl, rfl, rfl⟩) ?hv637 ?rest637 hck6
    case hv637 =>
     intro E1
     refine (V1.move rfl rfl rfl (ltb rfl) ?_)
     exact rfl
    refine VP.step (p := ?pv638) rfl rfl rfl (⟨_, _, rfl, rfl, rfl⟩) ?hv638 ?rest638 hck6
    case hv638 =>
     refine ⟨_, rfl, fun hg4 => ?_⟩
     intro E1
     refine (V1.move rfl rfl rfl (ltb rfl) ?_)
     exact rfl
    refine VP.step (p := ?pv639) rfl rfl rfl (⟨_, _, rfl, rfl, rfl⟩) ?hv639 ?rest639 hck6
    case hv639 =>
     refine ⟨_, rfl, fun hg4 => ?_⟩
     intro E1
     refine (V1.move rfl rfl rfl (ltb rfl) ?_)
     exact rfl
    refine VP.step (p := ?pv640) rfl rfl rfl (⟨_, _, rfl, rfl, ⟨_, _, rfl, rfl, rfl⟩⟩) ?hv640 ?rest640 hck6
    case hv640 =>
     refine ⟨_, rfl, fun hg4 => ?_⟩
     intro E1
     refine (V1.indexI rfl rfl esz_92 rfl rfl (hh11 hg4) (ltb rfl) ?_)
     exact rfl
    refine VP.step (p := ?pv641) rfl rfl rfl (⟨_, _, rfl, rfl, rfl⟩) ?hv641 ?rest641 hck6
    case hv641 =>
     refine ⟨_, rfl, fun hg4 => ?_⟩
     intro E1
     refine (V1.fieldPin rfl rfl fo_183_5 rfl (ltb rfl) ?_)
     exact rfl
    refine VP.step (p := ?pv642) rfl rfl rfl (⟨_, _, rfl, rfl, rfl⟩) ?hv642 ?rest642 hck6
    case hv642 =>
     refine ⟨_, rfl, fun hg4 => ?_⟩
     intro E1
     refine (V1.loadPin rfl rfl tyk_3 rfl rfl (ltb rfl) ?_)
     exact rfl
    refine VP.step (p := ?pv643) rfl rfl rfl (⟨_, _, rfl, rfl, rfl⟩) ?hv643 ?rest643 hck6
    case hv643 =>
     refine ⟨_, rfl, fun hg4 => ?_⟩
     intro E1
     refine (V1.move rfl rfl rfl (ltb rfl) ?_)
     exact rfl
    refine VP.step (p := ?pv644) rfl rfl rfl (⟨_, _, rfl, rfl, rfl⟩) ?hv644 ?rest644 hck6
    case hv644 =>
     refine ⟨_, rfl, fun hg4 => ?_⟩
     intro E1
     refine (V1.move rfl rfl rfl (ltb rfl) ?_)
     exact rfl
    refine VP.step (p := ?pv645) rfl rfl rfl (⟨_, _, rfl, rfl, ⟨_, _, rfl, rfl, rfl⟩⟩) ?hv645 ?rest645 hck6
    case hv645 =>
     refine ⟨_, rfl, fun hg4 => ?_⟩
     intro E1
     refine (V1.indexI rfl rfl esz_92 rfl rfl (hh12 hg4) (ltb rfl) ?_)
     exact rfl
    refine VP.step (p := ?pv646) rfl rfl rfl (⟨_, _, rfl, rfl, rfl⟩) ?hv646 ?rest646 hck6
    case hv646 =>
     refine ⟨_, rfl, fun hg4 => ?_⟩
     intro E1
     refine (V1.fieldPin rfl rfl fo_183_5 rfl (ltb rfl) ?_)
     exact rfl
    refine VP.step (p := ?pv647) rfl rfl rfl (⟨_, _, rfl, rfl, rfl⟩) ?hv647 ?rest647 hck6
    case hv647 =>
     refine ⟨_, rfl, fun hg4 => ?_⟩
     intro E1
     refine (V1.loadPin rfl rfl tyk_3 rfl rfl (ltb rfl) ?_)
     exact rfl
    refine VP.step (p := ?pv648) rfl rfl rfl (⟨_, _, rfl, rfl, ⟨_, _, rfl, rfl, rfl⟩⟩) ?hv648 ?rest648 hck6
    case hv648 =>
     refine ⟨_, rfl, fun hg4 => ?_⟩
     intro E1
     refine (V1.int rfl rfl rfl rfl rfl (ltb rfl) ?_)
     exact rfl
    refine VP.pickOr rfl rfl rfl rfl rfl rfl (trivial) ?_ hck6
    refine VP.fin rfl (⟨_, _, rfl, rfl, ⟨_, _, rfl, rfl, ⟨_, _, rfl, rfl, ⟨_, _, rfl, rfl, rfl⟩⟩⟩⟩) ?_
    refine VO.nil ?_
    refine V.cond rfl (fun hc2 => ?_) (fun hc2 => ?_)
    ·
     replace hm1 := cond_t hc2 hm1
     refine V.seq ?_
     refine V.region ?_
     refine VO.cons rfl (V1.assign rfl rfl rfl (ltb rfl) ?_)
     refine VO.nil ?_
     refine V.ret ?_
     obtain rfl := hr1 _ (Option.some.inj hm1).symm
     change some _ = some _ at hm0
     obtain rfl := Option.some.inj hm0
     exact ⟨_, [], ⟨_, _, rfl, rfl, rfl⟩, List.nil_sublist _, rfl, rfl⟩
    ·
     replace hm1 := cond_f hc2 hm1
     refine V.skip ?_
     refine V.region ?_
     refine VO.cons rfl (V1.move rfl rfl rfl (ltb rfl) ?_)
     refine VO.cons rfl (V1.int rfl rfl rfl rfl rfl (ltb rfl) ?_)
     refine VO.cons rfl (V1.assign rfl rfl rfl (ltb rfl) ?_)
     refine VO.nil ?_
     exact ⟨(m0, (IntKind.i64.wrap (i + (1 : Int))), ()), hl1 _ (Option.some.inj hm1).symm, Nat.lt_succ_self _, Keeps.mk (ks := []) rfl ⟨rfl, rfl, rfl, trivial⟩ (rfl) rfl⟩
   ·
    replace hm1 := cond_f hc1 hm1
    refine V.exit ?_
    obtain rfl := hr1 _ (Option.some.inj hm1).symm
    exact ⟨((), ()), rfl, Keeps.mk (ks := []) rfl trivial (rfl) rfl⟩
  ·
   rintro ⟨_, _⟩ rfl
   try dsimp only at hm0
   refine V.seq ?_
   refine V.region ?_
   refine VO.cons rfl (V1.assign rfl rfl rfl (ltb rfl) ?_)
   refine VO.nil ?_
   refine V.ret ?_
   obtain rfl := Option.some.inj hm0
   exact ⟨_, [], ⟨_, _, rfl, rfl, rfl⟩, List.nil_sublist _, rfl, rfl⟩
end Go.Proofs.Ytjbgllhimnopaaa
