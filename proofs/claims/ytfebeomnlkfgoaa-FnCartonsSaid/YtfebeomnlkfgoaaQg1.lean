/- the functions do what their models say -/
import Derived.Test.YtfebeomnlkfgoaaFacts
import Derived.Test.YtfebeomnlkfgoaaSh
import Derived.KernelRfl
import Derived.Test.YtfebeomnlkfgoaaMgM
set_option linter.unusedSimpArgs false
set_option linter.unusedVariables false
set_option maxRecDepth 100000
set_option maxHeartbeats 4000000
namespace Go.Proofs.Ytfebeomnlkfgoaa
open Go.VS
theorem ok_laws_rBig {ρ0 rn : Nat} {code : List Int} {r : Bool} (h : M.laws_rBig code = some r) : Does Try.prog 41 [.vl ρ0 1 (List.map encU8 code)] [] rn (fun x H => x = .bool r ∧ H = []) := by
 have hm0 := h; clear h; unfold M.laws_rBig at hm0
 try dsimp only at hm0
 refine Does.intro (N := 6) Try.func41 rfl rfl rfl rfl ?_
 intro w0 S0
 refine V.seq (V.region (VO.cons rfl (V1.as ?_)))
 refine VO.nil (V.seq (V.region (VO.cons rfl (V1.mv ?_))))
 refine VO.cons rfl (V1.lenMap rfl rfl rfl rfl rfl rfl isl_55 lt0 ?_)
 refine VO.cons rfl (V1.it ?_)
 refine VO.cons rfl (V1.as ?_)
 refine VO.nil (V.ret ?_)
 obtain rfl := oi hm0
 exact ⟨_, [], ⟨_, _, rfl, rfl, rfl⟩, List.nil_sublist _, rfl, rfl⟩
theorem ok_spec_l1Cur_next {ρ0 rn bp : Nat} {c : Cur} {r : Int × Cur} (h : M.spec_l1Cur_next c = some r) : Does Try.prog 121 [.ref bp 3 0 0] [(bp, ⟨3, [encCur ρ0 c]⟩)] rn (fun x H => x = .int .i64 r.1 ∧ H = [(bp, ⟨3, [encCur ρ0 r.2]⟩)]) := by
 have hm0 := h; clear h; unfold M.spec_l1Cur_next at hm0
 try dsimp only at hm0
 refine Does.intro (N := 62) Try.func121 rfl rfl rfl rfl ?_
 intro w0 S0
 refine V.seq (V.region (VO.cons rfl (V1.as ?_)))
 refine VO.nil (V.seq (V.region (VO.cons rfl (V1.as ?_))))
 refine VO.nil (V.seq ?_)
 replace hm0 := bindO hm0; rcases hm0 with ⟨j0, hm1, hm0⟩
 refine V.cutT (D := (Int) × (Unit)) (fun ⟨b_, _⟩ => ⟨62, [(3, .int .i64 b_), (0, .ref bp 3 0 0)], [(bp, ⟨3, [encCur ρ0 c]⟩)]⟩) (fun ⟨b_, _⟩ => (b_ = j0)) ?_ ?_
 ·
  refine V.seq (V.regionM 62 9 [⟨[(0, none)], [], none⟩, ⟨[(4, some 0)], [], none⟩, ⟨[(5, some 0)], [], none⟩, ⟨[(6, some 0)], [], none⟩, ⟨[(0, none)], [], none⟩, ⟨[(8, some 0)], [], none⟩, ⟨[(9, some 0)], [], none⟩, ⟨[(10, some 0)], [], none⟩, ⟨[(11, some 0)], [], none⟩] [(0, none), (3, none), (7, some 5), (12, some 0)] (⟨_, rfl, ⟨_, rfl, ⟨_, rfl, ⟨_, rfl, ⟨_, rfl, ⟨_, rfl, ⟨_, rfl, ⟨_, rfl, ⟨_, rfl, ⟨rfl, rfl⟩⟩⟩⟩⟩⟩⟩⟩⟩⟩) mixed_orders rfl (by decide +kernel) (fun hck2 => ?_))
  refine VP.step (p := ?pv104) rfl rfl rfl (⟨_, _, rfl, rfl, rfl⟩) ?hv104 ?rest104 hck2
  case hv104 =>
   intro E1
   refine (V1.mv ?_)
   exact rfl
  refine VP.step (p := ?pv105) rfl rfl rfl (⟨_, _, rfl, rfl, rfl⟩) ?hv105 ?rest105 hck2
  case hv105 =>
   intro E1
   refine (V1.nilRef rfl rfl rfl lt0 ?_)
   exact rfl
  refine VP.step (p := ?pv106) rfl rfl rfl (⟨_, _, rfl, rfl, rfl⟩) ?hv106 ?rest106 hck2
  case hv106 =>
   intro E1
   refine (V1.fieldRef rfl rfl fo_99_1 rfl lt0 ?_)
   exact rfl
  refine VP.step (p := ?pv107) rfl rfl rfl (⟨_, _, rfl, rfl, rfl⟩) ?hv107 ?rest107 hck2
  case hv107 =>
   intro E1
   refine (V1.loadRef (k := 0) rfl rfl tyk_3 rfl rfl rfl rfl rfl lt0 ?_)
   exact rfl
  refine VP.step (p := ?pv108) rfl rfl rfl (⟨_, _, rfl, rfl, rfl⟩) ?hv108 ?rest108 hck2
  case hv108 =>
   intro E1
   refine (V1.mv ?_)
   exact rfl
  refine VP.step (p := ?pv109) rfl rfl rfl (⟨_, _, rfl, rfl, rfl⟩) ?hv109 ?rest109 hck2
  case hv109 =>
   intro E1
   refine (V1.nilRef rfl rfl rfl lt0 ?_)
   exact rfl
  refine VP.step (p := ?pv110) rfl rfl rfl (⟨_, _, rfl, rfl, rfl⟩) ?hv110 ?rest110 hck2
  case hv110 =>
   intro E1
   refine (V1.fieldRef rfl rfl fo_99_0 rfl lt0 ?_)
   exact rfl
  refine VP.step (p := ?pv111) rfl rfl rfl (⟨_, _, rfl, rfl, rfl⟩) ?hv111 ?rest111 hck2
  case hv111 =>
   intro E1
   refine (V1.loadRef (k := 0) rfl rfl tyk_55 rfl rfl rfl rfl rfl lt0 ?_)
   exact rfl
  refine VP.step (p := ?pv112) rfl rfl rfl (⟨_, _, rfl, rfl, rfl⟩) ?hv112 ?rest112 hck2
  case hv112 =>
   intro E1
   refine (V1.lenMap rfl rfl rfl rfl rfl rfl isl_55 lt0 ?_)
   exact rfl
  refine VP.fin rfl (⟨_, _, rfl, rfl, _, _, rfl, rfl, _, _, rfl, rfl, _, _, rfl, rfl, rfl⟩) ?_
  refine VO.cons rfl (V1.it ?_)
  refine VO.nil (V.cond rfl (fun hc0 => ?_) (fun hc0 => ?_))
  ·
   replace hm1 := cond_t hc0 hm1
   replace hm1 := asrt_some hm1; rcases hm1 with ⟨hh0, hm1⟩
   refine V.regionM 62 8 [⟨[(0, none)], [], none⟩, ⟨[(14, some 0)], [], none⟩, ⟨[(15, some 0)], [], none⟩, ⟨[(16, some 0)], [], none⟩, ⟨[(0, none)], [], none⟩, ⟨[(18, some 0)], [], none⟩, ⟨[(19, some 0)], [], none⟩, ⟨[(20, some 0)], [], none⟩] [(0, none), (17, some 4), (21, some 0)] (⟨_, rfl, ⟨_, rfl, ⟨_, rfl, ⟨_, rfl, ⟨_, rfl, ⟨_, rfl, ⟨_, rfl, ⟨_, rfl, ⟨rfl, rfl⟩⟩⟩⟩⟩⟩⟩⟩⟩) mixed_orders rfl (by decide +kernel) (fun hck3 => ?_)
   refine VP.step (p := ?pv113) rfl rfl rfl (⟨_, _, rfl, rfl, rfl⟩) ?hv113 ?rest113 hck3
   case hv113 =>
    intro E1
    refine (V1.mv ?_)
    exact rfl
   refine VP.step (p := ?pv114) rfl rfl rfl (⟨_, _, rfl, rfl, rfl⟩) ?hv114 ?rest114 hck3
   case hv114 =>
    intro E1
    refine (V1.nilRef rfl rfl rfl lt0 ?_)
    exact rfl
   refine VP.step (p := ?pv115) rfl rfl rfl (⟨_, _, rfl, rfl, rfl⟩) ?hv115 ?rest115 hck3
   case hv115 =>
    intro E1
    refine (V1.fieldRef rfl rfl fo_99_0 rfl lt0 ?_)
    exact rfl
   refine VP.step (p := ?pv116) rfl rfl rfl (⟨_, _, rfl, rfl, rfl⟩) ?hv116 ?rest116 hck3
   case hv116 =>
    intro E1
    refine (V1.loadRef (k := 0) rfl rfl tyk_55 rfl rfl rfl rfl rfl lt0 ?_)
    exact rfl
   refine VP.step (p := ?pv117) rfl rfl rfl (⟨_, _, rfl, rfl, rfl⟩) ?hv117 ?rest117 hck3
   case hv117 =>
    intro E1
    refine (V1.mv ?_)
    exact rfl
   refine VP.step (p := ?pv118) rfl rfl rfl (⟨_, _, rfl, rfl, rfl⟩) ?hv118 ?rest118 hck3
   case hv118 =>
    intro E1
    refine (V1.nilRef rfl rfl rfl lt0 ?_)
    exact rfl
   refine VP.step (p := ?pv119) rfl rfl rfl (⟨_, _, rfl, rfl, rfl⟩) ?hv119 ?rest119 hck3
   case hv119 =>
    intro E1
    refine (V1.fieldRef rfl rfl fo_99_1 rfl lt0 ?_)
    exact rfl
   refine VP.step (p := ?pv120) rfl rfl rfl (⟨_, _, rfl, rfl, rfl⟩) ?hv120 ?rest120 hck3
   case hv120 =>
    intro E1
    refine (V1.loadRef (k := 0) rfl rfl tyk_3 rfl rfl rfl rfl rfl lt0 ?_)
    exact rfl
   refine VP.fin rfl (⟨_, _, rfl, rfl, _, _, rfl, rfl, _, _, rfl, rfl, rfl⟩) ?_
   refine VO.cons rfl (V1.indexI rfl rfl esz_55 rfl rfl hh0 lt0 ?_)
   refine VO.cons rfl (V1.loadPin rfl rfl tyk_5 rfl rfl lt0 ?_)
   refine VO.cons rfl (V1.conv rfl rfl und_5 und_3 rfl lt0 ?_)
   refine VO.cons rfl (V1.as ?_)
   refine VO.nil ?_
   exact ⟨((IntKind.i64.wrap (c.Code.getD (Int.toNat c.At) default)), ()), oi hm1, Keeps.mk (ks := [0]) rfl ⟨rfl, rfl, trivial⟩ (⟨_, _, rfl, rfl, rfl⟩) rfl⟩
  ·
   replace hm1 := cond_f hc0 hm1
   refine V.skip ?_
   exact ⟨((0 : Int), ()), oi hm1, Keeps.mk (ks := [0]) rfl ⟨rfl, rfl, trivial⟩ (⟨_, _, rfl, rfl, rfl⟩) rfl⟩
 ·
  rintro ⟨b_, _⟩ rfl
  try dsimp only at hm0
  refine V.seq (V.region (VO.cons rfl (V1.mv ?_)))
  refine VO.cons rfl (V1.nilRef rfl rfl rfl lt0 ?_)
  refine VO.cons rfl (V1.fieldRef rfl rfl fo_99_1 rfl lt0 ?_)
  refine VO.cons rfl (V1.loadRef (k := 0) rfl rfl tyk_3 rfl rfl rfl rfl rfl lt0 ?_)
  refine VO.cons rfl (V1.it ?_)
  refine VO.cons rfl (V1.nilRef rfl rfl rfl lt0 ?_)
  refine VO.cons rfl (V1.fieldRef rfl rfl fo_99_1 rfl lt0 ?_)
  refine VO.cons rfl (V1.storeRef (k := 0) rfl rfl tyk_3 rfl rfl rfl rfl rfl rfl rfl rfl rfl ?_)
  refine VO.nil (V.keep 62 [0, 3] [0] (E0 := [(0, .ref bp 3 0 0), (3, .int .i64 b_)]) (H0 := [(bp, ⟨3, [.agg [.vl ρ0 1 (List.map encU8 c.Code), .int .i64 (IntKind.i64.wrap (c.At + (1 : Int))), .int .u64 c.Seed]]⟩)]) rfl (⟨_, _, rfl, rfl, _, _, rfl, rfl, rfl⟩) (⟨_, _, rfl, rfl, rfl⟩) rfl ?_)
  refine V.seq (V.region (VO.cons rfl (V1.mv ?_)))
  refine VO.cons rfl (V1.mv ?_)
  refine VO.cons rfl (V1.nilRef rfl rfl rfl lt0 ?_)
  refine VO.cons rfl (V1.fieldRef rfl rfl fo_99_2 rfl lt0 ?_)
  refine VO.cons rfl (V1.loadRef (k := 0) rfl rfl tyk_97 rfl rfl rfl rfl rfl lt0 ?_)
  refine VO.cons rfl (V1.it ?_)
  refine VO.cons rfl (V1.mv ?_)
  refine VO.cons rfl (V1.conv rfl rfl und_3 und_97 rfl lt0 ?_)
  refine VO.cons rfl (V1.it ?_)
  refine VO.cons rfl (V1.it ?_)
  refine VO.cons rfl (V1.nilRef rfl rfl rfl lt0 ?_)
  refine VO.cons rfl (V1.fieldRef rfl rfl fo_99_2 rfl lt0 ?_)
  refine VO.cons rfl (V1.storeRef (k := 0) rfl rfl tyk_97 rfl rfl rfl rfl rfl rfl rfl rfl rfl ?_)
  refine VO.nil (V.keep 62 [0, 3] [0] (E0 := [(0, .ref bp 3 0 0), (3, .int .i64 b_)]) (H0 := [(bp, ⟨3, [.agg [.vl ρ0 1 (List.map encU8 c.Code), .int .i64 (IntKind.i64.wrap (c.At + (1 : Int))), .int .u64 (IntKind.u64.wrap ((IntKind.u64.wrap ((IntKind.u64.wrap (c.Seed * (6364136223846793005 : Int))) + (IntKind.u64.wrap b_))) + (103535 : Int)))]]⟩)]) rfl (⟨_, _, rfl, rfl, _, _, rfl, rfl, rfl⟩) (⟨_, _, rfl, rfl, rfl⟩) rfl ?_)
  refine V.seq (V.seq (V.regionM 62 9 [⟨[(0, none)], [], none⟩, ⟨[(44, some 0)], [], none⟩, ⟨[(45, some 0)], [], none⟩, ⟨[(46, some 0)], [], none⟩, ⟨[(0, none)], [], none⟩, ⟨[(48, some 0)], [], none⟩, ⟨[(49, some 0)], [], none⟩, ⟨[(50, some 0)], [], none⟩, ⟨[(51, some 0)], [], none⟩] [(0, none), (3, none), (47, some 5), (52, some 0)] (⟨_, rfl, ⟨_, rfl, ⟨_, rfl, ⟨_, rfl, ⟨_, rfl, ⟨_, rfl, ⟨_, rfl, ⟨_, rfl, ⟨_, rfl, ⟨rfl, rfl⟩⟩⟩⟩⟩⟩⟩⟩⟩⟩) mixed_orders rfl (by decide +kernel) (fun hck6 => ?_)))
  refine VP.step (p := ?pv121) rfl rfl rfl (⟨_, _, rfl, rfl, rfl⟩) ?hv121 ?rest121 hck6
  case hv121 =>
   intro E1
   refine (V1.mv ?_)
   exact rfl
  refine VP.step (p := ?pv122) rfl rfl rfl (⟨_, _, rfl, rfl, rfl⟩) ?hv122 ?rest122 hck6
  case hv122 =>
   intro E1
   refine (V1.nilRef rfl rfl rfl lt0 ?_)
   exact rfl
  refine VP.step (p := ?pv123) rfl rfl rfl (⟨_, _, rfl, rfl, rfl⟩) ?hv123 ?rest123 hck6
  case hv123 =>
   intro E1
   refine (V1.fieldRef rfl rfl fo_99_1 rfl lt0 ?_)
   exact rfl
  refine VP.step (p := ?pv124) rfl rfl rfl (⟨_, _, rfl, rfl, rfl⟩) ?hv124 ?rest124 hck6
  case hv124 =>
   intro E1
   refine (V1.loadRef (k := 0) rfl rfl tyk_3 rfl rfl rfl rfl rfl lt0 ?_)
   exact rfl
  refine VP.step (p := ?pv125) rfl rfl rfl (⟨_, _, rfl, rfl, rfl⟩) ?hv125 ?rest125 hck6
  case hv125 =>
   intro E1
   refine (V1.mv ?_)
   exact rfl
  refine VP.step (p := ?pv126) rfl rfl rfl (⟨_, _, rfl, rfl, rfl⟩) ?hv126 ?rest126 hck6
  case hv126 =>
   intro E1
   refine (V1.nilRef rfl rfl rfl lt0 ?_)
   exact rfl
  refine VP.step (p := ?pv127) rfl rfl rfl (⟨_, _, rfl, rfl, rfl⟩) ?hv127 ?rest127 hck6
  case hv127 =>
   intro E1
   refine (V1.fieldRef rfl rfl fo_99_0 rfl lt0 ?_)
   exact rfl
  refine VP.step (p := ?pv128) rfl rfl rfl (⟨_, _, rfl, rfl, rfl⟩) ?hv128 ?rest128 hck6
  case hv128 =>
   intro E1
   refine (V1.loadRef (k := 0) rfl rfl tyk_55 rfl rfl rfl rfl rfl lt0 ?_)
   exact rfl
  refine VP.step (p := ?pv129) rfl rfl rfl (⟨_, _, rfl, rfl, rfl⟩) ?hv129 ?rest129 hck6
  case hv129 =>
   intro E1
   refine (V1.lenMap rfl rfl rfl rfl rfl rfl isl_55 lt0 ?_)
   exact rfl
  refine VP.fin rfl (⟨_, _, rfl, rfl, _, _, rfl, rfl, _, _, rfl, rfl, _, _, rfl, rfl, rfl⟩) ?_
  refine VO.cons rfl (V1.it ?_)
  refine VO.nil (V.cond rfl (fun hc1 => ?_) (fun hc1 => ?_))
  ·
   replace hm0 := cond_t hc1 hm0
   refine V.seq (V.region (VO.cons rfl (V1.mv ?_)))
   refine VO.cons rfl (V1.as ?_)
   refine VO.nil (V.ret ?_)
   obtain rfl := oi hm0
   exact ⟨_, _, ⟨_, _, rfl, rfl, rfl⟩, (sub1 (k := 0) rfl), rfl, rfl⟩
  ·
   replace hm0 := cond_f hc1 hm0
   refine V.skip ?_
   refine V.keep 62 [0] [0] (E0 := [(0, .ref bp 3 0 0)]) (H0 := [(bp, ⟨3, [.agg [.vl ρ0 1 (List.map encU8 c.Code), .int .i64 (IntKind.i64.wrap (c.At + (1 : Int))), .int .u64 (IntKind.u64.wrap ((IntKind.u64.wrap ((IntKind.u64.wrap (c.Seed * (6364136223846793005 : Int))) + (IntKind.u64.wrap b_))) + (103535 : Int)))]]⟩)]) rfl (⟨_, _, rfl, rfl, rfl⟩) (⟨_, _, rfl, rfl, rfl⟩) rfl ?_
   refine V.seq (V.region (VO.cons rfl (V1.mv ?_)))
   refine VO.cons rfl (V1.nilRef rfl rfl rfl lt0 ?_)
   refine VO.cons rfl (V1.fieldRef rfl rfl fo_99_2 rfl lt0 ?_)
   refine VO.cons rfl (V1.loadRef (k := 0) rfl rfl tyk_97 rfl rfl rfl rfl rfl lt0 ?_)
   refine VO.cons rfl (V1.shr rfl rfl rfl rfl (by decide) lt0 ?_)
   refine VO.cons rfl (V1.it ?_)
   refine VO.cons rfl (V1.conv rfl rfl und_97 und_3 rfl lt0 ?_)
   refine VO.cons rfl (V1.as ?_)
   refine VO.nil (V.ret ?_)
   obtain rfl := oi hm0
   exact ⟨_, _, ⟨_, _, rfl, rfl, rfl⟩, (sub1 (k := 0) rfl), rfl, rfl⟩
theorem ok_spec_l1Cur_pick {ρ0 rn bp : Nat} {c : Cur} {n : Int} {r : Int × Cur} (h : M.spec_l1Cur_pick c n = some r) : Does Try.prog 94 [.ref bp 3 0 0, .int .i64 n] [(bp, ⟨3, [encCur ρ0 c]⟩)] rn (fun x H => x = .int .i64 r.1 ∧ H = [(bp, ⟨3, [encCur ρ0 r.2]⟩)]) := by
 have hm0 := h; clear h; unfold M.spec_l1Cur_pick at hm0
 try dsimp only at hm0
 refine Does.intro (N := 20) Try.func94 rfl rfl rfl rfl ?_
 intro w0 S0
 refine V.seq (V.region (VO.cons rfl (V1.as ?_)))
 refine VO.nil (V.seq (V.seq (V.region (VO.cons rfl (V1.mv ?_)))))
 refine VO.cons rfl (V1.it ?_)
 refine VO.nil (V.cond rfl (fun hc0 => ?_) (fun hc0 => ?_))
 ·
  replace hm0 := cond_t hc0 hm0
  refine V.seq (V.region (VO.cons rfl (V1.as ?_)))
  refine VO.nil (V.ret ?_)
  obtain rfl := oi hm0
  exact ⟨_, _, ⟨_, _, rfl, rfl, rfl⟩, (sub1 (k := 0) rfl), rfl, rfl⟩
 ·
  replace hm0 := cond_f hc0 hm0
  refine V.skip ?_
  refine V.seq ?_
  replace hm0 := bindO hm0; rcases hm0 with ⟨y0, hh0, hm0⟩
  refine V.region (VO.cons rfl (V1.mv ?_))
  refine VO.cons rfl (V1.callM 0 (rn + ρ0 + 1) [] [.ref bp 3 0 0] (p := (bp, ⟨3, [encCur ρ0 c]⟩)) rfl rfl rfl cok_121 rfl rfl ⟨_, _, rfl, .same _, rfl⟩ bwNil (ok_spec_l1Cur_next hh0) rfl (.inl rfl) lt0 ?_)
  rintro _ _ ⟨rfl, rfl⟩
  refine VO.cons rfl (V1.as ?_)
  refine VO.nil (V.keep 20 [0, 1, 5] [0] (E0 := [(0, .ref bp 3 0 0), (1, .int .i64 n), (5, .int .i64 y0.1)]) (H0 := [(bp, ⟨3, [encCur ρ0 y0.2]⟩)]) rfl (⟨_, _, rfl, rfl, _, _, rfl, rfl, _, _, rfl, rfl, rfl⟩) (⟨_, _, rfl, rfl, rfl⟩) rfl ?_)
  refine V.seq ?_
  replace hm0 := bindO hm0; rcases hm0 with ⟨j0, hm1, hm0⟩
  refine V.cutT (D := (Int × Cur) × (Unit)) (fun ⟨⟨x, c_⟩, _⟩ => ⟨20, [(5, .int .i64 x), (1, .int .i64 n)], [(bp, ⟨3, [encCur ρ0 c_]⟩)]⟩) (fun ⟨⟨x, c_⟩, _⟩ => ((x, c_) = j0)) ?_ ?_
  ·
   refine V.seq (V.region (VO.cons rfl (V1.mv ?_)))
   refine VO.cons rfl (V1.it ?_)
   refine VO.nil (V.cond rfl (fun hc1 => ?_) (fun hc1 => ?_))
   ·
    replace hm1 := cond_t hc1 hm1
    replace hm1 := bindO hm1; rcases hm1 with ⟨y1, hh1, hm1⟩
    refine V.region (VO.cons rfl (V1.mv ?_))
    refine VO.cons rfl (V1.it ?_)
    refine VO.cons rfl (V1.mv ?_)
    refine VO.cons rfl (V1.callM 0 (rn + ρ0 + 1) [] [.ref bp 3 0 0] (p := (bp, ⟨3, [encCur ρ0 y0.2]⟩)) rfl rfl rfl cok_121 rfl rfl ⟨_, _, rfl, .same _, rfl⟩ bwNil (ok_spec_l1Cur_next hh1) rfl (.inl rfl) lt0 ?_)
    rintro _ _ ⟨rfl, rfl⟩
    refine VO.cons rfl (V1.it ?_)
    refine VO.cons rfl (V1.as ?_)
    refine VO.nil ?_
    exact ⟨(((IntKind.i64.wrap ((IntKind.i64.wrap (y0.1 * (256 : Int))) + y1.1)), y1.2), ()), oi hm1, Keeps.mk (ks := [0]) rfl ⟨rfl, rfl, trivial⟩ (⟨_, _, rfl, rfl, rfl⟩) rfl⟩
   ·
    replace hm1 := cond_f hc1 hm1
    refine V.skip ?_
    exact ⟨((y0.1, y0.2), ()), oi hm1, Keeps.mk (ks := [0]) rfl ⟨rfl, rfl, trivial⟩ (⟨_, _, rfl, rfl, rfl⟩) rfl⟩
  ·
   rintro ⟨⟨x, c_⟩, _⟩ rfl
   try dsimp only at hm0
   refine V.seq ?_
   replace hm0 := asrt_some hm0; rcases hm0 with ⟨hh2, hm0⟩
   refine V.region (VO.cons rfl (V1.mv ?_))
   refine VO.cons rfl (V1.mv ?_)
   refine VO.cons rfl (V1.rem rfl rfl rfl rfl (hh2) lt0 ?_)
   refine VO.cons rfl (V1.as ?_)
   refine VO.nil (V.ret ?_)
   obtain rfl := oi hm0
   exact ⟨_, _, ⟨_, _, rfl, rfl, rfl⟩, (sub1 (k := 0) rfl), rfl, rfl⟩
theorem ok_spec_l1Cur_among {ρ0 ρ1 rn bp : Nat} {c : Cur} {list : List Int} {r : Int × Cur} (h : M.spec_l1Cur_among c list = some r) : Does Try.prog 93 [.ref bp 3 0 0, .vl ρ1 1 (List.map encInt list)] [(bp, ⟨3, [encCur ρ0 c]⟩)] rn (fun x H => x = .int .i64 r.1 ∧ H = [(bp, ⟨3, [encCur ρ0 r.2]⟩)]) := by
 have hm0 := h; clear h; unfold M.spec_l1Cur_among at hm0
 try dsimp only at hm0
 refine Does.intro (N := 12) Try.func93 rfl rfl rfl rfl ?_
 intro w0 S0
 refine V.seq (V.region (VO.cons rfl (V1.as ?_)))
 refine VO.nil (V.seq ?_)
 replace hm0 := bindO hm0; rcases hm0 with ⟨y0, hh0, hm0⟩
 replace hm0 := asrt_some hm0; rcases hm0 with ⟨hh1, hm0⟩
 refine V.region (VO.cons rfl (V1.mv ?_))
 refine VO.cons rfl (V1.mv ?_)
 refine VO.cons rfl (V1.mv ?_)
 refine VO.cons rfl (V1.lenMap rfl rfl rfl rfl rfl rfl isl_36 lt0 ?_)
 refine VO.cons rfl (V1.callM 0 (rn + ρ0 + 1) [] [.ref bp 3 0 0, .int .i64 (list.length : Int)] (p := (bp, ⟨3, [encCur ρ0 c]⟩)) rfl rfl rfl cok_94 rfl rfl ⟨_, _, rfl, .same _, ⟨_, _, rfl, .same _, rfl⟩⟩ bwNil (ok_spec_l1Cur_pick hh0) rfl (.inl rfl) lt0 ?_)
 rintro _ _ ⟨rfl, rfl⟩
 refine VO.cons rfl (V1.indexI rfl rfl esz_36 rfl rfl hh1 lt0 ?_)
 refine VO.cons rfl (V1.loadPin rfl rfl tyk_3 rfl rfl lt0 ?_)
 refine VO.cons rfl (V1.as ?_)
 refine VO.nil (V.ret ?_)
 obtain rfl := oi hm0
 exact ⟨_, _, ⟨_, _, rfl, rfl, rfl⟩, (sub1 (k := 0) rfl), rfl, rfl⟩
theorem ok_spec_l1Cur_carton {ρ0 rn bp : Nat} {c : Cur} {id_ : Int} {first : Int} {r : Carton × Cur} (h : M.spec_l1Cur_carton c id_ first = some r) : Does Try.prog 116 [.ref bp 3 0 0, .int .i64 id_, .int .i64 first] [(bp, ⟨3, [encCur ρ0 c]⟩)] rn (fun x H => x = encCarton rn r.1 ∧ H = [(bp, ⟨3, [encCur ρ0 r.2]⟩)]) := by
 have hm0 := h; clear h; unfold M.spec_l1Cur_carton at hm0
 try dsimp only at hm0
 refine Does.intro (N := 91) Try.func116 rfl rfl rfl rfl ?_
 intro w0 S0
 refine V.seq (V.region (VO.cons rfl (V1.alloc rfl rfl zk_67 lt0 ?_)))
 intro b0
 refine VO.nil (V.seq ?_)
 replace hm0 := bindO hm0; rcases hm0 with ⟨y0, hh0, hm0⟩
 replace hm0 := bindO hm0; rcases hm0 with ⟨y1, hh1, hm0⟩
 replace hm0 := bindO hm0; rcases hm0 with ⟨y2, hh2, hm0⟩
 refine V.region (VO.cons rfl (V1.mv ?_))
 refine VO.cons rfl (V1.mv ?_)
 refine VO.cons rfl (V1.buildSliceT (f := encInt) ([(1 : Int), (1 : Int), (2 : Int), (30 : Int)] : List Int) rfl rfl esz_36 zk_3 rfl rfl rfl rfl rfl rfl rfl lt0 ?_)
 intro b1
 refine VO.cons rfl (V1.callM 2 (rn + ρ0 + 1) [b1] [.ref bp 3 0 0, .vl (rn + ρ0 + 1) 1 (List.map encInt ([(1 : Int), (1 : Int), (2 : Int), (30 : Int)] : List Int))] (p := (bp, ⟨3, [encCur ρ0 c]⟩)) rfl rfl rfl cok_93 rfl rfl ⟨_, _, rfl, .same _, ⟨_, _, rfl, Lend.srMap 0 rfl (fun _ => rfl) (.head _), rfl⟩⟩ (bwCons (k := 0) rfl bwNil) (ok_spec_l1Cur_among hh0) rfl (.inr ⟨(by first | omega | (dsimp only; omega)), by rintro _ _ ⟨rfl, rfl⟩; exact ⟨by simp [PV.no, PV.noL, optS_no, noL_iff, nbeq] <;> omega, by intro b ob h; first | exact optH_no (noL_map (fun _ => by simp [PV.no, PV.noL, noL_iff, nbeq]) _) b ob h | (simp only [List.append_assoc, List.mem_append, List.mem_cons, List.mem_singleton, List.not_mem_nil, or_false, Prod.mk.injEq] at h; rcases h with ⟨rfl, rfl⟩ | ⟨rfl, rfl⟩ <;> first | exact noL_map (fun _ => by simp [PV.no, PV.noL, noL_iff, nbeq]) _ | (simp [PV.no, PV.noL, optS_no, noL_iff, nbeq] <;> omega)) | (simp at h; obtain ⟨rfl, rfl⟩ := h; exact noL_map (fun _ => by simp [PV.no, PV.noL, noL_iff, nbeq]) _) | (simp at h; obtain ⟨rfl, rfl⟩ := h; simp [PV.no, PV.noL, optS_no, noL_iff, nbeq] <;> omega)⟩⟩) lt0 ?_)
 rintro _ _ ⟨rfl, rfl⟩
 refine VO.cons rfl (V1.mv ?_)
 refine VO.cons rfl (V1.buildSliceT (f := encInt) ([(1 : Int), (1 : Int), (2 : Int), (9 : Int)] : List Int) rfl rfl esz_36 zk_3 rfl rfl rfl rfl rfl rfl rfl lt0 ?_)
 intro b2
 refine VO.cons rfl (V1.callM 1 (rn + ρ0 + 1) [b2] [.ref bp 3 0 0, .vl (rn + ρ0 + 1) 1 (List.map encInt ([(1 : Int), (1 : Int), (2 : Int), (9 : Int)] : List Int))] (p := (bp, ⟨3, [encCur ρ0 y0.2]⟩)) rfl rfl rfl cok_93 rfl rfl ⟨_, _, rfl, .same _, ⟨_, _, rfl, Lend.srMap 0 rfl (fun _ => rfl) (.head _), rfl⟩⟩ (bwCons (k := 0) rfl bwNil) (ok_spec_l1Cur_among hh1) rfl (.inr ⟨(by first | omega | (dsimp only; omega)), by rintro _ _ ⟨rfl, rfl⟩; exact ⟨by simp [PV.no, PV.noL, optS_no, noL_iff, nbeq] <;> omega, by intro b ob h; first | exact optH_no (noL_map (fun _ => by simp [PV.no, PV.noL, noL_iff, nbeq]) _) b ob h | (simp only [List.append_assoc, List.mem_append, List.mem_cons, List.mem_singleton, List.not_mem_nil, or_false, Prod.mk.injEq] at h; rcases h with ⟨rfl, rfl⟩ | ⟨rfl, rfl⟩ <;> first | exact noL_map (fun _ => by simp [PV.no, PV.noL, noL_iff, nbeq]) _ | (simp [PV.no, PV.noL, optS_no, noL_iff, nbeq] <;> omega)) | (simp at h; obtain ⟨rfl, rfl⟩ := h; exact noL_map (fun _ => by simp [PV.no, PV.noL, noL_iff, nbeq]) _) | (simp at h; obtain ⟨rfl, rfl⟩ := h; simp [PV.no, PV.noL, optS_no, noL_iff, nbeq] <;> omega)⟩⟩) lt0 ?_)
 rintro _ _ ⟨rfl, rfl⟩
 refine VO.cons rfl (V1.mv ?_)
 refine VO.cons rfl (V1.buildSliceT (f := encInt) ([(1 : Int), (10 : Int), (20 : Int), (30 : Int), (40 : Int)] : List Int) rfl rfl esz_36 zk_3 rfl rfl rfl rfl rfl rfl rfl lt0 ?_)
 intro b3
 refine VO.cons rfl (V1.callM 1 (rn + ρ0 + 1) [b3] [.ref bp 3 0 0, .vl (rn + ρ0 + 1) 1 (List.map encInt ([(1 : Int), (10 : Int), (20 : Int), (30 : Int), (40 : Int)] : List Int))] (p := (bp, ⟨3, [encCur ρ0 y1.2]⟩)) rfl rfl rfl cok_93 rfl rfl ⟨_, _, rfl, .same _, ⟨_, _, rfl, Lend.srMap 0 rfl (fun _ => rfl) (.head _), rfl⟩⟩ (bwCons (k := 0) rfl bwNil) (ok_spec_l1Cur_among hh2) rfl (.inr ⟨(by first | omega | (dsimp only; omega)), by rintro _ _ ⟨rfl, rfl⟩; exact ⟨by simp [PV.no, PV.noL, optS_no, noL_iff, nbeq] <;> omega, by intro b ob h; first | exact optH_no (noL_map (fun _ => by simp [PV.no, PV.noL, noL_iff, nbeq]) _) b ob h | (simp only [List.append_assoc, List.mem_append, List.mem_cons, List.mem_singleton, List.not_mem_nil, or_false, Prod.mk.injEq] at h; rcases h with ⟨rfl, rfl⟩ | ⟨rfl, rfl⟩ <;> first | exact noL_map (fun _ => by simp [PV.no, PV.noL, noL_iff, nbeq]) _ | (simp [PV.no, PV.noL, optS_no, noL_iff, nbeq] <;> omega)) | (simp at h; obtain ⟨rfl, rfl⟩ := h; exact noL_map (fun _ => by simp [PV.no, PV.noL, noL_iff, nbeq]) _) | (simp at h; obtain ⟨rfl, rfl⟩ := h; simp [PV.no, PV.noL, optS_no, noL_iff, nbeq] <;> omega)⟩⟩) lt0 ?_)
 rintro _ _ ⟨rfl, rfl⟩
 refine VO.cons rfl (V1.build rfl rfl zk_67 pl_67 rfl rfl lt0 ?_)
 refine VO.cons rfl (V1.alloc rfl rfl zk_67 lt0 ?_)
 intro b4
 refine VO.cons rfl (V1.storeRefAll (k := 0) rfl rfl tyk_67 rfl rfl rfl rfl rfl rfl ?_)
 refine VO.nil (V.keep 91 [0, 2, 6, 7] [0, 1, 5] (E0 := [(0, .ref bp 3 0 0), (2, .int .i64 first), (6, .ref b0 5 0 0), (7, .ref b4 5 0 0)]) (H0 := [(b4, ⟨5, [.agg [.int .i64 id_, .int .i64 y0.1, .int .i64 y1.1, .nils, .int .i64 y2.1]]⟩), (bp, ⟨3, [encCur ρ0 y2.2]⟩), (b0, ⟨5, [.agg [.int .i64 (0 : Int), .int .i64 (0 : Int), .int .i64 (0 : Int), .nils, .int .i64 (0 : Int)]]⟩)]) rfl (⟨_, _, rfl, rfl, _, _, rfl, rfl, _, _, rfl, rfl, _, _, rfl, rfl, rfl⟩) (⟨_, _, rfl, rfl, _, _, rfl, rfl, _, _, rfl, rfl, rfl⟩) rfl ?_)
 refine V.seq (V.seq ?_)
 replace hm0 := bindO hm0; rcases hm0 with ⟨y3, hh3, hm0⟩
 refine V.region (VO.cons rfl (V1.mv ?_))
 refine VO.cons rfl (V1.callM 1 (rn + ρ0 + 1) [] [.ref bp 3 0 0, .int .i64 (6 : Int)] (p := (bp, ⟨3, [encCur ρ0 y2.2]⟩)) rfl rfl rfl cok_94 rfl rfl ⟨_, _, rfl, .same _, ⟨_, _, rfl, .same _, rfl⟩⟩ bwNil (ok_spec_l1Cur_pick hh3) rfl (.inl rfl) lt0 ?_)
 rintro _ _ ⟨rfl, rfl⟩
 refine VO.cons rfl (V1.as ?_)
 refine VO.nil ?_
 replace hm0 := bindO hm0; rcases hm0 with ⟨e0, he1, hm0⟩
 refine V.cutT (D := (Int × List Int × Cur) × (Option Nat)) (fun ⟨⟨first0, x_Files, c_⟩, ob0⟩ => ⟨91, [(2, .int .i64 first0), (0, .ref bp 3 0 0), (6, .ref b0 5 0 0), (7, .ref b4 5 0 0)], optH 1 ob0 (List.map encInt x_Files) ++ [(bp, ⟨3, [encCur ρ0 c_]⟩)] ++ [(b4, ⟨5, [.agg [.int .i64 id_, .int .i64 y0.1, .int .i64 y1.1, optS 1 ob0 (List.length x_Files), .int .i64 y2.1]]⟩)] ++ [(b0, ⟨5, [.agg [.int .i64 (0 : Int), .int .i64 (0 : Int), .int .i64 (0 : Int), .nils, .int .i64 (0 : Int)]]⟩)]⟩) (fun ⟨⟨first0, x_Files, c_⟩, ob0⟩ => ((first0, x_Files, c_) = e0) ∧ (ob0 = none → x_Files = [])) ?_ ?_
 ·
  refine V.block ?_
  refine V.keep 91 [2, 8, 0, 6, 7] [0, 1, 2] (E0 := [(2, .int .i64 first), (8, .int .i64 y3.1), (0, .ref bp 3 0 0), (6, .ref b0 5 0 0), (7, .ref b4 5 0 0)]) (H0 := [(bp, ⟨3, [encCur ρ0 y3.2]⟩), (b4, ⟨5, [.agg [.int .i64 id_, .int .i64 y0.1, .int .i64 y1.1, .nils, .int .i64 y2.1]]⟩), (b0, ⟨5, [.agg [.int .i64 (0 : Int), .int .i64 (0 : Int), .int .i64 (0 : Int), .nils, .int .i64 (0 : Int)]]⟩)]) rfl (⟨_, _, rfl, rfl, _, _, rfl, rfl, _, _, rfl, rfl, _, _, rfl, rfl, _, _, rfl, rfl, rfl⟩) (⟨_, _, rfl, rfl, _, _, rfl, rfl, _, _, rfl, rfl, rfl⟩) rfl ?_
  refine V.loopE (D := Nat × (Int × Int × List Int × Cur) × (Option Nat)) (fun ⟨n0, ⟨first1, n_, x_Files0, c_0⟩, ob1⟩ => [(2, .int .i64 first1), (8, .int .i64 n_)]) (fun ⟨n0, ⟨first1, n_, x_Files0, c_0⟩, ob1⟩ => optH 1 ob1 (List.map encInt x_Files0) ++ [(bp, ⟨3, [encCur ρ0 c_0]⟩)] ++ [(b4, ⟨5, [.agg [.int .i64 id_, .int .i64 y0.1, .int .i64 y1.1, optS 1 ob1 (List.length x_Files0), .int .i64 y2.1]]⟩)]) (fun ⟨n0, ⟨first1, n_, x_Files0, c_0⟩, ob1⟩ => loopO (M.spec_l1Cur_carton_l0) n0 (first1, n_, x_Files0, c_0) = some e0 ∧ (ob1 = none → x_Files0 = [])) (fun ⟨n0, _, _⟩ => n0) (rounds, (first, y3.1, ([] : List Int), y3.2), none) rfl ⟨he1, (fun _ => rfl)⟩ ?_
  rintro ⟨n0, ⟨first1, n_, x_Files0, c_0⟩, ob1⟩ ⟨hP0, hob1⟩
  obtain ⟨m0, y4, rfl, hm1, hl1, hr1⟩ := loop_head hP0
  unfold M.spec_l1Cur_carton_l0 at hm1; dsimp only at hm1
  rcases ob1 with _ | ob1
  ·
   replace hob1 := hob1 rfl
   show V _ _ _ ⟨91, [(2, .int .i64 first1), (8, .int .i64 n_), (0, .ref bp 3 0 0), (6, .ref b0 5 0 0), (7, .ref b4 5 0 0)], [(bp, ⟨3, [encCur ρ0 c_0]⟩), (b4, ⟨5, [.agg [.int .i64 id_, .int .i64 y0.1, .int .i64 y1.1, .nils, .int .i64 y2.1]]⟩), (b0, ⟨5, [.agg [.int .i64 (0 : Int), .int .i64 (0 : Int), .int .i64 (0 : Int), .nils, .int .i64 (0 : Int)]]⟩)]⟩
   refine V.seq (V.seq (V.region (VO.cons rfl (V1.mv ?_))))
   refine VO.cons rfl (V1.it ?_)
   refine VO.nil (V.cond rfl (fun hc0 => ?_) (fun hc0 => ?_))
   ·
    replace hm1 := cond_t hc0 hm1
    refine V.skip ?_
    refine V.seq (V.block ?_)
    refine V.seq ?_
    replace hm1 := asrt_some hm1; rcases hm1 with ⟨hh4, hm1⟩
    refine V.region (VO.cons rfl (V1.fieldRef rfl rfl fo_67_3 rfl lt0 ?_))
    refine VO.cons rfl (V1.loadRef (k := 1) rfl rfl tyk_36 rfl rfl rfl rfl rfl lt0 ?_)
    refine VO.cons rfl (V1.mv ?_)
    refine VO.cons rfl (V1.buildSliceT (f := encInt) ([first1] : List Int) rfl rfl esz_36 zk_3 rfl rfl rfl rfl rfl rfl rfl lt0 ?_)
    intro b5
    refine VO.cons rfl (V1.appendNilE (f := encInt) (l := x_Files0) (m := ([first1] : List Int)) hob1 rfl rfl rfl rfl rfl esz_36 eby_36 zk_3 rfl rfl rfl (SrcOf.srMap (k := 0) rfl isl_36) rfl hh4 lt0 ?_)
    intro b6
    refine VO.cons rfl (V1.fieldRef rfl rfl fo_67_3 rfl lt0 ?_)
    refine VO.cons rfl (V1.storeRef (k := 3) rfl rfl tyk_36 rfl rfl rfl rfl rfl rfl rfl rfl rfl ?_)
    refine VO.nil (V.keep 91 [0, 2, 6, 7, 8] [0, 2, 3, 4] (E0 := [(0, .ref bp 3 0 0), (2, .int .i64 first1), (6, .ref b0 5 0 0), (7, .ref b4 5 0 0), (8, .int .i64 n_)]) (H0 := [(b6, ⟨1, List.map encInt (x_Files0 ++ ([first1] : List Int))⟩), (bp, ⟨3, [encCur ρ0 c_0]⟩), (b4, ⟨5, [.agg [.int .i64 id_, .int .i64 y0.1, .int .i64 y1.1, .sref b6 1 0 (List.length (x_Files0 ++ ([first1] : List Int))), .int .i64 y2.1]]⟩), (b0, ⟨5, [.agg [.int .i64 (0 : Int), .int .i64 (0 : Int), .int .i64 (0 : Int), .nils, .int .i64 (0 : Int)]]⟩)]) rfl (⟨_, _, rfl, rfl, _, _, rfl, rfl, _, _, rfl, rfl, _, _, rfl, rfl, _, _, rfl, rfl, rfl⟩) (⟨_, _, rfl, rfl, _, _, rfl, rfl, _, _, rfl, rfl, _, _, rfl, rfl, rfl⟩) rfl ?_)
    replace hm1 := bindO hm1; rcases hm1 with ⟨y5, hh5, hm1⟩
    refine V.region (VO.cons rfl (V1.mv ?_))
    refine VO.cons rfl (V1.it ?_)
    refine VO.cons rfl (V1.mv ?_)
    refine VO.cons rfl (V1.callM 1 (rn + ρ0 + 1) [] [.ref bp 3 0 0, .int .i64 (2 : Int)] (p := (bp, ⟨3, [encCur ρ0 c_0]⟩)) rfl rfl rfl cok_94 rfl rfl ⟨_, _, rfl, .same _, ⟨_, _, rfl, .same _, rfl⟩⟩ bwNil (ok_spec_l1Cur_pick hh5) rfl (.inl rfl) lt0 ?_)
    rintro _ _ ⟨rfl, rfl⟩
    refine VO.cons rfl (V1.it ?_)
    refine VO.cons rfl (V1.as ?_)
    refine VO.nil (V.keep 91 [0, 2, 6, 7, 8] [0, 1, 2, 3] (E0 := [(0, .ref bp 3 0 0), (2, .int .i64 (IntKind.i64.wrap ((IntKind.i64.wrap (first1 + (1 : Int))) + y5.1))), (6, .ref b0 5 0 0), (7, .ref b4 5 0 0), (8, .int .i64 n_)]) (H0 := [(bp, ⟨3, [encCur ρ0 y5.2]⟩), (b6, ⟨1, List.map encInt (x_Files0 ++ ([first1] : List Int))⟩), (b4, ⟨5, [.agg [.int .i64 id_, .int .i64 y0.1, .int .i64 y1.1, .sref b6 1 0 (List.length (x_Files0 ++ ([first1] : List Int))), .int .i64 y2.1]]⟩), (b0, ⟨5, [.agg [.int .i64 (0 : Int), .int .i64 (0 : Int), .int .i64 (0 : Int), .nils, .int .i64 (0 : Int)]]⟩)]) rfl (⟨_, _, rfl, rfl, _, _, rfl, rfl, _, _, rfl, rfl, _, _, rfl, rfl, _, _, rfl, rfl, rfl⟩) (⟨_, _, rfl, rfl, _, _, rfl, rfl, _, _, rfl, rfl, _, _, rfl, rfl, rfl⟩) rfl ?_)
    refine V.region (VO.cons rfl (V1.mv ?_))
    refine VO.cons rfl (V1.it ?_)
    refine VO.cons rfl (V1.as ?_)
    refine VO.nil ?_
    exact ⟨(m0, ((IntKind.i64.wrap ((IntKind.i64.wrap (first1 + (1 : Int))) + y5.1)), (IntKind.i64.wrap (n_ - (1 : Int))), (x_Files0 ++ ([first1] : List Int)), y5.2), (some b6)), ⟨hl1 _ (oi hm1).symm, (fun e => by cases e)⟩, Nat.lt_succ_self _, Keeps.mk (ks := [1, 0, 2, 3]) rfl ⟨rfl, rfl, rfl, rfl, rfl, trivial⟩ (⟨_, _, rfl, rfl, _, _, rfl, rfl, _, _, rfl, rfl, _, _, rfl, rfl, rfl⟩) rfl⟩
   ·
    replace hm1 := cond_f hc0 hm1
    refine V.exit ?_
    obtain rfl := hr1 _ (oi hm1).symm
    exact ⟨((first1, x_Files0, c_0), none), ⟨rfl, (fun _ => hob1)⟩, Keeps.mk (ks := [0, 1, 2]) rfl ⟨rfl, rfl, rfl, rfl, trivial⟩ (⟨_, _, rfl, rfl, _, _, rfl, rfl, _, _, rfl, rfl, rfl⟩) rfl⟩
  ·
   show V _ _ _ ⟨91, [(2, .int .i64 first1), (8, .int .i64 n_), (0, .ref bp 3 0 0), (6, .ref b0 5 0 0), (7, .ref b4 5 0 0)], [(ob1, ⟨1, List.map encInt x_Files0⟩), (bp, ⟨3, [encCur ρ0 c_0]⟩), (b4, ⟨5, [.agg [.int .i64 id_, .int .i64 y0.1, .int .i64 y1.1, .sref ob1 1 0 (List.length x_Files0), .int .i64 y2.1]]⟩), (b0, ⟨5, [.agg [.int .i64 (0 : Int), .int .i64 (0 : Int), .int .i64 (0 : Int), .nils, .int .i64 (0 : Int)]]⟩)]⟩
   refine V.seq (V.seq (V.region (VO.cons rfl (V1.mv ?_))))
   refine VO.cons rfl (V1.it ?_)
   refine VO.nil (V.cond rfl (fun hc0 => ?_) (fun hc0 => ?_))
   ·
    replace hm1 := cond_t hc0 hm1
    refine V.skip ?_
    refine V.seq (V.block ?_)
    refine V.seq ?_
    replace hm1 := asrt_some hm1; rcases hm1 with ⟨hh4, hm1⟩
    refine V.region (VO.cons rfl (V1.fieldRef rfl rfl fo_67_3 rfl lt0 ?_))
    refine VO.cons rfl (V1.loadRef (k := 2) rfl rfl tyk_36 rfl rfl rfl rfl rfl lt0 ?_)
    refine VO.cons rfl (V1.mv ?_)
    refine VO.cons rfl (V1.buildSliceT (f := encInt) ([first1] : List Int) rfl rfl esz_36 zk_3 rfl rfl rfl rfl rfl rfl rfl lt0 ?_)
    intro b5
    refine VO.cons rfl (V1.appendMap (k := 1) (f := encInt) (l := x_Files0) (m := ([first1] : List Int)) rfl rfl rfl rfl rfl esz_36 eby_36 zk_3 rfl rfl rfl (SrcOf.srMap (k := 0) rfl isl_36) hh4 lt0 ?_)
    intro b6
    refine VO.cons rfl (V1.fieldRef rfl rfl fo_67_3 rfl lt0 ?_)
    refine VO.cons rfl (V1.storeRef (k := 3) rfl rfl tyk_36 rfl rfl rfl rfl rfl rfl rfl rfl rfl ?_)
    refine VO.nil (V.keep 91 [0, 2, 6, 7, 8] [0, 2, 3, 4] (E0 := [(0, .ref bp 3 0 0), (2, .int .i64 first1), (6, .ref b0 5 0 0), (7, .ref b4 5 0 0), (8, .int .i64 n_)]) (H0 := [(b6, ⟨1, List.map encInt (x_Files0 ++ ([first1] : List Int))⟩), (bp, ⟨3, [encCur ρ0 c_0]⟩), (b4, ⟨5, [.agg [.int .i64 id_, .int .i64 y0.1, .int .i64 y1.1, .sref b6 1 0 (List.length (x_Files0 ++ ([first1] : List Int))), .int .i64 y2.1]]⟩), (b0, ⟨5, [.agg [.int .i64 (0 : Int), .int .i64 (0 : Int), .int .i64 (0 : Int), .nils, .int .i64 (0 : Int)]]⟩)]) rfl (⟨_, _, rfl, rfl, _, _, rfl, rfl, _, _, rfl, rfl, _, _, rfl, rfl, _, _, rfl, rfl, rfl⟩) (⟨_, _, rfl, rfl, _, _, rfl, rfl, _, _, rfl, rfl, _, _, rfl, rfl, rfl⟩) rfl ?_)
    replace hm1 := bindO hm1; rcases hm1 with ⟨y5, hh5, hm1⟩
    refine V.region (VO.cons rfl (V1.mv ?_))
    refine VO.cons rfl (V1.it ?_)
    refine VO.cons rfl (V1.mv ?_)
    refine VO.cons rfl (V1.callM 1 (rn + ρ0 + 1) [] [.ref bp 3 0 0, .int .i64 (2 : Int)] (p := (bp, ⟨3, [encCur ρ0 c_0]⟩)) rfl rfl rfl cok_94 rfl rfl ⟨_, _, rfl, .same _, ⟨_, _, rfl, .same _, rfl⟩⟩ bwNil (ok_spec_l1Cur_pick hh5) rfl (.inl rfl) lt0 ?_)
    rintro _ _ ⟨rfl, rfl⟩
    refine VO.cons rfl (V1.it ?_)
    refine VO.cons rfl (V1.as ?_)
    refine VO.nil (V.keep 91 [0, 2, 6, 7, 8] [0, 1, 2, 3] (E0 := [(0, .ref bp 3 0 0), (2, .int .i64 (IntKind.i64.wrap ((IntKind.i64.wrap (first1 + (1 : Int))) + y5.1))), (6, .ref b0 5 0 0), (7, .ref b4 5 0 0), (8, .int .i64 n_)]) (H0 := [(bp, ⟨3, [encCur ρ0 y5.2]⟩), (b6, ⟨1, List.map encInt (x_Files0 ++ ([first1] : List Int))⟩), (b4, ⟨5, [.agg [.int .i64 id_, .int .i64 y0.1, .int .i64 y1.1, .sref b6 1 0 (List.length (x_Files0 ++ ([first1] : List Int))), .int .i64 y2.1]]⟩), (b0, ⟨5, [.agg [.int .i64 (0 : Int), .int .i64 (0 : Int), .int .i64 (0 : Int), .nils, .int .i64 (0 : Int)]]⟩)]) rfl (⟨_, _, rfl, rfl, _, _, rfl, rfl, _, _, rfl, rfl, _, _, rfl, rfl, _, _, rfl, rfl, rfl⟩) (⟨_, _, rfl, rfl, _, _, rfl, rfl, _, _, rfl, rfl, _, _, rfl, rfl, rfl⟩) rfl ?_)
    refine V.region (VO.cons rfl (V1.mv ?_))
    refine VO.cons rfl (V1.it ?_)
    refine VO.cons rfl (V1.as ?_)
    refine VO.nil ?_
    exact ⟨(m0, ((IntKind.i64.wrap ((IntKind.i64.wrap (first1 + (1 : Int))) + y5.1)), (IntKind.i64.wrap (n_ - (1 : Int))), (x_Files0 ++ ([first1] : List Int)), y5.2), (some b6)), ⟨hl1 _ (oi hm1).symm, (fun e => by cases e)⟩, Nat.lt_succ_self _, Keeps.mk (ks := [1, 0, 2, 3]) rfl ⟨rfl, rfl, rfl, rfl, rfl, trivial⟩ (⟨_, _, rfl, rfl, _, _, rfl, rfl, _, _, rfl, rfl, _, _, rfl, rfl, rfl⟩) rfl⟩
   ·
    replace hm1 := cond_f hc0 hm1
    refine V.exit ?_
    obtain rfl := hr1 _ (oi hm1).symm
    exact ⟨((first1, x_Files0, c_0), (some ob1)), ⟨rfl, (fun e => by cases e)⟩, Keeps.mk (ks := [0, 1, 2, 3]) rfl ⟨rfl, rfl, rfl, rfl, trivial⟩ (⟨_, _, rfl, rfl, _, _, rfl, rfl, _, _, rfl, rfl, _, _, rfl, rfl, rfl⟩) rfl⟩
 ·
  rintro ⟨⟨first0, x_Files, c_⟩, ob0⟩ ⟨rfl, hob0⟩
  try dsimp only at hm0
  rcases ob0 with _ | ob0
  ·
   replace hob0 := hob0 rfl
   refine V.seq (V.seq ?_)
   replace hm0 := bindO hm0; rcases hm0 with ⟨y6, hh6, hm0⟩
   refine V.region (VO.cons rfl (V1.mv ?_))
   refine VO.cons rfl (V1.callM 0 (rn + ρ0 + 1) [] [.ref bp 3 0 0, .int .i64 (70 : Int)] (p := (bp, ⟨3, [encCur ρ0 c_]⟩)) rfl rfl rfl cok_94 rfl rfl ⟨_, _, rfl, .same _, ⟨_, _, rfl, .same _, rfl⟩⟩ bwNil (ok_spec_l1Cur_pick hh6) rfl (.inl rfl) lt0 ?_)
   rintro _ _ ⟨rfl, rfl⟩
   refine VO.nil ?_
   replace hm0 := bindO hm0; rcases hm0 with ⟨j0, hm1, hm0⟩
   refine V.cutT (D := (Int × Int × Int × List Int × Int × Cur) × (Option Nat)) (fun ⟨⟨x_Id, x_Shelf, x_Room, x_Files1, x_Thick, c_1⟩, ob2⟩ => ⟨91, [(6, .ref b0 5 0 0), (7, .ref b4 5 0 0)], optH 1 ob2 (List.map encInt x_Files1) ++ [(bp, ⟨3, [encCur ρ0 c_1]⟩)] ++ [(b4, ⟨5, [.agg [.int .i64 x_Id, .int .i64 x_Shelf, .int .i64 x_Room, optS 1 ob2 (List.length x_Files1), .int .i64 x_Thick]]⟩)] ++ [(b0, ⟨5, [.agg [.int .i64 (0 : Int), .int .i64 (0 : Int), .int .i64 (0 : Int), .nils, .int .i64 (0 : Int)]]⟩)]⟩) (fun ⟨⟨x_Id, x_Shelf, x_Room, x_Files1, x_Thick, c_1⟩, ob2⟩ => ((x_Id, x_Shelf, x_Room, x_Files1, x_Thick, c_1) = j0) ∧ (ob2 = none → x_Files1 = [])) ?_ ?_
   ·
    refine V.block ?_
    refine V.seq (V.region (VO.cons rfl (V1.it ?_)))
    refine VO.cons rfl (V1.as ?_)
    refine VO.nil (V.cond rfl (fun hc1 => ?_) (fun hc1 => ?_))
    ·
     replace hm1 := cond_t hc1 hm1
     replace hm1 := bindO hm1; rcases hm1 with ⟨y7, hh7, hm1⟩
     refine V.region (VO.cons rfl (V1.mv ?_))
     refine VO.cons rfl (V1.buildSliceT (f := encInt) ([(0 : Int), (99 : Int), (100 : Int)] : List Int) rfl rfl esz_36 zk_3 rfl rfl rfl rfl rfl rfl rfl lt0 ?_)
     intro b7
     refine VO.cons rfl (V1.callM 1 (rn + ρ0 + 1) [b7] [.ref bp 3 0 0, .vl (rn + ρ0 + 1) 1 (List.map encInt ([(0 : Int), (99 : Int), (100 : Int)] : List Int))] (p := (bp, ⟨3, [encCur ρ0 y6.2]⟩)) rfl rfl rfl cok_93 rfl rfl ⟨_, _, rfl, .same _, ⟨_, _, rfl, Lend.srMap 0 rfl (fun _ => rfl) (.head _), rfl⟩⟩ (bwCons (k := 0) rfl bwNil) (ok_spec_l1Cur_among hh7) rfl (.inr ⟨(by first | omega | (dsimp only; omega)), by rintro _ _ ⟨rfl, rfl⟩; exact ⟨by simp [PV.no, PV.noL, optS_no, noL_iff, nbeq] <;> omega, by intro b ob h; first | exact optH_no (noL_map (fun _ => by simp [PV.no, PV.noL, noL_iff, nbeq]) _) b ob h | (simp only [List.append_assoc, List.mem_append, List.mem_cons, List.mem_singleton, List.not_mem_nil, or_false, Prod.mk.injEq] at h; rcases h with ⟨rfl, rfl⟩ | ⟨rfl, rfl⟩ <;> first | exact noL_map (fun _ => by simp [PV.no, PV.noL, noL_iff, nbeq]) _ | (simp [PV.no, PV.noL, optS_no, noL_iff, nbeq] <;> omega)) | (simp at h; obtain ⟨rfl, rfl⟩ := h; exact noL_map (fun _ => by simp [PV.no, PV.noL, noL_iff, nbeq]) _) | (simp at h; obtain ⟨rfl, rfl⟩ := h; simp [PV.no, PV.noL, optS_no, noL_iff, nbeq] <;> omega)⟩⟩) lt0 ?_)
     rintro _ _ ⟨rfl, rfl⟩
     refine VO.cons rfl (V1.fieldRef rfl rfl fo_67_0 rfl lt0 ?_)
     refine VO.cons rfl (V1.storeRef (k := 2) rfl rfl tyk_3 rfl rfl rfl rfl rfl rfl rfl rfl rfl ?_)
     refine VO.nil ?_
     exact ⟨((y7.1, y0.1, y1.1, x_Files, y2.1, y7.2), none), ⟨oi hm1, (fun _ => hob0)⟩, Keeps.mk (ks := [0, 2, 3]) rfl ⟨rfl, rfl, trivial⟩ (⟨_, _, rfl, rfl, _, _, rfl, rfl, _, _, rfl, rfl, rfl⟩) rfl⟩
    ·
     replace hm1 := cond_f hc1 hm1
     refine V.seq (V.region (VO.cons rfl (V1.it ?_)))
     refine VO.cons rfl (V1.as ?_)
     refine VO.nil (V.keep 91 [0, 2, 6, 7, 38, 45] [0, 1, 2] (E0 := [(0, .ref bp 3 0 0), (2, .int .i64 first0), (6, .ref b0 5 0 0), (7, .ref b4 5 0 0), (38, .int .i64 y6.1), (45, .bool (y6.1 == (1 : Int)))]) (H0 := [(bp, ⟨3, [encCur ρ0 y6.2]⟩), (b4, ⟨5, [.agg [.int .i64 id_, .int .i64 y0.1, .int .i64 y1.1, .nils, .int .i64 y2.1]]⟩), (b0, ⟨5, [.agg [.int .i64 (0 : Int), .int .i64 (0 : Int), .int .i64 (0 : Int), .nils, .int .i64 (0 : Int)]]⟩)]) rfl (⟨_, _, rfl, rfl, _, _, rfl, rfl, _, _, rfl, rfl, _, _, rfl, rfl, _, _, rfl, rfl, _, _, rfl, rfl, rfl⟩) (⟨_, _, rfl, rfl, _, _, rfl, rfl, _, _, rfl, rfl, rfl⟩) rfl ?_)
     refine V.cond rfl (fun hc2 => ?_) (fun hc2 => ?_)
     ·
      replace hm1 := cond_t hc2 hm1
      replace hm1 := bindO hm1; rcases hm1 with ⟨y8, hh8, hm1⟩
      refine V.region (VO.cons rfl (V1.mv ?_))
      refine VO.cons rfl (V1.buildSliceT (f := encInt) ([(0 : Int), (31 : Int)] : List Int) rfl rfl esz_36 zk_3 rfl rfl rfl rfl rfl rfl rfl lt0 ?_)
      intro b8
      refine VO.cons rfl (V1.callM 1 (rn + ρ0 + 1) [b8] [.ref bp 3 0 0, .vl (rn + ρ0 + 1) 1 (List.map encInt ([(0 : Int), (31 : Int)] : List Int))] (p := (bp, ⟨3, [encCur ρ0 y6.2]⟩)) rfl rfl rfl cok_93 rfl rfl ⟨_, _, rfl, .same _, ⟨_, _, rfl, Lend.srMap 0 rfl (fun _ => rfl) (.head _), rfl⟩⟩ (bwCons (k := 0) rfl bwNil) (ok_spec_l1Cur_among hh8) rfl (.inr ⟨(by first | omega | (dsimp only; omega)), by rintro _ _ ⟨rfl, rfl⟩; exact ⟨by simp [PV.no, PV.noL, optS_no, noL_iff, nbeq] <;> omega, by intro b ob h; first | exact optH_no (noL_map (fun _ => by simp [PV.no, PV.noL, noL_iff, nbeq]) _) b ob h | (simp only [List.append_assoc, List.mem_append, List.mem_cons, List.mem_singleton, List.not_mem_nil, or_false, Prod.mk.injEq] at h; rcases h with ⟨rfl, rfl⟩ | ⟨rfl, rfl⟩ <;> first | exact noL_map (fun _ => by simp [PV.no, PV.noL, noL_iff, nbeq]) _ | (simp [PV.no, PV.noL, optS_no, noL_iff, nbeq] <;> omega)) | (simp at h; obtain ⟨rfl, rfl⟩ := h; exact noL_map (fun _ => by simp [PV.no, PV.noL, noL_iff, nbeq]) _) | (simp at h; obtain ⟨rfl, rfl⟩ := h; simp [PV.no, PV.noL, optS_no, noL_iff, nbeq] <;> omega)⟩⟩) lt0 ?_)
      rintro _ _ ⟨rfl, rfl⟩
      refine VO.cons rfl (V1.fieldRef rfl rfl fo_67_1 rfl lt0 ?_)
      refine VO.cons rfl (V1.storeRef (k := 2) rfl rfl tyk_3 rfl rfl rfl rfl rfl rfl rfl rfl rfl ?_)
      refine VO.nil ?_
      exact ⟨((id_, y8.1, y1.1, x_Files, y2.1, y8.2), none), ⟨oi hm1, (fun _ => hob0)⟩, Keeps.mk (ks := [0, 2, 3]) rfl ⟨rfl, rfl, trivial⟩ (⟨_, _, rfl, rfl, _, _, rfl, rfl, _, _, rfl, rfl, rfl⟩) rfl⟩
     ·
      replace hm1 := cond_f hc2 hm1
      refine V.seq (V.region (VO.cons rfl (V1.it ?_)))
      refine VO.cons rfl (V1.as ?_)
      refine VO.nil (V.cond rfl (fun hc3 => ?_) (fun hc3 => ?_))
      ·
       replace hm1 := cond_t hc3 hm1
       replace hm1 := bindO hm1; rcases hm1 with ⟨y9, hh9, hm1⟩
       refine V.region (VO.cons rfl (V1.mv ?_))
       refine VO.cons rfl (V1.buildSliceT (f := encInt) ([(0 : Int), (10 : Int)] : List Int) rfl rfl esz_36 zk_3 rfl rfl rfl rfl rfl rfl rfl lt0 ?_)
       intro b9
       refine VO.cons rfl (V1.callM 1 (rn + ρ0 + 1) [b9] [.ref bp 3 0 0, .vl (rn + ρ0 + 1) 1 (List.map encInt ([(0 : Int), (10 : Int)] : List Int))] (p := (bp, ⟨3, [encCur ρ0 y6.2]⟩)) rfl rfl rfl cok_93 rfl rfl ⟨_, _, rfl, .same _, ⟨_, _, rfl, Lend.srMap 0 rfl (fun _ => rfl) (.head _), rfl⟩⟩ (bwCons (k := 0) rfl bwNil) (ok_spec_l1Cur_among hh9) rfl (.inr ⟨(by first | omega | (dsimp only; omega)), by rintro _ _ ⟨rfl, rfl⟩; exact ⟨by simp [PV.no, PV.noL, optS_no, noL_iff, nbeq] <;> omega, by intro b ob h; first | exact optH_no (noL_map (fun _ => by simp [PV.no, PV.noL, noL_iff, nbeq]) _) b ob h | (simp only [List.append_assoc, List.mem_append, List.mem_cons, List.mem_singleton, List.not_mem_nil, or_false, Prod.mk.injEq] at h; rcases h with ⟨rfl, rfl⟩ | ⟨rfl, rfl⟩ <;> first | exact noL_map (fun _ => by simp [PV.no, PV.noL, noL_iff, nbeq]) _ | (simp [PV.no, PV.noL, optS_no, noL_iff, nbeq] <;> omega)) | (simp at h; obtain ⟨rfl, rfl⟩ := h; exact noL_map (fun _ => by simp [PV.no, PV.noL, noL_iff, nbeq]) _) | (simp at h; obtain ⟨rfl, rfl⟩ := h; simp [PV.no, PV.noL, optS_no, noL_iff, nbeq] <;> omega)⟩⟩) lt0 ?_)
       rintro _ _ ⟨rfl, rfl⟩
       refine VO.cons rfl (V1.fieldRef rfl rfl fo_67_2 rfl lt0 ?_)
       refine VO.cons rfl (V1.storeRef (k := 2) rfl rfl tyk_3 rfl rfl rfl rfl rfl rfl rfl rfl rfl ?_)
       refine VO.nil ?_
       exact ⟨((id_, y0.1, y9.1, x_Files, y2.1, y9.2), none), ⟨oi hm1, (fun _ => hob0)⟩, Keeps.mk (ks := [0, 2, 3]) rfl ⟨rfl, rfl, trivial⟩ (⟨_, _, rfl, rfl, _, _, rfl, rfl, _, _, rfl, rfl, rfl⟩) rfl⟩
      ·
       replace hm1 := cond_f hc3 hm1
       refine V.seq (V.region (VO.cons rfl (V1.it ?_)))
       refine VO.cons rfl (V1.as ?_)
       refine VO.nil (V.keep 91 [0, 2, 6, 7, 38, 57] [0, 1, 2] (E0 := [(0, .ref bp 3 0 0), (2, .int .i64 first0), (6, .ref b0 5 0 0), (7, .ref b4 5 0 0), (38, .int .i64 y6.1), (57, .bool (y6.1 == (3 : Int)))]) (H0 := [(bp, ⟨3, [encCur ρ0 y6.2]⟩), (b4, ⟨5, [.agg [.int .i64 id_, .int .i64 y0.1, .int .i64 y1.1, .nils, .int .i64 y2.1]]⟩), (b0, ⟨5, [.agg [.int .i64 (0 : Int), .int .i64 (0 : Int), .int .i64 (0 : Int), .nils, .int .i64 (0 : Int)]]⟩)]) rfl (⟨_, _, rfl, rfl, _, _, rfl, rfl, _, _, rfl, rfl, _, _, rfl, rfl, _, _, rfl, rfl, _, _, rfl, rfl, rfl⟩) (⟨_, _, rfl, rfl, _, _, rfl, rfl, _, _, rfl, rfl, rfl⟩) rfl ?_)
       refine V.cond rfl (fun hc4 => ?_) (fun hc4 => ?_)
       ·
        replace hm1 := cond_t hc4 hm1
        replace hm1 := bindO hm1; rcases hm1 with ⟨y10, hh10, hm1⟩
        refine V.region (VO.cons rfl (V1.mv ?_))
        refine VO.cons rfl (V1.buildSliceT (f := encInt) ([(0 : Int), (41 : Int)] : List Int) rfl rfl esz_36 zk_3 rfl rfl rfl rfl rfl rfl rfl lt0 ?_)
        intro b10
        refine VO.cons rfl (V1.callM 1 (rn + ρ0 + 1) [b10] [.ref bp 3 0 0, .vl (rn + ρ0 + 1) 1 (List.map encInt ([(0 : Int), (41 : Int)] : List Int))] (p := (bp, ⟨3, [encCur ρ0 y6.2]⟩)) rfl rfl rfl cok_93 rfl rfl ⟨_, _, rfl, .same _, ⟨_, _, rfl, Lend.srMap 0 rfl (fun _ => rfl) (.head _), rfl⟩⟩ (bwCons (k := 0) rfl bwNil) (ok_spec_l1Cur_among hh10) rfl (.inr ⟨(by first | omega | (dsimp only; omega)), by rintro _ _ ⟨rfl, rfl⟩; exact ⟨by simp [PV.no, PV.noL, optS_no, noL_iff, nbeq] <;> omega, by intro b ob h; first | exact optH_no (noL_map (fun _ => by simp [PV.no, PV.noL, noL_iff, nbeq]) _) b ob h | (simp only [List.append_assoc, List.mem_append, List.mem_cons, List.mem_singleton, List.not_mem_nil, or_false, Prod.mk.injEq] at h; rcases h with ⟨rfl, rfl⟩ | ⟨rfl, rfl⟩ <;> first | exact noL_map (fun _ => by simp [PV.no, PV.noL, noL_iff, nbeq]) _ | (simp [PV.no, PV.noL, optS_no, noL_iff, nbeq] <;> omega)) | (simp at h; obtain ⟨rfl, rfl⟩ := h; exact noL_map (fun _ => by simp [PV.no, PV.noL, noL_iff, nbeq]) _) | (simp at h; obtain ⟨rfl, rfl⟩ := h; simp [PV.no, PV.noL, optS_no, noL_iff, nbeq] <;> omega)⟩⟩) lt0 ?_)
        rintro _ _ ⟨rfl, rfl⟩
        refine VO.cons rfl (V1.fieldRef rfl rfl fo_67_4 rfl lt0 ?_)
        refine VO.cons rfl (V1.storeRef (k := 2) rfl rfl tyk_3 rfl rfl rfl rfl rfl rfl rfl rfl rfl ?_)
        refine VO.nil ?_
        exact ⟨((id_, y0.1, y1.1, x_Files, y10.1, y10.2), none), ⟨oi hm1, (fun _ => hob0)⟩, Keeps.mk (ks := [0, 2, 3]) rfl ⟨rfl, rfl, trivial⟩ (⟨_, _, rfl, rfl, _, _, rfl, rfl, _, _, rfl, rfl, rfl⟩) rfl⟩
       ·
        replace hm1 := cond_f hc4 hm1
        refine V.seq (V.region (VO.cons rfl (V1.it ?_)))
        refine VO.cons rfl (V1.as ?_)
        refine VO.nil (V.cond rfl (fun hc5 => ?_) (fun hc5 => ?_))
        ·
         replace hm1 := cond_t hc5 hm1
         replace hm1 := bindO hm1; rcases hm1 with ⟨y11, hh11, hm1⟩
         replace hm1 := asrt_some hm1; rcases hm1 with ⟨hh12, hm1⟩
         replace hm1 := bindO hm1; rcases hm1 with ⟨j1, hm2, hm1⟩
         refine V.cutT (D := (List Int × Cur) × (Nat)) (fun ⟨⟨x_Files2, o⟩, b14⟩ => ⟨91, [(6, .ref b0 5 0 0), (7, .ref b4 5 0 0)], [(b14, ⟨1, List.map encInt x_Files2⟩), (bp, ⟨3, [encCur ρ0 o]⟩), (b4, ⟨5, [.agg [.int .i64 id_, .int .i64 y0.1, .int .i64 y1.1, .sref b14 1 0 (List.length x_Files2), .int .i64 y2.1]]⟩), (b0, ⟨5, [.agg [.int .i64 (0 : Int), .int .i64 (0 : Int), .int .i64 (0 : Int), .nils, .int .i64 (0 : Int)]]⟩)]⟩) (fun ⟨⟨x_Files2, o⟩, b14⟩ => ((x_Files2, o) = j1)) ?_ ?_
         ·
          refine V.regionS [] 91 6 [⟨[(7, none)], false⟩, ⟨[(65, some 0)], true⟩, ⟨[(0, none)], false⟩, ⟨[], true⟩, ⟨[(67, some 2), (68, some 3)], true⟩, ⟨[(69, some 4)], true⟩] [(6, none), (7, none), (66, some 1), (70, some 5)] 4 (⟨_, rfl, ⟨_, rfl, ⟨_, rfl, ⟨_, rfl, ⟨_, rfl, ⟨_, rfl, ⟨rfl, rfl⟩⟩⟩⟩⟩⟩⟩) mixed_orders rfl (by decide +kernel) ?_
          refine WalkP.step (p := ?pv714) 0 rfl rfl rfl rfl rfl (⟨_, _, rfl, rfl, rfl⟩) ?hv714 ?rest714
          case hv714 =>
           intro E1 H1 hI1
           refine (V1.fieldRef rfl rfl fo_67_3 rfl lt0 ?_)
           exact rfl
          refine WalkP.step (p := ?pv715) 2 rfl rfl rfl rfl rfl (⟨_, _, rfl, rfl, rfl⟩) ?hv715 ?rest715
          case hv715 =>
           intro E1 H1 hI1
           refine (V1.mv ?_)
           exact rfl
          refine WalkP.nil (NodeS.branch [1, 3] inNil rfl rfl rfl ⟨?_, ?_, trivial⟩)
          ·
           refine ⟨_, _, _, _, rfl, rfl, rfl, (⟨_, _, rfl, rfl, rfl⟩), fun E1 => ?_⟩
           refine (V1.loadRef (k := 1) rfl rfl tyk_36 rfl rfl rfl rfl rfl lt0 ?_)
           refine ⟨_, _, rfl, ?_⟩
           refine WalkP.nil (NodeS.branch [3] inNil rfl rfl rfl ⟨?_, trivial⟩)
           ·
            refine ⟨_, _, _, _, rfl, rfl, rfl, (rfl), fun E1 => ?_⟩
            refine (V1.buildSliceT (f := encInt) ([(0 : Int), (5 : Int), (1000 : Int)] : List Int) rfl rfl esz_36 zk_3 rfl rfl rfl rfl rfl rfl rfl lt0 ?_)
            intro b15
            refine ⟨_, _, rfl, ?_⟩
            refine WalkP.nil (NodeS.branch [4] inNil rfl rfl rfl ⟨?_, trivial⟩)
            ·
             refine ⟨_, _, _, _, rfl, rfl, rfl, (⟨_, _, rfl, rfl, _, _, rfl, rfl, rfl⟩), fun E1 => ?_⟩
             refine (V1.callM 1 (rn + ρ0 + 1) [b15] [.ref bp 3 0 0, .vl (rn + ρ0 + 1) 1 (List.map encInt ([(0 : Int), (5 : Int), (1000 : Int)] : List Int))] (p := (bp, ⟨3, [encCur ρ0 y6.2]⟩)) rfl rfl rfl cok_93 rfl rfl ⟨_, _, rfl, .same _, ⟨_, _, rfl, Lend.srMap 0 rfl (fun _ => rfl) (.head _), rfl⟩⟩ (bwCons (k := 0) rfl bwNil) (ok_spec_l1Cur_among hh11) rfl (.inr ⟨(by first | omega | (dsimp only; omega)), by rintro _ _ ⟨rfl, rfl⟩; exact ⟨by simp [PV.no, PV.noL, optS_no, noL_iff, nbeq] <;> omega, by intro b ob h; first | exact optH_no (noL_map (fun _ => by simp [PV.no, PV.noL, noL_iff, nbeq]) _) b ob h | (simp only [List.append_assoc, List.mem_append, List.mem_cons, List.mem_singleton, List.not_mem_nil, or_false, Prod.mk.injEq] at h; rcases h with ⟨rfl, rfl⟩ | ⟨rfl, rfl⟩ <;> first | exact noL_map (fun _ => by simp [PV.no, PV.noL, noL_iff, nbeq]) _ | (simp [PV.no, PV.noL, optS_no, noL_iff, nbeq] <;> omega)) | (simp at h; obtain ⟨rfl, rfl⟩ := h; exact noL_map (fun _ => by simp [PV.no, PV.noL, noL_iff, nbeq]) _) | (simp at h; obtain ⟨rfl, rfl⟩ := h; simp [PV.no, PV.noL, optS_no, noL_iff, nbeq] <;> omega)⟩⟩) lt0 ?_)
             rintro _ _ ⟨rfl, rfl⟩
             refine ⟨_, _, rfl, ?_⟩
             refine WalkP.nil (NodeS.branch [5] inNil rfl rfl rfl ⟨?_, trivial⟩)
             ·
              refine ⟨_, _, _, _, rfl, rfl, rfl, (⟨_, _, rfl, rfl, rfl⟩), fun E1 => ?_⟩
              refine (V1.buildSliceT (f := encInt) ([y11.1] : List Int) rfl rfl esz_36 zk_3 rfl rfl rfl rfl rfl rfl rfl lt0 ?_)
              intro b16
              refine ⟨_, _, rfl, ?_⟩
              refine WalkP.nil (NodeS.fin inNil rfl rfl rfl (⟨_, _, rfl, rfl, _, _, rfl, rfl, _, _, rfl, rfl, _, _, rfl, rfl, rfl⟩) ?_)
              refine VO.cons rfl (V1.appendNilE (f := encInt) (l := x_Files) (m := ([y11.1] : List Int)) hob0 rfl rfl rfl rfl rfl esz_36 eby_36 zk_3 rfl rfl rfl (SrcOf.srMap (k := 0) rfl isl_36) rfl hh12 lt0 ?_)
              intro b17
              refine VO.cons rfl (V1.fieldRef rfl rfl fo_67_3 rfl lt0 ?_)
              refine VO.cons rfl (V1.storeRef (k := 4) rfl rfl tyk_36 rfl rfl rfl rfl rfl rfl rfl rfl rfl ?_)
              refine VO.nil ?_
              exact ⟨(((x_Files ++ ([y11.1] : List Int)), y11.2), b17), oi hm2, Keeps.mk (ks := [0, 2, 4, 5]) rfl ⟨rfl, rfl, trivial⟩ (⟨_, _, rfl, rfl, _, _, rfl, rfl, _, _, rfl, rfl, _, _, rfl, rfl, rfl⟩) rfl⟩
          ·
           refine ⟨_, _, _, _, rfl, rfl, rfl, (rfl), fun E1 => ?_⟩
           refine (V1.buildSliceT (f := encInt) ([(0 : Int), (5 : Int), (1000 : Int)] : List Int) rfl rfl esz_36 zk_3 rfl rfl rfl rfl rfl rfl rfl lt0 ?_)
           intro b18
           refine ⟨_, _, rfl, ?_⟩
           refine WalkP.nil (NodeS.branch [1, 4] inNil rfl rfl rfl ⟨?_, ?_, trivial⟩)
           ·
            refine ⟨_, _, _, _, rfl, rfl, rfl, (⟨_, _, rfl, rfl, rfl⟩), fun E1 => ?_⟩
            refine (V1.loadRef (k := 2) rfl rfl tyk_36 rfl rfl rfl rfl rfl lt0 ?_)
            refine ⟨_, _, rfl, ?_⟩
            refine WalkP.nil (NodeS.branch [4] inNil rfl rfl rfl ⟨?_, trivial⟩)
            ·
             refine ⟨_, _, _, _, rfl, rfl, rfl, (⟨_, _, rfl, rfl, _, _, rfl, rfl, rfl⟩), fun E1 => ?_⟩
             refine (V1.callM 1 (rn + ρ0 + 1) [b18] [.ref bp 3 0 0, .vl (rn + ρ0 + 1) 1 (List.map encInt ([(0 : Int), (5 : Int), (1000 : Int)] : List Int))] (p := (bp, ⟨3, [encCur ρ0 y6.2]⟩)) rfl rfl rfl cok_93 rfl rfl ⟨_, _, rfl, .same _, ⟨_, _, rfl, Lend.srMap 0 rfl (fun _ => rfl) (.head _), rfl⟩⟩ (bwCons (k := 0) rfl bwNil) (ok_spec_l1Cur_among hh11) rfl (.inr ⟨(by first | omega | (dsimp only; omega)), by rintro _ _ ⟨rfl, rfl⟩; exact ⟨by simp [PV.no, PV.noL, optS_no, noL_iff, nbeq] <;> omega, by intro b ob h; first | exact optH_no (noL_map (fun _ => by simp [PV.no, PV.noL, noL_iff, nbeq]) _) b ob h | (simp only [List.append_assoc, List.mem_append, List.mem_cons, List.mem_singleton, List.not_mem_nil, or_false, Prod.mk.injEq] at h; rcases h with ⟨rfl, rfl⟩ | ⟨rfl, rfl⟩ <;> first | exact noL_map (fun _ => by simp [PV.no, PV.noL, noL_iff, nbeq]) _ | (simp [PV.no, PV.noL, optS_no, noL_iff, nbeq] <;> omega)) | (simp at h; obtain ⟨rfl, rfl⟩ := h; exact noL_map (fun _ => by simp [PV.no, PV.noL, noL_iff, nbeq]) _) | (simp at h; obtain ⟨rfl, rfl⟩ := h; simp [PV.no, PV.noL, optS_no, noL_iff, nbeq] <;> omega)⟩⟩) lt0 ?_)
             rintro _ _ ⟨rfl, rfl⟩
             refine ⟨_, _, rfl, ?_⟩
             refine WalkP.nil (NodeS.branch [5] inNil rfl rfl rfl ⟨?_, trivial⟩)
             ·
              refine ⟨_, _, _, _, rfl, rfl, rfl, (⟨_, _, rfl, rfl, rfl⟩), fun E1 => ?_⟩
              refine (V1.buildSliceT (f := encInt) ([y11.1] : List Int) rfl rfl esz_36 zk_3 rfl rfl rfl rfl rfl rfl rfl lt0 ?_)
              intro b19
              refine ⟨_, _, rfl, ?_⟩
              refine WalkP.nil (NodeS.fin inNil rfl rfl rfl (⟨_, _, rfl, rfl, _, _, rfl, rfl, _, _, rfl, rfl, _, _, rfl, rfl, rfl⟩) ?_)
              refine VO.cons rfl (V1.appendNilE (f := encInt) (l := x_Files) (m := ([y11.1] : List Int)) hob0 rfl rfl rfl rfl rfl esz_36 eby_36 zk_3 rfl rfl rfl (SrcOf.srMap (k := 0) rfl isl_36) rfl hh12 lt0 ?_)
              intro b20
              refine VO.cons rfl (V1.fieldRef rfl rfl fo_67_3 rfl lt0 ?_)
              refine VO.cons rfl (V1.storeRef (k := 4) rfl rfl tyk_36 rfl rfl rfl rfl rfl rfl rfl rfl rfl ?_)
              refine VO.nil ?_
              exact ⟨(((x_Files ++ ([y11.1] : List Int)), y11.2), b20), oi hm2, Keeps.mk (ks := [0, 2, 4, 5]) rfl ⟨rfl, rfl, trivial⟩ (⟨_, _, rfl, rfl, _, _, rfl, rfl, _, _, rfl, rfl, _, _, rfl, rfl, rfl⟩) rfl⟩
           ·
            refine ⟨_, _, _, _, rfl, rfl, rfl, (⟨_, _, rfl, rfl, _, _, rfl, rfl, rfl⟩), fun E1 => ?_⟩
            refine (V1.callM 1 (rn + ρ0 + 1) [b18] [.ref bp 3 0 0, .vl (rn + ρ0 + 1) 1 (List.map encInt ([(0 : Int), (5 : Int), (1000 : Int)] : List Int))] (p := (bp, ⟨3, [encCur ρ0 y6.2]⟩)) rfl rfl rfl cok_93 rfl rfl ⟨_, _, rfl, .same _, ⟨_, _, rfl, Lend.srMap 0 rfl (fun _ => rfl) (.head _), rfl⟩⟩ (bwCons (k := 0) rfl bwNil) (ok_spec_l1Cur_among hh11) rfl (.inr ⟨(by first | omega | (dsimp only; omega)), by rintro _ _ ⟨rfl, rfl⟩; exact ⟨by simp [PV.no, PV.noL, optS_no, noL_iff, nbeq] <;> omega, by intro b ob h; first | exact optH_no (noL_map (fun _ => by simp [PV.no, PV.noL, noL_iff, nbeq]) _) b ob h | (simp only [List.append_assoc, List.mem_append, List.mem_cons, List.mem_singleton, List.not_mem_nil, or_false, Prod.mk.injEq] at h; rcases h with ⟨rfl, rfl⟩ | ⟨rfl, rfl⟩ <;> first | exact noL_map (fun _ => by simp [PV.no, PV.noL, noL_iff, nbeq]) _ | (simp [PV.no, PV.noL, optS_no, noL_iff, nbeq] <;> omega)) | (simp at h; obtain ⟨rfl, rfl⟩ := h; exact noL_map (fun _ => by simp [PV.no, PV.noL, noL_iff, nbeq]) _) | (simp at h; obtain ⟨rfl, rfl⟩ := h; simp [PV.no, PV.noL, optS_no, noL_iff, nbeq] <;> omega)⟩⟩) lt0 ?_)
            rintro _ _ ⟨rfl, rfl⟩
            refine ⟨_, _, rfl, ?_⟩
            refine WalkP.nil (NodeS.branch [1, 5] inNil rfl rfl rfl ⟨?_, ?_, trivial⟩)
            ·
             refine ⟨_, _, _, _, rfl, rfl, rfl, (⟨_, _, rfl, rfl, rfl⟩), fun E1 => ?_⟩
             refine (V1.loadRef (k := 2) rfl rfl tyk_36 rfl rfl rfl rfl rfl lt0 ?_)
             refine ⟨_, _, rfl, ?_⟩
             refine WalkP.nil (NodeS.branch [5] inNil rfl rfl rfl ⟨?_, trivial⟩)
             ·
              refine ⟨_, _, _, _, rfl, rfl, rfl, (⟨_, _, rfl, rfl, rfl⟩), fun E1 => ?_⟩
              refine (V1.buildSliceT (f := encInt) ([y11.1] : List Int) rfl rfl esz_36 zk_3 rfl rfl rfl rfl rfl rfl rfl lt0 ?_)
              intro b21
              refine ⟨_, _, rfl, ?_⟩
              refine WalkP.nil (NodeS.fin inNil rfl rfl rfl (⟨_, _, rfl, rfl, _, _, rfl, rfl, _, _, rfl, rfl, _, _, rfl, rfl, rfl⟩) ?_)
              refine VO.cons rfl (V1.appendNilE (f := encInt) (l := x_Files) (m := ([y11.1] : List Int)) hob0 rfl rfl rfl rfl rfl esz_36 eby_36 zk_3 rfl rfl rfl (SrcOf.srMap (k := 0) rfl isl_36) rfl hh12 lt0 ?_)
              intro b22
              refine VO.cons rfl (V1.fieldRef rfl rfl fo_67_3 rfl lt0 ?_)
              refine VO.cons rfl (V1.storeRef (k := 4) rfl rfl tyk_36 rfl rfl rfl rfl rfl rfl rfl rfl rfl ?_)
              refine VO.nil ?_
              exact ⟨(((x_Files ++ ([y11.1] : List Int)), y11.2), b22), oi hm2, Keeps.mk (ks := [0, 2, 4, 5]) rfl ⟨rfl, rfl, trivial⟩ (⟨_, _, rfl, rfl, _, _, rfl, rfl, _, _, rfl, rfl, _, _, rfl, rfl, rfl⟩) rfl⟩
            ·
             refine ⟨_, _, _, _, rfl, rfl, rfl, (⟨_, _, rfl, rfl, rfl⟩), fun E1 => ?_⟩
             refine (V1.buildSliceT (f := encInt) ([y11.1] : List Int) rfl rfl esz_36 zk_3 rfl rfl rfl rfl rfl rfl rfl lt0 ?_)
             intro b23
             refine ⟨_, _, rfl, ?_⟩
             refine WalkP.nil (NodeS.branch [1] inNil rfl rfl rfl ⟨?_, trivial⟩)
             ·
              refine ⟨_, _, _, _, rfl, rfl, rfl, (⟨_, _, rfl, rfl, rfl⟩), fun E1 => ?_⟩
              refine (V1.loadRef (k := 3) rfl rfl tyk_36 rfl rfl rfl rfl rfl lt0 ?_)
              refine ⟨_, _, rfl, ?_⟩
              refine WalkP.nil (NodeS.fin inNil rfl rfl rfl (⟨_, _, rfl, rfl, _, _, rfl, rfl, _, _, rfl, rfl, _, _, rfl, rfl, rfl⟩) ?_)
              refine VO.cons rfl (V1.appendNilE (f := encInt) (l := x_Files) (m := ([y11.1] : List Int)) hob0 rfl rfl rfl rfl rfl esz_36 eby_36 zk_3 rfl rfl rfl (SrcOf.srMap (k := 0) rfl isl_36) rfl hh12 lt0 ?_)
              intro b24
              refine VO.cons rfl (V1.fieldRef rfl rfl fo_67_3 rfl lt0 ?_)
              refine VO.cons rfl (V1.storeRef (k := 4) rfl rfl tyk_36 rfl rfl rfl rfl rfl rfl rfl rfl rfl ?_)
              refine VO.nil ?_
              exact ⟨(((x_Files ++ ([y11.1] : List Int)), y11.2), b24), oi hm2, Keeps.mk (ks := [0, 2, 4, 5]) rfl ⟨rfl, rfl, trivial⟩ (⟨_, _, rfl, rfl, _, _, rfl, rfl, _, _, rfl, rfl, _, _, rfl, rfl, rfl⟩) rfl⟩
         ·
          rintro ⟨⟨x_Files2, o⟩, b14⟩ rfl
          try dsimp only at hm1
          exact ⟨((id_, y0.1, y1.1, x_Files2, y2.1, o), (some b14)), ⟨oi hm1, (fun e => by cases e)⟩, Keeps.mk (ks := [0, 1, 2, 3]) rfl ⟨rfl, rfl, trivial⟩ (⟨_, _, rfl, rfl, _, _, rfl, rfl, _, _, rfl, rfl, _, _, rfl, rfl, rfl⟩) rfl⟩
        ·
         replace hm1 := cond_f hc5 hm1
         refine V.seq (V.region (VO.cons rfl (V1.it ?_)))
         refine VO.cons rfl (V1.as ?_)
         refine VO.nil (V.keep 91 [0, 2, 6, 7, 73] [0, 1, 2] (E0 := [(0, .ref bp 3 0 0), (2, .int .i64 first0), (6, .ref b0 5 0 0), (7, .ref b4 5 0 0), (73, .bool (y6.1 == (5 : Int)))]) (H0 := [(bp, ⟨3, [encCur ρ0 y6.2]⟩), (b4, ⟨5, [.agg [.int .i64 id_, .int .i64 y0.1, .int .i64 y1.1, .nils, .int .i64 y2.1]]⟩), (b0, ⟨5, [.agg [.int .i64 (0 : Int), .int .i64 (0 : Int), .int .i64 (0 : Int), .nils, .int .i64 (0 : Int)]]⟩)]) rfl (⟨_, _, rfl, rfl, _, _, rfl, rfl, _, _, rfl, rfl, _, _, rfl, rfl, _, _, rfl, rfl, rfl⟩) (⟨_, _, rfl, rfl, _, _, rfl, rfl, _, _, rfl, rfl, rfl⟩) rfl ?_)
         refine V.cond rfl (fun hc6 => ?_) (fun hc6 => ?_)
         ·
          replace hm1 := cond_t hc6 hm1
          replace hm1 := bindO hm1; rcases hm1 with ⟨e1, he2, hm1⟩
          refine V.cutT (D := (List Int × Cur) × (Option Nat)) (fun ⟨⟨x_Files3, c_2⟩, ob3⟩ => ⟨91, [(6, .ref b0 5 0 0), (7, .ref b4 5 0 0)], optH 1 ob3 (List.map encInt x_Files3) ++ [(bp, ⟨3, [encCur ρ0 c_2]⟩)] ++ [(b4, ⟨5, [.agg [.int .i64 id_, .int .i64 y0.1, .int .i64 y1.1, optS 1 ob3 (List.length x_Files3), .int .i64 y2.1]]⟩)] ++ [(b0, ⟨5, [.agg [.int .i64 (0 : Int), .int .i64 (0 : Int), .int .i64 (0 : Int), .nils, .int .i64 (0 : Int)]]⟩)]⟩) (fun ⟨⟨x_Files3, c_2⟩, ob3⟩ => ((x_Files3, c_2) = e1) ∧ (ob3 = none → x_Files3 = [])) ?_ ?_
          ·
           refine V.block ?_
           refine V.keep 91 [2, 0, 6, 7] [0, 1, 2] (E0 := [(2, .int .i64 first0), (0, .ref bp 3 0 0), (6, .ref b0 5 0 0), (7, .ref b4 5 0 0)]) (H0 := [(bp, ⟨3, [encCur ρ0 y6.2]⟩), (b4, ⟨5, [.agg [.int .i64 id_, .int .i64 y0.1, .int .i64 y1.1, .nils, .int .i64 y2.1]]⟩), (b0, ⟨5, [.agg [.int .i64 (0 : Int), .int .i64 (0 : Int), .int .i64 (0 : Int), .nils, .int .i64 (0 : Int)]]⟩)]) rfl (⟨_, _, rfl, rfl, _, _, rfl, rfl, _, _, rfl, rfl, _, _, rfl, rfl, rfl⟩) (⟨_, _, rfl, rfl, _, _, rfl, rfl, _, _, rfl, rfl, rfl⟩) rfl ?_
           refine V.loopE (D := Nat × (Int × List Int × Cur) × (Option Nat)) (fun ⟨n1, ⟨first2, x_Files4, c_3⟩, ob4⟩ => [(2, .int .i64 first2)]) (fun ⟨n1, ⟨first2, x_Files4, c_3⟩, ob4⟩ => optH 1 ob4 (List.map encInt x_Files4) ++ [(bp, ⟨3, [encCur ρ0 c_3]⟩)] ++ [(b4, ⟨5, [.agg [.int .i64 id_, .int .i64 y0.1, .int .i64 y1.1, optS 1 ob4 (List.length x_Files4), .int .i64 y2.1]]⟩)]) (fun ⟨n1, ⟨first2, x_Files4, c_3⟩, ob4⟩ => loopO (M.spec_l1Cur_carton_l1) n1 (first2, x_Files4, c_3) = some e1 ∧ (ob4 = none → x_Files4 = [])) (fun ⟨n1, _, _⟩ => n1) (rounds, (first0, x_Files, y6.2), none) rfl ⟨he2, (fun _ => hob0)⟩ ?_
           rintro ⟨n1, ⟨first2, x_Files4, c_3⟩, ob4⟩ ⟨hP1, hob4⟩
           obtain ⟨m1, y12, rfl, hm2, hl2, hr2⟩ := loop_head hP1
           unfold M.spec_l1Cur_carton_l1 at hm2; dsimp only at hm2
           rcases ob4 with _ | ob4
           ·
            replace hob4 := hob4 rfl
            show V _ _ _ ⟨91, [(2, .int .i64 first2), (0, .ref bp 3 0 0), (6, .ref b0 5 0 0), (7, .ref b4 5 0 0)], [(bp, ⟨3, [encCur ρ0 c_3]⟩), (b4, ⟨5, [.agg [.int .i64 id_, .int .i64 y0.1, .int .i64 y1.1, .nils, .int .i64 y2.1]]⟩), (b0, ⟨5, [.agg [.int .i64 (0 : Int), .int .i64 (0 : Int), .int .i64 (0 : Int), .nils, .int .i64 (0 : Int)]]⟩)]⟩
            refine V.seq (V.seq ?_)
            replace hm2 := bindO hm2; rcases hm2 with ⟨y13, hh13, hm2⟩
            refine V.regionS [(b4, ⟨5, [.agg [.int .i64 id_, .int .i64 y0.1, .int .i64 y1.1, .nils, .int .i64 y2.1]]⟩)] 91 6 [⟨[(7, none)], false⟩, ⟨[(75, some 0)], false⟩, ⟨[(76, some 1)], false⟩, ⟨[(0, none)], false⟩, ⟨[(78, some 3)], true⟩, ⟨[(79, some 4)], false⟩] [(0, none), (2, none), (6, none), (7, none), (77, some 2), (80, some 5)] 1 (⟨_, rfl, ⟨_, rfl, ⟨_, rfl, ⟨_, rfl, ⟨_, rfl, ⟨_, rfl, ⟨rfl, rfl⟩⟩⟩⟩⟩⟩⟩) mixed_orders rfl (by decide +kernel) ?_
            refine WalkP.step (p := ?pv772) 0 rfl rfl rfl rfl rfl (⟨_, _, rfl, rfl, rfl⟩) ?hv772 ?rest772
            case hv772 =>
             intro E1 H1 hI1
             refine (V1.fieldRef rfl rfl fo_67_3 rfl lt0 ?_)
             exact rfl
            refine WalkP.step (p := ?pv773) 1 rfl rfl rfl rfl rfl (⟨_, _, rfl, rfl, rfl⟩) ?hv773 ?rest773
            case hv773 =>
             intro E1 H1 hI1
             obtain ⟨k774_, hk774_⟩ := inGet 0 rfl hI1
             refine (V1.loadRef (k := k774_) rfl rfl tyk_36 rfl hk774_ rfl rfl rfl lt0 ?_)
             exact rfl
            refine WalkP.step (p := ?pv775) 2 rfl rfl rfl rfl rfl (⟨_, _, rfl, rfl, rfl⟩) ?hv775 ?rest775
            case hv775 =>
             intro E1 H1 hI1
             refine (V1.lenNilsE (l := x_Files4) hob4 rfl rfl rfl rfl rfl rfl isl_36 lt0 ?_)
             exact rfl
            refine WalkP.step (p := ?pv776) 3 rfl rfl rfl rfl rfl (⟨_, _, rfl, rfl, rfl⟩) ?hv776 ?rest776
            case hv776 =>
             intro E1 H1 hI1
             refine (V1.mv ?_)
             exact rfl
            refine WalkP.nil (NodeS.branch [4] (inCons 1 rfl inNil) rfl rfl rfl ⟨?_, trivial⟩)
            ·
             refine ⟨_, _, _, _, rfl, rfl, rfl, (⟨_, _, rfl, rfl, rfl⟩), fun E1 => ?_⟩
             refine (V1.callM 0 (rn + ρ0 + 1) [] [.ref bp 3 0 0, .int .i64 (2 : Int)] (p := (bp, ⟨3, [encCur ρ0 c_3]⟩)) rfl rfl rfl cok_94 rfl rfl ⟨_, _, rfl, .same _, ⟨_, _, rfl, .same _, rfl⟩⟩ bwNil (ok_spec_l1Cur_pick hh13) rfl (.inl rfl) lt0 ?_)
             rintro _ _ ⟨rfl, rfl⟩
             refine ⟨_, _, rfl, ?_⟩
             refine WalkP.step (p := ?pv778) 5 rfl rfl rfl rfl rfl (⟨_, _, rfl, rfl, rfl⟩) ?hv778 ?rest778
             case hv778 =>
              intro E1 H1 hI1
              refine (V1.it ?_)
              exact rfl
             refine WalkP.nil (NodeS.fin (inCons 1 rfl inNil) rfl rfl rfl (⟨_, _, rfl, rfl, _, _, rfl, rfl, _, _, rfl, rfl, _, _, rfl, rfl, _, _, rfl, rfl, _, _, rfl, rfl, rfl⟩) ?_)
             refine VO.cons rfl (V1.it ?_)
             refine VO.nil (V.cond rfl (fun hc7 => ?_) (fun hc7 => ?_))
             ·
              replace hm2 := cond_t hc7 hm2
              refine V.skip ?_
              refine V.block ?_
              refine V.seq ?_
              replace hm2 := asrt_some hm2; rcases hm2 with ⟨hh14, hm2⟩
              refine V.region (VO.cons rfl (V1.fieldRef rfl rfl fo_67_3 rfl lt0 ?_))
              refine VO.cons rfl (V1.loadRef (k := 1) rfl rfl tyk_36 rfl rfl rfl rfl rfl lt0 ?_)
              refine VO.cons rfl (V1.mv ?_)
              refine VO.cons rfl (V1.buildSliceT (f := encInt) ([first2] : List Int) rfl rfl esz_36 zk_3 rfl rfl rfl rfl rfl rfl rfl lt0 ?_)
              intro b25
              refine VO.cons rfl (V1.appendNilE (f := encInt) (l := x_Files4) (m := ([first2] : List Int)) hob4 rfl rfl rfl rfl rfl esz_36 eby_36 zk_3 rfl rfl rfl (SrcOf.srMap (k := 0) rfl isl_36) rfl hh14 lt0 ?_)
              intro b26
              refine VO.cons rfl (V1.fieldRef rfl rfl fo_67_3 rfl lt0 ?_)
              refine VO.cons rfl (V1.storeRef (k := 3) rfl rfl tyk_36 rfl rfl rfl rfl rfl rfl rfl rfl rfl ?_)
              refine VO.nil (V.keep 91 [0, 2, 6, 7] [0, 2, 3, 4] (E0 := [(0, .ref bp 3 0 0), (2, .int .i64 first2), (6, .ref b0 5 0 0), (7, .ref b4 5 0 0)]) (H0 := [(b26, ⟨1, List.map encInt (x_Files4 ++ ([first2] : List Int))⟩), (bp, ⟨3, [encCur ρ0 y13.2]⟩), (b4, ⟨5, [.agg [.int .i64 id_, .int .i64 y0.1, .int .i64 y1.1, .sref b26 1 0 (List.length (x_Files4 ++ ([first2] : List Int))), .int .i64 y2.1]]⟩), (b0, ⟨5, [.agg [.int .i64 (0 : Int), .int .i64 (0 : Int), .int .i64 (0 : Int), .nils, .int .i64 (0 : Int)]]⟩)]) rfl (⟨_, _, rfl, rfl, _, _, rfl, rfl, _, _, rfl, rfl, _, _, rfl, rfl, rfl⟩) (⟨_, _, rfl, rfl, _, _, rfl, rfl, _, _, rfl, rfl, _, _, rfl, rfl, rfl⟩) rfl ?_)
              refine V.region (VO.cons rfl (V1.mv ?_))
              refine VO.cons rfl (V1.it ?_)
              refine VO.cons rfl (V1.as ?_)
              refine VO.nil ?_
              exact ⟨(m1, ((IntKind.i64.wrap (first2 + (1 : Int))), (x_Files4 ++ ([first2] : List Int)), y13.2), (some b26)), ⟨hl2 _ (oi hm2).symm, (fun e => by cases e)⟩, Nat.lt_succ_self _, Keeps.mk (ks := [0, 1, 2, 3]) rfl ⟨rfl, rfl, rfl, rfl, trivial⟩ (⟨_, _, rfl, rfl, _, _, rfl, rfl, _, _, rfl, rfl, _, _, rfl, rfl, rfl⟩) rfl⟩
             ·
              replace hm2 := cond_f hc7 hm2
              refine V.exit ?_
              obtain rfl := hr2 _ (oi hm2).symm
              exact ⟨((x_Files4, y13.2), none), ⟨rfl, (fun _ => hob4)⟩, Keeps.mk (ks := [0, 1, 2]) rfl ⟨rfl, rfl, trivial⟩ (⟨_, _, rfl, rfl, _, _, rfl, rfl, _, _, rfl, rfl, rfl⟩) rfl⟩
           ·
            show V _ _ _ ⟨91, [(2, .int .i64 first2), (0, .ref bp 3 0 0), (6, .ref b0 5 0 0), (7, .ref b4 5 0 0)], [(ob4, ⟨1, List.map encInt x_Files4⟩), (bp, ⟨3, [encCur ρ0 c_3]⟩), (b4, ⟨5, [.agg [.int .i64 id_, .int .i64 y0.1, .int .i64 y1.1, .sref ob4 1 0 (List.length x_Files4), .int .i64 y2.1]]⟩), (b0, ⟨5, [.agg [.int .i64 (0 : Int), .int .i64 (0 : Int), .int .i64 (0 : Int), .nils, .int .i64 (0 : Int)]]⟩)]⟩
            refine V.seq (V.seq ?_)
            replace hm2 := bindO hm2; rcases hm2 with ⟨y13, hh13, hm2⟩
            refine V.regionS [(b4, ⟨5, [.agg [.int .i64 id_, .int .i64 y0.1, .int .i64 y1.1, .sref ob4 1 0 (List.length x_Files4), .int .i64 y2.1]]⟩)] 91 6 [⟨[(7, none)], false⟩, ⟨[(75, some 0)], false⟩, ⟨[(76, some 1)], false⟩, ⟨[(0, none)], false⟩, ⟨[(78, some 3)], true⟩, ⟨[(79, some 4)], false⟩] [(0, none), (2, none), (6, none), (7, none), (77, some 2), (80, some 5)] 1 (⟨_, rfl, ⟨_, rfl, ⟨_, rfl, ⟨_, rfl, ⟨_, rfl, ⟨_, rfl, ⟨rfl, rfl⟩⟩⟩⟩⟩⟩⟩) mixed_orders rfl (by decide +kernel) ?_
            refine WalkP.step (p := ?pv782) 0 rfl rfl rfl rfl rfl (⟨_, _, rfl, rfl, rfl⟩) ?hv782 ?rest782
            case hv782 =>
             intro E1 H1 hI1
             refine (V1.fieldRef rfl rfl fo_67_3 rfl lt0 ?_)
             exact rfl
            refine WalkP.step (p := ?pv783) 1 rfl rfl rfl rfl rfl (⟨_, _, rfl, rfl, rfl⟩) ?hv783 ?rest783
            case hv783 =>
             intro E1 H1 hI1
             obtain ⟨k784_, hk784_⟩ := inGet 0 rfl hI1
             refine (V1.loadRef (k := k784_) rfl rfl tyk_36 rfl hk784_ rfl rfl rfl lt0 ?_)
             exact rfl
            refine WalkP.step (p := ?pv785) 2 rfl rfl rfl rfl rfl (⟨_, _, rfl, rfl, rfl⟩) ?hv785 ?rest785
            case hv785 =>
             intro E1 H1 hI1
             refine (V1.lenSref rfl rfl rfl rfl rfl rfl isl_36 lt0 ?_)
             exact rfl
            refine WalkP.step (p := ?pv786) 3 rfl rfl rfl rfl rfl (⟨_, _, rfl, rfl, rfl⟩) ?hv786 ?rest786
            case hv786 =>
             intro E1 H1 hI1
             refine (V1.mv ?_)
             exact rfl
            refine WalkP.nil (NodeS.branch [4] (inCons 2 rfl inNil) rfl rfl rfl ⟨?_, trivial⟩)
            ·
             refine ⟨_, _, _, _, rfl, rfl, rfl, (⟨_, _, rfl, rfl, rfl⟩), fun E1 => ?_⟩
             refine (V1.callM 1 (rn + ρ0 + 1) [] [.ref bp 3 0 0, .int .i64 (2 : Int)] (p := (bp, ⟨3, [encCur ρ0 c_3]⟩)) rfl rfl rfl cok_94 rfl rfl ⟨_, _, rfl, .same _, ⟨_, _, rfl, .same _, rfl⟩⟩ bwNil (ok_spec_l1Cur_pick hh13) rfl (.inl rfl) lt0 ?_)
             rintro _ _ ⟨rfl, rfl⟩
             refine ⟨_, _, rfl, ?_⟩
             refine WalkP.step (p := ?pv788) 5 rfl rfl rfl rfl rfl (⟨_, _, rfl, rfl, rfl⟩) ?hv788 ?rest788
             case hv788 =>
              intro E1 H1 hI1
              refine (V1.it ?_)
              exact rfl
             refine WalkP.nil (NodeS.fin (inCons 2 rfl inNil) rfl rfl rfl (⟨_, _, rfl, rfl, _, _, rfl, rfl, _, _, rfl, rfl, _, _, rfl, rfl, _, _, rfl, rfl, _, _, rfl, rfl, rfl⟩) ?_)
             refine VO.cons rfl (V1.it ?_)
             refine VO.nil (V.cond rfl (fun hc7 => ?_) (fun hc7 => ?_))
             ·
              replace hm2 := cond_t hc7 hm2
              refine V.skip ?_
              refine V.block ?_
              refine V.seq ?_
              replace hm2 := asrt_some hm2; rcases hm2 with ⟨hh14, hm2⟩
              refine V.region (VO.cons rfl (V1.fieldRef rfl rfl fo_67_3 rfl lt0 ?_))
              refine VO.cons rfl (V1.loadRef (k := 2) rfl rfl tyk_36 rfl rfl rfl rfl rfl lt0 ?_)
              refine VO.cons rfl (V1.mv ?_)
              refine VO.cons rfl (V1.buildSliceT (f := encInt) ([first2] : List Int) rfl rfl esz_36 zk_3 rfl rfl rfl rfl rfl rfl rfl lt0 ?_)
              intro b25
              refine VO.cons rfl (V1.appendMap (k := 2) (f := encInt) (l := x_Files4) (m := ([first2] : List Int)) rfl rfl rfl rfl rfl esz_36 eby_36 zk_3 rfl rfl rfl (SrcOf.srMap (k := 0) rfl isl_36) hh14 lt0 ?_)
              intro b26
              refine VO.cons rfl (V1.fieldRef rfl rfl fo_67_3 rfl lt0 ?_)
              refine VO.cons rfl (V1.storeRef (k := 3) rfl rfl tyk_36 rfl rfl rfl rfl rfl rfl rfl rfl rfl ?_)
              refine VO.nil (V.keep 91 [0, 2, 6, 7] [0, 2, 3, 4] (E0 := [(0, .ref bp 3 0 0), (2, .int .i64 first2), (6, .ref b0 5 0 0), (7, .ref b4 5 0 0)]) (H0 := [(b26, ⟨1, List.map encInt (x_Files4 ++ ([first2] : List Int))⟩), (bp, ⟨3, [encCur ρ0 y13.2]⟩), (b4, ⟨5, [.agg [.int .i64 id_, .int .i64 y0.1, .int .i64 y1.1, .sref b26 1 0 (List.length (x_Files4 ++ ([first2] : List Int))), .int .i64 y2.1]]⟩), (b0, ⟨5, [.agg [.int .i64 (0 : Int), .int .i64 (0 : Int), .int .i64 (0 : Int), .nils, .int .i64 (0 : Int)]]⟩)]) rfl (⟨_, _, rfl, rfl, _, _, rfl, rfl, _, _, rfl, rfl, _, _, rfl, rfl, rfl⟩) (⟨_, _, rfl, rfl, _, _, rfl, rfl, _, _, rfl, rfl, _, _, rfl, rfl, rfl⟩) rfl ?_)
              refine V.region (VO.cons rfl (V1.mv ?_))
              refine VO.cons rfl (V1.it ?_)
              refine VO.cons rfl (V1.as ?_)
              refine VO.nil ?_
              exact ⟨(m1, ((IntKind.i64.wrap (first2 + (1 : Int))), (x_Files4 ++ ([first2] : List Int)), y13.2), (some b26)), ⟨hl2 _ (oi hm2).symm, (fun e => by cases e)⟩, Nat.lt_succ_self _, Keeps.mk (ks := [0, 1, 2, 3]) rfl ⟨rfl, rfl, rfl, rfl, trivial⟩ (⟨_, _, rfl, rfl, _, _, rfl, rfl, _, _, rfl, rfl, _, _, rfl, rfl, rfl⟩) rfl⟩
             ·
              replace hm2 := cond_f hc7 hm2
              refine V.exit ?_
              obtain rfl := hr2 _ (oi hm2).symm
              exact ⟨((x_Files4, y13.2), (some ob4)), ⟨rfl, (fun e => by cases e)⟩, Keeps.mk (ks := [1, 0, 2, 3]) rfl ⟨rfl, rfl, trivial⟩ (⟨_, _, rfl, rfl, _, _, rfl, rfl, _, _, rfl, rfl, _, _, rfl, rfl, rfl⟩) rfl⟩
          ·
           rintro ⟨⟨x_Files3, c_2⟩, ob3⟩ ⟨rfl, hob3⟩
           try dsimp only at hm1
           rcases ob3 with _ | ob3
           ·
            replace hob3 := hob3 rfl
            exact ⟨((id_, y0.1, y1.1, x_Files3, y2.1, c_2), none), ⟨oi hm1, (fun _ => hob3)⟩, Keeps.mk (ks := [0, 1, 2]) rfl ⟨rfl, rfl, trivial⟩ (⟨_, _, rfl, rfl, _, _, rfl, rfl, _, _, rfl, rfl, rfl⟩) rfl⟩
           ·
            exact ⟨((id_, y0.1, y1.1, x_Files3, y2.1, c_2), (some ob3)), ⟨oi hm1, (fun e => by cases e)⟩, Keeps.mk (ks := [0, 1, 2, 3]) rfl ⟨rfl, rfl, trivial⟩ (⟨_, _, rfl, rfl, _, _, rfl, rfl, _, _, rfl, rfl, _, _, rfl, rfl, rfl⟩) rfl⟩
         ·
          replace hm1 := cond_f hc6 hm1
          refine V.skip ?_
          exact ⟨((id_, y0.1, y1.1, x_Files, y2.1, y6.2), none), ⟨oi hm1, (fun _ => hob0)⟩, Keeps.mk (ks := [0, 1, 2]) rfl ⟨rfl, rfl, trivial⟩ (⟨_, _, rfl, rfl, _, _, rfl, rfl, _, _, rfl, rfl, rfl⟩) rfl⟩
   ·
    rintro ⟨⟨x_Id, x_Shelf, x_Room, x_Files1, x_Thick, c_1⟩, ob2⟩ ⟨rfl, hob2⟩
    try dsimp only at hm0
    rcases ob2 with _ | ob2
    ·
     replace hob2 := hob2 rfl
     refine V.seq (V.region (VO.cons rfl (V1.loadRefAll (k := 1) rfl rfl tyk_67 rfl rfl rfl rfl rfl lt0 ?_)))
     refine VO.cons rfl (V1.storeRefAll (k := 2) rfl rfl tyk_67 rfl rfl rfl rfl rfl rfl ?_)
     refine VO.nil (V.weakenK (Keeps.leObj 2 [.agg [.int .i64 x_Id, .int .i64 x_Shelf, .int .i64 x_Room, .vl rn 1 (List.map encInt x_Files1), .int .i64 x_Thick]] rfl (.cons (.agg (.cons .same (.cons .same (.cons .same (.cons (.nils (l := x_Files1) (f := encInt) rn 1 hob2 rfl) (.cons .same .nil)))))) .nil)) ?_)
     refine V.ret ?_
     obtain rfl := oi hm0
     exact ⟨_, _, ⟨_, _, rfl, ⟨_, _, 2, _, rfl, rfl, rfl, rfl, tyk_67, rfl⟩, rfl⟩, (sub1 (k := 0) rfl), rfl, rfl⟩
    ·
     refine V.seq (V.region (VO.cons rfl (V1.loadRefAll (k := 2) rfl rfl tyk_67 rfl rfl rfl rfl rfl lt0 ?_)))
     refine VO.cons rfl (V1.storeRefAll (k := 3) rfl rfl tyk_67 rfl rfl rfl rfl rfl rfl ?_)
     refine VO.nil (V.weakenK (Keeps.freezeG 0 rn [(90, .agg [.int .i64 x_Id, .int .i64 x_Shelf, .int .i64 x_Room, .vl rn 1 (List.map encInt x_Files1), .int .i64 x_Thick])] ([(bp, ⟨3, [encCur ρ0 c_1]⟩), (b4, ⟨5, [.agg [.int .i64 x_Id, .int .i64 x_Shelf, .int .i64 x_Room, .vl rn 1 (List.map encInt x_Files1), .int .i64 x_Thick]]⟩), (b0, ⟨5, [.agg [.int .i64 x_Id, .int .i64 x_Shelf, .int .i64 x_Room, .vl rn 1 (List.map encInt x_Files1), .int .i64 x_Thick]]⟩)]) (f := encInt) (l := x_Files1) rfl (fun _ => rfl) ⟨⟨_, rfl, (.agg (.cons .same (.cons .same (.cons .same (.cons .here (.cons .same .nil))))))⟩, trivial⟩ ⟨_, _, rfl, rfl, .inl rfl, ⟨_, _, rfl, rfl, .inr (.cons (.agg (.cons .same (.cons .same (.cons .same (.cons .here (.cons .same .nil)))))) .nil), ⟨_, _, rfl, rfl, .inr (.cons (.agg (.cons .same (.cons .same (.cons .same (.cons .here (.cons .same .nil)))))) .nil), rfl⟩⟩⟩ rfl (iOne (b := bp) 0 rfl)) ?_)
     refine V.ret ?_
     obtain rfl := oi hm0
     exact ⟨_, _, ⟨_, _, rfl, ⟨_, _, 2, _, rfl, rfl, rfl, rfl, tyk_67, rfl⟩, rfl⟩, (sub1 (k := 0) rfl), rfl, rfl⟩
  ·
   refine V.seq (V.seq ?_)
   replace hm0 := bindO hm0; rcases hm0 with ⟨y6, hh6, hm0⟩
   refine V.region (VO.cons rfl (V1.mv ?_))
   refine VO.cons rfl (V1.callM 1 (rn + ρ0 + 1) [] [.ref bp 3 0 0, .int .i64 (70 : Int)] (p := (bp, ⟨3, [encCur ρ0 c_]⟩)) rfl rfl rfl cok_94 rfl rfl ⟨_, _, rfl, .same _, ⟨_, _, rfl, .same _, rfl⟩⟩ bwNil (ok_spec_l1Cur_pick hh6) rfl (.inl rfl) lt0 ?_)
   rintro _ _ ⟨rfl, rfl⟩
   refine VO.nil ?_
   replace hm0 := bindO hm0; rcases hm0 with ⟨j0, hm1, hm0⟩
   refine V.cutT (D := (Int × Int × Int × List Int × Int × Cur) × (Nat)) (fun ⟨⟨x_Id, x_Shelf, x_Room, x_Files1, x_Thick, c_1⟩, b7⟩ => ⟨91, [(6, .ref b0 5 0 0), (7, .ref b4 5 0 0)], [(b7, ⟨1, List.map encInt x_Files1⟩), (bp, ⟨3, [encCur ρ0 c_1]⟩), (b4, ⟨5, [.agg [.int .i64 x_Id, .int .i64 x_Shelf, .int .i64 x_Room, .sref b7 1 0 (List.length x_Files1), .int .i64 x_Thick]]⟩), (b0, ⟨5, [.agg [.int .i64 (0 : Int), .int .i64 (0 : Int), .int .i64 (0 : Int), .nils, .int .i64 (0 : Int)]]⟩)]⟩) (fun ⟨⟨x_Id, x_Shelf, x_Room, x_Files1, x_Thick, c_1⟩, b7⟩ => ((x_Id, x_Shelf, x_Room, x_Files1, x_Thick, c_1) = j0)) ?_ ?_
   ·
    refine V.block ?_
    refine V.seq (V.region (VO.cons rfl (V1.it ?_)))
    refine VO.cons rfl (V1.as ?_)
    refine VO.nil (V.cond rfl (fun hc1 => ?_) (fun hc1 => ?_))
    ·
     replace hm1 := cond_t hc1 hm1
     replace hm1 := bindO hm1; rcases hm1 with ⟨y7, hh7, hm1⟩
     refine V.region (VO.cons rfl (V1.mv ?_))
     refine VO.cons rfl (V1.buildSliceT (f := encInt) ([(0 : Int), (99 : Int), (100 : Int)] : List Int) rfl rfl esz_36 zk_3 rfl rfl rfl rfl rfl rfl rfl lt0 ?_)
     intro b8
     refine VO.cons rfl (V1.callM 1 (rn + ρ0 + 1) [b8] [.ref bp 3 0 0, .vl (rn + ρ0 + 1) 1 (List.map encInt ([(0 : Int), (99 : Int), (100 : Int)] : List Int))] (p := (bp, ⟨3, [encCur ρ0 y6.2]⟩)) rfl rfl rfl cok_93 rfl rfl ⟨_, _, rfl, .same _, ⟨_, _, rfl, Lend.srMap 0 rfl (fun _ => rfl) (.head _), rfl⟩⟩ (bwCons (k := 0) rfl bwNil) (ok_spec_l1Cur_among hh7) rfl (.inr ⟨(by first | omega | (dsimp only; omega)), by rintro _ _ ⟨rfl, rfl⟩; exact ⟨by simp [PV.no, PV.noL, optS_no, noL_iff, nbeq] <;> omega, by intro b ob h; first | exact optH_no (noL_map (fun _ => by simp [PV.no, PV.noL, noL_iff, nbeq]) _) b ob h | (simp only [List.append_assoc, List.mem_append, List.mem_cons, List.mem_singleton, List.not_mem_nil, or_false, Prod.mk.injEq] at h; rcases h with ⟨rfl, rfl⟩ | ⟨rfl, rfl⟩ <;> first | exact noL_map (fun _ => by simp [PV.no, PV.noL, noL_iff, nbeq]) _ | (simp [PV.no, PV.noL, optS_no, noL_iff, nbeq] <;> omega)) | (simp at h; obtain ⟨rfl, rfl⟩ := h; exact noL_map (fun _ => by simp [PV.no, PV.noL, noL_iff, nbeq]) _) | (simp at h; obtain ⟨rfl, rfl⟩ := h; simp [PV.no, PV.noL, optS_no, noL_iff, nbeq] <;> omega)⟩⟩) lt0 ?_)
     rintro _ _ ⟨rfl, rfl⟩
     refine VO.cons rfl (V1.fieldRef rfl rfl fo_67_0 rfl lt0 ?_)
     refine VO.cons rfl (V1.storeRef (k := 3) rfl rfl tyk_3 rfl rfl rfl rfl rfl rfl rfl rfl rfl ?_)
     refine VO.nil ?_
     exact ⟨((y7.1, y0.1, y1.1, x_Files, y2.1, y7.2), ob0), oi hm1, Keeps.mk (ks := [2, 0, 3, 4]) rfl ⟨rfl, rfl, trivial⟩ (⟨_, _, rfl, rfl, _, _, rfl, rfl, _, _, rfl, rfl, _, _, rfl, rfl, rfl⟩) rfl⟩
    ·
     replace hm1 := cond_f hc1 hm1
     refine V.seq (V.region (VO.cons rfl (V1.it ?_)))
     refine VO.cons rfl (V1.as ?_)
     refine VO.nil (V.keep 91 [0, 2, 6, 7, 38, 45] [0, 1, 2, 3] (E0 := [(0, .ref bp 3 0 0), (2, .int .i64 first0), (6, .ref b0 5 0 0), (7, .ref b4 5 0 0), (38, .int .i64 y6.1), (45, .bool (y6.1 == (1 : Int)))]) (H0 := [(bp, ⟨3, [encCur ρ0 y6.2]⟩), (ob0, ⟨1, List.map encInt x_Files⟩), (b4, ⟨5, [.agg [.int .i64 id_, .int .i64 y0.1, .int .i64 y1.1, .sref ob0 1 0 (List.length x_Files), .int .i64 y2.1]]⟩), (b0, ⟨5, [.agg [.int .i64 (0 : Int), .int .i64 (0 : Int), .int .i64 (0 : Int), .nils, .int .i64 (0 : Int)]]⟩)]) rfl (⟨_, _, rfl, rfl, _, _, rfl, rfl, _, _, rfl, rfl, _, _, rfl, rfl, _, _, rfl, rfl, _, _, rfl, rfl, rfl⟩) (⟨_, _, rfl, rfl, _, _, rfl, rfl, _, _, rfl, rfl, _, _, rfl, rfl, rfl⟩) rfl ?_)
     refine V.cond rfl (fun hc2 => ?_) (fun hc2 => ?_)
     ·
      replace hm1 := cond_t hc2 hm1
      replace hm1 := bindO hm1; rcases hm1 with ⟨y8, hh8, hm1⟩
      refine V.region (VO.cons rfl (V1.mv ?_))
      refine VO.cons rfl (V1.buildSliceT (f := encInt) ([(0 : Int), (31 : Int)] : List Int) rfl rfl esz_36 zk_3 rfl rfl rfl rfl rfl rfl rfl lt0 ?_)
      intro b9
      refine VO.cons rfl (V1.callM 1 (rn + ρ0 + 1) [b9] [.ref bp 3 0 0, .vl (rn + ρ0 + 1) 1 (List.map encInt ([(0 : Int), (31 : Int)] : List Int))] (p := (bp, ⟨3, [encCur ρ0 y6.2]⟩)) rfl rfl rfl cok_93 rfl rfl ⟨_, _, rfl, .same _, ⟨_, _, rfl, Lend.srMap 0 rfl (fun _ => rfl) (.head _), rfl⟩⟩ (bwCons (k := 0) rfl bwNil) (ok_spec_l1Cur_among hh8) rfl (.inr ⟨(by first | omega | (dsimp only; omega)), by rintro _ _ ⟨rfl, rfl⟩; exact ⟨by simp [PV.no, PV.noL, optS_no, noL_iff, nbeq] <;> omega, by intro b ob h; first | exact optH_no (noL_map (fun _ => by simp [PV.no, PV.noL, noL_iff, nbeq]) _) b ob h | (simp only [List.append_assoc, List.mem_append, List.mem_cons, List.mem_singleton, List.not_mem_nil, or_false, Prod.mk.injEq] at h; rcases h with ⟨rfl, rfl⟩ | ⟨rfl, rfl⟩ <;> first | exact noL_map (fun _ => by simp [PV.no, PV.noL, noL_iff, nbeq]) _ | (simp [PV.no, PV.noL, optS_no, noL_iff, nbeq] <;> omega)) | (simp at h; obtain ⟨rfl, rfl⟩ := h; exact noL_map (fun _ => by simp [PV.no, PV.noL, noL_iff, nbeq]) _) | (simp at h; obtain ⟨rfl, rfl⟩ := h; simp [PV.no, PV.noL, optS_no, noL_iff, nbeq] <;> omega)⟩⟩) lt0 ?_)
      rintro _ _ ⟨rfl, rfl⟩
      refine VO.cons rfl (V1.fieldRef rfl rfl fo_67_1 rfl lt0 ?_)
      refine VO.cons rfl (V1.storeRef (k := 3) rfl rfl tyk_3 rfl rfl rfl rfl rfl rfl rfl rfl rfl ?_)
      refine VO.nil ?_
      exact ⟨((id_, y8.1, y1.1, x_Files, y2.1, y8.2), ob0), oi hm1, Keeps.mk (ks := [2, 0, 3, 4]) rfl ⟨rfl, rfl, trivial⟩ (⟨_, _, rfl, rfl, _, _, rfl, rfl, _, _, rfl, rfl, _, _, rfl, rfl, rfl⟩) rfl⟩
     ·
      replace hm1 := cond_f hc2 hm1
      refine V.seq (V.region (VO.cons rfl (V1.it ?_)))
      refine VO.cons rfl (V1.as ?_)
      refine VO.nil (V.cond rfl (fun hc3 => ?_) (fun hc3 => ?_))
      ·
       replace hm1 := cond_t hc3 hm1
       replace hm1 := bindO hm1; rcases hm1 with ⟨y9, hh9, hm1⟩
       refine V.region (VO.cons rfl (V1.mv ?_))
       refine VO.cons rfl (V1.buildSliceT (f := encInt) ([(0 : Int), (10 : Int)] : List Int) rfl rfl esz_36 zk_3 rfl rfl rfl rfl rfl rfl rfl lt0 ?_)
       intro b10
       refine VO.cons rfl (V1.callM 1 (rn + ρ0 + 1) [b10] [.ref bp 3 0 0, .vl (rn + ρ0 + 1) 1 (List.map encInt ([(0 : Int), (10 : Int)] : List Int))] (p := (bp, ⟨3, [encCur ρ0 y6.2]⟩)) rfl rfl rfl cok_93 rfl rfl ⟨_, _, rfl, .same _, ⟨_, _, rfl, Lend.srMap 0 rfl (fun _ => rfl) (.head _), rfl⟩⟩ (bwCons (k := 0) rfl bwNil) (ok_spec_l1Cur_among hh9) rfl (.inr ⟨(by first | omega | (dsimp only; omega)), by rintro _ _ ⟨rfl, rfl⟩; exact ⟨by simp [PV.no, PV.noL, optS_no, noL_iff, nbeq] <;> omega, by intro b ob h; first | exact optH_no (noL_map (fun _ => by simp [PV.no, PV.noL, noL_iff, nbeq]) _) b ob h | (simp only [List.append_assoc, List.mem_append, List.mem_cons, List.mem_singleton, List.not_mem_nil, or_false, Prod.mk.injEq] at h; rcases h with ⟨rfl, rfl⟩ | ⟨rfl, rfl⟩ <;> first | exact noL_map (fun _ => by simp [PV.no, PV.noL, noL_iff, nbeq]) _ | (simp [PV.no, PV.noL, optS_no, noL_iff, nbeq] <;> omega)) | (simp at h; obtain ⟨rfl, rfl⟩ := h; exact noL_map (fun _ => by simp [PV.no, PV.noL, noL_iff, nbeq]) _) | (simp at h; obtain ⟨rfl, rfl⟩ := h; simp [PV.no, PV.noL, optS_no, noL_iff, nbeq] <;> omega)⟩⟩) lt0 ?_)
       rintro _ _ ⟨rfl, rfl⟩
       refine VO.cons rfl (V1.fieldRef rfl rfl fo_67_2 rfl lt0 ?_)
       refine VO.cons rfl (V1.storeRef (k := 3) rfl rfl tyk_3 rfl rfl rfl rfl rfl rfl rfl rfl rfl ?_)
       refine VO.nil ?_
       exact ⟨((id_, y0.1, y9.1, x_Files, y2.1, y9.2), ob0), oi hm1, Keeps.mk (ks := [2, 0, 3, 4]) rfl ⟨rfl, rfl, trivial⟩ (⟨_, _, rfl, rfl, _, _, rfl, rfl, _, _, rfl, rfl, _, _, rfl, rfl, rfl⟩) rfl⟩
      ·
       replace hm1 := cond_f hc3 hm1
       refine V.seq (V.region (VO.cons rfl (V1.it ?_)))
       refine VO.cons rfl (V1.as ?_)
       refine VO.nil (V.keep 91 [0, 2, 6, 7, 38, 57] [0, 1, 2, 3] (E0 := [(0, .ref bp 3 0 0), (2, .int .i64 first0), (6, .ref b0 5 0 0), (7, .ref b4 5 0 0), (38, .int .i64 y6.1), (57, .bool (y6.1 == (3 : Int)))]) (H0 := [(bp, ⟨3, [encCur ρ0 y6.2]⟩), (ob0, ⟨1, List.map encInt x_Files⟩), (b4, ⟨5, [.agg [.int .i64 id_, .int .i64 y0.1, .int .i64 y1.1, .sref ob0 1 0 (List.length x_Files), .int .i64 y2.1]]⟩), (b0, ⟨5, [.agg [.int .i64 (0 : Int), .int .i64 (0 : Int), .int .i64 (0 : Int), .nils, .int .i64 (0 : Int)]]⟩)]) rfl (⟨_, _, rfl, rfl, _, _, rfl, rfl, _, _, rfl, rfl, _, _, rfl, rfl, _, _, rfl, rfl, _, _, rfl, rfl, rfl⟩) (⟨_, _, rfl, rfl, _, _, rfl, rfl, _, _, rfl, rfl, _, _, rfl, rfl, rfl⟩) rfl ?_)
       refine V.cond rfl (fun hc4 => ?_) (fun hc4 => ?_)
       ·
        replace hm1 := cond_t hc4 hm1
        replace hm1 := bindO hm1; rcases hm1 with ⟨y10, hh10, hm1⟩
        refine V.region (VO.cons rfl (V1.mv ?_))
        refine VO.cons rfl (V1.buildSliceT (f := encInt) ([(0 : Int), (41 : Int)] : List Int) rfl rfl esz_36 zk_3 rfl rfl rfl rfl rfl rfl rfl lt0 ?_)
        intro b11
        refine VO.cons rfl (V1.callM 1 (rn + ρ0 + 1) [b11] [.ref bp 3 0 0, .vl (rn + ρ0 + 1) 1 (List.map encInt ([(0 : Int), (41 : Int)] : List Int))] (p := (bp, ⟨3, [encCur ρ0 y6.2]⟩)) rfl rfl rfl cok_93 rfl rfl ⟨_, _, rfl, .same _, ⟨_, _, rfl, Lend.srMap 0 rfl (fun _ => rfl) (.head _), rfl⟩⟩ (bwCons (k := 0) rfl bwNil) (ok_spec_l1Cur_among hh10) rfl (.inr ⟨(by first | omega | (dsimp only; omega)), by rintro _ _ ⟨rfl, rfl⟩; exact ⟨by simp [PV.no, PV.noL, optS_no, noL_iff, nbeq] <;> omega, by intro b ob h; first | exact optH_no (noL_map (fun _ => by simp [PV.no, PV.noL, noL_iff, nbeq]) _) b ob h | (simp only [List.append_assoc, List.mem_append, List.mem_cons, List.mem_singleton, List.not_mem_nil, or_false, Prod.mk.injEq] at h; rcases h with ⟨rfl, rfl⟩ | ⟨rfl, rfl⟩ <;> first | exact noL_map (fun _ => by simp [PV.no, PV.noL, noL_iff, nbeq]) _ | (simp [PV.no, PV.noL, optS_no, noL_iff, nbeq] <;> omega)) | (simp at h; obtain ⟨rfl, rfl⟩ := h; exact noL_map (fun _ => by simp [PV.no, PV.noL, noL_iff, nbeq]) _) | (simp at h; obtain ⟨rfl, rfl⟩ := h; simp [PV.no, PV.noL, optS_no, noL_iff, nbeq] <;> omega)⟩⟩) lt0 ?_)
        rintro _ _ ⟨rfl, rfl⟩
        refine VO.cons rfl (V1.fieldRef rfl rfl fo_67_4 rfl lt0 ?_)
        refine VO.cons rfl (V1.storeRef (k := 3) rfl rfl tyk_3 rfl rfl rfl rfl rfl rfl rfl rfl rfl ?_)
        refine VO.nil ?_
        exact ⟨((id_, y0.1, y1.1, x_Files, y10.1, y10.2), ob0), oi hm1, Keeps.mk (ks := [2, 0, 3, 4]) rfl ⟨rfl, rfl, trivial⟩ (⟨_, _, rfl, rfl, _, _, rfl, rfl, _, _, rfl, rfl, _, _, rfl, rfl, rfl⟩) rfl⟩
       ·
        replace hm1 := cond_f hc4 hm1
        refine V.seq (V.region (VO.cons rfl (V1.it ?_)))
        refine VO.cons rfl (V1.as ?_)
        refine VO.nil (V.cond rfl (fun hc5 => ?_) (fun hc5 => ?_))
        ·
         replace hm1 := cond_t hc5 hm1
         replace hm1 := bindO hm1; rcases hm1 with ⟨y11, hh11, hm1⟩
         replace hm1 := asrt_some hm1; rcases hm1 with ⟨hh12, hm1⟩
         replace hm1 := bindO hm1; rcases hm1 with ⟨j1, hm2, hm1⟩
         refine V.cutT (D := (List Int × Cur) × (Nat)) (fun ⟨⟨x_Files2, o⟩, b15⟩ => ⟨91, [(6, .ref b0 5 0 0), (7, .ref b4 5 0 0)], [(b15, ⟨1, List.map encInt x_Files2⟩), (bp, ⟨3, [encCur ρ0 o]⟩), (b4, ⟨5, [.agg [.int .i64 id_, .int .i64 y0.1, .int .i64 y1.1, .sref b15 1 0 (List.length x_Files2), .int .i64 y2.1]]⟩), (b0, ⟨5, [.agg [.int .i64 (0 : Int), .int .i64 (0 : Int), .int .i64 (0 : Int), .nils, .int .i64 (0 : Int)]]⟩)]⟩) (fun ⟨⟨x_Files2, o⟩, b15⟩ => ((x_Files2, o) = j1)) ?_ ?_
         ·
          refine V.regionS [] 91 6 [⟨[(7, none)], false⟩, ⟨[(65, some 0)], true⟩, ⟨[(0, none)], false⟩, ⟨[], true⟩, ⟨[(67, some 2), (68, some 3)], true⟩, ⟨[(69, some 4)], true⟩] [(6, none), (7, none), (66, some 1), (70, some 5)] 4 (⟨_, rfl, ⟨_, rfl, ⟨_, rfl, ⟨_, rfl, ⟨_, rfl, ⟨_, rfl, ⟨rfl, rfl⟩⟩⟩⟩⟩⟩⟩) mixed_orders rfl (by decide +kernel) ?_
          refine WalkP.step (p := ?pv859) 0 rfl rfl rfl rfl rfl (⟨_, _, rfl, rfl, rfl⟩) ?hv859 ?rest859
          case hv859 =>
           intro E1 H1 hI1
           refine (V1.fieldRef rfl rfl fo_67_3 rfl lt0 ?_)
           exact rfl
          refine WalkP.step (p := ?pv860) 2 rfl rfl rfl rfl rfl (⟨_, _, rfl, rfl, rfl⟩) ?hv860 ?rest860
          case hv860 =>
           intro E1 H1 hI1
           refine (V1.mv ?_)
           exact rfl
          refine WalkP.nil (NodeS.branch [1, 3] inNil rfl rfl rfl ⟨?_, ?_, trivial⟩)
          ·
           refine ⟨_, _, _, _, rfl, rfl, rfl, (⟨_, _, rfl, rfl, rfl⟩), fun E1 => ?_⟩
           refine (V1.loadRef (k := 2) rfl rfl tyk_36 rfl rfl rfl rfl rfl lt0 ?_)
           refine ⟨_, _, rfl, ?_⟩
           refine WalkP.nil (NodeS.branch [3] inNil rfl rfl rfl ⟨?_, trivial⟩)
           ·
            refine ⟨_, _, _, _, rfl, rfl, rfl, (rfl), fun E1 => ?_⟩
            refine (V1.buildSliceT (f := encInt) ([(0 : Int), (5 : Int), (1000 : Int)] : List Int) rfl rfl esz_36 zk_3 rfl rfl rfl rfl rfl rfl rfl lt0 ?_)
            intro b16
            refine ⟨_, _, rfl, ?_⟩
            refine WalkP.nil (NodeS.branch [4] inNil rfl rfl rfl ⟨?_, trivial⟩)
            ·
             refine ⟨_, _, _, _, rfl, rfl, rfl, (⟨_, _, rfl, rfl, _, _, rfl, rfl, rfl⟩), fun E1 => ?_⟩
             refine (V1.callM 1 (rn + ρ0 + 1) [b16] [.ref bp 3 0 0, .vl (rn + ρ0 + 1) 1 (List.map encInt ([(0 : Int), (5 : Int), (1000 : Int)] : List Int))] (p := (bp, ⟨3, [encCur ρ0 y6.2]⟩)) rfl rfl rfl cok_93 rfl rfl ⟨_, _, rfl, .same _, ⟨_, _, rfl, Lend.srMap 0 rfl (fun _ => rfl) (.head _), rfl⟩⟩ (bwCons (k := 0) rfl bwNil) (ok_spec_l1Cur_among hh11) rfl (.inr ⟨(by first | omega | (dsimp only; omega)), by rintro _ _ ⟨rfl, rfl⟩; exact ⟨by simp [PV.no, PV.noL, optS_no, noL_iff, nbeq] <;> omega, by intro b ob h; first | exact optH_no (noL_map (fun _ => by simp [PV.no, PV.noL, noL_iff, nbeq]) _) b ob h | (simp only [List.append_assoc, List.mem_append, List.mem_cons, List.mem_singleton, List.not_mem_nil, or_false, Prod.mk.injEq] at h; rcases h with ⟨rfl, rfl⟩ | ⟨rfl, rfl⟩ <;> first | exact noL_map (fun _ => by simp [PV.no, PV.noL, noL_iff, nbeq]) _ | (simp [PV.no, PV.noL, optS_no, noL_iff, nbeq] <;> omega)) | (simp at h; obtain ⟨rfl, rfl⟩ := h; exact noL_map (fun _ => by simp [PV.no, PV.noL, noL_iff, nbeq]) _) | (simp at h; obtain ⟨rfl, rfl⟩ := h; simp [PV.no, PV.noL, optS_no, noL_iff, nbeq] <;> omega)⟩⟩) lt0 ?_)
             rintro _ _ ⟨rfl, rfl⟩
             refine ⟨_, _, rfl, ?_⟩
             refine WalkP.nil (NodeS.branch [5] inNil rfl rfl rfl ⟨?_, trivial⟩)
             ·
              refine ⟨_, _, _, _, rfl, rfl, rfl, (⟨_, _, rfl, rfl, rfl⟩), fun E1 => ?_⟩
              refine (V1.buildSliceT (f := encInt) ([y11.1] : List Int) rfl rfl esz_36 zk_3 rfl rfl rfl rfl rfl rfl rfl lt0 ?_)
              intro b17
              refine ⟨_, _, rfl, ?_⟩
              refine WalkP.nil (NodeS.fin inNil rfl rfl rfl (⟨_, _, rfl, rfl, _, _, rfl, rfl, _, _, rfl, rfl, _, _, rfl, rfl, rfl⟩) ?_)
              refine VO.cons rfl (V1.appendMap (k := 3) (f := encInt) (l := x_Files) (m := ([y11.1] : List Int)) rfl rfl rfl rfl rfl esz_36 eby_36 zk_3 rfl rfl rfl (SrcOf.srMap (k := 0) rfl isl_36) hh12 lt0 ?_)
              intro b18
              refine VO.cons rfl (V1.fieldRef rfl rfl fo_67_3 rfl lt0 ?_)
              refine VO.cons rfl (V1.storeRef (k := 4) rfl rfl tyk_36 rfl rfl rfl rfl rfl rfl rfl rfl rfl ?_)
              refine VO.nil ?_
              exact ⟨(((x_Files ++ ([y11.1] : List Int)), y11.2), b18), oi hm2, Keeps.mk (ks := [0, 2, 4, 5]) rfl ⟨rfl, rfl, trivial⟩ (⟨_, _, rfl, rfl, _, _, rfl, rfl, _, _, rfl, rfl, _, _, rfl, rfl, rfl⟩) rfl⟩
          ·
           refine ⟨_, _, _, _, rfl, rfl, rfl, (rfl), fun E1 => ?_⟩
           refine (V1.buildSliceT (f := encInt) ([(0 : Int), (5 : Int), (1000 : Int)] : List Int) rfl rfl esz_36 zk_3 rfl rfl rfl rfl rfl rfl rfl lt0 ?_)
           intro b19
           refine ⟨_, _, rfl, ?_⟩
           refine WalkP.nil (NodeS.branch [1, 4] inNil rfl rfl rfl ⟨?_, ?_, trivial⟩)
           ·
            refine ⟨_, _, _, _, rfl, rfl, rfl, (⟨_, _, rfl, rfl, rfl⟩), fun E1 => ?_⟩
            refine (V1.loadRef (k := 3) rfl rfl tyk_36 rfl rfl rfl rfl rfl lt0 ?_)
            refine ⟨_, _, rfl, ?_⟩
            refine WalkP.nil (NodeS.branch [4] inNil rfl rfl rfl ⟨?_, trivial⟩)
            ·
             refine ⟨_, _, _, _, rfl, rfl, rfl, (⟨_, _, rfl, rfl, _, _, rfl, rfl, rfl⟩), fun E1 => ?_⟩
             refine (V1.callM 1 (rn + ρ0 + 1) [b19] [.ref bp 3 0 0, .vl (rn + ρ0 + 1) 1 (List.map encInt ([(0 : Int), (5 : Int), (1000 : Int)] : List Int))] (p := (bp, ⟨3, [encCur ρ0 y6.2]⟩)) rfl rfl rfl cok_93 rfl rfl ⟨_, _, rfl, .same _, ⟨_, _, rfl, Lend.srMap 0 rfl (fun _ => rfl) (.head _), rfl⟩⟩ (bwCons (k := 0) rfl bwNil) (ok_spec_l1Cur_among hh11) rfl (.inr ⟨(by first | omega | (dsimp only; omega)), by rintro _ _ ⟨rfl, rfl⟩; exact ⟨by simp [PV.no, PV.noL, optS_no, noL_iff, nbeq] <;> omega, by intro b ob h; first | exact optH_no (noL_map (fun _ => by simp [PV.no, PV.noL, noL_iff, nbeq]) _) b ob h | (simp only [List.append_assoc, List.mem_append, List.mem_cons, List.mem_singleton, List.not_mem_nil, or_false, Prod.mk.injEq] at h; rcases h with ⟨rfl, rfl⟩ | ⟨rfl, rfl⟩ <;> first | exact noL_map (fun _ => by simp [PV.no, PV.noL, noL_iff, nbeq]) _ | (simp [PV.no, PV.noL, optS_no, noL_iff, nbeq] <;> omega)) | (simp at h; obtain ⟨rfl, rfl⟩ := h; exact noL_map (fun _ => by simp [PV.no, PV.noL, noL_iff, nbeq]) _) | (simp at h; obtain ⟨rfl, rfl⟩ := h; simp [PV.no, PV.noL, optS_no, noL_iff, nbeq] <;> omega)⟩⟩) lt0 ?_)
             rintro _ _ ⟨rfl, rfl⟩
             refine ⟨_, _, rfl, ?_⟩
             refine WalkP.nil (NodeS.branch [5] inNil rfl rfl rfl ⟨?_, trivial⟩)
             ·
              refine ⟨_, _, _, _, rfl, rfl, rfl, (⟨_, _, rfl, rfl, rfl⟩), fun E1 => ?_⟩
              refine (V1.buildSliceT (f := encInt) ([y11.1] : List Int) rfl rfl esz_36 zk_3 rfl rfl rfl rfl rfl rfl rfl lt0 ?_)
              intro b20
              refine ⟨_, _, rfl, ?_⟩
              refine WalkP.nil (NodeS.fin inNil rfl rfl rfl (⟨_, _, rfl, rfl, _, _, rfl, rfl, _, _, rfl, rfl, _, _, rfl, rfl, rfl⟩) ?_)
              refine VO.cons rfl (V1.appendMap (k := 3) (f := encInt) (l := x_Files) (m := ([y11.1] : List Int)) rfl rfl rfl rfl rfl esz_36 eby_36 zk_3 rfl rfl rfl (SrcOf.srMap (k := 0) rfl isl_36) hh12 lt0 ?_)
              intro b21
              refine VO.cons rfl (V1.fieldRef rfl rfl fo_67_3 rfl lt0 ?_)
              refine VO.cons rfl (V1.storeRef (k := 4) rfl rfl tyk_36 rfl rfl rfl rfl rfl rfl rfl rfl rfl ?_)
              refine VO.nil ?_
              exact ⟨(((x_Files ++ ([y11.1] : List Int)), y11.2), b21), oi hm2, Keeps.mk (ks := [0, 2, 4, 5]) rfl ⟨rfl, rfl, trivial⟩ (⟨_, _, rfl, rfl, _, _, rfl, rfl, _, _, rfl, rfl, _, _, rfl, rfl, rfl⟩) rfl⟩
           ·
            refine ⟨_, _, _, _, rfl, rfl, rfl, (⟨_, _, rfl, rfl, _, _, rfl, rfl, rfl⟩), fun E1 => ?_⟩
            refine (V1.callM 1 (rn + ρ0 + 1) [b19] [.ref bp 3 0 0, .vl (rn + ρ0 + 1) 1 (List.map encInt ([(0 : Int), (5 : Int), (1000 : Int)] : List Int))] (p := (bp, ⟨3, [encCur ρ0 y6.2]⟩)) rfl rfl rfl cok_93 rfl rfl ⟨_, _, rfl, .same _, ⟨_, _, rfl, Lend.srMap 0 rfl (fun _ => rfl) (.head _), rfl⟩⟩ (bwCons (k := 0) rfl bwNil) (ok_spec_l1Cur_among hh11) rfl (.inr ⟨(by first | omega | (dsimp only; omega)), by rintro _ _ ⟨rfl, rfl⟩; exact ⟨by simp [PV.no, PV.noL, optS_no, noL_iff, nbeq] <;> omega, by intro b ob h; first | exact optH_no (noL_map (fun _ => by simp [PV.no, PV.noL, noL_iff, nbeq]) _) b ob h | (simp only [List.append_assoc, List.mem_append, List.mem_cons, List.mem_singleton, List.not_mem_nil, or_false, Prod.mk.injEq] at h; rcases h with ⟨rfl, rfl⟩ | ⟨rfl, rfl⟩ <;> first | exact noL_map (fun _ => by simp [PV.no, PV.noL, noL_iff, nbeq]) _ | (simp [PV.no, PV.noL, optS_no, noL_iff, nbeq] <;> omega)) | (simp at h; obtain ⟨rfl, rfl⟩ := h; exact noL_map (fun _ => by simp [PV.no, PV.noL, noL_iff, nbeq]) _) | (simp at h; obtain ⟨rfl, rfl⟩ := h; simp [PV.no, PV.noL, optS_no, noL_iff, nbeq] <;> omega)⟩⟩) lt0 ?_)
            rintro _ _ ⟨rfl, rfl⟩
            refine ⟨_, _, rfl, ?_⟩
            refine WalkP.nil (NodeS.branch [1, 5] inNil rfl rfl rfl ⟨?_, ?_, trivial⟩)
            ·
             refine ⟨_, _, _, _, rfl, rfl, rfl, (⟨_, _, rfl, rfl, rfl⟩), fun E1 => ?_⟩
             refine (V1.loadRef (k := 3) rfl rfl tyk_36 rfl rfl rfl rfl rfl lt0 ?_)
             refine ⟨_, _, rfl, ?_⟩
             refine WalkP.nil (NodeS.branch [5] inNil rfl rfl rfl ⟨?_, trivial⟩)
             ·
              refine ⟨_, _, _, _, rfl, rfl, rfl, (⟨_, _, rfl, rfl, rfl⟩), fun E1 => ?_⟩
              refine (V1.buildSliceT (f := encInt) ([y11.1] : List Int) rfl rfl esz_36 zk_3 rfl rfl rfl rfl rfl rfl rfl lt0 ?_)
              intro b22
              refine ⟨_, _, rfl, ?_⟩
              refine WalkP.nil (NodeS.fin inNil rfl rfl rfl (⟨_, _, rfl, rfl, _, _, rfl, rfl, _, _, rfl, rfl, _, _, rfl, rfl, rfl⟩) ?_)
              refine VO.cons rfl (V1.appendMap (k := 3) (f := encInt) (l := x_Files) (m := ([y11.1] : List Int)) rfl rfl rfl rfl rfl esz_36 eby_36 zk_3 rfl rfl rfl (SrcOf.srMap (k := 0) rfl isl_36) hh12 lt0 ?_)
              intro b23
              refine VO.cons rfl (V1.fieldRef rfl rfl fo_67_3 rfl lt0 ?_)
              refine VO.cons rfl (V1.storeRef (k := 4) rfl rfl tyk_36 rfl rfl rfl rfl rfl rfl rfl rfl rfl ?_)
              refine VO.nil ?_
              exact ⟨(((x_Files ++ ([y11.1] : List Int)), y11.2), b23), oi hm2, Keeps.mk (ks := [0, 2, 4, 5]) rfl ⟨rfl, rfl, trivial⟩ (⟨_, _, rfl, rfl, _, _, rfl, rfl, _, _, rfl, rfl, _, _, rfl, rfl, rfl⟩) rfl⟩
            ·
             refine ⟨_, _, _, _, rfl, rfl, rfl, (⟨_, _, rfl, rfl, rfl⟩), fun E1 => ?_⟩
             refine (V1.buildSliceT (f := encInt) ([y11.1] : List Int) rfl rfl esz_36 zk_3 rfl rfl rfl rfl rfl rfl rfl lt0 ?_)
             intro b24
             refine ⟨_, _, rfl, ?_⟩
             refine WalkP.nil (NodeS.branch [1] inNil rfl rfl rfl ⟨?_, trivial⟩)
             ·
              refine ⟨_, _, _, _, rfl, rfl, rfl, (⟨_, _, rfl, rfl, rfl⟩), fun E1 => ?_⟩
              refine (V1.loadRef (k := 4) rfl rfl tyk_36 rfl rfl rfl rfl rfl lt0 ?_)
              refine ⟨_, _, rfl, ?_⟩
              refine WalkP.nil (NodeS.fin inNil rfl rfl rfl (⟨_, _, rfl, rfl, _, _, rfl, rfl, _, _, rfl, rfl, _, _, rfl, rfl, rfl⟩) ?_)
              refine VO.cons rfl (V1.appendMap (k := 3) (f := encInt) (l := x_Files) (m := ([y11.1] : List Int)) rfl rfl rfl rfl rfl esz_36 eby_36 zk_3 rfl rfl rfl (SrcOf.srMap (k := 0) rfl isl_36) hh12 lt0 ?_)
              intro b25
              refine VO.cons rfl (V1.fieldRef rfl rfl fo_67_3 rfl lt0 ?_)
              refine VO.cons rfl (V1.storeRef (k := 4) rfl rfl tyk_36 rfl rfl rfl rfl rfl rfl rfl rfl rfl ?_)
              refine VO.nil ?_
              exact ⟨(((x_Files ++ ([y11.1] : List Int)), y11.2), b25), oi hm2, Keeps.mk (ks := [0, 2, 4, 5]) rfl ⟨rfl, rfl, trivial⟩ (⟨_, _, rfl, rfl, _, _, rfl, rfl, _, _, rfl, rfl, _, _, rfl, rfl, rfl⟩) rfl⟩
         ·
          rintro ⟨⟨x_Files2, o⟩, b15⟩ rfl
          try dsimp only at hm1
          exact ⟨((id_, y0.1, y1.1, x_Files2, y2.1, o), b15), oi hm1, Keeps.mk (ks := [0, 1, 2, 3]) rfl ⟨rfl, rfl, trivial⟩ (⟨_, _, rfl, rfl, _, _, rfl, rfl, _, _, rfl, rfl, _, _, rfl, rfl, rfl⟩) rfl⟩
        ·
         replace hm1 := cond_f hc5 hm1
         refine V.seq (V.region (VO.cons rfl (V1.it ?_)))
         refine VO.cons rfl (V1.as ?_)
         refine VO.nil (V.keep 91 [0, 2, 6, 7, 73] [0, 1, 2, 3] (E0 := [(0, .ref bp 3 0 0), (2, .int .i64 first0), (6, .ref b0 5 0 0), (7, .ref b4 5 0 0), (73, .bool (y6.1 == (5 : Int)))]) (H0 := [(bp, ⟨3, [encCur ρ0 y6.2]⟩), (ob0, ⟨1, List.map encInt x_Files⟩), (b4, ⟨5, [.agg [.int .i64 id_, .int .i64 y0.1, .int .i64 y1.1, .sref ob0 1 0 (List.length x_Files), .int .i64 y2.1]]⟩), (b0, ⟨5, [.agg [.int .i64 (0 : Int), .int .i64 (0 : Int), .int .i64 (0 : Int), .nils, .int .i64 (0 : Int)]]⟩)]) rfl (⟨_, _, rfl, rfl, _, _, rfl, rfl, _, _, rfl, rfl, _, _, rfl, rfl, _, _, rfl, rfl, rfl⟩) (⟨_, _, rfl, rfl, _, _, rfl, rfl, _, _, rfl, rfl, _, _, rfl, rfl, rfl⟩) rfl ?_)
         refine V.cond rfl (fun hc6 => ?_) (fun hc6 => ?_)
         ·
          replace hm1 := cond_t hc6 hm1
          replace hm1 := bindO hm1; rcases hm1 with ⟨e1, he2, hm1⟩
          refine V.cutT (D := (List Int × Cur) × (Nat)) (fun ⟨⟨x_Files3, c_2⟩, b26⟩ => ⟨91, [(6, .ref b0 5 0 0), (7, .ref b4 5 0 0)], [(b26, ⟨1, List.map encInt x_Files3⟩), (bp, ⟨3, [encCur ρ0 c_2]⟩), (b4, ⟨5, [.agg [.int .i64 id_, .int .i64 y0.1, .int .i64 y1.1, .sref b26 1 0 (List.length x_Files3), .int .i64 y2.1]]⟩), (b0, ⟨5, [.agg [.int .i64 (0 : Int), .int .i64 (0 : Int), .int .i64 (0 : Int), .nils, .int .i64 (0 : Int)]]⟩)]⟩) (fun ⟨⟨x_Files3, c_2⟩, b26⟩ => ((x_Files3, c_2) = e1)) ?_ ?_
          ·
           refine V.block ?_
           refine V.keep 91 [2, 0, 6, 7] [1, 0, 2, 3] (E0 := [(2, .int .i64 first0), (0, .ref bp 3 0 0), (6, .ref b0 5 0 0), (7, .ref b4 5 0 0)]) (H0 := [(ob0, ⟨1, List.map encInt x_Files⟩), (bp, ⟨3, [encCur ρ0 y6.2]⟩), (b4, ⟨5, [.agg [.int .i64 id_, .int .i64 y0.1, .int .i64 y1.1, .sref ob0 1 0 (List.length x_Files), .int .i64 y2.1]]⟩), (b0, ⟨5, [.agg [.int .i64 (0 : Int), .int .i64 (0 : Int), .int .i64 (0 : Int), .nils, .int .i64 (0 : Int)]]⟩)]) rfl (⟨_, _, rfl, rfl, _, _, rfl, rfl, _, _, rfl, rfl, _, _, rfl, rfl, rfl⟩) (⟨_, _, rfl, rfl, _, _, rfl, rfl, _, _, rfl, rfl, _, _, rfl, rfl, rfl⟩) rfl ?_
           refine V.loopE (D := Nat × (Int × List Int × Cur) × (Nat)) (fun ⟨n1, ⟨first2, x_Files4, c_3⟩, b27⟩ => [(2, .int .i64 first2)]) (fun ⟨n1, ⟨first2, x_Files4, c_3⟩, b27⟩ => [(b27, ⟨1, List.map encInt x_Files4⟩), (bp, ⟨3, [encCur ρ0 c_3]⟩), (b4, ⟨5, [.agg [.int .i64 id_, .int .i64 y0.1, .int .i64 y1.1, .sref b27 1 0 (List.length x_Files4), .int .i64 y2.1]]⟩)]) (fun ⟨n1, ⟨first2, x_Files4, c_3⟩, b27⟩ => loopO (M.spec_l1Cur_carton_l1) n1 (first2, x_Files4, c_3) = some e1) (fun ⟨n1, _, _⟩ => n1) (rounds, (first0, x_Files, y6.2), ob0) rfl he2 ?_
           rintro ⟨n1, ⟨first2, x_Files4, c_3⟩, b27⟩ hP1
           obtain ⟨m1, y12, rfl, hm2, hl2, hr2⟩ := loop_head hP1
           unfold M.spec_l1Cur_carton_l1 at hm2; dsimp only at hm2
           show V _ _ _ ⟨91, [(2, .int .i64 first2), (0, .ref bp 3 0 0), (6, .ref b0 5 0 0), (7, .ref b4 5 0 0)], [(b27, ⟨1, List.map encInt x_Files4⟩), (bp, ⟨3, [encCur ρ0 c_3]⟩), (b4, ⟨5, [.agg [.int .i64 id_, .int .i64 y0.1, .int .i64 y1.1, .sref b27 1 0 (List.length x_Files4), .int .i64 y2.1]]⟩), (b0, ⟨5, [.agg [.int .i64 (0 : Int), .int .i64 (0 : Int), .int .i64 (0 : Int), .nils, .int .i64 (0 : Int)]]⟩)]⟩
           refine V.seq (V.seq ?_)
           replace hm2 := bindO hm2; rcases hm2 with ⟨y13, hh13, hm2⟩
           refine V.regionS [(b4, ⟨5, [.agg [.int .i64 id_, .int .i64 y0.1, .int .i64 y1.1, .sref b27 1 0 (List.length x_Files4), .int .i64 y2.1]]⟩)] 91 6 [⟨[(7, none)], false⟩, ⟨[(75, some 0)], false⟩, ⟨[(76, some 1)], false⟩, ⟨[(0, none)], false⟩, ⟨[(78, some 3)], true⟩, ⟨[(79, some 4)], false⟩] [(0, none), (2, none), (6, none), (7, none), (77, some 2), (80, some 5)] 1 (⟨_, rfl, ⟨_, rfl, ⟨_, rfl, ⟨_, rfl, ⟨_, rfl, ⟨_, rfl, ⟨rfl, rfl⟩⟩⟩⟩⟩⟩⟩) mixed_orders rfl (by decide +kernel) ?_
           refine WalkP.step (p := ?pv897) 0 rfl rfl rfl rfl rfl (⟨_, _, rfl, rfl, rfl⟩) ?hv897 ?rest897
           case hv897 =>
            intro E1 H1 hI1
            refine (V1.fieldRef rfl rfl fo_67_3 rfl lt0 ?_)
            exact rfl
           refine WalkP.step (p := ?pv898) 1 rfl rfl rfl rfl rfl (⟨_, _, rfl, rfl, rfl⟩) ?hv898 ?rest898
           case hv898 =>
            intro E1 H1 hI1
            obtain ⟨k899_, hk899_⟩ := inGet 0 rfl hI1
            refine (V1.loadRef (k := k899_) rfl rfl tyk_36 rfl hk899_ rfl rfl rfl lt0 ?_)
            exact rfl
           refine WalkP.step (p := ?pv900) 2 rfl rfl rfl rfl rfl (⟨_, _, rfl, rfl, rfl⟩) ?hv900 ?rest900
           case hv900 =>
            intro E1 H1 hI1
            refine (V1.lenSref rfl rfl rfl rfl rfl rfl isl_36 lt0 ?_)
            exact rfl
           refine WalkP.step (p := ?pv901) 3 rfl rfl rfl rfl rfl (⟨_, _, rfl, rfl, rfl⟩) ?hv901 ?rest901
           case hv901 =>
            intro E1 H1 hI1
            refine (V1.mv ?_)
            exact rfl
           refine WalkP.nil (NodeS.branch [4] (inCons 2 rfl inNil) rfl rfl rfl ⟨?_, trivial⟩)
           ·
            refine ⟨_, _, _, _, rfl, rfl, rfl, (⟨_, _, rfl, rfl, rfl⟩), fun E1 => ?_⟩
            refine (V1.callM 1 (rn + ρ0 + 1) [] [.ref bp 3 0 0, .int .i64 (2 : Int)] (p := (bp, ⟨3, [encCur ρ0 c_3]⟩)) rfl rfl rfl cok_94 rfl rfl ⟨_, _, rfl, .same _, ⟨_, _, rfl, .same _, rfl⟩⟩ bwNil (ok_spec_l1Cur_pick hh13) rfl (.inl rfl) lt0 ?_)
            rintro _ _ ⟨rfl, rfl⟩
            refine ⟨_, _, rfl, ?_⟩
            refine WalkP.step (p := ?pv903) 5 rfl rfl rfl rfl rfl (⟨_, _, rfl, rfl, rfl⟩) ?hv903 ?rest903
            case hv903 =>
             intro E1 H1 hI1
             refine (V1.it ?_)
             exact rfl
            refine WalkP.nil (NodeS.fin (inCons 2 rfl inNil) rfl rfl rfl (⟨_, _, rfl, rfl, _, _, rfl, rfl, _, _, rfl, rfl, _, _, rfl, rfl, _, _, rfl, rfl, _, _, rfl, rfl, rfl⟩) ?_)
            refine VO.cons rfl (V1.it ?_)
            refine VO.nil (V.cond rfl (fun hc7 => ?_) (fun hc7 => ?_))
            ·
             replace hm2 := cond_t hc7 hm2
             refine V.skip ?_
             refine V.block ?_
             refine V.seq ?_
             replace hm2 := asrt_some hm2; rcases hm2 with ⟨hh14, hm2⟩
             refine V.region (VO.cons rfl (V1.fieldRef rfl rfl fo_67_3 rfl lt0 ?_))
             refine VO.cons rfl (V1.loadRef (k := 2) rfl rfl tyk_36 rfl rfl rfl rfl rfl lt0 ?_)
             refine VO.cons rfl (V1.mv ?_)
             refine VO.cons rfl (V1.buildSliceT (f := encInt) ([first2] : List Int) rfl rfl esz_36 zk_3 rfl rfl rfl rfl rfl rfl rfl lt0 ?_)
             intro b28
             refine VO.cons rfl (V1.appendMap (k := 2) (f := encInt) (l := x_Files4) (m := ([first2] : List Int)) rfl rfl rfl rfl rfl esz_36 eby_36 zk_3 rfl rfl rfl (SrcOf.srMap (k := 0) rfl isl_36) hh14 lt0 ?_)
             intro b29
             refine VO.cons rfl (V1.fieldRef rfl rfl fo_67_3 rfl lt0 ?_)
             refine VO.cons rfl (V1.storeRef (k := 3) rfl rfl tyk_36 rfl rfl rfl rfl rfl rfl rfl rfl rfl ?_)
             refine VO.nil (V.keep 91 [0, 2, 6, 7] [0, 2, 3, 4] (E0 := [(0, .ref bp 3 0 0), (2, .int .i64 first2), (6, .ref b0 5 0 0), (7, .ref b4 5 0 0)]) (H0 := [(b29, ⟨1, List.map encInt (x_Files4 ++ ([first2] : List Int))⟩), (bp, ⟨3, [encCur ρ0 y13.2]⟩), (b4, ⟨5, [.agg [.int .i64 id_, .int .i64 y0.1, .int .i64 y1.1, .sref b29 1 0 (List.length (x_Files4 ++ ([first2] : List Int))), .int .i64 y2.1]]⟩), (b0, ⟨5, [.agg [.int .i64 (0 : Int), .int .i64 (0 : Int), .int .i64 (0 : Int), .nils, .int .i64 (0 : Int)]]⟩)]) rfl (⟨_, _, rfl, rfl, _, _, rfl, rfl, _, _, rfl, rfl, _, _, rfl, rfl, rfl⟩) (⟨_, _, rfl, rfl, _, _, rfl, rfl, _, _, rfl, rfl, _, _, rfl, rfl, rfl⟩) rfl ?_)
             refine V.region (VO.cons rfl (V1.mv ?_))
             refine VO.cons rfl (V1.it ?_)
             refine VO.cons rfl (V1.as ?_)
             refine VO.nil ?_
             exact ⟨(m1, ((IntKind.i64.wrap (first2 + (1 : Int))), (x_Files4 ++ ([first2] : List Int)), y13.2), b29), hl2 _ (oi hm2).symm, Nat.lt_succ_self _, Keeps.mk (ks := [0, 1, 2, 3]) rfl ⟨rfl, rfl, rfl, rfl, trivial⟩ (⟨_, _, rfl, rfl, _, _, rfl, rfl, _, _, rfl, rfl, _, _, rfl, rfl, rfl⟩) rfl⟩
            ·
             replace hm2 := cond_f hc7 hm2
             refine V.exit ?_
             obtain rfl := hr2 _ (oi hm2).symm
             exact ⟨((x_Files4, y13.2), b27), rfl, Keeps.mk (ks := [1, 0, 2, 3]) rfl ⟨rfl, rfl, trivial⟩ (⟨_, _, rfl, rfl, _, _, rfl, rfl, _, _, rfl, rfl, _, _, rfl, rfl, rfl⟩) rfl⟩
          ·
           rintro ⟨⟨x_Files3, c_2⟩, b26⟩ rfl
           try dsimp only at hm1
           exact ⟨((id_, y0.1, y1.1, x_Files3, y2.1, c_2), b26), oi hm1, Keeps.mk (ks := [0, 1, 2, 3]) rfl ⟨rfl, rfl, trivial⟩ (⟨_, _, rfl, rfl, _, _, rfl, rfl, _, _, rfl, rfl, _, _, rfl, rfl, rfl⟩) rfl⟩
         ·
          replace hm1 := cond_f hc6 hm1
          refine V.skip ?_
          exact ⟨((id_, y0.1, y1.1, x_Files, y2.1, y6.2), ob0), oi hm1, Keeps.mk (ks := [1, 0, 2, 3]) rfl ⟨rfl, rfl, trivial⟩ (⟨_, _, rfl, rfl, _, _, rfl, rfl, _, _, rfl, rfl, _, _, rfl, rfl, rfl⟩) rfl⟩
   ·
    rintro ⟨⟨x_Id, x_Shelf, x_Room, x_Files1, x_Thick, c_1⟩, b7⟩ rfl
    try dsimp only at hm0
    refine V.seq (V.region (VO.cons rfl (V1.loadRefAll (k := 2) rfl rfl tyk_67 rfl rfl rfl rfl rfl lt0 ?_)))
    refine VO.cons rfl (V1.storeRefAll (k := 3) rfl rfl tyk_67 rfl rfl rfl rfl rfl rfl ?_)
    refine VO.nil (V.weakenK (Keeps.freezeG 0 rn [(90, .agg [.int .i64 x_Id, .int .i64 x_Shelf, .int .i64 x_Room, .vl rn 1 (List.map encInt x_Files1), .int .i64 x_Thick])] ([(bp, ⟨3, [encCur ρ0 c_1]⟩), (b4, ⟨5, [.agg [.int .i64 x_Id, .int .i64 x_Shelf, .int .i64 x_Room, .vl rn 1 (List.map encInt x_Files1), .int .i64 x_Thick]]⟩), (b0, ⟨5, [.agg [.int .i64 x_Id, .int .i64 x_Shelf, .int .i64 x_Room, .vl rn 1 (List.map encInt x_Files1), .int .i64 x_Thick]]⟩)]) (f := encInt) (l := x_Files1) rfl (fun _ => rfl) ⟨⟨_, rfl, (.agg (.cons .same (.cons .same (.cons .same (.cons .here (.cons .same .nil))))))⟩, trivial⟩ ⟨_, _, rfl, rfl, .inl rfl, ⟨_, _, rfl, rfl, .inr (.cons (.agg (.cons .same (.cons .same (.cons .same (.cons .here (.cons .same .nil)))))) .nil), ⟨_, _, rfl, rfl, .inr (.cons (.agg (.cons .same (.cons .same (.cons .same (.cons .here (.cons .same .nil)))))) .nil), rfl⟩⟩⟩ rfl (iOne (b := bp) 0 rfl)) ?_)
    refine V.ret ?_
    obtain rfl := oi hm0
    exact ⟨_, _, ⟨_, _, rfl, ⟨_, _, 2, _, rfl, rfl, rfl, rfl, tyk_67, rfl⟩, rfl⟩, (sub1 (k := 0) rfl), rfl, rfl⟩
theorem ok_spec_l1In {rn : Nat} {x : Int} {a : Int} {b_ : Int} {r : Bool} (h : M.spec_l1In x a b_ = some r) : Does Try.prog 67 [.int .i64 x, .int .i64 a, .int .i64 b_] [] rn (fun x H => x = .bool r ∧ H = []) := by
 have hm0 := h; clear h; unfold M.spec_l1In at hm0
 try dsimp only at hm0
 refine Does.intro (N := 15) Try.func67 rfl rfl rfl rfl ?_
 intro w0 S0
 refine V.seq (V.region (VO.cons rfl (V1.as ?_)))
 refine VO.nil (V.seq (V.region (VO.cons rfl (V1.mv ?_))))
 refine VO.cons rfl (V1.mv ?_)
 refine VO.cons rfl (V1.it ?_)
 refine VO.cons rfl (V1.mv ?_)
 apply VO.and (n := 3) rfl rfl rfl rfl rfl rfl lt0 (.none rfl)
 ·
  intro hg0
  refine VO.step (.some rfl rfl rfl) (V1.mv ?_)
  refine VO.step (.some rfl rfl rfl) (V1.mv ?_)
  refine VO.step (.some rfl rfl rfl) (V1.it ?_)
  exact VO.nil ⟨rfl, rfl, rfl, rfl, .inr ⟨rfl, .inr ⟨rfl, .inr ⟨rfl, .inr ⟨rfl, .inl rfl⟩⟩⟩⟩⟩
 refine VO.cons rfl (V1.as ?_)
 refine VO.nil (V.ret ?_)
 obtain rfl := oi hm0
 exact ⟨_, [], ⟨_, _, rfl, rfl, rfl⟩, List.nil_sublist _, rfl, rfl⟩
theorem ok_spec_l18Place {rn : Nat} {room : Int} {shelf : Int} {r : Bool} (h : M.spec_l18Place room shelf = some r) : Does Try.prog 128 [.int .i64 room, .int .i64 shelf] [] rn (fun x H => x = .bool r ∧ H = []) := by
 have hm0 := h; clear h; unfold M.spec_l18Place at hm0
 try dsimp only at hm0
 refine Does.intro (N := 11) Try.func128 rfl rfl rfl rfl ?_
 intro w0 S0
 refine V.seq (V.region (VO.cons rfl (V1.as ?_)))
 refine VO.nil (V.seq ?_)
 replace hm0 := bindO hm0; rcases hm0 with ⟨y0, hh0, hm0⟩
 replace hm0 := bindO hm0; rcases hm0 with ⟨y1, hh1, hm0⟩
 refine V.region (VO.cons rfl (V1.mv ?_))
 refine VO.cons rfl (V1.call rfl rfl rfl cok_67 rfl (ok_spec_l1In hh0) rfl lt0 ?_)
 rintro _ _ ⟨rfl, rfl⟩
 refine VO.cons rfl (V1.mv ?_)
 apply VO.and (n := 2) rfl rfl rfl rfl rfl rfl lt0 (.none rfl)
 ·
  intro hg0
  refine VO.step (.some rfl rfl rfl) (V1.mv ?_)
  refine VO.step (.some rfl rfl rfl) (V1.call rfl rfl rfl cok_67 rfl (ok_spec_l1In (cond_t hg0 hh1)) rfl lt0 ?_)
  rintro _ _ ⟨rfl, rfl⟩
  exact VO.nil ⟨rfl, rfl, rfl, rfl, .inr ⟨rfl, .inr ⟨rfl, .inr ⟨rfl, .inl rfl⟩⟩⟩⟩
 refine VO.cons rfl (V1.as ?_)
 refine VO.nil (V.ret ?_)
 obtain rfl := oi hm0
 exact ⟨_, [], ⟨_, _, rfl, rfl, rfl⟩, List.nil_sublist _, rfl, rfl⟩
theorem ok_spec_l1Rising {ρ0 rn : Nat} {l : List Int} {lo : Int} {hi : Int} {r : Bool} (h : M.spec_l1Rising l lo hi = some r) : Does Try.prog 68 [.vl ρ0 1 (List.map encInt l), .int .i64 lo, .int .i64 hi] [] rn (fun x H => x = .bool r ∧ H = []) := by
 have hm0 := h; clear h; unfold M.spec_l1Rising at hm0
 try dsimp only at hm0
 refine Does.intro (N := 38) Try.func68 rfl rfl rfl rfl ?_
 intro w0 S0
 refine V.seq (V.region (VO.cons rfl (V1.as ?_)))
 refine VO.nil (V.seq (V.seq (V.region (VO.cons rfl (V1.as ?_)))))
 refine VO.nil ?_
 replace hm0 := bindO hm0; rcases hm0 with ⟨e0, he1, hm0⟩
 refine V.cutT (D := (Unit) × (Unit)) (fun ⟨_, _⟩ => ⟨38, [], []⟩) (fun ⟨_, _⟩ => (.inl () = e0)) ?_ ?_
 ·
  refine V.block ?_
  refine V.keep 38 [7, 0, 1, 2] [] (E0 := [(7, .int .i64 (0 : Int)), (0, .vl ρ0 1 (List.map encInt l)), (1, .int .i64 lo), (2, .int .i64 hi)]) (H0 := []) rfl (⟨_, _, rfl, rfl, _, _, rfl, rfl, _, _, rfl, rfl, _, _, rfl, rfl, rfl⟩) (rfl) rfl ?_
  refine V.loopE (D := Nat × (Int) × (Unit)) (fun ⟨n0, i, _⟩ => [(7, .int .i64 i)]) (fun ⟨n0, i, _⟩ => []) (fun ⟨n0, i, _⟩ => loopO (M.spec_l1Rising_l0 l lo hi) n0 i = some e0) (fun ⟨n0, _, _⟩ => n0) (rounds, (0 : Int), ()) rfl he1 ?_
  rintro ⟨n0, i, _⟩ hP0
  obtain ⟨m0, y0, rfl, hm1, hl1, hr1⟩ := loop_head hP0
  unfold M.spec_l1Rising_l0 at hm1; dsimp only at hm1
  show V _ _ _ ⟨38, [(7, .int .i64 i), (0, .vl ρ0 1 (List.map encInt l)), (1, .int .i64 lo), (2, .int .i64 hi)], []⟩
  refine V.seq (V.seq (V.region (VO.cons rfl (V1.mv ?_))))
  refine VO.cons rfl (V1.mv ?_)
  refine VO.cons rfl (V1.lenMap rfl rfl rfl rfl rfl rfl isl_36 lt0 ?_)
  refine VO.cons rfl (V1.it ?_)
  refine VO.nil (V.cond rfl (fun hc0 => ?_) (fun hc0 => ?_))
  ·
   replace hm1 := cond_t hc0 hm1
   refine V.skip ?_
   refine V.keep 38 [0, 1, 2, 7] [] (E0 := [(0, .vl ρ0 1 (List.map encInt l)), (1, .int .i64 lo), (2, .int .i64 hi), (7, .int .i64 i)]) (H0 := []) rfl (⟨_, _, rfl, rfl, _, _, rfl, rfl, _, _, rfl, rfl, _, _, rfl, rfl, rfl⟩) (rfl) rfl ?_
   refine V.seq (V.block ?_)
   refine V.seq ?_
   replace hm1 := asrt_some hm1; rcases hm1 with ⟨hh0, hm1⟩
   replace hm1 := bindO hm1; rcases hm1 with ⟨y1, hh1, hm1⟩
   replace hm1 := asrt_some hm1; rcases hm1 with ⟨hh2, hm1⟩
   replace hm1 := asrt_some hm1; rcases hm1 with ⟨hh3, hm1⟩
   refine V.regionM 38 24 [⟨[(0, none)], [], none⟩, ⟨[(7, none)], [], none⟩, ⟨[(14, some 1), (15, some 0)], [], none⟩, ⟨[(16, some 0)], [], none⟩, ⟨[(1, none)], [], none⟩, ⟨[(2, none)], [], none⟩, ⟨[(17, some 2), (18, some 1), (19, some 0)], [], none⟩, ⟨[(20, some 0)], [], none⟩, ⟨[(21, some 0)], [], none⟩, ⟨[(7, none)], [(0, false)], none⟩, ⟨[(23, some 0)], [(1, false)], none⟩, ⟨[(24, some 0)], [(2, false)], none⟩, ⟨[(0, none)], [(0, true), (3, false)], none⟩, ⟨[(7, none)], [(1, true), (4, false)], none⟩, ⟨[(27, some 0)], [(2, true), (5, false)], none⟩, ⟨[(26, some 2), (28, some 0)], [(3, true), (6, false)], none⟩, ⟨[(29, some 0)], [(4, true), (7, false)], none⟩, ⟨[(0, none)], [(5, true), (8, false)], none⟩, ⟨[(7, none)], [(6, true), (9, false)], none⟩, ⟨[(31, some 1), (32, some 0)], [(7, true), (10, false)], none⟩, ⟨[(33, some 0)], [(8, true), (11, false)], none⟩, ⟨[(30, some 4), (34, some 0)], [(9, true), (12, false)], none⟩, ⟨[], [(13, false)], some (true, 25, 35, 10, 0)⟩, ⟨[], [], some (false, 22, 36, 14, 0)⟩] [(0, none), (1, none), (2, none), (7, none), (37, some 0)] (⟨_, rfl, ⟨_, rfl, ⟨_, rfl, ⟨_, rfl, ⟨_, rfl, ⟨_, rfl, ⟨_, rfl, ⟨_, rfl, ⟨_, rfl, ⟨_, rfl, ⟨_, rfl, ⟨_, rfl, ⟨_, rfl, ⟨_, rfl, ⟨_, rfl, ⟨_, rfl, ⟨_, rfl, ⟨_, rfl, ⟨_, rfl, ⟨_, rfl, ⟨_, rfl, ⟨_, rfl, ⟨_, rfl, ⟨_, rfl, ⟨rfl, rfl⟩⟩⟩⟩⟩⟩⟩⟩⟩⟩⟩⟩⟩⟩⟩⟩⟩⟩⟩⟩⟩⟩⟩⟩⟩) mixed_orders rfl (by decide +kernel) (fun hck4 => ?_)
   refine VP.step (p := ?pv194) rfl rfl rfl (⟨_, _, rfl, rfl, rfl⟩) ?hv194 ?rest194 hck4
   case hv194 =>
    intro E1
    refine (V1.mv ?_)
    exact rfl
   refine VP.step (p := ?pv195) rfl rfl rfl (⟨_, _, rfl, rfl, rfl⟩) ?hv195 ?rest195 hck4
   case hv195 =>
    intro E1
    refine (V1.mv ?_)
    exact rfl
   refine VP.step (p := ?pv196) rfl rfl rfl (⟨_, _, rfl, rfl, _, _, rfl, rfl, rfl⟩) ?hv196 ?rest196 hck4
   case hv196 =>
    intro E1
    refine (V1.indexI rfl rfl esz_36 rfl rfl hh0 lt0 ?_)
    exact rfl
   refine VP.step (p := ?pv197) rfl rfl rfl (⟨_, _, rfl, rfl, rfl⟩) ?hv197 ?rest197 hck4
   case hv197 =>
    intro E1
    refine (V1.loadPin rfl rfl tyk_3 rfl rfl lt0 ?_)
    exact rfl
   refine VP.step (p := ?pv198) rfl rfl rfl (⟨_, _, rfl, rfl, rfl⟩) ?hv198 ?rest198 hck4
   case hv198 =>
    intro E1
    refine (V1.mv ?_)
    exact rfl
   refine VP.step (p := ?pv199) rfl rfl rfl (⟨_, _, rfl, rfl, rfl⟩) ?hv199 ?rest199 hck4
   case hv199 =>
    intro E1
    refine (V1.mv ?_)
    exact rfl
   refine VP.step (p := ?pv200) rfl rfl rfl (⟨_, _, rfl, rfl, _, _, rfl, rfl, _, _, rfl, rfl, rfl⟩) ?hv200 ?rest200 hck4
   case hv200 =>
    intro E1
    refine (V1.call rfl rfl rfl cok_67 rfl (ok_spec_l1In hh1) rfl lt0 ?_)
    rintro _ _ ⟨rfl, rfl⟩
    exact rfl
   refine VP.step (p := ?pv202) rfl rfl rfl (⟨_, _, rfl, rfl, rfl⟩) ?hv202 ?rest202 hck4
   case hv202 =>
    intro E1
    refine (V1.not rfl rfl rfl lt0 ?_)
    exact rfl
   refine VP.step (p := ?pv203) rfl rfl rfl (⟨_, _, rfl, rfl, rfl⟩) ?hv203 ?rest203 hck4
   case hv203 =>
    intro E1
    refine (V1.mv ?_)
    exact rfl
   refine VP.step (p := ?pv204) rfl rfl rfl (⟨_, _, rfl, rfl, rfl⟩) ?hv204 ?rest204 hck4
   case hv204 =>
    refine ⟨_, rfl, fun hg0 => ?_⟩
    intro E1
    refine (V1.mv ?_)
    exact rfl
   refine VP.step (p := ?pv205) rfl rfl rfl (⟨_, _, rfl, rfl, rfl⟩) ?hv205 ?rest205 hck4
   case hv205 =>
    refine ⟨_, rfl, fun hg0 => ?_⟩
    intro E1
    refine (V1.it ?_)
    exact rfl
   refine VP.step (p := ?pv206) rfl rfl rfl (⟨_, _, rfl, rfl, rfl⟩) ?hv206 ?rest206 hck4
   case hv206 =>
    refine ⟨_, rfl, fun hg0 => ?_⟩
    intro E1
    refine (V1.mv ?_)
    exact rfl
   refine VP.step (p := ?pv207) rfl rfl rfl (⟨_, _, rfl, rfl, rfl⟩) ?hv207 ?rest207 hck4
   case hv207 =>
    refine ⟨_, rfl, fun hg1 => ?_⟩
    refine ⟨_, rfl, fun hg0 => ?_⟩
    intro E1
    refine (V1.mv ?_)
    exact rfl
   refine VP.step (p := ?pv208) rfl rfl rfl (⟨_, _, rfl, rfl, rfl⟩) ?hv208 ?rest208 hck4
   case hv208 =>
    refine ⟨_, rfl, fun hg1 => ?_⟩
    refine ⟨_, rfl, fun hg0 => ?_⟩
    intro E1
    refine (V1.mv ?_)
    exact rfl
   refine VP.step (p := ?pv209) rfl rfl rfl (⟨_, _, rfl, rfl, rfl⟩) ?hv209 ?rest209 hck4
   case hv209 =>
    refine ⟨_, rfl, fun hg1 => ?_⟩
    refine ⟨_, rfl, fun hg0 => ?_⟩
    intro E1
    refine (V1.it ?_)
    exact rfl
   refine VP.step (p := ?pv210) rfl rfl rfl (⟨_, _, rfl, rfl, _, _, rfl, rfl, rfl⟩) ?hv210 ?rest210 hck4
   case hv210 =>
    refine ⟨_, rfl, fun hg1 => ?_⟩
    refine ⟨_, rfl, fun hg0 => ?_⟩
    intro E1
    refine (V1.indexI rfl rfl esz_36 rfl rfl (hh2 hg0 hg1) lt0 ?_)
    exact rfl
   refine VP.step (p := ?pv211) rfl rfl rfl (⟨_, _, rfl, rfl, rfl⟩) ?hv211 ?rest211 hck4
   case hv211 =>
    refine ⟨_, rfl, fun hg1 => ?_⟩
    refine ⟨_, rfl, fun hg0 => ?_⟩
    intro E1
    refine (V1.loadPin rfl rfl tyk_3 rfl rfl lt0 ?_)
    exact rfl
   refine VP.step (p := ?pv212) rfl rfl rfl (⟨_, _, rfl, rfl, rfl⟩) ?hv212 ?rest212 hck4
   case hv212 =>
    refine ⟨_, rfl, fun hg1 => ?_⟩
    refine ⟨_, rfl, fun hg0 => ?_⟩
    intro E1
    refine (V1.mv ?_)
    exact rfl
   refine VP.step (p := ?pv213) rfl rfl rfl (⟨_, _, rfl, rfl, rfl⟩) ?hv213 ?rest213 hck4
   case hv213 =>
    refine ⟨_, rfl, fun hg1 => ?_⟩
    refine ⟨_, rfl, fun hg0 => ?_⟩
    intro E1
    refine (V1.mv ?_)
    exact rfl
   refine VP.step (p := ?pv214) rfl rfl rfl (⟨_, _, rfl, rfl, _, _, rfl, rfl, rfl⟩) ?hv214 ?rest214 hck4
   case hv214 =>
    refine ⟨_, rfl, fun hg1 => ?_⟩
    refine ⟨_, rfl, fun hg0 => ?_⟩
    intro E1
    refine (V1.indexI rfl rfl esz_36 rfl rfl (hh3 hg0 hg1) lt0 ?_)
    exact rfl
   refine VP.step (p := ?pv215) rfl rfl rfl (⟨_, _, rfl, rfl, rfl⟩) ?hv215 ?rest215 hck4
   case hv215 =>
    refine ⟨_, rfl, fun hg1 => ?_⟩
    refine ⟨_, rfl, fun hg0 => ?_⟩
    intro E1
    refine (V1.loadPin rfl rfl tyk_3 rfl rfl lt0 ?_)
    exact rfl
   refine VP.step (p := ?pv216) rfl rfl rfl (⟨_, _, rfl, rfl, _, _, rfl, rfl, rfl⟩) ?hv216 ?rest216 hck4
   case hv216 =>
    refine ⟨_, rfl, fun hg1 => ?_⟩
    refine ⟨_, rfl, fun hg0 => ?_⟩
    intro E1
    refine (V1.it ?_)
    exact rfl
   refine VP.pickAnd rfl rfl rfl rfl rfl rfl (⟨_, rfl, fun _ => trivial⟩) ?_ hck4
   refine VP.pickOr rfl rfl rfl rfl rfl rfl (trivial) ?_ hck4
   refine VP.fin rfl (⟨_, _, rfl, rfl, _, _, rfl, rfl, _, _, rfl, rfl, _, _, rfl, rfl, _, _, rfl, rfl, rfl⟩) ?_
   refine VO.nil (V.cond rfl (fun hc1 => ?_) (fun hc1 => ?_))
   ·
    replace hm1 := cond_t hc1 hm1
    refine V.seq (V.region (VO.cons rfl (V1.as ?_)))
    refine VO.nil (V.ret ?_)
    obtain rfl := hr1 _ (oi hm1).symm
    change some _ = some _ at hm0
    obtain rfl := oi hm0
    exact ⟨_, [], ⟨_, _, rfl, rfl, rfl⟩, List.nil_sublist _, rfl, rfl⟩
   ·
    replace hm1 := cond_f hc1 hm1
    refine V.skip ?_
    refine V.region (VO.cons rfl (V1.mv ?_))
    refine VO.cons rfl (V1.it ?_)
    refine VO.cons rfl (V1.as ?_)
    refine VO.nil ?_
    exact ⟨(m0, (IntKind.i64.wrap (i + (1 : Int))), ()), hl1 _ (oi hm1).symm, Nat.lt_succ_self _, Keeps.mk (ks := []) rfl ⟨rfl, rfl, rfl, rfl, trivial⟩ (rfl) rfl⟩
  ·
   replace hm1 := cond_f hc0 hm1
   refine V.exit ?_
   obtain rfl := hr1 _ (oi hm1).symm
   exact ⟨((), ()), rfl, Keeps.mk (ks := []) rfl trivial (rfl) rfl⟩
 ·
  rintro ⟨_, _⟩ rfl
  try dsimp only at hm0
  refine V.seq (V.region (VO.cons rfl (V1.as ?_)))
  refine VO.nil (V.ret ?_)
  obtain rfl := oi hm0
  exact ⟨_, [], ⟨_, _, rfl, rfl, rfl⟩, List.nil_sublist _, rfl, rfl⟩
theorem ok_spec_l18One {ρ0 rn : Nat} {x : Carton} {r : Bool} (h : M.spec_l18One x = some r) : Does Try.prog 103 [encCarton ρ0 x] [] rn (fun x H => x = .bool r ∧ H = []) := by
 have hm0 := h; clear h; unfold M.spec_l18One at hm0
 try dsimp only at hm0
 refine Does.intro (N := 29) Try.func103 rfl rfl rfl rfl ?_
 intro w0 S0
 refine V.seq (V.region (VO.cons rfl (V1.boxN (n := 5) rfl rfl rfl rfl rfl lt0 ?_)))
 intro b0
 refine VO.cons rfl (V1.as ?_)
 refine VO.nil (V.seq ?_)
 replace hm0 := bindO hm0; rcases hm0 with ⟨y0, hh0, hm0⟩
 replace hm0 := bindO hm0; rcases hm0 with ⟨y1, hh1, hm0⟩
 replace hm0 := bindO hm0; rcases hm0 with ⟨y2, hh2, hm0⟩
 replace hm0 := bindO hm0; rcases hm0 with ⟨y3, hh3, hm0⟩
 refine V.region (VO.cons rfl (V1.fieldRef rfl rfl fo_67_0 rfl lt0 ?_))
 refine VO.cons rfl (V1.loadRef (k := 0) rfl rfl tyk_3 rfl rfl rfl rfl rfl lt0 ?_)
 refine VO.cons rfl (V1.call rfl rfl rfl cok_67 rfl (ok_spec_l1In hh0) rfl lt0 ?_)
 rintro _ _ ⟨rfl, rfl⟩
 refine VO.cons rfl (V1.mv ?_)
 apply VO.and (n := 5) rfl rfl rfl rfl rfl rfl lt0 (.none rfl)
 ·
  intro hg0
  refine VO.step (.some rfl rfl rfl) (V1.fieldRef rfl rfl fo_67_2 rfl lt0 ?_)
  refine VO.step (.some rfl rfl rfl) (V1.loadRef (k := 0) rfl rfl tyk_3 rfl rfl rfl rfl rfl lt0 ?_)
  refine VO.step (.some rfl rfl rfl) (V1.fieldRef rfl rfl fo_67_1 rfl lt0 ?_)
  refine VO.step (.some rfl rfl rfl) (V1.loadRef (k := 0) rfl rfl tyk_3 rfl rfl rfl rfl rfl lt0 ?_)
  refine VO.step (.some rfl rfl rfl) (V1.call rfl rfl rfl cok_128 rfl (ok_spec_l18Place (cond_t hg0 hh1)) rfl lt0 ?_)
  rintro _ _ ⟨rfl, rfl⟩
  exact VO.nil ⟨rfl, rfl, rfl, rfl, .inr ⟨rfl, .inr ⟨rfl, .inr ⟨rfl, .inr ⟨rfl, .inr ⟨rfl, .inr ⟨rfl, .inl rfl⟩⟩⟩⟩⟩⟩⟩
 refine VO.cons rfl (V1.mv ?_)
 apply VO.and (n := 4) rfl rfl rfl rfl rfl rfl lt0 (.none rfl)
 ·
  intro hg1
  refine VO.step (.some rfl rfl rfl) (V1.fieldRef rfl rfl fo_67_3 rfl lt0 ?_)
  refine VO.step (.some rfl rfl rfl) (V1.loadRef (k := 0) rfl rfl tyk_36 rfl rfl rfl rfl rfl lt0 ?_)
  refine VO.step (.some rfl rfl rfl) (V1.lenMap rfl rfl rfl rfl rfl rfl isl_36 lt0 ?_)
  refine VO.step (.some rfl rfl rfl) (V1.it ?_)
  exact VO.nil ⟨rfl, rfl, rfl, rfl, .inr ⟨rfl, .inr ⟨rfl, .inr ⟨rfl, .inr ⟨rfl, .inr ⟨rfl, .inl rfl⟩⟩⟩⟩⟩⟩
 refine VO.cons rfl (V1.mv ?_)
 apply VO.and (n := 3) rfl rfl rfl rfl rfl rfl lt0 (.none rfl)
 ·
  intro hg2
  refine VO.step (.some rfl rfl rfl) (V1.fieldRef rfl rfl fo_67_3 rfl lt0 ?_)
  refine VO.step (.some rfl rfl rfl) (V1.loadRef (k := 0) rfl rfl tyk_36 rfl rfl rfl rfl rfl lt0 ?_)
  refine VO.step (.some rfl rfl rfl) (V1.call rfl rfl rfl cok_68 rfl (ok_spec_l1Rising (cond_t hg2 hh2)) rfl lt0 ?_)
  rintro _ _ ⟨rfl, rfl⟩
  exact VO.nil ⟨rfl, rfl, rfl, rfl, .inr ⟨rfl, .inr ⟨rfl, .inr ⟨rfl, .inr ⟨rfl, .inl rfl⟩⟩⟩⟩⟩
 refine VO.cons rfl (V1.mv ?_)
 apply VO.and (n := 3) rfl rfl rfl rfl rfl rfl lt0 (.none rfl)
 ·
  intro hg3
  refine VO.step (.some rfl rfl rfl) (V1.fieldRef rfl rfl fo_67_4 rfl lt0 ?_)
  refine VO.step (.some rfl rfl rfl) (V1.loadRef (k := 0) rfl rfl tyk_3 rfl rfl rfl rfl rfl lt0 ?_)
  refine VO.step (.some rfl rfl rfl) (V1.call rfl rfl rfl cok_67 rfl (ok_spec_l1In (cond_t hg3 hh3)) rfl lt0 ?_)
  rintro _ _ ⟨rfl, rfl⟩
  exact VO.nil ⟨rfl, rfl, rfl, rfl, .inr ⟨rfl, .inr ⟨rfl, .inr ⟨rfl, .inr ⟨rfl, .inl rfl⟩⟩⟩⟩⟩
 refine VO.cons rfl (V1.as ?_)
 refine VO.nil (V.ret ?_)
 obtain rfl := oi hm0
 exact ⟨_, [], ⟨_, _, rfl, rfl, rfl⟩, List.nil_sublist _, rfl, rfl⟩
theorem ok_spec_l18Taken {ρ0 σ0 rn : Nat} {list : List Carton} {room : Int} {shelf : Int} {r : Int} (h : M.spec_l18Taken list room shelf = some r) : Does Try.prog 104 [.vl ρ0 5 (List.map (encCarton σ0) list), .int .i64 room, .int .i64 shelf] [] rn (fun x H => x = .int .i64 r ∧ H = []) := by
 have hm0 := h; clear h; unfold M.spec_l18Taken at hm0
 try dsimp only at hm0
 refine Does.intro (N := 39) Try.func104 rfl rfl rfl rfl ?_
 intro w0 S0
 refine V.seq (V.region (VO.cons rfl (V1.as ?_)))
 refine VO.nil (V.seq (V.region (VO.cons rfl (V1.as ?_))))
 refine VO.nil (V.seq (V.seq (V.region (VO.cons rfl (V1.as ?_)))))
 refine VO.nil ?_
 replace hm0 := bindO hm0; rcases hm0 with ⟨e0, he1, hm0⟩
 refine V.cutT (D := (Int) × (Unit)) (fun ⟨sum_, _⟩ => ⟨39, [(7, .int .i64 sum_)], []⟩) (fun ⟨sum_, _⟩ => (sum_ = e0)) ?_ ?_
 ·
  refine V.block ?_
  refine V.keep 39 [7, 8, 0, 1, 2] [] (E0 := [(7, .int .i64 (0 : Int)), (8, .int .i64 (0 : Int)), (0, .vl ρ0 5 (List.map (encCarton σ0) list)), (1, .int .i64 room), (2, .int .i64 shelf)]) (H0 := []) rfl (⟨_, _, rfl, rfl, _, _, rfl, rfl, _, _, rfl, rfl, _, _, rfl, rfl, _, _, rfl, rfl, rfl⟩) (rfl) rfl ?_
  refine V.loopE (D := Nat × (Int × Int) × (Unit)) (fun ⟨n0, ⟨sum_0, i⟩, _⟩ => [(7, .int .i64 sum_0), (8, .int .i64 i)]) (fun ⟨n0, ⟨sum_0, i⟩, _⟩ => []) (fun ⟨n0, ⟨sum_0, i⟩, _⟩ => loopO (M.spec_l18Taken_l0 list room shelf) n0 (sum_0, i) = some e0) (fun ⟨n0, _, _⟩ => n0) (rounds, ((0 : Int), (0 : Int)), ()) rfl he1 ?_
  rintro ⟨n0, ⟨sum_0, i⟩, _⟩ hP0
  obtain ⟨m0, y0, rfl, hm1, hl1, hr1⟩ := loop_head hP0
  unfold M.spec_l18Taken_l0 at hm1; dsimp only at hm1
  show V _ _ _ ⟨39, [(7, .int .i64 sum_0), (8, .int .i64 i), (0, .vl ρ0 5 (List.map (encCarton σ0) list)), (1, .int .i64 room), (2, .int .i64 shelf)], []⟩
  refine V.seq (V.seq (V.region (VO.cons rfl (V1.mv ?_))))
  refine VO.cons rfl (V1.mv ?_)
  refine VO.cons rfl (V1.lenMap rfl rfl rfl rfl rfl rfl isl_39 lt0 ?_)
  refine VO.cons rfl (V1.it ?_)
  refine VO.nil (V.cond rfl (fun hc0 => ?_) (fun hc0 => ?_))
  ·
   replace hm1 := cond_t hc0 hm1
   refine V.skip ?_
   refine V.keep 39 [0, 1, 2, 7, 8] [] (E0 := [(0, .vl ρ0 5 (List.map (encCarton σ0) list)), (1, .int .i64 room), (2, .int .i64 shelf), (7, .int .i64 sum_0), (8, .int .i64 i)]) (H0 := []) rfl (⟨_, _, rfl, rfl, _, _, rfl, rfl, _, _, rfl, rfl, _, _, rfl, rfl, _, _, rfl, rfl, rfl⟩) (rfl) rfl ?_
   refine V.seq ?_
   replace hm1 := bindO hm1; rcases hm1 with ⟨j0, hm2, hm1⟩
   refine V.cutT (D := (Int) × (Unit)) (fun ⟨sum_1, _⟩ => ⟨39, [(7, .int .i64 sum_1), (0, .vl ρ0 5 (List.map (encCarton σ0) list)), (1, .int .i64 room), (2, .int .i64 shelf), (8, .int .i64 i)], []⟩) (fun ⟨sum_1, _⟩ => (sum_1 = j0)) ?_ ?_
   ·
    refine V.block ?_
    refine V.seq ?_
    replace hm2 := asrt_some hm2; rcases hm2 with ⟨hh0, hm2⟩
    replace hm2 := asrt_some hm2; rcases hm2 with ⟨hh1, hm2⟩
    refine V.region (VO.cons rfl (V1.mv ?_))
    refine VO.cons rfl (V1.mv ?_)
    refine VO.cons rfl (V1.indexI rfl rfl esz_39 rfl rfl hh0 lt0 ?_)
    refine VO.cons rfl (V1.fieldPin rfl rfl fo_67_2 rfl lt0 ?_)
    refine VO.cons rfl (V1.loadPin rfl rfl tyk_3 rfl rfl lt0 ?_)
    refine VO.cons rfl (V1.mv ?_)
    refine VO.cons rfl (V1.it ?_)
    refine VO.cons rfl (V1.mv ?_)
    apply VO.and (n := 7) rfl rfl rfl rfl rfl rfl lt0 (.none rfl)
    ·
     intro hg0
     refine VO.step (.some rfl rfl rfl) (V1.mv ?_)
     refine VO.step (.some rfl rfl rfl) (V1.mv ?_)
     refine VO.step (.some rfl rfl rfl) (V1.indexI rfl rfl esz_39 rfl rfl (hh1 hg0) lt0 ?_)
     refine VO.step (.some rfl rfl rfl) (V1.fieldPin rfl rfl fo_67_1 rfl lt0 ?_)
     refine VO.step (.some rfl rfl rfl) (V1.loadPin rfl rfl tyk_3 rfl rfl lt0 ?_)
     refine VO.step (.some rfl rfl rfl) (V1.mv ?_)
     refine VO.step (.some rfl rfl rfl) (V1.it ?_)
     exact VO.nil ⟨rfl, rfl, rfl, rfl, .inr ⟨rfl, .inr ⟨rfl, .inr ⟨rfl, .inr ⟨rfl, .inr ⟨rfl, .inr ⟨rfl, .inr ⟨rfl, .inr ⟨rfl, .inl rfl⟩⟩⟩⟩⟩⟩⟩⟩⟩
    refine VO.nil (V.keep 39 [0, 1, 2, 7, 8, 30] [] (E0 := [(0, .vl ρ0 5 (List.map (encCarton σ0) list)), (1, .int .i64 room), (2, .int .i64 shelf), (7, .int .i64 sum_0), (8, .int .i64 i), (30, .bool ((((list.getD (Int.toNat i) default).Room) == room) && (((list.getD (Int.toNat i) default).Shelf) == shelf)))]) (H0 := []) rfl (⟨_, _, rfl, rfl, _, _, rfl, rfl, _, _, rfl, rfl, _, _, rfl, rfl, _, _, rfl, rfl, _, _, rfl, rfl, rfl⟩) (rfl) rfl ?_)
    refine V.cond rfl (fun hc1 => ?_) (fun hc1 => ?_)
    ·
     replace hm2 := cond_t hc1 hm2
     replace hm2 := asrt_some hm2; rcases hm2 with ⟨hh2, hm2⟩
     refine V.region (VO.cons rfl (V1.mv ?_))
     refine VO.cons rfl (V1.mv ?_)
     refine VO.cons rfl (V1.mv ?_)
     refine VO.cons rfl (V1.indexI rfl rfl esz_39 rfl rfl hh2 lt0 ?_)
     refine VO.cons rfl (V1.fieldPin rfl rfl fo_67_4 rfl lt0 ?_)
     refine VO.cons rfl (V1.loadPin rfl rfl tyk_3 rfl rfl lt0 ?_)
     refine VO.cons rfl (V1.it ?_)
     refine VO.cons rfl (V1.as ?_)
     refine VO.nil ?_
     exact ⟨((IntKind.i64.wrap (sum_0 + ((list.getD (Int.toNat i) default).Thick))), ()), oi hm2, Keeps.mk (ks := []) rfl ⟨rfl, rfl, rfl, rfl, rfl, trivial⟩ (rfl) rfl⟩
    ·
     replace hm2 := cond_f hc1 hm2
     refine V.skip ?_
     exact ⟨(sum_0, ()), oi hm2, Keeps.mk (ks := []) rfl ⟨rfl, rfl, rfl, rfl, rfl, trivial⟩ (rfl) rfl⟩
   ·
    rintro ⟨sum_1, _⟩ rfl
    try dsimp only at hm1
    refine V.region (VO.cons rfl (V1.mv ?_))
    refine VO.cons rfl (V1.it ?_)
    refine VO.cons rfl (V1.as ?_)
    refine VO.nil ?_
    exact ⟨(m0, (sum_1, (IntKind.i64.wrap (i + (1 : Int)))), ()), hl1 _ (oi hm1).symm, Nat.lt_succ_self _, Keeps.mk (ks := []) rfl ⟨rfl, rfl, rfl, rfl, rfl, trivial⟩ (rfl) rfl⟩
  ·
   replace hm1 := cond_f hc0 hm1
   refine V.exit ?_
   obtain rfl := hr1 _ (oi hm1).symm
   exact ⟨(sum_0, ()), rfl, Keeps.mk (ks := []) rfl ⟨rfl, trivial⟩ (rfl) rfl⟩
 ·
  rintro ⟨sum_, _⟩ rfl
  try dsimp only at hm0
  refine V.seq (V.region (VO.cons rfl (V1.mv ?_)))
  refine VO.cons rfl (V1.as ?_)
  refine VO.nil (V.ret ?_)
  obtain rfl := oi hm0
  exact ⟨_, [], ⟨_, _, rfl, rfl, rfl⟩, List.nil_sublist _, rfl, rfl⟩
theorem ok_spec_l1Has {ρ0 rn : Nat} {l : List Int} {n : Int} {r : Bool} (h : M.spec_l1Has l n = some r) : Does Try.prog 70 [.vl ρ0 1 (List.map encInt l), .int .i64 n] [] rn (fun x H => x = .bool r ∧ H = []) := by
 have hm0 := h; clear h; unfold M.spec_l1Has at hm0
 try dsimp only at hm0
 refine Does.intro (N := 18) Try.func70 rfl rfl rfl rfl ?_
 intro w0 S0
 refine V.seq (V.region (VO.cons rfl (V1.as ?_)))
 refine VO.nil (V.seq (V.seq (V.region (VO.cons rfl (V1.as ?_)))))
 refine VO.nil ?_
 replace hm0 := bindO hm0; rcases hm0 with ⟨e0, he1, hm0⟩
 refine V.cutT (D := (Unit) × (Unit)) (fun ⟨_, _⟩ => ⟨18, [], []⟩) (fun ⟨_, _⟩ => (.inl () = e0)) ?_ ?_
 ·
  refine V.block ?_
  refine V.keep 18 [5, 0, 1] [] (E0 := [(5, .int .i64 (0 : Int)), (0, .vl ρ0 1 (List.map encInt l)), (1, .int .i64 n)]) (H0 := []) rfl (⟨_, _, rfl, rfl, _, _, rfl, rfl, _, _, rfl, rfl, rfl⟩) (rfl) rfl ?_
  refine V.loopE (D := Nat × (Int) × (Unit)) (fun ⟨n0, i, _⟩ => [(5, .int .i64 i)]) (fun ⟨n0, i, _⟩ => []) (fun ⟨n0, i, _⟩ => loopO (M.spec_l1Has_l0 l n) n0 i = some e0) (fun ⟨n0, _, _⟩ => n0) (rounds, (0 : Int), ()) rfl he1 ?_
  rintro ⟨n0, i, _⟩ hP0
  obtain ⟨m0, y0, rfl, hm1, hl1, hr1⟩ := loop_head hP0
  unfold M.spec_l1Has_l0 at hm1; dsimp only at hm1
  show V _ _ _ ⟨18, [(5, .int .i64 i), (0, .vl ρ0 1 (List.map encInt l)), (1, .int .i64 n)], []⟩
  refine V.seq (V.seq (V.region (VO.cons rfl (V1.mv ?_))))
  refine VO.cons rfl (V1.mv ?_)
  refine VO.cons rfl (V1.lenMap rfl rfl rfl rfl rfl rfl isl_36 lt0 ?_)
  refine VO.cons rfl (V1.it ?_)
  refine VO.nil (V.cond rfl (fun hc0 => ?_) (fun hc0 => ?_))
  ·
   replace hm1 := cond_t hc0 hm1
   refine V.skip ?_
   refine V.keep 18 [0, 1, 5] [] (E0 := [(0, .vl ρ0 1 (List.map encInt l)), (1, .int .i64 n), (5, .int .i64 i)]) (H0 := []) rfl (⟨_, _, rfl, rfl, _, _, rfl, rfl, _, _, rfl, rfl, rfl⟩) (rfl) rfl ?_
   refine V.seq (V.block ?_)
   refine V.seq ?_
   replace hm1 := asrt_some hm1; rcases hm1 with ⟨hh0, hm1⟩
   refine V.region (VO.cons rfl (V1.mv ?_))
   refine VO.cons rfl (V1.mv ?_)
   refine VO.cons rfl (V1.indexI rfl rfl esz_36 rfl rfl hh0 lt0 ?_)
   refine VO.cons rfl (V1.loadPin rfl rfl tyk_3 rfl rfl lt0 ?_)
   refine VO.cons rfl (V1.mv ?_)
   refine VO.cons rfl (V1.it ?_)
   refine VO.nil (V.keep 18 [0, 1, 5, 17] [] (E0 := [(0, .vl ρ0 1 (List.map encInt l)), (1, .int .i64 n), (5, .int .i64 i), (17, .bool ((l.getD (Int.toNat i) default) == n))]) (H0 := []) rfl (⟨_, _, rfl, rfl, _, _, rfl, rfl, _, _, rfl, rfl, _, _, rfl, rfl, rfl⟩) (rfl) rfl ?_)
   refine V.cond rfl (fun hc1 => ?_) (fun hc1 => ?_)
   ·
    replace hm1 := cond_t hc1 hm1
    refine V.seq (V.region (VO.cons rfl (V1.as ?_)))
    refine VO.nil (V.ret ?_)
    obtain rfl := hr1 _ (oi hm1).symm
    change some _ = some _ at hm0
    obtain rfl := oi hm0
    exact ⟨_, [], ⟨_, _, rfl, rfl, rfl⟩, List.nil_sublist _, rfl, rfl⟩
   ·
    replace hm1 := cond_f hc1 hm1
    refine V.skip ?_
    refine V.region (VO.cons rfl (V1.mv ?_))
    refine VO.cons rfl (V1.it ?_)
    refine VO.cons rfl (V1.as ?_)
    refine VO.nil ?_
    exact ⟨(m0, (IntKind.i64.wrap (i + (1 : Int))), ()), hl1 _ (oi hm1).symm, Nat.lt_succ_self _, Keeps.mk (ks := []) rfl ⟨rfl, rfl, rfl, trivial⟩ (rfl) rfl⟩
  ·
   replace hm1 := cond_f hc0 hm1
   refine V.exit ?_
   obtain rfl := hr1 _ (oi hm1).symm
   exact ⟨((), ()), rfl, Keeps.mk (ks := []) rfl trivial (rfl) rfl⟩
 ·
  rintro ⟨_, _⟩ rfl
  try dsimp only at hm0
  refine V.seq (V.region (VO.cons rfl (V1.as ?_)))
  refine VO.nil (V.ret ?_)
  obtain rfl := oi hm0
  exact ⟨_, [], ⟨_, _, rfl, rfl, rfl⟩, List.nil_sublist _, rfl, rfl⟩
theorem ok_spec_l18Holds {ρ0 σ0 rn : Nat} {list : List Carton} {file : Int} {r : Int} (h : M.spec_l18Holds list file = some r) : Does Try.prog 69 [.vl ρ0 5 (List.map (encCarton σ0) list), .int .i64 file] [] rn (fun x H => x = .int .i64 r ∧ H = []) := by
 have hm0 := h; clear h; unfold M.spec_l18Holds at hm0
 try dsimp only at hm0
 refine Does.intro (N := 20) Try.func69 rfl rfl rfl rfl ?_
 intro w0 S0
 refine V.seq (V.region (VO.cons rfl (V1.as ?_)))
 refine VO.nil (V.seq (V.seq (V.region (VO.cons rfl (V1.as ?_)))))
 refine VO.nil ?_
 replace hm0 := bindO hm0; rcases hm0 with ⟨e0, he1, hm0⟩
 refine V.cutT (D := (Unit) × (Unit)) (fun ⟨_, _⟩ => ⟨20, [], []⟩) (fun ⟨_, _⟩ => (.inl () = e0)) ?_ ?_
 ·
  refine V.block ?_
  refine V.keep 20 [5, 0, 1] [] (E0 := [(5, .int .i64 (0 : Int)), (0, .vl ρ0 5 (List.map (encCarton σ0) list)), (1, .int .i64 file)]) (H0 := []) rfl (⟨_, _, rfl, rfl, _, _, rfl, rfl, _, _, rfl, rfl, rfl⟩) (rfl) rfl ?_
  refine V.loopE (D := Nat × (Int) × (Unit)) (fun ⟨n0, i, _⟩ => [(5, .int .i64 i)]) (fun ⟨n0, i, _⟩ => []) (fun ⟨n0, i, _⟩ => loopO (M.spec_l18Holds_l0 list file) n0 i = some e0) (fun ⟨n0, _, _⟩ => n0) (rounds, (0 : Int), ()) rfl he1 ?_
  rintro ⟨n0, i, _⟩ hP0
  obtain ⟨m0, y0, rfl, hm1, hl1, hr1⟩ := loop_head hP0
  unfold M.spec_l18Holds_l0 at hm1; dsimp only at hm1
  show V _ _ _ ⟨20, [(5, .int .i64 i), (0, .vl ρ0 5 (List.map (encCarton σ0) list)), (1, .int .i64 file)], []⟩
  refine V.seq (V.seq (V.region (VO.cons rfl (V1.mv ?_))))
  refine VO.cons rfl (V1.mv ?_)
  refine VO.cons rfl (V1.lenMap rfl rfl rfl rfl rfl rfl isl_39 lt0 ?_)
  refine VO.cons rfl (V1.it ?_)
  refine VO.nil (V.cond rfl (fun hc0 => ?_) (fun hc0 => ?_))
  ·
   replace hm1 := cond_t hc0 hm1
   refine V.skip ?_
   refine V.keep 20 [0, 1, 5] [] (E0 := [(0, .vl ρ0 5 (List.map (encCarton σ0) list)), (1, .int .i64 file), (5, .int .i64 i)]) (H0 := []) rfl (⟨_, _, rfl, rfl, _, _, rfl, rfl, _, _, rfl, rfl, rfl⟩) (rfl) rfl ?_
   refine V.seq (V.block ?_)
   refine V.seq ?_
   replace hm1 := asrt_some hm1; rcases hm1 with ⟨hh0, hm1⟩
   replace hm1 := bindO hm1; rcases hm1 with ⟨y1, hh1, hm1⟩
   refine V.region (VO.cons rfl (V1.mv ?_))
   refine VO.cons rfl (V1.mv ?_)
   refine VO.cons rfl (V1.indexI rfl rfl esz_39 rfl rfl hh0 lt0 ?_)
   refine VO.cons rfl (V1.fieldPin rfl rfl fo_67_3 rfl lt0 ?_)
   refine VO.cons rfl (V1.loadPin rfl rfl tyk_36 rfl rfl lt0 ?_)
   refine VO.cons rfl (V1.mv ?_)
   refine VO.cons rfl (V1.call rfl rfl rfl cok_70 rfl (ok_spec_l1Has hh1) rfl lt0 ?_)
   rintro _ _ ⟨rfl, rfl⟩
   refine VO.nil (V.keep 20 [0, 1, 5, 18] [] (E0 := [(0, .vl ρ0 5 (List.map (encCarton σ0) list)), (1, .int .i64 file), (5, .int .i64 i), (18, .bool y1)]) (H0 := []) rfl (⟨_, _, rfl, rfl, _, _, rfl, rfl, _, _, rfl, rfl, _, _, rfl, rfl, rfl⟩) (rfl) rfl ?_)
   refine V.cond rfl (fun hc1 => ?_) (fun hc1 => ?_)
   ·
    replace hm1 := cond_t hc1 hm1
    refine V.seq (V.region (VO.cons rfl (V1.mv ?_)))
    refine VO.cons rfl (V1.as ?_)
    refine VO.nil (V.ret ?_)
    obtain rfl := hr1 _ (oi hm1).symm
    change some _ = some _ at hm0
    obtain rfl := oi hm0
    exact ⟨_, [], ⟨_, _, rfl, rfl, rfl⟩, List.nil_sublist _, rfl, rfl⟩
   ·
    replace hm1 := cond_f hc1 hm1
    refine V.skip ?_
    refine V.region (VO.cons rfl (V1.mv ?_))
    refine VO.cons rfl (V1.it ?_)
    refine VO.cons rfl (V1.as ?_)
    refine VO.nil ?_
    exact ⟨(m0, (IntKind.i64.wrap (i + (1 : Int))), ()), hl1 _ (oi hm1).symm, Nat.lt_succ_self _, Keeps.mk (ks := []) rfl ⟨rfl, rfl, rfl, trivial⟩ (rfl) rfl⟩
  ·
   replace hm1 := cond_f hc0 hm1
   refine V.exit ?_
   obtain rfl := hr1 _ (oi hm1).symm
   exact ⟨((), ()), rfl, Keeps.mk (ks := []) rfl trivial (rfl) rfl⟩
 ·
  rintro ⟨_, _⟩ rfl
  try dsimp only at hm0
  refine V.seq (V.region (VO.cons rfl (V1.as ?_)))
  refine VO.nil (V.ret ?_)
  obtain rfl := oi hm0
  exact ⟨_, [], ⟨_, _, rfl, rfl, rfl⟩, List.nil_sublist _, rfl, rfl⟩
theorem ok_spec_l18Good {ρ0 σ0 rn : Nat} {list : List Carton} {r : Bool} (h : M.spec_l18Good list = some r) : Does Try.prog 60 [.vl ρ0 5 (List.map (encCarton σ0) list)] [] rn (fun x H => x = .bool r ∧ H = []) := by
 have hm0 := h; clear h; unfold M.spec_l18Good at hm0
 try dsimp only at hm0
 refine Does.intro (N := 70) Try.func60 rfl rfl rfl rfl ?_
 intro w0 S0
 refine V.seq (V.region (VO.cons rfl (V1.as ?_)))
 refine VO.nil (V.seq (V.seq (V.region (VO.cons rfl (V1.as ?_)))))
 refine VO.nil ?_
 replace hm0 := bindO hm0; rcases hm0 with ⟨e0, he1, hm0⟩
 refine V.cutT (D := (Unit) × (Unit)) (fun ⟨_, _⟩ => ⟨70, [(0, .vl ρ0 5 (List.map (encCarton σ0) list))], []⟩) (fun ⟨_, _⟩ => (.inl () = e0)) ?_ ?_
 ·
  refine V.block ?_
  refine V.keep 70 [3, 0] [] (E0 := [(3, .int .i64 (0 : Int)), (0, .vl ρ0 5 (List.map (encCarton σ0) list))]) (H0 := []) rfl (⟨_, _, rfl, rfl, _, _, rfl, rfl, rfl⟩) (rfl) rfl ?_
  refine V.loopE (D := Nat × (Int) × (Unit)) (fun ⟨n0, i, _⟩ => [(3, .int .i64 i)]) (fun ⟨n0, i, _⟩ => []) (fun ⟨n0, i, _⟩ => loopO (M.spec_l18Good_l0 list) n0 i = some e0) (fun ⟨n0, _, _⟩ => n0) (rounds, (0 : Int), ()) rfl he1 ?_
  rintro ⟨n0, i, _⟩ hP0
  obtain ⟨m0, y0, rfl, hm1, hl1, hr1⟩ := loop_head hP0
  unfold M.spec_l18Good_l0 at hm1; dsimp only at hm1
  show V _ _ _ ⟨70, [(3, .int .i64 i), (0, .vl ρ0 5 (List.map (encCarton σ0) list))], []⟩
  refine V.seq (V.seq (V.region (VO.cons rfl (V1.mv ?_))))
  refine VO.cons rfl (V1.mv ?_)
  refine VO.cons rfl (V1.lenMap rfl rfl rfl rfl rfl rfl isl_39 lt0 ?_)
  refine VO.cons rfl (V1.it ?_)
  refine VO.cons rfl (V1.mv ?_)
  apply VO.and (n := 2) rfl rfl rfl rfl rfl rfl lt0 (.none rfl)
  ·
   intro hg0
   refine VO.step (.some rfl rfl rfl) (V1.mv ?_)
   refine VO.step (.some rfl rfl rfl) (V1.it ?_)
   exact VO.nil ⟨rfl, rfl, rfl, rfl, .inr ⟨rfl, .inr ⟨rfl, .inr ⟨rfl, .inl rfl⟩⟩⟩⟩
  refine VO.nil (V.keep 70 [0, 3, 13] [] (E0 := [(0, .vl ρ0 5 (List.map (encCarton σ0) list)), (3, .int .i64 i), (13, .bool ((decide (i < (list.length : Int))) && (decide (i ≤ (10 : Int)))))]) (H0 := []) rfl (⟨_, _, rfl, rfl, _, _, rfl, rfl, _, _, rfl, rfl, rfl⟩) (rfl) rfl ?_)
  refine V.cond rfl (fun hc0 => ?_) (fun hc0 => ?_)
  ·
   replace hm1 := cond_t hc0 hm1
   refine V.skip ?_
   refine V.seq (V.block ?_)
   refine V.seq ?_
   replace hm1 := asrt_some hm1; rcases hm1 with ⟨hh0, hm1⟩
   refine V.region (VO.cons rfl (V1.mv ?_))
   refine VO.cons rfl (V1.mv ?_)
   refine VO.cons rfl (V1.indexI rfl rfl esz_39 rfl rfl hh0 lt0 ?_)
   refine VO.cons rfl (V1.loadPinAll rfl rfl tyk_67 rfl rfl lt0 ?_)
   refine VO.cons rfl (V1.alloc rfl rfl zk_67 lt0 ?_)
   intro b0
   refine VO.cons rfl (V1.storeRefAll (k := 0) rfl rfl tyk_67 rfl rfl rfl rfl rfl rfl ?_)
   refine VO.nil (V.keep 70 [0, 3, 4] [0] (E0 := [(0, .vl ρ0 5 (List.map (encCarton σ0) list)), (3, .int .i64 i), (4, .ref b0 5 0 0)]) (H0 := [(b0, ⟨5, [encCarton σ0 (list.getD (Int.toNat i) default)]⟩)]) rfl (⟨_, _, rfl, rfl, _, _, rfl, rfl, _, _, rfl, rfl, rfl⟩) (⟨_, _, rfl, rfl, rfl⟩) rfl ?_)
   refine V.seq (V.seq ?_)
   replace hm1 := bindO hm1; rcases hm1 with ⟨y1, hh1, hm1⟩
   replace hm1 := asrt_some hm1; rcases hm1 with ⟨hh2, hm1⟩
   replace hm1 := asrt_some hm1; rcases hm1 with ⟨hh3, hm1⟩
   replace hm1 := bindO hm1; rcases hm1 with ⟨y2, hh4, hm1⟩
   refine V.regionM 70 30 [⟨[(4, none)], [], none⟩, ⟨[(20, some 0)], [], none⟩, ⟨[(21, some 0)], [], none⟩, ⟨[(22, some 0)], [], none⟩, ⟨[(3, none)], [(0, false)], none⟩, ⟨[(24, some 0)], [(1, false)], none⟩, ⟨[(25, some 0)], [(2, false)], none⟩, ⟨[(0, none)], [(0, true), (3, false)], none⟩, ⟨[(3, none)], [(1, true), (4, false)], none⟩, ⟨[(28, some 0)], [(2, true), (5, false)], none⟩, ⟨[(27, some 2), (29, some 0)], [(3, true), (6, false)], none⟩, ⟨[(30, some 0)], [(4, true), (7, false)], none⟩, ⟨[(31, some 0)], [(5, true), (8, false)], none⟩, ⟨[(4, none)], [(6, true), (9, false)], none⟩, ⟨[(33, some 0)], [(7, true), (10, false)], none⟩, ⟨[(32, some 2), (34, some 0)], [(8, true), (11, false)], none⟩, ⟨[], [(12, false)], some (true, 26, 35, 9, 0)⟩, ⟨[], [], some (false, 23, 36, 13, 0)⟩, ⟨[(37, some 0)], [], none⟩, ⟨[(0, none)], [(0, false)], none⟩, ⟨[(3, none)], [(1, false)], none⟩, ⟨[(40, some 0)], [(2, false)], none⟩, ⟨[(39, some 2), (41, some 0)], [(3, false)], none⟩, ⟨[(4, none)], [(4, false)], none⟩, ⟨[(43, some 0)], [(5, false)], none⟩, ⟨[(4, none)], [(6, false)], none⟩, ⟨[(45, some 0)], [(7, false)], none⟩, ⟨[(42, some 4), (44, some 2), (46, some 0)], [(8, false)], none⟩, ⟨[(47, some 0)], [(9, false)], none⟩, ⟨[], [], some (false, 38, 48, 10, 0)⟩] [(0, none), (3, none), (4, none), (49, some 0)] (⟨_, rfl, ⟨_, rfl, ⟨_, rfl, ⟨_, rfl, ⟨_, rfl, ⟨_, rfl, ⟨_, rfl, ⟨_, rfl, ⟨_, rfl, ⟨_, rfl, ⟨_, rfl, ⟨_, rfl, ⟨_, rfl, ⟨_, rfl, ⟨_, rfl, ⟨_, rfl, ⟨_, rfl, ⟨_, rfl, ⟨_, rfl, ⟨_, rfl, ⟨_, rfl, ⟨_, rfl, ⟨_, rfl, ⟨_, rfl, ⟨_, rfl, ⟨_, rfl, ⟨_, rfl, ⟨_, rfl, ⟨_, rfl, ⟨_, rfl, ⟨rfl, rfl⟩⟩⟩⟩⟩⟩⟩⟩⟩⟩⟩⟩⟩⟩⟩⟩⟩⟩⟩⟩⟩⟩⟩⟩⟩⟩⟩⟩⟩⟩⟩) mixed_orders rfl (by decide +kernel) (fun hck5 => ?_)
   refine VP.step (p := ?pv482) rfl rfl rfl (⟨_, _, rfl, rfl, rfl⟩) ?hv482 ?rest482 hck5
   case hv482 =>
    intro E1
    refine (V1.loadRefAll (k := 0) rfl rfl tyk_67 rfl rfl rfl rfl rfl lt0 ?_)
    exact rfl
   refine VP.step (p := ?pv483) rfl rfl rfl (⟨_, _, rfl, rfl, rfl⟩) ?hv483 ?rest483 hck5
   case hv483 =>
    intro E1
    refine (V1.call rfl rfl rfl cok_103 rfl (ok_spec_l18One hh1) rfl lt0 ?_)
    rintro _ _ ⟨rfl, rfl⟩
    exact rfl
   refine VP.step (p := ?pv485) rfl rfl rfl (⟨_, _, rfl, rfl, rfl⟩) ?hv485 ?rest485 hck5
   case hv485 =>
    intro E1
    refine (V1.not rfl rfl rfl lt0 ?_)
    exact rfl
   refine VP.step (p := ?pv486) rfl rfl rfl (⟨_, _, rfl, rfl, rfl⟩) ?hv486 ?rest486 hck5
   case hv486 =>
    intro E1
    refine (V1.mv ?_)
    exact rfl
   refine VP.step (p := ?pv487) rfl rfl rfl (⟨_, _, rfl, rfl, rfl⟩) ?hv487 ?rest487 hck5
   case hv487 =>
    refine ⟨_, rfl, fun hg1 => ?_⟩
    intro E1
    refine (V1.mv ?_)
    exact rfl
   refine VP.step (p := ?pv488) rfl rfl rfl (⟨_, _, rfl, rfl, rfl⟩) ?hv488 ?rest488 hck5
   case hv488 =>
    refine ⟨_, rfl, fun hg1 => ?_⟩
    intro E1
    refine (V1.it ?_)
    exact rfl
   refine VP.step (p := ?pv489) rfl rfl rfl (⟨_, _, rfl, rfl, rfl⟩) ?hv489 ?rest489 hck5
   case hv489 =>
    refine ⟨_, rfl, fun hg1 => ?_⟩
    intro E1
    refine (V1.mv ?_)
    exact rfl
   refine VP.step (p := ?pv490) rfl rfl rfl (⟨_, _, rfl, rfl, rfl⟩) ?hv490 ?rest490 hck5
   case hv490 =>
    refine ⟨_, rfl, fun hg2 => ?_⟩
    refine ⟨_, rfl, fun hg1 => ?_⟩
    intro E1
    refine (V1.mv ?_)
    exact rfl
   refine VP.step (p := ?pv491) rfl rfl rfl (⟨_, _, rfl, rfl, rfl⟩) ?hv491 ?rest491 hck5
   case hv491 =>
    refine ⟨_, rfl, fun hg2 => ?_⟩
    refine ⟨_, rfl, fun hg1 => ?_⟩
    intro E1
    refine (V1.mv ?_)
    exact rfl
   refine VP.step (p := ?pv492) rfl rfl rfl (⟨_, _, rfl, rfl, rfl⟩) ?hv492 ?rest492 hck5
   case hv492 =>
    refine ⟨_, rfl, fun hg2 => ?_⟩
    refine ⟨_, rfl, fun hg1 => ?_⟩
    intro E1
    refine (V1.it ?_)
    exact rfl
   refine VP.step (p := ?pv493) rfl rfl rfl (⟨_, _, rfl, rfl, _, _, rfl, rfl, rfl⟩) ?hv493 ?rest493 hck5
   case hv493 =>
    refine ⟨_, rfl, fun hg2 => ?_⟩
    refine ⟨_, rfl, fun hg1 => ?_⟩
    intro E1
    refine (V1.indexI rfl rfl esz_39 rfl rfl (hh2 hg1 hg2) lt0 ?_)
    exact rfl
   refine VP.step (p := ?pv494) rfl rfl rfl (⟨_, _, rfl, rfl, rfl⟩) ?hv494 ?rest494 hck5
   case hv494 =>
    refine ⟨_, rfl, fun hg2 => ?_⟩
    refine ⟨_, rfl, fun hg1 => ?_⟩
    intro E1
    refine (V1.fieldPin rfl rfl fo_67_0 rfl lt0 ?_)
    exact rfl
   refine VP.step (p := ?pv495) rfl rfl rfl (⟨_, _, rfl, rfl, rfl⟩) ?hv495 ?rest495 hck5
   case hv495 =>
    refine ⟨_, rfl, fun hg2 => ?_⟩
    refine ⟨_, rfl, fun hg1 => ?_⟩
    intro E1
    refine (V1.loadPin rfl rfl tyk_3 rfl rfl lt0 ?_)
    exact rfl
   refine VP.step (p := ?pv496) rfl rfl rfl (⟨_, _, rfl, rfl, rfl⟩) ?hv496 ?rest496 hck5
   case hv496 =>
    refine ⟨_, rfl, fun hg2 => ?_⟩
    refine ⟨_, rfl, fun hg1 => ?_⟩
    intro E1
    refine (V1.fieldRef rfl rfl fo_67_0 rfl lt0 ?_)
    exact rfl
   refine VP.step (p := ?pv497) rfl rfl rfl (⟨_, _, rfl, rfl, rfl⟩) ?hv497 ?rest497 hck5
   case hv497 =>
    refine ⟨_, rfl, fun hg2 => ?_⟩
    refine ⟨_, rfl, fun hg1 => ?_⟩
    intro E1
    refine (V1.loadRef (k := 0) rfl rfl tyk_3 rfl rfl rfl rfl rfl lt0 ?_)
    exact rfl
   refine VP.step (p := ?pv498) rfl rfl rfl (⟨_, _, rfl, rfl, _, _, rfl, rfl, rfl⟩) ?hv498 ?rest498 hck5
   case hv498 =>
    refine ⟨_, rfl, fun hg2 => ?_⟩
    refine ⟨_, rfl, fun hg1 => ?_⟩
    intro E1
    refine (V1.it ?_)
    exact rfl
   refine VP.pickAnd rfl rfl rfl rfl rfl rfl (⟨_, rfl, fun _ => trivial⟩) ?_ hck5
   refine VP.pickOr rfl rfl rfl rfl rfl rfl (trivial) ?_ hck5
   refine VP.step (p := ?pv499) rfl rfl rfl (⟨_, _, rfl, rfl, rfl⟩) ?hv499 ?rest499 hck5
   case hv499 =>
    intro E1
    refine (V1.mv ?_)
    exact rfl
   refine VP.step (p := ?pv500) rfl rfl rfl (⟨_, _, rfl, rfl, rfl⟩) ?hv500 ?rest500 hck5
   case hv500 =>
    refine ⟨_, rfl, fun hg3 => ?_⟩
    intro E1
    refine (V1.mv ?_)
    exact rfl
   refine VP.step (p := ?pv501) rfl rfl rfl (⟨_, _, rfl, rfl, rfl⟩) ?hv501 ?rest501 hck5
   case hv501 =>
    refine ⟨_, rfl, fun hg3 => ?_⟩
    intro E1
    refine (V1.mv ?_)
    exact rfl
   refine VP.step (p := ?pv502) rfl rfl rfl (⟨_, _, rfl, rfl, rfl⟩) ?hv502 ?rest502 hck5
   case hv502 =>
    refine ⟨_, rfl, fun hg3 => ?_⟩
    intro E1
    refine (V1.it ?_)
    exact rfl
   refine VP.step (p := ?pv503) rfl rfl rfl (⟨_, _, rfl, rfl, _, _, rfl, rfl, rfl⟩) ?hv503 ?rest503 hck5
   case hv503 =>
    refine ⟨_, rfl, fun hg3 => ?_⟩
    intro E1
    refine (V1.sliceMap (a := (0 : Int)) (b := (IntKind.i64.wrap (i + (1 : Int)))) rfl rfl esz_39 rfl (Bnd.none _ _) (Bnd.some rfl (Int.le_trans (hh3 hg3).1 (hh3 hg3).2.1) _) (hh3 hg3) lt0 ?_)
    exact rfl
   refine VP.step (p := ?pv504) rfl rfl rfl (⟨_, _, rfl, rfl, rfl⟩) ?hv504 ?rest504 hck5
   case hv504 =>
    refine ⟨_, rfl, fun hg3 => ?_⟩
    intro E1
    refine (V1.fieldRef rfl rfl fo_67_2 rfl lt0 ?_)
    exact rfl
   refine VP.step (p := ?pv505) rfl rfl rfl (⟨_, _, rfl, rfl, rfl⟩) ?hv505 ?rest505 hck5
   case hv505 =>
    refine ⟨_, rfl, fun hg3 => ?_⟩
    intro E1
    refine (V1.loadRef (k := 0) rfl rfl tyk_3 rfl rfl rfl rfl rfl lt0 ?_)
    exact rfl
   refine VP.step (p := ?pv506) rfl rfl rfl (⟨_, _, rfl, rfl, rfl⟩) ?hv506 ?rest506 hck5
   case hv506 =>
    refine ⟨_, rfl, fun hg3 => ?_⟩
    intro E1
    refine (V1.fieldRef rfl rfl fo_67_1 rfl lt0 ?_)
    exact rfl
   refine VP.step (p := ?pv507) rfl rfl rfl (⟨_, _, rfl, rfl, rfl⟩) ?hv507 ?rest507 hck5
   case hv507 =>
    refine ⟨_, rfl, fun hg3 => ?_⟩
    intro E1
    refine (V1.loadRef (k := 0) rfl rfl tyk_3 rfl rfl rfl rfl rfl lt0 ?_)
    exact rfl
   refine VP.step (p := ?pv508) rfl rfl rfl (⟨_, _, rfl, rfl, _, _, rfl, rfl, _, _, rfl, rfl, rfl⟩) ?hv508 ?rest508 hck5
   case hv508 =>
    refine ⟨_, rfl, fun hg3 => ?_⟩
    intro E1
    refine (V1.call rfl rfl rfl cok_104 rfl (ok_spec_l18Taken (cond_f hg3 hh4)) rfl lt0 ?_)
    rintro _ _ ⟨rfl, rfl⟩
    exact rfl
   refine VP.step (p := ?pv510) rfl rfl rfl (⟨_, _, rfl, rfl, rfl⟩) ?hv510 ?rest510 hck5
   case hv510 =>
    refine ⟨_, rfl, fun hg3 => ?_⟩
    intro E1
    refine (V1.it ?_)
    exact rfl
   refine VP.pickOr rfl rfl rfl rfl rfl rfl (trivial) ?_ hck5
   refine VP.fin rfl (⟨_, _, rfl, rfl, _, _, rfl, rfl, _, _, rfl, rfl, _, _, rfl, rfl, rfl⟩) ?_
   refine VO.nil (V.cond rfl (fun hc1 => ?_) (fun hc1 => ?_))
   ·
    replace hm1 := cond_t hc1 hm1
    refine V.seq (V.region (VO.cons rfl (V1.as ?_)))
    refine VO.nil (V.ret ?_)
    obtain rfl := hr1 _ (oi hm1).symm
    change some _ = some _ at hm0
    obtain rfl := oi hm0
    exact ⟨_, [], ⟨_, _, rfl, rfl, rfl⟩, List.nil_sublist _, rfl, rfl⟩
   ·
    replace hm1 := cond_f hc1 hm1
    refine V.skip ?_
    refine V.seq (V.region (VO.cons rfl (V1.as ?_)))
    refine VO.nil ?_
    replace hm1 := bindO hm1; rcases hm1 with ⟨e1, he2, hm1⟩
    refine V.cutT (D := (Unit) × (Unit)) (fun ⟨_, _⟩ => ⟨70, [(0, .vl ρ0 5 (List.map (encCarton σ0) list)), (3, .int .i64 i)], []⟩) (fun ⟨_, _⟩ => (.inl () = e1)) ?_ ?_
    ·
     refine V.block ?_
     refine V.keep 70 [5, 0, 3, 4] [0] (E0 := [(5, .int .i64 (0 : Int)), (0, .vl ρ0 5 (List.map (encCarton σ0) list)), (3, .int .i64 i), (4, .ref b0 5 0 0)]) (H0 := [(b0, ⟨5, [encCarton σ0 (list.getD (Int.toNat i) default)]⟩)]) rfl (⟨_, _, rfl, rfl, _, _, rfl, rfl, _, _, rfl, rfl, _, _, rfl, rfl, rfl⟩) (⟨_, _, rfl, rfl, rfl⟩) rfl ?_
     refine V.loopE (D := Nat × (Int) × (Unit)) (fun ⟨n1, k, _⟩ => [(5, .int .i64 k)]) (fun ⟨n1, k, _⟩ => []) (fun ⟨n1, k, _⟩ => loopO (M.spec_l18Good_l1 list i) n1 k = some e1) (fun ⟨n1, _, _⟩ => n1) (rounds, (0 : Int), ()) rfl he2 ?_
     rintro ⟨n1, k, _⟩ hP1
     obtain ⟨m1, y3, rfl, hm2, hl2, hr2⟩ := loop_head hP1
     unfold M.spec_l18Good_l1 at hm2; dsimp only at hm2
     show V _ _ _ ⟨70, [(5, .int .i64 k), (0, .vl ρ0 5 (List.map (encCarton σ0) list)), (3, .int .i64 i), (4, .ref b0 5 0 0)], [(b0, ⟨5, [encCarton σ0 (list.getD (Int.toNat i) default)]⟩)]⟩
     refine V.seq (V.seq (V.region (VO.cons rfl (V1.mv ?_))))
     refine VO.cons rfl (V1.fieldRef rfl rfl fo_67_3 rfl lt0 ?_)
     refine VO.cons rfl (V1.loadRef (k := 0) rfl rfl tyk_36 rfl rfl rfl rfl rfl lt0 ?_)
     refine VO.cons rfl (V1.lenMap rfl rfl rfl rfl rfl rfl isl_36 lt0 ?_)
     refine VO.cons rfl (V1.it ?_)
     refine VO.nil (V.keep 70 [0, 3, 4, 5, 54] [0] (E0 := [(0, .vl ρ0 5 (List.map (encCarton σ0) list)), (3, .int .i64 i), (4, .ref b0 5 0 0), (5, .int .i64 k), (54, .bool (decide (k < (((list.getD (Int.toNat i) default).Files).length : Int))))]) (H0 := [(b0, ⟨5, [encCarton σ0 (list.getD (Int.toNat i) default)]⟩)]) rfl (⟨_, _, rfl, rfl, _, _, rfl, rfl, _, _, rfl, rfl, _, _, rfl, rfl, _, _, rfl, rfl, rfl⟩) (⟨_, _, rfl, rfl, rfl⟩) rfl ?_)
     refine V.cond rfl (fun hc2 => ?_) (fun hc2 => ?_)
     ·
      replace hm2 := cond_t hc2 hm2
      refine V.skip ?_
      refine V.seq (V.block ?_)
      refine V.seq ?_
      replace hm2 := asrt_some hm2; rcases hm2 with ⟨hh5, hm2⟩
      replace hm2 := asrt_some hm2; rcases hm2 with ⟨hh6, hm2⟩
      replace hm2 := bindO hm2; rcases hm2 with ⟨y4, hh7, hm2⟩
      refine V.regionM 70 8 [⟨[(0, none)], [], none⟩, ⟨[(3, none)], [], none⟩, ⟨[(57, some 1), (58, some 0)], [], none⟩, ⟨[(4, none)], [], none⟩, ⟨[(60, some 0)], [], none⟩, ⟨[(5, none)], [], none⟩, ⟨[(61, some 1), (62, some 0)], [], none⟩, ⟨[(63, some 0)], [], none⟩] [(0, none), (3, none), (4, none), (5, none), (59, some 5), (64, some 0)] (⟨_, rfl, ⟨_, rfl, ⟨_, rfl, ⟨_, rfl, ⟨_, rfl, ⟨_, rfl, ⟨_, rfl, ⟨_, rfl, ⟨rfl, rfl⟩⟩⟩⟩⟩⟩⟩⟩⟩) mixed_orders rfl (by decide +kernel) (fun hck10 => ?_)
      refine VP.step (p := ?pv532) rfl rfl rfl (⟨_, _, rfl, rfl, rfl⟩) ?hv532 ?rest532 hck10
      case hv532 =>
       intro E1
       refine (V1.mv ?_)
       exact rfl
      refine VP.step (p := ?pv533) rfl rfl rfl (⟨_, _, rfl, rfl, rfl⟩) ?hv533 ?rest533 hck10
      case hv533 =>
       intro E1
       refine (V1.mv ?_)
       exact rfl
      refine VP.step (p := ?pv534) rfl rfl rfl (⟨_, _, rfl, rfl, _, _, rfl, rfl, rfl⟩) ?hv534 ?rest534 hck10
      case hv534 =>
       intro E1
       refine (V1.sliceMap (a := (0 : Int)) (b := i) rfl rfl esz_39 rfl (Bnd.none _ _) (Bnd.some rfl (Int.le_trans hh5.1 hh5.2.1) _) hh5 lt0 ?_)
       exact rfl
      refine VP.step (p := ?pv535) rfl rfl rfl (⟨_, _, rfl, rfl, rfl⟩) ?hv535 ?rest535 hck10
      case hv535 =>
       intro E1
       refine (V1.fieldRef rfl rfl fo_67_3 rfl lt0 ?_)
       exact rfl
      refine VP.step (p := ?pv536) rfl rfl rfl (⟨_, _, rfl, rfl, rfl⟩) ?hv536 ?rest536 hck10
      case hv536 =>
       intro E1
       refine (V1.loadRef (k := 0) rfl rfl tyk_36 rfl rfl rfl rfl rfl lt0 ?_)
       exact rfl
      refine VP.step (p := ?pv537) rfl rfl rfl (⟨_, _, rfl, rfl, rfl⟩) ?hv537 ?rest537 hck10
      case hv537 =>
       intro E1
       refine (V1.mv ?_)
       exact rfl
      refine VP.step (p := ?pv538) rfl rfl rfl (⟨_, _, rfl, rfl, _, _, rfl, rfl, rfl⟩) ?hv538 ?rest538 hck10
      case hv538 =>
       intro E1
       refine (V1.indexI rfl rfl esz_36 rfl rfl hh6 lt0 ?_)
       exact rfl
      refine VP.step (p := ?pv539) rfl rfl rfl (⟨_, _, rfl, rfl, rfl⟩) ?hv539 ?rest539 hck10
      case hv539 =>
       intro E1
       refine (V1.loadPin rfl rfl tyk_3 rfl rfl lt0 ?_)
       exact rfl
      refine VP.fin rfl (⟨_, _, rfl, rfl, _, _, rfl, rfl, _, _, rfl, rfl, _, _, rfl, rfl, _, _, rfl, rfl, _, _, rfl, rfl, rfl⟩) ?_
      refine VO.cons rfl (V1.call rfl rfl rfl cok_69 rfl (ok_spec_l18Holds hh7) rfl lt0 ?_)
      rintro _ _ ⟨rfl, rfl⟩
      refine VO.cons rfl (V1.it ?_)
      refine VO.nil (V.cond rfl (fun hc3 => ?_) (fun hc3 => ?_))
      ·
       replace hm2 := cond_t hc3 hm2
       refine V.seq (V.region (VO.cons rfl (V1.as ?_)))
       refine VO.nil (V.ret ?_)
       obtain rfl := hr2 _ (oi hm2).symm
       change some _ = some _ at hm1
       obtain rfl := hr1 _ (oi hm1).symm
       change some _ = some _ at hm0
       obtain rfl := oi hm0
       exact ⟨_, [], ⟨_, _, rfl, rfl, rfl⟩, List.nil_sublist _, rfl, rfl⟩
      ·
       replace hm2 := cond_f hc3 hm2
       refine V.skip ?_
       refine V.keep 70 [0, 3, 4, 5] [0] (E0 := [(0, .vl ρ0 5 (List.map (encCarton σ0) list)), (3, .int .i64 i), (4, .ref b0 5 0 0), (5, .int .i64 k)]) (H0 := [(b0, ⟨5, [encCarton σ0 (list.getD (Int.toNat i) default)]⟩)]) rfl (⟨_, _, rfl, rfl, _, _, rfl, rfl, _, _, rfl, rfl, _, _, rfl, rfl, rfl⟩) (⟨_, _, rfl, rfl, rfl⟩) rfl ?_
       refine V.region (VO.cons rfl (V1.mv ?_))
       refine VO.cons rfl (V1.it ?_)
       refine VO.cons rfl (V1.as ?_)
       refine VO.nil ?_
       exact ⟨(m1, (IntKind.i64.wrap (k + (1 : Int))), ()), hl2 _ (oi hm2).symm, Nat.lt_succ_self _, Keeps.mk (ks := [0]) rfl ⟨rfl, rfl, rfl, rfl, trivial⟩ (⟨_, _, rfl, rfl, rfl⟩) rfl⟩
     ·
      replace hm2 := cond_f hc2 hm2
      refine V.exit ?_
      obtain rfl := hr2 _ (oi hm2).symm
      exact ⟨((), ()), rfl, Keeps.mk (ks := []) rfl ⟨rfl, rfl, trivial⟩ (rfl) rfl⟩
    ·
     rintro ⟨_, _⟩ rfl
     try dsimp only at hm1
     refine V.region (VO.cons rfl (V1.mv ?_))
     refine VO.cons rfl (V1.it ?_)
     refine VO.cons rfl (V1.as ?_)
     refine VO.nil ?_
     exact ⟨(m0, (IntKind.i64.wrap (i + (1 : Int))), ()), hl1 _ (oi hm1).symm, Nat.lt_succ_self _, Keeps.mk (ks := []) rfl ⟨rfl, rfl, trivial⟩ (rfl) rfl⟩
  ·
   replace hm1 := cond_f hc0 hm1
   refine V.exit ?_
   obtain rfl := hr1 _ (oi hm1).symm
   exact ⟨((), ()), rfl, Keeps.mk (ks := []) rfl ⟨rfl, trivial⟩ (rfl) rfl⟩
 ·
  rintro ⟨_, _⟩ rfl
  try dsimp only at hm0
  refine V.seq (V.region (VO.cons rfl (V1.mv ?_)))
  refine VO.cons rfl (V1.lenMap rfl rfl rfl rfl rfl rfl isl_39 lt0 ?_)
  refine VO.cons rfl (V1.it ?_)
  refine VO.cons rfl (V1.as ?_)
  refine VO.nil (V.ret ?_)
  obtain rfl := oi hm0
  exact ⟨_, [], ⟨_, _, rfl, rfl, rfl⟩, List.nil_sublist _, rfl, rfl⟩
theorem ok_spec_l1Cur_one {ρ0 rn bp : Nat} {c : Cur} {n : Int} {r : Bool × Cur} (h : M.spec_l1Cur_one c n = some r) : Does Try.prog 117 [.ref bp 3 0 0, .int .i64 n] [(bp, ⟨3, [encCur ρ0 c]⟩)] rn (fun x H => x = .bool r.1 ∧ H = [(bp, ⟨3, [encCur ρ0 r.2]⟩)]) := by
 have hm0 := h; clear h; unfold M.spec_l1Cur_one at hm0
 try dsimp only at hm0
 refine Does.intro (N := 9) Try.func117 rfl rfl rfl rfl ?_
 intro w0 S0
 refine V.seq (V.region (VO.cons rfl (V1.as ?_)))
 refine VO.nil (V.seq ?_)
 replace hm0 := bindO hm0; rcases hm0 with ⟨y0, hh0, hm0⟩
 refine V.region (VO.cons rfl (V1.mv ?_))
 refine VO.cons rfl (V1.mv ?_)
 refine VO.cons rfl (V1.callM 0 (rn + ρ0 + 1) [] [.ref bp 3 0 0, .int .i64 n] (p := (bp, ⟨3, [encCur ρ0 c]⟩)) rfl rfl rfl cok_94 rfl rfl ⟨_, _, rfl, .same _, ⟨_, _, rfl, .same _, rfl⟩⟩ bwNil (ok_spec_l1Cur_pick hh0) rfl (.inl rfl) lt0 ?_)
 rintro _ _ ⟨rfl, rfl⟩
 refine VO.cons rfl (V1.it ?_)
 refine VO.cons rfl (V1.as ?_)
 refine VO.nil (V.ret ?_)
 obtain rfl := oi hm0
 exact ⟨_, _, ⟨_, _, rfl, rfl, rfl⟩, (sub1 (k := 0) rfl), rfl, rfl⟩
theorem ok_spec_l1Cur_cartons {ρ0 rn bp : Nat} {c : Cur} {r : List Carton × Cur} (h : M.spec_l1Cur_cartons c = some r) : Does Try.prog 84 [.ref bp 3 0 0] [(bp, ⟨3, [encCur ρ0 c]⟩)] rn (fun x H => ∃ (ob0_ : Nat), x = PV.sref ob0_ 5 0 (List.length r.1) ∧ H = [(ob0_, ⟨5, List.map (encCarton rn) r.1⟩)] ++ [(bp, ⟨3, [encCur ρ0 r.2]⟩)]) := by
 have hm0 := h; clear h; unfold M.spec_l1Cur_cartons at hm0
 try dsimp only at hm0
 refine Does.intro (N := 64) Try.func84 rfl rfl rfl rfl ?_
 intro w0 S0
 refine V.seq (V.region (VO.cons rfl (V1.as ?_)))
 refine VO.nil (V.seq (V.region (VO.cons rfl (V1.buildSliceT (f := (encCarton rn)) ([] : List Carton) rfl rfl esz_39 zk_67 rfl rfl rfl rfl rfl rfl rfl lt0 ?_))))
 intro b0
 refine VO.cons rfl (V1.as ?_)
 refine VO.nil (V.seq (V.region (VO.cons rfl (V1.as ?_))))
 refine VO.nil (V.seq (V.seq ?_))
 replace hm0 := bindO hm0; rcases hm0 with ⟨y0, hh0, hm0⟩
 refine V.region (VO.cons rfl (V1.mv ?_))
 refine VO.cons rfl (V1.callM 1 (rn + ρ0 + 1) [] [.ref bp 3 0 0, .int .i64 (7 : Int)] (p := (bp, ⟨3, [encCur ρ0 c]⟩)) rfl rfl rfl cok_94 rfl rfl ⟨_, _, rfl, .same _, ⟨_, _, rfl, .same _, rfl⟩⟩ bwNil (ok_spec_l1Cur_pick hh0) rfl (.inl rfl) lt0 ?_)
 rintro _ _ ⟨rfl, rfl⟩
 refine VO.cons rfl (V1.as ?_)
 refine VO.nil (V.keep 64 [0, 3, 4, 5] [0, 1] (E0 := [(0, .ref bp 3 0 0), (3, .sref b0 5 0 (List.length ([] : List Carton))), (4, .int .i64 (0 : Int)), (5, .int .i64 y0.1)]) (H0 := [(bp, ⟨3, [encCur ρ0 y0.2]⟩), (b0, ⟨5, List.map (encCarton rn) ([] : List Carton)⟩)]) rfl (⟨_, _, rfl, rfl, _, _, rfl, rfl, _, _, rfl, rfl, _, _, rfl, rfl, rfl⟩) (⟨_, _, rfl, rfl, _, _, rfl, rfl, rfl⟩) rfl ?_)
 replace hm0 := bindO hm0; rcases hm0 with ⟨e0, he1, hm0⟩
 refine V.cutT (D := (List Carton × Cur) × (Nat)) (fun ⟨⟨out_, c_⟩, b1⟩ => ⟨64, [(3, .sref b1 5 0 (List.length out_)), (0, .ref bp 3 0 0)], [(b1, ⟨5, List.map (encCarton rn) out_⟩), (bp, ⟨3, [encCur ρ0 c_]⟩)]⟩) (fun ⟨⟨out_, c_⟩, b1⟩ => ((out_, c_) = e0)) ?_ ?_
 ·
  refine V.block ?_
  refine V.keep 64 [3, 4, 5, 0] [1, 0] (E0 := [(3, .sref b0 5 0 (List.length ([] : List Carton))), (4, .int .i64 (0 : Int)), (5, .int .i64 y0.1), (0, .ref bp 3 0 0)]) (H0 := [(b0, ⟨5, List.map (encCarton rn) ([] : List Carton)⟩), (bp, ⟨3, [encCur ρ0 y0.2]⟩)]) rfl (⟨_, _, rfl, rfl, _, _, rfl, rfl, _, _, rfl, rfl, _, _, rfl, rfl, rfl⟩) (⟨_, _, rfl, rfl, _, _, rfl, rfl, rfl⟩) rfl ?_
  refine V.loopE (D := Nat × (List Carton × Int × Int × Cur) × (Nat)) (fun ⟨n0, ⟨out_0, id_, n_, c_0⟩, b2⟩ => [(3, .sref b2 5 0 (List.length out_0)), (4, .int .i64 id_), (5, .int .i64 n_)]) (fun ⟨n0, ⟨out_0, id_, n_, c_0⟩, b2⟩ => [(b2, ⟨5, List.map (encCarton rn) out_0⟩), (bp, ⟨3, [encCur ρ0 c_0]⟩)]) (fun ⟨n0, ⟨out_0, id_, n_, c_0⟩, b2⟩ => loopO (M.spec_l1Cur_cartons_l0) n0 (out_0, id_, n_, c_0) = some e0) (fun ⟨n0, _, _⟩ => n0) (rounds, (([] : List Carton), (0 : Int), y0.1, y0.2), b0) rfl he1 ?_
  rintro ⟨n0, ⟨out_0, id_, n_, c_0⟩, b2⟩ hP0
  obtain ⟨m0, y1, rfl, hm1, hl1, hr1⟩ := loop_head hP0
  unfold M.spec_l1Cur_cartons_l0 at hm1; dsimp only at hm1
  show V _ _ _ ⟨64, [(3, .sref b2 5 0 (List.length out_0)), (4, .int .i64 id_), (5, .int .i64 n_), (0, .ref bp 3 0 0)], [(b2, ⟨5, List.map (encCarton rn) out_0⟩), (bp, ⟨3, [encCur ρ0 c_0]⟩)]⟩
  refine V.seq (V.seq (V.region (VO.cons rfl (V1.mv ?_))))
  refine VO.cons rfl (V1.it ?_)
  refine VO.nil (V.cond rfl (fun hc0 => ?_) (fun hc0 => ?_))
  ·
   replace hm1 := cond_t hc0 hm1
   refine V.skip ?_
   refine V.seq ?_
   replace hm1 := bindO hm1; rcases hm1 with ⟨j0, hm2, hm1⟩
   refine V.cutT (D := (List Carton × Int × Cur) × (Nat)) (fun ⟨⟨out_1, id_0, c_1⟩, b3⟩ => ⟨64, [(3, .sref b3 5 0 (List.length out_1)), (4, .int .i64 id_0), (0, .ref bp 3 0 0), (5, .int .i64 n_)], [(b3, ⟨5, List.map (encCarton rn) out_1⟩), (bp, ⟨3, [encCur ρ0 c_1]⟩)]⟩) (fun ⟨⟨out_1, id_0, c_1⟩, b3⟩ => ((out_1, id_0, c_1) = j0)) ?_ ?_
   ·
    refine V.block ?_
    refine V.seq ?_
    replace hm2 := bindO hm2; rcases hm2 with ⟨y2, hh1, hm2⟩
    refine V.region (VO.cons rfl (V1.mv ?_))
    refine VO.cons rfl (V1.it ?_)
    refine VO.cons rfl (V1.mv ?_)
    refine VO.cons rfl (V1.callM 1 (rn + ρ0 + 1) [] [.ref bp 3 0 0, .int .i64 (3 : Int)] (p := (bp, ⟨3, [encCur ρ0 c_0]⟩)) rfl rfl rfl cok_94 rfl rfl ⟨_, _, rfl, .same _, ⟨_, _, rfl, .same _, rfl⟩⟩ bwNil (ok_spec_l1Cur_pick hh1) rfl (.inl rfl) lt0 ?_)
    rintro _ _ ⟨rfl, rfl⟩
    refine VO.cons rfl (V1.it ?_)
    refine VO.cons rfl (V1.as ?_)
    refine VO.nil (V.keep 64 [0, 3, 4, 5] [0, 1] (E0 := [(0, .ref bp 3 0 0), (3, .sref b2 5 0 (List.length out_0)), (4, .int .i64 (IntKind.i64.wrap ((IntKind.i64.wrap (id_ + (1 : Int))) + y2.1))), (5, .int .i64 n_)]) (H0 := [(bp, ⟨3, [encCur ρ0 y2.2]⟩), (b2, ⟨5, List.map (encCarton rn) out_0⟩)]) rfl (⟨_, _, rfl, rfl, _, _, rfl, rfl, _, _, rfl, rfl, _, _, rfl, rfl, rfl⟩) (⟨_, _, rfl, rfl, _, _, rfl, rfl, rfl⟩) rfl ?_)
    refine V.seq ?_
    replace hm2 := asrt_some hm2; rcases hm2 with ⟨hh2, hm2⟩
    replace hm2 := bindO hm2; rcases hm2 with ⟨y3, hh3, hm2⟩
    replace hm2 := bindO hm2; rcases hm2 with ⟨y4, hh4, hm2⟩
    replace hm2 := asrt_some hm2; rcases hm2 with ⟨hh5, hm2⟩
    refine V.region (VO.cons rfl (V1.buildSliceT (f := (encCarton rn)) ([] : List Carton) rfl rfl esz_39 zk_67 rfl rfl rfl rfl rfl rfl rfl lt0 ?_))
    intro b4
    refine VO.cons rfl (V1.mv ?_)
    refine VO.cons rfl (V1.appendMap (k := 0) (f := (encCarton rn)) (l := ([] : List Carton)) (m := out_0) rfl rfl rfl rfl rfl esz_39 eby_39 zk_67 rfl rfl rfl (SrcOf.srMap (k := 2) rfl isl_39) hh2 lt0 ?_)
    intro b5
    refine VO.cons rfl (V1.mv ?_)
    refine VO.cons rfl (V1.mv ?_)
    refine VO.cons rfl (V1.mv ?_)
    refine VO.cons rfl (V1.lenSref rfl rfl rfl rfl rfl rfl isl_39 lt0 ?_)
    refine VO.cons rfl (V1.it ?_)
    refine VO.cons rfl (V1.it ?_)
    refine VO.cons rfl (V1.mv ?_)
    refine VO.cons rfl (V1.callM 1 (rn + ρ0 + 1) [] [.ref bp 3 0 0, .int .i64 (60 : Int)] (p := (bp, ⟨3, [encCur ρ0 y2.2]⟩)) rfl rfl rfl cok_94 rfl rfl ⟨_, _, rfl, .same _, ⟨_, _, rfl, .same _, rfl⟩⟩ bwNil (ok_spec_l1Cur_pick hh3) rfl (.inl rfl) lt0 ?_)
    rintro _ _ ⟨rfl, rfl⟩
    refine VO.cons rfl (V1.quo rfl rfl rfl rfl (by decide) lt0 ?_)
    refine VO.cons rfl (V1.it ?_)
    refine VO.cons rfl (V1.it ?_)
    refine VO.cons rfl (V1.callM 0 (rn + ρ0 + 1) [] [.ref bp 3 0 0, .int .i64 (IntKind.i64.wrap ((IntKind.i64.wrap (id_ + (1 : Int))) + y2.1)), .int .i64 (IntKind.i64.wrap ((IntKind.i64.wrap ((IntKind.i64.wrap ((30 : Int) * (out_0.length : Int))) + (1 : Int))) - (IntKind.i64.wrap ((IntKind.i64.wrap (Int.tdiv y3.1 (59 : Int))) * (20 : Int)))))] (p := (bp, ⟨3, [encCur ρ0 y3.2]⟩)) rfl rfl rfl cok_116 rfl rfl ⟨_, _, rfl, .same _, ⟨_, _, rfl, .same _, ⟨_, _, rfl, .same _, rfl⟩⟩⟩ bwNil (ok_spec_l1Cur_carton hh4) rfl (.inl rfl) lt0 ?_)
    rintro _ _ ⟨rfl, rfl⟩
    refine VO.cons rfl (V1.buildSliceT (f := (encCarton rn)) ([y4.1] : List Carton) rfl rfl esz_39 zk_67 rfl rfl rfl rfl rfl rfl rfl lt0 ?_)
    intro b6
    refine VO.cons rfl (V1.appendMap (k := 2) (f := (encCarton rn)) (l := (([] : List Carton) ++ out_0)) (m := ([y4.1] : List Carton)) rfl rfl rfl rfl rfl esz_39 eby_39 zk_67 rfl rfl rfl (SrcOf.srMap (k := 0) rfl isl_39) hh5 lt0 ?_)
    intro b7
    refine VO.cons rfl (V1.as ?_)
    refine VO.nil (V.keep 64 [0, 3, 4, 5, 6] [0, 2, 3] (E0 := [(0, .ref bp 3 0 0), (3, .sref b2 5 0 (List.length out_0)), (4, .int .i64 (IntKind.i64.wrap ((IntKind.i64.wrap (id_ + (1 : Int))) + y2.1))), (5, .int .i64 n_), (6, .sref b7 5 0 (List.length ((([] : List Carton) ++ out_0) ++ ([y4.1] : List Carton))))]) (H0 := [(b7, ⟨5, List.map (encCarton rn) ((([] : List Carton) ++ out_0) ++ ([y4.1] : List Carton))⟩), (bp, ⟨3, [encCur ρ0 y4.2]⟩), (b2, ⟨5, List.map (encCarton rn) out_0⟩)]) rfl (⟨_, _, rfl, rfl, _, _, rfl, rfl, _, _, rfl, rfl, _, _, rfl, rfl, _, _, rfl, rfl, rfl⟩) (⟨_, _, rfl, rfl, _, _, rfl, rfl, _, _, rfl, rfl, rfl⟩) rfl ?_)
    refine V.seq ?_
    replace hm2 := bindO hm2; rcases hm2 with ⟨y5, hh6, hm2⟩
    replace hm2 := bindO hm2; rcases hm2 with ⟨y6, hh7, hm2⟩
    refine V.region (VO.cons rfl (V1.mv ?_))
    refine VO.cons rfl (V1.callL (rn + 1) [b7] [.vl (rn + 1) 5 (List.map (encCarton rn) ((([] : List Carton) ++ out_0) ++ ([y4.1] : List Carton)))] rfl rfl rfl cok_60 rfl ⟨_, _, rfl, Lend.srMap 0 rfl (fun _ => rfl) (.head _), rfl⟩ (bwCons (k := 0) rfl bwNil) (ok_spec_l18Good hh6) rfl (⟨(by first | omega | (dsimp only; omega)), by rintro _ _ ⟨rfl, rfl⟩; exact ⟨rfl, by simp⟩⟩) lt0 ?_)
    rintro _ _ ⟨rfl, rfl⟩
    refine VO.cons rfl (V1.mv ?_)
    apply VO.orH (n := 2) [(b7, ⟨5, List.map (encCarton rn) ((([] : List Carton) ++ out_0) ++ ([y4.1] : List Carton))⟩), (bp, ⟨3, [encCur ρ0 (bif y5 then y4.2 else y6.2)]⟩), (b2, ⟨5, List.map (encCarton rn) out_0⟩)] rfl rfl rfl rfl rfl rfl lt0 (.none rfl) (fun h => by rw [h]; rfl)
    ·
     intro hg0
     refine VO.step (.some rfl rfl rfl) (V1.mv ?_)
     refine VO.step (.some rfl rfl rfl) (V1.callM 1 (rn + ρ0 + 1) [] [.ref bp 3 0 0, .int .i64 (40 : Int)] (p := (bp, ⟨3, [encCur ρ0 y4.2]⟩)) rfl rfl rfl cok_117 rfl rfl ⟨_, _, rfl, .same _, ⟨_, _, rfl, .same _, rfl⟩⟩ bwNil (ok_spec_l1Cur_one (cond_f hg0 hh7)) rfl (.inl rfl) lt0 ?_)
     rintro _ _ ⟨rfl, rfl⟩
     refine VO.weakenK (Keeps.setAt (H := [(b7, ⟨5, List.map (encCarton rn) ((([] : List Carton) ++ out_0) ++ ([y4.1] : List Carton))⟩), (bp, ⟨3, [encCur ρ0 y4.2]⟩), (b2, ⟨5, List.map (encCarton rn) out_0⟩)]) 1 lt0) ?_
     exact VO.nil ⟨rfl, rfl, rfl, (by rw [hg0]; rfl), .inr ⟨rfl, .inr ⟨rfl, .inr ⟨rfl, .inl rfl⟩⟩⟩⟩
    refine VO.nil (V.cond rfl (fun hc1 => ?_) (fun hc1 => ?_))
    ·
     replace hm2 := cond_t hc1 hm2
     refine V.region (VO.cons rfl (V1.mv ?_))
     refine VO.cons rfl (V1.as ?_)
     refine VO.nil ?_
     exact ⟨((((([] : List Carton) ++ out_0) ++ ([y4.1] : List Carton)), (IntKind.i64.wrap ((IntKind.i64.wrap (id_ + (1 : Int))) + y2.1)), (bif y5 then y4.2 else y6.2)), b7), oi hm2, Keeps.mk (ks := [0, 1]) rfl ⟨rfl, rfl, rfl, rfl, trivial⟩ (⟨_, _, rfl, rfl, _, _, rfl, rfl, rfl⟩) rfl⟩
    ·
     replace hm2 := cond_f hc1 hm2
     refine V.skip ?_
     exact ⟨((out_0, (IntKind.i64.wrap ((IntKind.i64.wrap (id_ + (1 : Int))) + y2.1)), (bif y5 then y4.2 else y6.2)), b2), oi hm2, Keeps.mk (ks := [2, 1]) rfl ⟨rfl, rfl, rfl, rfl, trivial⟩ (⟨_, _, rfl, rfl, _, _, rfl, rfl, rfl⟩) rfl⟩
   ·
    rintro ⟨⟨out_1, id_0, c_1⟩, b3⟩ rfl
    try dsimp only at hm1
    refine V.region (VO.cons rfl (V1.mv ?_))
    refine VO.cons rfl (V1.it ?_)
    refine VO.cons rfl (V1.as ?_)
    refine VO.nil ?_
    exact ⟨(m0, (out_1, id_0, (IntKind.i64.wrap (n_ - (1 : Int))), c_1), b3), hl1 _ (oi hm1).symm, Nat.lt_succ_self _, Keeps.mk (ks := [0, 1]) rfl ⟨rfl, rfl, rfl, rfl, trivial⟩ (⟨_, _, rfl, rfl, _, _, rfl, rfl, rfl⟩) rfl⟩
  ·
   replace hm1 := cond_f hc0 hm1
   refine V.exit ?_
   obtain rfl := hr1 _ (oi hm1).symm
   exact ⟨((out_0, c_0), b2), rfl, Keeps.mk (ks := [0, 1]) rfl ⟨rfl, rfl, trivial⟩ (⟨_, _, rfl, rfl, _, _, rfl, rfl, rfl⟩) rfl⟩
 ·
  rintro ⟨⟨out_, c_⟩, b1⟩ rfl
  try dsimp only at hm0
  refine V.seq (V.seq ?_)
  replace hm0 := bindO hm0; rcases hm0 with ⟨y7, hh8, hm0⟩
  refine V.region (VO.cons rfl (V1.mv ?_))
  refine VO.cons rfl (V1.callM 1 (rn + ρ0 + 1) [] [.ref bp 3 0 0, .int .i64 (24 : Int)] (p := (bp, ⟨3, [encCur ρ0 c_]⟩)) rfl rfl rfl cok_117 rfl rfl ⟨_, _, rfl, .same _, ⟨_, _, rfl, .same _, rfl⟩⟩ bwNil (ok_spec_l1Cur_one hh8) rfl (.inl rfl) lt0 ?_)
  rintro _ _ ⟨rfl, rfl⟩
  refine VO.nil (V.cond rfl (fun hc2 => ?_) (fun hc2 => ?_))
  ·
   replace hm0 := cond_t hc2 hm0
   refine V.seq (V.region (VO.cons rfl (V1.buildSliceT (f := (encCarton rn)) ([] : List Carton) rfl rfl esz_39 zk_67 rfl rfl rfl rfl rfl rfl rfl lt0 ?_)))
   intro b8
   refine VO.cons rfl (V1.as ?_)
   refine VO.nil (V.seq (V.region (VO.cons rfl (V1.as ?_))))
   refine VO.nil ?_
   replace hm0 := bindO hm0; rcases hm0 with ⟨e1, he1, hm0⟩
   refine V.cutT (D := (List Carton × Cur) × (Nat)) (fun ⟨⟨out_2, c_2⟩, b9⟩ => ⟨64, [(3, .sref b9 5 0 (List.length out_2))], [(b9, ⟨5, List.map (encCarton rn) out_2⟩), (bp, ⟨3, [encCur ρ0 c_2]⟩)]⟩) (fun ⟨⟨out_2, c_2⟩, b9⟩ => ((out_2, c_2) = e1)) ?_ ?_
   ·
    refine V.block ?_
    refine V.keep 64 [3, 7, 0] [0, 1] (E0 := [(3, .sref b8 5 0 (List.length ([] : List Carton))), (7, .int .i64 (0 : Int)), (0, .ref bp 3 0 0)]) (H0 := [(b8, ⟨5, List.map (encCarton rn) ([] : List Carton)⟩), (bp, ⟨3, [encCur ρ0 y7.2]⟩)]) rfl (⟨_, _, rfl, rfl, _, _, rfl, rfl, _, _, rfl, rfl, rfl⟩) (⟨_, _, rfl, rfl, _, _, rfl, rfl, rfl⟩) rfl ?_
    refine V.loopE (D := Nat × (List Carton × Int × Cur) × (Nat)) (fun ⟨n1, ⟨out_3, n_0, c_3⟩, b10⟩ => [(3, .sref b10 5 0 (List.length out_3)), (7, .int .i64 n_0)]) (fun ⟨n1, ⟨out_3, n_0, c_3⟩, b10⟩ => [(b10, ⟨5, List.map (encCarton rn) out_3⟩), (bp, ⟨3, [encCur ρ0 c_3]⟩)]) (fun ⟨n1, ⟨out_3, n_0, c_3⟩, b10⟩ => loopO (M.spec_l1Cur_cartons_l1) n1 (out_3, n_0, c_3) = some e1) (fun ⟨n1, _, _⟩ => n1) (rounds, (([] : List Carton), (0 : Int), y7.2), b8) rfl he1 ?_
    rintro ⟨n1, ⟨out_3, n_0, c_3⟩, b10⟩ hP1
    obtain ⟨m1, y8, rfl, hm1, hl1, hr1⟩ := loop_head hP1
    unfold M.spec_l1Cur_cartons_l1 at hm1; dsimp only at hm1
    show V _ _ _ ⟨64, [(3, .sref b10 5 0 (List.length out_3)), (7, .int .i64 n_0), (0, .ref bp 3 0 0)], [(b10, ⟨5, List.map (encCarton rn) out_3⟩), (bp, ⟨3, [encCur ρ0 c_3]⟩)]⟩
    refine V.seq (V.seq ?_)
    replace hm1 := bindO hm1; rcases hm1 with ⟨y9, hh9, hm1⟩
    refine V.region (VO.cons rfl (V1.mv ?_))
    refine VO.cons rfl (V1.mv ?_)
    refine VO.cons rfl (V1.callM 1 (rn + ρ0 + 1) [] [.ref bp 3 0 0, .int .i64 (2 : Int)] (p := (bp, ⟨3, [encCur ρ0 c_3]⟩)) rfl rfl rfl cok_94 rfl rfl ⟨_, _, rfl, .same _, ⟨_, _, rfl, .same _, rfl⟩⟩ bwNil (ok_spec_l1Cur_pick hh9) rfl (.inl rfl) lt0 ?_)
    rintro _ _ ⟨rfl, rfl⟩
    refine VO.cons rfl (V1.it ?_)
    refine VO.cons rfl (V1.it ?_)
    refine VO.nil (V.keep 64 [0, 3, 7, 51] [0, 1] (E0 := [(0, .ref bp 3 0 0), (3, .sref b10 5 0 (List.length out_3)), (7, .int .i64 n_0), (51, .bool (decide (n_0 < (IntKind.i64.wrap ((10 : Int) + y9.1)))))]) (H0 := [(bp, ⟨3, [encCur ρ0 y9.2]⟩), (b10, ⟨5, List.map (encCarton rn) out_3⟩)]) rfl (⟨_, _, rfl, rfl, _, _, rfl, rfl, _, _, rfl, rfl, _, _, rfl, rfl, rfl⟩) (⟨_, _, rfl, rfl, _, _, rfl, rfl, rfl⟩) rfl ?_)
    refine V.cond rfl (fun hc3 => ?_) (fun hc3 => ?_)
    ·
     replace hm1 := cond_t hc3 hm1
     refine V.skip ?_
     refine V.seq (V.block ?_)
     replace hm1 := asrt_some hm1; rcases hm1 with ⟨hh10, hm1⟩
     refine V.region (VO.cons rfl (V1.mv ?_))
     refine VO.cons rfl (V1.mv ?_)
     refine VO.cons rfl (V1.it ?_)
     refine VO.cons rfl (V1.mv ?_)
     refine VO.cons rfl (V1.quo rfl rfl rfl rfl (by decide) lt0 ?_)
     refine VO.cons rfl (V1.it ?_)
     refine VO.cons rfl (V1.build rfl rfl zk_67 pl_67 rfl rfl lt0 ?_)
     refine VO.weakenK (Keeps.le 60 (.agg [.int .i64 (IntKind.i64.wrap (n_0 + (1 : Int))), .int .i64 (IntKind.i64.wrap ((1 : Int) + (IntKind.i64.wrap (Int.tdiv n_0 (3 : Int))))), .int .i64 (1 : Int), .vl rn 1 (List.map encInt ([] : List Int)), .int .i64 (30 : Int)]) rfl (.agg (.cons .same (.cons .same (.cons .same (.cons (.nils (l := ([] : List Int)) (f := encInt) rn 1 rfl rfl) (.cons .same .nil))))))) ?_
     refine VO.cons rfl (V1.buildSliceT (f := (encCarton rn)) ([(⟨(IntKind.i64.wrap (n_0 + (1 : Int))), (IntKind.i64.wrap ((1 : Int) + (IntKind.i64.wrap (Int.tdiv n_0 (3 : Int))))), (1 : Int), ([] : List Int), (30 : Int)⟩ : Carton)] : List Carton) rfl rfl esz_39 zk_67 rfl rfl rfl rfl rfl rfl rfl lt0 ?_)
     intro b11
     refine VO.cons rfl (V1.appendMap (k := 2) (f := (encCarton rn)) (l := out_3) (m := ([(⟨(IntKind.i64.wrap (n_0 + (1 : Int))), (IntKind.i64.wrap ((1 : Int) + (IntKind.i64.wrap (Int.tdiv n_0 (3 : Int))))), (1 : Int), ([] : List Int), (30 : Int)⟩ : Carton)] : List Carton)) rfl rfl rfl rfl rfl esz_39 eby_39 zk_67 rfl rfl rfl (SrcOf.srMap (k := 0) rfl isl_39) hh10 lt0 ?_)
     intro b12
     refine VO.cons rfl (V1.as ?_)
     refine VO.nil (V.keep 64 [0, 3, 7] [0, 2] (E0 := [(0, .ref bp 3 0 0), (3, .sref b12 5 0 (List.length (out_3 ++ ([(⟨(IntKind.i64.wrap (n_0 + (1 : Int))), (IntKind.i64.wrap ((1 : Int) + (IntKind.i64.wrap (Int.tdiv n_0 (3 : Int))))), (1 : Int), ([] : List Int), (30 : Int)⟩ : Carton)] : List Carton)))), (7, .int .i64 n_0)]) (H0 := [(b12, ⟨5, List.map (encCarton rn) (out_3 ++ ([(⟨(IntKind.i64.wrap (n_0 + (1 : Int))), (IntKind.i64.wrap ((1 : Int) + (IntKind.i64.wrap (Int.tdiv n_0 (3 : Int))))), (1 : Int), ([] : List Int), (30 : Int)⟩ : Carton)] : List Carton))⟩), (bp, ⟨3, [encCur ρ0 y9.2]⟩)]) rfl (⟨_, _, rfl, rfl, _, _, rfl, rfl, _, _, rfl, rfl, rfl⟩) (⟨_, _, rfl, rfl, _, _, rfl, rfl, rfl⟩) rfl ?_)
     refine V.region (VO.cons rfl (V1.mv ?_))
     refine VO.cons rfl (V1.it ?_)
     refine VO.cons rfl (V1.as ?_)
     refine VO.nil ?_
     exact ⟨(m1, ((out_3 ++ ([(⟨(IntKind.i64.wrap (n_0 + (1 : Int))), (IntKind.i64.wrap ((1 : Int) + (IntKind.i64.wrap (Int.tdiv n_0 (3 : Int))))), (1 : Int), ([] : List Int), (30 : Int)⟩ : Carton)] : List Carton)), (IntKind.i64.wrap (n_0 + (1 : Int))), y9.2), b12), hl1 _ (oi hm1).symm, Nat.lt_succ_self _, Keeps.mk (ks := [0, 1]) rfl ⟨rfl, rfl, rfl, trivial⟩ (⟨_, _, rfl, rfl, _, _, rfl, rfl, rfl⟩) rfl⟩
    ·
     replace hm1 := cond_f hc3 hm1
     refine V.exit ?_
     obtain rfl := hr1 _ (oi hm1).symm
     exact ⟨((out_3, y9.2), b10), rfl, Keeps.mk (ks := [1, 0]) rfl ⟨rfl, trivial⟩ (⟨_, _, rfl, rfl, _, _, rfl, rfl, rfl⟩) rfl⟩
   ·
    rintro ⟨⟨out_2, c_2⟩, b9⟩ rfl
    try dsimp only at hm0
    refine V.seq (V.region (VO.cons rfl (V1.mv ?_)))
    refine VO.cons rfl (V1.as ?_)
    refine VO.nil (V.keep 64 [2] [0, 1] (E0 := [(2, .sref b9 5 0 (List.length out_2))]) (H0 := [(b9, ⟨5, List.map (encCarton rn) out_2⟩), (bp, ⟨3, [encCur ρ0 c_2]⟩)]) rfl (⟨_, _, rfl, rfl, rfl⟩) (⟨_, _, rfl, rfl, _, _, rfl, rfl, rfl⟩) rfl ?_)
    refine V.ret ?_
    obtain rfl := oi hm0
    exact ⟨_, _, ⟨_, _, rfl, rfl, rfl⟩, List.Sublist.refl _, b9, rfl, rfl⟩
  ·
   replace hm0 := cond_f hc2 hm0
   refine V.skip ?_
   refine V.seq (V.region (VO.cons rfl (V1.mv ?_)))
   refine VO.cons rfl (V1.as ?_)
   refine VO.nil (V.keep 64 [2] [1, 0] (E0 := [(2, .sref b1 5 0 (List.length out_))]) (H0 := [(b1, ⟨5, List.map (encCarton rn) out_⟩), (bp, ⟨3, [encCur ρ0 y7.2]⟩)]) rfl (⟨_, _, rfl, rfl, rfl⟩) (⟨_, _, rfl, rfl, _, _, rfl, rfl, rfl⟩) rfl ?_)
   refine V.ret ?_
   obtain rfl := oi hm0
   exact ⟨_, _, ⟨_, _, rfl, rfl, rfl⟩, List.Sublist.refl _, b1, rfl, rfl⟩
theorem ok_spec_l1Cur_filed {ρ0 ρ1 σ1 rn bp : Nat} {c : Cur} {list : List Carton} {r : Int × Cur} (h : M.spec_l1Cur_filed c list = some r) : Does Try.prog 85 [.ref bp 3 0 0, .vl ρ1 5 (List.map (encCarton σ1) list)] [(bp, ⟨3, [encCur ρ0 c]⟩)] rn (fun x H => x = .int .i64 r.1 ∧ H = [(bp, ⟨3, [encCur ρ0 r.2]⟩)]) := by
 have hm0 := h; clear h; unfold M.spec_l1Cur_filed at hm0
 try dsimp only at hm0
 refine Does.intro (N := 38) Try.func85 rfl rfl rfl rfl ?_
 intro w0 S0
 refine V.seq (V.region (VO.cons rfl (V1.as ?_)))
 refine VO.nil (V.seq (V.seq (V.region (VO.cons rfl (V1.as ?_)))))
 refine VO.nil ?_
 replace hm0 := bindO hm0; rcases hm0 with ⟨e0, he1, hm0⟩
 refine V.cutT (D := (Cur) × (Unit)) (fun ⟨c_, _⟩ => ⟨38, [(0, .ref bp 3 0 0)], [(bp, ⟨3, [encCur ρ0 c_]⟩)]⟩) (fun ⟨c_, _⟩ => (.inl c_ = e0)) ?_ ?_
 ·
  refine V.block ?_
  refine V.keep 38 [5, 0, 1] [0] (E0 := [(5, .int .i64 (0 : Int)), (0, .ref bp 3 0 0), (1, .vl ρ1 5 (List.map (encCarton σ1) list))]) (H0 := [(bp, ⟨3, [encCur ρ0 c]⟩)]) rfl (⟨_, _, rfl, rfl, _, _, rfl, rfl, _, _, rfl, rfl, rfl⟩) (⟨_, _, rfl, rfl, rfl⟩) rfl ?_
  refine V.loopE (D := Nat × (Int × Cur) × (Unit)) (fun ⟨n0, ⟨i, c_0⟩, _⟩ => [(5, .int .i64 i)]) (fun ⟨n0, ⟨i, c_0⟩, _⟩ => [(bp, ⟨3, [encCur ρ0 c_0]⟩)]) (fun ⟨n0, ⟨i, c_0⟩, _⟩ => loopO (M.spec_l1Cur_filed_l0 list) n0 (i, c_0) = some e0) (fun ⟨n0, _, _⟩ => n0) (rounds, ((0 : Int), c), ()) rfl he1 ?_
  rintro ⟨n0, ⟨i, c_0⟩, _⟩ hP0
  obtain ⟨m0, y0, rfl, hm1, hl1, hr1⟩ := loop_head hP0
  unfold M.spec_l1Cur_filed_l0 at hm1; dsimp only at hm1
  show V _ _ _ ⟨38, [(5, .int .i64 i), (0, .ref bp 3 0 0), (1, .vl ρ1 5 (List.map (encCarton σ1) list))], [(bp, ⟨3, [encCur ρ0 c_0]⟩)]⟩
  refine V.seq (V.seq (V.region (VO.cons rfl (V1.mv ?_))))
  refine VO.cons rfl (V1.mv ?_)
  refine VO.cons rfl (V1.lenMap rfl rfl rfl rfl rfl rfl isl_39 lt0 ?_)
  refine VO.cons rfl (V1.it ?_)
  refine VO.nil (V.cond rfl (fun hc0 => ?_) (fun hc0 => ?_))
  ·
   replace hm1 := cond_t hc0 hm1
   refine V.skip ?_
   refine V.keep 38 [0, 1, 5] [0] (E0 := [(0, .ref bp 3 0 0), (1, .vl ρ1 5 (List.map (encCarton σ1) list)), (5, .int .i64 i)]) (H0 := [(bp, ⟨3, [encCur ρ0 c_0]⟩)]) rfl (⟨_, _, rfl, rfl, _, _, rfl, rfl, _, _, rfl, rfl, rfl⟩) (⟨_, _, rfl, rfl, rfl⟩) rfl ?_
   refine V.seq (V.block ?_)
   refine V.seq ?_
   replace hm1 := asrt_some hm1; rcases hm1 with ⟨hh0, hm1⟩
   refine V.region (VO.cons rfl (V1.mv ?_))
   refine VO.cons rfl (V1.mv ?_)
   refine VO.cons rfl (V1.indexI rfl rfl esz_39 rfl rfl hh0 lt0 ?_)
   refine VO.cons rfl (V1.fieldPin rfl rfl fo_67_3 rfl lt0 ?_)
   refine VO.cons rfl (V1.loadPin rfl rfl tyk_36 rfl rfl lt0 ?_)
   refine VO.cons rfl (V1.lenMap rfl rfl rfl rfl rfl rfl isl_36 lt0 ?_)
   refine VO.cons rfl (V1.as ?_)
   refine VO.nil (V.keep 38 [0, 1, 5, 6] [0] (E0 := [(0, .ref bp 3 0 0), (1, .vl ρ1 5 (List.map (encCarton σ1) list)), (5, .int .i64 i), (6, .int .i64 (((list.getD (Int.toNat i) default).Files).length : Int))]) (H0 := [(bp, ⟨3, [encCur ρ0 c_0]⟩)]) rfl (⟨_, _, rfl, rfl, _, _, rfl, rfl, _, _, rfl, rfl, _, _, rfl, rfl, rfl⟩) (⟨_, _, rfl, rfl, rfl⟩) rfl ?_)
   refine V.seq ?_
   replace hm1 := bindO hm1; rcases hm1 with ⟨y1, hh1, hm1⟩
   refine V.region (VO.cons rfl (V1.mv ?_))
   refine VO.cons rfl (V1.it ?_)
   refine VO.cons rfl (V1.mv ?_)
   apply VO.andH (n := 2) [(bp, ⟨3, [encCur ρ0 (bif (decide ((((list.getD (Int.toNat i) default).Files).length : Int) > (0 : Int))) then y1.2 else c_0)]⟩)] rfl rfl rfl rfl rfl rfl lt0 (.none rfl) (fun h => by rw [h]; rfl)
   ·
    intro hg0
    refine VO.step (.some rfl rfl rfl) (V1.mv ?_)
    refine VO.step (.some rfl rfl rfl) (V1.callM 0 (rn + ρ0 + 1) [] [.ref bp 3 0 0, .int .i64 (2 : Int)] (p := (bp, ⟨3, [encCur ρ0 c_0]⟩)) rfl rfl rfl cok_117 rfl rfl ⟨_, _, rfl, .same _, ⟨_, _, rfl, .same _, rfl⟩⟩ bwNil (ok_spec_l1Cur_one (cond_t hg0 hh1)) rfl (.inl rfl) lt0 ?_)
    rintro _ _ ⟨rfl, rfl⟩
    exact VO.nil ⟨rfl, rfl, rfl, (by rw [hg0]; rfl), .inr ⟨rfl, .inr ⟨rfl, .inr ⟨rfl, .inl rfl⟩⟩⟩⟩
   refine VO.nil (V.cond rfl (fun hc1 => ?_) (fun hc1 => ?_))
   ·
    replace hm1 := cond_t hc1 hm1
    refine V.seq ?_
    replace hm1 := asrt_some hm1; rcases hm1 with ⟨hh2, hm1⟩
    replace hm1 := bindO hm1; rcases hm1 with ⟨y2, hh3, hm1⟩
    replace hm1 := asrt_some hm1; rcases hm1 with ⟨hh4, hm1⟩
    refine V.regionS [] 38 8 [⟨[(1, none)], false⟩, ⟨[(5, none)], false⟩, ⟨[(25, some 0), (26, some 1)], false⟩, ⟨[(27, some 2)], false⟩, ⟨[(28, some 3)], false⟩, ⟨[(0, none)], false⟩, ⟨[(6, none)], false⟩, ⟨[(30, some 5), (31, some 6)], true⟩] [(29, some 4), (32, some 7)] 1 (⟨_, rfl, ⟨_, rfl, ⟨_, rfl, ⟨_, rfl, ⟨_, rfl, ⟨_, rfl, ⟨_, rfl, ⟨_, rfl, ⟨rfl, rfl⟩⟩⟩⟩⟩⟩⟩⟩⟩) mixed_orders rfl (by decide +kernel) ?_
    refine WalkP.step (p := ?pv139) 0 rfl rfl rfl rfl rfl (⟨_, _, rfl, rfl, rfl⟩) ?hv139 ?rest139
    case hv139 =>
     intro E1 H1 hI1
     refine (V1.mv ?_)
     exact rfl
    refine WalkP.step (p := ?pv140) 1 rfl rfl rfl rfl rfl (⟨_, _, rfl, rfl, rfl⟩) ?hv140 ?rest140
    case hv140 =>
     intro E1 H1 hI1
     refine (V1.mv ?_)
     exact rfl
    refine WalkP.step (p := ?pv141) 2 rfl rfl rfl rfl rfl (⟨_, _, rfl, rfl, _, _, rfl, rfl, rfl⟩) ?hv141 ?rest141
    case hv141 =>
     intro E1 H1 hI1
     refine (V1.indexI rfl rfl esz_39 rfl rfl hh2 lt0 ?_)
     exact rfl
    refine WalkP.step (p := ?pv142) 3 rfl rfl rfl rfl rfl (⟨_, _, rfl, rfl, rfl⟩) ?hv142 ?rest142
    case hv142 =>
     intro E1 H1 hI1
     refine (V1.fieldPin rfl rfl fo_67_3 rfl lt0 ?_)
     exact rfl
    refine WalkP.step (p := ?pv143) 4 rfl rfl rfl rfl rfl (⟨_, _, rfl, rfl, rfl⟩) ?hv143 ?rest143
    case hv143 =>
     intro E1 H1 hI1
     refine (V1.loadPin rfl rfl tyk_36 rfl rfl lt0 ?_)
     exact rfl
    refine WalkP.step (p := ?pv144) 5 rfl rfl rfl rfl rfl (⟨_, _, rfl, rfl, rfl⟩) ?hv144 ?rest144
    case hv144 =>
     intro E1 H1 hI1
     refine (V1.mv ?_)
     exact rfl
    refine WalkP.step (p := ?pv145) 6 rfl rfl rfl rfl rfl (⟨_, _, rfl, rfl, rfl⟩) ?hv145 ?rest145
    case hv145 =>
     intro E1 H1 hI1
     refine (V1.mv ?_)
     exact rfl
    refine WalkP.nil (NodeS.branch [7] inNil rfl rfl rfl ⟨?_, trivial⟩)
    ·
     refine ⟨_, _, _, _, rfl, rfl, rfl, (⟨_, _, rfl, rfl, _, _, rfl, rfl, rfl⟩), fun E1 => ?_⟩
     refine (V1.callM 0 (rn + ρ0 + 1) [] [.ref bp 3 0 0, .int .i64 (((list.getD (Int.toNat i) default).Files).length : Int)] (p := (bp, ⟨3, [encCur ρ0 (bif (decide ((((list.getD (Int.toNat i) default).Files).length : Int) > (0 : Int))) then y1.2 else c_0)]⟩)) rfl rfl rfl cok_94 rfl rfl ⟨_, _, rfl, .same _, ⟨_, _, rfl, .same _, rfl⟩⟩ bwNil (ok_spec_l1Cur_pick hh3) rfl (.inl rfl) lt0 ?_)
     rintro _ _ ⟨rfl, rfl⟩
     refine ⟨_, _, rfl, ?_⟩
     refine WalkP.nil (NodeS.fin inNil rfl rfl rfl (⟨_, _, rfl, rfl, _, _, rfl, rfl, rfl⟩) ?_)
     refine VO.cons rfl (V1.indexI rfl rfl esz_36 rfl rfl hh4 lt0 ?_)
     refine VO.cons rfl (V1.loadPin rfl rfl tyk_3 rfl rfl lt0 ?_)
     refine VO.cons rfl (V1.as ?_)
     refine VO.nil (V.ret ?_)
     obtain rfl := hr1 _ (oi hm1).symm
     change some _ = some _ at hm0
     obtain rfl := oi hm0
     exact ⟨_, _, ⟨_, _, rfl, rfl, rfl⟩, (sub1 (k := 0) rfl), rfl, rfl⟩
   ·
    replace hm1 := cond_f hc1 hm1
    refine V.skip ?_
    refine V.keep 38 [0, 1, 5] [0] (E0 := [(0, .ref bp 3 0 0), (1, .vl ρ1 5 (List.map (encCarton σ1) list)), (5, .int .i64 i)]) (H0 := [(bp, ⟨3, [encCur ρ0 (bif (decide ((((list.getD (Int.toNat i) default).Files).length : Int) > (0 : Int))) then y1.2 else c_0)]⟩)]) rfl (⟨_, _, rfl, rfl, _, _, rfl, rfl, _, _, rfl, rfl, rfl⟩) (⟨_, _, rfl, rfl, rfl⟩) rfl ?_
    refine V.region (VO.cons rfl (V1.mv ?_))
    refine VO.cons rfl (V1.it ?_)
    refine VO.cons rfl (V1.as ?_)
    refine VO.nil ?_
    exact ⟨(m0, ((IntKind.i64.wrap (i + (1 : Int))), (bif (decide ((((list.getD (Int.toNat i) default).Files).length : Int) > (0 : Int))) then y1.2 else c_0)), ()), hl1 _ (oi hm1).symm, Nat.lt_succ_self _, Keeps.mk (ks := [0]) rfl ⟨rfl, rfl, rfl, trivial⟩ (⟨_, _, rfl, rfl, rfl⟩) rfl⟩
  ·
   replace hm1 := cond_f hc0 hm1
   refine V.exit ?_
   obtain rfl := hr1 _ (oi hm1).symm
   exact ⟨(c_0, ()), rfl, Keeps.mk (ks := [0]) rfl ⟨rfl, trivial⟩ (⟨_, _, rfl, rfl, rfl⟩) rfl⟩
 ·
  rintro ⟨c_, _⟩ rfl
  try dsimp only at hm0
  refine V.seq ?_
  replace hm0 := bindO hm0; rcases hm0 with ⟨y3, hh5, hm0⟩
  refine V.region (VO.cons rfl (V1.mv ?_))
  refine VO.cons rfl (V1.buildSliceT (f := encInt) ([(1 : Int), (500 : Int), (999 : Int), (0 : Int), (1000 : Int)] : List Int) rfl rfl esz_36 zk_3 rfl rfl rfl rfl rfl rfl rfl lt0 ?_)
  intro b0
  refine VO.cons rfl (V1.callM 1 (rn + ρ0 + 1) [b0] [.ref bp 3 0 0, .vl (rn + ρ0 + 1) 1 (List.map encInt ([(1 : Int), (500 : Int), (999 : Int), (0 : Int), (1000 : Int)] : List Int))] (p := (bp, ⟨3, [encCur ρ0 c_]⟩)) rfl rfl rfl cok_93 rfl rfl ⟨_, _, rfl, .same _, ⟨_, _, rfl, Lend.srMap 0 rfl (fun _ => rfl) (.head _), rfl⟩⟩ (bwCons (k := 0) rfl bwNil) (ok_spec_l1Cur_among hh5) rfl (.inr ⟨(by first | omega | (dsimp only; omega)), by rintro _ _ ⟨rfl, rfl⟩; exact ⟨by simp [PV.no, PV.noL, optS_no, noL_iff, nbeq] <;> omega, by intro b ob h; first | exact optH_no (noL_map (fun _ => by simp [PV.no, PV.noL, noL_iff, nbeq]) _) b ob h | (simp only [List.append_assoc, List.mem_append, List.mem_cons, List.mem_singleton, List.not_mem_nil, or_false, Prod.mk.injEq] at h; rcases h with ⟨rfl, rfl⟩ | ⟨rfl, rfl⟩ <;> first | exact noL_map (fun _ => by simp [PV.no, PV.noL, noL_iff, nbeq]) _ | (simp [PV.no, PV.noL, optS_no, noL_iff, nbeq] <;> omega)) | (simp at h; obtain ⟨rfl, rfl⟩ := h; exact noL_map (fun _ => by simp [PV.no, PV.noL, noL_iff, nbeq]) _) | (simp at h; obtain ⟨rfl, rfl⟩ := h; simp [PV.no, PV.noL, optS_no, noL_iff, nbeq] <;> omega)⟩⟩) lt0 ?_)
  rintro _ _ ⟨rfl, rfl⟩
  refine VO.cons rfl (V1.as ?_)
  refine VO.nil (V.ret ?_)
  obtain rfl := oi hm0
  exact ⟨_, _, ⟨_, _, rfl, rfl, rfl⟩, (sub1 (k := 0) rfl), rfl, rfl⟩
theorem ok_spec_l1Cur_cartonId {ρ0 ρ1 σ1 rn bp : Nat} {c : Cur} {list : List Carton} {r : Int × Cur} (h : M.spec_l1Cur_cartonId c list = some r) : Does Try.prog 86 [.ref bp 3 0 0, .vl ρ1 5 (List.map (encCarton σ1) list)] [(bp, ⟨3, [encCur ρ0 c]⟩)] rn (fun x H => x = .int .i64 r.1 ∧ H = [(bp, ⟨3, [encCur ρ0 r.2]⟩)]) := by
 have hm0 := h; clear h; unfold M.spec_l1Cur_cartonId at hm0
 try dsimp only at hm0
 refine Does.intro (N := 23) Try.func86 rfl rfl rfl rfl ?_
 intro w0 S0
 refine V.seq (V.region (VO.cons rfl (V1.as ?_)))
 refine VO.nil (V.seq (V.seq ?_))
 replace hm0 := bindO hm0; rcases hm0 with ⟨y0, hh0, hm0⟩
 refine V.region (VO.cons rfl (V1.mv ?_))
 refine VO.cons rfl (V1.lenMap rfl rfl rfl rfl rfl rfl isl_39 lt0 ?_)
 refine VO.cons rfl (V1.it ?_)
 refine VO.cons rfl (V1.mv ?_)
 apply VO.orH (n := 2) [(bp, ⟨3, [encCur ρ0 (bif ((list.length : Int) == (0 : Int)) then c else y0.2)]⟩)] rfl rfl rfl rfl rfl rfl lt0 (.none rfl) (fun h => by rw [h]; rfl)
 ·
  intro hg0
  refine VO.step (.some rfl rfl rfl) (V1.mv ?_)
  refine VO.step (.some rfl rfl rfl) (V1.callM 0 (rn + ρ0 + 1) [] [.ref bp 3 0 0, .int .i64 (10 : Int)] (p := (bp, ⟨3, [encCur ρ0 c]⟩)) rfl rfl rfl cok_117 rfl rfl ⟨_, _, rfl, .same _, ⟨_, _, rfl, .same _, rfl⟩⟩ bwNil (ok_spec_l1Cur_one (cond_f hg0 hh0)) rfl (.inl rfl) lt0 ?_)
  rintro _ _ ⟨rfl, rfl⟩
  exact VO.nil ⟨rfl, rfl, rfl, (by rw [hg0]; rfl), .inr ⟨rfl, .inr ⟨rfl, .inr ⟨rfl, .inl rfl⟩⟩⟩⟩
 refine VO.nil (V.keep 23 [0, 1, 11] [0] (E0 := [(0, .ref bp 3 0 0), (1, .vl ρ1 5 (List.map (encCarton σ1) list)), (11, .bool (((list.length : Int) == (0 : Int)) || y0.1))]) (H0 := [(bp, ⟨3, [encCur ρ0 (bif ((list.length : Int) == (0 : Int)) then c else y0.2)]⟩)]) rfl (⟨_, _, rfl, rfl, _, _, rfl, rfl, _, _, rfl, rfl, rfl⟩) (⟨_, _, rfl, rfl, rfl⟩) rfl ?_)
 refine V.cond rfl (fun hc0 => ?_) (fun hc0 => ?_)
 ·
  replace hm0 := cond_t hc0 hm0
  refine V.seq ?_
  replace hm0 := bindO hm0; rcases hm0 with ⟨y1, hh1, hm0⟩
  refine V.region (VO.cons rfl (V1.mv ?_))
  refine VO.cons rfl (V1.buildSliceT (f := encInt) ([(0 : Int), (1 : Int), (50 : Int)] : List Int) rfl rfl esz_36 zk_3 rfl rfl rfl rfl rfl rfl rfl lt0 ?_)
  intro b0
  refine VO.cons rfl (V1.callM 1 (rn + ρ0 + 1) [b0] [.ref bp 3 0 0, .vl (rn + ρ0 + 1) 1 (List.map encInt ([(0 : Int), (1 : Int), (50 : Int)] : List Int))] (p := (bp, ⟨3, [encCur ρ0 (bif ((list.length : Int) == (0 : Int)) then c else y0.2)]⟩)) rfl rfl rfl cok_93 rfl rfl ⟨_, _, rfl, .same _, ⟨_, _, rfl, Lend.srMap 0 rfl (fun _ => rfl) (.head _), rfl⟩⟩ (bwCons (k := 0) rfl bwNil) (ok_spec_l1Cur_among hh1) rfl (.inr ⟨(by first | omega | (dsimp only; omega)), by rintro _ _ ⟨rfl, rfl⟩; exact ⟨by simp [PV.no, PV.noL, optS_no, noL_iff, nbeq] <;> omega, by intro b ob h; first | exact optH_no (noL_map (fun _ => by simp [PV.no, PV.noL, noL_iff, nbeq]) _) b ob h | (simp only [List.append_assoc, List.mem_append, List.mem_cons, List.mem_singleton, List.not_mem_nil, or_false, Prod.mk.injEq] at h; rcases h with ⟨rfl, rfl⟩ | ⟨rfl, rfl⟩ <;> first | exact noL_map (fun _ => by simp [PV.no, PV.noL, noL_iff, nbeq]) _ | (simp [PV.no, PV.noL, optS_no, noL_iff, nbeq] <;> omega)) | (simp at h; obtain ⟨rfl, rfl⟩ := h; exact noL_map (fun _ => by simp [PV.no, PV.noL, noL_iff, nbeq]) _) | (simp at h; obtain ⟨rfl, rfl⟩ := h; simp [PV.no, PV.noL, optS_no, noL_iff, nbeq] <;> omega)⟩⟩) lt0 ?_)
  rintro _ _ ⟨rfl, rfl⟩
  refine VO.cons rfl (V1.as ?_)
  refine VO.nil (V.ret ?_)
  obtain rfl := oi hm0
  exact ⟨_, _, ⟨_, _, rfl, rfl, rfl⟩, (sub1 (k := 0) rfl), rfl, rfl⟩
 ·
  replace hm0 := cond_f hc0 hm0
  refine V.skip ?_
  refine V.seq ?_
  replace hm0 := bindO hm0; rcases hm0 with ⟨y2, hh2, hm0⟩
  replace hm0 := asrt_some hm0; rcases hm0 with ⟨hh3, hm0⟩
  refine V.region (VO.cons rfl (V1.mv ?_))
  refine VO.cons rfl (V1.mv ?_)
  refine VO.cons rfl (V1.mv ?_)
  refine VO.cons rfl (V1.lenMap rfl rfl rfl rfl rfl rfl isl_39 lt0 ?_)
  refine VO.cons rfl (V1.callM 0 (rn + ρ0 + 1) [] [.ref bp 3 0 0, .int .i64 (list.length : Int)] (p := (bp, ⟨3, [encCur ρ0 (bif ((list.length : Int) == (0 : Int)) then c else y0.2)]⟩)) rfl rfl rfl cok_94 rfl rfl ⟨_, _, rfl, .same _, ⟨_, _, rfl, .same _, rfl⟩⟩ bwNil (ok_spec_l1Cur_pick hh2) rfl (.inl rfl) lt0 ?_)
  rintro _ _ ⟨rfl, rfl⟩
  refine VO.cons rfl (V1.indexI rfl rfl esz_39 rfl rfl hh3 lt0 ?_)
  refine VO.cons rfl (V1.fieldPin rfl rfl fo_67_0 rfl lt0 ?_)
  refine VO.cons rfl (V1.loadPin rfl rfl tyk_3 rfl rfl lt0 ?_)
  refine VO.cons rfl (V1.as ?_)
  refine VO.nil (V.ret ?_)
  obtain rfl := oi hm0
  exact ⟨_, _, ⟨_, _, rfl, rfl, rfl⟩, (sub1 (k := 0) rfl), rfl, rfl⟩
theorem ok_spec_DrawRefileTo {ρ0 rn : Nat} {code : List Int} {r : List Carton × Int × Int} (h : M.spec_DrawRefileTo code = some r) : Does Try.prog 42 [.vl ρ0 1 (List.map encU8 code)] [] rn (fun x H => ∃ (ob0_ : Nat), x = .tup [PV.sref ob0_ 5 0 (List.length r.1), .int .i64 r.2.1, .int .i64 r.2.2] ∧ H = [(ob0_, ⟨5, List.map (encCarton rn) r.1⟩)]) := by
 have hm0 := h; clear h; unfold M.spec_DrawRefileTo at hm0
 try dsimp only at hm0
 refine Does.intro (N := 19) Try.func42 rfl rfl rfl rfl ?_
 intro w0 S0
 refine V.seq (V.region (VO.cons rfl (V1.as ?_)))
 refine VO.cons rfl (V1.as ?_)
 refine VO.cons rfl (V1.as ?_)
 refine VO.nil (V.seq (V.region (VO.cons rfl (V1.mv ?_))))
 refine VO.cons rfl (V1.build rfl rfl zk_99 pl_99 rfl rfl lt0 ?_)
 refine VO.cons rfl (V1.boxN (n := 3) rfl rfl rfl rfl rfl lt0 ?_)
 intro b0
 refine VO.cons rfl (V1.as ?_)
 refine VO.nil (V.keep 19 [5] [0] (E0 := [(5, .ref b0 3 0 0)]) (H0 := [(b0, ⟨3, [.agg [.vl ρ0 1 (List.map encU8 code), .int .i64 (0 : Int), .int .u64 (0 : Int)]]⟩)]) rfl (⟨_, _, rfl, rfl, rfl⟩) (⟨_, _, rfl, rfl, rfl⟩) rfl ?_)
 refine V.seq ?_
 replace hm0 := bindO hm0; rcases hm0 with ⟨y0, hh0, hm0⟩
 refine V.region (VO.cons rfl (V1.mv ?_))
 refine VO.cons rfl (V1.callM 0 (rn + ρ0 + 1) [] [.ref b0 3 0 0] (p := (b0, ⟨3, [.agg [.vl ρ0 1 (List.map encU8 code), .int .i64 (0 : Int), .int .u64 (0 : Int)]]⟩)) rfl rfl rfl cok_84 rfl rfl ⟨_, _, rfl, .same _, rfl⟩ bwNil (ok_spec_l1Cur_cartons hh0) rfl (.inl rfl) lt0 ?_)
 rintro _ _ ⟨b1, rfl, rfl⟩
 refine VO.cons rfl (V1.as ?_)
 refine VO.nil (V.seq ?_)
 replace hm0 := bindO hm0; rcases hm0 with ⟨y1, hh1, hm0⟩
 replace hm0 := bindO hm0; rcases hm0 with ⟨y2, hh2, hm0⟩
 refine V.region (VO.cons rfl (V1.mv ?_))
 refine VO.cons rfl (V1.mv ?_)
 refine VO.cons rfl (V1.mv ?_)
 refine VO.cons rfl (V1.callM 1 (rn + ρ0 + 1) [b1] [.ref b0 3 0 0, .vl (rn + ρ0 + 1) 5 (List.map (encCarton rn) y0.1)] (p := (b0, ⟨3, [encCur ρ0 y0.2]⟩)) rfl rfl rfl cok_85 rfl rfl ⟨_, _, rfl, .same _, ⟨_, _, rfl, Lend.srMap 0 rfl (fun _ => rfl) (.head _), rfl⟩⟩ (bwCons (k := 0) rfl bwNil) (ok_spec_l1Cur_filed hh1) rfl (.inr ⟨(by first | omega | (dsimp only; omega)), by rintro _ _ ⟨rfl, rfl⟩; exact ⟨by simp [PV.no, PV.noL, optS_no, noL_iff, nbeq] <;> omega, by intro b ob h; first | exact optH_no (noL_map (fun _ => by simp [PV.no, PV.noL, noL_iff, nbeq]) _) b ob h | (simp only [List.append_assoc, List.mem_append, List.mem_cons, List.mem_singleton, List.not_mem_nil, or_false, Prod.mk.injEq] at h; rcases h with ⟨rfl, rfl⟩ | ⟨rfl, rfl⟩ <;> first | exact noL_map (fun _ => by simp [PV.no, PV.noL, noL_iff, nbeq]) _ | (simp [PV.no, PV.noL, optS_no, noL_iff, nbeq] <;> omega)) | (simp at h; obtain ⟨rfl, rfl⟩ := h; exact noL_map (fun _ => by simp [PV.no, PV.noL, noL_iff, nbeq]) _) | (simp at h; obtain ⟨rfl, rfl⟩ := h; simp [PV.no, PV.noL, optS_no, noL_iff, nbeq] <;> omega)⟩⟩) lt0 ?_)
 rintro _ _ ⟨rfl, rfl⟩
 refine VO.cons rfl (V1.mv ?_)
 refine VO.cons rfl (V1.mv ?_)
 refine VO.cons rfl (V1.callM 0 (rn + ρ0 + 1) [b1] [.ref b0 3 0 0, .vl (rn + ρ0 + 1) 5 (List.map (encCarton rn) y0.1)] (p := (b0, ⟨3, [encCur ρ0 y1.2]⟩)) rfl rfl rfl cok_86 rfl rfl ⟨_, _, rfl, .same _, ⟨_, _, rfl, Lend.srMap 1 rfl (fun _ => rfl) (.head _), rfl⟩⟩ (bwCons (k := 0) rfl bwNil) (ok_spec_l1Cur_cartonId hh2) rfl (.inr ⟨(by first | omega | (dsimp only; omega)), by rintro _ _ ⟨rfl, rfl⟩; exact ⟨by simp [PV.no, PV.noL, optS_no, noL_iff, nbeq] <;> omega, by intro b ob h; first | exact optH_no (noL_map (fun _ => by simp [PV.no, PV.noL, noL_iff, nbeq]) _) b ob h | (simp only [List.append_assoc, List.mem_append, List.mem_cons, List.mem_singleton, List.not_mem_nil, or_false, Prod.mk.injEq] at h; rcases h with ⟨rfl, rfl⟩ | ⟨rfl, rfl⟩ <;> first | exact noL_map (fun _ => by simp [PV.no, PV.noL, noL_iff, nbeq]) _ | (simp [PV.no, PV.noL, optS_no, noL_iff, nbeq] <;> omega)) | (simp at h; obtain ⟨rfl, rfl⟩ := h; exact noL_map (fun _ => by simp [PV.no, PV.noL, noL_iff, nbeq]) _) | (simp at h; obtain ⟨rfl, rfl⟩ := h; simp [PV.no, PV.noL, optS_no, noL_iff, nbeq] <;> omega)⟩⟩) lt0 ?_)
 rintro _ _ ⟨rfl, rfl⟩
 refine VO.cons rfl (V1.as ?_)
 refine VO.cons rfl (V1.as ?_)
 refine VO.cons rfl (V1.as ?_)
 refine VO.nil (V.keep 19 [2, 3, 4] [1] (E0 := [(2, .sref b1 5 0 (List.length y0.1)), (3, .int .i64 y1.1), (4, .int .i64 y2.1)]) (H0 := [(b1, ⟨5, List.map (encCarton rn) y0.1⟩)]) rfl (⟨_, _, rfl, rfl, _, _, rfl, rfl, _, _, rfl, rfl, rfl⟩) (⟨_, _, rfl, rfl, rfl⟩) rfl ?_)
 refine V.ret ?_
 obtain rfl := oi hm0
 exact ⟨_, _, ⟨_, _, rfl, rfl, _, _, rfl, rfl, _, _, rfl, rfl, rfl⟩, List.Sublist.refl _, b1, rfl, rfl⟩
theorem ok_slices_Index_int_int {ρ0 rn : Nat} {s : List Int} {v : Int} {r : Int} (h : M.slices_Index_int_int s v = some r) : Does Try.prog 120 [.vl ρ0 1 (List.map encInt s), .int .i64 v] [] rn (fun x H => x = .int .i64 r ∧ H = []) := by
 have hm0 := h; clear h; unfold M.slices_Index_int_int at hm0
 try dsimp only at hm0
 refine Does.intro (N := 19) Try.func120 rfl rfl rfl rfl ?_
 intro w0 S0
 refine V.seq (V.region (VO.cons rfl (V1.as ?_)))
 refine VO.nil (V.seq (V.seq (V.region (VO.cons rfl (V1.mv ?_)))))
 refine VO.cons rfl (V1.lenMap rfl rfl rfl rfl rfl rfl isl_36 lt0 ?_)
 refine VO.cons rfl (V1.mv ?_)
 refine VO.nil ?_
 replace hm0 := bindO hm0; rcases hm0 with ⟨e0, he1, hm0⟩
 refine V.cutT (D := (Unit) × (Unit)) (fun ⟨_, _⟩ => ⟨19, [], []⟩) (fun ⟨_, _⟩ => (.inl () = e0)) ?_ ?_
 ·
  refine V.block ?_
  refine V.keep 19 [8, 0, 1, 7] [] (E0 := [(8, .int .i64 (0 : Int)), (0, .vl ρ0 1 (List.map encInt s)), (1, .int .i64 v), (7, .int .i64 (s.length : Int))]) (H0 := []) rfl (⟨_, _, rfl, rfl, _, _, rfl, rfl, _, _, rfl, rfl, _, _, rfl, rfl, rfl⟩) (rfl) rfl ?_
  refine V.loopE (D := Nat × (Int) × (Unit)) (fun ⟨n0, v0, _⟩ => [(8, .int .i64 v0)]) (fun ⟨n0, v0, _⟩ => []) (fun ⟨n0, v0, _⟩ => loopO (M.slices_Index_int_int_l0 s v) n0 v0 = some e0) (fun ⟨n0, _, _⟩ => n0) (rounds, (0 : Int), ()) rfl he1 ?_
  rintro ⟨n0, v0, _⟩ hP0
  obtain ⟨m0, y0, rfl, hm1, hl1, hr1⟩ := loop_head hP0
  unfold M.slices_Index_int_int_l0 at hm1; dsimp only at hm1
  show V _ _ _ ⟨19, [(8, .int .i64 v0), (0, .vl ρ0 1 (List.map encInt s)), (1, .int .i64 v), (7, .int .i64 (s.length : Int))], []⟩
  refine V.seq (V.region (VO.cons rfl (V1.it ?_)))
  refine VO.nil (V.seq (V.cond rfl (fun hc0 => ?_) (fun hc0 => ?_)))
  ·
   replace hm1 := cond_t hc0 hm1
   refine V.skip ?_
   refine V.seq (V.block ?_)
   refine V.seq (V.region (VO.cons rfl (V1.mv ?_)))
   refine VO.cons rfl (V1.as ?_)
   refine VO.nil (V.seq ?_)
   replace hm1 := asrt_some hm1; rcases hm1 with ⟨hh0, hm1⟩
   refine V.region (VO.cons rfl (V1.mv ?_))
   refine VO.cons rfl (V1.mv ?_)
   refine VO.cons rfl (V1.mv ?_)
   refine VO.cons rfl (V1.indexI rfl rfl esz_36 rfl rfl hh0 lt0 ?_)
   refine VO.cons rfl (V1.loadPin rfl rfl tyk_3 rfl rfl lt0 ?_)
   refine VO.cons rfl (V1.it ?_)
   refine VO.nil (V.keep 19 [0, 1, 5, 7, 8, 16] [] (E0 := [(0, .vl ρ0 1 (List.map encInt s)), (1, .int .i64 v), (5, .int .i64 v0), (7, .int .i64 (s.length : Int)), (8, .int .i64 v0), (16, .bool (v == (s.getD (Int.toNat v0) default)))]) (H0 := []) rfl (⟨_, _, rfl, rfl, _, _, rfl, rfl, _, _, rfl, rfl, _, _, rfl, rfl, _, _, rfl, rfl, _, _, rfl, rfl, rfl⟩) (rfl) rfl ?_)
   refine V.cond rfl (fun hc1 => ?_) (fun hc1 => ?_)
   ·
    replace hm1 := cond_t hc1 hm1
    refine V.seq (V.region (VO.cons rfl (V1.mv ?_)))
    refine VO.cons rfl (V1.as ?_)
    refine VO.nil (V.ret ?_)
    obtain rfl := hr1 _ (oi hm1).symm
    change some _ = some _ at hm0
    obtain rfl := oi hm0
    exact ⟨_, [], ⟨_, _, rfl, rfl, rfl⟩, List.nil_sublist _, rfl, rfl⟩
   ·
    replace hm1 := cond_f hc1 hm1
    refine V.skip ?_
    refine V.region (VO.cons rfl (V1.it ?_))
    refine VO.cons rfl (V1.mv ?_)
    refine VO.nil ?_
    exact ⟨(m0, (IntKind.i64.wrap (v0 + (1 : Int))), ()), hl1 _ (oi hm1).symm, Nat.lt_succ_self _, Keeps.mk (ks := []) rfl ⟨rfl, rfl, rfl, rfl, trivial⟩ (rfl) rfl⟩
  ·
   replace hm1 := cond_f hc0 hm1
   refine V.exit ?_
   obtain rfl := hr1 _ (oi hm1).symm
   exact ⟨((), ()), rfl, Keeps.mk (ks := []) rfl trivial (rfl) rfl⟩
 ·
  rintro ⟨_, _⟩ rfl
  try dsimp only at hm0
  refine V.seq (V.region (VO.cons rfl (V1.as ?_)))
  refine VO.nil (V.ret ?_)
  obtain rfl := oi hm0
  exact ⟨_, [], ⟨_, _, rfl, rfl, rfl⟩, List.nil_sublist _, rfl, rfl⟩
theorem ok_slices_Contains_int_int {ρ0 rn : Nat} {s : List Int} {v : Int} {r : Bool} (h : M.slices_Contains_int_int s v = some r) : Does Try.prog 91 [.vl ρ0 1 (List.map encInt s), .int .i64 v] [] rn (fun x H => x = .bool r ∧ H = []) := by
 have hm0 := h; clear h; unfold M.slices_Contains_int_int at hm0
 try dsimp only at hm0
 refine Does.intro (N := 9) Try.func91 rfl rfl rfl rfl ?_
 intro w0 S0
 refine V.seq (V.region (VO.cons rfl (V1.as ?_)))
 refine VO.nil (V.seq ?_)
 replace hm0 := bindO hm0; rcases hm0 with ⟨y0, hh0, hm0⟩
 refine V.region (VO.cons rfl (V1.mv ?_))
 refine VO.cons rfl (V1.mv ?_)
 refine VO.cons rfl (V1.call rfl rfl rfl cok_120 rfl (ok_slices_Index_int_int hh0) rfl lt0 ?_)
 rintro _ _ ⟨rfl, rfl⟩
 refine VO.cons rfl (V1.it ?_)
 refine VO.cons rfl (V1.as ?_)
 refine VO.nil (V.ret ?_)
 obtain rfl := oi hm0
 exact ⟨_, [], ⟨_, _, rfl, rfl, rfl⟩, List.nil_sublist _, rfl, rfl⟩
theorem ok_impl_cartonWith_1 {ρ0 τ1 rn : Nat} {x : Carton} {file : Int} {r : Bool} (h : M.impl_cartonWith_1 x file = some r) : Does Try.prog 110 [encCarton ρ0 x, .pin τ1 (.int .i64 file) 0] [] rn (fun x H => x = .bool r ∧ H = []) := by
 have hm0 := h; clear h; unfold M.impl_cartonWith_1 at hm0
 try dsimp only at hm0
 refine Does.intro (N := 8) Try.func110 rfl rfl rfl rfl ?_
 intro w0 S0
 refine V.seq (V.region (VO.cons rfl (V1.boxN (n := 5) rfl rfl rfl rfl rfl lt0 ?_)))
 intro b0
 refine VO.cons rfl (V1.as ?_)
 refine VO.nil (V.seq ?_)
 replace hm0 := bindO hm0; rcases hm0 with ⟨y0, hh0, hm0⟩
 refine V.region (VO.cons rfl (V1.fieldRef rfl rfl fo_67_3 rfl lt0 ?_))
 refine VO.cons rfl (V1.loadRef (k := 0) rfl rfl tyk_36 rfl rfl rfl rfl rfl lt0 ?_)
 refine VO.cons rfl (V1.loadPin rfl rfl tyk_3 rfl rfl lt0 ?_)
 refine VO.cons rfl (V1.call rfl rfl rfl cok_91 rfl (ok_slices_Contains_int_int hh0) rfl lt0 ?_)
 rintro _ _ ⟨rfl, rfl⟩
 refine VO.cons rfl (V1.as ?_)
 refine VO.nil (V.ret ?_)
 obtain rfl := oi hm0
 exact ⟨_, [], ⟨_, _, rfl, rfl, rfl⟩, List.nil_sublist _, rfl, rfl⟩
theorem ok_slices_IndexFunc_impl_Carton_impl_Carton {ρ0 σ0 rn : Nat} {s : List Carton} {f1 : Nat} {cs1 : List PV} {r : Int} {fm : Carton → Option Bool} (h : M.slices_IndexFunc_impl_Carton_impl_Carton s fm = some r) (hok1 : callOK Try.prog f1 = true) (hf1 : ∀ x0 r, fm x0 = some r → Does Try.prog f1 (encCarton σ0 x0 :: cs1) [] rn (fun x H => x = .bool r ∧ H = [])) : Does Try.prog 106 [.vl ρ0 5 (List.map (encCarton σ0) s), .fn f1 cs1] [] rn (fun x H => x = .int .i64 r ∧ H = []) := by
 have hm0 := h; clear h; unfold M.slices_IndexFunc_impl_Carton_impl_Carton at hm0
 try dsimp only at hm0
 refine Does.intro (N := 19) Try.func106 rfl rfl rfl rfl ?_
 intro w0 S0
 refine V.seq (V.region (VO.cons rfl (V1.as ?_)))
 refine VO.nil (V.seq (V.seq (V.region (VO.cons rfl (V1.mv ?_)))))
 refine VO.cons rfl (V1.lenMap rfl rfl rfl rfl rfl rfl isl_39 lt0 ?_)
 refine VO.cons rfl (V1.mv ?_)
 refine VO.nil ?_
 replace hm0 := bindO hm0; rcases hm0 with ⟨e0, he1, hm0⟩
 refine V.cutT (D := (Unit) × (Unit)) (fun ⟨_, _⟩ => ⟨19, [], []⟩) (fun ⟨_, _⟩ => (.inl () = e0)) ?_ ?_
 ·
  refine V.block ?_
  refine V.keep 19 [8, 0, 1, 7] [] (E0 := [(8, .int .i64 (0 : Int)), (0, .vl ρ0 5 (List.map (encCarton σ0) s)), (1, .fn f1 cs1), (7, .int .i64 (s.length : Int))]) (H0 := []) rfl (⟨_, _, rfl, rfl, _, _, rfl, rfl, _, _, rfl, rfl, _, _, rfl, rfl, rfl⟩) (rfl) rfl ?_
  refine V.loopE (D := Nat × (Int) × (Unit)) (fun ⟨n0, v, _⟩ => [(8, .int .i64 v)]) (fun ⟨n0, v, _⟩ => []) (fun ⟨n0, v, _⟩ => loopO (M.slices_IndexFunc_impl_Carton_impl_Carton_l0 s fm) n0 v = some e0) (fun ⟨n0, _, _⟩ => n0) (rounds, (0 : Int), ()) rfl he1 ?_
  rintro ⟨n0, v, _⟩ hP0
  obtain ⟨m0, y0, rfl, hm1, hl1, hr1⟩ := loop_head hP0
  unfold M.slices_IndexFunc_impl_Carton_impl_Carton_l0 at hm1; dsimp only at hm1
  show V _ _ _ ⟨19, [(8, .int .i64 v), (0, .vl ρ0 5 (List.map (encCarton σ0) s)), (1, .fn f1 cs1), (7, .int .i64 (s.length : Int))], []⟩
  refine V.seq (V.region (VO.cons rfl (V1.it ?_)))
  refine VO.nil (V.seq (V.cond rfl (fun hc0 => ?_) (fun hc0 => ?_)))
  ·
   replace hm1 := cond_t hc0 hm1
   refine V.skip ?_
   refine V.seq (V.block ?_)
   refine V.seq (V.region (VO.cons rfl (V1.mv ?_)))
   refine VO.cons rfl (V1.as ?_)
   refine VO.nil (V.seq ?_)
   replace hm1 := asrt_some hm1; rcases hm1 with ⟨hh0, hm1⟩
   replace hm1 := bindO hm1; rcases hm1 with ⟨y1, hh1, hm1⟩
   refine V.region (VO.cons rfl (V1.mv ?_))
   refine VO.cons rfl (V1.mv ?_)
   refine VO.cons rfl (V1.mv ?_)
   refine VO.cons rfl (V1.indexI rfl rfl esz_39 rfl rfl hh0 lt0 ?_)
   refine VO.cons rfl (V1.loadPinAll rfl rfl tyk_67 rfl rfl lt0 ?_)
   refine VO.cons rfl (V1.callG (τ := 0) (Bw := []) rfl lt0 (run_callFn rfl rfl rfl hok1 rfl) (.refl _) (Lends.same _) (fun _ h => by cases h) ((hf1 _  _) hh1) (.inl rfl) (.inl rfl) ?_)
   rintro _ _ ⟨rfl, rfl⟩
   refine VO.nil (V.keep 19 [0, 1, 5, 7, 8, 16] [] (E0 := [(0, .vl ρ0 5 (List.map (encCarton σ0) s)), (1, .fn f1 cs1), (5, .int .i64 v), (7, .int .i64 (s.length : Int)), (8, .int .i64 v), (16, .bool y1)]) (H0 := []) rfl (⟨_, _, rfl, rfl, _, _, rfl, rfl, _, _, rfl, rfl, _, _, rfl, rfl, _, _, rfl, rfl, _, _, rfl, rfl, rfl⟩) (rfl) rfl ?_)
   refine V.cond rfl (fun hc1 => ?_) (fun hc1 => ?_)
   ·
    replace hm1 := cond_t hc1 hm1
    refine V.seq (V.region (VO.cons rfl (V1.mv ?_)))
    refine VO.cons rfl (V1.as ?_)
    refine VO.nil (V.ret ?_)
    obtain rfl := hr1 _ (oi hm1).symm
    change some _ = some _ at hm0
    obtain rfl := oi hm0
    exact ⟨_, [], ⟨_, _, rfl, rfl, rfl⟩, List.nil_sublist _, rfl, rfl⟩
   ·
    replace hm1 := cond_f hc1 hm1
    refine V.skip ?_
    refine V.region (VO.cons rfl (V1.it ?_))
    refine VO.cons rfl (V1.mv ?_)
    refine VO.nil ?_
    exact ⟨(m0, (IntKind.i64.wrap (v + (1 : Int))), ()), hl1 _ (oi hm1).symm, Nat.lt_succ_self _, Keeps.mk (ks := []) rfl ⟨rfl, rfl, rfl, rfl, trivial⟩ (rfl) rfl⟩
  ·
   replace hm1 := cond_f hc0 hm1
   refine V.exit ?_
   obtain rfl := hr1 _ (oi hm1).symm
   exact ⟨((), ()), rfl, Keeps.mk (ks := []) rfl trivial (rfl) rfl⟩
 ·
  rintro ⟨_, _⟩ rfl
  try dsimp only at hm0
  refine V.seq (V.region (VO.cons rfl (V1.as ?_)))
  refine VO.nil (V.ret ?_)
  obtain rfl := oi hm0
  exact ⟨_, [], ⟨_, _, rfl, rfl, rfl⟩, List.nil_sublist _, rfl, rfl⟩
theorem ok_impl_cartonWith {ρ0 σ0 rn : Nat} {list : List Carton} {file : Int} {r : Int} (h : M.impl_cartonWith list file = some r) : Does Try.prog 74 [.vl ρ0 5 (List.map (encCarton σ0) list), .int .i64 file] [] rn (fun x H => x = .int .i64 r ∧ H = []) := by
 have hm0 := h; clear h; unfold M.impl_cartonWith at hm0
 try dsimp only at hm0
 refine Does.intro (N := 8) Try.func74 rfl rfl rfl rfl ?_
 intro w0 S0
 refine V.seq (V.region (VO.cons rfl (V1.boxN (n := 1) rfl rfl rfl rfl rfl lt0 ?_)))
 intro b0
 refine VO.cons rfl (V1.as ?_)
 refine VO.nil (V.seq ?_)
 replace hm0 := bindO hm0; rcases hm0 with ⟨y0, hh0, hm0⟩
 refine V.region (VO.cons rfl (V1.mv ?_))
 refine VO.cons rfl (V1.makeFunc rfl rfl rfl lt0 ?_)
 refine VO.cons rfl (V1.callL (rn + 1) [b0] [.vl ρ0 5 (List.map (encCarton σ0) list), .fn 110 [.pin (rn + 1) (.int .i64 file) 0]] rfl rfl rfl cok_106 rfl ⟨_, _, rfl, .same _, ⟨_, _, rfl, Lend.fn ⟨_, _, rfl, Lend.ref 0 rfl rfl rfl rfl (.head _), rfl⟩, rfl⟩⟩ (bwCons (k := 0) rfl bwNil) (ok_slices_IndexFunc_impl_Carton_impl_Carton hh0 (fm := (fun x0 => M.impl_cartonWith_1 x0 file)) cok_110 (fun _ _ h => ok_impl_cartonWith_1 h)) rfl (⟨(by first | omega | (dsimp only; omega)), by rintro _ _ ⟨rfl, rfl⟩; exact ⟨rfl, by simp⟩⟩) lt0 ?_)
 rintro _ _ ⟨rfl, rfl⟩
 refine VO.cons rfl (V1.as ?_)
 refine VO.nil (V.ret ?_)
 obtain rfl := oi hm0
 exact ⟨_, [], ⟨_, _, rfl, rfl, rfl⟩, List.nil_sublist _, rfl, rfl⟩
theorem ok_impl_cartonAt_1 {ρ0 τ1 rn : Nat} {x : Carton} {id_c : Int} {r : Bool} (h : M.impl_cartonAt_1 x id_c = some r) : Does Try.prog 107 [encCarton ρ0 x, .pin τ1 (.int .i64 id_c) 0] [] rn (fun x H => x = .bool r ∧ H = []) := by
 have hm0 := h; clear h; unfold M.impl_cartonAt_1 at hm0
 try dsimp only at hm0
 refine Does.intro (N := 8) Try.func107 rfl rfl rfl rfl ?_
 intro w0 S0
 refine V.seq (V.region (VO.cons rfl (V1.boxN (n := 5) rfl rfl rfl rfl rfl lt0 ?_)))
 intro b0
 refine VO.cons rfl (V1.as ?_)
 refine VO.nil (V.seq (V.region (VO.cons rfl (V1.fieldRef rfl rfl fo_67_0 rfl lt0 ?_))))
 refine VO.cons rfl (V1.loadRef (k := 0) rfl rfl tyk_3 rfl rfl rfl rfl rfl lt0 ?_)
 refine VO.cons rfl (V1.loadPin rfl rfl tyk_3 rfl rfl lt0 ?_)
 refine VO.cons rfl (V1.it ?_)
 refine VO.cons rfl (V1.as ?_)
 refine VO.nil (V.ret ?_)
 obtain rfl := oi hm0
 exact ⟨_, [], ⟨_, _, rfl, rfl, rfl⟩, List.nil_sublist _, rfl, rfl⟩
theorem ok_impl_cartonAt {ρ0 σ0 rn : Nat} {list : List Carton} {id_ : Int} {r : Int} (h : M.impl_cartonAt list id_ = some r) : Does Try.prog 65 [.vl ρ0 5 (List.map (encCarton σ0) list), .int .i64 id_] [] rn (fun x H => x = .int .i64 r ∧ H = []) := by
 have hm0 := h; clear h; unfold M.impl_cartonAt at hm0
 try dsimp only at hm0
 refine Does.intro (N := 8) Try.func65 rfl rfl rfl rfl ?_
 intro w0 S0
 refine V.seq (V.region (VO.cons rfl (V1.boxN (n := 1) rfl rfl rfl rfl rfl lt0 ?_)))
 intro b0
 refine VO.cons rfl (V1.as ?_)
 refine VO.nil (V.seq ?_)
 replace hm0 := bindO hm0; rcases hm0 with ⟨y0, hh0, hm0⟩
 refine V.region (VO.cons rfl (V1.mv ?_))
 refine VO.cons rfl (V1.makeFunc rfl rfl rfl lt0 ?_)
 refine VO.cons rfl (V1.callL (rn + 1) [b0] [.vl ρ0 5 (List.map (encCarton σ0) list), .fn 107 [.pin (rn + 1) (.int .i64 id_) 0]] rfl rfl rfl cok_106 rfl ⟨_, _, rfl, .same _, ⟨_, _, rfl, Lend.fn ⟨_, _, rfl, Lend.ref 0 rfl rfl rfl rfl (.head _), rfl⟩, rfl⟩⟩ (bwCons (k := 0) rfl bwNil) (ok_slices_IndexFunc_impl_Carton_impl_Carton hh0 (fm := (fun x0 => M.impl_cartonAt_1 x0 id_)) cok_107 (fun _ _ h => ok_impl_cartonAt_1 h)) rfl (⟨(by first | omega | (dsimp only; omega)), by rintro _ _ ⟨rfl, rfl⟩; exact ⟨rfl, by simp⟩⟩) lt0 ?_)
 rintro _ _ ⟨rfl, rfl⟩
 refine VO.cons rfl (V1.as ?_)
 refine VO.nil (V.ret ?_)
 obtain rfl := oi hm0
 exact ⟨_, [], ⟨_, _, rfl, rfl, rfl⟩, List.nil_sublist _, rfl, rfl⟩
theorem ok_impl_within {rn : Nat} {n : Int} {low : Int} {high : Int} {r : Bool} (h : M.impl_within n low high = some r) : Does Try.prog 72 [.int .i64 n, .int .i64 low, .int .i64 high] [] rn (fun x H => x = .bool r ∧ H = []) := by
 have hm0 := h; clear h; unfold M.impl_within at hm0
 try dsimp only at hm0
 refine Does.intro (N := 15) Try.func72 rfl rfl rfl rfl ?_
 intro w0 S0
 refine V.seq (V.region (VO.cons rfl (V1.as ?_)))
 refine VO.nil (V.seq (V.region (VO.cons rfl (V1.mv ?_))))
 refine VO.cons rfl (V1.mv ?_)
 refine VO.cons rfl (V1.it ?_)
 refine VO.cons rfl (V1.mv ?_)
 apply VO.and (n := 3) rfl rfl rfl rfl rfl rfl lt0 (.none rfl)
 ·
  intro hg0
  refine VO.step (.some rfl rfl rfl) (V1.mv ?_)
  refine VO.step (.some rfl rfl rfl) (V1.mv ?_)
  refine VO.step (.some rfl rfl rfl) (V1.it ?_)
  exact VO.nil ⟨rfl, rfl, rfl, rfl, .inr ⟨rfl, .inr ⟨rfl, .inr ⟨rfl, .inr ⟨rfl, .inl rfl⟩⟩⟩⟩⟩
 refine VO.cons rfl (V1.as ?_)
 refine VO.nil (V.ret ?_)
 obtain rfl := oi hm0
 exact ⟨_, [], ⟨_, _, rfl, rfl, rfl⟩, List.nil_sublist _, rfl, rfl⟩
theorem ok_impl_isId {rn : Nat} {id_ : Int} {r : Bool} (h : M.impl_isId id_ = some r) : Does Try.prog 118 [.int .i64 id_] [] rn (fun x H => x = .bool r ∧ H = []) := by
 have hm0 := h; clear h; unfold M.impl_isId at hm0
 try dsimp only at hm0
 refine Does.intro (N := 5) Try.func118 rfl rfl rfl rfl ?_
 intro w0 S0
 refine V.seq (V.region (VO.cons rfl (V1.as ?_)))
 refine VO.nil (V.seq ?_)
 replace hm0 := bindO hm0; rcases hm0 with ⟨y0, hh0, hm0⟩
 refine V.region (VO.cons rfl (V1.mv ?_))
 refine VO.cons rfl (V1.call rfl rfl rfl cok_72 rfl (ok_impl_within hh0) rfl lt0 ?_)
 rintro _ _ ⟨rfl, rfl⟩
 refine VO.cons rfl (V1.as ?_)
 refine VO.nil (V.ret ?_)
 obtain rfl := oi hm0
 exact ⟨_, [], ⟨_, _, rfl, rfl, rfl⟩, List.nil_sublist _, rfl, rfl⟩
theorem ok_impl_isShelf {rn : Nat} {shelf : Int} {r : Bool} (h : M.impl_isShelf shelf = some r) : Does Try.prog 96 [.int .i64 shelf] [] rn (fun x H => x = .bool r ∧ H = []) := by
 have hm0 := h; clear h; unfold M.impl_isShelf at hm0
 try dsimp only at hm0
 refine Does.intro (N := 5) Try.func96 rfl rfl rfl rfl ?_
 intro w0 S0
 refine V.seq (V.region (VO.cons rfl (V1.as ?_)))
 refine VO.nil (V.seq ?_)
 replace hm0 := bindO hm0; rcases hm0 with ⟨y0, hh0, hm0⟩
 refine V.region (VO.cons rfl (V1.mv ?_))
 refine VO.cons rfl (V1.call rfl rfl rfl cok_72 rfl (ok_impl_within hh0) rfl lt0 ?_)
 rintro _ _ ⟨rfl, rfl⟩
 refine VO.cons rfl (V1.as ?_)
 refine VO.nil (V.ret ?_)
 obtain rfl := oi hm0
 exact ⟨_, [], ⟨_, _, rfl, rfl, rfl⟩, List.nil_sublist _, rfl, rfl⟩
theorem ok_impl_isRoom {rn : Nat} {room : Int} {r : Bool} (h : M.impl_isRoom room = some r) : Does Try.prog 95 [.int .i64 room] [] rn (fun x H => x = .bool r ∧ H = []) := by
 have hm0 := h; clear h; unfold M.impl_isRoom at hm0
 try dsimp only at hm0
 refine Does.intro (N := 5) Try.func95 rfl rfl rfl rfl ?_
 intro w0 S0
 refine V.seq (V.region (VO.cons rfl (V1.as ?_)))
 refine VO.nil (V.seq ?_)
 replace hm0 := bindO hm0; rcases hm0 with ⟨y0, hh0, hm0⟩
 refine V.region (VO.cons rfl (V1.mv ?_))
 refine VO.cons rfl (V1.call rfl rfl rfl cok_72 rfl (ok_impl_within hh0) rfl lt0 ?_)
 rintro _ _ ⟨rfl, rfl⟩
 refine VO.cons rfl (V1.as ?_)
 refine VO.nil (V.ret ?_)
 obtain rfl := oi hm0
 exact ⟨_, [], ⟨_, _, rfl, rfl, rfl⟩, List.nil_sublist _, rfl, rfl⟩
theorem ok_impl_areRising {ρ0 rn : Nat} {list : List Int} {r : Bool} (h : M.impl_areRising list = some r) : Does Try.prog 73 [.vl ρ0 1 (List.map encInt list)] [] rn (fun x H => x = .bool r ∧ H = []) := by
 have hm0 := h; clear h; unfold M.impl_areRising at hm0
 try dsimp only at hm0
 refine Does.intro (N := 20) Try.func73 rfl rfl rfl rfl ?_
 intro w0 S0
 refine V.seq (V.region (VO.cons rfl (V1.as ?_)))
 refine VO.nil (V.seq (V.seq (V.region (VO.cons rfl (V1.as ?_)))))
 refine VO.nil ?_
 replace hm0 := bindO hm0; rcases hm0 with ⟨e0, he1, hm0⟩
 refine V.cutT (D := (Unit) × (Unit)) (fun ⟨_, _⟩ => ⟨20, [], []⟩) (fun ⟨_, _⟩ => (.inl () = e0)) ?_ ?_
 ·
  refine V.block ?_
  refine V.keep 20 [3, 0] [] (E0 := [(3, .int .i64 (1 : Int)), (0, .vl ρ0 1 (List.map encInt list))]) (H0 := []) rfl (⟨_, _, rfl, rfl, _, _, rfl, rfl, rfl⟩) (rfl) rfl ?_
  refine V.loopE (D := Nat × (Int) × (Unit)) (fun ⟨n0, i, _⟩ => [(3, .int .i64 i)]) (fun ⟨n0, i, _⟩ => []) (fun ⟨n0, i, _⟩ => loopO (M.impl_areRising_l0 list) n0 i = some e0) (fun ⟨n0, _, _⟩ => n0) (rounds, (1 : Int), ()) rfl he1 ?_
  rintro ⟨n0, i, _⟩ hP0
  obtain ⟨m0, y0, rfl, hm1, hl1, hr1⟩ := loop_head hP0
  unfold M.impl_areRising_l0 at hm1; dsimp only at hm1
  show V _ _ _ ⟨20, [(3, .int .i64 i), (0, .vl ρ0 1 (List.map encInt list))], []⟩
  refine V.seq (V.seq (V.region (VO.cons rfl (V1.mv ?_))))
  refine VO.cons rfl (V1.mv ?_)
  refine VO.cons rfl (V1.lenMap rfl rfl rfl rfl rfl rfl isl_36 lt0 ?_)
  refine VO.cons rfl (V1.it ?_)
  refine VO.nil (V.cond rfl (fun hc0 => ?_) (fun hc0 => ?_))
  ·
   replace hm1 := cond_t hc0 hm1
   refine V.skip ?_
   refine V.keep 20 [0, 3] [] (E0 := [(0, .vl ρ0 1 (List.map encInt list)), (3, .int .i64 i)]) (H0 := []) rfl (⟨_, _, rfl, rfl, _, _, rfl, rfl, rfl⟩) (rfl) rfl ?_
   refine V.seq (V.block ?_)
   refine V.seq ?_
   replace hm1 := asrt_some hm1; rcases hm1 with ⟨hh0, hm1⟩
   replace hm1 := asrt_some hm1; rcases hm1 with ⟨hh1, hm1⟩
   refine V.regionM 20 9 [⟨[(0, none)], [], none⟩, ⟨[(3, none)], [], none⟩, ⟨[(11, some 0)], [], none⟩, ⟨[(10, some 2), (12, some 0)], [], none⟩, ⟨[(13, some 0)], [], none⟩, ⟨[(0, none)], [], none⟩, ⟨[(3, none)], [], none⟩, ⟨[(15, some 1), (16, some 0)], [], none⟩, ⟨[(17, some 0)], [], none⟩] [(0, none), (3, none), (14, some 4), (18, some 0)] (⟨_, rfl, ⟨_, rfl, ⟨_, rfl, ⟨_, rfl, ⟨_, rfl, ⟨_, rfl, ⟨_, rfl, ⟨_, rfl, ⟨_, rfl, ⟨rfl, rfl⟩⟩⟩⟩⟩⟩⟩⟩⟩⟩) mixed_orders rfl (by decide +kernel) (fun hck4 => ?_)
   refine VP.step (p := ?pv73) rfl rfl rfl (⟨_, _, rfl, rfl, rfl⟩) ?hv73 ?rest73 hck4
   case hv73 =>
    intro E1
    refine (V1.mv ?_)
    exact rfl
   refine VP.step (p := ?pv74) rfl rfl rfl (⟨_, _, rfl, rfl, rfl⟩) ?hv74 ?rest74 hck4
   case hv74 =>
    intro E1
    refine (V1.mv ?_)
    exact rfl
   refine VP.step (p := ?pv75) rfl rfl rfl (⟨_, _, rfl, rfl, rfl⟩) ?hv75 ?rest75 hck4
   case hv75 =>
    intro E1
    refine (V1.it ?_)
    exact rfl
   refine VP.step (p := ?pv76) rfl rfl rfl (⟨_, _, rfl, rfl, _, _, rfl, rfl, rfl⟩) ?hv76 ?rest76 hck4
   case hv76 =>
    intro E1
    refine (V1.indexI rfl rfl esz_36 rfl rfl hh0 lt0 ?_)
    exact rfl
   refine VP.step (p := ?pv77) rfl rfl rfl (⟨_, _, rfl, rfl, rfl⟩) ?hv77 ?rest77 hck4
   case hv77 =>
    intro E1
    refine (V1.loadPin rfl rfl tyk_3 rfl rfl lt0 ?_)
    exact rfl
   refine VP.step (p := ?pv78) rfl rfl rfl (⟨_, _, rfl, rfl, rfl⟩) ?hv78 ?rest78 hck4
   case hv78 =>
    intro E1
    refine (V1.mv ?_)
    exact rfl
   refine VP.step (p := ?pv79) rfl rfl rfl (⟨_, _, rfl, rfl, rfl⟩) ?hv79 ?rest79 hck4
   case hv79 =>
    intro E1
    refine (V1.mv ?_)
    exact rfl
   refine VP.step (p := ?pv80) rfl rfl rfl (⟨_, _, rfl, rfl, _, _, rfl, rfl, rfl⟩) ?hv80 ?rest80 hck4
   case hv80 =>
    intro E1
    refine (V1.indexI rfl rfl esz_36 rfl rfl hh1 lt0 ?_)
    exact rfl
   refine VP.step (p := ?pv81) rfl rfl rfl (⟨_, _, rfl, rfl, rfl⟩) ?hv81 ?rest81 hck4
   case hv81 =>
    intro E1
    refine (V1.loadPin rfl rfl tyk_3 rfl rfl lt0 ?_)
    exact rfl
   refine VP.fin rfl (⟨_, _, rfl, rfl, _, _, rfl, rfl, _, _, rfl, rfl, _, _, rfl, rfl, rfl⟩) ?_
   refine VO.cons rfl (V1.it ?_)
   refine VO.nil (V.cond rfl (fun hc1 => ?_) (fun hc1 => ?_))
   ·
    replace hm1 := cond_t hc1 hm1
    refine V.seq (V.region (VO.cons rfl (V1.as ?_)))
    refine VO.nil (V.ret ?_)
    obtain rfl := hr1 _ (oi hm1).symm
    change some _ = some _ at hm0
    obtain rfl := oi hm0
    exact ⟨_, [], ⟨_, _, rfl, rfl, rfl⟩, List.nil_sublist _, rfl, rfl⟩
   ·
    replace hm1 := cond_f hc1 hm1
    refine V.skip ?_
    refine V.region (VO.cons rfl (V1.mv ?_))
    refine VO.cons rfl (V1.it ?_)
    refine VO.cons rfl (V1.as ?_)
    refine VO.nil ?_
    exact ⟨(m0, (IntKind.i64.wrap (i + (1 : Int))), ()), hl1 _ (oi hm1).symm, Nat.lt_succ_self _, Keeps.mk (ks := []) rfl ⟨rfl, rfl, trivial⟩ (rfl) rfl⟩
  ·
   replace hm1 := cond_f hc0 hm1
   refine V.exit ?_
   obtain rfl := hr1 _ (oi hm1).symm
   exact ⟨((), ()), rfl, Keeps.mk (ks := []) rfl trivial (rfl) rfl⟩
 ·
  rintro ⟨_, _⟩ rfl
  try dsimp only at hm0
  refine V.seq (V.region (VO.cons rfl (V1.as ?_)))
  refine VO.nil (V.ret ?_)
  obtain rfl := oi hm0
  exact ⟨_, [], ⟨_, _, rfl, rfl, rfl⟩, List.nil_sublist _, rfl, rfl⟩
theorem ok_slices_IndexFunc_int_int {ρ0 rn : Nat} {s : List Int} {f1 : Nat} {cs1 : List PV} {r : Int} {fm : Int → Option Bool} (h : M.slices_IndexFunc_int_int s fm = some r) (hok1 : callOK Try.prog f1 = true) (hf1 : ∀ x0 r, fm x0 = some r → Does Try.prog f1 (.int .i64 x0 :: cs1) [] rn (fun x H => x = .bool r ∧ H = [])) : Does Try.prog 115 [.vl ρ0 1 (List.map encInt s), .fn f1 cs1] [] rn (fun x H => x = .int .i64 r ∧ H = []) := by
 have hm0 := h; clear h; unfold M.slices_IndexFunc_int_int at hm0
 try dsimp only at hm0
 refine Does.intro (N := 19) Try.func115 rfl rfl rfl rfl ?_
 intro w0 S0
 refine V.seq (V.region (VO.cons rfl (V1.as ?_)))
 refine VO.nil (V.seq (V.seq (V.region (VO.cons rfl (V1.mv ?_)))))
 refine VO.cons rfl (V1.lenMap rfl rfl rfl rfl rfl rfl isl_36 lt0 ?_)
 refine VO.cons rfl (V1.mv ?_)
 refine VO.nil ?_
 replace hm0 := bindO hm0; rcases hm0 with ⟨e0, he1, hm0⟩
 refine V.cutT (D := (Unit) × (Unit)) (fun ⟨_, _⟩ => ⟨19, [], []⟩) (fun ⟨_, _⟩ => (.inl () = e0)) ?_ ?_
 ·
  refine V.block ?_
  refine V.keep 19 [8, 0, 1, 7] [] (E0 := [(8, .int .i64 (0 : Int)), (0, .vl ρ0 1 (List.map encInt s)), (1, .fn f1 cs1), (7, .int .i64 (s.length : Int))]) (H0 := []) rfl (⟨_, _, rfl, rfl, _, _, rfl, rfl, _, _, rfl, rfl, _, _, rfl, rfl, rfl⟩) (rfl) rfl ?_
  refine V.loopE (D := Nat × (Int) × (Unit)) (fun ⟨n0, v, _⟩ => [(8, .int .i64 v)]) (fun ⟨n0, v, _⟩ => []) (fun ⟨n0, v, _⟩ => loopO (M.slices_IndexFunc_int_int_l0 s fm) n0 v = some e0) (fun ⟨n0, _, _⟩ => n0) (rounds, (0 : Int), ()) rfl he1 ?_
  rintro ⟨n0, v, _⟩ hP0
  obtain ⟨m0, y0, rfl, hm1, hl1, hr1⟩ := loop_head hP0
  unfold M.slices_IndexFunc_int_int_l0 at hm1; dsimp only at hm1
  show V _ _ _ ⟨19, [(8, .int .i64 v), (0, .vl ρ0 1 (List.map encInt s)), (1, .fn f1 cs1), (7, .int .i64 (s.length : Int))], []⟩
  refine V.seq (V.region (VO.cons rfl (V1.it ?_)))
  refine VO.nil (V.seq (V.cond rfl (fun hc0 => ?_) (fun hc0 => ?_)))
  ·
   replace hm1 := cond_t hc0 hm1
   refine V.skip ?_
   refine V.seq (V.block ?_)
   refine V.seq (V.region (VO.cons rfl (V1.mv ?_)))
   refine VO.cons rfl (V1.as ?_)
   refine VO.nil (V.seq ?_)
   replace hm1 := asrt_some hm1; rcases hm1 with ⟨hh0, hm1⟩
   replace hm1 := bindO hm1; rcases hm1 with ⟨y1, hh1, hm1⟩
   refine V.region (VO.cons rfl (V1.mv ?_))
   refine VO.cons rfl (V1.mv ?_)
   refine VO.cons rfl (V1.mv ?_)
   refine VO.cons rfl (V1.indexI rfl rfl esz_36 rfl rfl hh0 lt0 ?_)
   refine VO.cons rfl (V1.loadPin rfl rfl tyk_3 rfl rfl lt0 ?_)
   refine VO.cons rfl (V1.callG (τ := 0) (Bw := []) rfl lt0 (run_callFn rfl rfl rfl hok1 rfl) (.refl _) (Lends.same _) (fun _ h => by cases h) ((hf1 _  _) hh1) (.inl rfl) (.inl rfl) ?_)
   rintro _ _ ⟨rfl, rfl⟩
   refine VO.nil (V.keep 19 [0, 1, 5, 7, 8, 16] [] (E0 := [(0, .vl ρ0 1 (List.map encInt s)), (1, .fn f1 cs1), (5, .int .i64 v), (7, .int .i64 (s.length : Int)), (8, .int .i64 v), (16, .bool y1)]) (H0 := []) rfl (⟨_, _, rfl, rfl, _, _, rfl, rfl, _, _, rfl, rfl, _, _, rfl, rfl, _, _, rfl, rfl, _, _, rfl, rfl, rfl⟩) (rfl) rfl ?_)
   refine V.cond rfl (fun hc1 => ?_) (fun hc1 => ?_)
   ·
    replace hm1 := cond_t hc1 hm1
    refine V.seq (V.region (VO.cons rfl (V1.mv ?_)))
    refine VO.cons rfl (V1.as ?_)
    refine VO.nil (V.ret ?_)
    obtain rfl := hr1 _ (oi hm1).symm
    change some _ = some _ at hm0
    obtain rfl := oi hm0
    exact ⟨_, [], ⟨_, _, rfl, rfl, rfl⟩, List.nil_sublist _, rfl, rfl⟩
   ·
    replace hm1 := cond_f hc1 hm1
    refine V.skip ?_
    refine V.region (VO.cons rfl (V1.it ?_))
    refine VO.cons rfl (V1.mv ?_)
    refine VO.nil ?_
    exact ⟨(m0, (IntKind.i64.wrap (v + (1 : Int))), ()), hl1 _ (oi hm1).symm, Nat.lt_succ_self _, Keeps.mk (ks := []) rfl ⟨rfl, rfl, rfl, rfl, trivial⟩ (rfl) rfl⟩
  ·
   replace hm1 := cond_f hc0 hm1
   refine V.exit ?_
   obtain rfl := hr1 _ (oi hm1).symm
   exact ⟨((), ()), rfl, Keeps.mk (ks := []) rfl trivial (rfl) rfl⟩
 ·
  rintro ⟨_, _⟩ rfl
  try dsimp only at hm0
  refine V.seq (V.region (VO.cons rfl (V1.as ?_)))
  refine VO.nil (V.ret ?_)
  obtain rfl := oi hm0
  exact ⟨_, [], ⟨_, _, rfl, rfl, rfl⟩, List.nil_sublist _, rfl, rfl⟩
theorem ok_slices_ContainsFunc_int_int {ρ0 rn : Nat} {s : List Int} {f1 : Nat} {cs1 : List PV} {r : Bool} {fm : Int → Option Bool} (h : M.slices_ContainsFunc_int_int s fm = some r) (hok1 : callOK Try.prog f1 = true) (hf1 : ∀ x0 r, fm x0 = some r → Does Try.prog f1 (.int .i64 x0 :: cs1) [] rn (fun x H => x = .bool r ∧ H = [])) : Does Try.prog 89 [.vl ρ0 1 (List.map encInt s), .fn f1 cs1] [] rn (fun x H => x = .bool r ∧ H = []) := by
 have hm0 := h; clear h; unfold M.slices_ContainsFunc_int_int at hm0
 try dsimp only at hm0
 refine Does.intro (N := 9) Try.func89 rfl rfl rfl rfl ?_
 intro w0 S0
 refine V.seq (V.region (VO.cons rfl (V1.as ?_)))
 refine VO.nil (V.seq ?_)
 replace hm0 := bindO hm0; rcases hm0 with ⟨y0, hh0, hm0⟩
 refine V.region (VO.cons rfl (V1.mv ?_))
 refine VO.cons rfl (V1.mv ?_)
 refine VO.cons rfl (V1.call rfl rfl rfl cok_115 rfl (ok_slices_IndexFunc_int_int hh0 (fm := fm) hok1 hf1) rfl lt0 ?_)
 rintro _ _ ⟨rfl, rfl⟩
 refine VO.cons rfl (V1.it ?_)
 refine VO.cons rfl (V1.as ?_)
 refine VO.nil (V.ret ?_)
 obtain rfl := oi hm0
 exact ⟨_, [], ⟨_, _, rfl, rfl, rfl⟩, List.nil_sublist _, rfl, rfl⟩
theorem ok_impl_IsCarton_1 {rn : Nat} {id_ : Int} {r : Bool} (h : M.impl_IsCarton_1 id_ = some r) : Does Try.prog 119 [.int .i64 id_] [] rn (fun x H => x = .bool r ∧ H = []) := by
 have hm0 := h; clear h; unfold M.impl_IsCarton_1 at hm0
 try dsimp only at hm0
 refine Does.intro (N := 6) Try.func119 rfl rfl rfl rfl ?_
 intro w0 S0
 refine V.seq (V.region (VO.cons rfl (V1.as ?_)))
 refine VO.nil (V.seq ?_)
 replace hm0 := bindO hm0; rcases hm0 with ⟨y0, hh0, hm0⟩
 refine V.region (VO.cons rfl (V1.mv ?_))
 refine VO.cons rfl (V1.call rfl rfl rfl cok_72 rfl (ok_impl_within hh0) rfl lt0 ?_)
 rintro _ _ ⟨rfl, rfl⟩
 refine VO.cons rfl (V1.not rfl rfl rfl lt0 ?_)
 refine VO.cons rfl (V1.as ?_)
 refine VO.nil (V.ret ?_)
 obtain rfl := oi hm0
 exact ⟨_, [], ⟨_, _, rfl, rfl, rfl⟩, List.nil_sublist _, rfl, rfl⟩
theorem ok_impl_IsCarton {ρ0 rn : Nat} {x : Carton} {r : Bool} (h : M.impl_IsCarton x = some r) : Does Try.prog 88 [encCarton ρ0 x] [] rn (fun x H => x = .bool r ∧ H = []) := by
 have hm0 := h; clear h; unfold M.impl_IsCarton at hm0
 try dsimp only at hm0
 refine Does.intro (N := 38) Try.func88 rfl rfl rfl rfl ?_
 intro w0 S0
 refine V.seq (V.region (VO.cons rfl (V1.boxN (n := 5) rfl rfl rfl rfl rfl lt0 ?_)))
 intro b0
 refine VO.cons rfl (V1.as ?_)
 refine VO.nil (V.seq ?_)
 replace hm0 := bindO hm0; rcases hm0 with ⟨y0, hh0, hm0⟩
 replace hm0 := bindO hm0; rcases hm0 with ⟨y1, hh1, hm0⟩
 replace hm0 := bindO hm0; rcases hm0 with ⟨y2, hh2, hm0⟩
 replace hm0 := bindO hm0; rcases hm0 with ⟨y3, hh3, hm0⟩
 replace hm0 := bindO hm0; rcases hm0 with ⟨y4, hh4, hm0⟩
 replace hm0 := bindO hm0; rcases hm0 with ⟨y5, hh5, hm0⟩
 refine V.region (VO.cons rfl (V1.fieldRef rfl rfl fo_67_0 rfl lt0 ?_))
 refine VO.cons rfl (V1.loadRef (k := 0) rfl rfl tyk_3 rfl rfl rfl rfl rfl lt0 ?_)
 refine VO.cons rfl (V1.call rfl rfl rfl cok_118 rfl (ok_impl_isId hh0) rfl lt0 ?_)
 rintro _ _ ⟨rfl, rfl⟩
 refine VO.cons rfl (V1.mv ?_)
 apply VO.and (n := 3) rfl rfl rfl rfl rfl rfl lt0 (.none rfl)
 ·
  intro hg0
  refine VO.step (.some rfl rfl rfl) (V1.fieldRef rfl rfl fo_67_1 rfl lt0 ?_)
  refine VO.step (.some rfl rfl rfl) (V1.loadRef (k := 0) rfl rfl tyk_3 rfl rfl rfl rfl rfl lt0 ?_)
  refine VO.step (.some rfl rfl rfl) (V1.call rfl rfl rfl cok_96 rfl (ok_impl_isShelf (cond_t hg0 hh1)) rfl lt0 ?_)
  rintro _ _ ⟨rfl, rfl⟩
  exact VO.nil ⟨rfl, rfl, rfl, rfl, .inr ⟨rfl, .inr ⟨rfl, .inr ⟨rfl, .inr ⟨rfl, .inl rfl⟩⟩⟩⟩⟩
 refine VO.cons rfl (V1.mv ?_)
 apply VO.and (n := 3) rfl rfl rfl rfl rfl rfl lt0 (.none rfl)
 ·
  intro hg1
  refine VO.step (.some rfl rfl rfl) (V1.fieldRef rfl rfl fo_67_2 rfl lt0 ?_)
  refine VO.step (.some rfl rfl rfl) (V1.loadRef (k := 0) rfl rfl tyk_3 rfl rfl rfl rfl rfl lt0 ?_)
  refine VO.step (.some rfl rfl rfl) (V1.call rfl rfl rfl cok_95 rfl (ok_impl_isRoom (cond_t hg1 hh2)) rfl lt0 ?_)
  rintro _ _ ⟨rfl, rfl⟩
  exact VO.nil ⟨rfl, rfl, rfl, rfl, .inr ⟨rfl, .inr ⟨rfl, .inr ⟨rfl, .inr ⟨rfl, .inl rfl⟩⟩⟩⟩⟩
 refine VO.cons rfl (V1.mv ?_)
 apply VO.and (n := 4) rfl rfl rfl rfl rfl rfl lt0 (.none rfl)
 ·
  intro hg2
  refine VO.step (.some rfl rfl rfl) (V1.fieldRef rfl rfl fo_67_3 rfl lt0 ?_)
  refine VO.step (.some rfl rfl rfl) (V1.loadRef (k := 0) rfl rfl tyk_36 rfl rfl rfl rfl rfl lt0 ?_)
  refine VO.step (.some rfl rfl rfl) (V1.lenMap rfl rfl rfl rfl rfl rfl isl_36 lt0 ?_)
  refine VO.step (.some rfl rfl rfl) (V1.it ?_)
  exact VO.nil ⟨rfl, rfl, rfl, rfl, .inr ⟨rfl, .inr ⟨rfl, .inr ⟨rfl, .inr ⟨rfl, .inr ⟨rfl, .inl rfl⟩⟩⟩⟩⟩⟩
 refine VO.cons rfl (V1.mv ?_)
 apply VO.and (n := 3) rfl rfl rfl rfl rfl rfl lt0 (.none rfl)
 ·
  intro hg3
  refine VO.step (.some rfl rfl rfl) (V1.fieldRef rfl rfl fo_67_3 rfl lt0 ?_)
  refine VO.step (.some rfl rfl rfl) (V1.loadRef (k := 0) rfl rfl tyk_36 rfl rfl rfl rfl rfl lt0 ?_)
  refine VO.step (.some rfl rfl rfl) (V1.call rfl rfl rfl cok_73 rfl (ok_impl_areRising (cond_t hg3 hh3)) rfl lt0 ?_)
  rintro _ _ ⟨rfl, rfl⟩
  exact VO.nil ⟨rfl, rfl, rfl, rfl, .inr ⟨rfl, .inr ⟨rfl, .inr ⟨rfl, .inr ⟨rfl, .inl rfl⟩⟩⟩⟩⟩
 refine VO.cons rfl (V1.mv ?_)
 apply VO.and (n := 4) rfl rfl rfl rfl rfl rfl lt0 (.none rfl)
 ·
  intro hg4
  refine VO.step (.some rfl rfl rfl) (V1.fieldRef rfl rfl fo_67_3 rfl lt0 ?_)
  refine VO.step (.some rfl rfl rfl) (V1.loadRef (k := 0) rfl rfl tyk_36 rfl rfl rfl rfl rfl lt0 ?_)
  refine VO.step (.some rfl rfl rfl) (V1.call rfl rfl rfl cok_89 rfl (ok_slices_ContainsFunc_int_int (cond_t hg4 hh4) (fm := (fun x0 => M.impl_IsCarton_1 x0)) cok_119 (fun _ _ h => ok_impl_IsCarton_1 h)) rfl lt0 ?_)
  rintro _ _ ⟨rfl, rfl⟩
  refine VO.step (.some rfl rfl rfl) (V1.not rfl rfl rfl lt0 ?_)
  exact VO.nil ⟨rfl, rfl, rfl, rfl, .inr ⟨rfl, .inr ⟨rfl, .inr ⟨rfl, .inr ⟨rfl, .inr ⟨rfl, .inl rfl⟩⟩⟩⟩⟩⟩
 refine VO.cons rfl (V1.mv ?_)
 apply VO.and (n := 3) rfl rfl rfl rfl rfl rfl lt0 (.none rfl)
 ·
  intro hg5
  refine VO.step (.some rfl rfl rfl) (V1.fieldRef rfl rfl fo_67_4 rfl lt0 ?_)
  refine VO.step (.some rfl rfl rfl) (V1.loadRef (k := 0) rfl rfl tyk_3 rfl rfl rfl rfl rfl lt0 ?_)
  refine VO.step (.some rfl rfl rfl) (V1.call rfl rfl rfl cok_72 rfl (ok_impl_within (cond_t hg5 hh5)) rfl lt0 ?_)
  rintro _ _ ⟨rfl, rfl⟩
  exact VO.nil ⟨rfl, rfl, rfl, rfl, .inr ⟨rfl, .inr ⟨rfl, .inr ⟨rfl, .inr ⟨rfl, .inl rfl⟩⟩⟩⟩⟩
 refine VO.cons rfl (V1.as ?_)
 refine VO.nil (V.ret ?_)
 obtain rfl := oi hm0
 exact ⟨_, [], ⟨_, _, rfl, rfl, rfl⟩, List.nil_sublist _, rfl, rfl⟩
theorem ok_impl_AreCartons_1 {ρ1 τ1 rn : Nat} {id_ : Int} {y_c : Carton} {r : Bool} (h : M.impl_AreCartons_1 id_ y_c = some r) : Does Try.prog 90 [.int .i64 id_, .pin τ1 (encCarton ρ1 y_c) 0] [] rn (fun x H => x = .bool r ∧ H = []) := by
 have hm0 := h; clear h; unfold M.impl_AreCartons_1 at hm0
 try dsimp only at hm0
 refine Does.intro (N := 8) Try.func90 rfl rfl rfl rfl ?_
 intro w0 S0
 refine V.seq (V.region (VO.cons rfl (V1.as ?_)))
 refine VO.nil (V.seq ?_)
 replace hm0 := bindO hm0; rcases hm0 with ⟨y0, hh0, hm0⟩
 refine V.region (VO.cons rfl (V1.fieldPin rfl rfl fo_67_3 rfl lt0 ?_))
 refine VO.cons rfl (V1.loadPin rfl rfl tyk_36 rfl rfl lt0 ?_)
 refine VO.cons rfl (V1.mv ?_)
 refine VO.cons rfl (V1.call rfl rfl rfl cok_91 rfl (ok_slices_Contains_int_int hh0) rfl lt0 ?_)
 rintro _ _ ⟨rfl, rfl⟩
 refine VO.cons rfl (V1.as ?_)
 refine VO.nil (V.ret ?_)
 obtain rfl := oi hm0
 exact ⟨_, [], ⟨_, _, rfl, rfl, rfl⟩, List.nil_sublist _, rfl, rfl⟩
end Go.Proofs.Ytfebeomnlkfgoaa
