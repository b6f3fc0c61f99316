/- the functions do what their models say -/
import Derived.Test.YtjfpdbhjoofllaaFacts
import Derived.Test.YtjfpdbhjoofllaaSh
import Derived.KernelRfl
import Derived.Test.YtjfpdbhjoofllaaMvM
set_option linter.unusedSimpArgs false
set_option linter.unusedVariables false
set_option maxRecDepth 100000
set_option maxHeartbeats 4000000
namespace Go.Proofs.Ytjfpdbhjoofllaa
open Go.VS

theorem ok_laws_vBig {ρ0 rn : Nat} {code : List Int} {r : Bool} (h : M.laws_vBig code = some r) : Does Try.prog 6 [.vl ρ0 1 (List.map encU8 code)] [] rn (fun x H => x = .bool r ∧ H = []) := by
 have hm0 := h; clear h; unfold M.laws_vBig at hm0
 try dsimp only at hm0
 refine Does.intro (N := 6) Try.func6 rfl rfl rfl rfl ?_
 intro w0 S0
 refine V.seq (V.region (VO.cons rfl (V1.as ?_)))
 refine VO.nil (V.seq (V.region (VO.cons rfl (V1.mv ?_))))
 refine VO.cons rfl (V1.lenMap rfl rfl rfl rfl rfl rfl isl_22 lt0 ?_)
 refine VO.cons rfl (V1.it ?_)
 refine VO.cons rfl (V1.as ?_)
 refine VO.nil (V.ret ?_)
 obtain rfl := oi hm0
 exact ⟨_, [], ⟨_, _, rfl, rfl, rfl⟩, List.nil_sublist _, rfl, rfl⟩

theorem ok_spec_l1Cur_next {ρ0 rn bp : Nat} {c : Cur} {r : Int × Cur} (h : M.spec_l1Cur_next c = some r) : Does Try.prog 116 [.ref bp 3 0 0] [(bp, ⟨3, [encCur ρ0 c]⟩)] rn (fun x H => x = .int .i64 r.1 ∧ H = [(bp, ⟨3, [encCur ρ0 r.2]⟩)]) := by
 have hm0 := h; clear h; unfold M.spec_l1Cur_next at hm0
 try dsimp only at hm0
 refine Does.intro (N := 62) Try.func116 rfl rfl rfl rfl ?_
 intro w0 S0
 refine V.seq (V.region (VO.cons rfl (V1.as ?_)))
 refine VO.nil (V.seq (V.region (VO.cons rfl (V1.as ?_))))
 refine VO.nil (V.seq ?_)
 replace hm0 := bindO hm0; rcases hm0 with ⟨j0, hm1, hm0⟩
 refine V.cutT (D := (Int) × (Unit)) (fun ⟨b_, _⟩ => ⟨62, [(3, .int .i64 b_), (0, .ref bp 3 0 0)], [(bp, ⟨3, [encCur ρ0 c]⟩)]⟩) (fun ⟨b_, _⟩ => (b_ = j0)) ?_ ?_
 ·
  refine V.seq (V.regionM 62 9 [⟨[(0, none)], [], none⟩, ⟨[(4, some 0)], [], none⟩, ⟨[(5, some 0)], [], none⟩, ⟨[(6, some 0)], [], none⟩, ⟨[(0, none)], [], none⟩, ⟨[(8, some 0)], [], none⟩, ⟨[(9, some 0)], [], none⟩, ⟨[(10, some 0)], [], none⟩, ⟨[(11, some 0)], [], none⟩] [(0, none), (3, none), (7, some 5), (12, some 0)] (⟨_, rfl, ⟨_, rfl, ⟨_, rfl, ⟨_, rfl, ⟨_, rfl, ⟨_, rfl, ⟨_, rfl, ⟨_, rfl, ⟨_, rfl, ⟨rfl, rfl⟩⟩⟩⟩⟩⟩⟩⟩⟩⟩) mixed_orders rfl (by decide +kernel) (fun hck2 => ?_))
  refine VP.step (p := ?pv104) rfl rfl rfl (⟨_, _, rfl, rfl, rfl⟩) ?hv104 ?rest104 hck2
  case hv104 =>
   intro E1
   refine (V1.mv ?_)
   exact rfl
  refine VP.step (p := ?pv105) rfl rfl rfl (⟨_, _, rfl, rfl, rfl⟩) ?hv105 ?rest105 hck2
  case hv105 =>
   intro E1
   refine (V1.nilRef rfl rfl rfl lt0 ?_)
   exact rfl
  refine VP.step (p := ?pv106) rfl rfl rfl (⟨_, _, rfl, rfl, rfl⟩) ?hv106 ?rest106 hck2
  case hv106 =>
   intro E1
   refine (V1.fieldRef rfl rfl fo_80_1 rfl lt0 ?_)
   exact rfl
  refine VP.step (p := ?pv107) rfl rfl rfl (⟨_, _, rfl, rfl, rfl⟩) ?hv107 ?rest107 hck2
  case hv107 =>
   intro E1
   refine (V1.loadRef (k := 0) rfl rfl tyk_3 rfl rfl rfl rfl rfl lt0 ?_)
   exact rfl
  refine VP.step (p := ?pv108) rfl rfl rfl (⟨_, _, rfl, rfl, rfl⟩) ?hv108 ?rest108 hck2
  case hv108 =>
   intro E1
   refine (V1.mv ?_)
   exact rfl
  refine VP.step (p := ?pv109) rfl rfl rfl (⟨_, _, rfl, rfl, rfl⟩) ?hv109 ?rest109 hck2
  case hv109 =>
   intro E1
   refine (V1.nilRef rfl rfl rfl lt0 ?_)
   exact rfl
  refine VP.step (p := ?pv110) rfl rfl rfl (⟨_, _, rfl, rfl, rfl⟩) ?hv110 ?rest110 hck2
  case hv110 =>
   intro E1
   refine (V1.fieldRef rfl rfl fo_80_0 rfl lt0 ?_)
   exact rfl
  refine VP.step (p := ?pv111) rfl rfl rfl (⟨_, _, rfl, rfl, rfl⟩) ?hv111 ?rest111 hck2
  case hv111 =>
   intro E1
   refine (V1.loadRef (k := 0) rfl rfl tyk_22 rfl rfl rfl rfl rfl lt0 ?_)
   exact rfl
  refine VP.step (p := ?pv112) rfl rfl rfl (⟨_, _, rfl, rfl, rfl⟩) ?hv112 ?rest112 hck2
  case hv112 =>
   intro E1
   refine (V1.lenMap rfl rfl rfl rfl rfl rfl isl_22 lt0 ?_)
   exact rfl
  refine VP.fin rfl (⟨_, _, rfl, rfl, ⟨_, _, rfl, rfl, ⟨_, _, rfl, rfl, ⟨_, _, rfl, rfl, rfl⟩⟩⟩⟩) ?_
  refine VO.cons rfl (V1.it ?_)
  refine VO.nil (V.cond rfl (fun hc0 => ?_) (fun hc0 => ?_))
  ·
   replace hm1 := cond_t hc0 hm1
   replace hm1 := asrt_some hm1; rcases hm1 with ⟨hh0, hm1⟩
   refine V.regionM 62 8 [⟨[(0, none)], [], none⟩, ⟨[(14, some 0)], [], none⟩, ⟨[(15, some 0)], [], none⟩, ⟨[(16, some 0)], [], none⟩, ⟨[(0, none)], [], none⟩, ⟨[(18, some 0)], [], none⟩, ⟨[(19, some 0)], [], none⟩, ⟨[(20, some 0)], [], none⟩] [(0, none), (17, some 4), (21, some 0)] (⟨_, rfl, ⟨_, rfl, ⟨_, rfl, ⟨_, rfl, ⟨_, rfl, ⟨_, rfl, ⟨_, rfl, ⟨_, rfl, ⟨rfl, rfl⟩⟩⟩⟩⟩⟩⟩⟩⟩) mixed_orders rfl (by decide +kernel) (fun hck3 => ?_)
   refine VP.step (p := ?pv113) rfl rfl rfl (⟨_, _, rfl, rfl, rfl⟩) ?hv113 ?rest113 hck3
   case hv113 =>
    intro E1
    refine (V1.mv ?_)
    exact rfl
   refine VP.step (p := ?pv114) rfl rfl rfl (⟨_, _, rfl, rfl, rfl⟩) ?hv114 ?rest114 hck3
   case hv114 =>
    intro E1
    refine (V1.nilRef rfl rfl rfl lt0 ?_)
    exact rfl
   refine VP.step (p := ?pv115) rfl rfl rfl (⟨_, _, rfl, rfl, rfl⟩) ?hv115 ?rest115 hck3
   case hv115 =>
    intro E1
    refine (V1.fieldRef rfl rfl fo_80_0 rfl lt0 ?_)
    exact rfl
   refine VP.step (p := ?pv116) rfl rfl rfl (⟨_, _, rfl, rfl, rfl⟩) ?hv116 ?rest116 hck3
   case hv116 =>
    intro E1
    refine (V1.loadRef (k := 0) rfl rfl tyk_22 rfl rfl rfl rfl rfl lt0 ?_)
    exact rfl
   refine VP.step (p := ?pv117) rfl rfl rfl (⟨_, _, rfl, rfl, rfl⟩) ?hv117 ?rest117 hck3
   case hv117 =>
    intro E1
    refine (V1.mv ?_)
    exact rfl
   refine VP.step (p := ?pv118) rfl rfl rfl (⟨_, _, rfl, rfl, rfl⟩) ?hv118 ?rest118 hck3
   case hv118 =>
    intro E1
    refine (V1.nilRef rfl rfl rfl lt0 ?_)
    exact rfl
   refine VP.step (p := ?pv119) rfl rfl rfl (⟨_, _, rfl, rfl, rfl⟩) ?hv119 ?rest119 hck3
   case hv119 =>
    intro E1
    refine (V1.fieldRef rfl rfl fo_80_1 rfl lt0 ?_)
    exact rfl
   refine VP.step (p := ?pv120) rfl rfl rfl (⟨_, _, rfl, rfl, rfl⟩) ?hv120 ?rest120 hck3
   case hv120 =>
    intro E1
    refine (V1.loadRef (k := 0) rfl rfl tyk_3 rfl rfl rfl rfl rfl lt0 ?_)
    exact rfl
   refine VP.fin rfl (⟨_, _, rfl, rfl, ⟨_, _, rfl, rfl, ⟨_, _, rfl, rfl, rfl⟩⟩⟩) ?_
   refine VO.cons rfl (V1.indexI rfl rfl esz_22 rfl rfl hh0 lt0 ?_)
   refine VO.cons rfl (V1.loadPin rfl rfl tyk_5 rfl rfl lt0 ?_)
   refine VO.cons rfl (V1.conv rfl rfl und_5 und_3 rfl lt0 ?_)
   refine VO.cons rfl (V1.as ?_)
   refine VO.nil ?_
   exact ⟨((IntKind.i64.wrap (c.Code.getD (Int.toNat c.At) default)), ()), oi hm1, Keeps.mk (ks := [0]) rfl ⟨rfl, rfl, trivial⟩ (⟨_, _, rfl, rfl, rfl⟩) rfl⟩
  ·
   replace hm1 := cond_f hc0 hm1
   refine V.skip ?_
   exact ⟨((0 : Int), ()), oi hm1, Keeps.mk (ks := [0]) rfl ⟨rfl, rfl, trivial⟩ (⟨_, _, rfl, rfl, rfl⟩) rfl⟩
 ·
  rintro ⟨b_, _⟩ rfl
  try dsimp only at hm0
  refine V.seq (V.region (VO.cons rfl (V1.mv ?_)))
  refine VO.cons rfl (V1.nilRef rfl rfl rfl lt0 ?_)
  refine VO.cons rfl (V1.fieldRef rfl rfl fo_80_1 rfl lt0 ?_)
  refine VO.cons rfl (V1.loadRef (k := 0) rfl rfl tyk_3 rfl rfl rfl rfl rfl lt0 ?_)
  refine VO.cons rfl (V1.it ?_)
  refine VO.cons rfl (V1.nilRef rfl rfl rfl lt0 ?_)
  refine VO.cons rfl (V1.fieldRef rfl rfl fo_80_1 rfl lt0 ?_)
  refine VO.cons rfl (V1.storeRef (k := 0) rfl rfl tyk_3 rfl rfl rfl rfl rfl rfl rfl rfl rfl ?_)
  refine VO.nil (V.keep 62 [0, 3] [0] (E0 := [(0, .ref bp 3 0 0), (3, .int .i64 b_)]) (H0 := [(bp, ⟨3, [.agg [.vl ρ0 1 (List.map encU8 c.Code), .int .i64 (IntKind.i64.wrap (c.At + (1 : Int))), .int .u64 c.Seed]]⟩)]) rfl (⟨_, _, rfl, rfl, ⟨_, _, rfl, rfl, rfl⟩⟩) (⟨_, _, rfl, rfl, rfl⟩) rfl ?_)
  refine V.seq (V.region (VO.cons rfl (V1.mv ?_)))
  refine VO.cons rfl (V1.mv ?_)
  refine VO.cons rfl (V1.nilRef rfl rfl rfl lt0 ?_)
  refine VO.cons rfl (V1.fieldRef rfl rfl fo_80_2 rfl lt0 ?_)
  refine VO.cons rfl (V1.loadRef (k := 0) rfl rfl tyk_78 rfl rfl rfl rfl rfl lt0 ?_)
  refine VO.cons rfl (V1.it ?_)
  refine VO.cons rfl (V1.mv ?_)
  refine VO.cons rfl (V1.conv rfl rfl und_3 und_78 rfl lt0 ?_)
  refine VO.cons rfl (V1.it ?_)
  refine VO.cons rfl (V1.it ?_)
  refine VO.cons rfl (V1.nilRef rfl rfl rfl lt0 ?_)
  refine VO.cons rfl (V1.fieldRef rfl rfl fo_80_2 rfl lt0 ?_)
  refine VO.cons rfl (V1.storeRef (k := 0) rfl rfl tyk_78 rfl rfl rfl rfl rfl rfl rfl rfl rfl ?_)
  refine VO.nil (V.keep 62 [0, 3] [0] (E0 := [(0, .ref bp 3 0 0), (3, .int .i64 b_)]) (H0 := [(bp, ⟨3, [.agg [.vl ρ0 1 (List.map encU8 c.Code), .int .i64 (IntKind.i64.wrap (c.At + (1 : Int))), .int .u64 (IntKind.u64.wrap ((IntKind.u64.wrap ((IntKind.u64.wrap (c.Seed * (6364136223846793005 : Int))) + (IntKind.u64.wrap b_))) + (103535 : Int)))]]⟩)]) rfl (⟨_, _, rfl, rfl, ⟨_, _, rfl, rfl, rfl⟩⟩) (⟨_, _, rfl, rfl, rfl⟩) rfl ?_)
  refine V.seq (V.seq (V.regionM 62 9 [⟨[(0, none)], [], none⟩, ⟨[(44, some 0)], [], none⟩, ⟨[(45, some 0)], [], none⟩, ⟨[(46, some 0)], [], none⟩, ⟨[(0, none)], [], none⟩, ⟨[(48, some 0)], [], none⟩, ⟨[(49, some 0)], [], none⟩, ⟨[(50, some 0)], [], none⟩, ⟨[(51, some 0)], [], none⟩] [(0, none), (3, none), (47, some 5), (52, some 0)] (⟨_, rfl, ⟨_, rfl, ⟨_, rfl, ⟨_, rfl, ⟨_, rfl, ⟨_, rfl, ⟨_, rfl, ⟨_, rfl, ⟨_, rfl, ⟨rfl, rfl⟩⟩⟩⟩⟩⟩⟩⟩⟩⟩) mixed_orders rfl (by decide +kernel) (fun hck6 => ?_)))
  refine VP.step (p := ?pv121) rfl rfl rfl (⟨_, _, rfl, rfl, rfl⟩) ?hv121 ?rest121 hck6
  case hv121 =>
   intro E1
   refine (V1.mv ?_)
   exact rfl
  refine VP.step (p := ?pv122) rfl rfl rfl (⟨_, _, rfl, rfl, rfl⟩) ?hv122 ?rest122 hck6
  case hv122 =>
   intro E1
   refine (V1.nilRef rfl rfl rfl lt0 ?_)
   exact rfl
  refine VP.step (p := ?pv123) rfl rfl rfl (⟨_, _, rfl, rfl, rfl⟩) ?hv123 ?rest123 hck6
  case hv123 =>
   intro E1
   refine (V1.fieldRef rfl rfl fo_80_1 rfl lt0 ?_)
   exact rfl
  refine VP.step (p := ?pv124) rfl rfl rfl (⟨_, _, rfl, rfl, rfl⟩) ?hv124 ?rest124 hck6
  case hv124 =>
   intro E1
   refine (V1.loadRef (k := 0) rfl rfl tyk_3 rfl rfl rfl rfl rfl lt0 ?_)
   exact rfl
  refine VP.step (p := ?pv125) rfl rfl rfl (⟨_, _, rfl, rfl, rfl⟩) ?hv125 ?rest125 hck6
  case hv125 =>
   intro E1
   refine (V1.mv ?_)
   exact rfl
  refine VP.step (p := ?pv126) rfl rfl rfl (⟨_, _, rfl, rfl, rfl⟩) ?hv126 ?rest126 hck6
  case hv126 =>
   intro E1
   refine (V1.nilRef rfl rfl rfl lt0 ?_)
   exact rfl
  refine VP.step (p := ?pv127) rfl rfl rfl (⟨_, _, rfl, rfl, rfl⟩) ?hv127 ?rest127 hck6
  case hv127 =>
   intro E1
   refine (V1.fieldRef rfl rfl fo_80_0 rfl lt0 ?_)
   exact rfl
  refine VP.step (p := ?pv128) rfl rfl rfl (⟨_, _, rfl, rfl, rfl⟩) ?hv128 ?rest128 hck6
  case hv128 =>
   intro E1
   refine (V1.loadRef (k := 0) rfl rfl tyk_22 rfl rfl rfl rfl rfl lt0 ?_)
   exact rfl
  refine VP.step (p := ?pv129) rfl rfl rfl (⟨_, _, rfl, rfl, rfl⟩) ?hv129 ?rest129 hck6
  case hv129 =>
   intro E1
   refine (V1.lenMap rfl rfl rfl rfl rfl rfl isl_22 lt0 ?_)
   exact rfl
  refine VP.fin rfl (⟨_, _, rfl, rfl, ⟨_, _, rfl, rfl, ⟨_, _, rfl, rfl, ⟨_, _, rfl, rfl, rfl⟩⟩⟩⟩) ?_
  refine VO.cons rfl (V1.it ?_)
  refine VO.nil (V.cond rfl (fun hc1 => ?_) (fun hc1 => ?_))
  ·
   replace hm0 := cond_t hc1 hm0
   refine V.seq (V.region (VO.cons rfl (V1.mv ?_)))
   refine VO.cons rfl (V1.as ?_)
   refine VO.nil (V.ret ?_)
   obtain rfl := oi hm0
   exact ⟨_, _, ⟨_, _, rfl, rfl, rfl⟩, (sub1 (k := 0) rfl), rfl, rfl⟩
  ·
   replace hm0 := cond_f hc1 hm0
   refine V.skip ?_
   refine V.keep 62 [0] [0] (E0 := [(0, .ref bp 3 0 0)]) (H0 := [(bp, ⟨3, [.agg [.vl ρ0 1 (List.map encU8 c.Code), .int .i64 (IntKind.i64.wrap (c.At + (1 : Int))), .int .u64 (IntKind.u64.wrap ((IntKind.u64.wrap ((IntKind.u64.wrap (c.Seed * (6364136223846793005 : Int))) + (IntKind.u64.wrap b_))) + (103535 : Int)))]]⟩)]) rfl (⟨_, _, rfl, rfl, rfl⟩) (⟨_, _, rfl, rfl, rfl⟩) rfl ?_
   refine V.seq (V.region (VO.cons rfl (V1.mv ?_)))
   refine VO.cons rfl (V1.nilRef rfl rfl rfl lt0 ?_)
   refine VO.cons rfl (V1.fieldRef rfl rfl fo_80_2 rfl lt0 ?_)
   refine VO.cons rfl (V1.loadRef (k := 0) rfl rfl tyk_78 rfl rfl rfl rfl rfl lt0 ?_)
   refine VO.cons rfl (V1.shr rfl rfl rfl rfl (by decide) lt0 ?_)
   refine VO.cons rfl (V1.it ?_)
   refine VO.cons rfl (V1.conv rfl rfl und_78 und_3 rfl lt0 ?_)
   refine VO.cons rfl (V1.as ?_)
   refine VO.nil (V.ret ?_)
   obtain rfl := oi hm0
   exact ⟨_, _, ⟨_, _, rfl, rfl, rfl⟩, (sub1 (k := 0) rfl), rfl, rfl⟩

theorem ok_spec_l1Cur_pick {ρ0 rn bp : Nat} {c : Cur} {n : Int} {r : Int × Cur} (h : M.spec_l1Cur_pick c n = some r) : Does Try.prog 84 [.ref bp 3 0 0, .int .i64 n] [(bp, ⟨3, [encCur ρ0 c]⟩)] rn (fun x H => x = .int .i64 r.1 ∧ H = [(bp, ⟨3, [encCur ρ0 r.2]⟩)]) := by
 have hm0 := h; clear h; unfold M.spec_l1Cur_pick at hm0
 try dsimp only at hm0
 refine Does.intro (N := 20) Try.func84 rfl rfl rfl rfl ?_
 intro w0 S0
 refine V.seq (V.region (VO.cons rfl (V1.as ?_)))
 refine VO.nil (V.seq (V.seq (V.region (VO.cons rfl (V1.mv ?_)))))
 refine VO.cons rfl (V1.it ?_)
 refine VO.nil (V.cond rfl (fun hc0 => ?_) (fun hc0 => ?_))
 ·
  replace hm0 := cond_t hc0 hm0
  refine V.seq (V.region (VO.cons rfl (V1.as ?_)))
  refine VO.nil (V.ret ?_)
  obtain rfl := oi hm0
  exact ⟨_, _, ⟨_, _, rfl, rfl, rfl⟩, (sub1 (k := 0) rfl), rfl, rfl⟩
 ·
  replace hm0 := cond_f hc0 hm0
  refine V.skip ?_
  refine V.seq ?_
  replace hm0 := bindO hm0; rcases hm0 with ⟨y0, hh0, hm0⟩
  refine V.region (VO.cons rfl (V1.mv ?_))
  refine VO.cons rfl (V1.callM 0 (rn + ρ0 + 1) [] [.ref bp 3 0 0] (p := (bp, ⟨3, [encCur ρ0 c]⟩)) rfl rfl rfl cok_116 rfl rfl ⟨_, _, rfl, .same _, rfl⟩ bwNil (ok_spec_l1Cur_next hh0) rfl (.inl rfl) lt0 ?_)
  rintro _ _ ⟨rfl, rfl⟩
  refine VO.cons rfl (V1.as ?_)
  refine VO.nil (V.keep 20 [0, 1, 5] [0] (E0 := [(0, .ref bp 3 0 0), (1, .int .i64 n), (5, .int .i64 y0.1)]) (H0 := [(bp, ⟨3, [encCur ρ0 y0.2]⟩)]) rfl (⟨_, _, rfl, rfl, ⟨_, _, rfl, rfl, ⟨_, _, rfl, rfl, rfl⟩⟩⟩) (⟨_, _, rfl, rfl, rfl⟩) rfl ?_)
  refine V.seq ?_
  replace hm0 := bindO hm0; rcases hm0 with ⟨j0, hm1, hm0⟩
  refine V.cutT (D := (Int × Cur) × (Unit)) (fun ⟨⟨x, c_⟩, _⟩ => ⟨20, [(5, .int .i64 x), (1, .int .i64 n)], [(bp, ⟨3, [encCur ρ0 c_]⟩)]⟩) (fun ⟨⟨x, c_⟩, _⟩ => ((x, c_) = j0)) ?_ ?_
  ·
   refine V.seq (V.region (VO.cons rfl (V1.mv ?_)))
   refine VO.cons rfl (V1.it ?_)
   refine VO.nil (V.cond rfl (fun hc1 => ?_) (fun hc1 => ?_))
   ·
    replace hm1 := cond_t hc1 hm1
    replace hm1 := bindO hm1; rcases hm1 with ⟨y1, hh1, hm1⟩
    refine V.region (VO.cons rfl (V1.mv ?_))
    refine VO.cons rfl (V1.it ?_)
    refine VO.cons rfl (V1.mv ?_)
    refine VO.cons rfl (V1.callM 0 (rn + ρ0 + 1) [] [.ref bp 3 0 0] (p := (bp, ⟨3, [encCur ρ0 y0.2]⟩)) rfl rfl rfl cok_116 rfl rfl ⟨_, _, rfl, .same _, rfl⟩ bwNil (ok_spec_l1Cur_next hh1) rfl (.inl rfl) lt0 ?_)
    rintro _ _ ⟨rfl, rfl⟩
    refine VO.cons rfl (V1.it ?_)
    refine VO.cons rfl (V1.as ?_)
    refine VO.nil ?_
    exact ⟨(((IntKind.i64.wrap ((IntKind.i64.wrap (y0.1 * (256 : Int))) + y1.1)), y1.2), ()), oi hm1, Keeps.mk (ks := [0]) rfl ⟨rfl, rfl, trivial⟩ (⟨_, _, rfl, rfl, rfl⟩) rfl⟩
   ·
    replace hm1 := cond_f hc1 hm1
    refine V.skip ?_
    exact ⟨((y0.1, y0.2), ()), oi hm1, Keeps.mk (ks := [0]) rfl ⟨rfl, rfl, trivial⟩ (⟨_, _, rfl, rfl, rfl⟩) rfl⟩
  ·
   rintro ⟨⟨x, c_⟩, _⟩ rfl
   try dsimp only at hm0
   refine V.seq ?_
   replace hm0 := asrt_some hm0; rcases hm0 with ⟨hh2, hm0⟩
   refine V.region (VO.cons rfl (V1.mv ?_))
   refine VO.cons rfl (V1.mv ?_)
   refine VO.cons rfl (V1.rem rfl rfl rfl rfl (hh2) lt0 ?_)
   refine VO.cons rfl (V1.as ?_)
   refine VO.nil (V.ret ?_)
   obtain rfl := oi hm0
   exact ⟨_, _, ⟨_, _, rfl, rfl, rfl⟩, (sub1 (k := 0) rfl), rfl, rfl⟩

theorem ok_spec_l1Cur_among {ρ0 ρ1 rn bp : Nat} {c : Cur} {list : List Int} {r : Int × Cur} (h : M.spec_l1Cur_among c list = some r) : Does Try.prog 50 [.ref bp 3 0 0, .vl ρ1 1 (List.map encInt list)] [(bp, ⟨3, [encCur ρ0 c]⟩)] rn (fun x H => x = .int .i64 r.1 ∧ H = [(bp, ⟨3, [encCur ρ0 r.2]⟩)]) := by
 have hm0 := h; clear h; unfold M.spec_l1Cur_among at hm0
 try dsimp only at hm0
 refine Does.intro (N := 12) Try.func50 rfl rfl rfl rfl ?_
 intro w0 S0
 refine V.seq (V.region (VO.cons rfl (V1.as ?_)))
 refine VO.nil (V.seq ?_)
 replace hm0 := bindO hm0; rcases hm0 with ⟨y0, hh0, hm0⟩
 replace hm0 := asrt_some hm0; rcases hm0 with ⟨hh1, hm0⟩
 refine V.region (VO.cons rfl (V1.mv ?_))
 refine VO.cons rfl (V1.mv ?_)
 refine VO.cons rfl (V1.mv ?_)
 refine VO.cons rfl (V1.lenMap rfl rfl rfl rfl rfl rfl isl_69 lt0 ?_)
 refine VO.cons rfl (V1.callM 0 (rn + ρ0 + 1) [] [.ref bp 3 0 0, .int .i64 (list.length : Int)] (p := (bp, ⟨3, [encCur ρ0 c]⟩)) rfl rfl rfl cok_84 rfl rfl ⟨_, _, rfl, .same _, ⟨_, _, rfl, .same _, rfl⟩⟩ bwNil (ok_spec_l1Cur_pick hh0) rfl (.inl rfl) lt0 ?_)
 rintro _ _ ⟨rfl, rfl⟩
 refine VO.cons rfl (V1.indexI rfl rfl esz_69 rfl rfl hh1 lt0 ?_)
 refine VO.cons rfl (V1.loadPin rfl rfl tyk_3 rfl rfl lt0 ?_)
 refine VO.cons rfl (V1.as ?_)
 refine VO.nil (V.ret ?_)
 obtain rfl := oi hm0
 exact ⟨_, _, ⟨_, _, rfl, rfl, rfl⟩, (sub1 (k := 0) rfl), rfl, rfl⟩

theorem ok_spec_l1Cur_one {ρ0 rn bp : Nat} {c : Cur} {n : Int} {r : Bool × Cur} (h : M.spec_l1Cur_one c n = some r) : Does Try.prog 83 [.ref bp 3 0 0, .int .i64 n] [(bp, ⟨3, [encCur ρ0 c]⟩)] rn (fun x H => x = .bool r.1 ∧ H = [(bp, ⟨3, [encCur ρ0 r.2]⟩)]) := by
 have hm0 := h; clear h; unfold M.spec_l1Cur_one at hm0
 try dsimp only at hm0
 refine Does.intro (N := 9) Try.func83 rfl rfl rfl rfl ?_
 intro w0 S0
 refine V.seq (V.region (VO.cons rfl (V1.as ?_)))
 refine VO.nil (V.seq ?_)
 replace hm0 := bindO hm0; rcases hm0 with ⟨y0, hh0, hm0⟩
 refine V.region (VO.cons rfl (V1.mv ?_))
 refine VO.cons rfl (V1.mv ?_)
 refine VO.cons rfl (V1.callM 0 (rn + ρ0 + 1) [] [.ref bp 3 0 0, .int .i64 n] (p := (bp, ⟨3, [encCur ρ0 c]⟩)) rfl rfl rfl cok_84 rfl rfl ⟨_, _, rfl, .same _, ⟨_, _, rfl, .same _, rfl⟩⟩ bwNil (ok_spec_l1Cur_pick hh0) rfl (.inl rfl) lt0 ?_)
 rintro _ _ ⟨rfl, rfl⟩
 refine VO.cons rfl (V1.it ?_)
 refine VO.cons rfl (V1.as ?_)
 refine VO.nil (V.ret ?_)
 obtain rfl := oi hm0
 exact ⟨_, _, ⟨_, _, rfl, rfl, rfl⟩, (sub1 (k := 0) rfl), rfl, rfl⟩

theorem ok_spec_l1Cur_record {ρ0 rn bp : Nat} {c : Cur} {id_ : Int} {r : Record × Cur} (h : M.spec_l1Cur_record c id_ = some r) : Does Try.prog 67 [.ref bp 3 0 0, .int .i64 id_] [(bp, ⟨3, [encCur ρ0 c]⟩)] rn (fun x H => x = encRecord rn r.1 ∧ H = [(bp, ⟨3, [encCur ρ0 r.2]⟩)]) := by
 have hm0 := h; clear h; unfold M.spec_l1Cur_record at hm0
 try dsimp only at hm0
 refine Does.intro (N := 64) Try.func67 rfl rfl rfl rfl ?_
 intro w0 S0
 refine V.seq (V.region (VO.cons rfl (V1.alloc rfl rfl zk_44 lt0 ?_)))
 intro b0
 refine VO.nil (V.seq ?_)
 replace hm0 := bindO hm0; rcases hm0 with ⟨y0, hh0, hm0⟩
 replace hm0 := bindO hm0; rcases hm0 with ⟨y1, hh1, hm0⟩
 refine V.region (VO.cons rfl (V1.mv ?_))
 refine VO.cons rfl (V1.mv ?_)
 refine VO.cons rfl (V1.buildSliceT (f := encInt) ([(1 : Int), (2 : Int), (3 : Int), (3 : Int), (7 : Int), (99 : Int)] : List Int) rfl rfl esz_69 zk_3 rfl rfl rfl rfl rfl rfl rfl lt0 ?_)
 intro b1
 refine VO.cons rfl (V1.callM 2 (rn + ρ0 + 1) [b1] [.ref bp 3 0 0, .vl (rn + ρ0 + 1) 1 (List.map encInt ([(1 : Int), (2 : Int), (3 : Int), (3 : Int), (7 : Int), (99 : Int)] : List Int))] (p := (bp, ⟨3, [encCur ρ0 c]⟩)) rfl rfl rfl cok_50 rfl rfl ⟨_, _, rfl, .same _, ⟨_, _, rfl, Lend.srMap 0 rfl (fun _ => rfl) (.head _), rfl⟩⟩ (bwCons (k := 0) rfl bwNil) (ok_spec_l1Cur_among hh0) rfl (.inr ⟨(by first | omega | (dsimp only; omega)), by rintro _ _ ⟨rfl, rfl⟩; exact ⟨by simp [PV.no, PV.noL, optS_no, noL_iff, nbeq] <;> omega, by intro b ob h; first | exact optH_no (noL_map (fun _ => by simp [PV.no, PV.noL, noL_iff, nbeq]) _) b ob h | (simp only [List.append_assoc, List.mem_append, List.mem_cons, List.mem_singleton, List.not_mem_nil, or_false, Prod.mk.injEq] at h; rcases h with ⟨rfl, rfl⟩ | ⟨rfl, rfl⟩ <;> first | exact noL_map (fun _ => by simp [PV.no, PV.noL, noL_iff, nbeq]) _ | (simp [PV.no, PV.noL, optS_no, noL_iff, nbeq] <;> omega)) | (simp at h; obtain ⟨rfl, rfl⟩ := h; exact noL_map (fun _ => by simp [PV.no, PV.noL, noL_iff, nbeq]) _) | (simp at h; obtain ⟨rfl, rfl⟩ := h; simp [PV.no, PV.noL, optS_no, noL_iff, nbeq] <;> omega)⟩⟩) lt0 ?_)
 rintro _ _ ⟨rfl, rfl⟩
 refine VO.cons rfl (V1.mv ?_)
 refine VO.cons rfl (V1.buildSliceT (f := encInt) ([(0 : Int), (100 : Int), (100 : Int), (500 : Int), (3000 : Int)] : List Int) rfl rfl esz_69 zk_3 rfl rfl rfl rfl rfl rfl rfl lt0 ?_)
 intro b2
 refine VO.cons rfl (V1.callM 1 (rn + ρ0 + 1) [b2] [.ref bp 3 0 0, .vl (rn + ρ0 + 1) 1 (List.map encInt ([(0 : Int), (100 : Int), (100 : Int), (500 : Int), (3000 : Int)] : List Int))] (p := (bp, ⟨3, [encCur ρ0 y0.2]⟩)) rfl rfl rfl cok_50 rfl rfl ⟨_, _, rfl, .same _, ⟨_, _, rfl, Lend.srMap 0 rfl (fun _ => rfl) (.head _), rfl⟩⟩ (bwCons (k := 0) rfl bwNil) (ok_spec_l1Cur_among hh1) rfl (.inr ⟨(by first | omega | (dsimp only; omega)), by rintro _ _ ⟨rfl, rfl⟩; exact ⟨by simp [PV.no, PV.noL, optS_no, noL_iff, nbeq] <;> omega, by intro b ob h; first | exact optH_no (noL_map (fun _ => by simp [PV.no, PV.noL, noL_iff, nbeq]) _) b ob h | (simp only [List.append_assoc, List.mem_append, List.mem_cons, List.mem_singleton, List.not_mem_nil, or_false, Prod.mk.injEq] at h; rcases h with ⟨rfl, rfl⟩ | ⟨rfl, rfl⟩ <;> first | exact noL_map (fun _ => by simp [PV.no, PV.noL, noL_iff, nbeq]) _ | (simp [PV.no, PV.noL, optS_no, noL_iff, nbeq] <;> omega)) | (simp at h; obtain ⟨rfl, rfl⟩ := h; exact noL_map (fun _ => by simp [PV.no, PV.noL, noL_iff, nbeq]) _) | (simp at h; obtain ⟨rfl, rfl⟩ := h; simp [PV.no, PV.noL, optS_no, noL_iff, nbeq] <;> omega)⟩⟩) lt0 ?_)
 rintro _ _ ⟨rfl, rfl⟩
 refine VO.cons rfl (V1.buildSliceT (f := encEvent) ([] : List Event) rfl rfl esz_42 zk_46 rfl rfl rfl rfl rfl rfl rfl lt0 ?_)
 intro b3
 refine VO.cons rfl (V1.build rfl rfl zk_44 pl_44 rfl rfl lt0 ?_)
 refine VO.cons rfl (V1.alloc rfl rfl zk_44 lt0 ?_)
 intro b4
 refine VO.cons rfl (V1.storeRefAll (k := 0) rfl rfl tyk_44 rfl rfl rfl rfl rfl rfl ?_)
 refine VO.nil (V.keep 64 [0, 4, 5] [0, 1, 2, 5] (E0 := [(0, .ref bp 3 0 0), (4, .ref b0 4 0 0), (5, .ref b4 4 0 0)]) (H0 := [(b4, ⟨4, [.agg [.int .i64 id_, .int .i64 y0.1, .int .i64 y1.1, .sref b3 2 0 (List.length ([] : List Event))]]⟩), (b3, ⟨2, List.map encEvent ([] : List Event)⟩), (bp, ⟨3, [encCur ρ0 y1.2]⟩), (b0, ⟨4, [.agg [.int .i64 (0 : Int), .int .i64 (0 : Int), .int .i64 (0 : Int), .nils]]⟩)]) rfl (⟨_, _, rfl, rfl, ⟨_, _, rfl, rfl, ⟨_, _, rfl, rfl, rfl⟩⟩⟩) (⟨_, _, rfl, rfl, ⟨_, _, rfl, rfl, ⟨_, _, rfl, rfl, ⟨_, _, rfl, rfl, rfl⟩⟩⟩⟩) rfl ?_)
 refine V.seq (V.seq (V.region (VO.cons rfl (V1.as ?_))))
 refine VO.nil ?_
 replace hm0 := bindO hm0; rcases hm0 with ⟨e0, he1, hm0⟩
 refine V.cutT (D := (List Event × Cur) × (Nat)) (fun ⟨⟨r_Events, c_⟩, b5⟩ => ⟨64, [(0, .ref bp 3 0 0), (4, .ref b0 4 0 0), (5, .ref b4 4 0 0)], [(b5, ⟨2, List.map encEvent r_Events⟩), (bp, ⟨3, [encCur ρ0 c_]⟩), (b4, ⟨4, [.agg [.int .i64 id_, .int .i64 y0.1, .int .i64 y1.1, .sref b5 2 0 (List.length r_Events)]]⟩), (b0, ⟨4, [.agg [.int .i64 (0 : Int), .int .i64 (0 : Int), .int .i64 (0 : Int), .nils]]⟩)]⟩) (fun ⟨⟨r_Events, c_⟩, b5⟩ => ((r_Events, c_) = e0)) ?_ ?_
 ·
  refine V.block ?_
  refine V.keep 64 [6, 0, 4, 5] [1, 2, 0, 3] (E0 := [(6, .int .i64 (1 : Int)), (0, .ref bp 3 0 0), (4, .ref b0 4 0 0), (5, .ref b4 4 0 0)]) (H0 := [(b3, ⟨2, List.map encEvent ([] : List Event)⟩), (bp, ⟨3, [encCur ρ0 y1.2]⟩), (b4, ⟨4, [.agg [.int .i64 id_, .int .i64 y0.1, .int .i64 y1.1, .sref b3 2 0 (List.length ([] : List Event))]]⟩), (b0, ⟨4, [.agg [.int .i64 (0 : Int), .int .i64 (0 : Int), .int .i64 (0 : Int), .nils]]⟩)]) rfl (⟨_, _, rfl, rfl, ⟨_, _, rfl, rfl, ⟨_, _, rfl, rfl, ⟨_, _, rfl, rfl, rfl⟩⟩⟩⟩) (⟨_, _, rfl, rfl, ⟨_, _, rfl, rfl, ⟨_, _, rfl, rfl, ⟨_, _, rfl, rfl, rfl⟩⟩⟩⟩) rfl ?_
  refine V.loopE (D := Nat × (Int × List Event × Cur) × (Nat)) (fun ⟨n0, ⟨k, r_Events0, c_0⟩, b6⟩ => [(6, .int .i64 k)]) (fun ⟨n0, ⟨k, r_Events0, c_0⟩, b6⟩ => [(b6, ⟨2, List.map encEvent r_Events0⟩), (bp, ⟨3, [encCur ρ0 c_0]⟩), (b4, ⟨4, [.agg [.int .i64 id_, .int .i64 y0.1, .int .i64 y1.1, .sref b6 2 0 (List.length r_Events0)]]⟩)]) (fun ⟨n0, ⟨k, r_Events0, c_0⟩, b6⟩ => loopO (M.spec_l1Cur_record_l0 y1) n0 (k, r_Events0, c_0) = some e0) (fun ⟨n0, _, _⟩ => n0) (rounds, ((1 : Int), ([] : List Event), y1.2), b3) rfl he1 ?_
  rintro ⟨n0, ⟨k, r_Events0, c_0⟩, b6⟩ hP0
  obtain ⟨m0, y2, rfl, hm1, hl1, hr1⟩ := loop_head hP0
  unfold M.spec_l1Cur_record_l0 at hm1; dsimp only at hm1
  show V _ _ _ ⟨64, [(6, .int .i64 k), (0, .ref bp 3 0 0), (4, .ref b0 4 0 0), (5, .ref b4 4 0 0)], [(b6, ⟨2, List.map encEvent r_Events0⟩), (bp, ⟨3, [encCur ρ0 c_0]⟩), (b4, ⟨4, [.agg [.int .i64 id_, .int .i64 y0.1, .int .i64 y1.1, .sref b6 2 0 (List.length r_Events0)]]⟩), (b0, ⟨4, [.agg [.int .i64 (0 : Int), .int .i64 (0 : Int), .int .i64 (0 : Int), .nils]]⟩)]⟩
  refine V.seq (V.seq (V.region (VO.cons rfl (V1.mv ?_))))
  refine VO.cons rfl (V1.it ?_)
  refine VO.nil (V.cond rfl (fun hc0 => ?_) (fun hc0 => ?_))
  ·
   replace hm1 := cond_t hc0 hm1
   refine V.skip ?_
   refine V.seq ?_
   replace hm1 := bindO hm1; rcases hm1 with ⟨j0, hm2, hm1⟩
   refine V.cutT (D := (List Event × Cur) × (Nat)) (fun ⟨⟨r_Events1, c_1⟩, b7⟩ => ⟨64, [(0, .ref bp 3 0 0), (4, .ref b0 4 0 0), (5, .ref b4 4 0 0), (6, .int .i64 k)], [(b7, ⟨2, List.map encEvent r_Events1⟩), (bp, ⟨3, [encCur ρ0 c_1]⟩), (b4, ⟨4, [.agg [.int .i64 id_, .int .i64 y0.1, .int .i64 y1.1, .sref b7 2 0 (List.length r_Events1)]]⟩), (b0, ⟨4, [.agg [.int .i64 (0 : Int), .int .i64 (0 : Int), .int .i64 (0 : Int), .nils]]⟩)]⟩) (fun ⟨⟨r_Events1, c_1⟩, b7⟩ => ((r_Events1, c_1) = j0)) ?_ ?_
   ·
    refine V.block ?_
    refine V.seq ?_
    replace hm2 := bindO hm2; rcases hm2 with ⟨y3, hh2, hm2⟩
    refine V.region (VO.cons rfl (V1.mv ?_))
    refine VO.cons rfl (V1.callM 1 (rn + ρ0 + 1) [] [.ref bp 3 0 0, .int .i64 (3 : Int)] (p := (bp, ⟨3, [encCur ρ0 c_0]⟩)) rfl rfl rfl cok_83 rfl rfl ⟨_, _, rfl, .same _, ⟨_, _, rfl, .same _, rfl⟩⟩ bwNil (ok_spec_l1Cur_one hh2) rfl (.inl rfl) lt0 ?_)
    rintro _ _ ⟨rfl, rfl⟩
    refine VO.nil (V.cond rfl (fun hc1 => ?_) (fun hc1 => ?_))
    ·
     replace hm2 := cond_t hc1 hm2
     replace hm2 := bindO hm2; rcases hm2 with ⟨y4, hh3, hm2⟩
     replace hm2 := asrt_some hm2; rcases hm2 with ⟨hh4, hm2⟩
     replace hm2 := bindO hm2; rcases hm2 with ⟨j1, hm3, hm2⟩
     refine V.cutT (D := (List Event × Cur) × (Nat)) (fun ⟨⟨r_Events2, c_2⟩, b11⟩ => ⟨64, [(0, .ref bp 3 0 0), (4, .ref b0 4 0 0), (5, .ref b4 4 0 0), (6, .int .i64 k)], [(b11, ⟨2, List.map encEvent r_Events2⟩), (bp, ⟨3, [encCur ρ0 c_2]⟩), (b4, ⟨4, [.agg [.int .i64 id_, .int .i64 y0.1, .int .i64 y1.1, .sref b11 2 0 (List.length r_Events2)]]⟩), (b0, ⟨4, [.agg [.int .i64 (0 : Int), .int .i64 (0 : Int), .int .i64 (0 : Int), .nils]]⟩)]⟩) (fun ⟨⟨r_Events2, c_2⟩, b11⟩ => ((r_Events2, c_2) = j1)) ?_ ?_
     ·
      refine V.regionS [] 64 11 [⟨[(5, none)], false⟩, ⟨[(22, some 0)], true⟩, ⟨[(6, none)], false⟩, ⟨[(5, none)], false⟩, ⟨[(25, some 3)], true⟩, ⟨[(0, none)], false⟩, ⟨[], true⟩, ⟨[(27, some 5), (28, some 6)], true⟩, ⟨[(26, some 4), (29, some 7)], false⟩, ⟨[(24, some 2), (30, some 8)], false⟩, ⟨[(31, some 9)], true⟩] [(0, none), (4, none), (5, none), (6, none), (23, some 1), (32, some 10)] 5 (⟨_, rfl, ⟨_, rfl, ⟨_, rfl, ⟨_, rfl, ⟨_, rfl, ⟨_, rfl, ⟨_, rfl, ⟨_, rfl, ⟨_, rfl, ⟨_, rfl, ⟨_, rfl, ⟨rfl, rfl⟩⟩⟩⟩⟩⟩⟩⟩⟩⟩⟩⟩) mixed_orders rfl (by decide +kernel) ?_
      refine WalkP.step (p := ?pv1461) 0 rfl rfl rfl rfl rfl (⟨_, _, rfl, rfl, rfl⟩) ?hv1461 ?rest1461
      case hv1461 =>
       intro E1 H1 hI1
       refine (V1.fieldRef rfl rfl fo_44_3 rfl lt0 ?_)
       exact rfl
      refine WalkP.step (p := ?pv1462) 2 rfl rfl rfl rfl rfl (⟨_, _, rfl, rfl, rfl⟩) ?hv1462 ?rest1462
      case hv1462 =>
       intro E1 H1 hI1
       refine (V1.mv ?_)
       exact rfl
      refine WalkP.step (p := ?pv1463) 3 rfl rfl rfl rfl rfl (⟨_, _, rfl, rfl, rfl⟩) ?hv1463 ?rest1463
      case hv1463 =>
       intro E1 H1 hI1
       refine (V1.fieldRef rfl rfl fo_44_2 rfl lt0 ?_)
       exact rfl
      refine WalkP.step (p := ?pv1464) 5 rfl rfl rfl rfl rfl (⟨_, _, rfl, rfl, rfl⟩) ?hv1464 ?rest1464
      case hv1464 =>
       intro E1 H1 hI1
       refine (V1.mv ?_)
       exact rfl
      refine WalkP.nil (NodeS.branch [1, 4, 6] inNil rfl rfl rfl ⟨?_, ?_, ?_, trivial⟩)
      ·
       refine ⟨_, _, _, _, rfl, rfl, rfl, (⟨_, _, rfl, rfl, rfl⟩), fun E1 => ?_⟩
       refine (V1.loadRef (k := 2) rfl rfl tyk_42 rfl rfl rfl rfl rfl lt0 ?_)
       refine ⟨_, _, rfl, ?_⟩
       refine WalkP.nil (NodeS.branch [4, 6] inNil rfl rfl rfl ⟨?_, ?_, trivial⟩)
       ·
        refine ⟨_, _, _, _, rfl, rfl, rfl, (⟨_, _, rfl, rfl, rfl⟩), fun E1 => ?_⟩
        refine (V1.loadRef (k := 2) rfl rfl tyk_3 rfl rfl rfl rfl rfl lt0 ?_)
        refine ⟨_, _, rfl, ?_⟩
        refine WalkP.nil (NodeS.branch [6] inNil rfl rfl rfl ⟨?_, trivial⟩)
        ·
         refine ⟨_, _, _, _, rfl, rfl, rfl, (rfl), fun E1 => ?_⟩
         refine (V1.buildSliceT (f := encInt) ([(0 : Int), (1 : Int), (30 : Int), (365 : Int), (1000 : Int)] : List Int) rfl rfl esz_69 zk_3 rfl rfl rfl rfl rfl rfl rfl lt0 ?_)
         intro b12
         refine ⟨_, _, rfl, ?_⟩
         refine WalkP.nil (NodeS.branch [7] inNil rfl rfl rfl ⟨?_, trivial⟩)
         ·
          refine ⟨_, _, _, _, rfl, rfl, rfl, (⟨_, _, rfl, rfl, ⟨_, _, rfl, rfl, rfl⟩⟩), fun E1 => ?_⟩
          refine (V1.callM 1 (rn + ρ0 + 1) [b12] [.ref bp 3 0 0, .vl (rn + ρ0 + 1) 1 (List.map encInt ([(0 : Int), (1 : Int), (30 : Int), (365 : Int), (1000 : Int)] : List Int))] (p := (bp, ⟨3, [encCur ρ0 y3.2]⟩)) rfl rfl rfl cok_50 rfl rfl ⟨_, _, rfl, .same _, ⟨_, _, rfl, Lend.srMap 0 rfl (fun _ => rfl) (.head _), rfl⟩⟩ (bwCons (k := 0) rfl bwNil) (ok_spec_l1Cur_among hh3) rfl (.inr ⟨(by first | omega | (dsimp only; omega)), by rintro _ _ ⟨rfl, rfl⟩; exact ⟨by simp [PV.no, PV.noL, optS_no, noL_iff, nbeq] <;> omega, by intro b ob h; first | exact optH_no (noL_map (fun _ => by simp [PV.no, PV.noL, noL_iff, nbeq]) _) b ob h | (simp only [List.append_assoc, List.mem_append, List.mem_cons, List.mem_singleton, List.not_mem_nil, or_false, Prod.mk.injEq] at h; rcases h with ⟨rfl, rfl⟩ | ⟨rfl, rfl⟩ <;> first | exact noL_map (fun _ => by simp [PV.no, PV.noL, noL_iff, nbeq]) _ | (simp [PV.no, PV.noL, optS_no, noL_iff, nbeq] <;> omega)) | (simp at h; obtain ⟨rfl, rfl⟩ := h; exact noL_map (fun _ => by simp [PV.no, PV.noL, noL_iff, nbeq]) _) | (simp at h; obtain ⟨rfl, rfl⟩ := h; simp [PV.no, PV.noL, optS_no, noL_iff, nbeq] <;> omega)⟩⟩) lt0 ?_)
          rintro _ _ ⟨rfl, rfl⟩
          refine ⟨_, _, rfl, ?_⟩
          refine WalkP.step (p := ?pv1465) 8 rfl rfl rfl rfl rfl (⟨_, _, rfl, rfl, ⟨_, _, rfl, rfl, rfl⟩⟩) ?hv1465 ?rest1465
          case hv1465 =>
           intro E1 H1 hI1
           refine (V1.it ?_)
           exact rfl
          refine WalkP.step (p := ?pv1466) 9 rfl rfl rfl rfl rfl (⟨_, _, rfl, rfl, ⟨_, _, rfl, rfl, rfl⟩⟩) ?hv1466 ?rest1466
          case hv1466 =>
           intro E1 H1 hI1
           refine (V1.build rfl rfl zk_46 pl_46 rfl rfl lt0 ?_)
           exact rfl
          refine WalkP.nil (NodeS.branch [10] inNil rfl rfl rfl ⟨?_, trivial⟩)
          ·
           refine ⟨_, _, _, _, rfl, rfl, rfl, (⟨_, _, rfl, rfl, rfl⟩), fun E1 => ?_⟩
           refine (V1.buildSliceT (f := encEvent) ([(⟨k, (IntKind.i64.wrap (y1.1 + y4.1))⟩ : Event)] : List Event) rfl rfl esz_42 zk_46 rfl rfl rfl rfl rfl rfl rfl lt0 ?_)
           intro b13
           refine ⟨_, _, rfl, ?_⟩
           refine WalkP.nil (NodeS.fin inNil rfl rfl rfl (⟨_, _, rfl, rfl, ⟨_, _, rfl, rfl, ⟨_, _, rfl, rfl, ⟨_, _, rfl, rfl, ⟨_, _, rfl, rfl, ⟨_, _, rfl, rfl, rfl⟩⟩⟩⟩⟩⟩) ?_)
           refine VO.cons rfl (V1.appendMap (k := 3) (f := encEvent) (l := r_Events0) (m := ([(⟨k, (IntKind.i64.wrap (y1.1 + y4.1))⟩ : Event)] : List Event)) rfl rfl rfl rfl rfl esz_42 eby_42 zk_46 rfl rfl rfl (SrcOf.srMap (k := 0) rfl isl_42) hh4 lt0 ?_)
           intro b14
           refine VO.cons rfl (V1.fieldRef rfl rfl fo_44_3 rfl lt0 ?_)
           refine VO.cons rfl (V1.storeRef (k := 4) rfl rfl tyk_42 rfl rfl rfl rfl rfl rfl rfl rfl rfl ?_)
           refine VO.nil ?_
           exact ⟨(((r_Events0 ++ ([(⟨k, (IntKind.i64.wrap (y1.1 + y4.1))⟩ : Event)] : List Event)), y4.2), b14), oi hm3, Keeps.mk (ks := [0, 2, 4, 5]) rfl ⟨rfl, rfl, rfl, rfl, trivial⟩ (⟨_, _, rfl, rfl, ⟨_, _, rfl, rfl, ⟨_, _, rfl, rfl, ⟨_, _, rfl, rfl, rfl⟩⟩⟩⟩) rfl⟩
       ·
        refine ⟨_, _, _, _, rfl, rfl, rfl, (rfl), fun E1 => ?_⟩
        refine (V1.buildSliceT (f := encInt) ([(0 : Int), (1 : Int), (30 : Int), (365 : Int), (1000 : Int)] : List Int) rfl rfl esz_69 zk_3 rfl rfl rfl rfl rfl rfl rfl lt0 ?_)
        intro b15
        refine ⟨_, _, rfl, ?_⟩
        refine WalkP.nil (NodeS.branch [4, 7] inNil rfl rfl rfl ⟨?_, ?_, trivial⟩)
        ·
         refine ⟨_, _, _, _, rfl, rfl, rfl, (⟨_, _, rfl, rfl, rfl⟩), fun E1 => ?_⟩
         refine (V1.loadRef (k := 3) rfl rfl tyk_3 rfl rfl rfl rfl rfl lt0 ?_)
         refine ⟨_, _, rfl, ?_⟩
         refine WalkP.nil (NodeS.branch [7] inNil rfl rfl rfl ⟨?_, trivial⟩)
         ·
          refine ⟨_, _, _, _, rfl, rfl, rfl, (⟨_, _, rfl, rfl, ⟨_, _, rfl, rfl, rfl⟩⟩), fun E1 => ?_⟩
          refine (V1.callM 1 (rn + ρ0 + 1) [b15] [.ref bp 3 0 0, .vl (rn + ρ0 + 1) 1 (List.map encInt ([(0 : Int), (1 : Int), (30 : Int), (365 : Int), (1000 : Int)] : List Int))] (p := (bp, ⟨3, [encCur ρ0 y3.2]⟩)) rfl rfl rfl cok_50 rfl rfl ⟨_, _, rfl, .same _, ⟨_, _, rfl, Lend.srMap 0 rfl (fun _ => rfl) (.head _), rfl⟩⟩ (bwCons (k := 0) rfl bwNil) (ok_spec_l1Cur_among hh3) rfl (.inr ⟨(by first | omega | (dsimp only; omega)), by rintro _ _ ⟨rfl, rfl⟩; exact ⟨by simp [PV.no, PV.noL, optS_no, noL_iff, nbeq] <;> omega, by intro b ob h; first | exact optH_no (noL_map (fun _ => by simp [PV.no, PV.noL, noL_iff, nbeq]) _) b ob h | (simp only [List.append_assoc, List.mem_append, List.mem_cons, List.mem_singleton, List.not_mem_nil, or_false, Prod.mk.injEq] at h; rcases h with ⟨rfl, rfl⟩ | ⟨rfl, rfl⟩ <;> first | exact noL_map (fun _ => by simp [PV.no, PV.noL, noL_iff, nbeq]) _ | (simp [PV.no, PV.noL, optS_no, noL_iff, nbeq] <;> omega)) | (simp at h; obtain ⟨rfl, rfl⟩ := h; exact noL_map (fun _ => by simp [PV.no, PV.noL, noL_iff, nbeq]) _) | (simp at h; obtain ⟨rfl, rfl⟩ := h; simp [PV.no, PV.noL, optS_no, noL_iff, nbeq] <;> omega)⟩⟩) lt0 ?_)
          rintro _ _ ⟨rfl, rfl⟩
          refine ⟨_, _, rfl, ?_⟩
          refine WalkP.step (p := ?pv1467) 8 rfl rfl rfl rfl rfl (⟨_, _, rfl, rfl, ⟨_, _, rfl, rfl, rfl⟩⟩) ?hv1467 ?rest1467
          case hv1467 =>
           intro E1 H1 hI1
           refine (V1.it ?_)
           exact rfl
          refine WalkP.step (p := ?pv1468) 9 rfl rfl rfl rfl rfl (⟨_, _, rfl, rfl, ⟨_, _, rfl, rfl, rfl⟩⟩) ?hv1468 ?rest1468
          case hv1468 =>
           intro E1 H1 hI1
           refine (V1.build rfl rfl zk_46 pl_46 rfl rfl lt0 ?_)
           exact rfl
          refine WalkP.nil (NodeS.branch [10] inNil rfl rfl rfl ⟨?_, trivial⟩)
          ·
           refine ⟨_, _, _, _, rfl, rfl, rfl, (⟨_, _, rfl, rfl, rfl⟩), fun E1 => ?_⟩
           refine (V1.buildSliceT (f := encEvent) ([(⟨k, (IntKind.i64.wrap (y1.1 + y4.1))⟩ : Event)] : List Event) rfl rfl esz_42 zk_46 rfl rfl rfl rfl rfl rfl rfl lt0 ?_)
           intro b16
           refine ⟨_, _, rfl, ?_⟩
           refine WalkP.nil (NodeS.fin inNil rfl rfl rfl (⟨_, _, rfl, rfl, ⟨_, _, rfl, rfl, ⟨_, _, rfl, rfl, ⟨_, _, rfl, rfl, ⟨_, _, rfl, rfl, ⟨_, _, rfl, rfl, rfl⟩⟩⟩⟩⟩⟩) ?_)
           refine VO.cons rfl (V1.appendMap (k := 3) (f := encEvent) (l := r_Events0) (m := ([(⟨k, (IntKind.i64.wrap (y1.1 + y4.1))⟩ : Event)] : List Event)) rfl rfl rfl rfl rfl esz_42 eby_42 zk_46 rfl rfl rfl (SrcOf.srMap (k := 0) rfl isl_42) hh4 lt0 ?_)
           intro b17
           refine VO.cons rfl (V1.fieldRef rfl rfl fo_44_3 rfl lt0 ?_)
           refine VO.cons rfl (V1.storeRef (k := 4) rfl rfl tyk_42 rfl rfl rfl rfl rfl rfl rfl rfl rfl ?_)
           refine VO.nil ?_
           exact ⟨(((r_Events0 ++ ([(⟨k, (IntKind.i64.wrap (y1.1 + y4.1))⟩ : Event)] : List Event)), y4.2), b17), oi hm3, Keeps.mk (ks := [0, 2, 4, 5]) rfl ⟨rfl, rfl, rfl, rfl, trivial⟩ (⟨_, _, rfl, rfl, ⟨_, _, rfl, rfl, ⟨_, _, rfl, rfl, ⟨_, _, rfl, rfl, rfl⟩⟩⟩⟩) rfl⟩
        ·
         refine ⟨_, _, _, _, rfl, rfl, rfl, (⟨_, _, rfl, rfl, ⟨_, _, rfl, rfl, rfl⟩⟩), fun E1 => ?_⟩
         refine (V1.callM 1 (rn + ρ0 + 1) [b15] [.ref bp 3 0 0, .vl (rn + ρ0 + 1) 1 (List.map encInt ([(0 : Int), (1 : Int), (30 : Int), (365 : Int), (1000 : Int)] : List Int))] (p := (bp, ⟨3, [encCur ρ0 y3.2]⟩)) rfl rfl rfl cok_50 rfl rfl ⟨_, _, rfl, .same _, ⟨_, _, rfl, Lend.srMap 0 rfl (fun _ => rfl) (.head _), rfl⟩⟩ (bwCons (k := 0) rfl bwNil) (ok_spec_l1Cur_among hh3) rfl (.inr ⟨(by first | omega | (dsimp only; omega)), by rintro _ _ ⟨rfl, rfl⟩; exact ⟨by simp [PV.no, PV.noL, optS_no, noL_iff, nbeq] <;> omega, by intro b ob h; first | exact optH_no (noL_map (fun _ => by simp [PV.no, PV.noL, noL_iff, nbeq]) _) b ob h | (simp only [List.append_assoc, List.mem_append, List.mem_cons, List.mem_singleton, List.not_mem_nil, or_false, Prod.mk.injEq] at h; rcases h with ⟨rfl, rfl⟩ | ⟨rfl, rfl⟩ <;> first | exact noL_map (fun _ => by simp [PV.no, PV.noL, noL_iff, nbeq]) _ | (simp [PV.no, PV.noL, optS_no, noL_iff, nbeq] <;> omega)) | (simp at h; obtain ⟨rfl, rfl⟩ := h; exact noL_map (fun _ => by simp [PV.no, PV.noL, noL_iff, nbeq]) _) | (simp at h; obtain ⟨rfl, rfl⟩ := h; simp [PV.no, PV.noL, optS_no, noL_iff, nbeq] <;> omega)⟩⟩) lt0 ?_)
         rintro _ _ ⟨rfl, rfl⟩
         refine ⟨_, _, rfl, ?_⟩
         refine WalkP.nil (NodeS.branch [4] inNil rfl rfl rfl ⟨?_, trivial⟩)
         ·
          refine ⟨_, _, _, _, rfl, rfl, rfl, (⟨_, _, rfl, rfl, rfl⟩), fun E1 => ?_⟩
          refine (V1.loadRef (k := 3) rfl rfl tyk_3 rfl rfl rfl rfl rfl lt0 ?_)
          refine ⟨_, _, rfl, ?_⟩
          refine WalkP.step (p := ?pv1469) 8 rfl rfl rfl rfl rfl (⟨_, _, rfl, rfl, ⟨_, _, rfl, rfl, rfl⟩⟩) ?hv1469 ?rest1469
          case hv1469 =>
           intro E1 H1 hI1
           refine (V1.it ?_)
           exact rfl
          refine WalkP.step (p := ?pv1470) 9 rfl rfl rfl rfl rfl (⟨_, _, rfl, rfl, ⟨_, _, rfl, rfl, rfl⟩⟩) ?hv1470 ?rest1470
          case hv1470 =>
           intro E1 H1 hI1
           refine (V1.build rfl rfl zk_46 pl_46 rfl rfl lt0 ?_)
           exact rfl
          refine WalkP.nil (NodeS.branch [10] inNil rfl rfl rfl ⟨?_, trivial⟩)
          ·
           refine ⟨_, _, _, _, rfl, rfl, rfl, (⟨_, _, rfl, rfl, rfl⟩), fun E1 => ?_⟩
           refine (V1.buildSliceT (f := encEvent) ([(⟨k, (IntKind.i64.wrap (y1.1 + y4.1))⟩ : Event)] : List Event) rfl rfl esz_42 zk_46 rfl rfl rfl rfl rfl rfl rfl lt0 ?_)
           intro b18
           refine ⟨_, _, rfl, ?_⟩
           refine WalkP.nil (NodeS.fin inNil rfl rfl rfl (⟨_, _, rfl, rfl, ⟨_, _, rfl, rfl, ⟨_, _, rfl, rfl, ⟨_, _, rfl, rfl, ⟨_, _, rfl, rfl, ⟨_, _, rfl, rfl, rfl⟩⟩⟩⟩⟩⟩) ?_)
           refine VO.cons rfl (V1.appendMap (k := 3) (f := encEvent) (l := r_Events0) (m := ([(⟨k, (IntKind.i64.wrap (y1.1 + y4.1))⟩ : Event)] : List Event)) rfl rfl rfl rfl rfl esz_42 eby_42 zk_46 rfl rfl rfl (SrcOf.srMap (k := 0) rfl isl_42) hh4 lt0 ?_)
           intro b19
           refine VO.cons rfl (V1.fieldRef rfl rfl fo_44_3 rfl lt0 ?_)
           refine VO.cons rfl (V1.storeRef (k := 4) rfl rfl tyk_42 rfl rfl rfl rfl rfl rfl rfl rfl rfl ?_)
           refine VO.nil ?_
           exact ⟨(((r_Events0 ++ ([(⟨k, (IntKind.i64.wrap (y1.1 + y4.1))⟩ : Event)] : List Event)), y4.2), b19), oi hm3, Keeps.mk (ks := [0, 2, 4, 5]) rfl ⟨rfl, rfl, rfl, rfl, trivial⟩ (⟨_, _, rfl, rfl, ⟨_, _, rfl, rfl, ⟨_, _, rfl, rfl, ⟨_, _, rfl, rfl, rfl⟩⟩⟩⟩) rfl⟩
      ·
       refine ⟨_, _, _, _, rfl, rfl, rfl, (⟨_, _, rfl, rfl, rfl⟩), fun E1 => ?_⟩
       refine (V1.loadRef (k := 2) rfl rfl tyk_3 rfl rfl rfl rfl rfl lt0 ?_)
       refine ⟨_, _, rfl, ?_⟩
       refine WalkP.nil (NodeS.branch [1, 6] inNil rfl rfl rfl ⟨?_, ?_, trivial⟩)
       ·
        refine ⟨_, _, _, _, rfl, rfl, rfl, (⟨_, _, rfl, rfl, rfl⟩), fun E1 => ?_⟩
        refine (V1.loadRef (k := 2) rfl rfl tyk_42 rfl rfl rfl rfl rfl lt0 ?_)
        refine ⟨_, _, rfl, ?_⟩
        refine WalkP.nil (NodeS.branch [6] inNil rfl rfl rfl ⟨?_, trivial⟩)
        ·
         refine ⟨_, _, _, _, rfl, rfl, rfl, (rfl), fun E1 => ?_⟩
         refine (V1.buildSliceT (f := encInt) ([(0 : Int), (1 : Int), (30 : Int), (365 : Int), (1000 : Int)] : List Int) rfl rfl esz_69 zk_3 rfl rfl rfl rfl rfl rfl rfl lt0 ?_)
         intro b20
         refine ⟨_, _, rfl, ?_⟩
         refine WalkP.nil (NodeS.branch [7] inNil rfl rfl rfl ⟨?_, trivial⟩)
         ·
          refine ⟨_, _, _, _, rfl, rfl, rfl, (⟨_, _, rfl, rfl, ⟨_, _, rfl, rfl, rfl⟩⟩), fun E1 => ?_⟩
          refine (V1.callM 1 (rn + ρ0 + 1) [b20] [.ref bp 3 0 0, .vl (rn + ρ0 + 1) 1 (List.map encInt ([(0 : Int), (1 : Int), (30 : Int), (365 : Int), (1000 : Int)] : List Int))] (p := (bp, ⟨3, [encCur ρ0 y3.2]⟩)) rfl rfl rfl cok_50 rfl rfl ⟨_, _, rfl, .same _, ⟨_, _, rfl, Lend.srMap 0 rfl (fun _ => rfl) (.head _), rfl⟩⟩ (bwCons (k := 0) rfl bwNil) (ok_spec_l1Cur_among hh3) rfl (.inr ⟨(by first | omega | (dsimp only; omega)), by rintro _ _ ⟨rfl, rfl⟩; exact ⟨by simp [PV.no, PV.noL, optS_no, noL_iff, nbeq] <;> omega, by intro b ob h; first | exact optH_no (noL_map (fun _ => by simp [PV.no, PV.noL, noL_iff, nbeq]) _) b ob h | (simp only [List.append_assoc, List.mem_append, List.mem_cons, List.mem_singleton, List.not_mem_nil, or_false, Prod.mk.injEq] at h; rcases h with ⟨rfl, rfl⟩ | ⟨rfl, rfl⟩ <;> first | exact noL_map (fun _ => by simp [PV.no, PV.noL, noL_iff, nbeq]) _ | (simp [PV.no, PV.noL, optS_no, noL_iff, nbeq] <;> omega)) | (simp at h; obtain ⟨rfl, rfl⟩ := h; exact noL_map (fun _ => by simp [PV.no, PV.noL, noL_iff, nbeq]) _) | (simp at h; obtain ⟨rfl, rfl⟩ := h; simp [PV.no, PV.noL, optS_no, noL_iff, nbeq] <;> omega)⟩⟩) lt0 ?_)
          rintro _ _ ⟨rfl, rfl⟩
          refine ⟨_, _, rfl, ?_⟩
          refine WalkP.step (p := ?pv1471) 8 rfl rfl rfl rfl rfl (⟨_, _, rfl, rfl, ⟨_, _, rfl, rfl, rfl⟩⟩) ?hv1471 ?rest1471
          case hv1471 =>
           intro E1 H1 hI1
           refine (V1.it ?_)
           exact rfl
          refine WalkP.step (p := ?pv1472) 9 rfl rfl rfl rfl rfl (⟨_, _, rfl, rfl, ⟨_, _, rfl, rfl, rfl⟩⟩) ?hv1472 ?rest1472
          case hv1472 =>
           intro E1 H1 hI1
           refine (V1.build rfl rfl zk_46 pl_46 rfl rfl lt0 ?_)
           exact rfl
          refine WalkP.nil (NodeS.branch [10] inNil rfl rfl rfl ⟨?_, trivial⟩)
          ·
           refine ⟨_, _, _, _, rfl, rfl, rfl, (⟨_, _, rfl, rfl, rfl⟩), fun E1 => ?_⟩
           refine (V1.buildSliceT (f := encEvent) ([(⟨k, (IntKind.i64.wrap (y1.1 + y4.1))⟩ : Event)] : List Event) rfl rfl esz_42 zk_46 rfl rfl rfl rfl rfl rfl rfl lt0 ?_)
           intro b21
           refine ⟨_, _, rfl, ?_⟩
           refine WalkP.nil (NodeS.fin inNil rfl rfl rfl (⟨_, _, rfl, rfl, ⟨_, _, rfl, rfl, ⟨_, _, rfl, rfl, ⟨_, _, rfl, rfl, ⟨_, _, rfl, rfl, ⟨_, _, rfl, rfl, rfl⟩⟩⟩⟩⟩⟩) ?_)
           refine VO.cons rfl (V1.appendMap (k := 3) (f := encEvent) (l := r_Events0) (m := ([(⟨k, (IntKind.i64.wrap (y1.1 + y4.1))⟩ : Event)] : List Event)) rfl rfl rfl rfl rfl esz_42 eby_42 zk_46 rfl rfl rfl (SrcOf.srMap (k := 0) rfl isl_42) hh4 lt0 ?_)
           intro b22
           refine VO.cons rfl (V1.fieldRef rfl rfl fo_44_3 rfl lt0 ?_)
           refine VO.cons rfl (V1.storeRef (k := 4) rfl rfl tyk_42 rfl rfl rfl rfl rfl rfl rfl rfl rfl ?_)
           refine VO.nil ?_
           exact ⟨(((r_Events0 ++ ([(⟨k, (IntKind.i64.wrap (y1.1 + y4.1))⟩ : Event)] : List Event)), y4.2), b22), oi hm3, Keeps.mk (ks := [0, 2, 4, 5]) rfl ⟨rfl, rfl, rfl, rfl, trivial⟩ (⟨_, _, rfl, rfl, ⟨_, _, rfl, rfl, ⟨_, _, rfl, rfl, ⟨_, _, rfl, rfl, rfl⟩⟩⟩⟩) rfl⟩
       ·
        refine ⟨_, _, _, _, rfl, rfl, rfl, (rfl), fun E1 => ?_⟩
        refine (V1.buildSliceT (f := encInt) ([(0 : Int), (1 : Int), (30 : Int), (365 : Int), (1000 : Int)] : List Int) rfl rfl esz_69 zk_3 rfl rfl rfl rfl rfl rfl rfl lt0 ?_)
        intro b23
        refine ⟨_, _, rfl, ?_⟩
        refine WalkP.nil (NodeS.branch [1, 7] inNil rfl rfl rfl ⟨?_, ?_, trivial⟩)
        ·
         refine ⟨_, _, _, _, rfl, rfl, rfl, (⟨_, _, rfl, rfl, rfl⟩), fun E1 => ?_⟩
         refine (V1.loadRef (k := 3) rfl rfl tyk_42 rfl rfl rfl rfl rfl lt0 ?_)
         refine ⟨_, _, rfl, ?_⟩
         refine WalkP.nil (NodeS.branch [7] inNil rfl rfl rfl ⟨?_, trivial⟩)
         ·
          refine ⟨_, _, _, _, rfl, rfl, rfl, (⟨_, _, rfl, rfl, ⟨_, _, rfl, rfl, rfl⟩⟩), fun E1 => ?_⟩
          refine (V1.callM 1 (rn + ρ0 + 1) [b23] [.ref bp 3 0 0, .vl (rn + ρ0 + 1) 1 (List.map encInt ([(0 : Int), (1 : Int), (30 : Int), (365 : Int), (1000 : Int)] : List Int))] (p := (bp, ⟨3, [encCur ρ0 y3.2]⟩)) rfl rfl rfl cok_50 rfl rfl ⟨_, _, rfl, .same _, ⟨_, _, rfl, Lend.srMap 0 rfl (fun _ => rfl) (.head _), rfl⟩⟩ (bwCons (k := 0) rfl bwNil) (ok_spec_l1Cur_among hh3) rfl (.inr ⟨(by first | omega | (dsimp only; omega)), by rintro _ _ ⟨rfl, rfl⟩; exact ⟨by simp [PV.no, PV.noL, optS_no, noL_iff, nbeq] <;> omega, by intro b ob h; first | exact optH_no (noL_map (fun _ => by simp [PV.no, PV.noL, noL_iff, nbeq]) _) b ob h | (simp only [List.append_assoc, List.mem_append, List.mem_cons, List.mem_singleton, List.not_mem_nil, or_false, Prod.mk.injEq] at h; rcases h with ⟨rfl, rfl⟩ | ⟨rfl, rfl⟩ <;> first | exact noL_map (fun _ => by simp [PV.no, PV.noL, noL_iff, nbeq]) _ | (simp [PV.no, PV.noL, optS_no, noL_iff, nbeq] <;> omega)) | (simp at h; obtain ⟨rfl, rfl⟩ := h; exact noL_map (fun _ => by simp [PV.no, PV.noL, noL_iff, nbeq]) _) | (simp at h; obtain ⟨rfl, rfl⟩ := h; simp [PV.no, PV.noL, optS_no, noL_iff, nbeq] <;> omega)⟩⟩) lt0 ?_)
          rintro _ _ ⟨rfl, rfl⟩
          refine ⟨_, _, rfl, ?_⟩
          refine WalkP.step (p := ?pv1473) 8 rfl rfl rfl rfl rfl (⟨_, _, rfl, rfl, ⟨_, _, rfl, rfl, rfl⟩⟩) ?hv1473 ?rest1473
          case hv1473 =>
           intro E1 H1 hI1
           refine (V1.it ?_)
           exact rfl
          refine WalkP.step (p := ?pv1474) 9 rfl rfl rfl rfl rfl (⟨_, _, rfl, rfl, ⟨_, _, rfl, rfl, rfl⟩⟩) ?hv1474 ?rest1474
          case hv1474 =>
           intro E1 H1 hI1
           refine (V1.build rfl rfl zk_46 pl_46 rfl rfl lt0 ?_)
           exact rfl
          refine WalkP.nil (NodeS.branch [10] inNil rfl rfl rfl ⟨?_, trivial⟩)
          ·
           refine ⟨_, _, _, _, rfl, rfl, rfl, (⟨_, _, rfl, rfl, rfl⟩), fun E1 => ?_⟩
           refine (V1.buildSliceT (f := encEvent) ([(⟨k, (IntKind.i64.wrap (y1.1 + y4.1))⟩ : Event)] : List Event) rfl rfl esz_42 zk_46 rfl rfl rfl rfl rfl rfl rfl lt0 ?_)
           intro b24
           refine ⟨_, _, rfl, ?_⟩
           refine WalkP.nil (NodeS.fin inNil rfl rfl rfl (⟨_, _, rfl, rfl, ⟨_, _, rfl, rfl, ⟨_, _, rfl, rfl, ⟨_, _, rfl, rfl, ⟨_, _, rfl, rfl, ⟨_, _, rfl, rfl, rfl⟩⟩⟩⟩⟩⟩) ?_)
           refine VO.cons rfl (V1.appendMap (k := 3) (f := encEvent) (l := r_Events0) (m := ([(⟨k, (IntKind.i64.wrap (y1.1 + y4.1))⟩ : Event)] : List Event)) rfl rfl rfl rfl rfl esz_42 eby_42 zk_46 rfl rfl rfl (SrcOf.srMap (k := 0) rfl isl_42) hh4 lt0 ?_)
           intro b25
           refine VO.cons rfl (V1.fieldRef rfl rfl fo_44_3 rfl lt0 ?_)
           refine VO.cons rfl (V1.storeRef (k := 4) rfl rfl tyk_42 rfl rfl rfl rfl rfl rfl rfl rfl rfl ?_)
           refine VO.nil ?_
           exact ⟨(((r_Events0 ++ ([(⟨k, (IntKind.i64.wrap (y1.1 + y4.1))⟩ : Event)] : List Event)), y4.2), b25), oi hm3, Keeps.mk (ks := [0, 2, 4, 5]) rfl ⟨rfl, rfl, rfl, rfl, trivial⟩ (⟨_, _, rfl, rfl, ⟨_, _, rfl, rfl, ⟨_, _, rfl, rfl, ⟨_, _, rfl, rfl, rfl⟩⟩⟩⟩) rfl⟩
        ·
         refine ⟨_, _, _, _, rfl, rfl, rfl, (⟨_, _, rfl, rfl, ⟨_, _, rfl, rfl, rfl⟩⟩), fun E1 => ?_⟩
         refine (V1.callM 1 (rn + ρ0 + 1) [b23] [.ref bp 3 0 0, .vl (rn + ρ0 + 1) 1 (List.map encInt ([(0 : Int), (1 : Int), (30 : Int), (365 : Int), (1000 : Int)] : List Int))] (p := (bp, ⟨3, [encCur ρ0 y3.2]⟩)) rfl rfl rfl cok_50 rfl rfl ⟨_, _, rfl, .same _, ⟨_, _, rfl, Lend.srMap 0 rfl (fun _ => rfl) (.head _), rfl⟩⟩ (bwCons (k := 0) rfl bwNil) (ok_spec_l1Cur_among hh3) rfl (.inr ⟨(by first | omega | (dsimp only; omega)), by rintro _ _ ⟨rfl, rfl⟩; exact ⟨by simp [PV.no, PV.noL, optS_no, noL_iff, nbeq] <;> omega, by intro b ob h; first | exact optH_no (noL_map (fun _ => by simp [PV.no, PV.noL, noL_iff, nbeq]) _) b ob h | (simp only [List.append_assoc, List.mem_append, List.mem_cons, List.mem_singleton, List.not_mem_nil, or_false, Prod.mk.injEq] at h; rcases h with ⟨rfl, rfl⟩ | ⟨rfl, rfl⟩ <;> first | exact noL_map (fun _ => by simp [PV.no, PV.noL, noL_iff, nbeq]) _ | (simp [PV.no, PV.noL, optS_no, noL_iff, nbeq] <;> omega)) | (simp at h; obtain ⟨rfl, rfl⟩ := h; exact noL_map (fun _ => by simp [PV.no, PV.noL, noL_iff, nbeq]) _) | (simp at h; obtain ⟨rfl, rfl⟩ := h; simp [PV.no, PV.noL, optS_no, noL_iff, nbeq] <;> omega)⟩⟩) lt0 ?_)
         rintro _ _ ⟨rfl, rfl⟩
         refine ⟨_, _, rfl, ?_⟩
         refine WalkP.step (p := ?pv1475) 8 rfl rfl rfl rfl rfl (⟨_, _, rfl, rfl, ⟨_, _, rfl, rfl, rfl⟩⟩) ?hv1475 ?rest1475
         case hv1475 =>
          intro E1 H1 hI1
          refine (V1.it ?_)
          exact rfl
         refine WalkP.step (p := ?pv1476) 9 rfl rfl rfl rfl rfl (⟨_, _, rfl, rfl, ⟨_, _, rfl, rfl, rfl⟩⟩) ?hv1476 ?rest1476
         case hv1476 =>
          intro E1 H1 hI1
          refine (V1.build rfl rfl zk_46 pl_46 rfl rfl lt0 ?_)
          exact rfl
         refine WalkP.nil (NodeS.branch [1, 10] inNil rfl rfl rfl ⟨?_, ?_, trivial⟩)
         ·
          refine ⟨_, _, _, _, rfl, rfl, rfl, (⟨_, _, rfl, rfl, rfl⟩), fun E1 => ?_⟩
          refine (V1.loadRef (k := 3) rfl rfl tyk_42 rfl rfl rfl rfl rfl lt0 ?_)
          refine ⟨_, _, rfl, ?_⟩
          refine WalkP.nil (NodeS.branch [10] inNil rfl rfl rfl ⟨?_, trivial⟩)
          ·
           refine ⟨_, _, _, _, rfl, rfl, rfl, (⟨_, _, rfl, rfl, rfl⟩), fun E1 => ?_⟩
           refine (V1.buildSliceT (f := encEvent) ([(⟨k, (IntKind.i64.wrap (y1.1 + y4.1))⟩ : Event)] : List Event) rfl rfl esz_42 zk_46 rfl rfl rfl rfl rfl rfl rfl lt0 ?_)
           intro b26
           refine ⟨_, _, rfl, ?_⟩
           refine WalkP.nil (NodeS.fin inNil rfl rfl rfl (⟨_, _, rfl, rfl, ⟨_, _, rfl, rfl, ⟨_, _, rfl, rfl, ⟨_, _, rfl, rfl, ⟨_, _, rfl, rfl, ⟨_, _, rfl, rfl, rfl⟩⟩⟩⟩⟩⟩) ?_)
           refine VO.cons rfl (V1.appendMap (k := 3) (f := encEvent) (l := r_Events0) (m := ([(⟨k, (IntKind.i64.wrap (y1.1 + y4.1))⟩ : Event)] : List Event)) rfl rfl rfl rfl rfl esz_42 eby_42 zk_46 rfl rfl rfl (SrcOf.srMap (k := 0) rfl isl_42) hh4 lt0 ?_)
           intro b27
           refine VO.cons rfl (V1.fieldRef rfl rfl fo_44_3 rfl lt0 ?_)
           refine VO.cons rfl (V1.storeRef (k := 4) rfl rfl tyk_42 rfl rfl rfl rfl rfl rfl rfl rfl rfl ?_)
           refine VO.nil ?_
           exact ⟨(((r_Events0 ++ ([(⟨k, (IntKind.i64.wrap (y1.1 + y4.1))⟩ : Event)] : List Event)), y4.2), b27), oi hm3, Keeps.mk (ks := [0, 2, 4, 5]) rfl ⟨rfl, rfl, rfl, rfl, trivial⟩ (⟨_, _, rfl, rfl, ⟨_, _, rfl, rfl, ⟨_, _, rfl, rfl, ⟨_, _, rfl, rfl, rfl⟩⟩⟩⟩) rfl⟩
         ·
          refine ⟨_, _, _, _, rfl, rfl, rfl, (⟨_, _, rfl, rfl, rfl⟩), fun E1 => ?_⟩
          refine (V1.buildSliceT (f := encEvent) ([(⟨k, (IntKind.i64.wrap (y1.1 + y4.1))⟩ : Event)] : List Event) rfl rfl esz_42 zk_46 rfl rfl rfl rfl rfl rfl rfl lt0 ?_)
          intro b28
          refine ⟨_, _, rfl, ?_⟩
          refine WalkP.nil (NodeS.branch [1] inNil rfl rfl rfl ⟨?_, trivial⟩)
          ·
           refine ⟨_, _, _, _, rfl, rfl, rfl, (⟨_, _, rfl, rfl, rfl⟩), fun E1 => ?_⟩
           refine (V1.loadRef (k := 4) rfl rfl tyk_42 rfl rfl rfl rfl rfl lt0 ?_)
           refine ⟨_, _, rfl, ?_⟩
           refine WalkP.nil (NodeS.fin inNil rfl rfl rfl (⟨_, _, rfl, rfl, ⟨_, _, rfl, rfl, ⟨_, _, rfl, rfl, ⟨_, _, rfl, rfl, ⟨_, _, rfl, rfl, ⟨_, _, rfl, rfl, rfl⟩⟩⟩⟩⟩⟩) ?_)
           refine VO.cons rfl (V1.appendMap (k := 3) (f := encEvent) (l := r_Events0) (m := ([(⟨k, (IntKind.i64.wrap (y1.1 + y4.1))⟩ : Event)] : List Event)) rfl rfl rfl rfl rfl esz_42 eby_42 zk_46 rfl rfl rfl (SrcOf.srMap (k := 0) rfl isl_42) hh4 lt0 ?_)
           intro b29
           refine VO.cons rfl (V1.fieldRef rfl rfl fo_44_3 rfl lt0 ?_)
           refine VO.cons rfl (V1.storeRef (k := 4) rfl rfl tyk_42 rfl rfl rfl rfl rfl rfl rfl rfl rfl ?_)
           refine VO.nil ?_
           exact ⟨(((r_Events0 ++ ([(⟨k, (IntKind.i64.wrap (y1.1 + y4.1))⟩ : Event)] : List Event)), y4.2), b29), oi hm3, Keeps.mk (ks := [0, 2, 4, 5]) rfl ⟨rfl, rfl, rfl, rfl, trivial⟩ (⟨_, _, rfl, rfl, ⟨_, _, rfl, rfl, ⟨_, _, rfl, rfl, ⟨_, _, rfl, rfl, rfl⟩⟩⟩⟩) rfl⟩
      ·
       refine ⟨_, _, _, _, rfl, rfl, rfl, (rfl), fun E1 => ?_⟩
       refine (V1.buildSliceT (f := encInt) ([(0 : Int), (1 : Int), (30 : Int), (365 : Int), (1000 : Int)] : List Int) rfl rfl esz_69 zk_3 rfl rfl rfl rfl rfl rfl rfl lt0 ?_)
       intro b30
       refine ⟨_, _, rfl, ?_⟩
       refine WalkP.nil (NodeS.branch [1, 4, 7] inNil rfl rfl rfl ⟨?_, ?_, ?_, trivial⟩)
       ·
        refine ⟨_, _, _, _, rfl, rfl, rfl, (⟨_, _, rfl, rfl, rfl⟩), fun E1 => ?_⟩
        refine (V1.loadRef (k := 3) rfl rfl tyk_42 rfl rfl rfl rfl rfl lt0 ?_)
        refine ⟨_, _, rfl, ?_⟩
        refine WalkP.nil (NodeS.branch [4, 7] inNil rfl rfl rfl ⟨?_, ?_, trivial⟩)
        ·
         refine ⟨_, _, _, _, rfl, rfl, rfl, (⟨_, _, rfl, rfl, rfl⟩), fun E1 => ?_⟩
         refine (V1.loadRef (k := 3) rfl rfl tyk_3 rfl rfl rfl rfl rfl lt0 ?_)
         refine ⟨_, _, rfl, ?_⟩
         refine WalkP.nil (NodeS.branch [7] inNil rfl rfl rfl ⟨?_, trivial⟩)
         ·
          refine ⟨_, _, _, _, rfl, rfl, rfl, (⟨_, _, rfl, rfl, ⟨_, _, rfl, rfl, rfl⟩⟩), fun E1 => ?_⟩
          refine (V1.callM 1 (rn + ρ0 + 1) [b30] [.ref bp 3 0 0, .vl (rn + ρ0 + 1) 1 (List.map encInt ([(0 : Int), (1 : Int), (30 : Int), (365 : Int), (1000 : Int)] : List Int))] (p := (bp, ⟨3, [encCur ρ0 y3.2]⟩)) rfl rfl rfl cok_50 rfl rfl ⟨_, _, rfl, .same _, ⟨_, _, rfl, Lend.srMap 0 rfl (fun _ => rfl) (.head _), rfl⟩⟩ (bwCons (k := 0) rfl bwNil) (ok_spec_l1Cur_among hh3) rfl (.inr ⟨(by first | omega | (dsimp only; omega)), by rintro _ _ ⟨rfl, rfl⟩; exact ⟨by simp [PV.no, PV.noL, optS_no, noL_iff, nbeq] <;> omega, by intro b ob h; first | exact optH_no (noL_map (fun _ => by simp [PV.no, PV.noL, noL_iff, nbeq]) _) b ob h | (simp only [List.append_assoc, List.mem_append, List.mem_cons, List.mem_singleton, List.not_mem_nil, or_false, Prod.mk.injEq] at h; rcases h with ⟨rfl, rfl⟩ | ⟨rfl, rfl⟩ <;> first | exact noL_map (fun _ => by simp [PV.no, PV.noL, noL_iff, nbeq]) _ | (simp [PV.no, PV.noL, optS_no, noL_iff, nbeq] <;> omega)) | (simp at h; obtain ⟨rfl, rfl⟩ := h; exact noL_map (fun _ => by simp [PV.no, PV.noL, noL_iff, nbeq]) _) | (simp at h; obtain ⟨rfl, rfl⟩ := h; simp [PV.no, PV.noL, optS_no, noL_iff, nbeq] <;> omega)⟩⟩) lt0 ?_)
          rintro _ _ ⟨rfl, rfl⟩
          refine ⟨_, _, rfl, ?_⟩
          refine WalkP.step (p := ?pv1477) 8 rfl rfl rfl rfl rfl (⟨_, _, rfl, rfl, ⟨_, _, rfl, rfl, rfl⟩⟩) ?hv1477 ?rest1477
          case hv1477 =>
           intro E1 H1 hI1
           refine (V1.it ?_)
           exact rfl
          refine WalkP.step (p := ?pv1478) 9 rfl rfl rfl rfl rfl (⟨_, _, rfl, rfl, ⟨_, _, rfl, rfl, rfl⟩⟩) ?hv1478 ?rest1478
          case hv1478 =>
           intro E1 H1 hI1
           refine (V1.build rfl rfl zk_46 pl_46 rfl rfl lt0 ?_)
           exact rfl
          refine WalkP.nil (NodeS.branch [10] inNil rfl rfl rfl ⟨?_, trivial⟩)
          ·
           refine ⟨_, _, _, _, rfl, rfl, rfl, (⟨_, _, rfl, rfl, rfl⟩), fun E1 => ?_⟩
           refine (V1.buildSliceT (f := encEvent) ([(⟨k, (IntKind.i64.wrap (y1.1 + y4.1))⟩ : Event)] : List Event) rfl rfl esz_42 zk_46 rfl rfl rfl rfl rfl rfl rfl lt0 ?_)
           intro b31
           refine ⟨_, _, rfl, ?_⟩
           refine WalkP.nil (NodeS.fin inNil rfl rfl rfl (⟨_, _, rfl, rfl, ⟨_, _, rfl, rfl, ⟨_, _, rfl, rfl, ⟨_, _, rfl, rfl, ⟨_, _, rfl, rfl, ⟨_, _, rfl, rfl, rfl⟩⟩⟩⟩⟩⟩) ?_)
           refine VO.cons rfl (V1.appendMap (k := 3) (f := encEvent) (l := r_Events0) (m := ([(⟨k, (IntKind.i64.wrap (y1.1 + y4.1))⟩ : Event)] : List Event)) rfl rfl rfl rfl rfl esz_42 eby_42 zk_46 rfl rfl rfl (SrcOf.srMap (k := 0) rfl isl_42) hh4 lt0 ?_)
           intro b32
           refine VO.cons rfl (V1.fieldRef rfl rfl fo_44_3 rfl lt0 ?_)
           refine VO.cons rfl (V1.storeRef (k := 4) rfl rfl tyk_42 rfl rfl rfl rfl rfl rfl rfl rfl rfl ?_)
           refine VO.nil ?_
           exact ⟨(((r_Events0 ++ ([(⟨k, (IntKind.i64.wrap (y1.1 + y4.1))⟩ : Event)] : List Event)), y4.2), b32), oi hm3, Keeps.mk (ks := [0, 2, 4, 5]) rfl ⟨rfl, rfl, rfl, rfl, trivial⟩ (⟨_, _, rfl, rfl, ⟨_, _, rfl, rfl, ⟨_, _, rfl, rfl, ⟨_, _, rfl, rfl, rfl⟩⟩⟩⟩) rfl⟩
        ·
         refine ⟨_, _, _, _, rfl, rfl, rfl, (⟨_, _, rfl, rfl, ⟨_, _, rfl, rfl, rfl⟩⟩), fun E1 => ?_⟩
         refine (V1.callM 1 (rn + ρ0 + 1) [b30] [.ref bp 3 0 0, .vl (rn + ρ0 + 1) 1 (List.map encInt ([(0 : Int), (1 : Int), (30 : Int), (365 : Int), (1000 : Int)] : List Int))] (p := (bp, ⟨3, [encCur ρ0 y3.2]⟩)) rfl rfl rfl cok_50 rfl rfl ⟨_, _, rfl, .same _, ⟨_, _, rfl, Lend.srMap 0 rfl (fun _ => rfl) (.head _), rfl⟩⟩ (bwCons (k := 0) rfl bwNil) (ok_spec_l1Cur_among hh3) rfl (.inr ⟨(by first | omega | (dsimp only; omega)), by rintro _ _ ⟨rfl, rfl⟩; exact ⟨by simp [PV.no, PV.noL, optS_no, noL_iff, nbeq] <;> omega, by intro b ob h; first | exact optH_no (noL_map (fun _ => by simp [PV.no, PV.noL, noL_iff, nbeq]) _) b ob h | (simp only [List.append_assoc, List.mem_append, List.mem_cons, List.mem_singleton, List.not_mem_nil, or_false, Prod.mk.injEq] at h; rcases h with ⟨rfl, rfl⟩ | ⟨rfl, rfl⟩ <;> first | exact noL_map (fun _ => by simp [PV.no, PV.noL, noL_iff, nbeq]) _ | (simp [PV.no, PV.noL, optS_no, noL_iff, nbeq] <;> omega)) | (simp at h; obtain ⟨rfl, rfl⟩ := h; exact noL_map (fun _ => by simp [PV.no, PV.noL, noL_iff, nbeq]) _) | (simp at h; obtain ⟨rfl, rfl⟩ := h; simp [PV.no, PV.noL, optS_no, noL_iff, nbeq] <;> omega)⟩⟩) lt0 ?_)
         rintro _ _ ⟨rfl, rfl⟩
         refine ⟨_, _, rfl, ?_⟩
         refine WalkP.nil (NodeS.branch [4] inNil rfl rfl rfl ⟨?_, trivial⟩)
         ·
          refine ⟨_, _, _, _, rfl, rfl, rfl, (⟨_, _, rfl, rfl, rfl⟩), fun E1 => ?_⟩
          refine (V1.loadRef (k := 3) rfl rfl tyk_3 rfl rfl rfl rfl rfl lt0 ?_)
          refine ⟨_, _, rfl, ?_⟩
          refine WalkP.step (p := ?pv1479) 8 rfl rfl rfl rfl rfl (⟨_, _, rfl, rfl, ⟨_, _, rfl, rfl, rfl⟩⟩) ?hv1479 ?rest1479
          case hv1479 =>
           intro E1 H1 hI1
           refine (V1.it ?_)
           exact rfl
          refine WalkP.step (p := ?pv1480) 9 rfl rfl rfl rfl rfl (⟨_, _, rfl, rfl, ⟨_, _, rfl, rfl, rfl⟩⟩) ?hv1480 ?rest1480
          case hv1480 =>
           intro E1 H1 hI1
           refine (V1.build rfl rfl zk_46 pl_46 rfl rfl lt0 ?_)
           exact rfl
          refine WalkP.nil (NodeS.branch [10] inNil rfl rfl rfl ⟨?_, trivial⟩)
          ·
           refine ⟨_, _, _, _, rfl, rfl, rfl, (⟨_, _, rfl, rfl, rfl⟩), fun E1 => ?_⟩
           refine (V1.buildSliceT (f := encEvent) ([(⟨k, (IntKind.i64.wrap (y1.1 + y4.1))⟩ : Event)] : List Event) rfl rfl esz_42 zk_46 rfl rfl rfl rfl rfl rfl rfl lt0 ?_)
           intro b33
           refine ⟨_, _, rfl, ?_⟩
           refine WalkP.nil (NodeS.fin inNil rfl rfl rfl (⟨_, _, rfl, rfl, ⟨_, _, rfl, rfl, ⟨_, _, rfl, rfl, ⟨_, _, rfl, rfl, ⟨_, _, rfl, rfl, ⟨_, _, rfl, rfl, rfl⟩⟩⟩⟩⟩⟩) ?_)
           refine VO.cons rfl (V1.appendMap (k := 3) (f := encEvent) (l := r_Events0) (m := ([(⟨k, (IntKind.i64.wrap (y1.1 + y4.1))⟩ : Event)] : List Event)) rfl rfl rfl rfl rfl esz_42 eby_42 zk_46 rfl rfl rfl (SrcOf.srMap (k := 0) rfl isl_42) hh4 lt0 ?_)
           intro b34
           refine VO.cons rfl (V1.fieldRef rfl rfl fo_44_3 rfl lt0 ?_)
           refine VO.cons rfl (V1.storeRef (k := 4) rfl rfl tyk_42 rfl rfl rfl rfl rfl rfl rfl rfl rfl ?_)
           refine VO.nil ?_
           exact ⟨(((r_Events0 ++ ([(⟨k, (IntKind.i64.wrap (y1.1 + y4.1))⟩ : Event)] : List Event)), y4.2), b34), oi hm3, Keeps.mk (ks := [0, 2, 4, 5]) rfl ⟨rfl, rfl, rfl, rfl, trivial⟩ (⟨_, _, rfl, rfl, ⟨_, _, rfl, rfl, ⟨_, _, rfl, rfl, ⟨_, _, rfl, rfl, rfl⟩⟩⟩⟩) rfl⟩
       ·
        refine ⟨_, _, _, _, rfl, rfl, rfl, (⟨_, _, rfl, rfl, rfl⟩), fun E1 => ?_⟩
        refine (V1.loadRef (k := 3) rfl rfl tyk_3 rfl rfl rfl rfl rfl lt0 ?_)
        refine ⟨_, _, rfl, ?_⟩
        refine WalkP.nil (NodeS.branch [1, 7] inNil rfl rfl rfl ⟨?_, ?_, trivial⟩)
        ·
         refine ⟨_, _, _, _, rfl, rfl, rfl, (⟨_, _, rfl, rfl, rfl⟩), fun E1 => ?_⟩
         refine (V1.loadRef (k := 3) rfl rfl tyk_42 rfl rfl rfl rfl rfl lt0 ?_)
         refine ⟨_, _, rfl, ?_⟩
         refine WalkP.nil (NodeS.branch [7] inNil rfl rfl rfl ⟨?_, trivial⟩)
         ·
          refine ⟨_, _, _, _, rfl, rfl, rfl, (⟨_, _, rfl, rfl, ⟨_, _, rfl, rfl, rfl⟩⟩), fun E1 => ?_⟩
          refine (V1.callM 1 (rn + ρ0 + 1) [b30] [.ref bp 3 0 0, .vl (rn + ρ0 + 1) 1 (List.map encInt ([(0 : Int), (1 : Int), (30 : Int), (365 : Int), (1000 : Int)] : List Int))] (p := (bp, ⟨3, [encCur ρ0 y3.2]⟩)) rfl rfl rfl cok_50 rfl rfl ⟨_, _, rfl, .same _, ⟨_, _, rfl, Lend.srMap 0 rfl (fun _ => rfl) (.head _), rfl⟩⟩ (bwCons (k := 0) rfl bwNil) (ok_spec_l1Cur_among hh3) rfl (.inr ⟨(by first | omega | (dsimp only; omega)), by rintro _ _ ⟨rfl, rfl⟩; exact ⟨by simp [PV.no, PV.noL, optS_no, noL_iff, nbeq] <;> omega, by intro b ob h; first | exact optH_no (noL_map (fun _ => by simp [PV.no, PV.noL, noL_iff, nbeq]) _) b ob h | (simp only [List.append_assoc, List.mem_append, List.mem_cons, List.mem_singleton, List.not_mem_nil, or_false, Prod.mk.injEq] at h; rcases h with ⟨rfl, rfl⟩ | ⟨rfl, rfl⟩ <;> first | exact noL_map (fun _ => by simp [PV.no, PV.noL, noL_iff, nbeq]) _ | (simp [PV.no, PV.noL, optS_no, noL_iff, nbeq] <;> omega)) | (simp at h; obtain ⟨rfl, rfl⟩ := h; exact noL_map (fun _ => by simp [PV.no, PV.noL, noL_iff, nbeq]) _) | (simp at h; obtain ⟨rfl, rfl⟩ := h; simp [PV.no, PV.noL, optS_no, noL_iff, nbeq] <;> omega)⟩⟩) lt0 ?_)
          rintro _ _ ⟨rfl, rfl⟩
          refine ⟨_, _, rfl, ?_⟩
          refine WalkP.step (p := ?pv1481) 8 rfl rfl rfl rfl rfl (⟨_, _, rfl, rfl, ⟨_, _, rfl, rfl, rfl⟩⟩) ?hv1481 ?rest1481
          case hv1481 =>
           intro E1 H1 hI1
           refine (V1.it ?_)
           exact rfl
          refine WalkP.step (p := ?pv1482) 9 rfl rfl rfl rfl rfl (⟨_, _, rfl, rfl, ⟨_, _, rfl, rfl, rfl⟩⟩) ?hv1482 ?rest1482
          case hv1482 =>
           intro E1 H1 hI1
           refine (V1.build rfl rfl zk_46 pl_46 rfl rfl lt0 ?_)
           exact rfl
          refine WalkP.nil (NodeS.branch [10] inNil rfl rfl rfl ⟨?_, trivial⟩)
          ·
           refine ⟨_, _, _, _, rfl, rfl, rfl, (⟨_, _, rfl, rfl, rfl⟩), fun E1 => ?_⟩
           refine (V1.buildSliceT (f := encEvent) ([(⟨k, (IntKind.i64.wrap (y1.1 + y4.1))⟩ : Event)] : List Event) rfl rfl esz_42 zk_46 rfl rfl rfl rfl rfl rfl rfl lt0 ?_)
           intro b35
           refine ⟨_, _, rfl, ?_⟩
           refine WalkP.nil (NodeS.fin inNil rfl rfl rfl (⟨_, _, rfl, rfl, ⟨_, _, rfl, rfl, ⟨_, _, rfl, rfl, ⟨_, _, rfl, rfl, ⟨_, _, rfl, rfl, ⟨_, _, rfl, rfl, rfl⟩⟩⟩⟩⟩⟩) ?_)
           refine VO.cons rfl (V1.appendMap (k := 3) (f := encEvent) (l := r_Events0) (m := ([(⟨k, (IntKind.i64.wrap (y1.1 + y4.1))⟩ : Event)] : List Event)) rfl rfl rfl rfl rfl esz_42 eby_42 zk_46 rfl rfl rfl (SrcOf.srMap (k := 0) rfl isl_42) hh4 lt0 ?_)
           intro b36
           refine VO.cons rfl (V1.fieldRef rfl rfl fo_44_3 rfl lt0 ?_)
           refine VO.cons rfl (V1.storeRef (k := 4) rfl rfl tyk_42 rfl rfl rfl rfl rfl rfl rfl rfl rfl ?_)
           refine VO.nil ?_
           exact ⟨(((r_Events0 ++ ([(⟨k, (IntKind.i64.wrap (y1.1 + y4.1))⟩ : Event)] : List Event)), y4.2), b36), oi hm3, Keeps.mk (ks := [0, 2, 4, 5]) rfl ⟨rfl, rfl, rfl, rfl, trivial⟩ (⟨_, _, rfl, rfl, ⟨_, _, rfl, rfl, ⟨_, _, rfl, rfl, ⟨_, _, rfl, rfl, rfl⟩⟩⟩⟩) rfl⟩
        ·
         refine ⟨_, _, _, _, rfl, rfl, rfl, (⟨_, _, rfl, rfl, ⟨_, _, rfl, rfl, rfl⟩⟩), fun E1 => ?_⟩
         refine (V1.callM 1 (rn + ρ0 + 1) [b30] [.ref bp 3 0 0, .vl (rn + ρ0 + 1) 1 (List.map encInt ([(0 : Int), (1 : Int), (30 : Int), (365 : Int), (1000 : Int)] : List Int))] (p := (bp, ⟨3, [encCur ρ0 y3.2]⟩)) rfl rfl rfl cok_50 rfl rfl ⟨_, _, rfl, .same _, ⟨_, _, rfl, Lend.srMap 0 rfl (fun _ => rfl) (.head _), rfl⟩⟩ (bwCons (k := 0) rfl bwNil) (ok_spec_l1Cur_among hh3) rfl (.inr ⟨(by first | omega | (dsimp only; omega)), by rintro _ _ ⟨rfl, rfl⟩; exact ⟨by simp [PV.no, PV.noL, optS_no, noL_iff, nbeq] <;> omega, by intro b ob h; first | exact optH_no (noL_map (fun _ => by simp [PV.no, PV.noL, noL_iff, nbeq]) _) b ob h | (simp only [List.append_assoc, List.mem_append, List.mem_cons, List.mem_singleton, List.not_mem_nil, or_false, Prod.mk.injEq] at h; rcases h with ⟨rfl, rfl⟩ | ⟨rfl, rfl⟩ <;> first | exact noL_map (fun _ => by simp [PV.no, PV.noL, noL_iff, nbeq]) _ | (simp [PV.no, PV.noL, optS_no, noL_iff, nbeq] <;> omega)) | (simp at h; obtain ⟨rfl, rfl⟩ := h; exact noL_map (fun _ => by simp [PV.no, PV.noL, noL_iff, nbeq]) _) | (simp at h; obtain ⟨rfl, rfl⟩ := h; simp [PV.no, PV.noL, optS_no, noL_iff, nbeq] <;> omega)⟩⟩) lt0 ?_)
         rintro _ _ ⟨rfl, rfl⟩
         refine ⟨_, _, rfl, ?_⟩
         refine WalkP.step (p := ?pv1483) 8 rfl rfl rfl rfl rfl (⟨_, _, rfl, rfl, ⟨_, _, rfl, rfl, rfl⟩⟩) ?hv1483 ?rest1483
         case hv1483 =>
          intro E1 H1 hI1
          refine (V1.it ?_)
          exact rfl
         refine WalkP.step (p := ?pv1484) 9 rfl rfl rfl rfl rfl (⟨_, _, rfl, rfl, ⟨_, _, rfl, rfl, rfl⟩⟩) ?hv1484 ?rest1484
         case hv1484 =>
          intro E1 H1 hI1
          refine (V1.build rfl rfl zk_46 pl_46 rfl rfl lt0 ?_)
          exact rfl
         refine WalkP.nil (NodeS.branch [1, 10] inNil rfl rfl rfl ⟨?_, ?_, trivial⟩)
         ·
          refine ⟨_, _, _, _, rfl, rfl, rfl, (⟨_, _, rfl, rfl, rfl⟩), fun E1 => ?_⟩
          refine (V1.loadRef (k := 3) rfl rfl tyk_42 rfl rfl rfl rfl rfl lt0 ?_)
          refine ⟨_, _, rfl, ?_⟩
          refine WalkP.nil (NodeS.branch [10] inNil rfl rfl rfl ⟨?_, trivial⟩)
          ·
           refine ⟨_, _, _, _, rfl, rfl, rfl, (⟨_, _, rfl, rfl, rfl⟩), fun E1 => ?_⟩
           refine (V1.buildSliceT (f := encEvent) ([(⟨k, (IntKind.i64.wrap (y1.1 + y4.1))⟩ : Event)] : List Event) rfl rfl esz_42 zk_46 rfl rfl rfl rfl rfl rfl rfl lt0 ?_)
           intro b37
           refine ⟨_, _, rfl, ?_⟩
           refine WalkP.nil (NodeS.fin inNil rfl rfl rfl (⟨_, _, rfl, rfl, ⟨_, _, rfl, rfl, ⟨_, _, rfl, rfl, ⟨_, _, rfl, rfl, ⟨_, _, rfl, rfl, ⟨_, _, rfl, rfl, rfl⟩⟩⟩⟩⟩⟩) ?_)
           refine VO.cons rfl (V1.appendMap (k := 3) (f := encEvent) (l := r_Events0) (m := ([(⟨k, (IntKind.i64.wrap (y1.1 + y4.1))⟩ : Event)] : List Event)) rfl rfl rfl rfl rfl esz_42 eby_42 zk_46 rfl rfl rfl (SrcOf.srMap (k := 0) rfl isl_42) hh4 lt0 ?_)
           intro b38
           refine VO.cons rfl (V1.fieldRef rfl rfl fo_44_3 rfl lt0 ?_)
           refine VO.cons rfl (V1.storeRef (k := 4) rfl rfl tyk_42 rfl rfl rfl rfl rfl rfl rfl rfl rfl ?_)
           refine VO.nil ?_
           exact ⟨(((r_Events0 ++ ([(⟨k, (IntKind.i64.wrap (y1.1 + y4.1))⟩ : Event)] : List Event)), y4.2), b38), oi hm3, Keeps.mk (ks := [0, 2, 4, 5]) rfl ⟨rfl, rfl, rfl, rfl, trivial⟩ (⟨_, _, rfl, rfl, ⟨_, _, rfl, rfl, ⟨_, _, rfl, rfl, ⟨_, _, rfl, rfl, rfl⟩⟩⟩⟩) rfl⟩
         ·
          refine ⟨_, _, _, _, rfl, rfl, rfl, (⟨_, _, rfl, rfl, rfl⟩), fun E1 => ?_⟩
          refine (V1.buildSliceT (f := encEvent) ([(⟨k, (IntKind.i64.wrap (y1.1 + y4.1))⟩ : Event)] : List Event) rfl rfl esz_42 zk_46 rfl rfl rfl rfl rfl rfl rfl lt0 ?_)
          intro b39
          refine ⟨_, _, rfl, ?_⟩
          refine WalkP.nil (NodeS.branch [1] inNil rfl rfl rfl ⟨?_, trivial⟩)
          ·
           refine ⟨_, _, _, _, rfl, rfl, rfl, (⟨_, _, rfl, rfl, rfl⟩), fun E1 => ?_⟩
           refine (V1.loadRef (k := 4) rfl rfl tyk_42 rfl rfl rfl rfl rfl lt0 ?_)
           refine ⟨_, _, rfl, ?_⟩
           refine WalkP.nil (NodeS.fin inNil rfl rfl rfl (⟨_, _, rfl, rfl, ⟨_, _, rfl, rfl, ⟨_, _, rfl, rfl, ⟨_, _, rfl, rfl, ⟨_, _, rfl, rfl, ⟨_, _, rfl, rfl, rfl⟩⟩⟩⟩⟩⟩) ?_)
           refine VO.cons rfl (V1.appendMap (k := 3) (f := encEvent) (l := r_Events0) (m := ([(⟨k, (IntKind.i64.wrap (y1.1 + y4.1))⟩ : Event)] : List Event)) rfl rfl rfl rfl rfl esz_42 eby_42 zk_46 rfl rfl rfl (SrcOf.srMap (k := 0) rfl isl_42) hh4 lt0 ?_)
           intro b40
           refine VO.cons rfl (V1.fieldRef rfl rfl fo_44_3 rfl lt0 ?_)
           refine VO.cons rfl (V1.storeRef (k := 4) rfl rfl tyk_42 rfl rfl rfl rfl rfl rfl rfl rfl rfl ?_)
           refine VO.nil ?_
           exact ⟨(((r_Events0 ++ ([(⟨k, (IntKind.i64.wrap (y1.1 + y4.1))⟩ : Event)] : List Event)), y4.2), b40), oi hm3, Keeps.mk (ks := [0, 2, 4, 5]) rfl ⟨rfl, rfl, rfl, rfl, trivial⟩ (⟨_, _, rfl, rfl, ⟨_, _, rfl, rfl, ⟨_, _, rfl, rfl, ⟨_, _, rfl, rfl, rfl⟩⟩⟩⟩) rfl⟩
       ·
        refine ⟨_, _, _, _, rfl, rfl, rfl, (⟨_, _, rfl, rfl, ⟨_, _, rfl, rfl, rfl⟩⟩), fun E1 => ?_⟩
        refine (V1.callM 1 (rn + ρ0 + 1) [b30] [.ref bp 3 0 0, .vl (rn + ρ0 + 1) 1 (List.map encInt ([(0 : Int), (1 : Int), (30 : Int), (365 : Int), (1000 : Int)] : List Int))] (p := (bp, ⟨3, [encCur ρ0 y3.2]⟩)) rfl rfl rfl cok_50 rfl rfl ⟨_, _, rfl, .same _, ⟨_, _, rfl, Lend.srMap 0 rfl (fun _ => rfl) (.head _), rfl⟩⟩ (bwCons (k := 0) rfl bwNil) (ok_spec_l1Cur_among hh3) rfl (.inr ⟨(by first | omega | (dsimp only; omega)), by rintro _ _ ⟨rfl, rfl⟩; exact ⟨by simp [PV.no, PV.noL, optS_no, noL_iff, nbeq] <;> omega, by intro b ob h; first | exact optH_no (noL_map (fun _ => by simp [PV.no, PV.noL, noL_iff, nbeq]) _) b ob h | (simp only [List.append_assoc, List.mem_append, List.mem_cons, List.mem_singleton, List.not_mem_nil, or_false, Prod.mk.injEq] at h; rcases h with ⟨rfl, rfl⟩ | ⟨rfl, rfl⟩ <;> first | exact noL_map (fun _ => by simp [PV.no, PV.noL, noL_iff, nbeq]) _ | (simp [PV.no, PV.noL, optS_no, noL_iff, nbeq] <;> omega)) | (simp at h; obtain ⟨rfl, rfl⟩ := h; exact noL_map (fun _ => by simp [PV.no, PV.noL, noL_iff, nbeq]) _) | (simp at h; obtain ⟨rfl, rfl⟩ := h; simp [PV.no, PV.noL, optS_no, noL_iff, nbeq] <;> omega)⟩⟩) lt0 ?_)
        rintro _ _ ⟨rfl, rfl⟩
        refine ⟨_, _, rfl, ?_⟩
        refine WalkP.nil (NodeS.branch [1, 4] inNil rfl rfl rfl ⟨?_, ?_, trivial⟩)
        ·
         refine ⟨_, _, _, _, rfl, rfl, rfl, (⟨_, _, rfl, rfl, rfl⟩), fun E1 => ?_⟩
         refine (V1.loadRef (k := 3) rfl rfl tyk_42 rfl rfl rfl rfl rfl lt0 ?_)
         refine ⟨_, _, rfl, ?_⟩
         refine WalkP.nil (NodeS.branch [4] inNil rfl rfl rfl ⟨?_, trivial⟩)
         ·
          refine ⟨_, _, _, _, rfl, rfl, rfl, (⟨_, _, rfl, rfl, rfl⟩), fun E1 => ?_⟩
          refine (V1.loadRef (k := 3) rfl rfl tyk_3 rfl rfl rfl rfl rfl lt0 ?_)
          refine ⟨_, _, rfl, ?_⟩
          refine WalkP.step (p := ?pv1485) 8 rfl rfl rfl rfl rfl (⟨_, _, rfl, rfl, ⟨_, _, rfl, rfl, rfl⟩⟩) ?hv1485 ?rest1485
          case hv1485 =>
           intro E1 H1 hI1
           refine (V1.it ?_)
           exact rfl
          refine WalkP.step (p := ?pv1486) 9 rfl rfl rfl rfl rfl (⟨_, _, rfl, rfl, ⟨_, _, rfl, rfl, rfl⟩⟩) ?hv1486 ?rest1486
          case hv1486 =>
           intro E1 H1 hI1
           refine (V1.build rfl rfl zk_46 pl_46 rfl rfl lt0 ?_)
           exact rfl
          refine WalkP.nil (NodeS.branch [10] inNil rfl rfl rfl ⟨?_, trivial⟩)
          ·
           refine ⟨_, _, _, _, rfl, rfl, rfl, (⟨_, _, rfl, rfl, rfl⟩), fun E1 => ?_⟩
           refine (V1.buildSliceT (f := encEvent) ([(⟨k, (IntKind.i64.wrap (y1.1 + y4.1))⟩ : Event)] : List Event) rfl rfl esz_42 zk_46 rfl rfl rfl rfl rfl rfl rfl lt0 ?_)
           intro b41
           refine ⟨_, _, rfl, ?_⟩
           refine WalkP.nil (NodeS.fin inNil rfl rfl rfl (⟨_, _, rfl, rfl, ⟨_, _, rfl, rfl, ⟨_, _, rfl, rfl, ⟨_, _, rfl, rfl, ⟨_, _, rfl, rfl, ⟨_, _, rfl, rfl, rfl⟩⟩⟩⟩⟩⟩) ?_)
           refine VO.cons rfl (V1.appendMap (k := 3) (f := encEvent) (l := r_Events0) (m := ([(⟨k, (IntKind.i64.wrap (y1.1 + y4.1))⟩ : Event)] : List Event)) rfl rfl rfl rfl rfl esz_42 eby_42 zk_46 rfl rfl rfl (SrcOf.srMap (k := 0) rfl isl_42) hh4 lt0 ?_)
           intro b42
           refine VO.cons rfl (V1.fieldRef rfl rfl fo_44_3 rfl lt0 ?_)
           refine VO.cons rfl (V1.storeRef (k := 4) rfl rfl tyk_42 rfl rfl rfl rfl rfl rfl rfl rfl rfl ?_)
           refine VO.nil ?_
           exact ⟨(((r_Events0 ++ ([(⟨k, (IntKind.i64.wrap (y1.1 + y4.1))⟩ : Event)] : List Event)), y4.2), b42), oi hm3, Keeps.mk (ks := [0, 2, 4, 5]) rfl ⟨rfl, rfl, rfl, rfl, trivial⟩ (⟨_, _, rfl, rfl, ⟨_, _, rfl, rfl, ⟨_, _, rfl, rfl, ⟨_, _, rfl, rfl, rfl⟩⟩⟩⟩) rfl⟩
        ·
         refine ⟨_, _, _, _, rfl, rfl, rfl, (⟨_, _, rfl, rfl, rfl⟩), fun E1 => ?_⟩
         refine (V1.loadRef (k := 3) rfl rfl tyk_3 rfl rfl rfl rfl rfl lt0 ?_)
         refine ⟨_, _, rfl, ?_⟩
         refine WalkP.step (p := ?pv1487) 8 rfl rfl rfl rfl rfl (⟨_, _, rfl, rfl, ⟨_, _, rfl, rfl, rfl⟩⟩) ?hv1487 ?rest1487
         case hv1487 =>
          intro E1 H1 hI1
          refine (V1.it ?_)
          exact rfl
         refine WalkP.step (p := ?pv1488) 9 rfl rfl rfl rfl rfl (⟨_, _, rfl, rfl, ⟨_, _, rfl, rfl, rfl⟩⟩) ?hv1488 ?rest1488
         case hv1488 =>
          intro E1 H1 hI1
          refine (V1.build rfl rfl zk_46 pl_46 rfl rfl lt0 ?_)
          exact rfl
         refine WalkP.nil (NodeS.branch [1, 10] inNil rfl rfl rfl ⟨?_, ?_, trivial⟩)
         ·
          refine ⟨_, _, _, _, rfl, rfl, rfl, (⟨_, _, rfl, rfl, rfl⟩), fun E1 => ?_⟩
          refine (V1.loadRef (k := 3) rfl rfl tyk_42 rfl rfl rfl rfl rfl lt0 ?_)
          refine ⟨_, _, rfl, ?_⟩
          refine WalkP.nil (NodeS.branch [10] inNil rfl rfl rfl ⟨?_, trivial⟩)
          ·
           refine ⟨_, _, _, _, rfl, rfl, rfl, (⟨_, _, rfl, rfl, rfl⟩), fun E1 => ?_⟩
           refine (V1.buildSliceT (f := encEvent) ([(⟨k, (IntKind.i64.wrap (y1.1 + y4.1))⟩ : Event)] : List Event) rfl rfl esz_42 zk_46 rfl rfl rfl rfl rfl rfl rfl lt0 ?_)
           intro b43
           refine ⟨_, _, rfl, ?_⟩
           refine WalkP.nil (NodeS.fin inNil rfl rfl rfl (⟨_, _, rfl, rfl, ⟨_, _, rfl, rfl, ⟨_, _, rfl, rfl, ⟨_, _, rfl, rfl, ⟨_, _, rfl, rfl, ⟨_, _, rfl, rfl, rfl⟩⟩⟩⟩⟩⟩) ?_)
           refine VO.cons rfl (V1.appendMap (k := 3) (f := encEvent) (l := r_Events0) (m := ([(⟨k, (IntKind.i64.wrap (y1.1 + y4.1))⟩ : Event)] : List Event)) rfl rfl rfl rfl rfl esz_42 eby_42 zk_46 rfl rfl rfl (SrcOf.srMap (k := 0) rfl isl_42) hh4 lt0 ?_)
           intro b44
           refine VO.cons rfl (V1.fieldRef rfl rfl fo_44_3 rfl lt0 ?_)
           refine VO.cons rfl (V1.storeRef (k := 4) rfl rfl tyk_42 rfl rfl rfl rfl rfl rfl rfl rfl rfl ?_)
           refine VO.nil ?_
           exact ⟨(((r_Events0 ++ ([(⟨k, (IntKind.i64.wrap (y1.1 + y4.1))⟩ : Event)] : List Event)), y4.2), b44), oi hm3, Keeps.mk (ks := [0, 2, 4, 5]) rfl ⟨rfl, rfl, rfl, rfl, trivial⟩ (⟨_, _, rfl, rfl, ⟨_, _, rfl, rfl, ⟨_, _, rfl, rfl, ⟨_, _, rfl, rfl, rfl⟩⟩⟩⟩) rfl⟩
         ·
          refine ⟨_, _, _, _, rfl, rfl, rfl, (⟨_, _, rfl, rfl, rfl⟩), fun E1 => ?_⟩
          refine (V1.buildSliceT (f := encEvent) ([(⟨k, (IntKind.i64.wrap (y1.1 + y4.1))⟩ : Event)] : List Event) rfl rfl esz_42 zk_46 rfl rfl rfl rfl rfl rfl rfl lt0 ?_)
          intro b45
          refine ⟨_, _, rfl, ?_⟩
          refine WalkP.nil (NodeS.branch [1] inNil rfl rfl rfl ⟨?_, trivial⟩)
          ·
           refine ⟨_, _, _, _, rfl, rfl, rfl, (⟨_, _, rfl, rfl, rfl⟩), fun E1 => ?_⟩
           refine (V1.loadRef (k := 4) rfl rfl tyk_42 rfl rfl rfl rfl rfl lt0 ?_)
           refine ⟨_, _, rfl, ?_⟩
           refine WalkP.nil (NodeS.fin inNil rfl rfl rfl (⟨_, _, rfl, rfl, ⟨_, _, rfl, rfl, ⟨_, _, rfl, rfl, ⟨_, _, rfl, rfl, ⟨_, _, rfl, rfl, ⟨_, _, rfl, rfl, rfl⟩⟩⟩⟩⟩⟩) ?_)
           refine VO.cons rfl (V1.appendMap (k := 3) (f := encEvent) (l := r_Events0) (m := ([(⟨k, (IntKind.i64.wrap (y1.1 + y4.1))⟩ : Event)] : List Event)) rfl rfl rfl rfl rfl esz_42 eby_42 zk_46 rfl rfl rfl (SrcOf.srMap (k := 0) rfl isl_42) hh4 lt0 ?_)
           intro b46
           refine VO.cons rfl (V1.fieldRef rfl rfl fo_44_3 rfl lt0 ?_)
           refine VO.cons rfl (V1.storeRef (k := 4) rfl rfl tyk_42 rfl rfl rfl rfl rfl rfl rfl rfl rfl ?_)
           refine VO.nil ?_
           exact ⟨(((r_Events0 ++ ([(⟨k, (IntKind.i64.wrap (y1.1 + y4.1))⟩ : Event)] : List Event)), y4.2), b46), oi hm3, Keeps.mk (ks := [0, 2, 4, 5]) rfl ⟨rfl, rfl, rfl, rfl, trivial⟩ (⟨_, _, rfl, rfl, ⟨_, _, rfl, rfl, ⟨_, _, rfl, rfl, ⟨_, _, rfl, rfl, rfl⟩⟩⟩⟩) rfl⟩
     ·
      rintro ⟨⟨r_Events2, c_2⟩, b11⟩ rfl
      try dsimp only at hm2
      exact ⟨((r_Events2, c_2), b11), oi hm2, Keeps.mk (ks := [0, 1, 2, 3]) rfl ⟨rfl, rfl, rfl, rfl, trivial⟩ (⟨_, _, rfl, rfl, ⟨_, _, rfl, rfl, ⟨_, _, rfl, rfl, ⟨_, _, rfl, rfl, rfl⟩⟩⟩⟩) rfl⟩
    ·
     replace hm2 := cond_f hc1 hm2
     refine V.skip ?_
     exact ⟨((r_Events0, y3.2), b6), oi hm2, Keeps.mk (ks := [1, 0, 2, 3]) rfl ⟨rfl, rfl, rfl, rfl, trivial⟩ (⟨_, _, rfl, rfl, ⟨_, _, rfl, rfl, ⟨_, _, rfl, rfl, ⟨_, _, rfl, rfl, rfl⟩⟩⟩⟩) rfl⟩
   ·
    rintro ⟨⟨r_Events1, c_1⟩, b7⟩ rfl
    try dsimp only at hm1
    refine V.region (VO.cons rfl (V1.mv ?_))
    refine VO.cons rfl (V1.it ?_)
    refine VO.cons rfl (V1.as ?_)
    refine VO.nil ?_
    exact ⟨(m0, ((IntKind.i64.wrap (k + (1 : Int))), r_Events1, c_1), b7), hl1 _ (oi hm1).symm, Nat.lt_succ_self _, Keeps.mk (ks := [0, 1, 2, 3]) rfl ⟨rfl, rfl, rfl, rfl, trivial⟩ (⟨_, _, rfl, rfl, ⟨_, _, rfl, rfl, ⟨_, _, rfl, rfl, ⟨_, _, rfl, rfl, rfl⟩⟩⟩⟩) rfl⟩
  ·
   replace hm1 := cond_f hc0 hm1
   refine V.exit ?_
   obtain rfl := hr1 _ (oi hm1).symm
   exact ⟨((r_Events0, c_0), b6), rfl, Keeps.mk (ks := [0, 1, 2, 3]) rfl ⟨rfl, rfl, rfl, trivial⟩ (⟨_, _, rfl, rfl, ⟨_, _, rfl, rfl, ⟨_, _, rfl, rfl, ⟨_, _, rfl, rfl, rfl⟩⟩⟩⟩) rfl⟩
 ·
  rintro ⟨⟨r_Events, c_⟩, b5⟩ rfl
  try dsimp only at hm0
  refine V.seq (V.seq ?_)
  replace hm0 := bindO hm0; rcases hm0 with ⟨y5, hh5, hm0⟩
  refine V.region (VO.cons rfl (V1.mv ?_))
  refine VO.cons rfl (V1.callM 1 (rn + ρ0 + 1) [] [.ref bp 3 0 0, .int .i64 (48 : Int)] (p := (bp, ⟨3, [encCur ρ0 c_]⟩)) rfl rfl rfl cok_84 rfl rfl ⟨_, _, rfl, .same _, ⟨_, _, rfl, .same _, rfl⟩⟩ bwNil (ok_spec_l1Cur_pick hh5) rfl (.inl rfl) lt0 ?_)
  rintro _ _ ⟨rfl, rfl⟩
  refine VO.nil ?_
  replace hm0 := bindO hm0; rcases hm0 with ⟨j2, hm1, hm0⟩
  refine V.cutT (D := (Int × Int × List Event × Cur) × (Nat)) (fun ⟨⟨r_Series, r_Made, r_Events3, c_3⟩, b47⟩ => ⟨64, [(4, .ref b0 4 0 0), (5, .ref b4 4 0 0)], [(b47, ⟨2, List.map encEvent r_Events3⟩), (bp, ⟨3, [encCur ρ0 c_3]⟩), (b4, ⟨4, [.agg [.int .i64 id_, .int .i64 r_Series, .int .i64 r_Made, .sref b47 2 0 (List.length r_Events3)]]⟩), (b0, ⟨4, [.agg [.int .i64 (0 : Int), .int .i64 (0 : Int), .int .i64 (0 : Int), .nils]]⟩)]⟩) (fun ⟨⟨r_Series, r_Made, r_Events3, c_3⟩, b47⟩ => ((r_Series, r_Made, r_Events3, c_3) = j2)) ?_ ?_
  ·
   refine V.block ?_
   refine V.seq (V.region (VO.cons rfl (V1.it ?_)))
   refine VO.cons rfl (V1.as ?_)
   refine VO.nil (V.cond rfl (fun hc2 => ?_) (fun hc2 => ?_))
   ·
    replace hm1 := cond_t hc2 hm1
    replace hm1 := bindO hm1; rcases hm1 with ⟨y6, hh6, hm1⟩
    refine V.region (VO.cons rfl (V1.mv ?_))
    refine VO.cons rfl (V1.buildSliceT (f := encInt) ([(0 : Int), (100 : Int)] : List Int) rfl rfl esz_69 zk_3 rfl rfl rfl rfl rfl rfl rfl lt0 ?_)
    intro b48
    refine VO.cons rfl (V1.callM 1 (rn + ρ0 + 1) [b48] [.ref bp 3 0 0, .vl (rn + ρ0 + 1) 1 (List.map encInt ([(0 : Int), (100 : Int)] : List Int))] (p := (bp, ⟨3, [encCur ρ0 y5.2]⟩)) rfl rfl rfl cok_50 rfl rfl ⟨_, _, rfl, .same _, ⟨_, _, rfl, Lend.srMap 0 rfl (fun _ => rfl) (.head _), rfl⟩⟩ (bwCons (k := 0) rfl bwNil) (ok_spec_l1Cur_among hh6) rfl (.inr ⟨(by first | omega | (dsimp only; omega)), by rintro _ _ ⟨rfl, rfl⟩; exact ⟨by simp [PV.no, PV.noL, optS_no, noL_iff, nbeq] <;> omega, by intro b ob h; first | exact optH_no (noL_map (fun _ => by simp [PV.no, PV.noL, noL_iff, nbeq]) _) b ob h | (simp only [List.append_assoc, List.mem_append, List.mem_cons, List.mem_singleton, List.not_mem_nil, or_false, Prod.mk.injEq] at h; rcases h with ⟨rfl, rfl⟩ | ⟨rfl, rfl⟩ <;> first | exact noL_map (fun _ => by simp [PV.no, PV.noL, noL_iff, nbeq]) _ | (simp [PV.no, PV.noL, optS_no, noL_iff, nbeq] <;> omega)) | (simp at h; obtain ⟨rfl, rfl⟩ := h; exact noL_map (fun _ => by simp [PV.no, PV.noL, noL_iff, nbeq]) _) | (simp at h; obtain ⟨rfl, rfl⟩ := h; simp [PV.no, PV.noL, optS_no, noL_iff, nbeq] <;> omega)⟩⟩) lt0 ?_)
    rintro _ _ ⟨rfl, rfl⟩
    refine VO.cons rfl (V1.fieldRef rfl rfl fo_44_1 rfl lt0 ?_)
    refine VO.cons rfl (V1.storeRef (k := 3) rfl rfl tyk_3 rfl rfl rfl rfl rfl rfl rfl rfl rfl ?_)
    refine VO.nil ?_
    exact ⟨((y6.1, y1.1, r_Events, y6.2), b5), oi hm1, Keeps.mk (ks := [2, 0, 3, 4]) rfl ⟨rfl, rfl, trivial⟩ (⟨_, _, rfl, rfl, ⟨_, _, rfl, rfl, ⟨_, _, rfl, rfl, ⟨_, _, rfl, rfl, rfl⟩⟩⟩⟩) rfl⟩
   ·
    replace hm1 := cond_f hc2 hm1
    refine V.seq (V.region (VO.cons rfl (V1.it ?_)))
    refine VO.cons rfl (V1.as ?_)
    refine VO.nil (V.keep 64 [0, 4, 5, 36, 43] [0, 1, 2, 3] (E0 := [(0, .ref bp 3 0 0), (4, .ref b0 4 0 0), (5, .ref b4 4 0 0), (36, .int .i64 y5.1), (43, .bool (y5.1 == (1 : Int)))]) (H0 := [(bp, ⟨3, [encCur ρ0 y5.2]⟩), (b5, ⟨2, List.map encEvent r_Events⟩), (b4, ⟨4, [.agg [.int .i64 id_, .int .i64 y0.1, .int .i64 y1.1, .sref b5 2 0 (List.length r_Events)]]⟩), (b0, ⟨4, [.agg [.int .i64 (0 : Int), .int .i64 (0 : Int), .int .i64 (0 : Int), .nils]]⟩)]) rfl (⟨_, _, rfl, rfl, ⟨_, _, rfl, rfl, ⟨_, _, rfl, rfl, ⟨_, _, rfl, rfl, ⟨_, _, rfl, rfl, rfl⟩⟩⟩⟩⟩) (⟨_, _, rfl, rfl, ⟨_, _, rfl, rfl, ⟨_, _, rfl, rfl, ⟨_, _, rfl, rfl, rfl⟩⟩⟩⟩) rfl ?_)
    refine V.cond rfl (fun hc3 => ?_) (fun hc3 => ?_)
    ·
     replace hm1 := cond_t hc3 hm1
     replace hm1 := bindO hm1; rcases hm1 with ⟨y7, hh7, hm1⟩
     refine V.region (VO.cons rfl (V1.mv ?_))
     refine VO.cons rfl (V1.buildSliceT (f := encInt) ([(-1 : Int), (20001 : Int), (19999 : Int)] : List Int) rfl rfl esz_69 zk_3 rfl rfl rfl rfl rfl rfl rfl lt0 ?_)
     intro b49
     refine VO.cons rfl (V1.callM 1 (rn + ρ0 + 1) [b49] [.ref bp 3 0 0, .vl (rn + ρ0 + 1) 1 (List.map encInt ([(-1 : Int), (20001 : Int), (19999 : Int)] : List Int))] (p := (bp, ⟨3, [encCur ρ0 y5.2]⟩)) rfl rfl rfl cok_50 rfl rfl ⟨_, _, rfl, .same _, ⟨_, _, rfl, Lend.srMap 0 rfl (fun _ => rfl) (.head _), rfl⟩⟩ (bwCons (k := 0) rfl bwNil) (ok_spec_l1Cur_among hh7) rfl (.inr ⟨(by first | omega | (dsimp only; omega)), by rintro _ _ ⟨rfl, rfl⟩; exact ⟨by simp [PV.no, PV.noL, optS_no, noL_iff, nbeq] <;> omega, by intro b ob h; first | exact optH_no (noL_map (fun _ => by simp [PV.no, PV.noL, noL_iff, nbeq]) _) b ob h | (simp only [List.append_assoc, List.mem_append, List.mem_cons, List.mem_singleton, List.not_mem_nil, or_false, Prod.mk.injEq] at h; rcases h with ⟨rfl, rfl⟩ | ⟨rfl, rfl⟩ <;> first | exact noL_map (fun _ => by simp [PV.no, PV.noL, noL_iff, nbeq]) _ | (simp [PV.no, PV.noL, optS_no, noL_iff, nbeq] <;> omega)) | (simp at h; obtain ⟨rfl, rfl⟩ := h; exact noL_map (fun _ => by simp [PV.no, PV.noL, noL_iff, nbeq]) _) | (simp at h; obtain ⟨rfl, rfl⟩ := h; simp [PV.no, PV.noL, optS_no, noL_iff, nbeq] <;> omega)⟩⟩) lt0 ?_)
     rintro _ _ ⟨rfl, rfl⟩
     refine VO.cons rfl (V1.fieldRef rfl rfl fo_44_2 rfl lt0 ?_)
     refine VO.cons rfl (V1.storeRef (k := 3) rfl rfl tyk_3 rfl rfl rfl rfl rfl rfl rfl rfl rfl ?_)
     refine VO.nil ?_
     exact ⟨((y0.1, y7.1, r_Events, y7.2), b5), oi hm1, Keeps.mk (ks := [2, 0, 3, 4]) rfl ⟨rfl, rfl, trivial⟩ (⟨_, _, rfl, rfl, ⟨_, _, rfl, rfl, ⟨_, _, rfl, rfl, ⟨_, _, rfl, rfl, rfl⟩⟩⟩⟩) rfl⟩
    ·
     replace hm1 := cond_f hc3 hm1
     refine V.seq (V.region (VO.cons rfl (V1.it ?_)))
     refine VO.cons rfl (V1.as ?_)
     refine VO.nil (V.cond rfl (fun hc4 => ?_) (fun hc4 => ?_))
     ·
      replace hm1 := cond_t hc4 hm1
      replace hm1 := bindO hm1; rcases hm1 with ⟨y8, hh8, hm1⟩
      replace hm1 := bindO hm1; rcases hm1 with ⟨y9, hh9, hm1⟩
      replace hm1 := asrt_some hm1; rcases hm1 with ⟨hh10, hm1⟩
      replace hm1 := bindO hm1; rcases hm1 with ⟨j3, hm2, hm1⟩
      refine V.cutT (D := (List Event × Cur) × (Nat)) (fun ⟨⟨r_Events4, o⟩, b54⟩ => ⟨64, [(4, .ref b0 4 0 0), (5, .ref b4 4 0 0)], [(b54, ⟨2, List.map encEvent r_Events4⟩), (bp, ⟨3, [encCur ρ0 o]⟩), (b4, ⟨4, [.agg [.int .i64 id_, .int .i64 y0.1, .int .i64 y1.1, .sref b54 2 0 (List.length r_Events4)]]⟩), (b0, ⟨4, [.agg [.int .i64 (0 : Int), .int .i64 (0 : Int), .int .i64 (0 : Int), .nils]]⟩)]⟩) (fun ⟨⟨r_Events4, o⟩, b54⟩ => ((r_Events4, o) = j3)) ?_ ?_
      ·
       refine V.regionS [] 64 10 [⟨[(5, none)], false⟩, ⟨[(51, some 0)], true⟩, ⟨[(0, none)], false⟩, ⟨[], true⟩, ⟨[(53, some 2), (54, some 3)], true⟩, ⟨[(0, none)], false⟩, ⟨[], true⟩, ⟨[(56, some 5), (57, some 6)], true⟩, ⟨[(55, some 4), (58, some 7)], false⟩, ⟨[(59, some 8)], true⟩] [(4, none), (5, none), (52, some 1), (60, some 9)] 6 (⟨_, rfl, ⟨_, rfl, ⟨_, rfl, ⟨_, rfl, ⟨_, rfl, ⟨_, rfl, ⟨_, rfl, ⟨_, rfl, ⟨_, rfl, ⟨_, rfl, ⟨rfl, rfl⟩⟩⟩⟩⟩⟩⟩⟩⟩⟩⟩) mixed_orders rfl (by decide +kernel) ?_
       refine WalkP.step (p := ?pv1543) 0 rfl rfl rfl rfl rfl (⟨_, _, rfl, rfl, rfl⟩) ?hv1543 ?rest1543
       case hv1543 =>
        intro E1 H1 hI1
        refine (V1.fieldRef rfl rfl fo_44_3 rfl lt0 ?_)
        exact rfl
       refine WalkP.step (p := ?pv1544) 2 rfl rfl rfl rfl rfl (⟨_, _, rfl, rfl, rfl⟩) ?hv1544 ?rest1544
       case hv1544 =>
        intro E1 H1 hI1
        refine (V1.mv ?_)
        exact rfl
       refine WalkP.step (p := ?pv1545) 5 rfl rfl rfl rfl rfl (⟨_, _, rfl, rfl, rfl⟩) ?hv1545 ?rest1545
       case hv1545 =>
        intro E1 H1 hI1
        refine (V1.mv ?_)
        exact rfl
       refine WalkP.nil (NodeS.branch [1, 3, 6] inNil rfl rfl rfl ⟨?_, ?_, ?_, trivial⟩)
       ·
        refine ⟨_, _, _, _, rfl, rfl, rfl, (⟨_, _, rfl, rfl, rfl⟩), fun E1 => ?_⟩
        refine (V1.loadRef (k := 2) rfl rfl tyk_42 rfl rfl rfl rfl rfl lt0 ?_)
        refine ⟨_, _, rfl, ?_⟩
        refine WalkP.nil (NodeS.branch [3, 6] inNil rfl rfl rfl ⟨?_, ?_, trivial⟩)
        ·
         refine ⟨_, _, _, _, rfl, rfl, rfl, (rfl), fun E1 => ?_⟩
         refine (V1.buildSliceT (f := encInt) ([(1 : Int), (9 : Int), (10 : Int)] : List Int) rfl rfl esz_69 zk_3 rfl rfl rfl rfl rfl rfl rfl lt0 ?_)
         intro b55
         refine ⟨_, _, rfl, ?_⟩
         refine WalkP.nil (NodeS.branch [4, 6] inNil rfl rfl rfl ⟨?_, ?_, trivial⟩)
         ·
          refine ⟨_, _, _, _, rfl, rfl, rfl, (⟨_, _, rfl, rfl, ⟨_, _, rfl, rfl, rfl⟩⟩), fun E1 => ?_⟩
          refine (V1.callM 1 (rn + ρ0 + 1) [b55] [.ref bp 3 0 0, .vl (rn + ρ0 + 1) 1 (List.map encInt ([(1 : Int), (9 : Int), (10 : Int)] : List Int))] (p := (bp, ⟨3, [encCur ρ0 y5.2]⟩)) rfl rfl rfl cok_50 rfl rfl ⟨_, _, rfl, .same _, ⟨_, _, rfl, Lend.srMap 0 rfl (fun _ => rfl) (.head _), rfl⟩⟩ (bwCons (k := 0) rfl bwNil) (ok_spec_l1Cur_among hh8) rfl (.inr ⟨(by first | omega | (dsimp only; omega)), by rintro _ _ ⟨rfl, rfl⟩; exact ⟨by simp [PV.no, PV.noL, optS_no, noL_iff, nbeq] <;> omega, by intro b ob h; first | exact optH_no (noL_map (fun _ => by simp [PV.no, PV.noL, noL_iff, nbeq]) _) b ob h | (simp only [List.append_assoc, List.mem_append, List.mem_cons, List.mem_singleton, List.not_mem_nil, or_false, Prod.mk.injEq] at h; rcases h with ⟨rfl, rfl⟩ | ⟨rfl, rfl⟩ <;> first | exact noL_map (fun _ => by simp [PV.no, PV.noL, noL_iff, nbeq]) _ | (simp [PV.no, PV.noL, optS_no, noL_iff, nbeq] <;> omega)) | (simp at h; obtain ⟨rfl, rfl⟩ := h; exact noL_map (fun _ => by simp [PV.no, PV.noL, noL_iff, nbeq]) _) | (simp at h; obtain ⟨rfl, rfl⟩ := h; simp [PV.no, PV.noL, optS_no, noL_iff, nbeq] <;> omega)⟩⟩) lt0 ?_)
          rintro _ _ ⟨rfl, rfl⟩
          refine ⟨_, _, rfl, ?_⟩
          refine WalkP.nil (NodeS.branch [6] inNil rfl rfl rfl ⟨?_, trivial⟩)
          ·
           refine ⟨_, _, _, _, rfl, rfl, rfl, (rfl), fun E1 => ?_⟩
           refine (V1.buildSliceT (f := encInt) ([(0 : Int), (20000 : Int)] : List Int) rfl rfl esz_69 zk_3 rfl rfl rfl rfl rfl rfl rfl lt0 ?_)
           intro b56
           refine ⟨_, _, rfl, ?_⟩
           refine WalkP.nil (NodeS.branch [7] inNil rfl rfl rfl ⟨?_, trivial⟩)
           ·
            refine ⟨_, _, _, _, rfl, rfl, rfl, (⟨_, _, rfl, rfl, ⟨_, _, rfl, rfl, rfl⟩⟩), fun E1 => ?_⟩
            refine (V1.callM 1 (rn + ρ0 + 1) [b56] [.ref bp 3 0 0, .vl (rn + ρ0 + 1) 1 (List.map encInt ([(0 : Int), (20000 : Int)] : List Int))] (p := (bp, ⟨3, [encCur ρ0 y8.2]⟩)) rfl rfl rfl cok_50 rfl rfl ⟨_, _, rfl, .same _, ⟨_, _, rfl, Lend.srMap 0 rfl (fun _ => rfl) (.head _), rfl⟩⟩ (bwCons (k := 0) rfl bwNil) (ok_spec_l1Cur_among hh9) rfl (.inr ⟨(by first | omega | (dsimp only; omega)), by rintro _ _ ⟨rfl, rfl⟩; exact ⟨by simp [PV.no, PV.noL, optS_no, noL_iff, nbeq] <;> omega, by intro b ob h; first | exact optH_no (noL_map (fun _ => by simp [PV.no, PV.noL, noL_iff, nbeq]) _) b ob h | (simp only [List.append_assoc, List.mem_append, List.mem_cons, List.mem_singleton, List.not_mem_nil, or_false, Prod.mk.injEq] at h; rcases h with ⟨rfl, rfl⟩ | ⟨rfl, rfl⟩ <;> first | exact noL_map (fun _ => by simp [PV.no, PV.noL, noL_iff, nbeq]) _ | (simp [PV.no, PV.noL, optS_no, noL_iff, nbeq] <;> omega)) | (simp at h; obtain ⟨rfl, rfl⟩ := h; exact noL_map (fun _ => by simp [PV.no, PV.noL, noL_iff, nbeq]) _) | (simp at h; obtain ⟨rfl, rfl⟩ := h; simp [PV.no, PV.noL, optS_no, noL_iff, nbeq] <;> omega)⟩⟩) lt0 ?_)
            rintro _ _ ⟨rfl, rfl⟩
            refine ⟨_, _, rfl, ?_⟩
            refine WalkP.step (p := ?pv1546) 8 rfl rfl rfl rfl rfl (⟨_, _, rfl, rfl, ⟨_, _, rfl, rfl, rfl⟩⟩) ?hv1546 ?rest1546
            case hv1546 =>
             intro E1 H1 hI1
             refine (V1.build rfl rfl zk_46 pl_46 rfl rfl lt0 ?_)
             exact rfl
            refine WalkP.nil (NodeS.branch [9] inNil rfl rfl rfl ⟨?_, trivial⟩)
            ·
             refine ⟨_, _, _, _, rfl, rfl, rfl, (⟨_, _, rfl, rfl, rfl⟩), fun E1 => ?_⟩
             refine (V1.buildSliceT (f := encEvent) ([(⟨y8.1, y9.1⟩ : Event)] : List Event) rfl rfl esz_42 zk_46 rfl rfl rfl rfl rfl rfl rfl lt0 ?_)
             intro b57
             refine ⟨_, _, rfl, ?_⟩
             refine WalkP.nil (NodeS.fin inNil rfl rfl rfl (⟨_, _, rfl, rfl, ⟨_, _, rfl, rfl, ⟨_, _, rfl, rfl, ⟨_, _, rfl, rfl, rfl⟩⟩⟩⟩) ?_)
             refine VO.cons rfl (V1.appendMap (k := 4) (f := encEvent) (l := r_Events) (m := ([(⟨y8.1, y9.1⟩ : Event)] : List Event)) rfl rfl rfl rfl rfl esz_42 eby_42 zk_46 rfl rfl rfl (SrcOf.srMap (k := 0) rfl isl_42) hh10 lt0 ?_)
             intro b58
             refine VO.cons rfl (V1.fieldRef rfl rfl fo_44_3 rfl lt0 ?_)
             refine VO.cons rfl (V1.storeRef (k := 5) rfl rfl tyk_42 rfl rfl rfl rfl rfl rfl rfl rfl rfl ?_)
             refine VO.nil ?_
             exact ⟨(((r_Events ++ ([(⟨y8.1, y9.1⟩ : Event)] : List Event)), y9.2), b58), oi hm2, Keeps.mk (ks := [0, 2, 5, 6]) rfl ⟨rfl, rfl, trivial⟩ (⟨_, _, rfl, rfl, ⟨_, _, rfl, rfl, ⟨_, _, rfl, rfl, ⟨_, _, rfl, rfl, rfl⟩⟩⟩⟩) rfl⟩
         ·
          refine ⟨_, _, _, _, rfl, rfl, rfl, (rfl), fun E1 => ?_⟩
          refine (V1.buildSliceT (f := encInt) ([(0 : Int), (20000 : Int)] : List Int) rfl rfl esz_69 zk_3 rfl rfl rfl rfl rfl rfl rfl lt0 ?_)
          intro b59
          refine ⟨_, _, rfl, ?_⟩
          refine WalkP.nil (NodeS.branch [4] inNil rfl rfl rfl ⟨?_, trivial⟩)
          ·
           refine ⟨_, _, _, _, rfl, rfl, rfl, (⟨_, _, rfl, rfl, ⟨_, _, rfl, rfl, rfl⟩⟩), fun E1 => ?_⟩
           refine (V1.callM 2 (rn + ρ0 + 1) [b55] [.ref bp 3 0 0, .vl (rn + ρ0 + 1) 1 (List.map encInt ([(1 : Int), (9 : Int), (10 : Int)] : List Int))] (p := (bp, ⟨3, [encCur ρ0 y5.2]⟩)) rfl rfl rfl cok_50 rfl rfl ⟨_, _, rfl, .same _, ⟨_, _, rfl, Lend.srMap 1 rfl (fun _ => rfl) (.head _), rfl⟩⟩ (bwCons (k := 1) rfl bwNil) (ok_spec_l1Cur_among hh8) rfl (.inr ⟨(by first | omega | (dsimp only; omega)), by rintro _ _ ⟨rfl, rfl⟩; exact ⟨by simp [PV.no, PV.noL, optS_no, noL_iff, nbeq] <;> omega, by intro b ob h; first | exact optH_no (noL_map (fun _ => by simp [PV.no, PV.noL, noL_iff, nbeq]) _) b ob h | (simp only [List.append_assoc, List.mem_append, List.mem_cons, List.mem_singleton, List.not_mem_nil, or_false, Prod.mk.injEq] at h; rcases h with ⟨rfl, rfl⟩ | ⟨rfl, rfl⟩ <;> first | exact noL_map (fun _ => by simp [PV.no, PV.noL, noL_iff, nbeq]) _ | (simp [PV.no, PV.noL, optS_no, noL_iff, nbeq] <;> omega)) | (simp at h; obtain ⟨rfl, rfl⟩ := h; exact noL_map (fun _ => by simp [PV.no, PV.noL, noL_iff, nbeq]) _) | (simp at h; obtain ⟨rfl, rfl⟩ := h; simp [PV.no, PV.noL, optS_no, noL_iff, nbeq] <;> omega)⟩⟩) lt0 ?_)
           rintro _ _ ⟨rfl, rfl⟩
           refine ⟨_, _, rfl, ?_⟩
           refine WalkP.nil (NodeS.branch [7] inNil rfl rfl rfl ⟨?_, trivial⟩)
           ·
            refine ⟨_, _, _, _, rfl, rfl, rfl, (⟨_, _, rfl, rfl, ⟨_, _, rfl, rfl, rfl⟩⟩), fun E1 => ?_⟩
            refine (V1.callM 0 (rn + ρ0 + 1) [b59] [.ref bp 3 0 0, .vl (rn + ρ0 + 1) 1 (List.map encInt ([(0 : Int), (20000 : Int)] : List Int))] (p := (bp, ⟨3, [encCur ρ0 y8.2]⟩)) rfl rfl rfl cok_50 rfl rfl ⟨_, _, rfl, .same _, ⟨_, _, rfl, Lend.srMap 1 rfl (fun _ => rfl) (.head _), rfl⟩⟩ (bwCons (k := 0) rfl bwNil) (ok_spec_l1Cur_among hh9) rfl (.inr ⟨(by first | omega | (dsimp only; omega)), by rintro _ _ ⟨rfl, rfl⟩; exact ⟨by simp [PV.no, PV.noL, optS_no, noL_iff, nbeq] <;> omega, by intro b ob h; first | exact optH_no (noL_map (fun _ => by simp [PV.no, PV.noL, noL_iff, nbeq]) _) b ob h | (simp only [List.append_assoc, List.mem_append, List.mem_cons, List.mem_singleton, List.not_mem_nil, or_false, Prod.mk.injEq] at h; rcases h with ⟨rfl, rfl⟩ | ⟨rfl, rfl⟩ <;> first | exact noL_map (fun _ => by simp [PV.no, PV.noL, noL_iff, nbeq]) _ | (simp [PV.no, PV.noL, optS_no, noL_iff, nbeq] <;> omega)) | (simp at h; obtain ⟨rfl, rfl⟩ := h; exact noL_map (fun _ => by simp [PV.no, PV.noL, noL_iff, nbeq]) _) | (simp at h; obtain ⟨rfl, rfl⟩ := h; simp [PV.no, PV.noL, optS_no, noL_iff, nbeq] <;> omega)⟩⟩) lt0 ?_)
            rintro _ _ ⟨rfl, rfl⟩
            refine ⟨_, _, rfl, ?_⟩
            refine WalkP.step (p := ?pv1547) 8 rfl rfl rfl rfl rfl (⟨_, _, rfl, rfl, ⟨_, _, rfl, rfl, rfl⟩⟩) ?hv1547 ?rest1547
            case hv1547 =>
             intro E1 H1 hI1
             refine (V1.build rfl rfl zk_46 pl_46 rfl rfl lt0 ?_)
             exact rfl
            refine WalkP.nil (NodeS.branch [9] inNil rfl rfl rfl ⟨?_, trivial⟩)
            ·
             refine ⟨_, _, _, _, rfl, rfl, rfl, (⟨_, _, rfl, rfl, rfl⟩), fun E1 => ?_⟩
             refine (V1.buildSliceT (f := encEvent) ([(⟨y8.1, y9.1⟩ : Event)] : List Event) rfl rfl esz_42 zk_46 rfl rfl rfl rfl rfl rfl rfl lt0 ?_)
             intro b60
             refine ⟨_, _, rfl, ?_⟩
             refine WalkP.nil (NodeS.fin inNil rfl rfl rfl (⟨_, _, rfl, rfl, ⟨_, _, rfl, rfl, ⟨_, _, rfl, rfl, ⟨_, _, rfl, rfl, rfl⟩⟩⟩⟩) ?_)
             refine VO.cons rfl (V1.appendMap (k := 4) (f := encEvent) (l := r_Events) (m := ([(⟨y8.1, y9.1⟩ : Event)] : List Event)) rfl rfl rfl rfl rfl esz_42 eby_42 zk_46 rfl rfl rfl (SrcOf.srMap (k := 0) rfl isl_42) hh10 lt0 ?_)
             intro b61
             refine VO.cons rfl (V1.fieldRef rfl rfl fo_44_3 rfl lt0 ?_)
             refine VO.cons rfl (V1.storeRef (k := 5) rfl rfl tyk_42 rfl rfl rfl rfl rfl rfl rfl rfl rfl ?_)
             refine VO.nil ?_
             exact ⟨(((r_Events ++ ([(⟨y8.1, y9.1⟩ : Event)] : List Event)), y9.2), b61), oi hm2, Keeps.mk (ks := [0, 2, 5, 6]) rfl ⟨rfl, rfl, trivial⟩ (⟨_, _, rfl, rfl, ⟨_, _, rfl, rfl, ⟨_, _, rfl, rfl, ⟨_, _, rfl, rfl, rfl⟩⟩⟩⟩) rfl⟩
        ·
         refine ⟨_, _, _, _, rfl, rfl, rfl, (rfl), fun E1 => ?_⟩
         refine (V1.buildSliceT (f := encInt) ([(0 : Int), (20000 : Int)] : List Int) rfl rfl esz_69 zk_3 rfl rfl rfl rfl rfl rfl rfl lt0 ?_)
         intro b62
         refine ⟨_, _, rfl, ?_⟩
         refine WalkP.nil (NodeS.branch [3] inNil rfl rfl rfl ⟨?_, trivial⟩)
         ·
          refine ⟨_, _, _, _, rfl, rfl, rfl, (rfl), fun E1 => ?_⟩
          refine (V1.buildSliceT (f := encInt) ([(1 : Int), (9 : Int), (10 : Int)] : List Int) rfl rfl esz_69 zk_3 rfl rfl rfl rfl rfl rfl rfl lt0 ?_)
          intro b63
          refine ⟨_, _, rfl, ?_⟩
          refine WalkP.nil (NodeS.branch [4] inNil rfl rfl rfl ⟨?_, trivial⟩)
          ·
           refine ⟨_, _, _, _, rfl, rfl, rfl, (⟨_, _, rfl, rfl, ⟨_, _, rfl, rfl, rfl⟩⟩), fun E1 => ?_⟩
           refine (V1.callM 2 (rn + ρ0 + 1) [b63] [.ref bp 3 0 0, .vl (rn + ρ0 + 1) 1 (List.map encInt ([(1 : Int), (9 : Int), (10 : Int)] : List Int))] (p := (bp, ⟨3, [encCur ρ0 y5.2]⟩)) rfl rfl rfl cok_50 rfl rfl ⟨_, _, rfl, .same _, ⟨_, _, rfl, Lend.srMap 0 rfl (fun _ => rfl) (.head _), rfl⟩⟩ (bwCons (k := 0) rfl bwNil) (ok_spec_l1Cur_among hh8) rfl (.inr ⟨(by first | omega | (dsimp only; omega)), by rintro _ _ ⟨rfl, rfl⟩; exact ⟨by simp [PV.no, PV.noL, optS_no, noL_iff, nbeq] <;> omega, by intro b ob h; first | exact optH_no (noL_map (fun _ => by simp [PV.no, PV.noL, noL_iff, nbeq]) _) b ob h | (simp only [List.append_assoc, List.mem_append, List.mem_cons, List.mem_singleton, List.not_mem_nil, or_false, Prod.mk.injEq] at h; rcases h with ⟨rfl, rfl⟩ | ⟨rfl, rfl⟩ <;> first | exact noL_map (fun _ => by simp [PV.no, PV.noL, noL_iff, nbeq]) _ | (simp [PV.no, PV.noL, optS_no, noL_iff, nbeq] <;> omega)) | (simp at h; obtain ⟨rfl, rfl⟩ := h; exact noL_map (fun _ => by simp [PV.no, PV.noL, noL_iff, nbeq]) _) | (simp at h; obtain ⟨rfl, rfl⟩ := h; simp [PV.no, PV.noL, optS_no, noL_iff, nbeq] <;> omega)⟩⟩) lt0 ?_)
           rintro _ _ ⟨rfl, rfl⟩
           refine ⟨_, _, rfl, ?_⟩
           refine WalkP.nil (NodeS.branch [7] inNil rfl rfl rfl ⟨?_, trivial⟩)
           ·
            refine ⟨_, _, _, _, rfl, rfl, rfl, (⟨_, _, rfl, rfl, ⟨_, _, rfl, rfl, rfl⟩⟩), fun E1 => ?_⟩
            refine (V1.callM 0 (rn + ρ0 + 1) [b62] [.ref bp 3 0 0, .vl (rn + ρ0 + 1) 1 (List.map encInt ([(0 : Int), (20000 : Int)] : List Int))] (p := (bp, ⟨3, [encCur ρ0 y8.2]⟩)) rfl rfl rfl cok_50 rfl rfl ⟨_, _, rfl, .same _, ⟨_, _, rfl, Lend.srMap 2 rfl (fun _ => rfl) (.head _), rfl⟩⟩ (bwCons (k := 1) rfl bwNil) (ok_spec_l1Cur_among hh9) rfl (.inr ⟨(by first | omega | (dsimp only; omega)), by rintro _ _ ⟨rfl, rfl⟩; exact ⟨by simp [PV.no, PV.noL, optS_no, noL_iff, nbeq] <;> omega, by intro b ob h; first | exact optH_no (noL_map (fun _ => by simp [PV.no, PV.noL, noL_iff, nbeq]) _) b ob h | (simp only [List.append_assoc, List.mem_append, List.mem_cons, List.mem_singleton, List.not_mem_nil, or_false, Prod.mk.injEq] at h; rcases h with ⟨rfl, rfl⟩ | ⟨rfl, rfl⟩ <;> first | exact noL_map (fun _ => by simp [PV.no, PV.noL, noL_iff, nbeq]) _ | (simp [PV.no, PV.noL, optS_no, noL_iff, nbeq] <;> omega)) | (simp at h; obtain ⟨rfl, rfl⟩ := h; exact noL_map (fun _ => by simp [PV.no, PV.noL, noL_iff, nbeq]) _) | (simp at h; obtain ⟨rfl, rfl⟩ := h; simp [PV.no, PV.noL, optS_no, noL_iff, nbeq] <;> omega)⟩⟩) lt0 ?_)
            rintro _ _ ⟨rfl, rfl⟩
            refine ⟨_, _, rfl, ?_⟩
            refine WalkP.step (p := ?pv1548) 8 rfl rfl rfl rfl rfl (⟨_, _, rfl, rfl, ⟨_, _, rfl, rfl, rfl⟩⟩) ?hv1548 ?rest1548
            case hv1548 =>
             intro E1 H1 hI1
             refine (V1.build rfl rfl zk_46 pl_46 rfl rfl lt0 ?_)
             exact rfl
            refine WalkP.nil (NodeS.branch [9] inNil rfl rfl rfl ⟨?_, trivial⟩)
            ·
             refine ⟨_, _, _, _, rfl, rfl, rfl, (⟨_, _, rfl, rfl, rfl⟩), fun E1 => ?_⟩
             refine (V1.buildSliceT (f := encEvent) ([(⟨y8.1, y9.1⟩ : Event)] : List Event) rfl rfl esz_42 zk_46 rfl rfl rfl rfl rfl rfl rfl lt0 ?_)
             intro b64
             refine ⟨_, _, rfl, ?_⟩
             refine WalkP.nil (NodeS.fin inNil rfl rfl rfl (⟨_, _, rfl, rfl, ⟨_, _, rfl, rfl, ⟨_, _, rfl, rfl, ⟨_, _, rfl, rfl, rfl⟩⟩⟩⟩) ?_)
             refine VO.cons rfl (V1.appendMap (k := 4) (f := encEvent) (l := r_Events) (m := ([(⟨y8.1, y9.1⟩ : Event)] : List Event)) rfl rfl rfl rfl rfl esz_42 eby_42 zk_46 rfl rfl rfl (SrcOf.srMap (k := 0) rfl isl_42) hh10 lt0 ?_)
             intro b65
             refine VO.cons rfl (V1.fieldRef rfl rfl fo_44_3 rfl lt0 ?_)
             refine VO.cons rfl (V1.storeRef (k := 5) rfl rfl tyk_42 rfl rfl rfl rfl rfl rfl rfl rfl rfl ?_)
             refine VO.nil ?_
             exact ⟨(((r_Events ++ ([(⟨y8.1, y9.1⟩ : Event)] : List Event)), y9.2), b65), oi hm2, Keeps.mk (ks := [0, 2, 5, 6]) rfl ⟨rfl, rfl, trivial⟩ (⟨_, _, rfl, rfl, ⟨_, _, rfl, rfl, ⟨_, _, rfl, rfl, ⟨_, _, rfl, rfl, rfl⟩⟩⟩⟩) rfl⟩
       ·
        refine ⟨_, _, _, _, rfl, rfl, rfl, (rfl), fun E1 => ?_⟩
        refine (V1.buildSliceT (f := encInt) ([(1 : Int), (9 : Int), (10 : Int)] : List Int) rfl rfl esz_69 zk_3 rfl rfl rfl rfl rfl rfl rfl lt0 ?_)
        intro b66
        refine ⟨_, _, rfl, ?_⟩
        refine WalkP.nil (NodeS.branch [1, 4, 6] inNil rfl rfl rfl ⟨?_, ?_, ?_, trivial⟩)
        ·
         refine ⟨_, _, _, _, rfl, rfl, rfl, (⟨_, _, rfl, rfl, rfl⟩), fun E1 => ?_⟩
         refine (V1.loadRef (k := 3) rfl rfl tyk_42 rfl rfl rfl rfl rfl lt0 ?_)
         refine ⟨_, _, rfl, ?_⟩
         refine WalkP.nil (NodeS.branch [4, 6] inNil rfl rfl rfl ⟨?_, ?_, trivial⟩)
         ·
          refine ⟨_, _, _, _, rfl, rfl, rfl, (⟨_, _, rfl, rfl, ⟨_, _, rfl, rfl, rfl⟩⟩), fun E1 => ?_⟩
          refine (V1.callM 1 (rn + ρ0 + 1) [b66] [.ref bp 3 0 0, .vl (rn + ρ0 + 1) 1 (List.map encInt ([(1 : Int), (9 : Int), (10 : Int)] : List Int))] (p := (bp, ⟨3, [encCur ρ0 y5.2]⟩)) rfl rfl rfl cok_50 rfl rfl ⟨_, _, rfl, .same _, ⟨_, _, rfl, Lend.srMap 0 rfl (fun _ => rfl) (.head _), rfl⟩⟩ (bwCons (k := 0) rfl bwNil) (ok_spec_l1Cur_among hh8) rfl (.inr ⟨(by first | omega | (dsimp only; omega)), by rintro _ _ ⟨rfl, rfl⟩; exact ⟨by simp [PV.no, PV.noL, optS_no, noL_iff, nbeq] <;> omega, by intro b ob h; first | exact optH_no (noL_map (fun _ => by simp [PV.no, PV.noL, noL_iff, nbeq]) _) b ob h | (simp only [List.append_assoc, List.mem_append, List.mem_cons, List.mem_singleton, List.not_mem_nil, or_false, Prod.mk.injEq] at h; rcases h with ⟨rfl, rfl⟩ | ⟨rfl, rfl⟩ <;> first | exact noL_map (fun _ => by simp [PV.no, PV.noL, noL_iff, nbeq]) _ | (simp [PV.no, PV.noL, optS_no, noL_iff, nbeq] <;> omega)) | (simp at h; obtain ⟨rfl, rfl⟩ := h; exact noL_map (fun _ => by simp [PV.no, PV.noL, noL_iff, nbeq]) _) | (simp at h; obtain ⟨rfl, rfl⟩ := h; simp [PV.no, PV.noL, optS_no, noL_iff, nbeq] <;> omega)⟩⟩) lt0 ?_)
          rintro _ _ ⟨rfl, rfl⟩
          refine ⟨_, _, rfl, ?_⟩
          refine WalkP.nil (NodeS.branch [6] inNil rfl rfl rfl ⟨?_, trivial⟩)
          ·
           refine ⟨_, _, _, _, rfl, rfl, rfl, (rfl), fun E1 => ?_⟩
           refine (V1.buildSliceT (f := encInt) ([(0 : Int), (20000 : Int)] : List Int) rfl rfl esz_69 zk_3 rfl rfl rfl rfl rfl rfl rfl lt0 ?_)
           intro b67
           refine ⟨_, _, rfl, ?_⟩
           refine WalkP.nil (NodeS.branch [7] inNil rfl rfl rfl ⟨?_, trivial⟩)
           ·
            refine ⟨_, _, _, _, rfl, rfl, rfl, (⟨_, _, rfl, rfl, ⟨_, _, rfl, rfl, rfl⟩⟩), fun E1 => ?_⟩
            refine (V1.callM 1 (rn + ρ0 + 1) [b67] [.ref bp 3 0 0, .vl (rn + ρ0 + 1) 1 (List.map encInt ([(0 : Int), (20000 : Int)] : List Int))] (p := (bp, ⟨3, [encCur ρ0 y8.2]⟩)) rfl rfl rfl cok_50 rfl rfl ⟨_, _, rfl, .same _, ⟨_, _, rfl, Lend.srMap 0 rfl (fun _ => rfl) (.head _), rfl⟩⟩ (bwCons (k := 0) rfl bwNil) (ok_spec_l1Cur_among hh9) rfl (.inr ⟨(by first | omega | (dsimp only; omega)), by rintro _ _ ⟨rfl, rfl⟩; exact ⟨by simp [PV.no, PV.noL, optS_no, noL_iff, nbeq] <;> omega, by intro b ob h; first | exact optH_no (noL_map (fun _ => by simp [PV.no, PV.noL, noL_iff, nbeq]) _) b ob h | (simp only [List.append_assoc, List.mem_append, List.mem_cons, List.mem_singleton, List.not_mem_nil, or_false, Prod.mk.injEq] at h; rcases h with ⟨rfl, rfl⟩ | ⟨rfl, rfl⟩ <;> first | exact noL_map (fun _ => by simp [PV.no, PV.noL, noL_iff, nbeq]) _ | (simp [PV.no, PV.noL, optS_no, noL_iff, nbeq] <;> omega)) | (simp at h; obtain ⟨rfl, rfl⟩ := h; exact noL_map (fun _ => by simp [PV.no, PV.noL, noL_iff, nbeq]) _) | (simp at h; obtain ⟨rfl, rfl⟩ := h; simp [PV.no, PV.noL, optS_no, noL_iff, nbeq] <;> omega)⟩⟩) lt0 ?_)
            rintro _ _ ⟨rfl, rfl⟩
            refine ⟨_, _, rfl, ?_⟩
            refine WalkP.step (p := ?pv1549) 8 rfl rfl rfl rfl rfl (⟨_, _, rfl, rfl, ⟨_, _, rfl, rfl, rfl⟩⟩) ?hv1549 ?rest1549
            case hv1549 =>
             intro E1 H1 hI1
             refine (V1.build rfl rfl zk_46 pl_46 rfl rfl lt0 ?_)
             exact rfl
            refine WalkP.nil (NodeS.branch [9] inNil rfl rfl rfl ⟨?_, trivial⟩)
            ·
             refine ⟨_, _, _, _, rfl, rfl, rfl, (⟨_, _, rfl, rfl, rfl⟩), fun E1 => ?_⟩
             refine (V1.buildSliceT (f := encEvent) ([(⟨y8.1, y9.1⟩ : Event)] : List Event) rfl rfl esz_42 zk_46 rfl rfl rfl rfl rfl rfl rfl lt0 ?_)
             intro b68
             refine ⟨_, _, rfl, ?_⟩
             refine WalkP.nil (NodeS.fin inNil rfl rfl rfl (⟨_, _, rfl, rfl, ⟨_, _, rfl, rfl, ⟨_, _, rfl, rfl, ⟨_, _, rfl, rfl, rfl⟩⟩⟩⟩) ?_)
             refine VO.cons rfl (V1.appendMap (k := 4) (f := encEvent) (l := r_Events) (m := ([(⟨y8.1, y9.1⟩ : Event)] : List Event)) rfl rfl rfl rfl rfl esz_42 eby_42 zk_46 rfl rfl rfl (SrcOf.srMap (k := 0) rfl isl_42) hh10 lt0 ?_)
             intro b69
             refine VO.cons rfl (V1.fieldRef rfl rfl fo_44_3 rfl lt0 ?_)
             refine VO.cons rfl (V1.storeRef (k := 5) rfl rfl tyk_42 rfl rfl rfl rfl rfl rfl rfl rfl rfl ?_)
             refine VO.nil ?_
             exact ⟨(((r_Events ++ ([(⟨y8.1, y9.1⟩ : Event)] : List Event)), y9.2), b69), oi hm2, Keeps.mk (ks := [0, 2, 5, 6]) rfl ⟨rfl, rfl, trivial⟩ (⟨_, _, rfl, rfl, ⟨_, _, rfl, rfl, ⟨_, _, rfl, rfl, ⟨_, _, rfl, rfl, rfl⟩⟩⟩⟩) rfl⟩
         ·
          refine ⟨_, _, _, _, rfl, rfl, rfl, (rfl), fun E1 => ?_⟩
          refine (V1.buildSliceT (f := encInt) ([(0 : Int), (20000 : Int)] : List Int) rfl rfl esz_69 zk_3 rfl rfl rfl rfl rfl rfl rfl lt0 ?_)
          intro b70
          refine ⟨_, _, rfl, ?_⟩
          refine WalkP.nil (NodeS.branch [4] inNil rfl rfl rfl ⟨?_, trivial⟩)
          ·
           refine ⟨_, _, _, _, rfl, rfl, rfl, (⟨_, _, rfl, rfl, ⟨_, _, rfl, rfl, rfl⟩⟩), fun E1 => ?_⟩
           refine (V1.callM 2 (rn + ρ0 + 1) [b66] [.ref bp 3 0 0, .vl (rn + ρ0 + 1) 1 (List.map encInt ([(1 : Int), (9 : Int), (10 : Int)] : List Int))] (p := (bp, ⟨3, [encCur ρ0 y5.2]⟩)) rfl rfl rfl cok_50 rfl rfl ⟨_, _, rfl, .same _, ⟨_, _, rfl, Lend.srMap 1 rfl (fun _ => rfl) (.head _), rfl⟩⟩ (bwCons (k := 1) rfl bwNil) (ok_spec_l1Cur_among hh8) rfl (.inr ⟨(by first | omega | (dsimp only; omega)), by rintro _ _ ⟨rfl, rfl⟩; exact ⟨by simp [PV.no, PV.noL, optS_no, noL_iff, nbeq] <;> omega, by intro b ob h; first | exact optH_no (noL_map (fun _ => by simp [PV.no, PV.noL, noL_iff, nbeq]) _) b ob h | (simp only [List.append_assoc, List.mem_append, List.mem_cons, List.mem_singleton, List.not_mem_nil, or_false, Prod.mk.injEq] at h; rcases h with ⟨rfl, rfl⟩ | ⟨rfl, rfl⟩ <;> first | exact noL_map (fun _ => by simp [PV.no, PV.noL, noL_iff, nbeq]) _ | (simp [PV.no, PV.noL, optS_no, noL_iff, nbeq] <;> omega)) | (simp at h; obtain ⟨rfl, rfl⟩ := h; exact noL_map (fun _ => by simp [PV.no, PV.noL, noL_iff, nbeq]) _) | (simp at h; obtain ⟨rfl, rfl⟩ := h; simp [PV.no, PV.noL, optS_no, noL_iff, nbeq] <;> omega)⟩⟩) lt0 ?_)
           rintro _ _ ⟨rfl, rfl⟩
           refine ⟨_, _, rfl, ?_⟩
           refine WalkP.nil (NodeS.branch [7] inNil rfl rfl rfl ⟨?_, trivial⟩)
           ·
            refine ⟨_, _, _, _, rfl, rfl, rfl, (⟨_, _, rfl, rfl, ⟨_, _, rfl, rfl, rfl⟩⟩), fun E1 => ?_⟩
            refine (V1.callM 0 (rn + ρ0 + 1) [b70] [.ref bp 3 0 0, .vl (rn + ρ0 + 1) 1 (List.map encInt ([(0 : Int), (20000 : Int)] : List Int))] (p := (bp, ⟨3, [encCur ρ0 y8.2]⟩)) rfl rfl rfl cok_50 rfl rfl ⟨_, _, rfl, .same _, ⟨_, _, rfl, Lend.srMap 1 rfl (fun _ => rfl) (.head _), rfl⟩⟩ (bwCons (k := 0) rfl bwNil) (ok_spec_l1Cur_among hh9) rfl (.inr ⟨(by first | omega | (dsimp only; omega)), by rintro _ _ ⟨rfl, rfl⟩; exact ⟨by simp [PV.no, PV.noL, optS_no, noL_iff, nbeq] <;> omega, by intro b ob h; first | exact optH_no (noL_map (fun _ => by simp [PV.no, PV.noL, noL_iff, nbeq]) _) b ob h | (simp only [List.append_assoc, List.mem_append, List.mem_cons, List.mem_singleton, List.not_mem_nil, or_false, Prod.mk.injEq] at h; rcases h with ⟨rfl, rfl⟩ | ⟨rfl, rfl⟩ <;> first | exact noL_map (fun _ => by simp [PV.no, PV.noL, noL_iff, nbeq]) _ | (simp [PV.no, PV.noL, optS_no, noL_iff, nbeq] <;> omega)) | (simp at h; obtain ⟨rfl, rfl⟩ := h; exact noL_map (fun _ => by simp [PV.no, PV.noL, noL_iff, nbeq]) _) | (simp at h; obtain ⟨rfl, rfl⟩ := h; simp [PV.no, PV.noL, optS_no, noL_iff, nbeq] <;> omega)⟩⟩) lt0 ?_)
            rintro _ _ ⟨rfl, rfl⟩
            refine ⟨_, _, rfl, ?_⟩
            refine WalkP.step (p := ?pv1550) 8 rfl rfl rfl rfl rfl (⟨_, _, rfl, rfl, ⟨_, _, rfl, rfl, rfl⟩⟩) ?hv1550 ?rest1550
            case hv1550 =>
             intro E1 H1 hI1
             refine (V1.build rfl rfl zk_46 pl_46 rfl rfl lt0 ?_)
             exact rfl
            refine WalkP.nil (NodeS.branch [9] inNil rfl rfl rfl ⟨?_, trivial⟩)
            ·
             refine ⟨_, _, _, _, rfl, rfl, rfl, (⟨_, _, rfl, rfl, rfl⟩), fun E1 => ?_⟩
             refine (V1.buildSliceT (f := encEvent) ([(⟨y8.1, y9.1⟩ : Event)] : List Event) rfl rfl esz_42 zk_46 rfl rfl rfl rfl rfl rfl rfl lt0 ?_)
             intro b71
             refine ⟨_, _, rfl, ?_⟩
             refine WalkP.nil (NodeS.fin inNil rfl rfl rfl (⟨_, _, rfl, rfl, ⟨_, _, rfl, rfl, ⟨_, _, rfl, rfl, ⟨_, _, rfl, rfl, rfl⟩⟩⟩⟩) ?_)
             refine VO.cons rfl (V1.appendMap (k := 4) (f := encEvent) (l := r_Events) (m := ([(⟨y8.1, y9.1⟩ : Event)] : List Event)) rfl rfl rfl rfl rfl esz_42 eby_42 zk_46 rfl rfl rfl (SrcOf.srMap (k := 0) rfl isl_42) hh10 lt0 ?_)
             intro b72
             refine VO.cons rfl (V1.fieldRef rfl rfl fo_44_3 rfl lt0 ?_)
             refine VO.cons rfl (V1.storeRef (k := 5) rfl rfl tyk_42 rfl rfl rfl rfl rfl rfl rfl rfl rfl ?_)
             refine VO.nil ?_
             exact ⟨(((r_Events ++ ([(⟨y8.1, y9.1⟩ : Event)] : List Event)), y9.2), b72), oi hm2, Keeps.mk (ks := [0, 2, 5, 6]) rfl ⟨rfl, rfl, trivial⟩ (⟨_, _, rfl, rfl, ⟨_, _, rfl, rfl, ⟨_, _, rfl, rfl, ⟨_, _, rfl, rfl, rfl⟩⟩⟩⟩) rfl⟩
        ·
         refine ⟨_, _, _, _, rfl, rfl, rfl, (⟨_, _, rfl, rfl, ⟨_, _, rfl, rfl, rfl⟩⟩), fun E1 => ?_⟩
         refine (V1.callM 1 (rn + ρ0 + 1) [b66] [.ref bp 3 0 0, .vl (rn + ρ0 + 1) 1 (List.map encInt ([(1 : Int), (9 : Int), (10 : Int)] : List Int))] (p := (bp, ⟨3, [encCur ρ0 y5.2]⟩)) rfl rfl rfl cok_50 rfl rfl ⟨_, _, rfl, .same _, ⟨_, _, rfl, Lend.srMap 0 rfl (fun _ => rfl) (.head _), rfl⟩⟩ (bwCons (k := 0) rfl bwNil) (ok_spec_l1Cur_among hh8) rfl (.inr ⟨(by first | omega | (dsimp only; omega)), by rintro _ _ ⟨rfl, rfl⟩; exact ⟨by simp [PV.no, PV.noL, optS_no, noL_iff, nbeq] <;> omega, by intro b ob h; first | exact optH_no (noL_map (fun _ => by simp [PV.no, PV.noL, noL_iff, nbeq]) _) b ob h | (simp only [List.append_assoc, List.mem_append, List.mem_cons, List.mem_singleton, List.not_mem_nil, or_false, Prod.mk.injEq] at h; rcases h with ⟨rfl, rfl⟩ | ⟨rfl, rfl⟩ <;> first | exact noL_map (fun _ => by simp [PV.no, PV.noL, noL_iff, nbeq]) _ | (simp [PV.no, PV.noL, optS_no, noL_iff, nbeq] <;> omega)) | (simp at h; obtain ⟨rfl, rfl⟩ := h; exact noL_map (fun _ => by simp [PV.no, PV.noL, noL_iff, nbeq]) _) | (simp at h; obtain ⟨rfl, rfl⟩ := h; simp [PV.no, PV.noL, optS_no, noL_iff, nbeq] <;> omega)⟩⟩) lt0 ?_)
         rintro _ _ ⟨rfl, rfl⟩
         refine ⟨_, _, rfl, ?_⟩
         refine WalkP.nil (NodeS.branch [1, 6] inNil rfl rfl rfl ⟨?_, ?_, trivial⟩)
         ·
          refine ⟨_, _, _, _, rfl, rfl, rfl, (⟨_, _, rfl, rfl, rfl⟩), fun E1 => ?_⟩
          refine (V1.loadRef (k := 3) rfl rfl tyk_42 rfl rfl rfl rfl rfl lt0 ?_)
          refine ⟨_, _, rfl, ?_⟩
          refine WalkP.nil (NodeS.branch [6] inNil rfl rfl rfl ⟨?_, trivial⟩)
          ·
           refine ⟨_, _, _, _, rfl, rfl, rfl, (rfl), fun E1 => ?_⟩
           refine (V1.buildSliceT (f := encInt) ([(0 : Int), (20000 : Int)] : List Int) rfl rfl esz_69 zk_3 rfl rfl rfl rfl rfl rfl rfl lt0 ?_)
           intro b73
           refine ⟨_, _, rfl, ?_⟩
           refine WalkP.nil (NodeS.branch [7] inNil rfl rfl rfl ⟨?_, trivial⟩)
           ·
            refine ⟨_, _, _, _, rfl, rfl, rfl, (⟨_, _, rfl, rfl, ⟨_, _, rfl, rfl, rfl⟩⟩), fun E1 => ?_⟩
            refine (V1.callM 1 (rn + ρ0 + 1) [b73] [.ref bp 3 0 0, .vl (rn + ρ0 + 1) 1 (List.map encInt ([(0 : Int), (20000 : Int)] : List Int))] (p := (bp, ⟨3, [encCur ρ0 y8.2]⟩)) rfl rfl rfl cok_50 rfl rfl ⟨_, _, rfl, .same _, ⟨_, _, rfl, Lend.srMap 0 rfl (fun _ => rfl) (.head _), rfl⟩⟩ (bwCons (k := 0) rfl bwNil) (ok_spec_l1Cur_among hh9) rfl (.inr ⟨(by first | omega | (dsimp only; omega)), by rintro _ _ ⟨rfl, rfl⟩; exact ⟨by simp [PV.no, PV.noL, optS_no, noL_iff, nbeq] <;> omega, by intro b ob h; first | exact optH_no (noL_map (fun _ => by simp [PV.no, PV.noL, noL_iff, nbeq]) _) b ob h | (simp only [List.append_assoc, List.mem_append, List.mem_cons, List.mem_singleton, List.not_mem_nil, or_false, Prod.mk.injEq] at h; rcases h with ⟨rfl, rfl⟩ | ⟨rfl, rfl⟩ <;> first | exact noL_map (fun _ => by simp [PV.no, PV.noL, noL_iff, nbeq]) _ | (simp [PV.no, PV.noL, optS_no, noL_iff, nbeq] <;> omega)) | (simp at h; obtain ⟨rfl, rfl⟩ := h; exact noL_map (fun _ => by simp [PV.no, PV.noL, noL_iff, nbeq]) _) | (simp at h; obtain ⟨rfl, rfl⟩ := h; simp [PV.no, PV.noL, optS_no, noL_iff, nbeq] <;> omega)⟩⟩) lt0 ?_)
            rintro _ _ ⟨rfl, rfl⟩
            refine ⟨_, _, rfl, ?_⟩
            refine WalkP.step (p := ?pv1551) 8 rfl rfl rfl rfl rfl (⟨_, _, rfl, rfl, ⟨_, _, rfl, rfl, rfl⟩⟩) ?hv1551 ?rest1551
            case hv1551 =>
             intro E1 H1 hI1
             refine (V1.build rfl rfl zk_46 pl_46 rfl rfl lt0 ?_)
             exact rfl
            refine WalkP.nil (NodeS.branch [9] inNil rfl rfl rfl ⟨?_, trivial⟩)
            ·
             refine ⟨_, _, _, _, rfl, rfl, rfl, (⟨_, _, rfl, rfl, rfl⟩), fun E1 => ?_⟩
             refine (V1.buildSliceT (f := encEvent) ([(⟨y8.1, y9.1⟩ : Event)] : List Event) rfl rfl esz_42 zk_46 rfl rfl rfl rfl rfl rfl rfl lt0 ?_)
             intro b74
             refine ⟨_, _, rfl, ?_⟩
             refine WalkP.nil (NodeS.fin inNil rfl rfl rfl (⟨_, _, rfl, rfl, ⟨_, _, rfl, rfl, ⟨_, _, rfl, rfl, ⟨_, _, rfl, rfl, rfl⟩⟩⟩⟩) ?_)
             refine VO.cons rfl (V1.appendMap (k := 4) (f := encEvent) (l := r_Events) (m := ([(⟨y8.1, y9.1⟩ : Event)] : List Event)) rfl rfl rfl rfl rfl esz_42 eby_42 zk_46 rfl rfl rfl (SrcOf.srMap (k := 0) rfl isl_42) hh10 lt0 ?_)
             intro b75
             refine VO.cons rfl (V1.fieldRef rfl rfl fo_44_3 rfl lt0 ?_)
             refine VO.cons rfl (V1.storeRef (k := 5) rfl rfl tyk_42 rfl rfl rfl rfl rfl rfl rfl rfl rfl ?_)
             refine VO.nil ?_
             exact ⟨(((r_Events ++ ([(⟨y8.1, y9.1⟩ : Event)] : List Event)), y9.2), b75), oi hm2, Keeps.mk (ks := [0, 2, 5, 6]) rfl ⟨rfl, rfl, trivial⟩ (⟨_, _, rfl, rfl, ⟨_, _, rfl, rfl, ⟨_, _, rfl, rfl, ⟨_, _, rfl, rfl, rfl⟩⟩⟩⟩) rfl⟩
         ·
          refine ⟨_, _, _, _, rfl, rfl, rfl, (rfl), fun E1 => ?_⟩
          refine (V1.buildSliceT (f := encInt) ([(0 : Int), (20000 : Int)] : List Int) rfl rfl esz_69 zk_3 rfl rfl rfl rfl rfl rfl rfl lt0 ?_)
          intro b76
          refine ⟨_, _, rfl, ?_⟩
          refine WalkP.nil (NodeS.branch [1, 7] inNil rfl rfl rfl ⟨?_, ?_, trivial⟩)
          ·
           refine ⟨_, _, _, _, rfl, rfl, rfl, (⟨_, _, rfl, rfl, rfl⟩), fun E1 => ?_⟩
           refine (V1.loadRef (k := 4) rfl rfl tyk_42 rfl rfl rfl rfl rfl lt0 ?_)
           refine ⟨_, _, rfl, ?_⟩
           refine WalkP.nil (NodeS.branch [7] inNil rfl rfl rfl ⟨?_, trivial⟩)
           ·
            refine ⟨_, _, _, _, rfl, rfl, rfl, (⟨_, _, rfl, rfl, ⟨_, _, rfl, rfl, rfl⟩⟩), fun E1 => ?_⟩
            refine (V1.callM 1 (rn + ρ0 + 1) [b76] [.ref bp 3 0 0, .vl (rn + ρ0 + 1) 1 (List.map encInt ([(0 : Int), (20000 : Int)] : List Int))] (p := (bp, ⟨3, [encCur ρ0 y8.2]⟩)) rfl rfl rfl cok_50 rfl rfl ⟨_, _, rfl, .same _, ⟨_, _, rfl, Lend.srMap 0 rfl (fun _ => rfl) (.head _), rfl⟩⟩ (bwCons (k := 0) rfl bwNil) (ok_spec_l1Cur_among hh9) rfl (.inr ⟨(by first | omega | (dsimp only; omega)), by rintro _ _ ⟨rfl, rfl⟩; exact ⟨by simp [PV.no, PV.noL, optS_no, noL_iff, nbeq] <;> omega, by intro b ob h; first | exact optH_no (noL_map (fun _ => by simp [PV.no, PV.noL, noL_iff, nbeq]) _) b ob h | (simp only [List.append_assoc, List.mem_append, List.mem_cons, List.mem_singleton, List.not_mem_nil, or_false, Prod.mk.injEq] at h; rcases h with ⟨rfl, rfl⟩ | ⟨rfl, rfl⟩ <;> first | exact noL_map (fun _ => by simp [PV.no, PV.noL, noL_iff, nbeq]) _ | (simp [PV.no, PV.noL, optS_no, noL_iff, nbeq] <;> omega)) | (simp at h; obtain ⟨rfl, rfl⟩ := h; exact noL_map (fun _ => by simp [PV.no, PV.noL, noL_iff, nbeq]) _) | (simp at h; obtain ⟨rfl, rfl⟩ := h; simp [PV.no, PV.noL, optS_no, noL_iff, nbeq] <;> omega)⟩⟩) lt0 ?_)
            rintro _ _ ⟨rfl, rfl⟩
            refine ⟨_, _, rfl, ?_⟩
            refine WalkP.step (p := ?pv1552) 8 rfl rfl rfl rfl rfl (⟨_, _, rfl, rfl, ⟨_, _, rfl, rfl, rfl⟩⟩) ?hv1552 ?rest1552
            case hv1552 =>
             intro E1 H1 hI1
             refine (V1.build rfl rfl zk_46 pl_46 rfl rfl lt0 ?_)
             exact rfl
            refine WalkP.nil (NodeS.branch [9] inNil rfl rfl rfl ⟨?_, trivial⟩)
            ·
             refine ⟨_, _, _, _, rfl, rfl, rfl, (⟨_, _, rfl, rfl, rfl⟩), fun E1 => ?_⟩
             refine (V1.buildSliceT (f := encEvent) ([(⟨y8.1, y9.1⟩ : Event)] : List Event) rfl rfl esz_42 zk_46 rfl rfl rfl rfl rfl rfl rfl lt0 ?_)
             intro b77
             refine ⟨_, _, rfl, ?_⟩
             refine WalkP.nil (NodeS.fin inNil rfl rfl rfl (⟨_, _, rfl, rfl, ⟨_, _, rfl, rfl, ⟨_, _, rfl, rfl, ⟨_, _, rfl, rfl, rfl⟩⟩⟩⟩) ?_)
             refine VO.cons rfl (V1.appendMap (k := 4) (f := encEvent) (l := r_Events) (m := ([(⟨y8.1, y9.1⟩ : Event)] : List Event)) rfl rfl rfl rfl rfl esz_42 eby_42 zk_46 rfl rfl rfl (SrcOf.srMap (k := 0) rfl isl_42) hh10 lt0 ?_)
             intro b78
             refine VO.cons rfl (V1.fieldRef rfl rfl fo_44_3 rfl lt0 ?_)
             refine VO.cons rfl (V1.storeRef (k := 5) rfl rfl tyk_42 rfl rfl rfl rfl rfl rfl rfl rfl rfl ?_)
             refine VO.nil ?_
             exact ⟨(((r_Events ++ ([(⟨y8.1, y9.1⟩ : Event)] : List Event)), y9.2), b78), oi hm2, Keeps.mk (ks := [0, 2, 5, 6]) rfl ⟨rfl, rfl, trivial⟩ (⟨_, _, rfl, rfl, ⟨_, _, rfl, rfl, ⟨_, _, rfl, rfl, ⟨_, _, rfl, rfl, rfl⟩⟩⟩⟩) rfl⟩
          ·
           refine ⟨_, _, _, _, rfl, rfl, rfl, (⟨_, _, rfl, rfl, ⟨_, _, rfl, rfl, rfl⟩⟩), fun E1 => ?_⟩
           refine (V1.callM 1 (rn + ρ0 + 1) [b76] [.ref bp 3 0 0, .vl (rn + ρ0 + 1) 1 (List.map encInt ([(0 : Int), (20000 : Int)] : List Int))] (p := (bp, ⟨3, [encCur ρ0 y8.2]⟩)) rfl rfl rfl cok_50 rfl rfl ⟨_, _, rfl, .same _, ⟨_, _, rfl, Lend.srMap 0 rfl (fun _ => rfl) (.head _), rfl⟩⟩ (bwCons (k := 0) rfl bwNil) (ok_spec_l1Cur_among hh9) rfl (.inr ⟨(by first | omega | (dsimp only; omega)), by rintro _ _ ⟨rfl, rfl⟩; exact ⟨by simp [PV.no, PV.noL, optS_no, noL_iff, nbeq] <;> omega, by intro b ob h; first | exact optH_no (noL_map (fun _ => by simp [PV.no, PV.noL, noL_iff, nbeq]) _) b ob h | (simp only [List.append_assoc, List.mem_append, List.mem_cons, List.mem_singleton, List.not_mem_nil, or_false, Prod.mk.injEq] at h; rcases h with ⟨rfl, rfl⟩ | ⟨rfl, rfl⟩ <;> first | exact noL_map (fun _ => by simp [PV.no, PV.noL, noL_iff, nbeq]) _ | (simp [PV.no, PV.noL, optS_no, noL_iff, nbeq] <;> omega)) | (simp at h; obtain ⟨rfl, rfl⟩ := h; exact noL_map (fun _ => by simp [PV.no, PV.noL, noL_iff, nbeq]) _) | (simp at h; obtain ⟨rfl, rfl⟩ := h; simp [PV.no, PV.noL, optS_no, noL_iff, nbeq] <;> omega)⟩⟩) lt0 ?_)
           rintro _ _ ⟨rfl, rfl⟩
           refine ⟨_, _, rfl, ?_⟩
           refine WalkP.step (p := ?pv1553) 8 rfl rfl rfl rfl rfl (⟨_, _, rfl, rfl, ⟨_, _, rfl, rfl, rfl⟩⟩) ?hv1553 ?rest1553
           case hv1553 =>
            intro E1 H1 hI1
            refine (V1.build rfl rfl zk_46 pl_46 rfl rfl lt0 ?_)
            exact rfl
           refine WalkP.nil (NodeS.branch [1, 9] inNil rfl rfl rfl ⟨?_, ?_, trivial⟩)
           ·
            refine ⟨_, _, _, _, rfl, rfl, rfl, (⟨_, _, rfl, rfl, rfl⟩), fun E1 => ?_⟩
            refine (V1.loadRef (k := 4) rfl rfl tyk_42 rfl rfl rfl rfl rfl lt0 ?_)
            refine ⟨_, _, rfl, ?_⟩
            refine WalkP.nil (NodeS.branch [9] inNil rfl rfl rfl ⟨?_, trivial⟩)
            ·
             refine ⟨_, _, _, _, rfl, rfl, rfl, (⟨_, _, rfl, rfl, rfl⟩), fun E1 => ?_⟩
             refine (V1.buildSliceT (f := encEvent) ([(⟨y8.1, y9.1⟩ : Event)] : List Event) rfl rfl esz_42 zk_46 rfl rfl rfl rfl rfl rfl rfl lt0 ?_)
             intro b79
             refine ⟨_, _, rfl, ?_⟩
             refine WalkP.nil (NodeS.fin inNil rfl rfl rfl (⟨_, _, rfl, rfl, ⟨_, _, rfl, rfl, ⟨_, _, rfl, rfl, ⟨_, _, rfl, rfl, rfl⟩⟩⟩⟩) ?_)
             refine VO.cons rfl (V1.appendMap (k := 4) (f := encEvent) (l := r_Events) (m := ([(⟨y8.1, y9.1⟩ : Event)] : List Event)) rfl rfl rfl rfl rfl esz_42 eby_42 zk_46 rfl rfl rfl (SrcOf.srMap (k := 0) rfl isl_42) hh10 lt0 ?_)
             intro b80
             refine VO.cons rfl (V1.fieldRef rfl rfl fo_44_3 rfl lt0 ?_)
             refine VO.cons rfl (V1.storeRef (k := 5) rfl rfl tyk_42 rfl rfl rfl rfl rfl rfl rfl rfl rfl ?_)
             refine VO.nil ?_
             exact ⟨(((r_Events ++ ([(⟨y8.1, y9.1⟩ : Event)] : List Event)), y9.2), b80), oi hm2, Keeps.mk (ks := [0, 2, 5, 6]) rfl ⟨rfl, rfl, trivial⟩ (⟨_, _, rfl, rfl, ⟨_, _, rfl, rfl, ⟨_, _, rfl, rfl, ⟨_, _, rfl, rfl, rfl⟩⟩⟩⟩) rfl⟩
           ·
            refine ⟨_, _, _, _, rfl, rfl, rfl, (⟨_, _, rfl, rfl, rfl⟩), fun E1 => ?_⟩
            refine (V1.buildSliceT (f := encEvent) ([(⟨y8.1, y9.1⟩ : Event)] : List Event) rfl rfl esz_42 zk_46 rfl rfl rfl rfl rfl rfl rfl lt0 ?_)
            intro b81
            refine ⟨_, _, rfl, ?_⟩
            refine WalkP.nil (NodeS.branch [1] inNil rfl rfl rfl ⟨?_, trivial⟩)
            ·
             refine ⟨_, _, _, _, rfl, rfl, rfl, (⟨_, _, rfl, rfl, rfl⟩), fun E1 => ?_⟩
             refine (V1.loadRef (k := 5) rfl rfl tyk_42 rfl rfl rfl rfl rfl lt0 ?_)
             refine ⟨_, _, rfl, ?_⟩
             refine WalkP.nil (NodeS.fin inNil rfl rfl rfl (⟨_, _, rfl, rfl, ⟨_, _, rfl, rfl, ⟨_, _, rfl, rfl, ⟨_, _, rfl, rfl, rfl⟩⟩⟩⟩) ?_)
             refine VO.cons rfl (V1.appendMap (k := 4) (f := encEvent) (l := r_Events) (m := ([(⟨y8.1, y9.1⟩ : Event)] : List Event)) rfl rfl rfl rfl rfl esz_42 eby_42 zk_46 rfl rfl rfl (SrcOf.srMap (k := 0) rfl isl_42) hh10 lt0 ?_)
             intro b82
             refine VO.cons rfl (V1.fieldRef rfl rfl fo_44_3 rfl lt0 ?_)
             refine VO.cons rfl (V1.storeRef (k := 5) rfl rfl tyk_42 rfl rfl rfl rfl rfl rfl rfl rfl rfl ?_)
             refine VO.nil ?_
             exact ⟨(((r_Events ++ ([(⟨y8.1, y9.1⟩ : Event)] : List Event)), y9.2), b82), oi hm2, Keeps.mk (ks := [0, 2, 5, 6]) rfl ⟨rfl, rfl, trivial⟩ (⟨_, _, rfl, rfl, ⟨_, _, rfl, rfl, ⟨_, _, rfl, rfl, ⟨_, _, rfl, rfl, rfl⟩⟩⟩⟩) rfl⟩
        ·
         refine ⟨_, _, _, _, rfl, rfl, rfl, (rfl), fun E1 => ?_⟩
         refine (V1.buildSliceT (f := encInt) ([(0 : Int), (20000 : Int)] : List Int) rfl rfl esz_69 zk_3 rfl rfl rfl rfl rfl rfl rfl lt0 ?_)
         intro b83
         refine ⟨_, _, rfl, ?_⟩
         refine WalkP.nil (NodeS.branch [1, 4] inNil rfl rfl rfl ⟨?_, ?_, trivial⟩)
         ·
          refine ⟨_, _, _, _, rfl, rfl, rfl, (⟨_, _, rfl, rfl, rfl⟩), fun E1 => ?_⟩
          refine (V1.loadRef (k := 4) rfl rfl tyk_42 rfl rfl rfl rfl rfl lt0 ?_)
          refine ⟨_, _, rfl, ?_⟩
          refine WalkP.nil (NodeS.branch [4] inNil rfl rfl rfl ⟨?_, trivial⟩)
          ·
           refine ⟨_, _, _, _, rfl, rfl, rfl, (⟨_, _, rfl, rfl, ⟨_, _, rfl, rfl, rfl⟩⟩), fun E1 => ?_⟩
           refine (V1.callM 2 (rn + ρ0 + 1) [b66] [.ref bp 3 0 0, .vl (rn + ρ0 + 1) 1 (List.map encInt ([(1 : Int), (9 : Int), (10 : Int)] : List Int))] (p := (bp, ⟨3, [encCur ρ0 y5.2]⟩)) rfl rfl rfl cok_50 rfl rfl ⟨_, _, rfl, .same _, ⟨_, _, rfl, Lend.srMap 1 rfl (fun _ => rfl) (.head _), rfl⟩⟩ (bwCons (k := 1) rfl bwNil) (ok_spec_l1Cur_among hh8) rfl (.inr ⟨(by first | omega | (dsimp only; omega)), by rintro _ _ ⟨rfl, rfl⟩; exact ⟨by simp [PV.no, PV.noL, optS_no, noL_iff, nbeq] <;> omega, by intro b ob h; first | exact optH_no (noL_map (fun _ => by simp [PV.no, PV.noL, noL_iff, nbeq]) _) b ob h | (simp only [List.append_assoc, List.mem_append, List.mem_cons, List.mem_singleton, List.not_mem_nil, or_false, Prod.mk.injEq] at h; rcases h with ⟨rfl, rfl⟩ | ⟨rfl, rfl⟩ <;> first | exact noL_map (fun _ => by simp [PV.no, PV.noL, noL_iff, nbeq]) _ | (simp [PV.no, PV.noL, optS_no, noL_iff, nbeq] <;> omega)) | (simp at h; obtain ⟨rfl, rfl⟩ := h; exact noL_map (fun _ => by simp [PV.no, PV.noL, noL_iff, nbeq]) _) | (simp at h; obtain ⟨rfl, rfl⟩ := h; simp [PV.no, PV.noL, optS_no, noL_iff, nbeq] <;> omega)⟩⟩) lt0 ?_)
           rintro _ _ ⟨rfl, rfl⟩
           refine ⟨_, _, rfl, ?_⟩
           refine WalkP.nil (NodeS.branch [7] inNil rfl rfl rfl ⟨?_, trivial⟩)
           ·
            refine ⟨_, _, _, _, rfl, rfl, rfl, (⟨_, _, rfl, rfl, ⟨_, _, rfl, rfl, rfl⟩⟩), fun E1 => ?_⟩
            refine (V1.callM 0 (rn + ρ0 + 1) [b83] [.ref bp 3 0 0, .vl (rn + ρ0 + 1) 1 (List.map encInt ([(0 : Int), (20000 : Int)] : List Int))] (p := (bp, ⟨3, [encCur ρ0 y8.2]⟩)) rfl rfl rfl cok_50 rfl rfl ⟨_, _, rfl, .same _, ⟨_, _, rfl, Lend.srMap 1 rfl (fun _ => rfl) (.head _), rfl⟩⟩ (bwCons (k := 0) rfl bwNil) (ok_spec_l1Cur_among hh9) rfl (.inr ⟨(by first | omega | (dsimp only; omega)), by rintro _ _ ⟨rfl, rfl⟩; exact ⟨by simp [PV.no, PV.noL, optS_no, noL_iff, nbeq] <;> omega, by intro b ob h; first | exact optH_no (noL_map (fun _ => by simp [PV.no, PV.noL, noL_iff, nbeq]) _) b ob h | (simp only [List.append_assoc, List.mem_append, List.mem_cons, List.mem_singleton, List.not_mem_nil, or_false, Prod.mk.injEq] at h; rcases h with ⟨rfl, rfl⟩ | ⟨rfl, rfl⟩ <;> first | exact noL_map (fun _ => by simp [PV.no, PV.noL, noL_iff, nbeq]) _ | (simp [PV.no, PV.noL, optS_no, noL_iff, nbeq] <;> omega)) | (simp at h; obtain ⟨rfl, rfl⟩ := h; exact noL_map (fun _ => by simp [PV.no, PV.noL, noL_iff, nbeq]) _) | (simp at h; obtain ⟨rfl, rfl⟩ := h; simp [PV.no, PV.noL, optS_no, noL_iff, nbeq] <;> omega)⟩⟩) lt0 ?_)
            rintro _ _ ⟨rfl, rfl⟩
            refine ⟨_, _, rfl, ?_⟩
            refine WalkP.step (p := ?pv1554) 8 rfl rfl rfl rfl rfl (⟨_, _, rfl, rfl, ⟨_, _, rfl, rfl, rfl⟩⟩) ?hv1554 ?rest1554
            case hv1554 =>
             intro E1 H1 hI1
             refine (V1.build rfl rfl zk_46 pl_46 rfl rfl lt0 ?_)
             exact rfl
            refine WalkP.nil (NodeS.branch [9] inNil rfl rfl rfl ⟨?_, trivial⟩)
            ·
             refine ⟨_, _, _, _, rfl, rfl, rfl, (⟨_, _, rfl, rfl, rfl⟩), fun E1 => ?_⟩
             refine (V1.buildSliceT (f := encEvent) ([(⟨y8.1, y9.1⟩ : Event)] : List Event) rfl rfl esz_42 zk_46 rfl rfl rfl rfl rfl rfl rfl lt0 ?_)
             intro b84
             refine ⟨_, _, rfl, ?_⟩
             refine WalkP.nil (NodeS.fin inNil rfl rfl rfl (⟨_, _, rfl, rfl, ⟨_, _, rfl, rfl, ⟨_, _, rfl, rfl, ⟨_, _, rfl, rfl, rfl⟩⟩⟩⟩) ?_)
             refine VO.cons rfl (V1.appendMap (k := 4) (f := encEvent) (l := r_Events) (m := ([(⟨y8.1, y9.1⟩ : Event)] : List Event)) rfl rfl rfl rfl rfl esz_42 eby_42 zk_46 rfl rfl rfl (SrcOf.srMap (k := 0) rfl isl_42) hh10 lt0 ?_)
             intro b85
             refine VO.cons rfl (V1.fieldRef rfl rfl fo_44_3 rfl lt0 ?_)
             refine VO.cons rfl (V1.storeRef (k := 5) rfl rfl tyk_42 rfl rfl rfl rfl rfl rfl rfl rfl rfl ?_)
             refine VO.nil ?_
             exact ⟨(((r_Events ++ ([(⟨y8.1, y9.1⟩ : Event)] : List Event)), y9.2), b85), oi hm2, Keeps.mk (ks := [0, 2, 5, 6]) rfl ⟨rfl, rfl, trivial⟩ (⟨_, _, rfl, rfl, ⟨_, _, rfl, rfl, ⟨_, _, rfl, rfl, ⟨_, _, rfl, rfl, rfl⟩⟩⟩⟩) rfl⟩
         ·
          refine ⟨_, _, _, _, rfl, rfl, rfl, (⟨_, _, rfl, rfl, ⟨_, _, rfl, rfl, rfl⟩⟩), fun E1 => ?_⟩
          refine (V1.callM 2 (rn + ρ0 + 1) [b66] [.ref bp 3 0 0, .vl (rn + ρ0 + 1) 1 (List.map encInt ([(1 : Int), (9 : Int), (10 : Int)] : List Int))] (p := (bp, ⟨3, [encCur ρ0 y5.2]⟩)) rfl rfl rfl cok_50 rfl rfl ⟨_, _, rfl, .same _, ⟨_, _, rfl, Lend.srMap 1 rfl (fun _ => rfl) (.head _), rfl⟩⟩ (bwCons (k := 1) rfl bwNil) (ok_spec_l1Cur_among hh8) rfl (.inr ⟨(by first | omega | (dsimp only; omega)), by rintro _ _ ⟨rfl, rfl⟩; exact ⟨by simp [PV.no, PV.noL, optS_no, noL_iff, nbeq] <;> omega, by intro b ob h; first | exact optH_no (noL_map (fun _ => by simp [PV.no, PV.noL, noL_iff, nbeq]) _) b ob h | (simp only [List.append_assoc, List.mem_append, List.mem_cons, List.mem_singleton, List.not_mem_nil, or_false, Prod.mk.injEq] at h; rcases h with ⟨rfl, rfl⟩ | ⟨rfl, rfl⟩ <;> first | exact noL_map (fun _ => by simp [PV.no, PV.noL, noL_iff, nbeq]) _ | (simp [PV.no, PV.noL, optS_no, noL_iff, nbeq] <;> omega)) | (simp at h; obtain ⟨rfl, rfl⟩ := h; exact noL_map (fun _ => by simp [PV.no, PV.noL, noL_iff, nbeq]) _) | (simp at h; obtain ⟨rfl, rfl⟩ := h; simp [PV.no, PV.noL, optS_no, noL_iff, nbeq] <;> omega)⟩⟩) lt0 ?_)
          rintro _ _ ⟨rfl, rfl⟩
          refine ⟨_, _, rfl, ?_⟩
          refine WalkP.nil (NodeS.branch [1, 7] inNil rfl rfl rfl ⟨?_, ?_, trivial⟩)
          ·
           refine ⟨_, _, _, _, rfl, rfl, rfl, (⟨_, _, rfl, rfl, rfl⟩), fun E1 => ?_⟩
           refine (V1.loadRef (k := 4) rfl rfl tyk_42 rfl rfl rfl rfl rfl lt0 ?_)
           refine ⟨_, _, rfl, ?_⟩
           refine WalkP.nil (NodeS.branch [7] inNil rfl rfl rfl ⟨?_, trivial⟩)
           ·
            refine ⟨_, _, _, _, rfl, rfl, rfl, (⟨_, _, rfl, rfl, ⟨_, _, rfl, rfl, rfl⟩⟩), fun E1 => ?_⟩
            refine (V1.callM 0 (rn + ρ0 + 1) [b83] [.ref bp 3 0 0, .vl (rn + ρ0 + 1) 1 (List.map encInt ([(0 : Int), (20000 : Int)] : List Int))] (p := (bp, ⟨3, [encCur ρ0 y8.2]⟩)) rfl rfl rfl cok_50 rfl rfl ⟨_, _, rfl, .same _, ⟨_, _, rfl, Lend.srMap 1 rfl (fun _ => rfl) (.head _), rfl⟩⟩ (bwCons (k := 0) rfl bwNil) (ok_spec_l1Cur_among hh9) rfl (.inr ⟨(by first | omega | (dsimp only; omega)), by rintro _ _ ⟨rfl, rfl⟩; exact ⟨by simp [PV.no, PV.noL, optS_no, noL_iff, nbeq] <;> omega, by intro b ob h; first | exact optH_no (noL_map (fun _ => by simp [PV.no, PV.noL, noL_iff, nbeq]) _) b ob h | (simp only [List.append_assoc, List.mem_append, List.mem_cons, List.mem_singleton, List.not_mem_nil, or_false, Prod.mk.injEq] at h; rcases h with ⟨rfl, rfl⟩ | ⟨rfl, rfl⟩ <;> first | exact noL_map (fun _ => by simp [PV.no, PV.noL, noL_iff, nbeq]) _ | (simp [PV.no, PV.noL, optS_no, noL_iff, nbeq] <;> omega)) | (simp at h; obtain ⟨rfl, rfl⟩ := h; exact noL_map (fun _ => by simp [PV.no, PV.noL, noL_iff, nbeq]) _) | (simp at h; obtain ⟨rfl, rfl⟩ := h; simp [PV.no, PV.noL, optS_no, noL_iff, nbeq] <;> omega)⟩⟩) lt0 ?_)
            rintro _ _ ⟨rfl, rfl⟩
            refine ⟨_, _, rfl, ?_⟩
            refine WalkP.step (p := ?pv1555) 8 rfl rfl rfl rfl rfl (⟨_, _, rfl, rfl, ⟨_, _, rfl, rfl, rfl⟩⟩) ?hv1555 ?rest1555
            case hv1555 =>
             intro E1 H1 hI1
             refine (V1.build rfl rfl zk_46 pl_46 rfl rfl lt0 ?_)
             exact rfl
            refine WalkP.nil (NodeS.branch [9] inNil rfl rfl rfl ⟨?_, trivial⟩)
            ·
             refine ⟨_, _, _, _, rfl, rfl, rfl, (⟨_, _, rfl, rfl, rfl⟩), fun E1 => ?_⟩
             refine (V1.buildSliceT (f := encEvent) ([(⟨y8.1, y9.1⟩ : Event)] : List Event) rfl rfl esz_42 zk_46 rfl rfl rfl rfl rfl rfl rfl lt0 ?_)
             intro b86
             refine ⟨_, _, rfl, ?_⟩
             refine WalkP.nil (NodeS.fin inNil rfl rfl rfl (⟨_, _, rfl, rfl, ⟨_, _, rfl, rfl, ⟨_, _, rfl, rfl, ⟨_, _, rfl, rfl, rfl⟩⟩⟩⟩) ?_)
             refine VO.cons rfl (V1.appendMap (k := 4) (f := encEvent) (l := r_Events) (m := ([(⟨y8.1, y9.1⟩ : Event)] : List Event)) rfl rfl rfl rfl rfl esz_42 eby_42 zk_46 rfl rfl rfl (SrcOf.srMap (k := 0) rfl isl_42) hh10 lt0 ?_)
             intro b87
             refine VO.cons rfl (V1.fieldRef rfl rfl fo_44_3 rfl lt0 ?_)
             refine VO.cons rfl (V1.storeRef (k := 5) rfl rfl tyk_42 rfl rfl rfl rfl rfl rfl rfl rfl rfl ?_)
             refine VO.nil ?_
             exact ⟨(((r_Events ++ ([(⟨y8.1, y9.1⟩ : Event)] : List Event)), y9.2), b87), oi hm2, Keeps.mk (ks := [0, 2, 5, 6]) rfl ⟨rfl, rfl, trivial⟩ (⟨_, _, rfl, rfl, ⟨_, _, rfl, rfl, ⟨_, _, rfl, rfl, ⟨_, _, rfl, rfl, rfl⟩⟩⟩⟩) rfl⟩
          ·
           refine ⟨_, _, _, _, rfl, rfl, rfl, (⟨_, _, rfl, rfl, ⟨_, _, rfl, rfl, rfl⟩⟩), fun E1 => ?_⟩
           refine (V1.callM 0 (rn + ρ0 + 1) [b83] [.ref bp 3 0 0, .vl (rn + ρ0 + 1) 1 (List.map encInt ([(0 : Int), (20000 : Int)] : List Int))] (p := (bp, ⟨3, [encCur ρ0 y8.2]⟩)) rfl rfl rfl cok_50 rfl rfl ⟨_, _, rfl, .same _, ⟨_, _, rfl, Lend.srMap 1 rfl (fun _ => rfl) (.head _), rfl⟩⟩ (bwCons (k := 0) rfl bwNil) (ok_spec_l1Cur_among hh9) rfl (.inr ⟨(by first | omega | (dsimp only; omega)), by rintro _ _ ⟨rfl, rfl⟩; exact ⟨by simp [PV.no, PV.noL, optS_no, noL_iff, nbeq] <;> omega, by intro b ob h; first | exact optH_no (noL_map (fun _ => by simp [PV.no, PV.noL, noL_iff, nbeq]) _) b ob h | (simp only [List.append_assoc, List.mem_append, List.mem_cons, List.mem_singleton, List.not_mem_nil, or_false, Prod.mk.injEq] at h; rcases h with ⟨rfl, rfl⟩ | ⟨rfl, rfl⟩ <;> first | exact noL_map (fun _ => by simp [PV.no, PV.noL, noL_iff, nbeq]) _ | (simp [PV.no, PV.noL, optS_no, noL_iff, nbeq] <;> omega)) | (simp at h; obtain ⟨rfl, rfl⟩ := h; exact noL_map (fun _ => by simp [PV.no, PV.noL, noL_iff, nbeq]) _) | (simp at h; obtain ⟨rfl, rfl⟩ := h; simp [PV.no, PV.noL, optS_no, noL_iff, nbeq] <;> omega)⟩⟩) lt0 ?_)
           rintro _ _ ⟨rfl, rfl⟩
           refine ⟨_, _, rfl, ?_⟩
           refine WalkP.step (p := ?pv1556) 8 rfl rfl rfl rfl rfl (⟨_, _, rfl, rfl, ⟨_, _, rfl, rfl, rfl⟩⟩) ?hv1556 ?rest1556
           case hv1556 =>
            intro E1 H1 hI1
            refine (V1.build rfl rfl zk_46 pl_46 rfl rfl lt0 ?_)
            exact rfl
           refine WalkP.nil (NodeS.branch [1, 9] inNil rfl rfl rfl ⟨?_, ?_, trivial⟩)
           ·
            refine ⟨_, _, _, _, rfl, rfl, rfl, (⟨_, _, rfl, rfl, rfl⟩), fun E1 => ?_⟩
            refine (V1.loadRef (k := 4) rfl rfl tyk_42 rfl rfl rfl rfl rfl lt0 ?_)
            refine ⟨_, _, rfl, ?_⟩
            refine WalkP.nil (NodeS.branch [9] inNil rfl rfl rfl ⟨?_, trivial⟩)
            ·
             refine ⟨_, _, _, _, rfl, rfl, rfl, (⟨_, _, rfl, rfl, rfl⟩), fun E1 => ?_⟩
             refine (V1.buildSliceT (f := encEvent) ([(⟨y8.1, y9.1⟩ : Event)] : List Event) rfl rfl esz_42 zk_46 rfl rfl rfl rfl rfl rfl rfl lt0 ?_)
             intro b88
             refine ⟨_, _, rfl, ?_⟩
             refine WalkP.nil (NodeS.fin inNil rfl rfl rfl (⟨_, _, rfl, rfl, ⟨_, _, rfl, rfl, ⟨_, _, rfl, rfl, ⟨_, _, rfl, rfl, rfl⟩⟩⟩⟩) ?_)
             refine VO.cons rfl (V1.appendMap (k := 4) (f := encEvent) (l := r_Events) (m := ([(⟨y8.1, y9.1⟩ : Event)] : List Event)) rfl rfl rfl rfl rfl esz_42 eby_42 zk_46 rfl rfl rfl (SrcOf.srMap (k := 0) rfl isl_42) hh10 lt0 ?_)
             intro b89
             refine VO.cons rfl (V1.fieldRef rfl rfl fo_44_3 rfl lt0 ?_)
             refine VO.cons rfl (V1.storeRef (k := 5) rfl rfl tyk_42 rfl rfl rfl rfl rfl rfl rfl rfl rfl ?_)
             refine VO.nil ?_
             exact ⟨(((r_Events ++ ([(⟨y8.1, y9.1⟩ : Event)] : List Event)), y9.2), b89), oi hm2, Keeps.mk (ks := [0, 2, 5, 6]) rfl ⟨rfl, rfl, trivial⟩ (⟨_, _, rfl, rfl, ⟨_, _, rfl, rfl, ⟨_, _, rfl, rfl, ⟨_, _, rfl, rfl, rfl⟩⟩⟩⟩) rfl⟩
           ·
            refine ⟨_, _, _, _, rfl, rfl, rfl, (⟨_, _, rfl, rfl, rfl⟩), fun E1 => ?_⟩
            refine (V1.buildSliceT (f := encEvent) ([(⟨y8.1, y9.1⟩ : Event)] : List Event) rfl rfl esz_42 zk_46 rfl rfl rfl rfl rfl rfl rfl lt0 ?_)
            intro b90
            refine ⟨_, _, rfl, ?_⟩
            refine WalkP.nil (NodeS.branch [1] inNil rfl rfl rfl ⟨?_, trivial⟩)
            ·
             refine ⟨_, _, _, _, rfl, rfl, rfl, (⟨_, _, rfl, rfl, rfl⟩), fun E1 => ?_⟩
             refine (V1.loadRef (k := 5) rfl rfl tyk_42 rfl rfl rfl rfl rfl lt0 ?_)
             refine ⟨_, _, rfl, ?_⟩
             refine WalkP.nil (NodeS.fin inNil rfl rfl rfl (⟨_, _, rfl, rfl, ⟨_, _, rfl, rfl, ⟨_, _, rfl, rfl, ⟨_, _, rfl, rfl, rfl⟩⟩⟩⟩) ?_)
             refine VO.cons rfl (V1.appendMap (k := 4) (f := encEvent) (l := r_Events) (m := ([(⟨y8.1, y9.1⟩ : Event)] : List Event)) rfl rfl rfl rfl rfl esz_42 eby_42 zk_46 rfl rfl rfl (SrcOf.srMap (k := 0) rfl isl_42) hh10 lt0 ?_)
             intro b91
             refine VO.cons rfl (V1.fieldRef rfl rfl fo_44_3 rfl lt0 ?_)
             refine VO.cons rfl (V1.storeRef (k := 5) rfl rfl tyk_42 rfl rfl rfl rfl rfl rfl rfl rfl rfl ?_)
             refine VO.nil ?_
             exact ⟨(((r_Events ++ ([(⟨y8.1, y9.1⟩ : Event)] : List Event)), y9.2), b91), oi hm2, Keeps.mk (ks := [0, 2, 5, 6]) rfl ⟨rfl, rfl, trivial⟩ (⟨_, _, rfl, rfl, ⟨_, _, rfl, rfl, ⟨_, _, rfl, rfl, ⟨_, _, rfl, rfl, rfl⟩⟩⟩⟩) rfl⟩
       ·
        refine ⟨_, _, _, _, rfl, rfl, rfl, (rfl), fun E1 => ?_⟩
        refine (V1.buildSliceT (f := encInt) ([(0 : Int), (20000 : Int)] : List Int) rfl rfl esz_69 zk_3 rfl rfl rfl rfl rfl rfl rfl lt0 ?_)
        intro b92
        refine ⟨_, _, rfl, ?_⟩
        refine WalkP.nil (NodeS.branch [1, 3] inNil rfl rfl rfl ⟨?_, ?_, trivial⟩)
        ·
         refine ⟨_, _, _, _, rfl, rfl, rfl, (⟨_, _, rfl, rfl, rfl⟩), fun E1 => ?_⟩
         refine (V1.loadRef (k := 3) rfl rfl tyk_42 rfl rfl rfl rfl rfl lt0 ?_)
         refine ⟨_, _, rfl, ?_⟩
         refine WalkP.nil (NodeS.branch [3] inNil rfl rfl rfl ⟨?_, trivial⟩)
         ·
          refine ⟨_, _, _, _, rfl, rfl, rfl, (rfl), fun E1 => ?_⟩
          refine (V1.buildSliceT (f := encInt) ([(1 : Int), (9 : Int), (10 : Int)] : List Int) rfl rfl esz_69 zk_3 rfl rfl rfl rfl rfl rfl rfl lt0 ?_)
          intro b93
          refine ⟨_, _, rfl, ?_⟩
          refine WalkP.nil (NodeS.branch [4] inNil rfl rfl rfl ⟨?_, trivial⟩)
          ·
           refine ⟨_, _, _, _, rfl, rfl, rfl, (⟨_, _, rfl, rfl, ⟨_, _, rfl, rfl, rfl⟩⟩), fun E1 => ?_⟩
           refine (V1.callM 2 (rn + ρ0 + 1) [b93] [.ref bp 3 0 0, .vl (rn + ρ0 + 1) 1 (List.map encInt ([(1 : Int), (9 : Int), (10 : Int)] : List Int))] (p := (bp, ⟨3, [encCur ρ0 y5.2]⟩)) rfl rfl rfl cok_50 rfl rfl ⟨_, _, rfl, .same _, ⟨_, _, rfl, Lend.srMap 0 rfl (fun _ => rfl) (.head _), rfl⟩⟩ (bwCons (k := 0) rfl bwNil) (ok_spec_l1Cur_among hh8) rfl (.inr ⟨(by first | omega | (dsimp only; omega)), by rintro _ _ ⟨rfl, rfl⟩; exact ⟨by simp [PV.no, PV.noL, optS_no, noL_iff, nbeq] <;> omega, by intro b ob h; first | exact optH_no (noL_map (fun _ => by simp [PV.no, PV.noL, noL_iff, nbeq]) _) b ob h | (simp only [List.append_assoc, List.mem_append, List.mem_cons, List.mem_singleton, List.not_mem_nil, or_false, Prod.mk.injEq] at h; rcases h with ⟨rfl, rfl⟩ | ⟨rfl, rfl⟩ <;> first | exact noL_map (fun _ => by simp [PV.no, PV.noL, noL_iff, nbeq]) _ | (simp [PV.no, PV.noL, optS_no, noL_iff, nbeq] <;> omega)) | (simp at h; obtain ⟨rfl, rfl⟩ := h; exact noL_map (fun _ => by simp [PV.no, PV.noL, noL_iff, nbeq]) _) | (simp at h; obtain ⟨rfl, rfl⟩ := h; simp [PV.no, PV.noL, optS_no, noL_iff, nbeq] <;> omega)⟩⟩) lt0 ?_)
           rintro _ _ ⟨rfl, rfl⟩
           refine ⟨_, _, rfl, ?_⟩
           refine WalkP.nil (NodeS.branch [7] inNil rfl rfl rfl ⟨?_, trivial⟩)
           ·
            refine ⟨_, _, _, _, rfl, rfl, rfl, (⟨_, _, rfl, rfl, ⟨_, _, rfl, rfl, rfl⟩⟩), fun E1 => ?_⟩
            refine (V1.callM 0 (rn + ρ0 + 1) [b92] [.ref bp 3 0 0, .vl (rn + ρ0 + 1) 1 (List.map encInt ([(0 : Int), (20000 : Int)] : List Int))] (p := (bp, ⟨3, [encCur ρ0 y8.2]⟩)) rfl rfl rfl cok_50 rfl rfl ⟨_, _, rfl, .same _, ⟨_, _, rfl, Lend.srMap 2 rfl (fun _ => rfl) (.head _), rfl⟩⟩ (bwCons (k := 1) rfl bwNil) (ok_spec_l1Cur_among hh9) rfl (.inr ⟨(by first | omega | (dsimp only; omega)), by rintro _ _ ⟨rfl, rfl⟩; exact ⟨by simp [PV.no, PV.noL, optS_no, noL_iff, nbeq] <;> omega, by intro b ob h; first | exact optH_no (noL_map (fun _ => by simp [PV.no, PV.noL, noL_iff, nbeq]) _) b ob h | (simp only [List.append_assoc, List.mem_append, List.mem_cons, List.mem_singleton, List.not_mem_nil, or_false, Prod.mk.injEq] at h; rcases h with ⟨rfl, rfl⟩ | ⟨rfl, rfl⟩ <;> first | exact noL_map (fun _ => by simp [PV.no, PV.noL, noL_iff, nbeq]) _ | (simp [PV.no, PV.noL, optS_no, noL_iff, nbeq] <;> omega)) | (simp at h; obtain ⟨rfl, rfl⟩ := h; exact noL_map (fun _ => by simp [PV.no, PV.noL, noL_iff, nbeq]) _) | (simp at h; obtain ⟨rfl, rfl⟩ := h; simp [PV.no, PV.noL, optS_no, noL_iff, nbeq] <;> omega)⟩⟩) lt0 ?_)
            rintro _ _ ⟨rfl, rfl⟩
            refine ⟨_, _, rfl, ?_⟩
            refine WalkP.step (p := ?pv1557) 8 rfl rfl rfl rfl rfl (⟨_, _, rfl, rfl, ⟨_, _, rfl, rfl, rfl⟩⟩) ?hv1557 ?rest1557
            case hv1557 =>
             intro E1 H1 hI1
             refine (V1.build rfl rfl zk_46 pl_46 rfl rfl lt0 ?_)
             exact rfl
            refine WalkP.nil (NodeS.branch [9] inNil rfl rfl rfl ⟨?_, trivial⟩)
            ·
             refine ⟨_, _, _, _, rfl, rfl, rfl, (⟨_, _, rfl, rfl, rfl⟩), fun E1 => ?_⟩
             refine (V1.buildSliceT (f := encEvent) ([(⟨y8.1, y9.1⟩ : Event)] : List Event) rfl rfl esz_42 zk_46 rfl rfl rfl rfl rfl rfl rfl lt0 ?_)
             intro b94
             refine ⟨_, _, rfl, ?_⟩
             refine WalkP.nil (NodeS.fin inNil rfl rfl rfl (⟨_, _, rfl, rfl, ⟨_, _, rfl, rfl, ⟨_, _, rfl, rfl, ⟨_, _, rfl, rfl, rfl⟩⟩⟩⟩) ?_)
             refine VO.cons rfl (V1.appendMap (k := 4) (f := encEvent) (l := r_Events) (m := ([(⟨y8.1, y9.1⟩ : Event)] : List Event)) rfl rfl rfl rfl rfl esz_42 eby_42 zk_46 rfl rfl rfl (SrcOf.srMap (k := 0) rfl isl_42) hh10 lt0 ?_)
             intro b95
             refine VO.cons rfl (V1.fieldRef rfl rfl fo_44_3 rfl lt0 ?_)
             refine VO.cons rfl (V1.storeRef (k := 5) rfl rfl tyk_42 rfl rfl rfl rfl rfl rfl rfl rfl rfl ?_)
             refine VO.nil ?_
             exact ⟨(((r_Events ++ ([(⟨y8.1, y9.1⟩ : Event)] : List Event)), y9.2), b95), oi hm2, Keeps.mk (ks := [0, 2, 5, 6]) rfl ⟨rfl, rfl, trivial⟩ (⟨_, _, rfl, rfl, ⟨_, _, rfl, rfl, ⟨_, _, rfl, rfl, ⟨_, _, rfl, rfl, rfl⟩⟩⟩⟩) rfl⟩
        ·
         refine ⟨_, _, _, _, rfl, rfl, rfl, (rfl), fun E1 => ?_⟩
         refine (V1.buildSliceT (f := encInt) ([(1 : Int), (9 : Int), (10 : Int)] : List Int) rfl rfl esz_69 zk_3 rfl rfl rfl rfl rfl rfl rfl lt0 ?_)
         intro b96
         refine ⟨_, _, rfl, ?_⟩
         refine WalkP.nil (NodeS.branch [1, 4] inNil rfl rfl rfl ⟨?_, ?_, trivial⟩)
         ·
          refine ⟨_, _, _, _, rfl, rfl, rfl, (⟨_, _, rfl, rfl, rfl⟩), fun E1 => ?_⟩
          refine (V1.loadRef (k := 4) rfl rfl tyk_42 rfl rfl rfl rfl rfl lt0 ?_)
          refine ⟨_, _, rfl, ?_⟩
          refine WalkP.nil (NodeS.branch [4] inNil rfl rfl rfl ⟨?_, trivial⟩)
          ·
           refine ⟨_, _, _, _, rfl, rfl, rfl, (⟨_, _, rfl, rfl, ⟨_, _, rfl, rfl, rfl⟩⟩), fun E1 => ?_⟩
           refine (V1.callM 2 (rn + ρ0 + 1) [b96] [.ref bp 3 0 0, .vl (rn + ρ0 + 1) 1 (List.map encInt ([(1 : Int), (9 : Int), (10 : Int)] : List Int))] (p := (bp, ⟨3, [encCur ρ0 y5.2]⟩)) rfl rfl rfl cok_50 rfl rfl ⟨_, _, rfl, .same _, ⟨_, _, rfl, Lend.srMap 0 rfl (fun _ => rfl) (.head _), rfl⟩⟩ (bwCons (k := 0) rfl bwNil) (ok_spec_l1Cur_among hh8) rfl (.inr ⟨(by first | omega | (dsimp only; omega)), by rintro _ _ ⟨rfl, rfl⟩; exact ⟨by simp [PV.no, PV.noL, optS_no, noL_iff, nbeq] <;> omega, by intro b ob h; first | exact optH_no (noL_map (fun _ => by simp [PV.no, PV.noL, noL_iff, nbeq]) _) b ob h | (simp only [List.append_assoc, List.mem_append, List.mem_cons, List.mem_singleton, List.not_mem_nil, or_false, Prod.mk.injEq] at h; rcases h with ⟨rfl, rfl⟩ | ⟨rfl, rfl⟩ <;> first | exact noL_map (fun _ => by simp [PV.no, PV.noL, noL_iff, nbeq]) _ | (simp [PV.no, PV.noL, optS_no, noL_iff, nbeq] <;> omega)) | (simp at h; obtain ⟨rfl, rfl⟩ := h; exact noL_map (fun _ => by simp [PV.no, PV.noL, noL_iff, nbeq]) _) | (simp at h; obtain ⟨rfl, rfl⟩ := h; simp [PV.no, PV.noL, optS_no, noL_iff, nbeq] <;> omega)⟩⟩) lt0 ?_)
           rintro _ _ ⟨rfl, rfl⟩
           refine ⟨_, _, rfl, ?_⟩
           refine WalkP.nil (NodeS.branch [7] inNil rfl rfl rfl ⟨?_, trivial⟩)
           ·
            refine ⟨_, _, _, _, rfl, rfl, rfl, (⟨_, _, rfl, rfl, ⟨_, _, rfl, rfl, rfl⟩⟩), fun E1 => ?_⟩
            refine (V1.callM 0 (rn + ρ0 + 1) [b92] [.ref bp 3 0 0, .vl (rn + ρ0 + 1) 1 (List.map encInt ([(0 : Int), (20000 : Int)] : List Int))] (p := (bp, ⟨3, [encCur ρ0 y8.2]⟩)) rfl rfl rfl cok_50 rfl rfl ⟨_, _, rfl, .same _, ⟨_, _, rfl, Lend.srMap 2 rfl (fun _ => rfl) (.head _), rfl⟩⟩ (bwCons (k := 1) rfl bwNil) (ok_spec_l1Cur_among hh9) rfl (.inr ⟨(by first | omega | (dsimp only; omega)), by rintro _ _ ⟨rfl, rfl⟩; exact ⟨by simp [PV.no, PV.noL, optS_no, noL_iff, nbeq] <;> omega, by intro b ob h; first | exact optH_no (noL_map (fun _ => by simp [PV.no, PV.noL, noL_iff, nbeq]) _) b ob h | (simp only [List.append_assoc, List.mem_append, List.mem_cons, List.mem_singleton, List.not_mem_nil, or_false, Prod.mk.injEq] at h; rcases h with ⟨rfl, rfl⟩ | ⟨rfl, rfl⟩ <;> first | exact noL_map (fun _ => by simp [PV.no, PV.noL, noL_iff, nbeq]) _ | (simp [PV.no, PV.noL, optS_no, noL_iff, nbeq] <;> omega)) | (simp at h; obtain ⟨rfl, rfl⟩ := h; exact noL_map (fun _ => by simp [PV.no, PV.noL, noL_iff, nbeq]) _) | (simp at h; obtain ⟨rfl, rfl⟩ := h; simp [PV.no, PV.noL, optS_no, noL_iff, nbeq] <;> omega)⟩⟩) lt0 ?_)
            rintro _ _ ⟨rfl, rfl⟩
            refine ⟨_, _, rfl, ?_⟩
            refine WalkP.step (p := ?pv1558) 8 rfl rfl rfl rfl rfl (⟨_, _, rfl, rfl, ⟨_, _, rfl, rfl, rfl⟩⟩) ?hv1558 ?rest1558
            case hv1558 =>
             intro E1 H1 hI1
             refine (V1.build rfl rfl zk_46 pl_46 rfl rfl lt0 ?_)
             exact rfl
            refine WalkP.nil (NodeS.branch [9] inNil rfl rfl rfl ⟨?_, trivial⟩)
            ·
             refine ⟨_, _, _, _, rfl, rfl, rfl, (⟨_, _, rfl, rfl, rfl⟩), fun E1 => ?_⟩
             refine (V1.buildSliceT (f := encEvent) ([(⟨y8.1, y9.1⟩ : Event)] : List Event) rfl rfl esz_42 zk_46 rfl rfl rfl rfl rfl rfl rfl lt0 ?_)
             intro b97
             refine ⟨_, _, rfl, ?_⟩
             refine WalkP.nil (NodeS.fin inNil rfl rfl rfl (⟨_, _, rfl, rfl, ⟨_, _, rfl, rfl, ⟨_, _, rfl, rfl, ⟨_, _, rfl, rfl, rfl⟩⟩⟩⟩) ?_)
             refine VO.cons rfl (V1.appendMap (k := 4) (f := encEvent) (l := r_Events) (m := ([(⟨y8.1, y9.1⟩ : Event)] : List Event)) rfl rfl rfl rfl rfl esz_42 eby_42 zk_46 rfl rfl rfl (SrcOf.srMap (k := 0) rfl isl_42) hh10 lt0 ?_)
             intro b98
             refine VO.cons rfl (V1.fieldRef rfl rfl fo_44_3 rfl lt0 ?_)
             refine VO.cons rfl (V1.storeRef (k := 5) rfl rfl tyk_42 rfl rfl rfl rfl rfl rfl rfl rfl rfl ?_)
             refine VO.nil ?_
             exact ⟨(((r_Events ++ ([(⟨y8.1, y9.1⟩ : Event)] : List Event)), y9.2), b98), oi hm2, Keeps.mk (ks := [0, 2, 5, 6]) rfl ⟨rfl, rfl, trivial⟩ (⟨_, _, rfl, rfl, ⟨_, _, rfl, rfl, ⟨_, _, rfl, rfl, ⟨_, _, rfl, rfl, rfl⟩⟩⟩⟩) rfl⟩
         ·
          refine ⟨_, _, _, _, rfl, rfl, rfl, (⟨_, _, rfl, rfl, ⟨_, _, rfl, rfl, rfl⟩⟩), fun E1 => ?_⟩
          refine (V1.callM 2 (rn + ρ0 + 1) [b96] [.ref bp 3 0 0, .vl (rn + ρ0 + 1) 1 (List.map encInt ([(1 : Int), (9 : Int), (10 : Int)] : List Int))] (p := (bp, ⟨3, [encCur ρ0 y5.2]⟩)) rfl rfl rfl cok_50 rfl rfl ⟨_, _, rfl, .same _, ⟨_, _, rfl, Lend.srMap 0 rfl (fun _ => rfl) (.head _), rfl⟩⟩ (bwCons (k := 0) rfl bwNil) (ok_spec_l1Cur_among hh8) rfl (.inr ⟨(by first | omega | (dsimp only; omega)), by rintro _ _ ⟨rfl, rfl⟩; exact ⟨by simp [PV.no, PV.noL, optS_no, noL_iff, nbeq] <;> omega, by intro b ob h; first | exact optH_no (noL_map (fun _ => by simp [PV.no, PV.noL, noL_iff, nbeq]) _) b ob h | (simp only [List.append_assoc, List.mem_append, List.mem_cons, List.mem_singleton, List.not_mem_nil, or_false, Prod.mk.injEq] at h; rcases h with ⟨rfl, rfl⟩ | ⟨rfl, rfl⟩ <;> first | exact noL_map (fun _ => by simp [PV.no, PV.noL, noL_iff, nbeq]) _ | (simp [PV.no, PV.noL, optS_no, noL_iff, nbeq] <;> omega)) | (simp at h; obtain ⟨rfl, rfl⟩ := h; exact noL_map (fun _ => by simp [PV.no, PV.noL, noL_iff, nbeq]) _) | (simp at h; obtain ⟨rfl, rfl⟩ := h; simp [PV.no, PV.noL, optS_no, noL_iff, nbeq] <;> omega)⟩⟩) lt0 ?_)
          rintro _ _ ⟨rfl, rfl⟩
          refine ⟨_, _, rfl, ?_⟩
          refine WalkP.nil (NodeS.branch [1, 7] inNil rfl rfl rfl ⟨?_, ?_, trivial⟩)
          ·
           refine ⟨_, _, _, _, rfl, rfl, rfl, (⟨_, _, rfl, rfl, rfl⟩), fun E1 => ?_⟩
           refine (V1.loadRef (k := 4) rfl rfl tyk_42 rfl rfl rfl rfl rfl lt0 ?_)
           refine ⟨_, _, rfl, ?_⟩
           refine WalkP.nil (NodeS.branch [7] inNil rfl rfl rfl ⟨?_, trivial⟩)
           ·
            refine ⟨_, _, _, _, rfl, rfl, rfl, (⟨_, _, rfl, rfl, ⟨_, _, rfl, rfl, rfl⟩⟩), fun E1 => ?_⟩
            refine (V1.callM 0 (rn + ρ0 + 1) [b92] [.ref bp 3 0 0, .vl (rn + ρ0 + 1) 1 (List.map encInt ([(0 : Int), (20000 : Int)] : List Int))] (p := (bp, ⟨3, [encCur ρ0 y8.2]⟩)) rfl rfl rfl cok_50 rfl rfl ⟨_, _, rfl, .same _, ⟨_, _, rfl, Lend.srMap 2 rfl (fun _ => rfl) (.head _), rfl⟩⟩ (bwCons (k := 1) rfl bwNil) (ok_spec_l1Cur_among hh9) rfl (.inr ⟨(by first | omega | (dsimp only; omega)), by rintro _ _ ⟨rfl, rfl⟩; exact ⟨by simp [PV.no, PV.noL, optS_no, noL_iff, nbeq] <;> omega, by intro b ob h; first | exact optH_no (noL_map (fun _ => by simp [PV.no, PV.noL, noL_iff, nbeq]) _) b ob h | (simp only [List.append_assoc, List.mem_append, List.mem_cons, List.mem_singleton, List.not_mem_nil, or_false, Prod.mk.injEq] at h; rcases h with ⟨rfl, rfl⟩ | ⟨rfl, rfl⟩ <;> first | exact noL_map (fun _ => by simp [PV.no, PV.noL, noL_iff, nbeq]) _ | (simp [PV.no, PV.noL, optS_no, noL_iff, nbeq] <;> omega)) | (simp at h; obtain ⟨rfl, rfl⟩ := h; exact noL_map (fun _ => by simp [PV.no, PV.noL, noL_iff, nbeq]) _) | (simp at h; obtain ⟨rfl, rfl⟩ := h; simp [PV.no, PV.noL, optS_no, noL_iff, nbeq] <;> omega)⟩⟩) lt0 ?_)
            rintro _ _ ⟨rfl, rfl⟩
            refine ⟨_, _, rfl, ?_⟩
            refine WalkP.step (p := ?pv1559) 8 rfl rfl rfl rfl rfl (⟨_, _, rfl, rfl, ⟨_, _, rfl, rfl, rfl⟩⟩) ?hv1559 ?rest1559
            case hv1559 =>
             intro E1 H1 hI1
             refine (V1.build rfl rfl zk_46 pl_46 rfl rfl lt0 ?_)
             exact rfl
            refine WalkP.nil (NodeS.branch [9] inNil rfl rfl rfl ⟨?_, trivial⟩)
            ·
             refine ⟨_, _, _, _, rfl, rfl, rfl, (⟨_, _, rfl, rfl, rfl⟩), fun E1 => ?_⟩
             refine (V1.buildSliceT (f := encEvent) ([(⟨y8.1, y9.1⟩ : Event)] : List Event) rfl rfl esz_42 zk_46 rfl rfl rfl rfl rfl rfl rfl lt0 ?_)
             intro b99
             refine ⟨_, _, rfl, ?_⟩
             refine WalkP.nil (NodeS.fin inNil rfl rfl rfl (⟨_, _, rfl, rfl, ⟨_, _, rfl, rfl, ⟨_, _, rfl, rfl, ⟨_, _, rfl, rfl, rfl⟩⟩⟩⟩) ?_)
             refine VO.cons rfl (V1.appendMap (k := 4) (f := encEvent) (l := r_Events) (m := ([(⟨y8.1, y9.1⟩ : Event)] : List Event)) rfl rfl rfl rfl rfl esz_42 eby_42 zk_46 rfl rfl rfl (SrcOf.srMap (k := 0) rfl isl_42) hh10 lt0 ?_)
             intro b100
             refine VO.cons rfl (V1.fieldRef rfl rfl fo_44_3 rfl lt0 ?_)
             refine VO.cons rfl (V1.storeRef (k := 5) rfl rfl tyk_42 rfl rfl rfl rfl rfl rfl rfl rfl rfl ?_)
             refine VO.nil ?_
             exact ⟨(((r_Events ++ ([(⟨y8.1, y9.1⟩ : Event)] : List Event)), y9.2), b100), oi hm2, Keeps.mk (ks := [0, 2, 5, 6]) rfl ⟨rfl, rfl, trivial⟩ (⟨_, _, rfl, rfl, ⟨_, _, rfl, rfl, ⟨_, _, rfl, rfl, ⟨_, _, rfl, rfl, rfl⟩⟩⟩⟩) rfl⟩
          ·
           refine ⟨_, _, _, _, rfl, rfl, rfl, (⟨_, _, rfl, rfl, ⟨_, _, rfl, rfl, rfl⟩⟩), fun E1 => ?_⟩
           refine (V1.callM 0 (rn + ρ0 + 1) [b92] [.ref bp 3 0 0, .vl (rn + ρ0 + 1) 1 (List.map encInt ([(0 : Int), (20000 : Int)] : List Int))] (p := (bp, ⟨3, [encCur ρ0 y8.2]⟩)) rfl rfl rfl cok_50 rfl rfl ⟨_, _, rfl, .same _, ⟨_, _, rfl, Lend.srMap 2 rfl (fun _ => rfl) (.head _), rfl⟩⟩ (bwCons (k := 1) rfl bwNil) (ok_spec_l1Cur_among hh9) rfl (.inr ⟨(by first | omega | (dsimp only; omega)), by rintro _ _ ⟨rfl, rfl⟩; exact ⟨by simp [PV.no, PV.noL, optS_no, noL_iff, nbeq] <;> omega, by intro b ob h; first | exact optH_no (noL_map (fun _ => by simp [PV.no, PV.noL, noL_iff, nbeq]) _) b ob h | (simp only [List.append_assoc, List.mem_append, List.mem_cons, List.mem_singleton, List.not_mem_nil, or_false, Prod.mk.injEq] at h; rcases h with ⟨rfl, rfl⟩ | ⟨rfl, rfl⟩ <;> first | exact noL_map (fun _ => by simp [PV.no, PV.noL, noL_iff, nbeq]) _ | (simp [PV.no, PV.noL, optS_no, noL_iff, nbeq] <;> omega)) | (simp at h; obtain ⟨rfl, rfl⟩ := h; exact noL_map (fun _ => by simp [PV.no, PV.noL, noL_iff, nbeq]) _) | (simp at h; obtain ⟨rfl, rfl⟩ := h; simp [PV.no, PV.noL, optS_no, noL_iff, nbeq] <;> omega)⟩⟩) lt0 ?_)
           rintro _ _ ⟨rfl, rfl⟩
           refine ⟨_, _, rfl, ?_⟩
           refine WalkP.step (p := ?pv1560) 8 rfl rfl rfl rfl rfl (⟨_, _, rfl, rfl, ⟨_, _, rfl, rfl, rfl⟩⟩) ?hv1560 ?rest1560
           case hv1560 =>
            intro E1 H1 hI1
            refine (V1.build rfl rfl zk_46 pl_46 rfl rfl lt0 ?_)
            exact rfl
           refine WalkP.nil (NodeS.branch [1, 9] inNil rfl rfl rfl ⟨?_, ?_, trivial⟩)
           ·
            refine ⟨_, _, _, _, rfl, rfl, rfl, (⟨_, _, rfl, rfl, rfl⟩), fun E1 => ?_⟩
            refine (V1.loadRef (k := 4) rfl rfl tyk_42 rfl rfl rfl rfl rfl lt0 ?_)
            refine ⟨_, _, rfl, ?_⟩
            refine WalkP.nil (NodeS.branch [9] inNil rfl rfl rfl ⟨?_, trivial⟩)
            ·
             refine ⟨_, _, _, _, rfl, rfl, rfl, (⟨_, _, rfl, rfl, rfl⟩), fun E1 => ?_⟩
             refine (V1.buildSliceT (f := encEvent) ([(⟨y8.1, y9.1⟩ : Event)] : List Event) rfl rfl esz_42 zk_46 rfl rfl rfl rfl rfl rfl rfl lt0 ?_)
             intro b101
             refine ⟨_, _, rfl, ?_⟩
             refine WalkP.nil (NodeS.fin inNil rfl rfl rfl (⟨_, _, rfl, rfl, ⟨_, _, rfl, rfl, ⟨_, _, rfl, rfl, ⟨_, _, rfl, rfl, rfl⟩⟩⟩⟩) ?_)
             refine VO.cons rfl (V1.appendMap (k := 4) (f := encEvent) (l := r_Events) (m := ([(⟨y8.1, y9.1⟩ : Event)] : List Event)) rfl rfl rfl rfl rfl esz_42 eby_42 zk_46 rfl rfl rfl (SrcOf.srMap (k := 0) rfl isl_42) hh10 lt0 ?_)
             intro b102
             refine VO.cons rfl (V1.fieldRef rfl rfl fo_44_3 rfl lt0 ?_)
             refine VO.cons rfl (V1.storeRef (k := 5) rfl rfl tyk_42 rfl rfl rfl rfl rfl rfl rfl rfl rfl ?_)
             refine VO.nil ?_
             exact ⟨(((r_Events ++ ([(⟨y8.1, y9.1⟩ : Event)] : List Event)), y9.2), b102), oi hm2, Keeps.mk (ks := [0, 2, 5, 6]) rfl ⟨rfl, rfl, trivial⟩ (⟨_, _, rfl, rfl, ⟨_, _, rfl, rfl, ⟨_, _, rfl, rfl, ⟨_, _, rfl, rfl, rfl⟩⟩⟩⟩) rfl⟩
           ·
            refine ⟨_, _, _, _, rfl, rfl, rfl, (⟨_, _, rfl, rfl, rfl⟩), fun E1 => ?_⟩
            refine (V1.buildSliceT (f := encEvent) ([(⟨y8.1, y9.1⟩ : Event)] : List Event) rfl rfl esz_42 zk_46 rfl rfl rfl rfl rfl rfl rfl lt0 ?_)
            intro b103
            refine ⟨_, _, rfl, ?_⟩
            refine WalkP.nil (NodeS.branch [1] inNil rfl rfl rfl ⟨?_, trivial⟩)
            ·
             refine ⟨_, _, _, _, rfl, rfl, rfl, (⟨_, _, rfl, rfl, rfl⟩), fun E1 => ?_⟩
             refine (V1.loadRef (k := 5) rfl rfl tyk_42 rfl rfl rfl rfl rfl lt0 ?_)
             refine ⟨_, _, rfl, ?_⟩
             refine WalkP.nil (NodeS.fin inNil rfl rfl rfl (⟨_, _, rfl, rfl, ⟨_, _, rfl, rfl, ⟨_, _, rfl, rfl, ⟨_, _, rfl, rfl, rfl⟩⟩⟩⟩) ?_)
             refine VO.cons rfl (V1.appendMap (k := 4) (f := encEvent) (l := r_Events) (m := ([(⟨y8.1, y9.1⟩ : Event)] : List Event)) rfl rfl rfl rfl rfl esz_42 eby_42 zk_46 rfl rfl rfl (SrcOf.srMap (k := 0) rfl isl_42) hh10 lt0 ?_)
             intro b104
             refine VO.cons rfl (V1.fieldRef rfl rfl fo_44_3 rfl lt0 ?_)
             refine VO.cons rfl (V1.storeRef (k := 5) rfl rfl tyk_42 rfl rfl rfl rfl rfl rfl rfl rfl rfl ?_)
             refine VO.nil ?_
             exact ⟨(((r_Events ++ ([(⟨y8.1, y9.1⟩ : Event)] : List Event)), y9.2), b104), oi hm2, Keeps.mk (ks := [0, 2, 5, 6]) rfl ⟨rfl, rfl, trivial⟩ (⟨_, _, rfl, rfl, ⟨_, _, rfl, rfl, ⟨_, _, rfl, rfl, ⟨_, _, rfl, rfl, rfl⟩⟩⟩⟩) rfl⟩
      ·
       rintro ⟨⟨r_Events4, o⟩, b54⟩ rfl
       try dsimp only at hm1
       exact ⟨((y0.1, y1.1, r_Events4, o), b54), oi hm1, Keeps.mk (ks := [0, 1, 2, 3]) rfl ⟨rfl, rfl, trivial⟩ (⟨_, _, rfl, rfl, ⟨_, _, rfl, rfl, ⟨_, _, rfl, rfl, ⟨_, _, rfl, rfl, rfl⟩⟩⟩⟩) rfl⟩
     ·
      replace hm1 := cond_f hc4 hm1
      refine V.skip ?_
      exact ⟨((y0.1, y1.1, r_Events, y5.2), b5), oi hm1, Keeps.mk (ks := [1, 0, 2, 3]) rfl ⟨rfl, rfl, trivial⟩ (⟨_, _, rfl, rfl, ⟨_, _, rfl, rfl, ⟨_, _, rfl, rfl, ⟨_, _, rfl, rfl, rfl⟩⟩⟩⟩) rfl⟩
  ·
   rintro ⟨⟨r_Series, r_Made, r_Events3, c_3⟩, b47⟩ rfl
   try dsimp only at hm0
   refine V.seq (V.region (VO.cons rfl (V1.loadRefAll (k := 2) rfl rfl tyk_44 rfl rfl rfl rfl rfl lt0 ?_)))
   refine VO.cons rfl (V1.storeRefAll (k := 3) rfl rfl tyk_44 rfl rfl rfl rfl rfl rfl ?_)
   refine VO.nil (V.weakenK (Keeps.freezeG 0 rn [(63, .agg [.int .i64 id_, .int .i64 r_Series, .int .i64 r_Made, .vl rn 2 (List.map encEvent r_Events3)])] [(bp, ⟨3, [encCur ρ0 c_3]⟩), (b4, ⟨4, [.agg [.int .i64 id_, .int .i64 r_Series, .int .i64 r_Made, .vl rn 2 (List.map encEvent r_Events3)]]⟩), (b0, ⟨4, [.agg [.int .i64 id_, .int .i64 r_Series, .int .i64 r_Made, .vl rn 2 (List.map encEvent r_Events3)]]⟩)] (f := encEvent) (l := r_Events3) rfl (fun _ => rfl) ⟨⟨_, rfl, (.agg (.cons .same (.cons .same (.cons .same (.cons .here .nil)))))⟩, trivial⟩ ⟨_, _, rfl, rfl, .inl rfl, ⟨_, _, rfl, rfl, .inr (.cons (.agg (.cons .same (.cons .same (.cons .same (.cons .here .nil))))) .nil), ⟨_, _, rfl, rfl, .inr (.cons (.agg (.cons .same (.cons .same (.cons .same (.cons .here .nil))))) .nil), rfl⟩⟩⟩ rfl (iOne (b := bp) 0 rfl)) ?_)
   refine V.ret ?_
   obtain rfl := oi hm0
   exact ⟨_, _, ⟨_, _, rfl, ⟨_, _, 2, _, rfl, rfl, rfl, rfl, tyk_44, rfl⟩, rfl⟩, (sub1 (k := 0) rfl), rfl, rfl⟩

theorem ok_spec_l1Cur_rule {ρ0 rn bp : Nat} {c : Cur} {r : Rule × Cur} (h : M.spec_l1Cur_rule c = some r) : Does Try.prog 130 [.ref bp 3 0 0] [(bp, ⟨3, [encCur ρ0 c]⟩)] rn (fun x H => x = encRule r.1 ∧ H = [(bp, ⟨3, [encCur ρ0 r.2]⟩)]) := by
 have hm0 := h; clear h; unfold M.spec_l1Cur_rule at hm0
 try dsimp only at hm0
 refine Does.intro (N := 44) Try.func130 rfl rfl rfl rfl ?_
 intro w0 S0
 refine V.seq (V.region (VO.cons rfl (V1.alloc rfl rfl zk_109 lt0 ?_)))
 intro b0
 refine VO.nil (V.seq ?_)
 replace hm0 := bindO hm0; rcases hm0 with ⟨y0, hh0, hm0⟩
 replace hm0 := bindO hm0; rcases hm0 with ⟨y1, hh1, hm0⟩
 replace hm0 := bindO hm0; rcases hm0 with ⟨y2, hh2, hm0⟩
 replace hm0 := bindO hm0; rcases hm0 with ⟨y3, hh3, hm0⟩
 refine V.region (VO.cons rfl (V1.mv ?_))
 refine VO.cons rfl (V1.buildSliceT (f := encInt) ([(1 : Int), (2 : Int), (3 : Int), (3 : Int), (7 : Int), (99 : Int)] : List Int) rfl rfl esz_69 zk_3 rfl rfl rfl rfl rfl rfl rfl lt0 ?_)
 intro b1
 refine VO.cons rfl (V1.callM 2 (rn + ρ0 + 1) [b1] [.ref bp 3 0 0, .vl (rn + ρ0 + 1) 1 (List.map encInt ([(1 : Int), (2 : Int), (3 : Int), (3 : Int), (7 : Int), (99 : Int)] : List Int))] (p := (bp, ⟨3, [encCur ρ0 c]⟩)) rfl rfl rfl cok_50 rfl rfl ⟨_, _, rfl, .same _, ⟨_, _, rfl, Lend.srMap 0 rfl (fun _ => rfl) (.head _), rfl⟩⟩ (bwCons (k := 0) rfl bwNil) (ok_spec_l1Cur_among hh0) rfl (.inr ⟨(by first | omega | (dsimp only; omega)), by rintro _ _ ⟨rfl, rfl⟩; exact ⟨by simp [PV.no, PV.noL, optS_no, noL_iff, nbeq] <;> omega, by intro b ob h; first | exact optH_no (noL_map (fun _ => by simp [PV.no, PV.noL, noL_iff, nbeq]) _) b ob h | (simp only [List.append_assoc, List.mem_append, List.mem_cons, List.mem_singleton, List.not_mem_nil, or_false, Prod.mk.injEq] at h; rcases h with ⟨rfl, rfl⟩ | ⟨rfl, rfl⟩ <;> first | exact noL_map (fun _ => by simp [PV.no, PV.noL, noL_iff, nbeq]) _ | (simp [PV.no, PV.noL, optS_no, noL_iff, nbeq] <;> omega)) | (simp at h; obtain ⟨rfl, rfl⟩ := h; exact noL_map (fun _ => by simp [PV.no, PV.noL, noL_iff, nbeq]) _) | (simp at h; obtain ⟨rfl, rfl⟩ := h; simp [PV.no, PV.noL, optS_no, noL_iff, nbeq] <;> omega)⟩⟩) lt0 ?_)
 rintro _ _ ⟨rfl, rfl⟩
 refine VO.cons rfl (V1.mv ?_)
 refine VO.cons rfl (V1.buildSliceT (f := encInt) ([(0 : Int), (0 : Int), (1 : Int), (2 : Int), (3 : Int), (9 : Int)] : List Int) rfl rfl esz_69 zk_3 rfl rfl rfl rfl rfl rfl rfl lt0 ?_)
 intro b2
 refine VO.cons rfl (V1.callM 1 (rn + ρ0 + 1) [b2] [.ref bp 3 0 0, .vl (rn + ρ0 + 1) 1 (List.map encInt ([(0 : Int), (0 : Int), (1 : Int), (2 : Int), (3 : Int), (9 : Int)] : List Int))] (p := (bp, ⟨3, [encCur ρ0 y0.2]⟩)) rfl rfl rfl cok_50 rfl rfl ⟨_, _, rfl, .same _, ⟨_, _, rfl, Lend.srMap 0 rfl (fun _ => rfl) (.head _), rfl⟩⟩ (bwCons (k := 0) rfl bwNil) (ok_spec_l1Cur_among hh1) rfl (.inr ⟨(by first | omega | (dsimp only; omega)), by rintro _ _ ⟨rfl, rfl⟩; exact ⟨by simp [PV.no, PV.noL, optS_no, noL_iff, nbeq] <;> omega, by intro b ob h; first | exact optH_no (noL_map (fun _ => by simp [PV.no, PV.noL, noL_iff, nbeq]) _) b ob h | (simp only [List.append_assoc, List.mem_append, List.mem_cons, List.mem_singleton, List.not_mem_nil, or_false, Prod.mk.injEq] at h; rcases h with ⟨rfl, rfl⟩ | ⟨rfl, rfl⟩ <;> first | exact noL_map (fun _ => by simp [PV.no, PV.noL, noL_iff, nbeq]) _ | (simp [PV.no, PV.noL, optS_no, noL_iff, nbeq] <;> omega)) | (simp at h; obtain ⟨rfl, rfl⟩ := h; exact noL_map (fun _ => by simp [PV.no, PV.noL, noL_iff, nbeq]) _) | (simp at h; obtain ⟨rfl, rfl⟩ := h; simp [PV.no, PV.noL, optS_no, noL_iff, nbeq] <;> omega)⟩⟩) lt0 ?_)
 rintro _ _ ⟨rfl, rfl⟩
 refine VO.cons rfl (V1.mv ?_)
 refine VO.cons rfl (V1.buildSliceT (f := encInt) ([(0 : Int), (30 : Int), (365 : Int), (400 : Int), (3650 : Int), (20000 : Int)] : List Int) rfl rfl esz_69 zk_3 rfl rfl rfl rfl rfl rfl rfl lt0 ?_)
 intro b3
 refine VO.cons rfl (V1.callM 1 (rn + ρ0 + 1) [b3] [.ref bp 3 0 0, .vl (rn + ρ0 + 1) 1 (List.map encInt ([(0 : Int), (30 : Int), (365 : Int), (400 : Int), (3650 : Int), (20000 : Int)] : List Int))] (p := (bp, ⟨3, [encCur ρ0 y1.2]⟩)) rfl rfl rfl cok_50 rfl rfl ⟨_, _, rfl, .same _, ⟨_, _, rfl, Lend.srMap 0 rfl (fun _ => rfl) (.head _), rfl⟩⟩ (bwCons (k := 0) rfl bwNil) (ok_spec_l1Cur_among hh2) rfl (.inr ⟨(by first | omega | (dsimp only; omega)), by rintro _ _ ⟨rfl, rfl⟩; exact ⟨by simp [PV.no, PV.noL, optS_no, noL_iff, nbeq] <;> omega, by intro b ob h; first | exact optH_no (noL_map (fun _ => by simp [PV.no, PV.noL, noL_iff, nbeq]) _) b ob h | (simp only [List.append_assoc, List.mem_append, List.mem_cons, List.mem_singleton, List.not_mem_nil, or_false, Prod.mk.injEq] at h; rcases h with ⟨rfl, rfl⟩ | ⟨rfl, rfl⟩ <;> first | exact noL_map (fun _ => by simp [PV.no, PV.noL, noL_iff, nbeq]) _ | (simp [PV.no, PV.noL, optS_no, noL_iff, nbeq] <;> omega)) | (simp at h; obtain ⟨rfl, rfl⟩ := h; exact noL_map (fun _ => by simp [PV.no, PV.noL, noL_iff, nbeq]) _) | (simp at h; obtain ⟨rfl, rfl⟩ := h; simp [PV.no, PV.noL, optS_no, noL_iff, nbeq] <;> omega)⟩⟩) lt0 ?_)
 rintro _ _ ⟨rfl, rfl⟩
 refine VO.cons rfl (V1.mv ?_)
 refine VO.cons rfl (V1.callM 0 (rn + ρ0 + 1) [] [.ref bp 3 0 0, .int .i64 (3 : Int)] (p := (bp, ⟨3, [encCur ρ0 y2.2]⟩)) rfl rfl rfl cok_84 rfl rfl ⟨_, _, rfl, .same _, ⟨_, _, rfl, .same _, rfl⟩⟩ bwNil (ok_spec_l1Cur_pick hh3) rfl (.inl rfl) lt0 ?_)
 rintro _ _ ⟨rfl, rfl⟩
 refine VO.cons rfl (V1.it ?_)
 refine VO.cons rfl (V1.build rfl rfl zk_109 pl_109 rfl rfl lt0 ?_)
 refine VO.cons rfl (V1.alloc rfl rfl zk_109 lt0 ?_)
 intro b4
 refine VO.cons rfl (V1.storeRefAll (k := 0) rfl rfl tyk_109 rfl rfl rfl rfl rfl rfl ?_)
 refine VO.nil (V.keep 44 [0, 2, 3] [0, 1, 5] (E0 := [(0, .ref bp 3 0 0), (2, .ref b0 4 0 0), (3, .ref b4 4 0 0)]) (H0 := [(b4, ⟨4, [.agg [.int .i64 y0.1, .int .i64 y1.1, .int .i64 y2.1, .int .i64 (IntKind.i64.wrap ((1 : Int) + y3.1))]]⟩), (bp, ⟨3, [encCur ρ0 y3.2]⟩), (b0, ⟨4, [.agg [.int .i64 (0 : Int), .int .i64 (0 : Int), .int .i64 (0 : Int), .int .i64 (0 : Int)]]⟩)]) rfl (⟨_, _, rfl, rfl, ⟨_, _, rfl, rfl, ⟨_, _, rfl, rfl, rfl⟩⟩⟩) (⟨_, _, rfl, rfl, ⟨_, _, rfl, rfl, ⟨_, _, rfl, rfl, rfl⟩⟩⟩) rfl ?_)
 refine V.seq (V.seq ?_)
 replace hm0 := bindO hm0; rcases hm0 with ⟨y4, hh4, hm0⟩
 refine V.region (VO.cons rfl (V1.mv ?_))
 refine VO.cons rfl (V1.callM 1 (rn + ρ0 + 1) [] [.ref bp 3 0 0, .int .i64 (48 : Int)] (p := (bp, ⟨3, [encCur ρ0 y3.2]⟩)) rfl rfl rfl cok_84 rfl rfl ⟨_, _, rfl, .same _, ⟨_, _, rfl, .same _, rfl⟩⟩ bwNil (ok_spec_l1Cur_pick hh4) rfl (.inl rfl) lt0 ?_)
 rintro _ _ ⟨rfl, rfl⟩
 refine VO.nil ?_
 replace hm0 := bindO hm0; rcases hm0 with ⟨j0, hm1, hm0⟩
 refine V.cutT (D := (Cur × Rule) × (Unit)) (fun ⟨⟨c_, r_⟩, _⟩ => ⟨44, [(2, .ref b0 4 0 0), (3, .ref b4 4 0 0)], [(bp, ⟨3, [encCur ρ0 c_]⟩), (b4, ⟨4, [encRule r_]⟩), (b0, ⟨4, [.agg [.int .i64 (0 : Int), .int .i64 (0 : Int), .int .i64 (0 : Int), .int .i64 (0 : Int)]]⟩)]⟩) (fun ⟨⟨c_, r_⟩, _⟩ => ((c_, r_) = j0)) ?_ ?_
 ·
  refine V.block ?_
  refine V.seq (V.region (VO.cons rfl (V1.it ?_)))
  refine VO.cons rfl (V1.as ?_)
  refine VO.nil (V.cond rfl (fun hc0 => ?_) (fun hc0 => ?_))
  ·
   replace hm1 := cond_t hc0 hm1
   replace hm1 := bindO hm1; rcases hm1 with ⟨y5, hh5, hm1⟩
   refine V.region (VO.cons rfl (V1.mv ?_))
   refine VO.cons rfl (V1.buildSliceT (f := encInt) ([(0 : Int), (100 : Int)] : List Int) rfl rfl esz_69 zk_3 rfl rfl rfl rfl rfl rfl rfl lt0 ?_)
   intro b5
   refine VO.cons rfl (V1.callM 1 (rn + ρ0 + 1) [b5] [.ref bp 3 0 0, .vl (rn + ρ0 + 1) 1 (List.map encInt ([(0 : Int), (100 : Int)] : List Int))] (p := (bp, ⟨3, [encCur ρ0 y4.2]⟩)) rfl rfl rfl cok_50 rfl rfl ⟨_, _, rfl, .same _, ⟨_, _, rfl, Lend.srMap 0 rfl (fun _ => rfl) (.head _), rfl⟩⟩ (bwCons (k := 0) rfl bwNil) (ok_spec_l1Cur_among hh5) rfl (.inr ⟨(by first | omega | (dsimp only; omega)), by rintro _ _ ⟨rfl, rfl⟩; exact ⟨by simp [PV.no, PV.noL, optS_no, noL_iff, nbeq] <;> omega, by intro b ob h; first | exact optH_no (noL_map (fun _ => by simp [PV.no, PV.noL, noL_iff, nbeq]) _) b ob h | (simp only [List.append_assoc, List.mem_append, List.mem_cons, List.mem_singleton, List.not_mem_nil, or_false, Prod.mk.injEq] at h; rcases h with ⟨rfl, rfl⟩ | ⟨rfl, rfl⟩ <;> first | exact noL_map (fun _ => by simp [PV.no, PV.noL, noL_iff, nbeq]) _ | (simp [PV.no, PV.noL, optS_no, noL_iff, nbeq] <;> omega)) | (simp at h; obtain ⟨rfl, rfl⟩ := h; exact noL_map (fun _ => by simp [PV.no, PV.noL, noL_iff, nbeq]) _) | (simp at h; obtain ⟨rfl, rfl⟩ := h; simp [PV.no, PV.noL, optS_no, noL_iff, nbeq] <;> omega)⟩⟩) lt0 ?_)
   rintro _ _ ⟨rfl, rfl⟩
   refine VO.cons rfl (V1.fieldRef rfl rfl fo_109_0 rfl lt0 ?_)
   refine VO.cons rfl (V1.storeRef (k := 2) rfl rfl tyk_3 rfl rfl rfl rfl rfl rfl rfl rfl rfl ?_)
   refine VO.nil ?_
   exact ⟨((y5.2, (⟨y5.1, y1.1, y2.1, (IntKind.i64.wrap ((1 : Int) + y3.1))⟩ : Rule)), ()), oi hm1, Keeps.mk (ks := [0, 2, 3]) rfl ⟨rfl, rfl, trivial⟩ (⟨_, _, rfl, rfl, ⟨_, _, rfl, rfl, ⟨_, _, rfl, rfl, rfl⟩⟩⟩) rfl⟩
  ·
   replace hm1 := cond_f hc0 hm1
   refine V.seq (V.region (VO.cons rfl (V1.it ?_)))
   refine VO.cons rfl (V1.as ?_)
   refine VO.nil (V.keep 44 [0, 2, 3, 18, 25] [0, 1, 2] (E0 := [(0, .ref bp 3 0 0), (2, .ref b0 4 0 0), (3, .ref b4 4 0 0), (18, .int .i64 y4.1), (25, .bool (y4.1 == (1 : Int)))]) (H0 := [(bp, ⟨3, [encCur ρ0 y4.2]⟩), (b4, ⟨4, [.agg [.int .i64 y0.1, .int .i64 y1.1, .int .i64 y2.1, .int .i64 (IntKind.i64.wrap ((1 : Int) + y3.1))]]⟩), (b0, ⟨4, [.agg [.int .i64 (0 : Int), .int .i64 (0 : Int), .int .i64 (0 : Int), .int .i64 (0 : Int)]]⟩)]) rfl (⟨_, _, rfl, rfl, ⟨_, _, rfl, rfl, ⟨_, _, rfl, rfl, ⟨_, _, rfl, rfl, ⟨_, _, rfl, rfl, rfl⟩⟩⟩⟩⟩) (⟨_, _, rfl, rfl, ⟨_, _, rfl, rfl, ⟨_, _, rfl, rfl, rfl⟩⟩⟩) rfl ?_)
   refine V.cond rfl (fun hc1 => ?_) (fun hc1 => ?_)
   ·
    replace hm1 := cond_t hc1 hm1
    replace hm1 := bindO hm1; rcases hm1 with ⟨y6, hh6, hm1⟩
    refine V.region (VO.cons rfl (V1.mv ?_))
    refine VO.cons rfl (V1.buildSliceT (f := encInt) ([(-1 : Int), (10 : Int)] : List Int) rfl rfl esz_69 zk_3 rfl rfl rfl rfl rfl rfl rfl lt0 ?_)
    intro b6
    refine VO.cons rfl (V1.callM 1 (rn + ρ0 + 1) [b6] [.ref bp 3 0 0, .vl (rn + ρ0 + 1) 1 (List.map encInt ([(-1 : Int), (10 : Int)] : List Int))] (p := (bp, ⟨3, [encCur ρ0 y4.2]⟩)) rfl rfl rfl cok_50 rfl rfl ⟨_, _, rfl, .same _, ⟨_, _, rfl, Lend.srMap 0 rfl (fun _ => rfl) (.head _), rfl⟩⟩ (bwCons (k := 0) rfl bwNil) (ok_spec_l1Cur_among hh6) rfl (.inr ⟨(by first | omega | (dsimp only; omega)), by rintro _ _ ⟨rfl, rfl⟩; exact ⟨by simp [PV.no, PV.noL, optS_no, noL_iff, nbeq] <;> omega, by intro b ob h; first | exact optH_no (noL_map (fun _ => by simp [PV.no, PV.noL, noL_iff, nbeq]) _) b ob h | (simp only [List.append_assoc, List.mem_append, List.mem_cons, List.mem_singleton, List.not_mem_nil, or_false, Prod.mk.injEq] at h; rcases h with ⟨rfl, rfl⟩ | ⟨rfl, rfl⟩ <;> first | exact noL_map (fun _ => by simp [PV.no, PV.noL, noL_iff, nbeq]) _ | (simp [PV.no, PV.noL, optS_no, noL_iff, nbeq] <;> omega)) | (simp at h; obtain ⟨rfl, rfl⟩ := h; exact noL_map (fun _ => by simp [PV.no, PV.noL, noL_iff, nbeq]) _) | (simp at h; obtain ⟨rfl, rfl⟩ := h; simp [PV.no, PV.noL, optS_no, noL_iff, nbeq] <;> omega)⟩⟩) lt0 ?_)
    rintro _ _ ⟨rfl, rfl⟩
    refine VO.cons rfl (V1.fieldRef rfl rfl fo_109_1 rfl lt0 ?_)
    refine VO.cons rfl (V1.storeRef (k := 2) rfl rfl tyk_3 rfl rfl rfl rfl rfl rfl rfl rfl rfl ?_)
    refine VO.nil ?_
    exact ⟨((y6.2, (⟨y0.1, y6.1, y2.1, (IntKind.i64.wrap ((1 : Int) + y3.1))⟩ : Rule)), ()), oi hm1, Keeps.mk (ks := [0, 2, 3]) rfl ⟨rfl, rfl, trivial⟩ (⟨_, _, rfl, rfl, ⟨_, _, rfl, rfl, ⟨_, _, rfl, rfl, rfl⟩⟩⟩) rfl⟩
   ·
    replace hm1 := cond_f hc1 hm1
    refine V.seq (V.region (VO.cons rfl (V1.it ?_)))
    refine VO.cons rfl (V1.as ?_)
    refine VO.nil (V.cond rfl (fun hc2 => ?_) (fun hc2 => ?_))
    ·
     replace hm1 := cond_t hc2 hm1
     replace hm1 := bindO hm1; rcases hm1 with ⟨y7, hh7, hm1⟩
     refine V.region (VO.cons rfl (V1.mv ?_))
     refine VO.cons rfl (V1.buildSliceT (f := encInt) ([(-1 : Int), (20001 : Int)] : List Int) rfl rfl esz_69 zk_3 rfl rfl rfl rfl rfl rfl rfl lt0 ?_)
     intro b7
     refine VO.cons rfl (V1.callM 1 (rn + ρ0 + 1) [b7] [.ref bp 3 0 0, .vl (rn + ρ0 + 1) 1 (List.map encInt ([(-1 : Int), (20001 : Int)] : List Int))] (p := (bp, ⟨3, [encCur ρ0 y4.2]⟩)) rfl rfl rfl cok_50 rfl rfl ⟨_, _, rfl, .same _, ⟨_, _, rfl, Lend.srMap 0 rfl (fun _ => rfl) (.head _), rfl⟩⟩ (bwCons (k := 0) rfl bwNil) (ok_spec_l1Cur_among hh7) rfl (.inr ⟨(by first | omega | (dsimp only; omega)), by rintro _ _ ⟨rfl, rfl⟩; exact ⟨by simp [PV.no, PV.noL, optS_no, noL_iff, nbeq] <;> omega, by intro b ob h; first | exact optH_no (noL_map (fun _ => by simp [PV.no, PV.noL, noL_iff, nbeq]) _) b ob h | (simp only [List.append_assoc, List.mem_append, List.mem_cons, List.mem_singleton, List.not_mem_nil, or_false, Prod.mk.injEq] at h; rcases h with ⟨rfl, rfl⟩ | ⟨rfl, rfl⟩ <;> first | exact noL_map (fun _ => by simp [PV.no, PV.noL, noL_iff, nbeq]) _ | (simp [PV.no, PV.noL, optS_no, noL_iff, nbeq] <;> omega)) | (simp at h; obtain ⟨rfl, rfl⟩ := h; exact noL_map (fun _ => by simp [PV.no, PV.noL, noL_iff, nbeq]) _) | (simp at h; obtain ⟨rfl, rfl⟩ := h; simp [PV.no, PV.noL, optS_no, noL_iff, nbeq] <;> omega)⟩⟩) lt0 ?_)
     rintro _ _ ⟨rfl, rfl⟩
     refine VO.cons rfl (V1.fieldRef rfl rfl fo_109_2 rfl lt0 ?_)
     refine VO.cons rfl (V1.storeRef (k := 2) rfl rfl tyk_3 rfl rfl rfl rfl rfl rfl rfl rfl rfl ?_)
     refine VO.nil ?_
     exact ⟨((y7.2, (⟨y0.1, y1.1, y7.1, (IntKind.i64.wrap ((1 : Int) + y3.1))⟩ : Rule)), ()), oi hm1, Keeps.mk (ks := [0, 2, 3]) rfl ⟨rfl, rfl, trivial⟩ (⟨_, _, rfl, rfl, ⟨_, _, rfl, rfl, ⟨_, _, rfl, rfl, rfl⟩⟩⟩) rfl⟩
    ·
     replace hm1 := cond_f hc2 hm1
     refine V.seq (V.region (VO.cons rfl (V1.it ?_)))
     refine VO.cons rfl (V1.as ?_)
     refine VO.nil (V.keep 44 [0, 2, 3, 37] [0, 1, 2] (E0 := [(0, .ref bp 3 0 0), (2, .ref b0 4 0 0), (3, .ref b4 4 0 0), (37, .bool (y4.1 == (3 : Int)))]) (H0 := [(bp, ⟨3, [encCur ρ0 y4.2]⟩), (b4, ⟨4, [.agg [.int .i64 y0.1, .int .i64 y1.1, .int .i64 y2.1, .int .i64 (IntKind.i64.wrap ((1 : Int) + y3.1))]]⟩), (b0, ⟨4, [.agg [.int .i64 (0 : Int), .int .i64 (0 : Int), .int .i64 (0 : Int), .int .i64 (0 : Int)]]⟩)]) rfl (⟨_, _, rfl, rfl, ⟨_, _, rfl, rfl, ⟨_, _, rfl, rfl, ⟨_, _, rfl, rfl, rfl⟩⟩⟩⟩) (⟨_, _, rfl, rfl, ⟨_, _, rfl, rfl, ⟨_, _, rfl, rfl, rfl⟩⟩⟩) rfl ?_)
     refine V.cond rfl (fun hc3 => ?_) (fun hc3 => ?_)
     ·
      replace hm1 := cond_t hc3 hm1
      replace hm1 := bindO hm1; rcases hm1 with ⟨y8, hh8, hm1⟩
      refine V.region (VO.cons rfl (V1.mv ?_))
      refine VO.cons rfl (V1.buildSliceT (f := encInt) ([(0 : Int), (4 : Int)] : List Int) rfl rfl esz_69 zk_3 rfl rfl rfl rfl rfl rfl rfl lt0 ?_)
      intro b8
      refine VO.cons rfl (V1.callM 1 (rn + ρ0 + 1) [b8] [.ref bp 3 0 0, .vl (rn + ρ0 + 1) 1 (List.map encInt ([(0 : Int), (4 : Int)] : List Int))] (p := (bp, ⟨3, [encCur ρ0 y4.2]⟩)) rfl rfl rfl cok_50 rfl rfl ⟨_, _, rfl, .same _, ⟨_, _, rfl, Lend.srMap 0 rfl (fun _ => rfl) (.head _), rfl⟩⟩ (bwCons (k := 0) rfl bwNil) (ok_spec_l1Cur_among hh8) rfl (.inr ⟨(by first | omega | (dsimp only; omega)), by rintro _ _ ⟨rfl, rfl⟩; exact ⟨by simp [PV.no, PV.noL, optS_no, noL_iff, nbeq] <;> omega, by intro b ob h; first | exact optH_no (noL_map (fun _ => by simp [PV.no, PV.noL, noL_iff, nbeq]) _) b ob h | (simp only [List.append_assoc, List.mem_append, List.mem_cons, List.mem_singleton, List.not_mem_nil, or_false, Prod.mk.injEq] at h; rcases h with ⟨rfl, rfl⟩ | ⟨rfl, rfl⟩ <;> first | exact noL_map (fun _ => by simp [PV.no, PV.noL, noL_iff, nbeq]) _ | (simp [PV.no, PV.noL, optS_no, noL_iff, nbeq] <;> omega)) | (simp at h; obtain ⟨rfl, rfl⟩ := h; exact noL_map (fun _ => by simp [PV.no, PV.noL, noL_iff, nbeq]) _) | (simp at h; obtain ⟨rfl, rfl⟩ := h; simp [PV.no, PV.noL, optS_no, noL_iff, nbeq] <;> omega)⟩⟩) lt0 ?_)
      rintro _ _ ⟨rfl, rfl⟩
      refine VO.cons rfl (V1.fieldRef rfl rfl fo_109_3 rfl lt0 ?_)
      refine VO.cons rfl (V1.storeRef (k := 2) rfl rfl tyk_3 rfl rfl rfl rfl rfl rfl rfl rfl rfl ?_)
      refine VO.nil ?_
      exact ⟨((y8.2, (⟨y0.1, y1.1, y2.1, y8.1⟩ : Rule)), ()), oi hm1, Keeps.mk (ks := [0, 2, 3]) rfl ⟨rfl, rfl, trivial⟩ (⟨_, _, rfl, rfl, ⟨_, _, rfl, rfl, ⟨_, _, rfl, rfl, rfl⟩⟩⟩) rfl⟩
     ·
      replace hm1 := cond_f hc3 hm1
      refine V.skip ?_
      exact ⟨((y4.2, (⟨y0.1, y1.1, y2.1, (IntKind.i64.wrap ((1 : Int) + y3.1))⟩ : Rule)), ()), oi hm1, Keeps.mk (ks := [0, 1, 2]) rfl ⟨rfl, rfl, trivial⟩ (⟨_, _, rfl, rfl, ⟨_, _, rfl, rfl, ⟨_, _, rfl, rfl, rfl⟩⟩⟩) rfl⟩
 ·
  rintro ⟨⟨c_, r_⟩, _⟩ rfl
  try dsimp only at hm0
  refine V.seq (V.region (VO.cons rfl (V1.loadRefAll (k := 1) rfl rfl tyk_109 rfl rfl rfl rfl rfl lt0 ?_)))
  refine VO.cons rfl (V1.storeRefAll (k := 2) rfl rfl tyk_109 rfl rfl rfl rfl rfl rfl ?_)
  refine VO.nil (V.ret ?_)
  obtain rfl := oi hm0
  exact ⟨_, _, ⟨_, _, rfl, ⟨_, _, 2, _, rfl, rfl, rfl, rfl, tyk_109, rfl⟩, rfl⟩, (sub1 (k := 0) rfl), rfl, rfl⟩

theorem ok_spec_l1In {rn : Nat} {x : Int} {a : Int} {b_ : Int} {r : Bool} (h : M.spec_l1In x a b_ = some r) : Does Try.prog 60 [.int .i64 x, .int .i64 a, .int .i64 b_] [] rn (fun x H => x = .bool r ∧ H = []) := by
 have hm0 := h; clear h; unfold M.spec_l1In at hm0
 try dsimp only at hm0
 refine Does.intro (N := 15) Try.func60 rfl rfl rfl rfl ?_
 intro w0 S0
 refine V.seq (V.region (VO.cons rfl (V1.as ?_)))
 refine VO.nil (V.seq (V.region (VO.cons rfl (V1.mv ?_))))
 refine VO.cons rfl (V1.mv ?_)
 refine VO.cons rfl (V1.it ?_)
 refine VO.cons rfl (V1.mv ?_)
 apply VO.and (n := 3) rfl rfl rfl rfl rfl rfl lt0 (.none rfl)
 ·
  intro hg0
  refine VO.step (.some rfl rfl rfl) (V1.mv ?_)
  refine VO.step (.some rfl rfl rfl) (V1.mv ?_)
  refine VO.step (.some rfl rfl rfl) (V1.it ?_)
  exact VO.nil ⟨rfl, rfl, rfl, rfl, .inr ⟨rfl, .inr ⟨rfl, .inr ⟨rfl, .inr ⟨rfl, .inl rfl⟩⟩⟩⟩⟩
 refine VO.cons rfl (V1.as ?_)
 refine VO.nil (V.ret ?_)
 obtain rfl := oi hm0
 exact ⟨_, [], ⟨_, _, rfl, rfl, rfl⟩, List.nil_sublist _, rfl, rfl⟩

theorem ok_spec_l4One {rn : Nat} {r_ : Rule} {r : Bool} (h : M.spec_l4One r_ = some r) : Does Try.prog 131 [encRule r_] [] rn (fun x H => x = .bool r ∧ H = []) := by
 have hm0 := h; clear h; unfold M.spec_l4One at hm0
 try dsimp only at hm0
 refine Does.intro (N := 21) Try.func131 rfl rfl rfl rfl ?_
 intro w0 S0
 refine V.seq (V.region (VO.cons rfl (V1.boxN (n := 4) rfl rfl rfl rfl rfl lt0 ?_)))
 intro b0
 refine VO.cons rfl (V1.as ?_)
 refine VO.nil (V.seq ?_)
 replace hm0 := bindO hm0; rcases hm0 with ⟨y0, hh0, hm0⟩
 replace hm0 := bindO hm0; rcases hm0 with ⟨y1, hh1, hm0⟩
 replace hm0 := bindO hm0; rcases hm0 with ⟨y2, hh2, hm0⟩
 replace hm0 := bindO hm0; rcases hm0 with ⟨y3, hh3, hm0⟩
 refine V.region (VO.cons rfl (V1.fieldRef rfl rfl fo_109_0 rfl lt0 ?_))
 refine VO.cons rfl (V1.loadRef (k := 0) rfl rfl tyk_3 rfl rfl rfl rfl rfl lt0 ?_)
 refine VO.cons rfl (V1.call rfl rfl rfl cok_60 rfl (ok_spec_l1In hh0) rfl lt0 ?_)
 rintro _ _ ⟨rfl, rfl⟩
 refine VO.cons rfl (V1.mv ?_)
 apply VO.and (n := 3) rfl rfl rfl rfl rfl rfl lt0 (.none rfl)
 ·
  intro hg0
  refine VO.step (.some rfl rfl rfl) (V1.fieldRef rfl rfl fo_109_1 rfl lt0 ?_)
  refine VO.step (.some rfl rfl rfl) (V1.loadRef (k := 0) rfl rfl tyk_3 rfl rfl rfl rfl rfl lt0 ?_)
  refine VO.step (.some rfl rfl rfl) (V1.call rfl rfl rfl cok_60 rfl (ok_spec_l1In (cond_t hg0 hh1)) rfl lt0 ?_)
  rintro _ _ ⟨rfl, rfl⟩
  exact VO.nil ⟨rfl, rfl, rfl, rfl, .inr ⟨rfl, .inr ⟨rfl, .inr ⟨rfl, .inr ⟨rfl, .inl rfl⟩⟩⟩⟩⟩
 refine VO.cons rfl (V1.mv ?_)
 apply VO.and (n := 3) rfl rfl rfl rfl rfl rfl lt0 (.none rfl)
 ·
  intro hg1
  refine VO.step (.some rfl rfl rfl) (V1.fieldRef rfl rfl fo_109_2 rfl lt0 ?_)
  refine VO.step (.some rfl rfl rfl) (V1.loadRef (k := 0) rfl rfl tyk_3 rfl rfl rfl rfl rfl lt0 ?_)
  refine VO.step (.some rfl rfl rfl) (V1.call rfl rfl rfl cok_60 rfl (ok_spec_l1In (cond_t hg1 hh2)) rfl lt0 ?_)
  rintro _ _ ⟨rfl, rfl⟩
  exact VO.nil ⟨rfl, rfl, rfl, rfl, .inr ⟨rfl, .inr ⟨rfl, .inr ⟨rfl, .inr ⟨rfl, .inl rfl⟩⟩⟩⟩⟩
 refine VO.cons rfl (V1.mv ?_)
 apply VO.and (n := 3) rfl rfl rfl rfl rfl rfl lt0 (.none rfl)
 ·
  intro hg2
  refine VO.step (.some rfl rfl rfl) (V1.fieldRef rfl rfl fo_109_3 rfl lt0 ?_)
  refine VO.step (.some rfl rfl rfl) (V1.loadRef (k := 0) rfl rfl tyk_3 rfl rfl rfl rfl rfl lt0 ?_)
  refine VO.step (.some rfl rfl rfl) (V1.call rfl rfl rfl cok_60 rfl (ok_spec_l1In (cond_t hg2 hh3)) rfl lt0 ?_)
  rintro _ _ ⟨rfl, rfl⟩
  exact VO.nil ⟨rfl, rfl, rfl, rfl, .inr ⟨rfl, .inr ⟨rfl, .inr ⟨rfl, .inr ⟨rfl, .inl rfl⟩⟩⟩⟩⟩
 refine VO.cons rfl (V1.as ?_)
 refine VO.nil (V.ret ?_)
 obtain rfl := oi hm0
 exact ⟨_, [], ⟨_, _, rfl, rfl, rfl⟩, List.nil_sublist _, rfl, rfl⟩

theorem ok_spec_l4Before {rn : Nat} {a : Rule} {b_ : Rule} {r : Bool} (h : M.spec_l4Before a b_ = some r) : Does Try.prog 132 [encRule a, encRule b_] [] rn (fun x H => x = .bool r ∧ H = []) := by
 have hm0 := h; clear h; unfold M.spec_l4Before at hm0
 try dsimp only at hm0
 refine Does.intro (N := 24) Try.func132 rfl rfl rfl rfl ?_
 intro w0 S0
 refine V.seq (V.region (VO.cons rfl (V1.boxN (n := 4) rfl rfl rfl rfl rfl lt0 ?_)))
 intro b0
 refine VO.cons rfl (V1.boxN (n := 4) rfl rfl rfl rfl rfl lt0 ?_)
 intro b1
 refine VO.cons rfl (V1.as ?_)
 refine VO.nil (V.seq (V.region (VO.cons rfl (V1.fieldRef rfl rfl fo_109_0 rfl lt0 ?_))))
 refine VO.cons rfl (V1.loadRef (k := 1) rfl rfl tyk_3 rfl rfl rfl rfl rfl lt0 ?_)
 refine VO.cons rfl (V1.fieldRef rfl rfl fo_109_0 rfl lt0 ?_)
 refine VO.cons rfl (V1.loadRef (k := 0) rfl rfl tyk_3 rfl rfl rfl rfl rfl lt0 ?_)
 refine VO.cons rfl (V1.it ?_)
 refine VO.cons rfl (V1.mv ?_)
 apply VO.or (n := 12) rfl rfl rfl rfl rfl rfl lt0 (.none rfl)
 ·
  intro hg0
  refine VO.step (.some rfl rfl rfl) (V1.fieldRef rfl rfl fo_109_0 rfl lt0 ?_)
  refine VO.step (.some rfl rfl rfl) (V1.loadRef (k := 1) rfl rfl tyk_3 rfl rfl rfl rfl rfl lt0 ?_)
  refine VO.step (.some rfl rfl rfl) (V1.fieldRef rfl rfl fo_109_0 rfl lt0 ?_)
  refine VO.step (.some rfl rfl rfl) (V1.loadRef (k := 0) rfl rfl tyk_3 rfl rfl rfl rfl rfl lt0 ?_)
  refine VO.step (.some rfl rfl rfl) (V1.it ?_)
  refine VO.step (.some rfl rfl rfl) (V1.mv ?_)
  apply VO.and (n := 5) rfl rfl rfl rfl rfl rfl lt0 (.some rfl rfl rfl)
  ·
   intro hg1
   refine VO.step (.some rfl rfl rfl) (V1.fieldRef rfl rfl fo_109_1 rfl lt0 ?_)
   refine VO.step (.some rfl rfl rfl) (V1.loadRef (k := 1) rfl rfl tyk_3 rfl rfl rfl rfl rfl lt0 ?_)
   refine VO.step (.some rfl rfl rfl) (V1.fieldRef rfl rfl fo_109_1 rfl lt0 ?_)
   refine VO.step (.some rfl rfl rfl) (V1.loadRef (k := 0) rfl rfl tyk_3 rfl rfl rfl rfl rfl lt0 ?_)
   refine VO.step (.some rfl rfl rfl) (V1.it ?_)
   exact VO.nil ⟨rfl, rfl, rfl, rfl, .inr ⟨rfl, .inr ⟨rfl, .inr ⟨rfl, .inr ⟨rfl, .inr ⟨rfl, .inr ⟨rfl, .inl rfl⟩⟩⟩⟩⟩⟩⟩
  exact VO.nil ⟨rfl, rfl, rfl, rfl, .inr ⟨rfl, .inr ⟨rfl, .inr ⟨rfl, .inr ⟨rfl, .inr ⟨rfl, .inr ⟨rfl, .inr ⟨rfl, .inr ⟨rfl, .inl rfl⟩⟩⟩⟩⟩⟩⟩⟩⟩
 refine VO.cons rfl (V1.as ?_)
 refine VO.nil (V.ret ?_)
 obtain rfl := oi hm0
 exact ⟨_, [], ⟨_, _, rfl, rfl, rfl⟩, List.nil_sublist _, rfl, rfl⟩

theorem ok_spec_l4Good {ρ0 rn : Nat} {list : List Rule} {r : Bool} (h : M.spec_l4Good list = some r) : Does Try.prog 114 [.vl ρ0 4 (List.map encRule list)] [] rn (fun x H => x = .bool r ∧ H = []) := by
 have hm0 := h; clear h; unfold M.spec_l4Good at hm0
 try dsimp only at hm0
 refine Does.intro (N := 36) Try.func114 rfl rfl rfl rfl ?_
 intro w0 S0
 refine V.seq (V.region (VO.cons rfl (V1.as ?_)))
 refine VO.nil (V.seq (V.seq (V.region (VO.cons rfl (V1.as ?_)))))
 refine VO.nil ?_
 replace hm0 := bindO hm0; rcases hm0 with ⟨e0, he1, hm0⟩
 refine V.cutT (D := (Unit) × (Unit)) (fun ⟨_, _⟩ => ⟨36, [(0, .vl ρ0 4 (List.map encRule list))], []⟩) (fun ⟨_, _⟩ => (.inl () = e0)) ?_ ?_
 ·
  refine V.block ?_
  refine V.keep 36 [3, 0] [] (E0 := [(3, .int .i64 (0 : Int)), (0, .vl ρ0 4 (List.map encRule list))]) (H0 := []) rfl (⟨_, _, rfl, rfl, ⟨_, _, rfl, rfl, rfl⟩⟩) (rfl) rfl ?_
  refine V.loopE (D := Nat × (Int) × (Unit)) (fun ⟨n0, i, _⟩ => [(3, .int .i64 i)]) (fun ⟨n0, i, _⟩ => []) (fun ⟨n0, i, _⟩ => loopO (M.spec_l4Good_l0 list) n0 i = some e0) (fun ⟨n0, _, _⟩ => n0) (rounds, (0 : Int), ()) rfl he1 ?_
  rintro ⟨n0, i, _⟩ hP0
  obtain ⟨m0, y0, rfl, hm1, hl1, hr1⟩ := loop_head hP0
  unfold M.spec_l4Good_l0 at hm1; dsimp only at hm1
  show V _ _ _ ⟨36, [(3, .int .i64 i), (0, .vl ρ0 4 (List.map encRule list))], []⟩
  refine V.seq (V.seq (V.region (VO.cons rfl (V1.mv ?_))))
  refine VO.cons rfl (V1.mv ?_)
  refine VO.cons rfl (V1.lenMap rfl rfl rfl rfl rfl rfl isl_58 lt0 ?_)
  refine VO.cons rfl (V1.it ?_)
  refine VO.nil (V.cond rfl (fun hc0 => ?_) (fun hc0 => ?_))
  ·
   replace hm1 := cond_t hc0 hm1
   refine V.skip ?_
   refine V.keep 36 [0, 3] [] (E0 := [(0, .vl ρ0 4 (List.map encRule list)), (3, .int .i64 i)]) (H0 := []) rfl (⟨_, _, rfl, rfl, ⟨_, _, rfl, rfl, rfl⟩⟩) (rfl) rfl ?_
   refine V.seq (V.block ?_)
   refine V.seq ?_
   replace hm1 := asrt_some hm1; rcases hm1 with ⟨hh0, hm1⟩
   replace hm1 := bindO hm1; rcases hm1 with ⟨y1, hh1, hm1⟩
   replace hm1 := asrt_some hm1; rcases hm1 with ⟨hh2, hm1⟩
   replace hm1 := asrt_some hm1; rcases hm1 with ⟨hh3, hm1⟩
   replace hm1 := bindO hm1; rcases hm1 with ⟨y2, hh4, hm1⟩
   refine V.regionM 36 23 [⟨[(0, none)], [], none⟩, ⟨[(3, none)], [], none⟩, ⟨[(10, some 1), (11, some 0)], [], none⟩, ⟨[(12, some 0)], [], none⟩, ⟨[(13, some 0)], [], none⟩, ⟨[(14, some 0)], [], none⟩, ⟨[(15, some 0)], [], none⟩, ⟨[(3, none)], [(0, false)], none⟩, ⟨[(17, some 0)], [(1, false)], none⟩, ⟨[(18, some 0)], [(2, false)], none⟩, ⟨[(0, none)], [(0, true), (3, false)], none⟩, ⟨[(3, none)], [(1, true), (4, false)], none⟩, ⟨[(21, some 0)], [(2, true), (5, false)], none⟩, ⟨[(20, some 2), (22, some 0)], [(3, true), (6, false)], none⟩, ⟨[(23, some 0)], [(4, true), (7, false)], none⟩, ⟨[(0, none)], [(5, true), (8, false)], none⟩, ⟨[(3, none)], [(6, true), (9, false)], none⟩, ⟨[(25, some 1), (26, some 0)], [(7, true), (10, false)], none⟩, ⟨[(27, some 0)], [(8, true), (11, false)], none⟩, ⟨[(24, some 4), (28, some 0)], [(9, true), (12, false)], none⟩, ⟨[(29, some 0)], [(10, true), (13, false)], none⟩, ⟨[], [(14, false)], some (true, 19, 30, 11, 0)⟩, ⟨[], [], some (false, 16, 31, 15, 0)⟩] [(0, none), (3, none), (32, some 0)] (⟨_, rfl, ⟨_, rfl, ⟨_, rfl, ⟨_, rfl, ⟨_, rfl, ⟨_, rfl, ⟨_, rfl, ⟨_, rfl, ⟨_, rfl, ⟨_, rfl, ⟨_, rfl, ⟨_, rfl, ⟨_, rfl, ⟨_, rfl, ⟨_, rfl, ⟨_, rfl, ⟨_, rfl, ⟨_, rfl, ⟨_, rfl, ⟨_, rfl, ⟨_, rfl, ⟨_, rfl, ⟨_, rfl, ⟨rfl, rfl⟩⟩⟩⟩⟩⟩⟩⟩⟩⟩⟩⟩⟩⟩⟩⟩⟩⟩⟩⟩⟩⟩⟩⟩) mixed_orders rfl (by decide +kernel) (fun hck4 => ?_)
   refine VP.step (p := ?pv169) rfl rfl rfl (⟨_, _, rfl, rfl, rfl⟩) ?hv169 ?rest169 hck4
   case hv169 =>
    intro E1
    refine (V1.mv ?_)
    exact rfl
   refine VP.step (p := ?pv170) rfl rfl rfl (⟨_, _, rfl, rfl, rfl⟩) ?hv170 ?rest170 hck4
   case hv170 =>
    intro E1
    refine (V1.mv ?_)
    exact rfl
   refine VP.step (p := ?pv171) rfl rfl rfl (⟨_, _, rfl, rfl, ⟨_, _, rfl, rfl, rfl⟩⟩) ?hv171 ?rest171 hck4
   case hv171 =>
    intro E1
    refine (V1.indexI rfl rfl esz_58 rfl rfl hh0 lt0 ?_)
    exact rfl
   refine VP.step (p := ?pv172) rfl rfl rfl (⟨_, _, rfl, rfl, rfl⟩) ?hv172 ?rest172 hck4
   case hv172 =>
    intro E1
    refine (V1.loadPinAll rfl rfl tyk_109 rfl rfl lt0 ?_)
    exact rfl
   refine VP.step (p := ?pv173) rfl rfl rfl (⟨_, _, rfl, rfl, rfl⟩) ?hv173 ?rest173 hck4
   case hv173 =>
    intro E1
    refine (V1.call rfl rfl rfl cok_131 rfl (ok_spec_l4One hh1) rfl lt0 ?_)
    rintro _ _ ⟨rfl, rfl⟩
    exact rfl
   refine VP.step (p := ?pv174) rfl rfl rfl (⟨_, _, rfl, rfl, rfl⟩) ?hv174 ?rest174 hck4
   case hv174 =>
    intro E1
    refine (V1.not rfl rfl rfl lt0 ?_)
    exact rfl
   refine VP.step (p := ?pv175) rfl rfl rfl (⟨_, _, rfl, rfl, rfl⟩) ?hv175 ?rest175 hck4
   case hv175 =>
    intro E1
    refine (V1.mv ?_)
    exact rfl
   refine VP.step (p := ?pv176) rfl rfl rfl (⟨_, _, rfl, rfl, rfl⟩) ?hv176 ?rest176 hck4
   case hv176 =>
    refine ⟨_, rfl, fun hg0 => ?_⟩
    intro E1
    refine (V1.mv ?_)
    exact rfl
   refine VP.step (p := ?pv177) rfl rfl rfl (⟨_, _, rfl, rfl, rfl⟩) ?hv177 ?rest177 hck4
   case hv177 =>
    refine ⟨_, rfl, fun hg0 => ?_⟩
    intro E1
    refine (V1.it ?_)
    exact rfl
   refine VP.step (p := ?pv178) rfl rfl rfl (⟨_, _, rfl, rfl, rfl⟩) ?hv178 ?rest178 hck4
   case hv178 =>
    refine ⟨_, rfl, fun hg0 => ?_⟩
    intro E1
    refine (V1.mv ?_)
    exact rfl
   refine VP.step (p := ?pv179) rfl rfl rfl (⟨_, _, rfl, rfl, rfl⟩) ?hv179 ?rest179 hck4
   case hv179 =>
    refine ⟨_, rfl, fun hg1 => ?_⟩
    refine ⟨_, rfl, fun hg0 => ?_⟩
    intro E1
    refine (V1.mv ?_)
    exact rfl
   refine VP.step (p := ?pv180) rfl rfl rfl (⟨_, _, rfl, rfl, rfl⟩) ?hv180 ?rest180 hck4
   case hv180 =>
    refine ⟨_, rfl, fun hg1 => ?_⟩
    refine ⟨_, rfl, fun hg0 => ?_⟩
    intro E1
    refine (V1.mv ?_)
    exact rfl
   refine VP.step (p := ?pv181) rfl rfl rfl (⟨_, _, rfl, rfl, rfl⟩) ?hv181 ?rest181 hck4
   case hv181 =>
    refine ⟨_, rfl, fun hg1 => ?_⟩
    refine ⟨_, rfl, fun hg0 => ?_⟩
    intro E1
    refine (V1.it ?_)
    exact rfl
   refine VP.step (p := ?pv182) rfl rfl rfl (⟨_, _, rfl, rfl, ⟨_, _, rfl, rfl, rfl⟩⟩) ?hv182 ?rest182 hck4
   case hv182 =>
    refine ⟨_, rfl, fun hg1 => ?_⟩
    refine ⟨_, rfl, fun hg0 => ?_⟩
    intro E1
    refine (V1.indexI rfl rfl esz_58 rfl rfl (hh2 hg0 hg1) lt0 ?_)
    exact rfl
   refine VP.step (p := ?pv183) rfl rfl rfl (⟨_, _, rfl, rfl, rfl⟩) ?hv183 ?rest183 hck4
   case hv183 =>
    refine ⟨_, rfl, fun hg1 => ?_⟩
    refine ⟨_, rfl, fun hg0 => ?_⟩
    intro E1
    refine (V1.loadPinAll rfl rfl tyk_109 rfl rfl lt0 ?_)
    exact rfl
   refine VP.step (p := ?pv184) rfl rfl rfl (⟨_, _, rfl, rfl, rfl⟩) ?hv184 ?rest184 hck4
   case hv184 =>
    refine ⟨_, rfl, fun hg1 => ?_⟩
    refine ⟨_, rfl, fun hg0 => ?_⟩
    intro E1
    refine (V1.mv ?_)
    exact rfl
   refine VP.step (p := ?pv185) rfl rfl rfl (⟨_, _, rfl, rfl, rfl⟩) ?hv185 ?rest185 hck4
   case hv185 =>
    refine ⟨_, rfl, fun hg1 => ?_⟩
    refine ⟨_, rfl, fun hg0 => ?_⟩
    intro E1
    refine (V1.mv ?_)
    exact rfl
   refine VP.step (p := ?pv186) rfl rfl rfl (⟨_, _, rfl, rfl, ⟨_, _, rfl, rfl, rfl⟩⟩) ?hv186 ?rest186 hck4
   case hv186 =>
    refine ⟨_, rfl, fun hg1 => ?_⟩
    refine ⟨_, rfl, fun hg0 => ?_⟩
    intro E1
    refine (V1.indexI rfl rfl esz_58 rfl rfl (hh3 hg0 hg1) lt0 ?_)
    exact rfl
   refine VP.step (p := ?pv187) rfl rfl rfl (⟨_, _, rfl, rfl, rfl⟩) ?hv187 ?rest187 hck4
   case hv187 =>
    refine ⟨_, rfl, fun hg1 => ?_⟩
    refine ⟨_, rfl, fun hg0 => ?_⟩
    intro E1
    refine (V1.loadPinAll rfl rfl tyk_109 rfl rfl lt0 ?_)
    exact rfl
   refine VP.step (p := ?pv188) rfl rfl rfl (⟨_, _, rfl, rfl, ⟨_, _, rfl, rfl, rfl⟩⟩) ?hv188 ?rest188 hck4
   case hv188 =>
    refine ⟨_, rfl, fun hg1 => ?_⟩
    refine ⟨_, rfl, fun hg0 => ?_⟩
    intro E1
    refine (V1.call rfl rfl rfl cok_132 rfl (ok_spec_l4Before (cond_t hg1 (cond_f hg0 hh4))) rfl lt0 ?_)
    rintro _ _ ⟨rfl, rfl⟩
    exact rfl
   refine VP.step (p := ?pv189) rfl rfl rfl (⟨_, _, rfl, rfl, rfl⟩) ?hv189 ?rest189 hck4
   case hv189 =>
    refine ⟨_, rfl, fun hg1 => ?_⟩
    refine ⟨_, rfl, fun hg0 => ?_⟩
    intro E1
    refine (V1.not rfl rfl rfl lt0 ?_)
    exact rfl
   refine VP.pickAnd rfl rfl rfl rfl rfl rfl (⟨_, rfl, fun _ => trivial⟩) ?_ hck4
   refine VP.pickOr rfl rfl rfl rfl rfl rfl (trivial) ?_ hck4
   refine VP.fin rfl (⟨_, _, rfl, rfl, ⟨_, _, rfl, rfl, ⟨_, _, rfl, rfl, rfl⟩⟩⟩) ?_
   refine VO.nil (V.cond rfl (fun hc1 => ?_) (fun hc1 => ?_))
   ·
    replace hm1 := cond_t hc1 hm1
    refine V.seq (V.region (VO.cons rfl (V1.as ?_)))
    refine VO.nil (V.ret ?_)
    obtain rfl := hr1 _ (oi hm1).symm
    change some _ = some _ at hm0
    obtain rfl := oi hm0
    exact ⟨_, [], ⟨_, _, rfl, rfl, rfl⟩, List.nil_sublist _, rfl, rfl⟩
   ·
    replace hm1 := cond_f hc1 hm1
    refine V.skip ?_
    refine V.region (VO.cons rfl (V1.mv ?_))
    refine VO.cons rfl (V1.it ?_)
    refine VO.cons rfl (V1.as ?_)
    refine VO.nil ?_
    exact ⟨(m0, (IntKind.i64.wrap (i + (1 : Int))), ()), hl1 _ (oi hm1).symm, Nat.lt_succ_self _, Keeps.mk (ks := []) rfl ⟨rfl, rfl, trivial⟩ (rfl) rfl⟩
  ·
   replace hm1 := cond_f hc0 hm1
   refine V.exit ?_
   obtain rfl := hr1 _ (oi hm1).symm
   exact ⟨((), ()), rfl, Keeps.mk (ks := []) rfl ⟨rfl, trivial⟩ (rfl) rfl⟩
 ·
  rintro ⟨_, _⟩ rfl
  try dsimp only at hm0
  refine V.seq (V.region (VO.cons rfl (V1.mv ?_)))
  refine VO.cons rfl (V1.lenMap rfl rfl rfl rfl rfl rfl isl_58 lt0 ?_)
  refine VO.cons rfl (V1.it ?_)
  refine VO.cons rfl (V1.as ?_)
  refine VO.nil (V.ret ?_)
  obtain rfl := oi hm0
  exact ⟨_, [], ⟨_, _, rfl, rfl, rfl⟩, List.nil_sublist _, rfl, rfl⟩

theorem ok_spec_l4Without {ρ0 rn : Nat} {list : List Rule} {series : Int} {event : Int} {r : List Rule} (h : M.spec_l4Without list series event = some r) : Does Try.prog 133 [.vl ρ0 4 (List.map encRule list), .int .i64 series, .int .i64 event] [] rn (fun x H => ∃ (ob0_ : Nat), x = PV.sref ob0_ 4 0 (List.length r) ∧ H = [(ob0_, ⟨4, List.map encRule r⟩)]) := by
 have hm0 := h; clear h; unfold M.spec_l4Without at hm0
 try dsimp only at hm0
 refine Does.intro (N := 40) Try.func133 rfl rfl rfl rfl ?_
 intro w0 S0
 refine V.seq (V.region (VO.cons rfl (V1.as ?_)))
 refine VO.nil (V.seq (V.region (VO.cons rfl (V1.buildSliceT (f := encRule) ([] : List Rule) rfl rfl esz_58 zk_109 rfl rfl rfl rfl rfl rfl rfl lt0 ?_))))
 intro b0
 refine VO.cons rfl (V1.as ?_)
 refine VO.nil (V.seq (V.seq (V.region (VO.cons rfl (V1.as ?_)))))
 refine VO.nil ?_
 replace hm0 := bindO hm0; rcases hm0 with ⟨e0, he1, hm0⟩
 refine V.cutT (D := (List Rule) × (Nat)) (fun ⟨out_, b1⟩ => ⟨40, [(7, .sref b1 4 0 (List.length out_))], [(b1, ⟨4, List.map encRule out_⟩)]⟩) (fun ⟨out_, b1⟩ => (out_ = e0)) ?_ ?_
 ·
  refine V.block ?_
  refine V.keep 40 [7, 8, 0, 1, 2] [0] (E0 := [(7, .sref b0 4 0 (List.length ([] : List Rule))), (8, .int .i64 (0 : Int)), (0, .vl ρ0 4 (List.map encRule list)), (1, .int .i64 series), (2, .int .i64 event)]) (H0 := [(b0, ⟨4, List.map encRule ([] : List Rule)⟩)]) rfl (⟨_, _, rfl, rfl, ⟨_, _, rfl, rfl, ⟨_, _, rfl, rfl, ⟨_, _, rfl, rfl, ⟨_, _, rfl, rfl, rfl⟩⟩⟩⟩⟩) (⟨_, _, rfl, rfl, rfl⟩) rfl ?_
  refine V.loopE (D := Nat × (List Rule × Int) × (Nat)) (fun ⟨n0, ⟨out_0, i⟩, b2⟩ => [(7, .sref b2 4 0 (List.length out_0)), (8, .int .i64 i)]) (fun ⟨n0, ⟨out_0, i⟩, b2⟩ => [(b2, ⟨4, List.map encRule out_0⟩)]) (fun ⟨n0, ⟨out_0, i⟩, b2⟩ => loopO (M.spec_l4Without_l0 list series event) n0 (out_0, i) = some e0) (fun ⟨n0, _, _⟩ => n0) (rounds, (([] : List Rule), (0 : Int)), b0) rfl he1 ?_
  rintro ⟨n0, ⟨out_0, i⟩, b2⟩ hP0
  obtain ⟨m0, y0, rfl, hm1, hl1, hr1⟩ := loop_head hP0
  unfold M.spec_l4Without_l0 at hm1; dsimp only at hm1
  show V _ _ _ ⟨40, [(7, .sref b2 4 0 (List.length out_0)), (8, .int .i64 i), (0, .vl ρ0 4 (List.map encRule list)), (1, .int .i64 series), (2, .int .i64 event)], [(b2, ⟨4, List.map encRule out_0⟩)]⟩
  refine V.seq (V.seq (V.region (VO.cons rfl (V1.mv ?_))))
  refine VO.cons rfl (V1.mv ?_)
  refine VO.cons rfl (V1.lenMap rfl rfl rfl rfl rfl rfl isl_58 lt0 ?_)
  refine VO.cons rfl (V1.it ?_)
  refine VO.nil (V.cond rfl (fun hc0 => ?_) (fun hc0 => ?_))
  ·
   replace hm1 := cond_t hc0 hm1
   refine V.skip ?_
   refine V.keep 40 [0, 1, 2, 7, 8] [0] (E0 := [(0, .vl ρ0 4 (List.map encRule list)), (1, .int .i64 series), (2, .int .i64 event), (7, .sref b2 4 0 (List.length out_0)), (8, .int .i64 i)]) (H0 := [(b2, ⟨4, List.map encRule out_0⟩)]) rfl (⟨_, _, rfl, rfl, ⟨_, _, rfl, rfl, ⟨_, _, rfl, rfl, ⟨_, _, rfl, rfl, ⟨_, _, rfl, rfl, rfl⟩⟩⟩⟩⟩) (⟨_, _, rfl, rfl, rfl⟩) rfl ?_
   refine V.seq ?_
   replace hm1 := bindO hm1; rcases hm1 with ⟨j0, hm2, hm1⟩
   refine V.cutT (D := (List Rule) × (Nat)) (fun ⟨out_1, b3⟩ => ⟨40, [(7, .sref b3 4 0 (List.length out_1)), (0, .vl ρ0 4 (List.map encRule list)), (1, .int .i64 series), (2, .int .i64 event), (8, .int .i64 i)], [(b3, ⟨4, List.map encRule out_1⟩)]⟩) (fun ⟨out_1, b3⟩ => (out_1 = j0)) ?_ ?_
   ·
    refine V.block ?_
    refine V.seq ?_
    replace hm2 := asrt_some hm2; rcases hm2 with ⟨hh0, hm2⟩
    replace hm2 := asrt_some hm2; rcases hm2 with ⟨hh1, hm2⟩
    refine V.region (VO.cons rfl (V1.mv ?_))
    refine VO.cons rfl (V1.mv ?_)
    refine VO.cons rfl (V1.indexI rfl rfl esz_58 rfl rfl hh0 lt0 ?_)
    refine VO.cons rfl (V1.fieldPin rfl rfl fo_109_0 rfl lt0 ?_)
    refine VO.cons rfl (V1.loadPin rfl rfl tyk_3 rfl rfl lt0 ?_)
    refine VO.cons rfl (V1.mv ?_)
    refine VO.cons rfl (V1.it ?_)
    refine VO.cons rfl (V1.mv ?_)
    apply VO.or (n := 7) rfl rfl rfl rfl rfl rfl lt0 (.none rfl)
    ·
     intro hg0
     refine VO.step (.some rfl rfl rfl) (V1.mv ?_)
     refine VO.step (.some rfl rfl rfl) (V1.mv ?_)
     refine VO.step (.some rfl rfl rfl) (V1.indexI rfl rfl esz_58 rfl rfl (hh1 hg0) lt0 ?_)
     refine VO.step (.some rfl rfl rfl) (V1.fieldPin rfl rfl fo_109_1 rfl lt0 ?_)
     refine VO.step (.some rfl rfl rfl) (V1.loadPin rfl rfl tyk_3 rfl rfl lt0 ?_)
     refine VO.step (.some rfl rfl rfl) (V1.mv ?_)
     refine VO.step (.some rfl rfl rfl) (V1.it ?_)
     exact VO.nil ⟨rfl, rfl, rfl, rfl, .inr ⟨rfl, .inr ⟨rfl, .inr ⟨rfl, .inr ⟨rfl, .inr ⟨rfl, .inr ⟨rfl, .inr ⟨rfl, .inr ⟨rfl, .inl rfl⟩⟩⟩⟩⟩⟩⟩⟩⟩
    refine VO.nil (V.keep 40 [0, 1, 2, 7, 8, 31] [0] (E0 := [(0, .vl ρ0 4 (List.map encRule list)), (1, .int .i64 series), (2, .int .i64 event), (7, .sref b2 4 0 (List.length out_0)), (8, .int .i64 i), (31, .bool ((((list.getD (Int.toNat i) default).Series) != series) || (((list.getD (Int.toNat i) default).Event) != event)))]) (H0 := [(b2, ⟨4, List.map encRule out_0⟩)]) rfl (⟨_, _, rfl, rfl, ⟨_, _, rfl, rfl, ⟨_, _, rfl, rfl, ⟨_, _, rfl, rfl, ⟨_, _, rfl, rfl, ⟨_, _, rfl, rfl, rfl⟩⟩⟩⟩⟩⟩) (⟨_, _, rfl, rfl, rfl⟩) rfl ?_)
    refine V.cond rfl (fun hc1 => ?_) (fun hc1 => ?_)
    ·
     replace hm2 := cond_t hc1 hm2
     replace hm2 := asrt_some hm2; rcases hm2 with ⟨hh2, hm2⟩
     replace hm2 := asrt_some hm2; rcases hm2 with ⟨hh3, hm2⟩
     refine V.region (VO.cons rfl (V1.mv ?_))
     refine VO.cons rfl (V1.mv ?_)
     refine VO.cons rfl (V1.mv ?_)
     refine VO.cons rfl (V1.indexI rfl rfl esz_58 rfl rfl hh2 lt0 ?_)
     refine VO.cons rfl (V1.loadPinAll rfl rfl tyk_109 rfl rfl lt0 ?_)
     refine VO.cons rfl (V1.buildSliceT (f := encRule) ([(list.getD (Int.toNat i) default)] : List Rule) rfl rfl esz_58 zk_109 rfl rfl rfl rfl rfl rfl rfl lt0 ?_)
     intro b4
     refine VO.cons rfl (V1.appendMap (k := 1) (f := encRule) (l := out_0) (m := ([(list.getD (Int.toNat i) default)] : List Rule)) rfl rfl rfl rfl rfl esz_58 eby_58 zk_109 rfl rfl rfl (SrcOf.srMap (k := 0) rfl isl_58) hh3 lt0 ?_)
     intro b5
     refine VO.cons rfl (V1.as ?_)
     refine VO.nil ?_
     exact ⟨((out_0 ++ ([(list.getD (Int.toNat i) default)] : List Rule)), b5), oi hm2, Keeps.mk (ks := [0]) rfl ⟨rfl, rfl, rfl, rfl, rfl, trivial⟩ (⟨_, _, rfl, rfl, rfl⟩) rfl⟩
    ·
     replace hm2 := cond_f hc1 hm2
     refine V.skip ?_
     exact ⟨(out_0, b2), oi hm2, Keeps.mk (ks := [0]) rfl ⟨rfl, rfl, rfl, rfl, rfl, trivial⟩ (⟨_, _, rfl, rfl, rfl⟩) rfl⟩
   ·
    rintro ⟨out_1, b3⟩ rfl
    try dsimp only at hm1
    refine V.region (VO.cons rfl (V1.mv ?_))
    refine VO.cons rfl (V1.it ?_)
    refine VO.cons rfl (V1.as ?_)
    refine VO.nil ?_
    exact ⟨(m0, (out_1, (IntKind.i64.wrap (i + (1 : Int)))), b3), hl1 _ (oi hm1).symm, Nat.lt_succ_self _, Keeps.mk (ks := [0]) rfl ⟨rfl, rfl, rfl, rfl, rfl, trivial⟩ (⟨_, _, rfl, rfl, rfl⟩) rfl⟩
  ·
   replace hm1 := cond_f hc0 hm1
   refine V.exit ?_
   obtain rfl := hr1 _ (oi hm1).symm
   exact ⟨(out_0, b2), rfl, Keeps.mk (ks := [0]) rfl ⟨rfl, trivial⟩ (⟨_, _, rfl, rfl, rfl⟩) rfl⟩
 ·
  rintro ⟨out_, b1⟩ rfl
  try dsimp only at hm0
  refine V.seq (V.region (VO.cons rfl (V1.mv ?_)))
  refine VO.cons rfl (V1.as ?_)
  refine VO.nil (V.keep 40 [6] [0] (E0 := [(6, .sref b1 4 0 (List.length out_))]) (H0 := [(b1, ⟨4, List.map encRule out_⟩)]) rfl (⟨_, _, rfl, rfl, rfl⟩) (⟨_, _, rfl, rfl, rfl⟩) rfl ?_)
  refine V.ret ?_
  obtain rfl := oi hm0
  exact ⟨_, _, ⟨_, _, rfl, rfl, rfl⟩, List.Sublist.refl _, b1, rfl, rfl⟩

theorem ok_spec_PutRule {ρ0 rn : Nat} {list : List Rule} {r_ : Rule} {r : List Rule × Bool} (h : M.spec_PutRule list r_ = some r) : Does Try.prog 115 [.vl ρ0 4 (List.map encRule list), encRule r_] [] rn (fun x H => ∃ (ob0_ : Nat), x = .tup [PV.sref ob0_ 4 0 (List.length r.1), .bool r.2] ∧ H = [(ob0_, ⟨4, List.map encRule r.1⟩)]) := by
 have hm0 := h; clear h; unfold M.spec_PutRule at hm0
 try dsimp only at hm0
 refine Does.intro (N := 55) Try.func115 rfl rfl rfl rfl ?_
 intro w0 S0
 refine V.seq (V.region (VO.cons rfl (V1.boxN (n := 4) rfl rfl rfl rfl rfl lt0 ?_)))
 intro b0
 refine VO.cons rfl (V1.as ?_)
 refine VO.cons rfl (V1.as ?_)
 refine VO.nil (V.seq (V.seq ?_))
 replace hm0 := bindO hm0; rcases hm0 with ⟨y0, hh0, hm0⟩
 replace hm0 := bindO hm0; rcases hm0 with ⟨y1, hh1, hm0⟩
 refine V.region (VO.cons rfl (V1.mv ?_))
 refine VO.cons rfl (V1.call rfl rfl rfl cok_114 rfl (ok_spec_l4Good hh0) rfl lt0 ?_)
 rintro _ _ ⟨rfl, rfl⟩
 refine VO.cons rfl (V1.not rfl rfl rfl lt0 ?_)
 refine VO.cons rfl (V1.mv ?_)
 apply VO.or (n := 3) rfl rfl rfl rfl rfl rfl lt0 (.none rfl)
 ·
  intro hg0
  refine VO.step (.some rfl rfl rfl) (V1.loadRefAll (k := 0) rfl rfl tyk_109 rfl rfl rfl rfl rfl lt0 ?_)
  refine VO.step (.some rfl rfl rfl) (V1.call rfl rfl rfl cok_131 rfl (ok_spec_l4One (cond_f hg0 hh1)) rfl lt0 ?_)
  rintro _ _ ⟨rfl, rfl⟩
  refine VO.step (.some rfl rfl rfl) (V1.not rfl rfl rfl lt0 ?_)
  exact VO.nil ⟨rfl, rfl, rfl, rfl, .inr ⟨rfl, .inr ⟨rfl, .inr ⟨rfl, .inr ⟨rfl, .inl rfl⟩⟩⟩⟩⟩
 refine VO.nil (V.keep 55 [0, 3, 16] [0] (E0 := [(0, .vl ρ0 4 (List.map encRule list)), (3, .ref b0 4 0 0), (16, .bool ((!y0) || (!y1)))]) (H0 := [(b0, ⟨4, [encRule r_]⟩)]) rfl (⟨_, _, rfl, rfl, ⟨_, _, rfl, rfl, ⟨_, _, rfl, rfl, rfl⟩⟩⟩) (⟨_, _, rfl, rfl, rfl⟩) rfl ?_)
 refine V.cond rfl (fun hc0 => ?_) (fun hc0 => ?_)
 ·
  replace hm0 := cond_t hc0 hm0
  refine V.seq (V.region (VO.cons rfl (V1.buildSliceT (f := encRule) ([] : List Rule) rfl rfl esz_58 zk_109 rfl rfl rfl rfl rfl rfl rfl lt0 ?_)))
  intro b1
  refine VO.cons rfl (V1.as ?_)
  refine VO.cons rfl (V1.as ?_)
  refine VO.nil (V.keep 55 [4, 5] [0] (E0 := [(4, .sref b1 4 0 (List.length ([] : List Rule))), (5, .bool false)]) (H0 := [(b1, ⟨4, List.map encRule ([] : List Rule)⟩)]) rfl (⟨_, _, rfl, rfl, ⟨_, _, rfl, rfl, rfl⟩⟩) (⟨_, _, rfl, rfl, rfl⟩) rfl ?_)
  refine V.ret ?_
  obtain rfl := oi hm0
  exact ⟨_, _, ⟨_, _, rfl, rfl, ⟨_, _, rfl, rfl, rfl⟩⟩, List.Sublist.refl _, b1, rfl, rfl⟩
 ·
  replace hm0 := cond_f hc0 hm0
  refine V.skip ?_
  refine V.seq ?_
  replace hm0 := bindO hm0; rcases hm0 with ⟨y2, hh2, hm0⟩
  refine V.region (VO.cons rfl (V1.mv ?_))
  refine VO.cons rfl (V1.fieldRef rfl rfl fo_109_0 rfl lt0 ?_)
  refine VO.cons rfl (V1.loadRef (k := 0) rfl rfl tyk_3 rfl rfl rfl rfl rfl lt0 ?_)
  refine VO.cons rfl (V1.fieldRef rfl rfl fo_109_1 rfl lt0 ?_)
  refine VO.cons rfl (V1.loadRef (k := 0) rfl rfl tyk_3 rfl rfl rfl rfl rfl lt0 ?_)
  refine VO.cons rfl (V1.call rfl rfl rfl cok_133 rfl (ok_spec_l4Without hh2) rfl lt0 ?_)
  rintro _ _ ⟨b2, rfl, rfl⟩
  refine VO.weakenK (Keeps.freezeG 0 rn [(23, .vl rn 4 (List.map encRule y2))] [(b0, ⟨4, [encRule r_]⟩)] (f := encRule) (l := y2) rfl (fun _ => rfl) ⟨⟨_, rfl, .here⟩, trivial⟩ ⟨_, _, rfl, rfl, .inl rfl, rfl⟩ rfl iNil) ?_
  refine VO.cons rfl (V1.as ?_)
  refine VO.cons rfl (V1.as ?_)
  refine VO.nil (V.keep 55 [3, 6, 7] [0] (E0 := [(3, .ref b0 4 0 0), (6, .vl rn 4 (List.map encRule y2)), (7, .int .i64 (0 : Int))]) (H0 := [(b0, ⟨4, [encRule r_]⟩)]) rfl (⟨_, _, rfl, rfl, ⟨_, _, rfl, rfl, ⟨_, _, rfl, rfl, rfl⟩⟩⟩) (⟨_, _, rfl, rfl, rfl⟩) rfl ?_)
  refine V.seq ?_
  replace hm0 := bindO hm0; rcases hm0 with ⟨e0, he1, hm0⟩
  refine V.cutT (D := (Int) × (Unit)) (fun ⟨k, _⟩ => ⟨55, [(7, .int .i64 k), (3, .ref b0 4 0 0), (6, .vl rn 4 (List.map encRule y2))], [(b0, ⟨4, [encRule r_]⟩)]⟩) (fun ⟨k, _⟩ => (k = e0)) ?_ ?_
  ·
   refine V.block ?_
   refine V.keep 55 [7, 3, 6] [0] (E0 := [(7, .int .i64 (0 : Int)), (3, .ref b0 4 0 0), (6, .vl rn 4 (List.map encRule y2))]) (H0 := [(b0, ⟨4, [encRule r_]⟩)]) rfl (⟨_, _, rfl, rfl, ⟨_, _, rfl, rfl, ⟨_, _, rfl, rfl, rfl⟩⟩⟩) (⟨_, _, rfl, rfl, rfl⟩) rfl ?_
   refine V.loopE (D := Nat × (Int) × (Unit)) (fun ⟨n0, k0, _⟩ => [(7, .int .i64 k0)]) (fun ⟨n0, k0, _⟩ => []) (fun ⟨n0, k0, _⟩ => loopO (M.spec_PutRule_l0 r_ y2) n0 k0 = some e0) (fun ⟨n0, _, _⟩ => n0) (rounds, (0 : Int), ()) rfl he1 ?_
   rintro ⟨n0, k0, _⟩ hP0
   obtain ⟨m0, y3, rfl, hm1, hl1, hr1⟩ := loop_head hP0
   unfold M.spec_PutRule_l0 at hm1; dsimp only at hm1
   show V _ _ _ ⟨55, [(7, .int .i64 k0), (3, .ref b0 4 0 0), (6, .vl rn 4 (List.map encRule y2))], [(b0, ⟨4, [encRule r_]⟩)]⟩
   refine V.seq (V.seq ?_)
   replace hm1 := asrt_some hm1; rcases hm1 with ⟨hh3, hm1⟩
   replace hm1 := bindO hm1; rcases hm1 with ⟨y4, hh4, hm1⟩
   refine V.regionM 55 12 [⟨[(7, none)], [], none⟩, ⟨[(6, none)], [], none⟩, ⟨[(25, some 0)], [], none⟩, ⟨[(24, some 2), (26, some 0)], [], none⟩, ⟨[(27, some 0)], [], none⟩, ⟨[(6, none)], [(0, true)], none⟩, ⟨[(7, none)], [(1, true)], none⟩, ⟨[(29, some 1), (30, some 0)], [(2, true)], none⟩, ⟨[(31, some 0)], [(3, true)], none⟩, ⟨[(3, none)], [(4, true)], none⟩, ⟨[(32, some 1), (33, some 0)], [(5, true)], none⟩, ⟨[], [], some (true, 28, 34, 6, 0)⟩] [(3, none), (6, none), (7, none), (35, some 0)] (⟨_, rfl, ⟨_, rfl, ⟨_, rfl, ⟨_, rfl, ⟨_, rfl, ⟨_, rfl, ⟨_, rfl, ⟨_, rfl, ⟨_, rfl, ⟨_, rfl, ⟨_, rfl, ⟨_, rfl, ⟨rfl, rfl⟩⟩⟩⟩⟩⟩⟩⟩⟩⟩⟩⟩⟩) mixed_orders rfl (by decide +kernel) (fun hck4 => ?_)
   refine VP.step (p := ?pv121) rfl rfl rfl (⟨_, _, rfl, rfl, rfl⟩) ?hv121 ?rest121 hck4
   case hv121 =>
    intro E1
    refine (V1.mv ?_)
    exact rfl
   refine VP.step (p := ?pv122) rfl rfl rfl (⟨_, _, rfl, rfl, rfl⟩) ?hv122 ?rest122 hck4
   case hv122 =>
    intro E1
    refine (V1.mv ?_)
    exact rfl
   refine VP.step (p := ?pv123) rfl rfl rfl (⟨_, _, rfl, rfl, rfl⟩) ?hv123 ?rest123 hck4
   case hv123 =>
    intro E1
    refine (V1.lenMap rfl rfl rfl rfl rfl rfl isl_58 lt0 ?_)
    exact rfl
   refine VP.step (p := ?pv124) rfl rfl rfl (⟨_, _, rfl, rfl, ⟨_, _, rfl, rfl, rfl⟩⟩) ?hv124 ?rest124 hck4
   case hv124 =>
    intro E1
    refine (V1.it ?_)
    exact rfl
   refine VP.step (p := ?pv125) rfl rfl rfl (⟨_, _, rfl, rfl, rfl⟩) ?hv125 ?rest125 hck4
   case hv125 =>
    intro E1
    refine (V1.mv ?_)
    exact rfl
   refine VP.step (p := ?pv126) rfl rfl rfl (⟨_, _, rfl, rfl, rfl⟩) ?hv126 ?rest126 hck4
   case hv126 =>
    refine ⟨_, rfl, fun hg1 => ?_⟩
    intro E1
    refine (V1.mv ?_)
    exact rfl
   refine VP.step (p := ?pv127) rfl rfl rfl (⟨_, _, rfl, rfl, rfl⟩) ?hv127 ?rest127 hck4
   case hv127 =>
    refine ⟨_, rfl, fun hg1 => ?_⟩
    intro E1
    refine (V1.mv ?_)
    exact rfl
   refine VP.step (p := ?pv128) rfl rfl rfl (⟨_, _, rfl, rfl, ⟨_, _, rfl, rfl, rfl⟩⟩) ?hv128 ?rest128 hck4
   case hv128 =>
    refine ⟨_, rfl, fun hg1 => ?_⟩
    intro E1
    refine (V1.indexI rfl rfl esz_58 rfl rfl (hh3 hg1) lt0 ?_)
    exact rfl
   refine VP.step (p := ?pv129) rfl rfl rfl (⟨_, _, rfl, rfl, rfl⟩) ?hv129 ?rest129 hck4
   case hv129 =>
    refine ⟨_, rfl, fun hg1 => ?_⟩
    intro E1
    refine (V1.loadPinAll rfl rfl tyk_109 rfl rfl lt0 ?_)
    exact rfl
   refine VP.step (p := ?pv130) rfl rfl rfl (⟨_, _, rfl, rfl, rfl⟩) ?hv130 ?rest130 hck4
   case hv130 =>
    refine ⟨_, rfl, fun hg1 => ?_⟩
    intro E1
    refine (V1.loadRefAll (k := 0) rfl rfl tyk_109 rfl rfl rfl rfl rfl lt0 ?_)
    exact rfl
   refine VP.step (p := ?pv131) rfl rfl rfl (⟨_, _, rfl, rfl, ⟨_, _, rfl, rfl, rfl⟩⟩) ?hv131 ?rest131 hck4
   case hv131 =>
    refine ⟨_, rfl, fun hg1 => ?_⟩
    intro E1
    refine (V1.call rfl rfl rfl cok_132 rfl (ok_spec_l4Before (cond_t hg1 hh4)) rfl lt0 ?_)
    rintro _ _ ⟨rfl, rfl⟩
    exact rfl
   refine VP.pickAnd rfl rfl rfl rfl rfl rfl (trivial) ?_ hck4
   refine VP.fin rfl (⟨_, _, rfl, rfl, ⟨_, _, rfl, rfl, ⟨_, _, rfl, rfl, ⟨_, _, rfl, rfl, rfl⟩⟩⟩⟩) ?_
   refine VO.nil (V.cond rfl (fun hc1 => ?_) (fun hc1 => ?_))
   ·
    replace hm1 := cond_t hc1 hm1
    refine V.skip ?_
    refine V.block ?_
    refine V.region (VO.cons rfl (V1.mv ?_))
    refine VO.cons rfl (V1.it ?_)
    refine VO.cons rfl (V1.as ?_)
    refine VO.nil ?_
    exact ⟨(m0, (IntKind.i64.wrap (k0 + (1 : Int))), ()), hl1 _ (oi hm1).symm, Nat.lt_succ_self _, Keeps.mk (ks := [0]) rfl ⟨rfl, rfl, rfl, trivial⟩ (⟨_, _, rfl, rfl, rfl⟩) rfl⟩
   ·
    replace hm1 := cond_f hc1 hm1
    refine V.exit ?_
    obtain rfl := hr1 _ (oi hm1).symm
    exact ⟨(k0, ()), rfl, Keeps.mk (ks := [0]) rfl ⟨rfl, rfl, rfl, trivial⟩ (⟨_, _, rfl, rfl, rfl⟩) rfl⟩
  ·
   rintro ⟨k, _⟩ rfl
   try dsimp only at hm0
   refine V.seq ?_
   replace hm0 := asrt_some hm0; rcases hm0 with ⟨hh5, hm0⟩
   replace hm0 := asrt_some hm0; rcases hm0 with ⟨hh6, hm0⟩
   replace hm0 := asrt_some hm0; rcases hm0 with ⟨hh7, hm0⟩
   replace hm0 := asrt_some hm0; rcases hm0 with ⟨hh8, hm0⟩
   replace hm0 := asrt_some hm0; rcases hm0 with ⟨hh9, hm0⟩
   replace hm0 := bindO hm0; rcases hm0 with ⟨j0, hm1, hm0⟩
   refine V.cutT (D := (List Rule) × (Nat)) (fun ⟨out_, b8⟩ => ⟨55, [(8, .sref b8 4 0 (List.length out_))], [(b8, ⟨4, List.map encRule out_⟩)]⟩) (fun ⟨out_, b8⟩ => (out_ = j0)) ?_ ?_
   ·
    refine V.regionS [(b0, ⟨4, [encRule r_]⟩)] 55 11 [⟨[], true⟩, ⟨[(6, none)], false⟩, ⟨[(7, none)], false⟩, ⟨[(39, some 1), (40, some 2)], false⟩, ⟨[(38, some 0), (41, some 3)], true⟩, ⟨[(3, none)], false⟩, ⟨[(43, some 5)], true⟩, ⟨[(42, some 4), (44, some 6)], true⟩, ⟨[(6, none)], false⟩, ⟨[(7, none)], false⟩, ⟨[(46, some 8), (47, some 9)], false⟩] [(45, some 7), (48, some 10)] 4 (⟨_, rfl, ⟨_, rfl, ⟨_, rfl, ⟨_, rfl, ⟨_, rfl, ⟨_, rfl, ⟨_, rfl, ⟨_, rfl, ⟨_, rfl, ⟨_, rfl, ⟨_, rfl, ⟨rfl, rfl⟩⟩⟩⟩⟩⟩⟩⟩⟩⟩⟩⟩) mixed_orders rfl (by decide +kernel) ?_
    refine WalkP.step (p := ?pv140) 1 rfl rfl rfl rfl rfl (⟨_, _, rfl, rfl, rfl⟩) ?hv140 ?rest140
    case hv140 =>
     intro E1 H1 hI1
     refine (V1.mv ?_)
     exact rfl
    refine WalkP.step (p := ?pv141) 2 rfl rfl rfl rfl rfl (⟨_, _, rfl, rfl, rfl⟩) ?hv141 ?rest141
    case hv141 =>
     intro E1 H1 hI1
     refine (V1.mv ?_)
     exact rfl
    refine WalkP.step (p := ?pv142) 3 rfl rfl rfl rfl rfl (⟨_, _, rfl, rfl, ⟨_, _, rfl, rfl, rfl⟩⟩) ?hv142 ?rest142
    case hv142 =>
     intro E1 H1 hI1
     refine (V1.sliceMap (a := (0 : Int)) (b := k) rfl rfl esz_58 rfl (Bnd.none _ _) (Bnd.some rfl (Int.le_trans hh5.1 hh5.2.1) _) hh5 lt0 ?_)
     exact rfl
    refine WalkP.step (p := ?pv143) 5 rfl rfl rfl rfl rfl (⟨_, _, rfl, rfl, rfl⟩) ?hv143 ?rest143
    case hv143 =>
     intro E1 H1 hI1
     obtain ⟨k144_, hk144_⟩ := inGet 0 rfl hI1
     refine (V1.loadRefAll (k := k144_) rfl rfl tyk_109 rfl hk144_ rfl rfl rfl lt0 ?_)
     exact rfl
    refine WalkP.step (p := ?pv145) 8 rfl rfl rfl rfl rfl (⟨_, _, rfl, rfl, rfl⟩) ?hv145 ?rest145
    case hv145 =>
     intro E1 H1 hI1
     refine (V1.mv ?_)
     exact rfl
    refine WalkP.step (p := ?pv146) 9 rfl rfl rfl rfl rfl (⟨_, _, rfl, rfl, rfl⟩) ?hv146 ?rest146
    case hv146 =>
     intro E1 H1 hI1
     refine (V1.mv ?_)
     exact rfl
    refine WalkP.step (p := ?pv147) 10 rfl rfl rfl rfl rfl (⟨_, _, rfl, rfl, ⟨_, _, rfl, rfl, rfl⟩⟩) ?hv147 ?rest147
    case hv147 =>
     intro E1 H1 hI1
     refine (V1.sliceMap (a := k) (b := (y2.length : Int)) rfl rfl esz_58 rfl (Bnd.some rfl hh8.1 _) (Bnd.none _ _) hh8 lt0 ?_)
     exact rfl
    refine WalkP.nil (NodeS.branch [0, 6] (inCons 0 rfl inNil) rfl rfl rfl ⟨?_, ?_, trivial⟩)
    ·
     refine ⟨_, _, _, _, rfl, rfl, rfl, (rfl), fun E1 => ?_⟩
     refine (V1.buildSliceT (f := encRule) ([] : List Rule) rfl rfl esz_58 zk_109 rfl rfl rfl rfl rfl rfl rfl lt0 ?_)
     intro b9
     refine ⟨_, _, rfl, ?_⟩
     refine WalkP.nil (NodeS.branch [4, 6] (inCons 1 rfl inNil) rfl rfl rfl ⟨?_, ?_, trivial⟩)
     ·
      refine ⟨_, _, _, _, rfl, rfl, rfl, (⟨_, _, rfl, rfl, ⟨_, _, rfl, rfl, rfl⟩⟩), fun E1 => ?_⟩
      refine (V1.appendMap (k := 0) (f := encRule) (l := ([] : List Rule)) (m := (slc y2 (0 : Int) k)) rfl rfl rfl rfl rfl esz_58 eby_58 zk_109 rfl rfl rfl (.vl isl_58) hh6 lt0 ?_)
      intro b10
      refine ⟨_, _, rfl, ?_⟩
      refine WalkP.nil (NodeS.branch [6] (inCons 1 rfl inNil) rfl rfl rfl ⟨?_, trivial⟩)
      ·
       refine ⟨_, _, _, _, rfl, rfl, rfl, (⟨_, _, rfl, rfl, rfl⟩), fun E1 => ?_⟩
       refine (V1.buildSliceT (f := encRule) ([r_] : List Rule) rfl rfl esz_58 zk_109 rfl rfl rfl rfl rfl rfl rfl lt0 ?_)
       intro b11
       refine ⟨_, _, rfl, ?_⟩
       refine WalkP.nil (NodeS.branch [7] (inCons 2 rfl inNil) rfl rfl rfl ⟨?_, trivial⟩)
       ·
        refine ⟨_, _, _, _, rfl, rfl, rfl, (⟨_, _, rfl, rfl, ⟨_, _, rfl, rfl, rfl⟩⟩), fun E1 => ?_⟩
        refine (V1.appendMap (k := 1) (f := encRule) (l := (([] : List Rule) ++ (slc y2 (0 : Int) k))) (m := ([r_] : List Rule)) rfl rfl rfl rfl rfl esz_58 eby_58 zk_109 rfl rfl rfl (SrcOf.srMap (k := 0) rfl isl_58) hh7 lt0 ?_)
        intro b12
        refine ⟨_, _, rfl, ?_⟩
        refine WalkP.nil (NodeS.fin (inCons 2 rfl inNil) rfl rfl rfl (⟨_, _, rfl, rfl, ⟨_, _, rfl, rfl, rfl⟩⟩) ?_)
        refine VO.cons rfl (V1.appendMap (k := 0) (f := encRule) (l := ((([] : List Rule) ++ (slc y2 (0 : Int) k)) ++ ([r_] : List Rule))) (m := (slc y2 k (y2.length : Int))) rfl rfl rfl rfl rfl esz_58 eby_58 zk_109 rfl rfl rfl (.vl isl_58) hh9 lt0 ?_)
        intro b13
        refine VO.cons rfl (V1.as ?_)
        refine VO.nil ?_
        exact ⟨((((([] : List Rule) ++ (slc y2 (0 : Int) k)) ++ ([r_] : List Rule)) ++ (slc y2 k (y2.length : Int))), b13), oi hm1, Keeps.mk (ks := [0]) rfl ⟨rfl, trivial⟩ (⟨_, _, rfl, rfl, rfl⟩) rfl⟩
     ·
      refine ⟨_, _, _, _, rfl, rfl, rfl, (⟨_, _, rfl, rfl, rfl⟩), fun E1 => ?_⟩
      refine (V1.buildSliceT (f := encRule) ([r_] : List Rule) rfl rfl esz_58 zk_109 rfl rfl rfl rfl rfl rfl rfl lt0 ?_)
      intro b14
      refine ⟨_, _, rfl, ?_⟩
      refine WalkP.nil (NodeS.branch [4] (inCons 2 rfl inNil) rfl rfl rfl ⟨?_, trivial⟩)
      ·
       refine ⟨_, _, _, _, rfl, rfl, rfl, (⟨_, _, rfl, rfl, ⟨_, _, rfl, rfl, rfl⟩⟩), fun E1 => ?_⟩
       refine (V1.appendMap (k := 1) (f := encRule) (l := ([] : List Rule)) (m := (slc y2 (0 : Int) k)) rfl rfl rfl rfl rfl esz_58 eby_58 zk_109 rfl rfl rfl (.vl isl_58) hh6 lt0 ?_)
       intro b15
       refine ⟨_, _, rfl, ?_⟩
       refine WalkP.nil (NodeS.branch [7] (inCons 2 rfl inNil) rfl rfl rfl ⟨?_, trivial⟩)
       ·
        refine ⟨_, _, _, _, rfl, rfl, rfl, (⟨_, _, rfl, rfl, ⟨_, _, rfl, rfl, rfl⟩⟩), fun E1 => ?_⟩
        refine (V1.appendMap (k := 0) (f := encRule) (l := (([] : List Rule) ++ (slc y2 (0 : Int) k))) (m := ([r_] : List Rule)) rfl rfl rfl rfl rfl esz_58 eby_58 zk_109 rfl rfl rfl (SrcOf.srMap (k := 1) rfl isl_58) hh7 lt0 ?_)
        intro b16
        refine ⟨_, _, rfl, ?_⟩
        refine WalkP.nil (NodeS.fin (inCons 2 rfl inNil) rfl rfl rfl (⟨_, _, rfl, rfl, ⟨_, _, rfl, rfl, rfl⟩⟩) ?_)
        refine VO.cons rfl (V1.appendMap (k := 0) (f := encRule) (l := ((([] : List Rule) ++ (slc y2 (0 : Int) k)) ++ ([r_] : List Rule))) (m := (slc y2 k (y2.length : Int))) rfl rfl rfl rfl rfl esz_58 eby_58 zk_109 rfl rfl rfl (.vl isl_58) hh9 lt0 ?_)
        intro b17
        refine VO.cons rfl (V1.as ?_)
        refine VO.nil ?_
        exact ⟨((((([] : List Rule) ++ (slc y2 (0 : Int) k)) ++ ([r_] : List Rule)) ++ (slc y2 k (y2.length : Int))), b17), oi hm1, Keeps.mk (ks := [0]) rfl ⟨rfl, trivial⟩ (⟨_, _, rfl, rfl, rfl⟩) rfl⟩
    ·
     refine ⟨_, _, _, _, rfl, rfl, rfl, (⟨_, _, rfl, rfl, rfl⟩), fun E1 => ?_⟩
     refine (V1.buildSliceT (f := encRule) ([r_] : List Rule) rfl rfl esz_58 zk_109 rfl rfl rfl rfl rfl rfl rfl lt0 ?_)
     intro b18
     refine ⟨_, _, rfl, ?_⟩
     refine WalkP.nil (NodeS.branch [0] (inCons 1 rfl inNil) rfl rfl rfl ⟨?_, trivial⟩)
     ·
      refine ⟨_, _, _, _, rfl, rfl, rfl, (rfl), fun E1 => ?_⟩
      refine (V1.buildSliceT (f := encRule) ([] : List Rule) rfl rfl esz_58 zk_109 rfl rfl rfl rfl rfl rfl rfl lt0 ?_)
      intro b19
      refine ⟨_, _, rfl, ?_⟩
      refine WalkP.nil (NodeS.branch [4] (inCons 2 rfl inNil) rfl rfl rfl ⟨?_, trivial⟩)
      ·
       refine ⟨_, _, _, _, rfl, rfl, rfl, (⟨_, _, rfl, rfl, ⟨_, _, rfl, rfl, rfl⟩⟩), fun E1 => ?_⟩
       refine (V1.appendMap (k := 0) (f := encRule) (l := ([] : List Rule)) (m := (slc y2 (0 : Int) k)) rfl rfl rfl rfl rfl esz_58 eby_58 zk_109 rfl rfl rfl (.vl isl_58) hh6 lt0 ?_)
       intro b20
       refine ⟨_, _, rfl, ?_⟩
       refine WalkP.nil (NodeS.branch [7] (inCons 2 rfl inNil) rfl rfl rfl ⟨?_, trivial⟩)
       ·
        refine ⟨_, _, _, _, rfl, rfl, rfl, (⟨_, _, rfl, rfl, ⟨_, _, rfl, rfl, rfl⟩⟩), fun E1 => ?_⟩
        refine (V1.appendMap (k := 0) (f := encRule) (l := (([] : List Rule) ++ (slc y2 (0 : Int) k))) (m := ([r_] : List Rule)) rfl rfl rfl rfl rfl esz_58 eby_58 zk_109 rfl rfl rfl (SrcOf.srMap (k := 1) rfl isl_58) hh7 lt0 ?_)
        intro b21
        refine ⟨_, _, rfl, ?_⟩
        refine WalkP.nil (NodeS.fin (inCons 2 rfl inNil) rfl rfl rfl (⟨_, _, rfl, rfl, ⟨_, _, rfl, rfl, rfl⟩⟩) ?_)
        refine VO.cons rfl (V1.appendMap (k := 0) (f := encRule) (l := ((([] : List Rule) ++ (slc y2 (0 : Int) k)) ++ ([r_] : List Rule))) (m := (slc y2 k (y2.length : Int))) rfl rfl rfl rfl rfl esz_58 eby_58 zk_109 rfl rfl rfl (.vl isl_58) hh9 lt0 ?_)
        intro b22
        refine VO.cons rfl (V1.as ?_)
        refine VO.nil ?_
        exact ⟨((((([] : List Rule) ++ (slc y2 (0 : Int) k)) ++ ([r_] : List Rule)) ++ (slc y2 k (y2.length : Int))), b22), oi hm1, Keeps.mk (ks := [0]) rfl ⟨rfl, trivial⟩ (⟨_, _, rfl, rfl, rfl⟩) rfl⟩
   ·
    rintro ⟨out_, b8⟩ rfl
    try dsimp only at hm0
    refine V.seq (V.seq ?_)
    replace hm0 := bindO hm0; rcases hm0 with ⟨y5, hh10, hm0⟩
    refine V.region (VO.cons rfl (V1.mv ?_))
    refine VO.cons rfl (V1.callL (rn + 1) [b8] [.vl (rn + 1) 4 (List.map encRule out_)] rfl rfl rfl cok_114 rfl ⟨_, _, rfl, Lend.srMap 0 rfl (fun _ => rfl) (.head _), rfl⟩ (bwCons (k := 0) rfl bwNil) (ok_spec_l4Good hh10) rfl (⟨(by first | omega | (dsimp only; omega)), by rintro _ _ ⟨rfl, rfl⟩; exact ⟨rfl, by simp⟩⟩) lt0 ?_)
    rintro _ _ ⟨rfl, rfl⟩
    refine VO.cons rfl (V1.not rfl rfl rfl lt0 ?_)
    refine VO.nil (V.cond rfl (fun hc2 => ?_) (fun hc2 => ?_))
    ·
     replace hm0 := cond_t hc2 hm0
     refine V.seq (V.region (VO.cons rfl (V1.buildSliceT (f := encRule) ([] : List Rule) rfl rfl esz_58 zk_109 rfl rfl rfl rfl rfl rfl rfl lt0 ?_)))
     intro b23
     refine VO.cons rfl (V1.as ?_)
     refine VO.cons rfl (V1.as ?_)
     refine VO.nil (V.keep 55 [4, 5] [0] (E0 := [(4, .sref b23 4 0 (List.length ([] : List Rule))), (5, .bool false)]) (H0 := [(b23, ⟨4, List.map encRule ([] : List Rule)⟩)]) rfl (⟨_, _, rfl, rfl, ⟨_, _, rfl, rfl, rfl⟩⟩) (⟨_, _, rfl, rfl, rfl⟩) rfl ?_)
     refine V.ret ?_
     obtain rfl := oi hm0
     exact ⟨_, _, ⟨_, _, rfl, rfl, ⟨_, _, rfl, rfl, rfl⟩⟩, List.Sublist.refl _, b23, rfl, rfl⟩
    ·
     replace hm0 := cond_f hc2 hm0
     refine V.skip ?_
     refine V.seq (V.region (VO.cons rfl (V1.mv ?_)))
     refine VO.cons rfl (V1.as ?_)
     refine VO.cons rfl (V1.as ?_)
     refine VO.nil (V.keep 55 [4, 5] [0] (E0 := [(4, .sref b8 4 0 (List.length out_)), (5, .bool true)]) (H0 := [(b8, ⟨4, List.map encRule out_⟩)]) rfl (⟨_, _, rfl, rfl, ⟨_, _, rfl, rfl, rfl⟩⟩) (⟨_, _, rfl, rfl, rfl⟩) rfl ?_)
     refine V.ret ?_
     obtain rfl := oi hm0
     exact ⟨_, _, ⟨_, _, rfl, rfl, ⟨_, _, rfl, rfl, rfl⟩⟩, List.Sublist.refl _, b8, rfl, rfl⟩
end Go.Proofs.Ytjfpdbhjoofllaa
