/- the functions do what their models say -/
import Derived.Test.YtfebeomnlkfgoaaQg1
set_option linter.unusedSimpArgs false
set_option linter.unusedVariables false
set_option maxRecDepth 100000
set_option maxHeartbeats 4000000
namespace Go.Proofs.Ytfebeomnlkfgoaa
open Go.VS
theorem ok_impl_freeOn {ρ0 σ0 rn : Nat} {list : List Carton} {room : Int} {shelf : Int} {r : Int} (h : M.impl_freeOn list room shelf = some r) : Does Try.prog 92 [.vl ρ0 5 (List.map (encCarton σ0) list), .int .i64 room, .int .i64 shelf] [] rn (fun x H => x = .int .i64 r ∧ H = []) := by
 have hm0 := h; clear h; unfold M.impl_freeOn at hm0
 try dsimp only at hm0
 refine Does.intro (N := 32) Try.func92 rfl rfl rfl rfl ?_
 intro w0 S0
 refine V.seq (V.region (VO.cons rfl (V1.as ?_)))
 refine VO.nil (V.seq (V.region (VO.cons rfl (V1.as ?_))))
 refine VO.nil (V.seq (V.seq (V.region (VO.cons rfl (V1.mv ?_)))))
 refine VO.cons rfl (V1.lenMap rfl rfl rfl rfl rfl rfl isl_39 lt0 ?_)
 refine VO.cons rfl (V1.mv ?_)
 refine VO.nil ?_
 replace hm0 := bindO hm0; rcases hm0 with ⟨e0, he1, hm0⟩
 refine V.cutT (D := (Int) × (Unit)) (fun ⟨free, _⟩ => ⟨32, [(7, .int .i64 free)], []⟩) (fun ⟨free, _⟩ => (free = e0)) ?_ ?_
 ·
  refine V.block ?_
  refine V.keep 32 [7, 12, 1, 2, 10, 11] [] (E0 := [(7, .int .i64 (100 : Int)), (12, .int .i64 (0 : Int)), (1, .int .i64 room), (2, .int .i64 shelf), (10, .vl ρ0 5 (List.map (encCarton σ0) list)), (11, .int .i64 (list.length : Int))]) (H0 := []) rfl (⟨_, _, rfl, rfl, _, _, rfl, rfl, _, _, rfl, rfl, _, _, rfl, rfl, _, _, rfl, rfl, _, _, rfl, rfl, rfl⟩) (rfl) rfl ?_
  refine V.loopE (D := Nat × (Int × Int) × (Unit)) (fun ⟨n0, ⟨free0, v⟩, _⟩ => [(7, .int .i64 free0), (12, .int .i64 v)]) (fun ⟨n0, ⟨free0, v⟩, _⟩ => []) (fun ⟨n0, ⟨free0, v⟩, _⟩ => loopO (M.impl_freeOn_l0 list room shelf) n0 (free0, v) = some e0) (fun ⟨n0, _, _⟩ => n0) (rounds, ((100 : Int), (0 : Int)), ()) rfl he1 ?_
  rintro ⟨n0, ⟨free0, v⟩, _⟩ hP0
  obtain ⟨m0, y0, rfl, hm1, hl1, hr1⟩ := loop_head hP0
  unfold M.impl_freeOn_l0 at hm1; dsimp only at hm1
  show V _ _ _ ⟨32, [(7, .int .i64 free0), (12, .int .i64 v), (1, .int .i64 room), (2, .int .i64 shelf), (10, .vl ρ0 5 (List.map (encCarton σ0) list)), (11, .int .i64 (list.length : Int))], []⟩
  refine V.seq (V.region (VO.cons rfl (V1.it ?_)))
  refine VO.nil (V.seq (V.cond rfl (fun hc0 => ?_) (fun hc0 => ?_)))
  ·
   replace hm1 := cond_t hc0 hm1
   refine V.skip ?_
   refine V.seq ?_
   replace hm1 := bindO hm1; rcases hm1 with ⟨j0, hm2, hm1⟩
   refine V.cutT (D := (Int) × (Unit)) (fun ⟨free1, _⟩ => ⟨32, [(7, .int .i64 free1), (1, .int .i64 room), (2, .int .i64 shelf), (10, .vl ρ0 5 (List.map (encCarton σ0) list)), (11, .int .i64 (list.length : Int)), (12, .int .i64 v)], []⟩) (fun ⟨free1, _⟩ => (free1 = j0)) ?_ ?_
   ·
    refine V.block ?_
    refine V.seq ?_
    replace hm2 := asrt_some hm2; rcases hm2 with ⟨hh0, hm2⟩
    refine V.region (VO.cons rfl (V1.indexI rfl rfl esz_39 rfl rfl hh0 lt0 ?_))
    refine VO.cons rfl (V1.loadPinAll rfl rfl tyk_67 rfl rfl lt0 ?_)
    refine VO.cons rfl (V1.alloc rfl rfl zk_67 lt0 ?_)
    intro b0
    refine VO.cons rfl (V1.storeRefAll (k := 0) rfl rfl tyk_67 rfl rfl rfl rfl rfl rfl ?_)
    refine VO.nil (V.seq (V.region (VO.cons rfl (V1.fieldRef rfl rfl fo_67_2 rfl lt0 ?_))))
    refine VO.cons rfl (V1.loadRef (k := 0) rfl rfl tyk_3 rfl rfl rfl rfl rfl lt0 ?_)
    refine VO.cons rfl (V1.mv ?_)
    refine VO.cons rfl (V1.it ?_)
    refine VO.cons rfl (V1.mv ?_)
    apply VO.and (n := 4) rfl rfl rfl rfl rfl rfl lt0 (.none rfl)
    ·
     intro hg0
     refine VO.step (.some rfl rfl rfl) (V1.fieldRef rfl rfl fo_67_1 rfl lt0 ?_)
     refine VO.step (.some rfl rfl rfl) (V1.loadRef (k := 0) rfl rfl tyk_3 rfl rfl rfl rfl rfl lt0 ?_)
     refine VO.step (.some rfl rfl rfl) (V1.mv ?_)
     refine VO.step (.some rfl rfl rfl) (V1.it ?_)
     exact VO.nil ⟨rfl, rfl, rfl, rfl, .inr ⟨rfl, .inr ⟨rfl, .inr ⟨rfl, .inr ⟨rfl, .inr ⟨rfl, .inl rfl⟩⟩⟩⟩⟩⟩
    refine VO.nil (V.keep 32 [1, 2, 7, 9, 10, 11, 12, 25] [0] (E0 := [(1, .int .i64 room), (2, .int .i64 shelf), (7, .int .i64 free0), (9, .ref b0 5 0 0), (10, .vl ρ0 5 (List.map (encCarton σ0) list)), (11, .int .i64 (list.length : Int)), (12, .int .i64 v), (25, .bool ((((list.getD (Int.toNat v) default).Room) == room) && (((list.getD (Int.toNat v) default).Shelf) == shelf)))]) (H0 := [(b0, ⟨5, [encCarton σ0 (list.getD (Int.toNat v) default)]⟩)]) rfl (⟨_, _, rfl, rfl, _, _, rfl, rfl, _, _, rfl, rfl, _, _, rfl, rfl, _, _, rfl, rfl, _, _, rfl, rfl, _, _, rfl, rfl, _, _, rfl, rfl, rfl⟩) (⟨_, _, rfl, rfl, rfl⟩) rfl ?_)
    refine V.cond rfl (fun hc1 => ?_) (fun hc1 => ?_)
    ·
     replace hm2 := cond_t hc1 hm2
     refine V.region (VO.cons rfl (V1.mv ?_))
     refine VO.cons rfl (V1.fieldRef rfl rfl fo_67_4 rfl lt0 ?_)
     refine VO.cons rfl (V1.loadRef (k := 0) rfl rfl tyk_3 rfl rfl rfl rfl rfl lt0 ?_)
     refine VO.cons rfl (V1.it ?_)
     refine VO.cons rfl (V1.as ?_)
     refine VO.nil ?_
     exact ⟨((IntKind.i64.wrap (free0 - ((list.getD (Int.toNat v) default).Thick))), ()), oi hm2, Keeps.mk (ks := []) rfl ⟨rfl, rfl, rfl, rfl, rfl, rfl, trivial⟩ (rfl) rfl⟩
    ·
     replace hm2 := cond_f hc1 hm2
     refine V.skip ?_
     exact ⟨(free0, ()), oi hm2, Keeps.mk (ks := []) rfl ⟨rfl, rfl, rfl, rfl, rfl, rfl, trivial⟩ (rfl) rfl⟩
   ·
    rintro ⟨free1, _⟩ rfl
    try dsimp only at hm1
    refine V.region (VO.cons rfl (V1.it ?_))
    refine VO.cons rfl (V1.mv ?_)
    refine VO.nil ?_
    exact ⟨(m0, (free1, (IntKind.i64.wrap (v + (1 : Int)))), ()), hl1 _ (oi hm1).symm, Nat.lt_succ_self _, Keeps.mk (ks := []) rfl ⟨rfl, rfl, rfl, rfl, rfl, rfl, trivial⟩ (rfl) rfl⟩
  ·
   replace hm1 := cond_f hc0 hm1
   refine V.exit ?_
   obtain rfl := hr1 _ (oi hm1).symm
   exact ⟨(free0, ()), rfl, Keeps.mk (ks := []) rfl ⟨rfl, trivial⟩ (rfl) rfl⟩
 ·
  rintro ⟨free, _⟩ rfl
  try dsimp only at hm0
  refine V.seq (V.region (VO.cons rfl (V1.mv ?_)))
  refine VO.cons rfl (V1.as ?_)
  refine VO.nil (V.ret ?_)
  obtain rfl := oi hm0
  exact ⟨_, [], ⟨_, _, rfl, rfl, rfl⟩, List.nil_sublist _, rfl, rfl⟩
theorem ok_impl_AreCartons {ρ0 rn : Nat} {list : List Carton} {r : Bool} (h : M.impl_AreCartons list = some r) : Does Try.prog 45 [.vl ρ0 5 (List.map (encCarton ρ0) list)] [] rn (fun x H => x = .bool r ∧ H = []) := by
 have hm0 := h; clear h; unfold M.impl_AreCartons at hm0
 try dsimp only at hm0
 refine Does.intro (N := 59) Try.func45 rfl rfl rfl rfl ?_
 intro w0 S0
 refine V.seq (V.region (VO.cons rfl (V1.as ?_)))
 refine VO.nil (V.seq (V.seq (V.region (VO.cons rfl (V1.mv ?_)))))
 refine VO.cons rfl (V1.lenMap rfl rfl rfl rfl rfl rfl isl_39 lt0 ?_)
 refine VO.cons rfl (V1.it ?_)
 refine VO.nil (V.cond rfl (fun hc0 => ?_) (fun hc0 => ?_))
 ·
  replace hm0 := cond_t hc0 hm0
  refine V.seq (V.region (VO.cons rfl (V1.as ?_)))
  refine VO.nil (V.ret ?_)
  obtain rfl := oi hm0
  exact ⟨_, [], ⟨_, _, rfl, rfl, rfl⟩, List.nil_sublist _, rfl, rfl⟩
 ·
  replace hm0 := cond_f hc0 hm0
  refine V.skip ?_
  refine V.keep 59 [0] [] (E0 := [(0, .vl ρ0 5 (List.map (encCarton ρ0) list))]) (H0 := []) rfl (⟨_, _, rfl, rfl, rfl⟩) (rfl) rfl ?_
  refine V.seq (V.seq (V.region (VO.cons rfl (V1.mv ?_))))
  refine VO.cons rfl (V1.lenMap rfl rfl rfl rfl rfl rfl isl_39 lt0 ?_)
  refine VO.cons rfl (V1.mv ?_)
  refine VO.nil ?_
  replace hm0 := bindO hm0; rcases hm0 with ⟨e0, he1, hm0⟩
  refine V.cutT (D := (Unit) × (Unit)) (fun ⟨_, _⟩ => ⟨59, [], []⟩) (fun ⟨_, _⟩ => (.inl () = e0)) ?_ ?_
  ·
   refine V.block ?_
   refine V.keep 59 [12, 0, 10, 11] [] (E0 := [(12, .int .i64 (0 : Int)), (0, .vl ρ0 5 (List.map (encCarton ρ0) list)), (10, .vl ρ0 5 (List.map (encCarton ρ0) list)), (11, .int .i64 (list.length : Int))]) (H0 := []) rfl (⟨_, _, rfl, rfl, _, _, rfl, rfl, _, _, rfl, rfl, _, _, rfl, rfl, rfl⟩) (rfl) rfl ?_
   refine V.loopE (D := Nat × (Int) × (Unit)) (fun ⟨n0, v, _⟩ => [(12, .int .i64 v)]) (fun ⟨n0, v, _⟩ => []) (fun ⟨n0, v, _⟩ => loopO (M.impl_AreCartons_l0 list) n0 v = some e0) (fun ⟨n0, _, _⟩ => n0) (rounds, (0 : Int), ()) rfl he1 ?_
   rintro ⟨n0, v, _⟩ hP0
   obtain ⟨m0, y0, rfl, hm1, hl1, hr1⟩ := loop_head hP0
   unfold M.impl_AreCartons_l0 at hm1; dsimp only at hm1
   show V _ _ _ ⟨59, [(12, .int .i64 v), (0, .vl ρ0 5 (List.map (encCarton ρ0) list)), (10, .vl ρ0 5 (List.map (encCarton ρ0) list)), (11, .int .i64 (list.length : Int))], []⟩
   refine V.seq (V.region (VO.cons rfl (V1.it ?_)))
   refine VO.nil (V.seq (V.cond rfl (fun hc1 => ?_) (fun hc1 => ?_)))
   ·
    replace hm1 := cond_t hc1 hm1
    refine V.skip ?_
    refine V.seq (V.block ?_)
    refine V.seq ?_
    replace hm1 := asrt_some hm1; rcases hm1 with ⟨hh0, hm1⟩
    refine V.region (VO.cons rfl (V1.mv ?_))
    refine VO.cons rfl (V1.indexI rfl rfl esz_39 rfl rfl hh0 lt0 ?_)
    refine VO.cons rfl (V1.loadPinAll rfl rfl tyk_67 rfl rfl lt0 ?_)
    refine VO.cons rfl (V1.alloc rfl rfl zk_67 lt0 ?_)
    intro b0
    refine VO.cons rfl (V1.as ?_)
    refine VO.cons rfl (V1.storeRefAll (k := 0) rfl rfl tyk_67 rfl rfl rfl rfl rfl rfl ?_)
    refine VO.nil (V.keep 59 [0, 3, 4, 10, 11, 12] [0] (E0 := [(0, .vl ρ0 5 (List.map (encCarton ρ0) list)), (3, .int .i64 v), (4, .ref b0 5 0 0), (10, .vl ρ0 5 (List.map (encCarton ρ0) list)), (11, .int .i64 (list.length : Int)), (12, .int .i64 v)]) (H0 := [(b0, ⟨5, [encCarton ρ0 (list.getD (Int.toNat v) default)]⟩)]) rfl (⟨_, _, rfl, rfl, _, _, rfl, rfl, _, _, rfl, rfl, _, _, rfl, rfl, _, _, rfl, rfl, _, _, rfl, rfl, rfl⟩) (⟨_, _, rfl, rfl, rfl⟩) rfl ?_)
    refine V.seq (V.seq ?_)
    replace hm1 := bindO hm1; rcases hm1 with ⟨y1, hh1, hm1⟩
    replace hm1 := asrt_some hm1; rcases hm1 with ⟨hh2, hm1⟩
    refine V.regionM 59 18 [⟨[(4, none)], [], none⟩, ⟨[(17, some 0)], [], none⟩, ⟨[(18, some 0)], [], none⟩, ⟨[(19, some 0)], [], none⟩, ⟨[(3, none)], [(0, false)], none⟩, ⟨[(21, some 0)], [(1, false)], none⟩, ⟨[(22, some 0)], [(2, false)], none⟩, ⟨[(0, none)], [(0, true), (3, false)], none⟩, ⟨[(3, none)], [(1, true), (4, false)], none⟩, ⟨[(25, some 0)], [(2, true), (5, false)], none⟩, ⟨[(24, some 2), (26, some 0)], [(3, true), (6, false)], none⟩, ⟨[(27, some 0)], [(4, true), (7, false)], none⟩, ⟨[(28, some 0)], [(5, true), (8, false)], none⟩, ⟨[(4, none)], [(6, true), (9, false)], none⟩, ⟨[(30, some 0)], [(7, true), (10, false)], none⟩, ⟨[(29, some 2), (31, some 0)], [(8, true), (11, false)], none⟩, ⟨[], [(12, false)], some (true, 23, 32, 9, 0)⟩, ⟨[], [], some (false, 20, 33, 13, 0)⟩] [(0, none), (3, none), (4, none), (10, none), (11, none), (12, none), (34, some 0)] (⟨_, rfl, ⟨_, rfl, ⟨_, rfl, ⟨_, rfl, ⟨_, rfl, ⟨_, rfl, ⟨_, rfl, ⟨_, rfl, ⟨_, rfl, ⟨_, rfl, ⟨_, rfl, ⟨_, rfl, ⟨_, rfl, ⟨_, rfl, ⟨_, rfl, ⟨_, rfl, ⟨_, rfl, ⟨_, rfl, ⟨rfl, rfl⟩⟩⟩⟩⟩⟩⟩⟩⟩⟩⟩⟩⟩⟩⟩⟩⟩⟩⟩) mixed_orders rfl (by decide +kernel) (fun hck6 => ?_)
    refine VP.step (p := ?pv250) rfl rfl rfl (⟨_, _, rfl, rfl, rfl⟩) ?hv250 ?rest250 hck6
    case hv250 =>
     intro E1
     refine (V1.loadRefAll (k := 0) rfl rfl tyk_67 rfl rfl rfl rfl rfl lt0 ?_)
     exact rfl
    refine VP.step (p := ?pv251) rfl rfl rfl (⟨_, _, rfl, rfl, rfl⟩) ?hv251 ?rest251 hck6
    case hv251 =>
     intro E1
     refine (V1.call rfl rfl rfl cok_88 rfl (ok_impl_IsCarton hh1) rfl lt0 ?_)
     rintro _ _ ⟨rfl, rfl⟩
     exact rfl
    refine VP.step (p := ?pv253) rfl rfl rfl (⟨_, _, rfl, rfl, rfl⟩) ?hv253 ?rest253 hck6
    case hv253 =>
     intro E1
     refine (V1.not rfl rfl rfl lt0 ?_)
     exact rfl
    refine VP.step (p := ?pv254) rfl rfl rfl (⟨_, _, rfl, rfl, rfl⟩) ?hv254 ?rest254 hck6
    case hv254 =>
     intro E1
     refine (V1.mv ?_)
     exact rfl
    refine VP.step (p := ?pv255) rfl rfl rfl (⟨_, _, rfl, rfl, rfl⟩) ?hv255 ?rest255 hck6
    case hv255 =>
     refine ⟨_, rfl, fun hg0 => ?_⟩
     intro E1
     refine (V1.mv ?_)
     exact rfl
    refine VP.step (p := ?pv256) rfl rfl rfl (⟨_, _, rfl, rfl, rfl⟩) ?hv256 ?rest256 hck6
    case hv256 =>
     refine ⟨_, rfl, fun hg0 => ?_⟩
     intro E1
     refine (V1.it ?_)
     exact rfl
    refine VP.step (p := ?pv257) rfl rfl rfl (⟨_, _, rfl, rfl, rfl⟩) ?hv257 ?rest257 hck6
    case hv257 =>
     refine ⟨_, rfl, fun hg0 => ?_⟩
     intro E1
     refine (V1.mv ?_)
     exact rfl
    refine VP.step (p := ?pv258) rfl rfl rfl (⟨_, _, rfl, rfl, rfl⟩) ?hv258 ?rest258 hck6
    case hv258 =>
     refine ⟨_, rfl, fun hg1 => ?_⟩
     refine ⟨_, rfl, fun hg0 => ?_⟩
     intro E1
     refine (V1.mv ?_)
     exact rfl
    refine VP.step (p := ?pv259) rfl rfl rfl (⟨_, _, rfl, rfl, rfl⟩) ?hv259 ?rest259 hck6
    case hv259 =>
     refine ⟨_, rfl, fun hg1 => ?_⟩
     refine ⟨_, rfl, fun hg0 => ?_⟩
     intro E1
     refine (V1.mv ?_)
     exact rfl
    refine VP.step (p := ?pv260) rfl rfl rfl (⟨_, _, rfl, rfl, rfl⟩) ?hv260 ?rest260 hck6
    case hv260 =>
     refine ⟨_, rfl, fun hg1 => ?_⟩
     refine ⟨_, rfl, fun hg0 => ?_⟩
     intro E1
     refine (V1.it ?_)
     exact rfl
    refine VP.step (p := ?pv261) rfl rfl rfl (⟨_, _, rfl, rfl, _, _, rfl, rfl, rfl⟩) ?hv261 ?rest261 hck6
    case hv261 =>
     refine ⟨_, rfl, fun hg1 => ?_⟩
     refine ⟨_, rfl, fun hg0 => ?_⟩
     intro E1
     refine (V1.indexI rfl rfl esz_39 rfl rfl (hh2 hg0 hg1) lt0 ?_)
     exact rfl
    refine VP.step (p := ?pv262) rfl rfl rfl (⟨_, _, rfl, rfl, rfl⟩) ?hv262 ?rest262 hck6
    case hv262 =>
     refine ⟨_, rfl, fun hg1 => ?_⟩
     refine ⟨_, rfl, fun hg0 => ?_⟩
     intro E1
     refine (V1.fieldPin rfl rfl fo_67_0 rfl lt0 ?_)
     exact rfl
    refine VP.step (p := ?pv263) rfl rfl rfl (⟨_, _, rfl, rfl, rfl⟩) ?hv263 ?rest263 hck6
    case hv263 =>
     refine ⟨_, rfl, fun hg1 => ?_⟩
     refine ⟨_, rfl, fun hg0 => ?_⟩
     intro E1
     refine (V1.loadPin rfl rfl tyk_3 rfl rfl lt0 ?_)
     exact rfl
    refine VP.step (p := ?pv264) rfl rfl rfl (⟨_, _, rfl, rfl, rfl⟩) ?hv264 ?rest264 hck6
    case hv264 =>
     refine ⟨_, rfl, fun hg1 => ?_⟩
     refine ⟨_, rfl, fun hg0 => ?_⟩
     intro E1
     refine (V1.fieldRef rfl rfl fo_67_0 rfl lt0 ?_)
     exact rfl
    refine VP.step (p := ?pv265) rfl rfl rfl (⟨_, _, rfl, rfl, rfl⟩) ?hv265 ?rest265 hck6
    case hv265 =>
     refine ⟨_, rfl, fun hg1 => ?_⟩
     refine ⟨_, rfl, fun hg0 => ?_⟩
     intro E1
     refine (V1.loadRef (k := 0) rfl rfl tyk_3 rfl rfl rfl rfl rfl lt0 ?_)
     exact rfl
    refine VP.step (p := ?pv266) rfl rfl rfl (⟨_, _, rfl, rfl, _, _, rfl, rfl, rfl⟩) ?hv266 ?rest266 hck6
    case hv266 =>
     refine ⟨_, rfl, fun hg1 => ?_⟩
     refine ⟨_, rfl, fun hg0 => ?_⟩
     intro E1
     refine (V1.it ?_)
     exact rfl
    refine VP.pickAnd rfl rfl rfl rfl rfl rfl (⟨_, rfl, fun _ => trivial⟩) ?_ hck6
    refine VP.pickOr rfl rfl rfl rfl rfl rfl (trivial) ?_ hck6
    refine VP.fin rfl (⟨_, _, rfl, rfl, _, _, rfl, rfl, _, _, rfl, rfl, _, _, rfl, rfl, _, _, rfl, rfl, _, _, rfl, rfl, _, _, rfl, rfl, rfl⟩) ?_
    refine VO.nil (V.cond rfl (fun hc2 => ?_) (fun hc2 => ?_))
    ·
     replace hm1 := cond_t hc2 hm1
     refine V.seq (V.region (VO.cons rfl (V1.as ?_)))
     refine VO.nil (V.ret ?_)
     obtain rfl := hr1 _ (oi hm1).symm
     change some _ = some _ at hm0
     obtain rfl := oi hm0
     exact ⟨_, [], ⟨_, _, rfl, rfl, rfl⟩, List.nil_sublist _, rfl, rfl⟩
    ·
     replace hm1 := cond_f hc2 hm1
     refine V.skip ?_
     refine V.seq (V.seq ?_)
     replace hm1 := asrt_some hm1; rcases hm1 with ⟨hh3, hm1⟩
     refine V.region (VO.cons rfl (V1.mv ?_))
     refine VO.cons rfl (V1.mv ?_)
     refine VO.cons rfl (V1.sliceMap (a := (0 : Int)) (b := v) rfl rfl esz_39 rfl (Bnd.none _ _) (Bnd.some rfl (Int.le_trans hh3.1 hh3.2.1) _) hh3 lt0 ?_)
     refine VO.cons rfl (V1.lenMap rfl rfl rfl rfl rfl rfl isl_39 lt0 ?_)
     refine VO.cons rfl (V1.mv ?_)
     refine VO.nil ?_
     replace hm1 := bindO hm1; rcases hm1 with ⟨e1, he2, hm1⟩
     refine V.cutT (D := (Unit) × (Unit)) (fun ⟨_, _⟩ => ⟨59, [(0, .vl ρ0 5 (List.map (encCarton ρ0) list)), (3, .int .i64 v), (4, .ref b0 5 0 0), (10, .vl ρ0 5 (List.map (encCarton ρ0) list)), (11, .int .i64 (list.length : Int)), (12, .int .i64 v)], [(b0, ⟨5, [encCarton ρ0 (list.getD (Int.toNat v) default)]⟩)]⟩) (fun ⟨_, _⟩ => (.inl () = e1)) ?_ ?_
     ·
      refine V.block ?_
      refine V.keep 59 [39, 0, 3, 4, 10, 11, 12, 37, 38] [0] (E0 := [(39, .int .i64 (0 : Int)), (0, .vl ρ0 5 (List.map (encCarton ρ0) list)), (3, .int .i64 v), (4, .ref b0 5 0 0), (10, .vl ρ0 5 (List.map (encCarton ρ0) list)), (11, .int .i64 (list.length : Int)), (12, .int .i64 v), (37, .vl ρ0 5 (List.map (encCarton ρ0) (slc list (0 : Int) v))), (38, .int .i64 ((slc list (0 : Int) v).length : Int))]) (H0 := [(b0, ⟨5, [encCarton ρ0 (list.getD (Int.toNat v) default)]⟩)]) rfl (⟨_, _, rfl, rfl, _, _, rfl, rfl, _, _, rfl, rfl, _, _, rfl, rfl, _, _, rfl, rfl, _, _, rfl, rfl, _, _, rfl, rfl, _, _, rfl, rfl, _, _, rfl, rfl, rfl⟩) (⟨_, _, rfl, rfl, rfl⟩) rfl ?_
      refine V.loopE (D := Nat × (Int) × (Unit)) (fun ⟨n1, v0, _⟩ => [(39, .int .i64 v0)]) (fun ⟨n1, v0, _⟩ => []) (fun ⟨n1, v0, _⟩ => loopO (M.impl_AreCartons_l1 list v) n1 v0 = some e1) (fun ⟨n1, _, _⟩ => n1) (rounds, (0 : Int), ()) rfl he2 ?_
      rintro ⟨n1, v0, _⟩ hP1
      obtain ⟨m1, y2, rfl, hm2, hl2, hr2⟩ := loop_head hP1
      unfold M.impl_AreCartons_l1 at hm2; dsimp only at hm2
      show V _ _ _ ⟨59, [(39, .int .i64 v0), (0, .vl ρ0 5 (List.map (encCarton ρ0) list)), (3, .int .i64 v), (4, .ref b0 5 0 0), (10, .vl ρ0 5 (List.map (encCarton ρ0) list)), (11, .int .i64 (list.length : Int)), (12, .int .i64 v), (37, .vl ρ0 5 (List.map (encCarton ρ0) (slc list (0 : Int) v))), (38, .int .i64 ((slc list (0 : Int) v).length : Int))], [(b0, ⟨5, [encCarton ρ0 (list.getD (Int.toNat v) default)]⟩)]⟩
      refine V.seq (V.region (VO.cons rfl (V1.it ?_)))
      refine VO.nil (V.seq (V.cond rfl (fun hc3 => ?_) (fun hc3 => ?_)))
      ·
       replace hm2 := cond_t hc3 hm2
       refine V.skip ?_
       refine V.seq (V.block ?_)
       refine V.seq ?_
       replace hm2 := asrt_some hm2; rcases hm2 with ⟨hh4, hm2⟩
       refine V.region (VO.cons rfl (V1.indexI rfl rfl esz_39 rfl rfl hh4 lt0 ?_))
       refine VO.cons rfl (V1.loadPinAll rfl rfl tyk_67 rfl rfl lt0 ?_)
       refine VO.cons rfl (V1.alloc rfl rfl zk_67 lt0 ?_)
       intro b1
       refine VO.cons rfl (V1.storeRefAll (k := 0) rfl rfl tyk_67 rfl rfl rfl rfl rfl rfl ?_)
       refine VO.nil (V.seq ?_)
       replace hm2 := bindO hm2; rcases hm2 with ⟨y3, hh5, hm2⟩
       refine V.region (VO.cons rfl (V1.fieldRef rfl rfl fo_67_3 rfl lt0 ?_))
       refine VO.cons rfl (V1.loadRef (k := 1) rfl rfl tyk_36 rfl rfl rfl rfl rfl lt0 ?_)
       refine VO.cons rfl (V1.makeFunc rfl rfl rfl lt0 ?_)
       refine VO.cons rfl (V1.callL (rn + 1) [b1] [.vl ρ0 1 (List.map encInt ((list.getD (Int.toNat v) default).Files)), .fn 90 [.pin (rn + 1) (encCarton ρ0 ((slc list (0 : Int) v).getD (Int.toNat v0) default)) 0]] rfl rfl rfl cok_89 rfl ⟨_, _, rfl, .same _, ⟨_, _, rfl, Lend.fn ⟨_, _, rfl, Lend.ref 0 rfl rfl rfl rfl (.head _), rfl⟩, rfl⟩⟩ (bwCons (k := 0) rfl bwNil) (ok_slices_ContainsFunc_int_int hh5 (fm := (fun x0 => M.impl_AreCartons_1 x0 ((slc list (0 : Int) v).getD (Int.toNat v0) default))) cok_90 (fun _ _ h => ok_impl_AreCartons_1 h)) rfl (⟨(by first | omega | (dsimp only; omega)), by rintro _ _ ⟨rfl, rfl⟩; exact ⟨rfl, by simp⟩⟩) lt0 ?_)
       rintro _ _ ⟨rfl, rfl⟩
       refine VO.nil (V.keep 59 [0, 3, 4, 10, 11, 12, 37, 38, 39, 46] [1] (E0 := [(0, .vl ρ0 5 (List.map (encCarton ρ0) list)), (3, .int .i64 v), (4, .ref b0 5 0 0), (10, .vl ρ0 5 (List.map (encCarton ρ0) list)), (11, .int .i64 (list.length : Int)), (12, .int .i64 v), (37, .vl ρ0 5 (List.map (encCarton ρ0) (slc list (0 : Int) v))), (38, .int .i64 ((slc list (0 : Int) v).length : Int)), (39, .int .i64 v0), (46, .bool y3)]) (H0 := [(b0, ⟨5, [encCarton ρ0 (list.getD (Int.toNat v) default)]⟩)]) rfl (⟨_, _, rfl, rfl, _, _, rfl, rfl, _, _, rfl, rfl, _, _, rfl, rfl, _, _, rfl, rfl, _, _, rfl, rfl, _, _, rfl, rfl, _, _, rfl, rfl, _, _, rfl, rfl, _, _, rfl, rfl, rfl⟩) (⟨_, _, rfl, rfl, rfl⟩) rfl ?_)
       refine V.cond rfl (fun hc4 => ?_) (fun hc4 => ?_)
       ·
        replace hm2 := cond_t hc4 hm2
        refine V.seq (V.region (VO.cons rfl (V1.as ?_)))
        refine VO.nil (V.ret ?_)
        obtain rfl := hr2 _ (oi hm2).symm
        change some _ = some _ at hm1
        obtain rfl := hr1 _ (oi hm1).symm
        change some _ = some _ at hm0
        obtain rfl := oi hm0
        exact ⟨_, [], ⟨_, _, rfl, rfl, rfl⟩, List.nil_sublist _, rfl, rfl⟩
       ·
        replace hm2 := cond_f hc4 hm2
        refine V.skip ?_
        refine V.region (VO.cons rfl (V1.it ?_))
        refine VO.cons rfl (V1.mv ?_)
        refine VO.nil ?_
        exact ⟨(m1, (IntKind.i64.wrap (v0 + (1 : Int))), ()), hl2 _ (oi hm2).symm, Nat.lt_succ_self _, Keeps.mk (ks := [0]) rfl ⟨rfl, rfl, rfl, rfl, rfl, rfl, rfl, rfl, rfl, trivial⟩ (⟨_, _, rfl, rfl, rfl⟩) rfl⟩
      ·
       replace hm2 := cond_f hc3 hm2
       refine V.exit ?_
       obtain rfl := hr2 _ (oi hm2).symm
       exact ⟨((), ()), rfl, Keeps.mk (ks := [0]) rfl ⟨rfl, rfl, rfl, rfl, rfl, rfl, trivial⟩ (⟨_, _, rfl, rfl, rfl⟩) rfl⟩
     ·
      rintro ⟨_, _⟩ rfl
      try dsimp only at hm1
      refine V.seq ?_
      replace hm1 := asrt_some hm1; rcases hm1 with ⟨hh6, hm1⟩
      replace hm1 := bindO hm1; rcases hm1 with ⟨y4, hh7, hm1⟩
      refine V.regionM 59 8 [⟨[(0, none)], [], none⟩, ⟨[(3, none)], [], none⟩, ⟨[(49, some 0)], [], none⟩, ⟨[(48, some 2), (50, some 0)], [], none⟩, ⟨[(4, none)], [], none⟩, ⟨[(52, some 0)], [], none⟩, ⟨[(4, none)], [], none⟩, ⟨[(54, some 0)], [], none⟩] [(0, none), (10, none), (11, none), (12, none), (51, some 4), (53, some 2), (55, some 0)] (⟨_, rfl, ⟨_, rfl, ⟨_, rfl, ⟨_, rfl, ⟨_, rfl, ⟨_, rfl, ⟨_, rfl, ⟨_, rfl, ⟨rfl, rfl⟩⟩⟩⟩⟩⟩⟩⟩⟩) mixed_orders rfl (by decide +kernel) (fun hck14 => ?_)
      refine VP.step (p := ?pv271) rfl rfl rfl (⟨_, _, rfl, rfl, rfl⟩) ?hv271 ?rest271 hck14
      case hv271 =>
       intro E1
       refine (V1.mv ?_)
       exact rfl
      refine VP.step (p := ?pv272) rfl rfl rfl (⟨_, _, rfl, rfl, rfl⟩) ?hv272 ?rest272 hck14
      case hv272 =>
       intro E1
       refine (V1.mv ?_)
       exact rfl
      refine VP.step (p := ?pv273) rfl rfl rfl (⟨_, _, rfl, rfl, rfl⟩) ?hv273 ?rest273 hck14
      case hv273 =>
       intro E1
       refine (V1.it ?_)
       exact rfl
      refine VP.step (p := ?pv274) rfl rfl rfl (⟨_, _, rfl, rfl, _, _, rfl, rfl, rfl⟩) ?hv274 ?rest274 hck14
      case hv274 =>
       intro E1
       refine (V1.sliceMap (a := (0 : Int)) (b := (IntKind.i64.wrap (v + (1 : Int)))) rfl rfl esz_39 rfl (Bnd.none _ _) (Bnd.some rfl (Int.le_trans hh6.1 hh6.2.1) _) hh6 lt0 ?_)
       exact rfl
      refine VP.step (p := ?pv275) rfl rfl rfl (⟨_, _, rfl, rfl, rfl⟩) ?hv275 ?rest275 hck14
      case hv275 =>
       intro E1
       refine (V1.fieldRef rfl rfl fo_67_2 rfl lt0 ?_)
       exact rfl
      refine VP.step (p := ?pv276) rfl rfl rfl (⟨_, _, rfl, rfl, rfl⟩) ?hv276 ?rest276 hck14
      case hv276 =>
       intro E1
       refine (V1.loadRef (k := 0) rfl rfl tyk_3 rfl rfl rfl rfl rfl lt0 ?_)
       exact rfl
      refine VP.step (p := ?pv277) rfl rfl rfl (⟨_, _, rfl, rfl, rfl⟩) ?hv277 ?rest277 hck14
      case hv277 =>
       intro E1
       refine (V1.fieldRef rfl rfl fo_67_1 rfl lt0 ?_)
       exact rfl
      refine VP.step (p := ?pv278) rfl rfl rfl (⟨_, _, rfl, rfl, rfl⟩) ?hv278 ?rest278 hck14
      case hv278 =>
       intro E1
       refine (V1.loadRef (k := 0) rfl rfl tyk_3 rfl rfl rfl rfl rfl lt0 ?_)
       exact rfl
      refine VP.fin rfl (⟨_, _, rfl, rfl, _, _, rfl, rfl, _, _, rfl, rfl, _, _, rfl, rfl, _, _, rfl, rfl, _, _, rfl, rfl, _, _, rfl, rfl, rfl⟩) ?_
      refine VO.cons rfl (V1.call rfl rfl rfl cok_92 rfl (ok_impl_freeOn hh7) rfl lt0 ?_)
      rintro _ _ ⟨rfl, rfl⟩
      refine VO.cons rfl (V1.it ?_)
      refine VO.nil (V.keep 59 [0, 10, 11, 12, 57] [] (E0 := [(0, .vl ρ0 5 (List.map (encCarton ρ0) list)), (10, .vl ρ0 5 (List.map (encCarton ρ0) list)), (11, .int .i64 (list.length : Int)), (12, .int .i64 v), (57, .bool (decide (y4 < (0 : Int))))]) (H0 := []) rfl (⟨_, _, rfl, rfl, _, _, rfl, rfl, _, _, rfl, rfl, _, _, rfl, rfl, _, _, rfl, rfl, rfl⟩) (rfl) rfl ?_)
      refine V.cond rfl (fun hc5 => ?_) (fun hc5 => ?_)
      ·
       replace hm1 := cond_t hc5 hm1
       refine V.seq (V.region (VO.cons rfl (V1.as ?_)))
       refine VO.nil (V.ret ?_)
       obtain rfl := hr1 _ (oi hm1).symm
       change some _ = some _ at hm0
       obtain rfl := oi hm0
       exact ⟨_, [], ⟨_, _, rfl, rfl, rfl⟩, List.nil_sublist _, rfl, rfl⟩
      ·
       replace hm1 := cond_f hc5 hm1
       refine V.skip ?_
       refine V.region (VO.cons rfl (V1.it ?_))
       refine VO.cons rfl (V1.mv ?_)
       refine VO.nil ?_
       exact ⟨(m0, (IntKind.i64.wrap (v + (1 : Int))), ()), hl1 _ (oi hm1).symm, Nat.lt_succ_self _, Keeps.mk (ks := []) rfl ⟨rfl, rfl, rfl, rfl, trivial⟩ (rfl) rfl⟩
   ·
    replace hm1 := cond_f hc1 hm1
    refine V.exit ?_
    obtain rfl := hr1 _ (oi hm1).symm
    exact ⟨((), ()), rfl, Keeps.mk (ks := []) rfl trivial (rfl) rfl⟩
  ·
   rintro ⟨_, _⟩ rfl
   try dsimp only at hm0
   refine V.seq (V.region (VO.cons rfl (V1.as ?_)))
   refine VO.nil (V.ret ?_)
   obtain rfl := oi hm0
   exact ⟨_, [], ⟨_, _, rfl, rfl, rfl⟩, List.nil_sublist _, rfl, rfl⟩
theorem ok_slices_Clone_int_int {ρ0 rn : Nat} {s : List Int} {r : List Int} (h : M.slices_Clone_int_int s = some r) : Does Try.prog 109 [.vl ρ0 1 (List.map encInt s)] [] rn (fun x H => ∃ ob0_ : Option Nat, (ob0_ = none → r = []) ∧ x = optS 1 ob0_ (List.length r) ∧ H = optH 1 ob0_ (List.map encInt r)) := by
 have hm0 := h; clear h; unfold M.slices_Clone_int_int at hm0
 replace hm0 := asrt_some hm0; rcases hm0 with ⟨hh0, hm0⟩
 obtain rfl := oi hm0
 refine Does.intro (N := 8) Try.func109 rfl rfl rfl rfl ?_
 intro w0 S0
 refine V.seq (V.region (VO.cons rfl (V1.as ?_)))
 refine VO.nil (V.seq ?_)
 first | refine V.region ?_ | (refine V.seq ?_; refine V.region ?_)
 refine VO.cons rfl (V1.mv ?_)
 refine VO.cons rfl (V1.eqNil rfl rfl usl_36 rfl rfl lt0 ?_)
 intro c hc
 refine VO.nil ?_
 first | refine V.cond rfl (fun hc0 => ?_) (fun hc0 => ?_) | (refine V.seq ?_; refine V.cond rfl (fun hc0 => ?_) (fun hc0 => ?_))
 ·
  have hs : s = [] := List.map_eq_nil_iff.1 (hc hc0)
  refine V.seq (V.region (VO.cons rfl (V1.as ?_)))
  refine VO.nil (V.ret ?_)
  exact ⟨_, [], ⟨_, _, rfl, rfl, rfl⟩, List.nil_sublist _, none, fun _ => hs, rfl, rfl⟩
 ·
  refine V.skip ?_
  refine V.seq (V.region (VO.cons rfl (V1.buildSliceT (f := encInt) ([] : List Int) rfl rfl esz_36 zk_3 rfl rfl rfl rfl rfl rfl rfl lt0 ?_)))
  intro b0
  refine VO.cons rfl (V1.mv ?_)
  refine VO.cons rfl (V1.appendMap (k := 0) (f := encInt) (l := []) (m := s) rfl rfl rfl rfl rfl esz_36 eby_36 zk_3 rfl rfl rfl (.vl isl_36) (by simpa using hh0) lt0 ?_)
  intro b1
  refine VO.cons rfl (V1.as ?_)
  refine VO.nil (V.keep 8 [2] [0] (E0 := [(2, .sref b1 1 0 (List.length s))]) (H0 := [(b1, ⟨1, List.map encInt s⟩)]) rfl (⟨_, _, rfl, rfl, rfl⟩) (⟨_, _, rfl, rfl, rfl⟩) rfl ?_)
  refine V.ret ?_
  exact ⟨_, _, ⟨_, _, rfl, rfl, rfl⟩, List.Sublist.refl _, some b1, (fun e => by cases e), rfl, rfl⟩
theorem okv_slices_Clone_impl_Carton_impl_Carton {ρ0 σ0 rn : Nat} {s : List Carton} {r : List Carton} (h : M.slices_Clone_impl_Carton_impl_Carton s = some r) : Does Try.prog 108 [.vl ρ0 5 (List.map (encCarton σ0) s)] [] rn (fun x H => ∃ ob0_ : Option Nat, (ob0_ = none → r = []) ∧ x = optS 5 ob0_ (List.length r) ∧ H = optH 5 ob0_ (List.map (encCarton σ0) r)) := by
 have hm0 := h; clear h; unfold M.slices_Clone_impl_Carton_impl_Carton at hm0
 replace hm0 := asrt_some hm0; rcases hm0 with ⟨hh0, hm0⟩
 obtain rfl := oi hm0
 refine Does.intro (N := 8) Try.func108 rfl rfl rfl rfl ?_
 intro w0 S0
 refine V.seq (V.region (VO.cons rfl (V1.as ?_)))
 refine VO.nil (V.seq ?_)
 first | refine V.region ?_ | (refine V.seq ?_; refine V.region ?_)
 refine VO.cons rfl (V1.mv ?_)
 refine VO.cons rfl (V1.eqNil rfl rfl usl_39 rfl rfl lt0 ?_)
 intro c hc
 refine VO.nil ?_
 first | refine V.cond rfl (fun hc0 => ?_) (fun hc0 => ?_) | (refine V.seq ?_; refine V.cond rfl (fun hc0 => ?_) (fun hc0 => ?_))
 ·
  have hs : s = [] := List.map_eq_nil_iff.1 (hc hc0)
  refine V.seq (V.region (VO.cons rfl (V1.as ?_)))
  refine VO.nil (V.ret ?_)
  exact ⟨_, [], ⟨_, _, rfl, rfl, rfl⟩, List.nil_sublist _, none, fun _ => hs, rfl, rfl⟩
 ·
  refine V.skip ?_
  refine V.seq (V.region (VO.cons rfl (V1.buildSliceT (f := (encCarton σ0)) ([] : List Carton) rfl rfl esz_39 zk_67 rfl rfl rfl rfl rfl rfl rfl lt0 ?_)))
  intro b0
  refine VO.cons rfl (V1.mv ?_)
  refine VO.cons rfl (V1.appendMap (k := 0) (f := (encCarton σ0)) (l := []) (m := s) rfl rfl rfl rfl rfl esz_39 eby_39 zk_67 rfl rfl rfl (.vl isl_39) (by simpa using hh0) lt0 ?_)
  intro b1
  refine VO.cons rfl (V1.as ?_)
  refine VO.nil (V.keep 8 [2] [0] (E0 := [(2, .sref b1 5 0 (List.length s))]) (H0 := [(b1, ⟨5, List.map (encCarton σ0) s⟩)]) rfl (⟨_, _, rfl, rfl, rfl⟩) (⟨_, _, rfl, rfl, rfl⟩) rfl ?_)
  refine V.ret ?_
  exact ⟨_, _, ⟨_, _, rfl, rfl, rfl⟩, List.Sublist.refl _, some b1, (fun e => by cases e), rfl, rfl⟩
theorem ok_impl_copyCartons {ρ0 σ0 rn : Nat} {list : List Carton} {r : List Carton} (h : M.impl_copyCartons list = some r) : Does Try.prog 66 [.vl ρ0 5 (List.map (encCarton σ0) list)] [] rn (fun x H => ∃ (ob0_ : Option Nat) (ts_ : List PV) (os_ : List (Nat × Obj')), (ob0_ = none → r = []) ∧ (Deep 1 (fun c_ : Carton => List.map encInt c_.Files) ts_ os_ r) ∧ x = optS 5 ob0_ (List.length r) ∧ H = (optH 5 ob0_ (deepC cellCarton ts_ r) ++ os_)) := by
 have hm0 := h; clear h; unfold M.impl_copyCartons at hm0
 try dsimp only at hm0
 refine Does.intro (N := 24) Try.func66 rfl rfl rfl rfl ?_
 intro w0 S0
 refine V.seq (V.region (VO.cons rfl (V1.as ?_)))
 refine VO.nil (V.seq ?_)
 replace hm0 := bindO hm0; rcases hm0 with ⟨y0, hh0, hm0⟩
 have hlen0 : (y0.length : Int) ≤ 2147483648 := by
  have := hh0; unfold M.slices_Clone_impl_Carton_impl_Carton at this; obtain ⟨q1, q2⟩ := asrt_some this; obtain rfl := oi q2; exact q1
 refine V.region (VO.cons rfl (V1.mv ?_))
 refine VO.cons rfl (V1.permK (V1.call rfl rfl rfl cok_108 rfl (okv_slices_Clone_impl_Carton_impl_Carton hh0) rfl lt0 ?_))
 rintro _ _ ⟨ob0, hob0, rfl, rfl⟩
 refine ⟨_, ?_, Keeps.optBack (n := 5) (ob := ob0) (xs := List.map (encCarton σ0) y0) (H1 := []) (H2 := []) rfl⟩
 refine VO.cons rfl (V1.as ?_)
 refine VO.nil ?_
 rcases ob0 with _ | ob0
 ·
  have hn0 : y0 = [] := hob0 rfl
  refine V.seq (V.seq (V.region (VO.cons rfl (V1.mv ?_))))
  refine VO.cons rfl (V1.lenNilsE (l := y0) hn0 rfl rfl rfl rfl rfl rfl isl_39 lt0 ?_)
  refine VO.cons rfl (V1.mv ?_)
  refine VO.nil (V.keep 24 [3, 8, 9] [] (E0 := [(3, .nils), (8, .int .i64 (y0.length : Int)), (9, .int .i64 (0 : Int))]) (H0 := []) rfl (⟨_, _, rfl, rfl, _, _, rfl, rfl, _, _, rfl, rfl, rfl⟩) (rfl) rfl ?_)
  replace hm0 := bindO hm0; rcases hm0 with ⟨e0, he1, hm0⟩
  refine V.cutT (D := List Carton × Unit) (fun ⟨out_, _⟩ => ⟨24, [(3, .nils)], []⟩) (fun ⟨out_, _⟩ => (out_ = e0) ∧ out_ = []) ?_ ?_
  ·
   refine V.block ?_
   refine V.keep 24 [3, 9, 8] [] (E0 := [(3, .nils), (9, .int .i64 (0 : Int)), (8, .int .i64 (y0.length : Int))]) (H0 := []) rfl (⟨_, _, rfl, rfl, _, _, rfl, rfl, _, _, rfl, rfl, rfl⟩) (rfl) rfl ?_
   refine V.loopE (D := Nat × (List Carton × Int) × (Unit)) (fun ⟨n0, ⟨out_0, v⟩, _⟩ => [(3, .nils), (9, .int .i64 v)]) (fun ⟨n0, ⟨out_0, v⟩, _⟩ => []) (fun ⟨n0, ⟨out_0, v⟩, _⟩ => loopO (M.impl_copyCartons_l0 y0) n0 (out_0, v) = some e0 ∧ out_0 = []) (fun ⟨n0, _, _⟩ => n0) (rounds, (y0, (0 : Int)), ()) rfl ⟨he1, hn0⟩ ?_
   rintro ⟨n0, ⟨out_0, v⟩, _⟩ ⟨hP0, hn_out_0⟩
   obtain ⟨m0, y1, rfl, hm1, hl1, hr1⟩ := loop_head hP0
   unfold M.impl_copyCartons_l0 at hm1; dsimp only at hm1
   show V _ _ _ ⟨24, [(3, .nils), (9, .int .i64 v), (8, .int .i64 (y0.length : Int))], []⟩
   refine V.seq (V.region (VO.cons rfl (V1.it ?_)))
   refine VO.nil (V.seq (V.cond rfl (fun hc0 => ?_) (fun hc0 => ?_)))
   ·
    replace hm1 := cond_t hc0 hm1
    replace hm1 := asrt_some hm1; rcases hm1 with ⟨hh1, hm1⟩
    exact (nilsNo hn_out_0 hh1).elim
   ·
    replace hm1 := cond_f hc0 hm1
    refine V.exit ?_
    obtain rfl := hr1 _ (oi hm1).symm
    exact ⟨(out_0, ()), ⟨rfl, hn_out_0⟩, Keeps.mk (ks := []) rfl ⟨rfl, trivial⟩ (rfl) rfl⟩
  ·
   rintro ⟨out_, _⟩ ⟨rfl, hob1⟩
   try dsimp only at hm0
   refine V.seq (V.region (VO.cons rfl (V1.mv ?_)))
   refine VO.cons rfl (V1.as ?_)
   refine VO.nil (V.keep 24 [2] [] (E0 := [(2, .nils)]) (H0 := []) rfl (⟨_, _, rfl, rfl, rfl⟩) (rfl) rfl ?_)
   refine V.ret ?_
   obtain rfl := oi hm0
   exact ⟨_, _, ⟨_, _, rfl, rfl, rfl⟩, List.Sublist.refl _, none, [], [], (fun _ => hob1), Deep.ofNil hob1, rfl, rfl⟩
 ·
  refine V.seq (V.seq (V.region (VO.cons rfl (V1.mv ?_))))
  refine VO.cons rfl (V1.lenSref rfl rfl rfl rfl rfl rfl isl_39 lt0 ?_)
  refine VO.cons rfl (V1.mv ?_)
  refine VO.nil (V.weakenK (Keeps.sayObj 0 (ys := deepC cellCarton (List.map (fun c_ : Carton => PV.vl σ0 1 (List.map encInt c_.Files)) y0) y0) rfl (deepC_map (f := encCarton σ0) (cell := cellCarton) (frz := fun c_ : Carton => PV.vl σ0 1 (List.map encInt c_.Files)) (fun _ => rfl))) ?_)
  refine V.keep 24 [3, 8, 9] [0] (E0 := [(3, .sref ob0 5 0 (List.length y0)), (8, .int .i64 (y0.length : Int)), (9, .int .i64 (0 : Int))]) (H0 := [(ob0, ⟨5, deepC cellCarton (List.map (fun c_ : Carton => PV.vl σ0 1 (List.map encInt c_.Files)) y0) y0⟩)]) rfl (⟨_, _, rfl, rfl, _, _, rfl, rfl, _, _, rfl, rfl, rfl⟩) (⟨_, _, rfl, rfl, rfl⟩) rfl ?_
  replace hm0 := bindO hm0; rcases hm0 with ⟨e0, he1, hm0⟩
  refine V.cutT (D := (List Carton) × (List PV × List (Nat × Obj'))) (fun ⟨out_, ⟨ts_, os_⟩⟩ => ⟨24, [(3, .sref ob0 5 0 (List.length out_))], ([(ob0, ⟨5, deepC cellCarton ts_ out_⟩)]) ++ os_⟩) (fun ⟨out_, ⟨ts_, os_⟩⟩ => (out_ = e0) ∧ Deep 1 (fun c_ : Carton => List.map encInt c_.Files) ts_ os_ out_) ?_ ?_
  ·
   refine V.block ?_
   refine V.keep 24 [3, 9, 8] [0] (E0 := [(3, .sref ob0 5 0 (List.length y0)), (9, .int .i64 (0 : Int)), (8, .int .i64 (y0.length : Int))]) (H0 := [(ob0, ⟨5, deepC cellCarton (List.map (fun c_ : Carton => PV.vl σ0 1 (List.map encInt c_.Files)) y0) y0⟩)]) rfl (⟨_, _, rfl, rfl, _, _, rfl, rfl, _, _, rfl, rfl, rfl⟩) (⟨_, _, rfl, rfl, rfl⟩) rfl ?_
   refine V.loopT (D := Nat × (List Carton × Int) × (List PV × List (Nat × Obj'))) (fun ⟨n0, ⟨out_0, v⟩, ⟨ts_, os_⟩⟩ => [(3, .sref ob0 5 0 (List.length out_0)), (9, .int .i64 v)]) (fun ⟨n0, ⟨out_0, v⟩, ⟨ts_, os_⟩⟩ => ([(ob0, ⟨5, deepC cellCarton ts_ out_0⟩)]) ++ os_) (fun ⟨n0, ⟨out_0, v⟩, ⟨ts_, os_⟩⟩ => loopO (M.impl_copyCartons_l0 y0) n0 (out_0, v) = some e0 ∧ out_0.length = y0.length ∧ 0 ≤ v ∧ Mix 1 (fun c_ : Carton => List.map encInt c_.Files) (fun c_ : Carton => PV.vl σ0 1 (List.map encInt c_.Files)) (Int.toNat v) ts_ os_ out_0) (fun ⟨n0, _, _⟩ => n0) (rounds, (y0, (0 : Int)), ((List.map (fun c_ : Carton => PV.vl σ0 1 (List.map encInt c_.Files)) y0), [])) rfl ⟨he1, rfl, Int.le_refl _, Mix.init⟩ ?_
   rintro ⟨n0, ⟨out_0, v⟩, ⟨ts_, os_⟩⟩ ⟨hP0, hlen, hv0, hmix⟩
   obtain ⟨m0, y1, rfl, hm1, hl1, hr1⟩ := loop_head hP0
   unfold M.impl_copyCartons_l0 at hm1; dsimp only at hm1
   show V _ _ _ ⟨24, [(3, .sref ob0 5 0 (List.length out_0)), (9, .int .i64 v), (8, .int .i64 (y0.length : Int))], (([(ob0, ⟨5, deepC cellCarton ts_ out_0⟩)] : List (Nat × Obj')) ++ os_)⟩
   refine V.seq (V.region (VO.cons rfl (V1.it ?_)))
   refine VO.nil (V.seq (V.cond rfl (fun hc0 => ?_) (fun hc0 => ?_)))
   ·
    replace hm1 := cond_t hc0 hm1
    refine V.skip ?_
    refine V.seq (V.block ?_)
    refine V.seq (V.region (VO.cons rfl (V1.mv ?_)))
    refine VO.cons rfl (V1.as ?_)
    refine VO.nil ?_
    replace hm1 := asrt_some hm1; rcases hm1 with ⟨hh1, hm1⟩
    replace hm1 := bindO hm1; rcases hm1 with ⟨y2, hh2, hm1⟩
    replace hm1 := asrt_some hm1; rcases hm1 with ⟨hh3, hm1⟩
    have hi : Int.toNat v < out_0.length := natLt hh1.1 hh1.2
    have hget := hmix.get hi
    refine V.region (VO.cons rfl (V1.mv ?_))
    refine VO.cons rfl (V1.mv ?_)
    refine VO.cons rfl (V1.mv ?_)
    refine VO.cons rfl (V1.mv ?_)
    refine VO.cons rfl (V1.indexSr rfl rfl esz_39 rfl rfl hh1 lt0 ?_)
    refine VO.cons rfl (V1.fieldRef rfl rfl fo_67_3 rfl lt0 ?_)
    refine VO.cons rfl (V1.loadRef (k := 0) rfl rfl tyk_36 rfl rfl rfl ((deepC_get hmix.length hi).trans (congrArg (fun t_ => some (cellCarton t_ (out_0.getD (Int.toNat v) default))) hget)) rfl lt0 ?_)
    refine VO.cons rfl (V1.permK (V1.call rfl rfl rfl cok_109 rfl (ok_slices_Clone_int_int hh2) rfl lt0 ?_))
    rintro _ _ ⟨ob1, hob1, rfl, rfl⟩
    refine ⟨_, ?_, Keeps.optBack (n := 1) (ob := ob1) (xs := List.map encInt y2) (H1 := []) (H2 := (([(ob0, ⟨5, deepC cellCarton ts_ out_0⟩)] : List (Nat × Obj')) ++ os_)) rfl⟩
    refine VO.cons rfl (V1.indexSr rfl rfl esz_39 rfl rfl hh3 lt0 ?_)
    refine VO.cons rfl (V1.fieldRef rfl rfl fo_67_3 rfl lt0 ?_)
    refine VO.cons rfl (V1.storeDeepIn (inn := (fun c_ : Carton => List.map encInt c_.Files)) (cell := cellCarton) (ts := ts_) (xs := out_0) (k := 0) cokCarton (⟨(out_0.getD (Int.toNat v) default).Id, (out_0.getD (Int.toNat v) default).Shelf, (out_0.getD (Int.toNat v) default).Room, y2, (out_0.getD (Int.toNat v) default).Thick⟩ : Carton) rfl rfl tyk_36 rfl rfl hmix.length (by rw [hget]; exact ⟨rfl, rfl⟩) hi rfl (by cases ob1 <;> rfl) (by cases ob1 <;> rfl) rfl rfl ?_)
    refine VO.weakenK (Keeps.say 3 (y := .sref ob0 5 0 (List.length (out_0.set (Int.toNat v) (⟨(out_0.getD (Int.toNat v) default).Id, (out_0.getD (Int.toNat v) default).Shelf, (out_0.getD (Int.toNat v) default).Room, y2, (out_0.getD (Int.toNat v) default).Thick⟩ : Carton)))) rfl (by simp)) ?_
    refine VO.nil ?_
    have hmix2 := hmix.step (x' := (⟨(out_0.getD (Int.toNat v) default).Id, (out_0.getD (Int.toNat v) default).Shelf, (out_0.getD (Int.toNat v) default).Room, y2, (out_0.getD (Int.toNat v) default).Thick⟩ : Carton)) hi (Deep1.opt (m := 1) (q := List.length y2) (l := List.map encInt y2) (ob := ob1) (by simp) (fun e_ => by rw [hob1 e_]; rfl))
    obtain ⟨hv1, hv2⟩ := Mix.round (i := v) (n := y0.length) hv0 (by rw [← hlen]; exact hh1.2) hlen0
    rw [← hv2] at hmix2
    refine V.keepT 24 [3, 8, 9] [0] (E0 := [(3, .sref ob0 5 0 (List.length (out_0.set (Int.toNat v) (⟨(out_0.getD (Int.toNat v) default).Id, (out_0.getD (Int.toNat v) default).Shelf, (out_0.getD (Int.toNat v) default).Room, y2, (out_0.getD (Int.toNat v) default).Thick⟩ : Carton)))), (8, .int .i64 (y0.length : Int)), (9, .int .i64 v)]) (A := [(ob0, ⟨5, deepC cellCarton (List.set ts_ (Int.toNat v) (optS 1 ob1 (List.length y2))) (out_0.set (Int.toNat v) (⟨(out_0.getD (Int.toNat v) default).Id, (out_0.getD (Int.toNat v) default).Shelf, (out_0.getD (Int.toNat v) default).Room, y2, (out_0.getD (Int.toNat v) default).Thick⟩ : Carton))⟩)]) (T := os_ ++ optH 1 ob1 (List.map encInt y2)) (H0 := [(ob0, ⟨5, deepC cellCarton (List.set ts_ (Int.toNat v) (optS 1 ob1 (List.length y2))) (out_0.set (Int.toNat v) (⟨(out_0.getD (Int.toNat v) default).Id, (out_0.getD (Int.toNat v) default).Shelf, (out_0.getD (Int.toNat v) default).Room, y2, (out_0.getD (Int.toNat v) default).Thick⟩ : Carton))⟩)]) (T' := os_ ++ optH 1 ob1 (List.map encInt y2)) rfl (⟨_, _, rfl, rfl, _, _, rfl, rfl, _, _, rfl, rfl, rfl⟩) rfl (⟨_, _, rfl, rfl, rfl⟩) rfl (List.Sublist.refl _) ?_
    refine V.region (VO.cons rfl (V1.it ?_))
    refine VO.cons rfl (V1.mv ?_)
    refine VO.nil ?_
    exact ⟨(m0, ((out_0.set (Int.toNat v) (⟨(out_0.getD (Int.toNat v) default).Id, (out_0.getD (Int.toNat v) default).Shelf, (out_0.getD (Int.toNat v) default).Room, y2, (out_0.getD (Int.toNat v) default).Thick⟩ : Carton)), (IntKind.i64.wrap (v + (1 : Int)))), ((List.set ts_ (Int.toNat v) (optS 1 ob1 (List.length y2))), os_ ++ optH 1 ob1 (List.map encInt y2))), ⟨hl1 _ (oi hm1).symm, by rw [List.length_set]; exact hlen, hv1, hmix2⟩, Nat.lt_succ_self _, Keeps.mkT (A := [(ob0, ⟨5, deepC cellCarton (List.set ts_ (Int.toNat v) (optS 1 ob1 (List.length y2))) (out_0.set (Int.toNat v) (⟨(out_0.getD (Int.toNat v) default).Id, (out_0.getD (Int.toNat v) default).Shelf, (out_0.getD (Int.toNat v) default).Room, y2, (out_0.getD (Int.toNat v) default).Thick⟩ : Carton))⟩)]) (T := os_ ++ optH 1 ob1 (List.map encInt y2)) (T' := os_ ++ optH 1 ob1 (List.map encInt y2)) (H := [(ob0, ⟨5, deepC cellCarton (List.set ts_ (Int.toNat v) (optS 1 ob1 (List.length y2))) (out_0.set (Int.toNat v) (⟨(out_0.getD (Int.toNat v) default).Id, (out_0.getD (Int.toNat v) default).Shelf, (out_0.getD (Int.toNat v) default).Room, y2, (out_0.getD (Int.toNat v) default).Thick⟩ : Carton))⟩)]) (ks := [0]) rfl (by exact ⟨(someSref (by simp)), rfl, rfl, trivial⟩) rfl (by exact (⟨_, _, rfl, rfl, rfl⟩)) rfl (List.Sublist.refl _)⟩
   ·
    replace hm1 := cond_f hc0 hm1
    refine V.exit ?_
    obtain rfl := hr1 _ (oi hm1).symm
    have hdone := hmix.done (by have := of_decide_eq_false hc0; omega)
    exact ⟨(out_0, (ts_, os_)), ⟨rfl, hdone⟩, Keeps.mkT (A := [(ob0, ⟨5, deepC cellCarton ts_ out_0⟩)]) (T := os_) (T' := os_) (H := [(ob0, ⟨5, deepC cellCarton ts_ out_0⟩)]) (ks := [0]) rfl (by exact ⟨(someSref (by simp)), trivial⟩) rfl (by exact (⟨_, _, rfl, rfl, rfl⟩)) rfl (List.Sublist.refl _)⟩
  ·
   rintro ⟨out_, ⟨ts_, os_⟩⟩ ⟨rfl, hd_⟩
   try dsimp only at hm0
   refine V.seq (V.region (VO.cons rfl (V1.mv ?_)))
   refine VO.cons rfl (V1.as ?_)
   refine VO.nil (V.keepT 24 [2] [0] (E0 := [(2, .sref ob0 5 0 (List.length out_))]) (A := [(ob0, ⟨5, deepC cellCarton ts_ out_⟩)]) (T := os_) (H0 := [(ob0, ⟨5, deepC cellCarton ts_ out_⟩)]) (T' := os_) rfl (⟨_, _, rfl, rfl, rfl⟩) rfl (⟨_, _, rfl, rfl, rfl⟩) rfl (List.Sublist.refl _) ?_)
   refine V.ret ?_
   obtain rfl := oi hm0
   exact ⟨_, _, ⟨_, _, rfl, rfl, rfl⟩, List.Sublist.refl _, some ob0, ts_, os_, (fun e => by cases e), hd_, rfl, rfl⟩
theorem ok_impl_RefileTo_1 {τ1 rn : Nat} {n : Int} {file : Int} {r : Bool} (h : M.impl_RefileTo_1 n file = some r) : Does Try.prog 83 [.int .i64 n, .pin τ1 (.int .i64 file) 0] [] rn (fun x H => x = .bool r ∧ H = []) := by
 have hm0 := h; clear h; unfold M.impl_RefileTo_1 at hm0
 try dsimp only at hm0
 refine Does.intro (N := 7) Try.func83 rfl rfl rfl rfl ?_
 intro w0 S0
 refine V.seq (V.region (VO.cons rfl (V1.as ?_)))
 refine VO.nil (V.seq (V.region (VO.cons rfl (V1.mv ?_))))
 refine VO.cons rfl (V1.loadPin rfl rfl tyk_3 rfl rfl lt0 ?_)
 refine VO.cons rfl (V1.it ?_)
 refine VO.cons rfl (V1.as ?_)
 refine VO.nil (V.ret ?_)
 obtain rfl := oi hm0
 exact ⟨_, [], ⟨_, _, rfl, rfl, rfl⟩, List.nil_sublist _, rfl, rfl⟩
theorem ok_slices_DeleteFunc_int_int {rn : Nat} {oq : Option Nat} {s : List Int} {f1 : Nat} {cs1 : List PV} {r : List Int} {fm : Int → Option Bool} (h : M.slices_DeleteFunc_int_int s fm = some r) (hoq : oq = none → s = []) (hok1 : callOK Try.prog f1 = true) (hf1 : ∀ x0 r, fm x0 = some r → Does Try.prog f1 (.int .i64 x0 :: cs1) [] rn (fun x H => x = .bool r ∧ H = [])) : Does Try.prog 82 [optS 1 oq (List.length s), .fn f1 cs1] (optH 1 oq (List.map encInt s)) rn (fun x H => ∃ (ob0_ : Option Nat), (ob0_ = none → r = []) ∧ x = optS 1 ob0_ (List.length r) ∧ H = optH 1 ob0_ (List.map encInt r)) := by
 have hm0 := h; clear h; unfold M.slices_DeleteFunc_int_int at hm0
 try dsimp only at hm0
 refine Does.intro (N := 42) Try.func82 rfl rfl rfl rfl ?_
 intro w0 S0
 rcases oq with _ | oq
 ·
  refine V.seq (V.region (VO.cons rfl (V1.as ?_)))
  refine VO.nil (V.seq ?_)
  replace hm0 := bindO hm0; rcases hm0 with ⟨y0, hh0, hm0⟩
  refine V.region (VO.cons rfl (V1.mv ?_))
  refine VO.cons rfl (V1.mv ?_)
  refine VO.weakenK (Keeps.nilsE (l := s) 8 rn 1 encInt (hoq rfl) rfl rfl) ?_
  refine VO.cons rfl (V1.call rfl rfl rfl cok_115 rfl (ok_slices_IndexFunc_int_int hh0 (fm := fm) hok1 hf1) rfl lt0 ?_)
  rintro _ _ ⟨rfl, rfl⟩
  refine VO.cons rfl (V1.as ?_)
  refine VO.nil (V.keep 42 [0, 1, 5] [] (E0 := [(0, .nils), (1, .fn f1 cs1), (5, .int .i64 y0)]) (H0 := []) rfl (⟨_, _, rfl, rfl, _, _, rfl, rfl, _, _, rfl, rfl, rfl⟩) (rfl) rfl ?_)
  refine V.seq (V.seq (V.region (VO.cons rfl (V1.mv ?_))))
  refine VO.cons rfl (V1.it ?_)
  refine VO.nil (V.cond rfl (fun hc0 => ?_) (fun hc0 => ?_))
  ·
   replace hm0 := cond_t hc0 hm0
   refine V.seq (V.region (VO.cons rfl (V1.mv ?_)))
   refine VO.cons rfl (V1.as ?_)
   refine VO.nil (V.keep 42 [4] [] (E0 := [(4, .nils)]) (H0 := []) rfl (⟨_, _, rfl, rfl, rfl⟩) (rfl) rfl ?_)
   refine V.ret ?_
   obtain rfl := oi hm0
   exact ⟨_, _, ⟨_, _, rfl, rfl, rfl⟩, List.Sublist.refl _, none, (fun _ => (hoq rfl)), rfl, rfl⟩
  ·
   replace hm0 := cond_f hc0 hm0
   exfalso
   obtain rfl := hoq rfl; have hz_ : M.slices_IndexFunc_int_int [] fm = some (-1) := by unfold M.slices_IndexFunc_int_int; rw [iterO_now (e := .inl ()) (by unfold M.slices_IndexFunc_int_int_l0; rfl)]; rfl
   first | (rw [hz_] at hh0; obtain rfl := oi hh0) | skip
   revert hc0; decide
 ·
  refine V.seq (V.region (VO.cons rfl (V1.as ?_)))
  refine VO.nil (V.seq ?_)
  replace hm0 := bindO hm0; rcases hm0 with ⟨y0, hh0, hm0⟩
  refine V.region (VO.cons rfl (V1.mv ?_))
  refine VO.cons rfl (V1.mv ?_)
  refine VO.cons rfl (V1.callL (rn + 1) [oq] [.vl (rn + 1) 1 (List.map encInt s), .fn f1 cs1] rfl rfl rfl cok_115 rfl ⟨_, _, rfl, Lend.srMap 0 rfl (fun _ => rfl) (.head _), ⟨_, _, rfl, .same _, rfl⟩⟩ (bwCons (k := 0) rfl bwNil) (ok_slices_IndexFunc_int_int hh0 (fm := fm) hok1 hf1) rfl (⟨(by first | omega | (dsimp only; omega)), by rintro _ _ ⟨rfl, rfl⟩; exact ⟨rfl, by simp⟩⟩) lt0 ?_)
  rintro _ _ ⟨rfl, rfl⟩
  refine VO.cons rfl (V1.as ?_)
  refine VO.nil (V.keep 42 [0, 1, 5] [0] (E0 := [(0, .sref oq 1 0 (List.length s)), (1, .fn f1 cs1), (5, .int .i64 y0)]) (H0 := [(oq, ⟨1, List.map encInt s⟩)]) rfl (⟨_, _, rfl, rfl, _, _, rfl, rfl, _, _, rfl, rfl, rfl⟩) (⟨_, _, rfl, rfl, rfl⟩) rfl ?_)
  refine V.seq (V.seq (V.region (VO.cons rfl (V1.mv ?_))))
  refine VO.cons rfl (V1.it ?_)
  refine VO.nil (V.cond rfl (fun hc0 => ?_) (fun hc0 => ?_))
  ·
   replace hm0 := cond_t hc0 hm0
   refine V.seq (V.region (VO.cons rfl (V1.mv ?_)))
   refine VO.cons rfl (V1.as ?_)
   refine VO.nil (V.keep 42 [4] [0] (E0 := [(4, .sref oq 1 0 (List.length s))]) (H0 := [(oq, ⟨1, List.map encInt s⟩)]) rfl (⟨_, _, rfl, rfl, rfl⟩) (⟨_, _, rfl, rfl, rfl⟩) rfl ?_)
   refine V.ret ?_
   obtain rfl := oi hm0
   exact ⟨_, _, ⟨_, _, rfl, rfl, rfl⟩, List.Sublist.refl _, some oq, (fun e => by cases e), rfl, rfl⟩
  ·
   replace hm0 := cond_f hc0 hm0
   refine V.skip ?_
   refine V.seq (V.seq (V.region (VO.cons rfl (V1.mv ?_))))
   refine VO.cons rfl (V1.it ?_)
   refine VO.cons rfl (V1.as ?_)
   refine VO.nil (V.keep 42 [0, 1, 5, 6] [0] (E0 := [(0, .sref oq 1 0 (List.length s)), (1, .fn f1 cs1), (5, .int .i64 y0), (6, .int .i64 (IntKind.i64.wrap (y0 + (1 : Int))))]) (H0 := [(oq, ⟨1, List.map encInt s⟩)]) rfl (⟨_, _, rfl, rfl, _, _, rfl, rfl, _, _, rfl, rfl, _, _, rfl, rfl, rfl⟩) (⟨_, _, rfl, rfl, rfl⟩) rfl ?_)
   replace hm0 := bindO hm0; rcases hm0 with ⟨e0, he1, hm0⟩
   refine V.cutT (D := (List Int × Int) × (Unit)) (fun ⟨⟨s0, i⟩, _⟩ => ⟨42, [(0, .sref oq 1 0 (List.length s0)), (5, .int .i64 i)], [(oq, ⟨1, List.map encInt s0⟩)]⟩) (fun ⟨⟨s0, i⟩, _⟩ => ((s0, i) = e0)) ?_ ?_
   ·
    refine V.block ?_
    refine V.keep 42 [0, 5, 6, 1] [0] (E0 := [(0, .sref oq 1 0 (List.length s)), (5, .int .i64 y0), (6, .int .i64 (IntKind.i64.wrap (y0 + (1 : Int)))), (1, .fn f1 cs1)]) (H0 := [(oq, ⟨1, List.map encInt s⟩)]) rfl (⟨_, _, rfl, rfl, _, _, rfl, rfl, _, _, rfl, rfl, _, _, rfl, rfl, rfl⟩) (⟨_, _, rfl, rfl, rfl⟩) rfl ?_
    refine V.loopE (D := Nat × (List Int × Int × Int) × (Unit)) (fun ⟨n0, ⟨s1, i0, j_⟩, _⟩ => [(0, .sref oq 1 0 (List.length s1)), (5, .int .i64 i0), (6, .int .i64 j_)]) (fun ⟨n0, ⟨s1, i0, j_⟩, _⟩ => [(oq, ⟨1, List.map encInt s1⟩)]) (fun ⟨n0, ⟨s1, i0, j_⟩, _⟩ => loopO (M.slices_DeleteFunc_int_int_l0 fm) n0 (s1, i0, j_) = some e0) (fun ⟨n0, _, _⟩ => n0) (rounds, (s, y0, (IntKind.i64.wrap (y0 + (1 : Int)))), ()) rfl he1 ?_
    rintro ⟨n0, ⟨s1, i0, j_⟩, _⟩ hP0
    obtain ⟨m0, y1, rfl, hm1, hl1, hr1⟩ := loop_head hP0
    unfold M.slices_DeleteFunc_int_int_l0 at hm1; dsimp only at hm1
    show V _ _ _ ⟨42, [(0, .sref oq 1 0 (List.length s1)), (5, .int .i64 i0), (6, .int .i64 j_), (1, .fn f1 cs1)], [(oq, ⟨1, List.map encInt s1⟩)]⟩
    refine V.seq (V.seq (V.region (VO.cons rfl (V1.mv ?_))))
    refine VO.cons rfl (V1.mv ?_)
    refine VO.cons rfl (V1.lenSref rfl rfl rfl rfl rfl rfl isl_36 lt0 ?_)
    refine VO.cons rfl (V1.it ?_)
    refine VO.nil (V.cond rfl (fun hc1 => ?_) (fun hc1 => ?_))
    ·
     replace hm1 := cond_t hc1 hm1
     refine V.skip ?_
     refine V.keep 42 [0, 1, 5, 6] [0] (E0 := [(0, .sref oq 1 0 (List.length s1)), (1, .fn f1 cs1), (5, .int .i64 i0), (6, .int .i64 j_)]) (H0 := [(oq, ⟨1, List.map encInt s1⟩)]) rfl (⟨_, _, rfl, rfl, _, _, rfl, rfl, _, _, rfl, rfl, _, _, rfl, rfl, rfl⟩) (⟨_, _, rfl, rfl, rfl⟩) rfl ?_
     refine V.seq ?_
     replace hm1 := bindO hm1; rcases hm1 with ⟨j0, hm2, hm1⟩
     refine V.cutT (D := (List Int × Int) × (Unit)) (fun ⟨⟨s2, i1⟩, _⟩ => ⟨42, [(0, .sref oq 1 0 (List.length s2)), (5, .int .i64 i1), (1, .fn f1 cs1), (6, .int .i64 j_)], [(oq, ⟨1, List.map encInt s2⟩)]⟩) (fun ⟨⟨s2, i1⟩, _⟩ => ((s2, i1) = j0)) ?_ ?_
     ·
      refine V.block ?_
      refine V.seq ?_
      replace hm2 := asrt_some hm2; rcases hm2 with ⟨hh1, hm2⟩
      refine V.region (VO.cons rfl (V1.mv ?_))
      refine VO.cons rfl (V1.mv ?_)
      refine VO.cons rfl (V1.indexSr rfl rfl esz_36 rfl rfl hh1 lt0 ?_)
      refine VO.cons rfl (V1.loadMap (k := 0) (f := encInt) rfl rfl tyk_3 rfl rfl (by simpa using natLt hh1.1 hh1.2) rfl lt0 ?_)
      refine VO.cons rfl (V1.as ?_)
      refine VO.nil (V.keep 42 [0, 1, 5, 6, 7] [0] (E0 := [(0, .sref oq 1 0 (List.length s1)), (1, .fn f1 cs1), (5, .int .i64 i0), (6, .int .i64 j_), (7, .int .i64 (s1.getD (Int.toNat j_) default))]) (H0 := [(oq, ⟨1, List.map encInt s1⟩)]) rfl (⟨_, _, rfl, rfl, _, _, rfl, rfl, _, _, rfl, rfl, _, _, rfl, rfl, _, _, rfl, rfl, rfl⟩) (⟨_, _, rfl, rfl, rfl⟩) rfl ?_)
      refine V.seq ?_
      replace hm2 := bindO hm2; rcases hm2 with ⟨y2, hh2, hm2⟩
      refine V.region (VO.cons rfl (V1.mv ?_))
      refine VO.cons rfl (V1.mv ?_)
      refine VO.cons rfl (V1.callG (τ := 0) (Bw := []) rfl lt0 (run_callFn rfl rfl rfl hok1 rfl) (.refl _) (Lends.same _) (fun _ h => by cases h) ((hf1 _  _) hh2) (.inl rfl) (.inl rfl) ?_)
      rintro _ _ ⟨rfl, rfl⟩
      refine VO.cons rfl (V1.not rfl rfl rfl lt0 ?_)
      refine VO.nil (V.cond rfl (fun hc2 => ?_) (fun hc2 => ?_))
      ·
       replace hm2 := cond_t hc2 hm2
       refine V.seq ?_
       replace hm2 := asrt_some hm2; rcases hm2 with ⟨hh3, hm2⟩
       refine V.region (VO.cons rfl (V1.mv ?_))
       refine VO.cons rfl (V1.mv ?_)
       refine VO.cons rfl (V1.mv ?_)
       refine VO.cons rfl (V1.indexSr rfl rfl esz_36 rfl rfl hh3 lt0 ?_)
       refine VO.cons rfl (V1.storeMap (k := 0) (f := encInt) (x := (s1.getD (Int.toNat j_) default)) rfl rfl tyk_3 rfl rfl (by simpa using natLt hh3.1 hh3.2) rfl rfl ?_)
       refine VO.weakenK (Keeps.say 0 (y := .sref oq 1 0 (List.length (s1.set (Int.toNat i0) (s1.getD (Int.toNat j_) default)))) rfl (by simp [optS])) ?_
       refine VO.nil (V.keep 42 [0, 1, 5, 6] [0] (E0 := [(0, .sref oq 1 0 (List.length (s1.set (Int.toNat i0) (s1.getD (Int.toNat j_) default)))), (1, .fn f1 cs1), (5, .int .i64 i0), (6, .int .i64 j_)]) (H0 := [(oq, ⟨1, List.map encInt (s1.set (Int.toNat i0) (s1.getD (Int.toNat j_) default))⟩)]) rfl (⟨_, _, rfl, rfl, _, _, rfl, rfl, _, _, rfl, rfl, _, _, rfl, rfl, rfl⟩) (⟨_, _, rfl, rfl, rfl⟩) rfl ?_)
       refine V.region (VO.cons rfl (V1.mv ?_))
       refine VO.cons rfl (V1.it ?_)
       refine VO.cons rfl (V1.as ?_)
       refine VO.nil ?_
       exact ⟨(((s1.set (Int.toNat i0) (s1.getD (Int.toNat j_) default)), (IntKind.i64.wrap (i0 + (1 : Int)))), ()), oi hm2, Keeps.mk (ks := [0]) rfl ⟨(someSref (by simp)), rfl, rfl, rfl, trivial⟩ (⟨_, _, rfl, rfl, rfl⟩) rfl⟩
      ·
       replace hm2 := cond_f hc2 hm2
       refine V.skip ?_
       exact ⟨((s1, i0), ()), oi hm2, Keeps.mk (ks := [0]) rfl ⟨(someSref (by simp)), rfl, rfl, rfl, trivial⟩ (⟨_, _, rfl, rfl, rfl⟩) rfl⟩
     ·
      rintro ⟨⟨s2, i1⟩, _⟩ rfl
      try dsimp only at hm1
      refine V.region (VO.cons rfl (V1.mv ?_))
      refine VO.cons rfl (V1.it ?_)
      refine VO.cons rfl (V1.as ?_)
      refine VO.nil ?_
      exact ⟨(m0, (s2, i1, (IntKind.i64.wrap (j_ + (1 : Int)))), ()), hl1 _ (oi hm1).symm, Nat.lt_succ_self _, Keeps.mk (ks := [0]) rfl ⟨(someSref (by simp)), rfl, rfl, rfl, trivial⟩ (⟨_, _, rfl, rfl, rfl⟩) rfl⟩
    ·
     replace hm1 := cond_f hc1 hm1
     refine V.exit ?_
     obtain rfl := hr1 _ (oi hm1).symm
     exact ⟨((s1, i0), ()), rfl, Keeps.mk (ks := [0]) rfl ⟨(someSref (by simp)), rfl, trivial⟩ (⟨_, _, rfl, rfl, rfl⟩) rfl⟩
   ·
    rintro ⟨⟨s0, i⟩, _⟩ rfl
    try dsimp only at hm0
    refine V.seq ?_
    replace hm0 := asrt_some hm0; rcases hm0 with ⟨hh4, hm0⟩
    replace hm0 := asrt_some hm0; rcases hm0 with ⟨hh5, hm0⟩
    refine V.region (VO.cons rfl (V1.mv ?_))
    refine VO.cons rfl (V1.mv ?_)
    refine VO.cons rfl (V1.sliceSw (a := i) (c := (((List.length s0) : Nat) : Int)) rfl rfl esz_36 rfl (Bnd.some rfl hh4.1 _) (Bnd.none _ _) hh4 lt0 ?_)
    refine VO.cons rfl (V1.clearSw (k := 0) (f := encInt) (l := s0) (z := (0 : Int)) rfl rfl rfl rfl rfl esz_36 zk_3 .same rfl rfl hh5 ?_)
    refine VO.weakenK (Keeps.say 0 (y := .sref oq 1 0 (List.length (List.take (0 + Int.toNat i) s0 ++ List.replicate (Int.toNat (((List.length s0) : Nat) : Int) - Int.toNat i) (0 : Int) ++ List.drop ((0 + Int.toNat i) + (Int.toNat (((List.length s0) : Nat) : Int) - Int.toNat i)) s0))) rfl (congrArg (PV.sref oq 1 0) (segLen (z := (0 : Int)) hh5))) ?_
    refine VO.nil (V.seq ?_)
    replace hm0 := asrt_some hm0; rcases hm0 with ⟨hh6, hm0⟩
    refine V.region (VO.cons rfl (V1.mv ?_))
    refine VO.cons rfl (V1.mv ?_)
    refine VO.cons rfl (V1.sliceSw (a := (0 : Int)) (c := i) rfl rfl esz_36 rfl (Bnd.none _ _) (Bnd.some rfl (Int.le_trans hh6.1 hh6.2.1) _) hh6 lt0 ?_)
    refine VO.cons rfl (V1.as ?_)
    refine VO.nil ?_
    replace hm0 := asrt_some hm0; rcases hm0 with ⟨hh7, hm0⟩
    refine V.weakenK (Keeps.cut 4 0 (Int.toNat i - Int.toNat (0 : Int)) (f := encInt) (l := (List.take (0 + Int.toNat i) s0 ++ List.replicate (Int.toNat (((List.length s0) : Nat) : Int) - Int.toNat i) (0 : Int) ++ List.drop ((0 + Int.toNat i) + (Int.toNat (((List.length s0) : Nat) : Int) - Int.toNat i)) s0)) rfl rfl hh7) ?_
    refine V.keep 42 [4] [0] (E0 := [(4, .sref oq 1 0 (List.length (List.take (Int.toNat i - Int.toNat (0 : Int)) (List.take (0 + Int.toNat i) s0 ++ List.replicate (Int.toNat (((List.length s0) : Nat) : Int) - Int.toNat i) (0 : Int) ++ List.drop ((0 + Int.toNat i) + (Int.toNat (((List.length s0) : Nat) : Int) - Int.toNat i)) s0))))]) (H0 := [(oq, ⟨1, List.map encInt (List.take (Int.toNat i - Int.toNat (0 : Int)) (List.take (0 + Int.toNat i) s0 ++ List.replicate (Int.toNat (((List.length s0) : Nat) : Int) - Int.toNat i) (0 : Int) ++ List.drop ((0 + Int.toNat i) + (Int.toNat (((List.length s0) : Nat) : Int) - Int.toNat i)) s0))⟩)]) rfl (⟨_, _, rfl, rfl, rfl⟩) (⟨_, _, rfl, rfl, rfl⟩) rfl ?_
    refine V.ret ?_
    obtain rfl := oi hm0
    exact ⟨_, _, ⟨_, _, rfl, rfl, rfl⟩, List.Sublist.refl _, some oq, (fun e => by cases e), rfl, rfl⟩
theorem ok_slices_Sort_int_int {rn : Nat} {oq : Option Nat} {s r : List Int} (h : M.slices_Sort_int_int s = some r) (hoq : oq = none → s = []) : Does Try.prog 79 [optS 1 oq (List.length s)] (optH 1 oq (List.map encInt s)) rn (fun x H => x = .tup [] ∧ H = optH 1 oq (List.map encInt r)) := by
 unfold M.slices_Sort_int_int at h
 obtain ⟨h1, h⟩ := asrt_some h
 obtain rfl := oi h; clear h
 exact Does.sortI hoq (fun blk off cap zs w h1 h2 h3 => Go.Proofs.Any.slices_Sort_int Go.Proofs.Try.lays189 blk off cap zs w h1 h2 h3) (fun p cap w => Go.Proofs.Any.slices_Sort_int_none Go.Proofs.Try.lays189 p cap w) h1
theorem ok_impl_RefileTo {ρ0 rn : Nat} {list : List Carton} {file : Int} {id_ : Int} {r : List Carton × Bool} (h : M.impl_RefileTo list file id_ = some r) : Does Try.prog 40 [.vl ρ0 5 (List.map (encCarton ρ0) list), .int .i64 file, .int .i64 id_] [] rn (fun x H => ∃ (ob0_ : Option Nat) (ts_ : List PV) (os_ : List (Nat × Obj')), (ob0_ = none → r.1 = []) ∧ (Deep 1 (fun c_ : Carton => List.map encInt c_.Files) ts_ os_ r.1) ∧ x = .tup [optS 5 ob0_ (List.length r.1), .bool r.2] ∧ H = (optH 5 ob0_ (deepC cellCarton ts_ r.1) ++ os_)) := by
 have hm0 := h; clear h; unfold M.impl_RefileTo at hm0
 try dsimp only at hm0
 refine Does.intro (N := 68) Try.func40 rfl rfl rfl rfl ?_
 intro w0 S0
 refine V.seq (V.region (VO.cons rfl (V1.boxN (n := 1) rfl rfl rfl rfl rfl lt0 ?_)))
 intro b0
 refine VO.cons rfl (V1.as ?_)
 refine VO.cons rfl (V1.as ?_)
 refine VO.nil (V.seq ?_)
 replace hm0 := bindO hm0; rcases hm0 with ⟨y0, hh0, hm0⟩
 replace hm0 := bindO hm0; rcases hm0 with ⟨y1, hh1, hm0⟩
 refine V.region (VO.cons rfl (V1.mv ?_))
 refine VO.cons rfl (V1.loadRef (k := 0) rfl rfl tyk_3 rfl rfl rfl rfl rfl lt0 ?_)
 refine VO.cons rfl (V1.call rfl rfl rfl cok_74 rfl (ok_impl_cartonWith hh0) rfl lt0 ?_)
 rintro _ _ ⟨rfl, rfl⟩
 refine VO.cons rfl (V1.mv ?_)
 refine VO.cons rfl (V1.mv ?_)
 refine VO.cons rfl (V1.call rfl rfl rfl cok_65 rfl (ok_impl_cartonAt hh1) rfl lt0 ?_)
 rintro _ _ ⟨rfl, rfl⟩
 refine VO.cons rfl (V1.as ?_)
 refine VO.cons rfl (V1.as ?_)
 refine VO.nil (V.keep 68 [0, 4, 8, 9] [0] (E0 := [(0, .vl ρ0 5 (List.map (encCarton ρ0) list)), (4, .ref b0 1 0 0), (8, .int .i64 y0), (9, .int .i64 y1)]) (H0 := [(b0, ⟨1, [.int .i64 file]⟩)]) rfl (⟨_, _, rfl, rfl, _, _, rfl, rfl, _, _, rfl, rfl, _, _, rfl, rfl, rfl⟩) (⟨_, _, rfl, rfl, rfl⟩) rfl ?_)
 refine V.seq (V.seq ?_)
 replace hm0 := bindO hm0; rcases hm0 with ⟨y2, hh2, hm0⟩
 refine V.region (VO.cons rfl (V1.mv ?_))
 refine VO.cons rfl (V1.call rfl rfl rfl cok_45 rfl (ok_impl_AreCartons hh2) rfl lt0 ?_)
 rintro _ _ ⟨rfl, rfl⟩
 refine VO.cons rfl (V1.not rfl rfl rfl lt0 ?_)
 refine VO.cons rfl (V1.mv ?_)
 apply VO.or (n := 2) rfl rfl rfl rfl rfl rfl lt0 (.none rfl)
 ·
  intro hg0
  refine VO.step (.some rfl rfl rfl) (V1.mv ?_)
  refine VO.step (.some rfl rfl rfl) (V1.it ?_)
  exact VO.nil ⟨rfl, rfl, rfl, rfl, .inr ⟨rfl, .inr ⟨rfl, .inr ⟨rfl, .inl rfl⟩⟩⟩⟩
 refine VO.cons rfl (V1.mv ?_)
 apply VO.or (n := 2) rfl rfl rfl rfl rfl rfl lt0 (.none rfl)
 ·
  intro hg1
  refine VO.step (.some rfl rfl rfl) (V1.mv ?_)
  refine VO.step (.some rfl rfl rfl) (V1.it ?_)
  exact VO.nil ⟨rfl, rfl, rfl, rfl, .inr ⟨rfl, .inr ⟨rfl, .inr ⟨rfl, .inl rfl⟩⟩⟩⟩
 refine VO.cons rfl (V1.mv ?_)
 apply VO.or (n := 3) rfl rfl rfl rfl rfl rfl lt0 (.none rfl)
 ·
  intro hg2
  refine VO.step (.some rfl rfl rfl) (V1.mv ?_)
  refine VO.step (.some rfl rfl rfl) (V1.mv ?_)
  refine VO.step (.some rfl rfl rfl) (V1.it ?_)
  exact VO.nil ⟨rfl, rfl, rfl, rfl, .inr ⟨rfl, .inr ⟨rfl, .inr ⟨rfl, .inr ⟨rfl, .inl rfl⟩⟩⟩⟩⟩
 refine VO.nil (V.keep 68 [0, 4, 8, 9, 32] [0] (E0 := [(0, .vl ρ0 5 (List.map (encCarton ρ0) list)), (4, .ref b0 1 0 0), (8, .int .i64 y0), (9, .int .i64 y1), (32, .bool ((((!y2) || (decide (y0 < (0 : Int)))) || (decide (y1 < (0 : Int)))) || (y0 == y1)))]) (H0 := [(b0, ⟨1, [.int .i64 file]⟩)]) rfl (⟨_, _, rfl, rfl, _, _, rfl, rfl, _, _, rfl, rfl, _, _, rfl, rfl, _, _, rfl, rfl, rfl⟩) (⟨_, _, rfl, rfl, rfl⟩) rfl ?_)
 refine V.cond rfl (fun hc0 => ?_) (fun hc0 => ?_)
 ·
  replace hm0 := cond_t hc0 hm0
  refine V.seq (V.region (VO.cons rfl (V1.as ?_)))
  refine VO.cons rfl (V1.as ?_)
  refine VO.nil (V.keep 68 [6, 7] [] (E0 := [(6, .nils), (7, .bool false)]) (H0 := []) rfl (⟨_, _, rfl, rfl, _, _, rfl, rfl, rfl⟩) (rfl) rfl ?_)
  refine V.ret ?_
  obtain rfl := oi hm0
  exact ⟨_, _, ⟨_, _, rfl, rfl, _, _, rfl, rfl, rfl⟩, List.Sublist.refl _, none, [], [], (fun _ => rfl), (Deep.ofNil rfl), rfl, rfl⟩
 ·
  replace hm0 := cond_f hc0 hm0
  refine V.skip ?_
  refine V.seq ?_
  replace hm0 := bindO hm0; rcases hm0 with ⟨y3, hh3, hm0⟩
  refine V.region (VO.cons rfl (V1.mv ?_))
  refine VO.cons rfl (V1.permK (V1.call rfl rfl rfl cok_66 rfl (ok_impl_copyCartons hh3) rfl lt0 ?_))
  rintro _ _ ⟨ob0, ts_73, os_73, hob0, hd_73, rfl, rfl⟩
  refine ⟨_, ?_, Keeps.perm (optH 5 ob0 (deepC cellCarton ts_73 y3) ++ (([(b0, ⟨1, [.int .i64 file]⟩)] : List (Nat × Obj')) ++ os_73)) (permDeepO1 (o := optH 5 ob0 (deepC cellCarton ts_73 y3)) (os := os_73) (A := [(b0, ⟨1, [.int .i64 file]⟩)]))⟩
  refine VO.cons rfl (V1.as ?_)
  refine VO.nil ?_
  rcases ob0 with _ | ob0
  ·
   obtain ⟨rfl, rfl⟩ := Deep.nil (hob0 rfl) hd_73
   refine V.seq ?_
   replace hm0 := asrt_some hm0; rcases hm0 with ⟨hh4, hm0⟩
   refine V.region (VO.cons rfl (V1.mv ?_))
   refine VO.cons rfl (V1.mv ?_)
   refine VO.cons rfl (V1.mv ?_)
   refine VO.cons rfl (V1.mv ?_)
   refine VO.weakenK (Keeps.nilsE (l := y3) 37 rn 5 (encCarton rn) (hob0 rfl) rfl rfl) ?_
   refine VO.cons rfl (V1.indexI rfl rfl esz_39 rfl rfl hh4 lt0 ?_)
   refine VO.cons rfl (V1.fieldPin rfl rfl fo_67_3 rfl lt0 ?_)
   exact (nilsNo (hob0 rfl) hh4).elim
  ·
   refine V.seq ?_
   replace hm0 := asrt_some hm0; rcases hm0 with ⟨hh4, hm0⟩
   replace hm0 := bindO hm0; rcases hm0 with ⟨y4, hh5, hm0⟩
   replace hm0 := asrt_some hm0; rcases hm0 with ⟨hh6, hm0⟩
   refine V.region (VO.cons rfl (V1.mv ?_))
   refine VO.cons rfl (V1.mv ?_)
   refine VO.cons rfl (V1.mv ?_)
   refine VO.cons rfl (V1.mv ?_)
   refine VO.cons rfl (V1.indexSr rfl rfl esz_39 rfl rfl hh4 lt0 ?_)
   refine VO.cons rfl (V1.fieldRef rfl rfl fo_67_3 rfl lt0 ?_)
   refine VO.cons rfl (V1.loadDeepIn (inn := (fun c_ : Carton => List.map encInt c_.Files)) (cell := cellCarton) (ts := ts_73) (xs := y3) (k := 0) cokCarton rfl rfl tyk_36 rfl rfl hd_73 (by simpa using natLt hh4.1 hh4.2) lt0 ?_)
   refine VO.cons rfl (V1.makeFunc rfl rfl rfl lt0 ?_)
   obtain ⟨ob_105, os1_105, os2_105, hob_105, ht_105, hos_105, hp_105, hs_105⟩ := Deep.focusM (f := encInt) (g := (fun c_ : Carton => c_.Files)) (Int.toNat y0) hd_73 (by simpa using natLt hh4.1 hh4.2)
   refine VO.weakenK (Keeps.say 41 (y := optS 1 ob_105 (List.length ((y3.getD (Int.toNat y0) default).Files))) rfl ht_105) ?_
   refine VO.cons rfl (V1.permK (V1.callE (A := [(ob0, ⟨5, deepC cellCarton ts_73 y3⟩), (b0, ⟨1, [.int .i64 file]⟩)]) (os1 := os1_105) (os2 := os2_105) (Hc := optH 1 ob_105 (List.map encInt ((y3.getD (Int.toNat y0) default).Files))) rfl rfl rfl cok_82 rfl (appEq (A := [(ob0, ⟨5, deepC cellCarton ts_73 y3⟩), (b0, ⟨1, [.int .i64 file]⟩)]) hos_105) (rn + 1) [b0] [optS 1 ob_105 (List.length ((y3.getD (Int.toNat y0) default).Files)), .fn 83 [.pin (rn + 1) (.int .i64 file) 0]] ⟨_, _, rfl, .same _, ⟨_, _, rfl, Lend.fn ⟨_, _, rfl, Lend.ref 1 rfl rfl rfl rfl (.head _), rfl⟩, rfl⟩⟩ (bwCons (k := 1) rfl bwNil) (ok_slices_DeleteFunc_int_int hh5 (oq := ob_105) hob_105 (fm := (fun x0 => M.impl_RefileTo_1 x0 file)) cok_83 (fun _ _ h => ok_impl_RefileTo_1 h)) rfl (.inr ⟨(by first | omega | (dsimp only; omega)), by rintro _ _ ⟨ob1, hob1, rfl, rfl⟩; exact ⟨by simp [PV.no, PV.noL, optS_no, noL_iff, nbeq] <;> omega, by intro b ob h; first | exact optH_no (noL_map (fun _ => by simp [PV.no, PV.noL, noL_iff, nbeq]) _) b ob h | (simp only [List.append_assoc, List.mem_append, List.mem_cons, List.mem_singleton, List.not_mem_nil, or_false, Prod.mk.injEq] at h; rcases h with ⟨rfl, rfl⟩ | ⟨rfl, rfl⟩ <;> first | exact noL_map (fun _ => by simp [PV.no, PV.noL, noL_iff, nbeq]) _ | (simp [PV.no, PV.noL, optS_no, noL_iff, nbeq] <;> omega)) | (simp at h; obtain ⟨rfl, rfl⟩ := h; exact noL_map (fun _ => by simp [PV.no, PV.noL, noL_iff, nbeq]) _) | (simp at h; obtain ⟨rfl, rfl⟩ := h; simp [PV.no, PV.noL, optS_no, noL_iff, nbeq] <;> omega)⟩⟩) lt0 ?_))
   rintro _ _ ⟨ob1, hob1, rfl, rfl⟩
   refine ⟨_, ?_, Keeps.optBack (n := 1) (ob := ob1) (xs := List.map encInt y4) (H1 := []) (H2 := (([(ob0, ⟨5, deepC cellCarton ts_73 y3⟩), (b0, ⟨1, [.int .i64 file]⟩)] : List (Nat × Obj')) ++ (os1_105 ++ os2_105))) rfl⟩
   refine VO.cons rfl (V1.indexSr rfl rfl esz_39 rfl rfl hh6 lt0 ?_)
   refine VO.cons rfl (V1.fieldRef rfl rfl fo_67_3 rfl lt0 ?_)
   refine VO.cons rfl (V1.storeDeepIn (inn := (fun c_ : Carton => List.map encInt c_.Files)) (cell := cellCarton) (ts := ts_73) (xs := y3) (k := 0) cokCarton (⟨(y3.getD (Int.toNat y0) default).Id, (y3.getD (Int.toNat y0) default).Shelf, (y3.getD (Int.toNat y0) default).Room, y4, (y3.getD (Int.toNat y0) default).Thick⟩ : Carton) rfl rfl tyk_36 rfl rfl (Deep.length hd_73) (by rw [ht_105]; cases ob_105 <;> exact ⟨rfl, rfl⟩) (by simpa using natLt hh6.1 hh6.2) rfl (by cases ob1 <;> rfl) (by cases ob1 <;> rfl) rfl rfl ?_)
   refine VO.weakenK (Keeps.fillDeep (A := [(ob0, ⟨5, deepC cellCarton (List.set ts_73 (Int.toNat y0) (optS 1 ob1 (List.length y4))) (y3.set (Int.toNat y0) (⟨(y3.getD (Int.toNat y0) default).Id, (y3.getD (Int.toNat y0) default).Shelf, (y3.getD (Int.toNat y0) default).Room, y4, (y3.getD (Int.toNat y0) default).Thick⟩ : Carton))⟩), (b0, ⟨1, [.int .i64 file]⟩)]) (os1 := os1_105) (os2 := os2_105) (X := optH 1 ob1 (List.map encInt y4)) rfl) ?_
   have hd_105n := hp_105 (optS 1 ob1 (List.length y4)) (optH 1 ob1 (List.map encInt y4)) (⟨(y3.getD (Int.toNat y0) default).Id, (y3.getD (Int.toNat y0) default).Shelf, (y3.getD (Int.toNat y0) default).Room, y4, (y3.getD (Int.toNat y0) default).Thick⟩ : Carton) (Deep1.opt (by simp) (fun e_ => by rw [hob1 e_]; rfl))
   refine VO.weakenK (Keeps.say 10 (y := .sref ob0 5 0 (List.length (y3.set (Int.toNat y0) (⟨(y3.getD (Int.toNat y0) default).Id, (y3.getD (Int.toNat y0) default).Shelf, (y3.getD (Int.toNat y0) default).Room, y4, (y3.getD (Int.toNat y0) default).Thick⟩ : Carton)))) rfl (by simp [optS])) ?_
   refine VO.nil (V.keepT 68 [4, 9, 10] [0, 1] (E0 := [(4, .ref b0 1 0 0), (9, .int .i64 y1), (10, .sref ob0 5 0 (List.length (y3.set (Int.toNat y0) (⟨(y3.getD (Int.toNat y0) default).Id, (y3.getD (Int.toNat y0) default).Shelf, (y3.getD (Int.toNat y0) default).Room, y4, (y3.getD (Int.toNat y0) default).Thick⟩ : Carton))))]) (A := [(ob0, ⟨5, deepC cellCarton (List.set ts_73 (Int.toNat y0) (optS 1 ob1 (List.length y4))) (y3.set (Int.toNat y0) (⟨(y3.getD (Int.toNat y0) default).Id, (y3.getD (Int.toNat y0) default).Shelf, (y3.getD (Int.toNat y0) default).Room, y4, (y3.getD (Int.toNat y0) default).Thick⟩ : Carton))⟩), (b0, ⟨1, [.int .i64 file]⟩)]) (T := (os1_105 ++ (optH 1 ob1 (List.map encInt y4) ++ os2_105))) (H0 := [(ob0, ⟨5, deepC cellCarton (List.set ts_73 (Int.toNat y0) (optS 1 ob1 (List.length y4))) (y3.set (Int.toNat y0) (⟨(y3.getD (Int.toNat y0) default).Id, (y3.getD (Int.toNat y0) default).Shelf, (y3.getD (Int.toNat y0) default).Room, y4, (y3.getD (Int.toNat y0) default).Thick⟩ : Carton))⟩), (b0, ⟨1, [.int .i64 file]⟩)]) (T' := (os1_105 ++ (optH 1 ob1 (List.map encInt y4) ++ os2_105))) rfl (⟨_, _, rfl, rfl, _, _, rfl, rfl, _, _, rfl, rfl, rfl⟩) rfl (⟨_, _, rfl, rfl, _, _, rfl, rfl, rfl⟩) rfl (List.Sublist.refl _) ?_)
   refine V.seq ?_
   replace hm0 := asrt_some hm0; rcases hm0 with ⟨hh7, hm0⟩
   obtain ⟨ob_108, os1_108, os2_108, hob_108, ht_108, hos_108, hp_108, hs_108⟩ := Deep.focusM (f := encInt) (g := (fun c_ : Carton => c_.Files)) (Int.toNat y1) hd_105n (by simpa using natLt hh7.1 hh7.2)
   refine V.weakenK (Keeps.holeBack (A := [(ob0, ⟨5, deepC cellCarton (List.set ts_73 (Int.toNat y0) (optS 1 ob1 (List.length y4))) (y3.set (Int.toNat y0) (⟨(y3.getD (Int.toNat y0) default).Id, (y3.getD (Int.toNat y0) default).Shelf, (y3.getD (Int.toNat y0) default).Room, y4, (y3.getD (Int.toNat y0) default).Thick⟩ : Carton))⟩), (b0, ⟨1, [.int .i64 file]⟩)]) (os1 := os1_108) (os2 := os2_108) (X := optH 1 ob_108 (List.map encInt (((y3.set (Int.toNat y0) (⟨(y3.getD (Int.toNat y0) default).Id, (y3.getD (Int.toNat y0) default).Shelf, (y3.getD (Int.toNat y0) default).Room, y4, (y3.getD (Int.toNat y0) default).Thick⟩ : Carton)).getD (Int.toNat y1) default).Files))) (appEq (A := [(ob0, ⟨5, deepC cellCarton (List.set ts_73 (Int.toNat y0) (optS 1 ob1 (List.length y4))) (y3.set (Int.toNat y0) (⟨(y3.getD (Int.toNat y0) default).Id, (y3.getD (Int.toNat y0) default).Shelf, (y3.getD (Int.toNat y0) default).Room, y4, (y3.getD (Int.toNat y0) default).Thick⟩ : Carton))⟩), (b0, ⟨1, [.int .i64 file]⟩)]) hos_108)) ?_
   replace hm0 := asrt_some hm0; rcases hm0 with ⟨hh8, hm0⟩
   replace hm0 := asrt_some hm0; rcases hm0 with ⟨hh9, hm0⟩
   replace hm0 := asrt_some hm0; rcases hm0 with ⟨hh10, hm0⟩
   replace hm0 := bindO hm0; rcases hm0 with ⟨j0, hm1, hm0⟩
   refine V.cutT (D := (List Carton) × (List PV × (List (Nat × Obj')))) (fun ⟨out_, ⟨ts_122, os_122⟩⟩ => ⟨68, [(10, .sref ob0 5 0 (List.length out_)), (9, .int .i64 y1)], ([(ob0, ⟨5, deepC cellCarton ts_122 out_⟩)]) ++ os_122⟩) (fun ⟨out_, ⟨ts_122, os_122⟩⟩ => (out_ = j0) ∧ Deep 1 (fun c_ : Carton => List.map encInt c_.Files) ts_122 os_122 out_) ?_ ?_
   ·
    refine V.regionS [(b0, ⟨1, [.int .i64 file]⟩)] 68 10 [⟨[(10, none)], false⟩, ⟨[(9, none)], false⟩, ⟨[(10, none)], false⟩, ⟨[(9, none)], false⟩, ⟨[(48, some 2), (49, some 3)], false⟩, ⟨[(50, some 4)], false⟩, ⟨[(51, some 5)], true⟩, ⟨[(4, none)], false⟩, ⟨[(53, some 7)], true⟩, ⟨[(52, some 6), (54, some 8)], true⟩] [(9, none), (10, none), (46, some 0), (47, some 1), (55, some 9)] 3 (⟨_, rfl, ⟨_, rfl, ⟨_, rfl, ⟨_, rfl, ⟨_, rfl, ⟨_, rfl, ⟨_, rfl, ⟨_, rfl, ⟨_, rfl, ⟨_, rfl, ⟨rfl, rfl⟩⟩⟩⟩⟩⟩⟩⟩⟩⟩⟩) mixed_orders rfl (by decide +kernel) ?_
    refine WalkP.step (p := ?pv124) 0 rfl rfl rfl rfl rfl (⟨_, _, rfl, rfl, rfl⟩) ?hv124 ?rest124
    case hv124 =>
     intro E1 H1 hI1
     refine (V1.mv ?_)
     exact rfl
    refine WalkP.step (p := ?pv125) 1 rfl rfl rfl rfl rfl (⟨_, _, rfl, rfl, rfl⟩) ?hv125 ?rest125
    case hv125 =>
     intro E1 H1 hI1
     refine (V1.mv ?_)
     exact rfl
    refine WalkP.step (p := ?pv126) 2 rfl rfl rfl rfl rfl (⟨_, _, rfl, rfl, rfl⟩) ?hv126 ?rest126
    case hv126 =>
     intro E1 H1 hI1
     refine (V1.mv ?_)
     exact rfl
    refine WalkP.step (p := ?pv127) 3 rfl rfl rfl rfl rfl (⟨_, _, rfl, rfl, rfl⟩) ?hv127 ?rest127
    case hv127 =>
     intro E1 H1 hI1
     refine (V1.mv ?_)
     exact rfl
    refine WalkP.step (p := ?pv128) 4 rfl rfl rfl rfl rfl (⟨_, _, rfl, rfl, _, _, rfl, rfl, rfl⟩) ?hv128 ?rest128
    case hv128 =>
     intro E1 H1 hI1
     refine (V1.indexSr rfl rfl esz_39 rfl rfl hh8 lt0 ?_)
     exact rfl
    refine WalkP.step (p := ?pv129) 5 rfl rfl rfl rfl rfl (⟨_, _, rfl, rfl, rfl⟩) ?hv129 ?rest129
    case hv129 =>
     intro E1 H1 hI1
     refine (V1.fieldRef rfl rfl fo_67_3 rfl lt0 ?_)
     exact rfl
    refine WalkP.step (p := ?pv130) 7 rfl rfl rfl rfl rfl (⟨_, _, rfl, rfl, rfl⟩) ?hv130 ?rest130
    case hv130 =>
     intro E1 H1 hI1
     obtain ⟨k131_, hk131_⟩ := inGet 0 rfl hI1
     refine (V1.loadRef (k := k131_) rfl rfl tyk_3 rfl hk131_ rfl rfl rfl lt0 ?_)
     exact rfl
    refine WalkP.nil (NodeS.branch [6, 8] (inCons 1 rfl inNil) rfl rfl rfl ⟨?_, ?_, trivial⟩)
    ·
     refine ⟨_, _, _, _, rfl, rfl, rfl, (⟨_, _, rfl, rfl, rfl⟩), fun E1 => ?_⟩
     refine (V1.loadKnown (inn := (fun c_ : Carton => List.map encInt c_.Files)) (cell := cellCarton) (ts := (List.set ts_73 (Int.toNat y0) (optS 1 ob1 (List.length y4)))) (xs := (y3.set (Int.toNat y0) (⟨(y3.getD (Int.toNat y0) default).Id, (y3.getD (Int.toNat y0) default).Shelf, (y3.getD (Int.toNat y0) default).Room, y4, (y3.getD (Int.toNat y0) default).Thick⟩ : Carton))) (k := 0) cokCarton rfl rfl tyk_36 rfl rfl (Deep.length hd_105n) (by simpa using natLt hh8.1 hh8.2) ht_108 optS_cells lt0 ?_)
     refine ⟨_, _, rfl, ?_⟩
     refine WalkP.nil (NodeS.branch [8] (inCons 1 rfl inNil) rfl rfl rfl ⟨?_, trivial⟩)
     ·
      refine ⟨_, _, _, _, rfl, rfl, rfl, (⟨_, _, rfl, rfl, rfl⟩), fun E1 => ?_⟩
      refine (V1.buildSliceT (f := encInt) ([file] : List Int) rfl rfl esz_36 zk_3 rfl rfl rfl rfl rfl rfl rfl lt0 ?_)
      intro b3
      refine ⟨_, _, rfl, ?_⟩
      refine WalkP.nil (NodeS.branch [9] (inCons 2 rfl inNil) rfl rfl rfl ⟨?_, trivial⟩)
      ·
       refine ⟨_, _, _, _, rfl, rfl, rfl, (⟨_, _, rfl, rfl, _, _, rfl, rfl, rfl⟩), fun E1 => ?_⟩
       refine (V1.appendOpt (f := encInt) (l := ((y3.set (Int.toNat y0) (⟨(y3.getD (Int.toNat y0) default).Id, (y3.getD (Int.toNat y0) default).Shelf, (y3.getD (Int.toNat y0) default).Room, y4, (y3.getD (Int.toNat y0) default).Thick⟩ : Carton)).getD (Int.toNat y1) default).Files) (m := ([file] : List Int)) (([(b3, ⟨1, List.map encInt ([file] : List Int)⟩), (ob0, ⟨5, deepC cellCarton (List.set ts_73 (Int.toNat y0) (optS 1 ob1 (List.length y4))) (y3.set (Int.toNat y0) (⟨(y3.getD (Int.toNat y0) default).Id, (y3.getD (Int.toNat y0) default).Shelf, (y3.getD (Int.toNat y0) default).Room, y4, (y3.getD (Int.toNat y0) default).Thick⟩ : Carton))⟩), (b0, ⟨1, [.int .i64 file]⟩)] : List (Nat × Obj')) ++ (os1_108 ++ os2_108)) hob_108 rfl rfl rfl rfl rfl esz_36 eby_36 zk_3 rfl rfl rfl rfl (SrcOf.srMap (k := 0) rfl isl_36) rfl hh9 lt0 ?_)
       intro b4
       refine ⟨_, _, rfl, ?_⟩
       refine WalkP.nil (NodeS.fin (inCons 3 rfl inNil) rfl rfl rfl (⟨_, _, rfl, rfl, _, _, rfl, rfl, _, _, rfl, rfl, _, _, rfl, rfl, _, _, rfl, rfl, rfl⟩) ?_)
       refine VO.cons rfl (V1.indexSr rfl rfl esz_39 rfl rfl hh10 lt0 ?_)
       refine VO.cons rfl (V1.fieldRef rfl rfl fo_67_3 rfl lt0 ?_)
       refine VO.cons rfl (V1.storeDeepIn (inn := (fun c_ : Carton => List.map encInt c_.Files)) (cell := cellCarton) (ts := (List.set ts_73 (Int.toNat y0) (optS 1 ob1 (List.length y4)))) (xs := (y3.set (Int.toNat y0) (⟨(y3.getD (Int.toNat y0) default).Id, (y3.getD (Int.toNat y0) default).Shelf, (y3.getD (Int.toNat y0) default).Room, y4, (y3.getD (Int.toNat y0) default).Thick⟩ : Carton))) (k := 2) cokCarton (⟨((y3.set (Int.toNat y0) (⟨(y3.getD (Int.toNat y0) default).Id, (y3.getD (Int.toNat y0) default).Shelf, (y3.getD (Int.toNat y0) default).Room, y4, (y3.getD (Int.toNat y0) default).Thick⟩ : Carton)).getD (Int.toNat y1) default).Id, ((y3.set (Int.toNat y0) (⟨(y3.getD (Int.toNat y0) default).Id, (y3.getD (Int.toNat y0) default).Shelf, (y3.getD (Int.toNat y0) default).Room, y4, (y3.getD (Int.toNat y0) default).Thick⟩ : Carton)).getD (Int.toNat y1) default).Shelf, ((y3.set (Int.toNat y0) (⟨(y3.getD (Int.toNat y0) default).Id, (y3.getD (Int.toNat y0) default).Shelf, (y3.getD (Int.toNat y0) default).Room, y4, (y3.getD (Int.toNat y0) default).Thick⟩ : Carton)).getD (Int.toNat y1) default).Room, ((((y3.set (Int.toNat y0) (⟨(y3.getD (Int.toNat y0) default).Id, (y3.getD (Int.toNat y0) default).Shelf, (y3.getD (Int.toNat y0) default).Room, y4, (y3.getD (Int.toNat y0) default).Thick⟩ : Carton)).getD (Int.toNat y1) default).Files) ++ ([file] : List Int)), ((y3.set (Int.toNat y0) (⟨(y3.getD (Int.toNat y0) default).Id, (y3.getD (Int.toNat y0) default).Shelf, (y3.getD (Int.toNat y0) default).Room, y4, (y3.getD (Int.toNat y0) default).Thick⟩ : Carton)).getD (Int.toNat y1) default).Thick⟩ : Carton) rfl rfl tyk_36 rfl rfl (Deep.length hd_105n) (by rw [ht_108]; cases ob_108 <;> exact ⟨rfl, rfl⟩) (by simpa using natLt hh10.1 hh10.2) rfl rfl rfl rfl rfl ?_)
       refine VO.weakenK (Keeps.putDeep 0 (A := [(b4, ⟨1, List.map encInt ((((y3.set (Int.toNat y0) (⟨(y3.getD (Int.toNat y0) default).Id, (y3.getD (Int.toNat y0) default).Shelf, (y3.getD (Int.toNat y0) default).Room, y4, (y3.getD (Int.toNat y0) default).Thick⟩ : Carton)).getD (Int.toNat y1) default).Files) ++ ([file] : List Int))⟩), (b3, ⟨1, List.map encInt ([file] : List Int)⟩), (ob0, ⟨5, deepC cellCarton (List.set (List.set ts_73 (Int.toNat y0) (optS 1 ob1 (List.length y4))) (Int.toNat y1) (.sref b4 1 0 (List.length ((((y3.set (Int.toNat y0) (⟨(y3.getD (Int.toNat y0) default).Id, (y3.getD (Int.toNat y0) default).Shelf, (y3.getD (Int.toNat y0) default).Room, y4, (y3.getD (Int.toNat y0) default).Thick⟩ : Carton)).getD (Int.toNat y1) default).Files) ++ ([file] : List Int))))) ((y3.set (Int.toNat y0) (⟨(y3.getD (Int.toNat y0) default).Id, (y3.getD (Int.toNat y0) default).Shelf, (y3.getD (Int.toNat y0) default).Room, y4, (y3.getD (Int.toNat y0) default).Thick⟩ : Carton)).set (Int.toNat y1) (⟨((y3.set (Int.toNat y0) (⟨(y3.getD (Int.toNat y0) default).Id, (y3.getD (Int.toNat y0) default).Shelf, (y3.getD (Int.toNat y0) default).Room, y4, (y3.getD (Int.toNat y0) default).Thick⟩ : Carton)).getD (Int.toNat y1) default).Id, ((y3.set (Int.toNat y0) (⟨(y3.getD (Int.toNat y0) default).Id, (y3.getD (Int.toNat y0) default).Shelf, (y3.getD (Int.toNat y0) default).Room, y4, (y3.getD (Int.toNat y0) default).Thick⟩ : Carton)).getD (Int.toNat y1) default).Shelf, ((y3.set (Int.toNat y0) (⟨(y3.getD (Int.toNat y0) default).Id, (y3.getD (Int.toNat y0) default).Shelf, (y3.getD (Int.toNat y0) default).Room, y4, (y3.getD (Int.toNat y0) default).Thick⟩ : Carton)).getD (Int.toNat y1) default).Room, ((((y3.set (Int.toNat y0) (⟨(y3.getD (Int.toNat y0) default).Id, (y3.getD (Int.toNat y0) default).Shelf, (y3.getD (Int.toNat y0) default).Room, y4, (y3.getD (Int.toNat y0) default).Thick⟩ : Carton)).getD (Int.toNat y1) default).Files) ++ ([file] : List Int)), ((y3.set (Int.toNat y0) (⟨(y3.getD (Int.toNat y0) default).Id, (y3.getD (Int.toNat y0) default).Shelf, (y3.getD (Int.toNat y0) default).Room, y4, (y3.getD (Int.toNat y0) default).Thick⟩ : Carton)).getD (Int.toNat y1) default).Thick⟩ : Carton))⟩), (b0, ⟨1, [.int .i64 file]⟩)]) (A' := [(b3, ⟨1, List.map encInt ([file] : List Int)⟩), (ob0, ⟨5, deepC cellCarton (List.set (List.set ts_73 (Int.toNat y0) (optS 1 ob1 (List.length y4))) (Int.toNat y1) (.sref b4 1 0 (List.length ((((y3.set (Int.toNat y0) (⟨(y3.getD (Int.toNat y0) default).Id, (y3.getD (Int.toNat y0) default).Shelf, (y3.getD (Int.toNat y0) default).Room, y4, (y3.getD (Int.toNat y0) default).Thick⟩ : Carton)).getD (Int.toNat y1) default).Files) ++ ([file] : List Int))))) ((y3.set (Int.toNat y0) (⟨(y3.getD (Int.toNat y0) default).Id, (y3.getD (Int.toNat y0) default).Shelf, (y3.getD (Int.toNat y0) default).Room, y4, (y3.getD (Int.toNat y0) default).Thick⟩ : Carton)).set (Int.toNat y1) (⟨((y3.set (Int.toNat y0) (⟨(y3.getD (Int.toNat y0) default).Id, (y3.getD (Int.toNat y0) default).Shelf, (y3.getD (Int.toNat y0) default).Room, y4, (y3.getD (Int.toNat y0) default).Thick⟩ : Carton)).getD (Int.toNat y1) default).Id, ((y3.set (Int.toNat y0) (⟨(y3.getD (Int.toNat y0) default).Id, (y3.getD (Int.toNat y0) default).Shelf, (y3.getD (Int.toNat y0) default).Room, y4, (y3.getD (Int.toNat y0) default).Thick⟩ : Carton)).getD (Int.toNat y1) default).Shelf, ((y3.set (Int.toNat y0) (⟨(y3.getD (Int.toNat y0) default).Id, (y3.getD (Int.toNat y0) default).Shelf, (y3.getD (Int.toNat y0) default).Room, y4, (y3.getD (Int.toNat y0) default).Thick⟩ : Carton)).getD (Int.toNat y1) default).Room, ((((y3.set (Int.toNat y0) (⟨(y3.getD (Int.toNat y0) default).Id, (y3.getD (Int.toNat y0) default).Shelf, (y3.getD (Int.toNat y0) default).Room, y4, (y3.getD (Int.toNat y0) default).Thick⟩ : Carton)).getD (Int.toNat y1) default).Files) ++ ([file] : List Int)), ((y3.set (Int.toNat y0) (⟨(y3.getD (Int.toNat y0) default).Id, (y3.getD (Int.toNat y0) default).Shelf, (y3.getD (Int.toNat y0) default).Room, y4, (y3.getD (Int.toNat y0) default).Thick⟩ : Carton)).getD (Int.toNat y1) default).Thick⟩ : Carton))⟩), (b0, ⟨1, [.int .i64 file]⟩)]) (os := (os1_108 ++ os2_108)) (os1 := os1_108) (oi := []) (os2 := os2_108) (p := (b4, ⟨1, List.map encInt ((((y3.set (Int.toNat y0) (⟨(y3.getD (Int.toNat y0) default).Id, (y3.getD (Int.toNat y0) default).Shelf, (y3.getD (Int.toNat y0) default).Room, y4, (y3.getD (Int.toNat y0) default).Thick⟩ : Carton)).getD (Int.toNat y1) default).Files) ++ ([file] : List Int))⟩)) rfl rfl rfl rfl) ?_
       have hd_108n := hp_108 (.sref b4 1 0 (List.length ((((y3.set (Int.toNat y0) (⟨(y3.getD (Int.toNat y0) default).Id, (y3.getD (Int.toNat y0) default).Shelf, (y3.getD (Int.toNat y0) default).Room, y4, (y3.getD (Int.toNat y0) default).Thick⟩ : Carton)).getD (Int.toNat y1) default).Files) ++ ([file] : List Int)))) [(b4, ⟨1, List.map encInt ((((y3.set (Int.toNat y0) (⟨(y3.getD (Int.toNat y0) default).Id, (y3.getD (Int.toNat y0) default).Shelf, (y3.getD (Int.toNat y0) default).Room, y4, (y3.getD (Int.toNat y0) default).Thick⟩ : Carton)).getD (Int.toNat y1) default).Files) ++ ([file] : List Int))⟩)] (⟨((y3.set (Int.toNat y0) (⟨(y3.getD (Int.toNat y0) default).Id, (y3.getD (Int.toNat y0) default).Shelf, (y3.getD (Int.toNat y0) default).Room, y4, (y3.getD (Int.toNat y0) default).Thick⟩ : Carton)).getD (Int.toNat y1) default).Id, ((y3.set (Int.toNat y0) (⟨(y3.getD (Int.toNat y0) default).Id, (y3.getD (Int.toNat y0) default).Shelf, (y3.getD (Int.toNat y0) default).Room, y4, (y3.getD (Int.toNat y0) default).Thick⟩ : Carton)).getD (Int.toNat y1) default).Shelf, ((y3.set (Int.toNat y0) (⟨(y3.getD (Int.toNat y0) default).Id, (y3.getD (Int.toNat y0) default).Shelf, (y3.getD (Int.toNat y0) default).Room, y4, (y3.getD (Int.toNat y0) default).Thick⟩ : Carton)).getD (Int.toNat y1) default).Room, ((((y3.set (Int.toNat y0) (⟨(y3.getD (Int.toNat y0) default).Id, (y3.getD (Int.toNat y0) default).Shelf, (y3.getD (Int.toNat y0) default).Room, y4, (y3.getD (Int.toNat y0) default).Thick⟩ : Carton)).getD (Int.toNat y1) default).Files) ++ ([file] : List Int)), ((y3.set (Int.toNat y0) (⟨(y3.getD (Int.toNat y0) default).Id, (y3.getD (Int.toNat y0) default).Shelf, (y3.getD (Int.toNat y0) default).Room, y4, (y3.getD (Int.toNat y0) default).Thick⟩ : Carton)).getD (Int.toNat y1) default).Thick⟩ : Carton) (Deep1.own (by simp))
       refine VO.weakenK (Keeps.say 10 (y := .sref ob0 5 0 (List.length ((y3.set (Int.toNat y0) (⟨(y3.getD (Int.toNat y0) default).Id, (y3.getD (Int.toNat y0) default).Shelf, (y3.getD (Int.toNat y0) default).Room, y4, (y3.getD (Int.toNat y0) default).Thick⟩ : Carton)).set (Int.toNat y1) (⟨((y3.set (Int.toNat y0) (⟨(y3.getD (Int.toNat y0) default).Id, (y3.getD (Int.toNat y0) default).Shelf, (y3.getD (Int.toNat y0) default).Room, y4, (y3.getD (Int.toNat y0) default).Thick⟩ : Carton)).getD (Int.toNat y1) default).Id, ((y3.set (Int.toNat y0) (⟨(y3.getD (Int.toNat y0) default).Id, (y3.getD (Int.toNat y0) default).Shelf, (y3.getD (Int.toNat y0) default).Room, y4, (y3.getD (Int.toNat y0) default).Thick⟩ : Carton)).getD (Int.toNat y1) default).Shelf, ((y3.set (Int.toNat y0) (⟨(y3.getD (Int.toNat y0) default).Id, (y3.getD (Int.toNat y0) default).Shelf, (y3.getD (Int.toNat y0) default).Room, y4, (y3.getD (Int.toNat y0) default).Thick⟩ : Carton)).getD (Int.toNat y1) default).Room, ((((y3.set (Int.toNat y0) (⟨(y3.getD (Int.toNat y0) default).Id, (y3.getD (Int.toNat y0) default).Shelf, (y3.getD (Int.toNat y0) default).Room, y4, (y3.getD (Int.toNat y0) default).Thick⟩ : Carton)).getD (Int.toNat y1) default).Files) ++ ([file] : List Int)), ((y3.set (Int.toNat y0) (⟨(y3.getD (Int.toNat y0) default).Id, (y3.getD (Int.toNat y0) default).Shelf, (y3.getD (Int.toNat y0) default).Room, y4, (y3.getD (Int.toNat y0) default).Thick⟩ : Carton)).getD (Int.toNat y1) default).Thick⟩ : Carton)))) rfl (by simp [optS])) ?_
       refine VO.nil ?_
       exact ⟨(((y3.set (Int.toNat y0) (⟨(y3.getD (Int.toNat y0) default).Id, (y3.getD (Int.toNat y0) default).Shelf, (y3.getD (Int.toNat y0) default).Room, y4, (y3.getD (Int.toNat y0) default).Thick⟩ : Carton)).set (Int.toNat y1) (⟨((y3.set (Int.toNat y0) (⟨(y3.getD (Int.toNat y0) default).Id, (y3.getD (Int.toNat y0) default).Shelf, (y3.getD (Int.toNat y0) default).Room, y4, (y3.getD (Int.toNat y0) default).Thick⟩ : Carton)).getD (Int.toNat y1) default).Id, ((y3.set (Int.toNat y0) (⟨(y3.getD (Int.toNat y0) default).Id, (y3.getD (Int.toNat y0) default).Shelf, (y3.getD (Int.toNat y0) default).Room, y4, (y3.getD (Int.toNat y0) default).Thick⟩ : Carton)).getD (Int.toNat y1) default).Shelf, ((y3.set (Int.toNat y0) (⟨(y3.getD (Int.toNat y0) default).Id, (y3.getD (Int.toNat y0) default).Shelf, (y3.getD (Int.toNat y0) default).Room, y4, (y3.getD (Int.toNat y0) default).Thick⟩ : Carton)).getD (Int.toNat y1) default).Room, ((((y3.set (Int.toNat y0) (⟨(y3.getD (Int.toNat y0) default).Id, (y3.getD (Int.toNat y0) default).Shelf, (y3.getD (Int.toNat y0) default).Room, y4, (y3.getD (Int.toNat y0) default).Thick⟩ : Carton)).getD (Int.toNat y1) default).Files) ++ ([file] : List Int)), ((y3.set (Int.toNat y0) (⟨(y3.getD (Int.toNat y0) default).Id, (y3.getD (Int.toNat y0) default).Shelf, (y3.getD (Int.toNat y0) default).Room, y4, (y3.getD (Int.toNat y0) default).Thick⟩ : Carton)).getD (Int.toNat y1) default).Thick⟩ : Carton)), ((List.set (List.set ts_73 (Int.toNat y0) (optS 1 ob1 (List.length y4))) (Int.toNat y1) (.sref b4 1 0 (List.length ((((y3.set (Int.toNat y0) (⟨(y3.getD (Int.toNat y0) default).Id, (y3.getD (Int.toNat y0) default).Shelf, (y3.getD (Int.toNat y0) default).Room, y4, (y3.getD (Int.toNat y0) default).Thick⟩ : Carton)).getD (Int.toNat y1) default).Files) ++ ([file] : List Int))))), (os1_108 ++ ([(b4, ⟨1, List.map encInt ((((y3.set (Int.toNat y0) (⟨(y3.getD (Int.toNat y0) default).Id, (y3.getD (Int.toNat y0) default).Shelf, (y3.getD (Int.toNat y0) default).Room, y4, (y3.getD (Int.toNat y0) default).Thick⟩ : Carton)).getD (Int.toNat y1) default).Files) ++ ([file] : List Int))⟩)] ++ os2_108)))), ⟨oi hm1, hd_108n⟩, Keeps.mkT (A := [(b3, ⟨1, List.map encInt ([file] : List Int)⟩), (ob0, ⟨5, deepC cellCarton (List.set (List.set ts_73 (Int.toNat y0) (optS 1 ob1 (List.length y4))) (Int.toNat y1) (.sref b4 1 0 (List.length ((((y3.set (Int.toNat y0) (⟨(y3.getD (Int.toNat y0) default).Id, (y3.getD (Int.toNat y0) default).Shelf, (y3.getD (Int.toNat y0) default).Room, y4, (y3.getD (Int.toNat y0) default).Thick⟩ : Carton)).getD (Int.toNat y1) default).Files) ++ ([file] : List Int))))) ((y3.set (Int.toNat y0) (⟨(y3.getD (Int.toNat y0) default).Id, (y3.getD (Int.toNat y0) default).Shelf, (y3.getD (Int.toNat y0) default).Room, y4, (y3.getD (Int.toNat y0) default).Thick⟩ : Carton)).set (Int.toNat y1) (⟨((y3.set (Int.toNat y0) (⟨(y3.getD (Int.toNat y0) default).Id, (y3.getD (Int.toNat y0) default).Shelf, (y3.getD (Int.toNat y0) default).Room, y4, (y3.getD (Int.toNat y0) default).Thick⟩ : Carton)).getD (Int.toNat y1) default).Id, ((y3.set (Int.toNat y0) (⟨(y3.getD (Int.toNat y0) default).Id, (y3.getD (Int.toNat y0) default).Shelf, (y3.getD (Int.toNat y0) default).Room, y4, (y3.getD (Int.toNat y0) default).Thick⟩ : Carton)).getD (Int.toNat y1) default).Shelf, ((y3.set (Int.toNat y0) (⟨(y3.getD (Int.toNat y0) default).Id, (y3.getD (Int.toNat y0) default).Shelf, (y3.getD (Int.toNat y0) default).Room, y4, (y3.getD (Int.toNat y0) default).Thick⟩ : Carton)).getD (Int.toNat y1) default).Room, ((((y3.set (Int.toNat y0) (⟨(y3.getD (Int.toNat y0) default).Id, (y3.getD (Int.toNat y0) default).Shelf, (y3.getD (Int.toNat y0) default).Room, y4, (y3.getD (Int.toNat y0) default).Thick⟩ : Carton)).getD (Int.toNat y1) default).Files) ++ ([file] : List Int)), ((y3.set (Int.toNat y0) (⟨(y3.getD (Int.toNat y0) default).Id, (y3.getD (Int.toNat y0) default).Shelf, (y3.getD (Int.toNat y0) default).Room, y4, (y3.getD (Int.toNat y0) default).Thick⟩ : Carton)).getD (Int.toNat y1) default).Thick⟩ : Carton))⟩), (b0, ⟨1, [.int .i64 file]⟩)]) (T := (os1_108 ++ ([(b4, ⟨1, List.map encInt ((((y3.set (Int.toNat y0) (⟨(y3.getD (Int.toNat y0) default).Id, (y3.getD (Int.toNat y0) default).Shelf, (y3.getD (Int.toNat y0) default).Room, y4, (y3.getD (Int.toNat y0) default).Thick⟩ : Carton)).getD (Int.toNat y1) default).Files) ++ ([file] : List Int))⟩)] ++ os2_108))) (T' := (os1_108 ++ ([(b4, ⟨1, List.map encInt ((((y3.set (Int.toNat y0) (⟨(y3.getD (Int.toNat y0) default).Id, (y3.getD (Int.toNat y0) default).Shelf, (y3.getD (Int.toNat y0) default).Room, y4, (y3.getD (Int.toNat y0) default).Thick⟩ : Carton)).getD (Int.toNat y1) default).Files) ++ ([file] : List Int))⟩)] ++ os2_108))) (H := [(ob0, ⟨5, deepC cellCarton (List.set (List.set ts_73 (Int.toNat y0) (optS 1 ob1 (List.length y4))) (Int.toNat y1) (.sref b4 1 0 (List.length ((((y3.set (Int.toNat y0) (⟨(y3.getD (Int.toNat y0) default).Id, (y3.getD (Int.toNat y0) default).Shelf, (y3.getD (Int.toNat y0) default).Room, y4, (y3.getD (Int.toNat y0) default).Thick⟩ : Carton)).getD (Int.toNat y1) default).Files) ++ ([file] : List Int))))) ((y3.set (Int.toNat y0) (⟨(y3.getD (Int.toNat y0) default).Id, (y3.getD (Int.toNat y0) default).Shelf, (y3.getD (Int.toNat y0) default).Room, y4, (y3.getD (Int.toNat y0) default).Thick⟩ : Carton)).set (Int.toNat y1) (⟨((y3.set (Int.toNat y0) (⟨(y3.getD (Int.toNat y0) default).Id, (y3.getD (Int.toNat y0) default).Shelf, (y3.getD (Int.toNat y0) default).Room, y4, (y3.getD (Int.toNat y0) default).Thick⟩ : Carton)).getD (Int.toNat y1) default).Id, ((y3.set (Int.toNat y0) (⟨(y3.getD (Int.toNat y0) default).Id, (y3.getD (Int.toNat y0) default).Shelf, (y3.getD (Int.toNat y0) default).Room, y4, (y3.getD (Int.toNat y0) default).Thick⟩ : Carton)).getD (Int.toNat y1) default).Shelf, ((y3.set (Int.toNat y0) (⟨(y3.getD (Int.toNat y0) default).Id, (y3.getD (Int.toNat y0) default).Shelf, (y3.getD (Int.toNat y0) default).Room, y4, (y3.getD (Int.toNat y0) default).Thick⟩ : Carton)).getD (Int.toNat y1) default).Room, ((((y3.set (Int.toNat y0) (⟨(y3.getD (Int.toNat y0) default).Id, (y3.getD (Int.toNat y0) default).Shelf, (y3.getD (Int.toNat y0) default).Room, y4, (y3.getD (Int.toNat y0) default).Thick⟩ : Carton)).getD (Int.toNat y1) default).Files) ++ ([file] : List Int)), ((y3.set (Int.toNat y0) (⟨(y3.getD (Int.toNat y0) default).Id, (y3.getD (Int.toNat y0) default).Shelf, (y3.getD (Int.toNat y0) default).Room, y4, (y3.getD (Int.toNat y0) default).Thick⟩ : Carton)).getD (Int.toNat y1) default).Thick⟩ : Carton))⟩)]) (ks := [1]) rfl (by exact ⟨(someSref (by simp)), rfl, trivial⟩) rfl (by exact (⟨_, _, rfl, rfl, rfl⟩)) rfl (List.Sublist.refl _)⟩
    ·
     refine ⟨_, _, _, _, rfl, rfl, rfl, (⟨_, _, rfl, rfl, rfl⟩), fun E1 => ?_⟩
     refine (V1.buildSliceT (f := encInt) ([file] : List Int) rfl rfl esz_36 zk_3 rfl rfl rfl rfl rfl rfl rfl lt0 ?_)
     intro b5
     refine ⟨_, _, rfl, ?_⟩
     refine WalkP.nil (NodeS.branch [6] (inCons 2 rfl inNil) rfl rfl rfl ⟨?_, trivial⟩)
     ·
      refine ⟨_, _, _, _, rfl, rfl, rfl, (⟨_, _, rfl, rfl, rfl⟩), fun E1 => ?_⟩
      refine (V1.loadKnown (inn := (fun c_ : Carton => List.map encInt c_.Files)) (cell := cellCarton) (ts := (List.set ts_73 (Int.toNat y0) (optS 1 ob1 (List.length y4)))) (xs := (y3.set (Int.toNat y0) (⟨(y3.getD (Int.toNat y0) default).Id, (y3.getD (Int.toNat y0) default).Shelf, (y3.getD (Int.toNat y0) default).Room, y4, (y3.getD (Int.toNat y0) default).Thick⟩ : Carton))) (k := 1) cokCarton rfl rfl tyk_36 rfl rfl (Deep.length hd_105n) (by simpa using natLt hh8.1 hh8.2) ht_108 optS_cells lt0 ?_)
      refine ⟨_, _, rfl, ?_⟩
      refine WalkP.nil (NodeS.branch [9] (inCons 2 rfl inNil) rfl rfl rfl ⟨?_, trivial⟩)
      ·
       refine ⟨_, _, _, _, rfl, rfl, rfl, (⟨_, _, rfl, rfl, _, _, rfl, rfl, rfl⟩), fun E1 => ?_⟩
       refine (V1.appendOpt (f := encInt) (l := ((y3.set (Int.toNat y0) (⟨(y3.getD (Int.toNat y0) default).Id, (y3.getD (Int.toNat y0) default).Shelf, (y3.getD (Int.toNat y0) default).Room, y4, (y3.getD (Int.toNat y0) default).Thick⟩ : Carton)).getD (Int.toNat y1) default).Files) (m := ([file] : List Int)) (([(b5, ⟨1, List.map encInt ([file] : List Int)⟩), (ob0, ⟨5, deepC cellCarton (List.set ts_73 (Int.toNat y0) (optS 1 ob1 (List.length y4))) (y3.set (Int.toNat y0) (⟨(y3.getD (Int.toNat y0) default).Id, (y3.getD (Int.toNat y0) default).Shelf, (y3.getD (Int.toNat y0) default).Room, y4, (y3.getD (Int.toNat y0) default).Thick⟩ : Carton))⟩), (b0, ⟨1, [.int .i64 file]⟩)] : List (Nat × Obj')) ++ (os1_108 ++ os2_108)) hob_108 rfl rfl rfl rfl rfl esz_36 eby_36 zk_3 rfl rfl rfl rfl (SrcOf.srMap (k := 0) rfl isl_36) rfl hh9 lt0 ?_)
       intro b6
       refine ⟨_, _, rfl, ?_⟩
       refine WalkP.nil (NodeS.fin (inCons 3 rfl inNil) rfl rfl rfl (⟨_, _, rfl, rfl, _, _, rfl, rfl, _, _, rfl, rfl, _, _, rfl, rfl, _, _, rfl, rfl, rfl⟩) ?_)
       refine VO.cons rfl (V1.indexSr rfl rfl esz_39 rfl rfl hh10 lt0 ?_)
       refine VO.cons rfl (V1.fieldRef rfl rfl fo_67_3 rfl lt0 ?_)
       refine VO.cons rfl (V1.storeDeepIn (inn := (fun c_ : Carton => List.map encInt c_.Files)) (cell := cellCarton) (ts := (List.set ts_73 (Int.toNat y0) (optS 1 ob1 (List.length y4)))) (xs := (y3.set (Int.toNat y0) (⟨(y3.getD (Int.toNat y0) default).Id, (y3.getD (Int.toNat y0) default).Shelf, (y3.getD (Int.toNat y0) default).Room, y4, (y3.getD (Int.toNat y0) default).Thick⟩ : Carton))) (k := 2) cokCarton (⟨((y3.set (Int.toNat y0) (⟨(y3.getD (Int.toNat y0) default).Id, (y3.getD (Int.toNat y0) default).Shelf, (y3.getD (Int.toNat y0) default).Room, y4, (y3.getD (Int.toNat y0) default).Thick⟩ : Carton)).getD (Int.toNat y1) default).Id, ((y3.set (Int.toNat y0) (⟨(y3.getD (Int.toNat y0) default).Id, (y3.getD (Int.toNat y0) default).Shelf, (y3.getD (Int.toNat y0) default).Room, y4, (y3.getD (Int.toNat y0) default).Thick⟩ : Carton)).getD (Int.toNat y1) default).Shelf, ((y3.set (Int.toNat y0) (⟨(y3.getD (Int.toNat y0) default).Id, (y3.getD (Int.toNat y0) default).Shelf, (y3.getD (Int.toNat y0) default).Room, y4, (y3.getD (Int.toNat y0) default).Thick⟩ : Carton)).getD (Int.toNat y1) default).Room, ((((y3.set (Int.toNat y0) (⟨(y3.getD (Int.toNat y0) default).Id, (y3.getD (Int.toNat y0) default).Shelf, (y3.getD (Int.toNat y0) default).Room, y4, (y3.getD (Int.toNat y0) default).Thick⟩ : Carton)).getD (Int.toNat y1) default).Files) ++ ([file] : List Int)), ((y3.set (Int.toNat y0) (⟨(y3.getD (Int.toNat y0) default).Id, (y3.getD (Int.toNat y0) default).Shelf, (y3.getD (Int.toNat y0) default).Room, y4, (y3.getD (Int.toNat y0) default).Thick⟩ : Carton)).getD (Int.toNat y1) default).Thick⟩ : Carton) rfl rfl tyk_36 rfl rfl (Deep.length hd_105n) (by rw [ht_108]; cases ob_108 <;> exact ⟨rfl, rfl⟩) (by simpa using natLt hh10.1 hh10.2) rfl rfl rfl rfl rfl ?_)
       refine VO.weakenK (Keeps.putDeep 0 (A := [(b6, ⟨1, List.map encInt ((((y3.set (Int.toNat y0) (⟨(y3.getD (Int.toNat y0) default).Id, (y3.getD (Int.toNat y0) default).Shelf, (y3.getD (Int.toNat y0) default).Room, y4, (y3.getD (Int.toNat y0) default).Thick⟩ : Carton)).getD (Int.toNat y1) default).Files) ++ ([file] : List Int))⟩), (b5, ⟨1, List.map encInt ([file] : List Int)⟩), (ob0, ⟨5, deepC cellCarton (List.set (List.set ts_73 (Int.toNat y0) (optS 1 ob1 (List.length y4))) (Int.toNat y1) (.sref b6 1 0 (List.length ((((y3.set (Int.toNat y0) (⟨(y3.getD (Int.toNat y0) default).Id, (y3.getD (Int.toNat y0) default).Shelf, (y3.getD (Int.toNat y0) default).Room, y4, (y3.getD (Int.toNat y0) default).Thick⟩ : Carton)).getD (Int.toNat y1) default).Files) ++ ([file] : List Int))))) ((y3.set (Int.toNat y0) (⟨(y3.getD (Int.toNat y0) default).Id, (y3.getD (Int.toNat y0) default).Shelf, (y3.getD (Int.toNat y0) default).Room, y4, (y3.getD (Int.toNat y0) default).Thick⟩ : Carton)).set (Int.toNat y1) (⟨((y3.set (Int.toNat y0) (⟨(y3.getD (Int.toNat y0) default).Id, (y3.getD (Int.toNat y0) default).Shelf, (y3.getD (Int.toNat y0) default).Room, y4, (y3.getD (Int.toNat y0) default).Thick⟩ : Carton)).getD (Int.toNat y1) default).Id, ((y3.set (Int.toNat y0) (⟨(y3.getD (Int.toNat y0) default).Id, (y3.getD (Int.toNat y0) default).Shelf, (y3.getD (Int.toNat y0) default).Room, y4, (y3.getD (Int.toNat y0) default).Thick⟩ : Carton)).getD (Int.toNat y1) default).Shelf, ((y3.set (Int.toNat y0) (⟨(y3.getD (Int.toNat y0) default).Id, (y3.getD (Int.toNat y0) default).Shelf, (y3.getD (Int.toNat y0) default).Room, y4, (y3.getD (Int.toNat y0) default).Thick⟩ : Carton)).getD (Int.toNat y1) default).Room, ((((y3.set (Int.toNat y0) (⟨(y3.getD (Int.toNat y0) default).Id, (y3.getD (Int.toNat y0) default).Shelf, (y3.getD (Int.toNat y0) default).Room, y4, (y3.getD (Int.toNat y0) default).Thick⟩ : Carton)).getD (Int.toNat y1) default).Files) ++ ([file] : List Int)), ((y3.set (Int.toNat y0) (⟨(y3.getD (Int.toNat y0) default).Id, (y3.getD (Int.toNat y0) default).Shelf, (y3.getD (Int.toNat y0) default).Room, y4, (y3.getD (Int.toNat y0) default).Thick⟩ : Carton)).getD (Int.toNat y1) default).Thick⟩ : Carton))⟩), (b0, ⟨1, [.int .i64 file]⟩)]) (A' := [(b5, ⟨1, List.map encInt ([file] : List Int)⟩), (ob0, ⟨5, deepC cellCarton (List.set (List.set ts_73 (Int.toNat y0) (optS 1 ob1 (List.length y4))) (Int.toNat y1) (.sref b6 1 0 (List.length ((((y3.set (Int.toNat y0) (⟨(y3.getD (Int.toNat y0) default).Id, (y3.getD (Int.toNat y0) default).Shelf, (y3.getD (Int.toNat y0) default).Room, y4, (y3.getD (Int.toNat y0) default).Thick⟩ : Carton)).getD (Int.toNat y1) default).Files) ++ ([file] : List Int))))) ((y3.set (Int.toNat y0) (⟨(y3.getD (Int.toNat y0) default).Id, (y3.getD (Int.toNat y0) default).Shelf, (y3.getD (Int.toNat y0) default).Room, y4, (y3.getD (Int.toNat y0) default).Thick⟩ : Carton)).set (Int.toNat y1) (⟨((y3.set (Int.toNat y0) (⟨(y3.getD (Int.toNat y0) default).Id, (y3.getD (Int.toNat y0) default).Shelf, (y3.getD (Int.toNat y0) default).Room, y4, (y3.getD (Int.toNat y0) default).Thick⟩ : Carton)).getD (Int.toNat y1) default).Id, ((y3.set (Int.toNat y0) (⟨(y3.getD (Int.toNat y0) default).Id, (y3.getD (Int.toNat y0) default).Shelf, (y3.getD (Int.toNat y0) default).Room, y4, (y3.getD (Int.toNat y0) default).Thick⟩ : Carton)).getD (Int.toNat y1) default).Shelf, ((y3.set (Int.toNat y0) (⟨(y3.getD (Int.toNat y0) default).Id, (y3.getD (Int.toNat y0) default).Shelf, (y3.getD (Int.toNat y0) default).Room, y4, (y3.getD (Int.toNat y0) default).Thick⟩ : Carton)).getD (Int.toNat y1) default).Room, ((((y3.set (Int.toNat y0) (⟨(y3.getD (Int.toNat y0) default).Id, (y3.getD (Int.toNat y0) default).Shelf, (y3.getD (Int.toNat y0) default).Room, y4, (y3.getD (Int.toNat y0) default).Thick⟩ : Carton)).getD (Int.toNat y1) default).Files) ++ ([file] : List Int)), ((y3.set (Int.toNat y0) (⟨(y3.getD (Int.toNat y0) default).Id, (y3.getD (Int.toNat y0) default).Shelf, (y3.getD (Int.toNat y0) default).Room, y4, (y3.getD (Int.toNat y0) default).Thick⟩ : Carton)).getD (Int.toNat y1) default).Thick⟩ : Carton))⟩), (b0, ⟨1, [.int .i64 file]⟩)]) (os := (os1_108 ++ os2_108)) (os1 := os1_108) (oi := []) (os2 := os2_108) (p := (b6, ⟨1, List.map encInt ((((y3.set (Int.toNat y0) (⟨(y3.getD (Int.toNat y0) default).Id, (y3.getD (Int.toNat y0) default).Shelf, (y3.getD (Int.toNat y0) default).Room, y4, (y3.getD (Int.toNat y0) default).Thick⟩ : Carton)).getD (Int.toNat y1) default).Files) ++ ([file] : List Int))⟩)) rfl rfl rfl rfl) ?_
       have hd_108n := hp_108 (.sref b6 1 0 (List.length ((((y3.set (Int.toNat y0) (⟨(y3.getD (Int.toNat y0) default).Id, (y3.getD (Int.toNat y0) default).Shelf, (y3.getD (Int.toNat y0) default).Room, y4, (y3.getD (Int.toNat y0) default).Thick⟩ : Carton)).getD (Int.toNat y1) default).Files) ++ ([file] : List Int)))) [(b6, ⟨1, List.map encInt ((((y3.set (Int.toNat y0) (⟨(y3.getD (Int.toNat y0) default).Id, (y3.getD (Int.toNat y0) default).Shelf, (y3.getD (Int.toNat y0) default).Room, y4, (y3.getD (Int.toNat y0) default).Thick⟩ : Carton)).getD (Int.toNat y1) default).Files) ++ ([file] : List Int))⟩)] (⟨((y3.set (Int.toNat y0) (⟨(y3.getD (Int.toNat y0) default).Id, (y3.getD (Int.toNat y0) default).Shelf, (y3.getD (Int.toNat y0) default).Room, y4, (y3.getD (Int.toNat y0) default).Thick⟩ : Carton)).getD (Int.toNat y1) default).Id, ((y3.set (Int.toNat y0) (⟨(y3.getD (Int.toNat y0) default).Id, (y3.getD (Int.toNat y0) default).Shelf, (y3.getD (Int.toNat y0) default).Room, y4, (y3.getD (Int.toNat y0) default).Thick⟩ : Carton)).getD (Int.toNat y1) default).Shelf, ((y3.set (Int.toNat y0) (⟨(y3.getD (Int.toNat y0) default).Id, (y3.getD (Int.toNat y0) default).Shelf, (y3.getD (Int.toNat y0) default).Room, y4, (y3.getD (Int.toNat y0) default).Thick⟩ : Carton)).getD (Int.toNat y1) default).Room, ((((y3.set (Int.toNat y0) (⟨(y3.getD (Int.toNat y0) default).Id, (y3.getD (Int.toNat y0) default).Shelf, (y3.getD (Int.toNat y0) default).Room, y4, (y3.getD (Int.toNat y0) default).Thick⟩ : Carton)).getD (Int.toNat y1) default).Files) ++ ([file] : List Int)), ((y3.set (Int.toNat y0) (⟨(y3.getD (Int.toNat y0) default).Id, (y3.getD (Int.toNat y0) default).Shelf, (y3.getD (Int.toNat y0) default).Room, y4, (y3.getD (Int.toNat y0) default).Thick⟩ : Carton)).getD (Int.toNat y1) default).Thick⟩ : Carton) (Deep1.own (by simp))
       refine VO.weakenK (Keeps.say 10 (y := .sref ob0 5 0 (List.length ((y3.set (Int.toNat y0) (⟨(y3.getD (Int.toNat y0) default).Id, (y3.getD (Int.toNat y0) default).Shelf, (y3.getD (Int.toNat y0) default).Room, y4, (y3.getD (Int.toNat y0) default).Thick⟩ : Carton)).set (Int.toNat y1) (⟨((y3.set (Int.toNat y0) (⟨(y3.getD (Int.toNat y0) default).Id, (y3.getD (Int.toNat y0) default).Shelf, (y3.getD (Int.toNat y0) default).Room, y4, (y3.getD (Int.toNat y0) default).Thick⟩ : Carton)).getD (Int.toNat y1) default).Id, ((y3.set (Int.toNat y0) (⟨(y3.getD (Int.toNat y0) default).Id, (y3.getD (Int.toNat y0) default).Shelf, (y3.getD (Int.toNat y0) default).Room, y4, (y3.getD (Int.toNat y0) default).Thick⟩ : Carton)).getD (Int.toNat y1) default).Shelf, ((y3.set (Int.toNat y0) (⟨(y3.getD (Int.toNat y0) default).Id, (y3.getD (Int.toNat y0) default).Shelf, (y3.getD (Int.toNat y0) default).Room, y4, (y3.getD (Int.toNat y0) default).Thick⟩ : Carton)).getD (Int.toNat y1) default).Room, ((((y3.set (Int.toNat y0) (⟨(y3.getD (Int.toNat y0) default).Id, (y3.getD (Int.toNat y0) default).Shelf, (y3.getD (Int.toNat y0) default).Room, y4, (y3.getD (Int.toNat y0) default).Thick⟩ : Carton)).getD (Int.toNat y1) default).Files) ++ ([file] : List Int)), ((y3.set (Int.toNat y0) (⟨(y3.getD (Int.toNat y0) default).Id, (y3.getD (Int.toNat y0) default).Shelf, (y3.getD (Int.toNat y0) default).Room, y4, (y3.getD (Int.toNat y0) default).Thick⟩ : Carton)).getD (Int.toNat y1) default).Thick⟩ : Carton)))) rfl (by simp [optS])) ?_
       refine VO.nil ?_
       exact ⟨(((y3.set (Int.toNat y0) (⟨(y3.getD (Int.toNat y0) default).Id, (y3.getD (Int.toNat y0) default).Shelf, (y3.getD (Int.toNat y0) default).Room, y4, (y3.getD (Int.toNat y0) default).Thick⟩ : Carton)).set (Int.toNat y1) (⟨((y3.set (Int.toNat y0) (⟨(y3.getD (Int.toNat y0) default).Id, (y3.getD (Int.toNat y0) default).Shelf, (y3.getD (Int.toNat y0) default).Room, y4, (y3.getD (Int.toNat y0) default).Thick⟩ : Carton)).getD (Int.toNat y1) default).Id, ((y3.set (Int.toNat y0) (⟨(y3.getD (Int.toNat y0) default).Id, (y3.getD (Int.toNat y0) default).Shelf, (y3.getD (Int.toNat y0) default).Room, y4, (y3.getD (Int.toNat y0) default).Thick⟩ : Carton)).getD (Int.toNat y1) default).Shelf, ((y3.set (Int.toNat y0) (⟨(y3.getD (Int.toNat y0) default).Id, (y3.getD (Int.toNat y0) default).Shelf, (y3.getD (Int.toNat y0) default).Room, y4, (y3.getD (Int.toNat y0) default).Thick⟩ : Carton)).getD (Int.toNat y1) default).Room, ((((y3.set (Int.toNat y0) (⟨(y3.getD (Int.toNat y0) default).Id, (y3.getD (Int.toNat y0) default).Shelf, (y3.getD (Int.toNat y0) default).Room, y4, (y3.getD (Int.toNat y0) default).Thick⟩ : Carton)).getD (Int.toNat y1) default).Files) ++ ([file] : List Int)), ((y3.set (Int.toNat y0) (⟨(y3.getD (Int.toNat y0) default).Id, (y3.getD (Int.toNat y0) default).Shelf, (y3.getD (Int.toNat y0) default).Room, y4, (y3.getD (Int.toNat y0) default).Thick⟩ : Carton)).getD (Int.toNat y1) default).Thick⟩ : Carton)), ((List.set (List.set ts_73 (Int.toNat y0) (optS 1 ob1 (List.length y4))) (Int.toNat y1) (.sref b6 1 0 (List.length ((((y3.set (Int.toNat y0) (⟨(y3.getD (Int.toNat y0) default).Id, (y3.getD (Int.toNat y0) default).Shelf, (y3.getD (Int.toNat y0) default).Room, y4, (y3.getD (Int.toNat y0) default).Thick⟩ : Carton)).getD (Int.toNat y1) default).Files) ++ ([file] : List Int))))), (os1_108 ++ ([(b6, ⟨1, List.map encInt ((((y3.set (Int.toNat y0) (⟨(y3.getD (Int.toNat y0) default).Id, (y3.getD (Int.toNat y0) default).Shelf, (y3.getD (Int.toNat y0) default).Room, y4, (y3.getD (Int.toNat y0) default).Thick⟩ : Carton)).getD (Int.toNat y1) default).Files) ++ ([file] : List Int))⟩)] ++ os2_108)))), ⟨oi hm1, hd_108n⟩, Keeps.mkT (A := [(b5, ⟨1, List.map encInt ([file] : List Int)⟩), (ob0, ⟨5, deepC cellCarton (List.set (List.set ts_73 (Int.toNat y0) (optS 1 ob1 (List.length y4))) (Int.toNat y1) (.sref b6 1 0 (List.length ((((y3.set (Int.toNat y0) (⟨(y3.getD (Int.toNat y0) default).Id, (y3.getD (Int.toNat y0) default).Shelf, (y3.getD (Int.toNat y0) default).Room, y4, (y3.getD (Int.toNat y0) default).Thick⟩ : Carton)).getD (Int.toNat y1) default).Files) ++ ([file] : List Int))))) ((y3.set (Int.toNat y0) (⟨(y3.getD (Int.toNat y0) default).Id, (y3.getD (Int.toNat y0) default).Shelf, (y3.getD (Int.toNat y0) default).Room, y4, (y3.getD (Int.toNat y0) default).Thick⟩ : Carton)).set (Int.toNat y1) (⟨((y3.set (Int.toNat y0) (⟨(y3.getD (Int.toNat y0) default).Id, (y3.getD (Int.toNat y0) default).Shelf, (y3.getD (Int.toNat y0) default).Room, y4, (y3.getD (Int.toNat y0) default).Thick⟩ : Carton)).getD (Int.toNat y1) default).Id, ((y3.set (Int.toNat y0) (⟨(y3.getD (Int.toNat y0) default).Id, (y3.getD (Int.toNat y0) default).Shelf, (y3.getD (Int.toNat y0) default).Room, y4, (y3.getD (Int.toNat y0) default).Thick⟩ : Carton)).getD (Int.toNat y1) default).Shelf, ((y3.set (Int.toNat y0) (⟨(y3.getD (Int.toNat y0) default).Id, (y3.getD (Int.toNat y0) default).Shelf, (y3.getD (Int.toNat y0) default).Room, y4, (y3.getD (Int.toNat y0) default).Thick⟩ : Carton)).getD (Int.toNat y1) default).Room, ((((y3.set (Int.toNat y0) (⟨(y3.getD (Int.toNat y0) default).Id, (y3.getD (Int.toNat y0) default).Shelf, (y3.getD (Int.toNat y0) default).Room, y4, (y3.getD (Int.toNat y0) default).Thick⟩ : Carton)).getD (Int.toNat y1) default).Files) ++ ([file] : List Int)), ((y3.set (Int.toNat y0) (⟨(y3.getD (Int.toNat y0) default).Id, (y3.getD (Int.toNat y0) default).Shelf, (y3.getD (Int.toNat y0) default).Room, y4, (y3.getD (Int.toNat y0) default).Thick⟩ : Carton)).getD (Int.toNat y1) default).Thick⟩ : Carton))⟩), (b0, ⟨1, [.int .i64 file]⟩)]) (T := (os1_108 ++ ([(b6, ⟨1, List.map encInt ((((y3.set (Int.toNat y0) (⟨(y3.getD (Int.toNat y0) default).Id, (y3.getD (Int.toNat y0) default).Shelf, (y3.getD (Int.toNat y0) default).Room, y4, (y3.getD (Int.toNat y0) default).Thick⟩ : Carton)).getD (Int.toNat y1) default).Files) ++ ([file] : List Int))⟩)] ++ os2_108))) (T' := (os1_108 ++ ([(b6, ⟨1, List.map encInt ((((y3.set (Int.toNat y0) (⟨(y3.getD (Int.toNat y0) default).Id, (y3.getD (Int.toNat y0) default).Shelf, (y3.getD (Int.toNat y0) default).Room, y4, (y3.getD (Int.toNat y0) default).Thick⟩ : Carton)).getD (Int.toNat y1) default).Files) ++ ([file] : List Int))⟩)] ++ os2_108))) (H := [(ob0, ⟨5, deepC cellCarton (List.set (List.set ts_73 (Int.toNat y0) (optS 1 ob1 (List.length y4))) (Int.toNat y1) (.sref b6 1 0 (List.length ((((y3.set (Int.toNat y0) (⟨(y3.getD (Int.toNat y0) default).Id, (y3.getD (Int.toNat y0) default).Shelf, (y3.getD (Int.toNat y0) default).Room, y4, (y3.getD (Int.toNat y0) default).Thick⟩ : Carton)).getD (Int.toNat y1) default).Files) ++ ([file] : List Int))))) ((y3.set (Int.toNat y0) (⟨(y3.getD (Int.toNat y0) default).Id, (y3.getD (Int.toNat y0) default).Shelf, (y3.getD (Int.toNat y0) default).Room, y4, (y3.getD (Int.toNat y0) default).Thick⟩ : Carton)).set (Int.toNat y1) (⟨((y3.set (Int.toNat y0) (⟨(y3.getD (Int.toNat y0) default).Id, (y3.getD (Int.toNat y0) default).Shelf, (y3.getD (Int.toNat y0) default).Room, y4, (y3.getD (Int.toNat y0) default).Thick⟩ : Carton)).getD (Int.toNat y1) default).Id, ((y3.set (Int.toNat y0) (⟨(y3.getD (Int.toNat y0) default).Id, (y3.getD (Int.toNat y0) default).Shelf, (y3.getD (Int.toNat y0) default).Room, y4, (y3.getD (Int.toNat y0) default).Thick⟩ : Carton)).getD (Int.toNat y1) default).Shelf, ((y3.set (Int.toNat y0) (⟨(y3.getD (Int.toNat y0) default).Id, (y3.getD (Int.toNat y0) default).Shelf, (y3.getD (Int.toNat y0) default).Room, y4, (y3.getD (Int.toNat y0) default).Thick⟩ : Carton)).getD (Int.toNat y1) default).Room, ((((y3.set (Int.toNat y0) (⟨(y3.getD (Int.toNat y0) default).Id, (y3.getD (Int.toNat y0) default).Shelf, (y3.getD (Int.toNat y0) default).Room, y4, (y3.getD (Int.toNat y0) default).Thick⟩ : Carton)).getD (Int.toNat y1) default).Files) ++ ([file] : List Int)), ((y3.set (Int.toNat y0) (⟨(y3.getD (Int.toNat y0) default).Id, (y3.getD (Int.toNat y0) default).Shelf, (y3.getD (Int.toNat y0) default).Room, y4, (y3.getD (Int.toNat y0) default).Thick⟩ : Carton)).getD (Int.toNat y1) default).Thick⟩ : Carton))⟩)]) (ks := [1]) rfl (by exact ⟨(someSref (by simp)), rfl, trivial⟩) rfl (by exact (⟨_, _, rfl, rfl, rfl⟩)) rfl (List.Sublist.refl _)⟩
   ·
    rintro ⟨out_, ⟨ts_122, os_122⟩⟩ ⟨rfl, hd_122⟩
    try dsimp only at hm0
    refine V.seq ?_
    replace hm0 := asrt_some hm0; rcases hm0 with ⟨hh11, hm0⟩
    replace hm0 := bindO hm0; rcases hm0 with ⟨y5, hh12, hm0⟩
    replace hm0 := asrt_some hm0; rcases hm0 with ⟨hh13, hm0⟩
    refine V.region (VO.cons rfl (V1.mv ?_))
    refine VO.cons rfl (V1.mv ?_)
    refine VO.cons rfl (V1.indexSr rfl rfl esz_39 rfl rfl hh11 lt0 ?_)
    refine VO.cons rfl (V1.fieldRef rfl rfl fo_67_3 rfl lt0 ?_)
    refine VO.cons rfl (V1.loadDeepIn (inn := (fun c_ : Carton => List.map encInt c_.Files)) (cell := cellCarton) (ts := ts_122) (xs := out_) (k := 0) cokCarton rfl rfl tyk_36 rfl rfl hd_122 (by simpa using natLt hh11.1 hh11.2) lt0 ?_)
    obtain ⟨ob_133, os1_133, os2_133, hob_133, ht_133, hos_133, hp_133, hs_133⟩ := Deep.focusM (f := encInt) (g := (fun c_ : Carton => c_.Files)) (Int.toNat y1) hd_122 (by simpa using natLt hh11.1 hh11.2)
    refine VO.weakenK (Keeps.say 62 (y := optS 1 ob_133 (List.length ((out_.getD (Int.toNat y1) default).Files))) rfl ht_133) ?_
    refine VO.cons rfl (V1.callD (A := [(ob0, ⟨5, deepC cellCarton ts_122 out_⟩)]) (os1 := os1_133) (os2 := os2_133) (Hc := optH 1 ob_133 (List.map encInt ((out_.getD (Int.toNat y1) default).Files))) rfl rfl rfl cok_79 rfl (appEq (A := [(ob0, ⟨5, deepC cellCarton ts_122 out_⟩)]) hos_133) (rn + 1) [] [optS 1 ob_133 (List.length ((out_.getD (Int.toNat y1) default).Files))] ⟨_, _, rfl, .same _, rfl⟩ bwNil (ok_slices_Sort_int_int hh12 (oq := ob_133) hob_133) rfl (.inl rfl) lt0 ?_)
    rintro _ _ ⟨rfl, rfl⟩
    have hd_133 := hs_133 (⟨(out_.getD (Int.toNat y1) default).Id, (out_.getD (Int.toNat y1) default).Shelf, (out_.getD (Int.toNat y1) default).Room, y5, (out_.getD (Int.toNat y1) default).Thick⟩ : Carton) hh13
    refine VO.weakenK (Keeps.sayObj 0 (ys := deepC cellCarton ts_122 (out_.set (Int.toNat y1) (⟨(out_.getD (Int.toNat y1) default).Id, (out_.getD (Int.toNat y1) default).Shelf, (out_.getD (Int.toNat y1) default).Room, y5, (out_.getD (Int.toNat y1) default).Thick⟩ : Carton))) rfl (deepC_same (Deep.length hd_122) (fun _ => rfl))) ?_
    refine VO.weakenK (Keeps.say 10 (y := .sref ob0 5 0 (List.length (out_.set (Int.toNat y1) (⟨(out_.getD (Int.toNat y1) default).Id, (out_.getD (Int.toNat y1) default).Shelf, (out_.getD (Int.toNat y1) default).Room, y5, (out_.getD (Int.toNat y1) default).Thick⟩ : Carton)))) rfl (by simp [optS])) ?_
    refine VO.nil (V.keepT 68 [10] [0] (E0 := [(10, .sref ob0 5 0 (List.length (out_.set (Int.toNat y1) (⟨(out_.getD (Int.toNat y1) default).Id, (out_.getD (Int.toNat y1) default).Shelf, (out_.getD (Int.toNat y1) default).Room, y5, (out_.getD (Int.toNat y1) default).Thick⟩ : Carton))))]) (A := [(ob0, ⟨5, deepC cellCarton ts_122 (out_.set (Int.toNat y1) (⟨(out_.getD (Int.toNat y1) default).Id, (out_.getD (Int.toNat y1) default).Shelf, (out_.getD (Int.toNat y1) default).Room, y5, (out_.getD (Int.toNat y1) default).Thick⟩ : Carton))⟩)]) (T := (os1_133 ++ (optH 1 ob_133 (List.map encInt y5) ++ os2_133))) (H0 := [(ob0, ⟨5, deepC cellCarton ts_122 (out_.set (Int.toNat y1) (⟨(out_.getD (Int.toNat y1) default).Id, (out_.getD (Int.toNat y1) default).Shelf, (out_.getD (Int.toNat y1) default).Room, y5, (out_.getD (Int.toNat y1) default).Thick⟩ : Carton))⟩)]) (T' := (os1_133 ++ (optH 1 ob_133 (List.map encInt y5) ++ os2_133))) rfl (⟨_, _, rfl, rfl, rfl⟩) rfl (⟨_, _, rfl, rfl, rfl⟩) rfl (List.Sublist.refl _) ?_)
    refine V.seq (V.seq ?_)
    replace hm0 := bindO hm0; rcases hm0 with ⟨y6, hh14, hm0⟩
    refine V.region (VO.cons rfl (V1.mv ?_))
    refine VO.cons rfl (V1.callL (rn + 1) ([ob0] ++ List.map Prod.fst (os1_133 ++ (optH 1 ob_133 (List.map encInt y5) ++ os2_133))) [.vl (rn + 1) 5 (List.map (encCarton (rn + 1)) (out_.set (Int.toNat y1) (⟨(out_.getD (Int.toNat y1) default).Id, (out_.getD (Int.toNat y1) default).Shelf, (out_.getD (Int.toNat y1) default).Room, y5, (out_.getD (Int.toNat y1) default).Thick⟩ : Carton)))] rfl rfl rfl cok_45 rfl ⟨_, _, rfl, Lend.deep (m := 1) (inn := (fun c_ : Carton => List.map encInt c_.Files)) (cell := cellCarton) cokCarton (ts := ts_122) (os := (os1_133 ++ (optH 1 ob_133 (List.map encInt y5) ++ os2_133))) (xs := (out_.set (Int.toNat y1) (⟨(out_.getD (Int.toNat y1) default).Id, (out_.getD (Int.toNat y1) default).Shelf, (out_.getD (Int.toNat y1) default).Room, y5, (out_.getD (Int.toNat y1) default).Thick⟩ : Carton))) 0 hd_133 rfl (fun _ => roL_map (fun _ => rfl) _) rfl (fun p hp => memTail (A := [(ob0, ⟨5, deepC cellCarton ts_122 (out_.set (Int.toNat y1) (⟨(out_.getD (Int.toNat y1) default).Id, (out_.getD (Int.toNat y1) default).Shelf, (out_.getD (Int.toNat y1) default).Room, y5, (out_.getD (Int.toNat y1) default).Thick⟩ : Carton))⟩)]) (T := (os1_133 ++ (optH 1 ob_133 (List.map encInt y5) ++ os2_133))) hp rfl) (List.mem_append_left _ (.head _)) (fun p hp => List.mem_append_right _ (List.mem_map.2 ⟨p, hp, rfl⟩)), rfl⟩ (bwTail (A := [(ob0, ⟨5, deepC cellCarton ts_122 (out_.set (Int.toNat y1) (⟨(out_.getD (Int.toNat y1) default).Id, (out_.getD (Int.toNat y1) default).Shelf, (out_.getD (Int.toNat y1) default).Room, y5, (out_.getD (Int.toNat y1) default).Thick⟩ : Carton))⟩)]) (T := (os1_133 ++ (optH 1 ob_133 (List.map encInt y5) ++ os2_133))) rfl (bwCons (k := 0) rfl bwNil) (fun p hp => hp)) (ok_impl_AreCartons hh14) rfl (⟨(by first | omega | (dsimp only; omega)), by rintro _ _ ⟨rfl, rfl⟩; exact ⟨rfl, by simp⟩⟩) lt0 ?_)
    rintro _ _ ⟨rfl, rfl⟩
    refine VO.cons rfl (V1.not rfl rfl rfl lt0 ?_)
    refine VO.nil (V.cond rfl (fun hc1 => ?_) (fun hc1 => ?_))
    ·
     replace hm0 := cond_t hc1 hm0
     refine V.seq (V.region (VO.cons rfl (V1.as ?_)))
     refine VO.cons rfl (V1.as ?_)
     refine VO.nil (V.keepT 68 [6, 7] [] (E0 := [(6, .nils), (7, .bool false)]) (A := [(ob0, ⟨5, deepC cellCarton ts_122 (out_.set (Int.toNat y1) (⟨(out_.getD (Int.toNat y1) default).Id, (out_.getD (Int.toNat y1) default).Shelf, (out_.getD (Int.toNat y1) default).Room, y5, (out_.getD (Int.toNat y1) default).Thick⟩ : Carton))⟩)]) (T := (os1_133 ++ (optH 1 ob_133 (List.map encInt y5) ++ os2_133))) (H0 := []) (T' := []) rfl (⟨_, _, rfl, rfl, _, _, rfl, rfl, rfl⟩) rfl (rfl) rfl (List.nil_sublist _) ?_)
     refine V.ret ?_
     obtain rfl := oi hm0
     exact ⟨_, _, ⟨_, _, rfl, rfl, _, _, rfl, rfl, rfl⟩, List.Sublist.refl _, none, [], [], (fun _ => rfl), (Deep.ofNil rfl), rfl, rfl⟩
    ·
     replace hm0 := cond_f hc1 hm0
     refine V.skip ?_
     refine V.seq (V.region (VO.cons rfl (V1.mv ?_)))
     refine VO.cons rfl (V1.as ?_)
     refine VO.cons rfl (V1.as ?_)
     refine VO.nil (V.keepT 68 [6, 7] [0] (E0 := [(6, .sref ob0 5 0 (List.length (out_.set (Int.toNat y1) (⟨(out_.getD (Int.toNat y1) default).Id, (out_.getD (Int.toNat y1) default).Shelf, (out_.getD (Int.toNat y1) default).Room, y5, (out_.getD (Int.toNat y1) default).Thick⟩ : Carton)))), (7, .bool true)]) (A := [(ob0, ⟨5, deepC cellCarton ts_122 (out_.set (Int.toNat y1) (⟨(out_.getD (Int.toNat y1) default).Id, (out_.getD (Int.toNat y1) default).Shelf, (out_.getD (Int.toNat y1) default).Room, y5, (out_.getD (Int.toNat y1) default).Thick⟩ : Carton))⟩)]) (T := (os1_133 ++ (optH 1 ob_133 (List.map encInt y5) ++ os2_133))) (H0 := [(ob0, ⟨5, deepC cellCarton ts_122 (out_.set (Int.toNat y1) (⟨(out_.getD (Int.toNat y1) default).Id, (out_.getD (Int.toNat y1) default).Shelf, (out_.getD (Int.toNat y1) default).Room, y5, (out_.getD (Int.toNat y1) default).Thick⟩ : Carton))⟩)]) (T' := (os1_133 ++ (optH 1 ob_133 (List.map encInt y5) ++ os2_133))) rfl (⟨_, _, rfl, rfl, _, _, rfl, rfl, rfl⟩) rfl (⟨_, _, rfl, rfl, rfl⟩) rfl (List.Sublist.refl _) ?_)
     refine V.ret ?_
     obtain rfl := oi hm0
     exact ⟨_, _, ⟨_, _, rfl, rfl, _, _, rfl, rfl, rfl⟩, List.Sublist.refl _, some ob0, ts_122, (os1_133 ++ (optH 1 ob_133 (List.map encInt y5) ++ os2_133)), (fun e => by cases e), hd_133, rfl, rfl⟩
theorem ok_spec_l18Find {ρ0 σ0 rn : Nat} {list : List Carton} {id_ : Int} {r : Int} (h : M.spec_l18Find list id_ = some r) : Does Try.prog 63 [.vl ρ0 5 (List.map (encCarton σ0) list), .int .i64 id_] [] rn (fun x H => x = .int .i64 r ∧ H = []) := by
 have hm0 := h; clear h; unfold M.spec_l18Find at hm0
 try dsimp only at hm0
 refine Does.intro (N := 20) Try.func63 rfl rfl rfl rfl ?_
 intro w0 S0
 refine V.seq (V.region (VO.cons rfl (V1.as ?_)))
 refine VO.nil (V.seq (V.seq (V.region (VO.cons rfl (V1.as ?_)))))
 refine VO.nil ?_
 replace hm0 := bindO hm0; rcases hm0 with ⟨e0, he1, hm0⟩
 refine V.cutT (D := (Unit) × (Unit)) (fun ⟨_, _⟩ => ⟨20, [], []⟩) (fun ⟨_, _⟩ => (.inl () = e0)) ?_ ?_
 ·
  refine V.block ?_
  refine V.keep 20 [5, 0, 1] [] (E0 := [(5, .int .i64 (0 : Int)), (0, .vl ρ0 5 (List.map (encCarton σ0) list)), (1, .int .i64 id_)]) (H0 := []) rfl (⟨_, _, rfl, rfl, _, _, rfl, rfl, _, _, rfl, rfl, rfl⟩) (rfl) rfl ?_
  refine V.loopE (D := Nat × (Int) × (Unit)) (fun ⟨n0, i, _⟩ => [(5, .int .i64 i)]) (fun ⟨n0, i, _⟩ => []) (fun ⟨n0, i, _⟩ => loopO (M.spec_l18Find_l0 list id_) n0 i = some e0) (fun ⟨n0, _, _⟩ => n0) (rounds, (0 : Int), ()) rfl he1 ?_
  rintro ⟨n0, i, _⟩ hP0
  obtain ⟨m0, y0, rfl, hm1, hl1, hr1⟩ := loop_head hP0
  unfold M.spec_l18Find_l0 at hm1; dsimp only at hm1
  show V _ _ _ ⟨20, [(5, .int .i64 i), (0, .vl ρ0 5 (List.map (encCarton σ0) list)), (1, .int .i64 id_)], []⟩
  refine V.seq (V.seq (V.region (VO.cons rfl (V1.mv ?_))))
  refine VO.cons rfl (V1.mv ?_)
  refine VO.cons rfl (V1.lenMap rfl rfl rfl rfl rfl rfl isl_39 lt0 ?_)
  refine VO.cons rfl (V1.it ?_)
  refine VO.nil (V.cond rfl (fun hc0 => ?_) (fun hc0 => ?_))
  ·
   replace hm1 := cond_t hc0 hm1
   refine V.skip ?_
   refine V.keep 20 [0, 1, 5] [] (E0 := [(0, .vl ρ0 5 (List.map (encCarton σ0) list)), (1, .int .i64 id_), (5, .int .i64 i)]) (H0 := []) rfl (⟨_, _, rfl, rfl, _, _, rfl, rfl, _, _, rfl, rfl, rfl⟩) (rfl) rfl ?_
   refine V.seq (V.block ?_)
   refine V.seq ?_
   replace hm1 := asrt_some hm1; rcases hm1 with ⟨hh0, hm1⟩
   refine V.region (VO.cons rfl (V1.mv ?_))
   refine VO.cons rfl (V1.mv ?_)
   refine VO.cons rfl (V1.indexI rfl rfl esz_39 rfl rfl hh0 lt0 ?_)
   refine VO.cons rfl (V1.fieldPin rfl rfl fo_67_0 rfl lt0 ?_)
   refine VO.cons rfl (V1.loadPin rfl rfl tyk_3 rfl rfl lt0 ?_)
   refine VO.cons rfl (V1.mv ?_)
   refine VO.cons rfl (V1.it ?_)
   refine VO.nil (V.keep 20 [0, 1, 5, 18] [] (E0 := [(0, .vl ρ0 5 (List.map (encCarton σ0) list)), (1, .int .i64 id_), (5, .int .i64 i), (18, .bool (((list.getD (Int.toNat i) default).Id) == id_))]) (H0 := []) rfl (⟨_, _, rfl, rfl, _, _, rfl, rfl, _, _, rfl, rfl, _, _, rfl, rfl, rfl⟩) (rfl) rfl ?_)
   refine V.cond rfl (fun hc1 => ?_) (fun hc1 => ?_)
   ·
    replace hm1 := cond_t hc1 hm1
    refine V.seq (V.region (VO.cons rfl (V1.mv ?_)))
    refine VO.cons rfl (V1.as ?_)
    refine VO.nil (V.ret ?_)
    obtain rfl := hr1 _ (oi hm1).symm
    change some _ = some _ at hm0
    obtain rfl := oi hm0
    exact ⟨_, [], ⟨_, _, rfl, rfl, rfl⟩, List.nil_sublist _, rfl, rfl⟩
   ·
    replace hm1 := cond_f hc1 hm1
    refine V.skip ?_
    refine V.region (VO.cons rfl (V1.mv ?_))
    refine VO.cons rfl (V1.it ?_)
    refine VO.cons rfl (V1.as ?_)
    refine VO.nil ?_
    exact ⟨(m0, (IntKind.i64.wrap (i + (1 : Int))), ()), hl1 _ (oi hm1).symm, Nat.lt_succ_self _, Keeps.mk (ks := []) rfl ⟨rfl, rfl, rfl, trivial⟩ (rfl) rfl⟩
  ·
   replace hm1 := cond_f hc0 hm1
   refine V.exit ?_
   obtain rfl := hr1 _ (oi hm1).symm
   exact ⟨((), ()), rfl, Keeps.mk (ks := []) rfl trivial (rfl) rfl⟩
 ·
  rintro ⟨_, _⟩ rfl
  try dsimp only at hm0
  refine V.seq (V.region (VO.cons rfl (V1.as ?_)))
  refine VO.nil (V.ret ?_)
  obtain rfl := oi hm0
  exact ⟨_, [], ⟨_, _, rfl, rfl, rfl⟩, List.nil_sublist _, rfl, rfl⟩
theorem ok_spec_l1Own {ρ0 rn : Nat} {l : List Int} {r : List Int} (h : M.spec_l1Own l = some r) : Does Try.prog 105 [.vl ρ0 1 (List.map encInt l)] [] rn (fun x H => ∃ (ob0_ : Nat), x = PV.sref ob0_ 1 0 (List.length r) ∧ H = [(ob0_, ⟨1, List.map encInt r⟩)]) := by
 have hm0 := h; clear h; unfold M.spec_l1Own at hm0
 try dsimp only at hm0
 refine Does.intro (N := 6) Try.func105 rfl rfl rfl rfl ?_
 intro w0 S0
 refine V.seq (V.region (VO.cons rfl (V1.as ?_)))
 refine VO.nil (V.seq ?_)
 replace hm0 := asrt_some hm0; rcases hm0 with ⟨hh0, hm0⟩
 refine V.region (VO.cons rfl (V1.buildSliceT (f := encInt) ([] : List Int) rfl rfl esz_36 zk_3 rfl rfl rfl rfl rfl rfl rfl lt0 ?_))
 intro b0
 refine VO.cons rfl (V1.mv ?_)
 refine VO.cons rfl (V1.appendMap (k := 0) (f := encInt) (l := ([] : List Int)) (m := l) rfl rfl rfl rfl rfl esz_36 eby_36 zk_3 rfl rfl rfl (.vl isl_36) hh0 lt0 ?_)
 intro b1
 refine VO.cons rfl (V1.as ?_)
 refine VO.nil (V.keep 6 [2] [0] (E0 := [(2, .sref b1 1 0 (List.length (([] : List Int) ++ l)))]) (H0 := [(b1, ⟨1, List.map encInt (([] : List Int) ++ l)⟩)]) rfl (⟨_, _, rfl, rfl, rfl⟩) (⟨_, _, rfl, rfl, rfl⟩) rfl ?_)
 refine V.ret ?_
 obtain rfl := oi hm0
 exact ⟨_, _, ⟨_, _, rfl, rfl, rfl⟩, List.Sublist.refl _, b1, rfl, rfl⟩
theorem ok_spec_l18Own {rn : Nat} {list : List Carton} {r : List Carton} (h : M.spec_l18Own list = some r) : Does Try.prog 64 [.vl rn 5 (List.map (encCarton rn) list)] [] rn (fun x H => ∃ (ob0_ : Nat), x = PV.sref ob0_ 5 0 (List.length r) ∧ H = [(ob0_, ⟨5, List.map (encCarton rn) r⟩)]) := by
 have hm0 := h; clear h; unfold M.spec_l18Own at hm0
 try dsimp only at hm0
 refine Does.intro (N := 26) Try.func64 rfl rfl rfl rfl ?_
 intro w0 S0
 refine V.seq (V.region (VO.cons rfl (V1.as ?_)))
 refine VO.nil (V.seq (V.region (VO.cons rfl (V1.buildSliceT (f := (encCarton rn)) ([] : List Carton) rfl rfl esz_39 zk_67 rfl rfl rfl rfl rfl rfl rfl lt0 ?_))))
 intro b0
 refine VO.cons rfl (V1.as ?_)
 refine VO.nil (V.seq (V.seq (V.region (VO.cons rfl (V1.as ?_)))))
 refine VO.nil ?_
 replace hm0 := bindO hm0; rcases hm0 with ⟨e0, he1, hm0⟩
 refine V.cutT (D := (List Carton) × (Nat)) (fun ⟨out_, b1⟩ => ⟨26, [(3, .sref b1 5 0 (List.length out_))], [(b1, ⟨5, List.map (encCarton rn) out_⟩)]⟩) (fun ⟨out_, b1⟩ => (out_ = e0)) ?_ ?_
 ·
  refine V.block ?_
  refine V.keep 26 [3, 4, 0] [0] (E0 := [(3, .sref b0 5 0 (List.length ([] : List Carton))), (4, .int .i64 (0 : Int)), (0, .vl rn 5 (List.map (encCarton rn) list))]) (H0 := [(b0, ⟨5, List.map (encCarton rn) ([] : List Carton)⟩)]) rfl (⟨_, _, rfl, rfl, _, _, rfl, rfl, _, _, rfl, rfl, rfl⟩) (⟨_, _, rfl, rfl, rfl⟩) rfl ?_
  refine V.loopE (D := Nat × (List Carton × Int) × (Nat)) (fun ⟨n0, ⟨out_0, i⟩, b2⟩ => [(3, .sref b2 5 0 (List.length out_0)), (4, .int .i64 i)]) (fun ⟨n0, ⟨out_0, i⟩, b2⟩ => [(b2, ⟨5, List.map (encCarton rn) out_0⟩)]) (fun ⟨n0, ⟨out_0, i⟩, b2⟩ => loopO (M.spec_l18Own_l0 list) n0 (out_0, i) = some e0) (fun ⟨n0, _, _⟩ => n0) (rounds, (([] : List Carton), (0 : Int)), b0) rfl he1 ?_
  rintro ⟨n0, ⟨out_0, i⟩, b2⟩ hP0
  obtain ⟨m0, y0, rfl, hm1, hl1, hr1⟩ := loop_head hP0
  unfold M.spec_l18Own_l0 at hm1; dsimp only at hm1
  show V _ _ _ ⟨26, [(3, .sref b2 5 0 (List.length out_0)), (4, .int .i64 i), (0, .vl rn 5 (List.map (encCarton rn) list))], [(b2, ⟨5, List.map (encCarton rn) out_0⟩)]⟩
  refine V.seq (V.seq (V.region (VO.cons rfl (V1.mv ?_))))
  refine VO.cons rfl (V1.mv ?_)
  refine VO.cons rfl (V1.lenMap rfl rfl rfl rfl rfl rfl isl_39 lt0 ?_)
  refine VO.cons rfl (V1.it ?_)
  refine VO.nil (V.cond rfl (fun hc0 => ?_) (fun hc0 => ?_))
  ·
   replace hm1 := cond_t hc0 hm1
   refine V.skip ?_
   refine V.keep 26 [0, 3, 4] [0] (E0 := [(0, .vl rn 5 (List.map (encCarton rn) list)), (3, .sref b2 5 0 (List.length out_0)), (4, .int .i64 i)]) (H0 := [(b2, ⟨5, List.map (encCarton rn) out_0⟩)]) rfl (⟨_, _, rfl, rfl, _, _, rfl, rfl, _, _, rfl, rfl, rfl⟩) (⟨_, _, rfl, rfl, rfl⟩) rfl ?_
   refine V.seq (V.block ?_)
   refine V.seq ?_
   replace hm1 := asrt_some hm1; rcases hm1 with ⟨hh0, hm1⟩
   refine V.region (VO.cons rfl (V1.mv ?_))
   refine VO.cons rfl (V1.mv ?_)
   refine VO.cons rfl (V1.indexI rfl rfl esz_39 rfl rfl hh0 lt0 ?_)
   refine VO.cons rfl (V1.loadPinAll rfl rfl tyk_67 rfl rfl lt0 ?_)
   refine VO.cons rfl (V1.alloc rfl rfl zk_67 lt0 ?_)
   intro b3
   refine VO.cons rfl (V1.storeRefAll (k := 0) rfl rfl tyk_67 rfl rfl rfl rfl rfl rfl ?_)
   refine VO.nil (V.keep 26 [0, 3, 4, 5] [0, 1] (E0 := [(0, .vl rn 5 (List.map (encCarton rn) list)), (3, .sref b2 5 0 (List.length out_0)), (4, .int .i64 i), (5, .ref b3 5 0 0)]) (H0 := [(b3, ⟨5, [encCarton rn (list.getD (Int.toNat i) default)]⟩), (b2, ⟨5, List.map (encCarton rn) out_0⟩)]) rfl (⟨_, _, rfl, rfl, _, _, rfl, rfl, _, _, rfl, rfl, _, _, rfl, rfl, rfl⟩) (⟨_, _, rfl, rfl, _, _, rfl, rfl, rfl⟩) rfl ?_)
   refine V.seq ?_
   replace hm1 := bindO hm1; rcases hm1 with ⟨y1, hh1, hm1⟩
   refine V.region (VO.cons rfl (V1.fieldRef rfl rfl fo_67_3 rfl lt0 ?_))
   refine VO.cons rfl (V1.loadRef (k := 0) rfl rfl tyk_36 rfl rfl rfl rfl rfl lt0 ?_)
   refine VO.cons rfl (V1.call rfl rfl rfl cok_105 rfl (ok_spec_l1Own hh1) rfl lt0 ?_)
   rintro _ _ ⟨b4, rfl, rfl⟩
   refine VO.weakenK (Keeps.freezeG 0 rn [(19, .vl rn 1 (List.map encInt y1))] ([(b3, ⟨5, [encCarton rn (list.getD (Int.toNat i) default)]⟩), (b2, ⟨5, List.map (encCarton rn) out_0⟩)]) (f := encInt) (l := y1) rfl (fun _ => rfl) ⟨⟨_, rfl, .here⟩, trivial⟩ ⟨_, _, rfl, rfl, .inl rfl, ⟨_, _, rfl, rfl, .inl rfl, rfl⟩⟩ rfl iNil) ?_
   refine VO.cons rfl (V1.fieldRef rfl rfl fo_67_3 rfl lt0 ?_)
   refine VO.cons rfl (V1.storeRef (k := 0) rfl rfl tyk_36 rfl rfl rfl rfl rfl rfl rfl rfl rfl ?_)
   refine VO.nil (V.keep 26 [0, 3, 4, 5] [0, 1] (E0 := [(0, .vl rn 5 (List.map (encCarton rn) list)), (3, .sref b2 5 0 (List.length out_0)), (4, .int .i64 i), (5, .ref b3 5 0 0)]) (H0 := [(b3, ⟨5, [.agg [.int .i64 ((list.getD (Int.toNat i) default).Id), .int .i64 ((list.getD (Int.toNat i) default).Shelf), .int .i64 ((list.getD (Int.toNat i) default).Room), .vl rn 1 (List.map encInt y1), .int .i64 ((list.getD (Int.toNat i) default).Thick)]]⟩), (b2, ⟨5, List.map (encCarton rn) out_0⟩)]) rfl (⟨_, _, rfl, rfl, _, _, rfl, rfl, _, _, rfl, rfl, _, _, rfl, rfl, rfl⟩) (⟨_, _, rfl, rfl, _, _, rfl, rfl, rfl⟩) rfl ?_)
   replace hm1 := asrt_some hm1; rcases hm1 with ⟨hh2, hm1⟩
   refine V.region (VO.cons rfl (V1.mv ?_))
   refine VO.cons rfl (V1.loadRefAll (k := 0) rfl rfl tyk_67 rfl rfl rfl rfl rfl lt0 ?_)
   refine VO.cons rfl (V1.buildSliceT (f := (encCarton rn)) ([(⟨(list.getD (Int.toNat i) default).Id, (list.getD (Int.toNat i) default).Shelf, (list.getD (Int.toNat i) default).Room, y1, (list.getD (Int.toNat i) default).Thick⟩ : Carton)] : List Carton) rfl rfl esz_39 zk_67 rfl rfl rfl rfl rfl rfl rfl lt0 ?_)
   intro b5
   refine VO.cons rfl (V1.appendMap (k := 2) (f := (encCarton rn)) (l := out_0) (m := ([(⟨(list.getD (Int.toNat i) default).Id, (list.getD (Int.toNat i) default).Shelf, (list.getD (Int.toNat i) default).Room, y1, (list.getD (Int.toNat i) default).Thick⟩ : Carton)] : List Carton)) rfl rfl rfl rfl rfl esz_39 eby_39 zk_67 rfl rfl rfl (SrcOf.srMap (k := 0) rfl isl_39) hh2 lt0 ?_)
   intro b6
   refine VO.cons rfl (V1.as ?_)
   refine VO.nil (V.keep 26 [0, 3, 4] [0] (E0 := [(0, .vl rn 5 (List.map (encCarton rn) list)), (3, .sref b6 5 0 (List.length (out_0 ++ ([(⟨(list.getD (Int.toNat i) default).Id, (list.getD (Int.toNat i) default).Shelf, (list.getD (Int.toNat i) default).Room, y1, (list.getD (Int.toNat i) default).Thick⟩ : Carton)] : List Carton)))), (4, .int .i64 i)]) (H0 := [(b6, ⟨5, List.map (encCarton rn) (out_0 ++ ([(⟨(list.getD (Int.toNat i) default).Id, (list.getD (Int.toNat i) default).Shelf, (list.getD (Int.toNat i) default).Room, y1, (list.getD (Int.toNat i) default).Thick⟩ : Carton)] : List Carton))⟩)]) rfl (⟨_, _, rfl, rfl, _, _, rfl, rfl, _, _, rfl, rfl, rfl⟩) (⟨_, _, rfl, rfl, rfl⟩) rfl ?_)
   refine V.region (VO.cons rfl (V1.mv ?_))
   refine VO.cons rfl (V1.it ?_)
   refine VO.cons rfl (V1.as ?_)
   refine VO.nil ?_
   exact ⟨(m0, ((out_0 ++ ([(⟨(list.getD (Int.toNat i) default).Id, (list.getD (Int.toNat i) default).Shelf, (list.getD (Int.toNat i) default).Room, y1, (list.getD (Int.toNat i) default).Thick⟩ : Carton)] : List Carton)), (IntKind.i64.wrap (i + (1 : Int)))), b6), hl1 _ (oi hm1).symm, Nat.lt_succ_self _, Keeps.mk (ks := [0]) rfl ⟨rfl, rfl, rfl, trivial⟩ (⟨_, _, rfl, rfl, rfl⟩) rfl⟩
  ·
   replace hm1 := cond_f hc0 hm1
   refine V.exit ?_
   obtain rfl := hr1 _ (oi hm1).symm
   exact ⟨(out_0, b2), rfl, Keeps.mk (ks := [0]) rfl ⟨rfl, trivial⟩ (⟨_, _, rfl, rfl, rfl⟩) rfl⟩
 ·
  rintro ⟨out_, b1⟩ rfl
  try dsimp only at hm0
  refine V.seq (V.region (VO.cons rfl (V1.mv ?_)))
  refine VO.cons rfl (V1.as ?_)
  refine VO.nil (V.keep 26 [2] [0] (E0 := [(2, .sref b1 5 0 (List.length out_))]) (H0 := [(b1, ⟨5, List.map (encCarton rn) out_⟩)]) rfl (⟨_, _, rfl, rfl, rfl⟩) (⟨_, _, rfl, rfl, rfl⟩) rfl ?_)
  refine V.ret ?_
  obtain rfl := oi hm0
  exact ⟨_, _, ⟨_, _, rfl, rfl, rfl⟩, List.Sublist.refl _, b1, rfl, rfl⟩
theorem ok_spec_l18Without {ρ0 rn : Nat} {files : List Int} {file : Int} {r : List Int} (h : M.spec_l18Without files file = some r) : Does Try.prog 81 [.vl ρ0 1 (List.map encInt files), .int .i64 file] [] rn (fun x H => ∃ (ob0_ : Nat), x = PV.sref ob0_ 1 0 (List.length r) ∧ H = [(ob0_, ⟨1, List.map encInt r⟩)]) := by
 have hm0 := h; clear h; unfold M.spec_l18Without at hm0
 try dsimp only at hm0
 refine Does.intro (N := 28) Try.func81 rfl rfl rfl rfl ?_
 intro w0 S0
 refine V.seq (V.region (VO.cons rfl (V1.as ?_)))
 refine VO.nil (V.seq (V.region (VO.cons rfl (V1.buildSliceT (f := encInt) ([] : List Int) rfl rfl esz_36 zk_3 rfl rfl rfl rfl rfl rfl rfl lt0 ?_))))
 intro b0
 refine VO.cons rfl (V1.as ?_)
 refine VO.nil (V.seq (V.seq (V.region (VO.cons rfl (V1.as ?_)))))
 refine VO.nil ?_
 replace hm0 := bindO hm0; rcases hm0 with ⟨e0, he1, hm0⟩
 refine V.cutT (D := (List Int) × (Nat)) (fun ⟨out_, b1⟩ => ⟨28, [(5, .sref b1 1 0 (List.length out_))], [(b1, ⟨1, List.map encInt out_⟩)]⟩) (fun ⟨out_, b1⟩ => (out_ = e0)) ?_ ?_
 ·
  refine V.block ?_
  refine V.keep 28 [5, 6, 0, 1] [0] (E0 := [(5, .sref b0 1 0 (List.length ([] : List Int))), (6, .int .i64 (0 : Int)), (0, .vl ρ0 1 (List.map encInt files)), (1, .int .i64 file)]) (H0 := [(b0, ⟨1, List.map encInt ([] : List Int)⟩)]) rfl (⟨_, _, rfl, rfl, _, _, rfl, rfl, _, _, rfl, rfl, _, _, rfl, rfl, rfl⟩) (⟨_, _, rfl, rfl, rfl⟩) rfl ?_
  refine V.loopE (D := Nat × (List Int × Int) × (Nat)) (fun ⟨n0, ⟨out_0, i⟩, b2⟩ => [(5, .sref b2 1 0 (List.length out_0)), (6, .int .i64 i)]) (fun ⟨n0, ⟨out_0, i⟩, b2⟩ => [(b2, ⟨1, List.map encInt out_0⟩)]) (fun ⟨n0, ⟨out_0, i⟩, b2⟩ => loopO (M.spec_l18Without_l0 files file) n0 (out_0, i) = some e0) (fun ⟨n0, _, _⟩ => n0) (rounds, (([] : List Int), (0 : Int)), b0) rfl he1 ?_
  rintro ⟨n0, ⟨out_0, i⟩, b2⟩ hP0
  obtain ⟨m0, y0, rfl, hm1, hl1, hr1⟩ := loop_head hP0
  unfold M.spec_l18Without_l0 at hm1; dsimp only at hm1
  show V _ _ _ ⟨28, [(5, .sref b2 1 0 (List.length out_0)), (6, .int .i64 i), (0, .vl ρ0 1 (List.map encInt files)), (1, .int .i64 file)], [(b2, ⟨1, List.map encInt out_0⟩)]⟩
  refine V.seq (V.seq (V.region (VO.cons rfl (V1.mv ?_))))
  refine VO.cons rfl (V1.mv ?_)
  refine VO.cons rfl (V1.lenMap rfl rfl rfl rfl rfl rfl isl_36 lt0 ?_)
  refine VO.cons rfl (V1.it ?_)
  refine VO.nil (V.cond rfl (fun hc0 => ?_) (fun hc0 => ?_))
  ·
   replace hm1 := cond_t hc0 hm1
   refine V.skip ?_
   refine V.keep 28 [0, 1, 5, 6] [0] (E0 := [(0, .vl ρ0 1 (List.map encInt files)), (1, .int .i64 file), (5, .sref b2 1 0 (List.length out_0)), (6, .int .i64 i)]) (H0 := [(b2, ⟨1, List.map encInt out_0⟩)]) rfl (⟨_, _, rfl, rfl, _, _, rfl, rfl, _, _, rfl, rfl, _, _, rfl, rfl, rfl⟩) (⟨_, _, rfl, rfl, rfl⟩) rfl ?_
   refine V.seq ?_
   replace hm1 := bindO hm1; rcases hm1 with ⟨j0, hm2, hm1⟩
   refine V.cutT (D := (List Int) × (Nat)) (fun ⟨out_1, b3⟩ => ⟨28, [(5, .sref b3 1 0 (List.length out_1)), (0, .vl ρ0 1 (List.map encInt files)), (1, .int .i64 file), (6, .int .i64 i)], [(b3, ⟨1, List.map encInt out_1⟩)]⟩) (fun ⟨out_1, b3⟩ => (out_1 = j0)) ?_ ?_
   ·
    refine V.block ?_
    refine V.seq ?_
    replace hm2 := asrt_some hm2; rcases hm2 with ⟨hh0, hm2⟩
    refine V.region (VO.cons rfl (V1.mv ?_))
    refine VO.cons rfl (V1.mv ?_)
    refine VO.cons rfl (V1.indexI rfl rfl esz_36 rfl rfl hh0 lt0 ?_)
    refine VO.cons rfl (V1.loadPin rfl rfl tyk_3 rfl rfl lt0 ?_)
    refine VO.cons rfl (V1.mv ?_)
    refine VO.cons rfl (V1.it ?_)
    refine VO.nil (V.keep 28 [0, 1, 5, 6, 19] [0] (E0 := [(0, .vl ρ0 1 (List.map encInt files)), (1, .int .i64 file), (5, .sref b2 1 0 (List.length out_0)), (6, .int .i64 i), (19, .bool ((files.getD (Int.toNat i) default) != file))]) (H0 := [(b2, ⟨1, List.map encInt out_0⟩)]) rfl (⟨_, _, rfl, rfl, _, _, rfl, rfl, _, _, rfl, rfl, _, _, rfl, rfl, _, _, rfl, rfl, rfl⟩) (⟨_, _, rfl, rfl, rfl⟩) rfl ?_)
    refine V.cond rfl (fun hc1 => ?_) (fun hc1 => ?_)
    ·
     replace hm2 := cond_t hc1 hm2
     replace hm2 := asrt_some hm2; rcases hm2 with ⟨hh1, hm2⟩
     replace hm2 := asrt_some hm2; rcases hm2 with ⟨hh2, hm2⟩
     refine V.region (VO.cons rfl (V1.mv ?_))
     refine VO.cons rfl (V1.mv ?_)
     refine VO.cons rfl (V1.mv ?_)
     refine VO.cons rfl (V1.indexI rfl rfl esz_36 rfl rfl hh1 lt0 ?_)
     refine VO.cons rfl (V1.loadPin rfl rfl tyk_3 rfl rfl lt0 ?_)
     refine VO.cons rfl (V1.buildSliceT (f := encInt) ([(files.getD (Int.toNat i) default)] : List Int) rfl rfl esz_36 zk_3 rfl rfl rfl rfl rfl rfl rfl lt0 ?_)
     intro b4
     refine VO.cons rfl (V1.appendMap (k := 1) (f := encInt) (l := out_0) (m := ([(files.getD (Int.toNat i) default)] : List Int)) rfl rfl rfl rfl rfl esz_36 eby_36 zk_3 rfl rfl rfl (SrcOf.srMap (k := 0) rfl isl_36) hh2 lt0 ?_)
     intro b5
     refine VO.cons rfl (V1.as ?_)
     refine VO.nil ?_
     exact ⟨((out_0 ++ ([(files.getD (Int.toNat i) default)] : List Int)), b5), oi hm2, Keeps.mk (ks := [0]) rfl ⟨rfl, rfl, rfl, rfl, trivial⟩ (⟨_, _, rfl, rfl, rfl⟩) rfl⟩
    ·
     replace hm2 := cond_f hc1 hm2
     refine V.skip ?_
     exact ⟨(out_0, b2), oi hm2, Keeps.mk (ks := [0]) rfl ⟨rfl, rfl, rfl, rfl, trivial⟩ (⟨_, _, rfl, rfl, rfl⟩) rfl⟩
   ·
    rintro ⟨out_1, b3⟩ rfl
    try dsimp only at hm1
    refine V.region (VO.cons rfl (V1.mv ?_))
    refine VO.cons rfl (V1.it ?_)
    refine VO.cons rfl (V1.as ?_)
    refine VO.nil ?_
    exact ⟨(m0, (out_1, (IntKind.i64.wrap (i + (1 : Int)))), b3), hl1 _ (oi hm1).symm, Nat.lt_succ_self _, Keeps.mk (ks := [0]) rfl ⟨rfl, rfl, rfl, rfl, trivial⟩ (⟨_, _, rfl, rfl, rfl⟩) rfl⟩
  ·
   replace hm1 := cond_f hc0 hm1
   refine V.exit ?_
   obtain rfl := hr1 _ (oi hm1).symm
   exact ⟨(out_0, b2), rfl, Keeps.mk (ks := [0]) rfl ⟨rfl, trivial⟩ (⟨_, _, rfl, rfl, rfl⟩) rfl⟩
 ·
  rintro ⟨out_, b1⟩ rfl
  try dsimp only at hm0
  refine V.seq (V.region (VO.cons rfl (V1.mv ?_)))
  refine VO.cons rfl (V1.as ?_)
  refine VO.nil (V.keep 28 [4] [0] (E0 := [(4, .sref b1 1 0 (List.length out_))]) (H0 := [(b1, ⟨1, List.map encInt out_⟩)]) rfl (⟨_, _, rfl, rfl, rfl⟩) (⟨_, _, rfl, rfl, rfl⟩) rfl ?_)
  refine V.ret ?_
  obtain rfl := oi hm0
  exact ⟨_, _, ⟨_, _, rfl, rfl, rfl⟩, List.Sublist.refl _, b1, rfl, rfl⟩
theorem ok_spec_l1Put {rn : Nat} {l : List Int} {n : Int} {r : List Int} (h : M.spec_l1Put l n = some r) : Does Try.prog 71 [.vl rn 1 (List.map encInt l), .int .i64 n] [] rn (fun x H => x = .vl rn 1 (List.map encInt r) ∧ H = []) := by
 have hm0 := h; clear h; unfold M.spec_l1Put at hm0
 try dsimp only at hm0
 refine Does.intro (N := 45) Try.func71 rfl rfl rfl rfl ?_
 intro w0 S0
 refine V.seq (V.region (VO.cons rfl (V1.as ?_)))
 refine VO.nil (V.seq (V.region (VO.cons rfl (V1.as ?_))))
 refine VO.nil (V.seq ?_)
 replace hm0 := bindO hm0; rcases hm0 with ⟨e0, he1, hm0⟩
 refine V.cutT (D := (Int) × (Unit)) (fun ⟨k, _⟩ => ⟨45, [(5, .int .i64 k), (0, .vl rn 1 (List.map encInt l)), (1, .int .i64 n)], []⟩) (fun ⟨k, _⟩ => (k = e0)) ?_ ?_
 ·
  refine V.block ?_
  refine V.keep 45 [5, 0, 1] [] (E0 := [(5, .int .i64 (0 : Int)), (0, .vl rn 1 (List.map encInt l)), (1, .int .i64 n)]) (H0 := []) rfl (⟨_, _, rfl, rfl, _, _, rfl, rfl, _, _, rfl, rfl, rfl⟩) (rfl) rfl ?_
  refine V.loopE (D := Nat × (Int) × (Unit)) (fun ⟨n0, k0, _⟩ => [(5, .int .i64 k0)]) (fun ⟨n0, k0, _⟩ => []) (fun ⟨n0, k0, _⟩ => loopO (M.spec_l1Put_l0 l n) n0 k0 = some e0) (fun ⟨n0, _, _⟩ => n0) (rounds, (0 : Int), ()) rfl he1 ?_
  rintro ⟨n0, k0, _⟩ hP0
  obtain ⟨m0, y0, rfl, hm1, hl1, hr1⟩ := loop_head hP0
  unfold M.spec_l1Put_l0 at hm1; dsimp only at hm1
  show V _ _ _ ⟨45, [(5, .int .i64 k0), (0, .vl rn 1 (List.map encInt l)), (1, .int .i64 n)], []⟩
  refine V.seq (V.seq ?_)
  replace hm1 := asrt_some hm1; rcases hm1 with ⟨hh0, hm1⟩
  refine V.region (VO.cons rfl (V1.mv ?_))
  refine VO.cons rfl (V1.mv ?_)
  refine VO.cons rfl (V1.lenMap rfl rfl rfl rfl rfl rfl isl_36 lt0 ?_)
  refine VO.cons rfl (V1.it ?_)
  refine VO.cons rfl (V1.mv ?_)
  apply VO.and (n := 6) rfl rfl rfl rfl rfl rfl lt0 (.none rfl)
  ·
   intro hg0
   refine VO.step (.some rfl rfl rfl) (V1.mv ?_)
   refine VO.step (.some rfl rfl rfl) (V1.mv ?_)
   refine VO.step (.some rfl rfl rfl) (V1.indexI rfl rfl esz_36 rfl rfl (hh0 hg0) lt0 ?_)
   refine VO.step (.some rfl rfl rfl) (V1.loadPin rfl rfl tyk_3 rfl rfl lt0 ?_)
   refine VO.step (.some rfl rfl rfl) (V1.mv ?_)
   refine VO.step (.some rfl rfl rfl) (V1.it ?_)
   exact VO.nil ⟨rfl, rfl, rfl, rfl, .inr ⟨rfl, .inr ⟨rfl, .inr ⟨rfl, .inr ⟨rfl, .inr ⟨rfl, .inr ⟨rfl, .inr ⟨rfl, .inl rfl⟩⟩⟩⟩⟩⟩⟩⟩
  refine VO.nil (V.keep 45 [0, 1, 5, 17] [] (E0 := [(0, .vl rn 1 (List.map encInt l)), (1, .int .i64 n), (5, .int .i64 k0), (17, .bool ((decide (k0 < (l.length : Int))) && (decide ((l.getD (Int.toNat k0) default) < n))))]) (H0 := []) rfl (⟨_, _, rfl, rfl, _, _, rfl, rfl, _, _, rfl, rfl, _, _, rfl, rfl, rfl⟩) (rfl) rfl ?_)
  refine V.cond rfl (fun hc0 => ?_) (fun hc0 => ?_)
  ·
   replace hm1 := cond_t hc0 hm1
   refine V.skip ?_
   refine V.block ?_
   refine V.region (VO.cons rfl (V1.mv ?_))
   refine VO.cons rfl (V1.it ?_)
   refine VO.cons rfl (V1.as ?_)
   refine VO.nil ?_
   exact ⟨(m0, (IntKind.i64.wrap (k0 + (1 : Int))), ()), hl1 _ (oi hm1).symm, Nat.lt_succ_self _, Keeps.mk (ks := []) rfl ⟨rfl, rfl, rfl, trivial⟩ (rfl) rfl⟩
  ·
   replace hm1 := cond_f hc0 hm1
   refine V.exit ?_
   obtain rfl := hr1 _ (oi hm1).symm
   exact ⟨(k0, ()), rfl, Keeps.mk (ks := []) rfl ⟨rfl, rfl, rfl, trivial⟩ (rfl) rfl⟩
 ·
  rintro ⟨k, _⟩ rfl
  try dsimp only at hm0
  refine V.seq (V.seq ?_)
  replace hm0 := asrt_some hm0; rcases hm0 with ⟨hh1, hm0⟩
  refine V.region (VO.cons rfl (V1.mv ?_))
  refine VO.cons rfl (V1.mv ?_)
  refine VO.cons rfl (V1.lenMap rfl rfl rfl rfl rfl rfl isl_36 lt0 ?_)
  refine VO.cons rfl (V1.it ?_)
  refine VO.cons rfl (V1.mv ?_)
  apply VO.and (n := 6) rfl rfl rfl rfl rfl rfl lt0 (.none rfl)
  ·
   intro hg1
   refine VO.step (.some rfl rfl rfl) (V1.mv ?_)
   refine VO.step (.some rfl rfl rfl) (V1.mv ?_)
   refine VO.step (.some rfl rfl rfl) (V1.indexI rfl rfl esz_36 rfl rfl (hh1 hg1) lt0 ?_)
   refine VO.step (.some rfl rfl rfl) (V1.loadPin rfl rfl tyk_3 rfl rfl lt0 ?_)
   refine VO.step (.some rfl rfl rfl) (V1.mv ?_)
   refine VO.step (.some rfl rfl rfl) (V1.it ?_)
   exact VO.nil ⟨rfl, rfl, rfl, rfl, .inr ⟨rfl, .inr ⟨rfl, .inr ⟨rfl, .inr ⟨rfl, .inr ⟨rfl, .inr ⟨rfl, .inr ⟨rfl, .inl rfl⟩⟩⟩⟩⟩⟩⟩⟩
  refine VO.nil (V.keep 45 [0, 1, 5, 31] [] (E0 := [(0, .vl rn 1 (List.map encInt l)), (1, .int .i64 n), (5, .int .i64 k), (31, .bool ((decide (k < (l.length : Int))) && ((l.getD (Int.toNat k) default) == n)))]) (H0 := []) rfl (⟨_, _, rfl, rfl, _, _, rfl, rfl, _, _, rfl, rfl, _, _, rfl, rfl, rfl⟩) (rfl) rfl ?_)
  refine V.cond rfl (fun hc1 => ?_) (fun hc1 => ?_)
  ·
   replace hm0 := cond_t hc1 hm0
   refine V.seq (V.region (VO.cons rfl (V1.mv ?_)))
   refine VO.cons rfl (V1.as ?_)
   refine VO.nil (V.ret ?_)
   obtain rfl := oi hm0
   exact ⟨_, [], ⟨_, _, rfl, rfl, rfl⟩, List.nil_sublist _, rfl, rfl⟩
  ·
   replace hm0 := cond_f hc1 hm0
   refine V.skip ?_
   refine V.seq ?_
   replace hm0 := asrt_some hm0; rcases hm0 with ⟨hh2, hm0⟩
   replace hm0 := asrt_some hm0; rcases hm0 with ⟨hh3, hm0⟩
   replace hm0 := asrt_some hm0; rcases hm0 with ⟨hh4, hm0⟩
   replace hm0 := asrt_some hm0; rcases hm0 with ⟨hh5, hm0⟩
   replace hm0 := asrt_some hm0; rcases hm0 with ⟨hh6, hm0⟩
   replace hm0 := bindO hm0; rcases hm0 with ⟨j0, hm1, hm0⟩
   refine V.cutT (D := (List Int) × (Nat)) (fun ⟨v, b5⟩ => ⟨45, [(4, .sref b5 1 0 (List.length v))], [(b5, ⟨1, List.map encInt v⟩)]⟩) (fun ⟨v, b5⟩ => (v = j0)) ?_ ?_
   ·
    refine V.regionS [] 45 11 [⟨[], true⟩, ⟨[(0, none)], false⟩, ⟨[(5, none)], false⟩, ⟨[(34, some 1), (35, some 2)], false⟩, ⟨[(33, some 0), (36, some 3)], true⟩, ⟨[(1, none)], false⟩, ⟨[(38, some 5)], true⟩, ⟨[(37, some 4), (39, some 6)], true⟩, ⟨[(0, none)], false⟩, ⟨[(5, none)], false⟩, ⟨[(41, some 8), (42, some 9)], false⟩] [(40, some 7), (43, some 10)] 4 (⟨_, rfl, ⟨_, rfl, ⟨_, rfl, ⟨_, rfl, ⟨_, rfl, ⟨_, rfl, ⟨_, rfl, ⟨_, rfl, ⟨_, rfl, ⟨_, rfl, ⟨_, rfl, ⟨rfl, rfl⟩⟩⟩⟩⟩⟩⟩⟩⟩⟩⟩⟩) mixed_orders rfl (by decide +kernel) ?_
    refine WalkP.step (p := ?pv36) 1 rfl rfl rfl rfl rfl (⟨_, _, rfl, rfl, rfl⟩) ?hv36 ?rest36
    case hv36 =>
     intro E1 H1 hI1
     refine (V1.mv ?_)
     exact rfl
    refine WalkP.step (p := ?pv37) 2 rfl rfl rfl rfl rfl (⟨_, _, rfl, rfl, rfl⟩) ?hv37 ?rest37
    case hv37 =>
     intro E1 H1 hI1
     refine (V1.mv ?_)
     exact rfl
    refine WalkP.step (p := ?pv38) 3 rfl rfl rfl rfl rfl (⟨_, _, rfl, rfl, _, _, rfl, rfl, rfl⟩) ?hv38 ?rest38
    case hv38 =>
     intro E1 H1 hI1
     refine (V1.sliceMap (a := (0 : Int)) (b := k) rfl rfl esz_36 rfl (Bnd.none _ _) (Bnd.some rfl (Int.le_trans hh2.1 hh2.2.1) _) hh2 lt0 ?_)
     exact rfl
    refine WalkP.step (p := ?pv39) 5 rfl rfl rfl rfl rfl (⟨_, _, rfl, rfl, rfl⟩) ?hv39 ?rest39
    case hv39 =>
     intro E1 H1 hI1
     refine (V1.mv ?_)
     exact rfl
    refine WalkP.step (p := ?pv40) 8 rfl rfl rfl rfl rfl (⟨_, _, rfl, rfl, rfl⟩) ?hv40 ?rest40
    case hv40 =>
     intro E1 H1 hI1
     refine (V1.mv ?_)
     exact rfl
    refine WalkP.step (p := ?pv41) 9 rfl rfl rfl rfl rfl (⟨_, _, rfl, rfl, rfl⟩) ?hv41 ?rest41
    case hv41 =>
     intro E1 H1 hI1
     refine (V1.mv ?_)
     exact rfl
    refine WalkP.step (p := ?pv42) 10 rfl rfl rfl rfl rfl (⟨_, _, rfl, rfl, _, _, rfl, rfl, rfl⟩) ?hv42 ?rest42
    case hv42 =>
     intro E1 H1 hI1
     refine (V1.sliceMap (a := k) (b := (l.length : Int)) rfl rfl esz_36 rfl (Bnd.some rfl hh5.1 _) (Bnd.none _ _) hh5 lt0 ?_)
     exact rfl
    refine WalkP.nil (NodeS.branch [0, 6] inNil rfl rfl rfl ⟨?_, ?_, trivial⟩)
    ·
     refine ⟨_, _, _, _, rfl, rfl, rfl, (rfl), fun E1 => ?_⟩
     refine (V1.buildSliceT (f := encInt) ([] : List Int) rfl rfl esz_36 zk_3 rfl rfl rfl rfl rfl rfl rfl lt0 ?_)
     intro b6
     refine ⟨_, _, rfl, ?_⟩
     refine WalkP.nil (NodeS.branch [4, 6] inNil rfl rfl rfl ⟨?_, ?_, trivial⟩)
     ·
      refine ⟨_, _, _, _, rfl, rfl, rfl, (⟨_, _, rfl, rfl, _, _, rfl, rfl, rfl⟩), fun E1 => ?_⟩
      refine (V1.appendMap (k := 0) (f := encInt) (l := ([] : List Int)) (m := (slc l (0 : Int) k)) rfl rfl rfl rfl rfl esz_36 eby_36 zk_3 rfl rfl rfl (.vl isl_36) hh3 lt0 ?_)
      intro b7
      refine ⟨_, _, rfl, ?_⟩
      refine WalkP.nil (NodeS.branch [6] inNil rfl rfl rfl ⟨?_, trivial⟩)
      ·
       refine ⟨_, _, _, _, rfl, rfl, rfl, (⟨_, _, rfl, rfl, rfl⟩), fun E1 => ?_⟩
       refine (V1.buildSliceT (f := encInt) ([n] : List Int) rfl rfl esz_36 zk_3 rfl rfl rfl rfl rfl rfl rfl lt0 ?_)
       intro b8
       refine ⟨_, _, rfl, ?_⟩
       refine WalkP.nil (NodeS.branch [7] inNil rfl rfl rfl ⟨?_, trivial⟩)
       ·
        refine ⟨_, _, _, _, rfl, rfl, rfl, (⟨_, _, rfl, rfl, _, _, rfl, rfl, rfl⟩), fun E1 => ?_⟩
        refine (V1.appendMap (k := 1) (f := encInt) (l := (([] : List Int) ++ (slc l (0 : Int) k))) (m := ([n] : List Int)) rfl rfl rfl rfl rfl esz_36 eby_36 zk_3 rfl rfl rfl (SrcOf.srMap (k := 0) rfl isl_36) hh4 lt0 ?_)
        intro b9
        refine ⟨_, _, rfl, ?_⟩
        refine WalkP.nil (NodeS.fin inNil rfl rfl rfl (⟨_, _, rfl, rfl, _, _, rfl, rfl, rfl⟩) ?_)
        refine VO.cons rfl (V1.appendMap (k := 0) (f := encInt) (l := ((([] : List Int) ++ (slc l (0 : Int) k)) ++ ([n] : List Int))) (m := (slc l k (l.length : Int))) rfl rfl rfl rfl rfl esz_36 eby_36 zk_3 rfl rfl rfl (.vl isl_36) hh6 lt0 ?_)
        intro b10
        refine VO.cons rfl (V1.as ?_)
        refine VO.nil ?_
        exact ⟨((((([] : List Int) ++ (slc l (0 : Int) k)) ++ ([n] : List Int)) ++ (slc l k (l.length : Int))), b10), oi hm1, Keeps.mk (ks := [0]) rfl ⟨rfl, trivial⟩ (⟨_, _, rfl, rfl, rfl⟩) rfl⟩
     ·
      refine ⟨_, _, _, _, rfl, rfl, rfl, (⟨_, _, rfl, rfl, rfl⟩), fun E1 => ?_⟩
      refine (V1.buildSliceT (f := encInt) ([n] : List Int) rfl rfl esz_36 zk_3 rfl rfl rfl rfl rfl rfl rfl lt0 ?_)
      intro b11
      refine ⟨_, _, rfl, ?_⟩
      refine WalkP.nil (NodeS.branch [4] inNil rfl rfl rfl ⟨?_, trivial⟩)
      ·
       refine ⟨_, _, _, _, rfl, rfl, rfl, (⟨_, _, rfl, rfl, _, _, rfl, rfl, rfl⟩), fun E1 => ?_⟩
       refine (V1.appendMap (k := 1) (f := encInt) (l := ([] : List Int)) (m := (slc l (0 : Int) k)) rfl rfl rfl rfl rfl esz_36 eby_36 zk_3 rfl rfl rfl (.vl isl_36) hh3 lt0 ?_)
       intro b12
       refine ⟨_, _, rfl, ?_⟩
       refine WalkP.nil (NodeS.branch [7] inNil rfl rfl rfl ⟨?_, trivial⟩)
       ·
        refine ⟨_, _, _, _, rfl, rfl, rfl, (⟨_, _, rfl, rfl, _, _, rfl, rfl, rfl⟩), fun E1 => ?_⟩
        refine (V1.appendMap (k := 0) (f := encInt) (l := (([] : List Int) ++ (slc l (0 : Int) k))) (m := ([n] : List Int)) rfl rfl rfl rfl rfl esz_36 eby_36 zk_3 rfl rfl rfl (SrcOf.srMap (k := 1) rfl isl_36) hh4 lt0 ?_)
        intro b13
        refine ⟨_, _, rfl, ?_⟩
        refine WalkP.nil (NodeS.fin inNil rfl rfl rfl (⟨_, _, rfl, rfl, _, _, rfl, rfl, rfl⟩) ?_)
        refine VO.cons rfl (V1.appendMap (k := 0) (f := encInt) (l := ((([] : List Int) ++ (slc l (0 : Int) k)) ++ ([n] : List Int))) (m := (slc l k (l.length : Int))) rfl rfl rfl rfl rfl esz_36 eby_36 zk_3 rfl rfl rfl (.vl isl_36) hh6 lt0 ?_)
        intro b14
        refine VO.cons rfl (V1.as ?_)
        refine VO.nil ?_
        exact ⟨((((([] : List Int) ++ (slc l (0 : Int) k)) ++ ([n] : List Int)) ++ (slc l k (l.length : Int))), b14), oi hm1, Keeps.mk (ks := [0]) rfl ⟨rfl, trivial⟩ (⟨_, _, rfl, rfl, rfl⟩) rfl⟩
    ·
     refine ⟨_, _, _, _, rfl, rfl, rfl, (⟨_, _, rfl, rfl, rfl⟩), fun E1 => ?_⟩
     refine (V1.buildSliceT (f := encInt) ([n] : List Int) rfl rfl esz_36 zk_3 rfl rfl rfl rfl rfl rfl rfl lt0 ?_)
     intro b15
     refine ⟨_, _, rfl, ?_⟩
     refine WalkP.nil (NodeS.branch [0] inNil rfl rfl rfl ⟨?_, trivial⟩)
     ·
      refine ⟨_, _, _, _, rfl, rfl, rfl, (rfl), fun E1 => ?_⟩
      refine (V1.buildSliceT (f := encInt) ([] : List Int) rfl rfl esz_36 zk_3 rfl rfl rfl rfl rfl rfl rfl lt0 ?_)
      intro b16
      refine ⟨_, _, rfl, ?_⟩
      refine WalkP.nil (NodeS.branch [4] inNil rfl rfl rfl ⟨?_, trivial⟩)
      ·
       refine ⟨_, _, _, _, rfl, rfl, rfl, (⟨_, _, rfl, rfl, _, _, rfl, rfl, rfl⟩), fun E1 => ?_⟩
       refine (V1.appendMap (k := 0) (f := encInt) (l := ([] : List Int)) (m := (slc l (0 : Int) k)) rfl rfl rfl rfl rfl esz_36 eby_36 zk_3 rfl rfl rfl (.vl isl_36) hh3 lt0 ?_)
       intro b17
       refine ⟨_, _, rfl, ?_⟩
       refine WalkP.nil (NodeS.branch [7] inNil rfl rfl rfl ⟨?_, trivial⟩)
       ·
        refine ⟨_, _, _, _, rfl, rfl, rfl, (⟨_, _, rfl, rfl, _, _, rfl, rfl, rfl⟩), fun E1 => ?_⟩
        refine (V1.appendMap (k := 0) (f := encInt) (l := (([] : List Int) ++ (slc l (0 : Int) k))) (m := ([n] : List Int)) rfl rfl rfl rfl rfl esz_36 eby_36 zk_3 rfl rfl rfl (SrcOf.srMap (k := 1) rfl isl_36) hh4 lt0 ?_)
        intro b18
        refine ⟨_, _, rfl, ?_⟩
        refine WalkP.nil (NodeS.fin inNil rfl rfl rfl (⟨_, _, rfl, rfl, _, _, rfl, rfl, rfl⟩) ?_)
        refine VO.cons rfl (V1.appendMap (k := 0) (f := encInt) (l := ((([] : List Int) ++ (slc l (0 : Int) k)) ++ ([n] : List Int))) (m := (slc l k (l.length : Int))) rfl rfl rfl rfl rfl esz_36 eby_36 zk_3 rfl rfl rfl (.vl isl_36) hh6 lt0 ?_)
        intro b19
        refine VO.cons rfl (V1.as ?_)
        refine VO.nil ?_
        exact ⟨((((([] : List Int) ++ (slc l (0 : Int) k)) ++ ([n] : List Int)) ++ (slc l k (l.length : Int))), b19), oi hm1, Keeps.mk (ks := [0]) rfl ⟨rfl, trivial⟩ (⟨_, _, rfl, rfl, rfl⟩) rfl⟩
   ·
    rintro ⟨v, b5⟩ rfl
    try dsimp only at hm0
    refine V.weakenK (Keeps.freezeG 0 rn [(4, .vl rn 1 (List.map encInt v))] ([]) (f := encInt) (l := v) rfl (fun _ => rfl) ⟨⟨_, rfl, .here⟩, trivial⟩ rfl rfl iNil) ?_
    refine V.ret ?_
    obtain rfl := oi hm0
    exact ⟨_, [], ⟨_, _, rfl, rfl, rfl⟩, List.nil_sublist _, rfl, rfl⟩
theorem ok_spec_RefileTo {rn : Nat} {list : List Carton} {file : Int} {id_ : Int} {r : List Carton × Bool} (h : M.spec_RefileTo list file id_ = some r) : Does Try.prog 39 [.vl rn 5 (List.map (encCarton rn) list), .int .i64 file, .int .i64 id_] [] rn (fun x H => ∃ (ob0_ : Nat), x = .tup [PV.sref ob0_ 5 0 (List.length r.1), .bool r.2] ∧ H = [(ob0_, ⟨5, List.map (encCarton rn) r.1⟩)]) := by
 have hm0 := h; clear h; unfold M.spec_RefileTo at hm0
 try dsimp only at hm0
 refine Does.intro (N := 69) Try.func39 rfl rfl rfl rfl ?_
 intro w0 S0
 refine V.seq (V.region (VO.cons rfl (V1.as ?_)))
 refine VO.cons rfl (V1.as ?_)
 refine VO.nil (V.seq ?_)
 replace hm0 := bindO hm0; rcases hm0 with ⟨y0, hh0, hm0⟩
 replace hm0 := bindO hm0; rcases hm0 with ⟨y1, hh1, hm0⟩
 refine V.region (VO.cons rfl (V1.mv ?_))
 refine VO.cons rfl (V1.mv ?_)
 refine VO.cons rfl (V1.call rfl rfl rfl cok_69 rfl (ok_spec_l18Holds hh0) rfl lt0 ?_)
 rintro _ _ ⟨rfl, rfl⟩
 refine VO.cons rfl (V1.mv ?_)
 refine VO.cons rfl (V1.mv ?_)
 refine VO.cons rfl (V1.call rfl rfl rfl cok_63 rfl (ok_spec_l18Find hh1) rfl lt0 ?_)
 rintro _ _ ⟨rfl, rfl⟩
 refine VO.cons rfl (V1.as ?_)
 refine VO.cons rfl (V1.as ?_)
 refine VO.nil (V.keep 69 [0, 1, 8, 9] [] (E0 := [(0, .vl rn 5 (List.map (encCarton rn) list)), (1, .int .i64 file), (8, .int .i64 y0), (9, .int .i64 y1)]) (H0 := []) rfl (⟨_, _, rfl, rfl, _, _, rfl, rfl, _, _, rfl, rfl, _, _, rfl, rfl, rfl⟩) (rfl) rfl ?_)
 refine V.seq (V.seq ?_)
 replace hm0 := bindO hm0; rcases hm0 with ⟨y2, hh2, hm0⟩
 refine V.region (VO.cons rfl (V1.mv ?_))
 refine VO.cons rfl (V1.call rfl rfl rfl cok_60 rfl (ok_spec_l18Good hh2) rfl lt0 ?_)
 rintro _ _ ⟨rfl, rfl⟩
 refine VO.cons rfl (V1.not rfl rfl rfl lt0 ?_)
 refine VO.cons rfl (V1.mv ?_)
 apply VO.or (n := 2) rfl rfl rfl rfl rfl rfl lt0 (.none rfl)
 ·
  intro hg0
  refine VO.step (.some rfl rfl rfl) (V1.mv ?_)
  refine VO.step (.some rfl rfl rfl) (V1.it ?_)
  exact VO.nil ⟨rfl, rfl, rfl, rfl, .inr ⟨rfl, .inr ⟨rfl, .inr ⟨rfl, .inl rfl⟩⟩⟩⟩
 refine VO.cons rfl (V1.mv ?_)
 apply VO.or (n := 2) rfl rfl rfl rfl rfl rfl lt0 (.none rfl)
 ·
  intro hg1
  refine VO.step (.some rfl rfl rfl) (V1.mv ?_)
  refine VO.step (.some rfl rfl rfl) (V1.it ?_)
  exact VO.nil ⟨rfl, rfl, rfl, rfl, .inr ⟨rfl, .inr ⟨rfl, .inr ⟨rfl, .inl rfl⟩⟩⟩⟩
 refine VO.cons rfl (V1.mv ?_)
 apply VO.or (n := 3) rfl rfl rfl rfl rfl rfl lt0 (.none rfl)
 ·
  intro hg2
  refine VO.step (.some rfl rfl rfl) (V1.mv ?_)
  refine VO.step (.some rfl rfl rfl) (V1.mv ?_)
  refine VO.step (.some rfl rfl rfl) (V1.it ?_)
  exact VO.nil ⟨rfl, rfl, rfl, rfl, .inr ⟨rfl, .inr ⟨rfl, .inr ⟨rfl, .inr ⟨rfl, .inl rfl⟩⟩⟩⟩⟩
 refine VO.nil (V.keep 69 [0, 1, 8, 9, 34] [] (E0 := [(0, .vl rn 5 (List.map (encCarton rn) list)), (1, .int .i64 file), (8, .int .i64 y0), (9, .int .i64 y1), (34, .bool ((((!y2) || (decide (y0 < (0 : Int)))) || (decide (y1 < (0 : Int)))) || (y0 == y1)))]) (H0 := []) rfl (⟨_, _, rfl, rfl, _, _, rfl, rfl, _, _, rfl, rfl, _, _, rfl, rfl, _, _, rfl, rfl, rfl⟩) (rfl) rfl ?_)
 refine V.cond rfl (fun hc0 => ?_) (fun hc0 => ?_)
 ·
  replace hm0 := cond_t hc0 hm0
  refine V.seq (V.region (VO.cons rfl (V1.buildSliceT (f := (encCarton rn)) ([] : List Carton) rfl rfl esz_39 zk_67 rfl rfl rfl rfl rfl rfl rfl lt0 ?_)))
  intro b0
  refine VO.cons rfl (V1.as ?_)
  refine VO.cons rfl (V1.as ?_)
  refine VO.nil (V.keep 69 [6, 7] [0] (E0 := [(6, .sref b0 5 0 (List.length ([] : List Carton))), (7, .bool false)]) (H0 := [(b0, ⟨5, List.map (encCarton rn) ([] : List Carton)⟩)]) rfl (⟨_, _, rfl, rfl, _, _, rfl, rfl, rfl⟩) (⟨_, _, rfl, rfl, rfl⟩) rfl ?_)
  refine V.ret ?_
  obtain rfl := oi hm0
  exact ⟨_, _, ⟨_, _, rfl, rfl, _, _, rfl, rfl, rfl⟩, List.Sublist.refl _, b0, rfl, rfl⟩
 ·
  replace hm0 := cond_f hc0 hm0
  refine V.skip ?_
  refine V.seq ?_
  replace hm0 := bindO hm0; rcases hm0 with ⟨y3, hh3, hm0⟩
  refine V.region (VO.cons rfl (V1.mv ?_))
  refine VO.cons rfl (V1.call rfl rfl rfl cok_64 rfl (ok_spec_l18Own hh3) rfl lt0 ?_)
  rintro _ _ ⟨b1, rfl, rfl⟩
  refine VO.cons rfl (V1.as ?_)
  refine VO.nil (V.keep 69 [1, 8, 9, 10] [0] (E0 := [(1, .int .i64 file), (8, .int .i64 y0), (9, .int .i64 y1), (10, .sref b1 5 0 (List.length y3))]) (H0 := [(b1, ⟨5, List.map (encCarton rn) y3⟩)]) rfl (⟨_, _, rfl, rfl, _, _, rfl, rfl, _, _, rfl, rfl, _, _, rfl, rfl, rfl⟩) (⟨_, _, rfl, rfl, rfl⟩) rfl ?_)
  refine V.seq ?_
  replace hm0 := asrt_some hm0; rcases hm0 with ⟨hh4, hm0⟩
  replace hm0 := asrt_some hm0; rcases hm0 with ⟨hh5, hm0⟩
  replace hm0 := bindO hm0; rcases hm0 with ⟨j0, hm1, hm0⟩
  refine V.cutT (D := (Unit) × (Nat × Nat)) (fun ⟨_, ⟨b4, b5⟩⟩ => ⟨69, [(11, .ref b4 5 0 0), (12, .ref b5 5 0 0), (1, .int .i64 file), (8, .int .i64 y0), (9, .int .i64 y1), (10, .sref b1 5 0 (List.length y3))], [(b4, ⟨5, [encCarton rn (y3.getD (Int.toNat y0) default)]⟩), (b5, ⟨5, [encCarton rn (y3.getD (Int.toNat y1) default)]⟩), (b1, ⟨5, List.map (encCarton rn) y3⟩)]⟩) (fun ⟨_, ⟨b4, b5⟩⟩ => (() = j0)) ?_ ?_
  ·
   refine V.regionS [(b1, ⟨5, List.map (encCarton rn) y3⟩)] 69 11 [⟨[(10, none)], false⟩, ⟨[(8, none)], false⟩, ⟨[(38, some 0), (39, some 1)], false⟩, ⟨[(40, some 2)], false⟩, ⟨[(10, none)], false⟩, ⟨[(9, none)], false⟩, ⟨[(42, some 4), (43, some 5)], false⟩, ⟨[(44, some 6)], false⟩, ⟨[], true⟩, ⟨[], true⟩, ⟨[(11, some 8), (41, some 3)], true⟩] [(1, none), (8, none), (9, none), (10, none), (11, some 8), (12, some 9), (45, some 7)] 3 (⟨_, rfl, ⟨_, rfl, ⟨_, rfl, ⟨_, rfl, ⟨_, rfl, ⟨_, rfl, ⟨_, rfl, ⟨_, rfl, ⟨_, rfl, ⟨_, rfl, ⟨_, rfl, ⟨rfl, rfl⟩⟩⟩⟩⟩⟩⟩⟩⟩⟩⟩⟩) mixed_orders rfl (by decide +kernel) ?_
   refine WalkP.step (p := ?pv69) 0 rfl rfl rfl rfl rfl (⟨_, _, rfl, rfl, rfl⟩) ?hv69 ?rest69
   case hv69 =>
    intro E1 H1 hI1
    refine (V1.mv ?_)
    exact rfl
   refine WalkP.step (p := ?pv70) 1 rfl rfl rfl rfl rfl (⟨_, _, rfl, rfl, rfl⟩) ?hv70 ?rest70
   case hv70 =>
    intro E1 H1 hI1
    refine (V1.mv ?_)
    exact rfl
   refine WalkP.step (p := ?pv71) 2 rfl rfl rfl rfl rfl (⟨_, _, rfl, rfl, _, _, rfl, rfl, rfl⟩) ?hv71 ?rest71
   case hv71 =>
    intro E1 H1 hI1
    refine (V1.indexSr rfl rfl esz_39 rfl rfl hh4 lt0 ?_)
    exact rfl
   refine WalkP.step (p := ?pv72) 3 rfl rfl rfl rfl rfl (⟨_, _, rfl, rfl, rfl⟩) ?hv72 ?rest72
   case hv72 =>
    intro E1 H1 hI1
    obtain ⟨k73_, hk73_⟩ := inGet 0 rfl hI1
    refine (V1.loadMapAll (k := k73_) (f := (encCarton rn)) rfl rfl tyk_67 rfl hk73_ (by simpa using natLt hh4.1 hh4.2) rfl lt0 ?_)
    exact rfl
   refine WalkP.step (p := ?pv74) 4 rfl rfl rfl rfl rfl (⟨_, _, rfl, rfl, rfl⟩) ?hv74 ?rest74
   case hv74 =>
    intro E1 H1 hI1
    refine (V1.mv ?_)
    exact rfl
   refine WalkP.step (p := ?pv75) 5 rfl rfl rfl rfl rfl (⟨_, _, rfl, rfl, rfl⟩) ?hv75 ?rest75
   case hv75 =>
    intro E1 H1 hI1
    refine (V1.mv ?_)
    exact rfl
   refine WalkP.step (p := ?pv76) 6 rfl rfl rfl rfl rfl (⟨_, _, rfl, rfl, _, _, rfl, rfl, rfl⟩) ?hv76 ?rest76
   case hv76 =>
    intro E1 H1 hI1
    refine (V1.indexSr rfl rfl esz_39 rfl rfl hh5 lt0 ?_)
    exact rfl
   refine WalkP.step (p := ?pv77) 7 rfl rfl rfl rfl rfl (⟨_, _, rfl, rfl, rfl⟩) ?hv77 ?rest77
   case hv77 =>
    intro E1 H1 hI1
    obtain ⟨k78_, hk78_⟩ := inGet 0 rfl hI1
    refine (V1.loadMapAll (k := k78_) (f := (encCarton rn)) rfl rfl tyk_67 rfl hk78_ (by simpa using natLt hh5.1 hh5.2) rfl lt0 ?_)
    exact rfl
   refine WalkP.nil (NodeS.branch [8, 9] (inCons 0 rfl inNil) rfl rfl rfl ⟨?_, ?_, trivial⟩)
   ·
    refine ⟨_, _, _, _, rfl, rfl, rfl, (rfl), fun E1 => ?_⟩
    refine (V1.alloc rfl rfl zk_67 lt0 ?_)
    intro b6
    refine ⟨_, _, rfl, ?_⟩
    refine WalkP.nil (NodeS.branch [9] (inCons 1 rfl inNil) rfl rfl rfl ⟨?_, trivial⟩)
    ·
     refine ⟨_, _, _, _, rfl, rfl, rfl, (rfl), fun E1 => ?_⟩
     refine (V1.alloc rfl rfl zk_67 lt0 ?_)
     intro b7
     refine ⟨_, _, rfl, ?_⟩
     refine WalkP.nil (NodeS.branch [10] (inCons 2 rfl inNil) rfl rfl rfl ⟨?_, trivial⟩)
     ·
      refine ⟨_, _, _, _, rfl, rfl, rfl, (⟨_, _, rfl, rfl, _, _, rfl, rfl, rfl⟩), fun E1 => ?_⟩
      refine (V1.storeRefAll (k := 1) rfl rfl tyk_67 rfl rfl rfl rfl rfl rfl ?_)
      refine ⟨.undef, _, rfl, ?_⟩
      refine WalkP.nil (NodeS.fin (inCons 2 rfl inNil) rfl rfl rfl (⟨_, _, rfl, rfl, _, _, rfl, rfl, _, _, rfl, rfl, _, _, rfl, rfl, _, _, rfl, rfl, _, _, rfl, rfl, _, _, rfl, rfl, rfl⟩) ?_)
      refine VO.cons rfl (V1.storeRefAll (k := 0) rfl rfl tyk_67 rfl rfl rfl rfl rfl rfl ?_)
      refine VO.nil ?_
      exact ⟨((), (b6, b7)), oi hm1, Keeps.mk (ks := [1, 0, 2]) rfl ⟨rfl, rfl, rfl, rfl, rfl, rfl, trivial⟩ (⟨_, _, rfl, rfl, _, _, rfl, rfl, _, _, rfl, rfl, rfl⟩) rfl⟩
   ·
    refine ⟨_, _, _, _, rfl, rfl, rfl, (rfl), fun E1 => ?_⟩
    refine (V1.alloc rfl rfl zk_67 lt0 ?_)
    intro b8
    refine ⟨_, _, rfl, ?_⟩
    refine WalkP.nil (NodeS.branch [8] (inCons 1 rfl inNil) rfl rfl rfl ⟨?_, trivial⟩)
    ·
     refine ⟨_, _, _, _, rfl, rfl, rfl, (rfl), fun E1 => ?_⟩
     refine (V1.alloc rfl rfl zk_67 lt0 ?_)
     intro b9
     refine ⟨_, _, rfl, ?_⟩
     refine WalkP.nil (NodeS.branch [10] (inCons 2 rfl inNil) rfl rfl rfl ⟨?_, trivial⟩)
     ·
      refine ⟨_, _, _, _, rfl, rfl, rfl, (⟨_, _, rfl, rfl, _, _, rfl, rfl, rfl⟩), fun E1 => ?_⟩
      refine (V1.storeRefAll (k := 0) rfl rfl tyk_67 rfl rfl rfl rfl rfl rfl ?_)
      refine ⟨.undef, _, rfl, ?_⟩
      refine WalkP.nil (NodeS.fin (inCons 2 rfl inNil) rfl rfl rfl (⟨_, _, rfl, rfl, _, _, rfl, rfl, _, _, rfl, rfl, _, _, rfl, rfl, _, _, rfl, rfl, _, _, rfl, rfl, _, _, rfl, rfl, rfl⟩) ?_)
      refine VO.cons rfl (V1.storeRefAll (k := 1) rfl rfl tyk_67 rfl rfl rfl rfl rfl rfl ?_)
      refine VO.nil ?_
      exact ⟨((), (b9, b8)), oi hm1, Keeps.mk (ks := [0, 1, 2]) rfl ⟨rfl, rfl, rfl, rfl, rfl, rfl, trivial⟩ (⟨_, _, rfl, rfl, _, _, rfl, rfl, _, _, rfl, rfl, rfl⟩) rfl⟩
  ·
   rintro ⟨_, ⟨b4, b5⟩⟩ rfl
   try dsimp only at hm0
   refine V.seq ?_
   replace hm0 := bindO hm0; rcases hm0 with ⟨y4, hh6, hm0⟩
   refine V.region (VO.cons rfl (V1.fieldRef rfl rfl fo_67_3 rfl lt0 ?_))
   refine VO.cons rfl (V1.loadRef (k := 0) rfl rfl tyk_36 rfl rfl rfl rfl rfl lt0 ?_)
   refine VO.cons rfl (V1.mv ?_)
   refine VO.cons rfl (V1.call rfl rfl rfl cok_81 rfl (ok_spec_l18Without hh6) rfl lt0 ?_)
   rintro _ _ ⟨b10, rfl, rfl⟩
   refine VO.weakenK (Keeps.freezeG 0 rn [(49, .vl rn 1 (List.map encInt y4))] ([(b4, ⟨5, [encCarton rn (y3.getD (Int.toNat y0) default)]⟩), (b5, ⟨5, [encCarton rn (y3.getD (Int.toNat y1) default)]⟩), (b1, ⟨5, List.map (encCarton rn) y3⟩)]) (f := encInt) (l := y4) rfl (fun _ => rfl) ⟨⟨_, rfl, .here⟩, trivial⟩ ⟨_, _, rfl, rfl, .inl rfl, ⟨_, _, rfl, rfl, .inl rfl, ⟨_, _, rfl, rfl, .inl rfl, rfl⟩⟩⟩ rfl iNil) ?_
   refine VO.cons rfl (V1.fieldRef rfl rfl fo_67_3 rfl lt0 ?_)
   refine VO.cons rfl (V1.storeRef (k := 0) rfl rfl tyk_36 rfl rfl rfl rfl rfl rfl rfl rfl rfl ?_)
   refine VO.nil (V.keep 69 [1, 8, 9, 10, 11, 12] [0, 1, 2] (E0 := [(1, .int .i64 file), (8, .int .i64 y0), (9, .int .i64 y1), (10, .sref b1 5 0 (List.length y3)), (11, .ref b4 5 0 0), (12, .ref b5 5 0 0)]) (H0 := [(b4, ⟨5, [.agg [.int .i64 ((y3.getD (Int.toNat y0) default).Id), .int .i64 ((y3.getD (Int.toNat y0) default).Shelf), .int .i64 ((y3.getD (Int.toNat y0) default).Room), .vl rn 1 (List.map encInt y4), .int .i64 ((y3.getD (Int.toNat y0) default).Thick)]]⟩), (b5, ⟨5, [encCarton rn (y3.getD (Int.toNat y1) default)]⟩), (b1, ⟨5, List.map (encCarton rn) y3⟩)]) rfl (⟨_, _, rfl, rfl, _, _, rfl, rfl, _, _, rfl, rfl, _, _, rfl, rfl, _, _, rfl, rfl, _, _, rfl, rfl, rfl⟩) (⟨_, _, rfl, rfl, _, _, rfl, rfl, _, _, rfl, rfl, rfl⟩) rfl ?_)
   refine V.seq ?_
   replace hm0 := bindO hm0; rcases hm0 with ⟨y5, hh7, hm0⟩
   refine V.region (VO.cons rfl (V1.fieldRef rfl rfl fo_67_3 rfl lt0 ?_))
   refine VO.cons rfl (V1.loadRef (k := 1) rfl rfl tyk_36 rfl rfl rfl rfl rfl lt0 ?_)
   refine VO.cons rfl (V1.mv ?_)
   refine VO.cons rfl (V1.call rfl rfl rfl cok_71 rfl (ok_spec_l1Put hh7) rfl lt0 ?_)
   rintro _ _ ⟨rfl, rfl⟩
   refine VO.cons rfl (V1.fieldRef rfl rfl fo_67_3 rfl lt0 ?_)
   refine VO.cons rfl (V1.storeRef (k := 1) rfl rfl tyk_36 rfl rfl rfl rfl rfl rfl rfl rfl rfl ?_)
   refine VO.nil (V.keep 69 [8, 9, 10, 11, 12] [0, 1, 2] (E0 := [(8, .int .i64 y0), (9, .int .i64 y1), (10, .sref b1 5 0 (List.length y3)), (11, .ref b4 5 0 0), (12, .ref b5 5 0 0)]) (H0 := [(b4, ⟨5, [.agg [.int .i64 ((y3.getD (Int.toNat y0) default).Id), .int .i64 ((y3.getD (Int.toNat y0) default).Shelf), .int .i64 ((y3.getD (Int.toNat y0) default).Room), .vl rn 1 (List.map encInt y4), .int .i64 ((y3.getD (Int.toNat y0) default).Thick)]]⟩), (b5, ⟨5, [.agg [.int .i64 ((y3.getD (Int.toNat y1) default).Id), .int .i64 ((y3.getD (Int.toNat y1) default).Shelf), .int .i64 ((y3.getD (Int.toNat y1) default).Room), .vl rn 1 (List.map encInt y5), .int .i64 ((y3.getD (Int.toNat y1) default).Thick)]]⟩), (b1, ⟨5, List.map (encCarton rn) y3⟩)]) rfl (⟨_, _, rfl, rfl, _, _, rfl, rfl, _, _, rfl, rfl, _, _, rfl, rfl, _, _, rfl, rfl, rfl⟩) (⟨_, _, rfl, rfl, _, _, rfl, rfl, _, _, rfl, rfl, rfl⟩) rfl ?_)
   refine V.seq ?_
   replace hm0 := asrt_some hm0; rcases hm0 with ⟨hh8, hm0⟩
   refine V.region (VO.cons rfl (V1.mv ?_))
   refine VO.cons rfl (V1.mv ?_)
   refine VO.cons rfl (V1.loadRefAll (k := 0) rfl rfl tyk_67 rfl rfl rfl rfl rfl lt0 ?_)
   refine VO.cons rfl (V1.indexSr rfl rfl esz_39 rfl rfl hh8 lt0 ?_)
   refine VO.cons rfl (V1.storeMap (k := 2) (f := (encCarton rn)) (x := (⟨(y3.getD (Int.toNat y0) default).Id, (y3.getD (Int.toNat y0) default).Shelf, (y3.getD (Int.toNat y0) default).Room, y4, (y3.getD (Int.toNat y0) default).Thick⟩ : Carton)) rfl rfl tyk_67 rfl rfl (by simpa using natLt hh8.1 hh8.2) rfl rfl ?_)
   refine VO.weakenK (Keeps.say 10 (y := .sref b1 5 0 (List.length (y3.set (Int.toNat y0) (⟨(y3.getD (Int.toNat y0) default).Id, (y3.getD (Int.toNat y0) default).Shelf, (y3.getD (Int.toNat y0) default).Room, y4, (y3.getD (Int.toNat y0) default).Thick⟩ : Carton)))) rfl (by simp [optS])) ?_
   refine VO.nil (V.keep 69 [9, 10, 12] [1, 2] (E0 := [(9, .int .i64 y1), (10, .sref b1 5 0 (List.length (y3.set (Int.toNat y0) (⟨(y3.getD (Int.toNat y0) default).Id, (y3.getD (Int.toNat y0) default).Shelf, (y3.getD (Int.toNat y0) default).Room, y4, (y3.getD (Int.toNat y0) default).Thick⟩ : Carton)))), (12, .ref b5 5 0 0)]) (H0 := [(b5, ⟨5, [.agg [.int .i64 ((y3.getD (Int.toNat y1) default).Id), .int .i64 ((y3.getD (Int.toNat y1) default).Shelf), .int .i64 ((y3.getD (Int.toNat y1) default).Room), .vl rn 1 (List.map encInt y5), .int .i64 ((y3.getD (Int.toNat y1) default).Thick)]]⟩), (b1, ⟨5, List.map (encCarton rn) (y3.set (Int.toNat y0) (⟨(y3.getD (Int.toNat y0) default).Id, (y3.getD (Int.toNat y0) default).Shelf, (y3.getD (Int.toNat y0) default).Room, y4, (y3.getD (Int.toNat y0) default).Thick⟩ : Carton))⟩)]) rfl (⟨_, _, rfl, rfl, _, _, rfl, rfl, _, _, rfl, rfl, rfl⟩) (⟨_, _, rfl, rfl, _, _, rfl, rfl, rfl⟩) rfl ?_)
   refine V.seq ?_
   replace hm0 := asrt_some hm0; rcases hm0 with ⟨hh9, hm0⟩
   refine V.region (VO.cons rfl (V1.mv ?_))
   refine VO.cons rfl (V1.mv ?_)
   refine VO.cons rfl (V1.loadRefAll (k := 0) rfl rfl tyk_67 rfl rfl rfl rfl rfl lt0 ?_)
   refine VO.cons rfl (V1.indexSr rfl rfl esz_39 rfl rfl hh9 lt0 ?_)
   refine VO.cons rfl (V1.storeMap (k := 1) (f := (encCarton rn)) (x := (⟨(y3.getD (Int.toNat y1) default).Id, (y3.getD (Int.toNat y1) default).Shelf, (y3.getD (Int.toNat y1) default).Room, y5, (y3.getD (Int.toNat y1) default).Thick⟩ : Carton)) rfl rfl tyk_67 rfl rfl (by simpa using natLt hh9.1 hh9.2) rfl rfl ?_)
   refine VO.weakenK (Keeps.say 10 (y := .sref b1 5 0 (List.length ((y3.set (Int.toNat y0) (⟨(y3.getD (Int.toNat y0) default).Id, (y3.getD (Int.toNat y0) default).Shelf, (y3.getD (Int.toNat y0) default).Room, y4, (y3.getD (Int.toNat y0) default).Thick⟩ : Carton)).set (Int.toNat y1) (⟨(y3.getD (Int.toNat y1) default).Id, (y3.getD (Int.toNat y1) default).Shelf, (y3.getD (Int.toNat y1) default).Room, y5, (y3.getD (Int.toNat y1) default).Thick⟩ : Carton)))) rfl (by simp [optS])) ?_
   refine VO.nil (V.keep 69 [10] [1] (E0 := [(10, .sref b1 5 0 (List.length ((y3.set (Int.toNat y0) (⟨(y3.getD (Int.toNat y0) default).Id, (y3.getD (Int.toNat y0) default).Shelf, (y3.getD (Int.toNat y0) default).Room, y4, (y3.getD (Int.toNat y0) default).Thick⟩ : Carton)).set (Int.toNat y1) (⟨(y3.getD (Int.toNat y1) default).Id, (y3.getD (Int.toNat y1) default).Shelf, (y3.getD (Int.toNat y1) default).Room, y5, (y3.getD (Int.toNat y1) default).Thick⟩ : Carton))))]) (H0 := [(b1, ⟨5, List.map (encCarton rn) ((y3.set (Int.toNat y0) (⟨(y3.getD (Int.toNat y0) default).Id, (y3.getD (Int.toNat y0) default).Shelf, (y3.getD (Int.toNat y0) default).Room, y4, (y3.getD (Int.toNat y0) default).Thick⟩ : Carton)).set (Int.toNat y1) (⟨(y3.getD (Int.toNat y1) default).Id, (y3.getD (Int.toNat y1) default).Shelf, (y3.getD (Int.toNat y1) default).Room, y5, (y3.getD (Int.toNat y1) default).Thick⟩ : Carton))⟩)]) rfl (⟨_, _, rfl, rfl, rfl⟩) (⟨_, _, rfl, rfl, rfl⟩) rfl ?_)
   refine V.seq (V.seq ?_)
   replace hm0 := bindO hm0; rcases hm0 with ⟨y6, hh10, hm0⟩
   refine V.region (VO.cons rfl (V1.mv ?_))
   refine VO.cons rfl (V1.callL (rn + 1) [b1] [.vl (rn + 1) 5 (List.map (encCarton rn) ((y3.set (Int.toNat y0) (⟨(y3.getD (Int.toNat y0) default).Id, (y3.getD (Int.toNat y0) default).Shelf, (y3.getD (Int.toNat y0) default).Room, y4, (y3.getD (Int.toNat y0) default).Thick⟩ : Carton)).set (Int.toNat y1) (⟨(y3.getD (Int.toNat y1) default).Id, (y3.getD (Int.toNat y1) default).Shelf, (y3.getD (Int.toNat y1) default).Room, y5, (y3.getD (Int.toNat y1) default).Thick⟩ : Carton)))] rfl rfl rfl cok_60 rfl ⟨_, _, rfl, Lend.srMap 0 rfl (fun _ => rfl) (.head _), rfl⟩ (bwCons (k := 0) rfl bwNil) (ok_spec_l18Good hh10) rfl (⟨(by first | omega | (dsimp only; omega)), by rintro _ _ ⟨rfl, rfl⟩; exact ⟨rfl, by simp⟩⟩) lt0 ?_)
   rintro _ _ ⟨rfl, rfl⟩
   refine VO.cons rfl (V1.not rfl rfl rfl lt0 ?_)
   refine VO.nil (V.cond rfl (fun hc1 => ?_) (fun hc1 => ?_))
   ·
    replace hm0 := cond_t hc1 hm0
    refine V.seq (V.region (VO.cons rfl (V1.buildSliceT (f := (encCarton rn)) ([] : List Carton) rfl rfl esz_39 zk_67 rfl rfl rfl rfl rfl rfl rfl lt0 ?_)))
    intro b11
    refine VO.cons rfl (V1.as ?_)
    refine VO.cons rfl (V1.as ?_)
    refine VO.nil (V.keep 69 [6, 7] [0] (E0 := [(6, .sref b11 5 0 (List.length ([] : List Carton))), (7, .bool false)]) (H0 := [(b11, ⟨5, List.map (encCarton rn) ([] : List Carton)⟩)]) rfl (⟨_, _, rfl, rfl, _, _, rfl, rfl, rfl⟩) (⟨_, _, rfl, rfl, rfl⟩) rfl ?_)
    refine V.ret ?_
    obtain rfl := oi hm0
    exact ⟨_, _, ⟨_, _, rfl, rfl, _, _, rfl, rfl, rfl⟩, List.Sublist.refl _, b11, rfl, rfl⟩
   ·
    replace hm0 := cond_f hc1 hm0
    refine V.skip ?_
    refine V.seq (V.region (VO.cons rfl (V1.mv ?_)))
    refine VO.cons rfl (V1.as ?_)
    refine VO.cons rfl (V1.as ?_)
    refine VO.nil (V.keep 69 [6, 7] [0] (E0 := [(6, .sref b1 5 0 (List.length ((y3.set (Int.toNat y0) (⟨(y3.getD (Int.toNat y0) default).Id, (y3.getD (Int.toNat y0) default).Shelf, (y3.getD (Int.toNat y0) default).Room, y4, (y3.getD (Int.toNat y0) default).Thick⟩ : Carton)).set (Int.toNat y1) (⟨(y3.getD (Int.toNat y1) default).Id, (y3.getD (Int.toNat y1) default).Shelf, (y3.getD (Int.toNat y1) default).Room, y5, (y3.getD (Int.toNat y1) default).Thick⟩ : Carton)))), (7, .bool true)]) (H0 := [(b1, ⟨5, List.map (encCarton rn) ((y3.set (Int.toNat y0) (⟨(y3.getD (Int.toNat y0) default).Id, (y3.getD (Int.toNat y0) default).Shelf, (y3.getD (Int.toNat y0) default).Room, y4, (y3.getD (Int.toNat y0) default).Thick⟩ : Carton)).set (Int.toNat y1) (⟨(y3.getD (Int.toNat y1) default).Id, (y3.getD (Int.toNat y1) default).Shelf, (y3.getD (Int.toNat y1) default).Room, y5, (y3.getD (Int.toNat y1) default).Thick⟩ : Carton))⟩)]) rfl (⟨_, _, rfl, rfl, _, _, rfl, rfl, rfl⟩) (⟨_, _, rfl, rfl, rfl⟩) rfl ?_)
    refine V.ret ?_
    obtain rfl := oi hm0
    exact ⟨_, _, ⟨_, _, rfl, rfl, _, _, rfl, rfl, rfl⟩, List.Sublist.refl _, b1, rfl, rfl⟩
theorem ok_laws_rInts {ρ0 ρ1 rn : Nat} {a : List Int} {b_ : List Int} {r : Bool} (h : M.laws_rInts a b_ = some r) : Does Try.prog 87 [.vl ρ0 1 (List.map encInt a), .vl ρ1 1 (List.map encInt b_)] [] rn (fun x H => x = .bool r ∧ H = []) := by
 have hm0 := h; clear h; unfold M.laws_rInts at hm0
 try dsimp only at hm0
 refine Does.intro (N := 26) Try.func87 rfl rfl rfl rfl ?_
 intro w0 S0
 refine V.seq (V.region (VO.cons rfl (V1.as ?_)))
 refine VO.nil (V.seq (V.seq (V.region (VO.cons rfl (V1.mv ?_)))))
 refine VO.cons rfl (V1.lenMap rfl rfl rfl rfl rfl rfl isl_36 lt0 ?_)
 refine VO.cons rfl (V1.mv ?_)
 refine VO.cons rfl (V1.lenMap rfl rfl rfl rfl rfl rfl isl_36 lt0 ?_)
 refine VO.cons rfl (V1.it ?_)
 refine VO.nil (V.keep 26 [0, 1, 10] [] (E0 := [(0, .vl ρ0 1 (List.map encInt a)), (1, .vl ρ1 1 (List.map encInt b_)), (10, .bool ((a.length : Int) != (b_.length : Int)))]) (H0 := []) rfl (⟨_, _, rfl, rfl, _, _, rfl, rfl, _, _, rfl, rfl, rfl⟩) (rfl) rfl ?_)
 refine V.cond rfl (fun hc0 => ?_) (fun hc0 => ?_)
 ·
  replace hm0 := cond_t hc0 hm0
  refine V.seq (V.region (VO.cons rfl (V1.as ?_)))
  refine VO.nil (V.ret ?_)
  obtain rfl := oi hm0
  exact ⟨_, [], ⟨_, _, rfl, rfl, rfl⟩, List.nil_sublist _, rfl, rfl⟩
 ·
  replace hm0 := cond_f hc0 hm0
  refine V.skip ?_
  refine V.seq (V.seq (V.region (VO.cons rfl (V1.as ?_))))
  refine VO.nil ?_
  replace hm0 := bindO hm0; rcases hm0 with ⟨e0, he1, hm0⟩
  refine V.cutT (D := (Unit) × (Unit)) (fun ⟨_, _⟩ => ⟨26, [], []⟩) (fun ⟨_, _⟩ => (.inl () = e0)) ?_ ?_
  ·
   refine V.block ?_
   refine V.keep 26 [5, 0, 1] [] (E0 := [(5, .int .i64 (0 : Int)), (0, .vl ρ0 1 (List.map encInt a)), (1, .vl ρ1 1 (List.map encInt b_))]) (H0 := []) rfl (⟨_, _, rfl, rfl, _, _, rfl, rfl, _, _, rfl, rfl, rfl⟩) (rfl) rfl ?_
   refine V.loopE (D := Nat × (Int) × (Unit)) (fun ⟨n0, i, _⟩ => [(5, .int .i64 i)]) (fun ⟨n0, i, _⟩ => []) (fun ⟨n0, i, _⟩ => loopO (M.laws_rInts_l0 a b_) n0 i = some e0) (fun ⟨n0, _, _⟩ => n0) (rounds, (0 : Int), ()) rfl he1 ?_
   rintro ⟨n0, i, _⟩ hP0
   obtain ⟨m0, y0, rfl, hm1, hl1, hr1⟩ := loop_head hP0
   unfold M.laws_rInts_l0 at hm1; dsimp only at hm1
   show V _ _ _ ⟨26, [(5, .int .i64 i), (0, .vl ρ0 1 (List.map encInt a)), (1, .vl ρ1 1 (List.map encInt b_))], []⟩
   refine V.seq (V.seq (V.region (VO.cons rfl (V1.mv ?_))))
   refine VO.cons rfl (V1.mv ?_)
   refine VO.cons rfl (V1.lenMap rfl rfl rfl rfl rfl rfl isl_36 lt0 ?_)
   refine VO.cons rfl (V1.it ?_)
   refine VO.nil (V.cond rfl (fun hc1 => ?_) (fun hc1 => ?_))
   ·
    replace hm1 := cond_t hc1 hm1
    refine V.skip ?_
    refine V.keep 26 [0, 1, 5] [] (E0 := [(0, .vl ρ0 1 (List.map encInt a)), (1, .vl ρ1 1 (List.map encInt b_)), (5, .int .i64 i)]) (H0 := []) rfl (⟨_, _, rfl, rfl, _, _, rfl, rfl, _, _, rfl, rfl, rfl⟩) (rfl) rfl ?_
    refine V.seq (V.block ?_)
    refine V.seq ?_
    replace hm1 := asrt_some hm1; rcases hm1 with ⟨hh0, hm1⟩
    replace hm1 := asrt_some hm1; rcases hm1 with ⟨hh1, hm1⟩
    refine V.regionM 26 8 [⟨[(0, none)], [], none⟩, ⟨[(5, none)], [], none⟩, ⟨[(17, some 1), (18, some 0)], [], none⟩, ⟨[(19, some 0)], [], none⟩, ⟨[(1, none)], [], none⟩, ⟨[(5, none)], [], none⟩, ⟨[(21, some 1), (22, some 0)], [], none⟩, ⟨[(23, some 0)], [], none⟩] [(0, none), (1, none), (5, none), (20, some 4), (24, some 0)] (⟨_, rfl, ⟨_, rfl, ⟨_, rfl, ⟨_, rfl, ⟨_, rfl, ⟨_, rfl, ⟨_, rfl, ⟨_, rfl, ⟨rfl, rfl⟩⟩⟩⟩⟩⟩⟩⟩⟩) mixed_orders rfl (by decide +kernel) (fun hck6 => ?_)
    refine VP.step (p := ?pv65) rfl rfl rfl (⟨_, _, rfl, rfl, rfl⟩) ?hv65 ?rest65 hck6
    case hv65 =>
     intro E1
     refine (V1.mv ?_)
     exact rfl
    refine VP.step (p := ?pv66) rfl rfl rfl (⟨_, _, rfl, rfl, rfl⟩) ?hv66 ?rest66 hck6
    case hv66 =>
     intro E1
     refine (V1.mv ?_)
     exact rfl
    refine VP.step (p := ?pv67) rfl rfl rfl (⟨_, _, rfl, rfl, _, _, rfl, rfl, rfl⟩) ?hv67 ?rest67 hck6
    case hv67 =>
     intro E1
     refine (V1.indexI rfl rfl esz_36 rfl rfl hh0 lt0 ?_)
     exact rfl
    refine VP.step (p := ?pv68) rfl rfl rfl (⟨_, _, rfl, rfl, rfl⟩) ?hv68 ?rest68 hck6
    case hv68 =>
     intro E1
     refine (V1.loadPin rfl rfl tyk_3 rfl rfl lt0 ?_)
     exact rfl
    refine VP.step (p := ?pv69) rfl rfl rfl (⟨_, _, rfl, rfl, rfl⟩) ?hv69 ?rest69 hck6
    case hv69 =>
     intro E1
     refine (V1.mv ?_)
     exact rfl
    refine VP.step (p := ?pv70) rfl rfl rfl (⟨_, _, rfl, rfl, rfl⟩) ?hv70 ?rest70 hck6
    case hv70 =>
     intro E1
     refine (V1.mv ?_)
     exact rfl
    refine VP.step (p := ?pv71) rfl rfl rfl (⟨_, _, rfl, rfl, _, _, rfl, rfl, rfl⟩) ?hv71 ?rest71 hck6
    case hv71 =>
     intro E1
     refine (V1.indexI rfl rfl esz_36 rfl rfl hh1 lt0 ?_)
     exact rfl
    refine VP.step (p := ?pv72) rfl rfl rfl (⟨_, _, rfl, rfl, rfl⟩) ?hv72 ?rest72 hck6
    case hv72 =>
     intro E1
     refine (V1.loadPin rfl rfl tyk_3 rfl rfl lt0 ?_)
     exact rfl
    refine VP.fin rfl (⟨_, _, rfl, rfl, _, _, rfl, rfl, _, _, rfl, rfl, _, _, rfl, rfl, _, _, rfl, rfl, rfl⟩) ?_
    refine VO.cons rfl (V1.it ?_)
    refine VO.nil (V.cond rfl (fun hc2 => ?_) (fun hc2 => ?_))
    ·
     replace hm1 := cond_t hc2 hm1
     refine V.seq (V.region (VO.cons rfl (V1.as ?_)))
     refine VO.nil (V.ret ?_)
     obtain rfl := hr1 _ (oi hm1).symm
     change some _ = some _ at hm0
     obtain rfl := oi hm0
     exact ⟨_, [], ⟨_, _, rfl, rfl, rfl⟩, List.nil_sublist _, rfl, rfl⟩
    ·
     replace hm1 := cond_f hc2 hm1
     refine V.skip ?_
     refine V.region (VO.cons rfl (V1.mv ?_))
     refine VO.cons rfl (V1.it ?_)
     refine VO.cons rfl (V1.as ?_)
     refine VO.nil ?_
     exact ⟨(m0, (IntKind.i64.wrap (i + (1 : Int))), ()), hl1 _ (oi hm1).symm, Nat.lt_succ_self _, Keeps.mk (ks := []) rfl ⟨rfl, rfl, rfl, trivial⟩ (rfl) rfl⟩
   ·
    replace hm1 := cond_f hc1 hm1
    refine V.exit ?_
    obtain rfl := hr1 _ (oi hm1).symm
    exact ⟨((), ()), rfl, Keeps.mk (ks := []) rfl trivial (rfl) rfl⟩
  ·
   rintro ⟨_, _⟩ rfl
   try dsimp only at hm0
   refine V.seq (V.region (VO.cons rfl (V1.as ?_)))
   refine VO.nil (V.ret ?_)
   obtain rfl := oi hm0
   exact ⟨_, [], ⟨_, _, rfl, rfl, rfl⟩, List.nil_sublist _, rfl, rfl⟩
theorem ok_laws_rCartons {ρ0 σ0 ρ1 σ1 rn : Nat} {a : List Carton} {b_ : List Carton} {r : Bool} (h : M.laws_rCartons a b_ = some r) : Does Try.prog 43 [.vl ρ0 5 (List.map (encCarton σ0) a), .vl ρ1 5 (List.map (encCarton σ1) b_)] [] rn (fun x H => x = .bool r ∧ H = []) := by
 have hm0 := h; clear h; unfold M.laws_rCartons at hm0
 try dsimp only at hm0
 refine Does.intro (N := 81) Try.func43 rfl rfl rfl rfl ?_
 intro w0 S0
 refine V.seq (V.region (VO.cons rfl (V1.as ?_)))
 refine VO.nil (V.seq (V.seq (V.region (VO.cons rfl (V1.mv ?_)))))
 refine VO.cons rfl (V1.lenMap rfl rfl rfl rfl rfl rfl isl_39 lt0 ?_)
 refine VO.cons rfl (V1.mv ?_)
 refine VO.cons rfl (V1.lenMap rfl rfl rfl rfl rfl rfl isl_39 lt0 ?_)
 refine VO.cons rfl (V1.it ?_)
 refine VO.nil (V.keep 81 [0, 1, 10] [] (E0 := [(0, .vl ρ0 5 (List.map (encCarton σ0) a)), (1, .vl ρ1 5 (List.map (encCarton σ1) b_)), (10, .bool ((a.length : Int) != (b_.length : Int)))]) (H0 := []) rfl (⟨_, _, rfl, rfl, _, _, rfl, rfl, _, _, rfl, rfl, rfl⟩) (rfl) rfl ?_)
 refine V.cond rfl (fun hc0 => ?_) (fun hc0 => ?_)
 ·
  replace hm0 := cond_t hc0 hm0
  refine V.seq (V.region (VO.cons rfl (V1.as ?_)))
  refine VO.nil (V.ret ?_)
  obtain rfl := oi hm0
  exact ⟨_, [], ⟨_, _, rfl, rfl, rfl⟩, List.nil_sublist _, rfl, rfl⟩
 ·
  replace hm0 := cond_f hc0 hm0
  refine V.skip ?_
  refine V.seq (V.seq (V.region (VO.cons rfl (V1.as ?_))))
  refine VO.nil ?_
  replace hm0 := bindO hm0; rcases hm0 with ⟨e0, he1, hm0⟩
  refine V.cutT (D := (Unit) × (Unit)) (fun ⟨_, _⟩ => ⟨81, [], []⟩) (fun ⟨_, _⟩ => (.inl () = e0)) ?_ ?_
  ·
   refine V.block ?_
   refine V.keep 81 [5, 0, 1] [] (E0 := [(5, .int .i64 (0 : Int)), (0, .vl ρ0 5 (List.map (encCarton σ0) a)), (1, .vl ρ1 5 (List.map (encCarton σ1) b_))]) (H0 := []) rfl (⟨_, _, rfl, rfl, _, _, rfl, rfl, _, _, rfl, rfl, rfl⟩) (rfl) rfl ?_
   refine V.loopE (D := Nat × (Int) × (Unit)) (fun ⟨n0, i, _⟩ => [(5, .int .i64 i)]) (fun ⟨n0, i, _⟩ => []) (fun ⟨n0, i, _⟩ => loopO (M.laws_rCartons_l0 a b_) n0 i = some e0) (fun ⟨n0, _, _⟩ => n0) (rounds, (0 : Int), ()) rfl he1 ?_
   rintro ⟨n0, i, _⟩ hP0
   obtain ⟨m0, y0, rfl, hm1, hl1, hr1⟩ := loop_head hP0
   unfold M.laws_rCartons_l0 at hm1; dsimp only at hm1
   show V _ _ _ ⟨81, [(5, .int .i64 i), (0, .vl ρ0 5 (List.map (encCarton σ0) a)), (1, .vl ρ1 5 (List.map (encCarton σ1) b_))], []⟩
   refine V.seq (V.seq (V.region (VO.cons rfl (V1.mv ?_))))
   refine VO.cons rfl (V1.mv ?_)
   refine VO.cons rfl (V1.lenMap rfl rfl rfl rfl rfl rfl isl_39 lt0 ?_)
   refine VO.cons rfl (V1.it ?_)
   refine VO.nil (V.cond rfl (fun hc1 => ?_) (fun hc1 => ?_))
   ·
    replace hm1 := cond_t hc1 hm1
    refine V.skip ?_
    refine V.keep 81 [0, 1, 5] [] (E0 := [(0, .vl ρ0 5 (List.map (encCarton σ0) a)), (1, .vl ρ1 5 (List.map (encCarton σ1) b_)), (5, .int .i64 i)]) (H0 := []) rfl (⟨_, _, rfl, rfl, _, _, rfl, rfl, _, _, rfl, rfl, rfl⟩) (rfl) rfl ?_
    refine V.seq (V.block ?_)
    refine V.seq ?_
    replace hm1 := asrt_some hm1; rcases hm1 with ⟨hh0, hm1⟩
    replace hm1 := asrt_some hm1; rcases hm1 with ⟨hh1, hm1⟩
    replace hm1 := asrt_some hm1; rcases hm1 with ⟨hh2, hm1⟩
    replace hm1 := asrt_some hm1; rcases hm1 with ⟨hh3, hm1⟩
    replace hm1 := asrt_some hm1; rcases hm1 with ⟨hh4, hm1⟩
    replace hm1 := asrt_some hm1; rcases hm1 with ⟨hh5, hm1⟩
    replace hm1 := asrt_some hm1; rcases hm1 with ⟨hh6, hm1⟩
    replace hm1 := asrt_some hm1; rcases hm1 with ⟨hh7, hm1⟩
    replace hm1 := asrt_some hm1; rcases hm1 with ⟨hh8, hm1⟩
    replace hm1 := asrt_some hm1; rcases hm1 with ⟨hh9, hm1⟩
    replace hm1 := bindO hm1; rcases hm1 with ⟨y1, hh10, hm1⟩
    refine V.regionM 81 64 [⟨[(0, none)], [], none⟩, ⟨[(5, none)], [], none⟩, ⟨[(17, some 1), (18, some 0)], [], none⟩, ⟨[(19, some 0)], [], none⟩, ⟨[(20, some 0)], [], none⟩, ⟨[(1, none)], [], none⟩, ⟨[(5, none)], [], none⟩, ⟨[(22, some 1), (23, some 0)], [], none⟩, ⟨[(24, some 0)], [], none⟩, ⟨[(25, some 0)], [], none⟩, ⟨[(21, some 5), (26, some 0)], [], none⟩, ⟨[(27, some 0)], [], none⟩, ⟨[(0, none)], [(0, false)], none⟩, ⟨[(5, none)], [(1, false)], none⟩, ⟨[(29, some 1), (30, some 0)], [(2, false)], none⟩, ⟨[(31, some 0)], [(3, false)], none⟩, ⟨[(32, some 0)], [(4, false)], none⟩, ⟨[(1, none)], [(5, false)], none⟩, ⟨[(5, none)], [(6, false)], none⟩, ⟨[(34, some 1), (35, some 0)], [(7, false)], none⟩, ⟨[(36, some 0)], [(8, false)], none⟩, ⟨[(37, some 0)], [(9, false)], none⟩, ⟨[(33, some 5), (38, some 0)], [(10, false)], none⟩, ⟨[], [], some (false, 28, 39, 11, 0)⟩, ⟨[(40, some 0)], [], none⟩, ⟨[(0, none)], [(0, false)], none⟩, ⟨[(5, none)], [(1, false)], none⟩, ⟨[(42, some 1), (43, some 0)], [(2, false)], none⟩, ⟨[(44, some 0)], [(3, false)], none⟩, ⟨[(45, some 0)], [(4, false)], none⟩, ⟨[(1, none)], [(5, false)], none⟩, ⟨[(5, none)], [(6, false)], none⟩, ⟨[(47, some 1), (48, some 0)], [(7, false)], none⟩, ⟨[(49, some 0)], [(8, false)], none⟩, ⟨[(50, some 0)], [(9, false)], none⟩, ⟨[(46, some 5), (51, some 0)], [(10, false)], none⟩, ⟨[], [], some (false, 41, 52, 11, 0)⟩, ⟨[(53, some 0)], [], none⟩, ⟨[(0, none)], [(0, false)], none⟩, ⟨[(5, none)], [(1, false)], none⟩, ⟨[(55, some 1), (56, some 0)], [(2, false)], none⟩, ⟨[(57, some 0)], [(3, false)], none⟩, ⟨[(58, some 0)], [(4, false)], none⟩, ⟨[(1, none)], [(5, false)], none⟩, ⟨[(5, none)], [(6, false)], none⟩, ⟨[(60, some 1), (61, some 0)], [(7, false)], none⟩, ⟨[(62, some 0)], [(8, false)], none⟩, ⟨[(63, some 0)], [(9, false)], none⟩, ⟨[(59, some 5), (64, some 0)], [(10, false)], none⟩, ⟨[], [], some (false, 54, 65, 11, 0)⟩, ⟨[(66, some 0)], [], none⟩, ⟨[(0, none)], [(0, false)], none⟩, ⟨[(5, none)], [(1, false)], none⟩, ⟨[(68, some 1), (69, some 0)], [(2, false)], none⟩, ⟨[(70, some 0)], [(3, false)], none⟩, ⟨[(71, some 0)], [(4, false)], none⟩, ⟨[(1, none)], [(5, false)], none⟩, ⟨[(5, none)], [(6, false)], none⟩, ⟨[(73, some 1), (74, some 0)], [(7, false)], none⟩, ⟨[(75, some 0)], [(8, false)], none⟩, ⟨[(76, some 0)], [(9, false)], none⟩, ⟨[(72, some 5), (77, some 0)], [(10, false)], none⟩, ⟨[(78, some 0)], [(11, false)], none⟩, ⟨[], [], some (false, 67, 79, 12, 0)⟩] [(0, none), (1, none), (5, none), (80, some 0)] (⟨_, rfl, ⟨_, rfl, ⟨_, rfl, ⟨_, rfl, ⟨_, rfl, ⟨_, rfl, ⟨_, rfl, ⟨_, rfl, ⟨_, rfl, ⟨_, rfl, ⟨_, rfl, ⟨_, rfl, ⟨_, rfl, ⟨_, rfl, ⟨_, rfl, ⟨_, rfl, ⟨_, rfl, ⟨_, rfl, ⟨_, rfl, ⟨_, rfl, ⟨_, rfl, ⟨_, rfl, ⟨_, rfl, ⟨_, rfl, ⟨_, rfl, ⟨_, rfl, ⟨_, rfl, ⟨_, rfl, ⟨_, rfl, ⟨_, rfl, ⟨_, rfl, ⟨_, rfl, ⟨_, rfl, ⟨_, rfl, ⟨_, rfl, ⟨_, rfl, ⟨_, rfl, ⟨_, rfl, ⟨_, rfl, ⟨_, rfl, ⟨_, rfl, ⟨_, rfl, ⟨_, rfl, ⟨_, rfl, ⟨_, rfl, ⟨_, rfl, ⟨_, rfl, ⟨_, rfl, ⟨_, rfl, ⟨_, rfl, ⟨_, rfl, ⟨_, rfl, ⟨_, rfl, ⟨_, rfl, ⟨_, rfl, ⟨_, rfl, ⟨_, rfl, ⟨_, rfl, ⟨_, rfl, ⟨_, rfl, ⟨_, rfl, ⟨_, rfl, ⟨_, rfl, ⟨_, rfl, ⟨rfl, rfl⟩⟩⟩⟩⟩⟩⟩⟩⟩⟩⟩⟩⟩⟩⟩⟩⟩⟩⟩⟩⟩⟩⟩⟩⟩⟩⟩⟩⟩⟩⟩⟩⟩⟩⟩⟩⟩⟩⟩⟩⟩⟩⟩⟩⟩⟩⟩⟩⟩⟩⟩⟩⟩⟩⟩⟩⟩⟩⟩⟩⟩⟩⟩⟩⟩) mixed_orders rfl (by decide +kernel) (fun hck6 => ?_)
    refine VP.step (p := ?pv489) rfl rfl rfl (⟨_, _, rfl, rfl, rfl⟩) ?hv489 ?rest489 hck6
    case hv489 =>
     intro E1
     refine (V1.mv ?_)
     exact rfl
    refine VP.step (p := ?pv490) rfl rfl rfl (⟨_, _, rfl, rfl, rfl⟩) ?hv490 ?rest490 hck6
    case hv490 =>
     intro E1
     refine (V1.mv ?_)
     exact rfl
    refine VP.step (p := ?pv491) rfl rfl rfl (⟨_, _, rfl, rfl, _, _, rfl, rfl, rfl⟩) ?hv491 ?rest491 hck6
    case hv491 =>
     intro E1
     refine (V1.indexI rfl rfl esz_39 rfl rfl hh0 lt0 ?_)
     exact rfl
    refine VP.step (p := ?pv492) rfl rfl rfl (⟨_, _, rfl, rfl, rfl⟩) ?hv492 ?rest492 hck6
    case hv492 =>
     intro E1
     refine (V1.fieldPin rfl rfl fo_67_0 rfl lt0 ?_)
     exact rfl
    refine VP.step (p := ?pv493) rfl rfl rfl (⟨_, _, rfl, rfl, rfl⟩) ?hv493 ?rest493 hck6
    case hv493 =>
     intro E1
     refine (V1.loadPin rfl rfl tyk_3 rfl rfl lt0 ?_)
     exact rfl
    refine VP.step (p := ?pv494) rfl rfl rfl (⟨_, _, rfl, rfl, rfl⟩) ?hv494 ?rest494 hck6
    case hv494 =>
     intro E1
     refine (V1.mv ?_)
     exact rfl
    refine VP.step (p := ?pv495) rfl rfl rfl (⟨_, _, rfl, rfl, rfl⟩) ?hv495 ?rest495 hck6
    case hv495 =>
     intro E1
     refine (V1.mv ?_)
     exact rfl
    refine VP.step (p := ?pv496) rfl rfl rfl (⟨_, _, rfl, rfl, _, _, rfl, rfl, rfl⟩) ?hv496 ?rest496 hck6
    case hv496 =>
     intro E1
     refine (V1.indexI rfl rfl esz_39 rfl rfl hh1 lt0 ?_)
     exact rfl
    refine VP.step (p := ?pv497) rfl rfl rfl (⟨_, _, rfl, rfl, rfl⟩) ?hv497 ?rest497 hck6
    case hv497 =>
     intro E1
     refine (V1.fieldPin rfl rfl fo_67_0 rfl lt0 ?_)
     exact rfl
    refine VP.step (p := ?pv498) rfl rfl rfl (⟨_, _, rfl, rfl, rfl⟩) ?hv498 ?rest498 hck6
    case hv498 =>
     intro E1
     refine (V1.loadPin rfl rfl tyk_3 rfl rfl lt0 ?_)
     exact rfl
    refine VP.step (p := ?pv499) rfl rfl rfl (⟨_, _, rfl, rfl, _, _, rfl, rfl, rfl⟩) ?hv499 ?rest499 hck6
    case hv499 =>
     intro E1
     refine (V1.it ?_)
     exact rfl
    refine VP.step (p := ?pv500) rfl rfl rfl (⟨_, _, rfl, rfl, rfl⟩) ?hv500 ?rest500 hck6
    case hv500 =>
     intro E1
     refine (V1.mv ?_)
     exact rfl
    refine VP.step (p := ?pv501) rfl rfl rfl (⟨_, _, rfl, rfl, rfl⟩) ?hv501 ?rest501 hck6
    case hv501 =>
     refine ⟨_, rfl, fun hg0 => ?_⟩
     intro E1
     refine (V1.mv ?_)
     exact rfl
    refine VP.step (p := ?pv502) rfl rfl rfl (⟨_, _, rfl, rfl, rfl⟩) ?hv502 ?rest502 hck6
    case hv502 =>
     refine ⟨_, rfl, fun hg0 => ?_⟩
     intro E1
     refine (V1.mv ?_)
     exact rfl
    refine VP.step (p := ?pv503) rfl rfl rfl (⟨_, _, rfl, rfl, _, _, rfl, rfl, rfl⟩) ?hv503 ?rest503 hck6
    case hv503 =>
     refine ⟨_, rfl, fun hg0 => ?_⟩
     intro E1
     refine (V1.indexI rfl rfl esz_39 rfl rfl (hh2 hg0) lt0 ?_)
     exact rfl
    refine VP.step (p := ?pv504) rfl rfl rfl (⟨_, _, rfl, rfl, rfl⟩) ?hv504 ?rest504 hck6
    case hv504 =>
     refine ⟨_, rfl, fun hg0 => ?_⟩
     intro E1
     refine (V1.fieldPin rfl rfl fo_67_1 rfl lt0 ?_)
     exact rfl
    refine VP.step (p := ?pv505) rfl rfl rfl (⟨_, _, rfl, rfl, rfl⟩) ?hv505 ?rest505 hck6
    case hv505 =>
     refine ⟨_, rfl, fun hg0 => ?_⟩
     intro E1
     refine (V1.loadPin rfl rfl tyk_3 rfl rfl lt0 ?_)
     exact rfl
    refine VP.step (p := ?pv506) rfl rfl rfl (⟨_, _, rfl, rfl, rfl⟩) ?hv506 ?rest506 hck6
    case hv506 =>
     refine ⟨_, rfl, fun hg0 => ?_⟩
     intro E1
     refine (V1.mv ?_)
     exact rfl
    refine VP.step (p := ?pv507) rfl rfl rfl (⟨_, _, rfl, rfl, rfl⟩) ?hv507 ?rest507 hck6
    case hv507 =>
     refine ⟨_, rfl, fun hg0 => ?_⟩
     intro E1
     refine (V1.mv ?_)
     exact rfl
    refine VP.step (p := ?pv508) rfl rfl rfl (⟨_, _, rfl, rfl, _, _, rfl, rfl, rfl⟩) ?hv508 ?rest508 hck6
    case hv508 =>
     refine ⟨_, rfl, fun hg0 => ?_⟩
     intro E1
     refine (V1.indexI rfl rfl esz_39 rfl rfl (hh3 hg0) lt0 ?_)
     exact rfl
    refine VP.step (p := ?pv509) rfl rfl rfl (⟨_, _, rfl, rfl, rfl⟩) ?hv509 ?rest509 hck6
    case hv509 =>
     refine ⟨_, rfl, fun hg0 => ?_⟩
     intro E1
     refine (V1.fieldPin rfl rfl fo_67_1 rfl lt0 ?_)
     exact rfl
    refine VP.step (p := ?pv510) rfl rfl rfl (⟨_, _, rfl, rfl, rfl⟩) ?hv510 ?rest510 hck6
    case hv510 =>
     refine ⟨_, rfl, fun hg0 => ?_⟩
     intro E1
     refine (V1.loadPin rfl rfl tyk_3 rfl rfl lt0 ?_)
     exact rfl
    refine VP.step (p := ?pv511) rfl rfl rfl (⟨_, _, rfl, rfl, _, _, rfl, rfl, rfl⟩) ?hv511 ?rest511 hck6
    case hv511 =>
     refine ⟨_, rfl, fun hg0 => ?_⟩
     intro E1
     refine (V1.it ?_)
     exact rfl
    refine VP.pickOr rfl rfl rfl rfl rfl rfl (trivial) ?_ hck6
    refine VP.step (p := ?pv512) rfl rfl rfl (⟨_, _, rfl, rfl, rfl⟩) ?hv512 ?rest512 hck6
    case hv512 =>
     intro E1
     refine (V1.mv ?_)
     exact rfl
    refine VP.step (p := ?pv513) rfl rfl rfl (⟨_, _, rfl, rfl, rfl⟩) ?hv513 ?rest513 hck6
    case hv513 =>
     refine ⟨_, rfl, fun hg1 => ?_⟩
     intro E1
     refine (V1.mv ?_)
     exact rfl
    refine VP.step (p := ?pv514) rfl rfl rfl (⟨_, _, rfl, rfl, rfl⟩) ?hv514 ?rest514 hck6
    case hv514 =>
     refine ⟨_, rfl, fun hg1 => ?_⟩
     intro E1
     refine (V1.mv ?_)
     exact rfl
    refine VP.step (p := ?pv515) rfl rfl rfl (⟨_, _, rfl, rfl, _, _, rfl, rfl, rfl⟩) ?hv515 ?rest515 hck6
    case hv515 =>
     refine ⟨_, rfl, fun hg1 => ?_⟩
     intro E1
     refine (V1.indexI rfl rfl esz_39 rfl rfl (hh4 hg1) lt0 ?_)
     exact rfl
    refine VP.step (p := ?pv516) rfl rfl rfl (⟨_, _, rfl, rfl, rfl⟩) ?hv516 ?rest516 hck6
    case hv516 =>
     refine ⟨_, rfl, fun hg1 => ?_⟩
     intro E1
     refine (V1.fieldPin rfl rfl fo_67_2 rfl lt0 ?_)
     exact rfl
    refine VP.step (p := ?pv517) rfl rfl rfl (⟨_, _, rfl, rfl, rfl⟩) ?hv517 ?rest517 hck6
    case hv517 =>
     refine ⟨_, rfl, fun hg1 => ?_⟩
     intro E1
     refine (V1.loadPin rfl rfl tyk_3 rfl rfl lt0 ?_)
     exact rfl
    refine VP.step (p := ?pv518) rfl rfl rfl (⟨_, _, rfl, rfl, rfl⟩) ?hv518 ?rest518 hck6
    case hv518 =>
     refine ⟨_, rfl, fun hg1 => ?_⟩
     intro E1
     refine (V1.mv ?_)
     exact rfl
    refine VP.step (p := ?pv519) rfl rfl rfl (⟨_, _, rfl, rfl, rfl⟩) ?hv519 ?rest519 hck6
    case hv519 =>
     refine ⟨_, rfl, fun hg1 => ?_⟩
     intro E1
     refine (V1.mv ?_)
     exact rfl
    refine VP.step (p := ?pv520) rfl rfl rfl (⟨_, _, rfl, rfl, _, _, rfl, rfl, rfl⟩) ?hv520 ?rest520 hck6
    case hv520 =>
     refine ⟨_, rfl, fun hg1 => ?_⟩
     intro E1
     refine (V1.indexI rfl rfl esz_39 rfl rfl (hh5 hg1) lt0 ?_)
     exact rfl
    refine VP.step (p := ?pv521) rfl rfl rfl (⟨_, _, rfl, rfl, rfl⟩) ?hv521 ?rest521 hck6
    case hv521 =>
     refine ⟨_, rfl, fun hg1 => ?_⟩
     intro E1
     refine (V1.fieldPin rfl rfl fo_67_2 rfl lt0 ?_)
     exact rfl
    refine VP.step (p := ?pv522) rfl rfl rfl (⟨_, _, rfl, rfl, rfl⟩) ?hv522 ?rest522 hck6
    case hv522 =>
     refine ⟨_, rfl, fun hg1 => ?_⟩
     intro E1
     refine (V1.loadPin rfl rfl tyk_3 rfl rfl lt0 ?_)
     exact rfl
    refine VP.step (p := ?pv523) rfl rfl rfl (⟨_, _, rfl, rfl, _, _, rfl, rfl, rfl⟩) ?hv523 ?rest523 hck6
    case hv523 =>
     refine ⟨_, rfl, fun hg1 => ?_⟩
     intro E1
     refine (V1.it ?_)
     exact rfl
    refine VP.pickOr rfl rfl rfl rfl rfl rfl (trivial) ?_ hck6
    refine VP.step (p := ?pv524) rfl rfl rfl (⟨_, _, rfl, rfl, rfl⟩) ?hv524 ?rest524 hck6
    case hv524 =>
     intro E1
     refine (V1.mv ?_)
     exact rfl
    refine VP.step (p := ?pv525) rfl rfl rfl (⟨_, _, rfl, rfl, rfl⟩) ?hv525 ?rest525 hck6
    case hv525 =>
     refine ⟨_, rfl, fun hg2 => ?_⟩
     intro E1
     refine (V1.mv ?_)
     exact rfl
    refine VP.step (p := ?pv526) rfl rfl rfl (⟨_, _, rfl, rfl, rfl⟩) ?hv526 ?rest526 hck6
    case hv526 =>
     refine ⟨_, rfl, fun hg2 => ?_⟩
     intro E1
     refine (V1.mv ?_)
     exact rfl
    refine VP.step (p := ?pv527) rfl rfl rfl (⟨_, _, rfl, rfl, _, _, rfl, rfl, rfl⟩) ?hv527 ?rest527 hck6
    case hv527 =>
     refine ⟨_, rfl, fun hg2 => ?_⟩
     intro E1
     refine (V1.indexI rfl rfl esz_39 rfl rfl (hh6 hg2) lt0 ?_)
     exact rfl
    refine VP.step (p := ?pv528) rfl rfl rfl (⟨_, _, rfl, rfl, rfl⟩) ?hv528 ?rest528 hck6
    case hv528 =>
     refine ⟨_, rfl, fun hg2 => ?_⟩
     intro E1
     refine (V1.fieldPin rfl rfl fo_67_4 rfl lt0 ?_)
     exact rfl
    refine VP.step (p := ?pv529) rfl rfl rfl (⟨_, _, rfl, rfl, rfl⟩) ?hv529 ?rest529 hck6
    case hv529 =>
     refine ⟨_, rfl, fun hg2 => ?_⟩
     intro E1
     refine (V1.loadPin rfl rfl tyk_3 rfl rfl lt0 ?_)
     exact rfl
    refine VP.step (p := ?pv530) rfl rfl rfl (⟨_, _, rfl, rfl, rfl⟩) ?hv530 ?rest530 hck6
    case hv530 =>
     refine ⟨_, rfl, fun hg2 => ?_⟩
     intro E1
     refine (V1.mv ?_)
     exact rfl
    refine VP.step (p := ?pv531) rfl rfl rfl (⟨_, _, rfl, rfl, rfl⟩) ?hv531 ?rest531 hck6
    case hv531 =>
     refine ⟨_, rfl, fun hg2 => ?_⟩
     intro E1
     refine (V1.mv ?_)
     exact rfl
    refine VP.step (p := ?pv532) rfl rfl rfl (⟨_, _, rfl, rfl, _, _, rfl, rfl, rfl⟩) ?hv532 ?rest532 hck6
    case hv532 =>
     refine ⟨_, rfl, fun hg2 => ?_⟩
     intro E1
     refine (V1.indexI rfl rfl esz_39 rfl rfl (hh7 hg2) lt0 ?_)
     exact rfl
    refine VP.step (p := ?pv533) rfl rfl rfl (⟨_, _, rfl, rfl, rfl⟩) ?hv533 ?rest533 hck6
    case hv533 =>
     refine ⟨_, rfl, fun hg2 => ?_⟩
     intro E1
     refine (V1.fieldPin rfl rfl fo_67_4 rfl lt0 ?_)
     exact rfl
    refine VP.step (p := ?pv534) rfl rfl rfl (⟨_, _, rfl, rfl, rfl⟩) ?hv534 ?rest534 hck6
    case hv534 =>
     refine ⟨_, rfl, fun hg2 => ?_⟩
     intro E1
     refine (V1.loadPin rfl rfl tyk_3 rfl rfl lt0 ?_)
     exact rfl
    refine VP.step (p := ?pv535) rfl rfl rfl (⟨_, _, rfl, rfl, _, _, rfl, rfl, rfl⟩) ?hv535 ?rest535 hck6
    case hv535 =>
     refine ⟨_, rfl, fun hg2 => ?_⟩
     intro E1
     refine (V1.it ?_)
     exact rfl
    refine VP.pickOr rfl rfl rfl rfl rfl rfl (trivial) ?_ hck6
    refine VP.step (p := ?pv536) rfl rfl rfl (⟨_, _, rfl, rfl, rfl⟩) ?hv536 ?rest536 hck6
    case hv536 =>
     intro E1
     refine (V1.mv ?_)
     exact rfl
    refine VP.step (p := ?pv537) rfl rfl rfl (⟨_, _, rfl, rfl, rfl⟩) ?hv537 ?rest537 hck6
    case hv537 =>
     refine ⟨_, rfl, fun hg3 => ?_⟩
     intro E1
     refine (V1.mv ?_)
     exact rfl
    refine VP.step (p := ?pv538) rfl rfl rfl (⟨_, _, rfl, rfl, rfl⟩) ?hv538 ?rest538 hck6
    case hv538 =>
     refine ⟨_, rfl, fun hg3 => ?_⟩
     intro E1
     refine (V1.mv ?_)
     exact rfl
    refine VP.step (p := ?pv539) rfl rfl rfl (⟨_, _, rfl, rfl, _, _, rfl, rfl, rfl⟩) ?hv539 ?rest539 hck6
    case hv539 =>
     refine ⟨_, rfl, fun hg3 => ?_⟩
     intro E1
     refine (V1.indexI rfl rfl esz_39 rfl rfl (hh8 hg3) lt0 ?_)
     exact rfl
    refine VP.step (p := ?pv540) rfl rfl rfl (⟨_, _, rfl, rfl, rfl⟩) ?hv540 ?rest540 hck6
    case hv540 =>
     refine ⟨_, rfl, fun hg3 => ?_⟩
     intro E1
     refine (V1.fieldPin rfl rfl fo_67_3 rfl lt0 ?_)
     exact rfl
    refine VP.step (p := ?pv541) rfl rfl rfl (⟨_, _, rfl, rfl, rfl⟩) ?hv541 ?rest541 hck6
    case hv541 =>
     refine ⟨_, rfl, fun hg3 => ?_⟩
     intro E1
     refine (V1.loadPin rfl rfl tyk_36 rfl rfl lt0 ?_)
     exact rfl
    refine VP.step (p := ?pv542) rfl rfl rfl (⟨_, _, rfl, rfl, rfl⟩) ?hv542 ?rest542 hck6
    case hv542 =>
     refine ⟨_, rfl, fun hg3 => ?_⟩
     intro E1
     refine (V1.mv ?_)
     exact rfl
    refine VP.step (p := ?pv543) rfl rfl rfl (⟨_, _, rfl, rfl, rfl⟩) ?hv543 ?rest543 hck6
    case hv543 =>
     refine ⟨_, rfl, fun hg3 => ?_⟩
     intro E1
     refine (V1.mv ?_)
     exact rfl
    refine VP.step (p := ?pv544) rfl rfl rfl (⟨_, _, rfl, rfl, _, _, rfl, rfl, rfl⟩) ?hv544 ?rest544 hck6
    case hv544 =>
     refine ⟨_, rfl, fun hg3 => ?_⟩
     intro E1
     refine (V1.indexI rfl rfl esz_39 rfl rfl (hh9 hg3) lt0 ?_)
     exact rfl
    refine VP.step (p := ?pv545) rfl rfl rfl (⟨_, _, rfl, rfl, rfl⟩) ?hv545 ?rest545 hck6
    case hv545 =>
     refine ⟨_, rfl, fun hg3 => ?_⟩
     intro E1
     refine (V1.fieldPin rfl rfl fo_67_3 rfl lt0 ?_)
     exact rfl
    refine VP.step (p := ?pv546) rfl rfl rfl (⟨_, _, rfl, rfl, rfl⟩) ?hv546 ?rest546 hck6
    case hv546 =>
     refine ⟨_, rfl, fun hg3 => ?_⟩
     intro E1
     refine (V1.loadPin rfl rfl tyk_36 rfl rfl lt0 ?_)
     exact rfl
    refine VP.step (p := ?pv547) rfl rfl rfl (⟨_, _, rfl, rfl, _, _, rfl, rfl, rfl⟩) ?hv547 ?rest547 hck6
    case hv547 =>
     refine ⟨_, rfl, fun hg3 => ?_⟩
     intro E1
     refine (V1.call rfl rfl rfl cok_87 rfl (ok_laws_rInts (cond_f hg3 hh10)) rfl lt0 ?_)
     rintro _ _ ⟨rfl, rfl⟩
     exact rfl
    refine VP.step (p := ?pv549) rfl rfl rfl (⟨_, _, rfl, rfl, rfl⟩) ?hv549 ?rest549 hck6
    case hv549 =>
     refine ⟨_, rfl, fun hg3 => ?_⟩
     intro E1
     refine (V1.not rfl rfl rfl lt0 ?_)
     exact rfl
    refine VP.pickOr rfl rfl rfl rfl rfl rfl (trivial) ?_ hck6
    refine VP.fin rfl (⟨_, _, rfl, rfl, _, _, rfl, rfl, _, _, rfl, rfl, _, _, rfl, rfl, rfl⟩) ?_
    refine VO.nil (V.cond rfl (fun hc2 => ?_) (fun hc2 => ?_))
    ·
     replace hm1 := cond_t hc2 hm1
     refine V.seq (V.region (VO.cons rfl (V1.as ?_)))
     refine VO.nil (V.ret ?_)
     obtain rfl := hr1 _ (oi hm1).symm
     change some _ = some _ at hm0
     obtain rfl := oi hm0
     exact ⟨_, [], ⟨_, _, rfl, rfl, rfl⟩, List.nil_sublist _, rfl, rfl⟩
    ·
     replace hm1 := cond_f hc2 hm1
     refine V.skip ?_
     refine V.region (VO.cons rfl (V1.mv ?_))
     refine VO.cons rfl (V1.it ?_)
     refine VO.cons rfl (V1.as ?_)
     refine VO.nil ?_
     exact ⟨(m0, (IntKind.i64.wrap (i + (1 : Int))), ()), hl1 _ (oi hm1).symm, Nat.lt_succ_self _, Keeps.mk (ks := []) rfl ⟨rfl, rfl, rfl, trivial⟩ (rfl) rfl⟩
   ·
    replace hm1 := cond_f hc1 hm1
    refine V.exit ?_
    obtain rfl := hr1 _ (oi hm1).symm
    exact ⟨((), ()), rfl, Keeps.mk (ks := []) rfl trivial (rfl) rfl⟩
  ·
   rintro ⟨_, _⟩ rfl
   try dsimp only at hm0
   refine V.seq (V.region (VO.cons rfl (V1.as ?_)))
   refine VO.nil (V.ret ?_)
   obtain rfl := oi hm0
   exact ⟨_, [], ⟨_, _, rfl, rfl, rfl⟩, List.nil_sublist _, rfl, rfl⟩
theorem ok_impl_FindFile {ρ0 rn : Nat} {list : List Carton} {file : Int} {r : Int × Int × Int × Bool} (h : M.impl_FindFile list file = some r) : Does Try.prog 44 [.vl ρ0 5 (List.map (encCarton ρ0) list), .int .i64 file] [] rn (fun x H => x = .tup [.int .i64 r.1, .int .i64 r.2.1, .int .i64 r.2.2.1, .bool r.2.2.2] ∧ H = []) := by
 have hm0 := h; clear h; unfold M.impl_FindFile at hm0
 try dsimp only at hm0
 refine Does.intro (N := 34) Try.func44 rfl rfl rfl rfl ?_
 intro w0 S0
 refine V.seq (V.region (VO.cons rfl (V1.as ?_)))
 refine VO.cons rfl (V1.as ?_)
 refine VO.cons rfl (V1.as ?_)
 refine VO.cons rfl (V1.as ?_)
 refine VO.nil (V.keep 34 [0, 1] [] (E0 := [(0, .vl ρ0 5 (List.map (encCarton ρ0) list)), (1, .int .i64 file)]) (H0 := []) rfl (⟨_, _, rfl, rfl, _, _, rfl, rfl, rfl⟩) (rfl) rfl ?_)
 refine V.seq ?_
 replace hm0 := bindO hm0; rcases hm0 with ⟨y0, hh0, hm0⟩
 refine V.region (VO.cons rfl (V1.mv ?_))
 refine VO.cons rfl (V1.mv ?_)
 refine VO.cons rfl (V1.call rfl rfl rfl cok_74 rfl (ok_impl_cartonWith hh0) rfl lt0 ?_)
 rintro _ _ ⟨rfl, rfl⟩
 refine VO.cons rfl (V1.as ?_)
 refine VO.nil (V.keep 34 [0, 8] [] (E0 := [(0, .vl ρ0 5 (List.map (encCarton ρ0) list)), (8, .int .i64 y0)]) (H0 := []) rfl (⟨_, _, rfl, rfl, _, _, rfl, rfl, rfl⟩) (rfl) rfl ?_)
 refine V.seq (V.seq ?_)
 replace hm0 := bindO hm0; rcases hm0 with ⟨y1, hh1, hm0⟩
 refine V.region (VO.cons rfl (V1.mv ?_))
 refine VO.cons rfl (V1.call rfl rfl rfl cok_45 rfl (ok_impl_AreCartons hh1) rfl lt0 ?_)
 rintro _ _ ⟨rfl, rfl⟩
 refine VO.cons rfl (V1.not rfl rfl rfl lt0 ?_)
 refine VO.cons rfl (V1.mv ?_)
 apply VO.or (n := 2) rfl rfl rfl rfl rfl rfl lt0 (.none rfl)
 ·
  intro hg0
  refine VO.step (.some rfl rfl rfl) (V1.mv ?_)
  refine VO.step (.some rfl rfl rfl) (V1.it ?_)
  exact VO.nil ⟨rfl, rfl, rfl, rfl, .inr ⟨rfl, .inr ⟨rfl, .inr ⟨rfl, .inl rfl⟩⟩⟩⟩
 refine VO.nil (V.keep 34 [0, 8, 18] [] (E0 := [(0, .vl ρ0 5 (List.map (encCarton ρ0) list)), (8, .int .i64 y0), (18, .bool ((!y1) || (decide (y0 < (0 : Int)))))]) (H0 := []) rfl (⟨_, _, rfl, rfl, _, _, rfl, rfl, _, _, rfl, rfl, rfl⟩) (rfl) rfl ?_)
 refine V.cond rfl (fun hc0 => ?_) (fun hc0 => ?_)
 ·
  replace hm0 := cond_t hc0 hm0
  refine V.seq (V.region (VO.cons rfl (V1.as ?_)))
  refine VO.cons rfl (V1.as ?_)
  refine VO.cons rfl (V1.as ?_)
  refine VO.cons rfl (V1.as ?_)
  refine VO.nil (V.ret ?_)
  obtain rfl := oi hm0
  exact ⟨_, [], ⟨_, _, rfl, rfl, _, _, rfl, rfl, _, _, rfl, rfl, _, _, rfl, rfl, rfl⟩, List.nil_sublist _, rfl, rfl⟩
 ·
  replace hm0 := cond_f hc0 hm0
  refine V.skip ?_
  refine V.seq ?_
  replace hm0 := asrt_some hm0; rcases hm0 with ⟨hh2, hm0⟩
  replace hm0 := asrt_some hm0; rcases hm0 with ⟨hh3, hm0⟩
  replace hm0 := asrt_some hm0; rcases hm0 with ⟨hh4, hm0⟩
  refine V.regionM 34 17 [⟨[(0, none)], [], none⟩, ⟨[(8, none)], [], none⟩, ⟨[(19, some 1), (20, some 0)], [], none⟩, ⟨[(21, some 0)], [], none⟩, ⟨[(22, some 0)], [], none⟩, ⟨[(0, none)], [], none⟩, ⟨[(8, none)], [], none⟩, ⟨[(24, some 1), (25, some 0)], [], none⟩, ⟨[(26, some 0)], [], none⟩, ⟨[(27, some 0)], [], none⟩, ⟨[(0, none)], [], none⟩, ⟨[(8, none)], [], none⟩, ⟨[(29, some 1), (30, some 0)], [], none⟩, ⟨[(31, some 0)], [], none⟩, ⟨[(32, some 0)], [], none⟩, ⟨[(23, some 10)], [], none⟩, ⟨[(28, some 6)], [], none⟩] [(4, some 1), (5, some 0), (33, some 2)] (⟨_, rfl, ⟨_, rfl, ⟨_, rfl, ⟨_, rfl, ⟨_, rfl, ⟨_, rfl, ⟨_, rfl, ⟨_, rfl, ⟨_, rfl, ⟨_, rfl, ⟨_, rfl, ⟨_, rfl, ⟨_, rfl, ⟨_, rfl, ⟨_, rfl, ⟨_, rfl, ⟨_, rfl, ⟨rfl, rfl⟩⟩⟩⟩⟩⟩⟩⟩⟩⟩⟩⟩⟩⟩⟩⟩⟩⟩) mixed_orders rfl (by decide +kernel) (fun hck4 => ?_)
  refine VP.step (p := ?pv41) rfl rfl rfl (⟨_, _, rfl, rfl, rfl⟩) ?hv41 ?rest41 hck4
  case hv41 =>
   intro E1
   refine (V1.mv ?_)
   exact rfl
  refine VP.step (p := ?pv42) rfl rfl rfl (⟨_, _, rfl, rfl, rfl⟩) ?hv42 ?rest42 hck4
  case hv42 =>
   intro E1
   refine (V1.mv ?_)
   exact rfl
  refine VP.step (p := ?pv43) rfl rfl rfl (⟨_, _, rfl, rfl, _, _, rfl, rfl, rfl⟩) ?hv43 ?rest43 hck4
  case hv43 =>
   intro E1
   refine (V1.indexI rfl rfl esz_39 rfl rfl hh2 lt0 ?_)
   exact rfl
  refine VP.step (p := ?pv44) rfl rfl rfl (⟨_, _, rfl, rfl, rfl⟩) ?hv44 ?rest44 hck4
  case hv44 =>
   intro E1
   refine (V1.fieldPin rfl rfl fo_67_0 rfl lt0 ?_)
   exact rfl
  refine VP.step (p := ?pv45) rfl rfl rfl (⟨_, _, rfl, rfl, rfl⟩) ?hv45 ?rest45 hck4
  case hv45 =>
   intro E1
   refine (V1.loadPin rfl rfl tyk_3 rfl rfl lt0 ?_)
   exact rfl
  refine VP.step (p := ?pv46) rfl rfl rfl (⟨_, _, rfl, rfl, rfl⟩) ?hv46 ?rest46 hck4
  case hv46 =>
   intro E1
   refine (V1.mv ?_)
   exact rfl
  refine VP.step (p := ?pv47) rfl rfl rfl (⟨_, _, rfl, rfl, rfl⟩) ?hv47 ?rest47 hck4
  case hv47 =>
   intro E1
   refine (V1.mv ?_)
   exact rfl
  refine VP.step (p := ?pv48) rfl rfl rfl (⟨_, _, rfl, rfl, _, _, rfl, rfl, rfl⟩) ?hv48 ?rest48 hck4
  case hv48 =>
   intro E1
   refine (V1.indexI rfl rfl esz_39 rfl rfl hh3 lt0 ?_)
   exact rfl
  refine VP.step (p := ?pv49) rfl rfl rfl (⟨_, _, rfl, rfl, rfl⟩) ?hv49 ?rest49 hck4
  case hv49 =>
   intro E1
   refine (V1.fieldPin rfl rfl fo_67_2 rfl lt0 ?_)
   exact rfl
  refine VP.step (p := ?pv50) rfl rfl rfl (⟨_, _, rfl, rfl, rfl⟩) ?hv50 ?rest50 hck4
  case hv50 =>
   intro E1
   refine (V1.loadPin rfl rfl tyk_3 rfl rfl lt0 ?_)
   exact rfl
  refine VP.step (p := ?pv51) rfl rfl rfl (⟨_, _, rfl, rfl, rfl⟩) ?hv51 ?rest51 hck4
  case hv51 =>
   intro E1
   refine (V1.mv ?_)
   exact rfl
  refine VP.step (p := ?pv52) rfl rfl rfl (⟨_, _, rfl, rfl, rfl⟩) ?hv52 ?rest52 hck4
  case hv52 =>
   intro E1
   refine (V1.mv ?_)
   exact rfl
  refine VP.step (p := ?pv53) rfl rfl rfl (⟨_, _, rfl, rfl, _, _, rfl, rfl, rfl⟩) ?hv53 ?rest53 hck4
  case hv53 =>
   intro E1
   refine (V1.indexI rfl rfl esz_39 rfl rfl hh4 lt0 ?_)
   exact rfl
  refine VP.step (p := ?pv54) rfl rfl rfl (⟨_, _, rfl, rfl, rfl⟩) ?hv54 ?rest54 hck4
  case hv54 =>
   intro E1
   refine (V1.fieldPin rfl rfl fo_67_1 rfl lt0 ?_)
   exact rfl
  refine VP.step (p := ?pv55) rfl rfl rfl (⟨_, _, rfl, rfl, rfl⟩) ?hv55 ?rest55 hck4
  case hv55 =>
   intro E1
   refine (V1.loadPin rfl rfl tyk_3 rfl rfl lt0 ?_)
   exact rfl
  refine VP.step (p := ?pv56) rfl rfl rfl (⟨_, _, rfl, rfl, rfl⟩) ?hv56 ?rest56 hck4
  case hv56 =>
   intro E1
   refine (V1.as ?_)
   exact rfl
  refine VP.step (p := ?pv57) rfl rfl rfl (⟨_, _, rfl, rfl, rfl⟩) ?hv57 ?rest57 hck4
  case hv57 =>
   intro E1
   refine (V1.as ?_)
   exact rfl
  refine VP.fin rfl (⟨_, _, rfl, rfl, _, _, rfl, rfl, _, _, rfl, rfl, rfl⟩) ?_
  refine VO.cons rfl (V1.as ?_)
  refine VO.cons rfl (V1.as ?_)
  refine VO.nil (V.ret ?_)
  obtain rfl := oi hm0
  exact ⟨_, [], ⟨_, _, rfl, rfl, _, _, rfl, rfl, _, _, rfl, rfl, _, _, rfl, rfl, rfl⟩, List.nil_sublist _, rfl, rfl⟩
theorem ok_spec_DrawMoveCarton {ρ0 rn : Nat} {code : List Int} {r : List Carton × Int × Int × Int} (h : M.spec_DrawMoveCarton code = some r) : Does Try.prog 46 [.vl ρ0 1 (List.map encU8 code)] [] rn (fun x H => ∃ (ob0_ : Nat), x = .tup [PV.sref ob0_ 5 0 (List.length r.1), .int .i64 r.2.1, .int .i64 r.2.2.1, .int .i64 r.2.2.2] ∧ H = [(ob0_, ⟨5, List.map (encCarton rn) r.1⟩)]) := by
 have hm0 := h; clear h; unfold M.spec_DrawMoveCarton at hm0
 try dsimp only at hm0
 refine Does.intro (N := 33) Try.func46 rfl rfl rfl rfl ?_
 intro w0 S0
 refine V.seq (V.region (VO.cons rfl (V1.as ?_)))
 refine VO.cons rfl (V1.as ?_)
 refine VO.cons rfl (V1.as ?_)
 refine VO.cons rfl (V1.as ?_)
 refine VO.nil (V.keep 33 [0] [] (E0 := [(0, .vl ρ0 1 (List.map encU8 code))]) (H0 := []) rfl (⟨_, _, rfl, rfl, rfl⟩) (rfl) rfl ?_)
 refine V.seq (V.region (VO.cons rfl (V1.mv ?_)))
 refine VO.cons rfl (V1.build rfl rfl zk_99 pl_99 rfl rfl lt0 ?_)
 refine VO.cons rfl (V1.boxN (n := 3) rfl rfl rfl rfl rfl lt0 ?_)
 intro b0
 refine VO.cons rfl (V1.as ?_)
 refine VO.nil (V.keep 33 [6] [0] (E0 := [(6, .ref b0 3 0 0)]) (H0 := [(b0, ⟨3, [.agg [.vl ρ0 1 (List.map encU8 code), .int .i64 (0 : Int), .int .u64 (0 : Int)]]⟩)]) rfl (⟨_, _, rfl, rfl, rfl⟩) (⟨_, _, rfl, rfl, rfl⟩) rfl ?_)
 refine V.seq ?_
 replace hm0 := bindO hm0; rcases hm0 with ⟨y0, hh0, hm0⟩
 refine V.region (VO.cons rfl (V1.mv ?_))
 refine VO.cons rfl (V1.callM 0 (rn + ρ0 + 1) [] [.ref b0 3 0 0] (p := (b0, ⟨3, [.agg [.vl ρ0 1 (List.map encU8 code), .int .i64 (0 : Int), .int .u64 (0 : Int)]]⟩)) rfl rfl rfl cok_84 rfl rfl ⟨_, _, rfl, .same _, rfl⟩ bwNil (ok_spec_l1Cur_cartons hh0) rfl (.inl rfl) lt0 ?_)
 rintro _ _ ⟨b1, rfl, rfl⟩
 refine VO.cons rfl (V1.as ?_)
 refine VO.nil (V.seq ?_)
 replace hm0 := bindO hm0; rcases hm0 with ⟨y1, hh1, hm0⟩
 replace hm0 := bindO hm0; rcases hm0 with ⟨y2, hh2, hm0⟩
 replace hm0 := asrt_some hm0; rcases hm0 with ⟨hh3, hm0⟩
 replace hm0 := bindO hm0; rcases hm0 with ⟨y3, hh4, hm0⟩
 replace hm0 := bindO hm0; rcases hm0 with ⟨y4, hh5, hm0⟩
 replace hm0 := asrt_some hm0; rcases hm0 with ⟨hh6, hm0⟩
 replace hm0 := bindO hm0; rcases hm0 with ⟨y5, hh7, hm0⟩
 refine V.region (VO.cons rfl (V1.mv ?_))
 refine VO.cons rfl (V1.mv ?_)
 refine VO.cons rfl (V1.mv ?_)
 refine VO.cons rfl (V1.callM 1 (rn + ρ0 + 1) [b1] [.ref b0 3 0 0, .vl (rn + ρ0 + 1) 5 (List.map (encCarton rn) y0.1)] (p := (b0, ⟨3, [encCur ρ0 y0.2]⟩)) rfl rfl rfl cok_86 rfl rfl ⟨_, _, rfl, .same _, ⟨_, _, rfl, Lend.srMap 0 rfl (fun _ => rfl) (.head _), rfl⟩⟩ (bwCons (k := 0) rfl bwNil) (ok_spec_l1Cur_cartonId hh1) rfl (.inr ⟨(by first | omega | (dsimp only; omega)), by rintro _ _ ⟨rfl, rfl⟩; exact ⟨by simp [PV.no, PV.noL, optS_no, noL_iff, nbeq] <;> omega, by intro b ob h; first | exact optH_no (noL_map (fun _ => by simp [PV.no, PV.noL, noL_iff, nbeq]) _) b ob h | (simp only [List.append_assoc, List.mem_append, List.mem_cons, List.mem_singleton, List.not_mem_nil, or_false, Prod.mk.injEq] at h; rcases h with ⟨rfl, rfl⟩ | ⟨rfl, rfl⟩ <;> first | exact noL_map (fun _ => by simp [PV.no, PV.noL, noL_iff, nbeq]) _ | (simp [PV.no, PV.noL, optS_no, noL_iff, nbeq] <;> omega)) | (simp at h; obtain ⟨rfl, rfl⟩ := h; exact noL_map (fun _ => by simp [PV.no, PV.noL, noL_iff, nbeq]) _) | (simp at h; obtain ⟨rfl, rfl⟩ := h; simp [PV.no, PV.noL, optS_no, noL_iff, nbeq] <;> omega)⟩⟩) lt0 ?_)
 rintro _ _ ⟨rfl, rfl⟩
 refine VO.cons rfl (V1.mv ?_)
 refine VO.cons rfl (V1.buildSliceT (f := encInt) ([(1 : Int), (1 : Int), (2 : Int), (9 : Int), (0 : Int), (10 : Int)] : List Int) rfl rfl esz_36 zk_3 rfl rfl rfl rfl rfl rfl rfl lt0 ?_)
 intro b2
 refine VO.cons rfl (V1.mv ?_)
 refine VO.cons rfl (V1.callM 1 (rn + ρ0 + 1) [] [.ref b0 3 0 0, .int .i64 (24 : Int)] (p := (b0, ⟨3, [encCur ρ0 y1.2]⟩)) rfl rfl rfl cok_94 rfl rfl ⟨_, _, rfl, .same _, ⟨_, _, rfl, .same _, rfl⟩⟩ bwNil (ok_spec_l1Cur_pick hh2) rfl (.inl rfl) lt0 ?_)
 rintro _ _ ⟨rfl, rfl⟩
 refine VO.cons rfl (V1.quo rfl rfl rfl rfl (by decide) lt0 ?_)
 refine VO.cons rfl (V1.it ?_)
 refine VO.weakenK (Keeps.freezeG 1 rn [(18, .vl rn 1 (List.map encInt ([(1 : Int), (1 : Int), (2 : Int), (9 : Int), (0 : Int), (10 : Int)] : List Int)))] ([(b0, ⟨3, [encCur ρ0 y2.2]⟩), (b1, ⟨5, List.map (encCarton rn) y0.1⟩)]) (f := encInt) (l := ([(1 : Int), (1 : Int), (2 : Int), (9 : Int), (0 : Int), (10 : Int)] : List Int)) rfl (fun _ => rfl) ⟨⟨_, rfl, .here⟩, trivial⟩ ⟨_, _, rfl, rfl, .inl rfl, ⟨_, _, rfl, rfl, .inl rfl, rfl⟩⟩ rfl iNil) ?_
 refine VO.cons rfl (V1.sliceMap (a := (0 : Int)) (b := (IntKind.i64.wrap ((4 : Int) + (IntKind.i64.wrap (Int.tdiv y2.1 (11 : Int)))))) rfl rfl esz_36 rfl (Bnd.none _ _) (Bnd.some rfl (Int.le_trans hh3.1 hh3.2.1) _) hh3 lt0 ?_)
 refine VO.cons rfl (V1.callM 0 (rn + ρ0 + 1) [] [.ref b0 3 0 0, .vl rn 1 (List.map encInt (slc ([(1 : Int), (1 : Int), (2 : Int), (9 : Int), (0 : Int), (10 : Int)] : List Int) (0 : Int) (IntKind.i64.wrap ((4 : Int) + (IntKind.i64.wrap (Int.tdiv y2.1 (11 : Int)))))))] (p := (b0, ⟨3, [encCur ρ0 y2.2]⟩)) rfl rfl rfl cok_93 rfl rfl ⟨_, _, rfl, .same _, ⟨_, _, rfl, .same _, rfl⟩⟩ bwNil (ok_spec_l1Cur_among hh4) rfl (.inl rfl) lt0 ?_)
 rintro _ _ ⟨rfl, rfl⟩
 refine VO.cons rfl (V1.mv ?_)
 refine VO.cons rfl (V1.buildSliceT (f := encInt) ([(1 : Int), (1 : Int), (2 : Int), (30 : Int), (0 : Int), (31 : Int)] : List Int) rfl rfl esz_36 zk_3 rfl rfl rfl rfl rfl rfl rfl lt0 ?_)
 intro b3
 refine VO.cons rfl (V1.mv ?_)
 refine VO.cons rfl (V1.callM 1 (rn + ρ0 + 1) [] [.ref b0 3 0 0, .int .i64 (24 : Int)] (p := (b0, ⟨3, [encCur ρ0 y3.2]⟩)) rfl rfl rfl cok_94 rfl rfl ⟨_, _, rfl, .same _, ⟨_, _, rfl, .same _, rfl⟩⟩ bwNil (ok_spec_l1Cur_pick hh5) rfl (.inl rfl) lt0 ?_)
 rintro _ _ ⟨rfl, rfl⟩
 refine VO.cons rfl (V1.quo rfl rfl rfl rfl (by decide) lt0 ?_)
 refine VO.cons rfl (V1.it ?_)
 refine VO.weakenK (Keeps.freezeG 1 rn [(26, .vl rn 1 (List.map encInt ([(1 : Int), (1 : Int), (2 : Int), (30 : Int), (0 : Int), (31 : Int)] : List Int)))] ([(b0, ⟨3, [encCur ρ0 y4.2]⟩), (b1, ⟨5, List.map (encCarton rn) y0.1⟩)]) (f := encInt) (l := ([(1 : Int), (1 : Int), (2 : Int), (30 : Int), (0 : Int), (31 : Int)] : List Int)) rfl (fun _ => rfl) ⟨⟨_, rfl, .here⟩, trivial⟩ ⟨_, _, rfl, rfl, .inl rfl, ⟨_, _, rfl, rfl, .inl rfl, rfl⟩⟩ rfl iNil) ?_
 refine VO.cons rfl (V1.sliceMap (a := (0 : Int)) (b := (IntKind.i64.wrap ((4 : Int) + (IntKind.i64.wrap (Int.tdiv y4.1 (11 : Int)))))) rfl rfl esz_36 rfl (Bnd.none _ _) (Bnd.some rfl (Int.le_trans hh6.1 hh6.2.1) _) hh6 lt0 ?_)
 refine VO.cons rfl (V1.callM 0 (rn + ρ0 + 1) [] [.ref b0 3 0 0, .vl rn 1 (List.map encInt (slc ([(1 : Int), (1 : Int), (2 : Int), (30 : Int), (0 : Int), (31 : Int)] : List Int) (0 : Int) (IntKind.i64.wrap ((4 : Int) + (IntKind.i64.wrap (Int.tdiv y4.1 (11 : Int)))))))] (p := (b0, ⟨3, [encCur ρ0 y4.2]⟩)) rfl rfl rfl cok_93 rfl rfl ⟨_, _, rfl, .same _, ⟨_, _, rfl, .same _, rfl⟩⟩ bwNil (ok_spec_l1Cur_among hh7) rfl (.inl rfl) lt0 ?_)
 rintro _ _ ⟨rfl, rfl⟩
 refine VO.cons rfl (V1.as ?_)
 refine VO.cons rfl (V1.as ?_)
 refine VO.cons rfl (V1.as ?_)
 refine VO.cons rfl (V1.as ?_)
 refine VO.nil (V.keep 33 [2, 3, 4, 5] [1] (E0 := [(2, .sref b1 5 0 (List.length y0.1)), (3, .int .i64 y1.1), (4, .int .i64 y3.1), (5, .int .i64 y5.1)]) (H0 := [(b1, ⟨5, List.map (encCarton rn) y0.1⟩)]) rfl (⟨_, _, rfl, rfl, _, _, rfl, rfl, _, _, rfl, rfl, _, _, rfl, rfl, rfl⟩) (⟨_, _, rfl, rfl, rfl⟩) rfl ?_)
 refine V.ret ?_
 obtain rfl := oi hm0
 exact ⟨_, _, ⟨_, _, rfl, rfl, _, _, rfl, rfl, _, _, rfl, rfl, _, _, rfl, rfl, rfl⟩, List.Sublist.refl _, b1, rfl, rfl⟩
theorem ok_impl_MoveCarton {ρ0 rn : Nat} {list : List Carton} {id_ : Int} {room : Int} {shelf : Int} {r : List Carton × Bool} (h : M.impl_MoveCarton list id_ room shelf = some r) : Does Try.prog 32 [.vl ρ0 5 (List.map (encCarton ρ0) list), .int .i64 id_, .int .i64 room, .int .i64 shelf] [] rn (fun x H => ∃ (ob0_ : Option Nat) (ts_ : List PV) (os_ : List (Nat × Obj')), (ob0_ = none → r.1 = []) ∧ (Deep 1 (fun c_ : Carton => List.map encInt c_.Files) ts_ os_ r.1) ∧ x = .tup [optS 5 ob0_ (List.length r.1), .bool r.2] ∧ H = (optH 5 ob0_ (deepC cellCarton ts_ r.1) ++ os_)) := by
 have hm0 := h; clear h; unfold M.impl_MoveCarton at hm0
 try dsimp only at hm0
 refine Does.intro (N := 38) Try.func32 rfl rfl rfl rfl ?_
 intro w0 S0
 refine V.seq (V.region (VO.cons rfl (V1.as ?_)))
 refine VO.cons rfl (V1.as ?_)
 refine VO.nil (V.seq ?_)
 replace hm0 := bindO hm0; rcases hm0 with ⟨y0, hh0, hm0⟩
 refine V.region (VO.cons rfl (V1.mv ?_))
 refine VO.cons rfl (V1.mv ?_)
 refine VO.cons rfl (V1.call rfl rfl rfl cok_65 rfl (ok_impl_cartonAt hh0) rfl lt0 ?_)
 rintro _ _ ⟨rfl, rfl⟩
 refine VO.cons rfl (V1.as ?_)
 refine VO.nil (V.keep 38 [0, 2, 3, 10] [] (E0 := [(0, .vl ρ0 5 (List.map (encCarton ρ0) list)), (2, .int .i64 room), (3, .int .i64 shelf), (10, .int .i64 y0)]) (H0 := []) rfl (⟨_, _, rfl, rfl, _, _, rfl, rfl, _, _, rfl, rfl, _, _, rfl, rfl, rfl⟩) (rfl) rfl ?_)
 refine V.seq (V.seq ?_)
 replace hm0 := bindO hm0; rcases hm0 with ⟨y1, hh1, hm0⟩
 refine V.region (VO.cons rfl (V1.mv ?_))
 refine VO.cons rfl (V1.call rfl rfl rfl cok_45 rfl (ok_impl_AreCartons hh1) rfl lt0 ?_)
 rintro _ _ ⟨rfl, rfl⟩
 refine VO.cons rfl (V1.not rfl rfl rfl lt0 ?_)
 refine VO.cons rfl (V1.mv ?_)
 apply VO.or (n := 2) rfl rfl rfl rfl rfl rfl lt0 (.none rfl)
 ·
  intro hg0
  refine VO.step (.some rfl rfl rfl) (V1.mv ?_)
  refine VO.step (.some rfl rfl rfl) (V1.it ?_)
  exact VO.nil ⟨rfl, rfl, rfl, rfl, .inr ⟨rfl, .inr ⟨rfl, .inr ⟨rfl, .inl rfl⟩⟩⟩⟩
 refine VO.nil (V.keep 38 [0, 2, 3, 10, 21] [] (E0 := [(0, .vl ρ0 5 (List.map (encCarton ρ0) list)), (2, .int .i64 room), (3, .int .i64 shelf), (10, .int .i64 y0), (21, .bool ((!y1) || (decide (y0 < (0 : Int)))))]) (H0 := []) rfl (⟨_, _, rfl, rfl, _, _, rfl, rfl, _, _, rfl, rfl, _, _, rfl, rfl, _, _, rfl, rfl, rfl⟩) (rfl) rfl ?_)
 refine V.cond rfl (fun hc0 => ?_) (fun hc0 => ?_)
 ·
  replace hm0 := cond_t hc0 hm0
  refine V.seq (V.region (VO.cons rfl (V1.as ?_)))
  refine VO.cons rfl (V1.as ?_)
  refine VO.nil (V.keep 38 [8, 9] [] (E0 := [(8, .nils), (9, .bool false)]) (H0 := []) rfl (⟨_, _, rfl, rfl, _, _, rfl, rfl, rfl⟩) (rfl) rfl ?_)
  refine V.ret ?_
  obtain rfl := oi hm0
  exact ⟨_, _, ⟨_, _, rfl, rfl, _, _, rfl, rfl, rfl⟩, List.Sublist.refl _, none, [], [], (fun _ => rfl), (Deep.ofNil rfl), rfl, rfl⟩
 ·
  replace hm0 := cond_f hc0 hm0
  refine V.skip ?_
  refine V.seq ?_
  replace hm0 := bindO hm0; rcases hm0 with ⟨y2, hh2, hm0⟩
  refine V.region (VO.cons rfl (V1.mv ?_))
  refine VO.cons rfl (V1.permK (V1.call rfl rfl rfl cok_66 rfl (ok_impl_copyCartons hh2) rfl lt0 ?_))
  rintro _ _ ⟨ob0, ts_14, os_14, hob0, hd_14, rfl, rfl⟩
  refine ⟨_, ?_, Keeps.perm (optH 5 ob0 (deepC cellCarton ts_14 y2) ++ (([] : List (Nat × Obj')) ++ os_14)) (permDeepO1 (o := optH 5 ob0 (deepC cellCarton ts_14 y2)) (os := os_14) (A := []))⟩
  refine VO.cons rfl (V1.as ?_)
  refine VO.nil ?_
  rcases ob0 with _ | ob0
  ·
   obtain ⟨rfl, rfl⟩ := Deep.nil (hob0 rfl) hd_14
   refine V.seq ?_
   replace hm0 := asrt_some hm0; rcases hm0 with ⟨hh3, hm0⟩
   refine V.region (VO.cons rfl (V1.mv ?_))
   refine VO.cons rfl (V1.mv ?_)
   refine VO.cons rfl (V1.mv ?_)
   refine VO.cons rfl (V1.mv ?_)
   refine VO.cons rfl (V1.mv ?_)
   refine VO.cons rfl (V1.mv ?_)
   refine VO.weakenK (Keeps.nilsE (l := y2) 24 rn 5 (encCarton rn) (hob0 rfl) rfl rfl) ?_
   refine VO.cons rfl (V1.indexI rfl rfl esz_39 rfl rfl hh3 lt0 ?_)
   refine VO.cons rfl (V1.fieldPin rfl rfl fo_67_2 rfl lt0 ?_)
   exact (nilsNo (hob0 rfl) hh3).elim
  ·
   refine V.seq ?_
   replace hm0 := asrt_some hm0; rcases hm0 with ⟨hh3, hm0⟩
   replace hm0 := asrt_some hm0; rcases hm0 with ⟨hh4, hm0⟩
   refine V.region (VO.cons rfl (V1.mv ?_))
   refine VO.cons rfl (V1.mv ?_)
   refine VO.cons rfl (V1.mv ?_)
   refine VO.cons rfl (V1.mv ?_)
   refine VO.cons rfl (V1.mv ?_)
   refine VO.cons rfl (V1.mv ?_)
   refine VO.cons rfl (V1.indexSr rfl rfl esz_39 rfl rfl hh3 lt0 ?_)
   refine VO.cons rfl (V1.fieldRef rfl rfl fo_67_2 rfl lt0 ?_)
   refine VO.cons rfl (V1.storeDeepCell (inn := (fun c_ : Carton => List.map encInt c_.Files)) (cell := cellCarton) (ts := ts_14) (xs := y2) (k := 0) cokCarton (⟨(y2.getD (Int.toNat y0) default).Id, (y2.getD (Int.toNat y0) default).Shelf, room, (y2.getD (Int.toNat y0) default).Files, (y2.getD (Int.toNat y0) default).Thick⟩ : Carton) rfl rfl tyk_3 rfl rfl hd_14 (by simpa using natLt hh3.1 hh3.2) rfl rfl rfl rfl (fun _ => rfl) ?_)
   have hd_18 := Deep.setSame (i := (Int.toNat y0)) (⟨(y2.getD (Int.toNat y0) default).Id, (y2.getD (Int.toNat y0) default).Shelf, room, (y2.getD (Int.toNat y0) default).Files, (y2.getD (Int.toNat y0) default).Thick⟩ : Carton) rfl hd_14
   refine VO.weakenK (Keeps.say 11 (y := .sref ob0 5 0 (List.length (y2.set (Int.toNat y0) (⟨(y2.getD (Int.toNat y0) default).Id, (y2.getD (Int.toNat y0) default).Shelf, room, (y2.getD (Int.toNat y0) default).Files, (y2.getD (Int.toNat y0) default).Thick⟩ : Carton)))) rfl (by simp [optS])) ?_
   refine VO.weakenK (Keeps.say 26 (y := .sref ob0 5 0 (List.length (y2.set (Int.toNat y0) (⟨(y2.getD (Int.toNat y0) default).Id, (y2.getD (Int.toNat y0) default).Shelf, room, (y2.getD (Int.toNat y0) default).Files, (y2.getD (Int.toNat y0) default).Thick⟩ : Carton)))) rfl (by simp [optS])) ?_
   refine VO.cons rfl (V1.indexSr rfl rfl esz_39 rfl rfl hh4 lt0 ?_)
   refine VO.cons rfl (V1.fieldRef rfl rfl fo_67_1 rfl lt0 ?_)
   refine VO.cons rfl (V1.storeDeepCell (inn := (fun c_ : Carton => List.map encInt c_.Files)) (cell := cellCarton) (ts := ts_14) (xs := (y2.set (Int.toNat y0) (⟨(y2.getD (Int.toNat y0) default).Id, (y2.getD (Int.toNat y0) default).Shelf, room, (y2.getD (Int.toNat y0) default).Files, (y2.getD (Int.toNat y0) default).Thick⟩ : Carton))) (k := 0) cokCarton (⟨((y2.set (Int.toNat y0) (⟨(y2.getD (Int.toNat y0) default).Id, (y2.getD (Int.toNat y0) default).Shelf, room, (y2.getD (Int.toNat y0) default).Files, (y2.getD (Int.toNat y0) default).Thick⟩ : Carton)).getD (Int.toNat y0) default).Id, shelf, ((y2.set (Int.toNat y0) (⟨(y2.getD (Int.toNat y0) default).Id, (y2.getD (Int.toNat y0) default).Shelf, room, (y2.getD (Int.toNat y0) default).Files, (y2.getD (Int.toNat y0) default).Thick⟩ : Carton)).getD (Int.toNat y0) default).Room, ((y2.set (Int.toNat y0) (⟨(y2.getD (Int.toNat y0) default).Id, (y2.getD (Int.toNat y0) default).Shelf, room, (y2.getD (Int.toNat y0) default).Files, (y2.getD (Int.toNat y0) default).Thick⟩ : Carton)).getD (Int.toNat y0) default).Files, ((y2.set (Int.toNat y0) (⟨(y2.getD (Int.toNat y0) default).Id, (y2.getD (Int.toNat y0) default).Shelf, room, (y2.getD (Int.toNat y0) default).Files, (y2.getD (Int.toNat y0) default).Thick⟩ : Carton)).getD (Int.toNat y0) default).Thick⟩ : Carton) rfl rfl tyk_3 rfl rfl hd_18 (by simpa using natLt hh4.1 hh4.2) rfl rfl rfl rfl (fun _ => rfl) ?_)
   have hd_19 := Deep.setSame (i := (Int.toNat y0)) (⟨((y2.set (Int.toNat y0) (⟨(y2.getD (Int.toNat y0) default).Id, (y2.getD (Int.toNat y0) default).Shelf, room, (y2.getD (Int.toNat y0) default).Files, (y2.getD (Int.toNat y0) default).Thick⟩ : Carton)).getD (Int.toNat y0) default).Id, shelf, ((y2.set (Int.toNat y0) (⟨(y2.getD (Int.toNat y0) default).Id, (y2.getD (Int.toNat y0) default).Shelf, room, (y2.getD (Int.toNat y0) default).Files, (y2.getD (Int.toNat y0) default).Thick⟩ : Carton)).getD (Int.toNat y0) default).Room, ((y2.set (Int.toNat y0) (⟨(y2.getD (Int.toNat y0) default).Id, (y2.getD (Int.toNat y0) default).Shelf, room, (y2.getD (Int.toNat y0) default).Files, (y2.getD (Int.toNat y0) default).Thick⟩ : Carton)).getD (Int.toNat y0) default).Files, ((y2.set (Int.toNat y0) (⟨(y2.getD (Int.toNat y0) default).Id, (y2.getD (Int.toNat y0) default).Shelf, room, (y2.getD (Int.toNat y0) default).Files, (y2.getD (Int.toNat y0) default).Thick⟩ : Carton)).getD (Int.toNat y0) default).Thick⟩ : Carton) rfl hd_18
   have hu_19 : ((y2.set (Int.toNat y0) (⟨(y2.getD (Int.toNat y0) default).Id, (y2.getD (Int.toNat y0) default).Shelf, room, (y2.getD (Int.toNat y0) default).Files, (y2.getD (Int.toNat y0) default).Thick⟩ : Carton)).set (Int.toNat y0) (⟨((y2.set (Int.toNat y0) (⟨(y2.getD (Int.toNat y0) default).Id, (y2.getD (Int.toNat y0) default).Shelf, room, (y2.getD (Int.toNat y0) default).Files, (y2.getD (Int.toNat y0) default).Thick⟩ : Carton)).getD (Int.toNat y0) default).Id, shelf, ((y2.set (Int.toNat y0) (⟨(y2.getD (Int.toNat y0) default).Id, (y2.getD (Int.toNat y0) default).Shelf, room, (y2.getD (Int.toNat y0) default).Files, (y2.getD (Int.toNat y0) default).Thick⟩ : Carton)).getD (Int.toNat y0) default).Room, ((y2.set (Int.toNat y0) (⟨(y2.getD (Int.toNat y0) default).Id, (y2.getD (Int.toNat y0) default).Shelf, room, (y2.getD (Int.toNat y0) default).Files, (y2.getD (Int.toNat y0) default).Thick⟩ : Carton)).getD (Int.toNat y0) default).Files, ((y2.set (Int.toNat y0) (⟨(y2.getD (Int.toNat y0) default).Id, (y2.getD (Int.toNat y0) default).Shelf, room, (y2.getD (Int.toNat y0) default).Files, (y2.getD (Int.toNat y0) default).Thick⟩ : Carton)).getD (Int.toNat y0) default).Thick⟩ : Carton)) = (y2.set (Int.toNat y0) (⟨(y2.getD (Int.toNat y0) default).Id, shelf, room, (y2.getD (Int.toNat y0) default).Files, (y2.getD (Int.toNat y0) default).Thick⟩ : Carton)) := set_upd (fun y_ => (⟨y_.Id, shelf, y_.Room, y_.Files, y_.Thick⟩ : Carton)) (by simpa using natLt hh3.1 hh3.2) rfl
   refine VO.weakenK (Keeps.sayObj 0 (ys := deepC cellCarton ts_14 (y2.set (Int.toNat y0) (⟨(y2.getD (Int.toNat y0) default).Id, shelf, room, (y2.getD (Int.toNat y0) default).Files, (y2.getD (Int.toNat y0) default).Thick⟩ : Carton))) rfl (congrArg (deepC cellCarton ts_14) hu_19)) ?_
   rw [hu_19] at hd_19
   refine VO.weakenK (Keeps.say 11 (y := .sref ob0 5 0 (List.length (y2.set (Int.toNat y0) (⟨(y2.getD (Int.toNat y0) default).Id, shelf, room, (y2.getD (Int.toNat y0) default).Files, (y2.getD (Int.toNat y0) default).Thick⟩ : Carton)))) rfl (by simp [optS])) ?_
   refine VO.nil (V.keepT 38 [11] [0] (E0 := [(11, .sref ob0 5 0 (List.length (y2.set (Int.toNat y0) (⟨(y2.getD (Int.toNat y0) default).Id, shelf, room, (y2.getD (Int.toNat y0) default).Files, (y2.getD (Int.toNat y0) default).Thick⟩ : Carton))))]) (A := [(ob0, ⟨5, deepC cellCarton ts_14 (y2.set (Int.toNat y0) (⟨(y2.getD (Int.toNat y0) default).Id, shelf, room, (y2.getD (Int.toNat y0) default).Files, (y2.getD (Int.toNat y0) default).Thick⟩ : Carton))⟩)]) (T := os_14) (H0 := [(ob0, ⟨5, deepC cellCarton ts_14 (y2.set (Int.toNat y0) (⟨(y2.getD (Int.toNat y0) default).Id, shelf, room, (y2.getD (Int.toNat y0) default).Files, (y2.getD (Int.toNat y0) default).Thick⟩ : Carton))⟩)]) (T' := os_14) rfl (⟨_, _, rfl, rfl, rfl⟩) rfl (⟨_, _, rfl, rfl, rfl⟩) rfl (List.Sublist.refl _) ?_)
   refine V.seq (V.seq ?_)
   replace hm0 := bindO hm0; rcases hm0 with ⟨y3, hh5, hm0⟩
   refine V.region (VO.cons rfl (V1.mv ?_))
   refine VO.cons rfl (V1.callL (rn + 1) ([ob0] ++ List.map Prod.fst os_14) [.vl (rn + 1) 5 (List.map (encCarton (rn + 1)) (y2.set (Int.toNat y0) (⟨(y2.getD (Int.toNat y0) default).Id, shelf, room, (y2.getD (Int.toNat y0) default).Files, (y2.getD (Int.toNat y0) default).Thick⟩ : Carton)))] rfl rfl rfl cok_45 rfl ⟨_, _, rfl, Lend.deep (m := 1) (inn := (fun c_ : Carton => List.map encInt c_.Files)) (cell := cellCarton) cokCarton (ts := ts_14) (os := os_14) (xs := (y2.set (Int.toNat y0) (⟨(y2.getD (Int.toNat y0) default).Id, shelf, room, (y2.getD (Int.toNat y0) default).Files, (y2.getD (Int.toNat y0) default).Thick⟩ : Carton))) 0 hd_19 rfl (fun _ => roL_map (fun _ => rfl) _) rfl (fun p hp => memTail (A := [(ob0, ⟨5, deepC cellCarton ts_14 (y2.set (Int.toNat y0) (⟨(y2.getD (Int.toNat y0) default).Id, shelf, room, (y2.getD (Int.toNat y0) default).Files, (y2.getD (Int.toNat y0) default).Thick⟩ : Carton))⟩)]) (T := os_14) hp rfl) (List.mem_append_left _ (.head _)) (fun p hp => List.mem_append_right _ (List.mem_map.2 ⟨p, hp, rfl⟩)), rfl⟩ (bwTail (A := [(ob0, ⟨5, deepC cellCarton ts_14 (y2.set (Int.toNat y0) (⟨(y2.getD (Int.toNat y0) default).Id, shelf, room, (y2.getD (Int.toNat y0) default).Files, (y2.getD (Int.toNat y0) default).Thick⟩ : Carton))⟩)]) (T := os_14) rfl (bwCons (k := 0) rfl bwNil) (fun p hp => hp)) (ok_impl_AreCartons hh5) rfl (⟨(by first | omega | (dsimp only; omega)), by rintro _ _ ⟨rfl, rfl⟩; exact ⟨rfl, by simp⟩⟩) lt0 ?_)
   rintro _ _ ⟨rfl, rfl⟩
   refine VO.cons rfl (V1.not rfl rfl rfl lt0 ?_)
   refine VO.nil (V.cond rfl (fun hc1 => ?_) (fun hc1 => ?_))
   ·
    replace hm0 := cond_t hc1 hm0
    refine V.seq (V.region (VO.cons rfl (V1.as ?_)))
    refine VO.cons rfl (V1.as ?_)
    refine VO.nil (V.keepT 38 [8, 9] [] (E0 := [(8, .nils), (9, .bool false)]) (A := [(ob0, ⟨5, deepC cellCarton ts_14 (y2.set (Int.toNat y0) (⟨(y2.getD (Int.toNat y0) default).Id, shelf, room, (y2.getD (Int.toNat y0) default).Files, (y2.getD (Int.toNat y0) default).Thick⟩ : Carton))⟩)]) (T := os_14) (H0 := []) (T' := []) rfl (⟨_, _, rfl, rfl, _, _, rfl, rfl, rfl⟩) rfl (rfl) rfl (List.nil_sublist _) ?_)
    refine V.ret ?_
    obtain rfl := oi hm0
    exact ⟨_, _, ⟨_, _, rfl, rfl, _, _, rfl, rfl, rfl⟩, List.Sublist.refl _, none, [], [], (fun _ => rfl), (Deep.ofNil rfl), rfl, rfl⟩
   ·
    replace hm0 := cond_f hc1 hm0
    refine V.skip ?_
    refine V.seq (V.region (VO.cons rfl (V1.mv ?_)))
    refine VO.cons rfl (V1.as ?_)
    refine VO.cons rfl (V1.as ?_)
    refine VO.nil (V.keepT 38 [8, 9] [0] (E0 := [(8, .sref ob0 5 0 (List.length (y2.set (Int.toNat y0) (⟨(y2.getD (Int.toNat y0) default).Id, shelf, room, (y2.getD (Int.toNat y0) default).Files, (y2.getD (Int.toNat y0) default).Thick⟩ : Carton)))), (9, .bool true)]) (A := [(ob0, ⟨5, deepC cellCarton ts_14 (y2.set (Int.toNat y0) (⟨(y2.getD (Int.toNat y0) default).Id, shelf, room, (y2.getD (Int.toNat y0) default).Files, (y2.getD (Int.toNat y0) default).Thick⟩ : Carton))⟩)]) (T := os_14) (H0 := [(ob0, ⟨5, deepC cellCarton ts_14 (y2.set (Int.toNat y0) (⟨(y2.getD (Int.toNat y0) default).Id, shelf, room, (y2.getD (Int.toNat y0) default).Files, (y2.getD (Int.toNat y0) default).Thick⟩ : Carton))⟩)]) (T' := os_14) rfl (⟨_, _, rfl, rfl, _, _, rfl, rfl, rfl⟩) rfl (⟨_, _, rfl, rfl, rfl⟩) rfl (List.Sublist.refl _) ?_)
    refine V.ret ?_
    obtain rfl := oi hm0
    exact ⟨_, _, ⟨_, _, rfl, rfl, _, _, rfl, rfl, rfl⟩, List.Sublist.refl _, some ob0, ts_14, os_14, (fun e => by cases e), hd_19, rfl, rfl⟩
end Go.Proofs.Ytfebeomnlkfgoaa
