/- the functions do what their models say -/
import Derived.Test.YthffmnpbonkpaaaQk3
set_option linter.unusedSimpArgs false
set_option linter.unusedVariables false
set_option maxRecDepth 100000
set_option maxHeartbeats 4000000
namespace Go.Proofs.Ythffmnpbonkpaaa
open Go.VS

theorem ok_spec_AddEvent {ρ0 rn : Nat} {r_ : Record} {e_ : Event} {r : Record × Bool} (h : M.spec_AddEvent r_ e_ = some r) : Does Try.prog 159 [encRecord ρ0 r_, encEvent e_] [] rn (fun x H => x = .tup [encRecord rn r.1, .bool r.2] ∧ H = []) := by
 have hm0 := h; clear h; unfold M.spec_AddEvent at hm0
 try dsimp only at hm0
 refine Does.intro (N := 68) Try.func159 rfl rfl rfl rfl ?_
 intro w0 S0
 refine V.seq ?_
 refine V.region ?_
 refine VO.cons rfl (V1.boxN (n := 4) rfl rfl rfl rfl rfl (ltb rfl) ?_)
 intro b0
 refine VO.cons rfl (V1.boxN (n := 2) rfl rfl rfl rfl rfl (ltb rfl) ?_)
 intro b1
 refine VO.cons rfl (V1.alloc rfl rfl zk_26 (ltb rfl) ?_)
 intro b2
 refine VO.cons rfl (V1.assign rfl rfl rfl (ltb rfl) ?_)
 refine VO.nil ?_
 refine V.seq ?_
 refine V.seq ?_
 replace hm0 := bindO hm0; rcases hm0 with ⟨y0, hh0, hm0⟩
 replace hm0 := bindO hm0; rcases hm0 with ⟨y1, hh1, hm0⟩
 replace hm0 := bindO hm0; rcases hm0 with ⟨y2, hh2, hm0⟩
 refine V.region ?_
 refine VO.cons rfl (V1.loadRefAll (k := 2) rfl rfl tyk_26 rfl rfl rfl rfl rfl (ltb rfl) ?_)
 refine VO.cons rfl (V1.call rfl rfl rfl cok_268 rfl (ok_spec_l2Record hh0) rfl (ltb rfl) ?_)
 rintro _ _ ⟨rfl, rfl⟩
 refine VO.cons rfl (V1.not rfl rfl rfl (ltb rfl) ?_)
 refine VO.cons rfl (V1.move rfl rfl rfl (ltb rfl) ?_)
 apply VO.or (n := 3) rfl rfl rfl rfl rfl rfl (ltb rfl) (.none rfl)
 ·
  intro hg0
  refine VO.step (.some rfl rfl rfl) (V1.loadRefAll (k := 1) rfl rfl tyk_43 rfl rfl rfl rfl rfl (ltb rfl) ?_)
  refine VO.step (.some rfl rfl rfl) (V1.call rfl rfl rfl cok_274 rfl (ok_spec_l2Event (cond_f hg0 hh1)) rfl (ltb rfl) ?_)
  rintro _ _ ⟨rfl, rfl⟩
  refine VO.step (.some rfl rfl rfl) (V1.not rfl rfl rfl (ltb rfl) ?_)
  exact VO.nil ⟨rfl, rfl, rfl, rfl, .inr ⟨rfl, .inr ⟨rfl, .inr ⟨rfl, .inr ⟨rfl, .inl rfl⟩⟩⟩⟩⟩
 refine VO.cons rfl (V1.move rfl rfl rfl (ltb rfl) ?_)
 apply VO.or (n := 5) rfl rfl rfl rfl rfl rfl (ltb rfl) (.none rfl)
 ·
  intro hg1
  refine VO.step (.some rfl rfl rfl) (V1.loadRefAll (k := 2) rfl rfl tyk_26 rfl rfl rfl rfl rfl (ltb rfl) ?_)
  refine VO.step (.some rfl rfl rfl) (V1.fieldRef rfl rfl fo_43_0 rfl (ltb rfl) ?_)
  refine VO.step (.some rfl rfl rfl) (V1.loadRef (k := 1) rfl rfl tyk_3 rfl rfl rfl rfl rfl (ltb rfl) ?_)
  refine VO.step (.some rfl rfl rfl) (V1.call rfl rfl rfl cok_269 rfl (ok_spec_l2DayOf (cond_f hg1 hh2)) rfl (ltb rfl) ?_)
  rintro _ _ ⟨rfl, rfl⟩
  refine VO.step (.some rfl rfl rfl) (V1.int rfl rfl rfl rfl rfl (ltb rfl) ?_)
  exact VO.nil ⟨rfl, rfl, rfl, rfl, .inr ⟨rfl, .inr ⟨rfl, .inr ⟨rfl, .inr ⟨rfl, .inr ⟨rfl, .inr ⟨rfl, .inl rfl⟩⟩⟩⟩⟩⟩⟩
 refine VO.nil ?_
 refine V.keep 68 [2, 3, 4, 22] [0, 1, 2] (E0 := [(2, .ref b0 4 0 0), (3, .ref b1 2 0 0), (4, .ref b2 4 0 0), (22, .bool (((!y0) || (!y1)) || (decide (y2 ≥ (0 : Int)))))]) (H0 := [(b2, ⟨4, [.agg [.int .i64 (0 : Int), .int .i64 (0 : Int), .int .i64 (0 : Int), .nils]]⟩), (b1, ⟨2, [encEvent e_]⟩), (b0, ⟨4, [encRecord ρ0 r_]⟩)]) rfl (⟨_, _, rfl, rfl, ⟨_, _, rfl, rfl, ⟨_, _, rfl, rfl, ⟨_, _, rfl, rfl, rfl⟩⟩⟩⟩) (⟨_, _, rfl, rfl, ⟨_, _, rfl, rfl, ⟨_, _, rfl, rfl, rfl⟩⟩⟩) rfl ?_
 refine V.cond rfl (fun hc0 => ?_) (fun hc0 => ?_)
 ·
  replace hm0 := cond_t hc0 hm0
  refine V.seq ?_
  refine V.region ?_
  refine VO.cons rfl (V1.build rfl rfl zk_26 pl_26 rfl rfl (ltb rfl) ?_)
  refine VO.cons rfl (V1.storeRefAll (k := 0) rfl rfl tyk_26 rfl rfl rfl rfl rfl rfl ?_)
  refine VO.cons rfl (V1.assign rfl rfl rfl (ltb rfl) ?_)
  refine VO.nil ?_
  refine V.weakenK (Keeps.leObj 0 [.agg [.int .i64 (0 : Int), .int .i64 (0 : Int), .int .i64 (0 : Int), .vl rn 2 (List.map encEvent ([] : List Event))]] rfl (.cons (.agg (.cons .same (.cons .same (.cons .same (.cons (.nils (l := ([] : List Event)) (f := encEvent) rn 2 rfl rfl) .nil))))) .nil)) ?_
  refine V.ret ?_
  obtain rfl := Option.some.inj hm0
  exact ⟨_, [], ⟨_, _, rfl, ⟨_, _, 0, _, rfl, rfl, rfl, rfl, tyk_26, rfl⟩, ⟨_, _, rfl, rfl, rfl⟩⟩, List.nil_sublist _, rfl, rfl⟩
 ·
  replace hm0 := cond_f hc0 hm0
  refine V.skip ?_
  refine V.seq ?_
  refine V.region ?_
  refine VO.cons rfl (V1.assign rfl rfl rfl (ltb rfl) ?_)
  refine VO.nil ?_
  refine V.seq ?_
  replace hm0 := bindO hm0; rcases hm0 with ⟨e0, he1, hm0⟩
  refine V.cutT (D := (Int) × (Unit)) (fun ⟨i, _⟩ => ⟨68, [(6, .int .i64 i), (2, .ref b0 4 0 0), (3, .ref b1 2 0 0), (4, .ref b2 4 0 0)], [(b2, ⟨4, [.agg [.int .i64 (0 : Int), .int .i64 (0 : Int), .int .i64 (0 : Int), .nils]]⟩), (b1, ⟨2, [encEvent e_]⟩), (b0, ⟨4, [encRecord ρ0 r_]⟩)]⟩) (fun ⟨i, _⟩ => (i = e0)) ?_ ?_
  ·
   refine V.block ?_
   refine V.keep 68 [6, 2, 3, 4] [0, 1, 2] (E0 := [(6, .int .i64 (0 : Int)), (2, .ref b0 4 0 0), (3, .ref b1 2 0 0), (4, .ref b2 4 0 0)]) (H0 := [(b2, ⟨4, [.agg [.int .i64 (0 : Int), .int .i64 (0 : Int), .int .i64 (0 : Int), .nils]]⟩), (b1, ⟨2, [encEvent e_]⟩), (b0, ⟨4, [encRecord ρ0 r_]⟩)]) rfl (⟨_, _, rfl, rfl, ⟨_, _, rfl, rfl, ⟨_, _, rfl, rfl, ⟨_, _, rfl, rfl, rfl⟩⟩⟩⟩) (⟨_, _, rfl, rfl, ⟨_, _, rfl, rfl, ⟨_, _, rfl, rfl, rfl⟩⟩⟩) rfl ?_
   refine V.loopE (D := Nat × (Int) × (Unit)) (fun ⟨n0, i0, _⟩ => [(6, .int .i64 i0)]) (fun ⟨n0, i0, _⟩ => []) (fun ⟨n0, i0, _⟩ => loopO (M.spec_AddEvent_l0 r_ e_) n0 i0 = some e0) (fun ⟨n0, _, _⟩ => n0) (rounds, (0 : Int), ()) rfl he1 ?_
   rintro ⟨n0, i0, _⟩ hP0
   obtain ⟨m0, y3, rfl, hm1, hl1, hr1⟩ := loop_head hP0
   unfold M.spec_AddEvent_l0 at hm1; dsimp only at hm1
   show V _ _ _ ⟨68, [(6, .int .i64 i0), (2, .ref b0 4 0 0), (3, .ref b1 2 0 0), (4, .ref b2 4 0 0)], [(b2, ⟨4, [.agg [.int .i64 (0 : Int), .int .i64 (0 : Int), .int .i64 (0 : Int), .nils]]⟩), (b1, ⟨2, [encEvent e_]⟩), (b0, ⟨4, [encRecord ρ0 r_]⟩)]⟩
   refine V.seq ?_
   refine V.seq ?_
   replace hm1 := asrt_some hm1; rcases hm1 with ⟨hh3, hm1⟩
   refine V.regionM 68 16 [⟨[(6, none)], [], none⟩, ⟨[(2, none)], [], none⟩, ⟨[(25, some 0)], [], none⟩, ⟨[(26, some 0)], [], none⟩, ⟨[(24, some 3), (27, some 0)], [], none⟩, ⟨[(28, some 0)], [], none⟩, ⟨[(2, none)], [(0, true)], none⟩, ⟨[(30, some 0)], [(1, true)], none⟩, ⟨[(6, none)], [(2, true)], none⟩, ⟨[(31, some 1), (32, some 0)], [(3, true)], none⟩, ⟨[(33, some 0)], [(4, true)], none⟩, ⟨[(34, some 0)], [(5, true)], none⟩, ⟨[(3, none)], [(6, true)], none⟩, ⟨[(36, some 0)], [(7, true)], none⟩, ⟨[(35, some 2), (37, some 0)], [(8, true)], none⟩, ⟨[], [], some (true, 29, 38, 9, 0)⟩] [(2, none), (3, none), (4, none), (6, none), (39, some 0)] (⟨_, rfl, ⟨_, rfl, ⟨_, rfl, ⟨_, rfl, ⟨_, rfl, ⟨_, rfl, ⟨_, rfl, ⟨_, rfl, ⟨_, rfl, ⟨_, rfl, ⟨_, rfl, ⟨_, rfl, ⟨_, rfl, ⟨_, rfl, ⟨_, rfl, ⟨_, rfl, ⟨rfl, rfl⟩⟩⟩⟩⟩⟩⟩⟩⟩⟩⟩⟩⟩⟩⟩⟩⟩) mixed_orders rfl (by decide +kernel) (fun hck4 => ?_)
   refine VP.step (p := ?pv277) rfl rfl rfl (⟨_, _, rfl, rfl, rfl⟩) ?hv277 ?rest277 hck4
   case hv277 =>
    intro E1
    refine (V1.move rfl rfl rfl (ltb rfl) ?_)
    exact rfl
   refine VP.step (p := ?pv278) rfl rfl rfl (⟨_, _, rfl, rfl, rfl⟩) ?hv278 ?rest278 hck4
   case hv278 =>
    intro E1
    refine (V1.fieldRef rfl rfl fo_26_3 rfl (ltb rfl) ?_)
    exact rfl
   refine VP.step (p := ?pv279) rfl rfl rfl (⟨_, _, rfl, rfl, rfl⟩) ?hv279 ?rest279 hck4
   case hv279 =>
    intro E1
    refine (V1.loadRef (k := 2) rfl rfl tyk_24 rfl rfl rfl rfl rfl (ltb rfl) ?_)
    exact rfl
   refine VP.step (p := ?pv280) rfl rfl rfl (⟨_, _, rfl, rfl, rfl⟩) ?hv280 ?rest280 hck4
   case hv280 =>
    intro E1
    refine (V1.lenMap rfl rfl rfl rfl rfl rfl isl_24 (ltb rfl) ?_)
    exact rfl
   refine VP.step (p := ?pv281) rfl rfl rfl (⟨_, _, rfl, rfl, ⟨_, _, rfl, rfl, rfl⟩⟩) ?hv281 ?rest281 hck4
   case hv281 =>
    intro E1
    refine (V1.int rfl rfl rfl rfl rfl (ltb rfl) ?_)
    exact rfl
   refine VP.step (p := ?pv282) rfl rfl rfl (⟨_, _, rfl, rfl, rfl⟩) ?hv282 ?rest282 hck4
   case hv282 =>
    intro E1
    refine (V1.move rfl rfl rfl (ltb rfl) ?_)
    exact rfl
   refine VP.step (p := ?pv283) rfl rfl rfl (⟨_, _, rfl, rfl, rfl⟩) ?hv283 ?rest283 hck4
   case hv283 =>
    refine ⟨_, rfl, fun hg2 => ?_⟩
    intro E1
    refine (V1.fieldRef rfl rfl fo_26_3 rfl (ltb rfl) ?_)
    exact rfl
   refine VP.step (p := ?pv284) rfl rfl rfl (⟨_, _, rfl, rfl, rfl⟩) ?hv284 ?rest284 hck4
   case hv284 =>
    refine ⟨_, rfl, fun hg2 => ?_⟩
    intro E1
    refine (V1.loadRef (k := 2) rfl rfl tyk_24 rfl rfl rfl rfl rfl (ltb rfl) ?_)
    exact rfl
   refine VP.step (p := ?pv285) rfl rfl rfl (⟨_, _, rfl, rfl, rfl⟩) ?hv285 ?rest285 hck4
   case hv285 =>
    refine ⟨_, rfl, fun hg2 => ?_⟩
    intro E1
    refine (V1.move rfl rfl rfl (ltb rfl) ?_)
    exact rfl
   refine VP.step (p := ?pv286) rfl rfl rfl (⟨_, _, rfl, rfl, ⟨_, _, rfl, rfl, rfl⟩⟩) ?hv286 ?rest286 hck4
   case hv286 =>
    refine ⟨_, rfl, fun hg2 => ?_⟩
    intro E1
    refine (V1.indexI rfl rfl esz_24 rfl rfl (hh3 hg2) (ltb rfl) ?_)
    exact rfl
   refine VP.step (p := ?pv287) rfl rfl rfl (⟨_, _, rfl, rfl, rfl⟩) ?hv287 ?rest287 hck4
   case hv287 =>
    refine ⟨_, rfl, fun hg2 => ?_⟩
    intro E1
    refine (V1.fieldPin rfl rfl fo_43_0 rfl (ltb rfl) ?_)
    exact rfl
   refine VP.step (p := ?pv288) rfl rfl rfl (⟨_, _, rfl, rfl, rfl⟩) ?hv288 ?rest288 hck4
   case hv288 =>
    refine ⟨_, rfl, fun hg2 => ?_⟩
    intro E1
    refine (V1.loadPin rfl rfl tyk_3 rfl rfl (ltb rfl) ?_)
    exact rfl
   refine VP.step (p := ?pv289) rfl rfl rfl (⟨_, _, rfl, rfl, rfl⟩) ?hv289 ?rest289 hck4
   case hv289 =>
    refine ⟨_, rfl, fun hg2 => ?_⟩
    intro E1
    refine (V1.fieldRef rfl rfl fo_43_0 rfl (ltb rfl) ?_)
    exact rfl
   refine VP.step (p := ?pv290) rfl rfl rfl (⟨_, _, rfl, rfl, rfl⟩) ?hv290 ?rest290 hck4
   case hv290 =>
    refine ⟨_, rfl, fun hg2 => ?_⟩
    intro E1
    refine (V1.loadRef (k := 1) rfl rfl tyk_3 rfl rfl rfl rfl rfl (ltb rfl) ?_)
    exact rfl
   refine VP.step (p := ?pv291) rfl rfl rfl (⟨_, _, rfl, rfl, ⟨_, _, rfl, rfl, rfl⟩⟩) ?hv291 ?rest291 hck4
   case hv291 =>
    refine ⟨_, rfl, fun hg2 => ?_⟩
    intro E1
    refine (V1.int rfl rfl rfl rfl rfl (ltb rfl) ?_)
    exact rfl
   refine VP.pickAnd rfl rfl rfl rfl rfl rfl (trivial) ?_ hck4
   refine VP.fin rfl (⟨_, _, rfl, rfl, ⟨_, _, rfl, rfl, ⟨_, _, rfl, rfl, ⟨_, _, rfl, rfl, ⟨_, _, rfl, rfl, rfl⟩⟩⟩⟩⟩) ?_
   refine VO.nil ?_
   refine V.cond rfl (fun hc1 => ?_) (fun hc1 => ?_)
   ·
    replace hm1 := cond_t hc1 hm1
    refine V.skip ?_
    refine V.block ?_
    refine V.region ?_
    refine VO.cons rfl (V1.move rfl rfl rfl (ltb rfl) ?_)
    refine VO.cons rfl (V1.int rfl rfl rfl rfl rfl (ltb rfl) ?_)
    refine VO.cons rfl (V1.assign rfl rfl rfl (ltb rfl) ?_)
    refine VO.nil ?_
    exact ⟨(m0, (IntKind.i64.wrap (i0 + (1 : Int))), ()), hl1 _ (Option.some.inj hm1).symm, Nat.lt_succ_self _, Keeps.mk (ks := [0, 1, 2]) rfl ⟨rfl, rfl, rfl, rfl, trivial⟩ (⟨_, _, rfl, rfl, ⟨_, _, rfl, rfl, ⟨_, _, rfl, rfl, rfl⟩⟩⟩) rfl⟩
   ·
    replace hm1 := cond_f hc1 hm1
    refine V.exit ?_
    obtain rfl := hr1 _ (Option.some.inj hm1).symm
    exact ⟨(i0, ()), rfl, Keeps.mk (ks := [0, 1, 2]) rfl ⟨rfl, rfl, rfl, rfl, trivial⟩ (⟨_, _, rfl, rfl, ⟨_, _, rfl, rfl, ⟨_, _, rfl, rfl, rfl⟩⟩⟩) rfl⟩
  ·
   rintro ⟨i, _⟩ rfl
   try dsimp only at hm0
   refine V.seq ?_
   replace hm0 := asrt_some hm0; rcases hm0 with ⟨hh4, hm0⟩
   replace hm0 := asrt_some hm0; rcases hm0 with ⟨hh5, hm0⟩
   replace hm0 := asrt_some hm0; rcases hm0 with ⟨hh6, hm0⟩
   replace hm0 := asrt_some hm0; rcases hm0 with ⟨hh7, hm0⟩
   replace hm0 := asrt_some hm0; rcases hm0 with ⟨hh8, hm0⟩
   replace hm0 := bindO hm0; rcases hm0 with ⟨j0, hm1, hm0⟩
   refine V.cutT (D := (Unit) × (Nat)) (fun ⟨_, b9⟩ => ⟨68, [(7, .ref b9 4 0 0), (4, .ref b2 4 0 0)], [(b9, ⟨4, [.agg [.int .i64 r_.Id, .int .i64 r_.Series, .int .i64 r_.Made, .vl rn 2 (List.map encEvent (((([] : List Event) ++ (slc r_.Events (0 : Int) i)) ++ ([e_] : List Event)) ++ (slc r_.Events i (r_.Events.length : Int))))]]⟩), (b2, ⟨4, [.agg [.int .i64 (0 : Int), .int .i64 (0 : Int), .int .i64 (0 : Int), .nils]]⟩)]⟩) (fun ⟨_, b9⟩ => (() = j0)) ?_ ?_
   ·
    refine V.regionS [(b1, ⟨2, [encEvent e_]⟩), (b0, ⟨4, [encRecord ρ0 r_]⟩)] 68 22 [⟨[(2, none)], false⟩, ⟨[(42, some 0)], false⟩, ⟨[(2, none)], false⟩, ⟨[(44, some 2)], false⟩, ⟨[(2, none)], false⟩, ⟨[(46, some 4)], false⟩, ⟨[], true⟩, ⟨[(2, none)], false⟩, ⟨[(49, some 7)], false⟩, ⟨[(6, none)], false⟩, ⟨[(50, some 8), (51, some 9)], false⟩, ⟨[(48, some 6), (52, some 10)], true⟩, ⟨[(3, none)], false⟩, ⟨[(54, some 12)], true⟩, ⟨[(53, some 11), (55, some 13)], true⟩, ⟨[(2, none)], false⟩, ⟨[(57, some 15)], false⟩, ⟨[(6, none)], false⟩, ⟨[(58, some 16), (59, some 17)], false⟩, ⟨[(56, some 14), (60, some 18)], true⟩, ⟨[(43, some 1), (45, some 3), (47, some 5), (61, some 19)], false⟩, ⟨[], true⟩] [(4, none), (7, some 21), (62, some 20)] 6 (⟨_, rfl, ⟨_, rfl, ⟨_, rfl, ⟨_, rfl, ⟨_, rfl, ⟨_, rfl, ⟨_, rfl, ⟨_, rfl, ⟨_, rfl, ⟨_, rfl, ⟨_, rfl, ⟨_, rfl, ⟨_, rfl, ⟨_, rfl, ⟨_, rfl, ⟨_, rfl, ⟨_, rfl, ⟨_, rfl, ⟨_, rfl, ⟨_, rfl, ⟨_, rfl, ⟨_, rfl, ⟨rfl, rfl⟩⟩⟩⟩⟩⟩⟩⟩⟩⟩⟩⟩⟩⟩⟩⟩⟩⟩⟩⟩⟩⟩⟩) mixed_orders rfl (by decide +kernel) ?_
    refine WalkP.step (p := ?pv331) 0 rfl rfl rfl rfl rfl (⟨_, _, rfl, rfl, rfl⟩) ?hv331 ?rest331
    case hv331 =>
     intro E1 H1 hI1
     refine (V1.fieldRef rfl rfl fo_26_0 rfl (ltb rfl) ?_)
     exact rfl
    refine WalkP.step (p := ?pv332) 1 rfl rfl rfl rfl rfl (⟨_, _, rfl, rfl, rfl⟩) ?hv332 ?rest332
    case hv332 =>
     intro E1 H1 hI1
     obtain ⟨k333_, hk333_⟩ := inGet 1 rfl hI1
     refine (V1.loadRef (k := k333_) rfl rfl tyk_3 rfl hk333_ rfl rfl rfl (ltb rfl) ?_)
     exact rfl
    refine WalkP.step (p := ?pv334) 2 rfl rfl rfl rfl rfl (⟨_, _, rfl, rfl, rfl⟩) ?hv334 ?rest334
    case hv334 =>
     intro E1 H1 hI1
     refine (V1.fieldRef rfl rfl fo_26_1 rfl (ltb rfl) ?_)
     exact rfl
    refine WalkP.step (p := ?pv335) 3 rfl rfl rfl rfl rfl (⟨_, _, rfl, rfl, rfl⟩) ?hv335 ?rest335
    case hv335 =>
     intro E1 H1 hI1
     obtain ⟨k336_, hk336_⟩ := inGet 1 rfl hI1
     refine (V1.loadRef (k := k336_) rfl rfl tyk_3 rfl hk336_ rfl rfl rfl (ltb rfl) ?_)
     exact rfl
    refine WalkP.step (p := ?pv337) 4 rfl rfl rfl rfl rfl (⟨_, _, rfl, rfl, rfl⟩) ?hv337 ?rest337
    case hv337 =>
     intro E1 H1 hI1
     refine (V1.fieldRef rfl rfl fo_26_2 rfl (ltb rfl) ?_)
     exact rfl
    refine WalkP.step (p := ?pv338) 5 rfl rfl rfl rfl rfl (⟨_, _, rfl, rfl, rfl⟩) ?hv338 ?rest338
    case hv338 =>
     intro E1 H1 hI1
     obtain ⟨k339_, hk339_⟩ := inGet 1 rfl hI1
     refine (V1.loadRef (k := k339_) rfl rfl tyk_3 rfl hk339_ rfl rfl rfl (ltb rfl) ?_)
     exact rfl
    refine WalkP.step (p := ?pv340) 7 rfl rfl rfl rfl rfl (⟨_, _, rfl, rfl, rfl⟩) ?hv340 ?rest340
    case hv340 =>
     intro E1 H1 hI1
     refine (V1.fieldRef rfl rfl fo_26_3 rfl (ltb rfl) ?_)
     exact rfl
    refine WalkP.step (p := ?pv341) 8 rfl rfl rfl rfl rfl (⟨_, _, rfl, rfl, rfl⟩) ?hv341 ?rest341
    case hv341 =>
     intro E1 H1 hI1
     obtain ⟨k342_, hk342_⟩ := inGet 1 rfl hI1
     refine (V1.loadRef (k := k342_) rfl rfl tyk_24 rfl hk342_ rfl rfl rfl (ltb rfl) ?_)
     exact rfl
    refine WalkP.step (p := ?pv343) 9 rfl rfl rfl rfl rfl (⟨_, _, rfl, rfl, rfl⟩) ?hv343 ?rest343
    case hv343 =>
     intro E1 H1 hI1
     refine (V1.move rfl rfl rfl (ltb rfl) ?_)
     exact rfl
    refine WalkP.step (p := ?pv344) 10 rfl rfl rfl rfl rfl (⟨_, _, rfl, rfl, ⟨_, _, rfl, rfl, rfl⟩⟩) ?hv344 ?rest344
    case hv344 =>
     intro E1 H1 hI1
     refine (V1.sliceMap (a := (0 : Int)) (b := i) rfl rfl esz_24 rfl (Bnd.none _ _) (Bnd.some rfl (Int.le_trans hh4.1 hh4.2.1) _) hh4 (ltb rfl) ?_)
     exact rfl
    refine WalkP.step (p := ?pv345) 12 rfl rfl rfl rfl rfl (⟨_, _, rfl, rfl, rfl⟩) ?hv345 ?rest345
    case hv345 =>
     intro E1 H1 hI1
     obtain ⟨k346_, hk346_⟩ := inGet 0 rfl hI1
     refine (V1.loadRefAll (k := k346_) rfl rfl tyk_43 rfl hk346_ rfl rfl rfl (ltb rfl) ?_)
     exact rfl
    refine WalkP.step (p := ?pv347) 15 rfl rfl rfl rfl rfl (⟨_, _, rfl, rfl, rfl⟩) ?hv347 ?rest347
    case hv347 =>
     intro E1 H1 hI1
     refine (V1.fieldRef rfl rfl fo_26_3 rfl (ltb rfl) ?_)
     exact rfl
    refine WalkP.step (p := ?pv348) 16 rfl rfl rfl rfl rfl (⟨_, _, rfl, rfl, rfl⟩) ?hv348 ?rest348
    case hv348 =>
     intro E1 H1 hI1
     obtain ⟨k349_, hk349_⟩ := inGet 1 rfl hI1
     refine (V1.loadRef (k := k349_) rfl rfl tyk_24 rfl hk349_ rfl rfl rfl (ltb rfl) ?_)
     exact rfl
    refine WalkP.step (p := ?pv350) 17 rfl rfl rfl rfl rfl (⟨_, _, rfl, rfl, rfl⟩) ?hv350 ?rest350
    case hv350 =>
     intro E1 H1 hI1
     refine (V1.move rfl rfl rfl (ltb rfl) ?_)
     exact rfl
    refine WalkP.step (p := ?pv351) 18 rfl rfl rfl rfl rfl (⟨_, _, rfl, rfl, ⟨_, _, rfl, rfl, rfl⟩⟩) ?hv351 ?rest351
    case hv351 =>
     intro E1 H1 hI1
     refine (V1.sliceMap (a := i) (b := (r_.Events.length : Int)) rfl rfl esz_24 rfl (Bnd.some rfl hh7.1 _) (Bnd.none _ _) hh7 (ltb rfl) ?_)
     exact rfl
    refine WalkP.nil ?_
    refine NodeS.branch [6, 13, 21] (inCons 1 rfl (inCons 2 rfl inNil)) rfl rfl rfl ⟨?_, ?_, ?_, trivial⟩
    ·
     refine ⟨_, _, _, _, rfl, rfl, rfl, (rfl), fun E1 => ?_⟩
     refine (V1.buildSliceT (f := encEvent) ([] : List Event) rfl rfl esz_24 zk_43 rfl rfl rfl rfl rfl rfl rfl (ltb rfl) ?_)
     intro b10
     refine ⟨_, _, rfl, ?_⟩
     refine WalkP.nil ?_
     refine NodeS.branch [11, 13, 21] (inCons 2 rfl (inCons 3 rfl inNil)) rfl rfl rfl ⟨?_, ?_, ?_, trivial⟩
     ·
      refine ⟨_, _, _, _, rfl, rfl, rfl, (⟨_, _, rfl, rfl, ⟨_, _, rfl, rfl, rfl⟩⟩), fun E1 => ?_⟩
      refine (V1.appendMap (k := 0) (f := encEvent) (l := ([] : List Event)) (m := (slc r_.Events (0 : Int) i)) rfl rfl rfl rfl rfl esz_24 eby_24 zk_43 rfl rfl rfl (.vl isl_24) hh5 (ltb rfl) ?_)
      intro b11
      refine ⟨_, _, rfl, ?_⟩
      refine WalkP.nil ?_
      refine NodeS.branch [13, 21] (inCons 2 rfl (inCons 3 rfl inNil)) rfl rfl rfl ⟨?_, ?_, trivial⟩
      ·
       refine ⟨_, _, _, _, rfl, rfl, rfl, (⟨_, _, rfl, rfl, rfl⟩), fun E1 => ?_⟩
       refine (V1.buildSliceT (f := encEvent) ([e_] : List Event) rfl rfl esz_24 zk_43 rfl rfl rfl rfl rfl rfl rfl (ltb rfl) ?_)
       intro b12
       refine ⟨_, _, rfl, ?_⟩
       refine WalkP.nil ?_
       refine NodeS.branch [14, 21] (inCons 3 rfl (inCons 4 rfl inNil)) rfl rfl rfl ⟨?_, ?_, trivial⟩
       ·
        refine ⟨_, _, _, _, rfl, rfl, rfl, (⟨_, _, rfl, rfl, ⟨_, _, rfl, rfl, rfl⟩⟩), fun E1 => ?_⟩
        refine (V1.appendMap (k := 1) (f := encEvent) (l := (([] : List Event) ++ (slc r_.Events (0 : Int) i))) (m := ([e_] : List Event)) rfl rfl rfl rfl rfl esz_24 eby_24 zk_43 rfl rfl rfl (SrcOf.srMap (k := 0) rfl isl_24) hh6 (ltb rfl) ?_)
        intro b13
        refine ⟨_, _, rfl, ?_⟩
        refine WalkP.nil ?_
        refine NodeS.branch [19, 21] (inCons 3 rfl (inCons 4 rfl inNil)) rfl rfl rfl ⟨?_, ?_, trivial⟩
        ·
         refine ⟨_, _, _, _, rfl, rfl, rfl, (⟨_, _, rfl, rfl, ⟨_, _, rfl, rfl, rfl⟩⟩), fun E1 => ?_⟩
         refine (V1.appendMap (k := 0) (f := encEvent) (l := ((([] : List Event) ++ (slc r_.Events (0 : Int) i)) ++ ([e_] : List Event))) (m := (slc r_.Events i (r_.Events.length : Int))) rfl rfl rfl rfl rfl esz_24 eby_24 zk_43 rfl rfl rfl (.vl isl_24) hh8 (ltb rfl) ?_)
         intro b14
         refine ⟨_, _, rfl, ?_⟩
         refine WalkP.step (p := ?pv352) 20 rfl rfl rfl rfl rfl (⟨_, _, rfl, rfl, ⟨_, _, rfl, rfl, ⟨_, _, rfl, rfl, ⟨_, _, rfl, rfl, rfl⟩⟩⟩⟩) ?hv352 ?rest352
         case hv352 =>
          intro E1 H1 hI1
          refine (V1.build rfl rfl zk_26 pl_26 rfl rfl (ltb rfl) ?_)
          exact rfl
         refine WalkP.nil ?_
         refine NodeS.branch [21] (inCons 3 rfl (inCons 4 rfl inNil)) rfl rfl rfl ⟨?_, trivial⟩
         ·
          refine ⟨_, _, _, _, rfl, rfl, rfl, (rfl), fun E1 => ?_⟩
          refine (V1.alloc rfl rfl zk_26 (ltb rfl) ?_)
          intro b15
          refine ⟨_, _, rfl, ?_⟩
          refine WalkP.nil ?_
          refine NodeS.fin (inCons 4 rfl (inCons 5 rfl inNil)) rfl rfl rfl (⟨_, _, rfl, rfl, ⟨_, _, rfl, rfl, ⟨_, _, rfl, rfl, rfl⟩⟩⟩) ?_
          refine VO.cons rfl (V1.storeRefAll (k := 0) rfl rfl tyk_26 rfl rfl rfl rfl rfl rfl ?_)
          refine VO.nil ?_
          exact ⟨((), b15), Option.some.inj hm1, Keeps.trans (Keeps.freezeG 1 rn [(62, .agg [.int .i64 r_.Id, .int .i64 r_.Series, .int .i64 r_.Made, .vl rn 2 (List.map encEvent (((([] : List Event) ++ (slc r_.Events (0 : Int) i)) ++ ([e_] : List Event)) ++ (slc r_.Events i (r_.Events.length : Int))))])] [(b15, ⟨4, [.agg [.int .i64 r_.Id, .int .i64 r_.Series, .int .i64 r_.Made, .vl rn 2 (List.map encEvent (((([] : List Event) ++ (slc r_.Events (0 : Int) i)) ++ ([e_] : List Event)) ++ (slc r_.Events i (r_.Events.length : Int))))]]⟩), (b12, ⟨2, List.map encEvent ([e_] : List Event)⟩), (b2, ⟨4, [.agg [.int .i64 (0 : Int), .int .i64 (0 : Int), .int .i64 (0 : Int), .nils]]⟩), (b1, ⟨2, [encEvent e_]⟩), (b0, ⟨4, [encRecord ρ0 r_]⟩)] (f := encEvent) (l := (((([] : List Event) ++ (slc r_.Events (0 : Int) i)) ++ ([e_] : List Event)) ++ (slc r_.Events i (r_.Events.length : Int)))) rfl (fun _ => rfl) ⟨⟨_, rfl, (.agg (.cons .same (.cons .same (.cons .same (.cons .here .nil)))))⟩, trivial⟩ ⟨_, _, rfl, rfl, .inr (.cons (.agg (.cons .same (.cons .same (.cons .same (.cons .here .nil))))) .nil), ⟨_, _, rfl, rfl, .inl rfl, ⟨_, _, rfl, rfl, .inl rfl, ⟨_, _, rfl, rfl, .inl rfl, ⟨_, _, rfl, rfl, .inl rfl, rfl⟩⟩⟩⟩⟩ rfl iNil) (Keeps.mk (ks := [0, 2]) rfl ⟨rfl, rfl, trivial⟩ (⟨_, _, rfl, rfl, ⟨_, _, rfl, rfl, rfl⟩⟩) rfl)⟩
        ·
         refine ⟨_, _, _, _, rfl, rfl, rfl, (rfl), fun E1 => ?_⟩
         refine (V1.alloc rfl rfl zk_26 (ltb rfl) ?_)
         intro b16
         refine ⟨_, _, rfl, ?_⟩
         refine WalkP.nil ?_
         refine NodeS.branch [19] (inCons 4 rfl (inCons 5 rfl inNil)) rfl rfl rfl ⟨?_, trivial⟩
         ·
          refine ⟨_, _, _, _, rfl, rfl, rfl, (⟨_, _, rfl, rfl, ⟨_, _, rfl, rfl, rfl⟩⟩), fun E1 => ?_⟩
          refine (V1.appendMap (k := 1) (f := encEvent) (l := ((([] : List Event) ++ (slc r_.Events (0 : Int) i)) ++ ([e_] : List Event))) (m := (slc r_.Events i (r_.Events.length : Int))) rfl rfl rfl rfl rfl esz_24 eby_24 zk_43 rfl rfl rfl (.vl isl_24) hh8 (ltb rfl) ?_)
          intro b17
          refine ⟨_, _, rfl, ?_⟩
          refine WalkP.step (p := ?pv353) 20 rfl rfl rfl rfl rfl (⟨_, _, rfl, rfl, ⟨_, _, rfl, rfl, ⟨_, _, rfl, rfl, ⟨_, _, rfl, rfl, rfl⟩⟩⟩⟩) ?hv353 ?rest353
          case hv353 =>
           intro E1 H1 hI1
           refine (V1.build rfl rfl zk_26 pl_26 rfl rfl (ltb rfl) ?_)
           exact rfl
          refine WalkP.nil ?_
          refine NodeS.fin (inCons 4 rfl (inCons 5 rfl inNil)) rfl rfl rfl (⟨_, _, rfl, rfl, ⟨_, _, rfl, rfl, ⟨_, _, rfl, rfl, rfl⟩⟩⟩) ?_
          refine VO.cons rfl (V1.storeRefAll (k := 1) rfl rfl tyk_26 rfl rfl rfl rfl rfl rfl ?_)
          refine VO.nil ?_
          exact ⟨((), b16), Option.some.inj hm1, Keeps.trans (Keeps.freezeG 0 rn [(62, .agg [.int .i64 r_.Id, .int .i64 r_.Series, .int .i64 r_.Made, .vl rn 2 (List.map encEvent (((([] : List Event) ++ (slc r_.Events (0 : Int) i)) ++ ([e_] : List Event)) ++ (slc r_.Events i (r_.Events.length : Int))))])] [(b16, ⟨4, [.agg [.int .i64 r_.Id, .int .i64 r_.Series, .int .i64 r_.Made, .vl rn 2 (List.map encEvent (((([] : List Event) ++ (slc r_.Events (0 : Int) i)) ++ ([e_] : List Event)) ++ (slc r_.Events i (r_.Events.length : Int))))]]⟩), (b12, ⟨2, List.map encEvent ([e_] : List Event)⟩), (b2, ⟨4, [.agg [.int .i64 (0 : Int), .int .i64 (0 : Int), .int .i64 (0 : Int), .nils]]⟩), (b1, ⟨2, [encEvent e_]⟩), (b0, ⟨4, [encRecord ρ0 r_]⟩)] (f := encEvent) (l := (((([] : List Event) ++ (slc r_.Events (0 : Int) i)) ++ ([e_] : List Event)) ++ (slc r_.Events i (r_.Events.length : Int)))) rfl (fun _ => rfl) ⟨⟨_, rfl, (.agg (.cons .same (.cons .same (.cons .same (.cons .here .nil)))))⟩, trivial⟩ ⟨_, _, rfl, rfl, .inr (.cons (.agg (.cons .same (.cons .same (.cons .same (.cons .here .nil))))) .nil), ⟨_, _, rfl, rfl, .inl rfl, ⟨_, _, rfl, rfl, .inl rfl, ⟨_, _, rfl, rfl, .inl rfl, ⟨_, _, rfl, rfl, .inl rfl, rfl⟩⟩⟩⟩⟩ rfl iNil) (Keeps.mk (ks := [0, 2]) rfl ⟨rfl, rfl, trivial⟩ (⟨_, _, rfl, rfl, ⟨_, _, rfl, rfl, rfl⟩⟩) rfl)⟩
       ·
        refine ⟨_, _, _, _, rfl, rfl, rfl, (rfl), fun E1 => ?_⟩
        refine (V1.alloc rfl rfl zk_26 (ltb rfl) ?_)
        intro b18
        refine ⟨_, _, rfl, ?_⟩
        refine WalkP.nil ?_
        refine NodeS.branch [14] (inCons 4 rfl (inCons 5 rfl inNil)) rfl rfl rfl ⟨?_, trivial⟩
        ·
         refine ⟨_, _, _, _, rfl, rfl, rfl, (⟨_, _, rfl, rfl, ⟨_, _, rfl, rfl, rfl⟩⟩), fun E1 => ?_⟩
         refine (V1.appendMap (k := 2) (f := encEvent) (l := (([] : List Event) ++ (slc r_.Events (0 : Int) i))) (m := ([e_] : List Event)) rfl rfl rfl rfl rfl esz_24 eby_24 zk_43 rfl rfl rfl (SrcOf.srMap (k := 1) rfl isl_24) hh6 (ltb rfl) ?_)
         intro b19
         refine ⟨_, _, rfl, ?_⟩
         refine WalkP.nil ?_
         refine NodeS.branch [19] (inCons 4 rfl (inCons 5 rfl inNil)) rfl rfl rfl ⟨?_, trivial⟩
         ·
          refine ⟨_, _, _, _, rfl, rfl, rfl, (⟨_, _, rfl, rfl, ⟨_, _, rfl, rfl, rfl⟩⟩), fun E1 => ?_⟩
          refine (V1.appendMap (k := 0) (f := encEvent) (l := ((([] : List Event) ++ (slc r_.Events (0 : Int) i)) ++ ([e_] : List Event))) (m := (slc r_.Events i (r_.Events.length : Int))) rfl rfl rfl rfl rfl esz_24 eby_24 zk_43 rfl rfl rfl (.vl isl_24) hh8 (ltb rfl) ?_)
          intro b20
          refine ⟨_, _, rfl, ?_⟩
          refine WalkP.step (p := ?pv354) 20 rfl rfl rfl rfl rfl (⟨_, _, rfl, rfl, ⟨_, _, rfl, rfl, ⟨_, _, rfl, rfl, ⟨_, _, rfl, rfl, rfl⟩⟩⟩⟩) ?hv354 ?rest354
          case hv354 =>
           intro E1 H1 hI1
           refine (V1.build rfl rfl zk_26 pl_26 rfl rfl (ltb rfl) ?_)
           exact rfl
          refine WalkP.nil ?_
          refine NodeS.fin (inCons 4 rfl (inCons 5 rfl inNil)) rfl rfl rfl (⟨_, _, rfl, rfl, ⟨_, _, rfl, rfl, ⟨_, _, rfl, rfl, rfl⟩⟩⟩) ?_
          refine VO.cons rfl (V1.storeRefAll (k := 1) rfl rfl tyk_26 rfl rfl rfl rfl rfl rfl ?_)
          refine VO.nil ?_
          exact ⟨((), b18), Option.some.inj hm1, Keeps.trans (Keeps.freezeG 0 rn [(62, .agg [.int .i64 r_.Id, .int .i64 r_.Series, .int .i64 r_.Made, .vl rn 2 (List.map encEvent (((([] : List Event) ++ (slc r_.Events (0 : Int) i)) ++ ([e_] : List Event)) ++ (slc r_.Events i (r_.Events.length : Int))))])] [(b18, ⟨4, [.agg [.int .i64 r_.Id, .int .i64 r_.Series, .int .i64 r_.Made, .vl rn 2 (List.map encEvent (((([] : List Event) ++ (slc r_.Events (0 : Int) i)) ++ ([e_] : List Event)) ++ (slc r_.Events i (r_.Events.length : Int))))]]⟩), (b12, ⟨2, List.map encEvent ([e_] : List Event)⟩), (b2, ⟨4, [.agg [.int .i64 (0 : Int), .int .i64 (0 : Int), .int .i64 (0 : Int), .nils]]⟩), (b1, ⟨2, [encEvent e_]⟩), (b0, ⟨4, [encRecord ρ0 r_]⟩)] (f := encEvent) (l := (((([] : List Event) ++ (slc r_.Events (0 : Int) i)) ++ ([e_] : List Event)) ++ (slc r_.Events i (r_.Events.length : Int)))) rfl (fun _ => rfl) ⟨⟨_, rfl, (.agg (.cons .same (.cons .same (.cons .same (.cons .here .nil)))))⟩, trivial⟩ ⟨_, _, rfl, rfl, .inr (.cons (.agg (.cons .same (.cons .same (.cons .same (.cons .here .nil))))) .nil), ⟨_, _, rfl, rfl, .inl rfl, ⟨_, _, rfl, rfl, .inl rfl, ⟨_, _, rfl, rfl, .inl rfl, ⟨_, _, rfl, rfl, .inl rfl, rfl⟩⟩⟩⟩⟩ rfl iNil) (Keeps.mk (ks := [0, 2]) rfl ⟨rfl, rfl, trivial⟩ (⟨_, _, rfl, rfl, ⟨_, _, rfl, rfl, rfl⟩⟩) rfl)⟩
      ·
       refine ⟨_, _, _, _, rfl, rfl, rfl, (rfl), fun E1 => ?_⟩
       refine (V1.alloc rfl rfl zk_26 (ltb rfl) ?_)
       intro b21
       refine ⟨_, _, rfl, ?_⟩
       refine WalkP.nil ?_
       refine NodeS.branch [13] (inCons 3 rfl (inCons 4 rfl inNil)) rfl rfl rfl ⟨?_, trivial⟩
       ·
        refine ⟨_, _, _, _, rfl, rfl, rfl, (⟨_, _, rfl, rfl, rfl⟩), fun E1 => ?_⟩
        refine (V1.buildSliceT (f := encEvent) ([e_] : List Event) rfl rfl esz_24 zk_43 rfl rfl rfl rfl rfl rfl rfl (ltb rfl) ?_)
        intro b22
        refine ⟨_, _, rfl, ?_⟩
        refine WalkP.nil ?_
        refine NodeS.branch [14] (inCons 4 rfl (inCons 5 rfl inNil)) rfl rfl rfl ⟨?_, trivial⟩
        ·
         refine ⟨_, _, _, _, rfl, rfl, rfl, (⟨_, _, rfl, rfl, ⟨_, _, rfl, rfl, rfl⟩⟩), fun E1 => ?_⟩
         refine (V1.appendMap (k := 2) (f := encEvent) (l := (([] : List Event) ++ (slc r_.Events (0 : Int) i))) (m := ([e_] : List Event)) rfl rfl rfl rfl rfl esz_24 eby_24 zk_43 rfl rfl rfl (SrcOf.srMap (k := 0) rfl isl_24) hh6 (ltb rfl) ?_)
         intro b23
         refine ⟨_, _, rfl, ?_⟩
         refine WalkP.nil ?_
         refine NodeS.branch [19] (inCons 4 rfl (inCons 5 rfl inNil)) rfl rfl rfl ⟨?_, trivial⟩
         ·
          refine ⟨_, _, _, _, rfl, rfl, rfl, (⟨_, _, rfl, rfl, ⟨_, _, rfl, rfl, rfl⟩⟩), fun E1 => ?_⟩
          refine (V1.appendMap (k := 0) (f := encEvent) (l := ((([] : List Event) ++ (slc r_.Events (0 : Int) i)) ++ ([e_] : List Event))) (m := (slc r_.Events i (r_.Events.length : Int))) rfl rfl rfl rfl rfl esz_24 eby_24 zk_43 rfl rfl rfl (.vl isl_24) hh8 (ltb rfl) ?_)
          intro b24
          refine ⟨_, _, rfl, ?_⟩
          refine WalkP.step (p := ?pv355) 20 rfl rfl rfl rfl rfl (⟨_, _, rfl, rfl, ⟨_, _, rfl, rfl, ⟨_, _, rfl, rfl, ⟨_, _, rfl, rfl, rfl⟩⟩⟩⟩) ?hv355 ?rest355
          case hv355 =>
           intro E1 H1 hI1
           refine (V1.build rfl rfl zk_26 pl_26 rfl rfl (ltb rfl) ?_)
           exact rfl
          refine WalkP.nil ?_
          refine NodeS.fin (inCons 4 rfl (inCons 5 rfl inNil)) rfl rfl rfl (⟨_, _, rfl, rfl, ⟨_, _, rfl, rfl, ⟨_, _, rfl, rfl, rfl⟩⟩⟩) ?_
          refine VO.cons rfl (V1.storeRefAll (k := 2) rfl rfl tyk_26 rfl rfl rfl rfl rfl rfl ?_)
          refine VO.nil ?_
          exact ⟨((), b21), Option.some.inj hm1, Keeps.trans (Keeps.freezeG 0 rn [(62, .agg [.int .i64 r_.Id, .int .i64 r_.Series, .int .i64 r_.Made, .vl rn 2 (List.map encEvent (((([] : List Event) ++ (slc r_.Events (0 : Int) i)) ++ ([e_] : List Event)) ++ (slc r_.Events i (r_.Events.length : Int))))])] [(b22, ⟨2, List.map encEvent ([e_] : List Event)⟩), (b21, ⟨4, [.agg [.int .i64 r_.Id, .int .i64 r_.Series, .int .i64 r_.Made, .vl rn 2 (List.map encEvent (((([] : List Event) ++ (slc r_.Events (0 : Int) i)) ++ ([e_] : List Event)) ++ (slc r_.Events i (r_.Events.length : Int))))]]⟩), (b2, ⟨4, [.agg [.int .i64 (0 : Int), .int .i64 (0 : Int), .int .i64 (0 : Int), .nils]]⟩), (b1, ⟨2, [encEvent e_]⟩), (b0, ⟨4, [encRecord ρ0 r_]⟩)] (f := encEvent) (l := (((([] : List Event) ++ (slc r_.Events (0 : Int) i)) ++ ([e_] : List Event)) ++ (slc r_.Events i (r_.Events.length : Int)))) rfl (fun _ => rfl) ⟨⟨_, rfl, (.agg (.cons .same (.cons .same (.cons .same (.cons .here .nil)))))⟩, trivial⟩ ⟨_, _, rfl, rfl, .inl rfl, ⟨_, _, rfl, rfl, .inr (.cons (.agg (.cons .same (.cons .same (.cons .same (.cons .here .nil))))) .nil), ⟨_, _, rfl, rfl, .inl rfl, ⟨_, _, rfl, rfl, .inl rfl, ⟨_, _, rfl, rfl, .inl rfl, rfl⟩⟩⟩⟩⟩ rfl iNil) (Keeps.mk (ks := [1, 2]) rfl ⟨rfl, rfl, trivial⟩ (⟨_, _, rfl, rfl, ⟨_, _, rfl, rfl, rfl⟩⟩) rfl)⟩
     ·
      refine ⟨_, _, _, _, rfl, rfl, rfl, (⟨_, _, rfl, rfl, rfl⟩), fun E1 => ?_⟩
      refine (V1.buildSliceT (f := encEvent) ([e_] : List Event) rfl rfl esz_24 zk_43 rfl rfl rfl rfl rfl rfl rfl (ltb rfl) ?_)
      intro b25
      refine ⟨_, _, rfl, ?_⟩
      refine WalkP.nil ?_
      refine NodeS.branch [11, 21] (inCons 3 rfl (inCons 4 rfl inNil)) rfl rfl rfl ⟨?_, ?_, trivial⟩
      ·
       refine ⟨_, _, _, _, rfl, rfl, rfl, (⟨_, _, rfl, rfl, ⟨_, _, rfl, rfl, rfl⟩⟩), fun E1 => ?_⟩
       refine (V1.appendMap (k := 1) (f := encEvent) (l := ([] : List Event)) (m := (slc r_.Events (0 : Int) i)) rfl rfl rfl rfl rfl esz_24 eby_24 zk_43 rfl rfl rfl (.vl isl_24) hh5 (ltb rfl) ?_)
       intro b26
       refine ⟨_, _, rfl, ?_⟩
       refine WalkP.nil ?_
       refine NodeS.branch [14, 21] (inCons 3 rfl (inCons 4 rfl inNil)) rfl rfl rfl ⟨?_, ?_, trivial⟩
       ·
        refine ⟨_, _, _, _, rfl, rfl, rfl, (⟨_, _, rfl, rfl, ⟨_, _, rfl, rfl, rfl⟩⟩), fun E1 => ?_⟩
        refine (V1.appendMap (k := 0) (f := encEvent) (l := (([] : List Event) ++ (slc r_.Events (0 : Int) i))) (m := ([e_] : List Event)) rfl rfl rfl rfl rfl esz_24 eby_24 zk_43 rfl rfl rfl (SrcOf.srMap (k := 1) rfl isl_24) hh6 (ltb rfl) ?_)
        intro b27
        refine ⟨_, _, rfl, ?_⟩
        refine WalkP.nil ?_
        refine NodeS.branch [19, 21] (inCons 3 rfl (inCons 4 rfl inNil)) rfl rfl rfl ⟨?_, ?_, trivial⟩
        ·
         refine ⟨_, _, _, _, rfl, rfl, rfl, (⟨_, _, rfl, rfl, ⟨_, _, rfl, rfl, rfl⟩⟩), fun E1 => ?_⟩
         refine (V1.appendMap (k := 0) (f := encEvent) (l := ((([] : List Event) ++ (slc r_.Events (0 : Int) i)) ++ ([e_] : List Event))) (m := (slc r_.Events i (r_.Events.length : Int))) rfl rfl rfl rfl rfl esz_24 eby_24 zk_43 rfl rfl rfl (.vl isl_24) hh8 (ltb rfl) ?_)
         intro b28
         refine ⟨_, _, rfl, ?_⟩
         refine WalkP.step (p := ?pv356) 20 rfl rfl rfl rfl rfl (⟨_, _, rfl, rfl, ⟨_, _, rfl, rfl, ⟨_, _, rfl, rfl, ⟨_, _, rfl, rfl, rfl⟩⟩⟩⟩) ?hv356 ?rest356
         case hv356 =>
          intro E1 H1 hI1
          refine (V1.build rfl rfl zk_26 pl_26 rfl rfl (ltb rfl) ?_)
          exact rfl
         refine WalkP.nil ?_
         refine NodeS.branch [21] (inCons 3 rfl (inCons 4 rfl inNil)) rfl rfl rfl ⟨?_, trivial⟩
         ·
          refine ⟨_, _, _, _, rfl, rfl, rfl, (rfl), fun E1 => ?_⟩
          refine (V1.alloc rfl rfl zk_26 (ltb rfl) ?_)
          intro b29
          refine ⟨_, _, rfl, ?_⟩
          refine WalkP.nil ?_
          refine NodeS.fin (inCons 4 rfl (inCons 5 rfl inNil)) rfl rfl rfl (⟨_, _, rfl, rfl, ⟨_, _, rfl, rfl, ⟨_, _, rfl, rfl, rfl⟩⟩⟩) ?_
          refine VO.cons rfl (V1.storeRefAll (k := 0) rfl rfl tyk_26 rfl rfl rfl rfl rfl rfl ?_)
          refine VO.nil ?_
          exact ⟨((), b29), Option.some.inj hm1, Keeps.trans (Keeps.freezeG 1 rn [(62, .agg [.int .i64 r_.Id, .int .i64 r_.Series, .int .i64 r_.Made, .vl rn 2 (List.map encEvent (((([] : List Event) ++ (slc r_.Events (0 : Int) i)) ++ ([e_] : List Event)) ++ (slc r_.Events i (r_.Events.length : Int))))])] [(b29, ⟨4, [.agg [.int .i64 r_.Id, .int .i64 r_.Series, .int .i64 r_.Made, .vl rn 2 (List.map encEvent (((([] : List Event) ++ (slc r_.Events (0 : Int) i)) ++ ([e_] : List Event)) ++ (slc r_.Events i (r_.Events.length : Int))))]]⟩), (b25, ⟨2, List.map encEvent ([e_] : List Event)⟩), (b2, ⟨4, [.agg [.int .i64 (0 : Int), .int .i64 (0 : Int), .int .i64 (0 : Int), .nils]]⟩), (b1, ⟨2, [encEvent e_]⟩), (b0, ⟨4, [encRecord ρ0 r_]⟩)] (f := encEvent) (l := (((([] : List Event) ++ (slc r_.Events (0 : Int) i)) ++ ([e_] : List Event)) ++ (slc r_.Events i (r_.Events.length : Int)))) rfl (fun _ => rfl) ⟨⟨_, rfl, (.agg (.cons .same (.cons .same (.cons .same (.cons .here .nil)))))⟩, trivial⟩ ⟨_, _, rfl, rfl, .inr (.cons (.agg (.cons .same (.cons .same (.cons .same (.cons .here .nil))))) .nil), ⟨_, _, rfl, rfl, .inl rfl, ⟨_, _, rfl, rfl, .inl rfl, ⟨_, _, rfl, rfl, .inl rfl, ⟨_, _, rfl, rfl, .inl rfl, rfl⟩⟩⟩⟩⟩ rfl iNil) (Keeps.mk (ks := [0, 2]) rfl ⟨rfl, rfl, trivial⟩ (⟨_, _, rfl, rfl, ⟨_, _, rfl, rfl, rfl⟩⟩) rfl)⟩
        ·
         refine ⟨_, _, _, _, rfl, rfl, rfl, (rfl), fun E1 => ?_⟩
         refine (V1.alloc rfl rfl zk_26 (ltb rfl) ?_)
         intro b30
         refine ⟨_, _, rfl, ?_⟩
         refine WalkP.nil ?_
         refine NodeS.branch [19] (inCons 4 rfl (inCons 5 rfl inNil)) rfl rfl rfl ⟨?_, trivial⟩
         ·
          refine ⟨_, _, _, _, rfl, rfl, rfl, (⟨_, _, rfl, rfl, ⟨_, _, rfl, rfl, rfl⟩⟩), fun E1 => ?_⟩
          refine (V1.appendMap (k := 1) (f := encEvent) (l := ((([] : List Event) ++ (slc r_.Events (0 : Int) i)) ++ ([e_] : List Event))) (m := (slc r_.Events i (r_.Events.length : Int))) rfl rfl rfl rfl rfl esz_24 eby_24 zk_43 rfl rfl rfl (.vl isl_24) hh8 (ltb rfl) ?_)
          intro b31
          refine ⟨_, _, rfl, ?_⟩
          refine WalkP.step (p := ?pv357) 20 rfl rfl rfl rfl rfl (⟨_, _, rfl, rfl, ⟨_, _, rfl, rfl, ⟨_, _, rfl, rfl, ⟨_, _, rfl, rfl, rfl⟩⟩⟩⟩) ?hv357 ?rest357
          case hv357 =>
           intro E1 H1 hI1
           refine (V1.build rfl rfl zk_26 pl_26 rfl rfl (ltb rfl) ?_)
           exact rfl
          refine WalkP.nil ?_
          refine NodeS.fin (inCons 4 rfl (inCons 5 rfl inNil)) rfl rfl rfl (⟨_, _, rfl, rfl, ⟨_, _, rfl, rfl, ⟨_, _, rfl, rfl, rfl⟩⟩⟩) ?_
          refine VO.cons rfl (V1.storeRefAll (k := 1) rfl rfl tyk_26 rfl rfl rfl rfl rfl rfl ?_)
          refine VO.nil ?_
          exact ⟨((), b30), Option.some.inj hm1, Keeps.trans (Keeps.freezeG 0 rn [(62, .agg [.int .i64 r_.Id, .int .i64 r_.Series, .int .i64 r_.Made, .vl rn 2 (List.map encEvent (((([] : List Event) ++ (slc r_.Events (0 : Int) i)) ++ ([e_] : List Event)) ++ (slc r_.Events i (r_.Events.length : Int))))])] [(b30, ⟨4, [.agg [.int .i64 r_.Id, .int .i64 r_.Series, .int .i64 r_.Made, .vl rn 2 (List.map encEvent (((([] : List Event) ++ (slc r_.Events (0 : Int) i)) ++ ([e_] : List Event)) ++ (slc r_.Events i (r_.Events.length : Int))))]]⟩), (b25, ⟨2, List.map encEvent ([e_] : List Event)⟩), (b2, ⟨4, [.agg [.int .i64 (0 : Int), .int .i64 (0 : Int), .int .i64 (0 : Int), .nils]]⟩), (b1, ⟨2, [encEvent e_]⟩), (b0, ⟨4, [encRecord ρ0 r_]⟩)] (f := encEvent) (l := (((([] : List Event) ++ (slc r_.Events (0 : Int) i)) ++ ([e_] : List Event)) ++ (slc r_.Events i (r_.Events.length : Int)))) rfl (fun _ => rfl) ⟨⟨_, rfl, (.agg (.cons .same (.cons .same (.cons .same (.cons .here .nil)))))⟩, trivial⟩ ⟨_, _, rfl, rfl, .inr (.cons (.agg (.cons .same (.cons .same (.cons .same (.cons .here .nil))))) .nil), ⟨_, _, rfl, rfl, .inl rfl, ⟨_, _, rfl, rfl, .inl rfl, ⟨_, _, rfl, rfl, .inl rfl, ⟨_, _, rfl, rfl, .inl rfl, rfl⟩⟩⟩⟩⟩ rfl iNil) (Keeps.mk (ks := [0, 2]) rfl ⟨rfl, rfl, trivial⟩ (⟨_, _, rfl, rfl, ⟨_, _, rfl, rfl, rfl⟩⟩) rfl)⟩
       ·
        refine ⟨_, _, _, _, rfl, rfl, rfl, (rfl), fun E1 => ?_⟩
        refine (V1.alloc rfl rfl zk_26 (ltb rfl) ?_)
        intro b32
        refine ⟨_, _, rfl, ?_⟩
        refine WalkP.nil ?_
        refine NodeS.branch [14] (inCons 4 rfl (inCons 5 rfl inNil)) rfl rfl rfl ⟨?_, trivial⟩
        ·
         refine ⟨_, _, _, _, rfl, rfl, rfl, (⟨_, _, rfl, rfl, ⟨_, _, rfl, rfl, rfl⟩⟩), fun E1 => ?_⟩
         refine (V1.appendMap (k := 1) (f := encEvent) (l := (([] : List Event) ++ (slc r_.Events (0 : Int) i))) (m := ([e_] : List Event)) rfl rfl rfl rfl rfl esz_24 eby_24 zk_43 rfl rfl rfl (SrcOf.srMap (k := 2) rfl isl_24) hh6 (ltb rfl) ?_)
         intro b33
         refine ⟨_, _, rfl, ?_⟩
         refine WalkP.nil ?_
         refine NodeS.branch [19] (inCons 4 rfl (inCons 5 rfl inNil)) rfl rfl rfl ⟨?_, trivial⟩
         ·
          refine ⟨_, _, _, _, rfl, rfl, rfl, (⟨_, _, rfl, rfl, ⟨_, _, rfl, rfl, rfl⟩⟩), fun E1 => ?_⟩
          refine (V1.appendMap (k := 0) (f := encEvent) (l := ((([] : List Event) ++ (slc r_.Events (0 : Int) i)) ++ ([e_] : List Event))) (m := (slc r_.Events i (r_.Events.length : Int))) rfl rfl rfl rfl rfl esz_24 eby_24 zk_43 rfl rfl rfl (.vl isl_24) hh8 (ltb rfl) ?_)
          intro b34
          refine ⟨_, _, rfl, ?_⟩
          refine WalkP.step (p := ?pv358) 20 rfl rfl rfl rfl rfl (⟨_, _, rfl, rfl, ⟨_, _, rfl, rfl, ⟨_, _, rfl, rfl, ⟨_, _, rfl, rfl, rfl⟩⟩⟩⟩) ?hv358 ?rest358
          case hv358 =>
           intro E1 H1 hI1
           refine (V1.build rfl rfl zk_26 pl_26 rfl rfl (ltb rfl) ?_)
           exact rfl
          refine WalkP.nil ?_
          refine NodeS.fin (inCons 4 rfl (inCons 5 rfl inNil)) rfl rfl rfl (⟨_, _, rfl, rfl, ⟨_, _, rfl, rfl, ⟨_, _, rfl, rfl, rfl⟩⟩⟩) ?_
          refine VO.cons rfl (V1.storeRefAll (k := 1) rfl rfl tyk_26 rfl rfl rfl rfl rfl rfl ?_)
          refine VO.nil ?_
          exact ⟨((), b32), Option.some.inj hm1, Keeps.trans (Keeps.freezeG 0 rn [(62, .agg [.int .i64 r_.Id, .int .i64 r_.Series, .int .i64 r_.Made, .vl rn 2 (List.map encEvent (((([] : List Event) ++ (slc r_.Events (0 : Int) i)) ++ ([e_] : List Event)) ++ (slc r_.Events i (r_.Events.length : Int))))])] [(b32, ⟨4, [.agg [.int .i64 r_.Id, .int .i64 r_.Series, .int .i64 r_.Made, .vl rn 2 (List.map encEvent (((([] : List Event) ++ (slc r_.Events (0 : Int) i)) ++ ([e_] : List Event)) ++ (slc r_.Events i (r_.Events.length : Int))))]]⟩), (b25, ⟨2, List.map encEvent ([e_] : List Event)⟩), (b2, ⟨4, [.agg [.int .i64 (0 : Int), .int .i64 (0 : Int), .int .i64 (0 : Int), .nils]]⟩), (b1, ⟨2, [encEvent e_]⟩), (b0, ⟨4, [encRecord ρ0 r_]⟩)] (f := encEvent) (l := (((([] : List Event) ++ (slc r_.Events (0 : Int) i)) ++ ([e_] : List Event)) ++ (slc r_.Events i (r_.Events.length : Int)))) rfl (fun _ => rfl) ⟨⟨_, rfl, (.agg (.cons .same (.cons .same (.cons .same (.cons .here .nil)))))⟩, trivial⟩ ⟨_, _, rfl, rfl, .inr (.cons (.agg (.cons .same (.cons .same (.cons .same (.cons .here .nil))))) .nil), ⟨_, _, rfl, rfl, .inl rfl, ⟨_, _, rfl, rfl, .inl rfl, ⟨_, _, rfl, rfl, .inl rfl, ⟨_, _, rfl, rfl, .inl rfl, rfl⟩⟩⟩⟩⟩ rfl iNil) (Keeps.mk (ks := [0, 2]) rfl ⟨rfl, rfl, trivial⟩ (⟨_, _, rfl, rfl, ⟨_, _, rfl, rfl, rfl⟩⟩) rfl)⟩
      ·
       refine ⟨_, _, _, _, rfl, rfl, rfl, (rfl), fun E1 => ?_⟩
       refine (V1.alloc rfl rfl zk_26 (ltb rfl) ?_)
       intro b35
       refine ⟨_, _, rfl, ?_⟩
       refine WalkP.nil ?_
       refine NodeS.branch [11] (inCons 4 rfl (inCons 5 rfl inNil)) rfl rfl rfl ⟨?_, trivial⟩
       ·
        refine ⟨_, _, _, _, rfl, rfl, rfl, (⟨_, _, rfl, rfl, ⟨_, _, rfl, rfl, rfl⟩⟩), fun E1 => ?_⟩
        refine (V1.appendMap (k := 2) (f := encEvent) (l := ([] : List Event)) (m := (slc r_.Events (0 : Int) i)) rfl rfl rfl rfl rfl esz_24 eby_24 zk_43 rfl rfl rfl (.vl isl_24) hh5 (ltb rfl) ?_)
        intro b36
        refine ⟨_, _, rfl, ?_⟩
        refine WalkP.nil ?_
        refine NodeS.branch [14] (inCons 4 rfl (inCons 5 rfl inNil)) rfl rfl rfl ⟨?_, trivial⟩
        ·
         refine ⟨_, _, _, _, rfl, rfl, rfl, (⟨_, _, rfl, rfl, ⟨_, _, rfl, rfl, rfl⟩⟩), fun E1 => ?_⟩
         refine (V1.appendMap (k := 0) (f := encEvent) (l := (([] : List Event) ++ (slc r_.Events (0 : Int) i))) (m := ([e_] : List Event)) rfl rfl rfl rfl rfl esz_24 eby_24 zk_43 rfl rfl rfl (SrcOf.srMap (k := 2) rfl isl_24) hh6 (ltb rfl) ?_)
         intro b37
         refine ⟨_, _, rfl, ?_⟩
         refine WalkP.nil ?_
         refine NodeS.branch [19] (inCons 4 rfl (inCons 5 rfl inNil)) rfl rfl rfl ⟨?_, trivial⟩
         ·
          refine ⟨_, _, _, _, rfl, rfl, rfl, (⟨_, _, rfl, rfl, ⟨_, _, rfl, rfl, rfl⟩⟩), fun E1 => ?_⟩
          refine (V1.appendMap (k := 0) (f := encEvent) (l := ((([] : List Event) ++ (slc r_.Events (0 : Int) i)) ++ ([e_] : List Event))) (m := (slc r_.Events i (r_.Events.length : Int))) rfl rfl rfl rfl rfl esz_24 eby_24 zk_43 rfl rfl rfl (.vl isl_24) hh8 (ltb rfl) ?_)
          intro b38
          refine ⟨_, _, rfl, ?_⟩
          refine WalkP.step (p := ?pv359) 20 rfl rfl rfl rfl rfl (⟨_, _, rfl, rfl, ⟨_, _, rfl, rfl, ⟨_, _, rfl, rfl, ⟨_, _, rfl, rfl, rfl⟩⟩⟩⟩) ?hv359 ?rest359
          case hv359 =>
           intro E1 H1 hI1
           refine (V1.build rfl rfl zk_26 pl_26 rfl rfl (ltb rfl) ?_)
           exact rfl
          refine WalkP.nil ?_
          refine NodeS.fin (inCons 4 rfl (inCons 5 rfl inNil)) rfl rfl rfl (⟨_, _, rfl, rfl, ⟨_, _, rfl, rfl, ⟨_, _, rfl, rfl, rfl⟩⟩⟩) ?_
          refine VO.cons rfl (V1.storeRefAll (k := 1) rfl rfl tyk_26 rfl rfl rfl rfl rfl rfl ?_)
          refine VO.nil ?_
          exact ⟨((), b35), Option.some.inj hm1, Keeps.trans (Keeps.freezeG 0 rn [(62, .agg [.int .i64 r_.Id, .int .i64 r_.Series, .int .i64 r_.Made, .vl rn 2 (List.map encEvent (((([] : List Event) ++ (slc r_.Events (0 : Int) i)) ++ ([e_] : List Event)) ++ (slc r_.Events i (r_.Events.length : Int))))])] [(b35, ⟨4, [.agg [.int .i64 r_.Id, .int .i64 r_.Series, .int .i64 r_.Made, .vl rn 2 (List.map encEvent (((([] : List Event) ++ (slc r_.Events (0 : Int) i)) ++ ([e_] : List Event)) ++ (slc r_.Events i (r_.Events.length : Int))))]]⟩), (b25, ⟨2, List.map encEvent ([e_] : List Event)⟩), (b2, ⟨4, [.agg [.int .i64 (0 : Int), .int .i64 (0 : Int), .int .i64 (0 : Int), .nils]]⟩), (b1, ⟨2, [encEvent e_]⟩), (b0, ⟨4, [encRecord ρ0 r_]⟩)] (f := encEvent) (l := (((([] : List Event) ++ (slc r_.Events (0 : Int) i)) ++ ([e_] : List Event)) ++ (slc r_.Events i (r_.Events.length : Int)))) rfl (fun _ => rfl) ⟨⟨_, rfl, (.agg (.cons .same (.cons .same (.cons .same (.cons .here .nil)))))⟩, trivial⟩ ⟨_, _, rfl, rfl, .inr (.cons (.agg (.cons .same (.cons .same (.cons .same (.cons .here .nil))))) .nil), ⟨_, _, rfl, rfl, .inl rfl, ⟨_, _, rfl, rfl, .inl rfl, ⟨_, _, rfl, rfl, .inl rfl, ⟨_, _, rfl, rfl, .inl rfl, rfl⟩⟩⟩⟩⟩ rfl iNil) (Keeps.mk (ks := [0, 2]) rfl ⟨rfl, rfl, trivial⟩ (⟨_, _, rfl, rfl, ⟨_, _, rfl, rfl, rfl⟩⟩) rfl)⟩
     ·
      refine ⟨_, _, _, _, rfl, rfl, rfl, (rfl), fun E1 => ?_⟩
      refine (V1.alloc rfl rfl zk_26 (ltb rfl) ?_)
      intro b39
      refine ⟨_, _, rfl, ?_⟩
      refine WalkP.nil ?_
      refine NodeS.branch [11, 13] (inCons 3 rfl (inCons 4 rfl inNil)) rfl rfl rfl ⟨?_, ?_, trivial⟩
      ·
       refine ⟨_, _, _, _, rfl, rfl, rfl, (⟨_, _, rfl, rfl, ⟨_, _, rfl, rfl, rfl⟩⟩), fun E1 => ?_⟩
       refine (V1.appendMap (k := 1) (f := encEvent) (l := ([] : List Event)) (m := (slc r_.Events (0 : Int) i)) rfl rfl rfl rfl rfl esz_24 eby_24 zk_43 rfl rfl rfl (.vl isl_24) hh5 (ltb rfl) ?_)
       intro b40
       refine ⟨_, _, rfl, ?_⟩
       refine WalkP.nil ?_
       refine NodeS.branch [13] (inCons 3 rfl (inCons 4 rfl inNil)) rfl rfl rfl ⟨?_, trivial⟩
       ·
        refine ⟨_, _, _, _, rfl, rfl, rfl, (⟨_, _, rfl, rfl, rfl⟩), fun E1 => ?_⟩
        refine (V1.buildSliceT (f := encEvent) ([e_] : List Event) rfl rfl esz_24 zk_43 rfl rfl rfl rfl rfl rfl rfl (ltb rfl) ?_)
        intro b41
        refine ⟨_, _, rfl, ?_⟩
        refine WalkP.nil ?_
        refine NodeS.branch [14] (inCons 4 rfl (inCons 5 rfl inNil)) rfl rfl rfl ⟨?_, trivial⟩
        ·
         refine ⟨_, _, _, _, rfl, rfl, rfl, (⟨_, _, rfl, rfl, ⟨_, _, rfl, rfl, rfl⟩⟩), fun E1 => ?_⟩
         refine (V1.appendMap (k := 1) (f := encEvent) (l := (([] : List Event) ++ (slc r_.Events (0 : Int) i))) (m := ([e_] : List Event)) rfl rfl rfl rfl rfl esz_24 eby_24 zk_43 rfl rfl rfl (SrcOf.srMap (k := 0) rfl isl_24) hh6 (ltb rfl) ?_)
         intro b42
         refine ⟨_, _, rfl, ?_⟩
         refine WalkP.nil ?_
         refine NodeS.branch [19] (inCons 4 rfl (inCons 5 rfl inNil)) rfl rfl rfl ⟨?_, trivial⟩
         ·
          refine ⟨_, _, _, _, rfl, rfl, rfl, (⟨_, _, rfl, rfl, ⟨_, _, rfl, rfl, rfl⟩⟩), fun E1 => ?_⟩
          refine (V1.appendMap (k := 0) (f := encEvent) (l := ((([] : List Event) ++ (slc r_.Events (0 : Int) i)) ++ ([e_] : List Event))) (m := (slc r_.Events i (r_.Events.length : Int))) rfl rfl rfl rfl rfl esz_24 eby_24 zk_43 rfl rfl rfl (.vl isl_24) hh8 (ltb rfl) ?_)
          intro b43
          refine ⟨_, _, rfl, ?_⟩
          refine WalkP.step (p := ?pv360) 20 rfl rfl rfl rfl rfl (⟨_, _, rfl, rfl, ⟨_, _, rfl, rfl, ⟨_, _, rfl, rfl, ⟨_, _, rfl, rfl, rfl⟩⟩⟩⟩) ?hv360 ?rest360
          case hv360 =>
           intro E1 H1 hI1
           refine (V1.build rfl rfl zk_26 pl_26 rfl rfl (ltb rfl) ?_)
           exact rfl
          refine WalkP.nil ?_
          refine NodeS.fin (inCons 4 rfl (inCons 5 rfl inNil)) rfl rfl rfl (⟨_, _, rfl, rfl, ⟨_, _, rfl, rfl, ⟨_, _, rfl, rfl, rfl⟩⟩⟩) ?_
          refine VO.cons rfl (V1.storeRefAll (k := 2) rfl rfl tyk_26 rfl rfl rfl rfl rfl rfl ?_)
          refine VO.nil ?_
          exact ⟨((), b39), Option.some.inj hm1, Keeps.trans (Keeps.freezeG 0 rn [(62, .agg [.int .i64 r_.Id, .int .i64 r_.Series, .int .i64 r_.Made, .vl rn 2 (List.map encEvent (((([] : List Event) ++ (slc r_.Events (0 : Int) i)) ++ ([e_] : List Event)) ++ (slc r_.Events i (r_.Events.length : Int))))])] [(b41, ⟨2, List.map encEvent ([e_] : List Event)⟩), (b39, ⟨4, [.agg [.int .i64 r_.Id, .int .i64 r_.Series, .int .i64 r_.Made, .vl rn 2 (List.map encEvent (((([] : List Event) ++ (slc r_.Events (0 : Int) i)) ++ ([e_] : List Event)) ++ (slc r_.Events i (r_.Events.length : Int))))]]⟩), (b2, ⟨4, [.agg [.int .i64 (0 : Int), .int .i64 (0 : Int), .int .i64 (0 : Int), .nils]]⟩), (b1, ⟨2, [encEvent e_]⟩), (b0, ⟨4, [encRecord ρ0 r_]⟩)] (f := encEvent) (l := (((([] : List Event) ++ (slc r_.Events (0 : Int) i)) ++ ([e_] : List Event)) ++ (slc r_.Events i (r_.Events.length : Int)))) rfl (fun _ => rfl) ⟨⟨_, rfl, (.agg (.cons .same (.cons .same (.cons .same (.cons .here .nil)))))⟩, trivial⟩ ⟨_, _, rfl, rfl, .inl rfl, ⟨_, _, rfl, rfl, .inr (.cons (.agg (.cons .same (.cons .same (.cons .same (.cons .here .nil))))) .nil), ⟨_, _, rfl, rfl, .inl rfl, ⟨_, _, rfl, rfl, .inl rfl, ⟨_, _, rfl, rfl, .inl rfl, rfl⟩⟩⟩⟩⟩ rfl iNil) (Keeps.mk (ks := [1, 2]) rfl ⟨rfl, rfl, trivial⟩ (⟨_, _, rfl, rfl, ⟨_, _, rfl, rfl, rfl⟩⟩) rfl)⟩
      ·
       refine ⟨_, _, _, _, rfl, rfl, rfl, (⟨_, _, rfl, rfl, rfl⟩), fun E1 => ?_⟩
       refine (V1.buildSliceT (f := encEvent) ([e_] : List Event) rfl rfl esz_24 zk_43 rfl rfl rfl rfl rfl rfl rfl (ltb rfl) ?_)
       intro b44
       refine ⟨_, _, rfl, ?_⟩
       refine WalkP.nil ?_
       refine NodeS.branch [11] (inCons 4 rfl (inCons 5 rfl inNil)) rfl rfl rfl ⟨?_, trivial⟩
       ·
        refine ⟨_, _, _, _, rfl, rfl, rfl, (⟨_, _, rfl, rfl, ⟨_, _, rfl, rfl, rfl⟩⟩), fun E1 => ?_⟩
        refine (V1.appendMap (k := 2) (f := encEvent) (l := ([] : List Event)) (m := (slc r_.Events (0 : Int) i)) rfl rfl rfl rfl rfl esz_24 eby_24 zk_43 rfl rfl rfl (.vl isl_24) hh5 (ltb rfl) ?_)
        intro b45
        refine ⟨_, _, rfl, ?_⟩
        refine WalkP.nil ?_
        refine NodeS.branch [14] (inCons 4 rfl (inCons 5 rfl inNil)) rfl rfl rfl ⟨?_, trivial⟩
        ·
         refine ⟨_, _, _, _, rfl, rfl, rfl, (⟨_, _, rfl, rfl, ⟨_, _, rfl, rfl, rfl⟩⟩), fun E1 => ?_⟩
         refine (V1.appendMap (k := 0) (f := encEvent) (l := (([] : List Event) ++ (slc r_.Events (0 : Int) i))) (m := ([e_] : List Event)) rfl rfl rfl rfl rfl esz_24 eby_24 zk_43 rfl rfl rfl (SrcOf.srMap (k := 1) rfl isl_24) hh6 (ltb rfl) ?_)
         intro b46
         refine ⟨_, _, rfl, ?_⟩
         refine WalkP.nil ?_
         refine NodeS.branch [19] (inCons 4 rfl (inCons 5 rfl inNil)) rfl rfl rfl ⟨?_, trivial⟩
         ·
          refine ⟨_, _, _, _, rfl, rfl, rfl, (⟨_, _, rfl, rfl, ⟨_, _, rfl, rfl, rfl⟩⟩), fun E1 => ?_⟩
          refine (V1.appendMap (k := 0) (f := encEvent) (l := ((([] : List Event) ++ (slc r_.Events (0 : Int) i)) ++ ([e_] : List Event))) (m := (slc r_.Events i (r_.Events.length : Int))) rfl rfl rfl rfl rfl esz_24 eby_24 zk_43 rfl rfl rfl (.vl isl_24) hh8 (ltb rfl) ?_)
          intro b47
          refine ⟨_, _, rfl, ?_⟩
          refine WalkP.step (p := ?pv361) 20 rfl rfl rfl rfl rfl (⟨_, _, rfl, rfl, ⟨_, _, rfl, rfl, ⟨_, _, rfl, rfl, ⟨_, _, rfl, rfl, rfl⟩⟩⟩⟩) ?hv361 ?rest361
          case hv361 =>
           intro E1 H1 hI1
           refine (V1.build rfl rfl zk_26 pl_26 rfl rfl (ltb rfl) ?_)
           exact rfl
          refine WalkP.nil ?_
          refine NodeS.fin (inCons 4 rfl (inCons 5 rfl inNil)) rfl rfl rfl (⟨_, _, rfl, rfl, ⟨_, _, rfl, rfl, ⟨_, _, rfl, rfl, rfl⟩⟩⟩) ?_
          refine VO.cons rfl (V1.storeRefAll (k := 2) rfl rfl tyk_26 rfl rfl rfl rfl rfl rfl ?_)
          refine VO.nil ?_
          exact ⟨((), b39), Option.some.inj hm1, Keeps.trans (Keeps.freezeG 0 rn [(62, .agg [.int .i64 r_.Id, .int .i64 r_.Series, .int .i64 r_.Made, .vl rn 2 (List.map encEvent (((([] : List Event) ++ (slc r_.Events (0 : Int) i)) ++ ([e_] : List Event)) ++ (slc r_.Events i (r_.Events.length : Int))))])] [(b44, ⟨2, List.map encEvent ([e_] : List Event)⟩), (b39, ⟨4, [.agg [.int .i64 r_.Id, .int .i64 r_.Series, .int .i64 r_.Made, .vl rn 2 (List.map encEvent (((([] : List Event) ++ (slc r_.Events (0 : Int) i)) ++ ([e_] : List Event)) ++ (slc r_.Events i (r_.Events.length : Int))))]]⟩), (b2, ⟨4, [.agg [.int .i64 (0 : Int), .int .i64 (0 : Int), .int .i64 (0 : Int), .nils]]⟩), (b1, ⟨2, [encEvent e_]⟩), (b0, ⟨4, [encRecord ρ0 r_]⟩)] (f := encEvent) (l := (((([] : List Event) ++ (slc r_.Events (0 : Int) i)) ++ ([e_] : List Event)) ++ (slc r_.Events i (r_.Events.length : Int)))) rfl (fun _ => rfl) ⟨⟨_, rfl, (.agg (.cons .same (.cons .same (.cons .same (.cons .here .nil)))))⟩, trivial⟩ ⟨_, _, rfl, rfl, .inl rfl, ⟨_, _, rfl, rfl, .inr (.cons (.agg (.cons .same (.cons .same (.cons .same (.cons .here .nil))))) .nil), ⟨_, _, rfl, rfl, .inl rfl, ⟨_, _, rfl, rfl, .inl rfl, ⟨_, _, rfl, rfl, .inl rfl, rfl⟩⟩⟩⟩⟩ rfl iNil) (Keeps.mk (ks := [1, 2]) rfl ⟨rfl, rfl, trivial⟩ (⟨_, _, rfl, rfl, ⟨_, _, rfl, rfl, rfl⟩⟩) rfl)⟩
    ·
     refine ⟨_, _, _, _, rfl, rfl, rfl, (⟨_, _, rfl, rfl, rfl⟩), fun E1 => ?_⟩
     refine (V1.buildSliceT (f := encEvent) ([e_] : List Event) rfl rfl esz_24 zk_43 rfl rfl rfl rfl rfl rfl rfl (ltb rfl) ?_)
     intro b48
     refine ⟨_, _, rfl, ?_⟩
     refine WalkP.nil ?_
     refine NodeS.branch [6, 21] (inCons 2 rfl (inCons 3 rfl inNil)) rfl rfl rfl ⟨?_, ?_, trivial⟩
     ·
      refine ⟨_, _, _, _, rfl, rfl, rfl, (rfl), fun E1 => ?_⟩
      refine (V1.buildSliceT (f := encEvent) ([] : List Event) rfl rfl esz_24 zk_43 rfl rfl rfl rfl rfl rfl rfl (ltb rfl) ?_)
      intro b49
      refine ⟨_, _, rfl, ?_⟩
      refine WalkP.nil ?_
      refine NodeS.branch [11, 21] (inCons 3 rfl (inCons 4 rfl inNil)) rfl rfl rfl ⟨?_, ?_, trivial⟩
      ·
       refine ⟨_, _, _, _, rfl, rfl, rfl, (⟨_, _, rfl, rfl, ⟨_, _, rfl, rfl, rfl⟩⟩), fun E1 => ?_⟩
       refine (V1.appendMap (k := 0) (f := encEvent) (l := ([] : List Event)) (m := (slc r_.Events (0 : Int) i)) rfl rfl rfl rfl rfl esz_24 eby_24 zk_43 rfl rfl rfl (.vl isl_24) hh5 (ltb rfl) ?_)
       intro b50
       refine ⟨_, _, rfl, ?_⟩
       refine WalkP.nil ?_
       refine NodeS.branch [14, 21] (inCons 3 rfl (inCons 4 rfl inNil)) rfl rfl rfl ⟨?_, ?_, trivial⟩
       ·
        refine ⟨_, _, _, _, rfl, rfl, rfl, (⟨_, _, rfl, rfl, ⟨_, _, rfl, rfl, rfl⟩⟩), fun E1 => ?_⟩
        refine (V1.appendMap (k := 0) (f := encEvent) (l := (([] : List Event) ++ (slc r_.Events (0 : Int) i))) (m := ([e_] : List Event)) rfl rfl rfl rfl rfl esz_24 eby_24 zk_43 rfl rfl rfl (SrcOf.srMap (k := 1) rfl isl_24) hh6 (ltb rfl) ?_)
        intro b51
        refine ⟨_, _, rfl, ?_⟩
        refine WalkP.nil ?_
        refine NodeS.branch [19, 21] (inCons 3 rfl (inCons 4 rfl inNil)) rfl rfl rfl ⟨?_, ?_, trivial⟩
        ·
         refine ⟨_, _, _, _, rfl, rfl, rfl, (⟨_, _, rfl, rfl, ⟨_, _, rfl, rfl, rfl⟩⟩), fun E1 => ?_⟩
         refine (V1.appendMap (k := 0) (f := encEvent) (l := ((([] : List Event) ++ (slc r_.Events (0 : Int) i)) ++ ([e_] : List Event))) (m := (slc r_.Events i (r_.Events.length : Int))) rfl rfl rfl rfl rfl esz_24 eby_24 zk_43 rfl rfl rfl (.vl isl_24) hh8 (ltb rfl) ?_)
         intro b52
         refine ⟨_, _, rfl, ?_⟩
         refine WalkP.step (p := ?pv362) 20 rfl rfl rfl rfl rfl (⟨_, _, rfl, rfl, ⟨_, _, rfl, rfl, ⟨_, _, rfl, rfl, ⟨_, _, rfl, rfl, rfl⟩⟩⟩⟩) ?hv362 ?rest362
         case hv362 =>
          intro E1 H1 hI1
          refine (V1.build rfl rfl zk_26 pl_26 rfl rfl (ltb rfl) ?_)
          exact rfl
         refine WalkP.nil ?_
         refine NodeS.branch [21] (inCons 3 rfl (inCons 4 rfl inNil)) rfl rfl rfl ⟨?_, trivial⟩
         ·
          refine ⟨_, _, _, _, rfl, rfl, rfl, (rfl), fun E1 => ?_⟩
          refine (V1.alloc rfl rfl zk_26 (ltb rfl) ?_)
          intro b53
          refine ⟨_, _, rfl, ?_⟩
          refine WalkP.nil ?_
          refine NodeS.fin (inCons 4 rfl (inCons 5 rfl inNil)) rfl rfl rfl (⟨_, _, rfl, rfl, ⟨_, _, rfl, rfl, ⟨_, _, rfl, rfl, rfl⟩⟩⟩) ?_
          refine VO.cons rfl (V1.storeRefAll (k := 0) rfl rfl tyk_26 rfl rfl rfl rfl rfl rfl ?_)
          refine VO.nil ?_
          exact ⟨((), b53), Option.some.inj hm1, Keeps.trans (Keeps.freezeG 1 rn [(62, .agg [.int .i64 r_.Id, .int .i64 r_.Series, .int .i64 r_.Made, .vl rn 2 (List.map encEvent (((([] : List Event) ++ (slc r_.Events (0 : Int) i)) ++ ([e_] : List Event)) ++ (slc r_.Events i (r_.Events.length : Int))))])] [(b53, ⟨4, [.agg [.int .i64 r_.Id, .int .i64 r_.Series, .int .i64 r_.Made, .vl rn 2 (List.map encEvent (((([] : List Event) ++ (slc r_.Events (0 : Int) i)) ++ ([e_] : List Event)) ++ (slc r_.Events i (r_.Events.length : Int))))]]⟩), (b48, ⟨2, List.map encEvent ([e_] : List Event)⟩), (b2, ⟨4, [.agg [.int .i64 (0 : Int), .int .i64 (0 : Int), .int .i64 (0 : Int), .nils]]⟩), (b1, ⟨2, [encEvent e_]⟩), (b0, ⟨4, [encRecord ρ0 r_]⟩)] (f := encEvent) (l := (((([] : List Event) ++ (slc r_.Events (0 : Int) i)) ++ ([e_] : List Event)) ++ (slc r_.Events i (r_.Events.length : Int)))) rfl (fun _ => rfl) ⟨⟨_, rfl, (.agg (.cons .same (.cons .same (.cons .same (.cons .here .nil)))))⟩, trivial⟩ ⟨_, _, rfl, rfl, .inr (.cons (.agg (.cons .same (.cons .same (.cons .same (.cons .here .nil))))) .nil), ⟨_, _, rfl, rfl, .inl rfl, ⟨_, _, rfl, rfl, .inl rfl, ⟨_, _, rfl, rfl, .inl rfl, ⟨_, _, rfl, rfl, .inl rfl, rfl⟩⟩⟩⟩⟩ rfl iNil) (Keeps.mk (ks := [0, 2]) rfl ⟨rfl, rfl, trivial⟩ (⟨_, _, rfl, rfl, ⟨_, _, rfl, rfl, rfl⟩⟩) rfl)⟩
        ·
         refine ⟨_, _, _, _, rfl, rfl, rfl, (rfl), fun E1 => ?_⟩
         refine (V1.alloc rfl rfl zk_26 (ltb rfl) ?_)
         intro b54
         refine ⟨_, _, rfl, ?_⟩
         refine WalkP.nil ?_
         refine NodeS.branch [19] (inCons 4 rfl (inCons 5 rfl inNil)) rfl rfl rfl ⟨?_, trivial⟩
         ·
          refine ⟨_, _, _, _, rfl, rfl, rfl, (⟨_, _, rfl, rfl, ⟨_, _, rfl, rfl, rfl⟩⟩), fun E1 => ?_⟩
          refine (V1.appendMap (k := 1) (f := encEvent) (l := ((([] : List Event) ++ (slc r_.Events (0 : Int) i)) ++ ([e_] : List Event))) (m := (slc r_.Events i (r_.Events.length : Int))) rfl rfl rfl rfl rfl esz_24 eby_24 zk_43 rfl rfl rfl (.vl isl_24) hh8 (ltb rfl) ?_)
          intro b55
          refine ⟨_, _, rfl, ?_⟩
          refine WalkP.step (p := ?pv363) 20 rfl rfl rfl rfl rfl (⟨_, _, rfl, rfl, ⟨_, _, rfl, rfl, ⟨_, _, rfl, rfl, ⟨_, _, rfl, rfl, rfl⟩⟩⟩⟩) ?hv363 ?rest363
          case hv363 =>
           intro E1 H1 hI1
           refine (V1.build rfl rfl zk_26 pl_26 rfl rfl (ltb rfl) ?_)
           exact rfl
          refine WalkP.nil ?_
          refine NodeS.fin (inCons 4 rfl (inCons 5 rfl inNil)) rfl rfl rfl (⟨_, _, rfl, rfl, ⟨_, _, rfl, rfl, ⟨_, _, rfl, rfl, rfl⟩⟩⟩) ?_
          refine VO.cons rfl (V1.storeRefAll (k := 1) rfl rfl tyk_26 rfl rfl rfl rfl rfl rfl ?_)
          refine VO.nil ?_
          exact ⟨((), b54), Option.some.inj hm1, Keeps.trans (Keeps.freezeG 0 rn [(62, .agg [.int .i64 r_.Id, .int .i64 r_.Series, .int .i64 r_.Made, .vl rn 2 (List.map encEvent (((([] : List Event) ++ (slc r_.Events (0 : Int) i)) ++ ([e_] : List Event)) ++ (slc r_.Events i (r_.Events.length : Int))))])] [(b54, ⟨4, [.agg [.int .i64 r_.Id, .int .i64 r_.Series, .int .i64 r_.Made, .vl rn 2 (List.map encEvent (((([] : List Event) ++ (slc r_.Events (0 : Int) i)) ++ ([e_] : List Event)) ++ (slc r_.Events i (r_.Events.length : Int))))]]⟩), (b48, ⟨2, List.map encEvent ([e_] : List Event)⟩), (b2, ⟨4, [.agg [.int .i64 (0 : Int), .int .i64 (0 : Int), .int .i64 (0 : Int), .nils]]⟩), (b1, ⟨2, [encEvent e_]⟩), (b0, ⟨4, [encRecord ρ0 r_]⟩)] (f := encEvent) (l := (((([] : List Event) ++ (slc r_.Events (0 : Int) i)) ++ ([e_] : List Event)) ++ (slc r_.Events i (r_.Events.length : Int)))) rfl (fun _ => rfl) ⟨⟨_, rfl, (.agg (.cons .same (.cons .same (.cons .same (.cons .here .nil)))))⟩, trivial⟩ ⟨_, _, rfl, rfl, .inr (.cons (.agg (.cons .same (.cons .same (.cons .same (.cons .here .nil))))) .nil), ⟨_, _, rfl, rfl, .inl rfl, ⟨_, _, rfl, rfl, .inl rfl, ⟨_, _, rfl, rfl, .inl rfl, ⟨_, _, rfl, rfl, .inl rfl, rfl⟩⟩⟩⟩⟩ rfl iNil) (Keeps.mk (ks := [0, 2]) rfl ⟨rfl, rfl, trivial⟩ (⟨_, _, rfl, rfl, ⟨_, _, rfl, rfl, rfl⟩⟩) rfl)⟩
       ·
        refine ⟨_, _, _, _, rfl, rfl, rfl, (rfl), fun E1 => ?_⟩
        refine (V1.alloc rfl rfl zk_26 (ltb rfl) ?_)
        intro b56
        refine ⟨_, _, rfl, ?_⟩
        refine WalkP.nil ?_
        refine NodeS.branch [14] (inCons 4 rfl (inCons 5 rfl inNil)) rfl rfl rfl ⟨?_, trivial⟩
        ·
         refine ⟨_, _, _, _, rfl, rfl, rfl, (⟨_, _, rfl, rfl, ⟨_, _, rfl, rfl, rfl⟩⟩), fun E1 => ?_⟩
         refine (V1.appendMap (k := 1) (f := encEvent) (l := (([] : List Event) ++ (slc r_.Events (0 : Int) i))) (m := ([e_] : List Event)) rfl rfl rfl rfl rfl esz_24 eby_24 zk_43 rfl rfl rfl (SrcOf.srMap (k := 2) rfl isl_24) hh6 (ltb rfl) ?_)
         intro b57
         refine ⟨_, _, rfl, ?_⟩
         refine WalkP.nil ?_
         refine NodeS.branch [19] (inCons 4 rfl (inCons 5 rfl inNil)) rfl rfl rfl ⟨?_, trivial⟩
         ·
          refine ⟨_, _, _, _, rfl, rfl, rfl, (⟨_, _, rfl, rfl, ⟨_, _, rfl, rfl, rfl⟩⟩), fun E1 => ?_⟩
          refine (V1.appendMap (k := 0) (f := encEvent) (l := ((([] : List Event) ++ (slc r_.Events (0 : Int) i)) ++ ([e_] : List Event))) (m := (slc r_.Events i (r_.Events.length : Int))) rfl rfl rfl rfl rfl esz_24 eby_24 zk_43 rfl rfl rfl (.vl isl_24) hh8 (ltb rfl) ?_)
          intro b58
          refine ⟨_, _, rfl, ?_⟩
          refine WalkP.step (p := ?pv364) 20 rfl rfl rfl rfl rfl (⟨_, _, rfl, rfl, ⟨_, _, rfl, rfl, ⟨_, _, rfl, rfl, ⟨_, _, rfl, rfl, rfl⟩⟩⟩⟩) ?hv364 ?rest364
          case hv364 =>
           intro E1 H1 hI1
           refine (V1.build rfl rfl zk_26 pl_26 rfl rfl (ltb rfl) ?_)
           exact rfl
          refine WalkP.nil ?_
          refine NodeS.fin (inCons 4 rfl (inCons 5 rfl inNil)) rfl rfl rfl (⟨_, _, rfl, rfl, ⟨_, _, rfl, rfl, ⟨_, _, rfl, rfl, rfl⟩⟩⟩) ?_
          refine VO.cons rfl (V1.storeRefAll (k := 1) rfl rfl tyk_26 rfl rfl rfl rfl rfl rfl ?_)
          refine VO.nil ?_
          exact ⟨((), b56), Option.some.inj hm1, Keeps.trans (Keeps.freezeG 0 rn [(62, .agg [.int .i64 r_.Id, .int .i64 r_.Series, .int .i64 r_.Made, .vl rn 2 (List.map encEvent (((([] : List Event) ++ (slc r_.Events (0 : Int) i)) ++ ([e_] : List Event)) ++ (slc r_.Events i (r_.Events.length : Int))))])] [(b56, ⟨4, [.agg [.int .i64 r_.Id, .int .i64 r_.Series, .int .i64 r_.Made, .vl rn 2 (List.map encEvent (((([] : List Event) ++ (slc r_.Events (0 : Int) i)) ++ ([e_] : List Event)) ++ (slc r_.Events i (r_.Events.length : Int))))]]⟩), (b48, ⟨2, List.map encEvent ([e_] : List Event)⟩), (b2, ⟨4, [.agg [.int .i64 (0 : Int), .int .i64 (0 : Int), .int .i64 (0 : Int), .nils]]⟩), (b1, ⟨2, [encEvent e_]⟩), (b0, ⟨4, [encRecord ρ0 r_]⟩)] (f := encEvent) (l := (((([] : List Event) ++ (slc r_.Events (0 : Int) i)) ++ ([e_] : List Event)) ++ (slc r_.Events i (r_.Events.length : Int)))) rfl (fun _ => rfl) ⟨⟨_, rfl, (.agg (.cons .same (.cons .same (.cons .same (.cons .here .nil)))))⟩, trivial⟩ ⟨_, _, rfl, rfl, .inr (.cons (.agg (.cons .same (.cons .same (.cons .same (.cons .here .nil))))) .nil), ⟨_, _, rfl, rfl, .inl rfl, ⟨_, _, rfl, rfl, .inl rfl, ⟨_, _, rfl, rfl, .inl rfl, ⟨_, _, rfl, rfl, .inl rfl, rfl⟩⟩⟩⟩⟩ rfl iNil) (Keeps.mk (ks := [0, 2]) rfl ⟨rfl, rfl, trivial⟩ (⟨_, _, rfl, rfl, ⟨_, _, rfl, rfl, rfl⟩⟩) rfl)⟩
      ·
       refine ⟨_, _, _, _, rfl, rfl, rfl, (rfl), fun E1 => ?_⟩
       refine (V1.alloc rfl rfl zk_26 (ltb rfl) ?_)
       intro b59
       refine ⟨_, _, rfl, ?_⟩
       refine WalkP.nil ?_
       refine NodeS.branch [11] (inCons 4 rfl (inCons 5 rfl inNil)) rfl rfl rfl ⟨?_, trivial⟩
       ·
        refine ⟨_, _, _, _, rfl, rfl, rfl, (⟨_, _, rfl, rfl, ⟨_, _, rfl, rfl, rfl⟩⟩), fun E1 => ?_⟩
        refine (V1.appendMap (k := 1) (f := encEvent) (l := ([] : List Event)) (m := (slc r_.Events (0 : Int) i)) rfl rfl rfl rfl rfl esz_24 eby_24 zk_43 rfl rfl rfl (.vl isl_24) hh5 (ltb rfl) ?_)
        intro b60
        refine ⟨_, _, rfl, ?_⟩
        refine WalkP.nil ?_
        refine NodeS.branch [14] (inCons 4 rfl (inCons 5 rfl inNil)) rfl rfl rfl ⟨?_, trivial⟩
        ·
         refine ⟨_, _, _, _, rfl, rfl, rfl, (⟨_, _, rfl, rfl, ⟨_, _, rfl, rfl, rfl⟩⟩), fun E1 => ?_⟩
         refine (V1.appendMap (k := 0) (f := encEvent) (l := (([] : List Event) ++ (slc r_.Events (0 : Int) i))) (m := ([e_] : List Event)) rfl rfl rfl rfl rfl esz_24 eby_24 zk_43 rfl rfl rfl (SrcOf.srMap (k := 2) rfl isl_24) hh6 (ltb rfl) ?_)
         intro b61
         refine ⟨_, _, rfl, ?_⟩
         refine WalkP.nil ?_
         refine NodeS.branch [19] (inCons 4 rfl (inCons 5 rfl inNil)) rfl rfl rfl ⟨?_, trivial⟩
         ·
          refine ⟨_, _, _, _, rfl, rfl, rfl, (⟨_, _, rfl, rfl, ⟨_, _, rfl, rfl, rfl⟩⟩), fun E1 => ?_⟩
          refine (V1.appendMap (k := 0) (f := encEvent) (l := ((([] : List Event) ++ (slc r_.Events (0 : Int) i)) ++ ([e_] : List Event))) (m := (slc r_.Events i (r_.Events.length : Int))) rfl rfl rfl rfl rfl esz_24 eby_24 zk_43 rfl rfl rfl (.vl isl_24) hh8 (ltb rfl) ?_)
          intro b62
          refine ⟨_, _, rfl, ?_⟩
          refine WalkP.step (p := ?pv365) 20 rfl rfl rfl rfl rfl (⟨_, _, rfl, rfl, ⟨_, _, rfl, rfl, ⟨_, _, rfl, rfl, ⟨_, _, rfl, rfl, rfl⟩⟩⟩⟩) ?hv365 ?rest365
          case hv365 =>
           intro E1 H1 hI1
           refine (V1.build rfl rfl zk_26 pl_26 rfl rfl (ltb rfl) ?_)
           exact rfl
          refine WalkP.nil ?_
          refine NodeS.fin (inCons 4 rfl (inCons 5 rfl inNil)) rfl rfl rfl (⟨_, _, rfl, rfl, ⟨_, _, rfl, rfl, ⟨_, _, rfl, rfl, rfl⟩⟩⟩) ?_
          refine VO.cons rfl (V1.storeRefAll (k := 1) rfl rfl tyk_26 rfl rfl rfl rfl rfl rfl ?_)
          refine VO.nil ?_
          exact ⟨((), b59), Option.some.inj hm1, Keeps.trans (Keeps.freezeG 0 rn [(62, .agg [.int .i64 r_.Id, .int .i64 r_.Series, .int .i64 r_.Made, .vl rn 2 (List.map encEvent (((([] : List Event) ++ (slc r_.Events (0 : Int) i)) ++ ([e_] : List Event)) ++ (slc r_.Events i (r_.Events.length : Int))))])] [(b59, ⟨4, [.agg [.int .i64 r_.Id, .int .i64 r_.Series, .int .i64 r_.Made, .vl rn 2 (List.map encEvent (((([] : List Event) ++ (slc r_.Events (0 : Int) i)) ++ ([e_] : List Event)) ++ (slc r_.Events i (r_.Events.length : Int))))]]⟩), (b48, ⟨2, List.map encEvent ([e_] : List Event)⟩), (b2, ⟨4, [.agg [.int .i64 (0 : Int), .int .i64 (0 : Int), .int .i64 (0 : Int), .nils]]⟩), (b1, ⟨2, [encEvent e_]⟩), (b0, ⟨4, [encRecord ρ0 r_]⟩)] (f := encEvent) (l := (((([] : List Event) ++ (slc r_.Events (0 : Int) i)) ++ ([e_] : List Event)) ++ (slc r_.Events i (r_.Events.length : Int)))) rfl (fun _ => rfl) ⟨⟨_, rfl, (.agg (.cons .same (.cons .same (.cons .same (.cons .here .nil)))))⟩, trivial⟩ ⟨_, _, rfl, rfl, .inr (.cons (.agg (.cons .same (.cons .same (.cons .same (.cons .here .nil))))) .nil), ⟨_, _, rfl, rfl, .inl rfl, ⟨_, _, rfl, rfl, .inl rfl, ⟨_, _, rfl, rfl, .inl rfl, ⟨_, _, rfl, rfl, .inl rfl, rfl⟩⟩⟩⟩⟩ rfl iNil) (Keeps.mk (ks := [0, 2]) rfl ⟨rfl, rfl, trivial⟩ (⟨_, _, rfl, rfl, ⟨_, _, rfl, rfl, rfl⟩⟩) rfl)⟩
     ·
      refine ⟨_, _, _, _, rfl, rfl, rfl, (rfl), fun E1 => ?_⟩
      refine (V1.alloc rfl rfl zk_26 (ltb rfl) ?_)
      intro b63
      refine ⟨_, _, rfl, ?_⟩
      refine WalkP.nil ?_
      refine NodeS.branch [6] (inCons 3 rfl (inCons 4 rfl inNil)) rfl rfl rfl ⟨?_, trivial⟩
      ·
       refine ⟨_, _, _, _, rfl, rfl, rfl, (rfl), fun E1 => ?_⟩
       refine (V1.buildSliceT (f := encEvent) ([] : List Event) rfl rfl esz_24 zk_43 rfl rfl rfl rfl rfl rfl rfl (ltb rfl) ?_)
       intro b64
       refine ⟨_, _, rfl, ?_⟩
       refine WalkP.nil ?_
       refine NodeS.branch [11] (inCons 4 rfl (inCons 5 rfl inNil)) rfl rfl rfl ⟨?_, trivial⟩
       ·
        refine ⟨_, _, _, _, rfl, rfl, rfl, (⟨_, _, rfl, rfl, ⟨_, _, rfl, rfl, rfl⟩⟩), fun E1 => ?_⟩
        refine (V1.appendMap (k := 0) (f := encEvent) (l := ([] : List Event)) (m := (slc r_.Events (0 : Int) i)) rfl rfl rfl rfl rfl esz_24 eby_24 zk_43 rfl rfl rfl (.vl isl_24) hh5 (ltb rfl) ?_)
        intro b65
        refine ⟨_, _, rfl, ?_⟩
        refine WalkP.nil ?_
        refine NodeS.branch [14] (inCons 4 rfl (inCons 5 rfl inNil)) rfl rfl rfl ⟨?_, trivial⟩
        ·
         refine ⟨_, _, _, _, rfl, rfl, rfl, (⟨_, _, rfl, rfl, ⟨_, _, rfl, rfl, rfl⟩⟩), fun E1 => ?_⟩
         refine (V1.appendMap (k := 0) (f := encEvent) (l := (([] : List Event) ++ (slc r_.Events (0 : Int) i))) (m := ([e_] : List Event)) rfl rfl rfl rfl rfl esz_24 eby_24 zk_43 rfl rfl rfl (SrcOf.srMap (k := 2) rfl isl_24) hh6 (ltb rfl) ?_)
         intro b66
         refine ⟨_, _, rfl, ?_⟩
         refine WalkP.nil ?_
         refine NodeS.branch [19] (inCons 4 rfl (inCons 5 rfl inNil)) rfl rfl rfl ⟨?_, trivial⟩
         ·
          refine ⟨_, _, _, _, rfl, rfl, rfl, (⟨_, _, rfl, rfl, ⟨_, _, rfl, rfl, rfl⟩⟩), fun E1 => ?_⟩
          refine (V1.appendMap (k := 0) (f := encEvent) (l := ((([] : List Event) ++ (slc r_.Events (0 : Int) i)) ++ ([e_] : List Event))) (m := (slc r_.Events i (r_.Events.length : Int))) rfl rfl rfl rfl rfl esz_24 eby_24 zk_43 rfl rfl rfl (.vl isl_24) hh8 (ltb rfl) ?_)
          intro b67
          refine ⟨_, _, rfl, ?_⟩
          refine WalkP.step (p := ?pv366) 20 rfl rfl rfl rfl rfl (⟨_, _, rfl, rfl, ⟨_, _, rfl, rfl, ⟨_, _, rfl, rfl, ⟨_, _, rfl, rfl, rfl⟩⟩⟩⟩) ?hv366 ?rest366
          case hv366 =>
           intro E1 H1 hI1
           refine (V1.build rfl rfl zk_26 pl_26 rfl rfl (ltb rfl) ?_)
           exact rfl
          refine WalkP.nil ?_
          refine NodeS.fin (inCons 4 rfl (inCons 5 rfl inNil)) rfl rfl rfl (⟨_, _, rfl, rfl, ⟨_, _, rfl, rfl, ⟨_, _, rfl, rfl, rfl⟩⟩⟩) ?_
          refine VO.cons rfl (V1.storeRefAll (k := 1) rfl rfl tyk_26 rfl rfl rfl rfl rfl rfl ?_)
          refine VO.nil ?_
          exact ⟨((), b63), Option.some.inj hm1, Keeps.trans (Keeps.freezeG 0 rn [(62, .agg [.int .i64 r_.Id, .int .i64 r_.Series, .int .i64 r_.Made, .vl rn 2 (List.map encEvent (((([] : List Event) ++ (slc r_.Events (0 : Int) i)) ++ ([e_] : List Event)) ++ (slc r_.Events i (r_.Events.length : Int))))])] [(b63, ⟨4, [.agg [.int .i64 r_.Id, .int .i64 r_.Series, .int .i64 r_.Made, .vl rn 2 (List.map encEvent (((([] : List Event) ++ (slc r_.Events (0 : Int) i)) ++ ([e_] : List Event)) ++ (slc r_.Events i (r_.Events.length : Int))))]]⟩), (b48, ⟨2, List.map encEvent ([e_] : List Event)⟩), (b2, ⟨4, [.agg [.int .i64 (0 : Int), .int .i64 (0 : Int), .int .i64 (0 : Int), .nils]]⟩), (b1, ⟨2, [encEvent e_]⟩), (b0, ⟨4, [encRecord ρ0 r_]⟩)] (f := encEvent) (l := (((([] : List Event) ++ (slc r_.Events (0 : Int) i)) ++ ([e_] : List Event)) ++ (slc r_.Events i (r_.Events.length : Int)))) rfl (fun _ => rfl) ⟨⟨_, rfl, (.agg (.cons .same (.cons .same (.cons .same (.cons .here .nil)))))⟩, trivial⟩ ⟨_, _, rfl, rfl, .inr (.cons (.agg (.cons .same (.cons .same (.cons .same (.cons .here .nil))))) .nil), ⟨_, _, rfl, rfl, .inl rfl, ⟨_, _, rfl, rfl, .inl rfl, ⟨_, _, rfl, rfl, .inl rfl, ⟨_, _, rfl, rfl, .inl rfl, rfl⟩⟩⟩⟩⟩ rfl iNil) (Keeps.mk (ks := [0, 2]) rfl ⟨rfl, rfl, trivial⟩ (⟨_, _, rfl, rfl, ⟨_, _, rfl, rfl, rfl⟩⟩) rfl)⟩
    ·
     refine ⟨_, _, _, _, rfl, rfl, rfl, (rfl), fun E1 => ?_⟩
     refine (V1.alloc rfl rfl zk_26 (ltb rfl) ?_)
     intro b68
     refine ⟨_, _, rfl, ?_⟩
     refine WalkP.nil ?_
     refine NodeS.branch [6, 13] (inCons 2 rfl (inCons 3 rfl inNil)) rfl rfl rfl ⟨?_, ?_, trivial⟩
     ·
      refine ⟨_, _, _, _, rfl, rfl, rfl, (rfl), fun E1 => ?_⟩
      refine (V1.buildSliceT (f := encEvent) ([] : List Event) rfl rfl esz_24 zk_43 rfl rfl rfl rfl rfl rfl rfl (ltb rfl) ?_)
      intro b69
      refine ⟨_, _, rfl, ?_⟩
      refine WalkP.nil ?_
      refine NodeS.branch [11, 13] (inCons 3 rfl (inCons 4 rfl inNil)) rfl rfl rfl ⟨?_, ?_, trivial⟩
      ·
       refine ⟨_, _, _, _, rfl, rfl, rfl, (⟨_, _, rfl, rfl, ⟨_, _, rfl, rfl, rfl⟩⟩), fun E1 => ?_⟩
       refine (V1.appendMap (k := 0) (f := encEvent) (l := ([] : List Event)) (m := (slc r_.Events (0 : Int) i)) rfl rfl rfl rfl rfl esz_24 eby_24 zk_43 rfl rfl rfl (.vl isl_24) hh5 (ltb rfl) ?_)
       intro b70
       refine ⟨_, _, rfl, ?_⟩
       refine WalkP.nil ?_
       refine NodeS.branch [13] (inCons 3 rfl (inCons 4 rfl inNil)) rfl rfl rfl ⟨?_, trivial⟩
       ·
        refine ⟨_, _, _, _, rfl, rfl, rfl, (⟨_, _, rfl, rfl, rfl⟩), fun E1 => ?_⟩
        refine (V1.buildSliceT (f := encEvent) ([e_] : List Event) rfl rfl esz_24 zk_43 rfl rfl rfl rfl rfl rfl rfl (ltb rfl) ?_)
        intro b71
        refine ⟨_, _, rfl, ?_⟩
        refine WalkP.nil ?_
        refine NodeS.branch [14] (inCons 4 rfl (inCons 5 rfl inNil)) rfl rfl rfl ⟨?_, trivial⟩
        ·
         refine ⟨_, _, _, _, rfl, rfl, rfl, (⟨_, _, rfl, rfl, ⟨_, _, rfl, rfl, rfl⟩⟩), fun E1 => ?_⟩
         refine (V1.appendMap (k := 1) (f := encEvent) (l := (([] : List Event) ++ (slc r_.Events (0 : Int) i))) (m := ([e_] : List Event)) rfl rfl rfl rfl rfl esz_24 eby_24 zk_43 rfl rfl rfl (SrcOf.srMap (k := 0) rfl isl_24) hh6 (ltb rfl) ?_)
         intro b72
         refine ⟨_, _, rfl, ?_⟩
         refine WalkP.nil ?_
         refine NodeS.branch [19] (inCons 4 rfl (inCons 5 rfl inNil)) rfl rfl rfl ⟨?_, trivial⟩
         ·
          refine ⟨_, _, _, _, rfl, rfl, rfl, (⟨_, _, rfl, rfl, ⟨_, _, rfl, rfl, rfl⟩⟩), fun E1 => ?_⟩
          refine (V1.appendMap (k := 0) (f := encEvent) (l := ((([] : List Event) ++ (slc r_.Events (0 : Int) i)) ++ ([e_] : List Event))) (m := (slc r_.Events i (r_.Events.length : Int))) rfl rfl rfl rfl rfl esz_24 eby_24 zk_43 rfl rfl rfl (.vl isl_24) hh8 (ltb rfl) ?_)
          intro b73
          refine ⟨_, _, rfl, ?_⟩
          refine WalkP.step (p := ?pv367) 20 rfl rfl rfl rfl rfl (⟨_, _, rfl, rfl, ⟨_, _, rfl, rfl, ⟨_, _, rfl, rfl, ⟨_, _, rfl, rfl, rfl⟩⟩⟩⟩) ?hv367 ?rest367
          case hv367 =>
           intro E1 H1 hI1
           refine (V1.build rfl rfl zk_26 pl_26 rfl rfl (ltb rfl) ?_)
           exact rfl
          refine WalkP.nil ?_
          refine NodeS.fin (inCons 4 rfl (inCons 5 rfl inNil)) rfl rfl rfl (⟨_, _, rfl, rfl, ⟨_, _, rfl, rfl, ⟨_, _, rfl, rfl, rfl⟩⟩⟩) ?_
          refine VO.cons rfl (V1.storeRefAll (k := 2) rfl rfl tyk_26 rfl rfl rfl rfl rfl rfl ?_)
          refine VO.nil ?_
          exact ⟨((), b68), Option.some.inj hm1, Keeps.trans (Keeps.freezeG 0 rn [(62, .agg [.int .i64 r_.Id, .int .i64 r_.Series, .int .i64 r_.Made, .vl rn 2 (List.map encEvent (((([] : List Event) ++ (slc r_.Events (0 : Int) i)) ++ ([e_] : List Event)) ++ (slc r_.Events i (r_.Events.length : Int))))])] [(b71, ⟨2, List.map encEvent ([e_] : List Event)⟩), (b68, ⟨4, [.agg [.int .i64 r_.Id, .int .i64 r_.Series, .int .i64 r_.Made, .vl rn 2 (List.map encEvent (((([] : List Event) ++ (slc r_.Events (0 : Int) i)) ++ ([e_] : List Event)) ++ (slc r_.Events i (r_.Events.length : Int))))]]⟩), (b2, ⟨4, [.agg [.int .i64 (0 : Int), .int .i64 (0 : Int), .int .i64 (0 : Int), .nils]]⟩), (b1, ⟨2, [encEvent e_]⟩), (b0, ⟨4, [encRecord ρ0 r_]⟩)] (f := encEvent) (l := (((([] : List Event) ++ (slc r_.Events (0 : Int) i)) ++ ([e_] : List Event)) ++ (slc r_.Events i (r_.Events.length : Int)))) rfl (fun _ => rfl) ⟨⟨_, rfl, (.agg (.cons .same (.cons .same (.cons .same (.cons .here .nil)))))⟩, trivial⟩ ⟨_, _, rfl, rfl, .inl rfl, ⟨_, _, rfl, rfl, .inr (.cons (.agg (.cons .same (.cons .same (.cons .same (.cons .here .nil))))) .nil), ⟨_, _, rfl, rfl, .inl rfl, ⟨_, _, rfl, rfl, .inl rfl, ⟨_, _, rfl, rfl, .inl rfl, rfl⟩⟩⟩⟩⟩ rfl iNil) (Keeps.mk (ks := [1, 2]) rfl ⟨rfl, rfl, trivial⟩ (⟨_, _, rfl, rfl, ⟨_, _, rfl, rfl, rfl⟩⟩) rfl)⟩
      ·
       refine ⟨_, _, _, _, rfl, rfl, rfl, (⟨_, _, rfl, rfl, rfl⟩), fun E1 => ?_⟩
       refine (V1.buildSliceT (f := encEvent) ([e_] : List Event) rfl rfl esz_24 zk_43 rfl rfl rfl rfl rfl rfl rfl (ltb rfl) ?_)
       intro b74
       refine ⟨_, _, rfl, ?_⟩
       refine WalkP.nil ?_
       refine NodeS.branch [11] (inCons 4 rfl (inCons 5 rfl inNil)) rfl rfl rfl ⟨?_, trivial⟩
       ·
        refine ⟨_, _, _, _, rfl, rfl, rfl, (⟨_, _, rfl, rfl, ⟨_, _, rfl, rfl, rfl⟩⟩), fun E1 => ?_⟩
        refine (V1.appendMap (k := 1) (f := encEvent) (l := ([] : List Event)) (m := (slc r_.Events (0 : Int) i)) rfl rfl rfl rfl rfl esz_24 eby_24 zk_43 rfl rfl rfl (.vl isl_24) hh5 (ltb rfl) ?_)
        intro b75
        refine ⟨_, _, rfl, ?_⟩
        refine WalkP.nil ?_
        refine NodeS.branch [14] (inCons 4 rfl (inCons 5 rfl inNil)) rfl rfl rfl ⟨?_, trivial⟩
        ·
         refine ⟨_, _, _, _, rfl, rfl, rfl, (⟨_, _, rfl, rfl, ⟨_, _, rfl, rfl, rfl⟩⟩), fun E1 => ?_⟩
         refine (V1.appendMap (k := 0) (f := encEvent) (l := (([] : List Event) ++ (slc r_.Events (0 : Int) i))) (m := ([e_] : List Event)) rfl rfl rfl rfl rfl esz_24 eby_24 zk_43 rfl rfl rfl (SrcOf.srMap (k := 1) rfl isl_24) hh6 (ltb rfl) ?_)
         intro b76
         refine ⟨_, _, rfl, ?_⟩
         refine WalkP.nil ?_
         refine NodeS.branch [19] (inCons 4 rfl (inCons 5 rfl inNil)) rfl rfl rfl ⟨?_, trivial⟩
         ·
          refine ⟨_, _, _, _, rfl, rfl, rfl, (⟨_, _, rfl, rfl, ⟨_, _, rfl, rfl, rfl⟩⟩), fun E1 => ?_⟩
          refine (V1.appendMap (k := 0) (f := encEvent) (l := ((([] : List Event) ++ (slc r_.Events (0 : Int) i)) ++ ([e_] : List Event))) (m := (slc r_.Events i (r_.Events.length : Int))) rfl rfl rfl rfl rfl esz_24 eby_24 zk_43 rfl rfl rfl (.vl isl_24) hh8 (ltb rfl) ?_)
          intro b77
          refine ⟨_, _, rfl, ?_⟩
          refine WalkP.step (p := ?pv368) 20 rfl rfl rfl rfl rfl (⟨_, _, rfl, rfl, ⟨_, _, rfl, rfl, ⟨_, _, rfl, rfl, ⟨_, _, rfl, rfl, rfl⟩⟩⟩⟩) ?hv368 ?rest368
          case hv368 =>
           intro E1 H1 hI1
           refine (V1.build rfl rfl zk_26 pl_26 rfl rfl (ltb rfl) ?_)
           exact rfl
          refine WalkP.nil ?_
          refine NodeS.fin (inCons 4 rfl (inCons 5 rfl inNil)) rfl rfl rfl (⟨_, _, rfl, rfl, ⟨_, _, rfl, rfl, ⟨_, _, rfl, rfl, rfl⟩⟩⟩) ?_
          refine VO.cons rfl (V1.storeRefAll (k := 2) rfl rfl tyk_26 rfl rfl rfl rfl rfl rfl ?_)
          refine VO.nil ?_
          exact ⟨((), b68), Option.some.inj hm1, Keeps.trans (Keeps.freezeG 0 rn [(62, .agg [.int .i64 r_.Id, .int .i64 r_.Series, .int .i64 r_.Made, .vl rn 2 (List.map encEvent (((([] : List Event) ++ (slc r_.Events (0 : Int) i)) ++ ([e_] : List Event)) ++ (slc r_.Events i (r_.Events.length : Int))))])] [(b74, ⟨2, List.map encEvent ([e_] : List Event)⟩), (b68, ⟨4, [.agg [.int .i64 r_.Id, .int .i64 r_.Series, .int .i64 r_.Made, .vl rn 2 (List.map encEvent (((([] : List Event) ++ (slc r_.Events (0 : Int) i)) ++ ([e_] : List Event)) ++ (slc r_.Events i (r_.Events.length : Int))))]]⟩), (b2, ⟨4, [.agg [.int .i64 (0 : Int), .int .i64 (0 : Int), .int .i64 (0 : Int), .nils]]⟩), (b1, ⟨2, [encEvent e_]⟩), (b0, ⟨4, [encRecord ρ0 r_]⟩)] (f := encEvent) (l := (((([] : List Event) ++ (slc r_.Events (0 : Int) i)) ++ ([e_] : List Event)) ++ (slc r_.Events i (r_.Events.length : Int)))) rfl (fun _ => rfl) ⟨⟨_, rfl, (.agg (.cons .same (.cons .same (.cons .same (.cons .here .nil)))))⟩, trivial⟩ ⟨_, _, rfl, rfl, .inl rfl, ⟨_, _, rfl, rfl, .inr (.cons (.agg (.cons .same (.cons .same (.cons .same (.cons .here .nil))))) .nil), ⟨_, _, rfl, rfl, .inl rfl, ⟨_, _, rfl, rfl, .inl rfl, ⟨_, _, rfl, rfl, .inl rfl, rfl⟩⟩⟩⟩⟩ rfl iNil) (Keeps.mk (ks := [1, 2]) rfl ⟨rfl, rfl, trivial⟩ (⟨_, _, rfl, rfl, ⟨_, _, rfl, rfl, rfl⟩⟩) rfl)⟩
     ·
      refine ⟨_, _, _, _, rfl, rfl, rfl, (⟨_, _, rfl, rfl, rfl⟩), fun E1 => ?_⟩
      refine (V1.buildSliceT (f := encEvent) ([e_] : List Event) rfl rfl esz_24 zk_43 rfl rfl rfl rfl rfl rfl rfl (ltb rfl) ?_)
      intro b78
      refine ⟨_, _, rfl, ?_⟩
      refine WalkP.nil ?_
      refine NodeS.branch [6] (inCons 3 rfl (inCons 4 rfl inNil)) rfl rfl rfl ⟨?_, trivial⟩
      ·
       refine ⟨_, _, _, _, rfl, rfl, rfl, (rfl), fun E1 => ?_⟩
       refine (V1.buildSliceT (f := encEvent) ([] : List Event) rfl rfl esz_24 zk_43 rfl rfl rfl rfl rfl rfl rfl (ltb rfl) ?_)
       intro b79
       refine ⟨_, _, rfl, ?_⟩
       refine WalkP.nil ?_
       refine NodeS.branch [11] (inCons 4 rfl (inCons 5 rfl inNil)) rfl rfl rfl ⟨?_, trivial⟩
       ·
        refine ⟨_, _, _, _, rfl, rfl, rfl, (⟨_, _, rfl, rfl, ⟨_, _, rfl, rfl, rfl⟩⟩), fun E1 => ?_⟩
        refine (V1.appendMap (k := 0) (f := encEvent) (l := ([] : List Event)) (m := (slc r_.Events (0 : Int) i)) rfl rfl rfl rfl rfl esz_24 eby_24 zk_43 rfl rfl rfl (.vl isl_24) hh5 (ltb rfl) ?_)
        intro b80
        refine ⟨_, _, rfl, ?_⟩
        refine WalkP.nil ?_
        refine NodeS.branch [14] (inCons 4 rfl (inCons 5 rfl inNil)) rfl rfl rfl ⟨?_, trivial⟩
        ·
         refine ⟨_, _, _, _, rfl, rfl, rfl, (⟨_, _, rfl, rfl, ⟨_, _, rfl, rfl, rfl⟩⟩), fun E1 => ?_⟩
         refine (V1.appendMap (k := 0) (f := encEvent) (l := (([] : List Event) ++ (slc r_.Events (0 : Int) i))) (m := ([e_] : List Event)) rfl rfl rfl rfl rfl esz_24 eby_24 zk_43 rfl rfl rfl (SrcOf.srMap (k := 1) rfl isl_24) hh6 (ltb rfl) ?_)
         intro b81
         refine ⟨_, _, rfl, ?_⟩
         refine WalkP.nil ?_
         refine NodeS.branch [19] (inCons 4 rfl (inCons 5 rfl inNil)) rfl rfl rfl ⟨?_, trivial⟩
         ·
          refine ⟨_, _, _, _, rfl, rfl, rfl, (⟨_, _, rfl, rfl, ⟨_, _, rfl, rfl, rfl⟩⟩), fun E1 => ?_⟩
          refine (V1.appendMap (k := 0) (f := encEvent) (l := ((([] : List Event) ++ (slc r_.Events (0 : Int) i)) ++ ([e_] : List Event))) (m := (slc r_.Events i (r_.Events.length : Int))) rfl rfl rfl rfl rfl esz_24 eby_24 zk_43 rfl rfl rfl (.vl isl_24) hh8 (ltb rfl) ?_)
          intro b82
          refine ⟨_, _, rfl, ?_⟩
          refine WalkP.step (p := ?pv369) 20 rfl rfl rfl rfl rfl (⟨_, _, rfl, rfl, ⟨_, _, rfl, rfl, ⟨_, _, rfl, rfl, ⟨_, _, rfl, rfl, rfl⟩⟩⟩⟩) ?hv369 ?rest369
          case hv369 =>
           intro E1 H1 hI1
           refine (V1.build rfl rfl zk_26 pl_26 rfl rfl (ltb rfl) ?_)
           exact rfl
          refine WalkP.nil ?_
          refine NodeS.fin (inCons 4 rfl (inCons 5 rfl inNil)) rfl rfl rfl (⟨_, _, rfl, rfl, ⟨_, _, rfl, rfl, ⟨_, _, rfl, rfl, rfl⟩⟩⟩) ?_
          refine VO.cons rfl (V1.storeRefAll (k := 2) rfl rfl tyk_26 rfl rfl rfl rfl rfl rfl ?_)
          refine VO.nil ?_
          exact ⟨((), b68), Option.some.inj hm1, Keeps.trans (Keeps.freezeG 0 rn [(62, .agg [.int .i64 r_.Id, .int .i64 r_.Series, .int .i64 r_.Made, .vl rn 2 (List.map encEvent (((([] : List Event) ++ (slc r_.Events (0 : Int) i)) ++ ([e_] : List Event)) ++ (slc r_.Events i (r_.Events.length : Int))))])] [(b78, ⟨2, List.map encEvent ([e_] : List Event)⟩), (b68, ⟨4, [.agg [.int .i64 r_.Id, .int .i64 r_.Series, .int .i64 r_.Made, .vl rn 2 (List.map encEvent (((([] : List Event) ++ (slc r_.Events (0 : Int) i)) ++ ([e_] : List Event)) ++ (slc r_.Events i (r_.Events.length : Int))))]]⟩), (b2, ⟨4, [.agg [.int .i64 (0 : Int), .int .i64 (0 : Int), .int .i64 (0 : Int), .nils]]⟩), (b1, ⟨2, [encEvent e_]⟩), (b0, ⟨4, [encRecord ρ0 r_]⟩)] (f := encEvent) (l := (((([] : List Event) ++ (slc r_.Events (0 : Int) i)) ++ ([e_] : List Event)) ++ (slc r_.Events i (r_.Events.length : Int)))) rfl (fun _ => rfl) ⟨⟨_, rfl, (.agg (.cons .same (.cons .same (.cons .same (.cons .here .nil)))))⟩, trivial⟩ ⟨_, _, rfl, rfl, .inl rfl, ⟨_, _, rfl, rfl, .inr (.cons (.agg (.cons .same (.cons .same (.cons .same (.cons .here .nil))))) .nil), ⟨_, _, rfl, rfl, .inl rfl, ⟨_, _, rfl, rfl, .inl rfl, ⟨_, _, rfl, rfl, .inl rfl, rfl⟩⟩⟩⟩⟩ rfl iNil) (Keeps.mk (ks := [1, 2]) rfl ⟨rfl, rfl, trivial⟩ (⟨_, _, rfl, rfl, ⟨_, _, rfl, rfl, rfl⟩⟩) rfl)⟩
   ·
    rintro ⟨_, b9⟩ rfl
    try dsimp only at hm0
    refine V.seq ?_
    refine V.seq ?_
    replace hm0 := bindO hm0; rcases hm0 with ⟨y4, hh9, hm0⟩
    refine V.region ?_
    refine VO.cons rfl (V1.loadRefAll (k := 0) rfl rfl tyk_26 rfl rfl rfl rfl rfl (ltb rfl) ?_)
    refine VO.cons rfl (V1.call rfl rfl rfl cok_268 rfl (ok_spec_l2Record hh9) rfl (ltb rfl) ?_)
    rintro _ _ ⟨rfl, rfl⟩
    refine VO.cons rfl (V1.not rfl rfl rfl (ltb rfl) ?_)
    refine VO.nil ?_
    refine V.cond rfl (fun hc2 => ?_) (fun hc2 => ?_)
    ·
     replace hm0 := cond_t hc2 hm0
     refine V.seq ?_
     refine V.region ?_
     refine VO.cons rfl (V1.build rfl rfl zk_26 pl_26 rfl rfl (ltb rfl) ?_)
     refine VO.cons rfl (V1.storeRefAll (k := 1) rfl rfl tyk_26 rfl rfl rfl rfl rfl rfl ?_)
     refine VO.cons rfl (V1.assign rfl rfl rfl (ltb rfl) ?_)
     refine VO.nil ?_
     refine V.weakenK (Keeps.leObj 1 [.agg [.int .i64 (0 : Int), .int .i64 (0 : Int), .int .i64 (0 : Int), .vl rn 2 (List.map encEvent ([] : List Event))]] rfl (.cons (.agg (.cons .same (.cons .same (.cons .same (.cons (.nils (l := ([] : List Event)) (f := encEvent) rn 2 rfl rfl) .nil))))) .nil)) ?_
     refine V.ret ?_
     obtain rfl := Option.some.inj hm0
     exact ⟨_, [], ⟨_, _, rfl, ⟨_, _, 1, _, rfl, rfl, rfl, rfl, tyk_26, rfl⟩, ⟨_, _, rfl, rfl, rfl⟩⟩, List.nil_sublist _, rfl, rfl⟩
    ·
     replace hm0 := cond_f hc2 hm0
     refine V.skip ?_
     refine V.seq ?_
     refine V.region ?_
     refine VO.cons rfl (V1.loadRefAll (k := 0) rfl rfl tyk_26 rfl rfl rfl rfl rfl (ltb rfl) ?_)
     refine VO.cons rfl (V1.storeRefAll (k := 1) rfl rfl tyk_26 rfl rfl rfl rfl rfl rfl ?_)
     refine VO.cons rfl (V1.assign rfl rfl rfl (ltb rfl) ?_)
     refine VO.nil ?_
     refine V.ret ?_
     obtain rfl := Option.some.inj hm0
     exact ⟨_, [], ⟨_, _, rfl, ⟨_, _, 1, _, rfl, rfl, rfl, rfl, tyk_26, rfl⟩, ⟨_, _, rfl, rfl, rfl⟩⟩, List.nil_sublist _, rfl, rfl⟩

theorem ok_spec_DueAfter {ρ0 ρ1 rn : Nat} {r_ : Record} {schedule : List Rule} {e_ : Event} {r : Int × Bool} (h : M.spec_DueAfter r_ schedule e_ = some r) : Does Try.prog 27 [encRecord ρ0 r_, .vl ρ1 4 (List.map encRule schedule), encEvent e_] [] rn (fun x H => x = .tup [.int .i64 r.1, .bool r.2] ∧ H = []) := by
 have hm0 := h; clear h; unfold M.spec_DueAfter at hm0
 try dsimp only at hm0
 refine Does.intro (N := 34) Try.func27 rfl rfl rfl rfl ?_
 intro w0 S0
 refine V.seq ?_
 refine V.region ?_
 refine VO.cons rfl (V1.boxN (n := 4) rfl rfl rfl rfl rfl (ltb rfl) ?_)
 intro b0
 refine VO.cons rfl (V1.boxN (n := 2) rfl rfl rfl rfl rfl (ltb rfl) ?_)
 intro b1
 refine VO.cons rfl (V1.assign rfl rfl rfl (ltb rfl) ?_)
 refine VO.cons rfl (V1.assign rfl rfl rfl (ltb rfl) ?_)
 refine VO.nil ?_
 refine V.keep 34 [1, 3, 5] [0, 1] (E0 := [(1, .vl ρ1 4 (List.map encRule schedule)), (3, .ref b0 4 0 0), (5, .ref b1 2 0 0)]) (H0 := [(b1, ⟨2, [encEvent e_]⟩), (b0, ⟨4, [encRecord ρ0 r_]⟩)]) rfl (⟨_, _, rfl, rfl, ⟨_, _, rfl, rfl, ⟨_, _, rfl, rfl, rfl⟩⟩⟩) (⟨_, _, rfl, rfl, ⟨_, _, rfl, rfl, rfl⟩⟩) rfl ?_
 refine V.seq ?_
 replace hm0 := bindO hm0; rcases hm0 with ⟨y0, hh0, hm0⟩
 refine V.region ?_
 refine VO.cons rfl (V1.loadRefAll (k := 1) rfl rfl tyk_26 rfl rfl rfl rfl rfl (ltb rfl) ?_)
 refine VO.cons rfl (V1.loadRefAll (k := 0) rfl rfl tyk_43 rfl rfl rfl rfl rfl (ltb rfl) ?_)
 refine VO.cons rfl (V1.call rfl rfl rfl cok_159 rfl (ok_spec_AddEvent hh0) rfl (ltb rfl) ?_)
 rintro _ _ ⟨rfl, rfl⟩
 refine VO.cons rfl (V1.move rfl rfl rfl (ltb rfl) ?_)
 refine VO.cons rfl (V1.extract rfl rfl rfl rfl (ltb rfl) ?_)
 refine VO.cons rfl (V1.extract rfl rfl rfl rfl (ltb rfl) ?_)
 refine VO.cons rfl (V1.alloc rfl rfl zk_26 (ltb rfl) ?_)
 intro b2
 refine VO.cons rfl (V1.storeRefAll (k := 0) rfl rfl tyk_26 rfl rfl rfl rfl rfl rfl ?_)
 refine VO.cons rfl (V1.assign rfl rfl rfl (ltb rfl) ?_)
 refine VO.nil ?_
 refine V.keep 34 [1, 8, 9] [0] (E0 := [(1, .vl ρ1 4 (List.map encRule schedule)), (8, .ref b2 4 0 0), (9, .bool y0.2)]) (H0 := [(b2, ⟨4, [encRecord rn y0.1]⟩)]) rfl (⟨_, _, rfl, rfl, ⟨_, _, rfl, rfl, ⟨_, _, rfl, rfl, rfl⟩⟩⟩) (⟨_, _, rfl, rfl, rfl⟩) rfl ?_
 refine V.seq ?_
 refine V.seq ?_
 replace hm0 := bindO hm0; rcases hm0 with ⟨y1, hh1, hm0⟩
 refine V.region ?_
 refine VO.cons rfl (V1.move rfl rfl rfl (ltb rfl) ?_)
 refine VO.cons rfl (V1.not rfl rfl rfl (ltb rfl) ?_)
 refine VO.cons rfl (V1.move rfl rfl rfl (ltb rfl) ?_)
 apply VO.or (n := 3) rfl rfl rfl rfl rfl rfl (ltb rfl) (.none rfl)
 ·
  intro hg0
  refine VO.step (.some rfl rfl rfl) (V1.move rfl rfl rfl (ltb rfl) ?_)
  refine VO.step (.some rfl rfl rfl) (V1.call rfl rfl rfl cok_160 rfl (ok_spec_l4Good (cond_f hg0 hh1)) rfl (ltb rfl) ?_)
  rintro _ _ ⟨rfl, rfl⟩
  refine VO.step (.some rfl rfl rfl) (V1.not rfl rfl rfl (ltb rfl) ?_)
  exact VO.nil ⟨rfl, rfl, rfl, rfl, .inr ⟨rfl, .inr ⟨rfl, .inr ⟨rfl, .inr ⟨rfl, .inl rfl⟩⟩⟩⟩⟩
 refine VO.nil ?_
 refine V.keep 34 [1, 8, 24] [0] (E0 := [(1, .vl ρ1 4 (List.map encRule schedule)), (8, .ref b2 4 0 0), (24, .bool ((!y0.2) || (!y1)))]) (H0 := [(b2, ⟨4, [encRecord rn y0.1]⟩)]) rfl (⟨_, _, rfl, rfl, ⟨_, _, rfl, rfl, ⟨_, _, rfl, rfl, rfl⟩⟩⟩) (⟨_, _, rfl, rfl, rfl⟩) rfl ?_
 refine V.cond rfl (fun hc0 => ?_) (fun hc0 => ?_)
 ·
  replace hm0 := cond_t hc0 hm0
  refine V.seq ?_
  refine V.region ?_
  refine VO.cons rfl (V1.assign rfl rfl rfl (ltb rfl) ?_)
  refine VO.cons rfl (V1.assign rfl rfl rfl (ltb rfl) ?_)
  refine VO.nil ?_
  refine V.ret ?_
  obtain rfl := Option.some.inj hm0
  exact ⟨_, [], ⟨_, _, rfl, rfl, ⟨_, _, rfl, rfl, rfl⟩⟩, List.nil_sublist _, rfl, rfl⟩
 ·
  replace hm0 := cond_f hc0 hm0
  refine V.skip ?_
  refine V.seq ?_
  replace hm0 := bindO hm0; rcases hm0 with ⟨y2, hh2, hm0⟩
  refine V.region ?_
  refine VO.cons rfl (V1.loadRefAll (k := 0) rfl rfl tyk_26 rfl rfl rfl rfl rfl (ltb rfl) ?_)
  refine VO.cons rfl (V1.move rfl rfl rfl (ltb rfl) ?_)
  refine VO.cons rfl (V1.call rfl rfl rfl cok_154 rfl (ok_spec_l6Deciding hh2) rfl (ltb rfl) ?_)
  rintro _ _ ⟨rfl, rfl⟩
  refine VO.cons rfl (V1.move rfl rfl rfl (ltb rfl) ?_)
  refine VO.cons rfl (V1.extract rfl rfl rfl rfl (ltb rfl) ?_)
  refine VO.cons rfl (V1.extract rfl rfl rfl rfl (ltb rfl) ?_)
  refine VO.cons rfl (V1.alloc rfl rfl zk_37 (ltb rfl) ?_)
  intro b3
  refine VO.cons rfl (V1.storeRefAll (k := 0) rfl rfl tyk_37 rfl rfl rfl rfl rfl rfl ?_)
  refine VO.cons rfl (V1.assign rfl rfl rfl (ltb rfl) ?_)
  refine VO.nil ?_
  refine V.keep 34 [11] [] (E0 := [(11, .int .i64 y2.2)]) (H0 := []) rfl (⟨_, _, rfl, rfl, rfl⟩) (rfl) rfl ?_
  refine V.seq ?_
  refine V.seq ?_
  refine V.region ?_
  refine VO.cons rfl (V1.move rfl rfl rfl (ltb rfl) ?_)
  refine VO.cons rfl (V1.int rfl rfl rfl rfl rfl (ltb rfl) ?_)
  refine VO.nil ?_
  refine V.cond rfl (fun hc1 => ?_) (fun hc1 => ?_)
  ·
   replace hm0 := cond_t hc1 hm0
   refine V.seq ?_
   refine V.region ?_
   refine VO.cons rfl (V1.assign rfl rfl rfl (ltb rfl) ?_)
   refine VO.cons rfl (V1.assign rfl rfl rfl (ltb rfl) ?_)
   refine VO.nil ?_
   refine V.ret ?_
   obtain rfl := Option.some.inj hm0
   exact ⟨_, [], ⟨_, _, rfl, rfl, ⟨_, _, rfl, rfl, rfl⟩⟩, List.nil_sublist _, rfl, rfl⟩
  ·
   replace hm0 := cond_f hc1 hm0
   refine V.skip ?_
   refine V.seq ?_
   refine V.region ?_
   refine VO.cons rfl (V1.move rfl rfl rfl (ltb rfl) ?_)
   refine VO.cons rfl (V1.assign rfl rfl rfl (ltb rfl) ?_)
   refine VO.cons rfl (V1.assign rfl rfl rfl (ltb rfl) ?_)
   refine VO.nil ?_
   refine V.ret ?_
   obtain rfl := Option.some.inj hm0
   exact ⟨_, [], ⟨_, _, rfl, rfl, ⟨_, _, rfl, rfl, rfl⟩⟩, List.nil_sublist _, rfl, rfl⟩

theorem ok_laws_FnPeriods {ρ0 rn : Nat} {code : List Int} {r : Bool} (h : M.laws_FnPeriods code = some r) : Does Try.prog 3 [.vl ρ0 1 (List.map encU8 code)] [] rn (fun x H => x = .bool r ∧ H = []) := by
 have hm0 := h; clear h; unfold M.laws_FnPeriods at hm0
 try dsimp only at hm0
 refine Does.intro (N := 231) Try.func3 rfl rfl rfl rfl ?_
 intro w0 S0
 refine V.seq ?_
 refine V.region ?_
 refine VO.cons rfl (V1.assign rfl rfl rfl (ltb rfl) ?_)
 refine VO.nil ?_
 refine V.seq ?_
 refine V.seq ?_
 replace hm0 := bindO hm0; rcases hm0 with ⟨y0, hh0, hm0⟩
 refine V.region ?_
 refine VO.cons rfl (V1.move rfl rfl rfl (ltb rfl) ?_)
 refine VO.cons rfl (V1.call rfl rfl rfl cok_12 rfl (ok_laws_vBig hh0) rfl (ltb rfl) ?_)
 rintro _ _ ⟨rfl, rfl⟩
 refine VO.nil ?_
 refine V.cond rfl (fun hc0 => ?_) (fun hc0 => ?_)
 ·
  replace hm0 := cond_t hc0 hm0
  refine V.seq ?_
  refine V.region ?_
  refine VO.cons rfl (V1.assign rfl rfl rfl (ltb rfl) ?_)
  refine VO.nil ?_
  refine V.ret ?_
  obtain rfl := Option.some.inj hm0
  exact ⟨_, [], ⟨_, _, rfl, rfl, rfl⟩, List.nil_sublist _, rfl, rfl⟩
 ·
  replace hm0 := cond_f hc0 hm0
  refine V.skip ?_
  refine V.seq ?_
  replace hm0 := bindO hm0; rcases hm0 with ⟨y1, hh1, hm0⟩
  refine V.region ?_
  refine VO.cons rfl (V1.move rfl rfl rfl (ltb rfl) ?_)
  refine VO.cons rfl (V1.call rfl rfl rfl cok_13 rfl (ok_spec_DrawEndsOf hh1) rfl (ltb rfl) ?_)
  rintro _ _ ⟨rfl, rfl⟩
  refine VO.cons rfl (V1.move rfl rfl rfl (ltb rfl) ?_)
  refine VO.cons rfl (V1.extract rfl rfl rfl rfl (ltb rfl) ?_)
  refine VO.cons rfl (V1.extract rfl rfl rfl rfl (ltb rfl) ?_)
  refine VO.cons rfl (V1.alloc rfl rfl zk_26 (ltb rfl) ?_)
  intro b0
  refine VO.cons rfl (V1.storeRefAll (k := 0) rfl rfl tyk_26 rfl rfl rfl rfl rfl rfl ?_)
  refine VO.cons rfl (V1.assign rfl rfl rfl (ltb rfl) ?_)
  refine VO.nil ?_
  refine V.keep 231 [0, 3, 4] [0] (E0 := [(0, .vl ρ0 1 (List.map encU8 code)), (3, .ref b0 4 0 0), (4, .vl rn 4 (List.map encRule y1.2))]) (H0 := [(b0, ⟨4, [encRecord rn y1.1]⟩)]) rfl (⟨_, _, rfl, rfl, ⟨_, _, rfl, rfl, ⟨_, _, rfl, rfl, rfl⟩⟩⟩) (⟨_, _, rfl, rfl, rfl⟩) rfl ?_
  refine V.seq ?_
  replace hm0 := bindO hm0; rcases hm0 with ⟨y2, hh2, hm0⟩
  refine V.region ?_
  refine VO.cons rfl (V1.loadRefAll (k := 0) rfl rfl tyk_26 rfl rfl rfl rfl rfl (ltb rfl) ?_)
  refine VO.cons rfl (V1.move rfl rfl rfl (ltb rfl) ?_)
  refine VO.cons rfl (V1.permK (V1.call rfl rfl rfl cok_14 rfl (ok_impl_EndsOf hh2) rfl (ltb rfl) ?_))
  rintro _ _ ⟨ob0, hob0, rfl, rfl⟩
  refine ⟨_, ?_, Keeps.optBack (n := 1) (ob := ob0) (xs := List.map encInt y2.1) (H1 := []) (H2 := [(b0, ⟨4, [encRecord rn y1.1]⟩)]) rfl⟩
  refine VO.cons rfl (V1.move rfl rfl rfl (ltb rfl) ?_)
  refine VO.cons rfl (V1.extract rfl rfl rfl rfl (ltb rfl) ?_)
  refine VO.weakenK (Keeps.optFront (n := 1) (ob := ob0) (xs := List.map encInt y2.1) (H1 := [(b0, ⟨4, [encRecord rn y1.1]⟩)]) rfl) ?_
  refine VO.weakenK (Keeps.optVl 44 [] rn (f := encInt) (l := y2.1) (ob := ob0) (H1 := []) hob0 rfl rfl ⟨rfl, trivial⟩ (fun _ => rfl) rfl iNil) ?_
  refine VO.cons rfl (V1.extract rfl rfl rfl rfl (ltb rfl) ?_)
  refine VO.cons rfl (V1.assign rfl rfl rfl (ltb rfl) ?_)
  refine VO.cons rfl (V1.assign rfl rfl rfl (ltb rfl) ?_)
  refine VO.nil ?_
  refine V.keep 231 [0, 3, 4, 5, 6] [0] (E0 := [(0, .vl ρ0 1 (List.map encU8 code)), (3, .ref b0 4 0 0), (4, .vl rn 4 (List.map encRule y1.2)), (5, .vl rn 1 (List.map encInt y2.1)), (6, .bool y2.2)]) (H0 := [(b0, ⟨4, [encRecord rn y1.1]⟩)]) rfl (⟨_, _, rfl, rfl, ⟨_, _, rfl, rfl, ⟨_, _, rfl, rfl, ⟨_, _, rfl, rfl, ⟨_, _, rfl, rfl, rfl⟩⟩⟩⟩⟩) (⟨_, _, rfl, rfl, rfl⟩) rfl ?_
  refine V.seq ?_
  refine V.seq ?_
  replace hm0 := bindO hm0; rcases hm0 with ⟨y3, hh3, hm0⟩
  refine V.region ?_
  refine VO.cons rfl (V1.loadRefAll (k := 0) rfl rfl tyk_26 rfl rfl rfl rfl rfl (ltb rfl) ?_)
  refine VO.cons rfl (V1.move rfl rfl rfl (ltb rfl) ?_)
  refine VO.cons rfl (V1.call rfl rfl rfl cok_15 rfl (ok_spec_EndsOf hh3) rfl (ltb rfl) ?_)
  rintro _ _ ⟨b1, rfl, rfl⟩
  refine VO.cons rfl (V1.move rfl rfl rfl (ltb rfl) ?_)
  refine VO.cons rfl (V1.extract rfl rfl rfl rfl (ltb rfl) ?_)
  refine VO.weakenK (Keeps.freezeG 0 rn [(50, .vl rn 1 (List.map encInt y3.1))] [(b0, ⟨4, [encRecord rn y1.1]⟩)] (f := encInt) (l := y3.1) rfl (fun _ => rfl) ⟨⟨_, rfl, .here⟩, trivial⟩ ⟨_, _, rfl, rfl, .inl rfl, rfl⟩ rfl iNil) ?_
  refine VO.cons rfl (V1.extract rfl rfl rfl rfl (ltb rfl) ?_)
  refine VO.cons rfl (V1.assign rfl rfl rfl (ltb rfl) ?_)
  refine VO.cons rfl (V1.assign rfl rfl rfl (ltb rfl) ?_)
  refine VO.nil ?_
  refine V.keep 231 [0, 3, 4, 5, 6, 7, 8] [0] (E0 := [(0, .vl ρ0 1 (List.map encU8 code)), (3, .ref b0 4 0 0), (4, .vl rn 4 (List.map encRule y1.2)), (5, .vl rn 1 (List.map encInt y2.1)), (6, .bool y2.2), (7, .vl rn 1 (List.map encInt y3.1)), (8, .bool y3.2)]) (H0 := [(b0, ⟨4, [encRecord rn y1.1]⟩)]) rfl (⟨_, _, rfl, rfl, ⟨_, _, rfl, rfl, ⟨_, _, rfl, rfl, ⟨_, _, rfl, rfl, ⟨_, _, rfl, rfl, ⟨_, _, rfl, rfl, ⟨_, _, rfl, rfl, rfl⟩⟩⟩⟩⟩⟩⟩) (⟨_, _, rfl, rfl, rfl⟩) rfl ?_
  refine V.seq ?_
  replace hm0 := bindO hm0; rcases hm0 with ⟨y4, hh4, hm0⟩
  refine V.region ?_
  refine VO.cons rfl (V1.move rfl rfl rfl (ltb rfl) ?_)
  refine VO.cons rfl (V1.move rfl rfl rfl (ltb rfl) ?_)
  refine VO.cons rfl (V1.boolNeq rfl rfl und_4 rfl rfl (ltb rfl) ?_)
  refine VO.cons rfl (V1.move rfl rfl rfl (ltb rfl) ?_)
  apply VO.or (n := 4) rfl rfl rfl rfl rfl rfl (ltb rfl) (.none rfl)
  ·
   intro hg0
   refine VO.step (.some rfl rfl rfl) (V1.move rfl rfl rfl (ltb rfl) ?_)
   refine VO.step (.some rfl rfl rfl) (V1.move rfl rfl rfl (ltb rfl) ?_)
   refine VO.step (.some rfl rfl rfl) (V1.call rfl rfl rfl cok_16 rfl (ok_laws_vInts (cond_f hg0 hh4)) rfl (ltb rfl) ?_)
   rintro _ _ ⟨rfl, rfl⟩
   refine VO.step (.some rfl rfl rfl) (V1.not rfl rfl rfl (ltb rfl) ?_)
   exact VO.nil ⟨rfl, rfl, rfl, rfl, .inr ⟨rfl, .inr ⟨rfl, .inr ⟨rfl, .inr ⟨rfl, .inr ⟨rfl, .inl rfl⟩⟩⟩⟩⟩⟩
  refine VO.nil ?_
  refine V.keep 231 [0, 3, 4, 5, 6, 60] [0] (E0 := [(0, .vl ρ0 1 (List.map encU8 code)), (3, .ref b0 4 0 0), (4, .vl rn 4 (List.map encRule y1.2)), (5, .vl rn 1 (List.map encInt y2.1)), (6, .bool y2.2), (60, .bool ((!(y2.2 == y3.2)) || (!y4)))]) (H0 := [(b0, ⟨4, [encRecord rn y1.1]⟩)]) rfl (⟨_, _, rfl, rfl, ⟨_, _, rfl, rfl, ⟨_, _, rfl, rfl, ⟨_, _, rfl, rfl, ⟨_, _, rfl, rfl, ⟨_, _, rfl, rfl, rfl⟩⟩⟩⟩⟩⟩) (⟨_, _, rfl, rfl, rfl⟩) rfl ?_
  refine V.cond rfl (fun hc1 => ?_) (fun hc1 => ?_)
  ·
   replace hm0 := cond_t hc1 hm0
   refine V.seq ?_
   refine V.region ?_
   refine VO.cons rfl (V1.assign rfl rfl rfl (ltb rfl) ?_)
   refine VO.nil ?_
   refine V.ret ?_
   obtain rfl := Option.some.inj hm0
   exact ⟨_, [], ⟨_, _, rfl, rfl, rfl⟩, List.nil_sublist _, rfl, rfl⟩
  ·
   replace hm0 := cond_f hc1 hm0
   refine V.skip ?_
   refine V.seq ?_
   replace hm0 := bindO hm0; rcases hm0 with ⟨y5, hh5, hm0⟩
   refine V.region ?_
   refine VO.cons rfl (V1.loadRefAll (k := 0) rfl rfl tyk_26 rfl rfl rfl rfl rfl (ltb rfl) ?_)
   refine VO.cons rfl (V1.move rfl rfl rfl (ltb rfl) ?_)
   refine VO.cons rfl (V1.call rfl rfl rfl cok_17 rfl (ok_impl_DueDay hh5) rfl (ltb rfl) ?_)
   rintro _ _ ⟨rfl, rfl⟩
   refine VO.cons rfl (V1.move rfl rfl rfl (ltb rfl) ?_)
   refine VO.cons rfl (V1.extract rfl rfl rfl rfl (ltb rfl) ?_)
   refine VO.cons rfl (V1.extract rfl rfl rfl rfl (ltb rfl) ?_)
   refine VO.cons rfl (V1.assign rfl rfl rfl (ltb rfl) ?_)
   refine VO.cons rfl (V1.assign rfl rfl rfl (ltb rfl) ?_)
   refine VO.nil ?_
   refine V.keep 231 [0, 3, 4, 5, 6, 9, 10] [0] (E0 := [(0, .vl ρ0 1 (List.map encU8 code)), (3, .ref b0 4 0 0), (4, .vl rn 4 (List.map encRule y1.2)), (5, .vl rn 1 (List.map encInt y2.1)), (6, .bool y2.2), (9, .int .i64 y5.1), (10, .bool y5.2)]) (H0 := [(b0, ⟨4, [encRecord rn y1.1]⟩)]) rfl (⟨_, _, rfl, rfl, ⟨_, _, rfl, rfl, ⟨_, _, rfl, rfl, ⟨_, _, rfl, rfl, ⟨_, _, rfl, rfl, ⟨_, _, rfl, rfl, ⟨_, _, rfl, rfl, rfl⟩⟩⟩⟩⟩⟩⟩) (⟨_, _, rfl, rfl, rfl⟩) rfl ?_
   refine V.seq ?_
   refine V.seq ?_
   replace hm0 := bindO hm0; rcases hm0 with ⟨y6, hh6, hm0⟩
   refine V.region ?_
   refine VO.cons rfl (V1.loadRefAll (k := 0) rfl rfl tyk_26 rfl rfl rfl rfl rfl (ltb rfl) ?_)
   refine VO.cons rfl (V1.move rfl rfl rfl (ltb rfl) ?_)
   refine VO.cons rfl (V1.call rfl rfl rfl cok_18 rfl (ok_spec_DueDay hh6) rfl (ltb rfl) ?_)
   rintro _ _ ⟨rfl, rfl⟩
   refine VO.cons rfl (V1.move rfl rfl rfl (ltb rfl) ?_)
   refine VO.cons rfl (V1.extract rfl rfl rfl rfl (ltb rfl) ?_)
   refine VO.cons rfl (V1.extract rfl rfl rfl rfl (ltb rfl) ?_)
   refine VO.cons rfl (V1.assign rfl rfl rfl (ltb rfl) ?_)
   refine VO.cons rfl (V1.assign rfl rfl rfl (ltb rfl) ?_)
   refine VO.nil ?_
   refine V.keep 231 [0, 3, 4, 5, 6, 9, 10, 11, 12] [0] (E0 := [(0, .vl ρ0 1 (List.map encU8 code)), (3, .ref b0 4 0 0), (4, .vl rn 4 (List.map encRule y1.2)), (5, .vl rn 1 (List.map encInt y2.1)), (6, .bool y2.2), (9, .int .i64 y5.1), (10, .bool y5.2), (11, .int .i64 y6.1), (12, .bool y6.2)]) (H0 := [(b0, ⟨4, [encRecord rn y1.1]⟩)]) rfl (⟨_, _, rfl, rfl, ⟨_, _, rfl, rfl, ⟨_, _, rfl, rfl, ⟨_, _, rfl, rfl, ⟨_, _, rfl, rfl, ⟨_, _, rfl, rfl, ⟨_, _, rfl, rfl, ⟨_, _, rfl, rfl, ⟨_, _, rfl, rfl, rfl⟩⟩⟩⟩⟩⟩⟩⟩⟩) (⟨_, _, rfl, rfl, rfl⟩) rfl ?_
   refine V.seq ?_
   refine V.region ?_
   refine VO.cons rfl (V1.move rfl rfl rfl (ltb rfl) ?_)
   refine VO.cons rfl (V1.move rfl rfl rfl (ltb rfl) ?_)
   refine VO.cons rfl (V1.int rfl rfl rfl rfl rfl (ltb rfl) ?_)
   refine VO.cons rfl (V1.move rfl rfl rfl (ltb rfl) ?_)
   apply VO.or (n := 3) rfl rfl rfl rfl rfl rfl (ltb rfl) (.none rfl)
   ·
    intro hg1
    refine VO.step (.some rfl rfl rfl) (V1.move rfl rfl rfl (ltb rfl) ?_)
    refine VO.step (.some rfl rfl rfl) (V1.move rfl rfl rfl (ltb rfl) ?_)
    refine VO.step (.some rfl rfl rfl) (V1.boolNeq rfl rfl und_4 rfl rfl (ltb rfl) ?_)
    exact VO.nil ⟨rfl, rfl, rfl, rfl, .inr ⟨rfl, .inr ⟨rfl, .inr ⟨rfl, .inr ⟨rfl, .inl rfl⟩⟩⟩⟩⟩
   refine VO.nil ?_
   refine V.keep 231 [0, 3, 4, 5, 6, 9, 10, 80] [0] (E0 := [(0, .vl ρ0 1 (List.map encU8 code)), (3, .ref b0 4 0 0), (4, .vl rn 4 (List.map encRule y1.2)), (5, .vl rn 1 (List.map encInt y2.1)), (6, .bool y2.2), (9, .int .i64 y5.1), (10, .bool y5.2), (80, .bool ((y5.1 != y6.1) || (!(y5.2 == y6.2))))]) (H0 := [(b0, ⟨4, [encRecord rn y1.1]⟩)]) rfl (⟨_, _, rfl, rfl, ⟨_, _, rfl, rfl, ⟨_, _, rfl, rfl, ⟨_, _, rfl, rfl, ⟨_, _, rfl, rfl, ⟨_, _, rfl, rfl, ⟨_, _, rfl, rfl, ⟨_, _, rfl, rfl, rfl⟩⟩⟩⟩⟩⟩⟩⟩) (⟨_, _, rfl, rfl, rfl⟩) rfl ?_
   refine V.cond rfl (fun hc2 => ?_) (fun hc2 => ?_)
   ·
    replace hm0 := cond_t hc2 hm0
    refine V.seq ?_
    refine V.region ?_
    refine VO.cons rfl (V1.assign rfl rfl rfl (ltb rfl) ?_)
    refine VO.nil ?_
    refine V.ret ?_
    obtain rfl := Option.some.inj hm0
    exact ⟨_, [], ⟨_, _, rfl, rfl, rfl⟩, List.nil_sublist _, rfl, rfl⟩
   ·
    replace hm0 := cond_f hc2 hm0
    refine V.skip ?_
    refine V.seq ?_
    replace hm0 := bindO hm0; rcases hm0 with ⟨y7, hh7, hm0⟩
    refine V.region ?_
    refine VO.cons rfl (V1.loadRefAll (k := 0) rfl rfl tyk_26 rfl rfl rfl rfl rfl (ltb rfl) ?_)
    refine VO.cons rfl (V1.move rfl rfl rfl (ltb rfl) ?_)
    refine VO.cons rfl (V1.permK (V1.call rfl rfl rfl cok_19 rfl (ok_impl_WaitsFor hh7) rfl (ltb rfl) ?_))
    rintro _ _ ⟨ob1, hob1, rfl, rfl⟩
    refine ⟨_, ?_, Keeps.optBack (n := 1) (ob := ob1) (xs := List.map encInt y7.1) (H1 := []) (H2 := [(b0, ⟨4, [encRecord rn y1.1]⟩)]) rfl⟩
    refine VO.cons rfl (V1.move rfl rfl rfl (ltb rfl) ?_)
    refine VO.cons rfl (V1.extract rfl rfl rfl rfl (ltb rfl) ?_)
    refine VO.weakenK (Keeps.optFront (n := 1) (ob := ob1) (xs := List.map encInt y7.1) (H1 := [(b0, ⟨4, [encRecord rn y1.1]⟩)]) rfl) ?_
    refine VO.weakenK (Keeps.optVl 85 [] rn (f := encInt) (l := y7.1) (ob := ob1) (H1 := []) hob1 rfl rfl ⟨rfl, trivial⟩ (fun _ => rfl) rfl iNil) ?_
    refine VO.cons rfl (V1.extract rfl rfl rfl rfl (ltb rfl) ?_)
    refine VO.cons rfl (V1.assign rfl rfl rfl (ltb rfl) ?_)
    refine VO.cons rfl (V1.assign rfl rfl rfl (ltb rfl) ?_)
    refine VO.nil ?_
    refine V.keep 231 [0, 3, 4, 5, 6, 9, 10, 13, 14] [0] (E0 := [(0, .vl ρ0 1 (List.map encU8 code)), (3, .ref b0 4 0 0), (4, .vl rn 4 (List.map encRule y1.2)), (5, .vl rn 1 (List.map encInt y2.1)), (6, .bool y2.2), (9, .int .i64 y5.1), (10, .bool y5.2), (13, .vl rn 1 (List.map encInt y7.1)), (14, .bool y7.2)]) (H0 := [(b0, ⟨4, [encRecord rn y1.1]⟩)]) rfl (⟨_, _, rfl, rfl, ⟨_, _, rfl, rfl, ⟨_, _, rfl, rfl, ⟨_, _, rfl, rfl, ⟨_, _, rfl, rfl, ⟨_, _, rfl, rfl, ⟨_, _, rfl, rfl, ⟨_, _, rfl, rfl, ⟨_, _, rfl, rfl, rfl⟩⟩⟩⟩⟩⟩⟩⟩⟩) (⟨_, _, rfl, rfl, rfl⟩) rfl ?_
    refine V.seq ?_
    refine V.seq ?_
    replace hm0 := bindO hm0; rcases hm0 with ⟨y8, hh8, hm0⟩
    refine V.region ?_
    refine VO.cons rfl (V1.loadRefAll (k := 0) rfl rfl tyk_26 rfl rfl rfl rfl rfl (ltb rfl) ?_)
    refine VO.cons rfl (V1.move rfl rfl rfl (ltb rfl) ?_)
    refine VO.cons rfl (V1.call rfl rfl rfl cok_20 rfl (ok_spec_WaitsFor hh8) rfl (ltb rfl) ?_)
    rintro _ _ ⟨b2, rfl, rfl⟩
    refine VO.cons rfl (V1.move rfl rfl rfl (ltb rfl) ?_)
    refine VO.cons rfl (V1.extract rfl rfl rfl rfl (ltb rfl) ?_)
    refine VO.weakenK (Keeps.freezeG 0 rn [(91, .vl rn 1 (List.map encInt y8.1))] [(b0, ⟨4, [encRecord rn y1.1]⟩)] (f := encInt) (l := y8.1) rfl (fun _ => rfl) ⟨⟨_, rfl, .here⟩, trivial⟩ ⟨_, _, rfl, rfl, .inl rfl, rfl⟩ rfl iNil) ?_
    refine VO.cons rfl (V1.extract rfl rfl rfl rfl (ltb rfl) ?_)
    refine VO.cons rfl (V1.assign rfl rfl rfl (ltb rfl) ?_)
    refine VO.cons rfl (V1.assign rfl rfl rfl (ltb rfl) ?_)
    refine VO.nil ?_
    refine V.keep 231 [0, 3, 4, 5, 6, 9, 10, 13, 14, 15, 16] [0] (E0 := [(0, .vl ρ0 1 (List.map encU8 code)), (3, .ref b0 4 0 0), (4, .vl rn 4 (List.map encRule y1.2)), (5, .vl rn 1 (List.map encInt y2.1)), (6, .bool y2.2), (9, .int .i64 y5.1), (10, .bool y5.2), (13, .vl rn 1 (List.map encInt y7.1)), (14, .bool y7.2), (15, .vl rn 1 (List.map encInt y8.1)), (16, .bool y8.2)]) (H0 := [(b0, ⟨4, [encRecord rn y1.1]⟩)]) rfl (⟨_, _, rfl, rfl, ⟨_, _, rfl, rfl, ⟨_, _, rfl, rfl, ⟨_, _, rfl, rfl, ⟨_, _, rfl, rfl, ⟨_, _, rfl, rfl, ⟨_, _, rfl, rfl, ⟨_, _, rfl, rfl, ⟨_, _, rfl, rfl, ⟨_, _, rfl, rfl, ⟨_, _, rfl, rfl, rfl⟩⟩⟩⟩⟩⟩⟩⟩⟩⟩⟩) (⟨_, _, rfl, rfl, rfl⟩) rfl ?_
    refine V.seq ?_
    replace hm0 := bindO hm0; rcases hm0 with ⟨y9, hh9, hm0⟩
    refine V.region ?_
    refine VO.cons rfl (V1.move rfl rfl rfl (ltb rfl) ?_)
    refine VO.cons rfl (V1.move rfl rfl rfl (ltb rfl) ?_)
    refine VO.cons rfl (V1.boolNeq rfl rfl und_4 rfl rfl (ltb rfl) ?_)
    refine VO.cons rfl (V1.move rfl rfl rfl (ltb rfl) ?_)
    apply VO.or (n := 3) rfl rfl rfl rfl rfl rfl (ltb rfl) (.none rfl)
    ·
     intro hg2
     refine VO.step (.some rfl rfl rfl) (V1.move rfl rfl rfl (ltb rfl) ?_)
     refine VO.step (.some rfl rfl rfl) (V1.move rfl rfl rfl (ltb rfl) ?_)
     refine VO.step (.some rfl rfl rfl) (V1.boolNeq rfl rfl und_4 rfl rfl (ltb rfl) ?_)
     exact VO.nil ⟨rfl, rfl, rfl, rfl, .inr ⟨rfl, .inr ⟨rfl, .inr ⟨rfl, .inr ⟨rfl, .inl rfl⟩⟩⟩⟩⟩
    refine VO.cons rfl (V1.move rfl rfl rfl (ltb rfl) ?_)
    apply VO.or (n := 4) rfl rfl rfl rfl rfl rfl (ltb rfl) (.none rfl)
    ·
     intro hg3
     refine VO.step (.some rfl rfl rfl) (V1.move rfl rfl rfl (ltb rfl) ?_)
     refine VO.step (.some rfl rfl rfl) (V1.move rfl rfl rfl (ltb rfl) ?_)
     refine VO.step (.some rfl rfl rfl) (V1.call rfl rfl rfl cok_16 rfl (ok_laws_vInts (cond_f hg3 hh9)) rfl (ltb rfl) ?_)
     rintro _ _ ⟨rfl, rfl⟩
     refine VO.step (.some rfl rfl rfl) (V1.not rfl rfl rfl (ltb rfl) ?_)
     exact VO.nil ⟨rfl, rfl, rfl, rfl, .inr ⟨rfl, .inr ⟨rfl, .inr ⟨rfl, .inr ⟨rfl, .inr ⟨rfl, .inl rfl⟩⟩⟩⟩⟩⟩
    refine VO.cons rfl (V1.move rfl rfl rfl (ltb rfl) ?_)
    apply VO.or (n := 13) rfl rfl rfl rfl rfl rfl (ltb rfl) (.none rfl)
    ·
     intro hg4
     refine VO.step (.some rfl rfl rfl) (V1.move rfl rfl rfl (ltb rfl) ?_)
     refine VO.step (.some rfl rfl rfl) (V1.move rfl rfl rfl (ltb rfl) ?_)
     refine VO.step (.some rfl rfl rfl) (V1.move rfl rfl rfl (ltb rfl) ?_)
     apply VO.and (n := 3) rfl rfl rfl rfl rfl rfl (ltb rfl) (.some rfl rfl rfl)
     ·
      intro hg5
      refine VO.step (.some rfl rfl rfl) (V1.move rfl rfl rfl (ltb rfl) ?_)
      refine VO.step (.some rfl rfl rfl) (V1.lenMap rfl rfl rfl rfl rfl rfl isl_30 (ltb rfl) ?_)
      refine VO.step (.some rfl rfl rfl) (V1.int rfl rfl rfl rfl rfl (ltb rfl) ?_)
      exact VO.nil ⟨rfl, rfl, rfl, rfl, .inr ⟨rfl, .inr ⟨rfl, .inr ⟨rfl, .inr ⟨rfl, .inl rfl⟩⟩⟩⟩⟩
     refine VO.step (.some rfl rfl rfl) (V1.move rfl rfl rfl (ltb rfl) ?_)
     apply VO.and (n := 3) rfl rfl rfl rfl rfl rfl (ltb rfl) (.some rfl rfl rfl)
     ·
      intro hg6
      refine VO.step (.some rfl rfl rfl) (V1.move rfl rfl rfl (ltb rfl) ?_)
      refine VO.step (.some rfl rfl rfl) (V1.lenMap rfl rfl rfl rfl rfl rfl isl_30 (ltb rfl) ?_)
      refine VO.step (.some rfl rfl rfl) (V1.int rfl rfl rfl rfl rfl (ltb rfl) ?_)
      exact VO.nil ⟨rfl, rfl, rfl, rfl, .inr ⟨rfl, .inr ⟨rfl, .inr ⟨rfl, .inr ⟨rfl, .inl rfl⟩⟩⟩⟩⟩
     refine VO.step (.some rfl rfl rfl) (V1.boolNeq rfl rfl und_4 rfl rfl (ltb rfl) ?_)
     exact VO.nil ⟨rfl, rfl, rfl, rfl, .inr ⟨rfl, .inr ⟨rfl, .inr ⟨rfl, .inr ⟨rfl, .inr ⟨rfl, .inr ⟨rfl, .inr ⟨rfl, .inr ⟨rfl, .inl rfl⟩⟩⟩⟩⟩⟩⟩⟩⟩
    refine VO.nil ?_
    refine V.keep 231 [0, 3, 4, 5, 9, 10, 121] [0] (E0 := [(0, .vl ρ0 1 (List.map encU8 code)), (3, .ref b0 4 0 0), (4, .vl rn 4 (List.map encRule y1.2)), (5, .vl rn 1 (List.map encInt y2.1)), (9, .int .i64 y5.1), (10, .bool y5.2), (121, .bool ((((!(y7.2 == y8.2)) || (!(y7.2 == y2.2))) || (!y9)) || (!(y5.2 == ((y2.2 && (decide ((y2.1.length : Int) > (0 : Int)))) && ((y7.1.length : Int) == (0 : Int)))))))]) (H0 := [(b0, ⟨4, [encRecord rn y1.1]⟩)]) rfl (⟨_, _, rfl, rfl, ⟨_, _, rfl, rfl, ⟨_, _, rfl, rfl, ⟨_, _, rfl, rfl, ⟨_, _, rfl, rfl, ⟨_, _, rfl, rfl, ⟨_, _, rfl, rfl, rfl⟩⟩⟩⟩⟩⟩⟩) (⟨_, _, rfl, rfl, rfl⟩) rfl ?_
    refine V.cond rfl (fun hc3 => ?_) (fun hc3 => ?_)
    ·
     replace hm0 := cond_t hc3 hm0
     refine V.seq ?_
     refine V.region ?_
     refine VO.cons rfl (V1.assign rfl rfl rfl (ltb rfl) ?_)
     refine VO.nil ?_
     refine V.ret ?_
     obtain rfl := Option.some.inj hm0
     exact ⟨_, [], ⟨_, _, rfl, rfl, rfl⟩, List.nil_sublist _, rfl, rfl⟩
    ·
     replace hm0 := cond_f hc3 hm0
     refine V.skip ?_
     refine V.seq ?_
     replace hm0 := bindO hm0; rcases hm0 with ⟨y10, hh10, hm0⟩
     refine V.region ?_
     refine VO.cons rfl (V1.loadRefAll (k := 0) rfl rfl tyk_26 rfl rfl rfl rfl rfl (ltb rfl) ?_)
     refine VO.cons rfl (V1.move rfl rfl rfl (ltb rfl) ?_)
     refine VO.cons rfl (V1.call rfl rfl rfl cok_21 rfl (ok_impl_DecidingRule hh10) rfl (ltb rfl) ?_)
     rintro _ _ ⟨rfl, rfl⟩
     refine VO.cons rfl (V1.move rfl rfl rfl (ltb rfl) ?_)
     refine VO.cons rfl (V1.extract rfl rfl rfl rfl (ltb rfl) ?_)
     refine VO.cons rfl (V1.extract rfl rfl rfl rfl (ltb rfl) ?_)
     refine VO.cons rfl (V1.alloc rfl rfl zk_37 (ltb rfl) ?_)
     intro b3
     refine VO.cons rfl (V1.storeRefAll (k := 0) rfl rfl tyk_37 rfl rfl rfl rfl rfl rfl ?_)
     refine VO.cons rfl (V1.assign rfl rfl rfl (ltb rfl) ?_)
     refine VO.nil ?_
     refine V.keep 231 [0, 3, 4, 5, 9, 10, 17, 18] [0, 1] (E0 := [(0, .vl ρ0 1 (List.map encU8 code)), (3, .ref b0 4 0 0), (4, .vl rn 4 (List.map encRule y1.2)), (5, .vl rn 1 (List.map encInt y2.1)), (9, .int .i64 y5.1), (10, .bool y5.2), (17, .ref b3 4 0 0), (18, .bool y10.2)]) (H0 := [(b3, ⟨4, [encRule y10.1]⟩), (b0, ⟨4, [encRecord rn y1.1]⟩)]) rfl (⟨_, _, rfl, rfl, ⟨_, _, rfl, rfl, ⟨_, _, rfl, rfl, ⟨_, _, rfl, rfl, ⟨_, _, rfl, rfl, ⟨_, _, rfl, rfl, ⟨_, _, rfl, rfl, ⟨_, _, rfl, rfl, rfl⟩⟩⟩⟩⟩⟩⟩⟩) (⟨_, _, rfl, rfl, ⟨_, _, rfl, rfl, rfl⟩⟩) rfl ?_
     refine V.seq ?_
     refine V.seq ?_
     replace hm0 := bindO hm0; rcases hm0 with ⟨y11, hh11, hm0⟩
     refine V.region ?_
     refine VO.cons rfl (V1.loadRefAll (k := 1) rfl rfl tyk_26 rfl rfl rfl rfl rfl (ltb rfl) ?_)
     refine VO.cons rfl (V1.move rfl rfl rfl (ltb rfl) ?_)
     refine VO.cons rfl (V1.call rfl rfl rfl cok_22 rfl (ok_spec_DecidingRule hh11) rfl (ltb rfl) ?_)
     rintro _ _ ⟨rfl, rfl⟩
     refine VO.cons rfl (V1.move rfl rfl rfl (ltb rfl) ?_)
     refine VO.cons rfl (V1.extract rfl rfl rfl rfl (ltb rfl) ?_)
     refine VO.cons rfl (V1.extract rfl rfl rfl rfl (ltb rfl) ?_)
     refine VO.cons rfl (V1.alloc rfl rfl zk_37 (ltb rfl) ?_)
     intro b4
     refine VO.cons rfl (V1.storeRefAll (k := 0) rfl rfl tyk_37 rfl rfl rfl rfl rfl rfl ?_)
     refine VO.cons rfl (V1.assign rfl rfl rfl (ltb rfl) ?_)
     refine VO.nil ?_
     refine V.keep 231 [0, 3, 5, 9, 10, 17, 18, 19, 20] [0, 1, 2] (E0 := [(0, .vl ρ0 1 (List.map encU8 code)), (3, .ref b0 4 0 0), (5, .vl rn 1 (List.map encInt y2.1)), (9, .int .i64 y5.1), (10, .bool y5.2), (17, .ref b3 4 0 0), (18, .bool y10.2), (19, .ref b4 4 0 0), (20, .bool y11.2)]) (H0 := [(b4, ⟨4, [encRule y11.1]⟩), (b3, ⟨4, [encRule y10.1]⟩), (b0, ⟨4, [encRecord rn y1.1]⟩)]) rfl (⟨_, _, rfl, rfl, ⟨_, _, rfl, rfl, ⟨_, _, rfl, rfl, ⟨_, _, rfl, rfl, ⟨_, _, rfl, rfl, ⟨_, _, rfl, rfl, ⟨_, _, rfl, rfl, ⟨_, _, rfl, rfl, ⟨_, _, rfl, rfl, rfl⟩⟩⟩⟩⟩⟩⟩⟩⟩) (⟨_, _, rfl, rfl, ⟨_, _, rfl, rfl, ⟨_, _, rfl, rfl, rfl⟩⟩⟩) rfl ?_
     refine V.seq ?_
     refine V.region ?_
     refine VO.cons rfl (V1.loadRefAll (k := 1) rfl rfl tyk_37 rfl rfl rfl rfl rfl (ltb rfl) ?_)
     refine VO.cons rfl (V1.loadRefAll (k := 0) rfl rfl tyk_37 rfl rfl rfl rfl rfl (ltb rfl) ?_)
     refine VO.cons rfl (V1.aggEqG true rfl rfl fe_37 rfl rfl rfl rfl rfl (ltb rfl) ?_)
     refine VO.cons rfl (V1.move rfl rfl rfl (ltb rfl) ?_)
     apply VO.or (n := 3) rfl rfl rfl rfl rfl rfl (ltb rfl) (.none rfl)
     ·
      intro hg7
      refine VO.step (.some rfl rfl rfl) (V1.move rfl rfl rfl (ltb rfl) ?_)
      refine VO.step (.some rfl rfl rfl) (V1.move rfl rfl rfl (ltb rfl) ?_)
      refine VO.step (.some rfl rfl rfl) (V1.boolNeq rfl rfl und_4 rfl rfl (ltb rfl) ?_)
      exact VO.nil ⟨rfl, rfl, rfl, rfl, .inr ⟨rfl, .inr ⟨rfl, .inr ⟨rfl, .inr ⟨rfl, .inl rfl⟩⟩⟩⟩⟩
     refine VO.cons rfl (V1.move rfl rfl rfl (ltb rfl) ?_)
     apply VO.or (n := 3) rfl rfl rfl rfl rfl rfl (ltb rfl) (.none rfl)
     ·
      intro hg8
      refine VO.step (.some rfl rfl rfl) (V1.move rfl rfl rfl (ltb rfl) ?_)
      refine VO.step (.some rfl rfl rfl) (V1.move rfl rfl rfl (ltb rfl) ?_)
      refine VO.step (.some rfl rfl rfl) (V1.boolNeq rfl rfl und_4 rfl rfl (ltb rfl) ?_)
      exact VO.nil ⟨rfl, rfl, rfl, rfl, .inr ⟨rfl, .inr ⟨rfl, .inr ⟨rfl, .inr ⟨rfl, .inl rfl⟩⟩⟩⟩⟩
     refine VO.nil ?_
     refine V.keep 231 [0, 3, 5, 9, 10, 17, 146] [1, 2] (E0 := [(0, .vl ρ0 1 (List.map encU8 code)), (3, .ref b0 4 0 0), (5, .vl rn 1 (List.map encInt y2.1)), (9, .int .i64 y5.1), (10, .bool y5.2), (17, .ref b3 4 0 0), (146, .bool (((!((y10.1.Series == y11.1.Series) && ((y10.1.Event == y11.1.Event) && ((y10.1.Days == y11.1.Days) && ((y10.1.Act == y11.1.Act) && true))))) || (!(y10.2 == y11.2))) || (!(y10.2 == y5.2))))]) (H0 := [(b3, ⟨4, [encRule y10.1]⟩), (b0, ⟨4, [encRecord rn y1.1]⟩)]) rfl (⟨_, _, rfl, rfl, ⟨_, _, rfl, rfl, ⟨_, _, rfl, rfl, ⟨_, _, rfl, rfl, ⟨_, _, rfl, rfl, ⟨_, _, rfl, rfl, ⟨_, _, rfl, rfl, rfl⟩⟩⟩⟩⟩⟩⟩) (⟨_, _, rfl, rfl, ⟨_, _, rfl, rfl, rfl⟩⟩) rfl ?_
     refine V.cond rfl (fun hc4 => ?_) (fun hc4 => ?_)
     ·
      replace hm0 := cond_t hc4 hm0
      refine V.seq ?_
      refine V.region ?_
      refine VO.cons rfl (V1.assign rfl rfl rfl (ltb rfl) ?_)
      refine VO.nil ?_
      refine V.ret ?_
      obtain rfl := Option.some.inj hm0
      exact ⟨_, [], ⟨_, _, rfl, rfl, rfl⟩, List.nil_sublist _, rfl, rfl⟩
     ·
      replace hm0 := cond_f hc4 hm0
      refine V.skip ?_
      refine V.seq ?_
      replace hm0 := bindO hm0; rcases hm0 with ⟨j0, hm1, hm0⟩
      refine V.cutT (D := (Unit) × (Unit)) (fun ⟨_, _⟩ => ⟨231, [(0, .vl ρ0 1 (List.map encU8 code))], []⟩) (fun ⟨_, _⟩ => (.inl () = j0)) ?_ ?_
      ·
       refine V.seq ?_
       refine V.region ?_
       refine VO.cons rfl (V1.move rfl rfl rfl (ltb rfl) ?_)
       refine VO.nil ?_
       refine V.cond rfl (fun hc5 => ?_) (fun hc5 => ?_)
       ·
        replace hm1 := cond_t hc5 hm1
        refine V.seq ?_
        replace hm1 := bindO hm1; rcases hm1 with ⟨y12, hh12, hm1⟩
        refine V.region ?_
        refine VO.cons rfl (V1.loadRefAll (k := 1) rfl rfl tyk_26 rfl rfl rfl rfl rfl (ltb rfl) ?_)
        refine VO.cons rfl (V1.fieldRef rfl rfl fo_37_1 rfl (ltb rfl) ?_)
        refine VO.cons rfl (V1.loadRef (k := 0) rfl rfl tyk_3 rfl rfl rfl rfl rfl (ltb rfl) ?_)
        refine VO.cons rfl (V1.call rfl rfl rfl cok_23 rfl (ok_impl_DayOf hh12) rfl (ltb rfl) ?_)
        rintro _ _ ⟨rfl, rfl⟩
        refine VO.cons rfl (V1.move rfl rfl rfl (ltb rfl) ?_)
        refine VO.cons rfl (V1.extract rfl rfl rfl rfl (ltb rfl) ?_)
        refine VO.cons rfl (V1.extract rfl rfl rfl rfl (ltb rfl) ?_)
        refine VO.cons rfl (V1.assign rfl rfl rfl (ltb rfl) ?_)
        refine VO.cons rfl (V1.assign rfl rfl rfl (ltb rfl) ?_)
        refine VO.nil ?_
        refine V.keep 231 [0, 3, 5, 9, 17, 21, 22] [0, 1] (E0 := [(0, .vl ρ0 1 (List.map encU8 code)), (3, .ref b0 4 0 0), (5, .vl rn 1 (List.map encInt y2.1)), (9, .int .i64 y5.1), (17, .ref b3 4 0 0), (21, .int .i64 y12.1), (22, .bool y12.2)]) (H0 := [(b3, ⟨4, [encRule y10.1]⟩), (b0, ⟨4, [encRecord rn y1.1]⟩)]) rfl (⟨_, _, rfl, rfl, ⟨_, _, rfl, rfl, ⟨_, _, rfl, rfl, ⟨_, _, rfl, rfl, ⟨_, _, rfl, rfl, ⟨_, _, rfl, rfl, ⟨_, _, rfl, rfl, rfl⟩⟩⟩⟩⟩⟩⟩) (⟨_, _, rfl, rfl, ⟨_, _, rfl, rfl, rfl⟩⟩) rfl ?_
        refine V.seq ?_
        refine V.seq ?_
        replace hm1 := bindO hm1; rcases hm1 with ⟨y13, hh13, hm1⟩
        refine V.region ?_
        refine VO.cons rfl (V1.move rfl rfl rfl (ltb rfl) ?_)
        refine VO.cons rfl (V1.move rfl rfl rfl (ltb rfl) ?_)
        refine VO.cons rfl (V1.call rfl rfl rfl cok_24 rfl (ok_laws_vHas hh13) rfl (ltb rfl) ?_)
        rintro _ _ ⟨rfl, rfl⟩
        refine VO.cons rfl (V1.not rfl rfl rfl (ltb rfl) ?_)
        refine VO.cons rfl (V1.move rfl rfl rfl (ltb rfl) ?_)
        apply VO.or (n := 2) rfl rfl rfl rfl rfl rfl (ltb rfl) (.none rfl)
        ·
         intro hg9
         refine VO.step (.some rfl rfl rfl) (V1.move rfl rfl rfl (ltb rfl) ?_)
         refine VO.step (.some rfl rfl rfl) (V1.not rfl rfl rfl (ltb rfl) ?_)
         exact VO.nil ⟨rfl, rfl, rfl, rfl, .inr ⟨rfl, .inr ⟨rfl, .inr ⟨rfl, .inl rfl⟩⟩⟩⟩
        refine VO.cons rfl (V1.move rfl rfl rfl (ltb rfl) ?_)
        apply VO.or (n := 6) rfl rfl rfl rfl rfl rfl (ltb rfl) (.none rfl)
        ·
         intro hg10
         refine VO.step (.some rfl rfl rfl) (V1.move rfl rfl rfl (ltb rfl) ?_)
         refine VO.step (.some rfl rfl rfl) (V1.fieldRef rfl rfl fo_37_2 rfl (ltb rfl) ?_)
         refine VO.step (.some rfl rfl rfl) (V1.loadRef (k := 0) rfl rfl tyk_3 rfl rfl rfl rfl rfl (ltb rfl) ?_)
         refine VO.step (.some rfl rfl rfl) (V1.int rfl rfl rfl rfl rfl (ltb rfl) ?_)
         refine VO.step (.some rfl rfl rfl) (V1.move rfl rfl rfl (ltb rfl) ?_)
         refine VO.step (.some rfl rfl rfl) (V1.int rfl rfl rfl rfl rfl (ltb rfl) ?_)
         exact VO.nil ⟨rfl, rfl, rfl, rfl, .inr ⟨rfl, .inr ⟨rfl, .inr ⟨rfl, .inr ⟨rfl, .inr ⟨rfl, .inr ⟨rfl, .inr ⟨rfl, .inl rfl⟩⟩⟩⟩⟩⟩⟩⟩
        refine VO.cons rfl (V1.move rfl rfl rfl (ltb rfl) ?_)
        apply VO.or (n := 5) rfl rfl rfl rfl rfl rfl (ltb rfl) (.none rfl)
        ·
         intro hg11
         refine VO.step (.some rfl rfl rfl) (V1.fieldRef rfl rfl fo_37_0 rfl (ltb rfl) ?_)
         refine VO.step (.some rfl rfl rfl) (V1.loadRef (k := 0) rfl rfl tyk_3 rfl rfl rfl rfl rfl (ltb rfl) ?_)
         refine VO.step (.some rfl rfl rfl) (V1.fieldRef rfl rfl fo_26_1 rfl (ltb rfl) ?_)
         refine VO.step (.some rfl rfl rfl) (V1.loadRef (k := 1) rfl rfl tyk_3 rfl rfl rfl rfl rfl (ltb rfl) ?_)
         refine VO.step (.some rfl rfl rfl) (V1.int rfl rfl rfl rfl rfl (ltb rfl) ?_)
         exact VO.nil ⟨rfl, rfl, rfl, rfl, .inr ⟨rfl, .inr ⟨rfl, .inr ⟨rfl, .inr ⟨rfl, .inr ⟨rfl, .inr ⟨rfl, .inl rfl⟩⟩⟩⟩⟩⟩⟩
        refine VO.nil ?_
        refine V.keep 231 [0, 5, 9, 177] [] (E0 := [(0, .vl ρ0 1 (List.map encU8 code)), (5, .vl rn 1 (List.map encInt y2.1)), (9, .int .i64 y5.1), (177, .bool ((((!y13) || (!y12.2)) || ((IntKind.i64.wrap (y12.1 + y10.1.Days)) != y5.1)) || (y10.1.Series != y1.1.Series)))]) (H0 := []) rfl (⟨_, _, rfl, rfl, ⟨_, _, rfl, rfl, ⟨_, _, rfl, rfl, ⟨_, _, rfl, rfl, rfl⟩⟩⟩⟩) (rfl) rfl ?_
        refine V.cond rfl (fun hc6 => ?_) (fun hc6 => ?_)
        ·
         replace hm1 := cond_t hc6 hm1
         refine V.seq ?_
         refine V.region ?_
         refine VO.cons rfl (V1.assign rfl rfl rfl (ltb rfl) ?_)
         refine VO.nil ?_
         refine V.ret ?_
         obtain rfl := Option.some.inj hm1
         change some _ = some _ at hm0
         obtain rfl := Option.some.inj hm0
         exact ⟨_, [], ⟨_, _, rfl, rfl, rfl⟩, List.nil_sublist _, rfl, rfl⟩
        ·
         replace hm1 := cond_f hc6 hm1
         refine V.skip ?_
         refine V.seq ?_
         refine V.region ?_
         refine VO.cons rfl (V1.assign rfl rfl rfl (ltb rfl) ?_)
         refine VO.nil ?_
         replace hm1 := bindO hm1; rcases hm1 with ⟨e0, he2, hm1⟩
         refine V.cutT (D := (Unit) × (Unit)) (fun ⟨_, _⟩ => ⟨231, [(0, .vl ρ0 1 (List.map encU8 code))], []⟩) (fun ⟨_, _⟩ => (.inl () = e0)) ?_ ?_
         ·
          refine V.block ?_
          refine V.keep 231 [23, 0, 5, 9] [] (E0 := [(23, .int .i64 (0 : Int)), (0, .vl ρ0 1 (List.map encU8 code)), (5, .vl rn 1 (List.map encInt y2.1)), (9, .int .i64 y5.1)]) (H0 := []) rfl (⟨_, _, rfl, rfl, ⟨_, _, rfl, rfl, ⟨_, _, rfl, rfl, ⟨_, _, rfl, rfl, rfl⟩⟩⟩⟩) (rfl) rfl ?_
          refine V.loopE (D := Nat × (Int) × (Unit)) (fun ⟨n0, i, _⟩ => [(23, .int .i64 i)]) (fun ⟨n0, i, _⟩ => []) (fun ⟨n0, i, _⟩ => loopO (M.laws_FnPeriods_l0 y2 y5) n0 i = some e0) (fun ⟨n0, _, _⟩ => n0) (rounds, (0 : Int), ()) rfl he2 ?_
          rintro ⟨n0, i, _⟩ hP0
          obtain ⟨m0, y14, rfl, hm2, hl2, hr2⟩ := loop_head hP0
          unfold M.laws_FnPeriods_l0 at hm2; dsimp only at hm2
          show V _ _ _ ⟨231, [(23, .int .i64 i), (0, .vl ρ0 1 (List.map encU8 code)), (5, .vl rn 1 (List.map encInt y2.1)), (9, .int .i64 y5.1)], []⟩
          refine V.seq ?_
          refine V.seq ?_
          refine V.region ?_
          refine VO.cons rfl (V1.move rfl rfl rfl (ltb rfl) ?_)
          refine VO.cons rfl (V1.move rfl rfl rfl (ltb rfl) ?_)
          refine VO.cons rfl (V1.lenMap rfl rfl rfl rfl rfl rfl isl_30 (ltb rfl) ?_)
          refine VO.cons rfl (V1.int rfl rfl rfl rfl rfl (ltb rfl) ?_)
          refine VO.nil ?_
          refine V.cond rfl (fun hc7 => ?_) (fun hc7 => ?_)
          ·
           replace hm2 := cond_t hc7 hm2
           refine V.skip ?_
           refine V.keep 231 [0, 5, 9, 23] [] (E0 := [(0, .vl ρ0 1 (List.map encU8 code)), (5, .vl rn 1 (List.map encInt y2.1)), (9, .int .i64 y5.1), (23, .int .i64 i)]) (H0 := []) rfl (⟨_, _, rfl, rfl, ⟨_, _, rfl, rfl, ⟨_, _, rfl, rfl, ⟨_, _, rfl, rfl, rfl⟩⟩⟩⟩) (rfl) rfl ?_
           refine V.seq ?_
           refine V.block ?_
           refine V.seq ?_
           replace hm2 := asrt_some hm2; rcases hm2 with ⟨hh14, hm2⟩
           refine V.region ?_
           refine VO.cons rfl (V1.move rfl rfl rfl (ltb rfl) ?_)
           refine VO.cons rfl (V1.move rfl rfl rfl (ltb rfl) ?_)
           refine VO.cons rfl (V1.indexI rfl rfl esz_30 rfl rfl hh14 (ltb rfl) ?_)
           refine VO.cons rfl (V1.loadPin rfl rfl tyk_3 rfl rfl (ltb rfl) ?_)
           refine VO.cons rfl (V1.move rfl rfl rfl (ltb rfl) ?_)
           refine VO.cons rfl (V1.int rfl rfl rfl rfl rfl (ltb rfl) ?_)
           refine VO.nil ?_
           refine V.keep 231 [0, 5, 9, 23, 189] [] (E0 := [(0, .vl ρ0 1 (List.map encU8 code)), (5, .vl rn 1 (List.map encInt y2.1)), (9, .int .i64 y5.1), (23, .int .i64 i), (189, .bool (decide ((y2.1.getD (Int.toNat i) default) > y5.1)))]) (H0 := []) rfl (⟨_, _, rfl, rfl, ⟨_, _, rfl, rfl, ⟨_, _, rfl, rfl, ⟨_, _, rfl, rfl, ⟨_, _, rfl, rfl, rfl⟩⟩⟩⟩⟩) (rfl) rfl ?_
           refine V.cond rfl (fun hc8 => ?_) (fun hc8 => ?_)
           ·
            replace hm2 := cond_t hc8 hm2
            refine V.seq ?_
            refine V.region ?_
            refine VO.cons rfl (V1.assign rfl rfl rfl (ltb rfl) ?_)
            refine VO.nil ?_
            refine V.ret ?_
            obtain rfl := hr2 _ (Option.some.inj hm2).symm
            change some _ = some _ at hm1
            obtain rfl := Option.some.inj hm1
            change some _ = some _ at hm0
            obtain rfl := Option.some.inj hm0
            exact ⟨_, [], ⟨_, _, rfl, rfl, rfl⟩, List.nil_sublist _, rfl, rfl⟩
           ·
            replace hm2 := cond_f hc8 hm2
            refine V.skip ?_
            refine V.region ?_
            refine VO.cons rfl (V1.move rfl rfl rfl (ltb rfl) ?_)
            refine VO.cons rfl (V1.int rfl rfl rfl rfl rfl (ltb rfl) ?_)
            refine VO.cons rfl (V1.assign rfl rfl rfl (ltb rfl) ?_)
            refine VO.nil ?_
            exact ⟨(m0, (IntKind.i64.wrap (i + (1 : Int))), ()), hl2 _ (Option.some.inj hm2).symm, Nat.lt_succ_self _, Keeps.mk (ks := []) rfl ⟨rfl, rfl, rfl, rfl, trivial⟩ (rfl) rfl⟩
          ·
           replace hm2 := cond_f hc7 hm2
           refine V.exit ?_
           obtain rfl := hr2 _ (Option.some.inj hm2).symm
           exact ⟨((), ()), rfl, Keeps.mk (ks := []) rfl ⟨rfl, trivial⟩ (rfl) rfl⟩
         ·
          rintro ⟨_, _⟩ rfl
          try dsimp only at hm1
          exact ⟨((), ()), Option.some.inj hm1, Keeps.mk (ks := []) rfl ⟨rfl, trivial⟩ (rfl) rfl⟩
       ·
        replace hm1 := cond_f hc5 hm1
        refine V.skip ?_
        exact ⟨((), ()), Option.some.inj hm1, Keeps.mk (ks := []) rfl ⟨rfl, trivial⟩ (rfl) rfl⟩
      ·
       rintro ⟨_, _⟩ rfl
       try dsimp only at hm0
       refine V.seq ?_
       replace hm0 := bindO hm0; rcases hm0 with ⟨y15, hh15, hm0⟩
       refine V.region ?_
       refine VO.cons rfl (V1.move rfl rfl rfl (ltb rfl) ?_)
       refine VO.cons rfl (V1.call rfl rfl rfl cok_25 rfl (ok_spec_DrawDueAfter hh15) rfl (ltb rfl) ?_)
       rintro _ _ ⟨rfl, rfl⟩
       refine VO.cons rfl (V1.move rfl rfl rfl (ltb rfl) ?_)
       refine VO.cons rfl (V1.extract rfl rfl rfl rfl (ltb rfl) ?_)
       refine VO.cons rfl (V1.extract rfl rfl rfl rfl (ltb rfl) ?_)
       refine VO.cons rfl (V1.extract rfl rfl rfl rfl (ltb rfl) ?_)
       refine VO.cons rfl (V1.alloc rfl rfl zk_26 (ltb rfl) ?_)
       intro b5
       refine VO.cons rfl (V1.alloc rfl rfl zk_43 (ltb rfl) ?_)
       intro b6
       refine VO.cons rfl (V1.storeRefAll (k := 1) rfl rfl tyk_26 rfl rfl rfl rfl rfl rfl ?_)
       refine VO.cons rfl (V1.assign rfl rfl rfl (ltb rfl) ?_)
       refine VO.cons rfl (V1.storeRefAll (k := 0) rfl rfl tyk_43 rfl rfl rfl rfl rfl rfl ?_)
       refine VO.nil ?_
       refine V.keep 231 [24, 25, 26] [0, 1] (E0 := [(24, .ref b5 4 0 0), (25, .vl rn 4 (List.map encRule y15.2.1)), (26, .ref b6 2 0 0)]) (H0 := [(b6, ⟨2, [encEvent y15.2.2]⟩), (b5, ⟨4, [encRecord rn y15.1]⟩)]) rfl (⟨_, _, rfl, rfl, ⟨_, _, rfl, rfl, ⟨_, _, rfl, rfl, rfl⟩⟩⟩) (⟨_, _, rfl, rfl, ⟨_, _, rfl, rfl, rfl⟩⟩) rfl ?_
       refine V.seq ?_
       replace hm0 := bindO hm0; rcases hm0 with ⟨y16, hh16, hm0⟩
       refine V.region ?_
       refine VO.cons rfl (V1.loadRefAll (k := 1) rfl rfl tyk_26 rfl rfl rfl rfl rfl (ltb rfl) ?_)
       refine VO.cons rfl (V1.move rfl rfl rfl (ltb rfl) ?_)
       refine VO.cons rfl (V1.loadRefAll (k := 0) rfl rfl tyk_43 rfl rfl rfl rfl rfl (ltb rfl) ?_)
       refine VO.cons rfl (V1.call rfl rfl rfl cok_26 rfl (ok_impl_DueAfter hh16) rfl (ltb rfl) ?_)
       rintro _ _ ⟨rfl, rfl⟩
       refine VO.cons rfl (V1.move rfl rfl rfl (ltb rfl) ?_)
       refine VO.cons rfl (V1.extract rfl rfl rfl rfl (ltb rfl) ?_)
       refine VO.cons rfl (V1.extract rfl rfl rfl rfl (ltb rfl) ?_)
       refine VO.cons rfl (V1.assign rfl rfl rfl (ltb rfl) ?_)
       refine VO.cons rfl (V1.assign rfl rfl rfl (ltb rfl) ?_)
       refine VO.nil ?_
       refine V.keep 231 [24, 25, 26, 27, 28] [0, 1] (E0 := [(24, .ref b5 4 0 0), (25, .vl rn 4 (List.map encRule y15.2.1)), (26, .ref b6 2 0 0), (27, .int .i64 y16.1), (28, .bool y16.2)]) (H0 := [(b6, ⟨2, [encEvent y15.2.2]⟩), (b5, ⟨4, [encRecord rn y15.1]⟩)]) rfl (⟨_, _, rfl, rfl, ⟨_, _, rfl, rfl, ⟨_, _, rfl, rfl, ⟨_, _, rfl, rfl, ⟨_, _, rfl, rfl, rfl⟩⟩⟩⟩⟩) (⟨_, _, rfl, rfl, ⟨_, _, rfl, rfl, rfl⟩⟩) rfl ?_
       refine V.seq ?_
       refine V.seq ?_
       replace hm0 := bindO hm0; rcases hm0 with ⟨y17, hh17, hm0⟩
       refine V.region ?_
       refine VO.cons rfl (V1.loadRefAll (k := 1) rfl rfl tyk_26 rfl rfl rfl rfl rfl (ltb rfl) ?_)
       refine VO.cons rfl (V1.move rfl rfl rfl (ltb rfl) ?_)
       refine VO.cons rfl (V1.loadRefAll (k := 0) rfl rfl tyk_43 rfl rfl rfl rfl rfl (ltb rfl) ?_)
       refine VO.cons rfl (V1.call rfl rfl rfl cok_27 rfl (ok_spec_DueAfter hh17) rfl (ltb rfl) ?_)
       rintro _ _ ⟨rfl, rfl⟩
       refine VO.cons rfl (V1.move rfl rfl rfl (ltb rfl) ?_)
       refine VO.cons rfl (V1.extract rfl rfl rfl rfl (ltb rfl) ?_)
       refine VO.cons rfl (V1.extract rfl rfl rfl rfl (ltb rfl) ?_)
       refine VO.cons rfl (V1.assign rfl rfl rfl (ltb rfl) ?_)
       refine VO.cons rfl (V1.assign rfl rfl rfl (ltb rfl) ?_)
       refine VO.nil ?_
       refine V.keep 231 [24, 25, 27, 28, 29, 30] [1] (E0 := [(24, .ref b5 4 0 0), (25, .vl rn 4 (List.map encRule y15.2.1)), (27, .int .i64 y16.1), (28, .bool y16.2), (29, .int .i64 y17.1), (30, .bool y17.2)]) (H0 := [(b5, ⟨4, [encRecord rn y15.1]⟩)]) rfl (⟨_, _, rfl, rfl, ⟨_, _, rfl, rfl, ⟨_, _, rfl, rfl, ⟨_, _, rfl, rfl, ⟨_, _, rfl, rfl, ⟨_, _, rfl, rfl, rfl⟩⟩⟩⟩⟩⟩) (⟨_, _, rfl, rfl, rfl⟩) rfl ?_
       refine V.seq ?_
       refine V.region ?_
       refine VO.cons rfl (V1.move rfl rfl rfl (ltb rfl) ?_)
       refine VO.cons rfl (V1.move rfl rfl rfl (ltb rfl) ?_)
       refine VO.cons rfl (V1.int rfl rfl rfl rfl rfl (ltb rfl) ?_)
       refine VO.cons rfl (V1.move rfl rfl rfl (ltb rfl) ?_)
       apply VO.or (n := 3) rfl rfl rfl rfl rfl rfl (ltb rfl) (.none rfl)
       ·
        intro hg12
        refine VO.step (.some rfl rfl rfl) (V1.move rfl rfl rfl (ltb rfl) ?_)
        refine VO.step (.some rfl rfl rfl) (V1.move rfl rfl rfl (ltb rfl) ?_)
        refine VO.step (.some rfl rfl rfl) (V1.boolNeq rfl rfl und_4 rfl rfl (ltb rfl) ?_)
        exact VO.nil ⟨rfl, rfl, rfl, rfl, .inr ⟨rfl, .inr ⟨rfl, .inr ⟨rfl, .inr ⟨rfl, .inl rfl⟩⟩⟩⟩⟩
       refine VO.nil ?_
       refine V.keep 231 [24, 25, 27, 28, 217] [0] (E0 := [(24, .ref b5 4 0 0), (25, .vl rn 4 (List.map encRule y15.2.1)), (27, .int .i64 y16.1), (28, .bool y16.2), (217, .bool ((y16.1 != y17.1) || (!(y16.2 == y17.2))))]) (H0 := [(b5, ⟨4, [encRecord rn y15.1]⟩)]) rfl (⟨_, _, rfl, rfl, ⟨_, _, rfl, rfl, ⟨_, _, rfl, rfl, ⟨_, _, rfl, rfl, ⟨_, _, rfl, rfl, rfl⟩⟩⟩⟩⟩) (⟨_, _, rfl, rfl, rfl⟩) rfl ?_
       refine V.cond rfl (fun hc9 => ?_) (fun hc9 => ?_)
       ·
        replace hm0 := cond_t hc9 hm0
        refine V.seq ?_
        refine V.region ?_
        refine VO.cons rfl (V1.assign rfl rfl rfl (ltb rfl) ?_)
        refine VO.nil ?_
        refine V.ret ?_
        obtain rfl := Option.some.inj hm0
        exact ⟨_, [], ⟨_, _, rfl, rfl, rfl⟩, List.nil_sublist _, rfl, rfl⟩
       ·
        replace hm0 := cond_f hc9 hm0
        refine V.skip ?_
        refine V.seq ?_
        refine V.seq ?_
        refine V.region ?_
        refine VO.cons rfl (V1.move rfl rfl rfl (ltb rfl) ?_)
        refine VO.nil ?_
        refine V.cond rfl (fun hc10 => ?_) (fun hc10 => ?_)
        ·
         replace hm0 := cond_t hc10 hm0
         refine V.seq ?_
         replace hm0 := bindO hm0; rcases hm0 with ⟨y18, hh18, hm0⟩
         refine V.region ?_
         refine VO.cons rfl (V1.loadRefAll (k := 0) rfl rfl tyk_26 rfl rfl rfl rfl rfl (ltb rfl) ?_)
         refine VO.cons rfl (V1.move rfl rfl rfl (ltb rfl) ?_)
         refine VO.cons rfl (V1.call rfl rfl rfl cok_17 rfl (ok_impl_DueDay hh18) rfl (ltb rfl) ?_)
         rintro _ _ ⟨rfl, rfl⟩
         refine VO.cons rfl (V1.move rfl rfl rfl (ltb rfl) ?_)
         refine VO.cons rfl (V1.extract rfl rfl rfl rfl (ltb rfl) ?_)
         refine VO.cons rfl (V1.extract rfl rfl rfl rfl (ltb rfl) ?_)
         refine VO.cons rfl (V1.assign rfl rfl rfl (ltb rfl) ?_)
         refine VO.cons rfl (V1.assign rfl rfl rfl (ltb rfl) ?_)
         refine VO.nil ?_
         refine V.keep 231 [27, 31, 32] [] (E0 := [(27, .int .i64 y16.1), (31, .int .i64 y18.1), (32, .bool y18.2)]) (H0 := []) rfl (⟨_, _, rfl, rfl, ⟨_, _, rfl, rfl, ⟨_, _, rfl, rfl, rfl⟩⟩⟩) (rfl) rfl ?_
         refine V.seq ?_
         refine V.region ?_
         refine VO.cons rfl (V1.move rfl rfl rfl (ltb rfl) ?_)
         refine VO.cons rfl (V1.move rfl rfl rfl (ltb rfl) ?_)
         apply VO.and (n := 3) rfl rfl rfl rfl rfl rfl (ltb rfl) (.none rfl)
         ·
          intro hg13
          refine VO.step (.some rfl rfl rfl) (V1.move rfl rfl rfl (ltb rfl) ?_)
          refine VO.step (.some rfl rfl rfl) (V1.move rfl rfl rfl (ltb rfl) ?_)
          refine VO.step (.some rfl rfl rfl) (V1.int rfl rfl rfl rfl rfl (ltb rfl) ?_)
          exact VO.nil ⟨rfl, rfl, rfl, rfl, .inr ⟨rfl, .inr ⟨rfl, .inr ⟨rfl, .inr ⟨rfl, .inl rfl⟩⟩⟩⟩⟩
         refine VO.nil ?_
         refine V.keep 231 [230] [] (E0 := [(230, .bool (y18.2 && (decide (y16.1 < y18.1))))]) (H0 := []) rfl (⟨_, _, rfl, rfl, rfl⟩) (rfl) rfl ?_
         refine V.cond rfl (fun hc11 => ?_) (fun hc11 => ?_)
         ·
          replace hm0 := cond_t hc11 hm0
          refine V.seq ?_
          refine V.region ?_
          refine VO.cons rfl (V1.assign rfl rfl rfl (ltb rfl) ?_)
          refine VO.nil ?_
          refine V.ret ?_
          obtain rfl := Option.some.inj hm0
          exact ⟨_, [], ⟨_, _, rfl, rfl, rfl⟩, List.nil_sublist _, rfl, rfl⟩
         ·
          replace hm0 := cond_f hc11 hm0
          refine V.skip ?_
          refine V.seq ?_
          refine V.region ?_
          refine VO.cons rfl (V1.assign rfl rfl rfl (ltb rfl) ?_)
          refine VO.nil ?_
          refine V.ret ?_
          obtain rfl := Option.some.inj hm0
          exact ⟨_, [], ⟨_, _, rfl, rfl, rfl⟩, List.nil_sublist _, rfl, rfl⟩
        ·
         replace hm0 := cond_f hc10 hm0
         refine V.skip ?_
         refine V.keep 231 [] [] (E0 := []) (H0 := []) rfl (rfl) (rfl) rfl ?_
         refine V.seq ?_
         refine V.region ?_
         refine VO.cons rfl (V1.assign rfl rfl rfl (ltb rfl) ?_)
         refine VO.nil ?_
         refine V.ret ?_
         obtain rfl := Option.some.inj hm0
         exact ⟨_, [], ⟨_, _, rfl, rfl, rfl⟩, List.nil_sublist _, rfl, rfl⟩
end Go.Proofs.Ythffmnpbonkpaaa
