/- the functions do what their models say -/
import Derived.Test.YtfebeomnlkfgoaaQd1
set_option linter.unusedSimpArgs false
set_option linter.unusedVariables false
set_option maxRecDepth 100000
set_option maxHeartbeats 4000000
namespace Go.Proofs.Ytfebeomnlkfgoaa
open Go.VS

theorem ok_laws_eqCartonS {ρ0 σ0 ρ1 σ1 rn : Nat} {a : List Carton} {b_ : List Carton} {r : Bool} (h : M.laws_eqCartonS a b_ = some r) : Does Try.prog 25 [.vl ρ0 5 (List.map (encCarton σ0) a), .vl ρ1 5 (List.map (encCarton σ1) b_)] [] rn (fun x H => x = .bool r ∧ H = []) := by
 have hm0 := h; clear h; unfold M.laws_eqCartonS at hm0
 try dsimp only at hm0
 refine Does.intro (N := 27) Try.func25 rfl rfl rfl rfl ?_
 intro w0 S0
 refine V.seq ?_
 refine V.region ?_
 refine VO.cons rfl (V1.assign rfl rfl rfl lt0 ?_)
 refine VO.nil ?_
 refine V.seq ?_
 refine V.seq ?_
 refine V.region ?_
 refine VO.cons rfl (V1.move rfl rfl rfl lt0 ?_)
 refine VO.cons rfl (V1.lenMap rfl rfl rfl rfl rfl rfl isl_39 lt0 ?_)
 refine VO.cons rfl (V1.move rfl rfl rfl lt0 ?_)
 refine VO.cons rfl (V1.lenMap rfl rfl rfl rfl rfl rfl isl_39 lt0 ?_)
 refine VO.cons rfl (V1.int rfl rfl rfl rfl rfl lt0 ?_)
 refine VO.nil ?_
 refine V.keep 27 [0, 1, 10] [] (E0 := [(0, .vl ρ0 5 (List.map (encCarton σ0) a)), (1, .vl ρ1 5 (List.map (encCarton σ1) b_)), (10, .bool ((a.length : Int) != (b_.length : Int)))]) (H0 := []) rfl (⟨_, _, rfl, rfl, ⟨_, _, rfl, rfl, ⟨_, _, rfl, rfl, rfl⟩⟩⟩) (rfl) rfl ?_
 refine V.cond rfl (fun hc0 => ?_) (fun hc0 => ?_)
 ·
  replace hm0 := cond_t hc0 hm0
  refine V.seq ?_
  refine V.region ?_
  refine VO.cons rfl (V1.assign rfl rfl rfl lt0 ?_)
  refine VO.nil ?_
  refine V.ret ?_
  obtain rfl := Option.some.inj hm0
  exact ⟨_, [], ⟨_, _, rfl, rfl, rfl⟩, List.nil_sublist _, rfl, rfl⟩
 ·
  replace hm0 := cond_f hc0 hm0
  refine V.skip ?_
  refine V.seq ?_
  refine V.seq ?_
  refine V.region ?_
  refine VO.cons rfl (V1.assign rfl rfl rfl lt0 ?_)
  refine VO.nil ?_
  replace hm0 := bindO hm0; rcases hm0 with ⟨e0, he1, hm0⟩
  refine V.cutT (D := (Unit) × (Unit)) (fun ⟨_, _⟩ => ⟨27, [], []⟩) (fun ⟨_, _⟩ => (.inl () = e0)) ?_ ?_
  ·
   refine V.block ?_
   refine V.keep 27 [5, 0, 1] [] (E0 := [(5, .int .i64 (0 : Int)), (0, .vl ρ0 5 (List.map (encCarton σ0) a)), (1, .vl ρ1 5 (List.map (encCarton σ1) b_))]) (H0 := []) rfl (⟨_, _, rfl, rfl, ⟨_, _, rfl, rfl, ⟨_, _, rfl, rfl, rfl⟩⟩⟩) (rfl) rfl ?_
   refine V.loopE (D := Nat × (Int) × (Unit)) (fun ⟨n0, i, _⟩ => [(5, .int .i64 i)]) (fun ⟨n0, i, _⟩ => []) (fun ⟨n0, i, _⟩ => loopO (M.laws_eqCartonS_l0 a b_) n0 i = some e0) (fun ⟨n0, _, _⟩ => n0) (rounds, (0 : Int), ()) rfl he1 ?_
   rintro ⟨n0, i, _⟩ hP0
   obtain ⟨m0, y0, rfl, hm1, hl1, hr1⟩ := loop_head hP0
   unfold M.laws_eqCartonS_l0 at hm1; dsimp only at hm1
   show V _ _ _ ⟨27, [(5, .int .i64 i), (0, .vl ρ0 5 (List.map (encCarton σ0) a)), (1, .vl ρ1 5 (List.map (encCarton σ1) b_))], []⟩
   refine V.seq ?_
   refine V.seq ?_
   refine V.region ?_
   refine VO.cons rfl (V1.move rfl rfl rfl lt0 ?_)
   refine VO.cons rfl (V1.move rfl rfl rfl lt0 ?_)
   refine VO.cons rfl (V1.lenMap rfl rfl rfl rfl rfl rfl isl_39 lt0 ?_)
   refine VO.cons rfl (V1.int rfl rfl rfl rfl rfl lt0 ?_)
   refine VO.nil ?_
   refine V.cond rfl (fun hc1 => ?_) (fun hc1 => ?_)
   ·
    replace hm1 := cond_t hc1 hm1
    refine V.skip ?_
    refine V.keep 27 [0, 1, 5] [] (E0 := [(0, .vl ρ0 5 (List.map (encCarton σ0) a)), (1, .vl ρ1 5 (List.map (encCarton σ1) b_)), (5, .int .i64 i)]) (H0 := []) rfl (⟨_, _, rfl, rfl, ⟨_, _, rfl, rfl, ⟨_, _, rfl, rfl, rfl⟩⟩⟩) (rfl) rfl ?_
    refine V.seq ?_
    refine V.block ?_
    refine V.seq ?_
    replace hm1 := asrt_some hm1; rcases hm1 with ⟨hh0, hm1⟩
    replace hm1 := asrt_some hm1; rcases hm1 with ⟨hh1, hm1⟩
    replace hm1 := bindO hm1; rcases hm1 with ⟨y1, hh2, hm1⟩
    refine V.regionM 27 8 [⟨[(0, none)], [], none⟩, ⟨[(5, none)], [], none⟩, ⟨[(17, some 1), (18, some 0)], [], none⟩, ⟨[(19, some 0)], [], none⟩, ⟨[(1, none)], [], none⟩, ⟨[(5, none)], [], none⟩, ⟨[(21, some 1), (22, some 0)], [], none⟩, ⟨[(23, some 0)], [], none⟩] [(0, none), (1, none), (5, none), (20, some 4), (24, some 0)] (⟨_, rfl, ⟨_, rfl, ⟨_, rfl, ⟨_, rfl, ⟨_, rfl, ⟨_, rfl, ⟨_, rfl, ⟨_, rfl, ⟨rfl, rfl⟩⟩⟩⟩⟩⟩⟩⟩⟩) mixed_orders rfl (by decide +kernel) (fun hck6 => ?_)
    refine VP.step (p := ?pv82) rfl rfl rfl (⟨_, _, rfl, rfl, rfl⟩) ?hv82 ?rest82 hck6
    case hv82 =>
     intro E1
     refine (V1.move rfl rfl rfl lt0 ?_)
     exact rfl
    refine VP.step (p := ?pv83) rfl rfl rfl (⟨_, _, rfl, rfl, rfl⟩) ?hv83 ?rest83 hck6
    case hv83 =>
     intro E1
     refine (V1.move rfl rfl rfl lt0 ?_)
     exact rfl
    refine VP.step (p := ?pv84) rfl rfl rfl (⟨_, _, rfl, rfl, ⟨_, _, rfl, rfl, rfl⟩⟩) ?hv84 ?rest84 hck6
    case hv84 =>
     intro E1
     refine (V1.indexI rfl rfl esz_39 rfl rfl hh0 lt0 ?_)
     exact rfl
    refine VP.step (p := ?pv85) rfl rfl rfl (⟨_, _, rfl, rfl, rfl⟩) ?hv85 ?rest85 hck6
    case hv85 =>
     intro E1
     refine (V1.loadPinAll rfl rfl tyk_67 rfl rfl lt0 ?_)
     exact rfl
    refine VP.step (p := ?pv86) rfl rfl rfl (⟨_, _, rfl, rfl, rfl⟩) ?hv86 ?rest86 hck6
    case hv86 =>
     intro E1
     refine (V1.move rfl rfl rfl lt0 ?_)
     exact rfl
    refine VP.step (p := ?pv87) rfl rfl rfl (⟨_, _, rfl, rfl, rfl⟩) ?hv87 ?rest87 hck6
    case hv87 =>
     intro E1
     refine (V1.move rfl rfl rfl lt0 ?_)
     exact rfl
    refine VP.step (p := ?pv88) rfl rfl rfl (⟨_, _, rfl, rfl, ⟨_, _, rfl, rfl, rfl⟩⟩) ?hv88 ?rest88 hck6
    case hv88 =>
     intro E1
     refine (V1.indexI rfl rfl esz_39 rfl rfl hh1 lt0 ?_)
     exact rfl
    refine VP.step (p := ?pv89) rfl rfl rfl (⟨_, _, rfl, rfl, rfl⟩) ?hv89 ?rest89 hck6
    case hv89 =>
     intro E1
     refine (V1.loadPinAll rfl rfl tyk_67 rfl rfl lt0 ?_)
     exact rfl
    refine VP.fin rfl (⟨_, _, rfl, rfl, ⟨_, _, rfl, rfl, ⟨_, _, rfl, rfl, ⟨_, _, rfl, rfl, ⟨_, _, rfl, rfl, rfl⟩⟩⟩⟩⟩) ?_
    refine VO.cons rfl (V1.call rfl rfl rfl cok_62 rfl (ok_laws_eqCarton hh2) rfl lt0 ?_)
    rintro _ _ ⟨rfl, rfl⟩
    refine VO.cons rfl (V1.not rfl rfl rfl lt0 ?_)
    refine VO.nil ?_
    refine V.cond rfl (fun hc2 => ?_) (fun hc2 => ?_)
    ·
     replace hm1 := cond_t hc2 hm1
     refine V.seq ?_
     refine V.region ?_
     refine VO.cons rfl (V1.assign rfl rfl rfl lt0 ?_)
     refine VO.nil ?_
     refine V.ret ?_
     obtain rfl := hr1 _ (Option.some.inj hm1).symm
     change some _ = some _ at hm0
     obtain rfl := Option.some.inj hm0
     exact ⟨_, [], ⟨_, _, rfl, rfl, rfl⟩, List.nil_sublist _, rfl, rfl⟩
    ·
     replace hm1 := cond_f hc2 hm1
     refine V.skip ?_
     refine V.keep 27 [0, 1, 5] [] (E0 := [(0, .vl ρ0 5 (List.map (encCarton σ0) a)), (1, .vl ρ1 5 (List.map (encCarton σ1) b_)), (5, .int .i64 i)]) (H0 := []) rfl (⟨_, _, rfl, rfl, ⟨_, _, rfl, rfl, ⟨_, _, rfl, rfl, rfl⟩⟩⟩) (rfl) rfl ?_
     refine V.region ?_
     refine VO.cons rfl (V1.move rfl rfl rfl lt0 ?_)
     refine VO.cons rfl (V1.int rfl rfl rfl rfl rfl lt0 ?_)
     refine VO.cons rfl (V1.assign rfl rfl rfl lt0 ?_)
     refine VO.nil ?_
     exact ⟨(m0, (IntKind.i64.wrap (i + (1 : Int))), ()), hl1 _ (Option.some.inj hm1).symm, Nat.lt_succ_self _, Keeps.mk (ks := []) rfl ⟨rfl, rfl, rfl, trivial⟩ (rfl) rfl⟩
   ·
    replace hm1 := cond_f hc1 hm1
    refine V.exit ?_
    obtain rfl := hr1 _ (Option.some.inj hm1).symm
    exact ⟨((), ()), rfl, Keeps.mk (ks := []) rfl trivial (rfl) rfl⟩
  ·
   rintro ⟨_, _⟩ rfl
   try dsimp only at hm0
   refine V.seq ?_
   refine V.region ?_
   refine VO.cons rfl (V1.assign rfl rfl rfl lt0 ?_)
   refine VO.nil ?_
   refine V.ret ?_
   obtain rfl := Option.some.inj hm0
   exact ⟨_, [], ⟨_, _, rfl, rfl, rfl⟩, List.nil_sublist _, rfl, rfl⟩

theorem ok_laws_markIntS {rn : Nat} {oq : Option Nat} {a : List Int} {k : Int} {r : Int × List Int} (h : M.laws_markIntS a k = some r) (hoq : oq = none → a = []) : Does Try.prog 27 [optS 1 oq (List.length a), .int .i64 k] (optH 1 oq (List.map encInt a)) rn (fun x H => x = .int .i64 r.1 ∧ H = optH 1 oq (List.map encInt r.2)) := by
 have hm0 := h; clear h; unfold M.laws_markIntS at hm0
 try dsimp only at hm0
 refine Does.intro (N := 19) Try.func27 rfl rfl rfl rfl ?_
 intro w0 S0
 rcases oq with _ | oq
 ·
  refine V.seq ?_
  refine V.region ?_
  refine VO.cons rfl (V1.assign rfl rfl rfl lt0 ?_)
  refine VO.nil ?_
  refine V.seq ?_
  refine V.seq ?_
  refine V.region ?_
  refine VO.cons rfl (V1.assign rfl rfl rfl lt0 ?_)
  refine VO.nil ?_
  replace hm0 := bindO hm0; rcases hm0 with ⟨e0, he1, hm0⟩
  refine V.cutT (D := (List Int × Int) × (Unit)) (fun ⟨⟨a0, k0⟩, _⟩ => ⟨19, [(0, .vl rn 1 (List.map encInt a0)), (1, .int .i64 k0)], []⟩) (fun ⟨⟨a0, k0⟩, _⟩ => ((a0, k0) = e0)) ?_ ?_
  ·
   refine V.block ?_
   refine V.keep 19 [0, 1, 5] [] (E0 := [(0, .nils), (1, .int .i64 k), (5, .int .i64 (0 : Int))]) (H0 := []) rfl (⟨_, _, rfl, rfl, ⟨_, _, rfl, rfl, ⟨_, _, rfl, rfl, rfl⟩⟩⟩) (rfl) rfl ?_
   refine V.loopE (D := Nat × (List Int × Int × Int) × (Unit)) (fun ⟨n0, ⟨a1, k1, i⟩, _⟩ => [(0, .nils), (1, .int .i64 k1), (5, .int .i64 i)]) (fun ⟨n0, ⟨a1, k1, i⟩, _⟩ => []) (fun ⟨n0, ⟨a1, k1, i⟩, _⟩ => loopO (M.laws_markIntS_l0) n0 (a1, k1, i) = some e0 ∧ a1 = []) (fun ⟨n0, _, _⟩ => n0) (rounds, (a, k, (0 : Int)), ()) rfl ⟨he1, (hoq rfl)⟩ ?_
   rintro ⟨n0, ⟨a1, k1, i⟩, _⟩ ⟨hP0, hn_a1⟩
   obtain ⟨m0, y0, rfl, hm1, hl1, hr1⟩ := loop_head hP0
   unfold M.laws_markIntS_l0 at hm1; dsimp only at hm1
   show V _ _ _ ⟨19, [(0, .nils), (1, .int .i64 k1), (5, .int .i64 i)], []⟩
   refine V.seq ?_
   refine V.seq ?_
   refine V.region ?_
   refine VO.cons rfl (V1.move rfl rfl rfl lt0 ?_)
   refine VO.cons rfl (V1.move rfl rfl rfl lt0 ?_)
   refine VO.cons rfl (V1.lenNilsE (l := a1) hn_a1 rfl rfl rfl rfl rfl rfl isl_36 lt0 ?_)
   refine VO.cons rfl (V1.int rfl rfl rfl rfl rfl lt0 ?_)
   refine VO.nil ?_
   refine V.cond rfl (fun hc0 => ?_) (fun hc0 => ?_)
   ·
    replace hm1 := cond_t hc0 hm1
    refine V.skip ?_
    refine V.keep 19 [0, 1, 5] [] (E0 := [(0, .nils), (1, .int .i64 k1), (5, .int .i64 i)]) (H0 := []) rfl (⟨_, _, rfl, rfl, ⟨_, _, rfl, rfl, ⟨_, _, rfl, rfl, rfl⟩⟩⟩) (rfl) rfl ?_
    refine V.seq ?_
    refine V.block ?_
    refine V.seq ?_
    replace hm1 := asrt_some hm1; rcases hm1 with ⟨hh0, hm1⟩
    refine V.region ?_
    refine VO.cons rfl (V1.move rfl rfl rfl lt0 ?_)
    refine VO.cons rfl (V1.move rfl rfl rfl lt0 ?_)
    refine VO.cons rfl (V1.move rfl rfl rfl lt0 ?_)
    refine VO.weakenK (Keeps.nilsE (l := a1) 12 rn 1 encInt hn_a1 rfl rfl) ?_
    refine VO.cons rfl (V1.indexI rfl rfl esz_36 rfl rfl hh0 lt0 ?_)
    exact (nilsNo hn_a1 hh0).elim
   ·
    replace hm1 := cond_f hc0 hm1
    refine V.exit ?_
    obtain rfl := hr1 _ (Option.some.inj hm1).symm
    exact ⟨((a1, k1), ()), rfl, Keeps.trans (Keeps.nilsE (l := a1) 0 rn 1 encInt hn_a1 rfl rfl) (Keeps.mk (ks := []) rfl ⟨rfl, rfl, trivial⟩ (rfl) rfl)⟩
  ·
   rintro ⟨⟨a0, k0⟩, _⟩ rfl
   try dsimp only at hm0
   refine V.seq ?_
   refine V.region ?_
   refine VO.cons rfl (V1.move rfl rfl rfl lt0 ?_)
   refine VO.cons rfl (V1.assign rfl rfl rfl lt0 ?_)
   refine VO.nil ?_
   refine V.keep 19 [4] [] (E0 := [(4, .int .i64 k0)]) (H0 := []) rfl (⟨_, _, rfl, rfl, rfl⟩) (rfl) rfl ?_
   refine V.ret ?_
   obtain rfl := Option.some.inj hm0
   exact ⟨_, _, ⟨_, _, rfl, rfl, rfl⟩, List.Sublist.refl _, rfl, rfl⟩
 ·
  refine V.seq ?_
  refine V.region ?_
  refine VO.cons rfl (V1.assign rfl rfl rfl lt0 ?_)
  refine VO.nil ?_
  refine V.seq ?_
  refine V.seq ?_
  refine V.region ?_
  refine VO.cons rfl (V1.assign rfl rfl rfl lt0 ?_)
  refine VO.nil ?_
  replace hm0 := bindO hm0; rcases hm0 with ⟨e0, he1, hm0⟩
  refine V.cutT (D := (List Int × Int) × (Unit)) (fun ⟨⟨a0, k0⟩, _⟩ => ⟨19, [(0, .sref oq 1 0 (List.length a0)), (1, .int .i64 k0)], [(oq, ⟨1, List.map encInt a0⟩)]⟩) (fun ⟨⟨a0, k0⟩, _⟩ => ((a0, k0) = e0)) ?_ ?_
  ·
   refine V.block ?_
   refine V.keep 19 [0, 1, 5] [0] (E0 := [(0, .sref oq 1 0 (List.length a)), (1, .int .i64 k), (5, .int .i64 (0 : Int))]) (H0 := [(oq, ⟨1, List.map encInt a⟩)]) rfl (⟨_, _, rfl, rfl, ⟨_, _, rfl, rfl, ⟨_, _, rfl, rfl, rfl⟩⟩⟩) (⟨_, _, rfl, rfl, rfl⟩) rfl ?_
   refine V.loopE (D := Nat × (List Int × Int × Int) × (Unit)) (fun ⟨n0, ⟨a1, k1, i⟩, _⟩ => [(0, .sref oq 1 0 (List.length a1)), (1, .int .i64 k1), (5, .int .i64 i)]) (fun ⟨n0, ⟨a1, k1, i⟩, _⟩ => [(oq, ⟨1, List.map encInt a1⟩)]) (fun ⟨n0, ⟨a1, k1, i⟩, _⟩ => loopO (M.laws_markIntS_l0) n0 (a1, k1, i) = some e0) (fun ⟨n0, _, _⟩ => n0) (rounds, (a, k, (0 : Int)), ()) rfl he1 ?_
   rintro ⟨n0, ⟨a1, k1, i⟩, _⟩ hP0
   obtain ⟨m0, y0, rfl, hm1, hl1, hr1⟩ := loop_head hP0
   unfold M.laws_markIntS_l0 at hm1; dsimp only at hm1
   show V _ _ _ ⟨19, [(0, .sref oq 1 0 (List.length a1)), (1, .int .i64 k1), (5, .int .i64 i)], [(oq, ⟨1, List.map encInt a1⟩)]⟩
   refine V.seq ?_
   refine V.seq ?_
   refine V.region ?_
   refine VO.cons rfl (V1.move rfl rfl rfl lt0 ?_)
   refine VO.cons rfl (V1.move rfl rfl rfl lt0 ?_)
   refine VO.cons rfl (V1.lenSref rfl rfl rfl rfl rfl rfl isl_36 lt0 ?_)
   refine VO.cons rfl (V1.int rfl rfl rfl rfl rfl lt0 ?_)
   refine VO.nil ?_
   refine V.cond rfl (fun hc0 => ?_) (fun hc0 => ?_)
   ·
    replace hm1 := cond_t hc0 hm1
    refine V.skip ?_
    refine V.keep 19 [0, 1, 5] [0] (E0 := [(0, .sref oq 1 0 (List.length a1)), (1, .int .i64 k1), (5, .int .i64 i)]) (H0 := [(oq, ⟨1, List.map encInt a1⟩)]) rfl (⟨_, _, rfl, rfl, ⟨_, _, rfl, rfl, ⟨_, _, rfl, rfl, rfl⟩⟩⟩) (⟨_, _, rfl, rfl, rfl⟩) rfl ?_
    refine V.seq ?_
    refine V.block ?_
    refine V.seq ?_
    replace hm1 := asrt_some hm1; rcases hm1 with ⟨hh0, hm1⟩
    refine V.region ?_
    refine VO.cons rfl (V1.move rfl rfl rfl lt0 ?_)
    refine VO.cons rfl (V1.move rfl rfl rfl lt0 ?_)
    refine VO.cons rfl (V1.move rfl rfl rfl lt0 ?_)
    refine VO.cons rfl (V1.indexSr rfl rfl esz_36 rfl rfl hh0 lt0 ?_)
    refine VO.cons rfl (V1.storeMap (k := 0) (f := encInt) (x := k1) rfl rfl tyk_3 rfl rfl (by simpa using natLt hh0.1 hh0.2) rfl rfl ?_)
    refine VO.weakenK (Keeps.say 0 (y := .sref oq 1 0 (List.length (a1.set (Int.toNat i) k1))) rfl (by simp [optS])) ?_
    refine VO.nil ?_
    refine V.region ?_
    refine VO.cons rfl (V1.move rfl rfl rfl lt0 ?_)
    refine VO.cons rfl (V1.int rfl rfl rfl rfl rfl lt0 ?_)
    refine VO.cons rfl (V1.assign rfl rfl rfl lt0 ?_)
    refine VO.nil ?_
    refine V.keep 19 [0, 1, 5] [0] (E0 := [(0, .sref oq 1 0 (List.length (a1.set (Int.toNat i) k1))), (1, .int .i64 (IntKind.i64.wrap (k1 + (1 : Int)))), (5, .int .i64 i)]) (H0 := [(oq, ⟨1, List.map encInt (a1.set (Int.toNat i) k1)⟩)]) rfl (⟨_, _, rfl, rfl, ⟨_, _, rfl, rfl, ⟨_, _, rfl, rfl, rfl⟩⟩⟩) (⟨_, _, rfl, rfl, rfl⟩) rfl ?_
    refine V.region ?_
    refine VO.cons rfl (V1.move rfl rfl rfl lt0 ?_)
    refine VO.cons rfl (V1.int rfl rfl rfl rfl rfl lt0 ?_)
    refine VO.cons rfl (V1.assign rfl rfl rfl lt0 ?_)
    refine VO.nil ?_
    exact ⟨(m0, ((a1.set (Int.toNat i) k1), (IntKind.i64.wrap (k1 + (1 : Int))), (IntKind.i64.wrap (i + (1 : Int)))), ()), hl1 _ (Option.some.inj hm1).symm, Nat.lt_succ_self _, Keeps.mk (ks := [0]) rfl ⟨(someSref (by simp)), rfl, rfl, trivial⟩ (⟨_, _, rfl, rfl, rfl⟩) rfl⟩
   ·
    replace hm1 := cond_f hc0 hm1
    refine V.exit ?_
    obtain rfl := hr1 _ (Option.some.inj hm1).symm
    exact ⟨((a1, k1), ()), rfl, Keeps.mk (ks := [0]) rfl ⟨(someSref (by simp)), rfl, trivial⟩ (⟨_, _, rfl, rfl, rfl⟩) rfl⟩
  ·
   rintro ⟨⟨a0, k0⟩, _⟩ rfl
   try dsimp only at hm0
   refine V.seq ?_
   refine V.region ?_
   refine VO.cons rfl (V1.move rfl rfl rfl lt0 ?_)
   refine VO.cons rfl (V1.assign rfl rfl rfl lt0 ?_)
   refine VO.nil ?_
   refine V.keep 19 [4] [0] (E0 := [(4, .int .i64 k0)]) (H0 := [(oq, ⟨1, List.map encInt a0⟩)]) rfl (⟨_, _, rfl, rfl, rfl⟩) (⟨_, _, rfl, rfl, rfl⟩) rfl ?_
   refine V.ret ?_
   obtain rfl := Option.some.inj hm0
   exact ⟨_, _, ⟨_, _, rfl, rfl, rfl⟩, List.Sublist.refl _, rfl, rfl⟩

theorem ok_laws_markCartonS {rn : Nat} {oq : Option Nat} {tq : List PV} {oz : List (Nat × Obj')} {a : List Carton} {k : Int} {r : Int × List Carton} (h : M.laws_markCartonS a k = some r) (hoq : oq = none → a = []) (hdq : Deep 1 (fun c_ : Carton => List.map encInt c_.Files) tq oz a) : Does Try.prog 26 [optS 5 oq (List.length a), .int .i64 k] (optH 5 oq (deepC cellCarton tq a) ++ oz) rn (fun x H => ∃ (tr_ : List PV) (or_ : List (Nat × Obj')), Deep 1 (fun c_ : Carton => List.map encInt c_.Files) tr_ or_ r.2 ∧ x = .int .i64 r.1 ∧ H = (optH 5 oq (deepC cellCarton tr_ r.2) ++ or_)) := by
 have hm0 := h; clear h; unfold M.laws_markCartonS at hm0
 try dsimp only at hm0
 refine Does.intro (N := 48) Try.func26 rfl rfl rfl rfl ?_
 intro w0 S0
 rcases oq with _ | oq
 ·
  obtain ⟨rfl, rfl⟩ := Deep.nil (hoq rfl) hdq
  refine V.seq ?_
  refine V.region ?_
  refine VO.cons rfl (V1.assign rfl rfl rfl lt0 ?_)
  refine VO.nil ?_
  refine V.seq ?_
  refine V.seq ?_
  refine V.region ?_
  refine VO.cons rfl (V1.assign rfl rfl rfl lt0 ?_)
  refine VO.nil ?_
  replace hm0 := bindO hm0; rcases hm0 with ⟨e0, he1, hm0⟩
  refine V.cutT (D := (List Carton × Int) × (Unit)) (fun ⟨⟨a0, k0⟩, _⟩ => ⟨48, [(0, .nils), (1, .int .i64 k0)], []⟩) (fun ⟨⟨a0, k0⟩, _⟩ => ((a0, k0) = e0) ∧ a0 = []) ?_ ?_
  ·
   refine V.block ?_
   refine V.keep 48 [0, 1, 5] [] (E0 := [(0, .nils), (1, .int .i64 k), (5, .int .i64 (0 : Int))]) (H0 := []) rfl (⟨_, _, rfl, rfl, ⟨_, _, rfl, rfl, ⟨_, _, rfl, rfl, rfl⟩⟩⟩) (rfl) rfl ?_
   refine V.loopE (D := Nat × (List Carton × Int × Int) × (Unit)) (fun ⟨n0, ⟨a1, k1, i⟩, _⟩ => [(0, .nils), (1, .int .i64 k1), (5, .int .i64 i)]) (fun ⟨n0, ⟨a1, k1, i⟩, _⟩ => []) (fun ⟨n0, ⟨a1, k1, i⟩, _⟩ => loopO (M.laws_markCartonS_l0) n0 (a1, k1, i) = some e0 ∧ a1 = []) (fun ⟨n0, _, _⟩ => n0) (rounds, (a, k, (0 : Int)), ()) rfl ⟨he1, (hoq rfl)⟩ ?_
   rintro ⟨n0, ⟨a1, k1, i⟩, _⟩ ⟨hP0, hn_a1⟩
   obtain ⟨m0, y0, rfl, hm1, hl1, hr1⟩ := loop_head hP0
   unfold M.laws_markCartonS_l0 at hm1; dsimp only at hm1
   show V _ _ _ ⟨48, [(0, .nils), (1, .int .i64 k1), (5, .int .i64 i)], []⟩
   refine V.seq ?_
   refine V.seq ?_
   refine V.region ?_
   refine VO.cons rfl (V1.move rfl rfl rfl lt0 ?_)
   refine VO.cons rfl (V1.move rfl rfl rfl lt0 ?_)
   refine VO.cons rfl (V1.lenNilsE (l := a1) hn_a1 rfl rfl rfl rfl rfl rfl isl_39 lt0 ?_)
   refine VO.cons rfl (V1.int rfl rfl rfl rfl rfl lt0 ?_)
   refine VO.nil ?_
   refine V.cond rfl (fun hc0 => ?_) (fun hc0 => ?_)
   ·
    replace hm1 := cond_t hc0 hm1
    refine V.skip ?_
    refine V.keep 48 [0, 1, 5] [] (E0 := [(0, .nils), (1, .int .i64 k1), (5, .int .i64 i)]) (H0 := []) rfl (⟨_, _, rfl, rfl, ⟨_, _, rfl, rfl, ⟨_, _, rfl, rfl, rfl⟩⟩⟩) (rfl) rfl ?_
    refine V.seq ?_
    refine V.block ?_
    refine V.seq ?_
    replace hm1 := asrt_some hm1; rcases hm1 with ⟨hh0, hm1⟩
    refine V.region ?_
    refine VO.cons rfl (V1.move rfl rfl rfl lt0 ?_)
    refine VO.cons rfl (V1.move rfl rfl rfl lt0 ?_)
    refine VO.cons rfl (V1.move rfl rfl rfl lt0 ?_)
    refine VO.weakenK (Keeps.nilsE (l := a1) 12 rn 5 (encCarton rn) hn_a1 rfl rfl) ?_
    refine VO.cons rfl (V1.indexI rfl rfl esz_39 rfl rfl hh0 lt0 ?_)
    refine VO.cons rfl (V1.fieldPin rfl rfl fo_67_0 rfl lt0 ?_)
    exact (nilsNo hn_a1 hh0).elim
   ·
    replace hm1 := cond_f hc0 hm1
    refine V.exit ?_
    obtain rfl := hr1 _ (Option.some.inj hm1).symm
    exact ⟨((a1, k1), ()), ⟨rfl, hn_a1⟩, Keeps.mk (ks := []) rfl ⟨rfl, rfl, trivial⟩ (rfl) rfl⟩
  ·
   rintro ⟨⟨a0, k0⟩, _⟩ ⟨rfl, hn_a0⟩
   try dsimp only at hm0
   refine V.seq ?_
   refine V.region ?_
   refine VO.cons rfl (V1.move rfl rfl rfl lt0 ?_)
   refine VO.cons rfl (V1.assign rfl rfl rfl lt0 ?_)
   refine VO.nil ?_
   refine V.keep 48 [4] [] (E0 := [(4, .int .i64 k0)]) (H0 := []) rfl (⟨_, _, rfl, rfl, rfl⟩) (rfl) rfl ?_
   refine V.ret ?_
   obtain rfl := Option.some.inj hm0
   exact ⟨_, _, ⟨_, _, rfl, rfl, rfl⟩, List.Sublist.refl _, [], [], (Deep.ofNil hn_a0), rfl, rfl⟩
 ·
  refine V.seq ?_
  refine V.region ?_
  refine VO.cons rfl (V1.assign rfl rfl rfl lt0 ?_)
  refine VO.nil ?_
  refine V.seq ?_
  refine V.seq ?_
  refine V.region ?_
  refine VO.cons rfl (V1.assign rfl rfl rfl lt0 ?_)
  refine VO.nil ?_
  replace hm0 := bindO hm0; rcases hm0 with ⟨e0, he1, hm0⟩
  refine V.cutT (D := (List Carton × Int) × (List PV × (List (Nat × Obj')))) (fun ⟨⟨a0, k0⟩, ⟨ts_76, os_76⟩⟩ => ⟨48, [(0, .sref oq 5 0 (List.length a0)), (1, .int .i64 k0)], ([(oq, ⟨5, deepC cellCarton ts_76 a0⟩)]) ++ os_76⟩) (fun ⟨⟨a0, k0⟩, ⟨ts_76, os_76⟩⟩ => ((a0, k0) = e0) ∧ Deep 1 (fun c_ : Carton => List.map encInt c_.Files) ts_76 os_76 a0) ?_ ?_
  ·
   refine V.block ?_
   refine V.keepT 48 [0, 1, 5] [0] (E0 := [(0, .sref oq 5 0 (List.length a)), (1, .int .i64 k), (5, .int .i64 (0 : Int))]) (A := [(oq, ⟨5, deepC cellCarton tq a⟩)]) (T := oz) (H0 := [(oq, ⟨5, deepC cellCarton tq a⟩)]) (T' := oz) rfl (⟨_, _, rfl, rfl, ⟨_, _, rfl, rfl, ⟨_, _, rfl, rfl, rfl⟩⟩⟩) rfl (⟨_, _, rfl, rfl, rfl⟩) rfl (List.Sublist.refl _) ?_
   refine V.loopT (D := Nat × (List Carton × Int × Int) × (List PV × (List (Nat × Obj')))) (fun ⟨n0, ⟨a1, k1, i⟩, ⟨ts_77, os_77⟩⟩ => [(0, .sref oq 5 0 (List.length a1)), (1, .int .i64 k1), (5, .int .i64 i)]) (fun ⟨n0, ⟨a1, k1, i⟩, ⟨ts_77, os_77⟩⟩ => ([(oq, ⟨5, deepC cellCarton ts_77 a1⟩)]) ++ os_77) (fun ⟨n0, ⟨a1, k1, i⟩, ⟨ts_77, os_77⟩⟩ => loopO (M.laws_markCartonS_l0) n0 (a1, k1, i) = some e0 ∧ Deep 1 (fun c_ : Carton => List.map encInt c_.Files) ts_77 os_77 a1) (fun ⟨n0, _, _⟩ => n0) (rounds, (a, k, (0 : Int)), (tq, oz)) rfl ⟨he1, hdq⟩ ?_
   rintro ⟨n0, ⟨a1, k1, i⟩, ⟨ts_77, os_77⟩⟩ ⟨hP0, hd_77⟩
   obtain ⟨m0, y0, rfl, hm1, hl1, hr1⟩ := loop_head hP0
   unfold M.laws_markCartonS_l0 at hm1; dsimp only at hm1
   show V _ _ _ ⟨48, [(0, .sref oq 5 0 (List.length a1)), (1, .int .i64 k1), (5, .int .i64 i)], (([(oq, ⟨5, deepC cellCarton ts_77 a1⟩)] : List (Nat × Obj')) ++ os_77)⟩
   refine V.seq ?_
   refine V.seq ?_
   refine V.region ?_
   refine VO.cons rfl (V1.move rfl rfl rfl lt0 ?_)
   refine VO.cons rfl (V1.move rfl rfl rfl lt0 ?_)
   refine VO.cons rfl (V1.lenSref rfl rfl rfl rfl rfl rfl isl_39 lt0 ?_)
   refine VO.cons rfl (V1.int rfl rfl rfl rfl rfl lt0 ?_)
   refine VO.nil ?_
   refine V.cond rfl (fun hc0 => ?_) (fun hc0 => ?_)
   ·
    replace hm1 := cond_t hc0 hm1
    refine V.skip ?_
    refine V.keepT 48 [0, 1, 5] [0] (E0 := [(0, .sref oq 5 0 (List.length a1)), (1, .int .i64 k1), (5, .int .i64 i)]) (A := [(oq, ⟨5, deepC cellCarton ts_77 a1⟩)]) (T := os_77) (H0 := [(oq, ⟨5, deepC cellCarton ts_77 a1⟩)]) (T' := os_77) rfl (⟨_, _, rfl, rfl, ⟨_, _, rfl, rfl, ⟨_, _, rfl, rfl, rfl⟩⟩⟩) rfl (⟨_, _, rfl, rfl, rfl⟩) rfl (List.Sublist.refl _) ?_
    refine V.seq ?_
    refine V.block ?_
    refine V.seq ?_
    replace hm1 := asrt_some hm1; rcases hm1 with ⟨hh0, hm1⟩
    refine V.region ?_
    refine VO.cons rfl (V1.move rfl rfl rfl lt0 ?_)
    refine VO.cons rfl (V1.move rfl rfl rfl lt0 ?_)
    refine VO.cons rfl (V1.move rfl rfl rfl lt0 ?_)
    refine VO.cons rfl (V1.indexSr rfl rfl esz_39 rfl rfl hh0 lt0 ?_)
    refine VO.cons rfl (V1.fieldRef rfl rfl fo_67_0 rfl lt0 ?_)
    refine VO.cons rfl (V1.storeDeepCell (inn := (fun c_ : Carton => List.map encInt c_.Files)) (cell := cellCarton) (ts := ts_77) (xs := a1) (k := 0) cokCarton (⟨k1, (a1.getD (Int.toNat i) default).Shelf, (a1.getD (Int.toNat i) default).Room, (a1.getD (Int.toNat i) default).Files, (a1.getD (Int.toNat i) default).Thick⟩ : Carton) rfl rfl tyk_3 rfl rfl hd_77 (by simpa using natLt hh0.1 hh0.2) rfl rfl rfl rfl (fun _ => rfl) ?_)
    have hd_78 := Deep.setSame (i := (Int.toNat i)) (⟨k1, (a1.getD (Int.toNat i) default).Shelf, (a1.getD (Int.toNat i) default).Room, (a1.getD (Int.toNat i) default).Files, (a1.getD (Int.toNat i) default).Thick⟩ : Carton) rfl hd_77
    refine VO.weakenK (Keeps.say 0 (y := .sref oq 5 0 (List.length (a1.set (Int.toNat i) (⟨k1, (a1.getD (Int.toNat i) default).Shelf, (a1.getD (Int.toNat i) default).Room, (a1.getD (Int.toNat i) default).Files, (a1.getD (Int.toNat i) default).Thick⟩ : Carton)))) rfl (by simp [optS])) ?_
    refine VO.nil ?_
    refine V.keepT 48 [0, 1, 5] [0] (E0 := [(0, .sref oq 5 0 (List.length (a1.set (Int.toNat i) (⟨k1, (a1.getD (Int.toNat i) default).Shelf, (a1.getD (Int.toNat i) default).Room, (a1.getD (Int.toNat i) default).Files, (a1.getD (Int.toNat i) default).Thick⟩ : Carton)))), (1, .int .i64 k1), (5, .int .i64 i)]) (A := [(oq, ⟨5, deepC cellCarton ts_77 (a1.set (Int.toNat i) (⟨k1, (a1.getD (Int.toNat i) default).Shelf, (a1.getD (Int.toNat i) default).Room, (a1.getD (Int.toNat i) default).Files, (a1.getD (Int.toNat i) default).Thick⟩ : Carton))⟩)]) (T := os_77) (H0 := [(oq, ⟨5, deepC cellCarton ts_77 (a1.set (Int.toNat i) (⟨k1, (a1.getD (Int.toNat i) default).Shelf, (a1.getD (Int.toNat i) default).Room, (a1.getD (Int.toNat i) default).Files, (a1.getD (Int.toNat i) default).Thick⟩ : Carton))⟩)]) (T' := os_77) rfl (⟨_, _, rfl, rfl, ⟨_, _, rfl, rfl, ⟨_, _, rfl, rfl, rfl⟩⟩⟩) rfl (⟨_, _, rfl, rfl, rfl⟩) rfl (List.Sublist.refl _) ?_
    refine V.seq ?_
    refine V.region ?_
    refine VO.cons rfl (V1.move rfl rfl rfl lt0 ?_)
    refine VO.cons rfl (V1.int rfl rfl rfl rfl rfl lt0 ?_)
    refine VO.cons rfl (V1.assign rfl rfl rfl lt0 ?_)
    refine VO.nil ?_
    refine V.seq ?_
    replace hm1 := asrt_some hm1; rcases hm1 with ⟨hh1, hm1⟩
    refine V.region ?_
    refine VO.cons rfl (V1.move rfl rfl rfl lt0 ?_)
    refine VO.cons rfl (V1.move rfl rfl rfl lt0 ?_)
    refine VO.cons rfl (V1.move rfl rfl rfl lt0 ?_)
    refine VO.cons rfl (V1.indexSr rfl rfl esz_39 rfl rfl hh1 lt0 ?_)
    refine VO.cons rfl (V1.fieldRef rfl rfl fo_67_1 rfl lt0 ?_)
    refine VO.cons rfl (V1.storeDeepCell (inn := (fun c_ : Carton => List.map encInt c_.Files)) (cell := cellCarton) (ts := ts_77) (xs := (a1.set (Int.toNat i) (⟨k1, (a1.getD (Int.toNat i) default).Shelf, (a1.getD (Int.toNat i) default).Room, (a1.getD (Int.toNat i) default).Files, (a1.getD (Int.toNat i) default).Thick⟩ : Carton))) (k := 0) cokCarton (⟨((a1.set (Int.toNat i) (⟨k1, (a1.getD (Int.toNat i) default).Shelf, (a1.getD (Int.toNat i) default).Room, (a1.getD (Int.toNat i) default).Files, (a1.getD (Int.toNat i) default).Thick⟩ : Carton)).getD (Int.toNat i) default).Id, (IntKind.i64.wrap (k1 + (1 : Int))), ((a1.set (Int.toNat i) (⟨k1, (a1.getD (Int.toNat i) default).Shelf, (a1.getD (Int.toNat i) default).Room, (a1.getD (Int.toNat i) default).Files, (a1.getD (Int.toNat i) default).Thick⟩ : Carton)).getD (Int.toNat i) default).Room, ((a1.set (Int.toNat i) (⟨k1, (a1.getD (Int.toNat i) default).Shelf, (a1.getD (Int.toNat i) default).Room, (a1.getD (Int.toNat i) default).Files, (a1.getD (Int.toNat i) default).Thick⟩ : Carton)).getD (Int.toNat i) default).Files, ((a1.set (Int.toNat i) (⟨k1, (a1.getD (Int.toNat i) default).Shelf, (a1.getD (Int.toNat i) default).Room, (a1.getD (Int.toNat i) default).Files, (a1.getD (Int.toNat i) default).Thick⟩ : Carton)).getD (Int.toNat i) default).Thick⟩ : Carton) rfl rfl tyk_3 rfl rfl hd_78 (by simpa using natLt hh1.1 hh1.2) rfl rfl rfl rfl (fun _ => rfl) ?_)
    have hd_79 := Deep.setSame (i := (Int.toNat i)) (⟨((a1.set (Int.toNat i) (⟨k1, (a1.getD (Int.toNat i) default).Shelf, (a1.getD (Int.toNat i) default).Room, (a1.getD (Int.toNat i) default).Files, (a1.getD (Int.toNat i) default).Thick⟩ : Carton)).getD (Int.toNat i) default).Id, (IntKind.i64.wrap (k1 + (1 : Int))), ((a1.set (Int.toNat i) (⟨k1, (a1.getD (Int.toNat i) default).Shelf, (a1.getD (Int.toNat i) default).Room, (a1.getD (Int.toNat i) default).Files, (a1.getD (Int.toNat i) default).Thick⟩ : Carton)).getD (Int.toNat i) default).Room, ((a1.set (Int.toNat i) (⟨k1, (a1.getD (Int.toNat i) default).Shelf, (a1.getD (Int.toNat i) default).Room, (a1.getD (Int.toNat i) default).Files, (a1.getD (Int.toNat i) default).Thick⟩ : Carton)).getD (Int.toNat i) default).Files, ((a1.set (Int.toNat i) (⟨k1, (a1.getD (Int.toNat i) default).Shelf, (a1.getD (Int.toNat i) default).Room, (a1.getD (Int.toNat i) default).Files, (a1.getD (Int.toNat i) default).Thick⟩ : Carton)).getD (Int.toNat i) default).Thick⟩ : Carton) rfl hd_78
    have hu_79 : ((a1.set (Int.toNat i) (⟨k1, (a1.getD (Int.toNat i) default).Shelf, (a1.getD (Int.toNat i) default).Room, (a1.getD (Int.toNat i) default).Files, (a1.getD (Int.toNat i) default).Thick⟩ : Carton)).set (Int.toNat i) (⟨((a1.set (Int.toNat i) (⟨k1, (a1.getD (Int.toNat i) default).Shelf, (a1.getD (Int.toNat i) default).Room, (a1.getD (Int.toNat i) default).Files, (a1.getD (Int.toNat i) default).Thick⟩ : Carton)).getD (Int.toNat i) default).Id, (IntKind.i64.wrap (k1 + (1 : Int))), ((a1.set (Int.toNat i) (⟨k1, (a1.getD (Int.toNat i) default).Shelf, (a1.getD (Int.toNat i) default).Room, (a1.getD (Int.toNat i) default).Files, (a1.getD (Int.toNat i) default).Thick⟩ : Carton)).getD (Int.toNat i) default).Room, ((a1.set (Int.toNat i) (⟨k1, (a1.getD (Int.toNat i) default).Shelf, (a1.getD (Int.toNat i) default).Room, (a1.getD (Int.toNat i) default).Files, (a1.getD (Int.toNat i) default).Thick⟩ : Carton)).getD (Int.toNat i) default).Files, ((a1.set (Int.toNat i) (⟨k1, (a1.getD (Int.toNat i) default).Shelf, (a1.getD (Int.toNat i) default).Room, (a1.getD (Int.toNat i) default).Files, (a1.getD (Int.toNat i) default).Thick⟩ : Carton)).getD (Int.toNat i) default).Thick⟩ : Carton)) = (a1.set (Int.toNat i) (⟨k1, (IntKind.i64.wrap (k1 + (1 : Int))), (a1.getD (Int.toNat i) default).Room, (a1.getD (Int.toNat i) default).Files, (a1.getD (Int.toNat i) default).Thick⟩ : Carton)) := set_upd (fun y_ => (⟨y_.Id, (IntKind.i64.wrap (k1 + (1 : Int))), y_.Room, y_.Files, y_.Thick⟩ : Carton)) (by simpa using natLt hh0.1 hh0.2) rfl
    refine VO.weakenK (Keeps.sayObj 0 (ys := deepC cellCarton ts_77 (a1.set (Int.toNat i) (⟨k1, (IntKind.i64.wrap (k1 + (1 : Int))), (a1.getD (Int.toNat i) default).Room, (a1.getD (Int.toNat i) default).Files, (a1.getD (Int.toNat i) default).Thick⟩ : Carton))) rfl (congrArg (deepC cellCarton ts_77) hu_79)) ?_
    rw [hu_79] at hd_79
    refine VO.weakenK (Keeps.say 0 (y := .sref oq 5 0 (List.length (a1.set (Int.toNat i) (⟨k1, (IntKind.i64.wrap (k1 + (1 : Int))), (a1.getD (Int.toNat i) default).Room, (a1.getD (Int.toNat i) default).Files, (a1.getD (Int.toNat i) default).Thick⟩ : Carton)))) rfl (by simp [optS])) ?_
    refine VO.nil ?_
    refine V.keepT 48 [0, 1, 5] [0] (E0 := [(0, .sref oq 5 0 (List.length (a1.set (Int.toNat i) (⟨k1, (IntKind.i64.wrap (k1 + (1 : Int))), (a1.getD (Int.toNat i) default).Room, (a1.getD (Int.toNat i) default).Files, (a1.getD (Int.toNat i) default).Thick⟩ : Carton)))), (1, .int .i64 (IntKind.i64.wrap (k1 + (1 : Int)))), (5, .int .i64 i)]) (A := [(oq, ⟨5, deepC cellCarton ts_77 (a1.set (Int.toNat i) (⟨k1, (IntKind.i64.wrap (k1 + (1 : Int))), (a1.getD (Int.toNat i) default).Room, (a1.getD (Int.toNat i) default).Files, (a1.getD (Int.toNat i) default).Thick⟩ : Carton))⟩)]) (T := os_77) (H0 := [(oq, ⟨5, deepC cellCarton ts_77 (a1.set (Int.toNat i) (⟨k1, (IntKind.i64.wrap (k1 + (1 : Int))), (a1.getD (Int.toNat i) default).Room, (a1.getD (Int.toNat i) default).Files, (a1.getD (Int.toNat i) default).Thick⟩ : Carton))⟩)]) (T' := os_77) rfl (⟨_, _, rfl, rfl, ⟨_, _, rfl, rfl, ⟨_, _, rfl, rfl, rfl⟩⟩⟩) rfl (⟨_, _, rfl, rfl, rfl⟩) rfl (List.Sublist.refl _) ?_
    refine V.seq ?_
    refine V.region ?_
    refine VO.cons rfl (V1.move rfl rfl rfl lt0 ?_)
    refine VO.cons rfl (V1.int rfl rfl rfl rfl rfl lt0 ?_)
    refine VO.cons rfl (V1.assign rfl rfl rfl lt0 ?_)
    refine VO.nil ?_
    refine V.seq ?_
    replace hm1 := asrt_some hm1; rcases hm1 with ⟨hh2, hm1⟩
    refine V.region ?_
    refine VO.cons rfl (V1.move rfl rfl rfl lt0 ?_)
    refine VO.cons rfl (V1.move rfl rfl rfl lt0 ?_)
    refine VO.cons rfl (V1.move rfl rfl rfl lt0 ?_)
    refine VO.cons rfl (V1.indexSr rfl rfl esz_39 rfl rfl hh2 lt0 ?_)
    refine VO.cons rfl (V1.fieldRef rfl rfl fo_67_2 rfl lt0 ?_)
    refine VO.cons rfl (V1.storeDeepCell (inn := (fun c_ : Carton => List.map encInt c_.Files)) (cell := cellCarton) (ts := ts_77) (xs := (a1.set (Int.toNat i) (⟨k1, (IntKind.i64.wrap (k1 + (1 : Int))), (a1.getD (Int.toNat i) default).Room, (a1.getD (Int.toNat i) default).Files, (a1.getD (Int.toNat i) default).Thick⟩ : Carton))) (k := 0) cokCarton (⟨((a1.set (Int.toNat i) (⟨k1, (IntKind.i64.wrap (k1 + (1 : Int))), (a1.getD (Int.toNat i) default).Room, (a1.getD (Int.toNat i) default).Files, (a1.getD (Int.toNat i) default).Thick⟩ : Carton)).getD (Int.toNat i) default).Id, ((a1.set (Int.toNat i) (⟨k1, (IntKind.i64.wrap (k1 + (1 : Int))), (a1.getD (Int.toNat i) default).Room, (a1.getD (Int.toNat i) default).Files, (a1.getD (Int.toNat i) default).Thick⟩ : Carton)).getD (Int.toNat i) default).Shelf, (IntKind.i64.wrap ((IntKind.i64.wrap (k1 + (1 : Int))) + (1 : Int))), ((a1.set (Int.toNat i) (⟨k1, (IntKind.i64.wrap (k1 + (1 : Int))), (a1.getD (Int.toNat i) default).Room, (a1.getD (Int.toNat i) default).Files, (a1.getD (Int.toNat i) default).Thick⟩ : Carton)).getD (Int.toNat i) default).Files, ((a1.set (Int.toNat i) (⟨k1, (IntKind.i64.wrap (k1 + (1 : Int))), (a1.getD (Int.toNat i) default).Room, (a1.getD (Int.toNat i) default).Files, (a1.getD (Int.toNat i) default).Thick⟩ : Carton)).getD (Int.toNat i) default).Thick⟩ : Carton) rfl rfl tyk_3 rfl rfl hd_79 (by simpa using natLt hh2.1 hh2.2) rfl rfl rfl rfl (fun _ => rfl) ?_)
    have hd_80 := Deep.setSame (i := (Int.toNat i)) (⟨((a1.set (Int.toNat i) (⟨k1, (IntKind.i64.wrap (k1 + (1 : Int))), (a1.getD (Int.toNat i) default).Room, (a1.getD (Int.toNat i) default).Files, (a1.getD (Int.toNat i) default).Thick⟩ : Carton)).getD (Int.toNat i) default).Id, ((a1.set (Int.toNat i) (⟨k1, (IntKind.i64.wrap (k1 + (1 : Int))), (a1.getD (Int.toNat i) default).Room, (a1.getD (Int.toNat i) default).Files, (a1.getD (Int.toNat i) default).Thick⟩ : Carton)).getD (Int.toNat i) default).Shelf, (IntKind.i64.wrap ((IntKind.i64.wrap (k1 + (1 : Int))) + (1 : Int))), ((a1.set (Int.toNat i) (⟨k1, (IntKind.i64.wrap (k1 + (1 : Int))), (a1.getD (Int.toNat i) default).Room, (a1.getD (Int.toNat i) default).Files, (a1.getD (Int.toNat i) default).Thick⟩ : Carton)).getD (Int.toNat i) default).Files, ((a1.set (Int.toNat i) (⟨k1, (IntKind.i64.wrap (k1 + (1 : Int))), (a1.getD (Int.toNat i) default).Room, (a1.getD (Int.toNat i) default).Files, (a1.getD (Int.toNat i) default).Thick⟩ : Carton)).getD (Int.toNat i) default).Thick⟩ : Carton) rfl hd_79
    have hu_80 : ((a1.set (Int.toNat i) (⟨k1, (IntKind.i64.wrap (k1 + (1 : Int))), (a1.getD (Int.toNat i) default).Room, (a1.getD (Int.toNat i) default).Files, (a1.getD (Int.toNat i) default).Thick⟩ : Carton)).set (Int.toNat i) (⟨((a1.set (Int.toNat i) (⟨k1, (IntKind.i64.wrap (k1 + (1 : Int))), (a1.getD (Int.toNat i) default).Room, (a1.getD (Int.toNat i) default).Files, (a1.getD (Int.toNat i) default).Thick⟩ : Carton)).getD (Int.toNat i) default).Id, ((a1.set (Int.toNat i) (⟨k1, (IntKind.i64.wrap (k1 + (1 : Int))), (a1.getD (Int.toNat i) default).Room, (a1.getD (Int.toNat i) default).Files, (a1.getD (Int.toNat i) default).Thick⟩ : Carton)).getD (Int.toNat i) default).Shelf, (IntKind.i64.wrap ((IntKind.i64.wrap (k1 + (1 : Int))) + (1 : Int))), ((a1.set (Int.toNat i) (⟨k1, (IntKind.i64.wrap (k1 + (1 : Int))), (a1.getD (Int.toNat i) default).Room, (a1.getD (Int.toNat i) default).Files, (a1.getD (Int.toNat i) default).Thick⟩ : Carton)).getD (Int.toNat i) default).Files, ((a1.set (Int.toNat i) (⟨k1, (IntKind.i64.wrap (k1 + (1 : Int))), (a1.getD (Int.toNat i) default).Room, (a1.getD (Int.toNat i) default).Files, (a1.getD (Int.toNat i) default).Thick⟩ : Carton)).getD (Int.toNat i) default).Thick⟩ : Carton)) = (a1.set (Int.toNat i) (⟨k1, (IntKind.i64.wrap (k1 + (1 : Int))), (IntKind.i64.wrap ((IntKind.i64.wrap (k1 + (1 : Int))) + (1 : Int))), (a1.getD (Int.toNat i) default).Files, (a1.getD (Int.toNat i) default).Thick⟩ : Carton)) := set_upd (fun y_ => (⟨y_.Id, y_.Shelf, (IntKind.i64.wrap ((IntKind.i64.wrap (k1 + (1 : Int))) + (1 : Int))), y_.Files, y_.Thick⟩ : Carton)) (by simpa using natLt hh0.1 hh0.2) rfl
    refine VO.weakenK (Keeps.sayObj 0 (ys := deepC cellCarton ts_77 (a1.set (Int.toNat i) (⟨k1, (IntKind.i64.wrap (k1 + (1 : Int))), (IntKind.i64.wrap ((IntKind.i64.wrap (k1 + (1 : Int))) + (1 : Int))), (a1.getD (Int.toNat i) default).Files, (a1.getD (Int.toNat i) default).Thick⟩ : Carton))) rfl (congrArg (deepC cellCarton ts_77) hu_80)) ?_
    rw [hu_80] at hd_80
    refine VO.weakenK (Keeps.say 0 (y := .sref oq 5 0 (List.length (a1.set (Int.toNat i) (⟨k1, (IntKind.i64.wrap (k1 + (1 : Int))), (IntKind.i64.wrap ((IntKind.i64.wrap (k1 + (1 : Int))) + (1 : Int))), (a1.getD (Int.toNat i) default).Files, (a1.getD (Int.toNat i) default).Thick⟩ : Carton)))) rfl (by simp [optS])) ?_
    refine VO.nil ?_
    refine V.keepT 48 [0, 1, 5] [0] (E0 := [(0, .sref oq 5 0 (List.length (a1.set (Int.toNat i) (⟨k1, (IntKind.i64.wrap (k1 + (1 : Int))), (IntKind.i64.wrap ((IntKind.i64.wrap (k1 + (1 : Int))) + (1 : Int))), (a1.getD (Int.toNat i) default).Files, (a1.getD (Int.toNat i) default).Thick⟩ : Carton)))), (1, .int .i64 (IntKind.i64.wrap ((IntKind.i64.wrap (k1 + (1 : Int))) + (1 : Int)))), (5, .int .i64 i)]) (A := [(oq, ⟨5, deepC cellCarton ts_77 (a1.set (Int.toNat i) (⟨k1, (IntKind.i64.wrap (k1 + (1 : Int))), (IntKind.i64.wrap ((IntKind.i64.wrap (k1 + (1 : Int))) + (1 : Int))), (a1.getD (Int.toNat i) default).Files, (a1.getD (Int.toNat i) default).Thick⟩ : Carton))⟩)]) (T := os_77) (H0 := [(oq, ⟨5, deepC cellCarton ts_77 (a1.set (Int.toNat i) (⟨k1, (IntKind.i64.wrap (k1 + (1 : Int))), (IntKind.i64.wrap ((IntKind.i64.wrap (k1 + (1 : Int))) + (1 : Int))), (a1.getD (Int.toNat i) default).Files, (a1.getD (Int.toNat i) default).Thick⟩ : Carton))⟩)]) (T' := os_77) rfl (⟨_, _, rfl, rfl, ⟨_, _, rfl, rfl, ⟨_, _, rfl, rfl, rfl⟩⟩⟩) rfl (⟨_, _, rfl, rfl, rfl⟩) rfl (List.Sublist.refl _) ?_
    refine V.seq ?_
    refine V.region ?_
    refine VO.cons rfl (V1.move rfl rfl rfl lt0 ?_)
    refine VO.cons rfl (V1.int rfl rfl rfl rfl rfl lt0 ?_)
    refine VO.cons rfl (V1.assign rfl rfl rfl lt0 ?_)
    refine VO.nil ?_
    refine V.seq ?_
    replace hm1 := asrt_some hm1; rcases hm1 with ⟨hh3, hm1⟩
    replace hm1 := bindO hm1; rcases hm1 with ⟨y1, hh4, hm1⟩
    replace hm1 := asrt_some hm1; rcases hm1 with ⟨hh5, hm1⟩
    refine V.region ?_
    refine VO.cons rfl (V1.move rfl rfl rfl lt0 ?_)
    refine VO.cons rfl (V1.move rfl rfl rfl lt0 ?_)
    refine VO.cons rfl (V1.indexSr rfl rfl esz_39 rfl rfl hh3 lt0 ?_)
    refine VO.cons rfl (V1.fieldRef rfl rfl fo_67_3 rfl lt0 ?_)
    refine VO.cons rfl (V1.loadDeepIn (inn := (fun c_ : Carton => List.map encInt c_.Files)) (cell := cellCarton) (ts := ts_77) (xs := (a1.set (Int.toNat i) (⟨k1, (IntKind.i64.wrap (k1 + (1 : Int))), (IntKind.i64.wrap ((IntKind.i64.wrap (k1 + (1 : Int))) + (1 : Int))), (a1.getD (Int.toNat i) default).Files, (a1.getD (Int.toNat i) default).Thick⟩ : Carton))) (k := 0) cokCarton rfl rfl tyk_36 rfl rfl hd_80 (by simpa using natLt hh3.1 hh3.2) lt0 ?_)
    refine VO.cons rfl (V1.move rfl rfl rfl lt0 ?_)
    obtain ⟨ob_81, os1_81, os2_81, hob_81, ht_81, hos_81, hp_81, hs_81⟩ := Deep.focusM (f := encInt) (g := (fun c_ : Carton => c_.Files)) (Int.toNat i) hd_80 (by simpa using natLt hh3.1 hh3.2)
    refine VO.weakenK (Keeps.say 37 (y := optS 1 ob_81 (List.length (((a1.set (Int.toNat i) (⟨k1, (IntKind.i64.wrap (k1 + (1 : Int))), (IntKind.i64.wrap ((IntKind.i64.wrap (k1 + (1 : Int))) + (1 : Int))), (a1.getD (Int.toNat i) default).Files, (a1.getD (Int.toNat i) default).Thick⟩ : Carton)).getD (Int.toNat i) default).Files))) rfl ht_81) ?_
    refine VO.cons rfl (V1.callD (A := [(oq, ⟨5, deepC cellCarton ts_77 (a1.set (Int.toNat i) (⟨k1, (IntKind.i64.wrap (k1 + (1 : Int))), (IntKind.i64.wrap ((IntKind.i64.wrap (k1 + (1 : Int))) + (1 : Int))), (a1.getD (Int.toNat i) default).Files, (a1.getD (Int.toNat i) default).Thick⟩ : Carton))⟩)]) (os1 := os1_81) (os2 := os2_81) (Hc := optH 1 ob_81 (List.map encInt (((a1.set (Int.toNat i) (⟨k1, (IntKind.i64.wrap (k1 + (1 : Int))), (IntKind.i64.wrap ((IntKind.i64.wrap (k1 + (1 : Int))) + (1 : Int))), (a1.getD (Int.toNat i) default).Files, (a1.getD (Int.toNat i) default).Thick⟩ : Carton)).getD (Int.toNat i) default).Files))) rfl rfl rfl cok_27 rfl (appEq (A := [(oq, ⟨5, deepC cellCarton ts_77 (a1.set (Int.toNat i) (⟨k1, (IntKind.i64.wrap (k1 + (1 : Int))), (IntKind.i64.wrap ((IntKind.i64.wrap (k1 + (1 : Int))) + (1 : Int))), (a1.getD (Int.toNat i) default).Files, (a1.getD (Int.toNat i) default).Thick⟩ : Carton))⟩)]) hos_81) (rn + 1) [] [optS 1 ob_81 (List.length (((a1.set (Int.toNat i) (⟨k1, (IntKind.i64.wrap (k1 + (1 : Int))), (IntKind.i64.wrap ((IntKind.i64.wrap (k1 + (1 : Int))) + (1 : Int))), (a1.getD (Int.toNat i) default).Files, (a1.getD (Int.toNat i) default).Thick⟩ : Carton)).getD (Int.toNat i) default).Files)), .int .i64 (IntKind.i64.wrap ((IntKind.i64.wrap ((IntKind.i64.wrap (k1 + (1 : Int))) + (1 : Int))) + (1 : Int)))] ⟨_, _, rfl, .same _, ⟨_, _, rfl, .same _, rfl⟩⟩ bwNil (ok_laws_markIntS hh4 (oq := ob_81) hob_81) rfl (.inl rfl) lt0 ?_)
    rintro _ _ ⟨rfl, rfl⟩
    have hd_81 := hs_81 (⟨((a1.set (Int.toNat i) (⟨k1, (IntKind.i64.wrap (k1 + (1 : Int))), (IntKind.i64.wrap ((IntKind.i64.wrap (k1 + (1 : Int))) + (1 : Int))), (a1.getD (Int.toNat i) default).Files, (a1.getD (Int.toNat i) default).Thick⟩ : Carton)).getD (Int.toNat i) default).Id, ((a1.set (Int.toNat i) (⟨k1, (IntKind.i64.wrap (k1 + (1 : Int))), (IntKind.i64.wrap ((IntKind.i64.wrap (k1 + (1 : Int))) + (1 : Int))), (a1.getD (Int.toNat i) default).Files, (a1.getD (Int.toNat i) default).Thick⟩ : Carton)).getD (Int.toNat i) default).Shelf, ((a1.set (Int.toNat i) (⟨k1, (IntKind.i64.wrap (k1 + (1 : Int))), (IntKind.i64.wrap ((IntKind.i64.wrap (k1 + (1 : Int))) + (1 : Int))), (a1.getD (Int.toNat i) default).Files, (a1.getD (Int.toNat i) default).Thick⟩ : Carton)).getD (Int.toNat i) default).Room, y1.2, ((a1.set (Int.toNat i) (⟨k1, (IntKind.i64.wrap (k1 + (1 : Int))), (IntKind.i64.wrap ((IntKind.i64.wrap (k1 + (1 : Int))) + (1 : Int))), (a1.getD (Int.toNat i) default).Files, (a1.getD (Int.toNat i) default).Thick⟩ : Carton)).getD (Int.toNat i) default).Thick⟩ : Carton) hh5
    refine VO.weakenK (Keeps.sayObj 0 (ys := deepC cellCarton ts_77 ((a1.set (Int.toNat i) (⟨k1, (IntKind.i64.wrap (k1 + (1 : Int))), (IntKind.i64.wrap ((IntKind.i64.wrap (k1 + (1 : Int))) + (1 : Int))), (a1.getD (Int.toNat i) default).Files, (a1.getD (Int.toNat i) default).Thick⟩ : Carton)).set (Int.toNat i) (⟨((a1.set (Int.toNat i) (⟨k1, (IntKind.i64.wrap (k1 + (1 : Int))), (IntKind.i64.wrap ((IntKind.i64.wrap (k1 + (1 : Int))) + (1 : Int))), (a1.getD (Int.toNat i) default).Files, (a1.getD (Int.toNat i) default).Thick⟩ : Carton)).getD (Int.toNat i) default).Id, ((a1.set (Int.toNat i) (⟨k1, (IntKind.i64.wrap (k1 + (1 : Int))), (IntKind.i64.wrap ((IntKind.i64.wrap (k1 + (1 : Int))) + (1 : Int))), (a1.getD (Int.toNat i) default).Files, (a1.getD (Int.toNat i) default).Thick⟩ : Carton)).getD (Int.toNat i) default).Shelf, ((a1.set (Int.toNat i) (⟨k1, (IntKind.i64.wrap (k1 + (1 : Int))), (IntKind.i64.wrap ((IntKind.i64.wrap (k1 + (1 : Int))) + (1 : Int))), (a1.getD (Int.toNat i) default).Files, (a1.getD (Int.toNat i) default).Thick⟩ : Carton)).getD (Int.toNat i) default).Room, y1.2, ((a1.set (Int.toNat i) (⟨k1, (IntKind.i64.wrap (k1 + (1 : Int))), (IntKind.i64.wrap ((IntKind.i64.wrap (k1 + (1 : Int))) + (1 : Int))), (a1.getD (Int.toNat i) default).Files, (a1.getD (Int.toNat i) default).Thick⟩ : Carton)).getD (Int.toNat i) default).Thick⟩ : Carton))) rfl (deepC_same (Deep.length hd_80) (fun _ => rfl))) ?_
    have hu_81 : ((a1.set (Int.toNat i) (⟨k1, (IntKind.i64.wrap (k1 + (1 : Int))), (IntKind.i64.wrap ((IntKind.i64.wrap (k1 + (1 : Int))) + (1 : Int))), (a1.getD (Int.toNat i) default).Files, (a1.getD (Int.toNat i) default).Thick⟩ : Carton)).set (Int.toNat i) (⟨((a1.set (Int.toNat i) (⟨k1, (IntKind.i64.wrap (k1 + (1 : Int))), (IntKind.i64.wrap ((IntKind.i64.wrap (k1 + (1 : Int))) + (1 : Int))), (a1.getD (Int.toNat i) default).Files, (a1.getD (Int.toNat i) default).Thick⟩ : Carton)).getD (Int.toNat i) default).Id, ((a1.set (Int.toNat i) (⟨k1, (IntKind.i64.wrap (k1 + (1 : Int))), (IntKind.i64.wrap ((IntKind.i64.wrap (k1 + (1 : Int))) + (1 : Int))), (a1.getD (Int.toNat i) default).Files, (a1.getD (Int.toNat i) default).Thick⟩ : Carton)).getD (Int.toNat i) default).Shelf, ((a1.set (Int.toNat i) (⟨k1, (IntKind.i64.wrap (k1 + (1 : Int))), (IntKind.i64.wrap ((IntKind.i64.wrap (k1 + (1 : Int))) + (1 : Int))), (a1.getD (Int.toNat i) default).Files, (a1.getD (Int.toNat i) default).Thick⟩ : Carton)).getD (Int.toNat i) default).Room, y1.2, ((a1.set (Int.toNat i) (⟨k1, (IntKind.i64.wrap (k1 + (1 : Int))), (IntKind.i64.wrap ((IntKind.i64.wrap (k1 + (1 : Int))) + (1 : Int))), (a1.getD (Int.toNat i) default).Files, (a1.getD (Int.toNat i) default).Thick⟩ : Carton)).getD (Int.toNat i) default).Thick⟩ : Carton)) = (a1.set (Int.toNat i) (⟨k1, (IntKind.i64.wrap (k1 + (1 : Int))), (IntKind.i64.wrap ((IntKind.i64.wrap (k1 + (1 : Int))) + (1 : Int))), y1.2, (a1.getD (Int.toNat i) default).Thick⟩ : Carton)) := set_upd (fun y_ => (⟨y_.Id, y_.Shelf, y_.Room, y1.2, y_.Thick⟩ : Carton)) (by simpa using natLt hh0.1 hh0.2) rfl
    refine VO.weakenK (Keeps.sayObj 0 (ys := deepC cellCarton ts_77 (a1.set (Int.toNat i) (⟨k1, (IntKind.i64.wrap (k1 + (1 : Int))), (IntKind.i64.wrap ((IntKind.i64.wrap (k1 + (1 : Int))) + (1 : Int))), y1.2, (a1.getD (Int.toNat i) default).Thick⟩ : Carton))) rfl (congrArg (deepC cellCarton ts_77) hu_81)) ?_
    rw [hu_81] at hd_81
    refine VO.weakenK (Keeps.say 0 (y := .sref oq 5 0 (List.length (a1.set (Int.toNat i) (⟨k1, (IntKind.i64.wrap (k1 + (1 : Int))), (IntKind.i64.wrap ((IntKind.i64.wrap (k1 + (1 : Int))) + (1 : Int))), y1.2, (a1.getD (Int.toNat i) default).Thick⟩ : Carton)))) rfl (by simp [optS])) ?_
    refine VO.cons rfl (V1.assign rfl rfl rfl lt0 ?_)
    refine VO.nil ?_
    refine V.keepT 48 [0, 1, 5] [0] (E0 := [(0, .sref oq 5 0 (List.length (a1.set (Int.toNat i) (⟨k1, (IntKind.i64.wrap (k1 + (1 : Int))), (IntKind.i64.wrap ((IntKind.i64.wrap (k1 + (1 : Int))) + (1 : Int))), y1.2, (a1.getD (Int.toNat i) default).Thick⟩ : Carton)))), (1, .int .i64 y1.1), (5, .int .i64 i)]) (A := [(oq, ⟨5, deepC cellCarton ts_77 (a1.set (Int.toNat i) (⟨k1, (IntKind.i64.wrap (k1 + (1 : Int))), (IntKind.i64.wrap ((IntKind.i64.wrap (k1 + (1 : Int))) + (1 : Int))), y1.2, (a1.getD (Int.toNat i) default).Thick⟩ : Carton))⟩)]) (T := (os1_81 ++ (optH 1 ob_81 (List.map encInt y1.2) ++ os2_81))) (H0 := [(oq, ⟨5, deepC cellCarton ts_77 (a1.set (Int.toNat i) (⟨k1, (IntKind.i64.wrap (k1 + (1 : Int))), (IntKind.i64.wrap ((IntKind.i64.wrap (k1 + (1 : Int))) + (1 : Int))), y1.2, (a1.getD (Int.toNat i) default).Thick⟩ : Carton))⟩)]) (T' := (os1_81 ++ (optH 1 ob_81 (List.map encInt y1.2) ++ os2_81))) rfl (⟨_, _, rfl, rfl, ⟨_, _, rfl, rfl, ⟨_, _, rfl, rfl, rfl⟩⟩⟩) rfl (⟨_, _, rfl, rfl, rfl⟩) rfl (List.Sublist.refl _) ?_
    refine V.seq ?_
    replace hm1 := asrt_some hm1; rcases hm1 with ⟨hh6, hm1⟩
    refine V.region ?_
    refine VO.cons rfl (V1.move rfl rfl rfl lt0 ?_)
    refine VO.cons rfl (V1.move rfl rfl rfl lt0 ?_)
    refine VO.cons rfl (V1.move rfl rfl rfl lt0 ?_)
    refine VO.cons rfl (V1.indexSr rfl rfl esz_39 rfl rfl hh6 lt0 ?_)
    refine VO.cons rfl (V1.fieldRef rfl rfl fo_67_4 rfl lt0 ?_)
    refine VO.cons rfl (V1.storeDeepCell (inn := (fun c_ : Carton => List.map encInt c_.Files)) (cell := cellCarton) (ts := ts_77) (xs := (a1.set (Int.toNat i) (⟨k1, (IntKind.i64.wrap (k1 + (1 : Int))), (IntKind.i64.wrap ((IntKind.i64.wrap (k1 + (1 : Int))) + (1 : Int))), y1.2, (a1.getD (Int.toNat i) default).Thick⟩ : Carton))) (k := 0) cokCarton (⟨((a1.set (Int.toNat i) (⟨k1, (IntKind.i64.wrap (k1 + (1 : Int))), (IntKind.i64.wrap ((IntKind.i64.wrap (k1 + (1 : Int))) + (1 : Int))), y1.2, (a1.getD (Int.toNat i) default).Thick⟩ : Carton)).getD (Int.toNat i) default).Id, ((a1.set (Int.toNat i) (⟨k1, (IntKind.i64.wrap (k1 + (1 : Int))), (IntKind.i64.wrap ((IntKind.i64.wrap (k1 + (1 : Int))) + (1 : Int))), y1.2, (a1.getD (Int.toNat i) default).Thick⟩ : Carton)).getD (Int.toNat i) default).Shelf, ((a1.set (Int.toNat i) (⟨k1, (IntKind.i64.wrap (k1 + (1 : Int))), (IntKind.i64.wrap ((IntKind.i64.wrap (k1 + (1 : Int))) + (1 : Int))), y1.2, (a1.getD (Int.toNat i) default).Thick⟩ : Carton)).getD (Int.toNat i) default).Room, ((a1.set (Int.toNat i) (⟨k1, (IntKind.i64.wrap (k1 + (1 : Int))), (IntKind.i64.wrap ((IntKind.i64.wrap (k1 + (1 : Int))) + (1 : Int))), y1.2, (a1.getD (Int.toNat i) default).Thick⟩ : Carton)).getD (Int.toNat i) default).Files, y1.1⟩ : Carton) rfl rfl tyk_3 rfl rfl hd_81 (by simpa using natLt hh6.1 hh6.2) rfl rfl rfl rfl (fun _ => rfl) ?_)
    have hd_83 := Deep.setSame (i := (Int.toNat i)) (⟨((a1.set (Int.toNat i) (⟨k1, (IntKind.i64.wrap (k1 + (1 : Int))), (IntKind.i64.wrap ((IntKind.i64.wrap (k1 + (1 : Int))) + (1 : Int))), y1.2, (a1.getD (Int.toNat i) default).Thick⟩ : Carton)).getD (Int.toNat i) default).Id, ((a1.set (Int.toNat i) (⟨k1, (IntKind.i64.wrap (k1 + (1 : Int))), (IntKind.i64.wrap ((IntKind.i64.wrap (k1 + (1 : Int))) + (1 : Int))), y1.2, (a1.getD (Int.toNat i) default).Thick⟩ : Carton)).getD (Int.toNat i) default).Shelf, ((a1.set (Int.toNat i) (⟨k1, (IntKind.i64.wrap (k1 + (1 : Int))), (IntKind.i64.wrap ((IntKind.i64.wrap (k1 + (1 : Int))) + (1 : Int))), y1.2, (a1.getD (Int.toNat i) default).Thick⟩ : Carton)).getD (Int.toNat i) default).Room, ((a1.set (Int.toNat i) (⟨k1, (IntKind.i64.wrap (k1 + (1 : Int))), (IntKind.i64.wrap ((IntKind.i64.wrap (k1 + (1 : Int))) + (1 : Int))), y1.2, (a1.getD (Int.toNat i) default).Thick⟩ : Carton)).getD (Int.toNat i) default).Files, y1.1⟩ : Carton) rfl hd_81
    have hu_83 : ((a1.set (Int.toNat i) (⟨k1, (IntKind.i64.wrap (k1 + (1 : Int))), (IntKind.i64.wrap ((IntKind.i64.wrap (k1 + (1 : Int))) + (1 : Int))), y1.2, (a1.getD (Int.toNat i) default).Thick⟩ : Carton)).set (Int.toNat i) (⟨((a1.set (Int.toNat i) (⟨k1, (IntKind.i64.wrap (k1 + (1 : Int))), (IntKind.i64.wrap ((IntKind.i64.wrap (k1 + (1 : Int))) + (1 : Int))), y1.2, (a1.getD (Int.toNat i) default).Thick⟩ : Carton)).getD (Int.toNat i) default).Id, ((a1.set (Int.toNat i) (⟨k1, (IntKind.i64.wrap (k1 + (1 : Int))), (IntKind.i64.wrap ((IntKind.i64.wrap (k1 + (1 : Int))) + (1 : Int))), y1.2, (a1.getD (Int.toNat i) default).Thick⟩ : Carton)).getD (Int.toNat i) default).Shelf, ((a1.set (Int.toNat i) (⟨k1, (IntKind.i64.wrap (k1 + (1 : Int))), (IntKind.i64.wrap ((IntKind.i64.wrap (k1 + (1 : Int))) + (1 : Int))), y1.2, (a1.getD (Int.toNat i) default).Thick⟩ : Carton)).getD (Int.toNat i) default).Room, ((a1.set (Int.toNat i) (⟨k1, (IntKind.i64.wrap (k1 + (1 : Int))), (IntKind.i64.wrap ((IntKind.i64.wrap (k1 + (1 : Int))) + (1 : Int))), y1.2, (a1.getD (Int.toNat i) default).Thick⟩ : Carton)).getD (Int.toNat i) default).Files, y1.1⟩ : Carton)) = (a1.set (Int.toNat i) (⟨k1, (IntKind.i64.wrap (k1 + (1 : Int))), (IntKind.i64.wrap ((IntKind.i64.wrap (k1 + (1 : Int))) + (1 : Int))), y1.2, y1.1⟩ : Carton)) := set_upd (fun y_ => (⟨y_.Id, y_.Shelf, y_.Room, y_.Files, y1.1⟩ : Carton)) (by simpa using natLt hh0.1 hh0.2) rfl
    refine VO.weakenK (Keeps.sayObj 0 (ys := deepC cellCarton ts_77 (a1.set (Int.toNat i) (⟨k1, (IntKind.i64.wrap (k1 + (1 : Int))), (IntKind.i64.wrap ((IntKind.i64.wrap (k1 + (1 : Int))) + (1 : Int))), y1.2, y1.1⟩ : Carton))) rfl (congrArg (deepC cellCarton ts_77) hu_83)) ?_
    rw [hu_83] at hd_83
    refine VO.weakenK (Keeps.say 0 (y := .sref oq 5 0 (List.length (a1.set (Int.toNat i) (⟨k1, (IntKind.i64.wrap (k1 + (1 : Int))), (IntKind.i64.wrap ((IntKind.i64.wrap (k1 + (1 : Int))) + (1 : Int))), y1.2, y1.1⟩ : Carton)))) rfl (by simp [optS])) ?_
    refine VO.nil ?_
    refine V.keepT 48 [0, 1, 5] [0] (E0 := [(0, .sref oq 5 0 (List.length (a1.set (Int.toNat i) (⟨k1, (IntKind.i64.wrap (k1 + (1 : Int))), (IntKind.i64.wrap ((IntKind.i64.wrap (k1 + (1 : Int))) + (1 : Int))), y1.2, y1.1⟩ : Carton)))), (1, .int .i64 y1.1), (5, .int .i64 i)]) (A := [(oq, ⟨5, deepC cellCarton ts_77 (a1.set (Int.toNat i) (⟨k1, (IntKind.i64.wrap (k1 + (1 : Int))), (IntKind.i64.wrap ((IntKind.i64.wrap (k1 + (1 : Int))) + (1 : Int))), y1.2, y1.1⟩ : Carton))⟩)]) (T := (os1_81 ++ (optH 1 ob_81 (List.map encInt y1.2) ++ os2_81))) (H0 := [(oq, ⟨5, deepC cellCarton ts_77 (a1.set (Int.toNat i) (⟨k1, (IntKind.i64.wrap (k1 + (1 : Int))), (IntKind.i64.wrap ((IntKind.i64.wrap (k1 + (1 : Int))) + (1 : Int))), y1.2, y1.1⟩ : Carton))⟩)]) (T' := (os1_81 ++ (optH 1 ob_81 (List.map encInt y1.2) ++ os2_81))) rfl (⟨_, _, rfl, rfl, ⟨_, _, rfl, rfl, ⟨_, _, rfl, rfl, rfl⟩⟩⟩) rfl (⟨_, _, rfl, rfl, rfl⟩) rfl (List.Sublist.refl _) ?_
    refine V.region ?_
    refine VO.cons rfl (V1.move rfl rfl rfl lt0 ?_)
    refine VO.cons rfl (V1.int rfl rfl rfl rfl rfl lt0 ?_)
    refine VO.cons rfl (V1.assign rfl rfl rfl lt0 ?_)
    refine VO.nil ?_
    refine V.region ?_
    refine VO.cons rfl (V1.move rfl rfl rfl lt0 ?_)
    refine VO.cons rfl (V1.int rfl rfl rfl rfl rfl lt0 ?_)
    refine VO.cons rfl (V1.assign rfl rfl rfl lt0 ?_)
    refine VO.nil ?_
    exact ⟨(m0, ((a1.set (Int.toNat i) (⟨k1, (IntKind.i64.wrap (k1 + (1 : Int))), (IntKind.i64.wrap ((IntKind.i64.wrap (k1 + (1 : Int))) + (1 : Int))), y1.2, y1.1⟩ : Carton)), (IntKind.i64.wrap (y1.1 + (1 : Int))), (IntKind.i64.wrap (i + (1 : Int)))), (ts_77, (os1_81 ++ (optH 1 ob_81 (List.map encInt y1.2) ++ os2_81)))), ⟨hl1 _ (Option.some.inj hm1).symm, hd_83⟩, Nat.lt_succ_self _, Keeps.mkT (A := [(oq, ⟨5, deepC cellCarton ts_77 (a1.set (Int.toNat i) (⟨k1, (IntKind.i64.wrap (k1 + (1 : Int))), (IntKind.i64.wrap ((IntKind.i64.wrap (k1 + (1 : Int))) + (1 : Int))), y1.2, y1.1⟩ : Carton))⟩)]) (T := (os1_81 ++ (optH 1 ob_81 (List.map encInt y1.2) ++ os2_81))) (T' := (os1_81 ++ (optH 1 ob_81 (List.map encInt y1.2) ++ os2_81))) (H := [(oq, ⟨5, deepC cellCarton ts_77 (a1.set (Int.toNat i) (⟨k1, (IntKind.i64.wrap (k1 + (1 : Int))), (IntKind.i64.wrap ((IntKind.i64.wrap (k1 + (1 : Int))) + (1 : Int))), y1.2, y1.1⟩ : Carton))⟩)]) (ks := [0]) rfl (by exact ⟨(someSref (by simp)), rfl, rfl, trivial⟩) rfl (by exact (⟨_, _, rfl, rfl, rfl⟩)) rfl (List.Sublist.refl _)⟩
   ·
    replace hm1 := cond_f hc0 hm1
    refine V.exit ?_
    obtain rfl := hr1 _ (Option.some.inj hm1).symm
    exact ⟨((a1, k1), (ts_77, os_77)), ⟨rfl, hd_77⟩, Keeps.mkT (A := [(oq, ⟨5, deepC cellCarton ts_77 a1⟩)]) (T := os_77) (T' := os_77) (H := [(oq, ⟨5, deepC cellCarton ts_77 a1⟩)]) (ks := [0]) rfl (by exact ⟨(someSref (by simp)), rfl, trivial⟩) rfl (by exact (⟨_, _, rfl, rfl, rfl⟩)) rfl (List.Sublist.refl _)⟩
  ·
   rintro ⟨⟨a0, k0⟩, ⟨ts_76, os_76⟩⟩ ⟨rfl, hd_76⟩
   try dsimp only at hm0
   refine V.seq ?_
   refine V.region ?_
   refine VO.cons rfl (V1.move rfl rfl rfl lt0 ?_)
   refine VO.cons rfl (V1.assign rfl rfl rfl lt0 ?_)
   refine VO.nil ?_
   refine V.keepT 48 [4] [0] (E0 := [(4, .int .i64 k0)]) (A := [(oq, ⟨5, deepC cellCarton ts_76 a0⟩)]) (T := os_76) (H0 := [(oq, ⟨5, deepC cellCarton ts_76 a0⟩)]) (T' := os_76) rfl (⟨_, _, rfl, rfl, rfl⟩) rfl (⟨_, _, rfl, rfl, rfl⟩) rfl (List.Sublist.refl _) ?_
   refine V.ret ?_
   obtain rfl := Option.some.inj hm0
   exact ⟨_, _, ⟨_, _, rfl, rfl, rfl⟩, List.Sublist.refl _, ts_76, os_76, hd_76, rfl, rfl⟩

theorem ok_laws_heldIntS {ρ0 rn : Nat} {a : List Int} {k : Int} {r : Int} (h : M.laws_heldIntS a k = some r) : Does Try.prog 28 [.vl ρ0 1 (List.map encInt a), .int .i64 k] [] rn (fun x H => x = .int .i64 r ∧ H = []) := by
 have hm0 := h; clear h; unfold M.laws_heldIntS at hm0
 try dsimp only at hm0
 refine Does.intro (N := 21) Try.func28 rfl rfl rfl rfl ?_
 intro w0 S0
 refine V.seq ?_
 refine V.region ?_
 refine VO.cons rfl (V1.assign rfl rfl rfl lt0 ?_)
 refine VO.nil ?_
 refine V.seq ?_
 refine V.seq ?_
 refine V.region ?_
 refine VO.cons rfl (V1.assign rfl rfl rfl lt0 ?_)
 refine VO.nil ?_
 replace hm0 := bindO hm0; rcases hm0 with ⟨e0, he1, hm0⟩
 refine V.cutT (D := (Int) × (Unit)) (fun ⟨k0, _⟩ => ⟨21, [(1, .int .i64 k0)], []⟩) (fun ⟨k0, _⟩ => (.inl k0 = e0)) ?_ ?_
 ·
  refine V.block ?_
  refine V.keep 21 [1, 5, 0] [] (E0 := [(1, .int .i64 k), (5, .int .i64 (0 : Int)), (0, .vl ρ0 1 (List.map encInt a))]) (H0 := []) rfl (⟨_, _, rfl, rfl, ⟨_, _, rfl, rfl, ⟨_, _, rfl, rfl, rfl⟩⟩⟩) (rfl) rfl ?_
  refine V.loopE (D := Nat × (Int × Int) × (Unit)) (fun ⟨n0, ⟨k1, i⟩, _⟩ => [(1, .int .i64 k1), (5, .int .i64 i)]) (fun ⟨n0, ⟨k1, i⟩, _⟩ => []) (fun ⟨n0, ⟨k1, i⟩, _⟩ => loopO (M.laws_heldIntS_l0 a) n0 (k1, i) = some e0) (fun ⟨n0, _, _⟩ => n0) (rounds, (k, (0 : Int)), ()) rfl he1 ?_
  rintro ⟨n0, ⟨k1, i⟩, _⟩ hP0
  obtain ⟨m0, y0, rfl, hm1, hl1, hr1⟩ := loop_head hP0
  unfold M.laws_heldIntS_l0 at hm1; dsimp only at hm1
  show V _ _ _ ⟨21, [(1, .int .i64 k1), (5, .int .i64 i), (0, .vl ρ0 1 (List.map encInt a))], []⟩
  refine V.seq ?_
  refine V.seq ?_
  refine V.region ?_
  refine VO.cons rfl (V1.move rfl rfl rfl lt0 ?_)
  refine VO.cons rfl (V1.move rfl rfl rfl lt0 ?_)
  refine VO.cons rfl (V1.lenMap rfl rfl rfl rfl rfl rfl isl_36 lt0 ?_)
  refine VO.cons rfl (V1.int rfl rfl rfl rfl rfl lt0 ?_)
  refine VO.nil ?_
  refine V.cond rfl (fun hc0 => ?_) (fun hc0 => ?_)
  ·
   replace hm1 := cond_t hc0 hm1
   refine V.skip ?_
   refine V.keep 21 [0, 1, 5] [] (E0 := [(0, .vl ρ0 1 (List.map encInt a)), (1, .int .i64 k1), (5, .int .i64 i)]) (H0 := []) rfl (⟨_, _, rfl, rfl, ⟨_, _, rfl, rfl, ⟨_, _, rfl, rfl, rfl⟩⟩⟩) (rfl) rfl ?_
   refine V.seq ?_
   refine V.block ?_
   refine V.seq ?_
   refine V.seq ?_
   replace hm1 := asrt_some hm1; rcases hm1 with ⟨hh0, hm1⟩
   refine V.region ?_
   refine VO.cons rfl (V1.move rfl rfl rfl lt0 ?_)
   refine VO.cons rfl (V1.move rfl rfl rfl lt0 ?_)
   refine VO.cons rfl (V1.indexI rfl rfl esz_36 rfl rfl hh0 lt0 ?_)
   refine VO.cons rfl (V1.loadPin rfl rfl tyk_3 rfl rfl lt0 ?_)
   refine VO.cons rfl (V1.move rfl rfl rfl lt0 ?_)
   refine VO.cons rfl (V1.int rfl rfl rfl rfl rfl lt0 ?_)
   refine VO.nil ?_
   refine V.keep 21 [0, 1, 5, 17] [] (E0 := [(0, .vl ρ0 1 (List.map encInt a)), (1, .int .i64 k1), (5, .int .i64 i), (17, .bool ((a.getD (Int.toNat i) default) != k1))]) (H0 := []) rfl (⟨_, _, rfl, rfl, ⟨_, _, rfl, rfl, ⟨_, _, rfl, rfl, ⟨_, _, rfl, rfl, rfl⟩⟩⟩⟩) (rfl) rfl ?_
   refine V.cond rfl (fun hc1 => ?_) (fun hc1 => ?_)
   ·
    replace hm1 := cond_t hc1 hm1
    refine V.seq ?_
    refine V.region ?_
    refine VO.cons rfl (V1.assign rfl rfl rfl lt0 ?_)
    refine VO.nil ?_
    refine V.ret ?_
    obtain rfl := hr1 _ (Option.some.inj hm1).symm
    change some _ = some _ at hm0
    obtain rfl := Option.some.inj hm0
    exact ⟨_, [], ⟨_, _, rfl, rfl, rfl⟩, List.nil_sublist _, rfl, rfl⟩
   ·
    replace hm1 := cond_f hc1 hm1
    refine V.skip ?_
    refine V.region ?_
    refine VO.cons rfl (V1.move rfl rfl rfl lt0 ?_)
    refine VO.cons rfl (V1.int rfl rfl rfl rfl rfl lt0 ?_)
    refine VO.cons rfl (V1.assign rfl rfl rfl lt0 ?_)
    refine VO.nil ?_
    refine V.region ?_
    refine VO.cons rfl (V1.move rfl rfl rfl lt0 ?_)
    refine VO.cons rfl (V1.int rfl rfl rfl rfl rfl lt0 ?_)
    refine VO.cons rfl (V1.assign rfl rfl rfl lt0 ?_)
    refine VO.nil ?_
    exact ⟨(m0, ((IntKind.i64.wrap (k1 + (1 : Int))), (IntKind.i64.wrap (i + (1 : Int)))), ()), hl1 _ (Option.some.inj hm1).symm, Nat.lt_succ_self _, Keeps.mk (ks := []) rfl ⟨rfl, rfl, rfl, trivial⟩ (rfl) rfl⟩
  ·
   replace hm1 := cond_f hc0 hm1
   refine V.exit ?_
   obtain rfl := hr1 _ (Option.some.inj hm1).symm
   exact ⟨(k1, ()), rfl, Keeps.mk (ks := []) rfl ⟨rfl, trivial⟩ (rfl) rfl⟩
 ·
  rintro ⟨k0, _⟩ rfl
  try dsimp only at hm0
  refine V.seq ?_
  refine V.region ?_
  refine VO.cons rfl (V1.move rfl rfl rfl lt0 ?_)
  refine VO.cons rfl (V1.assign rfl rfl rfl lt0 ?_)
  refine VO.nil ?_
  refine V.ret ?_
  obtain rfl := Option.some.inj hm0
  exact ⟨_, [], ⟨_, _, rfl, rfl, rfl⟩, List.nil_sublist _, rfl, rfl⟩

theorem ok_laws_heldCartonS {ρ0 σ0 rn : Nat} {a : List Carton} {k : Int} {r : Int} (h : M.laws_heldCartonS a k = some r) : Does Try.prog 33 [.vl ρ0 5 (List.map (encCarton σ0) a), .int .i64 k] [] rn (fun x H => x = .int .i64 r ∧ H = []) := by
 have hm0 := h; clear h; unfold M.laws_heldCartonS at hm0
 try dsimp only at hm0
 refine Does.intro (N := 58) Try.func33 rfl rfl rfl rfl ?_
 intro w0 S0
 refine V.seq ?_
 refine V.region ?_
 refine VO.cons rfl (V1.assign rfl rfl rfl lt0 ?_)
 refine VO.nil ?_
 refine V.seq ?_
 refine V.seq ?_
 refine V.region ?_
 refine VO.cons rfl (V1.assign rfl rfl rfl lt0 ?_)
 refine VO.nil ?_
 replace hm0 := bindO hm0; rcases hm0 with ⟨e0, he1, hm0⟩
 refine V.cutT (D := (Int) × (Unit)) (fun ⟨k0, _⟩ => ⟨58, [(1, .int .i64 k0)], []⟩) (fun ⟨k0, _⟩ => (.inl k0 = e0)) ?_ ?_
 ·
  refine V.block ?_
  refine V.keep 58 [1, 5, 0] [] (E0 := [(1, .int .i64 k), (5, .int .i64 (0 : Int)), (0, .vl ρ0 5 (List.map (encCarton σ0) a))]) (H0 := []) rfl (⟨_, _, rfl, rfl, ⟨_, _, rfl, rfl, ⟨_, _, rfl, rfl, rfl⟩⟩⟩) (rfl) rfl ?_
  refine V.loopE (D := Nat × (Int × Int) × (Unit)) (fun ⟨n0, ⟨k1, i⟩, _⟩ => [(1, .int .i64 k1), (5, .int .i64 i)]) (fun ⟨n0, ⟨k1, i⟩, _⟩ => []) (fun ⟨n0, ⟨k1, i⟩, _⟩ => loopO (M.laws_heldCartonS_l0 a) n0 (k1, i) = some e0) (fun ⟨n0, _, _⟩ => n0) (rounds, (k, (0 : Int)), ()) rfl he1 ?_
  rintro ⟨n0, ⟨k1, i⟩, _⟩ hP0
  obtain ⟨m0, y0, rfl, hm1, hl1, hr1⟩ := loop_head hP0
  unfold M.laws_heldCartonS_l0 at hm1; dsimp only at hm1
  show V _ _ _ ⟨58, [(1, .int .i64 k1), (5, .int .i64 i), (0, .vl ρ0 5 (List.map (encCarton σ0) a))], []⟩
  refine V.seq ?_
  refine V.seq ?_
  refine V.region ?_
  refine VO.cons rfl (V1.move rfl rfl rfl lt0 ?_)
  refine VO.cons rfl (V1.move rfl rfl rfl lt0 ?_)
  refine VO.cons rfl (V1.lenMap rfl rfl rfl rfl rfl rfl isl_39 lt0 ?_)
  refine VO.cons rfl (V1.int rfl rfl rfl rfl rfl lt0 ?_)
  refine VO.nil ?_
  refine V.cond rfl (fun hc0 => ?_) (fun hc0 => ?_)
  ·
   replace hm1 := cond_t hc0 hm1
   refine V.skip ?_
   refine V.keep 58 [0, 1, 5] [] (E0 := [(0, .vl ρ0 5 (List.map (encCarton σ0) a)), (1, .int .i64 k1), (5, .int .i64 i)]) (H0 := []) rfl (⟨_, _, rfl, rfl, ⟨_, _, rfl, rfl, ⟨_, _, rfl, rfl, rfl⟩⟩⟩) (rfl) rfl ?_
   refine V.seq ?_
   refine V.block ?_
   refine V.seq ?_
   refine V.seq ?_
   replace hm1 := asrt_some hm1; rcases hm1 with ⟨hh0, hm1⟩
   refine V.region ?_
   refine VO.cons rfl (V1.move rfl rfl rfl lt0 ?_)
   refine VO.cons rfl (V1.move rfl rfl rfl lt0 ?_)
   refine VO.cons rfl (V1.indexI rfl rfl esz_39 rfl rfl hh0 lt0 ?_)
   refine VO.cons rfl (V1.fieldPin rfl rfl fo_67_0 rfl lt0 ?_)
   refine VO.cons rfl (V1.loadPin rfl rfl tyk_3 rfl rfl lt0 ?_)
   refine VO.cons rfl (V1.move rfl rfl rfl lt0 ?_)
   refine VO.cons rfl (V1.int rfl rfl rfl rfl rfl lt0 ?_)
   refine VO.nil ?_
   refine V.keep 58 [0, 1, 5, 18] [] (E0 := [(0, .vl ρ0 5 (List.map (encCarton σ0) a)), (1, .int .i64 k1), (5, .int .i64 i), (18, .bool (((a.getD (Int.toNat i) default).Id) != k1))]) (H0 := []) rfl (⟨_, _, rfl, rfl, ⟨_, _, rfl, rfl, ⟨_, _, rfl, rfl, ⟨_, _, rfl, rfl, rfl⟩⟩⟩⟩) (rfl) rfl ?_
   refine V.cond rfl (fun hc1 => ?_) (fun hc1 => ?_)
   ·
    replace hm1 := cond_t hc1 hm1
    refine V.seq ?_
    refine V.region ?_
    refine VO.cons rfl (V1.assign rfl rfl rfl lt0 ?_)
    refine VO.nil ?_
    refine V.ret ?_
    obtain rfl := hr1 _ (Option.some.inj hm1).symm
    change some _ = some _ at hm0
    obtain rfl := Option.some.inj hm0
    exact ⟨_, [], ⟨_, _, rfl, rfl, rfl⟩, List.nil_sublist _, rfl, rfl⟩
   ·
    replace hm1 := cond_f hc1 hm1
    refine V.skip ?_
    refine V.seq ?_
    refine V.region ?_
    refine VO.cons rfl (V1.move rfl rfl rfl lt0 ?_)
    refine VO.cons rfl (V1.int rfl rfl rfl rfl rfl lt0 ?_)
    refine VO.cons rfl (V1.assign rfl rfl rfl lt0 ?_)
    refine VO.nil ?_
    refine V.seq ?_
    refine V.seq ?_
    replace hm1 := asrt_some hm1; rcases hm1 with ⟨hh1, hm1⟩
    refine V.region ?_
    refine VO.cons rfl (V1.move rfl rfl rfl lt0 ?_)
    refine VO.cons rfl (V1.move rfl rfl rfl lt0 ?_)
    refine VO.cons rfl (V1.indexI rfl rfl esz_39 rfl rfl hh1 lt0 ?_)
    refine VO.cons rfl (V1.fieldPin rfl rfl fo_67_1 rfl lt0 ?_)
    refine VO.cons rfl (V1.loadPin rfl rfl tyk_3 rfl rfl lt0 ?_)
    refine VO.cons rfl (V1.move rfl rfl rfl lt0 ?_)
    refine VO.cons rfl (V1.int rfl rfl rfl rfl rfl lt0 ?_)
    refine VO.nil ?_
    refine V.keep 58 [0, 1, 5, 27] [] (E0 := [(0, .vl ρ0 5 (List.map (encCarton σ0) a)), (1, .int .i64 (IntKind.i64.wrap (k1 + (1 : Int)))), (5, .int .i64 i), (27, .bool (((a.getD (Int.toNat i) default).Shelf) != (IntKind.i64.wrap (k1 + (1 : Int)))))]) (H0 := []) rfl (⟨_, _, rfl, rfl, ⟨_, _, rfl, rfl, ⟨_, _, rfl, rfl, ⟨_, _, rfl, rfl, rfl⟩⟩⟩⟩) (rfl) rfl ?_
    refine V.cond rfl (fun hc2 => ?_) (fun hc2 => ?_)
    ·
     replace hm1 := cond_t hc2 hm1
     refine V.seq ?_
     refine V.region ?_
     refine VO.cons rfl (V1.assign rfl rfl rfl lt0 ?_)
     refine VO.nil ?_
     refine V.ret ?_
     obtain rfl := hr1 _ (Option.some.inj hm1).symm
     change some _ = some _ at hm0
     obtain rfl := Option.some.inj hm0
     exact ⟨_, [], ⟨_, _, rfl, rfl, rfl⟩, List.nil_sublist _, rfl, rfl⟩
    ·
     replace hm1 := cond_f hc2 hm1
     refine V.skip ?_
     refine V.seq ?_
     refine V.region ?_
     refine VO.cons rfl (V1.move rfl rfl rfl lt0 ?_)
     refine VO.cons rfl (V1.int rfl rfl rfl rfl rfl lt0 ?_)
     refine VO.cons rfl (V1.assign rfl rfl rfl lt0 ?_)
     refine VO.nil ?_
     refine V.seq ?_
     refine V.seq ?_
     replace hm1 := asrt_some hm1; rcases hm1 with ⟨hh2, hm1⟩
     refine V.region ?_
     refine VO.cons rfl (V1.move rfl rfl rfl lt0 ?_)
     refine VO.cons rfl (V1.move rfl rfl rfl lt0 ?_)
     refine VO.cons rfl (V1.indexI rfl rfl esz_39 rfl rfl hh2 lt0 ?_)
     refine VO.cons rfl (V1.fieldPin rfl rfl fo_67_2 rfl lt0 ?_)
     refine VO.cons rfl (V1.loadPin rfl rfl tyk_3 rfl rfl lt0 ?_)
     refine VO.cons rfl (V1.move rfl rfl rfl lt0 ?_)
     refine VO.cons rfl (V1.int rfl rfl rfl rfl rfl lt0 ?_)
     refine VO.nil ?_
     refine V.keep 58 [0, 1, 5, 36] [] (E0 := [(0, .vl ρ0 5 (List.map (encCarton σ0) a)), (1, .int .i64 (IntKind.i64.wrap ((IntKind.i64.wrap (k1 + (1 : Int))) + (1 : Int)))), (5, .int .i64 i), (36, .bool (((a.getD (Int.toNat i) default).Room) != (IntKind.i64.wrap ((IntKind.i64.wrap (k1 + (1 : Int))) + (1 : Int)))))]) (H0 := []) rfl (⟨_, _, rfl, rfl, ⟨_, _, rfl, rfl, ⟨_, _, rfl, rfl, ⟨_, _, rfl, rfl, rfl⟩⟩⟩⟩) (rfl) rfl ?_
     refine V.cond rfl (fun hc3 => ?_) (fun hc3 => ?_)
     ·
      replace hm1 := cond_t hc3 hm1
      refine V.seq ?_
      refine V.region ?_
      refine VO.cons rfl (V1.assign rfl rfl rfl lt0 ?_)
      refine VO.nil ?_
      refine V.ret ?_
      obtain rfl := hr1 _ (Option.some.inj hm1).symm
      change some _ = some _ at hm0
      obtain rfl := Option.some.inj hm0
      exact ⟨_, [], ⟨_, _, rfl, rfl, rfl⟩, List.nil_sublist _, rfl, rfl⟩
     ·
      replace hm1 := cond_f hc3 hm1
      refine V.skip ?_
      refine V.seq ?_
      refine V.region ?_
      refine VO.cons rfl (V1.move rfl rfl rfl lt0 ?_)
      refine VO.cons rfl (V1.int rfl rfl rfl rfl rfl lt0 ?_)
      refine VO.cons rfl (V1.assign rfl rfl rfl lt0 ?_)
      refine VO.nil ?_
      refine V.seq ?_
      replace hm1 := asrt_some hm1; rcases hm1 with ⟨hh3, hm1⟩
      replace hm1 := bindO hm1; rcases hm1 with ⟨y1, hh4, hm1⟩
      refine V.region ?_
      refine VO.cons rfl (V1.move rfl rfl rfl lt0 ?_)
      refine VO.cons rfl (V1.move rfl rfl rfl lt0 ?_)
      refine VO.cons rfl (V1.indexI rfl rfl esz_39 rfl rfl hh3 lt0 ?_)
      refine VO.cons rfl (V1.fieldPin rfl rfl fo_67_3 rfl lt0 ?_)
      refine VO.cons rfl (V1.loadPin rfl rfl tyk_36 rfl rfl lt0 ?_)
      refine VO.cons rfl (V1.move rfl rfl rfl lt0 ?_)
      refine VO.cons rfl (V1.call rfl rfl rfl cok_28 rfl (ok_laws_heldIntS hh4) rfl lt0 ?_)
      rintro _ _ ⟨rfl, rfl⟩
      refine VO.cons rfl (V1.assign rfl rfl rfl lt0 ?_)
      refine VO.nil ?_
      refine V.keep 58 [0, 1, 5] [] (E0 := [(0, .vl ρ0 5 (List.map (encCarton σ0) a)), (1, .int .i64 y1), (5, .int .i64 i)]) (H0 := []) rfl (⟨_, _, rfl, rfl, ⟨_, _, rfl, rfl, ⟨_, _, rfl, rfl, rfl⟩⟩⟩) (rfl) rfl ?_
      refine V.seq ?_
      refine V.seq ?_
      refine V.region ?_
      refine VO.cons rfl (V1.move rfl rfl rfl lt0 ?_)
      refine VO.cons rfl (V1.int rfl rfl rfl rfl rfl lt0 ?_)
      refine VO.nil ?_
      refine V.cond rfl (fun hc4 => ?_) (fun hc4 => ?_)
      ·
       replace hm1 := cond_t hc4 hm1
       refine V.seq ?_
       refine V.region ?_
       refine VO.cons rfl (V1.assign rfl rfl rfl lt0 ?_)
       refine VO.nil ?_
       refine V.ret ?_
       obtain rfl := hr1 _ (Option.some.inj hm1).symm
       change some _ = some _ at hm0
       obtain rfl := Option.some.inj hm0
       exact ⟨_, [], ⟨_, _, rfl, rfl, rfl⟩, List.nil_sublist _, rfl, rfl⟩
      ·
       replace hm1 := cond_f hc4 hm1
       refine V.skip ?_
       refine V.seq ?_
       refine V.seq ?_
       replace hm1 := asrt_some hm1; rcases hm1 with ⟨hh5, hm1⟩
       refine V.region ?_
       refine VO.cons rfl (V1.move rfl rfl rfl lt0 ?_)
       refine VO.cons rfl (V1.move rfl rfl rfl lt0 ?_)
       refine VO.cons rfl (V1.indexI rfl rfl esz_39 rfl rfl hh5 lt0 ?_)
       refine VO.cons rfl (V1.fieldPin rfl rfl fo_67_4 rfl lt0 ?_)
       refine VO.cons rfl (V1.loadPin rfl rfl tyk_3 rfl rfl lt0 ?_)
       refine VO.cons rfl (V1.move rfl rfl rfl lt0 ?_)
       refine VO.cons rfl (V1.int rfl rfl rfl rfl rfl lt0 ?_)
       refine VO.nil ?_
       refine V.keep 58 [0, 1, 5, 54] [] (E0 := [(0, .vl ρ0 5 (List.map (encCarton σ0) a)), (1, .int .i64 y1), (5, .int .i64 i), (54, .bool (((a.getD (Int.toNat i) default).Thick) != y1))]) (H0 := []) rfl (⟨_, _, rfl, rfl, ⟨_, _, rfl, rfl, ⟨_, _, rfl, rfl, ⟨_, _, rfl, rfl, rfl⟩⟩⟩⟩) (rfl) rfl ?_
       refine V.cond rfl (fun hc5 => ?_) (fun hc5 => ?_)
       ·
        replace hm1 := cond_t hc5 hm1
        refine V.seq ?_
        refine V.region ?_
        refine VO.cons rfl (V1.assign rfl rfl rfl lt0 ?_)
        refine VO.nil ?_
        refine V.ret ?_
        obtain rfl := hr1 _ (Option.some.inj hm1).symm
        change some _ = some _ at hm0
        obtain rfl := Option.some.inj hm0
        exact ⟨_, [], ⟨_, _, rfl, rfl, rfl⟩, List.nil_sublist _, rfl, rfl⟩
       ·
        replace hm1 := cond_f hc5 hm1
        refine V.skip ?_
        refine V.region ?_
        refine VO.cons rfl (V1.move rfl rfl rfl lt0 ?_)
        refine VO.cons rfl (V1.int rfl rfl rfl rfl rfl lt0 ?_)
        refine VO.cons rfl (V1.assign rfl rfl rfl lt0 ?_)
        refine VO.nil ?_
        refine V.region ?_
        refine VO.cons rfl (V1.move rfl rfl rfl lt0 ?_)
        refine VO.cons rfl (V1.int rfl rfl rfl rfl rfl lt0 ?_)
        refine VO.cons rfl (V1.assign rfl rfl rfl lt0 ?_)
        refine VO.nil ?_
        exact ⟨(m0, ((IntKind.i64.wrap (y1 + (1 : Int))), (IntKind.i64.wrap (i + (1 : Int)))), ()), hl1 _ (Option.some.inj hm1).symm, Nat.lt_succ_self _, Keeps.mk (ks := []) rfl ⟨rfl, rfl, rfl, trivial⟩ (rfl) rfl⟩
  ·
   replace hm1 := cond_f hc0 hm1
   refine V.exit ?_
   obtain rfl := hr1 _ (Option.some.inj hm1).symm
   exact ⟨(k1, ()), rfl, Keeps.mk (ks := []) rfl ⟨rfl, trivial⟩ (rfl) rfl⟩
 ·
  rintro ⟨k0, _⟩ rfl
  try dsimp only at hm0
  refine V.seq ?_
  refine V.region ?_
  refine VO.cons rfl (V1.move rfl rfl rfl lt0 ?_)
  refine VO.cons rfl (V1.assign rfl rfl rfl lt0 ?_)
  refine VO.nil ?_
  refine V.ret ?_
  obtain rfl := Option.some.inj hm0
  exact ⟨_, [], ⟨_, _, rfl, rfl, rfl⟩, List.nil_sublist _, rfl, rfl⟩

theorem ok_laws_FnExactMoveCarton {ρ0 σ0 rn : Nat} {aList : List Carton} {aId : Int} {aRoom : Int} {aShelf : Int} {r : Bool} (h : M.laws_FnExactMoveCarton aList aId aRoom aShelf = some r) : Does Try.prog 6 [.vl ρ0 5 (List.map (encCarton σ0) aList), .int .i64 aId, .int .i64 aRoom, .int .i64 aShelf] [] rn (fun x H => x = .bool r ∧ H = []) := by
 have hm0 := h; clear h; unfold M.laws_FnExactMoveCarton at hm0
 try dsimp only at hm0
 refine Does.intro (N := 111) Try.func6 rfl rfl rfl rfl ?_
 intro w0 S0
 refine V.seq ?_
 refine V.region ?_
 refine VO.cons rfl (V1.assign rfl rfl rfl lt0 ?_)
 refine VO.nil ?_
 refine V.seq ?_
 refine V.region ?_
 refine VO.cons rfl (V1.assign rfl rfl rfl lt0 ?_)
 refine VO.nil ?_
 refine V.seq ?_
 replace hm0 := bindO hm0; rcases hm0 with ⟨y0, hh0, hm0⟩
 refine V.region ?_
 refine VO.cons rfl (V1.move rfl rfl rfl lt0 ?_)
 refine VO.cons rfl (V1.move rfl rfl rfl lt0 ?_)
 refine VO.cons rfl (V1.call rfl rfl rfl cok_20 rfl (ok_laws_szCartonS hh0) rfl lt0 ?_)
 rintro _ _ ⟨rfl, rfl⟩
 refine VO.cons rfl (V1.assign rfl rfl rfl lt0 ?_)
 refine VO.nil ?_
 refine V.keep 111 [0, 1, 2, 3, 9] [] (E0 := [(0, .vl ρ0 5 (List.map (encCarton σ0) aList)), (1, .int .i64 aId), (2, .int .i64 aRoom), (3, .int .i64 aShelf), (9, .int .i64 y0)]) (H0 := []) rfl (⟨_, _, rfl, rfl, ⟨_, _, rfl, rfl, ⟨_, _, rfl, rfl, ⟨_, _, rfl, rfl, ⟨_, _, rfl, rfl, rfl⟩⟩⟩⟩⟩) (rfl) rfl ?_
 refine V.seq ?_
 refine V.seq ?_
 refine V.region ?_
 refine VO.cons rfl (V1.move rfl rfl rfl lt0 ?_)
 refine VO.cons rfl (V1.int rfl rfl rfl rfl rfl lt0 ?_)
 refine VO.nil ?_
 refine V.cond rfl (fun hc0 => ?_) (fun hc0 => ?_)
 ·
  replace hm0 := cond_t hc0 hm0
  refine V.seq ?_
  refine V.region ?_
  refine VO.cons rfl (V1.assign rfl rfl rfl lt0 ?_)
  refine VO.nil ?_
  refine V.ret ?_
  obtain rfl := Option.some.inj hm0
  exact ⟨_, [], ⟨_, _, rfl, rfl, rfl⟩, List.nil_sublist _, rfl, rfl⟩
 ·
  replace hm0 := cond_f hc0 hm0
  refine V.skip ?_
  refine V.seq ?_
  replace hm0 := bindO hm0; rcases hm0 with ⟨y1, hh1, hm0⟩
  replace hm0 := bindO hm0; rcases hm0 with ⟨y2, hh2, hm0⟩
  refine V.region ?_
  refine VO.cons rfl (V1.move rfl rfl rfl lt0 ?_)
  refine VO.cons rfl (V1.call rfl rfl rfl cok_22 rfl (ok_laws_toCartonS hh1) rfl lt0 ?_)
  rintro _ _ ⟨b0, rfl, rfl⟩
  refine VO.weakenK (Keeps.freezeG 0 rn [(27, .vl rn 5 (List.map (encCarton rn) y1))] ([]) (f := (encCarton rn)) (l := y1) rfl (fun _ => rfl) ⟨⟨_, rfl, .here⟩, trivial⟩ rfl rfl iNil) ?_
  refine VO.cons rfl (V1.move rfl rfl rfl lt0 ?_)
  refine VO.cons rfl (V1.move rfl rfl rfl lt0 ?_)
  refine VO.cons rfl (V1.move rfl rfl rfl lt0 ?_)
  refine VO.cons rfl (V1.call rfl rfl rfl cok_31 rfl (ok_spec_MoveCarton hh2) rfl lt0 ?_)
  rintro _ _ ⟨b1, rfl, rfl⟩
  refine VO.cons rfl (V1.move rfl rfl rfl lt0 ?_)
  refine VO.cons rfl (V1.extract rfl rfl rfl rfl lt0 ?_)
  refine VO.weakenK (Keeps.freezeG 0 rn [(32, .vl rn 5 (List.map (encCarton rn) y2.1))] ([]) (f := (encCarton rn)) (l := y2.1) rfl (fun _ => rfl) ⟨⟨_, rfl, .here⟩, trivial⟩ rfl rfl iNil) ?_
  refine VO.cons rfl (V1.extract rfl rfl rfl rfl lt0 ?_)
  refine VO.cons rfl (V1.assign rfl rfl rfl lt0 ?_)
  refine VO.cons rfl (V1.assign rfl rfl rfl lt0 ?_)
  refine VO.nil ?_
  refine V.keep 111 [0, 1, 2, 3, 10, 11] [] (E0 := [(0, .vl ρ0 5 (List.map (encCarton σ0) aList)), (1, .int .i64 aId), (2, .int .i64 aRoom), (3, .int .i64 aShelf), (10, .vl rn 5 (List.map (encCarton rn) y2.1)), (11, .bool y2.2)]) (H0 := []) rfl (⟨_, _, rfl, rfl, ⟨_, _, rfl, rfl, ⟨_, _, rfl, rfl, ⟨_, _, rfl, rfl, ⟨_, _, rfl, rfl, ⟨_, _, rfl, rfl, rfl⟩⟩⟩⟩⟩⟩) (rfl) rfl ?_
  refine V.seq ?_
  replace hm0 := bindO hm0; rcases hm0 with ⟨y3, hh3, hm0⟩
  refine V.region ?_
  refine VO.cons rfl (V1.move rfl rfl rfl lt0 ?_)
  refine VO.cons rfl (V1.permK (V1.call rfl rfl rfl cok_22 rfl (okd_laws_toCartonS hh3) rfl lt0 ?_))
  rintro _ _ ⟨b2, ts_65, os_65, hd_65, rfl, rfl⟩
  refine ⟨_, ?_, Keeps.perm (([(b2, ⟨5, deepC cellCarton ts_65 y3⟩)] : List (Nat × Obj')) ++ os_65) (permDeep1 (p := (b2, ⟨5, deepC cellCarton ts_65 y3⟩)) (os := os_65) (A := []))⟩
  refine VO.cons rfl (V1.assign rfl rfl rfl lt0 ?_)
  refine VO.nil ?_
  refine V.seq ?_
  replace hm0 := bindO hm0; rcases hm0 with ⟨y4, hh4, hm0⟩
  refine V.region ?_
  refine VO.cons rfl (V1.move rfl rfl rfl lt0 ?_)
  refine VO.cons rfl (V1.move rfl rfl rfl lt0 ?_)
  refine VO.cons rfl (V1.move rfl rfl rfl lt0 ?_)
  refine VO.cons rfl (V1.move rfl rfl rfl lt0 ?_)
  refine VO.cons rfl (V1.permK (V1.callL (rn + 1) ([b2] ++ List.map Prod.fst os_65) [.vl (rn + 1) 5 (List.map (encCarton (rn + 1)) y3), .int .i64 aId, .int .i64 aRoom, .int .i64 aShelf] rfl rfl rfl cok_32 rfl ⟨_, _, rfl, Lend.deep (m := 1) (inn := (fun c_ : Carton => List.map encInt c_.Files)) (cell := cellCarton) cokCarton (ts := ts_65) (os := os_65) (xs := y3) 0 hd_65 rfl (fun _ => roL_map (fun _ => rfl) _) rfl (fun p hp => memTail (A := [(b2, ⟨5, deepC cellCarton ts_65 y3⟩)]) (T := os_65) hp rfl) (List.mem_append_left _ (.head _)) (fun p hp => List.mem_append_right _ (List.mem_map.2 ⟨p, hp, rfl⟩)), ⟨_, _, rfl, .same _, ⟨_, _, rfl, .same _, ⟨_, _, rfl, .same _, rfl⟩⟩⟩⟩ (bwTail (A := [(b2, ⟨5, deepC cellCarton ts_65 y3⟩)]) (T := os_65) rfl (bwCons (k := 0) rfl bwNil) (fun p hp => hp)) (ok_impl_MoveCarton hh4) rfl (⟨(by first | omega | (dsimp only; omega)), by rintro _ _ ⟨ob0, ts_66, os_66, hob0, hd_66, rfl, rfl⟩; refine ⟨by simp [PV.no, PV.noL, optS_no, noL_iff, nbeq] <;> omega, ?_⟩; intro b ob h; obtain ⟨q1_, q2_⟩ := deepNo cokCarton (fun _ => noL_map (fun _ => rfl) _) hd_66; exact (List.mem_append.1 h).elim (fun h => optH_no q1_ b ob h) (fun h => q2_ b ob h)⟩) lt0 ?_))
  rintro _ _ ⟨ob0, ts_66, os_66, hob0, hd_66, rfl, rfl⟩
  refine ⟨_, ?_, Keeps.perm (optH 5 ob0 (deepC cellCarton ts_66 y4.1) ++ (([(b2, ⟨5, deepC cellCarton ts_65 y3⟩)] : List (Nat × Obj')) ++ (os_66 ++ os_65))) (permDeepO (o := optH 5 ob0 (deepC cellCarton ts_66 y4.1)) (os := os_66) (A := [(b2, ⟨5, deepC cellCarton ts_65 y3⟩)]) (T := os_65))⟩
  refine VO.cons rfl (V1.move rfl rfl rfl lt0 ?_)
  refine VO.cons rfl (V1.extract rfl rfl rfl rfl lt0 ?_)
  refine VO.cons rfl (V1.extract rfl rfl rfl rfl lt0 ?_)
  refine VO.cons rfl (V1.assign rfl rfl rfl lt0 ?_)
  refine VO.cons rfl (V1.assign rfl rfl rfl lt0 ?_)
  refine VO.nil ?_
  rcases ob0 with _ | ob0
  ·
   obtain ⟨rfl, rfl⟩ := Deep.nil (hob0 rfl) hd_66
   refine V.keepT 111 [0, 1, 2, 3, 10, 11, 12, 13, 14] [0] (E0 := [(0, .vl ρ0 5 (List.map (encCarton σ0) aList)), (1, .int .i64 aId), (2, .int .i64 aRoom), (3, .int .i64 aShelf), (10, .vl rn 5 (List.map (encCarton rn) y2.1)), (11, .bool y2.2), (12, .sref b2 5 0 (List.length y3)), (13, .nils), (14, .bool y4.2)]) (A := [(b2, ⟨5, deepC cellCarton ts_65 y3⟩)]) (T := os_65) (H0 := [(b2, ⟨5, deepC cellCarton ts_65 y3⟩)]) (T' := os_65) rfl (⟨_, _, rfl, rfl, ⟨_, _, rfl, rfl, ⟨_, _, rfl, rfl, ⟨_, _, rfl, rfl, ⟨_, _, rfl, rfl, ⟨_, _, rfl, rfl, ⟨_, _, rfl, rfl, ⟨_, _, rfl, rfl, ⟨_, _, rfl, rfl, rfl⟩⟩⟩⟩⟩⟩⟩⟩⟩) rfl (⟨_, _, rfl, rfl, rfl⟩) rfl (List.Sublist.refl _) ?_
   refine V.seq ?_
   refine V.seq ?_
   replace hm0 := bindO hm0; rcases hm0 with ⟨y5, hh5, hm0⟩
   refine V.region ?_
   refine VO.cons rfl (V1.move rfl rfl rfl lt0 ?_)
   refine VO.cons rfl (V1.move rfl rfl rfl lt0 ?_)
   refine VO.weakenK (Keeps.nilsE (l := y4.1) 44 rn 5 (encCarton rn) (hob0 rfl) rfl rfl) ?_
   refine VO.cons rfl (V1.call rfl rfl rfl cok_25 rfl (ok_laws_eqCartonS hh5) rfl lt0 ?_)
   rintro _ _ ⟨rfl, rfl⟩
   refine VO.cons rfl (V1.not rfl rfl rfl lt0 ?_)
   refine VO.cons rfl (V1.move rfl rfl rfl lt0 ?_)
   apply VO.or (n := 3) rfl rfl rfl rfl rfl rfl lt0 (.none rfl)
   ·
    intro hg0
    refine VO.step (.some rfl rfl rfl) (V1.move rfl rfl rfl lt0 ?_)
    refine VO.step (.some rfl rfl rfl) (V1.move rfl rfl rfl lt0 ?_)
    refine VO.step (.some rfl rfl rfl) (V1.boolNeq rfl rfl und_4 rfl rfl lt0 ?_)
    exact VO.nil ⟨rfl, rfl, rfl, rfl, .inr ⟨rfl, .inr ⟨rfl, .inr ⟨rfl, .inr ⟨rfl, .inl rfl⟩⟩⟩⟩⟩
   refine VO.nil ?_
   refine V.keepT 111 [0, 1, 2, 3, 10, 11, 12, 13, 14, 52] [0] (E0 := [(0, .vl ρ0 5 (List.map (encCarton σ0) aList)), (1, .int .i64 aId), (2, .int .i64 aRoom), (3, .int .i64 aShelf), (10, .vl rn 5 (List.map (encCarton rn) y2.1)), (11, .bool y2.2), (12, .sref b2 5 0 (List.length y3)), (13, .nils), (14, .bool y4.2), (52, .bool ((!y5) || (!(y4.2 == y2.2))))]) (A := [(b2, ⟨5, deepC cellCarton ts_65 y3⟩)]) (T := os_65) (H0 := [(b2, ⟨5, deepC cellCarton ts_65 y3⟩)]) (T' := os_65) rfl (⟨_, _, rfl, rfl, ⟨_, _, rfl, rfl, ⟨_, _, rfl, rfl, ⟨_, _, rfl, rfl, ⟨_, _, rfl, rfl, ⟨_, _, rfl, rfl, ⟨_, _, rfl, rfl, ⟨_, _, rfl, rfl, ⟨_, _, rfl, rfl, ⟨_, _, rfl, rfl, rfl⟩⟩⟩⟩⟩⟩⟩⟩⟩⟩) rfl (⟨_, _, rfl, rfl, rfl⟩) rfl (List.Sublist.refl _) ?_
   refine V.cond rfl (fun hc1 => ?_) (fun hc1 => ?_)
   ·
    replace hm0 := cond_t hc1 hm0
    refine V.seq ?_
    refine V.region ?_
    refine VO.cons rfl (V1.assign rfl rfl rfl lt0 ?_)
    refine VO.nil ?_
    refine V.ret ?_
    obtain rfl := Option.some.inj hm0
    exact ⟨_, [], ⟨_, _, rfl, rfl, rfl⟩, List.nil_sublist _, rfl, rfl⟩
   ·
    replace hm0 := cond_f hc1 hm0
    refine V.skip ?_
    refine V.seq ?_
    refine V.seq ?_
    replace hm0 := bindO hm0; rcases hm0 with ⟨y6, hh6, hm0⟩
    replace hm0 := bindO hm0; rcases hm0 with ⟨y7, hh7, hm0⟩
    refine V.region ?_
    refine VO.cons rfl (V1.move rfl rfl rfl lt0 ?_)
    refine VO.cons rfl (V1.move rfl rfl rfl lt0 ?_)
    refine VO.cons rfl (V1.call rfl rfl rfl cok_22 rfl (ok_laws_toCartonS hh6) rfl lt0 ?_)
    rintro _ _ ⟨b3, rfl, rfl⟩
    refine VO.weakenK (Keeps.freezeG 0 rn [(55, .vl rn 5 (List.map (encCarton rn) y6))] ((b2, ⟨5, deepC cellCarton ts_65 y3⟩) :: os_65) (f := (encCarton rn)) (l := y6) rfl (fun _ => rfl) ⟨⟨_, rfl, .here⟩, trivial⟩ ⟨_, _, rfl, rfl, .inl rfl, FrzH.same⟩ rfl iNil) ?_
    refine VO.cons rfl (V1.callL (rn + 1) ([b2] ++ List.map Prod.fst os_65) [.vl (rn + 1) 5 (List.map (encCarton (rn + 1)) y3), .vl rn 5 (List.map (encCarton rn) y6)] rfl rfl rfl cok_25 rfl ⟨_, _, rfl, Lend.deep (m := 1) (inn := (fun c_ : Carton => List.map encInt c_.Files)) (cell := cellCarton) cokCarton (ts := ts_65) (os := os_65) (xs := y3) 0 hd_65 rfl (fun _ => roL_map (fun _ => rfl) _) rfl (fun p hp => memTail (A := [(b2, ⟨5, deepC cellCarton ts_65 y3⟩)]) (T := os_65) hp rfl) (List.mem_append_left _ (.head _)) (fun p hp => List.mem_append_right _ (List.mem_map.2 ⟨p, hp, rfl⟩)), ⟨_, _, rfl, .same _, rfl⟩⟩ (bwTail (A := [(b2, ⟨5, deepC cellCarton ts_65 y3⟩)]) (T := os_65) rfl (bwCons (k := 0) rfl bwNil) (fun p hp => hp)) (ok_laws_eqCartonS hh7) rfl (⟨(by first | omega | (dsimp only; omega)), by rintro _ _ ⟨rfl, rfl⟩; exact ⟨rfl, by simp⟩⟩) lt0 ?_)
    rintro _ _ ⟨rfl, rfl⟩
    refine VO.cons rfl (V1.not rfl rfl rfl lt0 ?_)
    refine VO.nil ?_
    refine V.keepT 111 [0, 1, 2, 3, 10, 11, 12, 13, 14, 57] [0] (E0 := [(0, .vl ρ0 5 (List.map (encCarton σ0) aList)), (1, .int .i64 aId), (2, .int .i64 aRoom), (3, .int .i64 aShelf), (10, .vl rn 5 (List.map (encCarton rn) y2.1)), (11, .bool y2.2), (12, .sref b2 5 0 (List.length y3)), (13, .nils), (14, .bool y4.2), (57, .bool (!y7))]) (A := [(b2, ⟨5, deepC cellCarton ts_65 y3⟩)]) (T := os_65) (H0 := [(b2, ⟨5, deepC cellCarton ts_65 y3⟩)]) (T' := os_65) rfl (⟨_, _, rfl, rfl, ⟨_, _, rfl, rfl, ⟨_, _, rfl, rfl, ⟨_, _, rfl, rfl, ⟨_, _, rfl, rfl, ⟨_, _, rfl, rfl, ⟨_, _, rfl, rfl, ⟨_, _, rfl, rfl, ⟨_, _, rfl, rfl, ⟨_, _, rfl, rfl, rfl⟩⟩⟩⟩⟩⟩⟩⟩⟩⟩) rfl (⟨_, _, rfl, rfl, rfl⟩) rfl (List.Sublist.refl _) ?_
    refine V.cond rfl (fun hc2 => ?_) (fun hc2 => ?_)
    ·
     replace hm0 := cond_t hc2 hm0
     refine V.seq ?_
     refine V.region ?_
     refine VO.cons rfl (V1.assign rfl rfl rfl lt0 ?_)
     refine VO.nil ?_
     refine V.ret ?_
     obtain rfl := Option.some.inj hm0
     exact ⟨_, [], ⟨_, _, rfl, rfl, rfl⟩, List.nil_sublist _, rfl, rfl⟩
    ·
     replace hm0 := cond_f hc2 hm0
     refine V.skip ?_
     refine V.seq ?_
     refine V.region ?_
     refine VO.cons rfl (V1.assign rfl rfl rfl lt0 ?_)
     refine VO.nil ?_
     refine V.seq ?_
     replace hm0 := bindO hm0; rcases hm0 with ⟨y8, hh8, hm0⟩
     replace hm0 := asrt_some hm0; rcases hm0 with ⟨hh9, hm0⟩
     refine V.region ?_
     refine VO.cons rfl (V1.move rfl rfl rfl lt0 ?_)
     refine VO.cons rfl (V1.move rfl rfl rfl lt0 ?_)
     refine VO.cons rfl (V1.permK (V1.callDT 0 (A := [(b2, ⟨5, deepC cellCarton ts_65 y3⟩)]) (A' := []) (T0 := os_65) (os := os_65) (T := []) (p := (b2, ⟨5, deepC cellCarton ts_65 y3⟩)) rfl rfl rfl cok_26 rfl rfl (.of_eq (List.append_nil _).symm) rfl rfl (rn + 1) [] [.sref b2 5 0 (List.length y3), .int .i64 (1 : Int)] ⟨_, _, rfl, .same _, ⟨_, _, rfl, .same _, rfl⟩⟩ bwNil (ok_laws_markCartonS hh8 (oq := some b2) (tq := ts_65) (oz := os_65) (fun e => by cases e) hd_65) rfl (.inl rfl) lt0 ?_))
     rintro _ _ ⟨ts_83, os_83, hd_83, rfl, rfl⟩
     refine ⟨_, ?_, Keeps.perm (([(b2, ⟨5, deepC cellCarton ts_83 y8.2⟩)] : List (Nat × Obj')) ++ os_83) (permDeep0 (p := (b2, ⟨5, deepC cellCarton ts_83 y8.2⟩)) (os := os_83) (A := []))⟩
     refine VO.cons rfl (V1.assign rfl rfl rfl lt0 ?_)
     refine VO.nil ?_
     refine V.seq ?_
     refine V.seq ?_
     replace hm0 := bindO hm0; rcases hm0 with ⟨y9, hh10, hm0⟩
     refine V.region ?_
     refine VO.cons rfl (V1.move rfl rfl rfl lt0 ?_)
     refine VO.cons rfl (V1.int rfl rfl rfl rfl rfl lt0 ?_)
     refine VO.cons rfl (V1.move rfl rfl rfl lt0 ?_)
     apply VO.or (n := 4) rfl rfl rfl rfl rfl rfl lt0 (.none rfl)
     ·
      intro hg1
      refine VO.step (.some rfl rfl rfl) (V1.move rfl rfl rfl lt0 ?_)
      refine VO.step (.some rfl rfl rfl) (V1.move rfl rfl rfl lt0 ?_)
      refine VO.weakenK (Keeps.nilsE (l := y4.1) 64 rn 5 (encCarton rn) (hob0 rfl) rfl rfl) ?_
      refine VO.step (.some rfl rfl rfl) (V1.call rfl rfl rfl cok_25 rfl (ok_laws_eqCartonS (cond_f hg1 hh10)) rfl lt0 ?_)
      rintro _ _ ⟨rfl, rfl⟩
      refine VO.step (.some rfl rfl rfl) (V1.not rfl rfl rfl lt0 ?_)
      exact VO.nil ⟨rfl, rfl, rfl, rfl, .inr ⟨rfl, .inr ⟨rfl, .inr ⟨rfl, .inr ⟨rfl, .inr ⟨rfl, .inr ⟨rfl, .inl rfl⟩⟩⟩⟩⟩⟩⟩
     refine VO.cons rfl (V1.move rfl rfl rfl lt0 ?_)
     apply VO.or (n := 3) rfl rfl rfl rfl rfl rfl lt0 (.none rfl)
     ·
      intro hg2
      refine VO.step (.some rfl rfl rfl) (V1.move rfl rfl rfl lt0 ?_)
      refine VO.step (.some rfl rfl rfl) (V1.move rfl rfl rfl lt0 ?_)
      refine VO.step (.some rfl rfl rfl) (V1.boolNeq rfl rfl und_4 rfl rfl lt0 ?_)
      exact VO.nil ⟨rfl, rfl, rfl, rfl, .inr ⟨rfl, .inr ⟨rfl, .inr ⟨rfl, .inr ⟨rfl, .inl rfl⟩⟩⟩⟩⟩
     refine VO.nil ?_
     refine V.keepT 111 [0, 1, 2, 3, 10, 11, 13, 73] [] (E0 := [(0, .vl ρ0 5 (List.map (encCarton σ0) aList)), (1, .int .i64 aId), (2, .int .i64 aRoom), (3, .int .i64 aShelf), (10, .vl rn 5 (List.map (encCarton rn) y2.1)), (11, .bool y2.2), (13, .nils), (73, .bool (((decide (y8.1 < (0 : Int))) || (!y9)) || (!(y4.2 == y2.2))))]) (A := [(b2, ⟨5, deepC cellCarton ts_83 y8.2⟩)]) (T := os_83) (H0 := []) (T' := []) rfl (⟨_, _, rfl, rfl, ⟨_, _, rfl, rfl, ⟨_, _, rfl, rfl, ⟨_, _, rfl, rfl, ⟨_, _, rfl, rfl, ⟨_, _, rfl, rfl, ⟨_, _, rfl, rfl, ⟨_, _, rfl, rfl, rfl⟩⟩⟩⟩⟩⟩⟩⟩) rfl (rfl) rfl (List.nil_sublist _) ?_
     refine V.cond rfl (fun hc3 => ?_) (fun hc3 => ?_)
     ·
      replace hm0 := cond_t hc3 hm0
      refine V.seq ?_
      refine V.region ?_
      refine VO.cons rfl (V1.assign rfl rfl rfl lt0 ?_)
      refine VO.nil ?_
      refine V.ret ?_
      obtain rfl := Option.some.inj hm0
      exact ⟨_, [], ⟨_, _, rfl, rfl, rfl⟩, List.nil_sublist _, rfl, rfl⟩
     ·
      replace hm0 := cond_f hc3 hm0
      refine V.skip ?_
      refine V.seq ?_
      refine V.region ?_
      refine VO.cons rfl (V1.assign rfl rfl rfl lt0 ?_)
      refine VO.nil ?_
      refine V.seq ?_
      replace hm0 := bindO hm0; rcases hm0 with ⟨y10, hh11, hm0⟩
      replace hm0 := asrt_some hm0; rcases hm0 with ⟨hh12, hm0⟩
      refine V.region ?_
      refine VO.cons rfl (V1.move rfl rfl rfl lt0 ?_)
      refine VO.cons rfl (V1.move rfl rfl rfl lt0 ?_)
      refine VO.cons rfl (V1.call rfl rfl rfl cok_26 rfl (ok_laws_markCartonS hh11 (oq := none) (tq := []) (oz := []) (fun _ => (hob0 rfl)) (Deep.ofNil (hob0 rfl))) rfl lt0 ?_)
      rintro _ _ ⟨ts_85, os_85, hd_85, rfl, rfl⟩
      obtain ⟨rfl, rfl⟩ := Deep.nil (List.length_eq_zero_iff.1 (hh12.trans (congrArg List.length (hob0 rfl)))) hd_85
      refine VO.cons rfl (V1.assign rfl rfl rfl lt0 ?_)
      refine VO.nil ?_
      refine V.keep 111 [0, 1, 2, 3, 10, 11, 13, 16] [] (E0 := [(0, .vl ρ0 5 (List.map (encCarton σ0) aList)), (1, .int .i64 aId), (2, .int .i64 aRoom), (3, .int .i64 aShelf), (10, .vl rn 5 (List.map (encCarton rn) y2.1)), (11, .bool y2.2), (13, .nils), (16, .int .i64 y10.1)]) (H0 := []) rfl (⟨_, _, rfl, rfl, ⟨_, _, rfl, rfl, ⟨_, _, rfl, rfl, ⟨_, _, rfl, rfl, ⟨_, _, rfl, rfl, ⟨_, _, rfl, rfl, ⟨_, _, rfl, rfl, ⟨_, _, rfl, rfl, rfl⟩⟩⟩⟩⟩⟩⟩⟩) (rfl) rfl ?_
      refine V.seq ?_
      refine V.region ?_
      refine VO.cons rfl (V1.assign rfl rfl rfl lt0 ?_)
      refine VO.nil ?_
      refine V.seq ?_
      replace hm0 := bindO hm0; rcases hm0 with ⟨y11, hh13, hm0⟩
      refine V.region ?_
      refine VO.cons rfl (V1.move rfl rfl rfl lt0 ?_)
      refine VO.cons rfl (V1.move rfl rfl rfl lt0 ?_)
      refine VO.weakenK (Keeps.nilsE (l := y10.2) 77 rn 5 (encCarton rn) (List.length_eq_zero_iff.1 (hh12.trans (congrArg List.length (hob0 rfl)))) rfl rfl) ?_
      refine VO.cons rfl (V1.call rfl rfl rfl cok_33 rfl (ok_laws_heldCartonS hh13) rfl lt0 ?_)
      rintro _ _ ⟨rfl, rfl⟩
      refine VO.cons rfl (V1.assign rfl rfl rfl lt0 ?_)
      refine VO.nil ?_
      refine V.seq ?_
      refine V.seq ?_
      refine V.region ?_
      refine VO.cons rfl (V1.move rfl rfl rfl lt0 ?_)
      refine VO.cons rfl (V1.int rfl rfl rfl rfl rfl lt0 ?_)
      refine VO.nil ?_
      refine V.keep 111 [0, 1, 2, 3, 10, 11, 13, 16, 17, 81] [] (E0 := [(0, .vl ρ0 5 (List.map (encCarton σ0) aList)), (1, .int .i64 aId), (2, .int .i64 aRoom), (3, .int .i64 aShelf), (10, .vl rn 5 (List.map (encCarton rn) y2.1)), (11, .bool y2.2), (13, .nils), (16, .int .i64 y10.1), (17, .int .i64 y11), (81, .bool (decide (y11 < (0 : Int))))]) (H0 := []) rfl (⟨_, _, rfl, rfl, ⟨_, _, rfl, rfl, ⟨_, _, rfl, rfl, ⟨_, _, rfl, rfl, ⟨_, _, rfl, rfl, ⟨_, _, rfl, rfl, ⟨_, _, rfl, rfl, ⟨_, _, rfl, rfl, ⟨_, _, rfl, rfl, ⟨_, _, rfl, rfl, rfl⟩⟩⟩⟩⟩⟩⟩⟩⟩⟩) (rfl) rfl ?_
      refine V.cond rfl (fun hc4 => ?_) (fun hc4 => ?_)
      ·
       replace hm0 := cond_t hc4 hm0
       refine V.seq ?_
       refine V.region ?_
       refine VO.cons rfl (V1.assign rfl rfl rfl lt0 ?_)
       refine VO.nil ?_
       refine V.ret ?_
       obtain rfl := Option.some.inj hm0
       exact ⟨_, [], ⟨_, _, rfl, rfl, rfl⟩, List.nil_sublist _, rfl, rfl⟩
      ·
       replace hm0 := cond_f hc4 hm0
       refine V.skip ?_
       refine V.seq ?_
       refine V.seq ?_
       refine V.region ?_
       refine VO.cons rfl (V1.move rfl rfl rfl lt0 ?_)
       refine VO.cons rfl (V1.move rfl rfl rfl lt0 ?_)
       refine VO.cons rfl (V1.int rfl rfl rfl rfl rfl lt0 ?_)
       refine VO.nil ?_
       refine V.keep 111 [0, 1, 2, 3, 10, 11, 13, 16, 84] [] (E0 := [(0, .vl ρ0 5 (List.map (encCarton σ0) aList)), (1, .int .i64 aId), (2, .int .i64 aRoom), (3, .int .i64 aShelf), (10, .vl rn 5 (List.map (encCarton rn) y2.1)), (11, .bool y2.2), (13, .nils), (16, .int .i64 y10.1), (84, .bool (y11 != y10.1))]) (H0 := []) rfl (⟨_, _, rfl, rfl, ⟨_, _, rfl, rfl, ⟨_, _, rfl, rfl, ⟨_, _, rfl, rfl, ⟨_, _, rfl, rfl, ⟨_, _, rfl, rfl, ⟨_, _, rfl, rfl, ⟨_, _, rfl, rfl, ⟨_, _, rfl, rfl, rfl⟩⟩⟩⟩⟩⟩⟩⟩⟩) (rfl) rfl ?_
       refine V.cond rfl (fun hc5 => ?_) (fun hc5 => ?_)
       ·
        replace hm0 := cond_t hc5 hm0
        refine V.seq ?_
        refine V.region ?_
        refine VO.cons rfl (V1.assign rfl rfl rfl lt0 ?_)
        refine VO.nil ?_
        refine V.ret ?_
        obtain rfl := Option.some.inj hm0
        exact ⟨_, [], ⟨_, _, rfl, rfl, rfl⟩, List.nil_sublist _, rfl, rfl⟩
       ·
        replace hm0 := cond_f hc5 hm0
        refine V.skip ?_
        refine V.seq ?_
        replace hm0 := bindO hm0; rcases hm0 with ⟨y12, hh14, hm0⟩
        replace hm0 := bindO hm0; rcases hm0 with ⟨y13, hh15, hm0⟩
        refine V.region ?_
        refine VO.cons rfl (V1.move rfl rfl rfl lt0 ?_)
        refine VO.cons rfl (V1.call rfl rfl rfl cok_22 rfl (ok_laws_toCartonS hh14) rfl lt0 ?_)
        rintro _ _ ⟨b4, rfl, rfl⟩
        refine VO.weakenK (Keeps.freezeG 0 rn [(87, .vl rn 5 (List.map (encCarton rn) y12))] ([]) (f := (encCarton rn)) (l := y12) rfl (fun _ => rfl) ⟨⟨_, rfl, .here⟩, trivial⟩ rfl rfl iNil) ?_
        refine VO.cons rfl (V1.move rfl rfl rfl lt0 ?_)
        refine VO.cons rfl (V1.move rfl rfl rfl lt0 ?_)
        refine VO.cons rfl (V1.move rfl rfl rfl lt0 ?_)
        refine VO.cons rfl (V1.permK (V1.call rfl rfl rfl cok_32 rfl (ok_impl_MoveCarton hh15) rfl lt0 ?_))
        rintro _ _ ⟨ob1, ts_88, os_88, hob1, hd_88, rfl, rfl⟩
        refine ⟨_, ?_, Keeps.perm (optH 5 ob1 (deepC cellCarton ts_88 y13.1) ++ (([] : List (Nat × Obj')) ++ os_88)) (permDeepO1 (o := optH 5 ob1 (deepC cellCarton ts_88 y13.1)) (os := os_88) (A := []))⟩
        refine VO.cons rfl (V1.move rfl rfl rfl lt0 ?_)
        refine VO.cons rfl (V1.extract rfl rfl rfl rfl lt0 ?_)
        refine VO.cons rfl (V1.extract rfl rfl rfl rfl lt0 ?_)
        refine VO.cons rfl (V1.assign rfl rfl rfl lt0 ?_)
        refine VO.cons rfl (V1.assign rfl rfl rfl lt0 ?_)
        refine VO.nil ?_
        rcases ob1 with _ | ob1
        ·
         obtain ⟨rfl, rfl⟩ := Deep.nil (hob1 rfl) hd_88
         refine V.keep 111 [10, 11, 13, 16, 18, 19] [] (E0 := [(10, .vl rn 5 (List.map (encCarton rn) y2.1)), (11, .bool y2.2), (13, .nils), (16, .int .i64 y10.1), (18, .nils), (19, .bool y13.2)]) (H0 := []) rfl (⟨_, _, rfl, rfl, ⟨_, _, rfl, rfl, ⟨_, _, rfl, rfl, ⟨_, _, rfl, rfl, ⟨_, _, rfl, rfl, ⟨_, _, rfl, rfl, rfl⟩⟩⟩⟩⟩⟩) (rfl) rfl ?_
         refine V.seq ?_
         refine V.seq ?_
         replace hm0 := bindO hm0; rcases hm0 with ⟨y14, hh16, hm0⟩
         refine V.region ?_
         refine VO.cons rfl (V1.move rfl rfl rfl lt0 ?_)
         refine VO.cons rfl (V1.move rfl rfl rfl lt0 ?_)
         refine VO.weakenK (Keeps.nilsE (l := y13.1) 94 rn 5 (encCarton rn) (hob1 rfl) rfl rfl) ?_
         refine VO.cons rfl (V1.call rfl rfl rfl cok_25 rfl (ok_laws_eqCartonS hh16) rfl lt0 ?_)
         rintro _ _ ⟨rfl, rfl⟩
         refine VO.cons rfl (V1.not rfl rfl rfl lt0 ?_)
         refine VO.cons rfl (V1.move rfl rfl rfl lt0 ?_)
         apply VO.or (n := 3) rfl rfl rfl rfl rfl rfl lt0 (.none rfl)
         ·
          intro hg3
          refine VO.step (.some rfl rfl rfl) (V1.move rfl rfl rfl lt0 ?_)
          refine VO.step (.some rfl rfl rfl) (V1.move rfl rfl rfl lt0 ?_)
          refine VO.step (.some rfl rfl rfl) (V1.boolNeq rfl rfl und_4 rfl rfl lt0 ?_)
          exact VO.nil ⟨rfl, rfl, rfl, rfl, .inr ⟨rfl, .inr ⟨rfl, .inr ⟨rfl, .inr ⟨rfl, .inl rfl⟩⟩⟩⟩⟩
         refine VO.nil ?_
         refine V.keep 111 [13, 16, 102] [] (E0 := [(13, .nils), (16, .int .i64 y10.1), (102, .bool ((!y14) || (!(y13.2 == y2.2))))]) (H0 := []) rfl (⟨_, _, rfl, rfl, ⟨_, _, rfl, rfl, ⟨_, _, rfl, rfl, rfl⟩⟩⟩) (rfl) rfl ?_
         refine V.cond rfl (fun hc6 => ?_) (fun hc6 => ?_)
         ·
          replace hm0 := cond_t hc6 hm0
          refine V.seq ?_
          refine V.region ?_
          refine VO.cons rfl (V1.assign rfl rfl rfl lt0 ?_)
          refine VO.nil ?_
          refine V.ret ?_
          obtain rfl := Option.some.inj hm0
          exact ⟨_, [], ⟨_, _, rfl, rfl, rfl⟩, List.nil_sublist _, rfl, rfl⟩
         ·
          replace hm0 := cond_f hc6 hm0
          refine V.skip ?_
          refine V.seq ?_
          refine V.region ?_
          refine VO.cons rfl (V1.assign rfl rfl rfl lt0 ?_)
          refine VO.nil ?_
          refine V.seq ?_
          replace hm0 := bindO hm0; rcases hm0 with ⟨y15, hh17, hm0⟩
          refine V.region ?_
          refine VO.cons rfl (V1.move rfl rfl rfl lt0 ?_)
          refine VO.cons rfl (V1.move rfl rfl rfl lt0 ?_)
          refine VO.weakenK (Keeps.nilsE (l := y10.2) 103 rn 5 (encCarton rn) (List.length_eq_zero_iff.1 (hh12.trans (congrArg List.length (hob0 rfl)))) rfl rfl) ?_
          refine VO.cons rfl (V1.call rfl rfl rfl cok_33 rfl (ok_laws_heldCartonS hh17) rfl lt0 ?_)
          rintro _ _ ⟨rfl, rfl⟩
          refine VO.cons rfl (V1.assign rfl rfl rfl lt0 ?_)
          refine VO.nil ?_
          refine V.keep 111 [16, 17] [] (E0 := [(16, .int .i64 y10.1), (17, .int .i64 y15)]) (H0 := []) rfl (⟨_, _, rfl, rfl, ⟨_, _, rfl, rfl, rfl⟩⟩) (rfl) rfl ?_
          refine V.seq ?_
          refine V.seq ?_
          refine V.region ?_
          refine VO.cons rfl (V1.move rfl rfl rfl lt0 ?_)
          refine VO.cons rfl (V1.int rfl rfl rfl rfl rfl lt0 ?_)
          refine VO.nil ?_
          refine V.cond rfl (fun hc7 => ?_) (fun hc7 => ?_)
          ·
           replace hm0 := cond_t hc7 hm0
           refine V.seq ?_
           refine V.region ?_
           refine VO.cons rfl (V1.assign rfl rfl rfl lt0 ?_)
           refine VO.nil ?_
           refine V.ret ?_
           obtain rfl := Option.some.inj hm0
           exact ⟨_, [], ⟨_, _, rfl, rfl, rfl⟩, List.nil_sublist _, rfl, rfl⟩
          ·
           replace hm0 := cond_f hc7 hm0
           refine V.skip ?_
           refine V.seq ?_
           refine V.seq ?_
           refine V.region ?_
           refine VO.cons rfl (V1.move rfl rfl rfl lt0 ?_)
           refine VO.cons rfl (V1.move rfl rfl rfl lt0 ?_)
           refine VO.cons rfl (V1.int rfl rfl rfl rfl rfl lt0 ?_)
           refine VO.nil ?_
           refine V.keep 111 [110] [] (E0 := [(110, .bool (y15 != y10.1))]) (H0 := []) rfl (⟨_, _, rfl, rfl, rfl⟩) (rfl) rfl ?_
           refine V.cond rfl (fun hc8 => ?_) (fun hc8 => ?_)
           ·
            replace hm0 := cond_t hc8 hm0
            refine V.seq ?_
            refine V.region ?_
            refine VO.cons rfl (V1.assign rfl rfl rfl lt0 ?_)
            refine VO.nil ?_
            refine V.ret ?_
            obtain rfl := Option.some.inj hm0
            exact ⟨_, [], ⟨_, _, rfl, rfl, rfl⟩, List.nil_sublist _, rfl, rfl⟩
           ·
            replace hm0 := cond_f hc8 hm0
            refine V.skip ?_
            refine V.seq ?_
            refine V.region ?_
            refine VO.cons rfl (V1.assign rfl rfl rfl lt0 ?_)
            refine VO.nil ?_
            refine V.ret ?_
            obtain rfl := Option.some.inj hm0
            exact ⟨_, [], ⟨_, _, rfl, rfl, rfl⟩, List.nil_sublist _, rfl, rfl⟩
        ·
         refine V.keepT 111 [10, 11, 13, 16, 18, 19] [0] (E0 := [(10, .vl rn 5 (List.map (encCarton rn) y2.1)), (11, .bool y2.2), (13, .nils), (16, .int .i64 y10.1), (18, .sref ob1 5 0 (List.length y13.1)), (19, .bool y13.2)]) (A := [(ob1, ⟨5, deepC cellCarton ts_88 y13.1⟩)]) (T := os_88) (H0 := [(ob1, ⟨5, deepC cellCarton ts_88 y13.1⟩)]) (T' := os_88) rfl (⟨_, _, rfl, rfl, ⟨_, _, rfl, rfl, ⟨_, _, rfl, rfl, ⟨_, _, rfl, rfl, ⟨_, _, rfl, rfl, ⟨_, _, rfl, rfl, rfl⟩⟩⟩⟩⟩⟩) rfl (⟨_, _, rfl, rfl, rfl⟩) rfl (List.Sublist.refl _) ?_
         refine V.seq ?_
         refine V.seq ?_
         replace hm0 := bindO hm0; rcases hm0 with ⟨y14, hh16, hm0⟩
         refine V.region ?_
         refine VO.cons rfl (V1.move rfl rfl rfl lt0 ?_)
         refine VO.cons rfl (V1.move rfl rfl rfl lt0 ?_)
         refine VO.cons rfl (V1.callL (rn + 1) ([ob1] ++ List.map Prod.fst os_88) [.vl (rn + 1) 5 (List.map (encCarton (rn + 1)) y13.1), .vl rn 5 (List.map (encCarton rn) y2.1)] rfl rfl rfl cok_25 rfl ⟨_, _, rfl, Lend.deep (m := 1) (inn := (fun c_ : Carton => List.map encInt c_.Files)) (cell := cellCarton) cokCarton (ts := ts_88) (os := os_88) (xs := y13.1) 0 hd_88 rfl (fun _ => roL_map (fun _ => rfl) _) rfl (fun p hp => memTail (A := [(ob1, ⟨5, deepC cellCarton ts_88 y13.1⟩)]) (T := os_88) hp rfl) (List.mem_append_left _ (.head _)) (fun p hp => List.mem_append_right _ (List.mem_map.2 ⟨p, hp, rfl⟩)), ⟨_, _, rfl, .same _, rfl⟩⟩ (bwTail (A := [(ob1, ⟨5, deepC cellCarton ts_88 y13.1⟩)]) (T := os_88) rfl (bwCons (k := 0) rfl bwNil) (fun p hp => hp)) (ok_laws_eqCartonS hh16) rfl (⟨(by first | omega | (dsimp only; omega)), by rintro _ _ ⟨rfl, rfl⟩; exact ⟨rfl, by simp⟩⟩) lt0 ?_)
         rintro _ _ ⟨rfl, rfl⟩
         refine VO.cons rfl (V1.not rfl rfl rfl lt0 ?_)
         refine VO.cons rfl (V1.move rfl rfl rfl lt0 ?_)
         apply VO.or (n := 3) rfl rfl rfl rfl rfl rfl lt0 (.none rfl)
         ·
          intro hg3
          refine VO.step (.some rfl rfl rfl) (V1.move rfl rfl rfl lt0 ?_)
          refine VO.step (.some rfl rfl rfl) (V1.move rfl rfl rfl lt0 ?_)
          refine VO.step (.some rfl rfl rfl) (V1.boolNeq rfl rfl und_4 rfl rfl lt0 ?_)
          exact VO.nil ⟨rfl, rfl, rfl, rfl, .inr ⟨rfl, .inr ⟨rfl, .inr ⟨rfl, .inr ⟨rfl, .inl rfl⟩⟩⟩⟩⟩
         refine VO.nil ?_
         refine V.keepT 111 [13, 16, 102] [] (E0 := [(13, .nils), (16, .int .i64 y10.1), (102, .bool ((!y14) || (!(y13.2 == y2.2))))]) (A := [(ob1, ⟨5, deepC cellCarton ts_88 y13.1⟩)]) (T := os_88) (H0 := []) (T' := []) rfl (⟨_, _, rfl, rfl, ⟨_, _, rfl, rfl, ⟨_, _, rfl, rfl, rfl⟩⟩⟩) rfl (rfl) rfl (List.nil_sublist _) ?_
         refine V.cond rfl (fun hc6 => ?_) (fun hc6 => ?_)
         ·
          replace hm0 := cond_t hc6 hm0
          refine V.seq ?_
          refine V.region ?_
          refine VO.cons rfl (V1.assign rfl rfl rfl lt0 ?_)
          refine VO.nil ?_
          refine V.ret ?_
          obtain rfl := Option.some.inj hm0
          exact ⟨_, [], ⟨_, _, rfl, rfl, rfl⟩, List.nil_sublist _, rfl, rfl⟩
         ·
          replace hm0 := cond_f hc6 hm0
          refine V.skip ?_
          refine V.seq ?_
          refine V.region ?_
          refine VO.cons rfl (V1.assign rfl rfl rfl lt0 ?_)
          refine VO.nil ?_
          refine V.seq ?_
          replace hm0 := bindO hm0; rcases hm0 with ⟨y15, hh17, hm0⟩
          refine V.region ?_
          refine VO.cons rfl (V1.move rfl rfl rfl lt0 ?_)
          refine VO.cons rfl (V1.move rfl rfl rfl lt0 ?_)
          refine VO.weakenK (Keeps.nilsE (l := y10.2) 103 rn 5 (encCarton rn) (List.length_eq_zero_iff.1 (hh12.trans (congrArg List.length (hob0 rfl)))) rfl rfl) ?_
          refine VO.cons rfl (V1.call rfl rfl rfl cok_33 rfl (ok_laws_heldCartonS hh17) rfl lt0 ?_)
          rintro _ _ ⟨rfl, rfl⟩
          refine VO.cons rfl (V1.assign rfl rfl rfl lt0 ?_)
          refine VO.nil ?_
          refine V.keep 111 [16, 17] [] (E0 := [(16, .int .i64 y10.1), (17, .int .i64 y15)]) (H0 := []) rfl (⟨_, _, rfl, rfl, ⟨_, _, rfl, rfl, rfl⟩⟩) (rfl) rfl ?_
          refine V.seq ?_
          refine V.seq ?_
          refine V.region ?_
          refine VO.cons rfl (V1.move rfl rfl rfl lt0 ?_)
          refine VO.cons rfl (V1.int rfl rfl rfl rfl rfl lt0 ?_)
          refine VO.nil ?_
          refine V.cond rfl (fun hc7 => ?_) (fun hc7 => ?_)
          ·
           replace hm0 := cond_t hc7 hm0
           refine V.seq ?_
           refine V.region ?_
           refine VO.cons rfl (V1.assign rfl rfl rfl lt0 ?_)
           refine VO.nil ?_
           refine V.ret ?_
           obtain rfl := Option.some.inj hm0
           exact ⟨_, [], ⟨_, _, rfl, rfl, rfl⟩, List.nil_sublist _, rfl, rfl⟩
          ·
           replace hm0 := cond_f hc7 hm0
           refine V.skip ?_
           refine V.seq ?_
           refine V.seq ?_
           refine V.region ?_
           refine VO.cons rfl (V1.move rfl rfl rfl lt0 ?_)
           refine VO.cons rfl (V1.move rfl rfl rfl lt0 ?_)
           refine VO.cons rfl (V1.int rfl rfl rfl rfl rfl lt0 ?_)
           refine VO.nil ?_
           refine V.keep 111 [110] [] (E0 := [(110, .bool (y15 != y10.1))]) (H0 := []) rfl (⟨_, _, rfl, rfl, rfl⟩) (rfl) rfl ?_
           refine V.cond rfl (fun hc8 => ?_) (fun hc8 => ?_)
           ·
            replace hm0 := cond_t hc8 hm0
            refine V.seq ?_
            refine V.region ?_
            refine VO.cons rfl (V1.assign rfl rfl rfl lt0 ?_)
            refine VO.nil ?_
            refine V.ret ?_
            obtain rfl := Option.some.inj hm0
            exact ⟨_, [], ⟨_, _, rfl, rfl, rfl⟩, List.nil_sublist _, rfl, rfl⟩
           ·
            replace hm0 := cond_f hc8 hm0
            refine V.skip ?_
            refine V.seq ?_
            refine V.region ?_
            refine VO.cons rfl (V1.assign rfl rfl rfl lt0 ?_)
            refine VO.nil ?_
            refine V.ret ?_
            obtain rfl := Option.some.inj hm0
            exact ⟨_, [], ⟨_, _, rfl, rfl, rfl⟩, List.nil_sublist _, rfl, rfl⟩
  ·
   refine V.keepT 111 [0, 1, 2, 3, 10, 11, 12, 13, 14] [0, 1] (E0 := [(0, .vl ρ0 5 (List.map (encCarton σ0) aList)), (1, .int .i64 aId), (2, .int .i64 aRoom), (3, .int .i64 aShelf), (10, .vl rn 5 (List.map (encCarton rn) y2.1)), (11, .bool y2.2), (12, .sref b2 5 0 (List.length y3)), (13, .sref ob0 5 0 (List.length y4.1)), (14, .bool y4.2)]) (A := [(ob0, ⟨5, deepC cellCarton ts_66 y4.1⟩), (b2, ⟨5, deepC cellCarton ts_65 y3⟩)]) (T := (os_66 ++ os_65)) (H0 := [(ob0, ⟨5, deepC cellCarton ts_66 y4.1⟩), (b2, ⟨5, deepC cellCarton ts_65 y3⟩)]) (T' := (os_66 ++ os_65)) rfl (⟨_, _, rfl, rfl, ⟨_, _, rfl, rfl, ⟨_, _, rfl, rfl, ⟨_, _, rfl, rfl, ⟨_, _, rfl, rfl, ⟨_, _, rfl, rfl, ⟨_, _, rfl, rfl, ⟨_, _, rfl, rfl, ⟨_, _, rfl, rfl, rfl⟩⟩⟩⟩⟩⟩⟩⟩⟩) rfl (⟨_, _, rfl, rfl, ⟨_, _, rfl, rfl, rfl⟩⟩) rfl (List.Sublist.refl _) ?_
   refine V.seq ?_
   refine V.seq ?_
   replace hm0 := bindO hm0; rcases hm0 with ⟨y5, hh5, hm0⟩
   refine V.region ?_
   refine VO.cons rfl (V1.move rfl rfl rfl lt0 ?_)
   refine VO.cons rfl (V1.move rfl rfl rfl lt0 ?_)
   refine VO.cons rfl (V1.callL (rn + 1) ([ob0] ++ List.map Prod.fst os_66) [.vl (rn + 1) 5 (List.map (encCarton (rn + 1)) y4.1), .vl rn 5 (List.map (encCarton rn) y2.1)] rfl rfl rfl cok_25 rfl ⟨_, _, rfl, Lend.deep (m := 1) (inn := (fun c_ : Carton => List.map encInt c_.Files)) (cell := cellCarton) cokCarton (ts := ts_66) (os := os_66) (xs := y4.1) 0 hd_66 rfl (fun _ => roL_map (fun _ => rfl) _) rfl (fun p hp => memTail (A := [(ob0, ⟨5, deepC cellCarton ts_66 y4.1⟩), (b2, ⟨5, deepC cellCarton ts_65 y3⟩)]) (T := (os_66 ++ os_65)) (List.mem_append_left _ hp) rfl) (List.mem_append_left _ (.head _)) (fun p hp => List.mem_append_right _ (List.mem_map.2 ⟨p, hp, rfl⟩)), ⟨_, _, rfl, .same _, rfl⟩⟩ (bwTail (A := [(ob0, ⟨5, deepC cellCarton ts_66 y4.1⟩), (b2, ⟨5, deepC cellCarton ts_65 y3⟩)]) (T := (os_66 ++ os_65)) rfl (bwCons (k := 0) rfl bwNil) (fun p hp => (List.mem_append_left _ hp))) (ok_laws_eqCartonS hh5) rfl (⟨(by first | omega | (dsimp only; omega)), by rintro _ _ ⟨rfl, rfl⟩; exact ⟨rfl, by simp⟩⟩) lt0 ?_)
   rintro _ _ ⟨rfl, rfl⟩
   refine VO.cons rfl (V1.not rfl rfl rfl lt0 ?_)
   refine VO.cons rfl (V1.move rfl rfl rfl lt0 ?_)
   apply VO.or (n := 3) rfl rfl rfl rfl rfl rfl lt0 (.none rfl)
   ·
    intro hg0
    refine VO.step (.some rfl rfl rfl) (V1.move rfl rfl rfl lt0 ?_)
    refine VO.step (.some rfl rfl rfl) (V1.move rfl rfl rfl lt0 ?_)
    refine VO.step (.some rfl rfl rfl) (V1.boolNeq rfl rfl und_4 rfl rfl lt0 ?_)
    exact VO.nil ⟨rfl, rfl, rfl, rfl, .inr ⟨rfl, .inr ⟨rfl, .inr ⟨rfl, .inr ⟨rfl, .inl rfl⟩⟩⟩⟩⟩
   refine VO.nil ?_
   refine V.keepT 111 [0, 1, 2, 3, 10, 11, 12, 13, 14, 52] [0, 1] (E0 := [(0, .vl ρ0 5 (List.map (encCarton σ0) aList)), (1, .int .i64 aId), (2, .int .i64 aRoom), (3, .int .i64 aShelf), (10, .vl rn 5 (List.map (encCarton rn) y2.1)), (11, .bool y2.2), (12, .sref b2 5 0 (List.length y3)), (13, .sref ob0 5 0 (List.length y4.1)), (14, .bool y4.2), (52, .bool ((!y5) || (!(y4.2 == y2.2))))]) (A := [(ob0, ⟨5, deepC cellCarton ts_66 y4.1⟩), (b2, ⟨5, deepC cellCarton ts_65 y3⟩)]) (T := (os_66 ++ os_65)) (H0 := [(ob0, ⟨5, deepC cellCarton ts_66 y4.1⟩), (b2, ⟨5, deepC cellCarton ts_65 y3⟩)]) (T' := (os_66 ++ os_65)) rfl (⟨_, _, rfl, rfl, ⟨_, _, rfl, rfl, ⟨_, _, rfl, rfl, ⟨_, _, rfl, rfl, ⟨_, _, rfl, rfl, ⟨_, _, rfl, rfl, ⟨_, _, rfl, rfl, ⟨_, _, rfl, rfl, ⟨_, _, rfl, rfl, ⟨_, _, rfl, rfl, rfl⟩⟩⟩⟩⟩⟩⟩⟩⟩⟩) rfl (⟨_, _, rfl, rfl, ⟨_, _, rfl, rfl, rfl⟩⟩) rfl (List.Sublist.refl _) ?_
   refine V.cond rfl (fun hc1 => ?_) (fun hc1 => ?_)
   ·
    replace hm0 := cond_t hc1 hm0
    refine V.seq ?_
    refine V.region ?_
    refine VO.cons rfl (V1.assign rfl rfl rfl lt0 ?_)
    refine VO.nil ?_
    refine V.ret ?_
    obtain rfl := Option.some.inj hm0
    exact ⟨_, [], ⟨_, _, rfl, rfl, rfl⟩, List.nil_sublist _, rfl, rfl⟩
   ·
    replace hm0 := cond_f hc1 hm0
    refine V.skip ?_
    refine V.seq ?_
    refine V.seq ?_
    replace hm0 := bindO hm0; rcases hm0 with ⟨y6, hh6, hm0⟩
    replace hm0 := bindO hm0; rcases hm0 with ⟨y7, hh7, hm0⟩
    refine V.region ?_
    refine VO.cons rfl (V1.move rfl rfl rfl lt0 ?_)
    refine VO.cons rfl (V1.move rfl rfl rfl lt0 ?_)
    refine VO.cons rfl (V1.call rfl rfl rfl cok_22 rfl (ok_laws_toCartonS hh6) rfl lt0 ?_)
    rintro _ _ ⟨b3, rfl, rfl⟩
    refine VO.weakenK (Keeps.freezeG 0 rn [(55, .vl rn 5 (List.map (encCarton rn) y6))] ((ob0, ⟨5, deepC cellCarton ts_66 y4.1⟩) :: (b2, ⟨5, deepC cellCarton ts_65 y3⟩) :: (os_66 ++ os_65)) (f := (encCarton rn)) (l := y6) rfl (fun _ => rfl) ⟨⟨_, rfl, .here⟩, trivial⟩ ⟨_, _, rfl, rfl, .inl rfl, ⟨_, _, rfl, rfl, .inl rfl, FrzH.same⟩⟩ rfl iNil) ?_
    refine VO.cons rfl (V1.callL (rn + 1) ([b2] ++ List.map Prod.fst os_65) [.vl (rn + 1) 5 (List.map (encCarton (rn + 1)) y3), .vl rn 5 (List.map (encCarton rn) y6)] rfl rfl rfl cok_25 rfl ⟨_, _, rfl, Lend.deep (m := 1) (inn := (fun c_ : Carton => List.map encInt c_.Files)) (cell := cellCarton) cokCarton (ts := ts_65) (os := os_65) (xs := y3) 1 hd_65 rfl (fun _ => roL_map (fun _ => rfl) _) rfl (fun p hp => memTail (A := [(ob0, ⟨5, deepC cellCarton ts_66 y4.1⟩), (b2, ⟨5, deepC cellCarton ts_65 y3⟩)]) (T := (os_66 ++ os_65)) (List.mem_append_right _ hp) rfl) (List.mem_append_left _ (.head _)) (fun p hp => List.mem_append_right _ (List.mem_map.2 ⟨p, hp, rfl⟩)), ⟨_, _, rfl, .same _, rfl⟩⟩ (bwTail (A := [(ob0, ⟨5, deepC cellCarton ts_66 y4.1⟩), (b2, ⟨5, deepC cellCarton ts_65 y3⟩)]) (T := (os_66 ++ os_65)) rfl (bwCons (k := 1) rfl bwNil) (fun p hp => (List.mem_append_right _ hp))) (ok_laws_eqCartonS hh7) rfl (⟨(by first | omega | (dsimp only; omega)), by rintro _ _ ⟨rfl, rfl⟩; exact ⟨rfl, by simp⟩⟩) lt0 ?_)
    rintro _ _ ⟨rfl, rfl⟩
    refine VO.cons rfl (V1.not rfl rfl rfl lt0 ?_)
    refine VO.nil ?_
    refine V.keepT 111 [0, 1, 2, 3, 10, 11, 12, 13, 14, 57] [0, 1] (E0 := [(0, .vl ρ0 5 (List.map (encCarton σ0) aList)), (1, .int .i64 aId), (2, .int .i64 aRoom), (3, .int .i64 aShelf), (10, .vl rn 5 (List.map (encCarton rn) y2.1)), (11, .bool y2.2), (12, .sref b2 5 0 (List.length y3)), (13, .sref ob0 5 0 (List.length y4.1)), (14, .bool y4.2), (57, .bool (!y7))]) (A := [(ob0, ⟨5, deepC cellCarton ts_66 y4.1⟩), (b2, ⟨5, deepC cellCarton ts_65 y3⟩)]) (T := (os_66 ++ os_65)) (H0 := [(ob0, ⟨5, deepC cellCarton ts_66 y4.1⟩), (b2, ⟨5, deepC cellCarton ts_65 y3⟩)]) (T' := (os_66 ++ os_65)) rfl (⟨_, _, rfl, rfl, ⟨_, _, rfl, rfl, ⟨_, _, rfl, rfl, ⟨_, _, rfl, rfl, ⟨_, _, rfl, rfl, ⟨_, _, rfl, rfl, ⟨_, _, rfl, rfl, ⟨_, _, rfl, rfl, ⟨_, _, rfl, rfl, ⟨_, _, rfl, rfl, rfl⟩⟩⟩⟩⟩⟩⟩⟩⟩⟩) rfl (⟨_, _, rfl, rfl, ⟨_, _, rfl, rfl, rfl⟩⟩) rfl (List.Sublist.refl _) ?_
    refine V.cond rfl (fun hc2 => ?_) (fun hc2 => ?_)
    ·
     replace hm0 := cond_t hc2 hm0
     refine V.seq ?_
     refine V.region ?_
     refine VO.cons rfl (V1.assign rfl rfl rfl lt0 ?_)
     refine VO.nil ?_
     refine V.ret ?_
     obtain rfl := Option.some.inj hm0
     exact ⟨_, [], ⟨_, _, rfl, rfl, rfl⟩, List.nil_sublist _, rfl, rfl⟩
    ·
     replace hm0 := cond_f hc2 hm0
     refine V.skip ?_
     refine V.seq ?_
     refine V.region ?_
     refine VO.cons rfl (V1.assign rfl rfl rfl lt0 ?_)
     refine VO.nil ?_
     refine V.seq ?_
     replace hm0 := bindO hm0; rcases hm0 with ⟨y8, hh8, hm0⟩
     replace hm0 := asrt_some hm0; rcases hm0 with ⟨hh9, hm0⟩
     refine V.region ?_
     refine VO.cons rfl (V1.move rfl rfl rfl lt0 ?_)
     refine VO.cons rfl (V1.move rfl rfl rfl lt0 ?_)
     refine VO.cons rfl (V1.permK (V1.callDT 1 (A := [(ob0, ⟨5, deepC cellCarton ts_66 y4.1⟩), (b2, ⟨5, deepC cellCarton ts_65 y3⟩)]) (A' := [(ob0, ⟨5, deepC cellCarton ts_66 y4.1⟩)]) (T0 := (os_66 ++ os_65)) (os := os_65) (T := os_66) (p := (b2, ⟨5, deepC cellCarton ts_65 y3⟩)) rfl rfl rfl cok_26 rfl rfl List.perm_append_comm rfl rfl (rn + 1) [] [.sref b2 5 0 (List.length y3), .int .i64 (1 : Int)] ⟨_, _, rfl, .same _, ⟨_, _, rfl, .same _, rfl⟩⟩ bwNil (ok_laws_markCartonS hh8 (oq := some b2) (tq := ts_65) (oz := os_65) (fun e => by cases e) hd_65) rfl (.inl rfl) lt0 ?_))
     rintro _ _ ⟨ts_98, os_98, hd_98, rfl, rfl⟩
     refine ⟨_, ?_, Keeps.perm (([(b2, ⟨5, deepC cellCarton ts_98 y8.2⟩), (ob0, ⟨5, deepC cellCarton ts_66 y4.1⟩)] : List (Nat × Obj')) ++ (os_98 ++ os_66)) (permDeep (p := (b2, ⟨5, deepC cellCarton ts_98 y8.2⟩)) (os := os_98) (A := [(ob0, ⟨5, deepC cellCarton ts_66 y4.1⟩)]) (T := os_66))⟩
     refine VO.cons rfl (V1.assign rfl rfl rfl lt0 ?_)
     refine VO.nil ?_
     refine V.seq ?_
     refine V.seq ?_
     replace hm0 := bindO hm0; rcases hm0 with ⟨y9, hh10, hm0⟩
     refine V.region ?_
     refine VO.cons rfl (V1.move rfl rfl rfl lt0 ?_)
     refine VO.cons rfl (V1.int rfl rfl rfl rfl rfl lt0 ?_)
     refine VO.cons rfl (V1.move rfl rfl rfl lt0 ?_)
     apply VO.or (n := 4) rfl rfl rfl rfl rfl rfl lt0 (.none rfl)
     ·
      intro hg1
      refine VO.step (.some rfl rfl rfl) (V1.move rfl rfl rfl lt0 ?_)
      refine VO.step (.some rfl rfl rfl) (V1.move rfl rfl rfl lt0 ?_)
      refine VO.step (.some rfl rfl rfl) (V1.callL (rn + 1) ([ob0] ++ List.map Prod.fst os_66) [.vl (rn + 1) 5 (List.map (encCarton (rn + 1)) y4.1), .vl rn 5 (List.map (encCarton rn) y2.1)] rfl rfl rfl cok_25 rfl ⟨_, _, rfl, Lend.deep (m := 1) (inn := (fun c_ : Carton => List.map encInt c_.Files)) (cell := cellCarton) cokCarton (ts := ts_66) (os := os_66) (xs := y4.1) 1 hd_66 rfl (fun _ => roL_map (fun _ => rfl) _) rfl (fun p hp => memTail (A := [(b2, ⟨5, deepC cellCarton ts_98 y8.2⟩), (ob0, ⟨5, deepC cellCarton ts_66 y4.1⟩)]) (T := (os_98 ++ os_66)) (List.mem_append_right _ hp) rfl) (List.mem_append_left _ (.head _)) (fun p hp => List.mem_append_right _ (List.mem_map.2 ⟨p, hp, rfl⟩)), ⟨_, _, rfl, .same _, rfl⟩⟩ (bwTail (A := [(b2, ⟨5, deepC cellCarton ts_98 y8.2⟩), (ob0, ⟨5, deepC cellCarton ts_66 y4.1⟩)]) (T := (os_98 ++ os_66)) rfl (bwCons (k := 1) rfl bwNil) (fun p hp => (List.mem_append_right _ hp))) (ok_laws_eqCartonS (cond_f hg1 hh10)) rfl (⟨(by first | omega | (dsimp only; omega)), by rintro _ _ ⟨rfl, rfl⟩; exact ⟨rfl, by simp⟩⟩) lt0 ?_)
      rintro _ _ ⟨rfl, rfl⟩
      refine VO.step (.some rfl rfl rfl) (V1.not rfl rfl rfl lt0 ?_)
      exact VO.nil ⟨rfl, rfl, rfl, rfl, .inr ⟨rfl, .inr ⟨rfl, .inr ⟨rfl, .inr ⟨rfl, .inr ⟨rfl, .inl rfl⟩⟩⟩⟩⟩⟩
     refine VO.cons rfl (V1.move rfl rfl rfl lt0 ?_)
     apply VO.or (n := 3) rfl rfl rfl rfl rfl rfl lt0 (.none rfl)
     ·
      intro hg2
      refine VO.step (.some rfl rfl rfl) (V1.move rfl rfl rfl lt0 ?_)
      refine VO.step (.some rfl rfl rfl) (V1.move rfl rfl rfl lt0 ?_)
      refine VO.step (.some rfl rfl rfl) (V1.boolNeq rfl rfl und_4 rfl rfl lt0 ?_)
      exact VO.nil ⟨rfl, rfl, rfl, rfl, .inr ⟨rfl, .inr ⟨rfl, .inr ⟨rfl, .inr ⟨rfl, .inl rfl⟩⟩⟩⟩⟩
     refine VO.nil ?_
     refine V.keepT 111 [0, 1, 2, 3, 10, 11, 13, 73] [1] (E0 := [(0, .vl ρ0 5 (List.map (encCarton σ0) aList)), (1, .int .i64 aId), (2, .int .i64 aRoom), (3, .int .i64 aShelf), (10, .vl rn 5 (List.map (encCarton rn) y2.1)), (11, .bool y2.2), (13, .sref ob0 5 0 (List.length y4.1)), (73, .bool (((decide (y8.1 < (0 : Int))) || (!y9)) || (!(y4.2 == y2.2))))]) (A := [(b2, ⟨5, deepC cellCarton ts_98 y8.2⟩), (ob0, ⟨5, deepC cellCarton ts_66 y4.1⟩)]) (T := (os_98 ++ os_66)) (H0 := [(ob0, ⟨5, deepC cellCarton ts_66 y4.1⟩)]) (T' := os_66) rfl (⟨_, _, rfl, rfl, ⟨_, _, rfl, rfl, ⟨_, _, rfl, rfl, ⟨_, _, rfl, rfl, ⟨_, _, rfl, rfl, ⟨_, _, rfl, rfl, ⟨_, _, rfl, rfl, ⟨_, _, rfl, rfl, rfl⟩⟩⟩⟩⟩⟩⟩⟩) rfl (⟨_, _, rfl, rfl, rfl⟩) rfl (List.sublist_append_right _ _) ?_
     refine V.cond rfl (fun hc3 => ?_) (fun hc3 => ?_)
     ·
      replace hm0 := cond_t hc3 hm0
      refine V.seq ?_
      refine V.region ?_
      refine VO.cons rfl (V1.assign rfl rfl rfl lt0 ?_)
      refine VO.nil ?_
      refine V.ret ?_
      obtain rfl := Option.some.inj hm0
      exact ⟨_, [], ⟨_, _, rfl, rfl, rfl⟩, List.nil_sublist _, rfl, rfl⟩
     ·
      replace hm0 := cond_f hc3 hm0
      refine V.skip ?_
      refine V.seq ?_
      refine V.region ?_
      refine VO.cons rfl (V1.assign rfl rfl rfl lt0 ?_)
      refine VO.nil ?_
      refine V.seq ?_
      replace hm0 := bindO hm0; rcases hm0 with ⟨y10, hh11, hm0⟩
      replace hm0 := asrt_some hm0; rcases hm0 with ⟨hh12, hm0⟩
      refine V.region ?_
      refine VO.cons rfl (V1.move rfl rfl rfl lt0 ?_)
      refine VO.cons rfl (V1.move rfl rfl rfl lt0 ?_)
      refine VO.cons rfl (V1.permK (V1.callDT 0 (A := [(ob0, ⟨5, deepC cellCarton ts_66 y4.1⟩)]) (A' := []) (T0 := os_66) (os := os_66) (T := []) (p := (ob0, ⟨5, deepC cellCarton ts_66 y4.1⟩)) rfl rfl rfl cok_26 rfl rfl (.of_eq (List.append_nil _).symm) rfl rfl (rn + 1) [] [.sref ob0 5 0 (List.length y4.1), .int .i64 (1 : Int)] ⟨_, _, rfl, .same _, ⟨_, _, rfl, .same _, rfl⟩⟩ bwNil (ok_laws_markCartonS hh11 (oq := some ob0) (tq := ts_66) (oz := os_66) (fun e => by cases e) hd_66) rfl (.inl rfl) lt0 ?_))
      rintro _ _ ⟨ts_100, os_100, hd_100, rfl, rfl⟩
      refine ⟨_, ?_, Keeps.perm (([(ob0, ⟨5, deepC cellCarton ts_100 y10.2⟩)] : List (Nat × Obj')) ++ os_100) (permDeep0 (p := (ob0, ⟨5, deepC cellCarton ts_100 y10.2⟩)) (os := os_100) (A := []))⟩
      refine VO.weakenK (Keeps.say 13 (y := .sref ob0 5 0 (List.length y10.2)) rfl (congrArg (PV.sref ob0 5 0) hh12.symm)) ?_
      refine VO.cons rfl (V1.assign rfl rfl rfl lt0 ?_)
      refine VO.nil ?_
      refine V.seq ?_
      refine V.region ?_
      refine VO.cons rfl (V1.assign rfl rfl rfl lt0 ?_)
      refine VO.nil ?_
      refine V.seq ?_
      replace hm0 := bindO hm0; rcases hm0 with ⟨y11, hh13, hm0⟩
      refine V.region ?_
      refine VO.cons rfl (V1.move rfl rfl rfl lt0 ?_)
      refine VO.cons rfl (V1.move rfl rfl rfl lt0 ?_)
      refine VO.cons rfl (V1.callL (rn + 1) ([ob0] ++ List.map Prod.fst os_100) [.vl (rn + 1) 5 (List.map (encCarton (rn + 1)) y10.2), .int .i64 (1 : Int)] rfl rfl rfl cok_33 rfl ⟨_, _, rfl, Lend.deep (m := 1) (inn := (fun c_ : Carton => List.map encInt c_.Files)) (cell := cellCarton) cokCarton (ts := ts_100) (os := os_100) (xs := y10.2) 0 hd_100 rfl (fun _ => roL_map (fun _ => rfl) _) rfl (fun p hp => memTail (A := [(ob0, ⟨5, deepC cellCarton ts_100 y10.2⟩)]) (T := os_100) hp rfl) (List.mem_append_left _ (.head _)) (fun p hp => List.mem_append_right _ (List.mem_map.2 ⟨p, hp, rfl⟩)), ⟨_, _, rfl, .same _, rfl⟩⟩ (bwTail (A := [(ob0, ⟨5, deepC cellCarton ts_100 y10.2⟩)]) (T := os_100) rfl (bwCons (k := 0) rfl bwNil) (fun p hp => hp)) (ok_laws_heldCartonS hh13) rfl (⟨(by first | omega | (dsimp only; omega)), by rintro _ _ ⟨rfl, rfl⟩; exact ⟨rfl, by simp⟩⟩) lt0 ?_)
      rintro _ _ ⟨rfl, rfl⟩
      refine VO.cons rfl (V1.assign rfl rfl rfl lt0 ?_)
      refine VO.nil ?_
      refine V.keepT 111 [0, 1, 2, 3, 10, 11, 13, 16, 17] [0] (E0 := [(0, .vl ρ0 5 (List.map (encCarton σ0) aList)), (1, .int .i64 aId), (2, .int .i64 aRoom), (3, .int .i64 aShelf), (10, .vl rn 5 (List.map (encCarton rn) y2.1)), (11, .bool y2.2), (13, .sref ob0 5 0 (List.length y10.2)), (16, .int .i64 y10.1), (17, .int .i64 y11)]) (A := [(ob0, ⟨5, deepC cellCarton ts_100 y10.2⟩)]) (T := os_100) (H0 := [(ob0, ⟨5, deepC cellCarton ts_100 y10.2⟩)]) (T' := os_100) rfl (⟨_, _, rfl, rfl, ⟨_, _, rfl, rfl, ⟨_, _, rfl, rfl, ⟨_, _, rfl, rfl, ⟨_, _, rfl, rfl, ⟨_, _, rfl, rfl, ⟨_, _, rfl, rfl, ⟨_, _, rfl, rfl, ⟨_, _, rfl, rfl, rfl⟩⟩⟩⟩⟩⟩⟩⟩⟩) rfl (⟨_, _, rfl, rfl, rfl⟩) rfl (List.Sublist.refl _) ?_
      refine V.seq ?_
      refine V.seq ?_
      refine V.region ?_
      refine VO.cons rfl (V1.move rfl rfl rfl lt0 ?_)
      refine VO.cons rfl (V1.int rfl rfl rfl rfl rfl lt0 ?_)
      refine VO.nil ?_
      refine V.cond rfl (fun hc4 => ?_) (fun hc4 => ?_)
      ·
       replace hm0 := cond_t hc4 hm0
       refine V.seq ?_
       refine V.region ?_
       refine VO.cons rfl (V1.assign rfl rfl rfl lt0 ?_)
       refine VO.nil ?_
       refine V.ret ?_
       obtain rfl := Option.some.inj hm0
       exact ⟨_, [], ⟨_, _, rfl, rfl, rfl⟩, List.nil_sublist _, rfl, rfl⟩
      ·
       replace hm0 := cond_f hc4 hm0
       refine V.skip ?_
       refine V.seq ?_
       refine V.seq ?_
       refine V.region ?_
       refine VO.cons rfl (V1.move rfl rfl rfl lt0 ?_)
       refine VO.cons rfl (V1.move rfl rfl rfl lt0 ?_)
       refine VO.cons rfl (V1.int rfl rfl rfl rfl rfl lt0 ?_)
       refine VO.nil ?_
       refine V.keepT 111 [0, 1, 2, 3, 10, 11, 13, 16, 84] [0] (E0 := [(0, .vl ρ0 5 (List.map (encCarton σ0) aList)), (1, .int .i64 aId), (2, .int .i64 aRoom), (3, .int .i64 aShelf), (10, .vl rn 5 (List.map (encCarton rn) y2.1)), (11, .bool y2.2), (13, .sref ob0 5 0 (List.length y10.2)), (16, .int .i64 y10.1), (84, .bool (y11 != y10.1))]) (A := [(ob0, ⟨5, deepC cellCarton ts_100 y10.2⟩)]) (T := os_100) (H0 := [(ob0, ⟨5, deepC cellCarton ts_100 y10.2⟩)]) (T' := os_100) rfl (⟨_, _, rfl, rfl, ⟨_, _, rfl, rfl, ⟨_, _, rfl, rfl, ⟨_, _, rfl, rfl, ⟨_, _, rfl, rfl, ⟨_, _, rfl, rfl, ⟨_, _, rfl, rfl, ⟨_, _, rfl, rfl, ⟨_, _, rfl, rfl, rfl⟩⟩⟩⟩⟩⟩⟩⟩⟩) rfl (⟨_, _, rfl, rfl, rfl⟩) rfl (List.Sublist.refl _) ?_
       refine V.cond rfl (fun hc5 => ?_) (fun hc5 => ?_)
       ·
        replace hm0 := cond_t hc5 hm0
        refine V.seq ?_
        refine V.region ?_
        refine VO.cons rfl (V1.assign rfl rfl rfl lt0 ?_)
        refine VO.nil ?_
        refine V.ret ?_
        obtain rfl := Option.some.inj hm0
        exact ⟨_, [], ⟨_, _, rfl, rfl, rfl⟩, List.nil_sublist _, rfl, rfl⟩
       ·
        replace hm0 := cond_f hc5 hm0
        refine V.skip ?_
        refine V.seq ?_
        replace hm0 := bindO hm0; rcases hm0 with ⟨y12, hh14, hm0⟩
        replace hm0 := bindO hm0; rcases hm0 with ⟨y13, hh15, hm0⟩
        refine V.region ?_
        refine VO.cons rfl (V1.move rfl rfl rfl lt0 ?_)
        refine VO.cons rfl (V1.call rfl rfl rfl cok_22 rfl (ok_laws_toCartonS hh14) rfl lt0 ?_)
        rintro _ _ ⟨b4, rfl, rfl⟩
        refine VO.weakenK (Keeps.freezeG 0 rn [(87, .vl rn 5 (List.map (encCarton rn) y12))] ((ob0, ⟨5, deepC cellCarton ts_100 y10.2⟩) :: os_100) (f := (encCarton rn)) (l := y12) rfl (fun _ => rfl) ⟨⟨_, rfl, .here⟩, trivial⟩ ⟨_, _, rfl, rfl, .inl rfl, FrzH.same⟩ rfl iNil) ?_
        refine VO.cons rfl (V1.move rfl rfl rfl lt0 ?_)
        refine VO.cons rfl (V1.move rfl rfl rfl lt0 ?_)
        refine VO.cons rfl (V1.move rfl rfl rfl lt0 ?_)
        refine VO.cons rfl (V1.permK (V1.call rfl rfl rfl cok_32 rfl (ok_impl_MoveCarton hh15) rfl lt0 ?_))
        rintro _ _ ⟨ob1, ts_103, os_103, hob1, hd_103, rfl, rfl⟩
        refine ⟨_, ?_, Keeps.perm (optH 5 ob1 (deepC cellCarton ts_103 y13.1) ++ (([(ob0, ⟨5, deepC cellCarton ts_100 y10.2⟩)] : List (Nat × Obj')) ++ (os_103 ++ os_100))) (permDeepO (o := optH 5 ob1 (deepC cellCarton ts_103 y13.1)) (os := os_103) (A := [(ob0, ⟨5, deepC cellCarton ts_100 y10.2⟩)]) (T := os_100))⟩
        refine VO.cons rfl (V1.move rfl rfl rfl lt0 ?_)
        refine VO.cons rfl (V1.extract rfl rfl rfl rfl lt0 ?_)
        refine VO.cons rfl (V1.extract rfl rfl rfl rfl lt0 ?_)
        refine VO.cons rfl (V1.assign rfl rfl rfl lt0 ?_)
        refine VO.cons rfl (V1.assign rfl rfl rfl lt0 ?_)
        refine VO.nil ?_
        rcases ob1 with _ | ob1
        ·
         obtain ⟨rfl, rfl⟩ := Deep.nil (hob1 rfl) hd_103
         refine V.keepT 111 [10, 11, 13, 16, 18, 19] [0] (E0 := [(10, .vl rn 5 (List.map (encCarton rn) y2.1)), (11, .bool y2.2), (13, .sref ob0 5 0 (List.length y10.2)), (16, .int .i64 y10.1), (18, .nils), (19, .bool y13.2)]) (A := [(ob0, ⟨5, deepC cellCarton ts_100 y10.2⟩)]) (T := os_100) (H0 := [(ob0, ⟨5, deepC cellCarton ts_100 y10.2⟩)]) (T' := os_100) rfl (⟨_, _, rfl, rfl, ⟨_, _, rfl, rfl, ⟨_, _, rfl, rfl, ⟨_, _, rfl, rfl, ⟨_, _, rfl, rfl, ⟨_, _, rfl, rfl, rfl⟩⟩⟩⟩⟩⟩) rfl (⟨_, _, rfl, rfl, rfl⟩) rfl (List.Sublist.refl _) ?_
         refine V.seq ?_
         refine V.seq ?_
         replace hm0 := bindO hm0; rcases hm0 with ⟨y14, hh16, hm0⟩
         refine V.region ?_
         refine VO.cons rfl (V1.move rfl rfl rfl lt0 ?_)
         refine VO.cons rfl (V1.move rfl rfl rfl lt0 ?_)
         refine VO.weakenK (Keeps.nilsE (l := y13.1) 94 rn 5 (encCarton rn) (hob1 rfl) rfl rfl) ?_
         refine VO.cons rfl (V1.call rfl rfl rfl cok_25 rfl (ok_laws_eqCartonS hh16) rfl lt0 ?_)
         rintro _ _ ⟨rfl, rfl⟩
         refine VO.cons rfl (V1.not rfl rfl rfl lt0 ?_)
         refine VO.cons rfl (V1.move rfl rfl rfl lt0 ?_)
         apply VO.or (n := 3) rfl rfl rfl rfl rfl rfl lt0 (.none rfl)
         ·
          intro hg3
          refine VO.step (.some rfl rfl rfl) (V1.move rfl rfl rfl lt0 ?_)
          refine VO.step (.some rfl rfl rfl) (V1.move rfl rfl rfl lt0 ?_)
          refine VO.step (.some rfl rfl rfl) (V1.boolNeq rfl rfl und_4 rfl rfl lt0 ?_)
          exact VO.nil ⟨rfl, rfl, rfl, rfl, .inr ⟨rfl, .inr ⟨rfl, .inr ⟨rfl, .inr ⟨rfl, .inl rfl⟩⟩⟩⟩⟩
         refine VO.nil ?_
         refine V.keepT 111 [13, 16, 102] [0] (E0 := [(13, .sref ob0 5 0 (List.length y10.2)), (16, .int .i64 y10.1), (102, .bool ((!y14) || (!(y13.2 == y2.2))))]) (A := [(ob0, ⟨5, deepC cellCarton ts_100 y10.2⟩)]) (T := os_100) (H0 := [(ob0, ⟨5, deepC cellCarton ts_100 y10.2⟩)]) (T' := os_100) rfl (⟨_, _, rfl, rfl, ⟨_, _, rfl, rfl, ⟨_, _, rfl, rfl, rfl⟩⟩⟩) rfl (⟨_, _, rfl, rfl, rfl⟩) rfl (List.Sublist.refl _) ?_
         refine V.cond rfl (fun hc6 => ?_) (fun hc6 => ?_)
         ·
          replace hm0 := cond_t hc6 hm0
          refine V.seq ?_
          refine V.region ?_
          refine VO.cons rfl (V1.assign rfl rfl rfl lt0 ?_)
          refine VO.nil ?_
          refine V.ret ?_
          obtain rfl := Option.some.inj hm0
          exact ⟨_, [], ⟨_, _, rfl, rfl, rfl⟩, List.nil_sublist _, rfl, rfl⟩
         ·
          replace hm0 := cond_f hc6 hm0
          refine V.skip ?_
          refine V.seq ?_
          refine V.region ?_
          refine VO.cons rfl (V1.assign rfl rfl rfl lt0 ?_)
          refine VO.nil ?_
          refine V.seq ?_
          replace hm0 := bindO hm0; rcases hm0 with ⟨y15, hh17, hm0⟩
          refine V.region ?_
          refine VO.cons rfl (V1.move rfl rfl rfl lt0 ?_)
          refine VO.cons rfl (V1.move rfl rfl rfl lt0 ?_)
          refine VO.cons rfl (V1.callL (rn + 1) ([ob0] ++ List.map Prod.fst os_100) [.vl (rn + 1) 5 (List.map (encCarton (rn + 1)) y10.2), .int .i64 (1 : Int)] rfl rfl rfl cok_33 rfl ⟨_, _, rfl, Lend.deep (m := 1) (inn := (fun c_ : Carton => List.map encInt c_.Files)) (cell := cellCarton) cokCarton (ts := ts_100) (os := os_100) (xs := y10.2) 0 hd_100 rfl (fun _ => roL_map (fun _ => rfl) _) rfl (fun p hp => memTail (A := [(ob0, ⟨5, deepC cellCarton ts_100 y10.2⟩)]) (T := os_100) hp rfl) (List.mem_append_left _ (.head _)) (fun p hp => List.mem_append_right _ (List.mem_map.2 ⟨p, hp, rfl⟩)), ⟨_, _, rfl, .same _, rfl⟩⟩ (bwTail (A := [(ob0, ⟨5, deepC cellCarton ts_100 y10.2⟩)]) (T := os_100) rfl (bwCons (k := 0) rfl bwNil) (fun p hp => hp)) (ok_laws_heldCartonS hh17) rfl (⟨(by first | omega | (dsimp only; omega)), by rintro _ _ ⟨rfl, rfl⟩; exact ⟨rfl, by simp⟩⟩) lt0 ?_)
          rintro _ _ ⟨rfl, rfl⟩
          refine VO.cons rfl (V1.assign rfl rfl rfl lt0 ?_)
          refine VO.nil ?_
          refine V.keepT 111 [16, 17] [] (E0 := [(16, .int .i64 y10.1), (17, .int .i64 y15)]) (A := [(ob0, ⟨5, deepC cellCarton ts_100 y10.2⟩)]) (T := os_100) (H0 := []) (T' := []) rfl (⟨_, _, rfl, rfl, ⟨_, _, rfl, rfl, rfl⟩⟩) rfl (rfl) rfl (List.nil_sublist _) ?_
          refine V.seq ?_
          refine V.seq ?_
          refine V.region ?_
          refine VO.cons rfl (V1.move rfl rfl rfl lt0 ?_)
          refine VO.cons rfl (V1.int rfl rfl rfl rfl rfl lt0 ?_)
          refine VO.nil ?_
          refine V.cond rfl (fun hc7 => ?_) (fun hc7 => ?_)
          ·
           replace hm0 := cond_t hc7 hm0
           refine V.seq ?_
           refine V.region ?_
           refine VO.cons rfl (V1.assign rfl rfl rfl lt0 ?_)
           refine VO.nil ?_
           refine V.ret ?_
           obtain rfl := Option.some.inj hm0
           exact ⟨_, [], ⟨_, _, rfl, rfl, rfl⟩, List.nil_sublist _, rfl, rfl⟩
          ·
           replace hm0 := cond_f hc7 hm0
           refine V.skip ?_
           refine V.seq ?_
           refine V.seq ?_
           refine V.region ?_
           refine VO.cons rfl (V1.move rfl rfl rfl lt0 ?_)
           refine VO.cons rfl (V1.move rfl rfl rfl lt0 ?_)
           refine VO.cons rfl (V1.int rfl rfl rfl rfl rfl lt0 ?_)
           refine VO.nil ?_
           refine V.keep 111 [110] [] (E0 := [(110, .bool (y15 != y10.1))]) (H0 := []) rfl (⟨_, _, rfl, rfl, rfl⟩) (rfl) rfl ?_
           refine V.cond rfl (fun hc8 => ?_) (fun hc8 => ?_)
           ·
            replace hm0 := cond_t hc8 hm0
            refine V.seq ?_
            refine V.region ?_
            refine VO.cons rfl (V1.assign rfl rfl rfl lt0 ?_)
            refine VO.nil ?_
            refine V.ret ?_
            obtain rfl := Option.some.inj hm0
            exact ⟨_, [], ⟨_, _, rfl, rfl, rfl⟩, List.nil_sublist _, rfl, rfl⟩
           ·
            replace hm0 := cond_f hc8 hm0
            refine V.skip ?_
            refine V.seq ?_
            refine V.region ?_
            refine VO.cons rfl (V1.assign rfl rfl rfl lt0 ?_)
            refine VO.nil ?_
            refine V.ret ?_
            obtain rfl := Option.some.inj hm0
            exact ⟨_, [], ⟨_, _, rfl, rfl, rfl⟩, List.nil_sublist _, rfl, rfl⟩
        ·
         refine V.keepT 111 [10, 11, 13, 16, 18, 19] [0, 1] (E0 := [(10, .vl rn 5 (List.map (encCarton rn) y2.1)), (11, .bool y2.2), (13, .sref ob0 5 0 (List.length y10.2)), (16, .int .i64 y10.1), (18, .sref ob1 5 0 (List.length y13.1)), (19, .bool y13.2)]) (A := [(ob1, ⟨5, deepC cellCarton ts_103 y13.1⟩), (ob0, ⟨5, deepC cellCarton ts_100 y10.2⟩)]) (T := (os_103 ++ os_100)) (H0 := [(ob1, ⟨5, deepC cellCarton ts_103 y13.1⟩), (ob0, ⟨5, deepC cellCarton ts_100 y10.2⟩)]) (T' := (os_103 ++ os_100)) rfl (⟨_, _, rfl, rfl, ⟨_, _, rfl, rfl, ⟨_, _, rfl, rfl, ⟨_, _, rfl, rfl, ⟨_, _, rfl, rfl, ⟨_, _, rfl, rfl, rfl⟩⟩⟩⟩⟩⟩) rfl (⟨_, _, rfl, rfl, ⟨_, _, rfl, rfl, rfl⟩⟩) rfl (List.Sublist.refl _) ?_
         refine V.seq ?_
         refine V.seq ?_
         replace hm0 := bindO hm0; rcases hm0 with ⟨y14, hh16, hm0⟩
         refine V.region ?_
         refine VO.cons rfl (V1.move rfl rfl rfl lt0 ?_)
         refine VO.cons rfl (V1.move rfl rfl rfl lt0 ?_)
         refine VO.cons rfl (V1.callL (rn + 1) ([ob1] ++ List.map Prod.fst os_103) [.vl (rn + 1) 5 (List.map (encCarton (rn + 1)) y13.1), .vl rn 5 (List.map (encCarton rn) y2.1)] rfl rfl rfl cok_25 rfl ⟨_, _, rfl, Lend.deep (m := 1) (inn := (fun c_ : Carton => List.map encInt c_.Files)) (cell := cellCarton) cokCarton (ts := ts_103) (os := os_103) (xs := y13.1) 0 hd_103 rfl (fun _ => roL_map (fun _ => rfl) _) rfl (fun p hp => memTail (A := [(ob1, ⟨5, deepC cellCarton ts_103 y13.1⟩), (ob0, ⟨5, deepC cellCarton ts_100 y10.2⟩)]) (T := (os_103 ++ os_100)) (List.mem_append_left _ hp) rfl) (List.mem_append_left _ (.head _)) (fun p hp => List.mem_append_right _ (List.mem_map.2 ⟨p, hp, rfl⟩)), ⟨_, _, rfl, .same _, rfl⟩⟩ (bwTail (A := [(ob1, ⟨5, deepC cellCarton ts_103 y13.1⟩), (ob0, ⟨5, deepC cellCarton ts_100 y10.2⟩)]) (T := (os_103 ++ os_100)) rfl (bwCons (k := 0) rfl bwNil) (fun p hp => (List.mem_append_left _ hp))) (ok_laws_eqCartonS hh16) rfl (⟨(by first | omega | (dsimp only; omega)), by rintro _ _ ⟨rfl, rfl⟩; exact ⟨rfl, by simp⟩⟩) lt0 ?_)
         rintro _ _ ⟨rfl, rfl⟩
         refine VO.cons rfl (V1.not rfl rfl rfl lt0 ?_)
         refine VO.cons rfl (V1.move rfl rfl rfl lt0 ?_)
         apply VO.or (n := 3) rfl rfl rfl rfl rfl rfl lt0 (.none rfl)
         ·
          intro hg3
          refine VO.step (.some rfl rfl rfl) (V1.move rfl rfl rfl lt0 ?_)
          refine VO.step (.some rfl rfl rfl) (V1.move rfl rfl rfl lt0 ?_)
          refine VO.step (.some rfl rfl rfl) (V1.boolNeq rfl rfl und_4 rfl rfl lt0 ?_)
          exact VO.nil ⟨rfl, rfl, rfl, rfl, .inr ⟨rfl, .inr ⟨rfl, .inr ⟨rfl, .inr ⟨rfl, .inl rfl⟩⟩⟩⟩⟩
         refine VO.nil ?_
         refine V.keepT 111 [13, 16, 102] [1] (E0 := [(13, .sref ob0 5 0 (List.length y10.2)), (16, .int .i64 y10.1), (102, .bool ((!y14) || (!(y13.2 == y2.2))))]) (A := [(ob1, ⟨5, deepC cellCarton ts_103 y13.1⟩), (ob0, ⟨5, deepC cellCarton ts_100 y10.2⟩)]) (T := (os_103 ++ os_100)) (H0 := [(ob0, ⟨5, deepC cellCarton ts_100 y10.2⟩)]) (T' := os_100) rfl (⟨_, _, rfl, rfl, ⟨_, _, rfl, rfl, ⟨_, _, rfl, rfl, rfl⟩⟩⟩) rfl (⟨_, _, rfl, rfl, rfl⟩) rfl (List.sublist_append_right _ _) ?_
         refine V.cond rfl (fun hc6 => ?_) (fun hc6 => ?_)
         ·
          replace hm0 := cond_t hc6 hm0
          refine V.seq ?_
          refine V.region ?_
          refine VO.cons rfl (V1.assign rfl rfl rfl lt0 ?_)
          refine VO.nil ?_
          refine V.ret ?_
          obtain rfl := Option.some.inj hm0
          exact ⟨_, [], ⟨_, _, rfl, rfl, rfl⟩, List.nil_sublist _, rfl, rfl⟩
         ·
          replace hm0 := cond_f hc6 hm0
          refine V.skip ?_
          refine V.seq ?_
          refine V.region ?_
          refine VO.cons rfl (V1.assign rfl rfl rfl lt0 ?_)
          refine VO.nil ?_
          refine V.seq ?_
          replace hm0 := bindO hm0; rcases hm0 with ⟨y15, hh17, hm0⟩
          refine V.region ?_
          refine VO.cons rfl (V1.move rfl rfl rfl lt0 ?_)
          refine VO.cons rfl (V1.move rfl rfl rfl lt0 ?_)
          refine VO.cons rfl (V1.callL (rn + 1) ([ob0] ++ List.map Prod.fst os_100) [.vl (rn + 1) 5 (List.map (encCarton (rn + 1)) y10.2), .int .i64 (1 : Int)] rfl rfl rfl cok_33 rfl ⟨_, _, rfl, Lend.deep (m := 1) (inn := (fun c_ : Carton => List.map encInt c_.Files)) (cell := cellCarton) cokCarton (ts := ts_100) (os := os_100) (xs := y10.2) 0 hd_100 rfl (fun _ => roL_map (fun _ => rfl) _) rfl (fun p hp => memTail (A := [(ob0, ⟨5, deepC cellCarton ts_100 y10.2⟩)]) (T := os_100) hp rfl) (List.mem_append_left _ (.head _)) (fun p hp => List.mem_append_right _ (List.mem_map.2 ⟨p, hp, rfl⟩)), ⟨_, _, rfl, .same _, rfl⟩⟩ (bwTail (A := [(ob0, ⟨5, deepC cellCarton ts_100 y10.2⟩)]) (T := os_100) rfl (bwCons (k := 0) rfl bwNil) (fun p hp => hp)) (ok_laws_heldCartonS hh17) rfl (⟨(by first | omega | (dsimp only; omega)), by rintro _ _ ⟨rfl, rfl⟩; exact ⟨rfl, by simp⟩⟩) lt0 ?_)
          rintro _ _ ⟨rfl, rfl⟩
          refine VO.cons rfl (V1.assign rfl rfl rfl lt0 ?_)
          refine VO.nil ?_
          refine V.keepT 111 [16, 17] [] (E0 := [(16, .int .i64 y10.1), (17, .int .i64 y15)]) (A := [(ob0, ⟨5, deepC cellCarton ts_100 y10.2⟩)]) (T := os_100) (H0 := []) (T' := []) rfl (⟨_, _, rfl, rfl, ⟨_, _, rfl, rfl, rfl⟩⟩) rfl (rfl) rfl (List.nil_sublist _) ?_
          refine V.seq ?_
          refine V.seq ?_
          refine V.region ?_
          refine VO.cons rfl (V1.move rfl rfl rfl lt0 ?_)
          refine VO.cons rfl (V1.int rfl rfl rfl rfl rfl lt0 ?_)
          refine VO.nil ?_
          refine V.cond rfl (fun hc7 => ?_) (fun hc7 => ?_)
          ·
           replace hm0 := cond_t hc7 hm0
           refine V.seq ?_
           refine V.region ?_
           refine VO.cons rfl (V1.assign rfl rfl rfl lt0 ?_)
           refine VO.nil ?_
           refine V.ret ?_
           obtain rfl := Option.some.inj hm0
           exact ⟨_, [], ⟨_, _, rfl, rfl, rfl⟩, List.nil_sublist _, rfl, rfl⟩
          ·
           replace hm0 := cond_f hc7 hm0
           refine V.skip ?_
           refine V.seq ?_
           refine V.seq ?_
           refine V.region ?_
           refine VO.cons rfl (V1.move rfl rfl rfl lt0 ?_)
           refine VO.cons rfl (V1.move rfl rfl rfl lt0 ?_)
           refine VO.cons rfl (V1.int rfl rfl rfl rfl rfl lt0 ?_)
           refine VO.nil ?_
           refine V.keep 111 [110] [] (E0 := [(110, .bool (y15 != y10.1))]) (H0 := []) rfl (⟨_, _, rfl, rfl, rfl⟩) (rfl) rfl ?_
           refine V.cond rfl (fun hc8 => ?_) (fun hc8 => ?_)
           ·
            replace hm0 := cond_t hc8 hm0
            refine V.seq ?_
            refine V.region ?_
            refine VO.cons rfl (V1.assign rfl rfl rfl lt0 ?_)
            refine VO.nil ?_
            refine V.ret ?_
            obtain rfl := Option.some.inj hm0
            exact ⟨_, [], ⟨_, _, rfl, rfl, rfl⟩, List.nil_sublist _, rfl, rfl⟩
           ·
            replace hm0 := cond_f hc8 hm0
            refine V.skip ?_
            refine V.seq ?_
            refine V.region ?_
            refine VO.cons rfl (V1.assign rfl rfl rfl lt0 ?_)
            refine VO.nil ?_
            refine V.ret ?_
            obtain rfl := Option.some.inj hm0
            exact ⟨_, [], ⟨_, _, rfl, rfl, rfl⟩, List.nil_sublist _, rfl, rfl⟩
end Go.Proofs.Ytfebeomnlkfgoaa
