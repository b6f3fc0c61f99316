/- the functions do what their models say -/
import Derived.Test.YtpmjemddofcmaaaQz1
set_option linter.unusedSimpArgs false
set_option linter.unusedVariables false
set_option maxRecDepth 100000
set_option maxHeartbeats 4000000
namespace Go.Proofs.Ytpmjemddofcmaaa
open Go.VS

theorem ok_laws_eqHandS {ρ0 ρ1 rn : Nat} {a : List Hand} {b_ : List Hand} {r : Bool} (h : M.laws_eqHandS a b_ = some r) : Does Try.prog 9 [.vl ρ0 6 (List.map encHand a), .vl ρ1 6 (List.map encHand b_)] [] rn (fun x H => x = .bool r ∧ H = []) := by
 have hm0 := h; clear h; unfold M.laws_eqHandS at hm0
 try dsimp only at hm0
 refine Does.intro (N := 27) Try.func9 rfl rfl rfl rfl ?_
 intro w0 S0 L0
 refine V.seq ?_
 refine V.region ?_
 refine VO.cons rfl (V1.assign rfl rfl rfl lt0 ?_)
 refine VO.nil ?_
 refine V.seq ?_
 refine V.seq ?_
 refine V.region ?_
 refine VO.cons rfl (V1.move rfl rfl rfl lt0 ?_)
 refine VO.cons rfl (V1.lenMap rfl rfl rfl rfl rfl rfl isl_27 lt0 ?_)
 refine VO.cons rfl (V1.move rfl rfl rfl lt0 ?_)
 refine VO.cons rfl (V1.lenMap rfl rfl rfl rfl rfl rfl isl_27 lt0 ?_)
 refine VO.cons rfl (V1.int rfl rfl rfl rfl rfl lt0 ?_)
 refine VO.nil ?_
 refine V.keep 27 [0, 1, 10] [] (E0 := [(0, .vl ρ0 6 (List.map encHand a)), (1, .vl ρ1 6 (List.map encHand b_)), (10, .bool ((a.length : Int) != (b_.length : Int)))]) (H0 := []) rfl (⟨_, _, rfl, rfl, _, _, rfl, rfl, _, _, rfl, rfl, rfl⟩) (rfl) rfl ?_
 refine V.cond rfl (fun hc0 => ?_) (fun hc0 => ?_)
 ·
  replace hm0 := cond_t hc0 hm0
  refine V.seq ?_
  refine V.region ?_
  refine VO.cons rfl (V1.assign rfl rfl rfl lt0 ?_)
  refine VO.nil ?_
  refine V.ret ?_
  obtain rfl := Option.some.inj hm0
  exact ⟨_, [], ⟨_, _, rfl, rfl, rfl⟩, List.nil_sublist _, rfl, rfl⟩
 ·
  replace hm0 := cond_f hc0 hm0
  refine V.skip ?_
  refine V.seq ?_
  refine V.seq ?_
  refine V.region ?_
  refine VO.cons rfl (V1.assign rfl rfl rfl lt0 ?_)
  refine VO.nil ?_
  replace hm0 := bindO hm0; rcases hm0 with ⟨e0, he1, hm0⟩
  refine V.cutT (D := (Unit) × (Unit)) (fun ⟨_, _⟩ => ⟨27, [], []⟩) (fun ⟨_, _⟩ => (.inl () = e0)) ?_ ?_
  ·
   refine V.block ?_
   refine V.keep 27 [5, 0, 1] [] (E0 := [(5, .int .i64 (0 : Int)), (0, .vl ρ0 6 (List.map encHand a)), (1, .vl ρ1 6 (List.map encHand b_))]) (H0 := []) rfl (⟨_, _, rfl, rfl, _, _, rfl, rfl, _, _, rfl, rfl, rfl⟩) (rfl) rfl ?_
   refine V.loopE (D := Nat × (Int) × (Unit)) (fun ⟨n0, i, _⟩ => [(5, .int .i64 i)]) (fun ⟨n0, i, _⟩ => []) (fun ⟨n0, i, _⟩ => loopO (M.laws_eqHandS_l0 a b_) n0 i = some e0) (fun ⟨n0, _, _⟩ => n0) (rounds, (0 : Int), ()) rfl he1 ?_
   rintro ⟨n0, i, _⟩ hP0
   obtain ⟨m0, y0, rfl, hm1, hl1, hr1⟩ := loop_head hP0
   unfold M.laws_eqHandS_l0 at hm1; dsimp only at hm1
   show V _ _ _ ⟨27, [(5, .int .i64 i), (0, .vl ρ0 6 (List.map encHand a)), (1, .vl ρ1 6 (List.map encHand b_))], []⟩
   refine V.seq ?_
   refine V.seq ?_
   refine V.region ?_
   refine VO.cons rfl (V1.move rfl rfl rfl lt0 ?_)
   refine VO.cons rfl (V1.move rfl rfl rfl lt0 ?_)
   refine VO.cons rfl (V1.lenMap rfl rfl rfl rfl rfl rfl isl_27 lt0 ?_)
   refine VO.cons rfl (V1.int rfl rfl rfl rfl rfl lt0 ?_)
   refine VO.nil ?_
   refine V.cond rfl (fun hc1 => ?_) (fun hc1 => ?_)
   ·
    replace hm1 := cond_t hc1 hm1
    refine V.skip ?_
    refine V.keep 27 [0, 1, 5] [] (E0 := [(0, .vl ρ0 6 (List.map encHand a)), (1, .vl ρ1 6 (List.map encHand b_)), (5, .int .i64 i)]) (H0 := []) rfl (⟨_, _, rfl, rfl, _, _, rfl, rfl, _, _, rfl, rfl, rfl⟩) (rfl) rfl ?_
    refine V.seq ?_
    refine V.block ?_
    refine V.seq ?_
    replace hm1 := asrt_some hm1; rcases hm1 with ⟨hh0, hm1⟩
    replace hm1 := asrt_some hm1; rcases hm1 with ⟨hh1, hm1⟩
    replace hm1 := bindO hm1; rcases hm1 with ⟨y1, hh2, hm1⟩
    refine V.regionM 27 8 [⟨[(0, none)], [], none⟩, ⟨[(5, none)], [], none⟩, ⟨[(17, some 1), (18, some 0)], [], none⟩, ⟨[(19, some 0)], [], none⟩, ⟨[(1, none)], [], none⟩, ⟨[(5, none)], [], none⟩, ⟨[(21, some 1), (22, some 0)], [], none⟩, ⟨[(23, some 0)], [], none⟩] [(0, none), (1, none), (5, none), (20, some 4), (24, some 0)] (⟨_, rfl, ⟨_, rfl, ⟨_, rfl, ⟨_, rfl, ⟨_, rfl, ⟨_, rfl, ⟨_, rfl, ⟨_, rfl, ⟨rfl, rfl⟩⟩⟩⟩⟩⟩⟩⟩⟩) mixed_orders rfl (by decide +kernel) (fun hck6 => ?_)
    refine VP.step (p := ?pv82) rfl rfl rfl (⟨_, _, rfl, rfl, rfl⟩) ?hv82 ?rest82 hck6
    case hv82 =>
     intro E1
     refine (V1.move rfl rfl rfl lt0 ?_)
     exact rfl
    refine VP.step (p := ?pv83) rfl rfl rfl (⟨_, _, rfl, rfl, rfl⟩) ?hv83 ?rest83 hck6
    case hv83 =>
     intro E1
     refine (V1.move rfl rfl rfl lt0 ?_)
     exact rfl
    refine VP.step (p := ?pv84) rfl rfl rfl (⟨_, _, rfl, rfl, _, _, rfl, rfl, rfl⟩) ?hv84 ?rest84 hck6
    case hv84 =>
     intro E1
     refine (V1.indexI rfl rfl esz_27 rfl rfl hh0 lt0 ?_)
     exact rfl
    refine VP.step (p := ?pv85) rfl rfl rfl (⟨_, _, rfl, rfl, rfl⟩) ?hv85 ?rest85 hck6
    case hv85 =>
     intro E1
     refine (V1.loadPinAll rfl rfl tyk_37 rfl rfl lt0 ?_)
     exact rfl
    refine VP.step (p := ?pv86) rfl rfl rfl (⟨_, _, rfl, rfl, rfl⟩) ?hv86 ?rest86 hck6
    case hv86 =>
     intro E1
     refine (V1.move rfl rfl rfl lt0 ?_)
     exact rfl
    refine VP.step (p := ?pv87) rfl rfl rfl (⟨_, _, rfl, rfl, rfl⟩) ?hv87 ?rest87 hck6
    case hv87 =>
     intro E1
     refine (V1.move rfl rfl rfl lt0 ?_)
     exact rfl
    refine VP.step (p := ?pv88) rfl rfl rfl (⟨_, _, rfl, rfl, _, _, rfl, rfl, rfl⟩) ?hv88 ?rest88 hck6
    case hv88 =>
     intro E1
     refine (V1.indexI rfl rfl esz_27 rfl rfl hh1 lt0 ?_)
     exact rfl
    refine VP.step (p := ?pv89) rfl rfl rfl (⟨_, _, rfl, rfl, rfl⟩) ?hv89 ?rest89 hck6
    case hv89 =>
     intro E1
     refine (V1.loadPinAll rfl rfl tyk_37 rfl rfl lt0 ?_)
     exact rfl
    refine VP.fin rfl (⟨_, _, rfl, rfl, _, _, rfl, rfl, _, _, rfl, rfl, _, _, rfl, rfl, _, _, rfl, rfl, rfl⟩) ?_
    refine VO.cons rfl (V1.call rfl rfl rfl cok_21 rfl (ok_laws_eqHand hh2) rfl lt0 ?_)
    rintro _ _ ⟨rfl, rfl⟩
    refine VO.cons rfl (V1.not rfl rfl rfl lt0 ?_)
    refine VO.nil ?_
    refine V.cond rfl (fun hc2 => ?_) (fun hc2 => ?_)
    ·
     replace hm1 := cond_t hc2 hm1
     refine V.seq ?_
     refine V.region ?_
     refine VO.cons rfl (V1.assign rfl rfl rfl lt0 ?_)
     refine VO.nil ?_
     refine V.ret ?_
     obtain rfl := hr1 _ (Option.some.inj hm1).symm
     change some _ = some _ at hm0
     obtain rfl := Option.some.inj hm0
     exact ⟨_, [], ⟨_, _, rfl, rfl, rfl⟩, List.nil_sublist _, rfl, rfl⟩
    ·
     replace hm1 := cond_f hc2 hm1
     refine V.skip ?_
     refine V.keep 27 [0, 1, 5] [] (E0 := [(0, .vl ρ0 6 (List.map encHand a)), (1, .vl ρ1 6 (List.map encHand b_)), (5, .int .i64 i)]) (H0 := []) rfl (⟨_, _, rfl, rfl, _, _, rfl, rfl, _, _, rfl, rfl, rfl⟩) (rfl) rfl ?_
     refine V.region ?_
     refine VO.cons rfl (V1.move rfl rfl rfl lt0 ?_)
     refine VO.cons rfl (V1.int rfl rfl rfl rfl rfl lt0 ?_)
     refine VO.cons rfl (V1.assign rfl rfl rfl lt0 ?_)
     refine VO.nil ?_
     exact ⟨(m0, (IntKind.i64.wrap (i + (1 : Int))), ()), hl1 _ (Option.some.inj hm1).symm, Nat.lt_succ_self _, Keeps.mk (ks := []) rfl ⟨rfl, rfl, rfl, trivial⟩ (rfl) rfl⟩
   ·
    replace hm1 := cond_f hc1 hm1
    refine V.exit ?_
    obtain rfl := hr1 _ (Option.some.inj hm1).symm
    exact ⟨((), ()), rfl, Keeps.mk (ks := []) rfl trivial (rfl) rfl⟩
  ·
   rintro ⟨_, _⟩ rfl
   try dsimp only at hm0
   refine V.seq ?_
   refine V.region ?_
   refine VO.cons rfl (V1.assign rfl rfl rfl lt0 ?_)
   refine VO.nil ?_
   refine V.ret ?_
   obtain rfl := Option.some.inj hm0
   exact ⟨_, [], ⟨_, _, rfl, rfl, rfl⟩, List.nil_sublist _, rfl, rfl⟩

theorem ok_laws_markHandS {rn : Nat} {oq : Option Nat} {a : List Hand} {k : Int} {r : Int × List Hand} (h : M.laws_markHandS a k = some r) (hoq : oq = none → a = []) : Does Try.prog 10 [optS 6 oq (List.length a), .int .i64 k] (optH 6 oq (List.map encHand a)) rn (fun x H => x = .int .i64 r.1 ∧ H = optH 6 oq (List.map encHand r.2)) := by
 have hm0 := h; clear h; unfold M.laws_markHandS at hm0
 try dsimp only at hm0
 refine Does.intro (N := 57) Try.func10 rfl rfl rfl rfl ?_
 intro w0 S0 L0
 rcases oq with _ | oq
 ·
  refine V.seq ?_
  refine V.region ?_
  refine VO.cons rfl (V1.assign rfl rfl rfl lt0 ?_)
  refine VO.nil ?_
  refine V.seq ?_
  refine V.seq ?_
  refine V.region ?_
  refine VO.cons rfl (V1.assign rfl rfl rfl lt0 ?_)
  refine VO.nil ?_
  replace hm0 := bindO hm0; rcases hm0 with ⟨e0, he1, hm0⟩
  refine V.cutT (D := (List Hand × Int) × (Unit)) (fun ⟨⟨a0, k0⟩, _⟩ => ⟨57, [(0, .vl rn 6 (List.map encHand a0)), (1, .int .i64 k0)], []⟩) (fun ⟨⟨a0, k0⟩, _⟩ => ((a0, k0) = e0)) ?_ ?_
  ·
   refine V.block ?_
   refine V.keep 57 [0, 1, 5] [] (E0 := [(0, .nils), (1, .int .i64 k), (5, .int .i64 (0 : Int))]) (H0 := []) rfl (⟨_, _, rfl, rfl, _, _, rfl, rfl, _, _, rfl, rfl, rfl⟩) (rfl) rfl ?_
   refine V.loopE (D := Nat × (List Hand × Int × Int) × (Unit)) (fun ⟨n0, ⟨a1, k1, i⟩, _⟩ => [(0, .nils), (1, .int .i64 k1), (5, .int .i64 i)]) (fun ⟨n0, ⟨a1, k1, i⟩, _⟩ => []) (fun ⟨n0, ⟨a1, k1, i⟩, _⟩ => loopO (M.laws_markHandS_l0) n0 (a1, k1, i) = some e0 ∧ a1 = []) (fun ⟨n0, _, _⟩ => n0) (rounds, (a, k, (0 : Int)), ()) rfl ⟨he1, (hoq rfl)⟩ ?_
   rintro ⟨n0, ⟨a1, k1, i⟩, _⟩ ⟨hP0, hn_a1⟩
   obtain ⟨m0, y0, rfl, hm1, hl1, hr1⟩ := loop_head hP0
   unfold M.laws_markHandS_l0 at hm1; dsimp only at hm1
   show V _ _ _ ⟨57, [(0, .nils), (1, .int .i64 k1), (5, .int .i64 i)], []⟩
   refine V.seq ?_
   refine V.seq ?_
   refine V.region ?_
   refine VO.cons rfl (V1.move rfl rfl rfl lt0 ?_)
   refine VO.cons rfl (V1.move rfl rfl rfl lt0 ?_)
   refine VO.cons rfl (V1.lenNilsE (l := a1) hn_a1 rfl rfl rfl rfl rfl rfl isl_27 lt0 ?_)
   refine VO.cons rfl (V1.int rfl rfl rfl rfl rfl lt0 ?_)
   refine VO.nil ?_
   refine V.cond rfl (fun hc0 => ?_) (fun hc0 => ?_)
   ·
    replace hm1 := cond_t hc0 hm1
    refine V.skip ?_
    refine V.keep 57 [0, 1, 5] [] (E0 := [(0, .nils), (1, .int .i64 k1), (5, .int .i64 i)]) (H0 := []) rfl (⟨_, _, rfl, rfl, _, _, rfl, rfl, _, _, rfl, rfl, rfl⟩) (rfl) rfl ?_
    refine V.seq ?_
    refine V.block ?_
    refine V.seq ?_
    replace hm1 := asrt_some hm1; rcases hm1 with ⟨hh0, hm1⟩
    refine V.region ?_
    refine VO.cons rfl (V1.move rfl rfl rfl lt0 ?_)
    refine VO.cons rfl (V1.move rfl rfl rfl lt0 ?_)
    refine VO.cons rfl (V1.move rfl rfl rfl lt0 ?_)
    refine VO.weakenK (Keeps.nilsE (l := a1) 12 rn 6 encHand hn_a1 rfl rfl) ?_
    refine VO.cons rfl (V1.indexI rfl rfl esz_27 rfl rfl hh0 lt0 ?_)
    refine VO.cons rfl (V1.fieldPin rfl rfl fo_37_0 rfl lt0 ?_)
    exact (nilsNo hn_a1 hh0).elim
   ·
    replace hm1 := cond_f hc0 hm1
    refine V.exit ?_
    obtain rfl := hr1 _ (Option.some.inj hm1).symm
    exact ⟨((a1, k1), ()), rfl, Keeps.trans (Keeps.nilsE (l := a1) 0 rn 6 encHand hn_a1 rfl rfl) (Keeps.mk (ks := []) rfl ⟨rfl, rfl, trivial⟩ (rfl) rfl)⟩
  ·
   rintro ⟨⟨a0, k0⟩, _⟩ rfl
   try dsimp only at hm0
   refine V.seq ?_
   refine V.region ?_
   refine VO.cons rfl (V1.move rfl rfl rfl lt0 ?_)
   refine VO.cons rfl (V1.assign rfl rfl rfl lt0 ?_)
   refine VO.nil ?_
   refine V.keep 57 [4] [] (E0 := [(4, .int .i64 k0)]) (H0 := []) rfl (⟨_, _, rfl, rfl, rfl⟩) (rfl) rfl ?_
   refine V.ret ?_
   obtain rfl := Option.some.inj hm0
   exact ⟨_, _, ⟨_, _, rfl, rfl, rfl⟩, List.Sublist.refl _, rfl, rfl⟩
 ·
  refine V.seq ?_
  refine V.region ?_
  refine VO.cons rfl (V1.assign rfl rfl rfl lt0 ?_)
  refine VO.nil ?_
  refine V.seq ?_
  refine V.seq ?_
  refine V.region ?_
  refine VO.cons rfl (V1.assign rfl rfl rfl lt0 ?_)
  refine VO.nil ?_
  replace hm0 := bindO hm0; rcases hm0 with ⟨e0, he1, hm0⟩
  refine V.cutT (D := (List Hand × Int) × (Unit)) (fun ⟨⟨a0, k0⟩, _⟩ => ⟨57, [(0, .sref oq 6 0 (List.length a0)), (1, .int .i64 k0)], [(oq, ⟨6, List.map encHand a0⟩)]⟩) (fun ⟨⟨a0, k0⟩, _⟩ => ((a0, k0) = e0)) ?_ ?_
  ·
   refine V.block ?_
   refine V.keep 57 [0, 1, 5] [0] (E0 := [(0, .sref oq 6 0 (List.length a)), (1, .int .i64 k), (5, .int .i64 (0 : Int))]) (H0 := [(oq, ⟨6, List.map encHand a⟩)]) rfl (⟨_, _, rfl, rfl, _, _, rfl, rfl, _, _, rfl, rfl, rfl⟩) (⟨_, _, rfl, rfl, rfl⟩) rfl ?_
   refine V.loopE (D := Nat × (List Hand × Int × Int) × (Unit)) (fun ⟨n0, ⟨a1, k1, i⟩, _⟩ => [(0, .sref oq 6 0 (List.length a1)), (1, .int .i64 k1), (5, .int .i64 i)]) (fun ⟨n0, ⟨a1, k1, i⟩, _⟩ => [(oq, ⟨6, List.map encHand a1⟩)]) (fun ⟨n0, ⟨a1, k1, i⟩, _⟩ => loopO (M.laws_markHandS_l0) n0 (a1, k1, i) = some e0) (fun ⟨n0, _, _⟩ => n0) (rounds, (a, k, (0 : Int)), ()) rfl he1 ?_
   rintro ⟨n0, ⟨a1, k1, i⟩, _⟩ hP0
   obtain ⟨m0, y0, rfl, hm1, hl1, hr1⟩ := loop_head hP0
   unfold M.laws_markHandS_l0 at hm1; dsimp only at hm1
   show V _ _ _ ⟨57, [(0, .sref oq 6 0 (List.length a1)), (1, .int .i64 k1), (5, .int .i64 i)], [(oq, ⟨6, List.map encHand a1⟩)]⟩
   refine V.seq ?_
   refine V.seq ?_
   refine V.region ?_
   refine VO.cons rfl (V1.move rfl rfl rfl lt0 ?_)
   refine VO.cons rfl (V1.move rfl rfl rfl lt0 ?_)
   refine VO.cons rfl (V1.lenSref rfl rfl rfl rfl rfl rfl isl_27 lt0 ?_)
   refine VO.cons rfl (V1.int rfl rfl rfl rfl rfl lt0 ?_)
   refine VO.nil ?_
   refine V.cond rfl (fun hc0 => ?_) (fun hc0 => ?_)
   ·
    replace hm1 := cond_t hc0 hm1
    refine V.skip ?_
    refine V.keep 57 [0, 1, 5] [0] (E0 := [(0, .sref oq 6 0 (List.length a1)), (1, .int .i64 k1), (5, .int .i64 i)]) (H0 := [(oq, ⟨6, List.map encHand a1⟩)]) rfl (⟨_, _, rfl, rfl, _, _, rfl, rfl, _, _, rfl, rfl, rfl⟩) (⟨_, _, rfl, rfl, rfl⟩) rfl ?_
    refine V.seq ?_
    refine V.block ?_
    refine V.seq ?_
    replace hm1 := asrt_some hm1; rcases hm1 with ⟨hh0, hm1⟩
    refine V.region ?_
    refine VO.cons rfl (V1.move rfl rfl rfl lt0 ?_)
    refine VO.cons rfl (V1.move rfl rfl rfl lt0 ?_)
    refine VO.cons rfl (V1.move rfl rfl rfl lt0 ?_)
    refine VO.cons rfl (V1.indexSr rfl rfl esz_27 rfl rfl hh0 lt0 ?_)
    refine VO.cons rfl (V1.fieldRef rfl rfl fo_37_0 rfl lt0 ?_)
    refine VO.cons rfl (V1.storeMapCell (k := 0) (f := encHand) (x := (⟨k1, (a1.getD (Int.toNat i) default).From, (a1.getD (Int.toNat i) default).To, (a1.getD (Int.toNat i) default).Day, (a1.getD (Int.toNat i) default).Sum, (a1.getD (Int.toNat i) default).Seal⟩ : Hand)) rfl rfl tyk_3 rfl rfl (by simpa using natLt hh0.1 hh0.2) rfl rfl rfl rfl rfl rfl ?_)
    refine VO.weakenK (Keeps.say 0 (y := .sref oq 6 0 (List.length (a1.set (Int.toNat i) (⟨k1, (a1.getD (Int.toNat i) default).From, (a1.getD (Int.toNat i) default).To, (a1.getD (Int.toNat i) default).Day, (a1.getD (Int.toNat i) default).Sum, (a1.getD (Int.toNat i) default).Seal⟩ : Hand)))) rfl (by simp [optS])) ?_
    refine VO.nil ?_
    refine V.keep 57 [0, 1, 5] [0] (E0 := [(0, .sref oq 6 0 (List.length (a1.set (Int.toNat i) (⟨k1, (a1.getD (Int.toNat i) default).From, (a1.getD (Int.toNat i) default).To, (a1.getD (Int.toNat i) default).Day, (a1.getD (Int.toNat i) default).Sum, (a1.getD (Int.toNat i) default).Seal⟩ : Hand)))), (1, .int .i64 k1), (5, .int .i64 i)]) (H0 := [(oq, ⟨6, List.map encHand (a1.set (Int.toNat i) (⟨k1, (a1.getD (Int.toNat i) default).From, (a1.getD (Int.toNat i) default).To, (a1.getD (Int.toNat i) default).Day, (a1.getD (Int.toNat i) default).Sum, (a1.getD (Int.toNat i) default).Seal⟩ : Hand))⟩)]) rfl (⟨_, _, rfl, rfl, _, _, rfl, rfl, _, _, rfl, rfl, rfl⟩) (⟨_, _, rfl, rfl, rfl⟩) rfl ?_
    refine V.seq ?_
    refine V.region ?_
    refine VO.cons rfl (V1.move rfl rfl rfl lt0 ?_)
    refine VO.cons rfl (V1.int rfl rfl rfl rfl rfl lt0 ?_)
    refine VO.cons rfl (V1.assign rfl rfl rfl lt0 ?_)
    refine VO.nil ?_
    refine V.seq ?_
    replace hm1 := asrt_some hm1; rcases hm1 with ⟨hh1, hm1⟩
    refine V.region ?_
    refine VO.cons rfl (V1.move rfl rfl rfl lt0 ?_)
    refine VO.cons rfl (V1.move rfl rfl rfl lt0 ?_)
    refine VO.cons rfl (V1.move rfl rfl rfl lt0 ?_)
    refine VO.cons rfl (V1.indexSr rfl rfl esz_27 rfl rfl hh1 lt0 ?_)
    refine VO.cons rfl (V1.fieldRef rfl rfl fo_37_1 rfl lt0 ?_)
    refine VO.cons rfl (V1.storeMapCell (k := 0) (f := encHand) (x := (⟨((a1.set (Int.toNat i) (⟨k1, (a1.getD (Int.toNat i) default).From, (a1.getD (Int.toNat i) default).To, (a1.getD (Int.toNat i) default).Day, (a1.getD (Int.toNat i) default).Sum, (a1.getD (Int.toNat i) default).Seal⟩ : Hand)).getD (Int.toNat i) default).Record, (IntKind.i64.wrap (k1 + (1 : Int))), ((a1.set (Int.toNat i) (⟨k1, (a1.getD (Int.toNat i) default).From, (a1.getD (Int.toNat i) default).To, (a1.getD (Int.toNat i) default).Day, (a1.getD (Int.toNat i) default).Sum, (a1.getD (Int.toNat i) default).Seal⟩ : Hand)).getD (Int.toNat i) default).To, ((a1.set (Int.toNat i) (⟨k1, (a1.getD (Int.toNat i) default).From, (a1.getD (Int.toNat i) default).To, (a1.getD (Int.toNat i) default).Day, (a1.getD (Int.toNat i) default).Sum, (a1.getD (Int.toNat i) default).Seal⟩ : Hand)).getD (Int.toNat i) default).Day, ((a1.set (Int.toNat i) (⟨k1, (a1.getD (Int.toNat i) default).From, (a1.getD (Int.toNat i) default).To, (a1.getD (Int.toNat i) default).Day, (a1.getD (Int.toNat i) default).Sum, (a1.getD (Int.toNat i) default).Seal⟩ : Hand)).getD (Int.toNat i) default).Sum, ((a1.set (Int.toNat i) (⟨k1, (a1.getD (Int.toNat i) default).From, (a1.getD (Int.toNat i) default).To, (a1.getD (Int.toNat i) default).Day, (a1.getD (Int.toNat i) default).Sum, (a1.getD (Int.toNat i) default).Seal⟩ : Hand)).getD (Int.toNat i) default).Seal⟩ : Hand)) rfl rfl tyk_3 rfl rfl (by simpa using natLt hh1.1 hh1.2) rfl rfl rfl rfl rfl rfl ?_)
    refine VO.weakenK (Keeps.sayObj 0 (ys := List.map encHand (a1.set (Int.toNat i) (⟨k1, (IntKind.i64.wrap (k1 + (1 : Int))), (a1.getD (Int.toNat i) default).To, (a1.getD (Int.toNat i) default).Day, (a1.getD (Int.toNat i) default).Sum, (a1.getD (Int.toNat i) default).Seal⟩ : Hand))) rfl (congrArg (List.map encHand) (set_upd (fun y_ => (⟨y_.Record, (IntKind.i64.wrap (k1 + (1 : Int))), y_.To, y_.Day, y_.Sum, y_.Seal⟩ : Hand)) (by simpa using natLt hh0.1 hh0.2) rfl))) ?_
    refine VO.weakenK (Keeps.say 0 (y := .sref oq 6 0 (List.length (a1.set (Int.toNat i) (⟨k1, (IntKind.i64.wrap (k1 + (1 : Int))), (a1.getD (Int.toNat i) default).To, (a1.getD (Int.toNat i) default).Day, (a1.getD (Int.toNat i) default).Sum, (a1.getD (Int.toNat i) default).Seal⟩ : Hand)))) rfl (by simp [optS])) ?_
    refine VO.nil ?_
    refine V.keep 57 [0, 1, 5] [0] (E0 := [(0, .sref oq 6 0 (List.length (a1.set (Int.toNat i) (⟨k1, (IntKind.i64.wrap (k1 + (1 : Int))), (a1.getD (Int.toNat i) default).To, (a1.getD (Int.toNat i) default).Day, (a1.getD (Int.toNat i) default).Sum, (a1.getD (Int.toNat i) default).Seal⟩ : Hand)))), (1, .int .i64 (IntKind.i64.wrap (k1 + (1 : Int)))), (5, .int .i64 i)]) (H0 := [(oq, ⟨6, List.map encHand (a1.set (Int.toNat i) (⟨k1, (IntKind.i64.wrap (k1 + (1 : Int))), (a1.getD (Int.toNat i) default).To, (a1.getD (Int.toNat i) default).Day, (a1.getD (Int.toNat i) default).Sum, (a1.getD (Int.toNat i) default).Seal⟩ : Hand))⟩)]) rfl (⟨_, _, rfl, rfl, _, _, rfl, rfl, _, _, rfl, rfl, rfl⟩) (⟨_, _, rfl, rfl, rfl⟩) rfl ?_
    refine V.seq ?_
    refine V.region ?_
    refine VO.cons rfl (V1.move rfl rfl rfl lt0 ?_)
    refine VO.cons rfl (V1.int rfl rfl rfl rfl rfl lt0 ?_)
    refine VO.cons rfl (V1.assign rfl rfl rfl lt0 ?_)
    refine VO.nil ?_
    refine V.seq ?_
    replace hm1 := asrt_some hm1; rcases hm1 with ⟨hh2, hm1⟩
    refine V.region ?_
    refine VO.cons rfl (V1.move rfl rfl rfl lt0 ?_)
    refine VO.cons rfl (V1.move rfl rfl rfl lt0 ?_)
    refine VO.cons rfl (V1.move rfl rfl rfl lt0 ?_)
    refine VO.cons rfl (V1.indexSr rfl rfl esz_27 rfl rfl hh2 lt0 ?_)
    refine VO.cons rfl (V1.fieldRef rfl rfl fo_37_2 rfl lt0 ?_)
    refine VO.cons rfl (V1.storeMapCell (k := 0) (f := encHand) (x := (⟨((a1.set (Int.toNat i) (⟨k1, (IntKind.i64.wrap (k1 + (1 : Int))), (a1.getD (Int.toNat i) default).To, (a1.getD (Int.toNat i) default).Day, (a1.getD (Int.toNat i) default).Sum, (a1.getD (Int.toNat i) default).Seal⟩ : Hand)).getD (Int.toNat i) default).Record, ((a1.set (Int.toNat i) (⟨k1, (IntKind.i64.wrap (k1 + (1 : Int))), (a1.getD (Int.toNat i) default).To, (a1.getD (Int.toNat i) default).Day, (a1.getD (Int.toNat i) default).Sum, (a1.getD (Int.toNat i) default).Seal⟩ : Hand)).getD (Int.toNat i) default).From, (IntKind.i64.wrap ((IntKind.i64.wrap (k1 + (1 : Int))) + (1 : Int))), ((a1.set (Int.toNat i) (⟨k1, (IntKind.i64.wrap (k1 + (1 : Int))), (a1.getD (Int.toNat i) default).To, (a1.getD (Int.toNat i) default).Day, (a1.getD (Int.toNat i) default).Sum, (a1.getD (Int.toNat i) default).Seal⟩ : Hand)).getD (Int.toNat i) default).Day, ((a1.set (Int.toNat i) (⟨k1, (IntKind.i64.wrap (k1 + (1 : Int))), (a1.getD (Int.toNat i) default).To, (a1.getD (Int.toNat i) default).Day, (a1.getD (Int.toNat i) default).Sum, (a1.getD (Int.toNat i) default).Seal⟩ : Hand)).getD (Int.toNat i) default).Sum, ((a1.set (Int.toNat i) (⟨k1, (IntKind.i64.wrap (k1 + (1 : Int))), (a1.getD (Int.toNat i) default).To, (a1.getD (Int.toNat i) default).Day, (a1.getD (Int.toNat i) default).Sum, (a1.getD (Int.toNat i) default).Seal⟩ : Hand)).getD (Int.toNat i) default).Seal⟩ : Hand)) rfl rfl tyk_3 rfl rfl (by simpa using natLt hh2.1 hh2.2) rfl rfl rfl rfl rfl rfl ?_)
    refine VO.weakenK (Keeps.sayObj 0 (ys := List.map encHand (a1.set (Int.toNat i) (⟨k1, (IntKind.i64.wrap (k1 + (1 : Int))), (IntKind.i64.wrap ((IntKind.i64.wrap (k1 + (1 : Int))) + (1 : Int))), (a1.getD (Int.toNat i) default).Day, (a1.getD (Int.toNat i) default).Sum, (a1.getD (Int.toNat i) default).Seal⟩ : Hand))) rfl (congrArg (List.map encHand) (set_upd (fun y_ => (⟨y_.Record, y_.From, (IntKind.i64.wrap ((IntKind.i64.wrap (k1 + (1 : Int))) + (1 : Int))), y_.Day, y_.Sum, y_.Seal⟩ : Hand)) (by simpa using natLt hh0.1 hh0.2) rfl))) ?_
    refine VO.weakenK (Keeps.say 0 (y := .sref oq 6 0 (List.length (a1.set (Int.toNat i) (⟨k1, (IntKind.i64.wrap (k1 + (1 : Int))), (IntKind.i64.wrap ((IntKind.i64.wrap (k1 + (1 : Int))) + (1 : Int))), (a1.getD (Int.toNat i) default).Day, (a1.getD (Int.toNat i) default).Sum, (a1.getD (Int.toNat i) default).Seal⟩ : Hand)))) rfl (by simp [optS])) ?_
    refine VO.nil ?_
    refine V.keep 57 [0, 1, 5] [0] (E0 := [(0, .sref oq 6 0 (List.length (a1.set (Int.toNat i) (⟨k1, (IntKind.i64.wrap (k1 + (1 : Int))), (IntKind.i64.wrap ((IntKind.i64.wrap (k1 + (1 : Int))) + (1 : Int))), (a1.getD (Int.toNat i) default).Day, (a1.getD (Int.toNat i) default).Sum, (a1.getD (Int.toNat i) default).Seal⟩ : Hand)))), (1, .int .i64 (IntKind.i64.wrap ((IntKind.i64.wrap (k1 + (1 : Int))) + (1 : Int)))), (5, .int .i64 i)]) (H0 := [(oq, ⟨6, List.map encHand (a1.set (Int.toNat i) (⟨k1, (IntKind.i64.wrap (k1 + (1 : Int))), (IntKind.i64.wrap ((IntKind.i64.wrap (k1 + (1 : Int))) + (1 : Int))), (a1.getD (Int.toNat i) default).Day, (a1.getD (Int.toNat i) default).Sum, (a1.getD (Int.toNat i) default).Seal⟩ : Hand))⟩)]) rfl (⟨_, _, rfl, rfl, _, _, rfl, rfl, _, _, rfl, rfl, rfl⟩) (⟨_, _, rfl, rfl, rfl⟩) rfl ?_
    refine V.seq ?_
    refine V.region ?_
    refine VO.cons rfl (V1.move rfl rfl rfl lt0 ?_)
    refine VO.cons rfl (V1.int rfl rfl rfl rfl rfl lt0 ?_)
    refine VO.cons rfl (V1.assign rfl rfl rfl lt0 ?_)
    refine VO.nil ?_
    refine V.seq ?_
    replace hm1 := asrt_some hm1; rcases hm1 with ⟨hh3, hm1⟩
    refine V.region ?_
    refine VO.cons rfl (V1.move rfl rfl rfl lt0 ?_)
    refine VO.cons rfl (V1.move rfl rfl rfl lt0 ?_)
    refine VO.cons rfl (V1.move rfl rfl rfl lt0 ?_)
    refine VO.cons rfl (V1.indexSr rfl rfl esz_27 rfl rfl hh3 lt0 ?_)
    refine VO.cons rfl (V1.fieldRef rfl rfl fo_37_3 rfl lt0 ?_)
    refine VO.cons rfl (V1.storeMapCell (k := 0) (f := encHand) (x := (⟨((a1.set (Int.toNat i) (⟨k1, (IntKind.i64.wrap (k1 + (1 : Int))), (IntKind.i64.wrap ((IntKind.i64.wrap (k1 + (1 : Int))) + (1 : Int))), (a1.getD (Int.toNat i) default).Day, (a1.getD (Int.toNat i) default).Sum, (a1.getD (Int.toNat i) default).Seal⟩ : Hand)).getD (Int.toNat i) default).Record, ((a1.set (Int.toNat i) (⟨k1, (IntKind.i64.wrap (k1 + (1 : Int))), (IntKind.i64.wrap ((IntKind.i64.wrap (k1 + (1 : Int))) + (1 : Int))), (a1.getD (Int.toNat i) default).Day, (a1.getD (Int.toNat i) default).Sum, (a1.getD (Int.toNat i) default).Seal⟩ : Hand)).getD (Int.toNat i) default).From, ((a1.set (Int.toNat i) (⟨k1, (IntKind.i64.wrap (k1 + (1 : Int))), (IntKind.i64.wrap ((IntKind.i64.wrap (k1 + (1 : Int))) + (1 : Int))), (a1.getD (Int.toNat i) default).Day, (a1.getD (Int.toNat i) default).Sum, (a1.getD (Int.toNat i) default).Seal⟩ : Hand)).getD (Int.toNat i) default).To, (IntKind.i64.wrap ((IntKind.i64.wrap ((IntKind.i64.wrap (k1 + (1 : Int))) + (1 : Int))) + (1 : Int))), ((a1.set (Int.toNat i) (⟨k1, (IntKind.i64.wrap (k1 + (1 : Int))), (IntKind.i64.wrap ((IntKind.i64.wrap (k1 + (1 : Int))) + (1 : Int))), (a1.getD (Int.toNat i) default).Day, (a1.getD (Int.toNat i) default).Sum, (a1.getD (Int.toNat i) default).Seal⟩ : Hand)).getD (Int.toNat i) default).Sum, ((a1.set (Int.toNat i) (⟨k1, (IntKind.i64.wrap (k1 + (1 : Int))), (IntKind.i64.wrap ((IntKind.i64.wrap (k1 + (1 : Int))) + (1 : Int))), (a1.getD (Int.toNat i) default).Day, (a1.getD (Int.toNat i) default).Sum, (a1.getD (Int.toNat i) default).Seal⟩ : Hand)).getD (Int.toNat i) default).Seal⟩ : Hand)) rfl rfl tyk_3 rfl rfl (by simpa using natLt hh3.1 hh3.2) rfl rfl rfl rfl rfl rfl ?_)
    refine VO.weakenK (Keeps.sayObj 0 (ys := List.map encHand (a1.set (Int.toNat i) (⟨k1, (IntKind.i64.wrap (k1 + (1 : Int))), (IntKind.i64.wrap ((IntKind.i64.wrap (k1 + (1 : Int))) + (1 : Int))), (IntKind.i64.wrap ((IntKind.i64.wrap ((IntKind.i64.wrap (k1 + (1 : Int))) + (1 : Int))) + (1 : Int))), (a1.getD (Int.toNat i) default).Sum, (a1.getD (Int.toNat i) default).Seal⟩ : Hand))) rfl (congrArg (List.map encHand) (set_upd (fun y_ => (⟨y_.Record, y_.From, y_.To, (IntKind.i64.wrap ((IntKind.i64.wrap ((IntKind.i64.wrap (k1 + (1 : Int))) + (1 : Int))) + (1 : Int))), y_.Sum, y_.Seal⟩ : Hand)) (by simpa using natLt hh0.1 hh0.2) rfl))) ?_
    refine VO.weakenK (Keeps.say 0 (y := .sref oq 6 0 (List.length (a1.set (Int.toNat i) (⟨k1, (IntKind.i64.wrap (k1 + (1 : Int))), (IntKind.i64.wrap ((IntKind.i64.wrap (k1 + (1 : Int))) + (1 : Int))), (IntKind.i64.wrap ((IntKind.i64.wrap ((IntKind.i64.wrap (k1 + (1 : Int))) + (1 : Int))) + (1 : Int))), (a1.getD (Int.toNat i) default).Sum, (a1.getD (Int.toNat i) default).Seal⟩ : Hand)))) rfl (by simp [optS])) ?_
    refine VO.nil ?_
    refine V.keep 57 [0, 1, 5] [0] (E0 := [(0, .sref oq 6 0 (List.length (a1.set (Int.toNat i) (⟨k1, (IntKind.i64.wrap (k1 + (1 : Int))), (IntKind.i64.wrap ((IntKind.i64.wrap (k1 + (1 : Int))) + (1 : Int))), (IntKind.i64.wrap ((IntKind.i64.wrap ((IntKind.i64.wrap (k1 + (1 : Int))) + (1 : Int))) + (1 : Int))), (a1.getD (Int.toNat i) default).Sum, (a1.getD (Int.toNat i) default).Seal⟩ : Hand)))), (1, .int .i64 (IntKind.i64.wrap ((IntKind.i64.wrap ((IntKind.i64.wrap (k1 + (1 : Int))) + (1 : Int))) + (1 : Int)))), (5, .int .i64 i)]) (H0 := [(oq, ⟨6, List.map encHand (a1.set (Int.toNat i) (⟨k1, (IntKind.i64.wrap (k1 + (1 : Int))), (IntKind.i64.wrap ((IntKind.i64.wrap (k1 + (1 : Int))) + (1 : Int))), (IntKind.i64.wrap ((IntKind.i64.wrap ((IntKind.i64.wrap (k1 + (1 : Int))) + (1 : Int))) + (1 : Int))), (a1.getD (Int.toNat i) default).Sum, (a1.getD (Int.toNat i) default).Seal⟩ : Hand))⟩)]) rfl (⟨_, _, rfl, rfl, _, _, rfl, rfl, _, _, rfl, rfl, rfl⟩) (⟨_, _, rfl, rfl, rfl⟩) rfl ?_
    refine V.seq ?_
    refine V.region ?_
    refine VO.cons rfl (V1.move rfl rfl rfl lt0 ?_)
    refine VO.cons rfl (V1.int rfl rfl rfl rfl rfl lt0 ?_)
    refine VO.cons rfl (V1.assign rfl rfl rfl lt0 ?_)
    refine VO.nil ?_
    refine V.seq ?_
    replace hm1 := asrt_some hm1; rcases hm1 with ⟨hh4, hm1⟩
    refine V.region ?_
    refine VO.cons rfl (V1.move rfl rfl rfl lt0 ?_)
    refine VO.cons rfl (V1.move rfl rfl rfl lt0 ?_)
    refine VO.cons rfl (V1.move rfl rfl rfl lt0 ?_)
    refine VO.cons rfl (V1.indexSr rfl rfl esz_27 rfl rfl hh4 lt0 ?_)
    refine VO.cons rfl (V1.fieldRef rfl rfl fo_37_4 rfl lt0 ?_)
    refine VO.cons rfl (V1.storeMapCell (k := 0) (f := encHand) (x := (⟨((a1.set (Int.toNat i) (⟨k1, (IntKind.i64.wrap (k1 + (1 : Int))), (IntKind.i64.wrap ((IntKind.i64.wrap (k1 + (1 : Int))) + (1 : Int))), (IntKind.i64.wrap ((IntKind.i64.wrap ((IntKind.i64.wrap (k1 + (1 : Int))) + (1 : Int))) + (1 : Int))), (a1.getD (Int.toNat i) default).Sum, (a1.getD (Int.toNat i) default).Seal⟩ : Hand)).getD (Int.toNat i) default).Record, ((a1.set (Int.toNat i) (⟨k1, (IntKind.i64.wrap (k1 + (1 : Int))), (IntKind.i64.wrap ((IntKind.i64.wrap (k1 + (1 : Int))) + (1 : Int))), (IntKind.i64.wrap ((IntKind.i64.wrap ((IntKind.i64.wrap (k1 + (1 : Int))) + (1 : Int))) + (1 : Int))), (a1.getD (Int.toNat i) default).Sum, (a1.getD (Int.toNat i) default).Seal⟩ : Hand)).getD (Int.toNat i) default).From, ((a1.set (Int.toNat i) (⟨k1, (IntKind.i64.wrap (k1 + (1 : Int))), (IntKind.i64.wrap ((IntKind.i64.wrap (k1 + (1 : Int))) + (1 : Int))), (IntKind.i64.wrap ((IntKind.i64.wrap ((IntKind.i64.wrap (k1 + (1 : Int))) + (1 : Int))) + (1 : Int))), (a1.getD (Int.toNat i) default).Sum, (a1.getD (Int.toNat i) default).Seal⟩ : Hand)).getD (Int.toNat i) default).To, ((a1.set (Int.toNat i) (⟨k1, (IntKind.i64.wrap (k1 + (1 : Int))), (IntKind.i64.wrap ((IntKind.i64.wrap (k1 + (1 : Int))) + (1 : Int))), (IntKind.i64.wrap ((IntKind.i64.wrap ((IntKind.i64.wrap (k1 + (1 : Int))) + (1 : Int))) + (1 : Int))), (a1.getD (Int.toNat i) default).Sum, (a1.getD (Int.toNat i) default).Seal⟩ : Hand)).getD (Int.toNat i) default).Day, (IntKind.i64.wrap ((IntKind.i64.wrap ((IntKind.i64.wrap ((IntKind.i64.wrap (k1 + (1 : Int))) + (1 : Int))) + (1 : Int))) + (1 : Int))), ((a1.set (Int.toNat i) (⟨k1, (IntKind.i64.wrap (k1 + (1 : Int))), (IntKind.i64.wrap ((IntKind.i64.wrap (k1 + (1 : Int))) + (1 : Int))), (IntKind.i64.wrap ((IntKind.i64.wrap ((IntKind.i64.wrap (k1 + (1 : Int))) + (1 : Int))) + (1 : Int))), (a1.getD (Int.toNat i) default).Sum, (a1.getD (Int.toNat i) default).Seal⟩ : Hand)).getD (Int.toNat i) default).Seal⟩ : Hand)) rfl rfl tyk_3 rfl rfl (by simpa using natLt hh4.1 hh4.2) rfl rfl rfl rfl rfl rfl ?_)
    refine VO.weakenK (Keeps.sayObj 0 (ys := List.map encHand (a1.set (Int.toNat i) (⟨k1, (IntKind.i64.wrap (k1 + (1 : Int))), (IntKind.i64.wrap ((IntKind.i64.wrap (k1 + (1 : Int))) + (1 : Int))), (IntKind.i64.wrap ((IntKind.i64.wrap ((IntKind.i64.wrap (k1 + (1 : Int))) + (1 : Int))) + (1 : Int))), (IntKind.i64.wrap ((IntKind.i64.wrap ((IntKind.i64.wrap ((IntKind.i64.wrap (k1 + (1 : Int))) + (1 : Int))) + (1 : Int))) + (1 : Int))), (a1.getD (Int.toNat i) default).Seal⟩ : Hand))) rfl (congrArg (List.map encHand) (set_upd (fun y_ => (⟨y_.Record, y_.From, y_.To, y_.Day, (IntKind.i64.wrap ((IntKind.i64.wrap ((IntKind.i64.wrap ((IntKind.i64.wrap (k1 + (1 : Int))) + (1 : Int))) + (1 : Int))) + (1 : Int))), y_.Seal⟩ : Hand)) (by simpa using natLt hh0.1 hh0.2) rfl))) ?_
    refine VO.weakenK (Keeps.say 0 (y := .sref oq 6 0 (List.length (a1.set (Int.toNat i) (⟨k1, (IntKind.i64.wrap (k1 + (1 : Int))), (IntKind.i64.wrap ((IntKind.i64.wrap (k1 + (1 : Int))) + (1 : Int))), (IntKind.i64.wrap ((IntKind.i64.wrap ((IntKind.i64.wrap (k1 + (1 : Int))) + (1 : Int))) + (1 : Int))), (IntKind.i64.wrap ((IntKind.i64.wrap ((IntKind.i64.wrap ((IntKind.i64.wrap (k1 + (1 : Int))) + (1 : Int))) + (1 : Int))) + (1 : Int))), (a1.getD (Int.toNat i) default).Seal⟩ : Hand)))) rfl (by simp [optS])) ?_
    refine VO.nil ?_
    refine V.keep 57 [0, 1, 5] [0] (E0 := [(0, .sref oq 6 0 (List.length (a1.set (Int.toNat i) (⟨k1, (IntKind.i64.wrap (k1 + (1 : Int))), (IntKind.i64.wrap ((IntKind.i64.wrap (k1 + (1 : Int))) + (1 : Int))), (IntKind.i64.wrap ((IntKind.i64.wrap ((IntKind.i64.wrap (k1 + (1 : Int))) + (1 : Int))) + (1 : Int))), (IntKind.i64.wrap ((IntKind.i64.wrap ((IntKind.i64.wrap ((IntKind.i64.wrap (k1 + (1 : Int))) + (1 : Int))) + (1 : Int))) + (1 : Int))), (a1.getD (Int.toNat i) default).Seal⟩ : Hand)))), (1, .int .i64 (IntKind.i64.wrap ((IntKind.i64.wrap ((IntKind.i64.wrap ((IntKind.i64.wrap (k1 + (1 : Int))) + (1 : Int))) + (1 : Int))) + (1 : Int)))), (5, .int .i64 i)]) (H0 := [(oq, ⟨6, List.map encHand (a1.set (Int.toNat i) (⟨k1, (IntKind.i64.wrap (k1 + (1 : Int))), (IntKind.i64.wrap ((IntKind.i64.wrap (k1 + (1 : Int))) + (1 : Int))), (IntKind.i64.wrap ((IntKind.i64.wrap ((IntKind.i64.wrap (k1 + (1 : Int))) + (1 : Int))) + (1 : Int))), (IntKind.i64.wrap ((IntKind.i64.wrap ((IntKind.i64.wrap ((IntKind.i64.wrap (k1 + (1 : Int))) + (1 : Int))) + (1 : Int))) + (1 : Int))), (a1.getD (Int.toNat i) default).Seal⟩ : Hand))⟩)]) rfl (⟨_, _, rfl, rfl, _, _, rfl, rfl, _, _, rfl, rfl, rfl⟩) (⟨_, _, rfl, rfl, rfl⟩) rfl ?_
    refine V.seq ?_
    refine V.region ?_
    refine VO.cons rfl (V1.move rfl rfl rfl lt0 ?_)
    refine VO.cons rfl (V1.int rfl rfl rfl rfl rfl lt0 ?_)
    refine VO.cons rfl (V1.assign rfl rfl rfl lt0 ?_)
    refine VO.nil ?_
    refine V.seq ?_
    replace hm1 := asrt_some hm1; rcases hm1 with ⟨hh5, hm1⟩
    refine V.region ?_
    refine VO.cons rfl (V1.move rfl rfl rfl lt0 ?_)
    refine VO.cons rfl (V1.move rfl rfl rfl lt0 ?_)
    refine VO.cons rfl (V1.move rfl rfl rfl lt0 ?_)
    refine VO.cons rfl (V1.rem rfl rfl rfl rfl (by decide) lt0 ?_)
    refine VO.cons rfl (V1.int rfl rfl rfl rfl rfl lt0 ?_)
    refine VO.cons rfl (V1.indexSr rfl rfl esz_27 rfl rfl hh5 lt0 ?_)
    refine VO.cons rfl (V1.fieldRef rfl rfl fo_37_5 rfl lt0 ?_)
    refine VO.cons rfl (V1.storeMapCell (k := 0) (f := encHand) (x := (⟨((a1.set (Int.toNat i) (⟨k1, (IntKind.i64.wrap (k1 + (1 : Int))), (IntKind.i64.wrap ((IntKind.i64.wrap (k1 + (1 : Int))) + (1 : Int))), (IntKind.i64.wrap ((IntKind.i64.wrap ((IntKind.i64.wrap (k1 + (1 : Int))) + (1 : Int))) + (1 : Int))), (IntKind.i64.wrap ((IntKind.i64.wrap ((IntKind.i64.wrap ((IntKind.i64.wrap (k1 + (1 : Int))) + (1 : Int))) + (1 : Int))) + (1 : Int))), (a1.getD (Int.toNat i) default).Seal⟩ : Hand)).getD (Int.toNat i) default).Record, ((a1.set (Int.toNat i) (⟨k1, (IntKind.i64.wrap (k1 + (1 : Int))), (IntKind.i64.wrap ((IntKind.i64.wrap (k1 + (1 : Int))) + (1 : Int))), (IntKind.i64.wrap ((IntKind.i64.wrap ((IntKind.i64.wrap (k1 + (1 : Int))) + (1 : Int))) + (1 : Int))), (IntKind.i64.wrap ((IntKind.i64.wrap ((IntKind.i64.wrap ((IntKind.i64.wrap (k1 + (1 : Int))) + (1 : Int))) + (1 : Int))) + (1 : Int))), (a1.getD (Int.toNat i) default).Seal⟩ : Hand)).getD (Int.toNat i) default).From, ((a1.set (Int.toNat i) (⟨k1, (IntKind.i64.wrap (k1 + (1 : Int))), (IntKind.i64.wrap ((IntKind.i64.wrap (k1 + (1 : Int))) + (1 : Int))), (IntKind.i64.wrap ((IntKind.i64.wrap ((IntKind.i64.wrap (k1 + (1 : Int))) + (1 : Int))) + (1 : Int))), (IntKind.i64.wrap ((IntKind.i64.wrap ((IntKind.i64.wrap ((IntKind.i64.wrap (k1 + (1 : Int))) + (1 : Int))) + (1 : Int))) + (1 : Int))), (a1.getD (Int.toNat i) default).Seal⟩ : Hand)).getD (Int.toNat i) default).To, ((a1.set (Int.toNat i) (⟨k1, (IntKind.i64.wrap (k1 + (1 : Int))), (IntKind.i64.wrap ((IntKind.i64.wrap (k1 + (1 : Int))) + (1 : Int))), (IntKind.i64.wrap ((IntKind.i64.wrap ((IntKind.i64.wrap (k1 + (1 : Int))) + (1 : Int))) + (1 : Int))), (IntKind.i64.wrap ((IntKind.i64.wrap ((IntKind.i64.wrap ((IntKind.i64.wrap (k1 + (1 : Int))) + (1 : Int))) + (1 : Int))) + (1 : Int))), (a1.getD (Int.toNat i) default).Seal⟩ : Hand)).getD (Int.toNat i) default).Day, ((a1.set (Int.toNat i) (⟨k1, (IntKind.i64.wrap (k1 + (1 : Int))), (IntKind.i64.wrap ((IntKind.i64.wrap (k1 + (1 : Int))) + (1 : Int))), (IntKind.i64.wrap ((IntKind.i64.wrap ((IntKind.i64.wrap (k1 + (1 : Int))) + (1 : Int))) + (1 : Int))), (IntKind.i64.wrap ((IntKind.i64.wrap ((IntKind.i64.wrap ((IntKind.i64.wrap (k1 + (1 : Int))) + (1 : Int))) + (1 : Int))) + (1 : Int))), (a1.getD (Int.toNat i) default).Seal⟩ : Hand)).getD (Int.toNat i) default).Sum, ((Int.tmod (IntKind.i64.wrap ((IntKind.i64.wrap ((IntKind.i64.wrap ((IntKind.i64.wrap ((IntKind.i64.wrap (k1 + (1 : Int))) + (1 : Int))) + (1 : Int))) + (1 : Int))) + (1 : Int))) (3 : Int)) == (0 : Int))⟩ : Hand)) rfl rfl tyk_4 rfl rfl (by simpa using natLt hh5.1 hh5.2) rfl rfl rfl rfl rfl rfl ?_)
    refine VO.weakenK (Keeps.sayObj 0 (ys := List.map encHand (a1.set (Int.toNat i) (⟨k1, (IntKind.i64.wrap (k1 + (1 : Int))), (IntKind.i64.wrap ((IntKind.i64.wrap (k1 + (1 : Int))) + (1 : Int))), (IntKind.i64.wrap ((IntKind.i64.wrap ((IntKind.i64.wrap (k1 + (1 : Int))) + (1 : Int))) + (1 : Int))), (IntKind.i64.wrap ((IntKind.i64.wrap ((IntKind.i64.wrap ((IntKind.i64.wrap (k1 + (1 : Int))) + (1 : Int))) + (1 : Int))) + (1 : Int))), ((Int.tmod (IntKind.i64.wrap ((IntKind.i64.wrap ((IntKind.i64.wrap ((IntKind.i64.wrap ((IntKind.i64.wrap (k1 + (1 : Int))) + (1 : Int))) + (1 : Int))) + (1 : Int))) + (1 : Int))) (3 : Int)) == (0 : Int))⟩ : Hand))) rfl (congrArg (List.map encHand) (set_upd (fun y_ => (⟨y_.Record, y_.From, y_.To, y_.Day, y_.Sum, ((Int.tmod (IntKind.i64.wrap ((IntKind.i64.wrap ((IntKind.i64.wrap ((IntKind.i64.wrap ((IntKind.i64.wrap (k1 + (1 : Int))) + (1 : Int))) + (1 : Int))) + (1 : Int))) + (1 : Int))) (3 : Int)) == (0 : Int))⟩ : Hand)) (by simpa using natLt hh0.1 hh0.2) rfl))) ?_
    refine VO.weakenK (Keeps.say 0 (y := .sref oq 6 0 (List.length (a1.set (Int.toNat i) (⟨k1, (IntKind.i64.wrap (k1 + (1 : Int))), (IntKind.i64.wrap ((IntKind.i64.wrap (k1 + (1 : Int))) + (1 : Int))), (IntKind.i64.wrap ((IntKind.i64.wrap ((IntKind.i64.wrap (k1 + (1 : Int))) + (1 : Int))) + (1 : Int))), (IntKind.i64.wrap ((IntKind.i64.wrap ((IntKind.i64.wrap ((IntKind.i64.wrap (k1 + (1 : Int))) + (1 : Int))) + (1 : Int))) + (1 : Int))), ((Int.tmod (IntKind.i64.wrap ((IntKind.i64.wrap ((IntKind.i64.wrap ((IntKind.i64.wrap ((IntKind.i64.wrap (k1 + (1 : Int))) + (1 : Int))) + (1 : Int))) + (1 : Int))) + (1 : Int))) (3 : Int)) == (0 : Int))⟩ : Hand)))) rfl (by simp [optS])) ?_
    refine VO.nil ?_
    refine V.keep 57 [0, 1, 5] [0] (E0 := [(0, .sref oq 6 0 (List.length (a1.set (Int.toNat i) (⟨k1, (IntKind.i64.wrap (k1 + (1 : Int))), (IntKind.i64.wrap ((IntKind.i64.wrap (k1 + (1 : Int))) + (1 : Int))), (IntKind.i64.wrap ((IntKind.i64.wrap ((IntKind.i64.wrap (k1 + (1 : Int))) + (1 : Int))) + (1 : Int))), (IntKind.i64.wrap ((IntKind.i64.wrap ((IntKind.i64.wrap ((IntKind.i64.wrap (k1 + (1 : Int))) + (1 : Int))) + (1 : Int))) + (1 : Int))), ((Int.tmod (IntKind.i64.wrap ((IntKind.i64.wrap ((IntKind.i64.wrap ((IntKind.i64.wrap ((IntKind.i64.wrap (k1 + (1 : Int))) + (1 : Int))) + (1 : Int))) + (1 : Int))) + (1 : Int))) (3 : Int)) == (0 : Int))⟩ : Hand)))), (1, .int .i64 (IntKind.i64.wrap ((IntKind.i64.wrap ((IntKind.i64.wrap ((IntKind.i64.wrap ((IntKind.i64.wrap (k1 + (1 : Int))) + (1 : Int))) + (1 : Int))) + (1 : Int))) + (1 : Int)))), (5, .int .i64 i)]) (H0 := [(oq, ⟨6, List.map encHand (a1.set (Int.toNat i) (⟨k1, (IntKind.i64.wrap (k1 + (1 : Int))), (IntKind.i64.wrap ((IntKind.i64.wrap (k1 + (1 : Int))) + (1 : Int))), (IntKind.i64.wrap ((IntKind.i64.wrap ((IntKind.i64.wrap (k1 + (1 : Int))) + (1 : Int))) + (1 : Int))), (IntKind.i64.wrap ((IntKind.i64.wrap ((IntKind.i64.wrap ((IntKind.i64.wrap (k1 + (1 : Int))) + (1 : Int))) + (1 : Int))) + (1 : Int))), ((Int.tmod (IntKind.i64.wrap ((IntKind.i64.wrap ((IntKind.i64.wrap ((IntKind.i64.wrap ((IntKind.i64.wrap (k1 + (1 : Int))) + (1 : Int))) + (1 : Int))) + (1 : Int))) + (1 : Int))) (3 : Int)) == (0 : Int))⟩ : Hand))⟩)]) rfl (⟨_, _, rfl, rfl, _, _, rfl, rfl, _, _, rfl, rfl, rfl⟩) (⟨_, _, rfl, rfl, rfl⟩) rfl ?_
    refine V.region ?_
    refine VO.cons rfl (V1.move rfl rfl rfl lt0 ?_)
    refine VO.cons rfl (V1.int rfl rfl rfl rfl rfl lt0 ?_)
    refine VO.cons rfl (V1.assign rfl rfl rfl lt0 ?_)
    refine VO.nil ?_
    refine V.region ?_
    refine VO.cons rfl (V1.move rfl rfl rfl lt0 ?_)
    refine VO.cons rfl (V1.int rfl rfl rfl rfl rfl lt0 ?_)
    refine VO.cons rfl (V1.assign rfl rfl rfl lt0 ?_)
    refine VO.nil ?_
    exact ⟨(m0, ((a1.set (Int.toNat i) (⟨k1, (IntKind.i64.wrap (k1 + (1 : Int))), (IntKind.i64.wrap ((IntKind.i64.wrap (k1 + (1 : Int))) + (1 : Int))), (IntKind.i64.wrap ((IntKind.i64.wrap ((IntKind.i64.wrap (k1 + (1 : Int))) + (1 : Int))) + (1 : Int))), (IntKind.i64.wrap ((IntKind.i64.wrap ((IntKind.i64.wrap ((IntKind.i64.wrap (k1 + (1 : Int))) + (1 : Int))) + (1 : Int))) + (1 : Int))), ((Int.tmod (IntKind.i64.wrap ((IntKind.i64.wrap ((IntKind.i64.wrap ((IntKind.i64.wrap ((IntKind.i64.wrap (k1 + (1 : Int))) + (1 : Int))) + (1 : Int))) + (1 : Int))) + (1 : Int))) (3 : Int)) == (0 : Int))⟩ : Hand)), (IntKind.i64.wrap ((IntKind.i64.wrap ((IntKind.i64.wrap ((IntKind.i64.wrap ((IntKind.i64.wrap ((IntKind.i64.wrap (k1 + (1 : Int))) + (1 : Int))) + (1 : Int))) + (1 : Int))) + (1 : Int))) + (1 : Int))), (IntKind.i64.wrap (i + (1 : Int)))), ()), hl1 _ (Option.some.inj hm1).symm, Nat.lt_succ_self _, Keeps.mk (ks := [0]) rfl ⟨(someSref (by simp)), rfl, rfl, trivial⟩ (⟨_, _, rfl, rfl, rfl⟩) rfl⟩
   ·
    replace hm1 := cond_f hc0 hm1
    refine V.exit ?_
    obtain rfl := hr1 _ (Option.some.inj hm1).symm
    exact ⟨((a1, k1), ()), rfl, Keeps.mk (ks := [0]) rfl ⟨(someSref (by simp)), rfl, trivial⟩ (⟨_, _, rfl, rfl, rfl⟩) rfl⟩
  ·
   rintro ⟨⟨a0, k0⟩, _⟩ rfl
   try dsimp only at hm0
   refine V.seq ?_
   refine V.region ?_
   refine VO.cons rfl (V1.move rfl rfl rfl lt0 ?_)
   refine VO.cons rfl (V1.assign rfl rfl rfl lt0 ?_)
   refine VO.nil ?_
   refine V.keep 57 [4] [0] (E0 := [(4, .int .i64 k0)]) (H0 := [(oq, ⟨6, List.map encHand a0⟩)]) rfl (⟨_, _, rfl, rfl, rfl⟩) (⟨_, _, rfl, rfl, rfl⟩) rfl ?_
   refine V.ret ?_
   obtain rfl := Option.some.inj hm0
   exact ⟨_, _, ⟨_, _, rfl, rfl, rfl⟩, List.Sublist.refl _, rfl, rfl⟩

theorem ok_laws_markIntS {rn : Nat} {oq : Option Nat} {a : List Int} {k : Int} {r : Int × List Int} (h : M.laws_markIntS a k = some r) (hoq : oq = none → a = []) : Does Try.prog 22 [optS 1 oq (List.length a), .int .i64 k] (optH 1 oq (List.map encInt a)) rn (fun x H => x = .int .i64 r.1 ∧ H = optH 1 oq (List.map encInt r.2)) := by
 have hm0 := h; clear h; unfold M.laws_markIntS at hm0
 try dsimp only at hm0
 refine Does.intro (N := 19) Try.func22 rfl rfl rfl rfl ?_
 intro w0 S0 L0
 rcases oq with _ | oq
 ·
  refine V.seq ?_
  refine V.region ?_
  refine VO.cons rfl (V1.assign rfl rfl rfl lt0 ?_)
  refine VO.nil ?_
  refine V.seq ?_
  refine V.seq ?_
  refine V.region ?_
  refine VO.cons rfl (V1.assign rfl rfl rfl lt0 ?_)
  refine VO.nil ?_
  replace hm0 := bindO hm0; rcases hm0 with ⟨e0, he1, hm0⟩
  refine V.cutT (D := (List Int × Int) × (Unit)) (fun ⟨⟨a0, k0⟩, _⟩ => ⟨19, [(0, .vl rn 1 (List.map encInt a0)), (1, .int .i64 k0)], []⟩) (fun ⟨⟨a0, k0⟩, _⟩ => ((a0, k0) = e0)) ?_ ?_
  ·
   refine V.block ?_
   refine V.keep 19 [0, 1, 5] [] (E0 := [(0, .nils), (1, .int .i64 k), (5, .int .i64 (0 : Int))]) (H0 := []) rfl (⟨_, _, rfl, rfl, _, _, rfl, rfl, _, _, rfl, rfl, rfl⟩) (rfl) rfl ?_
   refine V.loopE (D := Nat × (List Int × Int × Int) × (Unit)) (fun ⟨n0, ⟨a1, k1, i⟩, _⟩ => [(0, .nils), (1, .int .i64 k1), (5, .int .i64 i)]) (fun ⟨n0, ⟨a1, k1, i⟩, _⟩ => []) (fun ⟨n0, ⟨a1, k1, i⟩, _⟩ => loopO (M.laws_markIntS_l0) n0 (a1, k1, i) = some e0 ∧ a1 = []) (fun ⟨n0, _, _⟩ => n0) (rounds, (a, k, (0 : Int)), ()) rfl ⟨he1, (hoq rfl)⟩ ?_
   rintro ⟨n0, ⟨a1, k1, i⟩, _⟩ ⟨hP0, hn_a1⟩
   obtain ⟨m0, y0, rfl, hm1, hl1, hr1⟩ := loop_head hP0
   unfold M.laws_markIntS_l0 at hm1; dsimp only at hm1
   show V _ _ _ ⟨19, [(0, .nils), (1, .int .i64 k1), (5, .int .i64 i)], []⟩
   refine V.seq ?_
   refine V.seq ?_
   refine V.region ?_
   refine VO.cons rfl (V1.move rfl rfl rfl lt0 ?_)
   refine VO.cons rfl (V1.move rfl rfl rfl lt0 ?_)
   refine VO.cons rfl (V1.lenNilsE (l := a1) hn_a1 rfl rfl rfl rfl rfl rfl isl_38 lt0 ?_)
   refine VO.cons rfl (V1.int rfl rfl rfl rfl rfl lt0 ?_)
   refine VO.nil ?_
   refine V.cond rfl (fun hc0 => ?_) (fun hc0 => ?_)
   ·
    replace hm1 := cond_t hc0 hm1
    refine V.skip ?_
    refine V.keep 19 [0, 1, 5] [] (E0 := [(0, .nils), (1, .int .i64 k1), (5, .int .i64 i)]) (H0 := []) rfl (⟨_, _, rfl, rfl, _, _, rfl, rfl, _, _, rfl, rfl, rfl⟩) (rfl) rfl ?_
    refine V.seq ?_
    refine V.block ?_
    refine V.seq ?_
    replace hm1 := asrt_some hm1; rcases hm1 with ⟨hh0, hm1⟩
    refine V.region ?_
    refine VO.cons rfl (V1.move rfl rfl rfl lt0 ?_)
    refine VO.cons rfl (V1.move rfl rfl rfl lt0 ?_)
    refine VO.cons rfl (V1.move rfl rfl rfl lt0 ?_)
    refine VO.weakenK (Keeps.nilsE (l := a1) 12 rn 1 encInt hn_a1 rfl rfl) ?_
    refine VO.cons rfl (V1.indexI rfl rfl esz_38 rfl rfl hh0 lt0 ?_)
    exact (nilsNo hn_a1 hh0).elim
   ·
    replace hm1 := cond_f hc0 hm1
    refine V.exit ?_
    obtain rfl := hr1 _ (Option.some.inj hm1).symm
    exact ⟨((a1, k1), ()), rfl, Keeps.trans (Keeps.nilsE (l := a1) 0 rn 1 encInt hn_a1 rfl rfl) (Keeps.mk (ks := []) rfl ⟨rfl, rfl, trivial⟩ (rfl) rfl)⟩
  ·
   rintro ⟨⟨a0, k0⟩, _⟩ rfl
   try dsimp only at hm0
   refine V.seq ?_
   refine V.region ?_
   refine VO.cons rfl (V1.move rfl rfl rfl lt0 ?_)
   refine VO.cons rfl (V1.assign rfl rfl rfl lt0 ?_)
   refine VO.nil ?_
   refine V.keep 19 [4] [] (E0 := [(4, .int .i64 k0)]) (H0 := []) rfl (⟨_, _, rfl, rfl, rfl⟩) (rfl) rfl ?_
   refine V.ret ?_
   obtain rfl := Option.some.inj hm0
   exact ⟨_, _, ⟨_, _, rfl, rfl, rfl⟩, List.Sublist.refl _, rfl, rfl⟩
 ·
  refine V.seq ?_
  refine V.region ?_
  refine VO.cons rfl (V1.assign rfl rfl rfl lt0 ?_)
  refine VO.nil ?_
  refine V.seq ?_
  refine V.seq ?_
  refine V.region ?_
  refine VO.cons rfl (V1.assign rfl rfl rfl lt0 ?_)
  refine VO.nil ?_
  replace hm0 := bindO hm0; rcases hm0 with ⟨e0, he1, hm0⟩
  refine V.cutT (D := (List Int × Int) × (Unit)) (fun ⟨⟨a0, k0⟩, _⟩ => ⟨19, [(0, .sref oq 1 0 (List.length a0)), (1, .int .i64 k0)], [(oq, ⟨1, List.map encInt a0⟩)]⟩) (fun ⟨⟨a0, k0⟩, _⟩ => ((a0, k0) = e0)) ?_ ?_
  ·
   refine V.block ?_
   refine V.keep 19 [0, 1, 5] [0] (E0 := [(0, .sref oq 1 0 (List.length a)), (1, .int .i64 k), (5, .int .i64 (0 : Int))]) (H0 := [(oq, ⟨1, List.map encInt a⟩)]) rfl (⟨_, _, rfl, rfl, _, _, rfl, rfl, _, _, rfl, rfl, rfl⟩) (⟨_, _, rfl, rfl, rfl⟩) rfl ?_
   refine V.loopE (D := Nat × (List Int × Int × Int) × (Unit)) (fun ⟨n0, ⟨a1, k1, i⟩, _⟩ => [(0, .sref oq 1 0 (List.length a1)), (1, .int .i64 k1), (5, .int .i64 i)]) (fun ⟨n0, ⟨a1, k1, i⟩, _⟩ => [(oq, ⟨1, List.map encInt a1⟩)]) (fun ⟨n0, ⟨a1, k1, i⟩, _⟩ => loopO (M.laws_markIntS_l0) n0 (a1, k1, i) = some e0) (fun ⟨n0, _, _⟩ => n0) (rounds, (a, k, (0 : Int)), ()) rfl he1 ?_
   rintro ⟨n0, ⟨a1, k1, i⟩, _⟩ hP0
   obtain ⟨m0, y0, rfl, hm1, hl1, hr1⟩ := loop_head hP0
   unfold M.laws_markIntS_l0 at hm1; dsimp only at hm1
   show V _ _ _ ⟨19, [(0, .sref oq 1 0 (List.length a1)), (1, .int .i64 k1), (5, .int .i64 i)], [(oq, ⟨1, List.map encInt a1⟩)]⟩
   refine V.seq ?_
   refine V.seq ?_
   refine V.region ?_
   refine VO.cons rfl (V1.move rfl rfl rfl lt0 ?_)
   refine VO.cons rfl (V1.move rfl rfl rfl lt0 ?_)
   refine VO.cons rfl (V1.lenSref rfl rfl rfl rfl rfl rfl isl_38 lt0 ?_)
   refine VO.cons rfl (V1.int rfl rfl rfl rfl rfl lt0 ?_)
   refine VO.nil ?_
   refine V.cond rfl (fun hc0 => ?_) (fun hc0 => ?_)
   ·
    replace hm1 := cond_t hc0 hm1
    refine V.skip ?_
    refine V.keep 19 [0, 1, 5] [0] (E0 := [(0, .sref oq 1 0 (List.length a1)), (1, .int .i64 k1), (5, .int .i64 i)]) (H0 := [(oq, ⟨1, List.map encInt a1⟩)]) rfl (⟨_, _, rfl, rfl, _, _, rfl, rfl, _, _, rfl, rfl, rfl⟩) (⟨_, _, rfl, rfl, rfl⟩) rfl ?_
    refine V.seq ?_
    refine V.block ?_
    refine V.seq ?_
    replace hm1 := asrt_some hm1; rcases hm1 with ⟨hh0, hm1⟩
    refine V.region ?_
    refine VO.cons rfl (V1.move rfl rfl rfl lt0 ?_)
    refine VO.cons rfl (V1.move rfl rfl rfl lt0 ?_)
    refine VO.cons rfl (V1.move rfl rfl rfl lt0 ?_)
    refine VO.cons rfl (V1.indexSr rfl rfl esz_38 rfl rfl hh0 lt0 ?_)
    refine VO.cons rfl (V1.storeMap (k := 0) (f := encInt) (x := k1) rfl rfl tyk_3 rfl rfl (by simpa using natLt hh0.1 hh0.2) rfl rfl ?_)
    refine VO.weakenK (Keeps.say 0 (y := .sref oq 1 0 (List.length (a1.set (Int.toNat i) k1))) rfl (by simp [optS])) ?_
    refine VO.nil ?_
    refine V.region ?_
    refine VO.cons rfl (V1.move rfl rfl rfl lt0 ?_)
    refine VO.cons rfl (V1.int rfl rfl rfl rfl rfl lt0 ?_)
    refine VO.cons rfl (V1.assign rfl rfl rfl lt0 ?_)
    refine VO.nil ?_
    refine V.keep 19 [0, 1, 5] [0] (E0 := [(0, .sref oq 1 0 (List.length (a1.set (Int.toNat i) k1))), (1, .int .i64 (IntKind.i64.wrap (k1 + (1 : Int)))), (5, .int .i64 i)]) (H0 := [(oq, ⟨1, List.map encInt (a1.set (Int.toNat i) k1)⟩)]) rfl (⟨_, _, rfl, rfl, _, _, rfl, rfl, _, _, rfl, rfl, rfl⟩) (⟨_, _, rfl, rfl, rfl⟩) rfl ?_
    refine V.region ?_
    refine VO.cons rfl (V1.move rfl rfl rfl lt0 ?_)
    refine VO.cons rfl (V1.int rfl rfl rfl rfl rfl lt0 ?_)
    refine VO.cons rfl (V1.assign rfl rfl rfl lt0 ?_)
    refine VO.nil ?_
    exact ⟨(m0, ((a1.set (Int.toNat i) k1), (IntKind.i64.wrap (k1 + (1 : Int))), (IntKind.i64.wrap (i + (1 : Int)))), ()), hl1 _ (Option.some.inj hm1).symm, Nat.lt_succ_self _, Keeps.mk (ks := [0]) rfl ⟨(someSref (by simp)), rfl, rfl, trivial⟩ (⟨_, _, rfl, rfl, rfl⟩) rfl⟩
   ·
    replace hm1 := cond_f hc0 hm1
    refine V.exit ?_
    obtain rfl := hr1 _ (Option.some.inj hm1).symm
    exact ⟨((a1, k1), ()), rfl, Keeps.mk (ks := [0]) rfl ⟨(someSref (by simp)), rfl, trivial⟩ (⟨_, _, rfl, rfl, rfl⟩) rfl⟩
  ·
   rintro ⟨⟨a0, k0⟩, _⟩ rfl
   try dsimp only at hm0
   refine V.seq ?_
   refine V.region ?_
   refine VO.cons rfl (V1.move rfl rfl rfl lt0 ?_)
   refine VO.cons rfl (V1.assign rfl rfl rfl lt0 ?_)
   refine VO.nil ?_
   refine V.keep 19 [4] [0] (E0 := [(4, .int .i64 k0)]) (H0 := [(oq, ⟨1, List.map encInt a0⟩)]) rfl (⟨_, _, rfl, rfl, rfl⟩) (⟨_, _, rfl, rfl, rfl⟩) rfl ?_
   refine V.ret ?_
   obtain rfl := Option.some.inj hm0
   exact ⟨_, _, ⟨_, _, rfl, rfl, rfl⟩, List.Sublist.refl _, rfl, rfl⟩

theorem ok_laws_markIntSS {rn : Nat} {oq : Option Nat} {tq : List PV} {oz : List (Nat × Obj')} {a : List (List Int)} {k : Int} {r : Int × List (List Int)} (h : M.laws_markIntSS a k = some r) (hoq : oq = none → a = []) (hdq : Deep 1 (fun c_ : List Int => List.map encInt c_) tq oz a) : Does Try.prog 11 [optS 1 oq (List.length a), .int .i64 k] (optH 1 oq (deepC (cellRow (β := Int)) tq a) ++ oz) rn (fun x H => ∃ (tr_ : List PV) (or_ : List (Nat × Obj')), Deep 1 (fun c_ : List Int => List.map encInt c_) tr_ or_ r.2 ∧ x = .int .i64 r.1 ∧ H = (optH 1 oq (deepC (cellRow (β := Int)) tr_ r.2) ++ or_)) := by
 have hm0 := h; clear h; unfold M.laws_markIntSS at hm0
 try dsimp only at hm0
 refine Does.intro (N := 19) Try.func11 rfl rfl rfl rfl ?_
 intro w0 S0 L0
 rcases oq with _ | oq
 ·
  obtain ⟨rfl, rfl⟩ := Deep.nil (hoq rfl) hdq
  refine V.seq ?_
  refine V.region ?_
  refine VO.cons rfl (V1.assign rfl rfl rfl lt0 ?_)
  refine VO.nil ?_
  refine V.seq ?_
  refine V.seq ?_
  refine V.region ?_
  refine VO.cons rfl (V1.assign rfl rfl rfl lt0 ?_)
  refine VO.nil ?_
  replace hm0 := bindO hm0; rcases hm0 with ⟨e0, he1, hm0⟩
  refine V.cutT (D := (List (List Int) × Int) × (Unit)) (fun ⟨⟨a0, k0⟩, _⟩ => ⟨19, [(0, .nils), (1, .int .i64 k0)], []⟩) (fun ⟨⟨a0, k0⟩, _⟩ => ((a0, k0) = e0) ∧ a0 = []) ?_ ?_
  ·
   refine V.block ?_
   refine V.keep 19 [0, 1, 5] [] (E0 := [(0, .nils), (1, .int .i64 k), (5, .int .i64 (0 : Int))]) (H0 := []) rfl (⟨_, _, rfl, rfl, _, _, rfl, rfl, _, _, rfl, rfl, rfl⟩) (rfl) rfl ?_
   refine V.loopE (D := Nat × (List (List Int) × Int × Int) × (Unit)) (fun ⟨n0, ⟨a1, k1, i⟩, _⟩ => [(0, .nils), (1, .int .i64 k1), (5, .int .i64 i)]) (fun ⟨n0, ⟨a1, k1, i⟩, _⟩ => []) (fun ⟨n0, ⟨a1, k1, i⟩, _⟩ => loopO (M.laws_markIntSS_l0) n0 (a1, k1, i) = some e0 ∧ a1 = []) (fun ⟨n0, _, _⟩ => n0) (rounds, (a, k, (0 : Int)), ()) rfl ⟨he1, (hoq rfl)⟩ ?_
   rintro ⟨n0, ⟨a1, k1, i⟩, _⟩ ⟨hP0, hn_a1⟩
   obtain ⟨m0, y0, rfl, hm1, hl1, hr1⟩ := loop_head hP0
   unfold M.laws_markIntSS_l0 at hm1; dsimp only at hm1
   show V _ _ _ ⟨19, [(0, .nils), (1, .int .i64 k1), (5, .int .i64 i)], []⟩
   refine V.seq ?_
   refine V.seq ?_
   refine V.region ?_
   refine VO.cons rfl (V1.move rfl rfl rfl lt0 ?_)
   refine VO.cons rfl (V1.move rfl rfl rfl lt0 ?_)
   refine VO.cons rfl (V1.lenNilsE (l := a1) hn_a1 rfl rfl rfl rfl rfl rfl isl_24 lt0 ?_)
   refine VO.cons rfl (V1.int rfl rfl rfl rfl rfl lt0 ?_)
   refine VO.nil ?_
   refine V.cond rfl (fun hc0 => ?_) (fun hc0 => ?_)
   ·
    replace hm1 := cond_t hc0 hm1
    refine V.skip ?_
    refine V.keep 19 [0, 1, 5] [] (E0 := [(0, .nils), (1, .int .i64 k1), (5, .int .i64 i)]) (H0 := []) rfl (⟨_, _, rfl, rfl, _, _, rfl, rfl, _, _, rfl, rfl, rfl⟩) (rfl) rfl ?_
    refine V.seq ?_
    refine V.block ?_
    replace hm1 := asrt_some hm1; rcases hm1 with ⟨hh0, hm1⟩
    refine V.region ?_
    refine VO.cons rfl (V1.move rfl rfl rfl lt0 ?_)
    refine VO.cons rfl (V1.move rfl rfl rfl lt0 ?_)
    refine VO.weakenK (Keeps.nilsE (l := a1) 12 rn 1 (encL rn 1 encInt) hn_a1 rfl rfl) ?_
    refine VO.cons rfl (V1.indexI rfl rfl esz_24 rfl rfl hh0 lt0 ?_)
    exact (nilsNo hn_a1 hh0).elim
   ·
    replace hm1 := cond_f hc0 hm1
    refine V.exit ?_
    obtain rfl := hr1 _ (Option.some.inj hm1).symm
    exact ⟨((a1, k1), ()), ⟨rfl, hn_a1⟩, Keeps.mk (ks := []) rfl ⟨rfl, rfl, trivial⟩ (rfl) rfl⟩
  ·
   rintro ⟨⟨a0, k0⟩, _⟩ ⟨rfl, hn_a0⟩
   try dsimp only at hm0
   refine V.seq ?_
   refine V.region ?_
   refine VO.cons rfl (V1.move rfl rfl rfl lt0 ?_)
   refine VO.cons rfl (V1.assign rfl rfl rfl lt0 ?_)
   refine VO.nil ?_
   refine V.keep 19 [4] [] (E0 := [(4, .int .i64 k0)]) (H0 := []) rfl (⟨_, _, rfl, rfl, rfl⟩) (rfl) rfl ?_
   refine V.ret ?_
   obtain rfl := Option.some.inj hm0
   exact ⟨_, _, ⟨_, _, rfl, rfl, rfl⟩, List.Sublist.refl _, [], [], (Deep.ofNil hn_a0), rfl, rfl⟩
 ·
  refine V.seq ?_
  refine V.region ?_
  refine VO.cons rfl (V1.assign rfl rfl rfl lt0 ?_)
  refine VO.nil ?_
  refine V.seq ?_
  refine V.seq ?_
  refine V.region ?_
  refine VO.cons rfl (V1.assign rfl rfl rfl lt0 ?_)
  refine VO.nil ?_
  replace hm0 := bindO hm0; rcases hm0 with ⟨e0, he1, hm0⟩
  refine V.cutT (D := (List (List Int) × Int) × (List PV × (List (Nat × Obj')))) (fun ⟨⟨a0, k0⟩, ⟨ts_32, os_32⟩⟩ => ⟨19, [(0, .sref oq 1 0 (List.length a0)), (1, .int .i64 k0)], ([(oq, ⟨1, deepC (cellRow (β := Int)) ts_32 a0⟩)]) ++ os_32⟩) (fun ⟨⟨a0, k0⟩, ⟨ts_32, os_32⟩⟩ => ((a0, k0) = e0) ∧ Deep 1 (fun c_ : List Int => List.map encInt c_) ts_32 os_32 a0) ?_ ?_
  ·
   refine V.block ?_
   refine V.keepT 19 [0, 1, 5] [0] (E0 := [(0, .sref oq 1 0 (List.length a)), (1, .int .i64 k), (5, .int .i64 (0 : Int))]) (A := [(oq, ⟨1, deepC (cellRow (β := Int)) tq a⟩)]) (T := oz) (H0 := [(oq, ⟨1, deepC (cellRow (β := Int)) tq a⟩)]) (T' := oz) rfl (⟨_, _, rfl, rfl, _, _, rfl, rfl, _, _, rfl, rfl, rfl⟩) rfl (⟨_, _, rfl, rfl, rfl⟩) rfl (List.Sublist.refl _) ?_
   refine V.loopT (D := Nat × (List (List Int) × Int × Int) × (List PV × (List (Nat × Obj')))) (fun ⟨n0, ⟨a1, k1, i⟩, ⟨ts_33, os_33⟩⟩ => [(0, .sref oq 1 0 (List.length a1)), (1, .int .i64 k1), (5, .int .i64 i)]) (fun ⟨n0, ⟨a1, k1, i⟩, ⟨ts_33, os_33⟩⟩ => ([(oq, ⟨1, deepC (cellRow (β := Int)) ts_33 a1⟩)]) ++ os_33) (fun ⟨n0, ⟨a1, k1, i⟩, ⟨ts_33, os_33⟩⟩ => loopO (M.laws_markIntSS_l0) n0 (a1, k1, i) = some e0 ∧ Deep 1 (fun c_ : List Int => List.map encInt c_) ts_33 os_33 a1) (fun ⟨n0, _, _⟩ => n0) (rounds, (a, k, (0 : Int)), (tq, oz)) rfl ⟨he1, hdq⟩ ?_
   rintro ⟨n0, ⟨a1, k1, i⟩, ⟨ts_33, os_33⟩⟩ ⟨hP0, hd_33⟩
   obtain ⟨m0, y0, rfl, hm1, hl1, hr1⟩ := loop_head hP0
   unfold M.laws_markIntSS_l0 at hm1; dsimp only at hm1
   show V _ _ _ ⟨19, [(0, .sref oq 1 0 (List.length a1)), (1, .int .i64 k1), (5, .int .i64 i)], (([(oq, ⟨1, deepC (cellRow (β := Int)) ts_33 a1⟩)] : List (Nat × Obj')) ++ os_33)⟩
   refine V.seq ?_
   refine V.seq ?_
   refine V.region ?_
   refine VO.cons rfl (V1.move rfl rfl rfl lt0 ?_)
   refine VO.cons rfl (V1.move rfl rfl rfl lt0 ?_)
   refine VO.cons rfl (V1.lenSref rfl rfl rfl rfl rfl rfl isl_24 lt0 ?_)
   refine VO.cons rfl (V1.int rfl rfl rfl rfl rfl lt0 ?_)
   refine VO.nil ?_
   refine V.cond rfl (fun hc0 => ?_) (fun hc0 => ?_)
   ·
    replace hm1 := cond_t hc0 hm1
    refine V.skip ?_
    refine V.keepT 19 [0, 1, 5] [0] (E0 := [(0, .sref oq 1 0 (List.length a1)), (1, .int .i64 k1), (5, .int .i64 i)]) (A := [(oq, ⟨1, deepC (cellRow (β := Int)) ts_33 a1⟩)]) (T := os_33) (H0 := [(oq, ⟨1, deepC (cellRow (β := Int)) ts_33 a1⟩)]) (T' := os_33) rfl (⟨_, _, rfl, rfl, _, _, rfl, rfl, _, _, rfl, rfl, rfl⟩) rfl (⟨_, _, rfl, rfl, rfl⟩) rfl (List.Sublist.refl _) ?_
    refine V.seq ?_
    refine V.block ?_
    replace hm1 := asrt_some hm1; rcases hm1 with ⟨hh0, hm1⟩
    replace hm1 := bindO hm1; rcases hm1 with ⟨y1, hh1, hm1⟩
    replace hm1 := asrt_some hm1; rcases hm1 with ⟨hh2, hm1⟩
    refine V.region ?_
    refine VO.cons rfl (V1.move rfl rfl rfl lt0 ?_)
    refine VO.cons rfl (V1.move rfl rfl rfl lt0 ?_)
    refine VO.cons rfl (V1.indexSr rfl rfl esz_24 rfl rfl hh0 lt0 ?_)
    refine VO.cons rfl (V1.loadDeepIn (inn := (fun c_ : List Int => List.map encInt c_)) (cell := (cellRow (β := Int))) (ts := ts_33) (xs := a1) (k := 0) (cokRow 1 encInt) rfl rfl tyk_38 rfl rfl hd_33 (by simpa using natLt hh0.1 hh0.2) lt0 ?_)
    refine VO.cons rfl (V1.move rfl rfl rfl lt0 ?_)
    obtain ⟨ob_34, os1_34, os2_34, hob_34, ht_34, hos_34, hp_34, hs_34⟩ := Deep.focusM (f := encInt) (g := (fun c_ : List Int => c_)) (Int.toNat i) hd_33 (by simpa using natLt hh0.1 hh0.2)
    refine VO.weakenK (Keeps.say 15 (y := optS 1 ob_34 (List.length (a1.getD (Int.toNat i) default))) rfl ht_34) ?_
    refine VO.cons rfl (V1.callD (A := [(oq, ⟨1, deepC (cellRow (β := Int)) ts_33 a1⟩)]) (os1 := os1_34) (os2 := os2_34) (Hc := optH 1 ob_34 (List.map encInt (a1.getD (Int.toNat i) default))) rfl rfl rfl cok_22 rfl (appEq (A := [(oq, ⟨1, deepC (cellRow (β := Int)) ts_33 a1⟩)]) hos_34) (rn + 1) [] [optS 1 ob_34 (List.length (a1.getD (Int.toNat i) default)), .int .i64 k1] ⟨_, _, rfl, .same _, ⟨_, _, rfl, .same _, rfl⟩⟩ bwNil (ok_laws_markIntS hh1 (oq := ob_34) hob_34) rfl (.inl rfl) lt0 ?_)
    rintro _ _ ⟨rfl, rfl⟩
    have hd_34 := hs_34 y1.2 hh2
    refine VO.weakenK (Keeps.sayObj 0 (ys := deepC (cellRow (β := Int)) ts_33 (a1.set (Int.toNat i) y1.2)) rfl (deepC_same (Deep.length hd_33) (fun _ => rfl))) ?_
    refine VO.weakenK (Keeps.say 0 (y := .sref oq 1 0 (List.length (a1.set (Int.toNat i) y1.2))) rfl (by simp [optS])) ?_
    refine VO.cons rfl (V1.assign rfl rfl rfl lt0 ?_)
    refine VO.nil ?_
    refine V.keepT 19 [0, 1, 5] [0] (E0 := [(0, .sref oq 1 0 (List.length (a1.set (Int.toNat i) y1.2))), (1, .int .i64 y1.1), (5, .int .i64 i)]) (A := [(oq, ⟨1, deepC (cellRow (β := Int)) ts_33 (a1.set (Int.toNat i) y1.2)⟩)]) (T := (os1_34 ++ (optH 1 ob_34 (List.map encInt y1.2) ++ os2_34))) (H0 := [(oq, ⟨1, deepC (cellRow (β := Int)) ts_33 (a1.set (Int.toNat i) y1.2)⟩)]) (T' := (os1_34 ++ (optH 1 ob_34 (List.map encInt y1.2) ++ os2_34))) rfl (⟨_, _, rfl, rfl, _, _, rfl, rfl, _, _, rfl, rfl, rfl⟩) rfl (⟨_, _, rfl, rfl, rfl⟩) rfl (List.Sublist.refl _) ?_
    refine V.region ?_
    refine VO.cons rfl (V1.move rfl rfl rfl lt0 ?_)
    refine VO.cons rfl (V1.int rfl rfl rfl rfl rfl lt0 ?_)
    refine VO.cons rfl (V1.assign rfl rfl rfl lt0 ?_)
    refine VO.nil ?_
    exact ⟨(m0, ((a1.set (Int.toNat i) y1.2), y1.1, (IntKind.i64.wrap (i + (1 : Int)))), (ts_33, (os1_34 ++ (optH 1 ob_34 (List.map encInt y1.2) ++ os2_34)))), ⟨hl1 _ (Option.some.inj hm1).symm, hd_34⟩, Nat.lt_succ_self _, Keeps.mkT (A := [(oq, ⟨1, deepC (cellRow (β := Int)) ts_33 (a1.set (Int.toNat i) y1.2)⟩)]) (T := (os1_34 ++ (optH 1 ob_34 (List.map encInt y1.2) ++ os2_34))) (T' := (os1_34 ++ (optH 1 ob_34 (List.map encInt y1.2) ++ os2_34))) (H := [(oq, ⟨1, deepC (cellRow (β := Int)) ts_33 (a1.set (Int.toNat i) y1.2)⟩)]) (ks := [0]) rfl (by exact ⟨(someSref (by simp)), rfl, rfl, trivial⟩) rfl (by exact (⟨_, _, rfl, rfl, rfl⟩)) rfl (List.Sublist.refl _)⟩
   ·
    replace hm1 := cond_f hc0 hm1
    refine V.exit ?_
    obtain rfl := hr1 _ (Option.some.inj hm1).symm
    exact ⟨((a1, k1), (ts_33, os_33)), ⟨rfl, hd_33⟩, Keeps.mkT (A := [(oq, ⟨1, deepC (cellRow (β := Int)) ts_33 a1⟩)]) (T := os_33) (T' := os_33) (H := [(oq, ⟨1, deepC (cellRow (β := Int)) ts_33 a1⟩)]) (ks := [0]) rfl (by exact ⟨(someSref (by simp)), rfl, trivial⟩) rfl (by exact (⟨_, _, rfl, rfl, rfl⟩)) rfl (List.Sublist.refl _)⟩
  ·
   rintro ⟨⟨a0, k0⟩, ⟨ts_32, os_32⟩⟩ ⟨rfl, hd_32⟩
   try dsimp only at hm0
   refine V.seq ?_
   refine V.region ?_
   refine VO.cons rfl (V1.move rfl rfl rfl lt0 ?_)
   refine VO.cons rfl (V1.assign rfl rfl rfl lt0 ?_)
   refine VO.nil ?_
   refine V.keepT 19 [4] [0] (E0 := [(4, .int .i64 k0)]) (A := [(oq, ⟨1, deepC (cellRow (β := Int)) ts_32 a0⟩)]) (T := os_32) (H0 := [(oq, ⟨1, deepC (cellRow (β := Int)) ts_32 a0⟩)]) (T' := os_32) rfl (⟨_, _, rfl, rfl, rfl⟩) rfl (⟨_, _, rfl, rfl, rfl⟩) rfl (List.Sublist.refl _) ?_
   refine V.ret ?_
   obtain rfl := Option.some.inj hm0
   exact ⟨_, _, ⟨_, _, rfl, rfl, rfl⟩, List.Sublist.refl _, ts_32, os_32, hd_32, rfl, rfl⟩

theorem ok_laws_heldIntS {ρ0 rn : Nat} {a : List Int} {k : Int} {r : Int} (h : M.laws_heldIntS a k = some r) : Does Try.prog 23 [.vl ρ0 1 (List.map encInt a), .int .i64 k] [] rn (fun x H => x = .int .i64 r ∧ H = []) := by
 have hm0 := h; clear h; unfold M.laws_heldIntS at hm0
 try dsimp only at hm0
 refine Does.intro (N := 21) Try.func23 rfl rfl rfl rfl ?_
 intro w0 S0 L0
 refine V.seq ?_
 refine V.region ?_
 refine VO.cons rfl (V1.assign rfl rfl rfl lt0 ?_)
 refine VO.nil ?_
 refine V.seq ?_
 refine V.seq ?_
 refine V.region ?_
 refine VO.cons rfl (V1.assign rfl rfl rfl lt0 ?_)
 refine VO.nil ?_
 replace hm0 := bindO hm0; rcases hm0 with ⟨e0, he1, hm0⟩
 refine V.cutT (D := (Int) × (Unit)) (fun ⟨k0, _⟩ => ⟨21, [(1, .int .i64 k0)], []⟩) (fun ⟨k0, _⟩ => (.inl k0 = e0)) ?_ ?_
 ·
  refine V.block ?_
  refine V.keep 21 [1, 5, 0] [] (E0 := [(1, .int .i64 k), (5, .int .i64 (0 : Int)), (0, .vl ρ0 1 (List.map encInt a))]) (H0 := []) rfl (⟨_, _, rfl, rfl, _, _, rfl, rfl, _, _, rfl, rfl, rfl⟩) (rfl) rfl ?_
  refine V.loopE (D := Nat × (Int × Int) × (Unit)) (fun ⟨n0, ⟨k1, i⟩, _⟩ => [(1, .int .i64 k1), (5, .int .i64 i)]) (fun ⟨n0, ⟨k1, i⟩, _⟩ => []) (fun ⟨n0, ⟨k1, i⟩, _⟩ => loopO (M.laws_heldIntS_l0 a) n0 (k1, i) = some e0) (fun ⟨n0, _, _⟩ => n0) (rounds, (k, (0 : Int)), ()) rfl he1 ?_
  rintro ⟨n0, ⟨k1, i⟩, _⟩ hP0
  obtain ⟨m0, y0, rfl, hm1, hl1, hr1⟩ := loop_head hP0
  unfold M.laws_heldIntS_l0 at hm1; dsimp only at hm1
  show V _ _ _ ⟨21, [(1, .int .i64 k1), (5, .int .i64 i), (0, .vl ρ0 1 (List.map encInt a))], []⟩
  refine V.seq ?_
  refine V.seq ?_
  refine V.region ?_
  refine VO.cons rfl (V1.move rfl rfl rfl lt0 ?_)
  refine VO.cons rfl (V1.move rfl rfl rfl lt0 ?_)
  refine VO.cons rfl (V1.lenMap rfl rfl rfl rfl rfl rfl isl_38 lt0 ?_)
  refine VO.cons rfl (V1.int rfl rfl rfl rfl rfl lt0 ?_)
  refine VO.nil ?_
  refine V.cond rfl (fun hc0 => ?_) (fun hc0 => ?_)
  ·
   replace hm1 := cond_t hc0 hm1
   refine V.skip ?_
   refine V.keep 21 [0, 1, 5] [] (E0 := [(0, .vl ρ0 1 (List.map encInt a)), (1, .int .i64 k1), (5, .int .i64 i)]) (H0 := []) rfl (⟨_, _, rfl, rfl, _, _, rfl, rfl, _, _, rfl, rfl, rfl⟩) (rfl) rfl ?_
   refine V.seq ?_
   refine V.block ?_
   refine V.seq ?_
   refine V.seq ?_
   replace hm1 := asrt_some hm1; rcases hm1 with ⟨hh0, hm1⟩
   refine V.region ?_
   refine VO.cons rfl (V1.move rfl rfl rfl lt0 ?_)
   refine VO.cons rfl (V1.move rfl rfl rfl lt0 ?_)
   refine VO.cons rfl (V1.indexI rfl rfl esz_38 rfl rfl hh0 lt0 ?_)
   refine VO.cons rfl (V1.loadPin rfl rfl tyk_3 rfl rfl lt0 ?_)
   refine VO.cons rfl (V1.move rfl rfl rfl lt0 ?_)
   refine VO.cons rfl (V1.int rfl rfl rfl rfl rfl lt0 ?_)
   refine VO.nil ?_
   refine V.keep 21 [0, 1, 5, 17] [] (E0 := [(0, .vl ρ0 1 (List.map encInt a)), (1, .int .i64 k1), (5, .int .i64 i), (17, .bool ((a.getD (Int.toNat i) default) != k1))]) (H0 := []) rfl (⟨_, _, rfl, rfl, _, _, rfl, rfl, _, _, rfl, rfl, _, _, rfl, rfl, rfl⟩) (rfl) rfl ?_
   refine V.cond rfl (fun hc1 => ?_) (fun hc1 => ?_)
   ·
    replace hm1 := cond_t hc1 hm1
    refine V.seq ?_
    refine V.region ?_
    refine VO.cons rfl (V1.assign rfl rfl rfl lt0 ?_)
    refine VO.nil ?_
    refine V.ret ?_
    obtain rfl := hr1 _ (Option.some.inj hm1).symm
    change some _ = some _ at hm0
    obtain rfl := Option.some.inj hm0
    exact ⟨_, [], ⟨_, _, rfl, rfl, rfl⟩, List.nil_sublist _, rfl, rfl⟩
   ·
    replace hm1 := cond_f hc1 hm1
    refine V.skip ?_
    refine V.region ?_
    refine VO.cons rfl (V1.move rfl rfl rfl lt0 ?_)
    refine VO.cons rfl (V1.int rfl rfl rfl rfl rfl lt0 ?_)
    refine VO.cons rfl (V1.assign rfl rfl rfl lt0 ?_)
    refine VO.nil ?_
    refine V.region ?_
    refine VO.cons rfl (V1.move rfl rfl rfl lt0 ?_)
    refine VO.cons rfl (V1.int rfl rfl rfl rfl rfl lt0 ?_)
    refine VO.cons rfl (V1.assign rfl rfl rfl lt0 ?_)
    refine VO.nil ?_
    exact ⟨(m0, ((IntKind.i64.wrap (k1 + (1 : Int))), (IntKind.i64.wrap (i + (1 : Int)))), ()), hl1 _ (Option.some.inj hm1).symm, Nat.lt_succ_self _, Keeps.mk (ks := []) rfl ⟨rfl, rfl, rfl, trivial⟩ (rfl) rfl⟩
  ·
   replace hm1 := cond_f hc0 hm1
   refine V.exit ?_
   obtain rfl := hr1 _ (Option.some.inj hm1).symm
   exact ⟨(k1, ()), rfl, Keeps.mk (ks := []) rfl ⟨rfl, trivial⟩ (rfl) rfl⟩
 ·
  rintro ⟨k0, _⟩ rfl
  try dsimp only at hm0
  refine V.seq ?_
  refine V.region ?_
  refine VO.cons rfl (V1.move rfl rfl rfl lt0 ?_)
  refine VO.cons rfl (V1.assign rfl rfl rfl lt0 ?_)
  refine VO.nil ?_
  refine V.ret ?_
  obtain rfl := Option.some.inj hm0
  exact ⟨_, [], ⟨_, _, rfl, rfl, rfl⟩, List.nil_sublist _, rfl, rfl⟩

theorem ok_laws_heldIntSS {ρ0 σ0 rn : Nat} {a : List (List Int)} {k : Int} {r : Int} (h : M.laws_heldIntSS a k = some r) : Does Try.prog 12 [.vl ρ0 1 (List.map (encL σ0 1 encInt) a), .int .i64 k] [] rn (fun x H => x = .int .i64 r ∧ H = []) := by
 have hm0 := h; clear h; unfold M.laws_heldIntSS at hm0
 try dsimp only at hm0
 refine Does.intro (N := 21) Try.func12 rfl rfl rfl rfl ?_
 intro w0 S0 L0
 refine V.seq ?_
 refine V.region ?_
 refine VO.cons rfl (V1.assign rfl rfl rfl lt0 ?_)
 refine VO.nil ?_
 refine V.seq ?_
 refine V.seq ?_
 refine V.region ?_
 refine VO.cons rfl (V1.assign rfl rfl rfl lt0 ?_)
 refine VO.nil ?_
 replace hm0 := bindO hm0; rcases hm0 with ⟨e0, he1, hm0⟩
 refine V.cutT (D := (Int) × (Unit)) (fun ⟨k0, _⟩ => ⟨21, [(1, .int .i64 k0)], []⟩) (fun ⟨k0, _⟩ => (.inl k0 = e0)) ?_ ?_
 ·
  refine V.block ?_
  refine V.keep 21 [1, 5, 0] [] (E0 := [(1, .int .i64 k), (5, .int .i64 (0 : Int)), (0, .vl ρ0 1 (List.map (encL σ0 1 encInt) a))]) (H0 := []) rfl (⟨_, _, rfl, rfl, _, _, rfl, rfl, _, _, rfl, rfl, rfl⟩) (rfl) rfl ?_
  refine V.loopE (D := Nat × (Int × Int) × (Unit)) (fun ⟨n0, ⟨k1, i⟩, _⟩ => [(1, .int .i64 k1), (5, .int .i64 i)]) (fun ⟨n0, ⟨k1, i⟩, _⟩ => []) (fun ⟨n0, ⟨k1, i⟩, _⟩ => loopO (M.laws_heldIntSS_l0 a) n0 (k1, i) = some e0) (fun ⟨n0, _, _⟩ => n0) (rounds, (k, (0 : Int)), ()) rfl he1 ?_
  rintro ⟨n0, ⟨k1, i⟩, _⟩ hP0
  obtain ⟨m0, y0, rfl, hm1, hl1, hr1⟩ := loop_head hP0
  unfold M.laws_heldIntSS_l0 at hm1; dsimp only at hm1
  show V _ _ _ ⟨21, [(1, .int .i64 k1), (5, .int .i64 i), (0, .vl ρ0 1 (List.map (encL σ0 1 encInt) a))], []⟩
  refine V.seq ?_
  refine V.seq ?_
  refine V.region ?_
  refine VO.cons rfl (V1.move rfl rfl rfl lt0 ?_)
  refine VO.cons rfl (V1.move rfl rfl rfl lt0 ?_)
  refine VO.cons rfl (V1.lenMap rfl rfl rfl rfl rfl rfl isl_24 lt0 ?_)
  refine VO.cons rfl (V1.int rfl rfl rfl rfl rfl lt0 ?_)
  refine VO.nil ?_
  refine V.cond rfl (fun hc0 => ?_) (fun hc0 => ?_)
  ·
   replace hm1 := cond_t hc0 hm1
   refine V.skip ?_
   refine V.keep 21 [0, 1, 5] [] (E0 := [(0, .vl ρ0 1 (List.map (encL σ0 1 encInt) a)), (1, .int .i64 k1), (5, .int .i64 i)]) (H0 := []) rfl (⟨_, _, rfl, rfl, _, _, rfl, rfl, _, _, rfl, rfl, rfl⟩) (rfl) rfl ?_
   refine V.seq ?_
   refine V.block ?_
   refine V.seq ?_
   replace hm1 := asrt_some hm1; rcases hm1 with ⟨hh0, hm1⟩
   replace hm1 := bindO hm1; rcases hm1 with ⟨y1, hh1, hm1⟩
   refine V.region ?_
   refine VO.cons rfl (V1.move rfl rfl rfl lt0 ?_)
   refine VO.cons rfl (V1.move rfl rfl rfl lt0 ?_)
   refine VO.cons rfl (V1.indexI rfl rfl esz_24 rfl rfl hh0 lt0 ?_)
   refine VO.cons rfl (V1.loadPin rfl rfl tyk_38 rfl rfl lt0 ?_)
   refine VO.cons rfl (V1.move rfl rfl rfl lt0 ?_)
   refine VO.cons rfl (V1.call rfl rfl rfl cok_23 rfl (ok_laws_heldIntS hh1) rfl lt0 ?_)
   rintro _ _ ⟨rfl, rfl⟩
   refine VO.cons rfl (V1.assign rfl rfl rfl lt0 ?_)
   refine VO.nil ?_
   refine V.keep 21 [0, 1, 5] [] (E0 := [(0, .vl ρ0 1 (List.map (encL σ0 1 encInt) a)), (1, .int .i64 y1), (5, .int .i64 i)]) (H0 := []) rfl (⟨_, _, rfl, rfl, _, _, rfl, rfl, _, _, rfl, rfl, rfl⟩) (rfl) rfl ?_
   refine V.seq ?_
   refine V.region ?_
   refine VO.cons rfl (V1.move rfl rfl rfl lt0 ?_)
   refine VO.cons rfl (V1.int rfl rfl rfl rfl rfl lt0 ?_)
   refine VO.nil ?_
   refine V.cond rfl (fun hc1 => ?_) (fun hc1 => ?_)
   ·
    replace hm1 := cond_t hc1 hm1
    refine V.seq ?_
    refine V.region ?_
    refine VO.cons rfl (V1.assign rfl rfl rfl lt0 ?_)
    refine VO.nil ?_
    refine V.ret ?_
    obtain rfl := hr1 _ (Option.some.inj hm1).symm
    change some _ = some _ at hm0
    obtain rfl := Option.some.inj hm0
    exact ⟨_, [], ⟨_, _, rfl, rfl, rfl⟩, List.nil_sublist _, rfl, rfl⟩
   ·
    replace hm1 := cond_f hc1 hm1
    refine V.skip ?_
    refine V.region ?_
    refine VO.cons rfl (V1.move rfl rfl rfl lt0 ?_)
    refine VO.cons rfl (V1.int rfl rfl rfl rfl rfl lt0 ?_)
    refine VO.cons rfl (V1.assign rfl rfl rfl lt0 ?_)
    refine VO.nil ?_
    exact ⟨(m0, (y1, (IntKind.i64.wrap (i + (1 : Int)))), ()), hl1 _ (Option.some.inj hm1).symm, Nat.lt_succ_self _, Keeps.mk (ks := []) rfl ⟨rfl, rfl, rfl, trivial⟩ (rfl) rfl⟩
  ·
   replace hm1 := cond_f hc0 hm1
   refine V.exit ?_
   obtain rfl := hr1 _ (Option.some.inj hm1).symm
   exact ⟨(k1, ()), rfl, Keeps.mk (ks := []) rfl ⟨rfl, trivial⟩ (rfl) rfl⟩
 ·
  rintro ⟨k0, _⟩ rfl
  try dsimp only at hm0
  refine V.seq ?_
  refine V.region ?_
  refine VO.cons rfl (V1.move rfl rfl rfl lt0 ?_)
  refine VO.cons rfl (V1.assign rfl rfl rfl lt0 ?_)
  refine VO.nil ?_
  refine V.ret ?_
  obtain rfl := Option.some.inj hm0
  exact ⟨_, [], ⟨_, _, rfl, rfl, rfl⟩, List.nil_sublist _, rfl, rfl⟩

theorem ok_laws_FnExactBrokenSeals {ρ0 rn : Nat} {aList : List Hand} {r : Bool} (h : M.laws_FnExactBrokenSeals aList = some r) : Does Try.prog 3 [.vl ρ0 6 (List.map encHand aList)] [] rn (fun x H => x = .bool r ∧ H = []) := by
 have hm0 := h; clear h; unfold M.laws_FnExactBrokenSeals at hm0
 try dsimp only at hm0
 refine Does.intro (N := 96) Try.func3 rfl rfl rfl rfl ?_
 intro w0 S0 L0
 refine V.seq ?_
 refine V.region ?_
 refine VO.cons rfl (V1.assign rfl rfl rfl lt0 ?_)
 refine VO.nil ?_
 refine V.seq ?_
 refine V.region ?_
 refine VO.cons rfl (V1.assign rfl rfl rfl lt0 ?_)
 refine VO.nil ?_
 refine V.seq ?_
 replace hm0 := bindO hm0; rcases hm0 with ⟨y0, hh0, hm0⟩
 refine V.region ?_
 refine VO.cons rfl (V1.move rfl rfl rfl lt0 ?_)
 refine VO.cons rfl (V1.move rfl rfl rfl lt0 ?_)
 refine VO.cons rfl (V1.call rfl rfl rfl cok_4 rfl (ok_laws_szHandS hh0) rfl lt0 ?_)
 rintro _ _ ⟨rfl, rfl⟩
 refine VO.cons rfl (V1.assign rfl rfl rfl lt0 ?_)
 refine VO.nil ?_
 refine V.keep 96 [0, 3] [] (E0 := [(0, .vl ρ0 6 (List.map encHand aList)), (3, .int .i64 y0)]) (H0 := []) rfl (⟨_, _, rfl, rfl, _, _, rfl, rfl, rfl⟩) (rfl) rfl ?_
 refine V.seq ?_
 refine V.seq ?_
 refine V.region ?_
 refine VO.cons rfl (V1.move rfl rfl rfl lt0 ?_)
 refine VO.cons rfl (V1.int rfl rfl rfl rfl rfl lt0 ?_)
 refine VO.nil ?_
 refine V.cond rfl (fun hc0 => ?_) (fun hc0 => ?_)
 ·
  replace hm0 := cond_t hc0 hm0
  refine V.seq ?_
  refine V.region ?_
  refine VO.cons rfl (V1.assign rfl rfl rfl lt0 ?_)
  refine VO.nil ?_
  refine V.ret ?_
  obtain rfl := Option.some.inj hm0
  exact ⟨_, [], ⟨_, _, rfl, rfl, rfl⟩, List.nil_sublist _, rfl, rfl⟩
 ·
  replace hm0 := cond_f hc0 hm0
  refine V.skip ?_
  refine V.seq ?_
  replace hm0 := bindO hm0; rcases hm0 with ⟨y1, hh1, hm0⟩
  replace hm0 := bindO hm0; rcases hm0 with ⟨y2, hh2, hm0⟩
  refine V.region ?_
  refine VO.cons rfl (V1.move rfl rfl rfl lt0 ?_)
  refine VO.cons rfl (V1.call rfl rfl rfl cok_6 rfl (ok_laws_toHandS hh1) rfl lt0 ?_)
  rintro _ _ ⟨b0, rfl, rfl⟩
  refine VO.weakenK (Keeps.freezeG 0 rn [(21, .vl rn 6 (List.map encHand y1))] ([]) (f := encHand) (l := y1) rfl (fun _ => rfl) ⟨⟨_, rfl, .here⟩, trivial⟩ rfl rfl iNil) ?_
  refine VO.cons rfl (V1.call rfl rfl rfl cok_5 rfl (ok_spec_BrokenSeals hh2) rfl lt0 ?_)
  rintro _ _ ⟨b1, rfl, rfl⟩
  refine VO.cons rfl (V1.move rfl rfl rfl lt0 ?_)
  refine VO.cons rfl (V1.extract rfl rfl rfl rfl lt0 ?_)
  refine VO.weakenK (Keeps.freezeG 0 rn [(23, .vl rn 1 (List.map (encL rn 1 encInt) y2.1))] ([]) (f := (encL rn 1 encInt)) (l := y2.1) rfl (fun _ => rfl) ⟨⟨_, rfl, .here⟩, trivial⟩ rfl rfl iNil) ?_
  refine VO.cons rfl (V1.extract rfl rfl rfl rfl lt0 ?_)
  refine VO.cons rfl (V1.assign rfl rfl rfl lt0 ?_)
  refine VO.cons rfl (V1.assign rfl rfl rfl lt0 ?_)
  refine VO.nil ?_
  refine V.keep 96 [0, 4, 5] [] (E0 := [(0, .vl ρ0 6 (List.map encHand aList)), (4, .vl rn 1 (List.map (encL rn 1 encInt) y2.1)), (5, .bool y2.2)]) (H0 := []) rfl (⟨_, _, rfl, rfl, _, _, rfl, rfl, _, _, rfl, rfl, rfl⟩) (rfl) rfl ?_
  refine V.seq ?_
  replace hm0 := bindO hm0; rcases hm0 with ⟨y3, hh3, hm0⟩
  refine V.region ?_
  refine VO.cons rfl (V1.move rfl rfl rfl lt0 ?_)
  refine VO.cons rfl (V1.call rfl rfl rfl cok_6 rfl (ok_laws_toHandS hh3) rfl lt0 ?_)
  rintro _ _ ⟨b2, rfl, rfl⟩
  refine VO.cons rfl (V1.assign rfl rfl rfl lt0 ?_)
  refine VO.nil ?_
  refine V.seq ?_
  replace hm0 := bindO hm0; rcases hm0 with ⟨y4, hh4, hm0⟩
  refine V.region ?_
  refine VO.cons rfl (V1.move rfl rfl rfl lt0 ?_)
  refine VO.cons rfl (V1.permK (V1.callL (rn + 1) [b2] [.vl (rn + 1) 6 (List.map encHand y3)] rfl rfl rfl cok_7 rfl ⟨_, _, rfl, Lend.srMap 0 rfl (fun _ => rfl) (.head _), rfl⟩ (bwCons (k := 0) rfl bwNil) (okd_impl_BrokenSeals hh4) rfl (⟨(by first | omega | (dsimp only; omega)), by rintro _ _ ⟨ob0, ts_58, os_58, hob0, hd_58, rfl, rfl⟩; refine ⟨by simp [PV.no, PV.noL, optS_no, noL_iff, nbeq] <;> omega, ?_⟩; intro b ob h; obtain ⟨q1_, q2_⟩ := deepNo (cokRow 1 encInt) (fun _ => noL_map (fun _ => rfl) _) hd_58; exact (List.mem_append.1 h).elim (fun h => optH_no q1_ b ob h) (fun h => q2_ b ob h)⟩) lt0 ?_))
  rintro _ _ ⟨ob0, ts_58, os_58, hob0, hd_58, rfl, rfl⟩
  refine ⟨_, ?_, Keeps.perm (optH 1 ob0 (deepC (cellRow (β := Int)) ts_58 y4.1) ++ (([(b2, ⟨6, List.map encHand y3⟩)] : List (Nat × Obj')) ++ os_58)) (permDeepO1 (o := optH 1 ob0 (deepC (cellRow (β := Int)) ts_58 y4.1)) (os := os_58) (A := [(b2, ⟨6, List.map encHand y3⟩)]))⟩
  refine VO.cons rfl (V1.move rfl rfl rfl lt0 ?_)
  refine VO.cons rfl (V1.extract rfl rfl rfl rfl lt0 ?_)
  refine VO.cons rfl (V1.extract rfl rfl rfl rfl lt0 ?_)
  refine VO.cons rfl (V1.assign rfl rfl rfl lt0 ?_)
  refine VO.cons rfl (V1.assign rfl rfl rfl lt0 ?_)
  refine VO.nil ?_
  rcases ob0 with _ | ob0
  ·
   obtain ⟨rfl, rfl⟩ := Deep.nil (hob0 rfl) hd_58
   refine V.keep 96 [0, 4, 5, 6, 7, 8] [0] (E0 := [(0, .vl ρ0 6 (List.map encHand aList)), (4, .vl rn 1 (List.map (encL rn 1 encInt) y2.1)), (5, .bool y2.2), (6, .sref b2 6 0 (List.length y3)), (7, .nils), (8, .bool y4.2)]) (H0 := [(b2, ⟨6, List.map encHand y3⟩)]) rfl (⟨_, _, rfl, rfl, _, _, rfl, rfl, _, _, rfl, rfl, _, _, rfl, rfl, _, _, rfl, rfl, _, _, rfl, rfl, rfl⟩) (⟨_, _, rfl, rfl, rfl⟩) rfl ?_
   refine V.seq ?_
   refine V.seq ?_
   replace hm0 := bindO hm0; rcases hm0 with ⟨y5, hh5, hm0⟩
   refine V.region ?_
   refine VO.cons rfl (V1.move rfl rfl rfl lt0 ?_)
   refine VO.cons rfl (V1.move rfl rfl rfl lt0 ?_)
   refine VO.weakenK (Keeps.nilsE (l := y4.1) 32 rn 1 (encL rn 1 encInt) (hob0 rfl) rfl rfl) ?_
   refine VO.cons rfl (V1.call rfl rfl rfl cok_8 rfl (ok_laws_eqIntSS hh5) rfl lt0 ?_)
   rintro _ _ ⟨rfl, rfl⟩
   refine VO.cons rfl (V1.not rfl rfl rfl lt0 ?_)
   refine VO.cons rfl (V1.move rfl rfl rfl lt0 ?_)
   apply VO.or (n := 3) rfl rfl rfl rfl rfl rfl lt0 (.none rfl)
   ·
    intro hg0
    refine VO.step (.some rfl rfl rfl) (V1.move rfl rfl rfl lt0 ?_)
    refine VO.step (.some rfl rfl rfl) (V1.move rfl rfl rfl lt0 ?_)
    refine VO.step (.some rfl rfl rfl) (V1.boolNeq rfl rfl und_4 rfl rfl lt0 ?_)
    exact VO.nil ⟨rfl, rfl, rfl, rfl, .inr ⟨rfl, .inr ⟨rfl, .inr ⟨rfl, .inr ⟨rfl, .inl rfl⟩⟩⟩⟩⟩
   refine VO.nil ?_
   refine V.keep 96 [0, 4, 5, 6, 7, 8, 40] [0] (E0 := [(0, .vl ρ0 6 (List.map encHand aList)), (4, .vl rn 1 (List.map (encL rn 1 encInt) y2.1)), (5, .bool y2.2), (6, .sref b2 6 0 (List.length y3)), (7, .nils), (8, .bool y4.2), (40, .bool ((!y5) || (!(y4.2 == y2.2))))]) (H0 := [(b2, ⟨6, List.map encHand y3⟩)]) rfl (⟨_, _, rfl, rfl, _, _, rfl, rfl, _, _, rfl, rfl, _, _, rfl, rfl, _, _, rfl, rfl, _, _, rfl, rfl, _, _, rfl, rfl, rfl⟩) (⟨_, _, rfl, rfl, rfl⟩) rfl ?_
   refine V.cond rfl (fun hc1 => ?_) (fun hc1 => ?_)
   ·
    replace hm0 := cond_t hc1 hm0
    refine V.seq ?_
    refine V.region ?_
    refine VO.cons rfl (V1.assign rfl rfl rfl lt0 ?_)
    refine VO.nil ?_
    refine V.ret ?_
    obtain rfl := Option.some.inj hm0
    exact ⟨_, [], ⟨_, _, rfl, rfl, rfl⟩, List.nil_sublist _, rfl, rfl⟩
   ·
    replace hm0 := cond_f hc1 hm0
    refine V.skip ?_
    refine V.seq ?_
    refine V.seq ?_
    replace hm0 := bindO hm0; rcases hm0 with ⟨y6, hh6, hm0⟩
    replace hm0 := bindO hm0; rcases hm0 with ⟨y7, hh7, hm0⟩
    refine V.region ?_
    refine VO.cons rfl (V1.move rfl rfl rfl lt0 ?_)
    refine VO.cons rfl (V1.move rfl rfl rfl lt0 ?_)
    refine VO.cons rfl (V1.call rfl rfl rfl cok_6 rfl (ok_laws_toHandS hh6) rfl lt0 ?_)
    rintro _ _ ⟨b3, rfl, rfl⟩
    refine VO.weakenK (Keeps.freezeG 0 rn [(43, .vl rn 6 (List.map encHand y6))] ([(b2, ⟨6, List.map encHand y3⟩)]) (f := encHand) (l := y6) rfl (fun _ => rfl) ⟨⟨_, rfl, .here⟩, trivial⟩ ⟨_, _, rfl, rfl, .inl rfl, rfl⟩ rfl iNil) ?_
    refine VO.cons rfl (V1.callL (rn + 1) [b2] [.vl (rn + 1) 6 (List.map encHand y3), .vl rn 6 (List.map encHand y6)] rfl rfl rfl cok_9 rfl ⟨_, _, rfl, Lend.srMap 0 rfl (fun _ => rfl) (.head _), ⟨_, _, rfl, .same _, rfl⟩⟩ (bwCons (k := 0) rfl bwNil) (ok_laws_eqHandS hh7) rfl (⟨(by first | omega | (dsimp only; omega)), by rintro _ _ ⟨rfl, rfl⟩; exact ⟨rfl, by simp⟩⟩) lt0 ?_)
    rintro _ _ ⟨rfl, rfl⟩
    refine VO.cons rfl (V1.not rfl rfl rfl lt0 ?_)
    refine VO.nil ?_
    refine V.keep 96 [0, 4, 5, 6, 7, 8, 45] [0] (E0 := [(0, .vl ρ0 6 (List.map encHand aList)), (4, .vl rn 1 (List.map (encL rn 1 encInt) y2.1)), (5, .bool y2.2), (6, .sref b2 6 0 (List.length y3)), (7, .nils), (8, .bool y4.2), (45, .bool (!y7))]) (H0 := [(b2, ⟨6, List.map encHand y3⟩)]) rfl (⟨_, _, rfl, rfl, _, _, rfl, rfl, _, _, rfl, rfl, _, _, rfl, rfl, _, _, rfl, rfl, _, _, rfl, rfl, _, _, rfl, rfl, rfl⟩) (⟨_, _, rfl, rfl, rfl⟩) rfl ?_
    refine V.cond rfl (fun hc2 => ?_) (fun hc2 => ?_)
    ·
     replace hm0 := cond_t hc2 hm0
     refine V.seq ?_
     refine V.region ?_
     refine VO.cons rfl (V1.assign rfl rfl rfl lt0 ?_)
     refine VO.nil ?_
     refine V.ret ?_
     obtain rfl := Option.some.inj hm0
     exact ⟨_, [], ⟨_, _, rfl, rfl, rfl⟩, List.nil_sublist _, rfl, rfl⟩
    ·
     replace hm0 := cond_f hc2 hm0
     refine V.skip ?_
     refine V.seq ?_
     refine V.region ?_
     refine VO.cons rfl (V1.assign rfl rfl rfl lt0 ?_)
     refine VO.nil ?_
     refine V.seq ?_
     replace hm0 := bindO hm0; rcases hm0 with ⟨y8, hh8, hm0⟩
     replace hm0 := asrt_some hm0; rcases hm0 with ⟨hh9, hm0⟩
     refine V.region ?_
     refine VO.cons rfl (V1.move rfl rfl rfl lt0 ?_)
     refine VO.cons rfl (V1.move rfl rfl rfl lt0 ?_)
     refine VO.cons rfl (V1.callM 0 (rn + 1) [] [.sref b2 6 0 (List.length y3), .int .i64 (1 : Int)] (p := (b2, ⟨6, List.map encHand y3⟩)) rfl rfl rfl cok_10 rfl rfl ⟨_, _, rfl, .same _, ⟨_, _, rfl, .same _, rfl⟩⟩ bwNil (ok_laws_markHandS hh8 (oq := some b2) (fun e => by cases e)) rfl (.inl rfl) lt0 ?_)
     rintro _ _ ⟨rfl, rfl⟩
     refine VO.cons rfl (V1.assign rfl rfl rfl lt0 ?_)
     refine VO.nil ?_
     refine V.seq ?_
     refine V.seq ?_
     replace hm0 := bindO hm0; rcases hm0 with ⟨y9, hh10, hm0⟩
     refine V.region ?_
     refine VO.cons rfl (V1.move rfl rfl rfl lt0 ?_)
     refine VO.cons rfl (V1.int rfl rfl rfl rfl rfl lt0 ?_)
     refine VO.cons rfl (V1.move rfl rfl rfl lt0 ?_)
     apply VO.or (n := 4) rfl rfl rfl rfl rfl rfl lt0 (.none rfl)
     ·
      intro hg1
      refine VO.step (.some rfl rfl rfl) (V1.move rfl rfl rfl lt0 ?_)
      refine VO.step (.some rfl rfl rfl) (V1.move rfl rfl rfl lt0 ?_)
      refine VO.weakenK (Keeps.nilsE (l := y4.1) 52 rn 1 (encL rn 1 encInt) (hob0 rfl) rfl rfl) ?_
      refine VO.step (.some rfl rfl rfl) (V1.call rfl rfl rfl cok_8 rfl (ok_laws_eqIntSS (cond_f hg1 hh10)) rfl lt0 ?_)
      rintro _ _ ⟨rfl, rfl⟩
      refine VO.step (.some rfl rfl rfl) (V1.not rfl rfl rfl lt0 ?_)
      exact VO.nil ⟨rfl, rfl, rfl, rfl, .inr ⟨rfl, .inr ⟨rfl, .inr ⟨rfl, .inr ⟨rfl, .inr ⟨rfl, .inr ⟨rfl, .inl rfl⟩⟩⟩⟩⟩⟩⟩
     refine VO.cons rfl (V1.move rfl rfl rfl lt0 ?_)
     apply VO.or (n := 3) rfl rfl rfl rfl rfl rfl lt0 (.none rfl)
     ·
      intro hg2
      refine VO.step (.some rfl rfl rfl) (V1.move rfl rfl rfl lt0 ?_)
      refine VO.step (.some rfl rfl rfl) (V1.move rfl rfl rfl lt0 ?_)
      refine VO.step (.some rfl rfl rfl) (V1.boolNeq rfl rfl und_4 rfl rfl lt0 ?_)
      exact VO.nil ⟨rfl, rfl, rfl, rfl, .inr ⟨rfl, .inr ⟨rfl, .inr ⟨rfl, .inr ⟨rfl, .inl rfl⟩⟩⟩⟩⟩
     refine VO.nil ?_
     refine V.keep 96 [0, 4, 5, 7, 61] [] (E0 := [(0, .vl ρ0 6 (List.map encHand aList)), (4, .vl rn 1 (List.map (encL rn 1 encInt) y2.1)), (5, .bool y2.2), (7, .nils), (61, .bool (((decide (y8.1 < (0 : Int))) || (!y9)) || (!(y4.2 == y2.2))))]) (H0 := []) rfl (⟨_, _, rfl, rfl, _, _, rfl, rfl, _, _, rfl, rfl, _, _, rfl, rfl, _, _, rfl, rfl, rfl⟩) (rfl) rfl ?_
     refine V.cond rfl (fun hc3 => ?_) (fun hc3 => ?_)
     ·
      replace hm0 := cond_t hc3 hm0
      refine V.seq ?_
      refine V.region ?_
      refine VO.cons rfl (V1.assign rfl rfl rfl lt0 ?_)
      refine VO.nil ?_
      refine V.ret ?_
      obtain rfl := Option.some.inj hm0
      exact ⟨_, [], ⟨_, _, rfl, rfl, rfl⟩, List.nil_sublist _, rfl, rfl⟩
     ·
      replace hm0 := cond_f hc3 hm0
      refine V.skip ?_
      refine V.seq ?_
      refine V.region ?_
      refine VO.cons rfl (V1.assign rfl rfl rfl lt0 ?_)
      refine VO.nil ?_
      refine V.seq ?_
      replace hm0 := bindO hm0; rcases hm0 with ⟨y10, hh11, hm0⟩
      replace hm0 := asrt_some hm0; rcases hm0 with ⟨hh12, hm0⟩
      refine V.region ?_
      refine VO.cons rfl (V1.move rfl rfl rfl lt0 ?_)
      refine VO.cons rfl (V1.move rfl rfl rfl lt0 ?_)
      refine VO.cons rfl (V1.call rfl rfl rfl cok_11 rfl (ok_laws_markIntSS hh11 (oq := none) (tq := []) (oz := []) (fun _ => (hob0 rfl)) (Deep.ofNil (hob0 rfl))) rfl lt0 ?_)
      rintro _ _ ⟨ts_75, os_75, hd_75, rfl, rfl⟩
      obtain ⟨rfl, rfl⟩ := Deep.nil (List.length_eq_zero_iff.1 (hh12.trans (congrArg List.length (hob0 rfl)))) hd_75
      refine VO.cons rfl (V1.assign rfl rfl rfl lt0 ?_)
      refine VO.nil ?_
      refine V.keep 96 [0, 4, 5, 7, 10] [] (E0 := [(0, .vl ρ0 6 (List.map encHand aList)), (4, .vl rn 1 (List.map (encL rn 1 encInt) y2.1)), (5, .bool y2.2), (7, .nils), (10, .int .i64 y10.1)]) (H0 := []) rfl (⟨_, _, rfl, rfl, _, _, rfl, rfl, _, _, rfl, rfl, _, _, rfl, rfl, _, _, rfl, rfl, rfl⟩) (rfl) rfl ?_
      refine V.seq ?_
      refine V.region ?_
      refine VO.cons rfl (V1.assign rfl rfl rfl lt0 ?_)
      refine VO.nil ?_
      refine V.seq ?_
      replace hm0 := bindO hm0; rcases hm0 with ⟨y11, hh13, hm0⟩
      refine V.region ?_
      refine VO.cons rfl (V1.move rfl rfl rfl lt0 ?_)
      refine VO.cons rfl (V1.move rfl rfl rfl lt0 ?_)
      refine VO.weakenK (Keeps.nilsE (l := y10.2) 65 rn 1 (encL rn 1 encInt) (List.length_eq_zero_iff.1 (hh12.trans (congrArg List.length (hob0 rfl)))) rfl rfl) ?_
      refine VO.cons rfl (V1.call rfl rfl rfl cok_12 rfl (ok_laws_heldIntSS hh13) rfl lt0 ?_)
      rintro _ _ ⟨rfl, rfl⟩
      refine VO.cons rfl (V1.assign rfl rfl rfl lt0 ?_)
      refine VO.nil ?_
      refine V.seq ?_
      refine V.seq ?_
      refine V.region ?_
      refine VO.cons rfl (V1.move rfl rfl rfl lt0 ?_)
      refine VO.cons rfl (V1.int rfl rfl rfl rfl rfl lt0 ?_)
      refine VO.nil ?_
      refine V.keep 96 [0, 4, 5, 7, 10, 11, 69] [] (E0 := [(0, .vl ρ0 6 (List.map encHand aList)), (4, .vl rn 1 (List.map (encL rn 1 encInt) y2.1)), (5, .bool y2.2), (7, .nils), (10, .int .i64 y10.1), (11, .int .i64 y11), (69, .bool (decide (y11 < (0 : Int))))]) (H0 := []) rfl (⟨_, _, rfl, rfl, _, _, rfl, rfl, _, _, rfl, rfl, _, _, rfl, rfl, _, _, rfl, rfl, _, _, rfl, rfl, _, _, rfl, rfl, rfl⟩) (rfl) rfl ?_
      refine V.cond rfl (fun hc4 => ?_) (fun hc4 => ?_)
      ·
       replace hm0 := cond_t hc4 hm0
       refine V.seq ?_
       refine V.region ?_
       refine VO.cons rfl (V1.assign rfl rfl rfl lt0 ?_)
       refine VO.nil ?_
       refine V.ret ?_
       obtain rfl := Option.some.inj hm0
       exact ⟨_, [], ⟨_, _, rfl, rfl, rfl⟩, List.nil_sublist _, rfl, rfl⟩
      ·
       replace hm0 := cond_f hc4 hm0
       refine V.skip ?_
       refine V.seq ?_
       refine V.seq ?_
       refine V.region ?_
       refine VO.cons rfl (V1.move rfl rfl rfl lt0 ?_)
       refine VO.cons rfl (V1.move rfl rfl rfl lt0 ?_)
       refine VO.cons rfl (V1.int rfl rfl rfl rfl rfl lt0 ?_)
       refine VO.nil ?_
       refine V.keep 96 [0, 4, 5, 7, 10, 72] [] (E0 := [(0, .vl ρ0 6 (List.map encHand aList)), (4, .vl rn 1 (List.map (encL rn 1 encInt) y2.1)), (5, .bool y2.2), (7, .nils), (10, .int .i64 y10.1), (72, .bool (y11 != y10.1))]) (H0 := []) rfl (⟨_, _, rfl, rfl, _, _, rfl, rfl, _, _, rfl, rfl, _, _, rfl, rfl, _, _, rfl, rfl, _, _, rfl, rfl, rfl⟩) (rfl) rfl ?_
       refine V.cond rfl (fun hc5 => ?_) (fun hc5 => ?_)
       ·
        replace hm0 := cond_t hc5 hm0
        refine V.seq ?_
        refine V.region ?_
        refine VO.cons rfl (V1.assign rfl rfl rfl lt0 ?_)
        refine VO.nil ?_
        refine V.ret ?_
        obtain rfl := Option.some.inj hm0
        exact ⟨_, [], ⟨_, _, rfl, rfl, rfl⟩, List.nil_sublist _, rfl, rfl⟩
       ·
        replace hm0 := cond_f hc5 hm0
        refine V.skip ?_
        refine V.seq ?_
        replace hm0 := bindO hm0; rcases hm0 with ⟨y12, hh14, hm0⟩
        replace hm0 := bindO hm0; rcases hm0 with ⟨y13, hh15, hm0⟩
        refine V.region ?_
        refine VO.cons rfl (V1.move rfl rfl rfl lt0 ?_)
        refine VO.cons rfl (V1.call rfl rfl rfl cok_6 rfl (ok_laws_toHandS hh14) rfl lt0 ?_)
        rintro _ _ ⟨b4, rfl, rfl⟩
        refine VO.weakenK (Keeps.freezeG 0 rn [(75, .vl rn 6 (List.map encHand y12))] ([]) (f := encHand) (l := y12) rfl (fun _ => rfl) ⟨⟨_, rfl, .here⟩, trivial⟩ rfl rfl iNil) ?_
        refine VO.cons rfl (V1.permK (V1.call rfl rfl rfl cok_7 rfl (ok_impl_BrokenSeals hh15) rfl lt0 ?_))
        rintro _ _ ⟨ob1, hob1, rfl, rfl⟩
        refine ⟨_, ?_, Keeps.optBack (n := 1) (ob := ob1) (xs := List.map (encL rn 1 encInt) y13.1) (H1 := []) (H2 := []) rfl⟩
        refine VO.cons rfl (V1.move rfl rfl rfl lt0 ?_)
        refine VO.cons rfl (V1.extract rfl rfl rfl rfl lt0 ?_)
        refine VO.weakenK (Keeps.optFront (n := 1) (ob := ob1) (xs := (List.map (encL rn 1 encInt) y13.1)) (H1 := []) rfl) ?_
        refine VO.weakenK (Keeps.optVl 77 [] rn (f := (encL rn 1 encInt)) (l := y13.1) (ob := ob1) (H1 := []) hob1 rfl rfl ⟨rfl, trivial⟩ (fun _ => rfl) rfl iNil) ?_
        refine VO.cons rfl (V1.extract rfl rfl rfl rfl lt0 ?_)
        refine VO.cons rfl (V1.assign rfl rfl rfl lt0 ?_)
        refine VO.cons rfl (V1.assign rfl rfl rfl lt0 ?_)
        refine VO.nil ?_
        refine V.keep 96 [4, 5, 7, 10, 12, 13] [] (E0 := [(4, .vl rn 1 (List.map (encL rn 1 encInt) y2.1)), (5, .bool y2.2), (7, .nils), (10, .int .i64 y10.1), (12, .vl rn 1 (List.map (encL rn 1 encInt) y13.1)), (13, .bool y13.2)]) (H0 := []) rfl (⟨_, _, rfl, rfl, _, _, rfl, rfl, _, _, rfl, rfl, _, _, rfl, rfl, _, _, rfl, rfl, _, _, rfl, rfl, rfl⟩) (rfl) rfl ?_
        refine V.seq ?_
        refine V.seq ?_
        replace hm0 := bindO hm0; rcases hm0 with ⟨y14, hh16, hm0⟩
        refine V.region ?_
        refine VO.cons rfl (V1.move rfl rfl rfl lt0 ?_)
        refine VO.cons rfl (V1.move rfl rfl rfl lt0 ?_)
        refine VO.cons rfl (V1.call rfl rfl rfl cok_8 rfl (ok_laws_eqIntSS hh16) rfl lt0 ?_)
        rintro _ _ ⟨rfl, rfl⟩
        refine VO.cons rfl (V1.not rfl rfl rfl lt0 ?_)
        refine VO.cons rfl (V1.move rfl rfl rfl lt0 ?_)
        apply VO.or (n := 3) rfl rfl rfl rfl rfl rfl lt0 (.none rfl)
        ·
         intro hg3
         refine VO.step (.some rfl rfl rfl) (V1.move rfl rfl rfl lt0 ?_)
         refine VO.step (.some rfl rfl rfl) (V1.move rfl rfl rfl lt0 ?_)
         refine VO.step (.some rfl rfl rfl) (V1.boolNeq rfl rfl und_4 rfl rfl lt0 ?_)
         exact VO.nil ⟨rfl, rfl, rfl, rfl, .inr ⟨rfl, .inr ⟨rfl, .inr ⟨rfl, .inr ⟨rfl, .inl rfl⟩⟩⟩⟩⟩
        refine VO.nil ?_
        refine V.keep 96 [7, 10, 87] [] (E0 := [(7, .nils), (10, .int .i64 y10.1), (87, .bool ((!y14) || (!(y13.2 == y2.2))))]) (H0 := []) rfl (⟨_, _, rfl, rfl, _, _, rfl, rfl, _, _, rfl, rfl, rfl⟩) (rfl) rfl ?_
        refine V.cond rfl (fun hc6 => ?_) (fun hc6 => ?_)
        ·
         replace hm0 := cond_t hc6 hm0
         refine V.seq ?_
         refine V.region ?_
         refine VO.cons rfl (V1.assign rfl rfl rfl lt0 ?_)
         refine VO.nil ?_
         refine V.ret ?_
         obtain rfl := Option.some.inj hm0
         exact ⟨_, [], ⟨_, _, rfl, rfl, rfl⟩, List.nil_sublist _, rfl, rfl⟩
        ·
         replace hm0 := cond_f hc6 hm0
         refine V.skip ?_
         refine V.seq ?_
         refine V.region ?_
         refine VO.cons rfl (V1.assign rfl rfl rfl lt0 ?_)
         refine VO.nil ?_
         refine V.seq ?_
         replace hm0 := bindO hm0; rcases hm0 with ⟨y15, hh17, hm0⟩
         refine V.region ?_
         refine VO.cons rfl (V1.move rfl rfl rfl lt0 ?_)
         refine VO.cons rfl (V1.move rfl rfl rfl lt0 ?_)
         refine VO.weakenK (Keeps.nilsE (l := y10.2) 88 rn 1 (encL rn 1 encInt) (List.length_eq_zero_iff.1 (hh12.trans (congrArg List.length (hob0 rfl)))) rfl rfl) ?_
         refine VO.cons rfl (V1.call rfl rfl rfl cok_12 rfl (ok_laws_heldIntSS hh17) rfl lt0 ?_)
         rintro _ _ ⟨rfl, rfl⟩
         refine VO.cons rfl (V1.assign rfl rfl rfl lt0 ?_)
         refine VO.nil ?_
         refine V.keep 96 [10, 11] [] (E0 := [(10, .int .i64 y10.1), (11, .int .i64 y15)]) (H0 := []) rfl (⟨_, _, rfl, rfl, _, _, rfl, rfl, rfl⟩) (rfl) rfl ?_
         refine V.seq ?_
         refine V.seq ?_
         refine V.region ?_
         refine VO.cons rfl (V1.move rfl rfl rfl lt0 ?_)
         refine VO.cons rfl (V1.int rfl rfl rfl rfl rfl lt0 ?_)
         refine VO.nil ?_
         refine V.cond rfl (fun hc7 => ?_) (fun hc7 => ?_)
         ·
          replace hm0 := cond_t hc7 hm0
          refine V.seq ?_
          refine V.region ?_
          refine VO.cons rfl (V1.assign rfl rfl rfl lt0 ?_)
          refine VO.nil ?_
          refine V.ret ?_
          obtain rfl := Option.some.inj hm0
          exact ⟨_, [], ⟨_, _, rfl, rfl, rfl⟩, List.nil_sublist _, rfl, rfl⟩
         ·
          replace hm0 := cond_f hc7 hm0
          refine V.skip ?_
          refine V.seq ?_
          refine V.seq ?_
          refine V.region ?_
          refine VO.cons rfl (V1.move rfl rfl rfl lt0 ?_)
          refine VO.cons rfl (V1.move rfl rfl rfl lt0 ?_)
          refine VO.cons rfl (V1.int rfl rfl rfl rfl rfl lt0 ?_)
          refine VO.nil ?_
          refine V.keep 96 [95] [] (E0 := [(95, .bool (y15 != y10.1))]) (H0 := []) rfl (⟨_, _, rfl, rfl, rfl⟩) (rfl) rfl ?_
          refine V.cond rfl (fun hc8 => ?_) (fun hc8 => ?_)
          ·
           replace hm0 := cond_t hc8 hm0
           refine V.seq ?_
           refine V.region ?_
           refine VO.cons rfl (V1.assign rfl rfl rfl lt0 ?_)
           refine VO.nil ?_
           refine V.ret ?_
           obtain rfl := Option.some.inj hm0
           exact ⟨_, [], ⟨_, _, rfl, rfl, rfl⟩, List.nil_sublist _, rfl, rfl⟩
          ·
           replace hm0 := cond_f hc8 hm0
           refine V.skip ?_
           refine V.seq ?_
           refine V.region ?_
           refine VO.cons rfl (V1.assign rfl rfl rfl lt0 ?_)
           refine VO.nil ?_
           refine V.ret ?_
           obtain rfl := Option.some.inj hm0
           exact ⟨_, [], ⟨_, _, rfl, rfl, rfl⟩, List.nil_sublist _, rfl, rfl⟩
  ·
   refine V.keepT 96 [0, 4, 5, 6, 7, 8] [0, 1] (E0 := [(0, .vl ρ0 6 (List.map encHand aList)), (4, .vl rn 1 (List.map (encL rn 1 encInt) y2.1)), (5, .bool y2.2), (6, .sref b2 6 0 (List.length y3)), (7, .sref ob0 1 0 (List.length y4.1)), (8, .bool y4.2)]) (A := [(ob0, ⟨1, deepC (cellRow (β := Int)) ts_58 y4.1⟩), (b2, ⟨6, List.map encHand y3⟩)]) (T := os_58) (H0 := [(ob0, ⟨1, deepC (cellRow (β := Int)) ts_58 y4.1⟩), (b2, ⟨6, List.map encHand y3⟩)]) (T' := os_58) rfl (⟨_, _, rfl, rfl, _, _, rfl, rfl, _, _, rfl, rfl, _, _, rfl, rfl, _, _, rfl, rfl, _, _, rfl, rfl, rfl⟩) rfl (⟨_, _, rfl, rfl, _, _, rfl, rfl, rfl⟩) rfl (List.Sublist.refl _) ?_
   refine V.seq ?_
   refine V.seq ?_
   replace hm0 := bindO hm0; rcases hm0 with ⟨y5, hh5, hm0⟩
   refine V.region ?_
   refine VO.cons rfl (V1.move rfl rfl rfl lt0 ?_)
   refine VO.cons rfl (V1.move rfl rfl rfl lt0 ?_)
   refine VO.cons rfl (V1.callL (rn + 1) ([ob0] ++ List.map Prod.fst os_58) [.vl (rn + 1) 1 (List.map (encL (rn + 1) 1 encInt) y4.1), .vl rn 1 (List.map (encL rn 1 encInt) y2.1)] rfl rfl rfl cok_8 rfl ⟨_, _, rfl, Lend.deep (m := 1) (inn := (fun c_ : List Int => List.map encInt c_)) (cell := (cellRow (β := Int))) (cokRow 1 encInt) (ts := ts_58) (os := os_58) (xs := y4.1) 0 hd_58 rfl (fun _ => roL_map (fun _ => rfl) _) rfl (fun p hp => memTail (A := [(ob0, ⟨1, deepC (cellRow (β := Int)) ts_58 y4.1⟩), (b2, ⟨6, List.map encHand y3⟩)]) (T := os_58) hp rfl) (List.mem_append_left _ (.head _)) (fun p hp => List.mem_append_right _ (List.mem_map.2 ⟨p, hp, rfl⟩)), ⟨_, _, rfl, .same _, rfl⟩⟩ (bwTail (A := [(ob0, ⟨1, deepC (cellRow (β := Int)) ts_58 y4.1⟩), (b2, ⟨6, List.map encHand y3⟩)]) (T := os_58) rfl (bwCons (k := 0) rfl bwNil) (fun p hp => hp)) (ok_laws_eqIntSS hh5) rfl (⟨(by first | omega | (dsimp only; omega)), by rintro _ _ ⟨rfl, rfl⟩; exact ⟨rfl, by simp⟩⟩) lt0 ?_)
   rintro _ _ ⟨rfl, rfl⟩
   refine VO.cons rfl (V1.not rfl rfl rfl lt0 ?_)
   refine VO.cons rfl (V1.move rfl rfl rfl lt0 ?_)
   apply VO.or (n := 3) rfl rfl rfl rfl rfl rfl lt0 (.none rfl)
   ·
    intro hg0
    refine VO.step (.some rfl rfl rfl) (V1.move rfl rfl rfl lt0 ?_)
    refine VO.step (.some rfl rfl rfl) (V1.move rfl rfl rfl lt0 ?_)
    refine VO.step (.some rfl rfl rfl) (V1.boolNeq rfl rfl und_4 rfl rfl lt0 ?_)
    exact VO.nil ⟨rfl, rfl, rfl, rfl, .inr ⟨rfl, .inr ⟨rfl, .inr ⟨rfl, .inr ⟨rfl, .inl rfl⟩⟩⟩⟩⟩
   refine VO.nil ?_
   refine V.keepT 96 [0, 4, 5, 6, 7, 8, 40] [0, 1] (E0 := [(0, .vl ρ0 6 (List.map encHand aList)), (4, .vl rn 1 (List.map (encL rn 1 encInt) y2.1)), (5, .bool y2.2), (6, .sref b2 6 0 (List.length y3)), (7, .sref ob0 1 0 (List.length y4.1)), (8, .bool y4.2), (40, .bool ((!y5) || (!(y4.2 == y2.2))))]) (A := [(ob0, ⟨1, deepC (cellRow (β := Int)) ts_58 y4.1⟩), (b2, ⟨6, List.map encHand y3⟩)]) (T := os_58) (H0 := [(ob0, ⟨1, deepC (cellRow (β := Int)) ts_58 y4.1⟩), (b2, ⟨6, List.map encHand y3⟩)]) (T' := os_58) rfl (⟨_, _, rfl, rfl, _, _, rfl, rfl, _, _, rfl, rfl, _, _, rfl, rfl, _, _, rfl, rfl, _, _, rfl, rfl, _, _, rfl, rfl, rfl⟩) rfl (⟨_, _, rfl, rfl, _, _, rfl, rfl, rfl⟩) rfl (List.Sublist.refl _) ?_
   refine V.cond rfl (fun hc1 => ?_) (fun hc1 => ?_)
   ·
    replace hm0 := cond_t hc1 hm0
    refine V.seq ?_
    refine V.region ?_
    refine VO.cons rfl (V1.assign rfl rfl rfl lt0 ?_)
    refine VO.nil ?_
    refine V.ret ?_
    obtain rfl := Option.some.inj hm0
    exact ⟨_, [], ⟨_, _, rfl, rfl, rfl⟩, List.nil_sublist _, rfl, rfl⟩
   ·
    replace hm0 := cond_f hc1 hm0
    refine V.skip ?_
    refine V.seq ?_
    refine V.seq ?_
    replace hm0 := bindO hm0; rcases hm0 with ⟨y6, hh6, hm0⟩
    replace hm0 := bindO hm0; rcases hm0 with ⟨y7, hh7, hm0⟩
    refine V.region ?_
    refine VO.cons rfl (V1.move rfl rfl rfl lt0 ?_)
    refine VO.cons rfl (V1.move rfl rfl rfl lt0 ?_)
    refine VO.cons rfl (V1.call rfl rfl rfl cok_6 rfl (ok_laws_toHandS hh6) rfl lt0 ?_)
    rintro _ _ ⟨b3, rfl, rfl⟩
    refine VO.weakenK (Keeps.freezeG 0 rn [(43, .vl rn 6 (List.map encHand y6))] ((ob0, ⟨1, deepC (cellRow (β := Int)) ts_58 y4.1⟩) :: (b2, ⟨6, List.map encHand y3⟩) :: os_58) (f := encHand) (l := y6) rfl (fun _ => rfl) ⟨⟨_, rfl, .here⟩, trivial⟩ ⟨_, _, rfl, rfl, .inl rfl, ⟨_, _, rfl, rfl, .inl rfl, FrzH.same⟩⟩ rfl iNil) ?_
    refine VO.cons rfl (V1.callL (rn + 1) [b2] [.vl (rn + 1) 6 (List.map encHand y3), .vl rn 6 (List.map encHand y6)] rfl rfl rfl cok_9 rfl ⟨_, _, rfl, Lend.srMap 1 rfl (fun _ => rfl) (.head _), ⟨_, _, rfl, .same _, rfl⟩⟩ (bwCons (k := 1) rfl bwNil) (ok_laws_eqHandS hh7) rfl (⟨(by first | omega | (dsimp only; omega)), by rintro _ _ ⟨rfl, rfl⟩; exact ⟨rfl, by simp⟩⟩) lt0 ?_)
    rintro _ _ ⟨rfl, rfl⟩
    refine VO.cons rfl (V1.not rfl rfl rfl lt0 ?_)
    refine VO.nil ?_
    refine V.keepT 96 [0, 4, 5, 6, 7, 8, 45] [0, 1] (E0 := [(0, .vl ρ0 6 (List.map encHand aList)), (4, .vl rn 1 (List.map (encL rn 1 encInt) y2.1)), (5, .bool y2.2), (6, .sref b2 6 0 (List.length y3)), (7, .sref ob0 1 0 (List.length y4.1)), (8, .bool y4.2), (45, .bool (!y7))]) (A := [(ob0, ⟨1, deepC (cellRow (β := Int)) ts_58 y4.1⟩), (b2, ⟨6, List.map encHand y3⟩)]) (T := os_58) (H0 := [(ob0, ⟨1, deepC (cellRow (β := Int)) ts_58 y4.1⟩), (b2, ⟨6, List.map encHand y3⟩)]) (T' := os_58) rfl (⟨_, _, rfl, rfl, _, _, rfl, rfl, _, _, rfl, rfl, _, _, rfl, rfl, _, _, rfl, rfl, _, _, rfl, rfl, _, _, rfl, rfl, rfl⟩) rfl (⟨_, _, rfl, rfl, _, _, rfl, rfl, rfl⟩) rfl (List.Sublist.refl _) ?_
    refine V.cond rfl (fun hc2 => ?_) (fun hc2 => ?_)
    ·
     replace hm0 := cond_t hc2 hm0
     refine V.seq ?_
     refine V.region ?_
     refine VO.cons rfl (V1.assign rfl rfl rfl lt0 ?_)
     refine VO.nil ?_
     refine V.ret ?_
     obtain rfl := Option.some.inj hm0
     exact ⟨_, [], ⟨_, _, rfl, rfl, rfl⟩, List.nil_sublist _, rfl, rfl⟩
    ·
     replace hm0 := cond_f hc2 hm0
     refine V.skip ?_
     refine V.seq ?_
     refine V.region ?_
     refine VO.cons rfl (V1.assign rfl rfl rfl lt0 ?_)
     refine VO.nil ?_
     refine V.seq ?_
     replace hm0 := bindO hm0; rcases hm0 with ⟨y8, hh8, hm0⟩
     replace hm0 := asrt_some hm0; rcases hm0 with ⟨hh9, hm0⟩
     refine V.region ?_
     refine VO.cons rfl (V1.move rfl rfl rfl lt0 ?_)
     refine VO.cons rfl (V1.move rfl rfl rfl lt0 ?_)
     refine VO.cons rfl (V1.callM 1 (rn + 1) [] [.sref b2 6 0 (List.length y3), .int .i64 (1 : Int)] (p := (b2, ⟨6, List.map encHand y3⟩)) rfl rfl rfl cok_10 rfl rfl ⟨_, _, rfl, .same _, ⟨_, _, rfl, .same _, rfl⟩⟩ bwNil (ok_laws_markHandS hh8 (oq := some b2) (fun e => by cases e)) rfl (.inl rfl) lt0 ?_)
     rintro _ _ ⟨rfl, rfl⟩
     refine VO.cons rfl (V1.assign rfl rfl rfl lt0 ?_)
     refine VO.nil ?_
     refine V.seq ?_
     refine V.seq ?_
     replace hm0 := bindO hm0; rcases hm0 with ⟨y9, hh10, hm0⟩
     refine V.region ?_
     refine VO.cons rfl (V1.move rfl rfl rfl lt0 ?_)
     refine VO.cons rfl (V1.int rfl rfl rfl rfl rfl lt0 ?_)
     refine VO.cons rfl (V1.move rfl rfl rfl lt0 ?_)
     apply VO.or (n := 4) rfl rfl rfl rfl rfl rfl lt0 (.none rfl)
     ·
      intro hg1
      refine VO.step (.some rfl rfl rfl) (V1.move rfl rfl rfl lt0 ?_)
      refine VO.step (.some rfl rfl rfl) (V1.move rfl rfl rfl lt0 ?_)
      refine VO.step (.some rfl rfl rfl) (V1.callL (rn + 1) ([ob0] ++ List.map Prod.fst os_58) [.vl (rn + 1) 1 (List.map (encL (rn + 1) 1 encInt) y4.1), .vl rn 1 (List.map (encL rn 1 encInt) y2.1)] rfl rfl rfl cok_8 rfl ⟨_, _, rfl, Lend.deep (m := 1) (inn := (fun c_ : List Int => List.map encInt c_)) (cell := (cellRow (β := Int))) (cokRow 1 encInt) (ts := ts_58) (os := os_58) (xs := y4.1) 1 hd_58 rfl (fun _ => roL_map (fun _ => rfl) _) rfl (fun p hp => memTail (A := [(b2, ⟨6, List.map encHand y8.2⟩), (ob0, ⟨1, deepC (cellRow (β := Int)) ts_58 y4.1⟩)]) (T := os_58) hp rfl) (List.mem_append_left _ (.head _)) (fun p hp => List.mem_append_right _ (List.mem_map.2 ⟨p, hp, rfl⟩)), ⟨_, _, rfl, .same _, rfl⟩⟩ (bwTail (A := [(b2, ⟨6, List.map encHand y8.2⟩), (ob0, ⟨1, deepC (cellRow (β := Int)) ts_58 y4.1⟩)]) (T := os_58) rfl (bwCons (k := 1) rfl bwNil) (fun p hp => hp)) (ok_laws_eqIntSS (cond_f hg1 hh10)) rfl (⟨(by first | omega | (dsimp only; omega)), by rintro _ _ ⟨rfl, rfl⟩; exact ⟨rfl, by simp⟩⟩) lt0 ?_)
      rintro _ _ ⟨rfl, rfl⟩
      refine VO.step (.some rfl rfl rfl) (V1.not rfl rfl rfl lt0 ?_)
      exact VO.nil ⟨rfl, rfl, rfl, rfl, .inr ⟨rfl, .inr ⟨rfl, .inr ⟨rfl, .inr ⟨rfl, .inr ⟨rfl, .inl rfl⟩⟩⟩⟩⟩⟩
     refine VO.cons rfl (V1.move rfl rfl rfl lt0 ?_)
     apply VO.or (n := 3) rfl rfl rfl rfl rfl rfl lt0 (.none rfl)
     ·
      intro hg2
      refine VO.step (.some rfl rfl rfl) (V1.move rfl rfl rfl lt0 ?_)
      refine VO.step (.some rfl rfl rfl) (V1.move rfl rfl rfl lt0 ?_)
      refine VO.step (.some rfl rfl rfl) (V1.boolNeq rfl rfl und_4 rfl rfl lt0 ?_)
      exact VO.nil ⟨rfl, rfl, rfl, rfl, .inr ⟨rfl, .inr ⟨rfl, .inr ⟨rfl, .inr ⟨rfl, .inl rfl⟩⟩⟩⟩⟩
     refine VO.nil ?_
     refine V.keepT 96 [0, 4, 5, 7, 61] [1] (E0 := [(0, .vl ρ0 6 (List.map encHand aList)), (4, .vl rn 1 (List.map (encL rn 1 encInt) y2.1)), (5, .bool y2.2), (7, .sref ob0 1 0 (List.length y4.1)), (61, .bool (((decide (y8.1 < (0 : Int))) || (!y9)) || (!(y4.2 == y2.2))))]) (A := [(b2, ⟨6, List.map encHand y8.2⟩), (ob0, ⟨1, deepC (cellRow (β := Int)) ts_58 y4.1⟩)]) (T := os_58) (H0 := [(ob0, ⟨1, deepC (cellRow (β := Int)) ts_58 y4.1⟩)]) (T' := os_58) rfl (⟨_, _, rfl, rfl, _, _, rfl, rfl, _, _, rfl, rfl, _, _, rfl, rfl, _, _, rfl, rfl, rfl⟩) rfl (⟨_, _, rfl, rfl, rfl⟩) rfl (List.Sublist.refl _) ?_
     refine V.cond rfl (fun hc3 => ?_) (fun hc3 => ?_)
     ·
      replace hm0 := cond_t hc3 hm0
      refine V.seq ?_
      refine V.region ?_
      refine VO.cons rfl (V1.assign rfl rfl rfl lt0 ?_)
      refine VO.nil ?_
      refine V.ret ?_
      obtain rfl := Option.some.inj hm0
      exact ⟨_, [], ⟨_, _, rfl, rfl, rfl⟩, List.nil_sublist _, rfl, rfl⟩
     ·
      replace hm0 := cond_f hc3 hm0
      refine V.skip ?_
      refine V.seq ?_
      refine V.region ?_
      refine VO.cons rfl (V1.assign rfl rfl rfl lt0 ?_)
      refine VO.nil ?_
      refine V.seq ?_
      replace hm0 := bindO hm0; rcases hm0 with ⟨y10, hh11, hm0⟩
      replace hm0 := asrt_some hm0; rcases hm0 with ⟨hh12, hm0⟩
      refine V.region ?_
      refine VO.cons rfl (V1.move rfl rfl rfl lt0 ?_)
      refine VO.cons rfl (V1.move rfl rfl rfl lt0 ?_)
      refine VO.cons rfl (V1.permK (V1.callDT 0 (A := [(ob0, ⟨1, deepC (cellRow (β := Int)) ts_58 y4.1⟩)]) (A' := []) (T0 := os_58) (os := os_58) (T := []) (p := (ob0, ⟨1, deepC (cellRow (β := Int)) ts_58 y4.1⟩)) rfl rfl rfl cok_11 rfl rfl (.of_eq (List.append_nil _).symm) rfl rfl (rn + 1) [] [.sref ob0 1 0 (List.length y4.1), .int .i64 (1 : Int)] ⟨_, _, rfl, .same _, ⟨_, _, rfl, .same _, rfl⟩⟩ bwNil (ok_laws_markIntSS hh11 (oq := some ob0) (tq := ts_58) (oz := os_58) (fun e => by cases e) hd_58) rfl (.inl rfl) lt0 ?_))
      rintro _ _ ⟨ts_86, os_86, hd_86, rfl, rfl⟩
      refine ⟨_, ?_, Keeps.perm (([(ob0, ⟨1, deepC (cellRow (β := Int)) ts_86 y10.2⟩)] : List (Nat × Obj')) ++ os_86) (permDeep0 (p := (ob0, ⟨1, deepC (cellRow (β := Int)) ts_86 y10.2⟩)) (os := os_86) (A := []))⟩
      refine VO.weakenK (Keeps.say 7 (y := .sref ob0 1 0 (List.length y10.2)) rfl (congrArg (PV.sref ob0 1 0) hh12.symm)) ?_
      refine VO.cons rfl (V1.assign rfl rfl rfl lt0 ?_)
      refine VO.nil ?_
      refine V.seq ?_
      refine V.region ?_
      refine VO.cons rfl (V1.assign rfl rfl rfl lt0 ?_)
      refine VO.nil ?_
      refine V.seq ?_
      replace hm0 := bindO hm0; rcases hm0 with ⟨y11, hh13, hm0⟩
      refine V.region ?_
      refine VO.cons rfl (V1.move rfl rfl rfl lt0 ?_)
      refine VO.cons rfl (V1.move rfl rfl rfl lt0 ?_)
      refine VO.cons rfl (V1.callL (rn + 1) ([ob0] ++ List.map Prod.fst os_86) [.vl (rn + 1) 1 (List.map (encL (rn + 1) 1 encInt) y10.2), .int .i64 (1 : Int)] rfl rfl rfl cok_12 rfl ⟨_, _, rfl, Lend.deep (m := 1) (inn := (fun c_ : List Int => List.map encInt c_)) (cell := (cellRow (β := Int))) (cokRow 1 encInt) (ts := ts_86) (os := os_86) (xs := y10.2) 0 hd_86 rfl (fun _ => roL_map (fun _ => rfl) _) rfl (fun p hp => memTail (A := [(ob0, ⟨1, deepC (cellRow (β := Int)) ts_86 y10.2⟩)]) (T := os_86) hp rfl) (List.mem_append_left _ (.head _)) (fun p hp => List.mem_append_right _ (List.mem_map.2 ⟨p, hp, rfl⟩)), ⟨_, _, rfl, .same _, rfl⟩⟩ (bwTail (A := [(ob0, ⟨1, deepC (cellRow (β := Int)) ts_86 y10.2⟩)]) (T := os_86) rfl (bwCons (k := 0) rfl bwNil) (fun p hp => hp)) (ok_laws_heldIntSS hh13) rfl (⟨(by first | omega | (dsimp only; omega)), by rintro _ _ ⟨rfl, rfl⟩; exact ⟨rfl, by simp⟩⟩) lt0 ?_)
      rintro _ _ ⟨rfl, rfl⟩
      refine VO.cons rfl (V1.assign rfl rfl rfl lt0 ?_)
      refine VO.nil ?_
      refine V.keepT 96 [0, 4, 5, 7, 10, 11] [0] (E0 := [(0, .vl ρ0 6 (List.map encHand aList)), (4, .vl rn 1 (List.map (encL rn 1 encInt) y2.1)), (5, .bool y2.2), (7, .sref ob0 1 0 (List.length y10.2)), (10, .int .i64 y10.1), (11, .int .i64 y11)]) (A := [(ob0, ⟨1, deepC (cellRow (β := Int)) ts_86 y10.2⟩)]) (T := os_86) (H0 := [(ob0, ⟨1, deepC (cellRow (β := Int)) ts_86 y10.2⟩)]) (T' := os_86) rfl (⟨_, _, rfl, rfl, _, _, rfl, rfl, _, _, rfl, rfl, _, _, rfl, rfl, _, _, rfl, rfl, _, _, rfl, rfl, rfl⟩) rfl (⟨_, _, rfl, rfl, rfl⟩) rfl (List.Sublist.refl _) ?_
      refine V.seq ?_
      refine V.seq ?_
      refine V.region ?_
      refine VO.cons rfl (V1.move rfl rfl rfl lt0 ?_)
      refine VO.cons rfl (V1.int rfl rfl rfl rfl rfl lt0 ?_)
      refine VO.nil ?_
      refine V.cond rfl (fun hc4 => ?_) (fun hc4 => ?_)
      ·
       replace hm0 := cond_t hc4 hm0
       refine V.seq ?_
       refine V.region ?_
       refine VO.cons rfl (V1.assign rfl rfl rfl lt0 ?_)
       refine VO.nil ?_
       refine V.ret ?_
       obtain rfl := Option.some.inj hm0
       exact ⟨_, [], ⟨_, _, rfl, rfl, rfl⟩, List.nil_sublist _, rfl, rfl⟩
      ·
       replace hm0 := cond_f hc4 hm0
       refine V.skip ?_
       refine V.seq ?_
       refine V.seq ?_
       refine V.region ?_
       refine VO.cons rfl (V1.move rfl rfl rfl lt0 ?_)
       refine VO.cons rfl (V1.move rfl rfl rfl lt0 ?_)
       refine VO.cons rfl (V1.int rfl rfl rfl rfl rfl lt0 ?_)
       refine VO.nil ?_
       refine V.keepT 96 [0, 4, 5, 7, 10, 72] [0] (E0 := [(0, .vl ρ0 6 (List.map encHand aList)), (4, .vl rn 1 (List.map (encL rn 1 encInt) y2.1)), (5, .bool y2.2), (7, .sref ob0 1 0 (List.length y10.2)), (10, .int .i64 y10.1), (72, .bool (y11 != y10.1))]) (A := [(ob0, ⟨1, deepC (cellRow (β := Int)) ts_86 y10.2⟩)]) (T := os_86) (H0 := [(ob0, ⟨1, deepC (cellRow (β := Int)) ts_86 y10.2⟩)]) (T' := os_86) rfl (⟨_, _, rfl, rfl, _, _, rfl, rfl, _, _, rfl, rfl, _, _, rfl, rfl, _, _, rfl, rfl, _, _, rfl, rfl, rfl⟩) rfl (⟨_, _, rfl, rfl, rfl⟩) rfl (List.Sublist.refl _) ?_
       refine V.cond rfl (fun hc5 => ?_) (fun hc5 => ?_)
       ·
        replace hm0 := cond_t hc5 hm0
        refine V.seq ?_
        refine V.region ?_
        refine VO.cons rfl (V1.assign rfl rfl rfl lt0 ?_)
        refine VO.nil ?_
        refine V.ret ?_
        obtain rfl := Option.some.inj hm0
        exact ⟨_, [], ⟨_, _, rfl, rfl, rfl⟩, List.nil_sublist _, rfl, rfl⟩
       ·
        replace hm0 := cond_f hc5 hm0
        refine V.skip ?_
        refine V.seq ?_
        replace hm0 := bindO hm0; rcases hm0 with ⟨y12, hh14, hm0⟩
        replace hm0 := bindO hm0; rcases hm0 with ⟨y13, hh15, hm0⟩
        refine V.region ?_
        refine VO.cons rfl (V1.move rfl rfl rfl lt0 ?_)
        refine VO.cons rfl (V1.call rfl rfl rfl cok_6 rfl (ok_laws_toHandS hh14) rfl lt0 ?_)
        rintro _ _ ⟨b4, rfl, rfl⟩
        refine VO.weakenK (Keeps.freezeG 0 rn [(75, .vl rn 6 (List.map encHand y12))] ((ob0, ⟨1, deepC (cellRow (β := Int)) ts_86 y10.2⟩) :: os_86) (f := encHand) (l := y12) rfl (fun _ => rfl) ⟨⟨_, rfl, .here⟩, trivial⟩ ⟨_, _, rfl, rfl, .inl rfl, FrzH.same⟩ rfl iNil) ?_
        refine VO.cons rfl (V1.permK (V1.call rfl rfl rfl cok_7 rfl (ok_impl_BrokenSeals hh15) rfl lt0 ?_))
        rintro _ _ ⟨ob1, hob1, rfl, rfl⟩
        refine ⟨_, ?_, Keeps.optBack (n := 1) (ob := ob1) (xs := List.map (encL rn 1 encInt) y13.1) (H1 := []) (H2 := (([(ob0, ⟨1, deepC (cellRow (β := Int)) ts_86 y10.2⟩)] : List (Nat × Obj')) ++ os_86)) rfl⟩
        refine VO.cons rfl (V1.move rfl rfl rfl lt0 ?_)
        refine VO.cons rfl (V1.extract rfl rfl rfl rfl lt0 ?_)
        refine VO.weakenK (Keeps.optFront (n := 1) (ob := ob1) (xs := (List.map (encL rn 1 encInt) y13.1)) (H1 := (([(ob0, ⟨1, deepC (cellRow (β := Int)) ts_86 y10.2⟩)] : List (Nat × Obj')) ++ os_86)) rfl) ?_
        refine VO.weakenK (Keeps.optVl 77 [] rn (f := (encL rn 1 encInt)) (l := y13.1) (ob := ob1) (H1 := []) hob1 rfl rfl ⟨rfl, trivial⟩ (fun _ => rfl) rfl iNil) ?_
        refine VO.cons rfl (V1.extract rfl rfl rfl rfl lt0 ?_)
        refine VO.cons rfl (V1.assign rfl rfl rfl lt0 ?_)
        refine VO.cons rfl (V1.assign rfl rfl rfl lt0 ?_)
        refine VO.nil ?_
        refine V.keepT 96 [4, 5, 7, 10, 12, 13] [0] (E0 := [(4, .vl rn 1 (List.map (encL rn 1 encInt) y2.1)), (5, .bool y2.2), (7, .sref ob0 1 0 (List.length y10.2)), (10, .int .i64 y10.1), (12, .vl rn 1 (List.map (encL rn 1 encInt) y13.1)), (13, .bool y13.2)]) (A := [(ob0, ⟨1, deepC (cellRow (β := Int)) ts_86 y10.2⟩)]) (T := os_86) (H0 := [(ob0, ⟨1, deepC (cellRow (β := Int)) ts_86 y10.2⟩)]) (T' := os_86) rfl (⟨_, _, rfl, rfl, _, _, rfl, rfl, _, _, rfl, rfl, _, _, rfl, rfl, _, _, rfl, rfl, _, _, rfl, rfl, rfl⟩) rfl (⟨_, _, rfl, rfl, rfl⟩) rfl (List.Sublist.refl _) ?_
        refine V.seq ?_
        refine V.seq ?_
        replace hm0 := bindO hm0; rcases hm0 with ⟨y14, hh16, hm0⟩
        refine V.region ?_
        refine VO.cons rfl (V1.move rfl rfl rfl lt0 ?_)
        refine VO.cons rfl (V1.move rfl rfl rfl lt0 ?_)
        refine VO.cons rfl (V1.call rfl rfl rfl cok_8 rfl (ok_laws_eqIntSS hh16) rfl lt0 ?_)
        rintro _ _ ⟨rfl, rfl⟩
        refine VO.cons rfl (V1.not rfl rfl rfl lt0 ?_)
        refine VO.cons rfl (V1.move rfl rfl rfl lt0 ?_)
        apply VO.or (n := 3) rfl rfl rfl rfl rfl rfl lt0 (.none rfl)
        ·
         intro hg3
         refine VO.step (.some rfl rfl rfl) (V1.move rfl rfl rfl lt0 ?_)
         refine VO.step (.some rfl rfl rfl) (V1.move rfl rfl rfl lt0 ?_)
         refine VO.step (.some rfl rfl rfl) (V1.boolNeq rfl rfl und_4 rfl rfl lt0 ?_)
         exact VO.nil ⟨rfl, rfl, rfl, rfl, .inr ⟨rfl, .inr ⟨rfl, .inr ⟨rfl, .inr ⟨rfl, .inl rfl⟩⟩⟩⟩⟩
        refine VO.nil ?_
        refine V.keepT 96 [7, 10, 87] [0] (E0 := [(7, .sref ob0 1 0 (List.length y10.2)), (10, .int .i64 y10.1), (87, .bool ((!y14) || (!(y13.2 == y2.2))))]) (A := [(ob0, ⟨1, deepC (cellRow (β := Int)) ts_86 y10.2⟩)]) (T := os_86) (H0 := [(ob0, ⟨1, deepC (cellRow (β := Int)) ts_86 y10.2⟩)]) (T' := os_86) rfl (⟨_, _, rfl, rfl, _, _, rfl, rfl, _, _, rfl, rfl, rfl⟩) rfl (⟨_, _, rfl, rfl, rfl⟩) rfl (List.Sublist.refl _) ?_
        refine V.cond rfl (fun hc6 => ?_) (fun hc6 => ?_)
        ·
         replace hm0 := cond_t hc6 hm0
         refine V.seq ?_
         refine V.region ?_
         refine VO.cons rfl (V1.assign rfl rfl rfl lt0 ?_)
         refine VO.nil ?_
         refine V.ret ?_
         obtain rfl := Option.some.inj hm0
         exact ⟨_, [], ⟨_, _, rfl, rfl, rfl⟩, List.nil_sublist _, rfl, rfl⟩
        ·
         replace hm0 := cond_f hc6 hm0
         refine V.skip ?_
         refine V.seq ?_
         refine V.region ?_
         refine VO.cons rfl (V1.assign rfl rfl rfl lt0 ?_)
         refine VO.nil ?_
         refine V.seq ?_
         replace hm0 := bindO hm0; rcases hm0 with ⟨y15, hh17, hm0⟩
         refine V.region ?_
         refine VO.cons rfl (V1.move rfl rfl rfl lt0 ?_)
         refine VO.cons rfl (V1.move rfl rfl rfl lt0 ?_)
         refine VO.cons rfl (V1.callL (rn + 1) ([ob0] ++ List.map Prod.fst os_86) [.vl (rn + 1) 1 (List.map (encL (rn + 1) 1 encInt) y10.2), .int .i64 (1 : Int)] rfl rfl rfl cok_12 rfl ⟨_, _, rfl, Lend.deep (m := 1) (inn := (fun c_ : List Int => List.map encInt c_)) (cell := (cellRow (β := Int))) (cokRow 1 encInt) (ts := ts_86) (os := os_86) (xs := y10.2) 0 hd_86 rfl (fun _ => roL_map (fun _ => rfl) _) rfl (fun p hp => memTail (A := [(ob0, ⟨1, deepC (cellRow (β := Int)) ts_86 y10.2⟩)]) (T := os_86) hp rfl) (List.mem_append_left _ (.head _)) (fun p hp => List.mem_append_right _ (List.mem_map.2 ⟨p, hp, rfl⟩)), ⟨_, _, rfl, .same _, rfl⟩⟩ (bwTail (A := [(ob0, ⟨1, deepC (cellRow (β := Int)) ts_86 y10.2⟩)]) (T := os_86) rfl (bwCons (k := 0) rfl bwNil) (fun p hp => hp)) (ok_laws_heldIntSS hh17) rfl (⟨(by first | omega | (dsimp only; omega)), by rintro _ _ ⟨rfl, rfl⟩; exact ⟨rfl, by simp⟩⟩) lt0 ?_)
         rintro _ _ ⟨rfl, rfl⟩
         refine VO.cons rfl (V1.assign rfl rfl rfl lt0 ?_)
         refine VO.nil ?_
         refine V.keepT 96 [10, 11] [] (E0 := [(10, .int .i64 y10.1), (11, .int .i64 y15)]) (A := [(ob0, ⟨1, deepC (cellRow (β := Int)) ts_86 y10.2⟩)]) (T := os_86) (H0 := []) (T' := []) rfl (⟨_, _, rfl, rfl, _, _, rfl, rfl, rfl⟩) rfl (rfl) rfl (List.nil_sublist _) ?_
         refine V.seq ?_
         refine V.seq ?_
         refine V.region ?_
         refine VO.cons rfl (V1.move rfl rfl rfl lt0 ?_)
         refine VO.cons rfl (V1.int rfl rfl rfl rfl rfl lt0 ?_)
         refine VO.nil ?_
         refine V.cond rfl (fun hc7 => ?_) (fun hc7 => ?_)
         ·
          replace hm0 := cond_t hc7 hm0
          refine V.seq ?_
          refine V.region ?_
          refine VO.cons rfl (V1.assign rfl rfl rfl lt0 ?_)
          refine VO.nil ?_
          refine V.ret ?_
          obtain rfl := Option.some.inj hm0
          exact ⟨_, [], ⟨_, _, rfl, rfl, rfl⟩, List.nil_sublist _, rfl, rfl⟩
         ·
          replace hm0 := cond_f hc7 hm0
          refine V.skip ?_
          refine V.seq ?_
          refine V.seq ?_
          refine V.region ?_
          refine VO.cons rfl (V1.move rfl rfl rfl lt0 ?_)
          refine VO.cons rfl (V1.move rfl rfl rfl lt0 ?_)
          refine VO.cons rfl (V1.int rfl rfl rfl rfl rfl lt0 ?_)
          refine VO.nil ?_
          refine V.keep 96 [95] [] (E0 := [(95, .bool (y15 != y10.1))]) (H0 := []) rfl (⟨_, _, rfl, rfl, rfl⟩) (rfl) rfl ?_
          refine V.cond rfl (fun hc8 => ?_) (fun hc8 => ?_)
          ·
           replace hm0 := cond_t hc8 hm0
           refine V.seq ?_
           refine V.region ?_
           refine VO.cons rfl (V1.assign rfl rfl rfl lt0 ?_)
           refine VO.nil ?_
           refine V.ret ?_
           obtain rfl := Option.some.inj hm0
           exact ⟨_, [], ⟨_, _, rfl, rfl, rfl⟩, List.nil_sublist _, rfl, rfl⟩
          ·
           replace hm0 := cond_f hc8 hm0
           refine V.skip ?_
           refine V.seq ?_
           refine V.region ?_
           refine VO.cons rfl (V1.assign rfl rfl rfl lt0 ?_)
           refine VO.nil ?_
           refine V.ret ?_
           obtain rfl := Option.some.inj hm0
           exact ⟨_, [], ⟨_, _, rfl, rfl, rfl⟩, List.nil_sublist _, rfl, rfl⟩
end Go.Proofs.Ytpmjemddofcmaaa
