/- the functions do what their models say -/
import Derived.Test.YtjfpdbhjoofllaaDoorQt1
set_option linter.unusedSimpArgs false
set_option linter.unusedVariables false
set_option maxRecDepth 100000
set_option maxHeartbeats 4000000
namespace Go.Proofs.YtjfpdbhjoofllaaDoor
open Go.VS

theorem ok_spec_UnderOf {ρ0 rn : Nat} {tree : List Function} {id_ : Int} {r : List Int × Bool} (h : M.spec_UnderOf tree id_ = some r) : Does Tryd.prog 11 [.vl ρ0 3 (List.map encFunction tree), .int .i64 id_] [] rn (fun x H => ∃ (ob0_ : Nat), x = .tup [PV.sref ob0_ 1 0 (List.length r.1), .bool r.2] ∧ H = [(ob0_, ⟨1, List.map encInt r.1⟩)]) := by
 have hm0 := h; clear h; unfold M.spec_UnderOf at hm0
 try dsimp only at hm0
 refine Does.intro (N := 43) Tryd.func11 rfl rfl rfl rfl ?_
 intro w0 S0
 refine V.seq ?_
 refine V.region ?_
 refine VO.cons rfl (V1.assign rfl rfl rfl (ltb rfl) ?_)
 refine VO.cons rfl (V1.assign rfl rfl rfl (ltb rfl) ?_)
 refine VO.nil ?_
 refine V.seq ?_
 refine V.region ?_
 refine VO.cons rfl (V1.buildSliceT (f := encInt) ([] : List Int) rfl rfl esz_31 zk_3 rfl rfl rfl rfl rfl rfl rfl (ltb rfl) ?_)
 intro b0
 refine VO.cons rfl (V1.assign rfl rfl rfl (ltb rfl) ?_)
 refine VO.nil ?_
 refine V.seq ?_
 refine V.seq ?_
 replace hm0 := bindO hm0; rcases hm0 with ⟨y0, hh0, hm0⟩
 replace hm0 := bindO hm0; rcases hm0 with ⟨y1, hh1, hm0⟩
 refine V.region ?_
 refine VO.cons rfl (V1.move rfl rfl rfl (ltb rfl) ?_)
 refine VO.cons rfl (V1.call rfl rfl rfl cok_42 rfl (ok_spec_l3Good hh0) rfl (ltb rfl) ?_)
 rintro _ _ ⟨rfl, rfl⟩
 refine VO.cons rfl (V1.not rfl rfl rfl (ltb rfl) ?_)
 refine VO.cons rfl (V1.move rfl rfl rfl (ltb rfl) ?_)
 apply VO.or (n := 4) rfl rfl rfl rfl rfl rfl (ltb rfl) (.none rfl)
 ·
  intro hg0
  refine VO.step (.some rfl rfl rfl) (V1.move rfl rfl rfl (ltb rfl) ?_)
  refine VO.step (.some rfl rfl rfl) (V1.move rfl rfl rfl (ltb rfl) ?_)
  refine VO.step (.some rfl rfl rfl) (V1.call rfl rfl rfl cok_43 rfl (ok_spec_l3Find (cond_f hg0 hh1)) rfl (ltb rfl) ?_)
  rintro _ _ ⟨rfl, rfl⟩
  refine VO.step (.some rfl rfl rfl) (V1.int rfl rfl rfl rfl rfl (ltb rfl) ?_)
  exact VO.nil ⟨rfl, rfl, rfl, rfl, .inr ⟨rfl, .inr ⟨rfl, .inr ⟨rfl, .inr ⟨rfl, .inr ⟨rfl, .inl rfl⟩⟩⟩⟩⟩⟩
 refine VO.nil ?_
 refine V.keep 43 [0, 1, 6, 17] [0] (E0 := [(0, .vl ρ0 3 (List.map encFunction tree)), (1, .int .i64 id_), (6, .sref b0 1 0 (List.length ([] : List Int))), (17, .bool ((!y0) || (decide (y1 < (0 : Int)))))]) (H0 := [(b0, ⟨1, List.map encInt ([] : List Int)⟩)]) rfl (⟨_, _, rfl, rfl, ⟨_, _, rfl, rfl, ⟨_, _, rfl, rfl, ⟨_, _, rfl, rfl, rfl⟩⟩⟩⟩) (⟨_, _, rfl, rfl, rfl⟩) rfl ?_
 refine V.cond rfl (fun hc0 => ?_) (fun hc0 => ?_)
 ·
  replace hm0 := cond_t hc0 hm0
  refine V.seq ?_
  refine V.region ?_
  refine VO.cons rfl (V1.move rfl rfl rfl (ltb rfl) ?_)
  refine VO.cons rfl (V1.assign rfl rfl rfl (ltb rfl) ?_)
  refine VO.cons rfl (V1.assign rfl rfl rfl (ltb rfl) ?_)
  refine VO.nil ?_
  refine V.keep 43 [4, 5] [0] (E0 := [(4, .sref b0 1 0 (List.length ([] : List Int))), (5, .bool false)]) (H0 := [(b0, ⟨1, List.map encInt ([] : List Int)⟩)]) rfl (⟨_, _, rfl, rfl, ⟨_, _, rfl, rfl, rfl⟩⟩) (⟨_, _, rfl, rfl, rfl⟩) rfl ?_
  refine V.ret ?_
  obtain rfl := Option.some.inj hm0
  exact ⟨_, _, ⟨_, _, rfl, rfl, ⟨_, _, rfl, rfl, rfl⟩⟩, List.Sublist.refl _, b0, rfl, rfl⟩
 ·
  replace hm0 := cond_f hc0 hm0
  refine V.skip ?_
  refine V.seq ?_
  refine V.seq ?_
  refine V.region ?_
  refine VO.cons rfl (V1.assign rfl rfl rfl (ltb rfl) ?_)
  refine VO.nil ?_
  replace hm0 := bindO hm0; rcases hm0 with ⟨e0, he1, hm0⟩
  refine V.cutT (D := (List Int) × (Nat)) (fun ⟨out_, b1⟩ => ⟨43, [(6, .sref b1 1 0 (List.length out_))], [(b1, ⟨1, List.map encInt out_⟩)]⟩) (fun ⟨out_, b1⟩ => (out_ = e0)) ?_ ?_
  ·
   refine V.block ?_
   refine V.keep 43 [6, 7, 0, 1] [0] (E0 := [(6, .sref b0 1 0 (List.length ([] : List Int))), (7, .int .i64 (0 : Int)), (0, .vl ρ0 3 (List.map encFunction tree)), (1, .int .i64 id_)]) (H0 := [(b0, ⟨1, List.map encInt ([] : List Int)⟩)]) rfl (⟨_, _, rfl, rfl, ⟨_, _, rfl, rfl, ⟨_, _, rfl, rfl, ⟨_, _, rfl, rfl, rfl⟩⟩⟩⟩) (⟨_, _, rfl, rfl, rfl⟩) rfl ?_
   refine V.loopE (D := Nat × (List Int × Int) × (Nat)) (fun ⟨n0, ⟨out_0, i⟩, b2⟩ => [(6, .sref b2 1 0 (List.length out_0)), (7, .int .i64 i)]) (fun ⟨n0, ⟨out_0, i⟩, b2⟩ => [(b2, ⟨1, List.map encInt out_0⟩)]) (fun ⟨n0, ⟨out_0, i⟩, b2⟩ => loopO (M.spec_UnderOf_l0 tree id_) n0 (out_0, i) = some e0) (fun ⟨n0, _, _⟩ => n0) (rounds, (([] : List Int), (0 : Int)), b0) rfl he1 ?_
   rintro ⟨n0, ⟨out_0, i⟩, b2⟩ hP0
   obtain ⟨m0, y2, rfl, hm1, hl1, hr1⟩ := loop_head hP0
   unfold M.spec_UnderOf_l0 at hm1; dsimp only at hm1
   show V _ _ _ ⟨43, [(6, .sref b2 1 0 (List.length out_0)), (7, .int .i64 i), (0, .vl ρ0 3 (List.map encFunction tree)), (1, .int .i64 id_)], [(b2, ⟨1, List.map encInt out_0⟩)]⟩
   refine V.seq ?_
   refine V.seq ?_
   refine V.region ?_
   refine VO.cons rfl (V1.move rfl rfl rfl (ltb rfl) ?_)
   refine VO.cons rfl (V1.move rfl rfl rfl (ltb rfl) ?_)
   refine VO.cons rfl (V1.lenMap rfl rfl rfl rfl rfl rfl isl_24 (ltb rfl) ?_)
   refine VO.cons rfl (V1.int rfl rfl rfl rfl rfl (ltb rfl) ?_)
   refine VO.nil ?_
   refine V.cond rfl (fun hc1 => ?_) (fun hc1 => ?_)
   ·
    replace hm1 := cond_t hc1 hm1
    refine V.skip ?_
    refine V.keep 43 [0, 1, 6, 7] [0] (E0 := [(0, .vl ρ0 3 (List.map encFunction tree)), (1, .int .i64 id_), (6, .sref b2 1 0 (List.length out_0)), (7, .int .i64 i)]) (H0 := [(b2, ⟨1, List.map encInt out_0⟩)]) rfl (⟨_, _, rfl, rfl, ⟨_, _, rfl, rfl, ⟨_, _, rfl, rfl, ⟨_, _, rfl, rfl, rfl⟩⟩⟩⟩) (⟨_, _, rfl, rfl, rfl⟩) rfl ?_
    refine V.seq ?_
    replace hm1 := bindO hm1; rcases hm1 with ⟨j0, hm2, hm1⟩
    refine V.cutT (D := (List Int) × (Nat)) (fun ⟨out_1, b3⟩ => ⟨43, [(6, .sref b3 1 0 (List.length out_1)), (0, .vl ρ0 3 (List.map encFunction tree)), (1, .int .i64 id_), (7, .int .i64 i)], [(b3, ⟨1, List.map encInt out_1⟩)]⟩) (fun ⟨out_1, b3⟩ => (out_1 = j0)) ?_ ?_
    ·
     refine V.block ?_
     refine V.seq ?_
     replace hm2 := asrt_some hm2; rcases hm2 with ⟨hh2, hm2⟩
     replace hm2 := bindO hm2; rcases hm2 with ⟨y3, hh3, hm2⟩
     replace hm2 := bindO hm2; rcases hm2 with ⟨y4, hh4, hm2⟩
     refine V.region ?_
     refine VO.cons rfl (V1.move rfl rfl rfl (ltb rfl) ?_)
     refine VO.cons rfl (V1.move rfl rfl rfl (ltb rfl) ?_)
     refine VO.cons rfl (V1.move rfl rfl rfl (ltb rfl) ?_)
     refine VO.cons rfl (V1.indexI rfl rfl esz_24 rfl rfl hh2 (ltb rfl) ?_)
     refine VO.cons rfl (V1.fieldPin rfl rfl fo_36_0 rfl (ltb rfl) ?_)
     refine VO.cons rfl (V1.loadPin rfl rfl tyk_3 rfl rfl (ltb rfl) ?_)
     refine VO.cons rfl (V1.call rfl rfl rfl cok_48 rfl (ok_spec_l3Path hh3) rfl (ltb rfl) ?_)
     rintro _ _ ⟨b4, rfl, rfl⟩
     refine VO.weakenK (Keeps.freezeG 0 rn [(31, .vl rn 1 (List.map encInt y3))] [(b2, ⟨1, List.map encInt out_0⟩)] (f := encInt) (l := y3) rfl (fun _ => rfl) ⟨⟨_, rfl, .here⟩, trivial⟩ ⟨_, _, rfl, rfl, .inl rfl, rfl⟩ rfl iNil) ?_
     refine VO.cons rfl (V1.move rfl rfl rfl (ltb rfl) ?_)
     refine VO.cons rfl (V1.call rfl rfl rfl cok_47 rfl (ok_spec_l1Has hh4) rfl (ltb rfl) ?_)
     rintro _ _ ⟨rfl, rfl⟩
     refine VO.nil ?_
     refine V.keep 43 [0, 1, 6, 7, 33] [0] (E0 := [(0, .vl ρ0 3 (List.map encFunction tree)), (1, .int .i64 id_), (6, .sref b2 1 0 (List.length out_0)), (7, .int .i64 i), (33, .bool y4)]) (H0 := [(b2, ⟨1, List.map encInt out_0⟩)]) rfl (⟨_, _, rfl, rfl, ⟨_, _, rfl, rfl, ⟨_, _, rfl, rfl, ⟨_, _, rfl, rfl, ⟨_, _, rfl, rfl, rfl⟩⟩⟩⟩⟩) (⟨_, _, rfl, rfl, rfl⟩) rfl ?_
     refine V.cond rfl (fun hc2 => ?_) (fun hc2 => ?_)
     ·
      replace hm2 := cond_t hc2 hm2
      replace hm2 := asrt_some hm2; rcases hm2 with ⟨hh5, hm2⟩
      replace hm2 := asrt_some hm2; rcases hm2 with ⟨hh6, hm2⟩
      refine V.region ?_
      refine VO.cons rfl (V1.move rfl rfl rfl (ltb rfl) ?_)
      refine VO.cons rfl (V1.move rfl rfl rfl (ltb rfl) ?_)
      refine VO.cons rfl (V1.move rfl rfl rfl (ltb rfl) ?_)
      refine VO.cons rfl (V1.indexI rfl rfl esz_24 rfl rfl hh5 (ltb rfl) ?_)
      refine VO.cons rfl (V1.fieldPin rfl rfl fo_36_0 rfl (ltb rfl) ?_)
      refine VO.cons rfl (V1.loadPin rfl rfl tyk_3 rfl rfl (ltb rfl) ?_)
      refine VO.cons rfl (V1.buildSliceT (f := encInt) ([(tree.getD (Int.toNat i) default).Id] : List Int) rfl rfl esz_31 zk_3 rfl rfl rfl rfl rfl rfl rfl (ltb rfl) ?_)
      intro b5
      refine VO.cons rfl (V1.appendMap (k := 1) (f := encInt) (l := out_0) (m := ([(tree.getD (Int.toNat i) default).Id] : List Int)) rfl rfl rfl rfl rfl esz_31 eby_31 zk_3 rfl rfl rfl (SrcOf.srMap (k := 0) rfl isl_31) hh6 (ltb rfl) ?_)
      intro b6
      refine VO.cons rfl (V1.assign rfl rfl rfl (ltb rfl) ?_)
      refine VO.nil ?_
      exact ⟨((out_0 ++ ([(tree.getD (Int.toNat i) default).Id] : List Int)), b6), Option.some.inj hm2, Keeps.mk (ks := [0]) rfl ⟨rfl, rfl, rfl, rfl, trivial⟩ (⟨_, _, rfl, rfl, rfl⟩) rfl⟩
     ·
      replace hm2 := cond_f hc2 hm2
      refine V.skip ?_
      exact ⟨(out_0, b2), Option.some.inj hm2, Keeps.mk (ks := [0]) rfl ⟨rfl, rfl, rfl, rfl, trivial⟩ (⟨_, _, rfl, rfl, rfl⟩) rfl⟩
    ·
     rintro ⟨out_1, b3⟩ rfl
     try dsimp only at hm1
     refine V.region ?_
     refine VO.cons rfl (V1.move rfl rfl rfl (ltb rfl) ?_)
     refine VO.cons rfl (V1.int rfl rfl rfl rfl rfl (ltb rfl) ?_)
     refine VO.cons rfl (V1.assign rfl rfl rfl (ltb rfl) ?_)
     refine VO.nil ?_
     exact ⟨(m0, (out_1, (IntKind.i64.wrap (i + (1 : Int)))), b3), hl1 _ (Option.some.inj hm1).symm, Nat.lt_succ_self _, Keeps.mk (ks := [0]) rfl ⟨rfl, rfl, rfl, rfl, trivial⟩ (⟨_, _, rfl, rfl, rfl⟩) rfl⟩
   ·
    replace hm1 := cond_f hc1 hm1
    refine V.exit ?_
    obtain rfl := hr1 _ (Option.some.inj hm1).symm
    exact ⟨(out_0, b2), rfl, Keeps.mk (ks := [0]) rfl ⟨rfl, trivial⟩ (⟨_, _, rfl, rfl, rfl⟩) rfl⟩
  ·
   rintro ⟨out_, b1⟩ rfl
   try dsimp only at hm0
   refine V.seq ?_
   refine V.region ?_
   refine VO.cons rfl (V1.move rfl rfl rfl (ltb rfl) ?_)
   refine VO.cons rfl (V1.assign rfl rfl rfl (ltb rfl) ?_)
   refine VO.cons rfl (V1.assign rfl rfl rfl (ltb rfl) ?_)
   refine VO.nil ?_
   refine V.keep 43 [4, 5] [0] (E0 := [(4, .sref b1 1 0 (List.length out_)), (5, .bool true)]) (H0 := [(b1, ⟨1, List.map encInt out_⟩)]) rfl (⟨_, _, rfl, rfl, ⟨_, _, rfl, rfl, rfl⟩⟩) (⟨_, _, rfl, rfl, rfl⟩) rfl ?_
   refine V.ret ?_
   obtain rfl := Option.some.inj hm0
   exact ⟨_, _, ⟨_, _, rfl, rfl, ⟨_, _, rfl, rfl, rfl⟩⟩, List.Sublist.refl _, b1, rfl, rfl⟩

theorem ok_laws_rInts {ρ0 ρ1 rn : Nat} {a : List Int} {b_ : List Int} {r : Bool} (h : M.laws_rInts a b_ = some r) : Does Tryd.prog 12 [.vl ρ0 1 (List.map encInt a), .vl ρ1 1 (List.map encInt b_)] [] rn (fun x H => x = .bool r ∧ H = []) := by
 have hm0 := h; clear h; unfold M.laws_rInts at hm0
 try dsimp only at hm0
 refine Does.intro (N := 26) Tryd.func12 rfl rfl rfl rfl ?_
 intro w0 S0
 refine V.seq ?_
 refine V.region ?_
 refine VO.cons rfl (V1.assign rfl rfl rfl (ltb rfl) ?_)
 refine VO.nil ?_
 refine V.seq ?_
 refine V.seq ?_
 refine V.region ?_
 refine VO.cons rfl (V1.move rfl rfl rfl (ltb rfl) ?_)
 refine VO.cons rfl (V1.lenMap rfl rfl rfl rfl rfl rfl isl_31 (ltb rfl) ?_)
 refine VO.cons rfl (V1.move rfl rfl rfl (ltb rfl) ?_)
 refine VO.cons rfl (V1.lenMap rfl rfl rfl rfl rfl rfl isl_31 (ltb rfl) ?_)
 refine VO.cons rfl (V1.int rfl rfl rfl rfl rfl (ltb rfl) ?_)
 refine VO.nil ?_
 refine V.keep 26 [0, 1, 10] [] (E0 := [(0, .vl ρ0 1 (List.map encInt a)), (1, .vl ρ1 1 (List.map encInt b_)), (10, .bool ((a.length : Int) != (b_.length : Int)))]) (H0 := []) rfl (⟨_, _, rfl, rfl, ⟨_, _, rfl, rfl, ⟨_, _, rfl, rfl, rfl⟩⟩⟩) (rfl) rfl ?_
 refine V.cond rfl (fun hc0 => ?_) (fun hc0 => ?_)
 ·
  replace hm0 := cond_t hc0 hm0
  refine V.seq ?_
  refine V.region ?_
  refine VO.cons rfl (V1.assign rfl rfl rfl (ltb rfl) ?_)
  refine VO.nil ?_
  refine V.ret ?_
  obtain rfl := Option.some.inj hm0
  exact ⟨_, [], ⟨_, _, rfl, rfl, rfl⟩, List.nil_sublist _, rfl, rfl⟩
 ·
  replace hm0 := cond_f hc0 hm0
  refine V.skip ?_
  refine V.seq ?_
  refine V.seq ?_
  refine V.region ?_
  refine VO.cons rfl (V1.assign rfl rfl rfl (ltb rfl) ?_)
  refine VO.nil ?_
  replace hm0 := bindO hm0; rcases hm0 with ⟨e0, he1, hm0⟩
  refine V.cutT (D := (Unit) × (Unit)) (fun ⟨_, _⟩ => ⟨26, [], []⟩) (fun ⟨_, _⟩ => (.inl () = e0)) ?_ ?_
  ·
   refine V.block ?_
   refine V.keep 26 [5, 0, 1] [] (E0 := [(5, .int .i64 (0 : Int)), (0, .vl ρ0 1 (List.map encInt a)), (1, .vl ρ1 1 (List.map encInt b_))]) (H0 := []) rfl (⟨_, _, rfl, rfl, ⟨_, _, rfl, rfl, ⟨_, _, rfl, rfl, rfl⟩⟩⟩) (rfl) rfl ?_
   refine V.loopE (D := Nat × (Int) × (Unit)) (fun ⟨n0, i, _⟩ => [(5, .int .i64 i)]) (fun ⟨n0, i, _⟩ => []) (fun ⟨n0, i, _⟩ => loopO (M.laws_rInts_l0 a b_) n0 i = some e0) (fun ⟨n0, _, _⟩ => n0) (rounds, (0 : Int), ()) rfl he1 ?_
   rintro ⟨n0, i, _⟩ hP0
   obtain ⟨m0, y0, rfl, hm1, hl1, hr1⟩ := loop_head hP0
   unfold M.laws_rInts_l0 at hm1; dsimp only at hm1
   show V _ _ _ ⟨26, [(5, .int .i64 i), (0, .vl ρ0 1 (List.map encInt a)), (1, .vl ρ1 1 (List.map encInt b_))], []⟩
   refine V.seq ?_
   refine V.seq ?_
   refine V.region ?_
   refine VO.cons rfl (V1.move rfl rfl rfl (ltb rfl) ?_)
   refine VO.cons rfl (V1.move rfl rfl rfl (ltb rfl) ?_)
   refine VO.cons rfl (V1.lenMap rfl rfl rfl rfl rfl rfl isl_31 (ltb rfl) ?_)
   refine VO.cons rfl (V1.int rfl rfl rfl rfl rfl (ltb rfl) ?_)
   refine VO.nil ?_
   refine V.cond rfl (fun hc1 => ?_) (fun hc1 => ?_)
   ·
    replace hm1 := cond_t hc1 hm1
    refine V.skip ?_
    refine V.keep 26 [0, 1, 5] [] (E0 := [(0, .vl ρ0 1 (List.map encInt a)), (1, .vl ρ1 1 (List.map encInt b_)), (5, .int .i64 i)]) (H0 := []) rfl (⟨_, _, rfl, rfl, ⟨_, _, rfl, rfl, ⟨_, _, rfl, rfl, rfl⟩⟩⟩) (rfl) rfl ?_
    refine V.seq ?_
    refine V.block ?_
    refine V.seq ?_
    replace hm1 := asrt_some hm1; rcases hm1 with ⟨hh0, hm1⟩
    replace hm1 := asrt_some hm1; rcases hm1 with ⟨hh1, hm1⟩
    refine V.regionM 26 8 [⟨[(0, none)], [], none⟩, ⟨[(5, none)], [], none⟩, ⟨[(17, some 1), (18, some 0)], [], none⟩, ⟨[(19, some 0)], [], none⟩, ⟨[(1, none)], [], none⟩, ⟨[(5, none)], [], none⟩, ⟨[(21, some 1), (22, some 0)], [], none⟩, ⟨[(23, some 0)], [], none⟩] [(0, none), (1, none), (5, none), (20, some 4), (24, some 0)] (⟨_, rfl, ⟨_, rfl, ⟨_, rfl, ⟨_, rfl, ⟨_, rfl, ⟨_, rfl, ⟨_, rfl, ⟨_, rfl, ⟨rfl, rfl⟩⟩⟩⟩⟩⟩⟩⟩⟩) mixed_orders rfl (by decide +kernel) (fun hck6 => ?_)
    refine VP.step (p := ?pv65) rfl rfl rfl (⟨_, _, rfl, rfl, rfl⟩) ?hv65 ?rest65 hck6
    case hv65 =>
     intro E1
     refine (V1.move rfl rfl rfl (ltb rfl) ?_)
     exact rfl
    refine VP.step (p := ?pv66) rfl rfl rfl (⟨_, _, rfl, rfl, rfl⟩) ?hv66 ?rest66 hck6
    case hv66 =>
     intro E1
     refine (V1.move rfl rfl rfl (ltb rfl) ?_)
     exact rfl
    refine VP.step (p := ?pv67) rfl rfl rfl (⟨_, _, rfl, rfl, ⟨_, _, rfl, rfl, rfl⟩⟩) ?hv67 ?rest67 hck6
    case hv67 =>
     intro E1
     refine (V1.indexI rfl rfl esz_31 rfl rfl hh0 (ltb rfl) ?_)
     exact rfl
    refine VP.step (p := ?pv68) rfl rfl rfl (⟨_, _, rfl, rfl, rfl⟩) ?hv68 ?rest68 hck6
    case hv68 =>
     intro E1
     refine (V1.loadPin rfl rfl tyk_3 rfl rfl (ltb rfl) ?_)
     exact rfl
    refine VP.step (p := ?pv69) rfl rfl rfl (⟨_, _, rfl, rfl, rfl⟩) ?hv69 ?rest69 hck6
    case hv69 =>
     intro E1
     refine (V1.move rfl rfl rfl (ltb rfl) ?_)
     exact rfl
    refine VP.step (p := ?pv70) rfl rfl rfl (⟨_, _, rfl, rfl, rfl⟩) ?hv70 ?rest70 hck6
    case hv70 =>
     intro E1
     refine (V1.move rfl rfl rfl (ltb rfl) ?_)
     exact rfl
    refine VP.step (p := ?pv71) rfl rfl rfl (⟨_, _, rfl, rfl, ⟨_, _, rfl, rfl, rfl⟩⟩) ?hv71 ?rest71 hck6
    case hv71 =>
     intro E1
     refine (V1.indexI rfl rfl esz_31 rfl rfl hh1 (ltb rfl) ?_)
     exact rfl
    refine VP.step (p := ?pv72) rfl rfl rfl (⟨_, _, rfl, rfl, rfl⟩) ?hv72 ?rest72 hck6
    case hv72 =>
     intro E1
     refine (V1.loadPin rfl rfl tyk_3 rfl rfl (ltb rfl) ?_)
     exact rfl
    refine VP.fin rfl (⟨_, _, rfl, rfl, ⟨_, _, rfl, rfl, ⟨_, _, rfl, rfl, ⟨_, _, rfl, rfl, ⟨_, _, rfl, rfl, rfl⟩⟩⟩⟩⟩) ?_
    refine VO.cons rfl (V1.int rfl rfl rfl rfl rfl (ltb rfl) ?_)
    refine VO.nil ?_
    refine V.cond rfl (fun hc2 => ?_) (fun hc2 => ?_)
    ·
     replace hm1 := cond_t hc2 hm1
     refine V.seq ?_
     refine V.region ?_
     refine VO.cons rfl (V1.assign rfl rfl rfl (ltb rfl) ?_)
     refine VO.nil ?_
     refine V.ret ?_
     obtain rfl := hr1 _ (Option.some.inj hm1).symm
     change some _ = some _ at hm0
     obtain rfl := Option.some.inj hm0
     exact ⟨_, [], ⟨_, _, rfl, rfl, rfl⟩, List.nil_sublist _, rfl, rfl⟩
    ·
     replace hm1 := cond_f hc2 hm1
     refine V.skip ?_
     refine V.region ?_
     refine VO.cons rfl (V1.move rfl rfl rfl (ltb rfl) ?_)
     refine VO.cons rfl (V1.int rfl rfl rfl rfl rfl (ltb rfl) ?_)
     refine VO.cons rfl (V1.assign rfl rfl rfl (ltb rfl) ?_)
     refine VO.nil ?_
     exact ⟨(m0, (IntKind.i64.wrap (i + (1 : Int))), ()), hl1 _ (Option.some.inj hm1).symm, Nat.lt_succ_self _, Keeps.mk (ks := []) rfl ⟨rfl, rfl, rfl, trivial⟩ (rfl) rfl⟩
   ·
    replace hm1 := cond_f hc1 hm1
    refine V.exit ?_
    obtain rfl := hr1 _ (Option.some.inj hm1).symm
    exact ⟨((), ()), rfl, Keeps.mk (ks := []) rfl trivial (rfl) rfl⟩
  ·
   rintro ⟨_, _⟩ rfl
   try dsimp only at hm0
   refine V.seq ?_
   refine V.region ?_
   refine VO.cons rfl (V1.assign rfl rfl rfl (ltb rfl) ?_)
   refine VO.nil ?_
   refine V.ret ?_
   obtain rfl := Option.some.inj hm0
   exact ⟨_, [], ⟨_, _, rfl, rfl, rfl⟩, List.nil_sublist _, rfl, rfl⟩

theorem ok_impl_PathTo {ρ0 rn : Nat} {tree : List Function} {id_ : Int} {r : List Int × Bool} (h : M.impl_PathTo tree id_ = some r) : Does Tryd.prog 13 [.vl ρ0 3 (List.map encFunction tree), .int .i64 id_] [] rn (fun x H => ∃ (ob0_ : Option Nat), (ob0_ = none → r.1 = []) ∧ x = .tup [optS 1 ob0_ (List.length r.1), .bool r.2] ∧ H = optH 1 ob0_ (List.map encInt r.1)) := by
 have hm0 := h; clear h; unfold M.impl_PathTo at hm0
 try dsimp only at hm0
 refine Does.intro (N := 18) Tryd.func13 rfl rfl rfl rfl ?_
 intro w0 S0
 refine V.seq ?_
 refine V.region ?_
 refine VO.cons rfl (V1.assign rfl rfl rfl (ltb rfl) ?_)
 refine VO.cons rfl (V1.assign rfl rfl rfl (ltb rfl) ?_)
 refine VO.nil ?_
 refine V.seq ?_
 refine V.seq ?_
 replace hm0 := bindO hm0; rcases hm0 with ⟨y0, hh0, hm0⟩
 replace hm0 := bindO hm0; rcases hm0 with ⟨y1, hh1, hm0⟩
 refine V.region ?_
 refine VO.cons rfl (V1.move rfl rfl rfl (ltb rfl) ?_)
 refine VO.cons rfl (V1.call rfl rfl rfl cok_20 rfl (ok_impl_IsTree hh0) rfl (ltb rfl) ?_)
 rintro _ _ ⟨rfl, rfl⟩
 refine VO.cons rfl (V1.not rfl rfl rfl (ltb rfl) ?_)
 refine VO.cons rfl (V1.move rfl rfl rfl (ltb rfl) ?_)
 apply VO.or (n := 4) rfl rfl rfl rfl rfl rfl (ltb rfl) (.none rfl)
 ·
  intro hg0
  refine VO.step (.some rfl rfl rfl) (V1.move rfl rfl rfl (ltb rfl) ?_)
  refine VO.step (.some rfl rfl rfl) (V1.move rfl rfl rfl (ltb rfl) ?_)
  refine VO.step (.some rfl rfl rfl) (V1.call rfl rfl rfl cok_40 rfl (ok_impl_functionAt (cond_f hg0 hh1)) rfl (ltb rfl) ?_)
  rintro _ _ ⟨rfl, rfl⟩
  refine VO.step (.some rfl rfl rfl) (V1.int rfl rfl rfl rfl rfl (ltb rfl) ?_)
  exact VO.nil ⟨rfl, rfl, rfl, rfl, .inr ⟨rfl, .inr ⟨rfl, .inr ⟨rfl, .inr ⟨rfl, .inr ⟨rfl, .inl rfl⟩⟩⟩⟩⟩⟩
 refine VO.nil ?_
 refine V.keep 18 [0, 1, 14] [] (E0 := [(0, .vl ρ0 3 (List.map encFunction tree)), (1, .int .i64 id_), (14, .bool ((!y0) || (decide (y1 < (0 : Int)))))]) (H0 := []) rfl (⟨_, _, rfl, rfl, ⟨_, _, rfl, rfl, ⟨_, _, rfl, rfl, rfl⟩⟩⟩) (rfl) rfl ?_
 refine V.cond rfl (fun hc0 => ?_) (fun hc0 => ?_)
 ·
  replace hm0 := cond_t hc0 hm0
  refine V.seq ?_
  refine V.region ?_
  refine VO.cons rfl (V1.assign rfl rfl rfl (ltb rfl) ?_)
  refine VO.cons rfl (V1.assign rfl rfl rfl (ltb rfl) ?_)
  refine VO.nil ?_
  refine V.keep 18 [4, 5] [] (E0 := [(4, .nils), (5, .bool false)]) (H0 := []) rfl (⟨_, _, rfl, rfl, ⟨_, _, rfl, rfl, rfl⟩⟩) (rfl) rfl ?_
  refine V.ret ?_
  obtain rfl := Option.some.inj hm0
  exact ⟨_, _, ⟨_, _, rfl, rfl, ⟨_, _, rfl, rfl, rfl⟩⟩, List.Sublist.refl _, none, (fun _ => rfl), rfl, rfl⟩
 ·
  replace hm0 := cond_f hc0 hm0
  refine V.skip ?_
  refine V.seq ?_
  replace hm0 := bindO hm0; rcases hm0 with ⟨y2, hh2, hm0⟩
  refine V.region ?_
  refine VO.cons rfl (V1.move rfl rfl rfl (ltb rfl) ?_)
  refine VO.cons rfl (V1.move rfl rfl rfl (ltb rfl) ?_)
  refine VO.cons rfl (V1.permK (V1.call rfl rfl rfl cok_46 rfl (ok_impl_pathTo hh2) rfl (ltb rfl) ?_))
  rintro _ _ ⟨ob0, hob0, rfl, rfl⟩
  refine ⟨_, ?_, Keeps.optBack (n := 1) (ob := ob0) (xs := List.map encInt y2) (H1 := []) (H2 := []) rfl⟩
  refine VO.cons rfl (V1.assign rfl rfl rfl (ltb rfl) ?_)
  refine VO.cons rfl (V1.assign rfl rfl rfl (ltb rfl) ?_)
  refine VO.nil ?_
  rcases ob0 with _ | ob0
  ·
   refine V.keep 18 [4, 5] [] (E0 := [(4, .nils), (5, .bool true)]) (H0 := []) rfl (⟨_, _, rfl, rfl, ⟨_, _, rfl, rfl, rfl⟩⟩) (rfl) rfl ?_
   refine V.ret ?_
   obtain rfl := Option.some.inj hm0
   exact ⟨_, _, ⟨_, _, rfl, rfl, ⟨_, _, rfl, rfl, rfl⟩⟩, List.Sublist.refl _, none, (fun _ => (hob0 rfl)), rfl, rfl⟩
  ·
   refine V.keep 18 [4, 5] [0] (E0 := [(4, .sref ob0 1 0 (List.length y2)), (5, .bool true)]) (H0 := [(ob0, ⟨1, List.map encInt y2⟩)]) rfl (⟨_, _, rfl, rfl, ⟨_, _, rfl, rfl, rfl⟩⟩) (⟨_, _, rfl, rfl, rfl⟩) rfl ?_
   refine V.ret ?_
   obtain rfl := Option.some.inj hm0
   exact ⟨_, _, ⟨_, _, rfl, rfl, ⟨_, _, rfl, rfl, rfl⟩⟩, List.Sublist.refl _, some ob0, (fun e => by cases e), rfl, rfl⟩

theorem ok_laws_rHas {ρ0 rn : Nat} {list : List Int} {x : Int} {r : Bool} (h : M.laws_rHas list x = some r) : Does Tryd.prog 14 [.vl ρ0 1 (List.map encInt list), .int .i64 x] [] rn (fun x H => x = .bool r ∧ H = []) := by
 have hm0 := h; clear h; unfold M.laws_rHas at hm0
 try dsimp only at hm0
 refine Does.intro (N := 18) Tryd.func14 rfl rfl rfl rfl ?_
 intro w0 S0
 refine V.seq ?_
 refine V.region ?_
 refine VO.cons rfl (V1.assign rfl rfl rfl (ltb rfl) ?_)
 refine VO.nil ?_
 refine V.seq ?_
 refine V.seq ?_
 refine V.region ?_
 refine VO.cons rfl (V1.assign rfl rfl rfl (ltb rfl) ?_)
 refine VO.nil ?_
 replace hm0 := bindO hm0; rcases hm0 with ⟨e0, he1, hm0⟩
 refine V.cutT (D := (Unit) × (Unit)) (fun ⟨_, _⟩ => ⟨18, [], []⟩) (fun ⟨_, _⟩ => (.inl () = e0)) ?_ ?_
 ·
  refine V.block ?_
  refine V.keep 18 [5, 0, 1] [] (E0 := [(5, .int .i64 (0 : Int)), (0, .vl ρ0 1 (List.map encInt list)), (1, .int .i64 x)]) (H0 := []) rfl (⟨_, _, rfl, rfl, ⟨_, _, rfl, rfl, ⟨_, _, rfl, rfl, rfl⟩⟩⟩) (rfl) rfl ?_
  refine V.loopE (D := Nat × (Int) × (Unit)) (fun ⟨n0, i, _⟩ => [(5, .int .i64 i)]) (fun ⟨n0, i, _⟩ => []) (fun ⟨n0, i, _⟩ => loopO (M.laws_rHas_l0 list x) n0 i = some e0) (fun ⟨n0, _, _⟩ => n0) (rounds, (0 : Int), ()) rfl he1 ?_
  rintro ⟨n0, i, _⟩ hP0
  obtain ⟨m0, y0, rfl, hm1, hl1, hr1⟩ := loop_head hP0
  unfold M.laws_rHas_l0 at hm1; dsimp only at hm1
  show V _ _ _ ⟨18, [(5, .int .i64 i), (0, .vl ρ0 1 (List.map encInt list)), (1, .int .i64 x)], []⟩
  refine V.seq ?_
  refine V.seq ?_
  refine V.region ?_
  refine VO.cons rfl (V1.move rfl rfl rfl (ltb rfl) ?_)
  refine VO.cons rfl (V1.move rfl rfl rfl (ltb rfl) ?_)
  refine VO.cons rfl (V1.lenMap rfl rfl rfl rfl rfl rfl isl_31 (ltb rfl) ?_)
  refine VO.cons rfl (V1.int rfl rfl rfl rfl rfl (ltb rfl) ?_)
  refine VO.nil ?_
  refine V.cond rfl (fun hc0 => ?_) (fun hc0 => ?_)
  ·
   replace hm1 := cond_t hc0 hm1
   refine V.skip ?_
   refine V.keep 18 [0, 1, 5] [] (E0 := [(0, .vl ρ0 1 (List.map encInt list)), (1, .int .i64 x), (5, .int .i64 i)]) (H0 := []) rfl (⟨_, _, rfl, rfl, ⟨_, _, rfl, rfl, ⟨_, _, rfl, rfl, rfl⟩⟩⟩) (rfl) rfl ?_
   refine V.seq ?_
   refine V.block ?_
   refine V.seq ?_
   replace hm1 := asrt_some hm1; rcases hm1 with ⟨hh0, hm1⟩
   refine V.region ?_
   refine VO.cons rfl (V1.move rfl rfl rfl (ltb rfl) ?_)
   refine VO.cons rfl (V1.move rfl rfl rfl (ltb rfl) ?_)
   refine VO.cons rfl (V1.indexI rfl rfl esz_31 rfl rfl hh0 (ltb rfl) ?_)
   refine VO.cons rfl (V1.loadPin rfl rfl tyk_3 rfl rfl (ltb rfl) ?_)
   refine VO.cons rfl (V1.move rfl rfl rfl (ltb rfl) ?_)
   refine VO.cons rfl (V1.int rfl rfl rfl rfl rfl (ltb rfl) ?_)
   refine VO.nil ?_
   refine V.keep 18 [0, 1, 5, 17] [] (E0 := [(0, .vl ρ0 1 (List.map encInt list)), (1, .int .i64 x), (5, .int .i64 i), (17, .bool ((list.getD (Int.toNat i) default) == x))]) (H0 := []) rfl (⟨_, _, rfl, rfl, ⟨_, _, rfl, rfl, ⟨_, _, rfl, rfl, ⟨_, _, rfl, rfl, rfl⟩⟩⟩⟩) (rfl) rfl ?_
   refine V.cond rfl (fun hc1 => ?_) (fun hc1 => ?_)
   ·
    replace hm1 := cond_t hc1 hm1
    refine V.seq ?_
    refine V.region ?_
    refine VO.cons rfl (V1.assign rfl rfl rfl (ltb rfl) ?_)
    refine VO.nil ?_
    refine V.ret ?_
    obtain rfl := hr1 _ (Option.some.inj hm1).symm
    change some _ = some _ at hm0
    obtain rfl := Option.some.inj hm0
    exact ⟨_, [], ⟨_, _, rfl, rfl, rfl⟩, List.nil_sublist _, rfl, rfl⟩
   ·
    replace hm1 := cond_f hc1 hm1
    refine V.skip ?_
    refine V.region ?_
    refine VO.cons rfl (V1.move rfl rfl rfl (ltb rfl) ?_)
    refine VO.cons rfl (V1.int rfl rfl rfl rfl rfl (ltb rfl) ?_)
    refine VO.cons rfl (V1.assign rfl rfl rfl (ltb rfl) ?_)
    refine VO.nil ?_
    exact ⟨(m0, (IntKind.i64.wrap (i + (1 : Int))), ()), hl1 _ (Option.some.inj hm1).symm, Nat.lt_succ_self _, Keeps.mk (ks := []) rfl ⟨rfl, rfl, rfl, trivial⟩ (rfl) rfl⟩
  ·
   replace hm1 := cond_f hc0 hm1
   refine V.exit ?_
   obtain rfl := hr1 _ (Option.some.inj hm1).symm
   exact ⟨((), ()), rfl, Keeps.mk (ks := []) rfl trivial (rfl) rfl⟩
 ·
  rintro ⟨_, _⟩ rfl
  try dsimp only at hm0
  refine V.seq ?_
  refine V.region ?_
  refine VO.cons rfl (V1.assign rfl rfl rfl (ltb rfl) ?_)
  refine VO.nil ?_
  refine V.ret ?_
  obtain rfl := Option.some.inj hm0
  exact ⟨_, [], ⟨_, _, rfl, rfl, rfl⟩, List.nil_sublist _, rfl, rfl⟩

theorem ok_spec_DrawSharedPath {ρ0 rn : Nat} {code : List Int} {r : List Function × Int × Int} (h : M.spec_DrawSharedPath code = some r) : Does Tryd.prog 15 [.vl ρ0 1 (List.map encU8 code)] [] rn (fun x H => ∃ (ob0_ : Nat), x = .tup [PV.sref ob0_ 3 0 (List.length r.1), .int .i64 r.2.1, .int .i64 r.2.2] ∧ H = [(ob0_, ⟨3, List.map encFunction r.1⟩)]) := by
 have hm0 := h; clear h; unfold M.spec_DrawSharedPath at hm0
 try dsimp only at hm0
 refine Does.intro (N := 19) Tryd.func15 rfl rfl rfl rfl ?_
 intro w0 S0
 refine V.seq ?_
 refine V.region ?_
 refine VO.cons rfl (V1.assign rfl rfl rfl (ltb rfl) ?_)
 refine VO.cons rfl (V1.assign rfl rfl rfl (ltb rfl) ?_)
 refine VO.cons rfl (V1.assign rfl rfl rfl (ltb rfl) ?_)
 refine VO.nil ?_
 refine V.seq ?_
 refine V.region ?_
 refine VO.cons rfl (V1.move rfl rfl rfl (ltb rfl) ?_)
 refine VO.cons rfl (V1.build rfl rfl zk_71 pl_71 rfl rfl (ltb rfl) ?_)
 refine VO.cons rfl (V1.boxN (n := 3) rfl rfl rfl rfl rfl (ltb rfl) ?_)
 intro b0
 refine VO.cons rfl (V1.assign rfl rfl rfl (ltb rfl) ?_)
 refine VO.nil ?_
 refine V.keep 19 [5] [0] (E0 := [(5, .ref b0 3 0 0)]) (H0 := [(b0, ⟨3, [.agg [.vl ρ0 1 (List.map encU8 code), .int .i64 (0 : Int), .int .u64 (0 : Int)]]⟩)]) rfl (⟨_, _, rfl, rfl, rfl⟩) (⟨_, _, rfl, rfl, rfl⟩) rfl ?_
 refine V.seq ?_
 replace hm0 := bindO hm0; rcases hm0 with ⟨y0, hh0, hm0⟩
 refine V.region ?_
 refine VO.cons rfl (V1.move rfl rfl rfl (ltb rfl) ?_)
 refine VO.cons rfl (V1.callM 0 (rn + ρ0 + 1) [] [.ref b0 3 0 0] (p := (b0, ⟨3, [.agg [.vl ρ0 1 (List.map encU8 code), .int .i64 (0 : Int), .int .u64 (0 : Int)]]⟩)) rfl rfl rfl cok_49 rfl rfl ⟨_, _, rfl, .same _, rfl⟩ bwNil (ok_spec_l1Cur_tree3 hh0) rfl (.inl rfl) (ltb rfl) ?_)
 rintro _ _ ⟨b1, rfl, rfl⟩
 refine VO.cons rfl (V1.assign rfl rfl rfl (ltb rfl) ?_)
 refine VO.nil ?_
 refine V.seq ?_
 replace hm0 := bindO hm0; rcases hm0 with ⟨y1, hh1, hm0⟩
 replace hm0 := bindO hm0; rcases hm0 with ⟨y2, hh2, hm0⟩
 refine V.region ?_
 refine VO.cons rfl (V1.move rfl rfl rfl (ltb rfl) ?_)
 refine VO.cons rfl (V1.move rfl rfl rfl (ltb rfl) ?_)
 refine VO.cons rfl (V1.move rfl rfl rfl (ltb rfl) ?_)
 refine VO.cons rfl (V1.callM 1 (rn + ρ0 + 1) [b1] [.ref b0 3 0 0, .vl (rn + ρ0 + 1) 3 (List.map encFunction y0.1)] (p := (b0, ⟨3, [encCur ρ0 y0.2]⟩)) rfl rfl rfl cok_50 rfl rfl ⟨_, _, rfl, .same _, ⟨_, _, rfl, Lend.srMap 0 rfl (fun _ => rfl) (.head _), rfl⟩⟩ (bwCons (k := 0) rfl bwNil) (ok_spec_l1Cur_functionId hh1) rfl (.inr ⟨(by first | omega | (dsimp only; omega)), by rintro _ _ ⟨rfl, rfl⟩; exact ⟨by simp [PV.no, PV.noL, optS_no, noL_iff, nbeq] <;> omega, by intro b ob h; first | exact optH_no (noL_map (fun _ => by simp [PV.no, PV.noL, noL_iff, nbeq]) _) b ob h | (simp at h; obtain ⟨rfl, rfl⟩ := h; exact noL_map (fun _ => by simp [PV.no, PV.noL, noL_iff, nbeq]) _) | (simp at h; obtain ⟨rfl, rfl⟩ := h; simp [PV.no, PV.noL, optS_no, noL_iff, nbeq] <;> omega)⟩⟩) (ltb rfl) ?_)
 rintro _ _ ⟨rfl, rfl⟩
 refine VO.cons rfl (V1.move rfl rfl rfl (ltb rfl) ?_)
 refine VO.cons rfl (V1.move rfl rfl rfl (ltb rfl) ?_)
 refine VO.cons rfl (V1.callM 0 (rn + ρ0 + 1) [b1] [.ref b0 3 0 0, .vl (rn + ρ0 + 1) 3 (List.map encFunction y0.1)] (p := (b0, ⟨3, [encCur ρ0 y1.2]⟩)) rfl rfl rfl cok_50 rfl rfl ⟨_, _, rfl, .same _, ⟨_, _, rfl, Lend.srMap 1 rfl (fun _ => rfl) (.head _), rfl⟩⟩ (bwCons (k := 0) rfl bwNil) (ok_spec_l1Cur_functionId hh2) rfl (.inr ⟨(by first | omega | (dsimp only; omega)), by rintro _ _ ⟨rfl, rfl⟩; exact ⟨by simp [PV.no, PV.noL, optS_no, noL_iff, nbeq] <;> omega, by intro b ob h; first | exact optH_no (noL_map (fun _ => by simp [PV.no, PV.noL, noL_iff, nbeq]) _) b ob h | (simp at h; obtain ⟨rfl, rfl⟩ := h; exact noL_map (fun _ => by simp [PV.no, PV.noL, noL_iff, nbeq]) _) | (simp at h; obtain ⟨rfl, rfl⟩ := h; simp [PV.no, PV.noL, optS_no, noL_iff, nbeq] <;> omega)⟩⟩) (ltb rfl) ?_)
 rintro _ _ ⟨rfl, rfl⟩
 refine VO.cons rfl (V1.assign rfl rfl rfl (ltb rfl) ?_)
 refine VO.cons rfl (V1.assign rfl rfl rfl (ltb rfl) ?_)
 refine VO.cons rfl (V1.assign rfl rfl rfl (ltb rfl) ?_)
 refine VO.nil ?_
 refine V.keep 19 [2, 3, 4] [1] (E0 := [(2, .sref b1 3 0 (List.length y0.1)), (3, .int .i64 y1.1), (4, .int .i64 y2.1)]) (H0 := [(b1, ⟨3, List.map encFunction y0.1⟩)]) rfl (⟨_, _, rfl, rfl, ⟨_, _, rfl, rfl, ⟨_, _, rfl, rfl, rfl⟩⟩⟩) (⟨_, _, rfl, rfl, rfl⟩) rfl ?_
 refine V.ret ?_
 obtain rfl := Option.some.inj hm0
 exact ⟨_, _, ⟨_, _, rfl, rfl, ⟨_, _, rfl, rfl, ⟨_, _, rfl, rfl, rfl⟩⟩⟩, List.Sublist.refl _, b1, rfl, rfl⟩

theorem ok_impl_SharedPath {ρ0 rn : Nat} {tree : List Function} {a : Int} {b_ : Int} {r : List Int × Bool} (h : M.impl_SharedPath tree a b_ = some r) : Does Tryd.prog 16 [.vl ρ0 3 (List.map encFunction tree), .int .i64 a, .int .i64 b_] [] rn (fun x H => x = .tup [.vl rn 1 (List.map encInt r.1), .bool r.2] ∧ H = []) := by
 have hm0 := h; clear h; unfold M.impl_SharedPath at hm0
 try dsimp only at hm0
 refine Does.intro (N := 58) Tryd.func16 rfl rfl rfl rfl ?_
 intro w0 S0
 refine V.seq ?_
 refine V.region ?_
 refine VO.cons rfl (V1.assign rfl rfl rfl (ltb rfl) ?_)
 refine VO.cons rfl (V1.assign rfl rfl rfl (ltb rfl) ?_)
 refine VO.nil ?_
 refine V.seq ?_
 refine V.seq ?_
 replace hm0 := bindO hm0; rcases hm0 with ⟨y0, hh0, hm0⟩
 replace hm0 := bindO hm0; rcases hm0 with ⟨y1, hh1, hm0⟩
 replace hm0 := bindO hm0; rcases hm0 with ⟨y2, hh2, hm0⟩
 refine V.region ?_
 refine VO.cons rfl (V1.move rfl rfl rfl (ltb rfl) ?_)
 refine VO.cons rfl (V1.call rfl rfl rfl cok_20 rfl (ok_impl_IsTree hh0) rfl (ltb rfl) ?_)
 rintro _ _ ⟨rfl, rfl⟩
 refine VO.cons rfl (V1.not rfl rfl rfl (ltb rfl) ?_)
 refine VO.cons rfl (V1.move rfl rfl rfl (ltb rfl) ?_)
 apply VO.or (n := 4) rfl rfl rfl rfl rfl rfl (ltb rfl) (.none rfl)
 ·
  intro hg0
  refine VO.step (.some rfl rfl rfl) (V1.move rfl rfl rfl (ltb rfl) ?_)
  refine VO.step (.some rfl rfl rfl) (V1.move rfl rfl rfl (ltb rfl) ?_)
  refine VO.step (.some rfl rfl rfl) (V1.call rfl rfl rfl cok_40 rfl (ok_impl_functionAt (cond_f hg0 hh1)) rfl (ltb rfl) ?_)
  rintro _ _ ⟨rfl, rfl⟩
  refine VO.step (.some rfl rfl rfl) (V1.int rfl rfl rfl rfl rfl (ltb rfl) ?_)
  exact VO.nil ⟨rfl, rfl, rfl, rfl, .inr ⟨rfl, .inr ⟨rfl, .inr ⟨rfl, .inr ⟨rfl, .inr ⟨rfl, .inl rfl⟩⟩⟩⟩⟩⟩
 refine VO.cons rfl (V1.move rfl rfl rfl (ltb rfl) ?_)
 apply VO.or (n := 4) rfl rfl rfl rfl rfl rfl (ltb rfl) (.none rfl)
 ·
  intro hg1
  refine VO.step (.some rfl rfl rfl) (V1.move rfl rfl rfl (ltb rfl) ?_)
  refine VO.step (.some rfl rfl rfl) (V1.move rfl rfl rfl (ltb rfl) ?_)
  refine VO.step (.some rfl rfl rfl) (V1.call rfl rfl rfl cok_40 rfl (ok_impl_functionAt (cond_f hg1 hh2)) rfl (ltb rfl) ?_)
  rintro _ _ ⟨rfl, rfl⟩
  refine VO.step (.some rfl rfl rfl) (V1.int rfl rfl rfl rfl rfl (ltb rfl) ?_)
  exact VO.nil ⟨rfl, rfl, rfl, rfl, .inr ⟨rfl, .inr ⟨rfl, .inr ⟨rfl, .inr ⟨rfl, .inr ⟨rfl, .inl rfl⟩⟩⟩⟩⟩⟩
 refine VO.nil ?_
 refine V.keep 58 [0, 1, 2, 25] [] (E0 := [(0, .vl ρ0 3 (List.map encFunction tree)), (1, .int .i64 a), (2, .int .i64 b_), (25, .bool (((!y0) || (decide (y1 < (0 : Int)))) || (decide (y2 < (0 : Int)))))]) (H0 := []) rfl (⟨_, _, rfl, rfl, ⟨_, _, rfl, rfl, ⟨_, _, rfl, rfl, ⟨_, _, rfl, rfl, rfl⟩⟩⟩⟩) (rfl) rfl ?_
 refine V.cond rfl (fun hc0 => ?_) (fun hc0 => ?_)
 ·
  replace hm0 := cond_t hc0 hm0
  refine V.seq ?_
  refine V.region ?_
  refine VO.cons rfl (V1.assign rfl rfl rfl (ltb rfl) ?_)
  refine VO.cons rfl (V1.assign rfl rfl rfl (ltb rfl) ?_)
  refine VO.nil ?_
  refine V.weakenK (Keeps.nilsE (l := ([] : List Int)) 6 rn 1 encInt rfl rfl rfl) ?_
  refine V.ret ?_
  obtain rfl := Option.some.inj hm0
  exact ⟨_, [], ⟨_, _, rfl, rfl, ⟨_, _, rfl, rfl, rfl⟩⟩, List.nil_sublist _, rfl, rfl⟩
 ·
  replace hm0 := cond_f hc0 hm0
  refine V.skip ?_
  refine V.seq ?_
  replace hm0 := bindO hm0; rcases hm0 with ⟨y3, hh3, hm0⟩
  replace hm0 := bindO hm0; rcases hm0 with ⟨y4, hh4, hm0⟩
  refine V.region ?_
  refine VO.cons rfl (V1.move rfl rfl rfl (ltb rfl) ?_)
  refine VO.cons rfl (V1.move rfl rfl rfl (ltb rfl) ?_)
  refine VO.cons rfl (V1.permK (V1.call rfl rfl rfl cok_46 rfl (ok_impl_pathTo hh3) rfl (ltb rfl) ?_))
  rintro _ _ ⟨ob0, hob0, rfl, rfl⟩
  refine ⟨_, ?_, Keeps.optBack (n := 1) (ob := ob0) (xs := List.map encInt y3) (H1 := []) (H2 := []) rfl⟩
  refine VO.weakenK (Keeps.optFront (n := 1) (ob := ob0) (xs := List.map encInt y3) (H1 := []) rfl) ?_
  refine VO.weakenK (Keeps.optVl 28 [] rn (f := encInt) (l := y3) (ob := ob0) (H1 := []) hob0 rfl rfl ⟨rfl, trivial⟩ (fun _ => rfl) rfl iNil) ?_
  refine VO.cons rfl (V1.move rfl rfl rfl (ltb rfl) ?_)
  refine VO.cons rfl (V1.move rfl rfl rfl (ltb rfl) ?_)
  refine VO.cons rfl (V1.permK (V1.call rfl rfl rfl cok_46 rfl (ok_impl_pathTo hh4) rfl (ltb rfl) ?_))
  rintro _ _ ⟨ob1, hob1, rfl, rfl⟩
  refine ⟨_, ?_, Keeps.optBack (n := 1) (ob := ob1) (xs := List.map encInt y4) (H1 := []) (H2 := []) rfl⟩
  refine VO.weakenK (Keeps.optFront (n := 1) (ob := ob1) (xs := List.map encInt y4) (H1 := []) rfl) ?_
  refine VO.weakenK (Keeps.optVl 31 [] rn (f := encInt) (l := y4) (ob := ob1) (H1 := []) hob1 rfl rfl ⟨rfl, trivial⟩ (fun _ => rfl) rfl iNil) ?_
  refine VO.cons rfl (V1.assign rfl rfl rfl (ltb rfl) ?_)
  refine VO.cons rfl (V1.assign rfl rfl rfl (ltb rfl) ?_)
  refine VO.nil ?_
  refine V.keep 58 [8, 9] [] (E0 := [(8, .vl rn 1 (List.map encInt y3)), (9, .vl rn 1 (List.map encInt y4))]) (H0 := []) rfl (⟨_, _, rfl, rfl, ⟨_, _, rfl, rfl, rfl⟩⟩) (rfl) rfl ?_
  refine V.seq ?_
  refine V.region ?_
  refine VO.cons rfl (V1.assign rfl rfl rfl (ltb rfl) ?_)
  refine VO.nil ?_
  refine V.seq ?_
  replace hm0 := bindO hm0; rcases hm0 with ⟨e0, he1, hm0⟩
  refine V.cutT (D := (Int) × (Unit)) (fun ⟨n_, _⟩ => ⟨58, [(10, .int .i64 n_), (8, .vl rn 1 (List.map encInt y3))], []⟩) (fun ⟨n_, _⟩ => (n_ = e0)) ?_ ?_
  ·
   refine V.block ?_
   refine V.keep 58 [10, 8, 9] [] (E0 := [(10, .int .i64 (0 : Int)), (8, .vl rn 1 (List.map encInt y3)), (9, .vl rn 1 (List.map encInt y4))]) (H0 := []) rfl (⟨_, _, rfl, rfl, ⟨_, _, rfl, rfl, ⟨_, _, rfl, rfl, rfl⟩⟩⟩) (rfl) rfl ?_
   refine V.loopE (D := Nat × (Int) × (Unit)) (fun ⟨n0, n_0, _⟩ => [(10, .int .i64 n_0)]) (fun ⟨n0, n_0, _⟩ => []) (fun ⟨n0, n_0, _⟩ => loopO (M.impl_SharedPath_l0 y3 y4) n0 n_0 = some e0) (fun ⟨n0, _, _⟩ => n0) (rounds, (0 : Int), ()) rfl he1 ?_
   rintro ⟨n0, n_0, _⟩ hP0
   obtain ⟨m0, y5, rfl, hm1, hl1, hr1⟩ := loop_head hP0
   unfold M.impl_SharedPath_l0 at hm1; dsimp only at hm1
   show V _ _ _ ⟨58, [(10, .int .i64 n_0), (8, .vl rn 1 (List.map encInt y3)), (9, .vl rn 1 (List.map encInt y4))], []⟩
   refine V.seq ?_
   refine V.seq ?_
   replace hm1 := asrt_some hm1; rcases hm1 with ⟨hh5, hm1⟩
   replace hm1 := asrt_some hm1; rcases hm1 with ⟨hh6, hm1⟩
   refine V.regionM 58 21 [⟨[(10, none)], [], none⟩, ⟨[(8, none)], [], none⟩, ⟨[(33, some 0)], [], none⟩, ⟨[(32, some 2), (34, some 0)], [], none⟩, ⟨[(35, some 0)], [], none⟩, ⟨[(10, none)], [(0, true)], none⟩, ⟨[(9, none)], [(1, true)], none⟩, ⟨[(38, some 0)], [(2, true)], none⟩, ⟨[(37, some 2), (39, some 0)], [(3, true)], none⟩, ⟨[], [], some (true, 36, 40, 4, 0)⟩, ⟨[(41, some 0)], [], none⟩, ⟨[(8, none)], [(0, true)], none⟩, ⟨[(10, none)], [(1, true)], none⟩, ⟨[(43, some 1), (44, some 0)], [(2, true)], none⟩, ⟨[(45, some 0)], [(3, true)], none⟩, ⟨[(9, none)], [(4, true)], none⟩, ⟨[(10, none)], [(5, true)], none⟩, ⟨[(47, some 1), (48, some 0)], [(6, true)], none⟩, ⟨[(49, some 0)], [(7, true)], none⟩, ⟨[(46, some 4), (50, some 0)], [(8, true)], none⟩, ⟨[], [], some (true, 42, 51, 9, 0)⟩] [(8, none), (9, none), (10, none), (52, some 0)] (⟨_, rfl, ⟨_, rfl, ⟨_, rfl, ⟨_, rfl, ⟨_, rfl, ⟨_, rfl, ⟨_, rfl, ⟨_, rfl, ⟨_, rfl, ⟨_, rfl, ⟨_, rfl, ⟨_, rfl, ⟨_, rfl, ⟨_, rfl, ⟨_, rfl, ⟨_, rfl, ⟨_, rfl, ⟨_, rfl, ⟨_, rfl, ⟨_, rfl, ⟨_, rfl, ⟨rfl, rfl⟩⟩⟩⟩⟩⟩⟩⟩⟩⟩⟩⟩⟩⟩⟩⟩⟩⟩⟩⟩⟩⟩) mixed_orders rfl (by decide +kernel) (fun hck5 => ?_)
   refine VP.step (p := ?pv153) rfl rfl rfl (⟨_, _, rfl, rfl, rfl⟩) ?hv153 ?rest153 hck5
   case hv153 =>
    intro E1
    refine (V1.move rfl rfl rfl (ltb rfl) ?_)
    exact rfl
   refine VP.step (p := ?pv154) rfl rfl rfl (⟨_, _, rfl, rfl, rfl⟩) ?hv154 ?rest154 hck5
   case hv154 =>
    intro E1
    refine (V1.move rfl rfl rfl (ltb rfl) ?_)
    exact rfl
   refine VP.step (p := ?pv155) rfl rfl rfl (⟨_, _, rfl, rfl, rfl⟩) ?hv155 ?rest155 hck5
   case hv155 =>
    intro E1
    refine (V1.lenMap rfl rfl rfl rfl rfl rfl isl_31 (ltb rfl) ?_)
    exact rfl
   refine VP.step (p := ?pv156) rfl rfl rfl (⟨_, _, rfl, rfl, ⟨_, _, rfl, rfl, rfl⟩⟩) ?hv156 ?rest156 hck5
   case hv156 =>
    intro E1
    refine (V1.int rfl rfl rfl rfl rfl (ltb rfl) ?_)
    exact rfl
   refine VP.step (p := ?pv157) rfl rfl rfl (⟨_, _, rfl, rfl, rfl⟩) ?hv157 ?rest157 hck5
   case hv157 =>
    intro E1
    refine (V1.move rfl rfl rfl (ltb rfl) ?_)
    exact rfl
   refine VP.step (p := ?pv158) rfl rfl rfl (⟨_, _, rfl, rfl, rfl⟩) ?hv158 ?rest158 hck5
   case hv158 =>
    refine ⟨_, rfl, fun hg2 => ?_⟩
    intro E1
    refine (V1.move rfl rfl rfl (ltb rfl) ?_)
    exact rfl
   refine VP.step (p := ?pv159) rfl rfl rfl (⟨_, _, rfl, rfl, rfl⟩) ?hv159 ?rest159 hck5
   case hv159 =>
    refine ⟨_, rfl, fun hg2 => ?_⟩
    intro E1
    refine (V1.move rfl rfl rfl (ltb rfl) ?_)
    exact rfl
   refine VP.step (p := ?pv160) rfl rfl rfl (⟨_, _, rfl, rfl, rfl⟩) ?hv160 ?rest160 hck5
   case hv160 =>
    refine ⟨_, rfl, fun hg2 => ?_⟩
    intro E1
    refine (V1.lenMap rfl rfl rfl rfl rfl rfl isl_31 (ltb rfl) ?_)
    exact rfl
   refine VP.step (p := ?pv161) rfl rfl rfl (⟨_, _, rfl, rfl, ⟨_, _, rfl, rfl, rfl⟩⟩) ?hv161 ?rest161 hck5
   case hv161 =>
    refine ⟨_, rfl, fun hg2 => ?_⟩
    intro E1
    refine (V1.int rfl rfl rfl rfl rfl (ltb rfl) ?_)
    exact rfl
   refine VP.pickAnd rfl rfl rfl rfl rfl rfl (trivial) ?_ hck5
   refine VP.step (p := ?pv162) rfl rfl rfl (⟨_, _, rfl, rfl, rfl⟩) ?hv162 ?rest162 hck5
   case hv162 =>
    intro E1
    refine (V1.move rfl rfl rfl (ltb rfl) ?_)
    exact rfl
   refine VP.step (p := ?pv163) rfl rfl rfl (⟨_, _, rfl, rfl, rfl⟩) ?hv163 ?rest163 hck5
   case hv163 =>
    refine ⟨_, rfl, fun hg3 => ?_⟩
    intro E1
    refine (V1.move rfl rfl rfl (ltb rfl) ?_)
    exact rfl
   refine VP.step (p := ?pv164) rfl rfl rfl (⟨_, _, rfl, rfl, rfl⟩) ?hv164 ?rest164 hck5
   case hv164 =>
    refine ⟨_, rfl, fun hg3 => ?_⟩
    intro E1
    refine (V1.move rfl rfl rfl (ltb rfl) ?_)
    exact rfl
   refine VP.step (p := ?pv165) rfl rfl rfl (⟨_, _, rfl, rfl, ⟨_, _, rfl, rfl, rfl⟩⟩) ?hv165 ?rest165 hck5
   case hv165 =>
    refine ⟨_, rfl, fun hg3 => ?_⟩
    intro E1
    refine (V1.indexI rfl rfl esz_31 rfl rfl (hh5 hg3) (ltb rfl) ?_)
    exact rfl
   refine VP.step (p := ?pv166) rfl rfl rfl (⟨_, _, rfl, rfl, rfl⟩) ?hv166 ?rest166 hck5
   case hv166 =>
    refine ⟨_, rfl, fun hg3 => ?_⟩
    intro E1
    refine (V1.loadPin rfl rfl tyk_3 rfl rfl (ltb rfl) ?_)
    exact rfl
   refine VP.step (p := ?pv167) rfl rfl rfl (⟨_, _, rfl, rfl, rfl⟩) ?hv167 ?rest167 hck5
   case hv167 =>
    refine ⟨_, rfl, fun hg3 => ?_⟩
    intro E1
    refine (V1.move rfl rfl rfl (ltb rfl) ?_)
    exact rfl
   refine VP.step (p := ?pv168) rfl rfl rfl (⟨_, _, rfl, rfl, rfl⟩) ?hv168 ?rest168 hck5
   case hv168 =>
    refine ⟨_, rfl, fun hg3 => ?_⟩
    intro E1
    refine (V1.move rfl rfl rfl (ltb rfl) ?_)
    exact rfl
   refine VP.step (p := ?pv169) rfl rfl rfl (⟨_, _, rfl, rfl, ⟨_, _, rfl, rfl, rfl⟩⟩) ?hv169 ?rest169 hck5
   case hv169 =>
    refine ⟨_, rfl, fun hg3 => ?_⟩
    intro E1
    refine (V1.indexI rfl rfl esz_31 rfl rfl (hh6 hg3) (ltb rfl) ?_)
    exact rfl
   refine VP.step (p := ?pv170) rfl rfl rfl (⟨_, _, rfl, rfl, rfl⟩) ?hv170 ?rest170 hck5
   case hv170 =>
    refine ⟨_, rfl, fun hg3 => ?_⟩
    intro E1
    refine (V1.loadPin rfl rfl tyk_3 rfl rfl (ltb rfl) ?_)
    exact rfl
   refine VP.step (p := ?pv171) rfl rfl rfl (⟨_, _, rfl, rfl, ⟨_, _, rfl, rfl, rfl⟩⟩) ?hv171 ?rest171 hck5
   case hv171 =>
    refine ⟨_, rfl, fun hg3 => ?_⟩
    intro E1
    refine (V1.int rfl rfl rfl rfl rfl (ltb rfl) ?_)
    exact rfl
   refine VP.pickAnd rfl rfl rfl rfl rfl rfl (trivial) ?_ hck5
   refine VP.fin rfl (⟨_, _, rfl, rfl, ⟨_, _, rfl, rfl, ⟨_, _, rfl, rfl, ⟨_, _, rfl, rfl, rfl⟩⟩⟩⟩) ?_
   refine VO.nil ?_
   refine V.cond rfl (fun hc1 => ?_) (fun hc1 => ?_)
   ·
    replace hm1 := cond_t hc1 hm1
    refine V.skip ?_
    refine V.block ?_
    refine V.region ?_
    refine VO.cons rfl (V1.move rfl rfl rfl (ltb rfl) ?_)
    refine VO.cons rfl (V1.int rfl rfl rfl rfl rfl (ltb rfl) ?_)
    refine VO.cons rfl (V1.assign rfl rfl rfl (ltb rfl) ?_)
    refine VO.nil ?_
    exact ⟨(m0, (IntKind.i64.wrap (n_0 + (1 : Int))), ()), hl1 _ (Option.some.inj hm1).symm, Nat.lt_succ_self _, Keeps.mk (ks := []) rfl ⟨rfl, rfl, rfl, trivial⟩ (rfl) rfl⟩
   ·
    replace hm1 := cond_f hc1 hm1
    refine V.exit ?_
    obtain rfl := hr1 _ (Option.some.inj hm1).symm
    exact ⟨(n_0, ()), rfl, Keeps.mk (ks := []) rfl ⟨rfl, rfl, trivial⟩ (rfl) rfl⟩
  ·
   rintro ⟨n_, _⟩ rfl
   try dsimp only at hm0
   refine V.seq ?_
   replace hm0 := asrt_some hm0; rcases hm0 with ⟨hh7, hm0⟩
   refine V.region ?_
   refine VO.cons rfl (V1.move rfl rfl rfl (ltb rfl) ?_)
   refine VO.cons rfl (V1.move rfl rfl rfl (ltb rfl) ?_)
   refine VO.cons rfl (V1.sliceMap (a := (0 : Int)) (b := n_) rfl rfl esz_31 rfl (Bnd.none _ _) (Bnd.some rfl (Int.le_trans hh7.1 hh7.2.1) _) hh7 (ltb rfl) ?_)
   refine VO.cons rfl (V1.assign rfl rfl rfl (ltb rfl) ?_)
   refine VO.cons rfl (V1.assign rfl rfl rfl (ltb rfl) ?_)
   refine VO.nil ?_
   refine V.ret ?_
   obtain rfl := Option.some.inj hm0
   exact ⟨_, [], ⟨_, _, rfl, rfl, ⟨_, _, rfl, rfl, rfl⟩⟩, List.nil_sublist _, rfl, rfl⟩

theorem ok_spec_SharedPath {ρ0 rn : Nat} {tree : List Function} {a : Int} {b_ : Int} {r : List Int × Bool} (h : M.spec_SharedPath tree a b_ = some r) : Does Tryd.prog 17 [.vl ρ0 3 (List.map encFunction tree), .int .i64 a, .int .i64 b_] [] rn (fun x H => ∃ (ob0_ : Nat), x = .tup [PV.sref ob0_ 1 0 (List.length r.1), .bool r.2] ∧ H = [(ob0_, ⟨1, List.map encInt r.1⟩)]) := by
 have hm0 := h; clear h; unfold M.spec_SharedPath at hm0
 try dsimp only at hm0
 refine Does.intro (N := 66) Tryd.func17 rfl rfl rfl rfl ?_
 intro w0 S0
 refine V.seq ?_
 refine V.region ?_
 refine VO.cons rfl (V1.assign rfl rfl rfl (ltb rfl) ?_)
 refine VO.cons rfl (V1.assign rfl rfl rfl (ltb rfl) ?_)
 refine VO.nil ?_
 refine V.seq ?_
 refine V.region ?_
 refine VO.cons rfl (V1.buildSliceT (f := encInt) ([] : List Int) rfl rfl esz_31 zk_3 rfl rfl rfl rfl rfl rfl rfl (ltb rfl) ?_)
 intro b0
 refine VO.cons rfl (V1.assign rfl rfl rfl (ltb rfl) ?_)
 refine VO.nil ?_
 refine V.seq ?_
 refine V.seq ?_
 replace hm0 := bindO hm0; rcases hm0 with ⟨y0, hh0, hm0⟩
 replace hm0 := bindO hm0; rcases hm0 with ⟨y1, hh1, hm0⟩
 replace hm0 := bindO hm0; rcases hm0 with ⟨y2, hh2, hm0⟩
 refine V.region ?_
 refine VO.cons rfl (V1.move rfl rfl rfl (ltb rfl) ?_)
 refine VO.cons rfl (V1.call rfl rfl rfl cok_42 rfl (ok_spec_l3Good hh0) rfl (ltb rfl) ?_)
 rintro _ _ ⟨rfl, rfl⟩
 refine VO.cons rfl (V1.not rfl rfl rfl (ltb rfl) ?_)
 refine VO.cons rfl (V1.move rfl rfl rfl (ltb rfl) ?_)
 apply VO.or (n := 4) rfl rfl rfl rfl rfl rfl (ltb rfl) (.none rfl)
 ·
  intro hg0
  refine VO.step (.some rfl rfl rfl) (V1.move rfl rfl rfl (ltb rfl) ?_)
  refine VO.step (.some rfl rfl rfl) (V1.move rfl rfl rfl (ltb rfl) ?_)
  refine VO.step (.some rfl rfl rfl) (V1.call rfl rfl rfl cok_43 rfl (ok_spec_l3Find (cond_f hg0 hh1)) rfl (ltb rfl) ?_)
  rintro _ _ ⟨rfl, rfl⟩
  refine VO.step (.some rfl rfl rfl) (V1.int rfl rfl rfl rfl rfl (ltb rfl) ?_)
  exact VO.nil ⟨rfl, rfl, rfl, rfl, .inr ⟨rfl, .inr ⟨rfl, .inr ⟨rfl, .inr ⟨rfl, .inr ⟨rfl, .inl rfl⟩⟩⟩⟩⟩⟩
 refine VO.cons rfl (V1.move rfl rfl rfl (ltb rfl) ?_)
 apply VO.or (n := 4) rfl rfl rfl rfl rfl rfl (ltb rfl) (.none rfl)
 ·
  intro hg1
  refine VO.step (.some rfl rfl rfl) (V1.move rfl rfl rfl (ltb rfl) ?_)
  refine VO.step (.some rfl rfl rfl) (V1.move rfl rfl rfl (ltb rfl) ?_)
  refine VO.step (.some rfl rfl rfl) (V1.call rfl rfl rfl cok_43 rfl (ok_spec_l3Find (cond_f hg1 hh2)) rfl (ltb rfl) ?_)
  rintro _ _ ⟨rfl, rfl⟩
  refine VO.step (.some rfl rfl rfl) (V1.int rfl rfl rfl rfl rfl (ltb rfl) ?_)
  exact VO.nil ⟨rfl, rfl, rfl, rfl, .inr ⟨rfl, .inr ⟨rfl, .inr ⟨rfl, .inr ⟨rfl, .inr ⟨rfl, .inl rfl⟩⟩⟩⟩⟩⟩
 refine VO.nil ?_
 refine V.keep 66 [0, 1, 2, 8, 27] [0] (E0 := [(0, .vl ρ0 3 (List.map encFunction tree)), (1, .int .i64 a), (2, .int .i64 b_), (8, .sref b0 1 0 (List.length ([] : List Int))), (27, .bool (((!y0) || (decide (y1 < (0 : Int)))) || (decide (y2 < (0 : Int)))))]) (H0 := [(b0, ⟨1, List.map encInt ([] : List Int)⟩)]) rfl (⟨_, _, rfl, rfl, ⟨_, _, rfl, rfl, ⟨_, _, rfl, rfl, ⟨_, _, rfl, rfl, ⟨_, _, rfl, rfl, rfl⟩⟩⟩⟩⟩) (⟨_, _, rfl, rfl, rfl⟩) rfl ?_
 refine V.cond rfl (fun hc0 => ?_) (fun hc0 => ?_)
 ·
  replace hm0 := cond_t hc0 hm0
  refine V.seq ?_
  refine V.region ?_
  refine VO.cons rfl (V1.move rfl rfl rfl (ltb rfl) ?_)
  refine VO.cons rfl (V1.assign rfl rfl rfl (ltb rfl) ?_)
  refine VO.cons rfl (V1.assign rfl rfl rfl (ltb rfl) ?_)
  refine VO.nil ?_
  refine V.keep 66 [6, 7] [0] (E0 := [(6, .sref b0 1 0 (List.length ([] : List Int))), (7, .bool false)]) (H0 := [(b0, ⟨1, List.map encInt ([] : List Int)⟩)]) rfl (⟨_, _, rfl, rfl, ⟨_, _, rfl, rfl, rfl⟩⟩) (⟨_, _, rfl, rfl, rfl⟩) rfl ?_
  refine V.ret ?_
  obtain rfl := Option.some.inj hm0
  exact ⟨_, _, ⟨_, _, rfl, rfl, ⟨_, _, rfl, rfl, rfl⟩⟩, List.Sublist.refl _, b0, rfl, rfl⟩
 ·
  replace hm0 := cond_f hc0 hm0
  refine V.skip ?_
  refine V.seq ?_
  replace hm0 := bindO hm0; rcases hm0 with ⟨y3, hh3, hm0⟩
  replace hm0 := bindO hm0; rcases hm0 with ⟨y4, hh4, hm0⟩
  refine V.region ?_
  refine VO.cons rfl (V1.move rfl rfl rfl (ltb rfl) ?_)
  refine VO.cons rfl (V1.move rfl rfl rfl (ltb rfl) ?_)
  refine VO.cons rfl (V1.call rfl rfl rfl cok_48 rfl (ok_spec_l3Path hh3) rfl (ltb rfl) ?_)
  rintro _ _ ⟨b1, rfl, rfl⟩
  refine VO.weakenK (Keeps.freezeG 0 rn [(31, .vl rn 1 (List.map encInt y3))] [(b0, ⟨1, List.map encInt ([] : List Int)⟩)] (f := encInt) (l := y3) rfl (fun _ => rfl) ⟨⟨_, rfl, .here⟩, trivial⟩ ⟨_, _, rfl, rfl, .inl rfl, rfl⟩ rfl iNil) ?_
  refine VO.cons rfl (V1.move rfl rfl rfl (ltb rfl) ?_)
  refine VO.cons rfl (V1.move rfl rfl rfl (ltb rfl) ?_)
  refine VO.cons rfl (V1.call rfl rfl rfl cok_48 rfl (ok_spec_l3Path hh4) rfl (ltb rfl) ?_)
  rintro _ _ ⟨b2, rfl, rfl⟩
  refine VO.weakenK (Keeps.freezeG 0 rn [(34, .vl rn 1 (List.map encInt y4))] [(b0, ⟨1, List.map encInt ([] : List Int)⟩)] (f := encInt) (l := y4) rfl (fun _ => rfl) ⟨⟨_, rfl, .here⟩, trivial⟩ ⟨_, _, rfl, rfl, .inl rfl, rfl⟩ rfl iNil) ?_
  refine VO.cons rfl (V1.assign rfl rfl rfl (ltb rfl) ?_)
  refine VO.cons rfl (V1.assign rfl rfl rfl (ltb rfl) ?_)
  refine VO.nil ?_
  refine V.keep 66 [8, 9, 10] [0] (E0 := [(8, .sref b0 1 0 (List.length ([] : List Int))), (9, .vl rn 1 (List.map encInt y3)), (10, .vl rn 1 (List.map encInt y4))]) (H0 := [(b0, ⟨1, List.map encInt ([] : List Int)⟩)]) rfl (⟨_, _, rfl, rfl, ⟨_, _, rfl, rfl, ⟨_, _, rfl, rfl, rfl⟩⟩⟩) (⟨_, _, rfl, rfl, rfl⟩) rfl ?_
  refine V.seq ?_
  refine V.seq ?_
  refine V.region ?_
  refine VO.cons rfl (V1.assign rfl rfl rfl (ltb rfl) ?_)
  refine VO.nil ?_
  replace hm0 := bindO hm0; rcases hm0 with ⟨e0, he1, hm0⟩
  refine V.cutT (D := (List Int) × (Nat)) (fun ⟨out_, b3⟩ => ⟨66, [(8, .sref b3 1 0 (List.length out_))], [(b3, ⟨1, List.map encInt out_⟩)]⟩) (fun ⟨out_, b3⟩ => (out_ = e0)) ?_ ?_
  ·
   refine V.block ?_
   refine V.keep 66 [8, 11, 9, 10] [0] (E0 := [(8, .sref b0 1 0 (List.length ([] : List Int))), (11, .int .i64 (0 : Int)), (9, .vl rn 1 (List.map encInt y3)), (10, .vl rn 1 (List.map encInt y4))]) (H0 := [(b0, ⟨1, List.map encInt ([] : List Int)⟩)]) rfl (⟨_, _, rfl, rfl, ⟨_, _, rfl, rfl, ⟨_, _, rfl, rfl, ⟨_, _, rfl, rfl, rfl⟩⟩⟩⟩) (⟨_, _, rfl, rfl, rfl⟩) rfl ?_
   refine V.loopE (D := Nat × (List Int × Int) × (Nat)) (fun ⟨n0, ⟨out_0, i⟩, b4⟩ => [(8, .sref b4 1 0 (List.length out_0)), (11, .int .i64 i)]) (fun ⟨n0, ⟨out_0, i⟩, b4⟩ => [(b4, ⟨1, List.map encInt out_0⟩)]) (fun ⟨n0, ⟨out_0, i⟩, b4⟩ => loopO (M.spec_SharedPath_l0 y3 y4) n0 (out_0, i) = some e0) (fun ⟨n0, _, _⟩ => n0) (rounds, (([] : List Int), (0 : Int)), b0) rfl he1 ?_
   rintro ⟨n0, ⟨out_0, i⟩, b4⟩ hP0
   obtain ⟨m0, y5, rfl, hm1, hl1, hr1⟩ := loop_head hP0
   unfold M.spec_SharedPath_l0 at hm1; dsimp only at hm1
   show V _ _ _ ⟨66, [(8, .sref b4 1 0 (List.length out_0)), (11, .int .i64 i), (9, .vl rn 1 (List.map encInt y3)), (10, .vl rn 1 (List.map encInt y4))], [(b4, ⟨1, List.map encInt out_0⟩)]⟩
   refine V.seq ?_
   refine V.seq ?_
   replace hm1 := asrt_some hm1; rcases hm1 with ⟨hh5, hm1⟩
   replace hm1 := asrt_some hm1; rcases hm1 with ⟨hh6, hm1⟩
   refine V.regionM 66 21 [⟨[(11, none)], [], none⟩, ⟨[(9, none)], [], none⟩, ⟨[(36, some 0)], [], none⟩, ⟨[(35, some 2), (37, some 0)], [], none⟩, ⟨[(38, some 0)], [], none⟩, ⟨[(11, none)], [(0, true)], none⟩, ⟨[(10, none)], [(1, true)], none⟩, ⟨[(41, some 0)], [(2, true)], none⟩, ⟨[(40, some 2), (42, some 0)], [(3, true)], none⟩, ⟨[], [], some (true, 39, 43, 4, 0)⟩, ⟨[(44, some 0)], [], none⟩, ⟨[(9, none)], [(0, true)], none⟩, ⟨[(11, none)], [(1, true)], none⟩, ⟨[(46, some 1), (47, some 0)], [(2, true)], none⟩, ⟨[(48, some 0)], [(3, true)], none⟩, ⟨[(10, none)], [(4, true)], none⟩, ⟨[(11, none)], [(5, true)], none⟩, ⟨[(50, some 1), (51, some 0)], [(6, true)], none⟩, ⟨[(52, some 0)], [(7, true)], none⟩, ⟨[(49, some 4), (53, some 0)], [(8, true)], none⟩, ⟨[], [], some (true, 45, 54, 9, 0)⟩] [(8, none), (9, none), (10, none), (11, none), (55, some 0)] (⟨_, rfl, ⟨_, rfl, ⟨_, rfl, ⟨_, rfl, ⟨_, rfl, ⟨_, rfl, ⟨_, rfl, ⟨_, rfl, ⟨_, rfl, ⟨_, rfl, ⟨_, rfl, ⟨_, rfl, ⟨_, rfl, ⟨_, rfl, ⟨_, rfl, ⟨_, rfl, ⟨_, rfl, ⟨_, rfl, ⟨_, rfl, ⟨_, rfl, ⟨_, rfl, ⟨rfl, rfl⟩⟩⟩⟩⟩⟩⟩⟩⟩⟩⟩⟩⟩⟩⟩⟩⟩⟩⟩⟩⟩⟩) mixed_orders rfl (by decide +kernel) (fun hck6 => ?_)
   refine VP.step (p := ?pv153) rfl rfl rfl (⟨_, _, rfl, rfl, rfl⟩) ?hv153 ?rest153 hck6
   case hv153 =>
    intro E1
    refine (V1.move rfl rfl rfl (ltb rfl) ?_)
    exact rfl
   refine VP.step (p := ?pv154) rfl rfl rfl (⟨_, _, rfl, rfl, rfl⟩) ?hv154 ?rest154 hck6
   case hv154 =>
    intro E1
    refine (V1.move rfl rfl rfl (ltb rfl) ?_)
    exact rfl
   refine VP.step (p := ?pv155) rfl rfl rfl (⟨_, _, rfl, rfl, rfl⟩) ?hv155 ?rest155 hck6
   case hv155 =>
    intro E1
    refine (V1.lenMap rfl rfl rfl rfl rfl rfl isl_31 (ltb rfl) ?_)
    exact rfl
   refine VP.step (p := ?pv156) rfl rfl rfl (⟨_, _, rfl, rfl, ⟨_, _, rfl, rfl, rfl⟩⟩) ?hv156 ?rest156 hck6
   case hv156 =>
    intro E1
    refine (V1.int rfl rfl rfl rfl rfl (ltb rfl) ?_)
    exact rfl
   refine VP.step (p := ?pv157) rfl rfl rfl (⟨_, _, rfl, rfl, rfl⟩) ?hv157 ?rest157 hck6
   case hv157 =>
    intro E1
    refine (V1.move rfl rfl rfl (ltb rfl) ?_)
    exact rfl
   refine VP.step (p := ?pv158) rfl rfl rfl (⟨_, _, rfl, rfl, rfl⟩) ?hv158 ?rest158 hck6
   case hv158 =>
    refine ⟨_, rfl, fun hg2 => ?_⟩
    intro E1
    refine (V1.move rfl rfl rfl (ltb rfl) ?_)
    exact rfl
   refine VP.step (p := ?pv159) rfl rfl rfl (⟨_, _, rfl, rfl, rfl⟩) ?hv159 ?rest159 hck6
   case hv159 =>
    refine ⟨_, rfl, fun hg2 => ?_⟩
    intro E1
    refine (V1.move rfl rfl rfl (ltb rfl) ?_)
    exact rfl
   refine VP.step (p := ?pv160) rfl rfl rfl (⟨_, _, rfl, rfl, rfl⟩) ?hv160 ?rest160 hck6
   case hv160 =>
    refine ⟨_, rfl, fun hg2 => ?_⟩
    intro E1
    refine (V1.lenMap rfl rfl rfl rfl rfl rfl isl_31 (ltb rfl) ?_)
    exact rfl
   refine VP.step (p := ?pv161) rfl rfl rfl (⟨_, _, rfl, rfl, ⟨_, _, rfl, rfl, rfl⟩⟩) ?hv161 ?rest161 hck6
   case hv161 =>
    refine ⟨_, rfl, fun hg2 => ?_⟩
    intro E1
    refine (V1.int rfl rfl rfl rfl rfl (ltb rfl) ?_)
    exact rfl
   refine VP.pickAnd rfl rfl rfl rfl rfl rfl (trivial) ?_ hck6
   refine VP.step (p := ?pv162) rfl rfl rfl (⟨_, _, rfl, rfl, rfl⟩) ?hv162 ?rest162 hck6
   case hv162 =>
    intro E1
    refine (V1.move rfl rfl rfl (ltb rfl) ?_)
    exact rfl
   refine VP.step (p := ?pv163) rfl rfl rfl (⟨_, _, rfl, rfl, rfl⟩) ?hv163 ?rest163 hck6
   case hv163 =>
    refine ⟨_, rfl, fun hg3 => ?_⟩
    intro E1
    refine (V1.move rfl rfl rfl (ltb rfl) ?_)
    exact rfl
   refine VP.step (p := ?pv164) rfl rfl rfl (⟨_, _, rfl, rfl, rfl⟩) ?hv164 ?rest164 hck6
   case hv164 =>
    refine ⟨_, rfl, fun hg3 => ?_⟩
    intro E1
    refine (V1.move rfl rfl rfl (ltb rfl) ?_)
    exact rfl
   refine VP.step (p := ?pv165) rfl rfl rfl (⟨_, _, rfl, rfl, ⟨_, _, rfl, rfl, rfl⟩⟩) ?hv165 ?rest165 hck6
   case hv165 =>
    refine ⟨_, rfl, fun hg3 => ?_⟩
    intro E1
    refine (V1.indexI rfl rfl esz_31 rfl rfl (hh5 hg3) (ltb rfl) ?_)
    exact rfl
   refine VP.step (p := ?pv166) rfl rfl rfl (⟨_, _, rfl, rfl, rfl⟩) ?hv166 ?rest166 hck6
   case hv166 =>
    refine ⟨_, rfl, fun hg3 => ?_⟩
    intro E1
    refine (V1.loadPin rfl rfl tyk_3 rfl rfl (ltb rfl) ?_)
    exact rfl
   refine VP.step (p := ?pv167) rfl rfl rfl (⟨_, _, rfl, rfl, rfl⟩) ?hv167 ?rest167 hck6
   case hv167 =>
    refine ⟨_, rfl, fun hg3 => ?_⟩
    intro E1
    refine (V1.move rfl rfl rfl (ltb rfl) ?_)
    exact rfl
   refine VP.step (p := ?pv168) rfl rfl rfl (⟨_, _, rfl, rfl, rfl⟩) ?hv168 ?rest168 hck6
   case hv168 =>
    refine ⟨_, rfl, fun hg3 => ?_⟩
    intro E1
    refine (V1.move rfl rfl rfl (ltb rfl) ?_)
    exact rfl
   refine VP.step (p := ?pv169) rfl rfl rfl (⟨_, _, rfl, rfl, ⟨_, _, rfl, rfl, rfl⟩⟩) ?hv169 ?rest169 hck6
   case hv169 =>
    refine ⟨_, rfl, fun hg3 => ?_⟩
    intro E1
    refine (V1.indexI rfl rfl esz_31 rfl rfl (hh6 hg3) (ltb rfl) ?_)
    exact rfl
   refine VP.step (p := ?pv170) rfl rfl rfl (⟨_, _, rfl, rfl, rfl⟩) ?hv170 ?rest170 hck6
   case hv170 =>
    refine ⟨_, rfl, fun hg3 => ?_⟩
    intro E1
    refine (V1.loadPin rfl rfl tyk_3 rfl rfl (ltb rfl) ?_)
    exact rfl
   refine VP.step (p := ?pv171) rfl rfl rfl (⟨_, _, rfl, rfl, ⟨_, _, rfl, rfl, rfl⟩⟩) ?hv171 ?rest171 hck6
   case hv171 =>
    refine ⟨_, rfl, fun hg3 => ?_⟩
    intro E1
    refine (V1.int rfl rfl rfl rfl rfl (ltb rfl) ?_)
    exact rfl
   refine VP.pickAnd rfl rfl rfl rfl rfl rfl (trivial) ?_ hck6
   refine VP.fin rfl (⟨_, _, rfl, rfl, ⟨_, _, rfl, rfl, ⟨_, _, rfl, rfl, ⟨_, _, rfl, rfl, ⟨_, _, rfl, rfl, rfl⟩⟩⟩⟩⟩) ?_
   refine VO.nil ?_
   refine V.cond rfl (fun hc1 => ?_) (fun hc1 => ?_)
   ·
    replace hm1 := cond_t hc1 hm1
    refine V.skip ?_
    refine V.seq ?_
    refine V.block ?_
    replace hm1 := asrt_some hm1; rcases hm1 with ⟨hh7, hm1⟩
    replace hm1 := asrt_some hm1; rcases hm1 with ⟨hh8, hm1⟩
    refine V.region ?_
    refine VO.cons rfl (V1.move rfl rfl rfl (ltb rfl) ?_)
    refine VO.cons rfl (V1.move rfl rfl rfl (ltb rfl) ?_)
    refine VO.cons rfl (V1.move rfl rfl rfl (ltb rfl) ?_)
    refine VO.cons rfl (V1.indexI rfl rfl esz_31 rfl rfl hh7 (ltb rfl) ?_)
    refine VO.cons rfl (V1.loadPin rfl rfl tyk_3 rfl rfl (ltb rfl) ?_)
    refine VO.cons rfl (V1.buildSliceT (f := encInt) ([(y3.getD (Int.toNat i) default)] : List Int) rfl rfl esz_31 zk_3 rfl rfl rfl rfl rfl rfl rfl (ltb rfl) ?_)
    intro b5
    refine VO.cons rfl (V1.appendMap (k := 1) (f := encInt) (l := out_0) (m := ([(y3.getD (Int.toNat i) default)] : List Int)) rfl rfl rfl rfl rfl esz_31 eby_31 zk_3 rfl rfl rfl (SrcOf.srMap (k := 0) rfl isl_31) hh8 (ltb rfl) ?_)
    intro b6
    refine VO.cons rfl (V1.assign rfl rfl rfl (ltb rfl) ?_)
    refine VO.nil ?_
    refine V.keep 66 [8, 9, 10, 11] [0] (E0 := [(8, .sref b6 1 0 (List.length (out_0 ++ ([(y3.getD (Int.toNat i) default)] : List Int)))), (9, .vl rn 1 (List.map encInt y3)), (10, .vl rn 1 (List.map encInt y4)), (11, .int .i64 i)]) (H0 := [(b6, ⟨1, List.map encInt (out_0 ++ ([(y3.getD (Int.toNat i) default)] : List Int))⟩)]) rfl (⟨_, _, rfl, rfl, ⟨_, _, rfl, rfl, ⟨_, _, rfl, rfl, ⟨_, _, rfl, rfl, rfl⟩⟩⟩⟩) (⟨_, _, rfl, rfl, rfl⟩) rfl ?_
    refine V.region ?_
    refine VO.cons rfl (V1.move rfl rfl rfl (ltb rfl) ?_)
    refine VO.cons rfl (V1.int rfl rfl rfl rfl rfl (ltb rfl) ?_)
    refine VO.cons rfl (V1.assign rfl rfl rfl (ltb rfl) ?_)
    refine VO.nil ?_
    exact ⟨(m0, ((out_0 ++ ([(y3.getD (Int.toNat i) default)] : List Int)), (IntKind.i64.wrap (i + (1 : Int)))), b6), hl1 _ (Option.some.inj hm1).symm, Nat.lt_succ_self _, Keeps.mk (ks := [0]) rfl ⟨rfl, rfl, rfl, rfl, trivial⟩ (⟨_, _, rfl, rfl, rfl⟩) rfl⟩
   ·
    replace hm1 := cond_f hc1 hm1
    refine V.exit ?_
    obtain rfl := hr1 _ (Option.some.inj hm1).symm
    exact ⟨(out_0, b4), rfl, Keeps.mk (ks := [0]) rfl ⟨rfl, trivial⟩ (⟨_, _, rfl, rfl, rfl⟩) rfl⟩
  ·
   rintro ⟨out_, b3⟩ rfl
   try dsimp only at hm0
   refine V.seq ?_
   refine V.region ?_
   refine VO.cons rfl (V1.move rfl rfl rfl (ltb rfl) ?_)
   refine VO.cons rfl (V1.assign rfl rfl rfl (ltb rfl) ?_)
   refine VO.cons rfl (V1.assign rfl rfl rfl (ltb rfl) ?_)
   refine VO.nil ?_
   refine V.keep 66 [6, 7] [0] (E0 := [(6, .sref b3 1 0 (List.length out_)), (7, .bool true)]) (H0 := [(b3, ⟨1, List.map encInt out_⟩)]) rfl (⟨_, _, rfl, rfl, ⟨_, _, rfl, rfl, rfl⟩⟩) (⟨_, _, rfl, rfl, rfl⟩) rfl ?_
   refine V.ret ?_
   obtain rfl := Option.some.inj hm0
   exact ⟨_, _, ⟨_, _, rfl, rfl, ⟨_, _, rfl, rfl, rfl⟩⟩, List.Sublist.refl _, b3, rfl, rfl⟩

theorem ok_spec_l1Cur_spoilt {ρ0 rn bp : Nat} {c : Cur} {t : List UInt8} {with_ : List UInt8} {r : List UInt8 × Cur} (h : M.spec_l1Cur_spoilt c t with_ = some r) : Does Tryd.prog 52 [.ref bp 3 0 0, .str t, .str with_] [(bp, ⟨3, [encCur ρ0 c]⟩)] rn (fun x H => x = .str r.1 ∧ H = [(bp, ⟨3, [encCur ρ0 r.2]⟩)]) := by
 have hm0 := h; clear h; unfold M.spec_l1Cur_spoilt at hm0
 try dsimp only at hm0
 refine Does.intro (N := 57) Tryd.func52 rfl rfl rfl rfl ?_
 intro w0 S0
 refine V.seq ?_
 refine V.region ?_
 refine VO.cons rfl (V1.assign rfl rfl rfl (ltb rfl) ?_)
 refine VO.nil ?_
 refine V.seq ?_
 refine V.seq ?_
 refine V.region ?_
 refine VO.cons rfl (V1.move rfl rfl rfl (ltb rfl) ?_)
 refine VO.cons rfl (V1.str rfl rfl rfl rfl rfl (ltb rfl) ?_)
 refine VO.nil ?_
 refine V.cond rfl (fun hc0 => ?_) (fun hc0 => ?_)
 ·
  replace hm0 := cond_t hc0 hm0
  refine V.seq ?_
  replace hm0 := asrt_some hm0; rcases hm0 with ⟨hh0, hm0⟩
  refine V.region ?_
  refine VO.cons rfl (V1.move rfl rfl rfl (ltb rfl) ?_)
  refine VO.cons rfl (V1.sliceStrI (a := (0 : Int)) (b := (1 : Int)) rfl rfl istr_9 rfl (Bnd.none _ _) (Bnd.some rfl (Int.le_trans hh0.1 hh0.2.1) _) hh0 (ltb rfl) ?_)
  refine VO.cons rfl (V1.assign rfl rfl rfl (ltb rfl) ?_)
  refine VO.nil ?_
  refine V.ret ?_
  obtain rfl := Option.some.inj hm0
  exact ⟨_, _, ⟨_, _, rfl, rfl, rfl⟩, (sub1 (k := 0) rfl), rfl, rfl⟩
 ·
  replace hm0 := cond_f hc0 hm0
  refine V.skip ?_
  refine V.seq ?_
  replace hm0 := bindO hm0; rcases hm0 with ⟨y0, hh1, hm0⟩
  refine V.region ?_
  refine VO.cons rfl (V1.move rfl rfl rfl (ltb rfl) ?_)
  refine VO.cons rfl (V1.move rfl rfl rfl (ltb rfl) ?_)
  refine VO.cons rfl (V1.lenStr rfl rfl rfl rfl rfl rfl istr_9 (ltb rfl) ?_)
  refine VO.cons rfl (V1.callM 0 (rn + ρ0 + 1) [] [.ref bp 3 0 0, .int .i64 (t.length : Int)] (p := (bp, ⟨3, [encCur ρ0 c]⟩)) rfl rfl rfl cok_76 rfl rfl ⟨_, _, rfl, .same _, ⟨_, _, rfl, .same _, rfl⟩⟩ bwNil (ok_spec_l1Cur_pick hh1) rfl (.inl rfl) (ltb rfl) ?_)
  rintro _ _ ⟨rfl, rfl⟩
  refine VO.cons rfl (V1.assign rfl rfl rfl (ltb rfl) ?_)
  refine VO.nil ?_
  refine V.keep 57 [0, 1, 2, 7] [0] (E0 := [(0, .ref bp 3 0 0), (1, .str t), (2, .str with_), (7, .int .i64 y0.1)]) (H0 := [(bp, ⟨3, [encCur ρ0 y0.2]⟩)]) rfl (⟨_, _, rfl, rfl, ⟨_, _, rfl, rfl, ⟨_, _, rfl, rfl, ⟨_, _, rfl, rfl, rfl⟩⟩⟩⟩) (⟨_, _, rfl, rfl, rfl⟩) rfl ?_
  refine V.seq ?_
  replace hm0 := bindO hm0; rcases hm0 with ⟨y1, hh2, hm0⟩
  replace hm0 := asrt_some hm0; rcases hm0 with ⟨hh3, hm0⟩
  replace hm0 := asrt_some hm0; rcases hm0 with ⟨hh4, hm0⟩
  refine V.region ?_
  refine VO.cons rfl (V1.move rfl rfl rfl (ltb rfl) ?_)
  refine VO.cons rfl (V1.move rfl rfl rfl (ltb rfl) ?_)
  refine VO.cons rfl (V1.move rfl rfl rfl (ltb rfl) ?_)
  refine VO.cons rfl (V1.lenStr rfl rfl rfl rfl rfl rfl istr_9 (ltb rfl) ?_)
  refine VO.cons rfl (V1.callM 0 (rn + ρ0 + 1) [] [.ref bp 3 0 0, .int .i64 (with_.length : Int)] (p := (bp, ⟨3, [encCur ρ0 y0.2]⟩)) rfl rfl rfl cok_76 rfl rfl ⟨_, _, rfl, .same _, ⟨_, _, rfl, .same _, rfl⟩⟩ bwNil (ok_spec_l1Cur_pick hh2) rfl (.inl rfl) (ltb rfl) ?_)
  rintro _ _ ⟨rfl, rfl⟩
  refine VO.cons rfl (V1.sliceStrI (a := y1.1) (b := (with_.length : Int)) rfl rfl istr_9 rfl (Bnd.some rfl hh3.1 _) (Bnd.none _ _) hh3 (ltb rfl) ?_)
  refine VO.cons rfl (V1.sliceStrI (a := (0 : Int)) (b := (1 : Int)) rfl rfl istr_9 rfl (Bnd.none _ _) (Bnd.some rfl (Int.le_trans hh4.1 hh4.2.1) _) hh4 (ltb rfl) ?_)
  refine VO.cons rfl (V1.assign rfl rfl rfl (ltb rfl) ?_)
  refine VO.nil ?_
  refine V.keep 57 [0, 1, 7, 8] [0] (E0 := [(0, .ref bp 3 0 0), (1, .str t), (7, .int .i64 y0.1), (8, .str (slc (slc with_ y1.1 (with_.length : Int)) (0 : Int) (1 : Int)))]) (H0 := [(bp, ⟨3, [encCur ρ0 y1.2]⟩)]) rfl (⟨_, _, rfl, rfl, ⟨_, _, rfl, rfl, ⟨_, _, rfl, rfl, ⟨_, _, rfl, rfl, rfl⟩⟩⟩⟩) (⟨_, _, rfl, rfl, rfl⟩) rfl ?_
  refine V.seq ?_
  refine V.seq ?_
  replace hm0 := bindO hm0; rcases hm0 with ⟨y2, hh5, hm0⟩
  refine V.region ?_
  refine VO.cons rfl (V1.move rfl rfl rfl (ltb rfl) ?_)
  refine VO.cons rfl (V1.callM 0 (rn + ρ0 + 1) [] [.ref bp 3 0 0, .int .i64 (3 : Int)] (p := (bp, ⟨3, [encCur ρ0 y1.2]⟩)) rfl rfl rfl cok_76 rfl rfl ⟨_, _, rfl, .same _, ⟨_, _, rfl, .same _, rfl⟩⟩ bwNil (ok_spec_l1Cur_pick hh5) rfl (.inl rfl) (ltb rfl) ?_)
  rintro _ _ ⟨rfl, rfl⟩
  refine VO.nil ?_
  refine V.block ?_
  refine V.seq ?_
  refine V.region ?_
  refine VO.cons rfl (V1.int rfl rfl rfl rfl rfl (ltb rfl) ?_)
  refine VO.cons rfl (V1.assign rfl rfl rfl (ltb rfl) ?_)
  refine VO.nil ?_
  refine V.cond rfl (fun hc1 => ?_) (fun hc1 => ?_)
  ·
   replace hm0 := cond_t hc1 hm0
   refine V.seq ?_
   replace hm0 := asrt_some hm0; rcases hm0 with ⟨hh6, hm0⟩
   replace hm0 := asrt_some hm0; rcases hm0 with ⟨hh7, hm0⟩
   replace hm0 := asrt_some hm0; rcases hm0 with ⟨hh8, hm0⟩
   replace hm0 := asrt_some hm0; rcases hm0 with ⟨hh9, hm0⟩
   refine V.regionM 57 8 [⟨[(1, none)], [], none⟩, ⟨[(7, none)], [], none⟩, ⟨[(28, some 1), (29, some 0)], [], none⟩, ⟨[(8, none)], [], none⟩, ⟨[(30, some 1), (31, some 0)], [], none⟩, ⟨[(1, none)], [], none⟩, ⟨[(7, none)], [], none⟩, ⟨[(33, some 1), (34, some 0)], [], none⟩] [(32, some 3), (35, some 0)] (⟨_, rfl, ⟨_, rfl, ⟨_, rfl, ⟨_, rfl, ⟨_, rfl, ⟨_, rfl, ⟨_, rfl, ⟨_, rfl, ⟨rfl, rfl⟩⟩⟩⟩⟩⟩⟩⟩⟩) mixed_orders rfl (by decide +kernel) (fun hck7 => ?_)
   refine VP.step (p := ?pv49) rfl rfl rfl (⟨_, _, rfl, rfl, rfl⟩) ?hv49 ?rest49 hck7
   case hv49 =>
    intro E1
    refine (V1.move rfl rfl rfl (ltb rfl) ?_)
    exact rfl
   refine VP.step (p := ?pv50) rfl rfl rfl (⟨_, _, rfl, rfl, rfl⟩) ?hv50 ?rest50 hck7
   case hv50 =>
    intro E1
    refine (V1.move rfl rfl rfl (ltb rfl) ?_)
    exact rfl
   refine VP.step (p := ?pv51) rfl rfl rfl (⟨_, _, rfl, rfl, ⟨_, _, rfl, rfl, rfl⟩⟩) ?hv51 ?rest51 hck7
   case hv51 =>
    intro E1
    refine (V1.sliceStrI (a := (0 : Int)) (b := y0.1) rfl rfl istr_9 rfl (Bnd.none _ _) (Bnd.some rfl (Int.le_trans hh6.1 hh6.2.1) _) hh6 (ltb rfl) ?_)
    exact rfl
   refine VP.step (p := ?pv52) rfl rfl rfl (⟨_, _, rfl, rfl, rfl⟩) ?hv52 ?rest52 hck7
   case hv52 =>
    intro E1
    refine (V1.move rfl rfl rfl (ltb rfl) ?_)
    exact rfl
   refine VP.step (p := ?pv53) rfl rfl rfl (⟨_, _, rfl, rfl, ⟨_, _, rfl, rfl, rfl⟩⟩) ?hv53 ?rest53 hck7
   case hv53 =>
    intro E1
    refine (V1.strAdd rfl rfl rfl rfl hh7 (ltb rfl) ?_)
    exact rfl
   refine VP.step (p := ?pv54) rfl rfl rfl (⟨_, _, rfl, rfl, rfl⟩) ?hv54 ?rest54 hck7
   case hv54 =>
    intro E1
    refine (V1.move rfl rfl rfl (ltb rfl) ?_)
    exact rfl
   refine VP.step (p := ?pv55) rfl rfl rfl (⟨_, _, rfl, rfl, rfl⟩) ?hv55 ?rest55 hck7
   case hv55 =>
    intro E1
    refine (V1.move rfl rfl rfl (ltb rfl) ?_)
    exact rfl
   refine VP.step (p := ?pv56) rfl rfl rfl (⟨_, _, rfl, rfl, ⟨_, _, rfl, rfl, rfl⟩⟩) ?hv56 ?rest56 hck7
   case hv56 =>
    intro E1
    refine (V1.sliceStrI (a := y0.1) (b := (t.length : Int)) rfl rfl istr_9 rfl (Bnd.some rfl hh8.1 _) (Bnd.none _ _) hh8 (ltb rfl) ?_)
    exact rfl
   refine VP.fin rfl (⟨_, _, rfl, rfl, ⟨_, _, rfl, rfl, rfl⟩⟩) ?_
   refine VO.cons rfl (V1.strAdd rfl rfl rfl rfl hh9 (ltb rfl) ?_)
   refine VO.cons rfl (V1.assign rfl rfl rfl (ltb rfl) ?_)
   refine VO.nil ?_
   refine V.ret ?_
   obtain rfl := Option.some.inj hm0
   exact ⟨_, _, ⟨_, _, rfl, rfl, rfl⟩, (sub1 (k := 0) rfl), rfl, rfl⟩
  ·
   replace hm0 := cond_f hc1 hm0
   refine V.seq ?_
   refine V.region ?_
   refine VO.cons rfl (V1.int rfl rfl rfl rfl rfl (ltb rfl) ?_)
   refine VO.cons rfl (V1.assign rfl rfl rfl (ltb rfl) ?_)
   refine VO.nil ?_
   refine V.keep 57 [1, 7, 8, 37] [0] (E0 := [(1, .str t), (7, .int .i64 y0.1), (8, .str (slc (slc with_ y1.1 (with_.length : Int)) (0 : Int) (1 : Int))), (37, .bool (y2.1 == (1 : Int)))]) (H0 := [(bp, ⟨3, [encCur ρ0 y2.2]⟩)]) rfl (⟨_, _, rfl, rfl, ⟨_, _, rfl, rfl, ⟨_, _, rfl, rfl, ⟨_, _, rfl, rfl, rfl⟩⟩⟩⟩) (⟨_, _, rfl, rfl, rfl⟩) rfl ?_
   refine V.cond rfl (fun hc2 => ?_) (fun hc2 => ?_)
   ·
    replace hm0 := cond_t hc2 hm0
    refine V.seq ?_
    replace hm0 := asrt_some hm0; rcases hm0 with ⟨hh10, hm0⟩
    replace hm0 := asrt_some hm0; rcases hm0 with ⟨hh11, hm0⟩
    replace hm0 := asrt_some hm0; rcases hm0 with ⟨hh12, hm0⟩
    replace hm0 := asrt_some hm0; rcases hm0 with ⟨hh13, hm0⟩
    refine V.regionM 57 9 [⟨[(1, none)], [], none⟩, ⟨[(7, none)], [], none⟩, ⟨[(39, some 1), (40, some 0)], [], none⟩, ⟨[(8, none)], [], none⟩, ⟨[(41, some 1), (42, some 0)], [], none⟩, ⟨[(1, none)], [], none⟩, ⟨[(7, none)], [], none⟩, ⟨[(45, some 0)], [], none⟩, ⟨[(44, some 2), (46, some 0)], [], none⟩] [(43, some 4), (47, some 0)] (⟨_, rfl, ⟨_, rfl, ⟨_, rfl, ⟨_, rfl, ⟨_, rfl, ⟨_, rfl, ⟨_, rfl, ⟨_, rfl, ⟨_, rfl, ⟨rfl, rfl⟩⟩⟩⟩⟩⟩⟩⟩⟩⟩) mixed_orders rfl (by decide +kernel) (fun hck9 => ?_)
    refine VP.step (p := ?pv57) rfl rfl rfl (⟨_, _, rfl, rfl, rfl⟩) ?hv57 ?rest57 hck9
    case hv57 =>
     intro E1
     refine (V1.move rfl rfl rfl (ltb rfl) ?_)
     exact rfl
    refine VP.step (p := ?pv58) rfl rfl rfl (⟨_, _, rfl, rfl, rfl⟩) ?hv58 ?rest58 hck9
    case hv58 =>
     intro E1
     refine (V1.move rfl rfl rfl (ltb rfl) ?_)
     exact rfl
    refine VP.step (p := ?pv59) rfl rfl rfl (⟨_, _, rfl, rfl, ⟨_, _, rfl, rfl, rfl⟩⟩) ?hv59 ?rest59 hck9
    case hv59 =>
     intro E1
     refine (V1.sliceStrI (a := (0 : Int)) (b := y0.1) rfl rfl istr_9 rfl (Bnd.none _ _) (Bnd.some rfl (Int.le_trans hh10.1 hh10.2.1) _) hh10 (ltb rfl) ?_)
     exact rfl
    refine VP.step (p := ?pv60) rfl rfl rfl (⟨_, _, rfl, rfl, rfl⟩) ?hv60 ?rest60 hck9
    case hv60 =>
     intro E1
     refine (V1.move rfl rfl rfl (ltb rfl) ?_)
     exact rfl
    refine VP.step (p := ?pv61) rfl rfl rfl (⟨_, _, rfl, rfl, ⟨_, _, rfl, rfl, rfl⟩⟩) ?hv61 ?rest61 hck9
    case hv61 =>
     intro E1
     refine (V1.strAdd rfl rfl rfl rfl hh11 (ltb rfl) ?_)
     exact rfl
    refine VP.step (p := ?pv62) rfl rfl rfl (⟨_, _, rfl, rfl, rfl⟩) ?hv62 ?rest62 hck9
    case hv62 =>
     intro E1
     refine (V1.move rfl rfl rfl (ltb rfl) ?_)
     exact rfl
    refine VP.step (p := ?pv63) rfl rfl rfl (⟨_, _, rfl, rfl, rfl⟩) ?hv63 ?rest63 hck9
    case hv63 =>
     intro E1
     refine (V1.move rfl rfl rfl (ltb rfl) ?_)
     exact rfl
    refine VP.step (p := ?pv64) rfl rfl rfl (⟨_, _, rfl, rfl, rfl⟩) ?hv64 ?rest64 hck9
    case hv64 =>
     intro E1
     refine (V1.int rfl rfl rfl rfl rfl (ltb rfl) ?_)
     exact rfl
    refine VP.step (p := ?pv65) rfl rfl rfl (⟨_, _, rfl, rfl, ⟨_, _, rfl, rfl, rfl⟩⟩) ?hv65 ?rest65 hck9
    case hv65 =>
     intro E1
     refine (V1.sliceStrI (a := (IntKind.i64.wrap (y0.1 + (1 : Int)))) (b := (t.length : Int)) rfl rfl istr_9 rfl (Bnd.some rfl hh12.1 _) (Bnd.none _ _) hh12 (ltb rfl) ?_)
     exact rfl
    refine VP.fin rfl (⟨_, _, rfl, rfl, ⟨_, _, rfl, rfl, rfl⟩⟩) ?_
    refine VO.cons rfl (V1.strAdd rfl rfl rfl rfl hh13 (ltb rfl) ?_)
    refine VO.cons rfl (V1.assign rfl rfl rfl (ltb rfl) ?_)
    refine VO.nil ?_
    refine V.ret ?_
    obtain rfl := Option.some.inj hm0
    exact ⟨_, _, ⟨_, _, rfl, rfl, rfl⟩, (sub1 (k := 0) rfl), rfl, rfl⟩
   ·
    replace hm0 := cond_f hc2 hm0
    refine V.skip ?_
    refine V.seq ?_
    replace hm0 := asrt_some hm0; rcases hm0 with ⟨hh14, hm0⟩
    replace hm0 := asrt_some hm0; rcases hm0 with ⟨hh15, hm0⟩
    replace hm0 := asrt_some hm0; rcases hm0 with ⟨hh16, hm0⟩
    refine V.regionM 57 7 [⟨[(1, none)], [], none⟩, ⟨[(7, none)], [], none⟩, ⟨[(49, some 1), (50, some 0)], [], none⟩, ⟨[(1, none)], [], none⟩, ⟨[(7, none)], [], none⟩, ⟨[(53, some 0)], [], none⟩, ⟨[(52, some 2), (54, some 0)], [], none⟩] [(51, some 4), (55, some 0)] (⟨_, rfl, ⟨_, rfl, ⟨_, rfl, ⟨_, rfl, ⟨_, rfl, ⟨_, rfl, ⟨_, rfl, ⟨rfl, rfl⟩⟩⟩⟩⟩⟩⟩⟩) mixed_orders rfl (by decide +kernel) (fun hck10 => ?_)
    refine VP.step (p := ?pv66) rfl rfl rfl (⟨_, _, rfl, rfl, rfl⟩) ?hv66 ?rest66 hck10
    case hv66 =>
     intro E1
     refine (V1.move rfl rfl rfl (ltb rfl) ?_)
     exact rfl
    refine VP.step (p := ?pv67) rfl rfl rfl (⟨_, _, rfl, rfl, rfl⟩) ?hv67 ?rest67 hck10
    case hv67 =>
     intro E1
     refine (V1.move rfl rfl rfl (ltb rfl) ?_)
     exact rfl
    refine VP.step (p := ?pv68) rfl rfl rfl (⟨_, _, rfl, rfl, ⟨_, _, rfl, rfl, rfl⟩⟩) ?hv68 ?rest68 hck10
    case hv68 =>
     intro E1
     refine (V1.sliceStrI (a := (0 : Int)) (b := y0.1) rfl rfl istr_9 rfl (Bnd.none _ _) (Bnd.some rfl (Int.le_trans hh14.1 hh14.2.1) _) hh14 (ltb rfl) ?_)
     exact rfl
    refine VP.step (p := ?pv69) rfl rfl rfl (⟨_, _, rfl, rfl, rfl⟩) ?hv69 ?rest69 hck10
    case hv69 =>
     intro E1
     refine (V1.move rfl rfl rfl (ltb rfl) ?_)
     exact rfl
    refine VP.step (p := ?pv70) rfl rfl rfl (⟨_, _, rfl, rfl, rfl⟩) ?hv70 ?rest70 hck10
    case hv70 =>
     intro E1
     refine (V1.move rfl rfl rfl (ltb rfl) ?_)
     exact rfl
    refine VP.step (p := ?pv71) rfl rfl rfl (⟨_, _, rfl, rfl, rfl⟩) ?hv71 ?rest71 hck10
    case hv71 =>
     intro E1
     refine (V1.int rfl rfl rfl rfl rfl (ltb rfl) ?_)
     exact rfl
    refine VP.step (p := ?pv72) rfl rfl rfl (⟨_, _, rfl, rfl, ⟨_, _, rfl, rfl, rfl⟩⟩) ?hv72 ?rest72 hck10
    case hv72 =>
     intro E1
     refine (V1.sliceStrI (a := (IntKind.i64.wrap (y0.1 + (1 : Int)))) (b := (t.length : Int)) rfl rfl istr_9 rfl (Bnd.some rfl hh15.1 _) (Bnd.none _ _) hh15 (ltb rfl) ?_)
     exact rfl
    refine VP.fin rfl (⟨_, _, rfl, rfl, ⟨_, _, rfl, rfl, rfl⟩⟩) ?_
    refine VO.cons rfl (V1.strAdd rfl rfl rfl rfl hh16 (ltb rfl) ?_)
    refine VO.cons rfl (V1.assign rfl rfl rfl (ltb rfl) ?_)
    refine VO.nil ?_
    refine V.ret ?_
    obtain rfl := Option.some.inj hm0
    exact ⟨_, _, ⟨_, _, rfl, rfl, rfl⟩, (sub1 (k := 0) rfl), rfl, rfl⟩

theorem ok_spec_DrawFindPath {ρ0 rn : Nat} {code : List Int} {r : List Function × List UInt8} (h : M.spec_DrawFindPath code = some r) : Does Tryd.prog 18 [.vl ρ0 1 (List.map encU8 code)] [] rn (fun x H => ∃ (ob0_ : Nat), x = .tup [PV.sref ob0_ 3 0 (List.length r.1), .str r.2] ∧ H = [(ob0_, ⟨3, List.map encFunction r.1⟩)]) := by
 have hm0 := h; clear h; unfold M.spec_DrawFindPath at hm0
 try dsimp only at hm0
 refine Does.intro (N := 28) Tryd.func18 rfl rfl rfl rfl ?_
 intro w0 S0
 refine V.seq ?_
 refine V.region ?_
 refine VO.cons rfl (V1.assign rfl rfl rfl (ltb rfl) ?_)
 refine VO.cons rfl (V1.assign rfl rfl rfl (ltb rfl) ?_)
 refine VO.nil ?_
 refine V.seq ?_
 refine V.region ?_
 refine VO.cons rfl (V1.move rfl rfl rfl (ltb rfl) ?_)
 refine VO.cons rfl (V1.build rfl rfl zk_71 pl_71 rfl rfl (ltb rfl) ?_)
 refine VO.cons rfl (V1.boxN (n := 3) rfl rfl rfl rfl rfl (ltb rfl) ?_)
 intro b0
 refine VO.cons rfl (V1.assign rfl rfl rfl (ltb rfl) ?_)
 refine VO.nil ?_
 refine V.keep 28 [4] [0] (E0 := [(4, .ref b0 3 0 0)]) (H0 := [(b0, ⟨3, [.agg [.vl ρ0 1 (List.map encU8 code), .int .i64 (0 : Int), .int .u64 (0 : Int)]]⟩)]) rfl (⟨_, _, rfl, rfl, rfl⟩) (⟨_, _, rfl, rfl, rfl⟩) rfl ?_
 refine V.seq ?_
 replace hm0 := bindO hm0; rcases hm0 with ⟨y0, hh0, hm0⟩
 refine V.region ?_
 refine VO.cons rfl (V1.move rfl rfl rfl (ltb rfl) ?_)
 refine VO.cons rfl (V1.callM 0 (rn + ρ0 + 1) [] [.ref b0 3 0 0] (p := (b0, ⟨3, [.agg [.vl ρ0 1 (List.map encU8 code), .int .i64 (0 : Int), .int .u64 (0 : Int)]]⟩)) rfl rfl rfl cok_49 rfl rfl ⟨_, _, rfl, .same _, rfl⟩ bwNil (ok_spec_l1Cur_tree3 hh0) rfl (.inl rfl) (ltb rfl) ?_)
 rintro _ _ ⟨b1, rfl, rfl⟩
 refine VO.cons rfl (V1.assign rfl rfl rfl (ltb rfl) ?_)
 refine VO.nil ?_
 refine V.seq ?_
 replace hm0 := bindO hm0; rcases hm0 with ⟨y1, hh1, hm0⟩
 replace hm0 := bindO hm0; rcases hm0 with ⟨y2, hh2, hm0⟩
 refine V.region ?_
 refine VO.cons rfl (V1.move rfl rfl rfl (ltb rfl) ?_)
 refine VO.cons rfl (V1.move rfl rfl rfl (ltb rfl) ?_)
 refine VO.cons rfl (V1.move rfl rfl rfl (ltb rfl) ?_)
 refine VO.cons rfl (V1.callM 1 (rn + ρ0 + 1) [b1] [.ref b0 3 0 0, .vl (rn + ρ0 + 1) 3 (List.map encFunction y0.1)] (p := (b0, ⟨3, [encCur ρ0 y0.2]⟩)) rfl rfl rfl cok_50 rfl rfl ⟨_, _, rfl, .same _, ⟨_, _, rfl, Lend.srMap 0 rfl (fun _ => rfl) (.head _), rfl⟩⟩ (bwCons (k := 0) rfl bwNil) (ok_spec_l1Cur_functionId hh1) rfl (.inr ⟨(by first | omega | (dsimp only; omega)), by rintro _ _ ⟨rfl, rfl⟩; exact ⟨by simp [PV.no, PV.noL, optS_no, noL_iff, nbeq] <;> omega, by intro b ob h; first | exact optH_no (noL_map (fun _ => by simp [PV.no, PV.noL, noL_iff, nbeq]) _) b ob h | (simp at h; obtain ⟨rfl, rfl⟩ := h; exact noL_map (fun _ => by simp [PV.no, PV.noL, noL_iff, nbeq]) _) | (simp at h; obtain ⟨rfl, rfl⟩ := h; simp [PV.no, PV.noL, optS_no, noL_iff, nbeq] <;> omega)⟩⟩) (ltb rfl) ?_)
 rintro _ _ ⟨rfl, rfl⟩
 refine VO.cons rfl (V1.callL (rn + 1) [b1] [.vl (rn + 1) 3 (List.map encFunction y0.1), .int .i64 y1.1] rfl rfl rfl cok_8 rfl ⟨_, _, rfl, Lend.srMap 1 rfl (fun _ => rfl) (.head _), ⟨_, _, rfl, .same _, rfl⟩⟩ (bwCons (k := 1) rfl bwNil) (ok_spec_NamedPath hh2) rfl (⟨(by first | omega | (dsimp only; omega)), by rintro _ _ ⟨rfl, rfl⟩; exact ⟨rfl, by simp⟩⟩) (ltb rfl) ?_)
 rintro _ _ ⟨rfl, rfl⟩
 refine VO.cons rfl (V1.move rfl rfl rfl (ltb rfl) ?_)
 refine VO.cons rfl (V1.extract rfl rfl rfl rfl (ltb rfl) ?_)
 refine VO.cons rfl (V1.extract rfl rfl rfl rfl (ltb rfl) ?_)
 refine VO.cons rfl (V1.assign rfl rfl rfl (ltb rfl) ?_)
 refine VO.cons rfl (V1.assign rfl rfl rfl (ltb rfl) ?_)
 refine VO.nil ?_
 refine V.keep 28 [4, 5, 6] [0, 1] (E0 := [(4, .ref b0 3 0 0), (5, .sref b1 3 0 (List.length y0.1)), (6, .str y2.1)]) (H0 := [(b0, ⟨3, [encCur ρ0 y1.2]⟩), (b1, ⟨3, List.map encFunction y0.1⟩)]) rfl (⟨_, _, rfl, rfl, ⟨_, _, rfl, rfl, ⟨_, _, rfl, rfl, rfl⟩⟩⟩) (⟨_, _, rfl, rfl, ⟨_, _, rfl, rfl, rfl⟩⟩) rfl ?_
 refine V.seq ?_
 replace hm0 := bindO hm0; rcases hm0 with ⟨j0, hm1, hm0⟩
 refine V.cutT (D := (List UInt8 × Cur) × (Unit)) (fun ⟨⟨s, c_⟩, _⟩ => ⟨28, [(6, .str s), (5, .sref b1 3 0 (List.length y0.1))], [(b0, ⟨3, [encCur ρ0 c_]⟩), (b1, ⟨3, List.map encFunction y0.1⟩)]⟩) (fun ⟨⟨s, c_⟩, _⟩ => ((s, c_) = j0)) ?_ ?_
 ·
  refine V.seq ?_
  replace hm1 := bindO hm1; rcases hm1 with ⟨y3, hh3, hm1⟩
  refine V.region ?_
  refine VO.cons rfl (V1.move rfl rfl rfl (ltb rfl) ?_)
  refine VO.cons rfl (V1.callM 0 (rn + ρ0 + 1) [] [.ref b0 3 0 0, .int .i64 (4 : Int)] (p := (b0, ⟨3, [encCur ρ0 y1.2]⟩)) rfl rfl rfl cok_51 rfl rfl ⟨_, _, rfl, .same _, ⟨_, _, rfl, .same _, rfl⟩⟩ bwNil (ok_spec_l1Cur_one hh3) rfl (.inl rfl) (ltb rfl) ?_)
  rintro _ _ ⟨rfl, rfl⟩
  refine VO.nil ?_
  refine V.cond rfl (fun hc0 => ?_) (fun hc0 => ?_)
  ·
   replace hm1 := cond_t hc0 hm1
   replace hm1 := bindO hm1; rcases hm1 with ⟨y4, hh4, hm1⟩
   refine V.region ?_
   refine VO.cons rfl (V1.move rfl rfl rfl (ltb rfl) ?_)
   refine VO.cons rfl (V1.move rfl rfl rfl (ltb rfl) ?_)
   refine VO.cons rfl (V1.callM 0 (rn + ρ0 + 1) [] [.ref b0 3 0 0, .str y2.1, .str ([47, 108, 97, 119, 32])] (p := (b0, ⟨3, [encCur ρ0 y3.2]⟩)) rfl rfl rfl cok_52 rfl rfl ⟨_, _, rfl, .same _, ⟨_, _, rfl, .same _, ⟨_, _, rfl, .same _, rfl⟩⟩⟩ bwNil (ok_spec_l1Cur_spoilt hh4) rfl (.inl rfl) (ltb rfl) ?_)
   rintro _ _ ⟨rfl, rfl⟩
   refine VO.cons rfl (V1.assign rfl rfl rfl (ltb rfl) ?_)
   refine VO.nil ?_
   exact ⟨((y4.1, y4.2), ()), Option.some.inj hm1, Keeps.mk (ks := [0, 1]) rfl ⟨rfl, rfl, trivial⟩ (⟨_, _, rfl, rfl, ⟨_, _, rfl, rfl, rfl⟩⟩) rfl⟩
  ·
   replace hm1 := cond_f hc0 hm1
   refine V.skip ?_
   exact ⟨((y2.1, y3.2), ()), Option.some.inj hm1, Keeps.mk (ks := [0, 1]) rfl ⟨rfl, rfl, trivial⟩ (⟨_, _, rfl, rfl, ⟨_, _, rfl, rfl, rfl⟩⟩) rfl⟩
 ·
  rintro ⟨⟨s, c_⟩, _⟩ rfl
  try dsimp only at hm0
  refine V.seq ?_
  refine V.region ?_
  refine VO.cons rfl (V1.move rfl rfl rfl (ltb rfl) ?_)
  refine VO.cons rfl (V1.move rfl rfl rfl (ltb rfl) ?_)
  refine VO.cons rfl (V1.assign rfl rfl rfl (ltb rfl) ?_)
  refine VO.cons rfl (V1.assign rfl rfl rfl (ltb rfl) ?_)
  refine VO.nil ?_
  refine V.keep 28 [2, 3] [1] (E0 := [(2, .sref b1 3 0 (List.length y0.1)), (3, .str s)]) (H0 := [(b1, ⟨3, List.map encFunction y0.1⟩)]) rfl (⟨_, _, rfl, rfl, ⟨_, _, rfl, rfl, rfl⟩⟩) (⟨_, _, rfl, rfl, rfl⟩) rfl ?_
  refine V.ret ?_
  obtain rfl := Option.some.inj hm0
  exact ⟨_, _, ⟨_, _, rfl, rfl, ⟨_, _, rfl, rfl, rfl⟩⟩, List.Sublist.refl _, b1, rfl, rfl⟩

theorem ok_spec_FindPath {ρ0 rn : Nat} {tree : List Function} {path : List UInt8} {r : Int × Bool} (h : M.spec_FindPath tree path = some r) : Does Tryd.prog 19 [.vl ρ0 3 (List.map encFunction tree), .str path] [] rn (fun x H => x = .tup [.int .i64 r.1, .bool r.2] ∧ H = []) := by
 have hm0 := h; clear h; unfold M.spec_FindPath at hm0
 try dsimp only at hm0
 refine Does.intro (N := 31) Tryd.func19 rfl rfl rfl rfl ?_
 intro w0 S0
 refine V.seq ?_
 refine V.region ?_
 refine VO.cons rfl (V1.assign rfl rfl rfl (ltb rfl) ?_)
 refine VO.cons rfl (V1.assign rfl rfl rfl (ltb rfl) ?_)
 refine VO.nil ?_
 refine V.seq ?_
 refine V.seq ?_
 refine V.region ?_
 refine VO.cons rfl (V1.assign rfl rfl rfl (ltb rfl) ?_)
 refine VO.nil ?_
 replace hm0 := bindO hm0; rcases hm0 with ⟨e0, he1, hm0⟩
 refine V.cutT (D := (Unit) × (Unit)) (fun ⟨_, _⟩ => ⟨31, [], []⟩) (fun ⟨_, _⟩ => (.inl () = e0)) ?_ ?_
 ·
  refine V.block ?_
  refine V.keep 31 [6, 0, 1] [] (E0 := [(6, .int .i64 (0 : Int)), (0, .vl ρ0 3 (List.map encFunction tree)), (1, .str path)]) (H0 := []) rfl (⟨_, _, rfl, rfl, ⟨_, _, rfl, rfl, ⟨_, _, rfl, rfl, rfl⟩⟩⟩) (rfl) rfl ?_
  refine V.loopE (D := Nat × (Int) × (Unit)) (fun ⟨n0, i, _⟩ => [(6, .int .i64 i)]) (fun ⟨n0, i, _⟩ => []) (fun ⟨n0, i, _⟩ => loopO (M.spec_FindPath_l0 tree path) n0 i = some e0) (fun ⟨n0, _, _⟩ => n0) (rounds, (0 : Int), ()) rfl he1 ?_
  rintro ⟨n0, i, _⟩ hP0
  obtain ⟨m0, y0, rfl, hm1, hl1, hr1⟩ := loop_head hP0
  unfold M.spec_FindPath_l0 at hm1; dsimp only at hm1
  show V _ _ _ ⟨31, [(6, .int .i64 i), (0, .vl ρ0 3 (List.map encFunction tree)), (1, .str path)], []⟩
  refine V.seq ?_
  refine V.seq ?_
  replace hm1 := bindO hm1; rcases hm1 with ⟨y1, hh0, hm1⟩
  refine V.region ?_
  refine VO.cons rfl (V1.move rfl rfl rfl (ltb rfl) ?_)
  refine VO.cons rfl (V1.move rfl rfl rfl (ltb rfl) ?_)
  refine VO.cons rfl (V1.lenMap rfl rfl rfl rfl rfl rfl isl_24 (ltb rfl) ?_)
  refine VO.cons rfl (V1.int rfl rfl rfl rfl rfl (ltb rfl) ?_)
  refine VO.cons rfl (V1.move rfl rfl rfl (ltb rfl) ?_)
  apply VO.and (n := 2) rfl rfl rfl rfl rfl rfl (ltb rfl) (.none rfl)
  ·
   intro hg0
   refine VO.step (.some rfl rfl rfl) (V1.move rfl rfl rfl (ltb rfl) ?_)
   refine VO.step (.some rfl rfl rfl) (V1.call rfl rfl rfl cok_42 rfl (ok_spec_l3Good (cond_t hg0 hh0)) rfl (ltb rfl) ?_)
   rintro _ _ ⟨rfl, rfl⟩
   exact VO.nil ⟨rfl, rfl, rfl, rfl, .inr ⟨rfl, .inr ⟨rfl, .inr ⟨rfl, .inl rfl⟩⟩⟩⟩
  refine VO.nil ?_
  refine V.keep 31 [0, 1, 6, 14] [] (E0 := [(0, .vl ρ0 3 (List.map encFunction tree)), (1, .str path), (6, .int .i64 i), (14, .bool ((decide (i < (tree.length : Int))) && y1))]) (H0 := []) rfl (⟨_, _, rfl, rfl, ⟨_, _, rfl, rfl, ⟨_, _, rfl, rfl, ⟨_, _, rfl, rfl, rfl⟩⟩⟩⟩) (rfl) rfl ?_
  refine V.cond rfl (fun hc0 => ?_) (fun hc0 => ?_)
  ·
   replace hm1 := cond_t hc0 hm1
   refine V.skip ?_
   refine V.seq ?_
   refine V.block ?_
   refine V.seq ?_
   replace hm1 := asrt_some hm1; rcases hm1 with ⟨hh1, hm1⟩
   replace hm1 := bindO hm1; rcases hm1 with ⟨y2, hh2, hm1⟩
   refine V.region ?_
   refine VO.cons rfl (V1.move rfl rfl rfl (ltb rfl) ?_)
   refine VO.cons rfl (V1.move rfl rfl rfl (ltb rfl) ?_)
   refine VO.cons rfl (V1.move rfl rfl rfl (ltb rfl) ?_)
   refine VO.cons rfl (V1.indexI rfl rfl esz_24 rfl rfl hh1 (ltb rfl) ?_)
   refine VO.cons rfl (V1.fieldPin rfl rfl fo_36_0 rfl (ltb rfl) ?_)
   refine VO.cons rfl (V1.loadPin rfl rfl tyk_3 rfl rfl (ltb rfl) ?_)
   refine VO.cons rfl (V1.call rfl rfl rfl cok_44 rfl (ok_spec_l3Named hh2) rfl (ltb rfl) ?_)
   rintro _ _ ⟨rfl, rfl⟩
   refine VO.cons rfl (V1.move rfl rfl rfl (ltb rfl) ?_)
   refine VO.cons rfl (V1.str rfl rfl rfl rfl rfl (ltb rfl) ?_)
   refine VO.nil ?_
   refine V.keep 31 [0, 1, 6, 25] [] (E0 := [(0, .vl ρ0 3 (List.map encFunction tree)), (1, .str path), (6, .int .i64 i), (25, .bool (y2 == path))]) (H0 := []) rfl (⟨_, _, rfl, rfl, ⟨_, _, rfl, rfl, ⟨_, _, rfl, rfl, ⟨_, _, rfl, rfl, rfl⟩⟩⟩⟩) (rfl) rfl ?_
   refine V.cond rfl (fun hc1 => ?_) (fun hc1 => ?_)
   ·
    replace hm1 := cond_t hc1 hm1
    refine V.seq ?_
    replace hm1 := asrt_some hm1; rcases hm1 with ⟨hh3, hm1⟩
    refine V.region ?_
    refine VO.cons rfl (V1.move rfl rfl rfl (ltb rfl) ?_)
    refine VO.cons rfl (V1.move rfl rfl rfl (ltb rfl) ?_)
    refine VO.cons rfl (V1.indexI rfl rfl esz_24 rfl rfl hh3 (ltb rfl) ?_)
    refine VO.cons rfl (V1.fieldPin rfl rfl fo_36_0 rfl (ltb rfl) ?_)
    refine VO.cons rfl (V1.loadPin rfl rfl tyk_3 rfl rfl (ltb rfl) ?_)
    refine VO.cons rfl (V1.assign rfl rfl rfl (ltb rfl) ?_)
    refine VO.cons rfl (V1.assign rfl rfl rfl (ltb rfl) ?_)
    refine VO.nil ?_
    refine V.ret ?_
    obtain rfl := hr1 _ (Option.some.inj hm1).symm
    change some _ = some _ at hm0
    obtain rfl := Option.some.inj hm0
    exact ⟨_, [], ⟨_, _, rfl, rfl, ⟨_, _, rfl, rfl, rfl⟩⟩, List.nil_sublist _, rfl, rfl⟩
   ·
    replace hm1 := cond_f hc1 hm1
    refine V.skip ?_
    refine V.region ?_
    refine VO.cons rfl (V1.move rfl rfl rfl (ltb rfl) ?_)
    refine VO.cons rfl (V1.int rfl rfl rfl rfl rfl (ltb rfl) ?_)
    refine VO.cons rfl (V1.assign rfl rfl rfl (ltb rfl) ?_)
    refine VO.nil ?_
    exact ⟨(m0, (IntKind.i64.wrap (i + (1 : Int))), ()), hl1 _ (Option.some.inj hm1).symm, Nat.lt_succ_self _, Keeps.mk (ks := []) rfl ⟨rfl, rfl, rfl, trivial⟩ (rfl) rfl⟩
  ·
   replace hm1 := cond_f hc0 hm1
   refine V.exit ?_
   obtain rfl := hr1 _ (Option.some.inj hm1).symm
   exact ⟨((), ()), rfl, Keeps.mk (ks := []) rfl trivial (rfl) rfl⟩
 ·
  rintro ⟨_, _⟩ rfl
  try dsimp only at hm0
  refine V.seq ?_
  refine V.region ?_
  refine VO.cons rfl (V1.assign rfl rfl rfl (ltb rfl) ?_)
  refine VO.cons rfl (V1.assign rfl rfl rfl (ltb rfl) ?_)
  refine VO.nil ?_
  refine V.ret ?_
  obtain rfl := Option.some.inj hm0
  exact ⟨_, [], ⟨_, _, rfl, rfl, ⟨_, _, rfl, rfl, rfl⟩⟩, List.nil_sublist _, rfl, rfl⟩

theorem ok_spec_IsTree {ρ0 rn : Nat} {tree : List Function} {r : Bool} (h : M.spec_IsTree tree = some r) : Does Tryd.prog 21 [.vl ρ0 3 (List.map encFunction tree)] [] rn (fun x H => x = .bool r ∧ H = []) := by
 have hm0 := h; clear h; unfold M.spec_IsTree at hm0
 try dsimp only at hm0
 refine Does.intro (N := 5) Tryd.func21 rfl rfl rfl rfl ?_
 intro w0 S0
 refine V.seq ?_
 refine V.region ?_
 refine VO.cons rfl (V1.assign rfl rfl rfl (ltb rfl) ?_)
 refine VO.nil ?_
 refine V.seq ?_
 replace hm0 := bindO hm0; rcases hm0 with ⟨y0, hh0, hm0⟩
 refine V.region ?_
 refine VO.cons rfl (V1.move rfl rfl rfl (ltb rfl) ?_)
 refine VO.cons rfl (V1.call rfl rfl rfl cok_42 rfl (ok_spec_l3Good hh0) rfl (ltb rfl) ?_)
 rintro _ _ ⟨rfl, rfl⟩
 refine VO.cons rfl (V1.assign rfl rfl rfl (ltb rfl) ?_)
 refine VO.nil ?_
 refine V.ret ?_
 obtain rfl := Option.some.inj hm0
 exact ⟨_, [], ⟨_, _, rfl, rfl, rfl⟩, List.nil_sublist _, rfl, rfl⟩

theorem ok_laws_FnTrees {ρ0 rn : Nat} {code : List Int} {r : Bool} (h : M.laws_FnTrees code = some r) : Does Tryd.prog 3 [.vl ρ0 1 (List.map encU8 code)] [] rn (fun x H => x = .bool r ∧ H = []) := by
 have hm0 := h; clear h; unfold M.laws_FnTrees at hm0
 try dsimp only at hm0
 refine Does.intro (N := 272) Tryd.func3 rfl rfl rfl rfl ?_
 intro w0 S0
 refine V.seq ?_
 refine V.region ?_
 refine VO.cons rfl (V1.assign rfl rfl rfl (ltb rfl) ?_)
 refine VO.nil ?_
 refine V.seq ?_
 refine V.seq ?_
 replace hm0 := bindO hm0; rcases hm0 with ⟨y0, hh0, hm0⟩
 refine V.region ?_
 refine VO.cons rfl (V1.move rfl rfl rfl (ltb rfl) ?_)
 refine VO.cons rfl (V1.call rfl rfl rfl cok_5 rfl (ok_laws_rBig hh0) rfl (ltb rfl) ?_)
 rintro _ _ ⟨rfl, rfl⟩
 refine VO.nil ?_
 refine V.cond rfl (fun hc0 => ?_) (fun hc0 => ?_)
 ·
  replace hm0 := cond_t hc0 hm0
  refine V.seq ?_
  refine V.region ?_
  refine VO.cons rfl (V1.assign rfl rfl rfl (ltb rfl) ?_)
  refine VO.nil ?_
  refine V.ret ?_
  obtain rfl := Option.some.inj hm0
  exact ⟨_, [], ⟨_, _, rfl, rfl, rfl⟩, List.nil_sublist _, rfl, rfl⟩
 ·
  replace hm0 := cond_f hc0 hm0
  refine V.skip ?_
  refine V.seq ?_
  replace hm0 := bindO hm0; rcases hm0 with ⟨y1, hh1, hm0⟩
  refine V.region ?_
  refine VO.cons rfl (V1.move rfl rfl rfl (ltb rfl) ?_)
  refine VO.cons rfl (V1.call rfl rfl rfl cok_6 rfl (ok_spec_DrawNamedPath hh1) rfl (ltb rfl) ?_)
  rintro _ _ ⟨b0, rfl, rfl⟩
  refine VO.cons rfl (V1.move rfl rfl rfl (ltb rfl) ?_)
  refine VO.cons rfl (V1.extract rfl rfl rfl rfl (ltb rfl) ?_)
  refine VO.weakenK (Keeps.freezeG 0 rn [(41, .vl rn 3 (List.map encFunction y1.1))] [] (f := encFunction) (l := y1.1) rfl (fun _ => rfl) ⟨⟨_, rfl, .here⟩, trivial⟩ rfl rfl iNil) ?_
  refine VO.cons rfl (V1.extract rfl rfl rfl rfl (ltb rfl) ?_)
  refine VO.cons rfl (V1.assign rfl rfl rfl (ltb rfl) ?_)
  refine VO.cons rfl (V1.assign rfl rfl rfl (ltb rfl) ?_)
  refine VO.nil ?_
  refine V.keep 272 [0, 3, 4] [] (E0 := [(0, .vl ρ0 1 (List.map encU8 code)), (3, .vl rn 3 (List.map encFunction y1.1)), (4, .int .i64 y1.2)]) (H0 := []) rfl (⟨_, _, rfl, rfl, ⟨_, _, rfl, rfl, ⟨_, _, rfl, rfl, rfl⟩⟩⟩) (rfl) rfl ?_
  refine V.seq ?_
  replace hm0 := bindO hm0; rcases hm0 with ⟨y2, hh2, hm0⟩
  refine V.region ?_
  refine VO.cons rfl (V1.move rfl rfl rfl (ltb rfl) ?_)
  refine VO.cons rfl (V1.move rfl rfl rfl (ltb rfl) ?_)
  refine VO.cons rfl (V1.call rfl rfl rfl cok_7 rfl (ok_impl_NamedPath hh2) rfl (ltb rfl) ?_)
  rintro _ _ ⟨rfl, rfl⟩
  refine VO.cons rfl (V1.move rfl rfl rfl (ltb rfl) ?_)
  refine VO.cons rfl (V1.extract rfl rfl rfl rfl (ltb rfl) ?_)
  refine VO.cons rfl (V1.extract rfl rfl rfl rfl (ltb rfl) ?_)
  refine VO.cons rfl (V1.assign rfl rfl rfl (ltb rfl) ?_)
  refine VO.cons rfl (V1.assign rfl rfl rfl (ltb rfl) ?_)
  refine VO.nil ?_
  refine V.keep 272 [0, 3, 4, 5, 6] [] (E0 := [(0, .vl ρ0 1 (List.map encU8 code)), (3, .vl rn 3 (List.map encFunction y1.1)), (4, .int .i64 y1.2), (5, .str y2.1), (6, .bool y2.2)]) (H0 := []) rfl (⟨_, _, rfl, rfl, ⟨_, _, rfl, rfl, ⟨_, _, rfl, rfl, ⟨_, _, rfl, rfl, ⟨_, _, rfl, rfl, rfl⟩⟩⟩⟩⟩) (rfl) rfl ?_
  refine V.seq ?_
  refine V.seq ?_
  replace hm0 := bindO hm0; rcases hm0 with ⟨y3, hh3, hm0⟩
  refine V.region ?_
  refine VO.cons rfl (V1.move rfl rfl rfl (ltb rfl) ?_)
  refine VO.cons rfl (V1.move rfl rfl rfl (ltb rfl) ?_)
  refine VO.cons rfl (V1.call rfl rfl rfl cok_8 rfl (ok_spec_NamedPath hh3) rfl (ltb rfl) ?_)
  rintro _ _ ⟨rfl, rfl⟩
  refine VO.cons rfl (V1.move rfl rfl rfl (ltb rfl) ?_)
  refine VO.cons rfl (V1.extract rfl rfl rfl rfl (ltb rfl) ?_)
  refine VO.cons rfl (V1.extract rfl rfl rfl rfl (ltb rfl) ?_)
  refine VO.cons rfl (V1.assign rfl rfl rfl (ltb rfl) ?_)
  refine VO.cons rfl (V1.assign rfl rfl rfl (ltb rfl) ?_)
  refine VO.nil ?_
  refine V.keep 272 [0, 3, 4, 5, 6, 7, 8] [] (E0 := [(0, .vl ρ0 1 (List.map encU8 code)), (3, .vl rn 3 (List.map encFunction y1.1)), (4, .int .i64 y1.2), (5, .str y2.1), (6, .bool y2.2), (7, .str y3.1), (8, .bool y3.2)]) (H0 := []) rfl (⟨_, _, rfl, rfl, ⟨_, _, rfl, rfl, ⟨_, _, rfl, rfl, ⟨_, _, rfl, rfl, ⟨_, _, rfl, rfl, ⟨_, _, rfl, rfl, ⟨_, _, rfl, rfl, rfl⟩⟩⟩⟩⟩⟩⟩) (rfl) rfl ?_
  refine V.seq ?_
  refine V.region ?_
  refine VO.cons rfl (V1.move rfl rfl rfl (ltb rfl) ?_)
  refine VO.cons rfl (V1.move rfl rfl rfl (ltb rfl) ?_)
  refine VO.cons rfl (V1.str rfl rfl rfl rfl rfl (ltb rfl) ?_)
  refine VO.cons rfl (V1.move rfl rfl rfl (ltb rfl) ?_)
  apply VO.or (n := 3) rfl rfl rfl rfl rfl rfl (ltb rfl) (.none rfl)
  ·
   intro hg0
   refine VO.step (.some rfl rfl rfl) (V1.move rfl rfl rfl (ltb rfl) ?_)
   refine VO.step (.some rfl rfl rfl) (V1.move rfl rfl rfl (ltb rfl) ?_)
   refine VO.step (.some rfl rfl rfl) (V1.boolNeq rfl rfl und_4 rfl rfl (ltb rfl) ?_)
   exact VO.nil ⟨rfl, rfl, rfl, rfl, .inr ⟨rfl, .inr ⟨rfl, .inr ⟨rfl, .inr ⟨rfl, .inl rfl⟩⟩⟩⟩⟩
  refine VO.nil ?_
  refine V.keep 272 [0, 3, 4, 5, 6, 62] [] (E0 := [(0, .vl ρ0 1 (List.map encU8 code)), (3, .vl rn 3 (List.map encFunction y1.1)), (4, .int .i64 y1.2), (5, .str y2.1), (6, .bool y2.2), (62, .bool ((!(y2.1 == y3.1)) || (!(y2.2 == y3.2))))]) (H0 := []) rfl (⟨_, _, rfl, rfl, ⟨_, _, rfl, rfl, ⟨_, _, rfl, rfl, ⟨_, _, rfl, rfl, ⟨_, _, rfl, rfl, ⟨_, _, rfl, rfl, rfl⟩⟩⟩⟩⟩⟩) (rfl) rfl ?_
  refine V.cond rfl (fun hc1 => ?_) (fun hc1 => ?_)
  ·
   replace hm0 := cond_t hc1 hm0
   refine V.seq ?_
   refine V.region ?_
   refine VO.cons rfl (V1.assign rfl rfl rfl (ltb rfl) ?_)
   refine VO.nil ?_
   refine V.ret ?_
   obtain rfl := Option.some.inj hm0
   exact ⟨_, [], ⟨_, _, rfl, rfl, rfl⟩, List.nil_sublist _, rfl, rfl⟩
  ·
   replace hm0 := cond_f hc1 hm0
   refine V.skip ?_
   refine V.seq ?_
   refine V.seq ?_
   replace hm0 := bindO hm0; rcases hm0 with ⟨y4, hh4, hm0⟩
   refine V.region ?_
   refine VO.cons rfl (V1.move rfl rfl rfl (ltb rfl) ?_)
   refine VO.cons rfl (V1.move rfl rfl rfl (ltb rfl) ?_)
   refine VO.cons rfl (V1.call rfl rfl rfl cok_9 rfl (ok_impl_FindPath hh4) rfl (ltb rfl) ?_)
   rintro _ _ ⟨rfl, rfl⟩
   refine VO.cons rfl (V1.move rfl rfl rfl (ltb rfl) ?_)
   refine VO.cons rfl (V1.extract rfl rfl rfl rfl (ltb rfl) ?_)
   refine VO.cons rfl (V1.extract rfl rfl rfl rfl (ltb rfl) ?_)
   refine VO.cons rfl (V1.assign rfl rfl rfl (ltb rfl) ?_)
   refine VO.cons rfl (V1.assign rfl rfl rfl (ltb rfl) ?_)
   refine VO.nil ?_
   refine V.keep 272 [0, 3, 4, 6, 9, 10] [] (E0 := [(0, .vl ρ0 1 (List.map encU8 code)), (3, .vl rn 3 (List.map encFunction y1.1)), (4, .int .i64 y1.2), (6, .bool y2.2), (9, .int .i64 y4.1), (10, .bool y4.2)]) (H0 := []) rfl (⟨_, _, rfl, rfl, ⟨_, _, rfl, rfl, ⟨_, _, rfl, rfl, ⟨_, _, rfl, rfl, ⟨_, _, rfl, rfl, ⟨_, _, rfl, rfl, rfl⟩⟩⟩⟩⟩⟩) (rfl) rfl ?_
   refine V.seq ?_
   refine V.region ?_
   refine VO.cons rfl (V1.move rfl rfl rfl (ltb rfl) ?_)
   refine VO.cons rfl (V1.move rfl rfl rfl (ltb rfl) ?_)
   apply VO.and (n := 7) rfl rfl rfl rfl rfl rfl (ltb rfl) (.none rfl)
   ·
    intro hg1
    refine VO.step (.some rfl rfl rfl) (V1.move rfl rfl rfl (ltb rfl) ?_)
    refine VO.step (.some rfl rfl rfl) (V1.not rfl rfl rfl (ltb rfl) ?_)
    refine VO.step (.some rfl rfl rfl) (V1.move rfl rfl rfl (ltb rfl) ?_)
    apply VO.or (n := 3) rfl rfl rfl rfl rfl rfl (ltb rfl) (.some rfl rfl rfl)
    ·
     intro hg2
     refine VO.step (.some rfl rfl rfl) (V1.move rfl rfl rfl (ltb rfl) ?_)
     refine VO.step (.some rfl rfl rfl) (V1.move rfl rfl rfl (ltb rfl) ?_)
     refine VO.step (.some rfl rfl rfl) (V1.int rfl rfl rfl rfl rfl (ltb rfl) ?_)
     exact VO.nil ⟨rfl, rfl, rfl, rfl, .inr ⟨rfl, .inr ⟨rfl, .inr ⟨rfl, .inr ⟨rfl, .inl rfl⟩⟩⟩⟩⟩
    exact VO.nil ⟨rfl, rfl, rfl, rfl, .inr ⟨rfl, .inr ⟨rfl, .inr ⟨rfl, .inr ⟨rfl, .inr ⟨rfl, .inl rfl⟩⟩⟩⟩⟩⟩
   refine VO.nil ?_
   refine V.keep 272 [0, 3, 4, 6, 78] [] (E0 := [(0, .vl ρ0 1 (List.map encU8 code)), (3, .vl rn 3 (List.map encFunction y1.1)), (4, .int .i64 y1.2), (6, .bool y2.2), (78, .bool (y2.2 && ((!y4.2) || (y4.1 != y1.2))))]) (H0 := []) rfl (⟨_, _, rfl, rfl, ⟨_, _, rfl, rfl, ⟨_, _, rfl, rfl, ⟨_, _, rfl, rfl, ⟨_, _, rfl, rfl, rfl⟩⟩⟩⟩⟩) (rfl) rfl ?_
   refine V.cond rfl (fun hc2 => ?_) (fun hc2 => ?_)
   ·
    replace hm0 := cond_t hc2 hm0
    refine V.seq ?_
    refine V.region ?_
    refine VO.cons rfl (V1.assign rfl rfl rfl (ltb rfl) ?_)
    refine VO.nil ?_
    refine V.ret ?_
    obtain rfl := Option.some.inj hm0
    exact ⟨_, [], ⟨_, _, rfl, rfl, rfl⟩, List.nil_sublist _, rfl, rfl⟩
   ·
    replace hm0 := cond_f hc2 hm0
    refine V.skip ?_
    refine V.seq ?_
    replace hm0 := bindO hm0; rcases hm0 with ⟨y5, hh5, hm0⟩
    refine V.region ?_
    refine VO.cons rfl (V1.move rfl rfl rfl (ltb rfl) ?_)
    refine VO.cons rfl (V1.move rfl rfl rfl (ltb rfl) ?_)
    refine VO.cons rfl (V1.permK (V1.call rfl rfl rfl cok_10 rfl (ok_impl_UnderOf hh5) rfl (ltb rfl) ?_))
    rintro _ _ ⟨ob0, hob0, rfl, rfl⟩
    refine ⟨_, ?_, Keeps.optBack (n := 1) (ob := ob0) (xs := List.map encInt y5.1) (H1 := []) (H2 := []) rfl⟩
    refine VO.cons rfl (V1.move rfl rfl rfl (ltb rfl) ?_)
    refine VO.cons rfl (V1.extract rfl rfl rfl rfl (ltb rfl) ?_)
    refine VO.weakenK (Keeps.optFront (n := 1) (ob := ob0) (xs := List.map encInt y5.1) (H1 := []) rfl) ?_
    refine VO.weakenK (Keeps.optVl 83 [] rn (f := encInt) (l := y5.1) (ob := ob0) (H1 := []) hob0 rfl rfl ⟨rfl, trivial⟩ (fun _ => rfl) rfl iNil) ?_
    refine VO.cons rfl (V1.extract rfl rfl rfl rfl (ltb rfl) ?_)
    refine VO.cons rfl (V1.assign rfl rfl rfl (ltb rfl) ?_)
    refine VO.cons rfl (V1.assign rfl rfl rfl (ltb rfl) ?_)
    refine VO.nil ?_
    refine V.keep 272 [0, 3, 4, 6, 11, 12] [] (E0 := [(0, .vl ρ0 1 (List.map encU8 code)), (3, .vl rn 3 (List.map encFunction y1.1)), (4, .int .i64 y1.2), (6, .bool y2.2), (11, .vl rn 1 (List.map encInt y5.1)), (12, .bool y5.2)]) (H0 := []) rfl (⟨_, _, rfl, rfl, ⟨_, _, rfl, rfl, ⟨_, _, rfl, rfl, ⟨_, _, rfl, rfl, ⟨_, _, rfl, rfl, ⟨_, _, rfl, rfl, rfl⟩⟩⟩⟩⟩⟩) (rfl) rfl ?_
    refine V.seq ?_
    refine V.seq ?_
    replace hm0 := bindO hm0; rcases hm0 with ⟨y6, hh6, hm0⟩
    refine V.region ?_
    refine VO.cons rfl (V1.move rfl rfl rfl (ltb rfl) ?_)
    refine VO.cons rfl (V1.move rfl rfl rfl (ltb rfl) ?_)
    refine VO.cons rfl (V1.call rfl rfl rfl cok_11 rfl (ok_spec_UnderOf hh6) rfl (ltb rfl) ?_)
    rintro _ _ ⟨b1, rfl, rfl⟩
    refine VO.cons rfl (V1.move rfl rfl rfl (ltb rfl) ?_)
    refine VO.cons rfl (V1.extract rfl rfl rfl rfl (ltb rfl) ?_)
    refine VO.weakenK (Keeps.freezeG 0 rn [(89, .vl rn 1 (List.map encInt y6.1))] [] (f := encInt) (l := y6.1) rfl (fun _ => rfl) ⟨⟨_, rfl, .here⟩, trivial⟩ rfl rfl iNil) ?_
    refine VO.cons rfl (V1.extract rfl rfl rfl rfl (ltb rfl) ?_)
    refine VO.cons rfl (V1.assign rfl rfl rfl (ltb rfl) ?_)
    refine VO.cons rfl (V1.assign rfl rfl rfl (ltb rfl) ?_)
    refine VO.nil ?_
    refine V.keep 272 [0, 3, 4, 6, 11, 12, 13, 14] [] (E0 := [(0, .vl ρ0 1 (List.map encU8 code)), (3, .vl rn 3 (List.map encFunction y1.1)), (4, .int .i64 y1.2), (6, .bool y2.2), (11, .vl rn 1 (List.map encInt y5.1)), (12, .bool y5.2), (13, .vl rn 1 (List.map encInt y6.1)), (14, .bool y6.2)]) (H0 := []) rfl (⟨_, _, rfl, rfl, ⟨_, _, rfl, rfl, ⟨_, _, rfl, rfl, ⟨_, _, rfl, rfl, ⟨_, _, rfl, rfl, ⟨_, _, rfl, rfl, ⟨_, _, rfl, rfl, ⟨_, _, rfl, rfl, rfl⟩⟩⟩⟩⟩⟩⟩⟩) (rfl) rfl ?_
    refine V.seq ?_
    replace hm0 := bindO hm0; rcases hm0 with ⟨y7, hh7, hm0⟩
    refine V.region ?_
    refine VO.cons rfl (V1.move rfl rfl rfl (ltb rfl) ?_)
    refine VO.cons rfl (V1.move rfl rfl rfl (ltb rfl) ?_)
    refine VO.cons rfl (V1.boolNeq rfl rfl und_4 rfl rfl (ltb rfl) ?_)
    refine VO.cons rfl (V1.move rfl rfl rfl (ltb rfl) ?_)
    apply VO.or (n := 3) rfl rfl rfl rfl rfl rfl (ltb rfl) (.none rfl)
    ·
     intro hg3
     refine VO.step (.some rfl rfl rfl) (V1.move rfl rfl rfl (ltb rfl) ?_)
     refine VO.step (.some rfl rfl rfl) (V1.move rfl rfl rfl (ltb rfl) ?_)
     refine VO.step (.some rfl rfl rfl) (V1.boolNeq rfl rfl und_4 rfl rfl (ltb rfl) ?_)
     exact VO.nil ⟨rfl, rfl, rfl, rfl, .inr ⟨rfl, .inr ⟨rfl, .inr ⟨rfl, .inr ⟨rfl, .inl rfl⟩⟩⟩⟩⟩
    refine VO.cons rfl (V1.move rfl rfl rfl (ltb rfl) ?_)
    apply VO.or (n := 4) rfl rfl rfl rfl rfl rfl (ltb rfl) (.none rfl)
    ·
     intro hg4
     refine VO.step (.some rfl rfl rfl) (V1.move rfl rfl rfl (ltb rfl) ?_)
     refine VO.step (.some rfl rfl rfl) (V1.move rfl rfl rfl (ltb rfl) ?_)
     refine VO.step (.some rfl rfl rfl) (V1.call rfl rfl rfl cok_12 rfl (ok_laws_rInts (cond_f hg4 hh7)) rfl (ltb rfl) ?_)
     rintro _ _ ⟨rfl, rfl⟩
     refine VO.step (.some rfl rfl rfl) (V1.not rfl rfl rfl (ltb rfl) ?_)
     exact VO.nil ⟨rfl, rfl, rfl, rfl, .inr ⟨rfl, .inr ⟨rfl, .inr ⟨rfl, .inr ⟨rfl, .inr ⟨rfl, .inl rfl⟩⟩⟩⟩⟩⟩
    refine VO.nil ?_
    refine V.keep 272 [0, 3, 4, 11, 12, 104] [] (E0 := [(0, .vl ρ0 1 (List.map encU8 code)), (3, .vl rn 3 (List.map encFunction y1.1)), (4, .int .i64 y1.2), (11, .vl rn 1 (List.map encInt y5.1)), (12, .bool y5.2), (104, .bool (((!(y5.2 == y6.2)) || (!(y5.2 == y2.2))) || (!y7)))]) (H0 := []) rfl (⟨_, _, rfl, rfl, ⟨_, _, rfl, rfl, ⟨_, _, rfl, rfl, ⟨_, _, rfl, rfl, ⟨_, _, rfl, rfl, ⟨_, _, rfl, rfl, rfl⟩⟩⟩⟩⟩⟩) (rfl) rfl ?_
    refine V.cond rfl (fun hc3 => ?_) (fun hc3 => ?_)
    ·
     replace hm0 := cond_t hc3 hm0
     refine V.seq ?_
     refine V.region ?_
     refine VO.cons rfl (V1.assign rfl rfl rfl (ltb rfl) ?_)
     refine VO.nil ?_
     refine V.ret ?_
     obtain rfl := Option.some.inj hm0
     exact ⟨_, [], ⟨_, _, rfl, rfl, rfl⟩, List.nil_sublist _, rfl, rfl⟩
    ·
     replace hm0 := cond_f hc3 hm0
     refine V.skip ?_
     refine V.seq ?_
     refine V.seq ?_
     refine V.region ?_
     refine VO.cons rfl (V1.assign rfl rfl rfl (ltb rfl) ?_)
     refine VO.nil ?_
     replace hm0 := bindO hm0; rcases hm0 with ⟨e0, he1, hm0⟩
     refine V.cutT (D := (Unit) × (Unit)) (fun ⟨_, _⟩ => ⟨272, [(0, .vl ρ0 1 (List.map encU8 code))], []⟩) (fun ⟨_, _⟩ => (.inl () = e0)) ?_ ?_
     ·
      refine V.block ?_
      refine V.keep 272 [15, 0, 3, 4, 11, 12] [] (E0 := [(15, .int .i64 (0 : Int)), (0, .vl ρ0 1 (List.map encU8 code)), (3, .vl rn 3 (List.map encFunction y1.1)), (4, .int .i64 y1.2), (11, .vl rn 1 (List.map encInt y5.1)), (12, .bool y5.2)]) (H0 := []) rfl (⟨_, _, rfl, rfl, ⟨_, _, rfl, rfl, ⟨_, _, rfl, rfl, ⟨_, _, rfl, rfl, ⟨_, _, rfl, rfl, ⟨_, _, rfl, rfl, rfl⟩⟩⟩⟩⟩⟩) (rfl) rfl ?_
      refine V.loopE (D := Nat × (Int) × (Unit)) (fun ⟨n0, i, _⟩ => [(15, .int .i64 i)]) (fun ⟨n0, i, _⟩ => []) (fun ⟨n0, i, _⟩ => loopO (M.laws_FnTrees_l0 y1 y5) n0 i = some e0) (fun ⟨n0, _, _⟩ => n0) (rounds, (0 : Int), ()) rfl he1 ?_
      rintro ⟨n0, i, _⟩ hP0
      obtain ⟨m0, y8, rfl, hm1, hl1, hr1⟩ := loop_head hP0
      unfold M.laws_FnTrees_l0 at hm1; dsimp only at hm1
      show V _ _ _ ⟨272, [(15, .int .i64 i), (0, .vl ρ0 1 (List.map encU8 code)), (3, .vl rn 3 (List.map encFunction y1.1)), (4, .int .i64 y1.2), (11, .vl rn 1 (List.map encInt y5.1)), (12, .bool y5.2)], []⟩
      refine V.seq ?_
      refine V.seq ?_
      refine V.region ?_
      refine VO.cons rfl (V1.move rfl rfl rfl (ltb rfl) ?_)
      refine VO.cons rfl (V1.move rfl rfl rfl (ltb rfl) ?_)
      refine VO.cons rfl (V1.lenMap rfl rfl rfl rfl rfl rfl isl_24 (ltb rfl) ?_)
      refine VO.cons rfl (V1.int rfl rfl rfl rfl rfl (ltb rfl) ?_)
      refine VO.cons rfl (V1.move rfl rfl rfl (ltb rfl) ?_)
      apply VO.and (n := 1) rfl rfl rfl rfl rfl rfl (ltb rfl) (.none rfl)
      ·
       intro hg5
       refine VO.step (.some rfl rfl rfl) (V1.move rfl rfl rfl (ltb rfl) ?_)
       exact VO.nil ⟨rfl, rfl, rfl, rfl, .inr ⟨rfl, .inr ⟨rfl, .inl rfl⟩⟩⟩
      refine VO.nil ?_
      refine V.keep 272 [0, 3, 4, 11, 12, 15, 111] [] (E0 := [(0, .vl ρ0 1 (List.map encU8 code)), (3, .vl rn 3 (List.map encFunction y1.1)), (4, .int .i64 y1.2), (11, .vl rn 1 (List.map encInt y5.1)), (12, .bool y5.2), (15, .int .i64 i), (111, .bool ((decide (i < (y1.1.length : Int))) && y5.2))]) (H0 := []) rfl (⟨_, _, rfl, rfl, ⟨_, _, rfl, rfl, ⟨_, _, rfl, rfl, ⟨_, _, rfl, rfl, ⟨_, _, rfl, rfl, ⟨_, _, rfl, rfl, ⟨_, _, rfl, rfl, rfl⟩⟩⟩⟩⟩⟩⟩) (rfl) rfl ?_
      refine V.cond rfl (fun hc4 => ?_) (fun hc4 => ?_)
      ·
       replace hm1 := cond_t hc4 hm1
       refine V.skip ?_
       refine V.seq ?_
       refine V.block ?_
       refine V.seq ?_
       replace hm1 := asrt_some hm1; rcases hm1 with ⟨hh8, hm1⟩
       replace hm1 := bindO hm1; rcases hm1 with ⟨y9, hh9, hm1⟩
       refine V.region ?_
       refine VO.cons rfl (V1.move rfl rfl rfl (ltb rfl) ?_)
       refine VO.cons rfl (V1.move rfl rfl rfl (ltb rfl) ?_)
       refine VO.cons rfl (V1.move rfl rfl rfl (ltb rfl) ?_)
       refine VO.cons rfl (V1.indexI rfl rfl esz_24 rfl rfl hh8 (ltb rfl) ?_)
       refine VO.cons rfl (V1.fieldPin rfl rfl fo_36_0 rfl (ltb rfl) ?_)
       refine VO.cons rfl (V1.loadPin rfl rfl tyk_3 rfl rfl (ltb rfl) ?_)
       refine VO.cons rfl (V1.permK (V1.call rfl rfl rfl cok_13 rfl (ok_impl_PathTo hh9) rfl (ltb rfl) ?_))
       rintro _ _ ⟨ob1, hob1, rfl, rfl⟩
       refine ⟨_, ?_, Keeps.optBack (n := 1) (ob := ob1) (xs := List.map encInt y9.1) (H1 := []) (H2 := []) rfl⟩
       refine VO.cons rfl (V1.move rfl rfl rfl (ltb rfl) ?_)
       refine VO.cons rfl (V1.extract rfl rfl rfl rfl (ltb rfl) ?_)
       refine VO.weakenK (Keeps.optFront (n := 1) (ob := ob1) (xs := List.map encInt y9.1) (H1 := []) rfl) ?_
       refine VO.weakenK (Keeps.optVl 122 [] rn (f := encInt) (l := y9.1) (ob := ob1) (H1 := []) hob1 rfl rfl ⟨rfl, trivial⟩ (fun _ => rfl) rfl iNil) ?_
       refine VO.cons rfl (V1.extract rfl rfl rfl rfl (ltb rfl) ?_)
       refine VO.cons rfl (V1.assign rfl rfl rfl (ltb rfl) ?_)
       refine VO.cons rfl (V1.assign rfl rfl rfl (ltb rfl) ?_)
       refine VO.nil ?_
       refine V.keep 272 [0, 3, 4, 11, 12, 15, 16, 17] [] (E0 := [(0, .vl ρ0 1 (List.map encU8 code)), (3, .vl rn 3 (List.map encFunction y1.1)), (4, .int .i64 y1.2), (11, .vl rn 1 (List.map encInt y5.1)), (12, .bool y5.2), (15, .int .i64 i), (16, .vl rn 1 (List.map encInt y9.1)), (17, .bool y9.2)]) (H0 := []) rfl (⟨_, _, rfl, rfl, ⟨_, _, rfl, rfl, ⟨_, _, rfl, rfl, ⟨_, _, rfl, rfl, ⟨_, _, rfl, rfl, ⟨_, _, rfl, rfl, ⟨_, _, rfl, rfl, ⟨_, _, rfl, rfl, rfl⟩⟩⟩⟩⟩⟩⟩⟩) (rfl) rfl ?_
       refine V.seq ?_
       replace hm1 := asrt_some hm1; rcases hm1 with ⟨hh10, hm1⟩
       replace hm1 := bindO hm1; rcases hm1 with ⟨y10, hh11, hm1⟩
       replace hm1 := bindO hm1; rcases hm1 with ⟨y11, hh12, hm1⟩
       refine V.region ?_
       refine VO.cons rfl (V1.move rfl rfl rfl (ltb rfl) ?_)
       refine VO.cons rfl (V1.not rfl rfl rfl (ltb rfl) ?_)
       refine VO.cons rfl (V1.move rfl rfl rfl (ltb rfl) ?_)
       apply VO.or (n := 11) rfl rfl rfl rfl rfl rfl (ltb rfl) (.none rfl)
       ·
        intro hg6
        refine VO.step (.some rfl rfl rfl) (V1.move rfl rfl rfl (ltb rfl) ?_)
        refine VO.step (.some rfl rfl rfl) (V1.move rfl rfl rfl (ltb rfl) ?_)
        refine VO.step (.some rfl rfl rfl) (V1.move rfl rfl rfl (ltb rfl) ?_)
        refine VO.step (.some rfl rfl rfl) (V1.indexI rfl rfl esz_24 rfl rfl (hh10 hg6) (ltb rfl) ?_)
        refine VO.step (.some rfl rfl rfl) (V1.fieldPin rfl rfl fo_36_0 rfl (ltb rfl) ?_)
        refine VO.step (.some rfl rfl rfl) (V1.loadPin rfl rfl tyk_3 rfl rfl (ltb rfl) ?_)
        refine VO.step (.some rfl rfl rfl) (V1.call rfl rfl rfl cok_14 rfl (ok_laws_rHas (cond_f hg6 hh11)) rfl (ltb rfl) ?_)
        rintro _ _ ⟨rfl, rfl⟩
        refine VO.step (.some rfl rfl rfl) (V1.move rfl rfl rfl (ltb rfl) ?_)
        refine VO.step (.some rfl rfl rfl) (V1.move rfl rfl rfl (ltb rfl) ?_)
        refine VO.step (.some rfl rfl rfl) (V1.call rfl rfl rfl cok_14 rfl (ok_laws_rHas (cond_f hg6 hh12)) rfl (ltb rfl) ?_)
        rintro _ _ ⟨rfl, rfl⟩
        refine VO.step (.some rfl rfl rfl) (V1.boolNeq rfl rfl und_4 rfl rfl (ltb rfl) ?_)
        exact VO.nil ⟨rfl, rfl, rfl, rfl, .inr ⟨rfl, .inr ⟨rfl, .inr ⟨rfl, .inr ⟨rfl, .inr ⟨rfl, .inr ⟨rfl, .inr ⟨rfl, .inr ⟨rfl, .inr ⟨rfl, .inr ⟨rfl, .inr ⟨rfl, .inr ⟨rfl, .inl rfl⟩⟩⟩⟩⟩⟩⟩⟩⟩⟩⟩⟩⟩
       refine VO.nil ?_
       refine V.keep 272 [0, 3, 4, 11, 12, 15, 138] [] (E0 := [(0, .vl ρ0 1 (List.map encU8 code)), (3, .vl rn 3 (List.map encFunction y1.1)), (4, .int .i64 y1.2), (11, .vl rn 1 (List.map encInt y5.1)), (12, .bool y5.2), (15, .int .i64 i), (138, .bool ((!y9.2) || (!(y10 == y11))))]) (H0 := []) rfl (⟨_, _, rfl, rfl, ⟨_, _, rfl, rfl, ⟨_, _, rfl, rfl, ⟨_, _, rfl, rfl, ⟨_, _, rfl, rfl, ⟨_, _, rfl, rfl, ⟨_, _, rfl, rfl, rfl⟩⟩⟩⟩⟩⟩⟩) (rfl) rfl ?_
       refine V.cond rfl (fun hc5 => ?_) (fun hc5 => ?_)
       ·
        replace hm1 := cond_t hc5 hm1
        refine V.seq ?_
        refine V.region ?_
        refine VO.cons rfl (V1.assign rfl rfl rfl (ltb rfl) ?_)
        refine VO.nil ?_
        refine V.ret ?_
        obtain rfl := hr1 _ (Option.some.inj hm1).symm
        change some _ = some _ at hm0
        obtain rfl := Option.some.inj hm0
        exact ⟨_, [], ⟨_, _, rfl, rfl, rfl⟩, List.nil_sublist _, rfl, rfl⟩
       ·
        replace hm1 := cond_f hc5 hm1
        refine V.skip ?_
        refine V.region ?_
        refine VO.cons rfl (V1.move rfl rfl rfl (ltb rfl) ?_)
        refine VO.cons rfl (V1.int rfl rfl rfl rfl rfl (ltb rfl) ?_)
        refine VO.cons rfl (V1.assign rfl rfl rfl (ltb rfl) ?_)
        refine VO.nil ?_
        exact ⟨(m0, (IntKind.i64.wrap (i + (1 : Int))), ()), hl1 _ (Option.some.inj hm1).symm, Nat.lt_succ_self _, Keeps.mk (ks := []) rfl ⟨rfl, rfl, rfl, rfl, rfl, rfl, trivial⟩ (rfl) rfl⟩
      ·
       replace hm1 := cond_f hc4 hm1
       refine V.exit ?_
       obtain rfl := hr1 _ (Option.some.inj hm1).symm
       exact ⟨((), ()), rfl, Keeps.mk (ks := []) rfl ⟨rfl, trivial⟩ (rfl) rfl⟩
     ·
      rintro ⟨_, _⟩ rfl
      try dsimp only at hm0
      refine V.seq ?_
      replace hm0 := bindO hm0; rcases hm0 with ⟨y12, hh13, hm0⟩
      refine V.region ?_
      refine VO.cons rfl (V1.move rfl rfl rfl (ltb rfl) ?_)
      refine VO.cons rfl (V1.call rfl rfl rfl cok_15 rfl (ok_spec_DrawSharedPath hh13) rfl (ltb rfl) ?_)
      rintro _ _ ⟨b2, rfl, rfl⟩
      refine VO.cons rfl (V1.move rfl rfl rfl (ltb rfl) ?_)
      refine VO.cons rfl (V1.extract rfl rfl rfl rfl (ltb rfl) ?_)
      refine VO.weakenK (Keeps.freezeG 0 rn [(142, .vl rn 3 (List.map encFunction y12.1))] [] (f := encFunction) (l := y12.1) rfl (fun _ => rfl) ⟨⟨_, rfl, .here⟩, trivial⟩ rfl rfl iNil) ?_
      refine VO.cons rfl (V1.extract rfl rfl rfl rfl (ltb rfl) ?_)
      refine VO.cons rfl (V1.extract rfl rfl rfl rfl (ltb rfl) ?_)
      refine VO.cons rfl (V1.assign rfl rfl rfl (ltb rfl) ?_)
      refine VO.cons rfl (V1.assign rfl rfl rfl (ltb rfl) ?_)
      refine VO.cons rfl (V1.assign rfl rfl rfl (ltb rfl) ?_)
      refine VO.nil ?_
      refine V.keep 272 [0, 18, 19, 20] [] (E0 := [(0, .vl ρ0 1 (List.map encU8 code)), (18, .vl rn 3 (List.map encFunction y12.1)), (19, .int .i64 y12.2.1), (20, .int .i64 y12.2.2)]) (H0 := []) rfl (⟨_, _, rfl, rfl, ⟨_, _, rfl, rfl, ⟨_, _, rfl, rfl, ⟨_, _, rfl, rfl, rfl⟩⟩⟩⟩) (rfl) rfl ?_
      refine V.seq ?_
      replace hm0 := bindO hm0; rcases hm0 with ⟨y13, hh14, hm0⟩
      refine V.region ?_
      refine VO.cons rfl (V1.move rfl rfl rfl (ltb rfl) ?_)
      refine VO.cons rfl (V1.move rfl rfl rfl (ltb rfl) ?_)
      refine VO.cons rfl (V1.move rfl rfl rfl (ltb rfl) ?_)
      refine VO.cons rfl (V1.call rfl rfl rfl cok_16 rfl (ok_impl_SharedPath hh14) rfl (ltb rfl) ?_)
      rintro _ _ ⟨rfl, rfl⟩
      refine VO.cons rfl (V1.move rfl rfl rfl (ltb rfl) ?_)
      refine VO.cons rfl (V1.extract rfl rfl rfl rfl (ltb rfl) ?_)
      refine VO.cons rfl (V1.extract rfl rfl rfl rfl (ltb rfl) ?_)
      refine VO.cons rfl (V1.assign rfl rfl rfl (ltb rfl) ?_)
      refine VO.cons rfl (V1.assign rfl rfl rfl (ltb rfl) ?_)
      refine VO.nil ?_
      refine V.keep 272 [0, 18, 19, 20, 21, 22] [] (E0 := [(0, .vl ρ0 1 (List.map encU8 code)), (18, .vl rn 3 (List.map encFunction y12.1)), (19, .int .i64 y12.2.1), (20, .int .i64 y12.2.2), (21, .vl rn 1 (List.map encInt y13.1)), (22, .bool y13.2)]) (H0 := []) rfl (⟨_, _, rfl, rfl, ⟨_, _, rfl, rfl, ⟨_, _, rfl, rfl, ⟨_, _, rfl, rfl, ⟨_, _, rfl, rfl, ⟨_, _, rfl, rfl, rfl⟩⟩⟩⟩⟩⟩) (rfl) rfl ?_
      refine V.seq ?_
      refine V.seq ?_
      replace hm0 := bindO hm0; rcases hm0 with ⟨y14, hh15, hm0⟩
      refine V.region ?_
      refine VO.cons rfl (V1.move rfl rfl rfl (ltb rfl) ?_)
      refine VO.cons rfl (V1.move rfl rfl rfl (ltb rfl) ?_)
      refine VO.cons rfl (V1.move rfl rfl rfl (ltb rfl) ?_)
      refine VO.cons rfl (V1.call rfl rfl rfl cok_17 rfl (ok_spec_SharedPath hh15) rfl (ltb rfl) ?_)
      rintro _ _ ⟨b3, rfl, rfl⟩
      refine VO.cons rfl (V1.move rfl rfl rfl (ltb rfl) ?_)
      refine VO.cons rfl (V1.extract rfl rfl rfl rfl (ltb rfl) ?_)
      refine VO.weakenK (Keeps.freezeG 0 rn [(157, .vl rn 1 (List.map encInt y14.1))] [] (f := encInt) (l := y14.1) rfl (fun _ => rfl) ⟨⟨_, rfl, .here⟩, trivial⟩ rfl rfl iNil) ?_
      refine VO.cons rfl (V1.extract rfl rfl rfl rfl (ltb rfl) ?_)
      refine VO.cons rfl (V1.assign rfl rfl rfl (ltb rfl) ?_)
      refine VO.cons rfl (V1.assign rfl rfl rfl (ltb rfl) ?_)
      refine VO.nil ?_
      refine V.keep 272 [0, 18, 19, 20, 21, 22, 23, 24] [] (E0 := [(0, .vl ρ0 1 (List.map encU8 code)), (18, .vl rn 3 (List.map encFunction y12.1)), (19, .int .i64 y12.2.1), (20, .int .i64 y12.2.2), (21, .vl rn 1 (List.map encInt y13.1)), (22, .bool y13.2), (23, .vl rn 1 (List.map encInt y14.1)), (24, .bool y14.2)]) (H0 := []) rfl (⟨_, _, rfl, rfl, ⟨_, _, rfl, rfl, ⟨_, _, rfl, rfl, ⟨_, _, rfl, rfl, ⟨_, _, rfl, rfl, ⟨_, _, rfl, rfl, ⟨_, _, rfl, rfl, ⟨_, _, rfl, rfl, rfl⟩⟩⟩⟩⟩⟩⟩⟩) (rfl) rfl ?_
      refine V.seq ?_
      replace hm0 := bindO hm0; rcases hm0 with ⟨y15, hh16, hm0⟩
      refine V.region ?_
      refine VO.cons rfl (V1.move rfl rfl rfl (ltb rfl) ?_)
      refine VO.cons rfl (V1.move rfl rfl rfl (ltb rfl) ?_)
      refine VO.cons rfl (V1.boolNeq rfl rfl und_4 rfl rfl (ltb rfl) ?_)
      refine VO.cons rfl (V1.move rfl rfl rfl (ltb rfl) ?_)
      apply VO.or (n := 4) rfl rfl rfl rfl rfl rfl (ltb rfl) (.none rfl)
      ·
       intro hg7
       refine VO.step (.some rfl rfl rfl) (V1.move rfl rfl rfl (ltb rfl) ?_)
       refine VO.step (.some rfl rfl rfl) (V1.move rfl rfl rfl (ltb rfl) ?_)
       refine VO.step (.some rfl rfl rfl) (V1.call rfl rfl rfl cok_12 rfl (ok_laws_rInts (cond_f hg7 hh16)) rfl (ltb rfl) ?_)
       rintro _ _ ⟨rfl, rfl⟩
       refine VO.step (.some rfl rfl rfl) (V1.not rfl rfl rfl (ltb rfl) ?_)
       exact VO.nil ⟨rfl, rfl, rfl, rfl, .inr ⟨rfl, .inr ⟨rfl, .inr ⟨rfl, .inr ⟨rfl, .inr ⟨rfl, .inl rfl⟩⟩⟩⟩⟩⟩
      refine VO.nil ?_
      refine V.keep 272 [0, 18, 19, 20, 21, 22, 167] [] (E0 := [(0, .vl ρ0 1 (List.map encU8 code)), (18, .vl rn 3 (List.map encFunction y12.1)), (19, .int .i64 y12.2.1), (20, .int .i64 y12.2.2), (21, .vl rn 1 (List.map encInt y13.1)), (22, .bool y13.2), (167, .bool ((!(y13.2 == y14.2)) || (!y15)))]) (H0 := []) rfl (⟨_, _, rfl, rfl, ⟨_, _, rfl, rfl, ⟨_, _, rfl, rfl, ⟨_, _, rfl, rfl, ⟨_, _, rfl, rfl, ⟨_, _, rfl, rfl, ⟨_, _, rfl, rfl, rfl⟩⟩⟩⟩⟩⟩⟩) (rfl) rfl ?_
      refine V.cond rfl (fun hc6 => ?_) (fun hc6 => ?_)
      ·
       replace hm0 := cond_t hc6 hm0
       refine V.seq ?_
       refine V.region ?_
       refine VO.cons rfl (V1.assign rfl rfl rfl (ltb rfl) ?_)
       refine VO.nil ?_
       refine V.ret ?_
       obtain rfl := Option.some.inj hm0
       exact ⟨_, [], ⟨_, _, rfl, rfl, rfl⟩, List.nil_sublist _, rfl, rfl⟩
      ·
       replace hm0 := cond_f hc6 hm0
       refine V.skip ?_
       refine V.seq ?_
       replace hm0 := bindO hm0; rcases hm0 with ⟨j0, hm1, hm0⟩
       refine V.cutT (D := (Unit) × (Unit)) (fun ⟨_, _⟩ => ⟨272, [(0, .vl ρ0 1 (List.map encU8 code))], []⟩) (fun ⟨_, _⟩ => (.inl () = j0)) ?_ ?_
       ·
        refine V.seq ?_
        refine V.region ?_
        refine VO.cons rfl (V1.move rfl rfl rfl (ltb rfl) ?_)
        refine VO.nil ?_
        refine V.cond rfl (fun hc7 => ?_) (fun hc7 => ?_)
        ·
         replace hm1 := cond_t hc7 hm1
         refine V.seq ?_
         replace hm1 := bindO hm1; rcases hm1 with ⟨y16, hh17, hm1⟩
         refine V.region ?_
         refine VO.cons rfl (V1.move rfl rfl rfl (ltb rfl) ?_)
         refine VO.cons rfl (V1.move rfl rfl rfl (ltb rfl) ?_)
         refine VO.cons rfl (V1.permK (V1.call rfl rfl rfl cok_13 rfl (ok_impl_PathTo hh17) rfl (ltb rfl) ?_))
         rintro _ _ ⟨ob2, hob2, rfl, rfl⟩
         refine ⟨_, ?_, Keeps.optBack (n := 1) (ob := ob2) (xs := List.map encInt y16.1) (H1 := []) (H2 := []) rfl⟩
         refine VO.cons rfl (V1.move rfl rfl rfl (ltb rfl) ?_)
         refine VO.cons rfl (V1.extract rfl rfl rfl rfl (ltb rfl) ?_)
         refine VO.weakenK (Keeps.optFront (n := 1) (ob := ob2) (xs := List.map encInt y16.1) (H1 := []) rfl) ?_
         refine VO.weakenK (Keeps.optVl 173 [] rn (f := encInt) (l := y16.1) (ob := ob2) (H1 := []) hob2 rfl rfl ⟨rfl, trivial⟩ (fun _ => rfl) rfl iNil) ?_
         refine VO.cons rfl (V1.extract rfl rfl rfl rfl (ltb rfl) ?_)
         refine VO.cons rfl (V1.assign rfl rfl rfl (ltb rfl) ?_)
         refine VO.cons rfl (V1.assign rfl rfl rfl (ltb rfl) ?_)
         refine VO.nil ?_
         refine V.keep 272 [0, 18, 20, 21, 25, 26] [] (E0 := [(0, .vl ρ0 1 (List.map encU8 code)), (18, .vl rn 3 (List.map encFunction y12.1)), (20, .int .i64 y12.2.2), (21, .vl rn 1 (List.map encInt y13.1)), (25, .vl rn 1 (List.map encInt y16.1)), (26, .bool y16.2)]) (H0 := []) rfl (⟨_, _, rfl, rfl, ⟨_, _, rfl, rfl, ⟨_, _, rfl, rfl, ⟨_, _, rfl, rfl, ⟨_, _, rfl, rfl, ⟨_, _, rfl, rfl, rfl⟩⟩⟩⟩⟩⟩) (rfl) rfl ?_
         refine V.seq ?_
         replace hm1 := bindO hm1; rcases hm1 with ⟨y17, hh18, hm1⟩
         refine V.region ?_
         refine VO.cons rfl (V1.move rfl rfl rfl (ltb rfl) ?_)
         refine VO.cons rfl (V1.move rfl rfl rfl (ltb rfl) ?_)
         refine VO.cons rfl (V1.permK (V1.call rfl rfl rfl cok_13 rfl (ok_impl_PathTo hh18) rfl (ltb rfl) ?_))
         rintro _ _ ⟨ob3, hob3, rfl, rfl⟩
         refine ⟨_, ?_, Keeps.optBack (n := 1) (ob := ob3) (xs := List.map encInt y17.1) (H1 := []) (H2 := []) rfl⟩
         refine VO.cons rfl (V1.move rfl rfl rfl (ltb rfl) ?_)
         refine VO.cons rfl (V1.extract rfl rfl rfl rfl (ltb rfl) ?_)
         refine VO.weakenK (Keeps.optFront (n := 1) (ob := ob3) (xs := List.map encInt y17.1) (H1 := []) rfl) ?_
         refine VO.weakenK (Keeps.optVl 179 [] rn (f := encInt) (l := y17.1) (ob := ob3) (H1 := []) hob3 rfl rfl ⟨rfl, trivial⟩ (fun _ => rfl) rfl iNil) ?_
         refine VO.cons rfl (V1.extract rfl rfl rfl rfl (ltb rfl) ?_)
         refine VO.cons rfl (V1.assign rfl rfl rfl (ltb rfl) ?_)
         refine VO.cons rfl (V1.assign rfl rfl rfl (ltb rfl) ?_)
         refine VO.nil ?_
         refine V.keep 272 [0, 21, 25, 26, 27, 28] [] (E0 := [(0, .vl ρ0 1 (List.map encU8 code)), (21, .vl rn 1 (List.map encInt y13.1)), (25, .vl rn 1 (List.map encInt y16.1)), (26, .bool y16.2), (27, .vl rn 1 (List.map encInt y17.1)), (28, .bool y17.2)]) (H0 := []) rfl (⟨_, _, rfl, rfl, ⟨_, _, rfl, rfl, ⟨_, _, rfl, rfl, ⟨_, _, rfl, rfl, ⟨_, _, rfl, rfl, ⟨_, _, rfl, rfl, rfl⟩⟩⟩⟩⟩⟩) (rfl) rfl ?_
         refine V.seq ?_
         refine V.region ?_
         refine VO.cons rfl (V1.move rfl rfl rfl (ltb rfl) ?_)
         refine VO.cons rfl (V1.lenMap rfl rfl rfl rfl rfl rfl isl_31 (ltb rfl) ?_)
         refine VO.cons rfl (V1.assign rfl rfl rfl (ltb rfl) ?_)
         refine VO.nil ?_
         refine V.seq ?_
         replace hm1 := asrt_some hm1; rcases hm1 with ⟨hh19, hm1⟩
         replace hm1 := bindO hm1; rcases hm1 with ⟨y18, hh20, hm1⟩
         replace hm1 := asrt_some hm1; rcases hm1 with ⟨hh21, hm1⟩
         replace hm1 := bindO hm1; rcases hm1 with ⟨y19, hh22, hm1⟩
         replace hm1 := asrt_some hm1; rcases hm1 with ⟨hh23, hm1⟩
         replace hm1 := asrt_some hm1; rcases hm1 with ⟨hh24, hm1⟩
         refine V.regionM 272 57 [⟨[(26, none)], [], none⟩, ⟨[(183, some 0)], [], none⟩, ⟨[(184, some 0)], [], none⟩, ⟨[(28, none)], [(0, false)], none⟩, ⟨[(186, some 0)], [(1, false)], none⟩, ⟨[], [], some (false, 185, 187, 2, 0)⟩, ⟨[(188, some 0)], [], none⟩, ⟨[(25, none)], [(0, false)], none⟩, ⟨[(190, some 0)], [(1, false)], none⟩, ⟨[(29, none)], [(2, false)], none⟩, ⟨[(191, some 1), (192, some 0)], [(3, false)], none⟩, ⟨[], [], some (false, 189, 193, 4, 0)⟩, ⟨[(194, some 0)], [], none⟩, ⟨[(27, none)], [(0, false)], none⟩, ⟨[(196, some 0)], [(1, false)], none⟩, ⟨[(29, none)], [(2, false)], none⟩, ⟨[(197, some 1), (198, some 0)], [(3, false)], none⟩, ⟨[], [], some (false, 195, 199, 4, 0)⟩, ⟨[(200, some 0)], [], none⟩, ⟨[(25, none)], [(0, false)], none⟩, ⟨[(29, none)], [(1, false)], none⟩, ⟨[(202, some 1), (203, some 0)], [(2, false)], none⟩, ⟨[(21, none)], [(3, false)], none⟩, ⟨[(204, some 1), (205, some 0)], [(4, false)], none⟩, ⟨[(206, some 0)], [(5, false)], none⟩, ⟨[], [], some (false, 201, 207, 6, 0)⟩, ⟨[(208, some 0)], [], none⟩, ⟨[(27, none)], [(0, false)], none⟩, ⟨[(29, none)], [(1, false)], none⟩, ⟨[(210, some 1), (211, some 0)], [(2, false)], none⟩, ⟨[(21, none)], [(3, false)], none⟩, ⟨[(212, some 1), (213, some 0)], [(4, false)], none⟩, ⟨[(214, some 0)], [(5, false)], none⟩, ⟨[], [], some (false, 209, 215, 6, 0)⟩, ⟨[(216, some 0)], [], none⟩, ⟨[(25, none)], [(0, false)], none⟩, ⟨[(218, some 0)], [(1, false)], none⟩, ⟨[(29, none)], [(2, false)], none⟩, ⟨[(219, some 1), (220, some 0)], [(3, false)], none⟩, ⟨[(221, some 0)], [(4, false)], none⟩, ⟨[(27, none)], [(0, true), (5, false)], none⟩, ⟨[(223, some 0)], [(1, true), (6, false)], none⟩, ⟨[(29, none)], [(2, true), (7, false)], none⟩, ⟨[(224, some 1), (225, some 0)], [(3, true), (8, false)], none⟩, ⟨[], [(9, false)], some (true, 222, 226, 4, 0)⟩, ⟨[(227, some 0)], [(10, false)], none⟩, ⟨[(25, none)], [(0, true), (11, false)], none⟩, ⟨[(29, none)], [(1, true), (12, false)], none⟩, ⟨[(229, some 1), (230, some 0)], [(2, true), (13, false)], none⟩, ⟨[(231, some 0)], [(3, true), (14, false)], none⟩, ⟨[(27, none)], [(4, true), (15, false)], none⟩, ⟨[(29, none)], [(5, true), (16, false)], none⟩, ⟨[(233, some 1), (234, some 0)], [(6, true), (17, false)], none⟩, ⟨[(235, some 0)], [(7, true), (18, false)], none⟩, ⟨[(232, some 4), (236, some 0)], [(8, true), (19, false)], none⟩, ⟨[], [(20, false)], some (true, 228, 237, 9, 0)⟩, ⟨[], [], some (false, 217, 238, 21, 0)⟩] [(0, none), (239, some 0)] (⟨_, rfl, ⟨_, rfl, ⟨_, rfl, ⟨_, rfl, ⟨_, rfl, ⟨_, rfl, ⟨_, rfl, ⟨_, rfl, ⟨_, rfl, ⟨_, rfl, ⟨_, rfl, ⟨_, rfl, ⟨_, rfl, ⟨_, rfl, ⟨_, rfl, ⟨_, rfl, ⟨_, rfl, ⟨_, rfl, ⟨_, rfl, ⟨_, rfl, ⟨_, rfl, ⟨_, rfl, ⟨_, rfl, ⟨_, rfl, ⟨_, rfl, ⟨_, rfl, ⟨_, rfl, ⟨_, rfl, ⟨_, rfl, ⟨_, rfl, ⟨_, rfl, ⟨_, rfl, ⟨_, rfl, ⟨_, rfl, ⟨_, rfl, ⟨_, rfl, ⟨_, rfl, ⟨_, rfl, ⟨_, rfl, ⟨_, rfl, ⟨_, rfl, ⟨_, rfl, ⟨_, rfl, ⟨_, rfl, ⟨_, rfl, ⟨_, rfl, ⟨_, rfl, ⟨_, rfl, ⟨_, rfl, ⟨_, rfl, ⟨_, rfl, ⟨_, rfl, ⟨_, rfl, ⟨_, rfl, ⟨_, rfl, ⟨_, rfl, ⟨_, rfl, ⟨rfl, rfl⟩⟩⟩⟩⟩⟩⟩⟩⟩⟩⟩⟩⟩⟩⟩⟩⟩⟩⟩⟩⟩⟩⟩⟩⟩⟩⟩⟩⟩⟩⟩⟩⟩⟩⟩⟩⟩⟩⟩⟩⟩⟩⟩⟩⟩⟩⟩⟩⟩⟩⟩⟩⟩⟩⟩⟩⟩⟩) mixed_orders rfl (by decide +kernel) (fun hck30 => ?_)
         refine VP.step (p := ?pv246) rfl rfl rfl (⟨_, _, rfl, rfl, rfl⟩) ?hv246 ?rest246 hck30
         case hv246 =>
          intro E1
          refine (V1.move rfl rfl rfl (ltb rfl) ?_)
          exact rfl
         refine VP.step (p := ?pv247) rfl rfl rfl (⟨_, _, rfl, rfl, rfl⟩) ?hv247 ?rest247 hck30
         case hv247 =>
          intro E1
          refine (V1.not rfl rfl rfl (ltb rfl) ?_)
          exact rfl
         refine VP.step (p := ?pv248) rfl rfl rfl (⟨_, _, rfl, rfl, rfl⟩) ?hv248 ?rest248 hck30
         case hv248 =>
          intro E1
          refine (V1.move rfl rfl rfl (ltb rfl) ?_)
          exact rfl
         refine VP.step (p := ?pv249) rfl rfl rfl (⟨_, _, rfl, rfl, rfl⟩) ?hv249 ?rest249 hck30
         case hv249 =>
          refine ⟨_, rfl, fun hg8 => ?_⟩
          intro E1
          refine (V1.move rfl rfl rfl (ltb rfl) ?_)
          exact rfl
         refine VP.step (p := ?pv250) rfl rfl rfl (⟨_, _, rfl, rfl, rfl⟩) ?hv250 ?rest250 hck30
         case hv250 =>
          refine ⟨_, rfl, fun hg8 => ?_⟩
          intro E1
          refine (V1.not rfl rfl rfl (ltb rfl) ?_)
          exact rfl
         refine VP.pickOr rfl rfl rfl rfl rfl rfl (trivial) ?_ hck30
         refine VP.step (p := ?pv251) rfl rfl rfl (⟨_, _, rfl, rfl, rfl⟩) ?hv251 ?rest251 hck30
         case hv251 =>
          intro E1
          refine (V1.move rfl rfl rfl (ltb rfl) ?_)
          exact rfl
         refine VP.step (p := ?pv252) rfl rfl rfl (⟨_, _, rfl, rfl, rfl⟩) ?hv252 ?rest252 hck30
         case hv252 =>
          refine ⟨_, rfl, fun hg9 => ?_⟩
          intro E1
          refine (V1.move rfl rfl rfl (ltb rfl) ?_)
          exact rfl
         refine VP.step (p := ?pv253) rfl rfl rfl (⟨_, _, rfl, rfl, rfl⟩) ?hv253 ?rest253 hck30
         case hv253 =>
          refine ⟨_, rfl, fun hg9 => ?_⟩
          intro E1
          refine (V1.lenMap rfl rfl rfl rfl rfl rfl isl_31 (ltb rfl) ?_)
          exact rfl
         refine VP.step (p := ?pv254) rfl rfl rfl (⟨_, _, rfl, rfl, rfl⟩) ?hv254 ?rest254 hck30
         case hv254 =>
          refine ⟨_, rfl, fun hg9 => ?_⟩
          intro E1
          refine (V1.move rfl rfl rfl (ltb rfl) ?_)
          exact rfl
         refine VP.step (p := ?pv255) rfl rfl rfl (⟨_, _, rfl, rfl, ⟨_, _, rfl, rfl, rfl⟩⟩) ?hv255 ?rest255 hck30
         case hv255 =>
          refine ⟨_, rfl, fun hg9 => ?_⟩
          intro E1
          refine (V1.int rfl rfl rfl rfl rfl (ltb rfl) ?_)
          exact rfl
         refine VP.pickOr rfl rfl rfl rfl rfl rfl (trivial) ?_ hck30
         refine VP.step (p := ?pv256) rfl rfl rfl (⟨_, _, rfl, rfl, rfl⟩) ?hv256 ?rest256 hck30
         case hv256 =>
          intro E1
          refine (V1.move rfl rfl rfl (ltb rfl) ?_)
          exact rfl
         refine VP.step (p := ?pv257) rfl rfl rfl (⟨_, _, rfl, rfl, rfl⟩) ?hv257 ?rest257 hck30
         case hv257 =>
          refine ⟨_, rfl, fun hg10 => ?_⟩
          intro E1
          refine (V1.move rfl rfl rfl (ltb rfl) ?_)
          exact rfl
         refine VP.step (p := ?pv258) rfl rfl rfl (⟨_, _, rfl, rfl, rfl⟩) ?hv258 ?rest258 hck30
         case hv258 =>
          refine ⟨_, rfl, fun hg10 => ?_⟩
          intro E1
          refine (V1.lenMap rfl rfl rfl rfl rfl rfl isl_31 (ltb rfl) ?_)
          exact rfl
         refine VP.step (p := ?pv259) rfl rfl rfl (⟨_, _, rfl, rfl, rfl⟩) ?hv259 ?rest259 hck30
         case hv259 =>
          refine ⟨_, rfl, fun hg10 => ?_⟩
          intro E1
          refine (V1.move rfl rfl rfl (ltb rfl) ?_)
          exact rfl
         refine VP.step (p := ?pv260) rfl rfl rfl (⟨_, _, rfl, rfl, ⟨_, _, rfl, rfl, rfl⟩⟩) ?hv260 ?rest260 hck30
         case hv260 =>
          refine ⟨_, rfl, fun hg10 => ?_⟩
          intro E1
          refine (V1.int rfl rfl rfl rfl rfl (ltb rfl) ?_)
          exact rfl
         refine VP.pickOr rfl rfl rfl rfl rfl rfl (trivial) ?_ hck30
         refine VP.step (p := ?pv261) rfl rfl rfl (⟨_, _, rfl, rfl, rfl⟩) ?hv261 ?rest261 hck30
         case hv261 =>
          intro E1
          refine (V1.move rfl rfl rfl (ltb rfl) ?_)
          exact rfl
         refine VP.step (p := ?pv262) rfl rfl rfl (⟨_, _, rfl, rfl, rfl⟩) ?hv262 ?rest262 hck30
         case hv262 =>
          refine ⟨_, rfl, fun hg11 => ?_⟩
          intro E1
          refine (V1.move rfl rfl rfl (ltb rfl) ?_)
          exact rfl
         refine VP.step (p := ?pv263) rfl rfl rfl (⟨_, _, rfl, rfl, rfl⟩) ?hv263 ?rest263 hck30
         case hv263 =>
          refine ⟨_, rfl, fun hg11 => ?_⟩
          intro E1
          refine (V1.move rfl rfl rfl (ltb rfl) ?_)
          exact rfl
         refine VP.step (p := ?pv264) rfl rfl rfl (⟨_, _, rfl, rfl, ⟨_, _, rfl, rfl, rfl⟩⟩) ?hv264 ?rest264 hck30
         case hv264 =>
          refine ⟨_, rfl, fun hg11 => ?_⟩
          intro E1
          refine (V1.sliceMap (a := (0 : Int)) (b := (y13.1.length : Int)) rfl rfl esz_31 rfl (Bnd.none _ _) (Bnd.some rfl (Int.le_trans (hh19 hg11).1 (hh19 hg11).2.1) _) (hh19 hg11) (ltb rfl) ?_)
          exact rfl
         refine VP.step (p := ?pv265) rfl rfl rfl (⟨_, _, rfl, rfl, rfl⟩) ?hv265 ?rest265 hck30
         case hv265 =>
          refine ⟨_, rfl, fun hg11 => ?_⟩
          intro E1
          refine (V1.move rfl rfl rfl (ltb rfl) ?_)
          exact rfl
         refine VP.step (p := ?pv266) rfl rfl rfl (⟨_, _, rfl, rfl, ⟨_, _, rfl, rfl, rfl⟩⟩) ?hv266 ?rest266 hck30
         case hv266 =>
          refine ⟨_, rfl, fun hg11 => ?_⟩
          intro E1
          refine (V1.call rfl rfl rfl cok_12 rfl (ok_laws_rInts (cond_f hg11 hh20)) rfl (ltb rfl) ?_)
          rintro _ _ ⟨rfl, rfl⟩
          exact rfl
         refine VP.step (p := ?pv267) rfl rfl rfl (⟨_, _, rfl, rfl, rfl⟩) ?hv267 ?rest267 hck30
         case hv267 =>
          refine ⟨_, rfl, fun hg11 => ?_⟩
          intro E1
          refine (V1.not rfl rfl rfl (ltb rfl) ?_)
          exact rfl
         refine VP.pickOr rfl rfl rfl rfl rfl rfl (trivial) ?_ hck30
         refine VP.step (p := ?pv268) rfl rfl rfl (⟨_, _, rfl, rfl, rfl⟩) ?hv268 ?rest268 hck30
         case hv268 =>
          intro E1
          refine (V1.move rfl rfl rfl (ltb rfl) ?_)
          exact rfl
         refine VP.step (p := ?pv269) rfl rfl rfl (⟨_, _, rfl, rfl, rfl⟩) ?hv269 ?rest269 hck30
         case hv269 =>
          refine ⟨_, rfl, fun hg12 => ?_⟩
          intro E1
          refine (V1.move rfl rfl rfl (ltb rfl) ?_)
          exact rfl
         refine VP.step (p := ?pv270) rfl rfl rfl (⟨_, _, rfl, rfl, rfl⟩) ?hv270 ?rest270 hck30
         case hv270 =>
          refine ⟨_, rfl, fun hg12 => ?_⟩
          intro E1
          refine (V1.move rfl rfl rfl (ltb rfl) ?_)
          exact rfl
         refine VP.step (p := ?pv271) rfl rfl rfl (⟨_, _, rfl, rfl, ⟨_, _, rfl, rfl, rfl⟩⟩) ?hv271 ?rest271 hck30
         case hv271 =>
          refine ⟨_, rfl, fun hg12 => ?_⟩
          intro E1
          refine (V1.sliceMap (a := (0 : Int)) (b := (y13.1.length : Int)) rfl rfl esz_31 rfl (Bnd.none _ _) (Bnd.some rfl (Int.le_trans (hh21 hg12).1 (hh21 hg12).2.1) _) (hh21 hg12) (ltb rfl) ?_)
          exact rfl
         refine VP.step (p := ?pv272) rfl rfl rfl (⟨_, _, rfl, rfl, rfl⟩) ?hv272 ?rest272 hck30
         case hv272 =>
          refine ⟨_, rfl, fun hg12 => ?_⟩
          intro E1
          refine (V1.move rfl rfl rfl (ltb rfl) ?_)
          exact rfl
         refine VP.step (p := ?pv273) rfl rfl rfl (⟨_, _, rfl, rfl, ⟨_, _, rfl, rfl, rfl⟩⟩) ?hv273 ?rest273 hck30
         case hv273 =>
          refine ⟨_, rfl, fun hg12 => ?_⟩
          intro E1
          refine (V1.call rfl rfl rfl cok_12 rfl (ok_laws_rInts (cond_f hg12 hh22)) rfl (ltb rfl) ?_)
          rintro _ _ ⟨rfl, rfl⟩
          exact rfl
         refine VP.step (p := ?pv274) rfl rfl rfl (⟨_, _, rfl, rfl, rfl⟩) ?hv274 ?rest274 hck30
         case hv274 =>
          refine ⟨_, rfl, fun hg12 => ?_⟩
          intro E1
          refine (V1.not rfl rfl rfl (ltb rfl) ?_)
          exact rfl
         refine VP.pickOr rfl rfl rfl rfl rfl rfl (trivial) ?_ hck30
         refine VP.step (p := ?pv275) rfl rfl rfl (⟨_, _, rfl, rfl, rfl⟩) ?hv275 ?rest275 hck30
         case hv275 =>
          intro E1
          refine (V1.move rfl rfl rfl (ltb rfl) ?_)
          exact rfl
         refine VP.step (p := ?pv276) rfl rfl rfl (⟨_, _, rfl, rfl, rfl⟩) ?hv276 ?rest276 hck30
         case hv276 =>
          refine ⟨_, rfl, fun hg13 => ?_⟩
          intro E1
          refine (V1.move rfl rfl rfl (ltb rfl) ?_)
          exact rfl
         refine VP.step (p := ?pv277) rfl rfl rfl (⟨_, _, rfl, rfl, rfl⟩) ?hv277 ?rest277 hck30
         case hv277 =>
          refine ⟨_, rfl, fun hg13 => ?_⟩
          intro E1
          refine (V1.lenMap rfl rfl rfl rfl rfl rfl isl_31 (ltb rfl) ?_)
          exact rfl
         refine VP.step (p := ?pv278) rfl rfl rfl (⟨_, _, rfl, rfl, rfl⟩) ?hv278 ?rest278 hck30
         case hv278 =>
          refine ⟨_, rfl, fun hg13 => ?_⟩
          intro E1
          refine (V1.move rfl rfl rfl (ltb rfl) ?_)
          exact rfl
         refine VP.step (p := ?pv279) rfl rfl rfl (⟨_, _, rfl, rfl, ⟨_, _, rfl, rfl, rfl⟩⟩) ?hv279 ?rest279 hck30
         case hv279 =>
          refine ⟨_, rfl, fun hg13 => ?_⟩
          intro E1
          refine (V1.int rfl rfl rfl rfl rfl (ltb rfl) ?_)
          exact rfl
         refine VP.step (p := ?pv280) rfl rfl rfl (⟨_, _, rfl, rfl, rfl⟩) ?hv280 ?rest280 hck30
         case hv280 =>
          refine ⟨_, rfl, fun hg13 => ?_⟩
          intro E1
          refine (V1.move rfl rfl rfl (ltb rfl) ?_)
          exact rfl
         refine VP.step (p := ?pv281) rfl rfl rfl (⟨_, _, rfl, rfl, rfl⟩) ?hv281 ?rest281 hck30
         case hv281 =>
          refine ⟨_, rfl, fun hg14 => ?_⟩
          refine ⟨_, rfl, fun hg13 => ?_⟩
          intro E1
          refine (V1.move rfl rfl rfl (ltb rfl) ?_)
          exact rfl
         refine VP.step (p := ?pv282) rfl rfl rfl (⟨_, _, rfl, rfl, rfl⟩) ?hv282 ?rest282 hck30
         case hv282 =>
          refine ⟨_, rfl, fun hg14 => ?_⟩
          refine ⟨_, rfl, fun hg13 => ?_⟩
          intro E1
          refine (V1.lenMap rfl rfl rfl rfl rfl rfl isl_31 (ltb rfl) ?_)
          exact rfl
         refine VP.step (p := ?pv283) rfl rfl rfl (⟨_, _, rfl, rfl, rfl⟩) ?hv283 ?rest283 hck30
         case hv283 =>
          refine ⟨_, rfl, fun hg14 => ?_⟩
          refine ⟨_, rfl, fun hg13 => ?_⟩
          intro E1
          refine (V1.move rfl rfl rfl (ltb rfl) ?_)
          exact rfl
         refine VP.step (p := ?pv284) rfl rfl rfl (⟨_, _, rfl, rfl, ⟨_, _, rfl, rfl, rfl⟩⟩) ?hv284 ?rest284 hck30
         case hv284 =>
          refine ⟨_, rfl, fun hg14 => ?_⟩
          refine ⟨_, rfl, fun hg13 => ?_⟩
          intro E1
          refine (V1.int rfl rfl rfl rfl rfl (ltb rfl) ?_)
          exact rfl
         refine VP.pickAnd rfl rfl rfl rfl rfl rfl (⟨_, rfl, fun _ => trivial⟩) ?_ hck30
         refine VP.step (p := ?pv285) rfl rfl rfl (⟨_, _, rfl, rfl, rfl⟩) ?hv285 ?rest285 hck30
         case hv285 =>
          refine ⟨_, rfl, fun hg13 => ?_⟩
          intro E1
          refine (V1.move rfl rfl rfl (ltb rfl) ?_)
          exact rfl
         refine VP.step (p := ?pv286) rfl rfl rfl (⟨_, _, rfl, rfl, rfl⟩) ?hv286 ?rest286 hck30
         case hv286 =>
          refine ⟨_, rfl, fun hg15 => ?_⟩
          refine ⟨_, rfl, fun hg13 => ?_⟩
          intro E1
          refine (V1.move rfl rfl rfl (ltb rfl) ?_)
          exact rfl
         refine VP.step (p := ?pv287) rfl rfl rfl (⟨_, _, rfl, rfl, rfl⟩) ?hv287 ?rest287 hck30
         case hv287 =>
          refine ⟨_, rfl, fun hg15 => ?_⟩
          refine ⟨_, rfl, fun hg13 => ?_⟩
          intro E1
          refine (V1.move rfl rfl rfl (ltb rfl) ?_)
          exact rfl
         refine VP.step (p := ?pv288) rfl rfl rfl (⟨_, _, rfl, rfl, ⟨_, _, rfl, rfl, rfl⟩⟩) ?hv288 ?rest288 hck30
         case hv288 =>
          refine ⟨_, rfl, fun hg15 => ?_⟩
          refine ⟨_, rfl, fun hg13 => ?_⟩
          intro E1
          refine (V1.indexI rfl rfl esz_31 rfl rfl (hh23 hg13 hg15) (ltb rfl) ?_)
          exact rfl
         refine VP.step (p := ?pv289) rfl rfl rfl (⟨_, _, rfl, rfl, rfl⟩) ?hv289 ?rest289 hck30
         case hv289 =>
          refine ⟨_, rfl, fun hg15 => ?_⟩
          refine ⟨_, rfl, fun hg13 => ?_⟩
          intro E1
          refine (V1.loadPin rfl rfl tyk_3 rfl rfl (ltb rfl) ?_)
          exact rfl
         refine VP.step (p := ?pv290) rfl rfl rfl (⟨_, _, rfl, rfl, rfl⟩) ?hv290 ?rest290 hck30
         case hv290 =>
          refine ⟨_, rfl, fun hg15 => ?_⟩
          refine ⟨_, rfl, fun hg13 => ?_⟩
          intro E1
          refine (V1.move rfl rfl rfl (ltb rfl) ?_)
          exact rfl
         refine VP.step (p := ?pv291) rfl rfl rfl (⟨_, _, rfl, rfl, rfl⟩) ?hv291 ?rest291 hck30
         case hv291 =>
          refine ⟨_, rfl, fun hg15 => ?_⟩
          refine ⟨_, rfl, fun hg13 => ?_⟩
          intro E1
          refine (V1.move rfl rfl rfl (ltb rfl) ?_)
          exact rfl
         refine VP.step (p := ?pv292) rfl rfl rfl (⟨_, _, rfl, rfl, ⟨_, _, rfl, rfl, rfl⟩⟩) ?hv292 ?rest292 hck30
         case hv292 =>
          refine ⟨_, rfl, fun hg15 => ?_⟩
          refine ⟨_, rfl, fun hg13 => ?_⟩
          intro E1
          refine (V1.indexI rfl rfl esz_31 rfl rfl (hh24 hg13 hg15) (ltb rfl) ?_)
          exact rfl
         refine VP.step (p := ?pv293) rfl rfl rfl (⟨_, _, rfl, rfl, rfl⟩) ?hv293 ?rest293 hck30
         case hv293 =>
          refine ⟨_, rfl, fun hg15 => ?_⟩
          refine ⟨_, rfl, fun hg13 => ?_⟩
          intro E1
          refine (V1.loadPin rfl rfl tyk_3 rfl rfl (ltb rfl) ?_)
          exact rfl
         refine VP.step (p := ?pv294) rfl rfl rfl (⟨_, _, rfl, rfl, ⟨_, _, rfl, rfl, rfl⟩⟩) ?hv294 ?rest294 hck30
         case hv294 =>
          refine ⟨_, rfl, fun hg15 => ?_⟩
          refine ⟨_, rfl, fun hg13 => ?_⟩
          intro E1
          refine (V1.int rfl rfl rfl rfl rfl (ltb rfl) ?_)
          exact rfl
         refine VP.pickAnd rfl rfl rfl rfl rfl rfl (⟨_, rfl, fun _ => trivial⟩) ?_ hck30
         refine VP.pickOr rfl rfl rfl rfl rfl rfl (trivial) ?_ hck30
         refine VP.fin rfl (⟨_, _, rfl, rfl, ⟨_, _, rfl, rfl, rfl⟩⟩) ?_
         refine VO.nil ?_
         refine V.cond rfl (fun hc8 => ?_) (fun hc8 => ?_)
         ·
          replace hm1 := cond_t hc8 hm1
          refine V.seq ?_
          refine V.region ?_
          refine VO.cons rfl (V1.assign rfl rfl rfl (ltb rfl) ?_)
          refine VO.nil ?_
          refine V.ret ?_
          obtain rfl := Option.some.inj hm1
          change some _ = some _ at hm0
          obtain rfl := Option.some.inj hm0
          exact ⟨_, [], ⟨_, _, rfl, rfl, rfl⟩, List.nil_sublist _, rfl, rfl⟩
         ·
          replace hm1 := cond_f hc8 hm1
          refine V.skip ?_
          exact ⟨((), ()), Option.some.inj hm1, Keeps.mk (ks := []) rfl ⟨rfl, trivial⟩ (rfl) rfl⟩
        ·
         replace hm1 := cond_f hc7 hm1
         refine V.skip ?_
         exact ⟨((), ()), Option.some.inj hm1, Keeps.mk (ks := []) rfl ⟨rfl, trivial⟩ (rfl) rfl⟩
       ·
        rintro ⟨_, _⟩ rfl
        try dsimp only at hm0
        refine V.seq ?_
        replace hm0 := bindO hm0; rcases hm0 with ⟨y20, hh25, hm0⟩
        refine V.region ?_
        refine VO.cons rfl (V1.move rfl rfl rfl (ltb rfl) ?_)
        refine VO.cons rfl (V1.call rfl rfl rfl cok_18 rfl (ok_spec_DrawFindPath hh25) rfl (ltb rfl) ?_)
        rintro _ _ ⟨b4, rfl, rfl⟩
        refine VO.cons rfl (V1.move rfl rfl rfl (ltb rfl) ?_)
        refine VO.cons rfl (V1.extract rfl rfl rfl rfl (ltb rfl) ?_)
        refine VO.weakenK (Keeps.freezeG 0 rn [(243, .vl rn 3 (List.map encFunction y20.1))] [] (f := encFunction) (l := y20.1) rfl (fun _ => rfl) ⟨⟨_, rfl, .here⟩, trivial⟩ rfl rfl iNil) ?_
        refine VO.cons rfl (V1.extract rfl rfl rfl rfl (ltb rfl) ?_)
        refine VO.cons rfl (V1.assign rfl rfl rfl (ltb rfl) ?_)
        refine VO.cons rfl (V1.assign rfl rfl rfl (ltb rfl) ?_)
        refine VO.nil ?_
        refine V.keep 272 [30, 31] [] (E0 := [(30, .vl rn 3 (List.map encFunction y20.1)), (31, .str y20.2)]) (H0 := []) rfl (⟨_, _, rfl, rfl, ⟨_, _, rfl, rfl, rfl⟩⟩) (rfl) rfl ?_
        refine V.seq ?_
        replace hm0 := bindO hm0; rcases hm0 with ⟨y21, hh26, hm0⟩
        refine V.region ?_
        refine VO.cons rfl (V1.move rfl rfl rfl (ltb rfl) ?_)
        refine VO.cons rfl (V1.move rfl rfl rfl (ltb rfl) ?_)
        refine VO.cons rfl (V1.call rfl rfl rfl cok_9 rfl (ok_impl_FindPath hh26) rfl (ltb rfl) ?_)
        rintro _ _ ⟨rfl, rfl⟩
        refine VO.cons rfl (V1.move rfl rfl rfl (ltb rfl) ?_)
        refine VO.cons rfl (V1.extract rfl rfl rfl rfl (ltb rfl) ?_)
        refine VO.cons rfl (V1.extract rfl rfl rfl rfl (ltb rfl) ?_)
        refine VO.cons rfl (V1.assign rfl rfl rfl (ltb rfl) ?_)
        refine VO.cons rfl (V1.assign rfl rfl rfl (ltb rfl) ?_)
        refine VO.nil ?_
        refine V.keep 272 [30, 31, 32, 33] [] (E0 := [(30, .vl rn 3 (List.map encFunction y20.1)), (31, .str y20.2), (32, .int .i64 y21.1), (33, .bool y21.2)]) (H0 := []) rfl (⟨_, _, rfl, rfl, ⟨_, _, rfl, rfl, ⟨_, _, rfl, rfl, ⟨_, _, rfl, rfl, rfl⟩⟩⟩⟩) (rfl) rfl ?_
        refine V.seq ?_
        replace hm0 := bindO hm0; rcases hm0 with ⟨y22, hh27, hm0⟩
        refine V.region ?_
        refine VO.cons rfl (V1.move rfl rfl rfl (ltb rfl) ?_)
        refine VO.cons rfl (V1.move rfl rfl rfl (ltb rfl) ?_)
        refine VO.cons rfl (V1.call rfl rfl rfl cok_19 rfl (ok_spec_FindPath hh27) rfl (ltb rfl) ?_)
        rintro _ _ ⟨rfl, rfl⟩
        refine VO.cons rfl (V1.move rfl rfl rfl (ltb rfl) ?_)
        refine VO.cons rfl (V1.extract rfl rfl rfl rfl (ltb rfl) ?_)
        refine VO.cons rfl (V1.extract rfl rfl rfl rfl (ltb rfl) ?_)
        refine VO.cons rfl (V1.assign rfl rfl rfl (ltb rfl) ?_)
        refine VO.cons rfl (V1.assign rfl rfl rfl (ltb rfl) ?_)
        refine VO.nil ?_
        refine V.keep 272 [30, 32, 33, 34, 35] [] (E0 := [(30, .vl rn 3 (List.map encFunction y20.1)), (32, .int .i64 y21.1), (33, .bool y21.2), (34, .int .i64 y22.1), (35, .bool y22.2)]) (H0 := []) rfl (⟨_, _, rfl, rfl, ⟨_, _, rfl, rfl, ⟨_, _, rfl, rfl, ⟨_, _, rfl, rfl, ⟨_, _, rfl, rfl, rfl⟩⟩⟩⟩⟩) (rfl) rfl ?_
        refine V.seq ?_
        replace hm0 := bindO hm0; rcases hm0 with ⟨y23, hh28, hm0⟩
        replace hm0 := bindO hm0; rcases hm0 with ⟨y24, hh29, hm0⟩
        refine V.region ?_
        refine VO.cons rfl (V1.move rfl rfl rfl (ltb rfl) ?_)
        refine VO.cons rfl (V1.move rfl rfl rfl (ltb rfl) ?_)
        refine VO.cons rfl (V1.int rfl rfl rfl rfl rfl (ltb rfl) ?_)
        refine VO.cons rfl (V1.move rfl rfl rfl (ltb rfl) ?_)
        apply VO.and (n := 3) rfl rfl rfl rfl rfl rfl (ltb rfl) (.none rfl)
        ·
         intro hg16
         refine VO.step (.some rfl rfl rfl) (V1.move rfl rfl rfl (ltb rfl) ?_)
         refine VO.step (.some rfl rfl rfl) (V1.move rfl rfl rfl (ltb rfl) ?_)
         refine VO.step (.some rfl rfl rfl) (V1.boolEql rfl rfl und_4 rfl rfl (ltb rfl) ?_)
         exact VO.nil ⟨rfl, rfl, rfl, rfl, .inr ⟨rfl, .inr ⟨rfl, .inr ⟨rfl, .inr ⟨rfl, .inl rfl⟩⟩⟩⟩⟩
        refine VO.cons rfl (V1.move rfl rfl rfl (ltb rfl) ?_)
        apply VO.and (n := 5) rfl rfl rfl rfl rfl rfl (ltb rfl) (.none rfl)
        ·
         intro hg17
         refine VO.step (.some rfl rfl rfl) (V1.move rfl rfl rfl (ltb rfl) ?_)
         refine VO.step (.some rfl rfl rfl) (V1.call rfl rfl rfl cok_20 rfl (ok_impl_IsTree (cond_t hg17 hh28)) rfl (ltb rfl) ?_)
         rintro _ _ ⟨rfl, rfl⟩
         refine VO.step (.some rfl rfl rfl) (V1.move rfl rfl rfl (ltb rfl) ?_)
         refine VO.step (.some rfl rfl rfl) (V1.call rfl rfl rfl cok_21 rfl (ok_spec_IsTree (cond_t hg17 hh29)) rfl (ltb rfl) ?_)
         rintro _ _ ⟨rfl, rfl⟩
         refine VO.step (.some rfl rfl rfl) (V1.boolEql rfl rfl und_4 rfl rfl (ltb rfl) ?_)
         exact VO.nil ⟨rfl, rfl, rfl, rfl, .inr ⟨rfl, .inr ⟨rfl, .inr ⟨rfl, .inr ⟨rfl, .inr ⟨rfl, .inr ⟨rfl, .inl rfl⟩⟩⟩⟩⟩⟩⟩
        refine VO.cons rfl (V1.assign rfl rfl rfl (ltb rfl) ?_)
        refine VO.nil ?_
        refine V.ret ?_
        obtain rfl := Option.some.inj hm0
        exact ⟨_, [], ⟨_, _, rfl, rfl, rfl⟩, List.nil_sublist _, rfl, rfl⟩
end Go.Proofs.YtjfpdbhjoofllaaDoor
