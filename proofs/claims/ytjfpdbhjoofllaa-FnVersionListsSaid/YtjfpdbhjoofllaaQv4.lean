/- the functions do what their models say -/
import Derived.Test.YtjfpdbhjoofllaaQv3
set_option linter.unusedSimpArgs false
set_option linter.unusedVariables false
set_option maxRecDepth 100000
set_option maxHeartbeats 4000000
namespace Go.Proofs.Ytjfpdbhjoofllaa
open Go.VS

theorem ok_spec_l4For {ρ0 rn : Nat} {list : List Rule} {series : Int} {r : List Rule} (h : M.spec_l4For list series = some r) : Does Try.prog 105 [.vl ρ0 4 (List.map encRule list), .int .i64 series] [] rn (fun x H => ∃ (ob0_ : Nat), x = PV.sref ob0_ 4 0 (List.length r) ∧ H = [(ob0_, ⟨4, List.map encRule r⟩)]) := by
 have hm0 := h; clear h; unfold M.spec_l4For at hm0
 try dsimp only at hm0
 refine Does.intro (N := 29) Try.func105 rfl rfl rfl rfl ?_
 intro w0 S0
 refine V.seq (V.region (VO.cons rfl (V1.as ?_)))
 refine VO.nil (V.seq (V.region (VO.cons rfl (V1.buildSliceT (f := encRule) ([] : List Rule) rfl rfl esz_58 zk_109 rfl rfl rfl rfl rfl rfl rfl lt0 ?_))))
 intro b0
 refine VO.cons rfl (V1.as ?_)
 refine VO.nil (V.seq (V.seq (V.region (VO.cons rfl (V1.as ?_)))))
 refine VO.nil ?_
 replace hm0 := bindO hm0; rcases hm0 with ⟨e0, he1, hm0⟩
 refine V.cutT (D := (List Rule) × (Nat)) (fun ⟨out_, b1⟩ => ⟨29, [(5, .sref b1 4 0 (List.length out_))], [(b1, ⟨4, List.map encRule out_⟩)]⟩) (fun ⟨out_, b1⟩ => (out_ = e0)) ?_ ?_
 ·
  refine V.block ?_
  refine V.keep 29 [5, 6, 0, 1] [0] (E0 := [(5, .sref b0 4 0 (List.length ([] : List Rule))), (6, .int .i64 (0 : Int)), (0, .vl ρ0 4 (List.map encRule list)), (1, .int .i64 series)]) (H0 := [(b0, ⟨4, List.map encRule ([] : List Rule)⟩)]) rfl (⟨_, _, rfl, rfl, ⟨_, _, rfl, rfl, ⟨_, _, rfl, rfl, ⟨_, _, rfl, rfl, rfl⟩⟩⟩⟩) (⟨_, _, rfl, rfl, rfl⟩) rfl ?_
  refine V.loopE (D := Nat × (List Rule × Int) × (Nat)) (fun ⟨n0, ⟨out_0, i⟩, b2⟩ => [(5, .sref b2 4 0 (List.length out_0)), (6, .int .i64 i)]) (fun ⟨n0, ⟨out_0, i⟩, b2⟩ => [(b2, ⟨4, List.map encRule out_0⟩)]) (fun ⟨n0, ⟨out_0, i⟩, b2⟩ => loopO (M.spec_l4For_l0 list series) n0 (out_0, i) = some e0) (fun ⟨n0, _, _⟩ => n0) (rounds, (([] : List Rule), (0 : Int)), b0) rfl he1 ?_
  rintro ⟨n0, ⟨out_0, i⟩, b2⟩ hP0
  obtain ⟨m0, y0, rfl, hm1, hl1, hr1⟩ := loop_head hP0
  unfold M.spec_l4For_l0 at hm1; dsimp only at hm1
  show V _ _ _ ⟨29, [(5, .sref b2 4 0 (List.length out_0)), (6, .int .i64 i), (0, .vl ρ0 4 (List.map encRule list)), (1, .int .i64 series)], [(b2, ⟨4, List.map encRule out_0⟩)]⟩
  refine V.seq (V.seq (V.region (VO.cons rfl (V1.mv ?_))))
  refine VO.cons rfl (V1.mv ?_)
  refine VO.cons rfl (V1.lenMap rfl rfl rfl rfl rfl rfl isl_58 lt0 ?_)
  refine VO.cons rfl (V1.it ?_)
  refine VO.nil (V.cond rfl (fun hc0 => ?_) (fun hc0 => ?_))
  ·
   replace hm1 := cond_t hc0 hm1
   refine V.skip ?_
   refine V.keep 29 [0, 1, 5, 6] [0] (E0 := [(0, .vl ρ0 4 (List.map encRule list)), (1, .int .i64 series), (5, .sref b2 4 0 (List.length out_0)), (6, .int .i64 i)]) (H0 := [(b2, ⟨4, List.map encRule out_0⟩)]) rfl (⟨_, _, rfl, rfl, ⟨_, _, rfl, rfl, ⟨_, _, rfl, rfl, ⟨_, _, rfl, rfl, rfl⟩⟩⟩⟩) (⟨_, _, rfl, rfl, rfl⟩) rfl ?_
   refine V.seq ?_
   replace hm1 := bindO hm1; rcases hm1 with ⟨j0, hm2, hm1⟩
   refine V.cutT (D := (List Rule) × (Nat)) (fun ⟨out_1, b3⟩ => ⟨29, [(5, .sref b3 4 0 (List.length out_1)), (0, .vl ρ0 4 (List.map encRule list)), (1, .int .i64 series), (6, .int .i64 i)], [(b3, ⟨4, List.map encRule out_1⟩)]⟩) (fun ⟨out_1, b3⟩ => (out_1 = j0)) ?_ ?_
   ·
    refine V.block ?_
    refine V.seq ?_
    replace hm2 := asrt_some hm2; rcases hm2 with ⟨hh0, hm2⟩
    refine V.region (VO.cons rfl (V1.mv ?_))
    refine VO.cons rfl (V1.mv ?_)
    refine VO.cons rfl (V1.indexI rfl rfl esz_58 rfl rfl hh0 lt0 ?_)
    refine VO.cons rfl (V1.fieldPin rfl rfl fo_109_0 rfl lt0 ?_)
    refine VO.cons rfl (V1.loadPin rfl rfl tyk_3 rfl rfl lt0 ?_)
    refine VO.cons rfl (V1.mv ?_)
    refine VO.cons rfl (V1.it ?_)
    refine VO.nil (V.keep 29 [0, 1, 5, 6, 20] [0] (E0 := [(0, .vl ρ0 4 (List.map encRule list)), (1, .int .i64 series), (5, .sref b2 4 0 (List.length out_0)), (6, .int .i64 i), (20, .bool (((list.getD (Int.toNat i) default).Series) == series))]) (H0 := [(b2, ⟨4, List.map encRule out_0⟩)]) rfl (⟨_, _, rfl, rfl, ⟨_, _, rfl, rfl, ⟨_, _, rfl, rfl, ⟨_, _, rfl, rfl, ⟨_, _, rfl, rfl, rfl⟩⟩⟩⟩⟩) (⟨_, _, rfl, rfl, rfl⟩) rfl ?_)
    refine V.cond rfl (fun hc1 => ?_) (fun hc1 => ?_)
    ·
     replace hm2 := cond_t hc1 hm2
     replace hm2 := asrt_some hm2; rcases hm2 with ⟨hh1, hm2⟩
     replace hm2 := asrt_some hm2; rcases hm2 with ⟨hh2, hm2⟩
     refine V.region (VO.cons rfl (V1.mv ?_))
     refine VO.cons rfl (V1.mv ?_)
     refine VO.cons rfl (V1.mv ?_)
     refine VO.cons rfl (V1.indexI rfl rfl esz_58 rfl rfl hh1 lt0 ?_)
     refine VO.cons rfl (V1.loadPinAll rfl rfl tyk_109 rfl rfl lt0 ?_)
     refine VO.cons rfl (V1.buildSliceT (f := encRule) ([(list.getD (Int.toNat i) default)] : List Rule) rfl rfl esz_58 zk_109 rfl rfl rfl rfl rfl rfl rfl lt0 ?_)
     intro b4
     refine VO.cons rfl (V1.appendMap (k := 1) (f := encRule) (l := out_0) (m := ([(list.getD (Int.toNat i) default)] : List Rule)) rfl rfl rfl rfl rfl esz_58 eby_58 zk_109 rfl rfl rfl (SrcOf.srMap (k := 0) rfl isl_58) hh2 lt0 ?_)
     intro b5
     refine VO.cons rfl (V1.as ?_)
     refine VO.nil ?_
     exact ⟨((out_0 ++ ([(list.getD (Int.toNat i) default)] : List Rule)), b5), oi hm2, Keeps.mk (ks := [0]) rfl ⟨rfl, rfl, rfl, rfl, trivial⟩ (⟨_, _, rfl, rfl, rfl⟩) rfl⟩
    ·
     replace hm2 := cond_f hc1 hm2
     refine V.skip ?_
     exact ⟨(out_0, b2), oi hm2, Keeps.mk (ks := [0]) rfl ⟨rfl, rfl, rfl, rfl, trivial⟩ (⟨_, _, rfl, rfl, rfl⟩) rfl⟩
   ·
    rintro ⟨out_1, b3⟩ rfl
    try dsimp only at hm1
    refine V.region (VO.cons rfl (V1.mv ?_))
    refine VO.cons rfl (V1.it ?_)
    refine VO.cons rfl (V1.as ?_)
    refine VO.nil ?_
    exact ⟨(m0, (out_1, (IntKind.i64.wrap (i + (1 : Int)))), b3), hl1 _ (oi hm1).symm, Nat.lt_succ_self _, Keeps.mk (ks := [0]) rfl ⟨rfl, rfl, rfl, rfl, trivial⟩ (⟨_, _, rfl, rfl, rfl⟩) rfl⟩
  ·
   replace hm1 := cond_f hc0 hm1
   refine V.exit ?_
   obtain rfl := hr1 _ (oi hm1).symm
   exact ⟨(out_0, b2), rfl, Keeps.mk (ks := [0]) rfl ⟨rfl, trivial⟩ (⟨_, _, rfl, rfl, rfl⟩) rfl⟩
 ·
  rintro ⟨out_, b1⟩ rfl
  try dsimp only at hm0
  refine V.seq (V.region (VO.cons rfl (V1.mv ?_)))
  refine VO.cons rfl (V1.as ?_)
  refine VO.nil (V.keep 29 [4] [0] (E0 := [(4, .sref b1 4 0 (List.length out_))]) (H0 := [(b1, ⟨4, List.map encRule out_⟩)]) rfl (⟨_, _, rfl, rfl, rfl⟩) (⟨_, _, rfl, rfl, rfl⟩) rfl ?_)
  refine V.ret ?_
  obtain rfl := oi hm0
  exact ⟨_, _, ⟨_, _, rfl, rfl, rfl⟩, List.Sublist.refl _, b1, rfl, rfl⟩

theorem okz_spec_l4For {ρ0 rn : Nat} {list : List Rule} {series : Int} {r : List Rule} (h : M.spec_l4For list series = some r) : Does Try.prog 105 [.vl ρ0 4 (List.map encRule list), .int .i64 series] [] rn (fun x H => x = .vl rn 4 (List.map encRule r) ∧ H = []) := by
 have hm0 := h; clear h; unfold M.spec_l4For at hm0
 try dsimp only at hm0
 refine Does.intro (N := 29) Try.func105 rfl rfl rfl rfl ?_
 intro w0 S0
 refine V.seq (V.region (VO.cons rfl (V1.as ?_)))
 refine VO.nil (V.seq (V.region (VO.cons rfl (V1.buildSliceT (f := encRule) ([] : List Rule) rfl rfl esz_58 zk_109 rfl rfl rfl rfl rfl rfl rfl lt0 ?_))))
 intro b0
 refine VO.cons rfl (V1.as ?_)
 refine VO.nil (V.seq (V.seq (V.region (VO.cons rfl (V1.as ?_)))))
 refine VO.nil ?_
 replace hm0 := bindO hm0; rcases hm0 with ⟨e0, he1, hm0⟩
 refine V.cutT (D := (List Rule) × (Unit)) (fun ⟨out_, _⟩ => ⟨29, [(5, .vl rn 4 (List.map encRule out_))], []⟩) (fun ⟨out_, _⟩ => (out_ = e0)) ?_ ?_
 ·
  refine V.block ?_
  refine V.keep 29 [5, 6, 0, 1] [0] (E0 := [(5, .sref b0 4 0 (List.length ([] : List Rule))), (6, .int .i64 (0 : Int)), (0, .vl ρ0 4 (List.map encRule list)), (1, .int .i64 series)]) (H0 := [(b0, ⟨4, List.map encRule ([] : List Rule)⟩)]) rfl (⟨_, _, rfl, rfl, ⟨_, _, rfl, rfl, ⟨_, _, rfl, rfl, ⟨_, _, rfl, rfl, rfl⟩⟩⟩⟩) (⟨_, _, rfl, rfl, rfl⟩) rfl ?_
  refine V.loopE (D := Nat × (List Rule × Int) × (Nat)) (fun ⟨n0, ⟨out_0, i⟩, b1⟩ => [(5, .sref b1 4 0 (List.length out_0)), (6, .int .i64 i)]) (fun ⟨n0, ⟨out_0, i⟩, b1⟩ => [(b1, ⟨4, List.map encRule out_0⟩)]) (fun ⟨n0, ⟨out_0, i⟩, b1⟩ => loopO (M.spec_l4For_l0 list series) n0 (out_0, i) = some e0) (fun ⟨n0, _, _⟩ => n0) (rounds, (([] : List Rule), (0 : Int)), b0) rfl he1 ?_
  rintro ⟨n0, ⟨out_0, i⟩, b1⟩ hP0
  obtain ⟨m0, y0, rfl, hm1, hl1, hr1⟩ := loop_head hP0
  unfold M.spec_l4For_l0 at hm1; dsimp only at hm1
  show V _ _ _ ⟨29, [(5, .sref b1 4 0 (List.length out_0)), (6, .int .i64 i), (0, .vl ρ0 4 (List.map encRule list)), (1, .int .i64 series)], [(b1, ⟨4, List.map encRule out_0⟩)]⟩
  refine V.seq (V.seq (V.region (VO.cons rfl (V1.mv ?_))))
  refine VO.cons rfl (V1.mv ?_)
  refine VO.cons rfl (V1.lenMap rfl rfl rfl rfl rfl rfl isl_58 lt0 ?_)
  refine VO.cons rfl (V1.it ?_)
  refine VO.nil (V.cond rfl (fun hc0 => ?_) (fun hc0 => ?_))
  ·
   replace hm1 := cond_t hc0 hm1
   refine V.skip ?_
   refine V.keep 29 [0, 1, 5, 6] [0] (E0 := [(0, .vl ρ0 4 (List.map encRule list)), (1, .int .i64 series), (5, .sref b1 4 0 (List.length out_0)), (6, .int .i64 i)]) (H0 := [(b1, ⟨4, List.map encRule out_0⟩)]) rfl (⟨_, _, rfl, rfl, ⟨_, _, rfl, rfl, ⟨_, _, rfl, rfl, ⟨_, _, rfl, rfl, rfl⟩⟩⟩⟩) (⟨_, _, rfl, rfl, rfl⟩) rfl ?_
   refine V.seq ?_
   replace hm1 := bindO hm1; rcases hm1 with ⟨j0, hm2, hm1⟩
   refine V.cutT (D := (List Rule) × (Nat)) (fun ⟨out_1, b2⟩ => ⟨29, [(5, .sref b2 4 0 (List.length out_1)), (0, .vl ρ0 4 (List.map encRule list)), (1, .int .i64 series), (6, .int .i64 i)], [(b2, ⟨4, List.map encRule out_1⟩)]⟩) (fun ⟨out_1, b2⟩ => (out_1 = j0)) ?_ ?_
   ·
    refine V.block ?_
    refine V.seq ?_
    replace hm2 := asrt_some hm2; rcases hm2 with ⟨hh0, hm2⟩
    refine V.region (VO.cons rfl (V1.mv ?_))
    refine VO.cons rfl (V1.mv ?_)
    refine VO.cons rfl (V1.indexI rfl rfl esz_58 rfl rfl hh0 lt0 ?_)
    refine VO.cons rfl (V1.fieldPin rfl rfl fo_109_0 rfl lt0 ?_)
    refine VO.cons rfl (V1.loadPin rfl rfl tyk_3 rfl rfl lt0 ?_)
    refine VO.cons rfl (V1.mv ?_)
    refine VO.cons rfl (V1.it ?_)
    refine VO.nil (V.keep 29 [0, 1, 5, 6, 20] [0] (E0 := [(0, .vl ρ0 4 (List.map encRule list)), (1, .int .i64 series), (5, .sref b1 4 0 (List.length out_0)), (6, .int .i64 i), (20, .bool (((list.getD (Int.toNat i) default).Series) == series))]) (H0 := [(b1, ⟨4, List.map encRule out_0⟩)]) rfl (⟨_, _, rfl, rfl, ⟨_, _, rfl, rfl, ⟨_, _, rfl, rfl, ⟨_, _, rfl, rfl, ⟨_, _, rfl, rfl, rfl⟩⟩⟩⟩⟩) (⟨_, _, rfl, rfl, rfl⟩) rfl ?_)
    refine V.cond rfl (fun hc1 => ?_) (fun hc1 => ?_)
    ·
     replace hm2 := cond_t hc1 hm2
     replace hm2 := asrt_some hm2; rcases hm2 with ⟨hh1, hm2⟩
     replace hm2 := asrt_some hm2; rcases hm2 with ⟨hh2, hm2⟩
     refine V.region (VO.cons rfl (V1.mv ?_))
     refine VO.cons rfl (V1.mv ?_)
     refine VO.cons rfl (V1.mv ?_)
     refine VO.cons rfl (V1.indexI rfl rfl esz_58 rfl rfl hh1 lt0 ?_)
     refine VO.cons rfl (V1.loadPinAll rfl rfl tyk_109 rfl rfl lt0 ?_)
     refine VO.cons rfl (V1.buildSliceT (f := encRule) ([(list.getD (Int.toNat i) default)] : List Rule) rfl rfl esz_58 zk_109 rfl rfl rfl rfl rfl rfl rfl lt0 ?_)
     intro b3
     refine VO.cons rfl (V1.appendMap (k := 1) (f := encRule) (l := out_0) (m := ([(list.getD (Int.toNat i) default)] : List Rule)) rfl rfl rfl rfl rfl esz_58 eby_58 zk_109 rfl rfl rfl (SrcOf.srMap (k := 0) rfl isl_58) hh2 lt0 ?_)
     intro b4
     refine VO.cons rfl (V1.as ?_)
     refine VO.nil ?_
     exact ⟨((out_0 ++ ([(list.getD (Int.toNat i) default)] : List Rule)), b4), oi hm2, Keeps.mk (ks := [0]) rfl ⟨rfl, rfl, rfl, rfl, trivial⟩ (⟨_, _, rfl, rfl, rfl⟩) rfl⟩
    ·
     replace hm2 := cond_f hc1 hm2
     refine V.skip ?_
     exact ⟨(out_0, b1), oi hm2, Keeps.mk (ks := [0]) rfl ⟨rfl, rfl, rfl, rfl, trivial⟩ (⟨_, _, rfl, rfl, rfl⟩) rfl⟩
   ·
    rintro ⟨out_1, b2⟩ rfl
    try dsimp only at hm1
    refine V.region (VO.cons rfl (V1.mv ?_))
    refine VO.cons rfl (V1.it ?_)
    refine VO.cons rfl (V1.as ?_)
    refine VO.nil ?_
    exact ⟨(m0, (out_1, (IntKind.i64.wrap (i + (1 : Int)))), b2), hl1 _ (oi hm1).symm, Nat.lt_succ_self _, Keeps.mk (ks := [0]) rfl ⟨rfl, rfl, rfl, rfl, trivial⟩ (⟨_, _, rfl, rfl, rfl⟩) rfl⟩
  ·
   replace hm1 := cond_f hc0 hm1
   refine V.exit ?_
   obtain rfl := hr1 _ (oi hm1).symm
   exact ⟨(out_0, ()), rfl, Keeps.trans (Keeps.freezeG 0 rn [(5, .vl rn 4 (List.map encRule out_0))] [] (f := encRule) (l := out_0) rfl (fun _ => rfl) ⟨⟨_, rfl, .here⟩, trivial⟩ rfl rfl iNil) (Keeps.mk (ks := []) rfl ⟨rfl, trivial⟩ (rfl) rfl)⟩
 ·
  rintro ⟨out_, _⟩ rfl
  try dsimp only at hm0
  refine V.seq (V.region (VO.cons rfl (V1.mv ?_)))
  refine VO.cons rfl (V1.as ?_)
  refine VO.nil (V.ret ?_)
  obtain rfl := oi hm0
  exact ⟨_, [], ⟨_, _, rfl, rfl, rfl⟩, List.nil_sublist _, rfl, rfl⟩

theorem ok_spec_l2DayOf {ρ0 rn : Nat} {r_ : Record} {kind : Int} {r : Int} (h : M.spec_l2DayOf r_ kind = some r) : Does Try.prog 74 [encRecord ρ0 r_, .int .i64 kind] [] rn (fun x H => x = .int .i64 r ∧ H = []) := by
 have hm0 := h; clear h; unfold M.spec_l2DayOf at hm0
 try dsimp only at hm0
 refine Does.intro (N := 31) Try.func74 rfl rfl rfl rfl ?_
 intro w0 S0
 refine V.seq (V.region (VO.cons rfl (V1.boxN (n := 4) rfl rfl rfl rfl rfl lt0 ?_)))
 intro b0
 refine VO.cons rfl (V1.as ?_)
 refine VO.nil (V.seq (V.seq (V.region (VO.cons rfl (V1.mv ?_)))))
 refine VO.cons rfl (V1.it ?_)
 refine VO.nil (V.cond rfl (fun hc0 => ?_) (fun hc0 => ?_))
 ·
  replace hm0 := cond_t hc0 hm0
  refine V.seq (V.region (VO.cons rfl (V1.fieldRef rfl rfl fo_44_2 rfl lt0 ?_)))
  refine VO.cons rfl (V1.loadRef (k := 0) rfl rfl tyk_3 rfl rfl rfl rfl rfl lt0 ?_)
  refine VO.cons rfl (V1.as ?_)
  refine VO.nil (V.ret ?_)
  obtain rfl := oi hm0
  exact ⟨_, [], ⟨_, _, rfl, rfl, rfl⟩, List.nil_sublist _, rfl, rfl⟩
 ·
  replace hm0 := cond_f hc0 hm0
  refine V.skip ?_
  refine V.keep 31 [1, 2] [0] (E0 := [(1, .int .i64 kind), (2, .ref b0 4 0 0)]) (H0 := [(b0, ⟨4, [encRecord ρ0 r_]⟩)]) rfl (⟨_, _, rfl, rfl, ⟨_, _, rfl, rfl, rfl⟩⟩) (⟨_, _, rfl, rfl, rfl⟩) rfl ?_
  refine V.seq (V.seq (V.region (VO.cons rfl (V1.as ?_))))
  refine VO.nil ?_
  replace hm0 := bindO hm0; rcases hm0 with ⟨e0, he1, hm0⟩
  refine V.cutT (D := (Unit) × (Unit)) (fun ⟨_, _⟩ => ⟨31, [], []⟩) (fun ⟨_, _⟩ => (.inl () = e0)) ?_ ?_
  ·
   refine V.block ?_
   refine V.keep 31 [5, 1, 2] [0] (E0 := [(5, .int .i64 (0 : Int)), (1, .int .i64 kind), (2, .ref b0 4 0 0)]) (H0 := [(b0, ⟨4, [encRecord ρ0 r_]⟩)]) rfl (⟨_, _, rfl, rfl, ⟨_, _, rfl, rfl, ⟨_, _, rfl, rfl, rfl⟩⟩⟩) (⟨_, _, rfl, rfl, rfl⟩) rfl ?_
   refine V.loopE (D := Nat × (Int) × (Unit)) (fun ⟨n0, i, _⟩ => [(5, .int .i64 i)]) (fun ⟨n0, i, _⟩ => []) (fun ⟨n0, i, _⟩ => loopO (M.spec_l2DayOf_l0 r_ kind) n0 i = some e0) (fun ⟨n0, _, _⟩ => n0) (rounds, (0 : Int), ()) rfl he1 ?_
   rintro ⟨n0, i, _⟩ hP0
   obtain ⟨m0, y0, rfl, hm1, hl1, hr1⟩ := loop_head hP0
   unfold M.spec_l2DayOf_l0 at hm1; dsimp only at hm1
   show V _ _ _ ⟨31, [(5, .int .i64 i), (1, .int .i64 kind), (2, .ref b0 4 0 0)], [(b0, ⟨4, [encRecord ρ0 r_]⟩)]⟩
   refine V.seq (V.seq (V.region (VO.cons rfl (V1.mv ?_))))
   refine VO.cons rfl (V1.fieldRef rfl rfl fo_44_3 rfl lt0 ?_)
   refine VO.cons rfl (V1.loadRef (k := 0) rfl rfl tyk_42 rfl rfl rfl rfl rfl lt0 ?_)
   refine VO.cons rfl (V1.lenMap rfl rfl rfl rfl rfl rfl isl_42 lt0 ?_)
   refine VO.cons rfl (V1.it ?_)
   refine VO.nil (V.keep 31 [1, 2, 5, 14] [0] (E0 := [(1, .int .i64 kind), (2, .ref b0 4 0 0), (5, .int .i64 i), (14, .bool (decide (i < (r_.Events.length : Int))))]) (H0 := [(b0, ⟨4, [encRecord ρ0 r_]⟩)]) rfl (⟨_, _, rfl, rfl, ⟨_, _, rfl, rfl, ⟨_, _, rfl, rfl, ⟨_, _, rfl, rfl, rfl⟩⟩⟩⟩) (⟨_, _, rfl, rfl, rfl⟩) rfl ?_)
   refine V.cond rfl (fun hc1 => ?_) (fun hc1 => ?_)
   ·
    replace hm1 := cond_t hc1 hm1
    refine V.skip ?_
    refine V.seq (V.block ?_)
    refine V.seq ?_
    replace hm1 := asrt_some hm1; rcases hm1 with ⟨hh0, hm1⟩
    refine V.region (VO.cons rfl (V1.fieldRef rfl rfl fo_44_3 rfl lt0 ?_))
    refine VO.cons rfl (V1.loadRef (k := 0) rfl rfl tyk_42 rfl rfl rfl rfl rfl lt0 ?_)
    refine VO.cons rfl (V1.mv ?_)
    refine VO.cons rfl (V1.indexI rfl rfl esz_42 rfl rfl hh0 lt0 ?_)
    refine VO.cons rfl (V1.fieldPin rfl rfl fo_46_0 rfl lt0 ?_)
    refine VO.cons rfl (V1.loadPin rfl rfl tyk_3 rfl rfl lt0 ?_)
    refine VO.cons rfl (V1.mv ?_)
    refine VO.cons rfl (V1.it ?_)
    refine VO.nil (V.keep 31 [1, 2, 5, 24] [0] (E0 := [(1, .int .i64 kind), (2, .ref b0 4 0 0), (5, .int .i64 i), (24, .bool (((r_.Events.getD (Int.toNat i) default).Kind) == kind))]) (H0 := [(b0, ⟨4, [encRecord ρ0 r_]⟩)]) rfl (⟨_, _, rfl, rfl, ⟨_, _, rfl, rfl, ⟨_, _, rfl, rfl, ⟨_, _, rfl, rfl, rfl⟩⟩⟩⟩) (⟨_, _, rfl, rfl, rfl⟩) rfl ?_)
    refine V.cond rfl (fun hc2 => ?_) (fun hc2 => ?_)
    ·
     replace hm1 := cond_t hc2 hm1
     refine V.seq ?_
     replace hm1 := asrt_some hm1; rcases hm1 with ⟨hh1, hm1⟩
     refine V.region (VO.cons rfl (V1.fieldRef rfl rfl fo_44_3 rfl lt0 ?_))
     refine VO.cons rfl (V1.loadRef (k := 0) rfl rfl tyk_42 rfl rfl rfl rfl rfl lt0 ?_)
     refine VO.cons rfl (V1.mv ?_)
     refine VO.cons rfl (V1.indexI rfl rfl esz_42 rfl rfl hh1 lt0 ?_)
     refine VO.cons rfl (V1.fieldPin rfl rfl fo_46_1 rfl lt0 ?_)
     refine VO.cons rfl (V1.loadPin rfl rfl tyk_3 rfl rfl lt0 ?_)
     refine VO.cons rfl (V1.as ?_)
     refine VO.nil (V.ret ?_)
     obtain rfl := hr1 _ (oi hm1).symm
     change some _ = some _ at hm0
     obtain rfl := oi hm0
     exact ⟨_, [], ⟨_, _, rfl, rfl, rfl⟩, List.nil_sublist _, rfl, rfl⟩
    ·
     replace hm1 := cond_f hc2 hm1
     refine V.skip ?_
     refine V.region (VO.cons rfl (V1.mv ?_))
     refine VO.cons rfl (V1.it ?_)
     refine VO.cons rfl (V1.as ?_)
     refine VO.nil ?_
     exact ⟨(m0, (IntKind.i64.wrap (i + (1 : Int))), ()), hl1 _ (oi hm1).symm, Nat.lt_succ_self _, Keeps.mk (ks := [0]) rfl ⟨rfl, rfl, rfl, trivial⟩ (⟨_, _, rfl, rfl, rfl⟩) rfl⟩
   ·
    replace hm1 := cond_f hc1 hm1
    refine V.exit ?_
    obtain rfl := hr1 _ (oi hm1).symm
    exact ⟨((), ()), rfl, Keeps.mk (ks := []) rfl trivial (rfl) rfl⟩
  ·
   rintro ⟨_, _⟩ rfl
   try dsimp only at hm0
   refine V.seq (V.region (VO.cons rfl (V1.as ?_)))
   refine VO.nil (V.ret ?_)
   obtain rfl := oi hm0
   exact ⟨_, [], ⟨_, _, rfl, rfl, rfl⟩, List.nil_sublist _, rfl, rfl⟩

theorem ok_spec_l6End {ρ0 rn : Nat} {r_ : Record} {rule : Rule} {r : Int} (h : M.spec_l6End r_ rule = some r) : Does Try.prog 159 [encRecord ρ0 r_, encRule rule] [] rn (fun x H => x = .int .i64 r ∧ H = []) := by
 have hm0 := h; clear h; unfold M.spec_l6End at hm0
 try dsimp only at hm0
 refine Does.intro (N := 16) Try.func159 rfl rfl rfl rfl ?_
 intro w0 S0
 refine V.seq (V.region (VO.cons rfl (V1.boxN (n := 4) rfl rfl rfl rfl rfl lt0 ?_)))
 intro b0
 refine VO.cons rfl (V1.boxN (n := 4) rfl rfl rfl rfl rfl lt0 ?_)
 intro b1
 refine VO.cons rfl (V1.as ?_)
 refine VO.nil (V.seq ?_)
 replace hm0 := bindO hm0; rcases hm0 with ⟨y0, hh0, hm0⟩
 refine V.region (VO.cons rfl (V1.loadRefAll (k := 1) rfl rfl tyk_44 rfl rfl rfl rfl rfl lt0 ?_))
 refine VO.cons rfl (V1.fieldRef rfl rfl fo_109_1 rfl lt0 ?_)
 refine VO.cons rfl (V1.loadRef (k := 0) rfl rfl tyk_3 rfl rfl rfl rfl rfl lt0 ?_)
 refine VO.cons rfl (V1.call rfl rfl rfl cok_74 rfl (ok_spec_l2DayOf hh0) rfl lt0 ?_)
 rintro _ _ ⟨rfl, rfl⟩
 refine VO.cons rfl (V1.as ?_)
 refine VO.nil (V.keep 16 [3, 5] [0] (E0 := [(3, .ref b1 4 0 0), (5, .int .i64 y0)]) (H0 := [(b1, ⟨4, [encRule rule]⟩)]) rfl (⟨_, _, rfl, rfl, ⟨_, _, rfl, rfl, rfl⟩⟩) (⟨_, _, rfl, rfl, rfl⟩) rfl ?_)
 refine V.seq (V.seq (V.region (VO.cons rfl (V1.mv ?_))))
 refine VO.cons rfl (V1.it ?_)
 refine VO.nil (V.cond rfl (fun hc0 => ?_) (fun hc0 => ?_))
 ·
  replace hm0 := cond_t hc0 hm0
  refine V.seq (V.region (VO.cons rfl (V1.as ?_)))
  refine VO.nil (V.ret ?_)
  obtain rfl := oi hm0
  exact ⟨_, [], ⟨_, _, rfl, rfl, rfl⟩, List.nil_sublist _, rfl, rfl⟩
 ·
  replace hm0 := cond_f hc0 hm0
  refine V.skip ?_
  refine V.seq (V.region (VO.cons rfl (V1.mv ?_)))
  refine VO.cons rfl (V1.fieldRef rfl rfl fo_109_2 rfl lt0 ?_)
  refine VO.cons rfl (V1.loadRef (k := 0) rfl rfl tyk_3 rfl rfl rfl rfl rfl lt0 ?_)
  refine VO.cons rfl (V1.it ?_)
  refine VO.cons rfl (V1.as ?_)
  refine VO.nil (V.ret ?_)
  obtain rfl := oi hm0
  exact ⟨_, [], ⟨_, _, rfl, rfl, rfl⟩, List.nil_sublist _, rfl, rfl⟩

theorem ok_spec_l6Deciding {ρ0 ρ1 rn : Nat} {r_ : Record} {schedule : List Rule} {r : Rule × Int} (h : M.spec_l6Deciding r_ schedule = some r) : Does Try.prog 150 [encRecord ρ0 r_, .vl ρ1 4 (List.map encRule schedule)] [] rn (fun x H => x = .tup [encRule r.1, .int .i64 r.2] ∧ H = []) := by
 have hm0 := h; clear h; unfold M.spec_l6Deciding at hm0
 try dsimp only at hm0
 refine Does.intro (N := 56) Try.func150 rfl rfl rfl rfl ?_
 intro w0 S0
 refine V.seq (V.region (VO.cons rfl (V1.boxN (n := 4) rfl rfl rfl rfl rfl lt0 ?_)))
 intro b0
 refine VO.cons rfl (V1.alloc rfl rfl zk_109 lt0 ?_)
 intro b1
 refine VO.cons rfl (V1.as ?_)
 refine VO.nil (V.seq ?_)
 replace hm0 := bindO hm0; rcases hm0 with ⟨y0, hh0, hm0⟩
 refine V.region (VO.cons rfl (V1.mv ?_))
 refine VO.cons rfl (V1.fieldRef rfl rfl fo_44_1 rfl lt0 ?_)
 refine VO.cons rfl (V1.loadRef (k := 1) rfl rfl tyk_3 rfl rfl rfl rfl rfl lt0 ?_)
 refine VO.cons rfl (V1.call rfl rfl rfl cok_105 rfl (ok_spec_l4For hh0) rfl lt0 ?_)
 rintro _ _ ⟨b2, rfl, rfl⟩
 refine VO.weakenK (Keeps.freezeG 0 rn [(14, .vl rn 4 (List.map encRule y0))] [(b1, ⟨4, [.agg [.int .i64 (0 : Int), .int .i64 (0 : Int), .int .i64 (0 : Int), .int .i64 (0 : Int)]]⟩), (b0, ⟨4, [encRecord ρ0 r_]⟩)] (f := encRule) (l := y0) rfl (fun _ => rfl) ⟨⟨_, rfl, .here⟩, trivial⟩ ⟨_, _, rfl, rfl, .inl rfl, ⟨_, _, rfl, rfl, .inl rfl, rfl⟩⟩ rfl iNil) ?_
 refine VO.cons rfl (V1.as ?_)
 refine VO.nil (V.keep 56 [2, 4, 6] [0, 1] (E0 := [(2, .ref b0 4 0 0), (4, .ref b1 4 0 0), (6, .vl rn 4 (List.map encRule y0))]) (H0 := [(b1, ⟨4, [.agg [.int .i64 (0 : Int), .int .i64 (0 : Int), .int .i64 (0 : Int), .int .i64 (0 : Int)]]⟩), (b0, ⟨4, [encRecord ρ0 r_]⟩)]) rfl (⟨_, _, rfl, rfl, ⟨_, _, rfl, rfl, ⟨_, _, rfl, rfl, rfl⟩⟩⟩) (⟨_, _, rfl, rfl, ⟨_, _, rfl, rfl, rfl⟩⟩) rfl ?_)
 refine V.seq (V.region (VO.cons rfl (V1.build rfl rfl zk_109 pl_109 rfl rfl lt0 ?_)))
 refine VO.cons rfl (V1.alloc rfl rfl zk_109 lt0 ?_)
 intro b3
 refine VO.cons rfl (V1.storeRefAll (k := 0) rfl rfl tyk_109 rfl rfl rfl rfl rfl rfl ?_)
 refine VO.cons rfl (V1.as ?_)
 refine VO.nil (V.seq (V.seq (V.region (VO.cons rfl (V1.as ?_)))))
 refine VO.nil ?_
 replace hm0 := bindO hm0; rcases hm0 with ⟨e0, he1, hm0⟩
 refine V.cutT (D := (Int × Rule) × (Unit)) (fun ⟨⟨due, best⟩, _⟩ => ⟨56, [(8, .int .i64 due), (4, .ref b1 4 0 0), (7, .ref b3 4 0 0)], [(b3, ⟨4, [encRule best]⟩), (b1, ⟨4, [.agg [.int .i64 (0 : Int), .int .i64 (0 : Int), .int .i64 (0 : Int), .int .i64 (0 : Int)]]⟩)]⟩) (fun ⟨⟨due, best⟩, _⟩ => (.inl (due, best) = e0)) ?_ ?_
 ·
  refine V.block ?_
  refine V.keep 56 [8, 9, 2, 4, 6, 7] [0, 1, 2] (E0 := [(8, .int .i64 (-1 : Int)), (9, .int .i64 (0 : Int)), (2, .ref b0 4 0 0), (4, .ref b1 4 0 0), (6, .vl rn 4 (List.map encRule y0)), (7, .ref b3 4 0 0)]) (H0 := [(b3, ⟨4, [.agg [.int .i64 (0 : Int), .int .i64 (0 : Int), .int .i64 (0 : Int), .int .i64 (0 : Int)]]⟩), (b1, ⟨4, [.agg [.int .i64 (0 : Int), .int .i64 (0 : Int), .int .i64 (0 : Int), .int .i64 (0 : Int)]]⟩), (b0, ⟨4, [encRecord ρ0 r_]⟩)]) rfl (⟨_, _, rfl, rfl, ⟨_, _, rfl, rfl, ⟨_, _, rfl, rfl, ⟨_, _, rfl, rfl, ⟨_, _, rfl, rfl, ⟨_, _, rfl, rfl, rfl⟩⟩⟩⟩⟩⟩) (⟨_, _, rfl, rfl, ⟨_, _, rfl, rfl, ⟨_, _, rfl, rfl, rfl⟩⟩⟩) rfl ?_
  refine V.loopE (D := Nat × (Int × Int × Rule) × (Unit)) (fun ⟨n0, ⟨due0, i, best0⟩, _⟩ => [(8, .int .i64 due0), (9, .int .i64 i)]) (fun ⟨n0, ⟨due0, i, best0⟩, _⟩ => [(b3, ⟨4, [encRule best0]⟩)]) (fun ⟨n0, ⟨due0, i, best0⟩, _⟩ => loopO (M.spec_l6Deciding_l0 r_ y0) n0 (due0, i, best0) = some e0) (fun ⟨n0, _, _⟩ => n0) (rounds, ((-1 : Int), (0 : Int), (⟨(0 : Int), (0 : Int), (0 : Int), (0 : Int)⟩ : Rule)), ()) rfl he1 ?_
  rintro ⟨n0, ⟨due0, i, best0⟩, _⟩ hP0
  obtain ⟨m0, y1, rfl, hm1, hl1, hr1⟩ := loop_head hP0
  unfold M.spec_l6Deciding_l0 at hm1; dsimp only at hm1
  show V _ _ _ ⟨56, [(8, .int .i64 due0), (9, .int .i64 i), (2, .ref b0 4 0 0), (4, .ref b1 4 0 0), (6, .vl rn 4 (List.map encRule y0)), (7, .ref b3 4 0 0)], [(b3, ⟨4, [encRule best0]⟩), (b1, ⟨4, [.agg [.int .i64 (0 : Int), .int .i64 (0 : Int), .int .i64 (0 : Int), .int .i64 (0 : Int)]]⟩), (b0, ⟨4, [encRecord ρ0 r_]⟩)]⟩
  refine V.seq (V.seq (V.region (VO.cons rfl (V1.mv ?_))))
  refine VO.cons rfl (V1.mv ?_)
  refine VO.cons rfl (V1.lenMap rfl rfl rfl rfl rfl rfl isl_58 lt0 ?_)
  refine VO.cons rfl (V1.it ?_)
  refine VO.nil (V.cond rfl (fun hc0 => ?_) (fun hc0 => ?_))
  ·
   replace hm1 := cond_t hc0 hm1
   refine V.skip ?_
   refine V.keep 56 [2, 4, 6, 7, 8, 9] [0, 1, 2] (E0 := [(2, .ref b0 4 0 0), (4, .ref b1 4 0 0), (6, .vl rn 4 (List.map encRule y0)), (7, .ref b3 4 0 0), (8, .int .i64 due0), (9, .int .i64 i)]) (H0 := [(b3, ⟨4, [encRule best0]⟩), (b1, ⟨4, [.agg [.int .i64 (0 : Int), .int .i64 (0 : Int), .int .i64 (0 : Int), .int .i64 (0 : Int)]]⟩), (b0, ⟨4, [encRecord ρ0 r_]⟩)]) rfl (⟨_, _, rfl, rfl, ⟨_, _, rfl, rfl, ⟨_, _, rfl, rfl, ⟨_, _, rfl, rfl, ⟨_, _, rfl, rfl, ⟨_, _, rfl, rfl, rfl⟩⟩⟩⟩⟩⟩) (⟨_, _, rfl, rfl, ⟨_, _, rfl, rfl, ⟨_, _, rfl, rfl, rfl⟩⟩⟩) rfl ?_
   refine V.seq ?_
   replace hm1 := bindO hm1; rcases hm1 with ⟨j0, hm2, hm1⟩
   refine V.cutT (D := (Int × Rule) × (Unit)) (fun ⟨⟨due1, best1⟩, _⟩ => ⟨56, [(8, .int .i64 due1), (2, .ref b0 4 0 0), (4, .ref b1 4 0 0), (6, .vl rn 4 (List.map encRule y0)), (7, .ref b3 4 0 0), (9, .int .i64 i)], [(b3, ⟨4, [encRule best1]⟩), (b1, ⟨4, [.agg [.int .i64 (0 : Int), .int .i64 (0 : Int), .int .i64 (0 : Int), .int .i64 (0 : Int)]]⟩), (b0, ⟨4, [encRecord ρ0 r_]⟩)]⟩) (fun ⟨⟨due1, best1⟩, _⟩ => (.inl (due1, best1) = j0)) ?_ ?_
   ·
    refine V.block ?_
    refine V.seq ?_
    replace hm2 := asrt_some hm2; rcases hm2 with ⟨hh1, hm2⟩
    replace hm2 := bindO hm2; rcases hm2 with ⟨y2, hh2, hm2⟩
    refine V.regionM 56 5 [⟨[(2, none)], [], none⟩, ⟨[(6, none)], [], none⟩, ⟨[(9, none)], [], none⟩, ⟨[(23, some 1), (24, some 0)], [], none⟩, ⟨[(25, some 0)], [], none⟩] [(2, none), (4, none), (6, none), (7, none), (8, none), (9, none), (22, some 4), (26, some 0)] (⟨_, rfl, ⟨_, rfl, ⟨_, rfl, ⟨_, rfl, ⟨_, rfl, ⟨rfl, rfl⟩⟩⟩⟩⟩⟩) mixed_orders rfl (by decide +kernel) (fun hck6 => ?_)
    refine VP.step (p := ?pv484) rfl rfl rfl (⟨_, _, rfl, rfl, rfl⟩) ?hv484 ?rest484 hck6
    case hv484 =>
     intro E1
     refine (V1.loadRefAll (k := 2) rfl rfl tyk_44 rfl rfl rfl rfl rfl lt0 ?_)
     exact rfl
    refine VP.step (p := ?pv485) rfl rfl rfl (⟨_, _, rfl, rfl, rfl⟩) ?hv485 ?rest485 hck6
    case hv485 =>
     intro E1
     refine (V1.mv ?_)
     exact rfl
    refine VP.step (p := ?pv486) rfl rfl rfl (⟨_, _, rfl, rfl, rfl⟩) ?hv486 ?rest486 hck6
    case hv486 =>
     intro E1
     refine (V1.mv ?_)
     exact rfl
    refine VP.step (p := ?pv487) rfl rfl rfl (⟨_, _, rfl, rfl, ⟨_, _, rfl, rfl, rfl⟩⟩) ?hv487 ?rest487 hck6
    case hv487 =>
     intro E1
     refine (V1.indexI rfl rfl esz_58 rfl rfl hh1 lt0 ?_)
     exact rfl
    refine VP.step (p := ?pv488) rfl rfl rfl (⟨_, _, rfl, rfl, rfl⟩) ?hv488 ?rest488 hck6
    case hv488 =>
     intro E1
     refine (V1.loadPinAll rfl rfl tyk_109 rfl rfl lt0 ?_)
     exact rfl
    refine VP.fin rfl (⟨_, _, rfl, rfl, ⟨_, _, rfl, rfl, ⟨_, _, rfl, rfl, ⟨_, _, rfl, rfl, ⟨_, _, rfl, rfl, ⟨_, _, rfl, rfl, ⟨_, _, rfl, rfl, ⟨_, _, rfl, rfl, rfl⟩⟩⟩⟩⟩⟩⟩⟩) ?_
    refine VO.cons rfl (V1.call rfl rfl rfl cok_159 rfl (ok_spec_l6End hh2) rfl lt0 ?_)
    rintro _ _ ⟨rfl, rfl⟩
    refine VO.cons rfl (V1.as ?_)
    refine VO.nil (V.seq (V.seq (V.region (VO.cons rfl (V1.mv ?_)))))
    refine VO.cons rfl (V1.it ?_)
    refine VO.nil (V.keep 56 [2, 4, 6, 7, 8, 9, 10, 29] [0, 1, 2] (E0 := [(2, .ref b0 4 0 0), (4, .ref b1 4 0 0), (6, .vl rn 4 (List.map encRule y0)), (7, .ref b3 4 0 0), (8, .int .i64 due0), (9, .int .i64 i), (10, .int .i64 y2), (29, .bool (decide (y2 < (0 : Int))))]) (H0 := [(b3, ⟨4, [encRule best0]⟩), (b1, ⟨4, [.agg [.int .i64 (0 : Int), .int .i64 (0 : Int), .int .i64 (0 : Int), .int .i64 (0 : Int)]]⟩), (b0, ⟨4, [encRecord ρ0 r_]⟩)]) rfl (⟨_, _, rfl, rfl, ⟨_, _, rfl, rfl, ⟨_, _, rfl, rfl, ⟨_, _, rfl, rfl, ⟨_, _, rfl, rfl, ⟨_, _, rfl, rfl, ⟨_, _, rfl, rfl, ⟨_, _, rfl, rfl, rfl⟩⟩⟩⟩⟩⟩⟩⟩) (⟨_, _, rfl, rfl, ⟨_, _, rfl, rfl, ⟨_, _, rfl, rfl, rfl⟩⟩⟩) rfl ?_)
    refine V.cond rfl (fun hc1 => ?_) (fun hc1 => ?_)
    ·
     replace hm2 := cond_t hc1 hm2
     refine V.seq (V.region (VO.cons rfl (V1.build rfl rfl zk_109 pl_109 rfl rfl lt0 ?_)))
     refine VO.cons rfl (V1.storeRefAll (k := 1) rfl rfl tyk_109 rfl rfl rfl rfl rfl rfl ?_)
     refine VO.cons rfl (V1.as ?_)
     refine VO.nil (V.ret ?_)
     obtain rfl := oi hm2
     change some _ = some _ at hm1
     obtain rfl := hr1 _ (oi hm1).symm
     change some _ = some _ at hm0
     obtain rfl := oi hm0
     exact ⟨_, [], ⟨_, _, rfl, ⟨_, _, 1, _, rfl, rfl, rfl, rfl, tyk_109, rfl⟩, ⟨_, _, rfl, rfl, rfl⟩⟩, List.nil_sublist _, rfl, rfl⟩
    ·
     replace hm2 := cond_f hc1 hm2
     refine V.skip ?_
     refine V.seq ?_
     replace hm2 := asrt_some hm2; rcases hm2 with ⟨hh3, hm2⟩
     refine V.regionM 56 18 [⟨[(10, none)], [], none⟩, ⟨[(8, none)], [], none⟩, ⟨[(31, some 1), (32, some 0)], [], none⟩, ⟨[(33, some 0)], [], none⟩, ⟨[(10, none)], [(0, false)], none⟩, ⟨[(8, none)], [(1, false)], none⟩, ⟨[(35, some 1), (36, some 0)], [(2, false)], none⟩, ⟨[(37, some 0)], [(3, false)], none⟩, ⟨[(6, none)], [(0, true), (4, false)], none⟩, ⟨[(9, none)], [(1, true), (5, false)], none⟩, ⟨[(39, some 1), (40, some 0)], [(2, true), (6, false)], none⟩, ⟨[(41, some 0)], [(3, true), (7, false)], none⟩, ⟨[(42, some 0)], [(4, true), (8, false)], none⟩, ⟨[(7, none)], [(5, true), (9, false)], none⟩, ⟨[(44, some 0)], [(6, true), (10, false)], none⟩, ⟨[(43, some 2), (45, some 0)], [(7, true), (11, false)], none⟩, ⟨[], [(12, false)], some (true, 38, 46, 8, 0)⟩, ⟨[], [], some (false, 34, 47, 13, 0)⟩] [(2, none), (4, none), (6, none), (7, none), (8, none), (9, none), (10, none), (48, some 0)] (⟨_, rfl, ⟨_, rfl, ⟨_, rfl, ⟨_, rfl, ⟨_, rfl, ⟨_, rfl, ⟨_, rfl, ⟨_, rfl, ⟨_, rfl, ⟨_, rfl, ⟨_, rfl, ⟨_, rfl, ⟨_, rfl, ⟨_, rfl, ⟨_, rfl, ⟨_, rfl, ⟨_, rfl, ⟨_, rfl, ⟨rfl, rfl⟩⟩⟩⟩⟩⟩⟩⟩⟩⟩⟩⟩⟩⟩⟩⟩⟩⟩⟩) mixed_orders rfl (by decide +kernel) (fun hck9 => ?_)
     refine VP.step (p := ?pv489) rfl rfl rfl (⟨_, _, rfl, rfl, rfl⟩) ?hv489 ?rest489 hck9
     case hv489 =>
      intro E1
      refine (V1.mv ?_)
      exact rfl
     refine VP.step (p := ?pv490) rfl rfl rfl (⟨_, _, rfl, rfl, rfl⟩) ?hv490 ?rest490 hck9
     case hv490 =>
      intro E1
      refine (V1.mv ?_)
      exact rfl
     refine VP.step (p := ?pv491) rfl rfl rfl (⟨_, _, rfl, rfl, ⟨_, _, rfl, rfl, rfl⟩⟩) ?hv491 ?rest491 hck9
     case hv491 =>
      intro E1
      refine (V1.it ?_)
      exact rfl
     refine VP.step (p := ?pv492) rfl rfl rfl (⟨_, _, rfl, rfl, rfl⟩) ?hv492 ?rest492 hck9
     case hv492 =>
      intro E1
      refine (V1.mv ?_)
      exact rfl
     refine VP.step (p := ?pv493) rfl rfl rfl (⟨_, _, rfl, rfl, rfl⟩) ?hv493 ?rest493 hck9
     case hv493 =>
      refine ⟨_, rfl, fun hg0 => ?_⟩
      intro E1
      refine (V1.mv ?_)
      exact rfl
     refine VP.step (p := ?pv494) rfl rfl rfl (⟨_, _, rfl, rfl, rfl⟩) ?hv494 ?rest494 hck9
     case hv494 =>
      refine ⟨_, rfl, fun hg0 => ?_⟩
      intro E1
      refine (V1.mv ?_)
      exact rfl
     refine VP.step (p := ?pv495) rfl rfl rfl (⟨_, _, rfl, rfl, ⟨_, _, rfl, rfl, rfl⟩⟩) ?hv495 ?rest495 hck9
     case hv495 =>
      refine ⟨_, rfl, fun hg0 => ?_⟩
      intro E1
      refine (V1.it ?_)
      exact rfl
     refine VP.step (p := ?pv496) rfl rfl rfl (⟨_, _, rfl, rfl, rfl⟩) ?hv496 ?rest496 hck9
     case hv496 =>
      refine ⟨_, rfl, fun hg0 => ?_⟩
      intro E1
      refine (V1.mv ?_)
      exact rfl
     refine VP.step (p := ?pv497) rfl rfl rfl (⟨_, _, rfl, rfl, rfl⟩) ?hv497 ?rest497 hck9
     case hv497 =>
      refine ⟨_, rfl, fun hg1 => ?_⟩
      refine ⟨_, rfl, fun hg0 => ?_⟩
      intro E1
      refine (V1.mv ?_)
      exact rfl
     refine VP.step (p := ?pv498) rfl rfl rfl (⟨_, _, rfl, rfl, rfl⟩) ?hv498 ?rest498 hck9
     case hv498 =>
      refine ⟨_, rfl, fun hg1 => ?_⟩
      refine ⟨_, rfl, fun hg0 => ?_⟩
      intro E1
      refine (V1.mv ?_)
      exact rfl
     refine VP.step (p := ?pv499) rfl rfl rfl (⟨_, _, rfl, rfl, ⟨_, _, rfl, rfl, rfl⟩⟩) ?hv499 ?rest499 hck9
     case hv499 =>
      refine ⟨_, rfl, fun hg1 => ?_⟩
      refine ⟨_, rfl, fun hg0 => ?_⟩
      intro E1
      refine (V1.indexI rfl rfl esz_58 rfl rfl (hh3 hg0 hg1) lt0 ?_)
      exact rfl
     refine VP.step (p := ?pv500) rfl rfl rfl (⟨_, _, rfl, rfl, rfl⟩) ?hv500 ?rest500 hck9
     case hv500 =>
      refine ⟨_, rfl, fun hg1 => ?_⟩
      refine ⟨_, rfl, fun hg0 => ?_⟩
      intro E1
      refine (V1.fieldPin rfl rfl fo_109_3 rfl lt0 ?_)
      exact rfl
     refine VP.step (p := ?pv501) rfl rfl rfl (⟨_, _, rfl, rfl, rfl⟩) ?hv501 ?rest501 hck9
     case hv501 =>
      refine ⟨_, rfl, fun hg1 => ?_⟩
      refine ⟨_, rfl, fun hg0 => ?_⟩
      intro E1
      refine (V1.loadPin rfl rfl tyk_3 rfl rfl lt0 ?_)
      exact rfl
     refine VP.step (p := ?pv502) rfl rfl rfl (⟨_, _, rfl, rfl, rfl⟩) ?hv502 ?rest502 hck9
     case hv502 =>
      refine ⟨_, rfl, fun hg1 => ?_⟩
      refine ⟨_, rfl, fun hg0 => ?_⟩
      intro E1
      refine (V1.fieldRef rfl rfl fo_109_3 rfl lt0 ?_)
      exact rfl
     refine VP.step (p := ?pv503) rfl rfl rfl (⟨_, _, rfl, rfl, rfl⟩) ?hv503 ?rest503 hck9
     case hv503 =>
      refine ⟨_, rfl, fun hg1 => ?_⟩
      refine ⟨_, rfl, fun hg0 => ?_⟩
      intro E1
      refine (V1.loadRef (k := 0) rfl rfl tyk_3 rfl rfl rfl rfl rfl lt0 ?_)
      exact rfl
     refine VP.step (p := ?pv504) rfl rfl rfl (⟨_, _, rfl, rfl, ⟨_, _, rfl, rfl, rfl⟩⟩) ?hv504 ?rest504 hck9
     case hv504 =>
      refine ⟨_, rfl, fun hg1 => ?_⟩
      refine ⟨_, rfl, fun hg0 => ?_⟩
      intro E1
      refine (V1.it ?_)
      exact rfl
     refine VP.pickAnd rfl rfl rfl rfl rfl rfl (⟨_, rfl, fun _ => trivial⟩) ?_ hck9
     refine VP.pickOr rfl rfl rfl rfl rfl rfl (trivial) ?_ hck9
     refine VP.fin rfl (⟨_, _, rfl, rfl, ⟨_, _, rfl, rfl, ⟨_, _, rfl, rfl, ⟨_, _, rfl, rfl, ⟨_, _, rfl, rfl, ⟨_, _, rfl, rfl, ⟨_, _, rfl, rfl, ⟨_, _, rfl, rfl, rfl⟩⟩⟩⟩⟩⟩⟩⟩) ?_
     refine VO.nil (V.cond rfl (fun hc2 => ?_) (fun hc2 => ?_))
     ·
      replace hm2 := cond_t hc2 hm2
      refine V.seq ?_
      replace hm2 := asrt_some hm2; rcases hm2 with ⟨hh4, hm2⟩
      refine V.region (VO.cons rfl (V1.mv ?_))
      refine VO.cons rfl (V1.mv ?_)
      refine VO.cons rfl (V1.indexI rfl rfl esz_58 rfl rfl hh4 lt0 ?_)
      refine VO.cons rfl (V1.loadPinAll rfl rfl tyk_109 rfl rfl lt0 ?_)
      refine VO.cons rfl (V1.storeRefAll (k := 0) rfl rfl tyk_109 rfl rfl rfl rfl rfl rfl ?_)
      refine VO.nil (V.keep 56 [2, 4, 6, 7, 9, 10] [0, 1, 2] (E0 := [(2, .ref b0 4 0 0), (4, .ref b1 4 0 0), (6, .vl rn 4 (List.map encRule y0)), (7, .ref b3 4 0 0), (9, .int .i64 i), (10, .int .i64 y2)]) (H0 := [(b3, ⟨4, [encRule (y0.getD (Int.toNat i) default)]⟩), (b1, ⟨4, [.agg [.int .i64 (0 : Int), .int .i64 (0 : Int), .int .i64 (0 : Int), .int .i64 (0 : Int)]]⟩), (b0, ⟨4, [encRecord ρ0 r_]⟩)]) rfl (⟨_, _, rfl, rfl, ⟨_, _, rfl, rfl, ⟨_, _, rfl, rfl, ⟨_, _, rfl, rfl, ⟨_, _, rfl, rfl, ⟨_, _, rfl, rfl, rfl⟩⟩⟩⟩⟩⟩) (⟨_, _, rfl, rfl, ⟨_, _, rfl, rfl, ⟨_, _, rfl, rfl, rfl⟩⟩⟩) rfl ?_)
      refine V.region (VO.cons rfl (V1.mv ?_))
      refine VO.cons rfl (V1.as ?_)
      refine VO.nil ?_
      exact ⟨((y2, (y0.getD (Int.toNat i) default)), ()), oi hm2, Keeps.mk (ks := [0, 1, 2]) rfl ⟨rfl, rfl, rfl, rfl, rfl, rfl, trivial⟩ (⟨_, _, rfl, rfl, ⟨_, _, rfl, rfl, ⟨_, _, rfl, rfl, rfl⟩⟩⟩) rfl⟩
     ·
      replace hm2 := cond_f hc2 hm2
      refine V.skip ?_
      exact ⟨((due0, best0), ()), oi hm2, Keeps.mk (ks := [0, 1, 2]) rfl ⟨rfl, rfl, rfl, rfl, rfl, rfl, trivial⟩ (⟨_, _, rfl, rfl, ⟨_, _, rfl, rfl, ⟨_, _, rfl, rfl, rfl⟩⟩⟩) rfl⟩
   ·
    rintro ⟨⟨due1, best1⟩, _⟩ rfl
    try dsimp only at hm1
    refine V.region (VO.cons rfl (V1.mv ?_))
    refine VO.cons rfl (V1.it ?_)
    refine VO.cons rfl (V1.as ?_)
    refine VO.nil ?_
    exact ⟨(m0, (due1, (IntKind.i64.wrap (i + (1 : Int))), best1), ()), hl1 _ (oi hm1).symm, Nat.lt_succ_self _, Keeps.mk (ks := [0, 1, 2]) rfl ⟨rfl, rfl, rfl, rfl, rfl, rfl, trivial⟩ (⟨_, _, rfl, rfl, ⟨_, _, rfl, rfl, ⟨_, _, rfl, rfl, rfl⟩⟩⟩) rfl⟩
  ·
   replace hm1 := cond_f hc0 hm1
   refine V.exit ?_
   obtain rfl := hr1 _ (oi hm1).symm
   exact ⟨((due0, best0), ()), rfl, Keeps.mk (ks := [0, 1]) rfl ⟨rfl, rfl, rfl, trivial⟩ (⟨_, _, rfl, rfl, ⟨_, _, rfl, rfl, rfl⟩⟩) rfl⟩
 ·
  rintro ⟨⟨due, best⟩, _⟩ rfl
  try dsimp only at hm0
  refine V.seq (V.region (VO.cons rfl (V1.loadRefAll (k := 0) rfl rfl tyk_109 rfl rfl rfl rfl rfl lt0 ?_)))
  refine VO.cons rfl (V1.mv ?_)
  refine VO.cons rfl (V1.storeRefAll (k := 1) rfl rfl tyk_109 rfl rfl rfl rfl rfl rfl ?_)
  refine VO.cons rfl (V1.as ?_)
  refine VO.nil (V.ret ?_)
  obtain rfl := oi hm0
  exact ⟨_, [], ⟨_, _, rfl, ⟨_, _, 1, _, rfl, rfl, rfl, rfl, tyk_109, rfl⟩, ⟨_, _, rfl, rfl, rfl⟩⟩, List.nil_sublist _, rfl, rfl⟩

theorem ok_spec_l1Most {rn : Nat} {a : Int} {b_ : Int} {r : Int} (h : M.spec_l1Most a b_ = some r) : Does Try.prog 151 [.int .i64 a, .int .i64 b_] [] rn (fun x H => x = .int .i64 r ∧ H = []) := by
 have hm0 := h; clear h; unfold M.spec_l1Most at hm0
 try dsimp only at hm0
 refine Does.intro (N := 10) Try.func151 rfl rfl rfl rfl ?_
 intro w0 S0
 refine V.seq (V.region (VO.cons rfl (V1.as ?_)))
 refine VO.nil (V.seq (V.seq (V.region (VO.cons rfl (V1.mv ?_)))))
 refine VO.cons rfl (V1.mv ?_)
 refine VO.cons rfl (V1.it ?_)
 refine VO.nil (V.cond rfl (fun hc0 => ?_) (fun hc0 => ?_))
 ·
  replace hm0 := cond_t hc0 hm0
  refine V.seq (V.region (VO.cons rfl (V1.mv ?_)))
  refine VO.cons rfl (V1.as ?_)
  refine VO.nil (V.ret ?_)
  obtain rfl := oi hm0
  exact ⟨_, [], ⟨_, _, rfl, rfl, rfl⟩, List.nil_sublist _, rfl, rfl⟩
 ·
  replace hm0 := cond_f hc0 hm0
  refine V.skip ?_
  refine V.keep 10 [1] [] (E0 := [(1, .int .i64 b_)]) (H0 := []) rfl (⟨_, _, rfl, rfl, rfl⟩) (rfl) rfl ?_
  refine V.seq (V.region (VO.cons rfl (V1.mv ?_)))
  refine VO.cons rfl (V1.as ?_)
  refine VO.nil (V.ret ?_)
  obtain rfl := oi hm0
  exact ⟨_, [], ⟨_, _, rfl, rfl, rfl⟩, List.nil_sublist _, rfl, rfl⟩

theorem ok_spec_FirstDueDay {ρ0 σ0 ρ1 rn : Nat} {list : List Version} {r_ : Record} {r : Int × Bool} (h : M.spec_FirstDueDay list r_ = some r) : Does Try.prog 127 [.vl ρ0 2 (List.map (encVersion σ0) list), encRecord ρ1 r_] [] rn (fun x H => x = .tup [.int .i64 r.1, .bool r.2] ∧ H = []) := by
 have hm0 := h; clear h; unfold M.spec_FirstDueDay at hm0
 try dsimp only at hm0
 refine Does.intro (N := 56) Try.func127 rfl rfl rfl rfl ?_
 intro w0 S0
 refine V.seq (V.region (VO.cons rfl (V1.boxN (n := 4) rfl rfl rfl rfl rfl lt0 ?_)))
 intro b0
 refine VO.cons rfl (V1.as ?_)
 refine VO.cons rfl (V1.as ?_)
 refine VO.nil (V.seq (V.seq ?_))
 replace hm0 := bindO hm0; rcases hm0 with ⟨y0, hh0, hm0⟩
 refine V.region (VO.cons rfl (V1.mv ?_))
 refine VO.cons rfl (V1.loadRefAll (k := 0) rfl rfl tyk_44 rfl rfl rfl rfl rfl lt0 ?_)
 refine VO.cons rfl (V1.call rfl rfl rfl cok_149 rfl (ok_spec_l8Asked hh0) rfl lt0 ?_)
 rintro _ _ ⟨rfl, rfl⟩
 refine VO.cons rfl (V1.not rfl rfl rfl lt0 ?_)
 refine VO.nil (V.keep 56 [0, 3, 13] [0] (E0 := [(0, .vl ρ0 2 (List.map (encVersion σ0) list)), (3, .ref b0 4 0 0), (13, .bool (!y0))]) (H0 := [(b0, ⟨4, [encRecord ρ1 r_]⟩)]) rfl (⟨_, _, rfl, rfl, ⟨_, _, rfl, rfl, ⟨_, _, rfl, rfl, rfl⟩⟩⟩) (⟨_, _, rfl, rfl, rfl⟩) rfl ?_)
 refine V.cond rfl (fun hc0 => ?_) (fun hc0 => ?_)
 ·
  replace hm0 := cond_t hc0 hm0
  refine V.seq (V.region (VO.cons rfl (V1.as ?_)))
  refine VO.cons rfl (V1.as ?_)
  refine VO.nil (V.ret ?_)
  obtain rfl := oi hm0
  exact ⟨_, [], ⟨_, _, rfl, rfl, ⟨_, _, rfl, rfl, rfl⟩⟩, List.nil_sublist _, rfl, rfl⟩
 ·
  replace hm0 := cond_f hc0 hm0
  refine V.skip ?_
  refine V.seq (V.seq (V.region (VO.cons rfl (V1.as ?_))))
  refine VO.nil ?_
  replace hm0 := bindO hm0; rcases hm0 with ⟨e0, he1, hm0⟩
  refine V.cutT (D := (Unit) × (Unit)) (fun ⟨_, _⟩ => ⟨56, [], []⟩) (fun ⟨_, _⟩ => (.inl () = e0)) ?_ ?_
  ·
   refine V.block ?_
   refine V.keep 56 [6, 0, 3] [0] (E0 := [(6, .int .i64 (0 : Int)), (0, .vl ρ0 2 (List.map (encVersion σ0) list)), (3, .ref b0 4 0 0)]) (H0 := [(b0, ⟨4, [encRecord ρ1 r_]⟩)]) rfl (⟨_, _, rfl, rfl, ⟨_, _, rfl, rfl, ⟨_, _, rfl, rfl, rfl⟩⟩⟩) (⟨_, _, rfl, rfl, rfl⟩) rfl ?_
   refine V.loopE (D := Nat × (Int) × (Unit)) (fun ⟨n0, i, _⟩ => [(6, .int .i64 i)]) (fun ⟨n0, i, _⟩ => []) (fun ⟨n0, i, _⟩ => loopO (M.spec_FirstDueDay_l0 list r_) n0 i = some e0) (fun ⟨n0, _, _⟩ => n0) (rounds, (0 : Int), ()) rfl he1 ?_
   rintro ⟨n0, i, _⟩ hP0
   obtain ⟨m0, y1, rfl, hm1, hl1, hr1⟩ := loop_head hP0
   unfold M.spec_FirstDueDay_l0 at hm1; dsimp only at hm1
   show V _ _ _ ⟨56, [(6, .int .i64 i), (0, .vl ρ0 2 (List.map (encVersion σ0) list)), (3, .ref b0 4 0 0)], [(b0, ⟨4, [encRecord ρ1 r_]⟩)]⟩
   refine V.seq (V.seq (V.region (VO.cons rfl (V1.mv ?_))))
   refine VO.cons rfl (V1.mv ?_)
   refine VO.cons rfl (V1.lenMap rfl rfl rfl rfl rfl rfl isl_57 lt0 ?_)
   refine VO.cons rfl (V1.it ?_)
   refine VO.nil (V.cond rfl (fun hc1 => ?_) (fun hc1 => ?_))
   ·
    replace hm1 := cond_t hc1 hm1
    refine V.skip ?_
    refine V.keep 56 [0, 3, 6] [0] (E0 := [(0, .vl ρ0 2 (List.map (encVersion σ0) list)), (3, .ref b0 4 0 0), (6, .int .i64 i)]) (H0 := [(b0, ⟨4, [encRecord ρ1 r_]⟩)]) rfl (⟨_, _, rfl, rfl, ⟨_, _, rfl, rfl, ⟨_, _, rfl, rfl, rfl⟩⟩⟩) (⟨_, _, rfl, rfl, rfl⟩) rfl ?_
    refine V.seq ?_
    replace hm1 := bindO hm1; rcases hm1 with ⟨j0, hm2, hm1⟩
    refine V.cutT (D := (Unit) × (Unit)) (fun ⟨_, _⟩ => ⟨56, [(0, .vl ρ0 2 (List.map (encVersion σ0) list)), (3, .ref b0 4 0 0), (6, .int .i64 i)], [(b0, ⟨4, [encRecord ρ1 r_]⟩)]⟩) (fun ⟨_, _⟩ => (.inl () = j0)) ?_ ?_
    ·
     refine V.block ?_
     refine V.seq (V.region (VO.cons rfl (V1.as ?_)))
     refine VO.nil (V.seq ?_)
     replace hm2 := bindO hm2; rcases hm2 with ⟨j1, hm3, hm2⟩
     refine V.cutT (D := (Int) × (Unit)) (fun ⟨last, _⟩ => ⟨56, [(7, .int .i64 last), (0, .vl ρ0 2 (List.map (encVersion σ0) list)), (3, .ref b0 4 0 0), (6, .int .i64 i)], [(b0, ⟨4, [encRecord ρ1 r_]⟩)]⟩) (fun ⟨last, _⟩ => (last = j1)) ?_ ?_
     ·
      refine V.seq (V.region (VO.cons rfl (V1.mv ?_)))
      refine VO.cons rfl (V1.it ?_)
      refine VO.cons rfl (V1.mv ?_)
      refine VO.cons rfl (V1.lenMap rfl rfl rfl rfl rfl rfl isl_57 lt0 ?_)
      refine VO.cons rfl (V1.it ?_)
      refine VO.nil (V.keep 56 [0, 3, 6, 7, 24] [0] (E0 := [(0, .vl ρ0 2 (List.map (encVersion σ0) list)), (3, .ref b0 4 0 0), (6, .int .i64 i), (7, .int .i64 (20000 : Int)), (24, .bool (decide ((IntKind.i64.wrap (i + (1 : Int))) < (list.length : Int))))]) (H0 := [(b0, ⟨4, [encRecord ρ1 r_]⟩)]) rfl (⟨_, _, rfl, rfl, ⟨_, _, rfl, rfl, ⟨_, _, rfl, rfl, ⟨_, _, rfl, rfl, ⟨_, _, rfl, rfl, rfl⟩⟩⟩⟩⟩) (⟨_, _, rfl, rfl, rfl⟩) rfl ?_)
      refine V.cond rfl (fun hc2 => ?_) (fun hc2 => ?_)
      ·
       replace hm3 := cond_t hc2 hm3
       replace hm3 := asrt_some hm3; rcases hm3 with ⟨hh1, hm3⟩
       refine V.region (VO.cons rfl (V1.mv ?_))
       refine VO.cons rfl (V1.mv ?_)
       refine VO.cons rfl (V1.it ?_)
       refine VO.cons rfl (V1.indexI rfl rfl esz_57 rfl rfl hh1 lt0 ?_)
       refine VO.cons rfl (V1.fieldPin rfl rfl fo_60_0 rfl lt0 ?_)
       refine VO.cons rfl (V1.loadPin rfl rfl tyk_3 rfl rfl lt0 ?_)
       refine VO.cons rfl (V1.it ?_)
       refine VO.cons rfl (V1.as ?_)
       refine VO.nil ?_
       exact ⟨((IntKind.i64.wrap (((list.getD (Int.toNat (IntKind.i64.wrap (i + (1 : Int)))) default).From) - (1 : Int))), ()), oi hm3, Keeps.mk (ks := [0]) rfl ⟨rfl, rfl, rfl, rfl, trivial⟩ (⟨_, _, rfl, rfl, rfl⟩) rfl⟩
      ·
       replace hm3 := cond_f hc2 hm3
       refine V.skip ?_
       exact ⟨((20000 : Int), ()), oi hm3, Keeps.mk (ks := [0]) rfl ⟨rfl, rfl, rfl, rfl, trivial⟩ (⟨_, _, rfl, rfl, rfl⟩) rfl⟩
     ·
      rintro ⟨last, _⟩ rfl
      try dsimp only at hm2
      refine V.seq ?_
      replace hm2 := asrt_some hm2; rcases hm2 with ⟨hh2, hm2⟩
      replace hm2 := bindO hm2; rcases hm2 with ⟨y2, hh3, hm2⟩
      refine V.regionS [(b0, ⟨4, [encRecord ρ1 r_]⟩)] 56 12 [⟨[(3, none)], false⟩, ⟨[(0, none)], false⟩, ⟨[(6, none)], false⟩, ⟨[(34, some 1), (35, some 2)], false⟩, ⟨[(36, some 3)], false⟩, ⟨[(37, some 4)], false⟩, ⟨[(33, some 0), (38, some 5)], false⟩, ⟨[(39, some 6)], false⟩, ⟨[(32, some 7)], false⟩, ⟨[(32, some 7)], false⟩, ⟨[], true⟩, ⟨[(8, some 10), (40, some 8)], true⟩] [(0, none), (3, none), (6, none), (7, none), (41, some 9)] 2 (⟨_, rfl, ⟨_, rfl, ⟨_, rfl, ⟨_, rfl, ⟨_, rfl, ⟨_, rfl, ⟨_, rfl, ⟨_, rfl, ⟨_, rfl, ⟨_, rfl, ⟨_, rfl, ⟨_, rfl, ⟨rfl, rfl⟩⟩⟩⟩⟩⟩⟩⟩⟩⟩⟩⟩⟩) mixed_orders rfl (by decide +kernel) ?_
      refine WalkP.step (p := ?pv188) 0 rfl rfl rfl rfl rfl (⟨_, _, rfl, rfl, rfl⟩) ?hv188 ?rest188
      case hv188 =>
       intro E1 H1 hI1
       obtain ⟨k189_, hk189_⟩ := inGet 0 rfl hI1
       refine (V1.loadRefAll (k := k189_) rfl rfl tyk_44 rfl hk189_ rfl rfl rfl lt0 ?_)
       exact rfl
      refine WalkP.step (p := ?pv190) 1 rfl rfl rfl rfl rfl (⟨_, _, rfl, rfl, rfl⟩) ?hv190 ?rest190
      case hv190 =>
       intro E1 H1 hI1
       refine (V1.mv ?_)
       exact rfl
      refine WalkP.step (p := ?pv191) 2 rfl rfl rfl rfl rfl (⟨_, _, rfl, rfl, rfl⟩) ?hv191 ?rest191
      case hv191 =>
       intro E1 H1 hI1
       refine (V1.mv ?_)
       exact rfl
      refine WalkP.step (p := ?pv192) 3 rfl rfl rfl rfl rfl (⟨_, _, rfl, rfl, ⟨_, _, rfl, rfl, rfl⟩⟩) ?hv192 ?rest192
      case hv192 =>
       intro E1 H1 hI1
       refine (V1.indexI rfl rfl esz_57 rfl rfl hh2 lt0 ?_)
       exact rfl
      refine WalkP.step (p := ?pv193) 4 rfl rfl rfl rfl rfl (⟨_, _, rfl, rfl, rfl⟩) ?hv193 ?rest193
      case hv193 =>
       intro E1 H1 hI1
       refine (V1.fieldPin rfl rfl fo_60_1 rfl lt0 ?_)
       exact rfl
      refine WalkP.step (p := ?pv194) 5 rfl rfl rfl rfl rfl (⟨_, _, rfl, rfl, rfl⟩) ?hv194 ?rest194
      case hv194 =>
       intro E1 H1 hI1
       refine (V1.loadPin rfl rfl tyk_58 rfl rfl lt0 ?_)
       exact rfl
      refine WalkP.step (p := ?pv195) 6 rfl rfl rfl rfl rfl (⟨_, _, rfl, rfl, ⟨_, _, rfl, rfl, rfl⟩⟩) ?hv195 ?rest195
      case hv195 =>
       intro E1 H1 hI1
       refine (V1.call rfl rfl rfl cok_150 rfl (ok_spec_l6Deciding hh3) rfl lt0 ?_)
       rintro _ _ ⟨rfl, rfl⟩
       exact rfl
      refine WalkP.step (p := ?pv196) 7 rfl rfl rfl rfl rfl (⟨_, _, rfl, rfl, rfl⟩) ?hv196 ?rest196
      case hv196 =>
       intro E1 H1 hI1
       refine (V1.mv ?_)
       exact rfl
      refine WalkP.step (p := ?pv197) 8 rfl rfl rfl rfl rfl (⟨_, _, rfl, rfl, rfl⟩) ?hv197 ?rest197
      case hv197 =>
       intro E1 H1 hI1
       refine (V1.extract rfl rfl rfl rfl lt0 ?_)
       exact rfl
      refine WalkP.step (p := ?pv198) 9 rfl rfl rfl rfl rfl (⟨_, _, rfl, rfl, rfl⟩) ?hv198 ?rest198
      case hv198 =>
       intro E1 H1 hI1
       refine (V1.extract rfl rfl rfl rfl lt0 ?_)
       exact rfl
      refine WalkP.nil (NodeS.branch [10] (inCons 0 rfl inNil) rfl rfl rfl ⟨?_, trivial⟩)
      ·
       refine ⟨_, _, _, _, rfl, rfl, rfl, (rfl), fun E1 => ?_⟩
       refine (V1.alloc rfl rfl zk_109 lt0 ?_)
       intro b2
       refine ⟨_, _, rfl, ?_⟩
       refine WalkP.nil (NodeS.branch [11] (inCons 1 rfl inNil) rfl rfl rfl ⟨?_, trivial⟩)
       ·
        refine ⟨_, _, _, _, rfl, rfl, rfl, (⟨_, _, rfl, rfl, ⟨_, _, rfl, rfl, rfl⟩⟩), fun E1 => ?_⟩
        refine (V1.storeRefAll (k := 0) rfl rfl tyk_109 rfl rfl rfl rfl rfl rfl ?_)
        refine ⟨.undef, _, rfl, ?_⟩
        refine WalkP.nil (NodeS.fin (inCons 1 rfl inNil) rfl rfl rfl (⟨_, _, rfl, rfl, ⟨_, _, rfl, rfl, ⟨_, _, rfl, rfl, ⟨_, _, rfl, rfl, ⟨_, _, rfl, rfl, rfl⟩⟩⟩⟩⟩) ?_)
        refine VO.cons rfl (V1.as ?_)
        refine VO.nil (V.seq (V.region (VO.cons rfl (V1.mv ?_))))
        refine VO.cons rfl (V1.it ?_)
        refine VO.cons rfl (V1.mv ?_)
        apply VO.and (n := 3) rfl rfl rfl rfl rfl rfl lt0 (.none rfl)
        ·
         intro hg0
         refine VO.step (.some rfl rfl rfl) (V1.mv ?_)
         refine VO.step (.some rfl rfl rfl) (V1.mv ?_)
         refine VO.step (.some rfl rfl rfl) (V1.it ?_)
         exact VO.nil ⟨rfl, rfl, rfl, rfl, .inr ⟨rfl, .inr ⟨rfl, .inr ⟨rfl, .inr ⟨rfl, .inl rfl⟩⟩⟩⟩⟩
        refine VO.nil (V.keep 56 [0, 3, 6, 9, 48] [1] (E0 := [(0, .vl ρ0 2 (List.map (encVersion σ0) list)), (3, .ref b0 4 0 0), (6, .int .i64 i), (9, .int .i64 y2.2), (48, .bool ((decide (y2.2 ≥ (0 : Int))) && (decide (y2.2 ≤ last))))]) (H0 := [(b0, ⟨4, [encRecord ρ1 r_]⟩)]) rfl (⟨_, _, rfl, rfl, ⟨_, _, rfl, rfl, ⟨_, _, rfl, rfl, ⟨_, _, rfl, rfl, ⟨_, _, rfl, rfl, rfl⟩⟩⟩⟩⟩) (⟨_, _, rfl, rfl, rfl⟩) rfl ?_)
        refine V.cond rfl (fun hc3 => ?_) (fun hc3 => ?_)
        ·
         replace hm2 := cond_t hc3 hm2
         refine V.seq ?_
         replace hm2 := asrt_some hm2; rcases hm2 with ⟨hh4, hm2⟩
         replace hm2 := bindO hm2; rcases hm2 with ⟨y3, hh5, hm2⟩
         refine V.region (VO.cons rfl (V1.mv ?_))
         refine VO.cons rfl (V1.mv ?_)
         refine VO.cons rfl (V1.mv ?_)
         refine VO.cons rfl (V1.indexI rfl rfl esz_57 rfl rfl hh4 lt0 ?_)
         refine VO.cons rfl (V1.fieldPin rfl rfl fo_60_0 rfl lt0 ?_)
         refine VO.cons rfl (V1.loadPin rfl rfl tyk_3 rfl rfl lt0 ?_)
         refine VO.cons rfl (V1.call rfl rfl rfl cok_151 rfl (ok_spec_l1Most hh5) rfl lt0 ?_)
         rintro _ _ ⟨rfl, rfl⟩
         refine VO.cons rfl (V1.as ?_)
         refine VO.cons rfl (V1.as ?_)
         refine VO.nil (V.ret ?_)
         obtain rfl := oi hm2
         change some _ = some _ at hm1
         obtain rfl := hr1 _ (oi hm1).symm
         change some _ = some _ at hm0
         obtain rfl := oi hm0
         exact ⟨_, [], ⟨_, _, rfl, rfl, ⟨_, _, rfl, rfl, rfl⟩⟩, List.nil_sublist _, rfl, rfl⟩
        ·
         replace hm2 := cond_f hc3 hm2
         refine V.skip ?_
         exact ⟨((), ()), oi hm2, Keeps.mk (ks := [0]) rfl ⟨rfl, rfl, rfl, trivial⟩ (⟨_, _, rfl, rfl, rfl⟩) rfl⟩
    ·
     rintro ⟨_, _⟩ rfl
     try dsimp only at hm1
     refine V.region (VO.cons rfl (V1.mv ?_))
     refine VO.cons rfl (V1.it ?_)
     refine VO.cons rfl (V1.as ?_)
     refine VO.nil ?_
     exact ⟨(m0, (IntKind.i64.wrap (i + (1 : Int))), ()), hl1 _ (oi hm1).symm, Nat.lt_succ_self _, Keeps.mk (ks := [0]) rfl ⟨rfl, rfl, rfl, trivial⟩ (⟨_, _, rfl, rfl, rfl⟩) rfl⟩
   ·
    replace hm1 := cond_f hc1 hm1
    refine V.exit ?_
    obtain rfl := hr1 _ (oi hm1).symm
    exact ⟨((), ()), rfl, Keeps.mk (ks := []) rfl trivial (rfl) rfl⟩
  ·
   rintro ⟨_, _⟩ rfl
   try dsimp only at hm0
   refine V.seq (V.region (VO.cons rfl (V1.as ?_)))
   refine VO.cons rfl (V1.as ?_)
   refine VO.nil (V.ret ?_)
   obtain rfl := oi hm0
   exact ⟨_, [], ⟨_, _, rfl, rfl, ⟨_, _, rfl, rfl, rfl⟩⟩, List.nil_sublist _, rfl, rfl⟩

theorem ok_spec_l1Cur_dayNear {ρ0 ρ1 σ1 ρ2 rn bp : Nat} {c : Cur} {list : List Version} {r_ : Record} {r : Int × Cur} (h : M.spec_l1Cur_dayNear c list r_ = some r) : Does Try.prog 102 [.ref bp 3 0 0, .vl ρ1 2 (List.map (encVersion σ1) list), encRecord ρ2 r_] [(bp, ⟨3, [encCur ρ0 c]⟩)] rn (fun x H => x = .int .i64 r.1 ∧ H = [(bp, ⟨3, [encCur ρ0 r.2]⟩)]) := by
 have hm0 := h; clear h; unfold M.spec_l1Cur_dayNear at hm0
 try dsimp only at hm0
 refine Does.intro (N := 44) Try.func102 rfl rfl rfl rfl ?_
 intro w0 S0
 refine V.seq (V.region (VO.cons rfl (V1.boxN (n := 4) rfl rfl rfl rfl rfl lt0 ?_)))
 intro b0
 refine VO.cons rfl (V1.as ?_)
 refine VO.nil (V.seq (V.seq ?_))
 replace hm0 := bindO hm0; rcases hm0 with ⟨y0, hh0, hm0⟩
 refine V.region (VO.cons rfl (V1.mv ?_))
 refine VO.cons rfl (V1.loadRefAll (k := 0) rfl rfl tyk_44 rfl rfl rfl rfl rfl lt0 ?_)
 refine VO.cons rfl (V1.call rfl rfl rfl cok_127 rfl (ok_spec_FirstDueDay hh0) rfl lt0 ?_)
 rintro _ _ ⟨rfl, rfl⟩
 refine VO.cons rfl (V1.mv ?_)
 refine VO.cons rfl (V1.extract rfl rfl rfl rfl lt0 ?_)
 refine VO.cons rfl (V1.extract rfl rfl rfl rfl lt0 ?_)
 refine VO.cons rfl (V1.as ?_)
 refine VO.cons rfl (V1.as ?_)
 refine VO.nil (V.keep 44 [0, 1, 7, 8] [1] (E0 := [(0, .ref bp 3 0 0), (1, .vl ρ1 2 (List.map (encVersion σ1) list)), (7, .int .i64 y0.1), (8, .bool y0.2)]) (H0 := [(bp, ⟨3, [encCur ρ0 c]⟩)]) rfl (⟨_, _, rfl, rfl, ⟨_, _, rfl, rfl, ⟨_, _, rfl, rfl, ⟨_, _, rfl, rfl, rfl⟩⟩⟩⟩) (⟨_, _, rfl, rfl, rfl⟩) rfl ?_)
 refine V.seq ?_
 replace hm0 := bindO hm0; rcases hm0 with ⟨y1, hh1, hm0⟩
 refine V.region (VO.cons rfl (V1.mv ?_))
 refine VO.cons rfl (V1.mv ?_)
 apply VO.andH (n := 2) [(bp, ⟨3, [encCur ρ0 (bif y0.2 then y1.2 else c)]⟩)] rfl rfl rfl rfl rfl rfl lt0 (.none rfl) (fun h => by rw [h]; rfl)
 ·
  intro hg0
  refine VO.step (.some rfl rfl rfl) (V1.mv ?_)
  refine VO.step (.some rfl rfl rfl) (V1.callM 0 (rn + ρ0 + 1) [] [.ref bp 3 0 0, .int .i64 (2 : Int)] (p := (bp, ⟨3, [encCur ρ0 c]⟩)) rfl rfl rfl cok_83 rfl rfl ⟨_, _, rfl, .same _, ⟨_, _, rfl, .same _, rfl⟩⟩ bwNil (ok_spec_l1Cur_one (cond_t hg0 hh1)) rfl (.inl rfl) lt0 ?_)
  rintro _ _ ⟨rfl, rfl⟩
  exact VO.nil ⟨rfl, rfl, rfl, (by rw [hg0]; rfl), .inr ⟨rfl, .inr ⟨rfl, .inr ⟨rfl, .inl rfl⟩⟩⟩⟩
 refine VO.nil (V.cond rfl (fun hc0 => ?_) (fun hc0 => ?_))
 ·
  replace hm0 := cond_t hc0 hm0
  refine V.seq ?_
  replace hm0 := bindO hm0; rcases hm0 with ⟨y2, hh2, hm0⟩
  refine V.region (VO.cons rfl (V1.mv ?_))
  refine VO.cons rfl (V1.mv ?_)
  refine VO.cons rfl (V1.callM 0 (rn + ρ0 + 1) [] [.ref bp 3 0 0, .int .i64 (2 : Int)] (p := (bp, ⟨3, [encCur ρ0 (bif y0.2 then y1.2 else c)]⟩)) rfl rfl rfl cok_84 rfl rfl ⟨_, _, rfl, .same _, ⟨_, _, rfl, .same _, rfl⟩⟩ bwNil (ok_spec_l1Cur_pick hh2) rfl (.inl rfl) lt0 ?_)
  rintro _ _ ⟨rfl, rfl⟩
  refine VO.cons rfl (V1.it ?_)
  refine VO.cons rfl (V1.as ?_)
  refine VO.nil (V.ret ?_)
  obtain rfl := oi hm0
  exact ⟨_, _, ⟨_, _, rfl, rfl, rfl⟩, (sub1 (k := 0) rfl), rfl, rfl⟩
 ·
  replace hm0 := cond_f hc0 hm0
  refine V.skip ?_
  refine V.keep 44 [0, 1] [0] (E0 := [(0, .ref bp 3 0 0), (1, .vl ρ1 2 (List.map (encVersion σ1) list))]) (H0 := [(bp, ⟨3, [encCur ρ0 (bif y0.2 then y1.2 else c)]⟩)]) rfl (⟨_, _, rfl, rfl, ⟨_, _, rfl, rfl, rfl⟩⟩) (⟨_, _, rfl, rfl, rfl⟩) rfl ?_
  refine V.seq (V.seq ?_)
  replace hm0 := bindO hm0; rcases hm0 with ⟨y3, hh3, hm0⟩
  refine V.region (VO.cons rfl (V1.mv ?_))
  refine VO.cons rfl (V1.lenMap rfl rfl rfl rfl rfl rfl isl_57 lt0 ?_)
  refine VO.cons rfl (V1.it ?_)
  refine VO.cons rfl (V1.mv ?_)
  apply VO.andH (n := 2) [(bp, ⟨3, [encCur ρ0 (bif (decide ((list.length : Int) > (0 : Int))) then y3.2 else (bif y0.2 then y1.2 else c))]⟩)] rfl rfl rfl rfl rfl rfl lt0 (.none rfl) (fun h => by rw [h]; rfl)
  ·
   intro hg1
   refine VO.step (.some rfl rfl rfl) (V1.mv ?_)
   refine VO.step (.some rfl rfl rfl) (V1.callM 0 (rn + ρ0 + 1) [] [.ref bp 3 0 0, .int .i64 (2 : Int)] (p := (bp, ⟨3, [encCur ρ0 (bif y0.2 then y1.2 else c)]⟩)) rfl rfl rfl cok_83 rfl rfl ⟨_, _, rfl, .same _, ⟨_, _, rfl, .same _, rfl⟩⟩ bwNil (ok_spec_l1Cur_one (cond_t hg1 hh3)) rfl (.inl rfl) lt0 ?_)
   rintro _ _ ⟨rfl, rfl⟩
   exact VO.nil ⟨rfl, rfl, rfl, (by rw [hg1]; rfl), .inr ⟨rfl, .inr ⟨rfl, .inr ⟨rfl, .inl rfl⟩⟩⟩⟩
  refine VO.nil (V.keep 44 [0, 1, 30] [0] (E0 := [(0, .ref bp 3 0 0), (1, .vl ρ1 2 (List.map (encVersion σ1) list)), (30, .bool ((decide ((list.length : Int) > (0 : Int))) && y3.1))]) (H0 := [(bp, ⟨3, [encCur ρ0 (bif (decide ((list.length : Int) > (0 : Int))) then y3.2 else (bif y0.2 then y1.2 else c))]⟩)]) rfl (⟨_, _, rfl, rfl, ⟨_, _, rfl, rfl, ⟨_, _, rfl, rfl, rfl⟩⟩⟩) (⟨_, _, rfl, rfl, rfl⟩) rfl ?_)
  refine V.cond rfl (fun hc1 => ?_) (fun hc1 => ?_)
  ·
   replace hm0 := cond_t hc1 hm0
   refine V.seq ?_
   replace hm0 := bindO hm0; rcases hm0 with ⟨y4, hh4, hm0⟩
   replace hm0 := asrt_some hm0; rcases hm0 with ⟨hh5, hm0⟩
   replace hm0 := bindO hm0; rcases hm0 with ⟨y5, hh6, hm0⟩
   refine V.regionS [] 44 10 [⟨[(1, none)], false⟩, ⟨[(0, none)], false⟩, ⟨[(1, none)], false⟩, ⟨[(33, some 2)], false⟩, ⟨[(32, some 1), (34, some 3)], true⟩, ⟨[(31, some 0), (35, some 4)], false⟩, ⟨[(36, some 5)], false⟩, ⟨[(37, some 6)], false⟩, ⟨[(0, none)], false⟩, ⟨[(39, some 8)], true⟩] [(38, some 7), (40, some 9)] 2 (⟨_, rfl, ⟨_, rfl, ⟨_, rfl, ⟨_, rfl, ⟨_, rfl, ⟨_, rfl, ⟨_, rfl, ⟨_, rfl, ⟨_, rfl, ⟨_, rfl, ⟨rfl, rfl⟩⟩⟩⟩⟩⟩⟩⟩⟩⟩⟩) mixed_orders rfl (by decide +kernel) ?_
   refine WalkP.step (p := ?pv17) 0 rfl rfl rfl rfl rfl (⟨_, _, rfl, rfl, rfl⟩) ?hv17 ?rest17
   case hv17 =>
    intro E1 H1 hI1
    refine (V1.mv ?_)
    exact rfl
   refine WalkP.step (p := ?pv18) 1 rfl rfl rfl rfl rfl (⟨_, _, rfl, rfl, rfl⟩) ?hv18 ?rest18
   case hv18 =>
    intro E1 H1 hI1
    refine (V1.mv ?_)
    exact rfl
   refine WalkP.step (p := ?pv19) 2 rfl rfl rfl rfl rfl (⟨_, _, rfl, rfl, rfl⟩) ?hv19 ?rest19
   case hv19 =>
    intro E1 H1 hI1
    refine (V1.mv ?_)
    exact rfl
   refine WalkP.step (p := ?pv20) 3 rfl rfl rfl rfl rfl (⟨_, _, rfl, rfl, rfl⟩) ?hv20 ?rest20
   case hv20 =>
    intro E1 H1 hI1
    refine (V1.lenMap rfl rfl rfl rfl rfl rfl isl_57 lt0 ?_)
    exact rfl
   refine WalkP.step (p := ?pv21) 8 rfl rfl rfl rfl rfl (⟨_, _, rfl, rfl, rfl⟩) ?hv21 ?rest21
   case hv21 =>
    intro E1 H1 hI1
    refine (V1.mv ?_)
    exact rfl
   refine WalkP.nil (NodeS.branch [4] inNil rfl rfl rfl ⟨?_, trivial⟩)
   ·
    refine ⟨_, _, _, _, rfl, rfl, rfl, (⟨_, _, rfl, rfl, ⟨_, _, rfl, rfl, rfl⟩⟩), fun E1 => ?_⟩
    refine (V1.callM 0 (rn + ρ0 + 1) [] [.ref bp 3 0 0, .int .i64 (list.length : Int)] (p := (bp, ⟨3, [encCur ρ0 (bif (decide ((list.length : Int) > (0 : Int))) then y3.2 else (bif y0.2 then y1.2 else c))]⟩)) rfl rfl rfl cok_84 rfl rfl ⟨_, _, rfl, .same _, ⟨_, _, rfl, .same _, rfl⟩⟩ bwNil (ok_spec_l1Cur_pick hh4) rfl (.inl rfl) lt0 ?_)
    rintro _ _ ⟨rfl, rfl⟩
    refine ⟨_, _, rfl, ?_⟩
    refine WalkP.step (p := ?pv22) 5 rfl rfl rfl rfl rfl (⟨_, _, rfl, rfl, ⟨_, _, rfl, rfl, rfl⟩⟩) ?hv22 ?rest22
    case hv22 =>
     intro E1 H1 hI1
     refine (V1.indexI rfl rfl esz_57 rfl rfl hh5 lt0 ?_)
     exact rfl
    refine WalkP.step (p := ?pv23) 6 rfl rfl rfl rfl rfl (⟨_, _, rfl, rfl, rfl⟩) ?hv23 ?rest23
    case hv23 =>
     intro E1 H1 hI1
     refine (V1.fieldPin rfl rfl fo_60_0 rfl lt0 ?_)
     exact rfl
    refine WalkP.step (p := ?pv24) 7 rfl rfl rfl rfl rfl (⟨_, _, rfl, rfl, rfl⟩) ?hv24 ?rest24
    case hv24 =>
     intro E1 H1 hI1
     refine (V1.loadPin rfl rfl tyk_3 rfl rfl lt0 ?_)
     exact rfl
    refine WalkP.nil (NodeS.branch [9] inNil rfl rfl rfl ⟨?_, trivial⟩)
    ·
     refine ⟨_, _, _, _, rfl, rfl, rfl, (⟨_, _, rfl, rfl, rfl⟩), fun E1 => ?_⟩
     refine (V1.callM 0 (rn + ρ0 + 1) [] [.ref bp 3 0 0, .int .i64 (2 : Int)] (p := (bp, ⟨3, [encCur ρ0 y4.2]⟩)) rfl rfl rfl cok_84 rfl rfl ⟨_, _, rfl, .same _, ⟨_, _, rfl, .same _, rfl⟩⟩ bwNil (ok_spec_l1Cur_pick hh6) rfl (.inl rfl) lt0 ?_)
     rintro _ _ ⟨rfl, rfl⟩
     refine ⟨_, _, rfl, ?_⟩
     refine WalkP.nil (NodeS.fin inNil rfl rfl rfl (⟨_, _, rfl, rfl, ⟨_, _, rfl, rfl, rfl⟩⟩) ?_)
     refine VO.cons rfl (V1.it ?_)
     refine VO.cons rfl (V1.as ?_)
     refine VO.nil (V.ret ?_)
     obtain rfl := oi hm0
     exact ⟨_, _, ⟨_, _, rfl, rfl, rfl⟩, (sub1 (k := 0) rfl), rfl, rfl⟩
  ·
   replace hm0 := cond_f hc1 hm0
   refine V.skip ?_
   refine V.seq ?_
   replace hm0 := bindO hm0; rcases hm0 with ⟨y6, hh7, hm0⟩
   refine V.region (VO.cons rfl (V1.mv ?_))
   refine VO.cons rfl (V1.callM 0 (rn + ρ0 + 1) [] [.ref bp 3 0 0] (p := (bp, ⟨3, [encCur ρ0 (bif (decide ((list.length : Int) > (0 : Int))) then y3.2 else (bif y0.2 then y1.2 else c))]⟩)) rfl rfl rfl cok_81 rfl rfl ⟨_, _, rfl, .same _, rfl⟩ bwNil (ok_spec_l1Cur_day hh7) rfl (.inl rfl) lt0 ?_)
   rintro _ _ ⟨rfl, rfl⟩
   refine VO.cons rfl (V1.as ?_)
   refine VO.nil (V.ret ?_)
   obtain rfl := oi hm0
   exact ⟨_, _, ⟨_, _, rfl, rfl, rfl⟩, (sub1 (k := 0) rfl), rfl, rfl⟩

theorem ok_spec_DrawVersionOn {ρ0 rn : Nat} {code : List Int} {r : List Version × Int} (h : M.spec_DrawVersionOn code = some r) : Does Try.prog 44 [.vl ρ0 1 (List.map encU8 code)] [] rn (fun x H => ∃ (ob0_ : Nat), x = .tup [PV.sref ob0_ 2 0 (List.length r.1), .int .i64 r.2] ∧ H = [(ob0_, ⟨2, List.map (encVersion rn) r.1⟩)]) := by
 have hm0 := h; clear h; unfold M.spec_DrawVersionOn at hm0
 try dsimp only at hm0
 refine Does.intro (N := 20) Try.func44 rfl rfl rfl rfl ?_
 intro w0 S0
 refine V.seq (V.region (VO.cons rfl (V1.as ?_)))
 refine VO.cons rfl (V1.as ?_)
 refine VO.nil (V.seq (V.region (VO.cons rfl (V1.mv ?_))))
 refine VO.cons rfl (V1.build rfl rfl zk_80 pl_80 rfl rfl lt0 ?_)
 refine VO.cons rfl (V1.boxN (n := 3) rfl rfl rfl rfl rfl lt0 ?_)
 intro b0
 refine VO.cons rfl (V1.as ?_)
 refine VO.nil (V.keep 20 [4] [0] (E0 := [(4, .ref b0 3 0 0)]) (H0 := [(b0, ⟨3, [.agg [.vl ρ0 1 (List.map encU8 code), .int .i64 (0 : Int), .int .u64 (0 : Int)]]⟩)]) rfl (⟨_, _, rfl, rfl, rfl⟩) (⟨_, _, rfl, rfl, rfl⟩) rfl ?_)
 refine V.seq ?_
 replace hm0 := bindO hm0; rcases hm0 with ⟨y0, hh0, hm0⟩
 refine V.region (VO.cons rfl (V1.mv ?_))
 refine VO.cons rfl (V1.callM 0 (rn + ρ0 + 1) [] [.ref b0 3 0 0, .int .i64 (12 : Int)] (p := (b0, ⟨3, [.agg [.vl ρ0 1 (List.map encU8 code), .int .i64 (0 : Int), .int .u64 (0 : Int)]]⟩)) rfl rfl rfl cok_67 rfl rfl ⟨_, _, rfl, .same _, ⟨_, _, rfl, .same _, rfl⟩⟩ bwNil (ok_spec_l1Cur_record hh0) rfl (.inl rfl) lt0 ?_)
 rintro _ _ ⟨rfl, rfl⟩
 refine VO.cons rfl (V1.alloc rfl rfl zk_44 lt0 ?_)
 intro b1
 refine VO.cons rfl (V1.storeRefAll (k := 0) rfl rfl tyk_44 rfl rfl rfl rfl rfl rfl ?_)
 refine VO.nil (V.seq ?_)
 replace hm0 := bindO hm0; rcases hm0 with ⟨y1, hh1, hm0⟩
 refine V.region (VO.cons rfl (V1.mv ?_))
 refine VO.cons rfl (V1.loadRefAll (k := 0) rfl rfl tyk_44 rfl rfl rfl rfl rfl lt0 ?_)
 refine VO.cons rfl (V1.callM 1 (rn + ρ0 + 1) [] [.ref b0 3 0 0, encRecord rn y0.1] (p := (b0, ⟨3, [encCur ρ0 y0.2]⟩)) rfl rfl rfl cok_80 rfl rfl ⟨_, _, rfl, .same _, ⟨_, _, rfl, .same _, rfl⟩⟩ bwNil (ok_spec_l1Cur_versions hh1) rfl (.inl rfl) lt0 ?_)
 rintro _ _ ⟨b2, rfl, rfl⟩
 refine VO.cons rfl (V1.as ?_)
 refine VO.nil (V.keep 20 [4, 5, 6] [0, 1, 2] (E0 := [(4, .ref b0 3 0 0), (5, .ref b1 4 0 0), (6, .sref b2 2 0 (List.length y1.1))]) (H0 := [(b2, ⟨2, List.map (encVersion rn) y1.1⟩), (b0, ⟨3, [encCur ρ0 y1.2]⟩), (b1, ⟨4, [encRecord rn y0.1]⟩)]) rfl (⟨_, _, rfl, rfl, ⟨_, _, rfl, rfl, ⟨_, _, rfl, rfl, rfl⟩⟩⟩) (⟨_, _, rfl, rfl, ⟨_, _, rfl, rfl, ⟨_, _, rfl, rfl, rfl⟩⟩⟩) rfl ?_)
 refine V.seq ?_
 replace hm0 := bindO hm0; rcases hm0 with ⟨y2, hh2, hm0⟩
 refine V.region (VO.cons rfl (V1.mv ?_))
 refine VO.cons rfl (V1.mv ?_)
 refine VO.cons rfl (V1.mv ?_)
 refine VO.cons rfl (V1.loadRefAll (k := 2) rfl rfl tyk_44 rfl rfl rfl rfl rfl lt0 ?_)
 refine VO.cons rfl (V1.callM 1 (rn + ρ0 + 1) [b2] [.ref b0 3 0 0, .vl (rn + ρ0 + 1) 2 (List.map (encVersion rn) y1.1), encRecord rn y0.1] (p := (b0, ⟨3, [encCur ρ0 y1.2]⟩)) rfl rfl rfl cok_102 rfl rfl ⟨_, _, rfl, .same _, ⟨_, _, rfl, Lend.srMap 0 rfl (fun _ => rfl) (.head _), ⟨_, _, rfl, .same _, rfl⟩⟩⟩ (bwCons (k := 0) rfl bwNil) (ok_spec_l1Cur_dayNear hh2) rfl (.inr ⟨(by first | omega | (dsimp only; omega)), by rintro _ _ ⟨rfl, rfl⟩; exact ⟨by simp [PV.no, PV.noL, optS_no, noL_iff, nbeq] <;> omega, by intro b ob h; first | exact optH_no (noL_map (fun _ => by simp [PV.no, PV.noL, noL_iff, nbeq]) _) b ob h | (simp only [List.append_assoc, List.mem_append, List.mem_cons, List.mem_singleton, List.not_mem_nil, or_false, Prod.mk.injEq] at h; rcases h with ⟨rfl, rfl⟩ | ⟨rfl, rfl⟩ <;> first | exact noL_map (fun _ => by simp [PV.no, PV.noL, noL_iff, nbeq]) _ | (simp [PV.no, PV.noL, optS_no, noL_iff, nbeq] <;> omega)) | (simp at h; obtain ⟨rfl, rfl⟩ := h; exact noL_map (fun _ => by simp [PV.no, PV.noL, noL_iff, nbeq]) _) | (simp at h; obtain ⟨rfl, rfl⟩ := h; simp [PV.no, PV.noL, optS_no, noL_iff, nbeq] <;> omega)⟩⟩) lt0 ?_)
 rintro _ _ ⟨rfl, rfl⟩
 refine VO.cons rfl (V1.as ?_)
 refine VO.cons rfl (V1.as ?_)
 refine VO.nil (V.keep 20 [2, 3] [1] (E0 := [(2, .sref b2 2 0 (List.length y1.1)), (3, .int .i64 y2.1)]) (H0 := [(b2, ⟨2, List.map (encVersion rn) y1.1⟩)]) rfl (⟨_, _, rfl, rfl, ⟨_, _, rfl, rfl, rfl⟩⟩) (⟨_, _, rfl, rfl, rfl⟩) rfl ?_)
 refine V.ret ?_
 obtain rfl := oi hm0
 exact ⟨_, _, ⟨_, _, rfl, rfl, ⟨_, _, rfl, rfl, rfl⟩⟩, List.Sublist.refl _, b2, rfl, rfl⟩

theorem ok_spec_l8On {ρ0 σ0 rn : Nat} {list : List Version} {day : Int} {r : Int} (h : M.spec_l8On list day = some r) : Does Try.prog 103 [.vl ρ0 2 (List.map (encVersion σ0) list), .int .i64 day] [] rn (fun x H => x = .int .i64 r ∧ H = []) := by
 have hm0 := h; clear h; unfold M.spec_l8On at hm0
 try dsimp only at hm0
 refine Does.intro (N := 22) Try.func103 rfl rfl rfl rfl ?_
 intro w0 S0
 refine V.seq (V.region (VO.cons rfl (V1.as ?_)))
 refine VO.nil (V.seq (V.region (VO.cons rfl (V1.as ?_))))
 refine VO.nil (V.seq (V.seq (V.region (VO.cons rfl (V1.as ?_)))))
 refine VO.nil ?_
 replace hm0 := bindO hm0; rcases hm0 with ⟨e0, he1, hm0⟩
 refine V.cutT (D := (Int) × (Unit)) (fun ⟨at_, _⟩ => ⟨22, [(5, .int .i64 at_)], []⟩) (fun ⟨at_, _⟩ => (at_ = e0)) ?_ ?_
 ·
  refine V.block ?_
  refine V.keep 22 [5, 6, 0, 1] [] (E0 := [(5, .int .i64 (-1 : Int)), (6, .int .i64 (0 : Int)), (0, .vl ρ0 2 (List.map (encVersion σ0) list)), (1, .int .i64 day)]) (H0 := []) rfl (⟨_, _, rfl, rfl, ⟨_, _, rfl, rfl, ⟨_, _, rfl, rfl, ⟨_, _, rfl, rfl, rfl⟩⟩⟩⟩) (rfl) rfl ?_
  refine V.loopE (D := Nat × (Int × Int) × (Unit)) (fun ⟨n0, ⟨at_0, i⟩, _⟩ => [(5, .int .i64 at_0), (6, .int .i64 i)]) (fun ⟨n0, ⟨at_0, i⟩, _⟩ => []) (fun ⟨n0, ⟨at_0, i⟩, _⟩ => loopO (M.spec_l8On_l0 list day) n0 (at_0, i) = some e0) (fun ⟨n0, _, _⟩ => n0) (rounds, ((-1 : Int), (0 : Int)), ()) rfl he1 ?_
  rintro ⟨n0, ⟨at_0, i⟩, _⟩ hP0
  obtain ⟨m0, y0, rfl, hm1, hl1, hr1⟩ := loop_head hP0
  unfold M.spec_l8On_l0 at hm1; dsimp only at hm1
  show V _ _ _ ⟨22, [(5, .int .i64 at_0), (6, .int .i64 i), (0, .vl ρ0 2 (List.map (encVersion σ0) list)), (1, .int .i64 day)], []⟩
  refine V.seq (V.seq (V.region (VO.cons rfl (V1.mv ?_))))
  refine VO.cons rfl (V1.mv ?_)
  refine VO.cons rfl (V1.lenMap rfl rfl rfl rfl rfl rfl isl_57 lt0 ?_)
  refine VO.cons rfl (V1.it ?_)
  refine VO.nil (V.cond rfl (fun hc0 => ?_) (fun hc0 => ?_))
  ·
   replace hm1 := cond_t hc0 hm1
   refine V.skip ?_
   refine V.keep 22 [0, 1, 5, 6] [] (E0 := [(0, .vl ρ0 2 (List.map (encVersion σ0) list)), (1, .int .i64 day), (5, .int .i64 at_0), (6, .int .i64 i)]) (H0 := []) rfl (⟨_, _, rfl, rfl, ⟨_, _, rfl, rfl, ⟨_, _, rfl, rfl, ⟨_, _, rfl, rfl, rfl⟩⟩⟩⟩) (rfl) rfl ?_
   refine V.seq ?_
   replace hm1 := bindO hm1; rcases hm1 with ⟨j0, hm2, hm1⟩
   refine V.cutT (D := (Int) × (Unit)) (fun ⟨at_1, _⟩ => ⟨22, [(5, .int .i64 at_1), (0, .vl ρ0 2 (List.map (encVersion σ0) list)), (1, .int .i64 day), (6, .int .i64 i)], []⟩) (fun ⟨at_1, _⟩ => (at_1 = j0)) ?_ ?_
   ·
    refine V.block ?_
    refine V.seq ?_
    replace hm2 := asrt_some hm2; rcases hm2 with ⟨hh0, hm2⟩
    refine V.region (VO.cons rfl (V1.mv ?_))
    refine VO.cons rfl (V1.mv ?_)
    refine VO.cons rfl (V1.indexI rfl rfl esz_57 rfl rfl hh0 lt0 ?_)
    refine VO.cons rfl (V1.fieldPin rfl rfl fo_60_0 rfl lt0 ?_)
    refine VO.cons rfl (V1.loadPin rfl rfl tyk_3 rfl rfl lt0 ?_)
    refine VO.cons rfl (V1.mv ?_)
    refine VO.cons rfl (V1.it ?_)
    refine VO.nil (V.keep 22 [0, 1, 5, 6, 19] [] (E0 := [(0, .vl ρ0 2 (List.map (encVersion σ0) list)), (1, .int .i64 day), (5, .int .i64 at_0), (6, .int .i64 i), (19, .bool (decide (((list.getD (Int.toNat i) default).From) ≤ day)))]) (H0 := []) rfl (⟨_, _, rfl, rfl, ⟨_, _, rfl, rfl, ⟨_, _, rfl, rfl, ⟨_, _, rfl, rfl, ⟨_, _, rfl, rfl, rfl⟩⟩⟩⟩⟩) (rfl) rfl ?_)
    refine V.cond rfl (fun hc1 => ?_) (fun hc1 => ?_)
    ·
     replace hm2 := cond_t hc1 hm2
     refine V.region (VO.cons rfl (V1.mv ?_))
     refine VO.cons rfl (V1.as ?_)
     refine VO.nil ?_
     exact ⟨(i, ()), oi hm2, Keeps.mk (ks := []) rfl ⟨rfl, rfl, rfl, rfl, trivial⟩ (rfl) rfl⟩
    ·
     replace hm2 := cond_f hc1 hm2
     refine V.skip ?_
     exact ⟨(at_0, ()), oi hm2, Keeps.mk (ks := []) rfl ⟨rfl, rfl, rfl, rfl, trivial⟩ (rfl) rfl⟩
   ·
    rintro ⟨at_1, _⟩ rfl
    try dsimp only at hm1
    refine V.region (VO.cons rfl (V1.mv ?_))
    refine VO.cons rfl (V1.it ?_)
    refine VO.cons rfl (V1.as ?_)
    refine VO.nil ?_
    exact ⟨(m0, (at_1, (IntKind.i64.wrap (i + (1 : Int)))), ()), hl1 _ (oi hm1).symm, Nat.lt_succ_self _, Keeps.mk (ks := []) rfl ⟨rfl, rfl, rfl, rfl, trivial⟩ (rfl) rfl⟩
  ·
   replace hm1 := cond_f hc0 hm1
   refine V.exit ?_
   obtain rfl := hr1 _ (oi hm1).symm
   exact ⟨(at_0, ()), rfl, Keeps.mk (ks := []) rfl ⟨rfl, trivial⟩ (rfl) rfl⟩
 ·
  rintro ⟨at_, _⟩ rfl
  try dsimp only at hm0
  refine V.seq (V.region (VO.cons rfl (V1.mv ?_)))
  refine VO.cons rfl (V1.as ?_)
  refine VO.nil (V.ret ?_)
  obtain rfl := oi hm0
  exact ⟨_, [], ⟨_, _, rfl, rfl, rfl⟩, List.nil_sublist _, rfl, rfl⟩

theorem ok_spec_VersionOn {ρ0 σ0 rn : Nat} {list : List Version} {day : Int} {r : Int × Bool} (h : M.spec_VersionOn list day = some r) : Does Try.prog 45 [.vl ρ0 2 (List.map (encVersion σ0) list), .int .i64 day] [] rn (fun x H => x = .tup [.int .i64 r.1, .bool r.2] ∧ H = []) := by
 have hm0 := h; clear h; unfold M.spec_VersionOn at hm0
 try dsimp only at hm0
 refine Does.intro (N := 23) Try.func45 rfl rfl rfl rfl ?_
 intro w0 S0
 refine V.seq (V.region (VO.cons rfl (V1.as ?_)))
 refine VO.cons rfl (V1.as ?_)
 refine VO.nil (V.seq (V.seq ?_))
 replace hm0 := bindO hm0; rcases hm0 with ⟨y0, hh0, hm0⟩
 replace hm0 := bindO hm0; rcases hm0 with ⟨y1, hh1, hm0⟩
 replace hm0 := bindO hm0; rcases hm0 with ⟨y2, hh2, hm0⟩
 refine V.region (VO.cons rfl (V1.mv ?_))
 refine VO.cons rfl (V1.call rfl rfl rfl cok_91 rfl (ok_spec_l8Good hh0) rfl lt0 ?_)
 rintro _ _ ⟨rfl, rfl⟩
 refine VO.cons rfl (V1.not rfl rfl rfl lt0 ?_)
 refine VO.cons rfl (V1.mv ?_)
 apply VO.or (n := 3) rfl rfl rfl rfl rfl rfl lt0 (.none rfl)
 ·
  intro hg0
  refine VO.step (.some rfl rfl rfl) (V1.mv ?_)
  refine VO.step (.some rfl rfl rfl) (V1.call rfl rfl rfl cok_62 rfl (ok_spec_l2Day (cond_f hg0 hh1)) rfl lt0 ?_)
  rintro _ _ ⟨rfl, rfl⟩
  refine VO.step (.some rfl rfl rfl) (V1.not rfl rfl rfl lt0 ?_)
  exact VO.nil ⟨rfl, rfl, rfl, rfl, .inr ⟨rfl, .inr ⟨rfl, .inr ⟨rfl, .inr ⟨rfl, .inl rfl⟩⟩⟩⟩⟩
 refine VO.cons rfl (V1.mv ?_)
 apply VO.or (n := 4) rfl rfl rfl rfl rfl rfl lt0 (.none rfl)
 ·
  intro hg1
  refine VO.step (.some rfl rfl rfl) (V1.mv ?_)
  refine VO.step (.some rfl rfl rfl) (V1.mv ?_)
  refine VO.step (.some rfl rfl rfl) (V1.call rfl rfl rfl cok_103 rfl (ok_spec_l8On (cond_f hg1 hh2)) rfl lt0 ?_)
  rintro _ _ ⟨rfl, rfl⟩
  refine VO.step (.some rfl rfl rfl) (V1.it ?_)
  exact VO.nil ⟨rfl, rfl, rfl, rfl, .inr ⟨rfl, .inr ⟨rfl, .inr ⟨rfl, .inr ⟨rfl, .inr ⟨rfl, .inl rfl⟩⟩⟩⟩⟩⟩
 refine VO.nil (V.keep 23 [0, 1, 19] [] (E0 := [(0, .vl ρ0 2 (List.map (encVersion σ0) list)), (1, .int .i64 day), (19, .bool (((!y0) || (!y1)) || (decide (y2 < (0 : Int)))))]) (H0 := []) rfl (⟨_, _, rfl, rfl, ⟨_, _, rfl, rfl, ⟨_, _, rfl, rfl, rfl⟩⟩⟩) (rfl) rfl ?_)
 refine V.cond rfl (fun hc0 => ?_) (fun hc0 => ?_)
 ·
  replace hm0 := cond_t hc0 hm0
  refine V.seq (V.region (VO.cons rfl (V1.as ?_)))
  refine VO.cons rfl (V1.as ?_)
  refine VO.nil (V.ret ?_)
  obtain rfl := oi hm0
  exact ⟨_, [], ⟨_, _, rfl, rfl, ⟨_, _, rfl, rfl, rfl⟩⟩, List.nil_sublist _, rfl, rfl⟩
 ·
  replace hm0 := cond_f hc0 hm0
  refine V.skip ?_
  refine V.seq ?_
  replace hm0 := bindO hm0; rcases hm0 with ⟨y3, hh3, hm0⟩
  refine V.region (VO.cons rfl (V1.mv ?_))
  refine VO.cons rfl (V1.mv ?_)
  refine VO.cons rfl (V1.call rfl rfl rfl cok_103 rfl (ok_spec_l8On hh3) rfl lt0 ?_)
  rintro _ _ ⟨rfl, rfl⟩
  refine VO.cons rfl (V1.as ?_)
  refine VO.cons rfl (V1.as ?_)
  refine VO.nil (V.ret ?_)
  obtain rfl := oi hm0
  exact ⟨_, [], ⟨_, _, rfl, rfl, ⟨_, _, rfl, rfl, rfl⟩⟩, List.nil_sublist _, rfl, rfl⟩

theorem ok_spec_DrawChangedSeries {ρ0 rn : Nat} {code : List Int} {r : List Version × Int} (h : M.spec_DrawChangedSeries code = some r) : Does Try.prog 46 [.vl ρ0 1 (List.map encU8 code)] [] rn (fun x H => ∃ (ob0_ : Nat), x = .tup [PV.sref ob0_ 2 0 (List.length r.1), .int .i64 r.2] ∧ H = [(ob0_, ⟨2, List.map (encVersion rn) r.1⟩)]) := by
 have hm0 := h; clear h; unfold M.spec_DrawChangedSeries at hm0
 try dsimp only at hm0
 refine Does.intro (N := 23) Try.func46 rfl rfl rfl rfl ?_
 intro w0 S0
 refine V.seq (V.region (VO.cons rfl (V1.as ?_)))
 refine VO.cons rfl (V1.as ?_)
 refine VO.nil (V.seq (V.region (VO.cons rfl (V1.mv ?_))))
 refine VO.cons rfl (V1.build rfl rfl zk_80 pl_80 rfl rfl lt0 ?_)
 refine VO.cons rfl (V1.boxN (n := 3) rfl rfl rfl rfl rfl lt0 ?_)
 intro b0
 refine VO.cons rfl (V1.as ?_)
 refine VO.nil (V.keep 23 [4] [0] (E0 := [(4, .ref b0 3 0 0)]) (H0 := [(b0, ⟨3, [.agg [.vl ρ0 1 (List.map encU8 code), .int .i64 (0 : Int), .int .u64 (0 : Int)]]⟩)]) rfl (⟨_, _, rfl, rfl, rfl⟩) (⟨_, _, rfl, rfl, rfl⟩) rfl ?_)
 refine V.seq ?_
 replace hm0 := bindO hm0; rcases hm0 with ⟨y0, hh0, hm0⟩
 replace hm0 := bindO hm0; rcases hm0 with ⟨y1, hh1, hm0⟩
 refine V.region (VO.cons rfl (V1.mv ?_))
 refine VO.cons rfl (V1.mv ?_)
 refine VO.cons rfl (V1.callM 0 (rn + ρ0 + 1) [] [.ref b0 3 0 0, .int .i64 (12 : Int)] (p := (b0, ⟨3, [.agg [.vl ρ0 1 (List.map encU8 code), .int .i64 (0 : Int), .int .u64 (0 : Int)]]⟩)) rfl rfl rfl cok_67 rfl rfl ⟨_, _, rfl, .same _, ⟨_, _, rfl, .same _, rfl⟩⟩ bwNil (ok_spec_l1Cur_record hh0) rfl (.inl rfl) lt0 ?_)
 rintro _ _ ⟨rfl, rfl⟩
 refine VO.cons rfl (V1.callM 0 (rn + ρ0 + 1) [] [.ref b0 3 0 0, encRecord rn y0.1] (p := (b0, ⟨3, [encCur ρ0 y0.2]⟩)) rfl rfl rfl cok_80 rfl rfl ⟨_, _, rfl, .same _, ⟨_, _, rfl, .same _, rfl⟩⟩ bwNil (ok_spec_l1Cur_versions hh1) rfl (.inl rfl) lt0 ?_)
 rintro _ _ ⟨b1, rfl, rfl⟩
 refine VO.cons rfl (V1.as ?_)
 refine VO.nil (V.keep 23 [4, 5] [0, 1] (E0 := [(4, .ref b0 3 0 0), (5, .sref b1 2 0 (List.length y1.1))]) (H0 := [(b1, ⟨2, List.map (encVersion rn) y1.1⟩), (b0, ⟨3, [encCur ρ0 y1.2]⟩)]) rfl (⟨_, _, rfl, rfl, ⟨_, _, rfl, rfl, rfl⟩⟩) (⟨_, _, rfl, rfl, ⟨_, _, rfl, rfl, rfl⟩⟩) rfl ?_)
 refine V.seq ?_
 replace hm0 := bindO hm0; rcases hm0 with ⟨y2, hh2, hm0⟩
 replace hm0 := bindO hm0; rcases hm0 with ⟨y3, hh3, hm0⟩
 refine V.region (VO.cons rfl (V1.mv ?_))
 refine VO.cons rfl (V1.mv ?_)
 refine VO.cons rfl (V1.mv ?_)
 refine VO.cons rfl (V1.lenSref rfl rfl rfl rfl rfl rfl isl_57 lt0 ?_)
 refine VO.cons rfl (V1.it ?_)
 refine VO.cons rfl (V1.callM 1 (rn + ρ0 + 1) [] [.ref b0 3 0 0, .int .i64 (IntKind.i64.wrap ((y1.1.length : Int) + (1 : Int)))] (p := (b0, ⟨3, [encCur ρ0 y1.2]⟩)) rfl rfl rfl cok_84 rfl rfl ⟨_, _, rfl, .same _, ⟨_, _, rfl, .same _, rfl⟩⟩ bwNil (ok_spec_l1Cur_pick hh2) rfl (.inl rfl) lt0 ?_)
 rintro _ _ ⟨rfl, rfl⟩
 refine VO.cons rfl (V1.mv ?_)
 refine VO.cons rfl (V1.callM 0 (rn + ρ0 + 1) [] [.ref b0 3 0 0, .int .i64 (9 : Int)] (p := (b0, ⟨3, [encCur ρ0 y2.2]⟩)) rfl rfl rfl cok_84 rfl rfl ⟨_, _, rfl, .same _, ⟨_, _, rfl, .same _, rfl⟩⟩ bwNil (ok_spec_l1Cur_pick hh3) rfl (.inl rfl) lt0 ?_)
 rintro _ _ ⟨rfl, rfl⟩
 refine VO.cons rfl (V1.quo rfl rfl rfl rfl (by decide) lt0 ?_)
 refine VO.cons rfl (V1.it ?_)
 refine VO.cons rfl (V1.as ?_)
 refine VO.cons rfl (V1.as ?_)
 refine VO.nil (V.keep 23 [2, 3] [1] (E0 := [(2, .sref b1 2 0 (List.length y1.1)), (3, .int .i64 (IntKind.i64.wrap (y2.1 - (IntKind.i64.wrap (Int.tdiv y3.1 (8 : Int))))))]) (H0 := [(b1, ⟨2, List.map (encVersion rn) y1.1⟩)]) rfl (⟨_, _, rfl, rfl, ⟨_, _, rfl, rfl, rfl⟩⟩) (⟨_, _, rfl, rfl, rfl⟩) rfl ?_)
 refine V.ret ?_
 obtain rfl := oi hm0
 exact ⟨_, _, ⟨_, _, rfl, rfl, ⟨_, _, rfl, rfl, rfl⟩⟩, List.Sublist.refl _, b1, rfl, rfl⟩

theorem ok_spec_l8Same {ρ0 ρ1 rn : Nat} {a : List Rule} {b_ : List Rule} {r : Bool} (h : M.spec_l8Same a b_ = some r) : Does Try.prog 104 [.vl ρ0 4 (List.map encRule a), .vl ρ1 4 (List.map encRule b_)] [] rn (fun x H => x = .bool r ∧ H = []) := by
 have hm0 := h; clear h; unfold M.spec_l8Same at hm0
 try dsimp only at hm0
 refine Does.intro (N := 26) Try.func104 rfl rfl rfl rfl ?_
 intro w0 S0
 refine V.seq (V.region (VO.cons rfl (V1.as ?_)))
 refine VO.nil (V.seq (V.seq (V.region (VO.cons rfl (V1.mv ?_)))))
 refine VO.cons rfl (V1.lenMap rfl rfl rfl rfl rfl rfl isl_58 lt0 ?_)
 refine VO.cons rfl (V1.mv ?_)
 refine VO.cons rfl (V1.lenMap rfl rfl rfl rfl rfl rfl isl_58 lt0 ?_)
 refine VO.cons rfl (V1.it ?_)
 refine VO.nil (V.keep 26 [0, 1, 10] [] (E0 := [(0, .vl ρ0 4 (List.map encRule a)), (1, .vl ρ1 4 (List.map encRule b_)), (10, .bool ((a.length : Int) != (b_.length : Int)))]) (H0 := []) rfl (⟨_, _, rfl, rfl, ⟨_, _, rfl, rfl, ⟨_, _, rfl, rfl, rfl⟩⟩⟩) (rfl) rfl ?_)
 refine V.cond rfl (fun hc0 => ?_) (fun hc0 => ?_)
 ·
  replace hm0 := cond_t hc0 hm0
  refine V.seq (V.region (VO.cons rfl (V1.as ?_)))
  refine VO.nil (V.ret ?_)
  obtain rfl := oi hm0
  exact ⟨_, [], ⟨_, _, rfl, rfl, rfl⟩, List.nil_sublist _, rfl, rfl⟩
 ·
  replace hm0 := cond_f hc0 hm0
  refine V.skip ?_
  refine V.seq (V.seq (V.region (VO.cons rfl (V1.as ?_))))
  refine VO.nil ?_
  replace hm0 := bindO hm0; rcases hm0 with ⟨e0, he1, hm0⟩
  refine V.cutT (D := (Unit) × (Unit)) (fun ⟨_, _⟩ => ⟨26, [], []⟩) (fun ⟨_, _⟩ => (.inl () = e0)) ?_ ?_
  ·
   refine V.block ?_
   refine V.keep 26 [5, 0, 1] [] (E0 := [(5, .int .i64 (0 : Int)), (0, .vl ρ0 4 (List.map encRule a)), (1, .vl ρ1 4 (List.map encRule b_))]) (H0 := []) rfl (⟨_, _, rfl, rfl, ⟨_, _, rfl, rfl, ⟨_, _, rfl, rfl, rfl⟩⟩⟩) (rfl) rfl ?_
   refine V.loopE (D := Nat × (Int) × (Unit)) (fun ⟨n0, i, _⟩ => [(5, .int .i64 i)]) (fun ⟨n0, i, _⟩ => []) (fun ⟨n0, i, _⟩ => loopO (M.spec_l8Same_l0 a b_) n0 i = some e0) (fun ⟨n0, _, _⟩ => n0) (rounds, (0 : Int), ()) rfl he1 ?_
   rintro ⟨n0, i, _⟩ hP0
   obtain ⟨m0, y0, rfl, hm1, hl1, hr1⟩ := loop_head hP0
   unfold M.spec_l8Same_l0 at hm1; dsimp only at hm1
   show V _ _ _ ⟨26, [(5, .int .i64 i), (0, .vl ρ0 4 (List.map encRule a)), (1, .vl ρ1 4 (List.map encRule b_))], []⟩
   refine V.seq (V.seq (V.region (VO.cons rfl (V1.mv ?_))))
   refine VO.cons rfl (V1.mv ?_)
   refine VO.cons rfl (V1.lenMap rfl rfl rfl rfl rfl rfl isl_58 lt0 ?_)
   refine VO.cons rfl (V1.it ?_)
   refine VO.nil (V.cond rfl (fun hc1 => ?_) (fun hc1 => ?_))
   ·
    replace hm1 := cond_t hc1 hm1
    refine V.skip ?_
    refine V.keep 26 [0, 1, 5] [] (E0 := [(0, .vl ρ0 4 (List.map encRule a)), (1, .vl ρ1 4 (List.map encRule b_)), (5, .int .i64 i)]) (H0 := []) rfl (⟨_, _, rfl, rfl, ⟨_, _, rfl, rfl, ⟨_, _, rfl, rfl, rfl⟩⟩⟩) (rfl) rfl ?_
    refine V.seq (V.block ?_)
    refine V.seq ?_
    replace hm1 := asrt_some hm1; rcases hm1 with ⟨hh0, hm1⟩
    replace hm1 := asrt_some hm1; rcases hm1 with ⟨hh1, hm1⟩
    refine V.regionM 26 8 [⟨[(0, none)], [], none⟩, ⟨[(5, none)], [], none⟩, ⟨[(17, some 1), (18, some 0)], [], none⟩, ⟨[(19, some 0)], [], none⟩, ⟨[(1, none)], [], none⟩, ⟨[(5, none)], [], none⟩, ⟨[(21, some 1), (22, some 0)], [], none⟩, ⟨[(23, some 0)], [], none⟩] [(0, none), (1, none), (5, none), (20, some 4), (24, some 0)] (⟨_, rfl, ⟨_, rfl, ⟨_, rfl, ⟨_, rfl, ⟨_, rfl, ⟨_, rfl, ⟨_, rfl, ⟨_, rfl, ⟨rfl, rfl⟩⟩⟩⟩⟩⟩⟩⟩⟩) mixed_orders rfl (by decide +kernel) (fun hck6 => ?_)
    refine VP.step (p := ?pv65) rfl rfl rfl (⟨_, _, rfl, rfl, rfl⟩) ?hv65 ?rest65 hck6
    case hv65 =>
     intro E1
     refine (V1.mv ?_)
     exact rfl
    refine VP.step (p := ?pv66) rfl rfl rfl (⟨_, _, rfl, rfl, rfl⟩) ?hv66 ?rest66 hck6
    case hv66 =>
     intro E1
     refine (V1.mv ?_)
     exact rfl
    refine VP.step (p := ?pv67) rfl rfl rfl (⟨_, _, rfl, rfl, ⟨_, _, rfl, rfl, rfl⟩⟩) ?hv67 ?rest67 hck6
    case hv67 =>
     intro E1
     refine (V1.indexI rfl rfl esz_58 rfl rfl hh0 lt0 ?_)
     exact rfl
    refine VP.step (p := ?pv68) rfl rfl rfl (⟨_, _, rfl, rfl, rfl⟩) ?hv68 ?rest68 hck6
    case hv68 =>
     intro E1
     refine (V1.loadPinAll rfl rfl tyk_109 rfl rfl lt0 ?_)
     exact rfl
    refine VP.step (p := ?pv69) rfl rfl rfl (⟨_, _, rfl, rfl, rfl⟩) ?hv69 ?rest69 hck6
    case hv69 =>
     intro E1
     refine (V1.mv ?_)
     exact rfl
    refine VP.step (p := ?pv70) rfl rfl rfl (⟨_, _, rfl, rfl, rfl⟩) ?hv70 ?rest70 hck6
    case hv70 =>
     intro E1
     refine (V1.mv ?_)
     exact rfl
    refine VP.step (p := ?pv71) rfl rfl rfl (⟨_, _, rfl, rfl, ⟨_, _, rfl, rfl, rfl⟩⟩) ?hv71 ?rest71 hck6
    case hv71 =>
     intro E1
     refine (V1.indexI rfl rfl esz_58 rfl rfl hh1 lt0 ?_)
     exact rfl
    refine VP.step (p := ?pv72) rfl rfl rfl (⟨_, _, rfl, rfl, rfl⟩) ?hv72 ?rest72 hck6
    case hv72 =>
     intro E1
     refine (V1.loadPinAll rfl rfl tyk_109 rfl rfl lt0 ?_)
     exact rfl
    refine VP.fin rfl (⟨_, _, rfl, rfl, ⟨_, _, rfl, rfl, ⟨_, _, rfl, rfl, ⟨_, _, rfl, rfl, ⟨_, _, rfl, rfl, rfl⟩⟩⟩⟩⟩) ?_
    refine VO.cons rfl (V1.aggEqG true rfl rfl fe_109 rfl rfl rfl rfl rfl lt0 ?_)
    refine VO.nil (V.cond rfl (fun hc2 => ?_) (fun hc2 => ?_))
    ·
     replace hm1 := cond_t hc2 hm1
     refine V.seq (V.region (VO.cons rfl (V1.as ?_)))
     refine VO.nil (V.ret ?_)
     obtain rfl := hr1 _ (oi hm1).symm
     change some _ = some _ at hm0
     obtain rfl := oi hm0
     exact ⟨_, [], ⟨_, _, rfl, rfl, rfl⟩, List.nil_sublist _, rfl, rfl⟩
    ·
     replace hm1 := cond_f hc2 hm1
     refine V.skip ?_
     refine V.region (VO.cons rfl (V1.mv ?_))
     refine VO.cons rfl (V1.it ?_)
     refine VO.cons rfl (V1.as ?_)
     refine VO.nil ?_
     exact ⟨(m0, (IntKind.i64.wrap (i + (1 : Int))), ()), hl1 _ (oi hm1).symm, Nat.lt_succ_self _, Keeps.mk (ks := []) rfl ⟨rfl, rfl, rfl, trivial⟩ (rfl) rfl⟩
   ·
    replace hm1 := cond_f hc1 hm1
    refine V.exit ?_
    obtain rfl := hr1 _ (oi hm1).symm
    exact ⟨((), ()), rfl, Keeps.mk (ks := []) rfl trivial (rfl) rfl⟩
  ·
   rintro ⟨_, _⟩ rfl
   try dsimp only at hm0
   refine V.seq (V.region (VO.cons rfl (V1.as ?_)))
   refine VO.nil (V.ret ?_)
   obtain rfl := oi hm0
   exact ⟨_, [], ⟨_, _, rfl, rfl, rfl⟩, List.nil_sublist _, rfl, rfl⟩

theorem ok_spec_ChangedSeries {ρ0 σ0 rn : Nat} {list : List Version} {version : Int} {r : List Int × Bool} (h : M.spec_ChangedSeries list version = some r) : Does Try.prog 47 [.vl ρ0 2 (List.map (encVersion σ0) list), .int .i64 version] [] rn (fun x H => ∃ (ob0_ : Nat), x = .tup [PV.sref ob0_ 1 0 (List.length r.1), .bool r.2] ∧ H = [(ob0_, ⟨1, List.map encInt r.1⟩)]) := by
 have hm0 := h; clear h; unfold M.spec_ChangedSeries at hm0
 try dsimp only at hm0
 refine Does.intro (N := 47) Try.func47 rfl rfl rfl rfl ?_
 intro w0 S0
 refine V.seq (V.region (VO.cons rfl (V1.as ?_)))
 refine VO.cons rfl (V1.as ?_)
 refine VO.nil (V.seq (V.region (VO.cons rfl (V1.buildSliceT (f := encInt) ([] : List Int) rfl rfl esz_69 zk_3 rfl rfl rfl rfl rfl rfl rfl lt0 ?_))))
 intro b0
 refine VO.cons rfl (V1.as ?_)
 refine VO.nil (V.seq (V.seq ?_))
 replace hm0 := bindO hm0; rcases hm0 with ⟨y0, hh0, hm0⟩
 replace hm0 := bindO hm0; rcases hm0 with ⟨y1, hh1, hm0⟩
 refine V.region (VO.cons rfl (V1.mv ?_))
 refine VO.cons rfl (V1.call rfl rfl rfl cok_91 rfl (ok_spec_l8Good hh0) rfl lt0 ?_)
 rintro _ _ ⟨rfl, rfl⟩
 refine VO.cons rfl (V1.not rfl rfl rfl lt0 ?_)
 refine VO.cons rfl (V1.mv ?_)
 apply VO.or (n := 6) rfl rfl rfl rfl rfl rfl lt0 (.none rfl)
 ·
  intro hg0
  refine VO.step (.some rfl rfl rfl) (V1.mv ?_)
  refine VO.step (.some rfl rfl rfl) (V1.mv ?_)
  refine VO.step (.some rfl rfl rfl) (V1.lenMap rfl rfl rfl rfl rfl rfl isl_57 lt0 ?_)
  refine VO.step (.some rfl rfl rfl) (V1.it ?_)
  refine VO.step (.some rfl rfl rfl) (V1.call rfl rfl rfl cok_60 rfl (ok_spec_l1In (cond_f hg0 hh1)) rfl lt0 ?_)
  rintro _ _ ⟨rfl, rfl⟩
  refine VO.step (.some rfl rfl rfl) (V1.not rfl rfl rfl lt0 ?_)
  exact VO.nil ⟨rfl, rfl, rfl, rfl, .inr ⟨rfl, .inr ⟨rfl, .inr ⟨rfl, .inr ⟨rfl, .inr ⟨rfl, .inr ⟨rfl, .inr ⟨rfl, .inl rfl⟩⟩⟩⟩⟩⟩⟩⟩
 refine VO.nil (V.keep 47 [0, 1, 6, 19] [0] (E0 := [(0, .vl ρ0 2 (List.map (encVersion σ0) list)), (1, .int .i64 version), (6, .sref b0 1 0 (List.length ([] : List Int))), (19, .bool ((!y0) || (!y1)))]) (H0 := [(b0, ⟨1, List.map encInt ([] : List Int)⟩)]) rfl (⟨_, _, rfl, rfl, ⟨_, _, rfl, rfl, ⟨_, _, rfl, rfl, ⟨_, _, rfl, rfl, rfl⟩⟩⟩⟩) (⟨_, _, rfl, rfl, rfl⟩) rfl ?_)
 refine V.cond rfl (fun hc0 => ?_) (fun hc0 => ?_)
 ·
  replace hm0 := cond_t hc0 hm0
  refine V.seq (V.region (VO.cons rfl (V1.mv ?_)))
  refine VO.cons rfl (V1.as ?_)
  refine VO.cons rfl (V1.as ?_)
  refine VO.nil (V.keep 47 [4, 5] [0] (E0 := [(4, .sref b0 1 0 (List.length ([] : List Int))), (5, .bool false)]) (H0 := [(b0, ⟨1, List.map encInt ([] : List Int)⟩)]) rfl (⟨_, _, rfl, rfl, ⟨_, _, rfl, rfl, rfl⟩⟩) (⟨_, _, rfl, rfl, rfl⟩) rfl ?_)
  refine V.ret ?_
  obtain rfl := oi hm0
  exact ⟨_, _, ⟨_, _, rfl, rfl, ⟨_, _, rfl, rfl, rfl⟩⟩, List.Sublist.refl _, b0, rfl, rfl⟩
 ·
  replace hm0 := cond_f hc0 hm0
  refine V.skip ?_
  refine V.seq (V.seq (V.region (VO.cons rfl (V1.as ?_))))
  refine VO.nil ?_
  replace hm0 := bindO hm0; rcases hm0 with ⟨e0, he1, hm0⟩
  refine V.cutT (D := (List Int) × (Nat)) (fun ⟨out_, b1⟩ => ⟨47, [(6, .sref b1 1 0 (List.length out_))], [(b1, ⟨1, List.map encInt out_⟩)]⟩) (fun ⟨out_, b1⟩ => (out_ = e0)) ?_ ?_
  ·
   refine V.block ?_
   refine V.keep 47 [6, 7, 0, 1] [0] (E0 := [(6, .sref b0 1 0 (List.length ([] : List Int))), (7, .int .i64 (1 : Int)), (0, .vl ρ0 2 (List.map (encVersion σ0) list)), (1, .int .i64 version)]) (H0 := [(b0, ⟨1, List.map encInt ([] : List Int)⟩)]) rfl (⟨_, _, rfl, rfl, ⟨_, _, rfl, rfl, ⟨_, _, rfl, rfl, ⟨_, _, rfl, rfl, rfl⟩⟩⟩⟩) (⟨_, _, rfl, rfl, rfl⟩) rfl ?_
   refine V.loopE (D := Nat × (List Int × Int) × (Nat)) (fun ⟨n0, ⟨out_0, series⟩, b2⟩ => [(6, .sref b2 1 0 (List.length out_0)), (7, .int .i64 series)]) (fun ⟨n0, ⟨out_0, series⟩, b2⟩ => [(b2, ⟨1, List.map encInt out_0⟩)]) (fun ⟨n0, ⟨out_0, series⟩, b2⟩ => loopO (M.spec_ChangedSeries_l0 list version) n0 (out_0, series) = some e0) (fun ⟨n0, _, _⟩ => n0) (rounds, (([] : List Int), (1 : Int)), b0) rfl he1 ?_
   rintro ⟨n0, ⟨out_0, series⟩, b2⟩ hP0
   obtain ⟨m0, y2, rfl, hm1, hl1, hr1⟩ := loop_head hP0
   unfold M.spec_ChangedSeries_l0 at hm1; dsimp only at hm1
   show V _ _ _ ⟨47, [(6, .sref b2 1 0 (List.length out_0)), (7, .int .i64 series), (0, .vl ρ0 2 (List.map (encVersion σ0) list)), (1, .int .i64 version)], [(b2, ⟨1, List.map encInt out_0⟩)]⟩
   refine V.seq (V.seq (V.region (VO.cons rfl (V1.mv ?_))))
   refine VO.cons rfl (V1.it ?_)
   refine VO.nil (V.cond rfl (fun hc1 => ?_) (fun hc1 => ?_))
   ·
    replace hm1 := cond_t hc1 hm1
    refine V.skip ?_
    refine V.seq ?_
    replace hm1 := bindO hm1; rcases hm1 with ⟨j0, hm2, hm1⟩
    refine V.cutT (D := (List Int) × (Nat)) (fun ⟨out_1, b3⟩ => ⟨47, [(6, .sref b3 1 0 (List.length out_1)), (0, .vl ρ0 2 (List.map (encVersion σ0) list)), (1, .int .i64 version), (7, .int .i64 series)], [(b3, ⟨1, List.map encInt out_1⟩)]⟩) (fun ⟨out_1, b3⟩ => (out_1 = j0)) ?_ ?_
    ·
     refine V.block ?_
     refine V.seq ?_
     replace hm2 := asrt_some hm2; rcases hm2 with ⟨hh2, hm2⟩
     replace hm2 := bindO hm2; rcases hm2 with ⟨y3, hh3, hm2⟩
     replace hm2 := asrt_some hm2; rcases hm2 with ⟨hh4, hm2⟩
     replace hm2 := bindO hm2; rcases hm2 with ⟨y4, hh5, hm2⟩
     replace hm2 := bindO hm2; rcases hm2 with ⟨y5, hh6, hm2⟩
     refine V.regionM 47 14 [⟨[(0, none)], [], none⟩, ⟨[(1, none)], [], none⟩, ⟨[(26, some 0)], [], none⟩, ⟨[(25, some 2), (27, some 0)], [], none⟩, ⟨[(28, some 0)], [], none⟩, ⟨[(29, some 0)], [], none⟩, ⟨[(7, none)], [], none⟩, ⟨[(30, some 1), (31, some 0)], [], none⟩, ⟨[(0, none)], [], none⟩, ⟨[(1, none)], [], none⟩, ⟨[(33, some 1), (34, some 0)], [], none⟩, ⟨[(35, some 0)], [], none⟩, ⟨[(36, some 0)], [], none⟩, ⟨[(7, none)], [], none⟩] [(0, none), (1, none), (6, none), (7, none), (32, some 6), (37, some 1), (38, some 0)] (⟨_, rfl, ⟨_, rfl, ⟨_, rfl, ⟨_, rfl, ⟨_, rfl, ⟨_, rfl, ⟨_, rfl, ⟨_, rfl, ⟨_, rfl, ⟨_, rfl, ⟨_, rfl, ⟨_, rfl, ⟨_, rfl, ⟨_, rfl, ⟨rfl, rfl⟩⟩⟩⟩⟩⟩⟩⟩⟩⟩⟩⟩⟩⟩⟩) mixed_orders rfl (by decide +kernel) (fun hck7 => ?_)
     refine VP.step (p := ?pv239) rfl rfl rfl (⟨_, _, rfl, rfl, rfl⟩) ?hv239 ?rest239 hck7
     case hv239 =>
      intro E1
      refine (V1.mv ?_)
      exact rfl
     refine VP.step (p := ?pv240) rfl rfl rfl (⟨_, _, rfl, rfl, rfl⟩) ?hv240 ?rest240 hck7
     case hv240 =>
      intro E1
      refine (V1.mv ?_)
      exact rfl
     refine VP.step (p := ?pv241) rfl rfl rfl (⟨_, _, rfl, rfl, rfl⟩) ?hv241 ?rest241 hck7
     case hv241 =>
      intro E1
      refine (V1.it ?_)
      exact rfl
     refine VP.step (p := ?pv242) rfl rfl rfl (⟨_, _, rfl, rfl, ⟨_, _, rfl, rfl, rfl⟩⟩) ?hv242 ?rest242 hck7
     case hv242 =>
      intro E1
      refine (V1.indexI rfl rfl esz_57 rfl rfl hh2 lt0 ?_)
      exact rfl
     refine VP.step (p := ?pv243) rfl rfl rfl (⟨_, _, rfl, rfl, rfl⟩) ?hv243 ?rest243 hck7
     case hv243 =>
      intro E1
      refine (V1.fieldPin rfl rfl fo_60_1 rfl lt0 ?_)
      exact rfl
     refine VP.step (p := ?pv244) rfl rfl rfl (⟨_, _, rfl, rfl, rfl⟩) ?hv244 ?rest244 hck7
     case hv244 =>
      intro E1
      refine (V1.loadPin rfl rfl tyk_58 rfl rfl lt0 ?_)
      exact rfl
     refine VP.step (p := ?pv245) rfl rfl rfl (⟨_, _, rfl, rfl, rfl⟩) ?hv245 ?rest245 hck7
     case hv245 =>
      intro E1
      refine (V1.mv ?_)
      exact rfl
     refine VP.step (p := ?pv246) rfl rfl rfl (⟨_, _, rfl, rfl, ⟨_, _, rfl, rfl, rfl⟩⟩) ?hv246 ?rest246 hck7
     case hv246 =>
      intro E1
      refine (V1.call rfl rfl rfl cok_105 rfl (okz_spec_l4For hh3) rfl lt0 ?_)
      rintro _ _ ⟨rfl, rfl⟩
      exact rfl
     refine VP.step (p := ?pv247) rfl rfl rfl (⟨_, _, rfl, rfl, rfl⟩) ?hv247 ?rest247 hck7
     case hv247 =>
      intro E1
      refine (V1.mv ?_)
      exact rfl
     refine VP.step (p := ?pv248) rfl rfl rfl (⟨_, _, rfl, rfl, rfl⟩) ?hv248 ?rest248 hck7
     case hv248 =>
      intro E1
      refine (V1.mv ?_)
      exact rfl
     refine VP.step (p := ?pv249) rfl rfl rfl (⟨_, _, rfl, rfl, ⟨_, _, rfl, rfl, rfl⟩⟩) ?hv249 ?rest249 hck7
     case hv249 =>
      intro E1
      refine (V1.indexI rfl rfl esz_57 rfl rfl hh4 lt0 ?_)
      exact rfl
     refine VP.step (p := ?pv250) rfl rfl rfl (⟨_, _, rfl, rfl, rfl⟩) ?hv250 ?rest250 hck7
     case hv250 =>
      intro E1
      refine (V1.fieldPin rfl rfl fo_60_1 rfl lt0 ?_)
      exact rfl
     refine VP.step (p := ?pv251) rfl rfl rfl (⟨_, _, rfl, rfl, rfl⟩) ?hv251 ?rest251 hck7
     case hv251 =>
      intro E1
      refine (V1.loadPin rfl rfl tyk_58 rfl rfl lt0 ?_)
      exact rfl
     refine VP.step (p := ?pv252) rfl rfl rfl (⟨_, _, rfl, rfl, rfl⟩) ?hv252 ?rest252 hck7
     case hv252 =>
      intro E1
      refine (V1.mv ?_)
      exact rfl
     refine VP.fin rfl (⟨_, _, rfl, rfl, ⟨_, _, rfl, rfl, ⟨_, _, rfl, rfl, ⟨_, _, rfl, rfl, ⟨_, _, rfl, rfl, ⟨_, _, rfl, rfl, ⟨_, _, rfl, rfl, rfl⟩⟩⟩⟩⟩⟩⟩) ?_
     refine VO.cons rfl (V1.call rfl rfl rfl cok_105 rfl (ok_spec_l4For hh5) rfl lt0 ?_)
     rintro _ _ ⟨b4, rfl, rfl⟩
     refine VO.weakenK (Keeps.freezeG 0 rn [(39, .vl rn 4 (List.map encRule y4))] [(b2, ⟨1, List.map encInt out_0⟩)] (f := encRule) (l := y4) rfl (fun _ => rfl) ⟨⟨_, rfl, .here⟩, trivial⟩ ⟨_, _, rfl, rfl, .inl rfl, rfl⟩ rfl iNil) ?_
     refine VO.cons rfl (V1.call rfl rfl rfl cok_104 rfl (ok_spec_l8Same hh6) rfl lt0 ?_)
     rintro _ _ ⟨rfl, rfl⟩
     refine VO.cons rfl (V1.not rfl rfl rfl lt0 ?_)
     refine VO.nil (V.keep 47 [0, 1, 6, 7, 41] [0] (E0 := [(0, .vl ρ0 2 (List.map (encVersion σ0) list)), (1, .int .i64 version), (6, .sref b2 1 0 (List.length out_0)), (7, .int .i64 series), (41, .bool (!y5))]) (H0 := [(b2, ⟨1, List.map encInt out_0⟩)]) rfl (⟨_, _, rfl, rfl, ⟨_, _, rfl, rfl, ⟨_, _, rfl, rfl, ⟨_, _, rfl, rfl, ⟨_, _, rfl, rfl, rfl⟩⟩⟩⟩⟩) (⟨_, _, rfl, rfl, rfl⟩) rfl ?_)
     refine V.cond rfl (fun hc2 => ?_) (fun hc2 => ?_)
     ·
      replace hm2 := cond_t hc2 hm2
      replace hm2 := asrt_some hm2; rcases hm2 with ⟨hh7, hm2⟩
      refine V.region (VO.cons rfl (V1.mv ?_))
      refine VO.cons rfl (V1.mv ?_)
      refine VO.cons rfl (V1.buildSliceT (f := encInt) ([series] : List Int) rfl rfl esz_69 zk_3 rfl rfl rfl rfl rfl rfl rfl lt0 ?_)
      intro b5
      refine VO.cons rfl (V1.appendMap (k := 1) (f := encInt) (l := out_0) (m := ([series] : List Int)) rfl rfl rfl rfl rfl esz_69 eby_69 zk_3 rfl rfl rfl (SrcOf.srMap (k := 0) rfl isl_69) hh7 lt0 ?_)
      intro b6
      refine VO.cons rfl (V1.as ?_)
      refine VO.nil ?_
      exact ⟨((out_0 ++ ([series] : List Int)), b6), oi hm2, Keeps.mk (ks := [0]) rfl ⟨rfl, rfl, rfl, rfl, trivial⟩ (⟨_, _, rfl, rfl, rfl⟩) rfl⟩
     ·
      replace hm2 := cond_f hc2 hm2
      refine V.skip ?_
      exact ⟨(out_0, b2), oi hm2, Keeps.mk (ks := [0]) rfl ⟨rfl, rfl, rfl, rfl, trivial⟩ (⟨_, _, rfl, rfl, rfl⟩) rfl⟩
    ·
     rintro ⟨out_1, b3⟩ rfl
     try dsimp only at hm1
     refine V.region (VO.cons rfl (V1.mv ?_))
     refine VO.cons rfl (V1.it ?_)
     refine VO.cons rfl (V1.as ?_)
     refine VO.nil ?_
     exact ⟨(m0, (out_1, (IntKind.i64.wrap (series + (1 : Int)))), b3), hl1 _ (oi hm1).symm, Nat.lt_succ_self _, Keeps.mk (ks := [0]) rfl ⟨rfl, rfl, rfl, rfl, trivial⟩ (⟨_, _, rfl, rfl, rfl⟩) rfl⟩
   ·
    replace hm1 := cond_f hc1 hm1
    refine V.exit ?_
    obtain rfl := hr1 _ (oi hm1).symm
    exact ⟨(out_0, b2), rfl, Keeps.mk (ks := [0]) rfl ⟨rfl, trivial⟩ (⟨_, _, rfl, rfl, rfl⟩) rfl⟩
  ·
   rintro ⟨out_, b1⟩ rfl
   try dsimp only at hm0
   refine V.seq (V.region (VO.cons rfl (V1.mv ?_)))
   refine VO.cons rfl (V1.as ?_)
   refine VO.cons rfl (V1.as ?_)
   refine VO.nil (V.keep 47 [4, 5] [0] (E0 := [(4, .sref b1 1 0 (List.length out_)), (5, .bool true)]) (H0 := [(b1, ⟨1, List.map encInt out_⟩)]) rfl (⟨_, _, rfl, rfl, ⟨_, _, rfl, rfl, rfl⟩⟩) (⟨_, _, rfl, rfl, rfl⟩) rfl ?_)
   refine V.ret ?_
   obtain rfl := oi hm0
   exact ⟨_, _, ⟨_, _, rfl, rfl, ⟨_, _, rfl, rfl, rfl⟩⟩, List.Sublist.refl _, b1, rfl, rfl⟩

theorem ok_laws_vInts {ρ0 ρ1 rn : Nat} {a : List Int} {b_ : List Int} {r : Bool} (h : M.laws_vInts a b_ = some r) : Does Try.prog 48 [.vl ρ0 1 (List.map encInt a), .vl ρ1 1 (List.map encInt b_)] [] rn (fun x H => x = .bool r ∧ H = []) := by
 have hm0 := h; clear h; unfold M.laws_vInts at hm0
 try dsimp only at hm0
 refine Does.intro (N := 26) Try.func48 rfl rfl rfl rfl ?_
 intro w0 S0
 refine V.seq (V.region (VO.cons rfl (V1.as ?_)))
 refine VO.nil (V.seq (V.seq (V.region (VO.cons rfl (V1.mv ?_)))))
 refine VO.cons rfl (V1.lenMap rfl rfl rfl rfl rfl rfl isl_69 lt0 ?_)
 refine VO.cons rfl (V1.mv ?_)
 refine VO.cons rfl (V1.lenMap rfl rfl rfl rfl rfl rfl isl_69 lt0 ?_)
 refine VO.cons rfl (V1.it ?_)
 refine VO.nil (V.keep 26 [0, 1, 10] [] (E0 := [(0, .vl ρ0 1 (List.map encInt a)), (1, .vl ρ1 1 (List.map encInt b_)), (10, .bool ((a.length : Int) != (b_.length : Int)))]) (H0 := []) rfl (⟨_, _, rfl, rfl, ⟨_, _, rfl, rfl, ⟨_, _, rfl, rfl, rfl⟩⟩⟩) (rfl) rfl ?_)
 refine V.cond rfl (fun hc0 => ?_) (fun hc0 => ?_)
 ·
  replace hm0 := cond_t hc0 hm0
  refine V.seq (V.region (VO.cons rfl (V1.as ?_)))
  refine VO.nil (V.ret ?_)
  obtain rfl := oi hm0
  exact ⟨_, [], ⟨_, _, rfl, rfl, rfl⟩, List.nil_sublist _, rfl, rfl⟩
 ·
  replace hm0 := cond_f hc0 hm0
  refine V.skip ?_
  refine V.seq (V.seq (V.region (VO.cons rfl (V1.as ?_))))
  refine VO.nil ?_
  replace hm0 := bindO hm0; rcases hm0 with ⟨e0, he1, hm0⟩
  refine V.cutT (D := (Unit) × (Unit)) (fun ⟨_, _⟩ => ⟨26, [], []⟩) (fun ⟨_, _⟩ => (.inl () = e0)) ?_ ?_
  ·
   refine V.block ?_
   refine V.keep 26 [5, 0, 1] [] (E0 := [(5, .int .i64 (0 : Int)), (0, .vl ρ0 1 (List.map encInt a)), (1, .vl ρ1 1 (List.map encInt b_))]) (H0 := []) rfl (⟨_, _, rfl, rfl, ⟨_, _, rfl, rfl, ⟨_, _, rfl, rfl, rfl⟩⟩⟩) (rfl) rfl ?_
   refine V.loopE (D := Nat × (Int) × (Unit)) (fun ⟨n0, i, _⟩ => [(5, .int .i64 i)]) (fun ⟨n0, i, _⟩ => []) (fun ⟨n0, i, _⟩ => loopO (M.laws_vInts_l0 a b_) n0 i = some e0) (fun ⟨n0, _, _⟩ => n0) (rounds, (0 : Int), ()) rfl he1 ?_
   rintro ⟨n0, i, _⟩ hP0
   obtain ⟨m0, y0, rfl, hm1, hl1, hr1⟩ := loop_head hP0
   unfold M.laws_vInts_l0 at hm1; dsimp only at hm1
   show V _ _ _ ⟨26, [(5, .int .i64 i), (0, .vl ρ0 1 (List.map encInt a)), (1, .vl ρ1 1 (List.map encInt b_))], []⟩
   refine V.seq (V.seq (V.region (VO.cons rfl (V1.mv ?_))))
   refine VO.cons rfl (V1.mv ?_)
   refine VO.cons rfl (V1.lenMap rfl rfl rfl rfl rfl rfl isl_69 lt0 ?_)
   refine VO.cons rfl (V1.it ?_)
   refine VO.nil (V.cond rfl (fun hc1 => ?_) (fun hc1 => ?_))
   ·
    replace hm1 := cond_t hc1 hm1
    refine V.skip ?_
    refine V.keep 26 [0, 1, 5] [] (E0 := [(0, .vl ρ0 1 (List.map encInt a)), (1, .vl ρ1 1 (List.map encInt b_)), (5, .int .i64 i)]) (H0 := []) rfl (⟨_, _, rfl, rfl, ⟨_, _, rfl, rfl, ⟨_, _, rfl, rfl, rfl⟩⟩⟩) (rfl) rfl ?_
    refine V.seq (V.block ?_)
    refine V.seq ?_
    replace hm1 := asrt_some hm1; rcases hm1 with ⟨hh0, hm1⟩
    replace hm1 := asrt_some hm1; rcases hm1 with ⟨hh1, hm1⟩
    refine V.regionM 26 8 [⟨[(0, none)], [], none⟩, ⟨[(5, none)], [], none⟩, ⟨[(17, some 1), (18, some 0)], [], none⟩, ⟨[(19, some 0)], [], none⟩, ⟨[(1, none)], [], none⟩, ⟨[(5, none)], [], none⟩, ⟨[(21, some 1), (22, some 0)], [], none⟩, ⟨[(23, some 0)], [], none⟩] [(0, none), (1, none), (5, none), (20, some 4), (24, some 0)] (⟨_, rfl, ⟨_, rfl, ⟨_, rfl, ⟨_, rfl, ⟨_, rfl, ⟨_, rfl, ⟨_, rfl, ⟨_, rfl, ⟨rfl, rfl⟩⟩⟩⟩⟩⟩⟩⟩⟩) mixed_orders rfl (by decide +kernel) (fun hck6 => ?_)
    refine VP.step (p := ?pv65) rfl rfl rfl (⟨_, _, rfl, rfl, rfl⟩) ?hv65 ?rest65 hck6
    case hv65 =>
     intro E1
     refine (V1.mv ?_)
     exact rfl
    refine VP.step (p := ?pv66) rfl rfl rfl (⟨_, _, rfl, rfl, rfl⟩) ?hv66 ?rest66 hck6
    case hv66 =>
     intro E1
     refine (V1.mv ?_)
     exact rfl
    refine VP.step (p := ?pv67) rfl rfl rfl (⟨_, _, rfl, rfl, ⟨_, _, rfl, rfl, rfl⟩⟩) ?hv67 ?rest67 hck6
    case hv67 =>
     intro E1
     refine (V1.indexI rfl rfl esz_69 rfl rfl hh0 lt0 ?_)
     exact rfl
    refine VP.step (p := ?pv68) rfl rfl rfl (⟨_, _, rfl, rfl, rfl⟩) ?hv68 ?rest68 hck6
    case hv68 =>
     intro E1
     refine (V1.loadPin rfl rfl tyk_3 rfl rfl lt0 ?_)
     exact rfl
    refine VP.step (p := ?pv69) rfl rfl rfl (⟨_, _, rfl, rfl, rfl⟩) ?hv69 ?rest69 hck6
    case hv69 =>
     intro E1
     refine (V1.mv ?_)
     exact rfl
    refine VP.step (p := ?pv70) rfl rfl rfl (⟨_, _, rfl, rfl, rfl⟩) ?hv70 ?rest70 hck6
    case hv70 =>
     intro E1
     refine (V1.mv ?_)
     exact rfl
    refine VP.step (p := ?pv71) rfl rfl rfl (⟨_, _, rfl, rfl, ⟨_, _, rfl, rfl, rfl⟩⟩) ?hv71 ?rest71 hck6
    case hv71 =>
     intro E1
     refine (V1.indexI rfl rfl esz_69 rfl rfl hh1 lt0 ?_)
     exact rfl
    refine VP.step (p := ?pv72) rfl rfl rfl (⟨_, _, rfl, rfl, rfl⟩) ?hv72 ?rest72 hck6
    case hv72 =>
     intro E1
     refine (V1.loadPin rfl rfl tyk_3 rfl rfl lt0 ?_)
     exact rfl
    refine VP.fin rfl (⟨_, _, rfl, rfl, ⟨_, _, rfl, rfl, ⟨_, _, rfl, rfl, ⟨_, _, rfl, rfl, ⟨_, _, rfl, rfl, rfl⟩⟩⟩⟩⟩) ?_
    refine VO.cons rfl (V1.it ?_)
    refine VO.nil (V.cond rfl (fun hc2 => ?_) (fun hc2 => ?_))
    ·
     replace hm1 := cond_t hc2 hm1
     refine V.seq (V.region (VO.cons rfl (V1.as ?_)))
     refine VO.nil (V.ret ?_)
     obtain rfl := hr1 _ (oi hm1).symm
     change some _ = some _ at hm0
     obtain rfl := oi hm0
     exact ⟨_, [], ⟨_, _, rfl, rfl, rfl⟩, List.nil_sublist _, rfl, rfl⟩
    ·
     replace hm1 := cond_f hc2 hm1
     refine V.skip ?_
     refine V.region (VO.cons rfl (V1.mv ?_))
     refine VO.cons rfl (V1.it ?_)
     refine VO.cons rfl (V1.as ?_)
     refine VO.nil ?_
     exact ⟨(m0, (IntKind.i64.wrap (i + (1 : Int))), ()), hl1 _ (oi hm1).symm, Nat.lt_succ_self _, Keeps.mk (ks := []) rfl ⟨rfl, rfl, rfl, trivial⟩ (rfl) rfl⟩
   ·
    replace hm1 := cond_f hc1 hm1
    refine V.exit ?_
    obtain rfl := hr1 _ (oi hm1).symm
    exact ⟨((), ()), rfl, Keeps.mk (ks := []) rfl trivial (rfl) rfl⟩
  ·
   rintro ⟨_, _⟩ rfl
   try dsimp only at hm0
   refine V.seq (V.region (VO.cons rfl (V1.as ?_)))
   refine VO.nil (V.ret ?_)
   obtain rfl := oi hm0
   exact ⟨_, [], ⟨_, _, rfl, rfl, rfl⟩, List.nil_sublist _, rfl, rfl⟩

theorem ok_laws_FnVersionLists {ρ0 rn : Nat} {code : List Int} {r : Bool} (h : M.laws_FnVersionLists code = some r) : Does Try.prog 5 [.vl ρ0 1 (List.map encU8 code)] [] rn (fun x H => x = .bool r ∧ H = []) := by
 have hm0 := h; clear h; unfold M.laws_FnVersionLists at hm0
 try dsimp only at hm0
 refine Does.intro (N := 208) Try.func5 rfl rfl rfl rfl ?_
 intro w0 S0
 refine V.seq (V.region (VO.cons rfl (V1.as ?_)))
 refine VO.nil (V.seq (V.seq ?_))
 replace hm0 := bindO hm0; rcases hm0 with ⟨y0, hh0, hm0⟩
 refine V.region (VO.cons rfl (V1.mv ?_))
 refine VO.cons rfl (V1.call rfl rfl rfl cok_6 rfl (ok_laws_vBig hh0) rfl lt0 ?_)
 rintro _ _ ⟨rfl, rfl⟩
 refine VO.nil (V.cond rfl (fun hc0 => ?_) (fun hc0 => ?_))
 ·
  replace hm0 := cond_t hc0 hm0
  refine V.seq (V.region (VO.cons rfl (V1.as ?_)))
  refine VO.nil (V.ret ?_)
  obtain rfl := oi hm0
  exact ⟨_, [], ⟨_, _, rfl, rfl, rfl⟩, List.nil_sublist _, rfl, rfl⟩
 ·
  replace hm0 := cond_f hc0 hm0
  refine V.skip ?_
  refine V.seq ?_
  replace hm0 := bindO hm0; rcases hm0 with ⟨y1, hh1, hm0⟩
  refine V.region (VO.cons rfl (V1.mv ?_))
  refine VO.cons rfl (V1.call rfl rfl rfl cok_35 rfl (ok_spec_DrawPutVersion hh1) rfl lt0 ?_)
  rintro _ _ ⟨rfl, rfl⟩
  refine VO.cons rfl (V1.mv ?_)
  refine VO.cons rfl (V1.extract rfl rfl rfl rfl lt0 ?_)
  refine VO.cons rfl (V1.extract rfl rfl rfl rfl lt0 ?_)
  refine VO.cons rfl (V1.alloc rfl rfl zk_60 lt0 ?_)
  intro b0
  refine VO.cons rfl (V1.as ?_)
  refine VO.cons rfl (V1.storeRefAll (k := 0) rfl rfl tyk_60 rfl rfl rfl rfl rfl rfl ?_)
  refine VO.nil (V.keep 208 [0, 3, 4] [0] (E0 := [(0, .vl ρ0 1 (List.map encU8 code)), (3, .vl rn 2 (List.map (encVersion rn) y1.1)), (4, .ref b0 2 0 0)]) (H0 := [(b0, ⟨2, [encVersion rn y1.2]⟩)]) rfl (⟨_, _, rfl, rfl, ⟨_, _, rfl, rfl, ⟨_, _, rfl, rfl, rfl⟩⟩⟩) (⟨_, _, rfl, rfl, rfl⟩) rfl ?_)
  refine V.seq ?_
  replace hm0 := bindO hm0; rcases hm0 with ⟨y2, hh2, hm0⟩
  refine V.region (VO.cons rfl (V1.mv ?_))
  refine VO.cons rfl (V1.loadRefAll (k := 0) rfl rfl tyk_60 rfl rfl rfl rfl rfl lt0 ?_)
  refine VO.cons rfl (V1.permK (V1.call rfl rfl rfl cok_36 rfl (ok_impl_PutVersion hh2) rfl lt0 ?_))
  rintro _ _ ⟨ob0, hob0, rfl, rfl⟩
  refine ⟨_, ?_, Keeps.optBack (n := 2) (ob := ob0) (xs := List.map (encVersion rn) y2.1) (H1 := []) (H2 := [(b0, ⟨2, [encVersion rn y1.2]⟩)]) rfl⟩
  refine VO.cons rfl (V1.mv ?_)
  refine VO.cons rfl (V1.extract rfl rfl rfl rfl lt0 ?_)
  refine VO.weakenK (Keeps.optFront (n := 2) (ob := ob0) (xs := List.map (encVersion rn) y2.1) (H1 := [(b0, ⟨2, [encVersion rn y1.2]⟩)]) rfl) ?_
  refine VO.weakenK (Keeps.optVl 41 [] rn (f := (encVersion rn)) (l := y2.1) (ob := ob0) (H1 := []) hob0 rfl rfl ⟨rfl, trivial⟩ (fun _ => rfl) rfl iNil) ?_
  refine VO.cons rfl (V1.extract rfl rfl rfl rfl lt0 ?_)
  refine VO.cons rfl (V1.as ?_)
  refine VO.cons rfl (V1.as ?_)
  refine VO.nil (V.keep 208 [0, 3, 4, 5, 6] [0] (E0 := [(0, .vl ρ0 1 (List.map encU8 code)), (3, .vl rn 2 (List.map (encVersion rn) y1.1)), (4, .ref b0 2 0 0), (5, .vl rn 2 (List.map (encVersion rn) y2.1)), (6, .bool y2.2)]) (H0 := [(b0, ⟨2, [encVersion rn y1.2]⟩)]) rfl (⟨_, _, rfl, rfl, ⟨_, _, rfl, rfl, ⟨_, _, rfl, rfl, ⟨_, _, rfl, rfl, ⟨_, _, rfl, rfl, rfl⟩⟩⟩⟩⟩) (⟨_, _, rfl, rfl, rfl⟩) rfl ?_)
  refine V.seq (V.seq ?_)
  replace hm0 := bindO hm0; rcases hm0 with ⟨y3, hh3, hm0⟩
  refine V.region (VO.cons rfl (V1.mv ?_))
  refine VO.cons rfl (V1.loadRefAll (k := 0) rfl rfl tyk_60 rfl rfl rfl rfl rfl lt0 ?_)
  refine VO.cons rfl (V1.call rfl rfl rfl cok_37 rfl (ok_spec_PutVersion hh3) rfl lt0 ?_)
  rintro _ _ ⟨b1, rfl, rfl⟩
  refine VO.cons rfl (V1.mv ?_)
  refine VO.cons rfl (V1.extract rfl rfl rfl rfl lt0 ?_)
  refine VO.weakenK (Keeps.freezeG 0 rn [(47, .vl rn 2 (List.map (encVersion rn) y3.1))] [(b0, ⟨2, [encVersion rn y1.2]⟩)] (f := (encVersion rn)) (l := y3.1) rfl (fun _ => rfl) ⟨⟨_, rfl, .here⟩, trivial⟩ ⟨_, _, rfl, rfl, .inl rfl, rfl⟩ rfl iNil) ?_
  refine VO.cons rfl (V1.extract rfl rfl rfl rfl lt0 ?_)
  refine VO.cons rfl (V1.as ?_)
  refine VO.cons rfl (V1.as ?_)
  refine VO.nil (V.keep 208 [0, 4, 5, 6, 7, 8] [0] (E0 := [(0, .vl ρ0 1 (List.map encU8 code)), (4, .ref b0 2 0 0), (5, .vl rn 2 (List.map (encVersion rn) y2.1)), (6, .bool y2.2), (7, .vl rn 2 (List.map (encVersion rn) y3.1)), (8, .bool y3.2)]) (H0 := [(b0, ⟨2, [encVersion rn y1.2]⟩)]) rfl (⟨_, _, rfl, rfl, ⟨_, _, rfl, rfl, ⟨_, _, rfl, rfl, ⟨_, _, rfl, rfl, ⟨_, _, rfl, rfl, ⟨_, _, rfl, rfl, rfl⟩⟩⟩⟩⟩⟩) (⟨_, _, rfl, rfl, rfl⟩) rfl ?_)
  refine V.seq ?_
  replace hm0 := bindO hm0; rcases hm0 with ⟨y4, hh4, hm0⟩
  refine V.region (VO.cons rfl (V1.mv ?_))
  refine VO.cons rfl (V1.mv ?_)
  refine VO.cons rfl (V1.boolNeq rfl rfl und_4 rfl rfl lt0 ?_)
  refine VO.cons rfl (V1.mv ?_)
  apply VO.or (n := 4) rfl rfl rfl rfl rfl rfl lt0 (.none rfl)
  ·
   intro hg0
   refine VO.step (.some rfl rfl rfl) (V1.mv ?_)
   refine VO.step (.some rfl rfl rfl) (V1.mv ?_)
   refine VO.step (.some rfl rfl rfl) (V1.call rfl rfl rfl cok_38 rfl (ok_laws_vVersions (cond_f hg0 hh4)) rfl lt0 ?_)
   rintro _ _ ⟨rfl, rfl⟩
   refine VO.step (.some rfl rfl rfl) (V1.not rfl rfl rfl lt0 ?_)
   exact VO.nil ⟨rfl, rfl, rfl, rfl, .inr ⟨rfl, .inr ⟨rfl, .inr ⟨rfl, .inr ⟨rfl, .inr ⟨rfl, .inl rfl⟩⟩⟩⟩⟩⟩
  refine VO.nil (V.keep 208 [0, 4, 5, 6, 57] [0] (E0 := [(0, .vl ρ0 1 (List.map encU8 code)), (4, .ref b0 2 0 0), (5, .vl rn 2 (List.map (encVersion rn) y2.1)), (6, .bool y2.2), (57, .bool ((!(y2.2 == y3.2)) || (!y4)))]) (H0 := [(b0, ⟨2, [encVersion rn y1.2]⟩)]) rfl (⟨_, _, rfl, rfl, ⟨_, _, rfl, rfl, ⟨_, _, rfl, rfl, ⟨_, _, rfl, rfl, ⟨_, _, rfl, rfl, rfl⟩⟩⟩⟩⟩) (⟨_, _, rfl, rfl, rfl⟩) rfl ?_)
  refine V.cond rfl (fun hc1 => ?_) (fun hc1 => ?_)
  ·
   replace hm0 := cond_t hc1 hm0
   refine V.seq (V.region (VO.cons rfl (V1.as ?_)))
   refine VO.nil (V.ret ?_)
   obtain rfl := oi hm0
   exact ⟨_, [], ⟨_, _, rfl, rfl, rfl⟩, List.nil_sublist _, rfl, rfl⟩
  ·
   replace hm0 := cond_f hc1 hm0
   refine V.skip ?_
   refine V.seq ?_
   replace hm0 := bindO hm0; rcases hm0 with ⟨j0, hm1, hm0⟩
   refine V.cutT (D := (Unit) × (Unit)) (fun ⟨_, _⟩ => ⟨208, [(0, .vl ρ0 1 (List.map encU8 code))], []⟩) (fun ⟨_, _⟩ => (.inl () = j0)) ?_ ?_
   ·
    refine V.seq (V.region (VO.cons rfl (V1.mv ?_)))
    refine VO.nil (V.cond rfl (fun hc2 => ?_) (fun hc2 => ?_))
    ·
     replace hm1 := cond_t hc2 hm1
     refine V.seq ?_
     replace hm1 := bindO hm1; rcases hm1 with ⟨y5, hh5, hm1⟩
     refine V.region (VO.cons rfl (V1.mv ?_))
     refine VO.cons rfl (V1.fieldRef rfl rfl fo_60_0 rfl lt0 ?_)
     refine VO.cons rfl (V1.loadRef (k := 0) rfl rfl tyk_3 rfl rfl rfl rfl rfl lt0 ?_)
     refine VO.cons rfl (V1.call rfl rfl rfl cok_39 rfl (ok_impl_VersionOn hh5) rfl lt0 ?_)
     rintro _ _ ⟨rfl, rfl⟩
     refine VO.cons rfl (V1.mv ?_)
     refine VO.cons rfl (V1.extract rfl rfl rfl rfl lt0 ?_)
     refine VO.cons rfl (V1.extract rfl rfl rfl rfl lt0 ?_)
     refine VO.cons rfl (V1.as ?_)
     refine VO.cons rfl (V1.as ?_)
     refine VO.nil (V.keep 208 [0, 4, 5, 9, 10] [0] (E0 := [(0, .vl ρ0 1 (List.map encU8 code)), (4, .ref b0 2 0 0), (5, .vl rn 2 (List.map (encVersion rn) y2.1)), (9, .int .i64 y5.1), (10, .bool y5.2)]) (H0 := [(b0, ⟨2, [encVersion rn y1.2]⟩)]) rfl (⟨_, _, rfl, rfl, ⟨_, _, rfl, rfl, ⟨_, _, rfl, rfl, ⟨_, _, rfl, rfl, ⟨_, _, rfl, rfl, rfl⟩⟩⟩⟩⟩) (⟨_, _, rfl, rfl, rfl⟩) rfl ?_)
     refine V.seq (V.seq ?_)
     replace hm1 := asrt_some hm1; rcases hm1 with ⟨hh6, hm1⟩
     replace hm1 := asrt_some hm1; rcases hm1 with ⟨hh7, hm1⟩
     replace hm1 := bindO hm1; rcases hm1 with ⟨y6, hh8, hm1⟩
     replace hm1 := bindO hm1; rcases hm1 with ⟨y7, hh9, hm1⟩
     refine V.regionM 208 38 [⟨[(10, none)], [], none⟩, ⟨[(66, some 0)], [], none⟩, ⟨[(67, some 0)], [], none⟩, ⟨[(9, none)], [(0, false)], none⟩, ⟨[(69, some 0)], [(1, false)], none⟩, ⟨[], [], some (false, 68, 70, 2, 0)⟩, ⟨[(71, some 0)], [], none⟩, ⟨[(9, none)], [(0, false)], none⟩, ⟨[(5, none)], [(1, false)], none⟩, ⟨[(74, some 0)], [(2, false)], none⟩, ⟨[(73, some 2), (75, some 0)], [(3, false)], none⟩, ⟨[], [], some (false, 72, 76, 4, 0)⟩, ⟨[(77, some 0)], [], none⟩, ⟨[(5, none)], [(0, false)], none⟩, ⟨[(9, none)], [(1, false)], none⟩, ⟨[(79, some 1), (80, some 0)], [(2, false)], none⟩, ⟨[(81, some 0)], [(3, false)], none⟩, ⟨[(82, some 0)], [(4, false)], none⟩, ⟨[(4, none)], [(5, false)], none⟩, ⟨[(84, some 0)], [(6, false)], none⟩, ⟨[(83, some 2), (85, some 0)], [(7, false)], none⟩, ⟨[], [], some (false, 78, 86, 8, 0)⟩, ⟨[(87, some 0)], [], none⟩, ⟨[(5, none)], [(0, false)], none⟩, ⟨[(9, none)], [(1, false)], none⟩, ⟨[(89, some 1), (90, some 0)], [(2, false)], none⟩, ⟨[(91, some 0)], [(3, false)], none⟩, ⟨[(92, some 0)], [(4, false)], none⟩, ⟨[(4, none)], [(5, false)], none⟩, ⟨[(94, some 0)], [(6, false)], none⟩, ⟨[(93, some 2), (95, some 0)], [(7, false)], none⟩, ⟨[(96, some 0)], [(8, false)], none⟩, ⟨[], [], some (false, 88, 97, 9, 0)⟩, ⟨[(98, some 0)], [], none⟩, ⟨[(5, none)], [(0, false)], none⟩, ⟨[(100, some 0)], [(1, false)], none⟩, ⟨[(101, some 0)], [(2, false)], none⟩, ⟨[], [], some (false, 99, 102, 3, 0)⟩] [(0, none), (5, none), (9, none), (103, some 0)] (⟨_, rfl, ⟨_, rfl, ⟨_, rfl, ⟨_, rfl, ⟨_, rfl, ⟨_, rfl, ⟨_, rfl, ⟨_, rfl, ⟨_, rfl, ⟨_, rfl, ⟨_, rfl, ⟨_, rfl, ⟨_, rfl, ⟨_, rfl, ⟨_, rfl, ⟨_, rfl, ⟨_, rfl, ⟨_, rfl, ⟨_, rfl, ⟨_, rfl, ⟨_, rfl, ⟨_, rfl, ⟨_, rfl, ⟨_, rfl, ⟨_, rfl, ⟨_, rfl, ⟨_, rfl, ⟨_, rfl, ⟨_, rfl, ⟨_, rfl, ⟨_, rfl, ⟨_, rfl, ⟨_, rfl, ⟨_, rfl, ⟨_, rfl, ⟨_, rfl, ⟨_, rfl, ⟨_, rfl, ⟨rfl, rfl⟩⟩⟩⟩⟩⟩⟩⟩⟩⟩⟩⟩⟩⟩⟩⟩⟩⟩⟩⟩⟩⟩⟩⟩⟩⟩⟩⟩⟩⟩⟩⟩⟩⟩⟩⟩⟩⟩⟩) mixed_orders rfl (by decide +kernel) (fun hck10 => ?_)
     refine VP.step (p := ?pv721) rfl rfl rfl (⟨_, _, rfl, rfl, rfl⟩) ?hv721 ?rest721 hck10
     case hv721 =>
      intro E1
      refine (V1.mv ?_)
      exact rfl
     refine VP.step (p := ?pv722) rfl rfl rfl (⟨_, _, rfl, rfl, rfl⟩) ?hv722 ?rest722 hck10
     case hv722 =>
      intro E1
      refine (V1.not rfl rfl rfl lt0 ?_)
      exact rfl
     refine VP.step (p := ?pv723) rfl rfl rfl (⟨_, _, rfl, rfl, rfl⟩) ?hv723 ?rest723 hck10
     case hv723 =>
      intro E1
      refine (V1.mv ?_)
      exact rfl
     refine VP.step (p := ?pv724) rfl rfl rfl (⟨_, _, rfl, rfl, rfl⟩) ?hv724 ?rest724 hck10
     case hv724 =>
      refine ⟨_, rfl, fun hg1 => ?_⟩
      intro E1
      refine (V1.mv ?_)
      exact rfl
     refine VP.step (p := ?pv725) rfl rfl rfl (⟨_, _, rfl, rfl, rfl⟩) ?hv725 ?rest725 hck10
     case hv725 =>
      refine ⟨_, rfl, fun hg1 => ?_⟩
      intro E1
      refine (V1.it ?_)
      exact rfl
     refine VP.pickOr rfl rfl rfl rfl rfl rfl (trivial) ?_ hck10
     refine VP.step (p := ?pv726) rfl rfl rfl (⟨_, _, rfl, rfl, rfl⟩) ?hv726 ?rest726 hck10
     case hv726 =>
      intro E1
      refine (V1.mv ?_)
      exact rfl
     refine VP.step (p := ?pv727) rfl rfl rfl (⟨_, _, rfl, rfl, rfl⟩) ?hv727 ?rest727 hck10
     case hv727 =>
      refine ⟨_, rfl, fun hg2 => ?_⟩
      intro E1
      refine (V1.mv ?_)
      exact rfl
     refine VP.step (p := ?pv728) rfl rfl rfl (⟨_, _, rfl, rfl, rfl⟩) ?hv728 ?rest728 hck10
     case hv728 =>
      refine ⟨_, rfl, fun hg2 => ?_⟩
      intro E1
      refine (V1.mv ?_)
      exact rfl
     refine VP.step (p := ?pv729) rfl rfl rfl (⟨_, _, rfl, rfl, rfl⟩) ?hv729 ?rest729 hck10
     case hv729 =>
      refine ⟨_, rfl, fun hg2 => ?_⟩
      intro E1
      refine (V1.lenMap rfl rfl rfl rfl rfl rfl isl_57 lt0 ?_)
      exact rfl
     refine VP.step (p := ?pv730) rfl rfl rfl (⟨_, _, rfl, rfl, ⟨_, _, rfl, rfl, rfl⟩⟩) ?hv730 ?rest730 hck10
     case hv730 =>
      refine ⟨_, rfl, fun hg2 => ?_⟩
      intro E1
      refine (V1.it ?_)
      exact rfl
     refine VP.pickOr rfl rfl rfl rfl rfl rfl (trivial) ?_ hck10
     refine VP.step (p := ?pv731) rfl rfl rfl (⟨_, _, rfl, rfl, rfl⟩) ?hv731 ?rest731 hck10
     case hv731 =>
      intro E1
      refine (V1.mv ?_)
      exact rfl
     refine VP.step (p := ?pv732) rfl rfl rfl (⟨_, _, rfl, rfl, rfl⟩) ?hv732 ?rest732 hck10
     case hv732 =>
      refine ⟨_, rfl, fun hg3 => ?_⟩
      intro E1
      refine (V1.mv ?_)
      exact rfl
     refine VP.step (p := ?pv733) rfl rfl rfl (⟨_, _, rfl, rfl, rfl⟩) ?hv733 ?rest733 hck10
     case hv733 =>
      refine ⟨_, rfl, fun hg3 => ?_⟩
      intro E1
      refine (V1.mv ?_)
      exact rfl
     refine VP.step (p := ?pv734) rfl rfl rfl (⟨_, _, rfl, rfl, ⟨_, _, rfl, rfl, rfl⟩⟩) ?hv734 ?rest734 hck10
     case hv734 =>
      refine ⟨_, rfl, fun hg3 => ?_⟩
      intro E1
      refine (V1.indexI rfl rfl esz_57 rfl rfl (hh6 hg3) lt0 ?_)
      exact rfl
     refine VP.step (p := ?pv735) rfl rfl rfl (⟨_, _, rfl, rfl, rfl⟩) ?hv735 ?rest735 hck10
     case hv735 =>
      refine ⟨_, rfl, fun hg3 => ?_⟩
      intro E1
      refine (V1.fieldPin rfl rfl fo_60_0 rfl lt0 ?_)
      exact rfl
     refine VP.step (p := ?pv736) rfl rfl rfl (⟨_, _, rfl, rfl, rfl⟩) ?hv736 ?rest736 hck10
     case hv736 =>
      refine ⟨_, rfl, fun hg3 => ?_⟩
      intro E1
      refine (V1.loadPin rfl rfl tyk_3 rfl rfl lt0 ?_)
      exact rfl
     refine VP.step (p := ?pv737) rfl rfl rfl (⟨_, _, rfl, rfl, rfl⟩) ?hv737 ?rest737 hck10
     case hv737 =>
      refine ⟨_, rfl, fun hg3 => ?_⟩
      intro E1
      refine (V1.fieldRef rfl rfl fo_60_0 rfl lt0 ?_)
      exact rfl
     refine VP.step (p := ?pv738) rfl rfl rfl (⟨_, _, rfl, rfl, rfl⟩) ?hv738 ?rest738 hck10
     case hv738 =>
      refine ⟨_, rfl, fun hg3 => ?_⟩
      intro E1
      refine (V1.loadRef (k := 0) rfl rfl tyk_3 rfl rfl rfl rfl rfl lt0 ?_)
      exact rfl
     refine VP.step (p := ?pv739) rfl rfl rfl (⟨_, _, rfl, rfl, ⟨_, _, rfl, rfl, rfl⟩⟩) ?hv739 ?rest739 hck10
     case hv739 =>
      refine ⟨_, rfl, fun hg3 => ?_⟩
      intro E1
      refine (V1.it ?_)
      exact rfl
     refine VP.pickOr rfl rfl rfl rfl rfl rfl (trivial) ?_ hck10
     refine VP.step (p := ?pv740) rfl rfl rfl (⟨_, _, rfl, rfl, rfl⟩) ?hv740 ?rest740 hck10
     case hv740 =>
      intro E1
      refine (V1.mv ?_)
      exact rfl
     refine VP.step (p := ?pv741) rfl rfl rfl (⟨_, _, rfl, rfl, rfl⟩) ?hv741 ?rest741 hck10
     case hv741 =>
      refine ⟨_, rfl, fun hg4 => ?_⟩
      intro E1
      refine (V1.mv ?_)
      exact rfl
     refine VP.step (p := ?pv742) rfl rfl rfl (⟨_, _, rfl, rfl, rfl⟩) ?hv742 ?rest742 hck10
     case hv742 =>
      refine ⟨_, rfl, fun hg4 => ?_⟩
      intro E1
      refine (V1.mv ?_)
      exact rfl
     refine VP.step (p := ?pv743) rfl rfl rfl (⟨_, _, rfl, rfl, ⟨_, _, rfl, rfl, rfl⟩⟩) ?hv743 ?rest743 hck10
     case hv743 =>
      refine ⟨_, rfl, fun hg4 => ?_⟩
      intro E1
      refine (V1.indexI rfl rfl esz_57 rfl rfl (hh7 hg4) lt0 ?_)
      exact rfl
     refine VP.step (p := ?pv744) rfl rfl rfl (⟨_, _, rfl, rfl, rfl⟩) ?hv744 ?rest744 hck10
     case hv744 =>
      refine ⟨_, rfl, fun hg4 => ?_⟩
      intro E1
      refine (V1.fieldPin rfl rfl fo_60_1 rfl lt0 ?_)
      exact rfl
     refine VP.step (p := ?pv745) rfl rfl rfl (⟨_, _, rfl, rfl, rfl⟩) ?hv745 ?rest745 hck10
     case hv745 =>
      refine ⟨_, rfl, fun hg4 => ?_⟩
      intro E1
      refine (V1.loadPin rfl rfl tyk_58 rfl rfl lt0 ?_)
      exact rfl
     refine VP.step (p := ?pv746) rfl rfl rfl (⟨_, _, rfl, rfl, rfl⟩) ?hv746 ?rest746 hck10
     case hv746 =>
      refine ⟨_, rfl, fun hg4 => ?_⟩
      intro E1
      refine (V1.fieldRef rfl rfl fo_60_1 rfl lt0 ?_)
      exact rfl
     refine VP.step (p := ?pv747) rfl rfl rfl (⟨_, _, rfl, rfl, rfl⟩) ?hv747 ?rest747 hck10
     case hv747 =>
      refine ⟨_, rfl, fun hg4 => ?_⟩
      intro E1
      refine (V1.loadRef (k := 0) rfl rfl tyk_58 rfl rfl rfl rfl rfl lt0 ?_)
      exact rfl
     refine VP.step (p := ?pv748) rfl rfl rfl (⟨_, _, rfl, rfl, ⟨_, _, rfl, rfl, rfl⟩⟩) ?hv748 ?rest748 hck10
     case hv748 =>
      refine ⟨_, rfl, fun hg4 => ?_⟩
      intro E1
      refine (V1.call rfl rfl rfl cok_40 rfl (ok_laws_vRules (cond_f hg4 hh8)) rfl lt0 ?_)
      rintro _ _ ⟨rfl, rfl⟩
      exact rfl
     refine VP.step (p := ?pv749) rfl rfl rfl (⟨_, _, rfl, rfl, rfl⟩) ?hv749 ?rest749 hck10
     case hv749 =>
      refine ⟨_, rfl, fun hg4 => ?_⟩
      intro E1
      refine (V1.not rfl rfl rfl lt0 ?_)
      exact rfl
     refine VP.pickOr rfl rfl rfl rfl rfl rfl (trivial) ?_ hck10
     refine VP.step (p := ?pv750) rfl rfl rfl (⟨_, _, rfl, rfl, rfl⟩) ?hv750 ?rest750 hck10
     case hv750 =>
      intro E1
      refine (V1.mv ?_)
      exact rfl
     refine VP.step (p := ?pv751) rfl rfl rfl (⟨_, _, rfl, rfl, rfl⟩) ?hv751 ?rest751 hck10
     case hv751 =>
      refine ⟨_, rfl, fun hg5 => ?_⟩
      intro E1
      refine (V1.mv ?_)
      exact rfl
     refine VP.step (p := ?pv752) rfl rfl rfl (⟨_, _, rfl, rfl, rfl⟩) ?hv752 ?rest752 hck10
     case hv752 =>
      refine ⟨_, rfl, fun hg5 => ?_⟩
      intro E1
      refine (V1.call rfl rfl rfl cok_41 rfl (ok_impl_AreVersions (cond_f hg5 hh9)) rfl lt0 ?_)
      rintro _ _ ⟨rfl, rfl⟩
      exact rfl
     refine VP.step (p := ?pv753) rfl rfl rfl (⟨_, _, rfl, rfl, rfl⟩) ?hv753 ?rest753 hck10
     case hv753 =>
      refine ⟨_, rfl, fun hg5 => ?_⟩
      intro E1
      refine (V1.not rfl rfl rfl lt0 ?_)
      exact rfl
     refine VP.pickOr rfl rfl rfl rfl rfl rfl (trivial) ?_ hck10
     refine VP.fin rfl (⟨_, _, rfl, rfl, ⟨_, _, rfl, rfl, ⟨_, _, rfl, rfl, ⟨_, _, rfl, rfl, rfl⟩⟩⟩⟩) ?_
     refine VO.nil (V.cond rfl (fun hc3 => ?_) (fun hc3 => ?_))
     ·
      replace hm1 := cond_t hc3 hm1
      refine V.seq (V.region (VO.cons rfl (V1.as ?_)))
      refine VO.nil (V.ret ?_)
      obtain rfl := oi hm1
      change some _ = some _ at hm0
      obtain rfl := oi hm0
      exact ⟨_, [], ⟨_, _, rfl, rfl, rfl⟩, List.nil_sublist _, rfl, rfl⟩
     ·
      replace hm1 := cond_f hc3 hm1
      refine V.skip ?_
      refine V.seq (V.region (VO.cons rfl (V1.mv ?_)))
      refine VO.cons rfl (V1.it ?_)
      refine VO.nil (V.cond rfl (fun hc4 => ?_) (fun hc4 => ?_))
      ·
       replace hm1 := cond_t hc4 hm1
       refine V.seq ?_
       replace hm1 := bindO hm1; rcases hm1 with ⟨y8, hh10, hm1⟩
       refine V.region (VO.cons rfl (V1.mv ?_))
       refine VO.cons rfl (V1.mv ?_)
       refine VO.cons rfl (V1.permK (V1.call rfl rfl rfl cok_42 rfl (ok_impl_ChangedSeries hh10) rfl lt0 ?_))
       rintro _ _ ⟨ob1, hob1, rfl, rfl⟩
       refine ⟨_, ?_, Keeps.optBack (n := 1) (ob := ob1) (xs := List.map encInt y8.1) (H1 := []) (H2 := [(b0, ⟨2, [encVersion rn y1.2]⟩)]) rfl⟩
       refine VO.cons rfl (V1.mv ?_)
       refine VO.cons rfl (V1.extract rfl rfl rfl rfl lt0 ?_)
       refine VO.weakenK (Keeps.optFront (n := 1) (ob := ob1) (xs := List.map encInt y8.1) (H1 := [(b0, ⟨2, [encVersion rn y1.2]⟩)]) rfl) ?_
       refine VO.weakenK (Keeps.optVl 110 [] rn (f := encInt) (l := y8.1) (ob := ob1) (H1 := []) hob1 rfl rfl ⟨rfl, trivial⟩ (fun _ => rfl) rfl iNil) ?_
       refine VO.cons rfl (V1.extract rfl rfl rfl rfl lt0 ?_)
       refine VO.cons rfl (V1.as ?_)
       refine VO.cons rfl (V1.as ?_)
       refine VO.nil (V.keep 208 [0, 5, 9, 11, 12] [] (E0 := [(0, .vl ρ0 1 (List.map encU8 code)), (5, .vl rn 2 (List.map (encVersion rn) y2.1)), (9, .int .i64 y5.1), (11, .vl rn 1 (List.map encInt y8.1)), (12, .bool y8.2)]) (H0 := []) rfl (⟨_, _, rfl, rfl, ⟨_, _, rfl, rfl, ⟨_, _, rfl, rfl, ⟨_, _, rfl, rfl, ⟨_, _, rfl, rfl, rfl⟩⟩⟩⟩⟩) (rfl) rfl ?_)
       refine V.seq (V.seq (V.region (VO.cons rfl (V1.as ?_))))
       refine VO.nil ?_
       replace hm1 := bindO hm1; rcases hm1 with ⟨e0, he2, hm1⟩
       refine V.cutT (D := (Unit) × (Unit)) (fun ⟨_, _⟩ => ⟨208, [(0, .vl ρ0 1 (List.map encU8 code)), (12, .bool y8.2)], []⟩) (fun ⟨_, _⟩ => (.inl () = e0)) ?_ ?_
       ·
        refine V.block ?_
        refine V.keep 208 [13, 0, 5, 9, 11, 12] [] (E0 := [(13, .int .i64 (0 : Int)), (0, .vl ρ0 1 (List.map encU8 code)), (5, .vl rn 2 (List.map (encVersion rn) y2.1)), (9, .int .i64 y5.1), (11, .vl rn 1 (List.map encInt y8.1)), (12, .bool y8.2)]) (H0 := []) rfl (⟨_, _, rfl, rfl, ⟨_, _, rfl, rfl, ⟨_, _, rfl, rfl, ⟨_, _, rfl, rfl, ⟨_, _, rfl, rfl, ⟨_, _, rfl, rfl, rfl⟩⟩⟩⟩⟩⟩) (rfl) rfl ?_
        refine V.loopE (D := Nat × (Int) × (Unit)) (fun ⟨n0, i, _⟩ => [(13, .int .i64 i)]) (fun ⟨n0, i, _⟩ => []) (fun ⟨n0, i, _⟩ => loopO (M.laws_FnVersionLists_l0 y2 y5 y8) n0 i = some e0) (fun ⟨n0, _, _⟩ => n0) (rounds, (0 : Int), ()) rfl he2 ?_
        rintro ⟨n0, i, _⟩ hP0
        obtain ⟨m0, y9, rfl, hm2, hl2, hr2⟩ := loop_head hP0
        unfold M.laws_FnVersionLists_l0 at hm2; dsimp only at hm2
        show V _ _ _ ⟨208, [(13, .int .i64 i), (0, .vl ρ0 1 (List.map encU8 code)), (5, .vl rn 2 (List.map (encVersion rn) y2.1)), (9, .int .i64 y5.1), (11, .vl rn 1 (List.map encInt y8.1)), (12, .bool y8.2)], []⟩
        refine V.seq (V.seq (V.region (VO.cons rfl (V1.mv ?_))))
        refine VO.cons rfl (V1.mv ?_)
        refine VO.cons rfl (V1.lenMap rfl rfl rfl rfl rfl rfl isl_69 lt0 ?_)
        refine VO.cons rfl (V1.it ?_)
        refine VO.nil (V.cond rfl (fun hc5 => ?_) (fun hc5 => ?_))
        ·
         replace hm2 := cond_t hc5 hm2
         refine V.skip ?_
         refine V.keep 208 [0, 5, 9, 11, 12, 13] [] (E0 := [(0, .vl ρ0 1 (List.map encU8 code)), (5, .vl rn 2 (List.map (encVersion rn) y2.1)), (9, .int .i64 y5.1), (11, .vl rn 1 (List.map encInt y8.1)), (12, .bool y8.2), (13, .int .i64 i)]) (H0 := []) rfl (⟨_, _, rfl, rfl, ⟨_, _, rfl, rfl, ⟨_, _, rfl, rfl, ⟨_, _, rfl, rfl, ⟨_, _, rfl, rfl, ⟨_, _, rfl, rfl, rfl⟩⟩⟩⟩⟩⟩) (rfl) rfl ?_
         refine V.seq (V.block ?_)
         refine V.seq ?_
         replace hm2 := asrt_some hm2; rcases hm2 with ⟨hh11, hm2⟩
         replace hm2 := asrt_some hm2; rcases hm2 with ⟨hh12, hm2⟩
         replace hm2 := bindO hm2; rcases hm2 with ⟨y10, hh13, hm2⟩
         refine V.regionS [] 208 15 [⟨[(5, none)], false⟩, ⟨[(9, none)], false⟩, ⟨[(120, some 1)], false⟩, ⟨[(119, some 0), (121, some 2)], false⟩, ⟨[(122, some 3)], false⟩, ⟨[(123, some 4)], false⟩, ⟨[(11, none)], false⟩, ⟨[(13, none)], false⟩, ⟨[(125, some 6), (126, some 7)], false⟩, ⟨[(127, some 8)], false⟩, ⟨[(124, some 5), (128, some 9)], true⟩, ⟨[(129, some 10)], false⟩, ⟨[(118, some 11)], true⟩, ⟨[(118, some 11)], false⟩, ⟨[(130, some 12)], false⟩] [(0, none), (5, none), (9, none), (11, none), (12, none), (13, none), (14, some 14), (131, some 13)] 2 (⟨_, rfl, ⟨_, rfl, ⟨_, rfl, ⟨_, rfl, ⟨_, rfl, ⟨_, rfl, ⟨_, rfl, ⟨_, rfl, ⟨_, rfl, ⟨_, rfl, ⟨_, rfl, ⟨_, rfl, ⟨_, rfl, ⟨_, rfl, ⟨_, rfl, ⟨rfl, rfl⟩⟩⟩⟩⟩⟩⟩⟩⟩⟩⟩⟩⟩⟩⟩⟩) mixed_orders rfl (by decide +kernel) ?_
         refine WalkP.step (p := ?pv828) 0 rfl rfl rfl rfl rfl (⟨_, _, rfl, rfl, rfl⟩) ?hv828 ?rest828
         case hv828 =>
          intro E1 H1 hI1
          refine (V1.mv ?_)
          exact rfl
         refine WalkP.step (p := ?pv829) 1 rfl rfl rfl rfl rfl (⟨_, _, rfl, rfl, rfl⟩) ?hv829 ?rest829
         case hv829 =>
          intro E1 H1 hI1
          refine (V1.mv ?_)
          exact rfl
         refine WalkP.step (p := ?pv830) 2 rfl rfl rfl rfl rfl (⟨_, _, rfl, rfl, rfl⟩) ?hv830 ?rest830
         case hv830 =>
          intro E1 H1 hI1
          refine (V1.it ?_)
          exact rfl
         refine WalkP.step (p := ?pv831) 3 rfl rfl rfl rfl rfl (⟨_, _, rfl, rfl, ⟨_, _, rfl, rfl, rfl⟩⟩) ?hv831 ?rest831
         case hv831 =>
          intro E1 H1 hI1
          refine (V1.indexI rfl rfl esz_57 rfl rfl hh11 lt0 ?_)
          exact rfl
         refine WalkP.step (p := ?pv832) 4 rfl rfl rfl rfl rfl (⟨_, _, rfl, rfl, rfl⟩) ?hv832 ?rest832
         case hv832 =>
          intro E1 H1 hI1
          refine (V1.fieldPin rfl rfl fo_60_1 rfl lt0 ?_)
          exact rfl
         refine WalkP.step (p := ?pv833) 5 rfl rfl rfl rfl rfl (⟨_, _, rfl, rfl, rfl⟩) ?hv833 ?rest833
         case hv833 =>
          intro E1 H1 hI1
          refine (V1.loadPin rfl rfl tyk_58 rfl rfl lt0 ?_)
          exact rfl
         refine WalkP.step (p := ?pv834) 6 rfl rfl rfl rfl rfl (⟨_, _, rfl, rfl, rfl⟩) ?hv834 ?rest834
         case hv834 =>
          intro E1 H1 hI1
          refine (V1.mv ?_)
          exact rfl
         refine WalkP.step (p := ?pv835) 7 rfl rfl rfl rfl rfl (⟨_, _, rfl, rfl, rfl⟩) ?hv835 ?rest835
         case hv835 =>
          intro E1 H1 hI1
          refine (V1.mv ?_)
          exact rfl
         refine WalkP.step (p := ?pv836) 8 rfl rfl rfl rfl rfl (⟨_, _, rfl, rfl, ⟨_, _, rfl, rfl, rfl⟩⟩) ?hv836 ?rest836
         case hv836 =>
          intro E1 H1 hI1
          refine (V1.indexI rfl rfl esz_69 rfl rfl hh12 lt0 ?_)
          exact rfl
         refine WalkP.step (p := ?pv837) 9 rfl rfl rfl rfl rfl (⟨_, _, rfl, rfl, rfl⟩) ?hv837 ?rest837
         case hv837 =>
          intro E1 H1 hI1
          refine (V1.loadPin rfl rfl tyk_3 rfl rfl lt0 ?_)
          exact rfl
         refine WalkP.nil (NodeS.branch [10] inNil rfl rfl rfl ⟨?_, trivial⟩)
         ·
          refine ⟨_, _, _, _, rfl, rfl, rfl, (⟨_, _, rfl, rfl, ⟨_, _, rfl, rfl, rfl⟩⟩), fun E1 => ?_⟩
          refine (V1.permK (V1.call rfl rfl rfl cok_43 rfl (ok_impl_RulesFor hh13) rfl lt0 ?_))
          rintro _ _ ⟨ob3, hob3, rfl, rfl⟩
          refine ⟨_, ?_, Keeps.optBack (n := 4) (ob := ob3) (xs := List.map encRule y10.1) (H1 := []) (H2 := []) rfl⟩
          refine ⟨_, _, rfl, ?_⟩
          refine WalkP.step (p := ?pv838) 11 rfl rfl rfl rfl rfl (⟨_, _, rfl, rfl, rfl⟩) ?hv838 ?rest838
          case hv838 =>
           intro E1 H1 hI1
           refine (V1.mv ?_)
           exact rfl
          refine WalkP.step (p := ?pv839) 13 rfl rfl rfl rfl rfl (⟨_, _, rfl, rfl, rfl⟩) ?hv839 ?rest839
          case hv839 =>
           intro E1 H1 hI1
           refine (V1.extract rfl rfl rfl rfl lt0 ?_)
           exact rfl
          refine WalkP.nil (NodeS.branch [12] inNil rfl rfl rfl ⟨?_, trivial⟩)
          ·
           refine ⟨_, _, _, _, rfl, rfl, rfl, (⟨_, _, rfl, rfl, rfl⟩), fun E1 => ?_⟩
           refine (V1.extract rfl rfl rfl rfl lt0 ?_)
           refine ⟨_, _, rfl, ?_⟩
           refine WalkP.step (p := ?pv840) 14 rfl rfl rfl rfl rfl (⟨_, _, rfl, rfl, rfl⟩) ?hv840 ?rest840
           case hv840 =>
            intro E1 H1 hI1
            refine (V1.as ?_)
            exact rfl
           refine WalkP.nil (NodeS.fin inNil rfl rfl rfl (⟨_, _, rfl, rfl, ⟨_, _, rfl, rfl, ⟨_, _, rfl, rfl, ⟨_, _, rfl, rfl, ⟨_, _, rfl, rfl, ⟨_, _, rfl, rfl, ⟨_, _, rfl, rfl, ⟨_, _, rfl, rfl, rfl⟩⟩⟩⟩⟩⟩⟩⟩) ?_)
           refine VO.cons rfl (V1.as ?_)
           refine VO.nil ?_
           rcases ob3 with _ | ob3
           ·
            refine V.seq ?_
            replace hm2 := asrt_some hm2; rcases hm2 with ⟨hh14, hm2⟩
            replace hm2 := asrt_some hm2; rcases hm2 with ⟨hh15, hm2⟩
            replace hm2 := bindO hm2; rcases hm2 with ⟨y11, hh16, hm2⟩
            refine V.regionS [] 208 14 [⟨[(5, none)], false⟩, ⟨[(9, none)], false⟩, ⟨[(133, some 0), (134, some 1)], false⟩, ⟨[(135, some 2)], false⟩, ⟨[(136, some 3)], false⟩, ⟨[(11, none)], false⟩, ⟨[(13, none)], false⟩, ⟨[(138, some 5), (139, some 6)], false⟩, ⟨[(140, some 7)], false⟩, ⟨[(137, some 4), (141, some 8)], true⟩, ⟨[(142, some 9)], false⟩, ⟨[(132, some 10)], true⟩, ⟨[(132, some 10)], false⟩, ⟨[(143, some 11)], false⟩] [(0, none), (5, none), (9, none), (11, none), (12, none), (13, none), (14, none), (15, none), (16, some 13), (144, some 12)] 2 (⟨_, rfl, ⟨_, rfl, ⟨_, rfl, ⟨_, rfl, ⟨_, rfl, ⟨_, rfl, ⟨_, rfl, ⟨_, rfl, ⟨_, rfl, ⟨_, rfl, ⟨_, rfl, ⟨_, rfl, ⟨_, rfl, ⟨_, rfl, ⟨rfl, rfl⟩⟩⟩⟩⟩⟩⟩⟩⟩⟩⟩⟩⟩⟩⟩) mixed_orders rfl (by decide +kernel) ?_
            refine WalkP.step (p := ?pv853) 0 rfl rfl rfl rfl rfl (⟨_, _, rfl, rfl, rfl⟩) ?hv853 ?rest853
            case hv853 =>
             intro E1 H1 hI1
             refine (V1.mv ?_)
             exact rfl
            refine WalkP.step (p := ?pv854) 1 rfl rfl rfl rfl rfl (⟨_, _, rfl, rfl, rfl⟩) ?hv854 ?rest854
            case hv854 =>
             intro E1 H1 hI1
             refine (V1.mv ?_)
             exact rfl
            refine WalkP.step (p := ?pv855) 2 rfl rfl rfl rfl rfl (⟨_, _, rfl, rfl, ⟨_, _, rfl, rfl, rfl⟩⟩) ?hv855 ?rest855
            case hv855 =>
             intro E1 H1 hI1
             refine (V1.indexI rfl rfl esz_57 rfl rfl hh14 lt0 ?_)
             exact rfl
            refine WalkP.step (p := ?pv856) 3 rfl rfl rfl rfl rfl (⟨_, _, rfl, rfl, rfl⟩) ?hv856 ?rest856
            case hv856 =>
             intro E1 H1 hI1
             refine (V1.fieldPin rfl rfl fo_60_1 rfl lt0 ?_)
             exact rfl
            refine WalkP.step (p := ?pv857) 4 rfl rfl rfl rfl rfl (⟨_, _, rfl, rfl, rfl⟩) ?hv857 ?rest857
            case hv857 =>
             intro E1 H1 hI1
             refine (V1.loadPin rfl rfl tyk_58 rfl rfl lt0 ?_)
             exact rfl
            refine WalkP.step (p := ?pv858) 5 rfl rfl rfl rfl rfl (⟨_, _, rfl, rfl, rfl⟩) ?hv858 ?rest858
            case hv858 =>
             intro E1 H1 hI1
             refine (V1.mv ?_)
             exact rfl
            refine WalkP.step (p := ?pv859) 6 rfl rfl rfl rfl rfl (⟨_, _, rfl, rfl, rfl⟩) ?hv859 ?rest859
            case hv859 =>
             intro E1 H1 hI1
             refine (V1.mv ?_)
             exact rfl
            refine WalkP.step (p := ?pv860) 7 rfl rfl rfl rfl rfl (⟨_, _, rfl, rfl, ⟨_, _, rfl, rfl, rfl⟩⟩) ?hv860 ?rest860
            case hv860 =>
             intro E1 H1 hI1
             refine (V1.indexI rfl rfl esz_69 rfl rfl hh15 lt0 ?_)
             exact rfl
            refine WalkP.step (p := ?pv861) 8 rfl rfl rfl rfl rfl (⟨_, _, rfl, rfl, rfl⟩) ?hv861 ?rest861
            case hv861 =>
             intro E1 H1 hI1
             refine (V1.loadPin rfl rfl tyk_3 rfl rfl lt0 ?_)
             exact rfl
            refine WalkP.nil (NodeS.branch [9] inNil rfl rfl rfl ⟨?_, trivial⟩)
            ·
             refine ⟨_, _, _, _, rfl, rfl, rfl, (⟨_, _, rfl, rfl, ⟨_, _, rfl, rfl, rfl⟩⟩), fun E1 => ?_⟩
             refine (V1.permK (V1.call rfl rfl rfl cok_43 rfl (ok_impl_RulesFor hh16) rfl lt0 ?_))
             rintro _ _ ⟨ob5, hob5, rfl, rfl⟩
             refine ⟨_, ?_, Keeps.optBack (n := 4) (ob := ob5) (xs := List.map encRule y11.1) (H1 := []) (H2 := []) rfl⟩
             refine ⟨_, _, rfl, ?_⟩
             refine WalkP.step (p := ?pv862) 10 rfl rfl rfl rfl rfl (⟨_, _, rfl, rfl, rfl⟩) ?hv862 ?rest862
             case hv862 =>
              intro E1 H1 hI1
              refine (V1.mv ?_)
              exact rfl
             refine WalkP.step (p := ?pv863) 12 rfl rfl rfl rfl rfl (⟨_, _, rfl, rfl, rfl⟩) ?hv863 ?rest863
             case hv863 =>
              intro E1 H1 hI1
              refine (V1.extract rfl rfl rfl rfl lt0 ?_)
              exact rfl
             refine WalkP.nil (NodeS.branch [11] inNil rfl rfl rfl ⟨?_, trivial⟩)
             ·
              refine ⟨_, _, _, _, rfl, rfl, rfl, (⟨_, _, rfl, rfl, rfl⟩), fun E1 => ?_⟩
              refine (V1.extract rfl rfl rfl rfl lt0 ?_)
              refine ⟨_, _, rfl, ?_⟩
              refine WalkP.step (p := ?pv864) 13 rfl rfl rfl rfl rfl (⟨_, _, rfl, rfl, rfl⟩) ?hv864 ?rest864
              case hv864 =>
               intro E1 H1 hI1
               refine (V1.as ?_)
               exact rfl
              refine WalkP.nil (NodeS.fin inNil rfl rfl rfl (⟨_, _, rfl, rfl, ⟨_, _, rfl, rfl, ⟨_, _, rfl, rfl, ⟨_, _, rfl, rfl, ⟨_, _, rfl, rfl, ⟨_, _, rfl, rfl, ⟨_, _, rfl, rfl, ⟨_, _, rfl, rfl, ⟨_, _, rfl, rfl, ⟨_, _, rfl, rfl, rfl⟩⟩⟩⟩⟩⟩⟩⟩⟩⟩) ?_)
              refine VO.cons rfl (V1.as ?_)
              refine VO.nil ?_
              rcases ob5 with _ | ob5
              ·
               refine V.seq ?_
               replace hm2 := bindO hm2; rcases hm2 with ⟨y12, hh17, hm2⟩
               refine V.region (VO.cons rfl (V1.mv ?_))
               refine VO.cons rfl (V1.not rfl rfl rfl lt0 ?_)
               refine VO.cons rfl (V1.mv ?_)
               apply VO.or (n := 2) rfl rfl rfl rfl rfl rfl lt0 (.none rfl)
               ·
                intro hg6
                refine VO.step (.some rfl rfl rfl) (V1.mv ?_)
                refine VO.step (.some rfl rfl rfl) (V1.not rfl rfl rfl lt0 ?_)
                exact VO.nil ⟨rfl, rfl, rfl, rfl, .inr ⟨rfl, .inr ⟨rfl, .inr ⟨rfl, .inl rfl⟩⟩⟩⟩
               refine VO.cons rfl (V1.mv ?_)
               apply VO.or (n := 3) rfl rfl rfl rfl rfl rfl lt0 (.none rfl)
               ·
                intro hg7
                refine VO.step (.some rfl rfl rfl) (V1.mv ?_)
                refine VO.step (.some rfl rfl rfl) (V1.mv ?_)
                refine VO.weakenK (Keeps.nilsE (l := y10.1) 152 rn 4 encRule (hob3 rfl) rfl rfl) ?_
                refine VO.weakenK (Keeps.nilsE (l := y11.1) 153 rn 4 encRule (hob5 rfl) rfl rfl) ?_
                refine VO.step (.some rfl rfl rfl) (V1.call rfl rfl rfl cok_40 rfl (ok_laws_vRules (cond_f hg7 hh17)) rfl lt0 ?_)
                rintro _ _ ⟨rfl, rfl⟩
                exact VO.nil ⟨rfl, rfl, rfl, rfl, .inr ⟨rfl, .inr ⟨rfl, .inr ⟨rfl, .inr ⟨rfl, .inr ⟨rfl, .inr ⟨rfl, .inl rfl⟩⟩⟩⟩⟩⟩⟩
               refine VO.nil (V.keep 208 [0, 5, 9, 11, 12, 13, 155] [] (E0 := [(0, .vl ρ0 1 (List.map encU8 code)), (5, .vl rn 2 (List.map (encVersion rn) y2.1)), (9, .int .i64 y5.1), (11, .vl rn 1 (List.map encInt y8.1)), (12, .bool y8.2), (13, .int .i64 i), (155, .bool (((!y10.2) || (!y11.2)) || y12))]) (H0 := []) rfl (⟨_, _, rfl, rfl, ⟨_, _, rfl, rfl, ⟨_, _, rfl, rfl, ⟨_, _, rfl, rfl, ⟨_, _, rfl, rfl, ⟨_, _, rfl, rfl, ⟨_, _, rfl, rfl, rfl⟩⟩⟩⟩⟩⟩⟩) (rfl) rfl ?_)
               refine V.cond rfl (fun hc6 => ?_) (fun hc6 => ?_)
               ·
                replace hm2 := cond_t hc6 hm2
                refine V.seq (V.region (VO.cons rfl (V1.as ?_)))
                refine VO.nil (V.ret ?_)
                obtain rfl := hr2 _ (oi hm2).symm
                change some _ = some _ at hm1
                obtain rfl := oi hm1
                change some _ = some _ at hm0
                obtain rfl := oi hm0
                exact ⟨_, [], ⟨_, _, rfl, rfl, rfl⟩, List.nil_sublist _, rfl, rfl⟩
               ·
                replace hm2 := cond_f hc6 hm2
                refine V.skip ?_
                refine V.region (VO.cons rfl (V1.mv ?_))
                refine VO.cons rfl (V1.it ?_)
                refine VO.cons rfl (V1.as ?_)
                refine VO.nil ?_
                exact ⟨(m0, (IntKind.i64.wrap (i + (1 : Int))), ()), hl2 _ (oi hm2).symm, Nat.lt_succ_self _, Keeps.mk (ks := []) rfl ⟨rfl, rfl, rfl, rfl, rfl, rfl, trivial⟩ (rfl) rfl⟩
              ·
               refine V.seq ?_
               replace hm2 := bindO hm2; rcases hm2 with ⟨y12, hh17, hm2⟩
               refine V.region (VO.cons rfl (V1.mv ?_))
               refine VO.cons rfl (V1.not rfl rfl rfl lt0 ?_)
               refine VO.cons rfl (V1.mv ?_)
               apply VO.or (n := 2) rfl rfl rfl rfl rfl rfl lt0 (.none rfl)
               ·
                intro hg6
                refine VO.step (.some rfl rfl rfl) (V1.mv ?_)
                refine VO.step (.some rfl rfl rfl) (V1.not rfl rfl rfl lt0 ?_)
                exact VO.nil ⟨rfl, rfl, rfl, rfl, .inr ⟨rfl, .inr ⟨rfl, .inr ⟨rfl, .inl rfl⟩⟩⟩⟩
               refine VO.cons rfl (V1.mv ?_)
               apply VO.or (n := 3) rfl rfl rfl rfl rfl rfl lt0 (.none rfl)
               ·
                intro hg7
                refine VO.step (.some rfl rfl rfl) (V1.mv ?_)
                refine VO.step (.some rfl rfl rfl) (V1.mv ?_)
                refine VO.weakenK (Keeps.nilsE (l := y10.1) 152 rn 4 encRule (hob3 rfl) rfl rfl) ?_
                refine VO.step (.some rfl rfl rfl) (V1.callL (rn + 1) [ob5] [.vl rn 4 (List.map encRule y10.1), .vl (rn + 1) 4 (List.map encRule y11.1)] rfl rfl rfl cok_40 rfl ⟨_, _, rfl, .same _, ⟨_, _, rfl, Lend.srMap 0 rfl (fun _ => rfl) (.head _), rfl⟩⟩ (bwCons (k := 0) rfl bwNil) (ok_laws_vRules (cond_f hg7 hh17)) rfl (⟨(by first | omega | (dsimp only; omega)), by rintro _ _ ⟨rfl, rfl⟩; exact ⟨rfl, by simp⟩⟩) lt0 ?_)
                rintro _ _ ⟨rfl, rfl⟩
                exact VO.nil ⟨rfl, rfl, rfl, rfl, .inr ⟨rfl, .inr ⟨rfl, .inr ⟨rfl, .inr ⟨rfl, .inr ⟨rfl, .inl rfl⟩⟩⟩⟩⟩⟩
               refine VO.nil (V.keep 208 [0, 5, 9, 11, 12, 13, 155] [] (E0 := [(0, .vl ρ0 1 (List.map encU8 code)), (5, .vl rn 2 (List.map (encVersion rn) y2.1)), (9, .int .i64 y5.1), (11, .vl rn 1 (List.map encInt y8.1)), (12, .bool y8.2), (13, .int .i64 i), (155, .bool (((!y10.2) || (!y11.2)) || y12))]) (H0 := []) rfl (⟨_, _, rfl, rfl, ⟨_, _, rfl, rfl, ⟨_, _, rfl, rfl, ⟨_, _, rfl, rfl, ⟨_, _, rfl, rfl, ⟨_, _, rfl, rfl, ⟨_, _, rfl, rfl, rfl⟩⟩⟩⟩⟩⟩⟩) (rfl) rfl ?_)
               refine V.cond rfl (fun hc6 => ?_) (fun hc6 => ?_)
               ·
                replace hm2 := cond_t hc6 hm2
                refine V.seq (V.region (VO.cons rfl (V1.as ?_)))
                refine VO.nil (V.ret ?_)
                obtain rfl := hr2 _ (oi hm2).symm
                change some _ = some _ at hm1
                obtain rfl := oi hm1
                change some _ = some _ at hm0
                obtain rfl := oi hm0
                exact ⟨_, [], ⟨_, _, rfl, rfl, rfl⟩, List.nil_sublist _, rfl, rfl⟩
               ·
                replace hm2 := cond_f hc6 hm2
                refine V.skip ?_
                refine V.region (VO.cons rfl (V1.mv ?_))
                refine VO.cons rfl (V1.it ?_)
                refine VO.cons rfl (V1.as ?_)
                refine VO.nil ?_
                exact ⟨(m0, (IntKind.i64.wrap (i + (1 : Int))), ()), hl2 _ (oi hm2).symm, Nat.lt_succ_self _, Keeps.mk (ks := []) rfl ⟨rfl, rfl, rfl, rfl, rfl, rfl, trivial⟩ (rfl) rfl⟩
           ·
            refine V.seq ?_
            replace hm2 := asrt_some hm2; rcases hm2 with ⟨hh14, hm2⟩
            replace hm2 := asrt_some hm2; rcases hm2 with ⟨hh15, hm2⟩
            replace hm2 := bindO hm2; rcases hm2 with ⟨y11, hh16, hm2⟩
            refine V.regionS [] 208 14 [⟨[(5, none)], false⟩, ⟨[(9, none)], false⟩, ⟨[(133, some 0), (134, some 1)], false⟩, ⟨[(135, some 2)], false⟩, ⟨[(136, some 3)], false⟩, ⟨[(11, none)], false⟩, ⟨[(13, none)], false⟩, ⟨[(138, some 5), (139, some 6)], false⟩, ⟨[(140, some 7)], false⟩, ⟨[(137, some 4), (141, some 8)], true⟩, ⟨[(142, some 9)], false⟩, ⟨[(132, some 10)], true⟩, ⟨[(132, some 10)], false⟩, ⟨[(143, some 11)], false⟩] [(0, none), (5, none), (9, none), (11, none), (12, none), (13, none), (14, none), (15, none), (16, some 13), (144, some 12)] 2 (⟨_, rfl, ⟨_, rfl, ⟨_, rfl, ⟨_, rfl, ⟨_, rfl, ⟨_, rfl, ⟨_, rfl, ⟨_, rfl, ⟨_, rfl, ⟨_, rfl, ⟨_, rfl, ⟨_, rfl, ⟨_, rfl, ⟨_, rfl, ⟨rfl, rfl⟩⟩⟩⟩⟩⟩⟩⟩⟩⟩⟩⟩⟩⟩⟩) mixed_orders rfl (by decide +kernel) ?_
            refine WalkP.step (p := ?pv865) 0 rfl rfl rfl rfl rfl (⟨_, _, rfl, rfl, rfl⟩) ?hv865 ?rest865
            case hv865 =>
             intro E1 H1 hI1
             refine (V1.mv ?_)
             exact rfl
            refine WalkP.step (p := ?pv866) 1 rfl rfl rfl rfl rfl (⟨_, _, rfl, rfl, rfl⟩) ?hv866 ?rest866
            case hv866 =>
             intro E1 H1 hI1
             refine (V1.mv ?_)
             exact rfl
            refine WalkP.step (p := ?pv867) 2 rfl rfl rfl rfl rfl (⟨_, _, rfl, rfl, ⟨_, _, rfl, rfl, rfl⟩⟩) ?hv867 ?rest867
            case hv867 =>
             intro E1 H1 hI1
             refine (V1.indexI rfl rfl esz_57 rfl rfl hh14 lt0 ?_)
             exact rfl
            refine WalkP.step (p := ?pv868) 3 rfl rfl rfl rfl rfl (⟨_, _, rfl, rfl, rfl⟩) ?hv868 ?rest868
            case hv868 =>
             intro E1 H1 hI1
             refine (V1.fieldPin rfl rfl fo_60_1 rfl lt0 ?_)
             exact rfl
            refine WalkP.step (p := ?pv869) 4 rfl rfl rfl rfl rfl (⟨_, _, rfl, rfl, rfl⟩) ?hv869 ?rest869
            case hv869 =>
             intro E1 H1 hI1
             refine (V1.loadPin rfl rfl tyk_58 rfl rfl lt0 ?_)
             exact rfl
            refine WalkP.step (p := ?pv870) 5 rfl rfl rfl rfl rfl (⟨_, _, rfl, rfl, rfl⟩) ?hv870 ?rest870
            case hv870 =>
             intro E1 H1 hI1
             refine (V1.mv ?_)
             exact rfl
            refine WalkP.step (p := ?pv871) 6 rfl rfl rfl rfl rfl (⟨_, _, rfl, rfl, rfl⟩) ?hv871 ?rest871
            case hv871 =>
             intro E1 H1 hI1
             refine (V1.mv ?_)
             exact rfl
            refine WalkP.step (p := ?pv872) 7 rfl rfl rfl rfl rfl (⟨_, _, rfl, rfl, ⟨_, _, rfl, rfl, rfl⟩⟩) ?hv872 ?rest872
            case hv872 =>
             intro E1 H1 hI1
             refine (V1.indexI rfl rfl esz_69 rfl rfl hh15 lt0 ?_)
             exact rfl
            refine WalkP.step (p := ?pv873) 8 rfl rfl rfl rfl rfl (⟨_, _, rfl, rfl, rfl⟩) ?hv873 ?rest873
            case hv873 =>
             intro E1 H1 hI1
             refine (V1.loadPin rfl rfl tyk_3 rfl rfl lt0 ?_)
             exact rfl
            refine WalkP.nil (NodeS.branch [9] inNil rfl rfl rfl ⟨?_, trivial⟩)
            ·
             refine ⟨_, _, _, _, rfl, rfl, rfl, (⟨_, _, rfl, rfl, ⟨_, _, rfl, rfl, rfl⟩⟩), fun E1 => ?_⟩
             refine (V1.permK (V1.call rfl rfl rfl cok_43 rfl (ok_impl_RulesFor hh16) rfl lt0 ?_))
             rintro _ _ ⟨ob5, hob5, rfl, rfl⟩
             refine ⟨_, ?_, Keeps.optBack (n := 4) (ob := ob5) (xs := List.map encRule y11.1) (H1 := []) (H2 := [(ob3, ⟨4, List.map encRule y10.1⟩)]) rfl⟩
             refine ⟨_, _, rfl, ?_⟩
             refine WalkP.step (p := ?pv874) 10 rfl rfl rfl rfl rfl (⟨_, _, rfl, rfl, rfl⟩) ?hv874 ?rest874
             case hv874 =>
              intro E1 H1 hI1
              refine (V1.mv ?_)
              exact rfl
             refine WalkP.step (p := ?pv875) 12 rfl rfl rfl rfl rfl (⟨_, _, rfl, rfl, rfl⟩) ?hv875 ?rest875
             case hv875 =>
              intro E1 H1 hI1
              refine (V1.extract rfl rfl rfl rfl lt0 ?_)
              exact rfl
             refine WalkP.nil (NodeS.branch [11] inNil rfl rfl rfl ⟨?_, trivial⟩)
             ·
              refine ⟨_, _, _, _, rfl, rfl, rfl, (⟨_, _, rfl, rfl, rfl⟩), fun E1 => ?_⟩
              refine (V1.extract rfl rfl rfl rfl lt0 ?_)
              refine ⟨_, _, rfl, ?_⟩
              refine WalkP.step (p := ?pv876) 13 rfl rfl rfl rfl rfl (⟨_, _, rfl, rfl, rfl⟩) ?hv876 ?rest876
              case hv876 =>
               intro E1 H1 hI1
               refine (V1.as ?_)
               exact rfl
              refine WalkP.nil (NodeS.fin inNil rfl rfl rfl (⟨_, _, rfl, rfl, ⟨_, _, rfl, rfl, ⟨_, _, rfl, rfl, ⟨_, _, rfl, rfl, ⟨_, _, rfl, rfl, ⟨_, _, rfl, rfl, ⟨_, _, rfl, rfl, ⟨_, _, rfl, rfl, ⟨_, _, rfl, rfl, ⟨_, _, rfl, rfl, rfl⟩⟩⟩⟩⟩⟩⟩⟩⟩⟩) ?_)
              refine VO.cons rfl (V1.as ?_)
              refine VO.nil ?_
              rcases ob5 with _ | ob5
              ·
               refine V.seq ?_
               replace hm2 := bindO hm2; rcases hm2 with ⟨y12, hh17, hm2⟩
               refine V.region (VO.cons rfl (V1.mv ?_))
               refine VO.cons rfl (V1.not rfl rfl rfl lt0 ?_)
               refine VO.cons rfl (V1.mv ?_)
               apply VO.or (n := 2) rfl rfl rfl rfl rfl rfl lt0 (.none rfl)
               ·
                intro hg6
                refine VO.step (.some rfl rfl rfl) (V1.mv ?_)
                refine VO.step (.some rfl rfl rfl) (V1.not rfl rfl rfl lt0 ?_)
                exact VO.nil ⟨rfl, rfl, rfl, rfl, .inr ⟨rfl, .inr ⟨rfl, .inr ⟨rfl, .inl rfl⟩⟩⟩⟩
               refine VO.cons rfl (V1.mv ?_)
               apply VO.or (n := 3) rfl rfl rfl rfl rfl rfl lt0 (.none rfl)
               ·
                intro hg7
                refine VO.step (.some rfl rfl rfl) (V1.mv ?_)
                refine VO.step (.some rfl rfl rfl) (V1.mv ?_)
                refine VO.weakenK (Keeps.nilsE (l := y11.1) 153 rn 4 encRule (hob5 rfl) rfl rfl) ?_
                refine VO.step (.some rfl rfl rfl) (V1.callL (rn + 1) [ob3] [.vl (rn + 1) 4 (List.map encRule y10.1), .vl rn 4 (List.map encRule y11.1)] rfl rfl rfl cok_40 rfl ⟨_, _, rfl, Lend.srMap 0 rfl (fun _ => rfl) (.head _), ⟨_, _, rfl, .same _, rfl⟩⟩ (bwCons (k := 0) rfl bwNil) (ok_laws_vRules (cond_f hg7 hh17)) rfl (⟨(by first | omega | (dsimp only; omega)), by rintro _ _ ⟨rfl, rfl⟩; exact ⟨rfl, by simp⟩⟩) lt0 ?_)
                rintro _ _ ⟨rfl, rfl⟩
                exact VO.nil ⟨rfl, rfl, rfl, rfl, .inr ⟨rfl, .inr ⟨rfl, .inr ⟨rfl, .inr ⟨rfl, .inr ⟨rfl, .inl rfl⟩⟩⟩⟩⟩⟩
               refine VO.nil (V.keep 208 [0, 5, 9, 11, 12, 13, 155] [] (E0 := [(0, .vl ρ0 1 (List.map encU8 code)), (5, .vl rn 2 (List.map (encVersion rn) y2.1)), (9, .int .i64 y5.1), (11, .vl rn 1 (List.map encInt y8.1)), (12, .bool y8.2), (13, .int .i64 i), (155, .bool (((!y10.2) || (!y11.2)) || y12))]) (H0 := []) rfl (⟨_, _, rfl, rfl, ⟨_, _, rfl, rfl, ⟨_, _, rfl, rfl, ⟨_, _, rfl, rfl, ⟨_, _, rfl, rfl, ⟨_, _, rfl, rfl, ⟨_, _, rfl, rfl, rfl⟩⟩⟩⟩⟩⟩⟩) (rfl) rfl ?_)
               refine V.cond rfl (fun hc6 => ?_) (fun hc6 => ?_)
               ·
                replace hm2 := cond_t hc6 hm2
                refine V.seq (V.region (VO.cons rfl (V1.as ?_)))
                refine VO.nil (V.ret ?_)
                obtain rfl := hr2 _ (oi hm2).symm
                change some _ = some _ at hm1
                obtain rfl := oi hm1
                change some _ = some _ at hm0
                obtain rfl := oi hm0
                exact ⟨_, [], ⟨_, _, rfl, rfl, rfl⟩, List.nil_sublist _, rfl, rfl⟩
               ·
                replace hm2 := cond_f hc6 hm2
                refine V.skip ?_
                refine V.region (VO.cons rfl (V1.mv ?_))
                refine VO.cons rfl (V1.it ?_)
                refine VO.cons rfl (V1.as ?_)
                refine VO.nil ?_
                exact ⟨(m0, (IntKind.i64.wrap (i + (1 : Int))), ()), hl2 _ (oi hm2).symm, Nat.lt_succ_self _, Keeps.mk (ks := []) rfl ⟨rfl, rfl, rfl, rfl, rfl, rfl, trivial⟩ (rfl) rfl⟩
              ·
               refine V.seq ?_
               replace hm2 := bindO hm2; rcases hm2 with ⟨y12, hh17, hm2⟩
               refine V.region (VO.cons rfl (V1.mv ?_))
               refine VO.cons rfl (V1.not rfl rfl rfl lt0 ?_)
               refine VO.cons rfl (V1.mv ?_)
               apply VO.or (n := 2) rfl rfl rfl rfl rfl rfl lt0 (.none rfl)
               ·
                intro hg6
                refine VO.step (.some rfl rfl rfl) (V1.mv ?_)
                refine VO.step (.some rfl rfl rfl) (V1.not rfl rfl rfl lt0 ?_)
                exact VO.nil ⟨rfl, rfl, rfl, rfl, .inr ⟨rfl, .inr ⟨rfl, .inr ⟨rfl, .inl rfl⟩⟩⟩⟩
               refine VO.cons rfl (V1.mv ?_)
               apply VO.or (n := 3) rfl rfl rfl rfl rfl rfl lt0 (.none rfl)
               ·
                intro hg7
                refine VO.step (.some rfl rfl rfl) (V1.mv ?_)
                refine VO.step (.some rfl rfl rfl) (V1.mv ?_)
                refine VO.step (.some rfl rfl rfl) (V1.callL (rn + 1) [ob3, ob5] [.vl (rn + 1) 4 (List.map encRule y10.1), .vl (rn + 1) 4 (List.map encRule y11.1)] rfl rfl rfl cok_40 rfl ⟨_, _, rfl, Lend.srMap 0 rfl (fun _ => rfl) (.head _), ⟨_, _, rfl, Lend.srMap 1 rfl (fun _ => rfl) (.tail _ (.head _)), rfl⟩⟩ (bwCons (k := 0) rfl (bwCons (k := 1) rfl bwNil)) (ok_laws_vRules (cond_f hg7 hh17)) rfl (⟨(by first | omega | (dsimp only; omega)), by rintro _ _ ⟨rfl, rfl⟩; exact ⟨rfl, by simp⟩⟩) lt0 ?_)
                rintro _ _ ⟨rfl, rfl⟩
                exact VO.nil ⟨rfl, rfl, rfl, rfl, .inr ⟨rfl, .inr ⟨rfl, .inr ⟨rfl, .inr ⟨rfl, .inl rfl⟩⟩⟩⟩⟩
               refine VO.nil (V.keep 208 [0, 5, 9, 11, 12, 13, 155] [] (E0 := [(0, .vl ρ0 1 (List.map encU8 code)), (5, .vl rn 2 (List.map (encVersion rn) y2.1)), (9, .int .i64 y5.1), (11, .vl rn 1 (List.map encInt y8.1)), (12, .bool y8.2), (13, .int .i64 i), (155, .bool (((!y10.2) || (!y11.2)) || y12))]) (H0 := []) rfl (⟨_, _, rfl, rfl, ⟨_, _, rfl, rfl, ⟨_, _, rfl, rfl, ⟨_, _, rfl, rfl, ⟨_, _, rfl, rfl, ⟨_, _, rfl, rfl, ⟨_, _, rfl, rfl, rfl⟩⟩⟩⟩⟩⟩⟩) (rfl) rfl ?_)
               refine V.cond rfl (fun hc6 => ?_) (fun hc6 => ?_)
               ·
                replace hm2 := cond_t hc6 hm2
                refine V.seq (V.region (VO.cons rfl (V1.as ?_)))
                refine VO.nil (V.ret ?_)
                obtain rfl := hr2 _ (oi hm2).symm
                change some _ = some _ at hm1
                obtain rfl := oi hm1
                change some _ = some _ at hm0
                obtain rfl := oi hm0
                exact ⟨_, [], ⟨_, _, rfl, rfl, rfl⟩, List.nil_sublist _, rfl, rfl⟩
               ·
                replace hm2 := cond_f hc6 hm2
                refine V.skip ?_
                refine V.region (VO.cons rfl (V1.mv ?_))
                refine VO.cons rfl (V1.it ?_)
                refine VO.cons rfl (V1.as ?_)
                refine VO.nil ?_
                exact ⟨(m0, (IntKind.i64.wrap (i + (1 : Int))), ()), hl2 _ (oi hm2).symm, Nat.lt_succ_self _, Keeps.mk (ks := []) rfl ⟨rfl, rfl, rfl, rfl, rfl, rfl, trivial⟩ (rfl) rfl⟩
        ·
         replace hm2 := cond_f hc5 hm2
         refine V.exit ?_
         obtain rfl := hr2 _ (oi hm2).symm
         exact ⟨((), ()), rfl, Keeps.mk (ks := []) rfl ⟨rfl, rfl, trivial⟩ (rfl) rfl⟩
       ·
        rintro ⟨_, _⟩ rfl
        try dsimp only at hm1
        refine V.seq (V.region (VO.cons rfl (V1.mv ?_)))
        refine VO.cons rfl (V1.not rfl rfl rfl lt0 ?_)
        refine VO.nil (V.cond rfl (fun hc7 => ?_) (fun hc7 => ?_))
        ·
         replace hm1 := cond_t hc7 hm1
         refine V.seq (V.region (VO.cons rfl (V1.as ?_)))
         refine VO.nil (V.ret ?_)
         obtain rfl := oi hm1
         change some _ = some _ at hm0
         obtain rfl := oi hm0
         exact ⟨_, [], ⟨_, _, rfl, rfl, rfl⟩, List.nil_sublist _, rfl, rfl⟩
        ·
         replace hm1 := cond_f hc7 hm1
         refine V.skip ?_
         exact ⟨((), ()), oi hm1, Keeps.mk (ks := []) rfl ⟨rfl, trivial⟩ (rfl) rfl⟩
      ·
       replace hm1 := cond_f hc4 hm1
       refine V.skip ?_
       exact ⟨((), ()), oi hm1, Keeps.mk (ks := []) rfl ⟨rfl, trivial⟩ (rfl) rfl⟩
    ·
     replace hm1 := cond_f hc2 hm1
     refine V.skip ?_
     exact ⟨((), ()), oi hm1, Keeps.mk (ks := []) rfl ⟨rfl, trivial⟩ (rfl) rfl⟩
   ·
    rintro ⟨_, _⟩ rfl
    try dsimp only at hm0
    refine V.seq ?_
    replace hm0 := bindO hm0; rcases hm0 with ⟨y13, hh18, hm0⟩
    refine V.region (VO.cons rfl (V1.mv ?_))
    refine VO.cons rfl (V1.call rfl rfl rfl cok_44 rfl (ok_spec_DrawVersionOn hh18) rfl lt0 ?_)
    rintro _ _ ⟨b2, rfl, rfl⟩
    refine VO.cons rfl (V1.mv ?_)
    refine VO.cons rfl (V1.extract rfl rfl rfl rfl lt0 ?_)
    refine VO.weakenK (Keeps.freezeG 0 rn [(161, .vl rn 2 (List.map (encVersion rn) y13.1))] [] (f := (encVersion rn)) (l := y13.1) rfl (fun _ => rfl) ⟨⟨_, rfl, .here⟩, trivial⟩ rfl rfl iNil) ?_
    refine VO.cons rfl (V1.extract rfl rfl rfl rfl lt0 ?_)
    refine VO.cons rfl (V1.as ?_)
    refine VO.cons rfl (V1.as ?_)
    refine VO.nil (V.keep 208 [0, 18, 19] [] (E0 := [(0, .vl ρ0 1 (List.map encU8 code)), (18, .vl rn 2 (List.map (encVersion rn) y13.1)), (19, .int .i64 y13.2)]) (H0 := []) rfl (⟨_, _, rfl, rfl, ⟨_, _, rfl, rfl, ⟨_, _, rfl, rfl, rfl⟩⟩⟩) (rfl) rfl ?_)
    refine V.seq ?_
    replace hm0 := bindO hm0; rcases hm0 with ⟨y14, hh19, hm0⟩
    refine V.region (VO.cons rfl (V1.mv ?_))
    refine VO.cons rfl (V1.mv ?_)
    refine VO.cons rfl (V1.call rfl rfl rfl cok_39 rfl (ok_impl_VersionOn hh19) rfl lt0 ?_)
    rintro _ _ ⟨rfl, rfl⟩
    refine VO.cons rfl (V1.mv ?_)
    refine VO.cons rfl (V1.extract rfl rfl rfl rfl lt0 ?_)
    refine VO.cons rfl (V1.extract rfl rfl rfl rfl lt0 ?_)
    refine VO.cons rfl (V1.as ?_)
    refine VO.cons rfl (V1.as ?_)
    refine VO.nil (V.keep 208 [0, 18, 19, 20, 21] [] (E0 := [(0, .vl ρ0 1 (List.map encU8 code)), (18, .vl rn 2 (List.map (encVersion rn) y13.1)), (19, .int .i64 y13.2), (20, .int .i64 y14.1), (21, .bool y14.2)]) (H0 := []) rfl (⟨_, _, rfl, rfl, ⟨_, _, rfl, rfl, ⟨_, _, rfl, rfl, ⟨_, _, rfl, rfl, ⟨_, _, rfl, rfl, rfl⟩⟩⟩⟩⟩) (rfl) rfl ?_)
    refine V.seq (V.seq ?_)
    replace hm0 := bindO hm0; rcases hm0 with ⟨y15, hh20, hm0⟩
    refine V.region (VO.cons rfl (V1.mv ?_))
    refine VO.cons rfl (V1.mv ?_)
    refine VO.cons rfl (V1.call rfl rfl rfl cok_45 rfl (ok_spec_VersionOn hh20) rfl lt0 ?_)
    rintro _ _ ⟨rfl, rfl⟩
    refine VO.cons rfl (V1.mv ?_)
    refine VO.cons rfl (V1.extract rfl rfl rfl rfl lt0 ?_)
    refine VO.cons rfl (V1.extract rfl rfl rfl rfl lt0 ?_)
    refine VO.cons rfl (V1.as ?_)
    refine VO.cons rfl (V1.as ?_)
    refine VO.nil (V.keep 208 [0, 20, 21, 22, 23] [] (E0 := [(0, .vl ρ0 1 (List.map encU8 code)), (20, .int .i64 y14.1), (21, .bool y14.2), (22, .int .i64 y15.1), (23, .bool y15.2)]) (H0 := []) rfl (⟨_, _, rfl, rfl, ⟨_, _, rfl, rfl, ⟨_, _, rfl, rfl, ⟨_, _, rfl, rfl, ⟨_, _, rfl, rfl, rfl⟩⟩⟩⟩⟩) (rfl) rfl ?_)
    refine V.seq (V.region (VO.cons rfl (V1.mv ?_)))
    refine VO.cons rfl (V1.mv ?_)
    refine VO.cons rfl (V1.it ?_)
    refine VO.cons rfl (V1.mv ?_)
    apply VO.or (n := 3) rfl rfl rfl rfl rfl rfl lt0 (.none rfl)
    ·
     intro hg8
     refine VO.step (.some rfl rfl rfl) (V1.mv ?_)
     refine VO.step (.some rfl rfl rfl) (V1.mv ?_)
     refine VO.step (.some rfl rfl rfl) (V1.boolNeq rfl rfl und_4 rfl rfl lt0 ?_)
     exact VO.nil ⟨rfl, rfl, rfl, rfl, .inr ⟨rfl, .inr ⟨rfl, .inr ⟨rfl, .inr ⟨rfl, .inl rfl⟩⟩⟩⟩⟩
    refine VO.nil (V.keep 208 [0, 182] [] (E0 := [(0, .vl ρ0 1 (List.map encU8 code)), (182, .bool ((y14.1 != y15.1) || (!(y14.2 == y15.2))))]) (H0 := []) rfl (⟨_, _, rfl, rfl, ⟨_, _, rfl, rfl, rfl⟩⟩) (rfl) rfl ?_)
    refine V.cond rfl (fun hc8 => ?_) (fun hc8 => ?_)
    ·
     replace hm0 := cond_t hc8 hm0
     refine V.seq (V.region (VO.cons rfl (V1.as ?_)))
     refine VO.nil (V.ret ?_)
     obtain rfl := oi hm0
     exact ⟨_, [], ⟨_, _, rfl, rfl, rfl⟩, List.nil_sublist _, rfl, rfl⟩
    ·
     replace hm0 := cond_f hc8 hm0
     refine V.skip ?_
     refine V.seq ?_
     replace hm0 := bindO hm0; rcases hm0 with ⟨y16, hh21, hm0⟩
     refine V.region (VO.cons rfl (V1.mv ?_))
     refine VO.cons rfl (V1.call rfl rfl rfl cok_46 rfl (ok_spec_DrawChangedSeries hh21) rfl lt0 ?_)
     rintro _ _ ⟨b3, rfl, rfl⟩
     refine VO.cons rfl (V1.mv ?_)
     refine VO.cons rfl (V1.extract rfl rfl rfl rfl lt0 ?_)
     refine VO.weakenK (Keeps.freezeG 0 rn [(186, .vl rn 2 (List.map (encVersion rn) y16.1))] [] (f := (encVersion rn)) (l := y16.1) rfl (fun _ => rfl) ⟨⟨_, rfl, .here⟩, trivial⟩ rfl rfl iNil) ?_
     refine VO.cons rfl (V1.extract rfl rfl rfl rfl lt0 ?_)
     refine VO.cons rfl (V1.as ?_)
     refine VO.cons rfl (V1.as ?_)
     refine VO.nil (V.keep 208 [24, 25] [] (E0 := [(24, .vl rn 2 (List.map (encVersion rn) y16.1)), (25, .int .i64 y16.2)]) (H0 := []) rfl (⟨_, _, rfl, rfl, ⟨_, _, rfl, rfl, rfl⟩⟩) (rfl) rfl ?_)
     refine V.seq ?_
     replace hm0 := bindO hm0; rcases hm0 with ⟨y17, hh22, hm0⟩
     refine V.region (VO.cons rfl (V1.mv ?_))
     refine VO.cons rfl (V1.mv ?_)
     refine VO.cons rfl (V1.permK (V1.call rfl rfl rfl cok_42 rfl (ok_impl_ChangedSeries hh22) rfl lt0 ?_))
     rintro _ _ ⟨ob6, hob6, rfl, rfl⟩
     refine ⟨_, ?_, Keeps.optBack (n := 1) (ob := ob6) (xs := List.map encInt y17.1) (H1 := []) (H2 := []) rfl⟩
     refine VO.cons rfl (V1.mv ?_)
     refine VO.cons rfl (V1.extract rfl rfl rfl rfl lt0 ?_)
     refine VO.weakenK (Keeps.optFront (n := 1) (ob := ob6) (xs := List.map encInt y17.1) (H1 := []) rfl) ?_
     refine VO.weakenK (Keeps.optVl 192 [] rn (f := encInt) (l := y17.1) (ob := ob6) (H1 := []) hob6 rfl rfl ⟨rfl, trivial⟩ (fun _ => rfl) rfl iNil) ?_
     refine VO.cons rfl (V1.extract rfl rfl rfl rfl lt0 ?_)
     refine VO.cons rfl (V1.as ?_)
     refine VO.cons rfl (V1.as ?_)
     refine VO.nil (V.keep 208 [24, 25, 26, 27] [] (E0 := [(24, .vl rn 2 (List.map (encVersion rn) y16.1)), (25, .int .i64 y16.2), (26, .vl rn 1 (List.map encInt y17.1)), (27, .bool y17.2)]) (H0 := []) rfl (⟨_, _, rfl, rfl, ⟨_, _, rfl, rfl, ⟨_, _, rfl, rfl, ⟨_, _, rfl, rfl, rfl⟩⟩⟩⟩) (rfl) rfl ?_)
     refine V.seq ?_
     replace hm0 := bindO hm0; rcases hm0 with ⟨y18, hh23, hm0⟩
     refine V.region (VO.cons rfl (V1.mv ?_))
     refine VO.cons rfl (V1.mv ?_)
     refine VO.cons rfl (V1.call rfl rfl rfl cok_47 rfl (ok_spec_ChangedSeries hh23) rfl lt0 ?_)
     rintro _ _ ⟨b4, rfl, rfl⟩
     refine VO.cons rfl (V1.mv ?_)
     refine VO.cons rfl (V1.extract rfl rfl rfl rfl lt0 ?_)
     refine VO.weakenK (Keeps.freezeG 0 rn [(198, .vl rn 1 (List.map encInt y18.1))] [] (f := encInt) (l := y18.1) rfl (fun _ => rfl) ⟨⟨_, rfl, .here⟩, trivial⟩ rfl rfl iNil) ?_
     refine VO.cons rfl (V1.extract rfl rfl rfl rfl lt0 ?_)
     refine VO.cons rfl (V1.as ?_)
     refine VO.cons rfl (V1.as ?_)
     refine VO.nil (V.keep 208 [26, 27, 28, 29] [] (E0 := [(26, .vl rn 1 (List.map encInt y17.1)), (27, .bool y17.2), (28, .vl rn 1 (List.map encInt y18.1)), (29, .bool y18.2)]) (H0 := []) rfl (⟨_, _, rfl, rfl, ⟨_, _, rfl, rfl, ⟨_, _, rfl, rfl, ⟨_, _, rfl, rfl, rfl⟩⟩⟩⟩) (rfl) rfl ?_)
     refine V.seq ?_
     replace hm0 := bindO hm0; rcases hm0 with ⟨y19, hh24, hm0⟩
     refine V.region (VO.cons rfl (V1.mv ?_))
     refine VO.cons rfl (V1.mv ?_)
     refine VO.cons rfl (V1.boolEql rfl rfl und_4 rfl rfl lt0 ?_)
     refine VO.cons rfl (V1.mv ?_)
     apply VO.and (n := 3) rfl rfl rfl rfl rfl rfl lt0 (.none rfl)
     ·
      intro hg9
      refine VO.step (.some rfl rfl rfl) (V1.mv ?_)
      refine VO.step (.some rfl rfl rfl) (V1.mv ?_)
      refine VO.step (.some rfl rfl rfl) (V1.call rfl rfl rfl cok_48 rfl (ok_laws_vInts (cond_t hg9 hh24)) rfl lt0 ?_)
      rintro _ _ ⟨rfl, rfl⟩
      exact VO.nil ⟨rfl, rfl, rfl, rfl, .inr ⟨rfl, .inr ⟨rfl, .inr ⟨rfl, .inr ⟨rfl, .inl rfl⟩⟩⟩⟩⟩
     refine VO.cons rfl (V1.as ?_)
     refine VO.nil (V.ret ?_)
     obtain rfl := oi hm0
     exact ⟨_, [], ⟨_, _, rfl, rfl, rfl⟩, List.nil_sublist _, rfl, rfl⟩
end Go.Proofs.Ytjfpdbhjoofllaa
