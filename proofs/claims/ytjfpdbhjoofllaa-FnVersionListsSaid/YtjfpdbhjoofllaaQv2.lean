/- the functions do what their models say -/
import Derived.Test.YtjfpdbhjoofllaaQv1
set_option linter.unusedSimpArgs false
set_option linter.unusedVariables false
set_option maxRecDepth 100000
set_option maxHeartbeats 4000000
namespace Go.Proofs.Ytjfpdbhjoofllaa
open Go.VS

theorem ok_spec_l1Cur_schedule {ρ0 rn bp : Nat} {c : Cur} {r : List Rule × Cur} (h : M.spec_l1Cur_schedule c = some r) : Does Try.prog 113 [.ref bp 3 0 0] [(bp, ⟨3, [encCur ρ0 c]⟩)] rn (fun x H => ∃ (ob0_ : Nat), x = PV.sref ob0_ 4 0 (List.length r.1) ∧ H = [(ob0_, ⟨4, List.map encRule r.1⟩)] ++ [(bp, ⟨3, [encCur ρ0 r.2]⟩)]) := by
 have hm0 := h; clear h; unfold M.spec_l1Cur_schedule at hm0
 try dsimp only at hm0
 refine Does.intro (N := 48) Try.func113 rfl rfl rfl rfl ?_
 intro w0 S0
 refine V.seq (V.region (VO.cons rfl (V1.as ?_)))
 refine VO.nil (V.seq (V.region (VO.cons rfl (V1.buildSliceT (f := encRule) ([] : List Rule) rfl rfl esz_58 zk_109 rfl rfl rfl rfl rfl rfl rfl lt0 ?_))))
 intro b0
 refine VO.cons rfl (V1.as ?_)
 refine VO.nil (V.seq (V.seq ?_))
 replace hm0 := bindO hm0; rcases hm0 with ⟨y0, hh0, hm0⟩
 refine V.region (VO.cons rfl (V1.mv ?_))
 refine VO.cons rfl (V1.callM 1 (rn + ρ0 + 1) [] [.ref bp 3 0 0, .int .i64 (7 : Int)] (p := (bp, ⟨3, [encCur ρ0 c]⟩)) rfl rfl rfl cok_84 rfl rfl ⟨_, _, rfl, .same _, ⟨_, _, rfl, .same _, rfl⟩⟩ bwNil (ok_spec_l1Cur_pick hh0) rfl (.inl rfl) lt0 ?_)
 rintro _ _ ⟨rfl, rfl⟩
 refine VO.cons rfl (V1.as ?_)
 refine VO.nil (V.keep 48 [0, 3, 4] [0, 1] (E0 := [(0, .ref bp 3 0 0), (3, .sref b0 4 0 (List.length ([] : List Rule))), (4, .int .i64 y0.1)]) (H0 := [(bp, ⟨3, [encCur ρ0 y0.2]⟩), (b0, ⟨4, List.map encRule ([] : List Rule)⟩)]) rfl (⟨_, _, rfl, rfl, ⟨_, _, rfl, rfl, ⟨_, _, rfl, rfl, rfl⟩⟩⟩) (⟨_, _, rfl, rfl, ⟨_, _, rfl, rfl, rfl⟩⟩) rfl ?_)
 replace hm0 := bindO hm0; rcases hm0 with ⟨e0, he1, hm0⟩
 refine V.cutT (D := (List Rule × Cur) × (Nat)) (fun ⟨⟨list, c_⟩, b1⟩ => ⟨48, [(3, .sref b1 4 0 (List.length list)), (0, .ref bp 3 0 0)], [(b1, ⟨4, List.map encRule list⟩), (bp, ⟨3, [encCur ρ0 c_]⟩)]⟩) (fun ⟨⟨list, c_⟩, b1⟩ => ((list, c_) = e0)) ?_ ?_
 ·
  refine V.block ?_
  refine V.keep 48 [3, 4, 0] [1, 0] (E0 := [(3, .sref b0 4 0 (List.length ([] : List Rule))), (4, .int .i64 y0.1), (0, .ref bp 3 0 0)]) (H0 := [(b0, ⟨4, List.map encRule ([] : List Rule)⟩), (bp, ⟨3, [encCur ρ0 y0.2]⟩)]) rfl (⟨_, _, rfl, rfl, ⟨_, _, rfl, rfl, ⟨_, _, rfl, rfl, rfl⟩⟩⟩) (⟨_, _, rfl, rfl, ⟨_, _, rfl, rfl, rfl⟩⟩) rfl ?_
  refine V.loopE (D := Nat × (List Rule × Int × Cur) × (Nat)) (fun ⟨n0, ⟨list0, n_, c_0⟩, b2⟩ => [(3, .sref b2 4 0 (List.length list0)), (4, .int .i64 n_)]) (fun ⟨n0, ⟨list0, n_, c_0⟩, b2⟩ => [(b2, ⟨4, List.map encRule list0⟩), (bp, ⟨3, [encCur ρ0 c_0]⟩)]) (fun ⟨n0, ⟨list0, n_, c_0⟩, b2⟩ => loopO (M.spec_l1Cur_schedule_l0) n0 (list0, n_, c_0) = some e0) (fun ⟨n0, _, _⟩ => n0) (rounds, (([] : List Rule), y0.1, y0.2), b0) rfl he1 ?_
  rintro ⟨n0, ⟨list0, n_, c_0⟩, b2⟩ hP0
  obtain ⟨m0, y1, rfl, hm1, hl1, hr1⟩ := loop_head hP0
  unfold M.spec_l1Cur_schedule_l0 at hm1; dsimp only at hm1
  show V _ _ _ ⟨48, [(3, .sref b2 4 0 (List.length list0)), (4, .int .i64 n_), (0, .ref bp 3 0 0)], [(b2, ⟨4, List.map encRule list0⟩), (bp, ⟨3, [encCur ρ0 c_0]⟩)]⟩
  refine V.seq (V.seq (V.region (VO.cons rfl (V1.mv ?_))))
  refine VO.cons rfl (V1.it ?_)
  refine VO.nil (V.cond rfl (fun hc0 => ?_) (fun hc0 => ?_))
  ·
   replace hm1 := cond_t hc0 hm1
   refine V.skip ?_
   refine V.seq ?_
   replace hm1 := bindO hm1; rcases hm1 with ⟨j0, hm2, hm1⟩
   refine V.cutT (D := (List Rule × Cur) × (Nat)) (fun ⟨⟨list1, c_1⟩, b3⟩ => ⟨48, [(3, .sref b3 4 0 (List.length list1)), (0, .ref bp 3 0 0), (4, .int .i64 n_)], [(b3, ⟨4, List.map encRule list1⟩), (bp, ⟨3, [encCur ρ0 c_1]⟩)]⟩) (fun ⟨⟨list1, c_1⟩, b3⟩ => ((list1, c_1) = j0)) ?_ ?_
   ·
    refine V.block ?_
    refine V.seq ?_
    replace hm2 := bindO hm2; rcases hm2 with ⟨y2, hh1, hm2⟩
    replace hm2 := bindO hm2; rcases hm2 with ⟨y3, hh2, hm2⟩
    refine V.region (VO.cons rfl (V1.mv ?_))
    refine VO.cons rfl (V1.mv ?_)
    refine VO.cons rfl (V1.callM 1 (rn + ρ0 + 1) [] [.ref bp 3 0 0] (p := (bp, ⟨3, [encCur ρ0 c_0]⟩)) rfl rfl rfl cok_130 rfl rfl ⟨_, _, rfl, .same _, rfl⟩ bwNil (ok_spec_l1Cur_rule hh1) rfl (.inl rfl) lt0 ?_)
    rintro _ _ ⟨rfl, rfl⟩
    refine VO.cons rfl (V1.callL (rn + 1) [b2] [.vl (rn + 1) 4 (List.map encRule list0), encRule y2.1] rfl rfl rfl cok_115 rfl ⟨_, _, rfl, Lend.srMap 1 rfl (fun _ => rfl) (.head _), ⟨_, _, rfl, .same _, rfl⟩⟩ (bwCons (k := 1) rfl bwNil) (ok_spec_PutRule hh2) rfl (⟨(by first | omega | (dsimp only; omega)), by rintro _ _ ⟨b4, rfl, rfl⟩; exact ⟨by simp [PV.no, PV.noL, optS_no, noL_iff, nbeq] <;> omega, by intro b ob h; first | exact optH_no (noL_map (fun _ => by simp [PV.no, PV.noL, noL_iff, nbeq]) _) b ob h | (simp only [List.append_assoc, List.mem_append, List.mem_cons, List.mem_singleton, List.not_mem_nil, or_false, Prod.mk.injEq] at h; rcases h with ⟨rfl, rfl⟩ | ⟨rfl, rfl⟩ <;> first | exact noL_map (fun _ => by simp [PV.no, PV.noL, noL_iff, nbeq]) _ | (simp [PV.no, PV.noL, optS_no, noL_iff, nbeq] <;> omega)) | (simp at h; obtain ⟨rfl, rfl⟩ := h; exact noL_map (fun _ => by simp [PV.no, PV.noL, noL_iff, nbeq]) _) | (simp at h; obtain ⟨rfl, rfl⟩ := h; simp [PV.no, PV.noL, optS_no, noL_iff, nbeq] <;> omega)⟩⟩) lt0 ?_)
    rintro _ _ ⟨b4, rfl, rfl⟩
    refine VO.cons rfl (V1.mv ?_)
    refine VO.cons rfl (V1.extract rfl rfl rfl rfl lt0 ?_)
    refine VO.cons rfl (V1.extract rfl rfl rfl rfl lt0 ?_)
    refine VO.cons rfl (V1.as ?_)
    refine VO.cons rfl (V1.as ?_)
    refine VO.nil (V.keep 48 [0, 3, 4, 5, 6] [0, 1, 2] (E0 := [(0, .ref bp 3 0 0), (3, .sref b2 4 0 (List.length list0)), (4, .int .i64 n_), (5, .sref b4 4 0 (List.length y3.1)), (6, .bool y3.2)]) (H0 := [(b4, ⟨4, List.map encRule y3.1⟩), (bp, ⟨3, [encCur ρ0 y2.2]⟩), (b2, ⟨4, List.map encRule list0⟩)]) rfl (⟨_, _, rfl, rfl, ⟨_, _, rfl, rfl, ⟨_, _, rfl, rfl, ⟨_, _, rfl, rfl, ⟨_, _, rfl, rfl, rfl⟩⟩⟩⟩⟩) (⟨_, _, rfl, rfl, ⟨_, _, rfl, rfl, ⟨_, _, rfl, rfl, rfl⟩⟩⟩) rfl ?_)
    refine V.seq (V.region (VO.cons rfl (V1.mv ?_)))
    refine VO.nil (V.cond rfl (fun hc1 => ?_) (fun hc1 => ?_))
    ·
     replace hm2 := cond_t hc1 hm2
     refine V.region (VO.cons rfl (V1.mv ?_))
     refine VO.cons rfl (V1.as ?_)
     refine VO.nil ?_
     exact ⟨((y3.1, y2.2), b4), oi hm2, Keeps.mk (ks := [0, 1]) rfl ⟨rfl, rfl, rfl, trivial⟩ (⟨_, _, rfl, rfl, ⟨_, _, rfl, rfl, rfl⟩⟩) rfl⟩
    ·
     replace hm2 := cond_f hc1 hm2
     refine V.skip ?_
     exact ⟨((list0, y2.2), b2), oi hm2, Keeps.mk (ks := [2, 1]) rfl ⟨rfl, rfl, rfl, trivial⟩ (⟨_, _, rfl, rfl, ⟨_, _, rfl, rfl, rfl⟩⟩) rfl⟩
   ·
    rintro ⟨⟨list1, c_1⟩, b3⟩ rfl
    try dsimp only at hm1
    refine V.region (VO.cons rfl (V1.mv ?_))
    refine VO.cons rfl (V1.it ?_)
    refine VO.cons rfl (V1.as ?_)
    refine VO.nil ?_
    exact ⟨(m0, (list1, (IntKind.i64.wrap (n_ - (1 : Int))), c_1), b3), hl1 _ (oi hm1).symm, Nat.lt_succ_self _, Keeps.mk (ks := [0, 1]) rfl ⟨rfl, rfl, rfl, trivial⟩ (⟨_, _, rfl, rfl, ⟨_, _, rfl, rfl, rfl⟩⟩) rfl⟩
  ·
   replace hm1 := cond_f hc0 hm1
   refine V.exit ?_
   obtain rfl := hr1 _ (oi hm1).symm
   exact ⟨((list0, c_0), b2), rfl, Keeps.mk (ks := [0, 1]) rfl ⟨rfl, rfl, trivial⟩ (⟨_, _, rfl, rfl, ⟨_, _, rfl, rfl, rfl⟩⟩) rfl⟩
 ·
  rintro ⟨⟨list, c_⟩, b1⟩ rfl
  try dsimp only at hm0
  refine V.seq (V.seq ?_)
  replace hm0 := bindO hm0; rcases hm0 with ⟨y4, hh3, hm0⟩
  refine V.region (VO.cons rfl (V1.mv ?_))
  refine VO.cons rfl (V1.callM 1 (rn + ρ0 + 1) [] [.ref bp 3 0 0, .int .i64 (32 : Int)] (p := (bp, ⟨3, [encCur ρ0 c_]⟩)) rfl rfl rfl cok_84 rfl rfl ⟨_, _, rfl, .same _, ⟨_, _, rfl, .same _, rfl⟩⟩ bwNil (ok_spec_l1Cur_pick hh3) rfl (.inl rfl) lt0 ?_)
  rintro _ _ ⟨rfl, rfl⟩
  refine VO.nil ?_
  replace hm0 := bindO hm0; rcases hm0 with ⟨j1, hm1, hm0⟩
  refine V.cutT (D := (List Rule × Cur) × (Nat)) (fun ⟨⟨list2, c_2⟩, b5⟩ => ⟨48, [(3, .sref b5 4 0 (List.length list2))], [(b5, ⟨4, List.map encRule list2⟩), (bp, ⟨3, [encCur ρ0 c_2]⟩)]⟩) (fun ⟨⟨list2, c_2⟩, b5⟩ => ((list2, c_2) = j1)) ?_ ?_
  ·
   refine V.block ?_
   refine V.seq (V.region (VO.cons rfl (V1.it ?_)))
   refine VO.cons rfl (V1.as ?_)
   refine VO.nil (V.cond rfl (fun hc2 => ?_) (fun hc2 => ?_))
   ·
    replace hm1 := cond_t hc2 hm1
    replace hm1 := bindO hm1; rcases hm1 with ⟨y5, hh4, hm1⟩
    replace hm1 := asrt_some hm1; rcases hm1 with ⟨hh5, hm1⟩
    refine V.region (VO.cons rfl (V1.mv ?_))
    refine VO.cons rfl (V1.mv ?_)
    refine VO.cons rfl (V1.callM 0 (rn + ρ0 + 1) [] [.ref bp 3 0 0] (p := (bp, ⟨3, [encCur ρ0 y4.2]⟩)) rfl rfl rfl cok_130 rfl rfl ⟨_, _, rfl, .same _, rfl⟩ bwNil (ok_spec_l1Cur_rule hh4) rfl (.inl rfl) lt0 ?_)
    rintro _ _ ⟨rfl, rfl⟩
    refine VO.cons rfl (V1.buildSliceT (f := encRule) ([y5.1] : List Rule) rfl rfl esz_58 zk_109 rfl rfl rfl rfl rfl rfl rfl lt0 ?_)
    intro b6
    refine VO.cons rfl (V1.appendMap (k := 2) (f := encRule) (l := list) (m := ([y5.1] : List Rule)) rfl rfl rfl rfl rfl esz_58 eby_58 zk_109 rfl rfl rfl (SrcOf.srMap (k := 0) rfl isl_58) hh5 lt0 ?_)
    intro b7
    refine VO.cons rfl (V1.as ?_)
    refine VO.nil ?_
    exact ⟨(((list ++ ([y5.1] : List Rule)), y5.2), b7), oi hm1, Keeps.mk (ks := [0, 2]) rfl ⟨rfl, trivial⟩ (⟨_, _, rfl, rfl, ⟨_, _, rfl, rfl, rfl⟩⟩) rfl⟩
   ·
    replace hm1 := cond_f hc2 hm1
    refine V.seq (V.region (VO.cons rfl (V1.it ?_)))
    refine VO.cons rfl (V1.as ?_)
    refine VO.nil (V.keep 48 [0, 3, 32] [0, 1] (E0 := [(0, .ref bp 3 0 0), (3, .sref b1 4 0 (List.length list)), (32, .bool (y4.1 == (1 : Int)))]) (H0 := [(bp, ⟨3, [encCur ρ0 y4.2]⟩), (b1, ⟨4, List.map encRule list⟩)]) rfl (⟨_, _, rfl, rfl, ⟨_, _, rfl, rfl, ⟨_, _, rfl, rfl, rfl⟩⟩⟩) (⟨_, _, rfl, rfl, ⟨_, _, rfl, rfl, rfl⟩⟩) rfl ?_)
    refine V.cond rfl (fun hc3 => ?_) (fun hc3 => ?_)
    ·
     replace hm1 := cond_t hc3 hm1
     refine V.seq (V.region (VO.cons rfl (V1.buildSliceT (f := encRule) ([] : List Rule) rfl rfl esz_58 zk_109 rfl rfl rfl rfl rfl rfl rfl lt0 ?_)))
     intro b8
     refine VO.cons rfl (V1.as ?_)
     refine VO.nil ?_
     replace hm1 := bindO hm1; rcases hm1 with ⟨e1, he2, hm1⟩
     refine V.cutT (D := (List Rule × Cur) × (Nat)) (fun ⟨⟨list3, c_3⟩, b9⟩ => ⟨48, [(3, .sref b9 4 0 (List.length list3))], [(b9, ⟨4, List.map encRule list3⟩), (bp, ⟨3, [encCur ρ0 c_3]⟩)]⟩) (fun ⟨⟨list3, c_3⟩, b9⟩ => ((list3, c_3) = e1)) ?_ ?_
     ·
      refine V.block ?_
      refine V.keep 48 [3, 0] [0, 1] (E0 := [(3, .sref b8 4 0 (List.length ([] : List Rule))), (0, .ref bp 3 0 0)]) (H0 := [(b8, ⟨4, List.map encRule ([] : List Rule)⟩), (bp, ⟨3, [encCur ρ0 y4.2]⟩)]) rfl (⟨_, _, rfl, rfl, ⟨_, _, rfl, rfl, rfl⟩⟩) (⟨_, _, rfl, rfl, ⟨_, _, rfl, rfl, rfl⟩⟩) rfl ?_
      refine V.loopE (D := Nat × (List Rule × Cur) × (Nat)) (fun ⟨n1, ⟨list4, c_4⟩, b10⟩ => [(3, .sref b10 4 0 (List.length list4))]) (fun ⟨n1, ⟨list4, c_4⟩, b10⟩ => [(b10, ⟨4, List.map encRule list4⟩), (bp, ⟨3, [encCur ρ0 c_4]⟩)]) (fun ⟨n1, ⟨list4, c_4⟩, b10⟩ => loopO (M.spec_l1Cur_schedule_l1) n1 (list4, c_4) = some e1) (fun ⟨n1, _, _⟩ => n1) (rounds, (([] : List Rule), y4.2), b8) rfl he2 ?_
      rintro ⟨n1, ⟨list4, c_4⟩, b10⟩ hP1
      obtain ⟨m1, y6, rfl, hm2, hl2, hr2⟩ := loop_head hP1
      unfold M.spec_l1Cur_schedule_l1 at hm2; dsimp only at hm2
      show V _ _ _ ⟨48, [(3, .sref b10 4 0 (List.length list4)), (0, .ref bp 3 0 0)], [(b10, ⟨4, List.map encRule list4⟩), (bp, ⟨3, [encCur ρ0 c_4]⟩)]⟩
      refine V.seq (V.seq ?_)
      replace hm2 := bindO hm2; rcases hm2 with ⟨y7, hh6, hm2⟩
      refine V.region (VO.cons rfl (V1.mv ?_))
      refine VO.cons rfl (V1.lenSref rfl rfl rfl rfl rfl rfl isl_58 lt0 ?_)
      refine VO.cons rfl (V1.mv ?_)
      refine VO.cons rfl (V1.callM 1 (rn + ρ0 + 1) [] [.ref bp 3 0 0, .int .i64 (2 : Int)] (p := (bp, ⟨3, [encCur ρ0 c_4]⟩)) rfl rfl rfl cok_84 rfl rfl ⟨_, _, rfl, .same _, ⟨_, _, rfl, .same _, rfl⟩⟩ bwNil (ok_spec_l1Cur_pick hh6) rfl (.inl rfl) lt0 ?_)
      rintro _ _ ⟨rfl, rfl⟩
      refine VO.cons rfl (V1.it ?_)
      refine VO.cons rfl (V1.it ?_)
      refine VO.nil (V.keep 48 [0, 3, 40] [0, 1] (E0 := [(0, .ref bp 3 0 0), (3, .sref b10 4 0 (List.length list4)), (40, .bool (decide ((list4.length : Int) < (IntKind.i64.wrap ((8 : Int) + y7.1)))))]) (H0 := [(bp, ⟨3, [encCur ρ0 y7.2]⟩), (b10, ⟨4, List.map encRule list4⟩)]) rfl (⟨_, _, rfl, rfl, ⟨_, _, rfl, rfl, ⟨_, _, rfl, rfl, rfl⟩⟩⟩) (⟨_, _, rfl, rfl, ⟨_, _, rfl, rfl, rfl⟩⟩) rfl ?_)
      refine V.cond rfl (fun hc4 => ?_) (fun hc4 => ?_)
      ·
       replace hm2 := cond_t hc4 hm2
       refine V.skip ?_
       refine V.block ?_
       replace hm2 := asrt_some hm2; rcases hm2 with ⟨hh7, hm2⟩
       refine V.region (VO.cons rfl (V1.mv ?_))
       refine VO.cons rfl (V1.mv ?_)
       refine VO.cons rfl (V1.lenSref rfl rfl rfl rfl rfl rfl isl_58 lt0 ?_)
       refine VO.cons rfl (V1.build rfl rfl zk_109 pl_109 rfl rfl lt0 ?_)
       refine VO.cons rfl (V1.buildSliceT (f := encRule) ([(⟨(1 : Int), (list4.length : Int), (5 : Int), (3 : Int)⟩ : Rule)] : List Rule) rfl rfl esz_58 zk_109 rfl rfl rfl rfl rfl rfl rfl lt0 ?_)
       intro b11
       refine VO.cons rfl (V1.appendMap (k := 2) (f := encRule) (l := list4) (m := ([(⟨(1 : Int), (list4.length : Int), (5 : Int), (3 : Int)⟩ : Rule)] : List Rule)) rfl rfl rfl rfl rfl esz_58 eby_58 zk_109 rfl rfl rfl (SrcOf.srMap (k := 0) rfl isl_58) hh7 lt0 ?_)
       intro b12
       refine VO.cons rfl (V1.as ?_)
       refine VO.nil ?_
       exact ⟨(m1, ((list4 ++ ([(⟨(1 : Int), (list4.length : Int), (5 : Int), (3 : Int)⟩ : Rule)] : List Rule)), y7.2), b12), hl2 _ (oi hm2).symm, Nat.lt_succ_self _, Keeps.mk (ks := [0, 2]) rfl ⟨rfl, rfl, trivial⟩ (⟨_, _, rfl, rfl, ⟨_, _, rfl, rfl, rfl⟩⟩) rfl⟩
      ·
       replace hm2 := cond_f hc4 hm2
       refine V.exit ?_
       obtain rfl := hr2 _ (oi hm2).symm
       exact ⟨((list4, y7.2), b10), rfl, Keeps.mk (ks := [1, 0]) rfl ⟨rfl, trivial⟩ (⟨_, _, rfl, rfl, ⟨_, _, rfl, rfl, rfl⟩⟩) rfl⟩
     ·
      rintro ⟨⟨list3, c_3⟩, b9⟩ rfl
      try dsimp only at hm1
      exact ⟨((list3, c_3), b9), oi hm1, Keeps.mk (ks := [0, 1]) rfl ⟨rfl, trivial⟩ (⟨_, _, rfl, rfl, ⟨_, _, rfl, rfl, rfl⟩⟩) rfl⟩
    ·
     replace hm1 := cond_f hc3 hm1
     refine V.skip ?_
     exact ⟨((list, y4.2), b1), oi hm1, Keeps.mk (ks := [1, 0]) rfl ⟨rfl, trivial⟩ (⟨_, _, rfl, rfl, ⟨_, _, rfl, rfl, rfl⟩⟩) rfl⟩
  ·
   rintro ⟨⟨list2, c_2⟩, b5⟩ rfl
   try dsimp only at hm0
   refine V.seq (V.region (VO.cons rfl (V1.mv ?_)))
   refine VO.cons rfl (V1.as ?_)
   refine VO.nil (V.keep 48 [2] [0, 1] (E0 := [(2, .sref b5 4 0 (List.length list2))]) (H0 := [(b5, ⟨4, List.map encRule list2⟩), (bp, ⟨3, [encCur ρ0 c_2]⟩)]) rfl (⟨_, _, rfl, rfl, rfl⟩) (⟨_, _, rfl, rfl, ⟨_, _, rfl, rfl, rfl⟩⟩) rfl ?_)
   refine V.ret ?_
   obtain rfl := oi hm0
   exact ⟨_, _, ⟨_, _, rfl, rfl, rfl⟩, List.Sublist.refl _, b5, rfl, rfl⟩

theorem ok_spec_l1Cur_suited {ρ0 ρ1 rn bp : Nat} {c : Cur} {r_ : Record} {r : List Rule × Cur} (h : M.spec_l1Cur_suited c r_ = some r) : Does Try.prog 82 [.ref bp 3 0 0, encRecord ρ1 r_] [(bp, ⟨3, [encCur ρ0 c]⟩)] rn (fun x H => ∃ (ob0_ : Nat), x = PV.sref ob0_ 4 0 (List.length r.1) ∧ H = [(ob0_, ⟨4, List.map encRule r.1⟩)] ++ [(bp, ⟨3, [encCur ρ0 r.2]⟩)]) := by
 have hm0 := h; clear h; unfold M.spec_l1Cur_suited at hm0
 try dsimp only at hm0
 refine Does.intro (N := 62) Try.func82 rfl rfl rfl rfl ?_
 intro w0 S0
 refine V.seq (V.region (VO.cons rfl (V1.boxN (n := 4) rfl rfl rfl rfl rfl lt0 ?_)))
 intro b0
 refine VO.cons rfl (V1.as ?_)
 refine VO.nil (V.seq ?_)
 replace hm0 := bindO hm0; rcases hm0 with ⟨y0, hh0, hm0⟩
 refine V.region (VO.cons rfl (V1.mv ?_))
 refine VO.cons rfl (V1.callM 1 (rn + ρ0 + 1) [] [.ref bp 3 0 0] (p := (bp, ⟨3, [encCur ρ0 c]⟩)) rfl rfl rfl cok_113 rfl rfl ⟨_, _, rfl, .same _, rfl⟩ bwNil (ok_spec_l1Cur_schedule hh0) rfl (.inl rfl) lt0 ?_)
 rintro _ _ ⟨b1, rfl, rfl⟩
 refine VO.cons rfl (V1.as ?_)
 refine VO.nil (V.keep 62 [0, 3, 5] [0, 1, 2] (E0 := [(0, .ref bp 3 0 0), (3, .ref b0 4 0 0), (5, .sref b1 4 0 (List.length y0.1))]) (H0 := [(b1, ⟨4, List.map encRule y0.1⟩), (bp, ⟨3, [encCur ρ0 y0.2]⟩), (b0, ⟨4, [encRecord ρ1 r_]⟩)]) rfl (⟨_, _, rfl, rfl, ⟨_, _, rfl, rfl, ⟨_, _, rfl, rfl, rfl⟩⟩⟩) (⟨_, _, rfl, rfl, ⟨_, _, rfl, rfl, ⟨_, _, rfl, rfl, rfl⟩⟩⟩) rfl ?_)
 refine V.seq (V.seq ?_)
 replace hm0 := bindO hm0; rcases hm0 with ⟨y1, hh1, hm0⟩
 refine V.region (VO.cons rfl (V1.mv ?_))
 refine VO.cons rfl (V1.callM 1 (rn + ρ0 + 1) [] [.ref bp 3 0 0, .int .i64 (4 : Int)] (p := (bp, ⟨3, [encCur ρ0 y0.2]⟩)) rfl rfl rfl cok_84 rfl rfl ⟨_, _, rfl, .same _, ⟨_, _, rfl, .same _, rfl⟩⟩ bwNil (ok_spec_l1Cur_pick hh1) rfl (.inl rfl) lt0 ?_)
 rintro _ _ ⟨rfl, rfl⟩
 refine VO.cons rfl (V1.as ?_)
 refine VO.nil ?_
 replace hm0 := bindO hm0; rcases hm0 with ⟨e0, he1, hm0⟩
 refine V.cutT (D := (List Rule × Cur) × (Nat)) (fun ⟨⟨list, c_⟩, b2⟩ => ⟨62, [(5, .sref b2 4 0 (List.length list))], [(b2, ⟨4, List.map encRule list⟩), (bp, ⟨3, [encCur ρ0 c_]⟩)]⟩) (fun ⟨⟨list, c_⟩, b2⟩ => ((list, c_) = e0)) ?_ ?_
 ·
  refine V.block ?_
  refine V.keep 62 [5, 6, 0, 3] [1, 0, 2] (E0 := [(5, .sref b1 4 0 (List.length y0.1)), (6, .int .i64 y1.1), (0, .ref bp 3 0 0), (3, .ref b0 4 0 0)]) (H0 := [(b1, ⟨4, List.map encRule y0.1⟩), (bp, ⟨3, [encCur ρ0 y1.2]⟩), (b0, ⟨4, [encRecord ρ1 r_]⟩)]) rfl (⟨_, _, rfl, rfl, ⟨_, _, rfl, rfl, ⟨_, _, rfl, rfl, ⟨_, _, rfl, rfl, rfl⟩⟩⟩⟩) (⟨_, _, rfl, rfl, ⟨_, _, rfl, rfl, ⟨_, _, rfl, rfl, rfl⟩⟩⟩) rfl ?_
  refine V.loopE (D := Nat × (List Rule × Int × Cur) × (Nat)) (fun ⟨n0, ⟨list0, n_, c_0⟩, b3⟩ => [(5, .sref b3 4 0 (List.length list0)), (6, .int .i64 n_)]) (fun ⟨n0, ⟨list0, n_, c_0⟩, b3⟩ => [(b3, ⟨4, List.map encRule list0⟩), (bp, ⟨3, [encCur ρ0 c_0]⟩)]) (fun ⟨n0, ⟨list0, n_, c_0⟩, b3⟩ => loopO (M.spec_l1Cur_suited_l0 r_) n0 (list0, n_, c_0) = some e0) (fun ⟨n0, _, _⟩ => n0) (rounds, (y0.1, y1.1, y1.2), b1) rfl he1 ?_
  rintro ⟨n0, ⟨list0, n_, c_0⟩, b3⟩ hP0
  obtain ⟨m0, y2, rfl, hm1, hl1, hr1⟩ := loop_head hP0
  unfold M.spec_l1Cur_suited_l0 at hm1; dsimp only at hm1
  show V _ _ _ ⟨62, [(5, .sref b3 4 0 (List.length list0)), (6, .int .i64 n_), (0, .ref bp 3 0 0), (3, .ref b0 4 0 0)], [(b3, ⟨4, List.map encRule list0⟩), (bp, ⟨3, [encCur ρ0 c_0]⟩), (b0, ⟨4, [encRecord ρ1 r_]⟩)]⟩
  refine V.seq (V.seq ?_)
  replace hm1 := bindO hm1; rcases hm1 with ⟨y3, hh2, hm1⟩
  refine V.region (VO.cons rfl (V1.mv ?_))
  refine VO.cons rfl (V1.it ?_)
  refine VO.cons rfl (V1.mv ?_)
  apply VO.and (n := 2) rfl rfl rfl rfl rfl rfl lt0 (.none rfl)
  ·
   intro hg0
   refine VO.step (.some rfl rfl rfl) (V1.mv ?_)
   refine VO.step (.some rfl rfl rfl) (V1.callL (rn + 1) [b3] [.vl (rn + 1) 4 (List.map encRule list0)] rfl rfl rfl cok_114 rfl ⟨_, _, rfl, Lend.srMap 0 rfl (fun _ => rfl) (.head _), rfl⟩ (bwCons (k := 0) rfl bwNil) (ok_spec_l4Good (cond_t hg0 hh2)) rfl (⟨(by first | omega | (dsimp only; omega)), by rintro _ _ ⟨rfl, rfl⟩; exact ⟨rfl, by simp⟩⟩) lt0 ?_)
   rintro _ _ ⟨rfl, rfl⟩
   exact VO.nil ⟨rfl, rfl, rfl, rfl, .inr ⟨rfl, .inr ⟨rfl, .inr ⟨rfl, .inl rfl⟩⟩⟩⟩
  refine VO.nil (V.cond rfl (fun hc0 => ?_) (fun hc0 => ?_))
  ·
   replace hm1 := cond_t hc0 hm1
   refine V.skip ?_
   refine V.keep 62 [0, 3, 5, 6] [0, 1, 2] (E0 := [(0, .ref bp 3 0 0), (3, .ref b0 4 0 0), (5, .sref b3 4 0 (List.length list0)), (6, .int .i64 n_)]) (H0 := [(b3, ⟨4, List.map encRule list0⟩), (bp, ⟨3, [encCur ρ0 c_0]⟩), (b0, ⟨4, [encRecord ρ1 r_]⟩)]) rfl (⟨_, _, rfl, rfl, ⟨_, _, rfl, rfl, ⟨_, _, rfl, rfl, ⟨_, _, rfl, rfl, rfl⟩⟩⟩⟩) (⟨_, _, rfl, rfl, ⟨_, _, rfl, rfl, ⟨_, _, rfl, rfl, rfl⟩⟩⟩) rfl ?_
   refine V.seq ?_
   replace hm1 := bindO hm1; rcases hm1 with ⟨j0, hm2, hm1⟩
   refine V.cutT (D := (List Rule × Cur) × (Nat)) (fun ⟨⟨list1, c_1⟩, b4⟩ => ⟨62, [(5, .sref b4 4 0 (List.length list1)), (0, .ref bp 3 0 0), (3, .ref b0 4 0 0), (6, .int .i64 n_)], [(b4, ⟨4, List.map encRule list1⟩), (bp, ⟨3, [encCur ρ0 c_1]⟩), (b0, ⟨4, [encRecord ρ1 r_]⟩)]⟩) (fun ⟨⟨list1, c_1⟩, b4⟩ => ((list1, c_1) = j0)) ?_ ?_
   ·
    refine V.block ?_
    refine V.seq ?_
    replace hm2 := bindO hm2; rcases hm2 with ⟨y4, hh3, hm2⟩
    replace hm2 := bindO hm2; rcases hm2 with ⟨y5, hh4, hm2⟩
    replace hm2 := bindO hm2; rcases hm2 with ⟨y6, hh5, hm2⟩
    replace hm2 := bindO hm2; rcases hm2 with ⟨j1, hm3, hm2⟩
    refine V.cutT (D := (Cur) × (Nat)) (fun ⟨c_2, b8⟩ => ⟨62, [(7, .ref b8 4 0 0), (0, .ref bp 3 0 0), (3, .ref b0 4 0 0), (5, .sref b3 4 0 (List.length list0)), (6, .int .i64 n_)], [(b8, ⟨4, [.agg [.int .i64 r_.Series, .int .i64 y4.1, .int .i64 y5.1, .int .i64 (IntKind.i64.wrap ((1 : Int) + y6.1))]]⟩), (bp, ⟨3, [encCur ρ0 c_2]⟩), (b3, ⟨4, List.map encRule list0⟩), (b0, ⟨4, [encRecord ρ1 r_]⟩)]⟩) (fun ⟨c_2, b8⟩ => (c_2 = j1)) ?_ ?_
    ·
     refine V.regionS [(b0, ⟨4, [encRecord ρ1 r_]⟩)] 62 13 [⟨[(3, none)], false⟩, ⟨[(22, some 0)], false⟩, ⟨[(0, none)], false⟩, ⟨[], true⟩, ⟨[(24, some 2), (25, some 3)], true⟩, ⟨[(0, none)], false⟩, ⟨[], true⟩, ⟨[(27, some 5), (28, some 6)], true⟩, ⟨[(0, none)], false⟩, ⟨[(30, some 8)], true⟩, ⟨[(31, some 9)], false⟩, ⟨[(23, some 1), (26, some 4), (29, some 7), (32, some 10)], false⟩, ⟨[], true⟩] [(0, none), (3, none), (5, none), (6, none), (7, some 12), (33, some 11)] 6 (⟨_, rfl, ⟨_, rfl, ⟨_, rfl, ⟨_, rfl, ⟨_, rfl, ⟨_, rfl, ⟨_, rfl, ⟨_, rfl, ⟨_, rfl, ⟨_, rfl, ⟨_, rfl, ⟨_, rfl, ⟨_, rfl, ⟨rfl, rfl⟩⟩⟩⟩⟩⟩⟩⟩⟩⟩⟩⟩⟩⟩) mixed_orders rfl (by decide +kernel) ?_
     refine WalkP.step (p := ?pv2343) 0 rfl rfl rfl rfl rfl (⟨_, _, rfl, rfl, rfl⟩) ?hv2343 ?rest2343
     case hv2343 =>
      intro E1 H1 hI1
      refine (V1.fieldRef rfl rfl fo_44_1 rfl lt0 ?_)
      exact rfl
     refine WalkP.step (p := ?pv2344) 1 rfl rfl rfl rfl rfl (⟨_, _, rfl, rfl, rfl⟩) ?hv2344 ?rest2344
     case hv2344 =>
      intro E1 H1 hI1
      obtain ⟨k2345_, hk2345_⟩ := inGet 0 rfl hI1
      refine (V1.loadRef (k := k2345_) rfl rfl tyk_3 rfl hk2345_ rfl rfl rfl lt0 ?_)
      exact rfl
     refine WalkP.step (p := ?pv2346) 2 rfl rfl rfl rfl rfl (⟨_, _, rfl, rfl, rfl⟩) ?hv2346 ?rest2346
     case hv2346 =>
      intro E1 H1 hI1
      refine (V1.mv ?_)
      exact rfl
     refine WalkP.step (p := ?pv2347) 5 rfl rfl rfl rfl rfl (⟨_, _, rfl, rfl, rfl⟩) ?hv2347 ?rest2347
     case hv2347 =>
      intro E1 H1 hI1
      refine (V1.mv ?_)
      exact rfl
     refine WalkP.step (p := ?pv2348) 8 rfl rfl rfl rfl rfl (⟨_, _, rfl, rfl, rfl⟩) ?hv2348 ?rest2348
     case hv2348 =>
      intro E1 H1 hI1
      refine (V1.mv ?_)
      exact rfl
     refine WalkP.nil (NodeS.branch [3, 6, 12] (inCons 2 rfl inNil) rfl rfl rfl ⟨?_, ?_, ?_, trivial⟩)
     ·
      refine ⟨_, _, _, _, rfl, rfl, rfl, (rfl), fun E1 => ?_⟩
      refine (V1.buildSliceT (f := encInt) ([(0 : Int), (0 : Int), (1 : Int), (2 : Int), (3 : Int)] : List Int) rfl rfl esz_69 zk_3 rfl rfl rfl rfl rfl rfl rfl lt0 ?_)
      intro b9
      refine ⟨_, _, rfl, ?_⟩
      refine WalkP.nil (NodeS.branch [4, 6, 12] (inCons 3 rfl inNil) rfl rfl rfl ⟨?_, ?_, ?_, trivial⟩)
      ·
       refine ⟨_, _, _, _, rfl, rfl, rfl, (⟨_, _, rfl, rfl, ⟨_, _, rfl, rfl, rfl⟩⟩), fun E1 => ?_⟩
       refine (V1.callM 2 (rn + ρ0 + 1) [b9] [.ref bp 3 0 0, .vl (rn + ρ0 + 1) 1 (List.map encInt ([(0 : Int), (0 : Int), (1 : Int), (2 : Int), (3 : Int)] : List Int))] (p := (bp, ⟨3, [encCur ρ0 c_0]⟩)) rfl rfl rfl cok_50 rfl rfl ⟨_, _, rfl, .same _, ⟨_, _, rfl, Lend.srMap 0 rfl (fun _ => rfl) (.head _), rfl⟩⟩ (bwCons (k := 0) rfl bwNil) (ok_spec_l1Cur_among hh3) rfl (.inr ⟨(by first | omega | (dsimp only; omega)), by rintro _ _ ⟨rfl, rfl⟩; exact ⟨by simp [PV.no, PV.noL, optS_no, noL_iff, nbeq] <;> omega, by intro b ob h; first | exact optH_no (noL_map (fun _ => by simp [PV.no, PV.noL, noL_iff, nbeq]) _) b ob h | (simp only [List.append_assoc, List.mem_append, List.mem_cons, List.mem_singleton, List.not_mem_nil, or_false, Prod.mk.injEq] at h; rcases h with ⟨rfl, rfl⟩ | ⟨rfl, rfl⟩ <;> first | exact noL_map (fun _ => by simp [PV.no, PV.noL, noL_iff, nbeq]) _ | (simp [PV.no, PV.noL, optS_no, noL_iff, nbeq] <;> omega)) | (simp at h; obtain ⟨rfl, rfl⟩ := h; exact noL_map (fun _ => by simp [PV.no, PV.noL, noL_iff, nbeq]) _) | (simp at h; obtain ⟨rfl, rfl⟩ := h; simp [PV.no, PV.noL, optS_no, noL_iff, nbeq] <;> omega)⟩⟩) lt0 ?_)
       rintro _ _ ⟨rfl, rfl⟩
       refine ⟨_, _, rfl, ?_⟩
       refine WalkP.nil (NodeS.branch [6, 12] (inCons 3 rfl inNil) rfl rfl rfl ⟨?_, ?_, trivial⟩)
       ·
        refine ⟨_, _, _, _, rfl, rfl, rfl, (rfl), fun E1 => ?_⟩
        refine (V1.buildSliceT (f := encInt) ([(0 : Int), (30 : Int), (365 : Int), (1000 : Int)] : List Int) rfl rfl esz_69 zk_3 rfl rfl rfl rfl rfl rfl rfl lt0 ?_)
        intro b10
        refine ⟨_, _, rfl, ?_⟩
        refine WalkP.nil (NodeS.branch [7, 12] (inCons 4 rfl inNil) rfl rfl rfl ⟨?_, ?_, trivial⟩)
        ·
         refine ⟨_, _, _, _, rfl, rfl, rfl, (⟨_, _, rfl, rfl, ⟨_, _, rfl, rfl, rfl⟩⟩), fun E1 => ?_⟩
         refine (V1.callM 1 (rn + ρ0 + 1) [b10] [.ref bp 3 0 0, .vl (rn + ρ0 + 1) 1 (List.map encInt ([(0 : Int), (30 : Int), (365 : Int), (1000 : Int)] : List Int))] (p := (bp, ⟨3, [encCur ρ0 y4.2]⟩)) rfl rfl rfl cok_50 rfl rfl ⟨_, _, rfl, .same _, ⟨_, _, rfl, Lend.srMap 0 rfl (fun _ => rfl) (.head _), rfl⟩⟩ (bwCons (k := 0) rfl bwNil) (ok_spec_l1Cur_among hh4) rfl (.inr ⟨(by first | omega | (dsimp only; omega)), by rintro _ _ ⟨rfl, rfl⟩; exact ⟨by simp [PV.no, PV.noL, optS_no, noL_iff, nbeq] <;> omega, by intro b ob h; first | exact optH_no (noL_map (fun _ => by simp [PV.no, PV.noL, noL_iff, nbeq]) _) b ob h | (simp only [List.append_assoc, List.mem_append, List.mem_cons, List.mem_singleton, List.not_mem_nil, or_false, Prod.mk.injEq] at h; rcases h with ⟨rfl, rfl⟩ | ⟨rfl, rfl⟩ <;> first | exact noL_map (fun _ => by simp [PV.no, PV.noL, noL_iff, nbeq]) _ | (simp [PV.no, PV.noL, optS_no, noL_iff, nbeq] <;> omega)) | (simp at h; obtain ⟨rfl, rfl⟩ := h; exact noL_map (fun _ => by simp [PV.no, PV.noL, noL_iff, nbeq]) _) | (simp at h; obtain ⟨rfl, rfl⟩ := h; simp [PV.no, PV.noL, optS_no, noL_iff, nbeq] <;> omega)⟩⟩) lt0 ?_)
         rintro _ _ ⟨rfl, rfl⟩
         refine ⟨_, _, rfl, ?_⟩
         refine WalkP.nil (NodeS.branch [9, 12] (inCons 4 rfl inNil) rfl rfl rfl ⟨?_, ?_, trivial⟩)
         ·
          refine ⟨_, _, _, _, rfl, rfl, rfl, (⟨_, _, rfl, rfl, rfl⟩), fun E1 => ?_⟩
          refine (V1.callM 0 (rn + ρ0 + 1) [] [.ref bp 3 0 0, .int .i64 (3 : Int)] (p := (bp, ⟨3, [encCur ρ0 y5.2]⟩)) rfl rfl rfl cok_84 rfl rfl ⟨_, _, rfl, .same _, ⟨_, _, rfl, .same _, rfl⟩⟩ bwNil (ok_spec_l1Cur_pick hh5) rfl (.inl rfl) lt0 ?_)
          rintro _ _ ⟨rfl, rfl⟩
          refine ⟨_, _, rfl, ?_⟩
          refine WalkP.step (p := ?pv2349) 10 rfl rfl rfl rfl rfl (⟨_, _, rfl, rfl, rfl⟩) ?hv2349 ?rest2349
          case hv2349 =>
           intro E1 H1 hI1
           refine (V1.it ?_)
           exact rfl
          refine WalkP.step (p := ?pv2350) 11 rfl rfl rfl rfl rfl (⟨_, _, rfl, rfl, ⟨_, _, rfl, rfl, ⟨_, _, rfl, rfl, ⟨_, _, rfl, rfl, rfl⟩⟩⟩⟩) ?hv2350 ?rest2350
          case hv2350 =>
           intro E1 H1 hI1
           refine (V1.build rfl rfl zk_109 pl_109 rfl rfl lt0 ?_)
           exact rfl
          refine WalkP.nil (NodeS.branch [12] (inCons 4 rfl inNil) rfl rfl rfl ⟨?_, trivial⟩)
          ·
           refine ⟨_, _, _, _, rfl, rfl, rfl, (rfl), fun E1 => ?_⟩
           refine (V1.alloc rfl rfl zk_109 lt0 ?_)
           intro b11
           refine ⟨_, _, rfl, ?_⟩
           refine WalkP.nil (NodeS.fin (inCons 5 rfl inNil) rfl rfl rfl (⟨_, _, rfl, rfl, ⟨_, _, rfl, rfl, ⟨_, _, rfl, rfl, ⟨_, _, rfl, rfl, ⟨_, _, rfl, rfl, ⟨_, _, rfl, rfl, rfl⟩⟩⟩⟩⟩⟩) ?_)
           refine VO.cons rfl (V1.storeRefAll (k := 0) rfl rfl tyk_109 rfl rfl rfl rfl rfl rfl ?_)
           refine VO.nil ?_
           exact ⟨(y6.2, b11), oi hm3, Keeps.mk (ks := [0, 1, 4, 5]) rfl ⟨rfl, rfl, rfl, rfl, rfl, trivial⟩ (⟨_, _, rfl, rfl, ⟨_, _, rfl, rfl, ⟨_, _, rfl, rfl, ⟨_, _, rfl, rfl, rfl⟩⟩⟩⟩) rfl⟩
         ·
          refine ⟨_, _, _, _, rfl, rfl, rfl, (rfl), fun E1 => ?_⟩
          refine (V1.alloc rfl rfl zk_109 lt0 ?_)
          intro b12
          refine ⟨_, _, rfl, ?_⟩
          refine WalkP.nil (NodeS.branch [9] (inCons 5 rfl inNil) rfl rfl rfl ⟨?_, trivial⟩)
          ·
           refine ⟨_, _, _, _, rfl, rfl, rfl, (⟨_, _, rfl, rfl, rfl⟩), fun E1 => ?_⟩
           refine (V1.callM 1 (rn + ρ0 + 1) [] [.ref bp 3 0 0, .int .i64 (3 : Int)] (p := (bp, ⟨3, [encCur ρ0 y5.2]⟩)) rfl rfl rfl cok_84 rfl rfl ⟨_, _, rfl, .same _, ⟨_, _, rfl, .same _, rfl⟩⟩ bwNil (ok_spec_l1Cur_pick hh5) rfl (.inl rfl) lt0 ?_)
           rintro _ _ ⟨rfl, rfl⟩
           refine ⟨_, _, rfl, ?_⟩
           refine WalkP.step (p := ?pv2351) 10 rfl rfl rfl rfl rfl (⟨_, _, rfl, rfl, rfl⟩) ?hv2351 ?rest2351
           case hv2351 =>
            intro E1 H1 hI1
            refine (V1.it ?_)
            exact rfl
           refine WalkP.step (p := ?pv2352) 11 rfl rfl rfl rfl rfl (⟨_, _, rfl, rfl, ⟨_, _, rfl, rfl, ⟨_, _, rfl, rfl, ⟨_, _, rfl, rfl, rfl⟩⟩⟩⟩) ?hv2352 ?rest2352
           case hv2352 =>
            intro E1 H1 hI1
            refine (V1.build rfl rfl zk_109 pl_109 rfl rfl lt0 ?_)
            exact rfl
           refine WalkP.nil (NodeS.fin (inCons 5 rfl inNil) rfl rfl rfl (⟨_, _, rfl, rfl, ⟨_, _, rfl, rfl, ⟨_, _, rfl, rfl, ⟨_, _, rfl, rfl, ⟨_, _, rfl, rfl, ⟨_, _, rfl, rfl, rfl⟩⟩⟩⟩⟩⟩) ?_)
           refine VO.cons rfl (V1.storeRefAll (k := 1) rfl rfl tyk_109 rfl rfl rfl rfl rfl rfl ?_)
           refine VO.nil ?_
           exact ⟨(y6.2, b12), oi hm3, Keeps.mk (ks := [1, 0, 4, 5]) rfl ⟨rfl, rfl, rfl, rfl, rfl, trivial⟩ (⟨_, _, rfl, rfl, ⟨_, _, rfl, rfl, ⟨_, _, rfl, rfl, ⟨_, _, rfl, rfl, rfl⟩⟩⟩⟩) rfl⟩
        ·
         refine ⟨_, _, _, _, rfl, rfl, rfl, (rfl), fun E1 => ?_⟩
         refine (V1.alloc rfl rfl zk_109 lt0 ?_)
         intro b13
         refine ⟨_, _, rfl, ?_⟩
         refine WalkP.nil (NodeS.branch [7] (inCons 5 rfl inNil) rfl rfl rfl ⟨?_, trivial⟩)
         ·
          refine ⟨_, _, _, _, rfl, rfl, rfl, (⟨_, _, rfl, rfl, ⟨_, _, rfl, rfl, rfl⟩⟩), fun E1 => ?_⟩
          refine (V1.callM 2 (rn + ρ0 + 1) [b10] [.ref bp 3 0 0, .vl (rn + ρ0 + 1) 1 (List.map encInt ([(0 : Int), (30 : Int), (365 : Int), (1000 : Int)] : List Int))] (p := (bp, ⟨3, [encCur ρ0 y4.2]⟩)) rfl rfl rfl cok_50 rfl rfl ⟨_, _, rfl, .same _, ⟨_, _, rfl, Lend.srMap 1 rfl (fun _ => rfl) (.head _), rfl⟩⟩ (bwCons (k := 1) rfl bwNil) (ok_spec_l1Cur_among hh4) rfl (.inr ⟨(by first | omega | (dsimp only; omega)), by rintro _ _ ⟨rfl, rfl⟩; exact ⟨by simp [PV.no, PV.noL, optS_no, noL_iff, nbeq] <;> omega, by intro b ob h; first | exact optH_no (noL_map (fun _ => by simp [PV.no, PV.noL, noL_iff, nbeq]) _) b ob h | (simp only [List.append_assoc, List.mem_append, List.mem_cons, List.mem_singleton, List.not_mem_nil, or_false, Prod.mk.injEq] at h; rcases h with ⟨rfl, rfl⟩ | ⟨rfl, rfl⟩ <;> first | exact noL_map (fun _ => by simp [PV.no, PV.noL, noL_iff, nbeq]) _ | (simp [PV.no, PV.noL, optS_no, noL_iff, nbeq] <;> omega)) | (simp at h; obtain ⟨rfl, rfl⟩ := h; exact noL_map (fun _ => by simp [PV.no, PV.noL, noL_iff, nbeq]) _) | (simp at h; obtain ⟨rfl, rfl⟩ := h; simp [PV.no, PV.noL, optS_no, noL_iff, nbeq] <;> omega)⟩⟩) lt0 ?_)
          rintro _ _ ⟨rfl, rfl⟩
          refine ⟨_, _, rfl, ?_⟩
          refine WalkP.nil (NodeS.branch [9] (inCons 5 rfl inNil) rfl rfl rfl ⟨?_, trivial⟩)
          ·
           refine ⟨_, _, _, _, rfl, rfl, rfl, (⟨_, _, rfl, rfl, rfl⟩), fun E1 => ?_⟩
           refine (V1.callM 0 (rn + ρ0 + 1) [] [.ref bp 3 0 0, .int .i64 (3 : Int)] (p := (bp, ⟨3, [encCur ρ0 y5.2]⟩)) rfl rfl rfl cok_84 rfl rfl ⟨_, _, rfl, .same _, ⟨_, _, rfl, .same _, rfl⟩⟩ bwNil (ok_spec_l1Cur_pick hh5) rfl (.inl rfl) lt0 ?_)
           rintro _ _ ⟨rfl, rfl⟩
           refine ⟨_, _, rfl, ?_⟩
           refine WalkP.step (p := ?pv2353) 10 rfl rfl rfl rfl rfl (⟨_, _, rfl, rfl, rfl⟩) ?hv2353 ?rest2353
           case hv2353 =>
            intro E1 H1 hI1
            refine (V1.it ?_)
            exact rfl
           refine WalkP.step (p := ?pv2354) 11 rfl rfl rfl rfl rfl (⟨_, _, rfl, rfl, ⟨_, _, rfl, rfl, ⟨_, _, rfl, rfl, ⟨_, _, rfl, rfl, rfl⟩⟩⟩⟩) ?hv2354 ?rest2354
           case hv2354 =>
            intro E1 H1 hI1
            refine (V1.build rfl rfl zk_109 pl_109 rfl rfl lt0 ?_)
            exact rfl
           refine WalkP.nil (NodeS.fin (inCons 5 rfl inNil) rfl rfl rfl (⟨_, _, rfl, rfl, ⟨_, _, rfl, rfl, ⟨_, _, rfl, rfl, ⟨_, _, rfl, rfl, ⟨_, _, rfl, rfl, ⟨_, _, rfl, rfl, rfl⟩⟩⟩⟩⟩⟩) ?_)
           refine VO.cons rfl (V1.storeRefAll (k := 1) rfl rfl tyk_109 rfl rfl rfl rfl rfl rfl ?_)
           refine VO.nil ?_
           exact ⟨(y6.2, b13), oi hm3, Keeps.mk (ks := [1, 0, 4, 5]) rfl ⟨rfl, rfl, rfl, rfl, rfl, trivial⟩ (⟨_, _, rfl, rfl, ⟨_, _, rfl, rfl, ⟨_, _, rfl, rfl, ⟨_, _, rfl, rfl, rfl⟩⟩⟩⟩) rfl⟩
       ·
        refine ⟨_, _, _, _, rfl, rfl, rfl, (rfl), fun E1 => ?_⟩
        refine (V1.alloc rfl rfl zk_109 lt0 ?_)
        intro b14
        refine ⟨_, _, rfl, ?_⟩
        refine WalkP.nil (NodeS.branch [6] (inCons 4 rfl inNil) rfl rfl rfl ⟨?_, trivial⟩)
        ·
         refine ⟨_, _, _, _, rfl, rfl, rfl, (rfl), fun E1 => ?_⟩
         refine (V1.buildSliceT (f := encInt) ([(0 : Int), (30 : Int), (365 : Int), (1000 : Int)] : List Int) rfl rfl esz_69 zk_3 rfl rfl rfl rfl rfl rfl rfl lt0 ?_)
         intro b15
         refine ⟨_, _, rfl, ?_⟩
         refine WalkP.nil (NodeS.branch [7] (inCons 5 rfl inNil) rfl rfl rfl ⟨?_, trivial⟩)
         ·
          refine ⟨_, _, _, _, rfl, rfl, rfl, (⟨_, _, rfl, rfl, ⟨_, _, rfl, rfl, rfl⟩⟩), fun E1 => ?_⟩
          refine (V1.callM 2 (rn + ρ0 + 1) [b15] [.ref bp 3 0 0, .vl (rn + ρ0 + 1) 1 (List.map encInt ([(0 : Int), (30 : Int), (365 : Int), (1000 : Int)] : List Int))] (p := (bp, ⟨3, [encCur ρ0 y4.2]⟩)) rfl rfl rfl cok_50 rfl rfl ⟨_, _, rfl, .same _, ⟨_, _, rfl, Lend.srMap 0 rfl (fun _ => rfl) (.head _), rfl⟩⟩ (bwCons (k := 0) rfl bwNil) (ok_spec_l1Cur_among hh4) rfl (.inr ⟨(by first | omega | (dsimp only; omega)), by rintro _ _ ⟨rfl, rfl⟩; exact ⟨by simp [PV.no, PV.noL, optS_no, noL_iff, nbeq] <;> omega, by intro b ob h; first | exact optH_no (noL_map (fun _ => by simp [PV.no, PV.noL, noL_iff, nbeq]) _) b ob h | (simp only [List.append_assoc, List.mem_append, List.mem_cons, List.mem_singleton, List.not_mem_nil, or_false, Prod.mk.injEq] at h; rcases h with ⟨rfl, rfl⟩ | ⟨rfl, rfl⟩ <;> first | exact noL_map (fun _ => by simp [PV.no, PV.noL, noL_iff, nbeq]) _ | (simp [PV.no, PV.noL, optS_no, noL_iff, nbeq] <;> omega)) | (simp at h; obtain ⟨rfl, rfl⟩ := h; exact noL_map (fun _ => by simp [PV.no, PV.noL, noL_iff, nbeq]) _) | (simp at h; obtain ⟨rfl, rfl⟩ := h; simp [PV.no, PV.noL, optS_no, noL_iff, nbeq] <;> omega)⟩⟩) lt0 ?_)
          rintro _ _ ⟨rfl, rfl⟩
          refine ⟨_, _, rfl, ?_⟩
          refine WalkP.nil (NodeS.branch [9] (inCons 5 rfl inNil) rfl rfl rfl ⟨?_, trivial⟩)
          ·
           refine ⟨_, _, _, _, rfl, rfl, rfl, (⟨_, _, rfl, rfl, rfl⟩), fun E1 => ?_⟩
           refine (V1.callM 0 (rn + ρ0 + 1) [] [.ref bp 3 0 0, .int .i64 (3 : Int)] (p := (bp, ⟨3, [encCur ρ0 y5.2]⟩)) rfl rfl rfl cok_84 rfl rfl ⟨_, _, rfl, .same _, ⟨_, _, rfl, .same _, rfl⟩⟩ bwNil (ok_spec_l1Cur_pick hh5) rfl (.inl rfl) lt0 ?_)
           rintro _ _ ⟨rfl, rfl⟩
           refine ⟨_, _, rfl, ?_⟩
           refine WalkP.step (p := ?pv2355) 10 rfl rfl rfl rfl rfl (⟨_, _, rfl, rfl, rfl⟩) ?hv2355 ?rest2355
           case hv2355 =>
            intro E1 H1 hI1
            refine (V1.it ?_)
            exact rfl
           refine WalkP.step (p := ?pv2356) 11 rfl rfl rfl rfl rfl (⟨_, _, rfl, rfl, ⟨_, _, rfl, rfl, ⟨_, _, rfl, rfl, ⟨_, _, rfl, rfl, rfl⟩⟩⟩⟩) ?hv2356 ?rest2356
           case hv2356 =>
            intro E1 H1 hI1
            refine (V1.build rfl rfl zk_109 pl_109 rfl rfl lt0 ?_)
            exact rfl
           refine WalkP.nil (NodeS.fin (inCons 5 rfl inNil) rfl rfl rfl (⟨_, _, rfl, rfl, ⟨_, _, rfl, rfl, ⟨_, _, rfl, rfl, ⟨_, _, rfl, rfl, ⟨_, _, rfl, rfl, ⟨_, _, rfl, rfl, rfl⟩⟩⟩⟩⟩⟩) ?_)
           refine VO.cons rfl (V1.storeRefAll (k := 2) rfl rfl tyk_109 rfl rfl rfl rfl rfl rfl ?_)
           refine VO.nil ?_
           exact ⟨(y6.2, b14), oi hm3, Keeps.mk (ks := [2, 0, 4, 5]) rfl ⟨rfl, rfl, rfl, rfl, rfl, trivial⟩ (⟨_, _, rfl, rfl, ⟨_, _, rfl, rfl, ⟨_, _, rfl, rfl, ⟨_, _, rfl, rfl, rfl⟩⟩⟩⟩) rfl⟩
      ·
       refine ⟨_, _, _, _, rfl, rfl, rfl, (rfl), fun E1 => ?_⟩
       refine (V1.buildSliceT (f := encInt) ([(0 : Int), (30 : Int), (365 : Int), (1000 : Int)] : List Int) rfl rfl esz_69 zk_3 rfl rfl rfl rfl rfl rfl rfl lt0 ?_)
       intro b16
       refine ⟨_, _, rfl, ?_⟩
       refine WalkP.nil (NodeS.branch [4, 12] (inCons 4 rfl inNil) rfl rfl rfl ⟨?_, ?_, trivial⟩)
       ·
        refine ⟨_, _, _, _, rfl, rfl, rfl, (⟨_, _, rfl, rfl, ⟨_, _, rfl, rfl, rfl⟩⟩), fun E1 => ?_⟩
        refine (V1.callM 3 (rn + ρ0 + 1) [b9] [.ref bp 3 0 0, .vl (rn + ρ0 + 1) 1 (List.map encInt ([(0 : Int), (0 : Int), (1 : Int), (2 : Int), (3 : Int)] : List Int))] (p := (bp, ⟨3, [encCur ρ0 c_0]⟩)) rfl rfl rfl cok_50 rfl rfl ⟨_, _, rfl, .same _, ⟨_, _, rfl, Lend.srMap 1 rfl (fun _ => rfl) (.head _), rfl⟩⟩ (bwCons (k := 1) rfl bwNil) (ok_spec_l1Cur_among hh3) rfl (.inr ⟨(by first | omega | (dsimp only; omega)), by rintro _ _ ⟨rfl, rfl⟩; exact ⟨by simp [PV.no, PV.noL, optS_no, noL_iff, nbeq] <;> omega, by intro b ob h; first | exact optH_no (noL_map (fun _ => by simp [PV.no, PV.noL, noL_iff, nbeq]) _) b ob h | (simp only [List.append_assoc, List.mem_append, List.mem_cons, List.mem_singleton, List.not_mem_nil, or_false, Prod.mk.injEq] at h; rcases h with ⟨rfl, rfl⟩ | ⟨rfl, rfl⟩ <;> first | exact noL_map (fun _ => by simp [PV.no, PV.noL, noL_iff, nbeq]) _ | (simp [PV.no, PV.noL, optS_no, noL_iff, nbeq] <;> omega)) | (simp at h; obtain ⟨rfl, rfl⟩ := h; exact noL_map (fun _ => by simp [PV.no, PV.noL, noL_iff, nbeq]) _) | (simp at h; obtain ⟨rfl, rfl⟩ := h; simp [PV.no, PV.noL, optS_no, noL_iff, nbeq] <;> omega)⟩⟩) lt0 ?_)
        rintro _ _ ⟨rfl, rfl⟩
        refine ⟨_, _, rfl, ?_⟩
        refine WalkP.nil (NodeS.branch [7, 12] (inCons 4 rfl inNil) rfl rfl rfl ⟨?_, ?_, trivial⟩)
        ·
         refine ⟨_, _, _, _, rfl, rfl, rfl, (⟨_, _, rfl, rfl, ⟨_, _, rfl, rfl, rfl⟩⟩), fun E1 => ?_⟩
         refine (V1.callM 0 (rn + ρ0 + 1) [b16] [.ref bp 3 0 0, .vl (rn + ρ0 + 1) 1 (List.map encInt ([(0 : Int), (30 : Int), (365 : Int), (1000 : Int)] : List Int))] (p := (bp, ⟨3, [encCur ρ0 y4.2]⟩)) rfl rfl rfl cok_50 rfl rfl ⟨_, _, rfl, .same _, ⟨_, _, rfl, Lend.srMap 1 rfl (fun _ => rfl) (.head _), rfl⟩⟩ (bwCons (k := 0) rfl bwNil) (ok_spec_l1Cur_among hh4) rfl (.inr ⟨(by first | omega | (dsimp only; omega)), by rintro _ _ ⟨rfl, rfl⟩; exact ⟨by simp [PV.no, PV.noL, optS_no, noL_iff, nbeq] <;> omega, by intro b ob h; first | exact optH_no (noL_map (fun _ => by simp [PV.no, PV.noL, noL_iff, nbeq]) _) b ob h | (simp only [List.append_assoc, List.mem_append, List.mem_cons, List.mem_singleton, List.not_mem_nil, or_false, Prod.mk.injEq] at h; rcases h with ⟨rfl, rfl⟩ | ⟨rfl, rfl⟩ <;> first | exact noL_map (fun _ => by simp [PV.no, PV.noL, noL_iff, nbeq]) _ | (simp [PV.no, PV.noL, optS_no, noL_iff, nbeq] <;> omega)) | (simp at h; obtain ⟨rfl, rfl⟩ := h; exact noL_map (fun _ => by simp [PV.no, PV.noL, noL_iff, nbeq]) _) | (simp at h; obtain ⟨rfl, rfl⟩ := h; simp [PV.no, PV.noL, optS_no, noL_iff, nbeq] <;> omega)⟩⟩) lt0 ?_)
         rintro _ _ ⟨rfl, rfl⟩
         refine ⟨_, _, rfl, ?_⟩
         refine WalkP.nil (NodeS.branch [9, 12] (inCons 4 rfl inNil) rfl rfl rfl ⟨?_, ?_, trivial⟩)
         ·
          refine ⟨_, _, _, _, rfl, rfl, rfl, (⟨_, _, rfl, rfl, rfl⟩), fun E1 => ?_⟩
          refine (V1.callM 0 (rn + ρ0 + 1) [] [.ref bp 3 0 0, .int .i64 (3 : Int)] (p := (bp, ⟨3, [encCur ρ0 y5.2]⟩)) rfl rfl rfl cok_84 rfl rfl ⟨_, _, rfl, .same _, ⟨_, _, rfl, .same _, rfl⟩⟩ bwNil (ok_spec_l1Cur_pick hh5) rfl (.inl rfl) lt0 ?_)
          rintro _ _ ⟨rfl, rfl⟩
          refine ⟨_, _, rfl, ?_⟩
          refine WalkP.step (p := ?pv2357) 10 rfl rfl rfl rfl rfl (⟨_, _, rfl, rfl, rfl⟩) ?hv2357 ?rest2357
          case hv2357 =>
           intro E1 H1 hI1
           refine (V1.it ?_)
           exact rfl
          refine WalkP.step (p := ?pv2358) 11 rfl rfl rfl rfl rfl (⟨_, _, rfl, rfl, ⟨_, _, rfl, rfl, ⟨_, _, rfl, rfl, ⟨_, _, rfl, rfl, rfl⟩⟩⟩⟩) ?hv2358 ?rest2358
          case hv2358 =>
           intro E1 H1 hI1
           refine (V1.build rfl rfl zk_109 pl_109 rfl rfl lt0 ?_)
           exact rfl
          refine WalkP.nil (NodeS.branch [12] (inCons 4 rfl inNil) rfl rfl rfl ⟨?_, trivial⟩)
          ·
           refine ⟨_, _, _, _, rfl, rfl, rfl, (rfl), fun E1 => ?_⟩
           refine (V1.alloc rfl rfl zk_109 lt0 ?_)
           intro b17
           refine ⟨_, _, rfl, ?_⟩
           refine WalkP.nil (NodeS.fin (inCons 5 rfl inNil) rfl rfl rfl (⟨_, _, rfl, rfl, ⟨_, _, rfl, rfl, ⟨_, _, rfl, rfl, ⟨_, _, rfl, rfl, ⟨_, _, rfl, rfl, ⟨_, _, rfl, rfl, rfl⟩⟩⟩⟩⟩⟩) ?_)
           refine VO.cons rfl (V1.storeRefAll (k := 0) rfl rfl tyk_109 rfl rfl rfl rfl rfl rfl ?_)
           refine VO.nil ?_
           exact ⟨(y6.2, b17), oi hm3, Keeps.mk (ks := [0, 1, 4, 5]) rfl ⟨rfl, rfl, rfl, rfl, rfl, trivial⟩ (⟨_, _, rfl, rfl, ⟨_, _, rfl, rfl, ⟨_, _, rfl, rfl, ⟨_, _, rfl, rfl, rfl⟩⟩⟩⟩) rfl⟩
         ·
          refine ⟨_, _, _, _, rfl, rfl, rfl, (rfl), fun E1 => ?_⟩
          refine (V1.alloc rfl rfl zk_109 lt0 ?_)
          intro b18
          refine ⟨_, _, rfl, ?_⟩
          refine WalkP.nil (NodeS.branch [9] (inCons 5 rfl inNil) rfl rfl rfl ⟨?_, trivial⟩)
          ·
           refine ⟨_, _, _, _, rfl, rfl, rfl, (⟨_, _, rfl, rfl, rfl⟩), fun E1 => ?_⟩
           refine (V1.callM 1 (rn + ρ0 + 1) [] [.ref bp 3 0 0, .int .i64 (3 : Int)] (p := (bp, ⟨3, [encCur ρ0 y5.2]⟩)) rfl rfl rfl cok_84 rfl rfl ⟨_, _, rfl, .same _, ⟨_, _, rfl, .same _, rfl⟩⟩ bwNil (ok_spec_l1Cur_pick hh5) rfl (.inl rfl) lt0 ?_)
           rintro _ _ ⟨rfl, rfl⟩
           refine ⟨_, _, rfl, ?_⟩
           refine WalkP.step (p := ?pv2359) 10 rfl rfl rfl rfl rfl (⟨_, _, rfl, rfl, rfl⟩) ?hv2359 ?rest2359
           case hv2359 =>
            intro E1 H1 hI1
            refine (V1.it ?_)
            exact rfl
           refine WalkP.step (p := ?pv2360) 11 rfl rfl rfl rfl rfl (⟨_, _, rfl, rfl, ⟨_, _, rfl, rfl, ⟨_, _, rfl, rfl, ⟨_, _, rfl, rfl, rfl⟩⟩⟩⟩) ?hv2360 ?rest2360
           case hv2360 =>
            intro E1 H1 hI1
            refine (V1.build rfl rfl zk_109 pl_109 rfl rfl lt0 ?_)
            exact rfl
           refine WalkP.nil (NodeS.fin (inCons 5 rfl inNil) rfl rfl rfl (⟨_, _, rfl, rfl, ⟨_, _, rfl, rfl, ⟨_, _, rfl, rfl, ⟨_, _, rfl, rfl, ⟨_, _, rfl, rfl, ⟨_, _, rfl, rfl, rfl⟩⟩⟩⟩⟩⟩) ?_)
           refine VO.cons rfl (V1.storeRefAll (k := 1) rfl rfl tyk_109 rfl rfl rfl rfl rfl rfl ?_)
           refine VO.nil ?_
           exact ⟨(y6.2, b18), oi hm3, Keeps.mk (ks := [1, 0, 4, 5]) rfl ⟨rfl, rfl, rfl, rfl, rfl, trivial⟩ (⟨_, _, rfl, rfl, ⟨_, _, rfl, rfl, ⟨_, _, rfl, rfl, ⟨_, _, rfl, rfl, rfl⟩⟩⟩⟩) rfl⟩
        ·
         refine ⟨_, _, _, _, rfl, rfl, rfl, (rfl), fun E1 => ?_⟩
         refine (V1.alloc rfl rfl zk_109 lt0 ?_)
         intro b19
         refine ⟨_, _, rfl, ?_⟩
         refine WalkP.nil (NodeS.branch [7] (inCons 5 rfl inNil) rfl rfl rfl ⟨?_, trivial⟩)
         ·
          refine ⟨_, _, _, _, rfl, rfl, rfl, (⟨_, _, rfl, rfl, ⟨_, _, rfl, rfl, rfl⟩⟩), fun E1 => ?_⟩
          refine (V1.callM 1 (rn + ρ0 + 1) [b16] [.ref bp 3 0 0, .vl (rn + ρ0 + 1) 1 (List.map encInt ([(0 : Int), (30 : Int), (365 : Int), (1000 : Int)] : List Int))] (p := (bp, ⟨3, [encCur ρ0 y4.2]⟩)) rfl rfl rfl cok_50 rfl rfl ⟨_, _, rfl, .same _, ⟨_, _, rfl, Lend.srMap 2 rfl (fun _ => rfl) (.head _), rfl⟩⟩ (bwCons (k := 1) rfl bwNil) (ok_spec_l1Cur_among hh4) rfl (.inr ⟨(by first | omega | (dsimp only; omega)), by rintro _ _ ⟨rfl, rfl⟩; exact ⟨by simp [PV.no, PV.noL, optS_no, noL_iff, nbeq] <;> omega, by intro b ob h; first | exact optH_no (noL_map (fun _ => by simp [PV.no, PV.noL, noL_iff, nbeq]) _) b ob h | (simp only [List.append_assoc, List.mem_append, List.mem_cons, List.mem_singleton, List.not_mem_nil, or_false, Prod.mk.injEq] at h; rcases h with ⟨rfl, rfl⟩ | ⟨rfl, rfl⟩ <;> first | exact noL_map (fun _ => by simp [PV.no, PV.noL, noL_iff, nbeq]) _ | (simp [PV.no, PV.noL, optS_no, noL_iff, nbeq] <;> omega)) | (simp at h; obtain ⟨rfl, rfl⟩ := h; exact noL_map (fun _ => by simp [PV.no, PV.noL, noL_iff, nbeq]) _) | (simp at h; obtain ⟨rfl, rfl⟩ := h; simp [PV.no, PV.noL, optS_no, noL_iff, nbeq] <;> omega)⟩⟩) lt0 ?_)
          rintro _ _ ⟨rfl, rfl⟩
          refine ⟨_, _, rfl, ?_⟩
          refine WalkP.nil (NodeS.branch [9] (inCons 5 rfl inNil) rfl rfl rfl ⟨?_, trivial⟩)
          ·
           refine ⟨_, _, _, _, rfl, rfl, rfl, (⟨_, _, rfl, rfl, rfl⟩), fun E1 => ?_⟩
           refine (V1.callM 0 (rn + ρ0 + 1) [] [.ref bp 3 0 0, .int .i64 (3 : Int)] (p := (bp, ⟨3, [encCur ρ0 y5.2]⟩)) rfl rfl rfl cok_84 rfl rfl ⟨_, _, rfl, .same _, ⟨_, _, rfl, .same _, rfl⟩⟩ bwNil (ok_spec_l1Cur_pick hh5) rfl (.inl rfl) lt0 ?_)
           rintro _ _ ⟨rfl, rfl⟩
           refine ⟨_, _, rfl, ?_⟩
           refine WalkP.step (p := ?pv2361) 10 rfl rfl rfl rfl rfl (⟨_, _, rfl, rfl, rfl⟩) ?hv2361 ?rest2361
           case hv2361 =>
            intro E1 H1 hI1
            refine (V1.it ?_)
            exact rfl
           refine WalkP.step (p := ?pv2362) 11 rfl rfl rfl rfl rfl (⟨_, _, rfl, rfl, ⟨_, _, rfl, rfl, ⟨_, _, rfl, rfl, ⟨_, _, rfl, rfl, rfl⟩⟩⟩⟩) ?hv2362 ?rest2362
           case hv2362 =>
            intro E1 H1 hI1
            refine (V1.build rfl rfl zk_109 pl_109 rfl rfl lt0 ?_)
            exact rfl
           refine WalkP.nil (NodeS.fin (inCons 5 rfl inNil) rfl rfl rfl (⟨_, _, rfl, rfl, ⟨_, _, rfl, rfl, ⟨_, _, rfl, rfl, ⟨_, _, rfl, rfl, ⟨_, _, rfl, rfl, ⟨_, _, rfl, rfl, rfl⟩⟩⟩⟩⟩⟩) ?_)
           refine VO.cons rfl (V1.storeRefAll (k := 1) rfl rfl tyk_109 rfl rfl rfl rfl rfl rfl ?_)
           refine VO.nil ?_
           exact ⟨(y6.2, b19), oi hm3, Keeps.mk (ks := [1, 0, 4, 5]) rfl ⟨rfl, rfl, rfl, rfl, rfl, trivial⟩ (⟨_, _, rfl, rfl, ⟨_, _, rfl, rfl, ⟨_, _, rfl, rfl, ⟨_, _, rfl, rfl, rfl⟩⟩⟩⟩) rfl⟩
       ·
        refine ⟨_, _, _, _, rfl, rfl, rfl, (rfl), fun E1 => ?_⟩
        refine (V1.alloc rfl rfl zk_109 lt0 ?_)
        intro b20
        refine ⟨_, _, rfl, ?_⟩
        refine WalkP.nil (NodeS.branch [4] (inCons 5 rfl inNil) rfl rfl rfl ⟨?_, trivial⟩)
        ·
         refine ⟨_, _, _, _, rfl, rfl, rfl, (⟨_, _, rfl, rfl, ⟨_, _, rfl, rfl, rfl⟩⟩), fun E1 => ?_⟩
         refine (V1.callM 4 (rn + ρ0 + 1) [b9] [.ref bp 3 0 0, .vl (rn + ρ0 + 1) 1 (List.map encInt ([(0 : Int), (0 : Int), (1 : Int), (2 : Int), (3 : Int)] : List Int))] (p := (bp, ⟨3, [encCur ρ0 c_0]⟩)) rfl rfl rfl cok_50 rfl rfl ⟨_, _, rfl, .same _, ⟨_, _, rfl, Lend.srMap 2 rfl (fun _ => rfl) (.head _), rfl⟩⟩ (bwCons (k := 2) rfl bwNil) (ok_spec_l1Cur_among hh3) rfl (.inr ⟨(by first | omega | (dsimp only; omega)), by rintro _ _ ⟨rfl, rfl⟩; exact ⟨by simp [PV.no, PV.noL, optS_no, noL_iff, nbeq] <;> omega, by intro b ob h; first | exact optH_no (noL_map (fun _ => by simp [PV.no, PV.noL, noL_iff, nbeq]) _) b ob h | (simp only [List.append_assoc, List.mem_append, List.mem_cons, List.mem_singleton, List.not_mem_nil, or_false, Prod.mk.injEq] at h; rcases h with ⟨rfl, rfl⟩ | ⟨rfl, rfl⟩ <;> first | exact noL_map (fun _ => by simp [PV.no, PV.noL, noL_iff, nbeq]) _ | (simp [PV.no, PV.noL, optS_no, noL_iff, nbeq] <;> omega)) | (simp at h; obtain ⟨rfl, rfl⟩ := h; exact noL_map (fun _ => by simp [PV.no, PV.noL, noL_iff, nbeq]) _) | (simp at h; obtain ⟨rfl, rfl⟩ := h; simp [PV.no, PV.noL, optS_no, noL_iff, nbeq] <;> omega)⟩⟩) lt0 ?_)
         rintro _ _ ⟨rfl, rfl⟩
         refine ⟨_, _, rfl, ?_⟩
         refine WalkP.nil (NodeS.branch [7] (inCons 5 rfl inNil) rfl rfl rfl ⟨?_, trivial⟩)
         ·
          refine ⟨_, _, _, _, rfl, rfl, rfl, (⟨_, _, rfl, rfl, ⟨_, _, rfl, rfl, rfl⟩⟩), fun E1 => ?_⟩
          refine (V1.callM 0 (rn + ρ0 + 1) [b16] [.ref bp 3 0 0, .vl (rn + ρ0 + 1) 1 (List.map encInt ([(0 : Int), (30 : Int), (365 : Int), (1000 : Int)] : List Int))] (p := (bp, ⟨3, [encCur ρ0 y4.2]⟩)) rfl rfl rfl cok_50 rfl rfl ⟨_, _, rfl, .same _, ⟨_, _, rfl, Lend.srMap 2 rfl (fun _ => rfl) (.head _), rfl⟩⟩ (bwCons (k := 1) rfl bwNil) (ok_spec_l1Cur_among hh4) rfl (.inr ⟨(by first | omega | (dsimp only; omega)), by rintro _ _ ⟨rfl, rfl⟩; exact ⟨by simp [PV.no, PV.noL, optS_no, noL_iff, nbeq] <;> omega, by intro b ob h; first | exact optH_no (noL_map (fun _ => by simp [PV.no, PV.noL, noL_iff, nbeq]) _) b ob h | (simp only [List.append_assoc, List.mem_append, List.mem_cons, List.mem_singleton, List.not_mem_nil, or_false, Prod.mk.injEq] at h; rcases h with ⟨rfl, rfl⟩ | ⟨rfl, rfl⟩ <;> first | exact noL_map (fun _ => by simp [PV.no, PV.noL, noL_iff, nbeq]) _ | (simp [PV.no, PV.noL, optS_no, noL_iff, nbeq] <;> omega)) | (simp at h; obtain ⟨rfl, rfl⟩ := h; exact noL_map (fun _ => by simp [PV.no, PV.noL, noL_iff, nbeq]) _) | (simp at h; obtain ⟨rfl, rfl⟩ := h; simp [PV.no, PV.noL, optS_no, noL_iff, nbeq] <;> omega)⟩⟩) lt0 ?_)
          rintro _ _ ⟨rfl, rfl⟩
          refine ⟨_, _, rfl, ?_⟩
          refine WalkP.nil (NodeS.branch [9] (inCons 5 rfl inNil) rfl rfl rfl ⟨?_, trivial⟩)
          ·
           refine ⟨_, _, _, _, rfl, rfl, rfl, (⟨_, _, rfl, rfl, rfl⟩), fun E1 => ?_⟩
           refine (V1.callM 0 (rn + ρ0 + 1) [] [.ref bp 3 0 0, .int .i64 (3 : Int)] (p := (bp, ⟨3, [encCur ρ0 y5.2]⟩)) rfl rfl rfl cok_84 rfl rfl ⟨_, _, rfl, .same _, ⟨_, _, rfl, .same _, rfl⟩⟩ bwNil (ok_spec_l1Cur_pick hh5) rfl (.inl rfl) lt0 ?_)
           rintro _ _ ⟨rfl, rfl⟩
           refine ⟨_, _, rfl, ?_⟩
           refine WalkP.step (p := ?pv2363) 10 rfl rfl rfl rfl rfl (⟨_, _, rfl, rfl, rfl⟩) ?hv2363 ?rest2363
           case hv2363 =>
            intro E1 H1 hI1
            refine (V1.it ?_)
            exact rfl
           refine WalkP.step (p := ?pv2364) 11 rfl rfl rfl rfl rfl (⟨_, _, rfl, rfl, ⟨_, _, rfl, rfl, ⟨_, _, rfl, rfl, ⟨_, _, rfl, rfl, rfl⟩⟩⟩⟩) ?hv2364 ?rest2364
           case hv2364 =>
            intro E1 H1 hI1
            refine (V1.build rfl rfl zk_109 pl_109 rfl rfl lt0 ?_)
            exact rfl
           refine WalkP.nil (NodeS.fin (inCons 5 rfl inNil) rfl rfl rfl (⟨_, _, rfl, rfl, ⟨_, _, rfl, rfl, ⟨_, _, rfl, rfl, ⟨_, _, rfl, rfl, ⟨_, _, rfl, rfl, ⟨_, _, rfl, rfl, rfl⟩⟩⟩⟩⟩⟩) ?_)
           refine VO.cons rfl (V1.storeRefAll (k := 1) rfl rfl tyk_109 rfl rfl rfl rfl rfl rfl ?_)
           refine VO.nil ?_
           exact ⟨(y6.2, b20), oi hm3, Keeps.mk (ks := [1, 0, 4, 5]) rfl ⟨rfl, rfl, rfl, rfl, rfl, trivial⟩ (⟨_, _, rfl, rfl, ⟨_, _, rfl, rfl, ⟨_, _, rfl, rfl, ⟨_, _, rfl, rfl, rfl⟩⟩⟩⟩) rfl⟩
      ·
       refine ⟨_, _, _, _, rfl, rfl, rfl, (rfl), fun E1 => ?_⟩
       refine (V1.alloc rfl rfl zk_109 lt0 ?_)
       intro b21
       refine ⟨_, _, rfl, ?_⟩
       refine WalkP.nil (NodeS.branch [4, 6] (inCons 4 rfl inNil) rfl rfl rfl ⟨?_, ?_, trivial⟩)
       ·
        refine ⟨_, _, _, _, rfl, rfl, rfl, (⟨_, _, rfl, rfl, ⟨_, _, rfl, rfl, rfl⟩⟩), fun E1 => ?_⟩
        refine (V1.callM 3 (rn + ρ0 + 1) [b9] [.ref bp 3 0 0, .vl (rn + ρ0 + 1) 1 (List.map encInt ([(0 : Int), (0 : Int), (1 : Int), (2 : Int), (3 : Int)] : List Int))] (p := (bp, ⟨3, [encCur ρ0 c_0]⟩)) rfl rfl rfl cok_50 rfl rfl ⟨_, _, rfl, .same _, ⟨_, _, rfl, Lend.srMap 1 rfl (fun _ => rfl) (.head _), rfl⟩⟩ (bwCons (k := 1) rfl bwNil) (ok_spec_l1Cur_among hh3) rfl (.inr ⟨(by first | omega | (dsimp only; omega)), by rintro _ _ ⟨rfl, rfl⟩; exact ⟨by simp [PV.no, PV.noL, optS_no, noL_iff, nbeq] <;> omega, by intro b ob h; first | exact optH_no (noL_map (fun _ => by simp [PV.no, PV.noL, noL_iff, nbeq]) _) b ob h | (simp only [List.append_assoc, List.mem_append, List.mem_cons, List.mem_singleton, List.not_mem_nil, or_false, Prod.mk.injEq] at h; rcases h with ⟨rfl, rfl⟩ | ⟨rfl, rfl⟩ <;> first | exact noL_map (fun _ => by simp [PV.no, PV.noL, noL_iff, nbeq]) _ | (simp [PV.no, PV.noL, optS_no, noL_iff, nbeq] <;> omega)) | (simp at h; obtain ⟨rfl, rfl⟩ := h; exact noL_map (fun _ => by simp [PV.no, PV.noL, noL_iff, nbeq]) _) | (simp at h; obtain ⟨rfl, rfl⟩ := h; simp [PV.no, PV.noL, optS_no, noL_iff, nbeq] <;> omega)⟩⟩) lt0 ?_)
        rintro _ _ ⟨rfl, rfl⟩
        refine ⟨_, _, rfl, ?_⟩
        refine WalkP.nil (NodeS.branch [6] (inCons 4 rfl inNil) rfl rfl rfl ⟨?_, trivial⟩)
        ·
         refine ⟨_, _, _, _, rfl, rfl, rfl, (rfl), fun E1 => ?_⟩
         refine (V1.buildSliceT (f := encInt) ([(0 : Int), (30 : Int), (365 : Int), (1000 : Int)] : List Int) rfl rfl esz_69 zk_3 rfl rfl rfl rfl rfl rfl rfl lt0 ?_)
         intro b22
         refine ⟨_, _, rfl, ?_⟩
         refine WalkP.nil (NodeS.branch [7] (inCons 5 rfl inNil) rfl rfl rfl ⟨?_, trivial⟩)
         ·
          refine ⟨_, _, _, _, rfl, rfl, rfl, (⟨_, _, rfl, rfl, ⟨_, _, rfl, rfl, rfl⟩⟩), fun E1 => ?_⟩
          refine (V1.callM 1 (rn + ρ0 + 1) [b22] [.ref bp 3 0 0, .vl (rn + ρ0 + 1) 1 (List.map encInt ([(0 : Int), (30 : Int), (365 : Int), (1000 : Int)] : List Int))] (p := (bp, ⟨3, [encCur ρ0 y4.2]⟩)) rfl rfl rfl cok_50 rfl rfl ⟨_, _, rfl, .same _, ⟨_, _, rfl, Lend.srMap 0 rfl (fun _ => rfl) (.head _), rfl⟩⟩ (bwCons (k := 0) rfl bwNil) (ok_spec_l1Cur_among hh4) rfl (.inr ⟨(by first | omega | (dsimp only; omega)), by rintro _ _ ⟨rfl, rfl⟩; exact ⟨by simp [PV.no, PV.noL, optS_no, noL_iff, nbeq] <;> omega, by intro b ob h; first | exact optH_no (noL_map (fun _ => by simp [PV.no, PV.noL, noL_iff, nbeq]) _) b ob h | (simp only [List.append_assoc, List.mem_append, List.mem_cons, List.mem_singleton, List.not_mem_nil, or_false, Prod.mk.injEq] at h; rcases h with ⟨rfl, rfl⟩ | ⟨rfl, rfl⟩ <;> first | exact noL_map (fun _ => by simp [PV.no, PV.noL, noL_iff, nbeq]) _ | (simp [PV.no, PV.noL, optS_no, noL_iff, nbeq] <;> omega)) | (simp at h; obtain ⟨rfl, rfl⟩ := h; exact noL_map (fun _ => by simp [PV.no, PV.noL, noL_iff, nbeq]) _) | (simp at h; obtain ⟨rfl, rfl⟩ := h; simp [PV.no, PV.noL, optS_no, noL_iff, nbeq] <;> omega)⟩⟩) lt0 ?_)
          rintro _ _ ⟨rfl, rfl⟩
          refine ⟨_, _, rfl, ?_⟩
          refine WalkP.nil (NodeS.branch [9] (inCons 5 rfl inNil) rfl rfl rfl ⟨?_, trivial⟩)
          ·
           refine ⟨_, _, _, _, rfl, rfl, rfl, (⟨_, _, rfl, rfl, rfl⟩), fun E1 => ?_⟩
           refine (V1.callM 0 (rn + ρ0 + 1) [] [.ref bp 3 0 0, .int .i64 (3 : Int)] (p := (bp, ⟨3, [encCur ρ0 y5.2]⟩)) rfl rfl rfl cok_84 rfl rfl ⟨_, _, rfl, .same _, ⟨_, _, rfl, .same _, rfl⟩⟩ bwNil (ok_spec_l1Cur_pick hh5) rfl (.inl rfl) lt0 ?_)
           rintro _ _ ⟨rfl, rfl⟩
           refine ⟨_, _, rfl, ?_⟩
           refine WalkP.step (p := ?pv2365) 10 rfl rfl rfl rfl rfl (⟨_, _, rfl, rfl, rfl⟩) ?hv2365 ?rest2365
           case hv2365 =>
            intro E1 H1 hI1
            refine (V1.it ?_)
            exact rfl
           refine WalkP.step (p := ?pv2366) 11 rfl rfl rfl rfl rfl (⟨_, _, rfl, rfl, ⟨_, _, rfl, rfl, ⟨_, _, rfl, rfl, ⟨_, _, rfl, rfl, rfl⟩⟩⟩⟩) ?hv2366 ?rest2366
           case hv2366 =>
            intro E1 H1 hI1
            refine (V1.build rfl rfl zk_109 pl_109 rfl rfl lt0 ?_)
            exact rfl
           refine WalkP.nil (NodeS.fin (inCons 5 rfl inNil) rfl rfl rfl (⟨_, _, rfl, rfl, ⟨_, _, rfl, rfl, ⟨_, _, rfl, rfl, ⟨_, _, rfl, rfl, ⟨_, _, rfl, rfl, ⟨_, _, rfl, rfl, rfl⟩⟩⟩⟩⟩⟩) ?_)
           refine VO.cons rfl (V1.storeRefAll (k := 2) rfl rfl tyk_109 rfl rfl rfl rfl rfl rfl ?_)
           refine VO.nil ?_
           exact ⟨(y6.2, b21), oi hm3, Keeps.mk (ks := [2, 0, 4, 5]) rfl ⟨rfl, rfl, rfl, rfl, rfl, trivial⟩ (⟨_, _, rfl, rfl, ⟨_, _, rfl, rfl, ⟨_, _, rfl, rfl, ⟨_, _, rfl, rfl, rfl⟩⟩⟩⟩) rfl⟩
       ·
        refine ⟨_, _, _, _, rfl, rfl, rfl, (rfl), fun E1 => ?_⟩
        refine (V1.buildSliceT (f := encInt) ([(0 : Int), (30 : Int), (365 : Int), (1000 : Int)] : List Int) rfl rfl esz_69 zk_3 rfl rfl rfl rfl rfl rfl rfl lt0 ?_)
        intro b23
        refine ⟨_, _, rfl, ?_⟩
        refine WalkP.nil (NodeS.branch [4] (inCons 5 rfl inNil) rfl rfl rfl ⟨?_, trivial⟩)
        ·
         refine ⟨_, _, _, _, rfl, rfl, rfl, (⟨_, _, rfl, rfl, ⟨_, _, rfl, rfl, rfl⟩⟩), fun E1 => ?_⟩
         refine (V1.callM 4 (rn + ρ0 + 1) [b9] [.ref bp 3 0 0, .vl (rn + ρ0 + 1) 1 (List.map encInt ([(0 : Int), (0 : Int), (1 : Int), (2 : Int), (3 : Int)] : List Int))] (p := (bp, ⟨3, [encCur ρ0 c_0]⟩)) rfl rfl rfl cok_50 rfl rfl ⟨_, _, rfl, .same _, ⟨_, _, rfl, Lend.srMap 2 rfl (fun _ => rfl) (.head _), rfl⟩⟩ (bwCons (k := 2) rfl bwNil) (ok_spec_l1Cur_among hh3) rfl (.inr ⟨(by first | omega | (dsimp only; omega)), by rintro _ _ ⟨rfl, rfl⟩; exact ⟨by simp [PV.no, PV.noL, optS_no, noL_iff, nbeq] <;> omega, by intro b ob h; first | exact optH_no (noL_map (fun _ => by simp [PV.no, PV.noL, noL_iff, nbeq]) _) b ob h | (simp only [List.append_assoc, List.mem_append, List.mem_cons, List.mem_singleton, List.not_mem_nil, or_false, Prod.mk.injEq] at h; rcases h with ⟨rfl, rfl⟩ | ⟨rfl, rfl⟩ <;> first | exact noL_map (fun _ => by simp [PV.no, PV.noL, noL_iff, nbeq]) _ | (simp [PV.no, PV.noL, optS_no, noL_iff, nbeq] <;> omega)) | (simp at h; obtain ⟨rfl, rfl⟩ := h; exact noL_map (fun _ => by simp [PV.no, PV.noL, noL_iff, nbeq]) _) | (simp at h; obtain ⟨rfl, rfl⟩ := h; simp [PV.no, PV.noL, optS_no, noL_iff, nbeq] <;> omega)⟩⟩) lt0 ?_)
         rintro _ _ ⟨rfl, rfl⟩
         refine ⟨_, _, rfl, ?_⟩
         refine WalkP.nil (NodeS.branch [7] (inCons 5 rfl inNil) rfl rfl rfl ⟨?_, trivial⟩)
         ·
          refine ⟨_, _, _, _, rfl, rfl, rfl, (⟨_, _, rfl, rfl, ⟨_, _, rfl, rfl, rfl⟩⟩), fun E1 => ?_⟩
          refine (V1.callM 0 (rn + ρ0 + 1) [b23] [.ref bp 3 0 0, .vl (rn + ρ0 + 1) 1 (List.map encInt ([(0 : Int), (30 : Int), (365 : Int), (1000 : Int)] : List Int))] (p := (bp, ⟨3, [encCur ρ0 y4.2]⟩)) rfl rfl rfl cok_50 rfl rfl ⟨_, _, rfl, .same _, ⟨_, _, rfl, Lend.srMap 1 rfl (fun _ => rfl) (.head _), rfl⟩⟩ (bwCons (k := 0) rfl bwNil) (ok_spec_l1Cur_among hh4) rfl (.inr ⟨(by first | omega | (dsimp only; omega)), by rintro _ _ ⟨rfl, rfl⟩; exact ⟨by simp [PV.no, PV.noL, optS_no, noL_iff, nbeq] <;> omega, by intro b ob h; first | exact optH_no (noL_map (fun _ => by simp [PV.no, PV.noL, noL_iff, nbeq]) _) b ob h | (simp only [List.append_assoc, List.mem_append, List.mem_cons, List.mem_singleton, List.not_mem_nil, or_false, Prod.mk.injEq] at h; rcases h with ⟨rfl, rfl⟩ | ⟨rfl, rfl⟩ <;> first | exact noL_map (fun _ => by simp [PV.no, PV.noL, noL_iff, nbeq]) _ | (simp [PV.no, PV.noL, optS_no, noL_iff, nbeq] <;> omega)) | (simp at h; obtain ⟨rfl, rfl⟩ := h; exact noL_map (fun _ => by simp [PV.no, PV.noL, noL_iff, nbeq]) _) | (simp at h; obtain ⟨rfl, rfl⟩ := h; simp [PV.no, PV.noL, optS_no, noL_iff, nbeq] <;> omega)⟩⟩) lt0 ?_)
          rintro _ _ ⟨rfl, rfl⟩
          refine ⟨_, _, rfl, ?_⟩
          refine WalkP.nil (NodeS.branch [9] (inCons 5 rfl inNil) rfl rfl rfl ⟨?_, trivial⟩)
          ·
           refine ⟨_, _, _, _, rfl, rfl, rfl, (⟨_, _, rfl, rfl, rfl⟩), fun E1 => ?_⟩
           refine (V1.callM 0 (rn + ρ0 + 1) [] [.ref bp 3 0 0, .int .i64 (3 : Int)] (p := (bp, ⟨3, [encCur ρ0 y5.2]⟩)) rfl rfl rfl cok_84 rfl rfl ⟨_, _, rfl, .same _, ⟨_, _, rfl, .same _, rfl⟩⟩ bwNil (ok_spec_l1Cur_pick hh5) rfl (.inl rfl) lt0 ?_)
           rintro _ _ ⟨rfl, rfl⟩
           refine ⟨_, _, rfl, ?_⟩
           refine WalkP.step (p := ?pv2367) 10 rfl rfl rfl rfl rfl (⟨_, _, rfl, rfl, rfl⟩) ?hv2367 ?rest2367
           case hv2367 =>
            intro E1 H1 hI1
            refine (V1.it ?_)
            exact rfl
           refine WalkP.step (p := ?pv2368) 11 rfl rfl rfl rfl rfl (⟨_, _, rfl, rfl, ⟨_, _, rfl, rfl, ⟨_, _, rfl, rfl, ⟨_, _, rfl, rfl, rfl⟩⟩⟩⟩) ?hv2368 ?rest2368
           case hv2368 =>
            intro E1 H1 hI1
            refine (V1.build rfl rfl zk_109 pl_109 rfl rfl lt0 ?_)
            exact rfl
           refine WalkP.nil (NodeS.fin (inCons 5 rfl inNil) rfl rfl rfl (⟨_, _, rfl, rfl, ⟨_, _, rfl, rfl, ⟨_, _, rfl, rfl, ⟨_, _, rfl, rfl, ⟨_, _, rfl, rfl, ⟨_, _, rfl, rfl, rfl⟩⟩⟩⟩⟩⟩) ?_)
           refine VO.cons rfl (V1.storeRefAll (k := 2) rfl rfl tyk_109 rfl rfl rfl rfl rfl rfl ?_)
           refine VO.nil ?_
           exact ⟨(y6.2, b21), oi hm3, Keeps.mk (ks := [2, 0, 4, 5]) rfl ⟨rfl, rfl, rfl, rfl, rfl, trivial⟩ (⟨_, _, rfl, rfl, ⟨_, _, rfl, rfl, ⟨_, _, rfl, rfl, ⟨_, _, rfl, rfl, rfl⟩⟩⟩⟩) rfl⟩
     ·
      refine ⟨_, _, _, _, rfl, rfl, rfl, (rfl), fun E1 => ?_⟩
      refine (V1.buildSliceT (f := encInt) ([(0 : Int), (30 : Int), (365 : Int), (1000 : Int)] : List Int) rfl rfl esz_69 zk_3 rfl rfl rfl rfl rfl rfl rfl lt0 ?_)
      intro b24
      refine ⟨_, _, rfl, ?_⟩
      refine WalkP.nil (NodeS.branch [3, 12] (inCons 3 rfl inNil) rfl rfl rfl ⟨?_, ?_, trivial⟩)
      ·
       refine ⟨_, _, _, _, rfl, rfl, rfl, (rfl), fun E1 => ?_⟩
       refine (V1.buildSliceT (f := encInt) ([(0 : Int), (0 : Int), (1 : Int), (2 : Int), (3 : Int)] : List Int) rfl rfl esz_69 zk_3 rfl rfl rfl rfl rfl rfl rfl lt0 ?_)
       intro b25
       refine ⟨_, _, rfl, ?_⟩
       refine WalkP.nil (NodeS.branch [4, 12] (inCons 4 rfl inNil) rfl rfl rfl ⟨?_, ?_, trivial⟩)
       ·
        refine ⟨_, _, _, _, rfl, rfl, rfl, (⟨_, _, rfl, rfl, ⟨_, _, rfl, rfl, rfl⟩⟩), fun E1 => ?_⟩
        refine (V1.callM 3 (rn + ρ0 + 1) [b25] [.ref bp 3 0 0, .vl (rn + ρ0 + 1) 1 (List.map encInt ([(0 : Int), (0 : Int), (1 : Int), (2 : Int), (3 : Int)] : List Int))] (p := (bp, ⟨3, [encCur ρ0 c_0]⟩)) rfl rfl rfl cok_50 rfl rfl ⟨_, _, rfl, .same _, ⟨_, _, rfl, Lend.srMap 0 rfl (fun _ => rfl) (.head _), rfl⟩⟩ (bwCons (k := 0) rfl bwNil) (ok_spec_l1Cur_among hh3) rfl (.inr ⟨(by first | omega | (dsimp only; omega)), by rintro _ _ ⟨rfl, rfl⟩; exact ⟨by simp [PV.no, PV.noL, optS_no, noL_iff, nbeq] <;> omega, by intro b ob h; first | exact optH_no (noL_map (fun _ => by simp [PV.no, PV.noL, noL_iff, nbeq]) _) b ob h | (simp only [List.append_assoc, List.mem_append, List.mem_cons, List.mem_singleton, List.not_mem_nil, or_false, Prod.mk.injEq] at h; rcases h with ⟨rfl, rfl⟩ | ⟨rfl, rfl⟩ <;> first | exact noL_map (fun _ => by simp [PV.no, PV.noL, noL_iff, nbeq]) _ | (simp [PV.no, PV.noL, optS_no, noL_iff, nbeq] <;> omega)) | (simp at h; obtain ⟨rfl, rfl⟩ := h; exact noL_map (fun _ => by simp [PV.no, PV.noL, noL_iff, nbeq]) _) | (simp at h; obtain ⟨rfl, rfl⟩ := h; simp [PV.no, PV.noL, optS_no, noL_iff, nbeq] <;> omega)⟩⟩) lt0 ?_)
        rintro _ _ ⟨rfl, rfl⟩
        refine ⟨_, _, rfl, ?_⟩
        refine WalkP.nil (NodeS.branch [7, 12] (inCons 4 rfl inNil) rfl rfl rfl ⟨?_, ?_, trivial⟩)
        ·
         refine ⟨_, _, _, _, rfl, rfl, rfl, (⟨_, _, rfl, rfl, ⟨_, _, rfl, rfl, rfl⟩⟩), fun E1 => ?_⟩
         refine (V1.callM 0 (rn + ρ0 + 1) [b24] [.ref bp 3 0 0, .vl (rn + ρ0 + 1) 1 (List.map encInt ([(0 : Int), (30 : Int), (365 : Int), (1000 : Int)] : List Int))] (p := (bp, ⟨3, [encCur ρ0 y4.2]⟩)) rfl rfl rfl cok_50 rfl rfl ⟨_, _, rfl, .same _, ⟨_, _, rfl, Lend.srMap 2 rfl (fun _ => rfl) (.head _), rfl⟩⟩ (bwCons (k := 1) rfl bwNil) (ok_spec_l1Cur_among hh4) rfl (.inr ⟨(by first | omega | (dsimp only; omega)), by rintro _ _ ⟨rfl, rfl⟩; exact ⟨by simp [PV.no, PV.noL, optS_no, noL_iff, nbeq] <;> omega, by intro b ob h; first | exact optH_no (noL_map (fun _ => by simp [PV.no, PV.noL, noL_iff, nbeq]) _) b ob h | (simp only [List.append_assoc, List.mem_append, List.mem_cons, List.mem_singleton, List.not_mem_nil, or_false, Prod.mk.injEq] at h; rcases h with ⟨rfl, rfl⟩ | ⟨rfl, rfl⟩ <;> first | exact noL_map (fun _ => by simp [PV.no, PV.noL, noL_iff, nbeq]) _ | (simp [PV.no, PV.noL, optS_no, noL_iff, nbeq] <;> omega)) | (simp at h; obtain ⟨rfl, rfl⟩ := h; exact noL_map (fun _ => by simp [PV.no, PV.noL, noL_iff, nbeq]) _) | (simp at h; obtain ⟨rfl, rfl⟩ := h; simp [PV.no, PV.noL, optS_no, noL_iff, nbeq] <;> omega)⟩⟩) lt0 ?_)
         rintro _ _ ⟨rfl, rfl⟩
         refine ⟨_, _, rfl, ?_⟩
         refine WalkP.nil (NodeS.branch [9, 12] (inCons 4 rfl inNil) rfl rfl rfl ⟨?_, ?_, trivial⟩)
         ·
          refine ⟨_, _, _, _, rfl, rfl, rfl, (⟨_, _, rfl, rfl, rfl⟩), fun E1 => ?_⟩
          refine (V1.callM 0 (rn + ρ0 + 1) [] [.ref bp 3 0 0, .int .i64 (3 : Int)] (p := (bp, ⟨3, [encCur ρ0 y5.2]⟩)) rfl rfl rfl cok_84 rfl rfl ⟨_, _, rfl, .same _, ⟨_, _, rfl, .same _, rfl⟩⟩ bwNil (ok_spec_l1Cur_pick hh5) rfl (.inl rfl) lt0 ?_)
          rintro _ _ ⟨rfl, rfl⟩
          refine ⟨_, _, rfl, ?_⟩
          refine WalkP.step (p := ?pv2369) 10 rfl rfl rfl rfl rfl (⟨_, _, rfl, rfl, rfl⟩) ?hv2369 ?rest2369
          case hv2369 =>
           intro E1 H1 hI1
           refine (V1.it ?_)
           exact rfl
          refine WalkP.step (p := ?pv2370) 11 rfl rfl rfl rfl rfl (⟨_, _, rfl, rfl, ⟨_, _, rfl, rfl, ⟨_, _, rfl, rfl, ⟨_, _, rfl, rfl, rfl⟩⟩⟩⟩) ?hv2370 ?rest2370
          case hv2370 =>
           intro E1 H1 hI1
           refine (V1.build rfl rfl zk_109 pl_109 rfl rfl lt0 ?_)
           exact rfl
          refine WalkP.nil (NodeS.branch [12] (inCons 4 rfl inNil) rfl rfl rfl ⟨?_, trivial⟩)
          ·
           refine ⟨_, _, _, _, rfl, rfl, rfl, (rfl), fun E1 => ?_⟩
           refine (V1.alloc rfl rfl zk_109 lt0 ?_)
           intro b26
           refine ⟨_, _, rfl, ?_⟩
           refine WalkP.nil (NodeS.fin (inCons 5 rfl inNil) rfl rfl rfl (⟨_, _, rfl, rfl, ⟨_, _, rfl, rfl, ⟨_, _, rfl, rfl, ⟨_, _, rfl, rfl, ⟨_, _, rfl, rfl, ⟨_, _, rfl, rfl, rfl⟩⟩⟩⟩⟩⟩) ?_)
           refine VO.cons rfl (V1.storeRefAll (k := 0) rfl rfl tyk_109 rfl rfl rfl rfl rfl rfl ?_)
           refine VO.nil ?_
           exact ⟨(y6.2, b26), oi hm3, Keeps.mk (ks := [0, 1, 4, 5]) rfl ⟨rfl, rfl, rfl, rfl, rfl, trivial⟩ (⟨_, _, rfl, rfl, ⟨_, _, rfl, rfl, ⟨_, _, rfl, rfl, ⟨_, _, rfl, rfl, rfl⟩⟩⟩⟩) rfl⟩
         ·
          refine ⟨_, _, _, _, rfl, rfl, rfl, (rfl), fun E1 => ?_⟩
          refine (V1.alloc rfl rfl zk_109 lt0 ?_)
          intro b27
          refine ⟨_, _, rfl, ?_⟩
          refine WalkP.nil (NodeS.branch [9] (inCons 5 rfl inNil) rfl rfl rfl ⟨?_, trivial⟩)
          ·
           refine ⟨_, _, _, _, rfl, rfl, rfl, (⟨_, _, rfl, rfl, rfl⟩), fun E1 => ?_⟩
           refine (V1.callM 1 (rn + ρ0 + 1) [] [.ref bp 3 0 0, .int .i64 (3 : Int)] (p := (bp, ⟨3, [encCur ρ0 y5.2]⟩)) rfl rfl rfl cok_84 rfl rfl ⟨_, _, rfl, .same _, ⟨_, _, rfl, .same _, rfl⟩⟩ bwNil (ok_spec_l1Cur_pick hh5) rfl (.inl rfl) lt0 ?_)
           rintro _ _ ⟨rfl, rfl⟩
           refine ⟨_, _, rfl, ?_⟩
           refine WalkP.step (p := ?pv2371) 10 rfl rfl rfl rfl rfl (⟨_, _, rfl, rfl, rfl⟩) ?hv2371 ?rest2371
           case hv2371 =>
            intro E1 H1 hI1
            refine (V1.it ?_)
            exact rfl
           refine WalkP.step (p := ?pv2372) 11 rfl rfl rfl rfl rfl (⟨_, _, rfl, rfl, ⟨_, _, rfl, rfl, ⟨_, _, rfl, rfl, ⟨_, _, rfl, rfl, rfl⟩⟩⟩⟩) ?hv2372 ?rest2372
           case hv2372 =>
            intro E1 H1 hI1
            refine (V1.build rfl rfl zk_109 pl_109 rfl rfl lt0 ?_)
            exact rfl
           refine WalkP.nil (NodeS.fin (inCons 5 rfl inNil) rfl rfl rfl (⟨_, _, rfl, rfl, ⟨_, _, rfl, rfl, ⟨_, _, rfl, rfl, ⟨_, _, rfl, rfl, ⟨_, _, rfl, rfl, ⟨_, _, rfl, rfl, rfl⟩⟩⟩⟩⟩⟩) ?_)
           refine VO.cons rfl (V1.storeRefAll (k := 1) rfl rfl tyk_109 rfl rfl rfl rfl rfl rfl ?_)
           refine VO.nil ?_
           exact ⟨(y6.2, b27), oi hm3, Keeps.mk (ks := [1, 0, 4, 5]) rfl ⟨rfl, rfl, rfl, rfl, rfl, trivial⟩ (⟨_, _, rfl, rfl, ⟨_, _, rfl, rfl, ⟨_, _, rfl, rfl, ⟨_, _, rfl, rfl, rfl⟩⟩⟩⟩) rfl⟩
        ·
         refine ⟨_, _, _, _, rfl, rfl, rfl, (rfl), fun E1 => ?_⟩
         refine (V1.alloc rfl rfl zk_109 lt0 ?_)
         intro b28
         refine ⟨_, _, rfl, ?_⟩
         refine WalkP.nil (NodeS.branch [7] (inCons 5 rfl inNil) rfl rfl rfl ⟨?_, trivial⟩)
         ·
          refine ⟨_, _, _, _, rfl, rfl, rfl, (⟨_, _, rfl, rfl, ⟨_, _, rfl, rfl, rfl⟩⟩), fun E1 => ?_⟩
          refine (V1.callM 1 (rn + ρ0 + 1) [b24] [.ref bp 3 0 0, .vl (rn + ρ0 + 1) 1 (List.map encInt ([(0 : Int), (30 : Int), (365 : Int), (1000 : Int)] : List Int))] (p := (bp, ⟨3, [encCur ρ0 y4.2]⟩)) rfl rfl rfl cok_50 rfl rfl ⟨_, _, rfl, .same _, ⟨_, _, rfl, Lend.srMap 3 rfl (fun _ => rfl) (.head _), rfl⟩⟩ (bwCons (k := 2) rfl bwNil) (ok_spec_l1Cur_among hh4) rfl (.inr ⟨(by first | omega | (dsimp only; omega)), by rintro _ _ ⟨rfl, rfl⟩; exact ⟨by simp [PV.no, PV.noL, optS_no, noL_iff, nbeq] <;> omega, by intro b ob h; first | exact optH_no (noL_map (fun _ => by simp [PV.no, PV.noL, noL_iff, nbeq]) _) b ob h | (simp only [List.append_assoc, List.mem_append, List.mem_cons, List.mem_singleton, List.not_mem_nil, or_false, Prod.mk.injEq] at h; rcases h with ⟨rfl, rfl⟩ | ⟨rfl, rfl⟩ <;> first | exact noL_map (fun _ => by simp [PV.no, PV.noL, noL_iff, nbeq]) _ | (simp [PV.no, PV.noL, optS_no, noL_iff, nbeq] <;> omega)) | (simp at h; obtain ⟨rfl, rfl⟩ := h; exact noL_map (fun _ => by simp [PV.no, PV.noL, noL_iff, nbeq]) _) | (simp at h; obtain ⟨rfl, rfl⟩ := h; simp [PV.no, PV.noL, optS_no, noL_iff, nbeq] <;> omega)⟩⟩) lt0 ?_)
          rintro _ _ ⟨rfl, rfl⟩
          refine ⟨_, _, rfl, ?_⟩
          refine WalkP.nil (NodeS.branch [9] (inCons 5 rfl inNil) rfl rfl rfl ⟨?_, trivial⟩)
          ·
           refine ⟨_, _, _, _, rfl, rfl, rfl, (⟨_, _, rfl, rfl, rfl⟩), fun E1 => ?_⟩
           refine (V1.callM 0 (rn + ρ0 + 1) [] [.ref bp 3 0 0, .int .i64 (3 : Int)] (p := (bp, ⟨3, [encCur ρ0 y5.2]⟩)) rfl rfl rfl cok_84 rfl rfl ⟨_, _, rfl, .same _, ⟨_, _, rfl, .same _, rfl⟩⟩ bwNil (ok_spec_l1Cur_pick hh5) rfl (.inl rfl) lt0 ?_)
           rintro _ _ ⟨rfl, rfl⟩
           refine ⟨_, _, rfl, ?_⟩
           refine WalkP.step (p := ?pv2373) 10 rfl rfl rfl rfl rfl (⟨_, _, rfl, rfl, rfl⟩) ?hv2373 ?rest2373
           case hv2373 =>
            intro E1 H1 hI1
            refine (V1.it ?_)
            exact rfl
           refine WalkP.step (p := ?pv2374) 11 rfl rfl rfl rfl rfl (⟨_, _, rfl, rfl, ⟨_, _, rfl, rfl, ⟨_, _, rfl, rfl, ⟨_, _, rfl, rfl, rfl⟩⟩⟩⟩) ?hv2374 ?rest2374
           case hv2374 =>
            intro E1 H1 hI1
            refine (V1.build rfl rfl zk_109 pl_109 rfl rfl lt0 ?_)
            exact rfl
           refine WalkP.nil (NodeS.fin (inCons 5 rfl inNil) rfl rfl rfl (⟨_, _, rfl, rfl, ⟨_, _, rfl, rfl, ⟨_, _, rfl, rfl, ⟨_, _, rfl, rfl, ⟨_, _, rfl, rfl, ⟨_, _, rfl, rfl, rfl⟩⟩⟩⟩⟩⟩) ?_)
           refine VO.cons rfl (V1.storeRefAll (k := 1) rfl rfl tyk_109 rfl rfl rfl rfl rfl rfl ?_)
           refine VO.nil ?_
           exact ⟨(y6.2, b28), oi hm3, Keeps.mk (ks := [1, 0, 4, 5]) rfl ⟨rfl, rfl, rfl, rfl, rfl, trivial⟩ (⟨_, _, rfl, rfl, ⟨_, _, rfl, rfl, ⟨_, _, rfl, rfl, ⟨_, _, rfl, rfl, rfl⟩⟩⟩⟩) rfl⟩
       ·
        refine ⟨_, _, _, _, rfl, rfl, rfl, (rfl), fun E1 => ?_⟩
        refine (V1.alloc rfl rfl zk_109 lt0 ?_)
        intro b29
        refine ⟨_, _, rfl, ?_⟩
        refine WalkP.nil (NodeS.branch [4] (inCons 5 rfl inNil) rfl rfl rfl ⟨?_, trivial⟩)
        ·
         refine ⟨_, _, _, _, rfl, rfl, rfl, (⟨_, _, rfl, rfl, ⟨_, _, rfl, rfl, rfl⟩⟩), fun E1 => ?_⟩
         refine (V1.callM 4 (rn + ρ0 + 1) [b25] [.ref bp 3 0 0, .vl (rn + ρ0 + 1) 1 (List.map encInt ([(0 : Int), (0 : Int), (1 : Int), (2 : Int), (3 : Int)] : List Int))] (p := (bp, ⟨3, [encCur ρ0 c_0]⟩)) rfl rfl rfl cok_50 rfl rfl ⟨_, _, rfl, .same _, ⟨_, _, rfl, Lend.srMap 1 rfl (fun _ => rfl) (.head _), rfl⟩⟩ (bwCons (k := 1) rfl bwNil) (ok_spec_l1Cur_among hh3) rfl (.inr ⟨(by first | omega | (dsimp only; omega)), by rintro _ _ ⟨rfl, rfl⟩; exact ⟨by simp [PV.no, PV.noL, optS_no, noL_iff, nbeq] <;> omega, by intro b ob h; first | exact optH_no (noL_map (fun _ => by simp [PV.no, PV.noL, noL_iff, nbeq]) _) b ob h | (simp only [List.append_assoc, List.mem_append, List.mem_cons, List.mem_singleton, List.not_mem_nil, or_false, Prod.mk.injEq] at h; rcases h with ⟨rfl, rfl⟩ | ⟨rfl, rfl⟩ <;> first | exact noL_map (fun _ => by simp [PV.no, PV.noL, noL_iff, nbeq]) _ | (simp [PV.no, PV.noL, optS_no, noL_iff, nbeq] <;> omega)) | (simp at h; obtain ⟨rfl, rfl⟩ := h; exact noL_map (fun _ => by simp [PV.no, PV.noL, noL_iff, nbeq]) _) | (simp at h; obtain ⟨rfl, rfl⟩ := h; simp [PV.no, PV.noL, optS_no, noL_iff, nbeq] <;> omega)⟩⟩) lt0 ?_)
         rintro _ _ ⟨rfl, rfl⟩
         refine ⟨_, _, rfl, ?_⟩
         refine WalkP.nil (NodeS.branch [7] (inCons 5 rfl inNil) rfl rfl rfl ⟨?_, trivial⟩)
         ·
          refine ⟨_, _, _, _, rfl, rfl, rfl, (⟨_, _, rfl, rfl, ⟨_, _, rfl, rfl, rfl⟩⟩), fun E1 => ?_⟩
          refine (V1.callM 0 (rn + ρ0 + 1) [b24] [.ref bp 3 0 0, .vl (rn + ρ0 + 1) 1 (List.map encInt ([(0 : Int), (30 : Int), (365 : Int), (1000 : Int)] : List Int))] (p := (bp, ⟨3, [encCur ρ0 y4.2]⟩)) rfl rfl rfl cok_50 rfl rfl ⟨_, _, rfl, .same _, ⟨_, _, rfl, Lend.srMap 3 rfl (fun _ => rfl) (.head _), rfl⟩⟩ (bwCons (k := 2) rfl bwNil) (ok_spec_l1Cur_among hh4) rfl (.inr ⟨(by first | omega | (dsimp only; omega)), by rintro _ _ ⟨rfl, rfl⟩; exact ⟨by simp [PV.no, PV.noL, optS_no, noL_iff, nbeq] <;> omega, by intro b ob h; first | exact optH_no (noL_map (fun _ => by simp [PV.no, PV.noL, noL_iff, nbeq]) _) b ob h | (simp only [List.append_assoc, List.mem_append, List.mem_cons, List.mem_singleton, List.not_mem_nil, or_false, Prod.mk.injEq] at h; rcases h with ⟨rfl, rfl⟩ | ⟨rfl, rfl⟩ <;> first | exact noL_map (fun _ => by simp [PV.no, PV.noL, noL_iff, nbeq]) _ | (simp [PV.no, PV.noL, optS_no, noL_iff, nbeq] <;> omega)) | (simp at h; obtain ⟨rfl, rfl⟩ := h; exact noL_map (fun _ => by simp [PV.no, PV.noL, noL_iff, nbeq]) _) | (simp at h; obtain ⟨rfl, rfl⟩ := h; simp [PV.no, PV.noL, optS_no, noL_iff, nbeq] <;> omega)⟩⟩) lt0 ?_)
          rintro _ _ ⟨rfl, rfl⟩
          refine ⟨_, _, rfl, ?_⟩
          refine WalkP.nil (NodeS.branch [9] (inCons 5 rfl inNil) rfl rfl rfl ⟨?_, trivial⟩)
          ·
           refine ⟨_, _, _, _, rfl, rfl, rfl, (⟨_, _, rfl, rfl, rfl⟩), fun E1 => ?_⟩
           refine (V1.callM 0 (rn + ρ0 + 1) [] [.ref bp 3 0 0, .int .i64 (3 : Int)] (p := (bp, ⟨3, [encCur ρ0 y5.2]⟩)) rfl rfl rfl cok_84 rfl rfl ⟨_, _, rfl, .same _, ⟨_, _, rfl, .same _, rfl⟩⟩ bwNil (ok_spec_l1Cur_pick hh5) rfl (.inl rfl) lt0 ?_)
           rintro _ _ ⟨rfl, rfl⟩
           refine ⟨_, _, rfl, ?_⟩
           refine WalkP.step (p := ?pv2375) 10 rfl rfl rfl rfl rfl (⟨_, _, rfl, rfl, rfl⟩) ?hv2375 ?rest2375
           case hv2375 =>
            intro E1 H1 hI1
            refine (V1.it ?_)
            exact rfl
           refine WalkP.step (p := ?pv2376) 11 rfl rfl rfl rfl rfl (⟨_, _, rfl, rfl, ⟨_, _, rfl, rfl, ⟨_, _, rfl, rfl, ⟨_, _, rfl, rfl, rfl⟩⟩⟩⟩) ?hv2376 ?rest2376
           case hv2376 =>
            intro E1 H1 hI1
            refine (V1.build rfl rfl zk_109 pl_109 rfl rfl lt0 ?_)
            exact rfl
           refine WalkP.nil (NodeS.fin (inCons 5 rfl inNil) rfl rfl rfl (⟨_, _, rfl, rfl, ⟨_, _, rfl, rfl, ⟨_, _, rfl, rfl, ⟨_, _, rfl, rfl, ⟨_, _, rfl, rfl, ⟨_, _, rfl, rfl, rfl⟩⟩⟩⟩⟩⟩) ?_)
           refine VO.cons rfl (V1.storeRefAll (k := 1) rfl rfl tyk_109 rfl rfl rfl rfl rfl rfl ?_)
           refine VO.nil ?_
           exact ⟨(y6.2, b29), oi hm3, Keeps.mk (ks := [1, 0, 4, 5]) rfl ⟨rfl, rfl, rfl, rfl, rfl, trivial⟩ (⟨_, _, rfl, rfl, ⟨_, _, rfl, rfl, ⟨_, _, rfl, rfl, ⟨_, _, rfl, rfl, rfl⟩⟩⟩⟩) rfl⟩
      ·
       refine ⟨_, _, _, _, rfl, rfl, rfl, (rfl), fun E1 => ?_⟩
       refine (V1.alloc rfl rfl zk_109 lt0 ?_)
       intro b30
       refine ⟨_, _, rfl, ?_⟩
       refine WalkP.nil (NodeS.branch [3] (inCons 4 rfl inNil) rfl rfl rfl ⟨?_, trivial⟩)
       ·
        refine ⟨_, _, _, _, rfl, rfl, rfl, (rfl), fun E1 => ?_⟩
        refine (V1.buildSliceT (f := encInt) ([(0 : Int), (0 : Int), (1 : Int), (2 : Int), (3 : Int)] : List Int) rfl rfl esz_69 zk_3 rfl rfl rfl rfl rfl rfl rfl lt0 ?_)
        intro b31
        refine ⟨_, _, rfl, ?_⟩
        refine WalkP.nil (NodeS.branch [4] (inCons 5 rfl inNil) rfl rfl rfl ⟨?_, trivial⟩)
        ·
         refine ⟨_, _, _, _, rfl, rfl, rfl, (⟨_, _, rfl, rfl, ⟨_, _, rfl, rfl, rfl⟩⟩), fun E1 => ?_⟩
         refine (V1.callM 4 (rn + ρ0 + 1) [b31] [.ref bp 3 0 0, .vl (rn + ρ0 + 1) 1 (List.map encInt ([(0 : Int), (0 : Int), (1 : Int), (2 : Int), (3 : Int)] : List Int))] (p := (bp, ⟨3, [encCur ρ0 c_0]⟩)) rfl rfl rfl cok_50 rfl rfl ⟨_, _, rfl, .same _, ⟨_, _, rfl, Lend.srMap 0 rfl (fun _ => rfl) (.head _), rfl⟩⟩ (bwCons (k := 0) rfl bwNil) (ok_spec_l1Cur_among hh3) rfl (.inr ⟨(by first | omega | (dsimp only; omega)), by rintro _ _ ⟨rfl, rfl⟩; exact ⟨by simp [PV.no, PV.noL, optS_no, noL_iff, nbeq] <;> omega, by intro b ob h; first | exact optH_no (noL_map (fun _ => by simp [PV.no, PV.noL, noL_iff, nbeq]) _) b ob h | (simp only [List.append_assoc, List.mem_append, List.mem_cons, List.mem_singleton, List.not_mem_nil, or_false, Prod.mk.injEq] at h; rcases h with ⟨rfl, rfl⟩ | ⟨rfl, rfl⟩ <;> first | exact noL_map (fun _ => by simp [PV.no, PV.noL, noL_iff, nbeq]) _ | (simp [PV.no, PV.noL, optS_no, noL_iff, nbeq] <;> omega)) | (simp at h; obtain ⟨rfl, rfl⟩ := h; exact noL_map (fun _ => by simp [PV.no, PV.noL, noL_iff, nbeq]) _) | (simp at h; obtain ⟨rfl, rfl⟩ := h; simp [PV.no, PV.noL, optS_no, noL_iff, nbeq] <;> omega)⟩⟩) lt0 ?_)
         rintro _ _ ⟨rfl, rfl⟩
         refine ⟨_, _, rfl, ?_⟩
         refine WalkP.nil (NodeS.branch [7] (inCons 5 rfl inNil) rfl rfl rfl ⟨?_, trivial⟩)
         ·
          refine ⟨_, _, _, _, rfl, rfl, rfl, (⟨_, _, rfl, rfl, ⟨_, _, rfl, rfl, rfl⟩⟩), fun E1 => ?_⟩
          refine (V1.callM 0 (rn + ρ0 + 1) [b24] [.ref bp 3 0 0, .vl (rn + ρ0 + 1) 1 (List.map encInt ([(0 : Int), (30 : Int), (365 : Int), (1000 : Int)] : List Int))] (p := (bp, ⟨3, [encCur ρ0 y4.2]⟩)) rfl rfl rfl cok_50 rfl rfl ⟨_, _, rfl, .same _, ⟨_, _, rfl, Lend.srMap 3 rfl (fun _ => rfl) (.head _), rfl⟩⟩ (bwCons (k := 2) rfl bwNil) (ok_spec_l1Cur_among hh4) rfl (.inr ⟨(by first | omega | (dsimp only; omega)), by rintro _ _ ⟨rfl, rfl⟩; exact ⟨by simp [PV.no, PV.noL, optS_no, noL_iff, nbeq] <;> omega, by intro b ob h; first | exact optH_no (noL_map (fun _ => by simp [PV.no, PV.noL, noL_iff, nbeq]) _) b ob h | (simp only [List.append_assoc, List.mem_append, List.mem_cons, List.mem_singleton, List.not_mem_nil, or_false, Prod.mk.injEq] at h; rcases h with ⟨rfl, rfl⟩ | ⟨rfl, rfl⟩ <;> first | exact noL_map (fun _ => by simp [PV.no, PV.noL, noL_iff, nbeq]) _ | (simp [PV.no, PV.noL, optS_no, noL_iff, nbeq] <;> omega)) | (simp at h; obtain ⟨rfl, rfl⟩ := h; exact noL_map (fun _ => by simp [PV.no, PV.noL, noL_iff, nbeq]) _) | (simp at h; obtain ⟨rfl, rfl⟩ := h; simp [PV.no, PV.noL, optS_no, noL_iff, nbeq] <;> omega)⟩⟩) lt0 ?_)
          rintro _ _ ⟨rfl, rfl⟩
          refine ⟨_, _, rfl, ?_⟩
          refine WalkP.nil (NodeS.branch [9] (inCons 5 rfl inNil) rfl rfl rfl ⟨?_, trivial⟩)
          ·
           refine ⟨_, _, _, _, rfl, rfl, rfl, (⟨_, _, rfl, rfl, rfl⟩), fun E1 => ?_⟩
           refine (V1.callM 0 (rn + ρ0 + 1) [] [.ref bp 3 0 0, .int .i64 (3 : Int)] (p := (bp, ⟨3, [encCur ρ0 y5.2]⟩)) rfl rfl rfl cok_84 rfl rfl ⟨_, _, rfl, .same _, ⟨_, _, rfl, .same _, rfl⟩⟩ bwNil (ok_spec_l1Cur_pick hh5) rfl (.inl rfl) lt0 ?_)
           rintro _ _ ⟨rfl, rfl⟩
           refine ⟨_, _, rfl, ?_⟩
           refine WalkP.step (p := ?pv2377) 10 rfl rfl rfl rfl rfl (⟨_, _, rfl, rfl, rfl⟩) ?hv2377 ?rest2377
           case hv2377 =>
            intro E1 H1 hI1
            refine (V1.it ?_)
            exact rfl
           refine WalkP.step (p := ?pv2378) 11 rfl rfl rfl rfl rfl (⟨_, _, rfl, rfl, ⟨_, _, rfl, rfl, ⟨_, _, rfl, rfl, ⟨_, _, rfl, rfl, rfl⟩⟩⟩⟩) ?hv2378 ?rest2378
           case hv2378 =>
            intro E1 H1 hI1
            refine (V1.build rfl rfl zk_109 pl_109 rfl rfl lt0 ?_)
            exact rfl
           refine WalkP.nil (NodeS.fin (inCons 5 rfl inNil) rfl rfl rfl (⟨_, _, rfl, rfl, ⟨_, _, rfl, rfl, ⟨_, _, rfl, rfl, ⟨_, _, rfl, rfl, ⟨_, _, rfl, rfl, ⟨_, _, rfl, rfl, rfl⟩⟩⟩⟩⟩⟩) ?_)
           refine VO.cons rfl (V1.storeRefAll (k := 2) rfl rfl tyk_109 rfl rfl rfl rfl rfl rfl ?_)
           refine VO.nil ?_
           exact ⟨(y6.2, b30), oi hm3, Keeps.mk (ks := [2, 0, 4, 5]) rfl ⟨rfl, rfl, rfl, rfl, rfl, trivial⟩ (⟨_, _, rfl, rfl, ⟨_, _, rfl, rfl, ⟨_, _, rfl, rfl, ⟨_, _, rfl, rfl, rfl⟩⟩⟩⟩) rfl⟩
     ·
      refine ⟨_, _, _, _, rfl, rfl, rfl, (rfl), fun E1 => ?_⟩
      refine (V1.alloc rfl rfl zk_109 lt0 ?_)
      intro b32
      refine ⟨_, _, rfl, ?_⟩
      refine WalkP.nil (NodeS.branch [3, 6] (inCons 3 rfl inNil) rfl rfl rfl ⟨?_, ?_, trivial⟩)
      ·
       refine ⟨_, _, _, _, rfl, rfl, rfl, (rfl), fun E1 => ?_⟩
       refine (V1.buildSliceT (f := encInt) ([(0 : Int), (0 : Int), (1 : Int), (2 : Int), (3 : Int)] : List Int) rfl rfl esz_69 zk_3 rfl rfl rfl rfl rfl rfl rfl lt0 ?_)
       intro b33
       refine ⟨_, _, rfl, ?_⟩
       refine WalkP.nil (NodeS.branch [4, 6] (inCons 4 rfl inNil) rfl rfl rfl ⟨?_, ?_, trivial⟩)
       ·
        refine ⟨_, _, _, _, rfl, rfl, rfl, (⟨_, _, rfl, rfl, ⟨_, _, rfl, rfl, rfl⟩⟩), fun E1 => ?_⟩
        refine (V1.callM 3 (rn + ρ0 + 1) [b33] [.ref bp 3 0 0, .vl (rn + ρ0 + 1) 1 (List.map encInt ([(0 : Int), (0 : Int), (1 : Int), (2 : Int), (3 : Int)] : List Int))] (p := (bp, ⟨3, [encCur ρ0 c_0]⟩)) rfl rfl rfl cok_50 rfl rfl ⟨_, _, rfl, .same _, ⟨_, _, rfl, Lend.srMap 0 rfl (fun _ => rfl) (.head _), rfl⟩⟩ (bwCons (k := 0) rfl bwNil) (ok_spec_l1Cur_among hh3) rfl (.inr ⟨(by first | omega | (dsimp only; omega)), by rintro _ _ ⟨rfl, rfl⟩; exact ⟨by simp [PV.no, PV.noL, optS_no, noL_iff, nbeq] <;> omega, by intro b ob h; first | exact optH_no (noL_map (fun _ => by simp [PV.no, PV.noL, noL_iff, nbeq]) _) b ob h | (simp only [List.append_assoc, List.mem_append, List.mem_cons, List.mem_singleton, List.not_mem_nil, or_false, Prod.mk.injEq] at h; rcases h with ⟨rfl, rfl⟩ | ⟨rfl, rfl⟩ <;> first | exact noL_map (fun _ => by simp [PV.no, PV.noL, noL_iff, nbeq]) _ | (simp [PV.no, PV.noL, optS_no, noL_iff, nbeq] <;> omega)) | (simp at h; obtain ⟨rfl, rfl⟩ := h; exact noL_map (fun _ => by simp [PV.no, PV.noL, noL_iff, nbeq]) _) | (simp at h; obtain ⟨rfl, rfl⟩ := h; simp [PV.no, PV.noL, optS_no, noL_iff, nbeq] <;> omega)⟩⟩) lt0 ?_)
        rintro _ _ ⟨rfl, rfl⟩
        refine ⟨_, _, rfl, ?_⟩
        refine WalkP.nil (NodeS.branch [6] (inCons 4 rfl inNil) rfl rfl rfl ⟨?_, trivial⟩)
        ·
         refine ⟨_, _, _, _, rfl, rfl, rfl, (rfl), fun E1 => ?_⟩
         refine (V1.buildSliceT (f := encInt) ([(0 : Int), (30 : Int), (365 : Int), (1000 : Int)] : List Int) rfl rfl esz_69 zk_3 rfl rfl rfl rfl rfl rfl rfl lt0 ?_)
         intro b34
         refine ⟨_, _, rfl, ?_⟩
         refine WalkP.nil (NodeS.branch [7] (inCons 5 rfl inNil) rfl rfl rfl ⟨?_, trivial⟩)
         ·
          refine ⟨_, _, _, _, rfl, rfl, rfl, (⟨_, _, rfl, rfl, ⟨_, _, rfl, rfl, rfl⟩⟩), fun E1 => ?_⟩
          refine (V1.callM 1 (rn + ρ0 + 1) [b34] [.ref bp 3 0 0, .vl (rn + ρ0 + 1) 1 (List.map encInt ([(0 : Int), (30 : Int), (365 : Int), (1000 : Int)] : List Int))] (p := (bp, ⟨3, [encCur ρ0 y4.2]⟩)) rfl rfl rfl cok_50 rfl rfl ⟨_, _, rfl, .same _, ⟨_, _, rfl, Lend.srMap 0 rfl (fun _ => rfl) (.head _), rfl⟩⟩ (bwCons (k := 0) rfl bwNil) (ok_spec_l1Cur_among hh4) rfl (.inr ⟨(by first | omega | (dsimp only; omega)), by rintro _ _ ⟨rfl, rfl⟩; exact ⟨by simp [PV.no, PV.noL, optS_no, noL_iff, nbeq] <;> omega, by intro b ob h; first | exact optH_no (noL_map (fun _ => by simp [PV.no, PV.noL, noL_iff, nbeq]) _) b ob h | (simp only [List.append_assoc, List.mem_append, List.mem_cons, List.mem_singleton, List.not_mem_nil, or_false, Prod.mk.injEq] at h; rcases h with ⟨rfl, rfl⟩ | ⟨rfl, rfl⟩ <;> first | exact noL_map (fun _ => by simp [PV.no, PV.noL, noL_iff, nbeq]) _ | (simp [PV.no, PV.noL, optS_no, noL_iff, nbeq] <;> omega)) | (simp at h; obtain ⟨rfl, rfl⟩ := h; exact noL_map (fun _ => by simp [PV.no, PV.noL, noL_iff, nbeq]) _) | (simp at h; obtain ⟨rfl, rfl⟩ := h; simp [PV.no, PV.noL, optS_no, noL_iff, nbeq] <;> omega)⟩⟩) lt0 ?_)
          rintro _ _ ⟨rfl, rfl⟩
          refine ⟨_, _, rfl, ?_⟩
          refine WalkP.nil (NodeS.branch [9] (inCons 5 rfl inNil) rfl rfl rfl ⟨?_, trivial⟩)
          ·
           refine ⟨_, _, _, _, rfl, rfl, rfl, (⟨_, _, rfl, rfl, rfl⟩), fun E1 => ?_⟩
           refine (V1.callM 0 (rn + ρ0 + 1) [] [.ref bp 3 0 0, .int .i64 (3 : Int)] (p := (bp, ⟨3, [encCur ρ0 y5.2]⟩)) rfl rfl rfl cok_84 rfl rfl ⟨_, _, rfl, .same _, ⟨_, _, rfl, .same _, rfl⟩⟩ bwNil (ok_spec_l1Cur_pick hh5) rfl (.inl rfl) lt0 ?_)
           rintro _ _ ⟨rfl, rfl⟩
           refine ⟨_, _, rfl, ?_⟩
           refine WalkP.step (p := ?pv2379) 10 rfl rfl rfl rfl rfl (⟨_, _, rfl, rfl, rfl⟩) ?hv2379 ?rest2379
           case hv2379 =>
            intro E1 H1 hI1
            refine (V1.it ?_)
            exact rfl
           refine WalkP.step (p := ?pv2380) 11 rfl rfl rfl rfl rfl (⟨_, _, rfl, rfl, ⟨_, _, rfl, rfl, ⟨_, _, rfl, rfl, ⟨_, _, rfl, rfl, rfl⟩⟩⟩⟩) ?hv2380 ?rest2380
           case hv2380 =>
            intro E1 H1 hI1
            refine (V1.build rfl rfl zk_109 pl_109 rfl rfl lt0 ?_)
            exact rfl
           refine WalkP.nil (NodeS.fin (inCons 5 rfl inNil) rfl rfl rfl (⟨_, _, rfl, rfl, ⟨_, _, rfl, rfl, ⟨_, _, rfl, rfl, ⟨_, _, rfl, rfl, ⟨_, _, rfl, rfl, ⟨_, _, rfl, rfl, rfl⟩⟩⟩⟩⟩⟩) ?_)
           refine VO.cons rfl (V1.storeRefAll (k := 3) rfl rfl tyk_109 rfl rfl rfl rfl rfl rfl ?_)
           refine VO.nil ?_
           exact ⟨(y6.2, b32), oi hm3, Keeps.mk (ks := [3, 0, 4, 5]) rfl ⟨rfl, rfl, rfl, rfl, rfl, trivial⟩ (⟨_, _, rfl, rfl, ⟨_, _, rfl, rfl, ⟨_, _, rfl, rfl, ⟨_, _, rfl, rfl, rfl⟩⟩⟩⟩) rfl⟩
       ·
        refine ⟨_, _, _, _, rfl, rfl, rfl, (rfl), fun E1 => ?_⟩
        refine (V1.buildSliceT (f := encInt) ([(0 : Int), (30 : Int), (365 : Int), (1000 : Int)] : List Int) rfl rfl esz_69 zk_3 rfl rfl rfl rfl rfl rfl rfl lt0 ?_)
        intro b35
        refine ⟨_, _, rfl, ?_⟩
        refine WalkP.nil (NodeS.branch [4] (inCons 5 rfl inNil) rfl rfl rfl ⟨?_, trivial⟩)
        ·
         refine ⟨_, _, _, _, rfl, rfl, rfl, (⟨_, _, rfl, rfl, ⟨_, _, rfl, rfl, rfl⟩⟩), fun E1 => ?_⟩
         refine (V1.callM 4 (rn + ρ0 + 1) [b33] [.ref bp 3 0 0, .vl (rn + ρ0 + 1) 1 (List.map encInt ([(0 : Int), (0 : Int), (1 : Int), (2 : Int), (3 : Int)] : List Int))] (p := (bp, ⟨3, [encCur ρ0 c_0]⟩)) rfl rfl rfl cok_50 rfl rfl ⟨_, _, rfl, .same _, ⟨_, _, rfl, Lend.srMap 1 rfl (fun _ => rfl) (.head _), rfl⟩⟩ (bwCons (k := 1) rfl bwNil) (ok_spec_l1Cur_among hh3) rfl (.inr ⟨(by first | omega | (dsimp only; omega)), by rintro _ _ ⟨rfl, rfl⟩; exact ⟨by simp [PV.no, PV.noL, optS_no, noL_iff, nbeq] <;> omega, by intro b ob h; first | exact optH_no (noL_map (fun _ => by simp [PV.no, PV.noL, noL_iff, nbeq]) _) b ob h | (simp only [List.append_assoc, List.mem_append, List.mem_cons, List.mem_singleton, List.not_mem_nil, or_false, Prod.mk.injEq] at h; rcases h with ⟨rfl, rfl⟩ | ⟨rfl, rfl⟩ <;> first | exact noL_map (fun _ => by simp [PV.no, PV.noL, noL_iff, nbeq]) _ | (simp [PV.no, PV.noL, optS_no, noL_iff, nbeq] <;> omega)) | (simp at h; obtain ⟨rfl, rfl⟩ := h; exact noL_map (fun _ => by simp [PV.no, PV.noL, noL_iff, nbeq]) _) | (simp at h; obtain ⟨rfl, rfl⟩ := h; simp [PV.no, PV.noL, optS_no, noL_iff, nbeq] <;> omega)⟩⟩) lt0 ?_)
         rintro _ _ ⟨rfl, rfl⟩
         refine ⟨_, _, rfl, ?_⟩
         refine WalkP.nil (NodeS.branch [7] (inCons 5 rfl inNil) rfl rfl rfl ⟨?_, trivial⟩)
         ·
          refine ⟨_, _, _, _, rfl, rfl, rfl, (⟨_, _, rfl, rfl, ⟨_, _, rfl, rfl, rfl⟩⟩), fun E1 => ?_⟩
          refine (V1.callM 0 (rn + ρ0 + 1) [b35] [.ref bp 3 0 0, .vl (rn + ρ0 + 1) 1 (List.map encInt ([(0 : Int), (30 : Int), (365 : Int), (1000 : Int)] : List Int))] (p := (bp, ⟨3, [encCur ρ0 y4.2]⟩)) rfl rfl rfl cok_50 rfl rfl ⟨_, _, rfl, .same _, ⟨_, _, rfl, Lend.srMap 1 rfl (fun _ => rfl) (.head _), rfl⟩⟩ (bwCons (k := 0) rfl bwNil) (ok_spec_l1Cur_among hh4) rfl (.inr ⟨(by first | omega | (dsimp only; omega)), by rintro _ _ ⟨rfl, rfl⟩; exact ⟨by simp [PV.no, PV.noL, optS_no, noL_iff, nbeq] <;> omega, by intro b ob h; first | exact optH_no (noL_map (fun _ => by simp [PV.no, PV.noL, noL_iff, nbeq]) _) b ob h | (simp only [List.append_assoc, List.mem_append, List.mem_cons, List.mem_singleton, List.not_mem_nil, or_false, Prod.mk.injEq] at h; rcases h with ⟨rfl, rfl⟩ | ⟨rfl, rfl⟩ <;> first | exact noL_map (fun _ => by simp [PV.no, PV.noL, noL_iff, nbeq]) _ | (simp [PV.no, PV.noL, optS_no, noL_iff, nbeq] <;> omega)) | (simp at h; obtain ⟨rfl, rfl⟩ := h; exact noL_map (fun _ => by simp [PV.no, PV.noL, noL_iff, nbeq]) _) | (simp at h; obtain ⟨rfl, rfl⟩ := h; simp [PV.no, PV.noL, optS_no, noL_iff, nbeq] <;> omega)⟩⟩) lt0 ?_)
          rintro _ _ ⟨rfl, rfl⟩
          refine ⟨_, _, rfl, ?_⟩
          refine WalkP.nil (NodeS.branch [9] (inCons 5 rfl inNil) rfl rfl rfl ⟨?_, trivial⟩)
          ·
           refine ⟨_, _, _, _, rfl, rfl, rfl, (⟨_, _, rfl, rfl, rfl⟩), fun E1 => ?_⟩
           refine (V1.callM 0 (rn + ρ0 + 1) [] [.ref bp 3 0 0, .int .i64 (3 : Int)] (p := (bp, ⟨3, [encCur ρ0 y5.2]⟩)) rfl rfl rfl cok_84 rfl rfl ⟨_, _, rfl, .same _, ⟨_, _, rfl, .same _, rfl⟩⟩ bwNil (ok_spec_l1Cur_pick hh5) rfl (.inl rfl) lt0 ?_)
           rintro _ _ ⟨rfl, rfl⟩
           refine ⟨_, _, rfl, ?_⟩
           refine WalkP.step (p := ?pv2381) 10 rfl rfl rfl rfl rfl (⟨_, _, rfl, rfl, rfl⟩) ?hv2381 ?rest2381
           case hv2381 =>
            intro E1 H1 hI1
            refine (V1.it ?_)
            exact rfl
           refine WalkP.step (p := ?pv2382) 11 rfl rfl rfl rfl rfl (⟨_, _, rfl, rfl, ⟨_, _, rfl, rfl, ⟨_, _, rfl, rfl, ⟨_, _, rfl, rfl, rfl⟩⟩⟩⟩) ?hv2382 ?rest2382
           case hv2382 =>
            intro E1 H1 hI1
            refine (V1.build rfl rfl zk_109 pl_109 rfl rfl lt0 ?_)
            exact rfl
           refine WalkP.nil (NodeS.fin (inCons 5 rfl inNil) rfl rfl rfl (⟨_, _, rfl, rfl, ⟨_, _, rfl, rfl, ⟨_, _, rfl, rfl, ⟨_, _, rfl, rfl, ⟨_, _, rfl, rfl, ⟨_, _, rfl, rfl, rfl⟩⟩⟩⟩⟩⟩) ?_)
           refine VO.cons rfl (V1.storeRefAll (k := 3) rfl rfl tyk_109 rfl rfl rfl rfl rfl rfl ?_)
           refine VO.nil ?_
           exact ⟨(y6.2, b32), oi hm3, Keeps.mk (ks := [3, 0, 4, 5]) rfl ⟨rfl, rfl, rfl, rfl, rfl, trivial⟩ (⟨_, _, rfl, rfl, ⟨_, _, rfl, rfl, ⟨_, _, rfl, rfl, ⟨_, _, rfl, rfl, rfl⟩⟩⟩⟩) rfl⟩
      ·
       refine ⟨_, _, _, _, rfl, rfl, rfl, (rfl), fun E1 => ?_⟩
       refine (V1.buildSliceT (f := encInt) ([(0 : Int), (30 : Int), (365 : Int), (1000 : Int)] : List Int) rfl rfl esz_69 zk_3 rfl rfl rfl rfl rfl rfl rfl lt0 ?_)
       intro b36
       refine ⟨_, _, rfl, ?_⟩
       refine WalkP.nil (NodeS.branch [3] (inCons 4 rfl inNil) rfl rfl rfl ⟨?_, trivial⟩)
       ·
        refine ⟨_, _, _, _, rfl, rfl, rfl, (rfl), fun E1 => ?_⟩
        refine (V1.buildSliceT (f := encInt) ([(0 : Int), (0 : Int), (1 : Int), (2 : Int), (3 : Int)] : List Int) rfl rfl esz_69 zk_3 rfl rfl rfl rfl rfl rfl rfl lt0 ?_)
        intro b37
        refine ⟨_, _, rfl, ?_⟩
        refine WalkP.nil (NodeS.branch [4] (inCons 5 rfl inNil) rfl rfl rfl ⟨?_, trivial⟩)
        ·
         refine ⟨_, _, _, _, rfl, rfl, rfl, (⟨_, _, rfl, rfl, ⟨_, _, rfl, rfl, rfl⟩⟩), fun E1 => ?_⟩
         refine (V1.callM 4 (rn + ρ0 + 1) [b37] [.ref bp 3 0 0, .vl (rn + ρ0 + 1) 1 (List.map encInt ([(0 : Int), (0 : Int), (1 : Int), (2 : Int), (3 : Int)] : List Int))] (p := (bp, ⟨3, [encCur ρ0 c_0]⟩)) rfl rfl rfl cok_50 rfl rfl ⟨_, _, rfl, .same _, ⟨_, _, rfl, Lend.srMap 0 rfl (fun _ => rfl) (.head _), rfl⟩⟩ (bwCons (k := 0) rfl bwNil) (ok_spec_l1Cur_among hh3) rfl (.inr ⟨(by first | omega | (dsimp only; omega)), by rintro _ _ ⟨rfl, rfl⟩; exact ⟨by simp [PV.no, PV.noL, optS_no, noL_iff, nbeq] <;> omega, by intro b ob h; first | exact optH_no (noL_map (fun _ => by simp [PV.no, PV.noL, noL_iff, nbeq]) _) b ob h | (simp only [List.append_assoc, List.mem_append, List.mem_cons, List.mem_singleton, List.not_mem_nil, or_false, Prod.mk.injEq] at h; rcases h with ⟨rfl, rfl⟩ | ⟨rfl, rfl⟩ <;> first | exact noL_map (fun _ => by simp [PV.no, PV.noL, noL_iff, nbeq]) _ | (simp [PV.no, PV.noL, optS_no, noL_iff, nbeq] <;> omega)) | (simp at h; obtain ⟨rfl, rfl⟩ := h; exact noL_map (fun _ => by simp [PV.no, PV.noL, noL_iff, nbeq]) _) | (simp at h; obtain ⟨rfl, rfl⟩ := h; simp [PV.no, PV.noL, optS_no, noL_iff, nbeq] <;> omega)⟩⟩) lt0 ?_)
         rintro _ _ ⟨rfl, rfl⟩
         refine ⟨_, _, rfl, ?_⟩
         refine WalkP.nil (NodeS.branch [7] (inCons 5 rfl inNil) rfl rfl rfl ⟨?_, trivial⟩)
         ·
          refine ⟨_, _, _, _, rfl, rfl, rfl, (⟨_, _, rfl, rfl, ⟨_, _, rfl, rfl, rfl⟩⟩), fun E1 => ?_⟩
          refine (V1.callM 0 (rn + ρ0 + 1) [b36] [.ref bp 3 0 0, .vl (rn + ρ0 + 1) 1 (List.map encInt ([(0 : Int), (30 : Int), (365 : Int), (1000 : Int)] : List Int))] (p := (bp, ⟨3, [encCur ρ0 y4.2]⟩)) rfl rfl rfl cok_50 rfl rfl ⟨_, _, rfl, .same _, ⟨_, _, rfl, Lend.srMap 2 rfl (fun _ => rfl) (.head _), rfl⟩⟩ (bwCons (k := 1) rfl bwNil) (ok_spec_l1Cur_among hh4) rfl (.inr ⟨(by first | omega | (dsimp only; omega)), by rintro _ _ ⟨rfl, rfl⟩; exact ⟨by simp [PV.no, PV.noL, optS_no, noL_iff, nbeq] <;> omega, by intro b ob h; first | exact optH_no (noL_map (fun _ => by simp [PV.no, PV.noL, noL_iff, nbeq]) _) b ob h | (simp only [List.append_assoc, List.mem_append, List.mem_cons, List.mem_singleton, List.not_mem_nil, or_false, Prod.mk.injEq] at h; rcases h with ⟨rfl, rfl⟩ | ⟨rfl, rfl⟩ <;> first | exact noL_map (fun _ => by simp [PV.no, PV.noL, noL_iff, nbeq]) _ | (simp [PV.no, PV.noL, optS_no, noL_iff, nbeq] <;> omega)) | (simp at h; obtain ⟨rfl, rfl⟩ := h; exact noL_map (fun _ => by simp [PV.no, PV.noL, noL_iff, nbeq]) _) | (simp at h; obtain ⟨rfl, rfl⟩ := h; simp [PV.no, PV.noL, optS_no, noL_iff, nbeq] <;> omega)⟩⟩) lt0 ?_)
          rintro _ _ ⟨rfl, rfl⟩
          refine ⟨_, _, rfl, ?_⟩
          refine WalkP.nil (NodeS.branch [9] (inCons 5 rfl inNil) rfl rfl rfl ⟨?_, trivial⟩)
          ·
           refine ⟨_, _, _, _, rfl, rfl, rfl, (⟨_, _, rfl, rfl, rfl⟩), fun E1 => ?_⟩
           refine (V1.callM 0 (rn + ρ0 + 1) [] [.ref bp 3 0 0, .int .i64 (3 : Int)] (p := (bp, ⟨3, [encCur ρ0 y5.2]⟩)) rfl rfl rfl cok_84 rfl rfl ⟨_, _, rfl, .same _, ⟨_, _, rfl, .same _, rfl⟩⟩ bwNil (ok_spec_l1Cur_pick hh5) rfl (.inl rfl) lt0 ?_)
           rintro _ _ ⟨rfl, rfl⟩
           refine ⟨_, _, rfl, ?_⟩
           refine WalkP.step (p := ?pv2383) 10 rfl rfl rfl rfl rfl (⟨_, _, rfl, rfl, rfl⟩) ?hv2383 ?rest2383
           case hv2383 =>
            intro E1 H1 hI1
            refine (V1.it ?_)
            exact rfl
           refine WalkP.step (p := ?pv2384) 11 rfl rfl rfl rfl rfl (⟨_, _, rfl, rfl, ⟨_, _, rfl, rfl, ⟨_, _, rfl, rfl, ⟨_, _, rfl, rfl, rfl⟩⟩⟩⟩) ?hv2384 ?rest2384
           case hv2384 =>
            intro E1 H1 hI1
            refine (V1.build rfl rfl zk_109 pl_109 rfl rfl lt0 ?_)
            exact rfl
           refine WalkP.nil (NodeS.fin (inCons 5 rfl inNil) rfl rfl rfl (⟨_, _, rfl, rfl, ⟨_, _, rfl, rfl, ⟨_, _, rfl, rfl, ⟨_, _, rfl, rfl, ⟨_, _, rfl, rfl, ⟨_, _, rfl, rfl, rfl⟩⟩⟩⟩⟩⟩) ?_)
           refine VO.cons rfl (V1.storeRefAll (k := 3) rfl rfl tyk_109 rfl rfl rfl rfl rfl rfl ?_)
           refine VO.nil ?_
           exact ⟨(y6.2, b32), oi hm3, Keeps.mk (ks := [3, 0, 4, 5]) rfl ⟨rfl, rfl, rfl, rfl, rfl, trivial⟩ (⟨_, _, rfl, rfl, ⟨_, _, rfl, rfl, ⟨_, _, rfl, rfl, ⟨_, _, rfl, rfl, rfl⟩⟩⟩⟩) rfl⟩
    ·
     rintro ⟨c_2, b8⟩ rfl
     try dsimp only at hm2
     refine V.seq ?_
     replace hm2 := bindO hm2; rcases hm2 with ⟨j2, hm3, hm2⟩
     refine V.cutT (D := (Cur × Rule) × (Unit)) (fun ⟨⟨c_3, rule⟩, _⟩ => ⟨62, [(0, .ref bp 3 0 0), (3, .ref b0 4 0 0), (5, .sref b3 4 0 (List.length list0)), (6, .int .i64 n_), (7, .ref b8 4 0 0)], [(bp, ⟨3, [encCur ρ0 c_3]⟩), (b8, ⟨4, [encRule rule]⟩), (b3, ⟨4, List.map encRule list0⟩), (b0, ⟨4, [encRecord ρ1 r_]⟩)]⟩) (fun ⟨⟨c_3, rule⟩, _⟩ => ((c_3, rule) = j2)) ?_ ?_
     ·
      refine V.seq ?_
      replace hm3 := bindO hm3; rcases hm3 with ⟨y7, hh6, hm3⟩
      refine V.region (VO.cons rfl (V1.fieldRef rfl rfl fo_44_3 rfl lt0 ?_))
      refine VO.cons rfl (V1.loadRef (k := 3) rfl rfl tyk_42 rfl rfl rfl rfl rfl lt0 ?_)
      refine VO.cons rfl (V1.lenMap rfl rfl rfl rfl rfl rfl isl_42 lt0 ?_)
      refine VO.cons rfl (V1.it ?_)
      refine VO.cons rfl (V1.mv ?_)
      apply VO.andH (n := 2) [(b8, ⟨4, [.agg [.int .i64 r_.Series, .int .i64 y4.1, .int .i64 y5.1, .int .i64 (IntKind.i64.wrap ((1 : Int) + y6.1))]]⟩), (bp, ⟨3, [encCur ρ0 (bif (decide ((r_.Events.length : Int) > (0 : Int))) then y7.2 else c_2)]⟩), (b3, ⟨4, List.map encRule list0⟩), (b0, ⟨4, [encRecord ρ1 r_]⟩)] rfl rfl rfl rfl rfl rfl lt0 (.none rfl) (fun h => by rw [h]; rfl)
      ·
       intro hg1
       refine VO.step (.some rfl rfl rfl) (V1.mv ?_)
       refine VO.step (.some rfl rfl rfl) (V1.callM 1 (rn + ρ0 + 1) [] [.ref bp 3 0 0, .int .i64 (2 : Int)] (p := (bp, ⟨3, [encCur ρ0 c_2]⟩)) rfl rfl rfl cok_83 rfl rfl ⟨_, _, rfl, .same _, ⟨_, _, rfl, .same _, rfl⟩⟩ bwNil (ok_spec_l1Cur_one (cond_t hg1 hh6)) rfl (.inl rfl) lt0 ?_)
       rintro _ _ ⟨rfl, rfl⟩
       refine VO.weakenK (Keeps.setAt (H := [(b8, ⟨4, [.agg [.int .i64 r_.Series, .int .i64 y4.1, .int .i64 y5.1, .int .i64 (IntKind.i64.wrap ((1 : Int) + y6.1))]]⟩), (bp, ⟨3, [encCur ρ0 c_2]⟩), (b3, ⟨4, List.map encRule list0⟩), (b0, ⟨4, [encRecord ρ1 r_]⟩)]) 1 lt0) ?_
       exact VO.nil ⟨rfl, rfl, rfl, (by rw [hg1]; rfl), .inr ⟨rfl, .inr ⟨rfl, .inr ⟨rfl, .inl rfl⟩⟩⟩⟩
      refine VO.nil (V.keep 62 [0, 3, 5, 6, 7, 41] [0, 1, 2, 3] (E0 := [(0, .ref bp 3 0 0), (3, .ref b0 4 0 0), (5, .sref b3 4 0 (List.length list0)), (6, .int .i64 n_), (7, .ref b8 4 0 0), (41, .bool ((decide ((r_.Events.length : Int) > (0 : Int))) && y7.1))]) (H0 := [(b8, ⟨4, [.agg [.int .i64 r_.Series, .int .i64 y4.1, .int .i64 y5.1, .int .i64 (IntKind.i64.wrap ((1 : Int) + y6.1))]]⟩), (bp, ⟨3, [encCur ρ0 (bif (decide ((r_.Events.length : Int) > (0 : Int))) then y7.2 else c_2)]⟩), (b3, ⟨4, List.map encRule list0⟩), (b0, ⟨4, [encRecord ρ1 r_]⟩)]) rfl (⟨_, _, rfl, rfl, ⟨_, _, rfl, rfl, ⟨_, _, rfl, rfl, ⟨_, _, rfl, rfl, ⟨_, _, rfl, rfl, ⟨_, _, rfl, rfl, rfl⟩⟩⟩⟩⟩⟩) (⟨_, _, rfl, rfl, ⟨_, _, rfl, rfl, ⟨_, _, rfl, rfl, ⟨_, _, rfl, rfl, rfl⟩⟩⟩⟩) rfl ?_)
      refine V.cond rfl (fun hc1 => ?_) (fun hc1 => ?_)
      ·
       replace hm3 := cond_t hc1 hm3
       replace hm3 := bindO hm3; rcases hm3 with ⟨y8, hh7, hm3⟩
       replace hm3 := asrt_some hm3; rcases hm3 with ⟨hh8, hm3⟩
       refine V.regionS [(b0, ⟨4, [encRecord ρ1 r_]⟩)] 62 7 [⟨[(3, none)], false⟩, ⟨[(42, some 0)], false⟩, ⟨[(0, none)], false⟩, ⟨[(3, none)], false⟩, ⟨[(45, some 3)], false⟩, ⟨[(46, some 4)], false⟩, ⟨[(44, some 2), (47, some 5)], true⟩] [(0, none), (3, none), (5, none), (6, none), (7, none), (43, some 1), (48, some 6)] 1 (⟨_, rfl, ⟨_, rfl, ⟨_, rfl, ⟨_, rfl, ⟨_, rfl, ⟨_, rfl, ⟨_, rfl, ⟨rfl, rfl⟩⟩⟩⟩⟩⟩⟩⟩) mixed_orders rfl (by decide +kernel) ?_
       refine WalkP.step (p := ?pv2393) 0 rfl rfl rfl rfl rfl (⟨_, _, rfl, rfl, rfl⟩) ?hv2393 ?rest2393
       case hv2393 =>
        intro E1 H1 hI1
        refine (V1.fieldRef rfl rfl fo_44_3 rfl lt0 ?_)
        exact rfl
       refine WalkP.step (p := ?pv2394) 1 rfl rfl rfl rfl rfl (⟨_, _, rfl, rfl, rfl⟩) ?hv2394 ?rest2394
       case hv2394 =>
        intro E1 H1 hI1
        obtain ⟨k2395_, hk2395_⟩ := inGet 0 rfl hI1
        refine (V1.loadRef (k := k2395_) rfl rfl tyk_42 rfl hk2395_ rfl rfl rfl lt0 ?_)
        exact rfl
       refine WalkP.step (p := ?pv2396) 2 rfl rfl rfl rfl rfl (⟨_, _, rfl, rfl, rfl⟩) ?hv2396 ?rest2396
       case hv2396 =>
        intro E1 H1 hI1
        refine (V1.mv ?_)
        exact rfl
       refine WalkP.step (p := ?pv2397) 3 rfl rfl rfl rfl rfl (⟨_, _, rfl, rfl, rfl⟩) ?hv2397 ?rest2397
       case hv2397 =>
        intro E1 H1 hI1
        refine (V1.fieldRef rfl rfl fo_44_3 rfl lt0 ?_)
        exact rfl
       refine WalkP.step (p := ?pv2398) 4 rfl rfl rfl rfl rfl (⟨_, _, rfl, rfl, rfl⟩) ?hv2398 ?rest2398
       case hv2398 =>
        intro E1 H1 hI1
        obtain ⟨k2399_, hk2399_⟩ := inGet 0 rfl hI1
        refine (V1.loadRef (k := k2399_) rfl rfl tyk_42 rfl hk2399_ rfl rfl rfl lt0 ?_)
        exact rfl
       refine WalkP.step (p := ?pv2400) 5 rfl rfl rfl rfl rfl (⟨_, _, rfl, rfl, rfl⟩) ?hv2400 ?rest2400
       case hv2400 =>
        intro E1 H1 hI1
        refine (V1.lenMap rfl rfl rfl rfl rfl rfl isl_42 lt0 ?_)
        exact rfl
       refine WalkP.nil (NodeS.branch [6] (inCons 3 rfl inNil) rfl rfl rfl ⟨?_, trivial⟩)
       ·
        refine ⟨_, _, _, _, rfl, rfl, rfl, (⟨_, _, rfl, rfl, ⟨_, _, rfl, rfl, rfl⟩⟩), fun E1 => ?_⟩
        refine (V1.callM 1 (rn + ρ0 + 1) [] [.ref bp 3 0 0, .int .i64 (r_.Events.length : Int)] (p := (bp, ⟨3, [encCur ρ0 (bif (decide ((r_.Events.length : Int) > (0 : Int))) then y7.2 else c_2)]⟩)) rfl rfl rfl cok_84 rfl rfl ⟨_, _, rfl, .same _, ⟨_, _, rfl, .same _, rfl⟩⟩ bwNil (ok_spec_l1Cur_pick hh7) rfl (.inl rfl) lt0 ?_)
        rintro _ _ ⟨rfl, rfl⟩
        refine ⟨_, _, rfl, ?_⟩
        refine WalkP.nil (NodeS.fin (inCons 3 rfl inNil) rfl rfl rfl (⟨_, _, rfl, rfl, ⟨_, _, rfl, rfl, ⟨_, _, rfl, rfl, ⟨_, _, rfl, rfl, ⟨_, _, rfl, rfl, ⟨_, _, rfl, rfl, ⟨_, _, rfl, rfl, rfl⟩⟩⟩⟩⟩⟩⟩) ?_)
        refine VO.cons rfl (V1.indexI rfl rfl esz_42 rfl rfl hh8 lt0 ?_)
        refine VO.cons rfl (V1.fieldPin rfl rfl fo_46_0 rfl lt0 ?_)
        refine VO.cons rfl (V1.loadPin rfl rfl tyk_3 rfl rfl lt0 ?_)
        refine VO.cons rfl (V1.fieldRef rfl rfl fo_109_1 rfl lt0 ?_)
        refine VO.cons rfl (V1.storeRef (k := 1) rfl rfl tyk_3 rfl rfl rfl rfl rfl rfl rfl rfl rfl ?_)
        refine VO.nil ?_
        exact ⟨((y8.2, (⟨r_.Series, (r_.Events.getD (Int.toNat y8.1) default).Kind, y5.1, (IntKind.i64.wrap ((1 : Int) + y6.1))⟩ : Rule)), ()), oi hm3, Keeps.mk (ks := [0, 1, 2, 3]) rfl ⟨rfl, rfl, rfl, rfl, rfl, trivial⟩ (⟨_, _, rfl, rfl, ⟨_, _, rfl, rfl, ⟨_, _, rfl, rfl, ⟨_, _, rfl, rfl, rfl⟩⟩⟩⟩) rfl⟩
      ·
       replace hm3 := cond_f hc1 hm3
       refine V.skip ?_
       exact ⟨(((bif (decide ((r_.Events.length : Int) > (0 : Int))) then y7.2 else c_2), (⟨r_.Series, y4.1, y5.1, (IntKind.i64.wrap ((1 : Int) + y6.1))⟩ : Rule)), ()), oi hm3, Keeps.mk (ks := [1, 0, 2, 3]) rfl ⟨rfl, rfl, rfl, rfl, rfl, trivial⟩ (⟨_, _, rfl, rfl, ⟨_, _, rfl, rfl, ⟨_, _, rfl, rfl, ⟨_, _, rfl, rfl, rfl⟩⟩⟩⟩) rfl⟩
     ·
      rintro ⟨⟨c_3, rule⟩, _⟩ rfl
      try dsimp only at hm2
      refine V.seq ?_
      replace hm2 := bindO hm2; rcases hm2 with ⟨y9, hh9, hm2⟩
      refine V.region (VO.cons rfl (V1.mv ?_))
      refine VO.cons rfl (V1.loadRefAll (k := 1) rfl rfl tyk_109 rfl rfl rfl rfl rfl lt0 ?_)
      refine VO.cons rfl (V1.callL (rn + 1) [b3] [.vl (rn + 1) 4 (List.map encRule list0), encRule rule] rfl rfl rfl cok_115 rfl ⟨_, _, rfl, Lend.srMap 2 rfl (fun _ => rfl) (.head _), ⟨_, _, rfl, .same _, rfl⟩⟩ (bwCons (k := 2) rfl bwNil) (ok_spec_PutRule hh9) rfl (⟨(by first | omega | (dsimp only; omega)), by rintro _ _ ⟨b38, rfl, rfl⟩; exact ⟨by simp [PV.no, PV.noL, optS_no, noL_iff, nbeq] <;> omega, by intro b ob h; first | exact optH_no (noL_map (fun _ => by simp [PV.no, PV.noL, noL_iff, nbeq]) _) b ob h | (simp only [List.append_assoc, List.mem_append, List.mem_cons, List.mem_singleton, List.not_mem_nil, or_false, Prod.mk.injEq] at h; rcases h with ⟨rfl, rfl⟩ | ⟨rfl, rfl⟩ <;> first | exact noL_map (fun _ => by simp [PV.no, PV.noL, noL_iff, nbeq]) _ | (simp [PV.no, PV.noL, optS_no, noL_iff, nbeq] <;> omega)) | (simp at h; obtain ⟨rfl, rfl⟩ := h; exact noL_map (fun _ => by simp [PV.no, PV.noL, noL_iff, nbeq]) _) | (simp at h; obtain ⟨rfl, rfl⟩ := h; simp [PV.no, PV.noL, optS_no, noL_iff, nbeq] <;> omega)⟩⟩) lt0 ?_)
      rintro _ _ ⟨b38, rfl, rfl⟩
      refine VO.cons rfl (V1.mv ?_)
      refine VO.cons rfl (V1.extract rfl rfl rfl rfl lt0 ?_)
      refine VO.cons rfl (V1.extract rfl rfl rfl rfl lt0 ?_)
      refine VO.cons rfl (V1.as ?_)
      refine VO.cons rfl (V1.as ?_)
      refine VO.nil (V.keep 62 [0, 3, 5, 6, 8, 9] [0, 1, 3, 4] (E0 := [(0, .ref bp 3 0 0), (3, .ref b0 4 0 0), (5, .sref b3 4 0 (List.length list0)), (6, .int .i64 n_), (8, .sref b38 4 0 (List.length y9.1)), (9, .bool y9.2)]) (H0 := [(b38, ⟨4, List.map encRule y9.1⟩), (bp, ⟨3, [encCur ρ0 c_3]⟩), (b3, ⟨4, List.map encRule list0⟩), (b0, ⟨4, [encRecord ρ1 r_]⟩)]) rfl (⟨_, _, rfl, rfl, ⟨_, _, rfl, rfl, ⟨_, _, rfl, rfl, ⟨_, _, rfl, rfl, ⟨_, _, rfl, rfl, ⟨_, _, rfl, rfl, rfl⟩⟩⟩⟩⟩⟩) (⟨_, _, rfl, rfl, ⟨_, _, rfl, rfl, ⟨_, _, rfl, rfl, ⟨_, _, rfl, rfl, rfl⟩⟩⟩⟩) rfl ?_)
      refine V.seq (V.region (VO.cons rfl (V1.mv ?_)))
      refine VO.nil (V.cond rfl (fun hc2 => ?_) (fun hc2 => ?_))
      ·
       replace hm2 := cond_t hc2 hm2
       refine V.region (VO.cons rfl (V1.mv ?_))
       refine VO.cons rfl (V1.as ?_)
       refine VO.nil ?_
       exact ⟨((y9.1, c_3), b38), oi hm2, Keeps.mk (ks := [0, 1, 3]) rfl ⟨rfl, rfl, rfl, rfl, trivial⟩ (⟨_, _, rfl, rfl, ⟨_, _, rfl, rfl, ⟨_, _, rfl, rfl, rfl⟩⟩⟩) rfl⟩
      ·
       replace hm2 := cond_f hc2 hm2
       refine V.skip ?_
       exact ⟨((list0, c_3), b3), oi hm2, Keeps.mk (ks := [2, 1, 3]) rfl ⟨rfl, rfl, rfl, rfl, trivial⟩ (⟨_, _, rfl, rfl, ⟨_, _, rfl, rfl, ⟨_, _, rfl, rfl, rfl⟩⟩⟩) rfl⟩
   ·
    rintro ⟨⟨list1, c_1⟩, b4⟩ rfl
    try dsimp only at hm1
    refine V.region (VO.cons rfl (V1.mv ?_))
    refine VO.cons rfl (V1.it ?_)
    refine VO.cons rfl (V1.as ?_)
    refine VO.nil ?_
    exact ⟨(m0, (list1, (IntKind.i64.wrap (n_ - (1 : Int))), c_1), b4), hl1 _ (oi hm1).symm, Nat.lt_succ_self _, Keeps.mk (ks := [0, 1, 2]) rfl ⟨rfl, rfl, rfl, rfl, trivial⟩ (⟨_, _, rfl, rfl, ⟨_, _, rfl, rfl, ⟨_, _, rfl, rfl, rfl⟩⟩⟩) rfl⟩
  ·
   replace hm1 := cond_f hc0 hm1
   refine V.exit ?_
   obtain rfl := hr1 _ (oi hm1).symm
   exact ⟨((list0, c_0), b3), rfl, Keeps.mk (ks := [0, 1]) rfl ⟨rfl, trivial⟩ (⟨_, _, rfl, rfl, ⟨_, _, rfl, rfl, rfl⟩⟩) rfl⟩
 ·
  rintro ⟨⟨list, c_⟩, b2⟩ rfl
  try dsimp only at hm0
  refine V.seq (V.region (VO.cons rfl (V1.mv ?_)))
  refine VO.cons rfl (V1.as ?_)
  refine VO.nil (V.keep 62 [4] [0, 1] (E0 := [(4, .sref b2 4 0 (List.length list))]) (H0 := [(b2, ⟨4, List.map encRule list⟩), (bp, ⟨3, [encCur ρ0 c_]⟩)]) rfl (⟨_, _, rfl, rfl, rfl⟩) (⟨_, _, rfl, rfl, ⟨_, _, rfl, rfl, rfl⟩⟩) rfl ?_)
  refine V.ret ?_
  obtain rfl := oi hm0
  exact ⟨_, _, ⟨_, _, rfl, rfl, rfl⟩, List.Sublist.refl _, b2, rfl, rfl⟩

theorem ok_spec_l1Cur_versions {ρ0 ρ1 rn bp : Nat} {c : Cur} {r_ : Record} {r : List Version × Cur} (h : M.spec_l1Cur_versions c r_ = some r) : Does Try.prog 80 [.ref bp 3 0 0, encRecord ρ1 r_] [(bp, ⟨3, [encCur ρ0 c]⟩)] rn (fun x H => ∃ (ob0_ : Nat), x = PV.sref ob0_ 2 0 (List.length r.1) ∧ H = [(ob0_, ⟨2, List.map (encVersion rn) r.1⟩)] ++ [(bp, ⟨3, [encCur ρ0 r.2]⟩)]) := by
 have hm0 := h; clear h; unfold M.spec_l1Cur_versions at hm0
 try dsimp only at hm0
 refine Does.intro (N := 79) Try.func80 rfl rfl rfl rfl ?_
 intro w0 S0
 refine V.seq (V.region (VO.cons rfl (V1.boxN (n := 4) rfl rfl rfl rfl rfl lt0 ?_)))
 intro b0
 refine VO.cons rfl (V1.as ?_)
 refine VO.nil (V.seq (V.region (VO.cons rfl (V1.buildSliceT (f := (encVersion rn)) ([] : List Version) rfl rfl esz_57 zk_60 rfl rfl rfl rfl rfl rfl rfl lt0 ?_))))
 intro b1
 refine VO.cons rfl (V1.as ?_)
 refine VO.nil (V.seq ?_)
 replace hm0 := bindO hm0; rcases hm0 with ⟨y0, hh0, hm0⟩
 refine V.region (VO.cons rfl (V1.mv ?_))
 refine VO.cons rfl (V1.buildSliceT (f := encInt) ([(0 : Int), (0 : Int), (100 : Int), (500 : Int)] : List Int) rfl rfl esz_69 zk_3 rfl rfl rfl rfl rfl rfl rfl lt0 ?_)
 intro b2
 refine VO.cons rfl (V1.callM 3 (rn + ρ0 + 1) [b2] [.ref bp 3 0 0, .vl (rn + ρ0 + 1) 1 (List.map encInt ([(0 : Int), (0 : Int), (100 : Int), (500 : Int)] : List Int))] (p := (bp, ⟨3, [encCur ρ0 c]⟩)) rfl rfl rfl cok_50 rfl rfl ⟨_, _, rfl, .same _, ⟨_, _, rfl, Lend.srMap 0 rfl (fun _ => rfl) (.head _), rfl⟩⟩ (bwCons (k := 0) rfl bwNil) (ok_spec_l1Cur_among hh0) rfl (.inr ⟨(by first | omega | (dsimp only; omega)), by rintro _ _ ⟨rfl, rfl⟩; exact ⟨by simp [PV.no, PV.noL, optS_no, noL_iff, nbeq] <;> omega, by intro b ob h; first | exact optH_no (noL_map (fun _ => by simp [PV.no, PV.noL, noL_iff, nbeq]) _) b ob h | (simp only [List.append_assoc, List.mem_append, List.mem_cons, List.mem_singleton, List.not_mem_nil, or_false, Prod.mk.injEq] at h; rcases h with ⟨rfl, rfl⟩ | ⟨rfl, rfl⟩ <;> first | exact noL_map (fun _ => by simp [PV.no, PV.noL, noL_iff, nbeq]) _ | (simp [PV.no, PV.noL, optS_no, noL_iff, nbeq] <;> omega)) | (simp at h; obtain ⟨rfl, rfl⟩ := h; exact noL_map (fun _ => by simp [PV.no, PV.noL, noL_iff, nbeq]) _) | (simp at h; obtain ⟨rfl, rfl⟩ := h; simp [PV.no, PV.noL, optS_no, noL_iff, nbeq] <;> omega)⟩⟩) lt0 ?_)
 rintro _ _ ⟨rfl, rfl⟩
 refine VO.cons rfl (V1.as ?_)
 refine VO.nil (V.keep 79 [0, 3, 5, 6] [0, 2, 3] (E0 := [(0, .ref bp 3 0 0), (3, .ref b0 4 0 0), (5, .sref b1 2 0 (List.length ([] : List Version))), (6, .int .i64 y0.1)]) (H0 := [(bp, ⟨3, [encCur ρ0 y0.2]⟩), (b1, ⟨2, List.map (encVersion rn) ([] : List Version)⟩), (b0, ⟨4, [encRecord ρ1 r_]⟩)]) rfl (⟨_, _, rfl, rfl, ⟨_, _, rfl, rfl, ⟨_, _, rfl, rfl, ⟨_, _, rfl, rfl, rfl⟩⟩⟩⟩) (⟨_, _, rfl, rfl, ⟨_, _, rfl, rfl, ⟨_, _, rfl, rfl, rfl⟩⟩⟩) rfl ?_)
 refine V.seq (V.seq ?_)
 replace hm0 := bindO hm0; rcases hm0 with ⟨y1, hh1, hm0⟩
 refine V.region (VO.cons rfl (V1.mv ?_))
 refine VO.cons rfl (V1.callM 0 (rn + ρ0 + 1) [] [.ref bp 3 0 0, .int .i64 (4 : Int)] (p := (bp, ⟨3, [encCur ρ0 y0.2]⟩)) rfl rfl rfl cok_84 rfl rfl ⟨_, _, rfl, .same _, ⟨_, _, rfl, .same _, rfl⟩⟩ bwNil (ok_spec_l1Cur_pick hh1) rfl (.inl rfl) lt0 ?_)
 rintro _ _ ⟨rfl, rfl⟩
 refine VO.cons rfl (V1.as ?_)
 refine VO.nil ?_
 replace hm0 := bindO hm0; rcases hm0 with ⟨e0, he1, hm0⟩
 refine V.cutT (D := (List Version × Cur) × (Nat)) (fun ⟨⟨list, c_⟩, b3⟩ => ⟨79, [(5, .sref b3 2 0 (List.length list)), (0, .ref bp 3 0 0)], [(b3, ⟨2, List.map (encVersion rn) list⟩), (bp, ⟨3, [encCur ρ0 c_]⟩)]⟩) (fun ⟨⟨list, c_⟩, b3⟩ => ((list, c_) = e0)) ?_ ?_
 ·
  refine V.block ?_
  refine V.keep 79 [5, 6, 7, 0, 3] [1, 0, 2] (E0 := [(5, .sref b1 2 0 (List.length ([] : List Version))), (6, .int .i64 y0.1), (7, .int .i64 y1.1), (0, .ref bp 3 0 0), (3, .ref b0 4 0 0)]) (H0 := [(b1, ⟨2, List.map (encVersion rn) ([] : List Version)⟩), (bp, ⟨3, [encCur ρ0 y1.2]⟩), (b0, ⟨4, [encRecord ρ1 r_]⟩)]) rfl (⟨_, _, rfl, rfl, ⟨_, _, rfl, rfl, ⟨_, _, rfl, rfl, ⟨_, _, rfl, rfl, ⟨_, _, rfl, rfl, rfl⟩⟩⟩⟩⟩) (⟨_, _, rfl, rfl, ⟨_, _, rfl, rfl, ⟨_, _, rfl, rfl, rfl⟩⟩⟩) rfl ?_
  refine V.loopE (D := Nat × (List Version × Int × Int × Cur) × (Nat)) (fun ⟨n0, ⟨list0, from_, n_, c_0⟩, b4⟩ => [(5, .sref b4 2 0 (List.length list0)), (6, .int .i64 from_), (7, .int .i64 n_)]) (fun ⟨n0, ⟨list0, from_, n_, c_0⟩, b4⟩ => [(b4, ⟨2, List.map (encVersion rn) list0⟩), (bp, ⟨3, [encCur ρ0 c_0]⟩)]) (fun ⟨n0, ⟨list0, from_, n_, c_0⟩, b4⟩ => loopO (M.spec_l1Cur_versions_l0 r_) n0 (list0, from_, n_, c_0) = some e0) (fun ⟨n0, _, _⟩ => n0) (rounds, (([] : List Version), y0.1, y1.1, y1.2), b1) rfl he1 ?_
  rintro ⟨n0, ⟨list0, from_, n_, c_0⟩, b4⟩ hP0
  obtain ⟨m0, y2, rfl, hm1, hl1, hr1⟩ := loop_head hP0
  unfold M.spec_l1Cur_versions_l0 at hm1; dsimp only at hm1
  show V _ _ _ ⟨79, [(5, .sref b4 2 0 (List.length list0)), (6, .int .i64 from_), (7, .int .i64 n_), (0, .ref bp 3 0 0), (3, .ref b0 4 0 0)], [(b4, ⟨2, List.map (encVersion rn) list0⟩), (bp, ⟨3, [encCur ρ0 c_0]⟩), (b0, ⟨4, [encRecord ρ1 r_]⟩)]⟩
  refine V.seq (V.seq (V.region (VO.cons rfl (V1.mv ?_))))
  refine VO.cons rfl (V1.it ?_)
  refine VO.nil (V.cond rfl (fun hc0 => ?_) (fun hc0 => ?_))
  ·
   replace hm1 := cond_t hc0 hm1
   refine V.skip ?_
   refine V.seq ?_
   replace hm1 := bindO hm1; rcases hm1 with ⟨j0, hm2, hm1⟩
   refine V.cutT (D := (List Version × Int × Cur) × (Nat)) (fun ⟨⟨list1, from_0, c_1⟩, b5⟩ => ⟨79, [(5, .sref b5 2 0 (List.length list1)), (6, .int .i64 from_0), (0, .ref bp 3 0 0), (3, .ref b0 4 0 0), (7, .int .i64 n_)], [(b5, ⟨2, List.map (encVersion rn) list1⟩), (bp, ⟨3, [encCur ρ0 c_1]⟩), (b0, ⟨4, [encRecord ρ1 r_]⟩)]⟩) (fun ⟨⟨list1, from_0, c_1⟩, b5⟩ => ((list1, from_0, c_1) = j0)) ?_ ?_
   ·
    refine V.block ?_
    refine V.seq ?_
    replace hm2 := bindO hm2; rcases hm2 with ⟨y3, hh2, hm2⟩
    refine V.region (VO.cons rfl (V1.mv ?_))
    refine VO.cons rfl (V1.mv ?_)
    refine VO.cons rfl (V1.loadRefAll (k := 2) rfl rfl tyk_44 rfl rfl rfl rfl rfl lt0 ?_)
    refine VO.cons rfl (V1.callM 1 (rn + ρ0 + 1) [] [.ref bp 3 0 0, encRecord ρ1 r_] (p := (bp, ⟨3, [encCur ρ0 c_0]⟩)) rfl rfl rfl cok_82 rfl rfl ⟨_, _, rfl, .same _, ⟨_, _, rfl, .same _, rfl⟩⟩ bwNil (ok_spec_l1Cur_suited hh2) rfl (.inl rfl) lt0 ?_)
    rintro _ _ ⟨b6, rfl, rfl⟩
    refine VO.cons rfl (V1.build rfl rfl zk_60 pl_60 rfl rfl lt0 ?_)
    refine VO.cons rfl (V1.alloc rfl rfl zk_60 lt0 ?_)
    intro b7
    refine VO.cons rfl (V1.storeRefAll (k := 0) rfl rfl tyk_60 rfl rfl rfl rfl rfl rfl ?_)
    refine VO.nil (V.keep 79 [0, 3, 5, 6, 7, 8] [0, 1, 2, 3, 4] (E0 := [(0, .ref bp 3 0 0), (3, .ref b0 4 0 0), (5, .sref b4 2 0 (List.length list0)), (6, .int .i64 from_), (7, .int .i64 n_), (8, .ref b7 2 0 0)]) (H0 := [(b7, ⟨2, [.agg [.int .i64 from_, .sref b6 4 0 (List.length y3.1)]]⟩), (b6, ⟨4, List.map encRule y3.1⟩), (bp, ⟨3, [encCur ρ0 y3.2]⟩), (b4, ⟨2, List.map (encVersion rn) list0⟩), (b0, ⟨4, [encRecord ρ1 r_]⟩)]) rfl (⟨_, _, rfl, rfl, ⟨_, _, rfl, rfl, ⟨_, _, rfl, rfl, ⟨_, _, rfl, rfl, ⟨_, _, rfl, rfl, ⟨_, _, rfl, rfl, rfl⟩⟩⟩⟩⟩⟩) (⟨_, _, rfl, rfl, ⟨_, _, rfl, rfl, ⟨_, _, rfl, rfl, ⟨_, _, rfl, rfl, ⟨_, _, rfl, rfl, rfl⟩⟩⟩⟩⟩) rfl ?_)
    refine V.seq ?_
    replace hm2 := bindO hm2; rcases hm2 with ⟨j1, hm3, hm2⟩
    refine V.cutT (D := (List Rule × Cur) × (Nat)) (fun ⟨⟨v_Rules, c_2⟩, b8⟩ => ⟨79, [(0, .ref bp 3 0 0), (3, .ref b0 4 0 0), (5, .sref b4 2 0 (List.length list0)), (6, .int .i64 from_), (7, .int .i64 n_), (8, .ref b7 2 0 0)], [(b8, ⟨4, List.map encRule v_Rules⟩), (bp, ⟨3, [encCur ρ0 c_2]⟩), (b7, ⟨2, [.agg [.int .i64 from_, .sref b8 4 0 (List.length v_Rules)]]⟩), (b4, ⟨2, List.map (encVersion rn) list0⟩), (b0, ⟨4, [encRecord ρ1 r_]⟩)]⟩) (fun ⟨⟨v_Rules, c_2⟩, b8⟩ => ((v_Rules, c_2) = j1)) ?_ ?_
    ·
     refine V.seq ?_
     replace hm3 := bindO hm3; rcases hm3 with ⟨y4, hh3, hm3⟩
     refine V.region (VO.cons rfl (V1.mv ?_))
     refine VO.cons rfl (V1.lenSref rfl rfl rfl rfl rfl rfl isl_57 lt0 ?_)
     refine VO.cons rfl (V1.it ?_)
     refine VO.cons rfl (V1.mv ?_)
     apply VO.andH (n := 2) [(b7, ⟨2, [.agg [.int .i64 from_, .sref b6 4 0 (List.length y3.1)]]⟩), (b6, ⟨4, List.map encRule y3.1⟩), (bp, ⟨3, [encCur ρ0 (bif (decide ((list0.length : Int) > (0 : Int))) then y4.2 else y3.2)]⟩), (b4, ⟨2, List.map (encVersion rn) list0⟩), (b0, ⟨4, [encRecord ρ1 r_]⟩)] rfl rfl rfl rfl rfl rfl lt0 (.none rfl) (fun h => by rw [h]; rfl)
     ·
      intro hg0
      refine VO.step (.some rfl rfl rfl) (V1.mv ?_)
      refine VO.step (.some rfl rfl rfl) (V1.callM 2 (rn + ρ0 + 1) [] [.ref bp 3 0 0, .int .i64 (3 : Int)] (p := (bp, ⟨3, [encCur ρ0 y3.2]⟩)) rfl rfl rfl cok_83 rfl rfl ⟨_, _, rfl, .same _, ⟨_, _, rfl, .same _, rfl⟩⟩ bwNil (ok_spec_l1Cur_one (cond_t hg0 hh3)) rfl (.inl rfl) lt0 ?_)
      rintro _ _ ⟨rfl, rfl⟩
      refine VO.weakenK (Keeps.setAt (H := [(b7, ⟨2, [.agg [.int .i64 from_, .sref b6 4 0 (List.length y3.1)]]⟩), (b6, ⟨4, List.map encRule y3.1⟩), (bp, ⟨3, [encCur ρ0 y3.2]⟩), (b4, ⟨2, List.map (encVersion rn) list0⟩), (b0, ⟨4, [encRecord ρ1 r_]⟩)]) 2 lt0) ?_
      exact VO.nil ⟨rfl, rfl, rfl, (by rw [hg0]; rfl), .inr ⟨rfl, .inr ⟨rfl, .inr ⟨rfl, .inl rfl⟩⟩⟩⟩
     refine VO.nil (V.keep 79 [0, 3, 5, 6, 7, 8, 30] [0, 1, 2, 3, 4] (E0 := [(0, .ref bp 3 0 0), (3, .ref b0 4 0 0), (5, .sref b4 2 0 (List.length list0)), (6, .int .i64 from_), (7, .int .i64 n_), (8, .ref b7 2 0 0), (30, .bool ((decide ((list0.length : Int) > (0 : Int))) && y4.1))]) (H0 := [(b7, ⟨2, [.agg [.int .i64 from_, .sref b6 4 0 (List.length y3.1)]]⟩), (b6, ⟨4, List.map encRule y3.1⟩), (bp, ⟨3, [encCur ρ0 (bif (decide ((list0.length : Int) > (0 : Int))) then y4.2 else y3.2)]⟩), (b4, ⟨2, List.map (encVersion rn) list0⟩), (b0, ⟨4, [encRecord ρ1 r_]⟩)]) rfl (⟨_, _, rfl, rfl, ⟨_, _, rfl, rfl, ⟨_, _, rfl, rfl, ⟨_, _, rfl, rfl, ⟨_, _, rfl, rfl, ⟨_, _, rfl, rfl, ⟨_, _, rfl, rfl, rfl⟩⟩⟩⟩⟩⟩⟩) (⟨_, _, rfl, rfl, ⟨_, _, rfl, rfl, ⟨_, _, rfl, rfl, ⟨_, _, rfl, rfl, ⟨_, _, rfl, rfl, rfl⟩⟩⟩⟩⟩) rfl ?_)
     refine V.cond rfl (fun hc1 => ?_) (fun hc1 => ?_)
     ·
      replace hm3 := cond_t hc1 hm3
      replace hm3 := asrt_some hm3; rcases hm3 with ⟨hh4, hm3⟩
      replace hm3 := asrt_some hm3; rcases hm3 with ⟨hh5, hm3⟩
      refine V.region (VO.cons rfl (V1.buildSliceT (f := encRule) ([] : List Rule) rfl rfl esz_58 zk_109 rfl rfl rfl rfl rfl rfl rfl lt0 ?_))
      intro b9
      refine VO.cons rfl (V1.mv ?_)
      refine VO.cons rfl (V1.mv ?_)
      refine VO.cons rfl (V1.lenSref rfl rfl rfl rfl rfl rfl isl_57 lt0 ?_)
      refine VO.cons rfl (V1.it ?_)
      refine VO.cons rfl (V1.indexSr rfl rfl esz_57 rfl rfl hh4 lt0 ?_)
      refine VO.cons rfl (V1.fieldRef rfl rfl fo_60_1 rfl lt0 ?_)
      refine VO.cons rfl (V1.loadMap (k := 4) (f := (encVersion rn)) rfl rfl tyk_58 rfl rfl (by simpa using natLt hh4.1 hh4.2) rfl lt0 ?_)
      refine VO.cons rfl (V1.appendMap (k := 0) (f := encRule) (l := ([] : List Rule)) (m := (list0.getD (Int.toNat (IntKind.i64.wrap ((list0.length : Int) - (1 : Int)))) default).Rules) rfl rfl rfl rfl rfl esz_58 eby_58 zk_109 rfl rfl rfl (.vl isl_58) hh5 lt0 ?_)
      intro b10
      refine VO.cons rfl (V1.fieldRef rfl rfl fo_60_1 rfl lt0 ?_)
      refine VO.cons rfl (V1.storeRef (k := 1) rfl rfl tyk_58 rfl rfl rfl rfl rfl rfl rfl rfl rfl ?_)
      refine VO.nil ?_
      exact ⟨(((([] : List Rule) ++ ((list0.getD (Int.toNat (IntKind.i64.wrap ((list0.length : Int) - (1 : Int)))) default).Rules)), (bif (decide ((list0.length : Int) > (0 : Int))) then y4.2 else y3.2)), b10), oi hm3, Keeps.mk (ks := [0, 3, 1, 4, 5]) rfl ⟨rfl, rfl, rfl, rfl, rfl, rfl, trivial⟩ (⟨_, _, rfl, rfl, ⟨_, _, rfl, rfl, ⟨_, _, rfl, rfl, ⟨_, _, rfl, rfl, ⟨_, _, rfl, rfl, rfl⟩⟩⟩⟩⟩) rfl⟩
     ·
      replace hm3 := cond_f hc1 hm3
      refine V.skip ?_
      exact ⟨((y3.1, (bif (decide ((list0.length : Int) > (0 : Int))) then y4.2 else y3.2)), b6), oi hm3, Keeps.mk (ks := [1, 2, 0, 3, 4]) rfl ⟨rfl, rfl, rfl, rfl, rfl, rfl, trivial⟩ (⟨_, _, rfl, rfl, ⟨_, _, rfl, rfl, ⟨_, _, rfl, rfl, ⟨_, _, rfl, rfl, ⟨_, _, rfl, rfl, rfl⟩⟩⟩⟩⟩) rfl⟩
    ·
     rintro ⟨⟨v_Rules, c_2⟩, b8⟩ rfl
     try dsimp only at hm2
     refine V.seq ?_
     replace hm2 := asrt_some hm2; rcases hm2 with ⟨hh6, hm2⟩
     refine V.region (VO.cons rfl (V1.mv ?_))
     refine VO.cons rfl (V1.loadRefAll (k := 2) rfl rfl tyk_60 rfl rfl rfl rfl rfl lt0 ?_)
     refine VO.weakenK (Keeps.freezeG 0 rn [(42, .agg [.int .i64 from_, .vl rn 4 (List.map encRule v_Rules)])] [(bp, ⟨3, [encCur ρ0 c_2]⟩), (b7, ⟨2, [.agg [.int .i64 from_, .vl rn 4 (List.map encRule v_Rules)]]⟩), (b4, ⟨2, List.map (encVersion rn) list0⟩), (b0, ⟨4, [encRecord ρ1 r_]⟩)] (f := encRule) (l := v_Rules) rfl (fun _ => rfl) ⟨⟨_, rfl, (.agg (.cons .same (.cons .here .nil)))⟩, trivial⟩ ⟨_, _, rfl, rfl, .inl rfl, ⟨_, _, rfl, rfl, .inr (.cons (.agg (.cons .same (.cons .here .nil))) .nil), ⟨_, _, rfl, rfl, .inl rfl, ⟨_, _, rfl, rfl, .inl rfl, rfl⟩⟩⟩⟩ rfl (iOne (b := bp) 0 rfl)) ?_
     refine VO.cons rfl (V1.buildSliceT (f := (encVersion rn)) ([(⟨from_, v_Rules⟩ : Version)] : List Version) rfl rfl esz_57 zk_60 rfl rfl rfl rfl rfl rfl rfl lt0 ?_)
     intro b11
     refine VO.cons rfl (V1.appendMap (k := 3) (f := (encVersion rn)) (l := list0) (m := ([(⟨from_, v_Rules⟩ : Version)] : List Version)) rfl rfl rfl rfl rfl esz_57 eby_57 zk_60 rfl rfl rfl (SrcOf.srMap (k := 0) rfl isl_57) hh6 lt0 ?_)
     intro b12
     refine VO.cons rfl (V1.as ?_)
     refine VO.nil (V.keep 79 [0, 3, 5, 6, 7] [0, 2, 4] (E0 := [(0, .ref bp 3 0 0), (3, .ref b0 4 0 0), (5, .sref b12 2 0 (List.length (list0 ++ ([(⟨from_, v_Rules⟩ : Version)] : List Version)))), (6, .int .i64 from_), (7, .int .i64 n_)]) (H0 := [(b12, ⟨2, List.map (encVersion rn) (list0 ++ ([(⟨from_, v_Rules⟩ : Version)] : List Version))⟩), (bp, ⟨3, [encCur ρ0 c_2]⟩), (b0, ⟨4, [encRecord ρ1 r_]⟩)]) rfl (⟨_, _, rfl, rfl, ⟨_, _, rfl, rfl, ⟨_, _, rfl, rfl, ⟨_, _, rfl, rfl, ⟨_, _, rfl, rfl, rfl⟩⟩⟩⟩⟩) (⟨_, _, rfl, rfl, ⟨_, _, rfl, rfl, ⟨_, _, rfl, rfl, rfl⟩⟩⟩) rfl ?_)
     replace hm2 := bindO hm2; rcases hm2 with ⟨y5, hh7, hm2⟩
     refine V.region (VO.cons rfl (V1.mv ?_))
     refine VO.cons rfl (V1.mv ?_)
     refine VO.cons rfl (V1.buildSliceT (f := encInt) ([(1 : Int), (100 : Int), (365 : Int), (2000 : Int)] : List Int) rfl rfl esz_69 zk_3 rfl rfl rfl rfl rfl rfl rfl lt0 ?_)
     intro b13
     refine VO.cons rfl (V1.callM 2 (rn + ρ0 + 1) [b13] [.ref bp 3 0 0, .vl (rn + ρ0 + 1) 1 (List.map encInt ([(1 : Int), (100 : Int), (365 : Int), (2000 : Int)] : List Int))] (p := (bp, ⟨3, [encCur ρ0 c_2]⟩)) rfl rfl rfl cok_50 rfl rfl ⟨_, _, rfl, .same _, ⟨_, _, rfl, Lend.srMap 0 rfl (fun _ => rfl) (.head _), rfl⟩⟩ (bwCons (k := 0) rfl bwNil) (ok_spec_l1Cur_among hh7) rfl (.inr ⟨(by first | omega | (dsimp only; omega)), by rintro _ _ ⟨rfl, rfl⟩; exact ⟨by simp [PV.no, PV.noL, optS_no, noL_iff, nbeq] <;> omega, by intro b ob h; first | exact optH_no (noL_map (fun _ => by simp [PV.no, PV.noL, noL_iff, nbeq]) _) b ob h | (simp only [List.append_assoc, List.mem_append, List.mem_cons, List.mem_singleton, List.not_mem_nil, or_false, Prod.mk.injEq] at h; rcases h with ⟨rfl, rfl⟩ | ⟨rfl, rfl⟩ <;> first | exact noL_map (fun _ => by simp [PV.no, PV.noL, noL_iff, nbeq]) _ | (simp [PV.no, PV.noL, optS_no, noL_iff, nbeq] <;> omega)) | (simp at h; obtain ⟨rfl, rfl⟩ := h; exact noL_map (fun _ => by simp [PV.no, PV.noL, noL_iff, nbeq]) _) | (simp at h; obtain ⟨rfl, rfl⟩ := h; simp [PV.no, PV.noL, optS_no, noL_iff, nbeq] <;> omega)⟩⟩) lt0 ?_)
     rintro _ _ ⟨rfl, rfl⟩
     refine VO.cons rfl (V1.it ?_)
     refine VO.cons rfl (V1.as ?_)
     refine VO.nil ?_
     exact ⟨(((list0 ++ ([(⟨from_, v_Rules⟩ : Version)] : List Version)), (IntKind.i64.wrap (from_ + y5.1)), y5.2), b12), oi hm2, Keeps.mk (ks := [2, 0, 3]) rfl ⟨rfl, rfl, rfl, rfl, rfl, trivial⟩ (⟨_, _, rfl, rfl, ⟨_, _, rfl, rfl, ⟨_, _, rfl, rfl, rfl⟩⟩⟩) rfl⟩
   ·
    rintro ⟨⟨list1, from_0, c_1⟩, b5⟩ rfl
    try dsimp only at hm1
    refine V.region (VO.cons rfl (V1.mv ?_))
    refine VO.cons rfl (V1.it ?_)
    refine VO.cons rfl (V1.as ?_)
    refine VO.nil ?_
    exact ⟨(m0, (list1, from_0, (IntKind.i64.wrap (n_ - (1 : Int))), c_1), b5), hl1 _ (oi hm1).symm, Nat.lt_succ_self _, Keeps.mk (ks := [0, 1, 2]) rfl ⟨rfl, rfl, rfl, rfl, rfl, trivial⟩ (⟨_, _, rfl, rfl, ⟨_, _, rfl, rfl, ⟨_, _, rfl, rfl, rfl⟩⟩⟩) rfl⟩
  ·
   replace hm1 := cond_f hc0 hm1
   refine V.exit ?_
   obtain rfl := hr1 _ (oi hm1).symm
   exact ⟨((list0, c_0), b4), rfl, Keeps.mk (ks := [0, 1]) rfl ⟨rfl, rfl, trivial⟩ (⟨_, _, rfl, rfl, ⟨_, _, rfl, rfl, rfl⟩⟩) rfl⟩
 ·
  rintro ⟨⟨list, c_⟩, b3⟩ rfl
  try dsimp only at hm0
  refine V.seq (V.seq ?_)
  replace hm0 := bindO hm0; rcases hm0 with ⟨y6, hh8, hm0⟩
  refine V.region (VO.cons rfl (V1.mv ?_))
  refine VO.cons rfl (V1.callM 1 (rn + ρ0 + 1) [] [.ref bp 3 0 0, .int .i64 (32 : Int)] (p := (bp, ⟨3, [encCur ρ0 c_]⟩)) rfl rfl rfl cok_84 rfl rfl ⟨_, _, rfl, .same _, ⟨_, _, rfl, .same _, rfl⟩⟩ bwNil (ok_spec_l1Cur_pick hh8) rfl (.inl rfl) lt0 ?_)
  rintro _ _ ⟨rfl, rfl⟩
  refine VO.nil ?_
  replace hm0 := bindO hm0; rcases hm0 with ⟨j2, hm1, hm0⟩
  refine V.cutT (D := (List Version × Cur) × (Nat)) (fun ⟨⟨list2, c_3⟩, b14⟩ => ⟨79, [(5, .sref b14 2 0 (List.length list2))], [(b14, ⟨2, List.map (encVersion rn) list2⟩), (bp, ⟨3, [encCur ρ0 c_3]⟩)]⟩) (fun ⟨⟨list2, c_3⟩, b14⟩ => ((list2, c_3) = j2)) ?_ ?_
  ·
   refine V.block ?_
   refine V.seq (V.region (VO.cons rfl (V1.it ?_)))
   refine VO.cons rfl (V1.as ?_)
   refine VO.nil (V.cond rfl (fun hc2 => ?_) (fun hc2 => ?_))
   ·
    replace hm1 := cond_t hc2 hm1
    replace hm1 := bindO hm1; rcases hm1 with ⟨y7, hh9, hm1⟩
    replace hm1 := asrt_some hm1; rcases hm1 with ⟨hh10, hm1⟩
    refine V.region (VO.cons rfl (V1.mv ?_))
    refine VO.cons rfl (V1.mv ?_)
    refine VO.cons rfl (V1.buildSliceT (f := encInt) ([(0 : Int), (20000 : Int), (20001 : Int)] : List Int) rfl rfl esz_69 zk_3 rfl rfl rfl rfl rfl rfl rfl lt0 ?_)
    intro b15
    refine VO.cons rfl (V1.callM 1 (rn + ρ0 + 1) [b15] [.ref bp 3 0 0, .vl (rn + ρ0 + 1) 1 (List.map encInt ([(0 : Int), (20000 : Int), (20001 : Int)] : List Int))] (p := (bp, ⟨3, [encCur ρ0 y6.2]⟩)) rfl rfl rfl cok_50 rfl rfl ⟨_, _, rfl, .same _, ⟨_, _, rfl, Lend.srMap 0 rfl (fun _ => rfl) (.head _), rfl⟩⟩ (bwCons (k := 0) rfl bwNil) (ok_spec_l1Cur_among hh9) rfl (.inr ⟨(by first | omega | (dsimp only; omega)), by rintro _ _ ⟨rfl, rfl⟩; exact ⟨by simp [PV.no, PV.noL, optS_no, noL_iff, nbeq] <;> omega, by intro b ob h; first | exact optH_no (noL_map (fun _ => by simp [PV.no, PV.noL, noL_iff, nbeq]) _) b ob h | (simp only [List.append_assoc, List.mem_append, List.mem_cons, List.mem_singleton, List.not_mem_nil, or_false, Prod.mk.injEq] at h; rcases h with ⟨rfl, rfl⟩ | ⟨rfl, rfl⟩ <;> first | exact noL_map (fun _ => by simp [PV.no, PV.noL, noL_iff, nbeq]) _ | (simp [PV.no, PV.noL, optS_no, noL_iff, nbeq] <;> omega)) | (simp at h; obtain ⟨rfl, rfl⟩ := h; exact noL_map (fun _ => by simp [PV.no, PV.noL, noL_iff, nbeq]) _) | (simp at h; obtain ⟨rfl, rfl⟩ := h; simp [PV.no, PV.noL, optS_no, noL_iff, nbeq] <;> omega)⟩⟩) lt0 ?_)
    rintro _ _ ⟨rfl, rfl⟩
    refine VO.cons rfl (V1.buildSliceT (f := encRule) ([] : List Rule) rfl rfl esz_58 zk_109 rfl rfl rfl rfl rfl rfl rfl lt0 ?_)
    intro b16
    refine VO.cons rfl (V1.build rfl rfl zk_60 pl_60 rfl rfl lt0 ?_)
    refine VO.weakenK (Keeps.freezeG 0 rn [(58, .vl rn 4 (List.map encRule ([] : List Rule))), (59, .agg [.int .i64 y7.1, .vl rn 4 (List.map encRule ([] : List Rule))])] [(bp, ⟨3, [encCur ρ0 y7.2]⟩), (b15, ⟨1, List.map encInt ([(0 : Int), (20000 : Int), (20001 : Int)] : List Int)⟩), (b3, ⟨2, List.map (encVersion rn) list⟩)] (f := encRule) (l := ([] : List Rule)) rfl (fun _ => rfl) ⟨⟨_, rfl, .here⟩, ⟨_, rfl, (.agg (.cons .same (.cons .here .nil)))⟩, trivial⟩ ⟨_, _, rfl, rfl, .inl rfl, ⟨_, _, rfl, rfl, .inl rfl, ⟨_, _, rfl, rfl, .inl rfl, rfl⟩⟩⟩ rfl (iOne (b := bp) 0 rfl)) ?_
    refine VO.cons rfl (V1.buildSliceT (f := (encVersion rn)) ([(⟨y7.1, ([] : List Rule)⟩ : Version)] : List Version) rfl rfl esz_57 zk_60 rfl rfl rfl rfl rfl rfl rfl lt0 ?_)
    intro b17
    refine VO.cons rfl (V1.appendMap (k := 3) (f := (encVersion rn)) (l := list) (m := ([(⟨y7.1, ([] : List Rule)⟩ : Version)] : List Version)) rfl rfl rfl rfl rfl esz_57 eby_57 zk_60 rfl rfl rfl (SrcOf.srMap (k := 0) rfl isl_57) hh10 lt0 ?_)
    intro b18
    refine VO.cons rfl (V1.as ?_)
    refine VO.nil ?_
    exact ⟨(((list ++ ([(⟨y7.1, ([] : List Rule)⟩ : Version)] : List Version)), y7.2), b18), oi hm1, Keeps.mk (ks := [0, 2]) rfl ⟨rfl, trivial⟩ (⟨_, _, rfl, rfl, ⟨_, _, rfl, rfl, rfl⟩⟩) rfl⟩
   ·
    replace hm1 := cond_f hc2 hm1
    refine V.seq (V.region (VO.cons rfl (V1.it ?_)))
    refine VO.cons rfl (V1.as ?_)
    refine VO.nil (V.keep 79 [0, 5, 62] [0, 1] (E0 := [(0, .ref bp 3 0 0), (5, .sref b3 2 0 (List.length list)), (62, .bool (y6.1 == (1 : Int)))]) (H0 := [(bp, ⟨3, [encCur ρ0 y6.2]⟩), (b3, ⟨2, List.map (encVersion rn) list⟩)]) rfl (⟨_, _, rfl, rfl, ⟨_, _, rfl, rfl, ⟨_, _, rfl, rfl, rfl⟩⟩⟩) (⟨_, _, rfl, rfl, ⟨_, _, rfl, rfl, rfl⟩⟩) rfl ?_)
    refine V.cond rfl (fun hc3 => ?_) (fun hc3 => ?_)
    ·
     replace hm1 := cond_t hc3 hm1
     replace hm1 := bindO hm1; rcases hm1 with ⟨e1, he2, hm1⟩
     refine V.cutT (D := (List Version × Cur) × (Nat)) (fun ⟨⟨list3, c_4⟩, b19⟩ => ⟨79, [(5, .sref b19 2 0 (List.length list3))], [(b19, ⟨2, List.map (encVersion rn) list3⟩), (bp, ⟨3, [encCur ρ0 c_4]⟩)]⟩) (fun ⟨⟨list3, c_4⟩, b19⟩ => ((list3, c_4) = e1)) ?_ ?_
     ·
      refine V.block ?_
      refine V.keep 79 [5, 0] [1, 0] (E0 := [(5, .sref b3 2 0 (List.length list)), (0, .ref bp 3 0 0)]) (H0 := [(b3, ⟨2, List.map (encVersion rn) list⟩), (bp, ⟨3, [encCur ρ0 y6.2]⟩)]) rfl (⟨_, _, rfl, rfl, ⟨_, _, rfl, rfl, rfl⟩⟩) (⟨_, _, rfl, rfl, ⟨_, _, rfl, rfl, rfl⟩⟩) rfl ?_
      refine V.loopE (D := Nat × (List Version × Cur) × (Nat)) (fun ⟨n1, ⟨list4, c_5⟩, b20⟩ => [(5, .sref b20 2 0 (List.length list4))]) (fun ⟨n1, ⟨list4, c_5⟩, b20⟩ => [(b20, ⟨2, List.map (encVersion rn) list4⟩), (bp, ⟨3, [encCur ρ0 c_5]⟩)]) (fun ⟨n1, ⟨list4, c_5⟩, b20⟩ => loopO (M.spec_l1Cur_versions_l1) n1 (list4, c_5) = some e1) (fun ⟨n1, _, _⟩ => n1) (rounds, (list, y6.2), b3) rfl he2 ?_
      rintro ⟨n1, ⟨list4, c_5⟩, b20⟩ hP1
      obtain ⟨m1, y8, rfl, hm2, hl2, hr2⟩ := loop_head hP1
      unfold M.spec_l1Cur_versions_l1 at hm2; dsimp only at hm2
      show V _ _ _ ⟨79, [(5, .sref b20 2 0 (List.length list4)), (0, .ref bp 3 0 0)], [(b20, ⟨2, List.map (encVersion rn) list4⟩), (bp, ⟨3, [encCur ρ0 c_5]⟩)]⟩
      refine V.seq (V.seq ?_)
      replace hm2 := bindO hm2; rcases hm2 with ⟨y9, hh11, hm2⟩
      refine V.region (VO.cons rfl (V1.mv ?_))
      refine VO.cons rfl (V1.lenSref rfl rfl rfl rfl rfl rfl isl_57 lt0 ?_)
      refine VO.cons rfl (V1.mv ?_)
      refine VO.cons rfl (V1.callM 1 (rn + ρ0 + 1) [] [.ref bp 3 0 0, .int .i64 (2 : Int)] (p := (bp, ⟨3, [encCur ρ0 c_5]⟩)) rfl rfl rfl cok_84 rfl rfl ⟨_, _, rfl, .same _, ⟨_, _, rfl, .same _, rfl⟩⟩ bwNil (ok_spec_l1Cur_pick hh11) rfl (.inl rfl) lt0 ?_)
      rintro _ _ ⟨rfl, rfl⟩
      refine VO.cons rfl (V1.it ?_)
      refine VO.cons rfl (V1.it ?_)
      refine VO.nil (V.keep 79 [0, 5, 69] [0, 1] (E0 := [(0, .ref bp 3 0 0), (5, .sref b20 2 0 (List.length list4)), (69, .bool (decide ((list4.length : Int) < (IntKind.i64.wrap ((5 : Int) + y9.1)))))]) (H0 := [(bp, ⟨3, [encCur ρ0 y9.2]⟩), (b20, ⟨2, List.map (encVersion rn) list4⟩)]) rfl (⟨_, _, rfl, rfl, ⟨_, _, rfl, rfl, ⟨_, _, rfl, rfl, rfl⟩⟩⟩) (⟨_, _, rfl, rfl, ⟨_, _, rfl, rfl, rfl⟩⟩) rfl ?_)
      refine V.cond rfl (fun hc4 => ?_) (fun hc4 => ?_)
      ·
       replace hm2 := cond_t hc4 hm2
       refine V.skip ?_
       refine V.block ?_
       replace hm2 := asrt_some hm2; rcases hm2 with ⟨hh12, hm2⟩
       refine V.region (VO.cons rfl (V1.mv ?_))
       refine VO.cons rfl (V1.mv ?_)
       refine VO.cons rfl (V1.lenSref rfl rfl rfl rfl rfl rfl isl_57 lt0 ?_)
       refine VO.cons rfl (V1.it ?_)
       refine VO.cons rfl (V1.buildSliceT (f := encRule) ([] : List Rule) rfl rfl esz_58 zk_109 rfl rfl rfl rfl rfl rfl rfl lt0 ?_)
       intro b21
       refine VO.cons rfl (V1.build rfl rfl zk_60 pl_60 rfl rfl lt0 ?_)
       refine VO.weakenK (Keeps.freezeG 0 rn [(74, .vl rn 4 (List.map encRule ([] : List Rule))), (75, .agg [.int .i64 (IntKind.i64.wrap ((9000 : Int) + (list4.length : Int))), .vl rn 4 (List.map encRule ([] : List Rule))])] [(bp, ⟨3, [encCur ρ0 y9.2]⟩), (b20, ⟨2, List.map (encVersion rn) list4⟩)] (f := encRule) (l := ([] : List Rule)) rfl (fun _ => rfl) ⟨⟨_, rfl, .here⟩, ⟨_, rfl, (.agg (.cons .same (.cons .here .nil)))⟩, trivial⟩ ⟨_, _, rfl, rfl, .inl rfl, ⟨_, _, rfl, rfl, .inl rfl, rfl⟩⟩ rfl (iOne (b := bp) 0 rfl)) ?_
       refine VO.cons rfl (V1.buildSliceT (f := (encVersion rn)) ([(⟨(IntKind.i64.wrap ((9000 : Int) + (list4.length : Int))), ([] : List Rule)⟩ : Version)] : List Version) rfl rfl esz_57 zk_60 rfl rfl rfl rfl rfl rfl rfl lt0 ?_)
       intro b22
       refine VO.cons rfl (V1.appendMap (k := 2) (f := (encVersion rn)) (l := list4) (m := ([(⟨(IntKind.i64.wrap ((9000 : Int) + (list4.length : Int))), ([] : List Rule)⟩ : Version)] : List Version)) rfl rfl rfl rfl rfl esz_57 eby_57 zk_60 rfl rfl rfl (SrcOf.srMap (k := 0) rfl isl_57) hh12 lt0 ?_)
       intro b23
       refine VO.cons rfl (V1.as ?_)
       refine VO.nil ?_
       exact ⟨(m1, ((list4 ++ ([(⟨(IntKind.i64.wrap ((9000 : Int) + (list4.length : Int))), ([] : List Rule)⟩ : Version)] : List Version)), y9.2), b23), hl2 _ (oi hm2).symm, Nat.lt_succ_self _, Keeps.mk (ks := [0, 2]) rfl ⟨rfl, rfl, trivial⟩ (⟨_, _, rfl, rfl, ⟨_, _, rfl, rfl, rfl⟩⟩) rfl⟩
      ·
       replace hm2 := cond_f hc4 hm2
       refine V.exit ?_
       obtain rfl := hr2 _ (oi hm2).symm
       exact ⟨((list4, y9.2), b20), rfl, Keeps.mk (ks := [1, 0]) rfl ⟨rfl, trivial⟩ (⟨_, _, rfl, rfl, ⟨_, _, rfl, rfl, rfl⟩⟩) rfl⟩
     ·
      rintro ⟨⟨list3, c_4⟩, b19⟩ rfl
      try dsimp only at hm1
      exact ⟨((list3, c_4), b19), oi hm1, Keeps.mk (ks := [0, 1]) rfl ⟨rfl, trivial⟩ (⟨_, _, rfl, rfl, ⟨_, _, rfl, rfl, rfl⟩⟩) rfl⟩
    ·
     replace hm1 := cond_f hc3 hm1
     refine V.skip ?_
     exact ⟨((list, y6.2), b3), oi hm1, Keeps.mk (ks := [1, 0]) rfl ⟨rfl, trivial⟩ (⟨_, _, rfl, rfl, ⟨_, _, rfl, rfl, rfl⟩⟩) rfl⟩
  ·
   rintro ⟨⟨list2, c_3⟩, b14⟩ rfl
   try dsimp only at hm0
   refine V.seq (V.region (VO.cons rfl (V1.mv ?_)))
   refine VO.cons rfl (V1.as ?_)
   refine VO.nil (V.keep 79 [4] [0, 1] (E0 := [(4, .sref b14 2 0 (List.length list2))]) (H0 := [(b14, ⟨2, List.map (encVersion rn) list2⟩), (bp, ⟨3, [encCur ρ0 c_3]⟩)]) rfl (⟨_, _, rfl, rfl, rfl⟩) (⟨_, _, rfl, rfl, ⟨_, _, rfl, rfl, rfl⟩⟩) rfl ?_)
   refine V.ret ?_
   obtain rfl := oi hm0
   exact ⟨_, _, ⟨_, _, rfl, rfl, rfl⟩, List.Sublist.refl _, b14, rfl, rfl⟩

theorem ok_spec_l1Cur_day {ρ0 rn bp : Nat} {c : Cur} {r : Int × Cur} (h : M.spec_l1Cur_day c = some r) : Does Try.prog 81 [.ref bp 3 0 0] [(bp, ⟨3, [encCur ρ0 c]⟩)] rn (fun x H => x = .int .i64 r.1 ∧ H = [(bp, ⟨3, [encCur ρ0 r.2]⟩)]) := by
 have hm0 := h; clear h; unfold M.spec_l1Cur_day at hm0
 try dsimp only at hm0
 refine Does.intro (N := 6) Try.func81 rfl rfl rfl rfl ?_
 intro w0 S0
 refine V.seq (V.region (VO.cons rfl (V1.as ?_)))
 refine VO.nil (V.seq ?_)
 replace hm0 := bindO hm0; rcases hm0 with ⟨y0, hh0, hm0⟩
 refine V.region (VO.cons rfl (V1.mv ?_))
 refine VO.cons rfl (V1.buildSliceT (f := encInt) ([(0 : Int), (10 : Int), (100 : Int), (150 : Int), (400 : Int), (1000 : Int), (3650 : Int), (19999 : Int), (20000 : Int), (20001 : Int), (-1 : Int), (365 : Int)] : List Int) rfl rfl esz_69 zk_3 rfl rfl rfl rfl rfl rfl rfl lt0 ?_)
 intro b0
 refine VO.cons rfl (V1.callM 1 (rn + ρ0 + 1) [b0] [.ref bp 3 0 0, .vl (rn + ρ0 + 1) 1 (List.map encInt ([(0 : Int), (10 : Int), (100 : Int), (150 : Int), (400 : Int), (1000 : Int), (3650 : Int), (19999 : Int), (20000 : Int), (20001 : Int), (-1 : Int), (365 : Int)] : List Int))] (p := (bp, ⟨3, [encCur ρ0 c]⟩)) rfl rfl rfl cok_50 rfl rfl ⟨_, _, rfl, .same _, ⟨_, _, rfl, Lend.srMap 0 rfl (fun _ => rfl) (.head _), rfl⟩⟩ (bwCons (k := 0) rfl bwNil) (ok_spec_l1Cur_among hh0) rfl (.inr ⟨(by first | omega | (dsimp only; omega)), by rintro _ _ ⟨rfl, rfl⟩; exact ⟨by simp [PV.no, PV.noL, optS_no, noL_iff, nbeq] <;> omega, by intro b ob h; first | exact optH_no (noL_map (fun _ => by simp [PV.no, PV.noL, noL_iff, nbeq]) _) b ob h | (simp only [List.append_assoc, List.mem_append, List.mem_cons, List.mem_singleton, List.not_mem_nil, or_false, Prod.mk.injEq] at h; rcases h with ⟨rfl, rfl⟩ | ⟨rfl, rfl⟩ <;> first | exact noL_map (fun _ => by simp [PV.no, PV.noL, noL_iff, nbeq]) _ | (simp [PV.no, PV.noL, optS_no, noL_iff, nbeq] <;> omega)) | (simp at h; obtain ⟨rfl, rfl⟩ := h; exact noL_map (fun _ => by simp [PV.no, PV.noL, noL_iff, nbeq]) _) | (simp at h; obtain ⟨rfl, rfl⟩ := h; simp [PV.no, PV.noL, optS_no, noL_iff, nbeq] <;> omega)⟩⟩) lt0 ?_)
 rintro _ _ ⟨rfl, rfl⟩
 refine VO.cons rfl (V1.as ?_)
 refine VO.nil (V.ret ?_)
 obtain rfl := oi hm0
 exact ⟨_, _, ⟨_, _, rfl, rfl, rfl⟩, (sub1 (k := 0) rfl), rfl, rfl⟩

theorem ok_spec_DrawPutVersion {ρ0 rn : Nat} {code : List Int} {r : List Version × Version} (h : M.spec_DrawPutVersion code = some r) : Does Try.prog 35 [.vl ρ0 1 (List.map encU8 code)] [] rn (fun x H => x = .tup [.vl rn 2 (List.map (encVersion rn) r.1), encVersion rn r.2] ∧ H = []) := by
 have hm0 := h; clear h; unfold M.spec_DrawPutVersion at hm0
 try dsimp only at hm0
 refine Does.intro (N := 40) Try.func35 rfl rfl rfl rfl ?_
 intro w0 S0
 refine V.seq (V.region (VO.cons rfl (V1.as ?_)))
 refine VO.cons rfl (V1.alloc rfl rfl zk_60 lt0 ?_)
 intro b0
 refine VO.nil (V.seq (V.region (VO.cons rfl (V1.mv ?_))))
 refine VO.cons rfl (V1.build rfl rfl zk_80 pl_80 rfl rfl lt0 ?_)
 refine VO.cons rfl (V1.boxN (n := 3) rfl rfl rfl rfl rfl lt0 ?_)
 intro b1
 refine VO.cons rfl (V1.as ?_)
 refine VO.nil (V.keep 40 [3, 4] [0, 1] (E0 := [(3, .ref b0 2 0 0), (4, .ref b1 3 0 0)]) (H0 := [(b1, ⟨3, [.agg [.vl ρ0 1 (List.map encU8 code), .int .i64 (0 : Int), .int .u64 (0 : Int)]]⟩), (b0, ⟨2, [.agg [.int .i64 (0 : Int), .nils]]⟩)]) rfl (⟨_, _, rfl, rfl, ⟨_, _, rfl, rfl, rfl⟩⟩) (⟨_, _, rfl, rfl, ⟨_, _, rfl, rfl, rfl⟩⟩) rfl ?_)
 refine V.seq ?_
 replace hm0 := bindO hm0; rcases hm0 with ⟨y0, hh0, hm0⟩
 refine V.region (VO.cons rfl (V1.mv ?_))
 refine VO.cons rfl (V1.callM 0 (rn + ρ0 + 1) [] [.ref b1 3 0 0, .int .i64 (12 : Int)] (p := (b1, ⟨3, [.agg [.vl ρ0 1 (List.map encU8 code), .int .i64 (0 : Int), .int .u64 (0 : Int)]]⟩)) rfl rfl rfl cok_67 rfl rfl ⟨_, _, rfl, .same _, ⟨_, _, rfl, .same _, rfl⟩⟩ bwNil (ok_spec_l1Cur_record hh0) rfl (.inl rfl) lt0 ?_)
 rintro _ _ ⟨rfl, rfl⟩
 refine VO.cons rfl (V1.alloc rfl rfl zk_44 lt0 ?_)
 intro b2
 refine VO.cons rfl (V1.storeRefAll (k := 0) rfl rfl tyk_44 rfl rfl rfl rfl rfl rfl ?_)
 refine VO.nil (V.seq ?_)
 replace hm0 := bindO hm0; rcases hm0 with ⟨y1, hh1, hm0⟩
 refine V.region (VO.cons rfl (V1.mv ?_))
 refine VO.cons rfl (V1.loadRefAll (k := 0) rfl rfl tyk_44 rfl rfl rfl rfl rfl lt0 ?_)
 refine VO.cons rfl (V1.callM 1 (rn + ρ0 + 1) [] [.ref b1 3 0 0, encRecord rn y0.1] (p := (b1, ⟨3, [encCur ρ0 y0.2]⟩)) rfl rfl rfl cok_80 rfl rfl ⟨_, _, rfl, .same _, ⟨_, _, rfl, .same _, rfl⟩⟩ bwNil (ok_spec_l1Cur_versions hh1) rfl (.inl rfl) lt0 ?_)
 rintro _ _ ⟨b3, rfl, rfl⟩
 refine VO.cons rfl (V1.as ?_)
 refine VO.nil (V.keep 40 [3, 4, 5, 6] [0, 1, 2, 3] (E0 := [(3, .ref b0 2 0 0), (4, .ref b1 3 0 0), (5, .ref b2 4 0 0), (6, .sref b3 2 0 (List.length y1.1))]) (H0 := [(b3, ⟨2, List.map (encVersion rn) y1.1⟩), (b1, ⟨3, [encCur ρ0 y1.2]⟩), (b2, ⟨4, [encRecord rn y0.1]⟩), (b0, ⟨2, [.agg [.int .i64 (0 : Int), .nils]]⟩)]) rfl (⟨_, _, rfl, rfl, ⟨_, _, rfl, rfl, ⟨_, _, rfl, rfl, ⟨_, _, rfl, rfl, rfl⟩⟩⟩⟩) (⟨_, _, rfl, rfl, ⟨_, _, rfl, rfl, ⟨_, _, rfl, rfl, ⟨_, _, rfl, rfl, rfl⟩⟩⟩⟩) rfl ?_)
 refine V.seq ?_
 replace hm0 := bindO hm0; rcases hm0 with ⟨y2, hh2, hm0⟩
 replace hm0 := bindO hm0; rcases hm0 with ⟨y3, hh3, hm0⟩
 replace hm0 := bindO hm0; rcases hm0 with ⟨j0, hm1, hm0⟩
 refine V.cutT (D := (Cur) × (Nat)) (fun ⟨c_, b6⟩ => ⟨40, [(7, .ref b6 2 0 0), (3, .ref b0 2 0 0), (4, .ref b1 3 0 0), (6, .sref b3 2 0 (List.length y1.1))], [(b6, ⟨2, [.agg [.int .i64 y2.1, .vl rn 4 (List.map encRule y3.1)]]⟩), (b1, ⟨3, [encCur ρ0 c_]⟩), (b3, ⟨2, List.map (encVersion rn) y1.1⟩), (b0, ⟨2, [.agg [.int .i64 (0 : Int), .nils]]⟩)]⟩) (fun ⟨c_, b6⟩ => (c_ = j0)) ?_ ?_
 ·
  refine V.regionS [(b2, ⟨4, [encRecord rn y0.1]⟩)] 40 7 [⟨[(4, none)], false⟩, ⟨[(16, some 0)], true⟩, ⟨[(4, none)], false⟩, ⟨[(5, none)], false⟩, ⟨[(18, some 2), (19, some 3)], true⟩, ⟨[(17, some 1), (20, some 4)], false⟩, ⟨[], true⟩] [(3, none), (4, none), (6, none), (7, some 6), (21, some 5)] 3 (⟨_, rfl, ⟨_, rfl, ⟨_, rfl, ⟨_, rfl, ⟨_, rfl, ⟨_, rfl, ⟨_, rfl, ⟨rfl, rfl⟩⟩⟩⟩⟩⟩⟩⟩) mixed_orders rfl (by decide +kernel) ?_
  refine WalkP.step (p := ?pv42) 0 rfl rfl rfl rfl rfl (⟨_, _, rfl, rfl, rfl⟩) ?hv42 ?rest42
  case hv42 =>
   intro E1 H1 hI1
   refine (V1.mv ?_)
   exact rfl
  refine WalkP.step (p := ?pv43) 2 rfl rfl rfl rfl rfl (⟨_, _, rfl, rfl, rfl⟩) ?hv43 ?rest43
  case hv43 =>
   intro E1 H1 hI1
   refine (V1.mv ?_)
   exact rfl
  refine WalkP.step (p := ?pv44) 3 rfl rfl rfl rfl rfl (⟨_, _, rfl, rfl, rfl⟩) ?hv44 ?rest44
  case hv44 =>
   intro E1 H1 hI1
   obtain ⟨k45_, hk45_⟩ := inGet 0 rfl hI1
   refine (V1.loadRefAll (k := k45_) rfl rfl tyk_44 rfl hk45_ rfl rfl rfl lt0 ?_)
   exact rfl
  refine WalkP.nil (NodeS.branch [1, 6] (inCons 2 rfl inNil) rfl rfl rfl ⟨?_, ?_, trivial⟩)
  ·
   refine ⟨_, _, _, _, rfl, rfl, rfl, (⟨_, _, rfl, rfl, rfl⟩), fun E1 => ?_⟩
   refine (V1.callM 1 (rn + ρ0 + 1) [] [.ref b1 3 0 0] (p := (b1, ⟨3, [encCur ρ0 y1.2]⟩)) rfl rfl rfl cok_81 rfl rfl ⟨_, _, rfl, .same _, rfl⟩ bwNil (ok_spec_l1Cur_day hh2) rfl (.inl rfl) lt0 ?_)
   rintro _ _ ⟨rfl, rfl⟩
   refine ⟨_, _, rfl, ?_⟩
   refine WalkP.nil (NodeS.branch [4, 6] (inCons 2 rfl inNil) rfl rfl rfl ⟨?_, ?_, trivial⟩)
   ·
    refine ⟨_, _, _, _, rfl, rfl, rfl, (⟨_, _, rfl, rfl, ⟨_, _, rfl, rfl, rfl⟩⟩), fun E1 => ?_⟩
    refine (V1.callM 0 (rn + ρ0 + 1) [] [.ref b1 3 0 0, encRecord rn y0.1] (p := (b1, ⟨3, [encCur ρ0 y2.2]⟩)) rfl rfl rfl cok_82 rfl rfl ⟨_, _, rfl, .same _, ⟨_, _, rfl, .same _, rfl⟩⟩ bwNil (ok_spec_l1Cur_suited hh3) rfl (.inl rfl) lt0 ?_)
    rintro _ _ ⟨b7, rfl, rfl⟩
    refine ⟨_, _, rfl, ?_⟩
    refine WalkP.step (p := ?pv46) 5 rfl rfl rfl rfl rfl (⟨_, _, rfl, rfl, ⟨_, _, rfl, rfl, rfl⟩⟩) ?hv46 ?rest46
    case hv46 =>
     intro E1 H1 hI1
     refine (V1.build rfl rfl zk_60 pl_60 rfl rfl lt0 ?_)
     exact rfl
    refine WalkP.nil (NodeS.branch [6] (inCons 3 rfl inNil) rfl rfl rfl ⟨?_, trivial⟩)
    ·
     refine ⟨_, _, _, _, rfl, rfl, rfl, (rfl), fun E1 => ?_⟩
     refine (V1.alloc rfl rfl zk_60 lt0 ?_)
     intro b8
     refine ⟨_, _, rfl, ?_⟩
     refine WalkP.nil (NodeS.fin (inCons 4 rfl inNil) rfl rfl rfl (⟨_, _, rfl, rfl, ⟨_, _, rfl, rfl, ⟨_, _, rfl, rfl, ⟨_, _, rfl, rfl, ⟨_, _, rfl, rfl, rfl⟩⟩⟩⟩⟩) ?_)
     refine VO.cons rfl (V1.storeRefAll (k := 0) rfl rfl tyk_60 rfl rfl rfl rfl rfl rfl ?_)
     refine VO.nil ?_
     exact ⟨(y3.2, b8), oi hm1, Keeps.trans (Keeps.freezeG 1 rn [(21, .agg [.int .i64 y2.1, .vl rn 4 (List.map encRule y3.1)])] [(b8, ⟨2, [.agg [.int .i64 y2.1, .vl rn 4 (List.map encRule y3.1)]]⟩), (b1, ⟨3, [encCur ρ0 y3.2]⟩), (b3, ⟨2, List.map (encVersion rn) y1.1⟩), (b2, ⟨4, [encRecord rn y0.1]⟩), (b0, ⟨2, [.agg [.int .i64 (0 : Int), .nils]]⟩)] (f := encRule) (l := y3.1) rfl (fun _ => rfl) ⟨⟨_, rfl, (.agg (.cons .same (.cons .here .nil)))⟩, trivial⟩ ⟨_, _, rfl, rfl, .inr (.cons (.agg (.cons .same (.cons .here .nil))) .nil), ⟨_, _, rfl, rfl, .inl rfl, ⟨_, _, rfl, rfl, .inl rfl, ⟨_, _, rfl, rfl, .inl rfl, ⟨_, _, rfl, rfl, .inl rfl, rfl⟩⟩⟩⟩⟩ rfl iNil) (Keeps.mk (ks := [0, 1, 2, 4]) rfl ⟨rfl, rfl, rfl, rfl, trivial⟩ (⟨_, _, rfl, rfl, ⟨_, _, rfl, rfl, ⟨_, _, rfl, rfl, ⟨_, _, rfl, rfl, rfl⟩⟩⟩⟩) rfl)⟩
   ·
    refine ⟨_, _, _, _, rfl, rfl, rfl, (rfl), fun E1 => ?_⟩
    refine (V1.alloc rfl rfl zk_60 lt0 ?_)
    intro b9
    refine ⟨_, _, rfl, ?_⟩
    refine WalkP.nil (NodeS.branch [4] (inCons 3 rfl inNil) rfl rfl rfl ⟨?_, trivial⟩)
    ·
     refine ⟨_, _, _, _, rfl, rfl, rfl, (⟨_, _, rfl, rfl, ⟨_, _, rfl, rfl, rfl⟩⟩), fun E1 => ?_⟩
     refine (V1.callM 1 (rn + ρ0 + 1) [] [.ref b1 3 0 0, encRecord rn y0.1] (p := (b1, ⟨3, [encCur ρ0 y2.2]⟩)) rfl rfl rfl cok_82 rfl rfl ⟨_, _, rfl, .same _, ⟨_, _, rfl, .same _, rfl⟩⟩ bwNil (ok_spec_l1Cur_suited hh3) rfl (.inl rfl) lt0 ?_)
     rintro _ _ ⟨b10, rfl, rfl⟩
     refine ⟨_, _, rfl, ?_⟩
     refine WalkP.step (p := ?pv47) 5 rfl rfl rfl rfl rfl (⟨_, _, rfl, rfl, ⟨_, _, rfl, rfl, rfl⟩⟩) ?hv47 ?rest47
     case hv47 =>
      intro E1 H1 hI1
      refine (V1.build rfl rfl zk_60 pl_60 rfl rfl lt0 ?_)
      exact rfl
     refine WalkP.nil (NodeS.fin (inCons 4 rfl inNil) rfl rfl rfl (⟨_, _, rfl, rfl, ⟨_, _, rfl, rfl, ⟨_, _, rfl, rfl, ⟨_, _, rfl, rfl, ⟨_, _, rfl, rfl, rfl⟩⟩⟩⟩⟩) ?_)
     refine VO.cons rfl (V1.storeRefAll (k := 2) rfl rfl tyk_60 rfl rfl rfl rfl rfl rfl ?_)
     refine VO.nil ?_
     exact ⟨(y3.2, b9), oi hm1, Keeps.trans (Keeps.freezeG 0 rn [(21, .agg [.int .i64 y2.1, .vl rn 4 (List.map encRule y3.1)])] [(b1, ⟨3, [encCur ρ0 y3.2]⟩), (b9, ⟨2, [.agg [.int .i64 y2.1, .vl rn 4 (List.map encRule y3.1)]]⟩), (b3, ⟨2, List.map (encVersion rn) y1.1⟩), (b2, ⟨4, [encRecord rn y0.1]⟩), (b0, ⟨2, [.agg [.int .i64 (0 : Int), .nils]]⟩)] (f := encRule) (l := y3.1) rfl (fun _ => rfl) ⟨⟨_, rfl, (.agg (.cons .same (.cons .here .nil)))⟩, trivial⟩ ⟨_, _, rfl, rfl, .inl rfl, ⟨_, _, rfl, rfl, .inr (.cons (.agg (.cons .same (.cons .here .nil))) .nil), ⟨_, _, rfl, rfl, .inl rfl, ⟨_, _, rfl, rfl, .inl rfl, ⟨_, _, rfl, rfl, .inl rfl, rfl⟩⟩⟩⟩⟩ rfl iNil) (Keeps.mk (ks := [1, 0, 2, 4]) rfl ⟨rfl, rfl, rfl, rfl, trivial⟩ (⟨_, _, rfl, rfl, ⟨_, _, rfl, rfl, ⟨_, _, rfl, rfl, ⟨_, _, rfl, rfl, rfl⟩⟩⟩⟩) rfl)⟩
  ·
   refine ⟨_, _, _, _, rfl, rfl, rfl, (rfl), fun E1 => ?_⟩
   refine (V1.alloc rfl rfl zk_60 lt0 ?_)
   intro b11
   refine ⟨_, _, rfl, ?_⟩
   refine WalkP.nil (NodeS.branch [1] (inCons 3 rfl inNil) rfl rfl rfl ⟨?_, trivial⟩)
   ·
    refine ⟨_, _, _, _, rfl, rfl, rfl, (⟨_, _, rfl, rfl, rfl⟩), fun E1 => ?_⟩
    refine (V1.callM 2 (rn + ρ0 + 1) [] [.ref b1 3 0 0] (p := (b1, ⟨3, [encCur ρ0 y1.2]⟩)) rfl rfl rfl cok_81 rfl rfl ⟨_, _, rfl, .same _, rfl⟩ bwNil (ok_spec_l1Cur_day hh2) rfl (.inl rfl) lt0 ?_)
    rintro _ _ ⟨rfl, rfl⟩
    refine ⟨_, _, rfl, ?_⟩
    refine WalkP.nil (NodeS.branch [4] (inCons 3 rfl inNil) rfl rfl rfl ⟨?_, trivial⟩)
    ·
     refine ⟨_, _, _, _, rfl, rfl, rfl, (⟨_, _, rfl, rfl, ⟨_, _, rfl, rfl, rfl⟩⟩), fun E1 => ?_⟩
     refine (V1.callM 0 (rn + ρ0 + 1) [] [.ref b1 3 0 0, encRecord rn y0.1] (p := (b1, ⟨3, [encCur ρ0 y2.2]⟩)) rfl rfl rfl cok_82 rfl rfl ⟨_, _, rfl, .same _, ⟨_, _, rfl, .same _, rfl⟩⟩ bwNil (ok_spec_l1Cur_suited hh3) rfl (.inl rfl) lt0 ?_)
     rintro _ _ ⟨b12, rfl, rfl⟩
     refine ⟨_, _, rfl, ?_⟩
     refine WalkP.step (p := ?pv48) 5 rfl rfl rfl rfl rfl (⟨_, _, rfl, rfl, ⟨_, _, rfl, rfl, rfl⟩⟩) ?hv48 ?rest48
     case hv48 =>
      intro E1 H1 hI1
      refine (V1.build rfl rfl zk_60 pl_60 rfl rfl lt0 ?_)
      exact rfl
     refine WalkP.nil (NodeS.fin (inCons 4 rfl inNil) rfl rfl rfl (⟨_, _, rfl, rfl, ⟨_, _, rfl, rfl, ⟨_, _, rfl, rfl, ⟨_, _, rfl, rfl, ⟨_, _, rfl, rfl, rfl⟩⟩⟩⟩⟩) ?_)
     refine VO.cons rfl (V1.storeRefAll (k := 2) rfl rfl tyk_60 rfl rfl rfl rfl rfl rfl ?_)
     refine VO.nil ?_
     exact ⟨(y3.2, b11), oi hm1, Keeps.trans (Keeps.freezeG 0 rn [(21, .agg [.int .i64 y2.1, .vl rn 4 (List.map encRule y3.1)])] [(b1, ⟨3, [encCur ρ0 y3.2]⟩), (b11, ⟨2, [.agg [.int .i64 y2.1, .vl rn 4 (List.map encRule y3.1)]]⟩), (b3, ⟨2, List.map (encVersion rn) y1.1⟩), (b2, ⟨4, [encRecord rn y0.1]⟩), (b0, ⟨2, [.agg [.int .i64 (0 : Int), .nils]]⟩)] (f := encRule) (l := y3.1) rfl (fun _ => rfl) ⟨⟨_, rfl, (.agg (.cons .same (.cons .here .nil)))⟩, trivial⟩ ⟨_, _, rfl, rfl, .inl rfl, ⟨_, _, rfl, rfl, .inr (.cons (.agg (.cons .same (.cons .here .nil))) .nil), ⟨_, _, rfl, rfl, .inl rfl, ⟨_, _, rfl, rfl, .inl rfl, ⟨_, _, rfl, rfl, .inl rfl, rfl⟩⟩⟩⟩⟩ rfl iNil) (Keeps.mk (ks := [1, 0, 2, 4]) rfl ⟨rfl, rfl, rfl, rfl, trivial⟩ (⟨_, _, rfl, rfl, ⟨_, _, rfl, rfl, ⟨_, _, rfl, rfl, ⟨_, _, rfl, rfl, rfl⟩⟩⟩⟩) rfl)⟩
 ·
  rintro ⟨c_, b6⟩ rfl
  try dsimp only at hm0
  refine V.seq ?_
  replace hm0 := bindO hm0; rcases hm0 with ⟨j1, hm1, hm0⟩
  refine V.cutT (D := (Cur × Version) × (Unit)) (fun ⟨⟨c_0, v⟩, _⟩ => ⟨40, [(3, .ref b0 2 0 0), (6, .sref b3 2 0 (List.length y1.1)), (7, .ref b6 2 0 0)], [(b1, ⟨3, [encCur ρ0 c_0]⟩), (b6, ⟨2, [encVersion rn v]⟩), (b3, ⟨2, List.map (encVersion rn) y1.1⟩), (b0, ⟨2, [.agg [.int .i64 (0 : Int), .nils]]⟩)]⟩) (fun ⟨⟨c_0, v⟩, _⟩ => ((c_0, v) = j1)) ?_ ?_
  ·
   refine V.seq ?_
   replace hm1 := bindO hm1; rcases hm1 with ⟨y4, hh4, hm1⟩
   refine V.region (VO.cons rfl (V1.mv ?_))
   refine VO.cons rfl (V1.lenSref rfl rfl rfl rfl rfl rfl isl_57 lt0 ?_)
   refine VO.cons rfl (V1.it ?_)
   refine VO.cons rfl (V1.mv ?_)
   apply VO.andH (n := 2) [(b6, ⟨2, [.agg [.int .i64 y2.1, .vl rn 4 (List.map encRule y3.1)]]⟩), (b1, ⟨3, [encCur ρ0 (bif (decide ((y1.1.length : Int) > (0 : Int))) then y4.2 else c_)]⟩), (b3, ⟨2, List.map (encVersion rn) y1.1⟩), (b0, ⟨2, [.agg [.int .i64 (0 : Int), .nils]]⟩)] rfl rfl rfl rfl rfl rfl lt0 (.none rfl) (fun h => by rw [h]; rfl)
   ·
    intro hg0
    refine VO.step (.some rfl rfl rfl) (V1.mv ?_)
    refine VO.step (.some rfl rfl rfl) (V1.callM 1 (rn + ρ0 + 1) [] [.ref b1 3 0 0, .int .i64 (3 : Int)] (p := (b1, ⟨3, [encCur ρ0 c_]⟩)) rfl rfl rfl cok_83 rfl rfl ⟨_, _, rfl, .same _, ⟨_, _, rfl, .same _, rfl⟩⟩ bwNil (ok_spec_l1Cur_one (cond_t hg0 hh4)) rfl (.inl rfl) lt0 ?_)
    rintro _ _ ⟨rfl, rfl⟩
    refine VO.weakenK (Keeps.setAt (H := [(b6, ⟨2, [.agg [.int .i64 y2.1, .vl rn 4 (List.map encRule y3.1)]]⟩), (b1, ⟨3, [encCur ρ0 c_]⟩), (b3, ⟨2, List.map (encVersion rn) y1.1⟩), (b0, ⟨2, [.agg [.int .i64 (0 : Int), .nils]]⟩)]) 1 lt0) ?_
    exact VO.nil ⟨rfl, rfl, rfl, (by rw [hg0]; rfl), .inr ⟨rfl, .inr ⟨rfl, .inr ⟨rfl, .inl rfl⟩⟩⟩⟩
   refine VO.nil (V.keep 40 [3, 4, 6, 7, 28] [0, 1, 2, 3] (E0 := [(3, .ref b0 2 0 0), (4, .ref b1 3 0 0), (6, .sref b3 2 0 (List.length y1.1)), (7, .ref b6 2 0 0), (28, .bool ((decide ((y1.1.length : Int) > (0 : Int))) && y4.1))]) (H0 := [(b6, ⟨2, [.agg [.int .i64 y2.1, .vl rn 4 (List.map encRule y3.1)]]⟩), (b1, ⟨3, [encCur ρ0 (bif (decide ((y1.1.length : Int) > (0 : Int))) then y4.2 else c_)]⟩), (b3, ⟨2, List.map (encVersion rn) y1.1⟩), (b0, ⟨2, [.agg [.int .i64 (0 : Int), .nils]]⟩)]) rfl (⟨_, _, rfl, rfl, ⟨_, _, rfl, rfl, ⟨_, _, rfl, rfl, ⟨_, _, rfl, rfl, ⟨_, _, rfl, rfl, rfl⟩⟩⟩⟩⟩) (⟨_, _, rfl, rfl, ⟨_, _, rfl, rfl, ⟨_, _, rfl, rfl, ⟨_, _, rfl, rfl, rfl⟩⟩⟩⟩) rfl ?_)
   refine V.cond rfl (fun hc0 => ?_) (fun hc0 => ?_)
   ·
    replace hm1 := cond_t hc0 hm1
    replace hm1 := bindO hm1; rcases hm1 with ⟨y5, hh5, hm1⟩
    replace hm1 := asrt_some hm1; rcases hm1 with ⟨hh6, hm1⟩
    refine V.region (VO.cons rfl (V1.mv ?_))
    refine VO.cons rfl (V1.mv ?_)
    refine VO.cons rfl (V1.mv ?_)
    refine VO.cons rfl (V1.lenSref rfl rfl rfl rfl rfl rfl isl_57 lt0 ?_)
    refine VO.cons rfl (V1.callM 1 (rn + ρ0 + 1) [] [.ref b1 3 0 0, .int .i64 (y1.1.length : Int)] (p := (b1, ⟨3, [encCur ρ0 (bif (decide ((y1.1.length : Int) > (0 : Int))) then y4.2 else c_)]⟩)) rfl rfl rfl cok_84 rfl rfl ⟨_, _, rfl, .same _, ⟨_, _, rfl, .same _, rfl⟩⟩ bwNil (ok_spec_l1Cur_pick hh5) rfl (.inl rfl) lt0 ?_)
    rintro _ _ ⟨rfl, rfl⟩
    refine VO.cons rfl (V1.indexSr rfl rfl esz_57 rfl rfl hh6 lt0 ?_)
    refine VO.cons rfl (V1.fieldRef rfl rfl fo_60_0 rfl lt0 ?_)
    refine VO.cons rfl (V1.loadMap (k := 2) (f := (encVersion rn)) rfl rfl tyk_3 rfl rfl (by simpa using natLt hh6.1 hh6.2) rfl lt0 ?_)
    refine VO.cons rfl (V1.fieldRef rfl rfl fo_60_0 rfl lt0 ?_)
    refine VO.cons rfl (V1.storeRef (k := 1) rfl rfl tyk_3 rfl rfl rfl rfl rfl rfl rfl rfl rfl ?_)
    refine VO.nil ?_
    exact ⟨((y5.2, (⟨(y1.1.getD (Int.toNat y5.1) default).From, y3.1⟩ : Version)), ()), oi hm1, Keeps.mk (ks := [0, 1, 2, 3]) rfl ⟨rfl, rfl, rfl, trivial⟩ (⟨_, _, rfl, rfl, ⟨_, _, rfl, rfl, ⟨_, _, rfl, rfl, ⟨_, _, rfl, rfl, rfl⟩⟩⟩⟩) rfl⟩
   ·
    replace hm1 := cond_f hc0 hm1
    refine V.skip ?_
    exact ⟨(((bif (decide ((y1.1.length : Int) > (0 : Int))) then y4.2 else c_), (⟨y2.1, y3.1⟩ : Version)), ()), oi hm1, Keeps.mk (ks := [1, 0, 2, 3]) rfl ⟨rfl, rfl, rfl, trivial⟩ (⟨_, _, rfl, rfl, ⟨_, _, rfl, rfl, ⟨_, _, rfl, rfl, ⟨_, _, rfl, rfl, rfl⟩⟩⟩⟩) rfl⟩
  ·
   rintro ⟨⟨c_0, v⟩, _⟩ rfl
   try dsimp only at hm0
   refine V.seq (V.regionM 40 3 [⟨[(6, none)], [], none⟩, ⟨[(7, none)], [], none⟩, ⟨[(38, some 1)], [], none⟩] [(2, some 0), (3, none), (39, some 1)] (⟨_, rfl, ⟨_, rfl, ⟨_, rfl, ⟨rfl, rfl⟩⟩⟩⟩) mixed_orders rfl (by decide +kernel) (fun hck7 => ?_))
   refine VP.step (p := ?pv49) rfl rfl rfl (⟨_, _, rfl, rfl, rfl⟩) ?hv49 ?rest49 hck7
   case hv49 =>
    intro E1
    refine (V1.mv ?_)
    exact rfl
   refine VP.step (p := ?pv50) rfl rfl rfl (⟨_, _, rfl, rfl, rfl⟩) ?hv50 ?rest50 hck7
   case hv50 =>
    intro E1
    refine (V1.loadRefAll (k := 1) rfl rfl tyk_60 rfl rfl rfl rfl rfl lt0 ?_)
    exact rfl
   refine VP.step (p := ?pv51) rfl rfl rfl (⟨_, _, rfl, rfl, rfl⟩) ?hv51 ?rest51 hck7
   case hv51 =>
    intro E1
    refine (V1.as ?_)
    exact rfl
   refine VP.fin rfl (⟨_, _, rfl, rfl, ⟨_, _, rfl, rfl, ⟨_, _, rfl, rfl, rfl⟩⟩⟩) ?_
   refine VO.cons rfl (V1.storeRefAll (k := 3) rfl rfl tyk_60 rfl rfl rfl rfl rfl rfl ?_)
   refine VO.nil (V.weakenK (Keeps.freezeG 2 rn [(2, .vl rn 2 (List.map (encVersion rn) y1.1))] [(b1, ⟨3, [encCur ρ0 c_0]⟩), (b6, ⟨2, [encVersion rn v]⟩), (b0, ⟨2, [encVersion rn v]⟩)] (f := (encVersion rn)) (l := y1.1) rfl (fun _ => rfl) ⟨⟨_, rfl, .here⟩, trivial⟩ ⟨_, _, rfl, rfl, .inl rfl, ⟨_, _, rfl, rfl, .inl rfl, ⟨_, _, rfl, rfl, .inl rfl, rfl⟩⟩⟩ rfl iNil) ?_)
   refine V.ret ?_
   obtain rfl := oi hm0
   exact ⟨_, [], ⟨_, _, rfl, rfl, ⟨_, _, rfl, ⟨_, _, 2, _, rfl, rfl, rfl, rfl, tyk_60, rfl⟩, rfl⟩⟩, List.nil_sublist _, rfl, rfl⟩

theorem ok_impl_within {rn : Nat} {n : Int} {low : Int} {high : Int} {r : Bool} (h : M.impl_within n low high = some r) : Does Try.prog 57 [.int .i64 n, .int .i64 low, .int .i64 high] [] rn (fun x H => x = .bool r ∧ H = []) := by
 have hm0 := h; clear h; unfold M.impl_within at hm0
 try dsimp only at hm0
 refine Does.intro (N := 15) Try.func57 rfl rfl rfl rfl ?_
 intro w0 S0
 refine V.seq (V.region (VO.cons rfl (V1.as ?_)))
 refine VO.nil (V.seq (V.region (VO.cons rfl (V1.mv ?_))))
 refine VO.cons rfl (V1.mv ?_)
 refine VO.cons rfl (V1.it ?_)
 refine VO.cons rfl (V1.mv ?_)
 apply VO.and (n := 3) rfl rfl rfl rfl rfl rfl lt0 (.none rfl)
 ·
  intro hg0
  refine VO.step (.some rfl rfl rfl) (V1.mv ?_)
  refine VO.step (.some rfl rfl rfl) (V1.mv ?_)
  refine VO.step (.some rfl rfl rfl) (V1.it ?_)
  exact VO.nil ⟨rfl, rfl, rfl, rfl, .inr ⟨rfl, .inr ⟨rfl, .inr ⟨rfl, .inr ⟨rfl, .inl rfl⟩⟩⟩⟩⟩
 refine VO.cons rfl (V1.as ?_)
 refine VO.nil (V.ret ?_)
 obtain rfl := oi hm0
 exact ⟨_, [], ⟨_, _, rfl, rfl, rfl⟩, List.nil_sublist _, rfl, rfl⟩

theorem ok_impl_isDay {rn : Nat} {day : Int} {r : Bool} (h : M.impl_isDay day = some r) : Does Try.prog 56 [.int .i64 day] [] rn (fun x H => x = .bool r ∧ H = []) := by
 have hm0 := h; clear h; unfold M.impl_isDay at hm0
 try dsimp only at hm0
 refine Does.intro (N := 5) Try.func56 rfl rfl rfl rfl ?_
 intro w0 S0
 refine V.seq (V.region (VO.cons rfl (V1.as ?_)))
 refine VO.nil (V.seq ?_)
 replace hm0 := bindO hm0; rcases hm0 with ⟨y0, hh0, hm0⟩
 refine V.region (VO.cons rfl (V1.mv ?_))
 refine VO.cons rfl (V1.call rfl rfl rfl cok_57 rfl (ok_impl_within hh0) rfl lt0 ?_)
 rintro _ _ ⟨rfl, rfl⟩
 refine VO.cons rfl (V1.as ?_)
 refine VO.nil (V.ret ?_)
 obtain rfl := oi hm0
 exact ⟨_, [], ⟨_, _, rfl, rfl, rfl⟩, List.nil_sublist _, rfl, rfl⟩

theorem ok_impl_isId {rn : Nat} {id_ : Int} {r : Bool} (h : M.impl_isId id_ = some r) : Does Try.prog 55 [.int .i64 id_] [] rn (fun x H => x = .bool r ∧ H = []) := by
 have hm0 := h; clear h; unfold M.impl_isId at hm0
 try dsimp only at hm0
 refine Does.intro (N := 5) Try.func55 rfl rfl rfl rfl ?_
 intro w0 S0
 refine V.seq (V.region (VO.cons rfl (V1.as ?_)))
 refine VO.nil (V.seq ?_)
 replace hm0 := bindO hm0; rcases hm0 with ⟨y0, hh0, hm0⟩
 refine V.region (VO.cons rfl (V1.mv ?_))
 refine VO.cons rfl (V1.call rfl rfl rfl cok_57 rfl (ok_impl_within hh0) rfl lt0 ?_)
 rintro _ _ ⟨rfl, rfl⟩
 refine VO.cons rfl (V1.as ?_)
 refine VO.nil (V.ret ?_)
 obtain rfl := oi hm0
 exact ⟨_, [], ⟨_, _, rfl, rfl, rfl⟩, List.nil_sublist _, rfl, rfl⟩

theorem ok_impl_isAct {rn : Nat} {act : Int} {r : Bool} (h : M.impl_isAct act = some r) : Does Try.prog 135 [.int .i64 act] [] rn (fun x H => x = .bool r ∧ H = []) := by
 have hm0 := h; clear h; unfold M.impl_isAct at hm0
 try dsimp only at hm0
 refine Does.intro (N := 5) Try.func135 rfl rfl rfl rfl ?_
 intro w0 S0
 refine V.seq (V.region (VO.cons rfl (V1.as ?_)))
 refine VO.nil (V.seq ?_)
 replace hm0 := bindO hm0; rcases hm0 with ⟨y0, hh0, hm0⟩
 refine V.region (VO.cons rfl (V1.mv ?_))
 refine VO.cons rfl (V1.call rfl rfl rfl cok_57 rfl (ok_impl_within hh0) rfl lt0 ?_)
 rintro _ _ ⟨rfl, rfl⟩
 refine VO.cons rfl (V1.as ?_)
 refine VO.nil (V.ret ?_)
 obtain rfl := oi hm0
 exact ⟨_, [], ⟨_, _, rfl, rfl, rfl⟩, List.nil_sublist _, rfl, rfl⟩

theorem ok_impl_IsRule {rn : Nat} {r_ : Rule} {r : Bool} (h : M.impl_IsRule r_ = some r) : Does Try.prog 121 [encRule r_] [] rn (fun x H => x = .bool r ∧ H = []) := by
 have hm0 := h; clear h; unfold M.impl_IsRule at hm0
 try dsimp only at hm0
 refine Does.intro (N := 21) Try.func121 rfl rfl rfl rfl ?_
 intro w0 S0
 refine V.seq (V.region (VO.cons rfl (V1.boxN (n := 4) rfl rfl rfl rfl rfl lt0 ?_)))
 intro b0
 refine VO.cons rfl (V1.as ?_)
 refine VO.nil (V.seq ?_)
 replace hm0 := bindO hm0; rcases hm0 with ⟨y0, hh0, hm0⟩
 replace hm0 := bindO hm0; rcases hm0 with ⟨y1, hh1, hm0⟩
 replace hm0 := bindO hm0; rcases hm0 with ⟨y2, hh2, hm0⟩
 replace hm0 := bindO hm0; rcases hm0 with ⟨y3, hh3, hm0⟩
 refine V.region (VO.cons rfl (V1.fieldRef rfl rfl fo_109_0 rfl lt0 ?_))
 refine VO.cons rfl (V1.loadRef (k := 0) rfl rfl tyk_3 rfl rfl rfl rfl rfl lt0 ?_)
 refine VO.cons rfl (V1.call rfl rfl rfl cok_55 rfl (ok_impl_isId hh0) rfl lt0 ?_)
 rintro _ _ ⟨rfl, rfl⟩
 refine VO.cons rfl (V1.mv ?_)
 apply VO.and (n := 3) rfl rfl rfl rfl rfl rfl lt0 (.none rfl)
 ·
  intro hg0
  refine VO.step (.some rfl rfl rfl) (V1.fieldRef rfl rfl fo_109_1 rfl lt0 ?_)
  refine VO.step (.some rfl rfl rfl) (V1.loadRef (k := 0) rfl rfl tyk_3 rfl rfl rfl rfl rfl lt0 ?_)
  refine VO.step (.some rfl rfl rfl) (V1.call rfl rfl rfl cok_57 rfl (ok_impl_within (cond_t hg0 hh1)) rfl lt0 ?_)
  rintro _ _ ⟨rfl, rfl⟩
  exact VO.nil ⟨rfl, rfl, rfl, rfl, .inr ⟨rfl, .inr ⟨rfl, .inr ⟨rfl, .inr ⟨rfl, .inl rfl⟩⟩⟩⟩⟩
 refine VO.cons rfl (V1.mv ?_)
 apply VO.and (n := 3) rfl rfl rfl rfl rfl rfl lt0 (.none rfl)
 ·
  intro hg1
  refine VO.step (.some rfl rfl rfl) (V1.fieldRef rfl rfl fo_109_2 rfl lt0 ?_)
  refine VO.step (.some rfl rfl rfl) (V1.loadRef (k := 0) rfl rfl tyk_3 rfl rfl rfl rfl rfl lt0 ?_)
  refine VO.step (.some rfl rfl rfl) (V1.call rfl rfl rfl cok_57 rfl (ok_impl_within (cond_t hg1 hh2)) rfl lt0 ?_)
  rintro _ _ ⟨rfl, rfl⟩
  exact VO.nil ⟨rfl, rfl, rfl, rfl, .inr ⟨rfl, .inr ⟨rfl, .inr ⟨rfl, .inr ⟨rfl, .inl rfl⟩⟩⟩⟩⟩
 refine VO.cons rfl (V1.mv ?_)
 apply VO.and (n := 3) rfl rfl rfl rfl rfl rfl lt0 (.none rfl)
 ·
  intro hg2
  refine VO.step (.some rfl rfl rfl) (V1.fieldRef rfl rfl fo_109_3 rfl lt0 ?_)
  refine VO.step (.some rfl rfl rfl) (V1.loadRef (k := 0) rfl rfl tyk_3 rfl rfl rfl rfl rfl lt0 ?_)
  refine VO.step (.some rfl rfl rfl) (V1.call rfl rfl rfl cok_135 rfl (ok_impl_isAct (cond_t hg2 hh3)) rfl lt0 ?_)
  rintro _ _ ⟨rfl, rfl⟩
  exact VO.nil ⟨rfl, rfl, rfl, rfl, .inr ⟨rfl, .inr ⟨rfl, .inr ⟨rfl, .inr ⟨rfl, .inl rfl⟩⟩⟩⟩⟩
 refine VO.cons rfl (V1.as ?_)
 refine VO.nil (V.ret ?_)
 obtain rfl := oi hm0
 exact ⟨_, [], ⟨_, _, rfl, rfl, rfl⟩, List.nil_sublist _, rfl, rfl⟩

theorem ok_cmp_isNaN_int {rn : Nat} {x : Int} {r : Bool} (h : M.cmp_isNaN_int x = some r) : Does Try.prog 118 [.int .i64 x] [] rn (fun x H => x = .bool r ∧ H = []) := by
 have hm0 := h; clear h; unfold M.cmp_isNaN_int at hm0
 try dsimp only at hm0
 refine Does.intro (N := 6) Try.func118 rfl rfl rfl rfl ?_
 intro w0 S0
 refine V.seq (V.region (VO.cons rfl (V1.as ?_)))
 refine VO.nil (V.seq (V.region (VO.cons rfl (V1.mv ?_))))
 refine VO.cons rfl (V1.mv ?_)
 refine VO.cons rfl (V1.it ?_)
 refine VO.cons rfl (V1.as ?_)
 refine VO.nil (V.ret ?_)
 obtain rfl := oi hm0
 exact ⟨_, [], ⟨_, _, rfl, rfl, rfl⟩, List.nil_sublist _, rfl, rfl⟩

theorem ok_cmp_Compare_int {rn : Nat} {x : Int} {y : Int} {r : Int} (h : M.cmp_Compare_int x y = some r) : Does Try.prog 89 [.int .i64 x, .int .i64 y] [] rn (fun x H => x = .int .i64 r ∧ H = []) := by
 have hm0 := h; clear h; unfold M.cmp_Compare_int at hm0
 try dsimp only at hm0
 refine Does.intro (N := 20) Try.func89 rfl rfl rfl rfl ?_
 intro w0 S0
 refine V.seq (V.region (VO.cons rfl (V1.as ?_)))
 refine VO.nil (V.seq ?_)
 replace hm0 := bindO hm0; rcases hm0 with ⟨y0, hh0, hm0⟩
 refine V.region (VO.cons rfl (V1.mv ?_))
 refine VO.cons rfl (V1.call rfl rfl rfl cok_118 rfl (ok_cmp_isNaN_int hh0) rfl lt0 ?_)
 rintro _ _ ⟨rfl, rfl⟩
 refine VO.cons rfl (V1.as ?_)
 refine VO.nil (V.seq ?_)
 replace hm0 := bindO hm0; rcases hm0 with ⟨y1, hh1, hm0⟩
 refine V.region (VO.cons rfl (V1.mv ?_))
 refine VO.cons rfl (V1.call rfl rfl rfl cok_118 rfl (ok_cmp_isNaN_int hh1) rfl lt0 ?_)
 rintro _ _ ⟨rfl, rfl⟩
 refine VO.cons rfl (V1.as ?_)
 refine VO.nil (V.keep 20 [0, 1, 5, 6] [] (E0 := [(0, .int .i64 x), (1, .int .i64 y), (5, .bool y0), (6, .bool y1)]) (H0 := []) rfl (⟨_, _, rfl, rfl, ⟨_, _, rfl, rfl, ⟨_, _, rfl, rfl, ⟨_, _, rfl, rfl, rfl⟩⟩⟩⟩) (rfl) rfl ?_)
 refine V.seq (V.seq (V.region (VO.cons rfl (V1.mv ?_))))
 refine VO.nil (V.cond rfl (fun hc0 => ?_) (fun hc0 => ?_))
 ·
  replace hm0 := cond_t hc0 hm0
  refine V.seq (V.seq (V.region (VO.cons rfl (V1.mv ?_))))
  refine VO.nil (V.keep 20 [12] [] (E0 := [(12, .bool y1)]) (H0 := []) rfl (⟨_, _, rfl, rfl, rfl⟩) (rfl) rfl ?_)
  refine V.cond rfl (fun hc1 => ?_) (fun hc1 => ?_)
  ·
   replace hm0 := cond_t hc1 hm0
   refine V.seq (V.region (VO.cons rfl (V1.as ?_)))
   refine VO.nil (V.ret ?_)
   obtain rfl := oi hm0
   exact ⟨_, [], ⟨_, _, rfl, rfl, rfl⟩, List.nil_sublist _, rfl, rfl⟩
  ·
   replace hm0 := cond_f hc1 hm0
   refine V.skip ?_
   refine V.seq (V.region (VO.cons rfl (V1.as ?_)))
   refine VO.nil (V.ret ?_)
   obtain rfl := oi hm0
   exact ⟨_, [], ⟨_, _, rfl, rfl, rfl⟩, List.nil_sublist _, rfl, rfl⟩
 ·
  replace hm0 := cond_f hc0 hm0
  refine V.skip ?_
  refine V.seq (V.seq (V.region (VO.cons rfl (V1.mv ?_))))
  refine VO.nil (V.cond rfl (fun hc2 => ?_) (fun hc2 => ?_))
  ·
   replace hm0 := cond_t hc2 hm0
   refine V.seq (V.region (VO.cons rfl (V1.as ?_)))
   refine VO.nil (V.ret ?_)
   obtain rfl := oi hm0
   exact ⟨_, [], ⟨_, _, rfl, rfl, rfl⟩, List.nil_sublist _, rfl, rfl⟩
  ·
   replace hm0 := cond_f hc2 hm0
   refine V.skip ?_
   refine V.keep 20 [0, 1] [] (E0 := [(0, .int .i64 x), (1, .int .i64 y)]) (H0 := []) rfl (⟨_, _, rfl, rfl, ⟨_, _, rfl, rfl, rfl⟩⟩) (rfl) rfl ?_
   refine V.seq (V.seq (V.region (VO.cons rfl (V1.mv ?_))))
   refine VO.cons rfl (V1.mv ?_)
   refine VO.cons rfl (V1.it ?_)
   refine VO.nil (V.cond rfl (fun hc3 => ?_) (fun hc3 => ?_))
   ·
    replace hm0 := cond_t hc3 hm0
    refine V.seq (V.region (VO.cons rfl (V1.as ?_)))
    refine VO.nil (V.ret ?_)
    obtain rfl := oi hm0
    exact ⟨_, [], ⟨_, _, rfl, rfl, rfl⟩, List.nil_sublist _, rfl, rfl⟩
   ·
    replace hm0 := cond_f hc3 hm0
    refine V.skip ?_
    refine V.seq (V.seq (V.region (VO.cons rfl (V1.mv ?_))))
    refine VO.cons rfl (V1.mv ?_)
    refine VO.cons rfl (V1.it ?_)
    refine VO.nil (V.keep 20 [19] [] (E0 := [(19, .bool (decide (x > y)))]) (H0 := []) rfl (⟨_, _, rfl, rfl, rfl⟩) (rfl) rfl ?_)
    refine V.cond rfl (fun hc4 => ?_) (fun hc4 => ?_)
    ·
     replace hm0 := cond_t hc4 hm0
     refine V.seq (V.region (VO.cons rfl (V1.as ?_)))
     refine VO.nil (V.ret ?_)
     obtain rfl := oi hm0
     exact ⟨_, [], ⟨_, _, rfl, rfl, rfl⟩, List.nil_sublist _, rfl, rfl⟩
    ·
     replace hm0 := cond_f hc4 hm0
     refine V.skip ?_
     refine V.seq (V.region (VO.cons rfl (V1.as ?_)))
     refine VO.nil (V.ret ?_)
     obtain rfl := oi hm0
     exact ⟨_, [], ⟨_, _, rfl, rfl, rfl⟩, List.nil_sublist _, rfl, rfl⟩

theorem ok_cmp_Or_int {ρ0 rn : Nat} {vals : List Int} {r : Int} (h : M.cmp_Or_int vals = some r) : Does Try.prog 136 [.vl ρ0 1 (List.map encInt vals)] [] rn (fun x H => x = .int .i64 r ∧ H = []) := by
 have hm0 := h; clear h; unfold M.cmp_Or_int at hm0
 try dsimp only at hm0
 refine Does.intro (N := 18) Try.func136 rfl rfl rfl rfl ?_
 intro w0 S0
 refine V.seq (V.region (VO.cons rfl (V1.as ?_)))
 refine VO.nil (V.seq (V.region (VO.cons rfl (V1.as ?_))))
 refine VO.nil (V.seq (V.seq (V.region (VO.cons rfl (V1.mv ?_)))))
 refine VO.cons rfl (V1.lenMap rfl rfl rfl rfl rfl rfl isl_69 lt0 ?_)
 refine VO.cons rfl (V1.mv ?_)
 refine VO.nil ?_
 replace hm0 := bindO hm0; rcases hm0 with ⟨e0, he1, hm0⟩
 refine V.cutT (D := (Unit) × (Unit)) (fun ⟨_, _⟩ => ⟨18, [(3, .int .i64 (0 : Int))], []⟩) (fun ⟨_, _⟩ => (.inl () = e0)) ?_ ?_
 ·
  refine V.block ?_
  refine V.keep 18 [8, 3, 6, 7] [] (E0 := [(8, .int .i64 (0 : Int)), (3, .int .i64 (0 : Int)), (6, .vl ρ0 1 (List.map encInt vals)), (7, .int .i64 (vals.length : Int))]) (H0 := []) rfl (⟨_, _, rfl, rfl, ⟨_, _, rfl, rfl, ⟨_, _, rfl, rfl, ⟨_, _, rfl, rfl, rfl⟩⟩⟩⟩) (rfl) rfl ?_
  refine V.loopE (D := Nat × (Int) × (Unit)) (fun ⟨n0, v, _⟩ => [(8, .int .i64 v)]) (fun ⟨n0, v, _⟩ => []) (fun ⟨n0, v, _⟩ => loopO (M.cmp_Or_int_l0 vals) n0 v = some e0) (fun ⟨n0, _, _⟩ => n0) (rounds, (0 : Int), ()) rfl he1 ?_
  rintro ⟨n0, v, _⟩ hP0
  obtain ⟨m0, y0, rfl, hm1, hl1, hr1⟩ := loop_head hP0
  unfold M.cmp_Or_int_l0 at hm1; dsimp only at hm1
  show V _ _ _ ⟨18, [(8, .int .i64 v), (3, .int .i64 (0 : Int)), (6, .vl ρ0 1 (List.map encInt vals)), (7, .int .i64 (vals.length : Int))], []⟩
  refine V.seq (V.region (VO.cons rfl (V1.it ?_)))
  refine VO.nil (V.seq (V.cond rfl (fun hc0 => ?_) (fun hc0 => ?_)))
  ·
   replace hm1 := cond_t hc0 hm1
   refine V.skip ?_
   refine V.seq (V.block ?_)
   refine V.seq ?_
   replace hm1 := asrt_some hm1; rcases hm1 with ⟨hh0, hm1⟩
   refine V.region (VO.cons rfl (V1.indexI rfl rfl esz_69 rfl rfl hh0 lt0 ?_))
   refine VO.cons rfl (V1.loadPin rfl rfl tyk_3 rfl rfl lt0 ?_)
   refine VO.cons rfl (V1.as ?_)
   refine VO.nil (V.seq (V.region (VO.cons rfl (V1.mv ?_))))
   refine VO.cons rfl (V1.mv ?_)
   refine VO.cons rfl (V1.it ?_)
   refine VO.nil (V.keep 18 [3, 5, 6, 7, 8, 14] [] (E0 := [(3, .int .i64 (0 : Int)), (5, .int .i64 (vals.getD (Int.toNat v) default)), (6, .vl ρ0 1 (List.map encInt vals)), (7, .int .i64 (vals.length : Int)), (8, .int .i64 v), (14, .bool ((vals.getD (Int.toNat v) default) != (0 : Int)))]) (H0 := []) rfl (⟨_, _, rfl, rfl, ⟨_, _, rfl, rfl, ⟨_, _, rfl, rfl, ⟨_, _, rfl, rfl, ⟨_, _, rfl, rfl, ⟨_, _, rfl, rfl, rfl⟩⟩⟩⟩⟩⟩) (rfl) rfl ?_)
   refine V.cond rfl (fun hc1 => ?_) (fun hc1 => ?_)
   ·
    replace hm1 := cond_t hc1 hm1
    refine V.seq (V.region (VO.cons rfl (V1.mv ?_)))
    refine VO.cons rfl (V1.as ?_)
    refine VO.nil (V.ret ?_)
    obtain rfl := hr1 _ (oi hm1).symm
    change some _ = some _ at hm0
    obtain rfl := oi hm0
    exact ⟨_, [], ⟨_, _, rfl, rfl, rfl⟩, List.nil_sublist _, rfl, rfl⟩
   ·
    replace hm1 := cond_f hc1 hm1
    refine V.skip ?_
    refine V.region (VO.cons rfl (V1.it ?_))
    refine VO.cons rfl (V1.mv ?_)
    refine VO.nil ?_
    exact ⟨(m0, (IntKind.i64.wrap (v + (1 : Int))), ()), hl1 _ (oi hm1).symm, Nat.lt_succ_self _, Keeps.mk (ks := []) rfl ⟨rfl, rfl, rfl, rfl, trivial⟩ (rfl) rfl⟩
  ·
   replace hm1 := cond_f hc0 hm1
   refine V.exit ?_
   obtain rfl := hr1 _ (oi hm1).symm
   exact ⟨((), ()), rfl, Keeps.mk (ks := []) rfl ⟨rfl, trivial⟩ (rfl) rfl⟩
 ·
  rintro ⟨_, _⟩ rfl
  try dsimp only at hm0
  refine V.seq (V.region (VO.cons rfl (V1.mv ?_)))
  refine VO.cons rfl (V1.as ?_)
  refine VO.nil (V.ret ?_)
  obtain rfl := oi hm0
  exact ⟨_, [], ⟨_, _, rfl, rfl, rfl⟩, List.nil_sublist _, rfl, rfl⟩

theorem ok_impl_compareRules {rn : Nat} {a : Rule} {b_ : Rule} {r : Int} (h : M.impl_compareRules a b_ = some r) : Does Try.prog 122 [encRule a, encRule b_] [] rn (fun x H => x = .int .i64 r ∧ H = []) := by
 have hm0 := h; clear h; unfold M.impl_compareRules at hm0
 try dsimp only at hm0
 refine Does.intro (N := 17) Try.func122 rfl rfl rfl rfl ?_
 intro w0 S0
 refine V.seq (V.region (VO.cons rfl (V1.boxN (n := 4) rfl rfl rfl rfl rfl lt0 ?_)))
 intro b0
 refine VO.cons rfl (V1.boxN (n := 4) rfl rfl rfl rfl rfl lt0 ?_)
 intro b1
 refine VO.cons rfl (V1.as ?_)
 refine VO.nil (V.seq ?_)
 replace hm0 := bindO hm0; rcases hm0 with ⟨y0, hh0, hm0⟩
 replace hm0 := bindO hm0; rcases hm0 with ⟨y1, hh1, hm0⟩
 replace hm0 := bindO hm0; rcases hm0 with ⟨y2, hh2, hm0⟩
 refine V.regionS [(b1, ⟨4, [encRule b_]⟩), (b0, ⟨4, [encRule a]⟩)] 17 9 [⟨[(2, none)], false⟩, ⟨[(5, some 0)], false⟩, ⟨[(3, none)], false⟩, ⟨[(7, some 2)], false⟩, ⟨[(6, some 1), (8, some 3)], false⟩, ⟨[(2, none)], false⟩, ⟨[(10, some 5)], false⟩, ⟨[(3, none)], false⟩, ⟨[(12, some 7)], false⟩] [(9, some 4), (11, some 6), (13, some 8)] 0 (⟨_, rfl, ⟨_, rfl, ⟨_, rfl, ⟨_, rfl, ⟨_, rfl, ⟨_, rfl, ⟨_, rfl, ⟨_, rfl, ⟨_, rfl, ⟨rfl, rfl⟩⟩⟩⟩⟩⟩⟩⟩⟩⟩) mixed_orders rfl (by decide +kernel) ?_
 refine WalkP.step (p := ?pv27) 0 rfl rfl rfl rfl rfl (⟨_, _, rfl, rfl, rfl⟩) ?hv27 ?rest27
 case hv27 =>
  intro E1 H1 hI1
  refine (V1.fieldRef rfl rfl fo_109_0 rfl lt0 ?_)
  exact rfl
 refine WalkP.step (p := ?pv28) 1 rfl rfl rfl rfl rfl (⟨_, _, rfl, rfl, rfl⟩) ?hv28 ?rest28
 case hv28 =>
  intro E1 H1 hI1
  obtain ⟨k29_, hk29_⟩ := inGet 1 rfl hI1
  refine (V1.loadRef (k := k29_) rfl rfl tyk_3 rfl hk29_ rfl rfl rfl lt0 ?_)
  exact rfl
 refine WalkP.step (p := ?pv30) 2 rfl rfl rfl rfl rfl (⟨_, _, rfl, rfl, rfl⟩) ?hv30 ?rest30
 case hv30 =>
  intro E1 H1 hI1
  refine (V1.fieldRef rfl rfl fo_109_0 rfl lt0 ?_)
  exact rfl
 refine WalkP.step (p := ?pv31) 3 rfl rfl rfl rfl rfl (⟨_, _, rfl, rfl, rfl⟩) ?hv31 ?rest31
 case hv31 =>
  intro E1 H1 hI1
  obtain ⟨k32_, hk32_⟩ := inGet 0 rfl hI1
  refine (V1.loadRef (k := k32_) rfl rfl tyk_3 rfl hk32_ rfl rfl rfl lt0 ?_)
  exact rfl
 refine WalkP.step (p := ?pv33) 4 rfl rfl rfl rfl rfl (⟨_, _, rfl, rfl, ⟨_, _, rfl, rfl, rfl⟩⟩) ?hv33 ?rest33
 case hv33 =>
  intro E1 H1 hI1
  refine (V1.call rfl rfl rfl cok_89 rfl (ok_cmp_Compare_int hh0) rfl lt0 ?_)
  rintro _ _ ⟨rfl, rfl⟩
  exact rfl
 refine WalkP.step (p := ?pv34) 5 rfl rfl rfl rfl rfl (⟨_, _, rfl, rfl, rfl⟩) ?hv34 ?rest34
 case hv34 =>
  intro E1 H1 hI1
  refine (V1.fieldRef rfl rfl fo_109_1 rfl lt0 ?_)
  exact rfl
 refine WalkP.step (p := ?pv35) 6 rfl rfl rfl rfl rfl (⟨_, _, rfl, rfl, rfl⟩) ?hv35 ?rest35
 case hv35 =>
  intro E1 H1 hI1
  obtain ⟨k36_, hk36_⟩ := inGet 1 rfl hI1
  refine (V1.loadRef (k := k36_) rfl rfl tyk_3 rfl hk36_ rfl rfl rfl lt0 ?_)
  exact rfl
 refine WalkP.step (p := ?pv37) 7 rfl rfl rfl rfl rfl (⟨_, _, rfl, rfl, rfl⟩) ?hv37 ?rest37
 case hv37 =>
  intro E1 H1 hI1
  refine (V1.fieldRef rfl rfl fo_109_1 rfl lt0 ?_)
  exact rfl
 refine WalkP.step (p := ?pv38) 8 rfl rfl rfl rfl rfl (⟨_, _, rfl, rfl, rfl⟩) ?hv38 ?rest38
 case hv38 =>
  intro E1 H1 hI1
  obtain ⟨k39_, hk39_⟩ := inGet 0 rfl hI1
  refine (V1.loadRef (k := k39_) rfl rfl tyk_3 rfl hk39_ rfl rfl rfl lt0 ?_)
  exact rfl
 refine WalkP.nil (NodeS.fin (inCons 0 rfl (inCons 1 rfl inNil)) rfl rfl rfl (⟨_, _, rfl, rfl, ⟨_, _, rfl, rfl, ⟨_, _, rfl, rfl, rfl⟩⟩⟩) ?_)
 refine VO.cons rfl (V1.call rfl rfl rfl cok_89 rfl (ok_cmp_Compare_int hh1) rfl lt0 ?_)
 rintro _ _ ⟨rfl, rfl⟩
 refine VO.cons rfl (V1.buildSliceT (f := encInt) ([y0, y1] : List Int) rfl rfl esz_69 zk_3 rfl rfl rfl rfl rfl rfl rfl lt0 ?_)
 intro b3
 refine VO.cons rfl (V1.callL (rn + 1) [b3] [.vl (rn + 1) 1 (List.map encInt ([y0, y1] : List Int))] rfl rfl rfl cok_136 rfl ⟨_, _, rfl, Lend.srMap 0 rfl (fun _ => rfl) (.head _), rfl⟩ (bwCons (k := 0) rfl bwNil) (ok_cmp_Or_int hh2) rfl (⟨(by first | omega | (dsimp only; omega)), by rintro _ _ ⟨rfl, rfl⟩; exact ⟨rfl, by simp⟩⟩) lt0 ?_)
 rintro _ _ ⟨rfl, rfl⟩
 refine VO.cons rfl (V1.as ?_)
 refine VO.nil (V.ret ?_)
 obtain rfl := oi hm0
 exact ⟨_, [], ⟨_, _, rfl, rfl, rfl⟩, List.nil_sublist _, rfl, rfl⟩

theorem ok_impl_IsSchedule {ρ0 rn : Nat} {list : List Rule} {r : Bool} (h : M.impl_IsSchedule list = some r) : Does Try.prog 94 [.vl ρ0 4 (List.map encRule list)] [] rn (fun x H => x = .bool r ∧ H = []) := by
 have hm0 := h; clear h; unfold M.impl_IsSchedule at hm0
 try dsimp only at hm0
 refine Does.intro (N := 33) Try.func94 rfl rfl rfl rfl ?_
 intro w0 S0
 refine V.seq (V.region (VO.cons rfl (V1.as ?_)))
 refine VO.nil (V.seq (V.seq (V.region (VO.cons rfl (V1.mv ?_)))))
 refine VO.cons rfl (V1.lenMap rfl rfl rfl rfl rfl rfl isl_58 lt0 ?_)
 refine VO.cons rfl (V1.mv ?_)
 refine VO.nil ?_
 replace hm0 := bindO hm0; rcases hm0 with ⟨e0, he1, hm0⟩
 refine V.cutT (D := (Unit) × (Unit)) (fun ⟨_, _⟩ => ⟨33, [(0, .vl ρ0 4 (List.map encRule list))], []⟩) (fun ⟨_, _⟩ => (.inl () = e0)) ?_ ?_
 ·
  refine V.block ?_
  refine V.keep 33 [7, 0, 5, 6] [] (E0 := [(7, .int .i64 (0 : Int)), (0, .vl ρ0 4 (List.map encRule list)), (5, .vl ρ0 4 (List.map encRule list)), (6, .int .i64 (list.length : Int))]) (H0 := []) rfl (⟨_, _, rfl, rfl, ⟨_, _, rfl, rfl, ⟨_, _, rfl, rfl, ⟨_, _, rfl, rfl, rfl⟩⟩⟩⟩) (rfl) rfl ?_
  refine V.loopE (D := Nat × (Int) × (Unit)) (fun ⟨n0, v, _⟩ => [(7, .int .i64 v)]) (fun ⟨n0, v, _⟩ => []) (fun ⟨n0, v, _⟩ => loopO (M.impl_IsSchedule_l0 list) n0 v = some e0) (fun ⟨n0, _, _⟩ => n0) (rounds, (0 : Int), ()) rfl he1 ?_
  rintro ⟨n0, v, _⟩ hP0
  obtain ⟨m0, y0, rfl, hm1, hl1, hr1⟩ := loop_head hP0
  unfold M.impl_IsSchedule_l0 at hm1; dsimp only at hm1
  show V _ _ _ ⟨33, [(7, .int .i64 v), (0, .vl ρ0 4 (List.map encRule list)), (5, .vl ρ0 4 (List.map encRule list)), (6, .int .i64 (list.length : Int))], []⟩
  refine V.seq (V.region (VO.cons rfl (V1.it ?_)))
  refine VO.nil (V.seq (V.cond rfl (fun hc0 => ?_) (fun hc0 => ?_)))
  ·
   replace hm1 := cond_t hc0 hm1
   refine V.skip ?_
   refine V.seq (V.block ?_)
   refine V.seq ?_
   replace hm1 := asrt_some hm1; rcases hm1 with ⟨hh0, hm1⟩
   refine V.region (VO.cons rfl (V1.mv ?_))
   refine VO.cons rfl (V1.indexI rfl rfl esz_58 rfl rfl hh0 lt0 ?_)
   refine VO.cons rfl (V1.loadPinAll rfl rfl tyk_109 rfl rfl lt0 ?_)
   refine VO.cons rfl (V1.alloc rfl rfl zk_109 lt0 ?_)
   intro b0
   refine VO.cons rfl (V1.as ?_)
   refine VO.cons rfl (V1.storeRefAll (k := 0) rfl rfl tyk_109 rfl rfl rfl rfl rfl rfl ?_)
   refine VO.nil (V.keep 33 [0, 3, 4, 5, 6, 7] [0] (E0 := [(0, .vl ρ0 4 (List.map encRule list)), (3, .int .i64 v), (4, .ref b0 4 0 0), (5, .vl ρ0 4 (List.map encRule list)), (6, .int .i64 (list.length : Int)), (7, .int .i64 v)]) (H0 := [(b0, ⟨4, [encRule (list.getD (Int.toNat v) default)]⟩)]) rfl (⟨_, _, rfl, rfl, ⟨_, _, rfl, rfl, ⟨_, _, rfl, rfl, ⟨_, _, rfl, rfl, ⟨_, _, rfl, rfl, ⟨_, _, rfl, rfl, rfl⟩⟩⟩⟩⟩⟩) (⟨_, _, rfl, rfl, rfl⟩) rfl ?_)
   refine V.seq ?_
   replace hm1 := bindO hm1; rcases hm1 with ⟨y1, hh1, hm1⟩
   replace hm1 := asrt_some hm1; rcases hm1 with ⟨hh2, hm1⟩
   replace hm1 := bindO hm1; rcases hm1 with ⟨y2, hh3, hm1⟩
   refine V.regionM 33 17 [⟨[(4, none)], [], none⟩, ⟨[(12, some 0)], [], none⟩, ⟨[(13, some 0)], [], none⟩, ⟨[(14, some 0)], [], none⟩, ⟨[(3, none)], [(0, false)], none⟩, ⟨[(16, some 0)], [(1, false)], none⟩, ⟨[(17, some 0)], [(2, false)], none⟩, ⟨[(0, none)], [(0, true), (3, false)], none⟩, ⟨[(3, none)], [(1, true), (4, false)], none⟩, ⟨[(20, some 0)], [(2, true), (5, false)], none⟩, ⟨[(19, some 2), (21, some 0)], [(3, true), (6, false)], none⟩, ⟨[(22, some 0)], [(4, true), (7, false)], none⟩, ⟨[(4, none)], [(5, true), (8, false)], none⟩, ⟨[(23, some 1), (24, some 0)], [(6, true), (9, false)], none⟩, ⟨[(25, some 0)], [(7, true), (10, false)], none⟩, ⟨[], [(11, false)], some (true, 18, 26, 8, 0)⟩, ⟨[], [], some (false, 15, 27, 12, 0)⟩] [(0, none), (5, none), (6, none), (7, none), (28, some 0)] (⟨_, rfl, ⟨_, rfl, ⟨_, rfl, ⟨_, rfl, ⟨_, rfl, ⟨_, rfl, ⟨_, rfl, ⟨_, rfl, ⟨_, rfl, ⟨_, rfl, ⟨_, rfl, ⟨_, rfl, ⟨_, rfl, ⟨_, rfl, ⟨_, rfl, ⟨_, rfl, ⟨_, rfl, ⟨rfl, rfl⟩⟩⟩⟩⟩⟩⟩⟩⟩⟩⟩⟩⟩⟩⟩⟩⟩⟩) mixed_orders rfl (by decide +kernel) (fun hck4 => ?_)
   refine VP.step (p := ?pv121) rfl rfl rfl (⟨_, _, rfl, rfl, rfl⟩) ?hv121 ?rest121 hck4
   case hv121 =>
    intro E1
    refine (V1.loadRefAll (k := 0) rfl rfl tyk_109 rfl rfl rfl rfl rfl lt0 ?_)
    exact rfl
   refine VP.step (p := ?pv122) rfl rfl rfl (⟨_, _, rfl, rfl, rfl⟩) ?hv122 ?rest122 hck4
   case hv122 =>
    intro E1
    refine (V1.call rfl rfl rfl cok_121 rfl (ok_impl_IsRule hh1) rfl lt0 ?_)
    rintro _ _ ⟨rfl, rfl⟩
    exact rfl
   refine VP.step (p := ?pv123) rfl rfl rfl (⟨_, _, rfl, rfl, rfl⟩) ?hv123 ?rest123 hck4
   case hv123 =>
    intro E1
    refine (V1.not rfl rfl rfl lt0 ?_)
    exact rfl
   refine VP.step (p := ?pv124) rfl rfl rfl (⟨_, _, rfl, rfl, rfl⟩) ?hv124 ?rest124 hck4
   case hv124 =>
    intro E1
    refine (V1.mv ?_)
    exact rfl
   refine VP.step (p := ?pv125) rfl rfl rfl (⟨_, _, rfl, rfl, rfl⟩) ?hv125 ?rest125 hck4
   case hv125 =>
    refine ⟨_, rfl, fun hg0 => ?_⟩
    intro E1
    refine (V1.mv ?_)
    exact rfl
   refine VP.step (p := ?pv126) rfl rfl rfl (⟨_, _, rfl, rfl, rfl⟩) ?hv126 ?rest126 hck4
   case hv126 =>
    refine ⟨_, rfl, fun hg0 => ?_⟩
    intro E1
    refine (V1.it ?_)
    exact rfl
   refine VP.step (p := ?pv127) rfl rfl rfl (⟨_, _, rfl, rfl, rfl⟩) ?hv127 ?rest127 hck4
   case hv127 =>
    refine ⟨_, rfl, fun hg0 => ?_⟩
    intro E1
    refine (V1.mv ?_)
    exact rfl
   refine VP.step (p := ?pv128) rfl rfl rfl (⟨_, _, rfl, rfl, rfl⟩) ?hv128 ?rest128 hck4
   case hv128 =>
    refine ⟨_, rfl, fun hg1 => ?_⟩
    refine ⟨_, rfl, fun hg0 => ?_⟩
    intro E1
    refine (V1.mv ?_)
    exact rfl
   refine VP.step (p := ?pv129) rfl rfl rfl (⟨_, _, rfl, rfl, rfl⟩) ?hv129 ?rest129 hck4
   case hv129 =>
    refine ⟨_, rfl, fun hg1 => ?_⟩
    refine ⟨_, rfl, fun hg0 => ?_⟩
    intro E1
    refine (V1.mv ?_)
    exact rfl
   refine VP.step (p := ?pv130) rfl rfl rfl (⟨_, _, rfl, rfl, rfl⟩) ?hv130 ?rest130 hck4
   case hv130 =>
    refine ⟨_, rfl, fun hg1 => ?_⟩
    refine ⟨_, rfl, fun hg0 => ?_⟩
    intro E1
    refine (V1.it ?_)
    exact rfl
   refine VP.step (p := ?pv131) rfl rfl rfl (⟨_, _, rfl, rfl, ⟨_, _, rfl, rfl, rfl⟩⟩) ?hv131 ?rest131 hck4
   case hv131 =>
    refine ⟨_, rfl, fun hg1 => ?_⟩
    refine ⟨_, rfl, fun hg0 => ?_⟩
    intro E1
    refine (V1.indexI rfl rfl esz_58 rfl rfl (hh2 hg0 hg1) lt0 ?_)
    exact rfl
   refine VP.step (p := ?pv132) rfl rfl rfl (⟨_, _, rfl, rfl, rfl⟩) ?hv132 ?rest132 hck4
   case hv132 =>
    refine ⟨_, rfl, fun hg1 => ?_⟩
    refine ⟨_, rfl, fun hg0 => ?_⟩
    intro E1
    refine (V1.loadPinAll rfl rfl tyk_109 rfl rfl lt0 ?_)
    exact rfl
   refine VP.step (p := ?pv133) rfl rfl rfl (⟨_, _, rfl, rfl, rfl⟩) ?hv133 ?rest133 hck4
   case hv133 =>
    refine ⟨_, rfl, fun hg1 => ?_⟩
    refine ⟨_, rfl, fun hg0 => ?_⟩
    intro E1
    refine (V1.loadRefAll (k := 0) rfl rfl tyk_109 rfl rfl rfl rfl rfl lt0 ?_)
    exact rfl
   refine VP.step (p := ?pv134) rfl rfl rfl (⟨_, _, rfl, rfl, ⟨_, _, rfl, rfl, rfl⟩⟩) ?hv134 ?rest134 hck4
   case hv134 =>
    refine ⟨_, rfl, fun hg1 => ?_⟩
    refine ⟨_, rfl, fun hg0 => ?_⟩
    intro E1
    refine (V1.call rfl rfl rfl cok_122 rfl (ok_impl_compareRules (cond_t hg1 (cond_f hg0 hh3))) rfl lt0 ?_)
    rintro _ _ ⟨rfl, rfl⟩
    exact rfl
   refine VP.step (p := ?pv135) rfl rfl rfl (⟨_, _, rfl, rfl, rfl⟩) ?hv135 ?rest135 hck4
   case hv135 =>
    refine ⟨_, rfl, fun hg1 => ?_⟩
    refine ⟨_, rfl, fun hg0 => ?_⟩
    intro E1
    refine (V1.it ?_)
    exact rfl
   refine VP.pickAnd rfl rfl rfl rfl rfl rfl (⟨_, rfl, fun _ => trivial⟩) ?_ hck4
   refine VP.pickOr rfl rfl rfl rfl rfl rfl (trivial) ?_ hck4
   refine VP.fin rfl (⟨_, _, rfl, rfl, ⟨_, _, rfl, rfl, ⟨_, _, rfl, rfl, ⟨_, _, rfl, rfl, ⟨_, _, rfl, rfl, rfl⟩⟩⟩⟩⟩) ?_
   refine VO.nil (V.cond rfl (fun hc1 => ?_) (fun hc1 => ?_))
   ·
    replace hm1 := cond_t hc1 hm1
    refine V.seq (V.region (VO.cons rfl (V1.as ?_)))
    refine VO.nil (V.ret ?_)
    obtain rfl := hr1 _ (oi hm1).symm
    change some _ = some _ at hm0
    obtain rfl := oi hm0
    exact ⟨_, [], ⟨_, _, rfl, rfl, rfl⟩, List.nil_sublist _, rfl, rfl⟩
   ·
    replace hm1 := cond_f hc1 hm1
    refine V.skip ?_
    refine V.region (VO.cons rfl (V1.it ?_))
    refine VO.cons rfl (V1.mv ?_)
    refine VO.nil ?_
    exact ⟨(m0, (IntKind.i64.wrap (v + (1 : Int))), ()), hl1 _ (oi hm1).symm, Nat.lt_succ_self _, Keeps.mk (ks := []) rfl ⟨rfl, rfl, rfl, rfl, trivial⟩ (rfl) rfl⟩
  ·
   replace hm1 := cond_f hc0 hm1
   refine V.exit ?_
   obtain rfl := hr1 _ (oi hm1).symm
   exact ⟨((), ()), rfl, Keeps.mk (ks := []) rfl ⟨rfl, trivial⟩ (rfl) rfl⟩
 ·
  rintro ⟨_, _⟩ rfl
  try dsimp only at hm0
  refine V.seq (V.region (VO.cons rfl (V1.mv ?_)))
  refine VO.cons rfl (V1.lenMap rfl rfl rfl rfl rfl rfl isl_58 lt0 ?_)
  refine VO.cons rfl (V1.it ?_)
  refine VO.cons rfl (V1.as ?_)
  refine VO.nil (V.ret ?_)
  obtain rfl := oi hm0
  exact ⟨_, [], ⟨_, _, rfl, rfl, rfl⟩, List.nil_sublist _, rfl, rfl⟩

theorem ok_impl_AreVersions {ρ0 σ0 rn : Nat} {list : List Version} {r : Bool} (h : M.impl_AreVersions list = some r) : Does Try.prog 41 [.vl ρ0 2 (List.map (encVersion σ0) list)] [] rn (fun x H => x = .bool r ∧ H = []) := by
 have hm0 := h; clear h; unfold M.impl_AreVersions at hm0
 try dsimp only at hm0
 refine Does.intro (N := 41) Try.func41 rfl rfl rfl rfl ?_
 intro w0 S0
 refine V.seq (V.region (VO.cons rfl (V1.as ?_)))
 refine VO.nil (V.seq (V.seq (V.region (VO.cons rfl (V1.mv ?_)))))
 refine VO.cons rfl (V1.lenMap rfl rfl rfl rfl rfl rfl isl_57 lt0 ?_)
 refine VO.cons rfl (V1.mv ?_)
 refine VO.nil ?_
 replace hm0 := bindO hm0; rcases hm0 with ⟨e0, he1, hm0⟩
 refine V.cutT (D := (Unit) × (Unit)) (fun ⟨_, _⟩ => ⟨41, [(0, .vl ρ0 2 (List.map (encVersion σ0) list))], []⟩) (fun ⟨_, _⟩ => (.inl () = e0)) ?_ ?_
 ·
  refine V.block ?_
  refine V.keep 41 [7, 0, 5, 6] [] (E0 := [(7, .int .i64 (0 : Int)), (0, .vl ρ0 2 (List.map (encVersion σ0) list)), (5, .vl ρ0 2 (List.map (encVersion σ0) list)), (6, .int .i64 (list.length : Int))]) (H0 := []) rfl (⟨_, _, rfl, rfl, ⟨_, _, rfl, rfl, ⟨_, _, rfl, rfl, ⟨_, _, rfl, rfl, rfl⟩⟩⟩⟩) (rfl) rfl ?_
  refine V.loopE (D := Nat × (Int) × (Unit)) (fun ⟨n0, v, _⟩ => [(7, .int .i64 v)]) (fun ⟨n0, v, _⟩ => []) (fun ⟨n0, v, _⟩ => loopO (M.impl_AreVersions_l0 list) n0 v = some e0) (fun ⟨n0, _, _⟩ => n0) (rounds, (0 : Int), ()) rfl he1 ?_
  rintro ⟨n0, v, _⟩ hP0
  obtain ⟨m0, y0, rfl, hm1, hl1, hr1⟩ := loop_head hP0
  unfold M.impl_AreVersions_l0 at hm1; dsimp only at hm1
  show V _ _ _ ⟨41, [(7, .int .i64 v), (0, .vl ρ0 2 (List.map (encVersion σ0) list)), (5, .vl ρ0 2 (List.map (encVersion σ0) list)), (6, .int .i64 (list.length : Int))], []⟩
  refine V.seq (V.region (VO.cons rfl (V1.it ?_)))
  refine VO.nil (V.seq (V.cond rfl (fun hc0 => ?_) (fun hc0 => ?_)))
  ·
   replace hm1 := cond_t hc0 hm1
   refine V.skip ?_
   refine V.seq (V.block ?_)
   refine V.seq ?_
   replace hm1 := asrt_some hm1; rcases hm1 with ⟨hh0, hm1⟩
   refine V.region (VO.cons rfl (V1.mv ?_))
   refine VO.cons rfl (V1.indexI rfl rfl esz_57 rfl rfl hh0 lt0 ?_)
   refine VO.cons rfl (V1.loadPinAll rfl rfl tyk_60 rfl rfl lt0 ?_)
   refine VO.cons rfl (V1.alloc rfl rfl zk_60 lt0 ?_)
   intro b0
   refine VO.cons rfl (V1.as ?_)
   refine VO.cons rfl (V1.storeRefAll (k := 0) rfl rfl tyk_60 rfl rfl rfl rfl rfl rfl ?_)
   refine VO.nil (V.keep 41 [0, 3, 4, 5, 6, 7] [0] (E0 := [(0, .vl ρ0 2 (List.map (encVersion σ0) list)), (3, .int .i64 v), (4, .ref b0 2 0 0), (5, .vl ρ0 2 (List.map (encVersion σ0) list)), (6, .int .i64 (list.length : Int)), (7, .int .i64 v)]) (H0 := [(b0, ⟨2, [encVersion σ0 (list.getD (Int.toNat v) default)]⟩)]) rfl (⟨_, _, rfl, rfl, ⟨_, _, rfl, rfl, ⟨_, _, rfl, rfl, ⟨_, _, rfl, rfl, ⟨_, _, rfl, rfl, ⟨_, _, rfl, rfl, rfl⟩⟩⟩⟩⟩⟩) (⟨_, _, rfl, rfl, rfl⟩) rfl ?_)
   refine V.seq ?_
   replace hm1 := bindO hm1; rcases hm1 with ⟨y1, hh1, hm1⟩
   replace hm1 := bindO hm1; rcases hm1 with ⟨y2, hh2, hm1⟩
   replace hm1 := asrt_some hm1; rcases hm1 with ⟨hh3, hm1⟩
   refine V.regionM 41 25 [⟨[(4, none)], [], none⟩, ⟨[(12, some 0)], [], none⟩, ⟨[(13, some 0)], [], none⟩, ⟨[(14, some 0)], [], none⟩, ⟨[(15, some 0)], [], none⟩, ⟨[(4, none)], [(0, false)], none⟩, ⟨[(17, some 0)], [(1, false)], none⟩, ⟨[(18, some 0)], [(2, false)], none⟩, ⟨[(19, some 0)], [(3, false)], none⟩, ⟨[], [], some (false, 16, 20, 4, 0)⟩, ⟨[(21, some 0)], [], none⟩, ⟨[(3, none)], [(0, false)], none⟩, ⟨[(23, some 0)], [(1, false)], none⟩, ⟨[(24, some 0)], [(2, false)], none⟩, ⟨[(0, none)], [(0, true), (3, false)], none⟩, ⟨[(3, none)], [(1, true), (4, false)], none⟩, ⟨[(27, some 0)], [(2, true), (5, false)], none⟩, ⟨[(26, some 2), (28, some 0)], [(3, true), (6, false)], none⟩, ⟨[(29, some 0)], [(4, true), (7, false)], none⟩, ⟨[(30, some 0)], [(5, true), (8, false)], none⟩, ⟨[(4, none)], [(6, true), (9, false)], none⟩, ⟨[(32, some 0)], [(7, true), (10, false)], none⟩, ⟨[(31, some 2), (33, some 0)], [(8, true), (11, false)], none⟩, ⟨[], [(12, false)], some (true, 25, 34, 9, 0)⟩, ⟨[], [], some (false, 22, 35, 13, 0)⟩] [(0, none), (5, none), (6, none), (7, none), (36, some 0)] (⟨_, rfl, ⟨_, rfl, ⟨_, rfl, ⟨_, rfl, ⟨_, rfl, ⟨_, rfl, ⟨_, rfl, ⟨_, rfl, ⟨_, rfl, ⟨_, rfl, ⟨_, rfl, ⟨_, rfl, ⟨_, rfl, ⟨_, rfl, ⟨_, rfl, ⟨_, rfl, ⟨_, rfl, ⟨_, rfl, ⟨_, rfl, ⟨_, rfl, ⟨_, rfl, ⟨_, rfl, ⟨_, rfl, ⟨_, rfl, ⟨_, rfl, ⟨rfl, rfl⟩⟩⟩⟩⟩⟩⟩⟩⟩⟩⟩⟩⟩⟩⟩⟩⟩⟩⟩⟩⟩⟩⟩⟩⟩⟩) mixed_orders rfl (by decide +kernel) (fun hck4 => ?_)
   refine VP.step (p := ?pv177) rfl rfl rfl (⟨_, _, rfl, rfl, rfl⟩) ?hv177 ?rest177 hck4
   case hv177 =>
    intro E1
    refine (V1.fieldRef rfl rfl fo_60_0 rfl lt0 ?_)
    exact rfl
   refine VP.step (p := ?pv178) rfl rfl rfl (⟨_, _, rfl, rfl, rfl⟩) ?hv178 ?rest178 hck4
   case hv178 =>
    intro E1
    refine (V1.loadRef (k := 0) rfl rfl tyk_3 rfl rfl rfl rfl rfl lt0 ?_)
    exact rfl
   refine VP.step (p := ?pv179) rfl rfl rfl (⟨_, _, rfl, rfl, rfl⟩) ?hv179 ?rest179 hck4
   case hv179 =>
    intro E1
    refine (V1.call rfl rfl rfl cok_56 rfl (ok_impl_isDay hh1) rfl lt0 ?_)
    rintro _ _ ⟨rfl, rfl⟩
    exact rfl
   refine VP.step (p := ?pv180) rfl rfl rfl (⟨_, _, rfl, rfl, rfl⟩) ?hv180 ?rest180 hck4
   case hv180 =>
    intro E1
    refine (V1.not rfl rfl rfl lt0 ?_)
    exact rfl
   refine VP.step (p := ?pv181) rfl rfl rfl (⟨_, _, rfl, rfl, rfl⟩) ?hv181 ?rest181 hck4
   case hv181 =>
    intro E1
    refine (V1.mv ?_)
    exact rfl
   refine VP.step (p := ?pv182) rfl rfl rfl (⟨_, _, rfl, rfl, rfl⟩) ?hv182 ?rest182 hck4
   case hv182 =>
    refine ⟨_, rfl, fun hg0 => ?_⟩
    intro E1
    refine (V1.fieldRef rfl rfl fo_60_1 rfl lt0 ?_)
    exact rfl
   refine VP.step (p := ?pv183) rfl rfl rfl (⟨_, _, rfl, rfl, rfl⟩) ?hv183 ?rest183 hck4
   case hv183 =>
    refine ⟨_, rfl, fun hg0 => ?_⟩
    intro E1
    refine (V1.loadRef (k := 0) rfl rfl tyk_58 rfl rfl rfl rfl rfl lt0 ?_)
    exact rfl
   refine VP.step (p := ?pv184) rfl rfl rfl (⟨_, _, rfl, rfl, rfl⟩) ?hv184 ?rest184 hck4
   case hv184 =>
    refine ⟨_, rfl, fun hg0 => ?_⟩
    intro E1
    refine (V1.call rfl rfl rfl cok_94 rfl (ok_impl_IsSchedule (cond_f hg0 hh2)) rfl lt0 ?_)
    rintro _ _ ⟨rfl, rfl⟩
    exact rfl
   refine VP.step (p := ?pv185) rfl rfl rfl (⟨_, _, rfl, rfl, rfl⟩) ?hv185 ?rest185 hck4
   case hv185 =>
    refine ⟨_, rfl, fun hg0 => ?_⟩
    intro E1
    refine (V1.not rfl rfl rfl lt0 ?_)
    exact rfl
   refine VP.pickOr rfl rfl rfl rfl rfl rfl (trivial) ?_ hck4
   refine VP.step (p := ?pv186) rfl rfl rfl (⟨_, _, rfl, rfl, rfl⟩) ?hv186 ?rest186 hck4
   case hv186 =>
    intro E1
    refine (V1.mv ?_)
    exact rfl
   refine VP.step (p := ?pv187) rfl rfl rfl (⟨_, _, rfl, rfl, rfl⟩) ?hv187 ?rest187 hck4
   case hv187 =>
    refine ⟨_, rfl, fun hg1 => ?_⟩
    intro E1
    refine (V1.mv ?_)
    exact rfl
   refine VP.step (p := ?pv188) rfl rfl rfl (⟨_, _, rfl, rfl, rfl⟩) ?hv188 ?rest188 hck4
   case hv188 =>
    refine ⟨_, rfl, fun hg1 => ?_⟩
    intro E1
    refine (V1.it ?_)
    exact rfl
   refine VP.step (p := ?pv189) rfl rfl rfl (⟨_, _, rfl, rfl, rfl⟩) ?hv189 ?rest189 hck4
   case hv189 =>
    refine ⟨_, rfl, fun hg1 => ?_⟩
    intro E1
    refine (V1.mv ?_)
    exact rfl
   refine VP.step (p := ?pv190) rfl rfl rfl (⟨_, _, rfl, rfl, rfl⟩) ?hv190 ?rest190 hck4
   case hv190 =>
    refine ⟨_, rfl, fun hg2 => ?_⟩
    refine ⟨_, rfl, fun hg1 => ?_⟩
    intro E1
    refine (V1.mv ?_)
    exact rfl
   refine VP.step (p := ?pv191) rfl rfl rfl (⟨_, _, rfl, rfl, rfl⟩) ?hv191 ?rest191 hck4
   case hv191 =>
    refine ⟨_, rfl, fun hg2 => ?_⟩
    refine ⟨_, rfl, fun hg1 => ?_⟩
    intro E1
    refine (V1.mv ?_)
    exact rfl
   refine VP.step (p := ?pv192) rfl rfl rfl (⟨_, _, rfl, rfl, rfl⟩) ?hv192 ?rest192 hck4
   case hv192 =>
    refine ⟨_, rfl, fun hg2 => ?_⟩
    refine ⟨_, rfl, fun hg1 => ?_⟩
    intro E1
    refine (V1.it ?_)
    exact rfl
   refine VP.step (p := ?pv193) rfl rfl rfl (⟨_, _, rfl, rfl, ⟨_, _, rfl, rfl, rfl⟩⟩) ?hv193 ?rest193 hck4
   case hv193 =>
    refine ⟨_, rfl, fun hg2 => ?_⟩
    refine ⟨_, rfl, fun hg1 => ?_⟩
    intro E1
    refine (V1.indexI rfl rfl esz_57 rfl rfl (hh3 hg1 hg2) lt0 ?_)
    exact rfl
   refine VP.step (p := ?pv194) rfl rfl rfl (⟨_, _, rfl, rfl, rfl⟩) ?hv194 ?rest194 hck4
   case hv194 =>
    refine ⟨_, rfl, fun hg2 => ?_⟩
    refine ⟨_, rfl, fun hg1 => ?_⟩
    intro E1
    refine (V1.fieldPin rfl rfl fo_60_0 rfl lt0 ?_)
    exact rfl
   refine VP.step (p := ?pv195) rfl rfl rfl (⟨_, _, rfl, rfl, rfl⟩) ?hv195 ?rest195 hck4
   case hv195 =>
    refine ⟨_, rfl, fun hg2 => ?_⟩
    refine ⟨_, rfl, fun hg1 => ?_⟩
    intro E1
    refine (V1.loadPin rfl rfl tyk_3 rfl rfl lt0 ?_)
    exact rfl
   refine VP.step (p := ?pv196) rfl rfl rfl (⟨_, _, rfl, rfl, rfl⟩) ?hv196 ?rest196 hck4
   case hv196 =>
    refine ⟨_, rfl, fun hg2 => ?_⟩
    refine ⟨_, rfl, fun hg1 => ?_⟩
    intro E1
    refine (V1.fieldRef rfl rfl fo_60_0 rfl lt0 ?_)
    exact rfl
   refine VP.step (p := ?pv197) rfl rfl rfl (⟨_, _, rfl, rfl, rfl⟩) ?hv197 ?rest197 hck4
   case hv197 =>
    refine ⟨_, rfl, fun hg2 => ?_⟩
    refine ⟨_, rfl, fun hg1 => ?_⟩
    intro E1
    refine (V1.loadRef (k := 0) rfl rfl tyk_3 rfl rfl rfl rfl rfl lt0 ?_)
    exact rfl
   refine VP.step (p := ?pv198) rfl rfl rfl (⟨_, _, rfl, rfl, ⟨_, _, rfl, rfl, rfl⟩⟩) ?hv198 ?rest198 hck4
   case hv198 =>
    refine ⟨_, rfl, fun hg2 => ?_⟩
    refine ⟨_, rfl, fun hg1 => ?_⟩
    intro E1
    refine (V1.it ?_)
    exact rfl
   refine VP.pickAnd rfl rfl rfl rfl rfl rfl (⟨_, rfl, fun _ => trivial⟩) ?_ hck4
   refine VP.pickOr rfl rfl rfl rfl rfl rfl (trivial) ?_ hck4
   refine VP.fin rfl (⟨_, _, rfl, rfl, ⟨_, _, rfl, rfl, ⟨_, _, rfl, rfl, ⟨_, _, rfl, rfl, ⟨_, _, rfl, rfl, rfl⟩⟩⟩⟩⟩) ?_
   refine VO.nil (V.cond rfl (fun hc1 => ?_) (fun hc1 => ?_))
   ·
    replace hm1 := cond_t hc1 hm1
    refine V.seq (V.region (VO.cons rfl (V1.as ?_)))
    refine VO.nil (V.ret ?_)
    obtain rfl := hr1 _ (oi hm1).symm
    change some _ = some _ at hm0
    obtain rfl := oi hm0
    exact ⟨_, [], ⟨_, _, rfl, rfl, rfl⟩, List.nil_sublist _, rfl, rfl⟩
   ·
    replace hm1 := cond_f hc1 hm1
    refine V.skip ?_
    refine V.region (VO.cons rfl (V1.it ?_))
    refine VO.cons rfl (V1.mv ?_)
    refine VO.nil ?_
    exact ⟨(m0, (IntKind.i64.wrap (v + (1 : Int))), ()), hl1 _ (oi hm1).symm, Nat.lt_succ_self _, Keeps.mk (ks := []) rfl ⟨rfl, rfl, rfl, rfl, trivial⟩ (rfl) rfl⟩
  ·
   replace hm1 := cond_f hc0 hm1
   refine V.exit ?_
   obtain rfl := hr1 _ (oi hm1).symm
   exact ⟨((), ()), rfl, Keeps.mk (ks := []) rfl ⟨rfl, trivial⟩ (rfl) rfl⟩
 ·
  rintro ⟨_, _⟩ rfl
  try dsimp only at hm0
  refine V.seq (V.region (VO.cons rfl (V1.mv ?_)))
  refine VO.cons rfl (V1.lenMap rfl rfl rfl rfl rfl rfl isl_57 lt0 ?_)
  refine VO.cons rfl (V1.it ?_)
  refine VO.cons rfl (V1.as ?_)
  refine VO.nil (V.ret ?_)
  obtain rfl := oi hm0
  exact ⟨_, [], ⟨_, _, rfl, rfl, rfl⟩, List.nil_sublist _, rfl, rfl⟩

theorem ok_slices_Clone_impl_Version_impl_Version {rn : Nat} {s : List Version} {r : List Version} (h : M.slices_Clone_impl_Version_impl_Version s = some r) : Does Try.prog 117 [.vl rn 2 (List.map (encVersion rn) s)] [] rn (fun x H => ∃ ob0_ : Option Nat, (ob0_ = none → r = []) ∧ x = optS 2 ob0_ (List.length r) ∧ H = optH 2 ob0_ (List.map (encVersion rn) r)) := by
 have hm0 := h; clear h; unfold M.slices_Clone_impl_Version_impl_Version at hm0
 replace hm0 := asrt_some hm0; rcases hm0 with ⟨hh0, hm0⟩
 obtain rfl := oi hm0
 refine Does.intro (N := 8) Try.func117 rfl rfl rfl rfl ?_
 intro w0 S0
 refine V.seq (V.region (VO.cons rfl (V1.as ?_)))
 refine VO.nil (V.seq ?_)
 first | refine V.region ?_ | (refine V.seq ?_; refine V.region ?_)
 refine VO.cons rfl (V1.mv ?_)
 refine VO.cons rfl (V1.eqNil rfl rfl usl_57 rfl rfl lt0 ?_)
 intro c hc
 refine VO.nil ?_
 first | refine V.cond rfl (fun hc0 => ?_) (fun hc0 => ?_) | (refine V.seq ?_; refine V.cond rfl (fun hc0 => ?_) (fun hc0 => ?_))
 ·
  have hs : s = [] := List.map_eq_nil_iff.1 (hc hc0)
  refine V.seq (V.region (VO.cons rfl (V1.as ?_)))
  refine VO.nil (V.ret ?_)
  exact ⟨_, [], ⟨_, _, rfl, rfl, rfl⟩, List.nil_sublist _, none, fun _ => hs, rfl, rfl⟩
 ·
  refine V.skip ?_
  refine V.seq (V.region (VO.cons rfl (V1.buildSliceT (f := (encVersion rn)) ([] : List Version) rfl rfl esz_57 zk_60 rfl rfl rfl rfl rfl rfl rfl lt0 ?_)))
  intro b0
  refine VO.cons rfl (V1.mv ?_)
  refine VO.cons rfl (V1.appendMap (k := 0) (f := (encVersion rn)) (l := []) (m := s) rfl rfl rfl rfl rfl esz_57 eby_57 zk_60 rfl rfl rfl (.vl isl_57) (by simpa using hh0) lt0 ?_)
  intro b1
  refine VO.cons rfl (V1.as ?_)
  refine VO.nil (V.keep 8 [2] [0] (E0 := [(2, .sref b1 2 0 (List.length s))]) (H0 := [(b1, ⟨2, List.map (encVersion rn) s⟩)]) rfl (⟨_, _, rfl, rfl, rfl⟩) (⟨_, _, rfl, rfl, rfl⟩) rfl ?_)
  refine V.ret ?_
  exact ⟨_, _, ⟨_, _, rfl, rfl, rfl⟩, List.Sublist.refl _, some b1, (fun e => by cases e), rfl, rfl⟩

theorem ok_slices_Clone_impl_Rule_impl_Rule {ρ0 rn : Nat} {s : List Rule} {r : List Rule} (h : M.slices_Clone_impl_Rule_impl_Rule s = some r) : Does Try.prog 86 [.vl ρ0 4 (List.map encRule s)] [] rn (fun x H => ∃ ob0_ : Option Nat, (ob0_ = none → r = []) ∧ x = optS 4 ob0_ (List.length r) ∧ H = optH 4 ob0_ (List.map encRule r)) := by
 have hm0 := h; clear h; unfold M.slices_Clone_impl_Rule_impl_Rule at hm0
 replace hm0 := asrt_some hm0; rcases hm0 with ⟨hh0, hm0⟩
 obtain rfl := oi hm0
 refine Does.intro (N := 8) Try.func86 rfl rfl rfl rfl ?_
 intro w0 S0
 refine V.seq (V.region (VO.cons rfl (V1.as ?_)))
 refine VO.nil (V.seq ?_)
 first | refine V.region ?_ | (refine V.seq ?_; refine V.region ?_)
 refine VO.cons rfl (V1.mv ?_)
 refine VO.cons rfl (V1.eqNil rfl rfl usl_58 rfl rfl lt0 ?_)
 intro c hc
 refine VO.nil ?_
 first | refine V.cond rfl (fun hc0 => ?_) (fun hc0 => ?_) | (refine V.seq ?_; refine V.cond rfl (fun hc0 => ?_) (fun hc0 => ?_))
 ·
  have hs : s = [] := List.map_eq_nil_iff.1 (hc hc0)
  refine V.seq (V.region (VO.cons rfl (V1.as ?_)))
  refine VO.nil (V.ret ?_)
  exact ⟨_, [], ⟨_, _, rfl, rfl, rfl⟩, List.nil_sublist _, none, fun _ => hs, rfl, rfl⟩
 ·
  refine V.skip ?_
  refine V.seq (V.region (VO.cons rfl (V1.buildSliceT (f := encRule) ([] : List Rule) rfl rfl esz_58 zk_109 rfl rfl rfl rfl rfl rfl rfl lt0 ?_)))
  intro b0
  refine VO.cons rfl (V1.mv ?_)
  refine VO.cons rfl (V1.appendMap (k := 0) (f := encRule) (l := []) (m := s) rfl rfl rfl rfl rfl esz_58 eby_58 zk_109 rfl rfl rfl (.vl isl_58) (by simpa using hh0) lt0 ?_)
  intro b1
  refine VO.cons rfl (V1.as ?_)
  refine VO.nil (V.keep 8 [2] [0] (E0 := [(2, .sref b1 4 0 (List.length s))]) (H0 := [(b1, ⟨4, List.map encRule s⟩)]) rfl (⟨_, _, rfl, rfl, rfl⟩) (⟨_, _, rfl, rfl, rfl⟩) rfl ?_)
  refine V.ret ?_
  exact ⟨_, _, ⟨_, _, rfl, rfl, rfl⟩, List.Sublist.refl _, some b1, (fun e => by cases e), rfl, rfl⟩

theorem ok_impl_copyVersions {rn : Nat} {list : List Version} {r : List Version} (h : M.impl_copyVersions list = some r) : Does Try.prog 85 [.vl rn 2 (List.map (encVersion rn) list)] [] rn (fun x H => ∃ (ob0_ : Option Nat), (ob0_ = none → r = []) ∧ x = optS 2 ob0_ (List.length r) ∧ H = optH 2 ob0_ (List.map (encVersion rn) r)) := by
 have hm0 := h; clear h; unfold M.impl_copyVersions at hm0
 try dsimp only at hm0
 refine Does.intro (N := 24) Try.func85 rfl rfl rfl rfl ?_
 intro w0 S0
 refine V.seq (V.region (VO.cons rfl (V1.as ?_)))
 refine VO.nil (V.seq ?_)
 replace hm0 := bindO hm0; rcases hm0 with ⟨y0, hh0, hm0⟩
 refine V.region (VO.cons rfl (V1.mv ?_))
 refine VO.cons rfl (V1.permK (V1.call rfl rfl rfl cok_117 rfl (ok_slices_Clone_impl_Version_impl_Version hh0) rfl lt0 ?_))
 rintro _ _ ⟨ob0, hob0, rfl, rfl⟩
 refine ⟨_, ?_, Keeps.optBack (n := 2) (ob := ob0) (xs := List.map (encVersion rn) y0) (H1 := []) (H2 := []) rfl⟩
 refine VO.cons rfl (V1.as ?_)
 refine VO.nil ?_
 rcases ob0 with _ | ob0
 ·
  refine V.seq (V.seq (V.region (VO.cons rfl (V1.mv ?_))))
  refine VO.cons rfl (V1.lenNilsE (l := y0) (hob0 rfl) rfl rfl rfl rfl rfl rfl isl_57 lt0 ?_)
  refine VO.cons rfl (V1.mv ?_)
  refine VO.nil (V.keep 24 [3, 8, 9] [] (E0 := [(3, .nils), (8, .int .i64 (y0.length : Int)), (9, .int .i64 (0 : Int))]) (H0 := []) rfl (⟨_, _, rfl, rfl, ⟨_, _, rfl, rfl, ⟨_, _, rfl, rfl, rfl⟩⟩⟩) (rfl) rfl ?_)
  replace hm0 := bindO hm0; rcases hm0 with ⟨e0, he1, hm0⟩
  refine V.cutT (D := (List Version) × (Option Nat)) (fun ⟨out_, ob1⟩ => ⟨24, [(3, optS 2 ob1 (List.length out_))], optH 2 ob1 (List.map (encVersion rn) out_)⟩) (fun ⟨out_, ob1⟩ => (out_ = e0) ∧ (ob1 = none → out_ = [])) ?_ ?_
  ·
   refine V.block ?_
   refine V.keep 24 [3, 9, 8] [] (E0 := [(3, .nils), (9, .int .i64 (0 : Int)), (8, .int .i64 (y0.length : Int))]) (H0 := []) rfl (⟨_, _, rfl, rfl, ⟨_, _, rfl, rfl, ⟨_, _, rfl, rfl, rfl⟩⟩⟩) (rfl) rfl ?_
   refine V.loopE (D := Nat × (List Version × Int) × (Unit)) (fun ⟨n0, ⟨out_0, v⟩, _⟩ => [(3, .nils), (9, .int .i64 v)]) (fun ⟨n0, ⟨out_0, v⟩, _⟩ => []) (fun ⟨n0, ⟨out_0, v⟩, _⟩ => loopO (M.impl_copyVersions_l0 y0) n0 (out_0, v) = some e0 ∧ out_0 = []) (fun ⟨n0, _, _⟩ => n0) (rounds, (y0, (0 : Int)), ()) rfl ⟨he1, (hob0 rfl)⟩ ?_
   rintro ⟨n0, ⟨out_0, v⟩, _⟩ ⟨hP0, hn_out_0⟩
   obtain ⟨m0, y1, rfl, hm1, hl1, hr1⟩ := loop_head hP0
   unfold M.impl_copyVersions_l0 at hm1; dsimp only at hm1
   show V _ _ _ ⟨24, [(3, .nils), (9, .int .i64 v), (8, .int .i64 (y0.length : Int))], []⟩
   refine V.seq (V.region (VO.cons rfl (V1.it ?_)))
   refine VO.nil (V.seq (V.cond rfl (fun hc0 => ?_) (fun hc0 => ?_)))
   ·
    replace hm1 := cond_t hc0 hm1
    refine V.skip ?_
    refine V.seq (V.block ?_)
    refine V.seq (V.region (VO.cons rfl (V1.mv ?_)))
    refine VO.cons rfl (V1.as ?_)
    refine VO.nil ?_
    replace hm1 := asrt_some hm1; rcases hm1 with ⟨hh1, hm1⟩
    replace hm1 := bindO hm1; rcases hm1 with ⟨y2, hh2, hm1⟩
    replace hm1 := asrt_some hm1; rcases hm1 with ⟨hh3, hm1⟩
    refine V.region (VO.cons rfl (V1.mv ?_))
    refine VO.cons rfl (V1.mv ?_)
    refine VO.cons rfl (V1.mv ?_)
    refine VO.cons rfl (V1.mv ?_)
    refine VO.weakenK (Keeps.nilsE (l := out_0) 14 rn 2 (encVersion rn) hn_out_0 rfl rfl) ?_
    refine VO.cons rfl (V1.indexI rfl rfl esz_57 rfl rfl hh1 lt0 ?_)
    refine VO.cons rfl (V1.fieldPin rfl rfl fo_60_1 rfl lt0 ?_)
    refine VO.cons rfl (V1.loadPin rfl rfl tyk_58 rfl rfl lt0 ?_)
    refine VO.cons rfl (V1.permK (V1.call rfl rfl rfl cok_86 rfl (ok_slices_Clone_impl_Rule_impl_Rule hh2) rfl lt0 ?_))
    rintro _ _ ⟨ob2, hob2, rfl, rfl⟩
    refine ⟨_, ?_, Keeps.optBack (n := 4) (ob := ob2) (xs := List.map encRule y2) (H1 := []) (H2 := []) rfl⟩
    refine VO.weakenK (Keeps.optFront (n := 4) (ob := ob2) (xs := List.map encRule y2) (H1 := []) rfl) ?_
    refine VO.weakenK (Keeps.optVl 19 [] rn (f := encRule) (l := y2) (ob := ob2) (H1 := []) hob2 rfl rfl ⟨rfl, trivial⟩ (fun _ => rfl) rfl iNil) ?_
    refine VO.weakenK (Keeps.nilsE (l := out_0) 12 rn 2 (encVersion rn) hn_out_0 rfl rfl) ?_
    refine VO.cons rfl (V1.indexI rfl rfl esz_57 rfl rfl hh3 lt0 ?_)
    refine VO.cons rfl (V1.fieldPin rfl rfl fo_60_1 rfl lt0 ?_)
    exact (nilsNo hn_out_0 hh3).elim
   ·
    replace hm1 := cond_f hc0 hm1
    refine V.exit ?_
    obtain rfl := hr1 _ (oi hm1).symm
    exact ⟨(out_0, none), ⟨rfl, (fun _ => hn_out_0)⟩, Keeps.mk (ks := []) rfl ⟨rfl, trivial⟩ (rfl) rfl⟩
  ·
   rintro ⟨out_, ob1⟩ ⟨rfl, hob1⟩
   try dsimp only at hm0
   rcases ob1 with _ | ob1
   ·
    replace hob1 := hob1 rfl
    refine V.seq (V.region (VO.cons rfl (V1.mv ?_)))
    refine VO.cons rfl (V1.as ?_)
    refine VO.nil (V.keep 24 [2] [] (E0 := [(2, .nils)]) (H0 := []) rfl (⟨_, _, rfl, rfl, rfl⟩) (rfl) rfl ?_)
    refine V.ret ?_
    obtain rfl := oi hm0
    exact ⟨_, _, ⟨_, _, rfl, rfl, rfl⟩, List.Sublist.refl _, none, (fun _ => hob1), rfl, rfl⟩
   ·
    refine V.seq (V.region (VO.cons rfl (V1.mv ?_)))
    refine VO.cons rfl (V1.as ?_)
    refine VO.nil (V.keep 24 [2] [0] (E0 := [(2, .sref ob1 2 0 (List.length out_))]) (H0 := [(ob1, ⟨2, List.map (encVersion rn) out_⟩)]) rfl (⟨_, _, rfl, rfl, rfl⟩) (⟨_, _, rfl, rfl, rfl⟩) rfl ?_)
    refine V.ret ?_
    obtain rfl := oi hm0
    exact ⟨_, _, ⟨_, _, rfl, rfl, rfl⟩, List.Sublist.refl _, some ob1, (fun e => by cases e), rfl, rfl⟩
 ·
  refine V.seq (V.seq (V.region (VO.cons rfl (V1.mv ?_))))
  refine VO.cons rfl (V1.lenSref rfl rfl rfl rfl rfl rfl isl_57 lt0 ?_)
  refine VO.cons rfl (V1.mv ?_)
  refine VO.nil (V.keep 24 [3, 8, 9] [0] (E0 := [(3, .sref ob0 2 0 (List.length y0)), (8, .int .i64 (y0.length : Int)), (9, .int .i64 (0 : Int))]) (H0 := [(ob0, ⟨2, List.map (encVersion rn) y0⟩)]) rfl (⟨_, _, rfl, rfl, ⟨_, _, rfl, rfl, ⟨_, _, rfl, rfl, rfl⟩⟩⟩) (⟨_, _, rfl, rfl, rfl⟩) rfl ?_)
  replace hm0 := bindO hm0; rcases hm0 with ⟨e0, he1, hm0⟩
  refine V.cutT (D := (List Version) × (Unit)) (fun ⟨out_, _⟩ => ⟨24, [(3, .sref ob0 2 0 (List.length out_))], [(ob0, ⟨2, List.map (encVersion rn) out_⟩)]⟩) (fun ⟨out_, _⟩ => (out_ = e0)) ?_ ?_
  ·
   refine V.block ?_
   refine V.keep 24 [3, 9, 8] [0] (E0 := [(3, .sref ob0 2 0 (List.length y0)), (9, .int .i64 (0 : Int)), (8, .int .i64 (y0.length : Int))]) (H0 := [(ob0, ⟨2, List.map (encVersion rn) y0⟩)]) rfl (⟨_, _, rfl, rfl, ⟨_, _, rfl, rfl, ⟨_, _, rfl, rfl, rfl⟩⟩⟩) (⟨_, _, rfl, rfl, rfl⟩) rfl ?_
   refine V.loopE (D := Nat × (List Version × Int) × (Unit)) (fun ⟨n0, ⟨out_0, v⟩, _⟩ => [(3, .sref ob0 2 0 (List.length out_0)), (9, .int .i64 v)]) (fun ⟨n0, ⟨out_0, v⟩, _⟩ => [(ob0, ⟨2, List.map (encVersion rn) out_0⟩)]) (fun ⟨n0, ⟨out_0, v⟩, _⟩ => loopO (M.impl_copyVersions_l0 y0) n0 (out_0, v) = some e0) (fun ⟨n0, _, _⟩ => n0) (rounds, (y0, (0 : Int)), ()) rfl he1 ?_
   rintro ⟨n0, ⟨out_0, v⟩, _⟩ hP0
   obtain ⟨m0, y1, rfl, hm1, hl1, hr1⟩ := loop_head hP0
   unfold M.impl_copyVersions_l0 at hm1; dsimp only at hm1
   show V _ _ _ ⟨24, [(3, .sref ob0 2 0 (List.length out_0)), (9, .int .i64 v), (8, .int .i64 (y0.length : Int))], [(ob0, ⟨2, List.map (encVersion rn) out_0⟩)]⟩
   refine V.seq (V.region (VO.cons rfl (V1.it ?_)))
   refine VO.nil (V.seq (V.cond rfl (fun hc0 => ?_) (fun hc0 => ?_)))
   ·
    replace hm1 := cond_t hc0 hm1
    refine V.skip ?_
    refine V.seq (V.block ?_)
    refine V.seq (V.region (VO.cons rfl (V1.mv ?_)))
    refine VO.cons rfl (V1.as ?_)
    refine VO.nil ?_
    replace hm1 := asrt_some hm1; rcases hm1 with ⟨hh1, hm1⟩
    replace hm1 := bindO hm1; rcases hm1 with ⟨y2, hh2, hm1⟩
    replace hm1 := asrt_some hm1; rcases hm1 with ⟨hh3, hm1⟩
    refine V.region (VO.cons rfl (V1.mv ?_))
    refine VO.cons rfl (V1.mv ?_)
    refine VO.cons rfl (V1.mv ?_)
    refine VO.cons rfl (V1.mv ?_)
    refine VO.cons rfl (V1.indexSr rfl rfl esz_57 rfl rfl hh1 lt0 ?_)
    refine VO.cons rfl (V1.fieldRef rfl rfl fo_60_1 rfl lt0 ?_)
    refine VO.cons rfl (V1.loadMap (k := 0) (f := (encVersion rn)) rfl rfl tyk_58 rfl rfl (by simpa using natLt hh1.1 hh1.2) rfl lt0 ?_)
    refine VO.cons rfl (V1.permK (V1.call rfl rfl rfl cok_86 rfl (ok_slices_Clone_impl_Rule_impl_Rule hh2) rfl lt0 ?_))
    rintro _ _ ⟨ob1, hob1, rfl, rfl⟩
    refine ⟨_, ?_, Keeps.optBack (n := 4) (ob := ob1) (xs := List.map encRule y2) (H1 := []) (H2 := [(ob0, ⟨2, List.map (encVersion rn) out_0⟩)]) rfl⟩
    refine VO.weakenK (Keeps.optFront (n := 4) (ob := ob1) (xs := List.map encRule y2) (H1 := [(ob0, ⟨2, List.map (encVersion rn) out_0⟩)]) rfl) ?_
    refine VO.weakenK (Keeps.optVl 19 [] rn (f := encRule) (l := y2) (ob := ob1) (H1 := []) hob1 rfl rfl ⟨rfl, trivial⟩ (fun _ => rfl) rfl iNil) ?_
    refine VO.cons rfl (V1.indexSr rfl rfl esz_57 rfl rfl hh3 lt0 ?_)
    refine VO.cons rfl (V1.fieldRef rfl rfl fo_60_1 rfl lt0 ?_)
    refine VO.cons rfl (V1.storeMapCell (k := 0) (f := (encVersion rn)) (x := (⟨(out_0.getD (Int.toNat v) default).From, y2⟩ : Version)) rfl rfl tyk_58 rfl rfl (by simpa using natLt hh3.1 hh3.2) rfl rfl rfl rfl rfl rfl ?_)
    refine VO.weakenK (Keeps.say 3 (y := .sref ob0 2 0 (List.length (out_0.set (Int.toNat v) (⟨(out_0.getD (Int.toNat v) default).From, y2⟩ : Version)))) rfl (by simp [optS])) ?_
    refine VO.nil (V.keep 24 [3, 8, 9] [0] (E0 := [(3, .sref ob0 2 0 (List.length (out_0.set (Int.toNat v) (⟨(out_0.getD (Int.toNat v) default).From, y2⟩ : Version)))), (8, .int .i64 (y0.length : Int)), (9, .int .i64 v)]) (H0 := [(ob0, ⟨2, List.map (encVersion rn) (out_0.set (Int.toNat v) (⟨(out_0.getD (Int.toNat v) default).From, y2⟩ : Version))⟩)]) rfl (⟨_, _, rfl, rfl, ⟨_, _, rfl, rfl, ⟨_, _, rfl, rfl, rfl⟩⟩⟩) (⟨_, _, rfl, rfl, rfl⟩) rfl ?_)
    refine V.region (VO.cons rfl (V1.it ?_))
    refine VO.cons rfl (V1.mv ?_)
    refine VO.nil ?_
    exact ⟨(m0, ((out_0.set (Int.toNat v) (⟨(out_0.getD (Int.toNat v) default).From, y2⟩ : Version)), (IntKind.i64.wrap (v + (1 : Int)))), ()), hl1 _ (oi hm1).symm, Nat.lt_succ_self _, Keeps.mk (ks := [0]) rfl ⟨(someSref (by simp)), rfl, rfl, trivial⟩ (⟨_, _, rfl, rfl, rfl⟩) rfl⟩
   ·
    replace hm1 := cond_f hc0 hm1
    refine V.exit ?_
    obtain rfl := hr1 _ (oi hm1).symm
    exact ⟨(out_0, ()), rfl, Keeps.mk (ks := [0]) rfl ⟨(someSref (by simp)), trivial⟩ (⟨_, _, rfl, rfl, rfl⟩) rfl⟩
  ·
   rintro ⟨out_, _⟩ rfl
   try dsimp only at hm0
   refine V.seq (V.region (VO.cons rfl (V1.mv ?_)))
   refine VO.cons rfl (V1.as ?_)
   refine VO.nil (V.keep 24 [2] [0] (E0 := [(2, .sref ob0 2 0 (List.length out_))]) (H0 := [(ob0, ⟨2, List.map (encVersion rn) out_⟩)]) rfl (⟨_, _, rfl, rfl, rfl⟩) (⟨_, _, rfl, rfl, rfl⟩) rfl ?_)
   refine V.ret ?_
   obtain rfl := oi hm0
   exact ⟨_, _, ⟨_, _, rfl, rfl, rfl⟩, List.Sublist.refl _, some ob0, (fun e => by cases e), rfl, rfl⟩

theorem ok_slices_BinarySearchFunc_impl_Version_impl_Version_impl_Version {ρ0 σ0 rn : Nat} {x : List Version} {target : Version} {f2 : Nat} {cs2 : List PV} {r : Int × Bool} {fm : Version → Version → Option Int} (h : M.slices_BinarySearchFunc_impl_Version_impl_Version_impl_Version x target fm = some r) (hok2 : callOK Try.prog f2 = true) (hf2 : ∀ x0 x1 r, fm x0 x1 = some r → Does Try.prog f2 (encVersion σ0 x0 :: encVersion σ0 x1 :: cs2) [] rn (fun x H => x = .int .i64 r ∧ H = [])) : Does Try.prog 87 [.vl ρ0 2 (List.map (encVersion σ0) x), encVersion σ0 target, .fn f2 cs2] [] rn (fun x H => x = .tup [.int .i64 r.1, .bool r.2] ∧ H = []) := by
 have hm0 := h; clear h; unfold M.slices_BinarySearchFunc_impl_Version_impl_Version_impl_Version at hm0
 try dsimp only at hm0
 refine Does.intro (N := 49) Try.func87 rfl rfl rfl rfl ?_
 intro w0 S0
 refine V.seq (V.region (VO.cons rfl (V1.boxN (n := 2) rfl rfl rfl rfl rfl lt0 ?_)))
 intro b0
 refine VO.cons rfl (V1.as ?_)
 refine VO.cons rfl (V1.as ?_)
 refine VO.nil (V.seq (V.region (VO.cons rfl (V1.mv ?_))))
 refine VO.cons rfl (V1.lenMap rfl rfl rfl rfl rfl rfl isl_57 lt0 ?_)
 refine VO.cons rfl (V1.as ?_)
 refine VO.nil (V.keep 49 [0, 2, 4, 8] [0] (E0 := [(0, .vl ρ0 2 (List.map (encVersion σ0) x)), (2, .fn f2 cs2), (4, .ref b0 2 0 0), (8, .int .i64 (x.length : Int))]) (H0 := [(b0, ⟨2, [encVersion σ0 target]⟩)]) rfl (⟨_, _, rfl, rfl, ⟨_, _, rfl, rfl, ⟨_, _, rfl, rfl, ⟨_, _, rfl, rfl, rfl⟩⟩⟩⟩) (⟨_, _, rfl, rfl, rfl⟩) rfl ?_)
 refine V.seq (V.region (VO.cons rfl (V1.mv ?_)))
 refine VO.cons rfl (V1.as ?_)
 refine VO.cons rfl (V1.as ?_)
 refine VO.nil (V.seq ?_)
 replace hm0 := bindO hm0; rcases hm0 with ⟨e0, he1, hm0⟩
 refine V.cutT (D := (Int) × (Unit)) (fun ⟨i, _⟩ => ⟨49, [(9, .int .i64 i), (0, .vl ρ0 2 (List.map (encVersion σ0) x)), (2, .fn f2 cs2), (4, .ref b0 2 0 0), (8, .int .i64 (x.length : Int))], [(b0, ⟨2, [encVersion σ0 target]⟩)]⟩) (fun ⟨i, _⟩ => (i = e0)) ?_ ?_
 ·
  refine V.block ?_
  refine V.keep 49 [9, 10, 0, 2, 4, 8] [0] (E0 := [(9, .int .i64 (0 : Int)), (10, .int .i64 (x.length : Int)), (0, .vl ρ0 2 (List.map (encVersion σ0) x)), (2, .fn f2 cs2), (4, .ref b0 2 0 0), (8, .int .i64 (x.length : Int))]) (H0 := [(b0, ⟨2, [encVersion σ0 target]⟩)]) rfl (⟨_, _, rfl, rfl, ⟨_, _, rfl, rfl, ⟨_, _, rfl, rfl, ⟨_, _, rfl, rfl, ⟨_, _, rfl, rfl, ⟨_, _, rfl, rfl, rfl⟩⟩⟩⟩⟩⟩) (⟨_, _, rfl, rfl, rfl⟩) rfl ?_
  refine V.loopE (D := Nat × (Int × Int) × (Unit)) (fun ⟨n0, ⟨i0, j_⟩, _⟩ => [(9, .int .i64 i0), (10, .int .i64 j_)]) (fun ⟨n0, ⟨i0, j_⟩, _⟩ => []) (fun ⟨n0, ⟨i0, j_⟩, _⟩ => loopO (M.slices_BinarySearchFunc_impl_Version_impl_Version_impl_Version_l0 x target fm) n0 (i0, j_) = some e0) (fun ⟨n0, _, _⟩ => n0) (rounds, ((0 : Int), (x.length : Int)), ()) rfl he1 ?_
  rintro ⟨n0, ⟨i0, j_⟩, _⟩ hP0
  obtain ⟨m0, y0, rfl, hm1, hl1, hr1⟩ := loop_head hP0
  unfold M.slices_BinarySearchFunc_impl_Version_impl_Version_impl_Version_l0 at hm1; dsimp only at hm1
  show V _ _ _ ⟨49, [(9, .int .i64 i0), (10, .int .i64 j_), (0, .vl ρ0 2 (List.map (encVersion σ0) x)), (2, .fn f2 cs2), (4, .ref b0 2 0 0), (8, .int .i64 (x.length : Int))], [(b0, ⟨2, [encVersion σ0 target]⟩)]⟩
  refine V.seq (V.seq (V.region (VO.cons rfl (V1.mv ?_))))
  refine VO.cons rfl (V1.mv ?_)
  refine VO.cons rfl (V1.it ?_)
  refine VO.nil (V.cond rfl (fun hc0 => ?_) (fun hc0 => ?_))
  ·
   replace hm1 := cond_t hc0 hm1
   refine V.skip ?_
   replace hm1 := bindO hm1; rcases hm1 with ⟨j0, hm2, hm1⟩
   refine V.cutT (D := (Int × Int) × (Unit)) (fun ⟨⟨i1, j_0⟩, _⟩ => ⟨49, [(9, .int .i64 i1), (10, .int .i64 j_0), (0, .vl ρ0 2 (List.map (encVersion σ0) x)), (2, .fn f2 cs2), (4, .ref b0 2 0 0), (8, .int .i64 (x.length : Int))], [(b0, ⟨2, [encVersion σ0 target]⟩)]⟩) (fun ⟨⟨i1, j_0⟩, _⟩ => ((i1, j_0) = j0)) ?_ ?_
   ·
    refine V.block ?_
    refine V.seq (V.region (VO.cons rfl (V1.mv ?_)))
    refine VO.cons rfl (V1.mv ?_)
    refine VO.cons rfl (V1.it ?_)
    refine VO.cons rfl (V1.conv rfl rfl und_3 und_129 rfl lt0 ?_)
    refine VO.cons rfl (V1.shr rfl rfl rfl rfl (by decide) lt0 ?_)
    refine VO.cons rfl (V1.conv rfl rfl und_129 und_3 rfl lt0 ?_)
    refine VO.cons rfl (V1.as ?_)
    refine VO.nil (V.keep 49 [0, 2, 4, 8, 9, 10, 11] [0] (E0 := [(0, .vl ρ0 2 (List.map (encVersion σ0) x)), (2, .fn f2 cs2), (4, .ref b0 2 0 0), (8, .int .i64 (x.length : Int)), (9, .int .i64 i0), (10, .int .i64 j_), (11, .int .i64 (IntKind.i64.wrap (Int.fdiv (IntKind.u64.wrap (IntKind.i64.wrap (i0 + j_))) (2 ^ (min (Int.toNat (1 : Int)) IntKind.u64.bits)))))]) (H0 := [(b0, ⟨2, [encVersion σ0 target]⟩)]) rfl (⟨_, _, rfl, rfl, ⟨_, _, rfl, rfl, ⟨_, _, rfl, rfl, ⟨_, _, rfl, rfl, ⟨_, _, rfl, rfl, ⟨_, _, rfl, rfl, ⟨_, _, rfl, rfl, rfl⟩⟩⟩⟩⟩⟩⟩) (⟨_, _, rfl, rfl, rfl⟩) rfl ?_)
    refine V.seq ?_
    replace hm2 := asrt_some hm2; rcases hm2 with ⟨hh0, hm2⟩
    replace hm2 := bindO hm2; rcases hm2 with ⟨y1, hh1, hm2⟩
    refine V.regionM 49 6 [⟨[(2, none)], [], none⟩, ⟨[(0, none)], [], none⟩, ⟨[(11, none)], [], none⟩, ⟨[(25, some 1), (26, some 0)], [], none⟩, ⟨[(27, some 0)], [], none⟩, ⟨[(4, none)], [], none⟩] [(0, none), (2, none), (4, none), (8, none), (9, none), (10, none), (11, none), (24, some 5), (28, some 1), (29, some 0)] (⟨_, rfl, ⟨_, rfl, ⟨_, rfl, ⟨_, rfl, ⟨_, rfl, ⟨_, rfl, ⟨rfl, rfl⟩⟩⟩⟩⟩⟩⟩) mixed_orders rfl (by decide +kernel) (fun hck5 => ?_)
    refine VP.step (p := ?pv131) rfl rfl rfl (⟨_, _, rfl, rfl, rfl⟩) ?hv131 ?rest131 hck5
    case hv131 =>
     intro E1
     refine (V1.mv ?_)
     exact rfl
    refine VP.step (p := ?pv132) rfl rfl rfl (⟨_, _, rfl, rfl, rfl⟩) ?hv132 ?rest132 hck5
    case hv132 =>
     intro E1
     refine (V1.mv ?_)
     exact rfl
    refine VP.step (p := ?pv133) rfl rfl rfl (⟨_, _, rfl, rfl, rfl⟩) ?hv133 ?rest133 hck5
    case hv133 =>
     intro E1
     refine (V1.mv ?_)
     exact rfl
    refine VP.step (p := ?pv134) rfl rfl rfl (⟨_, _, rfl, rfl, ⟨_, _, rfl, rfl, rfl⟩⟩) ?hv134 ?rest134 hck5
    case hv134 =>
     intro E1
     refine (V1.indexI rfl rfl esz_57 rfl rfl hh0 lt0 ?_)
     exact rfl
    refine VP.step (p := ?pv135) rfl rfl rfl (⟨_, _, rfl, rfl, rfl⟩) ?hv135 ?rest135 hck5
    case hv135 =>
     intro E1
     refine (V1.loadPinAll rfl rfl tyk_60 rfl rfl lt0 ?_)
     exact rfl
    refine VP.step (p := ?pv136) rfl rfl rfl (⟨_, _, rfl, rfl, rfl⟩) ?hv136 ?rest136 hck5
    case hv136 =>
     intro E1
     refine (V1.loadRefAll (k := 0) rfl rfl tyk_60 rfl rfl rfl rfl rfl lt0 ?_)
     exact rfl
    refine VP.fin rfl (⟨_, _, rfl, rfl, ⟨_, _, rfl, rfl, ⟨_, _, rfl, rfl, ⟨_, _, rfl, rfl, ⟨_, _, rfl, rfl, ⟨_, _, rfl, rfl, ⟨_, _, rfl, rfl, ⟨_, _, rfl, rfl, ⟨_, _, rfl, rfl, ⟨_, _, rfl, rfl, rfl⟩⟩⟩⟩⟩⟩⟩⟩⟩⟩) ?_
    refine VO.cons rfl (V1.callG (τ := 0) (Bw := []) rfl lt0 (run_callFn rfl rfl rfl hok2 rfl) (.refl _) (Lends.same _) (fun _ h => by cases h) ((hf2 _ _  _) hh1) (.inl rfl) (.inl rfl) ?_)
    rintro _ _ ⟨rfl, rfl⟩
    refine VO.cons rfl (V1.it ?_)
    refine VO.nil (V.keep 49 [0, 2, 4, 8, 9, 10, 11, 31] [0] (E0 := [(0, .vl ρ0 2 (List.map (encVersion σ0) x)), (2, .fn f2 cs2), (4, .ref b0 2 0 0), (8, .int .i64 (x.length : Int)), (9, .int .i64 i0), (10, .int .i64 j_), (11, .int .i64 (IntKind.i64.wrap (Int.fdiv (IntKind.u64.wrap (IntKind.i64.wrap (i0 + j_))) (2 ^ (min (Int.toNat (1 : Int)) IntKind.u64.bits))))), (31, .bool (decide (y1 < (0 : Int))))]) (H0 := [(b0, ⟨2, [encVersion σ0 target]⟩)]) rfl (⟨_, _, rfl, rfl, ⟨_, _, rfl, rfl, ⟨_, _, rfl, rfl, ⟨_, _, rfl, rfl, ⟨_, _, rfl, rfl, ⟨_, _, rfl, rfl, ⟨_, _, rfl, rfl, ⟨_, _, rfl, rfl, rfl⟩⟩⟩⟩⟩⟩⟩⟩) (⟨_, _, rfl, rfl, rfl⟩) rfl ?_)
    refine V.cond rfl (fun hc1 => ?_) (fun hc1 => ?_)
    ·
     replace hm2 := cond_t hc1 hm2
     refine V.region (VO.cons rfl (V1.mv ?_))
     refine VO.cons rfl (V1.it ?_)
     refine VO.cons rfl (V1.as ?_)
     refine VO.nil ?_
     exact ⟨(((IntKind.i64.wrap ((IntKind.i64.wrap (Int.fdiv (IntKind.u64.wrap (IntKind.i64.wrap (i0 + j_))) (2 ^ (min (Int.toNat (1 : Int)) IntKind.u64.bits)))) + (1 : Int))), j_), ()), oi hm2, Keeps.mk (ks := [0]) rfl ⟨rfl, rfl, rfl, rfl, rfl, rfl, trivial⟩ (⟨_, _, rfl, rfl, rfl⟩) rfl⟩
    ·
     replace hm2 := cond_f hc1 hm2
     refine V.region (VO.cons rfl (V1.mv ?_))
     refine VO.cons rfl (V1.as ?_)
     refine VO.nil ?_
     exact ⟨((i0, (IntKind.i64.wrap (Int.fdiv (IntKind.u64.wrap (IntKind.i64.wrap (i0 + j_))) (2 ^ (min (Int.toNat (1 : Int)) IntKind.u64.bits))))), ()), oi hm2, Keeps.mk (ks := [0]) rfl ⟨rfl, rfl, rfl, rfl, rfl, rfl, trivial⟩ (⟨_, _, rfl, rfl, rfl⟩) rfl⟩
   ·
    rintro ⟨⟨i1, j_0⟩, _⟩ rfl
    try dsimp only at hm1
    exact ⟨(m0, (i1, j_0), ()), hl1 _ (oi hm1).symm, Nat.lt_succ_self _, Keeps.mk (ks := [0]) rfl ⟨rfl, rfl, rfl, rfl, rfl, rfl, trivial⟩ (⟨_, _, rfl, rfl, rfl⟩) rfl⟩
  ·
   replace hm1 := cond_f hc0 hm1
   refine V.exit ?_
   obtain rfl := hr1 _ (oi hm1).symm
   exact ⟨(i0, ()), rfl, Keeps.mk (ks := [0]) rfl ⟨rfl, rfl, rfl, rfl, rfl, trivial⟩ (⟨_, _, rfl, rfl, rfl⟩) rfl⟩
 ·
  rintro ⟨i, _⟩ rfl
  try dsimp only at hm0
  refine V.seq ?_
  replace hm0 := asrt_some hm0; rcases hm0 with ⟨hh2, hm0⟩
  replace hm0 := bindO hm0; rcases hm0 with ⟨y2, hh3, hm0⟩
  refine V.regionM 49 15 [⟨[(9, none)], [], none⟩, ⟨[(9, none)], [], none⟩, ⟨[(8, none)], [], none⟩, ⟨[(36, some 1), (37, some 0)], [], none⟩, ⟨[(38, some 0)], [], none⟩, ⟨[(2, none)], [(0, true)], none⟩, ⟨[(0, none)], [(1, true)], none⟩, ⟨[(9, none)], [(2, true)], none⟩, ⟨[(41, some 1), (42, some 0)], [(3, true)], none⟩, ⟨[(43, some 0)], [(4, true)], none⟩, ⟨[(4, none)], [(5, true)], none⟩, ⟨[(40, some 5), (44, some 1), (45, some 0)], [(6, true)], none⟩, ⟨[(46, some 0)], [(7, true)], none⟩, ⟨[], [], some (true, 39, 47, 8, 0)⟩, ⟨[(35, some 13)], [], none⟩] [(6, some 0), (48, some 1)] (⟨_, rfl, ⟨_, rfl, ⟨_, rfl, ⟨_, rfl, ⟨_, rfl, ⟨_, rfl, ⟨_, rfl, ⟨_, rfl, ⟨_, rfl, ⟨_, rfl, ⟨_, rfl, ⟨_, rfl, ⟨_, rfl, ⟨_, rfl, ⟨_, rfl, ⟨rfl, rfl⟩⟩⟩⟩⟩⟩⟩⟩⟩⟩⟩⟩⟩⟩⟩⟩) mixed_orders rfl (by decide +kernel) (fun hck8 => ?_)
  refine VP.step (p := ?pv137) rfl rfl rfl (⟨_, _, rfl, rfl, rfl⟩) ?hv137 ?rest137 hck8
  case hv137 =>
   intro E1
   refine (V1.mv ?_)
   exact rfl
  refine VP.step (p := ?pv138) rfl rfl rfl (⟨_, _, rfl, rfl, rfl⟩) ?hv138 ?rest138 hck8
  case hv138 =>
   intro E1
   refine (V1.mv ?_)
   exact rfl
  refine VP.step (p := ?pv139) rfl rfl rfl (⟨_, _, rfl, rfl, rfl⟩) ?hv139 ?rest139 hck8
  case hv139 =>
   intro E1
   refine (V1.mv ?_)
   exact rfl
  refine VP.step (p := ?pv140) rfl rfl rfl (⟨_, _, rfl, rfl, ⟨_, _, rfl, rfl, rfl⟩⟩) ?hv140 ?rest140 hck8
  case hv140 =>
   intro E1
   refine (V1.it ?_)
   exact rfl
  refine VP.step (p := ?pv141) rfl rfl rfl (⟨_, _, rfl, rfl, rfl⟩) ?hv141 ?rest141 hck8
  case hv141 =>
   intro E1
   refine (V1.mv ?_)
   exact rfl
  refine VP.step (p := ?pv142) rfl rfl rfl (⟨_, _, rfl, rfl, rfl⟩) ?hv142 ?rest142 hck8
  case hv142 =>
   refine ⟨_, rfl, fun hg0 => ?_⟩
   intro E1
   refine (V1.mv ?_)
   exact rfl
  refine VP.step (p := ?pv143) rfl rfl rfl (⟨_, _, rfl, rfl, rfl⟩) ?hv143 ?rest143 hck8
  case hv143 =>
   refine ⟨_, rfl, fun hg0 => ?_⟩
   intro E1
   refine (V1.mv ?_)
   exact rfl
  refine VP.step (p := ?pv144) rfl rfl rfl (⟨_, _, rfl, rfl, rfl⟩) ?hv144 ?rest144 hck8
  case hv144 =>
   refine ⟨_, rfl, fun hg0 => ?_⟩
   intro E1
   refine (V1.mv ?_)
   exact rfl
  refine VP.step (p := ?pv145) rfl rfl rfl (⟨_, _, rfl, rfl, ⟨_, _, rfl, rfl, rfl⟩⟩) ?hv145 ?rest145 hck8
  case hv145 =>
   refine ⟨_, rfl, fun hg0 => ?_⟩
   intro E1
   refine (V1.indexI rfl rfl esz_57 rfl rfl (hh2 hg0) lt0 ?_)
   exact rfl
  refine VP.step (p := ?pv146) rfl rfl rfl (⟨_, _, rfl, rfl, rfl⟩) ?hv146 ?rest146 hck8
  case hv146 =>
   refine ⟨_, rfl, fun hg0 => ?_⟩
   intro E1
   refine (V1.loadPinAll rfl rfl tyk_60 rfl rfl lt0 ?_)
   exact rfl
  refine VP.step (p := ?pv147) rfl rfl rfl (⟨_, _, rfl, rfl, rfl⟩) ?hv147 ?rest147 hck8
  case hv147 =>
   refine ⟨_, rfl, fun hg0 => ?_⟩
   intro E1
   refine (V1.loadRefAll (k := 0) rfl rfl tyk_60 rfl rfl rfl rfl rfl lt0 ?_)
   exact rfl
  refine VP.step (p := ?pv148) rfl rfl rfl (⟨_, _, rfl, rfl, ⟨_, _, rfl, rfl, ⟨_, _, rfl, rfl, rfl⟩⟩⟩) ?hv148 ?rest148 hck8
  case hv148 =>
   refine ⟨_, rfl, fun hg0 => ?_⟩
   intro E1
   refine (V1.callG (τ := 0) (Bw := []) rfl lt0 (run_callFn rfl rfl rfl hok2 rfl) (.refl _) (Lends.same _) (fun _ h => by cases h) ((hf2 _ _  _) (cond_t hg0 hh3)) (.inl rfl) (.inl rfl) ?_)
   rintro _ _ ⟨rfl, rfl⟩
   exact rfl
  refine VP.step (p := ?pv149) rfl rfl rfl (⟨_, _, rfl, rfl, rfl⟩) ?hv149 ?rest149 hck8
  case hv149 =>
   refine ⟨_, rfl, fun hg0 => ?_⟩
   intro E1
   refine (V1.it ?_)
   exact rfl
  refine VP.pickAnd rfl rfl rfl rfl rfl rfl (trivial) ?_ hck8
  refine VP.step (p := ?pv150) rfl rfl rfl (⟨_, _, rfl, rfl, rfl⟩) ?hv150 ?rest150 hck8
  case hv150 =>
   intro E1
   refine (V1.as ?_)
   exact rfl
  refine VP.fin rfl (⟨_, _, rfl, rfl, ⟨_, _, rfl, rfl, rfl⟩⟩) ?_
  refine VO.cons rfl (V1.as ?_)
  refine VO.nil (V.ret ?_)
  obtain rfl := oi hm0
  exact ⟨_, [], ⟨_, _, rfl, rfl, ⟨_, _, rfl, rfl, rfl⟩⟩, List.nil_sublist _, rfl, rfl⟩

theorem ok_impl_PutVersion_1 {ρ0 ρ1 rn : Nat} {a : Version} {b_ : Version} {r : Int} (h : M.impl_PutVersion_1 a b_ = some r) : Does Try.prog 88 [encVersion ρ0 a, encVersion ρ1 b_] [] rn (fun x H => x = .int .i64 r ∧ H = []) := by
 have hm0 := h; clear h; unfold M.impl_PutVersion_1 at hm0
 try dsimp only at hm0
 refine Does.intro (N := 10) Try.func88 rfl rfl rfl rfl ?_
 intro w0 S0
 refine V.seq (V.region (VO.cons rfl (V1.boxN (n := 2) rfl rfl rfl rfl rfl lt0 ?_)))
 intro b0
 refine VO.cons rfl (V1.boxN (n := 2) rfl rfl rfl rfl rfl lt0 ?_)
 intro b1
 refine VO.cons rfl (V1.as ?_)
 refine VO.nil (V.seq ?_)
 replace hm0 := bindO hm0; rcases hm0 with ⟨y0, hh0, hm0⟩
 refine V.region (VO.cons rfl (V1.fieldRef rfl rfl fo_60_0 rfl lt0 ?_))
 refine VO.cons rfl (V1.loadRef (k := 1) rfl rfl tyk_3 rfl rfl rfl rfl rfl lt0 ?_)
 refine VO.cons rfl (V1.fieldRef rfl rfl fo_60_0 rfl lt0 ?_)
 refine VO.cons rfl (V1.loadRef (k := 0) rfl rfl tyk_3 rfl rfl rfl rfl rfl lt0 ?_)
 refine VO.cons rfl (V1.call rfl rfl rfl cok_89 rfl (ok_cmp_Compare_int hh0) rfl lt0 ?_)
 rintro _ _ ⟨rfl, rfl⟩
 refine VO.cons rfl (V1.as ?_)
 refine VO.nil (V.ret ?_)
 obtain rfl := oi hm0
 exact ⟨_, [], ⟨_, _, rfl, rfl, rfl⟩, List.nil_sublist _, rfl, rfl⟩
end Go.Proofs.Ytjfpdbhjoofllaa
