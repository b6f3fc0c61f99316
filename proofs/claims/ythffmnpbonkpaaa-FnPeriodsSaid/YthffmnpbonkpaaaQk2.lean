/- the functions do what their models say -/
import Derived.Test.YthffmnpbonkpaaaQk1
set_option linter.unusedSimpArgs false
set_option linter.unusedVariables false
set_option maxRecDepth 100000
set_option maxHeartbeats 4000000
namespace Go.Proofs.Ythffmnpbonkpaaa
open Go.VS

theorem ok_spec_l1Cur_schedule {ρ0 rn bp : Nat} {c : Cur} {r : List Rule × Cur} (h : M.spec_l1Cur_schedule c = some r) : Does Try.prog 161 [.ref bp 3 0 0] [(bp, ⟨3, [encCur ρ0 c]⟩)] rn (fun x H => ∃ (ob0_ : Nat), x = PV.sref ob0_ 4 0 (List.length r.1) ∧ H = [(ob0_, ⟨4, List.map encRule r.1⟩)] ++ [(bp, ⟨3, [encCur ρ0 r.2]⟩)]) := by
 have hm0 := h; clear h; unfold M.spec_l1Cur_schedule at hm0
 try dsimp only at hm0
 refine Does.intro (N := 48) Try.func161 rfl rfl rfl rfl ?_
 intro w0 S0
 refine V.seq ?_
 refine V.region ?_
 refine VO.cons rfl (V1.assign rfl rfl rfl (ltb rfl) ?_)
 refine VO.nil ?_
 refine V.seq ?_
 refine V.region ?_
 refine VO.cons rfl (V1.buildSliceT (f := encRule) ([] : List Rule) rfl rfl esz_27 zk_37 rfl rfl rfl rfl rfl rfl rfl (ltb rfl) ?_)
 intro b0
 refine VO.cons rfl (V1.assign rfl rfl rfl (ltb rfl) ?_)
 refine VO.nil ?_
 refine V.seq ?_
 refine V.seq ?_
 replace hm0 := bindO hm0; rcases hm0 with ⟨y0, hh0, hm0⟩
 refine V.region ?_
 refine VO.cons rfl (V1.move rfl rfl rfl (ltb rfl) ?_)
 refine VO.cons rfl (V1.callM 1 (rn + ρ0 + 1) [] [.ref bp 3 0 0, .int .i64 (7 : Int)] (p := (bp, ⟨3, [encCur ρ0 c]⟩)) rfl rfl rfl cok_177 rfl rfl ⟨_, _, rfl, .same _, ⟨_, _, rfl, .same _, rfl⟩⟩ bwNil (ok_spec_l1Cur_pick hh0) rfl (.inl rfl) (ltb rfl) ?_)
 rintro _ _ ⟨rfl, rfl⟩
 refine VO.cons rfl (V1.assign rfl rfl rfl (ltb rfl) ?_)
 refine VO.nil ?_
 refine V.keep 48 [0, 3, 4] [0, 1] (E0 := [(0, .ref bp 3 0 0), (3, .sref b0 4 0 (List.length ([] : List Rule))), (4, .int .i64 y0.1)]) (H0 := [(bp, ⟨3, [encCur ρ0 y0.2]⟩), (b0, ⟨4, List.map encRule ([] : List Rule)⟩)]) rfl (⟨_, _, rfl, rfl, ⟨_, _, rfl, rfl, ⟨_, _, rfl, rfl, rfl⟩⟩⟩) (⟨_, _, rfl, rfl, ⟨_, _, rfl, rfl, rfl⟩⟩) rfl ?_
 replace hm0 := bindO hm0; rcases hm0 with ⟨e0, he1, hm0⟩
 refine V.cutT (D := (List Rule × Cur) × (Nat)) (fun ⟨⟨list, c_⟩, b1⟩ => ⟨48, [(3, .sref b1 4 0 (List.length list)), (0, .ref bp 3 0 0)], [(b1, ⟨4, List.map encRule list⟩), (bp, ⟨3, [encCur ρ0 c_]⟩)]⟩) (fun ⟨⟨list, c_⟩, b1⟩ => ((list, c_) = e0)) ?_ ?_
 ·
  refine V.block ?_
  refine V.keep 48 [3, 4, 0] [1, 0] (E0 := [(3, .sref b0 4 0 (List.length ([] : List Rule))), (4, .int .i64 y0.1), (0, .ref bp 3 0 0)]) (H0 := [(b0, ⟨4, List.map encRule ([] : List Rule)⟩), (bp, ⟨3, [encCur ρ0 y0.2]⟩)]) rfl (⟨_, _, rfl, rfl, ⟨_, _, rfl, rfl, ⟨_, _, rfl, rfl, rfl⟩⟩⟩) (⟨_, _, rfl, rfl, ⟨_, _, rfl, rfl, rfl⟩⟩) rfl ?_
  refine V.loopE (D := Nat × (List Rule × Int × Cur) × (Nat)) (fun ⟨n0, ⟨list0, n_, c_0⟩, b2⟩ => [(3, .sref b2 4 0 (List.length list0)), (4, .int .i64 n_)]) (fun ⟨n0, ⟨list0, n_, c_0⟩, b2⟩ => [(b2, ⟨4, List.map encRule list0⟩), (bp, ⟨3, [encCur ρ0 c_0]⟩)]) (fun ⟨n0, ⟨list0, n_, c_0⟩, b2⟩ => loopO (M.spec_l1Cur_schedule_l0) n0 (list0, n_, c_0) = some e0) (fun ⟨n0, _, _⟩ => n0) (rounds, (([] : List Rule), y0.1, y0.2), b0) rfl he1 ?_
  rintro ⟨n0, ⟨list0, n_, c_0⟩, b2⟩ hP0
  obtain ⟨m0, y1, rfl, hm1, hl1, hr1⟩ := loop_head hP0
  unfold M.spec_l1Cur_schedule_l0 at hm1; dsimp only at hm1
  show V _ _ _ ⟨48, [(3, .sref b2 4 0 (List.length list0)), (4, .int .i64 n_), (0, .ref bp 3 0 0)], [(b2, ⟨4, List.map encRule list0⟩), (bp, ⟨3, [encCur ρ0 c_0]⟩)]⟩
  refine V.seq ?_
  refine V.seq ?_
  refine V.region ?_
  refine VO.cons rfl (V1.move rfl rfl rfl (ltb rfl) ?_)
  refine VO.cons rfl (V1.int rfl rfl rfl rfl rfl (ltb rfl) ?_)
  refine VO.nil ?_
  refine V.cond rfl (fun hc0 => ?_) (fun hc0 => ?_)
  ·
   replace hm1 := cond_t hc0 hm1
   refine V.skip ?_
   refine V.seq ?_
   replace hm1 := bindO hm1; rcases hm1 with ⟨j0, hm2, hm1⟩
   refine V.cutT (D := (List Rule × Cur) × (Nat)) (fun ⟨⟨list1, c_1⟩, b3⟩ => ⟨48, [(3, .sref b3 4 0 (List.length list1)), (0, .ref bp 3 0 0), (4, .int .i64 n_)], [(b3, ⟨4, List.map encRule list1⟩), (bp, ⟨3, [encCur ρ0 c_1]⟩)]⟩) (fun ⟨⟨list1, c_1⟩, b3⟩ => ((list1, c_1) = j0)) ?_ ?_
   ·
    refine V.block ?_
    refine V.seq ?_
    replace hm2 := bindO hm2; rcases hm2 with ⟨y2, hh1, hm2⟩
    replace hm2 := bindO hm2; rcases hm2 with ⟨y3, hh2, hm2⟩
    refine V.region ?_
    refine VO.cons rfl (V1.move rfl rfl rfl (ltb rfl) ?_)
    refine VO.cons rfl (V1.move rfl rfl rfl (ltb rfl) ?_)
    refine VO.cons rfl (V1.callM 1 (rn + ρ0 + 1) [] [.ref bp 3 0 0] (p := (bp, ⟨3, [encCur ρ0 c_0]⟩)) rfl rfl rfl cok_162 rfl rfl ⟨_, _, rfl, .same _, rfl⟩ bwNil (ok_spec_l1Cur_rule hh1) rfl (.inl rfl) (ltb rfl) ?_)
    rintro _ _ ⟨rfl, rfl⟩
    refine VO.cons rfl (V1.callL (rn + 1) [b2] [.vl (rn + 1) 4 (List.map encRule list0), encRule y2.1] rfl rfl rfl cok_30 rfl ⟨_, _, rfl, Lend.srMap 1 rfl (fun _ => rfl) (.head _), ⟨_, _, rfl, .same _, rfl⟩⟩ (bwCons (k := 1) rfl bwNil) (ok_spec_PutRule hh2) rfl (⟨(by first | omega | (dsimp only; omega)), by rintro _ _ ⟨b4, rfl, rfl⟩; exact ⟨by simp [PV.no, PV.noL, optS_no, noL_iff, nbeq] <;> omega, by intro b ob h; first | exact optH_no (noL_map (fun _ => by simp [PV.no, PV.noL, noL_iff, nbeq]) _) b ob h | (simp at h; obtain ⟨rfl, rfl⟩ := h; exact noL_map (fun _ => by simp [PV.no, PV.noL, noL_iff, nbeq]) _) | (simp at h; obtain ⟨rfl, rfl⟩ := h; simp [PV.no, PV.noL, optS_no, noL_iff, nbeq] <;> omega)⟩⟩) (ltb rfl) ?_)
    rintro _ _ ⟨b4, rfl, rfl⟩
    refine VO.cons rfl (V1.move rfl rfl rfl (ltb rfl) ?_)
    refine VO.cons rfl (V1.extract rfl rfl rfl rfl (ltb rfl) ?_)
    refine VO.cons rfl (V1.extract rfl rfl rfl rfl (ltb rfl) ?_)
    refine VO.cons rfl (V1.assign rfl rfl rfl (ltb rfl) ?_)
    refine VO.cons rfl (V1.assign rfl rfl rfl (ltb rfl) ?_)
    refine VO.nil ?_
    refine V.keep 48 [0, 3, 4, 5, 6] [0, 1, 2] (E0 := [(0, .ref bp 3 0 0), (3, .sref b2 4 0 (List.length list0)), (4, .int .i64 n_), (5, .sref b4 4 0 (List.length y3.1)), (6, .bool y3.2)]) (H0 := [(b4, ⟨4, List.map encRule y3.1⟩), (bp, ⟨3, [encCur ρ0 y2.2]⟩), (b2, ⟨4, List.map encRule list0⟩)]) rfl (⟨_, _, rfl, rfl, ⟨_, _, rfl, rfl, ⟨_, _, rfl, rfl, ⟨_, _, rfl, rfl, ⟨_, _, rfl, rfl, rfl⟩⟩⟩⟩⟩) (⟨_, _, rfl, rfl, ⟨_, _, rfl, rfl, ⟨_, _, rfl, rfl, rfl⟩⟩⟩) rfl ?_
    refine V.seq ?_
    refine V.region ?_
    refine VO.cons rfl (V1.move rfl rfl rfl (ltb rfl) ?_)
    refine VO.nil ?_
    refine V.cond rfl (fun hc1 => ?_) (fun hc1 => ?_)
    ·
     replace hm2 := cond_t hc1 hm2
     refine V.region ?_
     refine VO.cons rfl (V1.move rfl rfl rfl (ltb rfl) ?_)
     refine VO.cons rfl (V1.assign rfl rfl rfl (ltb rfl) ?_)
     refine VO.nil ?_
     exact ⟨((y3.1, y2.2), b4), Option.some.inj hm2, Keeps.mk (ks := [0, 1]) rfl ⟨rfl, rfl, rfl, trivial⟩ (⟨_, _, rfl, rfl, ⟨_, _, rfl, rfl, rfl⟩⟩) rfl⟩
    ·
     replace hm2 := cond_f hc1 hm2
     refine V.skip ?_
     exact ⟨((list0, y2.2), b2), Option.some.inj hm2, Keeps.mk (ks := [2, 1]) rfl ⟨rfl, rfl, rfl, trivial⟩ (⟨_, _, rfl, rfl, ⟨_, _, rfl, rfl, rfl⟩⟩) rfl⟩
   ·
    rintro ⟨⟨list1, c_1⟩, b3⟩ rfl
    try dsimp only at hm1
    refine V.region ?_
    refine VO.cons rfl (V1.move rfl rfl rfl (ltb rfl) ?_)
    refine VO.cons rfl (V1.int rfl rfl rfl rfl rfl (ltb rfl) ?_)
    refine VO.cons rfl (V1.assign rfl rfl rfl (ltb rfl) ?_)
    refine VO.nil ?_
    exact ⟨(m0, (list1, (IntKind.i64.wrap (n_ - (1 : Int))), c_1), b3), hl1 _ (Option.some.inj hm1).symm, Nat.lt_succ_self _, Keeps.mk (ks := [0, 1]) rfl ⟨rfl, rfl, rfl, trivial⟩ (⟨_, _, rfl, rfl, ⟨_, _, rfl, rfl, rfl⟩⟩) rfl⟩
  ·
   replace hm1 := cond_f hc0 hm1
   refine V.exit ?_
   obtain rfl := hr1 _ (Option.some.inj hm1).symm
   exact ⟨((list0, c_0), b2), rfl, Keeps.mk (ks := [0, 1]) rfl ⟨rfl, rfl, trivial⟩ (⟨_, _, rfl, rfl, ⟨_, _, rfl, rfl, rfl⟩⟩) rfl⟩
 ·
  rintro ⟨⟨list, c_⟩, b1⟩ rfl
  try dsimp only at hm0
  refine V.seq ?_
  refine V.seq ?_
  replace hm0 := bindO hm0; rcases hm0 with ⟨y4, hh3, hm0⟩
  refine V.region ?_
  refine VO.cons rfl (V1.move rfl rfl rfl (ltb rfl) ?_)
  refine VO.cons rfl (V1.callM 1 (rn + ρ0 + 1) [] [.ref bp 3 0 0, .int .i64 (32 : Int)] (p := (bp, ⟨3, [encCur ρ0 c_]⟩)) rfl rfl rfl cok_177 rfl rfl ⟨_, _, rfl, .same _, ⟨_, _, rfl, .same _, rfl⟩⟩ bwNil (ok_spec_l1Cur_pick hh3) rfl (.inl rfl) (ltb rfl) ?_)
  rintro _ _ ⟨rfl, rfl⟩
  refine VO.nil ?_
  replace hm0 := bindO hm0; rcases hm0 with ⟨j1, hm1, hm0⟩
  refine V.cutT (D := (List Rule × Cur) × (Nat)) (fun ⟨⟨list2, c_2⟩, b5⟩ => ⟨48, [(3, .sref b5 4 0 (List.length list2))], [(b5, ⟨4, List.map encRule list2⟩), (bp, ⟨3, [encCur ρ0 c_2]⟩)]⟩) (fun ⟨⟨list2, c_2⟩, b5⟩ => ((list2, c_2) = j1)) ?_ ?_
  ·
   refine V.block ?_
   refine V.seq ?_
   refine V.region ?_
   refine VO.cons rfl (V1.int rfl rfl rfl rfl rfl (ltb rfl) ?_)
   refine VO.cons rfl (V1.assign rfl rfl rfl (ltb rfl) ?_)
   refine VO.nil ?_
   refine V.cond rfl (fun hc2 => ?_) (fun hc2 => ?_)
   ·
    replace hm1 := cond_t hc2 hm1
    replace hm1 := bindO hm1; rcases hm1 with ⟨y5, hh4, hm1⟩
    replace hm1 := asrt_some hm1; rcases hm1 with ⟨hh5, hm1⟩
    refine V.region ?_
    refine VO.cons rfl (V1.move rfl rfl rfl (ltb rfl) ?_)
    refine VO.cons rfl (V1.move rfl rfl rfl (ltb rfl) ?_)
    refine VO.cons rfl (V1.callM 0 (rn + ρ0 + 1) [] [.ref bp 3 0 0] (p := (bp, ⟨3, [encCur ρ0 y4.2]⟩)) rfl rfl rfl cok_162 rfl rfl ⟨_, _, rfl, .same _, rfl⟩ bwNil (ok_spec_l1Cur_rule hh4) rfl (.inl rfl) (ltb rfl) ?_)
    rintro _ _ ⟨rfl, rfl⟩
    refine VO.cons rfl (V1.buildSliceT (f := encRule) ([y5.1] : List Rule) rfl rfl esz_27 zk_37 rfl rfl rfl rfl rfl rfl rfl (ltb rfl) ?_)
    intro b6
    refine VO.cons rfl (V1.appendMap (k := 2) (f := encRule) (l := list) (m := ([y5.1] : List Rule)) rfl rfl rfl rfl rfl esz_27 eby_27 zk_37 rfl rfl rfl (SrcOf.srMap (k := 0) rfl isl_27) hh5 (ltb rfl) ?_)
    intro b7
    refine VO.cons rfl (V1.assign rfl rfl rfl (ltb rfl) ?_)
    refine VO.nil ?_
    exact ⟨(((list ++ ([y5.1] : List Rule)), y5.2), b7), Option.some.inj hm1, Keeps.mk (ks := [0, 2]) rfl ⟨rfl, trivial⟩ (⟨_, _, rfl, rfl, ⟨_, _, rfl, rfl, rfl⟩⟩) rfl⟩
   ·
    replace hm1 := cond_f hc2 hm1
    refine V.seq ?_
    refine V.region ?_
    refine VO.cons rfl (V1.int rfl rfl rfl rfl rfl (ltb rfl) ?_)
    refine VO.cons rfl (V1.assign rfl rfl rfl (ltb rfl) ?_)
    refine VO.nil ?_
    refine V.keep 48 [0, 3, 32] [0, 1] (E0 := [(0, .ref bp 3 0 0), (3, .sref b1 4 0 (List.length list)), (32, .bool (y4.1 == (1 : Int)))]) (H0 := [(bp, ⟨3, [encCur ρ0 y4.2]⟩), (b1, ⟨4, List.map encRule list⟩)]) rfl (⟨_, _, rfl, rfl, ⟨_, _, rfl, rfl, ⟨_, _, rfl, rfl, rfl⟩⟩⟩) (⟨_, _, rfl, rfl, ⟨_, _, rfl, rfl, rfl⟩⟩) rfl ?_
    refine V.cond rfl (fun hc3 => ?_) (fun hc3 => ?_)
    ·
     replace hm1 := cond_t hc3 hm1
     refine V.seq ?_
     refine V.region ?_
     refine VO.cons rfl (V1.buildSliceT (f := encRule) ([] : List Rule) rfl rfl esz_27 zk_37 rfl rfl rfl rfl rfl rfl rfl (ltb rfl) ?_)
     intro b8
     refine VO.cons rfl (V1.assign rfl rfl rfl (ltb rfl) ?_)
     refine VO.nil ?_
     replace hm1 := bindO hm1; rcases hm1 with ⟨e1, he2, hm1⟩
     refine V.cutT (D := (List Rule × Cur) × (Nat)) (fun ⟨⟨list3, c_3⟩, b9⟩ => ⟨48, [(3, .sref b9 4 0 (List.length list3))], [(b9, ⟨4, List.map encRule list3⟩), (bp, ⟨3, [encCur ρ0 c_3]⟩)]⟩) (fun ⟨⟨list3, c_3⟩, b9⟩ => ((list3, c_3) = e1)) ?_ ?_
     ·
      refine V.block ?_
      refine V.keep 48 [3, 0] [0, 1] (E0 := [(3, .sref b8 4 0 (List.length ([] : List Rule))), (0, .ref bp 3 0 0)]) (H0 := [(b8, ⟨4, List.map encRule ([] : List Rule)⟩), (bp, ⟨3, [encCur ρ0 y4.2]⟩)]) rfl (⟨_, _, rfl, rfl, ⟨_, _, rfl, rfl, rfl⟩⟩) (⟨_, _, rfl, rfl, ⟨_, _, rfl, rfl, rfl⟩⟩) rfl ?_
      refine V.loopE (D := Nat × (List Rule × Cur) × (Nat)) (fun ⟨n1, ⟨list4, c_4⟩, b10⟩ => [(3, .sref b10 4 0 (List.length list4))]) (fun ⟨n1, ⟨list4, c_4⟩, b10⟩ => [(b10, ⟨4, List.map encRule list4⟩), (bp, ⟨3, [encCur ρ0 c_4]⟩)]) (fun ⟨n1, ⟨list4, c_4⟩, b10⟩ => loopO (M.spec_l1Cur_schedule_l1) n1 (list4, c_4) = some e1) (fun ⟨n1, _, _⟩ => n1) (rounds, (([] : List Rule), y4.2), b8) rfl he2 ?_
      rintro ⟨n1, ⟨list4, c_4⟩, b10⟩ hP1
      obtain ⟨m1, y6, rfl, hm2, hl2, hr2⟩ := loop_head hP1
      unfold M.spec_l1Cur_schedule_l1 at hm2; dsimp only at hm2
      show V _ _ _ ⟨48, [(3, .sref b10 4 0 (List.length list4)), (0, .ref bp 3 0 0)], [(b10, ⟨4, List.map encRule list4⟩), (bp, ⟨3, [encCur ρ0 c_4]⟩)]⟩
      refine V.seq ?_
      refine V.seq ?_
      replace hm2 := bindO hm2; rcases hm2 with ⟨y7, hh6, hm2⟩
      refine V.region ?_
      refine VO.cons rfl (V1.move rfl rfl rfl (ltb rfl) ?_)
      refine VO.cons rfl (V1.lenSref rfl rfl rfl rfl rfl rfl isl_27 (ltb rfl) ?_)
      refine VO.cons rfl (V1.move rfl rfl rfl (ltb rfl) ?_)
      refine VO.cons rfl (V1.callM 1 (rn + ρ0 + 1) [] [.ref bp 3 0 0, .int .i64 (2 : Int)] (p := (bp, ⟨3, [encCur ρ0 c_4]⟩)) rfl rfl rfl cok_177 rfl rfl ⟨_, _, rfl, .same _, ⟨_, _, rfl, .same _, rfl⟩⟩ bwNil (ok_spec_l1Cur_pick hh6) rfl (.inl rfl) (ltb rfl) ?_)
      rintro _ _ ⟨rfl, rfl⟩
      refine VO.cons rfl (V1.int rfl rfl rfl rfl rfl (ltb rfl) ?_)
      refine VO.cons rfl (V1.int rfl rfl rfl rfl rfl (ltb rfl) ?_)
      refine VO.nil ?_
      refine V.keep 48 [0, 3, 40] [0, 1] (E0 := [(0, .ref bp 3 0 0), (3, .sref b10 4 0 (List.length list4)), (40, .bool (decide ((list4.length : Int) < (IntKind.i64.wrap ((8 : Int) + y7.1)))))]) (H0 := [(bp, ⟨3, [encCur ρ0 y7.2]⟩), (b10, ⟨4, List.map encRule list4⟩)]) rfl (⟨_, _, rfl, rfl, ⟨_, _, rfl, rfl, ⟨_, _, rfl, rfl, rfl⟩⟩⟩) (⟨_, _, rfl, rfl, ⟨_, _, rfl, rfl, rfl⟩⟩) rfl ?_
      refine V.cond rfl (fun hc4 => ?_) (fun hc4 => ?_)
      ·
       replace hm2 := cond_t hc4 hm2
       refine V.skip ?_
       refine V.block ?_
       replace hm2 := asrt_some hm2; rcases hm2 with ⟨hh7, hm2⟩
       refine V.region ?_
       refine VO.cons rfl (V1.move rfl rfl rfl (ltb rfl) ?_)
       refine VO.cons rfl (V1.move rfl rfl rfl (ltb rfl) ?_)
       refine VO.cons rfl (V1.lenSref rfl rfl rfl rfl rfl rfl isl_27 (ltb rfl) ?_)
       refine VO.cons rfl (V1.build rfl rfl zk_37 pl_37 rfl rfl (ltb rfl) ?_)
       refine VO.cons rfl (V1.buildSliceT (f := encRule) ([(⟨(1 : Int), (list4.length : Int), (5 : Int), (3 : Int)⟩ : Rule)] : List Rule) rfl rfl esz_27 zk_37 rfl rfl rfl rfl rfl rfl rfl (ltb rfl) ?_)
       intro b11
       refine VO.cons rfl (V1.appendMap (k := 2) (f := encRule) (l := list4) (m := ([(⟨(1 : Int), (list4.length : Int), (5 : Int), (3 : Int)⟩ : Rule)] : List Rule)) rfl rfl rfl rfl rfl esz_27 eby_27 zk_37 rfl rfl rfl (SrcOf.srMap (k := 0) rfl isl_27) hh7 (ltb rfl) ?_)
       intro b12
       refine VO.cons rfl (V1.assign rfl rfl rfl (ltb rfl) ?_)
       refine VO.nil ?_
       exact ⟨(m1, ((list4 ++ ([(⟨(1 : Int), (list4.length : Int), (5 : Int), (3 : Int)⟩ : Rule)] : List Rule)), y7.2), b12), hl2 _ (Option.some.inj hm2).symm, Nat.lt_succ_self _, Keeps.mk (ks := [0, 2]) rfl ⟨rfl, rfl, trivial⟩ (⟨_, _, rfl, rfl, ⟨_, _, rfl, rfl, rfl⟩⟩) rfl⟩
      ·
       replace hm2 := cond_f hc4 hm2
       refine V.exit ?_
       obtain rfl := hr2 _ (Option.some.inj hm2).symm
       exact ⟨((list4, y7.2), b10), rfl, Keeps.mk (ks := [1, 0]) rfl ⟨rfl, trivial⟩ (⟨_, _, rfl, rfl, ⟨_, _, rfl, rfl, rfl⟩⟩) rfl⟩
     ·
      rintro ⟨⟨list3, c_3⟩, b9⟩ rfl
      try dsimp only at hm1
      exact ⟨((list3, c_3), b9), Option.some.inj hm1, Keeps.mk (ks := [0, 1]) rfl ⟨rfl, trivial⟩ (⟨_, _, rfl, rfl, ⟨_, _, rfl, rfl, rfl⟩⟩) rfl⟩
    ·
     replace hm1 := cond_f hc3 hm1
     refine V.skip ?_
     exact ⟨((list, y4.2), b1), Option.some.inj hm1, Keeps.mk (ks := [1, 0]) rfl ⟨rfl, trivial⟩ (⟨_, _, rfl, rfl, ⟨_, _, rfl, rfl, rfl⟩⟩) rfl⟩
  ·
   rintro ⟨⟨list2, c_2⟩, b5⟩ rfl
   try dsimp only at hm0
   refine V.seq ?_
   refine V.region ?_
   refine VO.cons rfl (V1.move rfl rfl rfl (ltb rfl) ?_)
   refine VO.cons rfl (V1.assign rfl rfl rfl (ltb rfl) ?_)
   refine VO.nil ?_
   refine V.keep 48 [2] [0, 1] (E0 := [(2, .sref b5 4 0 (List.length list2))]) (H0 := [(b5, ⟨4, List.map encRule list2⟩), (bp, ⟨3, [encCur ρ0 c_2]⟩)]) rfl (⟨_, _, rfl, rfl, rfl⟩) (⟨_, _, rfl, rfl, ⟨_, _, rfl, rfl, rfl⟩⟩) rfl ?_
   refine V.ret ?_
   obtain rfl := Option.some.inj hm0
   exact ⟨_, _, ⟨_, _, rfl, rfl, rfl⟩, List.Sublist.refl _, b5, rfl, rfl⟩

theorem ok_spec_l1Cur_suited {ρ0 ρ1 rn bp : Nat} {c : Cur} {r_ : Record} {r : List Rule × Cur} (h : M.spec_l1Cur_suited c r_ = some r) : Does Try.prog 146 [.ref bp 3 0 0, encRecord ρ1 r_] [(bp, ⟨3, [encCur ρ0 c]⟩)] rn (fun x H => ∃ (ob0_ : Nat), x = PV.sref ob0_ 4 0 (List.length r.1) ∧ H = [(ob0_, ⟨4, List.map encRule r.1⟩)] ++ [(bp, ⟨3, [encCur ρ0 r.2]⟩)]) := by
 have hm0 := h; clear h; unfold M.spec_l1Cur_suited at hm0
 try dsimp only at hm0
 refine Does.intro (N := 62) Try.func146 rfl rfl rfl rfl ?_
 intro w0 S0
 refine V.seq ?_
 refine V.region ?_
 refine VO.cons rfl (V1.boxN (n := 4) rfl rfl rfl rfl rfl (ltb rfl) ?_)
 intro b0
 refine VO.cons rfl (V1.assign rfl rfl rfl (ltb rfl) ?_)
 refine VO.nil ?_
 refine V.seq ?_
 replace hm0 := bindO hm0; rcases hm0 with ⟨y0, hh0, hm0⟩
 refine V.region ?_
 refine VO.cons rfl (V1.move rfl rfl rfl (ltb rfl) ?_)
 refine VO.cons rfl (V1.callM 1 (rn + ρ0 + 1) [] [.ref bp 3 0 0] (p := (bp, ⟨3, [encCur ρ0 c]⟩)) rfl rfl rfl cok_161 rfl rfl ⟨_, _, rfl, .same _, rfl⟩ bwNil (ok_spec_l1Cur_schedule hh0) rfl (.inl rfl) (ltb rfl) ?_)
 rintro _ _ ⟨b1, rfl, rfl⟩
 refine VO.cons rfl (V1.assign rfl rfl rfl (ltb rfl) ?_)
 refine VO.nil ?_
 refine V.keep 62 [0, 3, 5] [0, 1, 2] (E0 := [(0, .ref bp 3 0 0), (3, .ref b0 4 0 0), (5, .sref b1 4 0 (List.length y0.1))]) (H0 := [(b1, ⟨4, List.map encRule y0.1⟩), (bp, ⟨3, [encCur ρ0 y0.2]⟩), (b0, ⟨4, [encRecord ρ1 r_]⟩)]) rfl (⟨_, _, rfl, rfl, ⟨_, _, rfl, rfl, ⟨_, _, rfl, rfl, rfl⟩⟩⟩) (⟨_, _, rfl, rfl, ⟨_, _, rfl, rfl, ⟨_, _, rfl, rfl, rfl⟩⟩⟩) rfl ?_
 refine V.seq ?_
 refine V.seq ?_
 replace hm0 := bindO hm0; rcases hm0 with ⟨y1, hh1, hm0⟩
 refine V.region ?_
 refine VO.cons rfl (V1.move rfl rfl rfl (ltb rfl) ?_)
 refine VO.cons rfl (V1.callM 1 (rn + ρ0 + 1) [] [.ref bp 3 0 0, .int .i64 (4 : Int)] (p := (bp, ⟨3, [encCur ρ0 y0.2]⟩)) rfl rfl rfl cok_177 rfl rfl ⟨_, _, rfl, .same _, ⟨_, _, rfl, .same _, rfl⟩⟩ bwNil (ok_spec_l1Cur_pick hh1) rfl (.inl rfl) (ltb rfl) ?_)
 rintro _ _ ⟨rfl, rfl⟩
 refine VO.cons rfl (V1.assign rfl rfl rfl (ltb rfl) ?_)
 refine VO.nil ?_
 replace hm0 := bindO hm0; rcases hm0 with ⟨e0, he1, hm0⟩
 refine V.cutT (D := (List Rule × Cur) × (Nat)) (fun ⟨⟨list, c_⟩, b2⟩ => ⟨62, [(5, .sref b2 4 0 (List.length list))], [(b2, ⟨4, List.map encRule list⟩), (bp, ⟨3, [encCur ρ0 c_]⟩)]⟩) (fun ⟨⟨list, c_⟩, b2⟩ => ((list, c_) = e0)) ?_ ?_
 ·
  refine V.block ?_
  refine V.keep 62 [5, 6, 0, 3] [1, 0, 2] (E0 := [(5, .sref b1 4 0 (List.length y0.1)), (6, .int .i64 y1.1), (0, .ref bp 3 0 0), (3, .ref b0 4 0 0)]) (H0 := [(b1, ⟨4, List.map encRule y0.1⟩), (bp, ⟨3, [encCur ρ0 y1.2]⟩), (b0, ⟨4, [encRecord ρ1 r_]⟩)]) rfl (⟨_, _, rfl, rfl, ⟨_, _, rfl, rfl, ⟨_, _, rfl, rfl, ⟨_, _, rfl, rfl, rfl⟩⟩⟩⟩) (⟨_, _, rfl, rfl, ⟨_, _, rfl, rfl, ⟨_, _, rfl, rfl, rfl⟩⟩⟩) rfl ?_
  refine V.loopE (D := Nat × (List Rule × Int × Cur) × (Nat)) (fun ⟨n0, ⟨list0, n_, c_0⟩, b3⟩ => [(5, .sref b3 4 0 (List.length list0)), (6, .int .i64 n_)]) (fun ⟨n0, ⟨list0, n_, c_0⟩, b3⟩ => [(b3, ⟨4, List.map encRule list0⟩), (bp, ⟨3, [encCur ρ0 c_0]⟩)]) (fun ⟨n0, ⟨list0, n_, c_0⟩, b3⟩ => loopO (M.spec_l1Cur_suited_l0 r_) n0 (list0, n_, c_0) = some e0) (fun ⟨n0, _, _⟩ => n0) (rounds, (y0.1, y1.1, y1.2), b1) rfl he1 ?_
  rintro ⟨n0, ⟨list0, n_, c_0⟩, b3⟩ hP0
  obtain ⟨m0, y2, rfl, hm1, hl1, hr1⟩ := loop_head hP0
  unfold M.spec_l1Cur_suited_l0 at hm1; dsimp only at hm1
  show V _ _ _ ⟨62, [(5, .sref b3 4 0 (List.length list0)), (6, .int .i64 n_), (0, .ref bp 3 0 0), (3, .ref b0 4 0 0)], [(b3, ⟨4, List.map encRule list0⟩), (bp, ⟨3, [encCur ρ0 c_0]⟩), (b0, ⟨4, [encRecord ρ1 r_]⟩)]⟩
  refine V.seq ?_
  refine V.seq ?_
  replace hm1 := bindO hm1; rcases hm1 with ⟨y3, hh2, hm1⟩
  refine V.region ?_
  refine VO.cons rfl (V1.move rfl rfl rfl (ltb rfl) ?_)
  refine VO.cons rfl (V1.int rfl rfl rfl rfl rfl (ltb rfl) ?_)
  refine VO.cons rfl (V1.move rfl rfl rfl (ltb rfl) ?_)
  apply VO.and (n := 2) rfl rfl rfl rfl rfl rfl (ltb rfl) (.none rfl)
  ·
   intro hg0
   refine VO.step (.some rfl rfl rfl) (V1.move rfl rfl rfl (ltb rfl) ?_)
   refine VO.step (.some rfl rfl rfl) (V1.callL (rn + 1) [b3] [.vl (rn + 1) 4 (List.map encRule list0)] rfl rfl rfl cok_160 rfl ⟨_, _, rfl, Lend.srMap 0 rfl (fun _ => rfl) (.head _), rfl⟩ (bwCons (k := 0) rfl bwNil) (ok_spec_l4Good (cond_t hg0 hh2)) rfl (⟨(by first | omega | (dsimp only; omega)), by rintro _ _ ⟨rfl, rfl⟩; exact ⟨rfl, by simp⟩⟩) (ltb rfl) ?_)
   rintro _ _ ⟨rfl, rfl⟩
   exact VO.nil ⟨rfl, rfl, rfl, rfl, .inr ⟨rfl, .inr ⟨rfl, .inr ⟨rfl, .inl rfl⟩⟩⟩⟩
  refine VO.nil ?_
  refine V.cond rfl (fun hc0 => ?_) (fun hc0 => ?_)
  ·
   replace hm1 := cond_t hc0 hm1
   refine V.skip ?_
   refine V.keep 62 [0, 3, 5, 6] [0, 1, 2] (E0 := [(0, .ref bp 3 0 0), (3, .ref b0 4 0 0), (5, .sref b3 4 0 (List.length list0)), (6, .int .i64 n_)]) (H0 := [(b3, ⟨4, List.map encRule list0⟩), (bp, ⟨3, [encCur ρ0 c_0]⟩), (b0, ⟨4, [encRecord ρ1 r_]⟩)]) rfl (⟨_, _, rfl, rfl, ⟨_, _, rfl, rfl, ⟨_, _, rfl, rfl, ⟨_, _, rfl, rfl, rfl⟩⟩⟩⟩) (⟨_, _, rfl, rfl, ⟨_, _, rfl, rfl, ⟨_, _, rfl, rfl, rfl⟩⟩⟩) rfl ?_
   refine V.seq ?_
   replace hm1 := bindO hm1; rcases hm1 with ⟨j0, hm2, hm1⟩
   refine V.cutT (D := (List Rule × Cur) × (Nat)) (fun ⟨⟨list1, c_1⟩, b4⟩ => ⟨62, [(5, .sref b4 4 0 (List.length list1)), (0, .ref bp 3 0 0), (3, .ref b0 4 0 0), (6, .int .i64 n_)], [(b4, ⟨4, List.map encRule list1⟩), (bp, ⟨3, [encCur ρ0 c_1]⟩), (b0, ⟨4, [encRecord ρ1 r_]⟩)]⟩) (fun ⟨⟨list1, c_1⟩, b4⟩ => ((list1, c_1) = j0)) ?_ ?_
   ·
    refine V.block ?_
    refine V.seq ?_
    replace hm2 := bindO hm2; rcases hm2 with ⟨y4, hh3, hm2⟩
    replace hm2 := bindO hm2; rcases hm2 with ⟨y5, hh4, hm2⟩
    replace hm2 := bindO hm2; rcases hm2 with ⟨y6, hh5, hm2⟩
    replace hm2 := bindO hm2; rcases hm2 with ⟨j1, hm3, hm2⟩
    refine V.cutT (D := (Cur) × (Nat)) (fun ⟨c_2, b8⟩ => ⟨62, [(7, .ref b8 4 0 0), (0, .ref bp 3 0 0), (3, .ref b0 4 0 0), (5, .sref b3 4 0 (List.length list0)), (6, .int .i64 n_)], [(b8, ⟨4, [.agg [.int .i64 r_.Series, .int .i64 y4.1, .int .i64 y5.1, .int .i64 (IntKind.i64.wrap ((1 : Int) + y6.1))]]⟩), (bp, ⟨3, [encCur ρ0 c_2]⟩), (b3, ⟨4, List.map encRule list0⟩), (b0, ⟨4, [encRecord ρ1 r_]⟩)]⟩) (fun ⟨c_2, b8⟩ => (c_2 = j1)) ?_ ?_
    ·
     refine V.regionS [(b0, ⟨4, [encRecord ρ1 r_]⟩)] 62 13 [⟨[(3, none)], false⟩, ⟨[(22, some 0)], false⟩, ⟨[(0, none)], false⟩, ⟨[], true⟩, ⟨[(24, some 2), (25, some 3)], true⟩, ⟨[(0, none)], false⟩, ⟨[], true⟩, ⟨[(27, some 5), (28, some 6)], true⟩, ⟨[(0, none)], false⟩, ⟨[(30, some 8)], true⟩, ⟨[(31, some 9)], false⟩, ⟨[(23, some 1), (26, some 4), (29, some 7), (32, some 10)], false⟩, ⟨[], true⟩] [(0, none), (3, none), (5, none), (6, none), (7, some 12), (33, some 11)] 6 (⟨_, rfl, ⟨_, rfl, ⟨_, rfl, ⟨_, rfl, ⟨_, rfl, ⟨_, rfl, ⟨_, rfl, ⟨_, rfl, ⟨_, rfl, ⟨_, rfl, ⟨_, rfl, ⟨_, rfl, ⟨_, rfl, ⟨rfl, rfl⟩⟩⟩⟩⟩⟩⟩⟩⟩⟩⟩⟩⟩⟩) mixed_orders rfl (by decide +kernel) ?_
     refine WalkP.step (p := ?pv2343) 0 rfl rfl rfl rfl rfl (⟨_, _, rfl, rfl, rfl⟩) ?hv2343 ?rest2343
     case hv2343 =>
      intro E1 H1 hI1
      refine (V1.fieldRef rfl rfl fo_26_1 rfl (ltb rfl) ?_)
      exact rfl
     refine WalkP.step (p := ?pv2344) 1 rfl rfl rfl rfl rfl (⟨_, _, rfl, rfl, rfl⟩) ?hv2344 ?rest2344
     case hv2344 =>
      intro E1 H1 hI1
      obtain ⟨k2345_, hk2345_⟩ := inGet 0 rfl hI1
      refine (V1.loadRef (k := k2345_) rfl rfl tyk_3 rfl hk2345_ rfl rfl rfl (ltb rfl) ?_)
      exact rfl
     refine WalkP.step (p := ?pv2346) 2 rfl rfl rfl rfl rfl (⟨_, _, rfl, rfl, rfl⟩) ?hv2346 ?rest2346
     case hv2346 =>
      intro E1 H1 hI1
      refine (V1.move rfl rfl rfl (ltb rfl) ?_)
      exact rfl
     refine WalkP.step (p := ?pv2347) 5 rfl rfl rfl rfl rfl (⟨_, _, rfl, rfl, rfl⟩) ?hv2347 ?rest2347
     case hv2347 =>
      intro E1 H1 hI1
      refine (V1.move rfl rfl rfl (ltb rfl) ?_)
      exact rfl
     refine WalkP.step (p := ?pv2348) 8 rfl rfl rfl rfl rfl (⟨_, _, rfl, rfl, rfl⟩) ?hv2348 ?rest2348
     case hv2348 =>
      intro E1 H1 hI1
      refine (V1.move rfl rfl rfl (ltb rfl) ?_)
      exact rfl
     refine WalkP.nil ?_
     refine NodeS.branch [3, 6, 12] (inCons 2 rfl inNil) rfl rfl rfl ⟨?_, ?_, ?_, trivial⟩
     ·
      refine ⟨_, _, _, _, rfl, rfl, rfl, (rfl), fun E1 => ?_⟩
      refine (V1.buildSliceT (f := encInt) ([(0 : Int), (0 : Int), (1 : Int), (2 : Int), (3 : Int)] : List Int) rfl rfl esz_30 zk_3 rfl rfl rfl rfl rfl rfl rfl (ltb rfl) ?_)
      intro b9
      refine ⟨_, _, rfl, ?_⟩
      refine WalkP.nil ?_
      refine NodeS.branch [4, 6, 12] (inCons 3 rfl inNil) rfl rfl rfl ⟨?_, ?_, ?_, trivial⟩
      ·
       refine ⟨_, _, _, _, rfl, rfl, rfl, (⟨_, _, rfl, rfl, ⟨_, _, rfl, rfl, rfl⟩⟩), fun E1 => ?_⟩
       refine (V1.callM 2 (rn + ρ0 + 1) [b9] [.ref bp 3 0 0, .vl (rn + ρ0 + 1) 1 (List.map encInt ([(0 : Int), (0 : Int), (1 : Int), (2 : Int), (3 : Int)] : List Int))] (p := (bp, ⟨3, [encCur ρ0 c_0]⟩)) rfl rfl rfl cok_178 rfl rfl ⟨_, _, rfl, .same _, ⟨_, _, rfl, Lend.srMap 0 rfl (fun _ => rfl) (.head _), rfl⟩⟩ (bwCons (k := 0) rfl bwNil) (ok_spec_l1Cur_among hh3) rfl (.inr ⟨(by first | omega | (dsimp only; omega)), by rintro _ _ ⟨rfl, rfl⟩; exact ⟨by simp [PV.no, PV.noL, optS_no, noL_iff, nbeq] <;> omega, by intro b ob h; first | exact optH_no (noL_map (fun _ => by simp [PV.no, PV.noL, noL_iff, nbeq]) _) b ob h | (simp at h; obtain ⟨rfl, rfl⟩ := h; exact noL_map (fun _ => by simp [PV.no, PV.noL, noL_iff, nbeq]) _) | (simp at h; obtain ⟨rfl, rfl⟩ := h; simp [PV.no, PV.noL, optS_no, noL_iff, nbeq] <;> omega)⟩⟩) (ltb rfl) ?_)
       rintro _ _ ⟨rfl, rfl⟩
       refine ⟨_, _, rfl, ?_⟩
       refine WalkP.nil ?_
       refine NodeS.branch [6, 12] (inCons 3 rfl inNil) rfl rfl rfl ⟨?_, ?_, trivial⟩
       ·
        refine ⟨_, _, _, _, rfl, rfl, rfl, (rfl), fun E1 => ?_⟩
        refine (V1.buildSliceT (f := encInt) ([(0 : Int), (30 : Int), (365 : Int), (1000 : Int)] : List Int) rfl rfl esz_30 zk_3 rfl rfl rfl rfl rfl rfl rfl (ltb rfl) ?_)
        intro b10
        refine ⟨_, _, rfl, ?_⟩
        refine WalkP.nil ?_
        refine NodeS.branch [7, 12] (inCons 4 rfl inNil) rfl rfl rfl ⟨?_, ?_, trivial⟩
        ·
         refine ⟨_, _, _, _, rfl, rfl, rfl, (⟨_, _, rfl, rfl, ⟨_, _, rfl, rfl, rfl⟩⟩), fun E1 => ?_⟩
         refine (V1.callM 1 (rn + ρ0 + 1) [b10] [.ref bp 3 0 0, .vl (rn + ρ0 + 1) 1 (List.map encInt ([(0 : Int), (30 : Int), (365 : Int), (1000 : Int)] : List Int))] (p := (bp, ⟨3, [encCur ρ0 y4.2]⟩)) rfl rfl rfl cok_178 rfl rfl ⟨_, _, rfl, .same _, ⟨_, _, rfl, Lend.srMap 0 rfl (fun _ => rfl) (.head _), rfl⟩⟩ (bwCons (k := 0) rfl bwNil) (ok_spec_l1Cur_among hh4) rfl (.inr ⟨(by first | omega | (dsimp only; omega)), by rintro _ _ ⟨rfl, rfl⟩; exact ⟨by simp [PV.no, PV.noL, optS_no, noL_iff, nbeq] <;> omega, by intro b ob h; first | exact optH_no (noL_map (fun _ => by simp [PV.no, PV.noL, noL_iff, nbeq]) _) b ob h | (simp at h; obtain ⟨rfl, rfl⟩ := h; exact noL_map (fun _ => by simp [PV.no, PV.noL, noL_iff, nbeq]) _) | (simp at h; obtain ⟨rfl, rfl⟩ := h; simp [PV.no, PV.noL, optS_no, noL_iff, nbeq] <;> omega)⟩⟩) (ltb rfl) ?_)
         rintro _ _ ⟨rfl, rfl⟩
         refine ⟨_, _, rfl, ?_⟩
         refine WalkP.nil ?_
         refine NodeS.branch [9, 12] (inCons 4 rfl inNil) rfl rfl rfl ⟨?_, ?_, trivial⟩
         ·
          refine ⟨_, _, _, _, rfl, rfl, rfl, (⟨_, _, rfl, rfl, rfl⟩), fun E1 => ?_⟩
          refine (V1.callM 0 (rn + ρ0 + 1) [] [.ref bp 3 0 0, .int .i64 (3 : Int)] (p := (bp, ⟨3, [encCur ρ0 y5.2]⟩)) rfl rfl rfl cok_177 rfl rfl ⟨_, _, rfl, .same _, ⟨_, _, rfl, .same _, rfl⟩⟩ bwNil (ok_spec_l1Cur_pick hh5) rfl (.inl rfl) (ltb rfl) ?_)
          rintro _ _ ⟨rfl, rfl⟩
          refine ⟨_, _, rfl, ?_⟩
          refine WalkP.step (p := ?pv2349) 10 rfl rfl rfl rfl rfl (⟨_, _, rfl, rfl, rfl⟩) ?hv2349 ?rest2349
          case hv2349 =>
           intro E1 H1 hI1
           refine (V1.int rfl rfl rfl rfl rfl (ltb rfl) ?_)
           exact rfl
          refine WalkP.step (p := ?pv2350) 11 rfl rfl rfl rfl rfl (⟨_, _, rfl, rfl, ⟨_, _, rfl, rfl, ⟨_, _, rfl, rfl, ⟨_, _, rfl, rfl, rfl⟩⟩⟩⟩) ?hv2350 ?rest2350
          case hv2350 =>
           intro E1 H1 hI1
           refine (V1.build rfl rfl zk_37 pl_37 rfl rfl (ltb rfl) ?_)
           exact rfl
          refine WalkP.nil ?_
          refine NodeS.branch [12] (inCons 4 rfl inNil) rfl rfl rfl ⟨?_, trivial⟩
          ·
           refine ⟨_, _, _, _, rfl, rfl, rfl, (rfl), fun E1 => ?_⟩
           refine (V1.alloc rfl rfl zk_37 (ltb rfl) ?_)
           intro b11
           refine ⟨_, _, rfl, ?_⟩
           refine WalkP.nil ?_
           refine NodeS.fin (inCons 5 rfl inNil) rfl rfl rfl (⟨_, _, rfl, rfl, ⟨_, _, rfl, rfl, ⟨_, _, rfl, rfl, ⟨_, _, rfl, rfl, ⟨_, _, rfl, rfl, ⟨_, _, rfl, rfl, rfl⟩⟩⟩⟩⟩⟩) ?_
           refine VO.cons rfl (V1.storeRefAll (k := 0) rfl rfl tyk_37 rfl rfl rfl rfl rfl rfl ?_)
           refine VO.nil ?_
           exact ⟨(y6.2, b11), Option.some.inj hm3, Keeps.mk (ks := [0, 1, 4, 5]) rfl ⟨rfl, rfl, rfl, rfl, rfl, trivial⟩ (⟨_, _, rfl, rfl, ⟨_, _, rfl, rfl, ⟨_, _, rfl, rfl, ⟨_, _, rfl, rfl, rfl⟩⟩⟩⟩) rfl⟩
         ·
          refine ⟨_, _, _, _, rfl, rfl, rfl, (rfl), fun E1 => ?_⟩
          refine (V1.alloc rfl rfl zk_37 (ltb rfl) ?_)
          intro b12
          refine ⟨_, _, rfl, ?_⟩
          refine WalkP.nil ?_
          refine NodeS.branch [9] (inCons 5 rfl inNil) rfl rfl rfl ⟨?_, trivial⟩
          ·
           refine ⟨_, _, _, _, rfl, rfl, rfl, (⟨_, _, rfl, rfl, rfl⟩), fun E1 => ?_⟩
           refine (V1.callM 1 (rn + ρ0 + 1) [] [.ref bp 3 0 0, .int .i64 (3 : Int)] (p := (bp, ⟨3, [encCur ρ0 y5.2]⟩)) rfl rfl rfl cok_177 rfl rfl ⟨_, _, rfl, .same _, ⟨_, _, rfl, .same _, rfl⟩⟩ bwNil (ok_spec_l1Cur_pick hh5) rfl (.inl rfl) (ltb rfl) ?_)
           rintro _ _ ⟨rfl, rfl⟩
           refine ⟨_, _, rfl, ?_⟩
           refine WalkP.step (p := ?pv2351) 10 rfl rfl rfl rfl rfl (⟨_, _, rfl, rfl, rfl⟩) ?hv2351 ?rest2351
           case hv2351 =>
            intro E1 H1 hI1
            refine (V1.int rfl rfl rfl rfl rfl (ltb rfl) ?_)
            exact rfl
           refine WalkP.step (p := ?pv2352) 11 rfl rfl rfl rfl rfl (⟨_, _, rfl, rfl, ⟨_, _, rfl, rfl, ⟨_, _, rfl, rfl, ⟨_, _, rfl, rfl, rfl⟩⟩⟩⟩) ?hv2352 ?rest2352
           case hv2352 =>
            intro E1 H1 hI1
            refine (V1.build rfl rfl zk_37 pl_37 rfl rfl (ltb rfl) ?_)
            exact rfl
           refine WalkP.nil ?_
           refine NodeS.fin (inCons 5 rfl inNil) rfl rfl rfl (⟨_, _, rfl, rfl, ⟨_, _, rfl, rfl, ⟨_, _, rfl, rfl, ⟨_, _, rfl, rfl, ⟨_, _, rfl, rfl, ⟨_, _, rfl, rfl, rfl⟩⟩⟩⟩⟩⟩) ?_
           refine VO.cons rfl (V1.storeRefAll (k := 1) rfl rfl tyk_37 rfl rfl rfl rfl rfl rfl ?_)
           refine VO.nil ?_
           exact ⟨(y6.2, b12), Option.some.inj hm3, Keeps.mk (ks := [1, 0, 4, 5]) rfl ⟨rfl, rfl, rfl, rfl, rfl, trivial⟩ (⟨_, _, rfl, rfl, ⟨_, _, rfl, rfl, ⟨_, _, rfl, rfl, ⟨_, _, rfl, rfl, rfl⟩⟩⟩⟩) rfl⟩
        ·
         refine ⟨_, _, _, _, rfl, rfl, rfl, (rfl), fun E1 => ?_⟩
         refine (V1.alloc rfl rfl zk_37 (ltb rfl) ?_)
         intro b13
         refine ⟨_, _, rfl, ?_⟩
         refine WalkP.nil ?_
         refine NodeS.branch [7] (inCons 5 rfl inNil) rfl rfl rfl ⟨?_, trivial⟩
         ·
          refine ⟨_, _, _, _, rfl, rfl, rfl, (⟨_, _, rfl, rfl, ⟨_, _, rfl, rfl, rfl⟩⟩), fun E1 => ?_⟩
          refine (V1.callM 2 (rn + ρ0 + 1) [b10] [.ref bp 3 0 0, .vl (rn + ρ0 + 1) 1 (List.map encInt ([(0 : Int), (30 : Int), (365 : Int), (1000 : Int)] : List Int))] (p := (bp, ⟨3, [encCur ρ0 y4.2]⟩)) rfl rfl rfl cok_178 rfl rfl ⟨_, _, rfl, .same _, ⟨_, _, rfl, Lend.srMap 1 rfl (fun _ => rfl) (.head _), rfl⟩⟩ (bwCons (k := 1) rfl bwNil) (ok_spec_l1Cur_among hh4) rfl (.inr ⟨(by first | omega | (dsimp only; omega)), by rintro _ _ ⟨rfl, rfl⟩; exact ⟨by simp [PV.no, PV.noL, optS_no, noL_iff, nbeq] <;> omega, by intro b ob h; first | exact optH_no (noL_map (fun _ => by simp [PV.no, PV.noL, noL_iff, nbeq]) _) b ob h | (simp at h; obtain ⟨rfl, rfl⟩ := h; exact noL_map (fun _ => by simp [PV.no, PV.noL, noL_iff, nbeq]) _) | (simp at h; obtain ⟨rfl, rfl⟩ := h; simp [PV.no, PV.noL, optS_no, noL_iff, nbeq] <;> omega)⟩⟩) (ltb rfl) ?_)
          rintro _ _ ⟨rfl, rfl⟩
          refine ⟨_, _, rfl, ?_⟩
          refine WalkP.nil ?_
          refine NodeS.branch [9] (inCons 5 rfl inNil) rfl rfl rfl ⟨?_, trivial⟩
          ·
           refine ⟨_, _, _, _, rfl, rfl, rfl, (⟨_, _, rfl, rfl, rfl⟩), fun E1 => ?_⟩
           refine (V1.callM 0 (rn + ρ0 + 1) [] [.ref bp 3 0 0, .int .i64 (3 : Int)] (p := (bp, ⟨3, [encCur ρ0 y5.2]⟩)) rfl rfl rfl cok_177 rfl rfl ⟨_, _, rfl, .same _, ⟨_, _, rfl, .same _, rfl⟩⟩ bwNil (ok_spec_l1Cur_pick hh5) rfl (.inl rfl) (ltb rfl) ?_)
           rintro _ _ ⟨rfl, rfl⟩
           refine ⟨_, _, rfl, ?_⟩
           refine WalkP.step (p := ?pv2353) 10 rfl rfl rfl rfl rfl (⟨_, _, rfl, rfl, rfl⟩) ?hv2353 ?rest2353
           case hv2353 =>
            intro E1 H1 hI1
            refine (V1.int rfl rfl rfl rfl rfl (ltb rfl) ?_)
            exact rfl
           refine WalkP.step (p := ?pv2354) 11 rfl rfl rfl rfl rfl (⟨_, _, rfl, rfl, ⟨_, _, rfl, rfl, ⟨_, _, rfl, rfl, ⟨_, _, rfl, rfl, rfl⟩⟩⟩⟩) ?hv2354 ?rest2354
           case hv2354 =>
            intro E1 H1 hI1
            refine (V1.build rfl rfl zk_37 pl_37 rfl rfl (ltb rfl) ?_)
            exact rfl
           refine WalkP.nil ?_
           refine NodeS.fin (inCons 5 rfl inNil) rfl rfl rfl (⟨_, _, rfl, rfl, ⟨_, _, rfl, rfl, ⟨_, _, rfl, rfl, ⟨_, _, rfl, rfl, ⟨_, _, rfl, rfl, ⟨_, _, rfl, rfl, rfl⟩⟩⟩⟩⟩⟩) ?_
           refine VO.cons rfl (V1.storeRefAll (k := 1) rfl rfl tyk_37 rfl rfl rfl rfl rfl rfl ?_)
           refine VO.nil ?_
           exact ⟨(y6.2, b13), Option.some.inj hm3, Keeps.mk (ks := [1, 0, 4, 5]) rfl ⟨rfl, rfl, rfl, rfl, rfl, trivial⟩ (⟨_, _, rfl, rfl, ⟨_, _, rfl, rfl, ⟨_, _, rfl, rfl, ⟨_, _, rfl, rfl, rfl⟩⟩⟩⟩) rfl⟩
       ·
        refine ⟨_, _, _, _, rfl, rfl, rfl, (rfl), fun E1 => ?_⟩
        refine (V1.alloc rfl rfl zk_37 (ltb rfl) ?_)
        intro b14
        refine ⟨_, _, rfl, ?_⟩
        refine WalkP.nil ?_
        refine NodeS.branch [6] (inCons 4 rfl inNil) rfl rfl rfl ⟨?_, trivial⟩
        ·
         refine ⟨_, _, _, _, rfl, rfl, rfl, (rfl), fun E1 => ?_⟩
         refine (V1.buildSliceT (f := encInt) ([(0 : Int), (30 : Int), (365 : Int), (1000 : Int)] : List Int) rfl rfl esz_30 zk_3 rfl rfl rfl rfl rfl rfl rfl (ltb rfl) ?_)
         intro b15
         refine ⟨_, _, rfl, ?_⟩
         refine WalkP.nil ?_
         refine NodeS.branch [7] (inCons 5 rfl inNil) rfl rfl rfl ⟨?_, trivial⟩
         ·
          refine ⟨_, _, _, _, rfl, rfl, rfl, (⟨_, _, rfl, rfl, ⟨_, _, rfl, rfl, rfl⟩⟩), fun E1 => ?_⟩
          refine (V1.callM 2 (rn + ρ0 + 1) [b15] [.ref bp 3 0 0, .vl (rn + ρ0 + 1) 1 (List.map encInt ([(0 : Int), (30 : Int), (365 : Int), (1000 : Int)] : List Int))] (p := (bp, ⟨3, [encCur ρ0 y4.2]⟩)) rfl rfl rfl cok_178 rfl rfl ⟨_, _, rfl, .same _, ⟨_, _, rfl, Lend.srMap 0 rfl (fun _ => rfl) (.head _), rfl⟩⟩ (bwCons (k := 0) rfl bwNil) (ok_spec_l1Cur_among hh4) rfl (.inr ⟨(by first | omega | (dsimp only; omega)), by rintro _ _ ⟨rfl, rfl⟩; exact ⟨by simp [PV.no, PV.noL, optS_no, noL_iff, nbeq] <;> omega, by intro b ob h; first | exact optH_no (noL_map (fun _ => by simp [PV.no, PV.noL, noL_iff, nbeq]) _) b ob h | (simp at h; obtain ⟨rfl, rfl⟩ := h; exact noL_map (fun _ => by simp [PV.no, PV.noL, noL_iff, nbeq]) _) | (simp at h; obtain ⟨rfl, rfl⟩ := h; simp [PV.no, PV.noL, optS_no, noL_iff, nbeq] <;> omega)⟩⟩) (ltb rfl) ?_)
          rintro _ _ ⟨rfl, rfl⟩
          refine ⟨_, _, rfl, ?_⟩
          refine WalkP.nil ?_
          refine NodeS.branch [9] (inCons 5 rfl inNil) rfl rfl rfl ⟨?_, trivial⟩
          ·
           refine ⟨_, _, _, _, rfl, rfl, rfl, (⟨_, _, rfl, rfl, rfl⟩), fun E1 => ?_⟩
           refine (V1.callM 0 (rn + ρ0 + 1) [] [.ref bp 3 0 0, .int .i64 (3 : Int)] (p := (bp, ⟨3, [encCur ρ0 y5.2]⟩)) rfl rfl rfl cok_177 rfl rfl ⟨_, _, rfl, .same _, ⟨_, _, rfl, .same _, rfl⟩⟩ bwNil (ok_spec_l1Cur_pick hh5) rfl (.inl rfl) (ltb rfl) ?_)
           rintro _ _ ⟨rfl, rfl⟩
           refine ⟨_, _, rfl, ?_⟩
           refine WalkP.step (p := ?pv2355) 10 rfl rfl rfl rfl rfl (⟨_, _, rfl, rfl, rfl⟩) ?hv2355 ?rest2355
           case hv2355 =>
            intro E1 H1 hI1
            refine (V1.int rfl rfl rfl rfl rfl (ltb rfl) ?_)
            exact rfl
           refine WalkP.step (p := ?pv2356) 11 rfl rfl rfl rfl rfl (⟨_, _, rfl, rfl, ⟨_, _, rfl, rfl, ⟨_, _, rfl, rfl, ⟨_, _, rfl, rfl, rfl⟩⟩⟩⟩) ?hv2356 ?rest2356
           case hv2356 =>
            intro E1 H1 hI1
            refine (V1.build rfl rfl zk_37 pl_37 rfl rfl (ltb rfl) ?_)
            exact rfl
           refine WalkP.nil ?_
           refine NodeS.fin (inCons 5 rfl inNil) rfl rfl rfl (⟨_, _, rfl, rfl, ⟨_, _, rfl, rfl, ⟨_, _, rfl, rfl, ⟨_, _, rfl, rfl, ⟨_, _, rfl, rfl, ⟨_, _, rfl, rfl, rfl⟩⟩⟩⟩⟩⟩) ?_
           refine VO.cons rfl (V1.storeRefAll (k := 2) rfl rfl tyk_37 rfl rfl rfl rfl rfl rfl ?_)
           refine VO.nil ?_
           exact ⟨(y6.2, b14), Option.some.inj hm3, Keeps.mk (ks := [2, 0, 4, 5]) rfl ⟨rfl, rfl, rfl, rfl, rfl, trivial⟩ (⟨_, _, rfl, rfl, ⟨_, _, rfl, rfl, ⟨_, _, rfl, rfl, ⟨_, _, rfl, rfl, rfl⟩⟩⟩⟩) rfl⟩
      ·
       refine ⟨_, _, _, _, rfl, rfl, rfl, (rfl), fun E1 => ?_⟩
       refine (V1.buildSliceT (f := encInt) ([(0 : Int), (30 : Int), (365 : Int), (1000 : Int)] : List Int) rfl rfl esz_30 zk_3 rfl rfl rfl rfl rfl rfl rfl (ltb rfl) ?_)
       intro b16
       refine ⟨_, _, rfl, ?_⟩
       refine WalkP.nil ?_
       refine NodeS.branch [4, 12] (inCons 4 rfl inNil) rfl rfl rfl ⟨?_, ?_, trivial⟩
       ·
        refine ⟨_, _, _, _, rfl, rfl, rfl, (⟨_, _, rfl, rfl, ⟨_, _, rfl, rfl, rfl⟩⟩), fun E1 => ?_⟩
        refine (V1.callM 3 (rn + ρ0 + 1) [b9] [.ref bp 3 0 0, .vl (rn + ρ0 + 1) 1 (List.map encInt ([(0 : Int), (0 : Int), (1 : Int), (2 : Int), (3 : Int)] : List Int))] (p := (bp, ⟨3, [encCur ρ0 c_0]⟩)) rfl rfl rfl cok_178 rfl rfl ⟨_, _, rfl, .same _, ⟨_, _, rfl, Lend.srMap 1 rfl (fun _ => rfl) (.head _), rfl⟩⟩ (bwCons (k := 1) rfl bwNil) (ok_spec_l1Cur_among hh3) rfl (.inr ⟨(by first | omega | (dsimp only; omega)), by rintro _ _ ⟨rfl, rfl⟩; exact ⟨by simp [PV.no, PV.noL, optS_no, noL_iff, nbeq] <;> omega, by intro b ob h; first | exact optH_no (noL_map (fun _ => by simp [PV.no, PV.noL, noL_iff, nbeq]) _) b ob h | (simp at h; obtain ⟨rfl, rfl⟩ := h; exact noL_map (fun _ => by simp [PV.no, PV.noL, noL_iff, nbeq]) _) | (simp at h; obtain ⟨rfl, rfl⟩ := h; simp [PV.no, PV.noL, optS_no, noL_iff, nbeq] <;> omega)⟩⟩) (ltb rfl) ?_)
        rintro _ _ ⟨rfl, rfl⟩
        refine ⟨_, _, rfl, ?_⟩
        refine WalkP.nil ?_
        refine NodeS.branch [7, 12] (inCons 4 rfl inNil) rfl rfl rfl ⟨?_, ?_, trivial⟩
        ·
         refine ⟨_, _, _, _, rfl, rfl, rfl, (⟨_, _, rfl, rfl, ⟨_, _, rfl, rfl, rfl⟩⟩), fun E1 => ?_⟩
         refine (V1.callM 0 (rn + ρ0 + 1) [b16] [.ref bp 3 0 0, .vl (rn + ρ0 + 1) 1 (List.map encInt ([(0 : Int), (30 : Int), (365 : Int), (1000 : Int)] : List Int))] (p := (bp, ⟨3, [encCur ρ0 y4.2]⟩)) rfl rfl rfl cok_178 rfl rfl ⟨_, _, rfl, .same _, ⟨_, _, rfl, Lend.srMap 1 rfl (fun _ => rfl) (.head _), rfl⟩⟩ (bwCons (k := 0) rfl bwNil) (ok_spec_l1Cur_among hh4) rfl (.inr ⟨(by first | omega | (dsimp only; omega)), by rintro _ _ ⟨rfl, rfl⟩; exact ⟨by simp [PV.no, PV.noL, optS_no, noL_iff, nbeq] <;> omega, by intro b ob h; first | exact optH_no (noL_map (fun _ => by simp [PV.no, PV.noL, noL_iff, nbeq]) _) b ob h | (simp at h; obtain ⟨rfl, rfl⟩ := h; exact noL_map (fun _ => by simp [PV.no, PV.noL, noL_iff, nbeq]) _) | (simp at h; obtain ⟨rfl, rfl⟩ := h; simp [PV.no, PV.noL, optS_no, noL_iff, nbeq] <;> omega)⟩⟩) (ltb rfl) ?_)
         rintro _ _ ⟨rfl, rfl⟩
         refine ⟨_, _, rfl, ?_⟩
         refine WalkP.nil ?_
         refine NodeS.branch [9, 12] (inCons 4 rfl inNil) rfl rfl rfl ⟨?_, ?_, trivial⟩
         ·
          refine ⟨_, _, _, _, rfl, rfl, rfl, (⟨_, _, rfl, rfl, rfl⟩), fun E1 => ?_⟩
          refine (V1.callM 0 (rn + ρ0 + 1) [] [.ref bp 3 0 0, .int .i64 (3 : Int)] (p := (bp, ⟨3, [encCur ρ0 y5.2]⟩)) rfl rfl rfl cok_177 rfl rfl ⟨_, _, rfl, .same _, ⟨_, _, rfl, .same _, rfl⟩⟩ bwNil (ok_spec_l1Cur_pick hh5) rfl (.inl rfl) (ltb rfl) ?_)
          rintro _ _ ⟨rfl, rfl⟩
          refine ⟨_, _, rfl, ?_⟩
          refine WalkP.step (p := ?pv2357) 10 rfl rfl rfl rfl rfl (⟨_, _, rfl, rfl, rfl⟩) ?hv2357 ?rest2357
          case hv2357 =>
           intro E1 H1 hI1
           refine (V1.int rfl rfl rfl rfl rfl (ltb rfl) ?_)
           exact rfl
          refine WalkP.step (p := ?pv2358) 11 rfl rfl rfl rfl rfl (⟨_, _, rfl, rfl, ⟨_, _, rfl, rfl, ⟨_, _, rfl, rfl, ⟨_, _, rfl, rfl, rfl⟩⟩⟩⟩) ?hv2358 ?rest2358
          case hv2358 =>
           intro E1 H1 hI1
           refine (V1.build rfl rfl zk_37 pl_37 rfl rfl (ltb rfl) ?_)
           exact rfl
          refine WalkP.nil ?_
          refine NodeS.branch [12] (inCons 4 rfl inNil) rfl rfl rfl ⟨?_, trivial⟩
          ·
           refine ⟨_, _, _, _, rfl, rfl, rfl, (rfl), fun E1 => ?_⟩
           refine (V1.alloc rfl rfl zk_37 (ltb rfl) ?_)
           intro b17
           refine ⟨_, _, rfl, ?_⟩
           refine WalkP.nil ?_
           refine NodeS.fin (inCons 5 rfl inNil) rfl rfl rfl (⟨_, _, rfl, rfl, ⟨_, _, rfl, rfl, ⟨_, _, rfl, rfl, ⟨_, _, rfl, rfl, ⟨_, _, rfl, rfl, ⟨_, _, rfl, rfl, rfl⟩⟩⟩⟩⟩⟩) ?_
           refine VO.cons rfl (V1.storeRefAll (k := 0) rfl rfl tyk_37 rfl rfl rfl rfl rfl rfl ?_)
           refine VO.nil ?_
           exact ⟨(y6.2, b17), Option.some.inj hm3, Keeps.mk (ks := [0, 1, 4, 5]) rfl ⟨rfl, rfl, rfl, rfl, rfl, trivial⟩ (⟨_, _, rfl, rfl, ⟨_, _, rfl, rfl, ⟨_, _, rfl, rfl, ⟨_, _, rfl, rfl, rfl⟩⟩⟩⟩) rfl⟩
         ·
          refine ⟨_, _, _, _, rfl, rfl, rfl, (rfl), fun E1 => ?_⟩
          refine (V1.alloc rfl rfl zk_37 (ltb rfl) ?_)
          intro b18
          refine ⟨_, _, rfl, ?_⟩
          refine WalkP.nil ?_
          refine NodeS.branch [9] (inCons 5 rfl inNil) rfl rfl rfl ⟨?_, trivial⟩
          ·
           refine ⟨_, _, _, _, rfl, rfl, rfl, (⟨_, _, rfl, rfl, rfl⟩), fun E1 => ?_⟩
           refine (V1.callM 1 (rn + ρ0 + 1) [] [.ref bp 3 0 0, .int .i64 (3 : Int)] (p := (bp, ⟨3, [encCur ρ0 y5.2]⟩)) rfl rfl rfl cok_177 rfl rfl ⟨_, _, rfl, .same _, ⟨_, _, rfl, .same _, rfl⟩⟩ bwNil (ok_spec_l1Cur_pick hh5) rfl (.inl rfl) (ltb rfl) ?_)
           rintro _ _ ⟨rfl, rfl⟩
           refine ⟨_, _, rfl, ?_⟩
           refine WalkP.step (p := ?pv2359) 10 rfl rfl rfl rfl rfl (⟨_, _, rfl, rfl, rfl⟩) ?hv2359 ?rest2359
           case hv2359 =>
            intro E1 H1 hI1
            refine (V1.int rfl rfl rfl rfl rfl (ltb rfl) ?_)
            exact rfl
           refine WalkP.step (p := ?pv2360) 11 rfl rfl rfl rfl rfl (⟨_, _, rfl, rfl, ⟨_, _, rfl, rfl, ⟨_, _, rfl, rfl, ⟨_, _, rfl, rfl, rfl⟩⟩⟩⟩) ?hv2360 ?rest2360
           case hv2360 =>
            intro E1 H1 hI1
            refine (V1.build rfl rfl zk_37 pl_37 rfl rfl (ltb rfl) ?_)
            exact rfl
           refine WalkP.nil ?_
           refine NodeS.fin (inCons 5 rfl inNil) rfl rfl rfl (⟨_, _, rfl, rfl, ⟨_, _, rfl, rfl, ⟨_, _, rfl, rfl, ⟨_, _, rfl, rfl, ⟨_, _, rfl, rfl, ⟨_, _, rfl, rfl, rfl⟩⟩⟩⟩⟩⟩) ?_
           refine VO.cons rfl (V1.storeRefAll (k := 1) rfl rfl tyk_37 rfl rfl rfl rfl rfl rfl ?_)
           refine VO.nil ?_
           exact ⟨(y6.2, b18), Option.some.inj hm3, Keeps.mk (ks := [1, 0, 4, 5]) rfl ⟨rfl, rfl, rfl, rfl, rfl, trivial⟩ (⟨_, _, rfl, rfl, ⟨_, _, rfl, rfl, ⟨_, _, rfl, rfl, ⟨_, _, rfl, rfl, rfl⟩⟩⟩⟩) rfl⟩
        ·
         refine ⟨_, _, _, _, rfl, rfl, rfl, (rfl), fun E1 => ?_⟩
         refine (V1.alloc rfl rfl zk_37 (ltb rfl) ?_)
         intro b19
         refine ⟨_, _, rfl, ?_⟩
         refine WalkP.nil ?_
         refine NodeS.branch [7] (inCons 5 rfl inNil) rfl rfl rfl ⟨?_, trivial⟩
         ·
          refine ⟨_, _, _, _, rfl, rfl, rfl, (⟨_, _, rfl, rfl, ⟨_, _, rfl, rfl, rfl⟩⟩), fun E1 => ?_⟩
          refine (V1.callM 1 (rn + ρ0 + 1) [b16] [.ref bp 3 0 0, .vl (rn + ρ0 + 1) 1 (List.map encInt ([(0 : Int), (30 : Int), (365 : Int), (1000 : Int)] : List Int))] (p := (bp, ⟨3, [encCur ρ0 y4.2]⟩)) rfl rfl rfl cok_178 rfl rfl ⟨_, _, rfl, .same _, ⟨_, _, rfl, Lend.srMap 2 rfl (fun _ => rfl) (.head _), rfl⟩⟩ (bwCons (k := 1) rfl bwNil) (ok_spec_l1Cur_among hh4) rfl (.inr ⟨(by first | omega | (dsimp only; omega)), by rintro _ _ ⟨rfl, rfl⟩; exact ⟨by simp [PV.no, PV.noL, optS_no, noL_iff, nbeq] <;> omega, by intro b ob h; first | exact optH_no (noL_map (fun _ => by simp [PV.no, PV.noL, noL_iff, nbeq]) _) b ob h | (simp at h; obtain ⟨rfl, rfl⟩ := h; exact noL_map (fun _ => by simp [PV.no, PV.noL, noL_iff, nbeq]) _) | (simp at h; obtain ⟨rfl, rfl⟩ := h; simp [PV.no, PV.noL, optS_no, noL_iff, nbeq] <;> omega)⟩⟩) (ltb rfl) ?_)
          rintro _ _ ⟨rfl, rfl⟩
          refine ⟨_, _, rfl, ?_⟩
          refine WalkP.nil ?_
          refine NodeS.branch [9] (inCons 5 rfl inNil) rfl rfl rfl ⟨?_, trivial⟩
          ·
           refine ⟨_, _, _, _, rfl, rfl, rfl, (⟨_, _, rfl, rfl, rfl⟩), fun E1 => ?_⟩
           refine (V1.callM 0 (rn + ρ0 + 1) [] [.ref bp 3 0 0, .int .i64 (3 : Int)] (p := (bp, ⟨3, [encCur ρ0 y5.2]⟩)) rfl rfl rfl cok_177 rfl rfl ⟨_, _, rfl, .same _, ⟨_, _, rfl, .same _, rfl⟩⟩ bwNil (ok_spec_l1Cur_pick hh5) rfl (.inl rfl) (ltb rfl) ?_)
           rintro _ _ ⟨rfl, rfl⟩
           refine ⟨_, _, rfl, ?_⟩
           refine WalkP.step (p := ?pv2361) 10 rfl rfl rfl rfl rfl (⟨_, _, rfl, rfl, rfl⟩) ?hv2361 ?rest2361
           case hv2361 =>
            intro E1 H1 hI1
            refine (V1.int rfl rfl rfl rfl rfl (ltb rfl) ?_)
            exact rfl
           refine WalkP.step (p := ?pv2362) 11 rfl rfl rfl rfl rfl (⟨_, _, rfl, rfl, ⟨_, _, rfl, rfl, ⟨_, _, rfl, rfl, ⟨_, _, rfl, rfl, rfl⟩⟩⟩⟩) ?hv2362 ?rest2362
           case hv2362 =>
            intro E1 H1 hI1
            refine (V1.build rfl rfl zk_37 pl_37 rfl rfl (ltb rfl) ?_)
            exact rfl
           refine WalkP.nil ?_
           refine NodeS.fin (inCons 5 rfl inNil) rfl rfl rfl (⟨_, _, rfl, rfl, ⟨_, _, rfl, rfl, ⟨_, _, rfl, rfl, ⟨_, _, rfl, rfl, ⟨_, _, rfl, rfl, ⟨_, _, rfl, rfl, rfl⟩⟩⟩⟩⟩⟩) ?_
           refine VO.cons rfl (V1.storeRefAll (k := 1) rfl rfl tyk_37 rfl rfl rfl rfl rfl rfl ?_)
           refine VO.nil ?_
           exact ⟨(y6.2, b19), Option.some.inj hm3, Keeps.mk (ks := [1, 0, 4, 5]) rfl ⟨rfl, rfl, rfl, rfl, rfl, trivial⟩ (⟨_, _, rfl, rfl, ⟨_, _, rfl, rfl, ⟨_, _, rfl, rfl, ⟨_, _, rfl, rfl, rfl⟩⟩⟩⟩) rfl⟩
       ·
        refine ⟨_, _, _, _, rfl, rfl, rfl, (rfl), fun E1 => ?_⟩
        refine (V1.alloc rfl rfl zk_37 (ltb rfl) ?_)
        intro b20
        refine ⟨_, _, rfl, ?_⟩
        refine WalkP.nil ?_
        refine NodeS.branch [4] (inCons 5 rfl inNil) rfl rfl rfl ⟨?_, trivial⟩
        ·
         refine ⟨_, _, _, _, rfl, rfl, rfl, (⟨_, _, rfl, rfl, ⟨_, _, rfl, rfl, rfl⟩⟩), fun E1 => ?_⟩
         refine (V1.callM 4 (rn + ρ0 + 1) [b9] [.ref bp 3 0 0, .vl (rn + ρ0 + 1) 1 (List.map encInt ([(0 : Int), (0 : Int), (1 : Int), (2 : Int), (3 : Int)] : List Int))] (p := (bp, ⟨3, [encCur ρ0 c_0]⟩)) rfl rfl rfl cok_178 rfl rfl ⟨_, _, rfl, .same _, ⟨_, _, rfl, Lend.srMap 2 rfl (fun _ => rfl) (.head _), rfl⟩⟩ (bwCons (k := 2) rfl bwNil) (ok_spec_l1Cur_among hh3) rfl (.inr ⟨(by first | omega | (dsimp only; omega)), by rintro _ _ ⟨rfl, rfl⟩; exact ⟨by simp [PV.no, PV.noL, optS_no, noL_iff, nbeq] <;> omega, by intro b ob h; first | exact optH_no (noL_map (fun _ => by simp [PV.no, PV.noL, noL_iff, nbeq]) _) b ob h | (simp at h; obtain ⟨rfl, rfl⟩ := h; exact noL_map (fun _ => by simp [PV.no, PV.noL, noL_iff, nbeq]) _) | (simp at h; obtain ⟨rfl, rfl⟩ := h; simp [PV.no, PV.noL, optS_no, noL_iff, nbeq] <;> omega)⟩⟩) (ltb rfl) ?_)
         rintro _ _ ⟨rfl, rfl⟩
         refine ⟨_, _, rfl, ?_⟩
         refine WalkP.nil ?_
         refine NodeS.branch [7] (inCons 5 rfl inNil) rfl rfl rfl ⟨?_, trivial⟩
         ·
          refine ⟨_, _, _, _, rfl, rfl, rfl, (⟨_, _, rfl, rfl, ⟨_, _, rfl, rfl, rfl⟩⟩), fun E1 => ?_⟩
          refine (V1.callM 0 (rn + ρ0 + 1) [b16] [.ref bp 3 0 0, .vl (rn + ρ0 + 1) 1 (List.map encInt ([(0 : Int), (30 : Int), (365 : Int), (1000 : Int)] : List Int))] (p := (bp, ⟨3, [encCur ρ0 y4.2]⟩)) rfl rfl rfl cok_178 rfl rfl ⟨_, _, rfl, .same _, ⟨_, _, rfl, Lend.srMap 2 rfl (fun _ => rfl) (.head _), rfl⟩⟩ (bwCons (k := 1) rfl bwNil) (ok_spec_l1Cur_among hh4) rfl (.inr ⟨(by first | omega | (dsimp only; omega)), by rintro _ _ ⟨rfl, rfl⟩; exact ⟨by simp [PV.no, PV.noL, optS_no, noL_iff, nbeq] <;> omega, by intro b ob h; first | exact optH_no (noL_map (fun _ => by simp [PV.no, PV.noL, noL_iff, nbeq]) _) b ob h | (simp at h; obtain ⟨rfl, rfl⟩ := h; exact noL_map (fun _ => by simp [PV.no, PV.noL, noL_iff, nbeq]) _) | (simp at h; obtain ⟨rfl, rfl⟩ := h; simp [PV.no, PV.noL, optS_no, noL_iff, nbeq] <;> omega)⟩⟩) (ltb rfl) ?_)
          rintro _ _ ⟨rfl, rfl⟩
          refine ⟨_, _, rfl, ?_⟩
          refine WalkP.nil ?_
          refine NodeS.branch [9] (inCons 5 rfl inNil) rfl rfl rfl ⟨?_, trivial⟩
          ·
           refine ⟨_, _, _, _, rfl, rfl, rfl, (⟨_, _, rfl, rfl, rfl⟩), fun E1 => ?_⟩
           refine (V1.callM 0 (rn + ρ0 + 1) [] [.ref bp 3 0 0, .int .i64 (3 : Int)] (p := (bp, ⟨3, [encCur ρ0 y5.2]⟩)) rfl rfl rfl cok_177 rfl rfl ⟨_, _, rfl, .same _, ⟨_, _, rfl, .same _, rfl⟩⟩ bwNil (ok_spec_l1Cur_pick hh5) rfl (.inl rfl) (ltb rfl) ?_)
           rintro _ _ ⟨rfl, rfl⟩
           refine ⟨_, _, rfl, ?_⟩
           refine WalkP.step (p := ?pv2363) 10 rfl rfl rfl rfl rfl (⟨_, _, rfl, rfl, rfl⟩) ?hv2363 ?rest2363
           case hv2363 =>
            intro E1 H1 hI1
            refine (V1.int rfl rfl rfl rfl rfl (ltb rfl) ?_)
            exact rfl
           refine WalkP.step (p := ?pv2364) 11 rfl rfl rfl rfl rfl (⟨_, _, rfl, rfl, ⟨_, _, rfl, rfl, ⟨_, _, rfl, rfl, ⟨_, _, rfl, rfl, rfl⟩⟩⟩⟩) ?hv2364 ?rest2364
           case hv2364 =>
            intro E1 H1 hI1
            refine (V1.build rfl rfl zk_37 pl_37 rfl rfl (ltb rfl) ?_)
            exact rfl
           refine WalkP.nil ?_
           refine NodeS.fin (inCons 5 rfl inNil) rfl rfl rfl (⟨_, _, rfl, rfl, ⟨_, _, rfl, rfl, ⟨_, _, rfl, rfl, ⟨_, _, rfl, rfl, ⟨_, _, rfl, rfl, ⟨_, _, rfl, rfl, rfl⟩⟩⟩⟩⟩⟩) ?_
           refine VO.cons rfl (V1.storeRefAll (k := 1) rfl rfl tyk_37 rfl rfl rfl rfl rfl rfl ?_)
           refine VO.nil ?_
           exact ⟨(y6.2, b20), Option.some.inj hm3, Keeps.mk (ks := [1, 0, 4, 5]) rfl ⟨rfl, rfl, rfl, rfl, rfl, trivial⟩ (⟨_, _, rfl, rfl, ⟨_, _, rfl, rfl, ⟨_, _, rfl, rfl, ⟨_, _, rfl, rfl, rfl⟩⟩⟩⟩) rfl⟩
      ·
       refine ⟨_, _, _, _, rfl, rfl, rfl, (rfl), fun E1 => ?_⟩
       refine (V1.alloc rfl rfl zk_37 (ltb rfl) ?_)
       intro b21
       refine ⟨_, _, rfl, ?_⟩
       refine WalkP.nil ?_
       refine NodeS.branch [4, 6] (inCons 4 rfl inNil) rfl rfl rfl ⟨?_, ?_, trivial⟩
       ·
        refine ⟨_, _, _, _, rfl, rfl, rfl, (⟨_, _, rfl, rfl, ⟨_, _, rfl, rfl, rfl⟩⟩), fun E1 => ?_⟩
        refine (V1.callM 3 (rn + ρ0 + 1) [b9] [.ref bp 3 0 0, .vl (rn + ρ0 + 1) 1 (List.map encInt ([(0 : Int), (0 : Int), (1 : Int), (2 : Int), (3 : Int)] : List Int))] (p := (bp, ⟨3, [encCur ρ0 c_0]⟩)) rfl rfl rfl cok_178 rfl rfl ⟨_, _, rfl, .same _, ⟨_, _, rfl, Lend.srMap 1 rfl (fun _ => rfl) (.head _), rfl⟩⟩ (bwCons (k := 1) rfl bwNil) (ok_spec_l1Cur_among hh3) rfl (.inr ⟨(by first | omega | (dsimp only; omega)), by rintro _ _ ⟨rfl, rfl⟩; exact ⟨by simp [PV.no, PV.noL, optS_no, noL_iff, nbeq] <;> omega, by intro b ob h; first | exact optH_no (noL_map (fun _ => by simp [PV.no, PV.noL, noL_iff, nbeq]) _) b ob h | (simp at h; obtain ⟨rfl, rfl⟩ := h; exact noL_map (fun _ => by simp [PV.no, PV.noL, noL_iff, nbeq]) _) | (simp at h; obtain ⟨rfl, rfl⟩ := h; simp [PV.no, PV.noL, optS_no, noL_iff, nbeq] <;> omega)⟩⟩) (ltb rfl) ?_)
        rintro _ _ ⟨rfl, rfl⟩
        refine ⟨_, _, rfl, ?_⟩
        refine WalkP.nil ?_
        refine NodeS.branch [6] (inCons 4 rfl inNil) rfl rfl rfl ⟨?_, trivial⟩
        ·
         refine ⟨_, _, _, _, rfl, rfl, rfl, (rfl), fun E1 => ?_⟩
         refine (V1.buildSliceT (f := encInt) ([(0 : Int), (30 : Int), (365 : Int), (1000 : Int)] : List Int) rfl rfl esz_30 zk_3 rfl rfl rfl rfl rfl rfl rfl (ltb rfl) ?_)
         intro b22
         refine ⟨_, _, rfl, ?_⟩
         refine WalkP.nil ?_
         refine NodeS.branch [7] (inCons 5 rfl inNil) rfl rfl rfl ⟨?_, trivial⟩
         ·
          refine ⟨_, _, _, _, rfl, rfl, rfl, (⟨_, _, rfl, rfl, ⟨_, _, rfl, rfl, rfl⟩⟩), fun E1 => ?_⟩
          refine (V1.callM 1 (rn + ρ0 + 1) [b22] [.ref bp 3 0 0, .vl (rn + ρ0 + 1) 1 (List.map encInt ([(0 : Int), (30 : Int), (365 : Int), (1000 : Int)] : List Int))] (p := (bp, ⟨3, [encCur ρ0 y4.2]⟩)) rfl rfl rfl cok_178 rfl rfl ⟨_, _, rfl, .same _, ⟨_, _, rfl, Lend.srMap 0 rfl (fun _ => rfl) (.head _), rfl⟩⟩ (bwCons (k := 0) rfl bwNil) (ok_spec_l1Cur_among hh4) rfl (.inr ⟨(by first | omega | (dsimp only; omega)), by rintro _ _ ⟨rfl, rfl⟩; exact ⟨by simp [PV.no, PV.noL, optS_no, noL_iff, nbeq] <;> omega, by intro b ob h; first | exact optH_no (noL_map (fun _ => by simp [PV.no, PV.noL, noL_iff, nbeq]) _) b ob h | (simp at h; obtain ⟨rfl, rfl⟩ := h; exact noL_map (fun _ => by simp [PV.no, PV.noL, noL_iff, nbeq]) _) | (simp at h; obtain ⟨rfl, rfl⟩ := h; simp [PV.no, PV.noL, optS_no, noL_iff, nbeq] <;> omega)⟩⟩) (ltb rfl) ?_)
          rintro _ _ ⟨rfl, rfl⟩
          refine ⟨_, _, rfl, ?_⟩
          refine WalkP.nil ?_
          refine NodeS.branch [9] (inCons 5 rfl inNil) rfl rfl rfl ⟨?_, trivial⟩
          ·
           refine ⟨_, _, _, _, rfl, rfl, rfl, (⟨_, _, rfl, rfl, rfl⟩), fun E1 => ?_⟩
           refine (V1.callM 0 (rn + ρ0 + 1) [] [.ref bp 3 0 0, .int .i64 (3 : Int)] (p := (bp, ⟨3, [encCur ρ0 y5.2]⟩)) rfl rfl rfl cok_177 rfl rfl ⟨_, _, rfl, .same _, ⟨_, _, rfl, .same _, rfl⟩⟩ bwNil (ok_spec_l1Cur_pick hh5) rfl (.inl rfl) (ltb rfl) ?_)
           rintro _ _ ⟨rfl, rfl⟩
           refine ⟨_, _, rfl, ?_⟩
           refine WalkP.step (p := ?pv2365) 10 rfl rfl rfl rfl rfl (⟨_, _, rfl, rfl, rfl⟩) ?hv2365 ?rest2365
           case hv2365 =>
            intro E1 H1 hI1
            refine (V1.int rfl rfl rfl rfl rfl (ltb rfl) ?_)
            exact rfl
           refine WalkP.step (p := ?pv2366) 11 rfl rfl rfl rfl rfl (⟨_, _, rfl, rfl, ⟨_, _, rfl, rfl, ⟨_, _, rfl, rfl, ⟨_, _, rfl, rfl, rfl⟩⟩⟩⟩) ?hv2366 ?rest2366
           case hv2366 =>
            intro E1 H1 hI1
            refine (V1.build rfl rfl zk_37 pl_37 rfl rfl (ltb rfl) ?_)
            exact rfl
           refine WalkP.nil ?_
           refine NodeS.fin (inCons 5 rfl inNil) rfl rfl rfl (⟨_, _, rfl, rfl, ⟨_, _, rfl, rfl, ⟨_, _, rfl, rfl, ⟨_, _, rfl, rfl, ⟨_, _, rfl, rfl, ⟨_, _, rfl, rfl, rfl⟩⟩⟩⟩⟩⟩) ?_
           refine VO.cons rfl (V1.storeRefAll (k := 2) rfl rfl tyk_37 rfl rfl rfl rfl rfl rfl ?_)
           refine VO.nil ?_
           exact ⟨(y6.2, b21), Option.some.inj hm3, Keeps.mk (ks := [2, 0, 4, 5]) rfl ⟨rfl, rfl, rfl, rfl, rfl, trivial⟩ (⟨_, _, rfl, rfl, ⟨_, _, rfl, rfl, ⟨_, _, rfl, rfl, ⟨_, _, rfl, rfl, rfl⟩⟩⟩⟩) rfl⟩
       ·
        refine ⟨_, _, _, _, rfl, rfl, rfl, (rfl), fun E1 => ?_⟩
        refine (V1.buildSliceT (f := encInt) ([(0 : Int), (30 : Int), (365 : Int), (1000 : Int)] : List Int) rfl rfl esz_30 zk_3 rfl rfl rfl rfl rfl rfl rfl (ltb rfl) ?_)
        intro b23
        refine ⟨_, _, rfl, ?_⟩
        refine WalkP.nil ?_
        refine NodeS.branch [4] (inCons 5 rfl inNil) rfl rfl rfl ⟨?_, trivial⟩
        ·
         refine ⟨_, _, _, _, rfl, rfl, rfl, (⟨_, _, rfl, rfl, ⟨_, _, rfl, rfl, rfl⟩⟩), fun E1 => ?_⟩
         refine (V1.callM 4 (rn + ρ0 + 1) [b9] [.ref bp 3 0 0, .vl (rn + ρ0 + 1) 1 (List.map encInt ([(0 : Int), (0 : Int), (1 : Int), (2 : Int), (3 : Int)] : List Int))] (p := (bp, ⟨3, [encCur ρ0 c_0]⟩)) rfl rfl rfl cok_178 rfl rfl ⟨_, _, rfl, .same _, ⟨_, _, rfl, Lend.srMap 2 rfl (fun _ => rfl) (.head _), rfl⟩⟩ (bwCons (k := 2) rfl bwNil) (ok_spec_l1Cur_among hh3) rfl (.inr ⟨(by first | omega | (dsimp only; omega)), by rintro _ _ ⟨rfl, rfl⟩; exact ⟨by simp [PV.no, PV.noL, optS_no, noL_iff, nbeq] <;> omega, by intro b ob h; first | exact optH_no (noL_map (fun _ => by simp [PV.no, PV.noL, noL_iff, nbeq]) _) b ob h | (simp at h; obtain ⟨rfl, rfl⟩ := h; exact noL_map (fun _ => by simp [PV.no, PV.noL, noL_iff, nbeq]) _) | (simp at h; obtain ⟨rfl, rfl⟩ := h; simp [PV.no, PV.noL, optS_no, noL_iff, nbeq] <;> omega)⟩⟩) (ltb rfl) ?_)
         rintro _ _ ⟨rfl, rfl⟩
         refine ⟨_, _, rfl, ?_⟩
         refine WalkP.nil ?_
         refine NodeS.branch [7] (inCons 5 rfl inNil) rfl rfl rfl ⟨?_, trivial⟩
         ·
          refine ⟨_, _, _, _, rfl, rfl, rfl, (⟨_, _, rfl, rfl, ⟨_, _, rfl, rfl, rfl⟩⟩), fun E1 => ?_⟩
          refine (V1.callM 0 (rn + ρ0 + 1) [b23] [.ref bp 3 0 0, .vl (rn + ρ0 + 1) 1 (List.map encInt ([(0 : Int), (30 : Int), (365 : Int), (1000 : Int)] : List Int))] (p := (bp, ⟨3, [encCur ρ0 y4.2]⟩)) rfl rfl rfl cok_178 rfl rfl ⟨_, _, rfl, .same _, ⟨_, _, rfl, Lend.srMap 1 rfl (fun _ => rfl) (.head _), rfl⟩⟩ (bwCons (k := 0) rfl bwNil) (ok_spec_l1Cur_among hh4) rfl (.inr ⟨(by first | omega | (dsimp only; omega)), by rintro _ _ ⟨rfl, rfl⟩; exact ⟨by simp [PV.no, PV.noL, optS_no, noL_iff, nbeq] <;> omega, by intro b ob h; first | exact optH_no (noL_map (fun _ => by simp [PV.no, PV.noL, noL_iff, nbeq]) _) b ob h | (simp at h; obtain ⟨rfl, rfl⟩ := h; exact noL_map (fun _ => by simp [PV.no, PV.noL, noL_iff, nbeq]) _) | (simp at h; obtain ⟨rfl, rfl⟩ := h; simp [PV.no, PV.noL, optS_no, noL_iff, nbeq] <;> omega)⟩⟩) (ltb rfl) ?_)
          rintro _ _ ⟨rfl, rfl⟩
          refine ⟨_, _, rfl, ?_⟩
          refine WalkP.nil ?_
          refine NodeS.branch [9] (inCons 5 rfl inNil) rfl rfl rfl ⟨?_, trivial⟩
          ·
           refine ⟨_, _, _, _, rfl, rfl, rfl, (⟨_, _, rfl, rfl, rfl⟩), fun E1 => ?_⟩
           refine (V1.callM 0 (rn + ρ0 + 1) [] [.ref bp 3 0 0, .int .i64 (3 : Int)] (p := (bp, ⟨3, [encCur ρ0 y5.2]⟩)) rfl rfl rfl cok_177 rfl rfl ⟨_, _, rfl, .same _, ⟨_, _, rfl, .same _, rfl⟩⟩ bwNil (ok_spec_l1Cur_pick hh5) rfl (.inl rfl) (ltb rfl) ?_)
           rintro _ _ ⟨rfl, rfl⟩
           refine ⟨_, _, rfl, ?_⟩
           refine WalkP.step (p := ?pv2367) 10 rfl rfl rfl rfl rfl (⟨_, _, rfl, rfl, rfl⟩) ?hv2367 ?rest2367
           case hv2367 =>
            intro E1 H1 hI1
            refine (V1.int rfl rfl rfl rfl rfl (ltb rfl) ?_)
            exact rfl
           refine WalkP.step (p := ?pv2368) 11 rfl rfl rfl rfl rfl (⟨_, _, rfl, rfl, ⟨_, _, rfl, rfl, ⟨_, _, rfl, rfl, ⟨_, _, rfl, rfl, rfl⟩⟩⟩⟩) ?hv2368 ?rest2368
           case hv2368 =>
            intro E1 H1 hI1
            refine (V1.build rfl rfl zk_37 pl_37 rfl rfl (ltb rfl) ?_)
            exact rfl
           refine WalkP.nil ?_
           refine NodeS.fin (inCons 5 rfl inNil) rfl rfl rfl (⟨_, _, rfl, rfl, ⟨_, _, rfl, rfl, ⟨_, _, rfl, rfl, ⟨_, _, rfl, rfl, ⟨_, _, rfl, rfl, ⟨_, _, rfl, rfl, rfl⟩⟩⟩⟩⟩⟩) ?_
           refine VO.cons rfl (V1.storeRefAll (k := 2) rfl rfl tyk_37 rfl rfl rfl rfl rfl rfl ?_)
           refine VO.nil ?_
           exact ⟨(y6.2, b21), Option.some.inj hm3, Keeps.mk (ks := [2, 0, 4, 5]) rfl ⟨rfl, rfl, rfl, rfl, rfl, trivial⟩ (⟨_, _, rfl, rfl, ⟨_, _, rfl, rfl, ⟨_, _, rfl, rfl, ⟨_, _, rfl, rfl, rfl⟩⟩⟩⟩) rfl⟩
     ·
      refine ⟨_, _, _, _, rfl, rfl, rfl, (rfl), fun E1 => ?_⟩
      refine (V1.buildSliceT (f := encInt) ([(0 : Int), (30 : Int), (365 : Int), (1000 : Int)] : List Int) rfl rfl esz_30 zk_3 rfl rfl rfl rfl rfl rfl rfl (ltb rfl) ?_)
      intro b24
      refine ⟨_, _, rfl, ?_⟩
      refine WalkP.nil ?_
      refine NodeS.branch [3, 12] (inCons 3 rfl inNil) rfl rfl rfl ⟨?_, ?_, trivial⟩
      ·
       refine ⟨_, _, _, _, rfl, rfl, rfl, (rfl), fun E1 => ?_⟩
       refine (V1.buildSliceT (f := encInt) ([(0 : Int), (0 : Int), (1 : Int), (2 : Int), (3 : Int)] : List Int) rfl rfl esz_30 zk_3 rfl rfl rfl rfl rfl rfl rfl (ltb rfl) ?_)
       intro b25
       refine ⟨_, _, rfl, ?_⟩
       refine WalkP.nil ?_
       refine NodeS.branch [4, 12] (inCons 4 rfl inNil) rfl rfl rfl ⟨?_, ?_, trivial⟩
       ·
        refine ⟨_, _, _, _, rfl, rfl, rfl, (⟨_, _, rfl, rfl, ⟨_, _, rfl, rfl, rfl⟩⟩), fun E1 => ?_⟩
        refine (V1.callM 3 (rn + ρ0 + 1) [b25] [.ref bp 3 0 0, .vl (rn + ρ0 + 1) 1 (List.map encInt ([(0 : Int), (0 : Int), (1 : Int), (2 : Int), (3 : Int)] : List Int))] (p := (bp, ⟨3, [encCur ρ0 c_0]⟩)) rfl rfl rfl cok_178 rfl rfl ⟨_, _, rfl, .same _, ⟨_, _, rfl, Lend.srMap 0 rfl (fun _ => rfl) (.head _), rfl⟩⟩ (bwCons (k := 0) rfl bwNil) (ok_spec_l1Cur_among hh3) rfl (.inr ⟨(by first | omega | (dsimp only; omega)), by rintro _ _ ⟨rfl, rfl⟩; exact ⟨by simp [PV.no, PV.noL, optS_no, noL_iff, nbeq] <;> omega, by intro b ob h; first | exact optH_no (noL_map (fun _ => by simp [PV.no, PV.noL, noL_iff, nbeq]) _) b ob h | (simp at h; obtain ⟨rfl, rfl⟩ := h; exact noL_map (fun _ => by simp [PV.no, PV.noL, noL_iff, nbeq]) _) | (simp at h; obtain ⟨rfl, rfl⟩ := h; simp [PV.no, PV.noL, optS_no, noL_iff, nbeq] <;> omega)⟩⟩) (ltb rfl) ?_)
        rintro _ _ ⟨rfl, rfl⟩
        refine ⟨_, _, rfl, ?_⟩
        refine WalkP.nil ?_
        refine NodeS.branch [7, 12] (inCons 4 rfl inNil) rfl rfl rfl ⟨?_, ?_, trivial⟩
        ·
         refine ⟨_, _, _, _, rfl, rfl, rfl, (⟨_, _, rfl, rfl, ⟨_, _, rfl, rfl, rfl⟩⟩), fun E1 => ?_⟩
         refine (V1.callM 0 (rn + ρ0 + 1) [b24] [.ref bp 3 0 0, .vl (rn + ρ0 + 1) 1 (List.map encInt ([(0 : Int), (30 : Int), (365 : Int), (1000 : Int)] : List Int))] (p := (bp, ⟨3, [encCur ρ0 y4.2]⟩)) rfl rfl rfl cok_178 rfl rfl ⟨_, _, rfl, .same _, ⟨_, _, rfl, Lend.srMap 2 rfl (fun _ => rfl) (.head _), rfl⟩⟩ (bwCons (k := 1) rfl bwNil) (ok_spec_l1Cur_among hh4) rfl (.inr ⟨(by first | omega | (dsimp only; omega)), by rintro _ _ ⟨rfl, rfl⟩; exact ⟨by simp [PV.no, PV.noL, optS_no, noL_iff, nbeq] <;> omega, by intro b ob h; first | exact optH_no (noL_map (fun _ => by simp [PV.no, PV.noL, noL_iff, nbeq]) _) b ob h | (simp at h; obtain ⟨rfl, rfl⟩ := h; exact noL_map (fun _ => by simp [PV.no, PV.noL, noL_iff, nbeq]) _) | (simp at h; obtain ⟨rfl, rfl⟩ := h; simp [PV.no, PV.noL, optS_no, noL_iff, nbeq] <;> omega)⟩⟩) (ltb rfl) ?_)
         rintro _ _ ⟨rfl, rfl⟩
         refine ⟨_, _, rfl, ?_⟩
         refine WalkP.nil ?_
         refine NodeS.branch [9, 12] (inCons 4 rfl inNil) rfl rfl rfl ⟨?_, ?_, trivial⟩
         ·
          refine ⟨_, _, _, _, rfl, rfl, rfl, (⟨_, _, rfl, rfl, rfl⟩), fun E1 => ?_⟩
          refine (V1.callM 0 (rn + ρ0 + 1) [] [.ref bp 3 0 0, .int .i64 (3 : Int)] (p := (bp, ⟨3, [encCur ρ0 y5.2]⟩)) rfl rfl rfl cok_177 rfl rfl ⟨_, _, rfl, .same _, ⟨_, _, rfl, .same _, rfl⟩⟩ bwNil (ok_spec_l1Cur_pick hh5) rfl (.inl rfl) (ltb rfl) ?_)
          rintro _ _ ⟨rfl, rfl⟩
          refine ⟨_, _, rfl, ?_⟩
          refine WalkP.step (p := ?pv2369) 10 rfl rfl rfl rfl rfl (⟨_, _, rfl, rfl, rfl⟩) ?hv2369 ?rest2369
          case hv2369 =>
           intro E1 H1 hI1
           refine (V1.int rfl rfl rfl rfl rfl (ltb rfl) ?_)
           exact rfl
          refine WalkP.step (p := ?pv2370) 11 rfl rfl rfl rfl rfl (⟨_, _, rfl, rfl, ⟨_, _, rfl, rfl, ⟨_, _, rfl, rfl, ⟨_, _, rfl, rfl, rfl⟩⟩⟩⟩) ?hv2370 ?rest2370
          case hv2370 =>
           intro E1 H1 hI1
           refine (V1.build rfl rfl zk_37 pl_37 rfl rfl (ltb rfl) ?_)
           exact rfl
          refine WalkP.nil ?_
          refine NodeS.branch [12] (inCons 4 rfl inNil) rfl rfl rfl ⟨?_, trivial⟩
          ·
           refine ⟨_, _, _, _, rfl, rfl, rfl, (rfl), fun E1 => ?_⟩
           refine (V1.alloc rfl rfl zk_37 (ltb rfl) ?_)
           intro b26
           refine ⟨_, _, rfl, ?_⟩
           refine WalkP.nil ?_
           refine NodeS.fin (inCons 5 rfl inNil) rfl rfl rfl (⟨_, _, rfl, rfl, ⟨_, _, rfl, rfl, ⟨_, _, rfl, rfl, ⟨_, _, rfl, rfl, ⟨_, _, rfl, rfl, ⟨_, _, rfl, rfl, rfl⟩⟩⟩⟩⟩⟩) ?_
           refine VO.cons rfl (V1.storeRefAll (k := 0) rfl rfl tyk_37 rfl rfl rfl rfl rfl rfl ?_)
           refine VO.nil ?_
           exact ⟨(y6.2, b26), Option.some.inj hm3, Keeps.mk (ks := [0, 1, 4, 5]) rfl ⟨rfl, rfl, rfl, rfl, rfl, trivial⟩ (⟨_, _, rfl, rfl, ⟨_, _, rfl, rfl, ⟨_, _, rfl, rfl, ⟨_, _, rfl, rfl, rfl⟩⟩⟩⟩) rfl⟩
         ·
          refine ⟨_, _, _, _, rfl, rfl, rfl, (rfl), fun E1 => ?_⟩
          refine (V1.alloc rfl rfl zk_37 (ltb rfl) ?_)
          intro b27
          refine ⟨_, _, rfl, ?_⟩
          refine WalkP.nil ?_
          refine NodeS.branch [9] (inCons 5 rfl inNil) rfl rfl rfl ⟨?_, trivial⟩
          ·
           refine ⟨_, _, _, _, rfl, rfl, rfl, (⟨_, _, rfl, rfl, rfl⟩), fun E1 => ?_⟩
           refine (V1.callM 1 (rn + ρ0 + 1) [] [.ref bp 3 0 0, .int .i64 (3 : Int)] (p := (bp, ⟨3, [encCur ρ0 y5.2]⟩)) rfl rfl rfl cok_177 rfl rfl ⟨_, _, rfl, .same _, ⟨_, _, rfl, .same _, rfl⟩⟩ bwNil (ok_spec_l1Cur_pick hh5) rfl (.inl rfl) (ltb rfl) ?_)
           rintro _ _ ⟨rfl, rfl⟩
           refine ⟨_, _, rfl, ?_⟩
           refine WalkP.step (p := ?pv2371) 10 rfl rfl rfl rfl rfl (⟨_, _, rfl, rfl, rfl⟩) ?hv2371 ?rest2371
           case hv2371 =>
            intro E1 H1 hI1
            refine (V1.int rfl rfl rfl rfl rfl (ltb rfl) ?_)
            exact rfl
           refine WalkP.step (p := ?pv2372) 11 rfl rfl rfl rfl rfl (⟨_, _, rfl, rfl, ⟨_, _, rfl, rfl, ⟨_, _, rfl, rfl, ⟨_, _, rfl, rfl, rfl⟩⟩⟩⟩) ?hv2372 ?rest2372
           case hv2372 =>
            intro E1 H1 hI1
            refine (V1.build rfl rfl zk_37 pl_37 rfl rfl (ltb rfl) ?_)
            exact rfl
           refine WalkP.nil ?_
           refine NodeS.fin (inCons 5 rfl inNil) rfl rfl rfl (⟨_, _, rfl, rfl, ⟨_, _, rfl, rfl, ⟨_, _, rfl, rfl, ⟨_, _, rfl, rfl, ⟨_, _, rfl, rfl, ⟨_, _, rfl, rfl, rfl⟩⟩⟩⟩⟩⟩) ?_
           refine VO.cons rfl (V1.storeRefAll (k := 1) rfl rfl tyk_37 rfl rfl rfl rfl rfl rfl ?_)
           refine VO.nil ?_
           exact ⟨(y6.2, b27), Option.some.inj hm3, Keeps.mk (ks := [1, 0, 4, 5]) rfl ⟨rfl, rfl, rfl, rfl, rfl, trivial⟩ (⟨_, _, rfl, rfl, ⟨_, _, rfl, rfl, ⟨_, _, rfl, rfl, ⟨_, _, rfl, rfl, rfl⟩⟩⟩⟩) rfl⟩
        ·
         refine ⟨_, _, _, _, rfl, rfl, rfl, (rfl), fun E1 => ?_⟩
         refine (V1.alloc rfl rfl zk_37 (ltb rfl) ?_)
         intro b28
         refine ⟨_, _, rfl, ?_⟩
         refine WalkP.nil ?_
         refine NodeS.branch [7] (inCons 5 rfl inNil) rfl rfl rfl ⟨?_, trivial⟩
         ·
          refine ⟨_, _, _, _, rfl, rfl, rfl, (⟨_, _, rfl, rfl, ⟨_, _, rfl, rfl, rfl⟩⟩), fun E1 => ?_⟩
          refine (V1.callM 1 (rn + ρ0 + 1) [b24] [.ref bp 3 0 0, .vl (rn + ρ0 + 1) 1 (List.map encInt ([(0 : Int), (30 : Int), (365 : Int), (1000 : Int)] : List Int))] (p := (bp, ⟨3, [encCur ρ0 y4.2]⟩)) rfl rfl rfl cok_178 rfl rfl ⟨_, _, rfl, .same _, ⟨_, _, rfl, Lend.srMap 3 rfl (fun _ => rfl) (.head _), rfl⟩⟩ (bwCons (k := 2) rfl bwNil) (ok_spec_l1Cur_among hh4) rfl (.inr ⟨(by first | omega | (dsimp only; omega)), by rintro _ _ ⟨rfl, rfl⟩; exact ⟨by simp [PV.no, PV.noL, optS_no, noL_iff, nbeq] <;> omega, by intro b ob h; first | exact optH_no (noL_map (fun _ => by simp [PV.no, PV.noL, noL_iff, nbeq]) _) b ob h | (simp at h; obtain ⟨rfl, rfl⟩ := h; exact noL_map (fun _ => by simp [PV.no, PV.noL, noL_iff, nbeq]) _) | (simp at h; obtain ⟨rfl, rfl⟩ := h; simp [PV.no, PV.noL, optS_no, noL_iff, nbeq] <;> omega)⟩⟩) (ltb rfl) ?_)
          rintro _ _ ⟨rfl, rfl⟩
          refine ⟨_, _, rfl, ?_⟩
          refine WalkP.nil ?_
          refine NodeS.branch [9] (inCons 5 rfl inNil) rfl rfl rfl ⟨?_, trivial⟩
          ·
           refine ⟨_, _, _, _, rfl, rfl, rfl, (⟨_, _, rfl, rfl, rfl⟩), fun E1 => ?_⟩
           refine (V1.callM 0 (rn + ρ0 + 1) [] [.ref bp 3 0 0, .int .i64 (3 : Int)] (p := (bp, ⟨3, [encCur ρ0 y5.2]⟩)) rfl rfl rfl cok_177 rfl rfl ⟨_, _, rfl, .same _, ⟨_, _, rfl, .same _, rfl⟩⟩ bwNil (ok_spec_l1Cur_pick hh5) rfl (.inl rfl) (ltb rfl) ?_)
           rintro _ _ ⟨rfl, rfl⟩
           refine ⟨_, _, rfl, ?_⟩
           refine WalkP.step (p := ?pv2373) 10 rfl rfl rfl rfl rfl (⟨_, _, rfl, rfl, rfl⟩) ?hv2373 ?rest2373
           case hv2373 =>
            intro E1 H1 hI1
            refine (V1.int rfl rfl rfl rfl rfl (ltb rfl) ?_)
            exact rfl
           refine WalkP.step (p := ?pv2374) 11 rfl rfl rfl rfl rfl (⟨_, _, rfl, rfl, ⟨_, _, rfl, rfl, ⟨_, _, rfl, rfl, ⟨_, _, rfl, rfl, rfl⟩⟩⟩⟩) ?hv2374 ?rest2374
           case hv2374 =>
            intro E1 H1 hI1
            refine (V1.build rfl rfl zk_37 pl_37 rfl rfl (ltb rfl) ?_)
            exact rfl
           refine WalkP.nil ?_
           refine NodeS.fin (inCons 5 rfl inNil) rfl rfl rfl (⟨_, _, rfl, rfl, ⟨_, _, rfl, rfl, ⟨_, _, rfl, rfl, ⟨_, _, rfl, rfl, ⟨_, _, rfl, rfl, ⟨_, _, rfl, rfl, rfl⟩⟩⟩⟩⟩⟩) ?_
           refine VO.cons rfl (V1.storeRefAll (k := 1) rfl rfl tyk_37 rfl rfl rfl rfl rfl rfl ?_)
           refine VO.nil ?_
           exact ⟨(y6.2, b28), Option.some.inj hm3, Keeps.mk (ks := [1, 0, 4, 5]) rfl ⟨rfl, rfl, rfl, rfl, rfl, trivial⟩ (⟨_, _, rfl, rfl, ⟨_, _, rfl, rfl, ⟨_, _, rfl, rfl, ⟨_, _, rfl, rfl, rfl⟩⟩⟩⟩) rfl⟩
       ·
        refine ⟨_, _, _, _, rfl, rfl, rfl, (rfl), fun E1 => ?_⟩
        refine (V1.alloc rfl rfl zk_37 (ltb rfl) ?_)
        intro b29
        refine ⟨_, _, rfl, ?_⟩
        refine WalkP.nil ?_
        refine NodeS.branch [4] (inCons 5 rfl inNil) rfl rfl rfl ⟨?_, trivial⟩
        ·
         refine ⟨_, _, _, _, rfl, rfl, rfl, (⟨_, _, rfl, rfl, ⟨_, _, rfl, rfl, rfl⟩⟩), fun E1 => ?_⟩
         refine (V1.callM 4 (rn + ρ0 + 1) [b25] [.ref bp 3 0 0, .vl (rn + ρ0 + 1) 1 (List.map encInt ([(0 : Int), (0 : Int), (1 : Int), (2 : Int), (3 : Int)] : List Int))] (p := (bp, ⟨3, [encCur ρ0 c_0]⟩)) rfl rfl rfl cok_178 rfl rfl ⟨_, _, rfl, .same _, ⟨_, _, rfl, Lend.srMap 1 rfl (fun _ => rfl) (.head _), rfl⟩⟩ (bwCons (k := 1) rfl bwNil) (ok_spec_l1Cur_among hh3) rfl (.inr ⟨(by first | omega | (dsimp only; omega)), by rintro _ _ ⟨rfl, rfl⟩; exact ⟨by simp [PV.no, PV.noL, optS_no, noL_iff, nbeq] <;> omega, by intro b ob h; first | exact optH_no (noL_map (fun _ => by simp [PV.no, PV.noL, noL_iff, nbeq]) _) b ob h | (simp at h; obtain ⟨rfl, rfl⟩ := h; exact noL_map (fun _ => by simp [PV.no, PV.noL, noL_iff, nbeq]) _) | (simp at h; obtain ⟨rfl, rfl⟩ := h; simp [PV.no, PV.noL, optS_no, noL_iff, nbeq] <;> omega)⟩⟩) (ltb rfl) ?_)
         rintro _ _ ⟨rfl, rfl⟩
         refine ⟨_, _, rfl, ?_⟩
         refine WalkP.nil ?_
         refine NodeS.branch [7] (inCons 5 rfl inNil) rfl rfl rfl ⟨?_, trivial⟩
         ·
          refine ⟨_, _, _, _, rfl, rfl, rfl, (⟨_, _, rfl, rfl, ⟨_, _, rfl, rfl, rfl⟩⟩), fun E1 => ?_⟩
          refine (V1.callM 0 (rn + ρ0 + 1) [b24] [.ref bp 3 0 0, .vl (rn + ρ0 + 1) 1 (List.map encInt ([(0 : Int), (30 : Int), (365 : Int), (1000 : Int)] : List Int))] (p := (bp, ⟨3, [encCur ρ0 y4.2]⟩)) rfl rfl rfl cok_178 rfl rfl ⟨_, _, rfl, .same _, ⟨_, _, rfl, Lend.srMap 3 rfl (fun _ => rfl) (.head _), rfl⟩⟩ (bwCons (k := 2) rfl bwNil) (ok_spec_l1Cur_among hh4) rfl (.inr ⟨(by first | omega | (dsimp only; omega)), by rintro _ _ ⟨rfl, rfl⟩; exact ⟨by simp [PV.no, PV.noL, optS_no, noL_iff, nbeq] <;> omega, by intro b ob h; first | exact optH_no (noL_map (fun _ => by simp [PV.no, PV.noL, noL_iff, nbeq]) _) b ob h | (simp at h; obtain ⟨rfl, rfl⟩ := h; exact noL_map (fun _ => by simp [PV.no, PV.noL, noL_iff, nbeq]) _) | (simp at h; obtain ⟨rfl, rfl⟩ := h; simp [PV.no, PV.noL, optS_no, noL_iff, nbeq] <;> omega)⟩⟩) (ltb rfl) ?_)
          rintro _ _ ⟨rfl, rfl⟩
          refine ⟨_, _, rfl, ?_⟩
          refine WalkP.nil ?_
          refine NodeS.branch [9] (inCons 5 rfl inNil) rfl rfl rfl ⟨?_, trivial⟩
          ·
           refine ⟨_, _, _, _, rfl, rfl, rfl, (⟨_, _, rfl, rfl, rfl⟩), fun E1 => ?_⟩
           refine (V1.callM 0 (rn + ρ0 + 1) [] [.ref bp 3 0 0, .int .i64 (3 : Int)] (p := (bp, ⟨3, [encCur ρ0 y5.2]⟩)) rfl rfl rfl cok_177 rfl rfl ⟨_, _, rfl, .same _, ⟨_, _, rfl, .same _, rfl⟩⟩ bwNil (ok_spec_l1Cur_pick hh5) rfl (.inl rfl) (ltb rfl) ?_)
           rintro _ _ ⟨rfl, rfl⟩
           refine ⟨_, _, rfl, ?_⟩
           refine WalkP.step (p := ?pv2375) 10 rfl rfl rfl rfl rfl (⟨_, _, rfl, rfl, rfl⟩) ?hv2375 ?rest2375
           case hv2375 =>
            intro E1 H1 hI1
            refine (V1.int rfl rfl rfl rfl rfl (ltb rfl) ?_)
            exact rfl
           refine WalkP.step (p := ?pv2376) 11 rfl rfl rfl rfl rfl (⟨_, _, rfl, rfl, ⟨_, _, rfl, rfl, ⟨_, _, rfl, rfl, ⟨_, _, rfl, rfl, rfl⟩⟩⟩⟩) ?hv2376 ?rest2376
           case hv2376 =>
            intro E1 H1 hI1
            refine (V1.build rfl rfl zk_37 pl_37 rfl rfl (ltb rfl) ?_)
            exact rfl
           refine WalkP.nil ?_
           refine NodeS.fin (inCons 5 rfl inNil) rfl rfl rfl (⟨_, _, rfl, rfl, ⟨_, _, rfl, rfl, ⟨_, _, rfl, rfl, ⟨_, _, rfl, rfl, ⟨_, _, rfl, rfl, ⟨_, _, rfl, rfl, rfl⟩⟩⟩⟩⟩⟩) ?_
           refine VO.cons rfl (V1.storeRefAll (k := 1) rfl rfl tyk_37 rfl rfl rfl rfl rfl rfl ?_)
           refine VO.nil ?_
           exact ⟨(y6.2, b29), Option.some.inj hm3, Keeps.mk (ks := [1, 0, 4, 5]) rfl ⟨rfl, rfl, rfl, rfl, rfl, trivial⟩ (⟨_, _, rfl, rfl, ⟨_, _, rfl, rfl, ⟨_, _, rfl, rfl, ⟨_, _, rfl, rfl, rfl⟩⟩⟩⟩) rfl⟩
      ·
       refine ⟨_, _, _, _, rfl, rfl, rfl, (rfl), fun E1 => ?_⟩
       refine (V1.alloc rfl rfl zk_37 (ltb rfl) ?_)
       intro b30
       refine ⟨_, _, rfl, ?_⟩
       refine WalkP.nil ?_
       refine NodeS.branch [3] (inCons 4 rfl inNil) rfl rfl rfl ⟨?_, trivial⟩
       ·
        refine ⟨_, _, _, _, rfl, rfl, rfl, (rfl), fun E1 => ?_⟩
        refine (V1.buildSliceT (f := encInt) ([(0 : Int), (0 : Int), (1 : Int), (2 : Int), (3 : Int)] : List Int) rfl rfl esz_30 zk_3 rfl rfl rfl rfl rfl rfl rfl (ltb rfl) ?_)
        intro b31
        refine ⟨_, _, rfl, ?_⟩
        refine WalkP.nil ?_
        refine NodeS.branch [4] (inCons 5 rfl inNil) rfl rfl rfl ⟨?_, trivial⟩
        ·
         refine ⟨_, _, _, _, rfl, rfl, rfl, (⟨_, _, rfl, rfl, ⟨_, _, rfl, rfl, rfl⟩⟩), fun E1 => ?_⟩
         refine (V1.callM 4 (rn + ρ0 + 1) [b31] [.ref bp 3 0 0, .vl (rn + ρ0 + 1) 1 (List.map encInt ([(0 : Int), (0 : Int), (1 : Int), (2 : Int), (3 : Int)] : List Int))] (p := (bp, ⟨3, [encCur ρ0 c_0]⟩)) rfl rfl rfl cok_178 rfl rfl ⟨_, _, rfl, .same _, ⟨_, _, rfl, Lend.srMap 0 rfl (fun _ => rfl) (.head _), rfl⟩⟩ (bwCons (k := 0) rfl bwNil) (ok_spec_l1Cur_among hh3) rfl (.inr ⟨(by first | omega | (dsimp only; omega)), by rintro _ _ ⟨rfl, rfl⟩; exact ⟨by simp [PV.no, PV.noL, optS_no, noL_iff, nbeq] <;> omega, by intro b ob h; first | exact optH_no (noL_map (fun _ => by simp [PV.no, PV.noL, noL_iff, nbeq]) _) b ob h | (simp at h; obtain ⟨rfl, rfl⟩ := h; exact noL_map (fun _ => by simp [PV.no, PV.noL, noL_iff, nbeq]) _) | (simp at h; obtain ⟨rfl, rfl⟩ := h; simp [PV.no, PV.noL, optS_no, noL_iff, nbeq] <;> omega)⟩⟩) (ltb rfl) ?_)
         rintro _ _ ⟨rfl, rfl⟩
         refine ⟨_, _, rfl, ?_⟩
         refine WalkP.nil ?_
         refine NodeS.branch [7] (inCons 5 rfl inNil) rfl rfl rfl ⟨?_, trivial⟩
         ·
          refine ⟨_, _, _, _, rfl, rfl, rfl, (⟨_, _, rfl, rfl, ⟨_, _, rfl, rfl, rfl⟩⟩), fun E1 => ?_⟩
          refine (V1.callM 0 (rn + ρ0 + 1) [b24] [.ref bp 3 0 0, .vl (rn + ρ0 + 1) 1 (List.map encInt ([(0 : Int), (30 : Int), (365 : Int), (1000 : Int)] : List Int))] (p := (bp, ⟨3, [encCur ρ0 y4.2]⟩)) rfl rfl rfl cok_178 rfl rfl ⟨_, _, rfl, .same _, ⟨_, _, rfl, Lend.srMap 3 rfl (fun _ => rfl) (.head _), rfl⟩⟩ (bwCons (k := 2) rfl bwNil) (ok_spec_l1Cur_among hh4) rfl (.inr ⟨(by first | omega | (dsimp only; omega)), by rintro _ _ ⟨rfl, rfl⟩; exact ⟨by simp [PV.no, PV.noL, optS_no, noL_iff, nbeq] <;> omega, by intro b ob h; first | exact optH_no (noL_map (fun _ => by simp [PV.no, PV.noL, noL_iff, nbeq]) _) b ob h | (simp at h; obtain ⟨rfl, rfl⟩ := h; exact noL_map (fun _ => by simp [PV.no, PV.noL, noL_iff, nbeq]) _) | (simp at h; obtain ⟨rfl, rfl⟩ := h; simp [PV.no, PV.noL, optS_no, noL_iff, nbeq] <;> omega)⟩⟩) (ltb rfl) ?_)
          rintro _ _ ⟨rfl, rfl⟩
          refine ⟨_, _, rfl, ?_⟩
          refine WalkP.nil ?_
          refine NodeS.branch [9] (inCons 5 rfl inNil) rfl rfl rfl ⟨?_, trivial⟩
          ·
           refine ⟨_, _, _, _, rfl, rfl, rfl, (⟨_, _, rfl, rfl, rfl⟩), fun E1 => ?_⟩
           refine (V1.callM 0 (rn + ρ0 + 1) [] [.ref bp 3 0 0, .int .i64 (3 : Int)] (p := (bp, ⟨3, [encCur ρ0 y5.2]⟩)) rfl rfl rfl cok_177 rfl rfl ⟨_, _, rfl, .same _, ⟨_, _, rfl, .same _, rfl⟩⟩ bwNil (ok_spec_l1Cur_pick hh5) rfl (.inl rfl) (ltb rfl) ?_)
           rintro _ _ ⟨rfl, rfl⟩
           refine ⟨_, _, rfl, ?_⟩
           refine WalkP.step (p := ?pv2377) 10 rfl rfl rfl rfl rfl (⟨_, _, rfl, rfl, rfl⟩) ?hv2377 ?rest2377
           case hv2377 =>
            intro E1 H1 hI1
            refine (V1.int rfl rfl rfl rfl rfl (ltb rfl) ?_)
            exact rfl
           refine WalkP.step (p := ?pv2378) 11 rfl rfl rfl rfl rfl (⟨_, _, rfl, rfl, ⟨_, _, rfl, rfl, ⟨_, _, rfl, rfl, ⟨_, _, rfl, rfl, rfl⟩⟩⟩⟩) ?hv2378 ?rest2378
           case hv2378 =>
            intro E1 H1 hI1
            refine (V1.build rfl rfl zk_37 pl_37 rfl rfl (ltb rfl) ?_)
            exact rfl
           refine WalkP.nil ?_
           refine NodeS.fin (inCons 5 rfl inNil) rfl rfl rfl (⟨_, _, rfl, rfl, ⟨_, _, rfl, rfl, ⟨_, _, rfl, rfl, ⟨_, _, rfl, rfl, ⟨_, _, rfl, rfl, ⟨_, _, rfl, rfl, rfl⟩⟩⟩⟩⟩⟩) ?_
           refine VO.cons rfl (V1.storeRefAll (k := 2) rfl rfl tyk_37 rfl rfl rfl rfl rfl rfl ?_)
           refine VO.nil ?_
           exact ⟨(y6.2, b30), Option.some.inj hm3, Keeps.mk (ks := [2, 0, 4, 5]) rfl ⟨rfl, rfl, rfl, rfl, rfl, trivial⟩ (⟨_, _, rfl, rfl, ⟨_, _, rfl, rfl, ⟨_, _, rfl, rfl, ⟨_, _, rfl, rfl, rfl⟩⟩⟩⟩) rfl⟩
     ·
      refine ⟨_, _, _, _, rfl, rfl, rfl, (rfl), fun E1 => ?_⟩
      refine (V1.alloc rfl rfl zk_37 (ltb rfl) ?_)
      intro b32
      refine ⟨_, _, rfl, ?_⟩
      refine WalkP.nil ?_
      refine NodeS.branch [3, 6] (inCons 3 rfl inNil) rfl rfl rfl ⟨?_, ?_, trivial⟩
      ·
       refine ⟨_, _, _, _, rfl, rfl, rfl, (rfl), fun E1 => ?_⟩
       refine (V1.buildSliceT (f := encInt) ([(0 : Int), (0 : Int), (1 : Int), (2 : Int), (3 : Int)] : List Int) rfl rfl esz_30 zk_3 rfl rfl rfl rfl rfl rfl rfl (ltb rfl) ?_)
       intro b33
       refine ⟨_, _, rfl, ?_⟩
       refine WalkP.nil ?_
       refine NodeS.branch [4, 6] (inCons 4 rfl inNil) rfl rfl rfl ⟨?_, ?_, trivial⟩
       ·
        refine ⟨_, _, _, _, rfl, rfl, rfl, (⟨_, _, rfl, rfl, ⟨_, _, rfl, rfl, rfl⟩⟩), fun E1 => ?_⟩
        refine (V1.callM 3 (rn + ρ0 + 1) [b33] [.ref bp 3 0 0, .vl (rn + ρ0 + 1) 1 (List.map encInt ([(0 : Int), (0 : Int), (1 : Int), (2 : Int), (3 : Int)] : List Int))] (p := (bp, ⟨3, [encCur ρ0 c_0]⟩)) rfl rfl rfl cok_178 rfl rfl ⟨_, _, rfl, .same _, ⟨_, _, rfl, Lend.srMap 0 rfl (fun _ => rfl) (.head _), rfl⟩⟩ (bwCons (k := 0) rfl bwNil) (ok_spec_l1Cur_among hh3) rfl (.inr ⟨(by first | omega | (dsimp only; omega)), by rintro _ _ ⟨rfl, rfl⟩; exact ⟨by simp [PV.no, PV.noL, optS_no, noL_iff, nbeq] <;> omega, by intro b ob h; first | exact optH_no (noL_map (fun _ => by simp [PV.no, PV.noL, noL_iff, nbeq]) _) b ob h | (simp at h; obtain ⟨rfl, rfl⟩ := h; exact noL_map (fun _ => by simp [PV.no, PV.noL, noL_iff, nbeq]) _) | (simp at h; obtain ⟨rfl, rfl⟩ := h; simp [PV.no, PV.noL, optS_no, noL_iff, nbeq] <;> omega)⟩⟩) (ltb rfl) ?_)
        rintro _ _ ⟨rfl, rfl⟩
        refine ⟨_, _, rfl, ?_⟩
        refine WalkP.nil ?_
        refine NodeS.branch [6] (inCons 4 rfl inNil) rfl rfl rfl ⟨?_, trivial⟩
        ·
         refine ⟨_, _, _, _, rfl, rfl, rfl, (rfl), fun E1 => ?_⟩
         refine (V1.buildSliceT (f := encInt) ([(0 : Int), (30 : Int), (365 : Int), (1000 : Int)] : List Int) rfl rfl esz_30 zk_3 rfl rfl rfl rfl rfl rfl rfl (ltb rfl) ?_)
         intro b34
         refine ⟨_, _, rfl, ?_⟩
         refine WalkP.nil ?_
         refine NodeS.branch [7] (inCons 5 rfl inNil) rfl rfl rfl ⟨?_, trivial⟩
         ·
          refine ⟨_, _, _, _, rfl, rfl, rfl, (⟨_, _, rfl, rfl, ⟨_, _, rfl, rfl, rfl⟩⟩), fun E1 => ?_⟩
          refine (V1.callM 1 (rn + ρ0 + 1) [b34] [.ref bp 3 0 0, .vl (rn + ρ0 + 1) 1 (List.map encInt ([(0 : Int), (30 : Int), (365 : Int), (1000 : Int)] : List Int))] (p := (bp, ⟨3, [encCur ρ0 y4.2]⟩)) rfl rfl rfl cok_178 rfl rfl ⟨_, _, rfl, .same _, ⟨_, _, rfl, Lend.srMap 0 rfl (fun _ => rfl) (.head _), rfl⟩⟩ (bwCons (k := 0) rfl bwNil) (ok_spec_l1Cur_among hh4) rfl (.inr ⟨(by first | omega | (dsimp only; omega)), by rintro _ _ ⟨rfl, rfl⟩; exact ⟨by simp [PV.no, PV.noL, optS_no, noL_iff, nbeq] <;> omega, by intro b ob h; first | exact optH_no (noL_map (fun _ => by simp [PV.no, PV.noL, noL_iff, nbeq]) _) b ob h | (simp at h; obtain ⟨rfl, rfl⟩ := h; exact noL_map (fun _ => by simp [PV.no, PV.noL, noL_iff, nbeq]) _) | (simp at h; obtain ⟨rfl, rfl⟩ := h; simp [PV.no, PV.noL, optS_no, noL_iff, nbeq] <;> omega)⟩⟩) (ltb rfl) ?_)
          rintro _ _ ⟨rfl, rfl⟩
          refine ⟨_, _, rfl, ?_⟩
          refine WalkP.nil ?_
          refine NodeS.branch [9] (inCons 5 rfl inNil) rfl rfl rfl ⟨?_, trivial⟩
          ·
           refine ⟨_, _, _, _, rfl, rfl, rfl, (⟨_, _, rfl, rfl, rfl⟩), fun E1 => ?_⟩
           refine (V1.callM 0 (rn + ρ0 + 1) [] [.ref bp 3 0 0, .int .i64 (3 : Int)] (p := (bp, ⟨3, [encCur ρ0 y5.2]⟩)) rfl rfl rfl cok_177 rfl rfl ⟨_, _, rfl, .same _, ⟨_, _, rfl, .same _, rfl⟩⟩ bwNil (ok_spec_l1Cur_pick hh5) rfl (.inl rfl) (ltb rfl) ?_)
           rintro _ _ ⟨rfl, rfl⟩
           refine ⟨_, _, rfl, ?_⟩
           refine WalkP.step (p := ?pv2379) 10 rfl rfl rfl rfl rfl (⟨_, _, rfl, rfl, rfl⟩) ?hv2379 ?rest2379
           case hv2379 =>
            intro E1 H1 hI1
            refine (V1.int rfl rfl rfl rfl rfl (ltb rfl) ?_)
            exact rfl
           refine WalkP.step (p := ?pv2380) 11 rfl rfl rfl rfl rfl (⟨_, _, rfl, rfl, ⟨_, _, rfl, rfl, ⟨_, _, rfl, rfl, ⟨_, _, rfl, rfl, rfl⟩⟩⟩⟩) ?hv2380 ?rest2380
           case hv2380 =>
            intro E1 H1 hI1
            refine (V1.build rfl rfl zk_37 pl_37 rfl rfl (ltb rfl) ?_)
            exact rfl
           refine WalkP.nil ?_
           refine NodeS.fin (inCons 5 rfl inNil) rfl rfl rfl (⟨_, _, rfl, rfl, ⟨_, _, rfl, rfl, ⟨_, _, rfl, rfl, ⟨_, _, rfl, rfl, ⟨_, _, rfl, rfl, ⟨_, _, rfl, rfl, rfl⟩⟩⟩⟩⟩⟩) ?_
           refine VO.cons rfl (V1.storeRefAll (k := 3) rfl rfl tyk_37 rfl rfl rfl rfl rfl rfl ?_)
           refine VO.nil ?_
           exact ⟨(y6.2, b32), Option.some.inj hm3, Keeps.mk (ks := [3, 0, 4, 5]) rfl ⟨rfl, rfl, rfl, rfl, rfl, trivial⟩ (⟨_, _, rfl, rfl, ⟨_, _, rfl, rfl, ⟨_, _, rfl, rfl, ⟨_, _, rfl, rfl, rfl⟩⟩⟩⟩) rfl⟩
       ·
        refine ⟨_, _, _, _, rfl, rfl, rfl, (rfl), fun E1 => ?_⟩
        refine (V1.buildSliceT (f := encInt) ([(0 : Int), (30 : Int), (365 : Int), (1000 : Int)] : List Int) rfl rfl esz_30 zk_3 rfl rfl rfl rfl rfl rfl rfl (ltb rfl) ?_)
        intro b35
        refine ⟨_, _, rfl, ?_⟩
        refine WalkP.nil ?_
        refine NodeS.branch [4] (inCons 5 rfl inNil) rfl rfl rfl ⟨?_, trivial⟩
        ·
         refine ⟨_, _, _, _, rfl, rfl, rfl, (⟨_, _, rfl, rfl, ⟨_, _, rfl, rfl, rfl⟩⟩), fun E1 => ?_⟩
         refine (V1.callM 4 (rn + ρ0 + 1) [b33] [.ref bp 3 0 0, .vl (rn + ρ0 + 1) 1 (List.map encInt ([(0 : Int), (0 : Int), (1 : Int), (2 : Int), (3 : Int)] : List Int))] (p := (bp, ⟨3, [encCur ρ0 c_0]⟩)) rfl rfl rfl cok_178 rfl rfl ⟨_, _, rfl, .same _, ⟨_, _, rfl, Lend.srMap 1 rfl (fun _ => rfl) (.head _), rfl⟩⟩ (bwCons (k := 1) rfl bwNil) (ok_spec_l1Cur_among hh3) rfl (.inr ⟨(by first | omega | (dsimp only; omega)), by rintro _ _ ⟨rfl, rfl⟩; exact ⟨by simp [PV.no, PV.noL, optS_no, noL_iff, nbeq] <;> omega, by intro b ob h; first | exact optH_no (noL_map (fun _ => by simp [PV.no, PV.noL, noL_iff, nbeq]) _) b ob h | (simp at h; obtain ⟨rfl, rfl⟩ := h; exact noL_map (fun _ => by simp [PV.no, PV.noL, noL_iff, nbeq]) _) | (simp at h; obtain ⟨rfl, rfl⟩ := h; simp [PV.no, PV.noL, optS_no, noL_iff, nbeq] <;> omega)⟩⟩) (ltb rfl) ?_)
         rintro _ _ ⟨rfl, rfl⟩
         refine ⟨_, _, rfl, ?_⟩
         refine WalkP.nil ?_
         refine NodeS.branch [7] (inCons 5 rfl inNil) rfl rfl rfl ⟨?_, trivial⟩
         ·
          refine ⟨_, _, _, _, rfl, rfl, rfl, (⟨_, _, rfl, rfl, ⟨_, _, rfl, rfl, rfl⟩⟩), fun E1 => ?_⟩
          refine (V1.callM 0 (rn + ρ0 + 1) [b35] [.ref bp 3 0 0, .vl (rn + ρ0 + 1) 1 (List.map encInt ([(0 : Int), (30 : Int), (365 : Int), (1000 : Int)] : List Int))] (p := (bp, ⟨3, [encCur ρ0 y4.2]⟩)) rfl rfl rfl cok_178 rfl rfl ⟨_, _, rfl, .same _, ⟨_, _, rfl, Lend.srMap 1 rfl (fun _ => rfl) (.head _), rfl⟩⟩ (bwCons (k := 0) rfl bwNil) (ok_spec_l1Cur_among hh4) rfl (.inr ⟨(by first | omega | (dsimp only; omega)), by rintro _ _ ⟨rfl, rfl⟩; exact ⟨by simp [PV.no, PV.noL, optS_no, noL_iff, nbeq] <;> omega, by intro b ob h; first | exact optH_no (noL_map (fun _ => by simp [PV.no, PV.noL, noL_iff, nbeq]) _) b ob h | (simp at h; obtain ⟨rfl, rfl⟩ := h; exact noL_map (fun _ => by simp [PV.no, PV.noL, noL_iff, nbeq]) _) | (simp at h; obtain ⟨rfl, rfl⟩ := h; simp [PV.no, PV.noL, optS_no, noL_iff, nbeq] <;> omega)⟩⟩) (ltb rfl) ?_)
          rintro _ _ ⟨rfl, rfl⟩
          refine ⟨_, _, rfl, ?_⟩
          refine WalkP.nil ?_
          refine NodeS.branch [9] (inCons 5 rfl inNil) rfl rfl rfl ⟨?_, trivial⟩
          ·
           refine ⟨_, _, _, _, rfl, rfl, rfl, (⟨_, _, rfl, rfl, rfl⟩), fun E1 => ?_⟩
           refine (V1.callM 0 (rn + ρ0 + 1) [] [.ref bp 3 0 0, .int .i64 (3 : Int)] (p := (bp, ⟨3, [encCur ρ0 y5.2]⟩)) rfl rfl rfl cok_177 rfl rfl ⟨_, _, rfl, .same _, ⟨_, _, rfl, .same _, rfl⟩⟩ bwNil (ok_spec_l1Cur_pick hh5) rfl (.inl rfl) (ltb rfl) ?_)
           rintro _ _ ⟨rfl, rfl⟩
           refine ⟨_, _, rfl, ?_⟩
           refine WalkP.step (p := ?pv2381) 10 rfl rfl rfl rfl rfl (⟨_, _, rfl, rfl, rfl⟩) ?hv2381 ?rest2381
           case hv2381 =>
            intro E1 H1 hI1
            refine (V1.int rfl rfl rfl rfl rfl (ltb rfl) ?_)
            exact rfl
           refine WalkP.step (p := ?pv2382) 11 rfl rfl rfl rfl rfl (⟨_, _, rfl, rfl, ⟨_, _, rfl, rfl, ⟨_, _, rfl, rfl, ⟨_, _, rfl, rfl, rfl⟩⟩⟩⟩) ?hv2382 ?rest2382
           case hv2382 =>
            intro E1 H1 hI1
            refine (V1.build rfl rfl zk_37 pl_37 rfl rfl (ltb rfl) ?_)
            exact rfl
           refine WalkP.nil ?_
           refine NodeS.fin (inCons 5 rfl inNil) rfl rfl rfl (⟨_, _, rfl, rfl, ⟨_, _, rfl, rfl, ⟨_, _, rfl, rfl, ⟨_, _, rfl, rfl, ⟨_, _, rfl, rfl, ⟨_, _, rfl, rfl, rfl⟩⟩⟩⟩⟩⟩) ?_
           refine VO.cons rfl (V1.storeRefAll (k := 3) rfl rfl tyk_37 rfl rfl rfl rfl rfl rfl ?_)
           refine VO.nil ?_
           exact ⟨(y6.2, b32), Option.some.inj hm3, Keeps.mk (ks := [3, 0, 4, 5]) rfl ⟨rfl, rfl, rfl, rfl, rfl, trivial⟩ (⟨_, _, rfl, rfl, ⟨_, _, rfl, rfl, ⟨_, _, rfl, rfl, ⟨_, _, rfl, rfl, rfl⟩⟩⟩⟩) rfl⟩
      ·
       refine ⟨_, _, _, _, rfl, rfl, rfl, (rfl), fun E1 => ?_⟩
       refine (V1.buildSliceT (f := encInt) ([(0 : Int), (30 : Int), (365 : Int), (1000 : Int)] : List Int) rfl rfl esz_30 zk_3 rfl rfl rfl rfl rfl rfl rfl (ltb rfl) ?_)
       intro b36
       refine ⟨_, _, rfl, ?_⟩
       refine WalkP.nil ?_
       refine NodeS.branch [3] (inCons 4 rfl inNil) rfl rfl rfl ⟨?_, trivial⟩
       ·
        refine ⟨_, _, _, _, rfl, rfl, rfl, (rfl), fun E1 => ?_⟩
        refine (V1.buildSliceT (f := encInt) ([(0 : Int), (0 : Int), (1 : Int), (2 : Int), (3 : Int)] : List Int) rfl rfl esz_30 zk_3 rfl rfl rfl rfl rfl rfl rfl (ltb rfl) ?_)
        intro b37
        refine ⟨_, _, rfl, ?_⟩
        refine WalkP.nil ?_
        refine NodeS.branch [4] (inCons 5 rfl inNil) rfl rfl rfl ⟨?_, trivial⟩
        ·
         refine ⟨_, _, _, _, rfl, rfl, rfl, (⟨_, _, rfl, rfl, ⟨_, _, rfl, rfl, rfl⟩⟩), fun E1 => ?_⟩
         refine (V1.callM 4 (rn + ρ0 + 1) [b37] [.ref bp 3 0 0, .vl (rn + ρ0 + 1) 1 (List.map encInt ([(0 : Int), (0 : Int), (1 : Int), (2 : Int), (3 : Int)] : List Int))] (p := (bp, ⟨3, [encCur ρ0 c_0]⟩)) rfl rfl rfl cok_178 rfl rfl ⟨_, _, rfl, .same _, ⟨_, _, rfl, Lend.srMap 0 rfl (fun _ => rfl) (.head _), rfl⟩⟩ (bwCons (k := 0) rfl bwNil) (ok_spec_l1Cur_among hh3) rfl (.inr ⟨(by first | omega | (dsimp only; omega)), by rintro _ _ ⟨rfl, rfl⟩; exact ⟨by simp [PV.no, PV.noL, optS_no, noL_iff, nbeq] <;> omega, by intro b ob h; first | exact optH_no (noL_map (fun _ => by simp [PV.no, PV.noL, noL_iff, nbeq]) _) b ob h | (simp at h; obtain ⟨rfl, rfl⟩ := h; exact noL_map (fun _ => by simp [PV.no, PV.noL, noL_iff, nbeq]) _) | (simp at h; obtain ⟨rfl, rfl⟩ := h; simp [PV.no, PV.noL, optS_no, noL_iff, nbeq] <;> omega)⟩⟩) (ltb rfl) ?_)
         rintro _ _ ⟨rfl, rfl⟩
         refine ⟨_, _, rfl, ?_⟩
         refine WalkP.nil ?_
         refine NodeS.branch [7] (inCons 5 rfl inNil) rfl rfl rfl ⟨?_, trivial⟩
         ·
          refine ⟨_, _, _, _, rfl, rfl, rfl, (⟨_, _, rfl, rfl, ⟨_, _, rfl, rfl, rfl⟩⟩), fun E1 => ?_⟩
          refine (V1.callM 0 (rn + ρ0 + 1) [b36] [.ref bp 3 0 0, .vl (rn + ρ0 + 1) 1 (List.map encInt ([(0 : Int), (30 : Int), (365 : Int), (1000 : Int)] : List Int))] (p := (bp, ⟨3, [encCur ρ0 y4.2]⟩)) rfl rfl rfl cok_178 rfl rfl ⟨_, _, rfl, .same _, ⟨_, _, rfl, Lend.srMap 2 rfl (fun _ => rfl) (.head _), rfl⟩⟩ (bwCons (k := 1) rfl bwNil) (ok_spec_l1Cur_among hh4) rfl (.inr ⟨(by first | omega | (dsimp only; omega)), by rintro _ _ ⟨rfl, rfl⟩; exact ⟨by simp [PV.no, PV.noL, optS_no, noL_iff, nbeq] <;> omega, by intro b ob h; first | exact optH_no (noL_map (fun _ => by simp [PV.no, PV.noL, noL_iff, nbeq]) _) b ob h | (simp at h; obtain ⟨rfl, rfl⟩ := h; exact noL_map (fun _ => by simp [PV.no, PV.noL, noL_iff, nbeq]) _) | (simp at h; obtain ⟨rfl, rfl⟩ := h; simp [PV.no, PV.noL, optS_no, noL_iff, nbeq] <;> omega)⟩⟩) (ltb rfl) ?_)
          rintro _ _ ⟨rfl, rfl⟩
          refine ⟨_, _, rfl, ?_⟩
          refine WalkP.nil ?_
          refine NodeS.branch [9] (inCons 5 rfl inNil) rfl rfl rfl ⟨?_, trivial⟩
          ·
           refine ⟨_, _, _, _, rfl, rfl, rfl, (⟨_, _, rfl, rfl, rfl⟩), fun E1 => ?_⟩
           refine (V1.callM 0 (rn + ρ0 + 1) [] [.ref bp 3 0 0, .int .i64 (3 : Int)] (p := (bp, ⟨3, [encCur ρ0 y5.2]⟩)) rfl rfl rfl cok_177 rfl rfl ⟨_, _, rfl, .same _, ⟨_, _, rfl, .same _, rfl⟩⟩ bwNil (ok_spec_l1Cur_pick hh5) rfl (.inl rfl) (ltb rfl) ?_)
           rintro _ _ ⟨rfl, rfl⟩
           refine ⟨_, _, rfl, ?_⟩
           refine WalkP.step (p := ?pv2383) 10 rfl rfl rfl rfl rfl (⟨_, _, rfl, rfl, rfl⟩) ?hv2383 ?rest2383
           case hv2383 =>
            intro E1 H1 hI1
            refine (V1.int rfl rfl rfl rfl rfl (ltb rfl) ?_)
            exact rfl
           refine WalkP.step (p := ?pv2384) 11 rfl rfl rfl rfl rfl (⟨_, _, rfl, rfl, ⟨_, _, rfl, rfl, ⟨_, _, rfl, rfl, ⟨_, _, rfl, rfl, rfl⟩⟩⟩⟩) ?hv2384 ?rest2384
           case hv2384 =>
            intro E1 H1 hI1
            refine (V1.build rfl rfl zk_37 pl_37 rfl rfl (ltb rfl) ?_)
            exact rfl
           refine WalkP.nil ?_
           refine NodeS.fin (inCons 5 rfl inNil) rfl rfl rfl (⟨_, _, rfl, rfl, ⟨_, _, rfl, rfl, ⟨_, _, rfl, rfl, ⟨_, _, rfl, rfl, ⟨_, _, rfl, rfl, ⟨_, _, rfl, rfl, rfl⟩⟩⟩⟩⟩⟩) ?_
           refine VO.cons rfl (V1.storeRefAll (k := 3) rfl rfl tyk_37 rfl rfl rfl rfl rfl rfl ?_)
           refine VO.nil ?_
           exact ⟨(y6.2, b32), Option.some.inj hm3, Keeps.mk (ks := [3, 0, 4, 5]) rfl ⟨rfl, rfl, rfl, rfl, rfl, trivial⟩ (⟨_, _, rfl, rfl, ⟨_, _, rfl, rfl, ⟨_, _, rfl, rfl, ⟨_, _, rfl, rfl, rfl⟩⟩⟩⟩) rfl⟩
    ·
     rintro ⟨c_2, b8⟩ rfl
     try dsimp only at hm2
     refine V.seq ?_
     replace hm2 := bindO hm2; rcases hm2 with ⟨j2, hm3, hm2⟩
     refine V.cutT (D := (Cur × Rule) × (Unit)) (fun ⟨⟨c_3, rule⟩, _⟩ => ⟨62, [(0, .ref bp 3 0 0), (3, .ref b0 4 0 0), (5, .sref b3 4 0 (List.length list0)), (6, .int .i64 n_), (7, .ref b8 4 0 0)], [(bp, ⟨3, [encCur ρ0 c_3]⟩), (b8, ⟨4, [encRule rule]⟩), (b3, ⟨4, List.map encRule list0⟩), (b0, ⟨4, [encRecord ρ1 r_]⟩)]⟩) (fun ⟨⟨c_3, rule⟩, _⟩ => ((c_3, rule) = j2)) ?_ ?_
     ·
      refine V.seq ?_
      replace hm3 := bindO hm3; rcases hm3 with ⟨y7, hh6, hm3⟩
      refine V.region ?_
      refine VO.cons rfl (V1.fieldRef rfl rfl fo_26_3 rfl (ltb rfl) ?_)
      refine VO.cons rfl (V1.loadRef (k := 3) rfl rfl tyk_24 rfl rfl rfl rfl rfl (ltb rfl) ?_)
      refine VO.cons rfl (V1.lenMap rfl rfl rfl rfl rfl rfl isl_24 (ltb rfl) ?_)
      refine VO.cons rfl (V1.int rfl rfl rfl rfl rfl (ltb rfl) ?_)
      refine VO.cons rfl (V1.move rfl rfl rfl (ltb rfl) ?_)
      apply VO.andH (n := 2) [(b8, ⟨4, [.agg [.int .i64 r_.Series, .int .i64 y4.1, .int .i64 y5.1, .int .i64 (IntKind.i64.wrap ((1 : Int) + y6.1))]]⟩), (bp, ⟨3, [encCur ρ0 (bif (decide ((r_.Events.length : Int) > (0 : Int))) then y7.2 else c_2)]⟩), (b3, ⟨4, List.map encRule list0⟩), (b0, ⟨4, [encRecord ρ1 r_]⟩)] rfl rfl rfl rfl rfl rfl (ltb rfl) (.none rfl) (fun h => by rw [h]; rfl)
      ·
       intro hg1
       refine VO.step (.some rfl rfl rfl) (V1.move rfl rfl rfl (ltb rfl) ?_)
       refine VO.step (.some rfl rfl rfl) (V1.callM 1 (rn + ρ0 + 1) [] [.ref bp 3 0 0, .int .i64 (2 : Int)] (p := (bp, ⟨3, [encCur ρ0 c_2]⟩)) rfl rfl rfl cok_176 rfl rfl ⟨_, _, rfl, .same _, ⟨_, _, rfl, .same _, rfl⟩⟩ bwNil (ok_spec_l1Cur_one (cond_t hg1 hh6)) rfl (.inl rfl) (ltb rfl) ?_)
       rintro _ _ ⟨rfl, rfl⟩
       refine VO.weakenK (Keeps.setAt (H := [(b8, ⟨4, [.agg [.int .i64 r_.Series, .int .i64 y4.1, .int .i64 y5.1, .int .i64 (IntKind.i64.wrap ((1 : Int) + y6.1))]]⟩), (bp, ⟨3, [encCur ρ0 c_2]⟩), (b3, ⟨4, List.map encRule list0⟩), (b0, ⟨4, [encRecord ρ1 r_]⟩)]) 1 (ltb rfl)) ?_
       exact VO.nil ⟨rfl, rfl, rfl, (by rw [hg1]; rfl), .inr ⟨rfl, .inr ⟨rfl, .inr ⟨rfl, .inl rfl⟩⟩⟩⟩
      refine VO.nil ?_
      refine V.keep 62 [0, 3, 5, 6, 7, 41] [0, 1, 2, 3] (E0 := [(0, .ref bp 3 0 0), (3, .ref b0 4 0 0), (5, .sref b3 4 0 (List.length list0)), (6, .int .i64 n_), (7, .ref b8 4 0 0), (41, .bool ((decide ((r_.Events.length : Int) > (0 : Int))) && y7.1))]) (H0 := [(b8, ⟨4, [.agg [.int .i64 r_.Series, .int .i64 y4.1, .int .i64 y5.1, .int .i64 (IntKind.i64.wrap ((1 : Int) + y6.1))]]⟩), (bp, ⟨3, [encCur ρ0 (bif (decide ((r_.Events.length : Int) > (0 : Int))) then y7.2 else c_2)]⟩), (b3, ⟨4, List.map encRule list0⟩), (b0, ⟨4, [encRecord ρ1 r_]⟩)]) rfl (⟨_, _, rfl, rfl, ⟨_, _, rfl, rfl, ⟨_, _, rfl, rfl, ⟨_, _, rfl, rfl, ⟨_, _, rfl, rfl, ⟨_, _, rfl, rfl, rfl⟩⟩⟩⟩⟩⟩) (⟨_, _, rfl, rfl, ⟨_, _, rfl, rfl, ⟨_, _, rfl, rfl, ⟨_, _, rfl, rfl, rfl⟩⟩⟩⟩) rfl ?_
      refine V.cond rfl (fun hc1 => ?_) (fun hc1 => ?_)
      ·
       replace hm3 := cond_t hc1 hm3
       replace hm3 := bindO hm3; rcases hm3 with ⟨y8, hh7, hm3⟩
       replace hm3 := asrt_some hm3; rcases hm3 with ⟨hh8, hm3⟩
       refine V.regionS [(b0, ⟨4, [encRecord ρ1 r_]⟩)] 62 7 [⟨[(3, none)], false⟩, ⟨[(42, some 0)], false⟩, ⟨[(0, none)], false⟩, ⟨[(3, none)], false⟩, ⟨[(45, some 3)], false⟩, ⟨[(46, some 4)], false⟩, ⟨[(44, some 2), (47, some 5)], true⟩] [(0, none), (3, none), (5, none), (6, none), (7, none), (43, some 1), (48, some 6)] 1 (⟨_, rfl, ⟨_, rfl, ⟨_, rfl, ⟨_, rfl, ⟨_, rfl, ⟨_, rfl, ⟨_, rfl, ⟨rfl, rfl⟩⟩⟩⟩⟩⟩⟩⟩) mixed_orders rfl (by decide +kernel) ?_
       refine WalkP.step (p := ?pv2393) 0 rfl rfl rfl rfl rfl (⟨_, _, rfl, rfl, rfl⟩) ?hv2393 ?rest2393
       case hv2393 =>
        intro E1 H1 hI1
        refine (V1.fieldRef rfl rfl fo_26_3 rfl (ltb rfl) ?_)
        exact rfl
       refine WalkP.step (p := ?pv2394) 1 rfl rfl rfl rfl rfl (⟨_, _, rfl, rfl, rfl⟩) ?hv2394 ?rest2394
       case hv2394 =>
        intro E1 H1 hI1
        obtain ⟨k2395_, hk2395_⟩ := inGet 0 rfl hI1
        refine (V1.loadRef (k := k2395_) rfl rfl tyk_24 rfl hk2395_ rfl rfl rfl (ltb rfl) ?_)
        exact rfl
       refine WalkP.step (p := ?pv2396) 2 rfl rfl rfl rfl rfl (⟨_, _, rfl, rfl, rfl⟩) ?hv2396 ?rest2396
       case hv2396 =>
        intro E1 H1 hI1
        refine (V1.move rfl rfl rfl (ltb rfl) ?_)
        exact rfl
       refine WalkP.step (p := ?pv2397) 3 rfl rfl rfl rfl rfl (⟨_, _, rfl, rfl, rfl⟩) ?hv2397 ?rest2397
       case hv2397 =>
        intro E1 H1 hI1
        refine (V1.fieldRef rfl rfl fo_26_3 rfl (ltb rfl) ?_)
        exact rfl
       refine WalkP.step (p := ?pv2398) 4 rfl rfl rfl rfl rfl (⟨_, _, rfl, rfl, rfl⟩) ?hv2398 ?rest2398
       case hv2398 =>
        intro E1 H1 hI1
        obtain ⟨k2399_, hk2399_⟩ := inGet 0 rfl hI1
        refine (V1.loadRef (k := k2399_) rfl rfl tyk_24 rfl hk2399_ rfl rfl rfl (ltb rfl) ?_)
        exact rfl
       refine WalkP.step (p := ?pv2400) 5 rfl rfl rfl rfl rfl (⟨_, _, rfl, rfl, rfl⟩) ?hv2400 ?rest2400
       case hv2400 =>
        intro E1 H1 hI1
        refine (V1.lenMap rfl rfl rfl rfl rfl rfl isl_24 (ltb rfl) ?_)
        exact rfl
       refine WalkP.nil ?_
       refine NodeS.branch [6] (inCons 3 rfl inNil) rfl rfl rfl ⟨?_, trivial⟩
       ·
        refine ⟨_, _, _, _, rfl, rfl, rfl, (⟨_, _, rfl, rfl, ⟨_, _, rfl, rfl, rfl⟩⟩), fun E1 => ?_⟩
        refine (V1.callM 1 (rn + ρ0 + 1) [] [.ref bp 3 0 0, .int .i64 (r_.Events.length : Int)] (p := (bp, ⟨3, [encCur ρ0 (bif (decide ((r_.Events.length : Int) > (0 : Int))) then y7.2 else c_2)]⟩)) rfl rfl rfl cok_177 rfl rfl ⟨_, _, rfl, .same _, ⟨_, _, rfl, .same _, rfl⟩⟩ bwNil (ok_spec_l1Cur_pick hh7) rfl (.inl rfl) (ltb rfl) ?_)
        rintro _ _ ⟨rfl, rfl⟩
        refine ⟨_, _, rfl, ?_⟩
        refine WalkP.nil ?_
        refine NodeS.fin (inCons 3 rfl inNil) rfl rfl rfl (⟨_, _, rfl, rfl, ⟨_, _, rfl, rfl, ⟨_, _, rfl, rfl, ⟨_, _, rfl, rfl, ⟨_, _, rfl, rfl, ⟨_, _, rfl, rfl, ⟨_, _, rfl, rfl, rfl⟩⟩⟩⟩⟩⟩⟩) ?_
        refine VO.cons rfl (V1.indexI rfl rfl esz_24 rfl rfl hh8 (ltb rfl) ?_)
        refine VO.cons rfl (V1.fieldPin rfl rfl fo_43_0 rfl (ltb rfl) ?_)
        refine VO.cons rfl (V1.loadPin rfl rfl tyk_3 rfl rfl (ltb rfl) ?_)
        refine VO.cons rfl (V1.fieldRef rfl rfl fo_37_1 rfl (ltb rfl) ?_)
        refine VO.cons rfl (V1.storeRef (k := 1) rfl rfl tyk_3 rfl rfl rfl rfl rfl rfl rfl rfl rfl ?_)
        refine VO.nil ?_
        exact ⟨((y8.2, (⟨r_.Series, (r_.Events.getD (Int.toNat y8.1) default).Kind, y5.1, (IntKind.i64.wrap ((1 : Int) + y6.1))⟩ : Rule)), ()), Option.some.inj hm3, Keeps.mk (ks := [0, 1, 2, 3]) rfl ⟨rfl, rfl, rfl, rfl, rfl, trivial⟩ (⟨_, _, rfl, rfl, ⟨_, _, rfl, rfl, ⟨_, _, rfl, rfl, ⟨_, _, rfl, rfl, rfl⟩⟩⟩⟩) rfl⟩
      ·
       replace hm3 := cond_f hc1 hm3
       refine V.skip ?_
       exact ⟨(((bif (decide ((r_.Events.length : Int) > (0 : Int))) then y7.2 else c_2), (⟨r_.Series, y4.1, y5.1, (IntKind.i64.wrap ((1 : Int) + y6.1))⟩ : Rule)), ()), Option.some.inj hm3, Keeps.mk (ks := [1, 0, 2, 3]) rfl ⟨rfl, rfl, rfl, rfl, rfl, trivial⟩ (⟨_, _, rfl, rfl, ⟨_, _, rfl, rfl, ⟨_, _, rfl, rfl, ⟨_, _, rfl, rfl, rfl⟩⟩⟩⟩) rfl⟩
     ·
      rintro ⟨⟨c_3, rule⟩, _⟩ rfl
      try dsimp only at hm2
      refine V.seq ?_
      replace hm2 := bindO hm2; rcases hm2 with ⟨y9, hh9, hm2⟩
      refine V.region ?_
      refine VO.cons rfl (V1.move rfl rfl rfl (ltb rfl) ?_)
      refine VO.cons rfl (V1.loadRefAll (k := 1) rfl rfl tyk_37 rfl rfl rfl rfl rfl (ltb rfl) ?_)
      refine VO.cons rfl (V1.callL (rn + 1) [b3] [.vl (rn + 1) 4 (List.map encRule list0), encRule rule] rfl rfl rfl cok_30 rfl ⟨_, _, rfl, Lend.srMap 2 rfl (fun _ => rfl) (.head _), ⟨_, _, rfl, .same _, rfl⟩⟩ (bwCons (k := 2) rfl bwNil) (ok_spec_PutRule hh9) rfl (⟨(by first | omega | (dsimp only; omega)), by rintro _ _ ⟨b38, rfl, rfl⟩; exact ⟨by simp [PV.no, PV.noL, optS_no, noL_iff, nbeq] <;> omega, by intro b ob h; first | exact optH_no (noL_map (fun _ => by simp [PV.no, PV.noL, noL_iff, nbeq]) _) b ob h | (simp at h; obtain ⟨rfl, rfl⟩ := h; exact noL_map (fun _ => by simp [PV.no, PV.noL, noL_iff, nbeq]) _) | (simp at h; obtain ⟨rfl, rfl⟩ := h; simp [PV.no, PV.noL, optS_no, noL_iff, nbeq] <;> omega)⟩⟩) (ltb rfl) ?_)
      rintro _ _ ⟨b38, rfl, rfl⟩
      refine VO.cons rfl (V1.move rfl rfl rfl (ltb rfl) ?_)
      refine VO.cons rfl (V1.extract rfl rfl rfl rfl (ltb rfl) ?_)
      refine VO.cons rfl (V1.extract rfl rfl rfl rfl (ltb rfl) ?_)
      refine VO.cons rfl (V1.assign rfl rfl rfl (ltb rfl) ?_)
      refine VO.cons rfl (V1.assign rfl rfl rfl (ltb rfl) ?_)
      refine VO.nil ?_
      refine V.keep 62 [0, 3, 5, 6, 8, 9] [0, 1, 3, 4] (E0 := [(0, .ref bp 3 0 0), (3, .ref b0 4 0 0), (5, .sref b3 4 0 (List.length list0)), (6, .int .i64 n_), (8, .sref b38 4 0 (List.length y9.1)), (9, .bool y9.2)]) (H0 := [(b38, ⟨4, List.map encRule y9.1⟩), (bp, ⟨3, [encCur ρ0 c_3]⟩), (b3, ⟨4, List.map encRule list0⟩), (b0, ⟨4, [encRecord ρ1 r_]⟩)]) rfl (⟨_, _, rfl, rfl, ⟨_, _, rfl, rfl, ⟨_, _, rfl, rfl, ⟨_, _, rfl, rfl, ⟨_, _, rfl, rfl, ⟨_, _, rfl, rfl, rfl⟩⟩⟩⟩⟩⟩) (⟨_, _, rfl, rfl, ⟨_, _, rfl, rfl, ⟨_, _, rfl, rfl, ⟨_, _, rfl, rfl, rfl⟩⟩⟩⟩) rfl ?_
      refine V.seq ?_
      refine V.region ?_
      refine VO.cons rfl (V1.move rfl rfl rfl (ltb rfl) ?_)
      refine VO.nil ?_
      refine V.cond rfl (fun hc2 => ?_) (fun hc2 => ?_)
      ·
       replace hm2 := cond_t hc2 hm2
       refine V.region ?_
       refine VO.cons rfl (V1.move rfl rfl rfl (ltb rfl) ?_)
       refine VO.cons rfl (V1.assign rfl rfl rfl (ltb rfl) ?_)
       refine VO.nil ?_
       exact ⟨((y9.1, c_3), b38), Option.some.inj hm2, Keeps.mk (ks := [0, 1, 3]) rfl ⟨rfl, rfl, rfl, rfl, trivial⟩ (⟨_, _, rfl, rfl, ⟨_, _, rfl, rfl, ⟨_, _, rfl, rfl, rfl⟩⟩⟩) rfl⟩
      ·
       replace hm2 := cond_f hc2 hm2
       refine V.skip ?_
       exact ⟨((list0, c_3), b3), Option.some.inj hm2, Keeps.mk (ks := [2, 1, 3]) rfl ⟨rfl, rfl, rfl, rfl, trivial⟩ (⟨_, _, rfl, rfl, ⟨_, _, rfl, rfl, ⟨_, _, rfl, rfl, rfl⟩⟩⟩) rfl⟩
   ·
    rintro ⟨⟨list1, c_1⟩, b4⟩ rfl
    try dsimp only at hm1
    refine V.region ?_
    refine VO.cons rfl (V1.move rfl rfl rfl (ltb rfl) ?_)
    refine VO.cons rfl (V1.int rfl rfl rfl rfl rfl (ltb rfl) ?_)
    refine VO.cons rfl (V1.assign rfl rfl rfl (ltb rfl) ?_)
    refine VO.nil ?_
    exact ⟨(m0, (list1, (IntKind.i64.wrap (n_ - (1 : Int))), c_1), b4), hl1 _ (Option.some.inj hm1).symm, Nat.lt_succ_self _, Keeps.mk (ks := [0, 1, 2]) rfl ⟨rfl, rfl, rfl, rfl, trivial⟩ (⟨_, _, rfl, rfl, ⟨_, _, rfl, rfl, ⟨_, _, rfl, rfl, rfl⟩⟩⟩) rfl⟩
  ·
   replace hm1 := cond_f hc0 hm1
   refine V.exit ?_
   obtain rfl := hr1 _ (Option.some.inj hm1).symm
   exact ⟨((list0, c_0), b3), rfl, Keeps.mk (ks := [0, 1]) rfl ⟨rfl, trivial⟩ (⟨_, _, rfl, rfl, ⟨_, _, rfl, rfl, rfl⟩⟩) rfl⟩
 ·
  rintro ⟨⟨list, c_⟩, b2⟩ rfl
  try dsimp only at hm0
  refine V.seq ?_
  refine V.region ?_
  refine VO.cons rfl (V1.move rfl rfl rfl (ltb rfl) ?_)
  refine VO.cons rfl (V1.assign rfl rfl rfl (ltb rfl) ?_)
  refine VO.nil ?_
  refine V.keep 62 [4] [0, 1] (E0 := [(4, .sref b2 4 0 (List.length list))]) (H0 := [(b2, ⟨4, List.map encRule list⟩), (bp, ⟨3, [encCur ρ0 c_]⟩)]) rfl (⟨_, _, rfl, rfl, rfl⟩) (⟨_, _, rfl, rfl, ⟨_, _, rfl, rfl, rfl⟩⟩) rfl ?_
  refine V.ret ?_
  obtain rfl := Option.some.inj hm0
  exact ⟨_, _, ⟨_, _, rfl, rfl, rfl⟩, List.Sublist.refl _, b2, rfl, rfl⟩

theorem ok_spec_DrawEndsOf {ρ0 rn : Nat} {code : List Int} {r : Record × List Rule} (h : M.spec_DrawEndsOf code = some r) : Does Try.prog 13 [.vl ρ0 1 (List.map encU8 code)] [] rn (fun x H => x = .tup [encRecord rn r.1, .vl rn 4 (List.map encRule r.2)] ∧ H = []) := by
 have hm0 := h; clear h; unfold M.spec_DrawEndsOf at hm0
 try dsimp only at hm0
 refine Does.intro (N := 15) Try.func13 rfl rfl rfl rfl ?_
 intro w0 S0
 refine V.seq ?_
 refine V.region ?_
 refine VO.cons rfl (V1.alloc rfl rfl zk_26 (ltb rfl) ?_)
 intro b0
 refine VO.cons rfl (V1.assign rfl rfl rfl (ltb rfl) ?_)
 refine VO.nil ?_
 refine V.seq ?_
 refine V.region ?_
 refine VO.cons rfl (V1.move rfl rfl rfl (ltb rfl) ?_)
 refine VO.cons rfl (V1.build rfl rfl zk_163 pl_163 rfl rfl (ltb rfl) ?_)
 refine VO.cons rfl (V1.boxN (n := 3) rfl rfl rfl rfl rfl (ltb rfl) ?_)
 intro b1
 refine VO.cons rfl (V1.assign rfl rfl rfl (ltb rfl) ?_)
 refine VO.nil ?_
 refine V.keep 15 [2, 4] [0, 1] (E0 := [(2, .ref b0 4 0 0), (4, .ref b1 3 0 0)]) (H0 := [(b1, ⟨3, [.agg [.vl ρ0 1 (List.map encU8 code), .int .i64 (0 : Int), .int .u64 (0 : Int)]]⟩), (b0, ⟨4, [.agg [.int .i64 (0 : Int), .int .i64 (0 : Int), .int .i64 (0 : Int), .nils]]⟩)]) rfl (⟨_, _, rfl, rfl, ⟨_, _, rfl, rfl, rfl⟩⟩) (⟨_, _, rfl, rfl, ⟨_, _, rfl, rfl, rfl⟩⟩) rfl ?_
 refine V.seq ?_
 replace hm0 := bindO hm0; rcases hm0 with ⟨y0, hh0, hm0⟩
 refine V.region ?_
 refine VO.cons rfl (V1.move rfl rfl rfl (ltb rfl) ?_)
 refine VO.cons rfl (V1.callM 0 (rn + ρ0 + 1) [] [.ref b1 3 0 0, .int .i64 (12 : Int)] (p := (b1, ⟨3, [.agg [.vl ρ0 1 (List.map encU8 code), .int .i64 (0 : Int), .int .u64 (0 : Int)]]⟩)) rfl rfl rfl cok_145 rfl rfl ⟨_, _, rfl, .same _, ⟨_, _, rfl, .same _, rfl⟩⟩ bwNil (ok_spec_l1Cur_record hh0) rfl (.inl rfl) (ltb rfl) ?_)
 rintro _ _ ⟨rfl, rfl⟩
 refine VO.cons rfl (V1.alloc rfl rfl zk_26 (ltb rfl) ?_)
 intro b2
 refine VO.cons rfl (V1.storeRefAll (k := 0) rfl rfl tyk_26 rfl rfl rfl rfl rfl rfl ?_)
 refine VO.nil ?_
 refine V.seq ?_
 replace hm0 := bindO hm0; rcases hm0 with ⟨y1, hh1, hm0⟩
 refine V.regionS [(b2, ⟨4, [encRecord rn y0.1]⟩)] 15 4 [⟨[(5, none)], false⟩, ⟨[(4, none)], false⟩, ⟨[(5, none)], false⟩, ⟨[(12, some 1), (13, some 2)], true⟩] [(2, none), (11, some 0), (14, some 3)] 1 (⟨_, rfl, ⟨_, rfl, ⟨_, rfl, ⟨_, rfl, ⟨rfl, rfl⟩⟩⟩⟩⟩) mixed_orders rfl (by decide +kernel) ?_
 refine WalkP.step (p := ?pv11) 0 rfl rfl rfl rfl rfl (⟨_, _, rfl, rfl, rfl⟩) ?hv11 ?rest11
 case hv11 =>
  intro E1 H1 hI1
  obtain ⟨k12_, hk12_⟩ := inGet 0 rfl hI1
  refine (V1.loadRefAll (k := k12_) rfl rfl tyk_26 rfl hk12_ rfl rfl rfl (ltb rfl) ?_)
  exact rfl
 refine WalkP.step (p := ?pv13) 1 rfl rfl rfl rfl rfl (⟨_, _, rfl, rfl, rfl⟩) ?hv13 ?rest13
 case hv13 =>
  intro E1 H1 hI1
  refine (V1.move rfl rfl rfl (ltb rfl) ?_)
  exact rfl
 refine WalkP.step (p := ?pv14) 2 rfl rfl rfl rfl rfl (⟨_, _, rfl, rfl, rfl⟩) ?hv14 ?rest14
 case hv14 =>
  intro E1 H1 hI1
  obtain ⟨k15_, hk15_⟩ := inGet 0 rfl hI1
  refine (V1.loadRefAll (k := k15_) rfl rfl tyk_26 rfl hk15_ rfl rfl rfl (ltb rfl) ?_)
  exact rfl
 refine WalkP.nil ?_
 refine NodeS.branch [3] (inCons 0 rfl inNil) rfl rfl rfl ⟨?_, trivial⟩
 ·
  refine ⟨_, _, _, _, rfl, rfl, rfl, (⟨_, _, rfl, rfl, ⟨_, _, rfl, rfl, rfl⟩⟩), fun E1 => ?_⟩
  refine (V1.callM 1 (rn + ρ0 + 1) [] [.ref b1 3 0 0, encRecord rn y0.1] (p := (b1, ⟨3, [encCur ρ0 y0.2]⟩)) rfl rfl rfl cok_146 rfl rfl ⟨_, _, rfl, .same _, ⟨_, _, rfl, .same _, rfl⟩⟩ bwNil (ok_spec_l1Cur_suited hh1) rfl (.inl rfl) (ltb rfl) ?_)
  rintro _ _ ⟨b4, rfl, rfl⟩
  refine ⟨_, _, rfl, ?_⟩
  refine WalkP.nil ?_
  refine NodeS.fin (inCons 2 rfl inNil) rfl rfl rfl (⟨_, _, rfl, rfl, ⟨_, _, rfl, rfl, ⟨_, _, rfl, rfl, rfl⟩⟩⟩) ?_
  refine VO.cons rfl (V1.storeRefAll (k := 3) rfl rfl tyk_26 rfl rfl rfl rfl rfl rfl ?_)
  refine VO.cons rfl (V1.assign rfl rfl rfl (ltb rfl) ?_)
  refine VO.nil ?_
  refine V.weakenK (Keeps.freezeG 0 rn [(14, .vl rn 4 (List.map encRule y1.1)), (3, .vl rn 4 (List.map encRule y1.1))] [(b1, ⟨3, [encCur ρ0 y1.2]⟩), (b2, ⟨4, [encRecord rn y0.1]⟩), (b0, ⟨4, [encRecord rn y0.1]⟩)] (f := encRule) (l := y1.1) rfl (fun _ => rfl) ⟨⟨_, rfl, .here⟩, ⟨_, rfl, .here⟩, trivial⟩ ⟨_, _, rfl, rfl, .inl rfl, ⟨_, _, rfl, rfl, .inl rfl, ⟨_, _, rfl, rfl, .inl rfl, rfl⟩⟩⟩ rfl iNil) ?_
  refine V.ret ?_
  obtain rfl := Option.some.inj hm0
  exact ⟨_, [], ⟨_, _, rfl, ⟨_, _, 2, _, rfl, rfl, rfl, rfl, tyk_26, rfl⟩, ⟨_, _, rfl, rfl, rfl⟩⟩, List.nil_sublist _, rfl, rfl⟩

theorem ok_impl_within {rn : Nat} {n : Int} {low : Int} {high : Int} {r : Bool} (h : M.impl_within n low high = some r) : Does Try.prog 171 [.int .i64 n, .int .i64 low, .int .i64 high] [] rn (fun x H => x = .bool r ∧ H = []) := by
 have hm0 := h; clear h; unfold M.impl_within at hm0
 try dsimp only at hm0
 refine Does.intro (N := 15) Try.func171 rfl rfl rfl rfl ?_
 intro w0 S0
 refine V.seq ?_
 refine V.region ?_
 refine VO.cons rfl (V1.assign rfl rfl rfl (ltb rfl) ?_)
 refine VO.nil ?_
 refine V.seq ?_
 refine V.region ?_
 refine VO.cons rfl (V1.move rfl rfl rfl (ltb rfl) ?_)
 refine VO.cons rfl (V1.move rfl rfl rfl (ltb rfl) ?_)
 refine VO.cons rfl (V1.int rfl rfl rfl rfl rfl (ltb rfl) ?_)
 refine VO.cons rfl (V1.move rfl rfl rfl (ltb rfl) ?_)
 apply VO.and (n := 3) rfl rfl rfl rfl rfl rfl (ltb rfl) (.none rfl)
 ·
  intro hg0
  refine VO.step (.some rfl rfl rfl) (V1.move rfl rfl rfl (ltb rfl) ?_)
  refine VO.step (.some rfl rfl rfl) (V1.move rfl rfl rfl (ltb rfl) ?_)
  refine VO.step (.some rfl rfl rfl) (V1.int rfl rfl rfl rfl rfl (ltb rfl) ?_)
  exact VO.nil ⟨rfl, rfl, rfl, rfl, .inr ⟨rfl, .inr ⟨rfl, .inr ⟨rfl, .inr ⟨rfl, .inl rfl⟩⟩⟩⟩⟩
 refine VO.cons rfl (V1.assign rfl rfl rfl (ltb rfl) ?_)
 refine VO.nil ?_
 refine V.ret ?_
 obtain rfl := Option.some.inj hm0
 exact ⟨_, [], ⟨_, _, rfl, rfl, rfl⟩, List.nil_sublist _, rfl, rfl⟩

theorem ok_impl_isId {rn : Nat} {id_ : Int} {r : Bool} (h : M.impl_isId id_ = some r) : Does Try.prog 170 [.int .i64 id_] [] rn (fun x H => x = .bool r ∧ H = []) := by
 have hm0 := h; clear h; unfold M.impl_isId at hm0
 try dsimp only at hm0
 refine Does.intro (N := 5) Try.func170 rfl rfl rfl rfl ?_
 intro w0 S0
 refine V.seq ?_
 refine V.region ?_
 refine VO.cons rfl (V1.assign rfl rfl rfl (ltb rfl) ?_)
 refine VO.nil ?_
 refine V.seq ?_
 replace hm0 := bindO hm0; rcases hm0 with ⟨y0, hh0, hm0⟩
 refine V.region ?_
 refine VO.cons rfl (V1.move rfl rfl rfl (ltb rfl) ?_)
 refine VO.cons rfl (V1.call rfl rfl rfl cok_171 rfl (ok_impl_within hh0) rfl (ltb rfl) ?_)
 rintro _ _ ⟨rfl, rfl⟩
 refine VO.cons rfl (V1.assign rfl rfl rfl (ltb rfl) ?_)
 refine VO.nil ?_
 refine V.ret ?_
 obtain rfl := Option.some.inj hm0
 exact ⟨_, [], ⟨_, _, rfl, rfl, rfl⟩, List.nil_sublist _, rfl, rfl⟩

theorem ok_impl_isDay {rn : Nat} {day : Int} {r : Bool} (h : M.impl_isDay day = some r) : Does Try.prog 183 [.int .i64 day] [] rn (fun x H => x = .bool r ∧ H = []) := by
 have hm0 := h; clear h; unfold M.impl_isDay at hm0
 try dsimp only at hm0
 refine Does.intro (N := 5) Try.func183 rfl rfl rfl rfl ?_
 intro w0 S0
 refine V.seq ?_
 refine V.region ?_
 refine VO.cons rfl (V1.assign rfl rfl rfl (ltb rfl) ?_)
 refine VO.nil ?_
 refine V.seq ?_
 replace hm0 := bindO hm0; rcases hm0 with ⟨y0, hh0, hm0⟩
 refine V.region ?_
 refine VO.cons rfl (V1.move rfl rfl rfl (ltb rfl) ?_)
 refine VO.cons rfl (V1.call rfl rfl rfl cok_171 rfl (ok_impl_within hh0) rfl (ltb rfl) ?_)
 rintro _ _ ⟨rfl, rfl⟩
 refine VO.cons rfl (V1.assign rfl rfl rfl (ltb rfl) ?_)
 refine VO.nil ?_
 refine V.ret ?_
 obtain rfl := Option.some.inj hm0
 exact ⟨_, [], ⟨_, _, rfl, rfl, rfl⟩, List.nil_sublist _, rfl, rfl⟩

theorem ok_impl_IsEvent {rn : Nat} {e_ : Event} {r : Bool} (h : M.impl_IsEvent e_ = some r) : Does Try.prog 270 [encEvent e_] [] rn (fun x H => x = .bool r ∧ H = []) := by
 have hm0 := h; clear h; unfold M.impl_IsEvent at hm0
 try dsimp only at hm0
 refine Does.intro (N := 11) Try.func270 rfl rfl rfl rfl ?_
 intro w0 S0
 refine V.seq ?_
 refine V.region ?_
 refine VO.cons rfl (V1.boxN (n := 2) rfl rfl rfl rfl rfl (ltb rfl) ?_)
 intro b0
 refine VO.cons rfl (V1.assign rfl rfl rfl (ltb rfl) ?_)
 refine VO.nil ?_
 refine V.seq ?_
 replace hm0 := bindO hm0; rcases hm0 with ⟨y0, hh0, hm0⟩
 replace hm0 := bindO hm0; rcases hm0 with ⟨y1, hh1, hm0⟩
 refine V.region ?_
 refine VO.cons rfl (V1.fieldRef rfl rfl fo_43_0 rfl (ltb rfl) ?_)
 refine VO.cons rfl (V1.loadRef (k := 0) rfl rfl tyk_3 rfl rfl rfl rfl rfl (ltb rfl) ?_)
 refine VO.cons rfl (V1.call rfl rfl rfl cok_171 rfl (ok_impl_within hh0) rfl (ltb rfl) ?_)
 rintro _ _ ⟨rfl, rfl⟩
 refine VO.cons rfl (V1.move rfl rfl rfl (ltb rfl) ?_)
 apply VO.and (n := 3) rfl rfl rfl rfl rfl rfl (ltb rfl) (.none rfl)
 ·
  intro hg0
  refine VO.step (.some rfl rfl rfl) (V1.fieldRef rfl rfl fo_43_1 rfl (ltb rfl) ?_)
  refine VO.step (.some rfl rfl rfl) (V1.loadRef (k := 0) rfl rfl tyk_3 rfl rfl rfl rfl rfl (ltb rfl) ?_)
  refine VO.step (.some rfl rfl rfl) (V1.call rfl rfl rfl cok_183 rfl (ok_impl_isDay (cond_t hg0 hh1)) rfl (ltb rfl) ?_)
  rintro _ _ ⟨rfl, rfl⟩
  exact VO.nil ⟨rfl, rfl, rfl, rfl, .inr ⟨rfl, .inr ⟨rfl, .inr ⟨rfl, .inr ⟨rfl, .inl rfl⟩⟩⟩⟩⟩
 refine VO.cons rfl (V1.assign rfl rfl rfl (ltb rfl) ?_)
 refine VO.nil ?_
 refine V.ret ?_
 obtain rfl := Option.some.inj hm0
 exact ⟨_, [], ⟨_, _, rfl, rfl, rfl⟩, List.nil_sublist _, rfl, rfl⟩

theorem ok_impl_IsRecord {ρ0 rn : Nat} {r_ : Record} {r : Bool} (h : M.impl_IsRecord r_ = some r) : Does Try.prog 155 [encRecord ρ0 r_] [] rn (fun x H => x = .bool r ∧ H = []) := by
 have hm0 := h; clear h; unfold M.impl_IsRecord at hm0
 try dsimp only at hm0
 refine Does.intro (N := 62) Try.func155 rfl rfl rfl rfl ?_
 intro w0 S0
 refine V.seq ?_
 refine V.region ?_
 refine VO.cons rfl (V1.boxN (n := 4) rfl rfl rfl rfl rfl (ltb rfl) ?_)
 intro b0
 refine VO.cons rfl (V1.assign rfl rfl rfl (ltb rfl) ?_)
 refine VO.nil ?_
 refine V.seq ?_
 refine V.seq ?_
 replace hm0 := bindO hm0; rcases hm0 with ⟨y0, hh0, hm0⟩
 replace hm0 := bindO hm0; rcases hm0 with ⟨y1, hh1, hm0⟩
 replace hm0 := bindO hm0; rcases hm0 with ⟨y2, hh2, hm0⟩
 refine V.region ?_
 refine VO.cons rfl (V1.fieldRef rfl rfl fo_26_0 rfl (ltb rfl) ?_)
 refine VO.cons rfl (V1.loadRef (k := 0) rfl rfl tyk_3 rfl rfl rfl rfl rfl (ltb rfl) ?_)
 refine VO.cons rfl (V1.call rfl rfl rfl cok_171 rfl (ok_impl_within hh0) rfl (ltb rfl) ?_)
 rintro _ _ ⟨rfl, rfl⟩
 refine VO.cons rfl (V1.not rfl rfl rfl (ltb rfl) ?_)
 refine VO.cons rfl (V1.move rfl rfl rfl (ltb rfl) ?_)
 apply VO.or (n := 4) rfl rfl rfl rfl rfl rfl (ltb rfl) (.none rfl)
 ·
  intro hg0
  refine VO.step (.some rfl rfl rfl) (V1.fieldRef rfl rfl fo_26_1 rfl (ltb rfl) ?_)
  refine VO.step (.some rfl rfl rfl) (V1.loadRef (k := 0) rfl rfl tyk_3 rfl rfl rfl rfl rfl (ltb rfl) ?_)
  refine VO.step (.some rfl rfl rfl) (V1.call rfl rfl rfl cok_170 rfl (ok_impl_isId (cond_f hg0 hh1)) rfl (ltb rfl) ?_)
  rintro _ _ ⟨rfl, rfl⟩
  refine VO.step (.some rfl rfl rfl) (V1.not rfl rfl rfl (ltb rfl) ?_)
  exact VO.nil ⟨rfl, rfl, rfl, rfl, .inr ⟨rfl, .inr ⟨rfl, .inr ⟨rfl, .inr ⟨rfl, .inr ⟨rfl, .inl rfl⟩⟩⟩⟩⟩⟩
 refine VO.cons rfl (V1.move rfl rfl rfl (ltb rfl) ?_)
 apply VO.or (n := 4) rfl rfl rfl rfl rfl rfl (ltb rfl) (.none rfl)
 ·
  intro hg1
  refine VO.step (.some rfl rfl rfl) (V1.fieldRef rfl rfl fo_26_2 rfl (ltb rfl) ?_)
  refine VO.step (.some rfl rfl rfl) (V1.loadRef (k := 0) rfl rfl tyk_3 rfl rfl rfl rfl rfl (ltb rfl) ?_)
  refine VO.step (.some rfl rfl rfl) (V1.call rfl rfl rfl cok_183 rfl (ok_impl_isDay (cond_f hg1 hh2)) rfl (ltb rfl) ?_)
  rintro _ _ ⟨rfl, rfl⟩
  refine VO.step (.some rfl rfl rfl) (V1.not rfl rfl rfl (ltb rfl) ?_)
  exact VO.nil ⟨rfl, rfl, rfl, rfl, .inr ⟨rfl, .inr ⟨rfl, .inr ⟨rfl, .inr ⟨rfl, .inr ⟨rfl, .inl rfl⟩⟩⟩⟩⟩⟩
 refine VO.cons rfl (V1.move rfl rfl rfl (ltb rfl) ?_)
 apply VO.or (n := 4) rfl rfl rfl rfl rfl rfl (ltb rfl) (.none rfl)
 ·
  intro hg2
  refine VO.step (.some rfl rfl rfl) (V1.fieldRef rfl rfl fo_26_3 rfl (ltb rfl) ?_)
  refine VO.step (.some rfl rfl rfl) (V1.loadRef (k := 0) rfl rfl tyk_24 rfl rfl rfl rfl rfl (ltb rfl) ?_)
  refine VO.step (.some rfl rfl rfl) (V1.lenMap rfl rfl rfl rfl rfl rfl isl_24 (ltb rfl) ?_)
  refine VO.step (.some rfl rfl rfl) (V1.int rfl rfl rfl rfl rfl (ltb rfl) ?_)
  exact VO.nil ⟨rfl, rfl, rfl, rfl, .inr ⟨rfl, .inr ⟨rfl, .inr ⟨rfl, .inr ⟨rfl, .inr ⟨rfl, .inl rfl⟩⟩⟩⟩⟩⟩
 refine VO.nil ?_
 refine V.keep 62 [1, 26] [0] (E0 := [(1, .ref b0 4 0 0), (26, .bool ((((!y0) || (!y1)) || (!y2)) || (decide ((r_.Events.length : Int) > (6 : Int)))))]) (H0 := [(b0, ⟨4, [encRecord ρ0 r_]⟩)]) rfl (⟨_, _, rfl, rfl, ⟨_, _, rfl, rfl, rfl⟩⟩) (⟨_, _, rfl, rfl, rfl⟩) rfl ?_
 refine V.cond rfl (fun hc0 => ?_) (fun hc0 => ?_)
 ·
  replace hm0 := cond_t hc0 hm0
  refine V.seq ?_
  refine V.region ?_
  refine VO.cons rfl (V1.assign rfl rfl rfl (ltb rfl) ?_)
  refine VO.nil ?_
  refine V.ret ?_
  obtain rfl := Option.some.inj hm0
  exact ⟨_, [], ⟨_, _, rfl, rfl, rfl⟩, List.nil_sublist _, rfl, rfl⟩
 ·
  replace hm0 := cond_f hc0 hm0
  refine V.skip ?_
  refine V.seq ?_
  refine V.seq ?_
  refine V.region ?_
  refine VO.cons rfl (V1.fieldRef rfl rfl fo_26_3 rfl (ltb rfl) ?_)
  refine VO.cons rfl (V1.loadRef (k := 0) rfl rfl tyk_24 rfl rfl rfl rfl rfl (ltb rfl) ?_)
  refine VO.cons rfl (V1.lenMap rfl rfl rfl rfl rfl rfl isl_24 (ltb rfl) ?_)
  refine VO.cons rfl (V1.move rfl rfl rfl (ltb rfl) ?_)
  refine VO.nil ?_
  replace hm0 := bindO hm0; rcases hm0 with ⟨e0, he1, hm0⟩
  refine V.cutT (D := (Unit) × (Unit)) (fun ⟨_, _⟩ => ⟨62, [], []⟩) (fun ⟨_, _⟩ => (.inl () = e0)) ?_ ?_
  ·
   refine V.block ?_
   refine V.keep 62 [30, 1, 28, 29] [0] (E0 := [(30, .int .i64 (0 : Int)), (1, .ref b0 4 0 0), (28, .vl ρ0 2 (List.map encEvent r_.Events)), (29, .int .i64 (r_.Events.length : Int))]) (H0 := [(b0, ⟨4, [encRecord ρ0 r_]⟩)]) rfl (⟨_, _, rfl, rfl, ⟨_, _, rfl, rfl, ⟨_, _, rfl, rfl, ⟨_, _, rfl, rfl, rfl⟩⟩⟩⟩) (⟨_, _, rfl, rfl, rfl⟩) rfl ?_
   refine V.loopE (D := Nat × (Int) × (Unit)) (fun ⟨n0, v, _⟩ => [(30, .int .i64 v)]) (fun ⟨n0, v, _⟩ => []) (fun ⟨n0, v, _⟩ => loopO (M.impl_IsRecord_l0 r_) n0 v = some e0) (fun ⟨n0, _, _⟩ => n0) (rounds, (0 : Int), ()) rfl he1 ?_
   rintro ⟨n0, v, _⟩ hP0
   obtain ⟨m0, y3, rfl, hm1, hl1, hr1⟩ := loop_head hP0
   unfold M.impl_IsRecord_l0 at hm1; dsimp only at hm1
   show V _ _ _ ⟨62, [(30, .int .i64 v), (1, .ref b0 4 0 0), (28, .vl ρ0 2 (List.map encEvent r_.Events)), (29, .int .i64 (r_.Events.length : Int))], [(b0, ⟨4, [encRecord ρ0 r_]⟩)]⟩
   refine V.seq ?_
   refine V.region ?_
   refine VO.cons rfl (V1.int rfl rfl rfl rfl rfl (ltb rfl) ?_)
   refine VO.nil ?_
   refine V.seq ?_
   refine V.cond rfl (fun hc1 => ?_) (fun hc1 => ?_)
   ·
    replace hm1 := cond_t hc1 hm1
    refine V.skip ?_
    refine V.seq ?_
    refine V.block ?_
    refine V.seq ?_
    replace hm1 := asrt_some hm1; rcases hm1 with ⟨hh3, hm1⟩
    refine V.region ?_
    refine VO.cons rfl (V1.move rfl rfl rfl (ltb rfl) ?_)
    refine VO.cons rfl (V1.indexI rfl rfl esz_24 rfl rfl hh3 (ltb rfl) ?_)
    refine VO.cons rfl (V1.loadPinAll rfl rfl tyk_43 rfl rfl (ltb rfl) ?_)
    refine VO.cons rfl (V1.alloc rfl rfl zk_43 (ltb rfl) ?_)
    intro b1
    refine VO.cons rfl (V1.assign rfl rfl rfl (ltb rfl) ?_)
    refine VO.cons rfl (V1.storeRefAll (k := 0) rfl rfl tyk_43 rfl rfl rfl rfl rfl rfl ?_)
    refine VO.nil ?_
    refine V.keep 62 [1, 3, 4, 28, 29, 30] [0, 1] (E0 := [(1, .ref b0 4 0 0), (3, .int .i64 v), (4, .ref b1 2 0 0), (28, .vl ρ0 2 (List.map encEvent r_.Events)), (29, .int .i64 (r_.Events.length : Int)), (30, .int .i64 v)]) (H0 := [(b1, ⟨2, [encEvent (r_.Events.getD (Int.toNat v) default)]⟩), (b0, ⟨4, [encRecord ρ0 r_]⟩)]) rfl (⟨_, _, rfl, rfl, ⟨_, _, rfl, rfl, ⟨_, _, rfl, rfl, ⟨_, _, rfl, rfl, ⟨_, _, rfl, rfl, ⟨_, _, rfl, rfl, rfl⟩⟩⟩⟩⟩⟩) (⟨_, _, rfl, rfl, ⟨_, _, rfl, rfl, rfl⟩⟩) rfl ?_
    refine V.seq ?_
    replace hm1 := bindO hm1; rcases hm1 with ⟨y4, hh4, hm1⟩
    replace hm1 := asrt_some hm1; rcases hm1 with ⟨hh5, hm1⟩
    refine V.regionM 62 26 [⟨[(4, none)], [], none⟩, ⟨[(35, some 0)], [], none⟩, ⟨[(36, some 0)], [], none⟩, ⟨[(37, some 0)], [], none⟩, ⟨[(4, none)], [(0, false)], none⟩, ⟨[(39, some 0)], [(1, false)], none⟩, ⟨[(1, none)], [(2, false)], none⟩, ⟨[(41, some 0)], [(3, false)], none⟩, ⟨[(40, some 2), (42, some 0)], [(4, false)], none⟩, ⟨[], [], some (false, 38, 43, 5, 0)⟩, ⟨[(44, some 0)], [], none⟩, ⟨[(3, none)], [(0, false)], none⟩, ⟨[(46, some 0)], [(1, false)], none⟩, ⟨[(47, some 0)], [(2, false)], none⟩, ⟨[(1, none)], [(0, true), (3, false)], none⟩, ⟨[(49, some 0)], [(1, true), (4, false)], none⟩, ⟨[(3, none)], [(2, true), (5, false)], none⟩, ⟨[(51, some 0)], [(3, true), (6, false)], none⟩, ⟨[(50, some 2), (52, some 0)], [(4, true), (7, false)], none⟩, ⟨[(53, some 0)], [(5, true), (8, false)], none⟩, ⟨[(54, some 0)], [(6, true), (9, false)], none⟩, ⟨[(4, none)], [(7, true), (10, false)], none⟩, ⟨[(56, some 0)], [(8, true), (11, false)], none⟩, ⟨[(55, some 2), (57, some 0)], [(9, true), (12, false)], none⟩, ⟨[], [(13, false)], some (true, 48, 58, 10, 0)⟩, ⟨[], [], some (false, 45, 59, 14, 0)⟩] [(1, none), (28, none), (29, none), (30, none), (60, some 0)] (⟨_, rfl, ⟨_, rfl, ⟨_, rfl, ⟨_, rfl, ⟨_, rfl, ⟨_, rfl, ⟨_, rfl, ⟨_, rfl, ⟨_, rfl, ⟨_, rfl, ⟨_, rfl, ⟨_, rfl, ⟨_, rfl, ⟨_, rfl, ⟨_, rfl, ⟨_, rfl, ⟨_, rfl, ⟨_, rfl, ⟨_, rfl, ⟨_, rfl, ⟨_, rfl, ⟨_, rfl, ⟨_, rfl, ⟨_, rfl, ⟨_, rfl, ⟨_, rfl, ⟨rfl, rfl⟩⟩⟩⟩⟩⟩⟩⟩⟩⟩⟩⟩⟩⟩⟩⟩⟩⟩⟩⟩⟩⟩⟩⟩⟩⟩⟩) mixed_orders rfl (by decide +kernel) (fun hck6 => ?_)
    refine VP.step (p := ?pv185) rfl rfl rfl (⟨_, _, rfl, rfl, rfl⟩) ?hv185 ?rest185 hck6
    case hv185 =>
     intro E1
     refine (V1.loadRefAll (k := 0) rfl rfl tyk_43 rfl rfl rfl rfl rfl (ltb rfl) ?_)
     exact rfl
    refine VP.step (p := ?pv186) rfl rfl rfl (⟨_, _, rfl, rfl, rfl⟩) ?hv186 ?rest186 hck6
    case hv186 =>
     intro E1
     refine (V1.call rfl rfl rfl cok_270 rfl (ok_impl_IsEvent hh4) rfl (ltb rfl) ?_)
     rintro _ _ ⟨rfl, rfl⟩
     exact rfl
    refine VP.step (p := ?pv187) rfl rfl rfl (⟨_, _, rfl, rfl, rfl⟩) ?hv187 ?rest187 hck6
    case hv187 =>
     intro E1
     refine (V1.not rfl rfl rfl (ltb rfl) ?_)
     exact rfl
    refine VP.step (p := ?pv188) rfl rfl rfl (⟨_, _, rfl, rfl, rfl⟩) ?hv188 ?rest188 hck6
    case hv188 =>
     intro E1
     refine (V1.move rfl rfl rfl (ltb rfl) ?_)
     exact rfl
    refine VP.step (p := ?pv189) rfl rfl rfl (⟨_, _, rfl, rfl, rfl⟩) ?hv189 ?rest189 hck6
    case hv189 =>
     refine ⟨_, rfl, fun hg3 => ?_⟩
     intro E1
     refine (V1.fieldRef rfl rfl fo_43_1 rfl (ltb rfl) ?_)
     exact rfl
    refine VP.step (p := ?pv190) rfl rfl rfl (⟨_, _, rfl, rfl, rfl⟩) ?hv190 ?rest190 hck6
    case hv190 =>
     refine ⟨_, rfl, fun hg3 => ?_⟩
     intro E1
     refine (V1.loadRef (k := 0) rfl rfl tyk_3 rfl rfl rfl rfl rfl (ltb rfl) ?_)
     exact rfl
    refine VP.step (p := ?pv191) rfl rfl rfl (⟨_, _, rfl, rfl, rfl⟩) ?hv191 ?rest191 hck6
    case hv191 =>
     refine ⟨_, rfl, fun hg3 => ?_⟩
     intro E1
     refine (V1.fieldRef rfl rfl fo_26_2 rfl (ltb rfl) ?_)
     exact rfl
    refine VP.step (p := ?pv192) rfl rfl rfl (⟨_, _, rfl, rfl, rfl⟩) ?hv192 ?rest192 hck6
    case hv192 =>
     refine ⟨_, rfl, fun hg3 => ?_⟩
     intro E1
     refine (V1.loadRef (k := 1) rfl rfl tyk_3 rfl rfl rfl rfl rfl (ltb rfl) ?_)
     exact rfl
    refine VP.step (p := ?pv193) rfl rfl rfl (⟨_, _, rfl, rfl, ⟨_, _, rfl, rfl, rfl⟩⟩) ?hv193 ?rest193 hck6
    case hv193 =>
     refine ⟨_, rfl, fun hg3 => ?_⟩
     intro E1
     refine (V1.int rfl rfl rfl rfl rfl (ltb rfl) ?_)
     exact rfl
    refine VP.pickOr rfl rfl rfl rfl rfl rfl (trivial) ?_ hck6
    refine VP.step (p := ?pv194) rfl rfl rfl (⟨_, _, rfl, rfl, rfl⟩) ?hv194 ?rest194 hck6
    case hv194 =>
     intro E1
     refine (V1.move rfl rfl rfl (ltb rfl) ?_)
     exact rfl
    refine VP.step (p := ?pv195) rfl rfl rfl (⟨_, _, rfl, rfl, rfl⟩) ?hv195 ?rest195 hck6
    case hv195 =>
     refine ⟨_, rfl, fun hg4 => ?_⟩
     intro E1
     refine (V1.move rfl rfl rfl (ltb rfl) ?_)
     exact rfl
    refine VP.step (p := ?pv196) rfl rfl rfl (⟨_, _, rfl, rfl, rfl⟩) ?hv196 ?rest196 hck6
    case hv196 =>
     refine ⟨_, rfl, fun hg4 => ?_⟩
     intro E1
     refine (V1.int rfl rfl rfl rfl rfl (ltb rfl) ?_)
     exact rfl
    refine VP.step (p := ?pv197) rfl rfl rfl (⟨_, _, rfl, rfl, rfl⟩) ?hv197 ?rest197 hck6
    case hv197 =>
     refine ⟨_, rfl, fun hg4 => ?_⟩
     intro E1
     refine (V1.move rfl rfl rfl (ltb rfl) ?_)
     exact rfl
    refine VP.step (p := ?pv198) rfl rfl rfl (⟨_, _, rfl, rfl, rfl⟩) ?hv198 ?rest198 hck6
    case hv198 =>
     refine ⟨_, rfl, fun hg5 => ?_⟩
     refine ⟨_, rfl, fun hg4 => ?_⟩
     intro E1
     refine (V1.fieldRef rfl rfl fo_26_3 rfl (ltb rfl) ?_)
     exact rfl
    refine VP.step (p := ?pv199) rfl rfl rfl (⟨_, _, rfl, rfl, rfl⟩) ?hv199 ?rest199 hck6
    case hv199 =>
     refine ⟨_, rfl, fun hg5 => ?_⟩
     refine ⟨_, rfl, fun hg4 => ?_⟩
     intro E1
     refine (V1.loadRef (k := 1) rfl rfl tyk_24 rfl rfl rfl rfl rfl (ltb rfl) ?_)
     exact rfl
    refine VP.step (p := ?pv200) rfl rfl rfl (⟨_, _, rfl, rfl, rfl⟩) ?hv200 ?rest200 hck6
    case hv200 =>
     refine ⟨_, rfl, fun hg5 => ?_⟩
     refine ⟨_, rfl, fun hg4 => ?_⟩
     intro E1
     refine (V1.move rfl rfl rfl (ltb rfl) ?_)
     exact rfl
    refine VP.step (p := ?pv201) rfl rfl rfl (⟨_, _, rfl, rfl, rfl⟩) ?hv201 ?rest201 hck6
    case hv201 =>
     refine ⟨_, rfl, fun hg5 => ?_⟩
     refine ⟨_, rfl, fun hg4 => ?_⟩
     intro E1
     refine (V1.int rfl rfl rfl rfl rfl (ltb rfl) ?_)
     exact rfl
    refine VP.step (p := ?pv202) rfl rfl rfl (⟨_, _, rfl, rfl, ⟨_, _, rfl, rfl, rfl⟩⟩) ?hv202 ?rest202 hck6
    case hv202 =>
     refine ⟨_, rfl, fun hg5 => ?_⟩
     refine ⟨_, rfl, fun hg4 => ?_⟩
     intro E1
     refine (V1.indexI rfl rfl esz_24 rfl rfl (hh5 hg4 hg5) (ltb rfl) ?_)
     exact rfl
    refine VP.step (p := ?pv203) rfl rfl rfl (⟨_, _, rfl, rfl, rfl⟩) ?hv203 ?rest203 hck6
    case hv203 =>
     refine ⟨_, rfl, fun hg5 => ?_⟩
     refine ⟨_, rfl, fun hg4 => ?_⟩
     intro E1
     refine (V1.fieldPin rfl rfl fo_43_0 rfl (ltb rfl) ?_)
     exact rfl
    refine VP.step (p := ?pv204) rfl rfl rfl (⟨_, _, rfl, rfl, rfl⟩) ?hv204 ?rest204 hck6
    case hv204 =>
     refine ⟨_, rfl, fun hg5 => ?_⟩
     refine ⟨_, rfl, fun hg4 => ?_⟩
     intro E1
     refine (V1.loadPin rfl rfl tyk_3 rfl rfl (ltb rfl) ?_)
     exact rfl
    refine VP.step (p := ?pv205) rfl rfl rfl (⟨_, _, rfl, rfl, rfl⟩) ?hv205 ?rest205 hck6
    case hv205 =>
     refine ⟨_, rfl, fun hg5 => ?_⟩
     refine ⟨_, rfl, fun hg4 => ?_⟩
     intro E1
     refine (V1.fieldRef rfl rfl fo_43_0 rfl (ltb rfl) ?_)
     exact rfl
    refine VP.step (p := ?pv206) rfl rfl rfl (⟨_, _, rfl, rfl, rfl⟩) ?hv206 ?rest206 hck6
    case hv206 =>
     refine ⟨_, rfl, fun hg5 => ?_⟩
     refine ⟨_, rfl, fun hg4 => ?_⟩
     intro E1
     refine (V1.loadRef (k := 0) rfl rfl tyk_3 rfl rfl rfl rfl rfl (ltb rfl) ?_)
     exact rfl
    refine VP.step (p := ?pv207) rfl rfl rfl (⟨_, _, rfl, rfl, ⟨_, _, rfl, rfl, rfl⟩⟩) ?hv207 ?rest207 hck6
    case hv207 =>
     refine ⟨_, rfl, fun hg5 => ?_⟩
     refine ⟨_, rfl, fun hg4 => ?_⟩
     intro E1
     refine (V1.int rfl rfl rfl rfl rfl (ltb rfl) ?_)
     exact rfl
    refine VP.pickAnd rfl rfl rfl rfl rfl rfl (⟨_, rfl, fun _ => trivial⟩) ?_ hck6
    refine VP.pickOr rfl rfl rfl rfl rfl rfl (trivial) ?_ hck6
    refine VP.fin rfl (⟨_, _, rfl, rfl, ⟨_, _, rfl, rfl, ⟨_, _, rfl, rfl, ⟨_, _, rfl, rfl, ⟨_, _, rfl, rfl, rfl⟩⟩⟩⟩⟩) ?_
    refine VO.nil ?_
    refine V.cond rfl (fun hc2 => ?_) (fun hc2 => ?_)
    ·
     replace hm1 := cond_t hc2 hm1
     refine V.seq ?_
     refine V.region ?_
     refine VO.cons rfl (V1.assign rfl rfl rfl (ltb rfl) ?_)
     refine VO.nil ?_
     refine V.ret ?_
     obtain rfl := hr1 _ (Option.some.inj hm1).symm
     change some _ = some _ at hm0
     obtain rfl := Option.some.inj hm0
     exact ⟨_, [], ⟨_, _, rfl, rfl, rfl⟩, List.nil_sublist _, rfl, rfl⟩
    ·
     replace hm1 := cond_f hc2 hm1
     refine V.skip ?_
     refine V.region ?_
     refine VO.cons rfl (V1.int rfl rfl rfl rfl rfl (ltb rfl) ?_)
     refine VO.cons rfl (V1.move rfl rfl rfl (ltb rfl) ?_)
     refine VO.nil ?_
     exact ⟨(m0, (IntKind.i64.wrap (v + (1 : Int))), ()), hl1 _ (Option.some.inj hm1).symm, Nat.lt_succ_self _, Keeps.mk (ks := [1]) rfl ⟨rfl, rfl, rfl, rfl, trivial⟩ (⟨_, _, rfl, rfl, rfl⟩) rfl⟩
   ·
    replace hm1 := cond_f hc1 hm1
    refine V.exit ?_
    obtain rfl := hr1 _ (Option.some.inj hm1).symm
    exact ⟨((), ()), rfl, Keeps.mk (ks := []) rfl trivial (rfl) rfl⟩
  ·
   rintro ⟨_, _⟩ rfl
   try dsimp only at hm0
   refine V.seq ?_
   refine V.region ?_
   refine VO.cons rfl (V1.assign rfl rfl rfl (ltb rfl) ?_)
   refine VO.nil ?_
   refine V.ret ?_
   obtain rfl := Option.some.inj hm0
   exact ⟨_, [], ⟨_, _, rfl, rfl, rfl⟩, List.nil_sublist _, rfl, rfl⟩

theorem ok_impl_isAct {rn : Nat} {act : Int} {r : Bool} (h : M.impl_isAct act = some r) : Does Try.prog 172 [.int .i64 act] [] rn (fun x H => x = .bool r ∧ H = []) := by
 have hm0 := h; clear h; unfold M.impl_isAct at hm0
 try dsimp only at hm0
 refine Does.intro (N := 5) Try.func172 rfl rfl rfl rfl ?_
 intro w0 S0
 refine V.seq ?_
 refine V.region ?_
 refine VO.cons rfl (V1.assign rfl rfl rfl (ltb rfl) ?_)
 refine VO.nil ?_
 refine V.seq ?_
 replace hm0 := bindO hm0; rcases hm0 with ⟨y0, hh0, hm0⟩
 refine V.region ?_
 refine VO.cons rfl (V1.move rfl rfl rfl (ltb rfl) ?_)
 refine VO.cons rfl (V1.call rfl rfl rfl cok_171 rfl (ok_impl_within hh0) rfl (ltb rfl) ?_)
 rintro _ _ ⟨rfl, rfl⟩
 refine VO.cons rfl (V1.assign rfl rfl rfl (ltb rfl) ?_)
 refine VO.nil ?_
 refine V.ret ?_
 obtain rfl := Option.some.inj hm0
 exact ⟨_, [], ⟨_, _, rfl, rfl, rfl⟩, List.nil_sublist _, rfl, rfl⟩

theorem ok_impl_IsRule {rn : Nat} {r_ : Rule} {r : Bool} (h : M.impl_IsRule r_ = some r) : Does Try.prog 32 [encRule r_] [] rn (fun x H => x = .bool r ∧ H = []) := by
 have hm0 := h; clear h; unfold M.impl_IsRule at hm0
 try dsimp only at hm0
 refine Does.intro (N := 21) Try.func32 rfl rfl rfl rfl ?_
 intro w0 S0
 refine V.seq ?_
 refine V.region ?_
 refine VO.cons rfl (V1.boxN (n := 4) rfl rfl rfl rfl rfl (ltb rfl) ?_)
 intro b0
 refine VO.cons rfl (V1.assign rfl rfl rfl (ltb rfl) ?_)
 refine VO.nil ?_
 refine V.seq ?_
 replace hm0 := bindO hm0; rcases hm0 with ⟨y0, hh0, hm0⟩
 replace hm0 := bindO hm0; rcases hm0 with ⟨y1, hh1, hm0⟩
 replace hm0 := bindO hm0; rcases hm0 with ⟨y2, hh2, hm0⟩
 replace hm0 := bindO hm0; rcases hm0 with ⟨y3, hh3, hm0⟩
 refine V.region ?_
 refine VO.cons rfl (V1.fieldRef rfl rfl fo_37_0 rfl (ltb rfl) ?_)
 refine VO.cons rfl (V1.loadRef (k := 0) rfl rfl tyk_3 rfl rfl rfl rfl rfl (ltb rfl) ?_)
 refine VO.cons rfl (V1.call rfl rfl rfl cok_170 rfl (ok_impl_isId hh0) rfl (ltb rfl) ?_)
 rintro _ _ ⟨rfl, rfl⟩
 refine VO.cons rfl (V1.move rfl rfl rfl (ltb rfl) ?_)
 apply VO.and (n := 3) rfl rfl rfl rfl rfl rfl (ltb rfl) (.none rfl)
 ·
  intro hg0
  refine VO.step (.some rfl rfl rfl) (V1.fieldRef rfl rfl fo_37_1 rfl (ltb rfl) ?_)
  refine VO.step (.some rfl rfl rfl) (V1.loadRef (k := 0) rfl rfl tyk_3 rfl rfl rfl rfl rfl (ltb rfl) ?_)
  refine VO.step (.some rfl rfl rfl) (V1.call rfl rfl rfl cok_171 rfl (ok_impl_within (cond_t hg0 hh1)) rfl (ltb rfl) ?_)
  rintro _ _ ⟨rfl, rfl⟩
  exact VO.nil ⟨rfl, rfl, rfl, rfl, .inr ⟨rfl, .inr ⟨rfl, .inr ⟨rfl, .inr ⟨rfl, .inl rfl⟩⟩⟩⟩⟩
 refine VO.cons rfl (V1.move rfl rfl rfl (ltb rfl) ?_)
 apply VO.and (n := 3) rfl rfl rfl rfl rfl rfl (ltb rfl) (.none rfl)
 ·
  intro hg1
  refine VO.step (.some rfl rfl rfl) (V1.fieldRef rfl rfl fo_37_2 rfl (ltb rfl) ?_)
  refine VO.step (.some rfl rfl rfl) (V1.loadRef (k := 0) rfl rfl tyk_3 rfl rfl rfl rfl rfl (ltb rfl) ?_)
  refine VO.step (.some rfl rfl rfl) (V1.call rfl rfl rfl cok_171 rfl (ok_impl_within (cond_t hg1 hh2)) rfl (ltb rfl) ?_)
  rintro _ _ ⟨rfl, rfl⟩
  exact VO.nil ⟨rfl, rfl, rfl, rfl, .inr ⟨rfl, .inr ⟨rfl, .inr ⟨rfl, .inr ⟨rfl, .inl rfl⟩⟩⟩⟩⟩
 refine VO.cons rfl (V1.move rfl rfl rfl (ltb rfl) ?_)
 apply VO.and (n := 3) rfl rfl rfl rfl rfl rfl (ltb rfl) (.none rfl)
 ·
  intro hg2
  refine VO.step (.some rfl rfl rfl) (V1.fieldRef rfl rfl fo_37_3 rfl (ltb rfl) ?_)
  refine VO.step (.some rfl rfl rfl) (V1.loadRef (k := 0) rfl rfl tyk_3 rfl rfl rfl rfl rfl (ltb rfl) ?_)
  refine VO.step (.some rfl rfl rfl) (V1.call rfl rfl rfl cok_172 rfl (ok_impl_isAct (cond_t hg2 hh3)) rfl (ltb rfl) ?_)
  rintro _ _ ⟨rfl, rfl⟩
  exact VO.nil ⟨rfl, rfl, rfl, rfl, .inr ⟨rfl, .inr ⟨rfl, .inr ⟨rfl, .inr ⟨rfl, .inl rfl⟩⟩⟩⟩⟩
 refine VO.cons rfl (V1.assign rfl rfl rfl (ltb rfl) ?_)
 refine VO.nil ?_
 refine V.ret ?_
 obtain rfl := Option.some.inj hm0
 exact ⟨_, [], ⟨_, _, rfl, rfl, rfl⟩, List.nil_sublist _, rfl, rfl⟩

theorem ok_cmp_isNaN_int {rn : Nat} {x : Int} {r : Bool} (h : M.cmp_isNaN_int x = some r) : Does Try.prog 280 [.int .i64 x] [] rn (fun x H => x = .bool r ∧ H = []) := by
 have hm0 := h; clear h; unfold M.cmp_isNaN_int at hm0
 try dsimp only at hm0
 refine Does.intro (N := 6) Try.func280 rfl rfl rfl rfl ?_
 intro w0 S0
 refine V.seq ?_
 refine V.region ?_
 refine VO.cons rfl (V1.assign rfl rfl rfl (ltb rfl) ?_)
 refine VO.nil ?_
 refine V.seq ?_
 refine V.region ?_
 refine VO.cons rfl (V1.move rfl rfl rfl (ltb rfl) ?_)
 refine VO.cons rfl (V1.move rfl rfl rfl (ltb rfl) ?_)
 refine VO.cons rfl (V1.int rfl rfl rfl rfl rfl (ltb rfl) ?_)
 refine VO.cons rfl (V1.assign rfl rfl rfl (ltb rfl) ?_)
 refine VO.nil ?_
 refine V.ret ?_
 obtain rfl := Option.some.inj hm0
 exact ⟨_, [], ⟨_, _, rfl, rfl, rfl⟩, List.nil_sublist _, rfl, rfl⟩

theorem ok_cmp_Compare_int {rn : Nat} {x : Int} {y : Int} {r : Int} (h : M.cmp_Compare_int x y = some r) : Does Try.prog 197 [.int .i64 x, .int .i64 y] [] rn (fun x H => x = .int .i64 r ∧ H = []) := by
 have hm0 := h; clear h; unfold M.cmp_Compare_int at hm0
 try dsimp only at hm0
 refine Does.intro (N := 20) Try.func197 rfl rfl rfl rfl ?_
 intro w0 S0
 refine V.seq ?_
 refine V.region ?_
 refine VO.cons rfl (V1.assign rfl rfl rfl (ltb rfl) ?_)
 refine VO.nil ?_
 refine V.seq ?_
 replace hm0 := bindO hm0; rcases hm0 with ⟨y0, hh0, hm0⟩
 refine V.region ?_
 refine VO.cons rfl (V1.move rfl rfl rfl (ltb rfl) ?_)
 refine VO.cons rfl (V1.call rfl rfl rfl cok_280 rfl (ok_cmp_isNaN_int hh0) rfl (ltb rfl) ?_)
 rintro _ _ ⟨rfl, rfl⟩
 refine VO.cons rfl (V1.assign rfl rfl rfl (ltb rfl) ?_)
 refine VO.nil ?_
 refine V.seq ?_
 replace hm0 := bindO hm0; rcases hm0 with ⟨y1, hh1, hm0⟩
 refine V.region ?_
 refine VO.cons rfl (V1.move rfl rfl rfl (ltb rfl) ?_)
 refine VO.cons rfl (V1.call rfl rfl rfl cok_280 rfl (ok_cmp_isNaN_int hh1) rfl (ltb rfl) ?_)
 rintro _ _ ⟨rfl, rfl⟩
 refine VO.cons rfl (V1.assign rfl rfl rfl (ltb rfl) ?_)
 refine VO.nil ?_
 refine V.keep 20 [0, 1, 5, 6] [] (E0 := [(0, .int .i64 x), (1, .int .i64 y), (5, .bool y0), (6, .bool y1)]) (H0 := []) rfl (⟨_, _, rfl, rfl, ⟨_, _, rfl, rfl, ⟨_, _, rfl, rfl, ⟨_, _, rfl, rfl, rfl⟩⟩⟩⟩) (rfl) rfl ?_
 refine V.seq ?_
 refine V.seq ?_
 refine V.region ?_
 refine VO.cons rfl (V1.move rfl rfl rfl (ltb rfl) ?_)
 refine VO.nil ?_
 refine V.cond rfl (fun hc0 => ?_) (fun hc0 => ?_)
 ·
  replace hm0 := cond_t hc0 hm0
  refine V.seq ?_
  refine V.seq ?_
  refine V.region ?_
  refine VO.cons rfl (V1.move rfl rfl rfl (ltb rfl) ?_)
  refine VO.nil ?_
  refine V.keep 20 [12] [] (E0 := [(12, .bool y1)]) (H0 := []) rfl (⟨_, _, rfl, rfl, rfl⟩) (rfl) rfl ?_
  refine V.cond rfl (fun hc1 => ?_) (fun hc1 => ?_)
  ·
   replace hm0 := cond_t hc1 hm0
   refine V.seq ?_
   refine V.region ?_
   refine VO.cons rfl (V1.assign rfl rfl rfl (ltb rfl) ?_)
   refine VO.nil ?_
   refine V.ret ?_
   obtain rfl := Option.some.inj hm0
   exact ⟨_, [], ⟨_, _, rfl, rfl, rfl⟩, List.nil_sublist _, rfl, rfl⟩
  ·
   replace hm0 := cond_f hc1 hm0
   refine V.skip ?_
   refine V.seq ?_
   refine V.region ?_
   refine VO.cons rfl (V1.assign rfl rfl rfl (ltb rfl) ?_)
   refine VO.nil ?_
   refine V.ret ?_
   obtain rfl := Option.some.inj hm0
   exact ⟨_, [], ⟨_, _, rfl, rfl, rfl⟩, List.nil_sublist _, rfl, rfl⟩
 ·
  replace hm0 := cond_f hc0 hm0
  refine V.skip ?_
  refine V.seq ?_
  refine V.seq ?_
  refine V.region ?_
  refine VO.cons rfl (V1.move rfl rfl rfl (ltb rfl) ?_)
  refine VO.nil ?_
  refine V.cond rfl (fun hc2 => ?_) (fun hc2 => ?_)
  ·
   replace hm0 := cond_t hc2 hm0
   refine V.seq ?_
   refine V.region ?_
   refine VO.cons rfl (V1.assign rfl rfl rfl (ltb rfl) ?_)
   refine VO.nil ?_
   refine V.ret ?_
   obtain rfl := Option.some.inj hm0
   exact ⟨_, [], ⟨_, _, rfl, rfl, rfl⟩, List.nil_sublist _, rfl, rfl⟩
  ·
   replace hm0 := cond_f hc2 hm0
   refine V.skip ?_
   refine V.keep 20 [0, 1] [] (E0 := [(0, .int .i64 x), (1, .int .i64 y)]) (H0 := []) rfl (⟨_, _, rfl, rfl, ⟨_, _, rfl, rfl, rfl⟩⟩) (rfl) rfl ?_
   refine V.seq ?_
   refine V.seq ?_
   refine V.region ?_
   refine VO.cons rfl (V1.move rfl rfl rfl (ltb rfl) ?_)
   refine VO.cons rfl (V1.move rfl rfl rfl (ltb rfl) ?_)
   refine VO.cons rfl (V1.int rfl rfl rfl rfl rfl (ltb rfl) ?_)
   refine VO.nil ?_
   refine V.cond rfl (fun hc3 => ?_) (fun hc3 => ?_)
   ·
    replace hm0 := cond_t hc3 hm0
    refine V.seq ?_
    refine V.region ?_
    refine VO.cons rfl (V1.assign rfl rfl rfl (ltb rfl) ?_)
    refine VO.nil ?_
    refine V.ret ?_
    obtain rfl := Option.some.inj hm0
    exact ⟨_, [], ⟨_, _, rfl, rfl, rfl⟩, List.nil_sublist _, rfl, rfl⟩
   ·
    replace hm0 := cond_f hc3 hm0
    refine V.skip ?_
    refine V.seq ?_
    refine V.seq ?_
    refine V.region ?_
    refine VO.cons rfl (V1.move rfl rfl rfl (ltb rfl) ?_)
    refine VO.cons rfl (V1.move rfl rfl rfl (ltb rfl) ?_)
    refine VO.cons rfl (V1.int rfl rfl rfl rfl rfl (ltb rfl) ?_)
    refine VO.nil ?_
    refine V.keep 20 [19] [] (E0 := [(19, .bool (decide (x > y)))]) (H0 := []) rfl (⟨_, _, rfl, rfl, rfl⟩) (rfl) rfl ?_
    refine V.cond rfl (fun hc4 => ?_) (fun hc4 => ?_)
    ·
     replace hm0 := cond_t hc4 hm0
     refine V.seq ?_
     refine V.region ?_
     refine VO.cons rfl (V1.assign rfl rfl rfl (ltb rfl) ?_)
     refine VO.nil ?_
     refine V.ret ?_
     obtain rfl := Option.some.inj hm0
     exact ⟨_, [], ⟨_, _, rfl, rfl, rfl⟩, List.nil_sublist _, rfl, rfl⟩
    ·
     replace hm0 := cond_f hc4 hm0
     refine V.skip ?_
     refine V.seq ?_
     refine V.region ?_
     refine VO.cons rfl (V1.assign rfl rfl rfl (ltb rfl) ?_)
     refine VO.nil ?_
     refine V.ret ?_
     obtain rfl := Option.some.inj hm0
     exact ⟨_, [], ⟨_, _, rfl, rfl, rfl⟩, List.nil_sublist _, rfl, rfl⟩

theorem ok_cmp_Or_int {ρ0 rn : Nat} {vals : List Int} {r : Int} (h : M.cmp_Or_int vals = some r) : Does Try.prog 213 [.vl ρ0 1 (List.map encInt vals)] [] rn (fun x H => x = .int .i64 r ∧ H = []) := by
 have hm0 := h; clear h; unfold M.cmp_Or_int at hm0
 try dsimp only at hm0
 refine Does.intro (N := 18) Try.func213 rfl rfl rfl rfl ?_
 intro w0 S0
 refine V.seq ?_
 refine V.region ?_
 refine VO.cons rfl (V1.assign rfl rfl rfl (ltb rfl) ?_)
 refine VO.nil ?_
 refine V.seq ?_
 refine V.region ?_
 refine VO.cons rfl (V1.assign rfl rfl rfl (ltb rfl) ?_)
 refine VO.nil ?_
 refine V.seq ?_
 refine V.seq ?_
 refine V.region ?_
 refine VO.cons rfl (V1.move rfl rfl rfl (ltb rfl) ?_)
 refine VO.cons rfl (V1.lenMap rfl rfl rfl rfl rfl rfl isl_30 (ltb rfl) ?_)
 refine VO.cons rfl (V1.move rfl rfl rfl (ltb rfl) ?_)
 refine VO.nil ?_
 replace hm0 := bindO hm0; rcases hm0 with ⟨e0, he1, hm0⟩
 refine V.cutT (D := (Unit) × (Unit)) (fun ⟨_, _⟩ => ⟨18, [(3, .int .i64 (0 : Int))], []⟩) (fun ⟨_, _⟩ => (.inl () = e0)) ?_ ?_
 ·
  refine V.block ?_
  refine V.keep 18 [8, 3, 6, 7] [] (E0 := [(8, .int .i64 (0 : Int)), (3, .int .i64 (0 : Int)), (6, .vl ρ0 1 (List.map encInt vals)), (7, .int .i64 (vals.length : Int))]) (H0 := []) rfl (⟨_, _, rfl, rfl, ⟨_, _, rfl, rfl, ⟨_, _, rfl, rfl, ⟨_, _, rfl, rfl, rfl⟩⟩⟩⟩) (rfl) rfl ?_
  refine V.loopE (D := Nat × (Int) × (Unit)) (fun ⟨n0, v, _⟩ => [(8, .int .i64 v)]) (fun ⟨n0, v, _⟩ => []) (fun ⟨n0, v, _⟩ => loopO (M.cmp_Or_int_l0 vals) n0 v = some e0) (fun ⟨n0, _, _⟩ => n0) (rounds, (0 : Int), ()) rfl he1 ?_
  rintro ⟨n0, v, _⟩ hP0
  obtain ⟨m0, y0, rfl, hm1, hl1, hr1⟩ := loop_head hP0
  unfold M.cmp_Or_int_l0 at hm1; dsimp only at hm1
  show V _ _ _ ⟨18, [(8, .int .i64 v), (3, .int .i64 (0 : Int)), (6, .vl ρ0 1 (List.map encInt vals)), (7, .int .i64 (vals.length : Int))], []⟩
  refine V.seq ?_
  refine V.region ?_
  refine VO.cons rfl (V1.int rfl rfl rfl rfl rfl (ltb rfl) ?_)
  refine VO.nil ?_
  refine V.seq ?_
  refine V.cond rfl (fun hc0 => ?_) (fun hc0 => ?_)
  ·
   replace hm1 := cond_t hc0 hm1
   refine V.skip ?_
   refine V.seq ?_
   refine V.block ?_
   refine V.seq ?_
   replace hm1 := asrt_some hm1; rcases hm1 with ⟨hh0, hm1⟩
   refine V.region ?_
   refine VO.cons rfl (V1.indexI rfl rfl esz_30 rfl rfl hh0 (ltb rfl) ?_)
   refine VO.cons rfl (V1.loadPin rfl rfl tyk_3 rfl rfl (ltb rfl) ?_)
   refine VO.cons rfl (V1.assign rfl rfl rfl (ltb rfl) ?_)
   refine VO.nil ?_
   refine V.seq ?_
   refine V.region ?_
   refine VO.cons rfl (V1.move rfl rfl rfl (ltb rfl) ?_)
   refine VO.cons rfl (V1.move rfl rfl rfl (ltb rfl) ?_)
   refine VO.cons rfl (V1.int rfl rfl rfl rfl rfl (ltb rfl) ?_)
   refine VO.nil ?_
   refine V.keep 18 [3, 5, 6, 7, 8, 14] [] (E0 := [(3, .int .i64 (0 : Int)), (5, .int .i64 (vals.getD (Int.toNat v) default)), (6, .vl ρ0 1 (List.map encInt vals)), (7, .int .i64 (vals.length : Int)), (8, .int .i64 v), (14, .bool ((vals.getD (Int.toNat v) default) != (0 : Int)))]) (H0 := []) rfl (⟨_, _, rfl, rfl, ⟨_, _, rfl, rfl, ⟨_, _, rfl, rfl, ⟨_, _, rfl, rfl, ⟨_, _, rfl, rfl, ⟨_, _, rfl, rfl, rfl⟩⟩⟩⟩⟩⟩) (rfl) rfl ?_
   refine V.cond rfl (fun hc1 => ?_) (fun hc1 => ?_)
   ·
    replace hm1 := cond_t hc1 hm1
    refine V.seq ?_
    refine V.region ?_
    refine VO.cons rfl (V1.move rfl rfl rfl (ltb rfl) ?_)
    refine VO.cons rfl (V1.assign rfl rfl rfl (ltb rfl) ?_)
    refine VO.nil ?_
    refine V.ret ?_
    obtain rfl := hr1 _ (Option.some.inj hm1).symm
    change some _ = some _ at hm0
    obtain rfl := Option.some.inj hm0
    exact ⟨_, [], ⟨_, _, rfl, rfl, rfl⟩, List.nil_sublist _, rfl, rfl⟩
   ·
    replace hm1 := cond_f hc1 hm1
    refine V.skip ?_
    refine V.region ?_
    refine VO.cons rfl (V1.int rfl rfl rfl rfl rfl (ltb rfl) ?_)
    refine VO.cons rfl (V1.move rfl rfl rfl (ltb rfl) ?_)
    refine VO.nil ?_
    exact ⟨(m0, (IntKind.i64.wrap (v + (1 : Int))), ()), hl1 _ (Option.some.inj hm1).symm, Nat.lt_succ_self _, Keeps.mk (ks := []) rfl ⟨rfl, rfl, rfl, rfl, trivial⟩ (rfl) rfl⟩
  ·
   replace hm1 := cond_f hc0 hm1
   refine V.exit ?_
   obtain rfl := hr1 _ (Option.some.inj hm1).symm
   exact ⟨((), ()), rfl, Keeps.mk (ks := []) rfl ⟨rfl, trivial⟩ (rfl) rfl⟩
 ·
  rintro ⟨_, _⟩ rfl
  try dsimp only at hm0
  refine V.seq ?_
  refine V.region ?_
  refine VO.cons rfl (V1.move rfl rfl rfl (ltb rfl) ?_)
  refine VO.cons rfl (V1.assign rfl rfl rfl (ltb rfl) ?_)
  refine VO.nil ?_
  refine V.ret ?_
  obtain rfl := Option.some.inj hm0
  exact ⟨_, [], ⟨_, _, rfl, rfl, rfl⟩, List.nil_sublist _, rfl, rfl⟩

theorem ok_impl_compareRules {rn : Nat} {a : Rule} {b_ : Rule} {r : Int} (h : M.impl_compareRules a b_ = some r) : Does Try.prog 165 [encRule a, encRule b_] [] rn (fun x H => x = .int .i64 r ∧ H = []) := by
 have hm0 := h; clear h; unfold M.impl_compareRules at hm0
 try dsimp only at hm0
 refine Does.intro (N := 17) Try.func165 rfl rfl rfl rfl ?_
 intro w0 S0
 refine V.seq ?_
 refine V.region ?_
 refine VO.cons rfl (V1.boxN (n := 4) rfl rfl rfl rfl rfl (ltb rfl) ?_)
 intro b0
 refine VO.cons rfl (V1.boxN (n := 4) rfl rfl rfl rfl rfl (ltb rfl) ?_)
 intro b1
 refine VO.cons rfl (V1.assign rfl rfl rfl (ltb rfl) ?_)
 refine VO.nil ?_
 refine V.seq ?_
 replace hm0 := bindO hm0; rcases hm0 with ⟨y0, hh0, hm0⟩
 replace hm0 := bindO hm0; rcases hm0 with ⟨y1, hh1, hm0⟩
 replace hm0 := bindO hm0; rcases hm0 with ⟨y2, hh2, hm0⟩
 refine V.regionS [(b1, ⟨4, [encRule b_]⟩), (b0, ⟨4, [encRule a]⟩)] 17 9 [⟨[(2, none)], false⟩, ⟨[(5, some 0)], false⟩, ⟨[(3, none)], false⟩, ⟨[(7, some 2)], false⟩, ⟨[(6, some 1), (8, some 3)], false⟩, ⟨[(2, none)], false⟩, ⟨[(10, some 5)], false⟩, ⟨[(3, none)], false⟩, ⟨[(12, some 7)], false⟩] [(9, some 4), (11, some 6), (13, some 8)] 0 (⟨_, rfl, ⟨_, rfl, ⟨_, rfl, ⟨_, rfl, ⟨_, rfl, ⟨_, rfl, ⟨_, rfl, ⟨_, rfl, ⟨_, rfl, ⟨rfl, rfl⟩⟩⟩⟩⟩⟩⟩⟩⟩⟩) mixed_orders rfl (by decide +kernel) ?_
 refine WalkP.step (p := ?pv27) 0 rfl rfl rfl rfl rfl (⟨_, _, rfl, rfl, rfl⟩) ?hv27 ?rest27
 case hv27 =>
  intro E1 H1 hI1
  refine (V1.fieldRef rfl rfl fo_37_0 rfl (ltb rfl) ?_)
  exact rfl
 refine WalkP.step (p := ?pv28) 1 rfl rfl rfl rfl rfl (⟨_, _, rfl, rfl, rfl⟩) ?hv28 ?rest28
 case hv28 =>
  intro E1 H1 hI1
  obtain ⟨k29_, hk29_⟩ := inGet 1 rfl hI1
  refine (V1.loadRef (k := k29_) rfl rfl tyk_3 rfl hk29_ rfl rfl rfl (ltb rfl) ?_)
  exact rfl
 refine WalkP.step (p := ?pv30) 2 rfl rfl rfl rfl rfl (⟨_, _, rfl, rfl, rfl⟩) ?hv30 ?rest30
 case hv30 =>
  intro E1 H1 hI1
  refine (V1.fieldRef rfl rfl fo_37_0 rfl (ltb rfl) ?_)
  exact rfl
 refine WalkP.step (p := ?pv31) 3 rfl rfl rfl rfl rfl (⟨_, _, rfl, rfl, rfl⟩) ?hv31 ?rest31
 case hv31 =>
  intro E1 H1 hI1
  obtain ⟨k32_, hk32_⟩ := inGet 0 rfl hI1
  refine (V1.loadRef (k := k32_) rfl rfl tyk_3 rfl hk32_ rfl rfl rfl (ltb rfl) ?_)
  exact rfl
 refine WalkP.step (p := ?pv33) 4 rfl rfl rfl rfl rfl (⟨_, _, rfl, rfl, ⟨_, _, rfl, rfl, rfl⟩⟩) ?hv33 ?rest33
 case hv33 =>
  intro E1 H1 hI1
  refine (V1.call rfl rfl rfl cok_197 rfl (ok_cmp_Compare_int hh0) rfl (ltb rfl) ?_)
  rintro _ _ ⟨rfl, rfl⟩
  exact rfl
 refine WalkP.step (p := ?pv34) 5 rfl rfl rfl rfl rfl (⟨_, _, rfl, rfl, rfl⟩) ?hv34 ?rest34
 case hv34 =>
  intro E1 H1 hI1
  refine (V1.fieldRef rfl rfl fo_37_1 rfl (ltb rfl) ?_)
  exact rfl
 refine WalkP.step (p := ?pv35) 6 rfl rfl rfl rfl rfl (⟨_, _, rfl, rfl, rfl⟩) ?hv35 ?rest35
 case hv35 =>
  intro E1 H1 hI1
  obtain ⟨k36_, hk36_⟩ := inGet 1 rfl hI1
  refine (V1.loadRef (k := k36_) rfl rfl tyk_3 rfl hk36_ rfl rfl rfl (ltb rfl) ?_)
  exact rfl
 refine WalkP.step (p := ?pv37) 7 rfl rfl rfl rfl rfl (⟨_, _, rfl, rfl, rfl⟩) ?hv37 ?rest37
 case hv37 =>
  intro E1 H1 hI1
  refine (V1.fieldRef rfl rfl fo_37_1 rfl (ltb rfl) ?_)
  exact rfl
 refine WalkP.step (p := ?pv38) 8 rfl rfl rfl rfl rfl (⟨_, _, rfl, rfl, rfl⟩) ?hv38 ?rest38
 case hv38 =>
  intro E1 H1 hI1
  obtain ⟨k39_, hk39_⟩ := inGet 0 rfl hI1
  refine (V1.loadRef (k := k39_) rfl rfl tyk_3 rfl hk39_ rfl rfl rfl (ltb rfl) ?_)
  exact rfl
 refine WalkP.nil ?_
 refine NodeS.fin (inCons 0 rfl (inCons 1 rfl inNil)) rfl rfl rfl (⟨_, _, rfl, rfl, ⟨_, _, rfl, rfl, ⟨_, _, rfl, rfl, rfl⟩⟩⟩) ?_
 refine VO.cons rfl (V1.call rfl rfl rfl cok_197 rfl (ok_cmp_Compare_int hh1) rfl (ltb rfl) ?_)
 rintro _ _ ⟨rfl, rfl⟩
 refine VO.cons rfl (V1.buildSliceT (f := encInt) ([y0, y1] : List Int) rfl rfl esz_30 zk_3 rfl rfl rfl rfl rfl rfl rfl (ltb rfl) ?_)
 intro b3
 refine VO.cons rfl (V1.callL (rn + 1) [b3] [.vl (rn + 1) 1 (List.map encInt ([y0, y1] : List Int))] rfl rfl rfl cok_213 rfl ⟨_, _, rfl, Lend.srMap 0 rfl (fun _ => rfl) (.head _), rfl⟩ (bwCons (k := 0) rfl bwNil) (ok_cmp_Or_int hh2) rfl (⟨(by first | omega | (dsimp only; omega)), by rintro _ _ ⟨rfl, rfl⟩; exact ⟨rfl, by simp⟩⟩) (ltb rfl) ?_)
 rintro _ _ ⟨rfl, rfl⟩
 refine VO.cons rfl (V1.assign rfl rfl rfl (ltb rfl) ?_)
 refine VO.nil ?_
 refine V.ret ?_
 obtain rfl := Option.some.inj hm0
 exact ⟨_, [], ⟨_, _, rfl, rfl, rfl⟩, List.nil_sublist _, rfl, rfl⟩

theorem ok_impl_IsSchedule {ρ0 rn : Nat} {list : List Rule} {r : Bool} (h : M.impl_IsSchedule list = some r) : Does Try.prog 37 [.vl ρ0 4 (List.map encRule list)] [] rn (fun x H => x = .bool r ∧ H = []) := by
 have hm0 := h; clear h; unfold M.impl_IsSchedule at hm0
 try dsimp only at hm0
 refine Does.intro (N := 33) Try.func37 rfl rfl rfl rfl ?_
 intro w0 S0
 refine V.seq ?_
 refine V.region ?_
 refine VO.cons rfl (V1.assign rfl rfl rfl (ltb rfl) ?_)
 refine VO.nil ?_
 refine V.seq ?_
 refine V.seq ?_
 refine V.region ?_
 refine VO.cons rfl (V1.move rfl rfl rfl (ltb rfl) ?_)
 refine VO.cons rfl (V1.lenMap rfl rfl rfl rfl rfl rfl isl_27 (ltb rfl) ?_)
 refine VO.cons rfl (V1.move rfl rfl rfl (ltb rfl) ?_)
 refine VO.nil ?_
 replace hm0 := bindO hm0; rcases hm0 with ⟨e0, he1, hm0⟩
 refine V.cutT (D := (Unit) × (Unit)) (fun ⟨_, _⟩ => ⟨33, [(0, .vl ρ0 4 (List.map encRule list))], []⟩) (fun ⟨_, _⟩ => (.inl () = e0)) ?_ ?_
 ·
  refine V.block ?_
  refine V.keep 33 [7, 0, 5, 6] [] (E0 := [(7, .int .i64 (0 : Int)), (0, .vl ρ0 4 (List.map encRule list)), (5, .vl ρ0 4 (List.map encRule list)), (6, .int .i64 (list.length : Int))]) (H0 := []) rfl (⟨_, _, rfl, rfl, ⟨_, _, rfl, rfl, ⟨_, _, rfl, rfl, ⟨_, _, rfl, rfl, rfl⟩⟩⟩⟩) (rfl) rfl ?_
  refine V.loopE (D := Nat × (Int) × (Unit)) (fun ⟨n0, v, _⟩ => [(7, .int .i64 v)]) (fun ⟨n0, v, _⟩ => []) (fun ⟨n0, v, _⟩ => loopO (M.impl_IsSchedule_l0 list) n0 v = some e0) (fun ⟨n0, _, _⟩ => n0) (rounds, (0 : Int), ()) rfl he1 ?_
  rintro ⟨n0, v, _⟩ hP0
  obtain ⟨m0, y0, rfl, hm1, hl1, hr1⟩ := loop_head hP0
  unfold M.impl_IsSchedule_l0 at hm1; dsimp only at hm1
  show V _ _ _ ⟨33, [(7, .int .i64 v), (0, .vl ρ0 4 (List.map encRule list)), (5, .vl ρ0 4 (List.map encRule list)), (6, .int .i64 (list.length : Int))], []⟩
  refine V.seq ?_
  refine V.region ?_
  refine VO.cons rfl (V1.int rfl rfl rfl rfl rfl (ltb rfl) ?_)
  refine VO.nil ?_
  refine V.seq ?_
  refine V.cond rfl (fun hc0 => ?_) (fun hc0 => ?_)
  ·
   replace hm1 := cond_t hc0 hm1
   refine V.skip ?_
   refine V.seq ?_
   refine V.block ?_
   refine V.seq ?_
   replace hm1 := asrt_some hm1; rcases hm1 with ⟨hh0, hm1⟩
   refine V.region ?_
   refine VO.cons rfl (V1.move rfl rfl rfl (ltb rfl) ?_)
   refine VO.cons rfl (V1.indexI rfl rfl esz_27 rfl rfl hh0 (ltb rfl) ?_)
   refine VO.cons rfl (V1.loadPinAll rfl rfl tyk_37 rfl rfl (ltb rfl) ?_)
   refine VO.cons rfl (V1.alloc rfl rfl zk_37 (ltb rfl) ?_)
   intro b0
   refine VO.cons rfl (V1.assign rfl rfl rfl (ltb rfl) ?_)
   refine VO.cons rfl (V1.storeRefAll (k := 0) rfl rfl tyk_37 rfl rfl rfl rfl rfl rfl ?_)
   refine VO.nil ?_
   refine V.keep 33 [0, 3, 4, 5, 6, 7] [0] (E0 := [(0, .vl ρ0 4 (List.map encRule list)), (3, .int .i64 v), (4, .ref b0 4 0 0), (5, .vl ρ0 4 (List.map encRule list)), (6, .int .i64 (list.length : Int)), (7, .int .i64 v)]) (H0 := [(b0, ⟨4, [encRule (list.getD (Int.toNat v) default)]⟩)]) rfl (⟨_, _, rfl, rfl, ⟨_, _, rfl, rfl, ⟨_, _, rfl, rfl, ⟨_, _, rfl, rfl, ⟨_, _, rfl, rfl, ⟨_, _, rfl, rfl, rfl⟩⟩⟩⟩⟩⟩) (⟨_, _, rfl, rfl, rfl⟩) rfl ?_
   refine V.seq ?_
   replace hm1 := bindO hm1; rcases hm1 with ⟨y1, hh1, hm1⟩
   replace hm1 := asrt_some hm1; rcases hm1 with ⟨hh2, hm1⟩
   replace hm1 := bindO hm1; rcases hm1 with ⟨y2, hh3, hm1⟩
   refine V.regionM 33 17 [⟨[(4, none)], [], none⟩, ⟨[(12, some 0)], [], none⟩, ⟨[(13, some 0)], [], none⟩, ⟨[(14, some 0)], [], none⟩, ⟨[(3, none)], [(0, false)], none⟩, ⟨[(16, some 0)], [(1, false)], none⟩, ⟨[(17, some 0)], [(2, false)], none⟩, ⟨[(0, none)], [(0, true), (3, false)], none⟩, ⟨[(3, none)], [(1, true), (4, false)], none⟩, ⟨[(20, some 0)], [(2, true), (5, false)], none⟩, ⟨[(19, some 2), (21, some 0)], [(3, true), (6, false)], none⟩, ⟨[(22, some 0)], [(4, true), (7, false)], none⟩, ⟨[(4, none)], [(5, true), (8, false)], none⟩, ⟨[(23, some 1), (24, some 0)], [(6, true), (9, false)], none⟩, ⟨[(25, some 0)], [(7, true), (10, false)], none⟩, ⟨[], [(11, false)], some (true, 18, 26, 8, 0)⟩, ⟨[], [], some (false, 15, 27, 12, 0)⟩] [(0, none), (5, none), (6, none), (7, none), (28, some 0)] (⟨_, rfl, ⟨_, rfl, ⟨_, rfl, ⟨_, rfl, ⟨_, rfl, ⟨_, rfl, ⟨_, rfl, ⟨_, rfl, ⟨_, rfl, ⟨_, rfl, ⟨_, rfl, ⟨_, rfl, ⟨_, rfl, ⟨_, rfl, ⟨_, rfl, ⟨_, rfl, ⟨_, rfl, ⟨rfl, rfl⟩⟩⟩⟩⟩⟩⟩⟩⟩⟩⟩⟩⟩⟩⟩⟩⟩⟩) mixed_orders rfl (by decide +kernel) (fun hck4 => ?_)
   refine VP.step (p := ?pv121) rfl rfl rfl (⟨_, _, rfl, rfl, rfl⟩) ?hv121 ?rest121 hck4
   case hv121 =>
    intro E1
    refine (V1.loadRefAll (k := 0) rfl rfl tyk_37 rfl rfl rfl rfl rfl (ltb rfl) ?_)
    exact rfl
   refine VP.step (p := ?pv122) rfl rfl rfl (⟨_, _, rfl, rfl, rfl⟩) ?hv122 ?rest122 hck4
   case hv122 =>
    intro E1
    refine (V1.call rfl rfl rfl cok_32 rfl (ok_impl_IsRule hh1) rfl (ltb rfl) ?_)
    rintro _ _ ⟨rfl, rfl⟩
    exact rfl
   refine VP.step (p := ?pv123) rfl rfl rfl (⟨_, _, rfl, rfl, rfl⟩) ?hv123 ?rest123 hck4
   case hv123 =>
    intro E1
    refine (V1.not rfl rfl rfl (ltb rfl) ?_)
    exact rfl
   refine VP.step (p := ?pv124) rfl rfl rfl (⟨_, _, rfl, rfl, rfl⟩) ?hv124 ?rest124 hck4
   case hv124 =>
    intro E1
    refine (V1.move rfl rfl rfl (ltb rfl) ?_)
    exact rfl
   refine VP.step (p := ?pv125) rfl rfl rfl (⟨_, _, rfl, rfl, rfl⟩) ?hv125 ?rest125 hck4
   case hv125 =>
    refine ⟨_, rfl, fun hg0 => ?_⟩
    intro E1
    refine (V1.move rfl rfl rfl (ltb rfl) ?_)
    exact rfl
   refine VP.step (p := ?pv126) rfl rfl rfl (⟨_, _, rfl, rfl, rfl⟩) ?hv126 ?rest126 hck4
   case hv126 =>
    refine ⟨_, rfl, fun hg0 => ?_⟩
    intro E1
    refine (V1.int rfl rfl rfl rfl rfl (ltb rfl) ?_)
    exact rfl
   refine VP.step (p := ?pv127) rfl rfl rfl (⟨_, _, rfl, rfl, rfl⟩) ?hv127 ?rest127 hck4
   case hv127 =>
    refine ⟨_, rfl, fun hg0 => ?_⟩
    intro E1
    refine (V1.move rfl rfl rfl (ltb rfl) ?_)
    exact rfl
   refine VP.step (p := ?pv128) rfl rfl rfl (⟨_, _, rfl, rfl, rfl⟩) ?hv128 ?rest128 hck4
   case hv128 =>
    refine ⟨_, rfl, fun hg1 => ?_⟩
    refine ⟨_, rfl, fun hg0 => ?_⟩
    intro E1
    refine (V1.move rfl rfl rfl (ltb rfl) ?_)
    exact rfl
   refine VP.step (p := ?pv129) rfl rfl rfl (⟨_, _, rfl, rfl, rfl⟩) ?hv129 ?rest129 hck4
   case hv129 =>
    refine ⟨_, rfl, fun hg1 => ?_⟩
    refine ⟨_, rfl, fun hg0 => ?_⟩
    intro E1
    refine (V1.move rfl rfl rfl (ltb rfl) ?_)
    exact rfl
   refine VP.step (p := ?pv130) rfl rfl rfl (⟨_, _, rfl, rfl, rfl⟩) ?hv130 ?rest130 hck4
   case hv130 =>
    refine ⟨_, rfl, fun hg1 => ?_⟩
    refine ⟨_, rfl, fun hg0 => ?_⟩
    intro E1
    refine (V1.int rfl rfl rfl rfl rfl (ltb rfl) ?_)
    exact rfl
   refine VP.step (p := ?pv131) rfl rfl rfl (⟨_, _, rfl, rfl, ⟨_, _, rfl, rfl, rfl⟩⟩) ?hv131 ?rest131 hck4
   case hv131 =>
    refine ⟨_, rfl, fun hg1 => ?_⟩
    refine ⟨_, rfl, fun hg0 => ?_⟩
    intro E1
    refine (V1.indexI rfl rfl esz_27 rfl rfl (hh2 hg0 hg1) (ltb rfl) ?_)
    exact rfl
   refine VP.step (p := ?pv132) rfl rfl rfl (⟨_, _, rfl, rfl, rfl⟩) ?hv132 ?rest132 hck4
   case hv132 =>
    refine ⟨_, rfl, fun hg1 => ?_⟩
    refine ⟨_, rfl, fun hg0 => ?_⟩
    intro E1
    refine (V1.loadPinAll rfl rfl tyk_37 rfl rfl (ltb rfl) ?_)
    exact rfl
   refine VP.step (p := ?pv133) rfl rfl rfl (⟨_, _, rfl, rfl, rfl⟩) ?hv133 ?rest133 hck4
   case hv133 =>
    refine ⟨_, rfl, fun hg1 => ?_⟩
    refine ⟨_, rfl, fun hg0 => ?_⟩
    intro E1
    refine (V1.loadRefAll (k := 0) rfl rfl tyk_37 rfl rfl rfl rfl rfl (ltb rfl) ?_)
    exact rfl
   refine VP.step (p := ?pv134) rfl rfl rfl (⟨_, _, rfl, rfl, ⟨_, _, rfl, rfl, rfl⟩⟩) ?hv134 ?rest134 hck4
   case hv134 =>
    refine ⟨_, rfl, fun hg1 => ?_⟩
    refine ⟨_, rfl, fun hg0 => ?_⟩
    intro E1
    refine (V1.call rfl rfl rfl cok_165 rfl (ok_impl_compareRules (cond_t hg1 (cond_f hg0 hh3))) rfl (ltb rfl) ?_)
    rintro _ _ ⟨rfl, rfl⟩
    exact rfl
   refine VP.step (p := ?pv135) rfl rfl rfl (⟨_, _, rfl, rfl, rfl⟩) ?hv135 ?rest135 hck4
   case hv135 =>
    refine ⟨_, rfl, fun hg1 => ?_⟩
    refine ⟨_, rfl, fun hg0 => ?_⟩
    intro E1
    refine (V1.int rfl rfl rfl rfl rfl (ltb rfl) ?_)
    exact rfl
   refine VP.pickAnd rfl rfl rfl rfl rfl rfl (⟨_, rfl, fun _ => trivial⟩) ?_ hck4
   refine VP.pickOr rfl rfl rfl rfl rfl rfl (trivial) ?_ hck4
   refine VP.fin rfl (⟨_, _, rfl, rfl, ⟨_, _, rfl, rfl, ⟨_, _, rfl, rfl, ⟨_, _, rfl, rfl, ⟨_, _, rfl, rfl, rfl⟩⟩⟩⟩⟩) ?_
   refine VO.nil ?_
   refine V.cond rfl (fun hc1 => ?_) (fun hc1 => ?_)
   ·
    replace hm1 := cond_t hc1 hm1
    refine V.seq ?_
    refine V.region ?_
    refine VO.cons rfl (V1.assign rfl rfl rfl (ltb rfl) ?_)
    refine VO.nil ?_
    refine V.ret ?_
    obtain rfl := hr1 _ (Option.some.inj hm1).symm
    change some _ = some _ at hm0
    obtain rfl := Option.some.inj hm0
    exact ⟨_, [], ⟨_, _, rfl, rfl, rfl⟩, List.nil_sublist _, rfl, rfl⟩
   ·
    replace hm1 := cond_f hc1 hm1
    refine V.skip ?_
    refine V.region ?_
    refine VO.cons rfl (V1.int rfl rfl rfl rfl rfl (ltb rfl) ?_)
    refine VO.cons rfl (V1.move rfl rfl rfl (ltb rfl) ?_)
    refine VO.nil ?_
    exact ⟨(m0, (IntKind.i64.wrap (v + (1 : Int))), ()), hl1 _ (Option.some.inj hm1).symm, Nat.lt_succ_self _, Keeps.mk (ks := []) rfl ⟨rfl, rfl, rfl, rfl, trivial⟩ (rfl) rfl⟩
  ·
   replace hm1 := cond_f hc0 hm1
   refine V.exit ?_
   obtain rfl := hr1 _ (Option.some.inj hm1).symm
   exact ⟨((), ()), rfl, Keeps.mk (ks := []) rfl ⟨rfl, trivial⟩ (rfl) rfl⟩
 ·
  rintro ⟨_, _⟩ rfl
  try dsimp only at hm0
  refine V.seq ?_
  refine V.region ?_
  refine VO.cons rfl (V1.move rfl rfl rfl (ltb rfl) ?_)
  refine VO.cons rfl (V1.lenMap rfl rfl rfl rfl rfl rfl isl_27 (ltb rfl) ?_)
  refine VO.cons rfl (V1.int rfl rfl rfl rfl rfl (ltb rfl) ?_)
  refine VO.cons rfl (V1.assign rfl rfl rfl (ltb rfl) ?_)
  refine VO.nil ?_
  refine V.ret ?_
  obtain rfl := Option.some.inj hm0
  exact ⟨_, [], ⟨_, _, rfl, rfl, rfl⟩, List.nil_sublist _, rfl, rfl⟩

theorem ok_impl_areBoth {ρ0 ρ1 rn : Nat} {r_ : Record} {schedule : List Rule} {r : Bool} (h : M.impl_areBoth r_ schedule = some r) : Does Try.prog 147 [encRecord ρ0 r_, .vl ρ1 4 (List.map encRule schedule)] [] rn (fun x H => x = .bool r ∧ H = []) := by
 have hm0 := h; clear h; unfold M.impl_areBoth at hm0
 try dsimp only at hm0
 refine Does.intro (N := 11) Try.func147 rfl rfl rfl rfl ?_
 intro w0 S0
 refine V.seq ?_
 refine V.region ?_
 refine VO.cons rfl (V1.boxN (n := 4) rfl rfl rfl rfl rfl (ltb rfl) ?_)
 intro b0
 refine VO.cons rfl (V1.assign rfl rfl rfl (ltb rfl) ?_)
 refine VO.nil ?_
 refine V.seq ?_
 replace hm0 := bindO hm0; rcases hm0 with ⟨y0, hh0, hm0⟩
 replace hm0 := bindO hm0; rcases hm0 with ⟨y1, hh1, hm0⟩
 refine V.region ?_
 refine VO.cons rfl (V1.loadRefAll (k := 0) rfl rfl tyk_26 rfl rfl rfl rfl rfl (ltb rfl) ?_)
 refine VO.cons rfl (V1.call rfl rfl rfl cok_155 rfl (ok_impl_IsRecord hh0) rfl (ltb rfl) ?_)
 rintro _ _ ⟨rfl, rfl⟩
 refine VO.cons rfl (V1.move rfl rfl rfl (ltb rfl) ?_)
 apply VO.and (n := 2) rfl rfl rfl rfl rfl rfl (ltb rfl) (.none rfl)
 ·
  intro hg0
  refine VO.step (.some rfl rfl rfl) (V1.move rfl rfl rfl (ltb rfl) ?_)
  refine VO.step (.some rfl rfl rfl) (V1.call rfl rfl rfl cok_37 rfl (ok_impl_IsSchedule (cond_t hg0 hh1)) rfl (ltb rfl) ?_)
  rintro _ _ ⟨rfl, rfl⟩
  exact VO.nil ⟨rfl, rfl, rfl, rfl, .inr ⟨rfl, .inr ⟨rfl, .inr ⟨rfl, .inl rfl⟩⟩⟩⟩
 refine VO.cons rfl (V1.assign rfl rfl rfl (ltb rfl) ?_)
 refine VO.nil ?_
 refine V.ret ?_
 obtain rfl := Option.some.inj hm0
 exact ⟨_, [], ⟨_, _, rfl, rfl, rfl⟩, List.nil_sublist _, rfl, rfl⟩

theorem ok_impl_rulesFor {ρ0 rn : Nat} {list : List Rule} {series : Int} {r : List Rule} (h : M.impl_rulesFor list series = some r) : Does Try.prog 148 [.vl ρ0 4 (List.map encRule list), .int .i64 series] [] rn (fun x H => ∃ (ob0_ : Option Nat), (ob0_ = none → r = []) ∧ x = optS 4 ob0_ (List.length r) ∧ H = optH 4 ob0_ (List.map encRule r)) := by
 have hm0 := h; clear h; unfold M.impl_rulesFor at hm0
 try dsimp only at hm0
 refine Does.intro (N := 24) Try.func148 rfl rfl rfl rfl ?_
 intro w0 S0
 refine V.seq ?_
 refine V.region ?_
 refine VO.cons rfl (V1.assign rfl rfl rfl (ltb rfl) ?_)
 refine VO.nil ?_
 refine V.seq ?_
 refine V.region ?_
 refine VO.cons rfl (V1.assign rfl rfl rfl (ltb rfl) ?_)
 refine VO.nil ?_
 refine V.seq ?_
 refine V.seq ?_
 refine V.region ?_
 refine VO.cons rfl (V1.move rfl rfl rfl (ltb rfl) ?_)
 refine VO.cons rfl (V1.lenMap rfl rfl rfl rfl rfl rfl isl_27 (ltb rfl) ?_)
 refine VO.cons rfl (V1.move rfl rfl rfl (ltb rfl) ?_)
 refine VO.nil ?_
 replace hm0 := bindO hm0; rcases hm0 with ⟨e0, he1, hm0⟩
 refine V.cutT (D := (List Rule) × (Option Nat)) (fun ⟨out_, ob0⟩ => ⟨24, [(5, optS 4 ob0 (List.length out_))], optH 4 ob0 (List.map encRule out_)⟩) (fun ⟨out_, ob0⟩ => (out_ = e0) ∧ (ob0 = none → out_ = [])) ?_ ?_
 ·
  refine V.block ?_
  refine V.keep 24 [5, 10, 1, 8, 9] [] (E0 := [(5, .nils), (10, .int .i64 (0 : Int)), (1, .int .i64 series), (8, .vl ρ0 4 (List.map encRule list)), (9, .int .i64 (list.length : Int))]) (H0 := []) rfl (⟨_, _, rfl, rfl, ⟨_, _, rfl, rfl, ⟨_, _, rfl, rfl, ⟨_, _, rfl, rfl, ⟨_, _, rfl, rfl, rfl⟩⟩⟩⟩⟩) (rfl) rfl ?_
  refine V.loopE (D := Nat × (List Rule × Int) × (Option Nat)) (fun ⟨n0, ⟨out_0, v⟩, ob1⟩ => [(5, optS 4 ob1 (List.length out_0)), (10, .int .i64 v)]) (fun ⟨n0, ⟨out_0, v⟩, ob1⟩ => optH 4 ob1 (List.map encRule out_0)) (fun ⟨n0, ⟨out_0, v⟩, ob1⟩ => loopO (M.impl_rulesFor_l0 list series) n0 (out_0, v) = some e0 ∧ (ob1 = none → out_0 = [])) (fun ⟨n0, _, _⟩ => n0) (rounds, (([] : List Rule), (0 : Int)), none) rfl ⟨he1, (fun _ => rfl)⟩ ?_
  rintro ⟨n0, ⟨out_0, v⟩, ob1⟩ ⟨hP0, hob1⟩
  obtain ⟨m0, y0, rfl, hm1, hl1, hr1⟩ := loop_head hP0
  unfold M.impl_rulesFor_l0 at hm1; dsimp only at hm1
  rcases ob1 with _ | ob1
  ·
   replace hob1 := hob1 rfl
   show V _ _ _ ⟨24, [(5, .nils), (10, .int .i64 v), (1, .int .i64 series), (8, .vl ρ0 4 (List.map encRule list)), (9, .int .i64 (list.length : Int))], []⟩
   refine V.seq ?_
   refine V.region ?_
   refine VO.cons rfl (V1.int rfl rfl rfl rfl rfl (ltb rfl) ?_)
   refine VO.nil ?_
   refine V.seq ?_
   refine V.cond rfl (fun hc0 => ?_) (fun hc0 => ?_)
   ·
    replace hm1 := cond_t hc0 hm1
    refine V.skip ?_
    refine V.seq ?_
    replace hm1 := bindO hm1; rcases hm1 with ⟨j0, hm2, hm1⟩
    refine V.cutT (D := (List Rule) × (Option Nat)) (fun ⟨out_1, ob2⟩ => ⟨24, [(5, optS 4 ob2 (List.length out_1)), (1, .int .i64 series), (8, .vl ρ0 4 (List.map encRule list)), (9, .int .i64 (list.length : Int)), (10, .int .i64 v)], optH 4 ob2 (List.map encRule out_1)⟩) (fun ⟨out_1, ob2⟩ => (out_1 = j0) ∧ (ob2 = none → out_1 = [])) ?_ ?_
    ·
     refine V.block ?_
     refine V.seq ?_
     replace hm2 := asrt_some hm2; rcases hm2 with ⟨hh0, hm2⟩
     refine V.region ?_
     refine VO.cons rfl (V1.indexI rfl rfl esz_27 rfl rfl hh0 (ltb rfl) ?_)
     refine VO.cons rfl (V1.loadPinAll rfl rfl tyk_37 rfl rfl (ltb rfl) ?_)
     refine VO.cons rfl (V1.alloc rfl rfl zk_37 (ltb rfl) ?_)
     intro b0
     refine VO.cons rfl (V1.storeRefAll (k := 0) rfl rfl tyk_37 rfl rfl rfl rfl rfl rfl ?_)
     refine VO.nil ?_
     refine V.seq ?_
     refine V.region ?_
     refine VO.cons rfl (V1.fieldRef rfl rfl fo_37_0 rfl (ltb rfl) ?_)
     refine VO.cons rfl (V1.loadRef (k := 0) rfl rfl tyk_3 rfl rfl rfl rfl rfl (ltb rfl) ?_)
     refine VO.cons rfl (V1.move rfl rfl rfl (ltb rfl) ?_)
     refine VO.cons rfl (V1.int rfl rfl rfl rfl rfl (ltb rfl) ?_)
     refine VO.nil ?_
     refine V.keep 24 [1, 5, 7, 8, 9, 10, 17] [0] (E0 := [(1, .int .i64 series), (5, .nils), (7, .ref b0 4 0 0), (8, .vl ρ0 4 (List.map encRule list)), (9, .int .i64 (list.length : Int)), (10, .int .i64 v), (17, .bool (((list.getD (Int.toNat v) default).Series) == series))]) (H0 := [(b0, ⟨4, [encRule (list.getD (Int.toNat v) default)]⟩)]) rfl (⟨_, _, rfl, rfl, ⟨_, _, rfl, rfl, ⟨_, _, rfl, rfl, ⟨_, _, rfl, rfl, ⟨_, _, rfl, rfl, ⟨_, _, rfl, rfl, ⟨_, _, rfl, rfl, rfl⟩⟩⟩⟩⟩⟩⟩) (⟨_, _, rfl, rfl, rfl⟩) rfl ?_
     refine V.cond rfl (fun hc1 => ?_) (fun hc1 => ?_)
     ·
      replace hm2 := cond_t hc1 hm2
      replace hm2 := asrt_some hm2; rcases hm2 with ⟨hh1, hm2⟩
      refine V.region ?_
      refine VO.cons rfl (V1.move rfl rfl rfl (ltb rfl) ?_)
      refine VO.cons rfl (V1.loadRefAll (k := 0) rfl rfl tyk_37 rfl rfl rfl rfl rfl (ltb rfl) ?_)
      refine VO.cons rfl (V1.buildSliceT (f := encRule) ([(list.getD (Int.toNat v) default)] : List Rule) rfl rfl esz_27 zk_37 rfl rfl rfl rfl rfl rfl rfl (ltb rfl) ?_)
      intro b1
      refine VO.cons rfl (V1.appendNilE (f := encRule) (l := out_0) (m := ([(list.getD (Int.toNat v) default)] : List Rule)) hob1 rfl rfl rfl rfl rfl esz_27 eby_27 zk_37 rfl rfl rfl (SrcOf.srMap (k := 0) rfl isl_27) rfl hh1 (ltb rfl) ?_)
      intro b2
      refine VO.cons rfl (V1.assign rfl rfl rfl (ltb rfl) ?_)
      refine VO.nil ?_
      exact ⟨((out_0 ++ ([(list.getD (Int.toNat v) default)] : List Rule)), (some b2)), ⟨Option.some.inj hm2, (fun e => by cases e)⟩, Keeps.mk (ks := [0]) rfl ⟨rfl, rfl, rfl, rfl, rfl, trivial⟩ (⟨_, _, rfl, rfl, rfl⟩) rfl⟩
     ·
      replace hm2 := cond_f hc1 hm2
      refine V.skip ?_
      exact ⟨(out_0, none), ⟨Option.some.inj hm2, (fun _ => hob1)⟩, Keeps.mk (ks := []) rfl ⟨rfl, rfl, rfl, rfl, rfl, trivial⟩ (rfl) rfl⟩
    ·
     rintro ⟨out_1, ob2⟩ ⟨rfl, hob2⟩
     try dsimp only at hm1
     rcases ob2 with _ | ob2
     ·
      replace hob2 := hob2 rfl
      refine V.region ?_
      refine VO.cons rfl (V1.int rfl rfl rfl rfl rfl (ltb rfl) ?_)
      refine VO.cons rfl (V1.move rfl rfl rfl (ltb rfl) ?_)
      refine VO.nil ?_
      exact ⟨(m0, (out_1, (IntKind.i64.wrap (v + (1 : Int)))), none), ⟨hl1 _ (Option.some.inj hm1).symm, (fun _ => hob2)⟩, Nat.lt_succ_self _, Keeps.mk (ks := []) rfl ⟨rfl, rfl, rfl, rfl, rfl, trivial⟩ (rfl) rfl⟩
     ·
      refine V.region ?_
      refine VO.cons rfl (V1.int rfl rfl rfl rfl rfl (ltb rfl) ?_)
      refine VO.cons rfl (V1.move rfl rfl rfl (ltb rfl) ?_)
      refine VO.nil ?_
      exact ⟨(m0, (out_1, (IntKind.i64.wrap (v + (1 : Int)))), (some ob2)), ⟨hl1 _ (Option.some.inj hm1).symm, (fun e => by cases e)⟩, Nat.lt_succ_self _, Keeps.mk (ks := [0]) rfl ⟨rfl, rfl, rfl, rfl, rfl, trivial⟩ (⟨_, _, rfl, rfl, rfl⟩) rfl⟩
   ·
    replace hm1 := cond_f hc0 hm1
    refine V.exit ?_
    obtain rfl := hr1 _ (Option.some.inj hm1).symm
    exact ⟨(out_0, none), ⟨rfl, (fun _ => hob1)⟩, Keeps.mk (ks := []) rfl ⟨rfl, trivial⟩ (rfl) rfl⟩
  ·
   show V _ _ _ ⟨24, [(5, .sref ob1 4 0 (List.length out_0)), (10, .int .i64 v), (1, .int .i64 series), (8, .vl ρ0 4 (List.map encRule list)), (9, .int .i64 (list.length : Int))], [(ob1, ⟨4, List.map encRule out_0⟩)]⟩
   refine V.seq ?_
   refine V.region ?_
   refine VO.cons rfl (V1.int rfl rfl rfl rfl rfl (ltb rfl) ?_)
   refine VO.nil ?_
   refine V.seq ?_
   refine V.cond rfl (fun hc0 => ?_) (fun hc0 => ?_)
   ·
    replace hm1 := cond_t hc0 hm1
    refine V.skip ?_
    refine V.seq ?_
    replace hm1 := bindO hm1; rcases hm1 with ⟨j0, hm2, hm1⟩
    refine V.cutT (D := (List Rule) × (Nat)) (fun ⟨out_1, b0⟩ => ⟨24, [(5, .sref b0 4 0 (List.length out_1)), (1, .int .i64 series), (8, .vl ρ0 4 (List.map encRule list)), (9, .int .i64 (list.length : Int)), (10, .int .i64 v)], [(b0, ⟨4, List.map encRule out_1⟩)]⟩) (fun ⟨out_1, b0⟩ => (out_1 = j0)) ?_ ?_
    ·
     refine V.block ?_
     refine V.seq ?_
     replace hm2 := asrt_some hm2; rcases hm2 with ⟨hh0, hm2⟩
     refine V.region ?_
     refine VO.cons rfl (V1.indexI rfl rfl esz_27 rfl rfl hh0 (ltb rfl) ?_)
     refine VO.cons rfl (V1.loadPinAll rfl rfl tyk_37 rfl rfl (ltb rfl) ?_)
     refine VO.cons rfl (V1.alloc rfl rfl zk_37 (ltb rfl) ?_)
     intro b1
     refine VO.cons rfl (V1.storeRefAll (k := 0) rfl rfl tyk_37 rfl rfl rfl rfl rfl rfl ?_)
     refine VO.nil ?_
     refine V.seq ?_
     refine V.region ?_
     refine VO.cons rfl (V1.fieldRef rfl rfl fo_37_0 rfl (ltb rfl) ?_)
     refine VO.cons rfl (V1.loadRef (k := 0) rfl rfl tyk_3 rfl rfl rfl rfl rfl (ltb rfl) ?_)
     refine VO.cons rfl (V1.move rfl rfl rfl (ltb rfl) ?_)
     refine VO.cons rfl (V1.int rfl rfl rfl rfl rfl (ltb rfl) ?_)
     refine VO.nil ?_
     refine V.keep 24 [1, 5, 7, 8, 9, 10, 17] [0, 1] (E0 := [(1, .int .i64 series), (5, .sref ob1 4 0 (List.length out_0)), (7, .ref b1 4 0 0), (8, .vl ρ0 4 (List.map encRule list)), (9, .int .i64 (list.length : Int)), (10, .int .i64 v), (17, .bool (((list.getD (Int.toNat v) default).Series) == series))]) (H0 := [(b1, ⟨4, [encRule (list.getD (Int.toNat v) default)]⟩), (ob1, ⟨4, List.map encRule out_0⟩)]) rfl (⟨_, _, rfl, rfl, ⟨_, _, rfl, rfl, ⟨_, _, rfl, rfl, ⟨_, _, rfl, rfl, ⟨_, _, rfl, rfl, ⟨_, _, rfl, rfl, ⟨_, _, rfl, rfl, rfl⟩⟩⟩⟩⟩⟩⟩) (⟨_, _, rfl, rfl, ⟨_, _, rfl, rfl, rfl⟩⟩) rfl ?_
     refine V.cond rfl (fun hc1 => ?_) (fun hc1 => ?_)
     ·
      replace hm2 := cond_t hc1 hm2
      replace hm2 := asrt_some hm2; rcases hm2 with ⟨hh1, hm2⟩
      refine V.region ?_
      refine VO.cons rfl (V1.move rfl rfl rfl (ltb rfl) ?_)
      refine VO.cons rfl (V1.loadRefAll (k := 0) rfl rfl tyk_37 rfl rfl rfl rfl rfl (ltb rfl) ?_)
      refine VO.cons rfl (V1.buildSliceT (f := encRule) ([(list.getD (Int.toNat v) default)] : List Rule) rfl rfl esz_27 zk_37 rfl rfl rfl rfl rfl rfl rfl (ltb rfl) ?_)
      intro b2
      refine VO.cons rfl (V1.appendMap (k := 2) (f := encRule) (l := out_0) (m := ([(list.getD (Int.toNat v) default)] : List Rule)) rfl rfl rfl rfl rfl esz_27 eby_27 zk_37 rfl rfl rfl (SrcOf.srMap (k := 0) rfl isl_27) hh1 (ltb rfl) ?_)
      intro b3
      refine VO.cons rfl (V1.assign rfl rfl rfl (ltb rfl) ?_)
      refine VO.nil ?_
      exact ⟨((out_0 ++ ([(list.getD (Int.toNat v) default)] : List Rule)), b3), Option.some.inj hm2, Keeps.mk (ks := [0]) rfl ⟨rfl, rfl, rfl, rfl, rfl, trivial⟩ (⟨_, _, rfl, rfl, rfl⟩) rfl⟩
     ·
      replace hm2 := cond_f hc1 hm2
      refine V.skip ?_
      exact ⟨(out_0, ob1), Option.some.inj hm2, Keeps.mk (ks := [1]) rfl ⟨rfl, rfl, rfl, rfl, rfl, trivial⟩ (⟨_, _, rfl, rfl, rfl⟩) rfl⟩
    ·
     rintro ⟨out_1, b0⟩ rfl
     try dsimp only at hm1
     refine V.region ?_
     refine VO.cons rfl (V1.int rfl rfl rfl rfl rfl (ltb rfl) ?_)
     refine VO.cons rfl (V1.move rfl rfl rfl (ltb rfl) ?_)
     refine VO.nil ?_
     exact ⟨(m0, (out_1, (IntKind.i64.wrap (v + (1 : Int)))), (some b0)), ⟨hl1 _ (Option.some.inj hm1).symm, (fun e => by cases e)⟩, Nat.lt_succ_self _, Keeps.mk (ks := [0]) rfl ⟨rfl, rfl, rfl, rfl, rfl, trivial⟩ (⟨_, _, rfl, rfl, rfl⟩) rfl⟩
   ·
    replace hm1 := cond_f hc0 hm1
    refine V.exit ?_
    obtain rfl := hr1 _ (Option.some.inj hm1).symm
    exact ⟨(out_0, (some ob1)), ⟨rfl, (fun e => by cases e)⟩, Keeps.mk (ks := [0]) rfl ⟨rfl, trivial⟩ (⟨_, _, rfl, rfl, rfl⟩) rfl⟩
 ·
  rintro ⟨out_, ob0⟩ ⟨rfl, hob0⟩
  try dsimp only at hm0
  rcases ob0 with _ | ob0
  ·
   replace hob0 := hob0 rfl
   refine V.seq ?_
   refine V.region ?_
   refine VO.cons rfl (V1.move rfl rfl rfl (ltb rfl) ?_)
   refine VO.cons rfl (V1.assign rfl rfl rfl (ltb rfl) ?_)
   refine VO.nil ?_
   refine V.keep 24 [4] [] (E0 := [(4, .nils)]) (H0 := []) rfl (⟨_, _, rfl, rfl, rfl⟩) (rfl) rfl ?_
   refine V.ret ?_
   obtain rfl := Option.some.inj hm0
   exact ⟨_, _, ⟨_, _, rfl, rfl, rfl⟩, List.Sublist.refl _, none, (fun _ => hob0), rfl, rfl⟩
  ·
   refine V.seq ?_
   refine V.region ?_
   refine VO.cons rfl (V1.move rfl rfl rfl (ltb rfl) ?_)
   refine VO.cons rfl (V1.assign rfl rfl rfl (ltb rfl) ?_)
   refine VO.nil ?_
   refine V.keep 24 [4] [0] (E0 := [(4, .sref ob0 4 0 (List.length out_))]) (H0 := [(ob0, ⟨4, List.map encRule out_⟩)]) rfl (⟨_, _, rfl, rfl, rfl⟩) (⟨_, _, rfl, rfl, rfl⟩) rfl ?_
   refine V.ret ?_
   obtain rfl := Option.some.inj hm0
   exact ⟨_, _, ⟨_, _, rfl, rfl, rfl⟩, List.Sublist.refl _, some ob0, (fun e => by cases e), rfl, rfl⟩

theorem ok_impl_eventAt_1 {τ1 rn : Nat} {e_ : Event} {kind : Int} {r : Bool} (h : M.impl_eventAt_1 e_ kind = some r) : Does Try.prog 296 [encEvent e_, .pin τ1 (.int .i64 kind) 0] [] rn (fun x H => x = .bool r ∧ H = []) := by
 have hm0 := h; clear h; unfold M.impl_eventAt_1 at hm0
 try dsimp only at hm0
 refine Does.intro (N := 8) Try.func296 rfl rfl rfl rfl ?_
 intro w0 S0
 refine V.seq ?_
 refine V.region ?_
 refine VO.cons rfl (V1.boxN (n := 2) rfl rfl rfl rfl rfl (ltb rfl) ?_)
 intro b0
 refine VO.cons rfl (V1.assign rfl rfl rfl (ltb rfl) ?_)
 refine VO.nil ?_
 refine V.seq ?_
 refine V.region ?_
 refine VO.cons rfl (V1.fieldRef rfl rfl fo_43_0 rfl (ltb rfl) ?_)
 refine VO.cons rfl (V1.loadRef (k := 0) rfl rfl tyk_3 rfl rfl rfl rfl rfl (ltb rfl) ?_)
 refine VO.cons rfl (V1.loadPin rfl rfl tyk_3 rfl rfl (ltb rfl) ?_)
 refine VO.cons rfl (V1.int rfl rfl rfl rfl rfl (ltb rfl) ?_)
 refine VO.cons rfl (V1.assign rfl rfl rfl (ltb rfl) ?_)
 refine VO.nil ?_
 refine V.ret ?_
 obtain rfl := Option.some.inj hm0
 exact ⟨_, [], ⟨_, _, rfl, rfl, rfl⟩, List.nil_sublist _, rfl, rfl⟩

theorem ok_slices_IndexFunc_impl_Event_impl_Event {ρ0 rn : Nat} {s : List Event} {f1 : Nat} {cs1 : List PV} {r : Int} {fm : Event → Option Bool} (h : M.slices_IndexFunc_impl_Event_impl_Event s fm = some r) (hok1 : callOK Try.prog f1 = true) (hf1 : ∀ x0 r, fm x0 = some r → Does Try.prog f1 (encEvent x0 :: cs1) [] rn (fun x H => x = .bool r ∧ H = [])) : Does Try.prog 295 [.vl ρ0 2 (List.map encEvent s), .fn f1 cs1] [] rn (fun x H => x = .int .i64 r ∧ H = []) := by
 have hm0 := h; clear h; unfold M.slices_IndexFunc_impl_Event_impl_Event at hm0
 try dsimp only at hm0
 refine Does.intro (N := 19) Try.func295 rfl rfl rfl rfl ?_
 intro w0 S0
 refine V.seq ?_
 refine V.region ?_
 refine VO.cons rfl (V1.assign rfl rfl rfl (ltb rfl) ?_)
 refine VO.nil ?_
 refine V.seq ?_
 refine V.seq ?_
 refine V.region ?_
 refine VO.cons rfl (V1.move rfl rfl rfl (ltb rfl) ?_)
 refine VO.cons rfl (V1.lenMap rfl rfl rfl rfl rfl rfl isl_24 (ltb rfl) ?_)
 refine VO.cons rfl (V1.move rfl rfl rfl (ltb rfl) ?_)
 refine VO.nil ?_
 replace hm0 := bindO hm0; rcases hm0 with ⟨e0, he1, hm0⟩
 refine V.cutT (D := (Unit) × (Unit)) (fun ⟨_, _⟩ => ⟨19, [], []⟩) (fun ⟨_, _⟩ => (.inl () = e0)) ?_ ?_
 ·
  refine V.block ?_
  refine V.keep 19 [8, 0, 1, 7] [] (E0 := [(8, .int .i64 (0 : Int)), (0, .vl ρ0 2 (List.map encEvent s)), (1, .fn f1 cs1), (7, .int .i64 (s.length : Int))]) (H0 := []) rfl (⟨_, _, rfl, rfl, ⟨_, _, rfl, rfl, ⟨_, _, rfl, rfl, ⟨_, _, rfl, rfl, rfl⟩⟩⟩⟩) (rfl) rfl ?_
  refine V.loopE (D := Nat × (Int) × (Unit)) (fun ⟨n0, v, _⟩ => [(8, .int .i64 v)]) (fun ⟨n0, v, _⟩ => []) (fun ⟨n0, v, _⟩ => loopO (M.slices_IndexFunc_impl_Event_impl_Event_l0 s fm) n0 v = some e0) (fun ⟨n0, _, _⟩ => n0) (rounds, (0 : Int), ()) rfl he1 ?_
  rintro ⟨n0, v, _⟩ hP0
  obtain ⟨m0, y0, rfl, hm1, hl1, hr1⟩ := loop_head hP0
  unfold M.slices_IndexFunc_impl_Event_impl_Event_l0 at hm1; dsimp only at hm1
  show V _ _ _ ⟨19, [(8, .int .i64 v), (0, .vl ρ0 2 (List.map encEvent s)), (1, .fn f1 cs1), (7, .int .i64 (s.length : Int))], []⟩
  refine V.seq ?_
  refine V.region ?_
  refine VO.cons rfl (V1.int rfl rfl rfl rfl rfl (ltb rfl) ?_)
  refine VO.nil ?_
  refine V.seq ?_
  refine V.cond rfl (fun hc0 => ?_) (fun hc0 => ?_)
  ·
   replace hm1 := cond_t hc0 hm1
   refine V.skip ?_
   refine V.seq ?_
   refine V.block ?_
   refine V.seq ?_
   refine V.region ?_
   refine VO.cons rfl (V1.move rfl rfl rfl (ltb rfl) ?_)
   refine VO.cons rfl (V1.assign rfl rfl rfl (ltb rfl) ?_)
   refine VO.nil ?_
   refine V.seq ?_
   replace hm1 := asrt_some hm1; rcases hm1 with ⟨hh0, hm1⟩
   replace hm1 := bindO hm1; rcases hm1 with ⟨y1, hh1, hm1⟩
   refine V.region ?_
   refine VO.cons rfl (V1.move rfl rfl rfl (ltb rfl) ?_)
   refine VO.cons rfl (V1.move rfl rfl rfl (ltb rfl) ?_)
   refine VO.cons rfl (V1.move rfl rfl rfl (ltb rfl) ?_)
   refine VO.cons rfl (V1.indexI rfl rfl esz_24 rfl rfl hh0 (ltb rfl) ?_)
   refine VO.cons rfl (V1.loadPinAll rfl rfl tyk_43 rfl rfl (ltb rfl) ?_)
   refine VO.cons rfl (V1.callG (τ := 0) (Bw := []) rfl (ltb rfl) (run_callFn rfl rfl rfl hok1 rfl) (.refl _) (Lends.same _) (fun _ h => by cases h) ((hf1 _  _) hh1) (.inl rfl) (.inl rfl) ?_)
   rintro _ _ ⟨rfl, rfl⟩
   refine VO.nil ?_
   refine V.keep 19 [0, 1, 5, 7, 8, 16] [] (E0 := [(0, .vl ρ0 2 (List.map encEvent s)), (1, .fn f1 cs1), (5, .int .i64 v), (7, .int .i64 (s.length : Int)), (8, .int .i64 v), (16, .bool y1)]) (H0 := []) rfl (⟨_, _, rfl, rfl, ⟨_, _, rfl, rfl, ⟨_, _, rfl, rfl, ⟨_, _, rfl, rfl, ⟨_, _, rfl, rfl, ⟨_, _, rfl, rfl, rfl⟩⟩⟩⟩⟩⟩) (rfl) rfl ?_
   refine V.cond rfl (fun hc1 => ?_) (fun hc1 => ?_)
   ·
    replace hm1 := cond_t hc1 hm1
    refine V.seq ?_
    refine V.region ?_
    refine VO.cons rfl (V1.move rfl rfl rfl (ltb rfl) ?_)
    refine VO.cons rfl (V1.assign rfl rfl rfl (ltb rfl) ?_)
    refine VO.nil ?_
    refine V.ret ?_
    obtain rfl := hr1 _ (Option.some.inj hm1).symm
    change some _ = some _ at hm0
    obtain rfl := Option.some.inj hm0
    exact ⟨_, [], ⟨_, _, rfl, rfl, rfl⟩, List.nil_sublist _, rfl, rfl⟩
   ·
    replace hm1 := cond_f hc1 hm1
    refine V.skip ?_
    refine V.region ?_
    refine VO.cons rfl (V1.int rfl rfl rfl rfl rfl (ltb rfl) ?_)
    refine VO.cons rfl (V1.move rfl rfl rfl (ltb rfl) ?_)
    refine VO.nil ?_
    exact ⟨(m0, (IntKind.i64.wrap (v + (1 : Int))), ()), hl1 _ (Option.some.inj hm1).symm, Nat.lt_succ_self _, Keeps.mk (ks := []) rfl ⟨rfl, rfl, rfl, rfl, trivial⟩ (rfl) rfl⟩
  ·
   replace hm1 := cond_f hc0 hm1
   refine V.exit ?_
   obtain rfl := hr1 _ (Option.some.inj hm1).symm
   exact ⟨((), ()), rfl, Keeps.mk (ks := []) rfl trivial (rfl) rfl⟩
 ·
  rintro ⟨_, _⟩ rfl
  try dsimp only at hm0
  refine V.seq ?_
  refine V.region ?_
  refine VO.cons rfl (V1.assign rfl rfl rfl (ltb rfl) ?_)
  refine VO.nil ?_
  refine V.ret ?_
  obtain rfl := Option.some.inj hm0
  exact ⟨_, [], ⟨_, _, rfl, rfl, rfl⟩, List.nil_sublist _, rfl, rfl⟩

theorem ok_impl_eventAt {ρ0 rn : Nat} {r_ : Record} {kind : Int} {r : Int} (h : M.impl_eventAt r_ kind = some r) : Does Try.prog 271 [encRecord ρ0 r_, .int .i64 kind] [] rn (fun x H => x = .int .i64 r ∧ H = []) := by
 have hm0 := h; clear h; unfold M.impl_eventAt at hm0
 try dsimp only at hm0
 refine Does.intro (N := 9) Try.func271 rfl rfl rfl rfl ?_
 intro w0 S0
 refine V.seq ?_
 refine V.region ?_
 refine VO.cons rfl (V1.boxN (n := 4) rfl rfl rfl rfl rfl (ltb rfl) ?_)
 intro b0
 refine VO.cons rfl (V1.boxN (n := 1) rfl rfl rfl rfl rfl (ltb rfl) ?_)
 intro b1
 refine VO.cons rfl (V1.assign rfl rfl rfl (ltb rfl) ?_)
 refine VO.nil ?_
 refine V.seq ?_
 replace hm0 := bindO hm0; rcases hm0 with ⟨y0, hh0, hm0⟩
 refine V.region ?_
 refine VO.cons rfl (V1.fieldRef rfl rfl fo_26_3 rfl (ltb rfl) ?_)
 refine VO.cons rfl (V1.loadRef (k := 1) rfl rfl tyk_24 rfl rfl rfl rfl rfl (ltb rfl) ?_)
 refine VO.cons rfl (V1.makeFunc rfl rfl rfl (ltb rfl) ?_)
 refine VO.cons rfl (V1.callL (rn + 1) [b1] [.vl ρ0 2 (List.map encEvent r_.Events), .fn 296 [.pin (rn + 1) (.int .i64 kind) 0]] rfl rfl rfl cok_295 rfl ⟨_, _, rfl, .same _, ⟨_, _, rfl, Lend.fn ⟨_, _, rfl, Lend.ref 0 rfl rfl rfl rfl (.head _), rfl⟩, rfl⟩⟩ (bwCons (k := 0) rfl bwNil) (ok_slices_IndexFunc_impl_Event_impl_Event hh0 (fm := (fun x0 => M.impl_eventAt_1 x0 kind)) cok_296 (fun _ _ h => ok_impl_eventAt_1 h)) rfl (⟨(by first | omega | (dsimp only; omega)), by rintro _ _ ⟨rfl, rfl⟩; exact ⟨rfl, by simp⟩⟩) (ltb rfl) ?_)
 rintro _ _ ⟨rfl, rfl⟩
 refine VO.cons rfl (V1.assign rfl rfl rfl (ltb rfl) ?_)
 refine VO.nil ?_
 refine V.ret ?_
 obtain rfl := Option.some.inj hm0
 exact ⟨_, [], ⟨_, _, rfl, rfl, rfl⟩, List.nil_sublist _, rfl, rfl⟩

theorem ok_impl_dayOf {ρ0 rn : Nat} {r_ : Record} {kind : Int} {r : Int × Bool} (h : M.impl_dayOf r_ kind = some r) : Does Try.prog 156 [encRecord ρ0 r_, .int .i64 kind] [] rn (fun x H => x = .tup [.int .i64 r.1, .bool r.2] ∧ H = []) := by
 have hm0 := h; clear h; unfold M.impl_dayOf at hm0
 try dsimp only at hm0
 refine Does.intro (N := 22) Try.func156 rfl rfl rfl rfl ?_
 intro w0 S0
 refine V.seq ?_
 refine V.region ?_
 refine VO.cons rfl (V1.boxN (n := 4) rfl rfl rfl rfl rfl (ltb rfl) ?_)
 intro b0
 refine VO.cons rfl (V1.assign rfl rfl rfl (ltb rfl) ?_)
 refine VO.cons rfl (V1.assign rfl rfl rfl (ltb rfl) ?_)
 refine VO.nil ?_
 refine V.seq ?_
 refine V.seq ?_
 refine V.region ?_
 refine VO.cons rfl (V1.move rfl rfl rfl (ltb rfl) ?_)
 refine VO.cons rfl (V1.int rfl rfl rfl rfl rfl (ltb rfl) ?_)
 refine VO.nil ?_
 refine V.keep 22 [1, 2, 8] [0] (E0 := [(1, .int .i64 kind), (2, .ref b0 4 0 0), (8, .bool (kind == (0 : Int)))]) (H0 := [(b0, ⟨4, [encRecord ρ0 r_]⟩)]) rfl (⟨_, _, rfl, rfl, ⟨_, _, rfl, rfl, ⟨_, _, rfl, rfl, rfl⟩⟩⟩) (⟨_, _, rfl, rfl, rfl⟩) rfl ?_
 refine V.cond rfl (fun hc0 => ?_) (fun hc0 => ?_)
 ·
  replace hm0 := cond_t hc0 hm0
  refine V.seq ?_
  refine V.region ?_
  refine VO.cons rfl (V1.fieldRef rfl rfl fo_26_2 rfl (ltb rfl) ?_)
  refine VO.cons rfl (V1.loadRef (k := 0) rfl rfl tyk_3 rfl rfl rfl rfl rfl (ltb rfl) ?_)
  refine VO.cons rfl (V1.assign rfl rfl rfl (ltb rfl) ?_)
  refine VO.cons rfl (V1.assign rfl rfl rfl (ltb rfl) ?_)
  refine VO.nil ?_
  refine V.ret ?_
  obtain rfl := Option.some.inj hm0
  exact ⟨_, [], ⟨_, _, rfl, rfl, ⟨_, _, rfl, rfl, rfl⟩⟩, List.nil_sublist _, rfl, rfl⟩
 ·
  replace hm0 := cond_f hc0 hm0
  refine V.skip ?_
  refine V.seq ?_
  replace hm0 := bindO hm0; rcases hm0 with ⟨y0, hh0, hm0⟩
  refine V.region ?_
  refine VO.cons rfl (V1.loadRefAll (k := 0) rfl rfl tyk_26 rfl rfl rfl rfl rfl (ltb rfl) ?_)
  refine VO.cons rfl (V1.move rfl rfl rfl (ltb rfl) ?_)
  refine VO.cons rfl (V1.call rfl rfl rfl cok_271 rfl (ok_impl_eventAt hh0) rfl (ltb rfl) ?_)
  rintro _ _ ⟨rfl, rfl⟩
  refine VO.cons rfl (V1.assign rfl rfl rfl (ltb rfl) ?_)
  refine VO.nil ?_
  refine V.keep 22 [2, 6] [0] (E0 := [(2, .ref b0 4 0 0), (6, .int .i64 y0)]) (H0 := [(b0, ⟨4, [encRecord ρ0 r_]⟩)]) rfl (⟨_, _, rfl, rfl, ⟨_, _, rfl, rfl, rfl⟩⟩) (⟨_, _, rfl, rfl, rfl⟩) rfl ?_
  refine V.seq ?_
  refine V.seq ?_
  refine V.region ?_
  refine VO.cons rfl (V1.move rfl rfl rfl (ltb rfl) ?_)
  refine VO.cons rfl (V1.int rfl rfl rfl rfl rfl (ltb rfl) ?_)
  refine VO.nil ?_
  refine V.cond rfl (fun hc1 => ?_) (fun hc1 => ?_)
  ·
   replace hm0 := cond_t hc1 hm0
   refine V.seq ?_
   refine V.region ?_
   refine VO.cons rfl (V1.assign rfl rfl rfl (ltb rfl) ?_)
   refine VO.cons rfl (V1.assign rfl rfl rfl (ltb rfl) ?_)
   refine VO.nil ?_
   refine V.ret ?_
   obtain rfl := Option.some.inj hm0
   exact ⟨_, [], ⟨_, _, rfl, rfl, ⟨_, _, rfl, rfl, rfl⟩⟩, List.nil_sublist _, rfl, rfl⟩
  ·
   replace hm0 := cond_f hc1 hm0
   refine V.skip ?_
   refine V.seq ?_
   replace hm0 := asrt_some hm0; rcases hm0 with ⟨hh1, hm0⟩
   refine V.region ?_
   refine VO.cons rfl (V1.fieldRef rfl rfl fo_26_3 rfl (ltb rfl) ?_)
   refine VO.cons rfl (V1.loadRef (k := 0) rfl rfl tyk_24 rfl rfl rfl rfl rfl (ltb rfl) ?_)
   refine VO.cons rfl (V1.move rfl rfl rfl (ltb rfl) ?_)
   refine VO.cons rfl (V1.indexI rfl rfl esz_24 rfl rfl hh1 (ltb rfl) ?_)
   refine VO.cons rfl (V1.fieldPin rfl rfl fo_43_1 rfl (ltb rfl) ?_)
   refine VO.cons rfl (V1.loadPin rfl rfl tyk_3 rfl rfl (ltb rfl) ?_)
   refine VO.cons rfl (V1.assign rfl rfl rfl (ltb rfl) ?_)
   refine VO.cons rfl (V1.assign rfl rfl rfl (ltb rfl) ?_)
   refine VO.nil ?_
   refine V.ret ?_
   obtain rfl := Option.some.inj hm0
   exact ⟨_, [], ⟨_, _, rfl, rfl, ⟨_, _, rfl, rfl, rfl⟩⟩, List.nil_sublist _, rfl, rfl⟩

theorem ok_impl_endOf {ρ0 rn : Nat} {r_ : Record} {rule : Rule} {r : Int} (h : M.impl_endOf r_ rule = some r) : Does Try.prog 149 [encRecord ρ0 r_, encRule rule] [] rn (fun x H => x = .int .i64 r ∧ H = []) := by
 have hm0 := h; clear h; unfold M.impl_endOf at hm0
 try dsimp only at hm0
 refine Does.intro (N := 20) Try.func149 rfl rfl rfl rfl ?_
 intro w0 S0
 refine V.seq ?_
 refine V.region ?_
 refine VO.cons rfl (V1.boxN (n := 4) rfl rfl rfl rfl rfl (ltb rfl) ?_)
 intro b0
 refine VO.cons rfl (V1.boxN (n := 4) rfl rfl rfl rfl rfl (ltb rfl) ?_)
 intro b1
 refine VO.cons rfl (V1.assign rfl rfl rfl (ltb rfl) ?_)
 refine VO.nil ?_
 refine V.seq ?_
 replace hm0 := bindO hm0; rcases hm0 with ⟨y0, hh0, hm0⟩
 refine V.region ?_
 refine VO.cons rfl (V1.loadRefAll (k := 1) rfl rfl tyk_26 rfl rfl rfl rfl rfl (ltb rfl) ?_)
 refine VO.cons rfl (V1.fieldRef rfl rfl fo_37_1 rfl (ltb rfl) ?_)
 refine VO.cons rfl (V1.loadRef (k := 0) rfl rfl tyk_3 rfl rfl rfl rfl rfl (ltb rfl) ?_)
 refine VO.cons rfl (V1.call rfl rfl rfl cok_156 rfl (ok_impl_dayOf hh0) rfl (ltb rfl) ?_)
 rintro _ _ ⟨rfl, rfl⟩
 refine VO.cons rfl (V1.move rfl rfl rfl (ltb rfl) ?_)
 refine VO.cons rfl (V1.extract rfl rfl rfl rfl (ltb rfl) ?_)
 refine VO.cons rfl (V1.extract rfl rfl rfl rfl (ltb rfl) ?_)
 refine VO.cons rfl (V1.assign rfl rfl rfl (ltb rfl) ?_)
 refine VO.cons rfl (V1.assign rfl rfl rfl (ltb rfl) ?_)
 refine VO.nil ?_
 refine V.keep 20 [3, 5, 6] [0] (E0 := [(3, .ref b1 4 0 0), (5, .int .i64 y0.1), (6, .bool y0.2)]) (H0 := [(b1, ⟨4, [encRule rule]⟩)]) rfl (⟨_, _, rfl, rfl, ⟨_, _, rfl, rfl, ⟨_, _, rfl, rfl, rfl⟩⟩⟩) (⟨_, _, rfl, rfl, rfl⟩) rfl ?_
 refine V.seq ?_
 refine V.seq ?_
 refine V.region ?_
 refine VO.cons rfl (V1.move rfl rfl rfl (ltb rfl) ?_)
 refine VO.cons rfl (V1.not rfl rfl rfl (ltb rfl) ?_)
 refine VO.nil ?_
 refine V.cond rfl (fun hc0 => ?_) (fun hc0 => ?_)
 ·
  replace hm0 := cond_t hc0 hm0
  refine V.seq ?_
  refine V.region ?_
  refine VO.cons rfl (V1.assign rfl rfl rfl (ltb rfl) ?_)
  refine VO.nil ?_
  refine V.ret ?_
  obtain rfl := Option.some.inj hm0
  exact ⟨_, [], ⟨_, _, rfl, rfl, rfl⟩, List.nil_sublist _, rfl, rfl⟩
 ·
  replace hm0 := cond_f hc0 hm0
  refine V.skip ?_
  refine V.seq ?_
  refine V.region ?_
  refine VO.cons rfl (V1.move rfl rfl rfl (ltb rfl) ?_)
  refine VO.cons rfl (V1.fieldRef rfl rfl fo_37_2 rfl (ltb rfl) ?_)
  refine VO.cons rfl (V1.loadRef (k := 0) rfl rfl tyk_3 rfl rfl rfl rfl rfl (ltb rfl) ?_)
  refine VO.cons rfl (V1.int rfl rfl rfl rfl rfl (ltb rfl) ?_)
  refine VO.cons rfl (V1.assign rfl rfl rfl (ltb rfl) ?_)
  refine VO.nil ?_
  refine V.ret ?_
  obtain rfl := Option.some.inj hm0
  exact ⟨_, [], ⟨_, _, rfl, rfl, rfl⟩, List.nil_sublist _, rfl, rfl⟩

theorem ok_impl_EndsOf {ρ0 ρ1 rn : Nat} {r_ : Record} {schedule : List Rule} {r : List Int × Bool} (h : M.impl_EndsOf r_ schedule = some r) : Does Try.prog 14 [encRecord ρ0 r_, .vl ρ1 4 (List.map encRule schedule)] [] rn (fun x H => ∃ (ob0_ : Option Nat), (ob0_ = none → r.1 = []) ∧ x = .tup [optS 1 ob0_ (List.length r.1), .bool r.2] ∧ H = optH 1 ob0_ (List.map encInt r.1)) := by
 have hm0 := h; clear h; unfold M.impl_EndsOf at hm0
 try dsimp only at hm0
 refine Does.intro (N := 30) Try.func14 rfl rfl rfl rfl ?_
 intro w0 S0
 refine V.seq ?_
 refine V.region ?_
 refine VO.cons rfl (V1.boxN (n := 4) rfl rfl rfl rfl rfl (ltb rfl) ?_)
 intro b0
 refine VO.cons rfl (V1.assign rfl rfl rfl (ltb rfl) ?_)
 refine VO.cons rfl (V1.assign rfl rfl rfl (ltb rfl) ?_)
 refine VO.nil ?_
 refine V.seq ?_
 refine V.seq ?_
 replace hm0 := bindO hm0; rcases hm0 with ⟨y0, hh0, hm0⟩
 refine V.region ?_
 refine VO.cons rfl (V1.loadRefAll (k := 0) rfl rfl tyk_26 rfl rfl rfl rfl rfl (ltb rfl) ?_)
 refine VO.cons rfl (V1.move rfl rfl rfl (ltb rfl) ?_)
 refine VO.cons rfl (V1.call rfl rfl rfl cok_147 rfl (ok_impl_areBoth hh0) rfl (ltb rfl) ?_)
 rintro _ _ ⟨rfl, rfl⟩
 refine VO.cons rfl (V1.not rfl rfl rfl (ltb rfl) ?_)
 refine VO.nil ?_
 refine V.keep 30 [1, 2, 12] [0] (E0 := [(1, .vl ρ1 4 (List.map encRule schedule)), (2, .ref b0 4 0 0), (12, .bool (!y0))]) (H0 := [(b0, ⟨4, [encRecord ρ0 r_]⟩)]) rfl (⟨_, _, rfl, rfl, ⟨_, _, rfl, rfl, ⟨_, _, rfl, rfl, rfl⟩⟩⟩) (⟨_, _, rfl, rfl, rfl⟩) rfl ?_
 refine V.cond rfl (fun hc0 => ?_) (fun hc0 => ?_)
 ·
  replace hm0 := cond_t hc0 hm0
  refine V.seq ?_
  refine V.region ?_
  refine VO.cons rfl (V1.assign rfl rfl rfl (ltb rfl) ?_)
  refine VO.cons rfl (V1.assign rfl rfl rfl (ltb rfl) ?_)
  refine VO.nil ?_
  refine V.keep 30 [4, 5] [] (E0 := [(4, .nils), (5, .bool false)]) (H0 := []) rfl (⟨_, _, rfl, rfl, ⟨_, _, rfl, rfl, rfl⟩⟩) (rfl) rfl ?_
  refine V.ret ?_
  obtain rfl := Option.some.inj hm0
  exact ⟨_, _, ⟨_, _, rfl, rfl, ⟨_, _, rfl, rfl, rfl⟩⟩, List.Sublist.refl _, none, (fun _ => rfl), rfl, rfl⟩
 ·
  replace hm0 := cond_f hc0 hm0
  refine V.skip ?_
  refine V.seq ?_
  refine V.region ?_
  refine VO.cons rfl (V1.assign rfl rfl rfl (ltb rfl) ?_)
  refine VO.nil ?_
  refine V.seq ?_
  refine V.seq ?_
  replace hm0 := bindO hm0; rcases hm0 with ⟨y1, hh1, hm0⟩
  refine V.region ?_
  refine VO.cons rfl (V1.move rfl rfl rfl (ltb rfl) ?_)
  refine VO.cons rfl (V1.fieldRef rfl rfl fo_26_1 rfl (ltb rfl) ?_)
  refine VO.cons rfl (V1.loadRef (k := 0) rfl rfl tyk_3 rfl rfl rfl rfl rfl (ltb rfl) ?_)
  refine VO.cons rfl (V1.permK (V1.call rfl rfl rfl cok_148 rfl (ok_impl_rulesFor hh1) rfl (ltb rfl) ?_))
  rintro _ _ ⟨ob0, hob0, rfl, rfl⟩
  refine ⟨_, ?_, Keeps.optBack (n := 4) (ob := ob0) (xs := List.map encRule y1) (H1 := []) (H2 := [(b0, ⟨4, [encRecord ρ0 r_]⟩)]) rfl⟩
  refine VO.weakenK (Keeps.optFront (n := 4) (ob := ob0) (xs := List.map encRule y1) (H1 := [(b0, ⟨4, [encRecord ρ0 r_]⟩)]) rfl) ?_
  refine VO.weakenK (Keeps.optVl 16 [] rn (f := encRule) (l := y1) (ob := ob0) (H1 := []) hob0 rfl rfl ⟨rfl, trivial⟩ (fun _ => rfl) rfl iNil) ?_
  refine VO.cons rfl (V1.lenMap rfl rfl rfl rfl rfl rfl isl_27 (ltb rfl) ?_)
  refine VO.cons rfl (V1.move rfl rfl rfl (ltb rfl) ?_)
  refine VO.nil ?_
  refine V.keep 30 [2, 6, 16, 17, 18] [0] (E0 := [(2, .ref b0 4 0 0), (6, .nils), (16, .vl rn 4 (List.map encRule y1)), (17, .int .i64 (y1.length : Int)), (18, .int .i64 (0 : Int))]) (H0 := [(b0, ⟨4, [encRecord ρ0 r_]⟩)]) rfl (⟨_, _, rfl, rfl, ⟨_, _, rfl, rfl, ⟨_, _, rfl, rfl, ⟨_, _, rfl, rfl, ⟨_, _, rfl, rfl, rfl⟩⟩⟩⟩⟩) (⟨_, _, rfl, rfl, rfl⟩) rfl ?_
  replace hm0 := bindO hm0; rcases hm0 with ⟨e0, he1, hm0⟩
  refine V.cutT (D := (List Int) × (Option Nat)) (fun ⟨ends, ob1⟩ => ⟨30, [(6, optS 1 ob1 (List.length ends))], optH 1 ob1 (List.map encInt ends)⟩) (fun ⟨ends, ob1⟩ => (ends = e0) ∧ (ob1 = none → ends = [])) ?_ ?_
  ·
   refine V.block ?_
   refine V.keep 30 [6, 18, 2, 16, 17] [0] (E0 := [(6, .nils), (18, .int .i64 (0 : Int)), (2, .ref b0 4 0 0), (16, .vl rn 4 (List.map encRule y1)), (17, .int .i64 (y1.length : Int))]) (H0 := [(b0, ⟨4, [encRecord ρ0 r_]⟩)]) rfl (⟨_, _, rfl, rfl, ⟨_, _, rfl, rfl, ⟨_, _, rfl, rfl, ⟨_, _, rfl, rfl, ⟨_, _, rfl, rfl, rfl⟩⟩⟩⟩⟩) (⟨_, _, rfl, rfl, rfl⟩) rfl ?_
   refine V.loopE (D := Nat × (List Int × Int) × (Option Nat)) (fun ⟨n0, ⟨ends0, v⟩, ob2⟩ => [(6, optS 1 ob2 (List.length ends0)), (18, .int .i64 v)]) (fun ⟨n0, ⟨ends0, v⟩, ob2⟩ => optH 1 ob2 (List.map encInt ends0)) (fun ⟨n0, ⟨ends0, v⟩, ob2⟩ => loopO (M.impl_EndsOf_l0 r_ y1) n0 (ends0, v) = some e0 ∧ (ob2 = none → ends0 = [])) (fun ⟨n0, _, _⟩ => n0) (rounds, (([] : List Int), (0 : Int)), none) rfl ⟨he1, (fun _ => rfl)⟩ ?_
   rintro ⟨n0, ⟨ends0, v⟩, ob2⟩ ⟨hP0, hob2⟩
   obtain ⟨m0, y2, rfl, hm1, hl1, hr1⟩ := loop_head hP0
   unfold M.impl_EndsOf_l0 at hm1; dsimp only at hm1
   rcases ob2 with _ | ob2
   ·
    replace hob2 := hob2 rfl
    show V _ _ _ ⟨30, [(6, .nils), (18, .int .i64 v), (2, .ref b0 4 0 0), (16, .vl rn 4 (List.map encRule y1)), (17, .int .i64 (y1.length : Int))], [(b0, ⟨4, [encRecord ρ0 r_]⟩)]⟩
    refine V.seq ?_
    refine V.region ?_
    refine VO.cons rfl (V1.int rfl rfl rfl rfl rfl (ltb rfl) ?_)
    refine VO.nil ?_
    refine V.seq ?_
    refine V.cond rfl (fun hc1 => ?_) (fun hc1 => ?_)
    ·
     replace hm1 := cond_t hc1 hm1
     refine V.skip ?_
     refine V.seq ?_
     refine V.block ?_
     refine V.seq ?_
     replace hm1 := asrt_some hm1; rcases hm1 with ⟨hh2, hm1⟩
     refine V.region ?_
     refine VO.cons rfl (V1.indexI rfl rfl esz_27 rfl rfl hh2 (ltb rfl) ?_)
     refine VO.cons rfl (V1.loadPinAll rfl rfl tyk_37 rfl rfl (ltb rfl) ?_)
     refine VO.cons rfl (V1.alloc rfl rfl zk_37 (ltb rfl) ?_)
     intro b1
     refine VO.cons rfl (V1.storeRefAll (k := 0) rfl rfl tyk_37 rfl rfl rfl rfl rfl rfl ?_)
     refine VO.nil ?_
     replace hm1 := bindO hm1; rcases hm1 with ⟨y3, hh3, hm1⟩
     replace hm1 := asrt_some hm1; rcases hm1 with ⟨hh4, hm1⟩
     refine V.region ?_
     refine VO.cons rfl (V1.move rfl rfl rfl (ltb rfl) ?_)
     refine VO.cons rfl (V1.loadRefAll (k := 1) rfl rfl tyk_26 rfl rfl rfl rfl rfl (ltb rfl) ?_)
     refine VO.cons rfl (V1.loadRefAll (k := 0) rfl rfl tyk_37 rfl rfl rfl rfl rfl (ltb rfl) ?_)
     refine VO.cons rfl (V1.call rfl rfl rfl cok_149 rfl (ok_impl_endOf hh3) rfl (ltb rfl) ?_)
     rintro _ _ ⟨rfl, rfl⟩
     refine VO.cons rfl (V1.buildSliceT (f := encInt) ([y3] : List Int) rfl rfl esz_30 zk_3 rfl rfl rfl rfl rfl rfl rfl (ltb rfl) ?_)
     intro b2
     refine VO.cons rfl (V1.appendNilE (f := encInt) (l := ends0) (m := ([y3] : List Int)) hob2 rfl rfl rfl rfl rfl esz_30 eby_30 zk_3 rfl rfl rfl (SrcOf.srMap (k := 0) rfl isl_30) rfl hh4 (ltb rfl) ?_)
     intro b3
     refine VO.cons rfl (V1.assign rfl rfl rfl (ltb rfl) ?_)
     refine VO.nil ?_
     refine V.keep 30 [2, 6, 16, 17, 18] [0, 3] (E0 := [(2, .ref b0 4 0 0), (6, .sref b3 1 0 (List.length (ends0 ++ ([y3] : List Int)))), (16, .vl rn 4 (List.map encRule y1)), (17, .int .i64 (y1.length : Int)), (18, .int .i64 v)]) (H0 := [(b3, ⟨1, List.map encInt (ends0 ++ ([y3] : List Int))⟩), (b0, ⟨4, [encRecord ρ0 r_]⟩)]) rfl (⟨_, _, rfl, rfl, ⟨_, _, rfl, rfl, ⟨_, _, rfl, rfl, ⟨_, _, rfl, rfl, ⟨_, _, rfl, rfl, rfl⟩⟩⟩⟩⟩) (⟨_, _, rfl, rfl, ⟨_, _, rfl, rfl, rfl⟩⟩) rfl ?_
     refine V.region ?_
     refine VO.cons rfl (V1.int rfl rfl rfl rfl rfl (ltb rfl) ?_)
     refine VO.cons rfl (V1.move rfl rfl rfl (ltb rfl) ?_)
     refine VO.nil ?_
     exact ⟨(m0, ((ends0 ++ ([y3] : List Int)), (IntKind.i64.wrap (v + (1 : Int)))), (some b3)), ⟨hl1 _ (Option.some.inj hm1).symm, (fun e => by cases e)⟩, Nat.lt_succ_self _, Keeps.mk (ks := [0, 1]) rfl ⟨rfl, rfl, rfl, rfl, rfl, trivial⟩ (⟨_, _, rfl, rfl, ⟨_, _, rfl, rfl, rfl⟩⟩) rfl⟩
    ·
     replace hm1 := cond_f hc1 hm1
     refine V.exit ?_
     obtain rfl := hr1 _ (Option.some.inj hm1).symm
     exact ⟨(ends0, none), ⟨rfl, (fun _ => hob2)⟩, Keeps.mk (ks := []) rfl ⟨rfl, trivial⟩ (rfl) rfl⟩
   ·
    show V _ _ _ ⟨30, [(6, .sref ob2 1 0 (List.length ends0)), (18, .int .i64 v), (2, .ref b0 4 0 0), (16, .vl rn 4 (List.map encRule y1)), (17, .int .i64 (y1.length : Int))], [(ob2, ⟨1, List.map encInt ends0⟩), (b0, ⟨4, [encRecord ρ0 r_]⟩)]⟩
    refine V.seq ?_
    refine V.region ?_
    refine VO.cons rfl (V1.int rfl rfl rfl rfl rfl (ltb rfl) ?_)
    refine VO.nil ?_
    refine V.seq ?_
    refine V.cond rfl (fun hc1 => ?_) (fun hc1 => ?_)
    ·
     replace hm1 := cond_t hc1 hm1
     refine V.skip ?_
     refine V.seq ?_
     refine V.block ?_
     refine V.seq ?_
     replace hm1 := asrt_some hm1; rcases hm1 with ⟨hh2, hm1⟩
     refine V.region ?_
     refine VO.cons rfl (V1.indexI rfl rfl esz_27 rfl rfl hh2 (ltb rfl) ?_)
     refine VO.cons rfl (V1.loadPinAll rfl rfl tyk_37 rfl rfl (ltb rfl) ?_)
     refine VO.cons rfl (V1.alloc rfl rfl zk_37 (ltb rfl) ?_)
     intro b1
     refine VO.cons rfl (V1.storeRefAll (k := 0) rfl rfl tyk_37 rfl rfl rfl rfl rfl rfl ?_)
     refine VO.nil ?_
     replace hm1 := bindO hm1; rcases hm1 with ⟨y3, hh3, hm1⟩
     replace hm1 := asrt_some hm1; rcases hm1 with ⟨hh4, hm1⟩
     refine V.region ?_
     refine VO.cons rfl (V1.move rfl rfl rfl (ltb rfl) ?_)
     refine VO.cons rfl (V1.loadRefAll (k := 2) rfl rfl tyk_26 rfl rfl rfl rfl rfl (ltb rfl) ?_)
     refine VO.cons rfl (V1.loadRefAll (k := 0) rfl rfl tyk_37 rfl rfl rfl rfl rfl (ltb rfl) ?_)
     refine VO.cons rfl (V1.call rfl rfl rfl cok_149 rfl (ok_impl_endOf hh3) rfl (ltb rfl) ?_)
     rintro _ _ ⟨rfl, rfl⟩
     refine VO.cons rfl (V1.buildSliceT (f := encInt) ([y3] : List Int) rfl rfl esz_30 zk_3 rfl rfl rfl rfl rfl rfl rfl (ltb rfl) ?_)
     intro b2
     refine VO.cons rfl (V1.appendMap (k := 2) (f := encInt) (l := ends0) (m := ([y3] : List Int)) rfl rfl rfl rfl rfl esz_30 eby_30 zk_3 rfl rfl rfl (SrcOf.srMap (k := 0) rfl isl_30) hh4 (ltb rfl) ?_)
     intro b3
     refine VO.cons rfl (V1.assign rfl rfl rfl (ltb rfl) ?_)
     refine VO.nil ?_
     refine V.keep 30 [2, 6, 16, 17, 18] [0, 3] (E0 := [(2, .ref b0 4 0 0), (6, .sref b3 1 0 (List.length (ends0 ++ ([y3] : List Int)))), (16, .vl rn 4 (List.map encRule y1)), (17, .int .i64 (y1.length : Int)), (18, .int .i64 v)]) (H0 := [(b3, ⟨1, List.map encInt (ends0 ++ ([y3] : List Int))⟩), (b0, ⟨4, [encRecord ρ0 r_]⟩)]) rfl (⟨_, _, rfl, rfl, ⟨_, _, rfl, rfl, ⟨_, _, rfl, rfl, ⟨_, _, rfl, rfl, ⟨_, _, rfl, rfl, rfl⟩⟩⟩⟩⟩) (⟨_, _, rfl, rfl, ⟨_, _, rfl, rfl, rfl⟩⟩) rfl ?_
     refine V.region ?_
     refine VO.cons rfl (V1.int rfl rfl rfl rfl rfl (ltb rfl) ?_)
     refine VO.cons rfl (V1.move rfl rfl rfl (ltb rfl) ?_)
     refine VO.nil ?_
     exact ⟨(m0, ((ends0 ++ ([y3] : List Int)), (IntKind.i64.wrap (v + (1 : Int)))), (some b3)), ⟨hl1 _ (Option.some.inj hm1).symm, (fun e => by cases e)⟩, Nat.lt_succ_self _, Keeps.mk (ks := [0, 1]) rfl ⟨rfl, rfl, rfl, rfl, rfl, trivial⟩ (⟨_, _, rfl, rfl, ⟨_, _, rfl, rfl, rfl⟩⟩) rfl⟩
    ·
     replace hm1 := cond_f hc1 hm1
     refine V.exit ?_
     obtain rfl := hr1 _ (Option.some.inj hm1).symm
     exact ⟨(ends0, (some ob2)), ⟨rfl, (fun e => by cases e)⟩, Keeps.mk (ks := [0]) rfl ⟨rfl, trivial⟩ (⟨_, _, rfl, rfl, rfl⟩) rfl⟩
  ·
   rintro ⟨ends, ob1⟩ ⟨rfl, hob1⟩
   try dsimp only at hm0
   rcases ob1 with _ | ob1
   ·
    replace hob1 := hob1 rfl
    refine V.seq ?_
    refine V.region ?_
    refine VO.cons rfl (V1.move rfl rfl rfl (ltb rfl) ?_)
    refine VO.cons rfl (V1.assign rfl rfl rfl (ltb rfl) ?_)
    refine VO.cons rfl (V1.assign rfl rfl rfl (ltb rfl) ?_)
    refine VO.nil ?_
    refine V.keep 30 [4, 5] [] (E0 := [(4, .nils), (5, .bool true)]) (H0 := []) rfl (⟨_, _, rfl, rfl, ⟨_, _, rfl, rfl, rfl⟩⟩) (rfl) rfl ?_
    refine V.ret ?_
    obtain rfl := Option.some.inj hm0
    exact ⟨_, _, ⟨_, _, rfl, rfl, ⟨_, _, rfl, rfl, rfl⟩⟩, List.Sublist.refl _, none, (fun _ => hob1), rfl, rfl⟩
   ·
    refine V.seq ?_
    refine V.region ?_
    refine VO.cons rfl (V1.move rfl rfl rfl (ltb rfl) ?_)
    refine VO.cons rfl (V1.assign rfl rfl rfl (ltb rfl) ?_)
    refine VO.cons rfl (V1.assign rfl rfl rfl (ltb rfl) ?_)
    refine VO.nil ?_
    refine V.keep 30 [4, 5] [0] (E0 := [(4, .sref ob1 1 0 (List.length ends)), (5, .bool true)]) (H0 := [(ob1, ⟨1, List.map encInt ends⟩)]) rfl (⟨_, _, rfl, rfl, ⟨_, _, rfl, rfl, rfl⟩⟩) (⟨_, _, rfl, rfl, rfl⟩) rfl ?_
    refine V.ret ?_
    obtain rfl := Option.some.inj hm0
    exact ⟨_, _, ⟨_, _, rfl, rfl, ⟨_, _, rfl, rfl, rfl⟩⟩, List.Sublist.refl _, some ob1, (fun e => by cases e), rfl, rfl⟩

theorem ok_spec_l2Day {rn : Nat} {d : Int} {r : Bool} (h : M.spec_l2Day d = some r) : Does Try.prog 181 [.int .i64 d] [] rn (fun x H => x = .bool r ∧ H = []) := by
 have hm0 := h; clear h; unfold M.spec_l2Day at hm0
 try dsimp only at hm0
 refine Does.intro (N := 5) Try.func181 rfl rfl rfl rfl ?_
 intro w0 S0
 refine V.seq ?_
 refine V.region ?_
 refine VO.cons rfl (V1.assign rfl rfl rfl (ltb rfl) ?_)
 refine VO.nil ?_
 refine V.seq ?_
 replace hm0 := bindO hm0; rcases hm0 with ⟨y0, hh0, hm0⟩
 refine V.region ?_
 refine VO.cons rfl (V1.move rfl rfl rfl (ltb rfl) ?_)
 refine VO.cons rfl (V1.call rfl rfl rfl cok_188 rfl (ok_spec_l1In hh0) rfl (ltb rfl) ?_)
 rintro _ _ ⟨rfl, rfl⟩
 refine VO.cons rfl (V1.assign rfl rfl rfl (ltb rfl) ?_)
 refine VO.nil ?_
 refine V.ret ?_
 obtain rfl := Option.some.inj hm0
 exact ⟨_, [], ⟨_, _, rfl, rfl, rfl⟩, List.nil_sublist _, rfl, rfl⟩

theorem ok_spec_l2Event {rn : Nat} {e_ : Event} {r : Bool} (h : M.spec_l2Event e_ = some r) : Does Try.prog 274 [encEvent e_] [] rn (fun x H => x = .bool r ∧ H = []) := by
 have hm0 := h; clear h; unfold M.spec_l2Event at hm0
 try dsimp only at hm0
 refine Does.intro (N := 11) Try.func274 rfl rfl rfl rfl ?_
 intro w0 S0
 refine V.seq ?_
 refine V.region ?_
 refine VO.cons rfl (V1.boxN (n := 2) rfl rfl rfl rfl rfl (ltb rfl) ?_)
 intro b0
 refine VO.cons rfl (V1.assign rfl rfl rfl (ltb rfl) ?_)
 refine VO.nil ?_
 refine V.seq ?_
 replace hm0 := bindO hm0; rcases hm0 with ⟨y0, hh0, hm0⟩
 replace hm0 := bindO hm0; rcases hm0 with ⟨y1, hh1, hm0⟩
 refine V.region ?_
 refine VO.cons rfl (V1.fieldRef rfl rfl fo_43_0 rfl (ltb rfl) ?_)
 refine VO.cons rfl (V1.loadRef (k := 0) rfl rfl tyk_3 rfl rfl rfl rfl rfl (ltb rfl) ?_)
 refine VO.cons rfl (V1.call rfl rfl rfl cok_188 rfl (ok_spec_l1In hh0) rfl (ltb rfl) ?_)
 rintro _ _ ⟨rfl, rfl⟩
 refine VO.cons rfl (V1.move rfl rfl rfl (ltb rfl) ?_)
 apply VO.and (n := 3) rfl rfl rfl rfl rfl rfl (ltb rfl) (.none rfl)
 ·
  intro hg0
  refine VO.step (.some rfl rfl rfl) (V1.fieldRef rfl rfl fo_43_1 rfl (ltb rfl) ?_)
  refine VO.step (.some rfl rfl rfl) (V1.loadRef (k := 0) rfl rfl tyk_3 rfl rfl rfl rfl rfl (ltb rfl) ?_)
  refine VO.step (.some rfl rfl rfl) (V1.call rfl rfl rfl cok_181 rfl (ok_spec_l2Day (cond_t hg0 hh1)) rfl (ltb rfl) ?_)
  rintro _ _ ⟨rfl, rfl⟩
  exact VO.nil ⟨rfl, rfl, rfl, rfl, .inr ⟨rfl, .inr ⟨rfl, .inr ⟨rfl, .inr ⟨rfl, .inl rfl⟩⟩⟩⟩⟩
 refine VO.cons rfl (V1.assign rfl rfl rfl (ltb rfl) ?_)
 refine VO.nil ?_
 refine V.ret ?_
 obtain rfl := Option.some.inj hm0
 exact ⟨_, [], ⟨_, _, rfl, rfl, rfl⟩, List.nil_sublist _, rfl, rfl⟩

theorem ok_spec_l2Record {ρ0 rn : Nat} {r_ : Record} {r : Bool} (h : M.spec_l2Record r_ = some r) : Does Try.prog 268 [encRecord ρ0 r_] [] rn (fun x H => x = .bool r ∧ H = []) := by
 have hm0 := h; clear h; unfold M.spec_l2Record at hm0
 try dsimp only at hm0
 refine Does.intro (N := 62) Try.func268 rfl rfl rfl rfl ?_
 intro w0 S0
 refine V.seq ?_
 refine V.region ?_
 refine VO.cons rfl (V1.boxN (n := 4) rfl rfl rfl rfl rfl (ltb rfl) ?_)
 intro b0
 refine VO.cons rfl (V1.assign rfl rfl rfl (ltb rfl) ?_)
 refine VO.nil ?_
 refine V.seq ?_
 refine V.seq ?_
 refine V.region ?_
 refine VO.cons rfl (V1.assign rfl rfl rfl (ltb rfl) ?_)
 refine VO.nil ?_
 replace hm0 := bindO hm0; rcases hm0 with ⟨e0, he1, hm0⟩
 refine V.cutT (D := (Unit) × (Unit)) (fun ⟨_, _⟩ => ⟨62, [(1, .ref b0 4 0 0)], [(b0, ⟨4, [encRecord ρ0 r_]⟩)]⟩) (fun ⟨_, _⟩ => (.inl () = e0)) ?_ ?_
 ·
  refine V.block ?_
  refine V.keep 62 [3, 1] [0] (E0 := [(3, .int .i64 (0 : Int)), (1, .ref b0 4 0 0)]) (H0 := [(b0, ⟨4, [encRecord ρ0 r_]⟩)]) rfl (⟨_, _, rfl, rfl, ⟨_, _, rfl, rfl, rfl⟩⟩) (⟨_, _, rfl, rfl, rfl⟩) rfl ?_
  refine V.loopE (D := Nat × (Int) × (Unit)) (fun ⟨n0, i, _⟩ => [(3, .int .i64 i)]) (fun ⟨n0, i, _⟩ => []) (fun ⟨n0, i, _⟩ => loopO (M.spec_l2Record_l0 r_) n0 i = some e0) (fun ⟨n0, _, _⟩ => n0) (rounds, (0 : Int), ()) rfl he1 ?_
  rintro ⟨n0, i, _⟩ hP0
  obtain ⟨m0, y0, rfl, hm1, hl1, hr1⟩ := loop_head hP0
  unfold M.spec_l2Record_l0 at hm1; dsimp only at hm1
  show V _ _ _ ⟨62, [(3, .int .i64 i), (1, .ref b0 4 0 0)], [(b0, ⟨4, [encRecord ρ0 r_]⟩)]⟩
  refine V.seq ?_
  refine V.seq ?_
  refine V.region ?_
  refine VO.cons rfl (V1.move rfl rfl rfl (ltb rfl) ?_)
  refine VO.cons rfl (V1.fieldRef rfl rfl fo_26_3 rfl (ltb rfl) ?_)
  refine VO.cons rfl (V1.loadRef (k := 0) rfl rfl tyk_24 rfl rfl rfl rfl rfl (ltb rfl) ?_)
  refine VO.cons rfl (V1.lenMap rfl rfl rfl rfl rfl rfl isl_24 (ltb rfl) ?_)
  refine VO.cons rfl (V1.int rfl rfl rfl rfl rfl (ltb rfl) ?_)
  refine VO.nil ?_
  refine V.keep 62 [1, 3, 9] [0] (E0 := [(1, .ref b0 4 0 0), (3, .int .i64 i), (9, .bool (decide (i < (r_.Events.length : Int))))]) (H0 := [(b0, ⟨4, [encRecord ρ0 r_]⟩)]) rfl (⟨_, _, rfl, rfl, ⟨_, _, rfl, rfl, ⟨_, _, rfl, rfl, rfl⟩⟩⟩) (⟨_, _, rfl, rfl, rfl⟩) rfl ?_
  refine V.cond rfl (fun hc0 => ?_) (fun hc0 => ?_)
  ·
   replace hm1 := cond_t hc0 hm1
   refine V.skip ?_
   refine V.seq ?_
   refine V.block ?_
   refine V.seq ?_
   replace hm1 := asrt_some hm1; rcases hm1 with ⟨hh0, hm1⟩
   refine V.region ?_
   refine VO.cons rfl (V1.fieldRef rfl rfl fo_26_3 rfl (ltb rfl) ?_)
   refine VO.cons rfl (V1.loadRef (k := 0) rfl rfl tyk_24 rfl rfl rfl rfl rfl (ltb rfl) ?_)
   refine VO.cons rfl (V1.move rfl rfl rfl (ltb rfl) ?_)
   refine VO.cons rfl (V1.indexI rfl rfl esz_24 rfl rfl hh0 (ltb rfl) ?_)
   refine VO.cons rfl (V1.loadPinAll rfl rfl tyk_43 rfl rfl (ltb rfl) ?_)
   refine VO.cons rfl (V1.alloc rfl rfl zk_43 (ltb rfl) ?_)
   intro b1
   refine VO.cons rfl (V1.storeRefAll (k := 0) rfl rfl tyk_43 rfl rfl rfl rfl rfl rfl ?_)
   refine VO.nil ?_
   refine V.keep 62 [1, 3, 4] [0, 1] (E0 := [(1, .ref b0 4 0 0), (3, .int .i64 i), (4, .ref b1 2 0 0)]) (H0 := [(b1, ⟨2, [encEvent (r_.Events.getD (Int.toNat i) default)]⟩), (b0, ⟨4, [encRecord ρ0 r_]⟩)]) rfl (⟨_, _, rfl, rfl, ⟨_, _, rfl, rfl, ⟨_, _, rfl, rfl, rfl⟩⟩⟩) (⟨_, _, rfl, rfl, ⟨_, _, rfl, rfl, rfl⟩⟩) rfl ?_
   refine V.seq ?_
   replace hm1 := bindO hm1; rcases hm1 with ⟨y1, hh1, hm1⟩
   replace hm1 := asrt_some hm1; rcases hm1 with ⟨hh2, hm1⟩
   refine V.regionM 62 26 [⟨[(4, none)], [], none⟩, ⟨[(17, some 0)], [], none⟩, ⟨[(18, some 0)], [], none⟩, ⟨[(19, some 0)], [], none⟩, ⟨[(4, none)], [(0, false)], none⟩, ⟨[(21, some 0)], [(1, false)], none⟩, ⟨[(1, none)], [(2, false)], none⟩, ⟨[(23, some 0)], [(3, false)], none⟩, ⟨[(22, some 2), (24, some 0)], [(4, false)], none⟩, ⟨[], [], some (false, 20, 25, 5, 0)⟩, ⟨[(26, some 0)], [], none⟩, ⟨[(3, none)], [(0, false)], none⟩, ⟨[(28, some 0)], [(1, false)], none⟩, ⟨[(29, some 0)], [(2, false)], none⟩, ⟨[(1, none)], [(0, true), (3, false)], none⟩, ⟨[(31, some 0)], [(1, true), (4, false)], none⟩, ⟨[(3, none)], [(2, true), (5, false)], none⟩, ⟨[(33, some 0)], [(3, true), (6, false)], none⟩, ⟨[(32, some 2), (34, some 0)], [(4, true), (7, false)], none⟩, ⟨[(35, some 0)], [(5, true), (8, false)], none⟩, ⟨[(36, some 0)], [(6, true), (9, false)], none⟩, ⟨[(4, none)], [(7, true), (10, false)], none⟩, ⟨[(38, some 0)], [(8, true), (11, false)], none⟩, ⟨[(37, some 2), (39, some 0)], [(9, true), (12, false)], none⟩, ⟨[], [(13, false)], some (true, 30, 40, 10, 0)⟩, ⟨[], [], some (false, 27, 41, 14, 0)⟩] [(1, none), (3, none), (42, some 0)] (⟨_, rfl, ⟨_, rfl, ⟨_, rfl, ⟨_, rfl, ⟨_, rfl, ⟨_, rfl, ⟨_, rfl, ⟨_, rfl, ⟨_, rfl, ⟨_, rfl, ⟨_, rfl, ⟨_, rfl, ⟨_, rfl, ⟨_, rfl, ⟨_, rfl, ⟨_, rfl, ⟨_, rfl, ⟨_, rfl, ⟨_, rfl, ⟨_, rfl, ⟨_, rfl, ⟨_, rfl, ⟨_, rfl, ⟨_, rfl, ⟨_, rfl, ⟨_, rfl, ⟨rfl, rfl⟩⟩⟩⟩⟩⟩⟩⟩⟩⟩⟩⟩⟩⟩⟩⟩⟩⟩⟩⟩⟩⟩⟩⟩⟩⟩⟩) mixed_orders rfl (by decide +kernel) (fun hck5 => ?_)
   refine VP.step (p := ?pv185) rfl rfl rfl (⟨_, _, rfl, rfl, rfl⟩) ?hv185 ?rest185 hck5
   case hv185 =>
    intro E1
    refine (V1.loadRefAll (k := 0) rfl rfl tyk_43 rfl rfl rfl rfl rfl (ltb rfl) ?_)
    exact rfl
   refine VP.step (p := ?pv186) rfl rfl rfl (⟨_, _, rfl, rfl, rfl⟩) ?hv186 ?rest186 hck5
   case hv186 =>
    intro E1
    refine (V1.call rfl rfl rfl cok_274 rfl (ok_spec_l2Event hh1) rfl (ltb rfl) ?_)
    rintro _ _ ⟨rfl, rfl⟩
    exact rfl
   refine VP.step (p := ?pv187) rfl rfl rfl (⟨_, _, rfl, rfl, rfl⟩) ?hv187 ?rest187 hck5
   case hv187 =>
    intro E1
    refine (V1.not rfl rfl rfl (ltb rfl) ?_)
    exact rfl
   refine VP.step (p := ?pv188) rfl rfl rfl (⟨_, _, rfl, rfl, rfl⟩) ?hv188 ?rest188 hck5
   case hv188 =>
    intro E1
    refine (V1.move rfl rfl rfl (ltb rfl) ?_)
    exact rfl
   refine VP.step (p := ?pv189) rfl rfl rfl (⟨_, _, rfl, rfl, rfl⟩) ?hv189 ?rest189 hck5
   case hv189 =>
    refine ⟨_, rfl, fun hg0 => ?_⟩
    intro E1
    refine (V1.fieldRef rfl rfl fo_43_1 rfl (ltb rfl) ?_)
    exact rfl
   refine VP.step (p := ?pv190) rfl rfl rfl (⟨_, _, rfl, rfl, rfl⟩) ?hv190 ?rest190 hck5
   case hv190 =>
    refine ⟨_, rfl, fun hg0 => ?_⟩
    intro E1
    refine (V1.loadRef (k := 0) rfl rfl tyk_3 rfl rfl rfl rfl rfl (ltb rfl) ?_)
    exact rfl
   refine VP.step (p := ?pv191) rfl rfl rfl (⟨_, _, rfl, rfl, rfl⟩) ?hv191 ?rest191 hck5
   case hv191 =>
    refine ⟨_, rfl, fun hg0 => ?_⟩
    intro E1
    refine (V1.fieldRef rfl rfl fo_26_2 rfl (ltb rfl) ?_)
    exact rfl
   refine VP.step (p := ?pv192) rfl rfl rfl (⟨_, _, rfl, rfl, rfl⟩) ?hv192 ?rest192 hck5
   case hv192 =>
    refine ⟨_, rfl, fun hg0 => ?_⟩
    intro E1
    refine (V1.loadRef (k := 1) rfl rfl tyk_3 rfl rfl rfl rfl rfl (ltb rfl) ?_)
    exact rfl
   refine VP.step (p := ?pv193) rfl rfl rfl (⟨_, _, rfl, rfl, ⟨_, _, rfl, rfl, rfl⟩⟩) ?hv193 ?rest193 hck5
   case hv193 =>
    refine ⟨_, rfl, fun hg0 => ?_⟩
    intro E1
    refine (V1.int rfl rfl rfl rfl rfl (ltb rfl) ?_)
    exact rfl
   refine VP.pickOr rfl rfl rfl rfl rfl rfl (trivial) ?_ hck5
   refine VP.step (p := ?pv194) rfl rfl rfl (⟨_, _, rfl, rfl, rfl⟩) ?hv194 ?rest194 hck5
   case hv194 =>
    intro E1
    refine (V1.move rfl rfl rfl (ltb rfl) ?_)
    exact rfl
   refine VP.step (p := ?pv195) rfl rfl rfl (⟨_, _, rfl, rfl, rfl⟩) ?hv195 ?rest195 hck5
   case hv195 =>
    refine ⟨_, rfl, fun hg1 => ?_⟩
    intro E1
    refine (V1.move rfl rfl rfl (ltb rfl) ?_)
    exact rfl
   refine VP.step (p := ?pv196) rfl rfl rfl (⟨_, _, rfl, rfl, rfl⟩) ?hv196 ?rest196 hck5
   case hv196 =>
    refine ⟨_, rfl, fun hg1 => ?_⟩
    intro E1
    refine (V1.int rfl rfl rfl rfl rfl (ltb rfl) ?_)
    exact rfl
   refine VP.step (p := ?pv197) rfl rfl rfl (⟨_, _, rfl, rfl, rfl⟩) ?hv197 ?rest197 hck5
   case hv197 =>
    refine ⟨_, rfl, fun hg1 => ?_⟩
    intro E1
    refine (V1.move rfl rfl rfl (ltb rfl) ?_)
    exact rfl
   refine VP.step (p := ?pv198) rfl rfl rfl (⟨_, _, rfl, rfl, rfl⟩) ?hv198 ?rest198 hck5
   case hv198 =>
    refine ⟨_, rfl, fun hg2 => ?_⟩
    refine ⟨_, rfl, fun hg1 => ?_⟩
    intro E1
    refine (V1.fieldRef rfl rfl fo_26_3 rfl (ltb rfl) ?_)
    exact rfl
   refine VP.step (p := ?pv199) rfl rfl rfl (⟨_, _, rfl, rfl, rfl⟩) ?hv199 ?rest199 hck5
   case hv199 =>
    refine ⟨_, rfl, fun hg2 => ?_⟩
    refine ⟨_, rfl, fun hg1 => ?_⟩
    intro E1
    refine (V1.loadRef (k := 1) rfl rfl tyk_24 rfl rfl rfl rfl rfl (ltb rfl) ?_)
    exact rfl
   refine VP.step (p := ?pv200) rfl rfl rfl (⟨_, _, rfl, rfl, rfl⟩) ?hv200 ?rest200 hck5
   case hv200 =>
    refine ⟨_, rfl, fun hg2 => ?_⟩
    refine ⟨_, rfl, fun hg1 => ?_⟩
    intro E1
    refine (V1.move rfl rfl rfl (ltb rfl) ?_)
    exact rfl
   refine VP.step (p := ?pv201) rfl rfl rfl (⟨_, _, rfl, rfl, rfl⟩) ?hv201 ?rest201 hck5
   case hv201 =>
    refine ⟨_, rfl, fun hg2 => ?_⟩
    refine ⟨_, rfl, fun hg1 => ?_⟩
    intro E1
    refine (V1.int rfl rfl rfl rfl rfl (ltb rfl) ?_)
    exact rfl
   refine VP.step (p := ?pv202) rfl rfl rfl (⟨_, _, rfl, rfl, ⟨_, _, rfl, rfl, rfl⟩⟩) ?hv202 ?rest202 hck5
   case hv202 =>
    refine ⟨_, rfl, fun hg2 => ?_⟩
    refine ⟨_, rfl, fun hg1 => ?_⟩
    intro E1
    refine (V1.indexI rfl rfl esz_24 rfl rfl (hh2 hg1 hg2) (ltb rfl) ?_)
    exact rfl
   refine VP.step (p := ?pv203) rfl rfl rfl (⟨_, _, rfl, rfl, rfl⟩) ?hv203 ?rest203 hck5
   case hv203 =>
    refine ⟨_, rfl, fun hg2 => ?_⟩
    refine ⟨_, rfl, fun hg1 => ?_⟩
    intro E1
    refine (V1.fieldPin rfl rfl fo_43_0 rfl (ltb rfl) ?_)
    exact rfl
   refine VP.step (p := ?pv204) rfl rfl rfl (⟨_, _, rfl, rfl, rfl⟩) ?hv204 ?rest204 hck5
   case hv204 =>
    refine ⟨_, rfl, fun hg2 => ?_⟩
    refine ⟨_, rfl, fun hg1 => ?_⟩
    intro E1
    refine (V1.loadPin rfl rfl tyk_3 rfl rfl (ltb rfl) ?_)
    exact rfl
   refine VP.step (p := ?pv205) rfl rfl rfl (⟨_, _, rfl, rfl, rfl⟩) ?hv205 ?rest205 hck5
   case hv205 =>
    refine ⟨_, rfl, fun hg2 => ?_⟩
    refine ⟨_, rfl, fun hg1 => ?_⟩
    intro E1
    refine (V1.fieldRef rfl rfl fo_43_0 rfl (ltb rfl) ?_)
    exact rfl
   refine VP.step (p := ?pv206) rfl rfl rfl (⟨_, _, rfl, rfl, rfl⟩) ?hv206 ?rest206 hck5
   case hv206 =>
    refine ⟨_, rfl, fun hg2 => ?_⟩
    refine ⟨_, rfl, fun hg1 => ?_⟩
    intro E1
    refine (V1.loadRef (k := 0) rfl rfl tyk_3 rfl rfl rfl rfl rfl (ltb rfl) ?_)
    exact rfl
   refine VP.step (p := ?pv207) rfl rfl rfl (⟨_, _, rfl, rfl, ⟨_, _, rfl, rfl, rfl⟩⟩) ?hv207 ?rest207 hck5
   case hv207 =>
    refine ⟨_, rfl, fun hg2 => ?_⟩
    refine ⟨_, rfl, fun hg1 => ?_⟩
    intro E1
    refine (V1.int rfl rfl rfl rfl rfl (ltb rfl) ?_)
    exact rfl
   refine VP.pickAnd rfl rfl rfl rfl rfl rfl (⟨_, rfl, fun _ => trivial⟩) ?_ hck5
   refine VP.pickOr rfl rfl rfl rfl rfl rfl (trivial) ?_ hck5
   refine VP.fin rfl (⟨_, _, rfl, rfl, ⟨_, _, rfl, rfl, ⟨_, _, rfl, rfl, rfl⟩⟩⟩) ?_
   refine VO.nil ?_
   refine V.cond rfl (fun hc1 => ?_) (fun hc1 => ?_)
   ·
    replace hm1 := cond_t hc1 hm1
    refine V.seq ?_
    refine V.region ?_
    refine VO.cons rfl (V1.assign rfl rfl rfl (ltb rfl) ?_)
    refine VO.nil ?_
    refine V.ret ?_
    obtain rfl := hr1 _ (Option.some.inj hm1).symm
    change some _ = some _ at hm0
    obtain rfl := Option.some.inj hm0
    exact ⟨_, [], ⟨_, _, rfl, rfl, rfl⟩, List.nil_sublist _, rfl, rfl⟩
   ·
    replace hm1 := cond_f hc1 hm1
    refine V.skip ?_
    refine V.region ?_
    refine VO.cons rfl (V1.move rfl rfl rfl (ltb rfl) ?_)
    refine VO.cons rfl (V1.int rfl rfl rfl rfl rfl (ltb rfl) ?_)
    refine VO.cons rfl (V1.assign rfl rfl rfl (ltb rfl) ?_)
    refine VO.nil ?_
    exact ⟨(m0, (IntKind.i64.wrap (i + (1 : Int))), ()), hl1 _ (Option.some.inj hm1).symm, Nat.lt_succ_self _, Keeps.mk (ks := [1]) rfl ⟨rfl, rfl, trivial⟩ (⟨_, _, rfl, rfl, rfl⟩) rfl⟩
  ·
   replace hm1 := cond_f hc0 hm1
   refine V.exit ?_
   obtain rfl := hr1 _ (Option.some.inj hm1).symm
   exact ⟨((), ()), rfl, Keeps.mk (ks := [0]) rfl ⟨rfl, trivial⟩ (⟨_, _, rfl, rfl, rfl⟩) rfl⟩
 ·
  rintro ⟨_, _⟩ rfl
  try dsimp only at hm0
  refine V.seq ?_
  replace hm0 := bindO hm0; rcases hm0 with ⟨y2, hh3, hm0⟩
  replace hm0 := bindO hm0; rcases hm0 with ⟨y3, hh4, hm0⟩
  replace hm0 := bindO hm0; rcases hm0 with ⟨y4, hh5, hm0⟩
  refine V.region ?_
  refine VO.cons rfl (V1.fieldRef rfl rfl fo_26_0 rfl (ltb rfl) ?_)
  refine VO.cons rfl (V1.loadRef (k := 0) rfl rfl tyk_3 rfl rfl rfl rfl rfl (ltb rfl) ?_)
  refine VO.cons rfl (V1.call rfl rfl rfl cok_188 rfl (ok_spec_l1In hh3) rfl (ltb rfl) ?_)
  rintro _ _ ⟨rfl, rfl⟩
  refine VO.cons rfl (V1.move rfl rfl rfl (ltb rfl) ?_)
  apply VO.and (n := 3) rfl rfl rfl rfl rfl rfl (ltb rfl) (.none rfl)
  ·
   intro hg3
   refine VO.step (.some rfl rfl rfl) (V1.fieldRef rfl rfl fo_26_1 rfl (ltb rfl) ?_)
   refine VO.step (.some rfl rfl rfl) (V1.loadRef (k := 0) rfl rfl tyk_3 rfl rfl rfl rfl rfl (ltb rfl) ?_)
   refine VO.step (.some rfl rfl rfl) (V1.call rfl rfl rfl cok_188 rfl (ok_spec_l1In (cond_t hg3 hh4)) rfl (ltb rfl) ?_)
   rintro _ _ ⟨rfl, rfl⟩
   exact VO.nil ⟨rfl, rfl, rfl, rfl, .inr ⟨rfl, .inr ⟨rfl, .inr ⟨rfl, .inr ⟨rfl, .inl rfl⟩⟩⟩⟩⟩
  refine VO.cons rfl (V1.move rfl rfl rfl (ltb rfl) ?_)
  apply VO.and (n := 3) rfl rfl rfl rfl rfl rfl (ltb rfl) (.none rfl)
  ·
   intro hg4
   refine VO.step (.some rfl rfl rfl) (V1.fieldRef rfl rfl fo_26_2 rfl (ltb rfl) ?_)
   refine VO.step (.some rfl rfl rfl) (V1.loadRef (k := 0) rfl rfl tyk_3 rfl rfl rfl rfl rfl (ltb rfl) ?_)
   refine VO.step (.some rfl rfl rfl) (V1.call rfl rfl rfl cok_181 rfl (ok_spec_l2Day (cond_t hg4 hh5)) rfl (ltb rfl) ?_)
   rintro _ _ ⟨rfl, rfl⟩
   exact VO.nil ⟨rfl, rfl, rfl, rfl, .inr ⟨rfl, .inr ⟨rfl, .inr ⟨rfl, .inr ⟨rfl, .inl rfl⟩⟩⟩⟩⟩
  refine VO.cons rfl (V1.move rfl rfl rfl (ltb rfl) ?_)
  apply VO.and (n := 4) rfl rfl rfl rfl rfl rfl (ltb rfl) (.none rfl)
  ·
   intro hg5
   refine VO.step (.some rfl rfl rfl) (V1.fieldRef rfl rfl fo_26_3 rfl (ltb rfl) ?_)
   refine VO.step (.some rfl rfl rfl) (V1.loadRef (k := 0) rfl rfl tyk_24 rfl rfl rfl rfl rfl (ltb rfl) ?_)
   refine VO.step (.some rfl rfl rfl) (V1.lenMap rfl rfl rfl rfl rfl rfl isl_24 (ltb rfl) ?_)
   refine VO.step (.some rfl rfl rfl) (V1.int rfl rfl rfl rfl rfl (ltb rfl) ?_)
   exact VO.nil ⟨rfl, rfl, rfl, rfl, .inr ⟨rfl, .inr ⟨rfl, .inr ⟨rfl, .inr ⟨rfl, .inr ⟨rfl, .inl rfl⟩⟩⟩⟩⟩⟩
  refine VO.cons rfl (V1.assign rfl rfl rfl (ltb rfl) ?_)
  refine VO.nil ?_
  refine V.ret ?_
  obtain rfl := Option.some.inj hm0
  exact ⟨_, [], ⟨_, _, rfl, rfl, rfl⟩, List.nil_sublist _, rfl, rfl⟩

theorem ok_spec_l6Asked {ρ0 ρ1 rn : Nat} {r_ : Record} {schedule : List Rule} {r : Bool} (h : M.spec_l6Asked r_ schedule = some r) : Does Try.prog 150 [encRecord ρ0 r_, .vl ρ1 4 (List.map encRule schedule)] [] rn (fun x H => x = .bool r ∧ H = []) := by
 have hm0 := h; clear h; unfold M.spec_l6Asked at hm0
 try dsimp only at hm0
 refine Does.intro (N := 11) Try.func150 rfl rfl rfl rfl ?_
 intro w0 S0
 refine V.seq ?_
 refine V.region ?_
 refine VO.cons rfl (V1.boxN (n := 4) rfl rfl rfl rfl rfl (ltb rfl) ?_)
 intro b0
 refine VO.cons rfl (V1.assign rfl rfl rfl (ltb rfl) ?_)
 refine VO.nil ?_
 refine V.seq ?_
 replace hm0 := bindO hm0; rcases hm0 with ⟨y0, hh0, hm0⟩
 replace hm0 := bindO hm0; rcases hm0 with ⟨y1, hh1, hm0⟩
 refine V.region ?_
 refine VO.cons rfl (V1.loadRefAll (k := 0) rfl rfl tyk_26 rfl rfl rfl rfl rfl (ltb rfl) ?_)
 refine VO.cons rfl (V1.call rfl rfl rfl cok_268 rfl (ok_spec_l2Record hh0) rfl (ltb rfl) ?_)
 rintro _ _ ⟨rfl, rfl⟩
 refine VO.cons rfl (V1.move rfl rfl rfl (ltb rfl) ?_)
 apply VO.and (n := 2) rfl rfl rfl rfl rfl rfl (ltb rfl) (.none rfl)
 ·
  intro hg0
  refine VO.step (.some rfl rfl rfl) (V1.move rfl rfl rfl (ltb rfl) ?_)
  refine VO.step (.some rfl rfl rfl) (V1.call rfl rfl rfl cok_160 rfl (ok_spec_l4Good (cond_t hg0 hh1)) rfl (ltb rfl) ?_)
  rintro _ _ ⟨rfl, rfl⟩
  exact VO.nil ⟨rfl, rfl, rfl, rfl, .inr ⟨rfl, .inr ⟨rfl, .inr ⟨rfl, .inl rfl⟩⟩⟩⟩
 refine VO.cons rfl (V1.assign rfl rfl rfl (ltb rfl) ?_)
 refine VO.nil ?_
 refine V.ret ?_
 obtain rfl := Option.some.inj hm0
 exact ⟨_, [], ⟨_, _, rfl, rfl, rfl⟩, List.nil_sublist _, rfl, rfl⟩

theorem ok_spec_l4For {ρ0 rn : Nat} {list : List Rule} {series : Int} {r : List Rule} (h : M.spec_l4For list series = some r) : Does Try.prog 151 [.vl ρ0 4 (List.map encRule list), .int .i64 series] [] rn (fun x H => ∃ (ob0_ : Nat), x = PV.sref ob0_ 4 0 (List.length r) ∧ H = [(ob0_, ⟨4, List.map encRule r⟩)]) := by
 have hm0 := h; clear h; unfold M.spec_l4For at hm0
 try dsimp only at hm0
 refine Does.intro (N := 29) Try.func151 rfl rfl rfl rfl ?_
 intro w0 S0
 refine V.seq ?_
 refine V.region ?_
 refine VO.cons rfl (V1.assign rfl rfl rfl (ltb rfl) ?_)
 refine VO.nil ?_
 refine V.seq ?_
 refine V.region ?_
 refine VO.cons rfl (V1.buildSliceT (f := encRule) ([] : List Rule) rfl rfl esz_27 zk_37 rfl rfl rfl rfl rfl rfl rfl (ltb rfl) ?_)
 intro b0
 refine VO.cons rfl (V1.assign rfl rfl rfl (ltb rfl) ?_)
 refine VO.nil ?_
 refine V.seq ?_
 refine V.seq ?_
 refine V.region ?_
 refine VO.cons rfl (V1.assign rfl rfl rfl (ltb rfl) ?_)
 refine VO.nil ?_
 replace hm0 := bindO hm0; rcases hm0 with ⟨e0, he1, hm0⟩
 refine V.cutT (D := (List Rule) × (Nat)) (fun ⟨out_, b1⟩ => ⟨29, [(5, .sref b1 4 0 (List.length out_))], [(b1, ⟨4, List.map encRule out_⟩)]⟩) (fun ⟨out_, b1⟩ => (out_ = e0)) ?_ ?_
 ·
  refine V.block ?_
  refine V.keep 29 [5, 6, 0, 1] [0] (E0 := [(5, .sref b0 4 0 (List.length ([] : List Rule))), (6, .int .i64 (0 : Int)), (0, .vl ρ0 4 (List.map encRule list)), (1, .int .i64 series)]) (H0 := [(b0, ⟨4, List.map encRule ([] : List Rule)⟩)]) rfl (⟨_, _, rfl, rfl, ⟨_, _, rfl, rfl, ⟨_, _, rfl, rfl, ⟨_, _, rfl, rfl, rfl⟩⟩⟩⟩) (⟨_, _, rfl, rfl, rfl⟩) rfl ?_
  refine V.loopE (D := Nat × (List Rule × Int) × (Nat)) (fun ⟨n0, ⟨out_0, i⟩, b2⟩ => [(5, .sref b2 4 0 (List.length out_0)), (6, .int .i64 i)]) (fun ⟨n0, ⟨out_0, i⟩, b2⟩ => [(b2, ⟨4, List.map encRule out_0⟩)]) (fun ⟨n0, ⟨out_0, i⟩, b2⟩ => loopO (M.spec_l4For_l0 list series) n0 (out_0, i) = some e0) (fun ⟨n0, _, _⟩ => n0) (rounds, (([] : List Rule), (0 : Int)), b0) rfl he1 ?_
  rintro ⟨n0, ⟨out_0, i⟩, b2⟩ hP0
  obtain ⟨m0, y0, rfl, hm1, hl1, hr1⟩ := loop_head hP0
  unfold M.spec_l4For_l0 at hm1; dsimp only at hm1
  show V _ _ _ ⟨29, [(5, .sref b2 4 0 (List.length out_0)), (6, .int .i64 i), (0, .vl ρ0 4 (List.map encRule list)), (1, .int .i64 series)], [(b2, ⟨4, List.map encRule out_0⟩)]⟩
  refine V.seq ?_
  refine V.seq ?_
  refine V.region ?_
  refine VO.cons rfl (V1.move rfl rfl rfl (ltb rfl) ?_)
  refine VO.cons rfl (V1.move rfl rfl rfl (ltb rfl) ?_)
  refine VO.cons rfl (V1.lenMap rfl rfl rfl rfl rfl rfl isl_27 (ltb rfl) ?_)
  refine VO.cons rfl (V1.int rfl rfl rfl rfl rfl (ltb rfl) ?_)
  refine VO.nil ?_
  refine V.cond rfl (fun hc0 => ?_) (fun hc0 => ?_)
  ·
   replace hm1 := cond_t hc0 hm1
   refine V.skip ?_
   refine V.keep 29 [0, 1, 5, 6] [0] (E0 := [(0, .vl ρ0 4 (List.map encRule list)), (1, .int .i64 series), (5, .sref b2 4 0 (List.length out_0)), (6, .int .i64 i)]) (H0 := [(b2, ⟨4, List.map encRule out_0⟩)]) rfl (⟨_, _, rfl, rfl, ⟨_, _, rfl, rfl, ⟨_, _, rfl, rfl, ⟨_, _, rfl, rfl, rfl⟩⟩⟩⟩) (⟨_, _, rfl, rfl, rfl⟩) rfl ?_
   refine V.seq ?_
   replace hm1 := bindO hm1; rcases hm1 with ⟨j0, hm2, hm1⟩
   refine V.cutT (D := (List Rule) × (Nat)) (fun ⟨out_1, b3⟩ => ⟨29, [(5, .sref b3 4 0 (List.length out_1)), (0, .vl ρ0 4 (List.map encRule list)), (1, .int .i64 series), (6, .int .i64 i)], [(b3, ⟨4, List.map encRule out_1⟩)]⟩) (fun ⟨out_1, b3⟩ => (out_1 = j0)) ?_ ?_
   ·
    refine V.block ?_
    refine V.seq ?_
    replace hm2 := asrt_some hm2; rcases hm2 with ⟨hh0, hm2⟩
    refine V.region ?_
    refine VO.cons rfl (V1.move rfl rfl rfl (ltb rfl) ?_)
    refine VO.cons rfl (V1.move rfl rfl rfl (ltb rfl) ?_)
    refine VO.cons rfl (V1.indexI rfl rfl esz_27 rfl rfl hh0 (ltb rfl) ?_)
    refine VO.cons rfl (V1.fieldPin rfl rfl fo_37_0 rfl (ltb rfl) ?_)
    refine VO.cons rfl (V1.loadPin rfl rfl tyk_3 rfl rfl (ltb rfl) ?_)
    refine VO.cons rfl (V1.move rfl rfl rfl (ltb rfl) ?_)
    refine VO.cons rfl (V1.int rfl rfl rfl rfl rfl (ltb rfl) ?_)
    refine VO.nil ?_
    refine V.keep 29 [0, 1, 5, 6, 20] [0] (E0 := [(0, .vl ρ0 4 (List.map encRule list)), (1, .int .i64 series), (5, .sref b2 4 0 (List.length out_0)), (6, .int .i64 i), (20, .bool (((list.getD (Int.toNat i) default).Series) == series))]) (H0 := [(b2, ⟨4, List.map encRule out_0⟩)]) rfl (⟨_, _, rfl, rfl, ⟨_, _, rfl, rfl, ⟨_, _, rfl, rfl, ⟨_, _, rfl, rfl, ⟨_, _, rfl, rfl, rfl⟩⟩⟩⟩⟩) (⟨_, _, rfl, rfl, rfl⟩) rfl ?_
    refine V.cond rfl (fun hc1 => ?_) (fun hc1 => ?_)
    ·
     replace hm2 := cond_t hc1 hm2
     replace hm2 := asrt_some hm2; rcases hm2 with ⟨hh1, hm2⟩
     replace hm2 := asrt_some hm2; rcases hm2 with ⟨hh2, hm2⟩
     refine V.region ?_
     refine VO.cons rfl (V1.move rfl rfl rfl (ltb rfl) ?_)
     refine VO.cons rfl (V1.move rfl rfl rfl (ltb rfl) ?_)
     refine VO.cons rfl (V1.move rfl rfl rfl (ltb rfl) ?_)
     refine VO.cons rfl (V1.indexI rfl rfl esz_27 rfl rfl hh1 (ltb rfl) ?_)
     refine VO.cons rfl (V1.loadPinAll rfl rfl tyk_37 rfl rfl (ltb rfl) ?_)
     refine VO.cons rfl (V1.buildSliceT (f := encRule) ([(list.getD (Int.toNat i) default)] : List Rule) rfl rfl esz_27 zk_37 rfl rfl rfl rfl rfl rfl rfl (ltb rfl) ?_)
     intro b4
     refine VO.cons rfl (V1.appendMap (k := 1) (f := encRule) (l := out_0) (m := ([(list.getD (Int.toNat i) default)] : List Rule)) rfl rfl rfl rfl rfl esz_27 eby_27 zk_37 rfl rfl rfl (SrcOf.srMap (k := 0) rfl isl_27) hh2 (ltb rfl) ?_)
     intro b5
     refine VO.cons rfl (V1.assign rfl rfl rfl (ltb rfl) ?_)
     refine VO.nil ?_
     exact ⟨((out_0 ++ ([(list.getD (Int.toNat i) default)] : List Rule)), b5), Option.some.inj hm2, Keeps.mk (ks := [0]) rfl ⟨rfl, rfl, rfl, rfl, trivial⟩ (⟨_, _, rfl, rfl, rfl⟩) rfl⟩
    ·
     replace hm2 := cond_f hc1 hm2
     refine V.skip ?_
     exact ⟨(out_0, b2), Option.some.inj hm2, Keeps.mk (ks := [0]) rfl ⟨rfl, rfl, rfl, rfl, trivial⟩ (⟨_, _, rfl, rfl, rfl⟩) rfl⟩
   ·
    rintro ⟨out_1, b3⟩ rfl
    try dsimp only at hm1
    refine V.region ?_
    refine VO.cons rfl (V1.move rfl rfl rfl (ltb rfl) ?_)
    refine VO.cons rfl (V1.int rfl rfl rfl rfl rfl (ltb rfl) ?_)
    refine VO.cons rfl (V1.assign rfl rfl rfl (ltb rfl) ?_)
    refine VO.nil ?_
    exact ⟨(m0, (out_1, (IntKind.i64.wrap (i + (1 : Int)))), b3), hl1 _ (Option.some.inj hm1).symm, Nat.lt_succ_self _, Keeps.mk (ks := [0]) rfl ⟨rfl, rfl, rfl, rfl, trivial⟩ (⟨_, _, rfl, rfl, rfl⟩) rfl⟩
  ·
   replace hm1 := cond_f hc0 hm1
   refine V.exit ?_
   obtain rfl := hr1 _ (Option.some.inj hm1).symm
   exact ⟨(out_0, b2), rfl, Keeps.mk (ks := [0]) rfl ⟨rfl, trivial⟩ (⟨_, _, rfl, rfl, rfl⟩) rfl⟩
 ·
  rintro ⟨out_, b1⟩ rfl
  try dsimp only at hm0
  refine V.seq ?_
  refine V.region ?_
  refine VO.cons rfl (V1.move rfl rfl rfl (ltb rfl) ?_)
  refine VO.cons rfl (V1.assign rfl rfl rfl (ltb rfl) ?_)
  refine VO.nil ?_
  refine V.keep 29 [4] [0] (E0 := [(4, .sref b1 4 0 (List.length out_))]) (H0 := [(b1, ⟨4, List.map encRule out_⟩)]) rfl (⟨_, _, rfl, rfl, rfl⟩) (⟨_, _, rfl, rfl, rfl⟩) rfl ?_
  refine V.ret ?_
  obtain rfl := Option.some.inj hm0
  exact ⟨_, _, ⟨_, _, rfl, rfl, rfl⟩, List.Sublist.refl _, b1, rfl, rfl⟩

theorem ok_spec_l2DayOf {ρ0 rn : Nat} {r_ : Record} {kind : Int} {r : Int} (h : M.spec_l2DayOf r_ kind = some r) : Does Try.prog 269 [encRecord ρ0 r_, .int .i64 kind] [] rn (fun x H => x = .int .i64 r ∧ H = []) := by
 have hm0 := h; clear h; unfold M.spec_l2DayOf at hm0
 try dsimp only at hm0
 refine Does.intro (N := 31) Try.func269 rfl rfl rfl rfl ?_
 intro w0 S0
 refine V.seq ?_
 refine V.region ?_
 refine VO.cons rfl (V1.boxN (n := 4) rfl rfl rfl rfl rfl (ltb rfl) ?_)
 intro b0
 refine VO.cons rfl (V1.assign rfl rfl rfl (ltb rfl) ?_)
 refine VO.nil ?_
 refine V.seq ?_
 refine V.seq ?_
 refine V.region ?_
 refine VO.cons rfl (V1.move rfl rfl rfl (ltb rfl) ?_)
 refine VO.cons rfl (V1.int rfl rfl rfl rfl rfl (ltb rfl) ?_)
 refine VO.nil ?_
 refine V.cond rfl (fun hc0 => ?_) (fun hc0 => ?_)
 ·
  replace hm0 := cond_t hc0 hm0
  refine V.seq ?_
  refine V.region ?_
  refine VO.cons rfl (V1.fieldRef rfl rfl fo_26_2 rfl (ltb rfl) ?_)
  refine VO.cons rfl (V1.loadRef (k := 0) rfl rfl tyk_3 rfl rfl rfl rfl rfl (ltb rfl) ?_)
  refine VO.cons rfl (V1.assign rfl rfl rfl (ltb rfl) ?_)
  refine VO.nil ?_
  refine V.ret ?_
  obtain rfl := Option.some.inj hm0
  exact ⟨_, [], ⟨_, _, rfl, rfl, rfl⟩, List.nil_sublist _, rfl, rfl⟩
 ·
  replace hm0 := cond_f hc0 hm0
  refine V.skip ?_
  refine V.keep 31 [1, 2] [0] (E0 := [(1, .int .i64 kind), (2, .ref b0 4 0 0)]) (H0 := [(b0, ⟨4, [encRecord ρ0 r_]⟩)]) rfl (⟨_, _, rfl, rfl, ⟨_, _, rfl, rfl, rfl⟩⟩) (⟨_, _, rfl, rfl, rfl⟩) rfl ?_
  refine V.seq ?_
  refine V.seq ?_
  refine V.region ?_
  refine VO.cons rfl (V1.assign rfl rfl rfl (ltb rfl) ?_)
  refine VO.nil ?_
  replace hm0 := bindO hm0; rcases hm0 with ⟨e0, he1, hm0⟩
  refine V.cutT (D := (Unit) × (Unit)) (fun ⟨_, _⟩ => ⟨31, [], []⟩) (fun ⟨_, _⟩ => (.inl () = e0)) ?_ ?_
  ·
   refine V.block ?_
   refine V.keep 31 [5, 1, 2] [0] (E0 := [(5, .int .i64 (0 : Int)), (1, .int .i64 kind), (2, .ref b0 4 0 0)]) (H0 := [(b0, ⟨4, [encRecord ρ0 r_]⟩)]) rfl (⟨_, _, rfl, rfl, ⟨_, _, rfl, rfl, ⟨_, _, rfl, rfl, rfl⟩⟩⟩) (⟨_, _, rfl, rfl, rfl⟩) rfl ?_
   refine V.loopE (D := Nat × (Int) × (Unit)) (fun ⟨n0, i, _⟩ => [(5, .int .i64 i)]) (fun ⟨n0, i, _⟩ => []) (fun ⟨n0, i, _⟩ => loopO (M.spec_l2DayOf_l0 r_ kind) n0 i = some e0) (fun ⟨n0, _, _⟩ => n0) (rounds, (0 : Int), ()) rfl he1 ?_
   rintro ⟨n0, i, _⟩ hP0
   obtain ⟨m0, y0, rfl, hm1, hl1, hr1⟩ := loop_head hP0
   unfold M.spec_l2DayOf_l0 at hm1; dsimp only at hm1
   show V _ _ _ ⟨31, [(5, .int .i64 i), (1, .int .i64 kind), (2, .ref b0 4 0 0)], [(b0, ⟨4, [encRecord ρ0 r_]⟩)]⟩
   refine V.seq ?_
   refine V.seq ?_
   refine V.region ?_
   refine VO.cons rfl (V1.move rfl rfl rfl (ltb rfl) ?_)
   refine VO.cons rfl (V1.fieldRef rfl rfl fo_26_3 rfl (ltb rfl) ?_)
   refine VO.cons rfl (V1.loadRef (k := 0) rfl rfl tyk_24 rfl rfl rfl rfl rfl (ltb rfl) ?_)
   refine VO.cons rfl (V1.lenMap rfl rfl rfl rfl rfl rfl isl_24 (ltb rfl) ?_)
   refine VO.cons rfl (V1.int rfl rfl rfl rfl rfl (ltb rfl) ?_)
   refine VO.nil ?_
   refine V.keep 31 [1, 2, 5, 14] [0] (E0 := [(1, .int .i64 kind), (2, .ref b0 4 0 0), (5, .int .i64 i), (14, .bool (decide (i < (r_.Events.length : Int))))]) (H0 := [(b0, ⟨4, [encRecord ρ0 r_]⟩)]) rfl (⟨_, _, rfl, rfl, ⟨_, _, rfl, rfl, ⟨_, _, rfl, rfl, ⟨_, _, rfl, rfl, rfl⟩⟩⟩⟩) (⟨_, _, rfl, rfl, rfl⟩) rfl ?_
   refine V.cond rfl (fun hc1 => ?_) (fun hc1 => ?_)
   ·
    replace hm1 := cond_t hc1 hm1
    refine V.skip ?_
    refine V.seq ?_
    refine V.block ?_
    refine V.seq ?_
    replace hm1 := asrt_some hm1; rcases hm1 with ⟨hh0, hm1⟩
    refine V.region ?_
    refine VO.cons rfl (V1.fieldRef rfl rfl fo_26_3 rfl (ltb rfl) ?_)
    refine VO.cons rfl (V1.loadRef (k := 0) rfl rfl tyk_24 rfl rfl rfl rfl rfl (ltb rfl) ?_)
    refine VO.cons rfl (V1.move rfl rfl rfl (ltb rfl) ?_)
    refine VO.cons rfl (V1.indexI rfl rfl esz_24 rfl rfl hh0 (ltb rfl) ?_)
    refine VO.cons rfl (V1.fieldPin rfl rfl fo_43_0 rfl (ltb rfl) ?_)
    refine VO.cons rfl (V1.loadPin rfl rfl tyk_3 rfl rfl (ltb rfl) ?_)
    refine VO.cons rfl (V1.move rfl rfl rfl (ltb rfl) ?_)
    refine VO.cons rfl (V1.int rfl rfl rfl rfl rfl (ltb rfl) ?_)
    refine VO.nil ?_
    refine V.keep 31 [1, 2, 5, 24] [0] (E0 := [(1, .int .i64 kind), (2, .ref b0 4 0 0), (5, .int .i64 i), (24, .bool (((r_.Events.getD (Int.toNat i) default).Kind) == kind))]) (H0 := [(b0, ⟨4, [encRecord ρ0 r_]⟩)]) rfl (⟨_, _, rfl, rfl, ⟨_, _, rfl, rfl, ⟨_, _, rfl, rfl, ⟨_, _, rfl, rfl, rfl⟩⟩⟩⟩) (⟨_, _, rfl, rfl, rfl⟩) rfl ?_
    refine V.cond rfl (fun hc2 => ?_) (fun hc2 => ?_)
    ·
     replace hm1 := cond_t hc2 hm1
     refine V.seq ?_
     replace hm1 := asrt_some hm1; rcases hm1 with ⟨hh1, hm1⟩
     refine V.region ?_
     refine VO.cons rfl (V1.fieldRef rfl rfl fo_26_3 rfl (ltb rfl) ?_)
     refine VO.cons rfl (V1.loadRef (k := 0) rfl rfl tyk_24 rfl rfl rfl rfl rfl (ltb rfl) ?_)
     refine VO.cons rfl (V1.move rfl rfl rfl (ltb rfl) ?_)
     refine VO.cons rfl (V1.indexI rfl rfl esz_24 rfl rfl hh1 (ltb rfl) ?_)
     refine VO.cons rfl (V1.fieldPin rfl rfl fo_43_1 rfl (ltb rfl) ?_)
     refine VO.cons rfl (V1.loadPin rfl rfl tyk_3 rfl rfl (ltb rfl) ?_)
     refine VO.cons rfl (V1.assign rfl rfl rfl (ltb rfl) ?_)
     refine VO.nil ?_
     refine V.ret ?_
     obtain rfl := hr1 _ (Option.some.inj hm1).symm
     change some _ = some _ at hm0
     obtain rfl := Option.some.inj hm0
     exact ⟨_, [], ⟨_, _, rfl, rfl, rfl⟩, List.nil_sublist _, rfl, rfl⟩
    ·
     replace hm1 := cond_f hc2 hm1
     refine V.skip ?_
     refine V.region ?_
     refine VO.cons rfl (V1.move rfl rfl rfl (ltb rfl) ?_)
     refine VO.cons rfl (V1.int rfl rfl rfl rfl rfl (ltb rfl) ?_)
     refine VO.cons rfl (V1.assign rfl rfl rfl (ltb rfl) ?_)
     refine VO.nil ?_
     exact ⟨(m0, (IntKind.i64.wrap (i + (1 : Int))), ()), hl1 _ (Option.some.inj hm1).symm, Nat.lt_succ_self _, Keeps.mk (ks := [0]) rfl ⟨rfl, rfl, rfl, trivial⟩ (⟨_, _, rfl, rfl, rfl⟩) rfl⟩
   ·
    replace hm1 := cond_f hc1 hm1
    refine V.exit ?_
    obtain rfl := hr1 _ (Option.some.inj hm1).symm
    exact ⟨((), ()), rfl, Keeps.mk (ks := []) rfl trivial (rfl) rfl⟩
  ·
   rintro ⟨_, _⟩ rfl
   try dsimp only at hm0
   refine V.seq ?_
   refine V.region ?_
   refine VO.cons rfl (V1.assign rfl rfl rfl (ltb rfl) ?_)
   refine VO.nil ?_
   refine V.ret ?_
   obtain rfl := Option.some.inj hm0
   exact ⟨_, [], ⟨_, _, rfl, rfl, rfl⟩, List.nil_sublist _, rfl, rfl⟩

theorem ok_spec_l6End {ρ0 rn : Nat} {r_ : Record} {rule : Rule} {r : Int} (h : M.spec_l6End r_ rule = some r) : Does Try.prog 152 [encRecord ρ0 r_, encRule rule] [] rn (fun x H => x = .int .i64 r ∧ H = []) := by
 have hm0 := h; clear h; unfold M.spec_l6End at hm0
 try dsimp only at hm0
 refine Does.intro (N := 16) Try.func152 rfl rfl rfl rfl ?_
 intro w0 S0
 refine V.seq ?_
 refine V.region ?_
 refine VO.cons rfl (V1.boxN (n := 4) rfl rfl rfl rfl rfl (ltb rfl) ?_)
 intro b0
 refine VO.cons rfl (V1.boxN (n := 4) rfl rfl rfl rfl rfl (ltb rfl) ?_)
 intro b1
 refine VO.cons rfl (V1.assign rfl rfl rfl (ltb rfl) ?_)
 refine VO.nil ?_
 refine V.seq ?_
 replace hm0 := bindO hm0; rcases hm0 with ⟨y0, hh0, hm0⟩
 refine V.region ?_
 refine VO.cons rfl (V1.loadRefAll (k := 1) rfl rfl tyk_26 rfl rfl rfl rfl rfl (ltb rfl) ?_)
 refine VO.cons rfl (V1.fieldRef rfl rfl fo_37_1 rfl (ltb rfl) ?_)
 refine VO.cons rfl (V1.loadRef (k := 0) rfl rfl tyk_3 rfl rfl rfl rfl rfl (ltb rfl) ?_)
 refine VO.cons rfl (V1.call rfl rfl rfl cok_269 rfl (ok_spec_l2DayOf hh0) rfl (ltb rfl) ?_)
 rintro _ _ ⟨rfl, rfl⟩
 refine VO.cons rfl (V1.assign rfl rfl rfl (ltb rfl) ?_)
 refine VO.nil ?_
 refine V.keep 16 [3, 5] [0] (E0 := [(3, .ref b1 4 0 0), (5, .int .i64 y0)]) (H0 := [(b1, ⟨4, [encRule rule]⟩)]) rfl (⟨_, _, rfl, rfl, ⟨_, _, rfl, rfl, rfl⟩⟩) (⟨_, _, rfl, rfl, rfl⟩) rfl ?_
 refine V.seq ?_
 refine V.seq ?_
 refine V.region ?_
 refine VO.cons rfl (V1.move rfl rfl rfl (ltb rfl) ?_)
 refine VO.cons rfl (V1.int rfl rfl rfl rfl rfl (ltb rfl) ?_)
 refine VO.nil ?_
 refine V.cond rfl (fun hc0 => ?_) (fun hc0 => ?_)
 ·
  replace hm0 := cond_t hc0 hm0
  refine V.seq ?_
  refine V.region ?_
  refine VO.cons rfl (V1.assign rfl rfl rfl (ltb rfl) ?_)
  refine VO.nil ?_
  refine V.ret ?_
  obtain rfl := Option.some.inj hm0
  exact ⟨_, [], ⟨_, _, rfl, rfl, rfl⟩, List.nil_sublist _, rfl, rfl⟩
 ·
  replace hm0 := cond_f hc0 hm0
  refine V.skip ?_
  refine V.seq ?_
  refine V.region ?_
  refine VO.cons rfl (V1.move rfl rfl rfl (ltb rfl) ?_)
  refine VO.cons rfl (V1.fieldRef rfl rfl fo_37_2 rfl (ltb rfl) ?_)
  refine VO.cons rfl (V1.loadRef (k := 0) rfl rfl tyk_3 rfl rfl rfl rfl rfl (ltb rfl) ?_)
  refine VO.cons rfl (V1.int rfl rfl rfl rfl rfl (ltb rfl) ?_)
  refine VO.cons rfl (V1.assign rfl rfl rfl (ltb rfl) ?_)
  refine VO.nil ?_
  refine V.ret ?_
  obtain rfl := Option.some.inj hm0
  exact ⟨_, [], ⟨_, _, rfl, rfl, rfl⟩, List.nil_sublist _, rfl, rfl⟩
end Go.Proofs.Ythffmnpbonkpaaa
