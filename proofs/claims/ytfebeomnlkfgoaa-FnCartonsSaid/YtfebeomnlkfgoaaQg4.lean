/- the functions do what their models say -/
import Derived.Test.YtfebeomnlkfgoaaQg3
set_option linter.unusedSimpArgs false
set_option linter.unusedVariables false
set_option maxRecDepth 100000
set_option maxHeartbeats 4000000
namespace Go.Proofs.Ytfebeomnlkfgoaa
open Go.VS
theorem ok_laws_FnCartons {ρ0 rn : Nat} {code : List Int} {r : Bool} (h : M.laws_FnCartons code = some r) : Does Try.prog 10 [.vl ρ0 1 (List.map encU8 code)] [] rn (fun x H => x = .bool r ∧ H = []) := by
 have hm0 := h; clear h; unfold M.laws_FnCartons at hm0
 try dsimp only at hm0
 refine Does.intro (N := 275) Try.func10 rfl rfl rfl rfl ?_
 intro w0 S0
 refine V.seq (V.region (VO.cons rfl (V1.as ?_)))
 refine VO.nil (V.seq (V.seq ?_))
 replace hm0 := bindO hm0; rcases hm0 with ⟨y0, hh0, hm0⟩
 refine V.region (VO.cons rfl (V1.mv ?_))
 refine VO.cons rfl (V1.call rfl rfl rfl cok_41 rfl (ok_laws_rBig hh0) rfl lt0 ?_)
 rintro _ _ ⟨rfl, rfl⟩
 refine VO.nil (V.cond rfl (fun hc0 => ?_) (fun hc0 => ?_))
 ·
  replace hm0 := cond_t hc0 hm0
  refine V.seq (V.region (VO.cons rfl (V1.as ?_)))
  refine VO.nil (V.ret ?_)
  obtain rfl := oi hm0
  exact ⟨_, [], ⟨_, _, rfl, rfl, rfl⟩, List.nil_sublist _, rfl, rfl⟩
 ·
  replace hm0 := cond_f hc0 hm0
  refine V.skip ?_
  refine V.seq ?_
  replace hm0 := bindO hm0; rcases hm0 with ⟨y1, hh1, hm0⟩
  refine V.region (VO.cons rfl (V1.mv ?_))
  refine VO.cons rfl (V1.call rfl rfl rfl cok_42 rfl (ok_spec_DrawRefileTo hh1) rfl lt0 ?_)
  rintro _ _ ⟨b0, rfl, rfl⟩
  refine VO.cons rfl (V1.mv ?_)
  refine VO.cons rfl (V1.extract rfl rfl rfl rfl lt0 ?_)
  refine VO.weakenK (Keeps.freezeG 0 rn [(52, .vl rn 5 (List.map (encCarton rn) y1.1))] ([]) (f := (encCarton rn)) (l := y1.1) rfl (fun _ => rfl) ⟨⟨_, rfl, .here⟩, trivial⟩ rfl rfl iNil) ?_
  refine VO.cons rfl (V1.extract rfl rfl rfl rfl lt0 ?_)
  refine VO.cons rfl (V1.extract rfl rfl rfl rfl lt0 ?_)
  refine VO.cons rfl (V1.as ?_)
  refine VO.cons rfl (V1.as ?_)
  refine VO.cons rfl (V1.as ?_)
  refine VO.nil (V.keep 275 [0, 3, 4, 5] [] (E0 := [(0, .vl ρ0 1 (List.map encU8 code)), (3, .vl rn 5 (List.map (encCarton rn) y1.1)), (4, .int .i64 y1.2.1), (5, .int .i64 y1.2.2)]) (H0 := []) rfl (⟨_, _, rfl, rfl, _, _, rfl, rfl, _, _, rfl, rfl, _, _, rfl, rfl, rfl⟩) (rfl) rfl ?_)
  refine V.seq ?_
  replace hm0 := bindO hm0; rcases hm0 with ⟨y2, hh2, hm0⟩
  refine V.region (VO.cons rfl (V1.mv ?_))
  refine VO.cons rfl (V1.mv ?_)
  refine VO.cons rfl (V1.mv ?_)
  refine VO.cons rfl (V1.permK (V1.call rfl rfl rfl cok_40 rfl (ok_impl_RefileTo hh2) rfl lt0 ?_))
  rintro _ _ ⟨ob0, ts_312, os_312, hob0, hd_312, rfl, rfl⟩
  refine ⟨_, ?_, Keeps.perm (optH 5 ob0 (deepC cellCarton ts_312 y2.1) ++ (([] : List (Nat × Obj')) ++ os_312)) (permDeepO1 (o := optH 5 ob0 (deepC cellCarton ts_312 y2.1)) (os := os_312) (A := []))⟩
  refine VO.cons rfl (V1.mv ?_)
  refine VO.cons rfl (V1.extract rfl rfl rfl rfl lt0 ?_)
  refine VO.cons rfl (V1.extract rfl rfl rfl rfl lt0 ?_)
  refine VO.cons rfl (V1.as ?_)
  refine VO.cons rfl (V1.as ?_)
  refine VO.nil ?_
  rcases ob0 with _ | ob0
  ·
   obtain ⟨rfl, rfl⟩ := Deep.nil (hob0 rfl) hd_312
   refine V.keep 275 [0, 3, 4, 5, 6, 7] [] (E0 := [(0, .vl ρ0 1 (List.map encU8 code)), (3, .vl rn 5 (List.map (encCarton rn) y1.1)), (4, .int .i64 y1.2.1), (5, .int .i64 y1.2.2), (6, .nils), (7, .bool y2.2)]) (H0 := []) rfl (⟨_, _, rfl, rfl, _, _, rfl, rfl, _, _, rfl, rfl, _, _, rfl, rfl, _, _, rfl, rfl, _, _, rfl, rfl, rfl⟩) (rfl) rfl ?_
   refine V.seq (V.seq ?_)
   replace hm0 := bindO hm0; rcases hm0 with ⟨y3, hh3, hm0⟩
   refine V.region (VO.cons rfl (V1.mv ?_))
   refine VO.cons rfl (V1.mv ?_)
   refine VO.cons rfl (V1.mv ?_)
   refine VO.cons rfl (V1.call rfl rfl rfl cok_39 rfl (ok_spec_RefileTo hh3) rfl lt0 ?_)
   rintro _ _ ⟨b1, rfl, rfl⟩
   refine VO.cons rfl (V1.mv ?_)
   refine VO.cons rfl (V1.extract rfl rfl rfl rfl lt0 ?_)
   refine VO.weakenK (Keeps.freezeG 0 rn [(67, .vl rn 5 (List.map (encCarton rn) y3.1))] ([]) (f := (encCarton rn)) (l := y3.1) rfl (fun _ => rfl) ⟨⟨_, rfl, .here⟩, trivial⟩ rfl rfl iNil) ?_
   refine VO.cons rfl (V1.extract rfl rfl rfl rfl lt0 ?_)
   refine VO.cons rfl (V1.as ?_)
   refine VO.cons rfl (V1.as ?_)
   refine VO.nil (V.keep 275 [0, 4, 5, 6, 7, 8, 9] [] (E0 := [(0, .vl ρ0 1 (List.map encU8 code)), (4, .int .i64 y1.2.1), (5, .int .i64 y1.2.2), (6, .nils), (7, .bool y2.2), (8, .vl rn 5 (List.map (encCarton rn) y3.1)), (9, .bool y3.2)]) (H0 := []) rfl (⟨_, _, rfl, rfl, _, _, rfl, rfl, _, _, rfl, rfl, _, _, rfl, rfl, _, _, rfl, rfl, _, _, rfl, rfl, _, _, rfl, rfl, rfl⟩) (rfl) rfl ?_)
   refine V.seq ?_
   replace hm0 := bindO hm0; rcases hm0 with ⟨y4, hh4, hm0⟩
   refine V.region (VO.cons rfl (V1.mv ?_))
   refine VO.cons rfl (V1.mv ?_)
   refine VO.cons rfl (V1.boolNeq rfl rfl und_4 rfl rfl lt0 ?_)
   refine VO.cons rfl (V1.mv ?_)
   apply VO.or (n := 4) rfl rfl rfl rfl rfl rfl lt0 (.none rfl)
   ·
    intro hg0
    refine VO.step (.some rfl rfl rfl) (V1.mv ?_)
    refine VO.step (.some rfl rfl rfl) (V1.mv ?_)
    refine VO.weakenK (Keeps.nilsE (l := y2.1) 73 rn 5 (encCarton rn) (hob0 rfl) rfl rfl) ?_
    refine VO.step (.some rfl rfl rfl) (V1.call rfl rfl rfl cok_43 rfl (ok_laws_rCartons (cond_f hg0 hh4)) rfl lt0 ?_)
    rintro _ _ ⟨rfl, rfl⟩
    refine VO.step (.some rfl rfl rfl) (V1.not rfl rfl rfl lt0 ?_)
    exact VO.nil ⟨rfl, rfl, rfl, rfl, .inr ⟨rfl, .inr ⟨rfl, .inr ⟨rfl, .inr ⟨rfl, .inr ⟨rfl, .inr ⟨rfl, .inl rfl⟩⟩⟩⟩⟩⟩⟩
   refine VO.nil (V.keep 275 [0, 4, 5, 6, 7, 77] [] (E0 := [(0, .vl ρ0 1 (List.map encU8 code)), (4, .int .i64 y1.2.1), (5, .int .i64 y1.2.2), (6, .nils), (7, .bool y2.2), (77, .bool ((!(y2.2 == y3.2)) || (!y4)))]) (H0 := []) rfl (⟨_, _, rfl, rfl, _, _, rfl, rfl, _, _, rfl, rfl, _, _, rfl, rfl, _, _, rfl, rfl, _, _, rfl, rfl, rfl⟩) (rfl) rfl ?_)
   refine V.cond rfl (fun hc1 => ?_) (fun hc1 => ?_)
   ·
    replace hm0 := cond_t hc1 hm0
    refine V.seq (V.region (VO.cons rfl (V1.as ?_)))
    refine VO.nil (V.ret ?_)
    obtain rfl := oi hm0
    exact ⟨_, [], ⟨_, _, rfl, rfl, rfl⟩, List.nil_sublist _, rfl, rfl⟩
   ·
    replace hm0 := cond_f hc1 hm0
    refine V.skip ?_
    refine V.seq ?_
    replace hm0 := bindO hm0; rcases hm0 with ⟨j0, hm1, hm0⟩
    refine V.cutT (D := (Unit) × (Unit)) (fun ⟨_, _⟩ => ⟨275, [(0, .vl ρ0 1 (List.map encU8 code))], []⟩) (fun ⟨_, _⟩ => (.inl () = j0)) ?_ ?_
    ·
     refine V.seq (V.region (VO.cons rfl (V1.mv ?_)))
     refine VO.nil (V.cond rfl (fun hc2 => ?_) (fun hc2 => ?_))
     ·
      replace hm1 := cond_t hc2 hm1
      refine V.seq ?_
      replace hm1 := bindO hm1; rcases hm1 with ⟨y5, hh5, hm1⟩
      refine V.region (VO.cons rfl (V1.mv ?_))
      refine VO.cons rfl (V1.mv ?_)
      refine VO.weakenK (Keeps.nilsE (l := y2.1) 80 rn 5 (encCarton rn) (hob0 rfl) rfl rfl) ?_
      refine VO.cons rfl (V1.call rfl rfl rfl cok_44 rfl (ok_impl_FindFile hh5) rfl lt0 ?_)
      rintro _ _ ⟨rfl, rfl⟩
      refine VO.cons rfl (V1.mv ?_)
      refine VO.cons rfl (V1.extract rfl rfl rfl rfl lt0 ?_)
      refine VO.cons rfl (V1.extract rfl rfl rfl rfl lt0 ?_)
      refine VO.cons rfl (V1.extract rfl rfl rfl rfl lt0 ?_)
      refine VO.cons rfl (V1.extract rfl rfl rfl rfl lt0 ?_)
      refine VO.cons rfl (V1.as ?_)
      refine VO.cons rfl (V1.as ?_)
      refine VO.cons rfl (V1.as ?_)
      refine VO.cons rfl (V1.as ?_)
      refine VO.nil (V.keep 275 [0, 5, 6, 10, 13] [] (E0 := [(0, .vl ρ0 1 (List.map encU8 code)), (5, .int .i64 y1.2.2), (6, .nils), (10, .int .i64 y5.1), (13, .bool y5.2.2.2)]) (H0 := []) rfl (⟨_, _, rfl, rfl, _, _, rfl, rfl, _, _, rfl, rfl, _, _, rfl, rfl, _, _, rfl, rfl, rfl⟩) (rfl) rfl ?_)
      refine V.seq ?_
      replace hm1 := bindO hm1; rcases hm1 with ⟨y6, hh6, hm1⟩
      refine V.region (VO.cons rfl (V1.mv ?_))
      refine VO.cons rfl (V1.not rfl rfl rfl lt0 ?_)
      refine VO.cons rfl (V1.mv ?_)
      apply VO.or (n := 3) rfl rfl rfl rfl rfl rfl lt0 (.none rfl)
      ·
       intro hg1
       refine VO.step (.some rfl rfl rfl) (V1.mv ?_)
       refine VO.step (.some rfl rfl rfl) (V1.mv ?_)
       refine VO.step (.some rfl rfl rfl) (V1.it ?_)
       exact VO.nil ⟨rfl, rfl, rfl, rfl, .inr ⟨rfl, .inr ⟨rfl, .inr ⟨rfl, .inr ⟨rfl, .inl rfl⟩⟩⟩⟩⟩
      refine VO.cons rfl (V1.mv ?_)
      apply VO.or (n := 3) rfl rfl rfl rfl rfl rfl lt0 (.none rfl)
      ·
       intro hg2
       refine VO.step (.some rfl rfl rfl) (V1.mv ?_)
       refine VO.weakenK (Keeps.nilsE (l := y2.1) 95 rn 5 (encCarton rn) (hob0 rfl) rfl rfl) ?_
       refine VO.step (.some rfl rfl rfl) (V1.call rfl rfl rfl cok_45 rfl (ok_impl_AreCartons (cond_f hg2 hh6)) rfl lt0 ?_)
       rintro _ _ ⟨rfl, rfl⟩
       refine VO.step (.some rfl rfl rfl) (V1.not rfl rfl rfl lt0 ?_)
       exact VO.nil ⟨rfl, rfl, rfl, rfl, .inr ⟨rfl, .inr ⟨rfl, .inr ⟨rfl, .inr ⟨rfl, .inr ⟨rfl, .inl rfl⟩⟩⟩⟩⟩⟩
      refine VO.nil (V.keep 275 [0, 98] [] (E0 := [(0, .vl ρ0 1 (List.map encU8 code)), (98, .bool (((!y5.2.2.2) || (y5.1 != y1.2.2)) || (!y6)))]) (H0 := []) rfl (⟨_, _, rfl, rfl, _, _, rfl, rfl, rfl⟩) (rfl) rfl ?_)
      refine V.cond rfl (fun hc3 => ?_) (fun hc3 => ?_)
      ·
       replace hm1 := cond_t hc3 hm1
       refine V.seq (V.region (VO.cons rfl (V1.as ?_)))
       refine VO.nil (V.ret ?_)
       obtain rfl := oi hm1
       change some _ = some _ at hm0
       obtain rfl := oi hm0
       exact ⟨_, [], ⟨_, _, rfl, rfl, rfl⟩, List.nil_sublist _, rfl, rfl⟩
      ·
       replace hm1 := cond_f hc3 hm1
       refine V.skip ?_
       exact ⟨((), ()), oi hm1, Keeps.mk (ks := []) rfl ⟨rfl, trivial⟩ (rfl) rfl⟩
     ·
      replace hm1 := cond_f hc2 hm1
      refine V.skip ?_
      exact ⟨((), ()), oi hm1, Keeps.mk (ks := []) rfl ⟨rfl, trivial⟩ (rfl) rfl⟩
    ·
     rintro ⟨_, _⟩ rfl
     try dsimp only at hm0
     refine V.seq ?_
     replace hm0 := bindO hm0; rcases hm0 with ⟨y7, hh7, hm0⟩
     refine V.region (VO.cons rfl (V1.mv ?_))
     refine VO.cons rfl (V1.call rfl rfl rfl cok_46 rfl (ok_spec_DrawMoveCarton hh7) rfl lt0 ?_)
     rintro _ _ ⟨b2, rfl, rfl⟩
     refine VO.cons rfl (V1.mv ?_)
     refine VO.cons rfl (V1.extract rfl rfl rfl rfl lt0 ?_)
     refine VO.weakenK (Keeps.freezeG 0 rn [(102, .vl rn 5 (List.map (encCarton rn) y7.1))] ([]) (f := (encCarton rn)) (l := y7.1) rfl (fun _ => rfl) ⟨⟨_, rfl, .here⟩, trivial⟩ rfl rfl iNil) ?_
     refine VO.cons rfl (V1.extract rfl rfl rfl rfl lt0 ?_)
     refine VO.cons rfl (V1.extract rfl rfl rfl rfl lt0 ?_)
     refine VO.cons rfl (V1.extract rfl rfl rfl rfl lt0 ?_)
     refine VO.cons rfl (V1.as ?_)
     refine VO.cons rfl (V1.as ?_)
     refine VO.cons rfl (V1.as ?_)
     refine VO.cons rfl (V1.as ?_)
     refine VO.nil (V.keep 275 [0, 14, 15, 16, 17] [] (E0 := [(0, .vl ρ0 1 (List.map encU8 code)), (14, .vl rn 5 (List.map (encCarton rn) y7.1)), (15, .int .i64 y7.2.1), (16, .int .i64 y7.2.2.1), (17, .int .i64 y7.2.2.2)]) (H0 := []) rfl (⟨_, _, rfl, rfl, _, _, rfl, rfl, _, _, rfl, rfl, _, _, rfl, rfl, _, _, rfl, rfl, rfl⟩) (rfl) rfl ?_)
     refine V.seq ?_
     replace hm0 := bindO hm0; rcases hm0 with ⟨y8, hh8, hm0⟩
     refine V.region (VO.cons rfl (V1.mv ?_))
     refine VO.cons rfl (V1.mv ?_)
     refine VO.cons rfl (V1.mv ?_)
     refine VO.cons rfl (V1.mv ?_)
     refine VO.cons rfl (V1.permK (V1.call rfl rfl rfl cok_32 rfl (ok_impl_MoveCarton hh8) rfl lt0 ?_))
     rintro _ _ ⟨ob1, ts_396, os_396, hob1, hd_396, rfl, rfl⟩
     refine ⟨_, ?_, Keeps.perm (optH 5 ob1 (deepC cellCarton ts_396 y8.1) ++ (([] : List (Nat × Obj')) ++ os_396)) (permDeepO1 (o := optH 5 ob1 (deepC cellCarton ts_396 y8.1)) (os := os_396) (A := []))⟩
     refine VO.cons rfl (V1.mv ?_)
     refine VO.cons rfl (V1.extract rfl rfl rfl rfl lt0 ?_)
     refine VO.cons rfl (V1.extract rfl rfl rfl rfl lt0 ?_)
     refine VO.cons rfl (V1.as ?_)
     refine VO.cons rfl (V1.as ?_)
     refine VO.nil ?_
     rcases ob1 with _ | ob1
     ·
      obtain ⟨rfl, rfl⟩ := Deep.nil (hob1 rfl) hd_396
      refine V.keep 275 [0, 14, 15, 16, 17, 18, 19] [] (E0 := [(0, .vl ρ0 1 (List.map encU8 code)), (14, .vl rn 5 (List.map (encCarton rn) y7.1)), (15, .int .i64 y7.2.1), (16, .int .i64 y7.2.2.1), (17, .int .i64 y7.2.2.2), (18, .nils), (19, .bool y8.2)]) (H0 := []) rfl (⟨_, _, rfl, rfl, _, _, rfl, rfl, _, _, rfl, rfl, _, _, rfl, rfl, _, _, rfl, rfl, _, _, rfl, rfl, _, _, rfl, rfl, rfl⟩) (rfl) rfl ?_
      refine V.seq (V.seq ?_)
      replace hm0 := bindO hm0; rcases hm0 with ⟨y9, hh9, hm0⟩
      refine V.region (VO.cons rfl (V1.mv ?_))
      refine VO.cons rfl (V1.mv ?_)
      refine VO.cons rfl (V1.mv ?_)
      refine VO.cons rfl (V1.mv ?_)
      refine VO.cons rfl (V1.call rfl rfl rfl cok_31 rfl (ok_spec_MoveCarton hh9) rfl lt0 ?_)
      rintro _ _ ⟨b3, rfl, rfl⟩
      refine VO.cons rfl (V1.mv ?_)
      refine VO.cons rfl (V1.extract rfl rfl rfl rfl lt0 ?_)
      refine VO.weakenK (Keeps.freezeG 0 rn [(120, .vl rn 5 (List.map (encCarton rn) y9.1))] ([]) (f := (encCarton rn)) (l := y9.1) rfl (fun _ => rfl) ⟨⟨_, rfl, .here⟩, trivial⟩ rfl rfl iNil) ?_
      refine VO.cons rfl (V1.extract rfl rfl rfl rfl lt0 ?_)
      refine VO.cons rfl (V1.as ?_)
      refine VO.cons rfl (V1.as ?_)
      refine VO.nil (V.keep 275 [0, 16, 17, 18, 19, 20, 21] [] (E0 := [(0, .vl ρ0 1 (List.map encU8 code)), (16, .int .i64 y7.2.2.1), (17, .int .i64 y7.2.2.2), (18, .nils), (19, .bool y8.2), (20, .vl rn 5 (List.map (encCarton rn) y9.1)), (21, .bool y9.2)]) (H0 := []) rfl (⟨_, _, rfl, rfl, _, _, rfl, rfl, _, _, rfl, rfl, _, _, rfl, rfl, _, _, rfl, rfl, _, _, rfl, rfl, _, _, rfl, rfl, rfl⟩) (rfl) rfl ?_)
      refine V.seq ?_
      replace hm0 := bindO hm0; rcases hm0 with ⟨y10, hh10, hm0⟩
      refine V.region (VO.cons rfl (V1.mv ?_))
      refine VO.cons rfl (V1.mv ?_)
      refine VO.cons rfl (V1.boolNeq rfl rfl und_4 rfl rfl lt0 ?_)
      refine VO.cons rfl (V1.mv ?_)
      apply VO.or (n := 4) rfl rfl rfl rfl rfl rfl lt0 (.none rfl)
      ·
       intro hg3
       refine VO.step (.some rfl rfl rfl) (V1.mv ?_)
       refine VO.step (.some rfl rfl rfl) (V1.mv ?_)
       refine VO.weakenK (Keeps.nilsE (l := y8.1) 126 rn 5 (encCarton rn) (hob1 rfl) rfl rfl) ?_
       refine VO.step (.some rfl rfl rfl) (V1.call rfl rfl rfl cok_43 rfl (ok_laws_rCartons (cond_f hg3 hh10)) rfl lt0 ?_)
       rintro _ _ ⟨rfl, rfl⟩
       refine VO.step (.some rfl rfl rfl) (V1.not rfl rfl rfl lt0 ?_)
       exact VO.nil ⟨rfl, rfl, rfl, rfl, .inr ⟨rfl, .inr ⟨rfl, .inr ⟨rfl, .inr ⟨rfl, .inr ⟨rfl, .inr ⟨rfl, .inl rfl⟩⟩⟩⟩⟩⟩⟩
      refine VO.nil (V.keep 275 [0, 16, 17, 18, 19, 130] [] (E0 := [(0, .vl ρ0 1 (List.map encU8 code)), (16, .int .i64 y7.2.2.1), (17, .int .i64 y7.2.2.2), (18, .nils), (19, .bool y8.2), (130, .bool ((!(y8.2 == y9.2)) || (!y10)))]) (H0 := []) rfl (⟨_, _, rfl, rfl, _, _, rfl, rfl, _, _, rfl, rfl, _, _, rfl, rfl, _, _, rfl, rfl, _, _, rfl, rfl, rfl⟩) (rfl) rfl ?_)
      refine V.cond rfl (fun hc4 => ?_) (fun hc4 => ?_)
      ·
       replace hm0 := cond_t hc4 hm0
       refine V.seq (V.region (VO.cons rfl (V1.as ?_)))
       refine VO.nil (V.ret ?_)
       obtain rfl := oi hm0
       exact ⟨_, [], ⟨_, _, rfl, rfl, rfl⟩, List.nil_sublist _, rfl, rfl⟩
      ·
       replace hm0 := cond_f hc4 hm0
       refine V.skip ?_
       refine V.seq ?_
       replace hm0 := bindO hm0; rcases hm0 with ⟨j1, hm1, hm0⟩
       refine V.cutT (D := (Unit) × (Unit)) (fun ⟨_, _⟩ => ⟨275, [(0, .vl ρ0 1 (List.map encU8 code))], []⟩) (fun ⟨_, _⟩ => (.inl () = j1)) ?_ ?_
       ·
        refine V.seq (V.region (VO.cons rfl (V1.mv ?_)))
        refine VO.nil (V.cond rfl (fun hc5 => ?_) (fun hc5 => ?_))
        ·
         replace hm1 := cond_t hc5 hm1
         refine V.seq ?_
         replace hm1 := bindO hm1; rcases hm1 with ⟨y11, hh11, hm1⟩
         refine V.region (VO.cons rfl (V1.mv ?_))
         refine VO.cons rfl (V1.mv ?_)
         refine VO.cons rfl (V1.mv ?_)
         refine VO.weakenK (Keeps.nilsE (l := y8.1) 133 rn 5 (encCarton rn) (hob1 rfl) rfl rfl) ?_
         refine VO.cons rfl (V1.call rfl rfl rfl cok_47 rfl (ok_impl_FreeOn hh11) rfl lt0 ?_)
         rintro _ _ ⟨rfl, rfl⟩
         refine VO.cons rfl (V1.mv ?_)
         refine VO.cons rfl (V1.extract rfl rfl rfl rfl lt0 ?_)
         refine VO.cons rfl (V1.extract rfl rfl rfl rfl lt0 ?_)
         refine VO.cons rfl (V1.as ?_)
         refine VO.cons rfl (V1.as ?_)
         refine VO.nil (V.keep 275 [0, 22, 23] [] (E0 := [(0, .vl ρ0 1 (List.map encU8 code)), (22, .int .i64 y11.1), (23, .bool y11.2)]) (H0 := []) rfl (⟨_, _, rfl, rfl, _, _, rfl, rfl, _, _, rfl, rfl, rfl⟩) (rfl) rfl ?_)
         refine V.seq (V.region (VO.cons rfl (V1.mv ?_)))
         refine VO.cons rfl (V1.not rfl rfl rfl lt0 ?_)
         refine VO.cons rfl (V1.mv ?_)
         apply VO.or (n := 2) rfl rfl rfl rfl rfl rfl lt0 (.none rfl)
         ·
          intro hg4
          refine VO.step (.some rfl rfl rfl) (V1.mv ?_)
          refine VO.step (.some rfl rfl rfl) (V1.it ?_)
          exact VO.nil ⟨rfl, rfl, rfl, rfl, .inr ⟨rfl, .inr ⟨rfl, .inr ⟨rfl, .inl rfl⟩⟩⟩⟩
         refine VO.cons rfl (V1.mv ?_)
         apply VO.or (n := 2) rfl rfl rfl rfl rfl rfl lt0 (.none rfl)
         ·
          intro hg5
          refine VO.step (.some rfl rfl rfl) (V1.mv ?_)
          refine VO.step (.some rfl rfl rfl) (V1.it ?_)
          exact VO.nil ⟨rfl, rfl, rfl, rfl, .inr ⟨rfl, .inr ⟨rfl, .inr ⟨rfl, .inl rfl⟩⟩⟩⟩
         refine VO.nil (V.keep 275 [0, 148] [] (E0 := [(0, .vl ρ0 1 (List.map encU8 code)), (148, .bool (((!y11.2) || (decide (y11.1 < (0 : Int)))) || (decide (y11.1 > (99 : Int)))))]) (H0 := []) rfl (⟨_, _, rfl, rfl, _, _, rfl, rfl, rfl⟩) (rfl) rfl ?_)
         refine V.cond rfl (fun hc6 => ?_) (fun hc6 => ?_)
         ·
          replace hm1 := cond_t hc6 hm1
          refine V.seq (V.region (VO.cons rfl (V1.as ?_)))
          refine VO.nil (V.ret ?_)
          obtain rfl := oi hm1
          change some _ = some _ at hm0
          obtain rfl := oi hm0
          exact ⟨_, [], ⟨_, _, rfl, rfl, rfl⟩, List.nil_sublist _, rfl, rfl⟩
         ·
          replace hm1 := cond_f hc6 hm1
          refine V.skip ?_
          exact ⟨((), ()), oi hm1, Keeps.mk (ks := []) rfl ⟨rfl, trivial⟩ (rfl) rfl⟩
        ·
         replace hm1 := cond_f hc5 hm1
         refine V.skip ?_
         exact ⟨((), ()), oi hm1, Keeps.mk (ks := []) rfl ⟨rfl, trivial⟩ (rfl) rfl⟩
       ·
        rintro ⟨_, _⟩ rfl
        try dsimp only at hm0
        refine V.seq ?_
        replace hm0 := bindO hm0; rcases hm0 with ⟨y12, hh12, hm0⟩
        refine V.region (VO.cons rfl (V1.mv ?_))
        refine VO.cons rfl (V1.call rfl rfl rfl cok_48 rfl (ok_spec_DrawMergeCartons hh12) rfl lt0 ?_)
        rintro _ _ ⟨b4, rfl, rfl⟩
        refine VO.cons rfl (V1.mv ?_)
        refine VO.cons rfl (V1.extract rfl rfl rfl rfl lt0 ?_)
        refine VO.weakenK (Keeps.freezeG 0 rn [(152, .vl rn 5 (List.map (encCarton rn) y12.1))] ([]) (f := (encCarton rn)) (l := y12.1) rfl (fun _ => rfl) ⟨⟨_, rfl, .here⟩, trivial⟩ rfl rfl iNil) ?_
        refine VO.cons rfl (V1.extract rfl rfl rfl rfl lt0 ?_)
        refine VO.cons rfl (V1.extract rfl rfl rfl rfl lt0 ?_)
        refine VO.cons rfl (V1.as ?_)
        refine VO.cons rfl (V1.as ?_)
        refine VO.cons rfl (V1.as ?_)
        refine VO.nil (V.keep 275 [0, 24, 25, 26] [] (E0 := [(0, .vl ρ0 1 (List.map encU8 code)), (24, .vl rn 5 (List.map (encCarton rn) y12.1)), (25, .int .i64 y12.2.1), (26, .int .i64 y12.2.2)]) (H0 := []) rfl (⟨_, _, rfl, rfl, _, _, rfl, rfl, _, _, rfl, rfl, _, _, rfl, rfl, rfl⟩) (rfl) rfl ?_)
        refine V.seq ?_
        replace hm0 := bindO hm0; rcases hm0 with ⟨y13, hh13, hm0⟩
        refine V.region (VO.cons rfl (V1.mv ?_))
        refine VO.cons rfl (V1.mv ?_)
        refine VO.cons rfl (V1.mv ?_)
        refine VO.cons rfl (V1.permK (V1.call rfl rfl rfl cok_38 rfl (ok_impl_MergeCartons hh13) rfl lt0 ?_))
        rintro _ _ ⟨ob2, ts_436, os_436, hob2, hd_436, rfl, rfl⟩
        refine ⟨_, ?_, Keeps.perm (optH 5 ob2 (deepC cellCarton ts_436 y13.1) ++ (([] : List (Nat × Obj')) ++ os_436)) (permDeepO1 (o := optH 5 ob2 (deepC cellCarton ts_436 y13.1)) (os := os_436) (A := []))⟩
        refine VO.cons rfl (V1.mv ?_)
        refine VO.cons rfl (V1.extract rfl rfl rfl rfl lt0 ?_)
        refine VO.cons rfl (V1.extract rfl rfl rfl rfl lt0 ?_)
        refine VO.cons rfl (V1.as ?_)
        refine VO.cons rfl (V1.as ?_)
        refine VO.nil ?_
        rcases ob2 with _ | ob2
        ·
         obtain ⟨rfl, rfl⟩ := Deep.nil (hob2 rfl) hd_436
         refine V.keep 275 [0, 24, 25, 26, 27, 28] [] (E0 := [(0, .vl ρ0 1 (List.map encU8 code)), (24, .vl rn 5 (List.map (encCarton rn) y12.1)), (25, .int .i64 y12.2.1), (26, .int .i64 y12.2.2), (27, .nils), (28, .bool y13.2)]) (H0 := []) rfl (⟨_, _, rfl, rfl, _, _, rfl, rfl, _, _, rfl, rfl, _, _, rfl, rfl, _, _, rfl, rfl, _, _, rfl, rfl, rfl⟩) (rfl) rfl ?_
         refine V.seq (V.seq ?_)
         replace hm0 := bindO hm0; rcases hm0 with ⟨y14, hh14, hm0⟩
         refine V.region (VO.cons rfl (V1.mv ?_))
         refine VO.cons rfl (V1.mv ?_)
         refine VO.cons rfl (V1.mv ?_)
         refine VO.cons rfl (V1.call rfl rfl rfl cok_37 rfl (ok_spec_MergeCartons hh14) rfl lt0 ?_)
         rintro _ _ ⟨b5, rfl, rfl⟩
         refine VO.cons rfl (V1.mv ?_)
         refine VO.cons rfl (V1.extract rfl rfl rfl rfl lt0 ?_)
         refine VO.weakenK (Keeps.freezeG 0 rn [(167, .vl rn 5 (List.map (encCarton rn) y14.1))] ([]) (f := (encCarton rn)) (l := y14.1) rfl (fun _ => rfl) ⟨⟨_, rfl, .here⟩, trivial⟩ rfl rfl iNil) ?_
         refine VO.cons rfl (V1.extract rfl rfl rfl rfl lt0 ?_)
         refine VO.cons rfl (V1.as ?_)
         refine VO.cons rfl (V1.as ?_)
         refine VO.nil (V.keep 275 [0, 24, 25, 26, 27, 28, 29, 30] [] (E0 := [(0, .vl ρ0 1 (List.map encU8 code)), (24, .vl rn 5 (List.map (encCarton rn) y12.1)), (25, .int .i64 y12.2.1), (26, .int .i64 y12.2.2), (27, .nils), (28, .bool y13.2), (29, .vl rn 5 (List.map (encCarton rn) y14.1)), (30, .bool y14.2)]) (H0 := []) rfl (⟨_, _, rfl, rfl, _, _, rfl, rfl, _, _, rfl, rfl, _, _, rfl, rfl, _, _, rfl, rfl, _, _, rfl, rfl, _, _, rfl, rfl, _, _, rfl, rfl, rfl⟩) (rfl) rfl ?_)
         refine V.seq ?_
         replace hm0 := bindO hm0; rcases hm0 with ⟨y15, hh15, hm0⟩
         refine V.region (VO.cons rfl (V1.mv ?_))
         refine VO.cons rfl (V1.mv ?_)
         refine VO.cons rfl (V1.boolNeq rfl rfl und_4 rfl rfl lt0 ?_)
         refine VO.cons rfl (V1.mv ?_)
         apply VO.or (n := 4) rfl rfl rfl rfl rfl rfl lt0 (.none rfl)
         ·
          intro hg6
          refine VO.step (.some rfl rfl rfl) (V1.mv ?_)
          refine VO.step (.some rfl rfl rfl) (V1.mv ?_)
          refine VO.weakenK (Keeps.nilsE (l := y13.1) 173 rn 5 (encCarton rn) (hob2 rfl) rfl rfl) ?_
          refine VO.step (.some rfl rfl rfl) (V1.call rfl rfl rfl cok_43 rfl (ok_laws_rCartons (cond_f hg6 hh15)) rfl lt0 ?_)
          rintro _ _ ⟨rfl, rfl⟩
          refine VO.step (.some rfl rfl rfl) (V1.not rfl rfl rfl lt0 ?_)
          exact VO.nil ⟨rfl, rfl, rfl, rfl, .inr ⟨rfl, .inr ⟨rfl, .inr ⟨rfl, .inr ⟨rfl, .inr ⟨rfl, .inr ⟨rfl, .inl rfl⟩⟩⟩⟩⟩⟩⟩
         refine VO.nil (V.keep 275 [0, 24, 25, 26, 27, 28, 177] [] (E0 := [(0, .vl ρ0 1 (List.map encU8 code)), (24, .vl rn 5 (List.map (encCarton rn) y12.1)), (25, .int .i64 y12.2.1), (26, .int .i64 y12.2.2), (27, .nils), (28, .bool y13.2), (177, .bool ((!(y13.2 == y14.2)) || (!y15)))]) (H0 := []) rfl (⟨_, _, rfl, rfl, _, _, rfl, rfl, _, _, rfl, rfl, _, _, rfl, rfl, _, _, rfl, rfl, _, _, rfl, rfl, _, _, rfl, rfl, rfl⟩) (rfl) rfl ?_)
         refine V.cond rfl (fun hc7 => ?_) (fun hc7 => ?_)
         ·
          replace hm0 := cond_t hc7 hm0
          refine V.seq (V.region (VO.cons rfl (V1.as ?_)))
          refine VO.nil (V.ret ?_)
          obtain rfl := oi hm0
          exact ⟨_, [], ⟨_, _, rfl, rfl, rfl⟩, List.nil_sublist _, rfl, rfl⟩
         ·
          replace hm0 := cond_f hc7 hm0
          refine V.skip ?_
          refine V.seq (V.seq (V.region (VO.cons rfl (V1.as ?_))))
          refine VO.nil ?_
          replace hm0 := bindO hm0; rcases hm0 with ⟨e0, he1, hm0⟩
          refine V.cutT (D := (Unit) × (Unit)) (fun ⟨_, _⟩ => ⟨275, [(0, .vl ρ0 1 (List.map encU8 code))], []⟩) (fun ⟨_, _⟩ => (.inl () = e0)) ?_ ?_
          ·
           refine V.block ?_
           refine V.keep 275 [31, 0, 24, 25, 26, 27, 28] [] (E0 := [(31, .int .i64 (0 : Int)), (0, .vl ρ0 1 (List.map encU8 code)), (24, .vl rn 5 (List.map (encCarton rn) y12.1)), (25, .int .i64 y12.2.1), (26, .int .i64 y12.2.2), (27, .nils), (28, .bool y13.2)]) (H0 := []) rfl (⟨_, _, rfl, rfl, _, _, rfl, rfl, _, _, rfl, rfl, _, _, rfl, rfl, _, _, rfl, rfl, _, _, rfl, rfl, _, _, rfl, rfl, rfl⟩) (rfl) rfl ?_
           refine V.loopE (D := Nat × (Int) × (Unit)) (fun ⟨n0, i, _⟩ => [(31, .int .i64 i)]) (fun ⟨n0, i, _⟩ => []) (fun ⟨n0, i, _⟩ => loopO (M.laws_FnCartons_l0 y12 y13) n0 i = some e0) (fun ⟨n0, _, _⟩ => n0) (rounds, (0 : Int), ()) rfl he1 ?_
           rintro ⟨n0, i, _⟩ hP0
           obtain ⟨m0, y16, rfl, hm1, hl1, hr1⟩ := loop_head hP0
           unfold M.laws_FnCartons_l0 at hm1; dsimp only at hm1
           show V _ _ _ ⟨275, [(31, .int .i64 i), (0, .vl ρ0 1 (List.map encU8 code)), (24, .vl rn 5 (List.map (encCarton rn) y12.1)), (25, .int .i64 y12.2.1), (26, .int .i64 y12.2.2), (27, .nils), (28, .bool y13.2)], []⟩
           refine V.seq (V.seq (V.region (VO.cons rfl (V1.mv ?_))))
           refine VO.cons rfl (V1.mv ?_)
           refine VO.cons rfl (V1.lenMap rfl rfl rfl rfl rfl rfl isl_39 lt0 ?_)
           refine VO.cons rfl (V1.it ?_)
           refine VO.cons rfl (V1.mv ?_)
           apply VO.and (n := 1) rfl rfl rfl rfl rfl rfl lt0 (.none rfl)
           ·
            intro hg7
            refine VO.step (.some rfl rfl rfl) (V1.mv ?_)
            exact VO.nil ⟨rfl, rfl, rfl, rfl, .inr ⟨rfl, .inr ⟨rfl, .inl rfl⟩⟩⟩
           refine VO.nil (V.keep 275 [0, 24, 25, 26, 27, 28, 31, 184] [] (E0 := [(0, .vl ρ0 1 (List.map encU8 code)), (24, .vl rn 5 (List.map (encCarton rn) y12.1)), (25, .int .i64 y12.2.1), (26, .int .i64 y12.2.2), (27, .nils), (28, .bool y13.2), (31, .int .i64 i), (184, .bool ((decide (i < (y12.1.length : Int))) && y13.2))]) (H0 := []) rfl (⟨_, _, rfl, rfl, _, _, rfl, rfl, _, _, rfl, rfl, _, _, rfl, rfl, _, _, rfl, rfl, _, _, rfl, rfl, _, _, rfl, rfl, _, _, rfl, rfl, rfl⟩) (rfl) rfl ?_)
           refine V.cond rfl (fun hc8 => ?_) (fun hc8 => ?_)
           ·
            replace hm1 := cond_t hc8 hm1
            refine V.skip ?_
            refine V.seq (V.block ?_)
            refine V.seq (V.region (VO.cons rfl (V1.as ?_)))
            refine VO.nil ?_
            replace hm1 := bindO hm1; rcases hm1 with ⟨e1, he2, hm1⟩
            refine V.cutT (D := (Unit) × (Unit)) (fun ⟨_, _⟩ => ⟨275, [(0, .vl ρ0 1 (List.map encU8 code)), (24, .vl rn 5 (List.map (encCarton rn) y12.1)), (25, .int .i64 y12.2.1), (26, .int .i64 y12.2.2), (27, .nils), (28, .bool y13.2), (31, .int .i64 i)], []⟩) (fun ⟨_, _⟩ => (.inl () = e1)) ?_ ?_
            ·
             refine V.block ?_
             refine V.keep 275 [32, 0, 24, 25, 26, 27, 28, 31] [] (E0 := [(32, .int .i64 (0 : Int)), (0, .vl ρ0 1 (List.map encU8 code)), (24, .vl rn 5 (List.map (encCarton rn) y12.1)), (25, .int .i64 y12.2.1), (26, .int .i64 y12.2.2), (27, .nils), (28, .bool y13.2), (31, .int .i64 i)]) (H0 := []) rfl (⟨_, _, rfl, rfl, _, _, rfl, rfl, _, _, rfl, rfl, _, _, rfl, rfl, _, _, rfl, rfl, _, _, rfl, rfl, _, _, rfl, rfl, _, _, rfl, rfl, rfl⟩) (rfl) rfl ?_
             refine V.loopE (D := Nat × (Int) × (Unit)) (fun ⟨n1, k, _⟩ => [(32, .int .i64 k)]) (fun ⟨n1, k, _⟩ => []) (fun ⟨n1, k, _⟩ => loopO (M.laws_FnCartons_l1 y12 y13 i) n1 k = some e1) (fun ⟨n1, _, _⟩ => n1) (rounds, (0 : Int), ()) rfl he2 ?_
             rintro ⟨n1, k, _⟩ hP1
             obtain ⟨m1, y17, rfl, hm2, hl2, hr2⟩ := loop_head hP1
             unfold M.laws_FnCartons_l1 at hm2; dsimp only at hm2
             show V _ _ _ ⟨275, [(32, .int .i64 k), (0, .vl ρ0 1 (List.map encU8 code)), (24, .vl rn 5 (List.map (encCarton rn) y12.1)), (25, .int .i64 y12.2.1), (26, .int .i64 y12.2.2), (27, .nils), (28, .bool y13.2), (31, .int .i64 i)], []⟩
             refine V.seq (V.seq ?_)
             replace hm2 := asrt_some hm2; rcases hm2 with ⟨hh16, hm2⟩
             refine V.region (VO.cons rfl (V1.mv ?_))
             refine VO.cons rfl (V1.mv ?_)
             refine VO.cons rfl (V1.mv ?_)
             refine VO.cons rfl (V1.indexI rfl rfl esz_39 rfl rfl hh16 lt0 ?_)
             refine VO.cons rfl (V1.fieldPin rfl rfl fo_67_3 rfl lt0 ?_)
             refine VO.cons rfl (V1.loadPin rfl rfl tyk_36 rfl rfl lt0 ?_)
             refine VO.cons rfl (V1.lenMap rfl rfl rfl rfl rfl rfl isl_36 lt0 ?_)
             refine VO.cons rfl (V1.it ?_)
             refine VO.nil (V.keep 275 [0, 24, 25, 26, 27, 28, 31, 32, 194] [] (E0 := [(0, .vl ρ0 1 (List.map encU8 code)), (24, .vl rn 5 (List.map (encCarton rn) y12.1)), (25, .int .i64 y12.2.1), (26, .int .i64 y12.2.2), (27, .nils), (28, .bool y13.2), (31, .int .i64 i), (32, .int .i64 k), (194, .bool (decide (k < (((y12.1.getD (Int.toNat i) default).Files).length : Int))))]) (H0 := []) rfl (⟨_, _, rfl, rfl, _, _, rfl, rfl, _, _, rfl, rfl, _, _, rfl, rfl, _, _, rfl, rfl, _, _, rfl, rfl, _, _, rfl, rfl, _, _, rfl, rfl, _, _, rfl, rfl, rfl⟩) (rfl) rfl ?_)
             refine V.cond rfl (fun hc9 => ?_) (fun hc9 => ?_)
             ·
              replace hm2 := cond_t hc9 hm2
              refine V.skip ?_
              refine V.seq (V.block ?_)
              refine V.seq ?_
              replace hm2 := asrt_some hm2; rcases hm2 with ⟨hh17, hm2⟩
              replace hm2 := asrt_some hm2; rcases hm2 with ⟨hh18, hm2⟩
              replace hm2 := bindO hm2; rcases hm2 with ⟨y18, hh19, hm2⟩
              refine V.region (VO.cons rfl (V1.mv ?_))
              refine VO.cons rfl (V1.mv ?_)
              refine VO.cons rfl (V1.mv ?_)
              refine VO.cons rfl (V1.indexI rfl rfl esz_39 rfl rfl hh17 lt0 ?_)
              refine VO.cons rfl (V1.fieldPin rfl rfl fo_67_3 rfl lt0 ?_)
              refine VO.cons rfl (V1.loadPin rfl rfl tyk_36 rfl rfl lt0 ?_)
              refine VO.cons rfl (V1.mv ?_)
              refine VO.cons rfl (V1.indexI rfl rfl esz_36 rfl rfl hh18 lt0 ?_)
              refine VO.cons rfl (V1.loadPin rfl rfl tyk_3 rfl rfl lt0 ?_)
              refine VO.weakenK (Keeps.nilsE (l := y13.1) 198 rn 5 (encCarton rn) (hob2 rfl) rfl rfl) ?_
              refine VO.cons rfl (V1.call rfl rfl rfl cok_44 rfl (ok_impl_FindFile hh19) rfl lt0 ?_)
              rintro _ _ ⟨rfl, rfl⟩
              refine VO.cons rfl (V1.mv ?_)
              refine VO.cons rfl (V1.extract rfl rfl rfl rfl lt0 ?_)
              refine VO.cons rfl (V1.extract rfl rfl rfl rfl lt0 ?_)
              refine VO.cons rfl (V1.extract rfl rfl rfl rfl lt0 ?_)
              refine VO.cons rfl (V1.extract rfl rfl rfl rfl lt0 ?_)
              refine VO.cons rfl (V1.as ?_)
              refine VO.cons rfl (V1.as ?_)
              refine VO.cons rfl (V1.as ?_)
              refine VO.cons rfl (V1.as ?_)
              refine VO.nil (V.keep 275 [0, 24, 25, 26, 27, 28, 31, 32, 33, 36] [] (E0 := [(0, .vl ρ0 1 (List.map encU8 code)), (24, .vl rn 5 (List.map (encCarton rn) y12.1)), (25, .int .i64 y12.2.1), (26, .int .i64 y12.2.2), (27, .nils), (28, .bool y13.2), (31, .int .i64 i), (32, .int .i64 k), (33, .int .i64 y18.1), (36, .bool y18.2.2.2)]) (H0 := []) rfl (⟨_, _, rfl, rfl, _, _, rfl, rfl, _, _, rfl, rfl, _, _, rfl, rfl, _, _, rfl, rfl, _, _, rfl, rfl, _, _, rfl, rfl, _, _, rfl, rfl, _, _, rfl, rfl, _, _, rfl, rfl, rfl⟩) (rfl) rfl ?_)
              refine V.seq ?_
              replace hm2 := asrt_some hm2; rcases hm2 with ⟨hh20, hm2⟩
              replace hm2 := asrt_some hm2; rcases hm2 with ⟨hh21, hm2⟩
              refine V.region (VO.cons rfl (V1.mv ?_))
              refine VO.cons rfl (V1.not rfl rfl rfl lt0 ?_)
              refine VO.cons rfl (V1.mv ?_)
              apply VO.or (n := 20) rfl rfl rfl rfl rfl rfl lt0 (.none rfl)
              ·
               intro hg8
               refine VO.step (.some rfl rfl rfl) (V1.mv ?_)
               refine VO.step (.some rfl rfl rfl) (V1.mv ?_)
               refine VO.step (.some rfl rfl rfl) (V1.indexI rfl rfl esz_39 rfl rfl (hh20 hg8) lt0 ?_)
               refine VO.step (.some rfl rfl rfl) (V1.fieldPin rfl rfl fo_67_0 rfl lt0 ?_)
               refine VO.step (.some rfl rfl rfl) (V1.loadPin rfl rfl tyk_3 rfl rfl lt0 ?_)
               refine VO.step (.some rfl rfl rfl) (V1.mv ?_)
               refine VO.step (.some rfl rfl rfl) (V1.it ?_)
               refine VO.step (.some rfl rfl rfl) (V1.mv ?_)
               apply VO.or (n := 7) rfl rfl rfl rfl rfl rfl lt0 (.some rfl rfl rfl)
               ·
                intro hg9
                refine VO.step (.some rfl rfl rfl) (V1.mv ?_)
                refine VO.step (.some rfl rfl rfl) (V1.mv ?_)
                refine VO.step (.some rfl rfl rfl) (V1.indexI rfl rfl esz_39 rfl rfl (hh21 hg8 hg9) lt0 ?_)
                refine VO.step (.some rfl rfl rfl) (V1.fieldPin rfl rfl fo_67_0 rfl lt0 ?_)
                refine VO.step (.some rfl rfl rfl) (V1.loadPin rfl rfl tyk_3 rfl rfl lt0 ?_)
                refine VO.step (.some rfl rfl rfl) (V1.mv ?_)
                refine VO.step (.some rfl rfl rfl) (V1.it ?_)
                exact VO.nil ⟨rfl, rfl, rfl, rfl, .inr ⟨rfl, .inr ⟨rfl, .inr ⟨rfl, .inr ⟨rfl, .inr ⟨rfl, .inr ⟨rfl, .inr ⟨rfl, .inr ⟨rfl, .inl rfl⟩⟩⟩⟩⟩⟩⟩⟩⟩
               refine VO.step (.some rfl rfl rfl) (V1.mv ?_)
               refine VO.step (.some rfl rfl rfl) (V1.mv ?_)
               refine VO.step (.some rfl rfl rfl) (V1.it ?_)
               refine VO.step (.some rfl rfl rfl) (V1.boolNeq rfl rfl und_4 rfl rfl lt0 ?_)
               exact VO.nil ⟨rfl, rfl, rfl, rfl, .inr ⟨rfl, .inr ⟨rfl, .inr ⟨rfl, .inr ⟨rfl, .inr ⟨rfl, .inr ⟨rfl, .inr ⟨rfl, .inr ⟨rfl, .inr ⟨rfl, .inr ⟨rfl, .inr ⟨rfl, .inr ⟨rfl, .inr ⟨rfl, .inr ⟨rfl, .inl rfl⟩⟩⟩⟩⟩⟩⟩⟩⟩⟩⟩⟩⟩⟩⟩
              refine VO.nil (V.keep 275 [0, 24, 25, 26, 27, 28, 31, 32, 235] [] (E0 := [(0, .vl ρ0 1 (List.map encU8 code)), (24, .vl rn 5 (List.map (encCarton rn) y12.1)), (25, .int .i64 y12.2.1), (26, .int .i64 y12.2.2), (27, .nils), (28, .bool y13.2), (31, .int .i64 i), (32, .int .i64 k), (235, .bool ((!y18.2.2.2) || (!(((((y12.1.getD (Int.toNat i) default).Id) == y12.2.1) || (((y12.1.getD (Int.toNat i) default).Id) == y12.2.2)) == (y18.1 == y12.2.1)))))]) (H0 := []) rfl (⟨_, _, rfl, rfl, _, _, rfl, rfl, _, _, rfl, rfl, _, _, rfl, rfl, _, _, rfl, rfl, _, _, rfl, rfl, _, _, rfl, rfl, _, _, rfl, rfl, _, _, rfl, rfl, rfl⟩) (rfl) rfl ?_)
              refine V.cond rfl (fun hc10 => ?_) (fun hc10 => ?_)
              ·
               replace hm2 := cond_t hc10 hm2
               refine V.seq (V.region (VO.cons rfl (V1.as ?_)))
               refine VO.nil (V.ret ?_)
               obtain rfl := hr2 _ (oi hm2).symm
               change some _ = some _ at hm1
               obtain rfl := hr1 _ (oi hm1).symm
               change some _ = some _ at hm0
               obtain rfl := oi hm0
               exact ⟨_, [], ⟨_, _, rfl, rfl, rfl⟩, List.nil_sublist _, rfl, rfl⟩
              ·
               replace hm2 := cond_f hc10 hm2
               refine V.skip ?_
               refine V.region (VO.cons rfl (V1.mv ?_))
               refine VO.cons rfl (V1.it ?_)
               refine VO.cons rfl (V1.as ?_)
               refine VO.nil ?_
               exact ⟨(m1, (IntKind.i64.wrap (k + (1 : Int))), ()), hl2 _ (oi hm2).symm, Nat.lt_succ_self _, Keeps.mk (ks := []) rfl ⟨rfl, rfl, rfl, rfl, rfl, rfl, rfl, rfl, trivial⟩ (rfl) rfl⟩
             ·
              replace hm2 := cond_f hc9 hm2
              refine V.exit ?_
              obtain rfl := hr2 _ (oi hm2).symm
              exact ⟨((), ()), rfl, Keeps.mk (ks := []) rfl ⟨rfl, rfl, rfl, rfl, rfl, rfl, rfl, trivial⟩ (rfl) rfl⟩
            ·
             rintro ⟨_, _⟩ rfl
             try dsimp only at hm1
             refine V.region (VO.cons rfl (V1.mv ?_))
             refine VO.cons rfl (V1.it ?_)
             refine VO.cons rfl (V1.as ?_)
             refine VO.nil ?_
             exact ⟨(m0, (IntKind.i64.wrap (i + (1 : Int))), ()), hl1 _ (oi hm1).symm, Nat.lt_succ_self _, Keeps.mk (ks := []) rfl ⟨rfl, rfl, rfl, rfl, rfl, rfl, rfl, trivial⟩ (rfl) rfl⟩
           ·
            replace hm1 := cond_f hc8 hm1
            refine V.exit ?_
            obtain rfl := hr1 _ (oi hm1).symm
            exact ⟨((), ()), rfl, Keeps.mk (ks := []) rfl ⟨rfl, trivial⟩ (rfl) rfl⟩
          ·
           rintro ⟨_, _⟩ rfl
           try dsimp only at hm0
           refine V.seq ?_
           replace hm0 := bindO hm0; rcases hm0 with ⟨y19, hh22, hm0⟩
           refine V.region (VO.cons rfl (V1.mv ?_))
           refine VO.cons rfl (V1.call rfl rfl rfl cok_49 rfl (ok_spec_DrawFindFile hh22) rfl lt0 ?_)
           rintro _ _ ⟨b6, rfl, rfl⟩
           refine VO.cons rfl (V1.mv ?_)
           refine VO.cons rfl (V1.extract rfl rfl rfl rfl lt0 ?_)
           refine VO.weakenK (Keeps.freezeG 0 rn [(239, .vl rn 5 (List.map (encCarton rn) y19.1))] ([]) (f := (encCarton rn)) (l := y19.1) rfl (fun _ => rfl) ⟨⟨_, rfl, .here⟩, trivial⟩ rfl rfl iNil) ?_
           refine VO.cons rfl (V1.extract rfl rfl rfl rfl lt0 ?_)
           refine VO.cons rfl (V1.as ?_)
           refine VO.cons rfl (V1.as ?_)
           refine VO.nil (V.keep 275 [37, 38] [] (E0 := [(37, .vl rn 5 (List.map (encCarton rn) y19.1)), (38, .int .i64 y19.2)]) (H0 := []) rfl (⟨_, _, rfl, rfl, _, _, rfl, rfl, rfl⟩) (rfl) rfl ?_)
           refine V.seq ?_
           replace hm0 := bindO hm0; rcases hm0 with ⟨y20, hh23, hm0⟩
           refine V.region (VO.cons rfl (V1.mv ?_))
           refine VO.cons rfl (V1.mv ?_)
           refine VO.cons rfl (V1.call rfl rfl rfl cok_44 rfl (ok_impl_FindFile hh23) rfl lt0 ?_)
           rintro _ _ ⟨rfl, rfl⟩
           refine VO.cons rfl (V1.mv ?_)
           refine VO.cons rfl (V1.extract rfl rfl rfl rfl lt0 ?_)
           refine VO.cons rfl (V1.extract rfl rfl rfl rfl lt0 ?_)
           refine VO.cons rfl (V1.extract rfl rfl rfl rfl lt0 ?_)
           refine VO.cons rfl (V1.extract rfl rfl rfl rfl lt0 ?_)
           refine VO.cons rfl (V1.as ?_)
           refine VO.cons rfl (V1.as ?_)
           refine VO.cons rfl (V1.as ?_)
           refine VO.cons rfl (V1.as ?_)
           refine VO.nil (V.keep 275 [37, 38, 39, 40, 41, 42] [] (E0 := [(37, .vl rn 5 (List.map (encCarton rn) y19.1)), (38, .int .i64 y19.2), (39, .int .i64 y20.1), (40, .int .i64 y20.2.1), (41, .int .i64 y20.2.2.1), (42, .bool y20.2.2.2)]) (H0 := []) rfl (⟨_, _, rfl, rfl, _, _, rfl, rfl, _, _, rfl, rfl, _, _, rfl, rfl, _, _, rfl, rfl, _, _, rfl, rfl, rfl⟩) (rfl) rfl ?_)
           refine V.seq ?_
           replace hm0 := bindO hm0; rcases hm0 with ⟨y21, hh24, hm0⟩
           refine V.region (VO.cons rfl (V1.mv ?_))
           refine VO.cons rfl (V1.mv ?_)
           refine VO.cons rfl (V1.call rfl rfl rfl cok_50 rfl (ok_spec_FindFile hh24) rfl lt0 ?_)
           rintro _ _ ⟨rfl, rfl⟩
           refine VO.cons rfl (V1.mv ?_)
           refine VO.cons rfl (V1.extract rfl rfl rfl rfl lt0 ?_)
           refine VO.cons rfl (V1.extract rfl rfl rfl rfl lt0 ?_)
           refine VO.cons rfl (V1.extract rfl rfl rfl rfl lt0 ?_)
           refine VO.cons rfl (V1.extract rfl rfl rfl rfl lt0 ?_)
           refine VO.cons rfl (V1.as ?_)
           refine VO.cons rfl (V1.as ?_)
           refine VO.cons rfl (V1.as ?_)
           refine VO.cons rfl (V1.as ?_)
           refine VO.nil (V.keep 275 [39, 40, 41, 42, 43, 44, 45, 46] [] (E0 := [(39, .int .i64 y20.1), (40, .int .i64 y20.2.1), (41, .int .i64 y20.2.2.1), (42, .bool y20.2.2.2), (43, .int .i64 y21.1), (44, .int .i64 y21.2.1), (45, .int .i64 y21.2.2.1), (46, .bool y21.2.2.2)]) (H0 := []) rfl (⟨_, _, rfl, rfl, _, _, rfl, rfl, _, _, rfl, rfl, _, _, rfl, rfl, _, _, rfl, rfl, _, _, rfl, rfl, _, _, rfl, rfl, _, _, rfl, rfl, rfl⟩) (rfl) rfl ?_)
           refine V.seq (V.region (VO.cons rfl (V1.mv ?_)))
           refine VO.cons rfl (V1.mv ?_)
           refine VO.cons rfl (V1.it ?_)
           refine VO.cons rfl (V1.mv ?_)
           apply VO.and (n := 3) rfl rfl rfl rfl rfl rfl lt0 (.none rfl)
           ·
            intro hg10
            refine VO.step (.some rfl rfl rfl) (V1.mv ?_)
            refine VO.step (.some rfl rfl rfl) (V1.mv ?_)
            refine VO.step (.some rfl rfl rfl) (V1.it ?_)
            exact VO.nil ⟨rfl, rfl, rfl, rfl, .inr ⟨rfl, .inr ⟨rfl, .inr ⟨rfl, .inr ⟨rfl, .inl rfl⟩⟩⟩⟩⟩
           refine VO.cons rfl (V1.mv ?_)
           apply VO.and (n := 3) rfl rfl rfl rfl rfl rfl lt0 (.none rfl)
           ·
            intro hg11
            refine VO.step (.some rfl rfl rfl) (V1.mv ?_)
            refine VO.step (.some rfl rfl rfl) (V1.mv ?_)
            refine VO.step (.some rfl rfl rfl) (V1.it ?_)
            exact VO.nil ⟨rfl, rfl, rfl, rfl, .inr ⟨rfl, .inr ⟨rfl, .inr ⟨rfl, .inr ⟨rfl, .inl rfl⟩⟩⟩⟩⟩
           refine VO.cons rfl (V1.mv ?_)
           apply VO.and (n := 3) rfl rfl rfl rfl rfl rfl lt0 (.none rfl)
           ·
            intro hg12
            refine VO.step (.some rfl rfl rfl) (V1.mv ?_)
            refine VO.step (.some rfl rfl rfl) (V1.mv ?_)
            refine VO.step (.some rfl rfl rfl) (V1.boolEql rfl rfl und_4 rfl rfl lt0 ?_)
            exact VO.nil ⟨rfl, rfl, rfl, rfl, .inr ⟨rfl, .inr ⟨rfl, .inr ⟨rfl, .inr ⟨rfl, .inl rfl⟩⟩⟩⟩⟩
           refine VO.cons rfl (V1.as ?_)
           refine VO.nil (V.ret ?_)
           obtain rfl := oi hm0
           exact ⟨_, [], ⟨_, _, rfl, rfl, rfl⟩, List.nil_sublist _, rfl, rfl⟩
        ·
         refine V.keepT 275 [0, 24, 25, 26, 27, 28] [0] (E0 := [(0, .vl ρ0 1 (List.map encU8 code)), (24, .vl rn 5 (List.map (encCarton rn) y12.1)), (25, .int .i64 y12.2.1), (26, .int .i64 y12.2.2), (27, .sref ob2 5 0 (List.length y13.1)), (28, .bool y13.2)]) (A := [(ob2, ⟨5, deepC cellCarton ts_436 y13.1⟩)]) (T := os_436) (H0 := [(ob2, ⟨5, deepC cellCarton ts_436 y13.1⟩)]) (T' := os_436) rfl (⟨_, _, rfl, rfl, _, _, rfl, rfl, _, _, rfl, rfl, _, _, rfl, rfl, _, _, rfl, rfl, _, _, rfl, rfl, rfl⟩) rfl (⟨_, _, rfl, rfl, rfl⟩) rfl (List.Sublist.refl _) ?_
         refine V.seq (V.seq ?_)
         replace hm0 := bindO hm0; rcases hm0 with ⟨y14, hh14, hm0⟩
         refine V.region (VO.cons rfl (V1.mv ?_))
         refine VO.cons rfl (V1.mv ?_)
         refine VO.cons rfl (V1.mv ?_)
         refine VO.cons rfl (V1.call rfl rfl rfl cok_37 rfl (ok_spec_MergeCartons hh14) rfl lt0 ?_)
         rintro _ _ ⟨b5, rfl, rfl⟩
         refine VO.cons rfl (V1.mv ?_)
         refine VO.cons rfl (V1.extract rfl rfl rfl rfl lt0 ?_)
         refine VO.weakenK (Keeps.freezeG 0 rn [(167, .vl rn 5 (List.map (encCarton rn) y14.1))] ((ob2, ⟨5, deepC cellCarton ts_436 y13.1⟩) :: os_436) (f := (encCarton rn)) (l := y14.1) rfl (fun _ => rfl) ⟨⟨_, rfl, .here⟩, trivial⟩ ⟨_, _, rfl, rfl, .inl rfl, FrzH.same⟩ rfl iNil) ?_
         refine VO.cons rfl (V1.extract rfl rfl rfl rfl lt0 ?_)
         refine VO.cons rfl (V1.as ?_)
         refine VO.cons rfl (V1.as ?_)
         refine VO.nil (V.keepT 275 [0, 24, 25, 26, 27, 28, 29, 30] [0] (E0 := [(0, .vl ρ0 1 (List.map encU8 code)), (24, .vl rn 5 (List.map (encCarton rn) y12.1)), (25, .int .i64 y12.2.1), (26, .int .i64 y12.2.2), (27, .sref ob2 5 0 (List.length y13.1)), (28, .bool y13.2), (29, .vl rn 5 (List.map (encCarton rn) y14.1)), (30, .bool y14.2)]) (A := [(ob2, ⟨5, deepC cellCarton ts_436 y13.1⟩)]) (T := os_436) (H0 := [(ob2, ⟨5, deepC cellCarton ts_436 y13.1⟩)]) (T' := os_436) rfl (⟨_, _, rfl, rfl, _, _, rfl, rfl, _, _, rfl, rfl, _, _, rfl, rfl, _, _, rfl, rfl, _, _, rfl, rfl, _, _, rfl, rfl, _, _, rfl, rfl, rfl⟩) rfl (⟨_, _, rfl, rfl, rfl⟩) rfl (List.Sublist.refl _) ?_)
         refine V.seq ?_
         replace hm0 := bindO hm0; rcases hm0 with ⟨y15, hh15, hm0⟩
         refine V.region (VO.cons rfl (V1.mv ?_))
         refine VO.cons rfl (V1.mv ?_)
         refine VO.cons rfl (V1.boolNeq rfl rfl und_4 rfl rfl lt0 ?_)
         refine VO.cons rfl (V1.mv ?_)
         apply VO.or (n := 4) rfl rfl rfl rfl rfl rfl lt0 (.none rfl)
         ·
          intro hg6
          refine VO.step (.some rfl rfl rfl) (V1.mv ?_)
          refine VO.step (.some rfl rfl rfl) (V1.mv ?_)
          refine VO.step (.some rfl rfl rfl) (V1.callL (rn + 1) ([ob2] ++ List.map Prod.fst os_436) [.vl (rn + 1) 5 (List.map (encCarton (rn + 1)) y13.1), .vl rn 5 (List.map (encCarton rn) y14.1)] rfl rfl rfl cok_43 rfl ⟨_, _, rfl, Lend.deep (m := 1) (inn := (fun c_ : Carton => List.map encInt c_.Files)) (cell := cellCarton) cokCarton (ts := ts_436) (os := os_436) (xs := y13.1) 0 hd_436 rfl (fun _ => roL_map (fun _ => rfl) _) rfl (fun p hp => memTail (A := [(ob2, ⟨5, deepC cellCarton ts_436 y13.1⟩)]) (T := os_436) hp rfl) (List.mem_append_left _ (.head _)) (fun p hp => List.mem_append_right _ (List.mem_map.2 ⟨p, hp, rfl⟩)), ⟨_, _, rfl, .same _, rfl⟩⟩ (bwTail (A := [(ob2, ⟨5, deepC cellCarton ts_436 y13.1⟩)]) (T := os_436) rfl (bwCons (k := 0) rfl bwNil) (fun p hp => hp)) (ok_laws_rCartons (cond_f hg6 hh15)) rfl (⟨(by first | omega | (dsimp only; omega)), by rintro _ _ ⟨rfl, rfl⟩; exact ⟨rfl, by simp⟩⟩) lt0 ?_)
          rintro _ _ ⟨rfl, rfl⟩
          refine VO.step (.some rfl rfl rfl) (V1.not rfl rfl rfl lt0 ?_)
          exact VO.nil ⟨rfl, rfl, rfl, rfl, .inr ⟨rfl, .inr ⟨rfl, .inr ⟨rfl, .inr ⟨rfl, .inr ⟨rfl, .inl rfl⟩⟩⟩⟩⟩⟩
         refine VO.nil (V.keepT 275 [0, 24, 25, 26, 27, 28, 177] [0] (E0 := [(0, .vl ρ0 1 (List.map encU8 code)), (24, .vl rn 5 (List.map (encCarton rn) y12.1)), (25, .int .i64 y12.2.1), (26, .int .i64 y12.2.2), (27, .sref ob2 5 0 (List.length y13.1)), (28, .bool y13.2), (177, .bool ((!(y13.2 == y14.2)) || (!y15)))]) (A := [(ob2, ⟨5, deepC cellCarton ts_436 y13.1⟩)]) (T := os_436) (H0 := [(ob2, ⟨5, deepC cellCarton ts_436 y13.1⟩)]) (T' := os_436) rfl (⟨_, _, rfl, rfl, _, _, rfl, rfl, _, _, rfl, rfl, _, _, rfl, rfl, _, _, rfl, rfl, _, _, rfl, rfl, _, _, rfl, rfl, rfl⟩) rfl (⟨_, _, rfl, rfl, rfl⟩) rfl (List.Sublist.refl _) ?_)
         refine V.cond rfl (fun hc7 => ?_) (fun hc7 => ?_)
         ·
          replace hm0 := cond_t hc7 hm0
          refine V.seq (V.region (VO.cons rfl (V1.as ?_)))
          refine VO.nil (V.ret ?_)
          obtain rfl := oi hm0
          exact ⟨_, [], ⟨_, _, rfl, rfl, rfl⟩, List.nil_sublist _, rfl, rfl⟩
         ·
          replace hm0 := cond_f hc7 hm0
          refine V.skip ?_
          refine V.seq (V.seq (V.region (VO.cons rfl (V1.as ?_))))
          refine VO.nil ?_
          replace hm0 := bindO hm0; rcases hm0 with ⟨e0, he1, hm0⟩
          refine V.cutT (D := (Unit) × (Unit)) (fun ⟨_, _⟩ => ⟨275, [(0, .vl ρ0 1 (List.map encU8 code))], []⟩) (fun ⟨_, _⟩ => (.inl () = e0)) ?_ ?_
          ·
           refine V.block ?_
           refine V.keepT 275 [31, 0, 24, 25, 26, 27, 28] [0] (E0 := [(31, .int .i64 (0 : Int)), (0, .vl ρ0 1 (List.map encU8 code)), (24, .vl rn 5 (List.map (encCarton rn) y12.1)), (25, .int .i64 y12.2.1), (26, .int .i64 y12.2.2), (27, .sref ob2 5 0 (List.length y13.1)), (28, .bool y13.2)]) (A := [(ob2, ⟨5, deepC cellCarton ts_436 y13.1⟩)]) (T := os_436) (H0 := [(ob2, ⟨5, deepC cellCarton ts_436 y13.1⟩)]) (T' := os_436) rfl (⟨_, _, rfl, rfl, _, _, rfl, rfl, _, _, rfl, rfl, _, _, rfl, rfl, _, _, rfl, rfl, _, _, rfl, rfl, _, _, rfl, rfl, rfl⟩) rfl (⟨_, _, rfl, rfl, rfl⟩) rfl (List.Sublist.refl _) ?_
           refine V.loopE (D := Nat × (Int) × (Unit)) (fun ⟨n0, i, _⟩ => [(31, .int .i64 i)]) (fun ⟨n0, i, _⟩ => []) (fun ⟨n0, i, _⟩ => loopO (M.laws_FnCartons_l0 y12 y13) n0 i = some e0) (fun ⟨n0, _, _⟩ => n0) (rounds, (0 : Int), ()) rfl he1 ?_
           rintro ⟨n0, i, _⟩ hP0
           obtain ⟨m0, y16, rfl, hm1, hl1, hr1⟩ := loop_head hP0
           unfold M.laws_FnCartons_l0 at hm1; dsimp only at hm1
           show V _ _ _ ⟨275, [(31, .int .i64 i), (0, .vl ρ0 1 (List.map encU8 code)), (24, .vl rn 5 (List.map (encCarton rn) y12.1)), (25, .int .i64 y12.2.1), (26, .int .i64 y12.2.2), (27, .sref ob2 5 0 (List.length y13.1)), (28, .bool y13.2)], (([(ob2, ⟨5, deepC cellCarton ts_436 y13.1⟩)] : List (Nat × Obj')) ++ os_436)⟩
           refine V.seq (V.seq (V.region (VO.cons rfl (V1.mv ?_))))
           refine VO.cons rfl (V1.mv ?_)
           refine VO.cons rfl (V1.lenMap rfl rfl rfl rfl rfl rfl isl_39 lt0 ?_)
           refine VO.cons rfl (V1.it ?_)
           refine VO.cons rfl (V1.mv ?_)
           apply VO.and (n := 1) rfl rfl rfl rfl rfl rfl lt0 (.none rfl)
           ·
            intro hg7
            refine VO.step (.some rfl rfl rfl) (V1.mv ?_)
            exact VO.nil ⟨rfl, rfl, rfl, rfl, .inr ⟨rfl, .inr ⟨rfl, .inl rfl⟩⟩⟩
           refine VO.nil (V.keepT 275 [0, 24, 25, 26, 27, 28, 31, 184] [0] (E0 := [(0, .vl ρ0 1 (List.map encU8 code)), (24, .vl rn 5 (List.map (encCarton rn) y12.1)), (25, .int .i64 y12.2.1), (26, .int .i64 y12.2.2), (27, .sref ob2 5 0 (List.length y13.1)), (28, .bool y13.2), (31, .int .i64 i), (184, .bool ((decide (i < (y12.1.length : Int))) && y13.2))]) (A := [(ob2, ⟨5, deepC cellCarton ts_436 y13.1⟩)]) (T := os_436) (H0 := [(ob2, ⟨5, deepC cellCarton ts_436 y13.1⟩)]) (T' := os_436) rfl (⟨_, _, rfl, rfl, _, _, rfl, rfl, _, _, rfl, rfl, _, _, rfl, rfl, _, _, rfl, rfl, _, _, rfl, rfl, _, _, rfl, rfl, _, _, rfl, rfl, rfl⟩) rfl (⟨_, _, rfl, rfl, rfl⟩) rfl (List.Sublist.refl _) ?_)
           refine V.cond rfl (fun hc8 => ?_) (fun hc8 => ?_)
           ·
            replace hm1 := cond_t hc8 hm1
            refine V.skip ?_
            refine V.seq (V.block ?_)
            refine V.seq (V.region (VO.cons rfl (V1.as ?_)))
            refine VO.nil ?_
            replace hm1 := bindO hm1; rcases hm1 with ⟨e1, he2, hm1⟩
            refine V.cutT (D := (Unit) × (Unit)) (fun ⟨_, _⟩ => ⟨275, [(0, .vl ρ0 1 (List.map encU8 code)), (24, .vl rn 5 (List.map (encCarton rn) y12.1)), (25, .int .i64 y12.2.1), (26, .int .i64 y12.2.2), (27, .sref ob2 5 0 (List.length y13.1)), (28, .bool y13.2), (31, .int .i64 i)], ([(ob2, ⟨5, deepC cellCarton ts_436 y13.1⟩)]) ++ os_436⟩) (fun ⟨_, _⟩ => (.inl () = e1)) ?_ ?_
            ·
             refine V.block ?_
             refine V.keepT 275 [32, 0, 24, 25, 26, 27, 28, 31] [0] (E0 := [(32, .int .i64 (0 : Int)), (0, .vl ρ0 1 (List.map encU8 code)), (24, .vl rn 5 (List.map (encCarton rn) y12.1)), (25, .int .i64 y12.2.1), (26, .int .i64 y12.2.2), (27, .sref ob2 5 0 (List.length y13.1)), (28, .bool y13.2), (31, .int .i64 i)]) (A := [(ob2, ⟨5, deepC cellCarton ts_436 y13.1⟩)]) (T := os_436) (H0 := [(ob2, ⟨5, deepC cellCarton ts_436 y13.1⟩)]) (T' := os_436) rfl (⟨_, _, rfl, rfl, _, _, rfl, rfl, _, _, rfl, rfl, _, _, rfl, rfl, _, _, rfl, rfl, _, _, rfl, rfl, _, _, rfl, rfl, _, _, rfl, rfl, rfl⟩) rfl (⟨_, _, rfl, rfl, rfl⟩) rfl (List.Sublist.refl _) ?_
             refine V.loopE (D := Nat × (Int) × (Unit)) (fun ⟨n1, k, _⟩ => [(32, .int .i64 k)]) (fun ⟨n1, k, _⟩ => []) (fun ⟨n1, k, _⟩ => loopO (M.laws_FnCartons_l1 y12 y13 i) n1 k = some e1) (fun ⟨n1, _, _⟩ => n1) (rounds, (0 : Int), ()) rfl he2 ?_
             rintro ⟨n1, k, _⟩ hP1
             obtain ⟨m1, y17, rfl, hm2, hl2, hr2⟩ := loop_head hP1
             unfold M.laws_FnCartons_l1 at hm2; dsimp only at hm2
             show V _ _ _ ⟨275, [(32, .int .i64 k), (0, .vl ρ0 1 (List.map encU8 code)), (24, .vl rn 5 (List.map (encCarton rn) y12.1)), (25, .int .i64 y12.2.1), (26, .int .i64 y12.2.2), (27, .sref ob2 5 0 (List.length y13.1)), (28, .bool y13.2), (31, .int .i64 i)], (([(ob2, ⟨5, deepC cellCarton ts_436 y13.1⟩)] : List (Nat × Obj')) ++ os_436)⟩
             refine V.seq (V.seq ?_)
             replace hm2 := asrt_some hm2; rcases hm2 with ⟨hh16, hm2⟩
             refine V.region (VO.cons rfl (V1.mv ?_))
             refine VO.cons rfl (V1.mv ?_)
             refine VO.cons rfl (V1.mv ?_)
             refine VO.cons rfl (V1.indexI rfl rfl esz_39 rfl rfl hh16 lt0 ?_)
             refine VO.cons rfl (V1.fieldPin rfl rfl fo_67_3 rfl lt0 ?_)
             refine VO.cons rfl (V1.loadPin rfl rfl tyk_36 rfl rfl lt0 ?_)
             refine VO.cons rfl (V1.lenMap rfl rfl rfl rfl rfl rfl isl_36 lt0 ?_)
             refine VO.cons rfl (V1.it ?_)
             refine VO.nil (V.keepT 275 [0, 24, 25, 26, 27, 28, 31, 32, 194] [0] (E0 := [(0, .vl ρ0 1 (List.map encU8 code)), (24, .vl rn 5 (List.map (encCarton rn) y12.1)), (25, .int .i64 y12.2.1), (26, .int .i64 y12.2.2), (27, .sref ob2 5 0 (List.length y13.1)), (28, .bool y13.2), (31, .int .i64 i), (32, .int .i64 k), (194, .bool (decide (k < (((y12.1.getD (Int.toNat i) default).Files).length : Int))))]) (A := [(ob2, ⟨5, deepC cellCarton ts_436 y13.1⟩)]) (T := os_436) (H0 := [(ob2, ⟨5, deepC cellCarton ts_436 y13.1⟩)]) (T' := os_436) rfl (⟨_, _, rfl, rfl, _, _, rfl, rfl, _, _, rfl, rfl, _, _, rfl, rfl, _, _, rfl, rfl, _, _, rfl, rfl, _, _, rfl, rfl, _, _, rfl, rfl, _, _, rfl, rfl, rfl⟩) rfl (⟨_, _, rfl, rfl, rfl⟩) rfl (List.Sublist.refl _) ?_)
             refine V.cond rfl (fun hc9 => ?_) (fun hc9 => ?_)
             ·
              replace hm2 := cond_t hc9 hm2
              refine V.skip ?_
              refine V.seq (V.block ?_)
              refine V.seq ?_
              replace hm2 := asrt_some hm2; rcases hm2 with ⟨hh17, hm2⟩
              replace hm2 := asrt_some hm2; rcases hm2 with ⟨hh18, hm2⟩
              replace hm2 := bindO hm2; rcases hm2 with ⟨y18, hh19, hm2⟩
              refine V.region (VO.cons rfl (V1.mv ?_))
              refine VO.cons rfl (V1.mv ?_)
              refine VO.cons rfl (V1.mv ?_)
              refine VO.cons rfl (V1.indexI rfl rfl esz_39 rfl rfl hh17 lt0 ?_)
              refine VO.cons rfl (V1.fieldPin rfl rfl fo_67_3 rfl lt0 ?_)
              refine VO.cons rfl (V1.loadPin rfl rfl tyk_36 rfl rfl lt0 ?_)
              refine VO.cons rfl (V1.mv ?_)
              refine VO.cons rfl (V1.indexI rfl rfl esz_36 rfl rfl hh18 lt0 ?_)
              refine VO.cons rfl (V1.loadPin rfl rfl tyk_3 rfl rfl lt0 ?_)
              refine VO.cons rfl (V1.callL (rn + 1) ([ob2] ++ List.map Prod.fst os_436) [.vl (rn + 1) 5 (List.map (encCarton (rn + 1)) y13.1), .int .i64 (((y12.1.getD (Int.toNat i) default).Files).getD (Int.toNat k) default)] rfl rfl rfl cok_44 rfl ⟨_, _, rfl, Lend.deep (m := 1) (inn := (fun c_ : Carton => List.map encInt c_.Files)) (cell := cellCarton) cokCarton (ts := ts_436) (os := os_436) (xs := y13.1) 0 hd_436 rfl (fun _ => roL_map (fun _ => rfl) _) rfl (fun p hp => memTail (A := [(ob2, ⟨5, deepC cellCarton ts_436 y13.1⟩)]) (T := os_436) hp rfl) (List.mem_append_left _ (.head _)) (fun p hp => List.mem_append_right _ (List.mem_map.2 ⟨p, hp, rfl⟩)), ⟨_, _, rfl, .same _, rfl⟩⟩ (bwTail (A := [(ob2, ⟨5, deepC cellCarton ts_436 y13.1⟩)]) (T := os_436) rfl (bwCons (k := 0) rfl bwNil) (fun p hp => hp)) (ok_impl_FindFile hh19) rfl (⟨(by first | omega | (dsimp only; omega)), by rintro _ _ ⟨rfl, rfl⟩; exact ⟨rfl, by simp⟩⟩) lt0 ?_)
              rintro _ _ ⟨rfl, rfl⟩
              refine VO.cons rfl (V1.mv ?_)
              refine VO.cons rfl (V1.extract rfl rfl rfl rfl lt0 ?_)
              refine VO.cons rfl (V1.extract rfl rfl rfl rfl lt0 ?_)
              refine VO.cons rfl (V1.extract rfl rfl rfl rfl lt0 ?_)
              refine VO.cons rfl (V1.extract rfl rfl rfl rfl lt0 ?_)
              refine VO.cons rfl (V1.as ?_)
              refine VO.cons rfl (V1.as ?_)
              refine VO.cons rfl (V1.as ?_)
              refine VO.cons rfl (V1.as ?_)
              refine VO.nil (V.keepT 275 [0, 24, 25, 26, 27, 28, 31, 32, 33, 36] [0] (E0 := [(0, .vl ρ0 1 (List.map encU8 code)), (24, .vl rn 5 (List.map (encCarton rn) y12.1)), (25, .int .i64 y12.2.1), (26, .int .i64 y12.2.2), (27, .sref ob2 5 0 (List.length y13.1)), (28, .bool y13.2), (31, .int .i64 i), (32, .int .i64 k), (33, .int .i64 y18.1), (36, .bool y18.2.2.2)]) (A := [(ob2, ⟨5, deepC cellCarton ts_436 y13.1⟩)]) (T := os_436) (H0 := [(ob2, ⟨5, deepC cellCarton ts_436 y13.1⟩)]) (T' := os_436) rfl (⟨_, _, rfl, rfl, _, _, rfl, rfl, _, _, rfl, rfl, _, _, rfl, rfl, _, _, rfl, rfl, _, _, rfl, rfl, _, _, rfl, rfl, _, _, rfl, rfl, _, _, rfl, rfl, _, _, rfl, rfl, rfl⟩) rfl (⟨_, _, rfl, rfl, rfl⟩) rfl (List.Sublist.refl _) ?_)
              refine V.seq ?_
              replace hm2 := asrt_some hm2; rcases hm2 with ⟨hh20, hm2⟩
              replace hm2 := asrt_some hm2; rcases hm2 with ⟨hh21, hm2⟩
              refine V.region (VO.cons rfl (V1.mv ?_))
              refine VO.cons rfl (V1.not rfl rfl rfl lt0 ?_)
              refine VO.cons rfl (V1.mv ?_)
              apply VO.or (n := 20) rfl rfl rfl rfl rfl rfl lt0 (.none rfl)
              ·
               intro hg8
               refine VO.step (.some rfl rfl rfl) (V1.mv ?_)
               refine VO.step (.some rfl rfl rfl) (V1.mv ?_)
               refine VO.step (.some rfl rfl rfl) (V1.indexI rfl rfl esz_39 rfl rfl (hh20 hg8) lt0 ?_)
               refine VO.step (.some rfl rfl rfl) (V1.fieldPin rfl rfl fo_67_0 rfl lt0 ?_)
               refine VO.step (.some rfl rfl rfl) (V1.loadPin rfl rfl tyk_3 rfl rfl lt0 ?_)
               refine VO.step (.some rfl rfl rfl) (V1.mv ?_)
               refine VO.step (.some rfl rfl rfl) (V1.it ?_)
               refine VO.step (.some rfl rfl rfl) (V1.mv ?_)
               apply VO.or (n := 7) rfl rfl rfl rfl rfl rfl lt0 (.some rfl rfl rfl)
               ·
                intro hg9
                refine VO.step (.some rfl rfl rfl) (V1.mv ?_)
                refine VO.step (.some rfl rfl rfl) (V1.mv ?_)
                refine VO.step (.some rfl rfl rfl) (V1.indexI rfl rfl esz_39 rfl rfl (hh21 hg8 hg9) lt0 ?_)
                refine VO.step (.some rfl rfl rfl) (V1.fieldPin rfl rfl fo_67_0 rfl lt0 ?_)
                refine VO.step (.some rfl rfl rfl) (V1.loadPin rfl rfl tyk_3 rfl rfl lt0 ?_)
                refine VO.step (.some rfl rfl rfl) (V1.mv ?_)
                refine VO.step (.some rfl rfl rfl) (V1.it ?_)
                exact VO.nil ⟨rfl, rfl, rfl, rfl, .inr ⟨rfl, .inr ⟨rfl, .inr ⟨rfl, .inr ⟨rfl, .inr ⟨rfl, .inr ⟨rfl, .inr ⟨rfl, .inr ⟨rfl, .inl rfl⟩⟩⟩⟩⟩⟩⟩⟩⟩
               refine VO.step (.some rfl rfl rfl) (V1.mv ?_)
               refine VO.step (.some rfl rfl rfl) (V1.mv ?_)
               refine VO.step (.some rfl rfl rfl) (V1.it ?_)
               refine VO.step (.some rfl rfl rfl) (V1.boolNeq rfl rfl und_4 rfl rfl lt0 ?_)
               exact VO.nil ⟨rfl, rfl, rfl, rfl, .inr ⟨rfl, .inr ⟨rfl, .inr ⟨rfl, .inr ⟨rfl, .inr ⟨rfl, .inr ⟨rfl, .inr ⟨rfl, .inr ⟨rfl, .inr ⟨rfl, .inr ⟨rfl, .inr ⟨rfl, .inr ⟨rfl, .inr ⟨rfl, .inr ⟨rfl, .inl rfl⟩⟩⟩⟩⟩⟩⟩⟩⟩⟩⟩⟩⟩⟩⟩
              refine VO.nil (V.keepT 275 [0, 24, 25, 26, 27, 28, 31, 32, 235] [0] (E0 := [(0, .vl ρ0 1 (List.map encU8 code)), (24, .vl rn 5 (List.map (encCarton rn) y12.1)), (25, .int .i64 y12.2.1), (26, .int .i64 y12.2.2), (27, .sref ob2 5 0 (List.length y13.1)), (28, .bool y13.2), (31, .int .i64 i), (32, .int .i64 k), (235, .bool ((!y18.2.2.2) || (!(((((y12.1.getD (Int.toNat i) default).Id) == y12.2.1) || (((y12.1.getD (Int.toNat i) default).Id) == y12.2.2)) == (y18.1 == y12.2.1)))))]) (A := [(ob2, ⟨5, deepC cellCarton ts_436 y13.1⟩)]) (T := os_436) (H0 := [(ob2, ⟨5, deepC cellCarton ts_436 y13.1⟩)]) (T' := os_436) rfl (⟨_, _, rfl, rfl, _, _, rfl, rfl, _, _, rfl, rfl, _, _, rfl, rfl, _, _, rfl, rfl, _, _, rfl, rfl, _, _, rfl, rfl, _, _, rfl, rfl, _, _, rfl, rfl, rfl⟩) rfl (⟨_, _, rfl, rfl, rfl⟩) rfl (List.Sublist.refl _) ?_)
              refine V.cond rfl (fun hc10 => ?_) (fun hc10 => ?_)
              ·
               replace hm2 := cond_t hc10 hm2
               refine V.seq (V.region (VO.cons rfl (V1.as ?_)))
               refine VO.nil (V.ret ?_)
               obtain rfl := hr2 _ (oi hm2).symm
               change some _ = some _ at hm1
               obtain rfl := hr1 _ (oi hm1).symm
               change some _ = some _ at hm0
               obtain rfl := oi hm0
               exact ⟨_, [], ⟨_, _, rfl, rfl, rfl⟩, List.nil_sublist _, rfl, rfl⟩
              ·
               replace hm2 := cond_f hc10 hm2
               refine V.skip ?_
               refine V.region (VO.cons rfl (V1.mv ?_))
               refine VO.cons rfl (V1.it ?_)
               refine VO.cons rfl (V1.as ?_)
               refine VO.nil ?_
               exact ⟨(m1, (IntKind.i64.wrap (k + (1 : Int))), ()), hl2 _ (oi hm2).symm, Nat.lt_succ_self _, Keeps.mkT (A := [(ob2, ⟨5, deepC cellCarton ts_436 y13.1⟩)]) (T := os_436) (T' := os_436) (H := [(ob2, ⟨5, deepC cellCarton ts_436 y13.1⟩)]) (ks := [0]) rfl (by exact ⟨rfl, rfl, rfl, rfl, rfl, rfl, rfl, rfl, trivial⟩) rfl (by exact (⟨_, _, rfl, rfl, rfl⟩)) rfl (List.Sublist.refl _)⟩
             ·
              replace hm2 := cond_f hc9 hm2
              refine V.exit ?_
              obtain rfl := hr2 _ (oi hm2).symm
              exact ⟨((), ()), rfl, Keeps.mkT (A := [(ob2, ⟨5, deepC cellCarton ts_436 y13.1⟩)]) (T := os_436) (T' := os_436) (H := [(ob2, ⟨5, deepC cellCarton ts_436 y13.1⟩)]) (ks := [0]) rfl (by exact ⟨rfl, rfl, rfl, rfl, rfl, rfl, rfl, trivial⟩) rfl (by exact (⟨_, _, rfl, rfl, rfl⟩)) rfl (List.Sublist.refl _)⟩
            ·
             rintro ⟨_, _⟩ rfl
             try dsimp only at hm1
             refine V.region (VO.cons rfl (V1.mv ?_))
             refine VO.cons rfl (V1.it ?_)
             refine VO.cons rfl (V1.as ?_)
             refine VO.nil ?_
             exact ⟨(m0, (IntKind.i64.wrap (i + (1 : Int))), ()), hl1 _ (oi hm1).symm, Nat.lt_succ_self _, Keeps.mkT (A := [(ob2, ⟨5, deepC cellCarton ts_436 y13.1⟩)]) (T := os_436) (T' := os_436) (H := [(ob2, ⟨5, deepC cellCarton ts_436 y13.1⟩)]) (ks := [0]) rfl (by exact ⟨rfl, rfl, rfl, rfl, rfl, rfl, rfl, trivial⟩) rfl (by exact (⟨_, _, rfl, rfl, rfl⟩)) rfl (List.Sublist.refl _)⟩
           ·
            replace hm1 := cond_f hc8 hm1
            refine V.exit ?_
            obtain rfl := hr1 _ (oi hm1).symm
            exact ⟨((), ()), rfl, Keeps.mkT (A := [(ob2, ⟨5, deepC cellCarton ts_436 y13.1⟩)]) (T := os_436) (T' := []) (H := []) (ks := []) rfl (by exact ⟨rfl, trivial⟩) rfl (by exact (rfl)) rfl (List.nil_sublist _)⟩
          ·
           rintro ⟨_, _⟩ rfl
           try dsimp only at hm0
           refine V.seq ?_
           replace hm0 := bindO hm0; rcases hm0 with ⟨y19, hh22, hm0⟩
           refine V.region (VO.cons rfl (V1.mv ?_))
           refine VO.cons rfl (V1.call rfl rfl rfl cok_49 rfl (ok_spec_DrawFindFile hh22) rfl lt0 ?_)
           rintro _ _ ⟨b6, rfl, rfl⟩
           refine VO.cons rfl (V1.mv ?_)
           refine VO.cons rfl (V1.extract rfl rfl rfl rfl lt0 ?_)
           refine VO.weakenK (Keeps.freezeG 0 rn [(239, .vl rn 5 (List.map (encCarton rn) y19.1))] ([]) (f := (encCarton rn)) (l := y19.1) rfl (fun _ => rfl) ⟨⟨_, rfl, .here⟩, trivial⟩ rfl rfl iNil) ?_
           refine VO.cons rfl (V1.extract rfl rfl rfl rfl lt0 ?_)
           refine VO.cons rfl (V1.as ?_)
           refine VO.cons rfl (V1.as ?_)
           refine VO.nil (V.keep 275 [37, 38] [] (E0 := [(37, .vl rn 5 (List.map (encCarton rn) y19.1)), (38, .int .i64 y19.2)]) (H0 := []) rfl (⟨_, _, rfl, rfl, _, _, rfl, rfl, rfl⟩) (rfl) rfl ?_)
           refine V.seq ?_
           replace hm0 := bindO hm0; rcases hm0 with ⟨y20, hh23, hm0⟩
           refine V.region (VO.cons rfl (V1.mv ?_))
           refine VO.cons rfl (V1.mv ?_)
           refine VO.cons rfl (V1.call rfl rfl rfl cok_44 rfl (ok_impl_FindFile hh23) rfl lt0 ?_)
           rintro _ _ ⟨rfl, rfl⟩
           refine VO.cons rfl (V1.mv ?_)
           refine VO.cons rfl (V1.extract rfl rfl rfl rfl lt0 ?_)
           refine VO.cons rfl (V1.extract rfl rfl rfl rfl lt0 ?_)
           refine VO.cons rfl (V1.extract rfl rfl rfl rfl lt0 ?_)
           refine VO.cons rfl (V1.extract rfl rfl rfl rfl lt0 ?_)
           refine VO.cons rfl (V1.as ?_)
           refine VO.cons rfl (V1.as ?_)
           refine VO.cons rfl (V1.as ?_)
           refine VO.cons rfl (V1.as ?_)
           refine VO.nil (V.keep 275 [37, 38, 39, 40, 41, 42] [] (E0 := [(37, .vl rn 5 (List.map (encCarton rn) y19.1)), (38, .int .i64 y19.2), (39, .int .i64 y20.1), (40, .int .i64 y20.2.1), (41, .int .i64 y20.2.2.1), (42, .bool y20.2.2.2)]) (H0 := []) rfl (⟨_, _, rfl, rfl, _, _, rfl, rfl, _, _, rfl, rfl, _, _, rfl, rfl, _, _, rfl, rfl, _, _, rfl, rfl, rfl⟩) (rfl) rfl ?_)
           refine V.seq ?_
           replace hm0 := bindO hm0; rcases hm0 with ⟨y21, hh24, hm0⟩
           refine V.region (VO.cons rfl (V1.mv ?_))
           refine VO.cons rfl (V1.mv ?_)
           refine VO.cons rfl (V1.call rfl rfl rfl cok_50 rfl (ok_spec_FindFile hh24) rfl lt0 ?_)
           rintro _ _ ⟨rfl, rfl⟩
           refine VO.cons rfl (V1.mv ?_)
           refine VO.cons rfl (V1.extract rfl rfl rfl rfl lt0 ?_)
           refine VO.cons rfl (V1.extract rfl rfl rfl rfl lt0 ?_)
           refine VO.cons rfl (V1.extract rfl rfl rfl rfl lt0 ?_)
           refine VO.cons rfl (V1.extract rfl rfl rfl rfl lt0 ?_)
           refine VO.cons rfl (V1.as ?_)
           refine VO.cons rfl (V1.as ?_)
           refine VO.cons rfl (V1.as ?_)
           refine VO.cons rfl (V1.as ?_)
           refine VO.nil (V.keep 275 [39, 40, 41, 42, 43, 44, 45, 46] [] (E0 := [(39, .int .i64 y20.1), (40, .int .i64 y20.2.1), (41, .int .i64 y20.2.2.1), (42, .bool y20.2.2.2), (43, .int .i64 y21.1), (44, .int .i64 y21.2.1), (45, .int .i64 y21.2.2.1), (46, .bool y21.2.2.2)]) (H0 := []) rfl (⟨_, _, rfl, rfl, _, _, rfl, rfl, _, _, rfl, rfl, _, _, rfl, rfl, _, _, rfl, rfl, _, _, rfl, rfl, _, _, rfl, rfl, _, _, rfl, rfl, rfl⟩) (rfl) rfl ?_)
           refine V.seq (V.region (VO.cons rfl (V1.mv ?_)))
           refine VO.cons rfl (V1.mv ?_)
           refine VO.cons rfl (V1.it ?_)
           refine VO.cons rfl (V1.mv ?_)
           apply VO.and (n := 3) rfl rfl rfl rfl rfl rfl lt0 (.none rfl)
           ·
            intro hg10
            refine VO.step (.some rfl rfl rfl) (V1.mv ?_)
            refine VO.step (.some rfl rfl rfl) (V1.mv ?_)
            refine VO.step (.some rfl rfl rfl) (V1.it ?_)
            exact VO.nil ⟨rfl, rfl, rfl, rfl, .inr ⟨rfl, .inr ⟨rfl, .inr ⟨rfl, .inr ⟨rfl, .inl rfl⟩⟩⟩⟩⟩
           refine VO.cons rfl (V1.mv ?_)
           apply VO.and (n := 3) rfl rfl rfl rfl rfl rfl lt0 (.none rfl)
           ·
            intro hg11
            refine VO.step (.some rfl rfl rfl) (V1.mv ?_)
            refine VO.step (.some rfl rfl rfl) (V1.mv ?_)
            refine VO.step (.some rfl rfl rfl) (V1.it ?_)
            exact VO.nil ⟨rfl, rfl, rfl, rfl, .inr ⟨rfl, .inr ⟨rfl, .inr ⟨rfl, .inr ⟨rfl, .inl rfl⟩⟩⟩⟩⟩
           refine VO.cons rfl (V1.mv ?_)
           apply VO.and (n := 3) rfl rfl rfl rfl rfl rfl lt0 (.none rfl)
           ·
            intro hg12
            refine VO.step (.some rfl rfl rfl) (V1.mv ?_)
            refine VO.step (.some rfl rfl rfl) (V1.mv ?_)
            refine VO.step (.some rfl rfl rfl) (V1.boolEql rfl rfl und_4 rfl rfl lt0 ?_)
            exact VO.nil ⟨rfl, rfl, rfl, rfl, .inr ⟨rfl, .inr ⟨rfl, .inr ⟨rfl, .inr ⟨rfl, .inl rfl⟩⟩⟩⟩⟩
           refine VO.cons rfl (V1.as ?_)
           refine VO.nil (V.ret ?_)
           obtain rfl := oi hm0
           exact ⟨_, [], ⟨_, _, rfl, rfl, rfl⟩, List.nil_sublist _, rfl, rfl⟩
     ·
      refine V.keepT 275 [0, 14, 15, 16, 17, 18, 19] [0] (E0 := [(0, .vl ρ0 1 (List.map encU8 code)), (14, .vl rn 5 (List.map (encCarton rn) y7.1)), (15, .int .i64 y7.2.1), (16, .int .i64 y7.2.2.1), (17, .int .i64 y7.2.2.2), (18, .sref ob1 5 0 (List.length y8.1)), (19, .bool y8.2)]) (A := [(ob1, ⟨5, deepC cellCarton ts_396 y8.1⟩)]) (T := os_396) (H0 := [(ob1, ⟨5, deepC cellCarton ts_396 y8.1⟩)]) (T' := os_396) rfl (⟨_, _, rfl, rfl, _, _, rfl, rfl, _, _, rfl, rfl, _, _, rfl, rfl, _, _, rfl, rfl, _, _, rfl, rfl, _, _, rfl, rfl, rfl⟩) rfl (⟨_, _, rfl, rfl, rfl⟩) rfl (List.Sublist.refl _) ?_
      refine V.seq (V.seq ?_)
      replace hm0 := bindO hm0; rcases hm0 with ⟨y9, hh9, hm0⟩
      refine V.region (VO.cons rfl (V1.mv ?_))
      refine VO.cons rfl (V1.mv ?_)
      refine VO.cons rfl (V1.mv ?_)
      refine VO.cons rfl (V1.mv ?_)
      refine VO.cons rfl (V1.call rfl rfl rfl cok_31 rfl (ok_spec_MoveCarton hh9) rfl lt0 ?_)
      rintro _ _ ⟨b3, rfl, rfl⟩
      refine VO.cons rfl (V1.mv ?_)
      refine VO.cons rfl (V1.extract rfl rfl rfl rfl lt0 ?_)
      refine VO.weakenK (Keeps.freezeG 0 rn [(120, .vl rn 5 (List.map (encCarton rn) y9.1))] ((ob1, ⟨5, deepC cellCarton ts_396 y8.1⟩) :: os_396) (f := (encCarton rn)) (l := y9.1) rfl (fun _ => rfl) ⟨⟨_, rfl, .here⟩, trivial⟩ ⟨_, _, rfl, rfl, .inl rfl, FrzH.same⟩ rfl iNil) ?_
      refine VO.cons rfl (V1.extract rfl rfl rfl rfl lt0 ?_)
      refine VO.cons rfl (V1.as ?_)
      refine VO.cons rfl (V1.as ?_)
      refine VO.nil (V.keepT 275 [0, 16, 17, 18, 19, 20, 21] [0] (E0 := [(0, .vl ρ0 1 (List.map encU8 code)), (16, .int .i64 y7.2.2.1), (17, .int .i64 y7.2.2.2), (18, .sref ob1 5 0 (List.length y8.1)), (19, .bool y8.2), (20, .vl rn 5 (List.map (encCarton rn) y9.1)), (21, .bool y9.2)]) (A := [(ob1, ⟨5, deepC cellCarton ts_396 y8.1⟩)]) (T := os_396) (H0 := [(ob1, ⟨5, deepC cellCarton ts_396 y8.1⟩)]) (T' := os_396) rfl (⟨_, _, rfl, rfl, _, _, rfl, rfl, _, _, rfl, rfl, _, _, rfl, rfl, _, _, rfl, rfl, _, _, rfl, rfl, _, _, rfl, rfl, rfl⟩) rfl (⟨_, _, rfl, rfl, rfl⟩) rfl (List.Sublist.refl _) ?_)
      refine V.seq ?_
      replace hm0 := bindO hm0; rcases hm0 with ⟨y10, hh10, hm0⟩
      refine V.region (VO.cons rfl (V1.mv ?_))
      refine VO.cons rfl (V1.mv ?_)
      refine VO.cons rfl (V1.boolNeq rfl rfl und_4 rfl rfl lt0 ?_)
      refine VO.cons rfl (V1.mv ?_)
      apply VO.or (n := 4) rfl rfl rfl rfl rfl rfl lt0 (.none rfl)
      ·
       intro hg3
       refine VO.step (.some rfl rfl rfl) (V1.mv ?_)
       refine VO.step (.some rfl rfl rfl) (V1.mv ?_)
       refine VO.step (.some rfl rfl rfl) (V1.callL (rn + 1) ([ob1] ++ List.map Prod.fst os_396) [.vl (rn + 1) 5 (List.map (encCarton (rn + 1)) y8.1), .vl rn 5 (List.map (encCarton rn) y9.1)] rfl rfl rfl cok_43 rfl ⟨_, _, rfl, Lend.deep (m := 1) (inn := (fun c_ : Carton => List.map encInt c_.Files)) (cell := cellCarton) cokCarton (ts := ts_396) (os := os_396) (xs := y8.1) 0 hd_396 rfl (fun _ => roL_map (fun _ => rfl) _) rfl (fun p hp => memTail (A := [(ob1, ⟨5, deepC cellCarton ts_396 y8.1⟩)]) (T := os_396) hp rfl) (List.mem_append_left _ (.head _)) (fun p hp => List.mem_append_right _ (List.mem_map.2 ⟨p, hp, rfl⟩)), ⟨_, _, rfl, .same _, rfl⟩⟩ (bwTail (A := [(ob1, ⟨5, deepC cellCarton ts_396 y8.1⟩)]) (T := os_396) rfl (bwCons (k := 0) rfl bwNil) (fun p hp => hp)) (ok_laws_rCartons (cond_f hg3 hh10)) rfl (⟨(by first | omega | (dsimp only; omega)), by rintro _ _ ⟨rfl, rfl⟩; exact ⟨rfl, by simp⟩⟩) lt0 ?_)
       rintro _ _ ⟨rfl, rfl⟩
       refine VO.step (.some rfl rfl rfl) (V1.not rfl rfl rfl lt0 ?_)
       exact VO.nil ⟨rfl, rfl, rfl, rfl, .inr ⟨rfl, .inr ⟨rfl, .inr ⟨rfl, .inr ⟨rfl, .inr ⟨rfl, .inl rfl⟩⟩⟩⟩⟩⟩
      refine VO.nil (V.keepT 275 [0, 16, 17, 18, 19, 130] [0] (E0 := [(0, .vl ρ0 1 (List.map encU8 code)), (16, .int .i64 y7.2.2.1), (17, .int .i64 y7.2.2.2), (18, .sref ob1 5 0 (List.length y8.1)), (19, .bool y8.2), (130, .bool ((!(y8.2 == y9.2)) || (!y10)))]) (A := [(ob1, ⟨5, deepC cellCarton ts_396 y8.1⟩)]) (T := os_396) (H0 := [(ob1, ⟨5, deepC cellCarton ts_396 y8.1⟩)]) (T' := os_396) rfl (⟨_, _, rfl, rfl, _, _, rfl, rfl, _, _, rfl, rfl, _, _, rfl, rfl, _, _, rfl, rfl, _, _, rfl, rfl, rfl⟩) rfl (⟨_, _, rfl, rfl, rfl⟩) rfl (List.Sublist.refl _) ?_)
      refine V.cond rfl (fun hc4 => ?_) (fun hc4 => ?_)
      ·
       replace hm0 := cond_t hc4 hm0
       refine V.seq (V.region (VO.cons rfl (V1.as ?_)))
       refine VO.nil (V.ret ?_)
       obtain rfl := oi hm0
       exact ⟨_, [], ⟨_, _, rfl, rfl, rfl⟩, List.nil_sublist _, rfl, rfl⟩
      ·
       replace hm0 := cond_f hc4 hm0
       refine V.skip ?_
       refine V.seq ?_
       replace hm0 := bindO hm0; rcases hm0 with ⟨j1, hm1, hm0⟩
       refine V.cutT (D := (Unit) × (Unit)) (fun ⟨_, _⟩ => ⟨275, [(0, .vl ρ0 1 (List.map encU8 code))], []⟩) (fun ⟨_, _⟩ => (.inl () = j1)) ?_ ?_
       ·
        refine V.seq (V.region (VO.cons rfl (V1.mv ?_)))
        refine VO.nil (V.cond rfl (fun hc5 => ?_) (fun hc5 => ?_))
        ·
         replace hm1 := cond_t hc5 hm1
         refine V.seq ?_
         replace hm1 := bindO hm1; rcases hm1 with ⟨y11, hh11, hm1⟩
         refine V.region (VO.cons rfl (V1.mv ?_))
         refine VO.cons rfl (V1.mv ?_)
         refine VO.cons rfl (V1.mv ?_)
         refine VO.cons rfl (V1.callL (rn + 1) ([ob1] ++ List.map Prod.fst os_396) [.vl (rn + 1) 5 (List.map (encCarton (rn + 1)) y8.1), .int .i64 y7.2.2.1, .int .i64 y7.2.2.2] rfl rfl rfl cok_47 rfl ⟨_, _, rfl, Lend.deep (m := 1) (inn := (fun c_ : Carton => List.map encInt c_.Files)) (cell := cellCarton) cokCarton (ts := ts_396) (os := os_396) (xs := y8.1) 0 hd_396 rfl (fun _ => roL_map (fun _ => rfl) _) rfl (fun p hp => memTail (A := [(ob1, ⟨5, deepC cellCarton ts_396 y8.1⟩)]) (T := os_396) hp rfl) (List.mem_append_left _ (.head _)) (fun p hp => List.mem_append_right _ (List.mem_map.2 ⟨p, hp, rfl⟩)), ⟨_, _, rfl, .same _, ⟨_, _, rfl, .same _, rfl⟩⟩⟩ (bwTail (A := [(ob1, ⟨5, deepC cellCarton ts_396 y8.1⟩)]) (T := os_396) rfl (bwCons (k := 0) rfl bwNil) (fun p hp => hp)) (ok_impl_FreeOn hh11) rfl (⟨(by first | omega | (dsimp only; omega)), by rintro _ _ ⟨rfl, rfl⟩; exact ⟨rfl, by simp⟩⟩) lt0 ?_)
         rintro _ _ ⟨rfl, rfl⟩
         refine VO.cons rfl (V1.mv ?_)
         refine VO.cons rfl (V1.extract rfl rfl rfl rfl lt0 ?_)
         refine VO.cons rfl (V1.extract rfl rfl rfl rfl lt0 ?_)
         refine VO.cons rfl (V1.as ?_)
         refine VO.cons rfl (V1.as ?_)
         refine VO.nil (V.keepT 275 [0, 22, 23] [] (E0 := [(0, .vl ρ0 1 (List.map encU8 code)), (22, .int .i64 y11.1), (23, .bool y11.2)]) (A := [(ob1, ⟨5, deepC cellCarton ts_396 y8.1⟩)]) (T := os_396) (H0 := []) (T' := []) rfl (⟨_, _, rfl, rfl, _, _, rfl, rfl, _, _, rfl, rfl, rfl⟩) rfl (rfl) rfl (List.nil_sublist _) ?_)
         refine V.seq (V.region (VO.cons rfl (V1.mv ?_)))
         refine VO.cons rfl (V1.not rfl rfl rfl lt0 ?_)
         refine VO.cons rfl (V1.mv ?_)
         apply VO.or (n := 2) rfl rfl rfl rfl rfl rfl lt0 (.none rfl)
         ·
          intro hg4
          refine VO.step (.some rfl rfl rfl) (V1.mv ?_)
          refine VO.step (.some rfl rfl rfl) (V1.it ?_)
          exact VO.nil ⟨rfl, rfl, rfl, rfl, .inr ⟨rfl, .inr ⟨rfl, .inr ⟨rfl, .inl rfl⟩⟩⟩⟩
         refine VO.cons rfl (V1.mv ?_)
         apply VO.or (n := 2) rfl rfl rfl rfl rfl rfl lt0 (.none rfl)
         ·
          intro hg5
          refine VO.step (.some rfl rfl rfl) (V1.mv ?_)
          refine VO.step (.some rfl rfl rfl) (V1.it ?_)
          exact VO.nil ⟨rfl, rfl, rfl, rfl, .inr ⟨rfl, .inr ⟨rfl, .inr ⟨rfl, .inl rfl⟩⟩⟩⟩
         refine VO.nil (V.keep 275 [0, 148] [] (E0 := [(0, .vl ρ0 1 (List.map encU8 code)), (148, .bool (((!y11.2) || (decide (y11.1 < (0 : Int)))) || (decide (y11.1 > (99 : Int)))))]) (H0 := []) rfl (⟨_, _, rfl, rfl, _, _, rfl, rfl, rfl⟩) (rfl) rfl ?_)
         refine V.cond rfl (fun hc6 => ?_) (fun hc6 => ?_)
         ·
          replace hm1 := cond_t hc6 hm1
          refine V.seq (V.region (VO.cons rfl (V1.as ?_)))
          refine VO.nil (V.ret ?_)
          obtain rfl := oi hm1
          change some _ = some _ at hm0
          obtain rfl := oi hm0
          exact ⟨_, [], ⟨_, _, rfl, rfl, rfl⟩, List.nil_sublist _, rfl, rfl⟩
         ·
          replace hm1 := cond_f hc6 hm1
          refine V.skip ?_
          exact ⟨((), ()), oi hm1, Keeps.mk (ks := []) rfl ⟨rfl, trivial⟩ (rfl) rfl⟩
        ·
         replace hm1 := cond_f hc5 hm1
         refine V.skip ?_
         exact ⟨((), ()), oi hm1, Keeps.mkT (A := [(ob1, ⟨5, deepC cellCarton ts_396 y8.1⟩)]) (T := os_396) (T' := []) (H := []) (ks := []) rfl (by exact ⟨rfl, trivial⟩) rfl (by exact (rfl)) rfl (List.nil_sublist _)⟩
       ·
        rintro ⟨_, _⟩ rfl
        try dsimp only at hm0
        refine V.seq ?_
        replace hm0 := bindO hm0; rcases hm0 with ⟨y12, hh12, hm0⟩
        refine V.region (VO.cons rfl (V1.mv ?_))
        refine VO.cons rfl (V1.call rfl rfl rfl cok_48 rfl (ok_spec_DrawMergeCartons hh12) rfl lt0 ?_)
        rintro _ _ ⟨b4, rfl, rfl⟩
        refine VO.cons rfl (V1.mv ?_)
        refine VO.cons rfl (V1.extract rfl rfl rfl rfl lt0 ?_)
        refine VO.weakenK (Keeps.freezeG 0 rn [(152, .vl rn 5 (List.map (encCarton rn) y12.1))] ([]) (f := (encCarton rn)) (l := y12.1) rfl (fun _ => rfl) ⟨⟨_, rfl, .here⟩, trivial⟩ rfl rfl iNil) ?_
        refine VO.cons rfl (V1.extract rfl rfl rfl rfl lt0 ?_)
        refine VO.cons rfl (V1.extract rfl rfl rfl rfl lt0 ?_)
        refine VO.cons rfl (V1.as ?_)
        refine VO.cons rfl (V1.as ?_)
        refine VO.cons rfl (V1.as ?_)
        refine VO.nil (V.keep 275 [0, 24, 25, 26] [] (E0 := [(0, .vl ρ0 1 (List.map encU8 code)), (24, .vl rn 5 (List.map (encCarton rn) y12.1)), (25, .int .i64 y12.2.1), (26, .int .i64 y12.2.2)]) (H0 := []) rfl (⟨_, _, rfl, rfl, _, _, rfl, rfl, _, _, rfl, rfl, _, _, rfl, rfl, rfl⟩) (rfl) rfl ?_)
        refine V.seq ?_
        replace hm0 := bindO hm0; rcases hm0 with ⟨y13, hh13, hm0⟩
        refine V.region (VO.cons rfl (V1.mv ?_))
        refine VO.cons rfl (V1.mv ?_)
        refine VO.cons rfl (V1.mv ?_)
        refine VO.cons rfl (V1.permK (V1.call rfl rfl rfl cok_38 rfl (ok_impl_MergeCartons hh13) rfl lt0 ?_))
        rintro _ _ ⟨ob2, ts_484, os_484, hob2, hd_484, rfl, rfl⟩
        refine ⟨_, ?_, Keeps.perm (optH 5 ob2 (deepC cellCarton ts_484 y13.1) ++ (([] : List (Nat × Obj')) ++ os_484)) (permDeepO1 (o := optH 5 ob2 (deepC cellCarton ts_484 y13.1)) (os := os_484) (A := []))⟩
        refine VO.cons rfl (V1.mv ?_)
        refine VO.cons rfl (V1.extract rfl rfl rfl rfl lt0 ?_)
        refine VO.cons rfl (V1.extract rfl rfl rfl rfl lt0 ?_)
        refine VO.cons rfl (V1.as ?_)
        refine VO.cons rfl (V1.as ?_)
        refine VO.nil ?_
        rcases ob2 with _ | ob2
        ·
         obtain ⟨rfl, rfl⟩ := Deep.nil (hob2 rfl) hd_484
         refine V.keep 275 [0, 24, 25, 26, 27, 28] [] (E0 := [(0, .vl ρ0 1 (List.map encU8 code)), (24, .vl rn 5 (List.map (encCarton rn) y12.1)), (25, .int .i64 y12.2.1), (26, .int .i64 y12.2.2), (27, .nils), (28, .bool y13.2)]) (H0 := []) rfl (⟨_, _, rfl, rfl, _, _, rfl, rfl, _, _, rfl, rfl, _, _, rfl, rfl, _, _, rfl, rfl, _, _, rfl, rfl, rfl⟩) (rfl) rfl ?_
         refine V.seq (V.seq ?_)
         replace hm0 := bindO hm0; rcases hm0 with ⟨y14, hh14, hm0⟩
         refine V.region (VO.cons rfl (V1.mv ?_))
         refine VO.cons rfl (V1.mv ?_)
         refine VO.cons rfl (V1.mv ?_)
         refine VO.cons rfl (V1.call rfl rfl rfl cok_37 rfl (ok_spec_MergeCartons hh14) rfl lt0 ?_)
         rintro _ _ ⟨b5, rfl, rfl⟩
         refine VO.cons rfl (V1.mv ?_)
         refine VO.cons rfl (V1.extract rfl rfl rfl rfl lt0 ?_)
         refine VO.weakenK (Keeps.freezeG 0 rn [(167, .vl rn 5 (List.map (encCarton rn) y14.1))] ([]) (f := (encCarton rn)) (l := y14.1) rfl (fun _ => rfl) ⟨⟨_, rfl, .here⟩, trivial⟩ rfl rfl iNil) ?_
         refine VO.cons rfl (V1.extract rfl rfl rfl rfl lt0 ?_)
         refine VO.cons rfl (V1.as ?_)
         refine VO.cons rfl (V1.as ?_)
         refine VO.nil (V.keep 275 [0, 24, 25, 26, 27, 28, 29, 30] [] (E0 := [(0, .vl ρ0 1 (List.map encU8 code)), (24, .vl rn 5 (List.map (encCarton rn) y12.1)), (25, .int .i64 y12.2.1), (26, .int .i64 y12.2.2), (27, .nils), (28, .bool y13.2), (29, .vl rn 5 (List.map (encCarton rn) y14.1)), (30, .bool y14.2)]) (H0 := []) rfl (⟨_, _, rfl, rfl, _, _, rfl, rfl, _, _, rfl, rfl, _, _, rfl, rfl, _, _, rfl, rfl, _, _, rfl, rfl, _, _, rfl, rfl, _, _, rfl, rfl, rfl⟩) (rfl) rfl ?_)
         refine V.seq ?_
         replace hm0 := bindO hm0; rcases hm0 with ⟨y15, hh15, hm0⟩
         refine V.region (VO.cons rfl (V1.mv ?_))
         refine VO.cons rfl (V1.mv ?_)
         refine VO.cons rfl (V1.boolNeq rfl rfl und_4 rfl rfl lt0 ?_)
         refine VO.cons rfl (V1.mv ?_)
         apply VO.or (n := 4) rfl rfl rfl rfl rfl rfl lt0 (.none rfl)
         ·
          intro hg6
          refine VO.step (.some rfl rfl rfl) (V1.mv ?_)
          refine VO.step (.some rfl rfl rfl) (V1.mv ?_)
          refine VO.weakenK (Keeps.nilsE (l := y13.1) 173 rn 5 (encCarton rn) (hob2 rfl) rfl rfl) ?_
          refine VO.step (.some rfl rfl rfl) (V1.call rfl rfl rfl cok_43 rfl (ok_laws_rCartons (cond_f hg6 hh15)) rfl lt0 ?_)
          rintro _ _ ⟨rfl, rfl⟩
          refine VO.step (.some rfl rfl rfl) (V1.not rfl rfl rfl lt0 ?_)
          exact VO.nil ⟨rfl, rfl, rfl, rfl, .inr ⟨rfl, .inr ⟨rfl, .inr ⟨rfl, .inr ⟨rfl, .inr ⟨rfl, .inr ⟨rfl, .inl rfl⟩⟩⟩⟩⟩⟩⟩
         refine VO.nil (V.keep 275 [0, 24, 25, 26, 27, 28, 177] [] (E0 := [(0, .vl ρ0 1 (List.map encU8 code)), (24, .vl rn 5 (List.map (encCarton rn) y12.1)), (25, .int .i64 y12.2.1), (26, .int .i64 y12.2.2), (27, .nils), (28, .bool y13.2), (177, .bool ((!(y13.2 == y14.2)) || (!y15)))]) (H0 := []) rfl (⟨_, _, rfl, rfl, _, _, rfl, rfl, _, _, rfl, rfl, _, _, rfl, rfl, _, _, rfl, rfl, _, _, rfl, rfl, _, _, rfl, rfl, rfl⟩) (rfl) rfl ?_)
         refine V.cond rfl (fun hc7 => ?_) (fun hc7 => ?_)
         ·
          replace hm0 := cond_t hc7 hm0
          refine V.seq (V.region (VO.cons rfl (V1.as ?_)))
          refine VO.nil (V.ret ?_)
          obtain rfl := oi hm0
          exact ⟨_, [], ⟨_, _, rfl, rfl, rfl⟩, List.nil_sublist _, rfl, rfl⟩
         ·
          replace hm0 := cond_f hc7 hm0
          refine V.skip ?_
          refine V.seq (V.seq (V.region (VO.cons rfl (V1.as ?_))))
          refine VO.nil ?_
          replace hm0 := bindO hm0; rcases hm0 with ⟨e0, he1, hm0⟩
          refine V.cutT (D := (Unit) × (Unit)) (fun ⟨_, _⟩ => ⟨275, [(0, .vl ρ0 1 (List.map encU8 code))], []⟩) (fun ⟨_, _⟩ => (.inl () = e0)) ?_ ?_
          ·
           refine V.block ?_
           refine V.keep 275 [31, 0, 24, 25, 26, 27, 28] [] (E0 := [(31, .int .i64 (0 : Int)), (0, .vl ρ0 1 (List.map encU8 code)), (24, .vl rn 5 (List.map (encCarton rn) y12.1)), (25, .int .i64 y12.2.1), (26, .int .i64 y12.2.2), (27, .nils), (28, .bool y13.2)]) (H0 := []) rfl (⟨_, _, rfl, rfl, _, _, rfl, rfl, _, _, rfl, rfl, _, _, rfl, rfl, _, _, rfl, rfl, _, _, rfl, rfl, _, _, rfl, rfl, rfl⟩) (rfl) rfl ?_
           refine V.loopE (D := Nat × (Int) × (Unit)) (fun ⟨n0, i, _⟩ => [(31, .int .i64 i)]) (fun ⟨n0, i, _⟩ => []) (fun ⟨n0, i, _⟩ => loopO (M.laws_FnCartons_l0 y12 y13) n0 i = some e0) (fun ⟨n0, _, _⟩ => n0) (rounds, (0 : Int), ()) rfl he1 ?_
           rintro ⟨n0, i, _⟩ hP0
           obtain ⟨m0, y16, rfl, hm1, hl1, hr1⟩ := loop_head hP0
           unfold M.laws_FnCartons_l0 at hm1; dsimp only at hm1
           show V _ _ _ ⟨275, [(31, .int .i64 i), (0, .vl ρ0 1 (List.map encU8 code)), (24, .vl rn 5 (List.map (encCarton rn) y12.1)), (25, .int .i64 y12.2.1), (26, .int .i64 y12.2.2), (27, .nils), (28, .bool y13.2)], []⟩
           refine V.seq (V.seq (V.region (VO.cons rfl (V1.mv ?_))))
           refine VO.cons rfl (V1.mv ?_)
           refine VO.cons rfl (V1.lenMap rfl rfl rfl rfl rfl rfl isl_39 lt0 ?_)
           refine VO.cons rfl (V1.it ?_)
           refine VO.cons rfl (V1.mv ?_)
           apply VO.and (n := 1) rfl rfl rfl rfl rfl rfl lt0 (.none rfl)
           ·
            intro hg7
            refine VO.step (.some rfl rfl rfl) (V1.mv ?_)
            exact VO.nil ⟨rfl, rfl, rfl, rfl, .inr ⟨rfl, .inr ⟨rfl, .inl rfl⟩⟩⟩
           refine VO.nil (V.keep 275 [0, 24, 25, 26, 27, 28, 31, 184] [] (E0 := [(0, .vl ρ0 1 (List.map encU8 code)), (24, .vl rn 5 (List.map (encCarton rn) y12.1)), (25, .int .i64 y12.2.1), (26, .int .i64 y12.2.2), (27, .nils), (28, .bool y13.2), (31, .int .i64 i), (184, .bool ((decide (i < (y12.1.length : Int))) && y13.2))]) (H0 := []) rfl (⟨_, _, rfl, rfl, _, _, rfl, rfl, _, _, rfl, rfl, _, _, rfl, rfl, _, _, rfl, rfl, _, _, rfl, rfl, _, _, rfl, rfl, _, _, rfl, rfl, rfl⟩) (rfl) rfl ?_)
           refine V.cond rfl (fun hc8 => ?_) (fun hc8 => ?_)
           ·
            replace hm1 := cond_t hc8 hm1
            refine V.skip ?_
            refine V.seq (V.block ?_)
            refine V.seq (V.region (VO.cons rfl (V1.as ?_)))
            refine VO.nil ?_
            replace hm1 := bindO hm1; rcases hm1 with ⟨e1, he2, hm1⟩
            refine V.cutT (D := (Unit) × (Unit)) (fun ⟨_, _⟩ => ⟨275, [(0, .vl ρ0 1 (List.map encU8 code)), (24, .vl rn 5 (List.map (encCarton rn) y12.1)), (25, .int .i64 y12.2.1), (26, .int .i64 y12.2.2), (27, .nils), (28, .bool y13.2), (31, .int .i64 i)], []⟩) (fun ⟨_, _⟩ => (.inl () = e1)) ?_ ?_
            ·
             refine V.block ?_
             refine V.keep 275 [32, 0, 24, 25, 26, 27, 28, 31] [] (E0 := [(32, .int .i64 (0 : Int)), (0, .vl ρ0 1 (List.map encU8 code)), (24, .vl rn 5 (List.map (encCarton rn) y12.1)), (25, .int .i64 y12.2.1), (26, .int .i64 y12.2.2), (27, .nils), (28, .bool y13.2), (31, .int .i64 i)]) (H0 := []) rfl (⟨_, _, rfl, rfl, _, _, rfl, rfl, _, _, rfl, rfl, _, _, rfl, rfl, _, _, rfl, rfl, _, _, rfl, rfl, _, _, rfl, rfl, _, _, rfl, rfl, rfl⟩) (rfl) rfl ?_
             refine V.loopE (D := Nat × (Int) × (Unit)) (fun ⟨n1, k, _⟩ => [(32, .int .i64 k)]) (fun ⟨n1, k, _⟩ => []) (fun ⟨n1, k, _⟩ => loopO (M.laws_FnCartons_l1 y12 y13 i) n1 k = some e1) (fun ⟨n1, _, _⟩ => n1) (rounds, (0 : Int), ()) rfl he2 ?_
             rintro ⟨n1, k, _⟩ hP1
             obtain ⟨m1, y17, rfl, hm2, hl2, hr2⟩ := loop_head hP1
             unfold M.laws_FnCartons_l1 at hm2; dsimp only at hm2
             show V _ _ _ ⟨275, [(32, .int .i64 k), (0, .vl ρ0 1 (List.map encU8 code)), (24, .vl rn 5 (List.map (encCarton rn) y12.1)), (25, .int .i64 y12.2.1), (26, .int .i64 y12.2.2), (27, .nils), (28, .bool y13.2), (31, .int .i64 i)], []⟩
             refine V.seq (V.seq ?_)
             replace hm2 := asrt_some hm2; rcases hm2 with ⟨hh16, hm2⟩
             refine V.region (VO.cons rfl (V1.mv ?_))
             refine VO.cons rfl (V1.mv ?_)
             refine VO.cons rfl (V1.mv ?_)
             refine VO.cons rfl (V1.indexI rfl rfl esz_39 rfl rfl hh16 lt0 ?_)
             refine VO.cons rfl (V1.fieldPin rfl rfl fo_67_3 rfl lt0 ?_)
             refine VO.cons rfl (V1.loadPin rfl rfl tyk_36 rfl rfl lt0 ?_)
             refine VO.cons rfl (V1.lenMap rfl rfl rfl rfl rfl rfl isl_36 lt0 ?_)
             refine VO.cons rfl (V1.it ?_)
             refine VO.nil (V.keep 275 [0, 24, 25, 26, 27, 28, 31, 32, 194] [] (E0 := [(0, .vl ρ0 1 (List.map encU8 code)), (24, .vl rn 5 (List.map (encCarton rn) y12.1)), (25, .int .i64 y12.2.1), (26, .int .i64 y12.2.2), (27, .nils), (28, .bool y13.2), (31, .int .i64 i), (32, .int .i64 k), (194, .bool (decide (k < (((y12.1.getD (Int.toNat i) default).Files).length : Int))))]) (H0 := []) rfl (⟨_, _, rfl, rfl, _, _, rfl, rfl, _, _, rfl, rfl, _, _, rfl, rfl, _, _, rfl, rfl, _, _, rfl, rfl, _, _, rfl, rfl, _, _, rfl, rfl, _, _, rfl, rfl, rfl⟩) (rfl) rfl ?_)
             refine V.cond rfl (fun hc9 => ?_) (fun hc9 => ?_)
             ·
              replace hm2 := cond_t hc9 hm2
              refine V.skip ?_
              refine V.seq (V.block ?_)
              refine V.seq ?_
              replace hm2 := asrt_some hm2; rcases hm2 with ⟨hh17, hm2⟩
              replace hm2 := asrt_some hm2; rcases hm2 with ⟨hh18, hm2⟩
              replace hm2 := bindO hm2; rcases hm2 with ⟨y18, hh19, hm2⟩
              refine V.region (VO.cons rfl (V1.mv ?_))
              refine VO.cons rfl (V1.mv ?_)
              refine VO.cons rfl (V1.mv ?_)
              refine VO.cons rfl (V1.indexI rfl rfl esz_39 rfl rfl hh17 lt0 ?_)
              refine VO.cons rfl (V1.fieldPin rfl rfl fo_67_3 rfl lt0 ?_)
              refine VO.cons rfl (V1.loadPin rfl rfl tyk_36 rfl rfl lt0 ?_)
              refine VO.cons rfl (V1.mv ?_)
              refine VO.cons rfl (V1.indexI rfl rfl esz_36 rfl rfl hh18 lt0 ?_)
              refine VO.cons rfl (V1.loadPin rfl rfl tyk_3 rfl rfl lt0 ?_)
              refine VO.weakenK (Keeps.nilsE (l := y13.1) 198 rn 5 (encCarton rn) (hob2 rfl) rfl rfl) ?_
              refine VO.cons rfl (V1.call rfl rfl rfl cok_44 rfl (ok_impl_FindFile hh19) rfl lt0 ?_)
              rintro _ _ ⟨rfl, rfl⟩
              refine VO.cons rfl (V1.mv ?_)
              refine VO.cons rfl (V1.extract rfl rfl rfl rfl lt0 ?_)
              refine VO.cons rfl (V1.extract rfl rfl rfl rfl lt0 ?_)
              refine VO.cons rfl (V1.extract rfl rfl rfl rfl lt0 ?_)
              refine VO.cons rfl (V1.extract rfl rfl rfl rfl lt0 ?_)
              refine VO.cons rfl (V1.as ?_)
              refine VO.cons rfl (V1.as ?_)
              refine VO.cons rfl (V1.as ?_)
              refine VO.cons rfl (V1.as ?_)
              refine VO.nil (V.keep 275 [0, 24, 25, 26, 27, 28, 31, 32, 33, 36] [] (E0 := [(0, .vl ρ0 1 (List.map encU8 code)), (24, .vl rn 5 (List.map (encCarton rn) y12.1)), (25, .int .i64 y12.2.1), (26, .int .i64 y12.2.2), (27, .nils), (28, .bool y13.2), (31, .int .i64 i), (32, .int .i64 k), (33, .int .i64 y18.1), (36, .bool y18.2.2.2)]) (H0 := []) rfl (⟨_, _, rfl, rfl, _, _, rfl, rfl, _, _, rfl, rfl, _, _, rfl, rfl, _, _, rfl, rfl, _, _, rfl, rfl, _, _, rfl, rfl, _, _, rfl, rfl, _, _, rfl, rfl, _, _, rfl, rfl, rfl⟩) (rfl) rfl ?_)
              refine V.seq ?_
              replace hm2 := asrt_some hm2; rcases hm2 with ⟨hh20, hm2⟩
              replace hm2 := asrt_some hm2; rcases hm2 with ⟨hh21, hm2⟩
              refine V.region (VO.cons rfl (V1.mv ?_))
              refine VO.cons rfl (V1.not rfl rfl rfl lt0 ?_)
              refine VO.cons rfl (V1.mv ?_)
              apply VO.or (n := 20) rfl rfl rfl rfl rfl rfl lt0 (.none rfl)
              ·
               intro hg8
               refine VO.step (.some rfl rfl rfl) (V1.mv ?_)
               refine VO.step (.some rfl rfl rfl) (V1.mv ?_)
               refine VO.step (.some rfl rfl rfl) (V1.indexI rfl rfl esz_39 rfl rfl (hh20 hg8) lt0 ?_)
               refine VO.step (.some rfl rfl rfl) (V1.fieldPin rfl rfl fo_67_0 rfl lt0 ?_)
               refine VO.step (.some rfl rfl rfl) (V1.loadPin rfl rfl tyk_3 rfl rfl lt0 ?_)
               refine VO.step (.some rfl rfl rfl) (V1.mv ?_)
               refine VO.step (.some rfl rfl rfl) (V1.it ?_)
               refine VO.step (.some rfl rfl rfl) (V1.mv ?_)
               apply VO.or (n := 7) rfl rfl rfl rfl rfl rfl lt0 (.some rfl rfl rfl)
               ·
                intro hg9
                refine VO.step (.some rfl rfl rfl) (V1.mv ?_)
                refine VO.step (.some rfl rfl rfl) (V1.mv ?_)
                refine VO.step (.some rfl rfl rfl) (V1.indexI rfl rfl esz_39 rfl rfl (hh21 hg8 hg9) lt0 ?_)
                refine VO.step (.some rfl rfl rfl) (V1.fieldPin rfl rfl fo_67_0 rfl lt0 ?_)
                refine VO.step (.some rfl rfl rfl) (V1.loadPin rfl rfl tyk_3 rfl rfl lt0 ?_)
                refine VO.step (.some rfl rfl rfl) (V1.mv ?_)
                refine VO.step (.some rfl rfl rfl) (V1.it ?_)
                exact VO.nil ⟨rfl, rfl, rfl, rfl, .inr ⟨rfl, .inr ⟨rfl, .inr ⟨rfl, .inr ⟨rfl, .inr ⟨rfl, .inr ⟨rfl, .inr ⟨rfl, .inr ⟨rfl, .inl rfl⟩⟩⟩⟩⟩⟩⟩⟩⟩
               refine VO.step (.some rfl rfl rfl) (V1.mv ?_)
               refine VO.step (.some rfl rfl rfl) (V1.mv ?_)
               refine VO.step (.some rfl rfl rfl) (V1.it ?_)
               refine VO.step (.some rfl rfl rfl) (V1.boolNeq rfl rfl und_4 rfl rfl lt0 ?_)
               exact VO.nil ⟨rfl, rfl, rfl, rfl, .inr ⟨rfl, .inr ⟨rfl, .inr ⟨rfl, .inr ⟨rfl, .inr ⟨rfl, .inr ⟨rfl, .inr ⟨rfl, .inr ⟨rfl, .inr ⟨rfl, .inr ⟨rfl, .inr ⟨rfl, .inr ⟨rfl, .inr ⟨rfl, .inr ⟨rfl, .inl rfl⟩⟩⟩⟩⟩⟩⟩⟩⟩⟩⟩⟩⟩⟩⟩
              refine VO.nil (V.keep 275 [0, 24, 25, 26, 27, 28, 31, 32, 235] [] (E0 := [(0, .vl ρ0 1 (List.map encU8 code)), (24, .vl rn 5 (List.map (encCarton rn) y12.1)), (25, .int .i64 y12.2.1), (26, .int .i64 y12.2.2), (27, .nils), (28, .bool y13.2), (31, .int .i64 i), (32, .int .i64 k), (235, .bool ((!y18.2.2.2) || (!(((((y12.1.getD (Int.toNat i) default).Id) == y12.2.1) || (((y12.1.getD (Int.toNat i) default).Id) == y12.2.2)) == (y18.1 == y12.2.1)))))]) (H0 := []) rfl (⟨_, _, rfl, rfl, _, _, rfl, rfl, _, _, rfl, rfl, _, _, rfl, rfl, _, _, rfl, rfl, _, _, rfl, rfl, _, _, rfl, rfl, _, _, rfl, rfl, _, _, rfl, rfl, rfl⟩) (rfl) rfl ?_)
              refine V.cond rfl (fun hc10 => ?_) (fun hc10 => ?_)
              ·
               replace hm2 := cond_t hc10 hm2
               refine V.seq (V.region (VO.cons rfl (V1.as ?_)))
               refine VO.nil (V.ret ?_)
               obtain rfl := hr2 _ (oi hm2).symm
               change some _ = some _ at hm1
               obtain rfl := hr1 _ (oi hm1).symm
               change some _ = some _ at hm0
               obtain rfl := oi hm0
               exact ⟨_, [], ⟨_, _, rfl, rfl, rfl⟩, List.nil_sublist _, rfl, rfl⟩
              ·
               replace hm2 := cond_f hc10 hm2
               refine V.skip ?_
               refine V.region (VO.cons rfl (V1.mv ?_))
               refine VO.cons rfl (V1.it ?_)
               refine VO.cons rfl (V1.as ?_)
               refine VO.nil ?_
               exact ⟨(m1, (IntKind.i64.wrap (k + (1 : Int))), ()), hl2 _ (oi hm2).symm, Nat.lt_succ_self _, Keeps.mk (ks := []) rfl ⟨rfl, rfl, rfl, rfl, rfl, rfl, rfl, rfl, trivial⟩ (rfl) rfl⟩
             ·
              replace hm2 := cond_f hc9 hm2
              refine V.exit ?_
              obtain rfl := hr2 _ (oi hm2).symm
              exact ⟨((), ()), rfl, Keeps.mk (ks := []) rfl ⟨rfl, rfl, rfl, rfl, rfl, rfl, rfl, trivial⟩ (rfl) rfl⟩
            ·
             rintro ⟨_, _⟩ rfl
             try dsimp only at hm1
             refine V.region (VO.cons rfl (V1.mv ?_))
             refine VO.cons rfl (V1.it ?_)
             refine VO.cons rfl (V1.as ?_)
             refine VO.nil ?_
             exact ⟨(m0, (IntKind.i64.wrap (i + (1 : Int))), ()), hl1 _ (oi hm1).symm, Nat.lt_succ_self _, Keeps.mk (ks := []) rfl ⟨rfl, rfl, rfl, rfl, rfl, rfl, rfl, trivial⟩ (rfl) rfl⟩
           ·
            replace hm1 := cond_f hc8 hm1
            refine V.exit ?_
            obtain rfl := hr1 _ (oi hm1).symm
            exact ⟨((), ()), rfl, Keeps.mk (ks := []) rfl ⟨rfl, trivial⟩ (rfl) rfl⟩
          ·
           rintro ⟨_, _⟩ rfl
           try dsimp only at hm0
           refine V.seq ?_
           replace hm0 := bindO hm0; rcases hm0 with ⟨y19, hh22, hm0⟩
           refine V.region (VO.cons rfl (V1.mv ?_))
           refine VO.cons rfl (V1.call rfl rfl rfl cok_49 rfl (ok_spec_DrawFindFile hh22) rfl lt0 ?_)
           rintro _ _ ⟨b6, rfl, rfl⟩
           refine VO.cons rfl (V1.mv ?_)
           refine VO.cons rfl (V1.extract rfl rfl rfl rfl lt0 ?_)
           refine VO.weakenK (Keeps.freezeG 0 rn [(239, .vl rn 5 (List.map (encCarton rn) y19.1))] ([]) (f := (encCarton rn)) (l := y19.1) rfl (fun _ => rfl) ⟨⟨_, rfl, .here⟩, trivial⟩ rfl rfl iNil) ?_
           refine VO.cons rfl (V1.extract rfl rfl rfl rfl lt0 ?_)
           refine VO.cons rfl (V1.as ?_)
           refine VO.cons rfl (V1.as ?_)
           refine VO.nil (V.keep 275 [37, 38] [] (E0 := [(37, .vl rn 5 (List.map (encCarton rn) y19.1)), (38, .int .i64 y19.2)]) (H0 := []) rfl (⟨_, _, rfl, rfl, _, _, rfl, rfl, rfl⟩) (rfl) rfl ?_)
           refine V.seq ?_
           replace hm0 := bindO hm0; rcases hm0 with ⟨y20, hh23, hm0⟩
           refine V.region (VO.cons rfl (V1.mv ?_))
           refine VO.cons rfl (V1.mv ?_)
           refine VO.cons rfl (V1.call rfl rfl rfl cok_44 rfl (ok_impl_FindFile hh23) rfl lt0 ?_)
           rintro _ _ ⟨rfl, rfl⟩
           refine VO.cons rfl (V1.mv ?_)
           refine VO.cons rfl (V1.extract rfl rfl rfl rfl lt0 ?_)
           refine VO.cons rfl (V1.extract rfl rfl rfl rfl lt0 ?_)
           refine VO.cons rfl (V1.extract rfl rfl rfl rfl lt0 ?_)
           refine VO.cons rfl (V1.extract rfl rfl rfl rfl lt0 ?_)
           refine VO.cons rfl (V1.as ?_)
           refine VO.cons rfl (V1.as ?_)
           refine VO.cons rfl (V1.as ?_)
           refine VO.cons rfl (V1.as ?_)
           refine VO.nil (V.keep 275 [37, 38, 39, 40, 41, 42] [] (E0 := [(37, .vl rn 5 (List.map (encCarton rn) y19.1)), (38, .int .i64 y19.2), (39, .int .i64 y20.1), (40, .int .i64 y20.2.1), (41, .int .i64 y20.2.2.1), (42, .bool y20.2.2.2)]) (H0 := []) rfl (⟨_, _, rfl, rfl, _, _, rfl, rfl, _, _, rfl, rfl, _, _, rfl, rfl, _, _, rfl, rfl, _, _, rfl, rfl, rfl⟩) (rfl) rfl ?_)
           refine V.seq ?_
           replace hm0 := bindO hm0; rcases hm0 with ⟨y21, hh24, hm0⟩
           refine V.region (VO.cons rfl (V1.mv ?_))
           refine VO.cons rfl (V1.mv ?_)
           refine VO.cons rfl (V1.call rfl rfl rfl cok_50 rfl (ok_spec_FindFile hh24) rfl lt0 ?_)
           rintro _ _ ⟨rfl, rfl⟩
           refine VO.cons rfl (V1.mv ?_)
           refine VO.cons rfl (V1.extract rfl rfl rfl rfl lt0 ?_)
           refine VO.cons rfl (V1.extract rfl rfl rfl rfl lt0 ?_)
           refine VO.cons rfl (V1.extract rfl rfl rfl rfl lt0 ?_)
           refine VO.cons rfl (V1.extract rfl rfl rfl rfl lt0 ?_)
           refine VO.cons rfl (V1.as ?_)
           refine VO.cons rfl (V1.as ?_)
           refine VO.cons rfl (V1.as ?_)
           refine VO.cons rfl (V1.as ?_)
           refine VO.nil (V.keep 275 [39, 40, 41, 42, 43, 44, 45, 46] [] (E0 := [(39, .int .i64 y20.1), (40, .int .i64 y20.2.1), (41, .int .i64 y20.2.2.1), (42, .bool y20.2.2.2), (43, .int .i64 y21.1), (44, .int .i64 y21.2.1), (45, .int .i64 y21.2.2.1), (46, .bool y21.2.2.2)]) (H0 := []) rfl (⟨_, _, rfl, rfl, _, _, rfl, rfl, _, _, rfl, rfl, _, _, rfl, rfl, _, _, rfl, rfl, _, _, rfl, rfl, _, _, rfl, rfl, _, _, rfl, rfl, rfl⟩) (rfl) rfl ?_)
           refine V.seq (V.region (VO.cons rfl (V1.mv ?_)))
           refine VO.cons rfl (V1.mv ?_)
           refine VO.cons rfl (V1.it ?_)
           refine VO.cons rfl (V1.mv ?_)
           apply VO.and (n := 3) rfl rfl rfl rfl rfl rfl lt0 (.none rfl)
           ·
            intro hg10
            refine VO.step (.some rfl rfl rfl) (V1.mv ?_)
            refine VO.step (.some rfl rfl rfl) (V1.mv ?_)
            refine VO.step (.some rfl rfl rfl) (V1.it ?_)
            exact VO.nil ⟨rfl, rfl, rfl, rfl, .inr ⟨rfl, .inr ⟨rfl, .inr ⟨rfl, .inr ⟨rfl, .inl rfl⟩⟩⟩⟩⟩
           refine VO.cons rfl (V1.mv ?_)
           apply VO.and (n := 3) rfl rfl rfl rfl rfl rfl lt0 (.none rfl)
           ·
            intro hg11
            refine VO.step (.some rfl rfl rfl) (V1.mv ?_)
            refine VO.step (.some rfl rfl rfl) (V1.mv ?_)
            refine VO.step (.some rfl rfl rfl) (V1.it ?_)
            exact VO.nil ⟨rfl, rfl, rfl, rfl, .inr ⟨rfl, .inr ⟨rfl, .inr ⟨rfl, .inr ⟨rfl, .inl rfl⟩⟩⟩⟩⟩
           refine VO.cons rfl (V1.mv ?_)
           apply VO.and (n := 3) rfl rfl rfl rfl rfl rfl lt0 (.none rfl)
           ·
            intro hg12
            refine VO.step (.some rfl rfl rfl) (V1.mv ?_)
            refine VO.step (.some rfl rfl rfl) (V1.mv ?_)
            refine VO.step (.some rfl rfl rfl) (V1.boolEql rfl rfl und_4 rfl rfl lt0 ?_)
            exact VO.nil ⟨rfl, rfl, rfl, rfl, .inr ⟨rfl, .inr ⟨rfl, .inr ⟨rfl, .inr ⟨rfl, .inl rfl⟩⟩⟩⟩⟩
           refine VO.cons rfl (V1.as ?_)
           refine VO.nil (V.ret ?_)
           obtain rfl := oi hm0
           exact ⟨_, [], ⟨_, _, rfl, rfl, rfl⟩, List.nil_sublist _, rfl, rfl⟩
        ·
         refine V.keepT 275 [0, 24, 25, 26, 27, 28] [0] (E0 := [(0, .vl ρ0 1 (List.map encU8 code)), (24, .vl rn 5 (List.map (encCarton rn) y12.1)), (25, .int .i64 y12.2.1), (26, .int .i64 y12.2.2), (27, .sref ob2 5 0 (List.length y13.1)), (28, .bool y13.2)]) (A := [(ob2, ⟨5, deepC cellCarton ts_484 y13.1⟩)]) (T := os_484) (H0 := [(ob2, ⟨5, deepC cellCarton ts_484 y13.1⟩)]) (T' := os_484) rfl (⟨_, _, rfl, rfl, _, _, rfl, rfl, _, _, rfl, rfl, _, _, rfl, rfl, _, _, rfl, rfl, _, _, rfl, rfl, rfl⟩) rfl (⟨_, _, rfl, rfl, rfl⟩) rfl (List.Sublist.refl _) ?_
         refine V.seq (V.seq ?_)
         replace hm0 := bindO hm0; rcases hm0 with ⟨y14, hh14, hm0⟩
         refine V.region (VO.cons rfl (V1.mv ?_))
         refine VO.cons rfl (V1.mv ?_)
         refine VO.cons rfl (V1.mv ?_)
         refine VO.cons rfl (V1.call rfl rfl rfl cok_37 rfl (ok_spec_MergeCartons hh14) rfl lt0 ?_)
         rintro _ _ ⟨b5, rfl, rfl⟩
         refine VO.cons rfl (V1.mv ?_)
         refine VO.cons rfl (V1.extract rfl rfl rfl rfl lt0 ?_)
         refine VO.weakenK (Keeps.freezeG 0 rn [(167, .vl rn 5 (List.map (encCarton rn) y14.1))] ((ob2, ⟨5, deepC cellCarton ts_484 y13.1⟩) :: os_484) (f := (encCarton rn)) (l := y14.1) rfl (fun _ => rfl) ⟨⟨_, rfl, .here⟩, trivial⟩ ⟨_, _, rfl, rfl, .inl rfl, FrzH.same⟩ rfl iNil) ?_
         refine VO.cons rfl (V1.extract rfl rfl rfl rfl lt0 ?_)
         refine VO.cons rfl (V1.as ?_)
         refine VO.cons rfl (V1.as ?_)
         refine VO.nil (V.keepT 275 [0, 24, 25, 26, 27, 28, 29, 30] [0] (E0 := [(0, .vl ρ0 1 (List.map encU8 code)), (24, .vl rn 5 (List.map (encCarton rn) y12.1)), (25, .int .i64 y12.2.1), (26, .int .i64 y12.2.2), (27, .sref ob2 5 0 (List.length y13.1)), (28, .bool y13.2), (29, .vl rn 5 (List.map (encCarton rn) y14.1)), (30, .bool y14.2)]) (A := [(ob2, ⟨5, deepC cellCarton ts_484 y13.1⟩)]) (T := os_484) (H0 := [(ob2, ⟨5, deepC cellCarton ts_484 y13.1⟩)]) (T' := os_484) rfl (⟨_, _, rfl, rfl, _, _, rfl, rfl, _, _, rfl, rfl, _, _, rfl, rfl, _, _, rfl, rfl, _, _, rfl, rfl, _, _, rfl, rfl, _, _, rfl, rfl, rfl⟩) rfl (⟨_, _, rfl, rfl, rfl⟩) rfl (List.Sublist.refl _) ?_)
         refine V.seq ?_
         replace hm0 := bindO hm0; rcases hm0 with ⟨y15, hh15, hm0⟩
         refine V.region (VO.cons rfl (V1.mv ?_))
         refine VO.cons rfl (V1.mv ?_)
         refine VO.cons rfl (V1.boolNeq rfl rfl und_4 rfl rfl lt0 ?_)
         refine VO.cons rfl (V1.mv ?_)
         apply VO.or (n := 4) rfl rfl rfl rfl rfl rfl lt0 (.none rfl)
         ·
          intro hg6
          refine VO.step (.some rfl rfl rfl) (V1.mv ?_)
          refine VO.step (.some rfl rfl rfl) (V1.mv ?_)
          refine VO.step (.some rfl rfl rfl) (V1.callL (rn + 1) ([ob2] ++ List.map Prod.fst os_484) [.vl (rn + 1) 5 (List.map (encCarton (rn + 1)) y13.1), .vl rn 5 (List.map (encCarton rn) y14.1)] rfl rfl rfl cok_43 rfl ⟨_, _, rfl, Lend.deep (m := 1) (inn := (fun c_ : Carton => List.map encInt c_.Files)) (cell := cellCarton) cokCarton (ts := ts_484) (os := os_484) (xs := y13.1) 0 hd_484 rfl (fun _ => roL_map (fun _ => rfl) _) rfl (fun p hp => memTail (A := [(ob2, ⟨5, deepC cellCarton ts_484 y13.1⟩)]) (T := os_484) hp rfl) (List.mem_append_left _ (.head _)) (fun p hp => List.mem_append_right _ (List.mem_map.2 ⟨p, hp, rfl⟩)), ⟨_, _, rfl, .same _, rfl⟩⟩ (bwTail (A := [(ob2, ⟨5, deepC cellCarton ts_484 y13.1⟩)]) (T := os_484) rfl (bwCons (k := 0) rfl bwNil) (fun p hp => hp)) (ok_laws_rCartons (cond_f hg6 hh15)) rfl (⟨(by first | omega | (dsimp only; omega)), by rintro _ _ ⟨rfl, rfl⟩; exact ⟨rfl, by simp⟩⟩) lt0 ?_)
          rintro _ _ ⟨rfl, rfl⟩
          refine VO.step (.some rfl rfl rfl) (V1.not rfl rfl rfl lt0 ?_)
          exact VO.nil ⟨rfl, rfl, rfl, rfl, .inr ⟨rfl, .inr ⟨rfl, .inr ⟨rfl, .inr ⟨rfl, .inr ⟨rfl, .inl rfl⟩⟩⟩⟩⟩⟩
         refine VO.nil (V.keepT 275 [0, 24, 25, 26, 27, 28, 177] [0] (E0 := [(0, .vl ρ0 1 (List.map encU8 code)), (24, .vl rn 5 (List.map (encCarton rn) y12.1)), (25, .int .i64 y12.2.1), (26, .int .i64 y12.2.2), (27, .sref ob2 5 0 (List.length y13.1)), (28, .bool y13.2), (177, .bool ((!(y13.2 == y14.2)) || (!y15)))]) (A := [(ob2, ⟨5, deepC cellCarton ts_484 y13.1⟩)]) (T := os_484) (H0 := [(ob2, ⟨5, deepC cellCarton ts_484 y13.1⟩)]) (T' := os_484) rfl (⟨_, _, rfl, rfl, _, _, rfl, rfl, _, _, rfl, rfl, _, _, rfl, rfl, _, _, rfl, rfl, _, _, rfl, rfl, _, _, rfl, rfl, rfl⟩) rfl (⟨_, _, rfl, rfl, rfl⟩) rfl (List.Sublist.refl _) ?_)
         refine V.cond rfl (fun hc7 => ?_) (fun hc7 => ?_)
         ·
          replace hm0 := cond_t hc7 hm0
          refine V.seq (V.region (VO.cons rfl (V1.as ?_)))
          refine VO.nil (V.ret ?_)
          obtain rfl := oi hm0
          exact ⟨_, [], ⟨_, _, rfl, rfl, rfl⟩, List.nil_sublist _, rfl, rfl⟩
         ·
          replace hm0 := cond_f hc7 hm0
          refine V.skip ?_
          refine V.seq (V.seq (V.region (VO.cons rfl (V1.as ?_))))
          refine VO.nil ?_
          replace hm0 := bindO hm0; rcases hm0 with ⟨e0, he1, hm0⟩
          refine V.cutT (D := (Unit) × (Unit)) (fun ⟨_, _⟩ => ⟨275, [(0, .vl ρ0 1 (List.map encU8 code))], []⟩) (fun ⟨_, _⟩ => (.inl () = e0)) ?_ ?_
          ·
           refine V.block ?_
           refine V.keepT 275 [31, 0, 24, 25, 26, 27, 28] [0] (E0 := [(31, .int .i64 (0 : Int)), (0, .vl ρ0 1 (List.map encU8 code)), (24, .vl rn 5 (List.map (encCarton rn) y12.1)), (25, .int .i64 y12.2.1), (26, .int .i64 y12.2.2), (27, .sref ob2 5 0 (List.length y13.1)), (28, .bool y13.2)]) (A := [(ob2, ⟨5, deepC cellCarton ts_484 y13.1⟩)]) (T := os_484) (H0 := [(ob2, ⟨5, deepC cellCarton ts_484 y13.1⟩)]) (T' := os_484) rfl (⟨_, _, rfl, rfl, _, _, rfl, rfl, _, _, rfl, rfl, _, _, rfl, rfl, _, _, rfl, rfl, _, _, rfl, rfl, _, _, rfl, rfl, rfl⟩) rfl (⟨_, _, rfl, rfl, rfl⟩) rfl (List.Sublist.refl _) ?_
           refine V.loopE (D := Nat × (Int) × (Unit)) (fun ⟨n0, i, _⟩ => [(31, .int .i64 i)]) (fun ⟨n0, i, _⟩ => []) (fun ⟨n0, i, _⟩ => loopO (M.laws_FnCartons_l0 y12 y13) n0 i = some e0) (fun ⟨n0, _, _⟩ => n0) (rounds, (0 : Int), ()) rfl he1 ?_
           rintro ⟨n0, i, _⟩ hP0
           obtain ⟨m0, y16, rfl, hm1, hl1, hr1⟩ := loop_head hP0
           unfold M.laws_FnCartons_l0 at hm1; dsimp only at hm1
           show V _ _ _ ⟨275, [(31, .int .i64 i), (0, .vl ρ0 1 (List.map encU8 code)), (24, .vl rn 5 (List.map (encCarton rn) y12.1)), (25, .int .i64 y12.2.1), (26, .int .i64 y12.2.2), (27, .sref ob2 5 0 (List.length y13.1)), (28, .bool y13.2)], (([(ob2, ⟨5, deepC cellCarton ts_484 y13.1⟩)] : List (Nat × Obj')) ++ os_484)⟩
           refine V.seq (V.seq (V.region (VO.cons rfl (V1.mv ?_))))
           refine VO.cons rfl (V1.mv ?_)
           refine VO.cons rfl (V1.lenMap rfl rfl rfl rfl rfl rfl isl_39 lt0 ?_)
           refine VO.cons rfl (V1.it ?_)
           refine VO.cons rfl (V1.mv ?_)
           apply VO.and (n := 1) rfl rfl rfl rfl rfl rfl lt0 (.none rfl)
           ·
            intro hg7
            refine VO.step (.some rfl rfl rfl) (V1.mv ?_)
            exact VO.nil ⟨rfl, rfl, rfl, rfl, .inr ⟨rfl, .inr ⟨rfl, .inl rfl⟩⟩⟩
           refine VO.nil (V.keepT 275 [0, 24, 25, 26, 27, 28, 31, 184] [0] (E0 := [(0, .vl ρ0 1 (List.map encU8 code)), (24, .vl rn 5 (List.map (encCarton rn) y12.1)), (25, .int .i64 y12.2.1), (26, .int .i64 y12.2.2), (27, .sref ob2 5 0 (List.length y13.1)), (28, .bool y13.2), (31, .int .i64 i), (184, .bool ((decide (i < (y12.1.length : Int))) && y13.2))]) (A := [(ob2, ⟨5, deepC cellCarton ts_484 y13.1⟩)]) (T := os_484) (H0 := [(ob2, ⟨5, deepC cellCarton ts_484 y13.1⟩)]) (T' := os_484) rfl (⟨_, _, rfl, rfl, _, _, rfl, rfl, _, _, rfl, rfl, _, _, rfl, rfl, _, _, rfl, rfl, _, _, rfl, rfl, _, _, rfl, rfl, _, _, rfl, rfl, rfl⟩) rfl (⟨_, _, rfl, rfl, rfl⟩) rfl (List.Sublist.refl _) ?_)
           refine V.cond rfl (fun hc8 => ?_) (fun hc8 => ?_)
           ·
            replace hm1 := cond_t hc8 hm1
            refine V.skip ?_
            refine V.seq (V.block ?_)
            refine V.seq (V.region (VO.cons rfl (V1.as ?_)))
            refine VO.nil ?_
            replace hm1 := bindO hm1; rcases hm1 with ⟨e1, he2, hm1⟩
            refine V.cutT (D := (Unit) × (Unit)) (fun ⟨_, _⟩ => ⟨275, [(0, .vl ρ0 1 (List.map encU8 code)), (24, .vl rn 5 (List.map (encCarton rn) y12.1)), (25, .int .i64 y12.2.1), (26, .int .i64 y12.2.2), (27, .sref ob2 5 0 (List.length y13.1)), (28, .bool y13.2), (31, .int .i64 i)], ([(ob2, ⟨5, deepC cellCarton ts_484 y13.1⟩)]) ++ os_484⟩) (fun ⟨_, _⟩ => (.inl () = e1)) ?_ ?_
            ·
             refine V.block ?_
             refine V.keepT 275 [32, 0, 24, 25, 26, 27, 28, 31] [0] (E0 := [(32, .int .i64 (0 : Int)), (0, .vl ρ0 1 (List.map encU8 code)), (24, .vl rn 5 (List.map (encCarton rn) y12.1)), (25, .int .i64 y12.2.1), (26, .int .i64 y12.2.2), (27, .sref ob2 5 0 (List.length y13.1)), (28, .bool y13.2), (31, .int .i64 i)]) (A := [(ob2, ⟨5, deepC cellCarton ts_484 y13.1⟩)]) (T := os_484) (H0 := [(ob2, ⟨5, deepC cellCarton ts_484 y13.1⟩)]) (T' := os_484) rfl (⟨_, _, rfl, rfl, _, _, rfl, rfl, _, _, rfl, rfl, _, _, rfl, rfl, _, _, rfl, rfl, _, _, rfl, rfl, _, _, rfl, rfl, _, _, rfl, rfl, rfl⟩) rfl (⟨_, _, rfl, rfl, rfl⟩) rfl (List.Sublist.refl _) ?_
             refine V.loopE (D := Nat × (Int) × (Unit)) (fun ⟨n1, k, _⟩ => [(32, .int .i64 k)]) (fun ⟨n1, k, _⟩ => []) (fun ⟨n1, k, _⟩ => loopO (M.laws_FnCartons_l1 y12 y13 i) n1 k = some e1) (fun ⟨n1, _, _⟩ => n1) (rounds, (0 : Int), ()) rfl he2 ?_
             rintro ⟨n1, k, _⟩ hP1
             obtain ⟨m1, y17, rfl, hm2, hl2, hr2⟩ := loop_head hP1
             unfold M.laws_FnCartons_l1 at hm2; dsimp only at hm2
             show V _ _ _ ⟨275, [(32, .int .i64 k), (0, .vl ρ0 1 (List.map encU8 code)), (24, .vl rn 5 (List.map (encCarton rn) y12.1)), (25, .int .i64 y12.2.1), (26, .int .i64 y12.2.2), (27, .sref ob2 5 0 (List.length y13.1)), (28, .bool y13.2), (31, .int .i64 i)], (([(ob2, ⟨5, deepC cellCarton ts_484 y13.1⟩)] : List (Nat × Obj')) ++ os_484)⟩
             refine V.seq (V.seq ?_)
             replace hm2 := asrt_some hm2; rcases hm2 with ⟨hh16, hm2⟩
             refine V.region (VO.cons rfl (V1.mv ?_))
             refine VO.cons rfl (V1.mv ?_)
             refine VO.cons rfl (V1.mv ?_)
             refine VO.cons rfl (V1.indexI rfl rfl esz_39 rfl rfl hh16 lt0 ?_)
             refine VO.cons rfl (V1.fieldPin rfl rfl fo_67_3 rfl lt0 ?_)
             refine VO.cons rfl (V1.loadPin rfl rfl tyk_36 rfl rfl lt0 ?_)
             refine VO.cons rfl (V1.lenMap rfl rfl rfl rfl rfl rfl isl_36 lt0 ?_)
             refine VO.cons rfl (V1.it ?_)
             refine VO.nil (V.keepT 275 [0, 24, 25, 26, 27, 28, 31, 32, 194] [0] (E0 := [(0, .vl ρ0 1 (List.map encU8 code)), (24, .vl rn 5 (List.map (encCarton rn) y12.1)), (25, .int .i64 y12.2.1), (26, .int .i64 y12.2.2), (27, .sref ob2 5 0 (List.length y13.1)), (28, .bool y13.2), (31, .int .i64 i), (32, .int .i64 k), (194, .bool (decide (k < (((y12.1.getD (Int.toNat i) default).Files).length : Int))))]) (A := [(ob2, ⟨5, deepC cellCarton ts_484 y13.1⟩)]) (T := os_484) (H0 := [(ob2, ⟨5, deepC cellCarton ts_484 y13.1⟩)]) (T' := os_484) rfl (⟨_, _, rfl, rfl, _, _, rfl, rfl, _, _, rfl, rfl, _, _, rfl, rfl, _, _, rfl, rfl, _, _, rfl, rfl, _, _, rfl, rfl, _, _, rfl, rfl, _, _, rfl, rfl, rfl⟩) rfl (⟨_, _, rfl, rfl, rfl⟩) rfl (List.Sublist.refl _) ?_)
             refine V.cond rfl (fun hc9 => ?_) (fun hc9 => ?_)
             ·
              replace hm2 := cond_t hc9 hm2
              refine V.skip ?_
              refine V.seq (V.block ?_)
              refine V.seq ?_
              replace hm2 := asrt_some hm2; rcases hm2 with ⟨hh17, hm2⟩
              replace hm2 := asrt_some hm2; rcases hm2 with ⟨hh18, hm2⟩
              replace hm2 := bindO hm2; rcases hm2 with ⟨y18, hh19, hm2⟩
              refine V.region (VO.cons rfl (V1.mv ?_))
              refine VO.cons rfl (V1.mv ?_)
              refine VO.cons rfl (V1.mv ?_)
              refine VO.cons rfl (V1.indexI rfl rfl esz_39 rfl rfl hh17 lt0 ?_)
              refine VO.cons rfl (V1.fieldPin rfl rfl fo_67_3 rfl lt0 ?_)
              refine VO.cons rfl (V1.loadPin rfl rfl tyk_36 rfl rfl lt0 ?_)
              refine VO.cons rfl (V1.mv ?_)
              refine VO.cons rfl (V1.indexI rfl rfl esz_36 rfl rfl hh18 lt0 ?_)
              refine VO.cons rfl (V1.loadPin rfl rfl tyk_3 rfl rfl lt0 ?_)
              refine VO.cons rfl (V1.callL (rn + 1) ([ob2] ++ List.map Prod.fst os_484) [.vl (rn + 1) 5 (List.map (encCarton (rn + 1)) y13.1), .int .i64 (((y12.1.getD (Int.toNat i) default).Files).getD (Int.toNat k) default)] rfl rfl rfl cok_44 rfl ⟨_, _, rfl, Lend.deep (m := 1) (inn := (fun c_ : Carton => List.map encInt c_.Files)) (cell := cellCarton) cokCarton (ts := ts_484) (os := os_484) (xs := y13.1) 0 hd_484 rfl (fun _ => roL_map (fun _ => rfl) _) rfl (fun p hp => memTail (A := [(ob2, ⟨5, deepC cellCarton ts_484 y13.1⟩)]) (T := os_484) hp rfl) (List.mem_append_left _ (.head _)) (fun p hp => List.mem_append_right _ (List.mem_map.2 ⟨p, hp, rfl⟩)), ⟨_, _, rfl, .same _, rfl⟩⟩ (bwTail (A := [(ob2, ⟨5, deepC cellCarton ts_484 y13.1⟩)]) (T := os_484) rfl (bwCons (k := 0) rfl bwNil) (fun p hp => hp)) (ok_impl_FindFile hh19) rfl (⟨(by first | omega | (dsimp only; omega)), by rintro _ _ ⟨rfl, rfl⟩; exact ⟨rfl, by simp⟩⟩) lt0 ?_)
              rintro _ _ ⟨rfl, rfl⟩
              refine VO.cons rfl (V1.mv ?_)
              refine VO.cons rfl (V1.extract rfl rfl rfl rfl lt0 ?_)
              refine VO.cons rfl (V1.extract rfl rfl rfl rfl lt0 ?_)
              refine VO.cons rfl (V1.extract rfl rfl rfl rfl lt0 ?_)
              refine VO.cons rfl (V1.extract rfl rfl rfl rfl lt0 ?_)
              refine VO.cons rfl (V1.as ?_)
              refine VO.cons rfl (V1.as ?_)
              refine VO.cons rfl (V1.as ?_)
              refine VO.cons rfl (V1.as ?_)
              refine VO.nil (V.keepT 275 [0, 24, 25, 26, 27, 28, 31, 32, 33, 36] [0] (E0 := [(0, .vl ρ0 1 (List.map encU8 code)), (24, .vl rn 5 (List.map (encCarton rn) y12.1)), (25, .int .i64 y12.2.1), (26, .int .i64 y12.2.2), (27, .sref ob2 5 0 (List.length y13.1)), (28, .bool y13.2), (31, .int .i64 i), (32, .int .i64 k), (33, .int .i64 y18.1), (36, .bool y18.2.2.2)]) (A := [(ob2, ⟨5, deepC cellCarton ts_484 y13.1⟩)]) (T := os_484) (H0 := [(ob2, ⟨5, deepC cellCarton ts_484 y13.1⟩)]) (T' := os_484) rfl (⟨_, _, rfl, rfl, _, _, rfl, rfl, _, _, rfl, rfl, _, _, rfl, rfl, _, _, rfl, rfl, _, _, rfl, rfl, _, _, rfl, rfl, _, _, rfl, rfl, _, _, rfl, rfl, _, _, rfl, rfl, rfl⟩) rfl (⟨_, _, rfl, rfl, rfl⟩) rfl (List.Sublist.refl _) ?_)
              refine V.seq ?_
              replace hm2 := asrt_some hm2; rcases hm2 with ⟨hh20, hm2⟩
              replace hm2 := asrt_some hm2; rcases hm2 with ⟨hh21, hm2⟩
              refine V.region (VO.cons rfl (V1.mv ?_))
              refine VO.cons rfl (V1.not rfl rfl rfl lt0 ?_)
              refine VO.cons rfl (V1.mv ?_)
              apply VO.or (n := 20) rfl rfl rfl rfl rfl rfl lt0 (.none rfl)
              ·
               intro hg8
               refine VO.step (.some rfl rfl rfl) (V1.mv ?_)
               refine VO.step (.some rfl rfl rfl) (V1.mv ?_)
               refine VO.step (.some rfl rfl rfl) (V1.indexI rfl rfl esz_39 rfl rfl (hh20 hg8) lt0 ?_)
               refine VO.step (.some rfl rfl rfl) (V1.fieldPin rfl rfl fo_67_0 rfl lt0 ?_)
               refine VO.step (.some rfl rfl rfl) (V1.loadPin rfl rfl tyk_3 rfl rfl lt0 ?_)
               refine VO.step (.some rfl rfl rfl) (V1.mv ?_)
               refine VO.step (.some rfl rfl rfl) (V1.it ?_)
               refine VO.step (.some rfl rfl rfl) (V1.mv ?_)
               apply VO.or (n := 7) rfl rfl rfl rfl rfl rfl lt0 (.some rfl rfl rfl)
               ·
                intro hg9
                refine VO.step (.some rfl rfl rfl) (V1.mv ?_)
                refine VO.step (.some rfl rfl rfl) (V1.mv ?_)
                refine VO.step (.some rfl rfl rfl) (V1.indexI rfl rfl esz_39 rfl rfl (hh21 hg8 hg9) lt0 ?_)
                refine VO.step (.some rfl rfl rfl) (V1.fieldPin rfl rfl fo_67_0 rfl lt0 ?_)
                refine VO.step (.some rfl rfl rfl) (V1.loadPin rfl rfl tyk_3 rfl rfl lt0 ?_)
                refine VO.step (.some rfl rfl rfl) (V1.mv ?_)
                refine VO.step (.some rfl rfl rfl) (V1.it ?_)
                exact VO.nil ⟨rfl, rfl, rfl, rfl, .inr ⟨rfl, .inr ⟨rfl, .inr ⟨rfl, .inr ⟨rfl, .inr ⟨rfl, .inr ⟨rfl, .inr ⟨rfl, .inr ⟨rfl, .inl rfl⟩⟩⟩⟩⟩⟩⟩⟩⟩
               refine VO.step (.some rfl rfl rfl) (V1.mv ?_)
               refine VO.step (.some rfl rfl rfl) (V1.mv ?_)
               refine VO.step (.some rfl rfl rfl) (V1.it ?_)
               refine VO.step (.some rfl rfl rfl) (V1.boolNeq rfl rfl und_4 rfl rfl lt0 ?_)
               exact VO.nil ⟨rfl, rfl, rfl, rfl, .inr ⟨rfl, .inr ⟨rfl, .inr ⟨rfl, .inr ⟨rfl, .inr ⟨rfl, .inr ⟨rfl, .inr ⟨rfl, .inr ⟨rfl, .inr ⟨rfl, .inr ⟨rfl, .inr ⟨rfl, .inr ⟨rfl, .inr ⟨rfl, .inr ⟨rfl, .inl rfl⟩⟩⟩⟩⟩⟩⟩⟩⟩⟩⟩⟩⟩⟩⟩
              refine VO.nil (V.keepT 275 [0, 24, 25, 26, 27, 28, 31, 32, 235] [0] (E0 := [(0, .vl ρ0 1 (List.map encU8 code)), (24, .vl rn 5 (List.map (encCarton rn) y12.1)), (25, .int .i64 y12.2.1), (26, .int .i64 y12.2.2), (27, .sref ob2 5 0 (List.length y13.1)), (28, .bool y13.2), (31, .int .i64 i), (32, .int .i64 k), (235, .bool ((!y18.2.2.2) || (!(((((y12.1.getD (Int.toNat i) default).Id) == y12.2.1) || (((y12.1.getD (Int.toNat i) default).Id) == y12.2.2)) == (y18.1 == y12.2.1)))))]) (A := [(ob2, ⟨5, deepC cellCarton ts_484 y13.1⟩)]) (T := os_484) (H0 := [(ob2, ⟨5, deepC cellCarton ts_484 y13.1⟩)]) (T' := os_484) rfl (⟨_, _, rfl, rfl, _, _, rfl, rfl, _, _, rfl, rfl, _, _, rfl, rfl, _, _, rfl, rfl, _, _, rfl, rfl, _, _, rfl, rfl, _, _, rfl, rfl, _, _, rfl, rfl, rfl⟩) rfl (⟨_, _, rfl, rfl, rfl⟩) rfl (List.Sublist.refl _) ?_)
              refine V.cond rfl (fun hc10 => ?_) (fun hc10 => ?_)
              ·
               replace hm2 := cond_t hc10 hm2
               refine V.seq (V.region (VO.cons rfl (V1.as ?_)))
               refine VO.nil (V.ret ?_)
               obtain rfl := hr2 _ (oi hm2).symm
               change some _ = some _ at hm1
               obtain rfl := hr1 _ (oi hm1).symm
               change some _ = some _ at hm0
               obtain rfl := oi hm0
               exact ⟨_, [], ⟨_, _, rfl, rfl, rfl⟩, List.nil_sublist _, rfl, rfl⟩
              ·
               replace hm2 := cond_f hc10 hm2
               refine V.skip ?_
               refine V.region (VO.cons rfl (V1.mv ?_))
               refine VO.cons rfl (V1.it ?_)
               refine VO.cons rfl (V1.as ?_)
               refine VO.nil ?_
               exact ⟨(m1, (IntKind.i64.wrap (k + (1 : Int))), ()), hl2 _ (oi hm2).symm, Nat.lt_succ_self _, Keeps.mkT (A := [(ob2, ⟨5, deepC cellCarton ts_484 y13.1⟩)]) (T := os_484) (T' := os_484) (H := [(ob2, ⟨5, deepC cellCarton ts_484 y13.1⟩)]) (ks := [0]) rfl (by exact ⟨rfl, rfl, rfl, rfl, rfl, rfl, rfl, rfl, trivial⟩) rfl (by exact (⟨_, _, rfl, rfl, rfl⟩)) rfl (List.Sublist.refl _)⟩
             ·
              replace hm2 := cond_f hc9 hm2
              refine V.exit ?_
              obtain rfl := hr2 _ (oi hm2).symm
              exact ⟨((), ()), rfl, Keeps.mkT (A := [(ob2, ⟨5, deepC cellCarton ts_484 y13.1⟩)]) (T := os_484) (T' := os_484) (H := [(ob2, ⟨5, deepC cellCarton ts_484 y13.1⟩)]) (ks := [0]) rfl (by exact ⟨rfl, rfl, rfl, rfl, rfl, rfl, rfl, trivial⟩) rfl (by exact (⟨_, _, rfl, rfl, rfl⟩)) rfl (List.Sublist.refl _)⟩
            ·
             rintro ⟨_, _⟩ rfl
             try dsimp only at hm1
             refine V.region (VO.cons rfl (V1.mv ?_))
             refine VO.cons rfl (V1.it ?_)
             refine VO.cons rfl (V1.as ?_)
             refine VO.nil ?_
             exact ⟨(m0, (IntKind.i64.wrap (i + (1 : Int))), ()), hl1 _ (oi hm1).symm, Nat.lt_succ_self _, Keeps.mkT (A := [(ob2, ⟨5, deepC cellCarton ts_484 y13.1⟩)]) (T := os_484) (T' := os_484) (H := [(ob2, ⟨5, deepC cellCarton ts_484 y13.1⟩)]) (ks := [0]) rfl (by exact ⟨rfl, rfl, rfl, rfl, rfl, rfl, rfl, trivial⟩) rfl (by exact (⟨_, _, rfl, rfl, rfl⟩)) rfl (List.Sublist.refl _)⟩
           ·
            replace hm1 := cond_f hc8 hm1
            refine V.exit ?_
            obtain rfl := hr1 _ (oi hm1).symm
            exact ⟨((), ()), rfl, Keeps.mkT (A := [(ob2, ⟨5, deepC cellCarton ts_484 y13.1⟩)]) (T := os_484) (T' := []) (H := []) (ks := []) rfl (by exact ⟨rfl, trivial⟩) rfl (by exact (rfl)) rfl (List.nil_sublist _)⟩
          ·
           rintro ⟨_, _⟩ rfl
           try dsimp only at hm0
           refine V.seq ?_
           replace hm0 := bindO hm0; rcases hm0 with ⟨y19, hh22, hm0⟩
           refine V.region (VO.cons rfl (V1.mv ?_))
           refine VO.cons rfl (V1.call rfl rfl rfl cok_49 rfl (ok_spec_DrawFindFile hh22) rfl lt0 ?_)
           rintro _ _ ⟨b6, rfl, rfl⟩
           refine VO.cons rfl (V1.mv ?_)
           refine VO.cons rfl (V1.extract rfl rfl rfl rfl lt0 ?_)
           refine VO.weakenK (Keeps.freezeG 0 rn [(239, .vl rn 5 (List.map (encCarton rn) y19.1))] ([]) (f := (encCarton rn)) (l := y19.1) rfl (fun _ => rfl) ⟨⟨_, rfl, .here⟩, trivial⟩ rfl rfl iNil) ?_
           refine VO.cons rfl (V1.extract rfl rfl rfl rfl lt0 ?_)
           refine VO.cons rfl (V1.as ?_)
           refine VO.cons rfl (V1.as ?_)
           refine VO.nil (V.keep 275 [37, 38] [] (E0 := [(37, .vl rn 5 (List.map (encCarton rn) y19.1)), (38, .int .i64 y19.2)]) (H0 := []) rfl (⟨_, _, rfl, rfl, _, _, rfl, rfl, rfl⟩) (rfl) rfl ?_)
           refine V.seq ?_
           replace hm0 := bindO hm0; rcases hm0 with ⟨y20, hh23, hm0⟩
           refine V.region (VO.cons rfl (V1.mv ?_))
           refine VO.cons rfl (V1.mv ?_)
           refine VO.cons rfl (V1.call rfl rfl rfl cok_44 rfl (ok_impl_FindFile hh23) rfl lt0 ?_)
           rintro _ _ ⟨rfl, rfl⟩
           refine VO.cons rfl (V1.mv ?_)
           refine VO.cons rfl (V1.extract rfl rfl rfl rfl lt0 ?_)
           refine VO.cons rfl (V1.extract rfl rfl rfl rfl lt0 ?_)
           refine VO.cons rfl (V1.extract rfl rfl rfl rfl lt0 ?_)
           refine VO.cons rfl (V1.extract rfl rfl rfl rfl lt0 ?_)
           refine VO.cons rfl (V1.as ?_)
           refine VO.cons rfl (V1.as ?_)
           refine VO.cons rfl (V1.as ?_)
           refine VO.cons rfl (V1.as ?_)
           refine VO.nil (V.keep 275 [37, 38, 39, 40, 41, 42] [] (E0 := [(37, .vl rn 5 (List.map (encCarton rn) y19.1)), (38, .int .i64 y19.2), (39, .int .i64 y20.1), (40, .int .i64 y20.2.1), (41, .int .i64 y20.2.2.1), (42, .bool y20.2.2.2)]) (H0 := []) rfl (⟨_, _, rfl, rfl, _, _, rfl, rfl, _, _, rfl, rfl, _, _, rfl, rfl, _, _, rfl, rfl, _, _, rfl, rfl, rfl⟩) (rfl) rfl ?_)
           refine V.seq ?_
           replace hm0 := bindO hm0; rcases hm0 with ⟨y21, hh24, hm0⟩
           refine V.region (VO.cons rfl (V1.mv ?_))
           refine VO.cons rfl (V1.mv ?_)
           refine VO.cons rfl (V1.call rfl rfl rfl cok_50 rfl (ok_spec_FindFile hh24) rfl lt0 ?_)
           rintro _ _ ⟨rfl, rfl⟩
           refine VO.cons rfl (V1.mv ?_)
           refine VO.cons rfl (V1.extract rfl rfl rfl rfl lt0 ?_)
           refine VO.cons rfl (V1.extract rfl rfl rfl rfl lt0 ?_)
           refine VO.cons rfl (V1.extract rfl rfl rfl rfl lt0 ?_)
           refine VO.cons rfl (V1.extract rfl rfl rfl rfl lt0 ?_)
           refine VO.cons rfl (V1.as ?_)
           refine VO.cons rfl (V1.as ?_)
           refine VO.cons rfl (V1.as ?_)
           refine VO.cons rfl (V1.as ?_)
           refine VO.nil (V.keep 275 [39, 40, 41, 42, 43, 44, 45, 46] [] (E0 := [(39, .int .i64 y20.1), (40, .int .i64 y20.2.1), (41, .int .i64 y20.2.2.1), (42, .bool y20.2.2.2), (43, .int .i64 y21.1), (44, .int .i64 y21.2.1), (45, .int .i64 y21.2.2.1), (46, .bool y21.2.2.2)]) (H0 := []) rfl (⟨_, _, rfl, rfl, _, _, rfl, rfl, _, _, rfl, rfl, _, _, rfl, rfl, _, _, rfl, rfl, _, _, rfl, rfl, _, _, rfl, rfl, _, _, rfl, rfl, rfl⟩) (rfl) rfl ?_)
           refine V.seq (V.region (VO.cons rfl (V1.mv ?_)))
           refine VO.cons rfl (V1.mv ?_)
           refine VO.cons rfl (V1.it ?_)
           refine VO.cons rfl (V1.mv ?_)
           apply VO.and (n := 3) rfl rfl rfl rfl rfl rfl lt0 (.none rfl)
           ·
            intro hg10
            refine VO.step (.some rfl rfl rfl) (V1.mv ?_)
            refine VO.step (.some rfl rfl rfl) (V1.mv ?_)
            refine VO.step (.some rfl rfl rfl) (V1.it ?_)
            exact VO.nil ⟨rfl, rfl, rfl, rfl, .inr ⟨rfl, .inr ⟨rfl, .inr ⟨rfl, .inr ⟨rfl, .inl rfl⟩⟩⟩⟩⟩
           refine VO.cons rfl (V1.mv ?_)
           apply VO.and (n := 3) rfl rfl rfl rfl rfl rfl lt0 (.none rfl)
           ·
            intro hg11
            refine VO.step (.some rfl rfl rfl) (V1.mv ?_)
            refine VO.step (.some rfl rfl rfl) (V1.mv ?_)
            refine VO.step (.some rfl rfl rfl) (V1.it ?_)
            exact VO.nil ⟨rfl, rfl, rfl, rfl, .inr ⟨rfl, .inr ⟨rfl, .inr ⟨rfl, .inr ⟨rfl, .inl rfl⟩⟩⟩⟩⟩
           refine VO.cons rfl (V1.mv ?_)
           apply VO.and (n := 3) rfl rfl rfl rfl rfl rfl lt0 (.none rfl)
           ·
            intro hg12
            refine VO.step (.some rfl rfl rfl) (V1.mv ?_)
            refine VO.step (.some rfl rfl rfl) (V1.mv ?_)
            refine VO.step (.some rfl rfl rfl) (V1.boolEql rfl rfl und_4 rfl rfl lt0 ?_)
            exact VO.nil ⟨rfl, rfl, rfl, rfl, .inr ⟨rfl, .inr ⟨rfl, .inr ⟨rfl, .inr ⟨rfl, .inl rfl⟩⟩⟩⟩⟩
           refine VO.cons rfl (V1.as ?_)
           refine VO.nil (V.ret ?_)
           obtain rfl := oi hm0
           exact ⟨_, [], ⟨_, _, rfl, rfl, rfl⟩, List.nil_sublist _, rfl, rfl⟩
  ·
   refine V.keepT 275 [0, 3, 4, 5, 6, 7] [0] (E0 := [(0, .vl ρ0 1 (List.map encU8 code)), (3, .vl rn 5 (List.map (encCarton rn) y1.1)), (4, .int .i64 y1.2.1), (5, .int .i64 y1.2.2), (6, .sref ob0 5 0 (List.length y2.1)), (7, .bool y2.2)]) (A := [(ob0, ⟨5, deepC cellCarton ts_312 y2.1⟩)]) (T := os_312) (H0 := [(ob0, ⟨5, deepC cellCarton ts_312 y2.1⟩)]) (T' := os_312) rfl (⟨_, _, rfl, rfl, _, _, rfl, rfl, _, _, rfl, rfl, _, _, rfl, rfl, _, _, rfl, rfl, _, _, rfl, rfl, rfl⟩) rfl (⟨_, _, rfl, rfl, rfl⟩) rfl (List.Sublist.refl _) ?_
   refine V.seq (V.seq ?_)
   replace hm0 := bindO hm0; rcases hm0 with ⟨y3, hh3, hm0⟩
   refine V.region (VO.cons rfl (V1.mv ?_))
   refine VO.cons rfl (V1.mv ?_)
   refine VO.cons rfl (V1.mv ?_)
   refine VO.cons rfl (V1.call rfl rfl rfl cok_39 rfl (ok_spec_RefileTo hh3) rfl lt0 ?_)
   rintro _ _ ⟨b1, rfl, rfl⟩
   refine VO.cons rfl (V1.mv ?_)
   refine VO.cons rfl (V1.extract rfl rfl rfl rfl lt0 ?_)
   refine VO.weakenK (Keeps.freezeG 0 rn [(67, .vl rn 5 (List.map (encCarton rn) y3.1))] ((ob0, ⟨5, deepC cellCarton ts_312 y2.1⟩) :: os_312) (f := (encCarton rn)) (l := y3.1) rfl (fun _ => rfl) ⟨⟨_, rfl, .here⟩, trivial⟩ ⟨_, _, rfl, rfl, .inl rfl, FrzH.same⟩ rfl iNil) ?_
   refine VO.cons rfl (V1.extract rfl rfl rfl rfl lt0 ?_)
   refine VO.cons rfl (V1.as ?_)
   refine VO.cons rfl (V1.as ?_)
   refine VO.nil (V.keepT 275 [0, 4, 5, 6, 7, 8, 9] [0] (E0 := [(0, .vl ρ0 1 (List.map encU8 code)), (4, .int .i64 y1.2.1), (5, .int .i64 y1.2.2), (6, .sref ob0 5 0 (List.length y2.1)), (7, .bool y2.2), (8, .vl rn 5 (List.map (encCarton rn) y3.1)), (9, .bool y3.2)]) (A := [(ob0, ⟨5, deepC cellCarton ts_312 y2.1⟩)]) (T := os_312) (H0 := [(ob0, ⟨5, deepC cellCarton ts_312 y2.1⟩)]) (T' := os_312) rfl (⟨_, _, rfl, rfl, _, _, rfl, rfl, _, _, rfl, rfl, _, _, rfl, rfl, _, _, rfl, rfl, _, _, rfl, rfl, _, _, rfl, rfl, rfl⟩) rfl (⟨_, _, rfl, rfl, rfl⟩) rfl (List.Sublist.refl _) ?_)
   refine V.seq ?_
   replace hm0 := bindO hm0; rcases hm0 with ⟨y4, hh4, hm0⟩
   refine V.region (VO.cons rfl (V1.mv ?_))
   refine VO.cons rfl (V1.mv ?_)
   refine VO.cons rfl (V1.boolNeq rfl rfl und_4 rfl rfl lt0 ?_)
   refine VO.cons rfl (V1.mv ?_)
   apply VO.or (n := 4) rfl rfl rfl rfl rfl rfl lt0 (.none rfl)
   ·
    intro hg0
    refine VO.step (.some rfl rfl rfl) (V1.mv ?_)
    refine VO.step (.some rfl rfl rfl) (V1.mv ?_)
    refine VO.step (.some rfl rfl rfl) (V1.callL (rn + 1) ([ob0] ++ List.map Prod.fst os_312) [.vl (rn + 1) 5 (List.map (encCarton (rn + 1)) y2.1), .vl rn 5 (List.map (encCarton rn) y3.1)] rfl rfl rfl cok_43 rfl ⟨_, _, rfl, Lend.deep (m := 1) (inn := (fun c_ : Carton => List.map encInt c_.Files)) (cell := cellCarton) cokCarton (ts := ts_312) (os := os_312) (xs := y2.1) 0 hd_312 rfl (fun _ => roL_map (fun _ => rfl) _) rfl (fun p hp => memTail (A := [(ob0, ⟨5, deepC cellCarton ts_312 y2.1⟩)]) (T := os_312) hp rfl) (List.mem_append_left _ (.head _)) (fun p hp => List.mem_append_right _ (List.mem_map.2 ⟨p, hp, rfl⟩)), ⟨_, _, rfl, .same _, rfl⟩⟩ (bwTail (A := [(ob0, ⟨5, deepC cellCarton ts_312 y2.1⟩)]) (T := os_312) rfl (bwCons (k := 0) rfl bwNil) (fun p hp => hp)) (ok_laws_rCartons (cond_f hg0 hh4)) rfl (⟨(by first | omega | (dsimp only; omega)), by rintro _ _ ⟨rfl, rfl⟩; exact ⟨rfl, by simp⟩⟩) lt0 ?_)
    rintro _ _ ⟨rfl, rfl⟩
    refine VO.step (.some rfl rfl rfl) (V1.not rfl rfl rfl lt0 ?_)
    exact VO.nil ⟨rfl, rfl, rfl, rfl, .inr ⟨rfl, .inr ⟨rfl, .inr ⟨rfl, .inr ⟨rfl, .inr ⟨rfl, .inl rfl⟩⟩⟩⟩⟩⟩
   refine VO.nil (V.keepT 275 [0, 4, 5, 6, 7, 77] [0] (E0 := [(0, .vl ρ0 1 (List.map encU8 code)), (4, .int .i64 y1.2.1), (5, .int .i64 y1.2.2), (6, .sref ob0 5 0 (List.length y2.1)), (7, .bool y2.2), (77, .bool ((!(y2.2 == y3.2)) || (!y4)))]) (A := [(ob0, ⟨5, deepC cellCarton ts_312 y2.1⟩)]) (T := os_312) (H0 := [(ob0, ⟨5, deepC cellCarton ts_312 y2.1⟩)]) (T' := os_312) rfl (⟨_, _, rfl, rfl, _, _, rfl, rfl, _, _, rfl, rfl, _, _, rfl, rfl, _, _, rfl, rfl, _, _, rfl, rfl, rfl⟩) rfl (⟨_, _, rfl, rfl, rfl⟩) rfl (List.Sublist.refl _) ?_)
   refine V.cond rfl (fun hc1 => ?_) (fun hc1 => ?_)
   ·
    replace hm0 := cond_t hc1 hm0
    refine V.seq (V.region (VO.cons rfl (V1.as ?_)))
    refine VO.nil (V.ret ?_)
    obtain rfl := oi hm0
    exact ⟨_, [], ⟨_, _, rfl, rfl, rfl⟩, List.nil_sublist _, rfl, rfl⟩
   ·
    replace hm0 := cond_f hc1 hm0
    refine V.skip ?_
    refine V.seq ?_
    replace hm0 := bindO hm0; rcases hm0 with ⟨j0, hm1, hm0⟩
    refine V.cutT (D := (Unit) × (Unit)) (fun ⟨_, _⟩ => ⟨275, [(0, .vl ρ0 1 (List.map encU8 code))], []⟩) (fun ⟨_, _⟩ => (.inl () = j0)) ?_ ?_
    ·
     refine V.seq (V.region (VO.cons rfl (V1.mv ?_)))
     refine VO.nil (V.cond rfl (fun hc2 => ?_) (fun hc2 => ?_))
     ·
      replace hm1 := cond_t hc2 hm1
      refine V.seq ?_
      replace hm1 := bindO hm1; rcases hm1 with ⟨y5, hh5, hm1⟩
      refine V.region (VO.cons rfl (V1.mv ?_))
      refine VO.cons rfl (V1.mv ?_)
      refine VO.cons rfl (V1.callL (rn + 1) ([ob0] ++ List.map Prod.fst os_312) [.vl (rn + 1) 5 (List.map (encCarton (rn + 1)) y2.1), .int .i64 y1.2.1] rfl rfl rfl cok_44 rfl ⟨_, _, rfl, Lend.deep (m := 1) (inn := (fun c_ : Carton => List.map encInt c_.Files)) (cell := cellCarton) cokCarton (ts := ts_312) (os := os_312) (xs := y2.1) 0 hd_312 rfl (fun _ => roL_map (fun _ => rfl) _) rfl (fun p hp => memTail (A := [(ob0, ⟨5, deepC cellCarton ts_312 y2.1⟩)]) (T := os_312) hp rfl) (List.mem_append_left _ (.head _)) (fun p hp => List.mem_append_right _ (List.mem_map.2 ⟨p, hp, rfl⟩)), ⟨_, _, rfl, .same _, rfl⟩⟩ (bwTail (A := [(ob0, ⟨5, deepC cellCarton ts_312 y2.1⟩)]) (T := os_312) rfl (bwCons (k := 0) rfl bwNil) (fun p hp => hp)) (ok_impl_FindFile hh5) rfl (⟨(by first | omega | (dsimp only; omega)), by rintro _ _ ⟨rfl, rfl⟩; exact ⟨rfl, by simp⟩⟩) lt0 ?_)
      rintro _ _ ⟨rfl, rfl⟩
      refine VO.cons rfl (V1.mv ?_)
      refine VO.cons rfl (V1.extract rfl rfl rfl rfl lt0 ?_)
      refine VO.cons rfl (V1.extract rfl rfl rfl rfl lt0 ?_)
      refine VO.cons rfl (V1.extract rfl rfl rfl rfl lt0 ?_)
      refine VO.cons rfl (V1.extract rfl rfl rfl rfl lt0 ?_)
      refine VO.cons rfl (V1.as ?_)
      refine VO.cons rfl (V1.as ?_)
      refine VO.cons rfl (V1.as ?_)
      refine VO.cons rfl (V1.as ?_)
      refine VO.nil (V.keepT 275 [0, 5, 6, 10, 13] [0] (E0 := [(0, .vl ρ0 1 (List.map encU8 code)), (5, .int .i64 y1.2.2), (6, .sref ob0 5 0 (List.length y2.1)), (10, .int .i64 y5.1), (13, .bool y5.2.2.2)]) (A := [(ob0, ⟨5, deepC cellCarton ts_312 y2.1⟩)]) (T := os_312) (H0 := [(ob0, ⟨5, deepC cellCarton ts_312 y2.1⟩)]) (T' := os_312) rfl (⟨_, _, rfl, rfl, _, _, rfl, rfl, _, _, rfl, rfl, _, _, rfl, rfl, _, _, rfl, rfl, rfl⟩) rfl (⟨_, _, rfl, rfl, rfl⟩) rfl (List.Sublist.refl _) ?_)
      refine V.seq ?_
      replace hm1 := bindO hm1; rcases hm1 with ⟨y6, hh6, hm1⟩
      refine V.region (VO.cons rfl (V1.mv ?_))
      refine VO.cons rfl (V1.not rfl rfl rfl lt0 ?_)
      refine VO.cons rfl (V1.mv ?_)
      apply VO.or (n := 3) rfl rfl rfl rfl rfl rfl lt0 (.none rfl)
      ·
       intro hg1
       refine VO.step (.some rfl rfl rfl) (V1.mv ?_)
       refine VO.step (.some rfl rfl rfl) (V1.mv ?_)
       refine VO.step (.some rfl rfl rfl) (V1.it ?_)
       exact VO.nil ⟨rfl, rfl, rfl, rfl, .inr ⟨rfl, .inr ⟨rfl, .inr ⟨rfl, .inr ⟨rfl, .inl rfl⟩⟩⟩⟩⟩
      refine VO.cons rfl (V1.mv ?_)
      apply VO.or (n := 3) rfl rfl rfl rfl rfl rfl lt0 (.none rfl)
      ·
       intro hg2
       refine VO.step (.some rfl rfl rfl) (V1.mv ?_)
       refine VO.step (.some rfl rfl rfl) (V1.callL (rn + 1) ([ob0] ++ List.map Prod.fst os_312) [.vl (rn + 1) 5 (List.map (encCarton (rn + 1)) y2.1)] rfl rfl rfl cok_45 rfl ⟨_, _, rfl, Lend.deep (m := 1) (inn := (fun c_ : Carton => List.map encInt c_.Files)) (cell := cellCarton) cokCarton (ts := ts_312) (os := os_312) (xs := y2.1) 0 hd_312 rfl (fun _ => roL_map (fun _ => rfl) _) rfl (fun p hp => memTail (A := [(ob0, ⟨5, deepC cellCarton ts_312 y2.1⟩)]) (T := os_312) hp rfl) (List.mem_append_left _ (.head _)) (fun p hp => List.mem_append_right _ (List.mem_map.2 ⟨p, hp, rfl⟩)), rfl⟩ (bwTail (A := [(ob0, ⟨5, deepC cellCarton ts_312 y2.1⟩)]) (T := os_312) rfl (bwCons (k := 0) rfl bwNil) (fun p hp => hp)) (ok_impl_AreCartons (cond_f hg2 hh6)) rfl (⟨(by first | omega | (dsimp only; omega)), by rintro _ _ ⟨rfl, rfl⟩; exact ⟨rfl, by simp⟩⟩) lt0 ?_)
       rintro _ _ ⟨rfl, rfl⟩
       refine VO.step (.some rfl rfl rfl) (V1.not rfl rfl rfl lt0 ?_)
       exact VO.nil ⟨rfl, rfl, rfl, rfl, .inr ⟨rfl, .inr ⟨rfl, .inr ⟨rfl, .inr ⟨rfl, .inl rfl⟩⟩⟩⟩⟩
      refine VO.nil (V.keepT 275 [0, 98] [] (E0 := [(0, .vl ρ0 1 (List.map encU8 code)), (98, .bool (((!y5.2.2.2) || (y5.1 != y1.2.2)) || (!y6)))]) (A := [(ob0, ⟨5, deepC cellCarton ts_312 y2.1⟩)]) (T := os_312) (H0 := []) (T' := []) rfl (⟨_, _, rfl, rfl, _, _, rfl, rfl, rfl⟩) rfl (rfl) rfl (List.nil_sublist _) ?_)
      refine V.cond rfl (fun hc3 => ?_) (fun hc3 => ?_)
      ·
       replace hm1 := cond_t hc3 hm1
       refine V.seq (V.region (VO.cons rfl (V1.as ?_)))
       refine VO.nil (V.ret ?_)
       obtain rfl := oi hm1
       change some _ = some _ at hm0
       obtain rfl := oi hm0
       exact ⟨_, [], ⟨_, _, rfl, rfl, rfl⟩, List.nil_sublist _, rfl, rfl⟩
      ·
       replace hm1 := cond_f hc3 hm1
       refine V.skip ?_
       exact ⟨((), ()), oi hm1, Keeps.mk (ks := []) rfl ⟨rfl, trivial⟩ (rfl) rfl⟩
     ·
      replace hm1 := cond_f hc2 hm1
      refine V.skip ?_
      exact ⟨((), ()), oi hm1, Keeps.mkT (A := [(ob0, ⟨5, deepC cellCarton ts_312 y2.1⟩)]) (T := os_312) (T' := []) (H := []) (ks := []) rfl (by exact ⟨rfl, trivial⟩) rfl (by exact (rfl)) rfl (List.nil_sublist _)⟩
    ·
     rintro ⟨_, _⟩ rfl
     try dsimp only at hm0
     refine V.seq ?_
     replace hm0 := bindO hm0; rcases hm0 with ⟨y7, hh7, hm0⟩
     refine V.region (VO.cons rfl (V1.mv ?_))
     refine VO.cons rfl (V1.call rfl rfl rfl cok_46 rfl (ok_spec_DrawMoveCarton hh7) rfl lt0 ?_)
     rintro _ _ ⟨b2, rfl, rfl⟩
     refine VO.cons rfl (V1.mv ?_)
     refine VO.cons rfl (V1.extract rfl rfl rfl rfl lt0 ?_)
     refine VO.weakenK (Keeps.freezeG 0 rn [(102, .vl rn 5 (List.map (encCarton rn) y7.1))] ([]) (f := (encCarton rn)) (l := y7.1) rfl (fun _ => rfl) ⟨⟨_, rfl, .here⟩, trivial⟩ rfl rfl iNil) ?_
     refine VO.cons rfl (V1.extract rfl rfl rfl rfl lt0 ?_)
     refine VO.cons rfl (V1.extract rfl rfl rfl rfl lt0 ?_)
     refine VO.cons rfl (V1.extract rfl rfl rfl rfl lt0 ?_)
     refine VO.cons rfl (V1.as ?_)
     refine VO.cons rfl (V1.as ?_)
     refine VO.cons rfl (V1.as ?_)
     refine VO.cons rfl (V1.as ?_)
     refine VO.nil (V.keep 275 [0, 14, 15, 16, 17] [] (E0 := [(0, .vl ρ0 1 (List.map encU8 code)), (14, .vl rn 5 (List.map (encCarton rn) y7.1)), (15, .int .i64 y7.2.1), (16, .int .i64 y7.2.2.1), (17, .int .i64 y7.2.2.2)]) (H0 := []) rfl (⟨_, _, rfl, rfl, _, _, rfl, rfl, _, _, rfl, rfl, _, _, rfl, rfl, _, _, rfl, rfl, rfl⟩) (rfl) rfl ?_)
     refine V.seq ?_
     replace hm0 := bindO hm0; rcases hm0 with ⟨y8, hh8, hm0⟩
     refine V.region (VO.cons rfl (V1.mv ?_))
     refine VO.cons rfl (V1.mv ?_)
     refine VO.cons rfl (V1.mv ?_)
     refine VO.cons rfl (V1.mv ?_)
     refine VO.cons rfl (V1.permK (V1.call rfl rfl rfl cok_32 rfl (ok_impl_MoveCarton hh8) rfl lt0 ?_))
     rintro _ _ ⟨ob1, ts_534, os_534, hob1, hd_534, rfl, rfl⟩
     refine ⟨_, ?_, Keeps.perm (optH 5 ob1 (deepC cellCarton ts_534 y8.1) ++ (([] : List (Nat × Obj')) ++ os_534)) (permDeepO1 (o := optH 5 ob1 (deepC cellCarton ts_534 y8.1)) (os := os_534) (A := []))⟩
     refine VO.cons rfl (V1.mv ?_)
     refine VO.cons rfl (V1.extract rfl rfl rfl rfl lt0 ?_)
     refine VO.cons rfl (V1.extract rfl rfl rfl rfl lt0 ?_)
     refine VO.cons rfl (V1.as ?_)
     refine VO.cons rfl (V1.as ?_)
     refine VO.nil ?_
     rcases ob1 with _ | ob1
     ·
      obtain ⟨rfl, rfl⟩ := Deep.nil (hob1 rfl) hd_534
      refine V.keep 275 [0, 14, 15, 16, 17, 18, 19] [] (E0 := [(0, .vl ρ0 1 (List.map encU8 code)), (14, .vl rn 5 (List.map (encCarton rn) y7.1)), (15, .int .i64 y7.2.1), (16, .int .i64 y7.2.2.1), (17, .int .i64 y7.2.2.2), (18, .nils), (19, .bool y8.2)]) (H0 := []) rfl (⟨_, _, rfl, rfl, _, _, rfl, rfl, _, _, rfl, rfl, _, _, rfl, rfl, _, _, rfl, rfl, _, _, rfl, rfl, _, _, rfl, rfl, rfl⟩) (rfl) rfl ?_
      refine V.seq (V.seq ?_)
      replace hm0 := bindO hm0; rcases hm0 with ⟨y9, hh9, hm0⟩
      refine V.region (VO.cons rfl (V1.mv ?_))
      refine VO.cons rfl (V1.mv ?_)
      refine VO.cons rfl (V1.mv ?_)
      refine VO.cons rfl (V1.mv ?_)
      refine VO.cons rfl (V1.call rfl rfl rfl cok_31 rfl (ok_spec_MoveCarton hh9) rfl lt0 ?_)
      rintro _ _ ⟨b3, rfl, rfl⟩
      refine VO.cons rfl (V1.mv ?_)
      refine VO.cons rfl (V1.extract rfl rfl rfl rfl lt0 ?_)
      refine VO.weakenK (Keeps.freezeG 0 rn [(120, .vl rn 5 (List.map (encCarton rn) y9.1))] ([]) (f := (encCarton rn)) (l := y9.1) rfl (fun _ => rfl) ⟨⟨_, rfl, .here⟩, trivial⟩ rfl rfl iNil) ?_
      refine VO.cons rfl (V1.extract rfl rfl rfl rfl lt0 ?_)
      refine VO.cons rfl (V1.as ?_)
      refine VO.cons rfl (V1.as ?_)
      refine VO.nil (V.keep 275 [0, 16, 17, 18, 19, 20, 21] [] (E0 := [(0, .vl ρ0 1 (List.map encU8 code)), (16, .int .i64 y7.2.2.1), (17, .int .i64 y7.2.2.2), (18, .nils), (19, .bool y8.2), (20, .vl rn 5 (List.map (encCarton rn) y9.1)), (21, .bool y9.2)]) (H0 := []) rfl (⟨_, _, rfl, rfl, _, _, rfl, rfl, _, _, rfl, rfl, _, _, rfl, rfl, _, _, rfl, rfl, _, _, rfl, rfl, _, _, rfl, rfl, rfl⟩) (rfl) rfl ?_)
      refine V.seq ?_
      replace hm0 := bindO hm0; rcases hm0 with ⟨y10, hh10, hm0⟩
      refine V.region (VO.cons rfl (V1.mv ?_))
      refine VO.cons rfl (V1.mv ?_)
      refine VO.cons rfl (V1.boolNeq rfl rfl und_4 rfl rfl lt0 ?_)
      refine VO.cons rfl (V1.mv ?_)
      apply VO.or (n := 4) rfl rfl rfl rfl rfl rfl lt0 (.none rfl)
      ·
       intro hg3
       refine VO.step (.some rfl rfl rfl) (V1.mv ?_)
       refine VO.step (.some rfl rfl rfl) (V1.mv ?_)
       refine VO.weakenK (Keeps.nilsE (l := y8.1) 126 rn 5 (encCarton rn) (hob1 rfl) rfl rfl) ?_
       refine VO.step (.some rfl rfl rfl) (V1.call rfl rfl rfl cok_43 rfl (ok_laws_rCartons (cond_f hg3 hh10)) rfl lt0 ?_)
       rintro _ _ ⟨rfl, rfl⟩
       refine VO.step (.some rfl rfl rfl) (V1.not rfl rfl rfl lt0 ?_)
       exact VO.nil ⟨rfl, rfl, rfl, rfl, .inr ⟨rfl, .inr ⟨rfl, .inr ⟨rfl, .inr ⟨rfl, .inr ⟨rfl, .inr ⟨rfl, .inl rfl⟩⟩⟩⟩⟩⟩⟩
      refine VO.nil (V.keep 275 [0, 16, 17, 18, 19, 130] [] (E0 := [(0, .vl ρ0 1 (List.map encU8 code)), (16, .int .i64 y7.2.2.1), (17, .int .i64 y7.2.2.2), (18, .nils), (19, .bool y8.2), (130, .bool ((!(y8.2 == y9.2)) || (!y10)))]) (H0 := []) rfl (⟨_, _, rfl, rfl, _, _, rfl, rfl, _, _, rfl, rfl, _, _, rfl, rfl, _, _, rfl, rfl, _, _, rfl, rfl, rfl⟩) (rfl) rfl ?_)
      refine V.cond rfl (fun hc4 => ?_) (fun hc4 => ?_)
      ·
       replace hm0 := cond_t hc4 hm0
       refine V.seq (V.region (VO.cons rfl (V1.as ?_)))
       refine VO.nil (V.ret ?_)
       obtain rfl := oi hm0
       exact ⟨_, [], ⟨_, _, rfl, rfl, rfl⟩, List.nil_sublist _, rfl, rfl⟩
      ·
       replace hm0 := cond_f hc4 hm0
       refine V.skip ?_
       refine V.seq ?_
       replace hm0 := bindO hm0; rcases hm0 with ⟨j1, hm1, hm0⟩
       refine V.cutT (D := (Unit) × (Unit)) (fun ⟨_, _⟩ => ⟨275, [(0, .vl ρ0 1 (List.map encU8 code))], []⟩) (fun ⟨_, _⟩ => (.inl () = j1)) ?_ ?_
       ·
        refine V.seq (V.region (VO.cons rfl (V1.mv ?_)))
        refine VO.nil (V.cond rfl (fun hc5 => ?_) (fun hc5 => ?_))
        ·
         replace hm1 := cond_t hc5 hm1
         refine V.seq ?_
         replace hm1 := bindO hm1; rcases hm1 with ⟨y11, hh11, hm1⟩
         refine V.region (VO.cons rfl (V1.mv ?_))
         refine VO.cons rfl (V1.mv ?_)
         refine VO.cons rfl (V1.mv ?_)
         refine VO.weakenK (Keeps.nilsE (l := y8.1) 133 rn 5 (encCarton rn) (hob1 rfl) rfl rfl) ?_
         refine VO.cons rfl (V1.call rfl rfl rfl cok_47 rfl (ok_impl_FreeOn hh11) rfl lt0 ?_)
         rintro _ _ ⟨rfl, rfl⟩
         refine VO.cons rfl (V1.mv ?_)
         refine VO.cons rfl (V1.extract rfl rfl rfl rfl lt0 ?_)
         refine VO.cons rfl (V1.extract rfl rfl rfl rfl lt0 ?_)
         refine VO.cons rfl (V1.as ?_)
         refine VO.cons rfl (V1.as ?_)
         refine VO.nil (V.keep 275 [0, 22, 23] [] (E0 := [(0, .vl ρ0 1 (List.map encU8 code)), (22, .int .i64 y11.1), (23, .bool y11.2)]) (H0 := []) rfl (⟨_, _, rfl, rfl, _, _, rfl, rfl, _, _, rfl, rfl, rfl⟩) (rfl) rfl ?_)
         refine V.seq (V.region (VO.cons rfl (V1.mv ?_)))
         refine VO.cons rfl (V1.not rfl rfl rfl lt0 ?_)
         refine VO.cons rfl (V1.mv ?_)
         apply VO.or (n := 2) rfl rfl rfl rfl rfl rfl lt0 (.none rfl)
         ·
          intro hg4
          refine VO.step (.some rfl rfl rfl) (V1.mv ?_)
          refine VO.step (.some rfl rfl rfl) (V1.it ?_)
          exact VO.nil ⟨rfl, rfl, rfl, rfl, .inr ⟨rfl, .inr ⟨rfl, .inr ⟨rfl, .inl rfl⟩⟩⟩⟩
         refine VO.cons rfl (V1.mv ?_)
         apply VO.or (n := 2) rfl rfl rfl rfl rfl rfl lt0 (.none rfl)
         ·
          intro hg5
          refine VO.step (.some rfl rfl rfl) (V1.mv ?_)
          refine VO.step (.some rfl rfl rfl) (V1.it ?_)
          exact VO.nil ⟨rfl, rfl, rfl, rfl, .inr ⟨rfl, .inr ⟨rfl, .inr ⟨rfl, .inl rfl⟩⟩⟩⟩
         refine VO.nil (V.keep 275 [0, 148] [] (E0 := [(0, .vl ρ0 1 (List.map encU8 code)), (148, .bool (((!y11.2) || (decide (y11.1 < (0 : Int)))) || (decide (y11.1 > (99 : Int)))))]) (H0 := []) rfl (⟨_, _, rfl, rfl, _, _, rfl, rfl, rfl⟩) (rfl) rfl ?_)
         refine V.cond rfl (fun hc6 => ?_) (fun hc6 => ?_)
         ·
          replace hm1 := cond_t hc6 hm1
          refine V.seq (V.region (VO.cons rfl (V1.as ?_)))
          refine VO.nil (V.ret ?_)
          obtain rfl := oi hm1
          change some _ = some _ at hm0
          obtain rfl := oi hm0
          exact ⟨_, [], ⟨_, _, rfl, rfl, rfl⟩, List.nil_sublist _, rfl, rfl⟩
         ·
          replace hm1 := cond_f hc6 hm1
          refine V.skip ?_
          exact ⟨((), ()), oi hm1, Keeps.mk (ks := []) rfl ⟨rfl, trivial⟩ (rfl) rfl⟩
        ·
         replace hm1 := cond_f hc5 hm1
         refine V.skip ?_
         exact ⟨((), ()), oi hm1, Keeps.mk (ks := []) rfl ⟨rfl, trivial⟩ (rfl) rfl⟩
       ·
        rintro ⟨_, _⟩ rfl
        try dsimp only at hm0
        refine V.seq ?_
        replace hm0 := bindO hm0; rcases hm0 with ⟨y12, hh12, hm0⟩
        refine V.region (VO.cons rfl (V1.mv ?_))
        refine VO.cons rfl (V1.call rfl rfl rfl cok_48 rfl (ok_spec_DrawMergeCartons hh12) rfl lt0 ?_)
        rintro _ _ ⟨b4, rfl, rfl⟩
        refine VO.cons rfl (V1.mv ?_)
        refine VO.cons rfl (V1.extract rfl rfl rfl rfl lt0 ?_)
        refine VO.weakenK (Keeps.freezeG 0 rn [(152, .vl rn 5 (List.map (encCarton rn) y12.1))] ([]) (f := (encCarton rn)) (l := y12.1) rfl (fun _ => rfl) ⟨⟨_, rfl, .here⟩, trivial⟩ rfl rfl iNil) ?_
        refine VO.cons rfl (V1.extract rfl rfl rfl rfl lt0 ?_)
        refine VO.cons rfl (V1.extract rfl rfl rfl rfl lt0 ?_)
        refine VO.cons rfl (V1.as ?_)
        refine VO.cons rfl (V1.as ?_)
        refine VO.cons rfl (V1.as ?_)
        refine VO.nil (V.keep 275 [0, 24, 25, 26] [] (E0 := [(0, .vl ρ0 1 (List.map encU8 code)), (24, .vl rn 5 (List.map (encCarton rn) y12.1)), (25, .int .i64 y12.2.1), (26, .int .i64 y12.2.2)]) (H0 := []) rfl (⟨_, _, rfl, rfl, _, _, rfl, rfl, _, _, rfl, rfl, _, _, rfl, rfl, rfl⟩) (rfl) rfl ?_)
        refine V.seq ?_
        replace hm0 := bindO hm0; rcases hm0 with ⟨y13, hh13, hm0⟩
        refine V.region (VO.cons rfl (V1.mv ?_))
        refine VO.cons rfl (V1.mv ?_)
        refine VO.cons rfl (V1.mv ?_)
        refine VO.cons rfl (V1.permK (V1.call rfl rfl rfl cok_38 rfl (ok_impl_MergeCartons hh13) rfl lt0 ?_))
        rintro _ _ ⟨ob2, ts_574, os_574, hob2, hd_574, rfl, rfl⟩
        refine ⟨_, ?_, Keeps.perm (optH 5 ob2 (deepC cellCarton ts_574 y13.1) ++ (([] : List (Nat × Obj')) ++ os_574)) (permDeepO1 (o := optH 5 ob2 (deepC cellCarton ts_574 y13.1)) (os := os_574) (A := []))⟩
        refine VO.cons rfl (V1.mv ?_)
        refine VO.cons rfl (V1.extract rfl rfl rfl rfl lt0 ?_)
        refine VO.cons rfl (V1.extract rfl rfl rfl rfl lt0 ?_)
        refine VO.cons rfl (V1.as ?_)
        refine VO.cons rfl (V1.as ?_)
        refine VO.nil ?_
        rcases ob2 with _ | ob2
        ·
         obtain ⟨rfl, rfl⟩ := Deep.nil (hob2 rfl) hd_574
         refine V.keep 275 [0, 24, 25, 26, 27, 28] [] (E0 := [(0, .vl ρ0 1 (List.map encU8 code)), (24, .vl rn 5 (List.map (encCarton rn) y12.1)), (25, .int .i64 y12.2.1), (26, .int .i64 y12.2.2), (27, .nils), (28, .bool y13.2)]) (H0 := []) rfl (⟨_, _, rfl, rfl, _, _, rfl, rfl, _, _, rfl, rfl, _, _, rfl, rfl, _, _, rfl, rfl, _, _, rfl, rfl, rfl⟩) (rfl) rfl ?_
         refine V.seq (V.seq ?_)
         replace hm0 := bindO hm0; rcases hm0 with ⟨y14, hh14, hm0⟩
         refine V.region (VO.cons rfl (V1.mv ?_))
         refine VO.cons rfl (V1.mv ?_)
         refine VO.cons rfl (V1.mv ?_)
         refine VO.cons rfl (V1.call rfl rfl rfl cok_37 rfl (ok_spec_MergeCartons hh14) rfl lt0 ?_)
         rintro _ _ ⟨b5, rfl, rfl⟩
         refine VO.cons rfl (V1.mv ?_)
         refine VO.cons rfl (V1.extract rfl rfl rfl rfl lt0 ?_)
         refine VO.weakenK (Keeps.freezeG 0 rn [(167, .vl rn 5 (List.map (encCarton rn) y14.1))] ([]) (f := (encCarton rn)) (l := y14.1) rfl (fun _ => rfl) ⟨⟨_, rfl, .here⟩, trivial⟩ rfl rfl iNil) ?_
         refine VO.cons rfl (V1.extract rfl rfl rfl rfl lt0 ?_)
         refine VO.cons rfl (V1.as ?_)
         refine VO.cons rfl (V1.as ?_)
         refine VO.nil (V.keep 275 [0, 24, 25, 26, 27, 28, 29, 30] [] (E0 := [(0, .vl ρ0 1 (List.map encU8 code)), (24, .vl rn 5 (List.map (encCarton rn) y12.1)), (25, .int .i64 y12.2.1), (26, .int .i64 y12.2.2), (27, .nils), (28, .bool y13.2), (29, .vl rn 5 (List.map (encCarton rn) y14.1)), (30, .bool y14.2)]) (H0 := []) rfl (⟨_, _, rfl, rfl, _, _, rfl, rfl, _, _, rfl, rfl, _, _, rfl, rfl, _, _, rfl, rfl, _, _, rfl, rfl, _, _, rfl, rfl, _, _, rfl, rfl, rfl⟩) (rfl) rfl ?_)
         refine V.seq ?_
         replace hm0 := bindO hm0; rcases hm0 with ⟨y15, hh15, hm0⟩
         refine V.region (VO.cons rfl (V1.mv ?_))
         refine VO.cons rfl (V1.mv ?_)
         refine VO.cons rfl (V1.boolNeq rfl rfl und_4 rfl rfl lt0 ?_)
         refine VO.cons rfl (V1.mv ?_)
         apply VO.or (n := 4) rfl rfl rfl rfl rfl rfl lt0 (.none rfl)
         ·
          intro hg6
          refine VO.step (.some rfl rfl rfl) (V1.mv ?_)
          refine VO.step (.some rfl rfl rfl) (V1.mv ?_)
          refine VO.weakenK (Keeps.nilsE (l := y13.1) 173 rn 5 (encCarton rn) (hob2 rfl) rfl rfl) ?_
          refine VO.step (.some rfl rfl rfl) (V1.call rfl rfl rfl cok_43 rfl (ok_laws_rCartons (cond_f hg6 hh15)) rfl lt0 ?_)
          rintro _ _ ⟨rfl, rfl⟩
          refine VO.step (.some rfl rfl rfl) (V1.not rfl rfl rfl lt0 ?_)
          exact VO.nil ⟨rfl, rfl, rfl, rfl, .inr ⟨rfl, .inr ⟨rfl, .inr ⟨rfl, .inr ⟨rfl, .inr ⟨rfl, .inr ⟨rfl, .inl rfl⟩⟩⟩⟩⟩⟩⟩
         refine VO.nil (V.keep 275 [0, 24, 25, 26, 27, 28, 177] [] (E0 := [(0, .vl ρ0 1 (List.map encU8 code)), (24, .vl rn 5 (List.map (encCarton rn) y12.1)), (25, .int .i64 y12.2.1), (26, .int .i64 y12.2.2), (27, .nils), (28, .bool y13.2), (177, .bool ((!(y13.2 == y14.2)) || (!y15)))]) (H0 := []) rfl (⟨_, _, rfl, rfl, _, _, rfl, rfl, _, _, rfl, rfl, _, _, rfl, rfl, _, _, rfl, rfl, _, _, rfl, rfl, _, _, rfl, rfl, rfl⟩) (rfl) rfl ?_)
         refine V.cond rfl (fun hc7 => ?_) (fun hc7 => ?_)
         ·
          replace hm0 := cond_t hc7 hm0
          refine V.seq (V.region (VO.cons rfl (V1.as ?_)))
          refine VO.nil (V.ret ?_)
          obtain rfl := oi hm0
          exact ⟨_, [], ⟨_, _, rfl, rfl, rfl⟩, List.nil_sublist _, rfl, rfl⟩
         ·
          replace hm0 := cond_f hc7 hm0
          refine V.skip ?_
          refine V.seq (V.seq (V.region (VO.cons rfl (V1.as ?_))))
          refine VO.nil ?_
          replace hm0 := bindO hm0; rcases hm0 with ⟨e0, he1, hm0⟩
          refine V.cutT (D := (Unit) × (Unit)) (fun ⟨_, _⟩ => ⟨275, [(0, .vl ρ0 1 (List.map encU8 code))], []⟩) (fun ⟨_, _⟩ => (.inl () = e0)) ?_ ?_
          ·
           refine V.block ?_
           refine V.keep 275 [31, 0, 24, 25, 26, 27, 28] [] (E0 := [(31, .int .i64 (0 : Int)), (0, .vl ρ0 1 (List.map encU8 code)), (24, .vl rn 5 (List.map (encCarton rn) y12.1)), (25, .int .i64 y12.2.1), (26, .int .i64 y12.2.2), (27, .nils), (28, .bool y13.2)]) (H0 := []) rfl (⟨_, _, rfl, rfl, _, _, rfl, rfl, _, _, rfl, rfl, _, _, rfl, rfl, _, _, rfl, rfl, _, _, rfl, rfl, _, _, rfl, rfl, rfl⟩) (rfl) rfl ?_
           refine V.loopE (D := Nat × (Int) × (Unit)) (fun ⟨n0, i, _⟩ => [(31, .int .i64 i)]) (fun ⟨n0, i, _⟩ => []) (fun ⟨n0, i, _⟩ => loopO (M.laws_FnCartons_l0 y12 y13) n0 i = some e0) (fun ⟨n0, _, _⟩ => n0) (rounds, (0 : Int), ()) rfl he1 ?_
           rintro ⟨n0, i, _⟩ hP0
           obtain ⟨m0, y16, rfl, hm1, hl1, hr1⟩ := loop_head hP0
           unfold M.laws_FnCartons_l0 at hm1; dsimp only at hm1
           show V _ _ _ ⟨275, [(31, .int .i64 i), (0, .vl ρ0 1 (List.map encU8 code)), (24, .vl rn 5 (List.map (encCarton rn) y12.1)), (25, .int .i64 y12.2.1), (26, .int .i64 y12.2.2), (27, .nils), (28, .bool y13.2)], []⟩
           refine V.seq (V.seq (V.region (VO.cons rfl (V1.mv ?_))))
           refine VO.cons rfl (V1.mv ?_)
           refine VO.cons rfl (V1.lenMap rfl rfl rfl rfl rfl rfl isl_39 lt0 ?_)
           refine VO.cons rfl (V1.it ?_)
           refine VO.cons rfl (V1.mv ?_)
           apply VO.and (n := 1) rfl rfl rfl rfl rfl rfl lt0 (.none rfl)
           ·
            intro hg7
            refine VO.step (.some rfl rfl rfl) (V1.mv ?_)
            exact VO.nil ⟨rfl, rfl, rfl, rfl, .inr ⟨rfl, .inr ⟨rfl, .inl rfl⟩⟩⟩
           refine VO.nil (V.keep 275 [0, 24, 25, 26, 27, 28, 31, 184] [] (E0 := [(0, .vl ρ0 1 (List.map encU8 code)), (24, .vl rn 5 (List.map (encCarton rn) y12.1)), (25, .int .i64 y12.2.1), (26, .int .i64 y12.2.2), (27, .nils), (28, .bool y13.2), (31, .int .i64 i), (184, .bool ((decide (i < (y12.1.length : Int))) && y13.2))]) (H0 := []) rfl (⟨_, _, rfl, rfl, _, _, rfl, rfl, _, _, rfl, rfl, _, _, rfl, rfl, _, _, rfl, rfl, _, _, rfl, rfl, _, _, rfl, rfl, _, _, rfl, rfl, rfl⟩) (rfl) rfl ?_)
           refine V.cond rfl (fun hc8 => ?_) (fun hc8 => ?_)
           ·
            replace hm1 := cond_t hc8 hm1
            refine V.skip ?_
            refine V.seq (V.block ?_)
            refine V.seq (V.region (VO.cons rfl (V1.as ?_)))
            refine VO.nil ?_
            replace hm1 := bindO hm1; rcases hm1 with ⟨e1, he2, hm1⟩
            refine V.cutT (D := (Unit) × (Unit)) (fun ⟨_, _⟩ => ⟨275, [(0, .vl ρ0 1 (List.map encU8 code)), (24, .vl rn 5 (List.map (encCarton rn) y12.1)), (25, .int .i64 y12.2.1), (26, .int .i64 y12.2.2), (27, .nils), (28, .bool y13.2), (31, .int .i64 i)], []⟩) (fun ⟨_, _⟩ => (.inl () = e1)) ?_ ?_
            ·
             refine V.block ?_
             refine V.keep 275 [32, 0, 24, 25, 26, 27, 28, 31] [] (E0 := [(32, .int .i64 (0 : Int)), (0, .vl ρ0 1 (List.map encU8 code)), (24, .vl rn 5 (List.map (encCarton rn) y12.1)), (25, .int .i64 y12.2.1), (26, .int .i64 y12.2.2), (27, .nils), (28, .bool y13.2), (31, .int .i64 i)]) (H0 := []) rfl (⟨_, _, rfl, rfl, _, _, rfl, rfl, _, _, rfl, rfl, _, _, rfl, rfl, _, _, rfl, rfl, _, _, rfl, rfl, _, _, rfl, rfl, _, _, rfl, rfl, rfl⟩) (rfl) rfl ?_
             refine V.loopE (D := Nat × (Int) × (Unit)) (fun ⟨n1, k, _⟩ => [(32, .int .i64 k)]) (fun ⟨n1, k, _⟩ => []) (fun ⟨n1, k, _⟩ => loopO (M.laws_FnCartons_l1 y12 y13 i) n1 k = some e1) (fun ⟨n1, _, _⟩ => n1) (rounds, (0 : Int), ()) rfl he2 ?_
             rintro ⟨n1, k, _⟩ hP1
             obtain ⟨m1, y17, rfl, hm2, hl2, hr2⟩ := loop_head hP1
             unfold M.laws_FnCartons_l1 at hm2; dsimp only at hm2
             show V _ _ _ ⟨275, [(32, .int .i64 k), (0, .vl ρ0 1 (List.map encU8 code)), (24, .vl rn 5 (List.map (encCarton rn) y12.1)), (25, .int .i64 y12.2.1), (26, .int .i64 y12.2.2), (27, .nils), (28, .bool y13.2), (31, .int .i64 i)], []⟩
             refine V.seq (V.seq ?_)
             replace hm2 := asrt_some hm2; rcases hm2 with ⟨hh16, hm2⟩
             refine V.region (VO.cons rfl (V1.mv ?_))
             refine VO.cons rfl (V1.mv ?_)
             refine VO.cons rfl (V1.mv ?_)
             refine VO.cons rfl (V1.indexI rfl rfl esz_39 rfl rfl hh16 lt0 ?_)
             refine VO.cons rfl (V1.fieldPin rfl rfl fo_67_3 rfl lt0 ?_)
             refine VO.cons rfl (V1.loadPin rfl rfl tyk_36 rfl rfl lt0 ?_)
             refine VO.cons rfl (V1.lenMap rfl rfl rfl rfl rfl rfl isl_36 lt0 ?_)
             refine VO.cons rfl (V1.it ?_)
             refine VO.nil (V.keep 275 [0, 24, 25, 26, 27, 28, 31, 32, 194] [] (E0 := [(0, .vl ρ0 1 (List.map encU8 code)), (24, .vl rn 5 (List.map (encCarton rn) y12.1)), (25, .int .i64 y12.2.1), (26, .int .i64 y12.2.2), (27, .nils), (28, .bool y13.2), (31, .int .i64 i), (32, .int .i64 k), (194, .bool (decide (k < (((y12.1.getD (Int.toNat i) default).Files).length : Int))))]) (H0 := []) rfl (⟨_, _, rfl, rfl, _, _, rfl, rfl, _, _, rfl, rfl, _, _, rfl, rfl, _, _, rfl, rfl, _, _, rfl, rfl, _, _, rfl, rfl, _, _, rfl, rfl, _, _, rfl, rfl, rfl⟩) (rfl) rfl ?_)
             refine V.cond rfl (fun hc9 => ?_) (fun hc9 => ?_)
             ·
              replace hm2 := cond_t hc9 hm2
              refine V.skip ?_
              refine V.seq (V.block ?_)
              refine V.seq ?_
              replace hm2 := asrt_some hm2; rcases hm2 with ⟨hh17, hm2⟩
              replace hm2 := asrt_some hm2; rcases hm2 with ⟨hh18, hm2⟩
              replace hm2 := bindO hm2; rcases hm2 with ⟨y18, hh19, hm2⟩
              refine V.region (VO.cons rfl (V1.mv ?_))
              refine VO.cons rfl (V1.mv ?_)
              refine VO.cons rfl (V1.mv ?_)
              refine VO.cons rfl (V1.indexI rfl rfl esz_39 rfl rfl hh17 lt0 ?_)
              refine VO.cons rfl (V1.fieldPin rfl rfl fo_67_3 rfl lt0 ?_)
              refine VO.cons rfl (V1.loadPin rfl rfl tyk_36 rfl rfl lt0 ?_)
              refine VO.cons rfl (V1.mv ?_)
              refine VO.cons rfl (V1.indexI rfl rfl esz_36 rfl rfl hh18 lt0 ?_)
              refine VO.cons rfl (V1.loadPin rfl rfl tyk_3 rfl rfl lt0 ?_)
              refine VO.weakenK (Keeps.nilsE (l := y13.1) 198 rn 5 (encCarton rn) (hob2 rfl) rfl rfl) ?_
              refine VO.cons rfl (V1.call rfl rfl rfl cok_44 rfl (ok_impl_FindFile hh19) rfl lt0 ?_)
              rintro _ _ ⟨rfl, rfl⟩
              refine VO.cons rfl (V1.mv ?_)
              refine VO.cons rfl (V1.extract rfl rfl rfl rfl lt0 ?_)
              refine VO.cons rfl (V1.extract rfl rfl rfl rfl lt0 ?_)
              refine VO.cons rfl (V1.extract rfl rfl rfl rfl lt0 ?_)
              refine VO.cons rfl (V1.extract rfl rfl rfl rfl lt0 ?_)
              refine VO.cons rfl (V1.as ?_)
              refine VO.cons rfl (V1.as ?_)
              refine VO.cons rfl (V1.as ?_)
              refine VO.cons rfl (V1.as ?_)
              refine VO.nil (V.keep 275 [0, 24, 25, 26, 27, 28, 31, 32, 33, 36] [] (E0 := [(0, .vl ρ0 1 (List.map encU8 code)), (24, .vl rn 5 (List.map (encCarton rn) y12.1)), (25, .int .i64 y12.2.1), (26, .int .i64 y12.2.2), (27, .nils), (28, .bool y13.2), (31, .int .i64 i), (32, .int .i64 k), (33, .int .i64 y18.1), (36, .bool y18.2.2.2)]) (H0 := []) rfl (⟨_, _, rfl, rfl, _, _, rfl, rfl, _, _, rfl, rfl, _, _, rfl, rfl, _, _, rfl, rfl, _, _, rfl, rfl, _, _, rfl, rfl, _, _, rfl, rfl, _, _, rfl, rfl, _, _, rfl, rfl, rfl⟩) (rfl) rfl ?_)
              refine V.seq ?_
              replace hm2 := asrt_some hm2; rcases hm2 with ⟨hh20, hm2⟩
              replace hm2 := asrt_some hm2; rcases hm2 with ⟨hh21, hm2⟩
              refine V.region (VO.cons rfl (V1.mv ?_))
              refine VO.cons rfl (V1.not rfl rfl rfl lt0 ?_)
              refine VO.cons rfl (V1.mv ?_)
              apply VO.or (n := 20) rfl rfl rfl rfl rfl rfl lt0 (.none rfl)
              ·
               intro hg8
               refine VO.step (.some rfl rfl rfl) (V1.mv ?_)
               refine VO.step (.some rfl rfl rfl) (V1.mv ?_)
               refine VO.step (.some rfl rfl rfl) (V1.indexI rfl rfl esz_39 rfl rfl (hh20 hg8) lt0 ?_)
               refine VO.step (.some rfl rfl rfl) (V1.fieldPin rfl rfl fo_67_0 rfl lt0 ?_)
               refine VO.step (.some rfl rfl rfl) (V1.loadPin rfl rfl tyk_3 rfl rfl lt0 ?_)
               refine VO.step (.some rfl rfl rfl) (V1.mv ?_)
               refine VO.step (.some rfl rfl rfl) (V1.it ?_)
               refine VO.step (.some rfl rfl rfl) (V1.mv ?_)
               apply VO.or (n := 7) rfl rfl rfl rfl rfl rfl lt0 (.some rfl rfl rfl)
               ·
                intro hg9
                refine VO.step (.some rfl rfl rfl) (V1.mv ?_)
                refine VO.step (.some rfl rfl rfl) (V1.mv ?_)
                refine VO.step (.some rfl rfl rfl) (V1.indexI rfl rfl esz_39 rfl rfl (hh21 hg8 hg9) lt0 ?_)
                refine VO.step (.some rfl rfl rfl) (V1.fieldPin rfl rfl fo_67_0 rfl lt0 ?_)
                refine VO.step (.some rfl rfl rfl) (V1.loadPin rfl rfl tyk_3 rfl rfl lt0 ?_)
                refine VO.step (.some rfl rfl rfl) (V1.mv ?_)
                refine VO.step (.some rfl rfl rfl) (V1.it ?_)
                exact VO.nil ⟨rfl, rfl, rfl, rfl, .inr ⟨rfl, .inr ⟨rfl, .inr ⟨rfl, .inr ⟨rfl, .inr ⟨rfl, .inr ⟨rfl, .inr ⟨rfl, .inr ⟨rfl, .inl rfl⟩⟩⟩⟩⟩⟩⟩⟩⟩
               refine VO.step (.some rfl rfl rfl) (V1.mv ?_)
               refine VO.step (.some rfl rfl rfl) (V1.mv ?_)
               refine VO.step (.some rfl rfl rfl) (V1.it ?_)
               refine VO.step (.some rfl rfl rfl) (V1.boolNeq rfl rfl und_4 rfl rfl lt0 ?_)
               exact VO.nil ⟨rfl, rfl, rfl, rfl, .inr ⟨rfl, .inr ⟨rfl, .inr ⟨rfl, .inr ⟨rfl, .inr ⟨rfl, .inr ⟨rfl, .inr ⟨rfl, .inr ⟨rfl, .inr ⟨rfl, .inr ⟨rfl, .inr ⟨rfl, .inr ⟨rfl, .inr ⟨rfl, .inr ⟨rfl, .inl rfl⟩⟩⟩⟩⟩⟩⟩⟩⟩⟩⟩⟩⟩⟩⟩
              refine VO.nil (V.keep 275 [0, 24, 25, 26, 27, 28, 31, 32, 235] [] (E0 := [(0, .vl ρ0 1 (List.map encU8 code)), (24, .vl rn 5 (List.map (encCarton rn) y12.1)), (25, .int .i64 y12.2.1), (26, .int .i64 y12.2.2), (27, .nils), (28, .bool y13.2), (31, .int .i64 i), (32, .int .i64 k), (235, .bool ((!y18.2.2.2) || (!(((((y12.1.getD (Int.toNat i) default).Id) == y12.2.1) || (((y12.1.getD (Int.toNat i) default).Id) == y12.2.2)) == (y18.1 == y12.2.1)))))]) (H0 := []) rfl (⟨_, _, rfl, rfl, _, _, rfl, rfl, _, _, rfl, rfl, _, _, rfl, rfl, _, _, rfl, rfl, _, _, rfl, rfl, _, _, rfl, rfl, _, _, rfl, rfl, _, _, rfl, rfl, rfl⟩) (rfl) rfl ?_)
              refine V.cond rfl (fun hc10 => ?_) (fun hc10 => ?_)
              ·
               replace hm2 := cond_t hc10 hm2
               refine V.seq (V.region (VO.cons rfl (V1.as ?_)))
               refine VO.nil (V.ret ?_)
               obtain rfl := hr2 _ (oi hm2).symm
               change some _ = some _ at hm1
               obtain rfl := hr1 _ (oi hm1).symm
               change some _ = some _ at hm0
               obtain rfl := oi hm0
               exact ⟨_, [], ⟨_, _, rfl, rfl, rfl⟩, List.nil_sublist _, rfl, rfl⟩
              ·
               replace hm2 := cond_f hc10 hm2
               refine V.skip ?_
               refine V.region (VO.cons rfl (V1.mv ?_))
               refine VO.cons rfl (V1.it ?_)
               refine VO.cons rfl (V1.as ?_)
               refine VO.nil ?_
               exact ⟨(m1, (IntKind.i64.wrap (k + (1 : Int))), ()), hl2 _ (oi hm2).symm, Nat.lt_succ_self _, Keeps.mk (ks := []) rfl ⟨rfl, rfl, rfl, rfl, rfl, rfl, rfl, rfl, trivial⟩ (rfl) rfl⟩
             ·
              replace hm2 := cond_f hc9 hm2
              refine V.exit ?_
              obtain rfl := hr2 _ (oi hm2).symm
              exact ⟨((), ()), rfl, Keeps.mk (ks := []) rfl ⟨rfl, rfl, rfl, rfl, rfl, rfl, rfl, trivial⟩ (rfl) rfl⟩
            ·
             rintro ⟨_, _⟩ rfl
             try dsimp only at hm1
             refine V.region (VO.cons rfl (V1.mv ?_))
             refine VO.cons rfl (V1.it ?_)
             refine VO.cons rfl (V1.as ?_)
             refine VO.nil ?_
             exact ⟨(m0, (IntKind.i64.wrap (i + (1 : Int))), ()), hl1 _ (oi hm1).symm, Nat.lt_succ_self _, Keeps.mk (ks := []) rfl ⟨rfl, rfl, rfl, rfl, rfl, rfl, rfl, trivial⟩ (rfl) rfl⟩
           ·
            replace hm1 := cond_f hc8 hm1
            refine V.exit ?_
            obtain rfl := hr1 _ (oi hm1).symm
            exact ⟨((), ()), rfl, Keeps.mk (ks := []) rfl ⟨rfl, trivial⟩ (rfl) rfl⟩
          ·
           rintro ⟨_, _⟩ rfl
           try dsimp only at hm0
           refine V.seq ?_
           replace hm0 := bindO hm0; rcases hm0 with ⟨y19, hh22, hm0⟩
           refine V.region (VO.cons rfl (V1.mv ?_))
           refine VO.cons rfl (V1.call rfl rfl rfl cok_49 rfl (ok_spec_DrawFindFile hh22) rfl lt0 ?_)
           rintro _ _ ⟨b6, rfl, rfl⟩
           refine VO.cons rfl (V1.mv ?_)
           refine VO.cons rfl (V1.extract rfl rfl rfl rfl lt0 ?_)
           refine VO.weakenK (Keeps.freezeG 0 rn [(239, .vl rn 5 (List.map (encCarton rn) y19.1))] ([]) (f := (encCarton rn)) (l := y19.1) rfl (fun _ => rfl) ⟨⟨_, rfl, .here⟩, trivial⟩ rfl rfl iNil) ?_
           refine VO.cons rfl (V1.extract rfl rfl rfl rfl lt0 ?_)
           refine VO.cons rfl (V1.as ?_)
           refine VO.cons rfl (V1.as ?_)
           refine VO.nil (V.keep 275 [37, 38] [] (E0 := [(37, .vl rn 5 (List.map (encCarton rn) y19.1)), (38, .int .i64 y19.2)]) (H0 := []) rfl (⟨_, _, rfl, rfl, _, _, rfl, rfl, rfl⟩) (rfl) rfl ?_)
           refine V.seq ?_
           replace hm0 := bindO hm0; rcases hm0 with ⟨y20, hh23, hm0⟩
           refine V.region (VO.cons rfl (V1.mv ?_))
           refine VO.cons rfl (V1.mv ?_)
           refine VO.cons rfl (V1.call rfl rfl rfl cok_44 rfl (ok_impl_FindFile hh23) rfl lt0 ?_)
           rintro _ _ ⟨rfl, rfl⟩
           refine VO.cons rfl (V1.mv ?_)
           refine VO.cons rfl (V1.extract rfl rfl rfl rfl lt0 ?_)
           refine VO.cons rfl (V1.extract rfl rfl rfl rfl lt0 ?_)
           refine VO.cons rfl (V1.extract rfl rfl rfl rfl lt0 ?_)
           refine VO.cons rfl (V1.extract rfl rfl rfl rfl lt0 ?_)
           refine VO.cons rfl (V1.as ?_)
           refine VO.cons rfl (V1.as ?_)
           refine VO.cons rfl (V1.as ?_)
           refine VO.cons rfl (V1.as ?_)
           refine VO.nil (V.keep 275 [37, 38, 39, 40, 41, 42] [] (E0 := [(37, .vl rn 5 (List.map (encCarton rn) y19.1)), (38, .int .i64 y19.2), (39, .int .i64 y20.1), (40, .int .i64 y20.2.1), (41, .int .i64 y20.2.2.1), (42, .bool y20.2.2.2)]) (H0 := []) rfl (⟨_, _, rfl, rfl, _, _, rfl, rfl, _, _, rfl, rfl, _, _, rfl, rfl, _, _, rfl, rfl, _, _, rfl, rfl, rfl⟩) (rfl) rfl ?_)
           refine V.seq ?_
           replace hm0 := bindO hm0; rcases hm0 with ⟨y21, hh24, hm0⟩
           refine V.region (VO.cons rfl (V1.mv ?_))
           refine VO.cons rfl (V1.mv ?_)
           refine VO.cons rfl (V1.call rfl rfl rfl cok_50 rfl (ok_spec_FindFile hh24) rfl lt0 ?_)
           rintro _ _ ⟨rfl, rfl⟩
           refine VO.cons rfl (V1.mv ?_)
           refine VO.cons rfl (V1.extract rfl rfl rfl rfl lt0 ?_)
           refine VO.cons rfl (V1.extract rfl rfl rfl rfl lt0 ?_)
           refine VO.cons rfl (V1.extract rfl rfl rfl rfl lt0 ?_)
           refine VO.cons rfl (V1.extract rfl rfl rfl rfl lt0 ?_)
           refine VO.cons rfl (V1.as ?_)
           refine VO.cons rfl (V1.as ?_)
           refine VO.cons rfl (V1.as ?_)
           refine VO.cons rfl (V1.as ?_)
           refine VO.nil (V.keep 275 [39, 40, 41, 42, 43, 44, 45, 46] [] (E0 := [(39, .int .i64 y20.1), (40, .int .i64 y20.2.1), (41, .int .i64 y20.2.2.1), (42, .bool y20.2.2.2), (43, .int .i64 y21.1), (44, .int .i64 y21.2.1), (45, .int .i64 y21.2.2.1), (46, .bool y21.2.2.2)]) (H0 := []) rfl (⟨_, _, rfl, rfl, _, _, rfl, rfl, _, _, rfl, rfl, _, _, rfl, rfl, _, _, rfl, rfl, _, _, rfl, rfl, _, _, rfl, rfl, _, _, rfl, rfl, rfl⟩) (rfl) rfl ?_)
           refine V.seq (V.region (VO.cons rfl (V1.mv ?_)))
           refine VO.cons rfl (V1.mv ?_)
           refine VO.cons rfl (V1.it ?_)
           refine VO.cons rfl (V1.mv ?_)
           apply VO.and (n := 3) rfl rfl rfl rfl rfl rfl lt0 (.none rfl)
           ·
            intro hg10
            refine VO.step (.some rfl rfl rfl) (V1.mv ?_)
            refine VO.step (.some rfl rfl rfl) (V1.mv ?_)
            refine VO.step (.some rfl rfl rfl) (V1.it ?_)
            exact VO.nil ⟨rfl, rfl, rfl, rfl, .inr ⟨rfl, .inr ⟨rfl, .inr ⟨rfl, .inr ⟨rfl, .inl rfl⟩⟩⟩⟩⟩
           refine VO.cons rfl (V1.mv ?_)
           apply VO.and (n := 3) rfl rfl rfl rfl rfl rfl lt0 (.none rfl)
           ·
            intro hg11
            refine VO.step (.some rfl rfl rfl) (V1.mv ?_)
            refine VO.step (.some rfl rfl rfl) (V1.mv ?_)
            refine VO.step (.some rfl rfl rfl) (V1.it ?_)
            exact VO.nil ⟨rfl, rfl, rfl, rfl, .inr ⟨rfl, .inr ⟨rfl, .inr ⟨rfl, .inr ⟨rfl, .inl rfl⟩⟩⟩⟩⟩
           refine VO.cons rfl (V1.mv ?_)
           apply VO.and (n := 3) rfl rfl rfl rfl rfl rfl lt0 (.none rfl)
           ·
            intro hg12
            refine VO.step (.some rfl rfl rfl) (V1.mv ?_)
            refine VO.step (.some rfl rfl rfl) (V1.mv ?_)
            refine VO.step (.some rfl rfl rfl) (V1.boolEql rfl rfl und_4 rfl rfl lt0 ?_)
            exact VO.nil ⟨rfl, rfl, rfl, rfl, .inr ⟨rfl, .inr ⟨rfl, .inr ⟨rfl, .inr ⟨rfl, .inl rfl⟩⟩⟩⟩⟩
           refine VO.cons rfl (V1.as ?_)
           refine VO.nil (V.ret ?_)
           obtain rfl := oi hm0
           exact ⟨_, [], ⟨_, _, rfl, rfl, rfl⟩, List.nil_sublist _, rfl, rfl⟩
        ·
         refine V.keepT 275 [0, 24, 25, 26, 27, 28] [0] (E0 := [(0, .vl ρ0 1 (List.map encU8 code)), (24, .vl rn 5 (List.map (encCarton rn) y12.1)), (25, .int .i64 y12.2.1), (26, .int .i64 y12.2.2), (27, .sref ob2 5 0 (List.length y13.1)), (28, .bool y13.2)]) (A := [(ob2, ⟨5, deepC cellCarton ts_574 y13.1⟩)]) (T := os_574) (H0 := [(ob2, ⟨5, deepC cellCarton ts_574 y13.1⟩)]) (T' := os_574) rfl (⟨_, _, rfl, rfl, _, _, rfl, rfl, _, _, rfl, rfl, _, _, rfl, rfl, _, _, rfl, rfl, _, _, rfl, rfl, rfl⟩) rfl (⟨_, _, rfl, rfl, rfl⟩) rfl (List.Sublist.refl _) ?_
         refine V.seq (V.seq ?_)
         replace hm0 := bindO hm0; rcases hm0 with ⟨y14, hh14, hm0⟩
         refine V.region (VO.cons rfl (V1.mv ?_))
         refine VO.cons rfl (V1.mv ?_)
         refine VO.cons rfl (V1.mv ?_)
         refine VO.cons rfl (V1.call rfl rfl rfl cok_37 rfl (ok_spec_MergeCartons hh14) rfl lt0 ?_)
         rintro _ _ ⟨b5, rfl, rfl⟩
         refine VO.cons rfl (V1.mv ?_)
         refine VO.cons rfl (V1.extract rfl rfl rfl rfl lt0 ?_)
         refine VO.weakenK (Keeps.freezeG 0 rn [(167, .vl rn 5 (List.map (encCarton rn) y14.1))] ((ob2, ⟨5, deepC cellCarton ts_574 y13.1⟩) :: os_574) (f := (encCarton rn)) (l := y14.1) rfl (fun _ => rfl) ⟨⟨_, rfl, .here⟩, trivial⟩ ⟨_, _, rfl, rfl, .inl rfl, FrzH.same⟩ rfl iNil) ?_
         refine VO.cons rfl (V1.extract rfl rfl rfl rfl lt0 ?_)
         refine VO.cons rfl (V1.as ?_)
         refine VO.cons rfl (V1.as ?_)
         refine VO.nil (V.keepT 275 [0, 24, 25, 26, 27, 28, 29, 30] [0] (E0 := [(0, .vl ρ0 1 (List.map encU8 code)), (24, .vl rn 5 (List.map (encCarton rn) y12.1)), (25, .int .i64 y12.2.1), (26, .int .i64 y12.2.2), (27, .sref ob2 5 0 (List.length y13.1)), (28, .bool y13.2), (29, .vl rn 5 (List.map (encCarton rn) y14.1)), (30, .bool y14.2)]) (A := [(ob2, ⟨5, deepC cellCarton ts_574 y13.1⟩)]) (T := os_574) (H0 := [(ob2, ⟨5, deepC cellCarton ts_574 y13.1⟩)]) (T' := os_574) rfl (⟨_, _, rfl, rfl, _, _, rfl, rfl, _, _, rfl, rfl, _, _, rfl, rfl, _, _, rfl, rfl, _, _, rfl, rfl, _, _, rfl, rfl, _, _, rfl, rfl, rfl⟩) rfl (⟨_, _, rfl, rfl, rfl⟩) rfl (List.Sublist.refl _) ?_)
         refine V.seq ?_
         replace hm0 := bindO hm0; rcases hm0 with ⟨y15, hh15, hm0⟩
         refine V.region (VO.cons rfl (V1.mv ?_))
         refine VO.cons rfl (V1.mv ?_)
         refine VO.cons rfl (V1.boolNeq rfl rfl und_4 rfl rfl lt0 ?_)
         refine VO.cons rfl (V1.mv ?_)
         apply VO.or (n := 4) rfl rfl rfl rfl rfl rfl lt0 (.none rfl)
         ·
          intro hg6
          refine VO.step (.some rfl rfl rfl) (V1.mv ?_)
          refine VO.step (.some rfl rfl rfl) (V1.mv ?_)
          refine VO.step (.some rfl rfl rfl) (V1.callL (rn + 1) ([ob2] ++ List.map Prod.fst os_574) [.vl (rn + 1) 5 (List.map (encCarton (rn + 1)) y13.1), .vl rn 5 (List.map (encCarton rn) y14.1)] rfl rfl rfl cok_43 rfl ⟨_, _, rfl, Lend.deep (m := 1) (inn := (fun c_ : Carton => List.map encInt c_.Files)) (cell := cellCarton) cokCarton (ts := ts_574) (os := os_574) (xs := y13.1) 0 hd_574 rfl (fun _ => roL_map (fun _ => rfl) _) rfl (fun p hp => memTail (A := [(ob2, ⟨5, deepC cellCarton ts_574 y13.1⟩)]) (T := os_574) hp rfl) (List.mem_append_left _ (.head _)) (fun p hp => List.mem_append_right _ (List.mem_map.2 ⟨p, hp, rfl⟩)), ⟨_, _, rfl, .same _, rfl⟩⟩ (bwTail (A := [(ob2, ⟨5, deepC cellCarton ts_574 y13.1⟩)]) (T := os_574) rfl (bwCons (k := 0) rfl bwNil) (fun p hp => hp)) (ok_laws_rCartons (cond_f hg6 hh15)) rfl (⟨(by first | omega | (dsimp only; omega)), by rintro _ _ ⟨rfl, rfl⟩; exact ⟨rfl, by simp⟩⟩) lt0 ?_)
          rintro _ _ ⟨rfl, rfl⟩
          refine VO.step (.some rfl rfl rfl) (V1.not rfl rfl rfl lt0 ?_)
          exact VO.nil ⟨rfl, rfl, rfl, rfl, .inr ⟨rfl, .inr ⟨rfl, .inr ⟨rfl, .inr ⟨rfl, .inr ⟨rfl, .inl rfl⟩⟩⟩⟩⟩⟩
         refine VO.nil (V.keepT 275 [0, 24, 25, 26, 27, 28, 177] [0] (E0 := [(0, .vl ρ0 1 (List.map encU8 code)), (24, .vl rn 5 (List.map (encCarton rn) y12.1)), (25, .int .i64 y12.2.1), (26, .int .i64 y12.2.2), (27, .sref ob2 5 0 (List.length y13.1)), (28, .bool y13.2), (177, .bool ((!(y13.2 == y14.2)) || (!y15)))]) (A := [(ob2, ⟨5, deepC cellCarton ts_574 y13.1⟩)]) (T := os_574) (H0 := [(ob2, ⟨5, deepC cellCarton ts_574 y13.1⟩)]) (T' := os_574) rfl (⟨_, _, rfl, rfl, _, _, rfl, rfl, _, _, rfl, rfl, _, _, rfl, rfl, _, _, rfl, rfl, _, _, rfl, rfl, _, _, rfl, rfl, rfl⟩) rfl (⟨_, _, rfl, rfl, rfl⟩) rfl (List.Sublist.refl _) ?_)
         refine V.cond rfl (fun hc7 => ?_) (fun hc7 => ?_)
         ·
          replace hm0 := cond_t hc7 hm0
          refine V.seq (V.region (VO.cons rfl (V1.as ?_)))
          refine VO.nil (V.ret ?_)
          obtain rfl := oi hm0
          exact ⟨_, [], ⟨_, _, rfl, rfl, rfl⟩, List.nil_sublist _, rfl, rfl⟩
         ·
          replace hm0 := cond_f hc7 hm0
          refine V.skip ?_
          refine V.seq (V.seq (V.region (VO.cons rfl (V1.as ?_))))
          refine VO.nil ?_
          replace hm0 := bindO hm0; rcases hm0 with ⟨e0, he1, hm0⟩
          refine V.cutT (D := (Unit) × (Unit)) (fun ⟨_, _⟩ => ⟨275, [(0, .vl ρ0 1 (List.map encU8 code))], []⟩) (fun ⟨_, _⟩ => (.inl () = e0)) ?_ ?_
          ·
           refine V.block ?_
           refine V.keepT 275 [31, 0, 24, 25, 26, 27, 28] [0] (E0 := [(31, .int .i64 (0 : Int)), (0, .vl ρ0 1 (List.map encU8 code)), (24, .vl rn 5 (List.map (encCarton rn) y12.1)), (25, .int .i64 y12.2.1), (26, .int .i64 y12.2.2), (27, .sref ob2 5 0 (List.length y13.1)), (28, .bool y13.2)]) (A := [(ob2, ⟨5, deepC cellCarton ts_574 y13.1⟩)]) (T := os_574) (H0 := [(ob2, ⟨5, deepC cellCarton ts_574 y13.1⟩)]) (T' := os_574) rfl (⟨_, _, rfl, rfl, _, _, rfl, rfl, _, _, rfl, rfl, _, _, rfl, rfl, _, _, rfl, rfl, _, _, rfl, rfl, _, _, rfl, rfl, rfl⟩) rfl (⟨_, _, rfl, rfl, rfl⟩) rfl (List.Sublist.refl _) ?_
           refine V.loopE (D := Nat × (Int) × (Unit)) (fun ⟨n0, i, _⟩ => [(31, .int .i64 i)]) (fun ⟨n0, i, _⟩ => []) (fun ⟨n0, i, _⟩ => loopO (M.laws_FnCartons_l0 y12 y13) n0 i = some e0) (fun ⟨n0, _, _⟩ => n0) (rounds, (0 : Int), ()) rfl he1 ?_
           rintro ⟨n0, i, _⟩ hP0
           obtain ⟨m0, y16, rfl, hm1, hl1, hr1⟩ := loop_head hP0
           unfold M.laws_FnCartons_l0 at hm1; dsimp only at hm1
           show V _ _ _ ⟨275, [(31, .int .i64 i), (0, .vl ρ0 1 (List.map encU8 code)), (24, .vl rn 5 (List.map (encCarton rn) y12.1)), (25, .int .i64 y12.2.1), (26, .int .i64 y12.2.2), (27, .sref ob2 5 0 (List.length y13.1)), (28, .bool y13.2)], (([(ob2, ⟨5, deepC cellCarton ts_574 y13.1⟩)] : List (Nat × Obj')) ++ os_574)⟩
           refine V.seq (V.seq (V.region (VO.cons rfl (V1.mv ?_))))
           refine VO.cons rfl (V1.mv ?_)
           refine VO.cons rfl (V1.lenMap rfl rfl rfl rfl rfl rfl isl_39 lt0 ?_)
           refine VO.cons rfl (V1.it ?_)
           refine VO.cons rfl (V1.mv ?_)
           apply VO.and (n := 1) rfl rfl rfl rfl rfl rfl lt0 (.none rfl)
           ·
            intro hg7
            refine VO.step (.some rfl rfl rfl) (V1.mv ?_)
            exact VO.nil ⟨rfl, rfl, rfl, rfl, .inr ⟨rfl, .inr ⟨rfl, .inl rfl⟩⟩⟩
           refine VO.nil (V.keepT 275 [0, 24, 25, 26, 27, 28, 31, 184] [0] (E0 := [(0, .vl ρ0 1 (List.map encU8 code)), (24, .vl rn 5 (List.map (encCarton rn) y12.1)), (25, .int .i64 y12.2.1), (26, .int .i64 y12.2.2), (27, .sref ob2 5 0 (List.length y13.1)), (28, .bool y13.2), (31, .int .i64 i), (184, .bool ((decide (i < (y12.1.length : Int))) && y13.2))]) (A := [(ob2, ⟨5, deepC cellCarton ts_574 y13.1⟩)]) (T := os_574) (H0 := [(ob2, ⟨5, deepC cellCarton ts_574 y13.1⟩)]) (T' := os_574) rfl (⟨_, _, rfl, rfl, _, _, rfl, rfl, _, _, rfl, rfl, _, _, rfl, rfl, _, _, rfl, rfl, _, _, rfl, rfl, _, _, rfl, rfl, _, _, rfl, rfl, rfl⟩) rfl (⟨_, _, rfl, rfl, rfl⟩) rfl (List.Sublist.refl _) ?_)
           refine V.cond rfl (fun hc8 => ?_) (fun hc8 => ?_)
           ·
            replace hm1 := cond_t hc8 hm1
            refine V.skip ?_
            refine V.seq (V.block ?_)
            refine V.seq (V.region (VO.cons rfl (V1.as ?_)))
            refine VO.nil ?_
            replace hm1 := bindO hm1; rcases hm1 with ⟨e1, he2, hm1⟩
            refine V.cutT (D := (Unit) × (Unit)) (fun ⟨_, _⟩ => ⟨275, [(0, .vl ρ0 1 (List.map encU8 code)), (24, .vl rn 5 (List.map (encCarton rn) y12.1)), (25, .int .i64 y12.2.1), (26, .int .i64 y12.2.2), (27, .sref ob2 5 0 (List.length y13.1)), (28, .bool y13.2), (31, .int .i64 i)], ([(ob2, ⟨5, deepC cellCarton ts_574 y13.1⟩)]) ++ os_574⟩) (fun ⟨_, _⟩ => (.inl () = e1)) ?_ ?_
            ·
             refine V.block ?_
             refine V.keepT 275 [32, 0, 24, 25, 26, 27, 28, 31] [0] (E0 := [(32, .int .i64 (0 : Int)), (0, .vl ρ0 1 (List.map encU8 code)), (24, .vl rn 5 (List.map (encCarton rn) y12.1)), (25, .int .i64 y12.2.1), (26, .int .i64 y12.2.2), (27, .sref ob2 5 0 (List.length y13.1)), (28, .bool y13.2), (31, .int .i64 i)]) (A := [(ob2, ⟨5, deepC cellCarton ts_574 y13.1⟩)]) (T := os_574) (H0 := [(ob2, ⟨5, deepC cellCarton ts_574 y13.1⟩)]) (T' := os_574) rfl (⟨_, _, rfl, rfl, _, _, rfl, rfl, _, _, rfl, rfl, _, _, rfl, rfl, _, _, rfl, rfl, _, _, rfl, rfl, _, _, rfl, rfl, _, _, rfl, rfl, rfl⟩) rfl (⟨_, _, rfl, rfl, rfl⟩) rfl (List.Sublist.refl _) ?_
             refine V.loopE (D := Nat × (Int) × (Unit)) (fun ⟨n1, k, _⟩ => [(32, .int .i64 k)]) (fun ⟨n1, k, _⟩ => []) (fun ⟨n1, k, _⟩ => loopO (M.laws_FnCartons_l1 y12 y13 i) n1 k = some e1) (fun ⟨n1, _, _⟩ => n1) (rounds, (0 : Int), ()) rfl he2 ?_
             rintro ⟨n1, k, _⟩ hP1
             obtain ⟨m1, y17, rfl, hm2, hl2, hr2⟩ := loop_head hP1
             unfold M.laws_FnCartons_l1 at hm2; dsimp only at hm2
             show V _ _ _ ⟨275, [(32, .int .i64 k), (0, .vl ρ0 1 (List.map encU8 code)), (24, .vl rn 5 (List.map (encCarton rn) y12.1)), (25, .int .i64 y12.2.1), (26, .int .i64 y12.2.2), (27, .sref ob2 5 0 (List.length y13.1)), (28, .bool y13.2), (31, .int .i64 i)], (([(ob2, ⟨5, deepC cellCarton ts_574 y13.1⟩)] : List (Nat × Obj')) ++ os_574)⟩
             refine V.seq (V.seq ?_)
             replace hm2 := asrt_some hm2; rcases hm2 with ⟨hh16, hm2⟩
             refine V.region (VO.cons rfl (V1.mv ?_))
             refine VO.cons rfl (V1.mv ?_)
             refine VO.cons rfl (V1.mv ?_)
             refine VO.cons rfl (V1.indexI rfl rfl esz_39 rfl rfl hh16 lt0 ?_)
             refine VO.cons rfl (V1.fieldPin rfl rfl fo_67_3 rfl lt0 ?_)
             refine VO.cons rfl (V1.loadPin rfl rfl tyk_36 rfl rfl lt0 ?_)
             refine VO.cons rfl (V1.lenMap rfl rfl rfl rfl rfl rfl isl_36 lt0 ?_)
             refine VO.cons rfl (V1.it ?_)
             refine VO.nil (V.keepT 275 [0, 24, 25, 26, 27, 28, 31, 32, 194] [0] (E0 := [(0, .vl ρ0 1 (List.map encU8 code)), (24, .vl rn 5 (List.map (encCarton rn) y12.1)), (25, .int .i64 y12.2.1), (26, .int .i64 y12.2.2), (27, .sref ob2 5 0 (List.length y13.1)), (28, .bool y13.2), (31, .int .i64 i), (32, .int .i64 k), (194, .bool (decide (k < (((y12.1.getD (Int.toNat i) default).Files).length : Int))))]) (A := [(ob2, ⟨5, deepC cellCarton ts_574 y13.1⟩)]) (T := os_574) (H0 := [(ob2, ⟨5, deepC cellCarton ts_574 y13.1⟩)]) (T' := os_574) rfl (⟨_, _, rfl, rfl, _, _, rfl, rfl, _, _, rfl, rfl, _, _, rfl, rfl, _, _, rfl, rfl, _, _, rfl, rfl, _, _, rfl, rfl, _, _, rfl, rfl, _, _, rfl, rfl, rfl⟩) rfl (⟨_, _, rfl, rfl, rfl⟩) rfl (List.Sublist.refl _) ?_)
             refine V.cond rfl (fun hc9 => ?_) (fun hc9 => ?_)
             ·
              replace hm2 := cond_t hc9 hm2
              refine V.skip ?_
              refine V.seq (V.block ?_)
              refine V.seq ?_
              replace hm2 := asrt_some hm2; rcases hm2 with ⟨hh17, hm2⟩
              replace hm2 := asrt_some hm2; rcases hm2 with ⟨hh18, hm2⟩
              replace hm2 := bindO hm2; rcases hm2 with ⟨y18, hh19, hm2⟩
              refine V.region (VO.cons rfl (V1.mv ?_))
              refine VO.cons rfl (V1.mv ?_)
              refine VO.cons rfl (V1.mv ?_)
              refine VO.cons rfl (V1.indexI rfl rfl esz_39 rfl rfl hh17 lt0 ?_)
              refine VO.cons rfl (V1.fieldPin rfl rfl fo_67_3 rfl lt0 ?_)
              refine VO.cons rfl (V1.loadPin rfl rfl tyk_36 rfl rfl lt0 ?_)
              refine VO.cons rfl (V1.mv ?_)
              refine VO.cons rfl (V1.indexI rfl rfl esz_36 rfl rfl hh18 lt0 ?_)
              refine VO.cons rfl (V1.loadPin rfl rfl tyk_3 rfl rfl lt0 ?_)
              refine VO.cons rfl (V1.callL (rn + 1) ([ob2] ++ List.map Prod.fst os_574) [.vl (rn + 1) 5 (List.map (encCarton (rn + 1)) y13.1), .int .i64 (((y12.1.getD (Int.toNat i) default).Files).getD (Int.toNat k) default)] rfl rfl rfl cok_44 rfl ⟨_, _, rfl, Lend.deep (m := 1) (inn := (fun c_ : Carton => List.map encInt c_.Files)) (cell := cellCarton) cokCarton (ts := ts_574) (os := os_574) (xs := y13.1) 0 hd_574 rfl (fun _ => roL_map (fun _ => rfl) _) rfl (fun p hp => memTail (A := [(ob2, ⟨5, deepC cellCarton ts_574 y13.1⟩)]) (T := os_574) hp rfl) (List.mem_append_left _ (.head _)) (fun p hp => List.mem_append_right _ (List.mem_map.2 ⟨p, hp, rfl⟩)), ⟨_, _, rfl, .same _, rfl⟩⟩ (bwTail (A := [(ob2, ⟨5, deepC cellCarton ts_574 y13.1⟩)]) (T := os_574) rfl (bwCons (k := 0) rfl bwNil) (fun p hp => hp)) (ok_impl_FindFile hh19) rfl (⟨(by first | omega | (dsimp only; omega)), by rintro _ _ ⟨rfl, rfl⟩; exact ⟨rfl, by simp⟩⟩) lt0 ?_)
              rintro _ _ ⟨rfl, rfl⟩
              refine VO.cons rfl (V1.mv ?_)
              refine VO.cons rfl (V1.extract rfl rfl rfl rfl lt0 ?_)
              refine VO.cons rfl (V1.extract rfl rfl rfl rfl lt0 ?_)
              refine VO.cons rfl (V1.extract rfl rfl rfl rfl lt0 ?_)
              refine VO.cons rfl (V1.extract rfl rfl rfl rfl lt0 ?_)
              refine VO.cons rfl (V1.as ?_)
              refine VO.cons rfl (V1.as ?_)
              refine VO.cons rfl (V1.as ?_)
              refine VO.cons rfl (V1.as ?_)
              refine VO.nil (V.keepT 275 [0, 24, 25, 26, 27, 28, 31, 32, 33, 36] [0] (E0 := [(0, .vl ρ0 1 (List.map encU8 code)), (24, .vl rn 5 (List.map (encCarton rn) y12.1)), (25, .int .i64 y12.2.1), (26, .int .i64 y12.2.2), (27, .sref ob2 5 0 (List.length y13.1)), (28, .bool y13.2), (31, .int .i64 i), (32, .int .i64 k), (33, .int .i64 y18.1), (36, .bool y18.2.2.2)]) (A := [(ob2, ⟨5, deepC cellCarton ts_574 y13.1⟩)]) (T := os_574) (H0 := [(ob2, ⟨5, deepC cellCarton ts_574 y13.1⟩)]) (T' := os_574) rfl (⟨_, _, rfl, rfl, _, _, rfl, rfl, _, _, rfl, rfl, _, _, rfl, rfl, _, _, rfl, rfl, _, _, rfl, rfl, _, _, rfl, rfl, _, _, rfl, rfl, _, _, rfl, rfl, _, _, rfl, rfl, rfl⟩) rfl (⟨_, _, rfl, rfl, rfl⟩) rfl (List.Sublist.refl _) ?_)
              refine V.seq ?_
              replace hm2 := asrt_some hm2; rcases hm2 with ⟨hh20, hm2⟩
              replace hm2 := asrt_some hm2; rcases hm2 with ⟨hh21, hm2⟩
              refine V.region (VO.cons rfl (V1.mv ?_))
              refine VO.cons rfl (V1.not rfl rfl rfl lt0 ?_)
              refine VO.cons rfl (V1.mv ?_)
              apply VO.or (n := 20) rfl rfl rfl rfl rfl rfl lt0 (.none rfl)
              ·
               intro hg8
               refine VO.step (.some rfl rfl rfl) (V1.mv ?_)
               refine VO.step (.some rfl rfl rfl) (V1.mv ?_)
               refine VO.step (.some rfl rfl rfl) (V1.indexI rfl rfl esz_39 rfl rfl (hh20 hg8) lt0 ?_)
               refine VO.step (.some rfl rfl rfl) (V1.fieldPin rfl rfl fo_67_0 rfl lt0 ?_)
               refine VO.step (.some rfl rfl rfl) (V1.loadPin rfl rfl tyk_3 rfl rfl lt0 ?_)
               refine VO.step (.some rfl rfl rfl) (V1.mv ?_)
               refine VO.step (.some rfl rfl rfl) (V1.it ?_)
               refine VO.step (.some rfl rfl rfl) (V1.mv ?_)
               apply VO.or (n := 7) rfl rfl rfl rfl rfl rfl lt0 (.some rfl rfl rfl)
               ·
                intro hg9
                refine VO.step (.some rfl rfl rfl) (V1.mv ?_)
                refine VO.step (.some rfl rfl rfl) (V1.mv ?_)
                refine VO.step (.some rfl rfl rfl) (V1.indexI rfl rfl esz_39 rfl rfl (hh21 hg8 hg9) lt0 ?_)
                refine VO.step (.some rfl rfl rfl) (V1.fieldPin rfl rfl fo_67_0 rfl lt0 ?_)
                refine VO.step (.some rfl rfl rfl) (V1.loadPin rfl rfl tyk_3 rfl rfl lt0 ?_)
                refine VO.step (.some rfl rfl rfl) (V1.mv ?_)
                refine VO.step (.some rfl rfl rfl) (V1.it ?_)
                exact VO.nil ⟨rfl, rfl, rfl, rfl, .inr ⟨rfl, .inr ⟨rfl, .inr ⟨rfl, .inr ⟨rfl, .inr ⟨rfl, .inr ⟨rfl, .inr ⟨rfl, .inr ⟨rfl, .inl rfl⟩⟩⟩⟩⟩⟩⟩⟩⟩
               refine VO.step (.some rfl rfl rfl) (V1.mv ?_)
               refine VO.step (.some rfl rfl rfl) (V1.mv ?_)
               refine VO.step (.some rfl rfl rfl) (V1.it ?_)
               refine VO.step (.some rfl rfl rfl) (V1.boolNeq rfl rfl und_4 rfl rfl lt0 ?_)
               exact VO.nil ⟨rfl, rfl, rfl, rfl, .inr ⟨rfl, .inr ⟨rfl, .inr ⟨rfl, .inr ⟨rfl, .inr ⟨rfl, .inr ⟨rfl, .inr ⟨rfl, .inr ⟨rfl, .inr ⟨rfl, .inr ⟨rfl, .inr ⟨rfl, .inr ⟨rfl, .inr ⟨rfl, .inr ⟨rfl, .inl rfl⟩⟩⟩⟩⟩⟩⟩⟩⟩⟩⟩⟩⟩⟩⟩
              refine VO.nil (V.keepT 275 [0, 24, 25, 26, 27, 28, 31, 32, 235] [0] (E0 := [(0, .vl ρ0 1 (List.map encU8 code)), (24, .vl rn 5 (List.map (encCarton rn) y12.1)), (25, .int .i64 y12.2.1), (26, .int .i64 y12.2.2), (27, .sref ob2 5 0 (List.length y13.1)), (28, .bool y13.2), (31, .int .i64 i), (32, .int .i64 k), (235, .bool ((!y18.2.2.2) || (!(((((y12.1.getD (Int.toNat i) default).Id) == y12.2.1) || (((y12.1.getD (Int.toNat i) default).Id) == y12.2.2)) == (y18.1 == y12.2.1)))))]) (A := [(ob2, ⟨5, deepC cellCarton ts_574 y13.1⟩)]) (T := os_574) (H0 := [(ob2, ⟨5, deepC cellCarton ts_574 y13.1⟩)]) (T' := os_574) rfl (⟨_, _, rfl, rfl, _, _, rfl, rfl, _, _, rfl, rfl, _, _, rfl, rfl, _, _, rfl, rfl, _, _, rfl, rfl, _, _, rfl, rfl, _, _, rfl, rfl, _, _, rfl, rfl, rfl⟩) rfl (⟨_, _, rfl, rfl, rfl⟩) rfl (List.Sublist.refl _) ?_)
              refine V.cond rfl (fun hc10 => ?_) (fun hc10 => ?_)
              ·
               replace hm2 := cond_t hc10 hm2
               refine V.seq (V.region (VO.cons rfl (V1.as ?_)))
               refine VO.nil (V.ret ?_)
               obtain rfl := hr2 _ (oi hm2).symm
               change some _ = some _ at hm1
               obtain rfl := hr1 _ (oi hm1).symm
               change some _ = some _ at hm0
               obtain rfl := oi hm0
               exact ⟨_, [], ⟨_, _, rfl, rfl, rfl⟩, List.nil_sublist _, rfl, rfl⟩
              ·
               replace hm2 := cond_f hc10 hm2
               refine V.skip ?_
               refine V.region (VO.cons rfl (V1.mv ?_))
               refine VO.cons rfl (V1.it ?_)
               refine VO.cons rfl (V1.as ?_)
               refine VO.nil ?_
               exact ⟨(m1, (IntKind.i64.wrap (k + (1 : Int))), ()), hl2 _ (oi hm2).symm, Nat.lt_succ_self _, Keeps.mkT (A := [(ob2, ⟨5, deepC cellCarton ts_574 y13.1⟩)]) (T := os_574) (T' := os_574) (H := [(ob2, ⟨5, deepC cellCarton ts_574 y13.1⟩)]) (ks := [0]) rfl (by exact ⟨rfl, rfl, rfl, rfl, rfl, rfl, rfl, rfl, trivial⟩) rfl (by exact (⟨_, _, rfl, rfl, rfl⟩)) rfl (List.Sublist.refl _)⟩
             ·
              replace hm2 := cond_f hc9 hm2
              refine V.exit ?_
              obtain rfl := hr2 _ (oi hm2).symm
              exact ⟨((), ()), rfl, Keeps.mkT (A := [(ob2, ⟨5, deepC cellCarton ts_574 y13.1⟩)]) (T := os_574) (T' := os_574) (H := [(ob2, ⟨5, deepC cellCarton ts_574 y13.1⟩)]) (ks := [0]) rfl (by exact ⟨rfl, rfl, rfl, rfl, rfl, rfl, rfl, trivial⟩) rfl (by exact (⟨_, _, rfl, rfl, rfl⟩)) rfl (List.Sublist.refl _)⟩
            ·
             rintro ⟨_, _⟩ rfl
             try dsimp only at hm1
             refine V.region (VO.cons rfl (V1.mv ?_))
             refine VO.cons rfl (V1.it ?_)
             refine VO.cons rfl (V1.as ?_)
             refine VO.nil ?_
             exact ⟨(m0, (IntKind.i64.wrap (i + (1 : Int))), ()), hl1 _ (oi hm1).symm, Nat.lt_succ_self _, Keeps.mkT (A := [(ob2, ⟨5, deepC cellCarton ts_574 y13.1⟩)]) (T := os_574) (T' := os_574) (H := [(ob2, ⟨5, deepC cellCarton ts_574 y13.1⟩)]) (ks := [0]) rfl (by exact ⟨rfl, rfl, rfl, rfl, rfl, rfl, rfl, trivial⟩) rfl (by exact (⟨_, _, rfl, rfl, rfl⟩)) rfl (List.Sublist.refl _)⟩
           ·
            replace hm1 := cond_f hc8 hm1
            refine V.exit ?_
            obtain rfl := hr1 _ (oi hm1).symm
            exact ⟨((), ()), rfl, Keeps.mkT (A := [(ob2, ⟨5, deepC cellCarton ts_574 y13.1⟩)]) (T := os_574) (T' := []) (H := []) (ks := []) rfl (by exact ⟨rfl, trivial⟩) rfl (by exact (rfl)) rfl (List.nil_sublist _)⟩
          ·
           rintro ⟨_, _⟩ rfl
           try dsimp only at hm0
           refine V.seq ?_
           replace hm0 := bindO hm0; rcases hm0 with ⟨y19, hh22, hm0⟩
           refine V.region (VO.cons rfl (V1.mv ?_))
           refine VO.cons rfl (V1.call rfl rfl rfl cok_49 rfl (ok_spec_DrawFindFile hh22) rfl lt0 ?_)
           rintro _ _ ⟨b6, rfl, rfl⟩
           refine VO.cons rfl (V1.mv ?_)
           refine VO.cons rfl (V1.extract rfl rfl rfl rfl lt0 ?_)
           refine VO.weakenK (Keeps.freezeG 0 rn [(239, .vl rn 5 (List.map (encCarton rn) y19.1))] ([]) (f := (encCarton rn)) (l := y19.1) rfl (fun _ => rfl) ⟨⟨_, rfl, .here⟩, trivial⟩ rfl rfl iNil) ?_
           refine VO.cons rfl (V1.extract rfl rfl rfl rfl lt0 ?_)
           refine VO.cons rfl (V1.as ?_)
           refine VO.cons rfl (V1.as ?_)
           refine VO.nil (V.keep 275 [37, 38] [] (E0 := [(37, .vl rn 5 (List.map (encCarton rn) y19.1)), (38, .int .i64 y19.2)]) (H0 := []) rfl (⟨_, _, rfl, rfl, _, _, rfl, rfl, rfl⟩) (rfl) rfl ?_)
           refine V.seq ?_
           replace hm0 := bindO hm0; rcases hm0 with ⟨y20, hh23, hm0⟩
           refine V.region (VO.cons rfl (V1.mv ?_))
           refine VO.cons rfl (V1.mv ?_)
           refine VO.cons rfl (V1.call rfl rfl rfl cok_44 rfl (ok_impl_FindFile hh23) rfl lt0 ?_)
           rintro _ _ ⟨rfl, rfl⟩
           refine VO.cons rfl (V1.mv ?_)
           refine VO.cons rfl (V1.extract rfl rfl rfl rfl lt0 ?_)
           refine VO.cons rfl (V1.extract rfl rfl rfl rfl lt0 ?_)
           refine VO.cons rfl (V1.extract rfl rfl rfl rfl lt0 ?_)
           refine VO.cons rfl (V1.extract rfl rfl rfl rfl lt0 ?_)
           refine VO.cons rfl (V1.as ?_)
           refine VO.cons rfl (V1.as ?_)
           refine VO.cons rfl (V1.as ?_)
           refine VO.cons rfl (V1.as ?_)
           refine VO.nil (V.keep 275 [37, 38, 39, 40, 41, 42] [] (E0 := [(37, .vl rn 5 (List.map (encCarton rn) y19.1)), (38, .int .i64 y19.2), (39, .int .i64 y20.1), (40, .int .i64 y20.2.1), (41, .int .i64 y20.2.2.1), (42, .bool y20.2.2.2)]) (H0 := []) rfl (⟨_, _, rfl, rfl, _, _, rfl, rfl, _, _, rfl, rfl, _, _, rfl, rfl, _, _, rfl, rfl, _, _, rfl, rfl, rfl⟩) (rfl) rfl ?_)
           refine V.seq ?_
           replace hm0 := bindO hm0; rcases hm0 with ⟨y21, hh24, hm0⟩
           refine V.region (VO.cons rfl (V1.mv ?_))
           refine VO.cons rfl (V1.mv ?_)
           refine VO.cons rfl (V1.call rfl rfl rfl cok_50 rfl (ok_spec_FindFile hh24) rfl lt0 ?_)
           rintro _ _ ⟨rfl, rfl⟩
           refine VO.cons rfl (V1.mv ?_)
           refine VO.cons rfl (V1.extract rfl rfl rfl rfl lt0 ?_)
           refine VO.cons rfl (V1.extract rfl rfl rfl rfl lt0 ?_)
           refine VO.cons rfl (V1.extract rfl rfl rfl rfl lt0 ?_)
           refine VO.cons rfl (V1.extract rfl rfl rfl rfl lt0 ?_)
           refine VO.cons rfl (V1.as ?_)
           refine VO.cons rfl (V1.as ?_)
           refine VO.cons rfl (V1.as ?_)
           refine VO.cons rfl (V1.as ?_)
           refine VO.nil (V.keep 275 [39, 40, 41, 42, 43, 44, 45, 46] [] (E0 := [(39, .int .i64 y20.1), (40, .int .i64 y20.2.1), (41, .int .i64 y20.2.2.1), (42, .bool y20.2.2.2), (43, .int .i64 y21.1), (44, .int .i64 y21.2.1), (45, .int .i64 y21.2.2.1), (46, .bool y21.2.2.2)]) (H0 := []) rfl (⟨_, _, rfl, rfl, _, _, rfl, rfl, _, _, rfl, rfl, _, _, rfl, rfl, _, _, rfl, rfl, _, _, rfl, rfl, _, _, rfl, rfl, _, _, rfl, rfl, rfl⟩) (rfl) rfl ?_)
           refine V.seq (V.region (VO.cons rfl (V1.mv ?_)))
           refine VO.cons rfl (V1.mv ?_)
           refine VO.cons rfl (V1.it ?_)
           refine VO.cons rfl (V1.mv ?_)
           apply VO.and (n := 3) rfl rfl rfl rfl rfl rfl lt0 (.none rfl)
           ·
            intro hg10
            refine VO.step (.some rfl rfl rfl) (V1.mv ?_)
            refine VO.step (.some rfl rfl rfl) (V1.mv ?_)
            refine VO.step (.some rfl rfl rfl) (V1.it ?_)
            exact VO.nil ⟨rfl, rfl, rfl, rfl, .inr ⟨rfl, .inr ⟨rfl, .inr ⟨rfl, .inr ⟨rfl, .inl rfl⟩⟩⟩⟩⟩
           refine VO.cons rfl (V1.mv ?_)
           apply VO.and (n := 3) rfl rfl rfl rfl rfl rfl lt0 (.none rfl)
           ·
            intro hg11
            refine VO.step (.some rfl rfl rfl) (V1.mv ?_)
            refine VO.step (.some rfl rfl rfl) (V1.mv ?_)
            refine VO.step (.some rfl rfl rfl) (V1.it ?_)
            exact VO.nil ⟨rfl, rfl, rfl, rfl, .inr ⟨rfl, .inr ⟨rfl, .inr ⟨rfl, .inr ⟨rfl, .inl rfl⟩⟩⟩⟩⟩
           refine VO.cons rfl (V1.mv ?_)
           apply VO.and (n := 3) rfl rfl rfl rfl rfl rfl lt0 (.none rfl)
           ·
            intro hg12
            refine VO.step (.some rfl rfl rfl) (V1.mv ?_)
            refine VO.step (.some rfl rfl rfl) (V1.mv ?_)
            refine VO.step (.some rfl rfl rfl) (V1.boolEql rfl rfl und_4 rfl rfl lt0 ?_)
            exact VO.nil ⟨rfl, rfl, rfl, rfl, .inr ⟨rfl, .inr ⟨rfl, .inr ⟨rfl, .inr ⟨rfl, .inl rfl⟩⟩⟩⟩⟩
           refine VO.cons rfl (V1.as ?_)
           refine VO.nil (V.ret ?_)
           obtain rfl := oi hm0
           exact ⟨_, [], ⟨_, _, rfl, rfl, rfl⟩, List.nil_sublist _, rfl, rfl⟩
     ·
      refine V.keepT 275 [0, 14, 15, 16, 17, 18, 19] [0] (E0 := [(0, .vl ρ0 1 (List.map encU8 code)), (14, .vl rn 5 (List.map (encCarton rn) y7.1)), (15, .int .i64 y7.2.1), (16, .int .i64 y7.2.2.1), (17, .int .i64 y7.2.2.2), (18, .sref ob1 5 0 (List.length y8.1)), (19, .bool y8.2)]) (A := [(ob1, ⟨5, deepC cellCarton ts_534 y8.1⟩)]) (T := os_534) (H0 := [(ob1, ⟨5, deepC cellCarton ts_534 y8.1⟩)]) (T' := os_534) rfl (⟨_, _, rfl, rfl, _, _, rfl, rfl, _, _, rfl, rfl, _, _, rfl, rfl, _, _, rfl, rfl, _, _, rfl, rfl, _, _, rfl, rfl, rfl⟩) rfl (⟨_, _, rfl, rfl, rfl⟩) rfl (List.Sublist.refl _) ?_
      refine V.seq (V.seq ?_)
      replace hm0 := bindO hm0; rcases hm0 with ⟨y9, hh9, hm0⟩
      refine V.region (VO.cons rfl (V1.mv ?_))
      refine VO.cons rfl (V1.mv ?_)
      refine VO.cons rfl (V1.mv ?_)
      refine VO.cons rfl (V1.mv ?_)
      refine VO.cons rfl (V1.call rfl rfl rfl cok_31 rfl (ok_spec_MoveCarton hh9) rfl lt0 ?_)
      rintro _ _ ⟨b3, rfl, rfl⟩
      refine VO.cons rfl (V1.mv ?_)
      refine VO.cons rfl (V1.extract rfl rfl rfl rfl lt0 ?_)
      refine VO.weakenK (Keeps.freezeG 0 rn [(120, .vl rn 5 (List.map (encCarton rn) y9.1))] ((ob1, ⟨5, deepC cellCarton ts_534 y8.1⟩) :: os_534) (f := (encCarton rn)) (l := y9.1) rfl (fun _ => rfl) ⟨⟨_, rfl, .here⟩, trivial⟩ ⟨_, _, rfl, rfl, .inl rfl, FrzH.same⟩ rfl iNil) ?_
      refine VO.cons rfl (V1.extract rfl rfl rfl rfl lt0 ?_)
      refine VO.cons rfl (V1.as ?_)
      refine VO.cons rfl (V1.as ?_)
      refine VO.nil (V.keepT 275 [0, 16, 17, 18, 19, 20, 21] [0] (E0 := [(0, .vl ρ0 1 (List.map encU8 code)), (16, .int .i64 y7.2.2.1), (17, .int .i64 y7.2.2.2), (18, .sref ob1 5 0 (List.length y8.1)), (19, .bool y8.2), (20, .vl rn 5 (List.map (encCarton rn) y9.1)), (21, .bool y9.2)]) (A := [(ob1, ⟨5, deepC cellCarton ts_534 y8.1⟩)]) (T := os_534) (H0 := [(ob1, ⟨5, deepC cellCarton ts_534 y8.1⟩)]) (T' := os_534) rfl (⟨_, _, rfl, rfl, _, _, rfl, rfl, _, _, rfl, rfl, _, _, rfl, rfl, _, _, rfl, rfl, _, _, rfl, rfl, _, _, rfl, rfl, rfl⟩) rfl (⟨_, _, rfl, rfl, rfl⟩) rfl (List.Sublist.refl _) ?_)
      refine V.seq ?_
      replace hm0 := bindO hm0; rcases hm0 with ⟨y10, hh10, hm0⟩
      refine V.region (VO.cons rfl (V1.mv ?_))
      refine VO.cons rfl (V1.mv ?_)
      refine VO.cons rfl (V1.boolNeq rfl rfl und_4 rfl rfl lt0 ?_)
      refine VO.cons rfl (V1.mv ?_)
      apply VO.or (n := 4) rfl rfl rfl rfl rfl rfl lt0 (.none rfl)
      ·
       intro hg3
       refine VO.step (.some rfl rfl rfl) (V1.mv ?_)
       refine VO.step (.some rfl rfl rfl) (V1.mv ?_)
       refine VO.step (.some rfl rfl rfl) (V1.callL (rn + 1) ([ob1] ++ List.map Prod.fst os_534) [.vl (rn + 1) 5 (List.map (encCarton (rn + 1)) y8.1), .vl rn 5 (List.map (encCarton rn) y9.1)] rfl rfl rfl cok_43 rfl ⟨_, _, rfl, Lend.deep (m := 1) (inn := (fun c_ : Carton => List.map encInt c_.Files)) (cell := cellCarton) cokCarton (ts := ts_534) (os := os_534) (xs := y8.1) 0 hd_534 rfl (fun _ => roL_map (fun _ => rfl) _) rfl (fun p hp => memTail (A := [(ob1, ⟨5, deepC cellCarton ts_534 y8.1⟩)]) (T := os_534) hp rfl) (List.mem_append_left _ (.head _)) (fun p hp => List.mem_append_right _ (List.mem_map.2 ⟨p, hp, rfl⟩)), ⟨_, _, rfl, .same _, rfl⟩⟩ (bwTail (A := [(ob1, ⟨5, deepC cellCarton ts_534 y8.1⟩)]) (T := os_534) rfl (bwCons (k := 0) rfl bwNil) (fun p hp => hp)) (ok_laws_rCartons (cond_f hg3 hh10)) rfl (⟨(by first | omega | (dsimp only; omega)), by rintro _ _ ⟨rfl, rfl⟩; exact ⟨rfl, by simp⟩⟩) lt0 ?_)
       rintro _ _ ⟨rfl, rfl⟩
       refine VO.step (.some rfl rfl rfl) (V1.not rfl rfl rfl lt0 ?_)
       exact VO.nil ⟨rfl, rfl, rfl, rfl, .inr ⟨rfl, .inr ⟨rfl, .inr ⟨rfl, .inr ⟨rfl, .inr ⟨rfl, .inl rfl⟩⟩⟩⟩⟩⟩
      refine VO.nil (V.keepT 275 [0, 16, 17, 18, 19, 130] [0] (E0 := [(0, .vl ρ0 1 (List.map encU8 code)), (16, .int .i64 y7.2.2.1), (17, .int .i64 y7.2.2.2), (18, .sref ob1 5 0 (List.length y8.1)), (19, .bool y8.2), (130, .bool ((!(y8.2 == y9.2)) || (!y10)))]) (A := [(ob1, ⟨5, deepC cellCarton ts_534 y8.1⟩)]) (T := os_534) (H0 := [(ob1, ⟨5, deepC cellCarton ts_534 y8.1⟩)]) (T' := os_534) rfl (⟨_, _, rfl, rfl, _, _, rfl, rfl, _, _, rfl, rfl, _, _, rfl, rfl, _, _, rfl, rfl, _, _, rfl, rfl, rfl⟩) rfl (⟨_, _, rfl, rfl, rfl⟩) rfl (List.Sublist.refl _) ?_)
      refine V.cond rfl (fun hc4 => ?_) (fun hc4 => ?_)
      ·
       replace hm0 := cond_t hc4 hm0
       refine V.seq (V.region (VO.cons rfl (V1.as ?_)))
       refine VO.nil (V.ret ?_)
       obtain rfl := oi hm0
       exact ⟨_, [], ⟨_, _, rfl, rfl, rfl⟩, List.nil_sublist _, rfl, rfl⟩
      ·
       replace hm0 := cond_f hc4 hm0
       refine V.skip ?_
       refine V.seq ?_
       replace hm0 := bindO hm0; rcases hm0 with ⟨j1, hm1, hm0⟩
       refine V.cutT (D := (Unit) × (Unit)) (fun ⟨_, _⟩ => ⟨275, [(0, .vl ρ0 1 (List.map encU8 code))], []⟩) (fun ⟨_, _⟩ => (.inl () = j1)) ?_ ?_
       ·
        refine V.seq (V.region (VO.cons rfl (V1.mv ?_)))
        refine VO.nil (V.cond rfl (fun hc5 => ?_) (fun hc5 => ?_))
        ·
         replace hm1 := cond_t hc5 hm1
         refine V.seq ?_
         replace hm1 := bindO hm1; rcases hm1 with ⟨y11, hh11, hm1⟩
         refine V.region (VO.cons rfl (V1.mv ?_))
         refine VO.cons rfl (V1.mv ?_)
         refine VO.cons rfl (V1.mv ?_)
         refine VO.cons rfl (V1.callL (rn + 1) ([ob1] ++ List.map Prod.fst os_534) [.vl (rn + 1) 5 (List.map (encCarton (rn + 1)) y8.1), .int .i64 y7.2.2.1, .int .i64 y7.2.2.2] rfl rfl rfl cok_47 rfl ⟨_, _, rfl, Lend.deep (m := 1) (inn := (fun c_ : Carton => List.map encInt c_.Files)) (cell := cellCarton) cokCarton (ts := ts_534) (os := os_534) (xs := y8.1) 0 hd_534 rfl (fun _ => roL_map (fun _ => rfl) _) rfl (fun p hp => memTail (A := [(ob1, ⟨5, deepC cellCarton ts_534 y8.1⟩)]) (T := os_534) hp rfl) (List.mem_append_left _ (.head _)) (fun p hp => List.mem_append_right _ (List.mem_map.2 ⟨p, hp, rfl⟩)), ⟨_, _, rfl, .same _, ⟨_, _, rfl, .same _, rfl⟩⟩⟩ (bwTail (A := [(ob1, ⟨5, deepC cellCarton ts_534 y8.1⟩)]) (T := os_534) rfl (bwCons (k := 0) rfl bwNil) (fun p hp => hp)) (ok_impl_FreeOn hh11) rfl (⟨(by first | omega | (dsimp only; omega)), by rintro _ _ ⟨rfl, rfl⟩; exact ⟨rfl, by simp⟩⟩) lt0 ?_)
         rintro _ _ ⟨rfl, rfl⟩
         refine VO.cons rfl (V1.mv ?_)
         refine VO.cons rfl (V1.extract rfl rfl rfl rfl lt0 ?_)
         refine VO.cons rfl (V1.extract rfl rfl rfl rfl lt0 ?_)
         refine VO.cons rfl (V1.as ?_)
         refine VO.cons rfl (V1.as ?_)
         refine VO.nil (V.keepT 275 [0, 22, 23] [] (E0 := [(0, .vl ρ0 1 (List.map encU8 code)), (22, .int .i64 y11.1), (23, .bool y11.2)]) (A := [(ob1, ⟨5, deepC cellCarton ts_534 y8.1⟩)]) (T := os_534) (H0 := []) (T' := []) rfl (⟨_, _, rfl, rfl, _, _, rfl, rfl, _, _, rfl, rfl, rfl⟩) rfl (rfl) rfl (List.nil_sublist _) ?_)
         refine V.seq (V.region (VO.cons rfl (V1.mv ?_)))
         refine VO.cons rfl (V1.not rfl rfl rfl lt0 ?_)
         refine VO.cons rfl (V1.mv ?_)
         apply VO.or (n := 2) rfl rfl rfl rfl rfl rfl lt0 (.none rfl)
         ·
          intro hg4
          refine VO.step (.some rfl rfl rfl) (V1.mv ?_)
          refine VO.step (.some rfl rfl rfl) (V1.it ?_)
          exact VO.nil ⟨rfl, rfl, rfl, rfl, .inr ⟨rfl, .inr ⟨rfl, .inr ⟨rfl, .inl rfl⟩⟩⟩⟩
         refine VO.cons rfl (V1.mv ?_)
         apply VO.or (n := 2) rfl rfl rfl rfl rfl rfl lt0 (.none rfl)
         ·
          intro hg5
          refine VO.step (.some rfl rfl rfl) (V1.mv ?_)
          refine VO.step (.some rfl rfl rfl) (V1.it ?_)
          exact VO.nil ⟨rfl, rfl, rfl, rfl, .inr ⟨rfl, .inr ⟨rfl, .inr ⟨rfl, .inl rfl⟩⟩⟩⟩
         refine VO.nil (V.keep 275 [0, 148] [] (E0 := [(0, .vl ρ0 1 (List.map encU8 code)), (148, .bool (((!y11.2) || (decide (y11.1 < (0 : Int)))) || (decide (y11.1 > (99 : Int)))))]) (H0 := []) rfl (⟨_, _, rfl, rfl, _, _, rfl, rfl, rfl⟩) (rfl) rfl ?_)
         refine V.cond rfl (fun hc6 => ?_) (fun hc6 => ?_)
         ·
          replace hm1 := cond_t hc6 hm1
          refine V.seq (V.region (VO.cons rfl (V1.as ?_)))
          refine VO.nil (V.ret ?_)
          obtain rfl := oi hm1
          change some _ = some _ at hm0
          obtain rfl := oi hm0
          exact ⟨_, [], ⟨_, _, rfl, rfl, rfl⟩, List.nil_sublist _, rfl, rfl⟩
         ·
          replace hm1 := cond_f hc6 hm1
          refine V.skip ?_
          exact ⟨((), ()), oi hm1, Keeps.mk (ks := []) rfl ⟨rfl, trivial⟩ (rfl) rfl⟩
        ·
         replace hm1 := cond_f hc5 hm1
         refine V.skip ?_
         exact ⟨((), ()), oi hm1, Keeps.mkT (A := [(ob1, ⟨5, deepC cellCarton ts_534 y8.1⟩)]) (T := os_534) (T' := []) (H := []) (ks := []) rfl (by exact ⟨rfl, trivial⟩) rfl (by exact (rfl)) rfl (List.nil_sublist _)⟩
       ·
        rintro ⟨_, _⟩ rfl
        try dsimp only at hm0
        refine V.seq ?_
        replace hm0 := bindO hm0; rcases hm0 with ⟨y12, hh12, hm0⟩
        refine V.region (VO.cons rfl (V1.mv ?_))
        refine VO.cons rfl (V1.call rfl rfl rfl cok_48 rfl (ok_spec_DrawMergeCartons hh12) rfl lt0 ?_)
        rintro _ _ ⟨b4, rfl, rfl⟩
        refine VO.cons rfl (V1.mv ?_)
        refine VO.cons rfl (V1.extract rfl rfl rfl rfl lt0 ?_)
        refine VO.weakenK (Keeps.freezeG 0 rn [(152, .vl rn 5 (List.map (encCarton rn) y12.1))] ([]) (f := (encCarton rn)) (l := y12.1) rfl (fun _ => rfl) ⟨⟨_, rfl, .here⟩, trivial⟩ rfl rfl iNil) ?_
        refine VO.cons rfl (V1.extract rfl rfl rfl rfl lt0 ?_)
        refine VO.cons rfl (V1.extract rfl rfl rfl rfl lt0 ?_)
        refine VO.cons rfl (V1.as ?_)
        refine VO.cons rfl (V1.as ?_)
        refine VO.cons rfl (V1.as ?_)
        refine VO.nil (V.keep 275 [0, 24, 25, 26] [] (E0 := [(0, .vl ρ0 1 (List.map encU8 code)), (24, .vl rn 5 (List.map (encCarton rn) y12.1)), (25, .int .i64 y12.2.1), (26, .int .i64 y12.2.2)]) (H0 := []) rfl (⟨_, _, rfl, rfl, _, _, rfl, rfl, _, _, rfl, rfl, _, _, rfl, rfl, rfl⟩) (rfl) rfl ?_)
        refine V.seq ?_
        replace hm0 := bindO hm0; rcases hm0 with ⟨y13, hh13, hm0⟩
        refine V.region (VO.cons rfl (V1.mv ?_))
        refine VO.cons rfl (V1.mv ?_)
        refine VO.cons rfl (V1.mv ?_)
        refine VO.cons rfl (V1.permK (V1.call rfl rfl rfl cok_38 rfl (ok_impl_MergeCartons hh13) rfl lt0 ?_))
        rintro _ _ ⟨ob2, ts_622, os_622, hob2, hd_622, rfl, rfl⟩
        refine ⟨_, ?_, Keeps.perm (optH 5 ob2 (deepC cellCarton ts_622 y13.1) ++ (([] : List (Nat × Obj')) ++ os_622)) (permDeepO1 (o := optH 5 ob2 (deepC cellCarton ts_622 y13.1)) (os := os_622) (A := []))⟩
        refine VO.cons rfl (V1.mv ?_)
        refine VO.cons rfl (V1.extract rfl rfl rfl rfl lt0 ?_)
        refine VO.cons rfl (V1.extract rfl rfl rfl rfl lt0 ?_)
        refine VO.cons rfl (V1.as ?_)
        refine VO.cons rfl (V1.as ?_)
        refine VO.nil ?_
        rcases ob2 with _ | ob2
        ·
         obtain ⟨rfl, rfl⟩ := Deep.nil (hob2 rfl) hd_622
         refine V.keep 275 [0, 24, 25, 26, 27, 28] [] (E0 := [(0, .vl ρ0 1 (List.map encU8 code)), (24, .vl rn 5 (List.map (encCarton rn) y12.1)), (25, .int .i64 y12.2.1), (26, .int .i64 y12.2.2), (27, .nils), (28, .bool y13.2)]) (H0 := []) rfl (⟨_, _, rfl, rfl, _, _, rfl, rfl, _, _, rfl, rfl, _, _, rfl, rfl, _, _, rfl, rfl, _, _, rfl, rfl, rfl⟩) (rfl) rfl ?_
         refine V.seq (V.seq ?_)
         replace hm0 := bindO hm0; rcases hm0 with ⟨y14, hh14, hm0⟩
         refine V.region (VO.cons rfl (V1.mv ?_))
         refine VO.cons rfl (V1.mv ?_)
         refine VO.cons rfl (V1.mv ?_)
         refine VO.cons rfl (V1.call rfl rfl rfl cok_37 rfl (ok_spec_MergeCartons hh14) rfl lt0 ?_)
         rintro _ _ ⟨b5, rfl, rfl⟩
         refine VO.cons rfl (V1.mv ?_)
         refine VO.cons rfl (V1.extract rfl rfl rfl rfl lt0 ?_)
         refine VO.weakenK (Keeps.freezeG 0 rn [(167, .vl rn 5 (List.map (encCarton rn) y14.1))] ([]) (f := (encCarton rn)) (l := y14.1) rfl (fun _ => rfl) ⟨⟨_, rfl, .here⟩, trivial⟩ rfl rfl iNil) ?_
         refine VO.cons rfl (V1.extract rfl rfl rfl rfl lt0 ?_)
         refine VO.cons rfl (V1.as ?_)
         refine VO.cons rfl (V1.as ?_)
         refine VO.nil (V.keep 275 [0, 24, 25, 26, 27, 28, 29, 30] [] (E0 := [(0, .vl ρ0 1 (List.map encU8 code)), (24, .vl rn 5 (List.map (encCarton rn) y12.1)), (25, .int .i64 y12.2.1), (26, .int .i64 y12.2.2), (27, .nils), (28, .bool y13.2), (29, .vl rn 5 (List.map (encCarton rn) y14.1)), (30, .bool y14.2)]) (H0 := []) rfl (⟨_, _, rfl, rfl, _, _, rfl, rfl, _, _, rfl, rfl, _, _, rfl, rfl, _, _, rfl, rfl, _, _, rfl, rfl, _, _, rfl, rfl, _, _, rfl, rfl, rfl⟩) (rfl) rfl ?_)
         refine V.seq ?_
         replace hm0 := bindO hm0; rcases hm0 with ⟨y15, hh15, hm0⟩
         refine V.region (VO.cons rfl (V1.mv ?_))
         refine VO.cons rfl (V1.mv ?_)
         refine VO.cons rfl (V1.boolNeq rfl rfl und_4 rfl rfl lt0 ?_)
         refine VO.cons rfl (V1.mv ?_)
         apply VO.or (n := 4) rfl rfl rfl rfl rfl rfl lt0 (.none rfl)
         ·
          intro hg6
          refine VO.step (.some rfl rfl rfl) (V1.mv ?_)
          refine VO.step (.some rfl rfl rfl) (V1.mv ?_)
          refine VO.weakenK (Keeps.nilsE (l := y13.1) 173 rn 5 (encCarton rn) (hob2 rfl) rfl rfl) ?_
          refine VO.step (.some rfl rfl rfl) (V1.call rfl rfl rfl cok_43 rfl (ok_laws_rCartons (cond_f hg6 hh15)) rfl lt0 ?_)
          rintro _ _ ⟨rfl, rfl⟩
          refine VO.step (.some rfl rfl rfl) (V1.not rfl rfl rfl lt0 ?_)
          exact VO.nil ⟨rfl, rfl, rfl, rfl, .inr ⟨rfl, .inr ⟨rfl, .inr ⟨rfl, .inr ⟨rfl, .inr ⟨rfl, .inr ⟨rfl, .inl rfl⟩⟩⟩⟩⟩⟩⟩
         refine VO.nil (V.keep 275 [0, 24, 25, 26, 27, 28, 177] [] (E0 := [(0, .vl ρ0 1 (List.map encU8 code)), (24, .vl rn 5 (List.map (encCarton rn) y12.1)), (25, .int .i64 y12.2.1), (26, .int .i64 y12.2.2), (27, .nils), (28, .bool y13.2), (177, .bool ((!(y13.2 == y14.2)) || (!y15)))]) (H0 := []) rfl (⟨_, _, rfl, rfl, _, _, rfl, rfl, _, _, rfl, rfl, _, _, rfl, rfl, _, _, rfl, rfl, _, _, rfl, rfl, _, _, rfl, rfl, rfl⟩) (rfl) rfl ?_)
         refine V.cond rfl (fun hc7 => ?_) (fun hc7 => ?_)
         ·
          replace hm0 := cond_t hc7 hm0
          refine V.seq (V.region (VO.cons rfl (V1.as ?_)))
          refine VO.nil (V.ret ?_)
          obtain rfl := oi hm0
          exact ⟨_, [], ⟨_, _, rfl, rfl, rfl⟩, List.nil_sublist _, rfl, rfl⟩
         ·
          replace hm0 := cond_f hc7 hm0
          refine V.skip ?_
          refine V.seq (V.seq (V.region (VO.cons rfl (V1.as ?_))))
          refine VO.nil ?_
          replace hm0 := bindO hm0; rcases hm0 with ⟨e0, he1, hm0⟩
          refine V.cutT (D := (Unit) × (Unit)) (fun ⟨_, _⟩ => ⟨275, [(0, .vl ρ0 1 (List.map encU8 code))], []⟩) (fun ⟨_, _⟩ => (.inl () = e0)) ?_ ?_
          ·
           refine V.block ?_
           refine V.keep 275 [31, 0, 24, 25, 26, 27, 28] [] (E0 := [(31, .int .i64 (0 : Int)), (0, .vl ρ0 1 (List.map encU8 code)), (24, .vl rn 5 (List.map (encCarton rn) y12.1)), (25, .int .i64 y12.2.1), (26, .int .i64 y12.2.2), (27, .nils), (28, .bool y13.2)]) (H0 := []) rfl (⟨_, _, rfl, rfl, _, _, rfl, rfl, _, _, rfl, rfl, _, _, rfl, rfl, _, _, rfl, rfl, _, _, rfl, rfl, _, _, rfl, rfl, rfl⟩) (rfl) rfl ?_
           refine V.loopE (D := Nat × (Int) × (Unit)) (fun ⟨n0, i, _⟩ => [(31, .int .i64 i)]) (fun ⟨n0, i, _⟩ => []) (fun ⟨n0, i, _⟩ => loopO (M.laws_FnCartons_l0 y12 y13) n0 i = some e0) (fun ⟨n0, _, _⟩ => n0) (rounds, (0 : Int), ()) rfl he1 ?_
           rintro ⟨n0, i, _⟩ hP0
           obtain ⟨m0, y16, rfl, hm1, hl1, hr1⟩ := loop_head hP0
           unfold M.laws_FnCartons_l0 at hm1; dsimp only at hm1
           show V _ _ _ ⟨275, [(31, .int .i64 i), (0, .vl ρ0 1 (List.map encU8 code)), (24, .vl rn 5 (List.map (encCarton rn) y12.1)), (25, .int .i64 y12.2.1), (26, .int .i64 y12.2.2), (27, .nils), (28, .bool y13.2)], []⟩
           refine V.seq (V.seq (V.region (VO.cons rfl (V1.mv ?_))))
           refine VO.cons rfl (V1.mv ?_)
           refine VO.cons rfl (V1.lenMap rfl rfl rfl rfl rfl rfl isl_39 lt0 ?_)
           refine VO.cons rfl (V1.it ?_)
           refine VO.cons rfl (V1.mv ?_)
           apply VO.and (n := 1) rfl rfl rfl rfl rfl rfl lt0 (.none rfl)
           ·
            intro hg7
            refine VO.step (.some rfl rfl rfl) (V1.mv ?_)
            exact VO.nil ⟨rfl, rfl, rfl, rfl, .inr ⟨rfl, .inr ⟨rfl, .inl rfl⟩⟩⟩
           refine VO.nil (V.keep 275 [0, 24, 25, 26, 27, 28, 31, 184] [] (E0 := [(0, .vl ρ0 1 (List.map encU8 code)), (24, .vl rn 5 (List.map (encCarton rn) y12.1)), (25, .int .i64 y12.2.1), (26, .int .i64 y12.2.2), (27, .nils), (28, .bool y13.2), (31, .int .i64 i), (184, .bool ((decide (i < (y12.1.length : Int))) && y13.2))]) (H0 := []) rfl (⟨_, _, rfl, rfl, _, _, rfl, rfl, _, _, rfl, rfl, _, _, rfl, rfl, _, _, rfl, rfl, _, _, rfl, rfl, _, _, rfl, rfl, _, _, rfl, rfl, rfl⟩) (rfl) rfl ?_)
           refine V.cond rfl (fun hc8 => ?_) (fun hc8 => ?_)
           ·
            replace hm1 := cond_t hc8 hm1
            refine V.skip ?_
            refine V.seq (V.block ?_)
            refine V.seq (V.region (VO.cons rfl (V1.as ?_)))
            refine VO.nil ?_
            replace hm1 := bindO hm1; rcases hm1 with ⟨e1, he2, hm1⟩
            refine V.cutT (D := (Unit) × (Unit)) (fun ⟨_, _⟩ => ⟨275, [(0, .vl ρ0 1 (List.map encU8 code)), (24, .vl rn 5 (List.map (encCarton rn) y12.1)), (25, .int .i64 y12.2.1), (26, .int .i64 y12.2.2), (27, .nils), (28, .bool y13.2), (31, .int .i64 i)], []⟩) (fun ⟨_, _⟩ => (.inl () = e1)) ?_ ?_
            ·
             refine V.block ?_
             refine V.keep 275 [32, 0, 24, 25, 26, 27, 28, 31] [] (E0 := [(32, .int .i64 (0 : Int)), (0, .vl ρ0 1 (List.map encU8 code)), (24, .vl rn 5 (List.map (encCarton rn) y12.1)), (25, .int .i64 y12.2.1), (26, .int .i64 y12.2.2), (27, .nils), (28, .bool y13.2), (31, .int .i64 i)]) (H0 := []) rfl (⟨_, _, rfl, rfl, _, _, rfl, rfl, _, _, rfl, rfl, _, _, rfl, rfl, _, _, rfl, rfl, _, _, rfl, rfl, _, _, rfl, rfl, _, _, rfl, rfl, rfl⟩) (rfl) rfl ?_
             refine V.loopE (D := Nat × (Int) × (Unit)) (fun ⟨n1, k, _⟩ => [(32, .int .i64 k)]) (fun ⟨n1, k, _⟩ => []) (fun ⟨n1, k, _⟩ => loopO (M.laws_FnCartons_l1 y12 y13 i) n1 k = some e1) (fun ⟨n1, _, _⟩ => n1) (rounds, (0 : Int), ()) rfl he2 ?_
             rintro ⟨n1, k, _⟩ hP1
             obtain ⟨m1, y17, rfl, hm2, hl2, hr2⟩ := loop_head hP1
             unfold M.laws_FnCartons_l1 at hm2; dsimp only at hm2
             show V _ _ _ ⟨275, [(32, .int .i64 k), (0, .vl ρ0 1 (List.map encU8 code)), (24, .vl rn 5 (List.map (encCarton rn) y12.1)), (25, .int .i64 y12.2.1), (26, .int .i64 y12.2.2), (27, .nils), (28, .bool y13.2), (31, .int .i64 i)], []⟩
             refine V.seq (V.seq ?_)
             replace hm2 := asrt_some hm2; rcases hm2 with ⟨hh16, hm2⟩
             refine V.region (VO.cons rfl (V1.mv ?_))
             refine VO.cons rfl (V1.mv ?_)
             refine VO.cons rfl (V1.mv ?_)
             refine VO.cons rfl (V1.indexI rfl rfl esz_39 rfl rfl hh16 lt0 ?_)
             refine VO.cons rfl (V1.fieldPin rfl rfl fo_67_3 rfl lt0 ?_)
             refine VO.cons rfl (V1.loadPin rfl rfl tyk_36 rfl rfl lt0 ?_)
             refine VO.cons rfl (V1.lenMap rfl rfl rfl rfl rfl rfl isl_36 lt0 ?_)
             refine VO.cons rfl (V1.it ?_)
             refine VO.nil (V.keep 275 [0, 24, 25, 26, 27, 28, 31, 32, 194] [] (E0 := [(0, .vl ρ0 1 (List.map encU8 code)), (24, .vl rn 5 (List.map (encCarton rn) y12.1)), (25, .int .i64 y12.2.1), (26, .int .i64 y12.2.2), (27, .nils), (28, .bool y13.2), (31, .int .i64 i), (32, .int .i64 k), (194, .bool (decide (k < (((y12.1.getD (Int.toNat i) default).Files).length : Int))))]) (H0 := []) rfl (⟨_, _, rfl, rfl, _, _, rfl, rfl, _, _, rfl, rfl, _, _, rfl, rfl, _, _, rfl, rfl, _, _, rfl, rfl, _, _, rfl, rfl, _, _, rfl, rfl, _, _, rfl, rfl, rfl⟩) (rfl) rfl ?_)
             refine V.cond rfl (fun hc9 => ?_) (fun hc9 => ?_)
             ·
              replace hm2 := cond_t hc9 hm2
              refine V.skip ?_
              refine V.seq (V.block ?_)
              refine V.seq ?_
              replace hm2 := asrt_some hm2; rcases hm2 with ⟨hh17, hm2⟩
              replace hm2 := asrt_some hm2; rcases hm2 with ⟨hh18, hm2⟩
              replace hm2 := bindO hm2; rcases hm2 with ⟨y18, hh19, hm2⟩
              refine V.region (VO.cons rfl (V1.mv ?_))
              refine VO.cons rfl (V1.mv ?_)
              refine VO.cons rfl (V1.mv ?_)
              refine VO.cons rfl (V1.indexI rfl rfl esz_39 rfl rfl hh17 lt0 ?_)
              refine VO.cons rfl (V1.fieldPin rfl rfl fo_67_3 rfl lt0 ?_)
              refine VO.cons rfl (V1.loadPin rfl rfl tyk_36 rfl rfl lt0 ?_)
              refine VO.cons rfl (V1.mv ?_)
              refine VO.cons rfl (V1.indexI rfl rfl esz_36 rfl rfl hh18 lt0 ?_)
              refine VO.cons rfl (V1.loadPin rfl rfl tyk_3 rfl rfl lt0 ?_)
              refine VO.weakenK (Keeps.nilsE (l := y13.1) 198 rn 5 (encCarton rn) (hob2 rfl) rfl rfl) ?_
              refine VO.cons rfl (V1.call rfl rfl rfl cok_44 rfl (ok_impl_FindFile hh19) rfl lt0 ?_)
              rintro _ _ ⟨rfl, rfl⟩
              refine VO.cons rfl (V1.mv ?_)
              refine VO.cons rfl (V1.extract rfl rfl rfl rfl lt0 ?_)
              refine VO.cons rfl (V1.extract rfl rfl rfl rfl lt0 ?_)
              refine VO.cons rfl (V1.extract rfl rfl rfl rfl lt0 ?_)
              refine VO.cons rfl (V1.extract rfl rfl rfl rfl lt0 ?_)
              refine VO.cons rfl (V1.as ?_)
              refine VO.cons rfl (V1.as ?_)
              refine VO.cons rfl (V1.as ?_)
              refine VO.cons rfl (V1.as ?_)
              refine VO.nil (V.keep 275 [0, 24, 25, 26, 27, 28, 31, 32, 33, 36] [] (E0 := [(0, .vl ρ0 1 (List.map encU8 code)), (24, .vl rn 5 (List.map (encCarton rn) y12.1)), (25, .int .i64 y12.2.1), (26, .int .i64 y12.2.2), (27, .nils), (28, .bool y13.2), (31, .int .i64 i), (32, .int .i64 k), (33, .int .i64 y18.1), (36, .bool y18.2.2.2)]) (H0 := []) rfl (⟨_, _, rfl, rfl, _, _, rfl, rfl, _, _, rfl, rfl, _, _, rfl, rfl, _, _, rfl, rfl, _, _, rfl, rfl, _, _, rfl, rfl, _, _, rfl, rfl, _, _, rfl, rfl, _, _, rfl, rfl, rfl⟩) (rfl) rfl ?_)
              refine V.seq ?_
              replace hm2 := asrt_some hm2; rcases hm2 with ⟨hh20, hm2⟩
              replace hm2 := asrt_some hm2; rcases hm2 with ⟨hh21, hm2⟩
              refine V.region (VO.cons rfl (V1.mv ?_))
              refine VO.cons rfl (V1.not rfl rfl rfl lt0 ?_)
              refine VO.cons rfl (V1.mv ?_)
              apply VO.or (n := 20) rfl rfl rfl rfl rfl rfl lt0 (.none rfl)
              ·
               intro hg8
               refine VO.step (.some rfl rfl rfl) (V1.mv ?_)
               refine VO.step (.some rfl rfl rfl) (V1.mv ?_)
               refine VO.step (.some rfl rfl rfl) (V1.indexI rfl rfl esz_39 rfl rfl (hh20 hg8) lt0 ?_)
               refine VO.step (.some rfl rfl rfl) (V1.fieldPin rfl rfl fo_67_0 rfl lt0 ?_)
               refine VO.step (.some rfl rfl rfl) (V1.loadPin rfl rfl tyk_3 rfl rfl lt0 ?_)
               refine VO.step (.some rfl rfl rfl) (V1.mv ?_)
               refine VO.step (.some rfl rfl rfl) (V1.it ?_)
               refine VO.step (.some rfl rfl rfl) (V1.mv ?_)
               apply VO.or (n := 7) rfl rfl rfl rfl rfl rfl lt0 (.some rfl rfl rfl)
               ·
                intro hg9
                refine VO.step (.some rfl rfl rfl) (V1.mv ?_)
                refine VO.step (.some rfl rfl rfl) (V1.mv ?_)
                refine VO.step (.some rfl rfl rfl) (V1.indexI rfl rfl esz_39 rfl rfl (hh21 hg8 hg9) lt0 ?_)
                refine VO.step (.some rfl rfl rfl) (V1.fieldPin rfl rfl fo_67_0 rfl lt0 ?_)
                refine VO.step (.some rfl rfl rfl) (V1.loadPin rfl rfl tyk_3 rfl rfl lt0 ?_)
                refine VO.step (.some rfl rfl rfl) (V1.mv ?_)
                refine VO.step (.some rfl rfl rfl) (V1.it ?_)
                exact VO.nil ⟨rfl, rfl, rfl, rfl, .inr ⟨rfl, .inr ⟨rfl, .inr ⟨rfl, .inr ⟨rfl, .inr ⟨rfl, .inr ⟨rfl, .inr ⟨rfl, .inr ⟨rfl, .inl rfl⟩⟩⟩⟩⟩⟩⟩⟩⟩
               refine VO.step (.some rfl rfl rfl) (V1.mv ?_)
               refine VO.step (.some rfl rfl rfl) (V1.mv ?_)
               refine VO.step (.some rfl rfl rfl) (V1.it ?_)
               refine VO.step (.some rfl rfl rfl) (V1.boolNeq rfl rfl und_4 rfl rfl lt0 ?_)
               exact VO.nil ⟨rfl, rfl, rfl, rfl, .inr ⟨rfl, .inr ⟨rfl, .inr ⟨rfl, .inr ⟨rfl, .inr ⟨rfl, .inr ⟨rfl, .inr ⟨rfl, .inr ⟨rfl, .inr ⟨rfl, .inr ⟨rfl, .inr ⟨rfl, .inr ⟨rfl, .inr ⟨rfl, .inr ⟨rfl, .inl rfl⟩⟩⟩⟩⟩⟩⟩⟩⟩⟩⟩⟩⟩⟩⟩
              refine VO.nil (V.keep 275 [0, 24, 25, 26, 27, 28, 31, 32, 235] [] (E0 := [(0, .vl ρ0 1 (List.map encU8 code)), (24, .vl rn 5 (List.map (encCarton rn) y12.1)), (25, .int .i64 y12.2.1), (26, .int .i64 y12.2.2), (27, .nils), (28, .bool y13.2), (31, .int .i64 i), (32, .int .i64 k), (235, .bool ((!y18.2.2.2) || (!(((((y12.1.getD (Int.toNat i) default).Id) == y12.2.1) || (((y12.1.getD (Int.toNat i) default).Id) == y12.2.2)) == (y18.1 == y12.2.1)))))]) (H0 := []) rfl (⟨_, _, rfl, rfl, _, _, rfl, rfl, _, _, rfl, rfl, _, _, rfl, rfl, _, _, rfl, rfl, _, _, rfl, rfl, _, _, rfl, rfl, _, _, rfl, rfl, _, _, rfl, rfl, rfl⟩) (rfl) rfl ?_)
              refine V.cond rfl (fun hc10 => ?_) (fun hc10 => ?_)
              ·
               replace hm2 := cond_t hc10 hm2
               refine V.seq (V.region (VO.cons rfl (V1.as ?_)))
               refine VO.nil (V.ret ?_)
               obtain rfl := hr2 _ (oi hm2).symm
               change some _ = some _ at hm1
               obtain rfl := hr1 _ (oi hm1).symm
               change some _ = some _ at hm0
               obtain rfl := oi hm0
               exact ⟨_, [], ⟨_, _, rfl, rfl, rfl⟩, List.nil_sublist _, rfl, rfl⟩
              ·
               replace hm2 := cond_f hc10 hm2
               refine V.skip ?_
               refine V.region (VO.cons rfl (V1.mv ?_))
               refine VO.cons rfl (V1.it ?_)
               refine VO.cons rfl (V1.as ?_)
               refine VO.nil ?_
               exact ⟨(m1, (IntKind.i64.wrap (k + (1 : Int))), ()), hl2 _ (oi hm2).symm, Nat.lt_succ_self _, Keeps.mk (ks := []) rfl ⟨rfl, rfl, rfl, rfl, rfl, rfl, rfl, rfl, trivial⟩ (rfl) rfl⟩
             ·
              replace hm2 := cond_f hc9 hm2
              refine V.exit ?_
              obtain rfl := hr2 _ (oi hm2).symm
              exact ⟨((), ()), rfl, Keeps.mk (ks := []) rfl ⟨rfl, rfl, rfl, rfl, rfl, rfl, rfl, trivial⟩ (rfl) rfl⟩
            ·
             rintro ⟨_, _⟩ rfl
             try dsimp only at hm1
             refine V.region (VO.cons rfl (V1.mv ?_))
             refine VO.cons rfl (V1.it ?_)
             refine VO.cons rfl (V1.as ?_)
             refine VO.nil ?_
             exact ⟨(m0, (IntKind.i64.wrap (i + (1 : Int))), ()), hl1 _ (oi hm1).symm, Nat.lt_succ_self _, Keeps.mk (ks := []) rfl ⟨rfl, rfl, rfl, rfl, rfl, rfl, rfl, trivial⟩ (rfl) rfl⟩
           ·
            replace hm1 := cond_f hc8 hm1
            refine V.exit ?_
            obtain rfl := hr1 _ (oi hm1).symm
            exact ⟨((), ()), rfl, Keeps.mk (ks := []) rfl ⟨rfl, trivial⟩ (rfl) rfl⟩
          ·
           rintro ⟨_, _⟩ rfl
           try dsimp only at hm0
           refine V.seq ?_
           replace hm0 := bindO hm0; rcases hm0 with ⟨y19, hh22, hm0⟩
           refine V.region (VO.cons rfl (V1.mv ?_))
           refine VO.cons rfl (V1.call rfl rfl rfl cok_49 rfl (ok_spec_DrawFindFile hh22) rfl lt0 ?_)
           rintro _ _ ⟨b6, rfl, rfl⟩
           refine VO.cons rfl (V1.mv ?_)
           refine VO.cons rfl (V1.extract rfl rfl rfl rfl lt0 ?_)
           refine VO.weakenK (Keeps.freezeG 0 rn [(239, .vl rn 5 (List.map (encCarton rn) y19.1))] ([]) (f := (encCarton rn)) (l := y19.1) rfl (fun _ => rfl) ⟨⟨_, rfl, .here⟩, trivial⟩ rfl rfl iNil) ?_
           refine VO.cons rfl (V1.extract rfl rfl rfl rfl lt0 ?_)
           refine VO.cons rfl (V1.as ?_)
           refine VO.cons rfl (V1.as ?_)
           refine VO.nil (V.keep 275 [37, 38] [] (E0 := [(37, .vl rn 5 (List.map (encCarton rn) y19.1)), (38, .int .i64 y19.2)]) (H0 := []) rfl (⟨_, _, rfl, rfl, _, _, rfl, rfl, rfl⟩) (rfl) rfl ?_)
           refine V.seq ?_
           replace hm0 := bindO hm0; rcases hm0 with ⟨y20, hh23, hm0⟩
           refine V.region (VO.cons rfl (V1.mv ?_))
           refine VO.cons rfl (V1.mv ?_)
           refine VO.cons rfl (V1.call rfl rfl rfl cok_44 rfl (ok_impl_FindFile hh23) rfl lt0 ?_)
           rintro _ _ ⟨rfl, rfl⟩
           refine VO.cons rfl (V1.mv ?_)
           refine VO.cons rfl (V1.extract rfl rfl rfl rfl lt0 ?_)
           refine VO.cons rfl (V1.extract rfl rfl rfl rfl lt0 ?_)
           refine VO.cons rfl (V1.extract rfl rfl rfl rfl lt0 ?_)
           refine VO.cons rfl (V1.extract rfl rfl rfl rfl lt0 ?_)
           refine VO.cons rfl (V1.as ?_)
           refine VO.cons rfl (V1.as ?_)
           refine VO.cons rfl (V1.as ?_)
           refine VO.cons rfl (V1.as ?_)
           refine VO.nil (V.keep 275 [37, 38, 39, 40, 41, 42] [] (E0 := [(37, .vl rn 5 (List.map (encCarton rn) y19.1)), (38, .int .i64 y19.2), (39, .int .i64 y20.1), (40, .int .i64 y20.2.1), (41, .int .i64 y20.2.2.1), (42, .bool y20.2.2.2)]) (H0 := []) rfl (⟨_, _, rfl, rfl, _, _, rfl, rfl, _, _, rfl, rfl, _, _, rfl, rfl, _, _, rfl, rfl, _, _, rfl, rfl, rfl⟩) (rfl) rfl ?_)
           refine V.seq ?_
           replace hm0 := bindO hm0; rcases hm0 with ⟨y21, hh24, hm0⟩
           refine V.region (VO.cons rfl (V1.mv ?_))
           refine VO.cons rfl (V1.mv ?_)
           refine VO.cons rfl (V1.call rfl rfl rfl cok_50 rfl (ok_spec_FindFile hh24) rfl lt0 ?_)
           rintro _ _ ⟨rfl, rfl⟩
           refine VO.cons rfl (V1.mv ?_)
           refine VO.cons rfl (V1.extract rfl rfl rfl rfl lt0 ?_)
           refine VO.cons rfl (V1.extract rfl rfl rfl rfl lt0 ?_)
           refine VO.cons rfl (V1.extract rfl rfl rfl rfl lt0 ?_)
           refine VO.cons rfl (V1.extract rfl rfl rfl rfl lt0 ?_)
           refine VO.cons rfl (V1.as ?_)
           refine VO.cons rfl (V1.as ?_)
           refine VO.cons rfl (V1.as ?_)
           refine VO.cons rfl (V1.as ?_)
           refine VO.nil (V.keep 275 [39, 40, 41, 42, 43, 44, 45, 46] [] (E0 := [(39, .int .i64 y20.1), (40, .int .i64 y20.2.1), (41, .int .i64 y20.2.2.1), (42, .bool y20.2.2.2), (43, .int .i64 y21.1), (44, .int .i64 y21.2.1), (45, .int .i64 y21.2.2.1), (46, .bool y21.2.2.2)]) (H0 := []) rfl (⟨_, _, rfl, rfl, _, _, rfl, rfl, _, _, rfl, rfl, _, _, rfl, rfl, _, _, rfl, rfl, _, _, rfl, rfl, _, _, rfl, rfl, _, _, rfl, rfl, rfl⟩) (rfl) rfl ?_)
           refine V.seq (V.region (VO.cons rfl (V1.mv ?_)))
           refine VO.cons rfl (V1.mv ?_)
           refine VO.cons rfl (V1.it ?_)
           refine VO.cons rfl (V1.mv ?_)
           apply VO.and (n := 3) rfl rfl rfl rfl rfl rfl lt0 (.none rfl)
           ·
            intro hg10
            refine VO.step (.some rfl rfl rfl) (V1.mv ?_)
            refine VO.step (.some rfl rfl rfl) (V1.mv ?_)
            refine VO.step (.some rfl rfl rfl) (V1.it ?_)
            exact VO.nil ⟨rfl, rfl, rfl, rfl, .inr ⟨rfl, .inr ⟨rfl, .inr ⟨rfl, .inr ⟨rfl, .inl rfl⟩⟩⟩⟩⟩
           refine VO.cons rfl (V1.mv ?_)
           apply VO.and (n := 3) rfl rfl rfl rfl rfl rfl lt0 (.none rfl)
           ·
            intro hg11
            refine VO.step (.some rfl rfl rfl) (V1.mv ?_)
            refine VO.step (.some rfl rfl rfl) (V1.mv ?_)
            refine VO.step (.some rfl rfl rfl) (V1.it ?_)
            exact VO.nil ⟨rfl, rfl, rfl, rfl, .inr ⟨rfl, .inr ⟨rfl, .inr ⟨rfl, .inr ⟨rfl, .inl rfl⟩⟩⟩⟩⟩
           refine VO.cons rfl (V1.mv ?_)
           apply VO.and (n := 3) rfl rfl rfl rfl rfl rfl lt0 (.none rfl)
           ·
            intro hg12
            refine VO.step (.some rfl rfl rfl) (V1.mv ?_)
            refine VO.step (.some rfl rfl rfl) (V1.mv ?_)
            refine VO.step (.some rfl rfl rfl) (V1.boolEql rfl rfl und_4 rfl rfl lt0 ?_)
            exact VO.nil ⟨rfl, rfl, rfl, rfl, .inr ⟨rfl, .inr ⟨rfl, .inr ⟨rfl, .inr ⟨rfl, .inl rfl⟩⟩⟩⟩⟩
           refine VO.cons rfl (V1.as ?_)
           refine VO.nil (V.ret ?_)
           obtain rfl := oi hm0
           exact ⟨_, [], ⟨_, _, rfl, rfl, rfl⟩, List.nil_sublist _, rfl, rfl⟩
        ·
         refine V.keepT 275 [0, 24, 25, 26, 27, 28] [0] (E0 := [(0, .vl ρ0 1 (List.map encU8 code)), (24, .vl rn 5 (List.map (encCarton rn) y12.1)), (25, .int .i64 y12.2.1), (26, .int .i64 y12.2.2), (27, .sref ob2 5 0 (List.length y13.1)), (28, .bool y13.2)]) (A := [(ob2, ⟨5, deepC cellCarton ts_622 y13.1⟩)]) (T := os_622) (H0 := [(ob2, ⟨5, deepC cellCarton ts_622 y13.1⟩)]) (T' := os_622) rfl (⟨_, _, rfl, rfl, _, _, rfl, rfl, _, _, rfl, rfl, _, _, rfl, rfl, _, _, rfl, rfl, _, _, rfl, rfl, rfl⟩) rfl (⟨_, _, rfl, rfl, rfl⟩) rfl (List.Sublist.refl _) ?_
         refine V.seq (V.seq ?_)
         replace hm0 := bindO hm0; rcases hm0 with ⟨y14, hh14, hm0⟩
         refine V.region (VO.cons rfl (V1.mv ?_))
         refine VO.cons rfl (V1.mv ?_)
         refine VO.cons rfl (V1.mv ?_)
         refine VO.cons rfl (V1.call rfl rfl rfl cok_37 rfl (ok_spec_MergeCartons hh14) rfl lt0 ?_)
         rintro _ _ ⟨b5, rfl, rfl⟩
         refine VO.cons rfl (V1.mv ?_)
         refine VO.cons rfl (V1.extract rfl rfl rfl rfl lt0 ?_)
         refine VO.weakenK (Keeps.freezeG 0 rn [(167, .vl rn 5 (List.map (encCarton rn) y14.1))] ((ob2, ⟨5, deepC cellCarton ts_622 y13.1⟩) :: os_622) (f := (encCarton rn)) (l := y14.1) rfl (fun _ => rfl) ⟨⟨_, rfl, .here⟩, trivial⟩ ⟨_, _, rfl, rfl, .inl rfl, FrzH.same⟩ rfl iNil) ?_
         refine VO.cons rfl (V1.extract rfl rfl rfl rfl lt0 ?_)
         refine VO.cons rfl (V1.as ?_)
         refine VO.cons rfl (V1.as ?_)
         refine VO.nil (V.keepT 275 [0, 24, 25, 26, 27, 28, 29, 30] [0] (E0 := [(0, .vl ρ0 1 (List.map encU8 code)), (24, .vl rn 5 (List.map (encCarton rn) y12.1)), (25, .int .i64 y12.2.1), (26, .int .i64 y12.2.2), (27, .sref ob2 5 0 (List.length y13.1)), (28, .bool y13.2), (29, .vl rn 5 (List.map (encCarton rn) y14.1)), (30, .bool y14.2)]) (A := [(ob2, ⟨5, deepC cellCarton ts_622 y13.1⟩)]) (T := os_622) (H0 := [(ob2, ⟨5, deepC cellCarton ts_622 y13.1⟩)]) (T' := os_622) rfl (⟨_, _, rfl, rfl, _, _, rfl, rfl, _, _, rfl, rfl, _, _, rfl, rfl, _, _, rfl, rfl, _, _, rfl, rfl, _, _, rfl, rfl, _, _, rfl, rfl, rfl⟩) rfl (⟨_, _, rfl, rfl, rfl⟩) rfl (List.Sublist.refl _) ?_)
         refine V.seq ?_
         replace hm0 := bindO hm0; rcases hm0 with ⟨y15, hh15, hm0⟩
         refine V.region (VO.cons rfl (V1.mv ?_))
         refine VO.cons rfl (V1.mv ?_)
         refine VO.cons rfl (V1.boolNeq rfl rfl und_4 rfl rfl lt0 ?_)
         refine VO.cons rfl (V1.mv ?_)
         apply VO.or (n := 4) rfl rfl rfl rfl rfl rfl lt0 (.none rfl)
         ·
          intro hg6
          refine VO.step (.some rfl rfl rfl) (V1.mv ?_)
          refine VO.step (.some rfl rfl rfl) (V1.mv ?_)
          refine VO.step (.some rfl rfl rfl) (V1.callL (rn + 1) ([ob2] ++ List.map Prod.fst os_622) [.vl (rn + 1) 5 (List.map (encCarton (rn + 1)) y13.1), .vl rn 5 (List.map (encCarton rn) y14.1)] rfl rfl rfl cok_43 rfl ⟨_, _, rfl, Lend.deep (m := 1) (inn := (fun c_ : Carton => List.map encInt c_.Files)) (cell := cellCarton) cokCarton (ts := ts_622) (os := os_622) (xs := y13.1) 0 hd_622 rfl (fun _ => roL_map (fun _ => rfl) _) rfl (fun p hp => memTail (A := [(ob2, ⟨5, deepC cellCarton ts_622 y13.1⟩)]) (T := os_622) hp rfl) (List.mem_append_left _ (.head _)) (fun p hp => List.mem_append_right _ (List.mem_map.2 ⟨p, hp, rfl⟩)), ⟨_, _, rfl, .same _, rfl⟩⟩ (bwTail (A := [(ob2, ⟨5, deepC cellCarton ts_622 y13.1⟩)]) (T := os_622) rfl (bwCons (k := 0) rfl bwNil) (fun p hp => hp)) (ok_laws_rCartons (cond_f hg6 hh15)) rfl (⟨(by first | omega | (dsimp only; omega)), by rintro _ _ ⟨rfl, rfl⟩; exact ⟨rfl, by simp⟩⟩) lt0 ?_)
          rintro _ _ ⟨rfl, rfl⟩
          refine VO.step (.some rfl rfl rfl) (V1.not rfl rfl rfl lt0 ?_)
          exact VO.nil ⟨rfl, rfl, rfl, rfl, .inr ⟨rfl, .inr ⟨rfl, .inr ⟨rfl, .inr ⟨rfl, .inr ⟨rfl, .inl rfl⟩⟩⟩⟩⟩⟩
         refine VO.nil (V.keepT 275 [0, 24, 25, 26, 27, 28, 177] [0] (E0 := [(0, .vl ρ0 1 (List.map encU8 code)), (24, .vl rn 5 (List.map (encCarton rn) y12.1)), (25, .int .i64 y12.2.1), (26, .int .i64 y12.2.2), (27, .sref ob2 5 0 (List.length y13.1)), (28, .bool y13.2), (177, .bool ((!(y13.2 == y14.2)) || (!y15)))]) (A := [(ob2, ⟨5, deepC cellCarton ts_622 y13.1⟩)]) (T := os_622) (H0 := [(ob2, ⟨5, deepC cellCarton ts_622 y13.1⟩)]) (T' := os_622) rfl (⟨_, _, rfl, rfl, _, _, rfl, rfl, _, _, rfl, rfl, _, _, rfl, rfl, _, _, rfl, rfl, _, _, rfl, rfl, _, _, rfl, rfl, rfl⟩) rfl (⟨_, _, rfl, rfl, rfl⟩) rfl (List.Sublist.refl _) ?_)
         refine V.cond rfl (fun hc7 => ?_) (fun hc7 => ?_)
         ·
          replace hm0 := cond_t hc7 hm0
          refine V.seq (V.region (VO.cons rfl (V1.as ?_)))
          refine VO.nil (V.ret ?_)
          obtain rfl := oi hm0
          exact ⟨_, [], ⟨_, _, rfl, rfl, rfl⟩, List.nil_sublist _, rfl, rfl⟩
         ·
          replace hm0 := cond_f hc7 hm0
          refine V.skip ?_
          refine V.seq (V.seq (V.region (VO.cons rfl (V1.as ?_))))
          refine VO.nil ?_
          replace hm0 := bindO hm0; rcases hm0 with ⟨e0, he1, hm0⟩
          refine V.cutT (D := (Unit) × (Unit)) (fun ⟨_, _⟩ => ⟨275, [(0, .vl ρ0 1 (List.map encU8 code))], []⟩) (fun ⟨_, _⟩ => (.inl () = e0)) ?_ ?_
          ·
           refine V.block ?_
           refine V.keepT 275 [31, 0, 24, 25, 26, 27, 28] [0] (E0 := [(31, .int .i64 (0 : Int)), (0, .vl ρ0 1 (List.map encU8 code)), (24, .vl rn 5 (List.map (encCarton rn) y12.1)), (25, .int .i64 y12.2.1), (26, .int .i64 y12.2.2), (27, .sref ob2 5 0 (List.length y13.1)), (28, .bool y13.2)]) (A := [(ob2, ⟨5, deepC cellCarton ts_622 y13.1⟩)]) (T := os_622) (H0 := [(ob2, ⟨5, deepC cellCarton ts_622 y13.1⟩)]) (T' := os_622) rfl (⟨_, _, rfl, rfl, _, _, rfl, rfl, _, _, rfl, rfl, _, _, rfl, rfl, _, _, rfl, rfl, _, _, rfl, rfl, _, _, rfl, rfl, rfl⟩) rfl (⟨_, _, rfl, rfl, rfl⟩) rfl (List.Sublist.refl _) ?_
           refine V.loopE (D := Nat × (Int) × (Unit)) (fun ⟨n0, i, _⟩ => [(31, .int .i64 i)]) (fun ⟨n0, i, _⟩ => []) (fun ⟨n0, i, _⟩ => loopO (M.laws_FnCartons_l0 y12 y13) n0 i = some e0) (fun ⟨n0, _, _⟩ => n0) (rounds, (0 : Int), ()) rfl he1 ?_
           rintro ⟨n0, i, _⟩ hP0
           obtain ⟨m0, y16, rfl, hm1, hl1, hr1⟩ := loop_head hP0
           unfold M.laws_FnCartons_l0 at hm1; dsimp only at hm1
           show V _ _ _ ⟨275, [(31, .int .i64 i), (0, .vl ρ0 1 (List.map encU8 code)), (24, .vl rn 5 (List.map (encCarton rn) y12.1)), (25, .int .i64 y12.2.1), (26, .int .i64 y12.2.2), (27, .sref ob2 5 0 (List.length y13.1)), (28, .bool y13.2)], (([(ob2, ⟨5, deepC cellCarton ts_622 y13.1⟩)] : List (Nat × Obj')) ++ os_622)⟩
           refine V.seq (V.seq (V.region (VO.cons rfl (V1.mv ?_))))
           refine VO.cons rfl (V1.mv ?_)
           refine VO.cons rfl (V1.lenMap rfl rfl rfl rfl rfl rfl isl_39 lt0 ?_)
           refine VO.cons rfl (V1.it ?_)
           refine VO.cons rfl (V1.mv ?_)
           apply VO.and (n := 1) rfl rfl rfl rfl rfl rfl lt0 (.none rfl)
           ·
            intro hg7
            refine VO.step (.some rfl rfl rfl) (V1.mv ?_)
            exact VO.nil ⟨rfl, rfl, rfl, rfl, .inr ⟨rfl, .inr ⟨rfl, .inl rfl⟩⟩⟩
           refine VO.nil (V.keepT 275 [0, 24, 25, 26, 27, 28, 31, 184] [0] (E0 := [(0, .vl ρ0 1 (List.map encU8 code)), (24, .vl rn 5 (List.map (encCarton rn) y12.1)), (25, .int .i64 y12.2.1), (26, .int .i64 y12.2.2), (27, .sref ob2 5 0 (List.length y13.1)), (28, .bool y13.2), (31, .int .i64 i), (184, .bool ((decide (i < (y12.1.length : Int))) && y13.2))]) (A := [(ob2, ⟨5, deepC cellCarton ts_622 y13.1⟩)]) (T := os_622) (H0 := [(ob2, ⟨5, deepC cellCarton ts_622 y13.1⟩)]) (T' := os_622) rfl (⟨_, _, rfl, rfl, _, _, rfl, rfl, _, _, rfl, rfl, _, _, rfl, rfl, _, _, rfl, rfl, _, _, rfl, rfl, _, _, rfl, rfl, _, _, rfl, rfl, rfl⟩) rfl (⟨_, _, rfl, rfl, rfl⟩) rfl (List.Sublist.refl _) ?_)
           refine V.cond rfl (fun hc8 => ?_) (fun hc8 => ?_)
           ·
            replace hm1 := cond_t hc8 hm1
            refine V.skip ?_
            refine V.seq (V.block ?_)
            refine V.seq (V.region (VO.cons rfl (V1.as ?_)))
            refine VO.nil ?_
            replace hm1 := bindO hm1; rcases hm1 with ⟨e1, he2, hm1⟩
            refine V.cutT (D := (Unit) × (Unit)) (fun ⟨_, _⟩ => ⟨275, [(0, .vl ρ0 1 (List.map encU8 code)), (24, .vl rn 5 (List.map (encCarton rn) y12.1)), (25, .int .i64 y12.2.1), (26, .int .i64 y12.2.2), (27, .sref ob2 5 0 (List.length y13.1)), (28, .bool y13.2), (31, .int .i64 i)], ([(ob2, ⟨5, deepC cellCarton ts_622 y13.1⟩)]) ++ os_622⟩) (fun ⟨_, _⟩ => (.inl () = e1)) ?_ ?_
            ·
             refine V.block ?_
             refine V.keepT 275 [32, 0, 24, 25, 26, 27, 28, 31] [0] (E0 := [(32, .int .i64 (0 : Int)), (0, .vl ρ0 1 (List.map encU8 code)), (24, .vl rn 5 (List.map (encCarton rn) y12.1)), (25, .int .i64 y12.2.1), (26, .int .i64 y12.2.2), (27, .sref ob2 5 0 (List.length y13.1)), (28, .bool y13.2), (31, .int .i64 i)]) (A := [(ob2, ⟨5, deepC cellCarton ts_622 y13.1⟩)]) (T := os_622) (H0 := [(ob2, ⟨5, deepC cellCarton ts_622 y13.1⟩)]) (T' := os_622) rfl (⟨_, _, rfl, rfl, _, _, rfl, rfl, _, _, rfl, rfl, _, _, rfl, rfl, _, _, rfl, rfl, _, _, rfl, rfl, _, _, rfl, rfl, _, _, rfl, rfl, rfl⟩) rfl (⟨_, _, rfl, rfl, rfl⟩) rfl (List.Sublist.refl _) ?_
             refine V.loopE (D := Nat × (Int) × (Unit)) (fun ⟨n1, k, _⟩ => [(32, .int .i64 k)]) (fun ⟨n1, k, _⟩ => []) (fun ⟨n1, k, _⟩ => loopO (M.laws_FnCartons_l1 y12 y13 i) n1 k = some e1) (fun ⟨n1, _, _⟩ => n1) (rounds, (0 : Int), ()) rfl he2 ?_
             rintro ⟨n1, k, _⟩ hP1
             obtain ⟨m1, y17, rfl, hm2, hl2, hr2⟩ := loop_head hP1
             unfold M.laws_FnCartons_l1 at hm2; dsimp only at hm2
             show V _ _ _ ⟨275, [(32, .int .i64 k), (0, .vl ρ0 1 (List.map encU8 code)), (24, .vl rn 5 (List.map (encCarton rn) y12.1)), (25, .int .i64 y12.2.1), (26, .int .i64 y12.2.2), (27, .sref ob2 5 0 (List.length y13.1)), (28, .bool y13.2), (31, .int .i64 i)], (([(ob2, ⟨5, deepC cellCarton ts_622 y13.1⟩)] : List (Nat × Obj')) ++ os_622)⟩
             refine V.seq (V.seq ?_)
             replace hm2 := asrt_some hm2; rcases hm2 with ⟨hh16, hm2⟩
             refine V.region (VO.cons rfl (V1.mv ?_))
             refine VO.cons rfl (V1.mv ?_)
             refine VO.cons rfl (V1.mv ?_)
             refine VO.cons rfl (V1.indexI rfl rfl esz_39 rfl rfl hh16 lt0 ?_)
             refine VO.cons rfl (V1.fieldPin rfl rfl fo_67_3 rfl lt0 ?_)
             refine VO.cons rfl (V1.loadPin rfl rfl tyk_36 rfl rfl lt0 ?_)
             refine VO.cons rfl (V1.lenMap rfl rfl rfl rfl rfl rfl isl_36 lt0 ?_)
             refine VO.cons rfl (V1.it ?_)
             refine VO.nil (V.keepT 275 [0, 24, 25, 26, 27, 28, 31, 32, 194] [0] (E0 := [(0, .vl ρ0 1 (List.map encU8 code)), (24, .vl rn 5 (List.map (encCarton rn) y12.1)), (25, .int .i64 y12.2.1), (26, .int .i64 y12.2.2), (27, .sref ob2 5 0 (List.length y13.1)), (28, .bool y13.2), (31, .int .i64 i), (32, .int .i64 k), (194, .bool (decide (k < (((y12.1.getD (Int.toNat i) default).Files).length : Int))))]) (A := [(ob2, ⟨5, deepC cellCarton ts_622 y13.1⟩)]) (T := os_622) (H0 := [(ob2, ⟨5, deepC cellCarton ts_622 y13.1⟩)]) (T' := os_622) rfl (⟨_, _, rfl, rfl, _, _, rfl, rfl, _, _, rfl, rfl, _, _, rfl, rfl, _, _, rfl, rfl, _, _, rfl, rfl, _, _, rfl, rfl, _, _, rfl, rfl, _, _, rfl, rfl, rfl⟩) rfl (⟨_, _, rfl, rfl, rfl⟩) rfl (List.Sublist.refl _) ?_)
             refine V.cond rfl (fun hc9 => ?_) (fun hc9 => ?_)
             ·
              replace hm2 := cond_t hc9 hm2
              refine V.skip ?_
              refine V.seq (V.block ?_)
              refine V.seq ?_
              replace hm2 := asrt_some hm2; rcases hm2 with ⟨hh17, hm2⟩
              replace hm2 := asrt_some hm2; rcases hm2 with ⟨hh18, hm2⟩
              replace hm2 := bindO hm2; rcases hm2 with ⟨y18, hh19, hm2⟩
              refine V.region (VO.cons rfl (V1.mv ?_))
              refine VO.cons rfl (V1.mv ?_)
              refine VO.cons rfl (V1.mv ?_)
              refine VO.cons rfl (V1.indexI rfl rfl esz_39 rfl rfl hh17 lt0 ?_)
              refine VO.cons rfl (V1.fieldPin rfl rfl fo_67_3 rfl lt0 ?_)
              refine VO.cons rfl (V1.loadPin rfl rfl tyk_36 rfl rfl lt0 ?_)
              refine VO.cons rfl (V1.mv ?_)
              refine VO.cons rfl (V1.indexI rfl rfl esz_36 rfl rfl hh18 lt0 ?_)
              refine VO.cons rfl (V1.loadPin rfl rfl tyk_3 rfl rfl lt0 ?_)
              refine VO.cons rfl (V1.callL (rn + 1) ([ob2] ++ List.map Prod.fst os_622) [.vl (rn + 1) 5 (List.map (encCarton (rn + 1)) y13.1), .int .i64 (((y12.1.getD (Int.toNat i) default).Files).getD (Int.toNat k) default)] rfl rfl rfl cok_44 rfl ⟨_, _, rfl, Lend.deep (m := 1) (inn := (fun c_ : Carton => List.map encInt c_.Files)) (cell := cellCarton) cokCarton (ts := ts_622) (os := os_622) (xs := y13.1) 0 hd_622 rfl (fun _ => roL_map (fun _ => rfl) _) rfl (fun p hp => memTail (A := [(ob2, ⟨5, deepC cellCarton ts_622 y13.1⟩)]) (T := os_622) hp rfl) (List.mem_append_left _ (.head _)) (fun p hp => List.mem_append_right _ (List.mem_map.2 ⟨p, hp, rfl⟩)), ⟨_, _, rfl, .same _, rfl⟩⟩ (bwTail (A := [(ob2, ⟨5, deepC cellCarton ts_622 y13.1⟩)]) (T := os_622) rfl (bwCons (k := 0) rfl bwNil) (fun p hp => hp)) (ok_impl_FindFile hh19) rfl (⟨(by first | omega | (dsimp only; omega)), by rintro _ _ ⟨rfl, rfl⟩; exact ⟨rfl, by simp⟩⟩) lt0 ?_)
              rintro _ _ ⟨rfl, rfl⟩
              refine VO.cons rfl (V1.mv ?_)
              refine VO.cons rfl (V1.extract rfl rfl rfl rfl lt0 ?_)
              refine VO.cons rfl (V1.extract rfl rfl rfl rfl lt0 ?_)
              refine VO.cons rfl (V1.extract rfl rfl rfl rfl lt0 ?_)
              refine VO.cons rfl (V1.extract rfl rfl rfl rfl lt0 ?_)
              refine VO.cons rfl (V1.as ?_)
              refine VO.cons rfl (V1.as ?_)
              refine VO.cons rfl (V1.as ?_)
              refine VO.cons rfl (V1.as ?_)
              refine VO.nil (V.keepT 275 [0, 24, 25, 26, 27, 28, 31, 32, 33, 36] [0] (E0 := [(0, .vl ρ0 1 (List.map encU8 code)), (24, .vl rn 5 (List.map (encCarton rn) y12.1)), (25, .int .i64 y12.2.1), (26, .int .i64 y12.2.2), (27, .sref ob2 5 0 (List.length y13.1)), (28, .bool y13.2), (31, .int .i64 i), (32, .int .i64 k), (33, .int .i64 y18.1), (36, .bool y18.2.2.2)]) (A := [(ob2, ⟨5, deepC cellCarton ts_622 y13.1⟩)]) (T := os_622) (H0 := [(ob2, ⟨5, deepC cellCarton ts_622 y13.1⟩)]) (T' := os_622) rfl (⟨_, _, rfl, rfl, _, _, rfl, rfl, _, _, rfl, rfl, _, _, rfl, rfl, _, _, rfl, rfl, _, _, rfl, rfl, _, _, rfl, rfl, _, _, rfl, rfl, _, _, rfl, rfl, _, _, rfl, rfl, rfl⟩) rfl (⟨_, _, rfl, rfl, rfl⟩) rfl (List.Sublist.refl _) ?_)
              refine V.seq ?_
              replace hm2 := asrt_some hm2; rcases hm2 with ⟨hh20, hm2⟩
              replace hm2 := asrt_some hm2; rcases hm2 with ⟨hh21, hm2⟩
              refine V.region (VO.cons rfl (V1.mv ?_))
              refine VO.cons rfl (V1.not rfl rfl rfl lt0 ?_)
              refine VO.cons rfl (V1.mv ?_)
              apply VO.or (n := 20) rfl rfl rfl rfl rfl rfl lt0 (.none rfl)
              ·
               intro hg8
               refine VO.step (.some rfl rfl rfl) (V1.mv ?_)
               refine VO.step (.some rfl rfl rfl) (V1.mv ?_)
               refine VO.step (.some rfl rfl rfl) (V1.indexI rfl rfl esz_39 rfl rfl (hh20 hg8) lt0 ?_)
               refine VO.step (.some rfl rfl rfl) (V1.fieldPin rfl rfl fo_67_0 rfl lt0 ?_)
               refine VO.step (.some rfl rfl rfl) (V1.loadPin rfl rfl tyk_3 rfl rfl lt0 ?_)
               refine VO.step (.some rfl rfl rfl) (V1.mv ?_)
               refine VO.step (.some rfl rfl rfl) (V1.it ?_)
               refine VO.step (.some rfl rfl rfl) (V1.mv ?_)
               apply VO.or (n := 7) rfl rfl rfl rfl rfl rfl lt0 (.some rfl rfl rfl)
               ·
                intro hg9
                refine VO.step (.some rfl rfl rfl) (V1.mv ?_)
                refine VO.step (.some rfl rfl rfl) (V1.mv ?_)
                refine VO.step (.some rfl rfl rfl) (V1.indexI rfl rfl esz_39 rfl rfl (hh21 hg8 hg9) lt0 ?_)
                refine VO.step (.some rfl rfl rfl) (V1.fieldPin rfl rfl fo_67_0 rfl lt0 ?_)
                refine VO.step (.some rfl rfl rfl) (V1.loadPin rfl rfl tyk_3 rfl rfl lt0 ?_)
                refine VO.step (.some rfl rfl rfl) (V1.mv ?_)
                refine VO.step (.some rfl rfl rfl) (V1.it ?_)
                exact VO.nil ⟨rfl, rfl, rfl, rfl, .inr ⟨rfl, .inr ⟨rfl, .inr ⟨rfl, .inr ⟨rfl, .inr ⟨rfl, .inr ⟨rfl, .inr ⟨rfl, .inr ⟨rfl, .inl rfl⟩⟩⟩⟩⟩⟩⟩⟩⟩
               refine VO.step (.some rfl rfl rfl) (V1.mv ?_)
               refine VO.step (.some rfl rfl rfl) (V1.mv ?_)
               refine VO.step (.some rfl rfl rfl) (V1.it ?_)
               refine VO.step (.some rfl rfl rfl) (V1.boolNeq rfl rfl und_4 rfl rfl lt0 ?_)
               exact VO.nil ⟨rfl, rfl, rfl, rfl, .inr ⟨rfl, .inr ⟨rfl, .inr ⟨rfl, .inr ⟨rfl, .inr ⟨rfl, .inr ⟨rfl, .inr ⟨rfl, .inr ⟨rfl, .inr ⟨rfl, .inr ⟨rfl, .inr ⟨rfl, .inr ⟨rfl, .inr ⟨rfl, .inr ⟨rfl, .inl rfl⟩⟩⟩⟩⟩⟩⟩⟩⟩⟩⟩⟩⟩⟩⟩
              refine VO.nil (V.keepT 275 [0, 24, 25, 26, 27, 28, 31, 32, 235] [0] (E0 := [(0, .vl ρ0 1 (List.map encU8 code)), (24, .vl rn 5 (List.map (encCarton rn) y12.1)), (25, .int .i64 y12.2.1), (26, .int .i64 y12.2.2), (27, .sref ob2 5 0 (List.length y13.1)), (28, .bool y13.2), (31, .int .i64 i), (32, .int .i64 k), (235, .bool ((!y18.2.2.2) || (!(((((y12.1.getD (Int.toNat i) default).Id) == y12.2.1) || (((y12.1.getD (Int.toNat i) default).Id) == y12.2.2)) == (y18.1 == y12.2.1)))))]) (A := [(ob2, ⟨5, deepC cellCarton ts_622 y13.1⟩)]) (T := os_622) (H0 := [(ob2, ⟨5, deepC cellCarton ts_622 y13.1⟩)]) (T' := os_622) rfl (⟨_, _, rfl, rfl, _, _, rfl, rfl, _, _, rfl, rfl, _, _, rfl, rfl, _, _, rfl, rfl, _, _, rfl, rfl, _, _, rfl, rfl, _, _, rfl, rfl, _, _, rfl, rfl, rfl⟩) rfl (⟨_, _, rfl, rfl, rfl⟩) rfl (List.Sublist.refl _) ?_)
              refine V.cond rfl (fun hc10 => ?_) (fun hc10 => ?_)
              ·
               replace hm2 := cond_t hc10 hm2
               refine V.seq (V.region (VO.cons rfl (V1.as ?_)))
               refine VO.nil (V.ret ?_)
               obtain rfl := hr2 _ (oi hm2).symm
               change some _ = some _ at hm1
               obtain rfl := hr1 _ (oi hm1).symm
               change some _ = some _ at hm0
               obtain rfl := oi hm0
               exact ⟨_, [], ⟨_, _, rfl, rfl, rfl⟩, List.nil_sublist _, rfl, rfl⟩
              ·
               replace hm2 := cond_f hc10 hm2
               refine V.skip ?_
               refine V.region (VO.cons rfl (V1.mv ?_))
               refine VO.cons rfl (V1.it ?_)
               refine VO.cons rfl (V1.as ?_)
               refine VO.nil ?_
               exact ⟨(m1, (IntKind.i64.wrap (k + (1 : Int))), ()), hl2 _ (oi hm2).symm, Nat.lt_succ_self _, Keeps.mkT (A := [(ob2, ⟨5, deepC cellCarton ts_622 y13.1⟩)]) (T := os_622) (T' := os_622) (H := [(ob2, ⟨5, deepC cellCarton ts_622 y13.1⟩)]) (ks := [0]) rfl (by exact ⟨rfl, rfl, rfl, rfl, rfl, rfl, rfl, rfl, trivial⟩) rfl (by exact (⟨_, _, rfl, rfl, rfl⟩)) rfl (List.Sublist.refl _)⟩
             ·
              replace hm2 := cond_f hc9 hm2
              refine V.exit ?_
              obtain rfl := hr2 _ (oi hm2).symm
              exact ⟨((), ()), rfl, Keeps.mkT (A := [(ob2, ⟨5, deepC cellCarton ts_622 y13.1⟩)]) (T := os_622) (T' := os_622) (H := [(ob2, ⟨5, deepC cellCarton ts_622 y13.1⟩)]) (ks := [0]) rfl (by exact ⟨rfl, rfl, rfl, rfl, rfl, rfl, rfl, trivial⟩) rfl (by exact (⟨_, _, rfl, rfl, rfl⟩)) rfl (List.Sublist.refl _)⟩
            ·
             rintro ⟨_, _⟩ rfl
             try dsimp only at hm1
             refine V.region (VO.cons rfl (V1.mv ?_))
             refine VO.cons rfl (V1.it ?_)
             refine VO.cons rfl (V1.as ?_)
             refine VO.nil ?_
             exact ⟨(m0, (IntKind.i64.wrap (i + (1 : Int))), ()), hl1 _ (oi hm1).symm, Nat.lt_succ_self _, Keeps.mkT (A := [(ob2, ⟨5, deepC cellCarton ts_622 y13.1⟩)]) (T := os_622) (T' := os_622) (H := [(ob2, ⟨5, deepC cellCarton ts_622 y13.1⟩)]) (ks := [0]) rfl (by exact ⟨rfl, rfl, rfl, rfl, rfl, rfl, rfl, trivial⟩) rfl (by exact (⟨_, _, rfl, rfl, rfl⟩)) rfl (List.Sublist.refl _)⟩
           ·
            replace hm1 := cond_f hc8 hm1
            refine V.exit ?_
            obtain rfl := hr1 _ (oi hm1).symm
            exact ⟨((), ()), rfl, Keeps.mkT (A := [(ob2, ⟨5, deepC cellCarton ts_622 y13.1⟩)]) (T := os_622) (T' := []) (H := []) (ks := []) rfl (by exact ⟨rfl, trivial⟩) rfl (by exact (rfl)) rfl (List.nil_sublist _)⟩
          ·
           rintro ⟨_, _⟩ rfl
           try dsimp only at hm0
           refine V.seq ?_
           replace hm0 := bindO hm0; rcases hm0 with ⟨y19, hh22, hm0⟩
           refine V.region (VO.cons rfl (V1.mv ?_))
           refine VO.cons rfl (V1.call rfl rfl rfl cok_49 rfl (ok_spec_DrawFindFile hh22) rfl lt0 ?_)
           rintro _ _ ⟨b6, rfl, rfl⟩
           refine VO.cons rfl (V1.mv ?_)
           refine VO.cons rfl (V1.extract rfl rfl rfl rfl lt0 ?_)
           refine VO.weakenK (Keeps.freezeG 0 rn [(239, .vl rn 5 (List.map (encCarton rn) y19.1))] ([]) (f := (encCarton rn)) (l := y19.1) rfl (fun _ => rfl) ⟨⟨_, rfl, .here⟩, trivial⟩ rfl rfl iNil) ?_
           refine VO.cons rfl (V1.extract rfl rfl rfl rfl lt0 ?_)
           refine VO.cons rfl (V1.as ?_)
           refine VO.cons rfl (V1.as ?_)
           refine VO.nil (V.keep 275 [37, 38] [] (E0 := [(37, .vl rn 5 (List.map (encCarton rn) y19.1)), (38, .int .i64 y19.2)]) (H0 := []) rfl (⟨_, _, rfl, rfl, _, _, rfl, rfl, rfl⟩) (rfl) rfl ?_)
           refine V.seq ?_
           replace hm0 := bindO hm0; rcases hm0 with ⟨y20, hh23, hm0⟩
           refine V.region (VO.cons rfl (V1.mv ?_))
           refine VO.cons rfl (V1.mv ?_)
           refine VO.cons rfl (V1.call rfl rfl rfl cok_44 rfl (ok_impl_FindFile hh23) rfl lt0 ?_)
           rintro _ _ ⟨rfl, rfl⟩
           refine VO.cons rfl (V1.mv ?_)
           refine VO.cons rfl (V1.extract rfl rfl rfl rfl lt0 ?_)
           refine VO.cons rfl (V1.extract rfl rfl rfl rfl lt0 ?_)
           refine VO.cons rfl (V1.extract rfl rfl rfl rfl lt0 ?_)
           refine VO.cons rfl (V1.extract rfl rfl rfl rfl lt0 ?_)
           refine VO.cons rfl (V1.as ?_)
           refine VO.cons rfl (V1.as ?_)
           refine VO.cons rfl (V1.as ?_)
           refine VO.cons rfl (V1.as ?_)
           refine VO.nil (V.keep 275 [37, 38, 39, 40, 41, 42] [] (E0 := [(37, .vl rn 5 (List.map (encCarton rn) y19.1)), (38, .int .i64 y19.2), (39, .int .i64 y20.1), (40, .int .i64 y20.2.1), (41, .int .i64 y20.2.2.1), (42, .bool y20.2.2.2)]) (H0 := []) rfl (⟨_, _, rfl, rfl, _, _, rfl, rfl, _, _, rfl, rfl, _, _, rfl, rfl, _, _, rfl, rfl, _, _, rfl, rfl, rfl⟩) (rfl) rfl ?_)
           refine V.seq ?_
           replace hm0 := bindO hm0; rcases hm0 with ⟨y21, hh24, hm0⟩
           refine V.region (VO.cons rfl (V1.mv ?_))
           refine VO.cons rfl (V1.mv ?_)
           refine VO.cons rfl (V1.call rfl rfl rfl cok_50 rfl (ok_spec_FindFile hh24) rfl lt0 ?_)
           rintro _ _ ⟨rfl, rfl⟩
           refine VO.cons rfl (V1.mv ?_)
           refine VO.cons rfl (V1.extract rfl rfl rfl rfl lt0 ?_)
           refine VO.cons rfl (V1.extract rfl rfl rfl rfl lt0 ?_)
           refine VO.cons rfl (V1.extract rfl rfl rfl rfl lt0 ?_)
           refine VO.cons rfl (V1.extract rfl rfl rfl rfl lt0 ?_)
           refine VO.cons rfl (V1.as ?_)
           refine VO.cons rfl (V1.as ?_)
           refine VO.cons rfl (V1.as ?_)
           refine VO.cons rfl (V1.as ?_)
           refine VO.nil (V.keep 275 [39, 40, 41, 42, 43, 44, 45, 46] [] (E0 := [(39, .int .i64 y20.1), (40, .int .i64 y20.2.1), (41, .int .i64 y20.2.2.1), (42, .bool y20.2.2.2), (43, .int .i64 y21.1), (44, .int .i64 y21.2.1), (45, .int .i64 y21.2.2.1), (46, .bool y21.2.2.2)]) (H0 := []) rfl (⟨_, _, rfl, rfl, _, _, rfl, rfl, _, _, rfl, rfl, _, _, rfl, rfl, _, _, rfl, rfl, _, _, rfl, rfl, _, _, rfl, rfl, _, _, rfl, rfl, rfl⟩) (rfl) rfl ?_)
           refine V.seq (V.region (VO.cons rfl (V1.mv ?_)))
           refine VO.cons rfl (V1.mv ?_)
           refine VO.cons rfl (V1.it ?_)
           refine VO.cons rfl (V1.mv ?_)
           apply VO.and (n := 3) rfl rfl rfl rfl rfl rfl lt0 (.none rfl)
           ·
            intro hg10
            refine VO.step (.some rfl rfl rfl) (V1.mv ?_)
            refine VO.step (.some rfl rfl rfl) (V1.mv ?_)
            refine VO.step (.some rfl rfl rfl) (V1.it ?_)
            exact VO.nil ⟨rfl, rfl, rfl, rfl, .inr ⟨rfl, .inr ⟨rfl, .inr ⟨rfl, .inr ⟨rfl, .inl rfl⟩⟩⟩⟩⟩
           refine VO.cons rfl (V1.mv ?_)
           apply VO.and (n := 3) rfl rfl rfl rfl rfl rfl lt0 (.none rfl)
           ·
            intro hg11
            refine VO.step (.some rfl rfl rfl) (V1.mv ?_)
            refine VO.step (.some rfl rfl rfl) (V1.mv ?_)
            refine VO.step (.some rfl rfl rfl) (V1.it ?_)
            exact VO.nil ⟨rfl, rfl, rfl, rfl, .inr ⟨rfl, .inr ⟨rfl, .inr ⟨rfl, .inr ⟨rfl, .inl rfl⟩⟩⟩⟩⟩
           refine VO.cons rfl (V1.mv ?_)
           apply VO.and (n := 3) rfl rfl rfl rfl rfl rfl lt0 (.none rfl)
           ·
            intro hg12
            refine VO.step (.some rfl rfl rfl) (V1.mv ?_)
            refine VO.step (.some rfl rfl rfl) (V1.mv ?_)
            refine VO.step (.some rfl rfl rfl) (V1.boolEql rfl rfl und_4 rfl rfl lt0 ?_)
            exact VO.nil ⟨rfl, rfl, rfl, rfl, .inr ⟨rfl, .inr ⟨rfl, .inr ⟨rfl, .inr ⟨rfl, .inl rfl⟩⟩⟩⟩⟩
           refine VO.cons rfl (V1.as ?_)
           refine VO.nil (V.ret ?_)
           obtain rfl := oi hm0
           exact ⟨_, [], ⟨_, _, rfl, rfl, rfl⟩, List.nil_sublist _, rfl, rfl⟩
end Go.Proofs.Ytfebeomnlkfgoaa
