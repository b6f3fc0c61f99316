/- the functions do what their models say -/
import Derived.Test.YtjfpdbhjoofllaaGreatQp3
set_option linter.unusedSimpArgs false
set_option linter.unusedVariables false
set_option maxRecDepth 100000
set_option maxHeartbeats 4000000
namespace Go.Proofs.YtjfpdbhjoofllaaGreat
open Go.VS

theorem ok_impl_DecidingRule {ρ0 ρ1 rn : Nat} {r_ : Record} {schedule : List Rule} {r : Rule × Bool} (h : M.impl_DecidingRule r_ schedule = some r) : Does Tryz.prog 21 [encRecord ρ0 r_, .vl ρ1 4 (List.map encRule schedule)] [] rn (fun x H => x = .tup [encRule r.1, .bool r.2] ∧ H = []) := by
 have hm0 := h; clear h; unfold M.impl_DecidingRule at hm0
 try dsimp only at hm0
 refine Does.intro (N := 23) Tryz.func21 rfl rfl rfl rfl ?_
 intro w0 S0
 refine V.seq ?_
 refine V.region ?_
 refine VO.cons rfl (V1.boxN (n := 4) rfl rfl rfl rfl rfl (ltb rfl) ?_)
 intro b0
 refine VO.cons rfl (V1.alloc rfl rfl zk_43 (ltb rfl) ?_)
 intro b1
 refine VO.cons rfl (V1.assign rfl rfl rfl (ltb rfl) ?_)
 refine VO.nil ?_
 refine V.seq ?_
 refine V.seq ?_
 replace hm0 := bindO hm0; rcases hm0 with ⟨y0, hh0, hm0⟩
 refine V.region ?_
 refine VO.cons rfl (V1.loadRefAll (k := 1) rfl rfl tyk_51 rfl rfl rfl rfl rfl (ltb rfl) ?_)
 refine VO.cons rfl (V1.move rfl rfl rfl (ltb rfl) ?_)
 refine VO.cons rfl (V1.call rfl rfl rfl cok_46 rfl (ok_impl_areBoth hh0) rfl (ltb rfl) ?_)
 rintro _ _ ⟨rfl, rfl⟩
 refine VO.cons rfl (V1.not rfl rfl rfl (ltb rfl) ?_)
 refine VO.nil ?_
 refine V.keep 23 [1, 2, 4, 12] [0, 1] (E0 := [(1, .vl ρ1 4 (List.map encRule schedule)), (2, .ref b0 4 0 0), (4, .ref b1 4 0 0), (12, .bool (!y0))]) (H0 := [(b1, ⟨4, [.agg [.int .i64 (0 : Int), .int .i64 (0 : Int), .int .i64 (0 : Int), .int .i64 (0 : Int)]]⟩), (b0, ⟨4, [encRecord ρ0 r_]⟩)]) rfl (⟨_, _, rfl, rfl, ⟨_, _, rfl, rfl, ⟨_, _, rfl, rfl, ⟨_, _, rfl, rfl, rfl⟩⟩⟩⟩) (⟨_, _, rfl, rfl, ⟨_, _, rfl, rfl, rfl⟩⟩) rfl ?_
 refine V.cond rfl (fun hc0 => ?_) (fun hc0 => ?_)
 ·
  replace hm0 := cond_t hc0 hm0
  refine V.seq ?_
  refine V.region ?_
  refine VO.cons rfl (V1.build rfl rfl zk_43 pl_43 rfl rfl (ltb rfl) ?_)
  refine VO.cons rfl (V1.storeRefAll (k := 0) rfl rfl tyk_43 rfl rfl rfl rfl rfl rfl ?_)
  refine VO.cons rfl (V1.assign rfl rfl rfl (ltb rfl) ?_)
  refine VO.nil ?_
  refine V.ret ?_
  obtain rfl := Option.some.inj hm0
  exact ⟨_, [], ⟨_, _, rfl, ⟨_, _, 0, _, rfl, rfl, rfl, rfl, tyk_43, rfl⟩, ⟨_, _, rfl, rfl, rfl⟩⟩, List.nil_sublist _, rfl, rfl⟩
 ·
  replace hm0 := cond_f hc0 hm0
  refine V.skip ?_
  refine V.seq ?_
  replace hm0 := bindO hm0; rcases hm0 with ⟨y1, hh1, hm0⟩
  refine V.region ?_
  refine VO.cons rfl (V1.loadRefAll (k := 1) rfl rfl tyk_51 rfl rfl rfl rfl rfl (ltb rfl) ?_)
  refine VO.cons rfl (V1.move rfl rfl rfl (ltb rfl) ?_)
  refine VO.cons rfl (V1.call rfl rfl rfl cok_47 rfl (ok_impl_deciding hh1) rfl (ltb rfl) ?_)
  rintro _ _ ⟨rfl, rfl⟩
  refine VO.cons rfl (V1.move rfl rfl rfl (ltb rfl) ?_)
  refine VO.cons rfl (V1.extract rfl rfl rfl rfl (ltb rfl) ?_)
  refine VO.cons rfl (V1.extract rfl rfl rfl rfl (ltb rfl) ?_)
  refine VO.cons rfl (V1.extract rfl rfl rfl rfl (ltb rfl) ?_)
  refine VO.cons rfl (V1.alloc rfl rfl zk_43 (ltb rfl) ?_)
  intro b2
  refine VO.cons rfl (V1.storeRefAll (k := 0) rfl rfl tyk_43 rfl rfl rfl rfl rfl rfl ?_)
  refine VO.cons rfl (V1.assign rfl rfl rfl (ltb rfl) ?_)
  refine VO.cons rfl (V1.assign rfl rfl rfl (ltb rfl) ?_)
  refine VO.nil ?_
  refine V.keep 23 [4, 6, 8] [0, 1] (E0 := [(4, .ref b1 4 0 0), (6, .ref b2 4 0 0), (8, .bool y1.2.2)]) (H0 := [(b2, ⟨4, [encRule y1.1]⟩), (b1, ⟨4, [.agg [.int .i64 (0 : Int), .int .i64 (0 : Int), .int .i64 (0 : Int), .int .i64 (0 : Int)]]⟩)]) rfl (⟨_, _, rfl, rfl, ⟨_, _, rfl, rfl, ⟨_, _, rfl, rfl, rfl⟩⟩⟩) (⟨_, _, rfl, rfl, ⟨_, _, rfl, rfl, rfl⟩⟩) rfl ?_
  refine V.seq ?_
  refine V.region ?_
  refine VO.cons rfl (V1.loadRefAll (k := 0) rfl rfl tyk_43 rfl rfl rfl rfl rfl (ltb rfl) ?_)
  refine VO.cons rfl (V1.move rfl rfl rfl (ltb rfl) ?_)
  refine VO.cons rfl (V1.storeRefAll (k := 1) rfl rfl tyk_43 rfl rfl rfl rfl rfl rfl ?_)
  refine VO.cons rfl (V1.assign rfl rfl rfl (ltb rfl) ?_)
  refine VO.nil ?_
  refine V.ret ?_
  obtain rfl := Option.some.inj hm0
  exact ⟨_, [], ⟨_, _, rfl, ⟨_, _, 1, _, rfl, rfl, rfl, rfl, tyk_43, rfl⟩, ⟨_, _, rfl, rfl, rfl⟩⟩, List.nil_sublist _, rfl, rfl⟩

theorem ok_laws_FnExpected {ρ0 rn : Nat} {code : List Int} {r : Bool} (h : M.laws_FnExpected code = some r) : Does Tryz.prog 3 [.vl ρ0 1 (List.map encU8 code)] [] rn (fun x H => x = .bool r ∧ H = []) := by
 have hm0 := h; clear h; unfold M.laws_FnExpected at hm0
 try dsimp only at hm0
 refine Does.intro (N := 232) Tryz.func3 rfl rfl rfl rfl ?_
 intro w0 S0
 refine V.seq ?_
 refine V.region ?_
 refine VO.cons rfl (V1.assign rfl rfl rfl (ltb rfl) ?_)
 refine VO.nil ?_
 refine V.seq ?_
 refine V.seq ?_
 replace hm0 := bindO hm0; rcases hm0 with ⟨y0, hh0, hm0⟩
 refine V.region ?_
 refine VO.cons rfl (V1.move rfl rfl rfl (ltb rfl) ?_)
 refine VO.cons rfl (V1.call rfl rfl rfl cok_4 rfl (ok_laws_vBig hh0) rfl (ltb rfl) ?_)
 rintro _ _ ⟨rfl, rfl⟩
 refine VO.nil ?_
 refine V.cond rfl (fun hc0 => ?_) (fun hc0 => ?_)
 ·
  replace hm0 := cond_t hc0 hm0
  refine V.seq ?_
  refine V.region ?_
  refine VO.cons rfl (V1.assign rfl rfl rfl (ltb rfl) ?_)
  refine VO.nil ?_
  refine V.ret ?_
  obtain rfl := Option.some.inj hm0
  exact ⟨_, [], ⟨_, _, rfl, rfl, rfl⟩, List.nil_sublist _, rfl, rfl⟩
 ·
  replace hm0 := cond_f hc0 hm0
  refine V.skip ?_
  refine V.seq ?_
  replace hm0 := bindO hm0; rcases hm0 with ⟨y1, hh1, hm0⟩
  refine V.region ?_
  refine VO.cons rfl (V1.move rfl rfl rfl (ltb rfl) ?_)
  refine VO.cons rfl (V1.call rfl rfl rfl cok_5 rfl (ok_spec_DrawExpectedDay hh1) rfl (ltb rfl) ?_)
  rintro _ _ ⟨b0, rfl, rfl⟩
  refine VO.cons rfl (V1.move rfl rfl rfl (ltb rfl) ?_)
  refine VO.cons rfl (V1.extract rfl rfl rfl rfl (ltb rfl) ?_)
  refine VO.weakenK (Keeps.freezeG 0 rn [(40, .vl rn 3 (List.map encTrigger y1.1))] [] (f := encTrigger) (l := y1.1) rfl (fun _ => rfl) ⟨⟨_, rfl, .here⟩, trivial⟩ rfl rfl iNil) ?_
  refine VO.cons rfl (V1.extract rfl rfl rfl rfl (ltb rfl) ?_)
  refine VO.cons rfl (V1.assign rfl rfl rfl (ltb rfl) ?_)
  refine VO.cons rfl (V1.assign rfl rfl rfl (ltb rfl) ?_)
  refine VO.nil ?_
  refine V.keep 232 [0, 3, 4] [] (E0 := [(0, .vl ρ0 1 (List.map encU8 code)), (3, .vl rn 3 (List.map encTrigger y1.1)), (4, .int .i64 y1.2)]) (H0 := []) rfl (⟨_, _, rfl, rfl, ⟨_, _, rfl, rfl, ⟨_, _, rfl, rfl, rfl⟩⟩⟩) (rfl) rfl ?_
  refine V.seq ?_
  replace hm0 := bindO hm0; rcases hm0 with ⟨y2, hh2, hm0⟩
  refine V.region ?_
  refine VO.cons rfl (V1.move rfl rfl rfl (ltb rfl) ?_)
  refine VO.cons rfl (V1.move rfl rfl rfl (ltb rfl) ?_)
  refine VO.cons rfl (V1.call rfl rfl rfl cok_6 rfl (ok_impl_ExpectedDay hh2) rfl (ltb rfl) ?_)
  rintro _ _ ⟨rfl, rfl⟩
  refine VO.cons rfl (V1.move rfl rfl rfl (ltb rfl) ?_)
  refine VO.cons rfl (V1.extract rfl rfl rfl rfl (ltb rfl) ?_)
  refine VO.cons rfl (V1.extract rfl rfl rfl rfl (ltb rfl) ?_)
  refine VO.cons rfl (V1.assign rfl rfl rfl (ltb rfl) ?_)
  refine VO.cons rfl (V1.assign rfl rfl rfl (ltb rfl) ?_)
  refine VO.nil ?_
  refine V.keep 232 [0, 3, 4, 5, 6] [] (E0 := [(0, .vl ρ0 1 (List.map encU8 code)), (3, .vl rn 3 (List.map encTrigger y1.1)), (4, .int .i64 y1.2), (5, .int .i64 y2.1), (6, .bool y2.2)]) (H0 := []) rfl (⟨_, _, rfl, rfl, ⟨_, _, rfl, rfl, ⟨_, _, rfl, rfl, ⟨_, _, rfl, rfl, ⟨_, _, rfl, rfl, rfl⟩⟩⟩⟩⟩) (rfl) rfl ?_
  refine V.seq ?_
  refine V.seq ?_
  replace hm0 := bindO hm0; rcases hm0 with ⟨y3, hh3, hm0⟩
  refine V.region ?_
  refine VO.cons rfl (V1.move rfl rfl rfl (ltb rfl) ?_)
  refine VO.cons rfl (V1.move rfl rfl rfl (ltb rfl) ?_)
  refine VO.cons rfl (V1.call rfl rfl rfl cok_7 rfl (ok_spec_ExpectedDay hh3) rfl (ltb rfl) ?_)
  rintro _ _ ⟨rfl, rfl⟩
  refine VO.cons rfl (V1.move rfl rfl rfl (ltb rfl) ?_)
  refine VO.cons rfl (V1.extract rfl rfl rfl rfl (ltb rfl) ?_)
  refine VO.cons rfl (V1.extract rfl rfl rfl rfl (ltb rfl) ?_)
  refine VO.cons rfl (V1.assign rfl rfl rfl (ltb rfl) ?_)
  refine VO.cons rfl (V1.assign rfl rfl rfl (ltb rfl) ?_)
  refine VO.nil ?_
  refine V.keep 232 [0, 3, 4, 5, 6, 7, 8] [] (E0 := [(0, .vl ρ0 1 (List.map encU8 code)), (3, .vl rn 3 (List.map encTrigger y1.1)), (4, .int .i64 y1.2), (5, .int .i64 y2.1), (6, .bool y2.2), (7, .int .i64 y3.1), (8, .bool y3.2)]) (H0 := []) rfl (⟨_, _, rfl, rfl, ⟨_, _, rfl, rfl, ⟨_, _, rfl, rfl, ⟨_, _, rfl, rfl, ⟨_, _, rfl, rfl, ⟨_, _, rfl, rfl, ⟨_, _, rfl, rfl, rfl⟩⟩⟩⟩⟩⟩⟩) (rfl) rfl ?_
  refine V.seq ?_
  refine V.region ?_
  refine VO.cons rfl (V1.move rfl rfl rfl (ltb rfl) ?_)
  refine VO.cons rfl (V1.move rfl rfl rfl (ltb rfl) ?_)
  refine VO.cons rfl (V1.int rfl rfl rfl rfl rfl (ltb rfl) ?_)
  refine VO.cons rfl (V1.move rfl rfl rfl (ltb rfl) ?_)
  apply VO.or (n := 3) rfl rfl rfl rfl rfl rfl (ltb rfl) (.none rfl)
  ·
   intro hg0
   refine VO.step (.some rfl rfl rfl) (V1.move rfl rfl rfl (ltb rfl) ?_)
   refine VO.step (.some rfl rfl rfl) (V1.move rfl rfl rfl (ltb rfl) ?_)
   refine VO.step (.some rfl rfl rfl) (V1.boolNeq rfl rfl und_4 rfl rfl (ltb rfl) ?_)
   exact VO.nil ⟨rfl, rfl, rfl, rfl, .inr ⟨rfl, .inr ⟨rfl, .inr ⟨rfl, .inr ⟨rfl, .inl rfl⟩⟩⟩⟩⟩
  refine VO.nil ?_
  refine V.keep 232 [0, 3, 4, 5, 6, 61] [] (E0 := [(0, .vl ρ0 1 (List.map encU8 code)), (3, .vl rn 3 (List.map encTrigger y1.1)), (4, .int .i64 y1.2), (5, .int .i64 y2.1), (6, .bool y2.2), (61, .bool ((y2.1 != y3.1) || (!(y2.2 == y3.2))))]) (H0 := []) rfl (⟨_, _, rfl, rfl, ⟨_, _, rfl, rfl, ⟨_, _, rfl, rfl, ⟨_, _, rfl, rfl, ⟨_, _, rfl, rfl, ⟨_, _, rfl, rfl, rfl⟩⟩⟩⟩⟩⟩) (rfl) rfl ?_
  refine V.cond rfl (fun hc1 => ?_) (fun hc1 => ?_)
  ·
   replace hm0 := cond_t hc1 hm0
   refine V.seq ?_
   refine V.region ?_
   refine VO.cons rfl (V1.assign rfl rfl rfl (ltb rfl) ?_)
   refine VO.nil ?_
   refine V.ret ?_
   obtain rfl := Option.some.inj hm0
   exact ⟨_, [], ⟨_, _, rfl, rfl, rfl⟩, List.nil_sublist _, rfl, rfl⟩
  ·
   replace hm0 := cond_f hc1 hm0
   refine V.skip ?_
   refine V.seq ?_
   refine V.seq ?_
   refine V.region ?_
   refine VO.cons rfl (V1.assign rfl rfl rfl (ltb rfl) ?_)
   refine VO.nil ?_
   replace hm0 := bindO hm0; rcases hm0 with ⟨e0, he1, hm0⟩
   refine V.cutT (D := (Unit) × (Unit)) (fun ⟨_, _⟩ => ⟨232, [(0, .vl ρ0 1 (List.map encU8 code))], []⟩) (fun ⟨_, _⟩ => (.inl () = e0)) ?_ ?_
   ·
    refine V.block ?_
    refine V.keep 232 [9, 0, 3, 4, 5, 6] [] (E0 := [(9, .int .i64 (0 : Int)), (0, .vl ρ0 1 (List.map encU8 code)), (3, .vl rn 3 (List.map encTrigger y1.1)), (4, .int .i64 y1.2), (5, .int .i64 y2.1), (6, .bool y2.2)]) (H0 := []) rfl (⟨_, _, rfl, rfl, ⟨_, _, rfl, rfl, ⟨_, _, rfl, rfl, ⟨_, _, rfl, rfl, ⟨_, _, rfl, rfl, ⟨_, _, rfl, rfl, rfl⟩⟩⟩⟩⟩⟩) (rfl) rfl ?_
    refine V.loopE (D := Nat × (Int) × (Unit)) (fun ⟨n0, i, _⟩ => [(9, .int .i64 i)]) (fun ⟨n0, i, _⟩ => []) (fun ⟨n0, i, _⟩ => loopO (M.laws_FnExpected_l0 y1 y2) n0 i = some e0) (fun ⟨n0, _, _⟩ => n0) (rounds, (0 : Int), ()) rfl he1 ?_
    rintro ⟨n0, i, _⟩ hP0
    obtain ⟨m0, y4, rfl, hm1, hl1, hr1⟩ := loop_head hP0
    unfold M.laws_FnExpected_l0 at hm1; dsimp only at hm1
    show V _ _ _ ⟨232, [(9, .int .i64 i), (0, .vl ρ0 1 (List.map encU8 code)), (3, .vl rn 3 (List.map encTrigger y1.1)), (4, .int .i64 y1.2), (5, .int .i64 y2.1), (6, .bool y2.2)], []⟩
    refine V.seq ?_
    refine V.seq ?_
    refine V.region ?_
    refine VO.cons rfl (V1.move rfl rfl rfl (ltb rfl) ?_)
    refine VO.cons rfl (V1.move rfl rfl rfl (ltb rfl) ?_)
    refine VO.cons rfl (V1.lenMap rfl rfl rfl rfl rfl rfl isl_24 (ltb rfl) ?_)
    refine VO.cons rfl (V1.int rfl rfl rfl rfl rfl (ltb rfl) ?_)
    refine VO.cons rfl (V1.move rfl rfl rfl (ltb rfl) ?_)
    apply VO.and (n := 1) rfl rfl rfl rfl rfl rfl (ltb rfl) (.none rfl)
    ·
     intro hg1
     refine VO.step (.some rfl rfl rfl) (V1.move rfl rfl rfl (ltb rfl) ?_)
     exact VO.nil ⟨rfl, rfl, rfl, rfl, .inr ⟨rfl, .inr ⟨rfl, .inl rfl⟩⟩⟩
    refine VO.nil ?_
    refine V.keep 232 [0, 3, 4, 5, 6, 9, 68] [] (E0 := [(0, .vl ρ0 1 (List.map encU8 code)), (3, .vl rn 3 (List.map encTrigger y1.1)), (4, .int .i64 y1.2), (5, .int .i64 y2.1), (6, .bool y2.2), (9, .int .i64 i), (68, .bool ((decide (i < (y1.1.length : Int))) && y2.2))]) (H0 := []) rfl (⟨_, _, rfl, rfl, ⟨_, _, rfl, rfl, ⟨_, _, rfl, rfl, ⟨_, _, rfl, rfl, ⟨_, _, rfl, rfl, ⟨_, _, rfl, rfl, ⟨_, _, rfl, rfl, rfl⟩⟩⟩⟩⟩⟩⟩) (rfl) rfl ?_
    refine V.cond rfl (fun hc2 => ?_) (fun hc2 => ?_)
    ·
     replace hm1 := cond_t hc2 hm1
     refine V.skip ?_
     refine V.seq ?_
     replace hm1 := bindO hm1; rcases hm1 with ⟨j0, hm2, hm1⟩
     refine V.cutT (D := (Unit) × (Unit)) (fun ⟨_, _⟩ => ⟨232, [(0, .vl ρ0 1 (List.map encU8 code)), (3, .vl rn 3 (List.map encTrigger y1.1)), (4, .int .i64 y1.2), (5, .int .i64 y2.1), (6, .bool y2.2), (9, .int .i64 i)], []⟩) (fun ⟨_, _⟩ => (.inl () = j0)) ?_ ?_
     ·
      refine V.block ?_
      refine V.seq ?_
      refine V.seq ?_
      replace hm2 := asrt_some hm2; rcases hm2 with ⟨hh4, hm2⟩
      refine V.region ?_
      refine VO.cons rfl (V1.move rfl rfl rfl (ltb rfl) ?_)
      refine VO.cons rfl (V1.move rfl rfl rfl (ltb rfl) ?_)
      refine VO.cons rfl (V1.indexI rfl rfl esz_24 rfl rfl hh4 (ltb rfl) ?_)
      refine VO.cons rfl (V1.fieldPin rfl rfl fo_30_0 rfl (ltb rfl) ?_)
      refine VO.cons rfl (V1.loadPin rfl rfl tyk_3 rfl rfl (ltb rfl) ?_)
      refine VO.cons rfl (V1.move rfl rfl rfl (ltb rfl) ?_)
      refine VO.cons rfl (V1.int rfl rfl rfl rfl rfl (ltb rfl) ?_)
      refine VO.nil ?_
      refine V.keep 232 [0, 3, 4, 5, 6, 9, 77] [] (E0 := [(0, .vl ρ0 1 (List.map encU8 code)), (3, .vl rn 3 (List.map encTrigger y1.1)), (4, .int .i64 y1.2), (5, .int .i64 y2.1), (6, .bool y2.2), (9, .int .i64 i), (77, .bool (((y1.1.getD (Int.toNat i) default).Event) != y1.2))]) (H0 := []) rfl (⟨_, _, rfl, rfl, ⟨_, _, rfl, rfl, ⟨_, _, rfl, rfl, ⟨_, _, rfl, rfl, ⟨_, _, rfl, rfl, ⟨_, _, rfl, rfl, ⟨_, _, rfl, rfl, rfl⟩⟩⟩⟩⟩⟩⟩) (rfl) rfl ?_
      refine V.cond rfl (fun hc3 => ?_) (fun hc3 => ?_)
      ·
       replace hm2 := cond_t hc3 hm2
       refine V.exit ?_
       exact ⟨((), ()), Option.some.inj hm2, Keeps.mk (ks := []) rfl ⟨rfl, rfl, rfl, rfl, rfl, rfl, trivial⟩ (rfl) rfl⟩
      ·
       replace hm2 := cond_f hc3 hm2
       refine V.skip ?_
       refine V.seq ?_
       replace hm2 := asrt_some hm2; rcases hm2 with ⟨hh5, hm2⟩
       replace hm2 := bindO hm2; rcases hm2 with ⟨y5, hh6, hm2⟩
       refine V.region ?_
       refine VO.cons rfl (V1.move rfl rfl rfl (ltb rfl) ?_)
       refine VO.cons rfl (V1.move rfl rfl rfl (ltb rfl) ?_)
       refine VO.cons rfl (V1.move rfl rfl rfl (ltb rfl) ?_)
       refine VO.cons rfl (V1.indexI rfl rfl esz_24 rfl rfl hh5 (ltb rfl) ?_)
       refine VO.cons rfl (V1.fieldPin rfl rfl fo_30_1 rfl (ltb rfl) ?_)
       refine VO.cons rfl (V1.loadPin rfl rfl tyk_3 rfl rfl (ltb rfl) ?_)
       refine VO.cons rfl (V1.call rfl rfl rfl cok_6 rfl (ok_impl_ExpectedDay hh6) rfl (ltb rfl) ?_)
       rintro _ _ ⟨rfl, rfl⟩
       refine VO.cons rfl (V1.move rfl rfl rfl (ltb rfl) ?_)
       refine VO.cons rfl (V1.extract rfl rfl rfl rfl (ltb rfl) ?_)
       refine VO.cons rfl (V1.extract rfl rfl rfl rfl (ltb rfl) ?_)
       refine VO.cons rfl (V1.assign rfl rfl rfl (ltb rfl) ?_)
       refine VO.cons rfl (V1.assign rfl rfl rfl (ltb rfl) ?_)
       refine VO.nil ?_
       refine V.keep 232 [0, 3, 4, 5, 6, 9, 10, 11] [] (E0 := [(0, .vl ρ0 1 (List.map encU8 code)), (3, .vl rn 3 (List.map encTrigger y1.1)), (4, .int .i64 y1.2), (5, .int .i64 y2.1), (6, .bool y2.2), (9, .int .i64 i), (10, .int .i64 y5.1), (11, .bool y5.2)]) (H0 := []) rfl (⟨_, _, rfl, rfl, ⟨_, _, rfl, rfl, ⟨_, _, rfl, rfl, ⟨_, _, rfl, rfl, ⟨_, _, rfl, rfl, ⟨_, _, rfl, rfl, ⟨_, _, rfl, rfl, ⟨_, _, rfl, rfl, rfl⟩⟩⟩⟩⟩⟩⟩⟩) (rfl) rfl ?_
       refine V.seq ?_
       replace hm2 := asrt_some hm2; rcases hm2 with ⟨hh7, hm2⟩
       refine V.region ?_
       refine VO.cons rfl (V1.move rfl rfl rfl (ltb rfl) ?_)
       refine VO.cons rfl (V1.not rfl rfl rfl (ltb rfl) ?_)
       refine VO.cons rfl (V1.move rfl rfl rfl (ltb rfl) ?_)
       apply VO.or (n := 9) rfl rfl rfl rfl rfl rfl (ltb rfl) (.none rfl)
       ·
        intro hg2
        refine VO.step (.some rfl rfl rfl) (V1.move rfl rfl rfl (ltb rfl) ?_)
        refine VO.step (.some rfl rfl rfl) (V1.move rfl rfl rfl (ltb rfl) ?_)
        refine VO.step (.some rfl rfl rfl) (V1.move rfl rfl rfl (ltb rfl) ?_)
        refine VO.step (.some rfl rfl rfl) (V1.indexI rfl rfl esz_24 rfl rfl (hh7 hg2) (ltb rfl) ?_)
        refine VO.step (.some rfl rfl rfl) (V1.fieldPin rfl rfl fo_30_2 rfl (ltb rfl) ?_)
        refine VO.step (.some rfl rfl rfl) (V1.loadPin rfl rfl tyk_3 rfl rfl (ltb rfl) ?_)
        refine VO.step (.some rfl rfl rfl) (V1.int rfl rfl rfl rfl rfl (ltb rfl) ?_)
        refine VO.step (.some rfl rfl rfl) (V1.move rfl rfl rfl (ltb rfl) ?_)
        refine VO.step (.some rfl rfl rfl) (V1.int rfl rfl rfl rfl rfl (ltb rfl) ?_)
        exact VO.nil ⟨rfl, rfl, rfl, rfl, .inr ⟨rfl, .inr ⟨rfl, .inr ⟨rfl, .inr ⟨rfl, .inr ⟨rfl, .inr ⟨rfl, .inr ⟨rfl, .inr ⟨rfl, .inr ⟨rfl, .inr ⟨rfl, .inl rfl⟩⟩⟩⟩⟩⟩⟩⟩⟩⟩⟩
       refine VO.nil ?_
       refine V.keep 232 [0, 3, 4, 5, 6, 9, 100] [] (E0 := [(0, .vl ρ0 1 (List.map encU8 code)), (3, .vl rn 3 (List.map encTrigger y1.1)), (4, .int .i64 y1.2), (5, .int .i64 y2.1), (6, .bool y2.2), (9, .int .i64 i), (100, .bool ((!y5.2) || (decide ((IntKind.i64.wrap (y5.1 + ((y1.1.getD (Int.toNat i) default).Days))) > y2.1))))]) (H0 := []) rfl (⟨_, _, rfl, rfl, ⟨_, _, rfl, rfl, ⟨_, _, rfl, rfl, ⟨_, _, rfl, rfl, ⟨_, _, rfl, rfl, ⟨_, _, rfl, rfl, ⟨_, _, rfl, rfl, rfl⟩⟩⟩⟩⟩⟩⟩) (rfl) rfl ?_
       refine V.cond rfl (fun hc4 => ?_) (fun hc4 => ?_)
       ·
        replace hm2 := cond_t hc4 hm2
        refine V.seq ?_
        refine V.region ?_
        refine VO.cons rfl (V1.assign rfl rfl rfl (ltb rfl) ?_)
        refine VO.nil ?_
        refine V.ret ?_
        obtain rfl := Option.some.inj hm2
        change some _ = some _ at hm1
        obtain rfl := hr1 _ (Option.some.inj hm1).symm
        change some _ = some _ at hm0
        obtain rfl := Option.some.inj hm0
        exact ⟨_, [], ⟨_, _, rfl, rfl, rfl⟩, List.nil_sublist _, rfl, rfl⟩
       ·
        replace hm2 := cond_f hc4 hm2
        refine V.skip ?_
        exact ⟨((), ()), Option.some.inj hm2, Keeps.mk (ks := []) rfl ⟨rfl, rfl, rfl, rfl, rfl, rfl, trivial⟩ (rfl) rfl⟩
     ·
      rintro ⟨_, _⟩ rfl
      try dsimp only at hm1
      refine V.region ?_
      refine VO.cons rfl (V1.move rfl rfl rfl (ltb rfl) ?_)
      refine VO.cons rfl (V1.int rfl rfl rfl rfl rfl (ltb rfl) ?_)
      refine VO.cons rfl (V1.assign rfl rfl rfl (ltb rfl) ?_)
      refine VO.nil ?_
      exact ⟨(m0, (IntKind.i64.wrap (i + (1 : Int))), ()), hl1 _ (Option.some.inj hm1).symm, Nat.lt_succ_self _, Keeps.mk (ks := []) rfl ⟨rfl, rfl, rfl, rfl, rfl, rfl, trivial⟩ (rfl) rfl⟩
    ·
     replace hm1 := cond_f hc2 hm1
     refine V.exit ?_
     obtain rfl := hr1 _ (Option.some.inj hm1).symm
     exact ⟨((), ()), rfl, Keeps.mk (ks := []) rfl ⟨rfl, trivial⟩ (rfl) rfl⟩
   ·
    rintro ⟨_, _⟩ rfl
    try dsimp only at hm0
    refine V.seq ?_
    replace hm0 := bindO hm0; rcases hm0 with ⟨y6, hh8, hm0⟩
    refine V.region ?_
    refine VO.cons rfl (V1.move rfl rfl rfl (ltb rfl) ?_)
    refine VO.cons rfl (V1.call rfl rfl rfl cok_8 rfl (ok_spec_DrawExpectedDue hh8) rfl (ltb rfl) ?_)
    rintro _ _ ⟨b1, b2, rfl, rfl⟩
    refine VO.cons rfl (V1.move rfl rfl rfl (ltb rfl) ?_)
    refine VO.cons rfl (V1.extract rfl rfl rfl rfl (ltb rfl) ?_)
    refine VO.weakenK (Keeps.freezeG 0 rn [(104, .vl rn 3 (List.map encTrigger y6.1))] [(b2, ⟨4, List.map encRule y6.2.1⟩)] (f := encTrigger) (l := y6.1) rfl (fun _ => rfl) ⟨⟨_, rfl, .here⟩, trivial⟩ ⟨_, _, rfl, rfl, .inl rfl, rfl⟩ rfl iNil) ?_
    refine VO.cons rfl (V1.extract rfl rfl rfl rfl (ltb rfl) ?_)
    refine VO.weakenK (Keeps.freezeG 0 rn [(105, .vl rn 4 (List.map encRule y6.2.1))] [] (f := encRule) (l := y6.2.1) rfl (fun _ => rfl) ⟨⟨_, rfl, .here⟩, trivial⟩ rfl rfl iNil) ?_
    refine VO.cons rfl (V1.extract rfl rfl rfl rfl (ltb rfl) ?_)
    refine VO.cons rfl (V1.assign rfl rfl rfl (ltb rfl) ?_)
    refine VO.cons rfl (V1.assign rfl rfl rfl (ltb rfl) ?_)
    refine VO.cons rfl (V1.assign rfl rfl rfl (ltb rfl) ?_)
    refine VO.nil ?_
    refine V.keep 232 [0, 12, 13, 14] [] (E0 := [(0, .vl ρ0 1 (List.map encU8 code)), (12, .vl rn 3 (List.map encTrigger y6.1)), (13, .vl rn 4 (List.map encRule y6.2.1)), (14, .int .i64 y6.2.2)]) (H0 := []) rfl (⟨_, _, rfl, rfl, ⟨_, _, rfl, rfl, ⟨_, _, rfl, rfl, ⟨_, _, rfl, rfl, rfl⟩⟩⟩⟩) (rfl) rfl ?_
    refine V.seq ?_
    replace hm0 := bindO hm0; rcases hm0 with ⟨y7, hh9, hm0⟩
    refine V.region ?_
    refine VO.cons rfl (V1.move rfl rfl rfl (ltb rfl) ?_)
    refine VO.cons rfl (V1.move rfl rfl rfl (ltb rfl) ?_)
    refine VO.cons rfl (V1.move rfl rfl rfl (ltb rfl) ?_)
    refine VO.cons rfl (V1.call rfl rfl rfl cok_9 rfl (ok_impl_ExpectedDue hh9) rfl (ltb rfl) ?_)
    rintro _ _ ⟨rfl, rfl⟩
    refine VO.cons rfl (V1.move rfl rfl rfl (ltb rfl) ?_)
    refine VO.cons rfl (V1.extract rfl rfl rfl rfl (ltb rfl) ?_)
    refine VO.cons rfl (V1.extract rfl rfl rfl rfl (ltb rfl) ?_)
    refine VO.cons rfl (V1.assign rfl rfl rfl (ltb rfl) ?_)
    refine VO.cons rfl (V1.assign rfl rfl rfl (ltb rfl) ?_)
    refine VO.nil ?_
    refine V.keep 232 [0, 12, 13, 14, 15, 16] [] (E0 := [(0, .vl ρ0 1 (List.map encU8 code)), (12, .vl rn 3 (List.map encTrigger y6.1)), (13, .vl rn 4 (List.map encRule y6.2.1)), (14, .int .i64 y6.2.2), (15, .int .i64 y7.1), (16, .bool y7.2)]) (H0 := []) rfl (⟨_, _, rfl, rfl, ⟨_, _, rfl, rfl, ⟨_, _, rfl, rfl, ⟨_, _, rfl, rfl, ⟨_, _, rfl, rfl, ⟨_, _, rfl, rfl, rfl⟩⟩⟩⟩⟩⟩) (rfl) rfl ?_
    refine V.seq ?_
    refine V.seq ?_
    replace hm0 := bindO hm0; rcases hm0 with ⟨y8, hh10, hm0⟩
    refine V.region ?_
    refine VO.cons rfl (V1.move rfl rfl rfl (ltb rfl) ?_)
    refine VO.cons rfl (V1.move rfl rfl rfl (ltb rfl) ?_)
    refine VO.cons rfl (V1.move rfl rfl rfl (ltb rfl) ?_)
    refine VO.cons rfl (V1.call rfl rfl rfl cok_10 rfl (ok_spec_ExpectedDue hh10) rfl (ltb rfl) ?_)
    rintro _ _ ⟨rfl, rfl⟩
    refine VO.cons rfl (V1.move rfl rfl rfl (ltb rfl) ?_)
    refine VO.cons rfl (V1.extract rfl rfl rfl rfl (ltb rfl) ?_)
    refine VO.cons rfl (V1.extract rfl rfl rfl rfl (ltb rfl) ?_)
    refine VO.cons rfl (V1.assign rfl rfl rfl (ltb rfl) ?_)
    refine VO.cons rfl (V1.assign rfl rfl rfl (ltb rfl) ?_)
    refine VO.nil ?_
    refine V.keep 232 [0, 12, 13, 14, 15, 16, 17, 18] [] (E0 := [(0, .vl ρ0 1 (List.map encU8 code)), (12, .vl rn 3 (List.map encTrigger y6.1)), (13, .vl rn 4 (List.map encRule y6.2.1)), (14, .int .i64 y6.2.2), (15, .int .i64 y7.1), (16, .bool y7.2), (17, .int .i64 y8.1), (18, .bool y8.2)]) (H0 := []) rfl (⟨_, _, rfl, rfl, ⟨_, _, rfl, rfl, ⟨_, _, rfl, rfl, ⟨_, _, rfl, rfl, ⟨_, _, rfl, rfl, ⟨_, _, rfl, rfl, ⟨_, _, rfl, rfl, ⟨_, _, rfl, rfl, rfl⟩⟩⟩⟩⟩⟩⟩⟩) (rfl) rfl ?_
    refine V.seq ?_
    refine V.region ?_
    refine VO.cons rfl (V1.move rfl rfl rfl (ltb rfl) ?_)
    refine VO.cons rfl (V1.move rfl rfl rfl (ltb rfl) ?_)
    refine VO.cons rfl (V1.int rfl rfl rfl rfl rfl (ltb rfl) ?_)
    refine VO.cons rfl (V1.move rfl rfl rfl (ltb rfl) ?_)
    apply VO.or (n := 3) rfl rfl rfl rfl rfl rfl (ltb rfl) (.none rfl)
    ·
     intro hg3
     refine VO.step (.some rfl rfl rfl) (V1.move rfl rfl rfl (ltb rfl) ?_)
     refine VO.step (.some rfl rfl rfl) (V1.move rfl rfl rfl (ltb rfl) ?_)
     refine VO.step (.some rfl rfl rfl) (V1.boolNeq rfl rfl und_4 rfl rfl (ltb rfl) ?_)
     exact VO.nil ⟨rfl, rfl, rfl, rfl, .inr ⟨rfl, .inr ⟨rfl, .inr ⟨rfl, .inr ⟨rfl, .inl rfl⟩⟩⟩⟩⟩
    refine VO.nil ?_
    refine V.keep 232 [0, 12, 13, 14, 15, 16, 128] [] (E0 := [(0, .vl ρ0 1 (List.map encU8 code)), (12, .vl rn 3 (List.map encTrigger y6.1)), (13, .vl rn 4 (List.map encRule y6.2.1)), (14, .int .i64 y6.2.2), (15, .int .i64 y7.1), (16, .bool y7.2), (128, .bool ((y7.1 != y8.1) || (!(y7.2 == y8.2))))]) (H0 := []) rfl (⟨_, _, rfl, rfl, ⟨_, _, rfl, rfl, ⟨_, _, rfl, rfl, ⟨_, _, rfl, rfl, ⟨_, _, rfl, rfl, ⟨_, _, rfl, rfl, ⟨_, _, rfl, rfl, rfl⟩⟩⟩⟩⟩⟩⟩) (rfl) rfl ?_
    refine V.cond rfl (fun hc5 => ?_) (fun hc5 => ?_)
    ·
     replace hm0 := cond_t hc5 hm0
     refine V.seq ?_
     refine V.region ?_
     refine VO.cons rfl (V1.assign rfl rfl rfl (ltb rfl) ?_)
     refine VO.nil ?_
     refine V.ret ?_
     obtain rfl := Option.some.inj hm0
     exact ⟨_, [], ⟨_, _, rfl, rfl, rfl⟩, List.nil_sublist _, rfl, rfl⟩
    ·
     replace hm0 := cond_f hc5 hm0
     refine V.skip ?_
     refine V.seq ?_
     replace hm0 := bindO hm0; rcases hm0 with ⟨y9, hh11, hm0⟩
     refine V.region ?_
     refine VO.cons rfl (V1.move rfl rfl rfl (ltb rfl) ?_)
     refine VO.cons rfl (V1.move rfl rfl rfl (ltb rfl) ?_)
     refine VO.cons rfl (V1.permK (V1.call rfl rfl rfl cok_11 rfl (ok_impl_UnexpectedEvents hh11) rfl (ltb rfl) ?_))
     rintro _ _ ⟨ob0, hob0, rfl, rfl⟩
     refine ⟨_, ?_, Keeps.optBack (n := 1) (ob := ob0) (xs := List.map encInt y9.1) (H1 := []) (H2 := []) rfl⟩
     refine VO.cons rfl (V1.move rfl rfl rfl (ltb rfl) ?_)
     refine VO.cons rfl (V1.extract rfl rfl rfl rfl (ltb rfl) ?_)
     refine VO.weakenK (Keeps.optFront (n := 1) (ob := ob0) (xs := List.map encInt y9.1) (H1 := []) rfl) ?_
     refine VO.weakenK (Keeps.optVl 133 [] rn (f := encInt) (l := y9.1) (ob := ob0) (H1 := []) hob0 rfl rfl ⟨rfl, trivial⟩ (fun _ => rfl) rfl iNil) ?_
     refine VO.cons rfl (V1.extract rfl rfl rfl rfl (ltb rfl) ?_)
     refine VO.cons rfl (V1.assign rfl rfl rfl (ltb rfl) ?_)
     refine VO.cons rfl (V1.assign rfl rfl rfl (ltb rfl) ?_)
     refine VO.nil ?_
     refine V.keep 232 [0, 12, 13, 14, 15, 16, 19, 20] [] (E0 := [(0, .vl ρ0 1 (List.map encU8 code)), (12, .vl rn 3 (List.map encTrigger y6.1)), (13, .vl rn 4 (List.map encRule y6.2.1)), (14, .int .i64 y6.2.2), (15, .int .i64 y7.1), (16, .bool y7.2), (19, .vl rn 1 (List.map encInt y9.1)), (20, .bool y9.2)]) (H0 := []) rfl (⟨_, _, rfl, rfl, ⟨_, _, rfl, rfl, ⟨_, _, rfl, rfl, ⟨_, _, rfl, rfl, ⟨_, _, rfl, rfl, ⟨_, _, rfl, rfl, ⟨_, _, rfl, rfl, ⟨_, _, rfl, rfl, rfl⟩⟩⟩⟩⟩⟩⟩⟩) (rfl) rfl ?_
     refine V.seq ?_
     refine V.seq ?_
     replace hm0 := bindO hm0; rcases hm0 with ⟨y10, hh12, hm0⟩
     refine V.region ?_
     refine VO.cons rfl (V1.move rfl rfl rfl (ltb rfl) ?_)
     refine VO.cons rfl (V1.move rfl rfl rfl (ltb rfl) ?_)
     refine VO.cons rfl (V1.call rfl rfl rfl cok_12 rfl (ok_spec_UnexpectedEvents hh12) rfl (ltb rfl) ?_)
     rintro _ _ ⟨b3, rfl, rfl⟩
     refine VO.cons rfl (V1.move rfl rfl rfl (ltb rfl) ?_)
     refine VO.cons rfl (V1.extract rfl rfl rfl rfl (ltb rfl) ?_)
     refine VO.weakenK (Keeps.freezeG 0 rn [(139, .vl rn 1 (List.map encInt y10.1))] [] (f := encInt) (l := y10.1) rfl (fun _ => rfl) ⟨⟨_, rfl, .here⟩, trivial⟩ rfl rfl iNil) ?_
     refine VO.cons rfl (V1.extract rfl rfl rfl rfl (ltb rfl) ?_)
     refine VO.cons rfl (V1.assign rfl rfl rfl (ltb rfl) ?_)
     refine VO.cons rfl (V1.assign rfl rfl rfl (ltb rfl) ?_)
     refine VO.nil ?_
     refine V.keep 232 [0, 13, 14, 15, 16, 19, 20, 21, 22] [] (E0 := [(0, .vl ρ0 1 (List.map encU8 code)), (13, .vl rn 4 (List.map encRule y6.2.1)), (14, .int .i64 y6.2.2), (15, .int .i64 y7.1), (16, .bool y7.2), (19, .vl rn 1 (List.map encInt y9.1)), (20, .bool y9.2), (21, .vl rn 1 (List.map encInt y10.1)), (22, .bool y10.2)]) (H0 := []) rfl (⟨_, _, rfl, rfl, ⟨_, _, rfl, rfl, ⟨_, _, rfl, rfl, ⟨_, _, rfl, rfl, ⟨_, _, rfl, rfl, ⟨_, _, rfl, rfl, ⟨_, _, rfl, rfl, ⟨_, _, rfl, rfl, ⟨_, _, rfl, rfl, rfl⟩⟩⟩⟩⟩⟩⟩⟩⟩) (rfl) rfl ?_
     refine V.seq ?_
     replace hm0 := bindO hm0; rcases hm0 with ⟨y11, hh13, hm0⟩
     refine V.region ?_
     refine VO.cons rfl (V1.move rfl rfl rfl (ltb rfl) ?_)
     refine VO.cons rfl (V1.move rfl rfl rfl (ltb rfl) ?_)
     refine VO.cons rfl (V1.boolNeq rfl rfl und_4 rfl rfl (ltb rfl) ?_)
     refine VO.cons rfl (V1.move rfl rfl rfl (ltb rfl) ?_)
     apply VO.or (n := 4) rfl rfl rfl rfl rfl rfl (ltb rfl) (.none rfl)
     ·
      intro hg4
      refine VO.step (.some rfl rfl rfl) (V1.move rfl rfl rfl (ltb rfl) ?_)
      refine VO.step (.some rfl rfl rfl) (V1.move rfl rfl rfl (ltb rfl) ?_)
      refine VO.step (.some rfl rfl rfl) (V1.call rfl rfl rfl cok_13 rfl (ok_laws_vInts (cond_f hg4 hh13)) rfl (ltb rfl) ?_)
      rintro _ _ ⟨rfl, rfl⟩
      refine VO.step (.some rfl rfl rfl) (V1.not rfl rfl rfl (ltb rfl) ?_)
      exact VO.nil ⟨rfl, rfl, rfl, rfl, .inr ⟨rfl, .inr ⟨rfl, .inr ⟨rfl, .inr ⟨rfl, .inr ⟨rfl, .inl rfl⟩⟩⟩⟩⟩⟩
     refine VO.nil ?_
     refine V.keep 232 [0, 13, 14, 15, 16, 19, 149] [] (E0 := [(0, .vl ρ0 1 (List.map encU8 code)), (13, .vl rn 4 (List.map encRule y6.2.1)), (14, .int .i64 y6.2.2), (15, .int .i64 y7.1), (16, .bool y7.2), (19, .vl rn 1 (List.map encInt y9.1)), (149, .bool ((!(y9.2 == y10.2)) || (!y11)))]) (H0 := []) rfl (⟨_, _, rfl, rfl, ⟨_, _, rfl, rfl, ⟨_, _, rfl, rfl, ⟨_, _, rfl, rfl, ⟨_, _, rfl, rfl, ⟨_, _, rfl, rfl, ⟨_, _, rfl, rfl, rfl⟩⟩⟩⟩⟩⟩⟩) (rfl) rfl ?_
     refine V.cond rfl (fun hc6 => ?_) (fun hc6 => ?_)
     ·
      replace hm0 := cond_t hc6 hm0
      refine V.seq ?_
      refine V.region ?_
      refine VO.cons rfl (V1.assign rfl rfl rfl (ltb rfl) ?_)
      refine VO.nil ?_
      refine V.ret ?_
      obtain rfl := Option.some.inj hm0
      exact ⟨_, [], ⟨_, _, rfl, rfl, rfl⟩, List.nil_sublist _, rfl, rfl⟩
     ·
      replace hm0 := cond_f hc6 hm0
      refine V.skip ?_
      refine V.seq ?_
      replace hm0 := bindO hm0; rcases hm0 with ⟨j1, hm1, hm0⟩
      refine V.cutT (D := (Unit) × (Unit)) (fun ⟨_, _⟩ => ⟨232, [(0, .vl ρ0 1 (List.map encU8 code))], []⟩) (fun ⟨_, _⟩ => (.inl () = j1)) ?_ ?_
      ·
       refine V.seq ?_
       refine V.region ?_
       refine VO.cons rfl (V1.move rfl rfl rfl (ltb rfl) ?_)
       refine VO.nil ?_
       refine V.cond rfl (fun hc7 => ?_) (fun hc7 => ?_)
       ·
        replace hm1 := cond_t hc7 hm1
        refine V.seq ?_
        replace hm1 := bindO hm1; rcases hm1 with ⟨y12, hh14, hm1⟩
        refine V.region ?_
        refine VO.cons rfl (V1.move rfl rfl rfl (ltb rfl) ?_)
        refine VO.cons rfl (V1.move rfl rfl rfl (ltb rfl) ?_)
        refine VO.cons rfl (V1.permK (V1.call rfl rfl rfl cok_14 rfl (ok_impl_RulesFor hh14) rfl (ltb rfl) ?_))
        rintro _ _ ⟨ob1, hob1, rfl, rfl⟩
        refine ⟨_, ?_, Keeps.optBack (n := 4) (ob := ob1) (xs := List.map encRule y12.1) (H1 := []) (H2 := []) rfl⟩
        refine VO.cons rfl (V1.move rfl rfl rfl (ltb rfl) ?_)
        refine VO.cons rfl (V1.extract rfl rfl rfl rfl (ltb rfl) ?_)
        refine VO.weakenK (Keeps.optFront (n := 4) (ob := ob1) (xs := List.map encRule y12.1) (H1 := []) rfl) ?_
        refine VO.weakenK (Keeps.optVl 155 [] rn (f := encRule) (l := y12.1) (ob := ob1) (H1 := []) hob1 rfl rfl ⟨rfl, trivial⟩ (fun _ => rfl) rfl iNil) ?_
        refine VO.cons rfl (V1.extract rfl rfl rfl rfl (ltb rfl) ?_)
        refine VO.cons rfl (V1.assign rfl rfl rfl (ltb rfl) ?_)
        refine VO.cons rfl (V1.assign rfl rfl rfl (ltb rfl) ?_)
        refine VO.nil ?_
        refine V.keep 232 [0, 15, 19, 23, 24] [] (E0 := [(0, .vl ρ0 1 (List.map encU8 code)), (15, .int .i64 y7.1), (19, .vl rn 1 (List.map encInt y9.1)), (23, .vl rn 4 (List.map encRule y12.1)), (24, .bool y12.2)]) (H0 := []) rfl (⟨_, _, rfl, rfl, ⟨_, _, rfl, rfl, ⟨_, _, rfl, rfl, ⟨_, _, rfl, rfl, ⟨_, _, rfl, rfl, rfl⟩⟩⟩⟩⟩) (rfl) rfl ?_
        refine V.seq ?_
        refine V.seq ?_
        refine V.region ?_
        refine VO.cons rfl (V1.move rfl rfl rfl (ltb rfl) ?_)
        refine VO.cons rfl (V1.not rfl rfl rfl (ltb rfl) ?_)
        refine VO.cons rfl (V1.move rfl rfl rfl (ltb rfl) ?_)
        apply VO.or (n := 3) rfl rfl rfl rfl rfl rfl (ltb rfl) (.none rfl)
        ·
         intro hg5
         refine VO.step (.some rfl rfl rfl) (V1.move rfl rfl rfl (ltb rfl) ?_)
         refine VO.step (.some rfl rfl rfl) (V1.lenMap rfl rfl rfl rfl rfl rfl isl_31 (ltb rfl) ?_)
         refine VO.step (.some rfl rfl rfl) (V1.int rfl rfl rfl rfl rfl (ltb rfl) ?_)
         exact VO.nil ⟨rfl, rfl, rfl, rfl, .inr ⟨rfl, .inr ⟨rfl, .inr ⟨rfl, .inr ⟨rfl, .inl rfl⟩⟩⟩⟩⟩
        refine VO.nil ?_
        refine V.keep 232 [0, 15, 19, 23, 163] [] (E0 := [(0, .vl ρ0 1 (List.map encU8 code)), (15, .int .i64 y7.1), (19, .vl rn 1 (List.map encInt y9.1)), (23, .vl rn 4 (List.map encRule y12.1)), (163, .bool ((!y12.2) || ((y12.1.length : Int) == (0 : Int))))]) (H0 := []) rfl (⟨_, _, rfl, rfl, ⟨_, _, rfl, rfl, ⟨_, _, rfl, rfl, ⟨_, _, rfl, rfl, ⟨_, _, rfl, rfl, rfl⟩⟩⟩⟩⟩) (rfl) rfl ?_
        refine V.cond rfl (fun hc8 => ?_) (fun hc8 => ?_)
        ·
         replace hm1 := cond_t hc8 hm1
         refine V.seq ?_
         refine V.region ?_
         refine VO.cons rfl (V1.assign rfl rfl rfl (ltb rfl) ?_)
         refine VO.nil ?_
         refine V.ret ?_
         obtain rfl := Option.some.inj hm1
         change some _ = some _ at hm0
         obtain rfl := Option.some.inj hm0
         exact ⟨_, [], ⟨_, _, rfl, rfl, rfl⟩, List.nil_sublist _, rfl, rfl⟩
        ·
         replace hm1 := cond_f hc8 hm1
         refine V.skip ?_
         refine V.seq ?_
         refine V.region ?_
         refine VO.cons rfl (V1.assign rfl rfl rfl (ltb rfl) ?_)
         refine VO.nil ?_
         replace hm1 := bindO hm1; rcases hm1 with ⟨e1, he2, hm1⟩
         refine V.cutT (D := (Unit) × (Unit)) (fun ⟨_, _⟩ => ⟨232, [(0, .vl ρ0 1 (List.map encU8 code))], []⟩) (fun ⟨_, _⟩ => (.inl () = e1)) ?_ ?_
         ·
          refine V.block ?_
          refine V.keep 232 [25, 0, 15, 19, 23] [] (E0 := [(25, .int .i64 (0 : Int)), (0, .vl ρ0 1 (List.map encU8 code)), (15, .int .i64 y7.1), (19, .vl rn 1 (List.map encInt y9.1)), (23, .vl rn 4 (List.map encRule y12.1))]) (H0 := []) rfl (⟨_, _, rfl, rfl, ⟨_, _, rfl, rfl, ⟨_, _, rfl, rfl, ⟨_, _, rfl, rfl, ⟨_, _, rfl, rfl, rfl⟩⟩⟩⟩⟩) (rfl) rfl ?_
          refine V.loopE (D := Nat × (Int) × (Unit)) (fun ⟨n1, i0, _⟩ => [(25, .int .i64 i0)]) (fun ⟨n1, i0, _⟩ => []) (fun ⟨n1, i0, _⟩ => loopO (M.laws_FnExpected_l1 y7 y9 y12) n1 i0 = some e1) (fun ⟨n1, _, _⟩ => n1) (rounds, (0 : Int), ()) rfl he2 ?_
          rintro ⟨n1, i0, _⟩ hP1
          obtain ⟨m1, y13, rfl, hm2, hl2, hr2⟩ := loop_head hP1
          unfold M.laws_FnExpected_l1 at hm2; dsimp only at hm2
          show V _ _ _ ⟨232, [(25, .int .i64 i0), (0, .vl ρ0 1 (List.map encU8 code)), (15, .int .i64 y7.1), (19, .vl rn 1 (List.map encInt y9.1)), (23, .vl rn 4 (List.map encRule y12.1))], []⟩
          refine V.seq ?_
          refine V.seq ?_
          refine V.region ?_
          refine VO.cons rfl (V1.move rfl rfl rfl (ltb rfl) ?_)
          refine VO.cons rfl (V1.move rfl rfl rfl (ltb rfl) ?_)
          refine VO.cons rfl (V1.lenMap rfl rfl rfl rfl rfl rfl isl_31 (ltb rfl) ?_)
          refine VO.cons rfl (V1.int rfl rfl rfl rfl rfl (ltb rfl) ?_)
          refine VO.nil ?_
          refine V.cond rfl (fun hc9 => ?_) (fun hc9 => ?_)
          ·
           replace hm2 := cond_t hc9 hm2
           refine V.skip ?_
           refine V.keep 232 [0, 15, 19, 23, 25] [] (E0 := [(0, .vl ρ0 1 (List.map encU8 code)), (15, .int .i64 y7.1), (19, .vl rn 1 (List.map encInt y9.1)), (23, .vl rn 4 (List.map encRule y12.1)), (25, .int .i64 i0)]) (H0 := []) rfl (⟨_, _, rfl, rfl, ⟨_, _, rfl, rfl, ⟨_, _, rfl, rfl, ⟨_, _, rfl, rfl, ⟨_, _, rfl, rfl, rfl⟩⟩⟩⟩⟩) (rfl) rfl ?_
           refine V.seq ?_
           refine V.block ?_
           refine V.seq ?_
           replace hm2 := asrt_some hm2; rcases hm2 with ⟨hh15, hm2⟩
           replace hm2 := bindO hm2; rcases hm2 with ⟨y14, hh16, hm2⟩
           replace hm2 := asrt_some hm2; rcases hm2 with ⟨hh17, hm2⟩
           refine V.region ?_
           refine VO.cons rfl (V1.move rfl rfl rfl (ltb rfl) ?_)
           refine VO.cons rfl (V1.move rfl rfl rfl (ltb rfl) ?_)
           refine VO.cons rfl (V1.move rfl rfl rfl (ltb rfl) ?_)
           refine VO.cons rfl (V1.indexI rfl rfl esz_31 rfl rfl hh15 (ltb rfl) ?_)
           refine VO.cons rfl (V1.fieldPin rfl rfl fo_43_1 rfl (ltb rfl) ?_)
           refine VO.cons rfl (V1.loadPin rfl rfl tyk_3 rfl rfl (ltb rfl) ?_)
           refine VO.cons rfl (V1.call rfl rfl rfl cok_15 rfl (ok_laws_vHas hh16) rfl (ltb rfl) ?_)
           rintro _ _ ⟨rfl, rfl⟩
           refine VO.cons rfl (V1.move rfl rfl rfl (ltb rfl) ?_)
           apply VO.or (n := 7) rfl rfl rfl rfl rfl rfl (ltb rfl) (.none rfl)
           ·
            intro hg6
            refine VO.step (.some rfl rfl rfl) (V1.move rfl rfl rfl (ltb rfl) ?_)
            refine VO.step (.some rfl rfl rfl) (V1.move rfl rfl rfl (ltb rfl) ?_)
            refine VO.step (.some rfl rfl rfl) (V1.indexI rfl rfl esz_31 rfl rfl (hh17 hg6) (ltb rfl) ?_)
            refine VO.step (.some rfl rfl rfl) (V1.fieldPin rfl rfl fo_43_2 rfl (ltb rfl) ?_)
            refine VO.step (.some rfl rfl rfl) (V1.loadPin rfl rfl tyk_3 rfl rfl (ltb rfl) ?_)
            refine VO.step (.some rfl rfl rfl) (V1.move rfl rfl rfl (ltb rfl) ?_)
            refine VO.step (.some rfl rfl rfl) (V1.int rfl rfl rfl rfl rfl (ltb rfl) ?_)
            exact VO.nil ⟨rfl, rfl, rfl, rfl, .inr ⟨rfl, .inr ⟨rfl, .inr ⟨rfl, .inr ⟨rfl, .inr ⟨rfl, .inr ⟨rfl, .inr ⟨rfl, .inr ⟨rfl, .inl rfl⟩⟩⟩⟩⟩⟩⟩⟩⟩
           refine VO.nil ?_
           refine V.keep 232 [0, 15, 19, 23, 25, 185] [] (E0 := [(0, .vl ρ0 1 (List.map encU8 code)), (15, .int .i64 y7.1), (19, .vl rn 1 (List.map encInt y9.1)), (23, .vl rn 4 (List.map encRule y12.1)), (25, .int .i64 i0), (185, .bool (y14 || (decide (((y12.1.getD (Int.toNat i0) default).Days) > y7.1))))]) (H0 := []) rfl (⟨_, _, rfl, rfl, ⟨_, _, rfl, rfl, ⟨_, _, rfl, rfl, ⟨_, _, rfl, rfl, ⟨_, _, rfl, rfl, ⟨_, _, rfl, rfl, rfl⟩⟩⟩⟩⟩⟩) (rfl) rfl ?_
           refine V.cond rfl (fun hc10 => ?_) (fun hc10 => ?_)
           ·
            replace hm2 := cond_t hc10 hm2
            refine V.seq ?_
            refine V.region ?_
            refine VO.cons rfl (V1.assign rfl rfl rfl (ltb rfl) ?_)
            refine VO.nil ?_
            refine V.ret ?_
            obtain rfl := hr2 _ (Option.some.inj hm2).symm
            change some _ = some _ at hm1
            obtain rfl := Option.some.inj hm1
            change some _ = some _ at hm0
            obtain rfl := Option.some.inj hm0
            exact ⟨_, [], ⟨_, _, rfl, rfl, rfl⟩, List.nil_sublist _, rfl, rfl⟩
           ·
            replace hm2 := cond_f hc10 hm2
            refine V.skip ?_
            refine V.region ?_
            refine VO.cons rfl (V1.move rfl rfl rfl (ltb rfl) ?_)
            refine VO.cons rfl (V1.int rfl rfl rfl rfl rfl (ltb rfl) ?_)
            refine VO.cons rfl (V1.assign rfl rfl rfl (ltb rfl) ?_)
            refine VO.nil ?_
            exact ⟨(m1, (IntKind.i64.wrap (i0 + (1 : Int))), ()), hl2 _ (Option.some.inj hm2).symm, Nat.lt_succ_self _, Keeps.mk (ks := []) rfl ⟨rfl, rfl, rfl, rfl, rfl, trivial⟩ (rfl) rfl⟩
          ·
           replace hm2 := cond_f hc9 hm2
           refine V.exit ?_
           obtain rfl := hr2 _ (Option.some.inj hm2).symm
           exact ⟨((), ()), rfl, Keeps.mk (ks := []) rfl ⟨rfl, trivial⟩ (rfl) rfl⟩
         ·
          rintro ⟨_, _⟩ rfl
          try dsimp only at hm1
          exact ⟨((), ()), Option.some.inj hm1, Keeps.mk (ks := []) rfl ⟨rfl, trivial⟩ (rfl) rfl⟩
       ·
        replace hm1 := cond_f hc7 hm1
        refine V.skip ?_
        exact ⟨((), ()), Option.some.inj hm1, Keeps.mk (ks := []) rfl ⟨rfl, trivial⟩ (rfl) rfl⟩
      ·
       rintro ⟨_, _⟩ rfl
       try dsimp only at hm0
       refine V.seq ?_
       replace hm0 := bindO hm0; rcases hm0 with ⟨y15, hh18, hm0⟩
       refine V.region ?_
       refine VO.cons rfl (V1.move rfl rfl rfl (ltb rfl) ?_)
       refine VO.cons rfl (V1.call rfl rfl rfl cok_16 rfl (ok_spec_DrawNeverDecides hh18) rfl (ltb rfl) ?_)
       rintro _ _ ⟨b4, rfl, rfl⟩
       refine VO.weakenK (Keeps.freezeG 0 rn [(187, .vl rn 4 (List.map encRule y15))] [] (f := encRule) (l := y15) rfl (fun _ => rfl) ⟨⟨_, rfl, .here⟩, trivial⟩ rfl rfl iNil) ?_
       refine VO.cons rfl (V1.assign rfl rfl rfl (ltb rfl) ?_)
       refine VO.nil ?_
       refine V.seq ?_
       replace hm0 := bindO hm0; rcases hm0 with ⟨y16, hh19, hm0⟩
       refine V.region ?_
       refine VO.cons rfl (V1.move rfl rfl rfl (ltb rfl) ?_)
       refine VO.cons rfl (V1.permK (V1.call rfl rfl rfl cok_17 rfl (ok_impl_NeverDecides hh19) rfl (ltb rfl) ?_))
       rintro _ _ ⟨ob2, hob2, rfl, rfl⟩
       refine ⟨_, ?_, Keeps.optBack (n := 2) (ob := ob2) (xs := List.map encPair y16.1) (H1 := []) (H2 := []) rfl⟩
       refine VO.cons rfl (V1.move rfl rfl rfl (ltb rfl) ?_)
       refine VO.cons rfl (V1.extract rfl rfl rfl rfl (ltb rfl) ?_)
       refine VO.weakenK (Keeps.optFront (n := 2) (ob := ob2) (xs := List.map encPair y16.1) (H1 := []) rfl) ?_
       refine VO.weakenK (Keeps.optVl 191 [] rn (f := encPair) (l := y16.1) (ob := ob2) (H1 := []) hob2 rfl rfl ⟨rfl, trivial⟩ (fun _ => rfl) rfl iNil) ?_
       refine VO.cons rfl (V1.extract rfl rfl rfl rfl (ltb rfl) ?_)
       refine VO.cons rfl (V1.assign rfl rfl rfl (ltb rfl) ?_)
       refine VO.cons rfl (V1.assign rfl rfl rfl (ltb rfl) ?_)
       refine VO.nil ?_
       refine V.keep 232 [0, 26, 27, 28] [] (E0 := [(0, .vl ρ0 1 (List.map encU8 code)), (26, .vl rn 4 (List.map encRule y15)), (27, .vl rn 2 (List.map encPair y16.1)), (28, .bool y16.2)]) (H0 := []) rfl (⟨_, _, rfl, rfl, ⟨_, _, rfl, rfl, ⟨_, _, rfl, rfl, ⟨_, _, rfl, rfl, rfl⟩⟩⟩⟩) (rfl) rfl ?_
       refine V.seq ?_
       refine V.seq ?_
       replace hm0 := bindO hm0; rcases hm0 with ⟨y17, hh20, hm0⟩
       refine V.region ?_
       refine VO.cons rfl (V1.move rfl rfl rfl (ltb rfl) ?_)
       refine VO.cons rfl (V1.call rfl rfl rfl cok_18 rfl (ok_spec_NeverDecides hh20) rfl (ltb rfl) ?_)
       rintro _ _ ⟨b5, rfl, rfl⟩
       refine VO.cons rfl (V1.move rfl rfl rfl (ltb rfl) ?_)
       refine VO.cons rfl (V1.extract rfl rfl rfl rfl (ltb rfl) ?_)
       refine VO.weakenK (Keeps.freezeG 0 rn [(196, .vl rn 2 (List.map encPair y17.1))] [] (f := encPair) (l := y17.1) rfl (fun _ => rfl) ⟨⟨_, rfl, .here⟩, trivial⟩ rfl rfl iNil) ?_
       refine VO.cons rfl (V1.extract rfl rfl rfl rfl (ltb rfl) ?_)
       refine VO.cons rfl (V1.assign rfl rfl rfl (ltb rfl) ?_)
       refine VO.cons rfl (V1.assign rfl rfl rfl (ltb rfl) ?_)
       refine VO.nil ?_
       refine V.keep 232 [0, 26, 27, 28, 29, 30] [] (E0 := [(0, .vl ρ0 1 (List.map encU8 code)), (26, .vl rn 4 (List.map encRule y15)), (27, .vl rn 2 (List.map encPair y16.1)), (28, .bool y16.2), (29, .vl rn 2 (List.map encPair y17.1)), (30, .bool y17.2)]) (H0 := []) rfl (⟨_, _, rfl, rfl, ⟨_, _, rfl, rfl, ⟨_, _, rfl, rfl, ⟨_, _, rfl, rfl, ⟨_, _, rfl, rfl, ⟨_, _, rfl, rfl, rfl⟩⟩⟩⟩⟩⟩) (rfl) rfl ?_
       refine V.seq ?_
       replace hm0 := bindO hm0; rcases hm0 with ⟨y18, hh21, hm0⟩
       refine V.region ?_
       refine VO.cons rfl (V1.move rfl rfl rfl (ltb rfl) ?_)
       refine VO.cons rfl (V1.move rfl rfl rfl (ltb rfl) ?_)
       refine VO.cons rfl (V1.boolNeq rfl rfl und_4 rfl rfl (ltb rfl) ?_)
       refine VO.cons rfl (V1.move rfl rfl rfl (ltb rfl) ?_)
       apply VO.or (n := 4) rfl rfl rfl rfl rfl rfl (ltb rfl) (.none rfl)
       ·
        intro hg7
        refine VO.step (.some rfl rfl rfl) (V1.move rfl rfl rfl (ltb rfl) ?_)
        refine VO.step (.some rfl rfl rfl) (V1.move rfl rfl rfl (ltb rfl) ?_)
        refine VO.step (.some rfl rfl rfl) (V1.call rfl rfl rfl cok_19 rfl (ok_laws_vPairs (cond_f hg7 hh21)) rfl (ltb rfl) ?_)
        rintro _ _ ⟨rfl, rfl⟩
        refine VO.step (.some rfl rfl rfl) (V1.not rfl rfl rfl (ltb rfl) ?_)
        exact VO.nil ⟨rfl, rfl, rfl, rfl, .inr ⟨rfl, .inr ⟨rfl, .inr ⟨rfl, .inr ⟨rfl, .inr ⟨rfl, .inl rfl⟩⟩⟩⟩⟩⟩
       refine VO.nil ?_
       refine V.keep 232 [0, 26, 27, 206] [] (E0 := [(0, .vl ρ0 1 (List.map encU8 code)), (26, .vl rn 4 (List.map encRule y15)), (27, .vl rn 2 (List.map encPair y16.1)), (206, .bool ((!(y16.2 == y17.2)) || (!y18)))]) (H0 := []) rfl (⟨_, _, rfl, rfl, ⟨_, _, rfl, rfl, ⟨_, _, rfl, rfl, ⟨_, _, rfl, rfl, rfl⟩⟩⟩⟩) (rfl) rfl ?_
       refine V.cond rfl (fun hc11 => ?_) (fun hc11 => ?_)
       ·
        replace hm0 := cond_t hc11 hm0
        refine V.seq ?_
        refine V.region ?_
        refine VO.cons rfl (V1.assign rfl rfl rfl (ltb rfl) ?_)
        refine VO.nil ?_
        refine V.ret ?_
        obtain rfl := Option.some.inj hm0
        exact ⟨_, [], ⟨_, _, rfl, rfl, rfl⟩, List.nil_sublist _, rfl, rfl⟩
       ·
        replace hm0 := cond_f hc11 hm0
        refine V.skip ?_
        refine V.seq ?_
        replace hm0 := bindO hm0; rcases hm0 with ⟨y19, hh22, hm0⟩
        refine V.region ?_
        refine VO.cons rfl (V1.move rfl rfl rfl (ltb rfl) ?_)
        refine VO.cons rfl (V1.call rfl rfl rfl cok_20 rfl (ok_spec_DrawIsRecord hh22) rfl (ltb rfl) ?_)
        rintro _ _ ⟨rfl, rfl⟩
        refine VO.cons rfl (V1.alloc rfl rfl zk_51 (ltb rfl) ?_)
        intro b6
        refine VO.cons rfl (V1.storeRefAll (k := 0) rfl rfl tyk_51 rfl rfl rfl rfl rfl rfl ?_)
        refine VO.nil ?_
        refine V.keep 232 [26, 27, 31] [0] (E0 := [(26, .vl rn 4 (List.map encRule y15)), (27, .vl rn 2 (List.map encPair y16.1)), (31, .ref b6 4 0 0)]) (H0 := [(b6, ⟨4, [encRecord rn y19]⟩)]) rfl (⟨_, _, rfl, rfl, ⟨_, _, rfl, rfl, ⟨_, _, rfl, rfl, rfl⟩⟩⟩) (⟨_, _, rfl, rfl, rfl⟩) rfl ?_
        refine V.seq ?_
        refine V.seq ?_
        replace hm0 := bindO hm0; rcases hm0 with ⟨y20, hh23, hm0⟩
        refine V.region ?_
        refine VO.cons rfl (V1.loadRefAll (k := 0) rfl rfl tyk_51 rfl rfl rfl rfl rfl (ltb rfl) ?_)
        refine VO.cons rfl (V1.move rfl rfl rfl (ltb rfl) ?_)
        refine VO.cons rfl (V1.call rfl rfl rfl cok_21 rfl (ok_impl_DecidingRule hh23) rfl (ltb rfl) ?_)
        rintro _ _ ⟨rfl, rfl⟩
        refine VO.cons rfl (V1.move rfl rfl rfl (ltb rfl) ?_)
        refine VO.cons rfl (V1.extract rfl rfl rfl rfl (ltb rfl) ?_)
        refine VO.cons rfl (V1.extract rfl rfl rfl rfl (ltb rfl) ?_)
        refine VO.cons rfl (V1.alloc rfl rfl zk_43 (ltb rfl) ?_)
        intro b7
        refine VO.cons rfl (V1.storeRefAll (k := 0) rfl rfl tyk_43 rfl rfl rfl rfl rfl rfl ?_)
        refine VO.cons rfl (V1.assign rfl rfl rfl (ltb rfl) ?_)
        refine VO.nil ?_
        refine V.keep 232 [27, 32, 33] [0] (E0 := [(27, .vl rn 2 (List.map encPair y16.1)), (32, .ref b7 4 0 0), (33, .bool y20.2)]) (H0 := [(b7, ⟨4, [encRule y20.1]⟩)]) rfl (⟨_, _, rfl, rfl, ⟨_, _, rfl, rfl, ⟨_, _, rfl, rfl, rfl⟩⟩⟩) (⟨_, _, rfl, rfl, rfl⟩) rfl ?_
        refine V.seq ?_
        refine V.region ?_
        refine VO.cons rfl (V1.move rfl rfl rfl (ltb rfl) ?_)
        refine VO.nil ?_
        refine V.cond rfl (fun hc12 => ?_) (fun hc12 => ?_)
        ·
         replace hm0 := cond_t hc12 hm0
         refine V.seq ?_
         refine V.region ?_
         refine VO.cons rfl (V1.assign rfl rfl rfl (ltb rfl) ?_)
         refine VO.nil ?_
         replace hm0 := bindO hm0; rcases hm0 with ⟨e2, he1, hm0⟩
         refine V.cutT (D := (Unit) × (Unit)) (fun ⟨_, _⟩ => ⟨232, [], []⟩) (fun ⟨_, _⟩ => (.inl () = e2)) ?_ ?_
         ·
          refine V.block ?_
          refine V.keep 232 [34, 27, 32] [0] (E0 := [(34, .int .i64 (0 : Int)), (27, .vl rn 2 (List.map encPair y16.1)), (32, .ref b7 4 0 0)]) (H0 := [(b7, ⟨4, [encRule y20.1]⟩)]) rfl (⟨_, _, rfl, rfl, ⟨_, _, rfl, rfl, ⟨_, _, rfl, rfl, rfl⟩⟩⟩) (⟨_, _, rfl, rfl, rfl⟩) rfl ?_
          refine V.loopE (D := Nat × (Int) × (Unit)) (fun ⟨n2, i1, _⟩ => [(34, .int .i64 i1)]) (fun ⟨n2, i1, _⟩ => []) (fun ⟨n2, i1, _⟩ => loopO (M.laws_FnExpected_l2 y16 y20) n2 i1 = some e2) (fun ⟨n2, _, _⟩ => n2) (rounds, (0 : Int), ()) rfl he1 ?_
          rintro ⟨n2, i1, _⟩ hP2
          obtain ⟨m2, y21, rfl, hm1, hl1, hr1⟩ := loop_head hP2
          unfold M.laws_FnExpected_l2 at hm1; dsimp only at hm1
          show V _ _ _ ⟨232, [(34, .int .i64 i1), (27, .vl rn 2 (List.map encPair y16.1)), (32, .ref b7 4 0 0)], [(b7, ⟨4, [encRule y20.1]⟩)]⟩
          refine V.seq ?_
          refine V.seq ?_
          refine V.region ?_
          refine VO.cons rfl (V1.move rfl rfl rfl (ltb rfl) ?_)
          refine VO.cons rfl (V1.move rfl rfl rfl (ltb rfl) ?_)
          refine VO.cons rfl (V1.lenMap rfl rfl rfl rfl rfl rfl isl_45 (ltb rfl) ?_)
          refine VO.cons rfl (V1.int rfl rfl rfl rfl rfl (ltb rfl) ?_)
          refine VO.nil ?_
          refine V.cond rfl (fun hc13 => ?_) (fun hc13 => ?_)
          ·
           replace hm1 := cond_t hc13 hm1
           refine V.skip ?_
           refine V.keep 232 [27, 32, 34] [0] (E0 := [(27, .vl rn 2 (List.map encPair y16.1)), (32, .ref b7 4 0 0), (34, .int .i64 i1)]) (H0 := [(b7, ⟨4, [encRule y20.1]⟩)]) rfl (⟨_, _, rfl, rfl, ⟨_, _, rfl, rfl, ⟨_, _, rfl, rfl, rfl⟩⟩⟩) (⟨_, _, rfl, rfl, rfl⟩) rfl ?_
           refine V.seq ?_
           refine V.block ?_
           refine V.seq ?_
           replace hm1 := asrt_some hm1; rcases hm1 with ⟨hh24, hm1⟩
           refine V.regionM 232 9 [⟨[(27, none)], [], none⟩, ⟨[(34, none)], [], none⟩, ⟨[(222, some 1), (223, some 0)], [], none⟩, ⟨[(224, some 0)], [], none⟩, ⟨[(32, none)], [], none⟩, ⟨[(226, some 0)], [], none⟩, ⟨[(32, none)], [], none⟩, ⟨[(228, some 0)], [], none⟩, ⟨[(227, some 2), (229, some 0)], [], none⟩] [(27, none), (32, none), (34, none), (225, some 5), (230, some 0)] (⟨_, rfl, ⟨_, rfl, ⟨_, rfl, ⟨_, rfl, ⟨_, rfl, ⟨_, rfl, ⟨_, rfl, ⟨_, rfl, ⟨_, rfl, ⟨rfl, rfl⟩⟩⟩⟩⟩⟩⟩⟩⟩⟩) mixed_orders rfl (by decide +kernel) (fun hck44 => ?_)
           refine VP.step (p := ?pv73) rfl rfl rfl (⟨_, _, rfl, rfl, rfl⟩) ?hv73 ?rest73 hck44
           case hv73 =>
            intro E1
            refine (V1.move rfl rfl rfl (ltb rfl) ?_)
            exact rfl
           refine VP.step (p := ?pv74) rfl rfl rfl (⟨_, _, rfl, rfl, rfl⟩) ?hv74 ?rest74 hck44
           case hv74 =>
            intro E1
            refine (V1.move rfl rfl rfl (ltb rfl) ?_)
            exact rfl
           refine VP.step (p := ?pv75) rfl rfl rfl (⟨_, _, rfl, rfl, ⟨_, _, rfl, rfl, rfl⟩⟩) ?hv75 ?rest75 hck44
           case hv75 =>
            intro E1
            refine (V1.indexI rfl rfl esz_45 rfl rfl hh24 (ltb rfl) ?_)
            exact rfl
           refine VP.step (p := ?pv76) rfl rfl rfl (⟨_, _, rfl, rfl, rfl⟩) ?hv76 ?rest76 hck44
           case hv76 =>
            intro E1
            refine (V1.loadPinAll rfl rfl tyk_55 rfl rfl (ltb rfl) ?_)
            exact rfl
           refine VP.step (p := ?pv77) rfl rfl rfl (⟨_, _, rfl, rfl, rfl⟩) ?hv77 ?rest77 hck44
           case hv77 =>
            intro E1
            refine (V1.fieldRef rfl rfl fo_43_0 rfl (ltb rfl) ?_)
            exact rfl
           refine VP.step (p := ?pv78) rfl rfl rfl (⟨_, _, rfl, rfl, rfl⟩) ?hv78 ?rest78 hck44
           case hv78 =>
            intro E1
            refine (V1.loadRef (k := 0) rfl rfl tyk_3 rfl rfl rfl rfl rfl (ltb rfl) ?_)
            exact rfl
           refine VP.step (p := ?pv79) rfl rfl rfl (⟨_, _, rfl, rfl, rfl⟩) ?hv79 ?rest79 hck44
           case hv79 =>
            intro E1
            refine (V1.fieldRef rfl rfl fo_43_1 rfl (ltb rfl) ?_)
            exact rfl
           refine VP.step (p := ?pv80) rfl rfl rfl (⟨_, _, rfl, rfl, rfl⟩) ?hv80 ?rest80 hck44
           case hv80 =>
            intro E1
            refine (V1.loadRef (k := 0) rfl rfl tyk_3 rfl rfl rfl rfl rfl (ltb rfl) ?_)
            exact rfl
           refine VP.step (p := ?pv81) rfl rfl rfl (⟨_, _, rfl, rfl, ⟨_, _, rfl, rfl, rfl⟩⟩) ?hv81 ?rest81 hck44
           case hv81 =>
            intro E1
            refine (V1.buildArr rfl rfl zk_55 und_55 tyk_3 rfl rfl (ltb rfl) ?_)
            exact rfl
           refine VP.fin rfl (⟨_, _, rfl, rfl, ⟨_, _, rfl, rfl, ⟨_, _, rfl, rfl, ⟨_, _, rfl, rfl, ⟨_, _, rfl, rfl, rfl⟩⟩⟩⟩⟩) ?_
           refine VO.cons rfl (V1.pairEqG false rfl rfl und_55 tyk_3 und_3 rfl rfl eg_55 (ltb rfl) ?_)
           refine VO.nil ?_
           refine V.cond rfl (fun hc14 => ?_) (fun hc14 => ?_)
           ·
            replace hm1 := cond_t hc14 hm1
            refine V.seq ?_
            refine V.region ?_
            refine VO.cons rfl (V1.assign rfl rfl rfl (ltb rfl) ?_)
            refine VO.nil ?_
            refine V.ret ?_
            obtain rfl := hr1 _ (Option.some.inj hm1).symm
            change some _ = some _ at hm0
            obtain rfl := Option.some.inj hm0
            exact ⟨_, [], ⟨_, _, rfl, rfl, rfl⟩, List.nil_sublist _, rfl, rfl⟩
           ·
            replace hm1 := cond_f hc14 hm1
            refine V.skip ?_
            refine V.region ?_
            refine VO.cons rfl (V1.move rfl rfl rfl (ltb rfl) ?_)
            refine VO.cons rfl (V1.int rfl rfl rfl rfl rfl (ltb rfl) ?_)
            refine VO.cons rfl (V1.assign rfl rfl rfl (ltb rfl) ?_)
            refine VO.nil ?_
            exact ⟨(m2, (IntKind.i64.wrap (i1 + (1 : Int))), ()), hl1 _ (Option.some.inj hm1).symm, Nat.lt_succ_self _, Keeps.mk (ks := [0]) rfl ⟨rfl, rfl, rfl, trivial⟩ (⟨_, _, rfl, rfl, rfl⟩) rfl⟩
          ·
           replace hm1 := cond_f hc13 hm1
           refine V.exit ?_
           obtain rfl := hr1 _ (Option.some.inj hm1).symm
           exact ⟨((), ()), rfl, Keeps.mk (ks := []) rfl trivial (rfl) rfl⟩
         ·
          rintro ⟨_, _⟩ rfl
          try dsimp only at hm0
          refine V.seq ?_
          refine V.region ?_
          refine VO.cons rfl (V1.assign rfl rfl rfl (ltb rfl) ?_)
          refine VO.nil ?_
          refine V.ret ?_
          obtain rfl := Option.some.inj hm0
          exact ⟨_, [], ⟨_, _, rfl, rfl, rfl⟩, List.nil_sublist _, rfl, rfl⟩
        ·
         replace hm0 := cond_f hc12 hm0
         refine V.skip ?_
         refine V.keep 232 [] [] (E0 := []) (H0 := []) rfl (rfl) (rfl) rfl ?_
         refine V.seq ?_
         refine V.region ?_
         refine VO.cons rfl (V1.assign rfl rfl rfl (ltb rfl) ?_)
         refine VO.nil ?_
         refine V.ret ?_
         obtain rfl := Option.some.inj hm0
         exact ⟨_, [], ⟨_, _, rfl, rfl, rfl⟩, List.nil_sublist _, rfl, rfl⟩
end Go.Proofs.YtjfpdbhjoofllaaGreat
