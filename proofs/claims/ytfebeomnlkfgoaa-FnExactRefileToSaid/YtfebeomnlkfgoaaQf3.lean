/- the functions do what their models say -/
import Derived.Test.YtfebeomnlkfgoaaQf2
set_option linter.unusedSimpArgs false
set_option linter.unusedVariables false
set_option maxRecDepth 100000
set_option maxHeartbeats 4000000
namespace Go.Proofs.Ytfebeomnlkfgoaa
open Go.VS

theorem ok_laws_FnExactRefileTo {ρ0 σ0 rn : Nat} {aList : List Carton} {aFile : Int} {aId : Int} {r : Bool} (h : M.laws_FnExactRefileTo aList aFile aId = some r) : Does Try.prog 9 [.vl ρ0 5 (List.map (encCarton σ0) aList), .int .i64 aFile, .int .i64 aId] [] rn (fun x H => x = .bool r ∧ H = []) := by
 have hm0 := h; clear h; unfold M.laws_FnExactRefileTo at hm0
 try dsimp only at hm0
 refine Does.intro (N := 106) Try.func9 rfl rfl rfl rfl ?_
 intro w0 S0
 refine V.seq ?_
 refine V.region ?_
 refine VO.cons rfl (V1.assign rfl rfl rfl lt0 ?_)
 refine VO.nil ?_
 refine V.seq ?_
 refine V.region ?_
 refine VO.cons rfl (V1.assign rfl rfl rfl lt0 ?_)
 refine VO.nil ?_
 refine V.seq ?_
 replace hm0 := bindO hm0; rcases hm0 with ⟨y0, hh0, hm0⟩
 refine V.region ?_
 refine VO.cons rfl (V1.move rfl rfl rfl lt0 ?_)
 refine VO.cons rfl (V1.move rfl rfl rfl lt0 ?_)
 refine VO.cons rfl (V1.call rfl rfl rfl cok_20 rfl (ok_laws_szCartonS hh0) rfl lt0 ?_)
 rintro _ _ ⟨rfl, rfl⟩
 refine VO.cons rfl (V1.assign rfl rfl rfl lt0 ?_)
 refine VO.nil ?_
 refine V.keep 106 [0, 1, 2, 7] [] (E0 := [(0, .vl ρ0 5 (List.map (encCarton σ0) aList)), (1, .int .i64 aFile), (2, .int .i64 aId), (7, .int .i64 y0)]) (H0 := []) rfl (⟨_, _, rfl, rfl, ⟨_, _, rfl, rfl, ⟨_, _, rfl, rfl, ⟨_, _, rfl, rfl, rfl⟩⟩⟩⟩) (rfl) rfl ?_
 refine V.seq ?_
 refine V.seq ?_
 refine V.region ?_
 refine VO.cons rfl (V1.move rfl rfl rfl lt0 ?_)
 refine VO.cons rfl (V1.int rfl rfl rfl rfl rfl lt0 ?_)
 refine VO.nil ?_
 refine V.cond rfl (fun hc0 => ?_) (fun hc0 => ?_)
 ·
  replace hm0 := cond_t hc0 hm0
  refine V.seq ?_
  refine V.region ?_
  refine VO.cons rfl (V1.assign rfl rfl rfl lt0 ?_)
  refine VO.nil ?_
  refine V.ret ?_
  obtain rfl := Option.some.inj hm0
  exact ⟨_, [], ⟨_, _, rfl, rfl, rfl⟩, List.nil_sublist _, rfl, rfl⟩
 ·
  replace hm0 := cond_f hc0 hm0
  refine V.skip ?_
  refine V.seq ?_
  replace hm0 := bindO hm0; rcases hm0 with ⟨y1, hh1, hm0⟩
  replace hm0 := bindO hm0; rcases hm0 with ⟨y2, hh2, hm0⟩
  refine V.region ?_
  refine VO.cons rfl (V1.move rfl rfl rfl lt0 ?_)
  refine VO.cons rfl (V1.call rfl rfl rfl cok_22 rfl (ok_laws_toCartonS hh1) rfl lt0 ?_)
  rintro _ _ ⟨b0, rfl, rfl⟩
  refine VO.weakenK (Keeps.freezeG 0 rn [(25, .vl rn 5 (List.map (encCarton rn) y1))] ([]) (f := (encCarton rn)) (l := y1) rfl (fun _ => rfl) ⟨⟨_, rfl, .here⟩, trivial⟩ rfl rfl iNil) ?_
  refine VO.cons rfl (V1.move rfl rfl rfl lt0 ?_)
  refine VO.cons rfl (V1.move rfl rfl rfl lt0 ?_)
  refine VO.cons rfl (V1.call rfl rfl rfl cok_39 rfl (ok_spec_RefileTo hh2) rfl lt0 ?_)
  rintro _ _ ⟨b1, rfl, rfl⟩
  refine VO.cons rfl (V1.move rfl rfl rfl lt0 ?_)
  refine VO.cons rfl (V1.extract rfl rfl rfl rfl lt0 ?_)
  refine VO.weakenK (Keeps.freezeG 0 rn [(29, .vl rn 5 (List.map (encCarton rn) y2.1))] ([]) (f := (encCarton rn)) (l := y2.1) rfl (fun _ => rfl) ⟨⟨_, rfl, .here⟩, trivial⟩ rfl rfl iNil) ?_
  refine VO.cons rfl (V1.extract rfl rfl rfl rfl lt0 ?_)
  refine VO.cons rfl (V1.assign rfl rfl rfl lt0 ?_)
  refine VO.cons rfl (V1.assign rfl rfl rfl lt0 ?_)
  refine VO.nil ?_
  refine V.keep 106 [0, 1, 2, 8, 9] [] (E0 := [(0, .vl ρ0 5 (List.map (encCarton σ0) aList)), (1, .int .i64 aFile), (2, .int .i64 aId), (8, .vl rn 5 (List.map (encCarton rn) y2.1)), (9, .bool y2.2)]) (H0 := []) rfl (⟨_, _, rfl, rfl, ⟨_, _, rfl, rfl, ⟨_, _, rfl, rfl, ⟨_, _, rfl, rfl, ⟨_, _, rfl, rfl, rfl⟩⟩⟩⟩⟩) (rfl) rfl ?_
  refine V.seq ?_
  replace hm0 := bindO hm0; rcases hm0 with ⟨y3, hh3, hm0⟩
  refine V.region ?_
  refine VO.cons rfl (V1.move rfl rfl rfl lt0 ?_)
  refine VO.cons rfl (V1.permK (V1.call rfl rfl rfl cok_22 rfl (okd_laws_toCartonS hh3) rfl lt0 ?_))
  rintro _ _ ⟨b2, ts_65, os_65, hd_65, rfl, rfl⟩
  refine ⟨_, ?_, Keeps.perm (([(b2, ⟨5, deepC cellCarton ts_65 y3⟩)] : List (Nat × Obj')) ++ os_65) (permDeep1 (p := (b2, ⟨5, deepC cellCarton ts_65 y3⟩)) (os := os_65) (A := []))⟩
  refine VO.cons rfl (V1.assign rfl rfl rfl lt0 ?_)
  refine VO.nil ?_
  refine V.seq ?_
  replace hm0 := bindO hm0; rcases hm0 with ⟨y4, hh4, hm0⟩
  refine V.region ?_
  refine VO.cons rfl (V1.move rfl rfl rfl lt0 ?_)
  refine VO.cons rfl (V1.move rfl rfl rfl lt0 ?_)
  refine VO.cons rfl (V1.move rfl rfl rfl lt0 ?_)
  refine VO.cons rfl (V1.permK (V1.callL (rn + 1) ([b2] ++ List.map Prod.fst os_65) [.vl (rn + 1) 5 (List.map (encCarton (rn + 1)) y3), .int .i64 aFile, .int .i64 aId] rfl rfl rfl cok_40 rfl ⟨_, _, rfl, Lend.deep (m := 1) (inn := (fun c_ : Carton => List.map encInt c_.Files)) (cell := cellCarton) cokCarton (ts := ts_65) (os := os_65) (xs := y3) 0 hd_65 rfl (fun _ => roL_map (fun _ => rfl) _) rfl (fun p hp => memTail (A := [(b2, ⟨5, deepC cellCarton ts_65 y3⟩)]) (T := os_65) hp rfl) (List.mem_append_left _ (.head _)) (fun p hp => List.mem_append_right _ (List.mem_map.2 ⟨p, hp, rfl⟩)), ⟨_, _, rfl, .same _, ⟨_, _, rfl, .same _, rfl⟩⟩⟩ (bwTail (A := [(b2, ⟨5, deepC cellCarton ts_65 y3⟩)]) (T := os_65) rfl (bwCons (k := 0) rfl bwNil) (fun p hp => hp)) (ok_impl_RefileTo hh4) rfl (⟨(by first | omega | (dsimp only; omega)), by rintro _ _ ⟨ob0, ts_66, os_66, hob0, hd_66, rfl, rfl⟩; refine ⟨by simp [PV.no, PV.noL, optS_no, noL_iff, nbeq] <;> omega, ?_⟩; intro b ob h; obtain ⟨q1_, q2_⟩ := deepNo cokCarton (fun _ => noL_map (fun _ => rfl) _) hd_66; exact (List.mem_append.1 h).elim (fun h => optH_no q1_ b ob h) (fun h => q2_ b ob h)⟩) lt0 ?_))
  rintro _ _ ⟨ob0, ts_66, os_66, hob0, hd_66, rfl, rfl⟩
  refine ⟨_, ?_, Keeps.perm (optH 5 ob0 (deepC cellCarton ts_66 y4.1) ++ (([(b2, ⟨5, deepC cellCarton ts_65 y3⟩)] : List (Nat × Obj')) ++ (os_66 ++ os_65))) (permDeepO (o := optH 5 ob0 (deepC cellCarton ts_66 y4.1)) (os := os_66) (A := [(b2, ⟨5, deepC cellCarton ts_65 y3⟩)]) (T := os_65))⟩
  refine VO.cons rfl (V1.move rfl rfl rfl lt0 ?_)
  refine VO.cons rfl (V1.extract rfl rfl rfl rfl lt0 ?_)
  refine VO.cons rfl (V1.extract rfl rfl rfl rfl lt0 ?_)
  refine VO.cons rfl (V1.assign rfl rfl rfl lt0 ?_)
  refine VO.cons rfl (V1.assign rfl rfl rfl lt0 ?_)
  refine VO.nil ?_
  rcases ob0 with _ | ob0
  ·
   obtain ⟨rfl, rfl⟩ := Deep.nil (hob0 rfl) hd_66
   refine V.keepT 106 [0, 1, 2, 8, 9, 10, 11, 12] [0] (E0 := [(0, .vl ρ0 5 (List.map (encCarton σ0) aList)), (1, .int .i64 aFile), (2, .int .i64 aId), (8, .vl rn 5 (List.map (encCarton rn) y2.1)), (9, .bool y2.2), (10, .sref b2 5 0 (List.length y3)), (11, .nils), (12, .bool y4.2)]) (A := [(b2, ⟨5, deepC cellCarton ts_65 y3⟩)]) (T := os_65) (H0 := [(b2, ⟨5, deepC cellCarton ts_65 y3⟩)]) (T' := os_65) rfl (⟨_, _, rfl, rfl, ⟨_, _, rfl, rfl, ⟨_, _, rfl, rfl, ⟨_, _, rfl, rfl, ⟨_, _, rfl, rfl, ⟨_, _, rfl, rfl, ⟨_, _, rfl, rfl, ⟨_, _, rfl, rfl, rfl⟩⟩⟩⟩⟩⟩⟩⟩) rfl (⟨_, _, rfl, rfl, rfl⟩) rfl (List.Sublist.refl _) ?_
   refine V.seq ?_
   refine V.seq ?_
   replace hm0 := bindO hm0; rcases hm0 with ⟨y5, hh5, hm0⟩
   refine V.region ?_
   refine VO.cons rfl (V1.move rfl rfl rfl lt0 ?_)
   refine VO.cons rfl (V1.move rfl rfl rfl lt0 ?_)
   refine VO.weakenK (Keeps.nilsE (l := y4.1) 40 rn 5 (encCarton rn) (hob0 rfl) rfl rfl) ?_
   refine VO.cons rfl (V1.call rfl rfl rfl cok_25 rfl (ok_laws_eqCartonS hh5) rfl lt0 ?_)
   rintro _ _ ⟨rfl, rfl⟩
   refine VO.cons rfl (V1.not rfl rfl rfl lt0 ?_)
   refine VO.cons rfl (V1.move rfl rfl rfl lt0 ?_)
   apply VO.or (n := 3) rfl rfl rfl rfl rfl rfl lt0 (.none rfl)
   ·
    intro hg0
    refine VO.step (.some rfl rfl rfl) (V1.move rfl rfl rfl lt0 ?_)
    refine VO.step (.some rfl rfl rfl) (V1.move rfl rfl rfl lt0 ?_)
    refine VO.step (.some rfl rfl rfl) (V1.boolNeq rfl rfl und_4 rfl rfl lt0 ?_)
    exact VO.nil ⟨rfl, rfl, rfl, rfl, .inr ⟨rfl, .inr ⟨rfl, .inr ⟨rfl, .inr ⟨rfl, .inl rfl⟩⟩⟩⟩⟩
   refine VO.nil ?_
   refine V.keepT 106 [0, 1, 2, 8, 9, 10, 11, 12, 48] [0] (E0 := [(0, .vl ρ0 5 (List.map (encCarton σ0) aList)), (1, .int .i64 aFile), (2, .int .i64 aId), (8, .vl rn 5 (List.map (encCarton rn) y2.1)), (9, .bool y2.2), (10, .sref b2 5 0 (List.length y3)), (11, .nils), (12, .bool y4.2), (48, .bool ((!y5) || (!(y4.2 == y2.2))))]) (A := [(b2, ⟨5, deepC cellCarton ts_65 y3⟩)]) (T := os_65) (H0 := [(b2, ⟨5, deepC cellCarton ts_65 y3⟩)]) (T' := os_65) rfl (⟨_, _, rfl, rfl, ⟨_, _, rfl, rfl, ⟨_, _, rfl, rfl, ⟨_, _, rfl, rfl, ⟨_, _, rfl, rfl, ⟨_, _, rfl, rfl, ⟨_, _, rfl, rfl, ⟨_, _, rfl, rfl, ⟨_, _, rfl, rfl, rfl⟩⟩⟩⟩⟩⟩⟩⟩⟩) rfl (⟨_, _, rfl, rfl, rfl⟩) rfl (List.Sublist.refl _) ?_
   refine V.cond rfl (fun hc1 => ?_) (fun hc1 => ?_)
   ·
    replace hm0 := cond_t hc1 hm0
    refine V.seq ?_
    refine V.region ?_
    refine VO.cons rfl (V1.assign rfl rfl rfl lt0 ?_)
    refine VO.nil ?_
    refine V.ret ?_
    obtain rfl := Option.some.inj hm0
    exact ⟨_, [], ⟨_, _, rfl, rfl, rfl⟩, List.nil_sublist _, rfl, rfl⟩
   ·
    replace hm0 := cond_f hc1 hm0
    refine V.skip ?_
    refine V.seq ?_
    refine V.seq ?_
    replace hm0 := bindO hm0; rcases hm0 with ⟨y6, hh6, hm0⟩
    replace hm0 := bindO hm0; rcases hm0 with ⟨y7, hh7, hm0⟩
    refine V.region ?_
    refine VO.cons rfl (V1.move rfl rfl rfl lt0 ?_)
    refine VO.cons rfl (V1.move rfl rfl rfl lt0 ?_)
    refine VO.cons rfl (V1.call rfl rfl rfl cok_22 rfl (ok_laws_toCartonS hh6) rfl lt0 ?_)
    rintro _ _ ⟨b3, rfl, rfl⟩
    refine VO.weakenK (Keeps.freezeG 0 rn [(51, .vl rn 5 (List.map (encCarton rn) y6))] ((b2, ⟨5, deepC cellCarton ts_65 y3⟩) :: os_65) (f := (encCarton rn)) (l := y6) rfl (fun _ => rfl) ⟨⟨_, rfl, .here⟩, trivial⟩ ⟨_, _, rfl, rfl, .inl rfl, FrzH.same⟩ rfl iNil) ?_
    refine VO.cons rfl (V1.callL (rn + 1) ([b2] ++ List.map Prod.fst os_65) [.vl (rn + 1) 5 (List.map (encCarton (rn + 1)) y3), .vl rn 5 (List.map (encCarton rn) y6)] rfl rfl rfl cok_25 rfl ⟨_, _, rfl, Lend.deep (m := 1) (inn := (fun c_ : Carton => List.map encInt c_.Files)) (cell := cellCarton) cokCarton (ts := ts_65) (os := os_65) (xs := y3) 0 hd_65 rfl (fun _ => roL_map (fun _ => rfl) _) rfl (fun p hp => memTail (A := [(b2, ⟨5, deepC cellCarton ts_65 y3⟩)]) (T := os_65) hp rfl) (List.mem_append_left _ (.head _)) (fun p hp => List.mem_append_right _ (List.mem_map.2 ⟨p, hp, rfl⟩)), ⟨_, _, rfl, .same _, rfl⟩⟩ (bwTail (A := [(b2, ⟨5, deepC cellCarton ts_65 y3⟩)]) (T := os_65) rfl (bwCons (k := 0) rfl bwNil) (fun p hp => hp)) (ok_laws_eqCartonS hh7) rfl (⟨(by first | omega | (dsimp only; omega)), by rintro _ _ ⟨rfl, rfl⟩; exact ⟨rfl, by simp⟩⟩) lt0 ?_)
    rintro _ _ ⟨rfl, rfl⟩
    refine VO.cons rfl (V1.not rfl rfl rfl lt0 ?_)
    refine VO.nil ?_
    refine V.keepT 106 [0, 1, 2, 8, 9, 10, 11, 12, 53] [0] (E0 := [(0, .vl ρ0 5 (List.map (encCarton σ0) aList)), (1, .int .i64 aFile), (2, .int .i64 aId), (8, .vl rn 5 (List.map (encCarton rn) y2.1)), (9, .bool y2.2), (10, .sref b2 5 0 (List.length y3)), (11, .nils), (12, .bool y4.2), (53, .bool (!y7))]) (A := [(b2, ⟨5, deepC cellCarton ts_65 y3⟩)]) (T := os_65) (H0 := [(b2, ⟨5, deepC cellCarton ts_65 y3⟩)]) (T' := os_65) rfl (⟨_, _, rfl, rfl, ⟨_, _, rfl, rfl, ⟨_, _, rfl, rfl, ⟨_, _, rfl, rfl, ⟨_, _, rfl, rfl, ⟨_, _, rfl, rfl, ⟨_, _, rfl, rfl, ⟨_, _, rfl, rfl, ⟨_, _, rfl, rfl, rfl⟩⟩⟩⟩⟩⟩⟩⟩⟩) rfl (⟨_, _, rfl, rfl, rfl⟩) rfl (List.Sublist.refl _) ?_
    refine V.cond rfl (fun hc2 => ?_) (fun hc2 => ?_)
    ·
     replace hm0 := cond_t hc2 hm0
     refine V.seq ?_
     refine V.region ?_
     refine VO.cons rfl (V1.assign rfl rfl rfl lt0 ?_)
     refine VO.nil ?_
     refine V.ret ?_
     obtain rfl := Option.some.inj hm0
     exact ⟨_, [], ⟨_, _, rfl, rfl, rfl⟩, List.nil_sublist _, rfl, rfl⟩
    ·
     replace hm0 := cond_f hc2 hm0
     refine V.skip ?_
     refine V.seq ?_
     refine V.region ?_
     refine VO.cons rfl (V1.assign rfl rfl rfl lt0 ?_)
     refine VO.nil ?_
     refine V.seq ?_
     replace hm0 := bindO hm0; rcases hm0 with ⟨y8, hh8, hm0⟩
     replace hm0 := asrt_some hm0; rcases hm0 with ⟨hh9, hm0⟩
     refine V.region ?_
     refine VO.cons rfl (V1.move rfl rfl rfl lt0 ?_)
     refine VO.cons rfl (V1.move rfl rfl rfl lt0 ?_)
     refine VO.cons rfl (V1.permK (V1.callDT 0 (A := [(b2, ⟨5, deepC cellCarton ts_65 y3⟩)]) (A' := []) (T0 := os_65) (os := os_65) (T := []) (p := (b2, ⟨5, deepC cellCarton ts_65 y3⟩)) rfl rfl rfl cok_26 rfl rfl (.of_eq (List.append_nil _).symm) rfl rfl (rn + 1) [] [.sref b2 5 0 (List.length y3), .int .i64 (1 : Int)] ⟨_, _, rfl, .same _, ⟨_, _, rfl, .same _, rfl⟩⟩ bwNil (ok_laws_markCartonS hh8 (oq := some b2) (tq := ts_65) (oz := os_65) (fun e => by cases e) hd_65) rfl (.inl rfl) lt0 ?_))
     rintro _ _ ⟨ts_83, os_83, hd_83, rfl, rfl⟩
     refine ⟨_, ?_, Keeps.perm (([(b2, ⟨5, deepC cellCarton ts_83 y8.2⟩)] : List (Nat × Obj')) ++ os_83) (permDeep0 (p := (b2, ⟨5, deepC cellCarton ts_83 y8.2⟩)) (os := os_83) (A := []))⟩
     refine VO.cons rfl (V1.assign rfl rfl rfl lt0 ?_)
     refine VO.nil ?_
     refine V.seq ?_
     refine V.seq ?_
     replace hm0 := bindO hm0; rcases hm0 with ⟨y9, hh10, hm0⟩
     refine V.region ?_
     refine VO.cons rfl (V1.move rfl rfl rfl lt0 ?_)
     refine VO.cons rfl (V1.int rfl rfl rfl rfl rfl lt0 ?_)
     refine VO.cons rfl (V1.move rfl rfl rfl lt0 ?_)
     apply VO.or (n := 4) rfl rfl rfl rfl rfl rfl lt0 (.none rfl)
     ·
      intro hg1
      refine VO.step (.some rfl rfl rfl) (V1.move rfl rfl rfl lt0 ?_)
      refine VO.step (.some rfl rfl rfl) (V1.move rfl rfl rfl lt0 ?_)
      refine VO.weakenK (Keeps.nilsE (l := y4.1) 60 rn 5 (encCarton rn) (hob0 rfl) rfl rfl) ?_
      refine VO.step (.some rfl rfl rfl) (V1.call rfl rfl rfl cok_25 rfl (ok_laws_eqCartonS (cond_f hg1 hh10)) rfl lt0 ?_)
      rintro _ _ ⟨rfl, rfl⟩
      refine VO.step (.some rfl rfl rfl) (V1.not rfl rfl rfl lt0 ?_)
      exact VO.nil ⟨rfl, rfl, rfl, rfl, .inr ⟨rfl, .inr ⟨rfl, .inr ⟨rfl, .inr ⟨rfl, .inr ⟨rfl, .inr ⟨rfl, .inl rfl⟩⟩⟩⟩⟩⟩⟩
     refine VO.cons rfl (V1.move rfl rfl rfl lt0 ?_)
     apply VO.or (n := 3) rfl rfl rfl rfl rfl rfl lt0 (.none rfl)
     ·
      intro hg2
      refine VO.step (.some rfl rfl rfl) (V1.move rfl rfl rfl lt0 ?_)
      refine VO.step (.some rfl rfl rfl) (V1.move rfl rfl rfl lt0 ?_)
      refine VO.step (.some rfl rfl rfl) (V1.boolNeq rfl rfl und_4 rfl rfl lt0 ?_)
      exact VO.nil ⟨rfl, rfl, rfl, rfl, .inr ⟨rfl, .inr ⟨rfl, .inr ⟨rfl, .inr ⟨rfl, .inl rfl⟩⟩⟩⟩⟩
     refine VO.nil ?_
     refine V.keepT 106 [0, 1, 2, 8, 9, 11, 69] [] (E0 := [(0, .vl ρ0 5 (List.map (encCarton σ0) aList)), (1, .int .i64 aFile), (2, .int .i64 aId), (8, .vl rn 5 (List.map (encCarton rn) y2.1)), (9, .bool y2.2), (11, .nils), (69, .bool (((decide (y8.1 < (0 : Int))) || (!y9)) || (!(y4.2 == y2.2))))]) (A := [(b2, ⟨5, deepC cellCarton ts_83 y8.2⟩)]) (T := os_83) (H0 := []) (T' := []) rfl (⟨_, _, rfl, rfl, ⟨_, _, rfl, rfl, ⟨_, _, rfl, rfl, ⟨_, _, rfl, rfl, ⟨_, _, rfl, rfl, ⟨_, _, rfl, rfl, ⟨_, _, rfl, rfl, rfl⟩⟩⟩⟩⟩⟩⟩) rfl (rfl) rfl (List.nil_sublist _) ?_
     refine V.cond rfl (fun hc3 => ?_) (fun hc3 => ?_)
     ·
      replace hm0 := cond_t hc3 hm0
      refine V.seq ?_
      refine V.region ?_
      refine VO.cons rfl (V1.assign rfl rfl rfl lt0 ?_)
      refine VO.nil ?_
      refine V.ret ?_
      obtain rfl := Option.some.inj hm0
      exact ⟨_, [], ⟨_, _, rfl, rfl, rfl⟩, List.nil_sublist _, rfl, rfl⟩
     ·
      replace hm0 := cond_f hc3 hm0
      refine V.skip ?_
      refine V.seq ?_
      refine V.region ?_
      refine VO.cons rfl (V1.assign rfl rfl rfl lt0 ?_)
      refine VO.nil ?_
      refine V.seq ?_
      replace hm0 := bindO hm0; rcases hm0 with ⟨y10, hh11, hm0⟩
      replace hm0 := asrt_some hm0; rcases hm0 with ⟨hh12, hm0⟩
      refine V.region ?_
      refine VO.cons rfl (V1.move rfl rfl rfl lt0 ?_)
      refine VO.cons rfl (V1.move rfl rfl rfl lt0 ?_)
      refine VO.cons rfl (V1.call rfl rfl rfl cok_26 rfl (ok_laws_markCartonS hh11 (oq := none) (tq := []) (oz := []) (fun _ => (hob0 rfl)) (Deep.ofNil (hob0 rfl))) rfl lt0 ?_)
      rintro _ _ ⟨ts_85, os_85, hd_85, rfl, rfl⟩
      obtain ⟨rfl, rfl⟩ := Deep.nil (List.length_eq_zero_iff.1 (hh12.trans (congrArg List.length (hob0 rfl)))) hd_85
      refine VO.cons rfl (V1.assign rfl rfl rfl lt0 ?_)
      refine VO.nil ?_
      refine V.keep 106 [0, 1, 2, 8, 9, 11, 14] [] (E0 := [(0, .vl ρ0 5 (List.map (encCarton σ0) aList)), (1, .int .i64 aFile), (2, .int .i64 aId), (8, .vl rn 5 (List.map (encCarton rn) y2.1)), (9, .bool y2.2), (11, .nils), (14, .int .i64 y10.1)]) (H0 := []) rfl (⟨_, _, rfl, rfl, ⟨_, _, rfl, rfl, ⟨_, _, rfl, rfl, ⟨_, _, rfl, rfl, ⟨_, _, rfl, rfl, ⟨_, _, rfl, rfl, ⟨_, _, rfl, rfl, rfl⟩⟩⟩⟩⟩⟩⟩) (rfl) rfl ?_
      refine V.seq ?_
      refine V.region ?_
      refine VO.cons rfl (V1.assign rfl rfl rfl lt0 ?_)
      refine VO.nil ?_
      refine V.seq ?_
      replace hm0 := bindO hm0; rcases hm0 with ⟨y11, hh13, hm0⟩
      refine V.region ?_
      refine VO.cons rfl (V1.move rfl rfl rfl lt0 ?_)
      refine VO.cons rfl (V1.move rfl rfl rfl lt0 ?_)
      refine VO.weakenK (Keeps.nilsE (l := y10.2) 73 rn 5 (encCarton rn) (List.length_eq_zero_iff.1 (hh12.trans (congrArg List.length (hob0 rfl)))) rfl rfl) ?_
      refine VO.cons rfl (V1.call rfl rfl rfl cok_33 rfl (ok_laws_heldCartonS hh13) rfl lt0 ?_)
      rintro _ _ ⟨rfl, rfl⟩
      refine VO.cons rfl (V1.assign rfl rfl rfl lt0 ?_)
      refine VO.nil ?_
      refine V.seq ?_
      refine V.seq ?_
      refine V.region ?_
      refine VO.cons rfl (V1.move rfl rfl rfl lt0 ?_)
      refine VO.cons rfl (V1.int rfl rfl rfl rfl rfl lt0 ?_)
      refine VO.nil ?_
      refine V.keep 106 [0, 1, 2, 8, 9, 11, 14, 15, 77] [] (E0 := [(0, .vl ρ0 5 (List.map (encCarton σ0) aList)), (1, .int .i64 aFile), (2, .int .i64 aId), (8, .vl rn 5 (List.map (encCarton rn) y2.1)), (9, .bool y2.2), (11, .nils), (14, .int .i64 y10.1), (15, .int .i64 y11), (77, .bool (decide (y11 < (0 : Int))))]) (H0 := []) rfl (⟨_, _, rfl, rfl, ⟨_, _, rfl, rfl, ⟨_, _, rfl, rfl, ⟨_, _, rfl, rfl, ⟨_, _, rfl, rfl, ⟨_, _, rfl, rfl, ⟨_, _, rfl, rfl, ⟨_, _, rfl, rfl, ⟨_, _, rfl, rfl, rfl⟩⟩⟩⟩⟩⟩⟩⟩⟩) (rfl) rfl ?_
      refine V.cond rfl (fun hc4 => ?_) (fun hc4 => ?_)
      ·
       replace hm0 := cond_t hc4 hm0
       refine V.seq ?_
       refine V.region ?_
       refine VO.cons rfl (V1.assign rfl rfl rfl lt0 ?_)
       refine VO.nil ?_
       refine V.ret ?_
       obtain rfl := Option.some.inj hm0
       exact ⟨_, [], ⟨_, _, rfl, rfl, rfl⟩, List.nil_sublist _, rfl, rfl⟩
      ·
       replace hm0 := cond_f hc4 hm0
       refine V.skip ?_
       refine V.seq ?_
       refine V.seq ?_
       refine V.region ?_
       refine VO.cons rfl (V1.move rfl rfl rfl lt0 ?_)
       refine VO.cons rfl (V1.move rfl rfl rfl lt0 ?_)
       refine VO.cons rfl (V1.int rfl rfl rfl rfl rfl lt0 ?_)
       refine VO.nil ?_
       refine V.keep 106 [0, 1, 2, 8, 9, 11, 14, 80] [] (E0 := [(0, .vl ρ0 5 (List.map (encCarton σ0) aList)), (1, .int .i64 aFile), (2, .int .i64 aId), (8, .vl rn 5 (List.map (encCarton rn) y2.1)), (9, .bool y2.2), (11, .nils), (14, .int .i64 y10.1), (80, .bool (y11 != y10.1))]) (H0 := []) rfl (⟨_, _, rfl, rfl, ⟨_, _, rfl, rfl, ⟨_, _, rfl, rfl, ⟨_, _, rfl, rfl, ⟨_, _, rfl, rfl, ⟨_, _, rfl, rfl, ⟨_, _, rfl, rfl, ⟨_, _, rfl, rfl, rfl⟩⟩⟩⟩⟩⟩⟩⟩) (rfl) rfl ?_
       refine V.cond rfl (fun hc5 => ?_) (fun hc5 => ?_)
       ·
        replace hm0 := cond_t hc5 hm0
        refine V.seq ?_
        refine V.region ?_
        refine VO.cons rfl (V1.assign rfl rfl rfl lt0 ?_)
        refine VO.nil ?_
        refine V.ret ?_
        obtain rfl := Option.some.inj hm0
        exact ⟨_, [], ⟨_, _, rfl, rfl, rfl⟩, List.nil_sublist _, rfl, rfl⟩
       ·
        replace hm0 := cond_f hc5 hm0
        refine V.skip ?_
        refine V.seq ?_
        replace hm0 := bindO hm0; rcases hm0 with ⟨y12, hh14, hm0⟩
        replace hm0 := bindO hm0; rcases hm0 with ⟨y13, hh15, hm0⟩
        refine V.region ?_
        refine VO.cons rfl (V1.move rfl rfl rfl lt0 ?_)
        refine VO.cons rfl (V1.call rfl rfl rfl cok_22 rfl (ok_laws_toCartonS hh14) rfl lt0 ?_)
        rintro _ _ ⟨b4, rfl, rfl⟩
        refine VO.weakenK (Keeps.freezeG 0 rn [(83, .vl rn 5 (List.map (encCarton rn) y12))] ([]) (f := (encCarton rn)) (l := y12) rfl (fun _ => rfl) ⟨⟨_, rfl, .here⟩, trivial⟩ rfl rfl iNil) ?_
        refine VO.cons rfl (V1.move rfl rfl rfl lt0 ?_)
        refine VO.cons rfl (V1.move rfl rfl rfl lt0 ?_)
        refine VO.cons rfl (V1.permK (V1.call rfl rfl rfl cok_40 rfl (ok_impl_RefileTo hh15) rfl lt0 ?_))
        rintro _ _ ⟨ob1, ts_88, os_88, hob1, hd_88, rfl, rfl⟩
        refine ⟨_, ?_, Keeps.perm (optH 5 ob1 (deepC cellCarton ts_88 y13.1) ++ (([] : List (Nat × Obj')) ++ os_88)) (permDeepO1 (o := optH 5 ob1 (deepC cellCarton ts_88 y13.1)) (os := os_88) (A := []))⟩
        refine VO.cons rfl (V1.move rfl rfl rfl lt0 ?_)
        refine VO.cons rfl (V1.extract rfl rfl rfl rfl lt0 ?_)
        refine VO.cons rfl (V1.extract rfl rfl rfl rfl lt0 ?_)
        refine VO.cons rfl (V1.assign rfl rfl rfl lt0 ?_)
        refine VO.cons rfl (V1.assign rfl rfl rfl lt0 ?_)
        refine VO.nil ?_
        rcases ob1 with _ | ob1
        ·
         obtain ⟨rfl, rfl⟩ := Deep.nil (hob1 rfl) hd_88
         refine V.keep 106 [8, 9, 11, 14, 16, 17] [] (E0 := [(8, .vl rn 5 (List.map (encCarton rn) y2.1)), (9, .bool y2.2), (11, .nils), (14, .int .i64 y10.1), (16, .nils), (17, .bool y13.2)]) (H0 := []) rfl (⟨_, _, rfl, rfl, ⟨_, _, rfl, rfl, ⟨_, _, rfl, rfl, ⟨_, _, rfl, rfl, ⟨_, _, rfl, rfl, ⟨_, _, rfl, rfl, rfl⟩⟩⟩⟩⟩⟩) (rfl) rfl ?_
         refine V.seq ?_
         refine V.seq ?_
         replace hm0 := bindO hm0; rcases hm0 with ⟨y14, hh16, hm0⟩
         refine V.region ?_
         refine VO.cons rfl (V1.move rfl rfl rfl lt0 ?_)
         refine VO.cons rfl (V1.move rfl rfl rfl lt0 ?_)
         refine VO.weakenK (Keeps.nilsE (l := y13.1) 89 rn 5 (encCarton rn) (hob1 rfl) rfl rfl) ?_
         refine VO.cons rfl (V1.call rfl rfl rfl cok_25 rfl (ok_laws_eqCartonS hh16) rfl lt0 ?_)
         rintro _ _ ⟨rfl, rfl⟩
         refine VO.cons rfl (V1.not rfl rfl rfl lt0 ?_)
         refine VO.cons rfl (V1.move rfl rfl rfl lt0 ?_)
         apply VO.or (n := 3) rfl rfl rfl rfl rfl rfl lt0 (.none rfl)
         ·
          intro hg3
          refine VO.step (.some rfl rfl rfl) (V1.move rfl rfl rfl lt0 ?_)
          refine VO.step (.some rfl rfl rfl) (V1.move rfl rfl rfl lt0 ?_)
          refine VO.step (.some rfl rfl rfl) (V1.boolNeq rfl rfl und_4 rfl rfl lt0 ?_)
          exact VO.nil ⟨rfl, rfl, rfl, rfl, .inr ⟨rfl, .inr ⟨rfl, .inr ⟨rfl, .inr ⟨rfl, .inl rfl⟩⟩⟩⟩⟩
         refine VO.nil ?_
         refine V.keep 106 [11, 14, 97] [] (E0 := [(11, .nils), (14, .int .i64 y10.1), (97, .bool ((!y14) || (!(y13.2 == y2.2))))]) (H0 := []) rfl (⟨_, _, rfl, rfl, ⟨_, _, rfl, rfl, ⟨_, _, rfl, rfl, rfl⟩⟩⟩) (rfl) rfl ?_
         refine V.cond rfl (fun hc6 => ?_) (fun hc6 => ?_)
         ·
          replace hm0 := cond_t hc6 hm0
          refine V.seq ?_
          refine V.region ?_
          refine VO.cons rfl (V1.assign rfl rfl rfl lt0 ?_)
          refine VO.nil ?_
          refine V.ret ?_
          obtain rfl := Option.some.inj hm0
          exact ⟨_, [], ⟨_, _, rfl, rfl, rfl⟩, List.nil_sublist _, rfl, rfl⟩
         ·
          replace hm0 := cond_f hc6 hm0
          refine V.skip ?_
          refine V.seq ?_
          refine V.region ?_
          refine VO.cons rfl (V1.assign rfl rfl rfl lt0 ?_)
          refine VO.nil ?_
          refine V.seq ?_
          replace hm0 := bindO hm0; rcases hm0 with ⟨y15, hh17, hm0⟩
          refine V.region ?_
          refine VO.cons rfl (V1.move rfl rfl rfl lt0 ?_)
          refine VO.cons rfl (V1.move rfl rfl rfl lt0 ?_)
          refine VO.weakenK (Keeps.nilsE (l := y10.2) 98 rn 5 (encCarton rn) (List.length_eq_zero_iff.1 (hh12.trans (congrArg List.length (hob0 rfl)))) rfl rfl) ?_
          refine VO.cons rfl (V1.call rfl rfl rfl cok_33 rfl (ok_laws_heldCartonS hh17) rfl lt0 ?_)
          rintro _ _ ⟨rfl, rfl⟩
          refine VO.cons rfl (V1.assign rfl rfl rfl lt0 ?_)
          refine VO.nil ?_
          refine V.keep 106 [14, 15] [] (E0 := [(14, .int .i64 y10.1), (15, .int .i64 y15)]) (H0 := []) rfl (⟨_, _, rfl, rfl, ⟨_, _, rfl, rfl, rfl⟩⟩) (rfl) rfl ?_
          refine V.seq ?_
          refine V.seq ?_
          refine V.region ?_
          refine VO.cons rfl (V1.move rfl rfl rfl lt0 ?_)
          refine VO.cons rfl (V1.int rfl rfl rfl rfl rfl lt0 ?_)
          refine VO.nil ?_
          refine V.cond rfl (fun hc7 => ?_) (fun hc7 => ?_)
          ·
           replace hm0 := cond_t hc7 hm0
           refine V.seq ?_
           refine V.region ?_
           refine VO.cons rfl (V1.assign rfl rfl rfl lt0 ?_)
           refine VO.nil ?_
           refine V.ret ?_
           obtain rfl := Option.some.inj hm0
           exact ⟨_, [], ⟨_, _, rfl, rfl, rfl⟩, List.nil_sublist _, rfl, rfl⟩
          ·
           replace hm0 := cond_f hc7 hm0
           refine V.skip ?_
           refine V.seq ?_
           refine V.seq ?_
           refine V.region ?_
           refine VO.cons rfl (V1.move rfl rfl rfl lt0 ?_)
           refine VO.cons rfl (V1.move rfl rfl rfl lt0 ?_)
           refine VO.cons rfl (V1.int rfl rfl rfl rfl rfl lt0 ?_)
           refine VO.nil ?_
           refine V.keep 106 [105] [] (E0 := [(105, .bool (y15 != y10.1))]) (H0 := []) rfl (⟨_, _, rfl, rfl, rfl⟩) (rfl) rfl ?_
           refine V.cond rfl (fun hc8 => ?_) (fun hc8 => ?_)
           ·
            replace hm0 := cond_t hc8 hm0
            refine V.seq ?_
            refine V.region ?_
            refine VO.cons rfl (V1.assign rfl rfl rfl lt0 ?_)
            refine VO.nil ?_
            refine V.ret ?_
            obtain rfl := Option.some.inj hm0
            exact ⟨_, [], ⟨_, _, rfl, rfl, rfl⟩, List.nil_sublist _, rfl, rfl⟩
           ·
            replace hm0 := cond_f hc8 hm0
            refine V.skip ?_
            refine V.seq ?_
            refine V.region ?_
            refine VO.cons rfl (V1.assign rfl rfl rfl lt0 ?_)
            refine VO.nil ?_
            refine V.ret ?_
            obtain rfl := Option.some.inj hm0
            exact ⟨_, [], ⟨_, _, rfl, rfl, rfl⟩, List.nil_sublist _, rfl, rfl⟩
        ·
         refine V.keepT 106 [8, 9, 11, 14, 16, 17] [0] (E0 := [(8, .vl rn 5 (List.map (encCarton rn) y2.1)), (9, .bool y2.2), (11, .nils), (14, .int .i64 y10.1), (16, .sref ob1 5 0 (List.length y13.1)), (17, .bool y13.2)]) (A := [(ob1, ⟨5, deepC cellCarton ts_88 y13.1⟩)]) (T := os_88) (H0 := [(ob1, ⟨5, deepC cellCarton ts_88 y13.1⟩)]) (T' := os_88) rfl (⟨_, _, rfl, rfl, ⟨_, _, rfl, rfl, ⟨_, _, rfl, rfl, ⟨_, _, rfl, rfl, ⟨_, _, rfl, rfl, ⟨_, _, rfl, rfl, rfl⟩⟩⟩⟩⟩⟩) rfl (⟨_, _, rfl, rfl, rfl⟩) rfl (List.Sublist.refl _) ?_
         refine V.seq ?_
         refine V.seq ?_
         replace hm0 := bindO hm0; rcases hm0 with ⟨y14, hh16, hm0⟩
         refine V.region ?_
         refine VO.cons rfl (V1.move rfl rfl rfl lt0 ?_)
         refine VO.cons rfl (V1.move rfl rfl rfl lt0 ?_)
         refine VO.cons rfl (V1.callL (rn + 1) ([ob1] ++ List.map Prod.fst os_88) [.vl (rn + 1) 5 (List.map (encCarton (rn + 1)) y13.1), .vl rn 5 (List.map (encCarton rn) y2.1)] rfl rfl rfl cok_25 rfl ⟨_, _, rfl, Lend.deep (m := 1) (inn := (fun c_ : Carton => List.map encInt c_.Files)) (cell := cellCarton) cokCarton (ts := ts_88) (os := os_88) (xs := y13.1) 0 hd_88 rfl (fun _ => roL_map (fun _ => rfl) _) rfl (fun p hp => memTail (A := [(ob1, ⟨5, deepC cellCarton ts_88 y13.1⟩)]) (T := os_88) hp rfl) (List.mem_append_left _ (.head _)) (fun p hp => List.mem_append_right _ (List.mem_map.2 ⟨p, hp, rfl⟩)), ⟨_, _, rfl, .same _, rfl⟩⟩ (bwTail (A := [(ob1, ⟨5, deepC cellCarton ts_88 y13.1⟩)]) (T := os_88) rfl (bwCons (k := 0) rfl bwNil) (fun p hp => hp)) (ok_laws_eqCartonS hh16) rfl (⟨(by first | omega | (dsimp only; omega)), by rintro _ _ ⟨rfl, rfl⟩; exact ⟨rfl, by simp⟩⟩) lt0 ?_)
         rintro _ _ ⟨rfl, rfl⟩
         refine VO.cons rfl (V1.not rfl rfl rfl lt0 ?_)
         refine VO.cons rfl (V1.move rfl rfl rfl lt0 ?_)
         apply VO.or (n := 3) rfl rfl rfl rfl rfl rfl lt0 (.none rfl)
         ·
          intro hg3
          refine VO.step (.some rfl rfl rfl) (V1.move rfl rfl rfl lt0 ?_)
          refine VO.step (.some rfl rfl rfl) (V1.move rfl rfl rfl lt0 ?_)
          refine VO.step (.some rfl rfl rfl) (V1.boolNeq rfl rfl und_4 rfl rfl lt0 ?_)
          exact VO.nil ⟨rfl, rfl, rfl, rfl, .inr ⟨rfl, .inr ⟨rfl, .inr ⟨rfl, .inr ⟨rfl, .inl rfl⟩⟩⟩⟩⟩
         refine VO.nil ?_
         refine V.keepT 106 [11, 14, 97] [] (E0 := [(11, .nils), (14, .int .i64 y10.1), (97, .bool ((!y14) || (!(y13.2 == y2.2))))]) (A := [(ob1, ⟨5, deepC cellCarton ts_88 y13.1⟩)]) (T := os_88) (H0 := []) (T' := []) rfl (⟨_, _, rfl, rfl, ⟨_, _, rfl, rfl, ⟨_, _, rfl, rfl, rfl⟩⟩⟩) rfl (rfl) rfl (List.nil_sublist _) ?_
         refine V.cond rfl (fun hc6 => ?_) (fun hc6 => ?_)
         ·
          replace hm0 := cond_t hc6 hm0
          refine V.seq ?_
          refine V.region ?_
          refine VO.cons rfl (V1.assign rfl rfl rfl lt0 ?_)
          refine VO.nil ?_
          refine V.ret ?_
          obtain rfl := Option.some.inj hm0
          exact ⟨_, [], ⟨_, _, rfl, rfl, rfl⟩, List.nil_sublist _, rfl, rfl⟩
         ·
          replace hm0 := cond_f hc6 hm0
          refine V.skip ?_
          refine V.seq ?_
          refine V.region ?_
          refine VO.cons rfl (V1.assign rfl rfl rfl lt0 ?_)
          refine VO.nil ?_
          refine V.seq ?_
          replace hm0 := bindO hm0; rcases hm0 with ⟨y15, hh17, hm0⟩
          refine V.region ?_
          refine VO.cons rfl (V1.move rfl rfl rfl lt0 ?_)
          refine VO.cons rfl (V1.move rfl rfl rfl lt0 ?_)
          refine VO.weakenK (Keeps.nilsE (l := y10.2) 98 rn 5 (encCarton rn) (List.length_eq_zero_iff.1 (hh12.trans (congrArg List.length (hob0 rfl)))) rfl rfl) ?_
          refine VO.cons rfl (V1.call rfl rfl rfl cok_33 rfl (ok_laws_heldCartonS hh17) rfl lt0 ?_)
          rintro _ _ ⟨rfl, rfl⟩
          refine VO.cons rfl (V1.assign rfl rfl rfl lt0 ?_)
          refine VO.nil ?_
          refine V.keep 106 [14, 15] [] (E0 := [(14, .int .i64 y10.1), (15, .int .i64 y15)]) (H0 := []) rfl (⟨_, _, rfl, rfl, ⟨_, _, rfl, rfl, rfl⟩⟩) (rfl) rfl ?_
          refine V.seq ?_
          refine V.seq ?_
          refine V.region ?_
          refine VO.cons rfl (V1.move rfl rfl rfl lt0 ?_)
          refine VO.cons rfl (V1.int rfl rfl rfl rfl rfl lt0 ?_)
          refine VO.nil ?_
          refine V.cond rfl (fun hc7 => ?_) (fun hc7 => ?_)
          ·
           replace hm0 := cond_t hc7 hm0
           refine V.seq ?_
           refine V.region ?_
           refine VO.cons rfl (V1.assign rfl rfl rfl lt0 ?_)
           refine VO.nil ?_
           refine V.ret ?_
           obtain rfl := Option.some.inj hm0
           exact ⟨_, [], ⟨_, _, rfl, rfl, rfl⟩, List.nil_sublist _, rfl, rfl⟩
          ·
           replace hm0 := cond_f hc7 hm0
           refine V.skip ?_
           refine V.seq ?_
           refine V.seq ?_
           refine V.region ?_
           refine VO.cons rfl (V1.move rfl rfl rfl lt0 ?_)
           refine VO.cons rfl (V1.move rfl rfl rfl lt0 ?_)
           refine VO.cons rfl (V1.int rfl rfl rfl rfl rfl lt0 ?_)
           refine VO.nil ?_
           refine V.keep 106 [105] [] (E0 := [(105, .bool (y15 != y10.1))]) (H0 := []) rfl (⟨_, _, rfl, rfl, rfl⟩) (rfl) rfl ?_
           refine V.cond rfl (fun hc8 => ?_) (fun hc8 => ?_)
           ·
            replace hm0 := cond_t hc8 hm0
            refine V.seq ?_
            refine V.region ?_
            refine VO.cons rfl (V1.assign rfl rfl rfl lt0 ?_)
            refine VO.nil ?_
            refine V.ret ?_
            obtain rfl := Option.some.inj hm0
            exact ⟨_, [], ⟨_, _, rfl, rfl, rfl⟩, List.nil_sublist _, rfl, rfl⟩
           ·
            replace hm0 := cond_f hc8 hm0
            refine V.skip ?_
            refine V.seq ?_
            refine V.region ?_
            refine VO.cons rfl (V1.assign rfl rfl rfl lt0 ?_)
            refine VO.nil ?_
            refine V.ret ?_
            obtain rfl := Option.some.inj hm0
            exact ⟨_, [], ⟨_, _, rfl, rfl, rfl⟩, List.nil_sublist _, rfl, rfl⟩
  ·
   refine V.keepT 106 [0, 1, 2, 8, 9, 10, 11, 12] [0, 1] (E0 := [(0, .vl ρ0 5 (List.map (encCarton σ0) aList)), (1, .int .i64 aFile), (2, .int .i64 aId), (8, .vl rn 5 (List.map (encCarton rn) y2.1)), (9, .bool y2.2), (10, .sref b2 5 0 (List.length y3)), (11, .sref ob0 5 0 (List.length y4.1)), (12, .bool y4.2)]) (A := [(ob0, ⟨5, deepC cellCarton ts_66 y4.1⟩), (b2, ⟨5, deepC cellCarton ts_65 y3⟩)]) (T := (os_66 ++ os_65)) (H0 := [(ob0, ⟨5, deepC cellCarton ts_66 y4.1⟩), (b2, ⟨5, deepC cellCarton ts_65 y3⟩)]) (T' := (os_66 ++ os_65)) rfl (⟨_, _, rfl, rfl, ⟨_, _, rfl, rfl, ⟨_, _, rfl, rfl, ⟨_, _, rfl, rfl, ⟨_, _, rfl, rfl, ⟨_, _, rfl, rfl, ⟨_, _, rfl, rfl, ⟨_, _, rfl, rfl, rfl⟩⟩⟩⟩⟩⟩⟩⟩) rfl (⟨_, _, rfl, rfl, ⟨_, _, rfl, rfl, rfl⟩⟩) rfl (List.Sublist.refl _) ?_
   refine V.seq ?_
   refine V.seq ?_
   replace hm0 := bindO hm0; rcases hm0 with ⟨y5, hh5, hm0⟩
   refine V.region ?_
   refine VO.cons rfl (V1.move rfl rfl rfl lt0 ?_)
   refine VO.cons rfl (V1.move rfl rfl rfl lt0 ?_)
   refine VO.cons rfl (V1.callL (rn + 1) ([ob0] ++ List.map Prod.fst os_66) [.vl (rn + 1) 5 (List.map (encCarton (rn + 1)) y4.1), .vl rn 5 (List.map (encCarton rn) y2.1)] rfl rfl rfl cok_25 rfl ⟨_, _, rfl, Lend.deep (m := 1) (inn := (fun c_ : Carton => List.map encInt c_.Files)) (cell := cellCarton) cokCarton (ts := ts_66) (os := os_66) (xs := y4.1) 0 hd_66 rfl (fun _ => roL_map (fun _ => rfl) _) rfl (fun p hp => memTail (A := [(ob0, ⟨5, deepC cellCarton ts_66 y4.1⟩), (b2, ⟨5, deepC cellCarton ts_65 y3⟩)]) (T := (os_66 ++ os_65)) (List.mem_append_left _ hp) rfl) (List.mem_append_left _ (.head _)) (fun p hp => List.mem_append_right _ (List.mem_map.2 ⟨p, hp, rfl⟩)), ⟨_, _, rfl, .same _, rfl⟩⟩ (bwTail (A := [(ob0, ⟨5, deepC cellCarton ts_66 y4.1⟩), (b2, ⟨5, deepC cellCarton ts_65 y3⟩)]) (T := (os_66 ++ os_65)) rfl (bwCons (k := 0) rfl bwNil) (fun p hp => (List.mem_append_left _ hp))) (ok_laws_eqCartonS hh5) rfl (⟨(by first | omega | (dsimp only; omega)), by rintro _ _ ⟨rfl, rfl⟩; exact ⟨rfl, by simp⟩⟩) lt0 ?_)
   rintro _ _ ⟨rfl, rfl⟩
   refine VO.cons rfl (V1.not rfl rfl rfl lt0 ?_)
   refine VO.cons rfl (V1.move rfl rfl rfl lt0 ?_)
   apply VO.or (n := 3) rfl rfl rfl rfl rfl rfl lt0 (.none rfl)
   ·
    intro hg0
    refine VO.step (.some rfl rfl rfl) (V1.move rfl rfl rfl lt0 ?_)
    refine VO.step (.some rfl rfl rfl) (V1.move rfl rfl rfl lt0 ?_)
    refine VO.step (.some rfl rfl rfl) (V1.boolNeq rfl rfl und_4 rfl rfl lt0 ?_)
    exact VO.nil ⟨rfl, rfl, rfl, rfl, .inr ⟨rfl, .inr ⟨rfl, .inr ⟨rfl, .inr ⟨rfl, .inl rfl⟩⟩⟩⟩⟩
   refine VO.nil ?_
   refine V.keepT 106 [0, 1, 2, 8, 9, 10, 11, 12, 48] [0, 1] (E0 := [(0, .vl ρ0 5 (List.map (encCarton σ0) aList)), (1, .int .i64 aFile), (2, .int .i64 aId), (8, .vl rn 5 (List.map (encCarton rn) y2.1)), (9, .bool y2.2), (10, .sref b2 5 0 (List.length y3)), (11, .sref ob0 5 0 (List.length y4.1)), (12, .bool y4.2), (48, .bool ((!y5) || (!(y4.2 == y2.2))))]) (A := [(ob0, ⟨5, deepC cellCarton ts_66 y4.1⟩), (b2, ⟨5, deepC cellCarton ts_65 y3⟩)]) (T := (os_66 ++ os_65)) (H0 := [(ob0, ⟨5, deepC cellCarton ts_66 y4.1⟩), (b2, ⟨5, deepC cellCarton ts_65 y3⟩)]) (T' := (os_66 ++ os_65)) rfl (⟨_, _, rfl, rfl, ⟨_, _, rfl, rfl, ⟨_, _, rfl, rfl, ⟨_, _, rfl, rfl, ⟨_, _, rfl, rfl, ⟨_, _, rfl, rfl, ⟨_, _, rfl, rfl, ⟨_, _, rfl, rfl, ⟨_, _, rfl, rfl, rfl⟩⟩⟩⟩⟩⟩⟩⟩⟩) rfl (⟨_, _, rfl, rfl, ⟨_, _, rfl, rfl, rfl⟩⟩) rfl (List.Sublist.refl _) ?_
   refine V.cond rfl (fun hc1 => ?_) (fun hc1 => ?_)
   ·
    replace hm0 := cond_t hc1 hm0
    refine V.seq ?_
    refine V.region ?_
    refine VO.cons rfl (V1.assign rfl rfl rfl lt0 ?_)
    refine VO.nil ?_
    refine V.ret ?_
    obtain rfl := Option.some.inj hm0
    exact ⟨_, [], ⟨_, _, rfl, rfl, rfl⟩, List.nil_sublist _, rfl, rfl⟩
   ·
    replace hm0 := cond_f hc1 hm0
    refine V.skip ?_
    refine V.seq ?_
    refine V.seq ?_
    replace hm0 := bindO hm0; rcases hm0 with ⟨y6, hh6, hm0⟩
    replace hm0 := bindO hm0; rcases hm0 with ⟨y7, hh7, hm0⟩
    refine V.region ?_
    refine VO.cons rfl (V1.move rfl rfl rfl lt0 ?_)
    refine VO.cons rfl (V1.move rfl rfl rfl lt0 ?_)
    refine VO.cons rfl (V1.call rfl rfl rfl cok_22 rfl (ok_laws_toCartonS hh6) rfl lt0 ?_)
    rintro _ _ ⟨b3, rfl, rfl⟩
    refine VO.weakenK (Keeps.freezeG 0 rn [(51, .vl rn 5 (List.map (encCarton rn) y6))] ((ob0, ⟨5, deepC cellCarton ts_66 y4.1⟩) :: (b2, ⟨5, deepC cellCarton ts_65 y3⟩) :: (os_66 ++ os_65)) (f := (encCarton rn)) (l := y6) rfl (fun _ => rfl) ⟨⟨_, rfl, .here⟩, trivial⟩ ⟨_, _, rfl, rfl, .inl rfl, ⟨_, _, rfl, rfl, .inl rfl, FrzH.same⟩⟩ rfl iNil) ?_
    refine VO.cons rfl (V1.callL (rn + 1) ([b2] ++ List.map Prod.fst os_65) [.vl (rn + 1) 5 (List.map (encCarton (rn + 1)) y3), .vl rn 5 (List.map (encCarton rn) y6)] rfl rfl rfl cok_25 rfl ⟨_, _, rfl, Lend.deep (m := 1) (inn := (fun c_ : Carton => List.map encInt c_.Files)) (cell := cellCarton) cokCarton (ts := ts_65) (os := os_65) (xs := y3) 1 hd_65 rfl (fun _ => roL_map (fun _ => rfl) _) rfl (fun p hp => memTail (A := [(ob0, ⟨5, deepC cellCarton ts_66 y4.1⟩), (b2, ⟨5, deepC cellCarton ts_65 y3⟩)]) (T := (os_66 ++ os_65)) (List.mem_append_right _ hp) rfl) (List.mem_append_left _ (.head _)) (fun p hp => List.mem_append_right _ (List.mem_map.2 ⟨p, hp, rfl⟩)), ⟨_, _, rfl, .same _, rfl⟩⟩ (bwTail (A := [(ob0, ⟨5, deepC cellCarton ts_66 y4.1⟩), (b2, ⟨5, deepC cellCarton ts_65 y3⟩)]) (T := (os_66 ++ os_65)) rfl (bwCons (k := 1) rfl bwNil) (fun p hp => (List.mem_append_right _ hp))) (ok_laws_eqCartonS hh7) rfl (⟨(by first | omega | (dsimp only; omega)), by rintro _ _ ⟨rfl, rfl⟩; exact ⟨rfl, by simp⟩⟩) lt0 ?_)
    rintro _ _ ⟨rfl, rfl⟩
    refine VO.cons rfl (V1.not rfl rfl rfl lt0 ?_)
    refine VO.nil ?_
    refine V.keepT 106 [0, 1, 2, 8, 9, 10, 11, 12, 53] [0, 1] (E0 := [(0, .vl ρ0 5 (List.map (encCarton σ0) aList)), (1, .int .i64 aFile), (2, .int .i64 aId), (8, .vl rn 5 (List.map (encCarton rn) y2.1)), (9, .bool y2.2), (10, .sref b2 5 0 (List.length y3)), (11, .sref ob0 5 0 (List.length y4.1)), (12, .bool y4.2), (53, .bool (!y7))]) (A := [(ob0, ⟨5, deepC cellCarton ts_66 y4.1⟩), (b2, ⟨5, deepC cellCarton ts_65 y3⟩)]) (T := (os_66 ++ os_65)) (H0 := [(ob0, ⟨5, deepC cellCarton ts_66 y4.1⟩), (b2, ⟨5, deepC cellCarton ts_65 y3⟩)]) (T' := (os_66 ++ os_65)) rfl (⟨_, _, rfl, rfl, ⟨_, _, rfl, rfl, ⟨_, _, rfl, rfl, ⟨_, _, rfl, rfl, ⟨_, _, rfl, rfl, ⟨_, _, rfl, rfl, ⟨_, _, rfl, rfl, ⟨_, _, rfl, rfl, ⟨_, _, rfl, rfl, rfl⟩⟩⟩⟩⟩⟩⟩⟩⟩) rfl (⟨_, _, rfl, rfl, ⟨_, _, rfl, rfl, rfl⟩⟩) rfl (List.Sublist.refl _) ?_
    refine V.cond rfl (fun hc2 => ?_) (fun hc2 => ?_)
    ·
     replace hm0 := cond_t hc2 hm0
     refine V.seq ?_
     refine V.region ?_
     refine VO.cons rfl (V1.assign rfl rfl rfl lt0 ?_)
     refine VO.nil ?_
     refine V.ret ?_
     obtain rfl := Option.some.inj hm0
     exact ⟨_, [], ⟨_, _, rfl, rfl, rfl⟩, List.nil_sublist _, rfl, rfl⟩
    ·
     replace hm0 := cond_f hc2 hm0
     refine V.skip ?_
     refine V.seq ?_
     refine V.region ?_
     refine VO.cons rfl (V1.assign rfl rfl rfl lt0 ?_)
     refine VO.nil ?_
     refine V.seq ?_
     replace hm0 := bindO hm0; rcases hm0 with ⟨y8, hh8, hm0⟩
     replace hm0 := asrt_some hm0; rcases hm0 with ⟨hh9, hm0⟩
     refine V.region ?_
     refine VO.cons rfl (V1.move rfl rfl rfl lt0 ?_)
     refine VO.cons rfl (V1.move rfl rfl rfl lt0 ?_)
     refine VO.cons rfl (V1.permK (V1.callDT 1 (A := [(ob0, ⟨5, deepC cellCarton ts_66 y4.1⟩), (b2, ⟨5, deepC cellCarton ts_65 y3⟩)]) (A' := [(ob0, ⟨5, deepC cellCarton ts_66 y4.1⟩)]) (T0 := (os_66 ++ os_65)) (os := os_65) (T := os_66) (p := (b2, ⟨5, deepC cellCarton ts_65 y3⟩)) rfl rfl rfl cok_26 rfl rfl List.perm_append_comm rfl rfl (rn + 1) [] [.sref b2 5 0 (List.length y3), .int .i64 (1 : Int)] ⟨_, _, rfl, .same _, ⟨_, _, rfl, .same _, rfl⟩⟩ bwNil (ok_laws_markCartonS hh8 (oq := some b2) (tq := ts_65) (oz := os_65) (fun e => by cases e) hd_65) rfl (.inl rfl) lt0 ?_))
     rintro _ _ ⟨ts_98, os_98, hd_98, rfl, rfl⟩
     refine ⟨_, ?_, Keeps.perm (([(b2, ⟨5, deepC cellCarton ts_98 y8.2⟩), (ob0, ⟨5, deepC cellCarton ts_66 y4.1⟩)] : List (Nat × Obj')) ++ (os_98 ++ os_66)) (permDeep (p := (b2, ⟨5, deepC cellCarton ts_98 y8.2⟩)) (os := os_98) (A := [(ob0, ⟨5, deepC cellCarton ts_66 y4.1⟩)]) (T := os_66))⟩
     refine VO.cons rfl (V1.assign rfl rfl rfl lt0 ?_)
     refine VO.nil ?_
     refine V.seq ?_
     refine V.seq ?_
     replace hm0 := bindO hm0; rcases hm0 with ⟨y9, hh10, hm0⟩
     refine V.region ?_
     refine VO.cons rfl (V1.move rfl rfl rfl lt0 ?_)
     refine VO.cons rfl (V1.int rfl rfl rfl rfl rfl lt0 ?_)
     refine VO.cons rfl (V1.move rfl rfl rfl lt0 ?_)
     apply VO.or (n := 4) rfl rfl rfl rfl rfl rfl lt0 (.none rfl)
     ·
      intro hg1
      refine VO.step (.some rfl rfl rfl) (V1.move rfl rfl rfl lt0 ?_)
      refine VO.step (.some rfl rfl rfl) (V1.move rfl rfl rfl lt0 ?_)
      refine VO.step (.some rfl rfl rfl) (V1.callL (rn + 1) ([ob0] ++ List.map Prod.fst os_66) [.vl (rn + 1) 5 (List.map (encCarton (rn + 1)) y4.1), .vl rn 5 (List.map (encCarton rn) y2.1)] rfl rfl rfl cok_25 rfl ⟨_, _, rfl, Lend.deep (m := 1) (inn := (fun c_ : Carton => List.map encInt c_.Files)) (cell := cellCarton) cokCarton (ts := ts_66) (os := os_66) (xs := y4.1) 1 hd_66 rfl (fun _ => roL_map (fun _ => rfl) _) rfl (fun p hp => memTail (A := [(b2, ⟨5, deepC cellCarton ts_98 y8.2⟩), (ob0, ⟨5, deepC cellCarton ts_66 y4.1⟩)]) (T := (os_98 ++ os_66)) (List.mem_append_right _ hp) rfl) (List.mem_append_left _ (.head _)) (fun p hp => List.mem_append_right _ (List.mem_map.2 ⟨p, hp, rfl⟩)), ⟨_, _, rfl, .same _, rfl⟩⟩ (bwTail (A := [(b2, ⟨5, deepC cellCarton ts_98 y8.2⟩), (ob0, ⟨5, deepC cellCarton ts_66 y4.1⟩)]) (T := (os_98 ++ os_66)) rfl (bwCons (k := 1) rfl bwNil) (fun p hp => (List.mem_append_right _ hp))) (ok_laws_eqCartonS (cond_f hg1 hh10)) rfl (⟨(by first | omega | (dsimp only; omega)), by rintro _ _ ⟨rfl, rfl⟩; exact ⟨rfl, by simp⟩⟩) lt0 ?_)
      rintro _ _ ⟨rfl, rfl⟩
      refine VO.step (.some rfl rfl rfl) (V1.not rfl rfl rfl lt0 ?_)
      exact VO.nil ⟨rfl, rfl, rfl, rfl, .inr ⟨rfl, .inr ⟨rfl, .inr ⟨rfl, .inr ⟨rfl, .inr ⟨rfl, .inl rfl⟩⟩⟩⟩⟩⟩
     refine VO.cons rfl (V1.move rfl rfl rfl lt0 ?_)
     apply VO.or (n := 3) rfl rfl rfl rfl rfl rfl lt0 (.none rfl)
     ·
      intro hg2
      refine VO.step (.some rfl rfl rfl) (V1.move rfl rfl rfl lt0 ?_)
      refine VO.step (.some rfl rfl rfl) (V1.move rfl rfl rfl lt0 ?_)
      refine VO.step (.some rfl rfl rfl) (V1.boolNeq rfl rfl und_4 rfl rfl lt0 ?_)
      exact VO.nil ⟨rfl, rfl, rfl, rfl, .inr ⟨rfl, .inr ⟨rfl, .inr ⟨rfl, .inr ⟨rfl, .inl rfl⟩⟩⟩⟩⟩
     refine VO.nil ?_
     refine V.keepT 106 [0, 1, 2, 8, 9, 11, 69] [1] (E0 := [(0, .vl ρ0 5 (List.map (encCarton σ0) aList)), (1, .int .i64 aFile), (2, .int .i64 aId), (8, .vl rn 5 (List.map (encCarton rn) y2.1)), (9, .bool y2.2), (11, .sref ob0 5 0 (List.length y4.1)), (69, .bool (((decide (y8.1 < (0 : Int))) || (!y9)) || (!(y4.2 == y2.2))))]) (A := [(b2, ⟨5, deepC cellCarton ts_98 y8.2⟩), (ob0, ⟨5, deepC cellCarton ts_66 y4.1⟩)]) (T := (os_98 ++ os_66)) (H0 := [(ob0, ⟨5, deepC cellCarton ts_66 y4.1⟩)]) (T' := os_66) rfl (⟨_, _, rfl, rfl, ⟨_, _, rfl, rfl, ⟨_, _, rfl, rfl, ⟨_, _, rfl, rfl, ⟨_, _, rfl, rfl, ⟨_, _, rfl, rfl, ⟨_, _, rfl, rfl, rfl⟩⟩⟩⟩⟩⟩⟩) rfl (⟨_, _, rfl, rfl, rfl⟩) rfl (List.sublist_append_right _ _) ?_
     refine V.cond rfl (fun hc3 => ?_) (fun hc3 => ?_)
     ·
      replace hm0 := cond_t hc3 hm0
      refine V.seq ?_
      refine V.region ?_
      refine VO.cons rfl (V1.assign rfl rfl rfl lt0 ?_)
      refine VO.nil ?_
      refine V.ret ?_
      obtain rfl := Option.some.inj hm0
      exact ⟨_, [], ⟨_, _, rfl, rfl, rfl⟩, List.nil_sublist _, rfl, rfl⟩
     ·
      replace hm0 := cond_f hc3 hm0
      refine V.skip ?_
      refine V.seq ?_
      refine V.region ?_
      refine VO.cons rfl (V1.assign rfl rfl rfl lt0 ?_)
      refine VO.nil ?_
      refine V.seq ?_
      replace hm0 := bindO hm0; rcases hm0 with ⟨y10, hh11, hm0⟩
      replace hm0 := asrt_some hm0; rcases hm0 with ⟨hh12, hm0⟩
      refine V.region ?_
      refine VO.cons rfl (V1.move rfl rfl rfl lt0 ?_)
      refine VO.cons rfl (V1.move rfl rfl rfl lt0 ?_)
      refine VO.cons rfl (V1.permK (V1.callDT 0 (A := [(ob0, ⟨5, deepC cellCarton ts_66 y4.1⟩)]) (A' := []) (T0 := os_66) (os := os_66) (T := []) (p := (ob0, ⟨5, deepC cellCarton ts_66 y4.1⟩)) rfl rfl rfl cok_26 rfl rfl (.of_eq (List.append_nil _).symm) rfl rfl (rn + 1) [] [.sref ob0 5 0 (List.length y4.1), .int .i64 (1 : Int)] ⟨_, _, rfl, .same _, ⟨_, _, rfl, .same _, rfl⟩⟩ bwNil (ok_laws_markCartonS hh11 (oq := some ob0) (tq := ts_66) (oz := os_66) (fun e => by cases e) hd_66) rfl (.inl rfl) lt0 ?_))
      rintro _ _ ⟨ts_100, os_100, hd_100, rfl, rfl⟩
      refine ⟨_, ?_, Keeps.perm (([(ob0, ⟨5, deepC cellCarton ts_100 y10.2⟩)] : List (Nat × Obj')) ++ os_100) (permDeep0 (p := (ob0, ⟨5, deepC cellCarton ts_100 y10.2⟩)) (os := os_100) (A := []))⟩
      refine VO.weakenK (Keeps.say 11 (y := .sref ob0 5 0 (List.length y10.2)) rfl (congrArg (PV.sref ob0 5 0) hh12.symm)) ?_
      refine VO.cons rfl (V1.assign rfl rfl rfl lt0 ?_)
      refine VO.nil ?_
      refine V.seq ?_
      refine V.region ?_
      refine VO.cons rfl (V1.assign rfl rfl rfl lt0 ?_)
      refine VO.nil ?_
      refine V.seq ?_
      replace hm0 := bindO hm0; rcases hm0 with ⟨y11, hh13, hm0⟩
      refine V.region ?_
      refine VO.cons rfl (V1.move rfl rfl rfl lt0 ?_)
      refine VO.cons rfl (V1.move rfl rfl rfl lt0 ?_)
      refine VO.cons rfl (V1.callL (rn + 1) ([ob0] ++ List.map Prod.fst os_100) [.vl (rn + 1) 5 (List.map (encCarton (rn + 1)) y10.2), .int .i64 (1 : Int)] rfl rfl rfl cok_33 rfl ⟨_, _, rfl, Lend.deep (m := 1) (inn := (fun c_ : Carton => List.map encInt c_.Files)) (cell := cellCarton) cokCarton (ts := ts_100) (os := os_100) (xs := y10.2) 0 hd_100 rfl (fun _ => roL_map (fun _ => rfl) _) rfl (fun p hp => memTail (A := [(ob0, ⟨5, deepC cellCarton ts_100 y10.2⟩)]) (T := os_100) hp rfl) (List.mem_append_left _ (.head _)) (fun p hp => List.mem_append_right _ (List.mem_map.2 ⟨p, hp, rfl⟩)), ⟨_, _, rfl, .same _, rfl⟩⟩ (bwTail (A := [(ob0, ⟨5, deepC cellCarton ts_100 y10.2⟩)]) (T := os_100) rfl (bwCons (k := 0) rfl bwNil) (fun p hp => hp)) (ok_laws_heldCartonS hh13) rfl (⟨(by first | omega | (dsimp only; omega)), by rintro _ _ ⟨rfl, rfl⟩; exact ⟨rfl, by simp⟩⟩) lt0 ?_)
      rintro _ _ ⟨rfl, rfl⟩
      refine VO.cons rfl (V1.assign rfl rfl rfl lt0 ?_)
      refine VO.nil ?_
      refine V.keepT 106 [0, 1, 2, 8, 9, 11, 14, 15] [0] (E0 := [(0, .vl ρ0 5 (List.map (encCarton σ0) aList)), (1, .int .i64 aFile), (2, .int .i64 aId), (8, .vl rn 5 (List.map (encCarton rn) y2.1)), (9, .bool y2.2), (11, .sref ob0 5 0 (List.length y10.2)), (14, .int .i64 y10.1), (15, .int .i64 y11)]) (A := [(ob0, ⟨5, deepC cellCarton ts_100 y10.2⟩)]) (T := os_100) (H0 := [(ob0, ⟨5, deepC cellCarton ts_100 y10.2⟩)]) (T' := os_100) rfl (⟨_, _, rfl, rfl, ⟨_, _, rfl, rfl, ⟨_, _, rfl, rfl, ⟨_, _, rfl, rfl, ⟨_, _, rfl, rfl, ⟨_, _, rfl, rfl, ⟨_, _, rfl, rfl, ⟨_, _, rfl, rfl, rfl⟩⟩⟩⟩⟩⟩⟩⟩) rfl (⟨_, _, rfl, rfl, rfl⟩) rfl (List.Sublist.refl _) ?_
      refine V.seq ?_
      refine V.seq ?_
      refine V.region ?_
      refine VO.cons rfl (V1.move rfl rfl rfl lt0 ?_)
      refine VO.cons rfl (V1.int rfl rfl rfl rfl rfl lt0 ?_)
      refine VO.nil ?_
      refine V.cond rfl (fun hc4 => ?_) (fun hc4 => ?_)
      ·
       replace hm0 := cond_t hc4 hm0
       refine V.seq ?_
       refine V.region ?_
       refine VO.cons rfl (V1.assign rfl rfl rfl lt0 ?_)
       refine VO.nil ?_
       refine V.ret ?_
       obtain rfl := Option.some.inj hm0
       exact ⟨_, [], ⟨_, _, rfl, rfl, rfl⟩, List.nil_sublist _, rfl, rfl⟩
      ·
       replace hm0 := cond_f hc4 hm0
       refine V.skip ?_
       refine V.seq ?_
       refine V.seq ?_
       refine V.region ?_
       refine VO.cons rfl (V1.move rfl rfl rfl lt0 ?_)
       refine VO.cons rfl (V1.move rfl rfl rfl lt0 ?_)
       refine VO.cons rfl (V1.int rfl rfl rfl rfl rfl lt0 ?_)
       refine VO.nil ?_
       refine V.keepT 106 [0, 1, 2, 8, 9, 11, 14, 80] [0] (E0 := [(0, .vl ρ0 5 (List.map (encCarton σ0) aList)), (1, .int .i64 aFile), (2, .int .i64 aId), (8, .vl rn 5 (List.map (encCarton rn) y2.1)), (9, .bool y2.2), (11, .sref ob0 5 0 (List.length y10.2)), (14, .int .i64 y10.1), (80, .bool (y11 != y10.1))]) (A := [(ob0, ⟨5, deepC cellCarton ts_100 y10.2⟩)]) (T := os_100) (H0 := [(ob0, ⟨5, deepC cellCarton ts_100 y10.2⟩)]) (T' := os_100) rfl (⟨_, _, rfl, rfl, ⟨_, _, rfl, rfl, ⟨_, _, rfl, rfl, ⟨_, _, rfl, rfl, ⟨_, _, rfl, rfl, ⟨_, _, rfl, rfl, ⟨_, _, rfl, rfl, ⟨_, _, rfl, rfl, rfl⟩⟩⟩⟩⟩⟩⟩⟩) rfl (⟨_, _, rfl, rfl, rfl⟩) rfl (List.Sublist.refl _) ?_
       refine V.cond rfl (fun hc5 => ?_) (fun hc5 => ?_)
       ·
        replace hm0 := cond_t hc5 hm0
        refine V.seq ?_
        refine V.region ?_
        refine VO.cons rfl (V1.assign rfl rfl rfl lt0 ?_)
        refine VO.nil ?_
        refine V.ret ?_
        obtain rfl := Option.some.inj hm0
        exact ⟨_, [], ⟨_, _, rfl, rfl, rfl⟩, List.nil_sublist _, rfl, rfl⟩
       ·
        replace hm0 := cond_f hc5 hm0
        refine V.skip ?_
        refine V.seq ?_
        replace hm0 := bindO hm0; rcases hm0 with ⟨y12, hh14, hm0⟩
        replace hm0 := bindO hm0; rcases hm0 with ⟨y13, hh15, hm0⟩
        refine V.region ?_
        refine VO.cons rfl (V1.move rfl rfl rfl lt0 ?_)
        refine VO.cons rfl (V1.call rfl rfl rfl cok_22 rfl (ok_laws_toCartonS hh14) rfl lt0 ?_)
        rintro _ _ ⟨b4, rfl, rfl⟩
        refine VO.weakenK (Keeps.freezeG 0 rn [(83, .vl rn 5 (List.map (encCarton rn) y12))] ((ob0, ⟨5, deepC cellCarton ts_100 y10.2⟩) :: os_100) (f := (encCarton rn)) (l := y12) rfl (fun _ => rfl) ⟨⟨_, rfl, .here⟩, trivial⟩ ⟨_, _, rfl, rfl, .inl rfl, FrzH.same⟩ rfl iNil) ?_
        refine VO.cons rfl (V1.move rfl rfl rfl lt0 ?_)
        refine VO.cons rfl (V1.move rfl rfl rfl lt0 ?_)
        refine VO.cons rfl (V1.permK (V1.call rfl rfl rfl cok_40 rfl (ok_impl_RefileTo hh15) rfl lt0 ?_))
        rintro _ _ ⟨ob1, ts_103, os_103, hob1, hd_103, rfl, rfl⟩
        refine ⟨_, ?_, Keeps.perm (optH 5 ob1 (deepC cellCarton ts_103 y13.1) ++ (([(ob0, ⟨5, deepC cellCarton ts_100 y10.2⟩)] : List (Nat × Obj')) ++ (os_103 ++ os_100))) (permDeepO (o := optH 5 ob1 (deepC cellCarton ts_103 y13.1)) (os := os_103) (A := [(ob0, ⟨5, deepC cellCarton ts_100 y10.2⟩)]) (T := os_100))⟩
        refine VO.cons rfl (V1.move rfl rfl rfl lt0 ?_)
        refine VO.cons rfl (V1.extract rfl rfl rfl rfl lt0 ?_)
        refine VO.cons rfl (V1.extract rfl rfl rfl rfl lt0 ?_)
        refine VO.cons rfl (V1.assign rfl rfl rfl lt0 ?_)
        refine VO.cons rfl (V1.assign rfl rfl rfl lt0 ?_)
        refine VO.nil ?_
        rcases ob1 with _ | ob1
        ·
         obtain ⟨rfl, rfl⟩ := Deep.nil (hob1 rfl) hd_103
         refine V.keepT 106 [8, 9, 11, 14, 16, 17] [0] (E0 := [(8, .vl rn 5 (List.map (encCarton rn) y2.1)), (9, .bool y2.2), (11, .sref ob0 5 0 (List.length y10.2)), (14, .int .i64 y10.1), (16, .nils), (17, .bool y13.2)]) (A := [(ob0, ⟨5, deepC cellCarton ts_100 y10.2⟩)]) (T := os_100) (H0 := [(ob0, ⟨5, deepC cellCarton ts_100 y10.2⟩)]) (T' := os_100) rfl (⟨_, _, rfl, rfl, ⟨_, _, rfl, rfl, ⟨_, _, rfl, rfl, ⟨_, _, rfl, rfl, ⟨_, _, rfl, rfl, ⟨_, _, rfl, rfl, rfl⟩⟩⟩⟩⟩⟩) rfl (⟨_, _, rfl, rfl, rfl⟩) rfl (List.Sublist.refl _) ?_
         refine V.seq ?_
         refine V.seq ?_
         replace hm0 := bindO hm0; rcases hm0 with ⟨y14, hh16, hm0⟩
         refine V.region ?_
         refine VO.cons rfl (V1.move rfl rfl rfl lt0 ?_)
         refine VO.cons rfl (V1.move rfl rfl rfl lt0 ?_)
         refine VO.weakenK (Keeps.nilsE (l := y13.1) 89 rn 5 (encCarton rn) (hob1 rfl) rfl rfl) ?_
         refine VO.cons rfl (V1.call rfl rfl rfl cok_25 rfl (ok_laws_eqCartonS hh16) rfl lt0 ?_)
         rintro _ _ ⟨rfl, rfl⟩
         refine VO.cons rfl (V1.not rfl rfl rfl lt0 ?_)
         refine VO.cons rfl (V1.move rfl rfl rfl lt0 ?_)
         apply VO.or (n := 3) rfl rfl rfl rfl rfl rfl lt0 (.none rfl)
         ·
          intro hg3
          refine VO.step (.some rfl rfl rfl) (V1.move rfl rfl rfl lt0 ?_)
          refine VO.step (.some rfl rfl rfl) (V1.move rfl rfl rfl lt0 ?_)
          refine VO.step (.some rfl rfl rfl) (V1.boolNeq rfl rfl und_4 rfl rfl lt0 ?_)
          exact VO.nil ⟨rfl, rfl, rfl, rfl, .inr ⟨rfl, .inr ⟨rfl, .inr ⟨rfl, .inr ⟨rfl, .inl rfl⟩⟩⟩⟩⟩
         refine VO.nil ?_
         refine V.keepT 106 [11, 14, 97] [0] (E0 := [(11, .sref ob0 5 0 (List.length y10.2)), (14, .int .i64 y10.1), (97, .bool ((!y14) || (!(y13.2 == y2.2))))]) (A := [(ob0, ⟨5, deepC cellCarton ts_100 y10.2⟩)]) (T := os_100) (H0 := [(ob0, ⟨5, deepC cellCarton ts_100 y10.2⟩)]) (T' := os_100) rfl (⟨_, _, rfl, rfl, ⟨_, _, rfl, rfl, ⟨_, _, rfl, rfl, rfl⟩⟩⟩) rfl (⟨_, _, rfl, rfl, rfl⟩) rfl (List.Sublist.refl _) ?_
         refine V.cond rfl (fun hc6 => ?_) (fun hc6 => ?_)
         ·
          replace hm0 := cond_t hc6 hm0
          refine V.seq ?_
          refine V.region ?_
          refine VO.cons rfl (V1.assign rfl rfl rfl lt0 ?_)
          refine VO.nil ?_
          refine V.ret ?_
          obtain rfl := Option.some.inj hm0
          exact ⟨_, [], ⟨_, _, rfl, rfl, rfl⟩, List.nil_sublist _, rfl, rfl⟩
         ·
          replace hm0 := cond_f hc6 hm0
          refine V.skip ?_
          refine V.seq ?_
          refine V.region ?_
          refine VO.cons rfl (V1.assign rfl rfl rfl lt0 ?_)
          refine VO.nil ?_
          refine V.seq ?_
          replace hm0 := bindO hm0; rcases hm0 with ⟨y15, hh17, hm0⟩
          refine V.region ?_
          refine VO.cons rfl (V1.move rfl rfl rfl lt0 ?_)
          refine VO.cons rfl (V1.move rfl rfl rfl lt0 ?_)
          refine VO.cons rfl (V1.callL (rn + 1) ([ob0] ++ List.map Prod.fst os_100) [.vl (rn + 1) 5 (List.map (encCarton (rn + 1)) y10.2), .int .i64 (1 : Int)] rfl rfl rfl cok_33 rfl ⟨_, _, rfl, Lend.deep (m := 1) (inn := (fun c_ : Carton => List.map encInt c_.Files)) (cell := cellCarton) cokCarton (ts := ts_100) (os := os_100) (xs := y10.2) 0 hd_100 rfl (fun _ => roL_map (fun _ => rfl) _) rfl (fun p hp => memTail (A := [(ob0, ⟨5, deepC cellCarton ts_100 y10.2⟩)]) (T := os_100) hp rfl) (List.mem_append_left _ (.head _)) (fun p hp => List.mem_append_right _ (List.mem_map.2 ⟨p, hp, rfl⟩)), ⟨_, _, rfl, .same _, rfl⟩⟩ (bwTail (A := [(ob0, ⟨5, deepC cellCarton ts_100 y10.2⟩)]) (T := os_100) rfl (bwCons (k := 0) rfl bwNil) (fun p hp => hp)) (ok_laws_heldCartonS hh17) rfl (⟨(by first | omega | (dsimp only; omega)), by rintro _ _ ⟨rfl, rfl⟩; exact ⟨rfl, by simp⟩⟩) lt0 ?_)
          rintro _ _ ⟨rfl, rfl⟩
          refine VO.cons rfl (V1.assign rfl rfl rfl lt0 ?_)
          refine VO.nil ?_
          refine V.keepT 106 [14, 15] [] (E0 := [(14, .int .i64 y10.1), (15, .int .i64 y15)]) (A := [(ob0, ⟨5, deepC cellCarton ts_100 y10.2⟩)]) (T := os_100) (H0 := []) (T' := []) rfl (⟨_, _, rfl, rfl, ⟨_, _, rfl, rfl, rfl⟩⟩) rfl (rfl) rfl (List.nil_sublist _) ?_
          refine V.seq ?_
          refine V.seq ?_
          refine V.region ?_
          refine VO.cons rfl (V1.move rfl rfl rfl lt0 ?_)
          refine VO.cons rfl (V1.int rfl rfl rfl rfl rfl lt0 ?_)
          refine VO.nil ?_
          refine V.cond rfl (fun hc7 => ?_) (fun hc7 => ?_)
          ·
           replace hm0 := cond_t hc7 hm0
           refine V.seq ?_
           refine V.region ?_
           refine VO.cons rfl (V1.assign rfl rfl rfl lt0 ?_)
           refine VO.nil ?_
           refine V.ret ?_
           obtain rfl := Option.some.inj hm0
           exact ⟨_, [], ⟨_, _, rfl, rfl, rfl⟩, List.nil_sublist _, rfl, rfl⟩
          ·
           replace hm0 := cond_f hc7 hm0
           refine V.skip ?_
           refine V.seq ?_
           refine V.seq ?_
           refine V.region ?_
           refine VO.cons rfl (V1.move rfl rfl rfl lt0 ?_)
           refine VO.cons rfl (V1.move rfl rfl rfl lt0 ?_)
           refine VO.cons rfl (V1.int rfl rfl rfl rfl rfl lt0 ?_)
           refine VO.nil ?_
           refine V.keep 106 [105] [] (E0 := [(105, .bool (y15 != y10.1))]) (H0 := []) rfl (⟨_, _, rfl, rfl, rfl⟩) (rfl) rfl ?_
           refine V.cond rfl (fun hc8 => ?_) (fun hc8 => ?_)
           ·
            replace hm0 := cond_t hc8 hm0
            refine V.seq ?_
            refine V.region ?_
            refine VO.cons rfl (V1.assign rfl rfl rfl lt0 ?_)
            refine VO.nil ?_
            refine V.ret ?_
            obtain rfl := Option.some.inj hm0
            exact ⟨_, [], ⟨_, _, rfl, rfl, rfl⟩, List.nil_sublist _, rfl, rfl⟩
           ·
            replace hm0 := cond_f hc8 hm0
            refine V.skip ?_
            refine V.seq ?_
            refine V.region ?_
            refine VO.cons rfl (V1.assign rfl rfl rfl lt0 ?_)
            refine VO.nil ?_
            refine V.ret ?_
            obtain rfl := Option.some.inj hm0
            exact ⟨_, [], ⟨_, _, rfl, rfl, rfl⟩, List.nil_sublist _, rfl, rfl⟩
        ·
         refine V.keepT 106 [8, 9, 11, 14, 16, 17] [0, 1] (E0 := [(8, .vl rn 5 (List.map (encCarton rn) y2.1)), (9, .bool y2.2), (11, .sref ob0 5 0 (List.length y10.2)), (14, .int .i64 y10.1), (16, .sref ob1 5 0 (List.length y13.1)), (17, .bool y13.2)]) (A := [(ob1, ⟨5, deepC cellCarton ts_103 y13.1⟩), (ob0, ⟨5, deepC cellCarton ts_100 y10.2⟩)]) (T := (os_103 ++ os_100)) (H0 := [(ob1, ⟨5, deepC cellCarton ts_103 y13.1⟩), (ob0, ⟨5, deepC cellCarton ts_100 y10.2⟩)]) (T' := (os_103 ++ os_100)) rfl (⟨_, _, rfl, rfl, ⟨_, _, rfl, rfl, ⟨_, _, rfl, rfl, ⟨_, _, rfl, rfl, ⟨_, _, rfl, rfl, ⟨_, _, rfl, rfl, rfl⟩⟩⟩⟩⟩⟩) rfl (⟨_, _, rfl, rfl, ⟨_, _, rfl, rfl, rfl⟩⟩) rfl (List.Sublist.refl _) ?_
         refine V.seq ?_
         refine V.seq ?_
         replace hm0 := bindO hm0; rcases hm0 with ⟨y14, hh16, hm0⟩
         refine V.region ?_
         refine VO.cons rfl (V1.move rfl rfl rfl lt0 ?_)
         refine VO.cons rfl (V1.move rfl rfl rfl lt0 ?_)
         refine VO.cons rfl (V1.callL (rn + 1) ([ob1] ++ List.map Prod.fst os_103) [.vl (rn + 1) 5 (List.map (encCarton (rn + 1)) y13.1), .vl rn 5 (List.map (encCarton rn) y2.1)] rfl rfl rfl cok_25 rfl ⟨_, _, rfl, Lend.deep (m := 1) (inn := (fun c_ : Carton => List.map encInt c_.Files)) (cell := cellCarton) cokCarton (ts := ts_103) (os := os_103) (xs := y13.1) 0 hd_103 rfl (fun _ => roL_map (fun _ => rfl) _) rfl (fun p hp => memTail (A := [(ob1, ⟨5, deepC cellCarton ts_103 y13.1⟩), (ob0, ⟨5, deepC cellCarton ts_100 y10.2⟩)]) (T := (os_103 ++ os_100)) (List.mem_append_left _ hp) rfl) (List.mem_append_left _ (.head _)) (fun p hp => List.mem_append_right _ (List.mem_map.2 ⟨p, hp, rfl⟩)), ⟨_, _, rfl, .same _, rfl⟩⟩ (bwTail (A := [(ob1, ⟨5, deepC cellCarton ts_103 y13.1⟩), (ob0, ⟨5, deepC cellCarton ts_100 y10.2⟩)]) (T := (os_103 ++ os_100)) rfl (bwCons (k := 0) rfl bwNil) (fun p hp => (List.mem_append_left _ hp))) (ok_laws_eqCartonS hh16) rfl (⟨(by first | omega | (dsimp only; omega)), by rintro _ _ ⟨rfl, rfl⟩; exact ⟨rfl, by simp⟩⟩) lt0 ?_)
         rintro _ _ ⟨rfl, rfl⟩
         refine VO.cons rfl (V1.not rfl rfl rfl lt0 ?_)
         refine VO.cons rfl (V1.move rfl rfl rfl lt0 ?_)
         apply VO.or (n := 3) rfl rfl rfl rfl rfl rfl lt0 (.none rfl)
         ·
          intro hg3
          refine VO.step (.some rfl rfl rfl) (V1.move rfl rfl rfl lt0 ?_)
          refine VO.step (.some rfl rfl rfl) (V1.move rfl rfl rfl lt0 ?_)
          refine VO.step (.some rfl rfl rfl) (V1.boolNeq rfl rfl und_4 rfl rfl lt0 ?_)
          exact VO.nil ⟨rfl, rfl, rfl, rfl, .inr ⟨rfl, .inr ⟨rfl, .inr ⟨rfl, .inr ⟨rfl, .inl rfl⟩⟩⟩⟩⟩
         refine VO.nil ?_
         refine V.keepT 106 [11, 14, 97] [1] (E0 := [(11, .sref ob0 5 0 (List.length y10.2)), (14, .int .i64 y10.1), (97, .bool ((!y14) || (!(y13.2 == y2.2))))]) (A := [(ob1, ⟨5, deepC cellCarton ts_103 y13.1⟩), (ob0, ⟨5, deepC cellCarton ts_100 y10.2⟩)]) (T := (os_103 ++ os_100)) (H0 := [(ob0, ⟨5, deepC cellCarton ts_100 y10.2⟩)]) (T' := os_100) rfl (⟨_, _, rfl, rfl, ⟨_, _, rfl, rfl, ⟨_, _, rfl, rfl, rfl⟩⟩⟩) rfl (⟨_, _, rfl, rfl, rfl⟩) rfl (List.sublist_append_right _ _) ?_
         refine V.cond rfl (fun hc6 => ?_) (fun hc6 => ?_)
         ·
          replace hm0 := cond_t hc6 hm0
          refine V.seq ?_
          refine V.region ?_
          refine VO.cons rfl (V1.assign rfl rfl rfl lt0 ?_)
          refine VO.nil ?_
          refine V.ret ?_
          obtain rfl := Option.some.inj hm0
          exact ⟨_, [], ⟨_, _, rfl, rfl, rfl⟩, List.nil_sublist _, rfl, rfl⟩
         ·
          replace hm0 := cond_f hc6 hm0
          refine V.skip ?_
          refine V.seq ?_
          refine V.region ?_
          refine VO.cons rfl (V1.assign rfl rfl rfl lt0 ?_)
          refine VO.nil ?_
          refine V.seq ?_
          replace hm0 := bindO hm0; rcases hm0 with ⟨y15, hh17, hm0⟩
          refine V.region ?_
          refine VO.cons rfl (V1.move rfl rfl rfl lt0 ?_)
          refine VO.cons rfl (V1.move rfl rfl rfl lt0 ?_)
          refine VO.cons rfl (V1.callL (rn + 1) ([ob0] ++ List.map Prod.fst os_100) [.vl (rn + 1) 5 (List.map (encCarton (rn + 1)) y10.2), .int .i64 (1 : Int)] rfl rfl rfl cok_33 rfl ⟨_, _, rfl, Lend.deep (m := 1) (inn := (fun c_ : Carton => List.map encInt c_.Files)) (cell := cellCarton) cokCarton (ts := ts_100) (os := os_100) (xs := y10.2) 0 hd_100 rfl (fun _ => roL_map (fun _ => rfl) _) rfl (fun p hp => memTail (A := [(ob0, ⟨5, deepC cellCarton ts_100 y10.2⟩)]) (T := os_100) hp rfl) (List.mem_append_left _ (.head _)) (fun p hp => List.mem_append_right _ (List.mem_map.2 ⟨p, hp, rfl⟩)), ⟨_, _, rfl, .same _, rfl⟩⟩ (bwTail (A := [(ob0, ⟨5, deepC cellCarton ts_100 y10.2⟩)]) (T := os_100) rfl (bwCons (k := 0) rfl bwNil) (fun p hp => hp)) (ok_laws_heldCartonS hh17) rfl (⟨(by first | omega | (dsimp only; omega)), by rintro _ _ ⟨rfl, rfl⟩; exact ⟨rfl, by simp⟩⟩) lt0 ?_)
          rintro _ _ ⟨rfl, rfl⟩
          refine VO.cons rfl (V1.assign rfl rfl rfl lt0 ?_)
          refine VO.nil ?_
          refine V.keepT 106 [14, 15] [] (E0 := [(14, .int .i64 y10.1), (15, .int .i64 y15)]) (A := [(ob0, ⟨5, deepC cellCarton ts_100 y10.2⟩)]) (T := os_100) (H0 := []) (T' := []) rfl (⟨_, _, rfl, rfl, ⟨_, _, rfl, rfl, rfl⟩⟩) rfl (rfl) rfl (List.nil_sublist _) ?_
          refine V.seq ?_
          refine V.seq ?_
          refine V.region ?_
          refine VO.cons rfl (V1.move rfl rfl rfl lt0 ?_)
          refine VO.cons rfl (V1.int rfl rfl rfl rfl rfl lt0 ?_)
          refine VO.nil ?_
          refine V.cond rfl (fun hc7 => ?_) (fun hc7 => ?_)
          ·
           replace hm0 := cond_t hc7 hm0
           refine V.seq ?_
           refine V.region ?_
           refine VO.cons rfl (V1.assign rfl rfl rfl lt0 ?_)
           refine VO.nil ?_
           refine V.ret ?_
           obtain rfl := Option.some.inj hm0
           exact ⟨_, [], ⟨_, _, rfl, rfl, rfl⟩, List.nil_sublist _, rfl, rfl⟩
          ·
           replace hm0 := cond_f hc7 hm0
           refine V.skip ?_
           refine V.seq ?_
           refine V.seq ?_
           refine V.region ?_
           refine VO.cons rfl (V1.move rfl rfl rfl lt0 ?_)
           refine VO.cons rfl (V1.move rfl rfl rfl lt0 ?_)
           refine VO.cons rfl (V1.int rfl rfl rfl rfl rfl lt0 ?_)
           refine VO.nil ?_
           refine V.keep 106 [105] [] (E0 := [(105, .bool (y15 != y10.1))]) (H0 := []) rfl (⟨_, _, rfl, rfl, rfl⟩) (rfl) rfl ?_
           refine V.cond rfl (fun hc8 => ?_) (fun hc8 => ?_)
           ·
            replace hm0 := cond_t hc8 hm0
            refine V.seq ?_
            refine V.region ?_
            refine VO.cons rfl (V1.assign rfl rfl rfl lt0 ?_)
            refine VO.nil ?_
            refine V.ret ?_
            obtain rfl := Option.some.inj hm0
            exact ⟨_, [], ⟨_, _, rfl, rfl, rfl⟩, List.nil_sublist _, rfl, rfl⟩
           ·
            replace hm0 := cond_f hc8 hm0
            refine V.skip ?_
            refine V.seq ?_
            refine V.region ?_
            refine VO.cons rfl (V1.assign rfl rfl rfl lt0 ?_)
            refine VO.nil ?_
            refine V.ret ?_
            obtain rfl := Option.some.inj hm0
            exact ⟨_, [], ⟨_, _, rfl, rfl, rfl⟩, List.nil_sublist _, rfl, rfl⟩
end Go.Proofs.Ytfebeomnlkfgoaa
