/- the functions do what their models say -/
import Derived.Test.YtfebeomnlkfgoaaQc2
set_option linter.unusedSimpArgs false
set_option linter.unusedVariables false
set_option maxRecDepth 100000
set_option maxHeartbeats 4000000
namespace Go.Proofs.Ytfebeomnlkfgoaa
open Go.VS

theorem ok_laws_FnExactPullList {ρ0 σ0 ρ1 rn : Nat} {aList : List Carton} {aFiles : List Int} {r : Bool} (h : M.laws_FnExactPullList aList aFiles = some r) : Does Try.prog 7 [.vl ρ0 5 (List.map (encCarton σ0) aList), .vl ρ1 1 (List.map encInt aFiles)] [] rn (fun x H => x = .bool r ∧ H = []) := by
 have hm0 := h; clear h; unfold M.laws_FnExactPullList at hm0
 try dsimp only at hm0
 refine Does.intro (N := 117) Try.func7 rfl rfl rfl rfl ?_
 intro w0 S0
 refine V.seq ?_
 refine V.region ?_
 refine VO.cons rfl (V1.assign rfl rfl rfl lt0 ?_)
 refine VO.nil ?_
 refine V.seq ?_
 refine V.seq ?_
 refine V.region ?_
 refine VO.cons rfl (V1.move rfl rfl rfl lt0 ?_)
 refine VO.cons rfl (V1.lenMap rfl rfl rfl rfl rfl rfl isl_36 lt0 ?_)
 refine VO.cons rfl (V1.int rfl rfl rfl rfl rfl lt0 ?_)
 refine VO.nil ?_
 refine V.cond rfl (fun hc0 => ?_) (fun hc0 => ?_)
 ·
  replace hm0 := cond_t hc0 hm0
  refine V.seq ?_
  refine V.region ?_
  refine VO.cons rfl (V1.assign rfl rfl rfl lt0 ?_)
  refine VO.nil ?_
  refine V.ret ?_
  obtain rfl := Option.some.inj hm0
  exact ⟨_, [], ⟨_, _, rfl, rfl, rfl⟩, List.nil_sublist _, rfl, rfl⟩
 ·
  replace hm0 := cond_f hc0 hm0
  refine V.skip ?_
  refine V.keep 117 [0, 1] [] (E0 := [(0, .vl ρ0 5 (List.map (encCarton σ0) aList)), (1, .vl ρ1 1 (List.map encInt aFiles))]) (H0 := []) rfl (⟨_, _, rfl, rfl, ⟨_, _, rfl, rfl, rfl⟩⟩) (rfl) rfl ?_
  refine V.seq ?_
  refine V.region ?_
  refine VO.cons rfl (V1.assign rfl rfl rfl lt0 ?_)
  refine VO.nil ?_
  refine V.seq ?_
  replace hm0 := bindO hm0; rcases hm0 with ⟨y0, hh0, hm0⟩
  refine V.region ?_
  refine VO.cons rfl (V1.move rfl rfl rfl lt0 ?_)
  refine VO.cons rfl (V1.move rfl rfl rfl lt0 ?_)
  refine VO.cons rfl (V1.call rfl rfl rfl cok_20 rfl (ok_laws_szCartonS hh0) rfl lt0 ?_)
  rintro _ _ ⟨rfl, rfl⟩
  refine VO.cons rfl (V1.assign rfl rfl rfl lt0 ?_)
  refine VO.nil ?_
  refine V.seq ?_
  refine V.seq ?_
  refine V.region ?_
  refine VO.cons rfl (V1.move rfl rfl rfl lt0 ?_)
  refine VO.cons rfl (V1.int rfl rfl rfl rfl rfl lt0 ?_)
  refine VO.nil ?_
  refine V.keep 117 [0, 1, 24] [] (E0 := [(0, .vl ρ0 5 (List.map (encCarton σ0) aList)), (1, .vl ρ1 1 (List.map encInt aFiles)), (24, .bool (decide (y0 < (0 : Int))))]) (H0 := []) rfl (⟨_, _, rfl, rfl, ⟨_, _, rfl, rfl, ⟨_, _, rfl, rfl, rfl⟩⟩⟩) (rfl) rfl ?_
  refine V.cond rfl (fun hc1 => ?_) (fun hc1 => ?_)
  ·
   replace hm0 := cond_t hc1 hm0
   refine V.seq ?_
   refine V.region ?_
   refine VO.cons rfl (V1.assign rfl rfl rfl lt0 ?_)
   refine VO.nil ?_
   refine V.ret ?_
   obtain rfl := Option.some.inj hm0
   exact ⟨_, [], ⟨_, _, rfl, rfl, rfl⟩, List.nil_sublist _, rfl, rfl⟩
  ·
   replace hm0 := cond_f hc1 hm0
   refine V.skip ?_
   refine V.seq ?_
   replace hm0 := bindO hm0; rcases hm0 with ⟨y1, hh1, hm0⟩
   replace hm0 := bindO hm0; rcases hm0 with ⟨y2, hh2, hm0⟩
   replace hm0 := bindO hm0; rcases hm0 with ⟨y3, hh3, hm0⟩
   refine V.region ?_
   refine VO.cons rfl (V1.move rfl rfl rfl lt0 ?_)
   refine VO.cons rfl (V1.call rfl rfl rfl cok_22 rfl (ok_laws_toCartonS hh1) rfl lt0 ?_)
   rintro _ _ ⟨b0, rfl, rfl⟩
   refine VO.weakenK (Keeps.freezeG 0 rn [(27, .vl rn 5 (List.map (encCarton rn) y1))] ([]) (f := (encCarton rn)) (l := y1) rfl (fun _ => rfl) ⟨⟨_, rfl, .here⟩, trivial⟩ rfl rfl iNil) ?_
   refine VO.cons rfl (V1.move rfl rfl rfl lt0 ?_)
   refine VO.cons rfl (V1.call rfl rfl rfl cok_35 rfl (ok_laws_toIntS hh2) rfl lt0 ?_)
   rintro _ _ ⟨b1, rfl, rfl⟩
   refine VO.weakenK (Keeps.freezeG 0 rn [(29, .vl rn 1 (List.map encInt y2))] ([]) (f := encInt) (l := y2) rfl (fun _ => rfl) ⟨⟨_, rfl, .here⟩, trivial⟩ rfl rfl iNil) ?_
   refine VO.cons rfl (V1.call rfl rfl rfl cok_34 rfl (ok_spec_PullList hh3) rfl lt0 ?_)
   rintro _ _ ⟨b2, rfl, rfl⟩
   refine VO.cons rfl (V1.move rfl rfl rfl lt0 ?_)
   refine VO.cons rfl (V1.extract rfl rfl rfl rfl lt0 ?_)
   refine VO.weakenK (Keeps.freezeG 0 rn [(31, .vl rn 1 (List.map encInt y3.1))] ([]) (f := encInt) (l := y3.1) rfl (fun _ => rfl) ⟨⟨_, rfl, .here⟩, trivial⟩ rfl rfl iNil) ?_
   refine VO.cons rfl (V1.extract rfl rfl rfl rfl lt0 ?_)
   refine VO.cons rfl (V1.assign rfl rfl rfl lt0 ?_)
   refine VO.cons rfl (V1.assign rfl rfl rfl lt0 ?_)
   refine VO.nil ?_
   refine V.keep 117 [0, 1, 6, 7] [] (E0 := [(0, .vl ρ0 5 (List.map (encCarton σ0) aList)), (1, .vl ρ1 1 (List.map encInt aFiles)), (6, .vl rn 1 (List.map encInt y3.1)), (7, .bool y3.2)]) (H0 := []) rfl (⟨_, _, rfl, rfl, ⟨_, _, rfl, rfl, ⟨_, _, rfl, rfl, ⟨_, _, rfl, rfl, rfl⟩⟩⟩⟩) (rfl) rfl ?_
   refine V.seq ?_
   replace hm0 := bindO hm0; rcases hm0 with ⟨y4, hh4, hm0⟩
   refine V.region ?_
   refine VO.cons rfl (V1.move rfl rfl rfl lt0 ?_)
   refine VO.cons rfl (V1.permK (V1.call rfl rfl rfl cok_22 rfl (okd_laws_toCartonS hh4) rfl lt0 ?_))
   rintro _ _ ⟨b3, ts_78, os_78, hd_78, rfl, rfl⟩
   refine ⟨_, ?_, Keeps.perm (([(b3, ⟨5, deepC cellCarton ts_78 y4⟩)] : List (Nat × Obj')) ++ os_78) (permDeep1 (p := (b3, ⟨5, deepC cellCarton ts_78 y4⟩)) (os := os_78) (A := []))⟩
   refine VO.cons rfl (V1.assign rfl rfl rfl lt0 ?_)
   refine VO.nil ?_
   refine V.seq ?_
   replace hm0 := bindO hm0; rcases hm0 with ⟨y5, hh5, hm0⟩
   refine V.region ?_
   refine VO.cons rfl (V1.move rfl rfl rfl lt0 ?_)
   refine VO.cons rfl (V1.call rfl rfl rfl cok_35 rfl (ok_laws_toIntS hh5) rfl lt0 ?_)
   rintro _ _ ⟨b4, rfl, rfl⟩
   refine VO.cons rfl (V1.assign rfl rfl rfl lt0 ?_)
   refine VO.nil ?_
   refine V.keepT 117 [0, 1, 6, 7, 8, 9] [0, 1] (E0 := [(0, .vl ρ0 5 (List.map (encCarton σ0) aList)), (1, .vl ρ1 1 (List.map encInt aFiles)), (6, .vl rn 1 (List.map encInt y3.1)), (7, .bool y3.2), (8, .sref b3 5 0 (List.length y4)), (9, .sref b4 1 0 (List.length y5))]) (A := [(b4, ⟨1, List.map encInt y5⟩), (b3, ⟨5, deepC cellCarton ts_78 y4⟩)]) (T := os_78) (H0 := [(b4, ⟨1, List.map encInt y5⟩), (b3, ⟨5, deepC cellCarton ts_78 y4⟩)]) (T' := os_78) rfl (⟨_, _, rfl, rfl, ⟨_, _, rfl, rfl, ⟨_, _, rfl, rfl, ⟨_, _, rfl, rfl, ⟨_, _, rfl, rfl, ⟨_, _, rfl, rfl, rfl⟩⟩⟩⟩⟩⟩) rfl (⟨_, _, rfl, rfl, ⟨_, _, rfl, rfl, rfl⟩⟩) rfl (List.Sublist.refl _) ?_
   refine V.seq ?_
   replace hm0 := bindO hm0; rcases hm0 with ⟨y6, hh6, hm0⟩
   refine V.region ?_
   refine VO.cons rfl (V1.move rfl rfl rfl lt0 ?_)
   refine VO.cons rfl (V1.move rfl rfl rfl lt0 ?_)
   refine VO.cons rfl (V1.permK (V1.callL (rn + 1) ([b4, b3] ++ List.map Prod.fst os_78) [.vl (rn + 1) 5 (List.map (encCarton (rn + 1)) y4), .vl (rn + 1) 1 (List.map encInt y5)] rfl rfl rfl cok_36 rfl ⟨_, _, rfl, Lend.deep (m := 1) (inn := (fun c_ : Carton => List.map encInt c_.Files)) (cell := cellCarton) cokCarton (ts := ts_78) (os := os_78) (xs := y4) 1 hd_78 rfl (fun _ => roL_map (fun _ => rfl) _) rfl (fun p hp => memTail (A := [(b4, ⟨1, List.map encInt y5⟩), (b3, ⟨5, deepC cellCarton ts_78 y4⟩)]) (T := os_78) hp rfl) (List.mem_append_left _ (.tail _ (.head _))) (fun p hp => List.mem_append_right _ (List.mem_map.2 ⟨p, hp, rfl⟩)), ⟨_, _, rfl, Lend.srMap 0 rfl (fun _ => rfl) (List.mem_append_left _ (.head _)), rfl⟩⟩ (bwTail (A := [(b4, ⟨1, List.map encInt y5⟩), (b3, ⟨5, deepC cellCarton ts_78 y4⟩)]) (T := os_78) rfl (bwCons (k := 0) rfl (bwCons (k := 1) rfl bwNil)) (fun p hp => hp)) (ok_impl_PullList hh6) rfl (⟨(by first | omega | (dsimp only; omega)), by rintro _ _ ⟨ob0, hob0, rfl, rfl⟩; exact ⟨by simp [PV.no, PV.noL, optS_no, noL_iff, nbeq] <;> omega, by intro b ob h; first | exact optH_no (noL_map (fun _ => by simp [PV.no, PV.noL, noL_iff, nbeq]) _) b ob h | (simp only [List.append_assoc, List.mem_append, List.mem_cons, List.mem_singleton, List.not_mem_nil, or_false, Prod.mk.injEq] at h; rcases h with ⟨rfl, rfl⟩ | ⟨rfl, rfl⟩ <;> first | exact noL_map (fun _ => by simp [PV.no, PV.noL, noL_iff, nbeq]) _ | (simp [PV.no, PV.noL, optS_no, noL_iff, nbeq] <;> omega)) | (simp at h; obtain ⟨rfl, rfl⟩ := h; exact noL_map (fun _ => by simp [PV.no, PV.noL, noL_iff, nbeq]) _) | (simp at h; obtain ⟨rfl, rfl⟩ := h; simp [PV.no, PV.noL, optS_no, noL_iff, nbeq] <;> omega)⟩⟩) lt0 ?_))
   rintro _ _ ⟨ob0, hob0, rfl, rfl⟩
   refine ⟨_, ?_, Keeps.optBack (n := 1) (ob := ob0) (xs := List.map encInt y6.1) (H1 := []) (H2 := (([(b4, ⟨1, List.map encInt y5⟩), (b3, ⟨5, deepC cellCarton ts_78 y4⟩)] : List (Nat × Obj')) ++ os_78)) rfl⟩
   refine VO.cons rfl (V1.move rfl rfl rfl lt0 ?_)
   refine VO.cons rfl (V1.extract rfl rfl rfl rfl lt0 ?_)
   refine VO.cons rfl (V1.extract rfl rfl rfl rfl lt0 ?_)
   refine VO.cons rfl (V1.assign rfl rfl rfl lt0 ?_)
   refine VO.cons rfl (V1.assign rfl rfl rfl lt0 ?_)
   refine VO.nil ?_
   refine V.weakenK (Keeps.optFront (n := 1) (ob := ob0) (xs := (List.map encInt y6.1)) (H1 := (([(b4, ⟨1, List.map encInt y5⟩), (b3, ⟨5, deepC cellCarton ts_78 y4⟩)] : List (Nat × Obj')) ++ os_78)) rfl) ?_
   rcases ob0 with _ | ob0
   ·
    refine V.seq ?_
    refine V.seq ?_
    replace hm0 := bindO hm0; rcases hm0 with ⟨y7, hh7, hm0⟩
    refine V.region ?_
    refine VO.cons rfl (V1.move rfl rfl rfl lt0 ?_)
    refine VO.cons rfl (V1.move rfl rfl rfl lt0 ?_)
    refine VO.weakenK (Keeps.nilsE (l := y6.1) 43 rn 1 encInt (hob0 rfl) rfl rfl) ?_
    refine VO.cons rfl (V1.call rfl rfl rfl cok_24 rfl (ok_laws_eqIntS hh7) rfl lt0 ?_)
    rintro _ _ ⟨rfl, rfl⟩
    refine VO.cons rfl (V1.not rfl rfl rfl lt0 ?_)
    refine VO.cons rfl (V1.move rfl rfl rfl lt0 ?_)
    apply VO.or (n := 3) rfl rfl rfl rfl rfl rfl lt0 (.none rfl)
    ·
     intro hg0
     refine VO.step (.some rfl rfl rfl) (V1.move rfl rfl rfl lt0 ?_)
     refine VO.step (.some rfl rfl rfl) (V1.move rfl rfl rfl lt0 ?_)
     refine VO.step (.some rfl rfl rfl) (V1.boolNeq rfl rfl und_4 rfl rfl lt0 ?_)
     exact VO.nil ⟨rfl, rfl, rfl, rfl, .inr ⟨rfl, .inr ⟨rfl, .inr ⟨rfl, .inr ⟨rfl, .inl rfl⟩⟩⟩⟩⟩
    refine VO.nil ?_
    refine V.keepT 117 [0, 1, 6, 7, 8, 9, 10, 11, 51] [0, 1] (E0 := [(0, .vl ρ0 5 (List.map (encCarton σ0) aList)), (1, .vl ρ1 1 (List.map encInt aFiles)), (6, .vl rn 1 (List.map encInt y3.1)), (7, .bool y3.2), (8, .sref b3 5 0 (List.length y4)), (9, .sref b4 1 0 (List.length y5)), (10, .nils), (11, .bool y6.2), (51, .bool ((!y7) || (!(y6.2 == y3.2))))]) (A := [(b4, ⟨1, List.map encInt y5⟩), (b3, ⟨5, deepC cellCarton ts_78 y4⟩)]) (T := os_78) (H0 := [(b4, ⟨1, List.map encInt y5⟩), (b3, ⟨5, deepC cellCarton ts_78 y4⟩)]) (T' := os_78) rfl (⟨_, _, rfl, rfl, ⟨_, _, rfl, rfl, ⟨_, _, rfl, rfl, ⟨_, _, rfl, rfl, ⟨_, _, rfl, rfl, ⟨_, _, rfl, rfl, ⟨_, _, rfl, rfl, ⟨_, _, rfl, rfl, ⟨_, _, rfl, rfl, rfl⟩⟩⟩⟩⟩⟩⟩⟩⟩) rfl (⟨_, _, rfl, rfl, ⟨_, _, rfl, rfl, rfl⟩⟩) rfl (List.Sublist.refl _) ?_
    refine V.cond rfl (fun hc2 => ?_) (fun hc2 => ?_)
    ·
     replace hm0 := cond_t hc2 hm0
     refine V.seq ?_
     refine V.region ?_
     refine VO.cons rfl (V1.assign rfl rfl rfl lt0 ?_)
     refine VO.nil ?_
     refine V.ret ?_
     obtain rfl := Option.some.inj hm0
     exact ⟨_, [], ⟨_, _, rfl, rfl, rfl⟩, List.nil_sublist _, rfl, rfl⟩
    ·
     replace hm0 := cond_f hc2 hm0
     refine V.skip ?_
     refine V.seq ?_
     refine V.seq ?_
     replace hm0 := bindO hm0; rcases hm0 with ⟨y8, hh8, hm0⟩
     replace hm0 := bindO hm0; rcases hm0 with ⟨y9, hh9, hm0⟩
     refine V.region ?_
     refine VO.cons rfl (V1.move rfl rfl rfl lt0 ?_)
     refine VO.cons rfl (V1.move rfl rfl rfl lt0 ?_)
     refine VO.cons rfl (V1.call rfl rfl rfl cok_22 rfl (ok_laws_toCartonS hh8) rfl lt0 ?_)
     rintro _ _ ⟨b5, rfl, rfl⟩
     refine VO.weakenK (Keeps.freezeG 0 rn [(54, .vl rn 5 (List.map (encCarton rn) y8))] ((b4, ⟨1, List.map encInt y5⟩) :: (b3, ⟨5, deepC cellCarton ts_78 y4⟩) :: os_78) (f := (encCarton rn)) (l := y8) rfl (fun _ => rfl) ⟨⟨_, rfl, .here⟩, trivial⟩ ⟨_, _, rfl, rfl, .inl rfl, ⟨_, _, rfl, rfl, .inl rfl, FrzH.same⟩⟩ rfl iNil) ?_
     refine VO.cons rfl (V1.callL (rn + 1) ([b3] ++ List.map Prod.fst os_78) [.vl (rn + 1) 5 (List.map (encCarton (rn + 1)) y4), .vl rn 5 (List.map (encCarton rn) y8)] rfl rfl rfl cok_25 rfl ⟨_, _, rfl, Lend.deep (m := 1) (inn := (fun c_ : Carton => List.map encInt c_.Files)) (cell := cellCarton) cokCarton (ts := ts_78) (os := os_78) (xs := y4) 1 hd_78 rfl (fun _ => roL_map (fun _ => rfl) _) rfl (fun p hp => memTail (A := [(b4, ⟨1, List.map encInt y5⟩), (b3, ⟨5, deepC cellCarton ts_78 y4⟩)]) (T := os_78) hp rfl) (List.mem_append_left _ (.head _)) (fun p hp => List.mem_append_right _ (List.mem_map.2 ⟨p, hp, rfl⟩)), ⟨_, _, rfl, .same _, rfl⟩⟩ (bwTail (A := [(b4, ⟨1, List.map encInt y5⟩), (b3, ⟨5, deepC cellCarton ts_78 y4⟩)]) (T := os_78) rfl (bwCons (k := 1) rfl bwNil) (fun p hp => hp)) (ok_laws_eqCartonS hh9) rfl (⟨(by first | omega | (dsimp only; omega)), by rintro _ _ ⟨rfl, rfl⟩; exact ⟨rfl, by simp⟩⟩) lt0 ?_)
     rintro _ _ ⟨rfl, rfl⟩
     refine VO.cons rfl (V1.not rfl rfl rfl lt0 ?_)
     refine VO.nil ?_
     refine V.keepT 117 [0, 1, 6, 7, 8, 9, 10, 11, 56] [0, 1] (E0 := [(0, .vl ρ0 5 (List.map (encCarton σ0) aList)), (1, .vl ρ1 1 (List.map encInt aFiles)), (6, .vl rn 1 (List.map encInt y3.1)), (7, .bool y3.2), (8, .sref b3 5 0 (List.length y4)), (9, .sref b4 1 0 (List.length y5)), (10, .nils), (11, .bool y6.2), (56, .bool (!y9))]) (A := [(b4, ⟨1, List.map encInt y5⟩), (b3, ⟨5, deepC cellCarton ts_78 y4⟩)]) (T := os_78) (H0 := [(b4, ⟨1, List.map encInt y5⟩), (b3, ⟨5, deepC cellCarton ts_78 y4⟩)]) (T' := os_78) rfl (⟨_, _, rfl, rfl, ⟨_, _, rfl, rfl, ⟨_, _, rfl, rfl, ⟨_, _, rfl, rfl, ⟨_, _, rfl, rfl, ⟨_, _, rfl, rfl, ⟨_, _, rfl, rfl, ⟨_, _, rfl, rfl, ⟨_, _, rfl, rfl, rfl⟩⟩⟩⟩⟩⟩⟩⟩⟩) rfl (⟨_, _, rfl, rfl, ⟨_, _, rfl, rfl, rfl⟩⟩) rfl (List.Sublist.refl _) ?_
     refine V.cond rfl (fun hc3 => ?_) (fun hc3 => ?_)
     ·
      replace hm0 := cond_t hc3 hm0
      refine V.seq ?_
      refine V.region ?_
      refine VO.cons rfl (V1.assign rfl rfl rfl lt0 ?_)
      refine VO.nil ?_
      refine V.ret ?_
      obtain rfl := Option.some.inj hm0
      exact ⟨_, [], ⟨_, _, rfl, rfl, rfl⟩, List.nil_sublist _, rfl, rfl⟩
     ·
      replace hm0 := cond_f hc3 hm0
      refine V.skip ?_
      refine V.seq ?_
      refine V.seq ?_
      replace hm0 := bindO hm0; rcases hm0 with ⟨y10, hh10, hm0⟩
      replace hm0 := bindO hm0; rcases hm0 with ⟨y11, hh11, hm0⟩
      refine V.region ?_
      refine VO.cons rfl (V1.move rfl rfl rfl lt0 ?_)
      refine VO.cons rfl (V1.move rfl rfl rfl lt0 ?_)
      refine VO.cons rfl (V1.call rfl rfl rfl cok_35 rfl (ok_laws_toIntS hh10) rfl lt0 ?_)
      rintro _ _ ⟨b6, rfl, rfl⟩
      refine VO.weakenK (Keeps.freezeG 0 rn [(59, .vl rn 1 (List.map encInt y10))] ((b4, ⟨1, List.map encInt y5⟩) :: (b3, ⟨5, deepC cellCarton ts_78 y4⟩) :: os_78) (f := encInt) (l := y10) rfl (fun _ => rfl) ⟨⟨_, rfl, .here⟩, trivial⟩ ⟨_, _, rfl, rfl, .inl rfl, ⟨_, _, rfl, rfl, .inl rfl, FrzH.same⟩⟩ rfl iNil) ?_
      refine VO.cons rfl (V1.callL (rn + 1) [b4] [.vl (rn + 1) 1 (List.map encInt y5), .vl rn 1 (List.map encInt y10)] rfl rfl rfl cok_24 rfl ⟨_, _, rfl, Lend.srMap 0 rfl (fun _ => rfl) (.head _), ⟨_, _, rfl, .same _, rfl⟩⟩ (bwCons (k := 0) rfl bwNil) (ok_laws_eqIntS hh11) rfl (⟨(by first | omega | (dsimp only; omega)), by rintro _ _ ⟨rfl, rfl⟩; exact ⟨rfl, by simp⟩⟩) lt0 ?_)
      rintro _ _ ⟨rfl, rfl⟩
      refine VO.cons rfl (V1.not rfl rfl rfl lt0 ?_)
      refine VO.nil ?_
      refine V.keepT 117 [0, 1, 6, 7, 8, 9, 10, 11, 61] [0, 1] (E0 := [(0, .vl ρ0 5 (List.map (encCarton σ0) aList)), (1, .vl ρ1 1 (List.map encInt aFiles)), (6, .vl rn 1 (List.map encInt y3.1)), (7, .bool y3.2), (8, .sref b3 5 0 (List.length y4)), (9, .sref b4 1 0 (List.length y5)), (10, .nils), (11, .bool y6.2), (61, .bool (!y11))]) (A := [(b4, ⟨1, List.map encInt y5⟩), (b3, ⟨5, deepC cellCarton ts_78 y4⟩)]) (T := os_78) (H0 := [(b4, ⟨1, List.map encInt y5⟩), (b3, ⟨5, deepC cellCarton ts_78 y4⟩)]) (T' := os_78) rfl (⟨_, _, rfl, rfl, ⟨_, _, rfl, rfl, ⟨_, _, rfl, rfl, ⟨_, _, rfl, rfl, ⟨_, _, rfl, rfl, ⟨_, _, rfl, rfl, ⟨_, _, rfl, rfl, ⟨_, _, rfl, rfl, ⟨_, _, rfl, rfl, rfl⟩⟩⟩⟩⟩⟩⟩⟩⟩) rfl (⟨_, _, rfl, rfl, ⟨_, _, rfl, rfl, rfl⟩⟩) rfl (List.Sublist.refl _) ?_
      refine V.cond rfl (fun hc4 => ?_) (fun hc4 => ?_)
      ·
       replace hm0 := cond_t hc4 hm0
       refine V.seq ?_
       refine V.region ?_
       refine VO.cons rfl (V1.assign rfl rfl rfl lt0 ?_)
       refine VO.nil ?_
       refine V.ret ?_
       obtain rfl := Option.some.inj hm0
       exact ⟨_, [], ⟨_, _, rfl, rfl, rfl⟩, List.nil_sublist _, rfl, rfl⟩
      ·
       replace hm0 := cond_f hc4 hm0
       refine V.skip ?_
       refine V.seq ?_
       refine V.region ?_
       refine VO.cons rfl (V1.assign rfl rfl rfl lt0 ?_)
       refine VO.nil ?_
       refine V.seq ?_
       replace hm0 := bindO hm0; rcases hm0 with ⟨y12, hh12, hm0⟩
       replace hm0 := asrt_some hm0; rcases hm0 with ⟨hh13, hm0⟩
       refine V.region ?_
       refine VO.cons rfl (V1.move rfl rfl rfl lt0 ?_)
       refine VO.cons rfl (V1.move rfl rfl rfl lt0 ?_)
       refine VO.cons rfl (V1.permK (V1.callDT 1 (A := [(b4, ⟨1, List.map encInt y5⟩), (b3, ⟨5, deepC cellCarton ts_78 y4⟩)]) (A' := [(b4, ⟨1, List.map encInt y5⟩)]) (T0 := os_78) (os := os_78) (T := []) (p := (b3, ⟨5, deepC cellCarton ts_78 y4⟩)) rfl rfl rfl cok_26 rfl rfl (.of_eq (List.append_nil _).symm) rfl rfl (rn + 1) [] [.sref b3 5 0 (List.length y4), .int .i64 (1 : Int)] ⟨_, _, rfl, .same _, ⟨_, _, rfl, .same _, rfl⟩⟩ bwNil (ok_laws_markCartonS hh12 (oq := some b3) (tq := ts_78) (oz := os_78) (fun e => by cases e) hd_78) rfl (.inl rfl) lt0 ?_))
       rintro _ _ ⟨ts_101, os_101, hd_101, rfl, rfl⟩
       refine ⟨_, ?_, Keeps.perm (([(b3, ⟨5, deepC cellCarton ts_101 y12.2⟩), (b4, ⟨1, List.map encInt y5⟩)] : List (Nat × Obj')) ++ os_101) (permDeep0 (p := (b3, ⟨5, deepC cellCarton ts_101 y12.2⟩)) (os := os_101) (A := [(b4, ⟨1, List.map encInt y5⟩)]))⟩
       refine VO.cons rfl (V1.assign rfl rfl rfl lt0 ?_)
       refine VO.nil ?_
       refine V.seq ?_
       replace hm0 := bindO hm0; rcases hm0 with ⟨y13, hh14, hm0⟩
       replace hm0 := asrt_some hm0; rcases hm0 with ⟨hh15, hm0⟩
       refine V.region ?_
       refine VO.cons rfl (V1.move rfl rfl rfl lt0 ?_)
       refine VO.cons rfl (V1.move rfl rfl rfl lt0 ?_)
       refine VO.cons rfl (V1.callM 1 (rn + 1) [] [.sref b4 1 0 (List.length y5), .int .i64 y12.1] (p := (b4, ⟨1, List.map encInt y5⟩)) rfl rfl rfl cok_27 rfl rfl ⟨_, _, rfl, .same _, ⟨_, _, rfl, .same _, rfl⟩⟩ bwNil (ok_laws_markIntS hh14 (oq := some b4) (fun e => by cases e)) rfl (.inl rfl) lt0 ?_)
       rintro _ _ ⟨rfl, rfl⟩
       refine VO.cons rfl (V1.assign rfl rfl rfl lt0 ?_)
       refine VO.nil ?_
       refine V.keepT 117 [0, 1, 6, 7, 10, 11, 12] [] (E0 := [(0, .vl ρ0 5 (List.map (encCarton σ0) aList)), (1, .vl ρ1 1 (List.map encInt aFiles)), (6, .vl rn 1 (List.map encInt y3.1)), (7, .bool y3.2), (10, .nils), (11, .bool y6.2), (12, .int .i64 y13.1)]) (A := [(b4, ⟨1, List.map encInt y13.2⟩), (b3, ⟨5, deepC cellCarton ts_101 y12.2⟩)]) (T := os_101) (H0 := []) (T' := []) rfl (⟨_, _, rfl, rfl, ⟨_, _, rfl, rfl, ⟨_, _, rfl, rfl, ⟨_, _, rfl, rfl, ⟨_, _, rfl, rfl, ⟨_, _, rfl, rfl, ⟨_, _, rfl, rfl, rfl⟩⟩⟩⟩⟩⟩⟩) rfl (rfl) rfl (List.nil_sublist _) ?_
       refine V.seq ?_
       refine V.seq ?_
       replace hm0 := bindO hm0; rcases hm0 with ⟨y14, hh16, hm0⟩
       refine V.region ?_
       refine VO.cons rfl (V1.move rfl rfl rfl lt0 ?_)
       refine VO.cons rfl (V1.int rfl rfl rfl rfl rfl lt0 ?_)
       refine VO.cons rfl (V1.move rfl rfl rfl lt0 ?_)
       apply VO.or (n := 4) rfl rfl rfl rfl rfl rfl lt0 (.none rfl)
       ·
        intro hg1
        refine VO.step (.some rfl rfl rfl) (V1.move rfl rfl rfl lt0 ?_)
        refine VO.step (.some rfl rfl rfl) (V1.move rfl rfl rfl lt0 ?_)
        refine VO.weakenK (Keeps.nilsE (l := y6.1) 71 rn 1 encInt (hob0 rfl) rfl rfl) ?_
        refine VO.step (.some rfl rfl rfl) (V1.call rfl rfl rfl cok_24 rfl (ok_laws_eqIntS (cond_f hg1 hh16)) rfl lt0 ?_)
        rintro _ _ ⟨rfl, rfl⟩
        refine VO.step (.some rfl rfl rfl) (V1.not rfl rfl rfl lt0 ?_)
        exact VO.nil ⟨rfl, rfl, rfl, rfl, .inr ⟨rfl, .inr ⟨rfl, .inr ⟨rfl, .inr ⟨rfl, .inr ⟨rfl, .inr ⟨rfl, .inl rfl⟩⟩⟩⟩⟩⟩⟩
       refine VO.cons rfl (V1.move rfl rfl rfl lt0 ?_)
       apply VO.or (n := 3) rfl rfl rfl rfl rfl rfl lt0 (.none rfl)
       ·
        intro hg2
        refine VO.step (.some rfl rfl rfl) (V1.move rfl rfl rfl lt0 ?_)
        refine VO.step (.some rfl rfl rfl) (V1.move rfl rfl rfl lt0 ?_)
        refine VO.step (.some rfl rfl rfl) (V1.boolNeq rfl rfl und_4 rfl rfl lt0 ?_)
        exact VO.nil ⟨rfl, rfl, rfl, rfl, .inr ⟨rfl, .inr ⟨rfl, .inr ⟨rfl, .inr ⟨rfl, .inl rfl⟩⟩⟩⟩⟩
       refine VO.nil ?_
       refine V.keep 117 [0, 1, 6, 7, 10, 80] [] (E0 := [(0, .vl ρ0 5 (List.map (encCarton σ0) aList)), (1, .vl ρ1 1 (List.map encInt aFiles)), (6, .vl rn 1 (List.map encInt y3.1)), (7, .bool y3.2), (10, .nils), (80, .bool (((decide (y13.1 < (0 : Int))) || (!y14)) || (!(y6.2 == y3.2))))]) (H0 := []) rfl (⟨_, _, rfl, rfl, ⟨_, _, rfl, rfl, ⟨_, _, rfl, rfl, ⟨_, _, rfl, rfl, ⟨_, _, rfl, rfl, ⟨_, _, rfl, rfl, rfl⟩⟩⟩⟩⟩⟩) (rfl) rfl ?_
       refine V.cond rfl (fun hc5 => ?_) (fun hc5 => ?_)
       ·
        replace hm0 := cond_t hc5 hm0
        refine V.seq ?_
        refine V.region ?_
        refine VO.cons rfl (V1.assign rfl rfl rfl lt0 ?_)
        refine VO.nil ?_
        refine V.ret ?_
        obtain rfl := Option.some.inj hm0
        exact ⟨_, [], ⟨_, _, rfl, rfl, rfl⟩, List.nil_sublist _, rfl, rfl⟩
       ·
        replace hm0 := cond_f hc5 hm0
        refine V.skip ?_
        refine V.seq ?_
        refine V.region ?_
        refine VO.cons rfl (V1.assign rfl rfl rfl lt0 ?_)
        refine VO.nil ?_
        refine V.seq ?_
        replace hm0 := bindO hm0; rcases hm0 with ⟨y15, hh17, hm0⟩
        replace hm0 := asrt_some hm0; rcases hm0 with ⟨hh18, hm0⟩
        refine V.region ?_
        refine VO.cons rfl (V1.move rfl rfl rfl lt0 ?_)
        refine VO.cons rfl (V1.move rfl rfl rfl lt0 ?_)
        refine VO.cons rfl (V1.call rfl rfl rfl cok_27 rfl (ok_laws_markIntS hh17 (oq := none) (a := y6.1) (fun _ => (hob0 rfl))) rfl lt0 ?_)
        rintro _ _ ⟨rfl, rfl⟩
        refine VO.cons rfl (V1.assign rfl rfl rfl lt0 ?_)
        refine VO.nil ?_
        refine V.keep 117 [0, 1, 6, 7, 10, 13] [] (E0 := [(0, .vl ρ0 5 (List.map (encCarton σ0) aList)), (1, .vl ρ1 1 (List.map encInt aFiles)), (6, .vl rn 1 (List.map encInt y3.1)), (7, .bool y3.2), (10, .nils), (13, .int .i64 y15.1)]) (H0 := []) rfl (⟨_, _, rfl, rfl, ⟨_, _, rfl, rfl, ⟨_, _, rfl, rfl, ⟨_, _, rfl, rfl, ⟨_, _, rfl, rfl, ⟨_, _, rfl, rfl, rfl⟩⟩⟩⟩⟩⟩) (rfl) rfl ?_
        refine V.seq ?_
        refine V.region ?_
        refine VO.cons rfl (V1.assign rfl rfl rfl lt0 ?_)
        refine VO.nil ?_
        refine V.seq ?_
        replace hm0 := bindO hm0; rcases hm0 with ⟨y16, hh19, hm0⟩
        refine V.region ?_
        refine VO.cons rfl (V1.move rfl rfl rfl lt0 ?_)
        refine VO.cons rfl (V1.move rfl rfl rfl lt0 ?_)
        refine VO.weakenK (Keeps.nilsE (l := y15.2) 84 rn 1 encInt (List.length_eq_zero_iff.1 (hh18.trans (congrArg List.length (hob0 rfl)))) rfl rfl) ?_
        refine VO.cons rfl (V1.call rfl rfl rfl cok_28 rfl (ok_laws_heldIntS hh19) rfl lt0 ?_)
        rintro _ _ ⟨rfl, rfl⟩
        refine VO.cons rfl (V1.assign rfl rfl rfl lt0 ?_)
        refine VO.nil ?_
        refine V.seq ?_
        refine V.seq ?_
        refine V.region ?_
        refine VO.cons rfl (V1.move rfl rfl rfl lt0 ?_)
        refine VO.cons rfl (V1.int rfl rfl rfl rfl rfl lt0 ?_)
        refine VO.nil ?_
        refine V.keep 117 [0, 1, 6, 7, 10, 13, 14, 88] [] (E0 := [(0, .vl ρ0 5 (List.map (encCarton σ0) aList)), (1, .vl ρ1 1 (List.map encInt aFiles)), (6, .vl rn 1 (List.map encInt y3.1)), (7, .bool y3.2), (10, .nils), (13, .int .i64 y15.1), (14, .int .i64 y16), (88, .bool (decide (y16 < (0 : Int))))]) (H0 := []) rfl (⟨_, _, rfl, rfl, ⟨_, _, rfl, rfl, ⟨_, _, rfl, rfl, ⟨_, _, rfl, rfl, ⟨_, _, rfl, rfl, ⟨_, _, rfl, rfl, ⟨_, _, rfl, rfl, ⟨_, _, rfl, rfl, rfl⟩⟩⟩⟩⟩⟩⟩⟩) (rfl) rfl ?_
        refine V.cond rfl (fun hc6 => ?_) (fun hc6 => ?_)
        ·
         replace hm0 := cond_t hc6 hm0
         refine V.seq ?_
         refine V.region ?_
         refine VO.cons rfl (V1.assign rfl rfl rfl lt0 ?_)
         refine VO.nil ?_
         refine V.ret ?_
         obtain rfl := Option.some.inj hm0
         exact ⟨_, [], ⟨_, _, rfl, rfl, rfl⟩, List.nil_sublist _, rfl, rfl⟩
        ·
         replace hm0 := cond_f hc6 hm0
         refine V.skip ?_
         refine V.seq ?_
         refine V.seq ?_
         refine V.region ?_
         refine VO.cons rfl (V1.move rfl rfl rfl lt0 ?_)
         refine VO.cons rfl (V1.move rfl rfl rfl lt0 ?_)
         refine VO.cons rfl (V1.int rfl rfl rfl rfl rfl lt0 ?_)
         refine VO.nil ?_
         refine V.keep 117 [0, 1, 6, 7, 10, 13, 91] [] (E0 := [(0, .vl ρ0 5 (List.map (encCarton σ0) aList)), (1, .vl ρ1 1 (List.map encInt aFiles)), (6, .vl rn 1 (List.map encInt y3.1)), (7, .bool y3.2), (10, .nils), (13, .int .i64 y15.1), (91, .bool (y16 != y15.1))]) (H0 := []) rfl (⟨_, _, rfl, rfl, ⟨_, _, rfl, rfl, ⟨_, _, rfl, rfl, ⟨_, _, rfl, rfl, ⟨_, _, rfl, rfl, ⟨_, _, rfl, rfl, ⟨_, _, rfl, rfl, rfl⟩⟩⟩⟩⟩⟩⟩) (rfl) rfl ?_
         refine V.cond rfl (fun hc7 => ?_) (fun hc7 => ?_)
         ·
          replace hm0 := cond_t hc7 hm0
          refine V.seq ?_
          refine V.region ?_
          refine VO.cons rfl (V1.assign rfl rfl rfl lt0 ?_)
          refine VO.nil ?_
          refine V.ret ?_
          obtain rfl := Option.some.inj hm0
          exact ⟨_, [], ⟨_, _, rfl, rfl, rfl⟩, List.nil_sublist _, rfl, rfl⟩
         ·
          replace hm0 := cond_f hc7 hm0
          refine V.skip ?_
          refine V.seq ?_
          replace hm0 := bindO hm0; rcases hm0 with ⟨y17, hh20, hm0⟩
          replace hm0 := bindO hm0; rcases hm0 with ⟨y18, hh21, hm0⟩
          replace hm0 := bindO hm0; rcases hm0 with ⟨y19, hh22, hm0⟩
          refine V.region ?_
          refine VO.cons rfl (V1.move rfl rfl rfl lt0 ?_)
          refine VO.cons rfl (V1.call rfl rfl rfl cok_22 rfl (ok_laws_toCartonS hh20) rfl lt0 ?_)
          rintro _ _ ⟨b7, rfl, rfl⟩
          refine VO.weakenK (Keeps.freezeG 0 rn [(94, .vl rn 5 (List.map (encCarton rn) y17))] ([]) (f := (encCarton rn)) (l := y17) rfl (fun _ => rfl) ⟨⟨_, rfl, .here⟩, trivial⟩ rfl rfl iNil) ?_
          refine VO.cons rfl (V1.move rfl rfl rfl lt0 ?_)
          refine VO.cons rfl (V1.call rfl rfl rfl cok_35 rfl (ok_laws_toIntS hh21) rfl lt0 ?_)
          rintro _ _ ⟨b8, rfl, rfl⟩
          refine VO.weakenK (Keeps.freezeG 0 rn [(96, .vl rn 1 (List.map encInt y18))] ([]) (f := encInt) (l := y18) rfl (fun _ => rfl) ⟨⟨_, rfl, .here⟩, trivial⟩ rfl rfl iNil) ?_
          refine VO.cons rfl (V1.permK (V1.call rfl rfl rfl cok_36 rfl (ok_impl_PullList hh22) rfl lt0 ?_))
          rintro _ _ ⟨ob1, hob1, rfl, rfl⟩
          refine ⟨_, ?_, Keeps.optBack (n := 1) (ob := ob1) (xs := List.map encInt y19.1) (H1 := []) (H2 := []) rfl⟩
          refine VO.cons rfl (V1.move rfl rfl rfl lt0 ?_)
          refine VO.cons rfl (V1.extract rfl rfl rfl rfl lt0 ?_)
          refine VO.weakenK (Keeps.optFront (n := 1) (ob := ob1) (xs := (List.map encInt y19.1)) (H1 := []) rfl) ?_
          refine VO.weakenK (Keeps.optVl 98 [] rn (f := encInt) (l := y19.1) (ob := ob1) (H1 := []) hob1 rfl rfl ⟨rfl, trivial⟩ (fun _ => rfl) rfl iNil) ?_
          refine VO.cons rfl (V1.extract rfl rfl rfl rfl lt0 ?_)
          refine VO.cons rfl (V1.assign rfl rfl rfl lt0 ?_)
          refine VO.cons rfl (V1.assign rfl rfl rfl lt0 ?_)
          refine VO.nil ?_
          refine V.keep 117 [6, 7, 10, 13, 15, 16] [] (E0 := [(6, .vl rn 1 (List.map encInt y3.1)), (7, .bool y3.2), (10, .nils), (13, .int .i64 y15.1), (15, .vl rn 1 (List.map encInt y19.1)), (16, .bool y19.2)]) (H0 := []) rfl (⟨_, _, rfl, rfl, ⟨_, _, rfl, rfl, ⟨_, _, rfl, rfl, ⟨_, _, rfl, rfl, ⟨_, _, rfl, rfl, ⟨_, _, rfl, rfl, rfl⟩⟩⟩⟩⟩⟩) (rfl) rfl ?_
          refine V.seq ?_
          refine V.seq ?_
          replace hm0 := bindO hm0; rcases hm0 with ⟨y20, hh23, hm0⟩
          refine V.region ?_
          refine VO.cons rfl (V1.move rfl rfl rfl lt0 ?_)
          refine VO.cons rfl (V1.move rfl rfl rfl lt0 ?_)
          refine VO.cons rfl (V1.call rfl rfl rfl cok_24 rfl (ok_laws_eqIntS hh23) rfl lt0 ?_)
          rintro _ _ ⟨rfl, rfl⟩
          refine VO.cons rfl (V1.not rfl rfl rfl lt0 ?_)
          refine VO.cons rfl (V1.move rfl rfl rfl lt0 ?_)
          apply VO.or (n := 3) rfl rfl rfl rfl rfl rfl lt0 (.none rfl)
          ·
           intro hg3
           refine VO.step (.some rfl rfl rfl) (V1.move rfl rfl rfl lt0 ?_)
           refine VO.step (.some rfl rfl rfl) (V1.move rfl rfl rfl lt0 ?_)
           refine VO.step (.some rfl rfl rfl) (V1.boolNeq rfl rfl und_4 rfl rfl lt0 ?_)
           exact VO.nil ⟨rfl, rfl, rfl, rfl, .inr ⟨rfl, .inr ⟨rfl, .inr ⟨rfl, .inr ⟨rfl, .inl rfl⟩⟩⟩⟩⟩
          refine VO.nil ?_
          refine V.keep 117 [10, 13, 108] [] (E0 := [(10, .nils), (13, .int .i64 y15.1), (108, .bool ((!y20) || (!(y19.2 == y3.2))))]) (H0 := []) rfl (⟨_, _, rfl, rfl, ⟨_, _, rfl, rfl, ⟨_, _, rfl, rfl, rfl⟩⟩⟩) (rfl) rfl ?_
          refine V.cond rfl (fun hc8 => ?_) (fun hc8 => ?_)
          ·
           replace hm0 := cond_t hc8 hm0
           refine V.seq ?_
           refine V.region ?_
           refine VO.cons rfl (V1.assign rfl rfl rfl lt0 ?_)
           refine VO.nil ?_
           refine V.ret ?_
           obtain rfl := Option.some.inj hm0
           exact ⟨_, [], ⟨_, _, rfl, rfl, rfl⟩, List.nil_sublist _, rfl, rfl⟩
          ·
           replace hm0 := cond_f hc8 hm0
           refine V.skip ?_
           refine V.seq ?_
           refine V.region ?_
           refine VO.cons rfl (V1.assign rfl rfl rfl lt0 ?_)
           refine VO.nil ?_
           refine V.seq ?_
           replace hm0 := bindO hm0; rcases hm0 with ⟨y21, hh24, hm0⟩
           refine V.region ?_
           refine VO.cons rfl (V1.move rfl rfl rfl lt0 ?_)
           refine VO.cons rfl (V1.move rfl rfl rfl lt0 ?_)
           refine VO.weakenK (Keeps.nilsE (l := y15.2) 109 rn 1 encInt (List.length_eq_zero_iff.1 (hh18.trans (congrArg List.length (hob0 rfl)))) rfl rfl) ?_
           refine VO.cons rfl (V1.call rfl rfl rfl cok_28 rfl (ok_laws_heldIntS hh24) rfl lt0 ?_)
           rintro _ _ ⟨rfl, rfl⟩
           refine VO.cons rfl (V1.assign rfl rfl rfl lt0 ?_)
           refine VO.nil ?_
           refine V.keep 117 [13, 14] [] (E0 := [(13, .int .i64 y15.1), (14, .int .i64 y21)]) (H0 := []) rfl (⟨_, _, rfl, rfl, ⟨_, _, rfl, rfl, rfl⟩⟩) (rfl) rfl ?_
           refine V.seq ?_
           refine V.seq ?_
           refine V.region ?_
           refine VO.cons rfl (V1.move rfl rfl rfl lt0 ?_)
           refine VO.cons rfl (V1.int rfl rfl rfl rfl rfl lt0 ?_)
           refine VO.nil ?_
           refine V.cond rfl (fun hc9 => ?_) (fun hc9 => ?_)
           ·
            replace hm0 := cond_t hc9 hm0
            refine V.seq ?_
            refine V.region ?_
            refine VO.cons rfl (V1.assign rfl rfl rfl lt0 ?_)
            refine VO.nil ?_
            refine V.ret ?_
            obtain rfl := Option.some.inj hm0
            exact ⟨_, [], ⟨_, _, rfl, rfl, rfl⟩, List.nil_sublist _, rfl, rfl⟩
           ·
            replace hm0 := cond_f hc9 hm0
            refine V.skip ?_
            refine V.seq ?_
            refine V.seq ?_
            refine V.region ?_
            refine VO.cons rfl (V1.move rfl rfl rfl lt0 ?_)
            refine VO.cons rfl (V1.move rfl rfl rfl lt0 ?_)
            refine VO.cons rfl (V1.int rfl rfl rfl rfl rfl lt0 ?_)
            refine VO.nil ?_
            refine V.keep 117 [116] [] (E0 := [(116, .bool (y21 != y15.1))]) (H0 := []) rfl (⟨_, _, rfl, rfl, rfl⟩) (rfl) rfl ?_
            refine V.cond rfl (fun hc10 => ?_) (fun hc10 => ?_)
            ·
             replace hm0 := cond_t hc10 hm0
             refine V.seq ?_
             refine V.region ?_
             refine VO.cons rfl (V1.assign rfl rfl rfl lt0 ?_)
             refine VO.nil ?_
             refine V.ret ?_
             obtain rfl := Option.some.inj hm0
             exact ⟨_, [], ⟨_, _, rfl, rfl, rfl⟩, List.nil_sublist _, rfl, rfl⟩
            ·
             replace hm0 := cond_f hc10 hm0
             refine V.skip ?_
             refine V.seq ?_
             refine V.region ?_
             refine VO.cons rfl (V1.assign rfl rfl rfl lt0 ?_)
             refine VO.nil ?_
             refine V.ret ?_
             obtain rfl := Option.some.inj hm0
             exact ⟨_, [], ⟨_, _, rfl, rfl, rfl⟩, List.nil_sublist _, rfl, rfl⟩
   ·
    refine V.seq ?_
    refine V.seq ?_
    replace hm0 := bindO hm0; rcases hm0 with ⟨y7, hh7, hm0⟩
    refine V.region ?_
    refine VO.cons rfl (V1.move rfl rfl rfl lt0 ?_)
    refine VO.cons rfl (V1.move rfl rfl rfl lt0 ?_)
    refine VO.cons rfl (V1.callL (rn + 1) [ob0] [.vl (rn + 1) 1 (List.map encInt y6.1), .vl rn 1 (List.map encInt y3.1)] rfl rfl rfl cok_24 rfl ⟨_, _, rfl, Lend.srMap 0 rfl (fun _ => rfl) (.head _), ⟨_, _, rfl, .same _, rfl⟩⟩ (bwCons (k := 0) rfl bwNil) (ok_laws_eqIntS hh7) rfl (⟨(by first | omega | (dsimp only; omega)), by rintro _ _ ⟨rfl, rfl⟩; exact ⟨rfl, by simp⟩⟩) lt0 ?_)
    rintro _ _ ⟨rfl, rfl⟩
    refine VO.cons rfl (V1.not rfl rfl rfl lt0 ?_)
    refine VO.cons rfl (V1.move rfl rfl rfl lt0 ?_)
    apply VO.or (n := 3) rfl rfl rfl rfl rfl rfl lt0 (.none rfl)
    ·
     intro hg0
     refine VO.step (.some rfl rfl rfl) (V1.move rfl rfl rfl lt0 ?_)
     refine VO.step (.some rfl rfl rfl) (V1.move rfl rfl rfl lt0 ?_)
     refine VO.step (.some rfl rfl rfl) (V1.boolNeq rfl rfl und_4 rfl rfl lt0 ?_)
     exact VO.nil ⟨rfl, rfl, rfl, rfl, .inr ⟨rfl, .inr ⟨rfl, .inr ⟨rfl, .inr ⟨rfl, .inl rfl⟩⟩⟩⟩⟩
    refine VO.nil ?_
    refine V.keepT 117 [0, 1, 6, 7, 8, 9, 10, 11, 51] [0, 1, 2] (E0 := [(0, .vl ρ0 5 (List.map (encCarton σ0) aList)), (1, .vl ρ1 1 (List.map encInt aFiles)), (6, .vl rn 1 (List.map encInt y3.1)), (7, .bool y3.2), (8, .sref b3 5 0 (List.length y4)), (9, .sref b4 1 0 (List.length y5)), (10, .sref ob0 1 0 (List.length y6.1)), (11, .bool y6.2), (51, .bool ((!y7) || (!(y6.2 == y3.2))))]) (A := [(ob0, ⟨1, List.map encInt y6.1⟩), (b4, ⟨1, List.map encInt y5⟩), (b3, ⟨5, deepC cellCarton ts_78 y4⟩)]) (T := os_78) (H0 := [(ob0, ⟨1, List.map encInt y6.1⟩), (b4, ⟨1, List.map encInt y5⟩), (b3, ⟨5, deepC cellCarton ts_78 y4⟩)]) (T' := os_78) rfl (⟨_, _, rfl, rfl, ⟨_, _, rfl, rfl, ⟨_, _, rfl, rfl, ⟨_, _, rfl, rfl, ⟨_, _, rfl, rfl, ⟨_, _, rfl, rfl, ⟨_, _, rfl, rfl, ⟨_, _, rfl, rfl, ⟨_, _, rfl, rfl, rfl⟩⟩⟩⟩⟩⟩⟩⟩⟩) rfl (⟨_, _, rfl, rfl, ⟨_, _, rfl, rfl, ⟨_, _, rfl, rfl, rfl⟩⟩⟩) rfl (List.Sublist.refl _) ?_
    refine V.cond rfl (fun hc2 => ?_) (fun hc2 => ?_)
    ·
     replace hm0 := cond_t hc2 hm0
     refine V.seq ?_
     refine V.region ?_
     refine VO.cons rfl (V1.assign rfl rfl rfl lt0 ?_)
     refine VO.nil ?_
     refine V.ret ?_
     obtain rfl := Option.some.inj hm0
     exact ⟨_, [], ⟨_, _, rfl, rfl, rfl⟩, List.nil_sublist _, rfl, rfl⟩
    ·
     replace hm0 := cond_f hc2 hm0
     refine V.skip ?_
     refine V.seq ?_
     refine V.seq ?_
     replace hm0 := bindO hm0; rcases hm0 with ⟨y8, hh8, hm0⟩
     replace hm0 := bindO hm0; rcases hm0 with ⟨y9, hh9, hm0⟩
     refine V.region ?_
     refine VO.cons rfl (V1.move rfl rfl rfl lt0 ?_)
     refine VO.cons rfl (V1.move rfl rfl rfl lt0 ?_)
     refine VO.cons rfl (V1.call rfl rfl rfl cok_22 rfl (ok_laws_toCartonS hh8) rfl lt0 ?_)
     rintro _ _ ⟨b5, rfl, rfl⟩
     refine VO.weakenK (Keeps.freezeG 0 rn [(54, .vl rn 5 (List.map (encCarton rn) y8))] ((ob0, ⟨1, List.map encInt y6.1⟩) :: (b4, ⟨1, List.map encInt y5⟩) :: (b3, ⟨5, deepC cellCarton ts_78 y4⟩) :: os_78) (f := (encCarton rn)) (l := y8) rfl (fun _ => rfl) ⟨⟨_, rfl, .here⟩, trivial⟩ ⟨_, _, rfl, rfl, .inl rfl, ⟨_, _, rfl, rfl, .inl rfl, ⟨_, _, rfl, rfl, .inl rfl, FrzH.same⟩⟩⟩ rfl iNil) ?_
     refine VO.cons rfl (V1.callL (rn + 1) ([b3] ++ List.map Prod.fst os_78) [.vl (rn + 1) 5 (List.map (encCarton (rn + 1)) y4), .vl rn 5 (List.map (encCarton rn) y8)] rfl rfl rfl cok_25 rfl ⟨_, _, rfl, Lend.deep (m := 1) (inn := (fun c_ : Carton => List.map encInt c_.Files)) (cell := cellCarton) cokCarton (ts := ts_78) (os := os_78) (xs := y4) 2 hd_78 rfl (fun _ => roL_map (fun _ => rfl) _) rfl (fun p hp => memTail (A := [(ob0, ⟨1, List.map encInt y6.1⟩), (b4, ⟨1, List.map encInt y5⟩), (b3, ⟨5, deepC cellCarton ts_78 y4⟩)]) (T := os_78) hp rfl) (List.mem_append_left _ (.head _)) (fun p hp => List.mem_append_right _ (List.mem_map.2 ⟨p, hp, rfl⟩)), ⟨_, _, rfl, .same _, rfl⟩⟩ (bwTail (A := [(ob0, ⟨1, List.map encInt y6.1⟩), (b4, ⟨1, List.map encInt y5⟩), (b3, ⟨5, deepC cellCarton ts_78 y4⟩)]) (T := os_78) rfl (bwCons (k := 2) rfl bwNil) (fun p hp => hp)) (ok_laws_eqCartonS hh9) rfl (⟨(by first | omega | (dsimp only; omega)), by rintro _ _ ⟨rfl, rfl⟩; exact ⟨rfl, by simp⟩⟩) lt0 ?_)
     rintro _ _ ⟨rfl, rfl⟩
     refine VO.cons rfl (V1.not rfl rfl rfl lt0 ?_)
     refine VO.nil ?_
     refine V.keepT 117 [0, 1, 6, 7, 8, 9, 10, 11, 56] [0, 1, 2] (E0 := [(0, .vl ρ0 5 (List.map (encCarton σ0) aList)), (1, .vl ρ1 1 (List.map encInt aFiles)), (6, .vl rn 1 (List.map encInt y3.1)), (7, .bool y3.2), (8, .sref b3 5 0 (List.length y4)), (9, .sref b4 1 0 (List.length y5)), (10, .sref ob0 1 0 (List.length y6.1)), (11, .bool y6.2), (56, .bool (!y9))]) (A := [(ob0, ⟨1, List.map encInt y6.1⟩), (b4, ⟨1, List.map encInt y5⟩), (b3, ⟨5, deepC cellCarton ts_78 y4⟩)]) (T := os_78) (H0 := [(ob0, ⟨1, List.map encInt y6.1⟩), (b4, ⟨1, List.map encInt y5⟩), (b3, ⟨5, deepC cellCarton ts_78 y4⟩)]) (T' := os_78) rfl (⟨_, _, rfl, rfl, ⟨_, _, rfl, rfl, ⟨_, _, rfl, rfl, ⟨_, _, rfl, rfl, ⟨_, _, rfl, rfl, ⟨_, _, rfl, rfl, ⟨_, _, rfl, rfl, ⟨_, _, rfl, rfl, ⟨_, _, rfl, rfl, rfl⟩⟩⟩⟩⟩⟩⟩⟩⟩) rfl (⟨_, _, rfl, rfl, ⟨_, _, rfl, rfl, ⟨_, _, rfl, rfl, rfl⟩⟩⟩) rfl (List.Sublist.refl _) ?_
     refine V.cond rfl (fun hc3 => ?_) (fun hc3 => ?_)
     ·
      replace hm0 := cond_t hc3 hm0
      refine V.seq ?_
      refine V.region ?_
      refine VO.cons rfl (V1.assign rfl rfl rfl lt0 ?_)
      refine VO.nil ?_
      refine V.ret ?_
      obtain rfl := Option.some.inj hm0
      exact ⟨_, [], ⟨_, _, rfl, rfl, rfl⟩, List.nil_sublist _, rfl, rfl⟩
     ·
      replace hm0 := cond_f hc3 hm0
      refine V.skip ?_
      refine V.seq ?_
      refine V.seq ?_
      replace hm0 := bindO hm0; rcases hm0 with ⟨y10, hh10, hm0⟩
      replace hm0 := bindO hm0; rcases hm0 with ⟨y11, hh11, hm0⟩
      refine V.region ?_
      refine VO.cons rfl (V1.move rfl rfl rfl lt0 ?_)
      refine VO.cons rfl (V1.move rfl rfl rfl lt0 ?_)
      refine VO.cons rfl (V1.call rfl rfl rfl cok_35 rfl (ok_laws_toIntS hh10) rfl lt0 ?_)
      rintro _ _ ⟨b6, rfl, rfl⟩
      refine VO.weakenK (Keeps.freezeG 0 rn [(59, .vl rn 1 (List.map encInt y10))] ((ob0, ⟨1, List.map encInt y6.1⟩) :: (b4, ⟨1, List.map encInt y5⟩) :: (b3, ⟨5, deepC cellCarton ts_78 y4⟩) :: os_78) (f := encInt) (l := y10) rfl (fun _ => rfl) ⟨⟨_, rfl, .here⟩, trivial⟩ ⟨_, _, rfl, rfl, .inl rfl, ⟨_, _, rfl, rfl, .inl rfl, ⟨_, _, rfl, rfl, .inl rfl, FrzH.same⟩⟩⟩ rfl iNil) ?_
      refine VO.cons rfl (V1.callL (rn + 1) [b4] [.vl (rn + 1) 1 (List.map encInt y5), .vl rn 1 (List.map encInt y10)] rfl rfl rfl cok_24 rfl ⟨_, _, rfl, Lend.srMap 1 rfl (fun _ => rfl) (.head _), ⟨_, _, rfl, .same _, rfl⟩⟩ (bwCons (k := 1) rfl bwNil) (ok_laws_eqIntS hh11) rfl (⟨(by first | omega | (dsimp only; omega)), by rintro _ _ ⟨rfl, rfl⟩; exact ⟨rfl, by simp⟩⟩) lt0 ?_)
      rintro _ _ ⟨rfl, rfl⟩
      refine VO.cons rfl (V1.not rfl rfl rfl lt0 ?_)
      refine VO.nil ?_
      refine V.keepT 117 [0, 1, 6, 7, 8, 9, 10, 11, 61] [0, 1, 2] (E0 := [(0, .vl ρ0 5 (List.map (encCarton σ0) aList)), (1, .vl ρ1 1 (List.map encInt aFiles)), (6, .vl rn 1 (List.map encInt y3.1)), (7, .bool y3.2), (8, .sref b3 5 0 (List.length y4)), (9, .sref b4 1 0 (List.length y5)), (10, .sref ob0 1 0 (List.length y6.1)), (11, .bool y6.2), (61, .bool (!y11))]) (A := [(ob0, ⟨1, List.map encInt y6.1⟩), (b4, ⟨1, List.map encInt y5⟩), (b3, ⟨5, deepC cellCarton ts_78 y4⟩)]) (T := os_78) (H0 := [(ob0, ⟨1, List.map encInt y6.1⟩), (b4, ⟨1, List.map encInt y5⟩), (b3, ⟨5, deepC cellCarton ts_78 y4⟩)]) (T' := os_78) rfl (⟨_, _, rfl, rfl, ⟨_, _, rfl, rfl, ⟨_, _, rfl, rfl, ⟨_, _, rfl, rfl, ⟨_, _, rfl, rfl, ⟨_, _, rfl, rfl, ⟨_, _, rfl, rfl, ⟨_, _, rfl, rfl, ⟨_, _, rfl, rfl, rfl⟩⟩⟩⟩⟩⟩⟩⟩⟩) rfl (⟨_, _, rfl, rfl, ⟨_, _, rfl, rfl, ⟨_, _, rfl, rfl, rfl⟩⟩⟩) rfl (List.Sublist.refl _) ?_
      refine V.cond rfl (fun hc4 => ?_) (fun hc4 => ?_)
      ·
       replace hm0 := cond_t hc4 hm0
       refine V.seq ?_
       refine V.region ?_
       refine VO.cons rfl (V1.assign rfl rfl rfl lt0 ?_)
       refine VO.nil ?_
       refine V.ret ?_
       obtain rfl := Option.some.inj hm0
       exact ⟨_, [], ⟨_, _, rfl, rfl, rfl⟩, List.nil_sublist _, rfl, rfl⟩
      ·
       replace hm0 := cond_f hc4 hm0
       refine V.skip ?_
       refine V.seq ?_
       refine V.region ?_
       refine VO.cons rfl (V1.assign rfl rfl rfl lt0 ?_)
       refine VO.nil ?_
       refine V.seq ?_
       replace hm0 := bindO hm0; rcases hm0 with ⟨y12, hh12, hm0⟩
       replace hm0 := asrt_some hm0; rcases hm0 with ⟨hh13, hm0⟩
       refine V.region ?_
       refine VO.cons rfl (V1.move rfl rfl rfl lt0 ?_)
       refine VO.cons rfl (V1.move rfl rfl rfl lt0 ?_)
       refine VO.cons rfl (V1.permK (V1.callDT 2 (A := [(ob0, ⟨1, List.map encInt y6.1⟩), (b4, ⟨1, List.map encInt y5⟩), (b3, ⟨5, deepC cellCarton ts_78 y4⟩)]) (A' := [(ob0, ⟨1, List.map encInt y6.1⟩), (b4, ⟨1, List.map encInt y5⟩)]) (T0 := os_78) (os := os_78) (T := []) (p := (b3, ⟨5, deepC cellCarton ts_78 y4⟩)) rfl rfl rfl cok_26 rfl rfl (.of_eq (List.append_nil _).symm) rfl rfl (rn + 1) [] [.sref b3 5 0 (List.length y4), .int .i64 (1 : Int)] ⟨_, _, rfl, .same _, ⟨_, _, rfl, .same _, rfl⟩⟩ bwNil (ok_laws_markCartonS hh12 (oq := some b3) (tq := ts_78) (oz := os_78) (fun e => by cases e) hd_78) rfl (.inl rfl) lt0 ?_))
       rintro _ _ ⟨ts_116, os_116, hd_116, rfl, rfl⟩
       refine ⟨_, ?_, Keeps.perm (([(b3, ⟨5, deepC cellCarton ts_116 y12.2⟩), (ob0, ⟨1, List.map encInt y6.1⟩), (b4, ⟨1, List.map encInt y5⟩)] : List (Nat × Obj')) ++ os_116) (permDeep0 (p := (b3, ⟨5, deepC cellCarton ts_116 y12.2⟩)) (os := os_116) (A := [(ob0, ⟨1, List.map encInt y6.1⟩), (b4, ⟨1, List.map encInt y5⟩)]))⟩
       refine VO.cons rfl (V1.assign rfl rfl rfl lt0 ?_)
       refine VO.nil ?_
       refine V.seq ?_
       replace hm0 := bindO hm0; rcases hm0 with ⟨y13, hh14, hm0⟩
       replace hm0 := asrt_some hm0; rcases hm0 with ⟨hh15, hm0⟩
       refine V.region ?_
       refine VO.cons rfl (V1.move rfl rfl rfl lt0 ?_)
       refine VO.cons rfl (V1.move rfl rfl rfl lt0 ?_)
       refine VO.cons rfl (V1.callM 2 (rn + 1) [] [.sref b4 1 0 (List.length y5), .int .i64 y12.1] (p := (b4, ⟨1, List.map encInt y5⟩)) rfl rfl rfl cok_27 rfl rfl ⟨_, _, rfl, .same _, ⟨_, _, rfl, .same _, rfl⟩⟩ bwNil (ok_laws_markIntS hh14 (oq := some b4) (fun e => by cases e)) rfl (.inl rfl) lt0 ?_)
       rintro _ _ ⟨rfl, rfl⟩
       refine VO.cons rfl (V1.assign rfl rfl rfl lt0 ?_)
       refine VO.nil ?_
       refine V.keepT 117 [0, 1, 6, 7, 10, 11, 12] [2] (E0 := [(0, .vl ρ0 5 (List.map (encCarton σ0) aList)), (1, .vl ρ1 1 (List.map encInt aFiles)), (6, .vl rn 1 (List.map encInt y3.1)), (7, .bool y3.2), (10, .sref ob0 1 0 (List.length y6.1)), (11, .bool y6.2), (12, .int .i64 y13.1)]) (A := [(b4, ⟨1, List.map encInt y13.2⟩), (b3, ⟨5, deepC cellCarton ts_116 y12.2⟩), (ob0, ⟨1, List.map encInt y6.1⟩)]) (T := os_116) (H0 := [(ob0, ⟨1, List.map encInt y6.1⟩)]) (T' := []) rfl (⟨_, _, rfl, rfl, ⟨_, _, rfl, rfl, ⟨_, _, rfl, rfl, ⟨_, _, rfl, rfl, ⟨_, _, rfl, rfl, ⟨_, _, rfl, rfl, ⟨_, _, rfl, rfl, rfl⟩⟩⟩⟩⟩⟩⟩) rfl (⟨_, _, rfl, rfl, rfl⟩) rfl (List.nil_sublist _) ?_
       refine V.seq ?_
       refine V.seq ?_
       replace hm0 := bindO hm0; rcases hm0 with ⟨y14, hh16, hm0⟩
       refine V.region ?_
       refine VO.cons rfl (V1.move rfl rfl rfl lt0 ?_)
       refine VO.cons rfl (V1.int rfl rfl rfl rfl rfl lt0 ?_)
       refine VO.cons rfl (V1.move rfl rfl rfl lt0 ?_)
       apply VO.or (n := 4) rfl rfl rfl rfl rfl rfl lt0 (.none rfl)
       ·
        intro hg1
        refine VO.step (.some rfl rfl rfl) (V1.move rfl rfl rfl lt0 ?_)
        refine VO.step (.some rfl rfl rfl) (V1.move rfl rfl rfl lt0 ?_)
        refine VO.step (.some rfl rfl rfl) (V1.callL (rn + 1) [ob0] [.vl (rn + 1) 1 (List.map encInt y6.1), .vl rn 1 (List.map encInt y3.1)] rfl rfl rfl cok_24 rfl ⟨_, _, rfl, Lend.srMap 0 rfl (fun _ => rfl) (.head _), ⟨_, _, rfl, .same _, rfl⟩⟩ (bwCons (k := 0) rfl bwNil) (ok_laws_eqIntS (cond_f hg1 hh16)) rfl (⟨(by first | omega | (dsimp only; omega)), by rintro _ _ ⟨rfl, rfl⟩; exact ⟨rfl, by simp⟩⟩) lt0 ?_)
        rintro _ _ ⟨rfl, rfl⟩
        refine VO.step (.some rfl rfl rfl) (V1.not rfl rfl rfl lt0 ?_)
        exact VO.nil ⟨rfl, rfl, rfl, rfl, .inr ⟨rfl, .inr ⟨rfl, .inr ⟨rfl, .inr ⟨rfl, .inr ⟨rfl, .inl rfl⟩⟩⟩⟩⟩⟩
       refine VO.cons rfl (V1.move rfl rfl rfl lt0 ?_)
       apply VO.or (n := 3) rfl rfl rfl rfl rfl rfl lt0 (.none rfl)
       ·
        intro hg2
        refine VO.step (.some rfl rfl rfl) (V1.move rfl rfl rfl lt0 ?_)
        refine VO.step (.some rfl rfl rfl) (V1.move rfl rfl rfl lt0 ?_)
        refine VO.step (.some rfl rfl rfl) (V1.boolNeq rfl rfl und_4 rfl rfl lt0 ?_)
        exact VO.nil ⟨rfl, rfl, rfl, rfl, .inr ⟨rfl, .inr ⟨rfl, .inr ⟨rfl, .inr ⟨rfl, .inl rfl⟩⟩⟩⟩⟩
       refine VO.nil ?_
       refine V.keep 117 [0, 1, 6, 7, 10, 80] [0] (E0 := [(0, .vl ρ0 5 (List.map (encCarton σ0) aList)), (1, .vl ρ1 1 (List.map encInt aFiles)), (6, .vl rn 1 (List.map encInt y3.1)), (7, .bool y3.2), (10, .sref ob0 1 0 (List.length y6.1)), (80, .bool (((decide (y13.1 < (0 : Int))) || (!y14)) || (!(y6.2 == y3.2))))]) (H0 := [(ob0, ⟨1, List.map encInt y6.1⟩)]) rfl (⟨_, _, rfl, rfl, ⟨_, _, rfl, rfl, ⟨_, _, rfl, rfl, ⟨_, _, rfl, rfl, ⟨_, _, rfl, rfl, ⟨_, _, rfl, rfl, rfl⟩⟩⟩⟩⟩⟩) (⟨_, _, rfl, rfl, rfl⟩) rfl ?_
       refine V.cond rfl (fun hc5 => ?_) (fun hc5 => ?_)
       ·
        replace hm0 := cond_t hc5 hm0
        refine V.seq ?_
        refine V.region ?_
        refine VO.cons rfl (V1.assign rfl rfl rfl lt0 ?_)
        refine VO.nil ?_
        refine V.ret ?_
        obtain rfl := Option.some.inj hm0
        exact ⟨_, [], ⟨_, _, rfl, rfl, rfl⟩, List.nil_sublist _, rfl, rfl⟩
       ·
        replace hm0 := cond_f hc5 hm0
        refine V.skip ?_
        refine V.seq ?_
        refine V.region ?_
        refine VO.cons rfl (V1.assign rfl rfl rfl lt0 ?_)
        refine VO.nil ?_
        refine V.seq ?_
        replace hm0 := bindO hm0; rcases hm0 with ⟨y15, hh17, hm0⟩
        replace hm0 := asrt_some hm0; rcases hm0 with ⟨hh18, hm0⟩
        refine V.region ?_
        refine VO.cons rfl (V1.move rfl rfl rfl lt0 ?_)
        refine VO.cons rfl (V1.move rfl rfl rfl lt0 ?_)
        refine VO.cons rfl (V1.callM 0 (rn + 1) [] [.sref ob0 1 0 (List.length y6.1), .int .i64 (1 : Int)] (p := (ob0, ⟨1, List.map encInt y6.1⟩)) rfl rfl rfl cok_27 rfl rfl ⟨_, _, rfl, .same _, ⟨_, _, rfl, .same _, rfl⟩⟩ bwNil (ok_laws_markIntS hh17 (oq := some ob0) (fun e => by cases e)) rfl (.inl rfl) lt0 ?_)
        rintro _ _ ⟨rfl, rfl⟩
        refine VO.weakenK (Keeps.say 10 (y := .sref ob0 1 0 (List.length y15.2)) rfl (congrArg (PV.sref ob0 1 0) hh18.symm)) ?_
        refine VO.cons rfl (V1.assign rfl rfl rfl lt0 ?_)
        refine VO.nil ?_
        refine V.seq ?_
        refine V.region ?_
        refine VO.cons rfl (V1.assign rfl rfl rfl lt0 ?_)
        refine VO.nil ?_
        refine V.seq ?_
        replace hm0 := bindO hm0; rcases hm0 with ⟨y16, hh19, hm0⟩
        refine V.region ?_
        refine VO.cons rfl (V1.move rfl rfl rfl lt0 ?_)
        refine VO.cons rfl (V1.move rfl rfl rfl lt0 ?_)
        refine VO.cons rfl (V1.callL (rn + 1) [ob0] [.vl (rn + 1) 1 (List.map encInt y15.2), .int .i64 (1 : Int)] rfl rfl rfl cok_28 rfl ⟨_, _, rfl, Lend.srMap 0 rfl (fun _ => rfl) (.head _), ⟨_, _, rfl, .same _, rfl⟩⟩ (bwCons (k := 0) rfl bwNil) (ok_laws_heldIntS hh19) rfl (⟨(by first | omega | (dsimp only; omega)), by rintro _ _ ⟨rfl, rfl⟩; exact ⟨rfl, by simp⟩⟩) lt0 ?_)
        rintro _ _ ⟨rfl, rfl⟩
        refine VO.cons rfl (V1.assign rfl rfl rfl lt0 ?_)
        refine VO.nil ?_
        refine V.keep 117 [0, 1, 6, 7, 10, 13, 14] [0] (E0 := [(0, .vl ρ0 5 (List.map (encCarton σ0) aList)), (1, .vl ρ1 1 (List.map encInt aFiles)), (6, .vl rn 1 (List.map encInt y3.1)), (7, .bool y3.2), (10, .sref ob0 1 0 (List.length y15.2)), (13, .int .i64 y15.1), (14, .int .i64 y16)]) (H0 := [(ob0, ⟨1, List.map encInt y15.2⟩)]) rfl (⟨_, _, rfl, rfl, ⟨_, _, rfl, rfl, ⟨_, _, rfl, rfl, ⟨_, _, rfl, rfl, ⟨_, _, rfl, rfl, ⟨_, _, rfl, rfl, ⟨_, _, rfl, rfl, rfl⟩⟩⟩⟩⟩⟩⟩) (⟨_, _, rfl, rfl, rfl⟩) rfl ?_
        refine V.seq ?_
        refine V.seq ?_
        refine V.region ?_
        refine VO.cons rfl (V1.move rfl rfl rfl lt0 ?_)
        refine VO.cons rfl (V1.int rfl rfl rfl rfl rfl lt0 ?_)
        refine VO.nil ?_
        refine V.cond rfl (fun hc6 => ?_) (fun hc6 => ?_)
        ·
         replace hm0 := cond_t hc6 hm0
         refine V.seq ?_
         refine V.region ?_
         refine VO.cons rfl (V1.assign rfl rfl rfl lt0 ?_)
         refine VO.nil ?_
         refine V.ret ?_
         obtain rfl := Option.some.inj hm0
         exact ⟨_, [], ⟨_, _, rfl, rfl, rfl⟩, List.nil_sublist _, rfl, rfl⟩
        ·
         replace hm0 := cond_f hc6 hm0
         refine V.skip ?_
         refine V.seq ?_
         refine V.seq ?_
         refine V.region ?_
         refine VO.cons rfl (V1.move rfl rfl rfl lt0 ?_)
         refine VO.cons rfl (V1.move rfl rfl rfl lt0 ?_)
         refine VO.cons rfl (V1.int rfl rfl rfl rfl rfl lt0 ?_)
         refine VO.nil ?_
         refine V.keep 117 [0, 1, 6, 7, 10, 13, 91] [0] (E0 := [(0, .vl ρ0 5 (List.map (encCarton σ0) aList)), (1, .vl ρ1 1 (List.map encInt aFiles)), (6, .vl rn 1 (List.map encInt y3.1)), (7, .bool y3.2), (10, .sref ob0 1 0 (List.length y15.2)), (13, .int .i64 y15.1), (91, .bool (y16 != y15.1))]) (H0 := [(ob0, ⟨1, List.map encInt y15.2⟩)]) rfl (⟨_, _, rfl, rfl, ⟨_, _, rfl, rfl, ⟨_, _, rfl, rfl, ⟨_, _, rfl, rfl, ⟨_, _, rfl, rfl, ⟨_, _, rfl, rfl, ⟨_, _, rfl, rfl, rfl⟩⟩⟩⟩⟩⟩⟩) (⟨_, _, rfl, rfl, rfl⟩) rfl ?_
         refine V.cond rfl (fun hc7 => ?_) (fun hc7 => ?_)
         ·
          replace hm0 := cond_t hc7 hm0
          refine V.seq ?_
          refine V.region ?_
          refine VO.cons rfl (V1.assign rfl rfl rfl lt0 ?_)
          refine VO.nil ?_
          refine V.ret ?_
          obtain rfl := Option.some.inj hm0
          exact ⟨_, [], ⟨_, _, rfl, rfl, rfl⟩, List.nil_sublist _, rfl, rfl⟩
         ·
          replace hm0 := cond_f hc7 hm0
          refine V.skip ?_
          refine V.seq ?_
          replace hm0 := bindO hm0; rcases hm0 with ⟨y17, hh20, hm0⟩
          replace hm0 := bindO hm0; rcases hm0 with ⟨y18, hh21, hm0⟩
          replace hm0 := bindO hm0; rcases hm0 with ⟨y19, hh22, hm0⟩
          refine V.region ?_
          refine VO.cons rfl (V1.move rfl rfl rfl lt0 ?_)
          refine VO.cons rfl (V1.call rfl rfl rfl cok_22 rfl (ok_laws_toCartonS hh20) rfl lt0 ?_)
          rintro _ _ ⟨b7, rfl, rfl⟩
          refine VO.weakenK (Keeps.freezeG 0 rn [(94, .vl rn 5 (List.map (encCarton rn) y17))] ([(ob0, ⟨1, List.map encInt y15.2⟩)]) (f := (encCarton rn)) (l := y17) rfl (fun _ => rfl) ⟨⟨_, rfl, .here⟩, trivial⟩ ⟨_, _, rfl, rfl, .inl rfl, rfl⟩ rfl iNil) ?_
          refine VO.cons rfl (V1.move rfl rfl rfl lt0 ?_)
          refine VO.cons rfl (V1.call rfl rfl rfl cok_35 rfl (ok_laws_toIntS hh21) rfl lt0 ?_)
          rintro _ _ ⟨b8, rfl, rfl⟩
          refine VO.weakenK (Keeps.freezeG 0 rn [(96, .vl rn 1 (List.map encInt y18))] ([(ob0, ⟨1, List.map encInt y15.2⟩)]) (f := encInt) (l := y18) rfl (fun _ => rfl) ⟨⟨_, rfl, .here⟩, trivial⟩ ⟨_, _, rfl, rfl, .inl rfl, rfl⟩ rfl iNil) ?_
          refine VO.cons rfl (V1.permK (V1.call rfl rfl rfl cok_36 rfl (ok_impl_PullList hh22) rfl lt0 ?_))
          rintro _ _ ⟨ob1, hob1, rfl, rfl⟩
          refine ⟨_, ?_, Keeps.optBack (n := 1) (ob := ob1) (xs := List.map encInt y19.1) (H1 := []) (H2 := [(ob0, ⟨1, List.map encInt y15.2⟩)]) rfl⟩
          refine VO.cons rfl (V1.move rfl rfl rfl lt0 ?_)
          refine VO.cons rfl (V1.extract rfl rfl rfl rfl lt0 ?_)
          refine VO.weakenK (Keeps.optFront (n := 1) (ob := ob1) (xs := (List.map encInt y19.1)) (H1 := [(ob0, ⟨1, List.map encInt y15.2⟩)]) rfl) ?_
          refine VO.weakenK (Keeps.optVl 98 [] rn (f := encInt) (l := y19.1) (ob := ob1) (H1 := []) hob1 rfl rfl ⟨rfl, trivial⟩ (fun _ => rfl) rfl iNil) ?_
          refine VO.cons rfl (V1.extract rfl rfl rfl rfl lt0 ?_)
          refine VO.cons rfl (V1.assign rfl rfl rfl lt0 ?_)
          refine VO.cons rfl (V1.assign rfl rfl rfl lt0 ?_)
          refine VO.nil ?_
          refine V.keep 117 [6, 7, 10, 13, 15, 16] [0] (E0 := [(6, .vl rn 1 (List.map encInt y3.1)), (7, .bool y3.2), (10, .sref ob0 1 0 (List.length y15.2)), (13, .int .i64 y15.1), (15, .vl rn 1 (List.map encInt y19.1)), (16, .bool y19.2)]) (H0 := [(ob0, ⟨1, List.map encInt y15.2⟩)]) rfl (⟨_, _, rfl, rfl, ⟨_, _, rfl, rfl, ⟨_, _, rfl, rfl, ⟨_, _, rfl, rfl, ⟨_, _, rfl, rfl, ⟨_, _, rfl, rfl, rfl⟩⟩⟩⟩⟩⟩) (⟨_, _, rfl, rfl, rfl⟩) rfl ?_
          refine V.seq ?_
          refine V.seq ?_
          replace hm0 := bindO hm0; rcases hm0 with ⟨y20, hh23, hm0⟩
          refine V.region ?_
          refine VO.cons rfl (V1.move rfl rfl rfl lt0 ?_)
          refine VO.cons rfl (V1.move rfl rfl rfl lt0 ?_)
          refine VO.cons rfl (V1.call rfl rfl rfl cok_24 rfl (ok_laws_eqIntS hh23) rfl lt0 ?_)
          rintro _ _ ⟨rfl, rfl⟩
          refine VO.cons rfl (V1.not rfl rfl rfl lt0 ?_)
          refine VO.cons rfl (V1.move rfl rfl rfl lt0 ?_)
          apply VO.or (n := 3) rfl rfl rfl rfl rfl rfl lt0 (.none rfl)
          ·
           intro hg3
           refine VO.step (.some rfl rfl rfl) (V1.move rfl rfl rfl lt0 ?_)
           refine VO.step (.some rfl rfl rfl) (V1.move rfl rfl rfl lt0 ?_)
           refine VO.step (.some rfl rfl rfl) (V1.boolNeq rfl rfl und_4 rfl rfl lt0 ?_)
           exact VO.nil ⟨rfl, rfl, rfl, rfl, .inr ⟨rfl, .inr ⟨rfl, .inr ⟨rfl, .inr ⟨rfl, .inl rfl⟩⟩⟩⟩⟩
          refine VO.nil ?_
          refine V.keep 117 [10, 13, 108] [0] (E0 := [(10, .sref ob0 1 0 (List.length y15.2)), (13, .int .i64 y15.1), (108, .bool ((!y20) || (!(y19.2 == y3.2))))]) (H0 := [(ob0, ⟨1, List.map encInt y15.2⟩)]) rfl (⟨_, _, rfl, rfl, ⟨_, _, rfl, rfl, ⟨_, _, rfl, rfl, rfl⟩⟩⟩) (⟨_, _, rfl, rfl, rfl⟩) rfl ?_
          refine V.cond rfl (fun hc8 => ?_) (fun hc8 => ?_)
          ·
           replace hm0 := cond_t hc8 hm0
           refine V.seq ?_
           refine V.region ?_
           refine VO.cons rfl (V1.assign rfl rfl rfl lt0 ?_)
           refine VO.nil ?_
           refine V.ret ?_
           obtain rfl := Option.some.inj hm0
           exact ⟨_, [], ⟨_, _, rfl, rfl, rfl⟩, List.nil_sublist _, rfl, rfl⟩
          ·
           replace hm0 := cond_f hc8 hm0
           refine V.skip ?_
           refine V.seq ?_
           refine V.region ?_
           refine VO.cons rfl (V1.assign rfl rfl rfl lt0 ?_)
           refine VO.nil ?_
           refine V.seq ?_
           replace hm0 := bindO hm0; rcases hm0 with ⟨y21, hh24, hm0⟩
           refine V.region ?_
           refine VO.cons rfl (V1.move rfl rfl rfl lt0 ?_)
           refine VO.cons rfl (V1.move rfl rfl rfl lt0 ?_)
           refine VO.cons rfl (V1.callL (rn + 1) [ob0] [.vl (rn + 1) 1 (List.map encInt y15.2), .int .i64 (1 : Int)] rfl rfl rfl cok_28 rfl ⟨_, _, rfl, Lend.srMap 0 rfl (fun _ => rfl) (.head _), ⟨_, _, rfl, .same _, rfl⟩⟩ (bwCons (k := 0) rfl bwNil) (ok_laws_heldIntS hh24) rfl (⟨(by first | omega | (dsimp only; omega)), by rintro _ _ ⟨rfl, rfl⟩; exact ⟨rfl, by simp⟩⟩) lt0 ?_)
           rintro _ _ ⟨rfl, rfl⟩
           refine VO.cons rfl (V1.assign rfl rfl rfl lt0 ?_)
           refine VO.nil ?_
           refine V.keep 117 [13, 14] [] (E0 := [(13, .int .i64 y15.1), (14, .int .i64 y21)]) (H0 := []) rfl (⟨_, _, rfl, rfl, ⟨_, _, rfl, rfl, rfl⟩⟩) (rfl) rfl ?_
           refine V.seq ?_
           refine V.seq ?_
           refine V.region ?_
           refine VO.cons rfl (V1.move rfl rfl rfl lt0 ?_)
           refine VO.cons rfl (V1.int rfl rfl rfl rfl rfl lt0 ?_)
           refine VO.nil ?_
           refine V.cond rfl (fun hc9 => ?_) (fun hc9 => ?_)
           ·
            replace hm0 := cond_t hc9 hm0
            refine V.seq ?_
            refine V.region ?_
            refine VO.cons rfl (V1.assign rfl rfl rfl lt0 ?_)
            refine VO.nil ?_
            refine V.ret ?_
            obtain rfl := Option.some.inj hm0
            exact ⟨_, [], ⟨_, _, rfl, rfl, rfl⟩, List.nil_sublist _, rfl, rfl⟩
           ·
            replace hm0 := cond_f hc9 hm0
            refine V.skip ?_
            refine V.seq ?_
            refine V.seq ?_
            refine V.region ?_
            refine VO.cons rfl (V1.move rfl rfl rfl lt0 ?_)
            refine VO.cons rfl (V1.move rfl rfl rfl lt0 ?_)
            refine VO.cons rfl (V1.int rfl rfl rfl rfl rfl lt0 ?_)
            refine VO.nil ?_
            refine V.keep 117 [116] [] (E0 := [(116, .bool (y21 != y15.1))]) (H0 := []) rfl (⟨_, _, rfl, rfl, rfl⟩) (rfl) rfl ?_
            refine V.cond rfl (fun hc10 => ?_) (fun hc10 => ?_)
            ·
             replace hm0 := cond_t hc10 hm0
             refine V.seq ?_
             refine V.region ?_
             refine VO.cons rfl (V1.assign rfl rfl rfl lt0 ?_)
             refine VO.nil ?_
             refine V.ret ?_
             obtain rfl := Option.some.inj hm0
             exact ⟨_, [], ⟨_, _, rfl, rfl, rfl⟩, List.nil_sublist _, rfl, rfl⟩
            ·
             replace hm0 := cond_f hc10 hm0
             refine V.skip ?_
             refine V.seq ?_
             refine V.region ?_
             refine VO.cons rfl (V1.assign rfl rfl rfl lt0 ?_)
             refine VO.nil ?_
             refine V.ret ?_
             obtain rfl := Option.some.inj hm0
             exact ⟨_, [], ⟨_, _, rfl, rfl, rfl⟩, List.nil_sublist _, rfl, rfl⟩
end Go.Proofs.Ytfebeomnlkfgoaa
