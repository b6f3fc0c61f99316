/- the functions do what their models say -/
import Derived.Test.YtmpknfachmfbaaaQe2
set_option linter.unusedSimpArgs false
set_option linter.unusedVariables false
set_option maxRecDepth 100000
set_option maxHeartbeats 4000000
namespace Go.Proofs.Ytmpknfachmfbaaa
open Go.VS

theorem ok_spec_DaysHeld {ρ0 rn : Nat} {list : List Hand} {record : Int} {who : Int} {day : Int} {r : Int × Bool} (h : M.spec_DaysHeld list record who day = some r) : Does Try.prog 50 [.vl ρ0 6 (List.map encHand list), .int .i64 record, .int .i64 who, .int .i64 day] [] rn (fun x H => x = .tup [.int .i64 r.1, .bool r.2] ∧ H = []) := by
 have hm0 := h; clear h; unfold M.spec_DaysHeld at hm0
 try dsimp only at hm0
 refine Does.intro (N := 96) Try.func50 rfl rfl rfl rfl ?_
 intro w0 S0
 refine V.seq ?_
 refine V.region ?_
 refine VO.cons rfl (V1.assign rfl rfl rfl (ltb rfl) ?_)
 refine VO.cons rfl (V1.assign rfl rfl rfl (ltb rfl) ?_)
 refine VO.nil ?_
 refine V.seq ?_
 refine V.seq ?_
 replace hm0 := bindO hm0; rcases hm0 with ⟨y0, hh0, hm0⟩
 replace hm0 := bindO hm0; rcases hm0 with ⟨y1, hh1, hm0⟩
 replace hm0 := bindO hm0; rcases hm0 with ⟨y2, hh2, hm0⟩
 replace hm0 := bindO hm0; rcases hm0 with ⟨y3, hh3, hm0⟩
 refine V.region ?_
 refine VO.cons rfl (V1.move rfl rfl rfl (ltb rfl) ?_)
 refine VO.cons rfl (V1.call rfl rfl rfl cok_80 rfl (ok_spec_l17Good hh0) rfl (ltb rfl) ?_)
 rintro _ _ ⟨rfl, rfl⟩
 refine VO.cons rfl (V1.not rfl rfl rfl (ltb rfl) ?_)
 refine VO.cons rfl (V1.move rfl rfl rfl (ltb rfl) ?_)
 apply VO.or (n := 3) rfl rfl rfl rfl rfl rfl (ltb rfl) (.none rfl)
 ·
  intro hg0
  refine VO.step (.some rfl rfl rfl) (V1.move rfl rfl rfl (ltb rfl) ?_)
  refine VO.step (.some rfl rfl rfl) (V1.call rfl rfl rfl cok_94 rfl (ok_spec_l17Record (cond_f hg0 hh1)) rfl (ltb rfl) ?_)
  rintro _ _ ⟨rfl, rfl⟩
  refine VO.step (.some rfl rfl rfl) (V1.not rfl rfl rfl (ltb rfl) ?_)
  exact VO.nil ⟨rfl, rfl, rfl, rfl, .inr ⟨rfl, .inr ⟨rfl, .inr ⟨rfl, .inr ⟨rfl, .inl rfl⟩⟩⟩⟩⟩
 refine VO.cons rfl (V1.move rfl rfl rfl (ltb rfl) ?_)
 apply VO.or (n := 3) rfl rfl rfl rfl rfl rfl (ltb rfl) (.none rfl)
 ·
  intro hg1
  refine VO.step (.some rfl rfl rfl) (V1.move rfl rfl rfl (ltb rfl) ?_)
  refine VO.step (.some rfl rfl rfl) (V1.call rfl rfl rfl cok_81 rfl (ok_spec_l17Who (cond_f hg1 hh2)) rfl (ltb rfl) ?_)
  rintro _ _ ⟨rfl, rfl⟩
  refine VO.step (.some rfl rfl rfl) (V1.not rfl rfl rfl (ltb rfl) ?_)
  exact VO.nil ⟨rfl, rfl, rfl, rfl, .inr ⟨rfl, .inr ⟨rfl, .inr ⟨rfl, .inr ⟨rfl, .inl rfl⟩⟩⟩⟩⟩
 refine VO.cons rfl (V1.move rfl rfl rfl (ltb rfl) ?_)
 apply VO.or (n := 3) rfl rfl rfl rfl rfl rfl (ltb rfl) (.none rfl)
 ·
  intro hg2
  refine VO.step (.some rfl rfl rfl) (V1.move rfl rfl rfl (ltb rfl) ?_)
  refine VO.step (.some rfl rfl rfl) (V1.call rfl rfl rfl cok_82 rfl (ok_spec_l2Day (cond_f hg2 hh3)) rfl (ltb rfl) ?_)
  rintro _ _ ⟨rfl, rfl⟩
  refine VO.step (.some rfl rfl rfl) (V1.not rfl rfl rfl (ltb rfl) ?_)
  exact VO.nil ⟨rfl, rfl, rfl, rfl, .inr ⟨rfl, .inr ⟨rfl, .inr ⟨rfl, .inr ⟨rfl, .inl rfl⟩⟩⟩⟩⟩
 refine VO.nil ?_
 refine V.keep 96 [0, 1, 2, 3, 32] [] (E0 := [(0, .vl ρ0 6 (List.map encHand list)), (1, .int .i64 record), (2, .int .i64 who), (3, .int .i64 day), (32, .bool ((((!y0) || (!y1)) || (!y2)) || (!y3)))]) (H0 := []) rfl (⟨_, _, rfl, rfl, ⟨_, _, rfl, rfl, ⟨_, _, rfl, rfl, ⟨_, _, rfl, rfl, ⟨_, _, rfl, rfl, rfl⟩⟩⟩⟩⟩) (rfl) rfl ?_
 refine V.cond rfl (fun hc0 => ?_) (fun hc0 => ?_)
 ·
  replace hm0 := cond_t hc0 hm0
  refine V.seq ?_
  refine V.region ?_
  refine VO.cons rfl (V1.assign rfl rfl rfl (ltb rfl) ?_)
  refine VO.cons rfl (V1.assign rfl rfl rfl (ltb rfl) ?_)
  refine VO.nil ?_
  refine V.ret ?_
  obtain rfl := Option.some.inj hm0
  exact ⟨_, [], ⟨_, _, rfl, rfl, ⟨_, _, rfl, rfl, rfl⟩⟩, List.nil_sublist _, rfl, rfl⟩
 ·
  replace hm0 := cond_f hc0 hm0
  refine V.skip ?_
  refine V.seq ?_
  refine V.region ?_
  refine VO.cons rfl (V1.assign rfl rfl rfl (ltb rfl) ?_)
  refine VO.nil ?_
  refine V.seq ?_
  refine V.seq ?_
  refine V.region ?_
  refine VO.cons rfl (V1.assign rfl rfl rfl (ltb rfl) ?_)
  refine VO.nil ?_
  replace hm0 := bindO hm0; rcases hm0 with ⟨e0, he1, hm0⟩
  refine V.cutT (D := (Int) × (Unit)) (fun ⟨sum_, _⟩ => ⟨96, [(10, .int .i64 sum_)], []⟩) (fun ⟨sum_, _⟩ => (sum_ = e0)) ?_ ?_
  ·
   refine V.block ?_
   refine V.keep 96 [10, 11, 0, 1, 2, 3] [] (E0 := [(10, .int .i64 (0 : Int)), (11, .int .i64 (0 : Int)), (0, .vl ρ0 6 (List.map encHand list)), (1, .int .i64 record), (2, .int .i64 who), (3, .int .i64 day)]) (H0 := []) rfl (⟨_, _, rfl, rfl, ⟨_, _, rfl, rfl, ⟨_, _, rfl, rfl, ⟨_, _, rfl, rfl, ⟨_, _, rfl, rfl, ⟨_, _, rfl, rfl, rfl⟩⟩⟩⟩⟩⟩) (rfl) rfl ?_
   refine V.loopE (D := Nat × (Int × Int) × (Unit)) (fun ⟨n0, ⟨sum_0, i⟩, _⟩ => [(10, .int .i64 sum_0), (11, .int .i64 i)]) (fun ⟨n0, ⟨sum_0, i⟩, _⟩ => []) (fun ⟨n0, ⟨sum_0, i⟩, _⟩ => loopO (M.spec_DaysHeld_l0 list record who day) n0 (sum_0, i) = some e0) (fun ⟨n0, _, _⟩ => n0) (rounds, ((0 : Int), (0 : Int)), ()) rfl he1 ?_
   rintro ⟨n0, ⟨sum_0, i⟩, _⟩ hP0
   obtain ⟨m0, y4, rfl, hm1, hl1, hr1⟩ := loop_head hP0
   unfold M.spec_DaysHeld_l0 at hm1; dsimp only at hm1
   show V _ _ _ ⟨96, [(10, .int .i64 sum_0), (11, .int .i64 i), (0, .vl ρ0 6 (List.map encHand list)), (1, .int .i64 record), (2, .int .i64 who), (3, .int .i64 day)], []⟩
   refine V.seq ?_
   refine V.seq ?_
   refine V.region ?_
   refine VO.cons rfl (V1.move rfl rfl rfl (ltb rfl) ?_)
   refine VO.cons rfl (V1.move rfl rfl rfl (ltb rfl) ?_)
   refine VO.cons rfl (V1.lenMap rfl rfl rfl rfl rfl rfl isl_27 (ltb rfl) ?_)
   refine VO.cons rfl (V1.int rfl rfl rfl rfl rfl (ltb rfl) ?_)
   refine VO.nil ?_
   refine V.cond rfl (fun hc1 => ?_) (fun hc1 => ?_)
   ·
    replace hm1 := cond_t hc1 hm1
    refine V.skip ?_
    refine V.keep 96 [0, 1, 2, 3, 10, 11] [] (E0 := [(0, .vl ρ0 6 (List.map encHand list)), (1, .int .i64 record), (2, .int .i64 who), (3, .int .i64 day), (10, .int .i64 sum_0), (11, .int .i64 i)]) (H0 := []) rfl (⟨_, _, rfl, rfl, ⟨_, _, rfl, rfl, ⟨_, _, rfl, rfl, ⟨_, _, rfl, rfl, ⟨_, _, rfl, rfl, ⟨_, _, rfl, rfl, rfl⟩⟩⟩⟩⟩⟩) (rfl) rfl ?_
    refine V.seq ?_
    replace hm1 := bindO hm1; rcases hm1 with ⟨j0, hm2, hm1⟩
    refine V.cutT (D := (Int) × (Unit)) (fun ⟨sum_1, _⟩ => ⟨96, [(10, .int .i64 sum_1), (0, .vl ρ0 6 (List.map encHand list)), (1, .int .i64 record), (2, .int .i64 who), (3, .int .i64 day), (11, .int .i64 i)], []⟩) (fun ⟨sum_1, _⟩ => (sum_1 = j0)) ?_ ?_
    ·
     refine V.block ?_
     refine V.seq ?_
     replace hm2 := asrt_some hm2; rcases hm2 with ⟨hh4, hm2⟩
     refine V.region ?_
     refine VO.cons rfl (V1.move rfl rfl rfl (ltb rfl) ?_)
     refine VO.cons rfl (V1.move rfl rfl rfl (ltb rfl) ?_)
     refine VO.cons rfl (V1.indexI rfl rfl esz_27 rfl rfl hh4 (ltb rfl) ?_)
     refine VO.cons rfl (V1.loadPinAll rfl rfl tyk_52 rfl rfl (ltb rfl) ?_)
     refine VO.cons rfl (V1.alloc rfl rfl zk_52 (ltb rfl) ?_)
     intro b0
     refine VO.cons rfl (V1.storeRefAll (k := 0) rfl rfl tyk_52 rfl rfl rfl rfl rfl rfl ?_)
     refine VO.nil ?_
     refine V.keep 96 [0, 1, 2, 3, 10, 11, 12] [0] (E0 := [(0, .vl ρ0 6 (List.map encHand list)), (1, .int .i64 record), (2, .int .i64 who), (3, .int .i64 day), (10, .int .i64 sum_0), (11, .int .i64 i), (12, .ref b0 6 0 0)]) (H0 := [(b0, ⟨6, [encHand (list.getD (Int.toNat i) default)]⟩)]) rfl (⟨_, _, rfl, rfl, ⟨_, _, rfl, rfl, ⟨_, _, rfl, rfl, ⟨_, _, rfl, rfl, ⟨_, _, rfl, rfl, ⟨_, _, rfl, rfl, ⟨_, _, rfl, rfl, rfl⟩⟩⟩⟩⟩⟩⟩) (⟨_, _, rfl, rfl, rfl⟩) rfl ?_
     refine V.seq ?_
     refine V.seq ?_
     refine V.region ?_
     refine VO.cons rfl (V1.fieldRef rfl rfl fo_52_0 rfl (ltb rfl) ?_)
     refine VO.cons rfl (V1.loadRef (k := 0) rfl rfl tyk_3 rfl rfl rfl rfl rfl (ltb rfl) ?_)
     refine VO.cons rfl (V1.move rfl rfl rfl (ltb rfl) ?_)
     refine VO.cons rfl (V1.int rfl rfl rfl rfl rfl (ltb rfl) ?_)
     refine VO.cons rfl (V1.move rfl rfl rfl (ltb rfl) ?_)
     apply VO.or (n := 4) rfl rfl rfl rfl rfl rfl (ltb rfl) (.none rfl)
     ·
      intro hg3
      refine VO.step (.some rfl rfl rfl) (V1.fieldRef rfl rfl fo_52_2 rfl (ltb rfl) ?_)
      refine VO.step (.some rfl rfl rfl) (V1.loadRef (k := 0) rfl rfl tyk_3 rfl rfl rfl rfl rfl (ltb rfl) ?_)
      refine VO.step (.some rfl rfl rfl) (V1.move rfl rfl rfl (ltb rfl) ?_)
      refine VO.step (.some rfl rfl rfl) (V1.int rfl rfl rfl rfl rfl (ltb rfl) ?_)
      exact VO.nil ⟨rfl, rfl, rfl, rfl, .inr ⟨rfl, .inr ⟨rfl, .inr ⟨rfl, .inr ⟨rfl, .inr ⟨rfl, .inl rfl⟩⟩⟩⟩⟩⟩
     refine VO.cons rfl (V1.move rfl rfl rfl (ltb rfl) ?_)
     apply VO.or (n := 4) rfl rfl rfl rfl rfl rfl (ltb rfl) (.none rfl)
     ·
      intro hg4
      refine VO.step (.some rfl rfl rfl) (V1.fieldRef rfl rfl fo_52_3 rfl (ltb rfl) ?_)
      refine VO.step (.some rfl rfl rfl) (V1.loadRef (k := 0) rfl rfl tyk_3 rfl rfl rfl rfl rfl (ltb rfl) ?_)
      refine VO.step (.some rfl rfl rfl) (V1.move rfl rfl rfl (ltb rfl) ?_)
      refine VO.step (.some rfl rfl rfl) (V1.int rfl rfl rfl rfl rfl (ltb rfl) ?_)
      exact VO.nil ⟨rfl, rfl, rfl, rfl, .inr ⟨rfl, .inr ⟨rfl, .inr ⟨rfl, .inr ⟨rfl, .inr ⟨rfl, .inl rfl⟩⟩⟩⟩⟩⟩
     refine VO.nil ?_
     refine V.keep 96 [0, 1, 2, 3, 10, 11, 12, 58] [0] (E0 := [(0, .vl ρ0 6 (List.map encHand list)), (1, .int .i64 record), (2, .int .i64 who), (3, .int .i64 day), (10, .int .i64 sum_0), (11, .int .i64 i), (12, .ref b0 6 0 0), (58, .bool (((((list.getD (Int.toNat i) default).Record) != record) || (((list.getD (Int.toNat i) default).To) != who)) || (decide (((list.getD (Int.toNat i) default).Day) > day))))]) (H0 := [(b0, ⟨6, [encHand (list.getD (Int.toNat i) default)]⟩)]) rfl (⟨_, _, rfl, rfl, ⟨_, _, rfl, rfl, ⟨_, _, rfl, rfl, ⟨_, _, rfl, rfl, ⟨_, _, rfl, rfl, ⟨_, _, rfl, rfl, ⟨_, _, rfl, rfl, ⟨_, _, rfl, rfl, rfl⟩⟩⟩⟩⟩⟩⟩⟩) (⟨_, _, rfl, rfl, rfl⟩) rfl ?_
     refine V.cond rfl (fun hc2 => ?_) (fun hc2 => ?_)
     ·
      replace hm2 := cond_t hc2 hm2
      refine V.exit ?_
      exact ⟨(sum_0, ()), Option.some.inj hm2, Keeps.mk (ks := []) rfl ⟨rfl, rfl, rfl, rfl, rfl, rfl, trivial⟩ (rfl) rfl⟩
     ·
      replace hm2 := cond_f hc2 hm2
      refine V.skip ?_
      refine V.seq ?_
      refine V.region ?_
      refine VO.cons rfl (V1.move rfl rfl rfl (ltb rfl) ?_)
      refine VO.cons rfl (V1.assign rfl rfl rfl (ltb rfl) ?_)
      refine VO.nil ?_
      refine V.seq ?_
      refine V.seq ?_
      refine V.region ?_
      refine VO.cons rfl (V1.move rfl rfl rfl (ltb rfl) ?_)
      refine VO.cons rfl (V1.lenMap rfl rfl rfl rfl rfl rfl isl_27 (ltb rfl) ?_)
      refine VO.cons rfl (V1.int rfl rfl rfl rfl rfl (ltb rfl) ?_)
      refine VO.cons rfl (V1.assign rfl rfl rfl (ltb rfl) ?_)
      refine VO.nil ?_
      refine V.keep 96 [0, 1, 2, 3, 10, 11, 12, 13, 14] [0] (E0 := [(0, .vl ρ0 6 (List.map encHand list)), (1, .int .i64 record), (2, .int .i64 who), (3, .int .i64 day), (10, .int .i64 sum_0), (11, .int .i64 i), (12, .ref b0 6 0 0), (13, .int .i64 day), (14, .int .i64 (IntKind.i64.wrap ((list.length : Int) - (1 : Int))))]) (H0 := [(b0, ⟨6, [encHand (list.getD (Int.toNat i) default)]⟩)]) rfl (⟨_, _, rfl, rfl, ⟨_, _, rfl, rfl, ⟨_, _, rfl, rfl, ⟨_, _, rfl, rfl, ⟨_, _, rfl, rfl, ⟨_, _, rfl, rfl, ⟨_, _, rfl, rfl, ⟨_, _, rfl, rfl, ⟨_, _, rfl, rfl, rfl⟩⟩⟩⟩⟩⟩⟩⟩⟩) (⟨_, _, rfl, rfl, rfl⟩) rfl ?_
      replace hm2 := bindO hm2; rcases hm2 with ⟨e1, he3, hm2⟩
      refine V.cutT (D := (Int) × (Unit)) (fun ⟨end_, _⟩ => ⟨96, [(13, .int .i64 end_), (0, .vl ρ0 6 (List.map encHand list)), (1, .int .i64 record), (2, .int .i64 who), (3, .int .i64 day), (10, .int .i64 sum_0), (11, .int .i64 i), (12, .ref b0 6 0 0)], [(b0, ⟨6, [encHand (list.getD (Int.toNat i) default)]⟩)]⟩) (fun ⟨end_, _⟩ => (end_ = e1)) ?_ ?_
      ·
       refine V.block ?_
       refine V.keep 96 [13, 14, 0, 1, 2, 3, 10, 11, 12] [0] (E0 := [(13, .int .i64 day), (14, .int .i64 (IntKind.i64.wrap ((list.length : Int) - (1 : Int)))), (0, .vl ρ0 6 (List.map encHand list)), (1, .int .i64 record), (2, .int .i64 who), (3, .int .i64 day), (10, .int .i64 sum_0), (11, .int .i64 i), (12, .ref b0 6 0 0)]) (H0 := [(b0, ⟨6, [encHand (list.getD (Int.toNat i) default)]⟩)]) rfl (⟨_, _, rfl, rfl, ⟨_, _, rfl, rfl, ⟨_, _, rfl, rfl, ⟨_, _, rfl, rfl, ⟨_, _, rfl, rfl, ⟨_, _, rfl, rfl, ⟨_, _, rfl, rfl, ⟨_, _, rfl, rfl, ⟨_, _, rfl, rfl, rfl⟩⟩⟩⟩⟩⟩⟩⟩⟩) (⟨_, _, rfl, rfl, rfl⟩) rfl ?_
       refine V.loopE (D := Nat × (Int × Int) × (Unit)) (fun ⟨n1, ⟨end_0, k⟩, _⟩ => [(13, .int .i64 end_0), (14, .int .i64 k)]) (fun ⟨n1, ⟨end_0, k⟩, _⟩ => []) (fun ⟨n1, ⟨end_0, k⟩, _⟩ => loopO (M.spec_DaysHeld_l1 list record day i) n1 (end_0, k) = some e1) (fun ⟨n1, _, _⟩ => n1) (rounds, (day, (IntKind.i64.wrap ((list.length : Int) - (1 : Int)))), ()) rfl he3 ?_
       rintro ⟨n1, ⟨end_0, k⟩, _⟩ hP1
       obtain ⟨m1, y5, rfl, hm3, hl3, hr3⟩ := loop_head hP1
       unfold M.spec_DaysHeld_l1 at hm3; dsimp only at hm3
       show V _ _ _ ⟨96, [(13, .int .i64 end_0), (14, .int .i64 k), (0, .vl ρ0 6 (List.map encHand list)), (1, .int .i64 record), (2, .int .i64 who), (3, .int .i64 day), (10, .int .i64 sum_0), (11, .int .i64 i), (12, .ref b0 6 0 0)], [(b0, ⟨6, [encHand (list.getD (Int.toNat i) default)]⟩)]⟩
       refine V.seq ?_
       refine V.seq ?_
       refine V.region ?_
       refine VO.cons rfl (V1.move rfl rfl rfl (ltb rfl) ?_)
       refine VO.cons rfl (V1.move rfl rfl rfl (ltb rfl) ?_)
       refine VO.cons rfl (V1.int rfl rfl rfl rfl rfl (ltb rfl) ?_)
       refine VO.nil ?_
       refine V.cond rfl (fun hc3 => ?_) (fun hc3 => ?_)
       ·
        replace hm3 := cond_t hc3 hm3
        refine V.skip ?_
        refine V.seq ?_
        replace hm3 := bindO hm3; rcases hm3 with ⟨j1, hm4, hm3⟩
        refine V.cutT (D := (Int) × (Unit)) (fun ⟨end_1, _⟩ => ⟨96, [(13, .int .i64 end_1), (0, .vl ρ0 6 (List.map encHand list)), (1, .int .i64 record), (2, .int .i64 who), (3, .int .i64 day), (10, .int .i64 sum_0), (11, .int .i64 i), (12, .ref b0 6 0 0), (14, .int .i64 k)], [(b0, ⟨6, [encHand (list.getD (Int.toNat i) default)]⟩)]⟩) (fun ⟨end_1, _⟩ => (end_1 = j1)) ?_ ?_
        ·
         refine V.block ?_
         refine V.seq ?_
         replace hm4 := asrt_some hm4; rcases hm4 with ⟨hh5, hm4⟩
         replace hm4 := asrt_some hm4; rcases hm4 with ⟨hh6, hm4⟩
         refine V.region ?_
         refine VO.cons rfl (V1.move rfl rfl rfl (ltb rfl) ?_)
         refine VO.cons rfl (V1.move rfl rfl rfl (ltb rfl) ?_)
         refine VO.cons rfl (V1.indexI rfl rfl esz_27 rfl rfl hh5 (ltb rfl) ?_)
         refine VO.cons rfl (V1.fieldPin rfl rfl fo_52_0 rfl (ltb rfl) ?_)
         refine VO.cons rfl (V1.loadPin rfl rfl tyk_3 rfl rfl (ltb rfl) ?_)
         refine VO.cons rfl (V1.move rfl rfl rfl (ltb rfl) ?_)
         refine VO.cons rfl (V1.int rfl rfl rfl rfl rfl (ltb rfl) ?_)
         refine VO.cons rfl (V1.move rfl rfl rfl (ltb rfl) ?_)
         apply VO.and (n := 7) rfl rfl rfl rfl rfl rfl (ltb rfl) (.none rfl)
         ·
          intro hg5
          refine VO.step (.some rfl rfl rfl) (V1.move rfl rfl rfl (ltb rfl) ?_)
          refine VO.step (.some rfl rfl rfl) (V1.move rfl rfl rfl (ltb rfl) ?_)
          refine VO.step (.some rfl rfl rfl) (V1.indexI rfl rfl esz_27 rfl rfl (hh6 hg5) (ltb rfl) ?_)
          refine VO.step (.some rfl rfl rfl) (V1.fieldPin rfl rfl fo_52_3 rfl (ltb rfl) ?_)
          refine VO.step (.some rfl rfl rfl) (V1.loadPin rfl rfl tyk_3 rfl rfl (ltb rfl) ?_)
          refine VO.step (.some rfl rfl rfl) (V1.move rfl rfl rfl (ltb rfl) ?_)
          refine VO.step (.some rfl rfl rfl) (V1.int rfl rfl rfl rfl rfl (ltb rfl) ?_)
          exact VO.nil ⟨rfl, rfl, rfl, rfl, .inr ⟨rfl, .inr ⟨rfl, .inr ⟨rfl, .inr ⟨rfl, .inr ⟨rfl, .inr ⟨rfl, .inr ⟨rfl, .inr ⟨rfl, .inl rfl⟩⟩⟩⟩⟩⟩⟩⟩⟩
         refine VO.nil ?_
         refine V.keep 96 [0, 1, 2, 3, 10, 11, 12, 13, 14, 83] [0] (E0 := [(0, .vl ρ0 6 (List.map encHand list)), (1, .int .i64 record), (2, .int .i64 who), (3, .int .i64 day), (10, .int .i64 sum_0), (11, .int .i64 i), (12, .ref b0 6 0 0), (13, .int .i64 end_0), (14, .int .i64 k), (83, .bool ((((list.getD (Int.toNat k) default).Record) == record) && (decide (((list.getD (Int.toNat k) default).Day) < day))))]) (H0 := [(b0, ⟨6, [encHand (list.getD (Int.toNat i) default)]⟩)]) rfl (⟨_, _, rfl, rfl, ⟨_, _, rfl, rfl, ⟨_, _, rfl, rfl, ⟨_, _, rfl, rfl, ⟨_, _, rfl, rfl, ⟨_, _, rfl, rfl, ⟨_, _, rfl, rfl, ⟨_, _, rfl, rfl, ⟨_, _, rfl, rfl, ⟨_, _, rfl, rfl, rfl⟩⟩⟩⟩⟩⟩⟩⟩⟩⟩) (⟨_, _, rfl, rfl, rfl⟩) rfl ?_
         refine V.cond rfl (fun hc4 => ?_) (fun hc4 => ?_)
         ·
          replace hm4 := cond_t hc4 hm4
          replace hm4 := asrt_some hm4; rcases hm4 with ⟨hh7, hm4⟩
          refine V.region ?_
          refine VO.cons rfl (V1.move rfl rfl rfl (ltb rfl) ?_)
          refine VO.cons rfl (V1.move rfl rfl rfl (ltb rfl) ?_)
          refine VO.cons rfl (V1.indexI rfl rfl esz_27 rfl rfl hh7 (ltb rfl) ?_)
          refine VO.cons rfl (V1.fieldPin rfl rfl fo_52_3 rfl (ltb rfl) ?_)
          refine VO.cons rfl (V1.loadPin rfl rfl tyk_3 rfl rfl (ltb rfl) ?_)
          refine VO.cons rfl (V1.assign rfl rfl rfl (ltb rfl) ?_)
          refine VO.nil ?_
          exact ⟨((list.getD (Int.toNat k) default).Day, ()), Option.some.inj hm4, Keeps.mk (ks := [0]) rfl ⟨rfl, rfl, rfl, rfl, rfl, rfl, rfl, rfl, rfl, trivial⟩ (⟨_, _, rfl, rfl, rfl⟩) rfl⟩
         ·
          replace hm4 := cond_f hc4 hm4
          refine V.skip ?_
          exact ⟨(end_0, ()), Option.some.inj hm4, Keeps.mk (ks := [0]) rfl ⟨rfl, rfl, rfl, rfl, rfl, rfl, rfl, rfl, rfl, trivial⟩ (⟨_, _, rfl, rfl, rfl⟩) rfl⟩
        ·
         rintro ⟨end_1, _⟩ rfl
         try dsimp only at hm3
         refine V.region ?_
         refine VO.cons rfl (V1.move rfl rfl rfl (ltb rfl) ?_)
         refine VO.cons rfl (V1.int rfl rfl rfl rfl rfl (ltb rfl) ?_)
         refine VO.cons rfl (V1.assign rfl rfl rfl (ltb rfl) ?_)
         refine VO.nil ?_
         exact ⟨(m1, (end_1, (IntKind.i64.wrap (k - (1 : Int)))), ()), hl3 _ (Option.some.inj hm3).symm, Nat.lt_succ_self _, Keeps.mk (ks := [0]) rfl ⟨rfl, rfl, rfl, rfl, rfl, rfl, rfl, rfl, rfl, trivial⟩ (⟨_, _, rfl, rfl, rfl⟩) rfl⟩
       ·
        replace hm3 := cond_f hc3 hm3
        refine V.exit ?_
        obtain rfl := hr3 _ (Option.some.inj hm3).symm
        exact ⟨(end_0, ()), rfl, Keeps.mk (ks := [0]) rfl ⟨rfl, rfl, rfl, rfl, rfl, rfl, rfl, rfl, trivial⟩ (⟨_, _, rfl, rfl, rfl⟩) rfl⟩
      ·
       rintro ⟨end_, _⟩ rfl
       try dsimp only at hm2
       refine V.region ?_
       refine VO.cons rfl (V1.move rfl rfl rfl (ltb rfl) ?_)
       refine VO.cons rfl (V1.move rfl rfl rfl (ltb rfl) ?_)
       refine VO.cons rfl (V1.int rfl rfl rfl rfl rfl (ltb rfl) ?_)
       refine VO.cons rfl (V1.fieldRef rfl rfl fo_52_3 rfl (ltb rfl) ?_)
       refine VO.cons rfl (V1.loadRef (k := 0) rfl rfl tyk_3 rfl rfl rfl rfl rfl (ltb rfl) ?_)
       refine VO.cons rfl (V1.int rfl rfl rfl rfl rfl (ltb rfl) ?_)
       refine VO.cons rfl (V1.assign rfl rfl rfl (ltb rfl) ?_)
       refine VO.nil ?_
       exact ⟨((IntKind.i64.wrap ((IntKind.i64.wrap (sum_0 + end_)) - ((list.getD (Int.toNat i) default).Day))), ()), Option.some.inj hm2, Keeps.mk (ks := []) rfl ⟨rfl, rfl, rfl, rfl, rfl, rfl, trivial⟩ (rfl) rfl⟩
    ·
     rintro ⟨sum_1, _⟩ rfl
     try dsimp only at hm1
     refine V.region ?_
     refine VO.cons rfl (V1.move rfl rfl rfl (ltb rfl) ?_)
     refine VO.cons rfl (V1.int rfl rfl rfl rfl rfl (ltb rfl) ?_)
     refine VO.cons rfl (V1.assign rfl rfl rfl (ltb rfl) ?_)
     refine VO.nil ?_
     exact ⟨(m0, (sum_1, (IntKind.i64.wrap (i + (1 : Int)))), ()), hl1 _ (Option.some.inj hm1).symm, Nat.lt_succ_self _, Keeps.mk (ks := []) rfl ⟨rfl, rfl, rfl, rfl, rfl, rfl, trivial⟩ (rfl) rfl⟩
   ·
    replace hm1 := cond_f hc1 hm1
    refine V.exit ?_
    obtain rfl := hr1 _ (Option.some.inj hm1).symm
    exact ⟨(sum_0, ()), rfl, Keeps.mk (ks := []) rfl ⟨rfl, trivial⟩ (rfl) rfl⟩
  ·
   rintro ⟨sum_, _⟩ rfl
   try dsimp only at hm0
   refine V.seq ?_
   refine V.region ?_
   refine VO.cons rfl (V1.move rfl rfl rfl (ltb rfl) ?_)
   refine VO.cons rfl (V1.assign rfl rfl rfl (ltb rfl) ?_)
   refine VO.cons rfl (V1.assign rfl rfl rfl (ltb rfl) ?_)
   refine VO.nil ?_
   refine V.ret ?_
   obtain rfl := Option.some.inj hm0
   exact ⟨_, [], ⟨_, _, rfl, rfl, ⟨_, _, rfl, rfl, rfl⟩⟩, List.nil_sublist _, rfl, rfl⟩

theorem ok_laws_FnSeals {ρ0 rn : Nat} {code : List Int} {r : Bool} (h : M.laws_FnSeals code = some r) : Does Try.prog 8 [.vl ρ0 1 (List.map encU8 code)] [] rn (fun x H => x = .bool r ∧ H = []) := by
 have hm0 := h; clear h; unfold M.laws_FnSeals at hm0
 try dsimp only at hm0
 refine Does.intro (N := 251) Try.func8 rfl rfl rfl rfl ?_
 intro w0 S0
 refine V.seq ?_
 refine V.region ?_
 refine VO.cons rfl (V1.assign rfl rfl rfl (ltb rfl) ?_)
 refine VO.nil ?_
 refine V.seq ?_
 refine V.seq ?_
 replace hm0 := bindO hm0; rcases hm0 with ⟨y0, hh0, hm0⟩
 refine V.region ?_
 refine VO.cons rfl (V1.move rfl rfl rfl (ltb rfl) ?_)
 refine VO.cons rfl (V1.call rfl rfl rfl cok_29 rfl (ok_laws_rBig hh0) rfl (ltb rfl) ?_)
 rintro _ _ ⟨rfl, rfl⟩
 refine VO.nil ?_
 refine V.cond rfl (fun hc0 => ?_) (fun hc0 => ?_)
 ·
  replace hm0 := cond_t hc0 hm0
  refine V.seq ?_
  refine V.region ?_
  refine VO.cons rfl (V1.assign rfl rfl rfl (ltb rfl) ?_)
  refine VO.nil ?_
  refine V.ret ?_
  obtain rfl := Option.some.inj hm0
  exact ⟨_, [], ⟨_, _, rfl, rfl, rfl⟩, List.nil_sublist _, rfl, rfl⟩
 ·
  replace hm0 := cond_f hc0 hm0
  refine V.skip ?_
  refine V.seq ?_
  replace hm0 := bindO hm0; rcases hm0 with ⟨y1, hh1, hm0⟩
  refine V.region ?_
  refine VO.cons rfl (V1.move rfl rfl rfl (ltb rfl) ?_)
  refine VO.cons rfl (V1.call rfl rfl rfl cok_45 rfl (ok_spec_DrawBrokenSeals hh1) rfl (ltb rfl) ?_)
  rintro _ _ ⟨b0, rfl, rfl⟩
  refine VO.weakenK (Keeps.freezeG 0 rn [(39, .vl rn 6 (List.map encHand y1))] [] (f := encHand) (l := y1) rfl (fun _ => rfl) ⟨⟨_, rfl, .here⟩, trivial⟩ rfl rfl iNil) ?_
  refine VO.cons rfl (V1.assign rfl rfl rfl (ltb rfl) ?_)
  refine VO.nil ?_
  refine V.keep 251 [0, 3] [] (E0 := [(0, .vl ρ0 1 (List.map encU8 code)), (3, .vl rn 6 (List.map encHand y1))]) (H0 := []) rfl (⟨_, _, rfl, rfl, ⟨_, _, rfl, rfl, rfl⟩⟩) (rfl) rfl ?_
  refine V.seq ?_
  replace hm0 := bindO hm0; rcases hm0 with ⟨y2, hh2, hm0⟩
  refine V.region ?_
  refine VO.cons rfl (V1.move rfl rfl rfl (ltb rfl) ?_)
  refine VO.cons rfl (V1.permK (V1.call rfl rfl rfl cok_25 rfl (ok_impl_BrokenSeals hh2) rfl (ltb rfl) ?_))
  rintro _ _ ⟨ob0, hob0, rfl, rfl⟩
  refine ⟨_, ?_, Keeps.optBack (n := 1) (ob := ob0) (xs := List.map (encL rn 1 encInt) y2.1) (H1 := []) (H2 := []) rfl⟩
  refine VO.cons rfl (V1.move rfl rfl rfl (ltb rfl) ?_)
  refine VO.cons rfl (V1.extract rfl rfl rfl rfl (ltb rfl) ?_)
  refine VO.weakenK (Keeps.optFront (n := 1) (ob := ob0) (xs := List.map (encL rn 1 encInt) y2.1) (H1 := []) rfl) ?_
  refine VO.weakenK (Keeps.optVl 43 [] rn (f := (encL rn 1 encInt)) (l := y2.1) (ob := ob0) (H1 := []) hob0 rfl rfl ⟨rfl, trivial⟩ (fun _ => rfl) rfl iNil) ?_
  refine VO.cons rfl (V1.extract rfl rfl rfl rfl (ltb rfl) ?_)
  refine VO.cons rfl (V1.assign rfl rfl rfl (ltb rfl) ?_)
  refine VO.cons rfl (V1.assign rfl rfl rfl (ltb rfl) ?_)
  refine VO.nil ?_
  refine V.keep 251 [0, 3, 4, 5] [] (E0 := [(0, .vl ρ0 1 (List.map encU8 code)), (3, .vl rn 6 (List.map encHand y1)), (4, .vl rn 1 (List.map (encL rn 1 encInt) y2.1)), (5, .bool y2.2)]) (H0 := []) rfl (⟨_, _, rfl, rfl, ⟨_, _, rfl, rfl, ⟨_, _, rfl, rfl, ⟨_, _, rfl, rfl, rfl⟩⟩⟩⟩) (rfl) rfl ?_
  refine V.seq ?_
  refine V.seq ?_
  replace hm0 := bindO hm0; rcases hm0 with ⟨y3, hh3, hm0⟩
  refine V.region ?_
  refine VO.cons rfl (V1.move rfl rfl rfl (ltb rfl) ?_)
  refine VO.cons rfl (V1.call rfl rfl rfl cok_24 rfl (ok_spec_BrokenSeals hh3) rfl (ltb rfl) ?_)
  rintro _ _ ⟨b1, rfl, rfl⟩
  refine VO.cons rfl (V1.move rfl rfl rfl (ltb rfl) ?_)
  refine VO.cons rfl (V1.extract rfl rfl rfl rfl (ltb rfl) ?_)
  refine VO.weakenK (Keeps.freezeG 0 rn [(48, .vl rn 1 (List.map (encL rn 1 encInt) y3.1))] [] (f := (encL rn 1 encInt)) (l := y3.1) rfl (fun _ => rfl) ⟨⟨_, rfl, .here⟩, trivial⟩ rfl rfl iNil) ?_
  refine VO.cons rfl (V1.extract rfl rfl rfl rfl (ltb rfl) ?_)
  refine VO.cons rfl (V1.assign rfl rfl rfl (ltb rfl) ?_)
  refine VO.cons rfl (V1.assign rfl rfl rfl (ltb rfl) ?_)
  refine VO.nil ?_
  refine V.keep 251 [0, 3, 4, 5, 6, 7] [] (E0 := [(0, .vl ρ0 1 (List.map encU8 code)), (3, .vl rn 6 (List.map encHand y1)), (4, .vl rn 1 (List.map (encL rn 1 encInt) y2.1)), (5, .bool y2.2), (6, .vl rn 1 (List.map (encL rn 1 encInt) y3.1)), (7, .bool y3.2)]) (H0 := []) rfl (⟨_, _, rfl, rfl, ⟨_, _, rfl, rfl, ⟨_, _, rfl, rfl, ⟨_, _, rfl, rfl, ⟨_, _, rfl, rfl, ⟨_, _, rfl, rfl, rfl⟩⟩⟩⟩⟩⟩) (rfl) rfl ?_
  refine V.seq ?_
  replace hm0 := bindO hm0; rcases hm0 with ⟨y4, hh4, hm0⟩
  refine V.region ?_
  refine VO.cons rfl (V1.move rfl rfl rfl (ltb rfl) ?_)
  refine VO.cons rfl (V1.move rfl rfl rfl (ltb rfl) ?_)
  refine VO.cons rfl (V1.boolNeq rfl rfl und_4 rfl rfl (ltb rfl) ?_)
  refine VO.cons rfl (V1.move rfl rfl rfl (ltb rfl) ?_)
  apply VO.or (n := 4) rfl rfl rfl rfl rfl rfl (ltb rfl) (.none rfl)
  ·
   intro hg0
   refine VO.step (.some rfl rfl rfl) (V1.move rfl rfl rfl (ltb rfl) ?_)
   refine VO.step (.some rfl rfl rfl) (V1.move rfl rfl rfl (ltb rfl) ?_)
   refine VO.step (.some rfl rfl rfl) (V1.call rfl rfl rfl cok_46 rfl (ok_laws_rTable (cond_f hg0 hh4)) rfl (ltb rfl) ?_)
   rintro _ _ ⟨rfl, rfl⟩
   refine VO.step (.some rfl rfl rfl) (V1.not rfl rfl rfl (ltb rfl) ?_)
   exact VO.nil ⟨rfl, rfl, rfl, rfl, .inr ⟨rfl, .inr ⟨rfl, .inr ⟨rfl, .inr ⟨rfl, .inr ⟨rfl, .inl rfl⟩⟩⟩⟩⟩⟩
  refine VO.nil ?_
  refine V.keep 251 [0, 3, 4, 5, 58] [] (E0 := [(0, .vl ρ0 1 (List.map encU8 code)), (3, .vl rn 6 (List.map encHand y1)), (4, .vl rn 1 (List.map (encL rn 1 encInt) y2.1)), (5, .bool y2.2), (58, .bool ((!(y2.2 == y3.2)) || (!y4)))]) (H0 := []) rfl (⟨_, _, rfl, rfl, ⟨_, _, rfl, rfl, ⟨_, _, rfl, rfl, ⟨_, _, rfl, rfl, ⟨_, _, rfl, rfl, rfl⟩⟩⟩⟩⟩) (rfl) rfl ?_
  refine V.cond rfl (fun hc1 => ?_) (fun hc1 => ?_)
  ·
   replace hm0 := cond_t hc1 hm0
   refine V.seq ?_
   refine V.region ?_
   refine VO.cons rfl (V1.assign rfl rfl rfl (ltb rfl) ?_)
   refine VO.nil ?_
   refine V.ret ?_
   obtain rfl := Option.some.inj hm0
   exact ⟨_, [], ⟨_, _, rfl, rfl, rfl⟩, List.nil_sublist _, rfl, rfl⟩
  ·
   replace hm0 := cond_f hc1 hm0
   refine V.skip ?_
   refine V.seq ?_
   replace hm0 := bindO hm0; rcases hm0 with ⟨y5, hh5, hm0⟩
   refine V.region ?_
   refine VO.cons rfl (V1.move rfl rfl rfl (ltb rfl) ?_)
   refine VO.cons rfl (V1.permK (V1.call rfl rfl rfl cok_21 rfl (ok_impl_NotWhole hh5) rfl (ltb rfl) ?_))
   rintro _ _ ⟨ob1, hob1, rfl, rfl⟩
   refine ⟨_, ?_, Keeps.optBack (n := 1) (ob := ob1) (xs := List.map encInt y5.1) (H1 := []) (H2 := []) rfl⟩
   refine VO.cons rfl (V1.move rfl rfl rfl (ltb rfl) ?_)
   refine VO.cons rfl (V1.extract rfl rfl rfl rfl (ltb rfl) ?_)
   refine VO.weakenK (Keeps.optFront (n := 1) (ob := ob1) (xs := List.map encInt y5.1) (H1 := []) rfl) ?_
   refine VO.weakenK (Keeps.optVl 62 [] rn (f := encInt) (l := y5.1) (ob := ob1) (H1 := []) hob1 rfl rfl ⟨rfl, trivial⟩ (fun _ => rfl) rfl iNil) ?_
   refine VO.cons rfl (V1.extract rfl rfl rfl rfl (ltb rfl) ?_)
   refine VO.cons rfl (V1.assign rfl rfl rfl (ltb rfl) ?_)
   refine VO.cons rfl (V1.assign rfl rfl rfl (ltb rfl) ?_)
   refine VO.nil ?_
   refine V.keep 251 [0, 3, 4, 5, 8, 9] [] (E0 := [(0, .vl ρ0 1 (List.map encU8 code)), (3, .vl rn 6 (List.map encHand y1)), (4, .vl rn 1 (List.map (encL rn 1 encInt) y2.1)), (5, .bool y2.2), (8, .vl rn 1 (List.map encInt y5.1)), (9, .bool y5.2)]) (H0 := []) rfl (⟨_, _, rfl, rfl, ⟨_, _, rfl, rfl, ⟨_, _, rfl, rfl, ⟨_, _, rfl, rfl, ⟨_, _, rfl, rfl, ⟨_, _, rfl, rfl, rfl⟩⟩⟩⟩⟩⟩) (rfl) rfl ?_
   refine V.seq ?_
   refine V.seq ?_
   replace hm0 := bindO hm0; rcases hm0 with ⟨y6, hh6, hm0⟩
   refine V.region ?_
   refine VO.cons rfl (V1.move rfl rfl rfl (ltb rfl) ?_)
   refine VO.cons rfl (V1.call rfl rfl rfl cok_20 rfl (ok_spec_NotWhole hh6) rfl (ltb rfl) ?_)
   rintro _ _ ⟨rfl, rfl⟩
   refine VO.cons rfl (V1.move rfl rfl rfl (ltb rfl) ?_)
   refine VO.cons rfl (V1.extract rfl rfl rfl rfl (ltb rfl) ?_)
   refine VO.cons rfl (V1.extract rfl rfl rfl rfl (ltb rfl) ?_)
   refine VO.cons rfl (V1.assign rfl rfl rfl (ltb rfl) ?_)
   refine VO.cons rfl (V1.assign rfl rfl rfl (ltb rfl) ?_)
   refine VO.nil ?_
   refine V.keep 251 [0, 3, 4, 5, 8, 9, 10, 11] [] (E0 := [(0, .vl ρ0 1 (List.map encU8 code)), (3, .vl rn 6 (List.map encHand y1)), (4, .vl rn 1 (List.map (encL rn 1 encInt) y2.1)), (5, .bool y2.2), (8, .vl rn 1 (List.map encInt y5.1)), (9, .bool y5.2), (10, .vl rn 1 (List.map encInt y6.1)), (11, .bool y6.2)]) (H0 := []) rfl (⟨_, _, rfl, rfl, ⟨_, _, rfl, rfl, ⟨_, _, rfl, rfl, ⟨_, _, rfl, rfl, ⟨_, _, rfl, rfl, ⟨_, _, rfl, rfl, ⟨_, _, rfl, rfl, ⟨_, _, rfl, rfl, rfl⟩⟩⟩⟩⟩⟩⟩⟩) (rfl) rfl ?_
   refine V.seq ?_
   replace hm0 := bindO hm0; rcases hm0 with ⟨y7, hh7, hm0⟩
   replace hm0 := bindO hm0; rcases hm0 with ⟨y8, hh8, hm0⟩
   refine V.region ?_
   refine VO.cons rfl (V1.move rfl rfl rfl (ltb rfl) ?_)
   refine VO.cons rfl (V1.move rfl rfl rfl (ltb rfl) ?_)
   refine VO.cons rfl (V1.boolNeq rfl rfl und_4 rfl rfl (ltb rfl) ?_)
   refine VO.cons rfl (V1.move rfl rfl rfl (ltb rfl) ?_)
   apply VO.or (n := 3) rfl rfl rfl rfl rfl rfl (ltb rfl) (.none rfl)
   ·
    intro hg1
    refine VO.step (.some rfl rfl rfl) (V1.move rfl rfl rfl (ltb rfl) ?_)
    refine VO.step (.some rfl rfl rfl) (V1.move rfl rfl rfl (ltb rfl) ?_)
    refine VO.step (.some rfl rfl rfl) (V1.boolNeq rfl rfl und_4 rfl rfl (ltb rfl) ?_)
    exact VO.nil ⟨rfl, rfl, rfl, rfl, .inr ⟨rfl, .inr ⟨rfl, .inr ⟨rfl, .inr ⟨rfl, .inl rfl⟩⟩⟩⟩⟩
   refine VO.cons rfl (V1.move rfl rfl rfl (ltb rfl) ?_)
   apply VO.or (n := 4) rfl rfl rfl rfl rfl rfl (ltb rfl) (.none rfl)
   ·
    intro hg2
    refine VO.step (.some rfl rfl rfl) (V1.move rfl rfl rfl (ltb rfl) ?_)
    refine VO.step (.some rfl rfl rfl) (V1.move rfl rfl rfl (ltb rfl) ?_)
    refine VO.step (.some rfl rfl rfl) (V1.call rfl rfl rfl cok_33 rfl (ok_laws_rInts (cond_f hg2 hh7)) rfl (ltb rfl) ?_)
    rintro _ _ ⟨rfl, rfl⟩
    refine VO.step (.some rfl rfl rfl) (V1.not rfl rfl rfl (ltb rfl) ?_)
    exact VO.nil ⟨rfl, rfl, rfl, rfl, .inr ⟨rfl, .inr ⟨rfl, .inr ⟨rfl, .inr ⟨rfl, .inr ⟨rfl, .inl rfl⟩⟩⟩⟩⟩⟩
   refine VO.cons rfl (V1.move rfl rfl rfl (ltb rfl) ?_)
   apply VO.or (n := 4) rfl rfl rfl rfl rfl rfl (ltb rfl) (.none rfl)
   ·
    intro hg3
    refine VO.step (.some rfl rfl rfl) (V1.move rfl rfl rfl (ltb rfl) ?_)
    refine VO.step (.some rfl rfl rfl) (V1.move rfl rfl rfl (ltb rfl) ?_)
    refine VO.step (.some rfl rfl rfl) (V1.call rfl rfl rfl cok_42 rfl (ok_impl_IsCustody (cond_f hg3 hh8)) rfl (ltb rfl) ?_)
    rintro _ _ ⟨rfl, rfl⟩
    refine VO.step (.some rfl rfl rfl) (V1.boolNeq rfl rfl und_4 rfl rfl (ltb rfl) ?_)
    exact VO.nil ⟨rfl, rfl, rfl, rfl, .inr ⟨rfl, .inr ⟨rfl, .inr ⟨rfl, .inr ⟨rfl, .inr ⟨rfl, .inl rfl⟩⟩⟩⟩⟩⟩
   refine VO.nil ?_
   refine V.keep 251 [0, 3, 4, 8, 88] [] (E0 := [(0, .vl ρ0 1 (List.map encU8 code)), (3, .vl rn 6 (List.map encHand y1)), (4, .vl rn 1 (List.map (encL rn 1 encInt) y2.1)), (8, .vl rn 1 (List.map encInt y5.1)), (88, .bool ((((!(y5.2 == y6.2)) || (!(y5.2 == y2.2))) || (!y7)) || (!(y5.2 == y8))))]) (H0 := []) rfl (⟨_, _, rfl, rfl, ⟨_, _, rfl, rfl, ⟨_, _, rfl, rfl, ⟨_, _, rfl, rfl, ⟨_, _, rfl, rfl, rfl⟩⟩⟩⟩⟩) (rfl) rfl ?_
   refine V.cond rfl (fun hc2 => ?_) (fun hc2 => ?_)
   ·
    replace hm0 := cond_t hc2 hm0
    refine V.seq ?_
    refine V.region ?_
    refine VO.cons rfl (V1.assign rfl rfl rfl (ltb rfl) ?_)
    refine VO.nil ?_
    refine V.ret ?_
    obtain rfl := Option.some.inj hm0
    exact ⟨_, [], ⟨_, _, rfl, rfl, rfl⟩, List.nil_sublist _, rfl, rfl⟩
   ·
    replace hm0 := cond_f hc2 hm0
    refine V.skip ?_
    refine V.seq ?_
    refine V.seq ?_
    refine V.region ?_
    refine VO.cons rfl (V1.assign rfl rfl rfl (ltb rfl) ?_)
    refine VO.nil ?_
    replace hm0 := bindO hm0; rcases hm0 with ⟨e0, he1, hm0⟩
    refine V.cutT (D := (Unit) × (Unit)) (fun ⟨_, _⟩ => ⟨251, [(0, .vl ρ0 1 (List.map encU8 code))], []⟩) (fun ⟨_, _⟩ => (.inl () = e0)) ?_ ?_
    ·
     refine V.block ?_
     refine V.keep 251 [12, 0, 3, 4, 8] [] (E0 := [(12, .int .i64 (0 : Int)), (0, .vl ρ0 1 (List.map encU8 code)), (3, .vl rn 6 (List.map encHand y1)), (4, .vl rn 1 (List.map (encL rn 1 encInt) y2.1)), (8, .vl rn 1 (List.map encInt y5.1))]) (H0 := []) rfl (⟨_, _, rfl, rfl, ⟨_, _, rfl, rfl, ⟨_, _, rfl, rfl, ⟨_, _, rfl, rfl, ⟨_, _, rfl, rfl, rfl⟩⟩⟩⟩⟩) (rfl) rfl ?_
     refine V.loopE (D := Nat × (Int) × (Unit)) (fun ⟨n0, i, _⟩ => [(12, .int .i64 i)]) (fun ⟨n0, i, _⟩ => []) (fun ⟨n0, i, _⟩ => loopO (M.laws_FnSeals_l0 y1 y2 y5) n0 i = some e0) (fun ⟨n0, _, _⟩ => n0) (rounds, (0 : Int), ()) rfl he1 ?_
     rintro ⟨n0, i, _⟩ hP0
     obtain ⟨m0, y9, rfl, hm1, hl1, hr1⟩ := loop_head hP0
     unfold M.laws_FnSeals_l0 at hm1; dsimp only at hm1
     show V _ _ _ ⟨251, [(12, .int .i64 i), (0, .vl ρ0 1 (List.map encU8 code)), (3, .vl rn 6 (List.map encHand y1)), (4, .vl rn 1 (List.map (encL rn 1 encInt) y2.1)), (8, .vl rn 1 (List.map encInt y5.1))], []⟩
     refine V.seq ?_
     refine V.seq ?_
     refine V.region ?_
     refine VO.cons rfl (V1.move rfl rfl rfl (ltb rfl) ?_)
     refine VO.cons rfl (V1.move rfl rfl rfl (ltb rfl) ?_)
     refine VO.cons rfl (V1.lenMap rfl rfl rfl rfl rfl rfl isl_38 (ltb rfl) ?_)
     refine VO.cons rfl (V1.int rfl rfl rfl rfl rfl (ltb rfl) ?_)
     refine VO.nil ?_
     refine V.cond rfl (fun hc3 => ?_) (fun hc3 => ?_)
     ·
      replace hm1 := cond_t hc3 hm1
      refine V.skip ?_
      refine V.keep 251 [0, 3, 4, 8, 12] [] (E0 := [(0, .vl ρ0 1 (List.map encU8 code)), (3, .vl rn 6 (List.map encHand y1)), (4, .vl rn 1 (List.map (encL rn 1 encInt) y2.1)), (8, .vl rn 1 (List.map encInt y5.1)), (12, .int .i64 i)]) (H0 := []) rfl (⟨_, _, rfl, rfl, ⟨_, _, rfl, rfl, ⟨_, _, rfl, rfl, ⟨_, _, rfl, rfl, ⟨_, _, rfl, rfl, rfl⟩⟩⟩⟩⟩) (rfl) rfl ?_
      refine V.seq ?_
      refine V.block ?_
      refine V.seq ?_
      replace hm1 := asrt_some hm1; rcases hm1 with ⟨hh9, hm1⟩
      replace hm1 := asrt_some hm1; rcases hm1 with ⟨hh10, hm1⟩
      replace hm1 := asrt_some hm1; rcases hm1 with ⟨hh11, hm1⟩
      replace hm1 := bindO hm1; rcases hm1 with ⟨y10, hh12, hm1⟩
      refine V.region ?_
      refine VO.cons rfl (V1.move rfl rfl rfl (ltb rfl) ?_)
      refine VO.cons rfl (V1.move rfl rfl rfl (ltb rfl) ?_)
      refine VO.cons rfl (V1.move rfl rfl rfl (ltb rfl) ?_)
      refine VO.cons rfl (V1.move rfl rfl rfl (ltb rfl) ?_)
      refine VO.cons rfl (V1.indexI rfl rfl esz_38 rfl rfl hh9 (ltb rfl) ?_)
      refine VO.cons rfl (V1.loadPin rfl rfl tyk_24 rfl rfl (ltb rfl) ?_)
      refine VO.cons rfl (V1.indexI rfl rfl esz_24 rfl rfl hh10 (ltb rfl) ?_)
      refine VO.cons rfl (V1.loadPin rfl rfl tyk_3 rfl rfl (ltb rfl) ?_)
      refine VO.cons rfl (V1.indexI rfl rfl esz_27 rfl rfl hh11 (ltb rfl) ?_)
      refine VO.cons rfl (V1.fieldPin rfl rfl fo_52_0 rfl (ltb rfl) ?_)
      refine VO.cons rfl (V1.loadPin rfl rfl tyk_3 rfl rfl (ltb rfl) ?_)
      refine VO.cons rfl (V1.call rfl rfl rfl cok_36 rfl (ok_laws_rHas hh12) rfl (ltb rfl) ?_)
      rintro _ _ ⟨rfl, rfl⟩
      refine VO.cons rfl (V1.not rfl rfl rfl (ltb rfl) ?_)
      refine VO.nil ?_
      refine V.keep 251 [0, 3, 4, 8, 12, 107] [] (E0 := [(0, .vl ρ0 1 (List.map encU8 code)), (3, .vl rn 6 (List.map encHand y1)), (4, .vl rn 1 (List.map (encL rn 1 encInt) y2.1)), (8, .vl rn 1 (List.map encInt y5.1)), (12, .int .i64 i), (107, .bool (!y10))]) (H0 := []) rfl (⟨_, _, rfl, rfl, ⟨_, _, rfl, rfl, ⟨_, _, rfl, rfl, ⟨_, _, rfl, rfl, ⟨_, _, rfl, rfl, ⟨_, _, rfl, rfl, rfl⟩⟩⟩⟩⟩⟩) (rfl) rfl ?_
      refine V.cond rfl (fun hc4 => ?_) (fun hc4 => ?_)
      ·
       replace hm1 := cond_t hc4 hm1
       refine V.seq ?_
       refine V.region ?_
       refine VO.cons rfl (V1.assign rfl rfl rfl (ltb rfl) ?_)
       refine VO.nil ?_
       refine V.ret ?_
       obtain rfl := hr1 _ (Option.some.inj hm1).symm
       change some _ = some _ at hm0
       obtain rfl := Option.some.inj hm0
       exact ⟨_, [], ⟨_, _, rfl, rfl, rfl⟩, List.nil_sublist _, rfl, rfl⟩
      ·
       replace hm1 := cond_f hc4 hm1
       refine V.skip ?_
       refine V.region ?_
       refine VO.cons rfl (V1.move rfl rfl rfl (ltb rfl) ?_)
       refine VO.cons rfl (V1.int rfl rfl rfl rfl rfl (ltb rfl) ?_)
       refine VO.cons rfl (V1.assign rfl rfl rfl (ltb rfl) ?_)
       refine VO.nil ?_
       exact ⟨(m0, (IntKind.i64.wrap (i + (1 : Int))), ()), hl1 _ (Option.some.inj hm1).symm, Nat.lt_succ_self _, Keeps.mk (ks := []) rfl ⟨rfl, rfl, rfl, rfl, rfl, trivial⟩ (rfl) rfl⟩
     ·
      replace hm1 := cond_f hc3 hm1
      refine V.exit ?_
      obtain rfl := hr1 _ (Option.some.inj hm1).symm
      exact ⟨((), ()), rfl, Keeps.mk (ks := []) rfl ⟨rfl, trivial⟩ (rfl) rfl⟩
    ·
     rintro ⟨_, _⟩ rfl
     try dsimp only at hm0
     refine V.seq ?_
     replace hm0 := bindO hm0; rcases hm0 with ⟨y11, hh13, hm0⟩
     refine V.region ?_
     refine VO.cons rfl (V1.move rfl rfl rfl (ltb rfl) ?_)
     refine VO.cons rfl (V1.call rfl rfl rfl cok_47 rfl (ok_spec_DrawSuspects hh13) rfl (ltb rfl) ?_)
     rintro _ _ ⟨b2, rfl, rfl⟩
     refine VO.cons rfl (V1.move rfl rfl rfl (ltb rfl) ?_)
     refine VO.cons rfl (V1.extract rfl rfl rfl rfl (ltb rfl) ?_)
     refine VO.weakenK (Keeps.freezeG 0 rn [(111, .vl rn 6 (List.map encHand y11.1))] [] (f := encHand) (l := y11.1) rfl (fun _ => rfl) ⟨⟨_, rfl, .here⟩, trivial⟩ rfl rfl iNil) ?_
     refine VO.cons rfl (V1.extract rfl rfl rfl rfl (ltb rfl) ?_)
     refine VO.cons rfl (V1.assign rfl rfl rfl (ltb rfl) ?_)
     refine VO.cons rfl (V1.assign rfl rfl rfl (ltb rfl) ?_)
     refine VO.nil ?_
     refine V.keep 251 [0, 13, 14] [] (E0 := [(0, .vl ρ0 1 (List.map encU8 code)), (13, .vl rn 6 (List.map encHand y11.1)), (14, .int .i64 y11.2)]) (H0 := []) rfl (⟨_, _, rfl, rfl, ⟨_, _, rfl, rfl, ⟨_, _, rfl, rfl, rfl⟩⟩⟩) (rfl) rfl ?_
     refine V.seq ?_
     replace hm0 := bindO hm0; rcases hm0 with ⟨y12, hh14, hm0⟩
     refine V.region ?_
     refine VO.cons rfl (V1.move rfl rfl rfl (ltb rfl) ?_)
     refine VO.cons rfl (V1.move rfl rfl rfl (ltb rfl) ?_)
     refine VO.cons rfl (V1.permK (V1.call rfl rfl rfl cok_23 rfl (ok_impl_Suspects hh14) rfl (ltb rfl) ?_))
     rintro _ _ ⟨ob2, hob2, rfl, rfl⟩
     refine ⟨_, ?_, Keeps.optBack (n := 1) (ob := ob2) (xs := List.map encInt y12.1) (H1 := []) (H2 := []) rfl⟩
     refine VO.cons rfl (V1.move rfl rfl rfl (ltb rfl) ?_)
     refine VO.cons rfl (V1.extract rfl rfl rfl rfl (ltb rfl) ?_)
     refine VO.weakenK (Keeps.optFront (n := 1) (ob := ob2) (xs := List.map encInt y12.1) (H1 := []) rfl) ?_
     refine VO.weakenK (Keeps.optVl 117 [] rn (f := encInt) (l := y12.1) (ob := ob2) (H1 := []) hob2 rfl rfl ⟨rfl, trivial⟩ (fun _ => rfl) rfl iNil) ?_
     refine VO.cons rfl (V1.extract rfl rfl rfl rfl (ltb rfl) ?_)
     refine VO.cons rfl (V1.assign rfl rfl rfl (ltb rfl) ?_)
     refine VO.cons rfl (V1.assign rfl rfl rfl (ltb rfl) ?_)
     refine VO.nil ?_
     refine V.keep 251 [0, 13, 14, 15, 16] [] (E0 := [(0, .vl ρ0 1 (List.map encU8 code)), (13, .vl rn 6 (List.map encHand y11.1)), (14, .int .i64 y11.2), (15, .vl rn 1 (List.map encInt y12.1)), (16, .bool y12.2)]) (H0 := []) rfl (⟨_, _, rfl, rfl, ⟨_, _, rfl, rfl, ⟨_, _, rfl, rfl, ⟨_, _, rfl, rfl, ⟨_, _, rfl, rfl, rfl⟩⟩⟩⟩⟩) (rfl) rfl ?_
     refine V.seq ?_
     refine V.seq ?_
     replace hm0 := bindO hm0; rcases hm0 with ⟨y13, hh15, hm0⟩
     refine V.region ?_
     refine VO.cons rfl (V1.move rfl rfl rfl (ltb rfl) ?_)
     refine VO.cons rfl (V1.move rfl rfl rfl (ltb rfl) ?_)
     refine VO.cons rfl (V1.call rfl rfl rfl cok_22 rfl (ok_spec_Suspects hh15) rfl (ltb rfl) ?_)
     rintro _ _ ⟨rfl, rfl⟩
     refine VO.cons rfl (V1.move rfl rfl rfl (ltb rfl) ?_)
     refine VO.cons rfl (V1.extract rfl rfl rfl rfl (ltb rfl) ?_)
     refine VO.cons rfl (V1.extract rfl rfl rfl rfl (ltb rfl) ?_)
     refine VO.cons rfl (V1.assign rfl rfl rfl (ltb rfl) ?_)
     refine VO.cons rfl (V1.assign rfl rfl rfl (ltb rfl) ?_)
     refine VO.nil ?_
     refine V.keep 251 [0, 13, 14, 15, 16, 17, 18] [] (E0 := [(0, .vl ρ0 1 (List.map encU8 code)), (13, .vl rn 6 (List.map encHand y11.1)), (14, .int .i64 y11.2), (15, .vl rn 1 (List.map encInt y12.1)), (16, .bool y12.2), (17, .vl rn 1 (List.map encInt y13.1)), (18, .bool y13.2)]) (H0 := []) rfl (⟨_, _, rfl, rfl, ⟨_, _, rfl, rfl, ⟨_, _, rfl, rfl, ⟨_, _, rfl, rfl, ⟨_, _, rfl, rfl, ⟨_, _, rfl, rfl, ⟨_, _, rfl, rfl, rfl⟩⟩⟩⟩⟩⟩⟩) (rfl) rfl ?_
     refine V.seq ?_
     replace hm0 := bindO hm0; rcases hm0 with ⟨y14, hh16, hm0⟩
     refine V.region ?_
     refine VO.cons rfl (V1.move rfl rfl rfl (ltb rfl) ?_)
     refine VO.cons rfl (V1.move rfl rfl rfl (ltb rfl) ?_)
     refine VO.cons rfl (V1.boolNeq rfl rfl und_4 rfl rfl (ltb rfl) ?_)
     refine VO.cons rfl (V1.move rfl rfl rfl (ltb rfl) ?_)
     apply VO.or (n := 4) rfl rfl rfl rfl rfl rfl (ltb rfl) (.none rfl)
     ·
      intro hg4
      refine VO.step (.some rfl rfl rfl) (V1.move rfl rfl rfl (ltb rfl) ?_)
      refine VO.step (.some rfl rfl rfl) (V1.move rfl rfl rfl (ltb rfl) ?_)
      refine VO.step (.some rfl rfl rfl) (V1.call rfl rfl rfl cok_33 rfl (ok_laws_rInts (cond_f hg4 hh16)) rfl (ltb rfl) ?_)
      rintro _ _ ⟨rfl, rfl⟩
      refine VO.step (.some rfl rfl rfl) (V1.not rfl rfl rfl (ltb rfl) ?_)
      exact VO.nil ⟨rfl, rfl, rfl, rfl, .inr ⟨rfl, .inr ⟨rfl, .inr ⟨rfl, .inr ⟨rfl, .inr ⟨rfl, .inl rfl⟩⟩⟩⟩⟩⟩
     refine VO.nil ?_
     refine V.keep 251 [0, 13, 14, 15, 133] [] (E0 := [(0, .vl ρ0 1 (List.map encU8 code)), (13, .vl rn 6 (List.map encHand y11.1)), (14, .int .i64 y11.2), (15, .vl rn 1 (List.map encInt y12.1)), (133, .bool ((!(y12.2 == y13.2)) || (!y14)))]) (H0 := []) rfl (⟨_, _, rfl, rfl, ⟨_, _, rfl, rfl, ⟨_, _, rfl, rfl, ⟨_, _, rfl, rfl, ⟨_, _, rfl, rfl, rfl⟩⟩⟩⟩⟩) (rfl) rfl ?_
     refine V.cond rfl (fun hc5 => ?_) (fun hc5 => ?_)
     ·
      replace hm0 := cond_t hc5 hm0
      refine V.seq ?_
      refine V.region ?_
      refine VO.cons rfl (V1.assign rfl rfl rfl (ltb rfl) ?_)
      refine VO.nil ?_
      refine V.ret ?_
      obtain rfl := Option.some.inj hm0
      exact ⟨_, [], ⟨_, _, rfl, rfl, rfl⟩, List.nil_sublist _, rfl, rfl⟩
     ·
      replace hm0 := cond_f hc5 hm0
      refine V.skip ?_
      refine V.seq ?_
      replace hm0 := bindO hm0; rcases hm0 with ⟨y15, hh17, hm0⟩
      refine V.region ?_
      refine VO.cons rfl (V1.move rfl rfl rfl (ltb rfl) ?_)
      refine VO.cons rfl (V1.move rfl rfl rfl (ltb rfl) ?_)
      refine VO.cons rfl (V1.permK (V1.call rfl rfl rfl cok_31 rfl (ok_impl_ChainOf hh17) rfl (ltb rfl) ?_))
      rintro _ _ ⟨ob3, hob3, rfl, rfl⟩
      refine ⟨_, ?_, Keeps.optBack (n := 1) (ob := ob3) (xs := List.map encInt y15.1) (H1 := []) (H2 := []) rfl⟩
      refine VO.cons rfl (V1.move rfl rfl rfl (ltb rfl) ?_)
      refine VO.cons rfl (V1.extract rfl rfl rfl rfl (ltb rfl) ?_)
      refine VO.weakenK (Keeps.optFront (n := 1) (ob := ob3) (xs := List.map encInt y15.1) (H1 := []) rfl) ?_
      refine VO.weakenK (Keeps.optVl 138 [] rn (f := encInt) (l := y15.1) (ob := ob3) (H1 := []) hob3 rfl rfl ⟨rfl, trivial⟩ (fun _ => rfl) rfl iNil) ?_
      refine VO.cons rfl (V1.extract rfl rfl rfl rfl (ltb rfl) ?_)
      refine VO.cons rfl (V1.assign rfl rfl rfl (ltb rfl) ?_)
      refine VO.cons rfl (V1.assign rfl rfl rfl (ltb rfl) ?_)
      refine VO.nil ?_
      refine V.keep 251 [0, 15, 19, 20] [] (E0 := [(0, .vl ρ0 1 (List.map encU8 code)), (15, .vl rn 1 (List.map encInt y12.1)), (19, .vl rn 1 (List.map encInt y15.1)), (20, .bool y15.2)]) (H0 := []) rfl (⟨_, _, rfl, rfl, ⟨_, _, rfl, rfl, ⟨_, _, rfl, rfl, ⟨_, _, rfl, rfl, rfl⟩⟩⟩⟩) (rfl) rfl ?_
      refine V.seq ?_
      refine V.seq ?_
      refine V.region ?_
      refine VO.cons rfl (V1.assign rfl rfl rfl (ltb rfl) ?_)
      refine VO.nil ?_
      replace hm0 := bindO hm0; rcases hm0 with ⟨e1, he1, hm0⟩
      refine V.cutT (D := (Unit) × (Unit)) (fun ⟨_, _⟩ => ⟨251, [(0, .vl ρ0 1 (List.map encU8 code))], []⟩) (fun ⟨_, _⟩ => (.inl () = e1)) ?_ ?_
      ·
       refine V.block ?_
       refine V.keep 251 [21, 0, 15, 19, 20] [] (E0 := [(21, .int .i64 (0 : Int)), (0, .vl ρ0 1 (List.map encU8 code)), (15, .vl rn 1 (List.map encInt y12.1)), (19, .vl rn 1 (List.map encInt y15.1)), (20, .bool y15.2)]) (H0 := []) rfl (⟨_, _, rfl, rfl, ⟨_, _, rfl, rfl, ⟨_, _, rfl, rfl, ⟨_, _, rfl, rfl, ⟨_, _, rfl, rfl, rfl⟩⟩⟩⟩⟩) (rfl) rfl ?_
       refine V.loopE (D := Nat × (Int) × (Unit)) (fun ⟨n1, i0, _⟩ => [(21, .int .i64 i0)]) (fun ⟨n1, i0, _⟩ => []) (fun ⟨n1, i0, _⟩ => loopO (M.laws_FnSeals_l1 y12 y15) n1 i0 = some e1) (fun ⟨n1, _, _⟩ => n1) (rounds, (0 : Int), ()) rfl he1 ?_
       rintro ⟨n1, i0, _⟩ hP1
       obtain ⟨m1, y16, rfl, hm1, hl1, hr1⟩ := loop_head hP1
       unfold M.laws_FnSeals_l1 at hm1; dsimp only at hm1
       show V _ _ _ ⟨251, [(21, .int .i64 i0), (0, .vl ρ0 1 (List.map encU8 code)), (15, .vl rn 1 (List.map encInt y12.1)), (19, .vl rn 1 (List.map encInt y15.1)), (20, .bool y15.2)], []⟩
       refine V.seq ?_
       refine V.seq ?_
       refine V.region ?_
       refine VO.cons rfl (V1.move rfl rfl rfl (ltb rfl) ?_)
       refine VO.cons rfl (V1.move rfl rfl rfl (ltb rfl) ?_)
       refine VO.cons rfl (V1.lenMap rfl rfl rfl rfl rfl rfl isl_24 (ltb rfl) ?_)
       refine VO.cons rfl (V1.int rfl rfl rfl rfl rfl (ltb rfl) ?_)
       refine VO.nil ?_
       refine V.cond rfl (fun hc6 => ?_) (fun hc6 => ?_)
       ·
        replace hm1 := cond_t hc6 hm1
        refine V.skip ?_
        refine V.keep 251 [0, 15, 19, 20, 21] [] (E0 := [(0, .vl ρ0 1 (List.map encU8 code)), (15, .vl rn 1 (List.map encInt y12.1)), (19, .vl rn 1 (List.map encInt y15.1)), (20, .bool y15.2), (21, .int .i64 i0)]) (H0 := []) rfl (⟨_, _, rfl, rfl, ⟨_, _, rfl, rfl, ⟨_, _, rfl, rfl, ⟨_, _, rfl, rfl, ⟨_, _, rfl, rfl, rfl⟩⟩⟩⟩⟩) (rfl) rfl ?_
        refine V.seq ?_
        refine V.block ?_
        refine V.seq ?_
        replace hm1 := asrt_some hm1; rcases hm1 with ⟨hh18, hm1⟩
        replace hm1 := bindO hm1; rcases hm1 with ⟨y17, hh19, hm1⟩
        refine V.region ?_
        refine VO.cons rfl (V1.move rfl rfl rfl (ltb rfl) ?_)
        refine VO.cons rfl (V1.not rfl rfl rfl (ltb rfl) ?_)
        refine VO.cons rfl (V1.move rfl rfl rfl (ltb rfl) ?_)
        apply VO.or (n := 7) rfl rfl rfl rfl rfl rfl (ltb rfl) (.none rfl)
        ·
         intro hg5
         refine VO.step (.some rfl rfl rfl) (V1.move rfl rfl rfl (ltb rfl) ?_)
         refine VO.step (.some rfl rfl rfl) (V1.move rfl rfl rfl (ltb rfl) ?_)
         refine VO.step (.some rfl rfl rfl) (V1.move rfl rfl rfl (ltb rfl) ?_)
         refine VO.step (.some rfl rfl rfl) (V1.indexI rfl rfl esz_24 rfl rfl (hh18 hg5) (ltb rfl) ?_)
         refine VO.step (.some rfl rfl rfl) (V1.loadPin rfl rfl tyk_3 rfl rfl (ltb rfl) ?_)
         refine VO.step (.some rfl rfl rfl) (V1.call rfl rfl rfl cok_36 rfl (ok_laws_rHas (cond_f hg5 hh19)) rfl (ltb rfl) ?_)
         rintro _ _ ⟨rfl, rfl⟩
         refine VO.step (.some rfl rfl rfl) (V1.not rfl rfl rfl (ltb rfl) ?_)
         exact VO.nil ⟨rfl, rfl, rfl, rfl, .inr ⟨rfl, .inr ⟨rfl, .inr ⟨rfl, .inr ⟨rfl, .inr ⟨rfl, .inr ⟨rfl, .inr ⟨rfl, .inr ⟨rfl, .inl rfl⟩⟩⟩⟩⟩⟩⟩⟩⟩
        refine VO.nil ?_
        refine V.cond rfl (fun hc7 => ?_) (fun hc7 => ?_)
        ·
         replace hm1 := cond_t hc7 hm1
         refine V.seq ?_
         refine V.region ?_
         refine VO.cons rfl (V1.assign rfl rfl rfl (ltb rfl) ?_)
         refine VO.nil ?_
         refine V.ret ?_
         obtain rfl := hr1 _ (Option.some.inj hm1).symm
         change some _ = some _ at hm0
         obtain rfl := Option.some.inj hm0
         exact ⟨_, [], ⟨_, _, rfl, rfl, rfl⟩, List.nil_sublist _, rfl, rfl⟩
        ·
         replace hm1 := cond_f hc7 hm1
         refine V.skip ?_
         refine V.keep 251 [0, 15, 19, 20, 21] [] (E0 := [(0, .vl ρ0 1 (List.map encU8 code)), (15, .vl rn 1 (List.map encInt y12.1)), (19, .vl rn 1 (List.map encInt y15.1)), (20, .bool y15.2), (21, .int .i64 i0)]) (H0 := []) rfl (⟨_, _, rfl, rfl, ⟨_, _, rfl, rfl, ⟨_, _, rfl, rfl, ⟨_, _, rfl, rfl, ⟨_, _, rfl, rfl, rfl⟩⟩⟩⟩⟩) (rfl) rfl ?_
         refine V.region ?_
         refine VO.cons rfl (V1.move rfl rfl rfl (ltb rfl) ?_)
         refine VO.cons rfl (V1.int rfl rfl rfl rfl rfl (ltb rfl) ?_)
         refine VO.cons rfl (V1.assign rfl rfl rfl (ltb rfl) ?_)
         refine VO.nil ?_
         exact ⟨(m1, (IntKind.i64.wrap (i0 + (1 : Int))), ()), hl1 _ (Option.some.inj hm1).symm, Nat.lt_succ_self _, Keeps.mk (ks := []) rfl ⟨rfl, rfl, rfl, rfl, rfl, trivial⟩ (rfl) rfl⟩
       ·
        replace hm1 := cond_f hc6 hm1
        refine V.exit ?_
        obtain rfl := hr1 _ (Option.some.inj hm1).symm
        exact ⟨((), ()), rfl, Keeps.mk (ks := []) rfl ⟨rfl, trivial⟩ (rfl) rfl⟩
      ·
       rintro ⟨_, _⟩ rfl
       try dsimp only at hm0
       refine V.seq ?_
       replace hm0 := bindO hm0; rcases hm0 with ⟨y18, hh20, hm0⟩
       refine V.region ?_
       refine VO.cons rfl (V1.move rfl rfl rfl (ltb rfl) ?_)
       refine VO.cons rfl (V1.call rfl rfl rfl cok_48 rfl (ok_spec_DrawDaysHeld hh20) rfl (ltb rfl) ?_)
       rintro _ _ ⟨b3, rfl, rfl⟩
       refine VO.cons rfl (V1.move rfl rfl rfl (ltb rfl) ?_)
       refine VO.cons rfl (V1.extract rfl rfl rfl rfl (ltb rfl) ?_)
       refine VO.weakenK (Keeps.freezeG 0 rn [(160, .vl rn 6 (List.map encHand y18.1))] [] (f := encHand) (l := y18.1) rfl (fun _ => rfl) ⟨⟨_, rfl, .here⟩, trivial⟩ rfl rfl iNil) ?_
       refine VO.cons rfl (V1.extract rfl rfl rfl rfl (ltb rfl) ?_)
       refine VO.cons rfl (V1.extract rfl rfl rfl rfl (ltb rfl) ?_)
       refine VO.cons rfl (V1.extract rfl rfl rfl rfl (ltb rfl) ?_)
       refine VO.cons rfl (V1.assign rfl rfl rfl (ltb rfl) ?_)
       refine VO.cons rfl (V1.assign rfl rfl rfl (ltb rfl) ?_)
       refine VO.cons rfl (V1.assign rfl rfl rfl (ltb rfl) ?_)
       refine VO.cons rfl (V1.assign rfl rfl rfl (ltb rfl) ?_)
       refine VO.nil ?_
       refine V.keep 251 [22, 23, 24, 25] [] (E0 := [(22, .vl rn 6 (List.map encHand y18.1)), (23, .int .i64 y18.2.1), (24, .int .i64 y18.2.2.1), (25, .int .i64 y18.2.2.2)]) (H0 := []) rfl (⟨_, _, rfl, rfl, ⟨_, _, rfl, rfl, ⟨_, _, rfl, rfl, ⟨_, _, rfl, rfl, rfl⟩⟩⟩⟩) (rfl) rfl ?_
       refine V.seq ?_
       replace hm0 := bindO hm0; rcases hm0 with ⟨y19, hh21, hm0⟩
       refine V.region ?_
       refine VO.cons rfl (V1.move rfl rfl rfl (ltb rfl) ?_)
       refine VO.cons rfl (V1.move rfl rfl rfl (ltb rfl) ?_)
       refine VO.cons rfl (V1.move rfl rfl rfl (ltb rfl) ?_)
       refine VO.cons rfl (V1.move rfl rfl rfl (ltb rfl) ?_)
       refine VO.cons rfl (V1.call rfl rfl rfl cok_49 rfl (ok_impl_DaysHeld hh21) rfl (ltb rfl) ?_)
       rintro _ _ ⟨rfl, rfl⟩
       refine VO.cons rfl (V1.move rfl rfl rfl (ltb rfl) ?_)
       refine VO.cons rfl (V1.extract rfl rfl rfl rfl (ltb rfl) ?_)
       refine VO.cons rfl (V1.extract rfl rfl rfl rfl (ltb rfl) ?_)
       refine VO.cons rfl (V1.assign rfl rfl rfl (ltb rfl) ?_)
       refine VO.cons rfl (V1.assign rfl rfl rfl (ltb rfl) ?_)
       refine VO.nil ?_
       refine V.keep 251 [22, 23, 24, 25, 26, 27] [] (E0 := [(22, .vl rn 6 (List.map encHand y18.1)), (23, .int .i64 y18.2.1), (24, .int .i64 y18.2.2.1), (25, .int .i64 y18.2.2.2), (26, .int .i64 y19.1), (27, .bool y19.2)]) (H0 := []) rfl (⟨_, _, rfl, rfl, ⟨_, _, rfl, rfl, ⟨_, _, rfl, rfl, ⟨_, _, rfl, rfl, ⟨_, _, rfl, rfl, ⟨_, _, rfl, rfl, rfl⟩⟩⟩⟩⟩⟩) (rfl) rfl ?_
       refine V.seq ?_
       refine V.seq ?_
       replace hm0 := bindO hm0; rcases hm0 with ⟨y20, hh22, hm0⟩
       refine V.region ?_
       refine VO.cons rfl (V1.move rfl rfl rfl (ltb rfl) ?_)
       refine VO.cons rfl (V1.move rfl rfl rfl (ltb rfl) ?_)
       refine VO.cons rfl (V1.move rfl rfl rfl (ltb rfl) ?_)
       refine VO.cons rfl (V1.move rfl rfl rfl (ltb rfl) ?_)
       refine VO.cons rfl (V1.call rfl rfl rfl cok_50 rfl (ok_spec_DaysHeld hh22) rfl (ltb rfl) ?_)
       rintro _ _ ⟨rfl, rfl⟩
       refine VO.cons rfl (V1.move rfl rfl rfl (ltb rfl) ?_)
       refine VO.cons rfl (V1.extract rfl rfl rfl rfl (ltb rfl) ?_)
       refine VO.cons rfl (V1.extract rfl rfl rfl rfl (ltb rfl) ?_)
       refine VO.cons rfl (V1.assign rfl rfl rfl (ltb rfl) ?_)
       refine VO.cons rfl (V1.assign rfl rfl rfl (ltb rfl) ?_)
       refine VO.nil ?_
       refine V.keep 251 [22, 23, 25, 26, 27, 28, 29] [] (E0 := [(22, .vl rn 6 (List.map encHand y18.1)), (23, .int .i64 y18.2.1), (25, .int .i64 y18.2.2.2), (26, .int .i64 y19.1), (27, .bool y19.2), (28, .int .i64 y20.1), (29, .bool y20.2)]) (H0 := []) rfl (⟨_, _, rfl, rfl, ⟨_, _, rfl, rfl, ⟨_, _, rfl, rfl, ⟨_, _, rfl, rfl, ⟨_, _, rfl, rfl, ⟨_, _, rfl, rfl, ⟨_, _, rfl, rfl, rfl⟩⟩⟩⟩⟩⟩⟩) (rfl) rfl ?_
       refine V.seq ?_
       refine V.region ?_
       refine VO.cons rfl (V1.move rfl rfl rfl (ltb rfl) ?_)
       refine VO.cons rfl (V1.move rfl rfl rfl (ltb rfl) ?_)
       refine VO.cons rfl (V1.int rfl rfl rfl rfl rfl (ltb rfl) ?_)
       refine VO.cons rfl (V1.move rfl rfl rfl (ltb rfl) ?_)
       apply VO.or (n := 3) rfl rfl rfl rfl rfl rfl (ltb rfl) (.none rfl)
       ·
        intro hg6
        refine VO.step (.some rfl rfl rfl) (V1.move rfl rfl rfl (ltb rfl) ?_)
        refine VO.step (.some rfl rfl rfl) (V1.move rfl rfl rfl (ltb rfl) ?_)
        refine VO.step (.some rfl rfl rfl) (V1.boolNeq rfl rfl und_4 rfl rfl (ltb rfl) ?_)
        exact VO.nil ⟨rfl, rfl, rfl, rfl, .inr ⟨rfl, .inr ⟨rfl, .inr ⟨rfl, .inr ⟨rfl, .inl rfl⟩⟩⟩⟩⟩
       refine VO.nil ?_
       refine V.keep 251 [22, 23, 25, 27, 187] [] (E0 := [(22, .vl rn 6 (List.map encHand y18.1)), (23, .int .i64 y18.2.1), (25, .int .i64 y18.2.2.2), (27, .bool y19.2), (187, .bool ((y19.1 != y20.1) || (!(y19.2 == y20.2))))]) (H0 := []) rfl (⟨_, _, rfl, rfl, ⟨_, _, rfl, rfl, ⟨_, _, rfl, rfl, ⟨_, _, rfl, rfl, ⟨_, _, rfl, rfl, rfl⟩⟩⟩⟩⟩) (rfl) rfl ?_
       refine V.cond rfl (fun hc8 => ?_) (fun hc8 => ?_)
       ·
        replace hm0 := cond_t hc8 hm0
        refine V.seq ?_
        refine V.region ?_
        refine VO.cons rfl (V1.assign rfl rfl rfl (ltb rfl) ?_)
        refine VO.nil ?_
        refine V.ret ?_
        obtain rfl := Option.some.inj hm0
        exact ⟨_, [], ⟨_, _, rfl, rfl, rfl⟩, List.nil_sublist _, rfl, rfl⟩
       ·
        replace hm0 := cond_f hc8 hm0
        refine V.skip ?_
        refine V.seq ?_
        refine V.seq ?_
        refine V.region ?_
        refine VO.cons rfl (V1.move rfl rfl rfl (ltb rfl) ?_)
        refine VO.nil ?_
        refine V.cond rfl (fun hc9 => ?_) (fun hc9 => ?_)
        ·
         replace hm0 := cond_t hc9 hm0
         refine V.seq ?_
         refine V.region ?_
         refine VO.cons rfl (V1.assign rfl rfl rfl (ltb rfl) ?_)
         refine VO.nil ?_
         refine V.seq ?_
         refine V.seq ?_
         refine V.region ?_
         refine VO.cons rfl (V1.move rfl rfl rfl (ltb rfl) ?_)
         refine VO.cons rfl (V1.lenMap rfl rfl rfl rfl rfl rfl isl_27 (ltb rfl) ?_)
         refine VO.cons rfl (V1.int rfl rfl rfl rfl rfl (ltb rfl) ?_)
         refine VO.cons rfl (V1.assign rfl rfl rfl (ltb rfl) ?_)
         refine VO.nil ?_
         refine V.keep 251 [22, 23, 25, 30, 31] [] (E0 := [(22, .vl rn 6 (List.map encHand y18.1)), (23, .int .i64 y18.2.1), (25, .int .i64 y18.2.2.2), (30, .int .i64 (-1 : Int)), (31, .int .i64 (IntKind.i64.wrap ((y18.1.length : Int) - (1 : Int))))]) (H0 := []) rfl (⟨_, _, rfl, rfl, ⟨_, _, rfl, rfl, ⟨_, _, rfl, rfl, ⟨_, _, rfl, rfl, ⟨_, _, rfl, rfl, rfl⟩⟩⟩⟩⟩) (rfl) rfl ?_
         replace hm0 := bindO hm0; rcases hm0 with ⟨e2, he1, hm0⟩
         refine V.cutT (D := (Int) × (Unit)) (fun ⟨first, _⟩ => ⟨251, [(30, .int .i64 first), (22, .vl rn 6 (List.map encHand y18.1)), (23, .int .i64 y18.2.1), (25, .int .i64 y18.2.2.2)], []⟩) (fun ⟨first, _⟩ => (first = e2)) ?_ ?_
         ·
          refine V.block ?_
          refine V.keep 251 [30, 31, 22, 23, 25] [] (E0 := [(30, .int .i64 (-1 : Int)), (31, .int .i64 (IntKind.i64.wrap ((y18.1.length : Int) - (1 : Int)))), (22, .vl rn 6 (List.map encHand y18.1)), (23, .int .i64 y18.2.1), (25, .int .i64 y18.2.2.2)]) (H0 := []) rfl (⟨_, _, rfl, rfl, ⟨_, _, rfl, rfl, ⟨_, _, rfl, rfl, ⟨_, _, rfl, rfl, ⟨_, _, rfl, rfl, rfl⟩⟩⟩⟩⟩) (rfl) rfl ?_
          refine V.loopE (D := Nat × (Int × Int) × (Unit)) (fun ⟨n2, ⟨first0, i1⟩, _⟩ => [(30, .int .i64 first0), (31, .int .i64 i1)]) (fun ⟨n2, ⟨first0, i1⟩, _⟩ => []) (fun ⟨n2, ⟨first0, i1⟩, _⟩ => loopO (M.laws_FnSeals_l2 y18) n2 (first0, i1) = some e2) (fun ⟨n2, _, _⟩ => n2) (rounds, ((-1 : Int), (IntKind.i64.wrap ((y18.1.length : Int) - (1 : Int)))), ()) rfl he1 ?_
          rintro ⟨n2, ⟨first0, i1⟩, _⟩ hP2
          obtain ⟨m2, y21, rfl, hm1, hl1, hr1⟩ := loop_head hP2
          unfold M.laws_FnSeals_l2 at hm1; dsimp only at hm1
          show V _ _ _ ⟨251, [(30, .int .i64 first0), (31, .int .i64 i1), (22, .vl rn 6 (List.map encHand y18.1)), (23, .int .i64 y18.2.1), (25, .int .i64 y18.2.2.2)], []⟩
          refine V.seq ?_
          refine V.seq ?_
          refine V.region ?_
          refine VO.cons rfl (V1.move rfl rfl rfl (ltb rfl) ?_)
          refine VO.cons rfl (V1.int rfl rfl rfl rfl rfl (ltb rfl) ?_)
          refine VO.nil ?_
          refine V.cond rfl (fun hc10 => ?_) (fun hc10 => ?_)
          ·
           replace hm1 := cond_t hc10 hm1
           refine V.skip ?_
           refine V.seq ?_
           replace hm1 := bindO hm1; rcases hm1 with ⟨j0, hm2, hm1⟩
           refine V.cutT (D := (Int) × (Unit)) (fun ⟨first1, _⟩ => ⟨251, [(30, .int .i64 first1), (22, .vl rn 6 (List.map encHand y18.1)), (23, .int .i64 y18.2.1), (25, .int .i64 y18.2.2.2), (31, .int .i64 i1)], []⟩) (fun ⟨first1, _⟩ => (first1 = j0)) ?_ ?_
           ·
            refine V.block ?_
            refine V.seq ?_
            replace hm2 := asrt_some hm2; rcases hm2 with ⟨hh23, hm2⟩
            replace hm2 := asrt_some hm2; rcases hm2 with ⟨hh24, hm2⟩
            refine V.region ?_
            refine VO.cons rfl (V1.move rfl rfl rfl (ltb rfl) ?_)
            refine VO.cons rfl (V1.move rfl rfl rfl (ltb rfl) ?_)
            refine VO.cons rfl (V1.indexI rfl rfl esz_27 rfl rfl hh23 (ltb rfl) ?_)
            refine VO.cons rfl (V1.fieldPin rfl rfl fo_52_0 rfl (ltb rfl) ?_)
            refine VO.cons rfl (V1.loadPin rfl rfl tyk_3 rfl rfl (ltb rfl) ?_)
            refine VO.cons rfl (V1.move rfl rfl rfl (ltb rfl) ?_)
            refine VO.cons rfl (V1.int rfl rfl rfl rfl rfl (ltb rfl) ?_)
            refine VO.cons rfl (V1.move rfl rfl rfl (ltb rfl) ?_)
            apply VO.and (n := 7) rfl rfl rfl rfl rfl rfl (ltb rfl) (.none rfl)
            ·
             intro hg7
             refine VO.step (.some rfl rfl rfl) (V1.move rfl rfl rfl (ltb rfl) ?_)
             refine VO.step (.some rfl rfl rfl) (V1.move rfl rfl rfl (ltb rfl) ?_)
             refine VO.step (.some rfl rfl rfl) (V1.indexI rfl rfl esz_27 rfl rfl (hh24 hg7) (ltb rfl) ?_)
             refine VO.step (.some rfl rfl rfl) (V1.fieldPin rfl rfl fo_52_3 rfl (ltb rfl) ?_)
             refine VO.step (.some rfl rfl rfl) (V1.loadPin rfl rfl tyk_3 rfl rfl (ltb rfl) ?_)
             refine VO.step (.some rfl rfl rfl) (V1.move rfl rfl rfl (ltb rfl) ?_)
             refine VO.step (.some rfl rfl rfl) (V1.int rfl rfl rfl rfl rfl (ltb rfl) ?_)
             exact VO.nil ⟨rfl, rfl, rfl, rfl, .inr ⟨rfl, .inr ⟨rfl, .inr ⟨rfl, .inr ⟨rfl, .inr ⟨rfl, .inr ⟨rfl, .inr ⟨rfl, .inr ⟨rfl, .inl rfl⟩⟩⟩⟩⟩⟩⟩⟩⟩
            refine VO.nil ?_
            refine V.keep 251 [22, 23, 25, 30, 31, 211] [] (E0 := [(22, .vl rn 6 (List.map encHand y18.1)), (23, .int .i64 y18.2.1), (25, .int .i64 y18.2.2.2), (30, .int .i64 first0), (31, .int .i64 i1), (211, .bool ((((y18.1.getD (Int.toNat i1) default).Record) == y18.2.1) && (decide (((y18.1.getD (Int.toNat i1) default).Day) ≤ y18.2.2.2))))]) (H0 := []) rfl (⟨_, _, rfl, rfl, ⟨_, _, rfl, rfl, ⟨_, _, rfl, rfl, ⟨_, _, rfl, rfl, ⟨_, _, rfl, rfl, ⟨_, _, rfl, rfl, rfl⟩⟩⟩⟩⟩⟩) (rfl) rfl ?_
            refine V.cond rfl (fun hc11 => ?_) (fun hc11 => ?_)
            ·
             replace hm2 := cond_t hc11 hm2
             replace hm2 := asrt_some hm2; rcases hm2 with ⟨hh25, hm2⟩
             refine V.region ?_
             refine VO.cons rfl (V1.move rfl rfl rfl (ltb rfl) ?_)
             refine VO.cons rfl (V1.move rfl rfl rfl (ltb rfl) ?_)
             refine VO.cons rfl (V1.indexI rfl rfl esz_27 rfl rfl hh25 (ltb rfl) ?_)
             refine VO.cons rfl (V1.fieldPin rfl rfl fo_52_3 rfl (ltb rfl) ?_)
             refine VO.cons rfl (V1.loadPin rfl rfl tyk_3 rfl rfl (ltb rfl) ?_)
             refine VO.cons rfl (V1.assign rfl rfl rfl (ltb rfl) ?_)
             refine VO.nil ?_
             exact ⟨((y18.1.getD (Int.toNat i1) default).Day, ()), Option.some.inj hm2, Keeps.mk (ks := []) rfl ⟨rfl, rfl, rfl, rfl, rfl, trivial⟩ (rfl) rfl⟩
            ·
             replace hm2 := cond_f hc11 hm2
             refine V.skip ?_
             exact ⟨(first0, ()), Option.some.inj hm2, Keeps.mk (ks := []) rfl ⟨rfl, rfl, rfl, rfl, rfl, trivial⟩ (rfl) rfl⟩
           ·
            rintro ⟨first1, _⟩ rfl
            try dsimp only at hm1
            refine V.region ?_
            refine VO.cons rfl (V1.move rfl rfl rfl (ltb rfl) ?_)
            refine VO.cons rfl (V1.int rfl rfl rfl rfl rfl (ltb rfl) ?_)
            refine VO.cons rfl (V1.assign rfl rfl rfl (ltb rfl) ?_)
            refine VO.nil ?_
            exact ⟨(m2, (first1, (IntKind.i64.wrap (i1 - (1 : Int)))), ()), hl1 _ (Option.some.inj hm1).symm, Nat.lt_succ_self _, Keeps.mk (ks := []) rfl ⟨rfl, rfl, rfl, rfl, rfl, trivial⟩ (rfl) rfl⟩
          ·
           replace hm1 := cond_f hc10 hm1
           refine V.exit ?_
           obtain rfl := hr1 _ (Option.some.inj hm1).symm
           exact ⟨(first0, ()), rfl, Keeps.mk (ks := []) rfl ⟨rfl, rfl, rfl, rfl, trivial⟩ (rfl) rfl⟩
         ·
          rintro ⟨first, _⟩ rfl
          try dsimp only at hm0
          refine V.seq ?_
          refine V.region ?_
          refine VO.cons rfl (V1.assign rfl rfl rfl (ltb rfl) ?_)
          refine VO.nil ?_
          refine V.seq ?_
          refine V.seq ?_
          refine V.region ?_
          refine VO.cons rfl (V1.assign rfl rfl rfl (ltb rfl) ?_)
          refine VO.nil ?_
          replace hm0 := bindO hm0; rcases hm0 with ⟨e3, he1, hm0⟩
          refine V.cutT (D := (Int) × (Unit)) (fun ⟨sum_, _⟩ => ⟨251, [(32, .int .i64 sum_), (25, .int .i64 y18.2.2.2), (30, .int .i64 first)], []⟩) (fun ⟨sum_, _⟩ => (.inl sum_ = e3)) ?_ ?_
          ·
           refine V.block ?_
           refine V.keep 251 [32, 33, 22, 23, 25, 30] [] (E0 := [(32, .int .i64 (0 : Int)), (33, .int .i64 (1 : Int)), (22, .vl rn 6 (List.map encHand y18.1)), (23, .int .i64 y18.2.1), (25, .int .i64 y18.2.2.2), (30, .int .i64 first)]) (H0 := []) rfl (⟨_, _, rfl, rfl, ⟨_, _, rfl, rfl, ⟨_, _, rfl, rfl, ⟨_, _, rfl, rfl, ⟨_, _, rfl, rfl, ⟨_, _, rfl, rfl, rfl⟩⟩⟩⟩⟩⟩) (rfl) rfl ?_
           refine V.loopE (D := Nat × (Int × Int) × (Unit)) (fun ⟨n3, ⟨sum_0, someone⟩, _⟩ => [(32, .int .i64 sum_0), (33, .int .i64 someone)]) (fun ⟨n3, ⟨sum_0, someone⟩, _⟩ => []) (fun ⟨n3, ⟨sum_0, someone⟩, _⟩ => loopO (M.laws_FnSeals_l3 y18) n3 (sum_0, someone) = some e3) (fun ⟨n3, _, _⟩ => n3) (rounds, ((0 : Int), (1 : Int)), ()) rfl he1 ?_
           rintro ⟨n3, ⟨sum_0, someone⟩, _⟩ hP3
           obtain ⟨m3, y22, rfl, hm1, hl1, hr1⟩ := loop_head hP3
           unfold M.laws_FnSeals_l3 at hm1; dsimp only at hm1
           show V _ _ _ ⟨251, [(32, .int .i64 sum_0), (33, .int .i64 someone), (22, .vl rn 6 (List.map encHand y18.1)), (23, .int .i64 y18.2.1), (25, .int .i64 y18.2.2.2), (30, .int .i64 first)], []⟩
           refine V.seq ?_
           refine V.seq ?_
           refine V.region ?_
           refine VO.cons rfl (V1.move rfl rfl rfl (ltb rfl) ?_)
           refine VO.cons rfl (V1.int rfl rfl rfl rfl rfl (ltb rfl) ?_)
           refine VO.nil ?_
           refine V.cond rfl (fun hc12 => ?_) (fun hc12 => ?_)
           ·
            replace hm1 := cond_t hc12 hm1
            refine V.skip ?_
            refine V.seq ?_
            refine V.block ?_
            refine V.seq ?_
            replace hm1 := bindO hm1; rcases hm1 with ⟨y23, hh26, hm1⟩
            refine V.region ?_
            refine VO.cons rfl (V1.move rfl rfl rfl (ltb rfl) ?_)
            refine VO.cons rfl (V1.move rfl rfl rfl (ltb rfl) ?_)
            refine VO.cons rfl (V1.move rfl rfl rfl (ltb rfl) ?_)
            refine VO.cons rfl (V1.move rfl rfl rfl (ltb rfl) ?_)
            refine VO.cons rfl (V1.call rfl rfl rfl cok_49 rfl (ok_impl_DaysHeld hh26) rfl (ltb rfl) ?_)
            rintro _ _ ⟨rfl, rfl⟩
            refine VO.cons rfl (V1.move rfl rfl rfl (ltb rfl) ?_)
            refine VO.cons rfl (V1.extract rfl rfl rfl rfl (ltb rfl) ?_)
            refine VO.cons rfl (V1.extract rfl rfl rfl rfl (ltb rfl) ?_)
            refine VO.cons rfl (V1.assign rfl rfl rfl (ltb rfl) ?_)
            refine VO.cons rfl (V1.assign rfl rfl rfl (ltb rfl) ?_)
            refine VO.nil ?_
            refine V.keep 251 [22, 23, 25, 30, 32, 33, 34, 35] [] (E0 := [(22, .vl rn 6 (List.map encHand y18.1)), (23, .int .i64 y18.2.1), (25, .int .i64 y18.2.2.2), (30, .int .i64 first), (32, .int .i64 sum_0), (33, .int .i64 someone), (34, .int .i64 y23.1), (35, .bool y23.2)]) (H0 := []) rfl (⟨_, _, rfl, rfl, ⟨_, _, rfl, rfl, ⟨_, _, rfl, rfl, ⟨_, _, rfl, rfl, ⟨_, _, rfl, rfl, ⟨_, _, rfl, rfl, ⟨_, _, rfl, rfl, ⟨_, _, rfl, rfl, rfl⟩⟩⟩⟩⟩⟩⟩⟩) (rfl) rfl ?_
            refine V.seq ?_
            refine V.seq ?_
            refine V.region ?_
            refine VO.cons rfl (V1.move rfl rfl rfl (ltb rfl) ?_)
            refine VO.cons rfl (V1.not rfl rfl rfl (ltb rfl) ?_)
            refine VO.nil ?_
            refine V.cond rfl (fun hc13 => ?_) (fun hc13 => ?_)
            ·
             replace hm1 := cond_t hc13 hm1
             refine V.seq ?_
             refine V.region ?_
             refine VO.cons rfl (V1.assign rfl rfl rfl (ltb rfl) ?_)
             refine VO.nil ?_
             refine V.ret ?_
             obtain rfl := hr1 _ (Option.some.inj hm1).symm
             change some _ = some _ at hm0
             obtain rfl := Option.some.inj hm0
             exact ⟨_, [], ⟨_, _, rfl, rfl, rfl⟩, List.nil_sublist _, rfl, rfl⟩
            ·
             replace hm1 := cond_f hc13 hm1
             refine V.skip ?_
             refine V.region ?_
             refine VO.cons rfl (V1.move rfl rfl rfl (ltb rfl) ?_)
             refine VO.cons rfl (V1.move rfl rfl rfl (ltb rfl) ?_)
             refine VO.cons rfl (V1.int rfl rfl rfl rfl rfl (ltb rfl) ?_)
             refine VO.cons rfl (V1.assign rfl rfl rfl (ltb rfl) ?_)
             refine VO.nil ?_
             refine V.keep 251 [22, 23, 25, 30, 32, 33] [] (E0 := [(22, .vl rn 6 (List.map encHand y18.1)), (23, .int .i64 y18.2.1), (25, .int .i64 y18.2.2.2), (30, .int .i64 first), (32, .int .i64 (IntKind.i64.wrap (sum_0 + y23.1))), (33, .int .i64 someone)]) (H0 := []) rfl (⟨_, _, rfl, rfl, ⟨_, _, rfl, rfl, ⟨_, _, rfl, rfl, ⟨_, _, rfl, rfl, ⟨_, _, rfl, rfl, ⟨_, _, rfl, rfl, rfl⟩⟩⟩⟩⟩⟩) (rfl) rfl ?_
             refine V.region ?_
             refine VO.cons rfl (V1.move rfl rfl rfl (ltb rfl) ?_)
             refine VO.cons rfl (V1.int rfl rfl rfl rfl rfl (ltb rfl) ?_)
             refine VO.cons rfl (V1.assign rfl rfl rfl (ltb rfl) ?_)
             refine VO.nil ?_
             exact ⟨(m3, ((IntKind.i64.wrap (sum_0 + y23.1)), (IntKind.i64.wrap (someone + (1 : Int)))), ()), hl1 _ (Option.some.inj hm1).symm, Nat.lt_succ_self _, Keeps.mk (ks := []) rfl ⟨rfl, rfl, rfl, rfl, rfl, rfl, trivial⟩ (rfl) rfl⟩
           ·
            replace hm1 := cond_f hc12 hm1
            refine V.exit ?_
            obtain rfl := hr1 _ (Option.some.inj hm1).symm
            exact ⟨(sum_0, ()), rfl, Keeps.mk (ks := []) rfl ⟨rfl, rfl, rfl, trivial⟩ (rfl) rfl⟩
          ·
           rintro ⟨sum_, _⟩ rfl
           try dsimp only at hm0
           refine V.seq ?_
           refine V.region ?_
           refine VO.cons rfl (V1.move rfl rfl rfl (ltb rfl) ?_)
           refine VO.cons rfl (V1.int rfl rfl rfl rfl rfl (ltb rfl) ?_)
           refine VO.cons rfl (V1.move rfl rfl rfl (ltb rfl) ?_)
           apply VO.and (n := 5) rfl rfl rfl rfl rfl rfl (ltb rfl) (.none rfl)
           ·
            intro hg8
            refine VO.step (.some rfl rfl rfl) (V1.move rfl rfl rfl (ltb rfl) ?_)
            refine VO.step (.some rfl rfl rfl) (V1.move rfl rfl rfl (ltb rfl) ?_)
            refine VO.step (.some rfl rfl rfl) (V1.move rfl rfl rfl (ltb rfl) ?_)
            refine VO.step (.some rfl rfl rfl) (V1.int rfl rfl rfl rfl rfl (ltb rfl) ?_)
            refine VO.step (.some rfl rfl rfl) (V1.int rfl rfl rfl rfl rfl (ltb rfl) ?_)
            exact VO.nil ⟨rfl, rfl, rfl, rfl, .inr ⟨rfl, .inr ⟨rfl, .inr ⟨rfl, .inr ⟨rfl, .inr ⟨rfl, .inr ⟨rfl, .inl rfl⟩⟩⟩⟩⟩⟩⟩
           refine VO.cons rfl (V1.move rfl rfl rfl (ltb rfl) ?_)
           apply VO.or (n := 6) rfl rfl rfl rfl rfl rfl (ltb rfl) (.none rfl)
           ·
            intro hg9
            refine VO.step (.some rfl rfl rfl) (V1.move rfl rfl rfl (ltb rfl) ?_)
            refine VO.step (.some rfl rfl rfl) (V1.int rfl rfl rfl rfl rfl (ltb rfl) ?_)
            refine VO.step (.some rfl rfl rfl) (V1.move rfl rfl rfl (ltb rfl) ?_)
            apply VO.and (n := 2) rfl rfl rfl rfl rfl rfl (ltb rfl) (.some rfl rfl rfl)
            ·
             intro hg10
             refine VO.step (.some rfl rfl rfl) (V1.move rfl rfl rfl (ltb rfl) ?_)
             refine VO.step (.some rfl rfl rfl) (V1.int rfl rfl rfl rfl rfl (ltb rfl) ?_)
             exact VO.nil ⟨rfl, rfl, rfl, rfl, .inr ⟨rfl, .inr ⟨rfl, .inr ⟨rfl, .inl rfl⟩⟩⟩⟩
            exact VO.nil ⟨rfl, rfl, rfl, rfl, .inr ⟨rfl, .inr ⟨rfl, .inr ⟨rfl, .inr ⟨rfl, .inr ⟨rfl, .inl rfl⟩⟩⟩⟩⟩⟩
           refine VO.nil ?_
           refine V.keep 251 [250] [] (E0 := [(250, .bool (((decide (first ≥ (0 : Int))) && (sum_ != (IntKind.i64.wrap (y18.2.2.2 - first)))) || ((decide (first < (0 : Int))) && (sum_ != (0 : Int)))))]) (H0 := []) rfl (⟨_, _, rfl, rfl, rfl⟩) (rfl) rfl ?_
           refine V.cond rfl (fun hc14 => ?_) (fun hc14 => ?_)
           ·
            replace hm0 := cond_t hc14 hm0
            refine V.seq ?_
            refine V.region ?_
            refine VO.cons rfl (V1.assign rfl rfl rfl (ltb rfl) ?_)
            refine VO.nil ?_
            refine V.ret ?_
            obtain rfl := Option.some.inj hm0
            exact ⟨_, [], ⟨_, _, rfl, rfl, rfl⟩, List.nil_sublist _, rfl, rfl⟩
           ·
            replace hm0 := cond_f hc14 hm0
            refine V.skip ?_
            refine V.seq ?_
            refine V.region ?_
            refine VO.cons rfl (V1.assign rfl rfl rfl (ltb rfl) ?_)
            refine VO.nil ?_
            refine V.ret ?_
            obtain rfl := Option.some.inj hm0
            exact ⟨_, [], ⟨_, _, rfl, rfl, rfl⟩, List.nil_sublist _, rfl, rfl⟩
        ·
         replace hm0 := cond_f hc9 hm0
         refine V.skip ?_
         refine V.keep 251 [] [] (E0 := []) (H0 := []) rfl (rfl) (rfl) rfl ?_
         refine V.seq ?_
         refine V.region ?_
         refine VO.cons rfl (V1.assign rfl rfl rfl (ltb rfl) ?_)
         refine VO.nil ?_
         refine V.ret ?_
         obtain rfl := Option.some.inj hm0
         exact ⟨_, [], ⟨_, _, rfl, rfl, rfl⟩, List.nil_sublist _, rfl, rfl⟩
end Go.Proofs.Ytmpknfachmfbaaa
