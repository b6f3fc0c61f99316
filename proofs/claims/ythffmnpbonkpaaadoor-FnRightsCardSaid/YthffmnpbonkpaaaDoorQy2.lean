/- the functions do what their models say -/
import Derived.Test.YthffmnpbonkpaaaDoorQy1
set_option linter.unusedSimpArgs false
set_option linter.unusedVariables false
set_option maxRecDepth 100000
set_option maxHeartbeats 4000000
namespace Go.Proofs.YthffmnpbonkpaaaDoor
open Go.VS

theorem ok_impl_rightsOn {ρ0 rn : Nat} {list : List Clerk} {x : Clerk} {day : Int} {r : Int} (h : M.impl_rightsOn list x day = some r) : Does Tryd.prog 48 [.vl ρ0 6 (List.map encClerk list), encClerk x, .int .i64 day] [] rn (fun x H => x = .int .i64 r ∧ H = []) := by
 have hm0 := h; clear h; unfold M.impl_rightsOn at hm0
 try dsimp only at hm0
 refine Does.intro (N := 45) Tryd.func48 rfl rfl rfl rfl ?_
 intro w0 S0
 refine V.seq ?_
 refine V.region ?_
 refine VO.cons rfl (V1.boxN (n := 6) rfl rfl rfl rfl rfl (ltb rfl) ?_)
 intro b0
 refine VO.cons rfl (V1.assign rfl rfl rfl (ltb rfl) ?_)
 refine VO.nil ?_
 refine V.seq ?_
 refine V.seq ?_
 replace hm0 := bindO hm0; rcases hm0 with ⟨y0, hh0, hm0⟩
 refine V.region ?_
 refine VO.cons rfl (V1.move rfl rfl rfl (ltb rfl) ?_)
 refine VO.cons rfl (V1.fieldRef rfl rfl fo_34_3 rfl (ltb rfl) ?_)
 refine VO.cons rfl (V1.loadRef (k := 0) rfl rfl tyk_3 rfl rfl rfl rfl rfl (ltb rfl) ?_)
 refine VO.cons rfl (V1.fieldRef rfl rfl fo_34_4 rfl (ltb rfl) ?_)
 refine VO.cons rfl (V1.loadRef (k := 0) rfl rfl tyk_3 rfl rfl rfl rfl rfl (ltb rfl) ?_)
 refine VO.cons rfl (V1.call rfl rfl rfl cok_69 rfl (ok_impl_within hh0) rfl (ltb rfl) ?_)
 rintro _ _ ⟨rfl, rfl⟩
 refine VO.cons rfl (V1.not rfl rfl rfl (ltb rfl) ?_)
 refine VO.nil ?_
 refine V.keep 45 [0, 2, 4, 15] [0] (E0 := [(0, .vl ρ0 6 (List.map encClerk list)), (2, .int .i64 day), (4, .ref b0 6 0 0), (15, .bool (!y0))]) (H0 := [(b0, ⟨6, [encClerk x]⟩)]) rfl (⟨_, _, rfl, rfl, ⟨_, _, rfl, rfl, ⟨_, _, rfl, rfl, ⟨_, _, rfl, rfl, rfl⟩⟩⟩⟩) (⟨_, _, rfl, rfl, rfl⟩) rfl ?_
 refine V.cond rfl (fun hc0 => ?_) (fun hc0 => ?_)
 ·
  replace hm0 := cond_t hc0 hm0
  refine V.seq ?_
  refine V.region ?_
  refine VO.cons rfl (V1.assign rfl rfl rfl (ltb rfl) ?_)
  refine VO.nil ?_
  refine V.ret ?_
  obtain rfl := Option.some.inj hm0
  exact ⟨_, [], ⟨_, _, rfl, rfl, rfl⟩, List.nil_sublist _, rfl, rfl⟩
 ·
  replace hm0 := cond_f hc0 hm0
  refine V.skip ?_
  refine V.seq ?_
  refine V.seq ?_
  refine V.region ?_
  refine VO.cons rfl (V1.fieldRef rfl rfl fo_34_5 rfl (ltb rfl) ?_)
  refine VO.cons rfl (V1.loadRef (k := 0) rfl rfl tyk_3 rfl rfl rfl rfl rfl (ltb rfl) ?_)
  refine VO.cons rfl (V1.int rfl rfl rfl rfl rfl (ltb rfl) ?_)
  refine VO.nil ?_
  refine V.cond rfl (fun hc1 => ?_) (fun hc1 => ?_)
  ·
   replace hm0 := cond_t hc1 hm0
   refine V.seq ?_
   replace hm0 := bindO hm0; rcases hm0 with ⟨y1, hh1, hm0⟩
   replace hm0 := asrt_some hm0; rcases hm0 with ⟨hh2, hm0⟩
   refine V.region ?_
   refine VO.cons rfl (V1.move rfl rfl rfl (ltb rfl) ?_)
   refine VO.cons rfl (V1.move rfl rfl rfl (ltb rfl) ?_)
   refine VO.cons rfl (V1.fieldRef rfl rfl fo_34_5 rfl (ltb rfl) ?_)
   refine VO.cons rfl (V1.loadRef (k := 0) rfl rfl tyk_3 rfl rfl rfl rfl rfl (ltb rfl) ?_)
   refine VO.cons rfl (V1.call rfl rfl rfl cok_47 rfl (ok_impl_clerkAt hh1) rfl (ltb rfl) ?_)
   rintro _ _ ⟨rfl, rfl⟩
   refine VO.cons rfl (V1.indexI rfl rfl esz_24 rfl rfl hh2 (ltb rfl) ?_)
   refine VO.cons rfl (V1.loadPinAll rfl rfl tyk_34 rfl rfl (ltb rfl) ?_)
   refine VO.cons rfl (V1.alloc rfl rfl zk_34 (ltb rfl) ?_)
   intro b1
   refine VO.cons rfl (V1.storeRefAll (k := 0) rfl rfl tyk_34 rfl rfl rfl rfl rfl rfl ?_)
   refine VO.nil ?_
   refine V.keep 45 [2, 4, 7] [0, 1] (E0 := [(2, .int .i64 day), (4, .ref b0 6 0 0), (7, .ref b1 6 0 0)]) (H0 := [(b1, ⟨6, [encClerk (list.getD (Int.toNat y1) default)]⟩), (b0, ⟨6, [encClerk x]⟩)]) rfl (⟨_, _, rfl, rfl, ⟨_, _, rfl, rfl, ⟨_, _, rfl, rfl, rfl⟩⟩⟩) (⟨_, _, rfl, rfl, ⟨_, _, rfl, rfl, rfl⟩⟩) rfl ?_
   refine V.seq ?_
   refine V.region ?_
   refine VO.cons rfl (V1.fieldRef rfl rfl fo_34_2 rfl (ltb rfl) ?_)
   refine VO.cons rfl (V1.loadRef (k := 1) rfl rfl tyk_3 rfl rfl rfl rfl rfl (ltb rfl) ?_)
   refine VO.cons rfl (V1.fieldRef rfl rfl fo_34_2 rfl (ltb rfl) ?_)
   refine VO.cons rfl (V1.loadRef (k := 0) rfl rfl tyk_3 rfl rfl rfl rfl rfl (ltb rfl) ?_)
   refine VO.cons rfl (V1.int rfl rfl rfl rfl rfl (ltb rfl) ?_)
   refine VO.cons rfl (V1.assign rfl rfl rfl (ltb rfl) ?_)
   refine VO.nil ?_
   refine V.keep 45 [2, 4, 7, 8] [0, 1] (E0 := [(2, .int .i64 day), (4, .ref b0 6 0 0), (7, .ref b1 6 0 0), (8, .int .i64 (IntKind.i64.wrap (BitVec.ofInt IntKind.i64.bits x.Rights ||| BitVec.ofInt IntKind.i64.bits ((list.getD (Int.toNat y1) default).Rights)).toNat))]) (H0 := [(b1, ⟨6, [encClerk (list.getD (Int.toNat y1) default)]⟩), (b0, ⟨6, [encClerk x]⟩)]) rfl (⟨_, _, rfl, rfl, ⟨_, _, rfl, rfl, ⟨_, _, rfl, rfl, ⟨_, _, rfl, rfl, rfl⟩⟩⟩⟩) (⟨_, _, rfl, rfl, ⟨_, _, rfl, rfl, rfl⟩⟩) rfl ?_
   refine V.seq ?_
   replace hm0 := bindO hm0; rcases hm0 with ⟨y2, hh3, hm0⟩
   replace hm0 := bindO hm0; rcases hm0 with ⟨y3, hh4, hm0⟩
   refine V.region ?_
   refine VO.cons rfl (V1.move rfl rfl rfl (ltb rfl) ?_)
   refine VO.cons rfl (V1.fieldRef rfl rfl fo_34_3 rfl (ltb rfl) ?_)
   refine VO.cons rfl (V1.loadRef (k := 0) rfl rfl tyk_3 rfl rfl rfl rfl rfl (ltb rfl) ?_)
   refine VO.cons rfl (V1.fieldRef rfl rfl fo_34_4 rfl (ltb rfl) ?_)
   refine VO.cons rfl (V1.loadRef (k := 0) rfl rfl tyk_3 rfl rfl rfl rfl rfl (ltb rfl) ?_)
   refine VO.cons rfl (V1.call rfl rfl rfl cok_69 rfl (ok_impl_within hh3) rfl (ltb rfl) ?_)
   rintro _ _ ⟨rfl, rfl⟩
   refine VO.cons rfl (V1.not rfl rfl rfl (ltb rfl) ?_)
   refine VO.cons rfl (V1.move rfl rfl rfl (ltb rfl) ?_)
   apply VO.and (n := 2) rfl rfl rfl rfl rfl rfl (ltb rfl) (.none rfl)
   ·
    intro hg0
    refine VO.step (.some rfl rfl rfl) (V1.move rfl rfl rfl (ltb rfl) ?_)
    refine VO.step (.some rfl rfl rfl) (V1.call rfl rfl rfl cok_68 rfl (ok_impl_areRights (cond_t hg0 hh4)) rfl (ltb rfl) ?_)
    rintro _ _ ⟨rfl, rfl⟩
    exact VO.nil ⟨rfl, rfl, rfl, rfl, .inr ⟨rfl, .inr ⟨rfl, .inr ⟨rfl, .inl rfl⟩⟩⟩⟩
   refine VO.nil ?_
   refine V.keep 45 [4, 8, 41] [1] (E0 := [(4, .ref b0 6 0 0), (8, .int .i64 (IntKind.i64.wrap (BitVec.ofInt IntKind.i64.bits x.Rights ||| BitVec.ofInt IntKind.i64.bits ((list.getD (Int.toNat y1) default).Rights)).toNat)), (41, .bool ((!y2) && y3))]) (H0 := [(b0, ⟨6, [encClerk x]⟩)]) rfl (⟨_, _, rfl, rfl, ⟨_, _, rfl, rfl, ⟨_, _, rfl, rfl, rfl⟩⟩⟩) (⟨_, _, rfl, rfl, rfl⟩) rfl ?_
   refine V.cond rfl (fun hc2 => ?_) (fun hc2 => ?_)
   ·
    replace hm0 := cond_t hc2 hm0
    refine V.seq ?_
    refine V.region ?_
    refine VO.cons rfl (V1.move rfl rfl rfl (ltb rfl) ?_)
    refine VO.cons rfl (V1.assign rfl rfl rfl (ltb rfl) ?_)
    refine VO.nil ?_
    refine V.ret ?_
    obtain rfl := Option.some.inj hm0
    exact ⟨_, [], ⟨_, _, rfl, rfl, rfl⟩, List.nil_sublist _, rfl, rfl⟩
   ·
    replace hm0 := cond_f hc2 hm0
    refine V.skip ?_
    refine V.seq ?_
    refine V.region ?_
    refine VO.cons rfl (V1.fieldRef rfl rfl fo_34_2 rfl (ltb rfl) ?_)
    refine VO.cons rfl (V1.loadRef (k := 0) rfl rfl tyk_3 rfl rfl rfl rfl rfl (ltb rfl) ?_)
    refine VO.cons rfl (V1.assign rfl rfl rfl (ltb rfl) ?_)
    refine VO.nil ?_
    refine V.ret ?_
    obtain rfl := Option.some.inj hm0
    exact ⟨_, [], ⟨_, _, rfl, rfl, rfl⟩, List.nil_sublist _, rfl, rfl⟩
  ·
   replace hm0 := cond_f hc1 hm0
   refine V.skip ?_
   refine V.keep 45 [4] [0] (E0 := [(4, .ref b0 6 0 0)]) (H0 := [(b0, ⟨6, [encClerk x]⟩)]) rfl (⟨_, _, rfl, rfl, rfl⟩) (⟨_, _, rfl, rfl, rfl⟩) rfl ?_
   refine V.seq ?_
   refine V.region ?_
   refine VO.cons rfl (V1.fieldRef rfl rfl fo_34_2 rfl (ltb rfl) ?_)
   refine VO.cons rfl (V1.loadRef (k := 0) rfl rfl tyk_3 rfl rfl rfl rfl rfl (ltb rfl) ?_)
   refine VO.cons rfl (V1.assign rfl rfl rfl (ltb rfl) ?_)
   refine VO.nil ?_
   refine V.ret ?_
   obtain rfl := Option.some.inj hm0
   exact ⟨_, [], ⟨_, _, rfl, rfl, rfl⟩, List.nil_sublist _, rfl, rfl⟩

theorem ok_impl_whoMay {ρ0 rn : Nat} {list : List Clerk} {rights : Int} {day : Int} {r : List Int} (h : M.impl_whoMay list rights day = some r) : Does Tryd.prog 42 [.vl ρ0 6 (List.map encClerk list), .int .i64 rights, .int .i64 day] [] rn (fun x H => ∃ (ob0_ : Option Nat), (ob0_ = none → r = []) ∧ x = optS 1 ob0_ (List.length r) ∧ H = optH 1 ob0_ (List.map encInt r)) := by
 have hm0 := h; clear h; unfold M.impl_whoMay at hm0
 try dsimp only at hm0
 refine Does.intro (N := 31) Tryd.func42 rfl rfl rfl rfl ?_
 intro w0 S0
 refine V.seq ?_
 refine V.region ?_
 refine VO.cons rfl (V1.assign rfl rfl rfl (ltb rfl) ?_)
 refine VO.nil ?_
 refine V.seq ?_
 refine V.region ?_
 refine VO.cons rfl (V1.assign rfl rfl rfl (ltb rfl) ?_)
 refine VO.nil ?_
 refine V.seq ?_
 refine V.seq ?_
 refine V.region ?_
 refine VO.cons rfl (V1.move rfl rfl rfl (ltb rfl) ?_)
 refine VO.cons rfl (V1.lenMap rfl rfl rfl rfl rfl rfl isl_24 (ltb rfl) ?_)
 refine VO.cons rfl (V1.move rfl rfl rfl (ltb rfl) ?_)
 refine VO.nil ?_
 replace hm0 := bindO hm0; rcases hm0 with ⟨e0, he1, hm0⟩
 refine V.cutT (D := (List Int) × (Option Nat)) (fun ⟨ids, ob0⟩ => ⟨31, [(7, optS 1 ob0 (List.length ids))], optH 1 ob0 (List.map encInt ids)⟩) (fun ⟨ids, ob0⟩ => (ids = e0) ∧ (ob0 = none → ids = [])) ?_ ?_
 ·
  refine V.block ?_
  refine V.keep 31 [7, 12, 0, 1, 2, 10, 11] [] (E0 := [(7, .nils), (12, .int .i64 (0 : Int)), (0, .vl ρ0 6 (List.map encClerk list)), (1, .int .i64 rights), (2, .int .i64 day), (10, .vl ρ0 6 (List.map encClerk list)), (11, .int .i64 (list.length : Int))]) (H0 := []) rfl (⟨_, _, rfl, rfl, ⟨_, _, rfl, rfl, ⟨_, _, rfl, rfl, ⟨_, _, rfl, rfl, ⟨_, _, rfl, rfl, ⟨_, _, rfl, rfl, ⟨_, _, rfl, rfl, rfl⟩⟩⟩⟩⟩⟩⟩) (rfl) rfl ?_
  refine V.loopE (D := Nat × (List Int × Int) × (Option Nat)) (fun ⟨n0, ⟨ids0, v⟩, ob1⟩ => [(7, optS 1 ob1 (List.length ids0)), (12, .int .i64 v)]) (fun ⟨n0, ⟨ids0, v⟩, ob1⟩ => optH 1 ob1 (List.map encInt ids0)) (fun ⟨n0, ⟨ids0, v⟩, ob1⟩ => loopO (M.impl_whoMay_l0 list rights day) n0 (ids0, v) = some e0 ∧ (ob1 = none → ids0 = [])) (fun ⟨n0, _, _⟩ => n0) (rounds, (([] : List Int), (0 : Int)), none) rfl ⟨he1, (fun _ => rfl)⟩ ?_
  rintro ⟨n0, ⟨ids0, v⟩, ob1⟩ ⟨hP0, hob1⟩
  obtain ⟨m0, y0, rfl, hm1, hl1, hr1⟩ := loop_head hP0
  unfold M.impl_whoMay_l0 at hm1; dsimp only at hm1
  rcases ob1 with _ | ob1
  ·
   replace hob1 := hob1 rfl
   show V _ _ _ ⟨31, [(7, .nils), (12, .int .i64 v), (0, .vl ρ0 6 (List.map encClerk list)), (1, .int .i64 rights), (2, .int .i64 day), (10, .vl ρ0 6 (List.map encClerk list)), (11, .int .i64 (list.length : Int))], []⟩
   refine V.seq ?_
   refine V.region ?_
   refine VO.cons rfl (V1.int rfl rfl rfl rfl rfl (ltb rfl) ?_)
   refine VO.nil ?_
   refine V.seq ?_
   refine V.cond rfl (fun hc0 => ?_) (fun hc0 => ?_)
   ·
    replace hm1 := cond_t hc0 hm1
    refine V.skip ?_
    refine V.seq ?_
    replace hm1 := bindO hm1; rcases hm1 with ⟨j0, hm2, hm1⟩
    refine V.cutT (D := (List Int) × (Option Nat)) (fun ⟨ids1, ob2⟩ => ⟨31, [(7, optS 1 ob2 (List.length ids1)), (0, .vl ρ0 6 (List.map encClerk list)), (1, .int .i64 rights), (2, .int .i64 day), (10, .vl ρ0 6 (List.map encClerk list)), (11, .int .i64 (list.length : Int)), (12, .int .i64 v)], optH 1 ob2 (List.map encInt ids1)⟩) (fun ⟨ids1, ob2⟩ => (ids1 = j0) ∧ (ob2 = none → ids1 = [])) ?_ ?_
    ·
     refine V.block ?_
     refine V.seq ?_
     replace hm2 := asrt_some hm2; rcases hm2 with ⟨hh0, hm2⟩
     refine V.region ?_
     refine VO.cons rfl (V1.indexI rfl rfl esz_24 rfl rfl hh0 (ltb rfl) ?_)
     refine VO.cons rfl (V1.loadPinAll rfl rfl tyk_34 rfl rfl (ltb rfl) ?_)
     refine VO.cons rfl (V1.alloc rfl rfl zk_34 (ltb rfl) ?_)
     intro b0
     refine VO.cons rfl (V1.storeRefAll (k := 0) rfl rfl tyk_34 rfl rfl rfl rfl rfl rfl ?_)
     refine VO.nil ?_
     refine V.seq ?_
     replace hm2 := bindO hm2; rcases hm2 with ⟨y1, hh1, hm2⟩
     refine V.region ?_
     refine VO.cons rfl (V1.move rfl rfl rfl (ltb rfl) ?_)
     refine VO.cons rfl (V1.loadRefAll (k := 0) rfl rfl tyk_34 rfl rfl rfl rfl rfl (ltb rfl) ?_)
     refine VO.cons rfl (V1.move rfl rfl rfl (ltb rfl) ?_)
     refine VO.cons rfl (V1.call rfl rfl rfl cok_48 rfl (ok_impl_rightsOn hh1) rfl (ltb rfl) ?_)
     rintro _ _ ⟨rfl, rfl⟩
     refine VO.cons rfl (V1.move rfl rfl rfl (ltb rfl) ?_)
     refine VO.cons rfl (V1.int rfl rfl rfl rfl rfl (ltb rfl) ?_)
     refine VO.cons rfl (V1.move rfl rfl rfl (ltb rfl) ?_)
     refine VO.cons rfl (V1.int rfl rfl rfl rfl rfl (ltb rfl) ?_)
     refine VO.nil ?_
     refine V.keep 31 [0, 1, 2, 7, 9, 10, 11, 12, 23] [0] (E0 := [(0, .vl ρ0 6 (List.map encClerk list)), (1, .int .i64 rights), (2, .int .i64 day), (7, .nils), (9, .ref b0 6 0 0), (10, .vl ρ0 6 (List.map encClerk list)), (11, .int .i64 (list.length : Int)), (12, .int .i64 v), (23, .bool ((IntKind.i64.wrap (BitVec.ofInt IntKind.i64.bits y1 &&& BitVec.ofInt IntKind.i64.bits rights).toNat) == rights))]) (H0 := [(b0, ⟨6, [encClerk (list.getD (Int.toNat v) default)]⟩)]) rfl (⟨_, _, rfl, rfl, ⟨_, _, rfl, rfl, ⟨_, _, rfl, rfl, ⟨_, _, rfl, rfl, ⟨_, _, rfl, rfl, ⟨_, _, rfl, rfl, ⟨_, _, rfl, rfl, ⟨_, _, rfl, rfl, ⟨_, _, rfl, rfl, rfl⟩⟩⟩⟩⟩⟩⟩⟩⟩) (⟨_, _, rfl, rfl, rfl⟩) rfl ?_
     refine V.cond rfl (fun hc1 => ?_) (fun hc1 => ?_)
     ·
      replace hm2 := cond_t hc1 hm2
      replace hm2 := asrt_some hm2; rcases hm2 with ⟨hh2, hm2⟩
      refine V.region ?_
      refine VO.cons rfl (V1.move rfl rfl rfl (ltb rfl) ?_)
      refine VO.cons rfl (V1.fieldRef rfl rfl fo_34_0 rfl (ltb rfl) ?_)
      refine VO.cons rfl (V1.loadRef (k := 0) rfl rfl tyk_3 rfl rfl rfl rfl rfl (ltb rfl) ?_)
      refine VO.cons rfl (V1.buildSliceT (f := encInt) ([(list.getD (Int.toNat v) default).Id] : List Int) rfl rfl esz_27 zk_3 rfl rfl rfl rfl rfl rfl rfl (ltb rfl) ?_)
      intro b1
      refine VO.cons rfl (V1.appendNilE (f := encInt) (l := ids0) (m := ([(list.getD (Int.toNat v) default).Id] : List Int)) hob1 rfl rfl rfl rfl rfl esz_27 eby_27 zk_3 rfl rfl rfl (SrcOf.srMap (k := 0) rfl isl_27) rfl hh2 (ltb rfl) ?_)
      intro b2
      refine VO.cons rfl (V1.assign rfl rfl rfl (ltb rfl) ?_)
      refine VO.nil ?_
      exact ⟨((ids0 ++ ([(list.getD (Int.toNat v) default).Id] : List Int)), (some b2)), ⟨Option.some.inj hm2, (fun e => by cases e)⟩, Keeps.mk (ks := [0]) rfl ⟨rfl, rfl, rfl, rfl, rfl, rfl, rfl, trivial⟩ (⟨_, _, rfl, rfl, rfl⟩) rfl⟩
     ·
      replace hm2 := cond_f hc1 hm2
      refine V.skip ?_
      exact ⟨(ids0, none), ⟨Option.some.inj hm2, (fun _ => hob1)⟩, Keeps.mk (ks := []) rfl ⟨rfl, rfl, rfl, rfl, rfl, rfl, rfl, trivial⟩ (rfl) rfl⟩
    ·
     rintro ⟨ids1, ob2⟩ ⟨rfl, hob2⟩
     try dsimp only at hm1
     rcases ob2 with _ | ob2
     ·
      replace hob2 := hob2 rfl
      refine V.region ?_
      refine VO.cons rfl (V1.int rfl rfl rfl rfl rfl (ltb rfl) ?_)
      refine VO.cons rfl (V1.move rfl rfl rfl (ltb rfl) ?_)
      refine VO.nil ?_
      exact ⟨(m0, (ids1, (IntKind.i64.wrap (v + (1 : Int)))), none), ⟨hl1 _ (Option.some.inj hm1).symm, (fun _ => hob2)⟩, Nat.lt_succ_self _, Keeps.mk (ks := []) rfl ⟨rfl, rfl, rfl, rfl, rfl, rfl, rfl, trivial⟩ (rfl) rfl⟩
     ·
      refine V.region ?_
      refine VO.cons rfl (V1.int rfl rfl rfl rfl rfl (ltb rfl) ?_)
      refine VO.cons rfl (V1.move rfl rfl rfl (ltb rfl) ?_)
      refine VO.nil ?_
      exact ⟨(m0, (ids1, (IntKind.i64.wrap (v + (1 : Int)))), (some ob2)), ⟨hl1 _ (Option.some.inj hm1).symm, (fun e => by cases e)⟩, Nat.lt_succ_self _, Keeps.mk (ks := [0]) rfl ⟨rfl, rfl, rfl, rfl, rfl, rfl, rfl, trivial⟩ (⟨_, _, rfl, rfl, rfl⟩) rfl⟩
   ·
    replace hm1 := cond_f hc0 hm1
    refine V.exit ?_
    obtain rfl := hr1 _ (Option.some.inj hm1).symm
    exact ⟨(ids0, none), ⟨rfl, (fun _ => hob1)⟩, Keeps.mk (ks := []) rfl ⟨rfl, trivial⟩ (rfl) rfl⟩
  ·
   show V _ _ _ ⟨31, [(7, .sref ob1 1 0 (List.length ids0)), (12, .int .i64 v), (0, .vl ρ0 6 (List.map encClerk list)), (1, .int .i64 rights), (2, .int .i64 day), (10, .vl ρ0 6 (List.map encClerk list)), (11, .int .i64 (list.length : Int))], [(ob1, ⟨1, List.map encInt ids0⟩)]⟩
   refine V.seq ?_
   refine V.region ?_
   refine VO.cons rfl (V1.int rfl rfl rfl rfl rfl (ltb rfl) ?_)
   refine VO.nil ?_
   refine V.seq ?_
   refine V.cond rfl (fun hc0 => ?_) (fun hc0 => ?_)
   ·
    replace hm1 := cond_t hc0 hm1
    refine V.skip ?_
    refine V.seq ?_
    replace hm1 := bindO hm1; rcases hm1 with ⟨j0, hm2, hm1⟩
    refine V.cutT (D := (List Int) × (Nat)) (fun ⟨ids1, b0⟩ => ⟨31, [(7, .sref b0 1 0 (List.length ids1)), (0, .vl ρ0 6 (List.map encClerk list)), (1, .int .i64 rights), (2, .int .i64 day), (10, .vl ρ0 6 (List.map encClerk list)), (11, .int .i64 (list.length : Int)), (12, .int .i64 v)], [(b0, ⟨1, List.map encInt ids1⟩)]⟩) (fun ⟨ids1, b0⟩ => (ids1 = j0)) ?_ ?_
    ·
     refine V.block ?_
     refine V.seq ?_
     replace hm2 := asrt_some hm2; rcases hm2 with ⟨hh0, hm2⟩
     refine V.region ?_
     refine VO.cons rfl (V1.indexI rfl rfl esz_24 rfl rfl hh0 (ltb rfl) ?_)
     refine VO.cons rfl (V1.loadPinAll rfl rfl tyk_34 rfl rfl (ltb rfl) ?_)
     refine VO.cons rfl (V1.alloc rfl rfl zk_34 (ltb rfl) ?_)
     intro b1
     refine VO.cons rfl (V1.storeRefAll (k := 0) rfl rfl tyk_34 rfl rfl rfl rfl rfl rfl ?_)
     refine VO.nil ?_
     refine V.seq ?_
     replace hm2 := bindO hm2; rcases hm2 with ⟨y1, hh1, hm2⟩
     refine V.region ?_
     refine VO.cons rfl (V1.move rfl rfl rfl (ltb rfl) ?_)
     refine VO.cons rfl (V1.loadRefAll (k := 0) rfl rfl tyk_34 rfl rfl rfl rfl rfl (ltb rfl) ?_)
     refine VO.cons rfl (V1.move rfl rfl rfl (ltb rfl) ?_)
     refine VO.cons rfl (V1.call rfl rfl rfl cok_48 rfl (ok_impl_rightsOn hh1) rfl (ltb rfl) ?_)
     rintro _ _ ⟨rfl, rfl⟩
     refine VO.cons rfl (V1.move rfl rfl rfl (ltb rfl) ?_)
     refine VO.cons rfl (V1.int rfl rfl rfl rfl rfl (ltb rfl) ?_)
     refine VO.cons rfl (V1.move rfl rfl rfl (ltb rfl) ?_)
     refine VO.cons rfl (V1.int rfl rfl rfl rfl rfl (ltb rfl) ?_)
     refine VO.nil ?_
     refine V.keep 31 [0, 1, 2, 7, 9, 10, 11, 12, 23] [0, 1] (E0 := [(0, .vl ρ0 6 (List.map encClerk list)), (1, .int .i64 rights), (2, .int .i64 day), (7, .sref ob1 1 0 (List.length ids0)), (9, .ref b1 6 0 0), (10, .vl ρ0 6 (List.map encClerk list)), (11, .int .i64 (list.length : Int)), (12, .int .i64 v), (23, .bool ((IntKind.i64.wrap (BitVec.ofInt IntKind.i64.bits y1 &&& BitVec.ofInt IntKind.i64.bits rights).toNat) == rights))]) (H0 := [(b1, ⟨6, [encClerk (list.getD (Int.toNat v) default)]⟩), (ob1, ⟨1, List.map encInt ids0⟩)]) rfl (⟨_, _, rfl, rfl, ⟨_, _, rfl, rfl, ⟨_, _, rfl, rfl, ⟨_, _, rfl, rfl, ⟨_, _, rfl, rfl, ⟨_, _, rfl, rfl, ⟨_, _, rfl, rfl, ⟨_, _, rfl, rfl, ⟨_, _, rfl, rfl, rfl⟩⟩⟩⟩⟩⟩⟩⟩⟩) (⟨_, _, rfl, rfl, ⟨_, _, rfl, rfl, rfl⟩⟩) rfl ?_
     refine V.cond rfl (fun hc1 => ?_) (fun hc1 => ?_)
     ·
      replace hm2 := cond_t hc1 hm2
      replace hm2 := asrt_some hm2; rcases hm2 with ⟨hh2, hm2⟩
      refine V.region ?_
      refine VO.cons rfl (V1.move rfl rfl rfl (ltb rfl) ?_)
      refine VO.cons rfl (V1.fieldRef rfl rfl fo_34_0 rfl (ltb rfl) ?_)
      refine VO.cons rfl (V1.loadRef (k := 0) rfl rfl tyk_3 rfl rfl rfl rfl rfl (ltb rfl) ?_)
      refine VO.cons rfl (V1.buildSliceT (f := encInt) ([(list.getD (Int.toNat v) default).Id] : List Int) rfl rfl esz_27 zk_3 rfl rfl rfl rfl rfl rfl rfl (ltb rfl) ?_)
      intro b2
      refine VO.cons rfl (V1.appendMap (k := 2) (f := encInt) (l := ids0) (m := ([(list.getD (Int.toNat v) default).Id] : List Int)) rfl rfl rfl rfl rfl esz_27 eby_27 zk_3 rfl rfl rfl (SrcOf.srMap (k := 0) rfl isl_27) hh2 (ltb rfl) ?_)
      intro b3
      refine VO.cons rfl (V1.assign rfl rfl rfl (ltb rfl) ?_)
      refine VO.nil ?_
      exact ⟨((ids0 ++ ([(list.getD (Int.toNat v) default).Id] : List Int)), b3), Option.some.inj hm2, Keeps.mk (ks := [0]) rfl ⟨rfl, rfl, rfl, rfl, rfl, rfl, rfl, trivial⟩ (⟨_, _, rfl, rfl, rfl⟩) rfl⟩
     ·
      replace hm2 := cond_f hc1 hm2
      refine V.skip ?_
      exact ⟨(ids0, ob1), Option.some.inj hm2, Keeps.mk (ks := [1]) rfl ⟨rfl, rfl, rfl, rfl, rfl, rfl, rfl, trivial⟩ (⟨_, _, rfl, rfl, rfl⟩) rfl⟩
    ·
     rintro ⟨ids1, b0⟩ rfl
     try dsimp only at hm1
     refine V.region ?_
     refine VO.cons rfl (V1.int rfl rfl rfl rfl rfl (ltb rfl) ?_)
     refine VO.cons rfl (V1.move rfl rfl rfl (ltb rfl) ?_)
     refine VO.nil ?_
     exact ⟨(m0, (ids1, (IntKind.i64.wrap (v + (1 : Int)))), (some b0)), ⟨hl1 _ (Option.some.inj hm1).symm, (fun e => by cases e)⟩, Nat.lt_succ_self _, Keeps.mk (ks := [0]) rfl ⟨rfl, rfl, rfl, rfl, rfl, rfl, rfl, trivial⟩ (⟨_, _, rfl, rfl, rfl⟩) rfl⟩
   ·
    replace hm1 := cond_f hc0 hm1
    refine V.exit ?_
    obtain rfl := hr1 _ (Option.some.inj hm1).symm
    exact ⟨(ids0, (some ob1)), ⟨rfl, (fun e => by cases e)⟩, Keeps.mk (ks := [0]) rfl ⟨rfl, trivial⟩ (⟨_, _, rfl, rfl, rfl⟩) rfl⟩
 ·
  rintro ⟨ids, ob0⟩ ⟨rfl, hob0⟩
  try dsimp only at hm0
  rcases ob0 with _ | ob0
  ·
   replace hob0 := hob0 rfl
   refine V.seq ?_
   refine V.region ?_
   refine VO.cons rfl (V1.move rfl rfl rfl (ltb rfl) ?_)
   refine VO.cons rfl (V1.assign rfl rfl rfl (ltb rfl) ?_)
   refine VO.nil ?_
   refine V.keep 31 [6] [] (E0 := [(6, .nils)]) (H0 := []) rfl (⟨_, _, rfl, rfl, rfl⟩) (rfl) rfl ?_
   refine V.ret ?_
   obtain rfl := Option.some.inj hm0
   exact ⟨_, _, ⟨_, _, rfl, rfl, rfl⟩, List.Sublist.refl _, none, (fun _ => hob0), rfl, rfl⟩
  ·
   refine V.seq ?_
   refine V.region ?_
   refine VO.cons rfl (V1.move rfl rfl rfl (ltb rfl) ?_)
   refine VO.cons rfl (V1.assign rfl rfl rfl (ltb rfl) ?_)
   refine VO.nil ?_
   refine V.keep 31 [6] [0] (E0 := [(6, .sref ob0 1 0 (List.length ids))]) (H0 := [(ob0, ⟨1, List.map encInt ids⟩)]) rfl (⟨_, _, rfl, rfl, rfl⟩) (⟨_, _, rfl, rfl, rfl⟩) rfl ?_
   refine V.ret ?_
   obtain rfl := Option.some.inj hm0
   exact ⟨_, _, ⟨_, _, rfl, rfl, rfl⟩, List.Sublist.refl _, some ob0, (fun e => by cases e), rfl, rfl⟩

theorem ok_impl_DaysWithout {ρ0 rn : Nat} {list : List Clerk} {rights : Int} {from_ : Int} {to_ : Int} {r : List Int × Bool} (h : M.impl_DaysWithout list rights from_ to_ = some r) : Does Tryd.prog 29 [.vl ρ0 6 (List.map encClerk list), .int .i64 rights, .int .i64 from_, .int .i64 to_] [] rn (fun x H => ∃ (ob0_ : Option Nat), (ob0_ = none → r.1 = []) ∧ x = .tup [optS 1 ob0_ (List.length r.1), .bool r.2] ∧ H = optH 1 ob0_ (List.map encInt r.1)) := by
 have hm0 := h; clear h; unfold M.impl_DaysWithout at hm0
 try dsimp only at hm0
 refine Does.intro (N := 49) Tryd.func29 rfl rfl rfl rfl ?_
 intro w0 S0
 refine V.seq ?_
 refine V.region ?_
 refine VO.cons rfl (V1.assign rfl rfl rfl (ltb rfl) ?_)
 refine VO.cons rfl (V1.assign rfl rfl rfl (ltb rfl) ?_)
 refine VO.nil ?_
 refine V.seq ?_
 refine V.seq ?_
 replace hm0 := bindO hm0; rcases hm0 with ⟨y0, hh0, hm0⟩
 replace hm0 := bindO hm0; rcases hm0 with ⟨y1, hh1, hm0⟩
 replace hm0 := bindO hm0; rcases hm0 with ⟨y2, hh2, hm0⟩
 refine V.region ?_
 refine VO.cons rfl (V1.move rfl rfl rfl (ltb rfl) ?_)
 refine VO.cons rfl (V1.call rfl rfl rfl cok_20 rfl (ok_impl_AreClerks hh0) rfl (ltb rfl) ?_)
 rintro _ _ ⟨rfl, rfl⟩
 refine VO.cons rfl (V1.not rfl rfl rfl (ltb rfl) ?_)
 refine VO.cons rfl (V1.move rfl rfl rfl (ltb rfl) ?_)
 apply VO.or (n := 3) rfl rfl rfl rfl rfl rfl (ltb rfl) (.none rfl)
 ·
  intro hg0
  refine VO.step (.some rfl rfl rfl) (V1.move rfl rfl rfl (ltb rfl) ?_)
  refine VO.step (.some rfl rfl rfl) (V1.call rfl rfl rfl cok_40 rfl (ok_impl_isNeed (cond_f hg0 hh1)) rfl (ltb rfl) ?_)
  rintro _ _ ⟨rfl, rfl⟩
  refine VO.step (.some rfl rfl rfl) (V1.not rfl rfl rfl (ltb rfl) ?_)
  exact VO.nil ⟨rfl, rfl, rfl, rfl, .inr ⟨rfl, .inr ⟨rfl, .inr ⟨rfl, .inr ⟨rfl, .inl rfl⟩⟩⟩⟩⟩
 refine VO.cons rfl (V1.move rfl rfl rfl (ltb rfl) ?_)
 apply VO.or (n := 4) rfl rfl rfl rfl rfl rfl (ltb rfl) (.none rfl)
 ·
  intro hg1
  refine VO.step (.some rfl rfl rfl) (V1.move rfl rfl rfl (ltb rfl) ?_)
  refine VO.step (.some rfl rfl rfl) (V1.move rfl rfl rfl (ltb rfl) ?_)
  refine VO.step (.some rfl rfl rfl) (V1.call rfl rfl rfl cok_61 rfl (ok_impl_areDays (cond_f hg1 hh2)) rfl (ltb rfl) ?_)
  rintro _ _ ⟨rfl, rfl⟩
  refine VO.step (.some rfl rfl rfl) (V1.not rfl rfl rfl (ltb rfl) ?_)
  exact VO.nil ⟨rfl, rfl, rfl, rfl, .inr ⟨rfl, .inr ⟨rfl, .inr ⟨rfl, .inr ⟨rfl, .inr ⟨rfl, .inl rfl⟩⟩⟩⟩⟩⟩
 refine VO.cons rfl (V1.move rfl rfl rfl (ltb rfl) ?_)
 apply VO.or (n := 4) rfl rfl rfl rfl rfl rfl (ltb rfl) (.none rfl)
 ·
  intro hg2
  refine VO.step (.some rfl rfl rfl) (V1.move rfl rfl rfl (ltb rfl) ?_)
  refine VO.step (.some rfl rfl rfl) (V1.move rfl rfl rfl (ltb rfl) ?_)
  refine VO.step (.some rfl rfl rfl) (V1.int rfl rfl rfl rfl rfl (ltb rfl) ?_)
  refine VO.step (.some rfl rfl rfl) (V1.int rfl rfl rfl rfl rfl (ltb rfl) ?_)
  exact VO.nil ⟨rfl, rfl, rfl, rfl, .inr ⟨rfl, .inr ⟨rfl, .inr ⟨rfl, .inr ⟨rfl, .inr ⟨rfl, .inl rfl⟩⟩⟩⟩⟩⟩
 refine VO.nil ?_
 refine V.keep 49 [0, 1, 2, 3, 31] [] (E0 := [(0, .vl ρ0 6 (List.map encClerk list)), (1, .int .i64 rights), (2, .int .i64 from_), (3, .int .i64 to_), (31, .bool ((((!y0) || (!y1)) || (!y2)) || (decide ((IntKind.i64.wrap (to_ - from_)) > (200 : Int)))))]) (H0 := []) rfl (⟨_, _, rfl, rfl, ⟨_, _, rfl, rfl, ⟨_, _, rfl, rfl, ⟨_, _, rfl, rfl, ⟨_, _, rfl, rfl, rfl⟩⟩⟩⟩⟩) (rfl) rfl ?_
 refine V.cond rfl (fun hc0 => ?_) (fun hc0 => ?_)
 ·
  replace hm0 := cond_t hc0 hm0
  refine V.seq ?_
  refine V.region ?_
  refine VO.cons rfl (V1.assign rfl rfl rfl (ltb rfl) ?_)
  refine VO.cons rfl (V1.assign rfl rfl rfl (ltb rfl) ?_)
  refine VO.nil ?_
  refine V.keep 49 [8, 9] [] (E0 := [(8, .nils), (9, .bool false)]) (H0 := []) rfl (⟨_, _, rfl, rfl, ⟨_, _, rfl, rfl, rfl⟩⟩) (rfl) rfl ?_
  refine V.ret ?_
  obtain rfl := Option.some.inj hm0
  exact ⟨_, _, ⟨_, _, rfl, rfl, ⟨_, _, rfl, rfl, rfl⟩⟩, List.Sublist.refl _, none, (fun _ => rfl), rfl, rfl⟩
 ·
  replace hm0 := cond_f hc0 hm0
  refine V.skip ?_
  refine V.seq ?_
  refine V.region ?_
  refine VO.cons rfl (V1.assign rfl rfl rfl (ltb rfl) ?_)
  refine VO.nil ?_
  refine V.seq ?_
  refine V.seq ?_
  refine V.region ?_
  refine VO.cons rfl (V1.move rfl rfl rfl (ltb rfl) ?_)
  refine VO.cons rfl (V1.assign rfl rfl rfl (ltb rfl) ?_)
  refine VO.nil ?_
  replace hm0 := bindO hm0; rcases hm0 with ⟨e0, he1, hm0⟩
  refine V.cutT (D := (List Int) × (Option Nat)) (fun ⟨days, ob0⟩ => ⟨49, [(10, optS 1 ob0 (List.length days))], optH 1 ob0 (List.map encInt days)⟩) (fun ⟨days, ob0⟩ => (days = e0) ∧ (ob0 = none → days = [])) ?_ ?_
  ·
   refine V.block ?_
   refine V.keep 49 [10, 11, 0, 1, 3] [] (E0 := [(10, .nils), (11, .int .i64 from_), (0, .vl ρ0 6 (List.map encClerk list)), (1, .int .i64 rights), (3, .int .i64 to_)]) (H0 := []) rfl (⟨_, _, rfl, rfl, ⟨_, _, rfl, rfl, ⟨_, _, rfl, rfl, ⟨_, _, rfl, rfl, ⟨_, _, rfl, rfl, rfl⟩⟩⟩⟩⟩) (rfl) rfl ?_
   refine V.loopE (D := Nat × (List Int × Int) × (Option Nat)) (fun ⟨n0, ⟨days0, day⟩, ob1⟩ => [(10, optS 1 ob1 (List.length days0)), (11, .int .i64 day)]) (fun ⟨n0, ⟨days0, day⟩, ob1⟩ => optH 1 ob1 (List.map encInt days0)) (fun ⟨n0, ⟨days0, day⟩, ob1⟩ => loopO (M.impl_DaysWithout_l0 list rights to_) n0 (days0, day) = some e0 ∧ (ob1 = none → days0 = [])) (fun ⟨n0, _, _⟩ => n0) (rounds, (([] : List Int), from_), none) rfl ⟨he1, (fun _ => rfl)⟩ ?_
   rintro ⟨n0, ⟨days0, day⟩, ob1⟩ ⟨hP0, hob1⟩
   obtain ⟨m0, y3, rfl, hm1, hl1, hr1⟩ := loop_head hP0
   unfold M.impl_DaysWithout_l0 at hm1; dsimp only at hm1
   rcases ob1 with _ | ob1
   ·
    replace hob1 := hob1 rfl
    show V _ _ _ ⟨49, [(10, .nils), (11, .int .i64 day), (0, .vl ρ0 6 (List.map encClerk list)), (1, .int .i64 rights), (3, .int .i64 to_)], []⟩
    refine V.seq ?_
    refine V.seq ?_
    refine V.region ?_
    refine VO.cons rfl (V1.move rfl rfl rfl (ltb rfl) ?_)
    refine VO.cons rfl (V1.move rfl rfl rfl (ltb rfl) ?_)
    refine VO.cons rfl (V1.int rfl rfl rfl rfl rfl (ltb rfl) ?_)
    refine VO.nil ?_
    refine V.cond rfl (fun hc1 => ?_) (fun hc1 => ?_)
    ·
     replace hm1 := cond_t hc1 hm1
     refine V.skip ?_
     refine V.seq ?_
     replace hm1 := bindO hm1; rcases hm1 with ⟨j0, hm2, hm1⟩
     refine V.cutT (D := (List Int) × (Option Nat)) (fun ⟨days1, ob2⟩ => ⟨49, [(10, optS 1 ob2 (List.length days1)), (0, .vl ρ0 6 (List.map encClerk list)), (1, .int .i64 rights), (3, .int .i64 to_), (11, .int .i64 day)], optH 1 ob2 (List.map encInt days1)⟩) (fun ⟨days1, ob2⟩ => (days1 = j0) ∧ (ob2 = none → days1 = [])) ?_ ?_
     ·
      refine V.block ?_
      refine V.seq ?_
      replace hm2 := bindO hm2; rcases hm2 with ⟨y4, hh3, hm2⟩
      refine V.region ?_
      refine VO.cons rfl (V1.move rfl rfl rfl (ltb rfl) ?_)
      refine VO.cons rfl (V1.move rfl rfl rfl (ltb rfl) ?_)
      refine VO.cons rfl (V1.move rfl rfl rfl (ltb rfl) ?_)
      refine VO.cons rfl (V1.permK (V1.call rfl rfl rfl cok_42 rfl (ok_impl_whoMay hh3) rfl (ltb rfl) ?_))
      rintro _ _ ⟨ob3, hob3, rfl, rfl⟩
      refine ⟨_, ?_, Keeps.optBack (n := 1) (ob := ob3) (xs := List.map encInt y4) (H1 := []) (H2 := []) rfl⟩
      refine VO.weakenK (Keeps.optFront (n := 1) (ob := ob3) (xs := List.map encInt y4) (H1 := []) rfl) ?_
      refine VO.weakenK (Keeps.optVl 41 [] rn (f := encInt) (l := y4) (ob := ob3) (H1 := []) hob3 rfl rfl ⟨rfl, trivial⟩ (fun _ => rfl) rfl iNil) ?_
      refine VO.cons rfl (V1.lenMap rfl rfl rfl rfl rfl rfl isl_27 (ltb rfl) ?_)
      refine VO.cons rfl (V1.int rfl rfl rfl rfl rfl (ltb rfl) ?_)
      refine VO.nil ?_
      refine V.keep 49 [0, 1, 3, 10, 11, 43] [] (E0 := [(0, .vl ρ0 6 (List.map encClerk list)), (1, .int .i64 rights), (3, .int .i64 to_), (10, .nils), (11, .int .i64 day), (43, .bool ((y4.length : Int) == (0 : Int)))]) (H0 := []) rfl (⟨_, _, rfl, rfl, ⟨_, _, rfl, rfl, ⟨_, _, rfl, rfl, ⟨_, _, rfl, rfl, ⟨_, _, rfl, rfl, ⟨_, _, rfl, rfl, rfl⟩⟩⟩⟩⟩⟩) (rfl) rfl ?_
      refine V.cond rfl (fun hc2 => ?_) (fun hc2 => ?_)
      ·
       replace hm2 := cond_t hc2 hm2
       replace hm2 := asrt_some hm2; rcases hm2 with ⟨hh4, hm2⟩
       refine V.region ?_
       refine VO.cons rfl (V1.move rfl rfl rfl (ltb rfl) ?_)
       refine VO.cons rfl (V1.move rfl rfl rfl (ltb rfl) ?_)
       refine VO.cons rfl (V1.buildSliceT (f := encInt) ([day] : List Int) rfl rfl esz_27 zk_3 rfl rfl rfl rfl rfl rfl rfl (ltb rfl) ?_)
       intro b0
       refine VO.cons rfl (V1.appendNilE (f := encInt) (l := days0) (m := ([day] : List Int)) hob1 rfl rfl rfl rfl rfl esz_27 eby_27 zk_3 rfl rfl rfl (SrcOf.srMap (k := 0) rfl isl_27) rfl hh4 (ltb rfl) ?_)
       intro b1
       refine VO.cons rfl (V1.assign rfl rfl rfl (ltb rfl) ?_)
       refine VO.nil ?_
       exact ⟨((days0 ++ ([day] : List Int)), (some b1)), ⟨Option.some.inj hm2, (fun e => by cases e)⟩, Keeps.mk (ks := [0]) rfl ⟨rfl, rfl, rfl, rfl, rfl, trivial⟩ (⟨_, _, rfl, rfl, rfl⟩) rfl⟩
      ·
       replace hm2 := cond_f hc2 hm2
       refine V.skip ?_
       exact ⟨(days0, none), ⟨Option.some.inj hm2, (fun _ => hob1)⟩, Keeps.mk (ks := []) rfl ⟨rfl, rfl, rfl, rfl, rfl, trivial⟩ (rfl) rfl⟩
     ·
      rintro ⟨days1, ob2⟩ ⟨rfl, hob2⟩
      try dsimp only at hm1
      rcases ob2 with _ | ob2
      ·
       replace hob2 := hob2 rfl
       refine V.region ?_
       refine VO.cons rfl (V1.move rfl rfl rfl (ltb rfl) ?_)
       refine VO.cons rfl (V1.int rfl rfl rfl rfl rfl (ltb rfl) ?_)
       refine VO.cons rfl (V1.assign rfl rfl rfl (ltb rfl) ?_)
       refine VO.nil ?_
       exact ⟨(m0, (days1, (IntKind.i64.wrap (day + (1 : Int)))), none), ⟨hl1 _ (Option.some.inj hm1).symm, (fun _ => hob2)⟩, Nat.lt_succ_self _, Keeps.mk (ks := []) rfl ⟨rfl, rfl, rfl, rfl, rfl, trivial⟩ (rfl) rfl⟩
      ·
       refine V.region ?_
       refine VO.cons rfl (V1.move rfl rfl rfl (ltb rfl) ?_)
       refine VO.cons rfl (V1.int rfl rfl rfl rfl rfl (ltb rfl) ?_)
       refine VO.cons rfl (V1.assign rfl rfl rfl (ltb rfl) ?_)
       refine VO.nil ?_
       exact ⟨(m0, (days1, (IntKind.i64.wrap (day + (1 : Int)))), (some ob2)), ⟨hl1 _ (Option.some.inj hm1).symm, (fun e => by cases e)⟩, Nat.lt_succ_self _, Keeps.mk (ks := [0]) rfl ⟨rfl, rfl, rfl, rfl, rfl, trivial⟩ (⟨_, _, rfl, rfl, rfl⟩) rfl⟩
    ·
     replace hm1 := cond_f hc1 hm1
     refine V.exit ?_
     obtain rfl := hr1 _ (Option.some.inj hm1).symm
     exact ⟨(days0, none), ⟨rfl, (fun _ => hob1)⟩, Keeps.mk (ks := []) rfl ⟨rfl, trivial⟩ (rfl) rfl⟩
   ·
    show V _ _ _ ⟨49, [(10, .sref ob1 1 0 (List.length days0)), (11, .int .i64 day), (0, .vl ρ0 6 (List.map encClerk list)), (1, .int .i64 rights), (3, .int .i64 to_)], [(ob1, ⟨1, List.map encInt days0⟩)]⟩
    refine V.seq ?_
    refine V.seq ?_
    refine V.region ?_
    refine VO.cons rfl (V1.move rfl rfl rfl (ltb rfl) ?_)
    refine VO.cons rfl (V1.move rfl rfl rfl (ltb rfl) ?_)
    refine VO.cons rfl (V1.int rfl rfl rfl rfl rfl (ltb rfl) ?_)
    refine VO.nil ?_
    refine V.cond rfl (fun hc1 => ?_) (fun hc1 => ?_)
    ·
     replace hm1 := cond_t hc1 hm1
     refine V.skip ?_
     refine V.seq ?_
     replace hm1 := bindO hm1; rcases hm1 with ⟨j0, hm2, hm1⟩
     refine V.cutT (D := (List Int) × (Nat)) (fun ⟨days1, b0⟩ => ⟨49, [(10, .sref b0 1 0 (List.length days1)), (0, .vl ρ0 6 (List.map encClerk list)), (1, .int .i64 rights), (3, .int .i64 to_), (11, .int .i64 day)], [(b0, ⟨1, List.map encInt days1⟩)]⟩) (fun ⟨days1, b0⟩ => (days1 = j0)) ?_ ?_
     ·
      refine V.block ?_
      refine V.seq ?_
      replace hm2 := bindO hm2; rcases hm2 with ⟨y4, hh3, hm2⟩
      refine V.region ?_
      refine VO.cons rfl (V1.move rfl rfl rfl (ltb rfl) ?_)
      refine VO.cons rfl (V1.move rfl rfl rfl (ltb rfl) ?_)
      refine VO.cons rfl (V1.move rfl rfl rfl (ltb rfl) ?_)
      refine VO.cons rfl (V1.permK (V1.call rfl rfl rfl cok_42 rfl (ok_impl_whoMay hh3) rfl (ltb rfl) ?_))
      rintro _ _ ⟨ob2, hob2, rfl, rfl⟩
      refine ⟨_, ?_, Keeps.optBack (n := 1) (ob := ob2) (xs := List.map encInt y4) (H1 := []) (H2 := [(ob1, ⟨1, List.map encInt days0⟩)]) rfl⟩
      refine VO.weakenK (Keeps.optFront (n := 1) (ob := ob2) (xs := List.map encInt y4) (H1 := [(ob1, ⟨1, List.map encInt days0⟩)]) rfl) ?_
      refine VO.weakenK (Keeps.optVl 41 [] rn (f := encInt) (l := y4) (ob := ob2) (H1 := []) hob2 rfl rfl ⟨rfl, trivial⟩ (fun _ => rfl) rfl iNil) ?_
      refine VO.cons rfl (V1.lenMap rfl rfl rfl rfl rfl rfl isl_27 (ltb rfl) ?_)
      refine VO.cons rfl (V1.int rfl rfl rfl rfl rfl (ltb rfl) ?_)
      refine VO.nil ?_
      refine V.keep 49 [0, 1, 3, 10, 11, 43] [0] (E0 := [(0, .vl ρ0 6 (List.map encClerk list)), (1, .int .i64 rights), (3, .int .i64 to_), (10, .sref ob1 1 0 (List.length days0)), (11, .int .i64 day), (43, .bool ((y4.length : Int) == (0 : Int)))]) (H0 := [(ob1, ⟨1, List.map encInt days0⟩)]) rfl (⟨_, _, rfl, rfl, ⟨_, _, rfl, rfl, ⟨_, _, rfl, rfl, ⟨_, _, rfl, rfl, ⟨_, _, rfl, rfl, ⟨_, _, rfl, rfl, rfl⟩⟩⟩⟩⟩⟩) (⟨_, _, rfl, rfl, rfl⟩) rfl ?_
      refine V.cond rfl (fun hc2 => ?_) (fun hc2 => ?_)
      ·
       replace hm2 := cond_t hc2 hm2
       replace hm2 := asrt_some hm2; rcases hm2 with ⟨hh4, hm2⟩
       refine V.region ?_
       refine VO.cons rfl (V1.move rfl rfl rfl (ltb rfl) ?_)
       refine VO.cons rfl (V1.move rfl rfl rfl (ltb rfl) ?_)
       refine VO.cons rfl (V1.buildSliceT (f := encInt) ([day] : List Int) rfl rfl esz_27 zk_3 rfl rfl rfl rfl rfl rfl rfl (ltb rfl) ?_)
       intro b1
       refine VO.cons rfl (V1.appendMap (k := 1) (f := encInt) (l := days0) (m := ([day] : List Int)) rfl rfl rfl rfl rfl esz_27 eby_27 zk_3 rfl rfl rfl (SrcOf.srMap (k := 0) rfl isl_27) hh4 (ltb rfl) ?_)
       intro b2
       refine VO.cons rfl (V1.assign rfl rfl rfl (ltb rfl) ?_)
       refine VO.nil ?_
       exact ⟨((days0 ++ ([day] : List Int)), b2), Option.some.inj hm2, Keeps.mk (ks := [0]) rfl ⟨rfl, rfl, rfl, rfl, rfl, trivial⟩ (⟨_, _, rfl, rfl, rfl⟩) rfl⟩
      ·
       replace hm2 := cond_f hc2 hm2
       refine V.skip ?_
       exact ⟨(days0, ob1), Option.some.inj hm2, Keeps.mk (ks := [0]) rfl ⟨rfl, rfl, rfl, rfl, rfl, trivial⟩ (⟨_, _, rfl, rfl, rfl⟩) rfl⟩
     ·
      rintro ⟨days1, b0⟩ rfl
      try dsimp only at hm1
      refine V.region ?_
      refine VO.cons rfl (V1.move rfl rfl rfl (ltb rfl) ?_)
      refine VO.cons rfl (V1.int rfl rfl rfl rfl rfl (ltb rfl) ?_)
      refine VO.cons rfl (V1.assign rfl rfl rfl (ltb rfl) ?_)
      refine VO.nil ?_
      exact ⟨(m0, (days1, (IntKind.i64.wrap (day + (1 : Int)))), (some b0)), ⟨hl1 _ (Option.some.inj hm1).symm, (fun e => by cases e)⟩, Nat.lt_succ_self _, Keeps.mk (ks := [0]) rfl ⟨rfl, rfl, rfl, rfl, rfl, trivial⟩ (⟨_, _, rfl, rfl, rfl⟩) rfl⟩
    ·
     replace hm1 := cond_f hc1 hm1
     refine V.exit ?_
     obtain rfl := hr1 _ (Option.some.inj hm1).symm
     exact ⟨(days0, (some ob1)), ⟨rfl, (fun e => by cases e)⟩, Keeps.mk (ks := [0]) rfl ⟨rfl, trivial⟩ (⟨_, _, rfl, rfl, rfl⟩) rfl⟩
  ·
   rintro ⟨days, ob0⟩ ⟨rfl, hob0⟩
   try dsimp only at hm0
   rcases ob0 with _ | ob0
   ·
    replace hob0 := hob0 rfl
    refine V.seq ?_
    refine V.region ?_
    refine VO.cons rfl (V1.move rfl rfl rfl (ltb rfl) ?_)
    refine VO.cons rfl (V1.assign rfl rfl rfl (ltb rfl) ?_)
    refine VO.cons rfl (V1.assign rfl rfl rfl (ltb rfl) ?_)
    refine VO.nil ?_
    refine V.keep 49 [8, 9] [] (E0 := [(8, .nils), (9, .bool true)]) (H0 := []) rfl (⟨_, _, rfl, rfl, ⟨_, _, rfl, rfl, rfl⟩⟩) (rfl) rfl ?_
    refine V.ret ?_
    obtain rfl := Option.some.inj hm0
    exact ⟨_, _, ⟨_, _, rfl, rfl, ⟨_, _, rfl, rfl, rfl⟩⟩, List.Sublist.refl _, none, (fun _ => hob0), rfl, rfl⟩
   ·
    refine V.seq ?_
    refine V.region ?_
    refine VO.cons rfl (V1.move rfl rfl rfl (ltb rfl) ?_)
    refine VO.cons rfl (V1.assign rfl rfl rfl (ltb rfl) ?_)
    refine VO.cons rfl (V1.assign rfl rfl rfl (ltb rfl) ?_)
    refine VO.nil ?_
    refine V.keep 49 [8, 9] [0] (E0 := [(8, .sref ob0 1 0 (List.length days)), (9, .bool true)]) (H0 := [(ob0, ⟨1, List.map encInt days⟩)]) rfl (⟨_, _, rfl, rfl, ⟨_, _, rfl, rfl, rfl⟩⟩) (⟨_, _, rfl, rfl, rfl⟩) rfl ?_
    refine V.ret ?_
    obtain rfl := Option.some.inj hm0
    exact ⟨_, _, ⟨_, _, rfl, rfl, ⟨_, _, rfl, rfl, rfl⟩⟩, List.Sublist.refl _, some ob0, (fun e => by cases e), rfl, rfl⟩

theorem ok_spec_l11Sum {rn : Nat} {rights : Int} {r : Bool} (h : M.spec_l11Sum rights = some r) : Does Tryd.prog 44 [.int .i64 rights] [] rn (fun x H => x = .bool r ∧ H = []) := by
 have hm0 := h; clear h; unfold M.spec_l11Sum at hm0
 try dsimp only at hm0
 refine Does.intro (N := 5) Tryd.func44 rfl rfl rfl rfl ?_
 intro w0 S0
 refine V.seq ?_
 refine V.region ?_
 refine VO.cons rfl (V1.assign rfl rfl rfl (ltb rfl) ?_)
 refine VO.nil ?_
 refine V.seq ?_
 replace hm0 := bindO hm0; rcases hm0 with ⟨y0, hh0, hm0⟩
 refine V.region ?_
 refine VO.cons rfl (V1.move rfl rfl rfl (ltb rfl) ?_)
 refine VO.cons rfl (V1.call rfl rfl rfl cok_62 rfl (ok_spec_l1In hh0) rfl (ltb rfl) ?_)
 rintro _ _ ⟨rfl, rfl⟩
 refine VO.cons rfl (V1.assign rfl rfl rfl (ltb rfl) ?_)
 refine VO.nil ?_
 refine V.ret ?_
 obtain rfl := Option.some.inj hm0
 exact ⟨_, [], ⟨_, _, rfl, rfl, rfl⟩, List.nil_sublist _, rfl, rfl⟩

theorem ok_spec_l11On {rn : Nat} {x : Clerk} {day : Int} {r : Bool} (h : M.spec_l11On x day = some r) : Does Tryd.prog 73 [encClerk x, .int .i64 day] [] rn (fun x H => x = .bool r ∧ H = []) := by
 have hm0 := h; clear h; unfold M.spec_l11On at hm0
 try dsimp only at hm0
 refine Does.intro (N := 11) Tryd.func73 rfl rfl rfl rfl ?_
 intro w0 S0
 refine V.seq ?_
 refine V.region ?_
 refine VO.cons rfl (V1.boxN (n := 6) rfl rfl rfl rfl rfl (ltb rfl) ?_)
 intro b0
 refine VO.cons rfl (V1.assign rfl rfl rfl (ltb rfl) ?_)
 refine VO.nil ?_
 refine V.seq ?_
 replace hm0 := bindO hm0; rcases hm0 with ⟨y0, hh0, hm0⟩
 refine V.region ?_
 refine VO.cons rfl (V1.move rfl rfl rfl (ltb rfl) ?_)
 refine VO.cons rfl (V1.fieldRef rfl rfl fo_34_3 rfl (ltb rfl) ?_)
 refine VO.cons rfl (V1.loadRef (k := 0) rfl rfl tyk_3 rfl rfl rfl rfl rfl (ltb rfl) ?_)
 refine VO.cons rfl (V1.fieldRef rfl rfl fo_34_4 rfl (ltb rfl) ?_)
 refine VO.cons rfl (V1.loadRef (k := 0) rfl rfl tyk_3 rfl rfl rfl rfl rfl (ltb rfl) ?_)
 refine VO.cons rfl (V1.call rfl rfl rfl cok_62 rfl (ok_spec_l1In hh0) rfl (ltb rfl) ?_)
 rintro _ _ ⟨rfl, rfl⟩
 refine VO.cons rfl (V1.assign rfl rfl rfl (ltb rfl) ?_)
 refine VO.nil ?_
 refine V.ret ?_
 obtain rfl := Option.some.inj hm0
 exact ⟨_, [], ⟨_, _, rfl, rfl, rfl⟩, List.nil_sublist _, rfl, rfl⟩

theorem ok_spec_l11Rights {ρ0 rn : Nat} {list : List Clerk} {i : Int} {day : Int} {r : Int} (h : M.spec_l11Rights list i day = some r) : Does Tryd.prog 51 [.vl ρ0 6 (List.map encClerk list), .int .i64 i, .int .i64 day] [] rn (fun x H => x = .int .i64 r ∧ H = []) := by
 have hm0 := h; clear h; unfold M.spec_l11Rights at hm0
 try dsimp only at hm0
 refine Does.intro (N := 45) Tryd.func51 rfl rfl rfl rfl ?_
 intro w0 S0
 refine V.seq ?_
 refine V.region ?_
 refine VO.cons rfl (V1.assign rfl rfl rfl (ltb rfl) ?_)
 refine VO.nil ?_
 refine V.seq ?_
 replace hm0 := asrt_some hm0; rcases hm0 with ⟨hh0, hm0⟩
 refine V.region ?_
 refine VO.cons rfl (V1.move rfl rfl rfl (ltb rfl) ?_)
 refine VO.cons rfl (V1.move rfl rfl rfl (ltb rfl) ?_)
 refine VO.cons rfl (V1.indexI rfl rfl esz_24 rfl rfl hh0 (ltb rfl) ?_)
 refine VO.cons rfl (V1.loadPinAll rfl rfl tyk_34 rfl rfl (ltb rfl) ?_)
 refine VO.cons rfl (V1.alloc rfl rfl zk_34 (ltb rfl) ?_)
 intro b0
 refine VO.cons rfl (V1.storeRefAll (k := 0) rfl rfl tyk_34 rfl rfl rfl rfl rfl rfl ?_)
 refine VO.nil ?_
 refine V.keep 45 [0, 2, 7] [0] (E0 := [(0, .vl ρ0 6 (List.map encClerk list)), (2, .int .i64 day), (7, .ref b0 6 0 0)]) (H0 := [(b0, ⟨6, [encClerk (list.getD (Int.toNat i) default)]⟩)]) rfl (⟨_, _, rfl, rfl, ⟨_, _, rfl, rfl, ⟨_, _, rfl, rfl, rfl⟩⟩⟩) (⟨_, _, rfl, rfl, rfl⟩) rfl ?_
 refine V.seq ?_
 refine V.seq ?_
 replace hm0 := bindO hm0; rcases hm0 with ⟨y0, hh1, hm0⟩
 refine V.region ?_
 refine VO.cons rfl (V1.loadRefAll (k := 0) rfl rfl tyk_34 rfl rfl rfl rfl rfl (ltb rfl) ?_)
 refine VO.cons rfl (V1.move rfl rfl rfl (ltb rfl) ?_)
 refine VO.cons rfl (V1.call rfl rfl rfl cok_73 rfl (ok_spec_l11On hh1) rfl (ltb rfl) ?_)
 rintro _ _ ⟨rfl, rfl⟩
 refine VO.cons rfl (V1.not rfl rfl rfl (ltb rfl) ?_)
 refine VO.nil ?_
 refine V.cond rfl (fun hc0 => ?_) (fun hc0 => ?_)
 ·
  replace hm0 := cond_t hc0 hm0
  refine V.seq ?_
  refine V.region ?_
  refine VO.cons rfl (V1.assign rfl rfl rfl (ltb rfl) ?_)
  refine VO.nil ?_
  refine V.ret ?_
  obtain rfl := Option.some.inj hm0
  exact ⟨_, [], ⟨_, _, rfl, rfl, rfl⟩, List.nil_sublist _, rfl, rfl⟩
 ·
  replace hm0 := cond_f hc0 hm0
  refine V.skip ?_
  refine V.keep 45 [0, 2, 7] [0] (E0 := [(0, .vl ρ0 6 (List.map encClerk list)), (2, .int .i64 day), (7, .ref b0 6 0 0)]) (H0 := [(b0, ⟨6, [encClerk (list.getD (Int.toNat i) default)]⟩)]) rfl (⟨_, _, rfl, rfl, ⟨_, _, rfl, rfl, ⟨_, _, rfl, rfl, rfl⟩⟩⟩) (⟨_, _, rfl, rfl, rfl⟩) rfl ?_
  refine V.seq ?_
  refine V.seq ?_
  refine V.region ?_
  refine VO.cons rfl (V1.fieldRef rfl rfl fo_34_5 rfl (ltb rfl) ?_)
  refine VO.cons rfl (V1.loadRef (k := 0) rfl rfl tyk_3 rfl rfl rfl rfl rfl (ltb rfl) ?_)
  refine VO.cons rfl (V1.int rfl rfl rfl rfl rfl (ltb rfl) ?_)
  refine VO.nil ?_
  refine V.cond rfl (fun hc1 => ?_) (fun hc1 => ?_)
  ·
   replace hm0 := cond_t hc1 hm0
   refine V.seq ?_
   replace hm0 := bindO hm0; rcases hm0 with ⟨y1, hh2, hm0⟩
   replace hm0 := asrt_some hm0; rcases hm0 with ⟨hh3, hm0⟩
   refine V.region ?_
   refine VO.cons rfl (V1.move rfl rfl rfl (ltb rfl) ?_)
   refine VO.cons rfl (V1.move rfl rfl rfl (ltb rfl) ?_)
   refine VO.cons rfl (V1.fieldRef rfl rfl fo_34_5 rfl (ltb rfl) ?_)
   refine VO.cons rfl (V1.loadRef (k := 0) rfl rfl tyk_3 rfl rfl rfl rfl rfl (ltb rfl) ?_)
   refine VO.cons rfl (V1.call rfl rfl rfl cok_50 rfl (ok_spec_l11Find hh2) rfl (ltb rfl) ?_)
   rintro _ _ ⟨rfl, rfl⟩
   refine VO.cons rfl (V1.indexI rfl rfl esz_24 rfl rfl hh3 (ltb rfl) ?_)
   refine VO.cons rfl (V1.loadPinAll rfl rfl tyk_34 rfl rfl (ltb rfl) ?_)
   refine VO.cons rfl (V1.alloc rfl rfl zk_34 (ltb rfl) ?_)
   intro b1
   refine VO.cons rfl (V1.storeRefAll (k := 0) rfl rfl tyk_34 rfl rfl rfl rfl rfl rfl ?_)
   refine VO.nil ?_
   refine V.keep 45 [2, 7, 8] [0, 1] (E0 := [(2, .int .i64 day), (7, .ref b0 6 0 0), (8, .ref b1 6 0 0)]) (H0 := [(b1, ⟨6, [encClerk (list.getD (Int.toNat y1) default)]⟩), (b0, ⟨6, [encClerk (list.getD (Int.toNat i) default)]⟩)]) rfl (⟨_, _, rfl, rfl, ⟨_, _, rfl, rfl, ⟨_, _, rfl, rfl, rfl⟩⟩⟩) (⟨_, _, rfl, rfl, ⟨_, _, rfl, rfl, rfl⟩⟩) rfl ?_
   refine V.seq ?_
   refine V.region ?_
   refine VO.cons rfl (V1.fieldRef rfl rfl fo_34_2 rfl (ltb rfl) ?_)
   refine VO.cons rfl (V1.loadRef (k := 1) rfl rfl tyk_3 rfl rfl rfl rfl rfl (ltb rfl) ?_)
   refine VO.cons rfl (V1.fieldRef rfl rfl fo_34_2 rfl (ltb rfl) ?_)
   refine VO.cons rfl (V1.loadRef (k := 0) rfl rfl tyk_3 rfl rfl rfl rfl rfl (ltb rfl) ?_)
   refine VO.cons rfl (V1.int rfl rfl rfl rfl rfl (ltb rfl) ?_)
   refine VO.cons rfl (V1.assign rfl rfl rfl (ltb rfl) ?_)
   refine VO.nil ?_
   refine V.keep 45 [2, 7, 8, 9] [0, 1] (E0 := [(2, .int .i64 day), (7, .ref b0 6 0 0), (8, .ref b1 6 0 0), (9, .int .i64 (IntKind.i64.wrap (BitVec.ofInt IntKind.i64.bits ((list.getD (Int.toNat i) default).Rights) ||| BitVec.ofInt IntKind.i64.bits ((list.getD (Int.toNat y1) default).Rights)).toNat))]) (H0 := [(b1, ⟨6, [encClerk (list.getD (Int.toNat y1) default)]⟩), (b0, ⟨6, [encClerk (list.getD (Int.toNat i) default)]⟩)]) rfl (⟨_, _, rfl, rfl, ⟨_, _, rfl, rfl, ⟨_, _, rfl, rfl, ⟨_, _, rfl, rfl, rfl⟩⟩⟩⟩) (⟨_, _, rfl, rfl, ⟨_, _, rfl, rfl, rfl⟩⟩) rfl ?_
   refine V.seq ?_
   replace hm0 := bindO hm0; rcases hm0 with ⟨y2, hh4, hm0⟩
   replace hm0 := bindO hm0; rcases hm0 with ⟨y3, hh5, hm0⟩
   refine V.region ?_
   refine VO.cons rfl (V1.loadRefAll (k := 0) rfl rfl tyk_34 rfl rfl rfl rfl rfl (ltb rfl) ?_)
   refine VO.cons rfl (V1.move rfl rfl rfl (ltb rfl) ?_)
   refine VO.cons rfl (V1.call rfl rfl rfl cok_73 rfl (ok_spec_l11On hh4) rfl (ltb rfl) ?_)
   rintro _ _ ⟨rfl, rfl⟩
   refine VO.cons rfl (V1.not rfl rfl rfl (ltb rfl) ?_)
   refine VO.cons rfl (V1.move rfl rfl rfl (ltb rfl) ?_)
   apply VO.and (n := 3) rfl rfl rfl rfl rfl rfl (ltb rfl) (.none rfl)
   ·
    intro hg0
    refine VO.step (.some rfl rfl rfl) (V1.move rfl rfl rfl (ltb rfl) ?_)
    refine VO.step (.some rfl rfl rfl) (V1.call rfl rfl rfl cok_74 rfl (ok_spec_l11Both (cond_t hg0 hh5)) rfl (ltb rfl) ?_)
    rintro _ _ ⟨rfl, rfl⟩
    refine VO.step (.some rfl rfl rfl) (V1.not rfl rfl rfl (ltb rfl) ?_)
    exact VO.nil ⟨rfl, rfl, rfl, rfl, .inr ⟨rfl, .inr ⟨rfl, .inr ⟨rfl, .inr ⟨rfl, .inl rfl⟩⟩⟩⟩⟩
   refine VO.nil ?_
   refine V.keep 45 [7, 9, 41] [1] (E0 := [(7, .ref b0 6 0 0), (9, .int .i64 (IntKind.i64.wrap (BitVec.ofInt IntKind.i64.bits ((list.getD (Int.toNat i) default).Rights) ||| BitVec.ofInt IntKind.i64.bits ((list.getD (Int.toNat y1) default).Rights)).toNat)), (41, .bool ((!y2) && (!y3)))]) (H0 := [(b0, ⟨6, [encClerk (list.getD (Int.toNat i) default)]⟩)]) rfl (⟨_, _, rfl, rfl, ⟨_, _, rfl, rfl, ⟨_, _, rfl, rfl, rfl⟩⟩⟩) (⟨_, _, rfl, rfl, rfl⟩) rfl ?_
   refine V.cond rfl (fun hc2 => ?_) (fun hc2 => ?_)
   ·
    replace hm0 := cond_t hc2 hm0
    refine V.seq ?_
    refine V.region ?_
    refine VO.cons rfl (V1.move rfl rfl rfl (ltb rfl) ?_)
    refine VO.cons rfl (V1.assign rfl rfl rfl (ltb rfl) ?_)
    refine VO.nil ?_
    refine V.ret ?_
    obtain rfl := Option.some.inj hm0
    exact ⟨_, [], ⟨_, _, rfl, rfl, rfl⟩, List.nil_sublist _, rfl, rfl⟩
   ·
    replace hm0 := cond_f hc2 hm0
    refine V.skip ?_
    refine V.seq ?_
    refine V.region ?_
    refine VO.cons rfl (V1.fieldRef rfl rfl fo_34_2 rfl (ltb rfl) ?_)
    refine VO.cons rfl (V1.loadRef (k := 0) rfl rfl tyk_3 rfl rfl rfl rfl rfl (ltb rfl) ?_)
    refine VO.cons rfl (V1.assign rfl rfl rfl (ltb rfl) ?_)
    refine VO.nil ?_
    refine V.ret ?_
    obtain rfl := Option.some.inj hm0
    exact ⟨_, [], ⟨_, _, rfl, rfl, rfl⟩, List.nil_sublist _, rfl, rfl⟩
  ·
   replace hm0 := cond_f hc1 hm0
   refine V.skip ?_
   refine V.keep 45 [7] [0] (E0 := [(7, .ref b0 6 0 0)]) (H0 := [(b0, ⟨6, [encClerk (list.getD (Int.toNat i) default)]⟩)]) rfl (⟨_, _, rfl, rfl, rfl⟩) (⟨_, _, rfl, rfl, rfl⟩) rfl ?_
   refine V.seq ?_
   refine V.region ?_
   refine VO.cons rfl (V1.fieldRef rfl rfl fo_34_2 rfl (ltb rfl) ?_)
   refine VO.cons rfl (V1.loadRef (k := 0) rfl rfl tyk_3 rfl rfl rfl rfl rfl (ltb rfl) ?_)
   refine VO.cons rfl (V1.assign rfl rfl rfl (ltb rfl) ?_)
   refine VO.nil ?_
   refine V.ret ?_
   obtain rfl := Option.some.inj hm0
   exact ⟨_, [], ⟨_, _, rfl, rfl, rfl⟩, List.nil_sublist _, rfl, rfl⟩

theorem ok_spec_l11Who {ρ0 rn : Nat} {list : List Clerk} {rights : Int} {day : Int} {r : List Int} (h : M.spec_l11Who list rights day = some r) : Does Tryd.prog 46 [.vl ρ0 6 (List.map encClerk list), .int .i64 rights, .int .i64 day] [] rn (fun x H => ∃ (ob0_ : Nat), x = PV.sref ob0_ 1 0 (List.length r) ∧ H = [(ob0_, ⟨1, List.map encInt r⟩)]) := by
 have hm0 := h; clear h; unfold M.spec_l11Who at hm0
 try dsimp only at hm0
 refine Does.intro (N := 33) Tryd.func46 rfl rfl rfl rfl ?_
 intro w0 S0
 refine V.seq ?_
 refine V.region ?_
 refine VO.cons rfl (V1.assign rfl rfl rfl (ltb rfl) ?_)
 refine VO.nil ?_
 refine V.seq ?_
 refine V.region ?_
 refine VO.cons rfl (V1.buildSliceT (f := encInt) ([] : List Int) rfl rfl esz_27 zk_3 rfl rfl rfl rfl rfl rfl rfl (ltb rfl) ?_)
 intro b0
 refine VO.cons rfl (V1.assign rfl rfl rfl (ltb rfl) ?_)
 refine VO.nil ?_
 refine V.seq ?_
 refine V.seq ?_
 refine V.region ?_
 refine VO.cons rfl (V1.assign rfl rfl rfl (ltb rfl) ?_)
 refine VO.nil ?_
 replace hm0 := bindO hm0; rcases hm0 with ⟨e0, he1, hm0⟩
 refine V.cutT (D := (List Int) × (Nat)) (fun ⟨out_, b1⟩ => ⟨33, [(7, .sref b1 1 0 (List.length out_))], [(b1, ⟨1, List.map encInt out_⟩)]⟩) (fun ⟨out_, b1⟩ => (out_ = e0)) ?_ ?_
 ·
  refine V.block ?_
  refine V.keep 33 [7, 8, 0, 1, 2] [0] (E0 := [(7, .sref b0 1 0 (List.length ([] : List Int))), (8, .int .i64 (0 : Int)), (0, .vl ρ0 6 (List.map encClerk list)), (1, .int .i64 rights), (2, .int .i64 day)]) (H0 := [(b0, ⟨1, List.map encInt ([] : List Int)⟩)]) rfl (⟨_, _, rfl, rfl, ⟨_, _, rfl, rfl, ⟨_, _, rfl, rfl, ⟨_, _, rfl, rfl, ⟨_, _, rfl, rfl, rfl⟩⟩⟩⟩⟩) (⟨_, _, rfl, rfl, rfl⟩) rfl ?_
  refine V.loopE (D := Nat × (List Int × Int) × (Nat)) (fun ⟨n0, ⟨out_0, i⟩, b2⟩ => [(7, .sref b2 1 0 (List.length out_0)), (8, .int .i64 i)]) (fun ⟨n0, ⟨out_0, i⟩, b2⟩ => [(b2, ⟨1, List.map encInt out_0⟩)]) (fun ⟨n0, ⟨out_0, i⟩, b2⟩ => loopO (M.spec_l11Who_l0 list rights day) n0 (out_0, i) = some e0) (fun ⟨n0, _, _⟩ => n0) (rounds, (([] : List Int), (0 : Int)), b0) rfl he1 ?_
  rintro ⟨n0, ⟨out_0, i⟩, b2⟩ hP0
  obtain ⟨m0, y0, rfl, hm1, hl1, hr1⟩ := loop_head hP0
  unfold M.spec_l11Who_l0 at hm1; dsimp only at hm1
  show V _ _ _ ⟨33, [(7, .sref b2 1 0 (List.length out_0)), (8, .int .i64 i), (0, .vl ρ0 6 (List.map encClerk list)), (1, .int .i64 rights), (2, .int .i64 day)], [(b2, ⟨1, List.map encInt out_0⟩)]⟩
  refine V.seq ?_
  refine V.seq ?_
  refine V.region ?_
  refine VO.cons rfl (V1.move rfl rfl rfl (ltb rfl) ?_)
  refine VO.cons rfl (V1.move rfl rfl rfl (ltb rfl) ?_)
  refine VO.cons rfl (V1.lenMap rfl rfl rfl rfl rfl rfl isl_24 (ltb rfl) ?_)
  refine VO.cons rfl (V1.int rfl rfl rfl rfl rfl (ltb rfl) ?_)
  refine VO.nil ?_
  refine V.cond rfl (fun hc0 => ?_) (fun hc0 => ?_)
  ·
   replace hm1 := cond_t hc0 hm1
   refine V.skip ?_
   refine V.keep 33 [0, 1, 2, 7, 8] [0] (E0 := [(0, .vl ρ0 6 (List.map encClerk list)), (1, .int .i64 rights), (2, .int .i64 day), (7, .sref b2 1 0 (List.length out_0)), (8, .int .i64 i)]) (H0 := [(b2, ⟨1, List.map encInt out_0⟩)]) rfl (⟨_, _, rfl, rfl, ⟨_, _, rfl, rfl, ⟨_, _, rfl, rfl, ⟨_, _, rfl, rfl, ⟨_, _, rfl, rfl, rfl⟩⟩⟩⟩⟩) (⟨_, _, rfl, rfl, rfl⟩) rfl ?_
   refine V.seq ?_
   replace hm1 := bindO hm1; rcases hm1 with ⟨j0, hm2, hm1⟩
   refine V.cutT (D := (List Int) × (Nat)) (fun ⟨out_1, b3⟩ => ⟨33, [(7, .sref b3 1 0 (List.length out_1)), (0, .vl ρ0 6 (List.map encClerk list)), (1, .int .i64 rights), (2, .int .i64 day), (8, .int .i64 i)], [(b3, ⟨1, List.map encInt out_1⟩)]⟩) (fun ⟨out_1, b3⟩ => (out_1 = j0)) ?_ ?_
   ·
    refine V.block ?_
    refine V.seq ?_
    replace hm2 := bindO hm2; rcases hm2 with ⟨y1, hh0, hm2⟩
    refine V.region ?_
    refine VO.cons rfl (V1.move rfl rfl rfl (ltb rfl) ?_)
    refine VO.cons rfl (V1.move rfl rfl rfl (ltb rfl) ?_)
    refine VO.cons rfl (V1.move rfl rfl rfl (ltb rfl) ?_)
    refine VO.cons rfl (V1.call rfl rfl rfl cok_51 rfl (ok_spec_l11Rights hh0) rfl (ltb rfl) ?_)
    rintro _ _ ⟨rfl, rfl⟩
    refine VO.cons rfl (V1.move rfl rfl rfl (ltb rfl) ?_)
    refine VO.cons rfl (V1.int rfl rfl rfl rfl rfl (ltb rfl) ?_)
    refine VO.cons rfl (V1.move rfl rfl rfl (ltb rfl) ?_)
    refine VO.cons rfl (V1.int rfl rfl rfl rfl rfl (ltb rfl) ?_)
    refine VO.nil ?_
    refine V.keep 33 [0, 1, 2, 7, 8, 23] [0] (E0 := [(0, .vl ρ0 6 (List.map encClerk list)), (1, .int .i64 rights), (2, .int .i64 day), (7, .sref b2 1 0 (List.length out_0)), (8, .int .i64 i), (23, .bool ((IntKind.i64.wrap (BitVec.ofInt IntKind.i64.bits y1 &&& BitVec.ofInt IntKind.i64.bits rights).toNat) == rights))]) (H0 := [(b2, ⟨1, List.map encInt out_0⟩)]) rfl (⟨_, _, rfl, rfl, ⟨_, _, rfl, rfl, ⟨_, _, rfl, rfl, ⟨_, _, rfl, rfl, ⟨_, _, rfl, rfl, ⟨_, _, rfl, rfl, rfl⟩⟩⟩⟩⟩⟩) (⟨_, _, rfl, rfl, rfl⟩) rfl ?_
    refine V.cond rfl (fun hc1 => ?_) (fun hc1 => ?_)
    ·
     replace hm2 := cond_t hc1 hm2
     replace hm2 := asrt_some hm2; rcases hm2 with ⟨hh1, hm2⟩
     replace hm2 := asrt_some hm2; rcases hm2 with ⟨hh2, hm2⟩
     refine V.region ?_
     refine VO.cons rfl (V1.move rfl rfl rfl (ltb rfl) ?_)
     refine VO.cons rfl (V1.move rfl rfl rfl (ltb rfl) ?_)
     refine VO.cons rfl (V1.move rfl rfl rfl (ltb rfl) ?_)
     refine VO.cons rfl (V1.indexI rfl rfl esz_24 rfl rfl hh1 (ltb rfl) ?_)
     refine VO.cons rfl (V1.fieldPin rfl rfl fo_34_0 rfl (ltb rfl) ?_)
     refine VO.cons rfl (V1.loadPin rfl rfl tyk_3 rfl rfl (ltb rfl) ?_)
     refine VO.cons rfl (V1.buildSliceT (f := encInt) ([(list.getD (Int.toNat i) default).Id] : List Int) rfl rfl esz_27 zk_3 rfl rfl rfl rfl rfl rfl rfl (ltb rfl) ?_)
     intro b4
     refine VO.cons rfl (V1.appendMap (k := 1) (f := encInt) (l := out_0) (m := ([(list.getD (Int.toNat i) default).Id] : List Int)) rfl rfl rfl rfl rfl esz_27 eby_27 zk_3 rfl rfl rfl (SrcOf.srMap (k := 0) rfl isl_27) hh2 (ltb rfl) ?_)
     intro b5
     refine VO.cons rfl (V1.assign rfl rfl rfl (ltb rfl) ?_)
     refine VO.nil ?_
     exact ⟨((out_0 ++ ([(list.getD (Int.toNat i) default).Id] : List Int)), b5), Option.some.inj hm2, Keeps.mk (ks := [0]) rfl ⟨rfl, rfl, rfl, rfl, rfl, trivial⟩ (⟨_, _, rfl, rfl, rfl⟩) rfl⟩
    ·
     replace hm2 := cond_f hc1 hm2
     refine V.skip ?_
     exact ⟨(out_0, b2), Option.some.inj hm2, Keeps.mk (ks := [0]) rfl ⟨rfl, rfl, rfl, rfl, rfl, trivial⟩ (⟨_, _, rfl, rfl, rfl⟩) rfl⟩
   ·
    rintro ⟨out_1, b3⟩ rfl
    try dsimp only at hm1
    refine V.region ?_
    refine VO.cons rfl (V1.move rfl rfl rfl (ltb rfl) ?_)
    refine VO.cons rfl (V1.int rfl rfl rfl rfl rfl (ltb rfl) ?_)
    refine VO.cons rfl (V1.assign rfl rfl rfl (ltb rfl) ?_)
    refine VO.nil ?_
    exact ⟨(m0, (out_1, (IntKind.i64.wrap (i + (1 : Int)))), b3), hl1 _ (Option.some.inj hm1).symm, Nat.lt_succ_self _, Keeps.mk (ks := [0]) rfl ⟨rfl, rfl, rfl, rfl, rfl, trivial⟩ (⟨_, _, rfl, rfl, rfl⟩) rfl⟩
  ·
   replace hm1 := cond_f hc0 hm1
   refine V.exit ?_
   obtain rfl := hr1 _ (Option.some.inj hm1).symm
   exact ⟨(out_0, b2), rfl, Keeps.mk (ks := [0]) rfl ⟨rfl, trivial⟩ (⟨_, _, rfl, rfl, rfl⟩) rfl⟩
 ·
  rintro ⟨out_, b1⟩ rfl
  try dsimp only at hm0
  refine V.seq ?_
  refine V.region ?_
  refine VO.cons rfl (V1.move rfl rfl rfl (ltb rfl) ?_)
  refine VO.cons rfl (V1.assign rfl rfl rfl (ltb rfl) ?_)
  refine VO.nil ?_
  refine V.keep 33 [6] [0] (E0 := [(6, .sref b1 1 0 (List.length out_))]) (H0 := [(b1, ⟨1, List.map encInt out_⟩)]) rfl (⟨_, _, rfl, rfl, rfl⟩) (⟨_, _, rfl, rfl, rfl⟩) rfl ?_
  refine V.ret ?_
  obtain rfl := Option.some.inj hm0
  exact ⟨_, _, ⟨_, _, rfl, rfl, rfl⟩, List.Sublist.refl _, b1, rfl, rfl⟩

theorem ok_spec_DaysWithout {ρ0 rn : Nat} {list : List Clerk} {rights : Int} {from_ : Int} {to_ : Int} {r : List Int × Bool} (h : M.spec_DaysWithout list rights from_ to_ = some r) : Does Tryd.prog 30 [.vl ρ0 6 (List.map encClerk list), .int .i64 rights, .int .i64 from_, .int .i64 to_] [] rn (fun x H => ∃ (ob0_ : Nat), x = .tup [PV.sref ob0_ 1 0 (List.length r.1), .bool r.2] ∧ H = [(ob0_, ⟨1, List.map encInt r.1⟩)]) := by
 have hm0 := h; clear h; unfold M.spec_DaysWithout at hm0
 try dsimp only at hm0
 refine Does.intro (N := 56) Tryd.func30 rfl rfl rfl rfl ?_
 intro w0 S0
 refine V.seq ?_
 refine V.region ?_
 refine VO.cons rfl (V1.assign rfl rfl rfl (ltb rfl) ?_)
 refine VO.cons rfl (V1.assign rfl rfl rfl (ltb rfl) ?_)
 refine VO.nil ?_
 refine V.seq ?_
 refine V.region ?_
 refine VO.cons rfl (V1.buildSliceT (f := encInt) ([] : List Int) rfl rfl esz_27 zk_3 rfl rfl rfl rfl rfl rfl rfl (ltb rfl) ?_)
 intro b0
 refine VO.cons rfl (V1.assign rfl rfl rfl (ltb rfl) ?_)
 refine VO.nil ?_
 refine V.seq ?_
 refine V.seq ?_
 replace hm0 := bindO hm0; rcases hm0 with ⟨y0, hh0, hm0⟩
 replace hm0 := bindO hm0; rcases hm0 with ⟨y1, hh1, hm0⟩
 replace hm0 := bindO hm0; rcases hm0 with ⟨y2, hh2, hm0⟩
 replace hm0 := bindO hm0; rcases hm0 with ⟨y3, hh3, hm0⟩
 refine V.region ?_
 refine VO.cons rfl (V1.move rfl rfl rfl (ltb rfl) ?_)
 refine VO.cons rfl (V1.call rfl rfl rfl cok_43 rfl (ok_spec_l11Good hh0) rfl (ltb rfl) ?_)
 rintro _ _ ⟨rfl, rfl⟩
 refine VO.cons rfl (V1.not rfl rfl rfl (ltb rfl) ?_)
 refine VO.cons rfl (V1.move rfl rfl rfl (ltb rfl) ?_)
 apply VO.or (n := 3) rfl rfl rfl rfl rfl rfl (ltb rfl) (.none rfl)
 ·
  intro hg0
  refine VO.step (.some rfl rfl rfl) (V1.move rfl rfl rfl (ltb rfl) ?_)
  refine VO.step (.some rfl rfl rfl) (V1.call rfl rfl rfl cok_44 rfl (ok_spec_l11Sum (cond_f hg0 hh1)) rfl (ltb rfl) ?_)
  rintro _ _ ⟨rfl, rfl⟩
  refine VO.step (.some rfl rfl rfl) (V1.not rfl rfl rfl (ltb rfl) ?_)
  exact VO.nil ⟨rfl, rfl, rfl, rfl, .inr ⟨rfl, .inr ⟨rfl, .inr ⟨rfl, .inr ⟨rfl, .inl rfl⟩⟩⟩⟩⟩
 refine VO.cons rfl (V1.move rfl rfl rfl (ltb rfl) ?_)
 apply VO.or (n := 3) rfl rfl rfl rfl rfl rfl (ltb rfl) (.none rfl)
 ·
  intro hg1
  refine VO.step (.some rfl rfl rfl) (V1.move rfl rfl rfl (ltb rfl) ?_)
  refine VO.step (.some rfl rfl rfl) (V1.call rfl rfl rfl cok_45 rfl (ok_spec_l2Day (cond_f hg1 hh2)) rfl (ltb rfl) ?_)
  rintro _ _ ⟨rfl, rfl⟩
  refine VO.step (.some rfl rfl rfl) (V1.not rfl rfl rfl (ltb rfl) ?_)
  exact VO.nil ⟨rfl, rfl, rfl, rfl, .inr ⟨rfl, .inr ⟨rfl, .inr ⟨rfl, .inr ⟨rfl, .inl rfl⟩⟩⟩⟩⟩
 refine VO.cons rfl (V1.move rfl rfl rfl (ltb rfl) ?_)
 apply VO.or (n := 4) rfl rfl rfl rfl rfl rfl (ltb rfl) (.none rfl)
 ·
  intro hg2
  refine VO.step (.some rfl rfl rfl) (V1.move rfl rfl rfl (ltb rfl) ?_)
  refine VO.step (.some rfl rfl rfl) (V1.move rfl rfl rfl (ltb rfl) ?_)
  refine VO.step (.some rfl rfl rfl) (V1.call rfl rfl rfl cok_62 rfl (ok_spec_l1In (cond_f hg2 hh3)) rfl (ltb rfl) ?_)
  rintro _ _ ⟨rfl, rfl⟩
  refine VO.step (.some rfl rfl rfl) (V1.not rfl rfl rfl (ltb rfl) ?_)
  exact VO.nil ⟨rfl, rfl, rfl, rfl, .inr ⟨rfl, .inr ⟨rfl, .inr ⟨rfl, .inr ⟨rfl, .inr ⟨rfl, .inl rfl⟩⟩⟩⟩⟩⟩
 refine VO.cons rfl (V1.move rfl rfl rfl (ltb rfl) ?_)
 apply VO.or (n := 4) rfl rfl rfl rfl rfl rfl (ltb rfl) (.none rfl)
 ·
  intro hg3
  refine VO.step (.some rfl rfl rfl) (V1.move rfl rfl rfl (ltb rfl) ?_)
  refine VO.step (.some rfl rfl rfl) (V1.move rfl rfl rfl (ltb rfl) ?_)
  refine VO.step (.some rfl rfl rfl) (V1.int rfl rfl rfl rfl rfl (ltb rfl) ?_)
  refine VO.step (.some rfl rfl rfl) (V1.int rfl rfl rfl rfl rfl (ltb rfl) ?_)
  exact VO.nil ⟨rfl, rfl, rfl, rfl, .inr ⟨rfl, .inr ⟨rfl, .inr ⟨rfl, .inr ⟨rfl, .inr ⟨rfl, .inl rfl⟩⟩⟩⟩⟩⟩
 refine VO.nil ?_
 refine V.keep 56 [0, 1, 2, 3, 10, 37] [0] (E0 := [(0, .vl ρ0 6 (List.map encClerk list)), (1, .int .i64 rights), (2, .int .i64 from_), (3, .int .i64 to_), (10, .sref b0 1 0 (List.length ([] : List Int))), (37, .bool (((((!y0) || (!y1)) || (!y2)) || (!y3)) || (decide ((IntKind.i64.wrap (to_ - from_)) > (200 : Int)))))]) (H0 := [(b0, ⟨1, List.map encInt ([] : List Int)⟩)]) rfl (⟨_, _, rfl, rfl, ⟨_, _, rfl, rfl, ⟨_, _, rfl, rfl, ⟨_, _, rfl, rfl, ⟨_, _, rfl, rfl, ⟨_, _, rfl, rfl, rfl⟩⟩⟩⟩⟩⟩) (⟨_, _, rfl, rfl, rfl⟩) rfl ?_
 refine V.cond rfl (fun hc0 => ?_) (fun hc0 => ?_)
 ·
  replace hm0 := cond_t hc0 hm0
  refine V.seq ?_
  refine V.region ?_
  refine VO.cons rfl (V1.move rfl rfl rfl (ltb rfl) ?_)
  refine VO.cons rfl (V1.assign rfl rfl rfl (ltb rfl) ?_)
  refine VO.cons rfl (V1.assign rfl rfl rfl (ltb rfl) ?_)
  refine VO.nil ?_
  refine V.keep 56 [8, 9] [0] (E0 := [(8, .sref b0 1 0 (List.length ([] : List Int))), (9, .bool false)]) (H0 := [(b0, ⟨1, List.map encInt ([] : List Int)⟩)]) rfl (⟨_, _, rfl, rfl, ⟨_, _, rfl, rfl, rfl⟩⟩) (⟨_, _, rfl, rfl, rfl⟩) rfl ?_
  refine V.ret ?_
  obtain rfl := Option.some.inj hm0
  exact ⟨_, _, ⟨_, _, rfl, rfl, ⟨_, _, rfl, rfl, rfl⟩⟩, List.Sublist.refl _, b0, rfl, rfl⟩
 ·
  replace hm0 := cond_f hc0 hm0
  refine V.skip ?_
  refine V.seq ?_
  refine V.seq ?_
  refine V.region ?_
  refine VO.cons rfl (V1.move rfl rfl rfl (ltb rfl) ?_)
  refine VO.cons rfl (V1.assign rfl rfl rfl (ltb rfl) ?_)
  refine VO.nil ?_
  replace hm0 := bindO hm0; rcases hm0 with ⟨e0, he1, hm0⟩
  refine V.cutT (D := (List Int) × (Nat)) (fun ⟨out_, b1⟩ => ⟨56, [(10, .sref b1 1 0 (List.length out_))], [(b1, ⟨1, List.map encInt out_⟩)]⟩) (fun ⟨out_, b1⟩ => (out_ = e0)) ?_ ?_
  ·
   refine V.block ?_
   refine V.keep 56 [10, 11, 0, 1, 3] [0] (E0 := [(10, .sref b0 1 0 (List.length ([] : List Int))), (11, .int .i64 from_), (0, .vl ρ0 6 (List.map encClerk list)), (1, .int .i64 rights), (3, .int .i64 to_)]) (H0 := [(b0, ⟨1, List.map encInt ([] : List Int)⟩)]) rfl (⟨_, _, rfl, rfl, ⟨_, _, rfl, rfl, ⟨_, _, rfl, rfl, ⟨_, _, rfl, rfl, ⟨_, _, rfl, rfl, rfl⟩⟩⟩⟩⟩) (⟨_, _, rfl, rfl, rfl⟩) rfl ?_
   refine V.loopE (D := Nat × (List Int × Int) × (Nat)) (fun ⟨n0, ⟨out_0, day⟩, b2⟩ => [(10, .sref b2 1 0 (List.length out_0)), (11, .int .i64 day)]) (fun ⟨n0, ⟨out_0, day⟩, b2⟩ => [(b2, ⟨1, List.map encInt out_0⟩)]) (fun ⟨n0, ⟨out_0, day⟩, b2⟩ => loopO (M.spec_DaysWithout_l0 list rights to_) n0 (out_0, day) = some e0) (fun ⟨n0, _, _⟩ => n0) (rounds, (([] : List Int), from_), b0) rfl he1 ?_
   rintro ⟨n0, ⟨out_0, day⟩, b2⟩ hP0
   obtain ⟨m0, y4, rfl, hm1, hl1, hr1⟩ := loop_head hP0
   unfold M.spec_DaysWithout_l0 at hm1; dsimp only at hm1
   show V _ _ _ ⟨56, [(10, .sref b2 1 0 (List.length out_0)), (11, .int .i64 day), (0, .vl ρ0 6 (List.map encClerk list)), (1, .int .i64 rights), (3, .int .i64 to_)], [(b2, ⟨1, List.map encInt out_0⟩)]⟩
   refine V.seq ?_
   refine V.seq ?_
   refine V.region ?_
   refine VO.cons rfl (V1.move rfl rfl rfl (ltb rfl) ?_)
   refine VO.cons rfl (V1.move rfl rfl rfl (ltb rfl) ?_)
   refine VO.cons rfl (V1.int rfl rfl rfl rfl rfl (ltb rfl) ?_)
   refine VO.nil ?_
   refine V.cond rfl (fun hc1 => ?_) (fun hc1 => ?_)
   ·
    replace hm1 := cond_t hc1 hm1
    refine V.skip ?_
    refine V.seq ?_
    replace hm1 := bindO hm1; rcases hm1 with ⟨j0, hm2, hm1⟩
    refine V.cutT (D := (List Int) × (Nat)) (fun ⟨out_1, b3⟩ => ⟨56, [(10, .sref b3 1 0 (List.length out_1)), (0, .vl ρ0 6 (List.map encClerk list)), (1, .int .i64 rights), (3, .int .i64 to_), (11, .int .i64 day)], [(b3, ⟨1, List.map encInt out_1⟩)]⟩) (fun ⟨out_1, b3⟩ => (out_1 = j0)) ?_ ?_
    ·
     refine V.block ?_
     refine V.seq ?_
     replace hm2 := bindO hm2; rcases hm2 with ⟨y5, hh4, hm2⟩
     refine V.region ?_
     refine VO.cons rfl (V1.move rfl rfl rfl (ltb rfl) ?_)
     refine VO.cons rfl (V1.move rfl rfl rfl (ltb rfl) ?_)
     refine VO.cons rfl (V1.move rfl rfl rfl (ltb rfl) ?_)
     refine VO.cons rfl (V1.call rfl rfl rfl cok_46 rfl (ok_spec_l11Who hh4) rfl (ltb rfl) ?_)
     rintro _ _ ⟨b4, rfl, rfl⟩
     refine VO.weakenK (Keeps.freezeG 0 rn [(48, .vl rn 1 (List.map encInt y5))] [(b2, ⟨1, List.map encInt out_0⟩)] (f := encInt) (l := y5) rfl (fun _ => rfl) ⟨⟨_, rfl, .here⟩, trivial⟩ ⟨_, _, rfl, rfl, .inl rfl, rfl⟩ rfl iNil) ?_
     refine VO.cons rfl (V1.lenMap rfl rfl rfl rfl rfl rfl isl_27 (ltb rfl) ?_)
     refine VO.cons rfl (V1.int rfl rfl rfl rfl rfl (ltb rfl) ?_)
     refine VO.nil ?_
     refine V.keep 56 [0, 1, 3, 10, 11, 50] [0] (E0 := [(0, .vl ρ0 6 (List.map encClerk list)), (1, .int .i64 rights), (3, .int .i64 to_), (10, .sref b2 1 0 (List.length out_0)), (11, .int .i64 day), (50, .bool ((y5.length : Int) == (0 : Int)))]) (H0 := [(b2, ⟨1, List.map encInt out_0⟩)]) rfl (⟨_, _, rfl, rfl, ⟨_, _, rfl, rfl, ⟨_, _, rfl, rfl, ⟨_, _, rfl, rfl, ⟨_, _, rfl, rfl, ⟨_, _, rfl, rfl, rfl⟩⟩⟩⟩⟩⟩) (⟨_, _, rfl, rfl, rfl⟩) rfl ?_
     refine V.cond rfl (fun hc2 => ?_) (fun hc2 => ?_)
     ·
      replace hm2 := cond_t hc2 hm2
      replace hm2 := asrt_some hm2; rcases hm2 with ⟨hh5, hm2⟩
      refine V.region ?_
      refine VO.cons rfl (V1.move rfl rfl rfl (ltb rfl) ?_)
      refine VO.cons rfl (V1.move rfl rfl rfl (ltb rfl) ?_)
      refine VO.cons rfl (V1.buildSliceT (f := encInt) ([day] : List Int) rfl rfl esz_27 zk_3 rfl rfl rfl rfl rfl rfl rfl (ltb rfl) ?_)
      intro b5
      refine VO.cons rfl (V1.appendMap (k := 1) (f := encInt) (l := out_0) (m := ([day] : List Int)) rfl rfl rfl rfl rfl esz_27 eby_27 zk_3 rfl rfl rfl (SrcOf.srMap (k := 0) rfl isl_27) hh5 (ltb rfl) ?_)
      intro b6
      refine VO.cons rfl (V1.assign rfl rfl rfl (ltb rfl) ?_)
      refine VO.nil ?_
      exact ⟨((out_0 ++ ([day] : List Int)), b6), Option.some.inj hm2, Keeps.mk (ks := [0]) rfl ⟨rfl, rfl, rfl, rfl, rfl, trivial⟩ (⟨_, _, rfl, rfl, rfl⟩) rfl⟩
     ·
      replace hm2 := cond_f hc2 hm2
      refine V.skip ?_
      exact ⟨(out_0, b2), Option.some.inj hm2, Keeps.mk (ks := [0]) rfl ⟨rfl, rfl, rfl, rfl, rfl, trivial⟩ (⟨_, _, rfl, rfl, rfl⟩) rfl⟩
    ·
     rintro ⟨out_1, b3⟩ rfl
     try dsimp only at hm1
     refine V.region ?_
     refine VO.cons rfl (V1.move rfl rfl rfl (ltb rfl) ?_)
     refine VO.cons rfl (V1.int rfl rfl rfl rfl rfl (ltb rfl) ?_)
     refine VO.cons rfl (V1.assign rfl rfl rfl (ltb rfl) ?_)
     refine VO.nil ?_
     exact ⟨(m0, (out_1, (IntKind.i64.wrap (day + (1 : Int)))), b3), hl1 _ (Option.some.inj hm1).symm, Nat.lt_succ_self _, Keeps.mk (ks := [0]) rfl ⟨rfl, rfl, rfl, rfl, rfl, trivial⟩ (⟨_, _, rfl, rfl, rfl⟩) rfl⟩
   ·
    replace hm1 := cond_f hc1 hm1
    refine V.exit ?_
    obtain rfl := hr1 _ (Option.some.inj hm1).symm
    exact ⟨(out_0, b2), rfl, Keeps.mk (ks := [0]) rfl ⟨rfl, trivial⟩ (⟨_, _, rfl, rfl, rfl⟩) rfl⟩
  ·
   rintro ⟨out_, b1⟩ rfl
   try dsimp only at hm0
   refine V.seq ?_
   refine V.region ?_
   refine VO.cons rfl (V1.move rfl rfl rfl (ltb rfl) ?_)
   refine VO.cons rfl (V1.assign rfl rfl rfl (ltb rfl) ?_)
   refine VO.cons rfl (V1.assign rfl rfl rfl (ltb rfl) ?_)
   refine VO.nil ?_
   refine V.keep 56 [8, 9] [0] (E0 := [(8, .sref b1 1 0 (List.length out_)), (9, .bool true)]) (H0 := [(b1, ⟨1, List.map encInt out_⟩)]) rfl (⟨_, _, rfl, rfl, ⟨_, _, rfl, rfl, rfl⟩⟩) (⟨_, _, rfl, rfl, rfl⟩) rfl ?_
   refine V.ret ?_
   obtain rfl := Option.some.inj hm0
   exact ⟨_, _, ⟨_, _, rfl, rfl, ⟨_, _, rfl, rfl, rfl⟩⟩, List.Sublist.refl _, b1, rfl, rfl⟩

theorem ok_laws_rInts {ρ0 ρ1 rn : Nat} {a : List Int} {b_ : List Int} {r : Bool} (h : M.laws_rInts a b_ = some r) : Does Tryd.prog 9 [.vl ρ0 1 (List.map encInt a), .vl ρ1 1 (List.map encInt b_)] [] rn (fun x H => x = .bool r ∧ H = []) := by
 have hm0 := h; clear h; unfold M.laws_rInts at hm0
 try dsimp only at hm0
 refine Does.intro (N := 26) Tryd.func9 rfl rfl rfl rfl ?_
 intro w0 S0
 refine V.seq ?_
 refine V.region ?_
 refine VO.cons rfl (V1.assign rfl rfl rfl (ltb rfl) ?_)
 refine VO.nil ?_
 refine V.seq ?_
 refine V.seq ?_
 refine V.region ?_
 refine VO.cons rfl (V1.move rfl rfl rfl (ltb rfl) ?_)
 refine VO.cons rfl (V1.lenMap rfl rfl rfl rfl rfl rfl isl_27 (ltb rfl) ?_)
 refine VO.cons rfl (V1.move rfl rfl rfl (ltb rfl) ?_)
 refine VO.cons rfl (V1.lenMap rfl rfl rfl rfl rfl rfl isl_27 (ltb rfl) ?_)
 refine VO.cons rfl (V1.int rfl rfl rfl rfl rfl (ltb rfl) ?_)
 refine VO.nil ?_
 refine V.keep 26 [0, 1, 10] [] (E0 := [(0, .vl ρ0 1 (List.map encInt a)), (1, .vl ρ1 1 (List.map encInt b_)), (10, .bool ((a.length : Int) != (b_.length : Int)))]) (H0 := []) rfl (⟨_, _, rfl, rfl, ⟨_, _, rfl, rfl, ⟨_, _, rfl, rfl, rfl⟩⟩⟩) (rfl) rfl ?_
 refine V.cond rfl (fun hc0 => ?_) (fun hc0 => ?_)
 ·
  replace hm0 := cond_t hc0 hm0
  refine V.seq ?_
  refine V.region ?_
  refine VO.cons rfl (V1.assign rfl rfl rfl (ltb rfl) ?_)
  refine VO.nil ?_
  refine V.ret ?_
  obtain rfl := Option.some.inj hm0
  exact ⟨_, [], ⟨_, _, rfl, rfl, rfl⟩, List.nil_sublist _, rfl, rfl⟩
 ·
  replace hm0 := cond_f hc0 hm0
  refine V.skip ?_
  refine V.seq ?_
  refine V.seq ?_
  refine V.region ?_
  refine VO.cons rfl (V1.assign rfl rfl rfl (ltb rfl) ?_)
  refine VO.nil ?_
  replace hm0 := bindO hm0; rcases hm0 with ⟨e0, he1, hm0⟩
  refine V.cutT (D := (Unit) × (Unit)) (fun ⟨_, _⟩ => ⟨26, [], []⟩) (fun ⟨_, _⟩ => (.inl () = e0)) ?_ ?_
  ·
   refine V.block ?_
   refine V.keep 26 [5, 0, 1] [] (E0 := [(5, .int .i64 (0 : Int)), (0, .vl ρ0 1 (List.map encInt a)), (1, .vl ρ1 1 (List.map encInt b_))]) (H0 := []) rfl (⟨_, _, rfl, rfl, ⟨_, _, rfl, rfl, ⟨_, _, rfl, rfl, rfl⟩⟩⟩) (rfl) rfl ?_
   refine V.loopE (D := Nat × (Int) × (Unit)) (fun ⟨n0, i, _⟩ => [(5, .int .i64 i)]) (fun ⟨n0, i, _⟩ => []) (fun ⟨n0, i, _⟩ => loopO (M.laws_rInts_l0 a b_) n0 i = some e0) (fun ⟨n0, _, _⟩ => n0) (rounds, (0 : Int), ()) rfl he1 ?_
   rintro ⟨n0, i, _⟩ hP0
   obtain ⟨m0, y0, rfl, hm1, hl1, hr1⟩ := loop_head hP0
   unfold M.laws_rInts_l0 at hm1; dsimp only at hm1
   show V _ _ _ ⟨26, [(5, .int .i64 i), (0, .vl ρ0 1 (List.map encInt a)), (1, .vl ρ1 1 (List.map encInt b_))], []⟩
   refine V.seq ?_
   refine V.seq ?_
   refine V.region ?_
   refine VO.cons rfl (V1.move rfl rfl rfl (ltb rfl) ?_)
   refine VO.cons rfl (V1.move rfl rfl rfl (ltb rfl) ?_)
   refine VO.cons rfl (V1.lenMap rfl rfl rfl rfl rfl rfl isl_27 (ltb rfl) ?_)
   refine VO.cons rfl (V1.int rfl rfl rfl rfl rfl (ltb rfl) ?_)
   refine VO.nil ?_
   refine V.cond rfl (fun hc1 => ?_) (fun hc1 => ?_)
   ·
    replace hm1 := cond_t hc1 hm1
    refine V.skip ?_
    refine V.keep 26 [0, 1, 5] [] (E0 := [(0, .vl ρ0 1 (List.map encInt a)), (1, .vl ρ1 1 (List.map encInt b_)), (5, .int .i64 i)]) (H0 := []) rfl (⟨_, _, rfl, rfl, ⟨_, _, rfl, rfl, ⟨_, _, rfl, rfl, rfl⟩⟩⟩) (rfl) rfl ?_
    refine V.seq ?_
    refine V.block ?_
    refine V.seq ?_
    replace hm1 := asrt_some hm1; rcases hm1 with ⟨hh0, hm1⟩
    replace hm1 := asrt_some hm1; rcases hm1 with ⟨hh1, hm1⟩
    refine V.regionM 26 8 [⟨[(0, none)], [], none⟩, ⟨[(5, none)], [], none⟩, ⟨[(17, some 1), (18, some 0)], [], none⟩, ⟨[(19, some 0)], [], none⟩, ⟨[(1, none)], [], none⟩, ⟨[(5, none)], [], none⟩, ⟨[(21, some 1), (22, some 0)], [], none⟩, ⟨[(23, some 0)], [], none⟩] [(0, none), (1, none), (5, none), (20, some 4), (24, some 0)] (⟨_, rfl, ⟨_, rfl, ⟨_, rfl, ⟨_, rfl, ⟨_, rfl, ⟨_, rfl, ⟨_, rfl, ⟨_, rfl, ⟨rfl, rfl⟩⟩⟩⟩⟩⟩⟩⟩⟩) mixed_orders rfl (by decide +kernel) (fun hck6 => ?_)
    refine VP.step (p := ?pv65) rfl rfl rfl (⟨_, _, rfl, rfl, rfl⟩) ?hv65 ?rest65 hck6
    case hv65 =>
     intro E1
     refine (V1.move rfl rfl rfl (ltb rfl) ?_)
     exact rfl
    refine VP.step (p := ?pv66) rfl rfl rfl (⟨_, _, rfl, rfl, rfl⟩) ?hv66 ?rest66 hck6
    case hv66 =>
     intro E1
     refine (V1.move rfl rfl rfl (ltb rfl) ?_)
     exact rfl
    refine VP.step (p := ?pv67) rfl rfl rfl (⟨_, _, rfl, rfl, ⟨_, _, rfl, rfl, rfl⟩⟩) ?hv67 ?rest67 hck6
    case hv67 =>
     intro E1
     refine (V1.indexI rfl rfl esz_27 rfl rfl hh0 (ltb rfl) ?_)
     exact rfl
    refine VP.step (p := ?pv68) rfl rfl rfl (⟨_, _, rfl, rfl, rfl⟩) ?hv68 ?rest68 hck6
    case hv68 =>
     intro E1
     refine (V1.loadPin rfl rfl tyk_3 rfl rfl (ltb rfl) ?_)
     exact rfl
    refine VP.step (p := ?pv69) rfl rfl rfl (⟨_, _, rfl, rfl, rfl⟩) ?hv69 ?rest69 hck6
    case hv69 =>
     intro E1
     refine (V1.move rfl rfl rfl (ltb rfl) ?_)
     exact rfl
    refine VP.step (p := ?pv70) rfl rfl rfl (⟨_, _, rfl, rfl, rfl⟩) ?hv70 ?rest70 hck6
    case hv70 =>
     intro E1
     refine (V1.move rfl rfl rfl (ltb rfl) ?_)
     exact rfl
    refine VP.step (p := ?pv71) rfl rfl rfl (⟨_, _, rfl, rfl, ⟨_, _, rfl, rfl, rfl⟩⟩) ?hv71 ?rest71 hck6
    case hv71 =>
     intro E1
     refine (V1.indexI rfl rfl esz_27 rfl rfl hh1 (ltb rfl) ?_)
     exact rfl
    refine VP.step (p := ?pv72) rfl rfl rfl (⟨_, _, rfl, rfl, rfl⟩) ?hv72 ?rest72 hck6
    case hv72 =>
     intro E1
     refine (V1.loadPin rfl rfl tyk_3 rfl rfl (ltb rfl) ?_)
     exact rfl
    refine VP.fin rfl (⟨_, _, rfl, rfl, ⟨_, _, rfl, rfl, ⟨_, _, rfl, rfl, ⟨_, _, rfl, rfl, ⟨_, _, rfl, rfl, rfl⟩⟩⟩⟩⟩) ?_
    refine VO.cons rfl (V1.int rfl rfl rfl rfl rfl (ltb rfl) ?_)
    refine VO.nil ?_
    refine V.cond rfl (fun hc2 => ?_) (fun hc2 => ?_)
    ·
     replace hm1 := cond_t hc2 hm1
     refine V.seq ?_
     refine V.region ?_
     refine VO.cons rfl (V1.assign rfl rfl rfl (ltb rfl) ?_)
     refine VO.nil ?_
     refine V.ret ?_
     obtain rfl := hr1 _ (Option.some.inj hm1).symm
     change some _ = some _ at hm0
     obtain rfl := Option.some.inj hm0
     exact ⟨_, [], ⟨_, _, rfl, rfl, rfl⟩, List.nil_sublist _, rfl, rfl⟩
    ·
     replace hm1 := cond_f hc2 hm1
     refine V.skip ?_
     refine V.region ?_
     refine VO.cons rfl (V1.move rfl rfl rfl (ltb rfl) ?_)
     refine VO.cons rfl (V1.int rfl rfl rfl rfl rfl (ltb rfl) ?_)
     refine VO.cons rfl (V1.assign rfl rfl rfl (ltb rfl) ?_)
     refine VO.nil ?_
     exact ⟨(m0, (IntKind.i64.wrap (i + (1 : Int))), ()), hl1 _ (Option.some.inj hm1).symm, Nat.lt_succ_self _, Keeps.mk (ks := []) rfl ⟨rfl, rfl, rfl, trivial⟩ (rfl) rfl⟩
   ·
    replace hm1 := cond_f hc1 hm1
    refine V.exit ?_
    obtain rfl := hr1 _ (Option.some.inj hm1).symm
    exact ⟨((), ()), rfl, Keeps.mk (ks := []) rfl trivial (rfl) rfl⟩
  ·
   rintro ⟨_, _⟩ rfl
   try dsimp only at hm0
   refine V.seq ?_
   refine V.region ?_
   refine VO.cons rfl (V1.assign rfl rfl rfl (ltb rfl) ?_)
   refine VO.nil ?_
   refine V.ret ?_
   obtain rfl := Option.some.inj hm0
   exact ⟨_, [], ⟨_, _, rfl, rfl, rfl⟩, List.nil_sublist _, rfl, rfl⟩

theorem ok_impl_WhoMay {ρ0 rn : Nat} {list : List Clerk} {rights : Int} {day : Int} {r : List Int × Bool} (h : M.impl_WhoMay list rights day = some r) : Does Tryd.prog 7 [.vl ρ0 6 (List.map encClerk list), .int .i64 rights, .int .i64 day] [] rn (fun x H => ∃ (ob0_ : Option Nat), (ob0_ = none → r.1 = []) ∧ x = .tup [optS 1 ob0_ (List.length r.1), .bool r.2] ∧ H = optH 1 ob0_ (List.map encInt r.1)) := by
 have hm0 := h; clear h; unfold M.impl_WhoMay at hm0
 try dsimp only at hm0
 refine Does.intro (N := 25) Tryd.func7 rfl rfl rfl rfl ?_
 intro w0 S0
 refine V.seq ?_
 refine V.region ?_
 refine VO.cons rfl (V1.assign rfl rfl rfl (ltb rfl) ?_)
 refine VO.cons rfl (V1.assign rfl rfl rfl (ltb rfl) ?_)
 refine VO.nil ?_
 refine V.seq ?_
 refine V.seq ?_
 replace hm0 := bindO hm0; rcases hm0 with ⟨y0, hh0, hm0⟩
 replace hm0 := bindO hm0; rcases hm0 with ⟨y1, hh1, hm0⟩
 replace hm0 := bindO hm0; rcases hm0 with ⟨y2, hh2, hm0⟩
 refine V.region ?_
 refine VO.cons rfl (V1.move rfl rfl rfl (ltb rfl) ?_)
 refine VO.cons rfl (V1.call rfl rfl rfl cok_20 rfl (ok_impl_AreClerks hh0) rfl (ltb rfl) ?_)
 rintro _ _ ⟨rfl, rfl⟩
 refine VO.cons rfl (V1.not rfl rfl rfl (ltb rfl) ?_)
 refine VO.cons rfl (V1.move rfl rfl rfl (ltb rfl) ?_)
 apply VO.or (n := 3) rfl rfl rfl rfl rfl rfl (ltb rfl) (.none rfl)
 ·
  intro hg0
  refine VO.step (.some rfl rfl rfl) (V1.move rfl rfl rfl (ltb rfl) ?_)
  refine VO.step (.some rfl rfl rfl) (V1.call rfl rfl rfl cok_40 rfl (ok_impl_isNeed (cond_f hg0 hh1)) rfl (ltb rfl) ?_)
  rintro _ _ ⟨rfl, rfl⟩
  refine VO.step (.some rfl rfl rfl) (V1.not rfl rfl rfl (ltb rfl) ?_)
  exact VO.nil ⟨rfl, rfl, rfl, rfl, .inr ⟨rfl, .inr ⟨rfl, .inr ⟨rfl, .inr ⟨rfl, .inl rfl⟩⟩⟩⟩⟩
 refine VO.cons rfl (V1.move rfl rfl rfl (ltb rfl) ?_)
 apply VO.or (n := 3) rfl rfl rfl rfl rfl rfl (ltb rfl) (.none rfl)
 ·
  intro hg1
  refine VO.step (.some rfl rfl rfl) (V1.move rfl rfl rfl (ltb rfl) ?_)
  refine VO.step (.some rfl rfl rfl) (V1.call rfl rfl rfl cok_41 rfl (ok_impl_isDay (cond_f hg1 hh2)) rfl (ltb rfl) ?_)
  rintro _ _ ⟨rfl, rfl⟩
  refine VO.step (.some rfl rfl rfl) (V1.not rfl rfl rfl (ltb rfl) ?_)
  exact VO.nil ⟨rfl, rfl, rfl, rfl, .inr ⟨rfl, .inr ⟨rfl, .inr ⟨rfl, .inr ⟨rfl, .inl rfl⟩⟩⟩⟩⟩
 refine VO.nil ?_
 refine V.keep 25 [0, 1, 2, 20] [] (E0 := [(0, .vl ρ0 6 (List.map encClerk list)), (1, .int .i64 rights), (2, .int .i64 day), (20, .bool (((!y0) || (!y1)) || (!y2)))]) (H0 := []) rfl (⟨_, _, rfl, rfl, ⟨_, _, rfl, rfl, ⟨_, _, rfl, rfl, ⟨_, _, rfl, rfl, rfl⟩⟩⟩⟩) (rfl) rfl ?_
 refine V.cond rfl (fun hc0 => ?_) (fun hc0 => ?_)
 ·
  replace hm0 := cond_t hc0 hm0
  refine V.seq ?_
  refine V.region ?_
  refine VO.cons rfl (V1.assign rfl rfl rfl (ltb rfl) ?_)
  refine VO.cons rfl (V1.assign rfl rfl rfl (ltb rfl) ?_)
  refine VO.nil ?_
  refine V.keep 25 [6, 7] [] (E0 := [(6, .nils), (7, .bool false)]) (H0 := []) rfl (⟨_, _, rfl, rfl, ⟨_, _, rfl, rfl, rfl⟩⟩) (rfl) rfl ?_
  refine V.ret ?_
  obtain rfl := Option.some.inj hm0
  exact ⟨_, _, ⟨_, _, rfl, rfl, ⟨_, _, rfl, rfl, rfl⟩⟩, List.Sublist.refl _, none, (fun _ => rfl), rfl, rfl⟩
 ·
  replace hm0 := cond_f hc0 hm0
  refine V.skip ?_
  refine V.seq ?_
  replace hm0 := bindO hm0; rcases hm0 with ⟨y3, hh3, hm0⟩
  refine V.region ?_
  refine VO.cons rfl (V1.move rfl rfl rfl (ltb rfl) ?_)
  refine VO.cons rfl (V1.move rfl rfl rfl (ltb rfl) ?_)
  refine VO.cons rfl (V1.move rfl rfl rfl (ltb rfl) ?_)
  refine VO.cons rfl (V1.permK (V1.call rfl rfl rfl cok_42 rfl (ok_impl_whoMay hh3) rfl (ltb rfl) ?_))
  rintro _ _ ⟨ob0, hob0, rfl, rfl⟩
  refine ⟨_, ?_, Keeps.optBack (n := 1) (ob := ob0) (xs := List.map encInt y3) (H1 := []) (H2 := []) rfl⟩
  refine VO.cons rfl (V1.assign rfl rfl rfl (ltb rfl) ?_)
  refine VO.cons rfl (V1.assign rfl rfl rfl (ltb rfl) ?_)
  refine VO.nil ?_
  rcases ob0 with _ | ob0
  ·
   refine V.keep 25 [6, 7] [] (E0 := [(6, .nils), (7, .bool true)]) (H0 := []) rfl (⟨_, _, rfl, rfl, ⟨_, _, rfl, rfl, rfl⟩⟩) (rfl) rfl ?_
   refine V.ret ?_
   obtain rfl := Option.some.inj hm0
   exact ⟨_, _, ⟨_, _, rfl, rfl, ⟨_, _, rfl, rfl, rfl⟩⟩, List.Sublist.refl _, none, (fun _ => (hob0 rfl)), rfl, rfl⟩
  ·
   refine V.keep 25 [6, 7] [0] (E0 := [(6, .sref ob0 1 0 (List.length y3)), (7, .bool true)]) (H0 := [(ob0, ⟨1, List.map encInt y3⟩)]) rfl (⟨_, _, rfl, rfl, ⟨_, _, rfl, rfl, rfl⟩⟩) (⟨_, _, rfl, rfl, rfl⟩) rfl ?_
   refine V.ret ?_
   obtain rfl := Option.some.inj hm0
   exact ⟨_, _, ⟨_, _, rfl, rfl, ⟨_, _, rfl, rfl, rfl⟩⟩, List.Sublist.refl _, some ob0, (fun e => by cases e), rfl, rfl⟩

theorem ok_laws_rHas {ρ0 rn : Nat} {list : List Int} {x : Int} {r : Bool} (h : M.laws_rHas list x = some r) : Does Tryd.prog 12 [.vl ρ0 1 (List.map encInt list), .int .i64 x] [] rn (fun x H => x = .bool r ∧ H = []) := by
 have hm0 := h; clear h; unfold M.laws_rHas at hm0
 try dsimp only at hm0
 refine Does.intro (N := 18) Tryd.func12 rfl rfl rfl rfl ?_
 intro w0 S0
 refine V.seq ?_
 refine V.region ?_
 refine VO.cons rfl (V1.assign rfl rfl rfl (ltb rfl) ?_)
 refine VO.nil ?_
 refine V.seq ?_
 refine V.seq ?_
 refine V.region ?_
 refine VO.cons rfl (V1.assign rfl rfl rfl (ltb rfl) ?_)
 refine VO.nil ?_
 replace hm0 := bindO hm0; rcases hm0 with ⟨e0, he1, hm0⟩
 refine V.cutT (D := (Unit) × (Unit)) (fun ⟨_, _⟩ => ⟨18, [], []⟩) (fun ⟨_, _⟩ => (.inl () = e0)) ?_ ?_
 ·
  refine V.block ?_
  refine V.keep 18 [5, 0, 1] [] (E0 := [(5, .int .i64 (0 : Int)), (0, .vl ρ0 1 (List.map encInt list)), (1, .int .i64 x)]) (H0 := []) rfl (⟨_, _, rfl, rfl, ⟨_, _, rfl, rfl, ⟨_, _, rfl, rfl, rfl⟩⟩⟩) (rfl) rfl ?_
  refine V.loopE (D := Nat × (Int) × (Unit)) (fun ⟨n0, i, _⟩ => [(5, .int .i64 i)]) (fun ⟨n0, i, _⟩ => []) (fun ⟨n0, i, _⟩ => loopO (M.laws_rHas_l0 list x) n0 i = some e0) (fun ⟨n0, _, _⟩ => n0) (rounds, (0 : Int), ()) rfl he1 ?_
  rintro ⟨n0, i, _⟩ hP0
  obtain ⟨m0, y0, rfl, hm1, hl1, hr1⟩ := loop_head hP0
  unfold M.laws_rHas_l0 at hm1; dsimp only at hm1
  show V _ _ _ ⟨18, [(5, .int .i64 i), (0, .vl ρ0 1 (List.map encInt list)), (1, .int .i64 x)], []⟩
  refine V.seq ?_
  refine V.seq ?_
  refine V.region ?_
  refine VO.cons rfl (V1.move rfl rfl rfl (ltb rfl) ?_)
  refine VO.cons rfl (V1.move rfl rfl rfl (ltb rfl) ?_)
  refine VO.cons rfl (V1.lenMap rfl rfl rfl rfl rfl rfl isl_27 (ltb rfl) ?_)
  refine VO.cons rfl (V1.int rfl rfl rfl rfl rfl (ltb rfl) ?_)
  refine VO.nil ?_
  refine V.cond rfl (fun hc0 => ?_) (fun hc0 => ?_)
  ·
   replace hm1 := cond_t hc0 hm1
   refine V.skip ?_
   refine V.keep 18 [0, 1, 5] [] (E0 := [(0, .vl ρ0 1 (List.map encInt list)), (1, .int .i64 x), (5, .int .i64 i)]) (H0 := []) rfl (⟨_, _, rfl, rfl, ⟨_, _, rfl, rfl, ⟨_, _, rfl, rfl, rfl⟩⟩⟩) (rfl) rfl ?_
   refine V.seq ?_
   refine V.block ?_
   refine V.seq ?_
   replace hm1 := asrt_some hm1; rcases hm1 with ⟨hh0, hm1⟩
   refine V.region ?_
   refine VO.cons rfl (V1.move rfl rfl rfl (ltb rfl) ?_)
   refine VO.cons rfl (V1.move rfl rfl rfl (ltb rfl) ?_)
   refine VO.cons rfl (V1.indexI rfl rfl esz_27 rfl rfl hh0 (ltb rfl) ?_)
   refine VO.cons rfl (V1.loadPin rfl rfl tyk_3 rfl rfl (ltb rfl) ?_)
   refine VO.cons rfl (V1.move rfl rfl rfl (ltb rfl) ?_)
   refine VO.cons rfl (V1.int rfl rfl rfl rfl rfl (ltb rfl) ?_)
   refine VO.nil ?_
   refine V.keep 18 [0, 1, 5, 17] [] (E0 := [(0, .vl ρ0 1 (List.map encInt list)), (1, .int .i64 x), (5, .int .i64 i), (17, .bool ((list.getD (Int.toNat i) default) == x))]) (H0 := []) rfl (⟨_, _, rfl, rfl, ⟨_, _, rfl, rfl, ⟨_, _, rfl, rfl, ⟨_, _, rfl, rfl, rfl⟩⟩⟩⟩) (rfl) rfl ?_
   refine V.cond rfl (fun hc1 => ?_) (fun hc1 => ?_)
   ·
    replace hm1 := cond_t hc1 hm1
    refine V.seq ?_
    refine V.region ?_
    refine VO.cons rfl (V1.assign rfl rfl rfl (ltb rfl) ?_)
    refine VO.nil ?_
    refine V.ret ?_
    obtain rfl := hr1 _ (Option.some.inj hm1).symm
    change some _ = some _ at hm0
    obtain rfl := Option.some.inj hm0
    exact ⟨_, [], ⟨_, _, rfl, rfl, rfl⟩, List.nil_sublist _, rfl, rfl⟩
   ·
    replace hm1 := cond_f hc1 hm1
    refine V.skip ?_
    refine V.region ?_
    refine VO.cons rfl (V1.move rfl rfl rfl (ltb rfl) ?_)
    refine VO.cons rfl (V1.int rfl rfl rfl rfl rfl (ltb rfl) ?_)
    refine VO.cons rfl (V1.assign rfl rfl rfl (ltb rfl) ?_)
    refine VO.nil ?_
    exact ⟨(m0, (IntKind.i64.wrap (i + (1 : Int))), ()), hl1 _ (Option.some.inj hm1).symm, Nat.lt_succ_self _, Keeps.mk (ks := []) rfl ⟨rfl, rfl, rfl, trivial⟩ (rfl) rfl⟩
  ·
   replace hm1 := cond_f hc0 hm1
   refine V.exit ?_
   obtain rfl := hr1 _ (Option.some.inj hm1).symm
   exact ⟨((), ()), rfl, Keeps.mk (ks := []) rfl trivial (rfl) rfl⟩
 ·
  rintro ⟨_, _⟩ rfl
  try dsimp only at hm0
  refine V.seq ?_
  refine V.region ?_
  refine VO.cons rfl (V1.assign rfl rfl rfl (ltb rfl) ?_)
  refine VO.nil ?_
  refine V.ret ?_
  obtain rfl := Option.some.inj hm0
  exact ⟨_, [], ⟨_, _, rfl, rfl, rfl⟩, List.nil_sublist _, rfl, rfl⟩

theorem ok_spec_DrawStandFor {ρ0 rn : Nat} {code : List Int} {r : List Clerk × Int × Int} (h : M.spec_DrawStandFor code = some r) : Does Tryd.prog 31 [.vl ρ0 1 (List.map encU8 code)] [] rn (fun x H => ∃ (ob0_ : Nat), x = .tup [PV.sref ob0_ 6 0 (List.length r.1), .int .i64 r.2.1, .int .i64 r.2.2] ∧ H = [(ob0_, ⟨6, List.map encClerk r.1⟩)]) := by
 have hm0 := h; clear h; unfold M.spec_DrawStandFor at hm0
 try dsimp only at hm0
 refine Does.intro (N := 25) Tryd.func31 rfl rfl rfl rfl ?_
 intro w0 S0
 refine V.seq ?_
 refine V.region ?_
 refine VO.cons rfl (V1.assign rfl rfl rfl (ltb rfl) ?_)
 refine VO.cons rfl (V1.assign rfl rfl rfl (ltb rfl) ?_)
 refine VO.cons rfl (V1.assign rfl rfl rfl (ltb rfl) ?_)
 refine VO.nil ?_
 refine V.seq ?_
 refine V.region ?_
 refine VO.cons rfl (V1.move rfl rfl rfl (ltb rfl) ?_)
 refine VO.cons rfl (V1.build rfl rfl zk_54 pl_54 rfl rfl (ltb rfl) ?_)
 refine VO.cons rfl (V1.boxN (n := 3) rfl rfl rfl rfl rfl (ltb rfl) ?_)
 intro b0
 refine VO.cons rfl (V1.assign rfl rfl rfl (ltb rfl) ?_)
 refine VO.nil ?_
 refine V.keep 25 [5] [0] (E0 := [(5, .ref b0 3 0 0)]) (H0 := [(b0, ⟨3, [.agg [.vl ρ0 1 (List.map encU8 code), .int .i64 (0 : Int), .int .u64 (0 : Int)]]⟩)]) rfl (⟨_, _, rfl, rfl, rfl⟩) (⟨_, _, rfl, rfl, rfl⟩) rfl ?_
 refine V.seq ?_
 replace hm0 := bindO hm0; rcases hm0 with ⟨y0, hh0, hm0⟩
 refine V.region ?_
 refine VO.cons rfl (V1.move rfl rfl rfl (ltb rfl) ?_)
 refine VO.cons rfl (V1.callM 0 (rn + ρ0 + 1) [] [.ref b0 3 0 0] (p := (b0, ⟨3, [.agg [.vl ρ0 1 (List.map encU8 code), .int .i64 (0 : Int), .int .u64 (0 : Int)]]⟩)) rfl rfl rfl cok_37 rfl rfl ⟨_, _, rfl, .same _, rfl⟩ bwNil (ok_spec_l1Cur_clerks hh0) rfl (.inl rfl) (ltb rfl) ?_)
 rintro _ _ ⟨b1, rfl, rfl⟩
 refine VO.cons rfl (V1.assign rfl rfl rfl (ltb rfl) ?_)
 refine VO.nil ?_
 refine V.seq ?_
 replace hm0 := bindO hm0; rcases hm0 with ⟨y1, hh1, hm0⟩
 refine V.region ?_
 refine VO.cons rfl (V1.move rfl rfl rfl (ltb rfl) ?_)
 refine VO.cons rfl (V1.move rfl rfl rfl (ltb rfl) ?_)
 refine VO.cons rfl (V1.callM 1 (rn + ρ0 + 1) [b1] [.ref b0 3 0 0, .vl (rn + ρ0 + 1) 6 (List.map encClerk y0.1)] (p := (b0, ⟨3, [encCur ρ0 y0.2]⟩)) rfl rfl rfl cok_49 rfl rfl ⟨_, _, rfl, .same _, ⟨_, _, rfl, Lend.srMap 0 rfl (fun _ => rfl) (.head _), rfl⟩⟩ (bwCons (k := 0) rfl bwNil) (ok_spec_l1Cur_clerkId hh1) rfl (.inr ⟨(by first | omega | (dsimp only; omega)), by rintro _ _ ⟨rfl, rfl⟩; exact ⟨by simp [PV.no, PV.noL, optS_no, noL_iff, nbeq] <;> omega, by intro b ob h; first | exact optH_no (noL_map (fun _ => by simp [PV.no, PV.noL, noL_iff, nbeq]) _) b ob h | (simp at h; obtain ⟨rfl, rfl⟩ := h; exact noL_map (fun _ => by simp [PV.no, PV.noL, noL_iff, nbeq]) _) | (simp at h; obtain ⟨rfl, rfl⟩ := h; simp [PV.no, PV.noL, optS_no, noL_iff, nbeq] <;> omega)⟩⟩) (ltb rfl) ?_)
 rintro _ _ ⟨rfl, rfl⟩
 refine VO.cons rfl (V1.assign rfl rfl rfl (ltb rfl) ?_)
 refine VO.nil ?_
 refine V.keep 25 [5, 6, 7] [0, 1] (E0 := [(5, .ref b0 3 0 0), (6, .sref b1 6 0 (List.length y0.1)), (7, .int .i64 y1.1)]) (H0 := [(b0, ⟨3, [encCur ρ0 y1.2]⟩), (b1, ⟨6, List.map encClerk y0.1⟩)]) rfl (⟨_, _, rfl, rfl, ⟨_, _, rfl, rfl, ⟨_, _, rfl, rfl, rfl⟩⟩⟩) (⟨_, _, rfl, rfl, ⟨_, _, rfl, rfl, rfl⟩⟩) rfl ?_
 refine V.seq ?_
 refine V.seq ?_
 replace hm0 := bindO hm0; rcases hm0 with ⟨y2, hh2, hm0⟩
 refine V.region ?_
 refine VO.cons rfl (V1.move rfl rfl rfl (ltb rfl) ?_)
 refine VO.cons rfl (V1.callM 0 (rn + ρ0 + 1) [] [.ref b0 3 0 0, .int .i64 (4 : Int)] (p := (b0, ⟨3, [encCur ρ0 y1.2]⟩)) rfl rfl rfl cok_63 rfl rfl ⟨_, _, rfl, .same _, ⟨_, _, rfl, .same _, rfl⟩⟩ bwNil (ok_spec_l1Cur_one hh2) rfl (.inl rfl) (ltb rfl) ?_)
 rintro _ _ ⟨rfl, rfl⟩
 refine VO.nil ?_
 refine V.cond rfl (fun hc0 => ?_) (fun hc0 => ?_)
 ·
  replace hm0 := cond_t hc0 hm0
  refine V.seq ?_
  refine V.region ?_
  refine VO.cons rfl (V1.move rfl rfl rfl (ltb rfl) ?_)
  refine VO.cons rfl (V1.move rfl rfl rfl (ltb rfl) ?_)
  refine VO.cons rfl (V1.assign rfl rfl rfl (ltb rfl) ?_)
  refine VO.cons rfl (V1.assign rfl rfl rfl (ltb rfl) ?_)
  refine VO.cons rfl (V1.assign rfl rfl rfl (ltb rfl) ?_)
  refine VO.nil ?_
  refine V.keep 25 [2, 3, 4] [1] (E0 := [(2, .sref b1 6 0 (List.length y0.1)), (3, .int .i64 y1.1), (4, .int .i64 (0 : Int))]) (H0 := [(b1, ⟨6, List.map encClerk y0.1⟩)]) rfl (⟨_, _, rfl, rfl, ⟨_, _, rfl, rfl, ⟨_, _, rfl, rfl, rfl⟩⟩⟩) (⟨_, _, rfl, rfl, rfl⟩) rfl ?_
  refine V.ret ?_
  obtain rfl := Option.some.inj hm0
  exact ⟨_, _, ⟨_, _, rfl, rfl, ⟨_, _, rfl, rfl, ⟨_, _, rfl, rfl, rfl⟩⟩⟩, List.Sublist.refl _, b1, rfl, rfl⟩
 ·
  replace hm0 := cond_f hc0 hm0
  refine V.skip ?_
  refine V.seq ?_
  replace hm0 := bindO hm0; rcases hm0 with ⟨y3, hh3, hm0⟩
  refine V.region ?_
  refine VO.cons rfl (V1.move rfl rfl rfl (ltb rfl) ?_)
  refine VO.cons rfl (V1.move rfl rfl rfl (ltb rfl) ?_)
  refine VO.cons rfl (V1.move rfl rfl rfl (ltb rfl) ?_)
  refine VO.cons rfl (V1.move rfl rfl rfl (ltb rfl) ?_)
  refine VO.cons rfl (V1.callM 0 (rn + ρ0 + 1) [b1] [.ref b0 3 0 0, .vl (rn + ρ0 + 1) 6 (List.map encClerk y0.1)] (p := (b0, ⟨3, [encCur ρ0 y2.2]⟩)) rfl rfl rfl cok_49 rfl rfl ⟨_, _, rfl, .same _, ⟨_, _, rfl, Lend.srMap 1 rfl (fun _ => rfl) (.head _), rfl⟩⟩ (bwCons (k := 0) rfl bwNil) (ok_spec_l1Cur_clerkId hh3) rfl (.inr ⟨(by first | omega | (dsimp only; omega)), by rintro _ _ ⟨rfl, rfl⟩; exact ⟨by simp [PV.no, PV.noL, optS_no, noL_iff, nbeq] <;> omega, by intro b ob h; first | exact optH_no (noL_map (fun _ => by simp [PV.no, PV.noL, noL_iff, nbeq]) _) b ob h | (simp at h; obtain ⟨rfl, rfl⟩ := h; exact noL_map (fun _ => by simp [PV.no, PV.noL, noL_iff, nbeq]) _) | (simp at h; obtain ⟨rfl, rfl⟩ := h; simp [PV.no, PV.noL, optS_no, noL_iff, nbeq] <;> omega)⟩⟩) (ltb rfl) ?_)
  rintro _ _ ⟨rfl, rfl⟩
  refine VO.cons rfl (V1.assign rfl rfl rfl (ltb rfl) ?_)
  refine VO.cons rfl (V1.assign rfl rfl rfl (ltb rfl) ?_)
  refine VO.cons rfl (V1.assign rfl rfl rfl (ltb rfl) ?_)
  refine VO.nil ?_
  refine V.keep 25 [2, 3, 4] [1] (E0 := [(2, .sref b1 6 0 (List.length y0.1)), (3, .int .i64 y1.1), (4, .int .i64 y3.1)]) (H0 := [(b1, ⟨6, List.map encClerk y0.1⟩)]) rfl (⟨_, _, rfl, rfl, ⟨_, _, rfl, rfl, ⟨_, _, rfl, rfl, rfl⟩⟩⟩) (⟨_, _, rfl, rfl, rfl⟩) rfl ?_
  refine V.ret ?_
  obtain rfl := Option.some.inj hm0
  exact ⟨_, _, ⟨_, _, rfl, rfl, ⟨_, _, rfl, rfl, ⟨_, _, rfl, rfl, rfl⟩⟩⟩, List.Sublist.refl _, b1, rfl, rfl⟩

theorem ok_impl_StandFor_1 {τ1 rn bp : Nat} {xs_ : List Clerk} {i_ : Nat} {other : Int} {r : Clerk} (h : M.impl_StandFor_1 (List.getD xs_ i_ default) other = some r) (hi_ : i_ < xs_.length) : Does Tryd.prog 64 [.ref bp 6 i_ 0, .pin τ1 (.int .i64 other) 0] [(bp, ⟨6, List.map encClerk xs_⟩)] rn (fun x H => x = .tup [] ∧ H = [(bp, ⟨6, List.map encClerk (List.set xs_ i_ r)⟩)]) := by
 have hm0 := h; clear h; unfold M.impl_StandFor_1 at hm0
 try dsimp only at hm0
 refine Does.intro (N := 7) Tryd.func64 rfl rfl rfl rfl ?_
 intro w0 S0
 refine V.region ?_
 refine VO.cons rfl (V1.move rfl rfl rfl (ltb rfl) ?_)
 refine VO.cons rfl (V1.loadPin rfl rfl tyk_3 rfl rfl (ltb rfl) ?_)
 refine VO.cons rfl (V1.nilRef rfl rfl rfl (ltb rfl) ?_)
 refine VO.cons rfl (V1.fieldRef rfl rfl fo_34_5 rfl (ltb rfl) ?_)
 refine VO.cons rfl (V1.storeMapCell (k := 0) (f := encClerk) (x := (⟨(xs_.getD i_ default).Id, (xs_.getD i_ default).Name, (xs_.getD i_ default).Rights, (xs_.getD i_ default).From, (xs_.getD i_ default).Until, other⟩ : Clerk)) rfl rfl tyk_3 rfl rfl (by simpa using hi_) rfl rfl rfl rfl rfl rfl ?_)
 refine VO.nil ?_
 obtain rfl := Option.some.inj hm0
 exact ⟨_, _, rfl, (sub1 (k := 0) rfl), rfl, rfl⟩

theorem ok_impl_StandFor {ρ0 rn : Nat} {list : List Clerk} {id_ : Int} {other : Int} {r : List Clerk × Bool} (h : M.impl_StandFor list id_ other = some r) : Does Tryd.prog 32 [.vl ρ0 6 (List.map encClerk list), .int .i64 id_, .int .i64 other] [] rn (fun x H => ∃ (ob0_ : Option Nat), (ob0_ = none → r.1 = []) ∧ x = .tup [optS 6 ob0_ (List.length r.1), .bool r.2] ∧ H = optH 6 ob0_ (List.map encClerk r.1)) := by
 have hm0 := h; clear h; unfold M.impl_StandFor at hm0
 try dsimp only at hm0
 refine Does.intro (N := 14) Tryd.func32 rfl rfl rfl rfl ?_
 intro w0 S0
 refine V.seq ?_
 refine V.region ?_
 refine VO.cons rfl (V1.boxN (n := 1) rfl rfl rfl rfl rfl (ltb rfl) ?_)
 intro b0
 refine VO.cons rfl (V1.assign rfl rfl rfl (ltb rfl) ?_)
 refine VO.cons rfl (V1.assign rfl rfl rfl (ltb rfl) ?_)
 refine VO.nil ?_
 refine V.seq ?_
 replace hm0 := bindO hm0; rcases hm0 with ⟨y0, hh0, hm0⟩
 refine V.region ?_
 refine VO.cons rfl (V1.move rfl rfl rfl (ltb rfl) ?_)
 refine VO.cons rfl (V1.move rfl rfl rfl (ltb rfl) ?_)
 refine VO.cons rfl (V1.makeFunc rfl rfl rfl (ltb rfl) ?_)
 refine VO.cons rfl (V1.permK (V1.callL (rn + 1) [b0] [.vl ρ0 6 (List.map encClerk list), .int .i64 id_, .fn 64 [.pin (rn + 1) (.int .i64 other) 0]] rfl rfl rfl cok_54 rfl ⟨_, _, rfl, .same _, ⟨_, _, rfl, .same _, ⟨_, _, rfl, Lend.fn ⟨_, _, rfl, Lend.ref 0 rfl rfl rfl rfl (.head _), rfl⟩, rfl⟩⟩⟩ (bwCons (k := 0) rfl bwNil) (ok_impl_changed hh0 (fm := (fun x0 => M.impl_StandFor_1 x0 other)) cok_64 (fun _ _ _ hi_ _ h => ok_impl_StandFor_1 h hi_)) rfl (⟨(by first | omega | (dsimp only; omega)), by rintro _ _ ⟨ob0, hob0, rfl, rfl⟩; exact ⟨by simp [PV.no, PV.noL, optS_no, noL_iff, nbeq] <;> omega, by intro b ob h; first | exact optH_no (noL_map (fun _ => by simp [PV.no, PV.noL, noL_iff, nbeq]) _) b ob h | (simp at h; obtain ⟨rfl, rfl⟩ := h; exact noL_map (fun _ => by simp [PV.no, PV.noL, noL_iff, nbeq]) _) | (simp at h; obtain ⟨rfl, rfl⟩ := h; simp [PV.no, PV.noL, optS_no, noL_iff, nbeq] <;> omega)⟩⟩) (ltb rfl) ?_))
 rintro _ _ ⟨ob0, hob0, rfl, rfl⟩
 refine ⟨_, ?_, Keeps.optBack (n := 6) (ob := ob0) (xs := List.map encClerk y0.1) (H1 := []) (H2 := [(b0, ⟨1, [.int .i64 other]⟩)]) rfl⟩
 refine VO.cons rfl (V1.extract rfl rfl rfl rfl (ltb rfl) ?_)
 refine VO.cons rfl (V1.extract rfl rfl rfl rfl (ltb rfl) ?_)
 refine VO.cons rfl (V1.assign rfl rfl rfl (ltb rfl) ?_)
 refine VO.cons rfl (V1.assign rfl rfl rfl (ltb rfl) ?_)
 refine VO.nil ?_
 rcases ob0 with _ | ob0
 ·
  refine V.keep 14 [6, 7] [] (E0 := [(6, .nils), (7, .bool y0.2)]) (H0 := []) rfl (⟨_, _, rfl, rfl, ⟨_, _, rfl, rfl, rfl⟩⟩) (rfl) rfl ?_
  refine V.ret ?_
  obtain rfl := Option.some.inj hm0
  exact ⟨_, _, ⟨_, _, rfl, rfl, ⟨_, _, rfl, rfl, rfl⟩⟩, List.Sublist.refl _, none, (fun _ => (hob0 rfl)), rfl, rfl⟩
 ·
  refine V.keep 14 [6, 7] [1] (E0 := [(6, .sref ob0 6 0 (List.length y0.1)), (7, .bool y0.2)]) (H0 := [(ob0, ⟨6, List.map encClerk y0.1⟩)]) rfl (⟨_, _, rfl, rfl, ⟨_, _, rfl, rfl, rfl⟩⟩) (⟨_, _, rfl, rfl, rfl⟩) rfl ?_
  refine V.ret ?_
  obtain rfl := Option.some.inj hm0
  exact ⟨_, _, ⟨_, _, rfl, rfl, ⟨_, _, rfl, rfl, rfl⟩⟩, List.Sublist.refl _, some ob0, (fun e => by cases e), rfl, rfl⟩

theorem ok_spec_StandFor {ρ0 rn : Nat} {list : List Clerk} {id_ : Int} {other : Int} {r : List Clerk × Bool} (h : M.spec_StandFor list id_ other = some r) : Does Tryd.prog 33 [.vl ρ0 6 (List.map encClerk list), .int .i64 id_, .int .i64 other] [] rn (fun x H => ∃ (ob0_ : Nat), x = .tup [PV.sref ob0_ 6 0 (List.length r.1), .bool r.2] ∧ H = [(ob0_, ⟨6, List.map encClerk r.1⟩)]) := by
 have hm0 := h; clear h; unfold M.spec_StandFor at hm0
 try dsimp only at hm0
 refine Does.intro (N := 38) Tryd.func33 rfl rfl rfl rfl ?_
 intro w0 S0
 refine V.seq ?_
 refine V.region ?_
 refine VO.cons rfl (V1.assign rfl rfl rfl (ltb rfl) ?_)
 refine VO.cons rfl (V1.assign rfl rfl rfl (ltb rfl) ?_)
 refine VO.nil ?_
 refine V.seq ?_
 replace hm0 := bindO hm0; rcases hm0 with ⟨y0, hh0, hm0⟩
 refine V.region ?_
 refine VO.cons rfl (V1.move rfl rfl rfl (ltb rfl) ?_)
 refine VO.cons rfl (V1.move rfl rfl rfl (ltb rfl) ?_)
 refine VO.cons rfl (V1.call rfl rfl rfl cok_50 rfl (ok_spec_l11Find hh0) rfl (ltb rfl) ?_)
 rintro _ _ ⟨rfl, rfl⟩
 refine VO.cons rfl (V1.assign rfl rfl rfl (ltb rfl) ?_)
 refine VO.nil ?_
 refine V.keep 38 [0, 2, 8] [] (E0 := [(0, .vl ρ0 6 (List.map encClerk list)), (2, .int .i64 other), (8, .int .i64 y0)]) (H0 := []) rfl (⟨_, _, rfl, rfl, ⟨_, _, rfl, rfl, ⟨_, _, rfl, rfl, rfl⟩⟩⟩) (rfl) rfl ?_
 refine V.seq ?_
 refine V.seq ?_
 replace hm0 := bindO hm0; rcases hm0 with ⟨y1, hh1, hm0⟩
 refine V.region ?_
 refine VO.cons rfl (V1.move rfl rfl rfl (ltb rfl) ?_)
 refine VO.cons rfl (V1.call rfl rfl rfl cok_43 rfl (ok_spec_l11Good hh1) rfl (ltb rfl) ?_)
 rintro _ _ ⟨rfl, rfl⟩
 refine VO.cons rfl (V1.not rfl rfl rfl (ltb rfl) ?_)
 refine VO.cons rfl (V1.move rfl rfl rfl (ltb rfl) ?_)
 apply VO.or (n := 2) rfl rfl rfl rfl rfl rfl (ltb rfl) (.none rfl)
 ·
  intro hg0
  refine VO.step (.some rfl rfl rfl) (V1.move rfl rfl rfl (ltb rfl) ?_)
  refine VO.step (.some rfl rfl rfl) (V1.int rfl rfl rfl rfl rfl (ltb rfl) ?_)
  exact VO.nil ⟨rfl, rfl, rfl, rfl, .inr ⟨rfl, .inr ⟨rfl, .inr ⟨rfl, .inl rfl⟩⟩⟩⟩
 refine VO.nil ?_
 refine V.keep 38 [0, 2, 8, 21] [] (E0 := [(0, .vl ρ0 6 (List.map encClerk list)), (2, .int .i64 other), (8, .int .i64 y0), (21, .bool ((!y1) || (decide (y0 < (0 : Int)))))]) (H0 := []) rfl (⟨_, _, rfl, rfl, ⟨_, _, rfl, rfl, ⟨_, _, rfl, rfl, ⟨_, _, rfl, rfl, rfl⟩⟩⟩⟩) (rfl) rfl ?_
 refine V.cond rfl (fun hc0 => ?_) (fun hc0 => ?_)
 ·
  replace hm0 := cond_t hc0 hm0
  refine V.seq ?_
  refine V.region ?_
  refine VO.cons rfl (V1.buildSliceT (f := encClerk) ([] : List Clerk) rfl rfl esz_24 zk_34 rfl rfl rfl rfl rfl rfl rfl (ltb rfl) ?_)
  intro b0
  refine VO.cons rfl (V1.assign rfl rfl rfl (ltb rfl) ?_)
  refine VO.cons rfl (V1.assign rfl rfl rfl (ltb rfl) ?_)
  refine VO.nil ?_
  refine V.keep 38 [6, 7] [0] (E0 := [(6, .sref b0 6 0 (List.length ([] : List Clerk))), (7, .bool false)]) (H0 := [(b0, ⟨6, List.map encClerk ([] : List Clerk)⟩)]) rfl (⟨_, _, rfl, rfl, ⟨_, _, rfl, rfl, rfl⟩⟩) (⟨_, _, rfl, rfl, rfl⟩) rfl ?_
  refine V.ret ?_
  obtain rfl := Option.some.inj hm0
  exact ⟨_, _, ⟨_, _, rfl, rfl, ⟨_, _, rfl, rfl, rfl⟩⟩, List.Sublist.refl _, b0, rfl, rfl⟩
 ·
  replace hm0 := cond_f hc0 hm0
  refine V.skip ?_
  refine V.seq ?_
  replace hm0 := asrt_some hm0; rcases hm0 with ⟨hh2, hm0⟩
  refine V.region ?_
  refine VO.cons rfl (V1.move rfl rfl rfl (ltb rfl) ?_)
  refine VO.cons rfl (V1.move rfl rfl rfl (ltb rfl) ?_)
  refine VO.cons rfl (V1.indexI rfl rfl esz_24 rfl rfl hh2 (ltb rfl) ?_)
  refine VO.cons rfl (V1.loadPinAll rfl rfl tyk_34 rfl rfl (ltb rfl) ?_)
  refine VO.cons rfl (V1.alloc rfl rfl zk_34 (ltb rfl) ?_)
  intro b1
  refine VO.cons rfl (V1.storeRefAll (k := 0) rfl rfl tyk_34 rfl rfl rfl rfl rfl rfl ?_)
  refine VO.nil ?_
  refine V.keep 38 [0, 2, 8, 9] [0] (E0 := [(0, .vl ρ0 6 (List.map encClerk list)), (2, .int .i64 other), (8, .int .i64 y0), (9, .ref b1 6 0 0)]) (H0 := [(b1, ⟨6, [encClerk (list.getD (Int.toNat y0) default)]⟩)]) rfl (⟨_, _, rfl, rfl, ⟨_, _, rfl, rfl, ⟨_, _, rfl, rfl, ⟨_, _, rfl, rfl, rfl⟩⟩⟩⟩) (⟨_, _, rfl, rfl, rfl⟩) rfl ?_
  refine V.seq ?_
  refine V.region ?_
  refine VO.cons rfl (V1.move rfl rfl rfl (ltb rfl) ?_)
  refine VO.cons rfl (V1.fieldRef rfl rfl fo_34_5 rfl (ltb rfl) ?_)
  refine VO.cons rfl (V1.storeRef (k := 0) rfl rfl tyk_3 rfl rfl rfl rfl rfl rfl rfl rfl rfl ?_)
  refine VO.nil ?_
  refine V.seq ?_
  replace hm0 := bindO hm0; rcases hm0 with ⟨y2, hh3, hm0⟩
  refine V.region ?_
  refine VO.cons rfl (V1.move rfl rfl rfl (ltb rfl) ?_)
  refine VO.cons rfl (V1.move rfl rfl rfl (ltb rfl) ?_)
  refine VO.cons rfl (V1.loadRefAll (k := 0) rfl rfl tyk_34 rfl rfl rfl rfl rfl (ltb rfl) ?_)
  refine VO.cons rfl (V1.call rfl rfl rfl cok_57 rfl (ok_spec_l11With hh3) rfl (ltb rfl) ?_)
  rintro _ _ ⟨b2, rfl, rfl⟩
  refine VO.cons rfl (V1.move rfl rfl rfl (ltb rfl) ?_)
  refine VO.cons rfl (V1.extract rfl rfl rfl rfl (ltb rfl) ?_)
  refine VO.cons rfl (V1.extract rfl rfl rfl rfl (ltb rfl) ?_)
  refine VO.cons rfl (V1.assign rfl rfl rfl (ltb rfl) ?_)
  refine VO.cons rfl (V1.assign rfl rfl rfl (ltb rfl) ?_)
  refine VO.nil ?_
  refine V.keep 38 [10, 11] [0] (E0 := [(10, .sref b2 6 0 (List.length y2.1)), (11, .bool y2.2)]) (H0 := [(b2, ⟨6, List.map encClerk y2.1⟩)]) rfl (⟨_, _, rfl, rfl, ⟨_, _, rfl, rfl, rfl⟩⟩) (⟨_, _, rfl, rfl, rfl⟩) rfl ?_
  refine V.seq ?_
  refine V.region ?_
  refine VO.cons rfl (V1.move rfl rfl rfl (ltb rfl) ?_)
  refine VO.cons rfl (V1.move rfl rfl rfl (ltb rfl) ?_)
  refine VO.cons rfl (V1.assign rfl rfl rfl (ltb rfl) ?_)
  refine VO.cons rfl (V1.assign rfl rfl rfl (ltb rfl) ?_)
  refine VO.nil ?_
  refine V.keep 38 [6, 7] [0] (E0 := [(6, .sref b2 6 0 (List.length y2.1)), (7, .bool y2.2)]) (H0 := [(b2, ⟨6, List.map encClerk y2.1⟩)]) rfl (⟨_, _, rfl, rfl, ⟨_, _, rfl, rfl, rfl⟩⟩) (⟨_, _, rfl, rfl, rfl⟩) rfl ?_
  refine V.ret ?_
  obtain rfl := Option.some.inj hm0
  exact ⟨_, _, ⟨_, _, rfl, rfl, ⟨_, _, rfl, rfl, rfl⟩⟩, List.Sublist.refl _, b2, rfl, rfl⟩

theorem ok_impl_RightsOn {ρ0 rn : Nat} {list : List Clerk} {id_ : Int} {day : Int} {r : Int × Bool} (h : M.impl_RightsOn list id_ day = some r) : Does Tryd.prog 10 [.vl ρ0 6 (List.map encClerk list), .int .i64 id_, .int .i64 day] [] rn (fun x H => x = .tup [.int .i64 r.1, .bool r.2] ∧ H = []) := by
 have hm0 := h; clear h; unfold M.impl_RightsOn at hm0
 try dsimp only at hm0
 refine Does.intro (N := 31) Tryd.func10 rfl rfl rfl rfl ?_
 intro w0 S0
 refine V.seq ?_
 refine V.region ?_
 refine VO.cons rfl (V1.assign rfl rfl rfl (ltb rfl) ?_)
 refine VO.cons rfl (V1.assign rfl rfl rfl (ltb rfl) ?_)
 refine VO.nil ?_
 refine V.seq ?_
 replace hm0 := bindO hm0; rcases hm0 with ⟨y0, hh0, hm0⟩
 refine V.region ?_
 refine VO.cons rfl (V1.move rfl rfl rfl (ltb rfl) ?_)
 refine VO.cons rfl (V1.move rfl rfl rfl (ltb rfl) ?_)
 refine VO.cons rfl (V1.call rfl rfl rfl cok_47 rfl (ok_impl_clerkAt hh0) rfl (ltb rfl) ?_)
 rintro _ _ ⟨rfl, rfl⟩
 refine VO.cons rfl (V1.assign rfl rfl rfl (ltb rfl) ?_)
 refine VO.nil ?_
 refine V.keep 31 [0, 2, 8] [] (E0 := [(0, .vl ρ0 6 (List.map encClerk list)), (2, .int .i64 day), (8, .int .i64 y0)]) (H0 := []) rfl (⟨_, _, rfl, rfl, ⟨_, _, rfl, rfl, ⟨_, _, rfl, rfl, rfl⟩⟩⟩) (rfl) rfl ?_
 refine V.seq ?_
 refine V.seq ?_
 replace hm0 := bindO hm0; rcases hm0 with ⟨y1, hh1, hm0⟩
 replace hm0 := bindO hm0; rcases hm0 with ⟨y2, hh2, hm0⟩
 refine V.region ?_
 refine VO.cons rfl (V1.move rfl rfl rfl (ltb rfl) ?_)
 refine VO.cons rfl (V1.call rfl rfl rfl cok_20 rfl (ok_impl_AreClerks hh1) rfl (ltb rfl) ?_)
 rintro _ _ ⟨rfl, rfl⟩
 refine VO.cons rfl (V1.not rfl rfl rfl (ltb rfl) ?_)
 refine VO.cons rfl (V1.move rfl rfl rfl (ltb rfl) ?_)
 apply VO.or (n := 2) rfl rfl rfl rfl rfl rfl (ltb rfl) (.none rfl)
 ·
  intro hg0
  refine VO.step (.some rfl rfl rfl) (V1.move rfl rfl rfl (ltb rfl) ?_)
  refine VO.step (.some rfl rfl rfl) (V1.int rfl rfl rfl rfl rfl (ltb rfl) ?_)
  exact VO.nil ⟨rfl, rfl, rfl, rfl, .inr ⟨rfl, .inr ⟨rfl, .inr ⟨rfl, .inl rfl⟩⟩⟩⟩
 refine VO.cons rfl (V1.move rfl rfl rfl (ltb rfl) ?_)
 apply VO.or (n := 3) rfl rfl rfl rfl rfl rfl (ltb rfl) (.none rfl)
 ·
  intro hg1
  refine VO.step (.some rfl rfl rfl) (V1.move rfl rfl rfl (ltb rfl) ?_)
  refine VO.step (.some rfl rfl rfl) (V1.call rfl rfl rfl cok_41 rfl (ok_impl_isDay (cond_f hg1 hh2)) rfl (ltb rfl) ?_)
  rintro _ _ ⟨rfl, rfl⟩
  refine VO.step (.some rfl rfl rfl) (V1.not rfl rfl rfl (ltb rfl) ?_)
  exact VO.nil ⟨rfl, rfl, rfl, rfl, .inr ⟨rfl, .inr ⟨rfl, .inr ⟨rfl, .inr ⟨rfl, .inl rfl⟩⟩⟩⟩⟩
 refine VO.nil ?_
 refine V.keep 31 [0, 2, 8, 23] [] (E0 := [(0, .vl ρ0 6 (List.map encClerk list)), (2, .int .i64 day), (8, .int .i64 y0), (23, .bool (((!y1) || (decide (y0 < (0 : Int)))) || (!y2)))]) (H0 := []) rfl (⟨_, _, rfl, rfl, ⟨_, _, rfl, rfl, ⟨_, _, rfl, rfl, ⟨_, _, rfl, rfl, rfl⟩⟩⟩⟩) (rfl) rfl ?_
 refine V.cond rfl (fun hc0 => ?_) (fun hc0 => ?_)
 ·
  replace hm0 := cond_t hc0 hm0
  refine V.seq ?_
  refine V.region ?_
  refine VO.cons rfl (V1.assign rfl rfl rfl (ltb rfl) ?_)
  refine VO.cons rfl (V1.assign rfl rfl rfl (ltb rfl) ?_)
  refine VO.nil ?_
  refine V.ret ?_
  obtain rfl := Option.some.inj hm0
  exact ⟨_, [], ⟨_, _, rfl, rfl, ⟨_, _, rfl, rfl, rfl⟩⟩, List.nil_sublist _, rfl, rfl⟩
 ·
  replace hm0 := cond_f hc0 hm0
  refine V.skip ?_
  refine V.seq ?_
  replace hm0 := asrt_some hm0; rcases hm0 with ⟨hh3, hm0⟩
  replace hm0 := bindO hm0; rcases hm0 with ⟨y3, hh4, hm0⟩
  refine V.region ?_
  refine VO.cons rfl (V1.move rfl rfl rfl (ltb rfl) ?_)
  refine VO.cons rfl (V1.move rfl rfl rfl (ltb rfl) ?_)
  refine VO.cons rfl (V1.move rfl rfl rfl (ltb rfl) ?_)
  refine VO.cons rfl (V1.indexI rfl rfl esz_24 rfl rfl hh3 (ltb rfl) ?_)
  refine VO.cons rfl (V1.loadPinAll rfl rfl tyk_34 rfl rfl (ltb rfl) ?_)
  refine VO.cons rfl (V1.move rfl rfl rfl (ltb rfl) ?_)
  refine VO.cons rfl (V1.call rfl rfl rfl cok_48 rfl (ok_impl_rightsOn hh4) rfl (ltb rfl) ?_)
  rintro _ _ ⟨rfl, rfl⟩
  refine VO.cons rfl (V1.assign rfl rfl rfl (ltb rfl) ?_)
  refine VO.cons rfl (V1.assign rfl rfl rfl (ltb rfl) ?_)
  refine VO.nil ?_
  refine V.ret ?_
  obtain rfl := Option.some.inj hm0
  exact ⟨_, [], ⟨_, _, rfl, rfl, ⟨_, _, rfl, rfl, rfl⟩⟩, List.nil_sublist _, rfl, rfl⟩

theorem ok_spec_DrawIsClerk {ρ0 rn : Nat} {code : List Int} {r : Clerk} (h : M.spec_DrawIsClerk code = some r) : Does Tryd.prog 34 [.vl ρ0 1 (List.map encU8 code)] [] rn (fun x H => x = encClerk r ∧ H = []) := by
 have hm0 := h; clear h; unfold M.spec_DrawIsClerk at hm0
 try dsimp only at hm0
 refine Does.intro (N := 12) Tryd.func34 rfl rfl rfl rfl ?_
 intro w0 S0
 refine V.seq ?_
 refine V.region ?_
 refine VO.cons rfl (V1.alloc rfl rfl zk_34 (ltb rfl) ?_)
 intro b0
 refine VO.nil ?_
 refine V.seq ?_
 refine V.region ?_
 refine VO.cons rfl (V1.move rfl rfl rfl (ltb rfl) ?_)
 refine VO.cons rfl (V1.build rfl rfl zk_54 pl_54 rfl rfl (ltb rfl) ?_)
 refine VO.cons rfl (V1.boxN (n := 3) rfl rfl rfl rfl rfl (ltb rfl) ?_)
 intro b1
 refine VO.cons rfl (V1.assign rfl rfl rfl (ltb rfl) ?_)
 refine VO.nil ?_
 refine V.keep 12 [2, 3] [0, 1] (E0 := [(2, .ref b0 6 0 0), (3, .ref b1 3 0 0)]) (H0 := [(b1, ⟨3, [.agg [.vl ρ0 1 (List.map encU8 code), .int .i64 (0 : Int), .int .u64 (0 : Int)]]⟩), (b0, ⟨6, [.agg [.int .i64 (0 : Int), .str ([]), .int .i64 (0 : Int), .int .i64 (0 : Int), .int .i64 (0 : Int), .int .i64 (0 : Int)]]⟩)]) rfl (⟨_, _, rfl, rfl, ⟨_, _, rfl, rfl, rfl⟩⟩) (⟨_, _, rfl, rfl, ⟨_, _, rfl, rfl, rfl⟩⟩) rfl ?_
 refine V.seq ?_
 replace hm0 := bindO hm0; rcases hm0 with ⟨y0, hh0, hm0⟩
 replace hm0 := bindO hm0; rcases hm0 with ⟨y1, hh1, hm0⟩
 refine V.region ?_
 refine VO.cons rfl (V1.move rfl rfl rfl (ltb rfl) ?_)
 refine VO.cons rfl (V1.move rfl rfl rfl (ltb rfl) ?_)
 refine VO.cons rfl (V1.buildSliceT (f := encInt) ([(1 : Int), (42 : Int), (99 : Int)] : List Int) rfl rfl esz_27 zk_3 rfl rfl rfl rfl rfl rfl rfl (ltb rfl) ?_)
 intro b2
 refine VO.cons rfl (V1.callM 1 (rn + ρ0 + 1) [b2] [.ref b1 3 0 0, .vl (rn + ρ0 + 1) 1 (List.map encInt ([(1 : Int), (42 : Int), (99 : Int)] : List Int))] (p := (b1, ⟨3, [.agg [.vl ρ0 1 (List.map encU8 code), .int .i64 (0 : Int), .int .u64 (0 : Int)]]⟩)) rfl rfl rfl cok_59 rfl rfl ⟨_, _, rfl, .same _, ⟨_, _, rfl, Lend.srMap 0 rfl (fun _ => rfl) (.head _), rfl⟩⟩ (bwCons (k := 0) rfl bwNil) (ok_spec_l1Cur_among hh0) rfl (.inr ⟨(by first | omega | (dsimp only; omega)), by rintro _ _ ⟨rfl, rfl⟩; exact ⟨by simp [PV.no, PV.noL, optS_no, noL_iff, nbeq] <;> omega, by intro b ob h; first | exact optH_no (noL_map (fun _ => by simp [PV.no, PV.noL, noL_iff, nbeq]) _) b ob h | (simp at h; obtain ⟨rfl, rfl⟩ := h; exact noL_map (fun _ => by simp [PV.no, PV.noL, noL_iff, nbeq]) _) | (simp at h; obtain ⟨rfl, rfl⟩ := h; simp [PV.no, PV.noL, optS_no, noL_iff, nbeq] <;> omega)⟩⟩) (ltb rfl) ?_)
 rintro _ _ ⟨rfl, rfl⟩
 refine VO.cons rfl (V1.callM 0 (rn + ρ0 + 1) [] [.ref b1 3 0 0, .int .i64 y0.1] (p := (b1, ⟨3, [encCur ρ0 y0.2]⟩)) rfl rfl rfl cok_65 rfl rfl ⟨_, _, rfl, .same _, ⟨_, _, rfl, .same _, rfl⟩⟩ bwNil (ok_spec_l1Cur_clerk hh1) rfl (.inl rfl) (ltb rfl) ?_)
 rintro _ _ ⟨rfl, rfl⟩
 refine VO.cons rfl (V1.storeRefAll (k := 2) rfl rfl tyk_34 rfl rfl rfl rfl rfl rfl ?_)
 refine VO.nil ?_
 refine V.ret ?_
 obtain rfl := Option.some.inj hm0
 exact ⟨_, [], ⟨_, _, rfl, ⟨_, _, 2, _, rfl, rfl, rfl, rfl, tyk_34, rfl⟩, rfl⟩, List.nil_sublist _, rfl, rfl⟩

theorem ok_spec_IsClerk {rn : Nat} {x : Clerk} {r : Bool} (h : M.spec_IsClerk x = some r) : Does Tryd.prog 36 [encClerk x] [] rn (fun x H => x = .bool r ∧ H = []) := by
 have hm0 := h; clear h; unfold M.spec_IsClerk at hm0
 try dsimp only at hm0
 refine Does.intro (N := 5) Tryd.func36 rfl rfl rfl rfl ?_
 intro w0 S0
 refine V.seq ?_
 refine V.region ?_
 refine VO.cons rfl (V1.boxN (n := 6) rfl rfl rfl rfl rfl (ltb rfl) ?_)
 intro b0
 refine VO.cons rfl (V1.assign rfl rfl rfl (ltb rfl) ?_)
 refine VO.nil ?_
 refine V.seq ?_
 replace hm0 := bindO hm0; rcases hm0 with ⟨y0, hh0, hm0⟩
 refine V.region ?_
 refine VO.cons rfl (V1.loadRefAll (k := 0) rfl rfl tyk_34 rfl rfl rfl rfl rfl (ltb rfl) ?_)
 refine VO.cons rfl (V1.call rfl rfl rfl cok_70 rfl (ok_spec_l11One hh0) rfl (ltb rfl) ?_)
 rintro _ _ ⟨rfl, rfl⟩
 refine VO.cons rfl (V1.assign rfl rfl rfl (ltb rfl) ?_)
 refine VO.nil ?_
 refine V.ret ?_
 obtain rfl := Option.some.inj hm0
 exact ⟨_, [], ⟨_, _, rfl, rfl, rfl⟩, List.nil_sublist _, rfl, rfl⟩

theorem ok_laws_FnRights {ρ0 rn : Nat} {code : List Int} {r : Bool} (h : M.laws_FnRights code = some r) : Does Tryd.prog 4 [.vl ρ0 1 (List.map encU8 code)] [] rn (fun x H => x = .bool r ∧ H = []) := by
 have hm0 := h; clear h; unfold M.laws_FnRights at hm0
 try dsimp only at hm0
 refine Does.intro (N := 244) Tryd.func4 rfl rfl rfl rfl ?_
 intro w0 S0
 refine V.seq ?_
 refine V.region ?_
 refine VO.cons rfl (V1.assign rfl rfl rfl (ltb rfl) ?_)
 refine VO.nil ?_
 refine V.seq ?_
 refine V.seq ?_
 replace hm0 := bindO hm0; rcases hm0 with ⟨y0, hh0, hm0⟩
 refine V.region ?_
 refine VO.cons rfl (V1.move rfl rfl rfl (ltb rfl) ?_)
 refine VO.cons rfl (V1.call rfl rfl rfl cok_5 rfl (ok_laws_rBig hh0) rfl (ltb rfl) ?_)
 rintro _ _ ⟨rfl, rfl⟩
 refine VO.nil ?_
 refine V.cond rfl (fun hc0 => ?_) (fun hc0 => ?_)
 ·
  replace hm0 := cond_t hc0 hm0
  refine V.seq ?_
  refine V.region ?_
  refine VO.cons rfl (V1.assign rfl rfl rfl (ltb rfl) ?_)
  refine VO.nil ?_
  refine V.ret ?_
  obtain rfl := Option.some.inj hm0
  exact ⟨_, [], ⟨_, _, rfl, rfl, rfl⟩, List.nil_sublist _, rfl, rfl⟩
 ·
  replace hm0 := cond_f hc0 hm0
  refine V.skip ?_
  refine V.seq ?_
  replace hm0 := bindO hm0; rcases hm0 with ⟨y1, hh1, hm0⟩
  refine V.region ?_
  refine VO.cons rfl (V1.move rfl rfl rfl (ltb rfl) ?_)
  refine VO.cons rfl (V1.call rfl rfl rfl cok_22 rfl (ok_spec_DrawTakeRight hh1) rfl (ltb rfl) ?_)
  rintro _ _ ⟨b0, rfl, rfl⟩
  refine VO.cons rfl (V1.move rfl rfl rfl (ltb rfl) ?_)
  refine VO.cons rfl (V1.extract rfl rfl rfl rfl (ltb rfl) ?_)
  refine VO.weakenK (Keeps.freezeG 0 rn [(42, .vl rn 6 (List.map encClerk y1.1))] [] (f := encClerk) (l := y1.1) rfl (fun _ => rfl) ⟨⟨_, rfl, .here⟩, trivial⟩ rfl rfl iNil) ?_
  refine VO.cons rfl (V1.extract rfl rfl rfl rfl (ltb rfl) ?_)
  refine VO.cons rfl (V1.extract rfl rfl rfl rfl (ltb rfl) ?_)
  refine VO.cons rfl (V1.assign rfl rfl rfl (ltb rfl) ?_)
  refine VO.cons rfl (V1.assign rfl rfl rfl (ltb rfl) ?_)
  refine VO.cons rfl (V1.assign rfl rfl rfl (ltb rfl) ?_)
  refine VO.nil ?_
  refine V.keep 244 [0, 3, 4, 5] [] (E0 := [(0, .vl ρ0 1 (List.map encU8 code)), (3, .vl rn 6 (List.map encClerk y1.1)), (4, .int .i64 y1.2.1), (5, .int .i64 y1.2.2)]) (H0 := []) rfl (⟨_, _, rfl, rfl, ⟨_, _, rfl, rfl, ⟨_, _, rfl, rfl, ⟨_, _, rfl, rfl, rfl⟩⟩⟩⟩) (rfl) rfl ?_
  refine V.seq ?_
  replace hm0 := bindO hm0; rcases hm0 with ⟨y2, hh2, hm0⟩
  refine V.region ?_
  refine VO.cons rfl (V1.move rfl rfl rfl (ltb rfl) ?_)
  refine VO.cons rfl (V1.move rfl rfl rfl (ltb rfl) ?_)
  refine VO.cons rfl (V1.move rfl rfl rfl (ltb rfl) ?_)
  refine VO.cons rfl (V1.permK (V1.call rfl rfl rfl cok_23 rfl (ok_impl_TakeRight hh2) rfl (ltb rfl) ?_))
  rintro _ _ ⟨ob0, hob0, rfl, rfl⟩
  refine ⟨_, ?_, Keeps.optBack (n := 6) (ob := ob0) (xs := List.map encClerk y2.1) (H1 := []) (H2 := []) rfl⟩
  refine VO.cons rfl (V1.move rfl rfl rfl (ltb rfl) ?_)
  refine VO.cons rfl (V1.extract rfl rfl rfl rfl (ltb rfl) ?_)
  refine VO.weakenK (Keeps.optFront (n := 6) (ob := ob0) (xs := List.map encClerk y2.1) (H1 := []) rfl) ?_
  refine VO.weakenK (Keeps.optVl 50 [] rn (f := encClerk) (l := y2.1) (ob := ob0) (H1 := []) hob0 rfl rfl ⟨rfl, trivial⟩ (fun _ => rfl) rfl iNil) ?_
  refine VO.cons rfl (V1.extract rfl rfl rfl rfl (ltb rfl) ?_)
  refine VO.cons rfl (V1.assign rfl rfl rfl (ltb rfl) ?_)
  refine VO.cons rfl (V1.assign rfl rfl rfl (ltb rfl) ?_)
  refine VO.nil ?_
  refine V.keep 244 [0, 3, 4, 5, 6, 7] [] (E0 := [(0, .vl ρ0 1 (List.map encU8 code)), (3, .vl rn 6 (List.map encClerk y1.1)), (4, .int .i64 y1.2.1), (5, .int .i64 y1.2.2), (6, .vl rn 6 (List.map encClerk y2.1)), (7, .bool y2.2)]) (H0 := []) rfl (⟨_, _, rfl, rfl, ⟨_, _, rfl, rfl, ⟨_, _, rfl, rfl, ⟨_, _, rfl, rfl, ⟨_, _, rfl, rfl, ⟨_, _, rfl, rfl, rfl⟩⟩⟩⟩⟩⟩) (rfl) rfl ?_
  refine V.seq ?_
  refine V.seq ?_
  replace hm0 := bindO hm0; rcases hm0 with ⟨y3, hh3, hm0⟩
  refine V.region ?_
  refine VO.cons rfl (V1.move rfl rfl rfl (ltb rfl) ?_)
  refine VO.cons rfl (V1.move rfl rfl rfl (ltb rfl) ?_)
  refine VO.cons rfl (V1.move rfl rfl rfl (ltb rfl) ?_)
  refine VO.cons rfl (V1.call rfl rfl rfl cok_24 rfl (ok_spec_TakeRight hh3) rfl (ltb rfl) ?_)
  rintro _ _ ⟨b1, rfl, rfl⟩
  refine VO.cons rfl (V1.move rfl rfl rfl (ltb rfl) ?_)
  refine VO.cons rfl (V1.extract rfl rfl rfl rfl (ltb rfl) ?_)
  refine VO.weakenK (Keeps.freezeG 0 rn [(57, .vl rn 6 (List.map encClerk y3.1))] [] (f := encClerk) (l := y3.1) rfl (fun _ => rfl) ⟨⟨_, rfl, .here⟩, trivial⟩ rfl rfl iNil) ?_
  refine VO.cons rfl (V1.extract rfl rfl rfl rfl (ltb rfl) ?_)
  refine VO.cons rfl (V1.assign rfl rfl rfl (ltb rfl) ?_)
  refine VO.cons rfl (V1.assign rfl rfl rfl (ltb rfl) ?_)
  refine VO.nil ?_
  refine V.keep 244 [0, 3, 4, 5, 6, 7, 8, 9] [] (E0 := [(0, .vl ρ0 1 (List.map encU8 code)), (3, .vl rn 6 (List.map encClerk y1.1)), (4, .int .i64 y1.2.1), (5, .int .i64 y1.2.2), (6, .vl rn 6 (List.map encClerk y2.1)), (7, .bool y2.2), (8, .vl rn 6 (List.map encClerk y3.1)), (9, .bool y3.2)]) (H0 := []) rfl (⟨_, _, rfl, rfl, ⟨_, _, rfl, rfl, ⟨_, _, rfl, rfl, ⟨_, _, rfl, rfl, ⟨_, _, rfl, rfl, ⟨_, _, rfl, rfl, ⟨_, _, rfl, rfl, ⟨_, _, rfl, rfl, rfl⟩⟩⟩⟩⟩⟩⟩⟩) (rfl) rfl ?_
  refine V.seq ?_
  replace hm0 := bindO hm0; rcases hm0 with ⟨y4, hh4, hm0⟩
  refine V.region ?_
  refine VO.cons rfl (V1.move rfl rfl rfl (ltb rfl) ?_)
  refine VO.cons rfl (V1.move rfl rfl rfl (ltb rfl) ?_)
  refine VO.cons rfl (V1.boolNeq rfl rfl und_4 rfl rfl (ltb rfl) ?_)
  refine VO.cons rfl (V1.move rfl rfl rfl (ltb rfl) ?_)
  apply VO.or (n := 4) rfl rfl rfl rfl rfl rfl (ltb rfl) (.none rfl)
  ·
   intro hg0
   refine VO.step (.some rfl rfl rfl) (V1.move rfl rfl rfl (ltb rfl) ?_)
   refine VO.step (.some rfl rfl rfl) (V1.move rfl rfl rfl (ltb rfl) ?_)
   refine VO.step (.some rfl rfl rfl) (V1.call rfl rfl rfl cok_25 rfl (ok_laws_rClerks (cond_f hg0 hh4)) rfl (ltb rfl) ?_)
   rintro _ _ ⟨rfl, rfl⟩
   refine VO.step (.some rfl rfl rfl) (V1.not rfl rfl rfl (ltb rfl) ?_)
   exact VO.nil ⟨rfl, rfl, rfl, rfl, .inr ⟨rfl, .inr ⟨rfl, .inr ⟨rfl, .inr ⟨rfl, .inr ⟨rfl, .inl rfl⟩⟩⟩⟩⟩⟩
  refine VO.nil ?_
  refine V.keep 244 [0, 3, 4, 5, 6, 7, 67] [] (E0 := [(0, .vl ρ0 1 (List.map encU8 code)), (3, .vl rn 6 (List.map encClerk y1.1)), (4, .int .i64 y1.2.1), (5, .int .i64 y1.2.2), (6, .vl rn 6 (List.map encClerk y2.1)), (7, .bool y2.2), (67, .bool ((!(y2.2 == y3.2)) || (!y4)))]) (H0 := []) rfl (⟨_, _, rfl, rfl, ⟨_, _, rfl, rfl, ⟨_, _, rfl, rfl, ⟨_, _, rfl, rfl, ⟨_, _, rfl, rfl, ⟨_, _, rfl, rfl, ⟨_, _, rfl, rfl, rfl⟩⟩⟩⟩⟩⟩⟩) (rfl) rfl ?_
  refine V.cond rfl (fun hc1 => ?_) (fun hc1 => ?_)
  ·
   replace hm0 := cond_t hc1 hm0
   refine V.seq ?_
   refine V.region ?_
   refine VO.cons rfl (V1.assign rfl rfl rfl (ltb rfl) ?_)
   refine VO.nil ?_
   refine V.ret ?_
   obtain rfl := Option.some.inj hm0
   exact ⟨_, [], ⟨_, _, rfl, rfl, rfl⟩, List.nil_sublist _, rfl, rfl⟩
  ·
   replace hm0 := cond_f hc1 hm0
   refine V.skip ?_
   refine V.seq ?_
   replace hm0 := bindO hm0; rcases hm0 with ⟨j0, hm1, hm0⟩
   refine V.cutT (D := (Unit) × (Unit)) (fun ⟨_, _⟩ => ⟨244, [(0, .vl ρ0 1 (List.map encU8 code)), (3, .vl rn 6 (List.map encClerk y1.1)), (4, .int .i64 y1.2.1), (5, .int .i64 y1.2.2)], []⟩) (fun ⟨_, _⟩ => (.inl () = j0)) ?_ ?_
   ·
    refine V.seq ?_
    refine V.region ?_
    refine VO.cons rfl (V1.move rfl rfl rfl (ltb rfl) ?_)
    refine VO.nil ?_
    refine V.cond rfl (fun hc2 => ?_) (fun hc2 => ?_)
    ·
     replace hm1 := cond_t hc2 hm1
     refine V.seq ?_
     replace hm1 := bindO hm1; rcases hm1 with ⟨y5, hh5, hm1⟩
     refine V.region ?_
     refine VO.cons rfl (V1.move rfl rfl rfl (ltb rfl) ?_)
     refine VO.cons rfl (V1.move rfl rfl rfl (ltb rfl) ?_)
     refine VO.cons rfl (V1.move rfl rfl rfl (ltb rfl) ?_)
     refine VO.cons rfl (V1.permK (V1.call rfl rfl rfl cok_26 rfl (ok_impl_GiveRight hh5) rfl (ltb rfl) ?_))
     rintro _ _ ⟨ob1, hob1, rfl, rfl⟩
     refine ⟨_, ?_, Keeps.optBack (n := 6) (ob := ob1) (xs := List.map encClerk y5.1) (H1 := []) (H2 := []) rfl⟩
     refine VO.cons rfl (V1.move rfl rfl rfl (ltb rfl) ?_)
     refine VO.cons rfl (V1.extract rfl rfl rfl rfl (ltb rfl) ?_)
     refine VO.weakenK (Keeps.optFront (n := 6) (ob := ob1) (xs := List.map encClerk y5.1) (H1 := []) rfl) ?_
     refine VO.weakenK (Keeps.optVl 74 [] rn (f := encClerk) (l := y5.1) (ob := ob1) (H1 := []) hob1 rfl rfl ⟨rfl, trivial⟩ (fun _ => rfl) rfl iNil) ?_
     refine VO.cons rfl (V1.extract rfl rfl rfl rfl (ltb rfl) ?_)
     refine VO.cons rfl (V1.assign rfl rfl rfl (ltb rfl) ?_)
     refine VO.cons rfl (V1.assign rfl rfl rfl (ltb rfl) ?_)
     refine VO.nil ?_
     refine V.keep 244 [0, 3, 4, 5, 10, 11] [] (E0 := [(0, .vl ρ0 1 (List.map encU8 code)), (3, .vl rn 6 (List.map encClerk y1.1)), (4, .int .i64 y1.2.1), (5, .int .i64 y1.2.2), (10, .vl rn 6 (List.map encClerk y5.1)), (11, .bool y5.2)]) (H0 := []) rfl (⟨_, _, rfl, rfl, ⟨_, _, rfl, rfl, ⟨_, _, rfl, rfl, ⟨_, _, rfl, rfl, ⟨_, _, rfl, rfl, ⟨_, _, rfl, rfl, rfl⟩⟩⟩⟩⟩⟩) (rfl) rfl ?_
     refine V.seq ?_
     replace hm1 := bindO hm1; rcases hm1 with ⟨y6, hh6, hm1⟩
     refine V.region ?_
     refine VO.cons rfl (V1.move rfl rfl rfl (ltb rfl) ?_)
     refine VO.cons rfl (V1.not rfl rfl rfl (ltb rfl) ?_)
     refine VO.cons rfl (V1.move rfl rfl rfl (ltb rfl) ?_)
     apply VO.or (n := 4) rfl rfl rfl rfl rfl rfl (ltb rfl) (.none rfl)
     ·
      intro hg1
      refine VO.step (.some rfl rfl rfl) (V1.move rfl rfl rfl (ltb rfl) ?_)
      refine VO.step (.some rfl rfl rfl) (V1.move rfl rfl rfl (ltb rfl) ?_)
      refine VO.step (.some rfl rfl rfl) (V1.call rfl rfl rfl cok_25 rfl (ok_laws_rClerks (cond_f hg1 hh6)) rfl (ltb rfl) ?_)
      rintro _ _ ⟨rfl, rfl⟩
      refine VO.step (.some rfl rfl rfl) (V1.not rfl rfl rfl (ltb rfl) ?_)
      exact VO.nil ⟨rfl, rfl, rfl, rfl, .inr ⟨rfl, .inr ⟨rfl, .inr ⟨rfl, .inr ⟨rfl, .inr ⟨rfl, .inl rfl⟩⟩⟩⟩⟩⟩
     refine VO.nil ?_
     refine V.keep 244 [0, 3, 4, 5, 83] [] (E0 := [(0, .vl ρ0 1 (List.map encU8 code)), (3, .vl rn 6 (List.map encClerk y1.1)), (4, .int .i64 y1.2.1), (5, .int .i64 y1.2.2), (83, .bool ((!y5.2) || (!y6)))]) (H0 := []) rfl (⟨_, _, rfl, rfl, ⟨_, _, rfl, rfl, ⟨_, _, rfl, rfl, ⟨_, _, rfl, rfl, ⟨_, _, rfl, rfl, rfl⟩⟩⟩⟩⟩) (rfl) rfl ?_
     refine V.cond rfl (fun hc3 => ?_) (fun hc3 => ?_)
     ·
      replace hm1 := cond_t hc3 hm1
      refine V.seq ?_
      refine V.region ?_
      refine VO.cons rfl (V1.assign rfl rfl rfl (ltb rfl) ?_)
      refine VO.nil ?_
      refine V.ret ?_
      obtain rfl := Option.some.inj hm1
      change some _ = some _ at hm0
      obtain rfl := Option.some.inj hm0
      exact ⟨_, [], ⟨_, _, rfl, rfl, rfl⟩, List.nil_sublist _, rfl, rfl⟩
     ·
      replace hm1 := cond_f hc3 hm1
      refine V.skip ?_
      exact ⟨((), ()), Option.some.inj hm1, Keeps.mk (ks := []) rfl ⟨rfl, rfl, rfl, rfl, trivial⟩ (rfl) rfl⟩
    ·
     replace hm1 := cond_f hc2 hm1
     refine V.skip ?_
     exact ⟨((), ()), Option.some.inj hm1, Keeps.mk (ks := []) rfl ⟨rfl, rfl, rfl, rfl, trivial⟩ (rfl) rfl⟩
   ·
    rintro ⟨_, _⟩ rfl
    try dsimp only at hm0
    refine V.seq ?_
    replace hm0 := bindO hm0; rcases hm0 with ⟨y7, hh7, hm0⟩
    refine V.region ?_
    refine VO.cons rfl (V1.move rfl rfl rfl (ltb rfl) ?_)
    refine VO.cons rfl (V1.move rfl rfl rfl (ltb rfl) ?_)
    refine VO.cons rfl (V1.move rfl rfl rfl (ltb rfl) ?_)
    refine VO.cons rfl (V1.permK (V1.call rfl rfl rfl cok_26 rfl (ok_impl_GiveRight hh7) rfl (ltb rfl) ?_))
    rintro _ _ ⟨ob2, hob2, rfl, rfl⟩
    refine ⟨_, ?_, Keeps.optBack (n := 6) (ob := ob2) (xs := List.map encClerk y7.1) (H1 := []) (H2 := []) rfl⟩
    refine VO.cons rfl (V1.move rfl rfl rfl (ltb rfl) ?_)
    refine VO.cons rfl (V1.extract rfl rfl rfl rfl (ltb rfl) ?_)
    refine VO.weakenK (Keeps.optFront (n := 6) (ob := ob2) (xs := List.map encClerk y7.1) (H1 := []) rfl) ?_
    refine VO.weakenK (Keeps.optVl 89 [] rn (f := encClerk) (l := y7.1) (ob := ob2) (H1 := []) hob2 rfl rfl ⟨rfl, trivial⟩ (fun _ => rfl) rfl iNil) ?_
    refine VO.cons rfl (V1.extract rfl rfl rfl rfl (ltb rfl) ?_)
    refine VO.cons rfl (V1.assign rfl rfl rfl (ltb rfl) ?_)
    refine VO.cons rfl (V1.assign rfl rfl rfl (ltb rfl) ?_)
    refine VO.nil ?_
    refine V.keep 244 [0, 3, 4, 5, 12, 13] [] (E0 := [(0, .vl ρ0 1 (List.map encU8 code)), (3, .vl rn 6 (List.map encClerk y1.1)), (4, .int .i64 y1.2.1), (5, .int .i64 y1.2.2), (12, .vl rn 6 (List.map encClerk y7.1)), (13, .bool y7.2)]) (H0 := []) rfl (⟨_, _, rfl, rfl, ⟨_, _, rfl, rfl, ⟨_, _, rfl, rfl, ⟨_, _, rfl, rfl, ⟨_, _, rfl, rfl, ⟨_, _, rfl, rfl, rfl⟩⟩⟩⟩⟩⟩) (rfl) rfl ?_
    refine V.seq ?_
    refine V.seq ?_
    replace hm0 := bindO hm0; rcases hm0 with ⟨y8, hh8, hm0⟩
    refine V.region ?_
    refine VO.cons rfl (V1.move rfl rfl rfl (ltb rfl) ?_)
    refine VO.cons rfl (V1.move rfl rfl rfl (ltb rfl) ?_)
    refine VO.cons rfl (V1.move rfl rfl rfl (ltb rfl) ?_)
    refine VO.cons rfl (V1.call rfl rfl rfl cok_27 rfl (ok_spec_GiveRight hh8) rfl (ltb rfl) ?_)
    rintro _ _ ⟨b2, rfl, rfl⟩
    refine VO.cons rfl (V1.move rfl rfl rfl (ltb rfl) ?_)
    refine VO.cons rfl (V1.extract rfl rfl rfl rfl (ltb rfl) ?_)
    refine VO.weakenK (Keeps.freezeG 0 rn [(96, .vl rn 6 (List.map encClerk y8.1))] [] (f := encClerk) (l := y8.1) rfl (fun _ => rfl) ⟨⟨_, rfl, .here⟩, trivial⟩ rfl rfl iNil) ?_
    refine VO.cons rfl (V1.extract rfl rfl rfl rfl (ltb rfl) ?_)
    refine VO.cons rfl (V1.assign rfl rfl rfl (ltb rfl) ?_)
    refine VO.cons rfl (V1.assign rfl rfl rfl (ltb rfl) ?_)
    refine VO.nil ?_
    refine V.keep 244 [0, 12, 13, 14, 15] [] (E0 := [(0, .vl ρ0 1 (List.map encU8 code)), (12, .vl rn 6 (List.map encClerk y7.1)), (13, .bool y7.2), (14, .vl rn 6 (List.map encClerk y8.1)), (15, .bool y8.2)]) (H0 := []) rfl (⟨_, _, rfl, rfl, ⟨_, _, rfl, rfl, ⟨_, _, rfl, rfl, ⟨_, _, rfl, rfl, ⟨_, _, rfl, rfl, rfl⟩⟩⟩⟩⟩) (rfl) rfl ?_
    refine V.seq ?_
    replace hm0 := bindO hm0; rcases hm0 with ⟨y9, hh9, hm0⟩
    replace hm0 := bindO hm0; rcases hm0 with ⟨y10, hh10, hm0⟩
    refine V.region ?_
    refine VO.cons rfl (V1.move rfl rfl rfl (ltb rfl) ?_)
    refine VO.cons rfl (V1.move rfl rfl rfl (ltb rfl) ?_)
    refine VO.cons rfl (V1.boolNeq rfl rfl und_4 rfl rfl (ltb rfl) ?_)
    refine VO.cons rfl (V1.move rfl rfl rfl (ltb rfl) ?_)
    apply VO.or (n := 4) rfl rfl rfl rfl rfl rfl (ltb rfl) (.none rfl)
    ·
     intro hg2
     refine VO.step (.some rfl rfl rfl) (V1.move rfl rfl rfl (ltb rfl) ?_)
     refine VO.step (.some rfl rfl rfl) (V1.move rfl rfl rfl (ltb rfl) ?_)
     refine VO.step (.some rfl rfl rfl) (V1.call rfl rfl rfl cok_25 rfl (ok_laws_rClerks (cond_f hg2 hh9)) rfl (ltb rfl) ?_)
     rintro _ _ ⟨rfl, rfl⟩
     refine VO.step (.some rfl rfl rfl) (V1.not rfl rfl rfl (ltb rfl) ?_)
     exact VO.nil ⟨rfl, rfl, rfl, rfl, .inr ⟨rfl, .inr ⟨rfl, .inr ⟨rfl, .inr ⟨rfl, .inr ⟨rfl, .inl rfl⟩⟩⟩⟩⟩⟩
    refine VO.cons rfl (V1.move rfl rfl rfl (ltb rfl) ?_)
    apply VO.or (n := 6) rfl rfl rfl rfl rfl rfl (ltb rfl) (.none rfl)
    ·
     intro hg3
     refine VO.step (.some rfl rfl rfl) (V1.move rfl rfl rfl (ltb rfl) ?_)
     refine VO.step (.some rfl rfl rfl) (V1.move rfl rfl rfl (ltb rfl) ?_)
     apply VO.and (n := 3) rfl rfl rfl rfl rfl rfl (ltb rfl) (.some rfl rfl rfl)
     ·
      intro hg4
      refine VO.step (.some rfl rfl rfl) (V1.move rfl rfl rfl (ltb rfl) ?_)
      refine VO.step (.some rfl rfl rfl) (V1.call rfl rfl rfl cok_20 rfl (ok_impl_AreClerks (cond_t hg4 (cond_f hg3 hh10))) rfl (ltb rfl) ?_)
      rintro _ _ ⟨rfl, rfl⟩
      refine VO.step (.some rfl rfl rfl) (V1.not rfl rfl rfl (ltb rfl) ?_)
      exact VO.nil ⟨rfl, rfl, rfl, rfl, .inr ⟨rfl, .inr ⟨rfl, .inr ⟨rfl, .inr ⟨rfl, .inl rfl⟩⟩⟩⟩⟩
     exact VO.nil ⟨rfl, rfl, rfl, rfl, .inr ⟨rfl, .inr ⟨rfl, .inr ⟨rfl, .inr ⟨rfl, .inl rfl⟩⟩⟩⟩⟩
    refine VO.nil ?_
    refine V.keep 244 [0, 114] [] (E0 := [(0, .vl ρ0 1 (List.map encU8 code)), (114, .bool (((!(y7.2 == y8.2)) || (!y9)) || (y7.2 && (!y10))))]) (H0 := []) rfl (⟨_, _, rfl, rfl, ⟨_, _, rfl, rfl, rfl⟩⟩) (rfl) rfl ?_
    refine V.cond rfl (fun hc4 => ?_) (fun hc4 => ?_)
    ·
     replace hm0 := cond_t hc4 hm0
     refine V.seq ?_
     refine V.region ?_
     refine VO.cons rfl (V1.assign rfl rfl rfl (ltb rfl) ?_)
     refine VO.nil ?_
     refine V.ret ?_
     obtain rfl := Option.some.inj hm0
     exact ⟨_, [], ⟨_, _, rfl, rfl, rfl⟩, List.nil_sublist _, rfl, rfl⟩
    ·
     replace hm0 := cond_f hc4 hm0
     refine V.skip ?_
     refine V.seq ?_
     replace hm0 := bindO hm0; rcases hm0 with ⟨y11, hh11, hm0⟩
     refine V.region ?_
     refine VO.cons rfl (V1.move rfl rfl rfl (ltb rfl) ?_)
     refine VO.cons rfl (V1.call rfl rfl rfl cok_28 rfl (ok_spec_DrawDaysWithout hh11) rfl (ltb rfl) ?_)
     rintro _ _ ⟨b3, rfl, rfl⟩
     refine VO.cons rfl (V1.move rfl rfl rfl (ltb rfl) ?_)
     refine VO.cons rfl (V1.extract rfl rfl rfl rfl (ltb rfl) ?_)
     refine VO.weakenK (Keeps.freezeG 0 rn [(118, .vl rn 6 (List.map encClerk y11.1))] [] (f := encClerk) (l := y11.1) rfl (fun _ => rfl) ⟨⟨_, rfl, .here⟩, trivial⟩ rfl rfl iNil) ?_
     refine VO.cons rfl (V1.extract rfl rfl rfl rfl (ltb rfl) ?_)
     refine VO.cons rfl (V1.extract rfl rfl rfl rfl (ltb rfl) ?_)
     refine VO.cons rfl (V1.extract rfl rfl rfl rfl (ltb rfl) ?_)
     refine VO.cons rfl (V1.assign rfl rfl rfl (ltb rfl) ?_)
     refine VO.cons rfl (V1.assign rfl rfl rfl (ltb rfl) ?_)
     refine VO.cons rfl (V1.assign rfl rfl rfl (ltb rfl) ?_)
     refine VO.cons rfl (V1.assign rfl rfl rfl (ltb rfl) ?_)
     refine VO.nil ?_
     refine V.keep 244 [0, 16, 17, 18, 19] [] (E0 := [(0, .vl ρ0 1 (List.map encU8 code)), (16, .vl rn 6 (List.map encClerk y11.1)), (17, .int .i64 y11.2.1), (18, .int .i64 y11.2.2.1), (19, .int .i64 y11.2.2.2)]) (H0 := []) rfl (⟨_, _, rfl, rfl, ⟨_, _, rfl, rfl, ⟨_, _, rfl, rfl, ⟨_, _, rfl, rfl, ⟨_, _, rfl, rfl, rfl⟩⟩⟩⟩⟩) (rfl) rfl ?_
     refine V.seq ?_
     replace hm0 := bindO hm0; rcases hm0 with ⟨y12, hh12, hm0⟩
     refine V.region ?_
     refine VO.cons rfl (V1.move rfl rfl rfl (ltb rfl) ?_)
     refine VO.cons rfl (V1.move rfl rfl rfl (ltb rfl) ?_)
     refine VO.cons rfl (V1.move rfl rfl rfl (ltb rfl) ?_)
     refine VO.cons rfl (V1.move rfl rfl rfl (ltb rfl) ?_)
     refine VO.cons rfl (V1.permK (V1.call rfl rfl rfl cok_29 rfl (ok_impl_DaysWithout hh12) rfl (ltb rfl) ?_))
     rintro _ _ ⟨ob3, hob3, rfl, rfl⟩
     refine ⟨_, ?_, Keeps.optBack (n := 1) (ob := ob3) (xs := List.map encInt y12.1) (H1 := []) (H2 := []) rfl⟩
     refine VO.cons rfl (V1.move rfl rfl rfl (ltb rfl) ?_)
     refine VO.cons rfl (V1.extract rfl rfl rfl rfl (ltb rfl) ?_)
     refine VO.weakenK (Keeps.optFront (n := 1) (ob := ob3) (xs := List.map encInt y12.1) (H1 := []) rfl) ?_
     refine VO.weakenK (Keeps.optVl 128 [] rn (f := encInt) (l := y12.1) (ob := ob3) (H1 := []) hob3 rfl rfl ⟨rfl, trivial⟩ (fun _ => rfl) rfl iNil) ?_
     refine VO.cons rfl (V1.extract rfl rfl rfl rfl (ltb rfl) ?_)
     refine VO.cons rfl (V1.assign rfl rfl rfl (ltb rfl) ?_)
     refine VO.cons rfl (V1.assign rfl rfl rfl (ltb rfl) ?_)
     refine VO.nil ?_
     refine V.keep 244 [0, 16, 17, 18, 19, 20, 21] [] (E0 := [(0, .vl ρ0 1 (List.map encU8 code)), (16, .vl rn 6 (List.map encClerk y11.1)), (17, .int .i64 y11.2.1), (18, .int .i64 y11.2.2.1), (19, .int .i64 y11.2.2.2), (20, .vl rn 1 (List.map encInt y12.1)), (21, .bool y12.2)]) (H0 := []) rfl (⟨_, _, rfl, rfl, ⟨_, _, rfl, rfl, ⟨_, _, rfl, rfl, ⟨_, _, rfl, rfl, ⟨_, _, rfl, rfl, ⟨_, _, rfl, rfl, ⟨_, _, rfl, rfl, rfl⟩⟩⟩⟩⟩⟩⟩) (rfl) rfl ?_
     refine V.seq ?_
     refine V.seq ?_
     replace hm0 := bindO hm0; rcases hm0 with ⟨y13, hh13, hm0⟩
     refine V.region ?_
     refine VO.cons rfl (V1.move rfl rfl rfl (ltb rfl) ?_)
     refine VO.cons rfl (V1.move rfl rfl rfl (ltb rfl) ?_)
     refine VO.cons rfl (V1.move rfl rfl rfl (ltb rfl) ?_)
     refine VO.cons rfl (V1.move rfl rfl rfl (ltb rfl) ?_)
     refine VO.cons rfl (V1.call rfl rfl rfl cok_30 rfl (ok_spec_DaysWithout hh13) rfl (ltb rfl) ?_)
     rintro _ _ ⟨b4, rfl, rfl⟩
     refine VO.cons rfl (V1.move rfl rfl rfl (ltb rfl) ?_)
     refine VO.cons rfl (V1.extract rfl rfl rfl rfl (ltb rfl) ?_)
     refine VO.weakenK (Keeps.freezeG 0 rn [(136, .vl rn 1 (List.map encInt y13.1))] [] (f := encInt) (l := y13.1) rfl (fun _ => rfl) ⟨⟨_, rfl, .here⟩, trivial⟩ rfl rfl iNil) ?_
     refine VO.cons rfl (V1.extract rfl rfl rfl rfl (ltb rfl) ?_)
     refine VO.cons rfl (V1.assign rfl rfl rfl (ltb rfl) ?_)
     refine VO.cons rfl (V1.assign rfl rfl rfl (ltb rfl) ?_)
     refine VO.nil ?_
     refine V.keep 244 [0, 16, 17, 18, 20, 21, 22, 23] [] (E0 := [(0, .vl ρ0 1 (List.map encU8 code)), (16, .vl rn 6 (List.map encClerk y11.1)), (17, .int .i64 y11.2.1), (18, .int .i64 y11.2.2.1), (20, .vl rn 1 (List.map encInt y12.1)), (21, .bool y12.2), (22, .vl rn 1 (List.map encInt y13.1)), (23, .bool y13.2)]) (H0 := []) rfl (⟨_, _, rfl, rfl, ⟨_, _, rfl, rfl, ⟨_, _, rfl, rfl, ⟨_, _, rfl, rfl, ⟨_, _, rfl, rfl, ⟨_, _, rfl, rfl, ⟨_, _, rfl, rfl, ⟨_, _, rfl, rfl, rfl⟩⟩⟩⟩⟩⟩⟩⟩) (rfl) rfl ?_
     refine V.seq ?_
     replace hm0 := bindO hm0; rcases hm0 with ⟨y14, hh14, hm0⟩
     refine V.region ?_
     refine VO.cons rfl (V1.move rfl rfl rfl (ltb rfl) ?_)
     refine VO.cons rfl (V1.move rfl rfl rfl (ltb rfl) ?_)
     refine VO.cons rfl (V1.boolNeq rfl rfl und_4 rfl rfl (ltb rfl) ?_)
     refine VO.cons rfl (V1.move rfl rfl rfl (ltb rfl) ?_)
     apply VO.or (n := 4) rfl rfl rfl rfl rfl rfl (ltb rfl) (.none rfl)
     ·
      intro hg5
      refine VO.step (.some rfl rfl rfl) (V1.move rfl rfl rfl (ltb rfl) ?_)
      refine VO.step (.some rfl rfl rfl) (V1.move rfl rfl rfl (ltb rfl) ?_)
      refine VO.step (.some rfl rfl rfl) (V1.call rfl rfl rfl cok_9 rfl (ok_laws_rInts (cond_f hg5 hh14)) rfl (ltb rfl) ?_)
      rintro _ _ ⟨rfl, rfl⟩
      refine VO.step (.some rfl rfl rfl) (V1.not rfl rfl rfl (ltb rfl) ?_)
      exact VO.nil ⟨rfl, rfl, rfl, rfl, .inr ⟨rfl, .inr ⟨rfl, .inr ⟨rfl, .inr ⟨rfl, .inr ⟨rfl, .inl rfl⟩⟩⟩⟩⟩⟩
     refine VO.nil ?_
     refine V.keep 244 [0, 16, 17, 18, 20, 21, 146] [] (E0 := [(0, .vl ρ0 1 (List.map encU8 code)), (16, .vl rn 6 (List.map encClerk y11.1)), (17, .int .i64 y11.2.1), (18, .int .i64 y11.2.2.1), (20, .vl rn 1 (List.map encInt y12.1)), (21, .bool y12.2), (146, .bool ((!(y12.2 == y13.2)) || (!y14)))]) (H0 := []) rfl (⟨_, _, rfl, rfl, ⟨_, _, rfl, rfl, ⟨_, _, rfl, rfl, ⟨_, _, rfl, rfl, ⟨_, _, rfl, rfl, ⟨_, _, rfl, rfl, ⟨_, _, rfl, rfl, rfl⟩⟩⟩⟩⟩⟩⟩) (rfl) rfl ?_
     refine V.cond rfl (fun hc5 => ?_) (fun hc5 => ?_)
     ·
      replace hm0 := cond_t hc5 hm0
      refine V.seq ?_
      refine V.region ?_
      refine VO.cons rfl (V1.assign rfl rfl rfl (ltb rfl) ?_)
      refine VO.nil ?_
      refine V.ret ?_
      obtain rfl := Option.some.inj hm0
      exact ⟨_, [], ⟨_, _, rfl, rfl, rfl⟩, List.nil_sublist _, rfl, rfl⟩
     ·
      replace hm0 := cond_f hc5 hm0
      refine V.skip ?_
      refine V.seq ?_
      replace hm0 := bindO hm0; rcases hm0 with ⟨j1, hm1, hm0⟩
      refine V.cutT (D := (Unit) × (Unit)) (fun ⟨_, _⟩ => ⟨244, [(0, .vl ρ0 1 (List.map encU8 code))], []⟩) (fun ⟨_, _⟩ => (.inl () = j1)) ?_ ?_
      ·
       refine V.seq ?_
       refine V.region ?_
       refine VO.cons rfl (V1.move rfl rfl rfl (ltb rfl) ?_)
       refine VO.nil ?_
       refine V.cond rfl (fun hc6 => ?_) (fun hc6 => ?_)
       ·
        replace hm1 := cond_t hc6 hm1
        refine V.seq ?_
        replace hm1 := bindO hm1; rcases hm1 with ⟨y15, hh15, hm1⟩
        refine V.region ?_
        refine VO.cons rfl (V1.move rfl rfl rfl (ltb rfl) ?_)
        refine VO.cons rfl (V1.move rfl rfl rfl (ltb rfl) ?_)
        refine VO.cons rfl (V1.move rfl rfl rfl (ltb rfl) ?_)
        refine VO.cons rfl (V1.permK (V1.call rfl rfl rfl cok_7 rfl (ok_impl_WhoMay hh15) rfl (ltb rfl) ?_))
        rintro _ _ ⟨ob4, hob4, rfl, rfl⟩
        refine ⟨_, ?_, Keeps.optBack (n := 1) (ob := ob4) (xs := List.map encInt y15.1) (H1 := []) (H2 := []) rfl⟩
        refine VO.cons rfl (V1.move rfl rfl rfl (ltb rfl) ?_)
        refine VO.cons rfl (V1.extract rfl rfl rfl rfl (ltb rfl) ?_)
        refine VO.weakenK (Keeps.optFront (n := 1) (ob := ob4) (xs := List.map encInt y15.1) (H1 := []) rfl) ?_
        refine VO.weakenK (Keeps.optVl 153 [] rn (f := encInt) (l := y15.1) (ob := ob4) (H1 := []) hob4 rfl rfl ⟨rfl, trivial⟩ (fun _ => rfl) rfl iNil) ?_
        refine VO.cons rfl (V1.extract rfl rfl rfl rfl (ltb rfl) ?_)
        refine VO.cons rfl (V1.assign rfl rfl rfl (ltb rfl) ?_)
        refine VO.cons rfl (V1.assign rfl rfl rfl (ltb rfl) ?_)
        refine VO.nil ?_
        refine V.keep 244 [0, 18, 20, 24, 25] [] (E0 := [(0, .vl ρ0 1 (List.map encU8 code)), (18, .int .i64 y11.2.2.1), (20, .vl rn 1 (List.map encInt y12.1)), (24, .vl rn 1 (List.map encInt y15.1)), (25, .bool y15.2)]) (H0 := []) rfl (⟨_, _, rfl, rfl, ⟨_, _, rfl, rfl, ⟨_, _, rfl, rfl, ⟨_, _, rfl, rfl, ⟨_, _, rfl, rfl, rfl⟩⟩⟩⟩⟩) (rfl) rfl ?_
        refine V.seq ?_
        replace hm1 := bindO hm1; rcases hm1 with ⟨y16, hh16, hm1⟩
        refine V.region ?_
        refine VO.cons rfl (V1.move rfl rfl rfl (ltb rfl) ?_)
        refine VO.cons rfl (V1.not rfl rfl rfl (ltb rfl) ?_)
        refine VO.cons rfl (V1.move rfl rfl rfl (ltb rfl) ?_)
        apply VO.or (n := 7) rfl rfl rfl rfl rfl rfl (ltb rfl) (.none rfl)
        ·
         intro hg6
         refine VO.step (.some rfl rfl rfl) (V1.move rfl rfl rfl (ltb rfl) ?_)
         refine VO.step (.some rfl rfl rfl) (V1.move rfl rfl rfl (ltb rfl) ?_)
         refine VO.step (.some rfl rfl rfl) (V1.call rfl rfl rfl cok_12 rfl (ok_laws_rHas (cond_f hg6 hh16)) rfl (ltb rfl) ?_)
         rintro _ _ ⟨rfl, rfl⟩
         refine VO.step (.some rfl rfl rfl) (V1.move rfl rfl rfl (ltb rfl) ?_)
         refine VO.step (.some rfl rfl rfl) (V1.lenMap rfl rfl rfl rfl rfl rfl isl_27 (ltb rfl) ?_)
         refine VO.step (.some rfl rfl rfl) (V1.int rfl rfl rfl rfl rfl (ltb rfl) ?_)
         refine VO.step (.some rfl rfl rfl) (V1.boolNeq rfl rfl und_4 rfl rfl (ltb rfl) ?_)
         exact VO.nil ⟨rfl, rfl, rfl, rfl, .inr ⟨rfl, .inr ⟨rfl, .inr ⟨rfl, .inr ⟨rfl, .inr ⟨rfl, .inr ⟨rfl, .inr ⟨rfl, .inr ⟨rfl, .inl rfl⟩⟩⟩⟩⟩⟩⟩⟩⟩
        refine VO.nil ?_
        refine V.keep 244 [0, 165] [] (E0 := [(0, .vl ρ0 1 (List.map encU8 code)), (165, .bool ((!y15.2) || (!(y16 == ((y15.1.length : Int) == (0 : Int))))))]) (H0 := []) rfl (⟨_, _, rfl, rfl, ⟨_, _, rfl, rfl, rfl⟩⟩) (rfl) rfl ?_
        refine V.cond rfl (fun hc7 => ?_) (fun hc7 => ?_)
        ·
         replace hm1 := cond_t hc7 hm1
         refine V.seq ?_
         refine V.region ?_
         refine VO.cons rfl (V1.assign rfl rfl rfl (ltb rfl) ?_)
         refine VO.nil ?_
         refine V.ret ?_
         obtain rfl := Option.some.inj hm1
         change some _ = some _ at hm0
         obtain rfl := Option.some.inj hm0
         exact ⟨_, [], ⟨_, _, rfl, rfl, rfl⟩, List.nil_sublist _, rfl, rfl⟩
        ·
         replace hm1 := cond_f hc7 hm1
         refine V.skip ?_
         exact ⟨((), ()), Option.some.inj hm1, Keeps.mk (ks := []) rfl ⟨rfl, trivial⟩ (rfl) rfl⟩
       ·
        replace hm1 := cond_f hc6 hm1
        refine V.skip ?_
        exact ⟨((), ()), Option.some.inj hm1, Keeps.mk (ks := []) rfl ⟨rfl, trivial⟩ (rfl) rfl⟩
      ·
       rintro ⟨_, _⟩ rfl
       try dsimp only at hm0
       refine V.seq ?_
       replace hm0 := bindO hm0; rcases hm0 with ⟨y17, hh17, hm0⟩
       refine V.region ?_
       refine VO.cons rfl (V1.move rfl rfl rfl (ltb rfl) ?_)
       refine VO.cons rfl (V1.call rfl rfl rfl cok_31 rfl (ok_spec_DrawStandFor hh17) rfl (ltb rfl) ?_)
       rintro _ _ ⟨b5, rfl, rfl⟩
       refine VO.cons rfl (V1.move rfl rfl rfl (ltb rfl) ?_)
       refine VO.cons rfl (V1.extract rfl rfl rfl rfl (ltb rfl) ?_)
       refine VO.weakenK (Keeps.freezeG 0 rn [(169, .vl rn 6 (List.map encClerk y17.1))] [] (f := encClerk) (l := y17.1) rfl (fun _ => rfl) ⟨⟨_, rfl, .here⟩, trivial⟩ rfl rfl iNil) ?_
       refine VO.cons rfl (V1.extract rfl rfl rfl rfl (ltb rfl) ?_)
       refine VO.cons rfl (V1.extract rfl rfl rfl rfl (ltb rfl) ?_)
       refine VO.cons rfl (V1.assign rfl rfl rfl (ltb rfl) ?_)
       refine VO.cons rfl (V1.assign rfl rfl rfl (ltb rfl) ?_)
       refine VO.cons rfl (V1.assign rfl rfl rfl (ltb rfl) ?_)
       refine VO.nil ?_
       refine V.keep 244 [0, 26, 27, 28] [] (E0 := [(0, .vl ρ0 1 (List.map encU8 code)), (26, .vl rn 6 (List.map encClerk y17.1)), (27, .int .i64 y17.2.1), (28, .int .i64 y17.2.2)]) (H0 := []) rfl (⟨_, _, rfl, rfl, ⟨_, _, rfl, rfl, ⟨_, _, rfl, rfl, ⟨_, _, rfl, rfl, rfl⟩⟩⟩⟩) (rfl) rfl ?_
       refine V.seq ?_
       replace hm0 := bindO hm0; rcases hm0 with ⟨y18, hh18, hm0⟩
       refine V.region ?_
       refine VO.cons rfl (V1.move rfl rfl rfl (ltb rfl) ?_)
       refine VO.cons rfl (V1.move rfl rfl rfl (ltb rfl) ?_)
       refine VO.cons rfl (V1.move rfl rfl rfl (ltb rfl) ?_)
       refine VO.cons rfl (V1.permK (V1.call rfl rfl rfl cok_32 rfl (ok_impl_StandFor hh18) rfl (ltb rfl) ?_))
       rintro _ _ ⟨ob5, hob5, rfl, rfl⟩
       refine ⟨_, ?_, Keeps.optBack (n := 6) (ob := ob5) (xs := List.map encClerk y18.1) (H1 := []) (H2 := []) rfl⟩
       refine VO.cons rfl (V1.move rfl rfl rfl (ltb rfl) ?_)
       refine VO.cons rfl (V1.extract rfl rfl rfl rfl (ltb rfl) ?_)
       refine VO.weakenK (Keeps.optFront (n := 6) (ob := ob5) (xs := List.map encClerk y18.1) (H1 := []) rfl) ?_
       refine VO.weakenK (Keeps.optVl 177 [] rn (f := encClerk) (l := y18.1) (ob := ob5) (H1 := []) hob5 rfl rfl ⟨rfl, trivial⟩ (fun _ => rfl) rfl iNil) ?_
       refine VO.cons rfl (V1.extract rfl rfl rfl rfl (ltb rfl) ?_)
       refine VO.cons rfl (V1.assign rfl rfl rfl (ltb rfl) ?_)
       refine VO.cons rfl (V1.assign rfl rfl rfl (ltb rfl) ?_)
       refine VO.nil ?_
       refine V.keep 244 [0, 26, 27, 28, 29, 30] [] (E0 := [(0, .vl ρ0 1 (List.map encU8 code)), (26, .vl rn 6 (List.map encClerk y17.1)), (27, .int .i64 y17.2.1), (28, .int .i64 y17.2.2), (29, .vl rn 6 (List.map encClerk y18.1)), (30, .bool y18.2)]) (H0 := []) rfl (⟨_, _, rfl, rfl, ⟨_, _, rfl, rfl, ⟨_, _, rfl, rfl, ⟨_, _, rfl, rfl, ⟨_, _, rfl, rfl, ⟨_, _, rfl, rfl, rfl⟩⟩⟩⟩⟩⟩) (rfl) rfl ?_
       refine V.seq ?_
       refine V.seq ?_
       replace hm0 := bindO hm0; rcases hm0 with ⟨y19, hh19, hm0⟩
       refine V.region ?_
       refine VO.cons rfl (V1.move rfl rfl rfl (ltb rfl) ?_)
       refine VO.cons rfl (V1.move rfl rfl rfl (ltb rfl) ?_)
       refine VO.cons rfl (V1.move rfl rfl rfl (ltb rfl) ?_)
       refine VO.cons rfl (V1.call rfl rfl rfl cok_33 rfl (ok_spec_StandFor hh19) rfl (ltb rfl) ?_)
       rintro _ _ ⟨b6, rfl, rfl⟩
       refine VO.cons rfl (V1.move rfl rfl rfl (ltb rfl) ?_)
       refine VO.cons rfl (V1.extract rfl rfl rfl rfl (ltb rfl) ?_)
       refine VO.weakenK (Keeps.freezeG 0 rn [(184, .vl rn 6 (List.map encClerk y19.1))] [] (f := encClerk) (l := y19.1) rfl (fun _ => rfl) ⟨⟨_, rfl, .here⟩, trivial⟩ rfl rfl iNil) ?_
       refine VO.cons rfl (V1.extract rfl rfl rfl rfl (ltb rfl) ?_)
       refine VO.cons rfl (V1.assign rfl rfl rfl (ltb rfl) ?_)
       refine VO.cons rfl (V1.assign rfl rfl rfl (ltb rfl) ?_)
       refine VO.nil ?_
       refine V.keep 244 [0, 26, 27, 28, 29, 30, 31, 32] [] (E0 := [(0, .vl ρ0 1 (List.map encU8 code)), (26, .vl rn 6 (List.map encClerk y17.1)), (27, .int .i64 y17.2.1), (28, .int .i64 y17.2.2), (29, .vl rn 6 (List.map encClerk y18.1)), (30, .bool y18.2), (31, .vl rn 6 (List.map encClerk y19.1)), (32, .bool y19.2)]) (H0 := []) rfl (⟨_, _, rfl, rfl, ⟨_, _, rfl, rfl, ⟨_, _, rfl, rfl, ⟨_, _, rfl, rfl, ⟨_, _, rfl, rfl, ⟨_, _, rfl, rfl, ⟨_, _, rfl, rfl, ⟨_, _, rfl, rfl, rfl⟩⟩⟩⟩⟩⟩⟩⟩) (rfl) rfl ?_
       refine V.seq ?_
       replace hm0 := bindO hm0; rcases hm0 with ⟨y20, hh20, hm0⟩
       refine V.region ?_
       refine VO.cons rfl (V1.move rfl rfl rfl (ltb rfl) ?_)
       refine VO.cons rfl (V1.move rfl rfl rfl (ltb rfl) ?_)
       refine VO.cons rfl (V1.boolNeq rfl rfl und_4 rfl rfl (ltb rfl) ?_)
       refine VO.cons rfl (V1.move rfl rfl rfl (ltb rfl) ?_)
       apply VO.or (n := 4) rfl rfl rfl rfl rfl rfl (ltb rfl) (.none rfl)
       ·
        intro hg7
        refine VO.step (.some rfl rfl rfl) (V1.move rfl rfl rfl (ltb rfl) ?_)
        refine VO.step (.some rfl rfl rfl) (V1.move rfl rfl rfl (ltb rfl) ?_)
        refine VO.step (.some rfl rfl rfl) (V1.call rfl rfl rfl cok_25 rfl (ok_laws_rClerks (cond_f hg7 hh20)) rfl (ltb rfl) ?_)
        rintro _ _ ⟨rfl, rfl⟩
        refine VO.step (.some rfl rfl rfl) (V1.not rfl rfl rfl (ltb rfl) ?_)
        exact VO.nil ⟨rfl, rfl, rfl, rfl, .inr ⟨rfl, .inr ⟨rfl, .inr ⟨rfl, .inr ⟨rfl, .inr ⟨rfl, .inl rfl⟩⟩⟩⟩⟩⟩
       refine VO.nil ?_
       refine V.keep 244 [0, 26, 27, 28, 29, 30, 194] [] (E0 := [(0, .vl ρ0 1 (List.map encU8 code)), (26, .vl rn 6 (List.map encClerk y17.1)), (27, .int .i64 y17.2.1), (28, .int .i64 y17.2.2), (29, .vl rn 6 (List.map encClerk y18.1)), (30, .bool y18.2), (194, .bool ((!(y18.2 == y19.2)) || (!y20)))]) (H0 := []) rfl (⟨_, _, rfl, rfl, ⟨_, _, rfl, rfl, ⟨_, _, rfl, rfl, ⟨_, _, rfl, rfl, ⟨_, _, rfl, rfl, ⟨_, _, rfl, rfl, ⟨_, _, rfl, rfl, rfl⟩⟩⟩⟩⟩⟩⟩) (rfl) rfl ?_
       refine V.cond rfl (fun hc8 => ?_) (fun hc8 => ?_)
       ·
        replace hm0 := cond_t hc8 hm0
        refine V.seq ?_
        refine V.region ?_
        refine VO.cons rfl (V1.assign rfl rfl rfl (ltb rfl) ?_)
        refine VO.nil ?_
        refine V.ret ?_
        obtain rfl := Option.some.inj hm0
        exact ⟨_, [], ⟨_, _, rfl, rfl, rfl⟩, List.nil_sublist _, rfl, rfl⟩
       ·
        replace hm0 := cond_f hc8 hm0
        refine V.skip ?_
        refine V.seq ?_
        refine V.seq ?_
        refine V.region ?_
        refine VO.cons rfl (V1.assign rfl rfl rfl (ltb rfl) ?_)
        refine VO.nil ?_
        replace hm0 := bindO hm0; rcases hm0 with ⟨e0, he1, hm0⟩
        refine V.cutT (D := (Unit) × (Unit)) (fun ⟨_, _⟩ => ⟨244, [(0, .vl ρ0 1 (List.map encU8 code))], []⟩) (fun ⟨_, _⟩ => (.inl () = e0)) ?_ ?_
        ·
         refine V.block ?_
         refine V.keep 244 [33, 0, 26, 27, 28, 29, 30] [] (E0 := [(33, .int .i64 (0 : Int)), (0, .vl ρ0 1 (List.map encU8 code)), (26, .vl rn 6 (List.map encClerk y17.1)), (27, .int .i64 y17.2.1), (28, .int .i64 y17.2.2), (29, .vl rn 6 (List.map encClerk y18.1)), (30, .bool y18.2)]) (H0 := []) rfl (⟨_, _, rfl, rfl, ⟨_, _, rfl, rfl, ⟨_, _, rfl, rfl, ⟨_, _, rfl, rfl, ⟨_, _, rfl, rfl, ⟨_, _, rfl, rfl, ⟨_, _, rfl, rfl, rfl⟩⟩⟩⟩⟩⟩⟩) (rfl) rfl ?_
         refine V.loopE (D := Nat × (Int) × (Unit)) (fun ⟨n0, i, _⟩ => [(33, .int .i64 i)]) (fun ⟨n0, i, _⟩ => []) (fun ⟨n0, i, _⟩ => loopO (M.laws_FnRights_l0 y17 y18) n0 i = some e0) (fun ⟨n0, _, _⟩ => n0) (rounds, (0 : Int), ()) rfl he1 ?_
         rintro ⟨n0, i, _⟩ hP0
         obtain ⟨m0, y21, rfl, hm1, hl1, hr1⟩ := loop_head hP0
         unfold M.laws_FnRights_l0 at hm1; dsimp only at hm1
         show V _ _ _ ⟨244, [(33, .int .i64 i), (0, .vl ρ0 1 (List.map encU8 code)), (26, .vl rn 6 (List.map encClerk y17.1)), (27, .int .i64 y17.2.1), (28, .int .i64 y17.2.2), (29, .vl rn 6 (List.map encClerk y18.1)), (30, .bool y18.2)], []⟩
         refine V.seq ?_
         refine V.seq ?_
         refine V.region ?_
         refine VO.cons rfl (V1.move rfl rfl rfl (ltb rfl) ?_)
         refine VO.cons rfl (V1.move rfl rfl rfl (ltb rfl) ?_)
         refine VO.cons rfl (V1.lenMap rfl rfl rfl rfl rfl rfl isl_24 (ltb rfl) ?_)
         refine VO.cons rfl (V1.int rfl rfl rfl rfl rfl (ltb rfl) ?_)
         refine VO.cons rfl (V1.move rfl rfl rfl (ltb rfl) ?_)
         apply VO.and (n := 1) rfl rfl rfl rfl rfl rfl (ltb rfl) (.none rfl)
         ·
          intro hg8
          refine VO.step (.some rfl rfl rfl) (V1.move rfl rfl rfl (ltb rfl) ?_)
          exact VO.nil ⟨rfl, rfl, rfl, rfl, .inr ⟨rfl, .inr ⟨rfl, .inl rfl⟩⟩⟩
         refine VO.cons rfl (V1.move rfl rfl rfl (ltb rfl) ?_)
         apply VO.and (n := 2) rfl rfl rfl rfl rfl rfl (ltb rfl) (.none rfl)
         ·
          intro hg9
          refine VO.step (.some rfl rfl rfl) (V1.move rfl rfl rfl (ltb rfl) ?_)
          refine VO.step (.some rfl rfl rfl) (V1.int rfl rfl rfl rfl rfl (ltb rfl) ?_)
          exact VO.nil ⟨rfl, rfl, rfl, rfl, .inr ⟨rfl, .inr ⟨rfl, .inr ⟨rfl, .inl rfl⟩⟩⟩⟩
         refine VO.nil ?_
         refine V.keep 244 [0, 26, 27, 28, 29, 30, 33, 205] [] (E0 := [(0, .vl ρ0 1 (List.map encU8 code)), (26, .vl rn 6 (List.map encClerk y17.1)), (27, .int .i64 y17.2.1), (28, .int .i64 y17.2.2), (29, .vl rn 6 (List.map encClerk y18.1)), (30, .bool y18.2), (33, .int .i64 i), (205, .bool (((decide (i < (y17.1.length : Int))) && y18.2) && (y17.2.2 == (0 : Int))))]) (H0 := []) rfl (⟨_, _, rfl, rfl, ⟨_, _, rfl, rfl, ⟨_, _, rfl, rfl, ⟨_, _, rfl, rfl, ⟨_, _, rfl, rfl, ⟨_, _, rfl, rfl, ⟨_, _, rfl, rfl, ⟨_, _, rfl, rfl, rfl⟩⟩⟩⟩⟩⟩⟩⟩) (rfl) rfl ?_
         refine V.cond rfl (fun hc9 => ?_) (fun hc9 => ?_)
         ·
          replace hm1 := cond_t hc9 hm1
          refine V.skip ?_
          refine V.seq ?_
          replace hm1 := bindO hm1; rcases hm1 with ⟨j2, hm2, hm1⟩
          refine V.cutT (D := (Unit) × (Unit)) (fun ⟨_, _⟩ => ⟨244, [(0, .vl ρ0 1 (List.map encU8 code)), (26, .vl rn 6 (List.map encClerk y17.1)), (27, .int .i64 y17.2.1), (28, .int .i64 y17.2.2), (29, .vl rn 6 (List.map encClerk y18.1)), (30, .bool y18.2), (33, .int .i64 i)], []⟩) (fun ⟨_, _⟩ => (.inl () = j2)) ?_ ?_
          ·
           refine V.block ?_
           refine V.seq ?_
           replace hm2 := asrt_some hm2; rcases hm2 with ⟨hh21, hm2⟩
           refine V.region ?_
           refine VO.cons rfl (V1.move rfl rfl rfl (ltb rfl) ?_)
           refine VO.cons rfl (V1.move rfl rfl rfl (ltb rfl) ?_)
           refine VO.cons rfl (V1.indexI rfl rfl esz_24 rfl rfl hh21 (ltb rfl) ?_)
           refine VO.cons rfl (V1.fieldPin rfl rfl fo_34_0 rfl (ltb rfl) ?_)
           refine VO.cons rfl (V1.loadPin rfl rfl tyk_3 rfl rfl (ltb rfl) ?_)
           refine VO.cons rfl (V1.move rfl rfl rfl (ltb rfl) ?_)
           refine VO.cons rfl (V1.int rfl rfl rfl rfl rfl (ltb rfl) ?_)
           refine VO.nil ?_
           refine V.keep 244 [0, 26, 27, 28, 29, 30, 33, 214] [] (E0 := [(0, .vl ρ0 1 (List.map encU8 code)), (26, .vl rn 6 (List.map encClerk y17.1)), (27, .int .i64 y17.2.1), (28, .int .i64 y17.2.2), (29, .vl rn 6 (List.map encClerk y18.1)), (30, .bool y18.2), (33, .int .i64 i), (214, .bool (((y17.1.getD (Int.toNat i) default).Id) == y17.2.1))]) (H0 := []) rfl (⟨_, _, rfl, rfl, ⟨_, _, rfl, rfl, ⟨_, _, rfl, rfl, ⟨_, _, rfl, rfl, ⟨_, _, rfl, rfl, ⟨_, _, rfl, rfl, ⟨_, _, rfl, rfl, ⟨_, _, rfl, rfl, rfl⟩⟩⟩⟩⟩⟩⟩⟩) (rfl) rfl ?_
           refine V.cond rfl (fun hc10 => ?_) (fun hc10 => ?_)
           ·
            replace hm2 := cond_t hc10 hm2
            refine V.seq ?_
            replace hm2 := asrt_some hm2; rcases hm2 with ⟨hh22, hm2⟩
            replace hm2 := bindO hm2; rcases hm2 with ⟨y22, hh23, hm2⟩
            refine V.region ?_
            refine VO.cons rfl (V1.move rfl rfl rfl (ltb rfl) ?_)
            refine VO.cons rfl (V1.move rfl rfl rfl (ltb rfl) ?_)
            refine VO.cons rfl (V1.move rfl rfl rfl (ltb rfl) ?_)
            refine VO.cons rfl (V1.move rfl rfl rfl (ltb rfl) ?_)
            refine VO.cons rfl (V1.indexI rfl rfl esz_24 rfl rfl hh22 (ltb rfl) ?_)
            refine VO.cons rfl (V1.fieldPin rfl rfl fo_34_3 rfl (ltb rfl) ?_)
            refine VO.cons rfl (V1.loadPin rfl rfl tyk_3 rfl rfl (ltb rfl) ?_)
            refine VO.cons rfl (V1.call rfl rfl rfl cok_10 rfl (ok_impl_RightsOn hh23) rfl (ltb rfl) ?_)
            rintro _ _ ⟨rfl, rfl⟩
            refine VO.cons rfl (V1.move rfl rfl rfl (ltb rfl) ?_)
            refine VO.cons rfl (V1.extract rfl rfl rfl rfl (ltb rfl) ?_)
            refine VO.cons rfl (V1.extract rfl rfl rfl rfl (ltb rfl) ?_)
            refine VO.cons rfl (V1.assign rfl rfl rfl (ltb rfl) ?_)
            refine VO.cons rfl (V1.assign rfl rfl rfl (ltb rfl) ?_)
            refine VO.nil ?_
            refine V.keep 244 [0, 26, 27, 28, 29, 30, 33, 34, 35] [] (E0 := [(0, .vl ρ0 1 (List.map encU8 code)), (26, .vl rn 6 (List.map encClerk y17.1)), (27, .int .i64 y17.2.1), (28, .int .i64 y17.2.2), (29, .vl rn 6 (List.map encClerk y18.1)), (30, .bool y18.2), (33, .int .i64 i), (34, .int .i64 y22.1), (35, .bool y22.2)]) (H0 := []) rfl (⟨_, _, rfl, rfl, ⟨_, _, rfl, rfl, ⟨_, _, rfl, rfl, ⟨_, _, rfl, rfl, ⟨_, _, rfl, rfl, ⟨_, _, rfl, rfl, ⟨_, _, rfl, rfl, ⟨_, _, rfl, rfl, ⟨_, _, rfl, rfl, rfl⟩⟩⟩⟩⟩⟩⟩⟩⟩) (rfl) rfl ?_
            refine V.seq ?_
            replace hm2 := asrt_some hm2; rcases hm2 with ⟨hh24, hm2⟩
            refine V.region ?_
            refine VO.cons rfl (V1.move rfl rfl rfl (ltb rfl) ?_)
            refine VO.cons rfl (V1.not rfl rfl rfl (ltb rfl) ?_)
            refine VO.cons rfl (V1.move rfl rfl rfl (ltb rfl) ?_)
            apply VO.or (n := 7) rfl rfl rfl rfl rfl rfl (ltb rfl) (.none rfl)
            ·
             intro hg10
             refine VO.step (.some rfl rfl rfl) (V1.move rfl rfl rfl (ltb rfl) ?_)
             refine VO.step (.some rfl rfl rfl) (V1.move rfl rfl rfl (ltb rfl) ?_)
             refine VO.step (.some rfl rfl rfl) (V1.move rfl rfl rfl (ltb rfl) ?_)
             refine VO.step (.some rfl rfl rfl) (V1.indexI rfl rfl esz_24 rfl rfl (hh24 hg10) (ltb rfl) ?_)
             refine VO.step (.some rfl rfl rfl) (V1.fieldPin rfl rfl fo_34_2 rfl (ltb rfl) ?_)
             refine VO.step (.some rfl rfl rfl) (V1.loadPin rfl rfl tyk_3 rfl rfl (ltb rfl) ?_)
             refine VO.step (.some rfl rfl rfl) (V1.int rfl rfl rfl rfl rfl (ltb rfl) ?_)
             exact VO.nil ⟨rfl, rfl, rfl, rfl, .inr ⟨rfl, .inr ⟨rfl, .inr ⟨rfl, .inr ⟨rfl, .inr ⟨rfl, .inr ⟨rfl, .inr ⟨rfl, .inr ⟨rfl, .inl rfl⟩⟩⟩⟩⟩⟩⟩⟩⟩
            refine VO.nil ?_
            refine V.keep 244 [0, 26, 27, 28, 29, 30, 33, 236] [] (E0 := [(0, .vl ρ0 1 (List.map encU8 code)), (26, .vl rn 6 (List.map encClerk y17.1)), (27, .int .i64 y17.2.1), (28, .int .i64 y17.2.2), (29, .vl rn 6 (List.map encClerk y18.1)), (30, .bool y18.2), (33, .int .i64 i), (236, .bool ((!y22.2) || (y22.1 != ((y17.1.getD (Int.toNat i) default).Rights))))]) (H0 := []) rfl (⟨_, _, rfl, rfl, ⟨_, _, rfl, rfl, ⟨_, _, rfl, rfl, ⟨_, _, rfl, rfl, ⟨_, _, rfl, rfl, ⟨_, _, rfl, rfl, ⟨_, _, rfl, rfl, ⟨_, _, rfl, rfl, rfl⟩⟩⟩⟩⟩⟩⟩⟩) (rfl) rfl ?_
            refine V.cond rfl (fun hc11 => ?_) (fun hc11 => ?_)
            ·
             replace hm2 := cond_t hc11 hm2
             refine V.seq ?_
             refine V.region ?_
             refine VO.cons rfl (V1.assign rfl rfl rfl (ltb rfl) ?_)
             refine VO.nil ?_
             refine V.ret ?_
             obtain rfl := Option.some.inj hm2
             change some _ = some _ at hm1
             obtain rfl := hr1 _ (Option.some.inj hm1).symm
             change some _ = some _ at hm0
             obtain rfl := Option.some.inj hm0
             exact ⟨_, [], ⟨_, _, rfl, rfl, rfl⟩, List.nil_sublist _, rfl, rfl⟩
            ·
             replace hm2 := cond_f hc11 hm2
             refine V.skip ?_
             exact ⟨((), ()), Option.some.inj hm2, Keeps.mk (ks := []) rfl ⟨rfl, rfl, rfl, rfl, rfl, rfl, rfl, trivial⟩ (rfl) rfl⟩
           ·
            replace hm2 := cond_f hc10 hm2
            refine V.skip ?_
            exact ⟨((), ()), Option.some.inj hm2, Keeps.mk (ks := []) rfl ⟨rfl, rfl, rfl, rfl, rfl, rfl, rfl, trivial⟩ (rfl) rfl⟩
          ·
           rintro ⟨_, _⟩ rfl
           try dsimp only at hm1
           refine V.region ?_
           refine VO.cons rfl (V1.move rfl rfl rfl (ltb rfl) ?_)
           refine VO.cons rfl (V1.int rfl rfl rfl rfl rfl (ltb rfl) ?_)
           refine VO.cons rfl (V1.assign rfl rfl rfl (ltb rfl) ?_)
           refine VO.nil ?_
           exact ⟨(m0, (IntKind.i64.wrap (i + (1 : Int))), ()), hl1 _ (Option.some.inj hm1).symm, Nat.lt_succ_self _, Keeps.mk (ks := []) rfl ⟨rfl, rfl, rfl, rfl, rfl, rfl, rfl, trivial⟩ (rfl) rfl⟩
         ·
          replace hm1 := cond_f hc9 hm1
          refine V.exit ?_
          obtain rfl := hr1 _ (Option.some.inj hm1).symm
          exact ⟨((), ()), rfl, Keeps.mk (ks := []) rfl ⟨rfl, trivial⟩ (rfl) rfl⟩
        ·
         rintro ⟨_, _⟩ rfl
         try dsimp only at hm0
         refine V.seq ?_
         replace hm0 := bindO hm0; rcases hm0 with ⟨y23, hh25, hm0⟩
         refine V.region ?_
         refine VO.cons rfl (V1.move rfl rfl rfl (ltb rfl) ?_)
         refine VO.cons rfl (V1.call rfl rfl rfl cok_34 rfl (ok_spec_DrawIsClerk hh25) rfl (ltb rfl) ?_)
         rintro _ _ ⟨rfl, rfl⟩
         refine VO.cons rfl (V1.alloc rfl rfl zk_34 (ltb rfl) ?_)
         intro b7
         refine VO.cons rfl (V1.storeRefAll (k := 0) rfl rfl tyk_34 rfl rfl rfl rfl rfl rfl ?_)
         refine VO.nil ?_
         refine V.seq ?_
         replace hm0 := bindO hm0; rcases hm0 with ⟨y24, hh26, hm0⟩
         replace hm0 := bindO hm0; rcases hm0 with ⟨y25, hh27, hm0⟩
         refine V.regionM 244 3 [⟨[(36, none)], [], none⟩, ⟨[(239, some 0)], [], none⟩, ⟨[(36, none)], [], none⟩] [(240, some 1), (241, some 0)] (⟨_, rfl, ⟨_, rfl, ⟨_, rfl, ⟨rfl, rfl⟩⟩⟩⟩) mixed_orders rfl (by decide +kernel) (fun hck38 => ?_)
         refine VP.step (p := ?pv7) rfl rfl rfl (⟨_, _, rfl, rfl, rfl⟩) ?hv7 ?rest7 hck38
         case hv7 =>
          intro E1
          refine (V1.loadRefAll (k := 0) rfl rfl tyk_34 rfl rfl rfl rfl rfl (ltb rfl) ?_)
          exact rfl
         refine VP.step (p := ?pv8) rfl rfl rfl (⟨_, _, rfl, rfl, rfl⟩) ?hv8 ?rest8 hck38
         case hv8 =>
          intro E1
          refine (V1.call rfl rfl rfl cok_35 rfl (ok_impl_IsClerk hh26) rfl (ltb rfl) ?_)
          rintro _ _ ⟨rfl, rfl⟩
          exact rfl
         refine VP.step (p := ?pv9) rfl rfl rfl (⟨_, _, rfl, rfl, rfl⟩) ?hv9 ?rest9 hck38
         case hv9 =>
          intro E1
          refine (V1.loadRefAll (k := 0) rfl rfl tyk_34 rfl rfl rfl rfl rfl (ltb rfl) ?_)
          exact rfl
         refine VP.fin rfl (⟨_, _, rfl, rfl, ⟨_, _, rfl, rfl, rfl⟩⟩) ?_
         refine VO.cons rfl (V1.call rfl rfl rfl cok_36 rfl (ok_spec_IsClerk hh27) rfl (ltb rfl) ?_)
         rintro _ _ ⟨rfl, rfl⟩
         refine VO.cons rfl (V1.boolEql rfl rfl und_4 rfl rfl (ltb rfl) ?_)
         refine VO.cons rfl (V1.assign rfl rfl rfl (ltb rfl) ?_)
         refine VO.nil ?_
         refine V.ret ?_
         obtain rfl := Option.some.inj hm0
         exact ⟨_, [], ⟨_, _, rfl, rfl, rfl⟩, List.nil_sublist _, rfl, rfl⟩
end Go.Proofs.YthffmnpbonkpaaaDoor
