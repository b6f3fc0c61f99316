/- the functions do what their models say -/
import Derived.Test.YteocnbeefedbkaaDoorQg2
set_option linter.unusedSimpArgs false
set_option linter.unusedVariables false
set_option maxRecDepth 100000
set_option maxHeartbeats 4000000
namespace Go.Proofs.YteocnbeefedbkaaDoor
open Go.VS

theorem ok_impl_ClosedSince {ρ0 rn : Nat} {list : List File} {from_ : Int} {to_ : Int} {r : List Int × Bool} (h : M.impl_ClosedSince list from_ to_ = some r) : Does Tryd.prog 27 [.vl ρ0 7 (List.map encFile list), .int .i64 from_, .int .i64 to_] [] rn (fun x H => ∃ (ob0_ : Option Nat), (ob0_ = none → r.1 = []) ∧ x = .tup [optS 1 ob0_ (List.length r.1), .bool r.2] ∧ H = optH 1 ob0_ (List.map encInt r.1)) := by
 have hm0 := h; clear h; unfold M.impl_ClosedSince at hm0
 try dsimp only at hm0
 refine Does.intro (N := 59) Tryd.func27 rfl rfl rfl rfl ?_
 intro w0 S0 L0
 refine V.seq ?_
 refine V.region ?_
 refine VO.cons rfl (V1.assign rfl rfl rfl lt0 ?_)
 refine VO.cons rfl (V1.assign rfl rfl rfl lt0 ?_)
 refine VO.nil ?_
 refine V.seq ?_
 refine V.seq ?_
 replace hm0 := bindO hm0; rcases hm0 with ⟨y0, hh0, hm0⟩
 replace hm0 := bindO hm0; rcases hm0 with ⟨y1, hh1, hm0⟩
 refine V.region ?_
 refine VO.cons rfl (V1.move rfl rfl rfl lt0 ?_)
 refine VO.cons rfl (V1.call rfl rfl rfl cok_25 rfl (ok_impl_AreFiles hh0) rfl lt0 ?_)
 rintro _ _ ⟨rfl, rfl⟩
 refine VO.cons rfl (V1.not rfl rfl rfl lt0 ?_)
 refine VO.cons rfl (V1.move rfl rfl rfl lt0 ?_)
 apply VO.or (n := 4) rfl rfl rfl rfl rfl rfl lt0 (.none rfl)
 ·
  intro hg0
  refine VO.step (.some rfl rfl rfl) (V1.move rfl rfl rfl lt0 ?_)
  refine VO.step (.some rfl rfl rfl) (V1.move rfl rfl rfl lt0 ?_)
  refine VO.step (.some rfl rfl rfl) (V1.call rfl rfl rfl cok_85 rfl (ok_impl_areDays (cond_f hg0 hh1)) rfl lt0 ?_)
  rintro _ _ ⟨rfl, rfl⟩
  refine VO.step (.some rfl rfl rfl) (V1.not rfl rfl rfl lt0 ?_)
  exact VO.nil ⟨rfl, rfl, rfl, rfl, .inr ⟨rfl, .inr ⟨rfl, .inr ⟨rfl, .inr ⟨rfl, .inr ⟨rfl, .inl rfl⟩⟩⟩⟩⟩⟩
 refine VO.nil ?_
 refine V.keep 59 [0, 1, 2, 22] [] (E0 := [(0, .vl ρ0 7 (List.map encFile list)), (1, .int .i64 from_), (2, .int .i64 to_), (22, .bool ((!y0) || (!y1)))]) (H0 := []) rfl (⟨_, _, rfl, rfl, _, _, rfl, rfl, _, _, rfl, rfl, _, _, rfl, rfl, rfl⟩) (rfl) rfl ?_
 refine V.cond rfl (fun hc0 => ?_) (fun hc0 => ?_)
 ·
  replace hm0 := cond_t hc0 hm0
  refine V.seq ?_
  refine V.region ?_
  refine VO.cons rfl (V1.assign rfl rfl rfl lt0 ?_)
  refine VO.cons rfl (V1.assign rfl rfl rfl lt0 ?_)
  refine VO.nil ?_
  refine V.keep 59 [6, 7] [] (E0 := [(6, .nils), (7, .bool false)]) (H0 := []) rfl (⟨_, _, rfl, rfl, _, _, rfl, rfl, rfl⟩) (rfl) rfl ?_
  refine V.ret ?_
  obtain rfl := Option.some.inj hm0
  exact ⟨_, _, ⟨_, _, rfl, rfl, _, _, rfl, rfl, rfl⟩, List.Sublist.refl _, none, (fun _ => rfl), rfl, rfl⟩
 ·
  replace hm0 := cond_f hc0 hm0
  refine V.skip ?_
  refine V.seq ?_
  refine V.region ?_
  refine VO.cons rfl (V1.assign rfl rfl rfl lt0 ?_)
  refine VO.nil ?_
  refine V.seq ?_
  refine V.seq ?_
  refine V.region ?_
  refine VO.cons rfl (V1.move rfl rfl rfl lt0 ?_)
  refine VO.cons rfl (V1.lenMap rfl rfl rfl rfl rfl rfl isl_41 lt0 ?_)
  refine VO.cons rfl (V1.move rfl rfl rfl lt0 ?_)
  refine VO.nil ?_
  replace hm0 := bindO hm0; rcases hm0 with ⟨e0, he1, hm0⟩
  refine V.cutT (D := (List File) × (Option Nat)) (fun ⟨closed, ob0⟩ => ⟨59, [(8, optS 7 ob0 (List.length closed))], optH 7 ob0 (List.map encFile closed)⟩) (fun ⟨closed, ob0⟩ => (closed = e0) ∧ (ob0 = none → closed = [])) ?_ ?_
  ·
   refine V.block ?_
   refine V.keep 59 [8, 25, 1, 2, 23, 24] [] (E0 := [(8, .nils), (25, .int .i64 (0 : Int)), (1, .int .i64 from_), (2, .int .i64 to_), (23, .vl ρ0 7 (List.map encFile list)), (24, .int .i64 (list.length : Int))]) (H0 := []) rfl (⟨_, _, rfl, rfl, _, _, rfl, rfl, _, _, rfl, rfl, _, _, rfl, rfl, _, _, rfl, rfl, _, _, rfl, rfl, rfl⟩) (rfl) rfl ?_
   refine V.loopE (D := Nat × (List File × Int) × (Option Nat)) (fun ⟨n0, ⟨closed0, v⟩, ob1⟩ => [(8, optS 7 ob1 (List.length closed0)), (25, .int .i64 v)]) (fun ⟨n0, ⟨closed0, v⟩, ob1⟩ => optH 7 ob1 (List.map encFile closed0)) (fun ⟨n0, ⟨closed0, v⟩, ob1⟩ => loopO (M.impl_ClosedSince_l0 list from_ to_) n0 (closed0, v) = some e0 ∧ (ob1 = none → closed0 = [])) (fun ⟨n0, _, _⟩ => n0) (rounds, (([] : List File), (0 : Int)), none) rfl ⟨he1, (fun _ => rfl)⟩ ?_
   rintro ⟨n0, ⟨closed0, v⟩, ob1⟩ ⟨hP0, hob1⟩
   obtain ⟨m0, y2, rfl, hm1, hl1, hr1⟩ := loop_head hP0
   unfold M.impl_ClosedSince_l0 at hm1; dsimp only at hm1
   rcases ob1 with _ | ob1
   ·
    replace hob1 := hob1 rfl
    show V _ _ _ ⟨59, [(8, .nils), (25, .int .i64 v), (1, .int .i64 from_), (2, .int .i64 to_), (23, .vl ρ0 7 (List.map encFile list)), (24, .int .i64 (list.length : Int))], []⟩
    refine V.seq ?_
    refine V.region ?_
    refine VO.cons rfl (V1.int rfl rfl rfl rfl rfl lt0 ?_)
    refine VO.nil ?_
    refine V.seq ?_
    refine V.cond rfl (fun hc1 => ?_) (fun hc1 => ?_)
    ·
     replace hm1 := cond_t hc1 hm1
     refine V.skip ?_
     refine V.seq ?_
     replace hm1 := bindO hm1; rcases hm1 with ⟨j0, hm2, hm1⟩
     refine V.cutT (D := (List File) × (Option Nat)) (fun ⟨closed1, ob2⟩ => ⟨59, [(8, optS 7 ob2 (List.length closed1)), (1, .int .i64 from_), (2, .int .i64 to_), (23, .vl ρ0 7 (List.map encFile list)), (24, .int .i64 (list.length : Int)), (25, .int .i64 v)], optH 7 ob2 (List.map encFile closed1)⟩) (fun ⟨closed1, ob2⟩ => (closed1 = j0) ∧ (ob2 = none → closed1 = [])) ?_ ?_
     ·
      refine V.block ?_
      refine V.seq ?_
      replace hm2 := asrt_some hm2; rcases hm2 with ⟨hh2, hm2⟩
      refine V.region ?_
      refine VO.cons rfl (V1.indexI rfl rfl esz_41 rfl rfl hh2 lt0 ?_)
      refine VO.cons rfl (V1.loadPinAll rfl rfl tyk_97 rfl rfl lt0 ?_)
      refine VO.cons rfl (V1.alloc rfl rfl zk_97 lt0 ?_)
      intro b0
      refine VO.cons rfl (V1.storeRefAll (k := 0) rfl rfl tyk_97 rfl rfl rfl rfl rfl rfl ?_)
      refine VO.nil ?_
      refine V.seq ?_
      replace hm2 := bindO hm2; rcases hm2 with ⟨y3, hh3, hm2⟩
      refine V.region ?_
      refine VO.cons rfl (V1.fieldRef rfl rfl fo_97_5 rfl lt0 ?_)
      refine VO.cons rfl (V1.loadRef (k := 0) rfl rfl tyk_3 rfl rfl rfl rfl rfl lt0 ?_)
      refine VO.cons rfl (V1.int rfl rfl rfl rfl rfl lt0 ?_)
      refine VO.cons rfl (V1.move rfl rfl rfl lt0 ?_)
      apply VO.and (n := 5) rfl rfl rfl rfl rfl rfl lt0 (.none rfl)
      ·
       intro hg1
       refine VO.step (.some rfl rfl rfl) (V1.fieldRef rfl rfl fo_97_4 rfl lt0 ?_)
       refine VO.step (.some rfl rfl rfl) (V1.loadRef (k := 0) rfl rfl tyk_3 rfl rfl rfl rfl rfl lt0 ?_)
       refine VO.step (.some rfl rfl rfl) (V1.move rfl rfl rfl lt0 ?_)
       refine VO.step (.some rfl rfl rfl) (V1.move rfl rfl rfl lt0 ?_)
       refine VO.step (.some rfl rfl rfl) (V1.call rfl rfl rfl cok_72 rfl (ok_impl_within (cond_t hg1 hh3)) rfl lt0 ?_)
       rintro _ _ ⟨rfl, rfl⟩
       exact VO.nil ⟨rfl, rfl, rfl, rfl, .inr ⟨rfl, .inr ⟨rfl, .inr ⟨rfl, .inr ⟨rfl, .inr ⟨rfl, .inr ⟨rfl, .inl rfl⟩⟩⟩⟩⟩⟩⟩
      refine VO.nil ?_
      refine V.keep 59 [1, 2, 8, 10, 23, 24, 25, 38] [0] (E0 := [(1, .int .i64 from_), (2, .int .i64 to_), (8, .nils), (10, .ref b0 7 0 0), (23, .vl ρ0 7 (List.map encFile list)), (24, .int .i64 (list.length : Int)), (25, .int .i64 v), (38, .bool ((((list.getD (Int.toNat v) default).State) != (0 : Int)) && y3))]) (H0 := [(b0, ⟨7, [encFile (list.getD (Int.toNat v) default)]⟩)]) rfl (⟨_, _, rfl, rfl, _, _, rfl, rfl, _, _, rfl, rfl, _, _, rfl, rfl, _, _, rfl, rfl, _, _, rfl, rfl, _, _, rfl, rfl, _, _, rfl, rfl, rfl⟩) (⟨_, _, rfl, rfl, rfl⟩) rfl ?_
      refine V.cond rfl (fun hc2 => ?_) (fun hc2 => ?_)
      ·
       replace hm2 := cond_t hc2 hm2
       replace hm2 := asrt_some hm2; rcases hm2 with ⟨hh4, hm2⟩
       refine V.region ?_
       refine VO.cons rfl (V1.move rfl rfl rfl lt0 ?_)
       refine VO.cons rfl (V1.loadRefAll (k := 0) rfl rfl tyk_97 rfl rfl rfl rfl rfl lt0 ?_)
       refine VO.cons rfl (V1.buildSliceT (f := encFile) ([(list.getD (Int.toNat v) default)] : List File) rfl rfl esz_41 zk_97 rfl rfl rfl rfl rfl rfl rfl lt0 ?_)
       intro b1
       refine VO.cons rfl (V1.appendNilE (f := encFile) (l := closed0) (m := ([(list.getD (Int.toNat v) default)] : List File)) hob1 rfl rfl rfl rfl rfl esz_41 eby_41 zk_97 rfl rfl rfl (SrcOf.srMap (k := 0) rfl isl_41) rfl hh4 lt0 ?_)
       intro b2
       refine VO.cons rfl (V1.assign rfl rfl rfl lt0 ?_)
       refine VO.nil ?_
       exact ⟨((closed0 ++ ([(list.getD (Int.toNat v) default)] : List File)), (some b2)), ⟨Option.some.inj hm2, (fun e => by cases e)⟩, Keeps.mk (ks := [0]) rfl ⟨rfl, rfl, rfl, rfl, rfl, rfl, trivial⟩ (⟨_, _, rfl, rfl, rfl⟩) rfl⟩
      ·
       replace hm2 := cond_f hc2 hm2
       refine V.skip ?_
       exact ⟨(closed0, none), ⟨Option.some.inj hm2, (fun _ => hob1)⟩, Keeps.mk (ks := []) rfl ⟨rfl, rfl, rfl, rfl, rfl, rfl, trivial⟩ (rfl) rfl⟩
     ·
      rintro ⟨closed1, ob2⟩ ⟨rfl, hob2⟩
      try dsimp only at hm1
      rcases ob2 with _ | ob2
      ·
       replace hob2 := hob2 rfl
       refine V.region ?_
       refine VO.cons rfl (V1.int rfl rfl rfl rfl rfl lt0 ?_)
       refine VO.cons rfl (V1.move rfl rfl rfl lt0 ?_)
       refine VO.nil ?_
       exact ⟨(m0, (closed1, (IntKind.i64.wrap (v + (1 : Int)))), none), ⟨hl1 _ (Option.some.inj hm1).symm, (fun _ => hob2)⟩, Nat.lt_succ_self _, Keeps.mk (ks := []) rfl ⟨rfl, rfl, rfl, rfl, rfl, rfl, trivial⟩ (rfl) rfl⟩
      ·
       refine V.region ?_
       refine VO.cons rfl (V1.int rfl rfl rfl rfl rfl lt0 ?_)
       refine VO.cons rfl (V1.move rfl rfl rfl lt0 ?_)
       refine VO.nil ?_
       exact ⟨(m0, (closed1, (IntKind.i64.wrap (v + (1 : Int)))), (some ob2)), ⟨hl1 _ (Option.some.inj hm1).symm, (fun e => by cases e)⟩, Nat.lt_succ_self _, Keeps.mk (ks := [0]) rfl ⟨rfl, rfl, rfl, rfl, rfl, rfl, trivial⟩ (⟨_, _, rfl, rfl, rfl⟩) rfl⟩
    ·
     replace hm1 := cond_f hc1 hm1
     refine V.exit ?_
     obtain rfl := hr1 _ (Option.some.inj hm1).symm
     exact ⟨(closed0, none), ⟨rfl, (fun _ => hob1)⟩, Keeps.mk (ks := []) rfl ⟨rfl, trivial⟩ (rfl) rfl⟩
   ·
    show V _ _ _ ⟨59, [(8, .sref ob1 7 0 (List.length closed0)), (25, .int .i64 v), (1, .int .i64 from_), (2, .int .i64 to_), (23, .vl ρ0 7 (List.map encFile list)), (24, .int .i64 (list.length : Int))], [(ob1, ⟨7, List.map encFile closed0⟩)]⟩
    refine V.seq ?_
    refine V.region ?_
    refine VO.cons rfl (V1.int rfl rfl rfl rfl rfl lt0 ?_)
    refine VO.nil ?_
    refine V.seq ?_
    refine V.cond rfl (fun hc1 => ?_) (fun hc1 => ?_)
    ·
     replace hm1 := cond_t hc1 hm1
     refine V.skip ?_
     refine V.seq ?_
     replace hm1 := bindO hm1; rcases hm1 with ⟨j0, hm2, hm1⟩
     refine V.cutT (D := (List File) × (Nat)) (fun ⟨closed1, b0⟩ => ⟨59, [(8, .sref b0 7 0 (List.length closed1)), (1, .int .i64 from_), (2, .int .i64 to_), (23, .vl ρ0 7 (List.map encFile list)), (24, .int .i64 (list.length : Int)), (25, .int .i64 v)], [(b0, ⟨7, List.map encFile closed1⟩)]⟩) (fun ⟨closed1, b0⟩ => (closed1 = j0)) ?_ ?_
     ·
      refine V.block ?_
      refine V.seq ?_
      replace hm2 := asrt_some hm2; rcases hm2 with ⟨hh2, hm2⟩
      refine V.region ?_
      refine VO.cons rfl (V1.indexI rfl rfl esz_41 rfl rfl hh2 lt0 ?_)
      refine VO.cons rfl (V1.loadPinAll rfl rfl tyk_97 rfl rfl lt0 ?_)
      refine VO.cons rfl (V1.alloc rfl rfl zk_97 lt0 ?_)
      intro b1
      refine VO.cons rfl (V1.storeRefAll (k := 0) rfl rfl tyk_97 rfl rfl rfl rfl rfl rfl ?_)
      refine VO.nil ?_
      refine V.seq ?_
      replace hm2 := bindO hm2; rcases hm2 with ⟨y3, hh3, hm2⟩
      refine V.region ?_
      refine VO.cons rfl (V1.fieldRef rfl rfl fo_97_5 rfl lt0 ?_)
      refine VO.cons rfl (V1.loadRef (k := 0) rfl rfl tyk_3 rfl rfl rfl rfl rfl lt0 ?_)
      refine VO.cons rfl (V1.int rfl rfl rfl rfl rfl lt0 ?_)
      refine VO.cons rfl (V1.move rfl rfl rfl lt0 ?_)
      apply VO.and (n := 5) rfl rfl rfl rfl rfl rfl lt0 (.none rfl)
      ·
       intro hg1
       refine VO.step (.some rfl rfl rfl) (V1.fieldRef rfl rfl fo_97_4 rfl lt0 ?_)
       refine VO.step (.some rfl rfl rfl) (V1.loadRef (k := 0) rfl rfl tyk_3 rfl rfl rfl rfl rfl lt0 ?_)
       refine VO.step (.some rfl rfl rfl) (V1.move rfl rfl rfl lt0 ?_)
       refine VO.step (.some rfl rfl rfl) (V1.move rfl rfl rfl lt0 ?_)
       refine VO.step (.some rfl rfl rfl) (V1.call rfl rfl rfl cok_72 rfl (ok_impl_within (cond_t hg1 hh3)) rfl lt0 ?_)
       rintro _ _ ⟨rfl, rfl⟩
       exact VO.nil ⟨rfl, rfl, rfl, rfl, .inr ⟨rfl, .inr ⟨rfl, .inr ⟨rfl, .inr ⟨rfl, .inr ⟨rfl, .inr ⟨rfl, .inl rfl⟩⟩⟩⟩⟩⟩⟩
      refine VO.nil ?_
      refine V.keep 59 [1, 2, 8, 10, 23, 24, 25, 38] [0, 1] (E0 := [(1, .int .i64 from_), (2, .int .i64 to_), (8, .sref ob1 7 0 (List.length closed0)), (10, .ref b1 7 0 0), (23, .vl ρ0 7 (List.map encFile list)), (24, .int .i64 (list.length : Int)), (25, .int .i64 v), (38, .bool ((((list.getD (Int.toNat v) default).State) != (0 : Int)) && y3))]) (H0 := [(b1, ⟨7, [encFile (list.getD (Int.toNat v) default)]⟩), (ob1, ⟨7, List.map encFile closed0⟩)]) rfl (⟨_, _, rfl, rfl, _, _, rfl, rfl, _, _, rfl, rfl, _, _, rfl, rfl, _, _, rfl, rfl, _, _, rfl, rfl, _, _, rfl, rfl, _, _, rfl, rfl, rfl⟩) (⟨_, _, rfl, rfl, _, _, rfl, rfl, rfl⟩) rfl ?_
      refine V.cond rfl (fun hc2 => ?_) (fun hc2 => ?_)
      ·
       replace hm2 := cond_t hc2 hm2
       replace hm2 := asrt_some hm2; rcases hm2 with ⟨hh4, hm2⟩
       refine V.region ?_
       refine VO.cons rfl (V1.move rfl rfl rfl lt0 ?_)
       refine VO.cons rfl (V1.loadRefAll (k := 0) rfl rfl tyk_97 rfl rfl rfl rfl rfl lt0 ?_)
       refine VO.cons rfl (V1.buildSliceT (f := encFile) ([(list.getD (Int.toNat v) default)] : List File) rfl rfl esz_41 zk_97 rfl rfl rfl rfl rfl rfl rfl lt0 ?_)
       intro b2
       refine VO.cons rfl (V1.appendMap (k := 2) (f := encFile) (l := closed0) (m := ([(list.getD (Int.toNat v) default)] : List File)) rfl rfl rfl rfl rfl esz_41 eby_41 zk_97 rfl rfl rfl (SrcOf.srMap (k := 0) rfl isl_41) hh4 lt0 ?_)
       intro b3
       refine VO.cons rfl (V1.assign rfl rfl rfl lt0 ?_)
       refine VO.nil ?_
       exact ⟨((closed0 ++ ([(list.getD (Int.toNat v) default)] : List File)), b3), Option.some.inj hm2, Keeps.mk (ks := [0]) rfl ⟨rfl, rfl, rfl, rfl, rfl, rfl, trivial⟩ (⟨_, _, rfl, rfl, rfl⟩) rfl⟩
      ·
       replace hm2 := cond_f hc2 hm2
       refine V.skip ?_
       exact ⟨(closed0, ob1), Option.some.inj hm2, Keeps.mk (ks := [1]) rfl ⟨rfl, rfl, rfl, rfl, rfl, rfl, trivial⟩ (⟨_, _, rfl, rfl, rfl⟩) rfl⟩
     ·
      rintro ⟨closed1, b0⟩ rfl
      try dsimp only at hm1
      refine V.region ?_
      refine VO.cons rfl (V1.int rfl rfl rfl rfl rfl lt0 ?_)
      refine VO.cons rfl (V1.move rfl rfl rfl lt0 ?_)
      refine VO.nil ?_
      exact ⟨(m0, (closed1, (IntKind.i64.wrap (v + (1 : Int)))), (some b0)), ⟨hl1 _ (Option.some.inj hm1).symm, (fun e => by cases e)⟩, Nat.lt_succ_self _, Keeps.mk (ks := [0]) rfl ⟨rfl, rfl, rfl, rfl, rfl, rfl, trivial⟩ (⟨_, _, rfl, rfl, rfl⟩) rfl⟩
    ·
     replace hm1 := cond_f hc1 hm1
     refine V.exit ?_
     obtain rfl := hr1 _ (Option.some.inj hm1).symm
     exact ⟨(closed0, (some ob1)), ⟨rfl, (fun e => by cases e)⟩, Keeps.mk (ks := [0]) rfl ⟨rfl, trivial⟩ (⟨_, _, rfl, rfl, rfl⟩) rfl⟩
  ·
   rintro ⟨closed, ob0⟩ ⟨rfl, hob0⟩
   try dsimp only at hm0
   rcases ob0 with _ | ob0
   ·
    replace hob0 := hob0 rfl
    refine V.seq ?_
    replace hm0 := bindO hm0; rcases hm0 with ⟨y4, hh5, hm0⟩
    replace hm0 := asrt_some hm0; rcases hm0 with ⟨hh6, hm0⟩
    refine V.region ?_
    refine VO.cons rfl (V1.move rfl rfl rfl lt0 ?_)
    refine VO.cons rfl (V1.call rfl rfl rfl cok_86 rfl (ok_slices_SortStableFunc_impl_File_impl_File hh5 (oq := none) (x := closed) (fun _ => hob0) (fm := (fun x0 x1 => M.impl_ClosedSince_1 x0 x1)) cok_87 (fun _ _ _ h => ok_impl_ClosedSince_1 h)) rfl lt0 ?_)
    rintro _ _ ⟨rfl, rfl⟩
    refine VO.nil ?_
    refine V.seq ?_
    refine V.region ?_
    refine VO.cons rfl (V1.assign rfl rfl rfl lt0 ?_)
    refine VO.nil ?_
    refine V.seq ?_
    refine V.seq ?_
    refine V.region ?_
    refine VO.cons rfl (V1.move rfl rfl rfl lt0 ?_)
    refine VO.cons rfl (V1.lenNilsE (l := y4) (List.length_eq_zero_iff.1 (hh6.trans (congrArg List.length hob0))) rfl rfl rfl rfl rfl rfl isl_41 lt0 ?_)
    refine VO.cons rfl (V1.move rfl rfl rfl lt0 ?_)
    refine VO.nil ?_
    replace hm0 := bindO hm0; rcases hm0 with ⟨e1, he1, hm0⟩
    refine V.cutT (D := (List Int) × (Option Nat)) (fun ⟨ids, ob2⟩ => ⟨59, [(11, optS 1 ob2 (List.length ids))], optH 1 ob2 (List.map encInt ids)⟩) (fun ⟨ids, ob2⟩ => (ids = e1) ∧ (ob2 = none → ids = [])) ?_ ?_
    ·
     refine V.block ?_
     refine V.weakenK (Keeps.nilsE (l := y4) 46 rn 7 encFile (List.length_eq_zero_iff.1 (hh6.trans (congrArg List.length hob0))) rfl rfl) ?_
     refine V.keep 59 [11, 48, 46, 47] [] (E0 := [(11, .nils), (48, .int .i64 (0 : Int)), (46, .vl rn 7 (List.map encFile y4)), (47, .int .i64 (y4.length : Int))]) (H0 := []) rfl (⟨_, _, rfl, rfl, _, _, rfl, rfl, _, _, rfl, rfl, _, _, rfl, rfl, rfl⟩) (rfl) rfl ?_
     refine V.loopE (D := Nat × (List Int × Int) × (Option Nat)) (fun ⟨n1, ⟨ids0, v0⟩, ob3⟩ => [(11, optS 1 ob3 (List.length ids0)), (48, .int .i64 v0)]) (fun ⟨n1, ⟨ids0, v0⟩, ob3⟩ => optH 1 ob3 (List.map encInt ids0)) (fun ⟨n1, ⟨ids0, v0⟩, ob3⟩ => loopO (M.impl_ClosedSince_l1 y4) n1 (ids0, v0) = some e1 ∧ (ob3 = none → ids0 = [])) (fun ⟨n1, _, _⟩ => n1) (rounds, (([] : List Int), (0 : Int)), none) rfl ⟨he1, (fun _ => rfl)⟩ ?_
     rintro ⟨n1, ⟨ids0, v0⟩, ob3⟩ ⟨hP1, hob3⟩
     obtain ⟨m1, y5, rfl, hm1, hl1, hr1⟩ := loop_head hP1
     unfold M.impl_ClosedSince_l1 at hm1; dsimp only at hm1
     rcases ob3 with _ | ob3
     ·
      replace hob3 := hob3 rfl
      show V _ _ _ ⟨59, [(11, .nils), (48, .int .i64 v0), (46, .vl rn 7 (List.map encFile y4)), (47, .int .i64 (y4.length : Int))], []⟩
      refine V.seq ?_
      refine V.region ?_
      refine VO.cons rfl (V1.int rfl rfl rfl rfl rfl lt0 ?_)
      refine VO.nil ?_
      refine V.seq ?_
      refine V.cond rfl (fun hc3 => ?_) (fun hc3 => ?_)
      ·
       replace hm1 := cond_t hc3 hm1
       refine V.skip ?_
       refine V.seq ?_
       refine V.block ?_
       refine V.seq ?_
       replace hm1 := asrt_some hm1; rcases hm1 with ⟨hh7, hm1⟩
       refine V.region ?_
       refine VO.cons rfl (V1.indexI rfl rfl esz_41 rfl rfl hh7 lt0 ?_)
       refine VO.cons rfl (V1.loadPinAll rfl rfl tyk_97 rfl rfl lt0 ?_)
       refine VO.cons rfl (V1.alloc rfl rfl zk_97 lt0 ?_)
       intro b4
       refine VO.cons rfl (V1.storeRefAll (k := 0) rfl rfl tyk_97 rfl rfl rfl rfl rfl rfl ?_)
       refine VO.nil ?_
       replace hm1 := asrt_some hm1; rcases hm1 with ⟨hh8, hm1⟩
       refine V.region ?_
       refine VO.cons rfl (V1.move rfl rfl rfl lt0 ?_)
       refine VO.cons rfl (V1.fieldRef rfl rfl fo_97_0 rfl lt0 ?_)
       refine VO.cons rfl (V1.loadRef (k := 0) rfl rfl tyk_3 rfl rfl rfl rfl rfl lt0 ?_)
       refine VO.cons rfl (V1.buildSliceT (f := encInt) ([(y4.getD (Int.toNat v0) default).Id] : List Int) rfl rfl esz_27 zk_3 rfl rfl rfl rfl rfl rfl rfl lt0 ?_)
       intro b5
       refine VO.cons rfl (V1.appendNilE (f := encInt) (l := ids0) (m := ([(y4.getD (Int.toNat v0) default).Id] : List Int)) hob3 rfl rfl rfl rfl rfl esz_27 eby_27 zk_3 rfl rfl rfl (SrcOf.srMap (k := 0) rfl isl_27) rfl hh8 lt0 ?_)
       intro b6
       refine VO.cons rfl (V1.assign rfl rfl rfl lt0 ?_)
       refine VO.nil ?_
       refine V.keep 59 [11, 46, 47, 48] [0] (E0 := [(11, .sref b6 1 0 (List.length (ids0 ++ ([(y4.getD (Int.toNat v0) default).Id] : List Int)))), (46, .vl rn 7 (List.map encFile y4)), (47, .int .i64 (y4.length : Int)), (48, .int .i64 v0)]) (H0 := [(b6, ⟨1, List.map encInt (ids0 ++ ([(y4.getD (Int.toNat v0) default).Id] : List Int))⟩)]) rfl (⟨_, _, rfl, rfl, _, _, rfl, rfl, _, _, rfl, rfl, _, _, rfl, rfl, rfl⟩) (⟨_, _, rfl, rfl, rfl⟩) rfl ?_
       refine V.region ?_
       refine VO.cons rfl (V1.int rfl rfl rfl rfl rfl lt0 ?_)
       refine VO.cons rfl (V1.move rfl rfl rfl lt0 ?_)
       refine VO.nil ?_
       exact ⟨(m1, ((ids0 ++ ([(y4.getD (Int.toNat v0) default).Id] : List Int)), (IntKind.i64.wrap (v0 + (1 : Int)))), (some b6)), ⟨hl1 _ (Option.some.inj hm1).symm, (fun e => by cases e)⟩, Nat.lt_succ_self _, Keeps.mk (ks := [0]) rfl ⟨rfl, rfl, rfl, rfl, trivial⟩ (⟨_, _, rfl, rfl, rfl⟩) rfl⟩
      ·
       replace hm1 := cond_f hc3 hm1
       refine V.exit ?_
       obtain rfl := hr1 _ (Option.some.inj hm1).symm
       exact ⟨(ids0, none), ⟨rfl, (fun _ => hob3)⟩, Keeps.mk (ks := []) rfl ⟨rfl, trivial⟩ (rfl) rfl⟩
     ·
      show V _ _ _ ⟨59, [(11, .sref ob3 1 0 (List.length ids0)), (48, .int .i64 v0), (46, .vl rn 7 (List.map encFile y4)), (47, .int .i64 (y4.length : Int))], [(ob3, ⟨1, List.map encInt ids0⟩)]⟩
      refine V.seq ?_
      refine V.region ?_
      refine VO.cons rfl (V1.int rfl rfl rfl rfl rfl lt0 ?_)
      refine VO.nil ?_
      refine V.seq ?_
      refine V.cond rfl (fun hc3 => ?_) (fun hc3 => ?_)
      ·
       replace hm1 := cond_t hc3 hm1
       refine V.skip ?_
       refine V.seq ?_
       refine V.block ?_
       refine V.seq ?_
       replace hm1 := asrt_some hm1; rcases hm1 with ⟨hh7, hm1⟩
       refine V.region ?_
       refine VO.cons rfl (V1.indexI rfl rfl esz_41 rfl rfl hh7 lt0 ?_)
       refine VO.cons rfl (V1.loadPinAll rfl rfl tyk_97 rfl rfl lt0 ?_)
       refine VO.cons rfl (V1.alloc rfl rfl zk_97 lt0 ?_)
       intro b4
       refine VO.cons rfl (V1.storeRefAll (k := 0) rfl rfl tyk_97 rfl rfl rfl rfl rfl rfl ?_)
       refine VO.nil ?_
       replace hm1 := asrt_some hm1; rcases hm1 with ⟨hh8, hm1⟩
       refine V.region ?_
       refine VO.cons rfl (V1.move rfl rfl rfl lt0 ?_)
       refine VO.cons rfl (V1.fieldRef rfl rfl fo_97_0 rfl lt0 ?_)
       refine VO.cons rfl (V1.loadRef (k := 0) rfl rfl tyk_3 rfl rfl rfl rfl rfl lt0 ?_)
       refine VO.cons rfl (V1.buildSliceT (f := encInt) ([(y4.getD (Int.toNat v0) default).Id] : List Int) rfl rfl esz_27 zk_3 rfl rfl rfl rfl rfl rfl rfl lt0 ?_)
       intro b5
       refine VO.cons rfl (V1.appendMap (k := 2) (f := encInt) (l := ids0) (m := ([(y4.getD (Int.toNat v0) default).Id] : List Int)) rfl rfl rfl rfl rfl esz_27 eby_27 zk_3 rfl rfl rfl (SrcOf.srMap (k := 0) rfl isl_27) hh8 lt0 ?_)
       intro b6
       refine VO.cons rfl (V1.assign rfl rfl rfl lt0 ?_)
       refine VO.nil ?_
       refine V.keep 59 [11, 46, 47, 48] [0] (E0 := [(11, .sref b6 1 0 (List.length (ids0 ++ ([(y4.getD (Int.toNat v0) default).Id] : List Int)))), (46, .vl rn 7 (List.map encFile y4)), (47, .int .i64 (y4.length : Int)), (48, .int .i64 v0)]) (H0 := [(b6, ⟨1, List.map encInt (ids0 ++ ([(y4.getD (Int.toNat v0) default).Id] : List Int))⟩)]) rfl (⟨_, _, rfl, rfl, _, _, rfl, rfl, _, _, rfl, rfl, _, _, rfl, rfl, rfl⟩) (⟨_, _, rfl, rfl, rfl⟩) rfl ?_
       refine V.region ?_
       refine VO.cons rfl (V1.int rfl rfl rfl rfl rfl lt0 ?_)
       refine VO.cons rfl (V1.move rfl rfl rfl lt0 ?_)
       refine VO.nil ?_
       exact ⟨(m1, ((ids0 ++ ([(y4.getD (Int.toNat v0) default).Id] : List Int)), (IntKind.i64.wrap (v0 + (1 : Int)))), (some b6)), ⟨hl1 _ (Option.some.inj hm1).symm, (fun e => by cases e)⟩, Nat.lt_succ_self _, Keeps.mk (ks := [0]) rfl ⟨rfl, rfl, rfl, rfl, trivial⟩ (⟨_, _, rfl, rfl, rfl⟩) rfl⟩
      ·
       replace hm1 := cond_f hc3 hm1
       refine V.exit ?_
       obtain rfl := hr1 _ (Option.some.inj hm1).symm
       exact ⟨(ids0, (some ob3)), ⟨rfl, (fun e => by cases e)⟩, Keeps.mk (ks := [0]) rfl ⟨rfl, trivial⟩ (⟨_, _, rfl, rfl, rfl⟩) rfl⟩
    ·
     rintro ⟨ids, ob2⟩ ⟨rfl, hob2⟩
     try dsimp only at hm0
     rcases ob2 with _ | ob2
     ·
      replace hob2 := hob2 rfl
      refine V.seq ?_
      refine V.region ?_
      refine VO.cons rfl (V1.move rfl rfl rfl lt0 ?_)
      refine VO.cons rfl (V1.assign rfl rfl rfl lt0 ?_)
      refine VO.cons rfl (V1.assign rfl rfl rfl lt0 ?_)
      refine VO.nil ?_
      refine V.keep 59 [6, 7] [] (E0 := [(6, .nils), (7, .bool true)]) (H0 := []) rfl (⟨_, _, rfl, rfl, _, _, rfl, rfl, rfl⟩) (rfl) rfl ?_
      refine V.ret ?_
      obtain rfl := Option.some.inj hm0
      exact ⟨_, _, ⟨_, _, rfl, rfl, _, _, rfl, rfl, rfl⟩, List.Sublist.refl _, none, (fun _ => hob2), rfl, rfl⟩
     ·
      refine V.seq ?_
      refine V.region ?_
      refine VO.cons rfl (V1.move rfl rfl rfl lt0 ?_)
      refine VO.cons rfl (V1.assign rfl rfl rfl lt0 ?_)
      refine VO.cons rfl (V1.assign rfl rfl rfl lt0 ?_)
      refine VO.nil ?_
      refine V.keep 59 [6, 7] [0] (E0 := [(6, .sref ob2 1 0 (List.length ids)), (7, .bool true)]) (H0 := [(ob2, ⟨1, List.map encInt ids⟩)]) rfl (⟨_, _, rfl, rfl, _, _, rfl, rfl, rfl⟩) (⟨_, _, rfl, rfl, rfl⟩) rfl ?_
      refine V.ret ?_
      obtain rfl := Option.some.inj hm0
      exact ⟨_, _, ⟨_, _, rfl, rfl, _, _, rfl, rfl, rfl⟩, List.Sublist.refl _, some ob2, (fun e => by cases e), rfl, rfl⟩
   ·
    refine V.seq ?_
    replace hm0 := bindO hm0; rcases hm0 with ⟨y4, hh5, hm0⟩
    replace hm0 := asrt_some hm0; rcases hm0 with ⟨hh6, hm0⟩
    refine V.region ?_
    refine VO.cons rfl (V1.move rfl rfl rfl lt0 ?_)
    refine VO.cons rfl (V1.callM 0 (rn + 1) [] [.sref ob0 7 0 (List.length closed), .fn 87 []] (p := (ob0, ⟨7, List.map encFile closed⟩)) rfl rfl rfl cok_86 rfl rfl ⟨_, _, rfl, .same _, ⟨_, _, rfl, Lend.fn rfl, rfl⟩⟩ bwNil (ok_slices_SortStableFunc_impl_File_impl_File hh5 (oq := some ob0) (fun e => by cases e) (fm := (fun x0 x1 => M.impl_ClosedSince_1 x0 x1)) cok_87 (fun _ _ _ h => ok_impl_ClosedSince_1 h)) rfl (.inl rfl) lt0 ?_)
    rintro _ _ ⟨rfl, rfl⟩
    refine VO.weakenK (Keeps.say 8 (y := .sref ob0 7 0 (List.length y4)) rfl (congrArg (PV.sref ob0 7 0) hh6.symm)) ?_
    refine VO.nil ?_
    refine V.seq ?_
    refine V.region ?_
    refine VO.cons rfl (V1.assign rfl rfl rfl lt0 ?_)
    refine VO.nil ?_
    refine V.seq ?_
    refine V.seq ?_
    refine V.region ?_
    refine VO.cons rfl (V1.move rfl rfl rfl lt0 ?_)
    refine VO.cons rfl (V1.lenSref rfl rfl rfl rfl rfl rfl isl_41 lt0 ?_)
    refine VO.cons rfl (V1.move rfl rfl rfl lt0 ?_)
    refine VO.nil ?_
    replace hm0 := bindO hm0; rcases hm0 with ⟨e1, he1, hm0⟩
    refine V.cutT (D := (List Int) × (Option Nat)) (fun ⟨ids, ob2⟩ => ⟨59, [(11, optS 1 ob2 (List.length ids))], optH 1 ob2 (List.map encInt ids)⟩) (fun ⟨ids, ob2⟩ => (ids = e1) ∧ (ob2 = none → ids = [])) ?_ ?_
    ·
     refine V.block ?_
     refine V.keep 59 [11, 48, 46, 47] [0] (E0 := [(11, .nils), (48, .int .i64 (0 : Int)), (46, .sref ob0 7 0 (List.length y4)), (47, .int .i64 (y4.length : Int))]) (H0 := [(ob0, ⟨7, List.map encFile y4⟩)]) rfl (⟨_, _, rfl, rfl, _, _, rfl, rfl, _, _, rfl, rfl, _, _, rfl, rfl, rfl⟩) (⟨_, _, rfl, rfl, rfl⟩) rfl ?_
     refine V.loopE (D := Nat × (List Int × Int) × (Option Nat)) (fun ⟨n1, ⟨ids0, v0⟩, ob3⟩ => [(11, optS 1 ob3 (List.length ids0)), (48, .int .i64 v0)]) (fun ⟨n1, ⟨ids0, v0⟩, ob3⟩ => optH 1 ob3 (List.map encInt ids0)) (fun ⟨n1, ⟨ids0, v0⟩, ob3⟩ => loopO (M.impl_ClosedSince_l1 y4) n1 (ids0, v0) = some e1 ∧ (ob3 = none → ids0 = [])) (fun ⟨n1, _, _⟩ => n1) (rounds, (([] : List Int), (0 : Int)), none) rfl ⟨he1, (fun _ => rfl)⟩ ?_
     rintro ⟨n1, ⟨ids0, v0⟩, ob3⟩ ⟨hP1, hob3⟩
     obtain ⟨m1, y5, rfl, hm1, hl1, hr1⟩ := loop_head hP1
     unfold M.impl_ClosedSince_l1 at hm1; dsimp only at hm1
     rcases ob3 with _ | ob3
     ·
      replace hob3 := hob3 rfl
      show V _ _ _ ⟨59, [(11, .nils), (48, .int .i64 v0), (46, .sref ob0 7 0 (List.length y4)), (47, .int .i64 (y4.length : Int))], [(ob0, ⟨7, List.map encFile y4⟩)]⟩
      refine V.seq ?_
      refine V.region ?_
      refine VO.cons rfl (V1.int rfl rfl rfl rfl rfl lt0 ?_)
      refine VO.nil ?_
      refine V.seq ?_
      refine V.cond rfl (fun hc3 => ?_) (fun hc3 => ?_)
      ·
       replace hm1 := cond_t hc3 hm1
       refine V.skip ?_
       refine V.seq ?_
       refine V.block ?_
       refine V.seq ?_
       replace hm1 := asrt_some hm1; rcases hm1 with ⟨hh7, hm1⟩
       refine V.region ?_
       refine VO.cons rfl (V1.indexSr rfl rfl esz_41 rfl rfl hh7 lt0 ?_)
       refine VO.cons rfl (V1.loadMapAll (k := 0) (f := encFile) rfl rfl tyk_97 rfl rfl (by simpa using natLt hh7.1 hh7.2) rfl lt0 ?_)
       refine VO.cons rfl (V1.alloc rfl rfl zk_97 lt0 ?_)
       intro b4
       refine VO.cons rfl (V1.storeRefAll (k := 0) rfl rfl tyk_97 rfl rfl rfl rfl rfl rfl ?_)
       refine VO.nil ?_
       replace hm1 := asrt_some hm1; rcases hm1 with ⟨hh8, hm1⟩
       refine V.region ?_
       refine VO.cons rfl (V1.move rfl rfl rfl lt0 ?_)
       refine VO.cons rfl (V1.fieldRef rfl rfl fo_97_0 rfl lt0 ?_)
       refine VO.cons rfl (V1.loadRef (k := 0) rfl rfl tyk_3 rfl rfl rfl rfl rfl lt0 ?_)
       refine VO.cons rfl (V1.buildSliceT (f := encInt) ([(y4.getD (Int.toNat v0) default).Id] : List Int) rfl rfl esz_27 zk_3 rfl rfl rfl rfl rfl rfl rfl lt0 ?_)
       intro b5
       refine VO.cons rfl (V1.appendNilE (f := encInt) (l := ids0) (m := ([(y4.getD (Int.toNat v0) default).Id] : List Int)) hob3 rfl rfl rfl rfl rfl esz_27 eby_27 zk_3 rfl rfl rfl (SrcOf.srMap (k := 0) rfl isl_27) rfl hh8 lt0 ?_)
       intro b6
       refine VO.cons rfl (V1.assign rfl rfl rfl lt0 ?_)
       refine VO.nil ?_
       refine V.keep 59 [11, 46, 47, 48] [0, 3] (E0 := [(11, .sref b6 1 0 (List.length (ids0 ++ ([(y4.getD (Int.toNat v0) default).Id] : List Int)))), (46, .sref ob0 7 0 (List.length y4)), (47, .int .i64 (y4.length : Int)), (48, .int .i64 v0)]) (H0 := [(b6, ⟨1, List.map encInt (ids0 ++ ([(y4.getD (Int.toNat v0) default).Id] : List Int))⟩), (ob0, ⟨7, List.map encFile y4⟩)]) rfl (⟨_, _, rfl, rfl, _, _, rfl, rfl, _, _, rfl, rfl, _, _, rfl, rfl, rfl⟩) (⟨_, _, rfl, rfl, _, _, rfl, rfl, rfl⟩) rfl ?_
       refine V.region ?_
       refine VO.cons rfl (V1.int rfl rfl rfl rfl rfl lt0 ?_)
       refine VO.cons rfl (V1.move rfl rfl rfl lt0 ?_)
       refine VO.nil ?_
       exact ⟨(m1, ((ids0 ++ ([(y4.getD (Int.toNat v0) default).Id] : List Int)), (IntKind.i64.wrap (v0 + (1 : Int)))), (some b6)), ⟨hl1 _ (Option.some.inj hm1).symm, (fun e => by cases e)⟩, Nat.lt_succ_self _, Keeps.mk (ks := [0, 1]) rfl ⟨rfl, rfl, rfl, rfl, trivial⟩ (⟨_, _, rfl, rfl, _, _, rfl, rfl, rfl⟩) rfl⟩
      ·
       replace hm1 := cond_f hc3 hm1
       refine V.exit ?_
       obtain rfl := hr1 _ (Option.some.inj hm1).symm
       exact ⟨(ids0, none), ⟨rfl, (fun _ => hob3)⟩, Keeps.mk (ks := []) rfl ⟨rfl, trivial⟩ (rfl) rfl⟩
     ·
      show V _ _ _ ⟨59, [(11, .sref ob3 1 0 (List.length ids0)), (48, .int .i64 v0), (46, .sref ob0 7 0 (List.length y4)), (47, .int .i64 (y4.length : Int))], [(ob3, ⟨1, List.map encInt ids0⟩), (ob0, ⟨7, List.map encFile y4⟩)]⟩
      refine V.seq ?_
      refine V.region ?_
      refine VO.cons rfl (V1.int rfl rfl rfl rfl rfl lt0 ?_)
      refine VO.nil ?_
      refine V.seq ?_
      refine V.cond rfl (fun hc3 => ?_) (fun hc3 => ?_)
      ·
       replace hm1 := cond_t hc3 hm1
       refine V.skip ?_
       refine V.seq ?_
       refine V.block ?_
       refine V.seq ?_
       replace hm1 := asrt_some hm1; rcases hm1 with ⟨hh7, hm1⟩
       refine V.region ?_
       refine VO.cons rfl (V1.indexSr rfl rfl esz_41 rfl rfl hh7 lt0 ?_)
       refine VO.cons rfl (V1.loadMapAll (k := 1) (f := encFile) rfl rfl tyk_97 rfl rfl (by simpa using natLt hh7.1 hh7.2) rfl lt0 ?_)
       refine VO.cons rfl (V1.alloc rfl rfl zk_97 lt0 ?_)
       intro b4
       refine VO.cons rfl (V1.storeRefAll (k := 0) rfl rfl tyk_97 rfl rfl rfl rfl rfl rfl ?_)
       refine VO.nil ?_
       replace hm1 := asrt_some hm1; rcases hm1 with ⟨hh8, hm1⟩
       refine V.region ?_
       refine VO.cons rfl (V1.move rfl rfl rfl lt0 ?_)
       refine VO.cons rfl (V1.fieldRef rfl rfl fo_97_0 rfl lt0 ?_)
       refine VO.cons rfl (V1.loadRef (k := 0) rfl rfl tyk_3 rfl rfl rfl rfl rfl lt0 ?_)
       refine VO.cons rfl (V1.buildSliceT (f := encInt) ([(y4.getD (Int.toNat v0) default).Id] : List Int) rfl rfl esz_27 zk_3 rfl rfl rfl rfl rfl rfl rfl lt0 ?_)
       intro b5
       refine VO.cons rfl (V1.appendMap (k := 2) (f := encInt) (l := ids0) (m := ([(y4.getD (Int.toNat v0) default).Id] : List Int)) rfl rfl rfl rfl rfl esz_27 eby_27 zk_3 rfl rfl rfl (SrcOf.srMap (k := 0) rfl isl_27) hh8 lt0 ?_)
       intro b6
       refine VO.cons rfl (V1.assign rfl rfl rfl lt0 ?_)
       refine VO.nil ?_
       refine V.keep 59 [11, 46, 47, 48] [0, 3] (E0 := [(11, .sref b6 1 0 (List.length (ids0 ++ ([(y4.getD (Int.toNat v0) default).Id] : List Int)))), (46, .sref ob0 7 0 (List.length y4)), (47, .int .i64 (y4.length : Int)), (48, .int .i64 v0)]) (H0 := [(b6, ⟨1, List.map encInt (ids0 ++ ([(y4.getD (Int.toNat v0) default).Id] : List Int))⟩), (ob0, ⟨7, List.map encFile y4⟩)]) rfl (⟨_, _, rfl, rfl, _, _, rfl, rfl, _, _, rfl, rfl, _, _, rfl, rfl, rfl⟩) (⟨_, _, rfl, rfl, _, _, rfl, rfl, rfl⟩) rfl ?_
       refine V.region ?_
       refine VO.cons rfl (V1.int rfl rfl rfl rfl rfl lt0 ?_)
       refine VO.cons rfl (V1.move rfl rfl rfl lt0 ?_)
       refine VO.nil ?_
       exact ⟨(m1, ((ids0 ++ ([(y4.getD (Int.toNat v0) default).Id] : List Int)), (IntKind.i64.wrap (v0 + (1 : Int)))), (some b6)), ⟨hl1 _ (Option.some.inj hm1).symm, (fun e => by cases e)⟩, Nat.lt_succ_self _, Keeps.mk (ks := [0, 1]) rfl ⟨rfl, rfl, rfl, rfl, trivial⟩ (⟨_, _, rfl, rfl, _, _, rfl, rfl, rfl⟩) rfl⟩
      ·
       replace hm1 := cond_f hc3 hm1
       refine V.exit ?_
       obtain rfl := hr1 _ (Option.some.inj hm1).symm
       exact ⟨(ids0, (some ob3)), ⟨rfl, (fun e => by cases e)⟩, Keeps.mk (ks := [0]) rfl ⟨rfl, trivial⟩ (⟨_, _, rfl, rfl, rfl⟩) rfl⟩
    ·
     rintro ⟨ids, ob2⟩ ⟨rfl, hob2⟩
     try dsimp only at hm0
     rcases ob2 with _ | ob2
     ·
      replace hob2 := hob2 rfl
      refine V.seq ?_
      refine V.region ?_
      refine VO.cons rfl (V1.move rfl rfl rfl lt0 ?_)
      refine VO.cons rfl (V1.assign rfl rfl rfl lt0 ?_)
      refine VO.cons rfl (V1.assign rfl rfl rfl lt0 ?_)
      refine VO.nil ?_
      refine V.keep 59 [6, 7] [] (E0 := [(6, .nils), (7, .bool true)]) (H0 := []) rfl (⟨_, _, rfl, rfl, _, _, rfl, rfl, rfl⟩) (rfl) rfl ?_
      refine V.ret ?_
      obtain rfl := Option.some.inj hm0
      exact ⟨_, _, ⟨_, _, rfl, rfl, _, _, rfl, rfl, rfl⟩, List.Sublist.refl _, none, (fun _ => hob2), rfl, rfl⟩
     ·
      refine V.seq ?_
      refine V.region ?_
      refine VO.cons rfl (V1.move rfl rfl rfl lt0 ?_)
      refine VO.cons rfl (V1.assign rfl rfl rfl lt0 ?_)
      refine VO.cons rfl (V1.assign rfl rfl rfl lt0 ?_)
      refine VO.nil ?_
      refine V.keep 59 [6, 7] [0] (E0 := [(6, .sref ob2 1 0 (List.length ids)), (7, .bool true)]) (H0 := [(ob2, ⟨1, List.map encInt ids⟩)]) rfl (⟨_, _, rfl, rfl, _, _, rfl, rfl, rfl⟩) (⟨_, _, rfl, rfl, rfl⟩) rfl ?_
      refine V.ret ?_
      obtain rfl := Option.some.inj hm0
      exact ⟨_, _, ⟨_, _, rfl, rfl, _, _, rfl, rfl, rfl⟩, List.Sublist.refl _, some ob2, (fun e => by cases e), rfl, rfl⟩

theorem ok_spec_ClosedSince {ρ0 rn : Nat} {list : List File} {from_ : Int} {to_ : Int} {r : List Int × Bool} (h : M.spec_ClosedSince list from_ to_ = some r) : Does Tryd.prog 28 [.vl ρ0 7 (List.map encFile list), .int .i64 from_, .int .i64 to_] [] rn (fun x H => ∃ (ob0_ : Nat), x = .tup [PV.sref ob0_ 1 0 (List.length r.1), .bool r.2] ∧ H = [(ob0_, ⟨1, List.map encInt r.1⟩)]) := by
 have hm0 := h; clear h; unfold M.spec_ClosedSince at hm0
 try dsimp only at hm0
 refine Does.intro (N := 103) Tryd.func28 rfl rfl rfl rfl ?_
 intro w0 S0 L0
 refine V.seq ?_
 refine V.region ?_
 refine VO.cons rfl (V1.assign rfl rfl rfl lt0 ?_)
 refine VO.cons rfl (V1.assign rfl rfl rfl lt0 ?_)
 refine VO.nil ?_
 refine V.seq ?_
 refine V.region ?_
 refine VO.cons rfl (V1.buildSliceT (f := encInt) ([] : List Int) rfl rfl esz_27 zk_3 rfl rfl rfl rfl rfl rfl rfl lt0 ?_)
 intro b0
 refine VO.cons rfl (V1.assign rfl rfl rfl lt0 ?_)
 refine VO.nil ?_
 refine V.seq ?_
 refine V.seq ?_
 replace hm0 := bindO hm0; rcases hm0 with ⟨y0, hh0, hm0⟩
 replace hm0 := bindO hm0; rcases hm0 with ⟨y1, hh1, hm0⟩
 replace hm0 := bindO hm0; rcases hm0 with ⟨y2, hh2, hm0⟩
 refine V.region ?_
 refine VO.cons rfl (V1.move rfl rfl rfl lt0 ?_)
 refine VO.cons rfl (V1.call rfl rfl rfl cok_76 rfl (ok_spec_l5Good hh0) rfl lt0 ?_)
 rintro _ _ ⟨rfl, rfl⟩
 refine VO.cons rfl (V1.not rfl rfl rfl lt0 ?_)
 refine VO.cons rfl (V1.move rfl rfl rfl lt0 ?_)
 apply VO.or (n := 3) rfl rfl rfl rfl rfl rfl lt0 (.none rfl)
 ·
  intro hg0
  refine VO.step (.some rfl rfl rfl) (V1.move rfl rfl rfl lt0 ?_)
  refine VO.step (.some rfl rfl rfl) (V1.call rfl rfl rfl cok_63 rfl (ok_spec_l2Day (cond_f hg0 hh1)) rfl lt0 ?_)
  rintro _ _ ⟨rfl, rfl⟩
  refine VO.step (.some rfl rfl rfl) (V1.not rfl rfl rfl lt0 ?_)
  exact VO.nil ⟨rfl, rfl, rfl, rfl, .inr ⟨rfl, .inr ⟨rfl, .inr ⟨rfl, .inr ⟨rfl, .inl rfl⟩⟩⟩⟩⟩
 refine VO.cons rfl (V1.move rfl rfl rfl lt0 ?_)
 apply VO.or (n := 4) rfl rfl rfl rfl rfl rfl lt0 (.none rfl)
 ·
  intro hg1
  refine VO.step (.some rfl rfl rfl) (V1.move rfl rfl rfl lt0 ?_)
  refine VO.step (.some rfl rfl rfl) (V1.move rfl rfl rfl lt0 ?_)
  refine VO.step (.some rfl rfl rfl) (V1.call rfl rfl rfl cok_75 rfl (ok_spec_l1In (cond_f hg1 hh2)) rfl lt0 ?_)
  rintro _ _ ⟨rfl, rfl⟩
  refine VO.step (.some rfl rfl rfl) (V1.not rfl rfl rfl lt0 ?_)
  exact VO.nil ⟨rfl, rfl, rfl, rfl, .inr ⟨rfl, .inr ⟨rfl, .inr ⟨rfl, .inr ⟨rfl, .inr ⟨rfl, .inl rfl⟩⟩⟩⟩⟩⟩
 refine VO.nil ?_
 refine V.keep 103 [0, 1, 2, 8, 27] [0] (E0 := [(0, .vl ρ0 7 (List.map encFile list)), (1, .int .i64 from_), (2, .int .i64 to_), (8, .sref b0 1 0 (List.length ([] : List Int))), (27, .bool (((!y0) || (!y1)) || (!y2)))]) (H0 := [(b0, ⟨1, List.map encInt ([] : List Int)⟩)]) rfl (⟨_, _, rfl, rfl, _, _, rfl, rfl, _, _, rfl, rfl, _, _, rfl, rfl, _, _, rfl, rfl, rfl⟩) (⟨_, _, rfl, rfl, rfl⟩) rfl ?_
 refine V.cond rfl (fun hc0 => ?_) (fun hc0 => ?_)
 ·
  replace hm0 := cond_t hc0 hm0
  refine V.seq ?_
  refine V.region ?_
  refine VO.cons rfl (V1.move rfl rfl rfl lt0 ?_)
  refine VO.cons rfl (V1.assign rfl rfl rfl lt0 ?_)
  refine VO.cons rfl (V1.assign rfl rfl rfl lt0 ?_)
  refine VO.nil ?_
  refine V.keep 103 [6, 7] [0] (E0 := [(6, .sref b0 1 0 (List.length ([] : List Int))), (7, .bool false)]) (H0 := [(b0, ⟨1, List.map encInt ([] : List Int)⟩)]) rfl (⟨_, _, rfl, rfl, _, _, rfl, rfl, rfl⟩) (⟨_, _, rfl, rfl, rfl⟩) rfl ?_
  refine V.ret ?_
  obtain rfl := Option.some.inj hm0
  exact ⟨_, _, ⟨_, _, rfl, rfl, _, _, rfl, rfl, rfl⟩, List.Sublist.refl _, b0, rfl, rfl⟩
 ·
  replace hm0 := cond_f hc0 hm0
  refine V.skip ?_
  refine V.seq ?_
  refine V.region ?_
  refine VO.cons rfl (V1.buildSliceT (f := encFile) ([] : List File) rfl rfl esz_41 zk_97 rfl rfl rfl rfl rfl rfl rfl lt0 ?_)
  intro b1
  refine VO.cons rfl (V1.assign rfl rfl rfl lt0 ?_)
  refine VO.nil ?_
  refine V.seq ?_
  refine V.seq ?_
  refine V.region ?_
  refine VO.cons rfl (V1.assign rfl rfl rfl lt0 ?_)
  refine VO.nil ?_
  replace hm0 := bindO hm0; rcases hm0 with ⟨e0, he1, hm0⟩
  refine V.cutT (D := (List File) × (Unit)) (fun ⟨order, _⟩ => ⟨103, [(9, .vl rn 7 (List.map encFile order)), (8, .sref b0 1 0 (List.length ([] : List Int)))], [(b0, ⟨1, List.map encInt ([] : List Int)⟩)]⟩) (fun ⟨order, _⟩ => (order = e0)) ?_ ?_
  ·
   refine V.block ?_
   refine V.keep 103 [9, 10, 0, 1, 2, 8] [0, 1] (E0 := [(9, .sref b1 7 0 (List.length ([] : List File))), (10, .int .i64 (0 : Int)), (0, .vl ρ0 7 (List.map encFile list)), (1, .int .i64 from_), (2, .int .i64 to_), (8, .sref b0 1 0 (List.length ([] : List Int)))]) (H0 := [(b1, ⟨7, List.map encFile ([] : List File)⟩), (b0, ⟨1, List.map encInt ([] : List Int)⟩)]) rfl (⟨_, _, rfl, rfl, _, _, rfl, rfl, _, _, rfl, rfl, _, _, rfl, rfl, _, _, rfl, rfl, _, _, rfl, rfl, rfl⟩) (⟨_, _, rfl, rfl, _, _, rfl, rfl, rfl⟩) rfl ?_
   refine V.loopE (D := Nat × (List File × Int) × (Nat)) (fun ⟨n0, ⟨order0, i⟩, b2⟩ => [(9, .sref b2 7 0 (List.length order0)), (10, .int .i64 i)]) (fun ⟨n0, ⟨order0, i⟩, b2⟩ => [(b2, ⟨7, List.map encFile order0⟩)]) (fun ⟨n0, ⟨order0, i⟩, b2⟩ => loopO (M.spec_ClosedSince_l0 list from_ to_) n0 (order0, i) = some e0) (fun ⟨n0, _, _⟩ => n0) (rounds, (([] : List File), (0 : Int)), b1) rfl he1 ?_
   rintro ⟨n0, ⟨order0, i⟩, b2⟩ hP0
   obtain ⟨m0, y3, rfl, hm1, hl1, hr1⟩ := loop_head hP0
   unfold M.spec_ClosedSince_l0 at hm1; dsimp only at hm1
   show V _ _ _ ⟨103, [(9, .sref b2 7 0 (List.length order0)), (10, .int .i64 i), (0, .vl ρ0 7 (List.map encFile list)), (1, .int .i64 from_), (2, .int .i64 to_), (8, .sref b0 1 0 (List.length ([] : List Int)))], [(b2, ⟨7, List.map encFile order0⟩), (b0, ⟨1, List.map encInt ([] : List Int)⟩)]⟩
   refine V.seq ?_
   refine V.seq ?_
   refine V.region ?_
   refine VO.cons rfl (V1.move rfl rfl rfl lt0 ?_)
   refine VO.cons rfl (V1.move rfl rfl rfl lt0 ?_)
   refine VO.cons rfl (V1.lenMap rfl rfl rfl rfl rfl rfl isl_41 lt0 ?_)
   refine VO.cons rfl (V1.int rfl rfl rfl rfl rfl lt0 ?_)
   refine VO.nil ?_
   refine V.cond rfl (fun hc1 => ?_) (fun hc1 => ?_)
   ·
    replace hm1 := cond_t hc1 hm1
    refine V.skip ?_
    refine V.keep 103 [0, 1, 2, 8, 9, 10] [0, 1] (E0 := [(0, .vl ρ0 7 (List.map encFile list)), (1, .int .i64 from_), (2, .int .i64 to_), (8, .sref b0 1 0 (List.length ([] : List Int))), (9, .sref b2 7 0 (List.length order0)), (10, .int .i64 i)]) (H0 := [(b2, ⟨7, List.map encFile order0⟩), (b0, ⟨1, List.map encInt ([] : List Int)⟩)]) rfl (⟨_, _, rfl, rfl, _, _, rfl, rfl, _, _, rfl, rfl, _, _, rfl, rfl, _, _, rfl, rfl, _, _, rfl, rfl, rfl⟩) (⟨_, _, rfl, rfl, _, _, rfl, rfl, rfl⟩) rfl ?_
    refine V.seq ?_
    replace hm1 := bindO hm1; rcases hm1 with ⟨j0, hm2, hm1⟩
    refine V.cutT (D := (List File) × (Nat)) (fun ⟨order1, b3⟩ => ⟨103, [(9, .sref b3 7 0 (List.length order1)), (0, .vl ρ0 7 (List.map encFile list)), (1, .int .i64 from_), (2, .int .i64 to_), (8, .sref b0 1 0 (List.length ([] : List Int))), (10, .int .i64 i)], [(b3, ⟨7, List.map encFile order1⟩), (b0, ⟨1, List.map encInt ([] : List Int)⟩)]⟩) (fun ⟨order1, b3⟩ => (order1 = j0)) ?_ ?_
    ·
     refine V.block ?_
     refine V.seq ?_
     refine V.seq ?_
     replace hm2 := asrt_some hm2; rcases hm2 with ⟨hh3, hm2⟩
     replace hm2 := asrt_some hm2; rcases hm2 with ⟨hh4, hm2⟩
     replace hm2 := bindO hm2; rcases hm2 with ⟨y4, hh5, hm2⟩
     refine V.region ?_
     refine VO.cons rfl (V1.move rfl rfl rfl lt0 ?_)
     refine VO.cons rfl (V1.move rfl rfl rfl lt0 ?_)
     refine VO.cons rfl (V1.indexI rfl rfl esz_41 rfl rfl hh3 lt0 ?_)
     refine VO.cons rfl (V1.fieldPin rfl rfl fo_97_5 rfl lt0 ?_)
     refine VO.cons rfl (V1.loadPin rfl rfl tyk_3 rfl rfl lt0 ?_)
     refine VO.cons rfl (V1.int rfl rfl rfl rfl rfl lt0 ?_)
     refine VO.cons rfl (V1.move rfl rfl rfl lt0 ?_)
     apply VO.or (n := 9) rfl rfl rfl rfl rfl rfl lt0 (.none rfl)
     ·
      intro hg2
      refine VO.step (.some rfl rfl rfl) (V1.move rfl rfl rfl lt0 ?_)
      refine VO.step (.some rfl rfl rfl) (V1.move rfl rfl rfl lt0 ?_)
      refine VO.step (.some rfl rfl rfl) (V1.indexI rfl rfl esz_41 rfl rfl (hh4 hg2) lt0 ?_)
      refine VO.step (.some rfl rfl rfl) (V1.fieldPin rfl rfl fo_97_4 rfl lt0 ?_)
      refine VO.step (.some rfl rfl rfl) (V1.loadPin rfl rfl tyk_3 rfl rfl lt0 ?_)
      refine VO.step (.some rfl rfl rfl) (V1.move rfl rfl rfl lt0 ?_)
      refine VO.step (.some rfl rfl rfl) (V1.move rfl rfl rfl lt0 ?_)
      refine VO.step (.some rfl rfl rfl) (V1.call rfl rfl rfl cok_75 rfl (ok_spec_l1In (cond_f hg2 hh5)) rfl lt0 ?_)
      rintro _ _ ⟨rfl, rfl⟩
      refine VO.step (.some rfl rfl rfl) (V1.not rfl rfl rfl lt0 ?_)
      exact VO.nil ⟨rfl, rfl, rfl, rfl, .inr ⟨rfl, .inr ⟨rfl, .inr ⟨rfl, .inr ⟨rfl, .inr ⟨rfl, .inr ⟨rfl, .inr ⟨rfl, .inr ⟨rfl, .inr ⟨rfl, .inr ⟨rfl, .inl rfl⟩⟩⟩⟩⟩⟩⟩⟩⟩⟩⟩
     refine VO.nil ?_
     refine V.keep 103 [0, 1, 2, 8, 9, 10, 52] [0, 1] (E0 := [(0, .vl ρ0 7 (List.map encFile list)), (1, .int .i64 from_), (2, .int .i64 to_), (8, .sref b0 1 0 (List.length ([] : List Int))), (9, .sref b2 7 0 (List.length order0)), (10, .int .i64 i), (52, .bool ((((list.getD (Int.toNat i) default).State) == (0 : Int)) || (!y4)))]) (H0 := [(b2, ⟨7, List.map encFile order0⟩), (b0, ⟨1, List.map encInt ([] : List Int)⟩)]) rfl (⟨_, _, rfl, rfl, _, _, rfl, rfl, _, _, rfl, rfl, _, _, rfl, rfl, _, _, rfl, rfl, _, _, rfl, rfl, _, _, rfl, rfl, rfl⟩) (⟨_, _, rfl, rfl, _, _, rfl, rfl, rfl⟩) rfl ?_
     refine V.cond rfl (fun hc2 => ?_) (fun hc2 => ?_)
     ·
      replace hm2 := cond_t hc2 hm2
      refine V.exit ?_
      exact ⟨(order0, b2), Option.some.inj hm2, Keeps.mk (ks := [0, 1]) rfl ⟨rfl, rfl, rfl, rfl, rfl, rfl, trivial⟩ (⟨_, _, rfl, rfl, _, _, rfl, rfl, rfl⟩) rfl⟩
     ·
      replace hm2 := cond_f hc2 hm2
      refine V.skip ?_
      refine V.seq ?_
      refine V.region ?_
      refine VO.cons rfl (V1.move rfl rfl rfl lt0 ?_)
      refine VO.cons rfl (V1.lenSref rfl rfl rfl rfl rfl rfl isl_41 lt0 ?_)
      refine VO.cons rfl (V1.assign rfl rfl rfl lt0 ?_)
      refine VO.nil ?_
      refine V.seq ?_
      replace hm2 := bindO hm2; rcases hm2 with ⟨e1, he3, hm2⟩
      refine V.cutT (D := (Int) × (Unit)) (fun ⟨k, _⟩ => ⟨103, [(11, .int .i64 k), (0, .vl ρ0 7 (List.map encFile list)), (1, .int .i64 from_), (2, .int .i64 to_), (8, .sref b0 1 0 (List.length ([] : List Int))), (9, .sref b2 7 0 (List.length order0)), (10, .int .i64 i)], [(b2, ⟨7, List.map encFile order0⟩), (b0, ⟨1, List.map encInt ([] : List Int)⟩)]⟩) (fun ⟨k, _⟩ => (k = e1)) ?_ ?_
      ·
       refine V.block ?_
       refine V.keep 103 [11, 0, 1, 2, 8, 9, 10] [0, 1] (E0 := [(11, .int .i64 (order0.length : Int)), (0, .vl ρ0 7 (List.map encFile list)), (1, .int .i64 from_), (2, .int .i64 to_), (8, .sref b0 1 0 (List.length ([] : List Int))), (9, .sref b2 7 0 (List.length order0)), (10, .int .i64 i)]) (H0 := [(b2, ⟨7, List.map encFile order0⟩), (b0, ⟨1, List.map encInt ([] : List Int)⟩)]) rfl (⟨_, _, rfl, rfl, _, _, rfl, rfl, _, _, rfl, rfl, _, _, rfl, rfl, _, _, rfl, rfl, _, _, rfl, rfl, _, _, rfl, rfl, rfl⟩) (⟨_, _, rfl, rfl, _, _, rfl, rfl, rfl⟩) rfl ?_
       refine V.loopE (D := Nat × (Int) × (Unit)) (fun ⟨n1, k0, _⟩ => [(11, .int .i64 k0)]) (fun ⟨n1, k0, _⟩ => []) (fun ⟨n1, k0, _⟩ => loopO (M.spec_ClosedSince_l1 list order0 i) n1 k0 = some e1) (fun ⟨n1, _, _⟩ => n1) (rounds, (order0.length : Int), ()) rfl he3 ?_
       rintro ⟨n1, k0, _⟩ hP1
       obtain ⟨m1, y5, rfl, hm3, hl3, hr3⟩ := loop_head hP1
       unfold M.spec_ClosedSince_l1 at hm3; dsimp only at hm3
       show V _ _ _ ⟨103, [(11, .int .i64 k0), (0, .vl ρ0 7 (List.map encFile list)), (1, .int .i64 from_), (2, .int .i64 to_), (8, .sref b0 1 0 (List.length ([] : List Int))), (9, .sref b2 7 0 (List.length order0)), (10, .int .i64 i)], [(b2, ⟨7, List.map encFile order0⟩), (b0, ⟨1, List.map encInt ([] : List Int)⟩)]⟩
       refine V.seq ?_
       refine V.seq ?_
       replace hm3 := asrt_some hm3; rcases hm3 with ⟨hh6, hm3⟩
       replace hm3 := asrt_some hm3; rcases hm3 with ⟨hh7, hm3⟩
       refine V.regionM 103 16 [⟨[(11, none)], [], none⟩, ⟨[(55, some 0)], [], none⟩, ⟨[(56, some 0)], [], none⟩, ⟨[(9, none)], [(0, true)], none⟩, ⟨[(11, none)], [(1, true)], none⟩, ⟨[(59, some 0)], [(2, true)], none⟩, ⟨[(58, some 2), (60, some 0)], [(3, true)], none⟩, ⟨[(61, some 0)], [(4, true)], none⟩, ⟨[(62, some 0)], [(5, true)], none⟩, ⟨[(0, none)], [(6, true)], none⟩, ⟨[(10, none)], [(7, true)], none⟩, ⟨[(64, some 1), (65, some 0)], [(8, true)], none⟩, ⟨[(66, some 0)], [(9, true)], none⟩, ⟨[(67, some 0)], [(10, true)], none⟩, ⟨[(63, some 5), (68, some 0)], [(11, true)], none⟩, ⟨[], [], some (true, 57, 69, 12, 0)⟩] [(0, none), (1, none), (2, none), (8, none), (9, none), (10, none), (11, none), (70, some 0)] (⟨_, rfl, ⟨_, rfl, ⟨_, rfl, ⟨_, rfl, ⟨_, rfl, ⟨_, rfl, ⟨_, rfl, ⟨_, rfl, ⟨_, rfl, ⟨_, rfl, ⟨_, rfl, ⟨_, rfl, ⟨_, rfl, ⟨_, rfl, ⟨_, rfl, ⟨_, rfl, ⟨rfl, rfl⟩⟩⟩⟩⟩⟩⟩⟩⟩⟩⟩⟩⟩⟩⟩⟩⟩) mixed_orders rfl (by decide +kernel) (fun hck10 => ?_)
       refine VP.step (p := ?pv1010) rfl rfl rfl (⟨_, _, rfl, rfl, rfl⟩) ?hv1010 ?rest1010 hck10
       case hv1010 =>
        intro E1
        refine (V1.move rfl rfl rfl lt0 ?_)
        exact rfl
       refine VP.step (p := ?pv1011) rfl rfl rfl (⟨_, _, rfl, rfl, rfl⟩) ?hv1011 ?rest1011 hck10
       case hv1011 =>
        intro E1
        refine (V1.int rfl rfl rfl rfl rfl lt0 ?_)
        exact rfl
       refine VP.step (p := ?pv1012) rfl rfl rfl (⟨_, _, rfl, rfl, rfl⟩) ?hv1012 ?rest1012 hck10
       case hv1012 =>
        intro E1
        refine (V1.move rfl rfl rfl lt0 ?_)
        exact rfl
       refine VP.step (p := ?pv1013) rfl rfl rfl (⟨_, _, rfl, rfl, rfl⟩) ?hv1013 ?rest1013 hck10
       case hv1013 =>
        refine ⟨_, rfl, fun hg3 => ?_⟩
        intro E1
        refine (V1.move rfl rfl rfl lt0 ?_)
        exact rfl
       refine VP.step (p := ?pv1014) rfl rfl rfl (⟨_, _, rfl, rfl, rfl⟩) ?hv1014 ?rest1014 hck10
       case hv1014 =>
        refine ⟨_, rfl, fun hg3 => ?_⟩
        intro E1
        refine (V1.move rfl rfl rfl lt0 ?_)
        exact rfl
       refine VP.step (p := ?pv1015) rfl rfl rfl (⟨_, _, rfl, rfl, rfl⟩) ?hv1015 ?rest1015 hck10
       case hv1015 =>
        refine ⟨_, rfl, fun hg3 => ?_⟩
        intro E1
        refine (V1.int rfl rfl rfl rfl rfl lt0 ?_)
        exact rfl
       refine VP.step (p := ?pv1016) rfl rfl rfl (⟨_, _, rfl, rfl, _, _, rfl, rfl, rfl⟩) ?hv1016 ?rest1016 hck10
       case hv1016 =>
        refine ⟨_, rfl, fun hg3 => ?_⟩
        intro E1
        refine (V1.indexSr rfl rfl esz_41 rfl rfl (hh6 hg3) lt0 ?_)
        exact rfl
       refine VP.step (p := ?pv1017) rfl rfl rfl (⟨_, _, rfl, rfl, rfl⟩) ?hv1017 ?rest1017 hck10
       case hv1017 =>
        refine ⟨_, rfl, fun hg3 => ?_⟩
        intro E1
        refine (V1.fieldRef rfl rfl fo_97_4 rfl lt0 ?_)
        exact rfl
       refine VP.step (p := ?pv1018) rfl rfl rfl (⟨_, _, rfl, rfl, rfl⟩) ?hv1018 ?rest1018 hck10
       case hv1018 =>
        refine ⟨_, rfl, fun hg3 => ?_⟩
        intro E1
        refine (V1.loadMap (k := 0) (f := encFile) rfl rfl tyk_3 rfl rfl (by simpa using natLt (hh6 hg3).1 (hh6 hg3).2) rfl lt0 ?_)
        exact rfl
       refine VP.step (p := ?pv1019) rfl rfl rfl (⟨_, _, rfl, rfl, rfl⟩) ?hv1019 ?rest1019 hck10
       case hv1019 =>
        refine ⟨_, rfl, fun hg3 => ?_⟩
        intro E1
        refine (V1.move rfl rfl rfl lt0 ?_)
        exact rfl
       refine VP.step (p := ?pv1020) rfl rfl rfl (⟨_, _, rfl, rfl, rfl⟩) ?hv1020 ?rest1020 hck10
       case hv1020 =>
        refine ⟨_, rfl, fun hg3 => ?_⟩
        intro E1
        refine (V1.move rfl rfl rfl lt0 ?_)
        exact rfl
       refine VP.step (p := ?pv1021) rfl rfl rfl (⟨_, _, rfl, rfl, _, _, rfl, rfl, rfl⟩) ?hv1021 ?rest1021 hck10
       case hv1021 =>
        refine ⟨_, rfl, fun hg3 => ?_⟩
        intro E1
        refine (V1.indexI rfl rfl esz_41 rfl rfl (hh7 hg3) lt0 ?_)
        exact rfl
       refine VP.step (p := ?pv1022) rfl rfl rfl (⟨_, _, rfl, rfl, rfl⟩) ?hv1022 ?rest1022 hck10
       case hv1022 =>
        refine ⟨_, rfl, fun hg3 => ?_⟩
        intro E1
        refine (V1.fieldPin rfl rfl fo_97_4 rfl lt0 ?_)
        exact rfl
       refine VP.step (p := ?pv1023) rfl rfl rfl (⟨_, _, rfl, rfl, rfl⟩) ?hv1023 ?rest1023 hck10
       case hv1023 =>
        refine ⟨_, rfl, fun hg3 => ?_⟩
        intro E1
        refine (V1.loadPin rfl rfl tyk_3 rfl rfl lt0 ?_)
        exact rfl
       refine VP.step (p := ?pv1024) rfl rfl rfl (⟨_, _, rfl, rfl, _, _, rfl, rfl, rfl⟩) ?hv1024 ?rest1024 hck10
       case hv1024 =>
        refine ⟨_, rfl, fun hg3 => ?_⟩
        intro E1
        refine (V1.int rfl rfl rfl rfl rfl lt0 ?_)
        exact rfl
       refine VP.pickAnd rfl rfl rfl rfl rfl rfl (trivial) ?_ hck10
       refine VP.fin rfl (⟨_, _, rfl, rfl, _, _, rfl, rfl, _, _, rfl, rfl, _, _, rfl, rfl, _, _, rfl, rfl, _, _, rfl, rfl, _, _, rfl, rfl, _, _, rfl, rfl, rfl⟩) ?_
       refine VO.nil ?_
       refine V.cond rfl (fun hc3 => ?_) (fun hc3 => ?_)
       ·
        replace hm3 := cond_t hc3 hm3
        refine V.skip ?_
        refine V.block ?_
        refine V.region ?_
        refine VO.cons rfl (V1.move rfl rfl rfl lt0 ?_)
        refine VO.cons rfl (V1.int rfl rfl rfl rfl rfl lt0 ?_)
        refine VO.cons rfl (V1.assign rfl rfl rfl lt0 ?_)
        refine VO.nil ?_
        exact ⟨(m1, (IntKind.i64.wrap (k0 - (1 : Int))), ()), hl3 _ (Option.some.inj hm3).symm, Nat.lt_succ_self _, Keeps.mk (ks := [0, 1]) rfl ⟨rfl, rfl, rfl, rfl, rfl, rfl, rfl, trivial⟩ (⟨_, _, rfl, rfl, _, _, rfl, rfl, rfl⟩) rfl⟩
       ·
        replace hm3 := cond_f hc3 hm3
        refine V.exit ?_
        obtain rfl := hr3 _ (Option.some.inj hm3).symm
        exact ⟨(k0, ()), rfl, Keeps.mk (ks := [0, 1]) rfl ⟨rfl, rfl, rfl, rfl, rfl, rfl, rfl, trivial⟩ (⟨_, _, rfl, rfl, _, _, rfl, rfl, rfl⟩) rfl⟩
      ·
       rintro ⟨k, _⟩ rfl
       try dsimp only at hm2
       refine V.weakenK (Keeps.freezeG 0 rn [(9, .vl rn 7 (List.map encFile order0))] ([(b0, ⟨1, List.map encInt ([] : List Int)⟩)]) (f := encFile) (l := order0) rfl (fun _ => rfl) ⟨⟨_, rfl, .here⟩, trivial⟩ ⟨_, _, rfl, rfl, .inl rfl, rfl⟩ rfl iNil) ?_
       replace hm2 := asrt_some hm2; rcases hm2 with ⟨hh8, hm2⟩
       replace hm2 := asrt_some hm2; rcases hm2 with ⟨hh9, hm2⟩
       replace hm2 := asrt_some hm2; rcases hm2 with ⟨hh10, hm2⟩
       replace hm2 := asrt_some hm2; rcases hm2 with ⟨hh11, hm2⟩
       replace hm2 := asrt_some hm2; rcases hm2 with ⟨hh12, hm2⟩
       replace hm2 := asrt_some hm2; rcases hm2 with ⟨hh13, hm2⟩
       refine V.regionS [] 103 14 [⟨[], true⟩, ⟨[(9, none)], false⟩, ⟨[(11, none)], false⟩, ⟨[(74, some 1), (75, some 2)], false⟩, ⟨[(73, some 0), (76, some 3)], true⟩, ⟨[(0, none)], false⟩, ⟨[(10, none)], false⟩, ⟨[(78, some 5), (79, some 6)], false⟩, ⟨[(80, some 7)], false⟩, ⟨[(81, some 8)], false⟩, ⟨[(77, some 4), (82, some 9)], true⟩, ⟨[(9, none)], false⟩, ⟨[(11, none)], false⟩, ⟨[(84, some 11), (85, some 12)], false⟩] [(0, none), (1, none), (2, none), (8, none), (10, none), (83, some 10), (86, some 13)] 3 (⟨_, rfl, ⟨_, rfl, ⟨_, rfl, ⟨_, rfl, ⟨_, rfl, ⟨_, rfl, ⟨_, rfl, ⟨_, rfl, ⟨_, rfl, ⟨_, rfl, ⟨_, rfl, ⟨_, rfl, ⟨_, rfl, ⟨_, rfl, ⟨rfl, rfl⟩⟩⟩⟩⟩⟩⟩⟩⟩⟩⟩⟩⟩⟩⟩) mixed_orders rfl (by decide +kernel) ?_
       refine WalkP.step (p := ?pv1025) 1 rfl rfl rfl rfl rfl (⟨_, _, rfl, rfl, rfl⟩) ?hv1025 ?rest1025
       case hv1025 =>
        intro E1 H1 hI1
        refine (V1.move rfl rfl rfl lt0 ?_)
        exact rfl
       refine WalkP.step (p := ?pv1026) 2 rfl rfl rfl rfl rfl (⟨_, _, rfl, rfl, rfl⟩) ?hv1026 ?rest1026
       case hv1026 =>
        intro E1 H1 hI1
        refine (V1.move rfl rfl rfl lt0 ?_)
        exact rfl
       refine WalkP.step (p := ?pv1027) 3 rfl rfl rfl rfl rfl (⟨_, _, rfl, rfl, _, _, rfl, rfl, rfl⟩) ?hv1027 ?rest1027
       case hv1027 =>
        intro E1 H1 hI1
        refine (V1.sliceMap (a := (0 : Int)) (b := k) rfl rfl esz_41 rfl (Bnd.none _ _) (Bnd.some rfl (Int.le_trans hh8.1 hh8.2.1) _) hh8 lt0 ?_)
        exact rfl
       refine WalkP.step (p := ?pv1028) 5 rfl rfl rfl rfl rfl (⟨_, _, rfl, rfl, rfl⟩) ?hv1028 ?rest1028
       case hv1028 =>
        intro E1 H1 hI1
        refine (V1.move rfl rfl rfl lt0 ?_)
        exact rfl
       refine WalkP.step (p := ?pv1029) 6 rfl rfl rfl rfl rfl (⟨_, _, rfl, rfl, rfl⟩) ?hv1029 ?rest1029
       case hv1029 =>
        intro E1 H1 hI1
        refine (V1.move rfl rfl rfl lt0 ?_)
        exact rfl
       refine WalkP.step (p := ?pv1030) 7 rfl rfl rfl rfl rfl (⟨_, _, rfl, rfl, _, _, rfl, rfl, rfl⟩) ?hv1030 ?rest1030
       case hv1030 =>
        intro E1 H1 hI1
        refine (V1.indexI rfl rfl esz_41 rfl rfl hh10 lt0 ?_)
        exact rfl
       refine WalkP.step (p := ?pv1031) 8 rfl rfl rfl rfl rfl (⟨_, _, rfl, rfl, rfl⟩) ?hv1031 ?rest1031
       case hv1031 =>
        intro E1 H1 hI1
        refine (V1.loadPinAll rfl rfl tyk_97 rfl rfl lt0 ?_)
        exact rfl
       refine WalkP.step (p := ?pv1032) 9 rfl rfl rfl rfl rfl (⟨_, _, rfl, rfl, rfl⟩) ?hv1032 ?rest1032
       case hv1032 =>
        intro E1 H1 hI1
        refine (V1.buildFrz (f := encFile) ([(list.getD (Int.toNat i) default)] : List File) (fun _ => rfl) iNil rfl rfl esz_41 zk_97 rfl rfl rfl rfl rfl rfl rfl lt0 ?_)
        exact rfl
       refine WalkP.step (p := ?pv1033) 11 rfl rfl rfl rfl rfl (⟨_, _, rfl, rfl, rfl⟩) ?hv1033 ?rest1033
       case hv1033 =>
        intro E1 H1 hI1
        refine (V1.move rfl rfl rfl lt0 ?_)
        exact rfl
       refine WalkP.step (p := ?pv1034) 12 rfl rfl rfl rfl rfl (⟨_, _, rfl, rfl, rfl⟩) ?hv1034 ?rest1034
       case hv1034 =>
        intro E1 H1 hI1
        refine (V1.move rfl rfl rfl lt0 ?_)
        exact rfl
       refine WalkP.step (p := ?pv1035) 13 rfl rfl rfl rfl rfl (⟨_, _, rfl, rfl, _, _, rfl, rfl, rfl⟩) ?hv1035 ?rest1035
       case hv1035 =>
        intro E1 H1 hI1
        refine (V1.sliceMap (a := k) (b := (order0.length : Int)) rfl rfl esz_41 rfl (Bnd.some rfl hh12.1 _) (Bnd.none _ _) hh12 lt0 ?_)
        exact rfl
       refine WalkP.nil ?_
       refine NodeS.branch [0] inNil rfl rfl rfl ⟨?_, trivial⟩
       ·
        refine ⟨_, _, _, _, rfl, rfl, rfl, (rfl), fun E1 => ?_⟩
        refine (V1.buildSliceT (f := encFile) ([] : List File) rfl rfl esz_41 zk_97 rfl rfl rfl rfl rfl rfl rfl lt0 ?_)
        intro b10
        refine ⟨_, _, rfl, ?_⟩
        refine WalkP.nil ?_
        refine NodeS.branch [4] inNil rfl rfl rfl ⟨?_, trivial⟩
        ·
         refine ⟨_, _, _, _, rfl, rfl, rfl, (⟨_, _, rfl, rfl, _, _, rfl, rfl, rfl⟩), fun E1 => ?_⟩
         refine (V1.appendMap (k := 0) (f := encFile) (l := ([] : List File)) (m := (slc order0 (0 : Int) k)) rfl rfl rfl rfl rfl esz_41 eby_41 zk_97 rfl rfl rfl (.vl isl_41) hh9 lt0 ?_)
         intro b11
         refine ⟨_, _, rfl, ?_⟩
         refine WalkP.nil ?_
         refine NodeS.branch [10] inNil rfl rfl rfl ⟨?_, trivial⟩
         ·
          refine ⟨_, _, _, _, rfl, rfl, rfl, (⟨_, _, rfl, rfl, _, _, rfl, rfl, rfl⟩), fun E1 => ?_⟩
          refine (V1.appendMap (k := 0) (f := encFile) (l := (([] : List File) ++ (slc order0 (0 : Int) k))) (m := ([(list.getD (Int.toNat i) default)] : List File)) rfl rfl rfl rfl rfl esz_41 eby_41 zk_97 rfl rfl rfl (.vl isl_41) hh11 lt0 ?_)
          intro b12
          refine ⟨_, _, rfl, ?_⟩
          refine WalkP.nil ?_
          refine NodeS.fin inNil rfl rfl rfl (⟨_, _, rfl, rfl, _, _, rfl, rfl, _, _, rfl, rfl, _, _, rfl, rfl, _, _, rfl, rfl, _, _, rfl, rfl, _, _, rfl, rfl, rfl⟩) ?_
          refine VO.cons rfl (V1.appendMap (k := 0) (f := encFile) (l := ((([] : List File) ++ (slc order0 (0 : Int) k)) ++ ([(list.getD (Int.toNat i) default)] : List File))) (m := (slc order0 k (order0.length : Int))) rfl rfl rfl rfl rfl esz_41 eby_41 zk_97 rfl rfl rfl (.vl isl_41) hh13 lt0 ?_)
          intro b13
          refine VO.cons rfl (V1.assign rfl rfl rfl lt0 ?_)
          refine VO.nil ?_
          exact ⟨((((([] : List File) ++ (slc order0 (0 : Int) k)) ++ ([(list.getD (Int.toNat i) default)] : List File)) ++ (slc order0 k (order0.length : Int))), b13), Option.some.inj hm2, Keeps.mk (ks := [0, 1]) rfl ⟨rfl, rfl, rfl, rfl, rfl, rfl, trivial⟩ (⟨_, _, rfl, rfl, _, _, rfl, rfl, rfl⟩) rfl⟩
    ·
     rintro ⟨order1, b3⟩ rfl
     try dsimp only at hm1
     refine V.region ?_
     refine VO.cons rfl (V1.move rfl rfl rfl lt0 ?_)
     refine VO.cons rfl (V1.int rfl rfl rfl rfl rfl lt0 ?_)
     refine VO.cons rfl (V1.assign rfl rfl rfl lt0 ?_)
     refine VO.nil ?_
     exact ⟨(m0, (order1, (IntKind.i64.wrap (i + (1 : Int)))), b3), hl1 _ (Option.some.inj hm1).symm, Nat.lt_succ_self _, Keeps.mk (ks := [0, 1]) rfl ⟨rfl, rfl, rfl, rfl, rfl, rfl, trivial⟩ (⟨_, _, rfl, rfl, _, _, rfl, rfl, rfl⟩) rfl⟩
   ·
    replace hm1 := cond_f hc1 hm1
    refine V.exit ?_
    obtain rfl := hr1 _ (Option.some.inj hm1).symm
    exact ⟨(order0, ()), rfl, Keeps.trans (Keeps.freezeG 0 rn [(9, .vl rn 7 (List.map encFile order0))] ([(b0, ⟨1, List.map encInt ([] : List Int)⟩)]) (f := encFile) (l := order0) rfl (fun _ => rfl) ⟨⟨_, rfl, .here⟩, trivial⟩ ⟨_, _, rfl, rfl, .inl rfl, rfl⟩ rfl iNil) (Keeps.mk (ks := [0]) rfl ⟨rfl, rfl, trivial⟩ (⟨_, _, rfl, rfl, rfl⟩) rfl)⟩
  ·
   rintro ⟨order, _⟩ rfl
   try dsimp only at hm0
   refine V.seq ?_
   refine V.seq ?_
   refine V.region ?_
   refine VO.cons rfl (V1.assign rfl rfl rfl lt0 ?_)
   refine VO.nil ?_
   replace hm0 := bindO hm0; rcases hm0 with ⟨e2, he1, hm0⟩
   refine V.cutT (D := (List Int) × (Nat)) (fun ⟨out_, b14⟩ => ⟨103, [(8, .sref b14 1 0 (List.length out_))], [(b14, ⟨1, List.map encInt out_⟩)]⟩) (fun ⟨out_, b14⟩ => (out_ = e2)) ?_ ?_
   ·
    refine V.block ?_
    refine V.keep 103 [8, 12, 9] [0] (E0 := [(8, .sref b0 1 0 (List.length ([] : List Int))), (12, .int .i64 (0 : Int)), (9, .vl rn 7 (List.map encFile order))]) (H0 := [(b0, ⟨1, List.map encInt ([] : List Int)⟩)]) rfl (⟨_, _, rfl, rfl, _, _, rfl, rfl, _, _, rfl, rfl, rfl⟩) (⟨_, _, rfl, rfl, rfl⟩) rfl ?_
    refine V.loopE (D := Nat × (List Int × Int) × (Nat)) (fun ⟨n2, ⟨out_0, i0⟩, b15⟩ => [(8, .sref b15 1 0 (List.length out_0)), (12, .int .i64 i0)]) (fun ⟨n2, ⟨out_0, i0⟩, b15⟩ => [(b15, ⟨1, List.map encInt out_0⟩)]) (fun ⟨n2, ⟨out_0, i0⟩, b15⟩ => loopO (M.spec_ClosedSince_l2 order) n2 (out_0, i0) = some e2) (fun ⟨n2, _, _⟩ => n2) (rounds, (([] : List Int), (0 : Int)), b0) rfl he1 ?_
    rintro ⟨n2, ⟨out_0, i0⟩, b15⟩ hP2
    obtain ⟨m2, y6, rfl, hm1, hl1, hr1⟩ := loop_head hP2
    unfold M.spec_ClosedSince_l2 at hm1; dsimp only at hm1
    show V _ _ _ ⟨103, [(8, .sref b15 1 0 (List.length out_0)), (12, .int .i64 i0), (9, .vl rn 7 (List.map encFile order))], [(b15, ⟨1, List.map encInt out_0⟩)]⟩
    refine V.seq ?_
    refine V.seq ?_
    refine V.region ?_
    refine VO.cons rfl (V1.move rfl rfl rfl lt0 ?_)
    refine VO.cons rfl (V1.move rfl rfl rfl lt0 ?_)
    refine VO.cons rfl (V1.lenMap rfl rfl rfl rfl rfl rfl isl_41 lt0 ?_)
    refine VO.cons rfl (V1.int rfl rfl rfl rfl rfl lt0 ?_)
    refine VO.nil ?_
    refine V.cond rfl (fun hc4 => ?_) (fun hc4 => ?_)
    ·
     replace hm1 := cond_t hc4 hm1
     refine V.skip ?_
     refine V.keep 103 [8, 9, 12] [0] (E0 := [(8, .sref b15 1 0 (List.length out_0)), (9, .vl rn 7 (List.map encFile order)), (12, .int .i64 i0)]) (H0 := [(b15, ⟨1, List.map encInt out_0⟩)]) rfl (⟨_, _, rfl, rfl, _, _, rfl, rfl, _, _, rfl, rfl, rfl⟩) (⟨_, _, rfl, rfl, rfl⟩) rfl ?_
     refine V.seq ?_
     refine V.block ?_
     replace hm1 := asrt_some hm1; rcases hm1 with ⟨hh14, hm1⟩
     replace hm1 := asrt_some hm1; rcases hm1 with ⟨hh15, hm1⟩
     refine V.region ?_
     refine VO.cons rfl (V1.move rfl rfl rfl lt0 ?_)
     refine VO.cons rfl (V1.move rfl rfl rfl lt0 ?_)
     refine VO.cons rfl (V1.move rfl rfl rfl lt0 ?_)
     refine VO.cons rfl (V1.indexI rfl rfl esz_41 rfl rfl hh14 lt0 ?_)
     refine VO.cons rfl (V1.fieldPin rfl rfl fo_97_0 rfl lt0 ?_)
     refine VO.cons rfl (V1.loadPin rfl rfl tyk_3 rfl rfl lt0 ?_)
     refine VO.cons rfl (V1.buildSliceT (f := encInt) ([(order.getD (Int.toNat i0) default).Id] : List Int) rfl rfl esz_27 zk_3 rfl rfl rfl rfl rfl rfl rfl lt0 ?_)
     intro b16
     refine VO.cons rfl (V1.appendMap (k := 1) (f := encInt) (l := out_0) (m := ([(order.getD (Int.toNat i0) default).Id] : List Int)) rfl rfl rfl rfl rfl esz_27 eby_27 zk_3 rfl rfl rfl (SrcOf.srMap (k := 0) rfl isl_27) hh15 lt0 ?_)
     intro b17
     refine VO.cons rfl (V1.assign rfl rfl rfl lt0 ?_)
     refine VO.nil ?_
     refine V.keep 103 [8, 9, 12] [0] (E0 := [(8, .sref b17 1 0 (List.length (out_0 ++ ([(order.getD (Int.toNat i0) default).Id] : List Int)))), (9, .vl rn 7 (List.map encFile order)), (12, .int .i64 i0)]) (H0 := [(b17, ⟨1, List.map encInt (out_0 ++ ([(order.getD (Int.toNat i0) default).Id] : List Int))⟩)]) rfl (⟨_, _, rfl, rfl, _, _, rfl, rfl, _, _, rfl, rfl, rfl⟩) (⟨_, _, rfl, rfl, rfl⟩) rfl ?_
     refine V.region ?_
     refine VO.cons rfl (V1.move rfl rfl rfl lt0 ?_)
     refine VO.cons rfl (V1.int rfl rfl rfl rfl rfl lt0 ?_)
     refine VO.cons rfl (V1.assign rfl rfl rfl lt0 ?_)
     refine VO.nil ?_
     exact ⟨(m2, ((out_0 ++ ([(order.getD (Int.toNat i0) default).Id] : List Int)), (IntKind.i64.wrap (i0 + (1 : Int)))), b17), hl1 _ (Option.some.inj hm1).symm, Nat.lt_succ_self _, Keeps.mk (ks := [0]) rfl ⟨rfl, rfl, rfl, trivial⟩ (⟨_, _, rfl, rfl, rfl⟩) rfl⟩
    ·
     replace hm1 := cond_f hc4 hm1
     refine V.exit ?_
     obtain rfl := hr1 _ (Option.some.inj hm1).symm
     exact ⟨(out_0, b15), rfl, Keeps.mk (ks := [0]) rfl ⟨rfl, trivial⟩ (⟨_, _, rfl, rfl, rfl⟩) rfl⟩
   ·
    rintro ⟨out_, b14⟩ rfl
    try dsimp only at hm0
    refine V.seq ?_
    refine V.region ?_
    refine VO.cons rfl (V1.move rfl rfl rfl lt0 ?_)
    refine VO.cons rfl (V1.assign rfl rfl rfl lt0 ?_)
    refine VO.cons rfl (V1.assign rfl rfl rfl lt0 ?_)
    refine VO.nil ?_
    refine V.keep 103 [6, 7] [0] (E0 := [(6, .sref b14 1 0 (List.length out_)), (7, .bool true)]) (H0 := [(b14, ⟨1, List.map encInt out_⟩)]) rfl (⟨_, _, rfl, rfl, _, _, rfl, rfl, rfl⟩) (⟨_, _, rfl, rfl, rfl⟩) rfl ?_
    refine V.ret ?_
    obtain rfl := Option.some.inj hm0
    exact ⟨_, _, ⟨_, _, rfl, rfl, _, _, rfl, rfl, rfl⟩, List.Sublist.refl _, b14, rfl, rfl⟩

theorem ok_laws_rInts {ρ0 ρ1 rn : Nat} {a : List Int} {b_ : List Int} {r : Bool} (h : M.laws_rInts a b_ = some r) : Does Tryd.prog 10 [.vl ρ0 1 (List.map encInt a), .vl ρ1 1 (List.map encInt b_)] [] rn (fun x H => x = .bool r ∧ H = []) := by
 have hm0 := h; clear h; unfold M.laws_rInts at hm0
 try dsimp only at hm0
 refine Does.intro (N := 26) Tryd.func10 rfl rfl rfl rfl ?_
 intro w0 S0 L0
 refine V.seq ?_
 refine V.region ?_
 refine VO.cons rfl (V1.assign rfl rfl rfl lt0 ?_)
 refine VO.nil ?_
 refine V.seq ?_
 refine V.seq ?_
 refine V.region ?_
 refine VO.cons rfl (V1.move rfl rfl rfl lt0 ?_)
 refine VO.cons rfl (V1.lenMap rfl rfl rfl rfl rfl rfl isl_27 lt0 ?_)
 refine VO.cons rfl (V1.move rfl rfl rfl lt0 ?_)
 refine VO.cons rfl (V1.lenMap rfl rfl rfl rfl rfl rfl isl_27 lt0 ?_)
 refine VO.cons rfl (V1.int rfl rfl rfl rfl rfl lt0 ?_)
 refine VO.nil ?_
 refine V.keep 26 [0, 1, 10] [] (E0 := [(0, .vl ρ0 1 (List.map encInt a)), (1, .vl ρ1 1 (List.map encInt b_)), (10, .bool ((a.length : Int) != (b_.length : Int)))]) (H0 := []) rfl (⟨_, _, rfl, rfl, _, _, rfl, rfl, _, _, rfl, rfl, rfl⟩) (rfl) rfl ?_
 refine V.cond rfl (fun hc0 => ?_) (fun hc0 => ?_)
 ·
  replace hm0 := cond_t hc0 hm0
  refine V.seq ?_
  refine V.region ?_
  refine VO.cons rfl (V1.assign rfl rfl rfl lt0 ?_)
  refine VO.nil ?_
  refine V.ret ?_
  obtain rfl := Option.some.inj hm0
  exact ⟨_, [], ⟨_, _, rfl, rfl, rfl⟩, List.nil_sublist _, rfl, rfl⟩
 ·
  replace hm0 := cond_f hc0 hm0
  refine V.skip ?_
  refine V.seq ?_
  refine V.seq ?_
  refine V.region ?_
  refine VO.cons rfl (V1.assign rfl rfl rfl lt0 ?_)
  refine VO.nil ?_
  replace hm0 := bindO hm0; rcases hm0 with ⟨e0, he1, hm0⟩
  refine V.cutT (D := (Unit) × (Unit)) (fun ⟨_, _⟩ => ⟨26, [], []⟩) (fun ⟨_, _⟩ => (.inl () = e0)) ?_ ?_
  ·
   refine V.block ?_
   refine V.keep 26 [5, 0, 1] [] (E0 := [(5, .int .i64 (0 : Int)), (0, .vl ρ0 1 (List.map encInt a)), (1, .vl ρ1 1 (List.map encInt b_))]) (H0 := []) rfl (⟨_, _, rfl, rfl, _, _, rfl, rfl, _, _, rfl, rfl, rfl⟩) (rfl) rfl ?_
   refine V.loopE (D := Nat × (Int) × (Unit)) (fun ⟨n0, i, _⟩ => [(5, .int .i64 i)]) (fun ⟨n0, i, _⟩ => []) (fun ⟨n0, i, _⟩ => loopO (M.laws_rInts_l0 a b_) n0 i = some e0) (fun ⟨n0, _, _⟩ => n0) (rounds, (0 : Int), ()) rfl he1 ?_
   rintro ⟨n0, i, _⟩ hP0
   obtain ⟨m0, y0, rfl, hm1, hl1, hr1⟩ := loop_head hP0
   unfold M.laws_rInts_l0 at hm1; dsimp only at hm1
   show V _ _ _ ⟨26, [(5, .int .i64 i), (0, .vl ρ0 1 (List.map encInt a)), (1, .vl ρ1 1 (List.map encInt b_))], []⟩
   refine V.seq ?_
   refine V.seq ?_
   refine V.region ?_
   refine VO.cons rfl (V1.move rfl rfl rfl lt0 ?_)
   refine VO.cons rfl (V1.move rfl rfl rfl lt0 ?_)
   refine VO.cons rfl (V1.lenMap rfl rfl rfl rfl rfl rfl isl_27 lt0 ?_)
   refine VO.cons rfl (V1.int rfl rfl rfl rfl rfl lt0 ?_)
   refine VO.nil ?_
   refine V.cond rfl (fun hc1 => ?_) (fun hc1 => ?_)
   ·
    replace hm1 := cond_t hc1 hm1
    refine V.skip ?_
    refine V.keep 26 [0, 1, 5] [] (E0 := [(0, .vl ρ0 1 (List.map encInt a)), (1, .vl ρ1 1 (List.map encInt b_)), (5, .int .i64 i)]) (H0 := []) rfl (⟨_, _, rfl, rfl, _, _, rfl, rfl, _, _, rfl, rfl, rfl⟩) (rfl) rfl ?_
    refine V.seq ?_
    refine V.block ?_
    refine V.seq ?_
    replace hm1 := asrt_some hm1; rcases hm1 with ⟨hh0, hm1⟩
    replace hm1 := asrt_some hm1; rcases hm1 with ⟨hh1, hm1⟩
    refine V.regionM 26 8 [⟨[(0, none)], [], none⟩, ⟨[(5, none)], [], none⟩, ⟨[(17, some 1), (18, some 0)], [], none⟩, ⟨[(19, some 0)], [], none⟩, ⟨[(1, none)], [], none⟩, ⟨[(5, none)], [], none⟩, ⟨[(21, some 1), (22, some 0)], [], none⟩, ⟨[(23, some 0)], [], none⟩] [(0, none), (1, none), (5, none), (20, some 4), (24, some 0)] (⟨_, rfl, ⟨_, rfl, ⟨_, rfl, ⟨_, rfl, ⟨_, rfl, ⟨_, rfl, ⟨_, rfl, ⟨_, rfl, ⟨rfl, rfl⟩⟩⟩⟩⟩⟩⟩⟩⟩) mixed_orders rfl (by decide +kernel) (fun hck6 => ?_)
    refine VP.step (p := ?pv65) rfl rfl rfl (⟨_, _, rfl, rfl, rfl⟩) ?hv65 ?rest65 hck6
    case hv65 =>
     intro E1
     refine (V1.move rfl rfl rfl lt0 ?_)
     exact rfl
    refine VP.step (p := ?pv66) rfl rfl rfl (⟨_, _, rfl, rfl, rfl⟩) ?hv66 ?rest66 hck6
    case hv66 =>
     intro E1
     refine (V1.move rfl rfl rfl lt0 ?_)
     exact rfl
    refine VP.step (p := ?pv67) rfl rfl rfl (⟨_, _, rfl, rfl, _, _, rfl, rfl, rfl⟩) ?hv67 ?rest67 hck6
    case hv67 =>
     intro E1
     refine (V1.indexI rfl rfl esz_27 rfl rfl hh0 lt0 ?_)
     exact rfl
    refine VP.step (p := ?pv68) rfl rfl rfl (⟨_, _, rfl, rfl, rfl⟩) ?hv68 ?rest68 hck6
    case hv68 =>
     intro E1
     refine (V1.loadPin rfl rfl tyk_3 rfl rfl lt0 ?_)
     exact rfl
    refine VP.step (p := ?pv69) rfl rfl rfl (⟨_, _, rfl, rfl, rfl⟩) ?hv69 ?rest69 hck6
    case hv69 =>
     intro E1
     refine (V1.move rfl rfl rfl lt0 ?_)
     exact rfl
    refine VP.step (p := ?pv70) rfl rfl rfl (⟨_, _, rfl, rfl, rfl⟩) ?hv70 ?rest70 hck6
    case hv70 =>
     intro E1
     refine (V1.move rfl rfl rfl lt0 ?_)
     exact rfl
    refine VP.step (p := ?pv71) rfl rfl rfl (⟨_, _, rfl, rfl, _, _, rfl, rfl, rfl⟩) ?hv71 ?rest71 hck6
    case hv71 =>
     intro E1
     refine (V1.indexI rfl rfl esz_27 rfl rfl hh1 lt0 ?_)
     exact rfl
    refine VP.step (p := ?pv72) rfl rfl rfl (⟨_, _, rfl, rfl, rfl⟩) ?hv72 ?rest72 hck6
    case hv72 =>
     intro E1
     refine (V1.loadPin rfl rfl tyk_3 rfl rfl lt0 ?_)
     exact rfl
    refine VP.fin rfl (⟨_, _, rfl, rfl, _, _, rfl, rfl, _, _, rfl, rfl, _, _, rfl, rfl, _, _, rfl, rfl, rfl⟩) ?_
    refine VO.cons rfl (V1.int rfl rfl rfl rfl rfl lt0 ?_)
    refine VO.nil ?_
    refine V.cond rfl (fun hc2 => ?_) (fun hc2 => ?_)
    ·
     replace hm1 := cond_t hc2 hm1
     refine V.seq ?_
     refine V.region ?_
     refine VO.cons rfl (V1.assign rfl rfl rfl lt0 ?_)
     refine VO.nil ?_
     refine V.ret ?_
     obtain rfl := hr1 _ (Option.some.inj hm1).symm
     change some _ = some _ at hm0
     obtain rfl := Option.some.inj hm0
     exact ⟨_, [], ⟨_, _, rfl, rfl, rfl⟩, List.nil_sublist _, rfl, rfl⟩
    ·
     replace hm1 := cond_f hc2 hm1
     refine V.skip ?_
     refine V.region ?_
     refine VO.cons rfl (V1.move rfl rfl rfl lt0 ?_)
     refine VO.cons rfl (V1.int rfl rfl rfl rfl rfl lt0 ?_)
     refine VO.cons rfl (V1.assign rfl rfl rfl lt0 ?_)
     refine VO.nil ?_
     exact ⟨(m0, (IntKind.i64.wrap (i + (1 : Int))), ()), hl1 _ (Option.some.inj hm1).symm, Nat.lt_succ_self _, Keeps.mk (ks := []) rfl ⟨rfl, rfl, rfl, trivial⟩ (rfl) rfl⟩
   ·
    replace hm1 := cond_f hc1 hm1
    refine V.exit ?_
    obtain rfl := hr1 _ (Option.some.inj hm1).symm
    exact ⟨((), ()), rfl, Keeps.mk (ks := []) rfl trivial (rfl) rfl⟩
  ·
   rintro ⟨_, _⟩ rfl
   try dsimp only at hm0
   refine V.seq ?_
   refine V.region ?_
   refine VO.cons rfl (V1.assign rfl rfl rfl lt0 ?_)
   refine VO.nil ?_
   refine V.ret ?_
   obtain rfl := Option.some.inj hm0
   exact ⟨_, [], ⟨_, _, rfl, rfl, rfl⟩, List.nil_sublist _, rfl, rfl⟩

theorem ok_spec_DrawAddPages {ρ0 rn : Nat} {code : List Int} {r : List File × Int × Int} (h : M.spec_DrawAddPages code = some r) : Does Tryd.prog 29 [.vl ρ0 1 (List.map encU8 code)] [] rn (fun x H => ∃ (ob0_ : Nat), x = .tup [PV.sref ob0_ 7 0 (List.length r.1), .int .i64 r.2.1, .int .i64 r.2.2] ∧ H = [(ob0_, ⟨7, List.map encFile r.1⟩)]) := by
 have hm0 := h; clear h; unfold M.spec_DrawAddPages at hm0
 try dsimp only at hm0
 refine Does.intro (N := 24) Tryd.func29 rfl rfl rfl rfl ?_
 intro w0 S0 L0
 refine V.seq ?_
 refine V.region ?_
 refine VO.cons rfl (V1.assign rfl rfl rfl lt0 ?_)
 refine VO.cons rfl (V1.assign rfl rfl rfl lt0 ?_)
 refine VO.cons rfl (V1.assign rfl rfl rfl lt0 ?_)
 refine VO.nil ?_
 refine V.seq ?_
 refine V.region ?_
 refine VO.cons rfl (V1.move rfl rfl rfl lt0 ?_)
 refine VO.cons rfl (V1.build rfl rfl zk_77 pl_77 rfl rfl lt0 ?_)
 refine VO.cons rfl (V1.boxN (n := 3) rfl rfl rfl rfl rfl lt0 ?_)
 intro b0
 refine VO.cons rfl (V1.assign rfl rfl rfl lt0 ?_)
 refine VO.nil ?_
 refine V.keep 24 [5] [0] (E0 := [(5, .ref b0 3 0 0)]) (H0 := [(b0, ⟨3, [.agg [.vl ρ0 1 (List.map encU8 code), .int .i64 (0 : Int), .int .u64 (0 : Int)]]⟩)]) rfl (⟨_, _, rfl, rfl, rfl⟩) (⟨_, _, rfl, rfl, rfl⟩) rfl ?_
 refine V.seq ?_
 replace hm0 := bindO hm0; rcases hm0 with ⟨y0, hh0, hm0⟩
 refine V.region ?_
 refine VO.cons rfl (V1.move rfl rfl rfl lt0 ?_)
 refine VO.cons rfl (V1.callM 0 (rn + ρ0 + 1) [] [.ref b0 3 0 0] (p := (b0, ⟨3, [.agg [.vl ρ0 1 (List.map encU8 code), .int .i64 (0 : Int), .int .u64 (0 : Int)]]⟩)) rfl rfl rfl cok_67 rfl rfl ⟨_, _, rfl, .same _, rfl⟩ bwNil (ok_spec_l1Cur_files5 hh0) rfl (.inl rfl) lt0 ?_)
 rintro _ _ ⟨b1, rfl, rfl⟩
 refine VO.cons rfl (V1.assign rfl rfl rfl lt0 ?_)
 refine VO.nil ?_
 refine V.seq ?_
 replace hm0 := bindO hm0; rcases hm0 with ⟨y1, hh1, hm0⟩
 replace hm0 := bindO hm0; rcases hm0 with ⟨y2, hh2, hm0⟩
 replace hm0 := asrt_some hm0; rcases hm0 with ⟨hh3, hm0⟩
 replace hm0 := bindO hm0; rcases hm0 with ⟨y3, hh4, hm0⟩
 refine V.region ?_
 refine VO.cons rfl (V1.move rfl rfl rfl lt0 ?_)
 refine VO.cons rfl (V1.move rfl rfl rfl lt0 ?_)
 refine VO.cons rfl (V1.move rfl rfl rfl lt0 ?_)
 refine VO.cons rfl (V1.callM 1 (rn + ρ0 + 1) [b1] [.ref b0 3 0 0, .vl (rn + ρ0 + 1) 7 (List.map encFile y0.1), .int .i64 (0 : Int)] (p := (b0, ⟨3, [encCur ρ0 y0.2]⟩)) rfl rfl rfl cok_68 rfl rfl ⟨_, _, rfl, .same _, ⟨_, _, rfl, Lend.srMap 0 rfl (fun _ => rfl) (.head _), ⟨_, _, rfl, .same _, rfl⟩⟩⟩ (bwCons (k := 0) rfl bwNil) (ok_spec_l1Cur_fileId hh1) rfl (.inr ⟨(by first | omega | (dsimp only; omega)), by rintro _ _ ⟨rfl, rfl⟩; exact ⟨by simp [PV.no, PV.noL, optS_no, noL_iff, nbeq] <;> omega, by intro b ob h; first | exact optH_no (noL_map (fun _ => by simp [PV.no, PV.noL, noL_iff, nbeq]) _) b ob h | (simp only [List.append_assoc, List.mem_append, List.mem_cons, List.mem_singleton, List.not_mem_nil, or_false, Prod.mk.injEq] at h; rcases h with ⟨rfl, rfl⟩ | ⟨rfl, rfl⟩ <;> first | exact noL_map (fun _ => by simp [PV.no, PV.noL, noL_iff, nbeq]) _ | (simp [PV.no, PV.noL, optS_no, noL_iff, nbeq] <;> omega)) | (simp at h; obtain ⟨rfl, rfl⟩ := h; exact noL_map (fun _ => by simp [PV.no, PV.noL, noL_iff, nbeq]) _) | (simp at h; obtain ⟨rfl, rfl⟩ := h; simp [PV.no, PV.noL, optS_no, noL_iff, nbeq] <;> omega)⟩⟩) lt0 ?_)
 rintro _ _ ⟨rfl, rfl⟩
 refine VO.cons rfl (V1.move rfl rfl rfl lt0 ?_)
 refine VO.cons rfl (V1.buildSliceT (f := encInt) ([(1 : Int), (100 : Int), (101 : Int), (500 : Int), (0 : Int), (501 : Int)] : List Int) rfl rfl esz_27 zk_3 rfl rfl rfl rfl rfl rfl rfl lt0 ?_)
 intro b2
 refine VO.cons rfl (V1.move rfl rfl rfl lt0 ?_)
 refine VO.cons rfl (V1.callM 1 (rn + ρ0 + 1) [] [.ref b0 3 0 0, .int .i64 (24 : Int)] (p := (b0, ⟨3, [encCur ρ0 y1.2]⟩)) rfl rfl rfl cok_84 rfl rfl ⟨_, _, rfl, .same _, ⟨_, _, rfl, .same _, rfl⟩⟩ bwNil (ok_spec_l1Cur_pick hh2) rfl (.inl rfl) lt0 ?_)
 rintro _ _ ⟨rfl, rfl⟩
 refine VO.cons rfl (V1.quo rfl rfl rfl rfl (by decide) lt0 ?_)
 refine VO.cons rfl (V1.int rfl rfl rfl rfl rfl lt0 ?_)
 refine VO.weakenK (Keeps.freezeG 1 rn [(17, .vl rn 1 (List.map encInt ([(1 : Int), (100 : Int), (101 : Int), (500 : Int), (0 : Int), (501 : Int)] : List Int)))] ([(b0, ⟨3, [encCur ρ0 y2.2]⟩), (b1, ⟨7, List.map encFile y0.1⟩)]) (f := encInt) (l := ([(1 : Int), (100 : Int), (101 : Int), (500 : Int), (0 : Int), (501 : Int)] : List Int)) rfl (fun _ => rfl) ⟨⟨_, rfl, .here⟩, trivial⟩ ⟨_, _, rfl, rfl, .inl rfl, ⟨_, _, rfl, rfl, .inl rfl, rfl⟩⟩ rfl iNil) ?_
 refine VO.cons rfl (V1.sliceMap (a := (0 : Int)) (b := (IntKind.i64.wrap ((4 : Int) + (IntKind.i64.wrap (Int.tdiv y2.1 (11 : Int)))))) rfl rfl esz_27 rfl (Bnd.none _ _) (Bnd.some rfl (Int.le_trans hh3.1 hh3.2.1) _) hh3 lt0 ?_)
 refine VO.cons rfl (V1.callM 0 (rn + ρ0 + 1) [] [.ref b0 3 0 0, .vl rn 1 (List.map encInt (slc ([(1 : Int), (100 : Int), (101 : Int), (500 : Int), (0 : Int), (501 : Int)] : List Int) (0 : Int) (IntKind.i64.wrap ((4 : Int) + (IntKind.i64.wrap (Int.tdiv y2.1 (11 : Int)))))))] (p := (b0, ⟨3, [encCur ρ0 y2.2]⟩)) rfl rfl rfl cok_69 rfl rfl ⟨_, _, rfl, .same _, ⟨_, _, rfl, .same _, rfl⟩⟩ bwNil (ok_spec_l1Cur_among hh4) rfl (.inl rfl) lt0 ?_)
 rintro _ _ ⟨rfl, rfl⟩
 refine VO.cons rfl (V1.assign rfl rfl rfl lt0 ?_)
 refine VO.cons rfl (V1.assign rfl rfl rfl lt0 ?_)
 refine VO.cons rfl (V1.assign rfl rfl rfl lt0 ?_)
 refine VO.nil ?_
 refine V.keep 24 [2, 3, 4] [1] (E0 := [(2, .sref b1 7 0 (List.length y0.1)), (3, .int .i64 y1.1), (4, .int .i64 y3.1)]) (H0 := [(b1, ⟨7, List.map encFile y0.1⟩)]) rfl (⟨_, _, rfl, rfl, _, _, rfl, rfl, _, _, rfl, rfl, rfl⟩) (⟨_, _, rfl, rfl, rfl⟩) rfl ?_
 refine V.ret ?_
 obtain rfl := Option.some.inj hm0
 exact ⟨_, _, ⟨_, _, rfl, rfl, _, _, rfl, rfl, _, _, rfl, rfl, rfl⟩, List.Sublist.refl _, b1, rfl, rfl⟩

theorem ok_impl_AddPages {ρ0 rn : Nat} {list : List File} {id_ : Int} {pages : Int} {r : List File × Bool} (h : M.impl_AddPages list id_ pages = some r) : Does Tryd.prog 30 [.vl ρ0 7 (List.map encFile list), .int .i64 id_, .int .i64 pages] [] rn (fun x H => ∃ (ob0_ : Option Nat), (ob0_ = none → r.1 = []) ∧ x = .tup [optS 7 ob0_ (List.length r.1), .bool r.2] ∧ H = optH 7 ob0_ (List.map encFile r.1)) := by
 have hm0 := h; clear h; unfold M.impl_AddPages at hm0
 try dsimp only at hm0
 refine Does.intro (N := 39) Tryd.func30 rfl rfl rfl rfl ?_
 intro w0 S0 L0
 refine V.seq ?_
 refine V.region ?_
 refine VO.cons rfl (V1.assign rfl rfl rfl lt0 ?_)
 refine VO.cons rfl (V1.assign rfl rfl rfl lt0 ?_)
 refine VO.nil ?_
 refine V.seq ?_
 replace hm0 := bindO hm0; rcases hm0 with ⟨y0, hh0, hm0⟩
 refine V.region ?_
 refine VO.cons rfl (V1.move rfl rfl rfl lt0 ?_)
 refine VO.cons rfl (V1.move rfl rfl rfl lt0 ?_)
 refine VO.cons rfl (V1.call rfl rfl rfl cok_71 rfl (ok_impl_inState hh0) rfl lt0 ?_)
 rintro _ _ ⟨rfl, rfl⟩
 refine VO.cons rfl (V1.move rfl rfl rfl lt0 ?_)
 refine VO.cons rfl (V1.extract rfl rfl rfl rfl lt0 ?_)
 refine VO.cons rfl (V1.extract rfl rfl rfl rfl lt0 ?_)
 refine VO.cons rfl (V1.assign rfl rfl rfl lt0 ?_)
 refine VO.cons rfl (V1.assign rfl rfl rfl lt0 ?_)
 refine VO.nil ?_
 refine V.keep 39 [0, 2, 8, 9] [] (E0 := [(0, .vl ρ0 7 (List.map encFile list)), (2, .int .i64 pages), (8, .int .i64 y0.1), (9, .bool y0.2)]) (H0 := []) rfl (⟨_, _, rfl, rfl, _, _, rfl, rfl, _, _, rfl, rfl, _, _, rfl, rfl, rfl⟩) (rfl) rfl ?_
 refine V.seq ?_
 refine V.seq ?_
 replace hm0 := bindO hm0; rcases hm0 with ⟨y1, hh1, hm0⟩
 refine V.region ?_
 refine VO.cons rfl (V1.move rfl rfl rfl lt0 ?_)
 refine VO.cons rfl (V1.not rfl rfl rfl lt0 ?_)
 refine VO.cons rfl (V1.move rfl rfl rfl lt0 ?_)
 apply VO.or (n := 3) rfl rfl rfl rfl rfl rfl lt0 (.none rfl)
 ·
  intro hg0
  refine VO.step (.some rfl rfl rfl) (V1.move rfl rfl rfl lt0 ?_)
  refine VO.step (.some rfl rfl rfl) (V1.call rfl rfl rfl cok_72 rfl (ok_impl_within (cond_f hg0 hh1)) rfl lt0 ?_)
  rintro _ _ ⟨rfl, rfl⟩
  refine VO.step (.some rfl rfl rfl) (V1.not rfl rfl rfl lt0 ?_)
  exact VO.nil ⟨rfl, rfl, rfl, rfl, .inr ⟨rfl, .inr ⟨rfl, .inr ⟨rfl, .inr ⟨rfl, .inl rfl⟩⟩⟩⟩⟩
 refine VO.nil ?_
 refine V.keep 39 [0, 2, 8, 23] [] (E0 := [(0, .vl ρ0 7 (List.map encFile list)), (2, .int .i64 pages), (8, .int .i64 y0.1), (23, .bool ((!y0.2) || (!y1)))]) (H0 := []) rfl (⟨_, _, rfl, rfl, _, _, rfl, rfl, _, _, rfl, rfl, _, _, rfl, rfl, rfl⟩) (rfl) rfl ?_
 refine V.cond rfl (fun hc0 => ?_) (fun hc0 => ?_)
 ·
  replace hm0 := cond_t hc0 hm0
  refine V.seq ?_
  refine V.region ?_
  refine VO.cons rfl (V1.assign rfl rfl rfl lt0 ?_)
  refine VO.cons rfl (V1.assign rfl rfl rfl lt0 ?_)
  refine VO.nil ?_
  refine V.keep 39 [6, 7] [] (E0 := [(6, .nils), (7, .bool false)]) (H0 := []) rfl (⟨_, _, rfl, rfl, _, _, rfl, rfl, rfl⟩) (rfl) rfl ?_
  refine V.ret ?_
  obtain rfl := Option.some.inj hm0
  exact ⟨_, _, ⟨_, _, rfl, rfl, _, _, rfl, rfl, rfl⟩, List.Sublist.refl _, none, (fun _ => rfl), rfl, rfl⟩
 ·
  replace hm0 := cond_f hc0 hm0
  refine V.skip ?_
  refine V.seq ?_
  replace hm0 := bindO hm0; rcases hm0 with ⟨y2, hh2, hm0⟩
  refine V.region ?_
  refine VO.cons rfl (V1.move rfl rfl rfl lt0 ?_)
  refine VO.cons rfl (V1.permK (V1.call rfl rfl rfl cok_73 rfl (ok_slices_Clone_impl_File_impl_File hh2) rfl lt0 ?_))
  rintro _ _ ⟨ob0, hob0, rfl, rfl⟩
  refine ⟨_, ?_, Keeps.optBack (n := 7) (ob := ob0) (xs := List.map encFile y2) (H1 := []) (H2 := []) rfl⟩
  refine VO.cons rfl (V1.assign rfl rfl rfl lt0 ?_)
  refine VO.nil ?_
  rcases ob0 with _ | ob0
  ·
   refine V.seq ?_
   replace hm0 := asrt_some hm0; rcases hm0 with ⟨hh3, hm0⟩
   replace hm0 := asrt_some hm0; rcases hm0 with ⟨hh4, hm0⟩
   refine V.region ?_
   refine VO.cons rfl (V1.move rfl rfl rfl lt0 ?_)
   refine VO.cons rfl (V1.move rfl rfl rfl lt0 ?_)
   refine VO.weakenK (Keeps.nilsE (l := y2) 26 rn 7 encFile (hob0 rfl) rfl rfl) ?_
   refine VO.cons rfl (V1.indexI rfl rfl esz_41 rfl rfl hh3 lt0 ?_)
   refine VO.cons rfl (V1.fieldPin rfl rfl fo_97_6 rfl lt0 ?_)
   refine VO.cons rfl (V1.loadPin rfl rfl tyk_3 rfl rfl lt0 ?_)
   refine VO.cons rfl (V1.move rfl rfl rfl lt0 ?_)
   refine VO.cons rfl (V1.int rfl rfl rfl rfl rfl lt0 ?_)
   refine VO.cons rfl (V1.indexI rfl rfl esz_41 rfl rfl hh4 lt0 ?_)
   refine VO.cons rfl (V1.fieldPin rfl rfl fo_97_6 rfl lt0 ?_)
   exact (nilsNo (hob0 rfl) hh4).elim
  ·
   refine V.seq ?_
   replace hm0 := asrt_some hm0; rcases hm0 with ⟨hh3, hm0⟩
   replace hm0 := asrt_some hm0; rcases hm0 with ⟨hh4, hm0⟩
   refine V.region ?_
   refine VO.cons rfl (V1.move rfl rfl rfl lt0 ?_)
   refine VO.cons rfl (V1.move rfl rfl rfl lt0 ?_)
   refine VO.cons rfl (V1.indexSr rfl rfl esz_41 rfl rfl hh3 lt0 ?_)
   refine VO.cons rfl (V1.fieldRef rfl rfl fo_97_6 rfl lt0 ?_)
   refine VO.cons rfl (V1.loadMap (k := 0) (f := encFile) rfl rfl tyk_3 rfl rfl (by simpa using natLt hh3.1 hh3.2) rfl lt0 ?_)
   refine VO.cons rfl (V1.move rfl rfl rfl lt0 ?_)
   refine VO.cons rfl (V1.int rfl rfl rfl rfl rfl lt0 ?_)
   refine VO.cons rfl (V1.indexSr rfl rfl esz_41 rfl rfl hh4 lt0 ?_)
   refine VO.cons rfl (V1.fieldRef rfl rfl fo_97_6 rfl lt0 ?_)
   refine VO.cons rfl (V1.storeMapCell (k := 0) (f := encFile) (x := (⟨(y2.getD (Int.toNat y0.1) default).Id, (y2.getD (Int.toNat y0.1) default).Series, (y2.getD (Int.toNat y0.1) default).Title, (y2.getD (Int.toNat y0.1) default).Opened, (y2.getD (Int.toNat y0.1) default).Closed, (y2.getD (Int.toNat y0.1) default).State, (IntKind.i64.wrap (((y2.getD (Int.toNat y0.1) default).Pages) + pages))⟩ : File)) rfl rfl tyk_3 rfl rfl (by simpa using natLt hh4.1 hh4.2) rfl rfl rfl rfl rfl rfl ?_)
   refine VO.weakenK (Keeps.say 10 (y := .sref ob0 7 0 (List.length (y2.set (Int.toNat y0.1) (⟨(y2.getD (Int.toNat y0.1) default).Id, (y2.getD (Int.toNat y0.1) default).Series, (y2.getD (Int.toNat y0.1) default).Title, (y2.getD (Int.toNat y0.1) default).Opened, (y2.getD (Int.toNat y0.1) default).Closed, (y2.getD (Int.toNat y0.1) default).State, (IntKind.i64.wrap (((y2.getD (Int.toNat y0.1) default).Pages) + pages))⟩ : File)))) rfl (by simp [optS])) ?_
   refine VO.nil ?_
   refine V.keep 39 [10] [0] (E0 := [(10, .sref ob0 7 0 (List.length (y2.set (Int.toNat y0.1) (⟨(y2.getD (Int.toNat y0.1) default).Id, (y2.getD (Int.toNat y0.1) default).Series, (y2.getD (Int.toNat y0.1) default).Title, (y2.getD (Int.toNat y0.1) default).Opened, (y2.getD (Int.toNat y0.1) default).Closed, (y2.getD (Int.toNat y0.1) default).State, (IntKind.i64.wrap (((y2.getD (Int.toNat y0.1) default).Pages) + pages))⟩ : File))))]) (H0 := [(ob0, ⟨7, List.map encFile (y2.set (Int.toNat y0.1) (⟨(y2.getD (Int.toNat y0.1) default).Id, (y2.getD (Int.toNat y0.1) default).Series, (y2.getD (Int.toNat y0.1) default).Title, (y2.getD (Int.toNat y0.1) default).Opened, (y2.getD (Int.toNat y0.1) default).Closed, (y2.getD (Int.toNat y0.1) default).State, (IntKind.i64.wrap (((y2.getD (Int.toNat y0.1) default).Pages) + pages))⟩ : File))⟩)]) rfl (⟨_, _, rfl, rfl, rfl⟩) (⟨_, _, rfl, rfl, rfl⟩) rfl ?_
   refine V.seq ?_
   refine V.seq ?_
   replace hm0 := bindO hm0; rcases hm0 with ⟨y3, hh5, hm0⟩
   refine V.region ?_
   refine VO.cons rfl (V1.move rfl rfl rfl lt0 ?_)
   refine VO.cons rfl (V1.callL (rn + 1) [ob0] [.vl (rn + 1) 7 (List.map encFile (y2.set (Int.toNat y0.1) (⟨(y2.getD (Int.toNat y0.1) default).Id, (y2.getD (Int.toNat y0.1) default).Series, (y2.getD (Int.toNat y0.1) default).Title, (y2.getD (Int.toNat y0.1) default).Opened, (y2.getD (Int.toNat y0.1) default).Closed, (y2.getD (Int.toNat y0.1) default).State, (IntKind.i64.wrap (((y2.getD (Int.toNat y0.1) default).Pages) + pages))⟩ : File)))] rfl rfl rfl cok_25 rfl ⟨_, _, rfl, Lend.srMap 0 rfl (fun _ => rfl) (.head _), rfl⟩ (bwCons (k := 0) rfl bwNil) (ok_impl_AreFiles hh5) rfl (⟨(by first | omega | (dsimp only; omega)), by rintro _ _ ⟨rfl, rfl⟩; exact ⟨rfl, by simp⟩⟩) lt0 ?_)
   rintro _ _ ⟨rfl, rfl⟩
   refine VO.cons rfl (V1.not rfl rfl rfl lt0 ?_)
   refine VO.nil ?_
   refine V.cond rfl (fun hc1 => ?_) (fun hc1 => ?_)
   ·
    replace hm0 := cond_t hc1 hm0
    refine V.seq ?_
    refine V.region ?_
    refine VO.cons rfl (V1.assign rfl rfl rfl lt0 ?_)
    refine VO.cons rfl (V1.assign rfl rfl rfl lt0 ?_)
    refine VO.nil ?_
    refine V.keep 39 [6, 7] [] (E0 := [(6, .nils), (7, .bool false)]) (H0 := []) rfl (⟨_, _, rfl, rfl, _, _, rfl, rfl, rfl⟩) (rfl) rfl ?_
    refine V.ret ?_
    obtain rfl := Option.some.inj hm0
    exact ⟨_, _, ⟨_, _, rfl, rfl, _, _, rfl, rfl, rfl⟩, List.Sublist.refl _, none, (fun _ => rfl), rfl, rfl⟩
   ·
    replace hm0 := cond_f hc1 hm0
    refine V.skip ?_
    refine V.seq ?_
    refine V.region ?_
    refine VO.cons rfl (V1.move rfl rfl rfl lt0 ?_)
    refine VO.cons rfl (V1.assign rfl rfl rfl lt0 ?_)
    refine VO.cons rfl (V1.assign rfl rfl rfl lt0 ?_)
    refine VO.nil ?_
    refine V.keep 39 [6, 7] [0] (E0 := [(6, .sref ob0 7 0 (List.length (y2.set (Int.toNat y0.1) (⟨(y2.getD (Int.toNat y0.1) default).Id, (y2.getD (Int.toNat y0.1) default).Series, (y2.getD (Int.toNat y0.1) default).Title, (y2.getD (Int.toNat y0.1) default).Opened, (y2.getD (Int.toNat y0.1) default).Closed, (y2.getD (Int.toNat y0.1) default).State, (IntKind.i64.wrap (((y2.getD (Int.toNat y0.1) default).Pages) + pages))⟩ : File)))), (7, .bool true)]) (H0 := [(ob0, ⟨7, List.map encFile (y2.set (Int.toNat y0.1) (⟨(y2.getD (Int.toNat y0.1) default).Id, (y2.getD (Int.toNat y0.1) default).Series, (y2.getD (Int.toNat y0.1) default).Title, (y2.getD (Int.toNat y0.1) default).Opened, (y2.getD (Int.toNat y0.1) default).Closed, (y2.getD (Int.toNat y0.1) default).State, (IntKind.i64.wrap (((y2.getD (Int.toNat y0.1) default).Pages) + pages))⟩ : File))⟩)]) rfl (⟨_, _, rfl, rfl, _, _, rfl, rfl, rfl⟩) (⟨_, _, rfl, rfl, rfl⟩) rfl ?_
    refine V.ret ?_
    obtain rfl := Option.some.inj hm0
    exact ⟨_, _, ⟨_, _, rfl, rfl, _, _, rfl, rfl, rfl⟩, List.Sublist.refl _, some ob0, (fun e => by cases e), rfl, rfl⟩

theorem ok_spec_l5With {ρ0 rn : Nat} {list : List File} {i : Int} {f : File} {r : List File × Bool} (h : M.spec_l5With list i f = some r) : Does Tryd.prog 88 [.vl ρ0 7 (List.map encFile list), .int .i64 i, encFile f] [] rn (fun x H => ∃ (ob0_ : Nat), x = .tup [PV.sref ob0_ 7 0 (List.length r.1), .bool r.2] ∧ H = [(ob0_, ⟨7, List.map encFile r.1⟩)]) := by
 have hm0 := h; clear h; unfold M.spec_l5With at hm0
 try dsimp only at hm0
 refine Does.intro (N := 21) Tryd.func88 rfl rfl rfl rfl ?_
 intro w0 S0 L0
 refine V.seq ?_
 refine V.region ?_
 refine VO.cons rfl (V1.boxN (n := 7) rfl rfl rfl rfl rfl lt0 ?_)
 intro b0
 refine VO.cons rfl (V1.assign rfl rfl rfl lt0 ?_)
 refine VO.cons rfl (V1.assign rfl rfl rfl lt0 ?_)
 refine VO.nil ?_
 refine V.seq ?_
 replace hm0 := asrt_some hm0; rcases hm0 with ⟨hh0, hm0⟩
 refine V.region ?_
 refine VO.cons rfl (V1.buildSliceT (f := encFile) ([] : List File) rfl rfl esz_41 zk_97 rfl rfl rfl rfl rfl rfl rfl lt0 ?_)
 intro b1
 refine VO.cons rfl (V1.move rfl rfl rfl lt0 ?_)
 refine VO.cons rfl (V1.appendMap (k := 0) (f := encFile) (l := ([] : List File)) (m := list) rfl rfl rfl rfl rfl esz_41 eby_41 zk_97 rfl rfl rfl (.vl isl_41) hh0 lt0 ?_)
 intro b2
 refine VO.cons rfl (V1.assign rfl rfl rfl lt0 ?_)
 refine VO.nil ?_
 refine V.keep 21 [1, 5, 8] [0, 1] (E0 := [(1, .int .i64 i), (5, .ref b0 7 0 0), (8, .sref b2 7 0 (List.length (([] : List File) ++ list)))]) (H0 := [(b2, ⟨7, List.map encFile (([] : List File) ++ list)⟩), (b0, ⟨7, [encFile f]⟩)]) rfl (⟨_, _, rfl, rfl, _, _, rfl, rfl, _, _, rfl, rfl, rfl⟩) (⟨_, _, rfl, rfl, _, _, rfl, rfl, rfl⟩) rfl ?_
 refine V.seq ?_
 replace hm0 := asrt_some hm0; rcases hm0 with ⟨hh1, hm0⟩
 refine V.region ?_
 refine VO.cons rfl (V1.move rfl rfl rfl lt0 ?_)
 refine VO.cons rfl (V1.move rfl rfl rfl lt0 ?_)
 refine VO.cons rfl (V1.loadRefAll (k := 1) rfl rfl tyk_97 rfl rfl rfl rfl rfl lt0 ?_)
 refine VO.cons rfl (V1.indexSr rfl rfl esz_41 rfl rfl hh1 lt0 ?_)
 refine VO.cons rfl (V1.storeMap (k := 0) (f := encFile) (x := f) rfl rfl tyk_97 rfl rfl (by simpa using natLt hh1.1 hh1.2) rfl rfl ?_)
 refine VO.weakenK (Keeps.say 8 (y := .sref b2 7 0 (List.length ((([] : List File) ++ list).set (Int.toNat i) f))) rfl (by simp [optS])) ?_
 refine VO.nil ?_
 refine V.keep 21 [8] [0] (E0 := [(8, .sref b2 7 0 (List.length ((([] : List File) ++ list).set (Int.toNat i) f)))]) (H0 := [(b2, ⟨7, List.map encFile ((([] : List File) ++ list).set (Int.toNat i) f)⟩)]) rfl (⟨_, _, rfl, rfl, rfl⟩) (⟨_, _, rfl, rfl, rfl⟩) rfl ?_
 refine V.seq ?_
 refine V.seq ?_
 replace hm0 := bindO hm0; rcases hm0 with ⟨y0, hh2, hm0⟩
 refine V.region ?_
 refine VO.cons rfl (V1.move rfl rfl rfl lt0 ?_)
 refine VO.cons rfl (V1.callL (rn + 1) [b2] [.vl (rn + 1) 7 (List.map encFile ((([] : List File) ++ list).set (Int.toNat i) f))] rfl rfl rfl cok_76 rfl ⟨_, _, rfl, Lend.srMap 0 rfl (fun _ => rfl) (.head _), rfl⟩ (bwCons (k := 0) rfl bwNil) (ok_spec_l5Good hh2) rfl (⟨(by first | omega | (dsimp only; omega)), by rintro _ _ ⟨rfl, rfl⟩; exact ⟨rfl, by simp⟩⟩) lt0 ?_)
 rintro _ _ ⟨rfl, rfl⟩
 refine VO.cons rfl (V1.not rfl rfl rfl lt0 ?_)
 refine VO.nil ?_
 refine V.cond rfl (fun hc0 => ?_) (fun hc0 => ?_)
 ·
  replace hm0 := cond_t hc0 hm0
  refine V.seq ?_
  refine V.region ?_
  refine VO.cons rfl (V1.buildSliceT (f := encFile) ([] : List File) rfl rfl esz_41 zk_97 rfl rfl rfl rfl rfl rfl rfl lt0 ?_)
  intro b3
  refine VO.cons rfl (V1.assign rfl rfl rfl lt0 ?_)
  refine VO.cons rfl (V1.assign rfl rfl rfl lt0 ?_)
  refine VO.nil ?_
  refine V.keep 21 [6, 7] [0] (E0 := [(6, .sref b3 7 0 (List.length ([] : List File))), (7, .bool false)]) (H0 := [(b3, ⟨7, List.map encFile ([] : List File)⟩)]) rfl (⟨_, _, rfl, rfl, _, _, rfl, rfl, rfl⟩) (⟨_, _, rfl, rfl, rfl⟩) rfl ?_
  refine V.ret ?_
  obtain rfl := Option.some.inj hm0
  exact ⟨_, _, ⟨_, _, rfl, rfl, _, _, rfl, rfl, rfl⟩, List.Sublist.refl _, b3, rfl, rfl⟩
 ·
  replace hm0 := cond_f hc0 hm0
  refine V.skip ?_
  refine V.seq ?_
  refine V.region ?_
  refine VO.cons rfl (V1.move rfl rfl rfl lt0 ?_)
  refine VO.cons rfl (V1.assign rfl rfl rfl lt0 ?_)
  refine VO.cons rfl (V1.assign rfl rfl rfl lt0 ?_)
  refine VO.nil ?_
  refine V.keep 21 [6, 7] [0] (E0 := [(6, .sref b2 7 0 (List.length ((([] : List File) ++ list).set (Int.toNat i) f))), (7, .bool true)]) (H0 := [(b2, ⟨7, List.map encFile ((([] : List File) ++ list).set (Int.toNat i) f)⟩)]) rfl (⟨_, _, rfl, rfl, _, _, rfl, rfl, rfl⟩) (⟨_, _, rfl, rfl, rfl⟩) rfl ?_
  refine V.ret ?_
  obtain rfl := Option.some.inj hm0
  exact ⟨_, _, ⟨_, _, rfl, rfl, _, _, rfl, rfl, rfl⟩, List.Sublist.refl _, b2, rfl, rfl⟩

theorem ok_spec_AddPages {ρ0 rn : Nat} {list : List File} {id_ : Int} {pages : Int} {r : List File × Bool} (h : M.spec_AddPages list id_ pages = some r) : Does Tryd.prog 31 [.vl ρ0 7 (List.map encFile list), .int .i64 id_, .int .i64 pages] [] rn (fun x H => ∃ (ob0_ : Nat), x = .tup [PV.sref ob0_ 7 0 (List.length r.1), .bool r.2] ∧ H = [(ob0_, ⟨7, List.map encFile r.1⟩)]) := by
 have hm0 := h; clear h; unfold M.spec_AddPages at hm0
 try dsimp only at hm0
 refine Does.intro (N := 41) Tryd.func31 rfl rfl rfl rfl ?_
 intro w0 S0 L0
 refine V.seq ?_
 refine V.region ?_
 refine VO.cons rfl (V1.assign rfl rfl rfl lt0 ?_)
 refine VO.cons rfl (V1.assign rfl rfl rfl lt0 ?_)
 refine VO.nil ?_
 refine V.seq ?_
 replace hm0 := bindO hm0; rcases hm0 with ⟨y0, hh0, hm0⟩
 refine V.region ?_
 refine VO.cons rfl (V1.move rfl rfl rfl lt0 ?_)
 refine VO.cons rfl (V1.move rfl rfl rfl lt0 ?_)
 refine VO.cons rfl (V1.call rfl rfl rfl cok_74 rfl (ok_spec_l5Find hh0) rfl lt0 ?_)
 rintro _ _ ⟨rfl, rfl⟩
 refine VO.cons rfl (V1.assign rfl rfl rfl lt0 ?_)
 refine VO.nil ?_
 refine V.keep 41 [0, 2, 8] [] (E0 := [(0, .vl ρ0 7 (List.map encFile list)), (2, .int .i64 pages), (8, .int .i64 y0)]) (H0 := []) rfl (⟨_, _, rfl, rfl, _, _, rfl, rfl, _, _, rfl, rfl, rfl⟩) (rfl) rfl ?_
 refine V.seq ?_
 refine V.seq ?_
 replace hm0 := bindO hm0; rcases hm0 with ⟨y1, hh1, hm0⟩
 refine V.region ?_
 refine VO.cons rfl (V1.move rfl rfl rfl lt0 ?_)
 refine VO.cons rfl (V1.int rfl rfl rfl rfl rfl lt0 ?_)
 refine VO.cons rfl (V1.move rfl rfl rfl lt0 ?_)
 apply VO.or (n := 3) rfl rfl rfl rfl rfl rfl lt0 (.none rfl)
 ·
  intro hg0
  refine VO.step (.some rfl rfl rfl) (V1.move rfl rfl rfl lt0 ?_)
  refine VO.step (.some rfl rfl rfl) (V1.call rfl rfl rfl cok_75 rfl (ok_spec_l1In (cond_f hg0 hh1)) rfl lt0 ?_)
  rintro _ _ ⟨rfl, rfl⟩
  refine VO.step (.some rfl rfl rfl) (V1.not rfl rfl rfl lt0 ?_)
  exact VO.nil ⟨rfl, rfl, rfl, rfl, .inr ⟨rfl, .inr ⟨rfl, .inr ⟨rfl, .inr ⟨rfl, .inl rfl⟩⟩⟩⟩⟩
 refine VO.nil ?_
 refine V.cond rfl (fun hc0 => ?_) (fun hc0 => ?_)
 ·
  replace hm0 := cond_t hc0 hm0
  refine V.seq ?_
  refine V.region ?_
  refine VO.cons rfl (V1.buildSliceT (f := encFile) ([] : List File) rfl rfl esz_41 zk_97 rfl rfl rfl rfl rfl rfl rfl lt0 ?_)
  intro b0
  refine VO.cons rfl (V1.assign rfl rfl rfl lt0 ?_)
  refine VO.cons rfl (V1.assign rfl rfl rfl lt0 ?_)
  refine VO.nil ?_
  refine V.keep 41 [6, 7] [0] (E0 := [(6, .sref b0 7 0 (List.length ([] : List File))), (7, .bool false)]) (H0 := [(b0, ⟨7, List.map encFile ([] : List File)⟩)]) rfl (⟨_, _, rfl, rfl, _, _, rfl, rfl, rfl⟩) (⟨_, _, rfl, rfl, rfl⟩) rfl ?_
  refine V.ret ?_
  obtain rfl := Option.some.inj hm0
  exact ⟨_, _, ⟨_, _, rfl, rfl, _, _, rfl, rfl, rfl⟩, List.Sublist.refl _, b0, rfl, rfl⟩
 ·
  replace hm0 := cond_f hc0 hm0
  refine V.skip ?_
  refine V.keep 41 [0, 2, 8] [] (E0 := [(0, .vl ρ0 7 (List.map encFile list)), (2, .int .i64 pages), (8, .int .i64 y0)]) (H0 := []) rfl (⟨_, _, rfl, rfl, _, _, rfl, rfl, _, _, rfl, rfl, rfl⟩) (rfl) rfl ?_
  refine V.seq ?_
  replace hm0 := asrt_some hm0; rcases hm0 with ⟨hh2, hm0⟩
  refine V.region ?_
  refine VO.cons rfl (V1.move rfl rfl rfl lt0 ?_)
  refine VO.cons rfl (V1.move rfl rfl rfl lt0 ?_)
  refine VO.cons rfl (V1.indexI rfl rfl esz_41 rfl rfl hh2 lt0 ?_)
  refine VO.cons rfl (V1.loadPinAll rfl rfl tyk_97 rfl rfl lt0 ?_)
  refine VO.cons rfl (V1.alloc rfl rfl zk_97 lt0 ?_)
  intro b1
  refine VO.cons rfl (V1.storeRefAll (k := 0) rfl rfl tyk_97 rfl rfl rfl rfl rfl rfl ?_)
  refine VO.nil ?_
  refine V.keep 41 [0, 2, 8, 9] [0] (E0 := [(0, .vl ρ0 7 (List.map encFile list)), (2, .int .i64 pages), (8, .int .i64 y0), (9, .ref b1 7 0 0)]) (H0 := [(b1, ⟨7, [encFile (list.getD (Int.toNat y0) default)]⟩)]) rfl (⟨_, _, rfl, rfl, _, _, rfl, rfl, _, _, rfl, rfl, _, _, rfl, rfl, rfl⟩) (⟨_, _, rfl, rfl, rfl⟩) rfl ?_
  refine V.seq ?_
  refine V.region ?_
  refine VO.cons rfl (V1.fieldRef rfl rfl fo_97_6 rfl lt0 ?_)
  refine VO.cons rfl (V1.loadRef (k := 0) rfl rfl tyk_3 rfl rfl rfl rfl rfl lt0 ?_)
  refine VO.cons rfl (V1.move rfl rfl rfl lt0 ?_)
  refine VO.cons rfl (V1.int rfl rfl rfl rfl rfl lt0 ?_)
  refine VO.cons rfl (V1.fieldRef rfl rfl fo_97_6 rfl lt0 ?_)
  refine VO.cons rfl (V1.storeRef (k := 0) rfl rfl tyk_3 rfl rfl rfl rfl rfl rfl rfl rfl rfl ?_)
  refine VO.nil ?_
  refine V.keep 41 [0, 8, 9] [0] (E0 := [(0, .vl ρ0 7 (List.map encFile list)), (8, .int .i64 y0), (9, .ref b1 7 0 0)]) (H0 := [(b1, ⟨7, [.agg [.int .i64 ((list.getD (Int.toNat y0) default).Id), .int .i64 ((list.getD (Int.toNat y0) default).Series), .str ((list.getD (Int.toNat y0) default).Title), .int .i64 ((list.getD (Int.toNat y0) default).Opened), .int .i64 ((list.getD (Int.toNat y0) default).Closed), .int .i64 ((list.getD (Int.toNat y0) default).State), .int .i64 (IntKind.i64.wrap (((list.getD (Int.toNat y0) default).Pages) + pages))]]⟩)]) rfl (⟨_, _, rfl, rfl, _, _, rfl, rfl, _, _, rfl, rfl, rfl⟩) (⟨_, _, rfl, rfl, rfl⟩) rfl ?_
  refine V.seq ?_
  replace hm0 := bindO hm0; rcases hm0 with ⟨y2, hh3, hm0⟩
  refine V.region ?_
  refine VO.cons rfl (V1.move rfl rfl rfl lt0 ?_)
  refine VO.cons rfl (V1.move rfl rfl rfl lt0 ?_)
  refine VO.cons rfl (V1.loadRefAll (k := 0) rfl rfl tyk_97 rfl rfl rfl rfl rfl lt0 ?_)
  refine VO.cons rfl (V1.call rfl rfl rfl cok_88 rfl (ok_spec_l5With hh3) rfl lt0 ?_)
  rintro _ _ ⟨b2, rfl, rfl⟩
  refine VO.cons rfl (V1.move rfl rfl rfl lt0 ?_)
  refine VO.cons rfl (V1.extract rfl rfl rfl rfl lt0 ?_)
  refine VO.cons rfl (V1.extract rfl rfl rfl rfl lt0 ?_)
  refine VO.cons rfl (V1.assign rfl rfl rfl lt0 ?_)
  refine VO.cons rfl (V1.assign rfl rfl rfl lt0 ?_)
  refine VO.nil ?_
  refine V.keep 41 [10, 11] [0] (E0 := [(10, .sref b2 7 0 (List.length y2.1)), (11, .bool y2.2)]) (H0 := [(b2, ⟨7, List.map encFile y2.1⟩)]) rfl (⟨_, _, rfl, rfl, _, _, rfl, rfl, rfl⟩) (⟨_, _, rfl, rfl, rfl⟩) rfl ?_
  refine V.seq ?_
  refine V.region ?_
  refine VO.cons rfl (V1.move rfl rfl rfl lt0 ?_)
  refine VO.cons rfl (V1.move rfl rfl rfl lt0 ?_)
  refine VO.cons rfl (V1.assign rfl rfl rfl lt0 ?_)
  refine VO.cons rfl (V1.assign rfl rfl rfl lt0 ?_)
  refine VO.nil ?_
  refine V.keep 41 [6, 7] [0] (E0 := [(6, .sref b2 7 0 (List.length y2.1)), (7, .bool y2.2)]) (H0 := [(b2, ⟨7, List.map encFile y2.1⟩)]) rfl (⟨_, _, rfl, rfl, _, _, rfl, rfl, rfl⟩) (⟨_, _, rfl, rfl, rfl⟩) rfl ?_
  refine V.ret ?_
  obtain rfl := Option.some.inj hm0
  exact ⟨_, _, ⟨_, _, rfl, rfl, _, _, rfl, rfl, rfl⟩, List.Sublist.refl _, b2, rfl, rfl⟩

theorem ok_spec_DrawAreFiles {ρ0 rn : Nat} {code : List Int} {r : List File} (h : M.spec_DrawAreFiles code = some r) : Does Tryd.prog 89 [.vl ρ0 1 (List.map encU8 code)] [] rn (fun x H => ∃ (ob0_ : Nat), x = PV.sref ob0_ 7 0 (List.length r) ∧ H = [(ob0_, ⟨7, List.map encFile r⟩)]) := by
 have hm0 := h; clear h; unfold M.spec_DrawAreFiles at hm0
 try dsimp only at hm0
 refine Does.intro (N := 9) Tryd.func89 rfl rfl rfl rfl ?_
 intro w0 S0 L0
 refine V.seq ?_
 refine V.region ?_
 refine VO.cons rfl (V1.assign rfl rfl rfl lt0 ?_)
 refine VO.nil ?_
 refine V.seq ?_
 refine V.region ?_
 refine VO.cons rfl (V1.move rfl rfl rfl lt0 ?_)
 refine VO.cons rfl (V1.build rfl rfl zk_77 pl_77 rfl rfl lt0 ?_)
 refine VO.cons rfl (V1.boxN (n := 3) rfl rfl rfl rfl rfl lt0 ?_)
 intro b0
 refine VO.cons rfl (V1.assign rfl rfl rfl lt0 ?_)
 refine VO.nil ?_
 refine V.keep 9 [3] [0] (E0 := [(3, .ref b0 3 0 0)]) (H0 := [(b0, ⟨3, [.agg [.vl ρ0 1 (List.map encU8 code), .int .i64 (0 : Int), .int .u64 (0 : Int)]]⟩)]) rfl (⟨_, _, rfl, rfl, rfl⟩) (⟨_, _, rfl, rfl, rfl⟩) rfl ?_
 refine V.seq ?_
 replace hm0 := bindO hm0; rcases hm0 with ⟨y0, hh0, hm0⟩
 refine V.region ?_
 refine VO.cons rfl (V1.move rfl rfl rfl lt0 ?_)
 refine VO.cons rfl (V1.callM 0 (rn + ρ0 + 1) [] [.ref b0 3 0 0] (p := (b0, ⟨3, [.agg [.vl ρ0 1 (List.map encU8 code), .int .i64 (0 : Int), .int .u64 (0 : Int)]]⟩)) rfl rfl rfl cok_67 rfl rfl ⟨_, _, rfl, .same _, rfl⟩ bwNil (ok_spec_l1Cur_files5 hh0) rfl (.inl rfl) lt0 ?_)
 rintro _ _ ⟨b1, rfl, rfl⟩
 refine VO.cons rfl (V1.assign rfl rfl rfl lt0 ?_)
 refine VO.nil ?_
 refine V.keep 9 [2] [0] (E0 := [(2, .sref b1 7 0 (List.length y0.1))]) (H0 := [(b1, ⟨7, List.map encFile y0.1⟩)]) rfl (⟨_, _, rfl, rfl, rfl⟩) (⟨_, _, rfl, rfl, rfl⟩) rfl ?_
 refine V.ret ?_
 obtain rfl := Option.some.inj hm0
 exact ⟨_, _, ⟨_, _, rfl, rfl, rfl⟩, List.Sublist.refl _, b1, rfl, rfl⟩

theorem ok_spec_DrawSeriesPages {ρ0 rn : Nat} {code : List Int} {r : List File} (h : M.spec_DrawSeriesPages code = some r) : Does Tryd.prog 32 [.vl ρ0 1 (List.map encU8 code)] [] rn (fun x H => ∃ (ob0_ : Nat), x = PV.sref ob0_ 7 0 (List.length r) ∧ H = [(ob0_, ⟨7, List.map encFile r⟩)]) := by
 have hm0 := h; clear h; unfold M.spec_DrawSeriesPages at hm0
 try dsimp only at hm0
 refine Does.intro (N := 5) Tryd.func32 rfl rfl rfl rfl ?_
 intro w0 S0 L0
 refine V.seq ?_
 refine V.region ?_
 refine VO.cons rfl (V1.assign rfl rfl rfl lt0 ?_)
 refine VO.nil ?_
 refine V.seq ?_
 replace hm0 := bindO hm0; rcases hm0 with ⟨y0, hh0, hm0⟩
 refine V.region ?_
 refine VO.cons rfl (V1.move rfl rfl rfl lt0 ?_)
 refine VO.cons rfl (V1.call rfl rfl rfl cok_89 rfl (ok_spec_DrawAreFiles hh0) rfl lt0 ?_)
 rintro _ _ ⟨b0, rfl, rfl⟩
 refine VO.cons rfl (V1.assign rfl rfl rfl lt0 ?_)
 refine VO.nil ?_
 refine V.keep 5 [2] [0] (E0 := [(2, .sref b0 7 0 (List.length y0))]) (H0 := [(b0, ⟨7, List.map encFile y0⟩)]) rfl (⟨_, _, rfl, rfl, rfl⟩) (⟨_, _, rfl, rfl, rfl⟩) rfl ?_
 refine V.ret ?_
 obtain rfl := Option.some.inj hm0
 exact ⟨_, _, ⟨_, _, rfl, rfl, rfl⟩, List.Sublist.refl _, b0, rfl, rfl⟩

theorem ok_spec_SeriesPages {ρ0 rn : Nat} {list : List File} {r : List (List Int) × Bool} (h : M.spec_SeriesPages list = some r) : Does Tryd.prog 33 [.vl ρ0 7 (List.map encFile list)] [] rn (fun x H => ∃ (ob0_ : Nat), x = .tup [PV.sref ob0_ 1 0 (List.length r.1), .bool r.2] ∧ H = [(ob0_, ⟨1, List.map (encL rn 1 encInt) r.1⟩)]) := by
 have hm0 := h; clear h; unfold M.spec_SeriesPages at hm0
 try dsimp only at hm0
 refine Does.intro (N := 50) Tryd.func33 rfl rfl rfl rfl ?_
 intro w0 S0 L0
 refine V.seq ?_
 refine V.region ?_
 refine VO.cons rfl (V1.assign rfl rfl rfl lt0 ?_)
 refine VO.cons rfl (V1.assign rfl rfl rfl lt0 ?_)
 refine VO.nil ?_
 refine V.seq ?_
 refine V.region ?_
 refine VO.cons rfl (V1.buildSliceT (f := (encL rn 1 encInt)) ([] : List (List Int)) rfl rfl esz_47 zk_27 rfl rfl rfl rfl rfl rfl rfl lt0 ?_)
 intro b0
 refine VO.cons rfl (V1.assign rfl rfl rfl lt0 ?_)
 refine VO.nil ?_
 refine V.seq ?_
 refine V.seq ?_
 replace hm0 := bindO hm0; rcases hm0 with ⟨y0, hh0, hm0⟩
 refine V.region ?_
 refine VO.cons rfl (V1.move rfl rfl rfl lt0 ?_)
 refine VO.cons rfl (V1.call rfl rfl rfl cok_76 rfl (ok_spec_l5Good hh0) rfl lt0 ?_)
 rintro _ _ ⟨rfl, rfl⟩
 refine VO.cons rfl (V1.not rfl rfl rfl lt0 ?_)
 refine VO.nil ?_
 refine V.keep 50 [0, 4, 12] [0] (E0 := [(0, .vl ρ0 7 (List.map encFile list)), (4, .sref b0 1 0 (List.length ([] : List (List Int)))), (12, .bool (!y0))]) (H0 := [(b0, ⟨1, List.map (encL rn 1 encInt) ([] : List (List Int))⟩)]) rfl (⟨_, _, rfl, rfl, _, _, rfl, rfl, _, _, rfl, rfl, rfl⟩) (⟨_, _, rfl, rfl, rfl⟩) rfl ?_
 refine V.cond rfl (fun hc0 => ?_) (fun hc0 => ?_)
 ·
  replace hm0 := cond_t hc0 hm0
  refine V.seq ?_
  refine V.region ?_
  refine VO.cons rfl (V1.move rfl rfl rfl lt0 ?_)
  refine VO.cons rfl (V1.assign rfl rfl rfl lt0 ?_)
  refine VO.cons rfl (V1.assign rfl rfl rfl lt0 ?_)
  refine VO.nil ?_
  refine V.keep 50 [2, 3] [0] (E0 := [(2, .sref b0 1 0 (List.length ([] : List (List Int)))), (3, .bool false)]) (H0 := [(b0, ⟨1, List.map (encL rn 1 encInt) ([] : List (List Int))⟩)]) rfl (⟨_, _, rfl, rfl, _, _, rfl, rfl, rfl⟩) (⟨_, _, rfl, rfl, rfl⟩) rfl ?_
  refine V.ret ?_
  obtain rfl := Option.some.inj hm0
  exact ⟨_, _, ⟨_, _, rfl, rfl, _, _, rfl, rfl, rfl⟩, List.Sublist.refl _, b0, rfl, rfl⟩
 ·
  replace hm0 := cond_f hc0 hm0
  refine V.skip ?_
  refine V.seq ?_
  refine V.seq ?_
  refine V.region ?_
  refine VO.cons rfl (V1.assign rfl rfl rfl lt0 ?_)
  refine VO.nil ?_
  replace hm0 := bindO hm0; rcases hm0 with ⟨e0, he1, hm0⟩
  refine V.cutT (D := (List (List Int)) × (Nat)) (fun ⟨out_, b1⟩ => ⟨50, [(4, .sref b1 1 0 (List.length out_))], [(b1, ⟨1, List.map (encL rn 1 encInt) out_⟩)]⟩) (fun ⟨out_, b1⟩ => (out_ = e0)) ?_ ?_
  ·
   refine V.block ?_
   refine V.keep 50 [4, 5, 0] [0] (E0 := [(4, .sref b0 1 0 (List.length ([] : List (List Int)))), (5, .int .i64 (1 : Int)), (0, .vl ρ0 7 (List.map encFile list))]) (H0 := [(b0, ⟨1, List.map (encL rn 1 encInt) ([] : List (List Int))⟩)]) rfl (⟨_, _, rfl, rfl, _, _, rfl, rfl, _, _, rfl, rfl, rfl⟩) (⟨_, _, rfl, rfl, rfl⟩) rfl ?_
   refine V.loopE (D := Nat × (List (List Int) × Int) × (Nat)) (fun ⟨n0, ⟨out_0, series⟩, b2⟩ => [(4, .sref b2 1 0 (List.length out_0)), (5, .int .i64 series)]) (fun ⟨n0, ⟨out_0, series⟩, b2⟩ => [(b2, ⟨1, List.map (encL rn 1 encInt) out_0⟩)]) (fun ⟨n0, ⟨out_0, series⟩, b2⟩ => loopO (M.spec_SeriesPages_l0 list) n0 (out_0, series) = some e0) (fun ⟨n0, _, _⟩ => n0) (rounds, (([] : List (List Int)), (1 : Int)), b0) rfl he1 ?_
   rintro ⟨n0, ⟨out_0, series⟩, b2⟩ hP0
   obtain ⟨m0, y1, rfl, hm1, hl1, hr1⟩ := loop_head hP0
   unfold M.spec_SeriesPages_l0 at hm1; dsimp only at hm1
   show V _ _ _ ⟨50, [(4, .sref b2 1 0 (List.length out_0)), (5, .int .i64 series), (0, .vl ρ0 7 (List.map encFile list))], [(b2, ⟨1, List.map (encL rn 1 encInt) out_0⟩)]⟩
   refine V.seq ?_
   refine V.seq ?_
   refine V.region ?_
   refine VO.cons rfl (V1.move rfl rfl rfl lt0 ?_)
   refine VO.cons rfl (V1.int rfl rfl rfl rfl rfl lt0 ?_)
   refine VO.nil ?_
   refine V.cond rfl (fun hc1 => ?_) (fun hc1 => ?_)
   ·
    replace hm1 := cond_t hc1 hm1
    refine V.skip ?_
    refine V.seq ?_
    replace hm1 := bindO hm1; rcases hm1 with ⟨j0, hm2, hm1⟩
    refine V.cutT (D := (List (List Int)) × (Nat)) (fun ⟨out_1, b3⟩ => ⟨50, [(4, .sref b3 1 0 (List.length out_1)), (0, .vl ρ0 7 (List.map encFile list)), (5, .int .i64 series)], [(b3, ⟨1, List.map (encL rn 1 encInt) out_1⟩)]⟩) (fun ⟨out_1, b3⟩ => (out_1 = j0)) ?_ ?_
    ·
     refine V.block ?_
     refine V.seq ?_
     refine V.region ?_
     refine VO.cons rfl (V1.assign rfl rfl rfl lt0 ?_)
     refine VO.cons rfl (V1.assign rfl rfl rfl lt0 ?_)
     refine VO.nil ?_
     refine V.seq ?_
     refine V.seq ?_
     refine V.region ?_
     refine VO.cons rfl (V1.assign rfl rfl rfl lt0 ?_)
     refine VO.nil ?_
     replace hm2 := bindO hm2; rcases hm2 with ⟨e1, he3, hm2⟩
     refine V.cutT (D := (Int × Int) × (Unit)) (fun ⟨⟨n_, pages⟩, _⟩ => ⟨50, [(6, .int .i64 n_), (7, .int .i64 pages), (0, .vl ρ0 7 (List.map encFile list)), (4, .sref b2 1 0 (List.length out_0)), (5, .int .i64 series)], [(b2, ⟨1, List.map (encL rn 1 encInt) out_0⟩)]⟩) (fun ⟨⟨n_, pages⟩, _⟩ => ((n_, pages) = e1)) ?_ ?_
     ·
      refine V.block ?_
      refine V.keep 50 [6, 7, 8, 0, 4, 5] [0] (E0 := [(6, .int .i64 (0 : Int)), (7, .int .i64 (0 : Int)), (8, .int .i64 (0 : Int)), (0, .vl ρ0 7 (List.map encFile list)), (4, .sref b2 1 0 (List.length out_0)), (5, .int .i64 series)]) (H0 := [(b2, ⟨1, List.map (encL rn 1 encInt) out_0⟩)]) rfl (⟨_, _, rfl, rfl, _, _, rfl, rfl, _, _, rfl, rfl, _, _, rfl, rfl, _, _, rfl, rfl, _, _, rfl, rfl, rfl⟩) (⟨_, _, rfl, rfl, rfl⟩) rfl ?_
      refine V.loopE (D := Nat × (Int × Int × Int) × (Unit)) (fun ⟨n1, ⟨n_0, pages0, i⟩, _⟩ => [(6, .int .i64 n_0), (7, .int .i64 pages0), (8, .int .i64 i)]) (fun ⟨n1, ⟨n_0, pages0, i⟩, _⟩ => []) (fun ⟨n1, ⟨n_0, pages0, i⟩, _⟩ => loopO (M.spec_SeriesPages_l1 list series) n1 (n_0, pages0, i) = some e1) (fun ⟨n1, _, _⟩ => n1) (rounds, ((0 : Int), (0 : Int), (0 : Int)), ()) rfl he3 ?_
      rintro ⟨n1, ⟨n_0, pages0, i⟩, _⟩ hP1
      obtain ⟨m1, y2, rfl, hm3, hl3, hr3⟩ := loop_head hP1
      unfold M.spec_SeriesPages_l1 at hm3; dsimp only at hm3
      show V _ _ _ ⟨50, [(6, .int .i64 n_0), (7, .int .i64 pages0), (8, .int .i64 i), (0, .vl ρ0 7 (List.map encFile list)), (4, .sref b2 1 0 (List.length out_0)), (5, .int .i64 series)], [(b2, ⟨1, List.map (encL rn 1 encInt) out_0⟩)]⟩
      refine V.seq ?_
      refine V.seq ?_
      refine V.region ?_
      refine VO.cons rfl (V1.move rfl rfl rfl lt0 ?_)
      refine VO.cons rfl (V1.move rfl rfl rfl lt0 ?_)
      refine VO.cons rfl (V1.lenMap rfl rfl rfl rfl rfl rfl isl_41 lt0 ?_)
      refine VO.cons rfl (V1.int rfl rfl rfl rfl rfl lt0 ?_)
      refine VO.nil ?_
      refine V.cond rfl (fun hc2 => ?_) (fun hc2 => ?_)
      ·
       replace hm3 := cond_t hc2 hm3
       refine V.skip ?_
       refine V.keep 50 [0, 4, 5, 6, 7, 8] [0] (E0 := [(0, .vl ρ0 7 (List.map encFile list)), (4, .sref b2 1 0 (List.length out_0)), (5, .int .i64 series), (6, .int .i64 n_0), (7, .int .i64 pages0), (8, .int .i64 i)]) (H0 := [(b2, ⟨1, List.map (encL rn 1 encInt) out_0⟩)]) rfl (⟨_, _, rfl, rfl, _, _, rfl, rfl, _, _, rfl, rfl, _, _, rfl, rfl, _, _, rfl, rfl, _, _, rfl, rfl, rfl⟩) (⟨_, _, rfl, rfl, rfl⟩) rfl ?_
       refine V.seq ?_
       replace hm3 := bindO hm3; rcases hm3 with ⟨j1, hm4, hm3⟩
       refine V.cutT (D := (Int × Int) × (Unit)) (fun ⟨⟨n_1, pages1⟩, _⟩ => ⟨50, [(6, .int .i64 n_1), (7, .int .i64 pages1), (0, .vl ρ0 7 (List.map encFile list)), (4, .sref b2 1 0 (List.length out_0)), (5, .int .i64 series), (8, .int .i64 i)], [(b2, ⟨1, List.map (encL rn 1 encInt) out_0⟩)]⟩) (fun ⟨⟨n_1, pages1⟩, _⟩ => ((n_1, pages1) = j1)) ?_ ?_
       ·
        refine V.block ?_
        refine V.seq ?_
        replace hm4 := asrt_some hm4; rcases hm4 with ⟨hh1, hm4⟩
        refine V.region ?_
        refine VO.cons rfl (V1.move rfl rfl rfl lt0 ?_)
        refine VO.cons rfl (V1.move rfl rfl rfl lt0 ?_)
        refine VO.cons rfl (V1.indexI rfl rfl esz_41 rfl rfl hh1 lt0 ?_)
        refine VO.cons rfl (V1.fieldPin rfl rfl fo_97_1 rfl lt0 ?_)
        refine VO.cons rfl (V1.loadPin rfl rfl tyk_3 rfl rfl lt0 ?_)
        refine VO.cons rfl (V1.move rfl rfl rfl lt0 ?_)
        refine VO.cons rfl (V1.int rfl rfl rfl rfl rfl lt0 ?_)
        refine VO.nil ?_
        refine V.keep 50 [0, 4, 5, 6, 7, 8, 30] [0] (E0 := [(0, .vl ρ0 7 (List.map encFile list)), (4, .sref b2 1 0 (List.length out_0)), (5, .int .i64 series), (6, .int .i64 n_0), (7, .int .i64 pages0), (8, .int .i64 i), (30, .bool (((list.getD (Int.toNat i) default).Series) == series))]) (H0 := [(b2, ⟨1, List.map (encL rn 1 encInt) out_0⟩)]) rfl (⟨_, _, rfl, rfl, _, _, rfl, rfl, _, _, rfl, rfl, _, _, rfl, rfl, _, _, rfl, rfl, _, _, rfl, rfl, _, _, rfl, rfl, rfl⟩) (⟨_, _, rfl, rfl, rfl⟩) rfl ?_
        refine V.cond rfl (fun hc3 => ?_) (fun hc3 => ?_)
        ·
         replace hm4 := cond_t hc3 hm4
         refine V.seq ?_
         refine V.region ?_
         refine VO.cons rfl (V1.move rfl rfl rfl lt0 ?_)
         refine VO.cons rfl (V1.int rfl rfl rfl rfl rfl lt0 ?_)
         refine VO.cons rfl (V1.assign rfl rfl rfl lt0 ?_)
         refine VO.nil ?_
         replace hm4 := asrt_some hm4; rcases hm4 with ⟨hh2, hm4⟩
         refine V.region ?_
         refine VO.cons rfl (V1.move rfl rfl rfl lt0 ?_)
         refine VO.cons rfl (V1.move rfl rfl rfl lt0 ?_)
         refine VO.cons rfl (V1.move rfl rfl rfl lt0 ?_)
         refine VO.cons rfl (V1.indexI rfl rfl esz_41 rfl rfl hh2 lt0 ?_)
         refine VO.cons rfl (V1.fieldPin rfl rfl fo_97_6 rfl lt0 ?_)
         refine VO.cons rfl (V1.loadPin rfl rfl tyk_3 rfl rfl lt0 ?_)
         refine VO.cons rfl (V1.int rfl rfl rfl rfl rfl lt0 ?_)
         refine VO.cons rfl (V1.assign rfl rfl rfl lt0 ?_)
         refine VO.nil ?_
         exact ⟨(((IntKind.i64.wrap (n_0 + (1 : Int))), (IntKind.i64.wrap (pages0 + ((list.getD (Int.toNat i) default).Pages)))), ()), Option.some.inj hm4, Keeps.mk (ks := [0]) rfl ⟨rfl, rfl, rfl, rfl, rfl, rfl, trivial⟩ (⟨_, _, rfl, rfl, rfl⟩) rfl⟩
        ·
         replace hm4 := cond_f hc3 hm4
         refine V.skip ?_
         exact ⟨((n_0, pages0), ()), Option.some.inj hm4, Keeps.mk (ks := [0]) rfl ⟨rfl, rfl, rfl, rfl, rfl, rfl, trivial⟩ (⟨_, _, rfl, rfl, rfl⟩) rfl⟩
       ·
        rintro ⟨⟨n_1, pages1⟩, _⟩ rfl
        try dsimp only at hm3
        refine V.region ?_
        refine VO.cons rfl (V1.move rfl rfl rfl lt0 ?_)
        refine VO.cons rfl (V1.int rfl rfl rfl rfl rfl lt0 ?_)
        refine VO.cons rfl (V1.assign rfl rfl rfl lt0 ?_)
        refine VO.nil ?_
        exact ⟨(m1, (n_1, pages1, (IntKind.i64.wrap (i + (1 : Int)))), ()), hl3 _ (Option.some.inj hm3).symm, Nat.lt_succ_self _, Keeps.mk (ks := [0]) rfl ⟨rfl, rfl, rfl, rfl, rfl, rfl, trivial⟩ (⟨_, _, rfl, rfl, rfl⟩) rfl⟩
      ·
       replace hm3 := cond_f hc2 hm3
       refine V.exit ?_
       obtain rfl := hr3 _ (Option.some.inj hm3).symm
       exact ⟨((n_0, pages0), ()), rfl, Keeps.mk (ks := [0]) rfl ⟨rfl, rfl, rfl, rfl, rfl, trivial⟩ (⟨_, _, rfl, rfl, rfl⟩) rfl⟩
     ·
      rintro ⟨⟨n_, pages⟩, _⟩ rfl
      try dsimp only at hm2
      refine V.seq ?_
      refine V.region ?_
      refine VO.cons rfl (V1.move rfl rfl rfl lt0 ?_)
      refine VO.cons rfl (V1.int rfl rfl rfl rfl rfl lt0 ?_)
      refine VO.nil ?_
      refine V.cond rfl (fun hc4 => ?_) (fun hc4 => ?_)
      ·
       replace hm2 := cond_t hc4 hm2
       replace hm2 := asrt_some hm2; rcases hm2 with ⟨hh3, hm2⟩
       refine V.region ?_
       refine VO.cons rfl (V1.move rfl rfl rfl lt0 ?_)
       refine VO.cons rfl (V1.move rfl rfl rfl lt0 ?_)
       refine VO.cons rfl (V1.move rfl rfl rfl lt0 ?_)
       refine VO.cons rfl (V1.move rfl rfl rfl lt0 ?_)
       refine VO.cons rfl (V1.buildSliceT (f := encInt) ([series, n_, pages] : List Int) rfl rfl esz_27 zk_3 rfl rfl rfl rfl rfl rfl rfl lt0 ?_)
       intro b4
       refine VO.weakenK (Keeps.freezeG 0 rn [(46, .vl rn 1 (List.map encInt ([series, n_, pages] : List Int)))] ([(b2, ⟨1, List.map (encL rn 1 encInt) out_0⟩)]) (f := encInt) (l := ([series, n_, pages] : List Int)) rfl (fun _ => rfl) ⟨⟨_, rfl, .here⟩, trivial⟩ ⟨_, _, rfl, rfl, .inl rfl, rfl⟩ rfl iNil) ?_
       refine VO.cons rfl (V1.buildSliceT (f := (encL rn 1 encInt)) ([([series, n_, pages] : List Int)] : List (List Int)) rfl rfl esz_47 zk_27 rfl rfl rfl rfl rfl rfl rfl lt0 ?_)
       intro b5
       refine VO.cons rfl (V1.appendMap (k := 1) (f := (encL rn 1 encInt)) (l := out_0) (m := ([([series, n_, pages] : List Int)] : List (List Int))) rfl rfl rfl rfl rfl esz_47 eby_47 zk_27 rfl rfl rfl (SrcOf.srMap (k := 0) rfl isl_47) hh3 lt0 ?_)
       intro b6
       refine VO.cons rfl (V1.assign rfl rfl rfl lt0 ?_)
       refine VO.nil ?_
       exact ⟨((out_0 ++ ([([series, n_, pages] : List Int)] : List (List Int))), b6), Option.some.inj hm2, Keeps.mk (ks := [0]) rfl ⟨rfl, rfl, rfl, trivial⟩ (⟨_, _, rfl, rfl, rfl⟩) rfl⟩
      ·
       replace hm2 := cond_f hc4 hm2
       refine V.skip ?_
       exact ⟨(out_0, b2), Option.some.inj hm2, Keeps.mk (ks := [0]) rfl ⟨rfl, rfl, rfl, trivial⟩ (⟨_, _, rfl, rfl, rfl⟩) rfl⟩
    ·
     rintro ⟨out_1, b3⟩ rfl
     try dsimp only at hm1
     refine V.region ?_
     refine VO.cons rfl (V1.move rfl rfl rfl lt0 ?_)
     refine VO.cons rfl (V1.int rfl rfl rfl rfl rfl lt0 ?_)
     refine VO.cons rfl (V1.assign rfl rfl rfl lt0 ?_)
     refine VO.nil ?_
     exact ⟨(m0, (out_1, (IntKind.i64.wrap (series + (1 : Int)))), b3), hl1 _ (Option.some.inj hm1).symm, Nat.lt_succ_self _, Keeps.mk (ks := [0]) rfl ⟨rfl, rfl, rfl, trivial⟩ (⟨_, _, rfl, rfl, rfl⟩) rfl⟩
   ·
    replace hm1 := cond_f hc1 hm1
    refine V.exit ?_
    obtain rfl := hr1 _ (Option.some.inj hm1).symm
    exact ⟨(out_0, b2), rfl, Keeps.mk (ks := [0]) rfl ⟨rfl, trivial⟩ (⟨_, _, rfl, rfl, rfl⟩) rfl⟩
  ·
   rintro ⟨out_, b1⟩ rfl
   try dsimp only at hm0
   refine V.seq ?_
   refine V.region ?_
   refine VO.cons rfl (V1.move rfl rfl rfl lt0 ?_)
   refine VO.cons rfl (V1.assign rfl rfl rfl lt0 ?_)
   refine VO.cons rfl (V1.assign rfl rfl rfl lt0 ?_)
   refine VO.nil ?_
   refine V.keep 50 [2, 3] [0] (E0 := [(2, .sref b1 1 0 (List.length out_)), (3, .bool true)]) (H0 := [(b1, ⟨1, List.map (encL rn 1 encInt) out_⟩)]) rfl (⟨_, _, rfl, rfl, _, _, rfl, rfl, rfl⟩) (⟨_, _, rfl, rfl, rfl⟩) rfl ?_
   refine V.ret ?_
   obtain rfl := Option.some.inj hm0
   exact ⟨_, _, ⟨_, _, rfl, rfl, _, _, rfl, rfl, rfl⟩, List.Sublist.refl _, b1, rfl, rfl⟩

theorem ok_laws_rTable {ρ0 σ0 ρ1 σ1 rn : Nat} {a : List (List Int)} {b_ : List (List Int)} {r : Bool} (h : M.laws_rTable a b_ = some r) : Does Tryd.prog 34 [.vl ρ0 1 (List.map (encL σ0 1 encInt) a), .vl ρ1 1 (List.map (encL σ1 1 encInt) b_)] [] rn (fun x H => x = .bool r ∧ H = []) := by
 have hm0 := h; clear h; unfold M.laws_rTable at hm0
 try dsimp only at hm0
 refine Does.intro (N := 27) Tryd.func34 rfl rfl rfl rfl ?_
 intro w0 S0 L0
 refine V.seq ?_
 refine V.region ?_
 refine VO.cons rfl (V1.assign rfl rfl rfl lt0 ?_)
 refine VO.nil ?_
 refine V.seq ?_
 refine V.seq ?_
 refine V.region ?_
 refine VO.cons rfl (V1.move rfl rfl rfl lt0 ?_)
 refine VO.cons rfl (V1.lenMap rfl rfl rfl rfl rfl rfl isl_47 lt0 ?_)
 refine VO.cons rfl (V1.move rfl rfl rfl lt0 ?_)
 refine VO.cons rfl (V1.lenMap rfl rfl rfl rfl rfl rfl isl_47 lt0 ?_)
 refine VO.cons rfl (V1.int rfl rfl rfl rfl rfl lt0 ?_)
 refine VO.nil ?_
 refine V.keep 27 [0, 1, 10] [] (E0 := [(0, .vl ρ0 1 (List.map (encL σ0 1 encInt) a)), (1, .vl ρ1 1 (List.map (encL σ1 1 encInt) b_)), (10, .bool ((a.length : Int) != (b_.length : Int)))]) (H0 := []) rfl (⟨_, _, rfl, rfl, _, _, rfl, rfl, _, _, rfl, rfl, rfl⟩) (rfl) rfl ?_
 refine V.cond rfl (fun hc0 => ?_) (fun hc0 => ?_)
 ·
  replace hm0 := cond_t hc0 hm0
  refine V.seq ?_
  refine V.region ?_
  refine VO.cons rfl (V1.assign rfl rfl rfl lt0 ?_)
  refine VO.nil ?_
  refine V.ret ?_
  obtain rfl := Option.some.inj hm0
  exact ⟨_, [], ⟨_, _, rfl, rfl, rfl⟩, List.nil_sublist _, rfl, rfl⟩
 ·
  replace hm0 := cond_f hc0 hm0
  refine V.skip ?_
  refine V.seq ?_
  refine V.seq ?_
  refine V.region ?_
  refine VO.cons rfl (V1.assign rfl rfl rfl lt0 ?_)
  refine VO.nil ?_
  replace hm0 := bindO hm0; rcases hm0 with ⟨e0, he1, hm0⟩
  refine V.cutT (D := (Unit) × (Unit)) (fun ⟨_, _⟩ => ⟨27, [], []⟩) (fun ⟨_, _⟩ => (.inl () = e0)) ?_ ?_
  ·
   refine V.block ?_
   refine V.keep 27 [5, 0, 1] [] (E0 := [(5, .int .i64 (0 : Int)), (0, .vl ρ0 1 (List.map (encL σ0 1 encInt) a)), (1, .vl ρ1 1 (List.map (encL σ1 1 encInt) b_))]) (H0 := []) rfl (⟨_, _, rfl, rfl, _, _, rfl, rfl, _, _, rfl, rfl, rfl⟩) (rfl) rfl ?_
   refine V.loopE (D := Nat × (Int) × (Unit)) (fun ⟨n0, i, _⟩ => [(5, .int .i64 i)]) (fun ⟨n0, i, _⟩ => []) (fun ⟨n0, i, _⟩ => loopO (M.laws_rTable_l0 a b_) n0 i = some e0) (fun ⟨n0, _, _⟩ => n0) (rounds, (0 : Int), ()) rfl he1 ?_
   rintro ⟨n0, i, _⟩ hP0
   obtain ⟨m0, y0, rfl, hm1, hl1, hr1⟩ := loop_head hP0
   unfold M.laws_rTable_l0 at hm1; dsimp only at hm1
   show V _ _ _ ⟨27, [(5, .int .i64 i), (0, .vl ρ0 1 (List.map (encL σ0 1 encInt) a)), (1, .vl ρ1 1 (List.map (encL σ1 1 encInt) b_))], []⟩
   refine V.seq ?_
   refine V.seq ?_
   refine V.region ?_
   refine VO.cons rfl (V1.move rfl rfl rfl lt0 ?_)
   refine VO.cons rfl (V1.move rfl rfl rfl lt0 ?_)
   refine VO.cons rfl (V1.lenMap rfl rfl rfl rfl rfl rfl isl_47 lt0 ?_)
   refine VO.cons rfl (V1.int rfl rfl rfl rfl rfl lt0 ?_)
   refine VO.nil ?_
   refine V.cond rfl (fun hc1 => ?_) (fun hc1 => ?_)
   ·
    replace hm1 := cond_t hc1 hm1
    refine V.skip ?_
    refine V.keep 27 [0, 1, 5] [] (E0 := [(0, .vl ρ0 1 (List.map (encL σ0 1 encInt) a)), (1, .vl ρ1 1 (List.map (encL σ1 1 encInt) b_)), (5, .int .i64 i)]) (H0 := []) rfl (⟨_, _, rfl, rfl, _, _, rfl, rfl, _, _, rfl, rfl, rfl⟩) (rfl) rfl ?_
    refine V.seq ?_
    refine V.block ?_
    refine V.seq ?_
    replace hm1 := asrt_some hm1; rcases hm1 with ⟨hh0, hm1⟩
    replace hm1 := asrt_some hm1; rcases hm1 with ⟨hh1, hm1⟩
    replace hm1 := bindO hm1; rcases hm1 with ⟨y1, hh2, hm1⟩
    refine V.regionM 27 8 [⟨[(0, none)], [], none⟩, ⟨[(5, none)], [], none⟩, ⟨[(17, some 1), (18, some 0)], [], none⟩, ⟨[(19, some 0)], [], none⟩, ⟨[(1, none)], [], none⟩, ⟨[(5, none)], [], none⟩, ⟨[(21, some 1), (22, some 0)], [], none⟩, ⟨[(23, some 0)], [], none⟩] [(0, none), (1, none), (5, none), (20, some 4), (24, some 0)] (⟨_, rfl, ⟨_, rfl, ⟨_, rfl, ⟨_, rfl, ⟨_, rfl, ⟨_, rfl, ⟨_, rfl, ⟨_, rfl, ⟨rfl, rfl⟩⟩⟩⟩⟩⟩⟩⟩⟩) mixed_orders rfl (by decide +kernel) (fun hck6 => ?_)
    refine VP.step (p := ?pv82) rfl rfl rfl (⟨_, _, rfl, rfl, rfl⟩) ?hv82 ?rest82 hck6
    case hv82 =>
     intro E1
     refine (V1.move rfl rfl rfl lt0 ?_)
     exact rfl
    refine VP.step (p := ?pv83) rfl rfl rfl (⟨_, _, rfl, rfl, rfl⟩) ?hv83 ?rest83 hck6
    case hv83 =>
     intro E1
     refine (V1.move rfl rfl rfl lt0 ?_)
     exact rfl
    refine VP.step (p := ?pv84) rfl rfl rfl (⟨_, _, rfl, rfl, _, _, rfl, rfl, rfl⟩) ?hv84 ?rest84 hck6
    case hv84 =>
     intro E1
     refine (V1.indexI rfl rfl esz_47 rfl rfl hh0 lt0 ?_)
     exact rfl
    refine VP.step (p := ?pv85) rfl rfl rfl (⟨_, _, rfl, rfl, rfl⟩) ?hv85 ?rest85 hck6
    case hv85 =>
     intro E1
     refine (V1.loadPin rfl rfl tyk_27 rfl rfl lt0 ?_)
     exact rfl
    refine VP.step (p := ?pv86) rfl rfl rfl (⟨_, _, rfl, rfl, rfl⟩) ?hv86 ?rest86 hck6
    case hv86 =>
     intro E1
     refine (V1.move rfl rfl rfl lt0 ?_)
     exact rfl
    refine VP.step (p := ?pv87) rfl rfl rfl (⟨_, _, rfl, rfl, rfl⟩) ?hv87 ?rest87 hck6
    case hv87 =>
     intro E1
     refine (V1.move rfl rfl rfl lt0 ?_)
     exact rfl
    refine VP.step (p := ?pv88) rfl rfl rfl (⟨_, _, rfl, rfl, _, _, rfl, rfl, rfl⟩) ?hv88 ?rest88 hck6
    case hv88 =>
     intro E1
     refine (V1.indexI rfl rfl esz_47 rfl rfl hh1 lt0 ?_)
     exact rfl
    refine VP.step (p := ?pv89) rfl rfl rfl (⟨_, _, rfl, rfl, rfl⟩) ?hv89 ?rest89 hck6
    case hv89 =>
     intro E1
     refine (V1.loadPin rfl rfl tyk_27 rfl rfl lt0 ?_)
     exact rfl
    refine VP.fin rfl (⟨_, _, rfl, rfl, _, _, rfl, rfl, _, _, rfl, rfl, _, _, rfl, rfl, _, _, rfl, rfl, rfl⟩) ?_
    refine VO.cons rfl (V1.call rfl rfl rfl cok_10 rfl (ok_laws_rInts hh2) rfl lt0 ?_)
    rintro _ _ ⟨rfl, rfl⟩
    refine VO.cons rfl (V1.not rfl rfl rfl lt0 ?_)
    refine VO.nil ?_
    refine V.cond rfl (fun hc2 => ?_) (fun hc2 => ?_)
    ·
     replace hm1 := cond_t hc2 hm1
     refine V.seq ?_
     refine V.region ?_
     refine VO.cons rfl (V1.assign rfl rfl rfl lt0 ?_)
     refine VO.nil ?_
     refine V.ret ?_
     obtain rfl := hr1 _ (Option.some.inj hm1).symm
     change some _ = some _ at hm0
     obtain rfl := Option.some.inj hm0
     exact ⟨_, [], ⟨_, _, rfl, rfl, rfl⟩, List.nil_sublist _, rfl, rfl⟩
    ·
     replace hm1 := cond_f hc2 hm1
     refine V.skip ?_
     refine V.keep 27 [0, 1, 5] [] (E0 := [(0, .vl ρ0 1 (List.map (encL σ0 1 encInt) a)), (1, .vl ρ1 1 (List.map (encL σ1 1 encInt) b_)), (5, .int .i64 i)]) (H0 := []) rfl (⟨_, _, rfl, rfl, _, _, rfl, rfl, _, _, rfl, rfl, rfl⟩) (rfl) rfl ?_
     refine V.region ?_
     refine VO.cons rfl (V1.move rfl rfl rfl lt0 ?_)
     refine VO.cons rfl (V1.int rfl rfl rfl rfl rfl lt0 ?_)
     refine VO.cons rfl (V1.assign rfl rfl rfl lt0 ?_)
     refine VO.nil ?_
     exact ⟨(m0, (IntKind.i64.wrap (i + (1 : Int))), ()), hl1 _ (Option.some.inj hm1).symm, Nat.lt_succ_self _, Keeps.mk (ks := []) rfl ⟨rfl, rfl, rfl, trivial⟩ (rfl) rfl⟩
   ·
    replace hm1 := cond_f hc1 hm1
    refine V.exit ?_
    obtain rfl := hr1 _ (Option.some.inj hm1).symm
    exact ⟨((), ()), rfl, Keeps.mk (ks := []) rfl trivial (rfl) rfl⟩
  ·
   rintro ⟨_, _⟩ rfl
   try dsimp only at hm0
   refine V.seq ?_
   refine V.region ?_
   refine VO.cons rfl (V1.assign rfl rfl rfl lt0 ?_)
   refine VO.nil ?_
   refine V.ret ?_
   obtain rfl := Option.some.inj hm0
   exact ⟨_, [], ⟨_, _, rfl, rfl, rfl⟩, List.nil_sublist _, rfl, rfl⟩

theorem ok_laws_FnPages {ρ0 rn : Nat} {code : List Int} {r : Bool} (h : M.laws_FnPages code = some r) : Does Tryd.prog 4 [.vl ρ0 1 (List.map encU8 code)] [] rn (fun x H => x = .bool r ∧ H = []) := by
 have hm0 := h; clear h; unfold M.laws_FnPages at hm0
 try dsimp only at hm0
 refine Does.intro (N := 261) Tryd.func4 rfl rfl rfl rfl ?_
 intro w0 S0 L0
 refine V.seq ?_
 refine V.region ?_
 refine VO.cons rfl (V1.assign rfl rfl rfl lt0 ?_)
 refine VO.nil ?_
 refine V.seq ?_
 refine V.seq ?_
 replace hm0 := bindO hm0; rcases hm0 with ⟨y0, hh0, hm0⟩
 refine V.region ?_
 refine VO.cons rfl (V1.move rfl rfl rfl lt0 ?_)
 refine VO.cons rfl (V1.call rfl rfl rfl cok_6 rfl (ok_laws_rBig hh0) rfl lt0 ?_)
 rintro _ _ ⟨rfl, rfl⟩
 refine VO.nil ?_
 refine V.cond rfl (fun hc0 => ?_) (fun hc0 => ?_)
 ·
  replace hm0 := cond_t hc0 hm0
  refine V.seq ?_
  refine V.region ?_
  refine VO.cons rfl (V1.assign rfl rfl rfl lt0 ?_)
  refine VO.nil ?_
  refine V.ret ?_
  obtain rfl := Option.some.inj hm0
  exact ⟨_, [], ⟨_, _, rfl, rfl, rfl⟩, List.nil_sublist _, rfl, rfl⟩
 ·
  replace hm0 := cond_f hc0 hm0
  refine V.skip ?_
  refine V.seq ?_
  replace hm0 := bindO hm0; rcases hm0 with ⟨y1, hh1, hm0⟩
  refine V.region ?_
  refine VO.cons rfl (V1.move rfl rfl rfl lt0 ?_)
  refine VO.cons rfl (V1.call rfl rfl rfl cok_20 rfl (ok_spec_DrawSplitFile hh1) rfl lt0 ?_)
  rintro _ _ ⟨b0, rfl, rfl⟩
  refine VO.cons rfl (V1.move rfl rfl rfl lt0 ?_)
  refine VO.cons rfl (V1.extract rfl rfl rfl rfl lt0 ?_)
  refine VO.weakenK (Keeps.freezeG 0 rn [(44, .vl rn 7 (List.map encFile y1.1))] ([]) (f := encFile) (l := y1.1) rfl (fun _ => rfl) ⟨⟨_, rfl, .here⟩, trivial⟩ rfl rfl iNil) ?_
  refine VO.cons rfl (V1.extract rfl rfl rfl rfl lt0 ?_)
  refine VO.cons rfl (V1.extract rfl rfl rfl rfl lt0 ?_)
  refine VO.cons rfl (V1.extract rfl rfl rfl rfl lt0 ?_)
  refine VO.cons rfl (V1.assign rfl rfl rfl lt0 ?_)
  refine VO.cons rfl (V1.assign rfl rfl rfl lt0 ?_)
  refine VO.cons rfl (V1.assign rfl rfl rfl lt0 ?_)
  refine VO.cons rfl (V1.assign rfl rfl rfl lt0 ?_)
  refine VO.nil ?_
  refine V.keep 261 [0, 3, 4, 5, 6] [] (E0 := [(0, .vl ρ0 1 (List.map encU8 code)), (3, .vl rn 7 (List.map encFile y1.1)), (4, .int .i64 y1.2.1), (5, .int .i64 y1.2.2.1), (6, .str y1.2.2.2)]) (H0 := []) rfl (⟨_, _, rfl, rfl, _, _, rfl, rfl, _, _, rfl, rfl, _, _, rfl, rfl, _, _, rfl, rfl, rfl⟩) (rfl) rfl ?_
  refine V.seq ?_
  replace hm0 := bindO hm0; rcases hm0 with ⟨y2, hh2, hm0⟩
  refine V.region ?_
  refine VO.cons rfl (V1.move rfl rfl rfl lt0 ?_)
  refine VO.cons rfl (V1.move rfl rfl rfl lt0 ?_)
  refine VO.cons rfl (V1.move rfl rfl rfl lt0 ?_)
  refine VO.cons rfl (V1.move rfl rfl rfl lt0 ?_)
  refine VO.cons rfl (V1.permK (V1.call rfl rfl rfl cok_21 rfl (ok_impl_SplitFile hh2) rfl lt0 ?_))
  rintro _ _ ⟨ob0, hob0, rfl, rfl⟩
  refine ⟨_, ?_, Keeps.optBack (n := 7) (ob := ob0) (xs := List.map encFile y2.1) (H1 := []) (H2 := []) rfl⟩
  refine VO.cons rfl (V1.move rfl rfl rfl lt0 ?_)
  refine VO.cons rfl (V1.extract rfl rfl rfl rfl lt0 ?_)
  refine VO.weakenK (Keeps.optFront (n := 7) (ob := ob0) (xs := (List.map encFile y2.1)) (H1 := []) rfl) ?_
  refine VO.weakenK (Keeps.optVl 54 [] rn (f := encFile) (l := y2.1) (ob := ob0) (H1 := []) hob0 rfl rfl ⟨rfl, trivial⟩ (fun _ => rfl) rfl iNil) ?_
  refine VO.cons rfl (V1.extract rfl rfl rfl rfl lt0 ?_)
  refine VO.cons rfl (V1.extract rfl rfl rfl rfl lt0 ?_)
  refine VO.cons rfl (V1.assign rfl rfl rfl lt0 ?_)
  refine VO.cons rfl (V1.assign rfl rfl rfl lt0 ?_)
  refine VO.cons rfl (V1.assign rfl rfl rfl lt0 ?_)
  refine VO.nil ?_
  refine V.keep 261 [0, 3, 4, 5, 6, 7, 8, 9] [] (E0 := [(0, .vl ρ0 1 (List.map encU8 code)), (3, .vl rn 7 (List.map encFile y1.1)), (4, .int .i64 y1.2.1), (5, .int .i64 y1.2.2.1), (6, .str y1.2.2.2), (7, .vl rn 7 (List.map encFile y2.1)), (8, .int .i64 y2.2.1), (9, .bool y2.2.2)]) (H0 := []) rfl (⟨_, _, rfl, rfl, _, _, rfl, rfl, _, _, rfl, rfl, _, _, rfl, rfl, _, _, rfl, rfl, _, _, rfl, rfl, _, _, rfl, rfl, _, _, rfl, rfl, rfl⟩) (rfl) rfl ?_
  refine V.seq ?_
  refine V.seq ?_
  replace hm0 := bindO hm0; rcases hm0 with ⟨y3, hh3, hm0⟩
  refine V.region ?_
  refine VO.cons rfl (V1.move rfl rfl rfl lt0 ?_)
  refine VO.cons rfl (V1.move rfl rfl rfl lt0 ?_)
  refine VO.cons rfl (V1.move rfl rfl rfl lt0 ?_)
  refine VO.cons rfl (V1.move rfl rfl rfl lt0 ?_)
  refine VO.cons rfl (V1.call rfl rfl rfl cok_22 rfl (ok_spec_SplitFile hh3) rfl lt0 ?_)
  rintro _ _ ⟨b1, rfl, rfl⟩
  refine VO.cons rfl (V1.move rfl rfl rfl lt0 ?_)
  refine VO.cons rfl (V1.extract rfl rfl rfl rfl lt0 ?_)
  refine VO.weakenK (Keeps.freezeG 0 rn [(63, .vl rn 7 (List.map encFile y3.1))] ([]) (f := encFile) (l := y3.1) rfl (fun _ => rfl) ⟨⟨_, rfl, .here⟩, trivial⟩ rfl rfl iNil) ?_
  refine VO.cons rfl (V1.extract rfl rfl rfl rfl lt0 ?_)
  refine VO.cons rfl (V1.extract rfl rfl rfl rfl lt0 ?_)
  refine VO.cons rfl (V1.assign rfl rfl rfl lt0 ?_)
  refine VO.cons rfl (V1.assign rfl rfl rfl lt0 ?_)
  refine VO.cons rfl (V1.assign rfl rfl rfl lt0 ?_)
  refine VO.nil ?_
  refine V.keep 261 [0, 3, 7, 8, 9, 10, 11, 12] [] (E0 := [(0, .vl ρ0 1 (List.map encU8 code)), (3, .vl rn 7 (List.map encFile y1.1)), (7, .vl rn 7 (List.map encFile y2.1)), (8, .int .i64 y2.2.1), (9, .bool y2.2.2), (10, .vl rn 7 (List.map encFile y3.1)), (11, .int .i64 y3.2.1), (12, .bool y3.2.2)]) (H0 := []) rfl (⟨_, _, rfl, rfl, _, _, rfl, rfl, _, _, rfl, rfl, _, _, rfl, rfl, _, _, rfl, rfl, _, _, rfl, rfl, _, _, rfl, rfl, _, _, rfl, rfl, rfl⟩) (rfl) rfl ?_
  refine V.seq ?_
  replace hm0 := bindO hm0; rcases hm0 with ⟨y4, hh4, hm0⟩
  refine V.region ?_
  refine VO.cons rfl (V1.move rfl rfl rfl lt0 ?_)
  refine VO.cons rfl (V1.move rfl rfl rfl lt0 ?_)
  refine VO.cons rfl (V1.boolNeq rfl rfl und_4 rfl rfl lt0 ?_)
  refine VO.cons rfl (V1.move rfl rfl rfl lt0 ?_)
  apply VO.or (n := 3) rfl rfl rfl rfl rfl rfl lt0 (.none rfl)
  ·
   intro hg0
   refine VO.step (.some rfl rfl rfl) (V1.move rfl rfl rfl lt0 ?_)
   refine VO.step (.some rfl rfl rfl) (V1.move rfl rfl rfl lt0 ?_)
   refine VO.step (.some rfl rfl rfl) (V1.int rfl rfl rfl rfl rfl lt0 ?_)
   exact VO.nil ⟨rfl, rfl, rfl, rfl, .inr ⟨rfl, .inr ⟨rfl, .inr ⟨rfl, .inr ⟨rfl, .inl rfl⟩⟩⟩⟩⟩
  refine VO.cons rfl (V1.move rfl rfl rfl lt0 ?_)
  apply VO.or (n := 4) rfl rfl rfl rfl rfl rfl lt0 (.none rfl)
  ·
   intro hg1
   refine VO.step (.some rfl rfl rfl) (V1.move rfl rfl rfl lt0 ?_)
   refine VO.step (.some rfl rfl rfl) (V1.move rfl rfl rfl lt0 ?_)
   refine VO.step (.some rfl rfl rfl) (V1.call rfl rfl rfl cok_23 rfl (ok_laws_rFiles (cond_f hg1 hh4)) rfl lt0 ?_)
   rintro _ _ ⟨rfl, rfl⟩
   refine VO.step (.some rfl rfl rfl) (V1.not rfl rfl rfl lt0 ?_)
   exact VO.nil ⟨rfl, rfl, rfl, rfl, .inr ⟨rfl, .inr ⟨rfl, .inr ⟨rfl, .inr ⟨rfl, .inr ⟨rfl, .inl rfl⟩⟩⟩⟩⟩⟩
  refine VO.nil ?_
  refine V.keep 261 [0, 3, 7, 9, 79] [] (E0 := [(0, .vl ρ0 1 (List.map encU8 code)), (3, .vl rn 7 (List.map encFile y1.1)), (7, .vl rn 7 (List.map encFile y2.1)), (9, .bool y2.2.2), (79, .bool (((!(y2.2.2 == y3.2.2)) || (y2.2.1 != y3.2.1)) || (!y4)))]) (H0 := []) rfl (⟨_, _, rfl, rfl, _, _, rfl, rfl, _, _, rfl, rfl, _, _, rfl, rfl, _, _, rfl, rfl, rfl⟩) (rfl) rfl ?_
  refine V.cond rfl (fun hc1 => ?_) (fun hc1 => ?_)
  ·
   replace hm0 := cond_t hc1 hm0
   refine V.seq ?_
   refine V.region ?_
   refine VO.cons rfl (V1.assign rfl rfl rfl lt0 ?_)
   refine VO.nil ?_
   refine V.ret ?_
   obtain rfl := Option.some.inj hm0
   exact ⟨_, [], ⟨_, _, rfl, rfl, rfl⟩, List.nil_sublist _, rfl, rfl⟩
  ·
   replace hm0 := cond_f hc1 hm0
   refine V.skip ?_
   refine V.seq ?_
   replace hm0 := bindO hm0; rcases hm0 with ⟨j0, hm1, hm0⟩
   refine V.cutT (D := (Unit) × (Unit)) (fun ⟨_, _⟩ => ⟨261, [(0, .vl ρ0 1 (List.map encU8 code))], []⟩) (fun ⟨_, _⟩ => (.inl () = j0)) ?_ ?_
   ·
    refine V.seq ?_
    refine V.region ?_
    refine VO.cons rfl (V1.move rfl rfl rfl lt0 ?_)
    refine VO.nil ?_
    refine V.cond rfl (fun hc2 => ?_) (fun hc2 => ?_)
    ·
     replace hm1 := cond_t hc2 hm1
     refine V.seq ?_
     replace hm1 := bindO hm1; rcases hm1 with ⟨y5, hh5, hm1⟩
     refine V.region ?_
     refine VO.cons rfl (V1.move rfl rfl rfl lt0 ?_)
     refine VO.cons rfl (V1.permK (V1.call rfl rfl rfl cok_24 rfl (ok_impl_SeriesPages hh5) rfl lt0 ?_))
     rintro _ _ ⟨ob1, ts_673, os_673, hob1, hd_673, rfl, rfl⟩
     refine ⟨_, ?_, Keeps.perm (optH 1 ob1 (deepC (cellRow (β := Int)) ts_673 y5.1) ++ (([] : List (Nat × Obj')) ++ os_673)) (permDeepO1 (o := optH 1 ob1 (deepC (cellRow (β := Int)) ts_673 y5.1)) (os := os_673) (A := []))⟩
     refine VO.cons rfl (V1.move rfl rfl rfl lt0 ?_)
     refine VO.cons rfl (V1.extract rfl rfl rfl rfl lt0 ?_)
     refine VO.weakenK (Keeps.frzDeepO (A := []) (os := os_673) (xs := y5.1) (enc := (encL rn 1 encInt)) (cokRow 1 encInt) 84 hob1 hd_673 rfl rfl (fun _ => roL_map (fun _ => rfl) _) (fun _ => rfl) rfl rfl iNil) ?_
     refine VO.cons rfl (V1.extract rfl rfl rfl rfl lt0 ?_)
     refine VO.cons rfl (V1.assign rfl rfl rfl lt0 ?_)
     refine VO.cons rfl (V1.assign rfl rfl rfl lt0 ?_)
     refine VO.nil ?_
     refine V.keep 261 [0, 7, 13, 14] [] (E0 := [(0, .vl ρ0 1 (List.map encU8 code)), (7, .vl rn 7 (List.map encFile y2.1)), (13, .vl rn 1 (List.map (encL rn 1 encInt) y5.1)), (14, .bool y5.2)]) (H0 := []) rfl (⟨_, _, rfl, rfl, _, _, rfl, rfl, _, _, rfl, rfl, _, _, rfl, rfl, rfl⟩) (rfl) rfl ?_
     refine V.seq ?_
     replace hm1 := bindO hm1; rcases hm1 with ⟨y6, hh6, hm1⟩
     refine V.region ?_
     refine VO.cons rfl (V1.move rfl rfl rfl lt0 ?_)
     refine VO.cons rfl (V1.permK (V1.call rfl rfl rfl cok_24 rfl (ok_impl_SeriesPages hh6) rfl lt0 ?_))
     rintro _ _ ⟨ob2, ts_674, os_674, hob2, hd_674, rfl, rfl⟩
     refine ⟨_, ?_, Keeps.perm (optH 1 ob2 (deepC (cellRow (β := Int)) ts_674 y6.1) ++ (([] : List (Nat × Obj')) ++ os_674)) (permDeepO1 (o := optH 1 ob2 (deepC (cellRow (β := Int)) ts_674 y6.1)) (os := os_674) (A := []))⟩
     refine VO.cons rfl (V1.move rfl rfl rfl lt0 ?_)
     refine VO.cons rfl (V1.extract rfl rfl rfl rfl lt0 ?_)
     refine VO.weakenK (Keeps.frzDeepO (A := []) (os := os_674) (xs := y6.1) (enc := (encL rn 1 encInt)) (cokRow 1 encInt) 89 hob2 hd_674 rfl rfl (fun _ => roL_map (fun _ => rfl) _) (fun _ => rfl) rfl rfl iNil) ?_
     refine VO.cons rfl (V1.extract rfl rfl rfl rfl lt0 ?_)
     refine VO.cons rfl (V1.assign rfl rfl rfl lt0 ?_)
     refine VO.cons rfl (V1.assign rfl rfl rfl lt0 ?_)
     refine VO.nil ?_
     refine V.keep 261 [0, 7, 13, 14, 15, 16] [] (E0 := [(0, .vl ρ0 1 (List.map encU8 code)), (7, .vl rn 7 (List.map encFile y2.1)), (13, .vl rn 1 (List.map (encL rn 1 encInt) y5.1)), (14, .bool y5.2), (15, .vl rn 1 (List.map (encL rn 1 encInt) y6.1)), (16, .bool y6.2)]) (H0 := []) rfl (⟨_, _, rfl, rfl, _, _, rfl, rfl, _, _, rfl, rfl, _, _, rfl, rfl, _, _, rfl, rfl, _, _, rfl, rfl, rfl⟩) (rfl) rfl ?_
     refine V.seq ?_
     refine V.seq ?_
     replace hm1 := bindO hm1; rcases hm1 with ⟨y7, hh7, hm1⟩
     refine V.region ?_
     refine VO.cons rfl (V1.move rfl rfl rfl lt0 ?_)
     refine VO.cons rfl (V1.not rfl rfl rfl lt0 ?_)
     refine VO.cons rfl (V1.move rfl rfl rfl lt0 ?_)
     apply VO.or (n := 2) rfl rfl rfl rfl rfl rfl lt0 (.none rfl)
     ·
      intro hg2
      refine VO.step (.some rfl rfl rfl) (V1.move rfl rfl rfl lt0 ?_)
      refine VO.step (.some rfl rfl rfl) (V1.not rfl rfl rfl lt0 ?_)
      exact VO.nil ⟨rfl, rfl, rfl, rfl, .inr ⟨rfl, .inr ⟨rfl, .inr ⟨rfl, .inl rfl⟩⟩⟩⟩
     refine VO.cons rfl (V1.move rfl rfl rfl lt0 ?_)
     apply VO.or (n := 5) rfl rfl rfl rfl rfl rfl lt0 (.none rfl)
     ·
      intro hg3
      refine VO.step (.some rfl rfl rfl) (V1.move rfl rfl rfl lt0 ?_)
      refine VO.step (.some rfl rfl rfl) (V1.lenMap rfl rfl rfl rfl rfl rfl isl_47 lt0 ?_)
      refine VO.step (.some rfl rfl rfl) (V1.move rfl rfl rfl lt0 ?_)
      refine VO.step (.some rfl rfl rfl) (V1.lenMap rfl rfl rfl rfl rfl rfl isl_47 lt0 ?_)
      refine VO.step (.some rfl rfl rfl) (V1.int rfl rfl rfl rfl rfl lt0 ?_)
      exact VO.nil ⟨rfl, rfl, rfl, rfl, .inr ⟨rfl, .inr ⟨rfl, .inr ⟨rfl, .inr ⟨rfl, .inr ⟨rfl, .inr ⟨rfl, .inl rfl⟩⟩⟩⟩⟩⟩⟩
     refine VO.cons rfl (V1.move rfl rfl rfl lt0 ?_)
     apply VO.or (n := 3) rfl rfl rfl rfl rfl rfl lt0 (.none rfl)
     ·
      intro hg4
      refine VO.step (.some rfl rfl rfl) (V1.move rfl rfl rfl lt0 ?_)
      refine VO.step (.some rfl rfl rfl) (V1.call rfl rfl rfl cok_25 rfl (ok_impl_AreFiles (cond_f hg4 hh7)) rfl lt0 ?_)
      rintro _ _ ⟨rfl, rfl⟩
      refine VO.step (.some rfl rfl rfl) (V1.not rfl rfl rfl lt0 ?_)
      exact VO.nil ⟨rfl, rfl, rfl, rfl, .inr ⟨rfl, .inr ⟨rfl, .inr ⟨rfl, .inr ⟨rfl, .inl rfl⟩⟩⟩⟩⟩
     refine VO.nil ?_
     refine V.keep 261 [0, 13, 15, 108] [] (E0 := [(0, .vl ρ0 1 (List.map encU8 code)), (13, .vl rn 1 (List.map (encL rn 1 encInt) y5.1)), (15, .vl rn 1 (List.map (encL rn 1 encInt) y6.1)), (108, .bool ((((!y5.2) || (!y6.2)) || ((y5.1.length : Int) != (y6.1.length : Int))) || (!y7)))]) (H0 := []) rfl (⟨_, _, rfl, rfl, _, _, rfl, rfl, _, _, rfl, rfl, _, _, rfl, rfl, rfl⟩) (rfl) rfl ?_
     refine V.cond rfl (fun hc3 => ?_) (fun hc3 => ?_)
     ·
      replace hm1 := cond_t hc3 hm1
      refine V.seq ?_
      refine V.region ?_
      refine VO.cons rfl (V1.assign rfl rfl rfl lt0 ?_)
      refine VO.nil ?_
      refine V.ret ?_
      obtain rfl := Option.some.inj hm1
      change some _ = some _ at hm0
      obtain rfl := Option.some.inj hm0
      exact ⟨_, [], ⟨_, _, rfl, rfl, rfl⟩, List.nil_sublist _, rfl, rfl⟩
     ·
      replace hm1 := cond_f hc3 hm1
      refine V.skip ?_
      refine V.seq ?_
      refine V.region ?_
      refine VO.cons rfl (V1.assign rfl rfl rfl lt0 ?_)
      refine VO.nil ?_
      replace hm1 := bindO hm1; rcases hm1 with ⟨e0, he2, hm1⟩
      refine V.cutT (D := (Unit) × (Unit)) (fun ⟨_, _⟩ => ⟨261, [(0, .vl ρ0 1 (List.map encU8 code))], []⟩) (fun ⟨_, _⟩ => (.inl () = e0)) ?_ ?_
      ·
       refine V.block ?_
       refine V.keep 261 [17, 0, 13, 15] [] (E0 := [(17, .int .i64 (0 : Int)), (0, .vl ρ0 1 (List.map encU8 code)), (13, .vl rn 1 (List.map (encL rn 1 encInt) y5.1)), (15, .vl rn 1 (List.map (encL rn 1 encInt) y6.1))]) (H0 := []) rfl (⟨_, _, rfl, rfl, _, _, rfl, rfl, _, _, rfl, rfl, _, _, rfl, rfl, rfl⟩) (rfl) rfl ?_
       refine V.loopE (D := Nat × (Int) × (Unit)) (fun ⟨n0, i, _⟩ => [(17, .int .i64 i)]) (fun ⟨n0, i, _⟩ => []) (fun ⟨n0, i, _⟩ => loopO (M.laws_FnPages_l0 y5 y6) n0 i = some e0) (fun ⟨n0, _, _⟩ => n0) (rounds, (0 : Int), ()) rfl he2 ?_
       rintro ⟨n0, i, _⟩ hP0
       obtain ⟨m0, y8, rfl, hm2, hl2, hr2⟩ := loop_head hP0
       unfold M.laws_FnPages_l0 at hm2; dsimp only at hm2
       show V _ _ _ ⟨261, [(17, .int .i64 i), (0, .vl ρ0 1 (List.map encU8 code)), (13, .vl rn 1 (List.map (encL rn 1 encInt) y5.1)), (15, .vl rn 1 (List.map (encL rn 1 encInt) y6.1))], []⟩
       refine V.seq ?_
       refine V.seq ?_
       refine V.region ?_
       refine VO.cons rfl (V1.move rfl rfl rfl lt0 ?_)
       refine VO.cons rfl (V1.move rfl rfl rfl lt0 ?_)
       refine VO.cons rfl (V1.lenMap rfl rfl rfl rfl rfl rfl isl_47 lt0 ?_)
       refine VO.cons rfl (V1.int rfl rfl rfl rfl rfl lt0 ?_)
       refine VO.nil ?_
       refine V.cond rfl (fun hc4 => ?_) (fun hc4 => ?_)
       ·
        replace hm2 := cond_t hc4 hm2
        refine V.skip ?_
        refine V.keep 261 [0, 13, 15, 17] [] (E0 := [(0, .vl ρ0 1 (List.map encU8 code)), (13, .vl rn 1 (List.map (encL rn 1 encInt) y5.1)), (15, .vl rn 1 (List.map (encL rn 1 encInt) y6.1)), (17, .int .i64 i)]) (H0 := []) rfl (⟨_, _, rfl, rfl, _, _, rfl, rfl, _, _, rfl, rfl, _, _, rfl, rfl, rfl⟩) (rfl) rfl ?_
        refine V.seq ?_
        refine V.block ?_
        refine V.seq ?_
        replace hm2 := asrt_some hm2; rcases hm2 with ⟨hh8, hm2⟩
        replace hm2 := asrt_some hm2; rcases hm2 with ⟨hh9, hm2⟩
        replace hm2 := asrt_some hm2; rcases hm2 with ⟨hh10, hm2⟩
        replace hm2 := asrt_some hm2; rcases hm2 with ⟨hh11, hm2⟩
        replace hm2 := asrt_some hm2; rcases hm2 with ⟨hh12, hm2⟩
        replace hm2 := asrt_some hm2; rcases hm2 with ⟨hh13, hm2⟩
        replace hm2 := asrt_some hm2; rcases hm2 with ⟨hh14, hm2⟩
        replace hm2 := asrt_some hm2; rcases hm2 with ⟨hh15, hm2⟩
        replace hm2 := asrt_some hm2; rcases hm2 with ⟨hh16, hm2⟩
        replace hm2 := asrt_some hm2; rcases hm2 with ⟨hh17, hm2⟩
        refine V.regionM 261 44 [⟨[(13, none)], [], none⟩, ⟨[(17, none)], [], none⟩, ⟨[(115, some 1), (116, some 0)], [], none⟩, ⟨[(117, some 0)], [], none⟩, ⟨[(118, some 0)], [], none⟩, ⟨[(119, some 0)], [], none⟩, ⟨[(120, some 0)], [], none⟩, ⟨[(15, none)], [(0, false)], none⟩, ⟨[(17, none)], [(1, false)], none⟩, ⟨[(122, some 1), (123, some 0)], [(2, false)], none⟩, ⟨[(124, some 0)], [(3, false)], none⟩, ⟨[(125, some 0)], [(4, false)], none⟩, ⟨[(126, some 0)], [(5, false)], none⟩, ⟨[], [], some (false, 121, 127, 6, 0)⟩, ⟨[(128, some 0)], [], none⟩, ⟨[(13, none)], [(0, false)], none⟩, ⟨[(17, none)], [(1, false)], none⟩, ⟨[(130, some 1), (131, some 0)], [(2, false)], none⟩, ⟨[(132, some 0)], [(3, false)], none⟩, ⟨[(133, some 0)], [(4, false)], none⟩, ⟨[(134, some 0)], [(5, false)], none⟩, ⟨[(15, none)], [(6, false)], none⟩, ⟨[(17, none)], [(7, false)], none⟩, ⟨[(136, some 1), (137, some 0)], [(8, false)], none⟩, ⟨[(138, some 0)], [(9, false)], none⟩, ⟨[(139, some 0)], [(10, false)], none⟩, ⟨[(140, some 0)], [(11, false)], none⟩, ⟨[(135, some 6), (141, some 0)], [(12, false)], none⟩, ⟨[], [], some (false, 129, 142, 13, 0)⟩, ⟨[(143, some 0)], [], none⟩, ⟨[(13, none)], [(0, false)], none⟩, ⟨[(17, none)], [(1, false)], none⟩, ⟨[(145, some 1), (146, some 0)], [(2, false)], none⟩, ⟨[(147, some 0)], [(3, false)], none⟩, ⟨[(148, some 0)], [(4, false)], none⟩, ⟨[(149, some 0)], [(5, false)], none⟩, ⟨[(15, none)], [(6, false)], none⟩, ⟨[(17, none)], [(7, false)], none⟩, ⟨[(151, some 1), (152, some 0)], [(8, false)], none⟩, ⟨[(153, some 0)], [(9, false)], none⟩, ⟨[(154, some 0)], [(10, false)], none⟩, ⟨[(155, some 0)], [(11, false)], none⟩, ⟨[(150, some 6), (156, some 0)], [(12, false)], none⟩, ⟨[], [], some (false, 144, 157, 13, 0)⟩] [(0, none), (13, none), (15, none), (17, none), (158, some 0)] (⟨_, rfl, ⟨_, rfl, ⟨_, rfl, ⟨_, rfl, ⟨_, rfl, ⟨_, rfl, ⟨_, rfl, ⟨_, rfl, ⟨_, rfl, ⟨_, rfl, ⟨_, rfl, ⟨_, rfl, ⟨_, rfl, ⟨_, rfl, ⟨_, rfl, ⟨_, rfl, ⟨_, rfl, ⟨_, rfl, ⟨_, rfl, ⟨_, rfl, ⟨_, rfl, ⟨_, rfl, ⟨_, rfl, ⟨_, rfl, ⟨_, rfl, ⟨_, rfl, ⟨_, rfl, ⟨_, rfl, ⟨_, rfl, ⟨_, rfl, ⟨_, rfl, ⟨_, rfl, ⟨_, rfl, ⟨_, rfl, ⟨_, rfl, ⟨_, rfl, ⟨_, rfl, ⟨_, rfl, ⟨_, rfl, ⟨_, rfl, ⟨_, rfl, ⟨_, rfl, ⟨_, rfl, ⟨_, rfl, ⟨rfl, rfl⟩⟩⟩⟩⟩⟩⟩⟩⟩⟩⟩⟩⟩⟩⟩⟩⟩⟩⟩⟩⟩⟩⟩⟩⟩⟩⟩⟩⟩⟩⟩⟩⟩⟩⟩⟩⟩⟩⟩⟩⟩⟩⟩⟩⟩) mixed_orders rfl (by decide +kernel) (fun hck16 => ?_)
        refine VP.step (p := ?pv759) rfl rfl rfl (⟨_, _, rfl, rfl, rfl⟩) ?hv759 ?rest759 hck16
        case hv759 =>
         intro E1
         refine (V1.move rfl rfl rfl lt0 ?_)
         exact rfl
        refine VP.step (p := ?pv760) rfl rfl rfl (⟨_, _, rfl, rfl, rfl⟩) ?hv760 ?rest760 hck16
        case hv760 =>
         intro E1
         refine (V1.move rfl rfl rfl lt0 ?_)
         exact rfl
        refine VP.step (p := ?pv761) rfl rfl rfl (⟨_, _, rfl, rfl, _, _, rfl, rfl, rfl⟩) ?hv761 ?rest761 hck16
        case hv761 =>
         intro E1
         refine (V1.indexI rfl rfl esz_47 rfl rfl hh8 lt0 ?_)
         exact rfl
        refine VP.step (p := ?pv762) rfl rfl rfl (⟨_, _, rfl, rfl, rfl⟩) ?hv762 ?rest762 hck16
        case hv762 =>
         intro E1
         refine (V1.loadPin rfl rfl tyk_27 rfl rfl lt0 ?_)
         exact rfl
        refine VP.step (p := ?pv763) rfl rfl rfl (⟨_, _, rfl, rfl, rfl⟩) ?hv763 ?rest763 hck16
        case hv763 =>
         intro E1
         refine (V1.lenMap rfl rfl rfl rfl rfl rfl isl_27 lt0 ?_)
         exact rfl
        refine VP.step (p := ?pv764) rfl rfl rfl (⟨_, _, rfl, rfl, rfl⟩) ?hv764 ?rest764 hck16
        case hv764 =>
         intro E1
         refine (V1.int rfl rfl rfl rfl rfl lt0 ?_)
         exact rfl
        refine VP.step (p := ?pv765) rfl rfl rfl (⟨_, _, rfl, rfl, rfl⟩) ?hv765 ?rest765 hck16
        case hv765 =>
         intro E1
         refine (V1.move rfl rfl rfl lt0 ?_)
         exact rfl
        refine VP.step (p := ?pv766) rfl rfl rfl (⟨_, _, rfl, rfl, rfl⟩) ?hv766 ?rest766 hck16
        case hv766 =>
         refine ⟨_, rfl, fun hg5 => ?_⟩
         intro E1
         refine (V1.move rfl rfl rfl lt0 ?_)
         exact rfl
        refine VP.step (p := ?pv767) rfl rfl rfl (⟨_, _, rfl, rfl, rfl⟩) ?hv767 ?rest767 hck16
        case hv767 =>
         refine ⟨_, rfl, fun hg5 => ?_⟩
         intro E1
         refine (V1.move rfl rfl rfl lt0 ?_)
         exact rfl
        refine VP.step (p := ?pv768) rfl rfl rfl (⟨_, _, rfl, rfl, _, _, rfl, rfl, rfl⟩) ?hv768 ?rest768 hck16
        case hv768 =>
         refine ⟨_, rfl, fun hg5 => ?_⟩
         intro E1
         refine (V1.indexI rfl rfl esz_47 rfl rfl (hh9 hg5) lt0 ?_)
         exact rfl
        refine VP.step (p := ?pv769) rfl rfl rfl (⟨_, _, rfl, rfl, rfl⟩) ?hv769 ?rest769 hck16
        case hv769 =>
         refine ⟨_, rfl, fun hg5 => ?_⟩
         intro E1
         refine (V1.loadPin rfl rfl tyk_27 rfl rfl lt0 ?_)
         exact rfl
        refine VP.step (p := ?pv770) rfl rfl rfl (⟨_, _, rfl, rfl, rfl⟩) ?hv770 ?rest770 hck16
        case hv770 =>
         refine ⟨_, rfl, fun hg5 => ?_⟩
         intro E1
         refine (V1.lenMap rfl rfl rfl rfl rfl rfl isl_27 lt0 ?_)
         exact rfl
        refine VP.step (p := ?pv771) rfl rfl rfl (⟨_, _, rfl, rfl, rfl⟩) ?hv771 ?rest771 hck16
        case hv771 =>
         refine ⟨_, rfl, fun hg5 => ?_⟩
         intro E1
         refine (V1.int rfl rfl rfl rfl rfl lt0 ?_)
         exact rfl
        refine VP.pickOr rfl rfl rfl rfl rfl rfl (trivial) ?_ hck16
        refine VP.step (p := ?pv772) rfl rfl rfl (⟨_, _, rfl, rfl, rfl⟩) ?hv772 ?rest772 hck16
        case hv772 =>
         intro E1
         refine (V1.move rfl rfl rfl lt0 ?_)
         exact rfl
        refine VP.step (p := ?pv773) rfl rfl rfl (⟨_, _, rfl, rfl, rfl⟩) ?hv773 ?rest773 hck16
        case hv773 =>
         refine ⟨_, rfl, fun hg6 => ?_⟩
         intro E1
         refine (V1.move rfl rfl rfl lt0 ?_)
         exact rfl
        refine VP.step (p := ?pv774) rfl rfl rfl (⟨_, _, rfl, rfl, rfl⟩) ?hv774 ?rest774 hck16
        case hv774 =>
         refine ⟨_, rfl, fun hg6 => ?_⟩
         intro E1
         refine (V1.move rfl rfl rfl lt0 ?_)
         exact rfl
        refine VP.step (p := ?pv775) rfl rfl rfl (⟨_, _, rfl, rfl, _, _, rfl, rfl, rfl⟩) ?hv775 ?rest775 hck16
        case hv775 =>
         refine ⟨_, rfl, fun hg6 => ?_⟩
         intro E1
         refine (V1.indexI rfl rfl esz_47 rfl rfl (hh10 hg6) lt0 ?_)
         exact rfl
        refine VP.step (p := ?pv776) rfl rfl rfl (⟨_, _, rfl, rfl, rfl⟩) ?hv776 ?rest776 hck16
        case hv776 =>
         refine ⟨_, rfl, fun hg6 => ?_⟩
         intro E1
         refine (V1.loadPin rfl rfl tyk_27 rfl rfl lt0 ?_)
         exact rfl
        refine VP.step (p := ?pv777) rfl rfl rfl (⟨_, _, rfl, rfl, rfl⟩) ?hv777 ?rest777 hck16
        case hv777 =>
         refine ⟨_, rfl, fun hg6 => ?_⟩
         intro E1
         refine (V1.indexI rfl rfl esz_27 rfl rfl (hh11 hg6) lt0 ?_)
         exact rfl
        refine VP.step (p := ?pv778) rfl rfl rfl (⟨_, _, rfl, rfl, rfl⟩) ?hv778 ?rest778 hck16
        case hv778 =>
         refine ⟨_, rfl, fun hg6 => ?_⟩
         intro E1
         refine (V1.loadPin rfl rfl tyk_3 rfl rfl lt0 ?_)
         exact rfl
        refine VP.step (p := ?pv779) rfl rfl rfl (⟨_, _, rfl, rfl, rfl⟩) ?hv779 ?rest779 hck16
        case hv779 =>
         refine ⟨_, rfl, fun hg6 => ?_⟩
         intro E1
         refine (V1.move rfl rfl rfl lt0 ?_)
         exact rfl
        refine VP.step (p := ?pv780) rfl rfl rfl (⟨_, _, rfl, rfl, rfl⟩) ?hv780 ?rest780 hck16
        case hv780 =>
         refine ⟨_, rfl, fun hg6 => ?_⟩
         intro E1
         refine (V1.move rfl rfl rfl lt0 ?_)
         exact rfl
        refine VP.step (p := ?pv781) rfl rfl rfl (⟨_, _, rfl, rfl, _, _, rfl, rfl, rfl⟩) ?hv781 ?rest781 hck16
        case hv781 =>
         refine ⟨_, rfl, fun hg6 => ?_⟩
         intro E1
         refine (V1.indexI rfl rfl esz_47 rfl rfl (hh12 hg6) lt0 ?_)
         exact rfl
        refine VP.step (p := ?pv782) rfl rfl rfl (⟨_, _, rfl, rfl, rfl⟩) ?hv782 ?rest782 hck16
        case hv782 =>
         refine ⟨_, rfl, fun hg6 => ?_⟩
         intro E1
         refine (V1.loadPin rfl rfl tyk_27 rfl rfl lt0 ?_)
         exact rfl
        refine VP.step (p := ?pv783) rfl rfl rfl (⟨_, _, rfl, rfl, rfl⟩) ?hv783 ?rest783 hck16
        case hv783 =>
         refine ⟨_, rfl, fun hg6 => ?_⟩
         intro E1
         refine (V1.indexI rfl rfl esz_27 rfl rfl (hh13 hg6) lt0 ?_)
         exact rfl
        refine VP.step (p := ?pv784) rfl rfl rfl (⟨_, _, rfl, rfl, rfl⟩) ?hv784 ?rest784 hck16
        case hv784 =>
         refine ⟨_, rfl, fun hg6 => ?_⟩
         intro E1
         refine (V1.loadPin rfl rfl tyk_3 rfl rfl lt0 ?_)
         exact rfl
        refine VP.step (p := ?pv785) rfl rfl rfl (⟨_, _, rfl, rfl, _, _, rfl, rfl, rfl⟩) ?hv785 ?rest785 hck16
        case hv785 =>
         refine ⟨_, rfl, fun hg6 => ?_⟩
         intro E1
         refine (V1.int rfl rfl rfl rfl rfl lt0 ?_)
         exact rfl
        refine VP.pickOr rfl rfl rfl rfl rfl rfl (trivial) ?_ hck16
        refine VP.step (p := ?pv786) rfl rfl rfl (⟨_, _, rfl, rfl, rfl⟩) ?hv786 ?rest786 hck16
        case hv786 =>
         intro E1
         refine (V1.move rfl rfl rfl lt0 ?_)
         exact rfl
        refine VP.step (p := ?pv787) rfl rfl rfl (⟨_, _, rfl, rfl, rfl⟩) ?hv787 ?rest787 hck16
        case hv787 =>
         refine ⟨_, rfl, fun hg7 => ?_⟩
         intro E1
         refine (V1.move rfl rfl rfl lt0 ?_)
         exact rfl
        refine VP.step (p := ?pv788) rfl rfl rfl (⟨_, _, rfl, rfl, rfl⟩) ?hv788 ?rest788 hck16
        case hv788 =>
         refine ⟨_, rfl, fun hg7 => ?_⟩
         intro E1
         refine (V1.move rfl rfl rfl lt0 ?_)
         exact rfl
        refine VP.step (p := ?pv789) rfl rfl rfl (⟨_, _, rfl, rfl, _, _, rfl, rfl, rfl⟩) ?hv789 ?rest789 hck16
        case hv789 =>
         refine ⟨_, rfl, fun hg7 => ?_⟩
         intro E1
         refine (V1.indexI rfl rfl esz_47 rfl rfl (hh14 hg7) lt0 ?_)
         exact rfl
        refine VP.step (p := ?pv790) rfl rfl rfl (⟨_, _, rfl, rfl, rfl⟩) ?hv790 ?rest790 hck16
        case hv790 =>
         refine ⟨_, rfl, fun hg7 => ?_⟩
         intro E1
         refine (V1.loadPin rfl rfl tyk_27 rfl rfl lt0 ?_)
         exact rfl
        refine VP.step (p := ?pv791) rfl rfl rfl (⟨_, _, rfl, rfl, rfl⟩) ?hv791 ?rest791 hck16
        case hv791 =>
         refine ⟨_, rfl, fun hg7 => ?_⟩
         intro E1
         refine (V1.indexI rfl rfl esz_27 rfl rfl (hh15 hg7) lt0 ?_)
         exact rfl
        refine VP.step (p := ?pv792) rfl rfl rfl (⟨_, _, rfl, rfl, rfl⟩) ?hv792 ?rest792 hck16
        case hv792 =>
         refine ⟨_, rfl, fun hg7 => ?_⟩
         intro E1
         refine (V1.loadPin rfl rfl tyk_3 rfl rfl lt0 ?_)
         exact rfl
        refine VP.step (p := ?pv793) rfl rfl rfl (⟨_, _, rfl, rfl, rfl⟩) ?hv793 ?rest793 hck16
        case hv793 =>
         refine ⟨_, rfl, fun hg7 => ?_⟩
         intro E1
         refine (V1.move rfl rfl rfl lt0 ?_)
         exact rfl
        refine VP.step (p := ?pv794) rfl rfl rfl (⟨_, _, rfl, rfl, rfl⟩) ?hv794 ?rest794 hck16
        case hv794 =>
         refine ⟨_, rfl, fun hg7 => ?_⟩
         intro E1
         refine (V1.move rfl rfl rfl lt0 ?_)
         exact rfl
        refine VP.step (p := ?pv795) rfl rfl rfl (⟨_, _, rfl, rfl, _, _, rfl, rfl, rfl⟩) ?hv795 ?rest795 hck16
        case hv795 =>
         refine ⟨_, rfl, fun hg7 => ?_⟩
         intro E1
         refine (V1.indexI rfl rfl esz_47 rfl rfl (hh16 hg7) lt0 ?_)
         exact rfl
        refine VP.step (p := ?pv796) rfl rfl rfl (⟨_, _, rfl, rfl, rfl⟩) ?hv796 ?rest796 hck16
        case hv796 =>
         refine ⟨_, rfl, fun hg7 => ?_⟩
         intro E1
         refine (V1.loadPin rfl rfl tyk_27 rfl rfl lt0 ?_)
         exact rfl
        refine VP.step (p := ?pv797) rfl rfl rfl (⟨_, _, rfl, rfl, rfl⟩) ?hv797 ?rest797 hck16
        case hv797 =>
         refine ⟨_, rfl, fun hg7 => ?_⟩
         intro E1
         refine (V1.indexI rfl rfl esz_27 rfl rfl (hh17 hg7) lt0 ?_)
         exact rfl
        refine VP.step (p := ?pv798) rfl rfl rfl (⟨_, _, rfl, rfl, rfl⟩) ?hv798 ?rest798 hck16
        case hv798 =>
         refine ⟨_, rfl, fun hg7 => ?_⟩
         intro E1
         refine (V1.loadPin rfl rfl tyk_3 rfl rfl lt0 ?_)
         exact rfl
        refine VP.step (p := ?pv799) rfl rfl rfl (⟨_, _, rfl, rfl, _, _, rfl, rfl, rfl⟩) ?hv799 ?rest799 hck16
        case hv799 =>
         refine ⟨_, rfl, fun hg7 => ?_⟩
         intro E1
         refine (V1.int rfl rfl rfl rfl rfl lt0 ?_)
         exact rfl
        refine VP.pickOr rfl rfl rfl rfl rfl rfl (trivial) ?_ hck16
        refine VP.fin rfl (⟨_, _, rfl, rfl, _, _, rfl, rfl, _, _, rfl, rfl, _, _, rfl, rfl, _, _, rfl, rfl, rfl⟩) ?_
        refine VO.nil ?_
        refine V.cond rfl (fun hc5 => ?_) (fun hc5 => ?_)
        ·
         replace hm2 := cond_t hc5 hm2
         refine V.seq ?_
         refine V.region ?_
         refine VO.cons rfl (V1.assign rfl rfl rfl lt0 ?_)
         refine VO.nil ?_
         refine V.ret ?_
         obtain rfl := hr2 _ (Option.some.inj hm2).symm
         change some _ = some _ at hm1
         obtain rfl := Option.some.inj hm1
         change some _ = some _ at hm0
         obtain rfl := Option.some.inj hm0
         exact ⟨_, [], ⟨_, _, rfl, rfl, rfl⟩, List.nil_sublist _, rfl, rfl⟩
        ·
         replace hm2 := cond_f hc5 hm2
         refine V.skip ?_
         refine V.region ?_
         refine VO.cons rfl (V1.move rfl rfl rfl lt0 ?_)
         refine VO.cons rfl (V1.int rfl rfl rfl rfl rfl lt0 ?_)
         refine VO.cons rfl (V1.assign rfl rfl rfl lt0 ?_)
         refine VO.nil ?_
         exact ⟨(m0, (IntKind.i64.wrap (i + (1 : Int))), ()), hl2 _ (Option.some.inj hm2).symm, Nat.lt_succ_self _, Keeps.mk (ks := []) rfl ⟨rfl, rfl, rfl, rfl, trivial⟩ (rfl) rfl⟩
       ·
        replace hm2 := cond_f hc4 hm2
        refine V.exit ?_
        obtain rfl := hr2 _ (Option.some.inj hm2).symm
        exact ⟨((), ()), rfl, Keeps.mk (ks := []) rfl ⟨rfl, trivial⟩ (rfl) rfl⟩
      ·
       rintro ⟨_, _⟩ rfl
       try dsimp only at hm1
       exact ⟨((), ()), Option.some.inj hm1, Keeps.mk (ks := []) rfl ⟨rfl, trivial⟩ (rfl) rfl⟩
    ·
     replace hm1 := cond_f hc2 hm1
     refine V.skip ?_
     exact ⟨((), ()), Option.some.inj hm1, Keeps.mk (ks := []) rfl ⟨rfl, trivial⟩ (rfl) rfl⟩
   ·
    rintro ⟨_, _⟩ rfl
    try dsimp only at hm0
    refine V.seq ?_
    replace hm0 := bindO hm0; rcases hm0 with ⟨y9, hh18, hm0⟩
    refine V.region ?_
    refine VO.cons rfl (V1.move rfl rfl rfl lt0 ?_)
    refine VO.cons rfl (V1.call rfl rfl rfl cok_26 rfl (ok_spec_DrawClosedSince hh18) rfl lt0 ?_)
    rintro _ _ ⟨b2, rfl, rfl⟩
    refine VO.cons rfl (V1.move rfl rfl rfl lt0 ?_)
    refine VO.cons rfl (V1.extract rfl rfl rfl rfl lt0 ?_)
    refine VO.weakenK (Keeps.freezeG 0 rn [(162, .vl rn 7 (List.map encFile y9.1))] ([]) (f := encFile) (l := y9.1) rfl (fun _ => rfl) ⟨⟨_, rfl, .here⟩, trivial⟩ rfl rfl iNil) ?_
    refine VO.cons rfl (V1.extract rfl rfl rfl rfl lt0 ?_)
    refine VO.cons rfl (V1.extract rfl rfl rfl rfl lt0 ?_)
    refine VO.cons rfl (V1.assign rfl rfl rfl lt0 ?_)
    refine VO.cons rfl (V1.assign rfl rfl rfl lt0 ?_)
    refine VO.cons rfl (V1.assign rfl rfl rfl lt0 ?_)
    refine VO.nil ?_
    refine V.keep 261 [0, 18, 19, 20] [] (E0 := [(0, .vl ρ0 1 (List.map encU8 code)), (18, .vl rn 7 (List.map encFile y9.1)), (19, .int .i64 y9.2.1), (20, .int .i64 y9.2.2)]) (H0 := []) rfl (⟨_, _, rfl, rfl, _, _, rfl, rfl, _, _, rfl, rfl, _, _, rfl, rfl, rfl⟩) (rfl) rfl ?_
    refine V.seq ?_
    replace hm0 := bindO hm0; rcases hm0 with ⟨y10, hh19, hm0⟩
    refine V.region ?_
    refine VO.cons rfl (V1.move rfl rfl rfl lt0 ?_)
    refine VO.cons rfl (V1.move rfl rfl rfl lt0 ?_)
    refine VO.cons rfl (V1.move rfl rfl rfl lt0 ?_)
    refine VO.cons rfl (V1.permK (V1.call rfl rfl rfl cok_27 rfl (ok_impl_ClosedSince hh19) rfl lt0 ?_))
    rintro _ _ ⟨ob3, hob3, rfl, rfl⟩
    refine ⟨_, ?_, Keeps.optBack (n := 1) (ob := ob3) (xs := List.map encInt y10.1) (H1 := []) (H2 := []) rfl⟩
    refine VO.cons rfl (V1.move rfl rfl rfl lt0 ?_)
    refine VO.cons rfl (V1.extract rfl rfl rfl rfl lt0 ?_)
    refine VO.weakenK (Keeps.optFront (n := 1) (ob := ob3) (xs := (List.map encInt y10.1)) (H1 := []) rfl) ?_
    refine VO.weakenK (Keeps.optVl 170 [] rn (f := encInt) (l := y10.1) (ob := ob3) (H1 := []) hob3 rfl rfl ⟨rfl, trivial⟩ (fun _ => rfl) rfl iNil) ?_
    refine VO.cons rfl (V1.extract rfl rfl rfl rfl lt0 ?_)
    refine VO.cons rfl (V1.assign rfl rfl rfl lt0 ?_)
    refine VO.cons rfl (V1.assign rfl rfl rfl lt0 ?_)
    refine VO.nil ?_
    refine V.keep 261 [0, 18, 19, 20, 21, 22] [] (E0 := [(0, .vl ρ0 1 (List.map encU8 code)), (18, .vl rn 7 (List.map encFile y9.1)), (19, .int .i64 y9.2.1), (20, .int .i64 y9.2.2), (21, .vl rn 1 (List.map encInt y10.1)), (22, .bool y10.2)]) (H0 := []) rfl (⟨_, _, rfl, rfl, _, _, rfl, rfl, _, _, rfl, rfl, _, _, rfl, rfl, _, _, rfl, rfl, _, _, rfl, rfl, rfl⟩) (rfl) rfl ?_
    refine V.seq ?_
    refine V.seq ?_
    replace hm0 := bindO hm0; rcases hm0 with ⟨y11, hh20, hm0⟩
    refine V.region ?_
    refine VO.cons rfl (V1.move rfl rfl rfl lt0 ?_)
    refine VO.cons rfl (V1.move rfl rfl rfl lt0 ?_)
    refine VO.cons rfl (V1.move rfl rfl rfl lt0 ?_)
    refine VO.cons rfl (V1.call rfl rfl rfl cok_28 rfl (ok_spec_ClosedSince hh20) rfl lt0 ?_)
    rintro _ _ ⟨b3, rfl, rfl⟩
    refine VO.cons rfl (V1.move rfl rfl rfl lt0 ?_)
    refine VO.cons rfl (V1.extract rfl rfl rfl rfl lt0 ?_)
    refine VO.weakenK (Keeps.freezeG 0 rn [(177, .vl rn 1 (List.map encInt y11.1))] ([]) (f := encInt) (l := y11.1) rfl (fun _ => rfl) ⟨⟨_, rfl, .here⟩, trivial⟩ rfl rfl iNil) ?_
    refine VO.cons rfl (V1.extract rfl rfl rfl rfl lt0 ?_)
    refine VO.cons rfl (V1.assign rfl rfl rfl lt0 ?_)
    refine VO.cons rfl (V1.assign rfl rfl rfl lt0 ?_)
    refine VO.nil ?_
    refine V.keep 261 [0, 18, 20, 21, 22, 23, 24] [] (E0 := [(0, .vl ρ0 1 (List.map encU8 code)), (18, .vl rn 7 (List.map encFile y9.1)), (20, .int .i64 y9.2.2), (21, .vl rn 1 (List.map encInt y10.1)), (22, .bool y10.2), (23, .vl rn 1 (List.map encInt y11.1)), (24, .bool y11.2)]) (H0 := []) rfl (⟨_, _, rfl, rfl, _, _, rfl, rfl, _, _, rfl, rfl, _, _, rfl, rfl, _, _, rfl, rfl, _, _, rfl, rfl, _, _, rfl, rfl, rfl⟩) (rfl) rfl ?_
    refine V.seq ?_
    replace hm0 := bindO hm0; rcases hm0 with ⟨y12, hh21, hm0⟩
    refine V.region ?_
    refine VO.cons rfl (V1.move rfl rfl rfl lt0 ?_)
    refine VO.cons rfl (V1.move rfl rfl rfl lt0 ?_)
    refine VO.cons rfl (V1.boolNeq rfl rfl und_4 rfl rfl lt0 ?_)
    refine VO.cons rfl (V1.move rfl rfl rfl lt0 ?_)
    apply VO.or (n := 4) rfl rfl rfl rfl rfl rfl lt0 (.none rfl)
    ·
     intro hg8
     refine VO.step (.some rfl rfl rfl) (V1.move rfl rfl rfl lt0 ?_)
     refine VO.step (.some rfl rfl rfl) (V1.move rfl rfl rfl lt0 ?_)
     refine VO.step (.some rfl rfl rfl) (V1.call rfl rfl rfl cok_10 rfl (ok_laws_rInts (cond_f hg8 hh21)) rfl lt0 ?_)
     rintro _ _ ⟨rfl, rfl⟩
     refine VO.step (.some rfl rfl rfl) (V1.not rfl rfl rfl lt0 ?_)
     exact VO.nil ⟨rfl, rfl, rfl, rfl, .inr ⟨rfl, .inr ⟨rfl, .inr ⟨rfl, .inr ⟨rfl, .inr ⟨rfl, .inl rfl⟩⟩⟩⟩⟩⟩
    refine VO.nil ?_
    refine V.keep 261 [0, 18, 20, 21, 22, 187] [] (E0 := [(0, .vl ρ0 1 (List.map encU8 code)), (18, .vl rn 7 (List.map encFile y9.1)), (20, .int .i64 y9.2.2), (21, .vl rn 1 (List.map encInt y10.1)), (22, .bool y10.2), (187, .bool ((!(y10.2 == y11.2)) || (!y12)))]) (H0 := []) rfl (⟨_, _, rfl, rfl, _, _, rfl, rfl, _, _, rfl, rfl, _, _, rfl, rfl, _, _, rfl, rfl, _, _, rfl, rfl, rfl⟩) (rfl) rfl ?_
    refine V.cond rfl (fun hc6 => ?_) (fun hc6 => ?_)
    ·
     replace hm0 := cond_t hc6 hm0
     refine V.seq ?_
     refine V.region ?_
     refine VO.cons rfl (V1.assign rfl rfl rfl lt0 ?_)
     refine VO.nil ?_
     refine V.ret ?_
     obtain rfl := Option.some.inj hm0
     exact ⟨_, [], ⟨_, _, rfl, rfl, rfl⟩, List.nil_sublist _, rfl, rfl⟩
    ·
     replace hm0 := cond_f hc6 hm0
     refine V.skip ?_
     refine V.seq ?_
     refine V.seq ?_
     replace hm0 := bindO hm0; rcases hm0 with ⟨y13, hh22, hm0⟩
     refine V.region ?_
     refine VO.cons rfl (V1.move rfl rfl rfl lt0 ?_)
     refine VO.cons rfl (V1.move rfl rfl rfl lt0 ?_)
     refine VO.cons rfl (V1.permK (V1.call rfl rfl rfl cok_27 rfl (ok_impl_ClosedSince hh22) rfl lt0 ?_))
     rintro _ _ ⟨ob4, hob4, rfl, rfl⟩
     refine ⟨_, ?_, Keeps.optBack (n := 1) (ob := ob4) (xs := List.map encInt y13.1) (H1 := []) (H2 := []) rfl⟩
     refine VO.cons rfl (V1.move rfl rfl rfl lt0 ?_)
     refine VO.cons rfl (V1.extract rfl rfl rfl rfl lt0 ?_)
     refine VO.weakenK (Keeps.optFront (n := 1) (ob := ob4) (xs := (List.map encInt y13.1)) (H1 := []) rfl) ?_
     refine VO.weakenK (Keeps.optVl 192 [] rn (f := encInt) (l := y13.1) (ob := ob4) (H1 := []) hob4 rfl rfl ⟨rfl, trivial⟩ (fun _ => rfl) rfl iNil) ?_
     refine VO.cons rfl (V1.extract rfl rfl rfl rfl lt0 ?_)
     refine VO.cons rfl (V1.assign rfl rfl rfl lt0 ?_)
     refine VO.cons rfl (V1.assign rfl rfl rfl lt0 ?_)
     refine VO.nil ?_
     refine V.keep 261 [0, 21, 22, 25, 26] [] (E0 := [(0, .vl ρ0 1 (List.map encU8 code)), (21, .vl rn 1 (List.map encInt y10.1)), (22, .bool y10.2), (25, .vl rn 1 (List.map encInt y13.1)), (26, .bool y13.2)]) (H0 := []) rfl (⟨_, _, rfl, rfl, _, _, rfl, rfl, _, _, rfl, rfl, _, _, rfl, rfl, _, _, rfl, rfl, rfl⟩) (rfl) rfl ?_
     refine V.seq ?_
     refine V.region ?_
     refine VO.cons rfl (V1.move rfl rfl rfl lt0 ?_)
     refine VO.cons rfl (V1.move rfl rfl rfl lt0 ?_)
     apply VO.and (n := 9) rfl rfl rfl rfl rfl rfl lt0 (.none rfl)
     ·
      intro hg9
      refine VO.step (.some rfl rfl rfl) (V1.move rfl rfl rfl lt0 ?_)
      refine VO.step (.some rfl rfl rfl) (V1.not rfl rfl rfl lt0 ?_)
      refine VO.step (.some rfl rfl rfl) (V1.move rfl rfl rfl lt0 ?_)
      apply VO.or (n := 5) rfl rfl rfl rfl rfl rfl lt0 (.some rfl rfl rfl)
      ·
       intro hg10
       refine VO.step (.some rfl rfl rfl) (V1.move rfl rfl rfl lt0 ?_)
       refine VO.step (.some rfl rfl rfl) (V1.lenMap rfl rfl rfl rfl rfl rfl isl_27 lt0 ?_)
       refine VO.step (.some rfl rfl rfl) (V1.move rfl rfl rfl lt0 ?_)
       refine VO.step (.some rfl rfl rfl) (V1.lenMap rfl rfl rfl rfl rfl rfl isl_27 lt0 ?_)
       refine VO.step (.some rfl rfl rfl) (V1.int rfl rfl rfl rfl rfl lt0 ?_)
       exact VO.nil ⟨rfl, rfl, rfl, rfl, .inr ⟨rfl, .inr ⟨rfl, .inr ⟨rfl, .inr ⟨rfl, .inr ⟨rfl, .inr ⟨rfl, .inl rfl⟩⟩⟩⟩⟩⟩⟩
      exact VO.nil ⟨rfl, rfl, rfl, rfl, .inr ⟨rfl, .inr ⟨rfl, .inr ⟨rfl, .inr ⟨rfl, .inr ⟨rfl, .inl rfl⟩⟩⟩⟩⟩⟩
     refine VO.nil ?_
     refine V.keep 261 [0, 205] [] (E0 := [(0, .vl ρ0 1 (List.map encU8 code)), (205, .bool (y10.2 && ((!y13.2) || (decide ((y13.1.length : Int) < (y10.1.length : Int))))))]) (H0 := []) rfl (⟨_, _, rfl, rfl, _, _, rfl, rfl, rfl⟩) (rfl) rfl ?_
     refine V.cond rfl (fun hc7 => ?_) (fun hc7 => ?_)
     ·
      replace hm0 := cond_t hc7 hm0
      refine V.seq ?_
      refine V.region ?_
      refine VO.cons rfl (V1.assign rfl rfl rfl lt0 ?_)
      refine VO.nil ?_
      refine V.ret ?_
      obtain rfl := Option.some.inj hm0
      exact ⟨_, [], ⟨_, _, rfl, rfl, rfl⟩, List.nil_sublist _, rfl, rfl⟩
     ·
      replace hm0 := cond_f hc7 hm0
      refine V.skip ?_
      refine V.seq ?_
      replace hm0 := bindO hm0; rcases hm0 with ⟨y14, hh23, hm0⟩
      refine V.region ?_
      refine VO.cons rfl (V1.move rfl rfl rfl lt0 ?_)
      refine VO.cons rfl (V1.call rfl rfl rfl cok_29 rfl (ok_spec_DrawAddPages hh23) rfl lt0 ?_)
      rintro _ _ ⟨b4, rfl, rfl⟩
      refine VO.cons rfl (V1.move rfl rfl rfl lt0 ?_)
      refine VO.cons rfl (V1.extract rfl rfl rfl rfl lt0 ?_)
      refine VO.weakenK (Keeps.freezeG 0 rn [(209, .vl rn 7 (List.map encFile y14.1))] ([]) (f := encFile) (l := y14.1) rfl (fun _ => rfl) ⟨⟨_, rfl, .here⟩, trivial⟩ rfl rfl iNil) ?_
      refine VO.cons rfl (V1.extract rfl rfl rfl rfl lt0 ?_)
      refine VO.cons rfl (V1.extract rfl rfl rfl rfl lt0 ?_)
      refine VO.cons rfl (V1.assign rfl rfl rfl lt0 ?_)
      refine VO.cons rfl (V1.assign rfl rfl rfl lt0 ?_)
      refine VO.cons rfl (V1.assign rfl rfl rfl lt0 ?_)
      refine VO.nil ?_
      refine V.keep 261 [0, 27, 28, 29] [] (E0 := [(0, .vl ρ0 1 (List.map encU8 code)), (27, .vl rn 7 (List.map encFile y14.1)), (28, .int .i64 y14.2.1), (29, .int .i64 y14.2.2)]) (H0 := []) rfl (⟨_, _, rfl, rfl, _, _, rfl, rfl, _, _, rfl, rfl, _, _, rfl, rfl, rfl⟩) (rfl) rfl ?_
      refine V.seq ?_
      replace hm0 := bindO hm0; rcases hm0 with ⟨y15, hh24, hm0⟩
      refine V.region ?_
      refine VO.cons rfl (V1.move rfl rfl rfl lt0 ?_)
      refine VO.cons rfl (V1.move rfl rfl rfl lt0 ?_)
      refine VO.cons rfl (V1.move rfl rfl rfl lt0 ?_)
      refine VO.cons rfl (V1.permK (V1.call rfl rfl rfl cok_30 rfl (ok_impl_AddPages hh24) rfl lt0 ?_))
      rintro _ _ ⟨ob5, hob5, rfl, rfl⟩
      refine ⟨_, ?_, Keeps.optBack (n := 7) (ob := ob5) (xs := List.map encFile y15.1) (H1 := []) (H2 := []) rfl⟩
      refine VO.cons rfl (V1.move rfl rfl rfl lt0 ?_)
      refine VO.cons rfl (V1.extract rfl rfl rfl rfl lt0 ?_)
      refine VO.weakenK (Keeps.optFront (n := 7) (ob := ob5) (xs := (List.map encFile y15.1)) (H1 := []) rfl) ?_
      refine VO.weakenK (Keeps.optVl 217 [] rn (f := encFile) (l := y15.1) (ob := ob5) (H1 := []) hob5 rfl rfl ⟨rfl, trivial⟩ (fun _ => rfl) rfl iNil) ?_
      refine VO.cons rfl (V1.extract rfl rfl rfl rfl lt0 ?_)
      refine VO.cons rfl (V1.assign rfl rfl rfl lt0 ?_)
      refine VO.cons rfl (V1.assign rfl rfl rfl lt0 ?_)
      refine VO.nil ?_
      refine V.keep 261 [0, 27, 28, 29, 30, 31] [] (E0 := [(0, .vl ρ0 1 (List.map encU8 code)), (27, .vl rn 7 (List.map encFile y14.1)), (28, .int .i64 y14.2.1), (29, .int .i64 y14.2.2), (30, .vl rn 7 (List.map encFile y15.1)), (31, .bool y15.2)]) (H0 := []) rfl (⟨_, _, rfl, rfl, _, _, rfl, rfl, _, _, rfl, rfl, _, _, rfl, rfl, _, _, rfl, rfl, _, _, rfl, rfl, rfl⟩) (rfl) rfl ?_
      refine V.seq ?_
      refine V.seq ?_
      replace hm0 := bindO hm0; rcases hm0 with ⟨y16, hh25, hm0⟩
      refine V.region ?_
      refine VO.cons rfl (V1.move rfl rfl rfl lt0 ?_)
      refine VO.cons rfl (V1.move rfl rfl rfl lt0 ?_)
      refine VO.cons rfl (V1.move rfl rfl rfl lt0 ?_)
      refine VO.cons rfl (V1.call rfl rfl rfl cok_31 rfl (ok_spec_AddPages hh25) rfl lt0 ?_)
      rintro _ _ ⟨b5, rfl, rfl⟩
      refine VO.cons rfl (V1.move rfl rfl rfl lt0 ?_)
      refine VO.cons rfl (V1.extract rfl rfl rfl rfl lt0 ?_)
      refine VO.weakenK (Keeps.freezeG 0 rn [(224, .vl rn 7 (List.map encFile y16.1))] ([]) (f := encFile) (l := y16.1) rfl (fun _ => rfl) ⟨⟨_, rfl, .here⟩, trivial⟩ rfl rfl iNil) ?_
      refine VO.cons rfl (V1.extract rfl rfl rfl rfl lt0 ?_)
      refine VO.cons rfl (V1.assign rfl rfl rfl lt0 ?_)
      refine VO.cons rfl (V1.assign rfl rfl rfl lt0 ?_)
      refine VO.nil ?_
      refine V.keep 261 [0, 30, 31, 32, 33] [] (E0 := [(0, .vl ρ0 1 (List.map encU8 code)), (30, .vl rn 7 (List.map encFile y15.1)), (31, .bool y15.2), (32, .vl rn 7 (List.map encFile y16.1)), (33, .bool y16.2)]) (H0 := []) rfl (⟨_, _, rfl, rfl, _, _, rfl, rfl, _, _, rfl, rfl, _, _, rfl, rfl, _, _, rfl, rfl, rfl⟩) (rfl) rfl ?_
      refine V.seq ?_
      replace hm0 := bindO hm0; rcases hm0 with ⟨y17, hh26, hm0⟩
      refine V.region ?_
      refine VO.cons rfl (V1.move rfl rfl rfl lt0 ?_)
      refine VO.cons rfl (V1.move rfl rfl rfl lt0 ?_)
      refine VO.cons rfl (V1.boolNeq rfl rfl und_4 rfl rfl lt0 ?_)
      refine VO.cons rfl (V1.move rfl rfl rfl lt0 ?_)
      apply VO.or (n := 4) rfl rfl rfl rfl rfl rfl lt0 (.none rfl)
      ·
       intro hg11
       refine VO.step (.some rfl rfl rfl) (V1.move rfl rfl rfl lt0 ?_)
       refine VO.step (.some rfl rfl rfl) (V1.move rfl rfl rfl lt0 ?_)
       refine VO.step (.some rfl rfl rfl) (V1.call rfl rfl rfl cok_23 rfl (ok_laws_rFiles (cond_f hg11 hh26)) rfl lt0 ?_)
       rintro _ _ ⟨rfl, rfl⟩
       refine VO.step (.some rfl rfl rfl) (V1.not rfl rfl rfl lt0 ?_)
       exact VO.nil ⟨rfl, rfl, rfl, rfl, .inr ⟨rfl, .inr ⟨rfl, .inr ⟨rfl, .inr ⟨rfl, .inr ⟨rfl, .inl rfl⟩⟩⟩⟩⟩⟩
      refine VO.nil ?_
      refine V.keep 261 [0, 234] [] (E0 := [(0, .vl ρ0 1 (List.map encU8 code)), (234, .bool ((!(y15.2 == y16.2)) || (!y17)))]) (H0 := []) rfl (⟨_, _, rfl, rfl, _, _, rfl, rfl, rfl⟩) (rfl) rfl ?_
      refine V.cond rfl (fun hc8 => ?_) (fun hc8 => ?_)
      ·
       replace hm0 := cond_t hc8 hm0
       refine V.seq ?_
       refine V.region ?_
       refine VO.cons rfl (V1.assign rfl rfl rfl lt0 ?_)
       refine VO.nil ?_
       refine V.ret ?_
       obtain rfl := Option.some.inj hm0
       exact ⟨_, [], ⟨_, _, rfl, rfl, rfl⟩, List.nil_sublist _, rfl, rfl⟩
      ·
       replace hm0 := cond_f hc8 hm0
       refine V.skip ?_
       refine V.seq ?_
       replace hm0 := bindO hm0; rcases hm0 with ⟨y18, hh27, hm0⟩
       refine V.region ?_
       refine VO.cons rfl (V1.move rfl rfl rfl lt0 ?_)
       refine VO.cons rfl (V1.call rfl rfl rfl cok_32 rfl (ok_spec_DrawSeriesPages hh27) rfl lt0 ?_)
       rintro _ _ ⟨b6, rfl, rfl⟩
       refine VO.weakenK (Keeps.freezeG 0 rn [(236, .vl rn 7 (List.map encFile y18))] ([]) (f := encFile) (l := y18) rfl (fun _ => rfl) ⟨⟨_, rfl, .here⟩, trivial⟩ rfl rfl iNil) ?_
       refine VO.cons rfl (V1.assign rfl rfl rfl lt0 ?_)
       refine VO.nil ?_
       refine V.keep 261 [34] [] (E0 := [(34, .vl rn 7 (List.map encFile y18))]) (H0 := []) rfl (⟨_, _, rfl, rfl, rfl⟩) (rfl) rfl ?_
       refine V.seq ?_
       replace hm0 := bindO hm0; rcases hm0 with ⟨y19, hh28, hm0⟩
       refine V.region ?_
       refine VO.cons rfl (V1.move rfl rfl rfl lt0 ?_)
       refine VO.cons rfl (V1.permK (V1.call rfl rfl rfl cok_24 rfl (ok_impl_SeriesPages hh28) rfl lt0 ?_))
       rintro _ _ ⟨ob6, ts_809, os_809, hob6, hd_809, rfl, rfl⟩
       refine ⟨_, ?_, Keeps.perm (optH 1 ob6 (deepC (cellRow (β := Int)) ts_809 y19.1) ++ (([] : List (Nat × Obj')) ++ os_809)) (permDeepO1 (o := optH 1 ob6 (deepC (cellRow (β := Int)) ts_809 y19.1)) (os := os_809) (A := []))⟩
       refine VO.cons rfl (V1.move rfl rfl rfl lt0 ?_)
       refine VO.cons rfl (V1.extract rfl rfl rfl rfl lt0 ?_)
       refine VO.weakenK (Keeps.frzDeepO (A := []) (os := os_809) (xs := y19.1) (enc := (encL rn 1 encInt)) (cokRow 1 encInt) 240 hob6 hd_809 rfl rfl (fun _ => roL_map (fun _ => rfl) _) (fun _ => rfl) rfl rfl iNil) ?_
       refine VO.cons rfl (V1.extract rfl rfl rfl rfl lt0 ?_)
       refine VO.cons rfl (V1.assign rfl rfl rfl lt0 ?_)
       refine VO.cons rfl (V1.assign rfl rfl rfl lt0 ?_)
       refine VO.nil ?_
       refine V.keep 261 [34, 35, 36] [] (E0 := [(34, .vl rn 7 (List.map encFile y18)), (35, .vl rn 1 (List.map (encL rn 1 encInt) y19.1)), (36, .bool y19.2)]) (H0 := []) rfl (⟨_, _, rfl, rfl, _, _, rfl, rfl, _, _, rfl, rfl, rfl⟩) (rfl) rfl ?_
       refine V.seq ?_
       replace hm0 := bindO hm0; rcases hm0 with ⟨y20, hh29, hm0⟩
       refine V.region ?_
       refine VO.cons rfl (V1.move rfl rfl rfl lt0 ?_)
       refine VO.cons rfl (V1.call rfl rfl rfl cok_33 rfl (ok_spec_SeriesPages hh29) rfl lt0 ?_)
       rintro _ _ ⟨b7, rfl, rfl⟩
       refine VO.cons rfl (V1.move rfl rfl rfl lt0 ?_)
       refine VO.cons rfl (V1.extract rfl rfl rfl rfl lt0 ?_)
       refine VO.weakenK (Keeps.freezeG 0 rn [(245, .vl rn 1 (List.map (encL rn 1 encInt) y20.1))] ([]) (f := (encL rn 1 encInt)) (l := y20.1) rfl (fun _ => rfl) ⟨⟨_, rfl, .here⟩, trivial⟩ rfl rfl iNil) ?_
       refine VO.cons rfl (V1.extract rfl rfl rfl rfl lt0 ?_)
       refine VO.cons rfl (V1.assign rfl rfl rfl lt0 ?_)
       refine VO.cons rfl (V1.assign rfl rfl rfl lt0 ?_)
       refine VO.nil ?_
       refine V.keep 261 [34, 35, 36, 37, 38] [] (E0 := [(34, .vl rn 7 (List.map encFile y18)), (35, .vl rn 1 (List.map (encL rn 1 encInt) y19.1)), (36, .bool y19.2), (37, .vl rn 1 (List.map (encL rn 1 encInt) y20.1)), (38, .bool y20.2)]) (H0 := []) rfl (⟨_, _, rfl, rfl, _, _, rfl, rfl, _, _, rfl, rfl, _, _, rfl, rfl, _, _, rfl, rfl, rfl⟩) (rfl) rfl ?_
       refine V.seq ?_
       replace hm0 := bindO hm0; rcases hm0 with ⟨y21, hh30, hm0⟩
       replace hm0 := bindO hm0; rcases hm0 with ⟨y22, hh31, hm0⟩
       refine V.region ?_
       refine VO.cons rfl (V1.move rfl rfl rfl lt0 ?_)
       refine VO.cons rfl (V1.move rfl rfl rfl lt0 ?_)
       refine VO.cons rfl (V1.boolEql rfl rfl und_4 rfl rfl lt0 ?_)
       refine VO.cons rfl (V1.move rfl rfl rfl lt0 ?_)
       apply VO.and (n := 3) rfl rfl rfl rfl rfl rfl lt0 (.none rfl)
       ·
        intro hg12
        refine VO.step (.some rfl rfl rfl) (V1.move rfl rfl rfl lt0 ?_)
        refine VO.step (.some rfl rfl rfl) (V1.move rfl rfl rfl lt0 ?_)
        refine VO.step (.some rfl rfl rfl) (V1.call rfl rfl rfl cok_34 rfl (ok_laws_rTable (cond_t hg12 hh30)) rfl lt0 ?_)
        rintro _ _ ⟨rfl, rfl⟩
        exact VO.nil ⟨rfl, rfl, rfl, rfl, .inr ⟨rfl, .inr ⟨rfl, .inr ⟨rfl, .inr ⟨rfl, .inl rfl⟩⟩⟩⟩⟩
       refine VO.cons rfl (V1.move rfl rfl rfl lt0 ?_)
       apply VO.and (n := 4) rfl rfl rfl rfl rfl rfl lt0 (.none rfl)
       ·
        intro hg13
        refine VO.step (.some rfl rfl rfl) (V1.move rfl rfl rfl lt0 ?_)
        refine VO.step (.some rfl rfl rfl) (V1.move rfl rfl rfl lt0 ?_)
        refine VO.step (.some rfl rfl rfl) (V1.call rfl rfl rfl cok_25 rfl (ok_impl_AreFiles (cond_t hg13 hh31)) rfl lt0 ?_)
        rintro _ _ ⟨rfl, rfl⟩
        refine VO.step (.some rfl rfl rfl) (V1.boolEql rfl rfl und_4 rfl rfl lt0 ?_)
        exact VO.nil ⟨rfl, rfl, rfl, rfl, .inr ⟨rfl, .inr ⟨rfl, .inr ⟨rfl, .inr ⟨rfl, .inr ⟨rfl, .inl rfl⟩⟩⟩⟩⟩⟩
       refine VO.cons rfl (V1.assign rfl rfl rfl lt0 ?_)
       refine VO.nil ?_
       refine V.ret ?_
       obtain rfl := Option.some.inj hm0
       exact ⟨_, [], ⟨_, _, rfl, rfl, rfl⟩, List.nil_sublist _, rfl, rfl⟩
end Go.Proofs.YteocnbeefedbkaaDoor
